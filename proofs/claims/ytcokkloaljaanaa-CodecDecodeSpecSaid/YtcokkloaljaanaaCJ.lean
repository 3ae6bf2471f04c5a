/-
  Contracts of Few of the reference, and of few of the laws' file. No condition.
-/
import Derived.Test.YtcokkloaljaanaaCG
namespace Go.Proofs.Ytcokkloaljaanaa
open Go.RowKit

def fewV (x : Val) : Bool := decide (x.cnt 21 ≤ 200)
theorem rFew_any (d : Nat) (x : Val) (L : Value) (w : World) (hV : ValsAt w w.heap.size d L x.elems) (hx : x.fits) :
    Calls Try.prog 25 #[x.v L, .int .i64 20] w fun e w' => e = .returned (.bool (fewV x)) ∧ Below w.heap.size w w' := by
  obtain ⟨A, c, rfl, hm⟩ := hV.form
  have hst := (Below.refl w.heap.size w).alloc (Nat.le_refl _) (.cells #[.int .i64 x.kind, .int .i64 x.num, .string (strB x.str), .slice A x.elems.length c] 24)
  have H := CountR.all 21 (by decide) d x _ _ (hV.later hst) hx
  have ST := Lib.hid hst
  clear hst
  rw [show ((21 : Nat) : Int) - 1 = 20 from rfl] at H
  have hb := cnt_bound 21 x hx
  rw [fewV]
  have HC := Lib.hid H
  clear H hV hx
  dsimp only [Val.v] at HC ST ⊢
  generalize x.cnt 21 = cn at HC hb ⊢
  generalize x.kind = ak, x.num = an, strB x.str = as', x.elems.length = al at HC ST ⊢
  have hd : decide (cn ≤ 200) = decide ((cn : Int) ≤ 200) := decide_eq_decide.2 (by omega)
  rw [hd]
  clear hd
  go_enter Try.func25, Try.ntmps25
  go_wp2_with fail
  refine HC.out.mono ?_
  rintro e w1 ⟨rfl, hb1⟩
  have hB := Lib.hid (ST.out.trans (hb1.mono (by simp)))
  clear hb1 HC ST
  go_wp2
  go_ret
  exact ⟨rfl, hB.out⟩

theorem all_take {p : Val → Bool} {l : List Val} {k : Nat} (h : (l.take k).all p = false) : l.all p = false := by
  have e : l.all p = ((l.take k).all p && (l.drop k).all p) := by rw [← List.all_append, List.take_append_drop]
  rw [e, h, Bool.false_and]

set_option maxRecDepth 100000 in
set_option maxHeartbeats 4000000 in
theorem few_any (d : Nat) (l : List Val) (L : Value) (w : World) (hV : ValsAt w w.heap.size d L l) (hx : fitsL l) (rb : Bool) (hr : Hid (l.all fewV = rb)) :
    Calls Try.prog 11 #[L] w fun e w' => e = .returned (.bool rb) ∧ Below w.heap.size w w' := by
  obtain ⟨A, c, rfl, hm⟩ := hV.form
  unfold maxLen at hm
  obtain ⟨n, hn⟩ : ∃ n, l.length = n := ⟨_, rfl⟩
  rw [hn] at hm hV ⊢
  have HN := Lib.hid hn
  have HV := Lib.hid hV
  have HX := Lib.hid hx
  have hB := Below.refl w.heap.size w
  clear hn hV hx
  go_enter Try.func11, Try.ntmps11
  go_wp2
  go_loopw [7] (fun i wr => ∃ k : Nat, k ≤ n ∧ i = .int .i64 k ∧ Hid ((l.take k).all fewV = true) ∧ Below w.heap.size w wr) (fun i _ => n - (intOf i).toNat)
  case atStart => exact ⟨0, Nat.zero_le _, rfl, Lib.hid rfl, hB⟩
  case round =>
    clear hB
    obtain ⟨k, hk, rfl, hp, hB⟩ := hrel
    by_cases hlt : k < n
    · have hlt' : k < l.length := by rw [HN.out]; exact hlt
      have htk := List.take_succ_eq_append_getElem hlt'
      have hal : (l.take (k + 1)).all fewV = ((l.take k).all fewV && fewV l[k]) := by rw [htk, List.all_append]; simp
      have hfx := fits_mem HX.out (List.getElem_mem hlt')
      obtain ⟨d', b, off, V, rfl, rfl, hb, c0, c1, c2, c3, hE⟩ := HV.out.elem hlt'
      generalize l[k] = x at c0 c1 c2 c3 hE hal hfx
      obtain ⟨A', c', rfl, _⟩ := hE.form
      replace c0 := (hB.cell (p := ⟨b, off + k * 4, none⟩) hb).trans c0
      replace c1 := (hB.cell (p := ⟨b, off + k * 4 + 1, none⟩) hb).trans c1
      replace c2 := (hB.cell (p := ⟨b, off + k * 4 + 2, none⟩) hb).trans c2
      replace c3 := (hB.cell (p := ⟨b, off + k * 4 + 3, none⟩) hb).trans c3
      have hbw := Nat.lt_of_lt_of_le hb hB.size
      obtain ⟨q, hq⟩ : ∃ q, fewV x = q := ⟨_, rfl⟩
      rw [hq] at hal
      have st1 := (Below.refl wr.heap.size wr).alloc (Nat.le_refl _) (.cells #[.int .i64 x.kind, .int .i64 x.num, .string (strB x.str), .slice A' x.elems.length c'] 24)
      have HC := Lib.hid (rFew_any d' x _ _ (((hE.below hB).more hB.size).later st1) hfx)
      rw [hq] at HC
      have ST := Lib.hid st1
      have HA := Lib.hid hal
      clear hE hq hal st1 hfx htk
      dsimp only [Val.v] at HC ST
      generalize x.kind = xk, x.num = xn, strB x.str = xs, x.elems.length = xl at c0 c1 c2 c3 HC ST
      go_wp2_with fail
      refine HC.out.mono ?_
      rintro e w1 ⟨rfl, hb1⟩
      have hB' := hB.trans ((ST.out.trans (hb1.mono (by simp <;> omega))).mono hB.size)
      clear hb1 hB ST HC c0 c1 c2 c3
      cases q
      · have HF := Lib.hid (hr.out.symm.trans (all_take (k := k + 1) (by rw [HA.out, Bool.and_false])))
        go_wp2
        go_ret
        exact ⟨by rw [HF.out]; rfl, hB'⟩
      · have HK := Lib.hid (show (l.take (k + 1)).all fewV = true by rw [HA.out, hp.out]; rfl)
        go_wp2
        exact ⟨⟨k + 1, by omega, by go_num, HK, hB'⟩, by simp [intOf]; omega⟩
    · obtain rfl : k = n := by omega
      have hfull : l.take k = l := List.take_of_length_le (by rw [HN.out]; exact Nat.le_refl _)
      have h2 := hp.out
      rw [hfull] at h2
      have HF := Lib.hid (hr.out.symm.trans h2)
      clear hfull h2
      go_wp2
      go_ret
      exact ⟨by rw [HF.out]; rfl, hB⟩

end Go.Proofs.Ytcokkloaljaanaa
