/- Check of the reference of chapter 33: the loops. (Printed by gen_bu.py.) No condition. -/
import Derived.Test.YtancngachnpefaaQK
import Derived.Test.YtancngachnpefaaQBU
import Derived.Test.YtancngachnpefaaQNA
import Derived.Test.YtancngachnpefaaQMB
import Derived.Test.YtancngachnpefaaQS
set_option linter.unusedVariables false
set_option linter.unusedSimpArgs false
set_option maxRecDepth 100000
set_option maxHeartbeats 4000000
namespace Go.Proofs.Ytancngachnpefaa
open Go.RowKit
theorem rbCert_3 (p : Pl) (c : List Ln) (b : List Iq) (A1 A2 : Option Addr) (m k m2 k2 : Nat) (w : World) (h : Hid (askT p c = 0)) (hb1 : Hid (barT b = 0)) (hin : Hid (inB b p.beginT.1 = true)) (hv : Hid p.Valid) (hcnt : Hid (p.count ≤ 1048576)) (b0 b1 b2 b3 b4 b5 be : Int) (hbe : Hid (p.beginT = (⟨b0, b1, b2, b3, b4, b5⟩, be))) (t : Bool) (f : Fw) (hT : Hid (p.states.findSome? (flawAt p c b) = if t = true then none else some f)) (hf : t = true → f = Fw.zero) (hC : Hid (CodeAt w w.heap.size (.slice A2 m2 k2) c)) (_hQ : Hid (BarAt w w.heap.size (.slice A1 m k) b)) :
    Calls Try.prog 15 #[p.v, .agg #[.slice A2 m2 k2], .slice A1 m k] w fun e w' => e = .returned (.tuple #[.bool t, f.v, .int .i64 0]) ∧ Below w.heap.size w w' := by
  go_enter Try.func15, Try.ntmps15
  go_upto_region 1 with fail
  have hB := (((Below.refl w.heap.size w).alloc (by simp <;> omega) (.cells #[.int .i64 p.top, .int .i64 p.bank, .int .i64 p.siphon, .int .i64 p.start, .int .i64 p.positions, .int .i64 p.rate, .int .i64 p.step, .int .i64 p.pass, .int .i64 p.feed, .int .i64 p.pipe, .int .i64 p.orders, .int .i64 p.age] 23)).alloc (by simp <;> omega) (.cells #[.slice A2 m2 k2] 26)).alloc (by simp <;> omega) (.cells #[.int .i64 0, .int .i64 0, .int .i64 0, .int .i64 0, .int .i64 0, .int .i64 0, .int .i64 0, .int .i64 0, .int .i64 0] 39)
  have X3 := ((Box.newAt (w := w) (n := w.heap.size) [.int .i64 p.top, .int .i64 p.bank, .int .i64 p.siphon, .int .i64 p.start, .int .i64 p.positions, .int .i64 p.rate, .int .i64 p.step, .int .i64 p.pass, .int .i64 p.feed, .int .i64 p.pipe, .int .i64 p.orders, .int .i64 p.age] 23 (by simp)).alloc (.cells #[.slice A2 m2 k2] 26)).alloc (.cells #[.int .i64 0, .int .i64 0, .int .i64 0, .int .i64 0, .int .i64 0, .int .i64 0, .int .i64 0, .int .i64 0, .int .i64 0] 39)
  have X4 := (Box.newAt (w := (w.alloc (.cells #[.int .i64 p.top, .int .i64 p.bank, .int .i64 p.siphon, .int .i64 p.start, .int .i64 p.positions, .int .i64 p.rate, .int .i64 p.step, .int .i64 p.pass, .int .i64 p.feed, .int .i64 p.pipe, .int .i64 p.orders, .int .i64 p.age] 23))) (n := w.heap.size + 1) [.slice A2 m2 k2] 26 (by simp)).alloc (.cells #[.int .i64 0, .int .i64 0, .int .i64 0, .int .i64 0, .int .i64 0, .int .i64 0, .int .i64 0, .int .i64 0, .int .i64 0] 39)
  have X7 := Box.newAt (w := ((w.alloc (.cells #[.int .i64 p.top, .int .i64 p.bank, .int .i64 p.siphon, .int .i64 p.start, .int .i64 p.positions, .int .i64 p.rate, .int .i64 p.step, .int .i64 p.pass, .int .i64 p.feed, .int .i64 p.pipe, .int .i64 p.orders, .int .i64 p.age] 23)).alloc (.cells #[.slice A2 m2 k2] 26))) (n := w.heap.size + 1 + 1) [.int .i64 0, .int .i64 0, .int .i64 0, .int .i64 0, .int .i64 0, .int .i64 0, .int .i64 0, .int .i64 0, .int .i64 0] 39 (by simp)
  generalize (((w.alloc (.cells #[.int .i64 p.top, .int .i64 p.bank, .int .i64 p.siphon, .int .i64 p.start, .int .i64 p.positions, .int .i64 p.rate, .int .i64 p.step, .int .i64 p.pass, .int .i64 p.feed, .int .i64 p.pipe, .int .i64 p.orders, .int .i64 p.age] 23)).alloc (.cells #[.slice A2 m2 k2] 26)).alloc (.cells #[.int .i64 0, .int .i64 0, .int .i64 0, .int .i64 0, .int .i64 0, .int .i64 0, .int .i64 0, .int .i64 0, .int .i64 0] 39)) = w0 at X3 X4 X7 hB ⊢
  obtain ⟨X3c0, X3c1, X3c2, X3c3, X3c4, X3c5, X3c6, X3c7, X3c8, X3c9, X3c10, X3c11⟩ := X3.c12
  have X4c0 : w0.cell? ⟨w.heap.size + 1, 0, none⟩ = some (.slice A2 m2 k2) := X4.cell 0
  have X3z := X3.lt
  have X4z := X4.lt
  go_wp2_with fail
  refine (rbAsk_is h (hC.out.later hB)).mono ?_
  rintro e w1 ⟨rfl, hb⟩
  have X3 := X3.later hb
  have X4 := X4.later hb
  have X7 := X7.later hb
  have hB := hB.trans (hb.mono hB.size)
  clear hb
  clear X3c0 X3c1 X3c2 X3c3 X3c4 X3c5 X3c6 X3c7 X3c8 X3c9 X3c10 X3c11 X4c0 X3z X4z
  go_wp2_with fail
  refine (rbCheck_any b _ _ 0 hb1 ((_hQ.out.below hB).more hB.size)).mono ?_
  rintro e w2 ⟨rfl, hb⟩
  have X3 := X3.later hb
  have X4 := X4.later hb
  have X7 := X7.later hb
  have hB := hB.trans (hb.mono hB.size)
  clear hb
  obtain ⟨X3c0, X3c1, X3c2, X3c3, X3c4, X3c5, X3c6, X3c7, X3c8, X3c9, X3c10, X3c11⟩ := X3.c12
  have X3z := X3.lt
  go_wp2_with fail
  have hBE := Lib.hid (congrArg Prod.fst hbe.out)
  dsimp only at hBE
  refine (rbegin_is hbe).mono ?_
  rintro e w3 ⟨rfl, hb⟩
  have X3 := X3.later hb
  have X4 := X4.later hb
  have X7 := X7.later hb
  have hB := hB.trans (hb.mono hB.size)
  clear hb
  clear X3c0 X3c1 X3c2 X3c3 X3c4 X3c5 X3c6 X3c7 X3c8 X3c9 X3c10 X3c11 X3z
  go_upto_region 8 with fail
  have X10 := Box.new w3 [.int .i64 b0, .int .i64 b1, .int .i64 b2, .int .i64 b3, .int .i64 b4, .int .i64 b5] 30
  have X7lt := X7.lt
  have X3 := X3.alloc (.cells #[.int .i64 b0, .int .i64 b1, .int .i64 b2, .int .i64 b3, .int .i64 b4, .int .i64 b5] 30)
  have X4 := X4.alloc (.cells #[.int .i64 b0, .int .i64 b1, .int .i64 b2, .int .i64 b3, .int .i64 b4, .int .i64 b5] 30)
  have X7 := X7.alloc (.cells #[.int .i64 b0, .int .i64 b1, .int .i64 b2, .int .i64 b3, .int .i64 b4, .int .i64 b5] 30)
  have hB := hB.alloc hB.size (.cells #[.int .i64 b0, .int .i64 b1, .int .i64 b2, .int .i64 b3, .int .i64 b4, .int .i64 b5] 30)
  generalize hgG : w3.heap.size = G at X10 X7lt ⊢
  generalize w3.alloc (.cells #[.int .i64 b0, .int .i64 b1, .int .i64 b2, .int .i64 b3, .int .i64 b4, .int .i64 b5] 30) = w4 at X3 X4 X7 X10 hB ⊢
  obtain ⟨X10c0, X10c1, X10c2, X10c3, X10c4, X10c5⟩ := X10.c6
  have X10z := X10.lt
  go_wp2_with fail
  refine (rbIn_any b ⟨b0, b1, b2, b3, b4, b5⟩ _ _ true (by rw [← hBE.out]; exact hin) ((_hQ.out.below hB).more hB.size) (Lib.hid (barT_ok hb1.out)) (by rw [← hBE.out]; exact begin_nums (ask_zero h.out).1)).mono ?_
  rintro e w5 ⟨rfl, hb⟩
  have X3 := X3.later hb
  have X4 := X4.later hb
  have X7 := X7.later hb
  have X10 := X10.later hb
  have hB := hB.trans (hb.mono hB.size)
  clear hb
  clear X10c0 X10c1 X10c2 X10c3 X10c4 X10c5 X10z
  obtain ⟨X3c0, X3c1, X3c2, X3c3, X3c4, X3c5, X3c6, X3c7, X3c8, X3c9, X3c10, X3c11⟩ := X3.c12
  have X3z := X3.lt
  go_wp2_with fail
  refine (rbStates_any p hv hcnt _).mono ?_
  rintro e w6 ⟨V1, rfl, B1, hB1, hO1, hb⟩
  have X3 := X3.later hb
  have X4 := X4.later hb
  have X7 := X7.later hb
  have hB := hB.trans (hb.mono hB.size)
  clear hb X10 X3c0 X3c1 X3c2 X3c3 X3c4 X3c5 X3c6 X3c7 X3c8 X3c9 X3c10 X3c11 X3z
  obtain ⟨X3c0, X3c1, X3c2, X3c3, X3c4, X3c5, X3c6, X3c7, X3c8, X3c9, X3c10, X3c11⟩ := X3.c12
  have X3z := X3.lt
  go_wp2_with fail
  refine (rbShocks_any p hv _).mono ?_
  rintro e w7 ⟨V2, rfl, hO2, hb⟩
  have X3 := X3.later hb
  have X4 := X4.later hb
  have X7 := X7.later hb
  have hB := hB.trans (hb.mono hB.size)
  have hO1 := hO1.later hb
  clear hb X3c0 X3c1 X3c2 X3c3 X3c4 X3c5 X3c6 X3c7 X3c8 X3c9 X3c10 X3c11 X3z
  obtain ⟨a1, k1, rfl⟩ := ownE_form hO1 (fun _ => rfl)
  obtain ⟨a2, k3, rfl⟩ := ownE_form hO2 (fun _ => rfl)
  obtain ⟨n1, hn1⟩ : ∃ n1, p.states.length = n1 := ⟨_, rfl⟩
  obtain ⟨n2, hn2⟩ : ∃ n2, p.shocks.length = n2 := ⟨_, rfl⟩
  rw [hn1] at hO1 ⊢
  rw [hn2] at hO2 ⊢
  have hn1b : n1 ≤ 1048576 := by
    rw [← hn1, Pl.states, List.length_map, List.length_range]
    exact hcnt.out
  have hn2b : n2 ≤ 1048576 := by
    have hf := hv.out.feed
    have ho := hv.out.orders
    have h1 : p.nm ≤ 9 := by unfold Pl.nm; omega
    have h2 : (p.feed + 1).toNat ≤ 16 := by omega
    rw [← hn2, Pl.shocks, List.length_map, List.length_range]
    exact Nat.le_trans (Nat.mul_le_mul h2 h1) (by omega)
  have HN1 := Lib.hid hn1
  have HN2 := Lib.hid hn2
  have HO1 := Lib.hid hO1
  have HO2 := Lib.hid hO2
  have HSN := Lib.hid (fun s hs => @states_nums p hv.out s hs)
  clear hn1 hn2 hO1 hO2 hB1 hBE hbe hgG X7lt
  go_upto_region 13 with fail
  have hQ7 : Hid (BarAt w7 w7.heap.size (.slice A1 m k) b) := Lib.hid ((_hQ.out.below hB).more hB.size)
  have hC7 : Hid (CodeAt w7 w7.heap.size (.slice A2 m2 k2) c) := Lib.hid ((hC.out.below hB).more hB.size)
  go_loopw [14] (fun i wr => ∃ i1 : Nat, i1 ≤ n1 ∧ i = .int .i64 i1 ∧ Below w7.heap.size w7 wr ∧ Hid (∀ s ∈ p.states.take i1, flawAt p c b s = none)) (fun i _ => n1 - (intOf i).toNat)
  case atStart => exact ⟨0, by omega, rfl, Below.refl _ _, Lib.hid (fun s hs => by simp at hs)⟩
  case round =>
    obtain ⟨i1, hi1, rfl, hb7, hN⟩ := hrel
    obtain ⟨wo, rfl⟩ : ∃ wo : World, wo = wr := ⟨_, rfl⟩
    rcases Nat.lt_or_ge i1 n1 with hlt | hge
    rotate_left
    · obtain rfl : i1 = n1 := by omega
      have hd2 : ¬ ((i1 : Int) < (i1 : Int)) := by omega
      have hnone : p.states.findSome? (flawAt p c b) = none := List.findSome?_eq_none_iff.2 (by have := hN.out; rw [List.take_of_length_le (by rw [HN1.out]; exact Nat.le_refl _)] at this; exact this)
      have ht : t = true := by
        cases t with
        | true => rfl
        | false => have := hT.out; rw [hnone] at this; cases this
      have hfz := hf ht
      have HF := Lib.hid (And.intro ht hfz)
      have bF := X7.later hb7
      have hBw := hB.trans (hb7.mono hB.size)
      clear hnone ht hfz hT hf
      obtain ⟨bFc0, bFf0, bFc1, bFf1, bFc2, bFf2, bFc3, bFf3, bFc4, bFf4, bFc5, bFf5, bFc6, bFf6, bFc7, bFf7, bFc8, bFf8⟩ := bF.f9
      have bFz : w.heap.size + 1 + 1 < wo.heap.size := bF.lt
      go_wp2
      obtain ⟨rfl, rfl⟩ := HF.out
      have Z7 := (((((((((bF.set 0 (.int .i64 0)).set 1 (.int .i64 0)).set 2 (.int .i64 0)).set 3 (.int .i64 0)).set 4 (.int .i64 0)).set 5 (.int .i64 0)).set 6 (.int .i64 0)).set 7 (.int .i64 0)).set 8 (.int .i64 0))
      have hB3 := (((((((((hBw.setCell (p := ⟨w.heap.size + 1 + 1, 0, none⟩) (by simp <;> omega) (.int .i64 0)).setCell (p := ⟨w.heap.size + 1 + 1, 1, none⟩) (by simp <;> omega) (.int .i64 0)).setCell (p := ⟨w.heap.size + 1 + 1, 2, none⟩) (by simp <;> omega) (.int .i64 0)).setCell (p := ⟨w.heap.size + 1 + 1, 3, none⟩) (by simp <;> omega) (.int .i64 0)).setCell (p := ⟨w.heap.size + 1 + 1, 4, none⟩) (by simp <;> omega) (.int .i64 0)).setCell (p := ⟨w.heap.size + 1 + 1, 5, none⟩) (by simp <;> omega) (.int .i64 0)).setCell (p := ⟨w.heap.size + 1 + 1, 6, none⟩) (by simp <;> omega) (.int .i64 0)).setCell (p := ⟨w.heap.size + 1 + 1, 7, none⟩) (by simp <;> omega) (.int .i64 0)).setCell (p := ⟨w.heap.size + 1 + 1, 8, none⟩) (by simp <;> omega) (.int .i64 0))
      generalize (((((((((wo.setCell ⟨w.heap.size + 1 + 1, 0, none⟩ (.int .i64 0)).setCell ⟨w.heap.size + 1 + 1, 1, none⟩ (.int .i64 0)).setCell ⟨w.heap.size + 1 + 1, 2, none⟩ (.int .i64 0)).setCell ⟨w.heap.size + 1 + 1, 3, none⟩ (.int .i64 0)).setCell ⟨w.heap.size + 1 + 1, 4, none⟩ (.int .i64 0)).setCell ⟨w.heap.size + 1 + 1, 5, none⟩ (.int .i64 0)).setCell ⟨w.heap.size + 1 + 1, 6, none⟩ (.int .i64 0)).setCell ⟨w.heap.size + 1 + 1, 7, none⟩ (.int .i64 0)).setCell ⟨w.heap.size + 1 + 1, 8, none⟩ (.int .i64 0)) = W at Z7 hB3 ⊢
      obtain ⟨Z7c0, Z7c1, Z7c2, Z7c3, Z7c4, Z7c5, Z7c6, Z7c7, Z7c8⟩ := Z7.c9
      refine bodyPost_ret (v := .tuple #[.bool true, Fw.zero.v, .int .i64 0]) (by simp [results, Try.results15, go_sem, Z7c0, Z7c1, Z7c2, Z7c3, Z7c4, Z7c5, Z7c6, Z7c7, Z7c8, Fw.zero, St.zero, Sh.zero]) rfl ?_
      exact ⟨rfl, hB3⟩
    have hd2 : (i1 : Int) < (n1 : Int) := by omega
    have hil : i1 < p.states.length := by rw [HN1.out]; exact hlt
    obtain ⟨g1, rfl, hgb, hg1, c0, c1, c2, c3, c4, c5⟩ := ownSt_cells HO1.out hil
    have hsm := List.getElem_mem hil
    have hst := fun h => take_none (f := fun s => flawAt p c b s = none) hil hN.out h
    have hsp := take_pre hil
    obtain ⟨s, hs⟩ : ∃ s, p.states[i1] = s := ⟨_, rfl⟩
    rw [hs] at c0 c1 c2 c3 c4 c5 hsm hst hsp
    obtain ⟨x0, x1, x2, x3, x4, x5⟩ := s
    dsimp only at c0 c1 c2 c3 c4 c5
    have c0 := (hb7.cell hg1).trans c0
    have c1 := (hb7.cell hg1).trans c1
    have c2 := (hb7.cell hg1).trans c2
    have c3 := (hb7.cell hg1).trans c3
    have c4 := (hb7.cell hg1).trans c4
    have c5 := (hb7.cell hg1).trans c5
    have HST := Lib.hid hst
    have HSP := Lib.hid hsp
    have HSM := Lib.hid hsm
    have hIX : p.states[i1] = ⟨x0, x1, x2, x3, x4, x5⟩ := hs
    have HIX := Lib.hid hIX
    clear hs hst hsp hsm hIX
    have hg1o := Nat.lt_of_lt_of_le hg1 hb7.size
    obtain ⟨ti, hti⟩ : ∃ ti, inB b ⟨x0, x1, x2, x3, x4, x5⟩ = ti := ⟨_, rfl⟩
    have HTI := Lib.hid hti
    clear hti
    go_wp2_with fail
    refine (rbIn_any b ⟨x0, x1, x2, x3, x4, x5⟩ _ _ ti HTI ((hQ7.out.below hb7).more hb7.size) (Lib.hid (barT_ok hb1.out)) (HSN.out _ HSM.out)).mono ?_
    rintro e W1 ⟨rfl, hb8⟩
    have c0 := (hb8.cell hg1o).trans c0
    have c1 := (hb8.cell hg1o).trans c1
    have c2 := (hb8.cell hg1o).trans c2
    have c3 := (hb8.cell hg1o).trans c3
    have c4 := (hb8.cell hg1o).trans c4
    have c5 := (hb8.cell hg1o).trans c5
    have hb8 := hb7.trans (hb8.mono hb7.size)
    cases ti with
    | false =>
      go_wp2
      exact ⟨⟨i1 + 1, by omega, by go_num, hb8, Lib.hid (HST.out (flaw_out HTI.out))⟩, by simp [intOf]; omega⟩
    | true =>
      obtain ⟨q, hsq⟩ : ∃ q, Hid (p.safeB ⟨x0, x1, x2, x3, x4, x5⟩ = q) := ⟨_, rfl⟩
      have hg18 := Nat.lt_of_lt_of_le hg1 hb8.size
      have bP := X3.later hb8
      have bPz := bP.lt
      go_wp2_with fail
      have d0 : ∀ z : Later W1, z.w.cell? ⟨g1, i1 * 6, none⟩ = some (.int .i64 x0) := Later.cell c0 hg18
      have d1 : ∀ z : Later W1, z.w.cell? ⟨g1, i1 * 6 + 1, none⟩ = some (.int .i64 x1) := Later.cell c1 hg18
      have d2 : ∀ z : Later W1, z.w.cell? ⟨g1, i1 * 6 + 2, none⟩ = some (.int .i64 x2) := Later.cell c2 hg18
      have d3 : ∀ z : Later W1, z.w.cell? ⟨g1, i1 * 6 + 3, none⟩ = some (.int .i64 x3) := Later.cell c3 hg18
      have d4 : ∀ z : Later W1, z.w.cell? ⟨g1, i1 * 6 + 4, none⟩ = some (.int .i64 x4) := Later.cell c4 hg18
      have d5 : ∀ z : Later W1, z.w.cell? ⟨g1, i1 * 6 + 5, none⟩ = some (.int .i64 x5) := Later.cell c5 hg18
      have f0 : ∀ z : Later W1, z.w.cell? ⟨w.heap.size, 0, none⟩ = some (.int .i64 p.top) := Later.cell (bP.cell 0) bPz
      have f1 : ∀ z : Later W1, z.w.cell? ⟨w.heap.size, 1, none⟩ = some (.int .i64 p.bank) := Later.cell (bP.cell 1) bPz
      have f2 : ∀ z : Later W1, z.w.cell? ⟨w.heap.size, 2, none⟩ = some (.int .i64 p.siphon) := Later.cell (bP.cell 2) bPz
      have f3 : ∀ z : Later W1, z.w.cell? ⟨w.heap.size, 3, none⟩ = some (.int .i64 p.start) := Later.cell (bP.cell 3) bPz
      have f4 : ∀ z : Later W1, z.w.cell? ⟨w.heap.size, 4, none⟩ = some (.int .i64 p.positions) := Later.cell (bP.cell 4) bPz
      have f5 : ∀ z : Later W1, z.w.cell? ⟨w.heap.size, 5, none⟩ = some (.int .i64 p.rate) := Later.cell (bP.cell 5) bPz
      have f6 : ∀ z : Later W1, z.w.cell? ⟨w.heap.size, 6, none⟩ = some (.int .i64 p.step) := Later.cell (bP.cell 6) bPz
      have f7 : ∀ z : Later W1, z.w.cell? ⟨w.heap.size, 7, none⟩ = some (.int .i64 p.pass) := Later.cell (bP.cell 7) bPz
      have f8 : ∀ z : Later W1, z.w.cell? ⟨w.heap.size, 8, none⟩ = some (.int .i64 p.feed) := Later.cell (bP.cell 8) bPz
      have f9 : ∀ z : Later W1, z.w.cell? ⟨w.heap.size, 9, none⟩ = some (.int .i64 p.pipe) := Later.cell (bP.cell 9) bPz
      have f10 : ∀ z : Later W1, z.w.cell? ⟨w.heap.size, 10, none⟩ = some (.int .i64 p.orders) := Later.cell (bP.cell 10) bPz
      have f11 : ∀ z : Later W1, z.w.cell? ⟨w.heap.size, 11, none⟩ = some (.int .i64 p.age) := Later.cell (bP.cell 11) bPz
      refine wp_region_later (by kernel_rfl) (by kernel_rfl) ?_
      repeat (go_big_quiet_step ((go_at_call 47; with_reducible exact Later.call _ (rbSafe_is (w := _) hsq))))
      refine wpQuiet_nil ?_
      intro _ hw'
      obtain ⟨yq, hw''⟩ := hw'
      subst hw''
      have c0 := d0 yq
      have c1 := d1 yq
      have c2 := d2 yq
      have c3 := d3 yq
      have c4 := d4 yq
      have c5 := d5 yq
      have hb9 := hb8.trans (yq.below.mono hb8.size)
      have hg19 := Nat.lt_of_lt_of_le hg18 yq.below.size
      clear d0 d1 d2 d3 d4 d5 f0 f1 f2 f3 f4 f5 f6 f7 f8 f9 f10 f11 bP bPz hg18 hb8
      generalize yq.w = W2 at c0 c1 c2 c3 c4 c5 hb9 hg19 ⊢
      cases q with
      | false =>
        have hsome := findSome_pre HSP.out (fun s hs => hN.out s hs) (flaw_unsafe (c := c) HTI.out hsq.out)
        have ht : t = false := by
          cases t with
          | false => rfl
          | true => have := hT.out; rw [hsome] at this; cases this
        have hff : (Fw.mk 2 ⟨x0, x1, x2, x3, x4, x5⟩ Sh.zero) = f := by have := hT.out; rw [hsome, ht] at this; injection this
        have HF := Lib.hid (And.intro ht hff)
        have bF := X7.later hb9
        have hBw := hB.trans (hb9.mono hB.size)
        clear hsome ht hff hT hf
        obtain ⟨bFc0, bFf0, bFc1, bFf1, bFc2, bFf2, bFc3, bFf3, bFc4, bFf4, bFc5, bFf5, bFc6, bFf6, bFc7, bFf7, bFc8, bFf8⟩ := bF.f9
        have bFz : w.heap.size + 1 + 1 < W2.heap.size := bF.lt
        go_wp2_with fail
        go_region
        all_goals
          go_wp2
          obtain ⟨rfl, rfl⟩ := HF.out
          have Z7 := (((((((((bF.set 0 (.int .i64 2)).set 1 (.int .i64 x0)).set 2 (.int .i64 x1)).set 3 (.int .i64 x2)).set 4 (.int .i64 x3)).set 5 (.int .i64 x4)).set 6 (.int .i64 x5)).set 7 (.int .i64 0)).set 8 (.int .i64 0))
          have hB3 := (((((((((hBw.setCell (p := ⟨w.heap.size + 1 + 1, 0, none⟩) (by simp <;> omega) (.int .i64 2)).setCell (p := ⟨w.heap.size + 1 + 1, 1, none⟩) (by simp <;> omega) (.int .i64 x0)).setCell (p := ⟨w.heap.size + 1 + 1, 2, none⟩) (by simp <;> omega) (.int .i64 x1)).setCell (p := ⟨w.heap.size + 1 + 1, 3, none⟩) (by simp <;> omega) (.int .i64 x2)).setCell (p := ⟨w.heap.size + 1 + 1, 4, none⟩) (by simp <;> omega) (.int .i64 x3)).setCell (p := ⟨w.heap.size + 1 + 1, 5, none⟩) (by simp <;> omega) (.int .i64 x4)).setCell (p := ⟨w.heap.size + 1 + 1, 6, none⟩) (by simp <;> omega) (.int .i64 x5)).setCell (p := ⟨w.heap.size + 1 + 1, 7, none⟩) (by simp <;> omega) (.int .i64 0)).setCell (p := ⟨w.heap.size + 1 + 1, 8, none⟩) (by simp <;> omega) (.int .i64 0))
          generalize (((((((((W2.setCell ⟨w.heap.size + 1 + 1, 0, none⟩ (.int .i64 2)).setCell ⟨w.heap.size + 1 + 1, 1, none⟩ (.int .i64 x0)).setCell ⟨w.heap.size + 1 + 1, 2, none⟩ (.int .i64 x1)).setCell ⟨w.heap.size + 1 + 1, 3, none⟩ (.int .i64 x2)).setCell ⟨w.heap.size + 1 + 1, 4, none⟩ (.int .i64 x3)).setCell ⟨w.heap.size + 1 + 1, 5, none⟩ (.int .i64 x4)).setCell ⟨w.heap.size + 1 + 1, 6, none⟩ (.int .i64 x5)).setCell ⟨w.heap.size + 1 + 1, 7, none⟩ (.int .i64 0)).setCell ⟨w.heap.size + 1 + 1, 8, none⟩ (.int .i64 0)) = W at Z7 hB3 ⊢
          obtain ⟨Z7c0, Z7c1, Z7c2, Z7c3, Z7c4, Z7c5, Z7c6, Z7c7, Z7c8⟩ := Z7.c9
          refine bodyPost_ret (v := .tuple #[.bool false, (Fw.mk 2 ⟨x0, x1, x2, x3, x4, x5⟩ Sh.zero).v, .int .i64 0]) (by simp [results, Try.results15, go_sem, Z7c0, Z7c1, Z7c2, Z7c3, Z7c4, Z7c5, Z7c6, Z7c7, Z7c8, Sh.zero]) rfl ?_
          exact ⟨rfl, hB3.drew⟩
      | true =>
        go_upto_region 19 with fail
        go_loopw [15] (fun i wr => ∃ j1 : Nat, j1 ≤ n2 ∧ i = .int .i64 j1 ∧ Below w7.heap.size w7 wr ∧ Hid (∀ y ∈ p.shocks.take j1, inB b (nextT p c ⟨x0, x1, x2, x3, x4, x5⟩ y).1 = true)) (fun i _ => n2 - (intOf i).toNat)
        case atStart => exact ⟨0, by omega, rfl, hb9, Lib.hid (fun s hs => by simp at hs)⟩
        case round =>
          clear hb9 hg19 c0 c1 c2 c3 c4 c5 hb7 hg1o
          obtain ⟨j1, hj1, rfl, hb9, hM⟩ := hrel
          obtain ⟨wi, rfl⟩ : ∃ wi : World, wi = wr := ⟨_, rfl⟩
          rcases Nat.lt_or_ge j1 n2 with hlt2 | hge
          rotate_left
          · obtain rfl : j1 = n2 := by omega
            have hd3 : ¬ ((j1 : Int) < (j1 : Int)) := by omega
            have hnn := HST.out (find_none HTI.out hsq.out (by have := hM.out; rw [List.take_of_length_le (by rw [HN2.out]; exact Nat.le_refl _)] at this; exact this))
            go_wp2
            exact ⟨⟨i1 + 1, by omega, by go_num, hb9, Lib.hid hnn⟩, by simp [intOf]; omega⟩
          have hd3 : (j1 : Int) < (n2 : Int) := by omega
          have hjl : j1 < p.shocks.length := by rw [HN2.out]; exact hlt2
          obtain ⟨g1', e1, hgb, hg1, c0, c1, c2, c3, c4, c5⟩ := ownSt_cells HO1.out hil
          cases e1
          obtain ⟨g2, rfl, hgb2, hg2, k0, k1⟩ := ownSh_cells HO2.out hjl
          have hyt := fun h => take_none (f := fun y => inB b (nextT p c ⟨x0, x1, x2, x3, x4, x5⟩ y).1 = true) hjl hM.out h
          have hys := fun h => find_some (c := c) (b := b) hjl HTI.out hsq.out hM.out h
          have hym := List.getElem_mem hjl
          rw [HIX.out] at c0 c1 c2 c3 c4 c5
          obtain ⟨y, hy⟩ : ∃ y, p.shocks[j1] = y := ⟨_, rfl⟩
          rw [hy] at k0 k1 hyt hys hym
          obtain ⟨y0, y1⟩ := y
          dsimp only at c0 c1 c2 c3 c4 c5 k0 k1
          have c0 := (hb9.cell hg1).trans c0
          have c1 := (hb9.cell hg1).trans c1
          have c2 := (hb9.cell hg1).trans c2
          have c3 := (hb9.cell hg1).trans c3
          have c4 := (hb9.cell hg1).trans c4
          have c5 := (hb9.cell hg1).trans c5
          have k0 := (hb9.cell hg2).trans k0
          have k1 := (hb9.cell hg2).trans k1
          have HYT := Lib.hid hyt
          have HYS := Lib.hid hys
          have hg1 := Nat.lt_of_lt_of_le hg1 hb9.size
          have hg2 := Nat.lt_of_lt_of_le hg2 hb9.size
          obtain ⟨t', ou, er, HX⟩ : ∃ t ou er, Hid (nextT p c ⟨x0, x1, x2, x3, x4, x5⟩ ⟨y0, y1⟩ = (t, ou, er)) := ⟨_, _, _, rfl⟩
          have htn : Hid (t'.numsB = true) := by
            have h1 := nextS_has (c := c) h.out HSM.out hym
            rw [HX.out] at h1
            exact has_nums hv.out h1
          obtain ⟨tj, htj⟩ : ∃ tj, inB b t' = tj := ⟨_, rfl⟩
          have HTJ := Lib.hid htj
          have hXT : (nextT p c ⟨x0, x1, x2, x3, x4, x5⟩ ⟨y0, y1⟩).1 = t' := by rw [HX.out]
          have HXT := Lib.hid hXT
          clear hy hyt hys hym htj hXT
          have bP := X3.later hb9
          have bC := X4.later hb9
          have bPz := bP.lt
          have bCz := bC.lt
          have hQi := Lib.hid ((hQ7.out.below hb9).more hb9.size)
          have hCi := Lib.hid ((hC7.out.below hb9).more hb9.size)
          obtain ⟨t0, t1, t2, t3, t4, t5⟩ := t'
          have d0 : ∀ z : Later wi, z.w.cell? ⟨g1, i1 * 6, none⟩ = some (.int .i64 x0) := Later.cell c0 hg1
          have d1 : ∀ z : Later wi, z.w.cell? ⟨g1, i1 * 6 + 1, none⟩ = some (.int .i64 x1) := Later.cell c1 hg1
          have d2 : ∀ z : Later wi, z.w.cell? ⟨g1, i1 * 6 + 2, none⟩ = some (.int .i64 x2) := Later.cell c2 hg1
          have d3 : ∀ z : Later wi, z.w.cell? ⟨g1, i1 * 6 + 3, none⟩ = some (.int .i64 x3) := Later.cell c3 hg1
          have d4 : ∀ z : Later wi, z.w.cell? ⟨g1, i1 * 6 + 4, none⟩ = some (.int .i64 x4) := Later.cell c4 hg1
          have d5 : ∀ z : Later wi, z.w.cell? ⟨g1, i1 * 6 + 5, none⟩ = some (.int .i64 x5) := Later.cell c5 hg1
          have e0 : ∀ z : Later wi, z.w.cell? ⟨g2, j1 * 2, none⟩ = some (.int .i64 y0) := Later.cell k0 hg2
          have e1 : ∀ z : Later wi, z.w.cell? ⟨g2, j1 * 2 + 1, none⟩ = some (.int .i64 y1) := Later.cell k1 hg2
          have f0 : ∀ z : Later wi, z.w.cell? ⟨w.heap.size, 0, none⟩ = some (.int .i64 p.top) := Later.cell (bP.cell 0) bPz
          have f1 : ∀ z : Later wi, z.w.cell? ⟨w.heap.size, 1, none⟩ = some (.int .i64 p.bank) := Later.cell (bP.cell 1) bPz
          have f2 : ∀ z : Later wi, z.w.cell? ⟨w.heap.size, 2, none⟩ = some (.int .i64 p.siphon) := Later.cell (bP.cell 2) bPz
          have f3 : ∀ z : Later wi, z.w.cell? ⟨w.heap.size, 3, none⟩ = some (.int .i64 p.start) := Later.cell (bP.cell 3) bPz
          have f4 : ∀ z : Later wi, z.w.cell? ⟨w.heap.size, 4, none⟩ = some (.int .i64 p.positions) := Later.cell (bP.cell 4) bPz
          have f5 : ∀ z : Later wi, z.w.cell? ⟨w.heap.size, 5, none⟩ = some (.int .i64 p.rate) := Later.cell (bP.cell 5) bPz
          have f6 : ∀ z : Later wi, z.w.cell? ⟨w.heap.size, 6, none⟩ = some (.int .i64 p.step) := Later.cell (bP.cell 6) bPz
          have f7 : ∀ z : Later wi, z.w.cell? ⟨w.heap.size, 7, none⟩ = some (.int .i64 p.pass) := Later.cell (bP.cell 7) bPz
          have f8 : ∀ z : Later wi, z.w.cell? ⟨w.heap.size, 8, none⟩ = some (.int .i64 p.feed) := Later.cell (bP.cell 8) bPz
          have f9 : ∀ z : Later wi, z.w.cell? ⟨w.heap.size, 9, none⟩ = some (.int .i64 p.pipe) := Later.cell (bP.cell 9) bPz
          have f10 : ∀ z : Later wi, z.w.cell? ⟨w.heap.size, 10, none⟩ = some (.int .i64 p.orders) := Later.cell (bP.cell 10) bPz
          have f11 : ∀ z : Later wi, z.w.cell? ⟨w.heap.size, 11, none⟩ = some (.int .i64 p.age) := Later.cell (bP.cell 11) bPz
          have v0 : ∀ z : Later wi, z.w.cell? ⟨w.heap.size + 1, 0, none⟩ = some (.slice A2 m2 k2) := Later.cell (bC.cell 0) bCz
          have hz1 : ∀ z : Later wi, Calls Try.prog 48 #[p.v, .agg #[.slice A2 m2 k2], (St.mk x0 x1 x2 x3 x4 x5).v, (Sh.mk y0 y1).v] z.w (fun e w' => e = .returned (St.mk t0 t1 t2 t3 t4 t5).v ∧ Below z.w.heap.size z.w w') := fun z => rbNext_is HX ((hCi.out.below z.below).more z.below.size)
          have hz2 : ∀ z : Later wi, Calls Try.prog 39 #[.slice A1 m k, (St.mk t0 t1 t2 t3 t4 t5).v] z.w (fun e w' => e = .returned (.bool tj) ∧ Below z.w.heap.size z.w w') := fun z => rbIn_any b ⟨t0, t1, t2, t3, t4, t5⟩ _ _ tj HTJ ((hQi.out.below z.below).more z.below.size) (Lib.hid (barT_ok hb1.out)) htn
          go_wp2_with fail
          refine wp_region_later (by kernel_rfl) (by kernel_rfl) ?_
          repeat (go_big_quiet_step ((first | (go_at_call 48; exact Later.call _ (hz1 _)) | (go_at_call 39; exact Later.call _ (hz2 _)))))
          refine wpQuiet_nil ?_
          intro _ hw'
          obtain ⟨yq, hw''⟩ := hw'
          subst hw''
          have c0 := d0 yq
          have c1 := d1 yq
          have c2 := d2 yq
          have c3 := d3 yq
          have c4 := d4 yq
          have c5 := d5 yq
          have k0 := e0 yq
          have k1 := e1 yq
          have hb9 := hb9.trans (yq.below.mono hb9.size)
          have hg1 := Nat.lt_of_lt_of_le hg1 yq.below.size
          have hg2 := Nat.lt_of_lt_of_le hg2 yq.below.size
          clear d0 d1 d2 d3 d4 d5 e0 e1 f0 f1 f2 f3 f4 f5 f6 f7 f8 f9 f10 f11 v0 hz1 hz2 bP bPz bC bCz
          generalize yq.w = W3 at c0 c1 c2 c3 c4 c5 k0 k1 hb9 hg1 hg2 ⊢
          cases tj with
          | true =>
            have hnn := HYT.out (by rw [HXT.out]; exact HTJ.out)
            go_wp2
            exact ⟨⟨j1 + 1, by omega, by go_num, hb9, Lib.hid hnn⟩, by simp [intOf]; omega⟩
          | false =>
            have hsm := HYS.out (by rw [HXT.out]; exact HTJ.out)
            have hsome := findSome_pre HSP.out (fun s hs => hN.out s hs) hsm
            have ht : t = false := by
              cases t with
              | false => rfl
              | true => have := hT.out; rw [hsome] at this; cases this
            have hff : (Fw.mk 3 ⟨x0, x1, x2, x3, x4, x5⟩ ⟨y0, y1⟩) = f := by have := hT.out; rw [hsome, ht] at this; injection this
            have HF := Lib.hid (And.intro ht hff)
            have bF := X7.later hb9
            have hBw := hB.trans (hb9.mono hB.size)
            clear hsome ht hff hT hf
            obtain ⟨bFc0, bFf0, bFc1, bFf1, bFc2, bFf2, bFc3, bFf3, bFc4, bFf4, bFc5, bFf5, bFc6, bFf6, bFc7, bFf7, bFc8, bFf8⟩ := bF.f9
            have bFz : w.heap.size + 1 + 1 < W3.heap.size := bF.lt
            go_wp2_with fail
            go_region
            all_goals
              go_wp2
              obtain ⟨rfl, rfl⟩ := HF.out
              have Z7 := (((((((((bF.set 0 (.int .i64 3)).set 1 (.int .i64 x0)).set 2 (.int .i64 x1)).set 3 (.int .i64 x2)).set 4 (.int .i64 x3)).set 5 (.int .i64 x4)).set 6 (.int .i64 x5)).set 7 (.int .i64 y0)).set 8 (.int .i64 y1))
              have hB3 := (((((((((hBw.setCell (p := ⟨w.heap.size + 1 + 1, 0, none⟩) (by simp <;> omega) (.int .i64 3)).setCell (p := ⟨w.heap.size + 1 + 1, 1, none⟩) (by simp <;> omega) (.int .i64 x0)).setCell (p := ⟨w.heap.size + 1 + 1, 2, none⟩) (by simp <;> omega) (.int .i64 x1)).setCell (p := ⟨w.heap.size + 1 + 1, 3, none⟩) (by simp <;> omega) (.int .i64 x2)).setCell (p := ⟨w.heap.size + 1 + 1, 4, none⟩) (by simp <;> omega) (.int .i64 x3)).setCell (p := ⟨w.heap.size + 1 + 1, 5, none⟩) (by simp <;> omega) (.int .i64 x4)).setCell (p := ⟨w.heap.size + 1 + 1, 6, none⟩) (by simp <;> omega) (.int .i64 x5)).setCell (p := ⟨w.heap.size + 1 + 1, 7, none⟩) (by simp <;> omega) (.int .i64 y0)).setCell (p := ⟨w.heap.size + 1 + 1, 8, none⟩) (by simp <;> omega) (.int .i64 y1))
              generalize (((((((((W3.setCell ⟨w.heap.size + 1 + 1, 0, none⟩ (.int .i64 3)).setCell ⟨w.heap.size + 1 + 1, 1, none⟩ (.int .i64 x0)).setCell ⟨w.heap.size + 1 + 1, 2, none⟩ (.int .i64 x1)).setCell ⟨w.heap.size + 1 + 1, 3, none⟩ (.int .i64 x2)).setCell ⟨w.heap.size + 1 + 1, 4, none⟩ (.int .i64 x3)).setCell ⟨w.heap.size + 1 + 1, 5, none⟩ (.int .i64 x4)).setCell ⟨w.heap.size + 1 + 1, 6, none⟩ (.int .i64 x5)).setCell ⟨w.heap.size + 1 + 1, 7, none⟩ (.int .i64 y0)).setCell ⟨w.heap.size + 1 + 1, 8, none⟩ (.int .i64 y1)) = W at Z7 hB3 ⊢
              obtain ⟨Z7c0, Z7c1, Z7c2, Z7c3, Z7c4, Z7c5, Z7c6, Z7c7, Z7c8⟩ := Z7.c9
              refine bodyPost_ret (v := .tuple #[.bool false, (Fw.mk 3 ⟨x0, x1, x2, x3, x4, x5⟩ ⟨y0, y1⟩).v, .int .i64 0]) (by simp [results, Try.results15, go_sem, Z7c0, Z7c1, Z7c2, Z7c3, Z7c4, Z7c5, Z7c6, Z7c7, Z7c8, Sh.zero]) rfl ?_
              exact ⟨rfl, hB3.drew⟩
end Go.Proofs.Ytancngachnpefaa
namespace Go.Proofs.Ytancngachnpefaa
open Go.RowKit
theorem count_is_I {p : Pl} (hv : p.Valid) : (p.count : Int) = p.countI := by
  have h0 := hv.top
  have h1 := hv.positions
  have h2 := hv.feed
  have h3 := hv.orders
  have h4 := hv.age
  have h5 := hv.pipe
  have e0 : ((p.top + 1).toNat : Int) = p.top + 1 := by omega
  have e1 : (p.n0 : Int) = p.positions + 1 := by unfold Pl.n0; omega
  have e4 : (p.no : Int) = p.orders + 1 := by unfold Pl.no; omega
  have e5 : (p.na : Int) = p.age + 1 := by unfold Pl.na; omega
  have e2 : (p.nx : Int) = if p.pipe = 0 then 1 else p.feed + 1 := by unfold Pl.nx; split <;> omega
  have e3 : (p.ny : Int) = if p.pipe = 2 then p.feed + 1 else 1 := by unfold Pl.ny; split <;> omega
  unfold Pl.count
  simp only [Int.natCast_mul, e0, e1, e2, e3, e4, e5]
  unfold Pl.countI Pl.sizeI
  rcases (show p.pipe = 0 ∨ p.pipe = 1 ∨ p.pipe = 2 by omega) with h | h | h <;> simp [h, Int.mul_assoc, Int.mul_comm, Int.mul_left_comm]
theorem count_small {p : Pl} (h : p.checkT = 0) : p.count ≤ 4096 := by
  obtain ⟨hv, hc⟩ := Pl.check_zero h
  have := count_is_I hv
  omega
theorem rbCert_is {p : Pl} {c : List Ln} {b : List Iq} {V U : Value} {w : World} {t : Bool} {f : Fw} {er : Int} (h : Hid (certT p c b = (t, f, er))) (hC : CodeAt w w.heap.size V c) (hQ : BarAt w w.heap.size U b) :
    Calls Try.prog 15 #[p.v, .agg #[V], U] w fun e w' => e = .returned (.tuple #[.bool t, f.v, .int .i64 er]) ∧ Below w.heap.size w w' := by
  have h := h.out
  obtain ⟨A1, k, rfl, _⟩ := hQ.form
  obtain ⟨A2, k2, rfl, _⟩ := hC.form
  unfold certT at h
  by_cases h0 : askT p c = 0
  · rw [if_pos h0] at h
    by_cases hb : barT b = 0
    · rw [if_pos hb] at h
      obtain ⟨b0, b1, b2, b3, b4, b5, be, hbe⟩ : ∃ b0 b1 b2 b3 b4 b5 be, Hid (p.beginT = (⟨b0, b1, b2, b3, b4, b5⟩, be)) := ⟨_, _, _, _, _, _, _, rfl⟩
      by_cases hi : inB b p.beginT.1 = true
      · rw [if_pos hi] at h
        have hv := (Pl.check_zero (ask_zero h0).1).1
        have hcn : Hid (p.count ≤ 1048576) := Lib.hid (Nat.le_trans (count_small (ask_zero h0).1) (by omega))
        rcases hf : p.states.findSome? (flawAt p c b) with _ | f'
        · rw [hf] at h
          simp only [Prod.mk.injEq] at h
          obtain ⟨rfl, rfl, rfl⟩ := h
          exact rbCert_3 p c b A1 A2 _ k _ k2 w h0 hb hi hv hcn b0 b1 b2 b3 b4 b5 be hbe true Fw.zero (by rw [Hid, hf]; rfl) (fun _ => rfl) hC hQ
        · rw [hf] at h
          simp only [Prod.mk.injEq] at h
          obtain ⟨rfl, rfl, rfl⟩ := h
          exact rbCert_3 p c b A1 A2 _ k _ k2 w h0 hb hi hv hcn b0 b1 b2 b3 b4 b5 be hbe false f' (by rw [Hid, hf]; rfl) (fun e => by cases e) hC hQ
      · rw [if_neg hi] at h
        simp only [Prod.mk.injEq] at h
        obtain ⟨rfl, rfl, rfl⟩ := h
        have hq : p.beginT.1 = ⟨b0, b1, b2, b3, b4, b5⟩ := congrArg Prod.fst hbe.out
        rw [hq]
        exact rbCert_2 p c b A1 A2 _ k _ k2 w h0 hb (by rw [Hid]; exact Bool.eq_false_iff.2 hi) b0 b1 b2 b3 b4 b5 be hbe hC hQ
    · rw [if_neg hb] at h
      simp only [Prod.mk.injEq] at h
      obtain ⟨rfl, rfl, h2⟩ := h
      exact rbCert_1 p c b A1 A2 _ k _ k2 w er h0 h2 (by rw [← h2]; exact hb) hC hQ
  · rw [if_neg h0] at h
    simp only [Prod.mk.injEq] at h
    obtain ⟨rfl, rfl, h2⟩ := h
    exact rbCert_0 p c b A1 A2 _ k _ k2 w er h2 (by rw [← h2]; exact h0) hC hQ
end Go.Proofs.Ytancngachnpefaa
namespace Go.Proofs.Ytancngachnpefaa
open Go.RowKit Go.Shelf
theorem zFew_go (p : Pl) (code : List Ln) (A : Option Addr) (n c : Nat) (A2 : Option Addr) (nb cb : Nat) (w : World) (hC : Hid (CodeAt w w.heap.size (.slice A n c) code)) (HN : Hid (code.length = n)) (hm : n ≤ 9223372036854775807) (hmb : nb ≤ 9223372036854775807) :
    Calls Try.prog 11 #[.agg #[.int .i64 p.top, .int .i64 p.bank, .int .i64 p.siphon, .int .i64 p.start, .int .i64 p.positions, .int .i64 p.rate, .int .i64 p.step, .int .i64 p.pass, .int .i64 p.feed, .int .i64 p.pipe, .int .i64 p.orders, .int .i64 p.age], .agg #[.slice A n c], .slice A2 nb cb] w fun e w' => ∃ t, e = .returned (.bool t) ∧ Below w.heap.size w w' := by
  obtain ⟨ck, hck⟩ : ∃ ck, p.checkT = ck := ⟨_, rfl⟩
  obtain ⟨ni, er, hct⟩ : ∃ ni er, p.countT = (ni, er) := ⟨_, _, rfl⟩
  replace hck := Lib.hid hck
  replace hct := Lib.hid hct
  go_enter Try.func11, Try.ntmps11
  have hB := ((Below.refl w.heap.size w).alloc (Nat.le_refl _) (.cells #[.int .i64 p.top, .int .i64 p.bank, .int .i64 p.siphon, .int .i64 p.start, .int .i64 p.positions, .int .i64 p.rate, .int .i64 p.step, .int .i64 p.pass, .int .i64 p.feed, .int .i64 p.pipe, .int .i64 p.orders, .int .i64 p.age] 23)).alloc (by simp) (.cells #[.slice A n c] 26)
  have XP := (Box.new w [.int .i64 p.top, .int .i64 p.bank, .int .i64 p.siphon, .int .i64 p.start, .int .i64 p.positions, .int .i64 p.rate, .int .i64 p.step, .int .i64 p.pass, .int .i64 p.feed, .int .i64 p.pipe, .int .i64 p.orders, .int .i64 p.age] 23).alloc (.cells #[.slice A n c] 26)
  have XC := Box.newAt (w := w.alloc (.cells #[.int .i64 p.top, .int .i64 p.bank, .int .i64 p.siphon, .int .i64 p.start, .int .i64 p.positions, .int .i64 p.rate, .int .i64 p.step, .int .i64 p.pass, .int .i64 p.feed, .int .i64 p.pipe, .int .i64 p.orders, .int .i64 p.age] 23)) (n := w.heap.size + 1) [.slice A n c] 26 (by simp)
  go_upto_region 1 with fail
  have HC := Lib.hid (hC.out.later hB)
  generalize (w.alloc (.cells #[.int .i64 p.top, .int .i64 p.bank, .int .i64 p.siphon, .int .i64 p.start, .int .i64 p.positions, .int .i64 p.rate, .int .i64 p.step, .int .i64 p.pass, .int .i64 p.feed, .int .i64 p.pipe, .int .i64 p.orders, .int .i64 p.age] 23)).alloc (.cells #[.slice A n c] 26) = W at hB XP XC HC ⊢
  have c0 : W.cell? ⟨w.heap.size + 1, 0, none⟩ = some (.slice A n c) := XC.cell 0
  have zc := XC.lt
  obtain ⟨t0, ht0⟩ : ∃ t0, (decide (40 < nb) || ((decide (20 < n) && decide (n ≤ 64)) || decide (100 < n))) = t0 := ⟨_, rfl⟩
  replace ht0 := Lib.hid ht0
  go_cut [30] (fun s30 wx => s30 = .bool t0 ∧ W = wx)
  case first =>
    by_cases h1 : 40 < nb
    · have e1 : (40 : Int) < (nb : Int) := by omega
      obtain rfl : t0 = true := by rw [← ht0.out, decide_eq_true h1]; rfl
      go_wp2_with fail
      go_meet
      exact ⟨rfl, rfl⟩
    have e1 : ¬ (40 : Int) < (nb : Int) := by omega
    by_cases h2 : 20 < n
    · have e2 : (20 : Int) < (n : Int) := by omega
      by_cases h3 : n ≤ 64
      · have e3 : (n : Int) ≤ 64 := by omega
        obtain rfl : t0 = true := by rw [← ht0.out, decide_eq_false h1, decide_eq_true h2, decide_eq_true h3]; rfl
        go_wp2_with fail
        go_meet
        exact ⟨rfl, rfl⟩
      have e3 : ¬ (n : Int) ≤ 64 := by omega
      by_cases h4 : 100 < n
      · have e4 : (100 : Int) < (n : Int) := by omega
        obtain rfl : t0 = true := by rw [← ht0.out, decide_eq_false h1, decide_eq_true h2, decide_eq_false h3, decide_eq_true h4]; rfl
        go_wp2_with fail
        go_meet
        exact ⟨rfl, rfl⟩
      have e4 : ¬ (100 : Int) < (n : Int) := by omega
      obtain rfl : t0 = false := by rw [← ht0.out, decide_eq_false h1, decide_eq_true h2, decide_eq_false h3, decide_eq_false h4]; rfl
      go_wp2_with fail
      go_meet
      exact ⟨rfl, rfl⟩
    have e2 : ¬ (20 : Int) < (n : Int) := by omega
    have h4 : ¬ 100 < n := by omega
    have e4 : ¬ (100 : Int) < (n : Int) := by omega
    obtain rfl : t0 = false := by rw [← ht0.out, decide_eq_false h1, decide_eq_false h2, decide_eq_false h4]; rfl
    go_wp2_with fail
    go_meet
    exact ⟨rfl, rfl⟩
  case rest =>
  obtain ⟨rfl, hw⟩ := hcut
  subst hw
  cases t0 with
  | true =>
    go_wp2
    go_ret
    first | exact ⟨_, rfl, hB⟩ | exact ⟨.inl rfl, hB⟩
  | false =>
  go_upto_region 4 with fail
  go_loop [7] (fun i => ∃ k : Nat, k ≤ n ∧ i = .int .i64 k) (fun i => n - (intOf i).toNat)
  case atStart => exact ⟨0, by omega, rfl⟩
  case round =>
    obtain ⟨k, hk, rfl⟩ := hrel
    by_cases hlt : k < n
    · have hkl : k < code.length := by rw [HN.out]; exact hlt
      obtain ⟨b, off, V, rfl, hbw, p0, p1, hV⟩ := HC.out.line hkl
      obtain ⟨A', c', rfl, hm'⟩ := hV.form
      generalize code[k].conds.length = m at p0 hm'
      unfold maxLen at hm'
      clear hV p1
      by_cases h20 : m ≤ 20
      · have e1 : ¬ (20 : Int) < (m : Int) := by omega
        go_wp2
        exact ⟨⟨k + 1, by omega, by go_num⟩, by simp [intOf]; omega⟩
      · have e1 : (20 : Int) < (m : Int) := by omega
        go_wp2
        go_ret
        first | exact ⟨_, rfl, hB⟩ | exact ⟨.inl rfl, hB⟩
    obtain rfl : k = n := by omega
    clear hlt
    have zp := XP.lt
    obtain ⟨XPc0, XPc1, XPc2, XPc3, XPc4, XPc5, XPc6, XPc7, XPc8, XPc9, XPc10, XPc11⟩ := XP.c12
    go_wp2_with fail
    refine (rcheck_at hck _).mono ?_
    rintro e w2 ⟨rfl, hb⟩
    have hB := hB.trans (hb.mono hB.size)
    have XP := XP.later hb
    clear hb zp XPc0 XPc1 XPc2 XPc3 XPc4 XPc5 XPc6 XPc7 XPc8 XPc9 XPc10 XPc11
    by_cases hc0 : ck = 0
    rotate_left
    · have e0 : (ck != 0) = true := by simp [hc0]
      go_wp2
      go_ret
      first | exact ⟨_, rfl, hB⟩ | exact ⟨.inl rfl, hB⟩
    subst hc0
    have zp := XP.lt
    obtain ⟨XPc0, XPc1, XPc2, XPc3, XPc4, XPc5, XPc6, XPc7, XPc8, XPc9, XPc10, XPc11⟩ := XP.c12
    go_wp2_with fail
    refine (rcount_is hct).mono ?_
    rintro e w3 ⟨rfl, hb⟩
    have hB := hB.trans (hb.mono hB.size)
    have XP := XP.later hb
    clear hb zp XPc0 XPc1 XPc2 XPc3 XPc4 XPc5 XPc6 XPc7 XPc8 XPc9 XPc10 XPc11
    have c8 : w3.cell? ⟨w.heap.size, 8, none⟩ = some (.int .i64 p.feed) := XP.cell 8
    have c10 : w3.cell? ⟨w.heap.size, 10, none⟩ = some (.int .i64 p.orders) := XP.cell 10
    have zp := XP.lt
    by_cases h9 : ni ≤ 1000
    · have e9 : decide (ni ≤ 1000) = true := decide_eq_true h9
      go_wp2
      go_ret
      first | exact ⟨_, rfl, hB⟩ | exact ⟨.inl rfl, hB⟩
    · have e9 : decide (ni ≤ 1000) = false := decide_eq_false h9
      go_wp2
      go_ret
      first | exact ⟨_, rfl, hB⟩ | exact ⟨.inl rfl, hB⟩
theorem zFew_is {p : Pl} {code : List Ln} {bar : List Iq} {V U : Value} {w : World} (hC : CodeAt w w.heap.size V code) (hQ : BarAt w w.heap.size U bar) :
    Calls Try.prog 11 #[p.v, .agg #[V], U] w fun e w' => ∃ t, e = .returned (.bool t) ∧ Below w.heap.size w w' := by
  obtain ⟨A, c, rfl, hm⟩ := hC.form
  obtain ⟨A2, c2, rfl, hm2⟩ := hQ.form
  unfold maxLen at hm hm2
  exact zFew_go p code A _ c A2 _ c2 w (Lib.hid hC) (Lib.hid rfl) (by omega) (by omega)
end Go.Proofs.Ytancngachnpefaa
