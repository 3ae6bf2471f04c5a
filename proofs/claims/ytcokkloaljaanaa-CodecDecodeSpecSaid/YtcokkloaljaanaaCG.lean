/-
  Contracts of count and Few of the reference, and of few of the laws' file. No condition.
-/
import Derived.Test.YtcokkloaljaanaaCI
namespace Go.Proofs.Ytcokkloaljaanaa
open Go.RowKit

mutual
/-- Numbers are in their range, and no string is longer than a string can be. -/
def Val.fits : Val → Prop
  | .mk _ n s l => (-9223372036854775808 ≤ n ∧ n ≤ 9223372036854775807) ∧ (s.length ≤ maxLen ∧ l.length ≤ maxLen) ∧ fitsL l
def fitsL : List Val → Prop
  | [] => True
  | x :: l => x.fits ∧ fitsL l
end
theorem fits_mem {l : List Val} (h : fitsL l) {x : Val} (hx : x ∈ l) : x.fits := by
  induction l with
  | nil => cases hx
  | cons y l ih =>
    rw [fitsL] at h
    rcases List.mem_cons.1 hx with rfl | hx
    · exact h.1
    · exact ih h.2 hx
theorem fitsL_of {l : List Val} (h : ∀ x ∈ l, x.fits) : fitsL l := by
  induction l with
  | nil => trivial
  | cons y l ih => exact ⟨h y List.mem_cons_self, ih fun x hx => h x (List.mem_cons_of_mem _ hx)⟩
theorem Val.fits.parts {x : Val} (h : x.fits) : (-9223372036854775808 ≤ x.num ∧ x.num ≤ 9223372036854775807) ∧ (x.str.length ≤ maxLen ∧ x.elems.length ≤ maxLen) ∧ fitsL x.elems := by
  obtain ⟨k, n, s, l⟩ := x
  rw [Val.fits] at h
  exact h
theorem Val.fits.nums {x : Val} (h : x.fits) : -9223372036854775808 ≤ x.num ∧ x.num ≤ 9223372036854775807 := h.parts.1
theorem Val.fits.strs {x : Val} (h : x.fits) : x.str.length ≤ maxLen := h.parts.2.1.1
theorem Val.fits.lens {x : Val} (h : x.fits) : x.elems.length ≤ maxLen := h.parts.2.1.2
theorem Val.fits.els {x : Val} (h : x.fits) : fitsL x.elems := h.parts.2.2

/-- The parts of a value, counted f - 1 deep. -/
def Val.cnt : Nat → Val → Nat
  | 0, _ => 1000
  | f + 1, x => if 150 < x.elems.length then 1000 else x.elems.foldl (fun n y => if n ≤ 1000 then n + Val.cnt f y else n) (1 + x.str.length / 200)
def cntL (f : Nat) (l : List Val) (n : Nat) : Nat := l.foldl (fun n y => if n ≤ 1000 then n + Val.cnt f y else n) n
theorem cnt_zero (x : Val) : x.cnt 0 = 1000 := by rw [Val.cnt]
theorem cnt_long (f : Nat) (x : Val) (h : 150 < x.elems.length) : x.cnt (f + 1) = 1000 := by rw [Val.cnt, if_pos h]
theorem cnt_succ (f : Nat) (x : Val) (h : ¬ 150 < x.elems.length) : x.cnt (f + 1) = cntL f x.elems (1 + x.str.length / 200) := by rw [Val.cnt, if_neg h]; rfl
theorem cntL_over {f : Nat} {l : List Val} {n : Nat} (h : 1000 < n) : cntL f l n = n := by
  induction l with
  | nil => rfl
  | cons x l ih => rw [cntL, List.foldl_cons, if_neg (by omega)]; exact ih
theorem cntL_snoc (f : Nat) (l : List Val) (x : Val) (n : Nat) : cntL f (l ++ [x]) n = if cntL f l n ≤ 1000 then cntL f l n + x.cnt f else cntL f l n := by
  rw [cntL, List.foldl_append]; rfl
theorem cntL_split (f : Nat) (l : List Val) (k n : Nat) : cntL f l n = cntL f (l.drop k) (cntL f (l.take k) n) := by
  rw [cntL, cntL, cntL, ← List.foldl_append, List.take_append_drop]
theorem cntL_bound {f : Nat} {l : List Val} {n M : Nat} (hn : n ≤ M + 1000) (h : ∀ x ∈ l, x.cnt f ≤ M) : cntL f l n ≤ M + 1000 := by
  induction l generalizing n with
  | nil => exact hn
  | cons x l ih =>
    rw [cntL, List.foldl_cons]
    have h1 := h x List.mem_cons_self
    refine ih ?_ fun y hy => h y (List.mem_cons_of_mem _ hy)
    split <;> omega
theorem cnt_bound (f : Nat) : ∀ x : Val, x.fits → x.cnt f ≤ 100000000000000000 + f * 1000 := by
  induction f with
  | zero => intro x _; rw [cnt_zero]; omega
  | succ f ih =>
    intro x hx
    by_cases h : 150 < x.elems.length
    · rw [cnt_long f x h]; omega
    · rw [cnt_succ f x h]
      have hs := hx.strs
      unfold maxLen at hs
      have := cntL_bound (f := f) (l := x.elems) (n := 1 + x.str.length / 200) (M := 100000000000000000 + f * 1000) (by omega) (fun y hy => ih y (fits_mem hx.els hy))
      omega

def CountR (f : Nat) : Prop := ∀ (d : Nat) (x : Val) (L : Value) (w : World), ValsAt w w.heap.size d L x.elems → x.fits →
    Calls Try.prog 36 #[x.v L, .int .i64 ((f : Int) - 1)] w fun e w' => e = .returned (.int .i64 (x.cnt f)) ∧ Below w.heap.size w w'
theorem strB_size (s : List UInt8) : (strB s).size = s.length := rfl
theorem strB_len (s : List UInt8) : (strB s).toList.length = s.length := by rw [strB_toList]

set_option maxRecDepth 100000 in
set_option maxHeartbeats 2000000 in
theorem count_zero : CountR 0 := by
  intro d x L w hV hx
  obtain ⟨A, c, rfl, hm⟩ := hV.form
  rw [cnt_zero]
  have hs := hx.strs
  have hz := strB_size x.str
  have hst := (Below.refl w.heap.size w).alloc (Nat.le_refl _) (.cells #[.int .i64 x.kind, .int .i64 x.num, .string (strB x.str), .slice A x.elems.length c] 24)
  dsimp only [Val.v] at hst ⊢
  have ST := Lib.hid hst
  clear hst hV hx
  unfold maxLen at hs hm
  generalize x.kind = xk, x.num = xn, x.str.length = xs, x.elems.length = xl at ST hs hz hm ⊢
  generalize strB x.str = sb at ST hz ⊢
  have hz2 : sb.size ≤ 9223372036854775807 := by omega
  have HZ := Lib.hid hz
  clear hz
  have e : ((0 : Nat) : Int) - 1 = -1 := rfl
  rw [e]
  go_enter Try.func36, Try.ntmps36
  go_wp2
  all_goals
    go_ret
    exact ⟨rfl, ST.out⟩

set_option maxRecDepth 100000 in
set_option maxHeartbeats 4000000 in
theorem count_step (f : Nat) (hf : f ≤ 1000) (ih : CountR f) : CountR (f + 1) := by
  intro d x L w hV hx
  obtain ⟨A, c, rfl, hm⟩ := hV.form
  have hs := hx.strs
  have hz := strB_size x.str
  have hB := (Below.refl w.heap.size w).alloc (Nat.le_refl _) (.cells #[.int .i64 x.kind, .int .i64 x.num, .string (strB x.str), .slice A x.elems.length c] 24)
  have X := Box.new w [.int .i64 x.kind, .int .i64 x.num, .string (strB x.str), .slice A x.elems.length c] 24
  dsimp only [Val.v] at hB X ⊢
  unfold maxLen at hs hm
  have IH := Lib.hid ih
  have e : ((f + 1 : Nat) : Int) - 1 = (f : Int) := by omega
  rw [e]
  clear ih e
  by_cases hlong : 150 < x.elems.length
  · rw [cnt_long f x hlong]
    have ST := Lib.hid hB
    clear hB X hV hx
    generalize x.kind = xk, x.num = xn, x.str.length = xs, x.elems.length = xl at ST hs hz hm hlong ⊢
    generalize strB x.str = sb at ST hz ⊢
    have hz2 : sb.size ≤ 9223372036854775807 := by omega
    clear hz
    go_enter Try.func36, Try.ntmps36
    go_wp2
    all_goals
      go_ret
      exact ⟨rfl, ST.out⟩
  · obtain ⟨r, hr⟩ : ∃ r, cntL f x.elems (1 + x.str.length / 200) = r := ⟨_, rfl⟩
    rw [cnt_succ f x hlong, hr]
    have HR := Lib.hid hr
    have HX := Lib.hid hx.els
    obtain ⟨l, hl⟩ : ∃ l, x.elems = l := ⟨_, rfl⟩
    rw [hl] at HR HX hV hm hlong hB X ⊢
    obtain ⟨n, hn⟩ : ∃ n, l.length = n := ⟨_, rfl⟩
    rw [hn] at hV hm hlong hB X ⊢
    have HN := Lib.hid hn
    have HV := Lib.hid hV
    clear hr hx hl hn hV
    obtain ⟨c0, hc0⟩ : ∃ c0, 1 + x.str.length / 200 = c0 := ⟨_, rfl⟩
    rw [hc0] at HR
    have hc0b : c0 ≤ 100000000000000000 := by omega
    have HC0 : Hid (c0 = 1 + (strB x.str).size / 200) := by rw [Hid, hz, hc0]
    clear hc0 hz
    have hz2 : (strB x.str).size ≤ 9223372036854775807 := by rw [strB_size]; omega
    clear hs
    generalize strB x.str = sb at hB X HC0 hz2 ⊢
    generalize x.kind = xk, x.num = xn at hB X ⊢
    go_enter Try.func36, Try.ntmps36
    go_wp2
    go_loopw [5, 6] (fun cn i wr => ∃ k : Nat, k ≤ n ∧ i = .int .i64 k ∧ cn = .int .i64 (cntL f (l.take k) c0) ∧ Below w.heap.size w wr ∧ Box wr w.heap.size [.int .i64 xk, .int .i64 xn, .string sb, .slice A n c]) (fun _ i _ => n - (intOf i).toNat)
    case atStart => exact ⟨0, Nat.zero_le _, rfl, by rw [HC0.out]; simp [cntL], hB, X⟩
    case round =>
      clear hB X
      obtain ⟨k, hk, rfl, rfl, hB, X⟩ := hrel
      have x3 : wr.cell? ⟨w.heap.size, 3, none⟩ = some (.slice A n c) := X.cell 3
      have xz := X.lt
      have hcb : cntL f (l.take k) c0 ≤ 100000000000000000 + f * 1000 + 1000 := cntL_bound (by omega) fun y hy => cnt_bound f y (fits_mem HX.out (List.mem_of_mem_take hy))
      by_cases hlt : k < n
      · have hlt' : k < l.length := by rw [HN.out]; exact hlt
        have htk := List.take_succ_eq_append_getElem hlt'
        have hsn : cntL f (l.take (k + 1)) c0 = if cntL f (l.take k) c0 ≤ 1000 then cntL f (l.take k) c0 + (l[k]).cnt f else cntL f (l.take k) c0 := by rw [htk, cntL_snoc]
        have hfx := fits_mem HX.out (List.getElem_mem hlt')
        have hxb := cnt_bound f _ hfx
        have hover : 1000 < cntL f (l.take k) c0 → r = cntL f (l.take k) c0 := fun h => by rw [← HR.out, cntL_split f l k c0, cntL_over h]
        obtain ⟨d', b, off, V, rfl, rfl, hb, c0', c1, c2, c3, hE⟩ := HV.out.elem hlt'
        generalize l[k] = y at c0' c1 c2 c3 hE hsn hfx hxb
        obtain ⟨A', c', rfl, _⟩ := hE.form
        replace c0' := (hB.cell (p := ⟨b, off + k * 4, none⟩) hb).trans c0'
        replace c1 := (hB.cell (p := ⟨b, off + k * 4 + 1, none⟩) hb).trans c1
        replace c2 := (hB.cell (p := ⟨b, off + k * 4 + 2, none⟩) hb).trans c2
        replace c3 := (hB.cell (p := ⟨b, off + k * 4 + 3, none⟩) hb).trans c3
        have HC := Lib.hid (IH.out d' y _ _ ((hE.below hB).more hB.size) hfx)
        have HS := Lib.hid hsn
        have HO := Lib.hid hover
        generalize y.cnt f = yc at HC HS hxb
        dsimp only [Val.v] at HC
        clear hE hsn hfx hover htk
        generalize y.kind = ak, y.num = an, strB y.str = as', y.elems.length = al at c0' c1 c2 c3 HC
        generalize cntL f (l.take k) c0 = cn at hcb HS HO ⊢
        by_cases h1 : cn ≤ 1000
        · have HS2 : Hid (cntL f (l.take (k + 1)) c0 = cn + yc) := HS.out.trans (if_pos h1)
          clear HS HO
          go_wp2_with fail
          refine HC.out.mono ?_
          rintro e w1 ⟨rfl, hb1⟩
          have hB' := hB.trans (hb1.mono hB.size)
          have X' := X.later hb1
          clear hb1 hB X x3 HC c0' c1 c2 c3
          go_wp2
          refine ⟨⟨k + 1, by omega, by go_num, ?_, hB', X'⟩, by simp [intOf]; omega⟩
          rw [HS2.out]
          congr 1
        · have HF := Lib.hid (HO.out (by omega))
          clear HS HO
          go_wp2
          go_ret
          exact ⟨by rw [HF.out]; rfl, hB⟩
      · obtain rfl : k = n := by omega
        have hfull : l.take k = l := List.take_of_length_le (by rw [HN.out]; exact Nat.le_refl _)
        rw [hfull] at hcb ⊢
        rw [HR.out] at hcb ⊢
        by_cases h1 : r ≤ 1000
        all_goals
          go_wp2
          go_ret
          exact ⟨rfl, hB⟩

theorem CountR.all (f : Nat) (hf : f ≤ 1001) : CountR f := by
  induction f with
  | zero => exact count_zero
  | succ f ih => exact count_step f (by omega) (ih (by omega))

end Go.Proofs.Ytcokkloaljaanaa
