/-
  Equality of values: contracts of Same of codec and of the reference, and of slices.EqualFunc. No condition.
-/
import Derived.Test.YtcokkloaljaanaaCE
import Derived.BigQuiet
import Derived.Deep.QuietTactic
namespace Go.Proofs.Ytcokkloaljaanaa
open Go.RowKit

mutual
def Val.same : Val → Val → Bool
  | .mk k n s l, .mk k' n' s' l' => decide (k = k') && (decide (n = n') && (decide (s = s') && sameL l l'))
def sameL : List Val → List Val → Bool
  | [], [] => true
  | [], _ :: _ => false
  | _ :: _, [] => false
  | x :: l, y :: m => x.same y && sameL l m
end
mutual
theorem Val.same_iff : ∀ x y : Val, x.same y = true ↔ x = y
  | .mk k n s l, .mk k' n' s' l' => by
    rw [Val.same, Bool.and_eq_true, Bool.and_eq_true, Bool.and_eq_true, decide_eq_true_eq, decide_eq_true_eq, decide_eq_true_eq, sameL_iff l l', Val.mk.injEq]
theorem sameL_iff : ∀ l m : List Val, sameL l m = true ↔ l = m
  | [], [] => by simp [sameL]
  | [], _ :: _ => by simp [sameL]
  | _ :: _, [] => by simp [sameL]
  | x :: l, y :: m => by rw [sameL, Bool.and_eq_true, Val.same_iff x y, sameL_iff l m, List.cons.injEq]
end
theorem Val.same_refl (x : Val) : x.same x = true := (x.same_iff x).2 rfl
theorem sameL_len {l m : List Val} (h : l.length ≠ m.length) : sameL l m = false := by
  rcases h2 : sameL l m with _ | _
  · rfl
  · rw [(sameL_iff l m).1 h2] at h; exact absurd rfl h
theorem sameL_at {l m : List Val} {k : Nat} (h1 : k < l.length) (h2 : k < m.length) (h : (l[k]).same m[k] = false) : sameL l m = false := by
  rcases h3 : sameL l m with _ | _
  · rfl
  · have e := (sameL_iff l m).1 h3
    subst e
    rw [Val.same_refl] at h
    cases h
theorem sameL_all {l m : List Val} (hl : l.length = m.length) (h : ∀ k (h1 : k < l.length) (h2 : k < m.length), (l[k]).same m[k] = true) : sameL l m = true := by
  refine (sameL_iff l m).2 (List.ext_getElem hl fun k h1 h2 => ((l[k]).same_iff m[k]).1 (h k h1 h2))
/-- All pairs before k are equal. -/
def SamePre (l m : List Val) (k : Nat) : Prop := ∀ j (h1 : j < l.length) (h2 : j < m.length), j < k → (l[j]).same m[j] = true
theorem SamePre.zero (l m : List Val) : SamePre l m 0 := fun j _ _ h => by omega
theorem SamePre.snoc {l m : List Val} {k : Nat} (h : SamePre l m k) (h1 : k < l.length) (h2 : k < m.length) (hs : (l[k]).same m[k] = true) : SamePre l m (k + 1) := fun j a b hj => by
  rcases Nat.lt_or_ge j k with hlt | hge
  · exact h j a b hlt
  · obtain rfl : j = k := by omega
    exact hs
theorem SamePre.full {l m : List Val} {n : Nat} (h : SamePre l m n) (h1 : l.length = n) (h2 : m.length = n) : sameL l m = true :=
  sameL_all (h1.trans h2.symm) fun k a b => h k a b (by omega)
theorem strB_inj {s t : List UInt8} : strB s = strB t ↔ s = t := by
  constructor
  · intro h
    have := congrArg ByteArray.toList h
    rwa [strB_toList, strB_toList] at this
  · rintro rfl; rfl

def SameC (d : Nat) : Prop := ∀ (x y : Val) (L M : Value) (w : World), ValsAt w w.heap.size d L x.elems → ValsAt w w.heap.size d M y.elems →
    Calls Try.prog 21 #[x.v L, y.v M] w fun e w' => e = .returned (.bool (x.same y)) ∧ Below w.heap.size w w'

set_option maxRecDepth 100000 in
set_option maxHeartbeats 4000000 in
theorem equal_any (d : Nat) (ih : ∀ d', d' < d → SameC d') (l m : List Val) (L M : Value) (w : World) (hV : ValsAt w w.heap.size d L l) (hW : ValsAt w w.heap.size d M m) (rb : Bool) (hr : Hid (sameL l m = rb)) :
    Calls Try.prog 35 #[L, M, .func (.func 21) #[] #[]] w fun e w' => e = .returned (.bool rb) ∧ Below w.heap.size w w' := by
  obtain ⟨A, c, rfl, hm1⟩ := hV.form
  obtain ⟨B, c2, rfl, hm2⟩ := hW.form
  unfold maxLen at hm1 hm2
  obtain ⟨n, hn⟩ : ∃ n, l.length = n := ⟨_, rfl⟩
  obtain ⟨n2, hn2⟩ : ∃ n, m.length = n := ⟨_, rfl⟩
  rw [hn] at hm1 hV ⊢
  rw [hn2] at hm2 hW ⊢
  have HN := Lib.hid hn
  have HN2 := Lib.hid hn2
  have HV := Lib.hid hV
  have HW := Lib.hid hW
  have IH := Lib.hid ih
  clear hn hn2 hV hW ih
  by_cases hl : n = n2
  · subst hl
    have hB := Below.refl w.heap.size w
    go_enter Try.func35, Try.ntmps35
    go_wp2
    go_loopw [17] (fun i wr => ∃ k : Nat, k ≤ n ∧ i = .int .i64 k ∧ Hid (SamePre l m k) ∧ Below w.heap.size w wr) (fun i _ => n - (intOf i).toNat)
    case atStart => exact ⟨0, Nat.zero_le _, rfl, Lib.hid (SamePre.zero l m), hB⟩
    case round =>
      clear hB
      obtain ⟨k, hk, rfl, hp, hB⟩ := hrel
      by_cases hlt : k < n
      · have hl1 : k < l.length := by rw [HN.out]; exact hlt
        have hl2 : k < m.length := by rw [HN2.out]; exact hlt
        obtain ⟨d', b, off, V, rfl, rfl, hb, c0, c1, c2, c3, hE⟩ := HV.out.elem hl1
        obtain ⟨d'', b2, off2, V2, e2, rfl, hb2, e0, e1, e2', e3, hE2⟩ := HW.out.elem hl2
        obtain rfl : d'' = d' := by omega
        have hsn : (l[k]).same m[k] = true → SamePre l m (k + 1) := hp.out.snoc hl1 hl2
        have hno : (l[k]).same m[k] = false → sameL l m = false := sameL_at hl1 hl2
        generalize l[k] = x at c0 c1 c2 c3 hE hsn hno
        generalize m[k] = y at e0 e1 e2' e3 hE2 hsn hno
        obtain ⟨A', c', rfl, _⟩ := hE.form
        obtain ⟨B', f', rfl, _⟩ := hE2.form
        replace c0 := (hB.cell (p := ⟨b, off + k * 4, none⟩) hb).trans c0
        replace c1 := (hB.cell (p := ⟨b, off + k * 4 + 1, none⟩) hb).trans c1
        replace c2 := (hB.cell (p := ⟨b, off + k * 4 + 2, none⟩) hb).trans c2
        replace c3 := (hB.cell (p := ⟨b, off + k * 4 + 3, none⟩) hb).trans c3
        replace e0 := (hB.cell (p := ⟨b2, off2 + k * 4, none⟩) hb2).trans e0
        replace e1 := (hB.cell (p := ⟨b2, off2 + k * 4 + 1, none⟩) hb2).trans e1
        replace e2' := (hB.cell (p := ⟨b2, off2 + k * 4 + 2, none⟩) hb2).trans e2'
        replace e3 := (hB.cell (p := ⟨b2, off2 + k * 4 + 3, none⟩) hb2).trans e3
        have hbw := Nat.lt_of_lt_of_le hb2 hB.size
        have hbw2 : b2 < wr.heap.size + 1 := by omega
        obtain ⟨q, hq⟩ : ∃ q, x.same y = q := ⟨_, rfl⟩
        rw [hq] at hsn hno
        have st1 := (Below.refl wr.heap.size wr).alloc (Nat.le_refl _) (.cells #[.int .i64 x.kind, .int .i64 x.num, .string (strB x.str), .slice A' x.elems.length c'] 24)
        have st2 := st1.alloc st1.size (.cells #[.int .i64 y.kind, .int .i64 y.num, .string (strB y.str), .slice B' y.elems.length f'] 24)
        have HC := Lib.hid (IH.out d'' (by omega) x y _ _ _ (((hE.below hB).more hB.size).later st2) (((hE2.below hB).more hB.size).later st2))
        rw [hq] at HC
        have ST := Lib.hid st2
        have HS := Lib.hid hsn
        have HO := Lib.hid hno
        clear hE hE2 hq hsn hno st1 st2 e2
        dsimp only [Val.v] at HC ST
        generalize x.kind = xk, x.num = xn, strB x.str = xs, x.elems.length = xl at c0 c1 c2 c3 HC ST
        generalize y.kind = yk, y.num = yn, strB y.str = ys, y.elems.length = yl at e0 e1 e2' e3 HC ST
        go_wp2_with fail
        refine HC.out.mono ?_
        rintro e w1 ⟨rfl, hb1⟩
        have hB' := hB.trans ((ST.out.trans (hb1.mono (by simp <;> omega))).mono hB.size)
        clear hb1 hB ST HC c0 c1 c2 c3 e0 e1 e2' e3
        cases q
        · have HF := Lib.hid (hr.out.symm.trans (HO.out rfl))
          go_wp2
          go_ret
          exact ⟨by rw [HF.out]; rfl, hB'⟩
        · have HK := Lib.hid (HS.out rfl)
          go_wp2
          exact ⟨⟨k + 1, by omega, by go_num, HK, hB'⟩, by simp [intOf]; omega⟩
      · obtain rfl : k = n := by omega
        have HF := Lib.hid (hr.out.symm.trans (hp.out.full HN.out HN2.out))
        go_wp2
        go_ret
        exact ⟨by rw [HF.out]; rfl, hB⟩
  · have hne : ((n : Int) != (n2 : Int)) = true := by simp; omega
    have HF := Lib.hid (hr.out.symm.trans (sameL_len (by rw [HN.out, HN2.out]; exact hl)))
    go_enter Try.func35, Try.ntmps35
    go_wp2
    all_goals
      go_ret
      exact ⟨by rw [HF.out]; rfl, Below.refl _ _⟩

end Go.Proofs.Ytcokkloaljaanaa
