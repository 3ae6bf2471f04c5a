/-
  Plain facts for IntervalInside: each result is inside the result for what contains its arguments. No condition.
-/
import Derived.Test.YtmjbcmicjhgciaaYH
import Derived.Test.YtmjbcmicjhgciaaZX
import Derived.Test.YtmjbcmicjhgciaaZT
namespace Go.Proofs.Ytmjbcmicjhgciaa
open Go.RowKit

/-- If the second is no error, neither is the first, and it lies inside. -/
def In3 (x y : Int × Int × Int) : Prop := y.2.2 = 0 → x.2.2 = 0 ∧ insT x.1 x.2.1 y.1 y.2.1 = (true, 0)
theorem ins_mk {a b c d : Int} (h : okR a b = true) (h' : okR c d = true) (h1 : c ≤ a) (h2 : b ≤ d) : insT a b c d = (true, 0) := by
  rw [insT, if_pos (by rw [h, h']; rfl), decide_eq_true ⟨h1, h2⟩]
theorem ins_is {a b c d : Int} (h : insT a b c d = (true, 0)) : okR a b = true ∧ okR c d = true ∧ c ≤ a ∧ b ≤ d := by
  unfold insT at h
  split at h
  · rename_i hk
    rw [Bool.and_eq_true] at hk
    simp only [Prod.mk.injEq, decide_eq_true_eq, and_true] at h
    exact ⟨hk.1, hk.2, h.1, h.2⟩
  · simp at h
theorem cut_in {a b c d : Int} (hab : a ≤ b) (h1 : c ≤ a) (h2 : b ≤ d) : In3 (cutT a b) (cutT c d) := by
  intro h
  unfold cutT at h ⊢
  by_cases hk : okR c d = true
  · have hd := okR_bd hk
    have hk2 : okR a b = true := okR_mk (by omega)
    rw [if_pos hk, if_pos hk2]
    exact ⟨rfl, ins_mk hk2 hk h1 h2⟩
  · rw [if_neg hk] at h
    exact absurd h (by decide)
theorem mul_ends {a' b' c' d' : Int} (x y : Int) (hx : a' ≤ x ∧ x ≤ b') (hy : c' ≤ y ∧ y ≤ d') (hf : fit4 a' b' c' d' = true) : fitB x y = true := by
  have h := mul_encl hx hy
  obtain ⟨f1, f2, f3, f4⟩ := fit4_bd hf
  rw [fitB]
  exact decide_eq_true (by omega)
section
variable {a b c d a' b' c' d' : Int} (H1 : insT a b a' b' = (true, 0)) (H2 : insT c d c' d' = (true, 0))
include H1
theorem one_in : (-1099511627776 ≤ a ∧ a ≤ b ∧ b ≤ 1099511627776) ∧ (-1099511627776 ≤ a' ∧ a' ≤ b' ∧ b' ≤ 1099511627776) ∧ a' ≤ a ∧ b ≤ b' := by
  obtain ⟨h1, h2, h3, h4⟩ := ins_is H1
  exact ⟨okR_bd h1, okR_bd h2, h3, h4⟩
theorem root_in : In3 (rootT a b) (rootT a' b') := by
  obtain ⟨k1, k2, k3, k4⟩ := ins_is H1
  obtain ⟨q1, q2, q3, q4⟩ := one_in H1
  intro h
  unfold rootT at h ⊢
  rw [if_pos k1]
  rw [if_pos k2] at h ⊢
  by_cases hn : a' < 0
  · rw [if_pos hn] at h
    exact absurd h (by decide)
  rw [if_neg hn, if_neg (show ¬ a < 0 by omega)]
  refine ⟨rfl, ?_⟩
  obtain ⟨r1, r2, r3⟩ := sqrtI_is (n := a) (by omega) (by omega)
  obtain ⟨s1, s2, s3⟩ := sqrtI_is (n := a') (by omega) (by omega)
  obtain ⟨t1, t2, t3⟩ := sqrtI_is (n := b) (by omega) (by omega)
  obtain ⟨u1, u2, u3⟩ := sqrtI_is (n := b') (by omega) (by omega)
  have ba := sqrtI_bd (n := a) (by omega) (by omega)
  have ba' := sqrtI_bd (n := a') (by omega) (by omega)
  have bb := sqrtI_bd (n := b) (by omega) (by omega)
  have bb' := sqrtI_bd (n := b') (by omega) (by omega)
  have m1 : sqrtI a' ≤ sqrtI a := by
    rcases Int.lt_or_le (sqrtI a) (sqrtI a') with h | h
    · have := sq_le (show 0 ≤ sqrtI a + 1 by omega) (show sqrtI a + 1 ≤ sqrtI a' by omega)
      omega
    · exact h
  have up : ∀ n : Int, 0 ≤ n → n ≤ 1099511627776 → n ≤ rupI n * rupI n ∧ sqrtI n ≤ rupI n ∧ rupI n ≤ sqrtI n + 1 ∧ (rupI n = sqrtI n + 1 → sqrtI n * sqrtI n < n) := fun n h0 h1 => by
    obtain ⟨v1, v2, v3⟩ := sqrtI_is h0 h1
    unfold rupI
    split
    · exact ⟨by omega, by omega, by omega, fun _ => by assumption⟩
    · exact ⟨by omega, by omega, by omega, fun h => by omega⟩
  obtain ⟨x1, x2, x3, x4⟩ := up b (by omega) (by omega)
  obtain ⟨y1, y2, y3, y4⟩ := up b' (by omega) (by omega)
  obtain ⟨z1, z2, z3, z4⟩ := up a (by omega) (by omega)
  have m2 : rupI b ≤ rupI b' := by
    rcases Int.lt_or_le (rupI b') (rupI b) with h | h
    · exfalso
      have hb : sqrtI b ≥ rupI b' := by omega
      have e := sq_le (show 0 ≤ rupI b' by omega) hb
      rcases (show rupI b = sqrtI b ∨ rupI b = sqrtI b + 1 by omega) with e1 | e1
      · have := sq_le (show 0 ≤ rupI b' + 1 by omega) (show rupI b' + 1 ≤ sqrtI b by omega)
        have e2 : (rupI b' + 1) * (rupI b' + 1) = rupI b' * rupI b' + 2 * rupI b' + 1 := by grind
        omega
      · have := x4 e1
        omega
    · exact h
  have m0 : sqrtI a ≤ rupI b := by
    have : sqrtI a ≤ sqrtI b := by
      rcases Int.lt_or_le (sqrtI b) (sqrtI a) with h | h
      · have := sq_le (show 0 ≤ sqrtI b + 1 by omega) (show sqrtI b + 1 ≤ sqrtI a by omega)
        omega
      · exact h
    omega
  dsimp only
  exact ins_mk (okR_mk (by omega)) (okR_mk (by omega)) m1 m2
theorem scale_in (n e : Int) : In3 (scT a b n e (ratC n e)) (scT a' b' n e (ratC n e)) := by
  obtain ⟨k1, k2, k3, k4⟩ := ins_is H1
  obtain ⟨q1, q2, q3, q4⟩ := one_in H1
  unfold scT
  rw [if_pos k1, if_pos k2]
  by_cases hr : ratC n e = 0
  · rw [if_pos hr, if_pos hr]
    have hd : 0 < e := by
      have := (ratB_bd hr).1.1
      omega
    have e1 := mul_between (y := n) (show a' ≤ a ∧ a ≤ b' by omega)
    have e2 := mul_between (y := n) (show a' ≤ b ∧ b ≤ b' by omega)
    rw [flo_min hd, cei_max hd, flo_min hd, cei_max hd]
    refine cut_in ?_ (flo_mono hd (by omega)) (cei_mono hd (by omega))
    have := flo_le_cei (min (a * n) (b * n)) e hd
    have := cei_mono hd (show min (a * n) (b * n) ≤ max (a * n) (b * n) by omega)
    omega
  · intro h
    rw [if_neg hr] at h
    exact absurd h hr
theorem sq_in : In3 (sqT a b) (sqT a' b') := by
  obtain ⟨k1, k2, k3, k4⟩ := ins_is H1
  obtain ⟨q1, q2, q3, q4⟩ := one_in H1
  intro h
  unfold sqT at h ⊢
  rw [if_pos k1]
  rw [if_pos k2] at h ⊢
  rcases hf : fit4 a' b' a' b' with _ | _
  · rw [hf, if_neg (by decide)] at h
    exact absurd h (by decide)
  rw [hf] at h
  have g : ∀ x y : Int, a' ≤ x ∧ x ≤ b' → a' ≤ y ∧ y ≤ b' → fitB x y = true := fun x y hx hy => mul_ends x y hx hy hf
  have hf2 : fit4 a b a b = true := by
    unfold fit4
    rw [g a a (by omega) (by omega), g a b (by omega) (by omega), g b a (by omega) (by omega), g b b (by omega) (by omega)]
    rfl
  rw [if_pos hf2, if_pos rfl]
  refine ⟨rfl, ?_⟩
  have m1 := mul_yes (a := a) (b := b) (c := a) (d := b) (by rw [k1]; rfl) hf2
  have m2 := mul_yes (a := a') (b := b') (c := a') (d := b') (by rw [k2]; rfl) hf
  rw [m1.out, m2.out]
  dsimp only
  have l1 : lstT a b = max a (max (-b) 0) := rfl
  have l2 : lstT a' b' = max a' (max (-b') 0) := rfl
  have l3 := sq_le (show 0 ≤ lstT a' b' by omega) (show lstT a' b' ≤ lstT a b by omega)
  have l0 := sq_nonneg (lstT a' b')
  have e1 := mul_encl (show a' ≤ a ∧ a ≤ b' by omega) (show a' ≤ a ∧ a ≤ b' by omega)
  have e2 := mul_encl (show a' ≤ a ∧ a ≤ b' by omega) (show a' ≤ b ∧ b ≤ b' by omega)
  have e3 := mul_encl (show a' ≤ b ∧ b ≤ b' by omega) (show a' ≤ a ∧ a ≤ b' by omega)
  have e4 := mul_encl (show a' ≤ b ∧ b ≤ b' by omega) (show a' ≤ b ∧ b ≤ b' by omega)
  obtain ⟨f1, f2, f3, f4⟩ := fit4_bd hf
  have l4 : lstT a b * lstT a b ≤ max (max (max (a * a) (a * b)) (b * a)) (b * b) := by
    rcases (show lstT a b = a ∨ lstT a b = -b ∨ lstT a b = 0 by omega) with e | e | e
    · rw [e]; omega
    · rw [e]
      have : -b * -b = b * b := by grind
      omega
    · rw [e]
      have := sq_nonneg a
      omega
  have l5 : lstT a' b' * lstT a' b' ≤ max (max (max (a' * a') (a' * b')) (b' * a')) (b' * b') := by omega
  exact ins_mk (okR_mk (by omega)) (okR_mk (by omega)) l3 (by omega)
include H2
theorem add_in : In3 (addT a b c d) (addT a' b' c' d') := by
  obtain ⟨k1, k2, k3, k4⟩ := ins_is H1
  obtain ⟨l1, l2, l3, l4⟩ := ins_is H2
  have q := one_in H1
  have r := one_in H2
  unfold addT
  rw [if_pos (by rw [k1, l1]; rfl), if_pos (by rw [k2, l2]; rfl)]
  exact cut_in (by omega) (by omega) (by omega)
theorem sub_in : In3 (subT a b c d) (subT a' b' c' d') := by
  obtain ⟨k1, k2, k3, k4⟩ := ins_is H1
  obtain ⟨l1, l2, l3, l4⟩ := ins_is H2
  have q := one_in H1
  have r := one_in H2
  unfold subT
  rw [if_pos (by rw [k1, l1]; rfl), if_pos (by rw [k2, l2]; rfl)]
  exact cut_in (by omega) (by omega) (by omega)
theorem hull_in : In3 (hul2T a b c d) (hul2T a' b' c' d') := by
  obtain ⟨k1, k2, k3, k4⟩ := ins_is H1
  obtain ⟨l1, l2, l3, l4⟩ := ins_is H2
  have q := one_in H1
  have r := one_in H2
  unfold hul2T
  rw [if_pos (by rw [k1, l1]; rfl), if_pos (by rw [k2, l2]; rfl)]
  intro _
  refine ⟨rfl, ?_⟩
  dsimp only
  exact ins_mk (okR_mk (by omega)) (okR_mk (by omega)) (by omega) (by omega)
theorem mul_in : In3 (mulT a b c d) (mulT a' b' c' d') := by
  obtain ⟨k1, k2, k3, k4⟩ := ins_is H1
  obtain ⟨l1, l2, l3, l4⟩ := ins_is H2
  have q := one_in H1
  have r := one_in H2
  intro h
  rcases hf : fit4 a' b' c' d' with _ | _
  · rw [(mul_no (a := a') (b := b') (by rw [k2, l2]; rfl) hf).out] at h
    exact absurd h (by decide)
  have g : ∀ x y : Int, a' ≤ x ∧ x ≤ b' → c' ≤ y ∧ y ≤ d' → fitB x y = true := fun x y hx hy => mul_ends x y hx hy hf
  have hf2 : fit4 a b c d = true := by
    unfold fit4
    rw [g a c (by omega) (by omega), g a d (by omega) (by omega), g b c (by omega) (by omega), g b d (by omega) (by omega)]
    rfl
  rw [(mul_yes (a := a) (b := b) (c := c) (d := d) (by rw [k1, l1]; rfl) hf2).out, (mul_yes (a := a') (b := b') (c := c') (d := d') (by rw [k2, l2]; rfl) hf).out]
  refine ⟨rfl, ?_⟩
  dsimp only
  have e1 := mul_encl (show a' ≤ a ∧ a ≤ b' by omega) (show c' ≤ c ∧ c ≤ d' by omega)
  have e2 := mul_encl (show a' ≤ a ∧ a ≤ b' by omega) (show c' ≤ d ∧ d ≤ d' by omega)
  have e3 := mul_encl (show a' ≤ b ∧ b ≤ b' by omega) (show c' ≤ c ∧ c ≤ d' by omega)
  have e4 := mul_encl (show a' ≤ b ∧ b ≤ b' by omega) (show c' ≤ d ∧ d ≤ d' by omega)
  obtain ⟨f1, f2, f3, f4⟩ := fit4_bd hf
  obtain ⟨f5, f6, f7, f8⟩ := fit4_bd hf2
  exact ins_mk (okR_mk (by omega)) (okR_mk (by omega)) (by omega) (by omega)
end

/-- The seven results of two intervals and a ratio. -/
def resL (a b c d n e : Int) : List (Int × Int × Int) := [addT a b c d, subT a b c d, mulT a b c d, sqT a b, scT a b n e (ratC n e), rootT a b, hul2T a b c d]
theorem res_in {a b c d a' b' c' d' : Int} (H1 : insT a b a' b' = (true, 0)) (H2 : insT c d c' d' = (true, 0)) (n e : Int) {k : Nat} (hk : k < 7) : In3 ((resL a b c d n e).getD k (0, 0, 0)) ((resL a' b' c' d' n e).getD k (0, 0, 0)) := by
  rcases k with _ | _ | _ | _ | _ | _ | _ | k
  · exact add_in H1 H2
  · exact sub_in H1 H2
  · exact mul_in H1 H2
  · exact sq_in H1
  · exact scale_in H1 n e
  · exact root_in H1
  · exact hull_in H1 H2
  · omega
def cells3 : List (Int × Int × Int) → List Value
  | [] => []
  | x :: l => .int .i64 x.1 :: .int .i64 x.2.1 :: .int .i64 x.2.2 :: cells3 l
theorem cells3_get {l : List (Int × Int × Int)} {k : Nat} (hk : k < l.length) : (cells3 l)[k * 3]? = some (.int .i64 (l.getD k (0, 0, 0)).1) ∧ (cells3 l)[k * 3 + 1]? = some (.int .i64 (l.getD k (0, 0, 0)).2.1) ∧ (cells3 l)[k * 3 + 2]? = some (.int .i64 (l.getD k (0, 0, 0)).2.2) := by
  induction l generalizing k with
  | nil => simp at hk
  | cons x l ih =>
    rcases k with _ | k
    · exact ⟨rfl, rfl, rfl⟩
    · have := ih (k := k) (by simpa using hk)
      have e : ∀ j, (k + 1) * 3 + j = (k * 3 + j) + 1 + 1 + 1 := fun j => by omega
      refine ⟨?_, ?_, ?_⟩
      · rw [show (k + 1) * 3 = (k * 3) + 1 + 1 + 1 by omega]; exact this.1
      · rw [e 1]; exact this.2.1
      · rw [e 2]; exact this.2.2

end Go.Proofs.Ytmjbcmicjhgciaa
