/-
  IntervalLaws: the plain law.
-/
import Derived.Test.YtmjbcmicjhgciaaZT
import Derived.Test.YtmjbcmicjhgciaaZL
namespace Go.Proofs.Ytmjbcmicjhgciaa
open Go.RowKit

theorem cut_zero {lo hi p q e : Int} (h : cutT lo hi = (p, q, e)) (he : e = 0) : okR lo hi = true ∧ p = lo ∧ q = hi := by
  unfold cutT at h
  split at h
  · rename_i hk
    simp only [Prod.mk.injEq] at h
    exact ⟨hk, h.1.symm, h.2.1.symm⟩
  · simp only [Prod.mk.injEq] at h
    omega
theorem add_zero {a b c d p q e : Int} (h : addT a b c d = (p, q, e)) (he : e = 0) : okR a b = true ∧ okR c d = true ∧ okR p q = true ∧ p = a + c ∧ q = b + d := by
  unfold addT at h
  split at h
  · rename_i hk
    rw [Bool.and_eq_true] at hk
    obtain ⟨h1, rfl, rfl⟩ := cut_zero h he
    exact ⟨hk.1, hk.2, h1, rfl, rfl⟩
  · simp only [Prod.mk.injEq] at h
    omega
theorem sub_zero' {a b c d p q e : Int} (h : subT a b c d = (p, q, e)) (he : e = 0) : okR a b = true ∧ okR c d = true ∧ okR p q = true ∧ p = a - d ∧ q = b - c := by
  unfold subT at h
  split at h
  · rename_i hk
    rw [Bool.and_eq_true] at hk
    obtain ⟨h1, rfl, rfl⟩ := cut_zero h he
    exact ⟨hk.1, hk.2, h1, rfl, rfl⟩
  · simp only [Prod.mk.injEq] at h
    omega
def mn4 (p q r s : Int) : Int := min (min (min p q) r) s
def mx4 (p q r s : Int) : Int := max (max (max p q) r) s
theorem mul_zero' {a b c d p q e : Int} (h : mulT a b c d = (p, q, e)) (he : e = 0) : okR a b = true ∧ okR c d = true ∧ okR p q = true ∧ p = mn4 (a * c) (a * d) (b * c) (b * d) ∧ q = mx4 (a * c) (a * d) (b * c) (b * d) := by
  unfold mulT at h
  split at h
  · rename_i hk
    rw [Bool.and_eq_true] at hk
    split at h
    · rename_i hf
      simp only [Prod.mk.injEq] at h
      obtain ⟨f1, f2, f3, f4⟩ := fit4_bd hf
      refine ⟨hk.1, hk.2, okR_mk ?_, h.1.symm, h.2.1.symm⟩
      rw [← h.1, ← h.2.1]
      omega
    · simp only [Prod.mk.injEq] at h
      omega
  · simp only [Prod.mk.injEq] at h
    omega
theorem addT_comm (a b c d : Int) : addT c d a b = addT a b c d := by
  unfold addT
  rw [Bool.and_comm, Int.add_comm c a, Int.add_comm d b]
theorem fitB_comm (x y : Int) : fitB x y = fitB y x := by unfold fitB; rw [Int.mul_comm]
theorem mulT_comm (a b c d : Int) : mulT c d a b = mulT a b c d := by
  unfold mulT
  have h : fit4 c d a b = fit4 a b c d := by
    unfold fit4
    rw [fitB_comm c a, fitB_comm c b, fitB_comm d a, fitB_comm d b]
    cases fitB a c <;> cases fitB a d <;> cases fitB b c <;> cases fitB b d <;> rfl
  rw [Bool.and_comm, h, Int.mul_comm c a, Int.mul_comm c b, Int.mul_comm d a, Int.mul_comm d b]
  have e1 : min (min (min (a * c) (b * c)) (a * d)) (b * d) = min (min (min (a * c) (a * d)) (b * c)) (b * d) := by omega
  have e2 : max (max (max (a * c) (b * c)) (a * d)) (b * d) = max (max (max (a * c) (a * d)) (b * c)) (b * d) := by omega
  rw [e1, e2]

theorem ends_scale (x1 x2 x3 x4 u : Int) : min (mn4 x1 x2 x3 x4 * u) (mx4 x1 x2 x3 x4 * u) = mn4 (x1 * u) (x2 * u) (x3 * u) (x4 * u) ∧ max (mn4 x1 x2 x3 x4 * u) (mx4 x1 x2 x3 x4 * u) = mx4 (x1 * u) (x2 * u) (x3 * u) (x4 * u) := by
  have hm : mn4 x1 x2 x3 x4 = x1 ∨ mn4 x1 x2 x3 x4 = x2 ∨ mn4 x1 x2 x3 x4 = x3 ∨ mn4 x1 x2 x3 x4 = x4 := min4 x1 x2 x3 x4
  have hM : mx4 x1 x2 x3 x4 = x1 ∨ mx4 x1 x2 x3 x4 = x2 ∨ mx4 x1 x2 x3 x4 = x3 ∨ mx4 x1 x2 x3 x4 = x4 := max4 x1 x2 x3 x4
  have l1 : mn4 x1 x2 x3 x4 ≤ x1 ∧ x1 ≤ mx4 x1 x2 x3 x4 := by unfold mn4 mx4; omega
  have l2 : mn4 x1 x2 x3 x4 ≤ x2 ∧ x2 ≤ mx4 x1 x2 x3 x4 := by unfold mn4 mx4; omega
  have l3 : mn4 x1 x2 x3 x4 ≤ x3 ∧ x3 ≤ mx4 x1 x2 x3 x4 := by unfold mn4 mx4; omega
  have l4 : mn4 x1 x2 x3 x4 ≤ x4 ∧ x4 ≤ mx4 x1 x2 x3 x4 := by unfold mn4 mx4; omega
  have b1 := mul_between (y := u) l1
  have b2 := mul_between (y := u) l2
  have b3 := mul_between (y := u) l3
  have b4 := mul_between (y := u) l4
  have em : mn4 x1 x2 x3 x4 * u = x1 * u ∨ mn4 x1 x2 x3 x4 * u = x2 * u ∨ mn4 x1 x2 x3 x4 * u = x3 * u ∨ mn4 x1 x2 x3 x4 * u = x4 * u := by
    rcases hm with h | h | h | h <;> rw [h]
    · exact .inl rfl
    · exact .inr (.inl rfl)
    · exact .inr (.inr (.inl rfl))
    · exact .inr (.inr (.inr rfl))
  have eM : mx4 x1 x2 x3 x4 * u = x1 * u ∨ mx4 x1 x2 x3 x4 * u = x2 * u ∨ mx4 x1 x2 x3 x4 * u = x3 * u ∨ mx4 x1 x2 x3 x4 * u = x4 * u := by
    rcases hM with h | h | h | h <;> rw [h]
    · exact .inl rfl
    · exact .inr (.inl rfl)
    · exact .inr (.inr (.inl rfl))
    · exact .inr (.inr (.inr rfl))
  clear hm hM l1 l2 l3 l4
  generalize mn4 x1 x2 x3 x4 * u = m at *
  generalize mx4 x1 x2 x3 x4 * u = M at *
  generalize x1 * u = y1 at *
  generalize x2 * u = y2 at *
  generalize x3 * u = y3 at *
  generalize x4 * u = y4 at *
  unfold mn4 mx4
  omega

theorem mul_assoc_ends (a b c d u v : Int) :
    mn4 (mn4 (a * c) (a * d) (b * c) (b * d) * u) (mn4 (a * c) (a * d) (b * c) (b * d) * v) (mx4 (a * c) (a * d) (b * c) (b * d) * u) (mx4 (a * c) (a * d) (b * c) (b * d) * v) =
      mn4 (a * mn4 (c * u) (c * v) (d * u) (d * v)) (a * mx4 (c * u) (c * v) (d * u) (d * v)) (b * mn4 (c * u) (c * v) (d * u) (d * v)) (b * mx4 (c * u) (c * v) (d * u) (d * v)) ∧
    mx4 (mn4 (a * c) (a * d) (b * c) (b * d) * u) (mn4 (a * c) (a * d) (b * c) (b * d) * v) (mx4 (a * c) (a * d) (b * c) (b * d) * u) (mx4 (a * c) (a * d) (b * c) (b * d) * v) =
      mx4 (a * mn4 (c * u) (c * v) (d * u) (d * v)) (a * mx4 (c * u) (c * v) (d * u) (d * v)) (b * mn4 (c * u) (c * v) (d * u) (d * v)) (b * mx4 (c * u) (c * v) (d * u) (d * v)) := by
  have h1 := ends_scale (a * c) (a * d) (b * c) (b * d) u
  have h2 := ends_scale (a * c) (a * d) (b * c) (b * d) v
  have h3 := ends_scale (c * u) (c * v) (d * u) (d * v) a
  have h4 := ends_scale (c * u) (c * v) (d * u) (d * v) b
  generalize mn4 (a * c) (a * d) (b * c) (b * d) = X at *
  generalize mx4 (a * c) (a * d) (b * c) (b * d) = Y at *
  generalize mn4 (c * u) (c * v) (d * u) (d * v) = Z at *
  generalize mx4 (c * u) (c * v) (d * u) (d * v) = W at *
  rw [Int.mul_comm a Z, Int.mul_comm a W, Int.mul_comm b Z, Int.mul_comm b W]
  have r : ∀ x y z : Int, x * y * z = z * x * y := fun x y z => by rw [Int.mul_comm, Int.mul_assoc]
  have r1 : ∀ x y z : Int, x * y * z = y * z * x := fun x y z => by rw [Int.mul_assoc, Int.mul_comm]
  rw [r1 a c u, r1 a d u, r1 b c u, r1 b d u] at h1
  rw [r1 a c v, r1 a d v, r1 b c v, r1 b d v] at h2
  generalize X * u = m1 at *
  generalize X * v = m2 at *
  generalize Y * u = m3 at *
  generalize Y * v = m4 at *
  generalize Z * a = n1 at *
  generalize W * a = n2 at *
  generalize Z * b = n3 at *
  generalize W * b = n4 at *
  generalize c * u * a = t1 at *
  generalize d * u * a = t2 at *
  generalize c * u * b = t3 at *
  generalize d * u * b = t4 at *
  generalize c * v * a = t5 at *
  generalize d * v * a = t6 at *
  generalize c * v * b = t7 at *
  generalize d * v * b = t8 at *
  clear r r1
  have a1 : mn4 m1 m2 m3 m4 = min (min m1 m3) (min m2 m4) := by unfold mn4; omega
  have a2 : mn4 n1 n2 n3 n4 = min (min n1 n2) (min n3 n4) := by unfold mn4; omega
  have a3 : mx4 m1 m2 m3 m4 = max (max m1 m3) (max m2 m4) := by unfold mx4; omega
  have a4 : mx4 n1 n2 n3 n4 = max (max n1 n2) (max n3 n4) := by unfold mx4; omega
  rw [a1, a2, a3, a4, h1.1, h1.2, h2.1, h2.2, h3.1, h3.2, h4.1, h4.2]
  unfold mn4 mx4
  constructor <;> ac_rfl
theorem mn4_le (p q r s : Int) : mn4 p q r s ≤ p ∧ mn4 p q r s ≤ q ∧ mn4 p q r s ≤ r ∧ mn4 p q r s ≤ s := by unfold mn4; omega
theorem le_mx4 (p q r s : Int) : p ≤ mx4 p q r s ∧ q ≤ mx4 p q r s ∧ r ≤ mx4 p q r s ∧ s ≤ mx4 p q r s := by unfold mx4; omega
theorem le_mn4 {x p q r s : Int} (h1 : x ≤ p) (h2 : x ≤ q) (h3 : x ≤ r) (h4 : x ≤ s) : x ≤ mn4 p q r s := by unfold mn4; omega
theorem mx4_le {x p q r s : Int} (h1 : p ≤ x) (h2 : q ≤ x) (h3 : r ≤ x) (h4 : s ≤ x) : mx4 p q r s ≤ x := by unfold mx4; omega

theorem bool_zero {e : Int} : (e == 0) = false ∨ (e == 0) = true ∧ e = 0 := by
  by_cases h : e = 0
  · exact .inr ⟨by simp [h], h⟩
  · exact .inl (by simp [h])
theorem bool_zero' {e : Int} : (e != 0) = true ∨ (e != 0) = false ∧ e = 0 := by
  by_cases h : e = 0
  · exact .inr ⟨by simp [h], h⟩
  · exact .inl (by simp [h])

theorem laws_1 {a b c d p1 q1 e p3 q3 i1 j1 : Int} {o1 : Bool} (A1 : addT a b c d = (p1, q1, e)) (S1 : subT p1 q1 c d = (p3, q3, i1)) (I1 : insT a b p3 q3 = (o1, j1)) :
    (e == 0) = false ∨ ((e == 0) = true ∧ (i1 == 0) = false) ∨ ((e == 0) = true ∧ (i1 == 0) = true ∧ j1 = 0 ∧ o1 = true) := by
  rcases bool_zero (e := e) with h | ⟨h, he⟩
  · exact .inl h
  rcases bool_zero (e := i1) with h' | ⟨h', hi⟩
  · exact .inr (.inl ⟨h, h'⟩)
  obtain ⟨k1, k2, _, k3, k4⟩ := add_zero A1 he
  obtain ⟨_, _, k5, k6, k7⟩ := sub_zero' S1 hi
  have := okR_bd k2
  rw [insT, if_pos (by rw [k1, k5]; rfl), decide_eq_true (show p3 ≤ a ∧ b ≤ q3 by omega)] at I1
  simp only [Prod.mk.injEq] at I1
  exact .inr (.inr ⟨h, h', I1.2.symm, I1.1.symm⟩)
theorem laws_2 {a b c d u v p1 q1 e p4 q4 i2 p5 q5 j2 p6 q6 k2 : Int} (A1 : addT a b c d = (p1, q1, e)) (A3 : addT c d u v = (p4, q4, i2)) (A4 : addT p1 q1 u v = (p5, q5, j2)) (A5 : addT a b p4 q4 = (p6, q6, k2)) :
    (e == 0) = false ∨ ((e == 0) = true ∧ (i2 == 0) = false) ∨ ((e == 0) = true ∧ (i2 == 0) = true ∧ p6 = p5 ∧ q6 = q5 ∧ k2 = j2) := by
  rcases bool_zero (e := e) with h | ⟨h, he⟩
  · exact .inl h
  rcases bool_zero (e := i2) with h' | ⟨h', hi⟩
  · exact .inr (.inl ⟨h, h'⟩)
  obtain ⟨k1, _, k2, k3, k4⟩ := add_zero A1 he
  obtain ⟨_, k6, k5, k7, k8⟩ := add_zero A3 hi
  rw [addT, if_pos (by rw [k2, k6]; rfl)] at A4
  rw [addT, if_pos (by rw [k1, k5]; rfl)] at A5
  rw [show a + p4 = p1 + u by omega, show b + q4 = q1 + v by omega, A4] at A5
  simp only [Prod.mk.injEq] at A5
  exact .inr (.inr ⟨h, h', A5.1.symm, A5.2.1.symm, A5.2.2.symm⟩)
theorem laws_3 {a b c d u v p2 q2 g p7 q7 l p8 q8 j3 p9 q9 k3 : Int} (M1 : mulT a b c d = (p2, q2, g)) (M3 : mulT c d u v = (p7, q7, l)) (M4 : mulT p2 q2 u v = (p8, q8, j3)) (M5 : mulT a b p7 q7 = (p9, q9, k3)) :
    (g == 0) = false ∨ ((g == 0) = true ∧ (l == 0) = false) ∨ ((g == 0) = true ∧ (l == 0) = true ∧ (j3 == 0) = false) ∨ ((g == 0) = true ∧ (l == 0) = true ∧ (j3 == 0) = true ∧ (k3 == 0) = false) ∨
      ((g == 0) = true ∧ (l == 0) = true ∧ (j3 == 0) = true ∧ (k3 == 0) = true ∧ p9 = p8 ∧ q9 = q8) := by
  rcases bool_zero (e := g) with h1 | ⟨h1, e1⟩
  · exact .inl h1
  rcases bool_zero (e := l) with h2 | ⟨h2, e2⟩
  · exact .inr (.inl ⟨h1, h2⟩)
  rcases bool_zero (e := j3) with h3 | ⟨h3, e3⟩
  · exact .inr (.inr (.inl ⟨h1, h2, h3⟩))
  rcases bool_zero (e := k3) with h4 | ⟨h4, e4⟩
  · exact .inr (.inr (.inr (.inl ⟨h1, h2, h3, h4⟩)))
  obtain ⟨_, _, _, rfl, rfl⟩ := mul_zero' M1 e1
  obtain ⟨_, _, _, rfl, rfl⟩ := mul_zero' M3 e2
  obtain ⟨_, _, _, f1, f2⟩ := mul_zero' M4 e3
  obtain ⟨_, _, _, f3, f4⟩ := mul_zero' M5 e4
  obtain ⟨x1, x2⟩ := mul_assoc_ends a b c d u v
  exact .inr (.inr (.inr (.inr ⟨h1, h2, h3, h4, by rw [f3, f1]; exact x1.symm, by rw [f4, f2]; exact x2.symm⟩)))
theorem laws_4 {a b c d u v p2 q2 g p4 q4 i2 p10 q10 m p11 q11 n p12 q12 o j4 : Int} {o2 : Bool} (A3 : addT c d u v = (p4, q4, i2)) (M1 : mulT a b c d = (p2, q2, g)) (M6 : mulT a b u v = (p10, q10, m)) (M7 : mulT a b p4 q4 = (p11, q11, n))
    (A6 : addT p2 q2 p10 q10 = (p12, q12, o)) (I2 : insT p11 q11 p12 q12 = (o2, j4)) :
    (i2 != 0) = true ∨ ((i2 != 0) = false ∧ (g != 0) = true) ∨ ((i2 != 0) = false ∧ (g != 0) = false ∧ (m != 0) = true) ∨ ((i2 != 0) = false ∧ (g != 0) = false ∧ (m != 0) = false ∧ (n != 0) = true) ∨
      ((i2 != 0) = false ∧ (g != 0) = false ∧ (m != 0) = false ∧ (n != 0) = false ∧ (o != 0) = true) ∨
      ((i2 != 0) = false ∧ (g != 0) = false ∧ (m != 0) = false ∧ (n != 0) = false ∧ (o != 0) = false ∧ j4 = 0 ∧ o2 = true) := by
  rcases bool_zero' (e := i2) with h1 | ⟨h1, e1⟩
  · exact .inl h1
  rcases bool_zero' (e := g) with h2 | ⟨h2, e2⟩
  · exact .inr (.inl ⟨h1, h2⟩)
  rcases bool_zero' (e := m) with h3 | ⟨h3, e3⟩
  · exact .inr (.inr (.inl ⟨h1, h2, h3⟩))
  rcases bool_zero' (e := n) with h4 | ⟨h4, e4⟩
  · exact .inr (.inr (.inr (.inl ⟨h1, h2, h3, h4⟩)))
  rcases bool_zero' (e := o) with h5 | ⟨h5, e5⟩
  · exact .inr (.inr (.inr (.inr (.inl ⟨h1, h2, h3, h4, h5⟩))))
  obtain ⟨_, _, _, rfl, rfl⟩ := add_zero A3 e1
  obtain ⟨_, _, _, f1, f2⟩ := mul_zero' M1 e2
  obtain ⟨_, _, _, f3, f4⟩ := mul_zero' M6 e3
  obtain ⟨_, _, g1, f5, f6⟩ := mul_zero' M7 e4
  obtain ⟨_, _, g2, f7, f8⟩ := add_zero A6 e5
  have hin : p12 ≤ p11 ∧ q11 ≤ q12 := by
    rw [Int.mul_add, Int.mul_add, Int.mul_add, Int.mul_add] at f5 f6
    have x1 := mn4_le (a * c) (a * d) (b * c) (b * d)
    have x2 := mn4_le (a * u) (a * v) (b * u) (b * v)
    have x3 := le_mx4 (a * c) (a * d) (b * c) (b * d)
    have x4 := le_mx4 (a * u) (a * v) (b * u) (b * v)
    rw [← f1] at x1
    rw [← f3] at x2
    rw [← f2] at x3
    rw [← f4] at x4
    rw [f5, f6]
    clear f1 f2 f3 f4 f5 f6
    exact ⟨le_mn4 (by omega) (by omega) (by omega) (by omega), mx4_le (by omega) (by omega) (by omega) (by omega)⟩
  rw [insT, if_pos (by rw [g1, g2]; rfl), decide_eq_true hin] at I2
  simp only [Prod.mk.injEq] at I2
  exact .inr (.inr (.inr (.inr (.inr ⟨h1, h2, h3, h4, h5, I2.2.symm, I2.1.symm⟩))))

end Go.Proofs.Ytmjbcmicjhgciaa
