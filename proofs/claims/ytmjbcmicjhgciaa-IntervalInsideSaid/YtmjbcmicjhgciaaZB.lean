/-
  Scale: what is computed, in plain numbers.
-/
import Derived.Test.YtmjbcmicjhgciaaK
namespace Go.Proofs.Ytmjbcmicjhgciaa
open Go.RowKit

theorem ediv_is {a d t : Int} (hd : 0 < d) (h1 : t * d ≤ a) (h2 : a < (t + 1) * d) : a / d = t := by
  have e1 : t ≤ a / d := (Int.le_ediv_iff_mul_le hd).2 h1
  have e2 : a / d < t + 1 := (Int.ediv_lt_iff_lt_mul hd).2 h2
  omega

/-- The greatest integer below a fraction, and the least one above. -/
def flo (p d : Int) : Int := p / d
def cei (p d : Int) : Int := -(-p / d)

theorem flo_neg (p d : Int) : flo (-p) d = - cei p d := by simp [flo, cei]
theorem cei_neg (p d : Int) : cei (-p) d = - flo p d := by simp [flo, cei]

theorem flo_nat (p D q : Nat) (hq : q = p / D) : flo (p : Int) (D : Int) = (q : Int) := by
  rw [hq, flo]; exact (Int.natCast_ediv p D).symm
theorem cei_nat0 (p D q r : Nat) (hD : 1 ≤ D) (hq : q = p / D) (hr : r = p % D) (h0 : r = 0) : cei (p : Int) (D : Int) = (q : Int) := by
  have e := Nat.div_add_mod p D
  rw [← hq, ← hr, h0, Nat.add_zero] at e
  have e' : (p : Int) = (q : Int) * D := by rw [← e, Int.natCast_mul, Int.mul_comm]
  rw [cei, e']
  have : -((q : Int) * D) / (D : Int) = -(q : Int) := by
    apply ediv_is (by omega)
    · rw [Int.neg_mul]; omega
    · rw [Int.add_mul, Int.neg_mul]; omega
  rw [this]; omega
theorem cei_nat1 (p D q r : Nat) (hD : 1 ≤ D) (hq : q = p / D) (hr : r = p % D) (h0 : 0 < r) : cei (p : Int) (D : Int) = (q : Int) + 1 := by
  have e := Nat.div_add_mod p D
  have hlt : r < D := by rw [hr]; exact Nat.mod_lt _ (by omega)
  rw [← hq, ← hr] at e
  have e' : (p : Int) = (D : Int) * q + r := by rw [← e]; simp
  rw [cei]
  have : -(p : Int) / (D : Int) = -((q : Int) + 1) := by
    apply ediv_is (by omega)
    · rw [Int.neg_mul, Int.add_mul, e', Int.mul_comm]; omega
    · rw [show -((q : Int) + 1) + 1 = -(q : Int) from by omega, Int.neg_mul, e', Int.mul_comm]; omega
  rw [this]; omega

/-- What 'around' and 'scaled' hand back: ok says whether the numbers are in sight. -/
def aroundP (x n d lo hi : Int) (ok : Bool) : Prop :=
  (ok = true ∧ lo = flo (x * n) d ∧ hi = cei (x * n) d) ∨ (ok = false ∧ (1099511627777 * d ≤ x * n ∨ x * n ≤ -(1099511627777 * d)))

theorem around_law {x n lo hi : Int} {D m k q r : Nat} (hD : 1 ≤ D) (hm : m = x.natAbs) (hk : k = n.natAbs) (hq : q = m * k / D) (hr : r = m * k % D) (z : Int) (hz : z = if 0 < r then 1 else 0)
    (hlo : lo = if (decide (x < 0) != decide (n < 0)) = true then -((q : Int) + z) else q) (hhi : hi = if (decide (x < 0) != decide (n < 0)) = true then -(q : Int) else q + z) : aroundP x n D lo hi true := by
  have hc : cei ((m * k : Nat) : Int) (D : Int) = (q : Int) + z := by
    rw [hz]
    by_cases h : 0 < r
    · rw [if_pos h]; exact cei_nat1 _ _ _ _ hD hq hr h
    · rw [if_neg h, Int.add_zero]; exact cei_nat0 _ _ _ _ hD hq hr (by omega)
  have hf : flo ((m * k : Nat) : Int) (D : Int) = (q : Int) := flo_nat _ _ _ hq
  refine .inl ⟨rfl, ?_⟩
  rcases hs : (decide (x < 0) != decide (n < 0)) with _ | _
  · have e : x * n = ((m * k : Nat) : Int) := by
      rw [hm, hk, Int.natCast_mul]
      by_cases h1 : x < 0
      · by_cases h2 : n < 0
        · rw [Int.ofNat_natAbs_of_nonpos (by omega), Int.ofNat_natAbs_of_nonpos (by omega), Int.neg_mul_neg]
        · simp [h1, h2] at hs
      · by_cases h2 : n < 0
        · simp [h1, h2] at hs
        · rw [Int.natAbs_of_nonneg (by omega), Int.natAbs_of_nonneg (by omega)]
    rw [e, hc, hf, hlo, hhi, hs]; simp
  · have e : x * n = -((m * k : Nat) : Int) := by
      rw [hm, hk, Int.natCast_mul]
      by_cases h1 : x < 0
      · by_cases h2 : n < 0
        · simp [h1, h2] at hs
        · rw [Int.ofNat_natAbs_of_nonpos (by omega), Int.natAbs_of_nonneg (by omega), Int.neg_mul, Int.neg_neg]
      · by_cases h2 : n < 0
        · rw [Int.natAbs_of_nonneg (by omega), Int.ofNat_natAbs_of_nonpos (by omega), Int.mul_neg, Int.neg_neg]
        · simp [h1, h2] at hs
    rw [e, flo_neg, cei_neg, hc, hf, hlo, hhi, hs]; simp

theorem around_far {x n lo hi : Int} {D m k : Nat} (hm : m = x.natAbs) (hk : k = n.natAbs) (h : 1099511627777 * D ≤ m * k) : aroundP x n D lo hi false := by
  have e : m * k = (x * n).natAbs := by rw [hm, hk, Int.natAbs_mul]
  refine .inr ⟨rfl, ?_⟩
  rw [e] at h
  omega

/-- Scale, as numbers. -/
def scT (a b n d : Int) (v : Int) : Int × Int × Int :=
  if okR a b = true then (if v = 0 then cutT (min (flo (a * n) d) (flo (b * n) d)) (max (cei (a * n) d) (cei (b * n) d)) else (0, 0, v)) else (0, 0, 130)

theorem flo_le_cei (p d : Int) (hd : 0 < d) : flo p d ≤ cei p d := by
  have h1 : flo p d * d ≤ p := Int.ediv_mul_le p (by omega)
  have h2 : (-p / d) * d ≤ -p := Int.ediv_mul_le (-p) (by omega)
  have h3 : (flo p d + (-p / d)) * d ≤ 0 := by rw [Int.add_mul]; omega
  have h4 : flo p d + (-p / d) ≤ 0 := by
    apply Int.le_of_mul_le_mul_right (a := d) _ hd
    omega
  show flo p d ≤ -(-p / d)
  omega

theorem far_cut {x n d m1 m2 : Int} (hd : 0 < d) (h : 1099511627777 * d ≤ x * n ∨ x * n ≤ -(1099511627777 * d)) (h1 : m1 ≤ flo (x * n) d) (h2 : cei (x * n) d ≤ m2) : cutT m1 m2 = (0, 0, 2) := by
  have hfc := flo_le_cei (x * n) d hd
  rcases h with h | h
  · have : 1099511627777 ≤ flo (x * n) d := (Int.le_ediv_iff_mul_le hd).2 h
    rw [cutT, if_neg]
    simp [okR]; omega
  · have : 1099511627777 ≤ -(x * n) / d := (Int.le_ediv_iff_mul_le hd).2 (by omega)
    have : cei (x * n) d ≤ -1099511627777 := by show -(-(x * n) / d) ≤ _; omega
    rw [cutT, if_neg]
    simp [okR]; omega

theorem flo_mono {p p' d : Int} (hd : 0 < d) (h : p ≤ p') : flo p d ≤ flo p' d := Int.ediv_le_ediv hd h
theorem cei_mono {p p' d : Int} (hd : 0 < d) (h : p ≤ p') : cei p d ≤ cei p' d := by
  have := Int.ediv_le_ediv (a := -p') (b := -p) hd (by omega)
  show -(-p / d) ≤ -(-p' / d)
  omega

end Go.Proofs.Ytmjbcmicjhgciaa
