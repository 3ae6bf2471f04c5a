/-
  Square roots and squares in plain Lean. No condition.
-/
import Derived.Test.YtmjbcmicjhgciaaK
namespace Go.Proofs.Ytmjbcmicjhgciaa
open Go.RowKit

/-- r is the greatest integer whose square is at most n. -/
def isRoot (n r : Int) : Prop := 0 ≤ r ∧ r * r ≤ n ∧ n < (r + 1) * (r + 1)

theorem sq_le {a b : Int} (h0 : 0 ≤ a) (h : a ≤ b) : a * a ≤ b * b := Int.mul_le_mul h h h0 (by omega)
theorem sq_nonneg (a : Int) : 0 ≤ a * a := by
  rcases Int.le_total 0 a with h | h
  · exact Int.mul_nonneg h h
  · have := Int.mul_nonneg (show 0 ≤ -a by omega) (show 0 ≤ -a by omega)
    rwa [Int.neg_mul_neg] at this

theorem isRoot_unique {n r s : Int} (h : isRoot n r) (k : isRoot n s) : r = s := by
  obtain ⟨h0, h1, h2⟩ := h
  obtain ⟨k0, k1, k2⟩ := k
  rcases Int.lt_trichotomy r s with e | e | e
  · have := sq_le (show 0 ≤ r + 1 by omega) (show r + 1 ≤ s by omega); omega
  · exact e
  · have := sq_le (show 0 ≤ s + 1 by omega) (show s + 1 ≤ r by omega); omega

/-- The root by bits: k bits are still to come. -/
def rootN (n : Int) : Nat → Int → Int
  | 0, r => r
  | k + 1, r => rootN n k (if (r + ((2 ^ k : Nat) : Int)) * (r + ((2 ^ k : Nat) : Int)) ≤ n then r + ((2 ^ k : Nat) : Int) else r)
def sqrtI (n : Int) : Int := rootN n 21 0

theorem rootN_is (n : Int) : ∀ (k : Nat) (r : Int), 0 ≤ r → r * r ≤ n → n < (r + ((2 ^ k : Nat) : Int)) * (r + ((2 ^ k : Nat) : Int)) → isRoot n (rootN n k r)
  | 0, r, h0, h1, h2 => ⟨h0, h1, by simpa [rootN] using h2⟩
  | k + 1, r, h0, h1, h2 => by
    have hp : (0 : Int) ≤ ((2 ^ k : Nat) : Int) := Int.natCast_nonneg _
    have e : ((2 ^ (k + 1) : Nat) : Int) = ((2 ^ k : Nat) : Int) + ((2 ^ k : Nat) : Int) := by rw [Nat.pow_succ]; omega
    rw [e] at h2
    unfold rootN
    split
    · refine rootN_is n k _ (by omega) (by assumption) ?_
      rw [Int.add_assoc]; exact h2
    · exact rootN_is n k _ h0 h1 (by omega)

theorem sqrtI_is {n : Int} (h0 : 0 ≤ n) (h1 : n ≤ 1099511627776) : isRoot n (sqrtI n) :=
  rootN_is n 21 0 (Int.le_refl _) (by simpa using h0) (by simp; omega)

/-- One step of Newton's: it stays above the root, and falls. -/
theorem newton {n r : Int} (h0 : 0 ≤ n) (hr : 0 < r) (h1 : n < r * r) : 0 ≤ (r + n / r) / 2 ∧ (r + n / r) / 2 < r ∧ n < ((r + n / r) / 2 + 1) * ((r + n / r) / 2 + 1) := by
  have hq0 : 0 ≤ n / r := Int.ediv_nonneg h0 (by omega)
  have hq1 : n / r < r := Int.ediv_lt_of_lt_mul hr (by omega)
  have hq2 : n < r * (n / r + 1) := by
    have := Int.lt_ediv_add_one_mul_self n hr
    rw [Int.mul_comm] at this; exact this
  generalize n / r = q at *
  refine ⟨by omega, by omega, ?_⟩
  have hx : r + q + 1 ≤ 2 * ((r + q) / 2 + 1) := by omega
  generalize (r + q) / 2 + 1 = x at *
  have h4 := sq_le (show 0 ≤ r + q + 1 by omega) hx
  have h5 := sq_nonneg (r - (q + 1))
  have h6 : (r + q + 1) * (r + q + 1) = (r - (q + 1)) * (r - (q + 1)) + 4 * (r * (q + 1)) := by grind
  have h7 : 2 * x * (2 * x) = 4 * (x * x) := by grind
  omega

def lstT (a b : Int) : Int := max a (max (-b) 0)
def sqT (a b : Int) : Int × Int × Int :=
  if okR a b = true then (if fit4 a b a b = true then (lstT a b * lstT a b, (mulT a b a b).2.1, 0) else (0, 0, 2)) else (0, 0, 130)
def rupI (b : Int) : Int := if sqrtI b * sqrtI b < b then sqrtI b + 1 else sqrtI b
def rootT (a b : Int) : Int × Int × Int :=
  if okR a b = true then (if a < 0 then (0, 0, 1) else (sqrtI a, rupI b, 0)) else (0, 0, 130)

theorem sqrtI_bd {n : Int} (h0 : 0 ≤ n) (h1 : n ≤ 1099511627776) : 0 ≤ sqrtI n ∧ sqrtI n ≤ 1048576 := by
  obtain ⟨a, b, c⟩ := sqrtI_is h0 h1
  refine ⟨a, ?_⟩
  rcases Int.lt_or_le 1048576 (sqrtI n) with h | h
  · have := sq_le (show (0 : Int) ≤ 1048577 by omega) (show 1048577 ≤ sqrtI n by omega); omega
  · exact h
theorem sq_bd {r : Int} (h0 : 0 ≤ r) (h1 : r ≤ 1048577) : 0 ≤ r * r ∧ r * r ≤ 1099513724929 :=
  ⟨sq_nonneg r, by have := sq_le h0 h1; omega⟩

end Go.Proofs.Ytmjbcmicjhgciaa
