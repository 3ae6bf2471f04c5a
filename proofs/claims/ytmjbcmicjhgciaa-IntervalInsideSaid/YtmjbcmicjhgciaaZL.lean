/-
  IntervalEncloses: the plain law.
-/
import Derived.Test.YtmjbcmicjhgciaaZF
import Derived.Test.YtmjbcmicjhgciaaZK
namespace Go.Proofs.Ytmjbcmicjhgciaa
open Go.RowKit

theorem chk_yes {a b : Int} (h : okR a b = true) : chkT a b = 0 := by rw [chkT, if_pos h]
theorem chk_no {a b : Int} (h : okR a b = false) : chkT a b = 130 := by rw [chkT, if_neg (by rw [h]; exact Bool.false_ne_true)]
theorem Check_at {a b v : Int} (h : chkT a b = v) (w : World) : Calls Try.prog 19 #[rng a b] w fun e w' => e = .returned (.int .i64 v) ∧ Below w.heap.size w w' := (Check_any a b w).mono fun _ _ => RetI.const h
theorem Fits_at {x y : Int} {b : Bool} (h : fitB x y = b) (hx : -1099511627776 ≤ x ∧ x ≤ 1099511627776) (hy : -1099511627776 ≤ y ∧ y ≤ 1099511627776) (w : World) : Calls Try.prog 34 #[.int .i64 x, .int .i64 y] w fun e w' => e = .returned (.bool b) ∧ Below w.heap.size w w' :=
  (Fits_any x y w hx hy).mono fun _ _ ⟨_, he, hq, hB⟩ => ⟨by rw [he, ← hq.out, h], hB⟩

theorem cut_cases {lo hi p q e : Int} (h : cutT lo hi = (p, q, e)) (hle : lo ≤ hi) : (e = 0 ∧ p = lo ∧ q = hi ∧ -1099511627776 ≤ lo ∧ hi ≤ 1099511627776) ∨ (e = 2 ∧ p = 0 ∧ q = 0 ∧ ¬ (-1099511627776 ≤ lo ∧ hi ≤ 1099511627776)) := by
  unfold cutT at h
  split at h
  · rename_i hk
    have := okR_bd hk
    simp only [Prod.mk.injEq] at h
    exact .inl ⟨h.2.2.symm, h.1.symm, h.2.1.symm, this.1, this.2.2⟩
  · rename_i hk
    simp only [Prod.mk.injEq] at h
    refine .inr ⟨h.2.2.symm, h.1.symm, h.2.1.symm, fun hn => hk (okR_mk ⟨hn.1, hle, hn.2⟩)⟩
theorem add_cases {a b c d p q e : Int} (h1 : okR a b = true) (h2 : okR c d = true) (h : addT a b c d = (p, q, e)) :
    (e = 0 ∧ p = a + c ∧ q = b + d ∧ -1099511627776 ≤ a + c ∧ b + d ≤ 1099511627776) ∨ (e = 2 ∧ p = 0 ∧ q = 0 ∧ ¬ (-1099511627776 ≤ a + c ∧ b + d ≤ 1099511627776)) := by
  have := okR_bd h1
  have := okR_bd h2
  rw [addT, if_pos (by rw [h1, h2]; rfl)] at h
  exact cut_cases h (by omega)
theorem sub_cases {a b c d p q e : Int} (h1 : okR a b = true) (h2 : okR c d = true) (h : subT a b c d = (p, q, e)) :
    (e = 0 ∧ p = a - d ∧ q = b - c ∧ -1099511627776 ≤ a - d ∧ b - c ≤ 1099511627776) ∨ (e = 2 ∧ p = 0 ∧ q = 0 ∧ ¬ (-1099511627776 ≤ a - d ∧ b - c ≤ 1099511627776)) := by
  have := okR_bd h1
  have := okR_bd h2
  rw [subT, if_pos (by rw [h1, h2]; rfl)] at h
  exact cut_cases h (by omega)
theorem mul_cases {a b c d p q e : Int} (h1 : okR a b = true) (h2 : okR c d = true) (h : mulT a b c d = (p, q, e)) :
    (fit4 a b c d = true ∧ e = 0 ∧ p = min (min (min (a * c) (a * d)) (b * c)) (b * d) ∧ q = max (max (max (a * c) (a * d)) (b * c)) (b * d)) ∨ (fit4 a b c d = false ∧ e = 2 ∧ p = 0 ∧ q = 0) := by
  rw [mulT, if_pos (by rw [h1, h2]; rfl)] at h
  split at h
  · rename_i hk
    simp only [Prod.mk.injEq] at h
    exact .inl ⟨hk, h.2.2.symm, h.1.symm, h.2.1.symm⟩
  · rename_i hk
    simp only [Prod.mk.injEq] at h
    exact .inr ⟨by simpa using hk, h.2.2.symm, h.1.symm, h.2.1.symm⟩

theorem mul_between {a b x y : Int} (h : a ≤ x ∧ x ≤ b) : min (a * y) (b * y) ≤ x * y ∧ x * y ≤ max (a * y) (b * y) := by
  by_cases hy : 0 ≤ y
  · have h1 := Int.mul_le_mul_of_nonneg_right h.1 hy
    have h2 := Int.mul_le_mul_of_nonneg_right h.2 hy
    omega
  · have h1 := Int.mul_le_mul_of_nonpos_right h.1 (show y ≤ 0 by omega)
    have h2 := Int.mul_le_mul_of_nonpos_right h.2 (show y ≤ 0 by omega)
    omega
theorem mul_encl {a b c d x y : Int} (h : a ≤ x ∧ x ≤ b) (h' : c ≤ y ∧ y ≤ d) :
    min (min (min (a * c) (a * d)) (b * c)) (b * d) ≤ x * y ∧ x * y ≤ max (max (max (a * c) (a * d)) (b * c)) (b * d) := by
  have h1 := mul_between (y := y) h
  have h2 := mul_between (y := a) h'
  have h3 := mul_between (y := b) h'
  rw [Int.mul_comm c a, Int.mul_comm d a, Int.mul_comm y a] at h2
  rw [Int.mul_comm c b, Int.mul_comm d b, Int.mul_comm y b] at h3
  omega
theorem min4 (p q r s : Int) : min (min (min p q) r) s = p ∨ min (min (min p q) r) s = q ∨ min (min (min p q) r) s = r ∨ min (min (min p q) r) s = s := by omega
theorem max4 (p q r s : Int) : max (max (max p q) r) s = p ∨ max (max (max p q) r) s = q ∨ max (max (max p q) r) s = r ∨ max (max (max p q) r) s = s := by omega
theorem fit4_bd {a b c d : Int} (h : fit4 a b c d = true) : (-1099511627776 ≤ a * c ∧ a * c ≤ 1099511627776) ∧ (-1099511627776 ≤ a * d ∧ a * d ≤ 1099511627776) ∧ (-1099511627776 ≤ b * c ∧ b * c ≤ 1099511627776) ∧ (-1099511627776 ≤ b * d ∧ b * d ≤ 1099511627776) := by
  simp only [fit4, Bool.and_eq_true] at h
  exact ⟨fitB_bd h.1.1.1, fitB_bd h.1.1.2, fitB_bd h.1.2, fitB_bd h.2⟩

end Go.Proofs.Ytmjbcmicjhgciaa
