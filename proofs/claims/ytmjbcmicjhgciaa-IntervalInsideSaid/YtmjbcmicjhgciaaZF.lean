/-
  The examples of 'sane', one contract each.
-/
import Derived.Test.YtmjbcmicjhgciaaZE
import Derived.Test.YtmjbcmicjhgciaaS
import Derived.Test.YtmjbcmicjhgciaaT
import Derived.Test.YtmjbcmicjhgciaaB
import Derived.Test.YtmjbcmicjhgciaaD
namespace Go.Proofs.Ytmjbcmicjhgciaa
open Go.RowKit

theorem span_any (lo hi : Int) (w : World) : Calls Try.prog 36 #[.int .i64 lo, .int .i64 hi] w fun e w' => e = .returned (rng lo hi) ∧ Below w.heap.size w w' := by
  go_enter Try.func36, Try.ntmps36
  go_wp2
  refine bodyPost_ret (v := rng lo hi) (by simp [results, Try.results36, go_sem]) rfl ?_
  exact ⟨rfl, by repeat (first | exact Below.refl _ _ | refine Below.setCell ?_ (by simp) _ | refine Below.alloc ?_ (by simp) _)⟩

theorem Ret.const {t : Int × Int × Int} {lo hi er : Int} {w : World} {e : Ending} {w' : World} (ht : t = (lo, hi, er)) (h : Ret t w e w') : e = .returned (.tuple #[rng lo hi, .int .i64 er]) ∧ Below w.heap.size w w' := by
  obtain ⟨a, b, c, rfl, h1, h2⟩ := h
  rw [ht] at h1
  cases h1
  exact ⟨rfl, h2⟩
theorem RetM.const {t : Int × Int × Bool × Int} {lo hi er : Int} {b : Bool} {w : World} {e : Ending} {w' : World} (ht : t = (lo, hi, b, er)) (h : RetM t w e w') : e = .returned (.tuple #[rng lo hi, .bool b, .int .i64 er]) ∧ Below w.heap.size w w' := by
  obtain ⟨a, b, c, d, rfl, h1, h2⟩ := h
  rw [ht] at h1
  cases h1
  exact ⟨rfl, h2⟩
theorem RetO.const {t : Bool × Int} {er : Int} {b : Bool} {w : World} {e : Ending} {w' : World} (ht : t = (b, er)) (h : RetO t w e w') : e = .returned (.tuple #[.bool b, .int .i64 er]) ∧ Below w.heap.size w w' := by
  obtain ⟨c, d, rfl, h1, h2⟩ := h
  rw [ht] at h1
  cases h1
  exact ⟨rfl, h2⟩
theorem RetI.const {t n : Int} {w : World} {e : Ending} {w' : World} (ht : t = n) (h : RetI t w e w') : e = .returned (.int .i64 n) ∧ Below w.heap.size w w' := by
  obtain ⟨c, rfl, h1, h2⟩ := h
  rw [ht] at h1
  cases h1
  exact ⟨rfl, h2⟩

theorem sq8 : sqrtI 8 = 2 := isRoot_unique (sqrtI_is (by omega) (by omega)) ⟨by omega, by omega, by omega⟩
theorem sq10 : sqrtI 10 = 3 := isRoot_unique (sqrtI_is (by omega) (by omega)) ⟨by omega, by omega, by omega⟩
theorem k_add (w : World) : Calls Try.prog 13 #[rng (-2) 3, rng 4 5] w fun e w' => e = .returned (.tuple #[rng 2 8, .int .i64 0]) ∧ Below w.heap.size w w' := (Add_any _ _ _ _ w).mono fun _ _ => Ret.const (by decide)
theorem k_sub (w : World) : Calls Try.prog 15 #[rng (-2) 3, rng 4 5] w fun e w' => e = .returned (.tuple #[rng (-7) (-1), .int .i64 0]) ∧ Below w.heap.size w w' := (Sub_any _ _ _ _ w).mono fun _ _ => Ret.const (by decide)
theorem k_mul (w : World) : Calls Try.prog 17 #[rng (-2) 3, rng 4 5] w fun e w' => e = .returned (.tuple #[rng (-10) 15, .int .i64 0]) ∧ Below w.heap.size w w' := (Mul_any _ _ _ _ w).mono fun _ _ => Ret.const (by decide)
theorem k_square (w : World) : Calls Try.prog 21 #[rng (-2) 3] w fun e w' => e = .returned (.tuple #[rng 0 9, .int .i64 0]) ∧ Below w.heap.size w w' := (Square_any _ _ w).mono fun _ _ => Ret.const (by decide)
theorem k_root (w : World) : Calls Try.prog 23 #[rng 8 10] w fun e w' => e = .returned (.tuple #[rng 2 4, .int .i64 0]) ∧ Below w.heap.size w w' := (Root_any _ _ w).mono fun _ _ => Ret.const (by
  rw [rootT, if_pos (by decide), if_neg (by decide), rupI, sq8, sq10]; rfl)
theorem k_scale (w : World) : Calls Try.prog 25 #[rng (-1) 4, rat 1 3] w fun e w' => e = .returned (.tuple #[rng (-1) 2, .int .i64 0]) ∧ Below w.heap.size w w' := (Scale_any _ _ _ _ w).mono fun _ _ => Ret.const (by decide)
theorem k_apart (w : World) : Calls Try.prog 27 #[rng 1 3, rng 5 6] w fun e w' => e = .returned (.tuple #[rng 0 0, .bool false, .int .i64 0]) ∧ Below w.heap.size w w' := (Meet_any _ _ _ _ w).mono fun _ _ => RetM.const (by decide)
theorem k_common (w : World) : Calls Try.prog 27 #[rng 1 3, rng 3 6] w fun e w' => e = .returned (.tuple #[rng 3 3, .bool true, .int .i64 0]) ∧ Below w.heap.size w w' := (Meet_any _ _ _ _ w).mono fun _ _ => RetM.const (by decide)
theorem k_hull (w : World) : Calls Try.prog 29 #[rng 1 3, rng 5 6] w fun e w' => e = .returned (.tuple #[rng 1 6, .int .i64 0]) ∧ Below w.heap.size w w' := (Hull_any _ _ _ _ w).mono fun _ _ => Ret.const (by decide)
theorem k_within (w : World) : Calls Try.prog 31 #[rng (-2) 3, rng (-2) 4] w fun e w' => e = .returned (.tuple #[.bool true, .int .i64 0]) ∧ Below w.heap.size w w' := (Inside_any _ _ _ _ w).mono fun _ _ => RetO.const (by decide)
theorem k_wide (w : World) : Calls Try.prog 31 #[rng (-2) 4, rng (-2) 3] w fun e w' => e = .returned (.tuple #[.bool false, .int .i64 0]) ∧ Below w.heap.size w w' := (Inside_any _ _ _ _ w).mono fun _ _ => RetO.const (by decide)
theorem k_limit (w : World) : Calls Try.prog 13 #[rng 1099511627776 1099511627776, rng 0 1] w fun e w' => e = .returned (.tuple #[rng 0 0, .int .i64 2]) ∧ Below w.heap.size w w' := (Add_any _ _ _ _ w).mono fun _ _ => Ret.const (by decide)
theorem k_arg (w : World) : Calls Try.prog 23 #[rng (-1) 4] w fun e w' => e = .returned (.tuple #[rng 0 0, .int .i64 1]) ∧ Below w.heap.size w w' := (Root_any _ _ w).mono fun _ _ => Ret.const (by
  rw [rootT, if_pos (by decide), if_pos (by decide)])
theorem k_zero (w : World) : Calls Try.prog 17 #[rng 0 0, rng (-1099511627776) 1099511627776] w fun e w' => e = .returned (.tuple #[rng 0 0, .int .i64 0]) ∧ Below w.heap.size w w' := (Mul_any _ _ _ _ w).mono fun _ _ => Ret.const (by decide)
theorem k_most (w : World) : Calls Try.prog 21 #[rng (-1048576) 0] w fun e w' => e = .returned (.tuple #[rng 0 1099511627776, .int .i64 0]) ∧ Below w.heap.size w w' := (Square_any _ _ w).mono fun _ _ => Ret.const (by decide)
theorem k_bad (w : World) : Calls Try.prog 19 #[rng 1 0] w fun e w' => e = .returned (.int .i64 130) ∧ Below w.heap.size w w' := (Check_any _ _ w).mono fun _ _ => RetI.const (by decide)
theorem k_good (w : World) : Calls Try.prog 19 #[rng 0 0] w fun e w' => e = .returned (.int .i64 0) ∧ Below w.heap.size w w' := (Check_any _ _ w).mono fun _ _ => RetI.const (by decide)

end Go.Proofs.Ytmjbcmicjhgciaa
