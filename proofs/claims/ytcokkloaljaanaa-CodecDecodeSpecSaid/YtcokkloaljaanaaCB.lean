/-
  Contracts of formed and Check of codec. No condition.
-/
import Derived.Test.YtcokkloaljaanaaCA
import Derived.Lib.MinMax
namespace Go.Proofs.Ytcokkloaljaanaa
open Go.RowKit

/-- What formed returns. -/
def formT (x : Val) : Int × Bool := if x.okB = true then ((x.depth : Int), true) else (0, false)

theorem isEmpty_iff {s : List UInt8} : s.isEmpty = decide (s = []) := by cases s <;> rfl
theorem len_isEmpty {l : List Val} : l.isEmpty = decide (l.length = 0) := by cases l <;> rfl

set_option maxRecDepth 100000 in
set_option maxHeartbeats 2000000 in
theorem cFormed_other (k n : Int) (s : List UInt8) (A : Option Addr) (m c : Nat) (w : World) (h : k < 1 ∨ 3 < k) :
    Calls Try.prog 28 #[.agg #[.int .i64 k, .int .i64 n, .string (strB s), .slice A m c]] w fun e w' => e = .returned (.tuple #[.int .i64 0, .bool false]) ∧ Below w.heap.size w w' := by
  have hs := strB_toList s
  generalize strB s = b at *
  rcases h with h | h
  all_goals
    go_enter Try.func28, Try.ntmps28
    go_wp2
    all_goals first
      | omega
      | (go_ret2
         exact ⟨rfl, ((Below.refl _ _).alloc (Nat.le_refl _) _).alloc (by simp) _⟩)

set_option maxRecDepth 100000 in
set_option maxHeartbeats 2000000 in
theorem cFormed_1 (n : Int) (s : List UInt8) (A : Option Addr) (m c : Nat) (w : World) (hm : m ≤ 9223372036854775807) :
    Calls Try.prog 28 #[.agg #[.int .i64 1, .int .i64 n, .string (strB s), .slice A m c]] w fun e w' => e = .returned (.tuple #[.int .i64 0, .bool (decide (s = []) && decide (m = 0))]) ∧ Below w.heap.size w w' := by
  have hs := strB_toList s
  generalize strB s = b at *
  subst hs
  by_cases h1 : b.toList = []
  · by_cases h2 : m = 0
    · subst h2
      rw [h1]
      go_enter Try.func28, Try.ntmps28
      go_wp2
      all_goals
        go_ret2
        exact ⟨by simp, ((Below.refl _ _).alloc (Nat.le_refl _) _).alloc (by simp) _⟩
    · have e : (decide (b.toList = []) && decide (m = 0)) = false := by simp [h2]
      rw [e]
      have h3 : ((m : Int) == 0) = false := by simp; omega
      go_enter Try.func28, Try.ntmps28
      go_wp2
      all_goals
        go_ret2
        exact ⟨by simp, ((Below.refl _ _).alloc (Nat.le_refl _) _).alloc (by simp) _⟩
  · have e : (decide (b.toList = []) && decide (m = 0)) = false := by simp [h1]
    rw [e]
    clear e
    go_enter Try.func28, Try.ntmps28
    go_wp2
    all_goals
      go_ret2
      exact ⟨by simp, ((Below.refl _ _).alloc (Nat.le_refl _) _).alloc (by simp) _⟩

set_option maxRecDepth 100000 in
set_option maxHeartbeats 2000000 in
theorem cFormed_2 (n : Int) (s : List UInt8) (A : Option Addr) (m c : Nat) (w : World) (hm : m ≤ 9223372036854775807) :
    Calls Try.prog 28 #[.agg #[.int .i64 2, .int .i64 n, .string (strB s), .slice A m c]] w fun e w' => e = .returned (.tuple #[.int .i64 0, .bool (decide (n = 0) && decide (m = 0))]) ∧ Below w.heap.size w w' := by
  generalize strB s = b at *
  by_cases h1 : n = 0
  · subst h1
    by_cases h2 : m = 0
    · subst h2
      go_enter Try.func28, Try.ntmps28
      go_wp2
      all_goals
        go_ret2
        exact ⟨by simp, ((Below.refl _ _).alloc (Nat.le_refl _) _).alloc (by simp) _⟩
    · have e : (decide ((0 : Int) = 0) && decide (m = 0)) = false := by simp [h2]
      rw [e]
      have h3 : ((m : Int) == 0) = false := by simp; omega
      go_enter Try.func28, Try.ntmps28
      go_wp2
      all_goals
        go_ret2
        exact ⟨by simp, ((Below.refl _ _).alloc (Nat.le_refl _) _).alloc (by simp) _⟩
  · have e : (decide (n = 0) && decide (m = 0)) = false := by simp [h1]
    rw [e]
    clear e
    go_enter Try.func28, Try.ntmps28
    go_wp2
    all_goals
      go_ret2
      exact ⟨by simp, ((Below.refl _ _).alloc (Nat.le_refl _) _).alloc (by simp) _⟩

set_option maxRecDepth 100000 in
set_option maxHeartbeats 2000000 in
theorem cFormed_3no (n : Int) (s : List UInt8) (A : Option Addr) (m c : Nat) (w : World) (h : Hid (n ≠ 0 ∨ s ≠ [])) :
    Calls Try.prog 28 #[.agg #[.int .i64 3, .int .i64 n, .string (strB s), .slice A m c]] w fun e w' => e = .returned (.tuple #[.int .i64 0, .bool false]) ∧ Below w.heap.size w w' := by
  have hs := strB_toList s
  generalize strB s = b at *
  subst hs
  by_cases h1 : n = 0
  · have h2 : b.toList.isEmpty = false := by
      rcases h.out with h | h
      · exact absurd h1 h
      · cases hb : b.toList with
        | nil => exact absurd hb h
        | cons => rfl
    subst h1
    clear h
    go_enter Try.func28, Try.ntmps28
    go_wp2
    all_goals
      go_ret2
      exact ⟨rfl, ((Below.refl _ _).alloc (Nat.le_refl _) _).alloc (by simp) _⟩
  · clear h
    go_enter Try.func28, Try.ntmps28
    go_wp2
    all_goals
      go_ret2
      exact ⟨rfl, ((Below.refl _ _).alloc (Nat.le_refl _) _).alloc (by simp) _⟩


end Go.Proofs.Ytcokkloaljaanaa
