/-
  min and max of three and more integers, in the words 'min' and 'max'. No condition.
-/
import Derived.Lib.MinMax
import Derived.Laws.Cover1
import Derived.Test.YtmjbcmicjhgciaaK
namespace Go.Proofs.Ytmjbcmicjhgciaa
open Go.RowKit
section
variable {P : Program} (w : World) (ts : Array TypeId) (t : TypeId) (k k' : IntKind)
theorem run_min2_ints (x y : Int) : (Builtin.min2 (.int k x) (.int k' y)).run P w = .ok (.int k (min x y)) w := by
  have e : (if y < x then y else x) = min x y := by
    rw [Int.min_def]
    split <;> split <;> omega
  simp [Builtin.min2, e]
theorem run_max2_ints (x y : Int) : (Builtin.max2 (.int k x) (.int k' y)).run P w = .ok (.int k (max x y)) w := by
  have e : (if y > x then y else x) = max x y := by
    rw [Int.max_def]
    split <;> split <;> omega
  simp [Builtin.max2, e]
@[go_sem high] theorem run_min_ints3 (x y z : Int) : (Builtin.min_ ts t #[.int k x, .int k y, .int k z]).run P w = .ok (.int k (min (min x y) z)) w := by
  simp [Builtin.min_, Sem.run_bind, run_min2_ints, Result.andThen]
@[go_sem high] theorem run_max_ints3 (x y z : Int) : (Builtin.max_ ts t #[.int k x, .int k y, .int k z]).run P w = .ok (.int k (max (max x y) z)) w := by
  simp [Builtin.max_, Sem.run_bind, run_max2_ints, Result.andThen]
@[go_sem high] theorem run_min_ints4 (x y z u : Int) : (Builtin.min_ ts t #[.int k x, .int k y, .int k z, .int k u]).run P w = .ok (.int k (min (min (min x y) z) u)) w := by
  simp [Builtin.min_, Sem.run_bind, run_min2_ints, Result.andThen]
@[go_sem high] theorem run_max_ints4 (x y z u : Int) : (Builtin.max_ ts t #[.int k x, .int k y, .int k z, .int k u]).run P w = .ok (.int k (max (max (max x y) z) u)) w := by
  simp [Builtin.max_, Sem.run_bind, run_max2_ints, Result.andThen]
end
end Go.Proofs.Ytmjbcmicjhgciaa
