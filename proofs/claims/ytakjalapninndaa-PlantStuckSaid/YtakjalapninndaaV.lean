/-
  Equality of two states' pipes, as the walk meets it. No condition.
-/
import Derived.Test.YtakjalapninndaaT
import Derived.ChangeKeysEq
namespace Go.Proofs.Ytakjalapninndaa
open Go.RowKit
theorem info_int : (Try.prog.info? 3).map (fun i => i.size) = some 1 := by kernel_rfl
theorem eq_pipe (d : Nat) (a b c e : Int) (w : World) : (Op.equalIn (d + 2) 24 (.agg #[.int .i64 a, .int .i64 b]) (.agg #[.int .i64 c, .int .i64 e])).run Try.prog w = .ok (decide (a = c) && decide (b = e)) w := by
  have hin := info_int
  cases hi : Try.prog.info? 3 with
  | none => rw [hi] at hin; cases hin
  | some i =>
    rw [run_equalIn_array w (d + 1) _ _ Try.underlying24 hi]
    have hc : Try.prog.cellsOf 3 = 1 := by kernel_rfl
    have hr : List.range 2 = [0, 1] := rfl
    rw [hc, hr]
    simp [Op.eqItems, part, go_sem]
    by_cases h1 : a = c <;> by_cases h2 : b = e <;> simp [h1, h2]
attribute [go_sem] eq_pipe
end Go.Proofs.Ytakjalapninndaa
