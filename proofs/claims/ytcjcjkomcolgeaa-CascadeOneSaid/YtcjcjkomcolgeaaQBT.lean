/- The reference of chapter 33: ask, safe, next, pipes, Shocks, States. (Printed by gen_bt.py.) No condition. -/
import Derived.Test.YtcjcjkomcolgeaaQBQ
import Derived.Test.YtcjcjkomcolgeaaQI
import Derived.Test.YtcjcjkomcolgeaaQKD
import Derived.Test.YtcjcjkomcolgeaaQBO
set_option linter.unusedVariables false
set_option linter.unusedSimpArgs false
namespace Go.Proofs.Ytcjcjkomcolgeaa
open Go.RowKit
attribute [local go_sem ↓ high] app_named

theorem elem_state : ∃ i, Elem 35 51 i (.agg #[.int .i64 0, .int .i64 0, .int .i64 0, .int .i64 0, .int .i64 0, .int .i64 0]) 6 48 := by
  obtain ⟨i, h1, h2, h3, h4⟩ := info_parts (show (Try.prog.info? 51).map (fun i => (i.zero, i.size, i.bytes)) = some (some (.agg #[.int .i64 0, .int .i64 0, .int .i64 0, .int .i64 0, .int .i64 0, .int .i64 0]), 6, 48) by kernel_rfl)
  exact ⟨i, Try.underlying35, h1, h2, h3, h4, by decide, by decide⟩
abbrev Sh.cells (x : Sh) : List Value := [.int .i64 x.feed, .int .i64 x.msg]
abbrev OwnSt (w : World) (base : Nat) (V : Value) (l : List St) : Prop := OwnE St.cells 6 w base 51 V l
theorem st_one (x : St) : ∀ u ∈ x.cells, u.oneCell' = true := by
  intro u hu
  simp only [List.mem_cons, List.not_mem_nil, or_false] at hu
  rcases hu with rfl | rfl | rfl | rfl | rfl | rfl <;> rfl
end Go.Proofs.Ytcjcjkomcolgeaa

/-
  Check of the reference of chapter 33. (Printed by gen_bu.py.) No condition.
-/
namespace Go.Proofs.Ytcjcjkomcolgeaa
open Go.RowKit

end Go.Proofs.Ytcjcjkomcolgeaa

/-
  Check of the reference of chapter 33: the loops. (Printed by gen_bu.py.) No condition.
-/
namespace Go.Proofs.Ytcjcjkomcolgeaa
open Go.RowKit

end Go.Proofs.Ytcjcjkomcolgeaa
