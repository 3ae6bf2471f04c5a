/- The reference of chapter 35: Check, Certified. (Printed by pp.py.) No condition. -/
import Derived.Test.YtcjcjkomcolgeaaQDD
set_option linter.unusedVariables false
set_option linter.unusedSimpArgs false
namespace Go.Proofs.Ytcjcjkomcolgeaa
open Go.RowKit

end Go.Proofs.Ytcjcjkomcolgeaa

/-
  The reference of chapter 35: certified, Certified. (Printed by gen_dg.py.) No condition.
-/
namespace Go.Proofs.Ytcjcjkomcolgeaa
open Go.RowKit

end Go.Proofs.Ytcjcjkomcolgeaa

/-
  The reference of chapter 35: Certified. (Printed by pp.py.) No condition.
-/
namespace Go.Proofs.Ytcjcjkomcolgeaa
open Go.RowKit

end Go.Proofs.Ytcjcjkomcolgeaa
