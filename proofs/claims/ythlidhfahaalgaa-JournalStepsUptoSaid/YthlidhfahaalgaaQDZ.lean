/- Contract of Sync of the reference of chapter 4. (Printed by gen_dx.py.) -/
import Derived.Test.YthlidhfahaalgaaQDX
import Derived.Deep.DeepCutAuto
import Derived.Deep.RegionHeld3
set_option linter.unusedVariables false
set_option linter.unusedSimpArgs false
namespace Go.Proofs.Ythlidhfahaalgaa
open Go.RowKit
attribute [local go_sem ↓ high] app_named cop_named
end Go.Proofs.Ythlidhfahaalgaa
