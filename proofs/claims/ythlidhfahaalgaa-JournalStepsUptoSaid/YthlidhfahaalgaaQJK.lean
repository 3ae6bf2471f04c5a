/- The walk of good of the reference of chapter 5. A sector has 128 bytes. (Printed by gen_jk.py.) -/
import Derived.Test.YthlidhfahaalgaaQJJ
import Derived.Deep.CutBlock
set_option linter.unusedVariables false
set_option linter.unusedSimpArgs false
namespace Go.Proofs.Ythlidhfahaalgaa
open Go.RowKit
end Go.Proofs.Ythlidhfahaalgaa
