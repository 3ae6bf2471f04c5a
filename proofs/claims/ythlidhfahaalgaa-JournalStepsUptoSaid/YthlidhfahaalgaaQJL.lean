/- The walk of good of the reference of chapter 5: kinds, the loop, the whole. (Printed by gen_jk.py.) -/
import Derived.Test.YthlidhfahaalgaaQJK
set_option linter.unusedVariables false
set_option linter.unusedSimpArgs false
namespace Go.Proofs.Ythlidhfahaalgaa
open Go.RowKit
end Go.Proofs.Ythlidhfahaalgaa
