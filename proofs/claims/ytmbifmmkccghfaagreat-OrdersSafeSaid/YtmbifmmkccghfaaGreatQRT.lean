/- Deliver of orders. (Printed by gen_rt.py and pp.py.) No condition. -/
import Derived.Test.YtmbifmmkccghfaaGreatQRQ
set_option linter.unusedVariables false
set_option linter.unusedSimpArgs false
namespace Go.Proofs.YtmbifmmkccghfaaGreat
open Go.RowKit Go.Shelf
attribute [local go_sem] Oper.semAt_some
end Go.Proofs.YtmbifmmkccghfaaGreat
