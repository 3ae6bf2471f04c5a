/- Contract of Step of acequiaref32. (Printed by gen_o.py.) -/
import Derived.Test.YtancngachnpefaaQF
import Derived.Test.YtancngachnpefaaQI
import Derived.Lib.MinMax
set_option linter.unusedVariables false
set_option linter.unusedSimpArgs false
namespace Go.Proofs.Ytancngachnpefaa
open Go.RowKit
structure Small (p : Pl) (s : St) (x : Sh) : Prop where
  top : 1 ≤ p.top ∧ p.top ≤ 63
  positions : 1 ≤ p.positions ∧ p.positions ≤ 15
  rate : 1 ≤ p.rate ∧ p.rate ≤ 15
  step : 1 ≤ p.step ∧ p.step ≤ 15
  age : 0 ≤ p.age ∧ p.age ≤ 7
  level : 0 ≤ s.level ∧ s.level ≤ 63
  position : 0 ≤ s.position ∧ s.position ≤ p.positions
  p0 : 0 ≤ s.p0 ∧ s.p0 ≤ 15
  p1 : 0 ≤ s.p1 ∧ s.p1 ≤ 15
  sage : 0 ≤ s.age ∧ s.age ≤ 7
  feed : 0 ≤ x.feed ∧ x.feed ≤ 15
end Go.Proofs.Ytancngachnpefaa
