/- The law JournalSurvives. (Printed by gen_mj.py.) -/
import Derived.Test.YthlidhfahaalgaaQMB
set_option linter.unusedVariables false
set_option linter.unusedSimpArgs false
namespace Go.Proofs.Ythlidhfahaalgaa
open Go.RowKit
attribute [local go_sem ↓ high] app_named cop_named
section
variable {w w' : World} {L : List Nat} {V : Value} {l : List Cr}
end
theorem new_is {n : Nat} (h1 : 1 ≤ n) (h2 : n ≤ 4096) : newT (n : Int) = (⟨List.replicate n zeros, [], -1, false⟩, 0) := by
  rw [newT, if_pos (by omega)]
  rfl
end Go.Proofs.Ythlidhfahaalgaa
