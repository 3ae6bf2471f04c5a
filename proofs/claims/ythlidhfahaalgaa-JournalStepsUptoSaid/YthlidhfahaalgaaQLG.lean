/- Sync of the reference of chapter 5: the records are written. (Printed by gen_lg.py.) -/
import Derived.Test.YthlidhfahaalgaaQLE
set_option linter.unusedVariables false
set_option linter.unusedSimpArgs false
namespace Go.Proofs.Ythlidhfahaalgaa
open Go.RowKit
attribute [local go_sem ↓ high] app_named cop_named
theorem OwnBs.slice {w : World} {base : Nat} {v : Value} {l : Bs} (h : OwnBs w base v l) : ∃ A c, v = .slice A l.length c := h.form'
end Go.Proofs.Ythlidhfahaalgaa
namespace Go.Proofs.Ythlidhfahaalgaa
open Go.RowKit
end Go.Proofs.Ythlidhfahaalgaa
namespace Go.Proofs.Ythlidhfahaalgaa
open Go.RowKit
def saneD1 : Dk := (newT 1).1
def saneJ0 : Jn := (openT saneD1).1
def saneJ1 : Jn := (appendT saneJ0 [97, 98]).1
def saneJ2 : Jn := (syncJ saneJ1 saneD1).1
def saneD2 : Dk := (syncJ saneJ1 saneD1).2.1
def saneJ3 : Jn := (openT saneD2).1
theorem sane_1 : (newT 1).2 = 0 := by decide +kernel
theorem sane_2 : (openT saneD1).2 = 0 := by decide +kernel
theorem sane_4 : saneJ0.roomT = 112 := by decide +kernel
theorem sane_5 : (appendT saneJ0 (List.replicate 113 0)).2 = 2 := by decide +kernel
theorem sane_6 : (appendT saneJ0 [97, 98]).2 = 0 := by decide +kernel
theorem sane_7 : (syncJ saneJ1 saneD1).2.2 = 0 := by decide +kernel
theorem sane_9 : (openT saneD2).2 = 0 := by decide +kernel
theorem sane_10 : saneJ3.records = [[97, 98]] := by decide +kernel
end Go.Proofs.Ythlidhfahaalgaa
