/-
  No cell of these rows narrows 'for every input' (looked for: loops, veiled, ifaces, maps, wideKeys, modest, calm, conditions, laid).
  DERIVED. THE GIVEN ROWS OF THIS SEAT. 9 by the template 'for every input the law returns true; each argument reads behind the call as it read before'; 0 by the template 'total and deterministic' (their statements: YtmjbcmicjhgciaaTotals.lean).
  GIVEN WITH THE SEED: the statements are not yours to turn. If you find one false, say at which input.
  Laid BY PROGRAM, IN A SANDBOX (cutbox-rows.mjs): the forced cells as the released guide's own fill.sh prints them over the translation 0059accc6d2693c2… (all of the seat's roots in one cut). By AI agents, Wed Nov 11 2026. No macro, syntax, notation, axiom, sorry.
-/
import Derived.Test.YtmjbcmicjhgciaaChecked
import GoSem.Claim
import GoSem.ClaimJoined
import GoSem.ClaimMapViews
import Derived.JoinedTies
import Derived.KernelRfl
namespace Go.Proofs.Ytmjbcmicjhgciaa
/- THE CELL 'sum', in the pinned program and in every row, IS THE sha256 OF THE DUMP (.gsa) THAT YtmjbcmicjhgciaaProg.lean LOADS. Nothing in Lean hashes anything: it is a label: what it is worth is what the hold of that sum in a sandbox is worth. -/
noncomputable def Try.pinned : Pinned := { name := "ytmjbcmicjhgciaa", sum := "0059accc6d2693c209a9f49e5a83889b9bd1d618b6014f4d70f2ab9faf3d5a21", checked := Try.checked }
namespace Rows
def none {H : Type} : Left H := { results := [], args := [] }

/-- 'acequialaw13.IntervalSpec': WHATEVER THE INPUT: true; the input reads as it did. -/
def intervalSpecSpec : ChangeSpec := { name := "intervalSpec", fn := fun _ => fun
  | [d1, d2] => { results := [.lit (.bool true)], args := [d1, d2] }
  | _ => none }
def intervalSpecRow : OpenClaim := { program := "ytmjbcmicjhgciaa", sum := "0059accc6d2693c209a9f49e5a83889b9bd1d618b6014f4d70f2ab9faf3d5a21", func := "acequia/acequialaw13.IntervalSpec", spec := "intervalSpec", unfollowed := true, recurses := true, named := ["math/bits.divideError", "math/bits.overflowError"], apart := false }
def IntervalSpecSaid : Prop := intervalSpecRow.holds Try.pinned (OpenSpec.ofChange intervalSpecSpec)

/-- ITS FALSE NEIGHBOUR: 'it returns false'. Refute it at one input. -/
def intervalSpecWrong : ChangeSpec := { name := "intervalSpec", fn := fun _ => fun
  | [d1, d2] => { results := [.lit (.bool false)], args := [d1, d2] }
  | _ => none }
def IntervalSpecWrongFalsely : Prop := intervalSpecRow.holds Try.pinned (OpenSpec.ofChange intervalSpecWrong)

/-- 'acequialaw13.IntervalRootSpec': WHATEVER THE INPUT: true; the input reads as it did. -/
def intervalRootSpecSpec : ChangeSpec := { name := "intervalRootSpec", fn := fun _ => fun
  | [d1, d2] => { results := [.lit (.bool true)], args := [d1, d2] }
  | _ => none }
def intervalRootSpecRow : OpenClaim := { program := "ytmjbcmicjhgciaa", sum := "0059accc6d2693c209a9f49e5a83889b9bd1d618b6014f4d70f2ab9faf3d5a21", func := "acequia/acequialaw13.IntervalRootSpec", spec := "intervalRootSpec", unfollowed := true, recurses := true, named := ["math/bits.divideError", "math/bits.overflowError"], apart := false }
def IntervalRootSpecSaid : Prop := intervalRootSpecRow.holds Try.pinned (OpenSpec.ofChange intervalRootSpecSpec)

/-- ITS FALSE NEIGHBOUR: 'it returns false'. Refute it at one input. -/
def intervalRootSpecWrong : ChangeSpec := { name := "intervalRootSpec", fn := fun _ => fun
  | [d1, d2] => { results := [.lit (.bool false)], args := [d1, d2] }
  | _ => none }
def IntervalRootSpecWrongFalsely : Prop := intervalRootSpecRow.holds Try.pinned (OpenSpec.ofChange intervalRootSpecWrong)

/-- 'acequialaw13.IntervalMeetSpec': WHATEVER THE INPUT: true; the input reads as it did. -/
def intervalMeetSpecSpec : ChangeSpec := { name := "intervalMeetSpec", fn := fun _ => fun
  | [d1, d2] => { results := [.lit (.bool true)], args := [d1, d2] }
  | _ => none }
def intervalMeetSpecRow : OpenClaim := { program := "ytmjbcmicjhgciaa", sum := "0059accc6d2693c209a9f49e5a83889b9bd1d618b6014f4d70f2ab9faf3d5a21", func := "acequia/acequialaw13.IntervalMeetSpec", spec := "intervalMeetSpec", unfollowed := true, recurses := true, named := ["math/bits.divideError", "math/bits.overflowError"], apart := false }
def IntervalMeetSpecSaid : Prop := intervalMeetSpecRow.holds Try.pinned (OpenSpec.ofChange intervalMeetSpecSpec)

/-- ITS FALSE NEIGHBOUR: 'it returns false'. Refute it at one input. -/
def intervalMeetSpecWrong : ChangeSpec := { name := "intervalMeetSpec", fn := fun _ => fun
  | [d1, d2] => { results := [.lit (.bool false)], args := [d1, d2] }
  | _ => none }
def IntervalMeetSpecWrongFalsely : Prop := intervalMeetSpecRow.holds Try.pinned (OpenSpec.ofChange intervalMeetSpecWrong)

/-- 'acequialaw13.IntervalEncloses': WHATEVER THE INPUT: true; the input reads as it did. -/
def intervalEnclosesSpec : ChangeSpec := { name := "intervalEncloses", fn := fun _ => fun
  | [d1, d2, d3, d4] => { results := [.lit (.bool true)], args := [d1, d2, d3, d4] }
  | _ => none }
def intervalEnclosesRow : OpenClaim := { program := "ytmjbcmicjhgciaa", sum := "0059accc6d2693c209a9f49e5a83889b9bd1d618b6014f4d70f2ab9faf3d5a21", func := "acequia/acequialaw13.IntervalEncloses", spec := "intervalEncloses", unfollowed := true, recurses := true, named := ["math/bits.divideError", "math/bits.overflowError"], apart := false }
def IntervalEnclosesSaid : Prop := intervalEnclosesRow.holds Try.pinned (OpenSpec.ofChange intervalEnclosesSpec)

/-- ITS FALSE NEIGHBOUR: 'it returns false'. Refute it at one input. -/
def intervalEnclosesWrong : ChangeSpec := { name := "intervalEncloses", fn := fun _ => fun
  | [d1, d2, d3, d4] => { results := [.lit (.bool false)], args := [d1, d2, d3, d4] }
  | _ => none }
def IntervalEnclosesWrongFalsely : Prop := intervalEnclosesRow.holds Try.pinned (OpenSpec.ofChange intervalEnclosesWrong)

/-- 'acequialaw13.IntervalRoots': WHATEVER THE INPUT: true; the input reads as it did. -/
def intervalRootsSpec : ChangeSpec := { name := "intervalRoots", fn := fun _ => fun
  | [d1, d2] => { results := [.lit (.bool true)], args := [d1, d2] }
  | _ => none }
def intervalRootsRow : OpenClaim := { program := "ytmjbcmicjhgciaa", sum := "0059accc6d2693c209a9f49e5a83889b9bd1d618b6014f4d70f2ab9faf3d5a21", func := "acequia/acequialaw13.IntervalRoots", spec := "intervalRoots", unfollowed := true, recurses := true, named := ["math/bits.divideError", "math/bits.overflowError"], apart := false }
def IntervalRootsSaid : Prop := intervalRootsRow.holds Try.pinned (OpenSpec.ofChange intervalRootsSpec)

/-- ITS FALSE NEIGHBOUR: 'it returns false'. Refute it at one input. -/
def intervalRootsWrong : ChangeSpec := { name := "intervalRoots", fn := fun _ => fun
  | [d1, d2] => { results := [.lit (.bool false)], args := [d1, d2] }
  | _ => none }
def IntervalRootsWrongFalsely : Prop := intervalRootsRow.holds Try.pinned (OpenSpec.ofChange intervalRootsWrong)

/-- 'acequialaw13.IntervalScaled': WHATEVER THE INPUT: true; the input reads as it did. -/
def intervalScaledSpec : ChangeSpec := { name := "intervalScaled", fn := fun _ => fun
  | [d1, d2] => { results := [.lit (.bool true)], args := [d1, d2] }
  | _ => none }
def intervalScaledRow : OpenClaim := { program := "ytmjbcmicjhgciaa", sum := "0059accc6d2693c209a9f49e5a83889b9bd1d618b6014f4d70f2ab9faf3d5a21", func := "acequia/acequialaw13.IntervalScaled", spec := "intervalScaled", unfollowed := true, recurses := true, named := ["math/bits.divideError", "math/bits.overflowError"], apart := false }
def IntervalScaledSaid : Prop := intervalScaledRow.holds Try.pinned (OpenSpec.ofChange intervalScaledSpec)

/-- ITS FALSE NEIGHBOUR: 'it returns false'. Refute it at one input. -/
def intervalScaledWrong : ChangeSpec := { name := "intervalScaled", fn := fun _ => fun
  | [d1, d2] => { results := [.lit (.bool false)], args := [d1, d2] }
  | _ => none }
def IntervalScaledWrongFalsely : Prop := intervalScaledRow.holds Try.pinned (OpenSpec.ofChange intervalScaledWrong)

/-- 'acequialaw13.IntervalInside': WHATEVER THE INPUT: true; the input reads as it did. -/
def intervalInsideSpec : ChangeSpec := { name := "intervalInside", fn := fun _ => fun
  | [d1, d2, d3, d4, d5] => { results := [.lit (.bool true)], args := [d1, d2, d3, d4, d5] }
  | _ => none }
def intervalInsideRow : OpenClaim := { program := "ytmjbcmicjhgciaa", sum := "0059accc6d2693c209a9f49e5a83889b9bd1d618b6014f4d70f2ab9faf3d5a21", func := "acequia/acequialaw13.IntervalInside", spec := "intervalInside", unfollowed := true, recurses := true, named := ["math/bits.divideError", "math/bits.overflowError"], apart := false }
def IntervalInsideSaid : Prop := intervalInsideRow.holds Try.pinned (OpenSpec.ofChange intervalInsideSpec)

/-- ITS FALSE NEIGHBOUR: 'it returns false'. Refute it at one input. -/
def intervalInsideWrong : ChangeSpec := { name := "intervalInside", fn := fun _ => fun
  | [d1, d2, d3, d4, d5] => { results := [.lit (.bool false)], args := [d1, d2, d3, d4, d5] }
  | _ => none }
def IntervalInsideWrongFalsely : Prop := intervalInsideRow.holds Try.pinned (OpenSpec.ofChange intervalInsideWrong)

/-- 'acequialaw13.IntervalLaws': WHATEVER THE INPUT: true; the input reads as it did. -/
def intervalLawsSpec : ChangeSpec := { name := "intervalLaws", fn := fun _ => fun
  | [d1, d2, d3] => { results := [.lit (.bool true)], args := [d1, d2, d3] }
  | _ => none }
def intervalLawsRow : OpenClaim := { program := "ytmjbcmicjhgciaa", sum := "0059accc6d2693c209a9f49e5a83889b9bd1d618b6014f4d70f2ab9faf3d5a21", func := "acequia/acequialaw13.IntervalLaws", spec := "intervalLaws", unfollowed := true, recurses := true, named := ["math/bits.divideError", "math/bits.overflowError"], apart := false }
def IntervalLawsSaid : Prop := intervalLawsRow.holds Try.pinned (OpenSpec.ofChange intervalLawsSpec)

/-- ITS FALSE NEIGHBOUR: 'it returns false'. Refute it at one input. -/
def intervalLawsWrong : ChangeSpec := { name := "intervalLaws", fn := fun _ => fun
  | [d1, d2, d3] => { results := [.lit (.bool false)], args := [d1, d2, d3] }
  | _ => none }
def IntervalLawsWrongFalsely : Prop := intervalLawsRow.holds Try.pinned (OpenSpec.ofChange intervalLawsWrong)

/-- 'acequialaw13.IntervalLattice': WHATEVER THE INPUT: true; the input reads as it did. -/
def intervalLatticeSpec : ChangeSpec := { name := "intervalLattice", fn := fun _ => fun
  | [d1, d2, d3, d4] => { results := [.lit (.bool true)], args := [d1, d2, d3, d4] }
  | _ => none }
def intervalLatticeRow : OpenClaim := { program := "ytmjbcmicjhgciaa", sum := "0059accc6d2693c209a9f49e5a83889b9bd1d618b6014f4d70f2ab9faf3d5a21", func := "acequia/acequialaw13.IntervalLattice", spec := "intervalLattice", unfollowed := true, recurses := true, named := ["math/bits.divideError", "math/bits.overflowError"], apart := false }
def IntervalLatticeSaid : Prop := intervalLatticeRow.holds Try.pinned (OpenSpec.ofChange intervalLatticeSpec)

/-- ITS FALSE NEIGHBOUR: 'it returns false'. Refute it at one input. -/
def intervalLatticeWrong : ChangeSpec := { name := "intervalLattice", fn := fun _ => fun
  | [d1, d2, d3, d4] => { results := [.lit (.bool false)], args := [d1, d2, d3, d4] }
  | _ => none }
def IntervalLatticeWrongFalsely : Prop := intervalLatticeRow.holds Try.pinned (OpenSpec.ofChange intervalLatticeWrong)

/- THE SECOND FORM. 'bulk': how many values and letters a reading holds, each counted each time it is reached (what is shared counts as often as it is met; a slice's spare places count too). A statement '..UptoSaid' is the law's where the arguments, and the package variables that the reading takes, are together of bulk at most 1048576: NARROWER than '..Said'. Prove '..Said' where nothing that the law and all that it calls make is longer than what came in: it says more and counts as full. Else prove '..UptoSaid'. A law counts once. -/
mutual
def uptoBulk {H : Type} : DataW H → Nat
  | .lit (.string bytes) => bytes.length + 1
  | .lit _ => 1
  | .nil => 1
  | .ptr d => uptoBulk d + 1
  | .slice elems spare => uptoBulkAll elems + uptoBulkAll spare + 1
  | .agg parts => uptoBulkAll parts + 1
  | .iface _ d => uptoBulk d + 1
  | .map entries => uptoBulkEntries entries + 1
  | .held _ => 1
def uptoBulkAll {H : Type} : List (DataW H) → Nat
  | [] => 0
  | d :: r => uptoBulk d + uptoBulkAll r
def uptoBulkEntries {H : Type} : List (Lit × DataW H) → Nat
  | [] => 0
  | x :: r => uptoBulkEntry x + uptoBulkEntries r
def uptoBulkEntry {H : Type} : Lit × DataW H → Nat
  | (.string bytes, d) => bytes.length + uptoBulk d + 1
  | (_, d) => uptoBulk d + 1
 end
def uptoSmall : (H : Type) → List (DataW H) → Bool := fun _ ds => decide (uptoBulkAll ds ≤ 1048576)
def OpenSpec.upto (s : _root_.Go.ChangeSpec) : _root_.Go.OpenSpec := { _root_.Go.OpenSpec.ofChange s with cond := some uptoSmall }

/-- 'acequialaw13.IntervalSpec', WHERE WHAT IT READS IS OF BULK AT MOST 1048576: true; the input reads as it did. -/
def intervalSpecUptoRow : OpenClaim := { program := "ytmjbcmicjhgciaa", sum := "0059accc6d2693c209a9f49e5a83889b9bd1d618b6014f4d70f2ab9faf3d5a21", func := "acequia/acequialaw13.IntervalSpec", spec := "intervalSpec", unfollowed := true, recurses := true, named := ["math/bits.divideError", "math/bits.overflowError"], apart := false, narrowed := true }
def IntervalSpecUptoSaid : Prop := intervalSpecUptoRow.holds Try.pinned (OpenSpec.upto intervalSpecSpec)

/-- 'acequialaw13.IntervalRootSpec', WHERE WHAT IT READS IS OF BULK AT MOST 1048576: true; the input reads as it did. -/
def intervalRootSpecUptoRow : OpenClaim := { program := "ytmjbcmicjhgciaa", sum := "0059accc6d2693c209a9f49e5a83889b9bd1d618b6014f4d70f2ab9faf3d5a21", func := "acequia/acequialaw13.IntervalRootSpec", spec := "intervalRootSpec", unfollowed := true, recurses := true, named := ["math/bits.divideError", "math/bits.overflowError"], apart := false, narrowed := true }
def IntervalRootSpecUptoSaid : Prop := intervalRootSpecUptoRow.holds Try.pinned (OpenSpec.upto intervalRootSpecSpec)

/-- 'acequialaw13.IntervalMeetSpec', WHERE WHAT IT READS IS OF BULK AT MOST 1048576: true; the input reads as it did. -/
def intervalMeetSpecUptoRow : OpenClaim := { program := "ytmjbcmicjhgciaa", sum := "0059accc6d2693c209a9f49e5a83889b9bd1d618b6014f4d70f2ab9faf3d5a21", func := "acequia/acequialaw13.IntervalMeetSpec", spec := "intervalMeetSpec", unfollowed := true, recurses := true, named := ["math/bits.divideError", "math/bits.overflowError"], apart := false, narrowed := true }
def IntervalMeetSpecUptoSaid : Prop := intervalMeetSpecUptoRow.holds Try.pinned (OpenSpec.upto intervalMeetSpecSpec)

/-- 'acequialaw13.IntervalEncloses', WHERE WHAT IT READS IS OF BULK AT MOST 1048576: true; the input reads as it did. -/
def intervalEnclosesUptoRow : OpenClaim := { program := "ytmjbcmicjhgciaa", sum := "0059accc6d2693c209a9f49e5a83889b9bd1d618b6014f4d70f2ab9faf3d5a21", func := "acequia/acequialaw13.IntervalEncloses", spec := "intervalEncloses", unfollowed := true, recurses := true, named := ["math/bits.divideError", "math/bits.overflowError"], apart := false, narrowed := true }
def IntervalEnclosesUptoSaid : Prop := intervalEnclosesUptoRow.holds Try.pinned (OpenSpec.upto intervalEnclosesSpec)

/-- 'acequialaw13.IntervalRoots', WHERE WHAT IT READS IS OF BULK AT MOST 1048576: true; the input reads as it did. -/
def intervalRootsUptoRow : OpenClaim := { program := "ytmjbcmicjhgciaa", sum := "0059accc6d2693c209a9f49e5a83889b9bd1d618b6014f4d70f2ab9faf3d5a21", func := "acequia/acequialaw13.IntervalRoots", spec := "intervalRoots", unfollowed := true, recurses := true, named := ["math/bits.divideError", "math/bits.overflowError"], apart := false, narrowed := true }
def IntervalRootsUptoSaid : Prop := intervalRootsUptoRow.holds Try.pinned (OpenSpec.upto intervalRootsSpec)

/-- 'acequialaw13.IntervalScaled', WHERE WHAT IT READS IS OF BULK AT MOST 1048576: true; the input reads as it did. -/
def intervalScaledUptoRow : OpenClaim := { program := "ytmjbcmicjhgciaa", sum := "0059accc6d2693c209a9f49e5a83889b9bd1d618b6014f4d70f2ab9faf3d5a21", func := "acequia/acequialaw13.IntervalScaled", spec := "intervalScaled", unfollowed := true, recurses := true, named := ["math/bits.divideError", "math/bits.overflowError"], apart := false, narrowed := true }
def IntervalScaledUptoSaid : Prop := intervalScaledUptoRow.holds Try.pinned (OpenSpec.upto intervalScaledSpec)

/-- 'acequialaw13.IntervalInside', WHERE WHAT IT READS IS OF BULK AT MOST 1048576: true; the input reads as it did. -/
def intervalInsideUptoRow : OpenClaim := { program := "ytmjbcmicjhgciaa", sum := "0059accc6d2693c209a9f49e5a83889b9bd1d618b6014f4d70f2ab9faf3d5a21", func := "acequia/acequialaw13.IntervalInside", spec := "intervalInside", unfollowed := true, recurses := true, named := ["math/bits.divideError", "math/bits.overflowError"], apart := false, narrowed := true }
def IntervalInsideUptoSaid : Prop := intervalInsideUptoRow.holds Try.pinned (OpenSpec.upto intervalInsideSpec)

/-- 'acequialaw13.IntervalLaws', WHERE WHAT IT READS IS OF BULK AT MOST 1048576: true; the input reads as it did. -/
def intervalLawsUptoRow : OpenClaim := { program := "ytmjbcmicjhgciaa", sum := "0059accc6d2693c209a9f49e5a83889b9bd1d618b6014f4d70f2ab9faf3d5a21", func := "acequia/acequialaw13.IntervalLaws", spec := "intervalLaws", unfollowed := true, recurses := true, named := ["math/bits.divideError", "math/bits.overflowError"], apart := false, narrowed := true }
def IntervalLawsUptoSaid : Prop := intervalLawsUptoRow.holds Try.pinned (OpenSpec.upto intervalLawsSpec)

/-- 'acequialaw13.IntervalLattice', WHERE WHAT IT READS IS OF BULK AT MOST 1048576: true; the input reads as it did. -/
def intervalLatticeUptoRow : OpenClaim := { program := "ytmjbcmicjhgciaa", sum := "0059accc6d2693c209a9f49e5a83889b9bd1d618b6014f4d70f2ab9faf3d5a21", func := "acequia/acequialaw13.IntervalLattice", spec := "intervalLattice", unfollowed := true, recurses := true, named := ["math/bits.divideError", "math/bits.overflowError"], apart := false, narrowed := true }
def IntervalLatticeUptoSaid : Prop := intervalLatticeUptoRow.holds Try.pinned (OpenSpec.upto intervalLatticeSpec)

end Rows
end Go.Proofs.Ytmjbcmicjhgciaa
