/-
  No cell of these rows narrows 'for every input' (looked for: loops, veiled, ifaces, maps, wideKeys, modest, calm, conditions, laid).
  DERIVED. THE GIVEN ROWS OF THIS SEAT. 7 by the template 'for every input the law returns true; each argument reads behind the call as it read before'; 0 by the template 'total and deterministic' (their statements: YtakjalapninndaaTotals.lean).
  GIVEN WITH THE SEED: the statements are not yours to turn. If you find one false, say at which input.
  Laid BY PROGRAM, IN A SANDBOX (cutbox-rows.mjs): the forced cells as the released guide's own fill.sh prints them over the translation 3abec7739ee14bcf… (all of the seat's roots in one cut). By AI agents, Wed Nov 11 2026. No macro, syntax, notation, axiom, sorry.
-/
import Derived.Test.YtakjalapninndaaChecked
import GoSem.Claim
import GoSem.ClaimJoined
import GoSem.ClaimMapViews
import Derived.JoinedTies
import Derived.KernelRfl
namespace Go.Proofs.Ytakjalapninndaa
/- THE CELL 'sum', in the pinned program and in every row, IS THE sha256 OF THE DUMP (.gsa) THAT YtakjalapninndaaProg.lean LOADS. Nothing in Lean hashes anything: it is a label: what it is worth is what the hold of that sum in a sandbox is worth. -/
noncomputable def Try.pinned : Pinned := { name := "ytakjalapninndaa", sum := "3abec7739ee14bcf3818a7080e377f0bae648204ce6e1cc3e49a4d3552630232", checked := Try.checked }
namespace Rows
def none {H : Type} : Left H := { results := [], args := [] }

/-- 'acequialaw32.PlantSpec': WHATEVER THE INPUT: true; the input reads as it did. -/
def plantSpecSpec : ChangeSpec := { name := "plantSpec", fn := fun _ => fun
  | [d1, d2] => { results := [.lit (.bool true)], args := [d1, d2] }
  | _ => none }
def plantSpecRow : OpenClaim := { program := "ytakjalapninndaa", sum := "3abec7739ee14bcf3818a7080e377f0bae648204ce6e1cc3e49a4d3552630232", func := "acequia/acequialaw32.PlantSpec", spec := "plantSpec", unfollowed := true, recurses := true, apart := false }
def PlantSpecSaid : Prop := plantSpecRow.holds Try.pinned (OpenSpec.ofChange plantSpecSpec)

/-- ITS FALSE NEIGHBOUR: 'it returns false'. Refute it at one input. -/
def plantSpecWrong : ChangeSpec := { name := "plantSpec", fn := fun _ => fun
  | [d1, d2] => { results := [.lit (.bool false)], args := [d1, d2] }
  | _ => none }
def PlantSpecWrongFalsely : Prop := plantSpecRow.holds Try.pinned (OpenSpec.ofChange plantSpecWrong)

/-- 'acequialaw32.PlantNextSpec': WHATEVER THE INPUT: true; the input reads as it did. -/
def plantNextSpecSpec : ChangeSpec := { name := "plantNextSpec", fn := fun _ => fun
  | [d1, d2, d3, d4] => { results := [.lit (.bool true)], args := [d1, d2, d3, d4] }
  | _ => none }
def plantNextSpecRow : OpenClaim := { program := "ytakjalapninndaa", sum := "3abec7739ee14bcf3818a7080e377f0bae648204ce6e1cc3e49a4d3552630232", func := "acequia/acequialaw32.PlantNextSpec", spec := "plantNextSpec", unfollowed := true, recurses := true, apart := false }
def PlantNextSpecSaid : Prop := plantNextSpecRow.holds Try.pinned (OpenSpec.ofChange plantNextSpecSpec)

/-- ITS FALSE NEIGHBOUR: 'it returns false'. Refute it at one input. -/
def plantNextSpecWrong : ChangeSpec := { name := "plantNextSpec", fn := fun _ => fun
  | [d1, d2, d3, d4] => { results := [.lit (.bool false)], args := [d1, d2, d3, d4] }
  | _ => none }
def PlantNextSpecWrongFalsely : Prop := plantNextSpecRow.holds Try.pinned (OpenSpec.ofChange plantNextSpecWrong)

/-- 'acequialaw32.PlantClosed': WHATEVER THE INPUT: true; the input reads as it did. -/
def plantClosedSpec : ChangeSpec := { name := "plantClosed", fn := fun _ => fun
  | [d1, d2, d3, d4] => { results := [.lit (.bool true)], args := [d1, d2, d3, d4] }
  | _ => none }
def plantClosedRow : OpenClaim := { program := "ytakjalapninndaa", sum := "3abec7739ee14bcf3818a7080e377f0bae648204ce6e1cc3e49a4d3552630232", func := "acequia/acequialaw32.PlantClosed", spec := "plantClosed", unfollowed := true, recurses := true, apart := false }
def PlantClosedSaid : Prop := plantClosedRow.holds Try.pinned (OpenSpec.ofChange plantClosedSpec)

/-- ITS FALSE NEIGHBOUR: 'it returns false'. Refute it at one input. -/
def plantClosedWrong : ChangeSpec := { name := "plantClosed", fn := fun _ => fun
  | [d1, d2, d3, d4] => { results := [.lit (.bool false)], args := [d1, d2, d3, d4] }
  | _ => none }
def PlantClosedWrongFalsely : Prop := plantClosedRow.holds Try.pinned (OpenSpec.ofChange plantClosedWrong)

/-- 'acequialaw32.PlantPipe': WHATEVER THE INPUT: true; the input reads as it did. -/
def plantPipeSpec : ChangeSpec := { name := "plantPipe", fn := fun _ => fun
  | [d1, d2, d3] => { results := [.lit (.bool true)], args := [d1, d2, d3] }
  | _ => none }
def plantPipeRow : OpenClaim := { program := "ytakjalapninndaa", sum := "3abec7739ee14bcf3818a7080e377f0bae648204ce6e1cc3e49a4d3552630232", func := "acequia/acequialaw32.PlantPipe", spec := "plantPipe", unfollowed := true, recurses := true, apart := false }
def PlantPipeSaid : Prop := plantPipeRow.holds Try.pinned (OpenSpec.ofChange plantPipeSpec)

/-- ITS FALSE NEIGHBOUR: 'it returns false'. Refute it at one input. -/
def plantPipeWrong : ChangeSpec := { name := "plantPipe", fn := fun _ => fun
  | [d1, d2, d3] => { results := [.lit (.bool false)], args := [d1, d2, d3] }
  | _ => none }
def PlantPipeWrongFalsely : Prop := plantPipeRow.holds Try.pinned (OpenSpec.ofChange plantPipeWrong)

/-- 'acequialaw32.PlantDelay': WHATEVER THE INPUT: true; the input reads as it did. -/
def plantDelaySpec : ChangeSpec := { name := "plantDelay", fn := fun _ => fun
  | [d1, d2, d3, d4, d5] => { results := [.lit (.bool true)], args := [d1, d2, d3, d4, d5] }
  | _ => none }
def plantDelayRow : OpenClaim := { program := "ytakjalapninndaa", sum := "3abec7739ee14bcf3818a7080e377f0bae648204ce6e1cc3e49a4d3552630232", func := "acequia/acequialaw32.PlantDelay", spec := "plantDelay", unfollowed := true, recurses := true, apart := false }
def PlantDelaySaid : Prop := plantDelayRow.holds Try.pinned (OpenSpec.ofChange plantDelaySpec)

/-- ITS FALSE NEIGHBOUR: 'it returns false'. Refute it at one input. -/
def plantDelayWrong : ChangeSpec := { name := "plantDelay", fn := fun _ => fun
  | [d1, d2, d3, d4, d5] => { results := [.lit (.bool false)], args := [d1, d2, d3, d4, d5] }
  | _ => none }
def PlantDelayWrongFalsely : Prop := plantDelayRow.holds Try.pinned (OpenSpec.ofChange plantDelayWrong)

/-- 'acequialaw32.PlantStuck': WHATEVER THE INPUT: true; the input reads as it did. -/
def plantStuckSpec : ChangeSpec := { name := "plantStuck", fn := fun _ => fun
  | [d1, d2, d3, d4, d5] => { results := [.lit (.bool true)], args := [d1, d2, d3, d4, d5] }
  | _ => none }
def plantStuckRow : OpenClaim := { program := "ytakjalapninndaa", sum := "3abec7739ee14bcf3818a7080e377f0bae648204ce6e1cc3e49a4d3552630232", func := "acequia/acequialaw32.PlantStuck", spec := "plantStuck", unfollowed := true, recurses := true, apart := false }
def PlantStuckSaid : Prop := plantStuckRow.holds Try.pinned (OpenSpec.ofChange plantStuckSpec)

/-- ITS FALSE NEIGHBOUR: 'it returns false'. Refute it at one input. -/
def plantStuckWrong : ChangeSpec := { name := "plantStuck", fn := fun _ => fun
  | [d1, d2, d3, d4, d5] => { results := [.lit (.bool false)], args := [d1, d2, d3, d4, d5] }
  | _ => none }
def PlantStuckWrongFalsely : Prop := plantStuckRow.holds Try.pinned (OpenSpec.ofChange plantStuckWrong)

/-- 'acequialaw32.PlantSafe': WHATEVER THE INPUT: true; the input reads as it did. -/
def plantSafeSpec : ChangeSpec := { name := "plantSafe", fn := fun _ => fun
  | [d1, d2, d3] => { results := [.lit (.bool true)], args := [d1, d2, d3] }
  | _ => none }
def plantSafeRow : OpenClaim := { program := "ytakjalapninndaa", sum := "3abec7739ee14bcf3818a7080e377f0bae648204ce6e1cc3e49a4d3552630232", func := "acequia/acequialaw32.PlantSafe", spec := "plantSafe", unfollowed := true, recurses := true, apart := false }
def PlantSafeSaid : Prop := plantSafeRow.holds Try.pinned (OpenSpec.ofChange plantSafeSpec)

/-- ITS FALSE NEIGHBOUR: 'it returns false'. Refute it at one input. -/
def plantSafeWrong : ChangeSpec := { name := "plantSafe", fn := fun _ => fun
  | [d1, d2, d3] => { results := [.lit (.bool false)], args := [d1, d2, d3] }
  | _ => none }
def PlantSafeWrongFalsely : Prop := plantSafeRow.holds Try.pinned (OpenSpec.ofChange plantSafeWrong)

/- THE SECOND FORM. 'bulk': how many values and letters a reading holds, each counted each time it is reached (what is shared counts as often as it is met; a slice's spare places count too). A statement '..UptoSaid' is the law's where the arguments, and the package variables that the reading takes, are together of bulk at most 1048576: NARROWER than '..Said'. Prove '..Said' where nothing that the law and all that it calls make is longer than what came in: it says more and counts as full. Else prove '..UptoSaid'. A law counts once. -/
mutual
def uptoBulk {H : Type} : DataW H → Nat
  | .lit (.string bytes) => bytes.length + 1
  | .lit _ => 1
  | .nil => 1
  | .ptr d => uptoBulk d + 1
  | .slice elems spare => uptoBulkAll elems + uptoBulkAll spare + 1
  | .agg parts => uptoBulkAll parts + 1
  | .iface _ d => uptoBulk d + 1
  | .map entries => uptoBulkEntries entries + 1
  | .held _ => 1
def uptoBulkAll {H : Type} : List (DataW H) → Nat
  | [] => 0
  | d :: r => uptoBulk d + uptoBulkAll r
def uptoBulkEntries {H : Type} : List (Lit × DataW H) → Nat
  | [] => 0
  | x :: r => uptoBulkEntry x + uptoBulkEntries r
def uptoBulkEntry {H : Type} : Lit × DataW H → Nat
  | (.string bytes, d) => bytes.length + uptoBulk d + 1
  | (_, d) => uptoBulk d + 1
 end
def uptoSmall : (H : Type) → List (DataW H) → Bool := fun _ ds => decide (uptoBulkAll ds ≤ 1048576)
def OpenSpec.upto (s : _root_.Go.ChangeSpec) : _root_.Go.OpenSpec := { _root_.Go.OpenSpec.ofChange s with cond := some uptoSmall }

/-- 'acequialaw32.PlantSpec', WHERE WHAT IT READS IS OF BULK AT MOST 1048576: true; the input reads as it did. -/
def plantSpecUptoRow : OpenClaim := { program := "ytakjalapninndaa", sum := "3abec7739ee14bcf3818a7080e377f0bae648204ce6e1cc3e49a4d3552630232", func := "acequia/acequialaw32.PlantSpec", spec := "plantSpec", unfollowed := true, recurses := true, apart := false, narrowed := true }
def PlantSpecUptoSaid : Prop := plantSpecUptoRow.holds Try.pinned (OpenSpec.upto plantSpecSpec)

/-- 'acequialaw32.PlantNextSpec', WHERE WHAT IT READS IS OF BULK AT MOST 1048576: true; the input reads as it did. -/
def plantNextSpecUptoRow : OpenClaim := { program := "ytakjalapninndaa", sum := "3abec7739ee14bcf3818a7080e377f0bae648204ce6e1cc3e49a4d3552630232", func := "acequia/acequialaw32.PlantNextSpec", spec := "plantNextSpec", unfollowed := true, recurses := true, apart := false, narrowed := true }
def PlantNextSpecUptoSaid : Prop := plantNextSpecUptoRow.holds Try.pinned (OpenSpec.upto plantNextSpecSpec)

/-- 'acequialaw32.PlantClosed', WHERE WHAT IT READS IS OF BULK AT MOST 1048576: true; the input reads as it did. -/
def plantClosedUptoRow : OpenClaim := { program := "ytakjalapninndaa", sum := "3abec7739ee14bcf3818a7080e377f0bae648204ce6e1cc3e49a4d3552630232", func := "acequia/acequialaw32.PlantClosed", spec := "plantClosed", unfollowed := true, recurses := true, apart := false, narrowed := true }
def PlantClosedUptoSaid : Prop := plantClosedUptoRow.holds Try.pinned (OpenSpec.upto plantClosedSpec)

/-- 'acequialaw32.PlantPipe', WHERE WHAT IT READS IS OF BULK AT MOST 1048576: true; the input reads as it did. -/
def plantPipeUptoRow : OpenClaim := { program := "ytakjalapninndaa", sum := "3abec7739ee14bcf3818a7080e377f0bae648204ce6e1cc3e49a4d3552630232", func := "acequia/acequialaw32.PlantPipe", spec := "plantPipe", unfollowed := true, recurses := true, apart := false, narrowed := true }
def PlantPipeUptoSaid : Prop := plantPipeUptoRow.holds Try.pinned (OpenSpec.upto plantPipeSpec)

/-- 'acequialaw32.PlantDelay', WHERE WHAT IT READS IS OF BULK AT MOST 1048576: true; the input reads as it did. -/
def plantDelayUptoRow : OpenClaim := { program := "ytakjalapninndaa", sum := "3abec7739ee14bcf3818a7080e377f0bae648204ce6e1cc3e49a4d3552630232", func := "acequia/acequialaw32.PlantDelay", spec := "plantDelay", unfollowed := true, recurses := true, apart := false, narrowed := true }
def PlantDelayUptoSaid : Prop := plantDelayUptoRow.holds Try.pinned (OpenSpec.upto plantDelaySpec)

/-- 'acequialaw32.PlantStuck', WHERE WHAT IT READS IS OF BULK AT MOST 1048576: true; the input reads as it did. -/
def plantStuckUptoRow : OpenClaim := { program := "ytakjalapninndaa", sum := "3abec7739ee14bcf3818a7080e377f0bae648204ce6e1cc3e49a4d3552630232", func := "acequia/acequialaw32.PlantStuck", spec := "plantStuck", unfollowed := true, recurses := true, apart := false, narrowed := true }
def PlantStuckUptoSaid : Prop := plantStuckUptoRow.holds Try.pinned (OpenSpec.upto plantStuckSpec)

/-- 'acequialaw32.PlantSafe', WHERE WHAT IT READS IS OF BULK AT MOST 1048576: true; the input reads as it did. -/
def plantSafeUptoRow : OpenClaim := { program := "ytakjalapninndaa", sum := "3abec7739ee14bcf3818a7080e377f0bae648204ce6e1cc3e49a4d3552630232", func := "acequia/acequialaw32.PlantSafe", spec := "plantSafe", unfollowed := true, recurses := true, apart := false, narrowed := true }
def PlantSafeUptoSaid : Prop := plantSafeUptoRow.holds Try.pinned (OpenSpec.upto plantSafeSpec)

end Rows
end Go.Proofs.Ytakjalapninndaa
