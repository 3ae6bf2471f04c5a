/-
  No cell of these rows narrows 'for every input' (looked for: loops, veiled, ifaces, maps, wideKeys, modest, calm, conditions, laid).
  DERIVED. THE GIVEN ROWS OF THIS SEAT. 7 by the template 'for every input the law returns true; each argument reads behind the call as it read before'; 0 by the template 'total and deterministic' (their statements: YthlidhfahaalgaaTotals.lean).
  GIVEN WITH THE SEED: the statements are not yours to turn. If you find one false, say at which input.
  Laid BY PROGRAM, IN A SANDBOX (cutbox-rows.mjs): the forced cells as the released guide's own fill.sh prints them over the translation 1a9de7b9068e9d8d… (all of the seat's roots in one cut). By AI agents, Wed Nov 11 2026. No macro, syntax, notation, axiom, sorry.
-/
import Derived.Test.YthlidhfahaalgaaChecked
import GoSem.Claim
import GoSem.ClaimJoined
import GoSem.ClaimMapViews
import Derived.JoinedTies
import Derived.KernelRfl
namespace Go.Proofs.Ythlidhfahaalgaa
/- THE CELL 'sum', in the pinned program and in every row, IS THE sha256 OF THE DUMP (.gsa) THAT YthlidhfahaalgaaProg.lean LOADS. Nothing in Lean hashes anything: it is a label: what it is worth is what the hold of that sum in a sandbox is worth. -/
noncomputable def Try.pinned : Pinned := { name := "ythlidhfahaalgaa", sum := "1a9de7b9068e9d8d4145d8cc3ea2d8eff8140268357e4b23f0bb4603da7181b2", checked := Try.checked }
namespace Rows
def none {H : Type} : Left H := { results := [], args := [] }

/-- 'acequialaw05.JournalOpenSpec': WHATEVER THE INPUT: true; the input reads as it did. -/
def journalOpenSpecSpec : ChangeSpec := { name := "journalOpenSpec", fn := fun _ => fun
  | [d] => { results := [.lit (.bool true)], args := [d] }
  | _ => none }
def journalOpenSpecRow : OpenClaim := { program := "ythlidhfahaalgaa", sum := "1a9de7b9068e9d8d4145d8cc3ea2d8eff8140268357e4b23f0bb4603da7181b2", func := "acequia/acequialaw05.JournalOpenSpec", spec := "journalOpenSpec", unfollowed := true, recurses := true, apart := false }
def JournalOpenSpecSaid : Prop := journalOpenSpecRow.holds Try.pinned (OpenSpec.ofChange journalOpenSpecSpec)

/-- ITS FALSE NEIGHBOUR: 'it returns false'. Refute it at one input. -/
def journalOpenSpecWrong : ChangeSpec := { name := "journalOpenSpec", fn := fun _ => fun
  | [d] => { results := [.lit (.bool false)], args := [d] }
  | _ => none }
def JournalOpenSpecWrongFalsely : Prop := journalOpenSpecRow.holds Try.pinned (OpenSpec.ofChange journalOpenSpecWrong)

/-- 'acequialaw05.JournalAppendSpec': WHATEVER THE INPUT: true; the input reads as it did. -/
def journalAppendSpecSpec : ChangeSpec := { name := "journalAppendSpec", fn := fun _ => fun
  | [d1, d2] => { results := [.lit (.bool true)], args := [d1, d2] }
  | _ => none }
def journalAppendSpecRow : OpenClaim := { program := "ythlidhfahaalgaa", sum := "1a9de7b9068e9d8d4145d8cc3ea2d8eff8140268357e4b23f0bb4603da7181b2", func := "acequia/acequialaw05.JournalAppendSpec", spec := "journalAppendSpec", unfollowed := true, recurses := true, apart := false }
def JournalAppendSpecSaid : Prop := journalAppendSpecRow.holds Try.pinned (OpenSpec.ofChange journalAppendSpecSpec)

/-- ITS FALSE NEIGHBOUR: 'it returns false'. Refute it at one input. -/
def journalAppendSpecWrong : ChangeSpec := { name := "journalAppendSpec", fn := fun _ => fun
  | [d1, d2] => { results := [.lit (.bool false)], args := [d1, d2] }
  | _ => none }
def JournalAppendSpecWrongFalsely : Prop := journalAppendSpecRow.holds Try.pinned (OpenSpec.ofChange journalAppendSpecWrong)

/-- 'acequialaw05.JournalSyncSpec': WHATEVER THE INPUT: true; the input reads as it did. -/
def journalSyncSpecSpec : ChangeSpec := { name := "journalSyncSpec", fn := fun _ => fun
  | [d1, d2] => { results := [.lit (.bool true)], args := [d1, d2] }
  | _ => none }
def journalSyncSpecRow : OpenClaim := { program := "ythlidhfahaalgaa", sum := "1a9de7b9068e9d8d4145d8cc3ea2d8eff8140268357e4b23f0bb4603da7181b2", func := "acequia/acequialaw05.JournalSyncSpec", spec := "journalSyncSpec", unfollowed := true, recurses := true, apart := false }
def JournalSyncSpecSaid : Prop := journalSyncSpecRow.holds Try.pinned (OpenSpec.ofChange journalSyncSpecSpec)

/-- ITS FALSE NEIGHBOUR: 'it returns false'. Refute it at one input. -/
def journalSyncSpecWrong : ChangeSpec := { name := "journalSyncSpec", fn := fun _ => fun
  | [d1, d2] => { results := [.lit (.bool false)], args := [d1, d2] }
  | _ => none }
def JournalSyncSpecWrongFalsely : Prop := journalSyncSpecRow.holds Try.pinned (OpenSpec.ofChange journalSyncSpecWrong)

/-- 'acequialaw05.JournalRoom': WHATEVER THE INPUT: true; the input reads as it did. -/
def journalRoomSpec : ChangeSpec := { name := "journalRoom", fn := fun _ => fun
  | [d1, d2] => { results := [.lit (.bool true)], args := [d1, d2] }
  | _ => none }
def journalRoomRow : OpenClaim := { program := "ythlidhfahaalgaa", sum := "1a9de7b9068e9d8d4145d8cc3ea2d8eff8140268357e4b23f0bb4603da7181b2", func := "acequia/acequialaw05.JournalRoom", spec := "journalRoom", unfollowed := true, recurses := true, apart := false }
def JournalRoomSaid : Prop := journalRoomRow.holds Try.pinned (OpenSpec.ofChange journalRoomSpec)

/-- ITS FALSE NEIGHBOUR: 'it returns false'. Refute it at one input. -/
def journalRoomWrong : ChangeSpec := { name := "journalRoom", fn := fun _ => fun
  | [d1, d2] => { results := [.lit (.bool false)], args := [d1, d2] }
  | _ => none }
def JournalRoomWrongFalsely : Prop := journalRoomRow.holds Try.pinned (OpenSpec.ofChange journalRoomWrong)

/-- 'acequialaw05.JournalDamage': WHATEVER THE INPUT: true; the input reads as it did. -/
def journalDamageSpec : ChangeSpec := { name := "journalDamage", fn := fun _ => fun
  | [d1, d2, d3, d4] => { results := [.lit (.bool true)], args := [d1, d2, d3, d4] }
  | _ => none }
def journalDamageRow : OpenClaim := { program := "ythlidhfahaalgaa", sum := "1a9de7b9068e9d8d4145d8cc3ea2d8eff8140268357e4b23f0bb4603da7181b2", func := "acequia/acequialaw05.JournalDamage", spec := "journalDamage", unfollowed := true, recurses := true, apart := false }
def JournalDamageSaid : Prop := journalDamageRow.holds Try.pinned (OpenSpec.ofChange journalDamageSpec)

/-- ITS FALSE NEIGHBOUR: 'it returns false'. Refute it at one input. -/
def journalDamageWrong : ChangeSpec := { name := "journalDamage", fn := fun _ => fun
  | [d1, d2, d3, d4] => { results := [.lit (.bool false)], args := [d1, d2, d3, d4] }
  | _ => none }
def JournalDamageWrongFalsely : Prop := journalDamageRow.holds Try.pinned (OpenSpec.ofChange journalDamageWrong)

/-- 'acequialaw05.JournalSteps': WHATEVER THE INPUT: true; the input reads as it did. -/
def journalStepsSpec : ChangeSpec := { name := "journalSteps", fn := fun _ => fun
  | [d1, d2] => { results := [.lit (.bool true)], args := [d1, d2] }
  | _ => none }
def journalStepsRow : OpenClaim := { program := "ythlidhfahaalgaa", sum := "1a9de7b9068e9d8d4145d8cc3ea2d8eff8140268357e4b23f0bb4603da7181b2", func := "acequia/acequialaw05.JournalSteps", spec := "journalSteps", unfollowed := true, recurses := true, apart := false }
def JournalStepsSaid : Prop := journalStepsRow.holds Try.pinned (OpenSpec.ofChange journalStepsSpec)

/-- ITS FALSE NEIGHBOUR: 'it returns false'. Refute it at one input. -/
def journalStepsWrong : ChangeSpec := { name := "journalSteps", fn := fun _ => fun
  | [d1, d2] => { results := [.lit (.bool false)], args := [d1, d2] }
  | _ => none }
def JournalStepsWrongFalsely : Prop := journalStepsRow.holds Try.pinned (OpenSpec.ofChange journalStepsWrong)

/-- 'acequialaw05.JournalSurvives': WHATEVER THE INPUT: true; the input reads as it did. -/
def journalSurvivesSpec : ChangeSpec := { name := "journalSurvives", fn := fun _ => fun
  | [d1, d2] => { results := [.lit (.bool true)], args := [d1, d2] }
  | _ => none }
def journalSurvivesRow : OpenClaim := { program := "ythlidhfahaalgaa", sum := "1a9de7b9068e9d8d4145d8cc3ea2d8eff8140268357e4b23f0bb4603da7181b2", func := "acequia/acequialaw05.JournalSurvives", spec := "journalSurvives", unfollowed := true, recurses := true, apart := false }
def JournalSurvivesSaid : Prop := journalSurvivesRow.holds Try.pinned (OpenSpec.ofChange journalSurvivesSpec)

/-- ITS FALSE NEIGHBOUR: 'it returns false'. Refute it at one input. -/
def journalSurvivesWrong : ChangeSpec := { name := "journalSurvives", fn := fun _ => fun
  | [d1, d2] => { results := [.lit (.bool false)], args := [d1, d2] }
  | _ => none }
def JournalSurvivesWrongFalsely : Prop := journalSurvivesRow.holds Try.pinned (OpenSpec.ofChange journalSurvivesWrong)

/- THE SECOND FORM. 'bulk': how many values and letters a reading holds, each counted each time it is reached (what is shared counts as often as it is met; a slice's spare places count too). A statement '..UptoSaid' is the law's where the arguments, and the package variables that the reading takes, are together of bulk at most 1048576: NARROWER than '..Said'. Prove '..Said' where nothing that the law and all that it calls make is longer than what came in: it says more and counts as full. Else prove '..UptoSaid'. A law counts once. -/
mutual
def uptoBulk {H : Type} : DataW H → Nat
  | .lit (.string bytes) => bytes.length + 1
  | .lit _ => 1
  | .nil => 1
  | .ptr d => uptoBulk d + 1
  | .slice elems spare => uptoBulkAll elems + uptoBulkAll spare + 1
  | .agg parts => uptoBulkAll parts + 1
  | .iface _ d => uptoBulk d + 1
  | .map entries => uptoBulkEntries entries + 1
  | .held _ => 1
def uptoBulkAll {H : Type} : List (DataW H) → Nat
  | [] => 0
  | d :: r => uptoBulk d + uptoBulkAll r
def uptoBulkEntries {H : Type} : List (Lit × DataW H) → Nat
  | [] => 0
  | x :: r => uptoBulkEntry x + uptoBulkEntries r
def uptoBulkEntry {H : Type} : Lit × DataW H → Nat
  | (.string bytes, d) => bytes.length + uptoBulk d + 1
  | (_, d) => uptoBulk d + 1
 end
def uptoSmall : (H : Type) → List (DataW H) → Bool := fun _ ds => decide (uptoBulkAll ds ≤ 1048576)
def OpenSpec.upto (s : _root_.Go.ChangeSpec) : _root_.Go.OpenSpec := { _root_.Go.OpenSpec.ofChange s with cond := some uptoSmall }

/-- 'acequialaw05.JournalOpenSpec', WHERE WHAT IT READS IS OF BULK AT MOST 1048576: true; the input reads as it did. -/
def journalOpenSpecUptoRow : OpenClaim := { program := "ythlidhfahaalgaa", sum := "1a9de7b9068e9d8d4145d8cc3ea2d8eff8140268357e4b23f0bb4603da7181b2", func := "acequia/acequialaw05.JournalOpenSpec", spec := "journalOpenSpec", unfollowed := true, recurses := true, apart := false, narrowed := true }
def JournalOpenSpecUptoSaid : Prop := journalOpenSpecUptoRow.holds Try.pinned (OpenSpec.upto journalOpenSpecSpec)

/-- 'acequialaw05.JournalAppendSpec', WHERE WHAT IT READS IS OF BULK AT MOST 1048576: true; the input reads as it did. -/
def journalAppendSpecUptoRow : OpenClaim := { program := "ythlidhfahaalgaa", sum := "1a9de7b9068e9d8d4145d8cc3ea2d8eff8140268357e4b23f0bb4603da7181b2", func := "acequia/acequialaw05.JournalAppendSpec", spec := "journalAppendSpec", unfollowed := true, recurses := true, apart := false, narrowed := true }
def JournalAppendSpecUptoSaid : Prop := journalAppendSpecUptoRow.holds Try.pinned (OpenSpec.upto journalAppendSpecSpec)

/-- 'acequialaw05.JournalSyncSpec', WHERE WHAT IT READS IS OF BULK AT MOST 1048576: true; the input reads as it did. -/
def journalSyncSpecUptoRow : OpenClaim := { program := "ythlidhfahaalgaa", sum := "1a9de7b9068e9d8d4145d8cc3ea2d8eff8140268357e4b23f0bb4603da7181b2", func := "acequia/acequialaw05.JournalSyncSpec", spec := "journalSyncSpec", unfollowed := true, recurses := true, apart := false, narrowed := true }
def JournalSyncSpecUptoSaid : Prop := journalSyncSpecUptoRow.holds Try.pinned (OpenSpec.upto journalSyncSpecSpec)

/-- 'acequialaw05.JournalRoom', WHERE WHAT IT READS IS OF BULK AT MOST 1048576: true; the input reads as it did. -/
def journalRoomUptoRow : OpenClaim := { program := "ythlidhfahaalgaa", sum := "1a9de7b9068e9d8d4145d8cc3ea2d8eff8140268357e4b23f0bb4603da7181b2", func := "acequia/acequialaw05.JournalRoom", spec := "journalRoom", unfollowed := true, recurses := true, apart := false, narrowed := true }
def JournalRoomUptoSaid : Prop := journalRoomUptoRow.holds Try.pinned (OpenSpec.upto journalRoomSpec)

/-- 'acequialaw05.JournalDamage', WHERE WHAT IT READS IS OF BULK AT MOST 1048576: true; the input reads as it did. -/
def journalDamageUptoRow : OpenClaim := { program := "ythlidhfahaalgaa", sum := "1a9de7b9068e9d8d4145d8cc3ea2d8eff8140268357e4b23f0bb4603da7181b2", func := "acequia/acequialaw05.JournalDamage", spec := "journalDamage", unfollowed := true, recurses := true, apart := false, narrowed := true }
def JournalDamageUptoSaid : Prop := journalDamageUptoRow.holds Try.pinned (OpenSpec.upto journalDamageSpec)

/-- 'acequialaw05.JournalSteps', WHERE WHAT IT READS IS OF BULK AT MOST 1048576: true; the input reads as it did. -/
def journalStepsUptoRow : OpenClaim := { program := "ythlidhfahaalgaa", sum := "1a9de7b9068e9d8d4145d8cc3ea2d8eff8140268357e4b23f0bb4603da7181b2", func := "acequia/acequialaw05.JournalSteps", spec := "journalSteps", unfollowed := true, recurses := true, apart := false, narrowed := true }
def JournalStepsUptoSaid : Prop := journalStepsUptoRow.holds Try.pinned (OpenSpec.upto journalStepsSpec)

/-- 'acequialaw05.JournalSurvives', WHERE WHAT IT READS IS OF BULK AT MOST 1048576: true; the input reads as it did. -/
def journalSurvivesUptoRow : OpenClaim := { program := "ythlidhfahaalgaa", sum := "1a9de7b9068e9d8d4145d8cc3ea2d8eff8140268357e4b23f0bb4603da7181b2", func := "acequia/acequialaw05.JournalSurvives", spec := "journalSurvives", unfollowed := true, recurses := true, apart := false, narrowed := true }
def JournalSurvivesUptoSaid : Prop := journalSurvivesUptoRow.holds Try.pinned (OpenSpec.upto journalSurvivesSpec)

end Rows
end Go.Proofs.Ythlidhfahaalgaa
