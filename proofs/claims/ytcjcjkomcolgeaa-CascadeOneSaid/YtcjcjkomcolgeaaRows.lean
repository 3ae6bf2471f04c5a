/-
  No cell of these rows narrows 'for every input' (looked for: loops, veiled, ifaces, maps, wideKeys, modest, calm, conditions, laid).
  DERIVED. THE GIVEN ROWS OF THIS SEAT. 5 by the template 'for every input the law returns true; each argument reads behind the call as it read before'; 0 by the template 'total and deterministic' (their statements: YtcjcjkomcolgeaaTotals.lean).
  GIVEN WITH THE SEED: the statements are not yours to turn. If you find one false, say at which input.
  Laid BY PROGRAM, IN A SANDBOX (cutbox-rows.mjs): the forced cells as the released guide's own fill.sh prints them over the translation ead0b2448e1c5f83… (all of the seat's roots in one cut). By AI agents, Wed Nov 11 2026. No macro, syntax, notation, axiom, sorry.
-/
import Derived.Test.YtcjcjkomcolgeaaChecked
import GoSem.Claim
import GoSem.ClaimJoined
import GoSem.ClaimMapViews
import Derived.JoinedTies
import Derived.KernelRfl
namespace Go.Proofs.Ytcjcjkomcolgeaa
/- THE CELL 'sum', in the pinned program and in every row, IS THE sha256 OF THE DUMP (.gsa) THAT YtcjcjkomcolgeaaProg.lean LOADS. Nothing in Lean hashes anything: it is a label: what it is worth is what the hold of that sum in a sandbox is worth. -/
noncomputable def Try.pinned : Pinned := { name := "ytcjcjkomcolgeaa", sum := "ead0b2448e1c5f832177412ca58fe4c93349b97e21abb296c6d465d0d572cc48", checked := Try.checked }
namespace Rows
def none {H : Type} : Left H := { results := [], args := [] }

/-- 'acequialaw35.CascadeSpec': WHATEVER THE INPUT: true; the input reads as it did. -/
def cascadeSpecSpec : ChangeSpec := { name := "cascadeSpec", fn := fun _ => fun
  | [d] => { results := [.lit (.bool true)], args := [d] }
  | _ => none }
def cascadeSpecRow : OpenClaim := { program := "ytcjcjkomcolgeaa", sum := "ead0b2448e1c5f832177412ca58fe4c93349b97e21abb296c6d465d0d572cc48", func := "acequia/acequialaw35.CascadeSpec", spec := "cascadeSpec", unfollowed := true, recurses := true, apart := false }
def CascadeSpecSaid : Prop := cascadeSpecRow.holds Try.pinned (OpenSpec.ofChange cascadeSpecSpec)

/-- ITS FALSE NEIGHBOUR: 'it returns false'. Refute it at one input. -/
def cascadeSpecWrong : ChangeSpec := { name := "cascadeSpec", fn := fun _ => fun
  | [d] => { results := [.lit (.bool false)], args := [d] }
  | _ => none }
def CascadeSpecWrongFalsely : Prop := cascadeSpecRow.holds Try.pinned (OpenSpec.ofChange cascadeSpecWrong)

/-- 'acequialaw35.CascadePlaySpec': WHATEVER THE INPUT: true; the input reads as it did. -/
def cascadePlaySpecSpec : ChangeSpec := { name := "cascadePlaySpec", fn := fun _ => fun
  | [d1, d2] => { results := [.lit (.bool true)], args := [d1, d2] }
  | _ => none }
def cascadePlaySpecRow : OpenClaim := { program := "ytcjcjkomcolgeaa", sum := "ead0b2448e1c5f832177412ca58fe4c93349b97e21abb296c6d465d0d572cc48", func := "acequia/acequialaw35.CascadePlaySpec", spec := "cascadePlaySpec", unfollowed := true, recurses := true, apart := false }
def CascadePlaySpecSaid : Prop := cascadePlaySpecRow.holds Try.pinned (OpenSpec.ofChange cascadePlaySpecSpec)

/-- ITS FALSE NEIGHBOUR: 'it returns false'. Refute it at one input. -/
def cascadePlaySpecWrong : ChangeSpec := { name := "cascadePlaySpec", fn := fun _ => fun
  | [d1, d2] => { results := [.lit (.bool false)], args := [d1, d2] }
  | _ => none }
def CascadePlaySpecWrongFalsely : Prop := cascadePlaySpecRow.holds Try.pinned (OpenSpec.ofChange cascadePlaySpecWrong)

/-- 'acequialaw35.CascadeSafe': WHATEVER THE INPUT: true; the input reads as it did. -/
def cascadeSafeSpec : ChangeSpec := { name := "cascadeSafe", fn := fun _ => fun
  | [d1, d2] => { results := [.lit (.bool true)], args := [d1, d2] }
  | _ => none }
def cascadeSafeRow : OpenClaim := { program := "ytcjcjkomcolgeaa", sum := "ead0b2448e1c5f832177412ca58fe4c93349b97e21abb296c6d465d0d572cc48", func := "acequia/acequialaw35.CascadeSafe", spec := "cascadeSafe", unfollowed := true, recurses := true, apart := false }
def CascadeSafeSaid : Prop := cascadeSafeRow.holds Try.pinned (OpenSpec.ofChange cascadeSafeSpec)

/-- ITS FALSE NEIGHBOUR: 'it returns false'. Refute it at one input. -/
def cascadeSafeWrong : ChangeSpec := { name := "cascadeSafe", fn := fun _ => fun
  | [d1, d2] => { results := [.lit (.bool false)], args := [d1, d2] }
  | _ => none }
def CascadeSafeWrongFalsely : Prop := cascadeSafeRow.holds Try.pinned (OpenSpec.ofChange cascadeSafeWrong)

/-- 'acequialaw35.CascadeUpper': WHATEVER THE INPUT: true; the input reads as it did. -/
def cascadeUpperSpec : ChangeSpec := { name := "cascadeUpper", fn := fun _ => fun
  | [d1, d2, d3] => { results := [.lit (.bool true)], args := [d1, d2, d3] }
  | _ => none }
def cascadeUpperRow : OpenClaim := { program := "ytcjcjkomcolgeaa", sum := "ead0b2448e1c5f832177412ca58fe4c93349b97e21abb296c6d465d0d572cc48", func := "acequia/acequialaw35.CascadeUpper", spec := "cascadeUpper", unfollowed := true, recurses := true, apart := false }
def CascadeUpperSaid : Prop := cascadeUpperRow.holds Try.pinned (OpenSpec.ofChange cascadeUpperSpec)

/-- ITS FALSE NEIGHBOUR: 'it returns false'. Refute it at one input. -/
def cascadeUpperWrong : ChangeSpec := { name := "cascadeUpper", fn := fun _ => fun
  | [d1, d2, d3] => { results := [.lit (.bool false)], args := [d1, d2, d3] }
  | _ => none }
def CascadeUpperWrongFalsely : Prop := cascadeUpperRow.holds Try.pinned (OpenSpec.ofChange cascadeUpperWrong)

/-- 'acequialaw35.CascadeOne': WHATEVER THE INPUT: true; the input reads as it did. -/
def cascadeOneSpec : ChangeSpec := { name := "cascadeOne", fn := fun _ => fun
  | [d1, d2, d3] => { results := [.lit (.bool true)], args := [d1, d2, d3] }
  | _ => none }
def cascadeOneRow : OpenClaim := { program := "ytcjcjkomcolgeaa", sum := "ead0b2448e1c5f832177412ca58fe4c93349b97e21abb296c6d465d0d572cc48", func := "acequia/acequialaw35.CascadeOne", spec := "cascadeOne", unfollowed := true, recurses := true, apart := false }
def CascadeOneSaid : Prop := cascadeOneRow.holds Try.pinned (OpenSpec.ofChange cascadeOneSpec)

/-- ITS FALSE NEIGHBOUR: 'it returns false'. Refute it at one input. -/
def cascadeOneWrong : ChangeSpec := { name := "cascadeOne", fn := fun _ => fun
  | [d1, d2, d3] => { results := [.lit (.bool false)], args := [d1, d2, d3] }
  | _ => none }
def CascadeOneWrongFalsely : Prop := cascadeOneRow.holds Try.pinned (OpenSpec.ofChange cascadeOneWrong)

/- THE SECOND FORM. 'bulk': how many values and letters a reading holds, each counted each time it is reached (what is shared counts as often as it is met; a slice's spare places count too). A statement '..UptoSaid' is the law's where the arguments, and the package variables that the reading takes, are together of bulk at most 1048576: NARROWER than '..Said'. Prove '..Said' where nothing that the law and all that it calls make is longer than what came in: it says more and counts as full. Else prove '..UptoSaid'. A law counts once. -/
mutual
def uptoBulk {H : Type} : DataW H → Nat
  | .lit (.string bytes) => bytes.length + 1
  | .lit _ => 1
  | .nil => 1
  | .ptr d => uptoBulk d + 1
  | .slice elems spare => uptoBulkAll elems + uptoBulkAll spare + 1
  | .agg parts => uptoBulkAll parts + 1
  | .iface _ d => uptoBulk d + 1
  | .map entries => uptoBulkEntries entries + 1
  | .held _ => 1
def uptoBulkAll {H : Type} : List (DataW H) → Nat
  | [] => 0
  | d :: r => uptoBulk d + uptoBulkAll r
def uptoBulkEntries {H : Type} : List (Lit × DataW H) → Nat
  | [] => 0
  | x :: r => uptoBulkEntry x + uptoBulkEntries r
def uptoBulkEntry {H : Type} : Lit × DataW H → Nat
  | (.string bytes, d) => bytes.length + uptoBulk d + 1
  | (_, d) => uptoBulk d + 1
 end
def uptoSmall : (H : Type) → List (DataW H) → Bool := fun _ ds => decide (uptoBulkAll ds ≤ 1048576)
def OpenSpec.upto (s : _root_.Go.ChangeSpec) : _root_.Go.OpenSpec := { _root_.Go.OpenSpec.ofChange s with cond := some uptoSmall }

/-- 'acequialaw35.CascadeSpec', WHERE WHAT IT READS IS OF BULK AT MOST 1048576: true; the input reads as it did. -/
def cascadeSpecUptoRow : OpenClaim := { program := "ytcjcjkomcolgeaa", sum := "ead0b2448e1c5f832177412ca58fe4c93349b97e21abb296c6d465d0d572cc48", func := "acequia/acequialaw35.CascadeSpec", spec := "cascadeSpec", unfollowed := true, recurses := true, apart := false, narrowed := true }
def CascadeSpecUptoSaid : Prop := cascadeSpecUptoRow.holds Try.pinned (OpenSpec.upto cascadeSpecSpec)

/-- 'acequialaw35.CascadePlaySpec', WHERE WHAT IT READS IS OF BULK AT MOST 1048576: true; the input reads as it did. -/
def cascadePlaySpecUptoRow : OpenClaim := { program := "ytcjcjkomcolgeaa", sum := "ead0b2448e1c5f832177412ca58fe4c93349b97e21abb296c6d465d0d572cc48", func := "acequia/acequialaw35.CascadePlaySpec", spec := "cascadePlaySpec", unfollowed := true, recurses := true, apart := false, narrowed := true }
def CascadePlaySpecUptoSaid : Prop := cascadePlaySpecUptoRow.holds Try.pinned (OpenSpec.upto cascadePlaySpecSpec)

/-- 'acequialaw35.CascadeSafe', WHERE WHAT IT READS IS OF BULK AT MOST 1048576: true; the input reads as it did. -/
def cascadeSafeUptoRow : OpenClaim := { program := "ytcjcjkomcolgeaa", sum := "ead0b2448e1c5f832177412ca58fe4c93349b97e21abb296c6d465d0d572cc48", func := "acequia/acequialaw35.CascadeSafe", spec := "cascadeSafe", unfollowed := true, recurses := true, apart := false, narrowed := true }
def CascadeSafeUptoSaid : Prop := cascadeSafeUptoRow.holds Try.pinned (OpenSpec.upto cascadeSafeSpec)

/-- 'acequialaw35.CascadeUpper', WHERE WHAT IT READS IS OF BULK AT MOST 1048576: true; the input reads as it did. -/
def cascadeUpperUptoRow : OpenClaim := { program := "ytcjcjkomcolgeaa", sum := "ead0b2448e1c5f832177412ca58fe4c93349b97e21abb296c6d465d0d572cc48", func := "acequia/acequialaw35.CascadeUpper", spec := "cascadeUpper", unfollowed := true, recurses := true, apart := false, narrowed := true }
def CascadeUpperUptoSaid : Prop := cascadeUpperUptoRow.holds Try.pinned (OpenSpec.upto cascadeUpperSpec)

/-- 'acequialaw35.CascadeOne', WHERE WHAT IT READS IS OF BULK AT MOST 1048576: true; the input reads as it did. -/
def cascadeOneUptoRow : OpenClaim := { program := "ytcjcjkomcolgeaa", sum := "ead0b2448e1c5f832177412ca58fe4c93349b97e21abb296c6d465d0d572cc48", func := "acequia/acequialaw35.CascadeOne", spec := "cascadeOne", unfollowed := true, recurses := true, apart := false, narrowed := true }
def CascadeOneUptoSaid : Prop := cascadeOneUptoRow.holds Try.pinned (OpenSpec.upto cascadeOneSpec)

end Rows
end Go.Proofs.Ytcjcjkomcolgeaa
