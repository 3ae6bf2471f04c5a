/-
  No cell of these rows narrows 'for every input' (looked for: loops, veiled, ifaces, maps, wideKeys, modest, calm, conditions, laid).
  DERIVED. THE GIVEN ROWS OF THIS SEAT. 7 by the template 'for every input the law returns true; each argument reads behind the call as it read before'; 0 by the template 'total and deterministic' (their statements: YtancngachnpefaaTotals.lean).
  GIVEN WITH THE SEED: the statements are not yours to turn. If you find one false, say at which input.
  Laid BY PROGRAM, IN A SANDBOX (cutbox-rows.mjs): the forced cells as the released guide's own fill.sh prints them over the translation 486b58ac86005a5c… (all of the seat's roots in one cut). By AI agents, Wed Nov 11 2026. No macro, syntax, notation, axiom, sorry.
-/
import Derived.Test.YtancngachnpefaaChecked
import GoSem.Claim
import GoSem.ClaimJoined
import GoSem.ClaimMapViews
import Derived.JoinedTies
import Derived.KernelRfl
namespace Go.Proofs.Ytancngachnpefaa
/- THE CELL 'sum', in the pinned program and in every row, IS THE sha256 OF THE DUMP (.gsa) THAT YtancngachnpefaaProg.lean LOADS. Nothing in Lean hashes anything: it is a label: what it is worth is what the hold of that sum in a sandbox is worth. -/
noncomputable def Try.pinned : Pinned := { name := "ytancngachnpefaa", sum := "486b58ac86005a5c3cf65d94059f821617598f0cbb78ee10473d113a2fe9b3b4", checked := Try.checked }
namespace Rows
def none {H : Type} : Left H := { results := [], args := [] }

/-- 'acequialaw33.BarrierSpec': WHATEVER THE INPUT: true; the input reads as it did. -/
def barrierSpecSpec : ChangeSpec := { name := "barrierSpec", fn := fun _ => fun
  | [d1, d2, d3, d4] => { results := [.lit (.bool true)], args := [d1, d2, d3, d4] }
  | _ => none }
def barrierSpecRow : OpenClaim := { program := "ytancngachnpefaa", sum := "486b58ac86005a5c3cf65d94059f821617598f0cbb78ee10473d113a2fe9b3b4", func := "acequia/acequialaw33.BarrierSpec", spec := "barrierSpec", unfollowed := true, recurses := true, plainKeys := false, apart := false }
def BarrierSpecSaid : Prop := barrierSpecRow.holds Try.pinned (OpenSpec.ofChange barrierSpecSpec)

/-- ITS FALSE NEIGHBOUR: 'it returns false'. Refute it at one input. -/
def barrierSpecWrong : ChangeSpec := { name := "barrierSpec", fn := fun _ => fun
  | [d1, d2, d3, d4] => { results := [.lit (.bool false)], args := [d1, d2, d3, d4] }
  | _ => none }
def BarrierSpecWrongFalsely : Prop := barrierSpecRow.holds Try.pinned (OpenSpec.ofChange barrierSpecWrong)

/-- 'acequialaw33.BarrierInvariantSpec': WHATEVER THE INPUT: true; the input reads as it did. -/
def barrierInvariantSpecSpec : ChangeSpec := { name := "barrierInvariantSpec", fn := fun _ => fun
  | [d1, d2] => { results := [.lit (.bool true)], args := [d1, d2] }
  | _ => none }
def barrierInvariantSpecRow : OpenClaim := { program := "ytancngachnpefaa", sum := "486b58ac86005a5c3cf65d94059f821617598f0cbb78ee10473d113a2fe9b3b4", func := "acequia/acequialaw33.BarrierInvariantSpec", spec := "barrierInvariantSpec", unfollowed := true, recurses := true, plainKeys := false, apart := false }
def BarrierInvariantSpecSaid : Prop := barrierInvariantSpecRow.holds Try.pinned (OpenSpec.ofChange barrierInvariantSpecSpec)

/-- ITS FALSE NEIGHBOUR: 'it returns false'. Refute it at one input. -/
def barrierInvariantSpecWrong : ChangeSpec := { name := "barrierInvariantSpec", fn := fun _ => fun
  | [d1, d2] => { results := [.lit (.bool false)], args := [d1, d2] }
  | _ => none }
def BarrierInvariantSpecWrongFalsely : Prop := barrierInvariantSpecRow.holds Try.pinned (OpenSpec.ofChange barrierInvariantSpecWrong)

/-- 'acequialaw33.BarrierEither': WHATEVER THE INPUT: true; the input reads as it did. -/
def barrierEitherSpec : ChangeSpec := { name := "barrierEither", fn := fun _ => fun
  | [d1, d2, d3] => { results := [.lit (.bool true)], args := [d1, d2, d3] }
  | _ => none }
def barrierEitherRow : OpenClaim := { program := "ytancngachnpefaa", sum := "486b58ac86005a5c3cf65d94059f821617598f0cbb78ee10473d113a2fe9b3b4", func := "acequia/acequialaw33.BarrierEither", spec := "barrierEither", unfollowed := true, recurses := true, plainKeys := false, apart := false }
def BarrierEitherSaid : Prop := barrierEitherRow.holds Try.pinned (OpenSpec.ofChange barrierEitherSpec)

/-- ITS FALSE NEIGHBOUR: 'it returns false'. Refute it at one input. -/
def barrierEitherWrong : ChangeSpec := { name := "barrierEither", fn := fun _ => fun
  | [d1, d2, d3] => { results := [.lit (.bool false)], args := [d1, d2, d3] }
  | _ => none }
def BarrierEitherWrongFalsely : Prop := barrierEitherRow.holds Try.pinned (OpenSpec.ofChange barrierEitherWrong)

/-- 'acequialaw33.BarrierCertified': WHATEVER THE INPUT: true; the input reads as it did. -/
def barrierCertifiedSpec : ChangeSpec := { name := "barrierCertified", fn := fun _ => fun
  | [d1, d2, d3, d4] => { results := [.lit (.bool true)], args := [d1, d2, d3, d4] }
  | _ => none }
def barrierCertifiedRow : OpenClaim := { program := "ytancngachnpefaa", sum := "486b58ac86005a5c3cf65d94059f821617598f0cbb78ee10473d113a2fe9b3b4", func := "acequia/acequialaw33.BarrierCertified", spec := "barrierCertified", unfollowed := true, recurses := true, plainKeys := false, apart := false }
def BarrierCertifiedSaid : Prop := barrierCertifiedRow.holds Try.pinned (OpenSpec.ofChange barrierCertifiedSpec)

/-- ITS FALSE NEIGHBOUR: 'it returns false'. Refute it at one input. -/
def barrierCertifiedWrong : ChangeSpec := { name := "barrierCertified", fn := fun _ => fun
  | [d1, d2, d3, d4] => { results := [.lit (.bool false)], args := [d1, d2, d3, d4] }
  | _ => none }
def BarrierCertifiedWrongFalsely : Prop := barrierCertifiedRow.holds Try.pinned (OpenSpec.ofChange barrierCertifiedWrong)

/-- 'acequialaw33.BarrierFlaw': WHATEVER THE INPUT: true; the input reads as it did. -/
def barrierFlawSpec : ChangeSpec := { name := "barrierFlaw", fn := fun _ => fun
  | [d1, d2, d3] => { results := [.lit (.bool true)], args := [d1, d2, d3] }
  | _ => none }
def barrierFlawRow : OpenClaim := { program := "ytancngachnpefaa", sum := "486b58ac86005a5c3cf65d94059f821617598f0cbb78ee10473d113a2fe9b3b4", func := "acequia/acequialaw33.BarrierFlaw", spec := "barrierFlaw", unfollowed := true, recurses := true, plainKeys := false, apart := false }
def BarrierFlawSaid : Prop := barrierFlawRow.holds Try.pinned (OpenSpec.ofChange barrierFlawSpec)

/-- ITS FALSE NEIGHBOUR: 'it returns false'. Refute it at one input. -/
def barrierFlawWrong : ChangeSpec := { name := "barrierFlaw", fn := fun _ => fun
  | [d1, d2, d3] => { results := [.lit (.bool false)], args := [d1, d2, d3] }
  | _ => none }
def BarrierFlawWrongFalsely : Prop := barrierFlawRow.holds Try.pinned (OpenSpec.ofChange barrierFlawWrong)

/-- 'acequialaw33.BarrierBoth': WHATEVER THE INPUT: true; the input reads as it did. -/
def barrierBothSpec : ChangeSpec := { name := "barrierBoth", fn := fun _ => fun
  | [d1, d2, d3, d4] => { results := [.lit (.bool true)], args := [d1, d2, d3, d4] }
  | _ => none }
def barrierBothRow : OpenClaim := { program := "ytancngachnpefaa", sum := "486b58ac86005a5c3cf65d94059f821617598f0cbb78ee10473d113a2fe9b3b4", func := "acequia/acequialaw33.BarrierBoth", spec := "barrierBoth", unfollowed := true, recurses := true, plainKeys := false, apart := false }
def BarrierBothSaid : Prop := barrierBothRow.holds Try.pinned (OpenSpec.ofChange barrierBothSpec)

/-- ITS FALSE NEIGHBOUR: 'it returns false'. Refute it at one input. -/
def barrierBothWrong : ChangeSpec := { name := "barrierBoth", fn := fun _ => fun
  | [d1, d2, d3, d4] => { results := [.lit (.bool false)], args := [d1, d2, d3, d4] }
  | _ => none }
def BarrierBothWrongFalsely : Prop := barrierBothRow.holds Try.pinned (OpenSpec.ofChange barrierBothWrong)

/-- 'acequialaw33.BarrierLess': WHATEVER THE INPUT: true; the input reads as it did. -/
def barrierLessSpec : ChangeSpec := { name := "barrierLess", fn := fun _ => fun
  | [d1, d2, d3, d4, d5] => { results := [.lit (.bool true)], args := [d1, d2, d3, d4, d5] }
  | _ => none }
def barrierLessRow : OpenClaim := { program := "ytancngachnpefaa", sum := "486b58ac86005a5c3cf65d94059f821617598f0cbb78ee10473d113a2fe9b3b4", func := "acequia/acequialaw33.BarrierLess", spec := "barrierLess", unfollowed := true, recurses := true, plainKeys := false, apart := false }
def BarrierLessSaid : Prop := barrierLessRow.holds Try.pinned (OpenSpec.ofChange barrierLessSpec)

/-- ITS FALSE NEIGHBOUR: 'it returns false'. Refute it at one input. -/
def barrierLessWrong : ChangeSpec := { name := "barrierLess", fn := fun _ => fun
  | [d1, d2, d3, d4, d5] => { results := [.lit (.bool false)], args := [d1, d2, d3, d4, d5] }
  | _ => none }
def BarrierLessWrongFalsely : Prop := barrierLessRow.holds Try.pinned (OpenSpec.ofChange barrierLessWrong)

/- THE SECOND FORM. 'bulk': how many values and letters a reading holds, each counted each time it is reached (what is shared counts as often as it is met; a slice's spare places count too). A statement '..UptoSaid' is the law's where the arguments, and the package variables that the reading takes, are together of bulk at most 1048576: NARROWER than '..Said'. Prove '..Said' where nothing that the law and all that it calls make is longer than what came in: it says more and counts as full. Else prove '..UptoSaid'. A law counts once. -/
mutual
def uptoBulk {H : Type} : DataW H → Nat
  | .lit (.string bytes) => bytes.length + 1
  | .lit _ => 1
  | .nil => 1
  | .ptr d => uptoBulk d + 1
  | .slice elems spare => uptoBulkAll elems + uptoBulkAll spare + 1
  | .agg parts => uptoBulkAll parts + 1
  | .iface _ d => uptoBulk d + 1
  | .map entries => uptoBulkEntries entries + 1
  | .held _ => 1
def uptoBulkAll {H : Type} : List (DataW H) → Nat
  | [] => 0
  | d :: r => uptoBulk d + uptoBulkAll r
def uptoBulkEntries {H : Type} : List (Lit × DataW H) → Nat
  | [] => 0
  | x :: r => uptoBulkEntry x + uptoBulkEntries r
def uptoBulkEntry {H : Type} : Lit × DataW H → Nat
  | (.string bytes, d) => bytes.length + uptoBulk d + 1
  | (_, d) => uptoBulk d + 1
 end
def uptoSmall : (H : Type) → List (DataW H) → Bool := fun _ ds => decide (uptoBulkAll ds ≤ 1048576)
def OpenSpec.upto (s : _root_.Go.ChangeSpec) : _root_.Go.OpenSpec := { _root_.Go.OpenSpec.ofChange s with cond := some uptoSmall }

/-- 'acequialaw33.BarrierSpec', WHERE WHAT IT READS IS OF BULK AT MOST 1048576: true; the input reads as it did. -/
def barrierSpecUptoRow : OpenClaim := { program := "ytancngachnpefaa", sum := "486b58ac86005a5c3cf65d94059f821617598f0cbb78ee10473d113a2fe9b3b4", func := "acequia/acequialaw33.BarrierSpec", spec := "barrierSpec", unfollowed := true, recurses := true, plainKeys := false, apart := false, narrowed := true }
def BarrierSpecUptoSaid : Prop := barrierSpecUptoRow.holds Try.pinned (OpenSpec.upto barrierSpecSpec)

/-- 'acequialaw33.BarrierInvariantSpec', WHERE WHAT IT READS IS OF BULK AT MOST 1048576: true; the input reads as it did. -/
def barrierInvariantSpecUptoRow : OpenClaim := { program := "ytancngachnpefaa", sum := "486b58ac86005a5c3cf65d94059f821617598f0cbb78ee10473d113a2fe9b3b4", func := "acequia/acequialaw33.BarrierInvariantSpec", spec := "barrierInvariantSpec", unfollowed := true, recurses := true, plainKeys := false, apart := false, narrowed := true }
def BarrierInvariantSpecUptoSaid : Prop := barrierInvariantSpecUptoRow.holds Try.pinned (OpenSpec.upto barrierInvariantSpecSpec)

/-- 'acequialaw33.BarrierEither', WHERE WHAT IT READS IS OF BULK AT MOST 1048576: true; the input reads as it did. -/
def barrierEitherUptoRow : OpenClaim := { program := "ytancngachnpefaa", sum := "486b58ac86005a5c3cf65d94059f821617598f0cbb78ee10473d113a2fe9b3b4", func := "acequia/acequialaw33.BarrierEither", spec := "barrierEither", unfollowed := true, recurses := true, plainKeys := false, apart := false, narrowed := true }
def BarrierEitherUptoSaid : Prop := barrierEitherUptoRow.holds Try.pinned (OpenSpec.upto barrierEitherSpec)

/-- 'acequialaw33.BarrierCertified', WHERE WHAT IT READS IS OF BULK AT MOST 1048576: true; the input reads as it did. -/
def barrierCertifiedUptoRow : OpenClaim := { program := "ytancngachnpefaa", sum := "486b58ac86005a5c3cf65d94059f821617598f0cbb78ee10473d113a2fe9b3b4", func := "acequia/acequialaw33.BarrierCertified", spec := "barrierCertified", unfollowed := true, recurses := true, plainKeys := false, apart := false, narrowed := true }
def BarrierCertifiedUptoSaid : Prop := barrierCertifiedUptoRow.holds Try.pinned (OpenSpec.upto barrierCertifiedSpec)

/-- 'acequialaw33.BarrierFlaw', WHERE WHAT IT READS IS OF BULK AT MOST 1048576: true; the input reads as it did. -/
def barrierFlawUptoRow : OpenClaim := { program := "ytancngachnpefaa", sum := "486b58ac86005a5c3cf65d94059f821617598f0cbb78ee10473d113a2fe9b3b4", func := "acequia/acequialaw33.BarrierFlaw", spec := "barrierFlaw", unfollowed := true, recurses := true, plainKeys := false, apart := false, narrowed := true }
def BarrierFlawUptoSaid : Prop := barrierFlawUptoRow.holds Try.pinned (OpenSpec.upto barrierFlawSpec)

/-- 'acequialaw33.BarrierBoth', WHERE WHAT IT READS IS OF BULK AT MOST 1048576: true; the input reads as it did. -/
def barrierBothUptoRow : OpenClaim := { program := "ytancngachnpefaa", sum := "486b58ac86005a5c3cf65d94059f821617598f0cbb78ee10473d113a2fe9b3b4", func := "acequia/acequialaw33.BarrierBoth", spec := "barrierBoth", unfollowed := true, recurses := true, plainKeys := false, apart := false, narrowed := true }
def BarrierBothUptoSaid : Prop := barrierBothUptoRow.holds Try.pinned (OpenSpec.upto barrierBothSpec)

/-- 'acequialaw33.BarrierLess', WHERE WHAT IT READS IS OF BULK AT MOST 1048576: true; the input reads as it did. -/
def barrierLessUptoRow : OpenClaim := { program := "ytancngachnpefaa", sum := "486b58ac86005a5c3cf65d94059f821617598f0cbb78ee10473d113a2fe9b3b4", func := "acequia/acequialaw33.BarrierLess", spec := "barrierLess", unfollowed := true, recurses := true, plainKeys := false, apart := false, narrowed := true }
def BarrierLessUptoSaid : Prop := barrierLessUptoRow.holds Try.pinned (OpenSpec.upto barrierLessSpec)

end Rows
end Go.Proofs.Ytancngachnpefaa
