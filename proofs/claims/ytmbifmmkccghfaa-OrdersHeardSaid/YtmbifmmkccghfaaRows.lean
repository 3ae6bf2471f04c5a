/-
  No cell of these rows narrows 'for every input' (looked for: loops, veiled, ifaces, maps, wideKeys, modest, calm, conditions, laid).
  DERIVED. THE GIVEN ROWS OF THIS SEAT. 5 by the template 'for every input the law returns true; each argument reads behind the call as it read before'; 0 by the template 'total and deterministic' (their statements: YtmbifmmkccghfaaTotals.lean).
  GIVEN WITH THE SEED: the statements are not yours to turn. If you find one false, say at which input.
  Laid BY PROGRAM, IN A SANDBOX (cutbox-rows.mjs): the forced cells as the released guide's own fill.sh prints them over the translation 5921e085c1ffd6fb… (all of the seat's roots in one cut). By AI agents, Wed Nov 11 2026. No macro, syntax, notation, axiom, sorry.
-/
import Derived.Test.YtmbifmmkccghfaaChecked
import GoSem.Claim
import GoSem.ClaimJoined
import GoSem.ClaimMapViews
import Derived.JoinedTies
import Derived.KernelRfl
namespace Go.Proofs.Ytmbifmmkccghfaa
/- THE CELL 'sum', in the pinned program and in every row, IS THE sha256 OF THE DUMP (.gsa) THAT YtmbifmmkccghfaaProg.lean LOADS. Nothing in Lean hashes anything: it is a label: what it is worth is what the hold of that sum in a sandbox is worth. -/
noncomputable def Try.pinned : Pinned := { name := "ytmbifmmkccghfaa", sum := "5921e085c1ffd6fb327e5b1aa6829a9a1b6d696f64efd10238e80d93f60a90ef", checked := Try.checked }
namespace Rows
def none {H : Type} : Left H := { results := [], args := [] }

/-- 'acequialaw34.OrdersSpec': WHATEVER THE INPUT: true; the input reads as it did. -/
def ordersSpecSpec : ChangeSpec := { name := "ordersSpec", fn := fun _ => fun
  | [d1, d2, d3] => { results := [.lit (.bool true)], args := [d1, d2, d3] }
  | _ => none }
def ordersSpecRow : OpenClaim := { program := "ytmbifmmkccghfaa", sum := "5921e085c1ffd6fb327e5b1aa6829a9a1b6d696f64efd10238e80d93f60a90ef", func := "acequia/acequialaw34.OrdersSpec", spec := "ordersSpec", unfollowed := true, recurses := true, apart := false }
def OrdersSpecSaid : Prop := ordersSpecRow.holds Try.pinned (OpenSpec.ofChange ordersSpecSpec)

/-- ITS FALSE NEIGHBOUR: 'it returns false'. Refute it at one input. -/
def ordersSpecWrong : ChangeSpec := { name := "ordersSpec", fn := fun _ => fun
  | [d1, d2, d3] => { results := [.lit (.bool false)], args := [d1, d2, d3] }
  | _ => none }
def OrdersSpecWrongFalsely : Prop := ordersSpecRow.holds Try.pinned (OpenSpec.ofChange ordersSpecWrong)

/-- 'acequialaw34.OrdersTickSpec': WHATEVER THE INPUT: true; the input reads as it did. -/
def ordersTickSpecSpec : ChangeSpec := { name := "ordersTickSpec", fn := fun _ => fun
  | [d] => { results := [.lit (.bool true)], args := [d] }
  | _ => none }
def ordersTickSpecRow : OpenClaim := { program := "ytmbifmmkccghfaa", sum := "5921e085c1ffd6fb327e5b1aa6829a9a1b6d696f64efd10238e80d93f60a90ef", func := "acequia/acequialaw34.OrdersTickSpec", spec := "ordersTickSpec", unfollowed := true, recurses := true, apart := false }
def OrdersTickSpecSaid : Prop := ordersTickSpecRow.holds Try.pinned (OpenSpec.ofChange ordersTickSpecSpec)

/-- ITS FALSE NEIGHBOUR: 'it returns false'. Refute it at one input. -/
def ordersTickSpecWrong : ChangeSpec := { name := "ordersTickSpec", fn := fun _ => fun
  | [d] => { results := [.lit (.bool false)], args := [d] }
  | _ => none }
def OrdersTickSpecWrongFalsely : Prop := ordersTickSpecRow.holds Try.pinned (OpenSpec.ofChange ordersTickSpecWrong)

/-- 'acequialaw34.OrdersAll': WHATEVER THE INPUT: true; the input reads as it did. -/
def ordersAllSpec : ChangeSpec := { name := "ordersAll", fn := fun _ => fun
  | [d1, d2, d3, d4] => { results := [.lit (.bool true)], args := [d1, d2, d3, d4] }
  | _ => none }
def ordersAllRow : OpenClaim := { program := "ytmbifmmkccghfaa", sum := "5921e085c1ffd6fb327e5b1aa6829a9a1b6d696f64efd10238e80d93f60a90ef", func := "acequia/acequialaw34.OrdersAll", spec := "ordersAll", unfollowed := true, recurses := true, apart := false }
def OrdersAllSaid : Prop := ordersAllRow.holds Try.pinned (OpenSpec.ofChange ordersAllSpec)

/-- ITS FALSE NEIGHBOUR: 'it returns false'. Refute it at one input. -/
def ordersAllWrong : ChangeSpec := { name := "ordersAll", fn := fun _ => fun
  | [d1, d2, d3, d4] => { results := [.lit (.bool false)], args := [d1, d2, d3, d4] }
  | _ => none }
def OrdersAllWrongFalsely : Prop := ordersAllRow.holds Try.pinned (OpenSpec.ofChange ordersAllWrong)

/-- 'acequialaw34.OrdersDeliverSpec': WHATEVER THE INPUT: true; the input reads as it did. -/
def ordersDeliverSpecSpec : ChangeSpec := { name := "ordersDeliverSpec", fn := fun _ => fun
  | [d1, d2] => { results := [.lit (.bool true)], args := [d1, d2] }
  | _ => none }
def ordersDeliverSpecRow : OpenClaim := { program := "ytmbifmmkccghfaa", sum := "5921e085c1ffd6fb327e5b1aa6829a9a1b6d696f64efd10238e80d93f60a90ef", func := "acequia/acequialaw34.OrdersDeliverSpec", spec := "ordersDeliverSpec", unfollowed := true, recurses := true, apart := false }
def OrdersDeliverSpecSaid : Prop := ordersDeliverSpecRow.holds Try.pinned (OpenSpec.ofChange ordersDeliverSpecSpec)

/-- ITS FALSE NEIGHBOUR: 'it returns false'. Refute it at one input. -/
def ordersDeliverSpecWrong : ChangeSpec := { name := "ordersDeliverSpec", fn := fun _ => fun
  | [d1, d2] => { results := [.lit (.bool false)], args := [d1, d2] }
  | _ => none }
def OrdersDeliverSpecWrongFalsely : Prop := ordersDeliverSpecRow.holds Try.pinned (OpenSpec.ofChange ordersDeliverSpecWrong)

/-- 'acequialaw34.OrdersHeard': WHATEVER THE INPUT: true; the input reads as it did. -/
def ordersHeardSpec : ChangeSpec := { name := "ordersHeard", fn := fun _ => fun
  | [d1, d2] => { results := [.lit (.bool true)], args := [d1, d2] }
  | _ => none }
def ordersHeardRow : OpenClaim := { program := "ytmbifmmkccghfaa", sum := "5921e085c1ffd6fb327e5b1aa6829a9a1b6d696f64efd10238e80d93f60a90ef", func := "acequia/acequialaw34.OrdersHeard", spec := "ordersHeard", unfollowed := true, recurses := true, apart := false }
def OrdersHeardSaid : Prop := ordersHeardRow.holds Try.pinned (OpenSpec.ofChange ordersHeardSpec)

/-- ITS FALSE NEIGHBOUR: 'it returns false'. Refute it at one input. -/
def ordersHeardWrong : ChangeSpec := { name := "ordersHeard", fn := fun _ => fun
  | [d1, d2] => { results := [.lit (.bool false)], args := [d1, d2] }
  | _ => none }
def OrdersHeardWrongFalsely : Prop := ordersHeardRow.holds Try.pinned (OpenSpec.ofChange ordersHeardWrong)

/- THE SECOND FORM. 'bulk': how many values and letters a reading holds, each counted each time it is reached (what is shared counts as often as it is met; a slice's spare places count too). A statement '..UptoSaid' is the law's where the arguments, and the package variables that the reading takes, are together of bulk at most 1048576: NARROWER than '..Said'. Prove '..Said' where nothing that the law and all that it calls make is longer than what came in: it says more and counts as full. Else prove '..UptoSaid'. A law counts once. -/
mutual
def uptoBulk {H : Type} : DataW H → Nat
  | .lit (.string bytes) => bytes.length + 1
  | .lit _ => 1
  | .nil => 1
  | .ptr d => uptoBulk d + 1
  | .slice elems spare => uptoBulkAll elems + uptoBulkAll spare + 1
  | .agg parts => uptoBulkAll parts + 1
  | .iface _ d => uptoBulk d + 1
  | .map entries => uptoBulkEntries entries + 1
  | .held _ => 1
def uptoBulkAll {H : Type} : List (DataW H) → Nat
  | [] => 0
  | d :: r => uptoBulk d + uptoBulkAll r
def uptoBulkEntries {H : Type} : List (Lit × DataW H) → Nat
  | [] => 0
  | x :: r => uptoBulkEntry x + uptoBulkEntries r
def uptoBulkEntry {H : Type} : Lit × DataW H → Nat
  | (.string bytes, d) => bytes.length + uptoBulk d + 1
  | (_, d) => uptoBulk d + 1
 end
def uptoSmall : (H : Type) → List (DataW H) → Bool := fun _ ds => decide (uptoBulkAll ds ≤ 1048576)
def OpenSpec.upto (s : _root_.Go.ChangeSpec) : _root_.Go.OpenSpec := { _root_.Go.OpenSpec.ofChange s with cond := some uptoSmall }

/-- 'acequialaw34.OrdersSpec', WHERE WHAT IT READS IS OF BULK AT MOST 1048576: true; the input reads as it did. -/
def ordersSpecUptoRow : OpenClaim := { program := "ytmbifmmkccghfaa", sum := "5921e085c1ffd6fb327e5b1aa6829a9a1b6d696f64efd10238e80d93f60a90ef", func := "acequia/acequialaw34.OrdersSpec", spec := "ordersSpec", unfollowed := true, recurses := true, apart := false, narrowed := true }
def OrdersSpecUptoSaid : Prop := ordersSpecUptoRow.holds Try.pinned (OpenSpec.upto ordersSpecSpec)

/-- 'acequialaw34.OrdersTickSpec', WHERE WHAT IT READS IS OF BULK AT MOST 1048576: true; the input reads as it did. -/
def ordersTickSpecUptoRow : OpenClaim := { program := "ytmbifmmkccghfaa", sum := "5921e085c1ffd6fb327e5b1aa6829a9a1b6d696f64efd10238e80d93f60a90ef", func := "acequia/acequialaw34.OrdersTickSpec", spec := "ordersTickSpec", unfollowed := true, recurses := true, apart := false, narrowed := true }
def OrdersTickSpecUptoSaid : Prop := ordersTickSpecUptoRow.holds Try.pinned (OpenSpec.upto ordersTickSpecSpec)

/-- 'acequialaw34.OrdersAll', WHERE WHAT IT READS IS OF BULK AT MOST 1048576: true; the input reads as it did. -/
def ordersAllUptoRow : OpenClaim := { program := "ytmbifmmkccghfaa", sum := "5921e085c1ffd6fb327e5b1aa6829a9a1b6d696f64efd10238e80d93f60a90ef", func := "acequia/acequialaw34.OrdersAll", spec := "ordersAll", unfollowed := true, recurses := true, apart := false, narrowed := true }
def OrdersAllUptoSaid : Prop := ordersAllUptoRow.holds Try.pinned (OpenSpec.upto ordersAllSpec)

/-- 'acequialaw34.OrdersDeliverSpec', WHERE WHAT IT READS IS OF BULK AT MOST 1048576: true; the input reads as it did. -/
def ordersDeliverSpecUptoRow : OpenClaim := { program := "ytmbifmmkccghfaa", sum := "5921e085c1ffd6fb327e5b1aa6829a9a1b6d696f64efd10238e80d93f60a90ef", func := "acequia/acequialaw34.OrdersDeliverSpec", spec := "ordersDeliverSpec", unfollowed := true, recurses := true, apart := false, narrowed := true }
def OrdersDeliverSpecUptoSaid : Prop := ordersDeliverSpecUptoRow.holds Try.pinned (OpenSpec.upto ordersDeliverSpecSpec)

/-- 'acequialaw34.OrdersHeard', WHERE WHAT IT READS IS OF BULK AT MOST 1048576: true; the input reads as it did. -/
def ordersHeardUptoRow : OpenClaim := { program := "ytmbifmmkccghfaa", sum := "5921e085c1ffd6fb327e5b1aa6829a9a1b6d696f64efd10238e80d93f60a90ef", func := "acequia/acequialaw34.OrdersHeard", spec := "ordersHeard", unfollowed := true, recurses := true, apart := false, narrowed := true }
def OrdersHeardUptoSaid : Prop := ordersHeardUptoRow.holds Try.pinned (OpenSpec.upto ordersHeardSpec)

end Rows
end Go.Proofs.Ytmbifmmkccghfaa
