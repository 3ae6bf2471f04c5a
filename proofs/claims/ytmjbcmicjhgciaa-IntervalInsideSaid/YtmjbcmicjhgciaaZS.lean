/-
  A region that draws its order, whose operations read and call functions that make memory: one walk, in every later world. No condition.
-/
import Derived.Test.YtmjbcmicjhgciaaK
import Derived.BigQuiet
namespace Go.Proofs.Ytmjbcmicjhgciaa
open Go.RowKit

theorem Box.drewN {w : World} {b : Nat} {xs : List Value} (h : Box w b xs) (n : Nat) : Box (w.drewN n) b xs := h
theorem bel_drewN {B : Nat} {a w : World} (h : Below B a w) (n : Nat) : Below B a (w.drewN n) := ⟨h.os, h.tape, h.output, h.size, h.block⟩

/-- The worlds in which all blocks of W lie as they lay. -/
def Later (W : World) : Type := { w : World // Below W.heap.size W w }
instance (W : World) : Nonempty (Later W) := ⟨⟨W, Below.refl _ _⟩⟩
def Later.w {W : World} (x : Later W) : World := x.val
theorem Later.below {W : World} (x : Later W) : Below W.heap.size W x.w := x.property
theorem Later.mk' {W w : World} (h : Below W.heap.size W w) : ∃ x : Later W, w = x.w := ⟨⟨w, h⟩, rfl⟩
theorem Later.cell {W : World} {a : Addr} {v : Value} (h : W.cell? a = some v) (hb : a.block < W.heap.size) (x : Later W) : x.w.cell? a = some v := (x.below.cell hb).trans h

/-- A call behind which the world is a later one. -/
theorem Later.call {P : Program} {f : FuncId} {args : Array Value} {W : World} {v : Value} (x : Later W)
    (h : Calls P f args x.w fun e w' => e = .returned v ∧ Below x.w.heap.size x.w w') : Calls P f args x.w fun e w'' => e = .returned v ∧ ∃ y : Later W, w'' = y.w :=
  h.mono fun _ _ ⟨he, hB⟩ => ⟨he, Later.mk' (x.below.trans (hB.mono x.below.size))⟩
theorem Later.same {P : Program} {f : FuncId} {args : Array Value} {W : World} {v : Value} (x : Later W)
    (h : Calls P f args x.w fun e w' => e = .returned v ∧ x.w = w') : Calls P f args x.w fun e w'' => e = .returned v ∧ ∃ y : Later W, w'' = y.w :=
  h.mono fun _ _ ⟨he, hB⟩ => ⟨he, x, hB.symm⟩

theorem wp_region_later {P : Program} {id : Nat} {Q : Exit → Act → World → Prop} {a : Act} {W : World} {l : List Oper} (hm : P.follows .mixedOrders = true) (hB : Region.lexB .any l.toArray = true)
    (h : wpQuiet P l.toArray (fun w' => ∃ x : Later W, w' = x.w) (fun a' => ∀ w', (∃ x : Later W, w' = x.w) → Q .normal a' w') l a) : (Code.region id l.toArray true).wp P Q a W :=
  wp_region_quiet (C := fun w' => ∃ x : Later W, w' = x.w) hm hB (Later.mk' ((Below.refl _ _).drew)) (by simpa using h)

end Go.Proofs.Ytmjbcmicjhgciaa
