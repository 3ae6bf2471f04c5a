/-
  Small lemmas on worlds and slices. No condition.
-/
import Derived.Test.YtcjcjkomcolgeaaProg
import Derived.WalkKit
import Derived.WalkSpells
import Derived.WalkLawsBesides
import Derived.Lib.Hide
import Derived.BigQuiet
namespace Go.Proofs.Ytcjcjkomcolgeaa
open Go.RowKit

theorem bcell {W w1 : World} (hb : Below W.heap.size W w1) : (∀ b o, b < W.heap.size → w1.cell? ⟨b, o, none⟩ = W.cell? ⟨b, o, none⟩) ∧ (∀ b o, b < W.heap.size → w1.frozen? ⟨b, o, none⟩ = W.frozen? ⟨b, o, none⟩) :=
  ⟨fun b o h => hb.cell (p := ⟨b, o, none⟩) h, fun b o h => hb.frozen (p := ⟨b, o, none⟩) h⟩

/-- BLOCK b HOLDS THE CELLS xs, none of them frozen. -/
def Box (w : World) (b : Nat) (xs : List Value) : Prop := ∃ t, w.heap[b]? = some (.cells xs.toArray t (0, 0))
theorem Box.new (w : World) (xs : List Value) (t : TypeId) : Box (w.alloc (.cells xs.toArray t)) w.heap.size xs := ⟨t, by show (w.heap.push _)[w.heap.size]? = _; simp⟩
theorem Box.newAt {w : World} {n : Nat} (xs : List Value) (t : TypeId) (h : n = w.heap.size) : Box (w.alloc (.cells xs.toArray t)) n xs := h ▸ Box.new w xs t
theorem Box.lt {w : World} {b : Nat} {xs : List Value} (h : Box w b xs) : b < w.heap.size := (Array.getElem?_eq_some_iff.1 h.choose_spec).1
theorem Box.alloc {w : World} {b : Nat} {xs : List Value} (h : Box w b xs) (o : Obj) : Box (w.alloc o) b xs := by
  obtain ⟨t, ht⟩ := h
  exact ⟨t, (Below.heap_alloc w o b (Array.getElem?_eq_some_iff.1 ht).1).trans ht⟩
theorem Box.drew {w : World} {b : Nat} {xs : List Value} (h : Box w b xs) : Box w.drew b xs := h
theorem Box.drewN {w : World} {b : Nat} {xs : List Value} (h : Box w b xs) (n : Nat) : Box (w.drewN n) b xs := h
theorem Box.later {w w' : World} {b : Nat} {xs : List Value} (h : Box w b xs) (hB : Below w.heap.size w w') : Box w' b xs := by
  obtain ⟨t, ht⟩ := h
  exact ⟨t, (hB.block b (Array.getElem?_eq_some_iff.1 ht).1).trans ht⟩
theorem Box.other {w : World} {b : Nat} {xs : List Value} (h : Box w b xs) {a : Addr} (ha : b ≠ a.block) (v : Value) : Box (w.setCell a v) b xs := by
  obtain ⟨t, ht⟩ := h
  exact ⟨t, (Below.heap_setCell w a v b ha).trans ht⟩
theorem Box.set {w : World} {b : Nat} {xs : List Value} (h : Box w b xs) (i : Nat) (v : Value) : Box (w.setCell ⟨b, i, none⟩ v) b (xs.set i v) := by
  obtain ⟨t, ht⟩ := h
  refine ⟨t, ?_⟩
  show (w.heap.modify b _)[b]? = _
  rw [Array.getElem?_modify, if_pos rfl, ht]
  simp
theorem Box.cell {w : World} {b : Nat} {xs : List Value} (h : Box w b xs) (i : Nat) : w.cell? ⟨b, i, none⟩ = xs[i]? := by
  obtain ⟨t, ht⟩ := h
  simp [World.cell?, ht]
theorem Box.free {w : World} {b : Nat} {xs : List Value} (h : Box w b xs) (i : Nat) : w.frozen? ⟨b, i, none⟩ = false := by
  obtain ⟨t, ht⟩ := h
  simp [World.frozen?, ht]
theorem Box.same {w w' : World} {b : Nat} {xs : List Value} (h : Box w b xs) (hB : w'.heap[b]? = w.heap[b]?) : Box w' b xs := by
  obtain ⟨t, ht⟩ := h
  exact ⟨t, hB.trans ht⟩
theorem bel_drewN {B : Nat} {a w : World} (h : Below B a w) (n : Nat) : Below B a (w.drewN n) := ⟨h.os, h.tape, h.output, h.size, h.block⟩

/-- The worlds in which all blocks of W lie as they lay. -/
def Later (W : World) : Type := { w : World // Below W.heap.size W w }
instance (W : World) : Nonempty (Later W) := ⟨⟨W, Below.refl _ _⟩⟩
def Later.w {W : World} (x : Later W) : World := x.val
theorem Later.below {W : World} (x : Later W) : Below W.heap.size W x.w := x.property
theorem Later.mk' {W w : World} (h : Below W.heap.size W w) : ∃ x : Later W, w = x.w := ⟨⟨w, h⟩, rfl⟩
theorem Later.cell {W : World} {a : Addr} {v : Value} (h : W.cell? a = some v) (hb : a.block < W.heap.size) (x : Later W) : x.w.cell? a = some v := (x.below.cell hb).trans h
theorem Later.box {W : World} {b : Nat} {xs : List Value} (h : Box W b xs) (x : Later W) : Box x.w b xs := h.later x.below

/-- A call behind which the world is a later one. -/
theorem Later.call {P : Program} {f : FuncId} {args : Array Value} {W : World} {v : Value} (x : Later W)
    (h : Calls P f args x.w fun e w' => e = .returned v ∧ Below x.w.heap.size x.w w') : Calls P f args x.w fun e w'' => e = .returned v ∧ ∃ y : Later W, w'' = y.w :=
  h.mono fun _ _ ⟨he, hB⟩ => ⟨he, Later.mk' (x.below.trans (hB.mono x.below.size))⟩
theorem Later.same {P : Program} {f : FuncId} {args : Array Value} {W : World} {v : Value} (x : Later W)
    (h : Calls P f args x.w fun e w' => e = .returned v ∧ x.w = w') : Calls P f args x.w fun e w'' => e = .returned v ∧ ∃ y : Later W, w'' = y.w :=
  h.mono fun _ _ ⟨he, hB⟩ => ⟨he, x, hB.symm⟩

theorem wp_region_later {P : Program} {id : Nat} {Q : Exit → Act → World → Prop} {a : Act} {W : World} {l : List Oper} (hm : P.follows .mixedOrders = true) (hB : Region.lexB .any l.toArray = true)
    (h : wpQuiet P l.toArray (fun w' => ∃ x : Later W, w' = x.w) (fun a' => ∀ w', (∃ x : Later W, w' = x.w) → Q .normal a' w') l a) : (Code.region id l.toArray true).wp P Q a W :=
  wp_region_quiet (C := fun w' => ∃ x : Later W, w' = x.w) hm hB (Later.mk' ((Below.refl _ _).drew)) (by simpa using h)

/-- v IS A SLICE OF n ELEMENTS OF size CELLS EACH, below block B: the j-th cell of the i-th element holds g i j. -/
def Sl (w : World) (B size n : Nat) (g : Nat → Nat → Value) (v : Value) : Prop :=
  ∃ A c, v = .slice A n c ∧ n ≤ maxLen ∧ ∀ i, i < n → ∃ b off, A = some ⟨b, off, none⟩ ∧ b < B ∧ ∀ j, j < size → w.cell? ⟨b, off + (i * size + j), none⟩ = some (g i j)
theorem Sl.below {w w' : World} {B size n : Nat} {g : Nat → Nat → Value} {v : Value} (h : Sl w B size n g v) (hb : Below B w w') : Sl w' B size n g v := by
  obtain ⟨A, c, rfl, hn, h⟩ := h
  refine ⟨A, c, rfl, hn, fun i hi => ?_⟩
  obtain ⟨b, off, h1, h2, h3⟩ := h i hi
  exact ⟨b, off, h1, h2, fun j hj => (hb.cell h2).trans (h3 j hj)⟩
theorem Sl.more {w : World} {B B' size n : Nat} {g : Nat → Nat → Value} {v : Value} (h : Sl w B size n g v) (hb : B ≤ B') : Sl w B' size n g v := by
  obtain ⟨A, c, rfl, hn, h⟩ := h
  refine ⟨A, c, rfl, hn, fun i hi => ?_⟩
  obtain ⟨b, off, h1, h2, h3⟩ := h i hi
  exact ⟨b, off, h1, by omega, h3⟩
theorem Sl.later {w w' : World} {size n : Nat} {g : Nat → Nat → Value} {v : Value} (h : Sl w w.heap.size size n g v) (hb : Below w.heap.size w w') : Sl w' w'.heap.size size n g v :=
  (h.below hb).more hb.size

end Go.Proofs.Ytcjcjkomcolgeaa
