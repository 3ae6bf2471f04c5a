/- Small lemmas on worlds and slices. No condition. -/
import Derived.Test.YtancngachnpefaaProg
import Derived.WalkKit
import Derived.WalkSpells
import Derived.WalkLawsBesides
import Derived.Lib.Hide
import Derived.BigQuiet
import Derived.Deep.AppendLies
import Derived.Laws.AppendOwnNone
import Derived.ArgAppend
import Derived.OwnWalk
import Derived.Deep.CutBlock
import Derived.Deep.DeepCutAuto
set_option linter.unusedVariables false
set_option linter.unusedSimpArgs false
set_option maxRecDepth 100000
set_option maxHeartbeats 4000000
namespace Go.Proofs.Ytancngachnpefaa
open Go.RowKit
def Box (w : World) (b : Nat) (xs : List Value) : Prop := ∃ t, w.heap[b]? = some (.cells xs.toArray t (0, 0))
theorem Box.new (w : World) (xs : List Value) (t : TypeId) : Box (w.alloc (.cells xs.toArray t)) w.heap.size xs := ⟨t, by show (w.heap.push _)[w.heap.size]? = _; simp⟩
theorem Box.newAt {w : World} {n : Nat} (xs : List Value) (t : TypeId) (h : n = w.heap.size) : Box (w.alloc (.cells xs.toArray t)) n xs := h ▸ Box.new w xs t
theorem Box.lt {w : World} {b : Nat} {xs : List Value} (h : Box w b xs) : b < w.heap.size := (Array.getElem?_eq_some_iff.1 h.choose_spec).1
theorem Box.alloc {w : World} {b : Nat} {xs : List Value} (h : Box w b xs) (o : Obj) : Box (w.alloc o) b xs := by
  obtain ⟨t, ht⟩ := h
  exact ⟨t, (Below.heap_alloc w o b (Array.getElem?_eq_some_iff.1 ht).1).trans ht⟩
theorem Box.drew {w : World} {b : Nat} {xs : List Value} (h : Box w b xs) : Box w.drew b xs := h
theorem Box.drewN {w : World} {b : Nat} {xs : List Value} (h : Box w b xs) (n : Nat) : Box (w.drewN n) b xs := h
theorem Box.later {w w' : World} {b : Nat} {xs : List Value} (h : Box w b xs) (hB : Below w.heap.size w w') : Box w' b xs := by
  obtain ⟨t, ht⟩ := h
  exact ⟨t, (hB.block b (Array.getElem?_eq_some_iff.1 ht).1).trans ht⟩
theorem Box.other {w : World} {b : Nat} {xs : List Value} (h : Box w b xs) {a : Addr} (ha : b ≠ a.block) (v : Value) : Box (w.setCell a v) b xs := by
  obtain ⟨t, ht⟩ := h
  exact ⟨t, (Below.heap_setCell w a v b ha).trans ht⟩
theorem Box.set {w : World} {b : Nat} {xs : List Value} (h : Box w b xs) (i : Nat) (v : Value) : Box (w.setCell ⟨b, i, none⟩ v) b (xs.set i v) := by
  obtain ⟨t, ht⟩ := h
  refine ⟨t, ?_⟩
  show (w.heap.modify b _)[b]? = _
  rw [Array.getElem?_modify, if_pos rfl, ht]
  simp
theorem Box.cell {w : World} {b : Nat} {xs : List Value} (h : Box w b xs) (i : Nat) : w.cell? ⟨b, i, none⟩ = xs[i]? := by
  obtain ⟨t, ht⟩ := h
  simp [World.cell?, ht]
theorem Box.free {w : World} {b : Nat} {xs : List Value} (h : Box w b xs) (i : Nat) : w.frozen? ⟨b, i, none⟩ = false := by
  obtain ⟨t, ht⟩ := h
  simp [World.frozen?, ht]
theorem Box.same {w w' : World} {b : Nat} {xs : List Value} (h : Box w b xs) (hB : w'.heap[b]? = w.heap[b]?) : Box w' b xs := by
  obtain ⟨t, ht⟩ := h
  exact ⟨t, hB.trans ht⟩
theorem bel_drewN {B : Nat} {a w : World} (h : Below B a w) (n : Nat) : Below B a (w.drewN n) := ⟨h.os, h.tape, h.output, h.size, h.block⟩
def Later (W : World) : Type := { w : World // Below W.heap.size W w }
instance (W : World) : Nonempty (Later W) := ⟨⟨W, Below.refl _ _⟩⟩
def Later.w {W : World} (x : Later W) : World := x.val
theorem Later.below {W : World} (x : Later W) : Below W.heap.size W x.w := x.property
theorem Later.mk' {W w : World} (h : Below W.heap.size W w) : ∃ x : Later W, w = x.w := ⟨⟨w, h⟩, rfl⟩
theorem Later.cell {W : World} {a : Addr} {v : Value} (h : W.cell? a = some v) (hb : a.block < W.heap.size) (x : Later W) : x.w.cell? a = some v := (x.below.cell hb).trans h
theorem Later.box {W : World} {b : Nat} {xs : List Value} (h : Box W b xs) (x : Later W) : Box x.w b xs := h.later x.below
theorem Later.call {P : Program} {f : FuncId} {args : Array Value} {W : World} {v : Value} (x : Later W)
    (h : Calls P f args x.w fun e w' => e = .returned v ∧ Below x.w.heap.size x.w w') : Calls P f args x.w fun e w'' => e = .returned v ∧ ∃ y : Later W, w'' = y.w :=
  h.mono fun _ _ ⟨he, hB⟩ => ⟨he, Later.mk' (x.below.trans (hB.mono x.below.size))⟩
theorem Later.same {P : Program} {f : FuncId} {args : Array Value} {W : World} {v : Value} (x : Later W)
    (h : Calls P f args x.w fun e w' => e = .returned v ∧ x.w = w') : Calls P f args x.w fun e w'' => e = .returned v ∧ ∃ y : Later W, w'' = y.w :=
  h.mono fun _ _ ⟨he, hB⟩ => ⟨he, x, hB.symm⟩
theorem wp_region_later {P : Program} {id : Nat} {Q : Exit → Act → World → Prop} {a : Act} {W : World} {l : List Oper} (hm : P.follows .mixedOrders = true) (hB : Region.lexB .any l.toArray = true)
    (h : wpQuiet P l.toArray (fun w' => ∃ x : Later W, w' = x.w) (fun a' => ∀ w', (∃ x : Later W, w' = x.w) → Q .normal a' w') l a) : (Code.region id l.toArray true).wp P Q a W :=
  wp_region_quiet (C := fun w' => ∃ x : Later W, w' = x.w) hm hB (Later.mk' ((Below.refl _ _).drew)) (by simpa using h)
def Sl (w : World) (B size n : Nat) (g : Nat → Nat → Value) (v : Value) : Prop :=
  ∃ A c, v = .slice A n c ∧ n ≤ maxLen ∧ ∀ i, i < n → ∃ b off, A = some ⟨b, off, none⟩ ∧ b < B ∧ ∀ j, j < size → w.cell? ⟨b, off + (i * size + j), none⟩ = some (g i j)
theorem Sl.below {w w' : World} {B size n : Nat} {g : Nat → Nat → Value} {v : Value} (h : Sl w B size n g v) (hb : Below B w w') : Sl w' B size n g v := by
  obtain ⟨A, c, rfl, hn, h⟩ := h
  refine ⟨A, c, rfl, hn, fun i hi => ?_⟩
  obtain ⟨b, off, h1, h2, h3⟩ := h i hi
  exact ⟨b, off, h1, h2, fun j hj => (hb.cell h2).trans (h3 j hj)⟩
theorem Sl.more {w : World} {B B' size n : Nat} {g : Nat → Nat → Value} {v : Value} (h : Sl w B size n g v) (hb : B ≤ B') : Sl w B' size n g v := by
  obtain ⟨A, c, rfl, hn, h⟩ := h
  refine ⟨A, c, rfl, hn, fun i hi => ?_⟩
  obtain ⟨b, off, h1, h2, h3⟩ := h i hi
  exact ⟨b, off, h1, by omega, h3⟩
theorem Sl.later {w w' : World} {size n : Nat} {g : Nat → Nat → Value} {v : Value} (h : Sl w w.heap.size size n g v) (hb : Below w.heap.size w w') : Sl w' w'.heap.size size n g v :=
  (h.below hb).more hb.size
end Go.Proofs.Ytancngachnpefaa
namespace Go.Proofs.Ytancngachnpefaa
open Go.RowKit
theorem add_at (b off n : Nat) : (⟨b, off, none⟩ : Addr).add n = ⟨b, off + n, none⟩ := by
  unfold Addr.add
  split
  · rename_i h; rw [h]; rfl
  · rfl
def Sl2 (w : World) (D base size n : Nat) (g : Nat → Nat → Value) (v : Value) : Prop :=
  ∃ A c, v = .slice A n c ∧ n ≤ maxLen ∧ ∀ i, i < n → ∃ b off, A = some ⟨b, off, none⟩ ∧ (b < D ∨ base ≤ b) ∧ b < w.heap.size ∧ ∀ j, j < size → w.cell? ⟨b, off + (i * size + j), none⟩ = some (g i j)
theorem Sl2.sl {w : World} {D base size n : Nat} {g : Nat → Nat → Value} {v : Value} (h : Sl2 w D base size n g v) : Sl w w.heap.size size n g v := by
  obtain ⟨A, c, hv, hm, h1⟩ := h
  refine ⟨A, c, hv, hm, fun i hi => ?_⟩
  obtain ⟨b, off, ha, _, hb, h3⟩ := h1 i hi
  exact ⟨b, off, ha, hb, h3⟩
theorem Sl2.keep {w w' : World} {D base size n : Nat} {g : Nat → Nat → Value} {v : Value} (h : Sl2 w D base size n g v) (hs : w.heap.size ≤ w'.heap.size) (hk : ∀ b, (b < D ∨ base ≤ b) → b < w.heap.size → w'.heap[b]? = w.heap[b]?) : Sl2 w' D base size n g v := by
  obtain ⟨A, c, hv, hm, h1⟩ := h
  refine ⟨A, c, hv, hm, fun i hi => ?_⟩
  obtain ⟨b, off, ha, hb, hl, h3⟩ := h1 i hi
  exact ⟨b, off, ha, hb, by omega, fun j hj => by rw [World.cell?_of_block (w := w) (hk b hb hl)]; exact h3 j hj⟩
theorem Sl2.set {w : World} {D base size n : Nat} {g : Nat → Nat → Value} {v : Value} (h : Sl2 w D base size n g v) {a : Addr} (h1 : D ≤ a.block) (h2 : a.block < base) (u : Value) : Sl2 (w.setCell a u) D base size n g v :=
  h.keep (by simp) fun b hb _ => Below.heap_setCell w a u b (by omega)
theorem Sl2.later {w w' : World} {D base size n : Nat} {g : Nat → Nat → Value} {v : Value} (h : Sl2 w D base size n g v) (hb : Below w.heap.size w w') : Sl2 w' D base size n g v :=
  h.keep hb.size fun b _ hl => hb.block b hl
section
variable {t e : TypeId} {i : TypeInfo} {z : Value} {size bytes : Nat}
structure Elem (t e : TypeId) (i : TypeInfo) (z : Value) (size bytes : Nat) : Prop where
  ht : Try.prog.underlying t = some (.slice e)
  hi : Try.prog.info? e = some i
  hz : i.zero = some z
  hsize : i.size = size
  hby : i.bytes = bytes
  hzs : z.cells.size = size
  hsz : 0 < size
end
noncomputable def appF (ats : Array TypeId) (ty : TypeId) (args : Array Value) : Sem Value := Builtin.append_ ats ty args
theorem app_named {ats : Array TypeId} {ty : TypeId} {cs : Array Bool} {args : Array Value} : builtin .append ats ty cs args = (do pure (.value (← appF ats ty args))) := rfl
end Go.Proofs.Ytancngachnpefaa
namespace Go.Proofs.Ytancngachnpefaa
open Go.RowKit
section
variable {w : World} {b : Nat} {l : List Value}
theorem Box.c2 {v0 v1 : Value} (h : Box w b (v0 :: v1 :: l)) : w.cell? ⟨b, 0, none⟩ = some v0 ∧ w.cell? ⟨b, 1, none⟩ = some v1 := ⟨h.cell 0, h.cell 1⟩
theorem Box.f2 {v0 v1 : Value} (h : Box w b (v0 :: v1 :: l)) : w.cell? ⟨b, 0, none⟩ = some v0 ∧ w.frozen? ⟨b, 0, none⟩ = false ∧ w.cell? ⟨b, 1, none⟩ = some v1 ∧ w.frozen? ⟨b, 1, none⟩ = false := ⟨h.cell 0, h.free 0, h.cell 1, h.free 1⟩
theorem Box.c3 {v0 v1 v2 : Value} (h : Box w b (v0 :: v1 :: v2 :: l)) : w.cell? ⟨b, 0, none⟩ = some v0 ∧ w.cell? ⟨b, 1, none⟩ = some v1 ∧ w.cell? ⟨b, 2, none⟩ = some v2 := ⟨h.cell 0, h.cell 1, h.cell 2⟩
theorem Box.f3 {v0 v1 v2 : Value} (h : Box w b (v0 :: v1 :: v2 :: l)) : w.cell? ⟨b, 0, none⟩ = some v0 ∧ w.frozen? ⟨b, 0, none⟩ = false ∧ w.cell? ⟨b, 1, none⟩ = some v1 ∧ w.frozen? ⟨b, 1, none⟩ = false ∧ w.cell? ⟨b, 2, none⟩ = some v2 ∧ w.frozen? ⟨b, 2, none⟩ = false := ⟨h.cell 0, h.free 0, h.cell 1, h.free 1, h.cell 2, h.free 2⟩
theorem Box.c4 {v0 v1 v2 v3 : Value} (h : Box w b (v0 :: v1 :: v2 :: v3 :: l)) : w.cell? ⟨b, 0, none⟩ = some v0 ∧ w.cell? ⟨b, 1, none⟩ = some v1 ∧ w.cell? ⟨b, 2, none⟩ = some v2 ∧ w.cell? ⟨b, 3, none⟩ = some v3 := ⟨h.cell 0, h.cell 1, h.cell 2, h.cell 3⟩
theorem Box.f4 {v0 v1 v2 v3 : Value} (h : Box w b (v0 :: v1 :: v2 :: v3 :: l)) : w.cell? ⟨b, 0, none⟩ = some v0 ∧ w.frozen? ⟨b, 0, none⟩ = false ∧ w.cell? ⟨b, 1, none⟩ = some v1 ∧ w.frozen? ⟨b, 1, none⟩ = false ∧ w.cell? ⟨b, 2, none⟩ = some v2 ∧ w.frozen? ⟨b, 2, none⟩ = false ∧ w.cell? ⟨b, 3, none⟩ = some v3 ∧ w.frozen? ⟨b, 3, none⟩ = false := ⟨h.cell 0, h.free 0, h.cell 1, h.free 1, h.cell 2, h.free 2, h.cell 3, h.free 3⟩
theorem Box.c5 {v0 v1 v2 v3 v4 : Value} (h : Box w b (v0 :: v1 :: v2 :: v3 :: v4 :: l)) : w.cell? ⟨b, 0, none⟩ = some v0 ∧ w.cell? ⟨b, 1, none⟩ = some v1 ∧ w.cell? ⟨b, 2, none⟩ = some v2 ∧ w.cell? ⟨b, 3, none⟩ = some v3 ∧ w.cell? ⟨b, 4, none⟩ = some v4 := ⟨h.cell 0, h.cell 1, h.cell 2, h.cell 3, h.cell 4⟩
theorem Box.f5 {v0 v1 v2 v3 v4 : Value} (h : Box w b (v0 :: v1 :: v2 :: v3 :: v4 :: l)) : w.cell? ⟨b, 0, none⟩ = some v0 ∧ w.frozen? ⟨b, 0, none⟩ = false ∧ w.cell? ⟨b, 1, none⟩ = some v1 ∧ w.frozen? ⟨b, 1, none⟩ = false ∧ w.cell? ⟨b, 2, none⟩ = some v2 ∧ w.frozen? ⟨b, 2, none⟩ = false ∧ w.cell? ⟨b, 3, none⟩ = some v3 ∧ w.frozen? ⟨b, 3, none⟩ = false ∧ w.cell? ⟨b, 4, none⟩ = some v4 ∧ w.frozen? ⟨b, 4, none⟩ = false := ⟨h.cell 0, h.free 0, h.cell 1, h.free 1, h.cell 2, h.free 2, h.cell 3, h.free 3, h.cell 4, h.free 4⟩
theorem Box.c6 {v0 v1 v2 v3 v4 v5 : Value} (h : Box w b (v0 :: v1 :: v2 :: v3 :: v4 :: v5 :: l)) : w.cell? ⟨b, 0, none⟩ = some v0 ∧ w.cell? ⟨b, 1, none⟩ = some v1 ∧ w.cell? ⟨b, 2, none⟩ = some v2 ∧ w.cell? ⟨b, 3, none⟩ = some v3 ∧ w.cell? ⟨b, 4, none⟩ = some v4 ∧ w.cell? ⟨b, 5, none⟩ = some v5 := ⟨h.cell 0, h.cell 1, h.cell 2, h.cell 3, h.cell 4, h.cell 5⟩
theorem Box.f6 {v0 v1 v2 v3 v4 v5 : Value} (h : Box w b (v0 :: v1 :: v2 :: v3 :: v4 :: v5 :: l)) : w.cell? ⟨b, 0, none⟩ = some v0 ∧ w.frozen? ⟨b, 0, none⟩ = false ∧ w.cell? ⟨b, 1, none⟩ = some v1 ∧ w.frozen? ⟨b, 1, none⟩ = false ∧ w.cell? ⟨b, 2, none⟩ = some v2 ∧ w.frozen? ⟨b, 2, none⟩ = false ∧ w.cell? ⟨b, 3, none⟩ = some v3 ∧ w.frozen? ⟨b, 3, none⟩ = false ∧ w.cell? ⟨b, 4, none⟩ = some v4 ∧ w.frozen? ⟨b, 4, none⟩ = false ∧ w.cell? ⟨b, 5, none⟩ = some v5 ∧ w.frozen? ⟨b, 5, none⟩ = false := ⟨h.cell 0, h.free 0, h.cell 1, h.free 1, h.cell 2, h.free 2, h.cell 3, h.free 3, h.cell 4, h.free 4, h.cell 5, h.free 5⟩
theorem Box.c7 {v0 v1 v2 v3 v4 v5 v6 : Value} (h : Box w b (v0 :: v1 :: v2 :: v3 :: v4 :: v5 :: v6 :: l)) : w.cell? ⟨b, 0, none⟩ = some v0 ∧ w.cell? ⟨b, 1, none⟩ = some v1 ∧ w.cell? ⟨b, 2, none⟩ = some v2 ∧ w.cell? ⟨b, 3, none⟩ = some v3 ∧ w.cell? ⟨b, 4, none⟩ = some v4 ∧ w.cell? ⟨b, 5, none⟩ = some v5 ∧ w.cell? ⟨b, 6, none⟩ = some v6 := ⟨h.cell 0, h.cell 1, h.cell 2, h.cell 3, h.cell 4, h.cell 5, h.cell 6⟩
theorem Box.f7 {v0 v1 v2 v3 v4 v5 v6 : Value} (h : Box w b (v0 :: v1 :: v2 :: v3 :: v4 :: v5 :: v6 :: l)) : w.cell? ⟨b, 0, none⟩ = some v0 ∧ w.frozen? ⟨b, 0, none⟩ = false ∧ w.cell? ⟨b, 1, none⟩ = some v1 ∧ w.frozen? ⟨b, 1, none⟩ = false ∧ w.cell? ⟨b, 2, none⟩ = some v2 ∧ w.frozen? ⟨b, 2, none⟩ = false ∧ w.cell? ⟨b, 3, none⟩ = some v3 ∧ w.frozen? ⟨b, 3, none⟩ = false ∧ w.cell? ⟨b, 4, none⟩ = some v4 ∧ w.frozen? ⟨b, 4, none⟩ = false ∧ w.cell? ⟨b, 5, none⟩ = some v5 ∧ w.frozen? ⟨b, 5, none⟩ = false ∧ w.cell? ⟨b, 6, none⟩ = some v6 ∧ w.frozen? ⟨b, 6, none⟩ = false := ⟨h.cell 0, h.free 0, h.cell 1, h.free 1, h.cell 2, h.free 2, h.cell 3, h.free 3, h.cell 4, h.free 4, h.cell 5, h.free 5, h.cell 6, h.free 6⟩
theorem Box.c8 {v0 v1 v2 v3 v4 v5 v6 v7 : Value} (h : Box w b (v0 :: v1 :: v2 :: v3 :: v4 :: v5 :: v6 :: v7 :: l)) : w.cell? ⟨b, 0, none⟩ = some v0 ∧ w.cell? ⟨b, 1, none⟩ = some v1 ∧ w.cell? ⟨b, 2, none⟩ = some v2 ∧ w.cell? ⟨b, 3, none⟩ = some v3 ∧ w.cell? ⟨b, 4, none⟩ = some v4 ∧ w.cell? ⟨b, 5, none⟩ = some v5 ∧ w.cell? ⟨b, 6, none⟩ = some v6 ∧ w.cell? ⟨b, 7, none⟩ = some v7 := ⟨h.cell 0, h.cell 1, h.cell 2, h.cell 3, h.cell 4, h.cell 5, h.cell 6, h.cell 7⟩
theorem Box.f8 {v0 v1 v2 v3 v4 v5 v6 v7 : Value} (h : Box w b (v0 :: v1 :: v2 :: v3 :: v4 :: v5 :: v6 :: v7 :: l)) : w.cell? ⟨b, 0, none⟩ = some v0 ∧ w.frozen? ⟨b, 0, none⟩ = false ∧ w.cell? ⟨b, 1, none⟩ = some v1 ∧ w.frozen? ⟨b, 1, none⟩ = false ∧ w.cell? ⟨b, 2, none⟩ = some v2 ∧ w.frozen? ⟨b, 2, none⟩ = false ∧ w.cell? ⟨b, 3, none⟩ = some v3 ∧ w.frozen? ⟨b, 3, none⟩ = false ∧ w.cell? ⟨b, 4, none⟩ = some v4 ∧ w.frozen? ⟨b, 4, none⟩ = false ∧ w.cell? ⟨b, 5, none⟩ = some v5 ∧ w.frozen? ⟨b, 5, none⟩ = false ∧ w.cell? ⟨b, 6, none⟩ = some v6 ∧ w.frozen? ⟨b, 6, none⟩ = false ∧ w.cell? ⟨b, 7, none⟩ = some v7 ∧ w.frozen? ⟨b, 7, none⟩ = false := ⟨h.cell 0, h.free 0, h.cell 1, h.free 1, h.cell 2, h.free 2, h.cell 3, h.free 3, h.cell 4, h.free 4, h.cell 5, h.free 5, h.cell 6, h.free 6, h.cell 7, h.free 7⟩
theorem Box.c9 {v0 v1 v2 v3 v4 v5 v6 v7 v8 : Value} (h : Box w b (v0 :: v1 :: v2 :: v3 :: v4 :: v5 :: v6 :: v7 :: v8 :: l)) : w.cell? ⟨b, 0, none⟩ = some v0 ∧ w.cell? ⟨b, 1, none⟩ = some v1 ∧ w.cell? ⟨b, 2, none⟩ = some v2 ∧ w.cell? ⟨b, 3, none⟩ = some v3 ∧ w.cell? ⟨b, 4, none⟩ = some v4 ∧ w.cell? ⟨b, 5, none⟩ = some v5 ∧ w.cell? ⟨b, 6, none⟩ = some v6 ∧ w.cell? ⟨b, 7, none⟩ = some v7 ∧ w.cell? ⟨b, 8, none⟩ = some v8 := ⟨h.cell 0, h.cell 1, h.cell 2, h.cell 3, h.cell 4, h.cell 5, h.cell 6, h.cell 7, h.cell 8⟩
theorem Box.f9 {v0 v1 v2 v3 v4 v5 v6 v7 v8 : Value} (h : Box w b (v0 :: v1 :: v2 :: v3 :: v4 :: v5 :: v6 :: v7 :: v8 :: l)) : w.cell? ⟨b, 0, none⟩ = some v0 ∧ w.frozen? ⟨b, 0, none⟩ = false ∧ w.cell? ⟨b, 1, none⟩ = some v1 ∧ w.frozen? ⟨b, 1, none⟩ = false ∧ w.cell? ⟨b, 2, none⟩ = some v2 ∧ w.frozen? ⟨b, 2, none⟩ = false ∧ w.cell? ⟨b, 3, none⟩ = some v3 ∧ w.frozen? ⟨b, 3, none⟩ = false ∧ w.cell? ⟨b, 4, none⟩ = some v4 ∧ w.frozen? ⟨b, 4, none⟩ = false ∧ w.cell? ⟨b, 5, none⟩ = some v5 ∧ w.frozen? ⟨b, 5, none⟩ = false ∧ w.cell? ⟨b, 6, none⟩ = some v6 ∧ w.frozen? ⟨b, 6, none⟩ = false ∧ w.cell? ⟨b, 7, none⟩ = some v7 ∧ w.frozen? ⟨b, 7, none⟩ = false ∧ w.cell? ⟨b, 8, none⟩ = some v8 ∧ w.frozen? ⟨b, 8, none⟩ = false := ⟨h.cell 0, h.free 0, h.cell 1, h.free 1, h.cell 2, h.free 2, h.cell 3, h.free 3, h.cell 4, h.free 4, h.cell 5, h.free 5, h.cell 6, h.free 6, h.cell 7, h.free 7, h.cell 8, h.free 8⟩
theorem Box.c10 {v0 v1 v2 v3 v4 v5 v6 v7 v8 v9 : Value} (h : Box w b (v0 :: v1 :: v2 :: v3 :: v4 :: v5 :: v6 :: v7 :: v8 :: v9 :: l)) : w.cell? ⟨b, 0, none⟩ = some v0 ∧ w.cell? ⟨b, 1, none⟩ = some v1 ∧ w.cell? ⟨b, 2, none⟩ = some v2 ∧ w.cell? ⟨b, 3, none⟩ = some v3 ∧ w.cell? ⟨b, 4, none⟩ = some v4 ∧ w.cell? ⟨b, 5, none⟩ = some v5 ∧ w.cell? ⟨b, 6, none⟩ = some v6 ∧ w.cell? ⟨b, 7, none⟩ = some v7 ∧ w.cell? ⟨b, 8, none⟩ = some v8 ∧ w.cell? ⟨b, 9, none⟩ = some v9 := ⟨h.cell 0, h.cell 1, h.cell 2, h.cell 3, h.cell 4, h.cell 5, h.cell 6, h.cell 7, h.cell 8, h.cell 9⟩
theorem Box.f10 {v0 v1 v2 v3 v4 v5 v6 v7 v8 v9 : Value} (h : Box w b (v0 :: v1 :: v2 :: v3 :: v4 :: v5 :: v6 :: v7 :: v8 :: v9 :: l)) : w.cell? ⟨b, 0, none⟩ = some v0 ∧ w.frozen? ⟨b, 0, none⟩ = false ∧ w.cell? ⟨b, 1, none⟩ = some v1 ∧ w.frozen? ⟨b, 1, none⟩ = false ∧ w.cell? ⟨b, 2, none⟩ = some v2 ∧ w.frozen? ⟨b, 2, none⟩ = false ∧ w.cell? ⟨b, 3, none⟩ = some v3 ∧ w.frozen? ⟨b, 3, none⟩ = false ∧ w.cell? ⟨b, 4, none⟩ = some v4 ∧ w.frozen? ⟨b, 4, none⟩ = false ∧ w.cell? ⟨b, 5, none⟩ = some v5 ∧ w.frozen? ⟨b, 5, none⟩ = false ∧ w.cell? ⟨b, 6, none⟩ = some v6 ∧ w.frozen? ⟨b, 6, none⟩ = false ∧ w.cell? ⟨b, 7, none⟩ = some v7 ∧ w.frozen? ⟨b, 7, none⟩ = false ∧ w.cell? ⟨b, 8, none⟩ = some v8 ∧ w.frozen? ⟨b, 8, none⟩ = false ∧ w.cell? ⟨b, 9, none⟩ = some v9 ∧ w.frozen? ⟨b, 9, none⟩ = false := ⟨h.cell 0, h.free 0, h.cell 1, h.free 1, h.cell 2, h.free 2, h.cell 3, h.free 3, h.cell 4, h.free 4, h.cell 5, h.free 5, h.cell 6, h.free 6, h.cell 7, h.free 7, h.cell 8, h.free 8, h.cell 9, h.free 9⟩
theorem Box.c11 {v0 v1 v2 v3 v4 v5 v6 v7 v8 v9 v10 : Value} (h : Box w b (v0 :: v1 :: v2 :: v3 :: v4 :: v5 :: v6 :: v7 :: v8 :: v9 :: v10 :: l)) : w.cell? ⟨b, 0, none⟩ = some v0 ∧ w.cell? ⟨b, 1, none⟩ = some v1 ∧ w.cell? ⟨b, 2, none⟩ = some v2 ∧ w.cell? ⟨b, 3, none⟩ = some v3 ∧ w.cell? ⟨b, 4, none⟩ = some v4 ∧ w.cell? ⟨b, 5, none⟩ = some v5 ∧ w.cell? ⟨b, 6, none⟩ = some v6 ∧ w.cell? ⟨b, 7, none⟩ = some v7 ∧ w.cell? ⟨b, 8, none⟩ = some v8 ∧ w.cell? ⟨b, 9, none⟩ = some v9 ∧ w.cell? ⟨b, 10, none⟩ = some v10 := ⟨h.cell 0, h.cell 1, h.cell 2, h.cell 3, h.cell 4, h.cell 5, h.cell 6, h.cell 7, h.cell 8, h.cell 9, h.cell 10⟩
theorem Box.f11 {v0 v1 v2 v3 v4 v5 v6 v7 v8 v9 v10 : Value} (h : Box w b (v0 :: v1 :: v2 :: v3 :: v4 :: v5 :: v6 :: v7 :: v8 :: v9 :: v10 :: l)) : w.cell? ⟨b, 0, none⟩ = some v0 ∧ w.frozen? ⟨b, 0, none⟩ = false ∧ w.cell? ⟨b, 1, none⟩ = some v1 ∧ w.frozen? ⟨b, 1, none⟩ = false ∧ w.cell? ⟨b, 2, none⟩ = some v2 ∧ w.frozen? ⟨b, 2, none⟩ = false ∧ w.cell? ⟨b, 3, none⟩ = some v3 ∧ w.frozen? ⟨b, 3, none⟩ = false ∧ w.cell? ⟨b, 4, none⟩ = some v4 ∧ w.frozen? ⟨b, 4, none⟩ = false ∧ w.cell? ⟨b, 5, none⟩ = some v5 ∧ w.frozen? ⟨b, 5, none⟩ = false ∧ w.cell? ⟨b, 6, none⟩ = some v6 ∧ w.frozen? ⟨b, 6, none⟩ = false ∧ w.cell? ⟨b, 7, none⟩ = some v7 ∧ w.frozen? ⟨b, 7, none⟩ = false ∧ w.cell? ⟨b, 8, none⟩ = some v8 ∧ w.frozen? ⟨b, 8, none⟩ = false ∧ w.cell? ⟨b, 9, none⟩ = some v9 ∧ w.frozen? ⟨b, 9, none⟩ = false ∧ w.cell? ⟨b, 10, none⟩ = some v10 ∧ w.frozen? ⟨b, 10, none⟩ = false := ⟨h.cell 0, h.free 0, h.cell 1, h.free 1, h.cell 2, h.free 2, h.cell 3, h.free 3, h.cell 4, h.free 4, h.cell 5, h.free 5, h.cell 6, h.free 6, h.cell 7, h.free 7, h.cell 8, h.free 8, h.cell 9, h.free 9, h.cell 10, h.free 10⟩
theorem Box.c12 {v0 v1 v2 v3 v4 v5 v6 v7 v8 v9 v10 v11 : Value} (h : Box w b (v0 :: v1 :: v2 :: v3 :: v4 :: v5 :: v6 :: v7 :: v8 :: v9 :: v10 :: v11 :: l)) : w.cell? ⟨b, 0, none⟩ = some v0 ∧ w.cell? ⟨b, 1, none⟩ = some v1 ∧ w.cell? ⟨b, 2, none⟩ = some v2 ∧ w.cell? ⟨b, 3, none⟩ = some v3 ∧ w.cell? ⟨b, 4, none⟩ = some v4 ∧ w.cell? ⟨b, 5, none⟩ = some v5 ∧ w.cell? ⟨b, 6, none⟩ = some v6 ∧ w.cell? ⟨b, 7, none⟩ = some v7 ∧ w.cell? ⟨b, 8, none⟩ = some v8 ∧ w.cell? ⟨b, 9, none⟩ = some v9 ∧ w.cell? ⟨b, 10, none⟩ = some v10 ∧ w.cell? ⟨b, 11, none⟩ = some v11 := ⟨h.cell 0, h.cell 1, h.cell 2, h.cell 3, h.cell 4, h.cell 5, h.cell 6, h.cell 7, h.cell 8, h.cell 9, h.cell 10, h.cell 11⟩
theorem Box.f12 {v0 v1 v2 v3 v4 v5 v6 v7 v8 v9 v10 v11 : Value} (h : Box w b (v0 :: v1 :: v2 :: v3 :: v4 :: v5 :: v6 :: v7 :: v8 :: v9 :: v10 :: v11 :: l)) : w.cell? ⟨b, 0, none⟩ = some v0 ∧ w.frozen? ⟨b, 0, none⟩ = false ∧ w.cell? ⟨b, 1, none⟩ = some v1 ∧ w.frozen? ⟨b, 1, none⟩ = false ∧ w.cell? ⟨b, 2, none⟩ = some v2 ∧ w.frozen? ⟨b, 2, none⟩ = false ∧ w.cell? ⟨b, 3, none⟩ = some v3 ∧ w.frozen? ⟨b, 3, none⟩ = false ∧ w.cell? ⟨b, 4, none⟩ = some v4 ∧ w.frozen? ⟨b, 4, none⟩ = false ∧ w.cell? ⟨b, 5, none⟩ = some v5 ∧ w.frozen? ⟨b, 5, none⟩ = false ∧ w.cell? ⟨b, 6, none⟩ = some v6 ∧ w.frozen? ⟨b, 6, none⟩ = false ∧ w.cell? ⟨b, 7, none⟩ = some v7 ∧ w.frozen? ⟨b, 7, none⟩ = false ∧ w.cell? ⟨b, 8, none⟩ = some v8 ∧ w.frozen? ⟨b, 8, none⟩ = false ∧ w.cell? ⟨b, 9, none⟩ = some v9 ∧ w.frozen? ⟨b, 9, none⟩ = false ∧ w.cell? ⟨b, 10, none⟩ = some v10 ∧ w.frozen? ⟨b, 10, none⟩ = false ∧ w.cell? ⟨b, 11, none⟩ = some v11 ∧ w.frozen? ⟨b, 11, none⟩ = false := ⟨h.cell 0, h.free 0, h.cell 1, h.free 1, h.cell 2, h.free 2, h.cell 3, h.free 3, h.cell 4, h.free 4, h.cell 5, h.free 5, h.cell 6, h.free 6, h.cell 7, h.free 7, h.cell 8, h.free 8, h.cell 9, h.free 9, h.cell 10, h.free 10, h.cell 11, h.free 11⟩
end
end Go.Proofs.Ytancngachnpefaa
namespace Go.Proofs.Ytancngachnpefaa
open Go.RowKit
structure Pl where
  (top bank siphon start positions rate step pass feed pipe orders age : Int)
structure St where
  (level position p0 p1 order age : Int)
structure Sh where
  (feed msg : Int)
structure Cn where
  (var op n : Int)
structure Ln where
  conds : List Cn
  set : Int
abbrev Pl.cells (p : Pl) : List Value := [.int .i64 p.top, .int .i64 p.bank, .int .i64 p.siphon, .int .i64 p.start, .int .i64 p.positions, .int .i64 p.rate, .int .i64 p.step, .int .i64 p.pass, .int .i64 p.feed, .int .i64 p.pipe, .int .i64 p.orders, .int .i64 p.age]
abbrev Pl.v (p : Pl) : Value := .agg #[.int .i64 p.top, .int .i64 p.bank, .int .i64 p.siphon, .int .i64 p.start, .int .i64 p.positions, .int .i64 p.rate, .int .i64 p.step, .int .i64 p.pass, .int .i64 p.feed, .int .i64 p.pipe, .int .i64 p.orders, .int .i64 p.age]
abbrev St.cells (s : St) : List Value := [.int .i64 s.level, .int .i64 s.position, .int .i64 s.p0, .int .i64 s.p1, .int .i64 s.order, .int .i64 s.age]
abbrev St.v (s : St) : Value := .agg #[.int .i64 s.level, .int .i64 s.position, .int .i64 s.p0, .int .i64 s.p1, .int .i64 s.order, .int .i64 s.age]
abbrev Sh.v (x : Sh) : Value := .agg #[.int .i64 x.feed, .int .i64 x.msg]
def CondsAt (w : World) (B : Nat) (v : Value) (cs : List Cn) : Prop :=
  Sl w B 3 cs.length (fun i j => match cs[i]? with | some c => (if j = 0 then .int .i64 c.var else if j = 1 then .int .i64 c.op else .int .i64 c.n) | none => undef) v
def CodeAt (w : World) (B : Nat) (v : Value) (code : List Ln) : Prop :=
  ∃ V : Nat → Value, Sl w B 2 code.length (fun i j => match code[i]? with | some l => (if j = 0 then V i else .int .i64 l.set) | none => undef) v ∧
    ∀ (i : Nat) (l : Ln), code[i]? = some l → CondsAt w B (V i) l.conds
theorem CondsAt.below {w w' : World} {B : Nat} {v : Value} {cs : List Cn} (h : CondsAt w B v cs) (hb : Below B w w') : CondsAt w' B v cs := Sl.below h hb
theorem CondsAt.more {w : World} {B B' : Nat} {v : Value} {cs : List Cn} (h : CondsAt w B v cs) (hb : B ≤ B') : CondsAt w B' v cs := Sl.more h hb
theorem CodeAt.below {w w' : World} {B : Nat} {v : Value} {code : List Ln} (h : CodeAt w B v code) (hb : Below B w w') : CodeAt w' B v code := by
  obtain ⟨V, h1, h2⟩ := h
  exact ⟨V, h1.below hb, fun i l hl => (h2 i l hl).below hb⟩
theorem CodeAt.more {w : World} {B B' : Nat} {v : Value} {code : List Ln} (h : CodeAt w B v code) (hb : B ≤ B') : CodeAt w B' v code := by
  obtain ⟨V, h1, h2⟩ := h
  exact ⟨V, h1.more hb, fun i l hl => (h2 i l hl).more hb⟩
theorem CodeAt.later {w w' : World} {v : Value} {code : List Ln} (h : CodeAt w w.heap.size v code) (hb : Below w.heap.size w w') : CodeAt w' w'.heap.size v code := (h.below hb).more hb.size
theorem CodeAt.line {w : World} {B : Nat} {A : Option Addr} {n c : Nat} {code : List Ln} (h : CodeAt w B (.slice A n c) code) {k : Nat} (hk : k < code.length) :
    ∃ b off V, A = some ⟨b, off, none⟩ ∧ b < B ∧ w.cell? ⟨b, off + k * 2, none⟩ = some V ∧ w.cell? ⟨b, off + k * 2 + 1, none⟩ = some (.int .i64 (code[k]).set) ∧ CondsAt w B V (code[k]).conds := by
  obtain ⟨V, ⟨A', c', hv, _, h1⟩, h2⟩ := h
  cases hv
  obtain ⟨b, off, rfl, hb, h3⟩ := h1 k hk
  have e : code[k]? = some code[k] := List.getElem?_eq_getElem hk
  have c0 := h3 0 (by omega)
  have c1 := h3 1 (by omega)
  simp only [e] at c0 c1
  exact ⟨b, off, V k, rfl, hb, c0, by rw [Nat.add_assoc]; exact c1, h2 k _ e⟩
theorem CodeAt.form {w : World} {B : Nat} {v : Value} {code : List Ln} (h : CodeAt w B v code) : ∃ A c, v = .slice A code.length c ∧ code.length ≤ maxLen := by
  obtain ⟨V, ⟨A, c, hv, hn, _⟩, _⟩ := h
  exact ⟨A, c, hv, hn⟩
theorem CondsAt.form {w : World} {B : Nat} {v : Value} {cs : List Cn} (h : CondsAt w B v cs) : ∃ A c, v = .slice A cs.length c ∧ cs.length ≤ maxLen := by
  obtain ⟨A, c, hv, hn, _⟩ := h
  exact ⟨A, c, hv, hn⟩
theorem CondsAt.cond {w : World} {B : Nat} {A : Option Addr} {n c : Nat} {cs : List Cn} (h : CondsAt w B (.slice A n c) cs) {k : Nat} (hk : k < cs.length) :
    ∃ b off, A = some ⟨b, off, none⟩ ∧ b < B ∧ w.cell? ⟨b, off + k * 3, none⟩ = some (.int .i64 (cs[k]).var) ∧ w.cell? ⟨b, off + k * 3 + 1, none⟩ = some (.int .i64 (cs[k]).op) ∧ w.cell? ⟨b, off + k * 3 + 2, none⟩ = some (.int .i64 (cs[k]).n) := by
  obtain ⟨A', c', hv, _, h1⟩ := h
  cases hv
  obtain ⟨b, off, rfl, hb, h3⟩ := h1 k hk
  have e : cs[k]? = some cs[k] := List.getElem?_eq_getElem hk
  have c0 := h3 0 (by omega)
  have c1 := h3 1 (by omega)
  have c2 := h3 2 (by omega)
  simp only [e] at c0 c1 c2
  exact ⟨b, off, rfl, hb, c0, by rw [Nat.add_assoc]; exact c1, by rw [Nat.add_assoc]; exact c2⟩
def inI (n lo hi : Int) : Bool := decide (lo ≤ n ∧ n ≤ hi)
theorem inI_yes {n lo hi : Int} (h : inI n lo hi = true) : lo ≤ n ∧ n ≤ hi := of_decide_eq_true h
theorem inI_no {n lo hi : Int} (h : inI n lo hi = false) : ¬ (lo ≤ n ∧ n ≤ hi) := of_decide_eq_false h
structure Pl.Valid (p : Pl) : Prop where
  top : 1 ≤ p.top ∧ p.top ≤ 63
  bank : 0 ≤ p.bank ∧ p.bank ≤ p.top - 1
  siphon : 0 ≤ p.siphon ∧ p.siphon ≤ p.bank
  start : 0 ≤ p.start ∧ p.start ≤ p.top
  positions : 1 ≤ p.positions ∧ p.positions ≤ 15
  rate : 1 ≤ p.rate ∧ p.rate ≤ 15
  step : 1 ≤ p.step ∧ p.step ≤ 15
  pass : 0 ≤ p.pass ∧ p.pass ≤ 1048576
  feed : 0 ≤ p.feed ∧ p.feed ≤ 15
  pipe : 0 ≤ p.pipe ∧ p.pipe ≤ 2
  orders : 0 ≤ p.orders ∧ p.orders ≤ 7
  age : 0 ≤ p.age ∧ p.age ≤ 7
instance (p : Pl) : Decidable p.Valid := decidable_of_iff
  ((1 ≤ p.top ∧ p.top ≤ 63) ∧ (0 ≤ p.bank ∧ p.bank ≤ p.top - 1) ∧ (0 ≤ p.siphon ∧ p.siphon ≤ p.bank) ∧ (0 ≤ p.start ∧ p.start ≤ p.top) ∧ (1 ≤ p.positions ∧ p.positions ≤ 15) ∧ (1 ≤ p.rate ∧ p.rate ≤ 15) ∧ (1 ≤ p.step ∧ p.step ≤ 15) ∧ (0 ≤ p.pass ∧ p.pass ≤ 1048576) ∧ (0 ≤ p.feed ∧ p.feed ≤ 15) ∧ (0 ≤ p.pipe ∧ p.pipe ≤ 2) ∧ (0 ≤ p.orders ∧ p.orders ≤ 7) ∧ (0 ≤ p.age ∧ p.age ≤ 7))
  ⟨fun ⟨a, b, c, d, e, f, g, h, i, j, k, l⟩ => ⟨a, b, c, d, e, f, g, h, i, j, k, l⟩, fun ⟨a, b, c, d, e, f, g, h, i, j, k, l⟩ => ⟨a, b, c, d, e, f, g, h, i, j, k, l⟩⟩
def Pl.validB (p : Pl) : Bool := decide p.Valid
def Pl.bounds (p : Pl) : List (Int × Int × Int) :=
  [(p.top, 1, 63), (p.bank, 0, p.top - 1), (p.siphon, 0, p.bank), (p.start, 0, p.top), (p.positions, 1, 15), (p.rate, 1, 15), (p.step, 1, 15), (p.pass, 0, 1048576), (p.feed, 0, 15), (p.pipe, 0, 2), (p.orders, 0, 7), (p.age, 0, 7)]
def Pl.sizeI (p : Pl) : Int := (p.top + 1) * (p.positions + 1) * (p.orders + 1) * (p.age + 1)
def Pl.countI (p : Pl) : Int := if p.pipe = 0 then p.sizeI else if p.pipe = 1 then p.sizeI * (p.feed + 1) else p.sizeI * (p.feed + 1) * (p.feed + 1)
def Pl.checkT (p : Pl) : Int := if p.validB = true then (if 4096 < p.countI then 2 else 0) else 320
def Pl.countT (p : Pl) : Int × Int := if p.checkT = 0 then (p.countI, 0) else (0, p.checkT)
def St.zero : St := ⟨0, 0, 0, 0, 0, 0⟩
def Pl.beginT (p : Pl) : St × Int := if p.checkT = 0 then (⟨p.start, 0, 0, 0, 0, p.age⟩, 0) else (St.zero, p.checkT)
def Pl.hasB (p : Pl) (s : St) : Bool :=
  inI s.level 0 p.top && (inI s.position 0 p.positions && (inI s.p0 0 (if 0 < p.pipe then p.feed else 0) && (inI s.p1 0 (if 1 < p.pipe then p.feed else 0) && (inI s.order 0 p.orders && inI s.age 0 p.age))))
def Pl.goodB (p : Pl) (s : St) : Bool := decide (p.siphon ≤ s.level ∧ s.level ≤ p.bank ∧ p.rate * s.position ≤ p.pass)
def Pl.safeT (p : Pl) (s : St) : Bool × Int := if p.checkT = 0 then (if p.hasB s = true then (p.goodB s, 0) else (false, 320)) else (false, p.checkT)
def Cn.okB (c : Cn) : Bool := decide ((0 ≤ c.var ∧ c.var ≤ 4) ∧ (1 ≤ c.op ∧ c.op ≤ 5) ∧ (0 ≤ c.n ∧ c.n ≤ 1099511627776))
def Ln.okB (l : Ln) : Bool := decide (l.conds.length ≤ 4) && (decide (0 ≤ l.set ∧ l.set ≤ 1099511627776) && l.conds.all Cn.okB)
def gateB (code : List Ln) : Bool := decide (code.length ≤ 64) && code.all Ln.okB
def gateT (code : List Ln) : Int := if gateB code = true then 0 else 310
structure Vr where
  (v0 v1 v2 v3 v4 : Int)
abbrev Vr.v (r : Vr) : Value := .agg #[.int .i64 r.v0, .int .i64 r.v1, .int .i64 r.v2, .int .i64 r.v3, .int .i64 r.v4]
def Vr.at (r : Vr) (i : Int) : Int := if i = 0 then r.v0 else if i = 1 then r.v1 else if i = 2 then r.v2 else if i = 3 then r.v3 else r.v4
def Cn.holdsB (c : Cn) (x : Int) : Bool := if c.op = 1 then decide (x < c.n) else if c.op = 2 then decide (x ≤ c.n) else if c.op = 3 then decide (x = c.n) else if c.op = 4 then decide (c.n ≤ x) else decide (c.n < x)
def Ln.holdsB (l : Ln) (r : Vr) : Bool := l.conds.all fun c => c.holdsB (r.at c.var)
def firstT (code : List Ln) (r : Vr) : Int × Bool := match code.find? (·.holdsB r) with | some l => (l.set, true) | none => (0, false)
def runT (code : List Ln) (r : Vr) : Int × Bool × Int := if gateB code = true then ((firstT code r).1, (firstT code r).2, 0) else (0, false, 310)
def heardT (p : Pl) (s : St) (x : Sh) : Int × Int := if 0 ≤ x.msg then (x.msg, 0) else (s.order, min (s.age + 1) p.age)
def fedT (p : Pl) (s : St) (x : Sh) : Int × Int × Int := if p.pipe = 0 then (x.feed, s.p1, 0) else if p.pipe = 1 then (s.p0, x.feed, 0) else (s.p0, s.p1, x.feed)
def varsT (p : Pl) (s : St) (x : Sh) : Vr := ⟨s.level, s.position, (heardT p s x).1, (heardT p s x).2, (fedT p s x).1⟩
def movedT (p : Pl) (code : List Ln) (s : St) (x : Sh) : Int :=
  if (firstT code (varsT p s x)).2 = true then max (s.position - p.step) (min (s.position + p.step) (min (firstT code (varsT p s x)).1 p.positions)) else s.position
def outT (p : Pl) (code : List Ln) (s : St) (x : Sh) : Int := min (s.level + (fedT p s x).1) (p.rate * movedT p code s x)
def stepT (p : Pl) (code : List Ln) (s : St) (x : Sh) : St :=
  ⟨min p.top (s.level + (fedT p s x).1 - outT p code s x), movedT p code s x, (fedT p s x).2.1, (fedT p s x).2.2, (heardT p s x).1, (heardT p s x).2⟩
def chosenB (p : Pl) (x : Sh) : Bool := inI x.feed 0 p.feed && inI x.msg (-1) p.orders
def nextT (p : Pl) (code : List Ln) (s : St) (x : Sh) : St × Int × Int :=
  if p.checkT = 0 then (if gateT code = 0 then (if p.hasB s = true then (if chosenB p x = true then (stepT p code s x, outT p code s x, 0) else (St.zero, 0, 1)) else (St.zero, 0, 320)) else (St.zero, 0, gateT code)) else (St.zero, 0, p.checkT)
theorem Pl.valid_of {p : Pl} (h : p.validB = true) : p.Valid := of_decide_eq_true h
theorem Pl.check_zero {p : Pl} (h : p.checkT = 0) : p.Valid ∧ p.countI ≤ 4096 := by
  unfold Pl.checkT at h
  split at h
  · rename_i hv
    split at h
    · omega
    · exact ⟨Pl.valid_of hv, by omega⟩
  · omega
theorem Pl.bounds_all (p : Pl) : p.validB = p.bounds.all fun t => inI t.1 t.2.1 t.2.2 := by
  rw [Bool.eq_iff_iff]
  simp only [Pl.validB, Pl.bounds, inI, List.all_cons, List.all_nil, Bool.and_true, Bool.and_eq_true, decide_eq_true_eq]
  exact ⟨fun ⟨a, b, c, d, e, f, g, h, i, j, k, l⟩ => ⟨a, b, c, d, e, f, g, h, i, j, k, l⟩, fun ⟨a, b, c, d, e, f, g, h, i, j, k, l⟩ => ⟨a, b, c, d, e, f, g, h, i, j, k, l⟩⟩
theorem mul_le4 {a b A B : Int} (ha : 0 ≤ a ∧ a ≤ A) (hb : 0 ≤ b ∧ b ≤ B) : 0 ≤ a * b ∧ a * b ≤ A * B := by
  constructor
  · exact Int.mul_nonneg ha.1 hb.1
  · exact Int.mul_le_mul ha.2 hb.2 hb.1 (by omega)
theorem Pl.sizes {p : Pl} (h : p.Valid) : (0 ≤ (p.top + 1) * (p.positions + 1) ∧ (p.top + 1) * (p.positions + 1) ≤ 1024) ∧ (0 ≤ (p.top + 1) * (p.positions + 1) * (p.orders + 1) ∧ (p.top + 1) * (p.positions + 1) * (p.orders + 1) ≤ 8192) ∧
    (0 ≤ p.sizeI ∧ p.sizeI ≤ 65536) ∧ (0 ≤ p.sizeI * (p.feed + 1) ∧ p.sizeI * (p.feed + 1) ≤ 1048576) ∧ 0 ≤ p.sizeI * (p.feed + 1) * (p.feed + 1) ∧ p.sizeI * (p.feed + 1) * (p.feed + 1) ≤ 16777216 := by
  obtain ⟨h1, _, _, _, h2, _, _, _, h3, _, h4, h5⟩ := h
  have a1 := mul_le4 (a := p.top + 1) (b := p.positions + 1) (A := 64) (B := 16) (by omega) (by omega)
  have a2 := mul_le4 (b := p.orders + 1) (B := 8) a1 (by omega)
  have a3 := mul_le4 (b := p.age + 1) (B := 8) a2 (by omega)
  have a4 := mul_le4 (b := p.feed + 1) (B := 16) a3 (by omega)
  have a5 := mul_le4 (b := p.feed + 1) (B := 16) a4 (by omega)
  unfold Pl.sizeI
  exact ⟨by omega, by omega, by omega, by omega, by omega⟩
end Go.Proofs.Ytancngachnpefaa
namespace Go.Proofs.Ytancngachnpefaa
open Go.RowKit
theorem wrap_id {x : Int} (h0 : -9223372036854775808 ≤ x) (h1 : x ≤ 9223372036854775807) : IntKind.i64.wrap x = x := by rw [IntKind.wrap_i64]; omega
theorem count_any (p : Pl) (hv : Hid p.Valid) (w : World) : Calls Try.prog 53 #[p.v] w fun e w' => e = .returned (.int .i64 p.countI) ∧ Below w.heap.size w w' := by
  obtain ⟨⟨a1, a2⟩, ⟨a3, a4⟩, ⟨a5, a6⟩, ⟨a7, a8⟩, a9, a10⟩ := Pl.sizes hv.out
  have b1 := hv.out.top
  have b2 := hv.out.positions
  have b3 := hv.out.orders
  have b4 := hv.out.age
  have b5 := hv.out.feed
  have b6 := hv.out.pipe
  obtain ⟨b1, b1'⟩ := b1
  obtain ⟨b2, b2'⟩ := b2
  obtain ⟨b3, b3'⟩ := b3
  obtain ⟨b4, b4'⟩ := b4
  obtain ⟨b5, b5'⟩ := b5
  have m1 : IntKind.i64.wrap ((p.top + 1) * (p.positions + 1)) = (p.top + 1) * (p.positions + 1) := wrap_id (by omega) (by omega)
  have m2 : IntKind.i64.wrap ((p.top + 1) * (p.positions + 1) * (p.orders + 1)) = (p.top + 1) * (p.positions + 1) * (p.orders + 1) := wrap_id (by omega) (by omega)
  have m3 : IntKind.i64.wrap ((p.top + 1) * (p.positions + 1) * (p.orders + 1) * (p.age + 1)) = p.sizeI := wrap_id (x := p.sizeI) (by omega) (by omega)
  have m4 : IntKind.i64.wrap (p.sizeI * (p.feed + 1)) = p.sizeI * (p.feed + 1) := wrap_id (by omega) (by omega)
  have m5 : IntKind.i64.wrap (p.sizeI * (p.feed + 1) * (p.feed + 1)) = p.sizeI * (p.feed + 1) * (p.feed + 1) := wrap_id (by omega) (by omega)
  have hc : (p.pipe = 0 ∧ Hid (p.countI = p.sizeI)) ∨ (p.pipe = 1 ∧ Hid (p.countI = p.sizeI * (p.feed + 1))) ∨ (p.pipe = 2 ∧ Hid (p.countI = p.sizeI * (p.feed + 1) * (p.feed + 1))) := by
    rcases (show p.pipe = 0 ∨ p.pipe = 1 ∨ p.pipe = 2 by omega) with h | h | h
    · exact .inl ⟨h, by rw [Hid, Pl.countI, if_pos h]⟩
    · exact .inr (.inl ⟨h, by rw [Hid, Pl.countI, if_neg (by omega), if_pos h]⟩)
    · exact .inr (.inr ⟨h, by rw [Hid, Pl.countI, if_neg (by omega), if_neg (by omega)]⟩)
  clear a1 a2 a3 a4 a5 a6 a7 a8 a9 a10 b6
  rcases hc with ⟨hp, hc⟩ | ⟨hp, hc⟩ | ⟨hp, hc⟩
  · go_enter Try.func53, Try.ntmps53
    go_wp2
    refine wp_loop_rounds 1 ?_
    rw [rounds_succ]; go_wp2
    go_ret
    exact ⟨by rw [hc.out]; rfl, (Below.refl _ _).alloc (Nat.le_refl _) _⟩
  · go_enter Try.func53, Try.ntmps53
    go_wp2
    refine wp_loop_rounds 2 ?_
    rw [rounds_succ]; go_wp2; rw [rounds_succ]; go_wp2
    go_ret
    exact ⟨by rw [hc.out]; rfl, (Below.refl _ _).alloc (Nat.le_refl _) _⟩
  · go_enter Try.func53, Try.ntmps53
    go_wp2
    refine wp_loop_rounds 3 ?_
    rw [rounds_succ]; go_wp2; rw [rounds_succ]; go_wp2; rw [rounds_succ]; go_wp2
    go_ret
    exact ⟨by rw [hc.out]; rfl, (Below.refl _ _).alloc (Nat.le_refl _) _⟩
theorem rcount_any (p : Pl) (hv : Hid p.Valid) (w : World) : Calls Try.prog 62 #[p.v] w fun e w' => e = .returned (.int .i64 p.countI) ∧ Below w.heap.size w w' := by
  obtain ⟨⟨a1, a2⟩, ⟨a3, a4⟩, ⟨a5, a6⟩, ⟨a7, a8⟩, a9, a10⟩ := Pl.sizes hv.out
  have b1 := hv.out.top
  have b2 := hv.out.positions
  have b3 := hv.out.orders
  have b4 := hv.out.age
  have b5 := hv.out.feed
  have b6 := hv.out.pipe
  obtain ⟨b1, b1'⟩ := b1
  obtain ⟨b2, b2'⟩ := b2
  obtain ⟨b3, b3'⟩ := b3
  obtain ⟨b4, b4'⟩ := b4
  obtain ⟨b5, b5'⟩ := b5
  have m1 : IntKind.i64.wrap ((p.top + 1) * (p.positions + 1)) = (p.top + 1) * (p.positions + 1) := wrap_id (by omega) (by omega)
  have m2 : IntKind.i64.wrap ((p.top + 1) * (p.positions + 1) * (p.orders + 1)) = (p.top + 1) * (p.positions + 1) * (p.orders + 1) := wrap_id (by omega) (by omega)
  have m3 : IntKind.i64.wrap ((p.top + 1) * (p.positions + 1) * (p.orders + 1) * (p.age + 1)) = p.sizeI := wrap_id (x := p.sizeI) (by omega) (by omega)
  have m4 : IntKind.i64.wrap (p.sizeI * (p.feed + 1)) = p.sizeI * (p.feed + 1) := wrap_id (by omega) (by omega)
  have m5 : IntKind.i64.wrap (p.sizeI * (p.feed + 1) * (p.feed + 1)) = p.sizeI * (p.feed + 1) * (p.feed + 1) := wrap_id (by omega) (by omega)
  have hc : (p.pipe = 0 ∧ Hid (p.countI = p.sizeI)) ∨ (p.pipe = 1 ∧ Hid (p.countI = p.sizeI * (p.feed + 1))) ∨ (p.pipe = 2 ∧ Hid (p.countI = p.sizeI * (p.feed + 1) * (p.feed + 1))) := by
    rcases (show p.pipe = 0 ∨ p.pipe = 1 ∨ p.pipe = 2 by omega) with h | h | h
    · exact .inl ⟨h, by rw [Hid, Pl.countI, if_pos h]⟩
    · exact .inr (.inl ⟨h, by rw [Hid, Pl.countI, if_neg (by omega), if_pos h]⟩)
    · exact .inr (.inr ⟨h, by rw [Hid, Pl.countI, if_neg (by omega), if_neg (by omega)]⟩)
  clear a1 a2 a3 a4 a5 a6 a7 a8 a9 a10 b6
  rcases hc with ⟨hp, hc⟩ | ⟨hp, hc⟩ | ⟨hp, hc⟩
  · go_enter Try.func62, Try.ntmps62
    go_wp2
    refine wp_loop_rounds 1 ?_
    rw [rounds_succ]; go_wp2
    go_ret
    exact ⟨by rw [hc.out]; rfl, (Below.refl _ _).alloc (Nat.le_refl _) _⟩
  · go_enter Try.func62, Try.ntmps62
    go_wp2
    refine wp_loop_rounds 2 ?_
    rw [rounds_succ]; go_wp2; rw [rounds_succ]; go_wp2
    go_ret
    exact ⟨by rw [hc.out]; rfl, (Below.refl _ _).alloc (Nat.le_refl _) _⟩
  · go_enter Try.func62, Try.ntmps62
    go_wp2
    refine wp_loop_rounds 3 ?_
    rw [rounds_succ]; go_wp2; rw [rounds_succ]; go_wp2; rw [rounds_succ]; go_wp2
    go_ret
    exact ⟨by rw [hc.out]; rfl, (Below.refl _ _).alloc (Nat.le_refl _) _⟩
theorem ixP (p : Pl) (k : Nat) (hk : k < 12) (w : World) :
    (Instr.index 112 (.agg #[.int .i64 p.top, .int .i64 1, .int .i64 63, .int .i64 p.bank, .int .i64 0, .int .i64 (p.top - 1), .int .i64 p.siphon, .int .i64 0, .int .i64 p.bank, .int .i64 p.start, .int .i64 0, .int .i64 p.top, .int .i64 p.positions, .int .i64 1, .int .i64 15,
      .int .i64 p.rate, .int .i64 1, .int .i64 15, .int .i64 p.step, .int .i64 1, .int .i64 15, .int .i64 p.pass, .int .i64 0, .int .i64 1048576, .int .i64 p.feed, .int .i64 0, .int .i64 15, .int .i64 p.pipe, .int .i64 0, .int .i64 2, .int .i64 p.orders, .int .i64 0, .int .i64 7, .int .i64 p.age, .int .i64 0, .int .i64 7]) (.int .i64 (k : Int))).run Try.prog w =
      .ok (.agg #[.int .i64 (p.bounds.getD k (0, 0, 0)).1, .int .i64 (p.bounds.getD k (0, 0, 0)).2.1, .int .i64 (p.bounds.getD k (0, 0, 0)).2.2]) w := by
  rcases (show k = 0 ∨ k = 1 ∨ k = 2 ∨ k = 3 ∨ k = 4 ∨ k = 5 ∨ k = 6 ∨ k = 7 ∨ k = 8 ∨ k = 9 ∨ k = 10 ∨ k = 11 by omega) with rfl | rfl | rfl | rfl | rfl | rfl | rfl | rfl | rfl | rfl | rfl | rfl
  all_goals kernel_rfl
theorem Pl.bounds_take (p : Pl) (k : Nat) (hk : k < 12) : ((p.bounds.take (k + 1)).all fun t => inI t.1 t.2.1 t.2.2) = ((p.bounds.take k).all (fun t => inI t.1 t.2.1 t.2.2) && inI (p.bounds.getD k (0, 0, 0)).1 (p.bounds.getD k (0, 0, 0)).2.1 (p.bounds.getD k (0, 0, 0)).2.2) := by
  have hl : k < p.bounds.length := hk
  rw [List.take_succ_eq_append_getElem hl, List.all_append]
  simp [List.getD_eq_getElem?_getD, List.getElem?_eq_getElem hl]
theorem Pl.bounds_bad {p : Pl} {k : Nat} (hk : k < 12) (h : inI (p.bounds.getD k (0, 0, 0)).1 (p.bounds.getD k (0, 0, 0)).2.1 (p.bounds.getD k (0, 0, 0)).2.2 = false) : p.validB = false := by
  rw [Pl.bounds_all]
  have hl : k < p.bounds.length := hk
  have : p.bounds.getD k (0, 0, 0) ∈ p.bounds := by simp [List.getD_eq_getElem?_getD, List.getElem?_eq_getElem hl]
  rw [List.all_eq_false]
  exact ⟨_, this, by rw [h]; decide⟩
theorem ixP0 (p : Pl) (m : Int) (w : World) :
    (Instr.index 112 (.agg #[.int .i64 p.top, .int .i64 1, .int .i64 63, .int .i64 p.bank, .int .i64 0, .int .i64 m, .int .i64 p.siphon, .int .i64 0, .int .i64 p.bank, .int .i64 p.start, .int .i64 0, .int .i64 p.top, .int .i64 p.positions, .int .i64 1, .int .i64 15,
      .int .i64 p.rate, .int .i64 1, .int .i64 15, .int .i64 p.step, .int .i64 1, .int .i64 15, .int .i64 p.pass, .int .i64 0, .int .i64 1048576, .int .i64 p.feed, .int .i64 0, .int .i64 15, .int .i64 p.pipe, .int .i64 0, .int .i64 2, .int .i64 p.orders, .int .i64 0, .int .i64 7, .int .i64 p.age, .int .i64 0, .int .i64 7]) (.int .i64 0)).run Try.prog w =
      .ok (.agg #[.int .i64 p.top, .int .i64 1, .int .i64 63]) w := by kernel_rfl
theorem Pl.invalid_top {p : Pl} (h : p.top < 1 ∨ 63 < p.top) : p.validB = false := decide_eq_false fun v => by have := v.top; omega
theorem Pl.check_bad {p : Pl} (h : p.validB = false) : p.checkT = 320 := by rw [Pl.checkT, h]; rfl
end Go.Proofs.Ytancngachnpefaa
namespace Go.Proofs.Ytancngachnpefaa
open Go.RowKit
theorem within_any (n lo hi : Int) (w : World) : Calls Try.prog 73 #[.int .i64 n, .int .i64 lo, .int .i64 hi] w fun e w' => e = .returned (.bool (inI n lo hi)) ∧ w = w' := by
  by_cases h1 : lo ≤ n
  · by_cases h2 : n ≤ hi
    · go_enter Try.func73, Try.ntmps73
      go_wp2
      go_ret
      exact ⟨by rw [inI, decide_eq_true ⟨h1, h2⟩]; rfl, rfl⟩
    · go_enter Try.func73, Try.ntmps73
      go_wp2
      go_ret
      exact ⟨by rw [inI, decide_eq_false (by omega)]; rfl, rfl⟩
  · go_enter Try.func73, Try.ntmps73
    go_wp2
    go_ret
    exact ⟨by rw [inI, decide_eq_false (by omega)]; rfl, rfl⟩
theorem Pl.validB_eq (p : Pl) : p.validB = (inI p.top 1 63 && (inI p.bank 0 (p.top - 1) && (inI p.siphon 0 p.bank && (inI p.start 0 p.top && (inI p.positions 1 15 && (inI p.rate 1 15 && (inI p.step 1 15 && (inI p.pass 0 1048576 && (inI p.feed 0 15 && (inI p.pipe 0 2 && (inI p.orders 0 7 && inI p.age 0 7))))))))))) := by
  rw [Pl.bounds_all]
  simp [Pl.bounds]
theorem top_wrap {p : Pl} {m : Int} (hm : Hid (IntKind.i64.wrap (p.top - 1) = m)) (h : inI p.top 1 63 = true) : m = p.top - 1 := by
  have := inI_yes h
  rw [← hm.out]
  exact wrap_id (by omega) (by omega)
theorem valid_any (p : Pl) (w : World) : Calls Try.prog 61 #[p.v] w fun e w' => e = .returned (.bool p.validB) ∧ Below w.heap.size w w' := by
  obtain ⟨m, hm⟩ : ∃ m, IntKind.i64.wrap (p.top - 1) = m := ⟨_, rfl⟩
  have Hm := Lib.hid hm
  go_enter Try.func61, Try.ntmps61
  go_wp2_with (go_at_call 73; refine (within_any _ _ _ _).mono ?_; rintro e w' ⟨rfl, rfl⟩)
  all_goals
    go_ret
    refine ⟨?_, (Below.refl _ _).alloc (Nat.le_refl _) _⟩
    rw [Pl.validB_eq]
    first | (rw [← top_wrap Hm (by assumption)]; simp_all) | simp_all
theorem rcheck_any (p : Pl) (w : World) : Calls Try.prog 32 #[p.v] w fun e w' => e = .returned (.int .i64 p.checkT) ∧ Below w.heap.size w w' := by
  rcases hv : p.validB with _ | _
  · have hc := Lib.hid (Pl.check_bad hv)
    go_enter Try.func32, Try.ntmps32
    go_wp2_with fail
    refine (valid_any p _).mono ?_
    rw [hv]
    rintro e w1 ⟨rfl, hb⟩
    clear hv
    go_wp2
    go_ret
    exact ⟨by rw [hc.out]; rfl, ((Below.refl _ _).alloc (Nat.le_refl _) _).trans (hb.mono (by simp))⟩
  · have hcz : Hid (p.checkT = if 4096 < p.countI then 2 else 0) := by rw [Hid, Pl.checkT, if_pos hv]
    have HV := Lib.hid (Pl.valid_of hv)
    go_enter Try.func32, Try.ntmps32
    go_wp2_with fail
    refine (valid_any p _).mono ?_
    rw [hv]
    rintro e w1 ⟨rfl, hb⟩
    clear hv
    have X := (Box.new w p.cells 23).later hb
    have hB := ((Below.refl w.heap.size w).alloc (Nat.le_refl _) _).trans (hb.mono (by simp))
    clear hb
    obtain ⟨c0, c1, c2, c3, c4, c5, c6, c7, c8, c9, c10, c11⟩ := X.c12
    go_wp2_with fail
    refine (rcount_any p HV _).mono ?_
    rintro e w2 ⟨rfl, hb2⟩
    by_cases hc : 4096 < p.countI
    · go_wp2
      go_ret
      exact ⟨by rw [hcz.out, if_pos hc]; rfl, hB.trans (hb2.mono hB.size)⟩
    · go_wp2
      go_ret
      exact ⟨by rw [hcz.out, if_neg (by omega)]; rfl, hB.trans (hb2.mono hB.size)⟩
end Go.Proofs.Ytancngachnpefaa
namespace Go.Proofs.Ytancngachnpefaa
open Go.RowKit
def pairs (p : Pl) (s : St) (m0 m1 : Int) : List (Int × Int) := [(s.level, p.top), (s.position, p.positions), (s.p0, m0), (s.p1, m1), (s.order, p.orders), (s.age, p.age)]
theorem ixS (p : Pl) (s : St) (m0 m1 : Int) (k : Nat) (hk : k < 6) (w : World) :
    (Instr.index 129 (.agg #[.int .i64 s.level, .int .i64 p.top, .int .i64 s.position, .int .i64 p.positions, .int .i64 s.p0, .int .i64 m0, .int .i64 s.p1, .int .i64 m1, .int .i64 s.order, .int .i64 p.orders, .int .i64 s.age, .int .i64 p.age]) (.int .i64 (k : Int))).run Try.prog w =
      .ok (.agg #[.int .i64 ((pairs p s m0 m1).getD k (0, 0)).1, .int .i64 ((pairs p s m0 m1).getD k (0, 0)).2]) w := by
  rcases (show k = 0 ∨ k = 1 ∨ k = 2 ∨ k = 3 ∨ k = 4 ∨ k = 5 by omega) with rfl | rfl | rfl | rfl | rfl | rfl
  all_goals kernel_rfl
def pairsB (l : List (Int × Int)) : Bool := l.all fun t => inI t.1 0 t.2
theorem pairs_take {l : List (Int × Int)} {k : Nat} (hk : k < l.length) : pairsB (l.take (k + 1)) = (pairsB (l.take k) && inI (l.getD k (0, 0)).1 0 (l.getD k (0, 0)).2) := by
  unfold pairsB
  rw [List.take_succ_eq_append_getElem hk, List.all_append]
  simp [List.getD_eq_getElem?_getD, List.getElem?_eq_getElem hk]
theorem pairs_bad {l : List (Int × Int)} {k : Nat} (hk : k < l.length) (h : inI (l.getD k (0, 0)).1 0 (l.getD k (0, 0)).2 = false) : pairsB l = false := by
  have : l.getD k (0, 0) ∈ l := by simp [List.getD_eq_getElem?_getD, List.getElem?_eq_getElem hk]
  unfold pairsB
  rw [List.all_eq_false]
  exact ⟨_, this, by rw [h]; decide⟩
theorem Pl.hasB_pairs (p : Pl) (s : St) : p.hasB s = pairsB (pairs p s (if 0 < p.pipe then p.feed else 0) (if 1 < p.pipe then p.feed else 0)) := by
  simp [Pl.hasB, pairsB, pairs]
theorem belongs_0 (p : Pl) (s : St) (w : World) (hp : p.pipe = 0) : Calls Try.prog 54 #[p.v, s.v] w fun e w' => e = .returned (.bool (pairsB (pairs p s 0 0))) ∧ Below w.heap.size w w' := by
  go_enter Try.func54, Try.ntmps54
  go_wp2_with fail
  refine wp_loop_rounds 1 ?_
  rw [rounds_succ]; go_wp2_with fail
  go_loopw [53] (fun i wr => ∃ k : Nat, k ≤ 6 ∧ i = .int .i64 k ∧ Below w.heap.size w wr ∧ Hid (pairsB ((pairs p s 0 0).take k) = true)) (fun i _ => (6 - intOf i).toNat)
  case atStart => exact ⟨0, by omega, rfl, by repeat (first | exact Below.refl _ _ | refine Below.alloc ?_ (by simp <;> omega) _), rfl⟩
  case round =>
    obtain ⟨k, hk, rfl, hb, hall⟩ := hrel
    by_cases hlt : k < 6
    · obtain ⟨⟨x, hi⟩, ht⟩ : ∃ t, (pairs p s 0 0).getD k (0, 0) = t := ⟨_, rfl⟩
      have hix := ixS p s 0 0 k hlt
      have hbad := pairs_bad (l := pairs p s 0 0) (k := k) hlt
      have htk := pairs_take (l := pairs p s 0 0) (k := k) hlt
      rw [ht] at hix hbad htk
      rw [hall.out, Bool.true_and] at htk
      have hbad := Lib.hid hbad
      have htk := Lib.hid htk
      clear ht
      go_wp2
      case roundEnd =>
        have h1 : 0 ≤ x ∧ x ≤ hi := by assumption
        refine ⟨⟨k + 1, by omega, by go_num, hb.alloc hb.size _, ?_⟩, by simp [intOf]; omega⟩
        rw [Hid, htk.out]
        exact decide_eq_true h1
      all_goals
        go_ret
        refine ⟨?_, hb.alloc hb.size _⟩
        rw [hbad.out (decide_eq_false (by omega))]
        rfl
    · obtain rfl : k = 6 := by omega
      go_wp2
      go_ret
      refine ⟨?_, hb⟩
      rw [show pairsB (pairs p s 0 0) = true from hall.out]
      rfl
theorem belongs_1 (p : Pl) (s : St) (w : World) (hp : p.pipe = 1) : Calls Try.prog 54 #[p.v, s.v] w fun e w' => e = .returned (.bool (pairsB (pairs p s p.feed 0))) ∧ Below w.heap.size w w' := by
  go_enter Try.func54, Try.ntmps54
  go_wp2_with fail
  refine wp_loop_rounds 2 ?_
  rw [rounds_succ]; go_wp2_with fail; rw [rounds_succ]; go_wp2_with fail
  go_loopw [53] (fun i wr => ∃ k : Nat, k ≤ 6 ∧ i = .int .i64 k ∧ Below w.heap.size w wr ∧ Hid (pairsB ((pairs p s p.feed 0).take k) = true)) (fun i _ => (6 - intOf i).toNat)
  case atStart => exact ⟨0, by omega, rfl, by repeat (first | exact Below.refl _ _ | refine Below.alloc ?_ (by simp <;> omega) _), rfl⟩
  case round =>
    obtain ⟨k, hk, rfl, hb, hall⟩ := hrel
    by_cases hlt : k < 6
    · obtain ⟨⟨x, hi⟩, ht⟩ : ∃ t, (pairs p s p.feed 0).getD k (0, 0) = t := ⟨_, rfl⟩
      have hix := ixS p s p.feed 0 k hlt
      have hbad := pairs_bad (l := pairs p s p.feed 0) (k := k) hlt
      have htk := pairs_take (l := pairs p s p.feed 0) (k := k) hlt
      rw [ht] at hix hbad htk
      rw [hall.out, Bool.true_and] at htk
      have hbad := Lib.hid hbad
      have htk := Lib.hid htk
      clear ht
      go_wp2
      case roundEnd =>
        have h1 : 0 ≤ x ∧ x ≤ hi := by assumption
        refine ⟨⟨k + 1, by omega, by go_num, hb.alloc hb.size _, ?_⟩, by simp [intOf]; omega⟩
        rw [Hid, htk.out]
        exact decide_eq_true h1
      all_goals
        go_ret
        refine ⟨?_, hb.alloc hb.size _⟩
        rw [hbad.out (decide_eq_false (by omega))]
        rfl
    · obtain rfl : k = 6 := by omega
      go_wp2
      go_ret
      refine ⟨?_, hb⟩
      rw [show pairsB (pairs p s p.feed 0) = true from hall.out]
      rfl
theorem belongs_2 (p : Pl) (s : St) (w : World) (hp : p.pipe = 2) : Calls Try.prog 54 #[p.v, s.v] w fun e w' => e = .returned (.bool (pairsB (pairs p s p.feed p.feed))) ∧ Below w.heap.size w w' := by
  go_enter Try.func54, Try.ntmps54
  go_wp2_with fail
  refine wp_loop_rounds 3 ?_
  rw [rounds_succ]; go_wp2_with fail; rw [rounds_succ]; go_wp2_with fail; rw [rounds_succ]; go_wp2_with fail
  go_loopw [53] (fun i wr => ∃ k : Nat, k ≤ 6 ∧ i = .int .i64 k ∧ Below w.heap.size w wr ∧ Hid (pairsB ((pairs p s p.feed p.feed).take k) = true)) (fun i _ => (6 - intOf i).toNat)
  case atStart => exact ⟨0, by omega, rfl, by repeat (first | exact Below.refl _ _ | refine Below.alloc ?_ (by simp <;> omega) _), rfl⟩
  case round =>
    obtain ⟨k, hk, rfl, hb, hall⟩ := hrel
    by_cases hlt : k < 6
    · obtain ⟨⟨x, hi⟩, ht⟩ : ∃ t, (pairs p s p.feed p.feed).getD k (0, 0) = t := ⟨_, rfl⟩
      have hix := ixS p s p.feed p.feed k hlt
      have hbad := pairs_bad (l := pairs p s p.feed p.feed) (k := k) hlt
      have htk := pairs_take (l := pairs p s p.feed p.feed) (k := k) hlt
      rw [ht] at hix hbad htk
      rw [hall.out, Bool.true_and] at htk
      have hbad := Lib.hid hbad
      have htk := Lib.hid htk
      clear ht
      go_wp2
      case roundEnd =>
        have h1 : 0 ≤ x ∧ x ≤ hi := by assumption
        refine ⟨⟨k + 1, by omega, by go_num, hb.alloc hb.size _, ?_⟩, by simp [intOf]; omega⟩
        rw [Hid, htk.out]
        exact decide_eq_true h1
      all_goals
        go_ret
        refine ⟨?_, hb.alloc hb.size _⟩
        rw [hbad.out (decide_eq_false (by omega))]
        rfl
    · obtain rfl : k = 6 := by omega
      go_wp2
      go_ret
      refine ⟨?_, hb⟩
      rw [show pairsB (pairs p s p.feed p.feed) = true from hall.out]
      rfl
theorem belongs_any (p : Pl) (s : St) (w : World) (hv : 0 ≤ p.pipe ∧ p.pipe ≤ 2) : Calls Try.prog 54 #[p.v, s.v] w fun e w' => e = .returned (.bool (p.hasB s)) ∧ Below w.heap.size w w' := by
  rw [Pl.hasB_pairs]
  rcases (show p.pipe = 0 ∨ p.pipe = 1 ∨ p.pipe = 2 by omega) with h | h | h
  · rw [if_neg (by omega), if_neg (by omega)]; exact belongs_0 p s w h
  · rw [if_pos (by omega), if_neg (by omega)]; exact belongs_1 p s w h
  · rw [if_pos (by omega), if_pos (by omega)]; exact belongs_2 p s w h
end Go.Proofs.Ytancngachnpefaa
