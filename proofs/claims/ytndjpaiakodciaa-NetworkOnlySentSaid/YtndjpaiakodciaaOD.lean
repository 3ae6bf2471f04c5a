/-
  Stores of a net into a block of two slices; rows of integers. No condition.
-/
import Derived.Test.YtndjpaiakodciaaOB
namespace Go.Proofs.Ytndjpaiakodciaa
open Go.RowKit

/-- A store into a block that holds two slices touches no slice whose elements begin with a number. -/
theorem Sl.set_net {w : World} {B size n : Nat} {g : Nat → Nat → Value} {v : Value} (h : Sl w B size n g v) (hs : 0 < size) (hi : ∀ i, i < n → ∃ k z, g i 0 = .int k z) {x : Nat} {A1 A2 : Option Addr} {k1 c1 k2 c2 : Nat}
    (hx : Box w x [.slice A1 k1 c1, .slice A2 k2 c2]) (j : Nat) (u : Value) : Sl (w.setCell ⟨x, j, none⟩ u) B size n g v := by
  obtain ⟨A, c, hv, hm, h1⟩ := h
  refine ⟨A, c, hv, hm, fun i hin => ?_⟩
  obtain ⟨b, off, ha, hb, h3⟩ := h1 i hin
  have hne : b ≠ x := by
    rintro rfl
    have h4 := h3 0 hs
    rw [hx.cell] at h4
    obtain ⟨k, z, e⟩ := hi i hin
    rw [e] at h4
    generalize off + (i * size + 0) = m at h4
    match m with
    | 0 => simp at h4
    | 1 => simp at h4
    | m + 2 => simp at h4
  exact ⟨b, off, ha, hb, fun q hq => by rw [World.cell?_of_block (w := w) (Below.heap_setCell w ⟨x, j, none⟩ u b hne)]; exact h3 q hq⟩
theorem BytesAt.set_net {w : World} {B : Nat} {v : Value} {l : List UInt8} (h : BytesAt w B v l) {x : Nat} {A1 A2 : Option Addr} {k1 c1 k2 c2 : Nat} (hx : Box w x [.slice A1 k1 c1, .slice A2 k2 c2]) (j : Nat) (u : Value) : BytesAt (w.setCell ⟨x, j, none⟩ u) B v l :=
  Sl.set_net h (by decide) (fun i _ => ⟨_, _, rfl⟩) hx j u
theorem NetAt.set_net {w : World} {B : Nat} {Vq Va : Value} {n : Net} (h : NetAt w B Vq Va n) {x : Nat} {A1 A2 : Option Addr} {k1 c1 k2 c2 : Nat} (hx : Box w x [.slice A1 k1 c1, .slice A2 k2 c2]) (j : Nat) (u : Value) : NetAt (w.setCell ⟨x, j, none⟩ u) B Vq Va n := by
  obtain ⟨f, V, s, b⟩ := h.queue
  exact ⟨⟨f, V, s.set_net (by decide) (fun i _ => ⟨_, _, rfl⟩) hx j u, fun i p hp => (b i p hp).set_net hx j u⟩, ⟨h.apart.1, h.apart.2.set_net (by decide) (fun i _ => ⟨_, _, rfl⟩) hx j u⟩⟩
/-- Both cells of such a block are stored. -/
theorem net_set {w : World} {Vq Va : Value} {n : Net} (h : Hid (NetAt w w.heap.size Vq Va n)) {x : Nat} {A1 A2 B1 B2 : Option Addr} {k1 c1 k2 c2 l1 d1 l2 d2 : Nat} (hx : Box w x [.slice A1 k1 c1, .slice A2 k2 c2]) :
    Hid (NetAt ((w.setCell ⟨x, 0, none⟩ (.slice B1 l1 d1)).setCell ⟨x, 1, none⟩ (.slice B2 l2 d2)) ((w.setCell ⟨x, 0, none⟩ (.slice B1 l1 d1)).setCell ⟨x, 1, none⟩ (.slice B2 l2 d2)).heap.size Vq Va n) := by
  have h2 := (h.out.set_net hx 0 (.slice B1 l1 d1)).set_net (hx.set 0 (.slice B1 l1 d1)) 1 (.slice B2 l2 d2)
  exact h2.more (by simp)
theorem bytes_set {w : World} {V : Value} {l : List UInt8} (h : Hid (BytesAt w w.heap.size V l)) {x : Nat} {A1 A2 B1 B2 : Option Addr} {k1 c1 k2 c2 l1 d1 l2 d2 : Nat} (hx : Box w x [.slice A1 k1 c1, .slice A2 k2 c2]) :
    Hid (BytesAt ((w.setCell ⟨x, 0, none⟩ (.slice B1 l1 d1)).setCell ⟨x, 1, none⟩ (.slice B2 l2 d2)) ((w.setCell ⟨x, 0, none⟩ (.slice B1 l1 d1)).setCell ⟨x, 1, none⟩ (.slice B2 l2 d2)).heap.size V l) := by
  have h2 := (h.out.set_net hx 0 (.slice B1 l1 d1)).set_net (hx.set 0 (.slice B1 l1 d1)) 1 (.slice B2 l2 d2)
  exact h2.more (by simp)

/-- Integers. -/
def intCells (l : List Int) (i _ : Nat) : Value := .int .i64 (l.getD i 0)
theorem info_i : (Try.prog.info? 3).map (fun i => (i.zero, i.size, i.bytes)) = some (some (.int .i64 0), 1, 8) := by kernel_rfl
theorem elem_i : ∃ i, Elem 45 3 i (.int .i64 0) 1 8 := by
  obtain ⟨i, hi, h0, h1, h2⟩ := info_parts info_i
  exact ⟨i, Try.underlying45, hi, h0, h1, h2, rfl, by decide⟩
/-- v is a slice of integers that owns its row. -/
def OwnI (w : World) (base : Nat) (v : Value) (l : List Int) : Prop := w.ownsRow base 3 1 v l.length (flat l.length 1 (intCells l))
theorem intCells_cat (q r : List Int) (i j : Nat) : cat q.length (intCells q) (intCells r) i j = intCells (q ++ r) i j := by
  unfold cat intCells
  by_cases h : i < q.length
  · simp only [if_pos h, List.getD_eq_getElem?_getD, List.getElem?_append_left h]
  · simp only [if_neg h, List.getD_eq_getElem?_getD, List.getElem?_append_right (show q.length ≤ i by omega)]
theorem run_own_i (ty : TypeId) {w : World} {base b : Nat} {v : Value} {l : List Int} {x : Int} (hl : OwnI w base v l) (hX : Box w b [.int .i64 x]) (hbase : base ≤ w.heap.size) (hsz : l.length + 1 ≤ 1048576) :
    ∃ v' w', (Builtin.append_ #[45, 45] ty #[v, .slice (some ⟨b, 0, none⟩) 1 1]).run Try.prog w = .ok v' w' ∧ OwnI w' base v' (l ++ [x]) ∧ Below base w w' ∧ w.grownBy w' v.ownBlock := by
  obtain ⟨i, E⟩ := elem_i
  have hrow := World.ownsRow.lt hl
  have hs : Sl w w.heap.size 1 [x].length (intCells [x]) (.slice (some ⟨b, 0, none⟩) 1 1) := by
    refine ⟨_, _, rfl, by simp [maxLen], fun i hi => ⟨b, 0, rfl, hX.lt, fun j hj => ?_⟩⟩
    obtain rfl : i = 0 := by simpa using hi
    obtain rfl : j = 0 := by omega
    exact hX.cell 0
  obtain ⟨v', w', hrun, o3, hg⟩ := run_app_own E ty hl hs (.inr ⟨_, _, _, rfl, Nat.le_refl _, by simp [maxLen]⟩) (fun k j _ _ => rfl) (by simp only [maxLen, List.length_cons, List.length_nil]; omega) (by simp only [List.length_cons, List.length_nil]; omega) hbase
  refine ⟨v', w', hrun, ?_, (Below.refl base w).grown hg hbase (fun k hk => (hrow k hk).1), hg⟩
  rw [flat_congr (by decide) (fun i j _ _ => intCells_cat l [x] i j)] at o3
  unfold OwnI
  rw [List.length_append]
  exact o3
theorem ownI_one (w : World) (x : Int) : OwnI (w.alloc (.cells #[.int .i64 x] 3)) w.heap.size (.slice (some ⟨w.heap.size, 0, none⟩) 1 1) [x] := by
  refine ⟨rfl, .inr ⟨w.heap.size, 1, #[.int .i64 x], rfl, Nat.le_refl _, World.alloc_heap_new w _, by simp, by simp [maxLen], rfl, by simp [flat, intCells]⟩⟩
theorem OwnI.later {w w' : World} {base : Nat} {v : Value} {l : List Int} (h : OwnI w base v l) (hb : Below w.heap.size w w') : OwnI w' base v l :=
  World.ownsRow.kept h (grown_none hb) (Classical.em _)
/-- Its elements are read. -/
theorem OwnI.at {w : World} {base : Nat} {v : Value} {l : List Int} (h : OwnI w base v l) (h0 : 0 < l.length) : ∃ g c, v = .slice (some ⟨g, 0, none⟩) l.length c ∧ g < w.heap.size ∧ ∀ k, k < l.length → w.cell? ⟨g, k, none⟩ = some (.int .i64 (l.getD k 0)) := by
  rcases h.2 with ⟨rfl, h1⟩ | ⟨g, cap, cur, rfl, _, hg, _⟩
  · omega
  · refine ⟨g, cap, rfl, (Array.getElem?_eq_some_iff.1 hg).1, fun k hk => ?_⟩
    have := World.ownsRow.cells h (g := g) rfl _ _ (flat_at (intCells l) hk (show 0 < 1 by decide))
    rw [add_at] at this
    simp only [Nat.mul_one, Nat.add_zero, Nat.zero_add] at this
    exact this

/-- v is a slice of the integers l. -/
def IntsAt (w : World) (B : Nat) (v : Value) (l : List Int) : Prop := Sl w B 1 l.length (intCells l) v
theorem ints_later {w w' : World} {v : Value} {l : List Int} (h : Hid (IntsAt w w.heap.size v l)) (hb : Below w.heap.size w w') : Hid (IntsAt w' w'.heap.size v l) := Sl.later h.out hb
theorem ints_set {w : World} {v : Value} {l : List Int} (h : Hid (IntsAt w w.heap.size v l)) {x : Nat} {A1 A2 B1 B2 : Option Addr} {k1 c1 k2 c2 l1 d1 l2 d2 : Nat} (hx : Box w x [.slice A1 k1 c1, .slice A2 k2 c2]) :
    Hid (IntsAt ((w.setCell ⟨x, 0, none⟩ (.slice B1 l1 d1)).setCell ⟨x, 1, none⟩ (.slice B2 l2 d2)) ((w.setCell ⟨x, 0, none⟩ (.slice B1 l1 d1)).setCell ⟨x, 1, none⟩ (.slice B2 l2 d2)).heap.size v l) := by
  have h2 := (Sl.set_net h.out (by decide) (fun i _ => ⟨_, _, rfl⟩) hx 0 (.slice B1 l1 d1)).set_net (by decide) (fun i _ => ⟨_, _, rfl⟩) (hx.set 0 (.slice B1 l1 d1)) 1 (.slice B2 l2 d2)
  exact h2.more (by simp)
theorem OwnI.ints {w : World} {base : Nat} {v : Value} {l : List Int} (h : OwnI w base v l) (hm : l.length ≤ 1000) : Hid (IntsAt w w.heap.size v l) := (own_sl h (by unfold maxLen; omega)).1
theorem IntsAt.cell {w : World} {B g n c : Nat} {l : List Int} (h : Hid (IntsAt w B (.slice (some ⟨g, 0, none⟩) n c) l)) {j : Nat} (hj : j < l.length) : w.cell? ⟨g, j, none⟩ = some (.int .i64 (l.getD j 0)) := by
  obtain ⟨A', c', hv, _, h1⟩ := h.out
  cases hv
  obtain ⟨b, off, e, _, h3⟩ := h1 j hj
  cases e
  have := h3 0 (by omega)
  simp only [Nat.mul_one, Nat.add_zero, Nat.zero_add] at this
  exact this

end Go.Proofs.Ytndjpaiakodciaa
