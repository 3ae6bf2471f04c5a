/-
  A list of packets that a law collects by append: its spare cells are zero, so that no net's cells are touched. No condition.
-/
import Derived.Test.YtndjpaiakodciaaOD
namespace Go.Proofs.Ytndjpaiakodciaa
open Go.RowKit

def restCells (q : List Pk) (V : Nat → Value) (i j : Nat) : Value := if i < q.length then pkCells q V i j else if j = 2 then .slice none 0 0 else .int .i64 0
/-- Block g holds a row for cap packets: the packets q, and zeros behind them. -/
structure RowAt (w : World) (g cap : Nat) (q : List Pk) (V : Nat → Value) : Prop where
  le : q.length ≤ cap
  cells : ∃ cur : Array Value, w.heap[g]? = some (.cells cur 28 (0, 0)) ∧ cur.size = cap * 3 ∧ ∀ i j, i < cap → j < 3 → cur[i * 3 + j]? = some (restCells q V i j)
  data : ∀ (i : Nat) (p : Pk), q[i]? = some p → BytesAt w w.heap.size (V i) p.data
def RestAt (w : World) (base : Nat) (v : Value) (q : List Pk) : Prop :=
  (v = .slice none 0 0 ∧ q = []) ∨ ∃ g cap V, v = .slice (some ⟨g, 0, none⟩) q.length cap ∧ base ≤ g ∧ cap ≤ maxLen ∧ RowAt w g cap q V
theorem RowAt.cell {w : World} {g cap : Nat} {q : List Pk} {V : Nat → Value} (h : RowAt w g cap q V) {i j : Nat} (hi : i < cap) (hj : j < 3) : w.cell? ⟨g, i * 3 + j, none⟩ = some (restCells q V i j) := by
  obtain ⟨cur, hg, _, hc⟩ := h.cells
  simp only [World.cell?, hg]
  exact hc i j hi hj
theorem RowAt.past {w : World} {g cap : Nat} {q : List Pk} {V : Nat → Value} (h : RowAt w g cap q V) {o : Nat} (ho : cap * 3 ≤ o) : w.cell? ⟨g, o, none⟩ = none := by
  obtain ⟨cur, hg, hs, _⟩ := h.cells
  simp only [World.cell?, hg]
  exact Array.getElem?_eq_none (by omega)
/-- What the cells of such a row look like. -/
theorem RowAt.kind {w : World} {g cap : Nat} {q : List Pk} {V : Nat → Value} (h : RowAt w g cap q V) {o : Nat} {u : Value} (hu : w.cell? ⟨g, o, none⟩ = some u) :
    o < cap * 3 ∧ ((o % 3 = 2 ∧ ∃ A n c, u = .slice A n c) ∨ (o % 3 ≠ 2 ∧ ∃ z, u = .int .i64 z ∧ (q.length * 3 ≤ o → z = 0))) := by
  have hlt : o < cap * 3 := by
    rcases Nat.lt_or_ge o (cap * 3) with h1 | h1
    · exact h1
    · rw [h.past h1] at hu; cases hu
  have hm := Nat.mod_lt o (show 0 < 3 by decide)
  have hd : o / 3 < cap := (Nat.div_lt_iff_lt_mul (by decide)).2 hlt
  have he : o / 3 * 3 + o % 3 = o := by omega
  have hc := h.cell hd hm
  rw [he, hu] at hc
  injection hc with hc
  refine ⟨hlt, ?_⟩
  unfold restCells at hc
  by_cases h1 : o / 3 < q.length
  · rw [if_pos h1] at hc
    unfold pkCells at hc
    rcases (show o % 3 = 0 ∨ o % 3 = 1 ∨ o % 3 = 2 by omega) with h2 | h2 | h2
    · rw [h2, if_pos rfl] at hc; exact .inr ⟨by omega, _, hc, fun h3 => by omega⟩
    · rw [h2, if_neg (by decide), if_pos rfl] at hc; exact .inr ⟨by omega, _, hc, fun h3 => by omega⟩
    · rw [h2, if_neg (by decide), if_neg (by decide)] at hc
      obtain ⟨A, c, e, _⟩ := (h.data _ _ (List.getElem?_eq_getElem h1)).form
      exact .inl ⟨h2, A, _, c, by rw [hc, e]⟩
  · rw [if_neg h1] at hc
    by_cases h2 : o % 3 = 2
    · rw [if_pos h2] at hc; exact .inl ⟨h2, _, _, _, hc⟩
    · rw [if_neg h2] at hc; exact .inr ⟨h2, _, hc, fun _ => rfl⟩

/-- Of a world all but the cells of one place of the row are kept. -/
def KeepsCells (g k : Nat) (w w' : World) : Prop := w.heap.size ≤ w'.heap.size ∧ ∀ b o, (b ≠ g ∨ o < k * 3 ∨ k * 3 + 3 ≤ o) → b < w.heap.size → w'.cell? ⟨b, o, none⟩ = w.cell? ⟨b, o, none⟩
theorem KeepsCells.bytes {g k cap : Nat} {w w' : World} {q : List Pk} {V : Nat → Value} (hk : KeepsCells g k w w') (hr : RowAt w g cap q V) {U : Value} {l : List UInt8} (h : BytesAt w w.heap.size U l) : BytesAt w' w'.heap.size U l := by
  obtain ⟨A, c, hv, hm, h1⟩ := h
  refine ⟨A, c, hv, hm, fun i hi => ?_⟩
  obtain ⟨b, off, ha, hb, h3⟩ := h1 i hi
  refine ⟨b, off, ha, Nat.lt_of_lt_of_le hb hk.1, fun j hj => ?_⟩
  rw [hk.2 b _ (.inl ?_) hb]
  · exact h3 j hj
  · rintro rfl
    rcases (hr.kind (h3 j hj)).2 with ⟨_, A, n, c, e⟩ | ⟨_, z, e, _⟩ <;> cases e
theorem KeepsCells.packets {g cap : Nat} {w w' : World} {q : List Pk} {V : Nat → Value} (hk : KeepsCells g q.length w w') (hr : RowAt w g cap q V) {U : Value} {l : List Pk} (hl : l.all Pk.okB = true) (h : PksAt w w.heap.size U l) : PksAt w' w'.heap.size U l := by
  obtain ⟨f, W, ⟨A, c, hv, hm, h1⟩, h2⟩ := h
  refine ⟨f, W, ⟨A, c, hv, hm, fun i hi => ?_⟩, fun i p hp => hk.bytes hr (h2 i p hp)⟩
  obtain ⟨b, off, ha, hb, h3⟩ := h1 i hi
  refine ⟨b, off, ha, Nat.lt_of_lt_of_le hb hk.1, fun j hj => ?_⟩
  rw [hk.2 b _ ?_ hb]
  · exact h3 j hj
  · by_cases hbg : b = g
    · subst hbg
      right
      have e : l.getD i ⟨0, 0, []⟩ = l[i] := by rw [List.getD_eq_getElem?_getD, List.getElem?_eq_getElem hi]; rfl
      have c0 := hr.kind (h3 0 (by decide))
      have c1 := hr.kind (h3 1 (by decide))
      simp only [pkCells, e] at c0 c1
      obtain ⟨l0, c0⟩ := c0
      obtain ⟨l1, c1⟩ := c1
      rcases c0 with ⟨_, _, _, _, e0⟩ | ⟨m0, z0, e0, s0⟩
      · simp at e0
      · rcases c1 with ⟨_, _, _, _, e1⟩ | ⟨m1, z1, e1, s1⟩
        · simp at e1
        · have hal : (off + (i * 3 + 0)) % 3 = 0 := by omega
          have hok := List.all_eq_true.1 hl _ (List.getElem_mem hi)
          obtain ⟨g1, g2, _⟩ := link_ok (link_of_ok hok)
          rcases Nat.lt_or_ge (off + (i * 3 + 0)) (q.length * 3) with h4 | h4
          · left; omega
          · have z0' := s0 h4
            have z1' := s1 (by omega)
            subst z0' z1'
            simp at e0 e1
            omega
    · exact .inl hbg
theorem KeepsCells.links {g cap : Nat} {w w' : World} {q : List Pk} {V : Nat → Value} (hk : KeepsCells g q.length w w') (hr : RowAt w g cap q V) {U : Value} {l : List (Int × Int)} (hl : apartB l = true) (h : LksAt w w.heap.size U l) : LksAt w' w'.heap.size U l := by
  obtain ⟨f, ⟨A, c, hv, hm, h1⟩⟩ := h
  refine ⟨f, A, c, hv, hm, fun i hi => ?_⟩
  obtain ⟨b, off, ha, hb, h3⟩ := h1 i hi
  refine ⟨b, off, ha, Nat.lt_of_lt_of_le hb hk.1, fun j hj => ?_⟩
  rw [hk.2 b _ ?_ hb]
  · exact h3 j hj
  · by_cases hbg : b = g
    · subst hbg
      right
      have e : l.getD i (0, 0) = l[i] := by rw [List.getD_eq_getElem?_getD, List.getElem?_eq_getElem hi]; rfl
      have c0 := hr.kind (h3 0 (by decide))
      have c1 := hr.kind (h3 1 (by decide))
      simp only [lkCells, e] at c0 c1
      obtain ⟨l0, c0⟩ := c0
      obtain ⟨l1, c1⟩ := c1
      rcases c0 with ⟨_, _, _, _, e0⟩ | ⟨m0, z0, e0, s0⟩
      · simp at e0
      · rcases c1 with ⟨_, _, _, _, e1⟩ | ⟨m1, z1, e1, s1⟩
        · simp at e1
        · have hok := List.all_eq_true.1 hl i (List.mem_range.2 hi)
          rw [okAt, e, Bool.and_eq_true] at hok
          obtain ⟨g1, g2, _⟩ := link_ok hok.1
          rcases Nat.lt_or_ge (off + (i * 2 + 0)) (q.length * 3) with h4 | h4
          · left; omega
          · have z0' := s0 h4
            have z1' := s1 (by omega)
            subst z0' z1'
            simp at e0 e1
            omega
    · exact .inl hbg
theorem KeepsCells.net {g cap : Nat} {w w' : World} {q : List Pk} {V : Nat → Value} (hk : KeepsCells g q.length w w') (hr : RowAt w g cap q V) {Vq Va : Value} {n : Net} (hn : n.okB = true) (h : NetAt w w.heap.size Vq Va n) : NetAt w' w'.heap.size Vq Va n :=
  ⟨hk.packets hr (okB_parts hn).2.1 h.queue, hk.links hr (okB_parts hn).2.2 h.apart⟩

end Go.Proofs.Ytndjpaiakodciaa
