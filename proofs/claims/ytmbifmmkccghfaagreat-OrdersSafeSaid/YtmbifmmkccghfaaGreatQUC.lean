/- Lists of moves of chapter 34's runs: where they lie, and their opener. No condition. -/
import Derived.Test.YtmbifmmkccghfaaGreatQVE
set_option linter.unusedVariables false
set_option linter.unusedSimpArgs false
set_option maxRecDepth 100000
namespace Go.Proofs.YtmbifmmkccghfaaGreat
open Go.ChangeShapes Go.WideShapes Go.ChangeAt Go.RowKit Go.Joins Go.Deep
def omCells (l : List Om) (i j : Nat) : Value :=
  if j = 0 then .int .u8 (l.getD i ⟨0, 0, 0, 0, 0⟩).kd else if j = 1 then .int .u8 (l.getD i ⟨0, 0, 0, 0, 0⟩).gt else if j = 2 then .int .u8 (l.getD i ⟨0, 0, 0, 0, 0⟩).od else if j = 3 then .int .u8 (l.getD i ⟨0, 0, 0, 0, 0⟩).at0 else .int .u8 (l.getD i ⟨0, 0, 0, 0, 0⟩).fd
def OmsAt (w : World) (B : Nat) (v : Value) (l : List Om) : Prop := Sl w B 5 l.length (omCells l) v ∧ ∀ x ∈ l, x.ok
theorem OmsAt.elem {w : World} {B n c : Nat} {A : Option Addr} {l : List Om} (h : OmsAt w B (.slice A n c) l) {k : Nat} (hk : k < l.length) :
    ∃ b off, A = some ⟨b, off, none⟩ ∧ b < B ∧ w.cell? ⟨b, off + k * 5, none⟩ = some (.int .u8 (l[k]).kd) ∧ w.cell? ⟨b, off + k * 5 + 1, none⟩ = some (.int .u8 (l[k]).gt) ∧ w.cell? ⟨b, off + k * 5 + 2, none⟩ = some (.int .u8 (l[k]).od) ∧ w.cell? ⟨b, off + k * 5 + 3, none⟩ = some (.int .u8 (l[k]).at0) ∧ w.cell? ⟨b, off + k * 5 + 4, none⟩ = some (.int .u8 (l[k]).fd) := by
  obtain ⟨⟨A', c', hv, _, h1⟩, _⟩ := h
  cases hv
  obtain ⟨b, off, rfl, hb, h3⟩ := h1 k hk
  have eg : l.getD k ⟨0, 0, 0, 0, 0⟩ = l[k] := by rw [List.getD_eq_getElem?_getD, List.getElem?_eq_getElem hk]; rfl
  have c0 := h3 0 (by omega)
  have c1 := h3 1 (by omega)
  have c2 := h3 2 (by omega)
  have c3 := h3 3 (by omega)
  have c4 := h3 4 (by omega)
  simp only [omCells, eg] at c0 c1 c2 c3 c4
  exact ⟨b, off, rfl, hb, c0, by rw [Nat.add_assoc]; exact c1, by rw [Nat.add_assoc]; exact c2, by rw [Nat.add_assoc]; exact c3, by rw [Nat.add_assoc]; exact c4⟩
section
variable {H : Type} {enc : TypeId × Value → H} {w : World} {base : Nat} {spare : Nat → Bool} {held : Bool}
theorem trod_oms {n : Nat} {v : Value} {y : DataW H × List MemPlace} (h : DataW.trod enc Tryz.prog w base spare held n 28 [v] = some y) : ∃ q : List Om, OmsAt w w.heap.size v q := by
  rcases open_slice_fields Tryz.underlying28 Tryz.underlying55 (by kernel_rfl) (by kernel_rfl) h with ⟨h0, _⟩ | ⟨a, len, cap, m, D, Pl, h0, hb, hl, hc, hm, _, hf⟩
  · obtain rfl : v = .slice none 0 0 := by simpa using h0
    exact ⟨[], ⟨none, 0, rfl, Nat.zero_le _, fun i hi => by simp at hi⟩, fun x hx => by cases hx⟩
  · obtain rfl : v = .slice (some a) len cap := by simpa using h0
    have hlm : len ≤ m := by rw [hm]; split <;> omega
    obtain ⟨ls, hcs, hp⟩ := exists_list (fun i (l : Om) => w.cell? (a.add (i * 5 + 0)) = some (.int .u8 l.kd) ∧ w.cell? (a.add (i * 5 + 1)) = some (.int .u8 l.gt) ∧ w.cell? (a.add (i * 5 + 2)) = some (.int .u8 l.od) ∧ w.cell? (a.add (i * 5 + 3)) = some (.int .u8 l.at0) ∧ w.cell? (a.add (i * 5 + 4)) = some (.int .u8 l.fd) ∧ l.ok) len (fun i hi => by
      obtain ⟨ys, k, _, _, _, hj⟩ := hf i (by omega)
      obtain ⟨v0, y0, e0, _, t0⟩ := hj 0 _ rfl
      obtain ⟨v1, y1, e1, _, t1⟩ := hj 1 _ rfl
      obtain ⟨v2, y2, e2, _, t2⟩ := hj 2 _ rfl
      obtain ⟨v3, y3, e3, _, t3⟩ := hj 3 _ rfl
      obtain ⟨v4, y4, e4, _, t4⟩ := hj 4 _ rfl
      obtain ⟨x0, rfl, b0⟩ := cell_int Tryz.underlying5 t0
      obtain ⟨x1, rfl, b1⟩ := cell_int Tryz.underlying5 t1
      obtain ⟨x2, rfl, b2⟩ := cell_int Tryz.underlying5 t2
      obtain ⟨x3, rfl, b3⟩ := cell_int Tryz.underlying5 t3
      obtain ⟨x4, rfl, b4⟩ := cell_int Tryz.underlying5 t4
      exact ⟨⟨x0, x1, x2, x3, x4⟩, e0, e1, e2, e3, e4, bounds_u8 b0, bounds_u8 b1, bounds_u8 b2, bounds_u8 b3, bounds_u8 b4⟩)
    refine ⟨ls, ⟨some a, cap, by rw [hcs], by omega, fun i hi => ?_⟩, fun x hx => ?_⟩
    · have hs : a.spot = none := by
        obtain ⟨q0, _⟩ := hp 0 _ (List.getElem?_eq_getElem (by omega))
        exact spot_none q0
      obtain ⟨b, off, sp⟩ := a
      obtain rfl : sp = none := hs
      obtain ⟨q0, q1, q2, q3, q4, _⟩ := hp i _ (List.getElem?_eq_getElem hi)
      rw [add_at] at q0 q1 q2 q3 q4
      refine ⟨b, off, rfl, World.block_lt_of_cell? _ _ q0, fun j hj => ?_⟩
      dsimp only [omCells]
      rw [List.getD_eq_getElem?_getD, List.getElem?_eq_getElem hi]
      rcases (show j = 0 ∨ j = 1 ∨ j = 2 ∨ j = 3 ∨ j = 4 by omega) with rfl | rfl | rfl | rfl | rfl
      · exact q0
      · exact q1
      · exact q2
      · exact q3
      · exact q4
    · obtain ⟨i, hi, rfl⟩ := List.getElem_of_mem hx
      exact (hp i _ (List.getElem?_eq_getElem hi)).2.2.2.2.2
theorem open_oms {r : Reach} {b0 : Nat} {v : Value} {d : DataW H} {p : List MemPlace} (hv : Value.okWide Tryz.prog w r b0 28 v) (h : DataW.Trod enc Tryz.prog w base spare held 28 v d p) : ∃ q : List Om, OmsAt w w.heap.size v q := by
  obtain ⟨A, len0, cap0, rfl⟩ := okWide_slice Tryz.underlying28 hv
  obtain ⟨n, h⟩ := h
  exact trod_oms (show DataW.trod enc Tryz.prog w base spare held n 28 [.slice A len0 cap0] = some (d, p) from h)
end
end Go.Proofs.YtmbifmmkccghfaaGreat
