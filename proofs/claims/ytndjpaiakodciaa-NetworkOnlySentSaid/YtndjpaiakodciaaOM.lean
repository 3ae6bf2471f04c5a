/-
  NetworkOnlySent joined; a list of moves opened. No condition.
-/
import Derived.Test.YtndjpaiakodciaaOL
import Derived.Test.YtndjpaiakodciaaOA
namespace Go.Proofs.Ytndjpaiakodciaa
open Go.ChangeShapes Go.WideShapes Go.ChangeAt Go.RowKit Go.Joins Go.Deep

section
variable {H : Type} {enc : TypeId × Value → H} {w : World} {base : Nat} {spare : Nat → Bool} {held : Bool}
theorem trod_moves {n : Nat} {v : Value} {y : DataW H × List MemPlace} (h : DataW.trod enc Try.prog w base spare held n 48 [v] = some y) : ∃ q : List Mv, MovesAt w w.heap.size v q := by
  rcases open_slice_fields Try.underlying48 Try.underlying52 (by kernel_rfl) (by kernel_rfl) h with ⟨h0, _⟩ | ⟨a, len, cap, m, D, Pl, h0, hb, hl, hc, hm, _, hf⟩
  · obtain rfl : v = .slice none 0 0 := by simpa using h0
    exact ⟨[], ⟨none, 0, rfl, Nat.zero_le _, fun i hi => by simp at hi⟩, fun x hx => by cases hx⟩
  · obtain rfl : v = .slice (some a) len cap := by simpa using h0
    have hlm : len ≤ m := by rw [hm]; split <;> omega
    obtain ⟨ls, hcs, hp⟩ := exists_list (fun i (l : Mv) => w.cell? (a.add (i * 5 + 0)) = some (.int .u8 l.kd) ∧ w.cell? (a.add (i * 5 + 1)) = some (.int .u8 l.ta) ∧ w.cell? (a.add (i * 5 + 2)) = some (.int .u8 l.sa) ∧ w.cell? (a.add (i * 5 + 3)) = some (.int .u8 l.sb) ∧ w.cell? (a.add (i * 5 + 4)) = some (.int .u8 l.dt) ∧ l.ok) len (fun i hi => by
      obtain ⟨ys, k, _, _, _, hj⟩ := hf i (by omega)
      obtain ⟨v0, y0, e0, _, t0⟩ := hj 0 _ rfl
      obtain ⟨v1, y1, e1, _, t1⟩ := hj 1 _ rfl
      obtain ⟨v2, y2, e2, _, t2⟩ := hj 2 _ rfl
      obtain ⟨v3, y3, e3, _, t3⟩ := hj 3 _ rfl
      obtain ⟨v4, y4, e4, _, t4⟩ := hj 4 _ rfl
      obtain ⟨x0, rfl, b0⟩ := cell_int Try.underlying5 t0
      obtain ⟨x1, rfl, b1⟩ := cell_int Try.underlying5 t1
      obtain ⟨x2, rfl, b2⟩ := cell_int Try.underlying5 t2
      obtain ⟨x3, rfl, b3⟩ := cell_int Try.underlying5 t3
      obtain ⟨x4, rfl, b4⟩ := cell_int Try.underlying5 t4
      exact ⟨⟨x0, x1, x2, x3, x4⟩, e0, e1, e2, e3, e4, bounds_u8 b0, bounds_u8 b1, bounds_u8 b2, bounds_u8 b3, bounds_u8 b4⟩)
    refine ⟨ls, ⟨some a, cap, by rw [hcs], by omega, fun i hi => ?_⟩, fun x hx => ?_⟩
    · have hs : a.spot = none := by
        obtain ⟨q0, _⟩ := hp 0 _ (List.getElem?_eq_getElem (by omega))
        exact spot_none q0
      obtain ⟨b, off, sp⟩ := a
      obtain rfl : sp = none := hs
      obtain ⟨q0, q1, q2, q3, q4, _⟩ := hp i _ (List.getElem?_eq_getElem hi)
      rw [add_at] at q0 q1 q2 q3 q4
      refine ⟨b, off, rfl, World.block_lt_of_cell? _ _ q0, fun j hj => ?_⟩
      dsimp only [mvCells]
      rw [List.getD_eq_getElem?_getD, List.getElem?_eq_getElem hi]
      rcases (show j = 0 ∨ j = 1 ∨ j = 2 ∨ j = 3 ∨ j = 4 by omega) with rfl | rfl | rfl | rfl | rfl
      · exact q0
      · exact q1
      · exact q2
      · exact q3
      · exact q4
    · obtain ⟨i, hi, rfl⟩ := List.getElem_of_mem hx
      exact (hp i _ (List.getElem?_eq_getElem hi)).2.2.2.2.2
theorem open_moves {r : Reach} {b0 : Nat} {v : Value} {d : DataW H} {p : List MemPlace} (hv : Value.okWide Try.prog w r b0 48 v) (h : DataW.Trod enc Try.prog w base spare held 48 v d p) : ∃ q : List Mv, MovesAt w w.heap.size v q := by
  obtain ⟨A, len0, cap0, rfl⟩ := okWide_slice Try.underlying48 hv
  obtain ⟨n, h⟩ := h
  exact trod_moves (show DataW.trod enc Try.prog w base spare held n 48 [.slice A len0 cap0] = some (d, p) from h)
end
theorem law_NetworkOnlySent (ls : List Mv) (v : Value) (w : World) (h : MovesAt w w.heap.size v ls) :
    Calls Try.prog 7 #[v] w fun e w' => e = .returned (.bool true) ∧ Below w.heap.size w w' := by
  obtain ⟨A, c, rfl, hm, _⟩ := h.1
  unfold maxLen at hm
  by_cases h60 : ls.length ≤ 60
  · exact law_Only_go ls A _ c w h rfl h60
  · exact law_Only_no A _ c w (by omega) (by omega)

end Go.Proofs.Ytndjpaiakodciaa
