/- Arguments of chapter 35's laws opened: lists of hours. No condition. -/
import Derived.Test.YtcjcjkomcolgeaaQY
import Derived.Test.YtcjcjkomcolgeaaQEI
set_option linter.unusedVariables false
set_option linter.unusedSimpArgs false
namespace Go.Proofs.Ytcjcjkomcolgeaa
open Go.ChangeShapes Go.WideShapes Go.ChangeAt Go.RowKit Go.Joins Go.Deep

section
variable {H : Type} {enc : TypeId × Value → H} {w : World} {base : Nat} {spare : Nat → Bool} {held : Bool}
theorem open_u8L {n : Nat} {v : Value} {y : DataW H × List MemPlace} (h : DataW.trod enc Try.prog w base spare held n 46 [v] = some y) : ∃ l : List Int, U8L w w.heap.size v l := by
  rcases open_slice1 Try.underlying46 (by kernel_rfl) h with ⟨h0, _⟩ | ⟨a, len, cap, m, k, V, D, Pl, h0, hb, hl, hc, hm, _, hf⟩
  · obtain rfl : v = .slice none 0 0 := by simpa using h0
    exact ⟨[], ⟨none, 0, rfl, Nat.zero_le _, fun i hi => by simp at hi⟩, by simp⟩
  · obtain rfl : v = .slice (some a) len cap := by simpa using h0
    have hlm : len ≤ m := by rw [hm]; split <;> omega
    obtain ⟨l, hll, hp⟩ := exists_list (fun i (x : Int) => w.cell? (a.add i) = some (.int .u8 x) ∧ (0 ≤ x ∧ x ≤ 255)) len (fun i hi => by
      obtain ⟨e0, t0⟩ := hf i (by omega)
      obtain ⟨x, hx, hw⟩ := cell_int Try.underlying5 t0
      exact ⟨x, by rw [e0, hx], bounds_u8 hw⟩)
    refine ⟨l, ⟨some a, cap, by rw [hll], by omega, fun i hi => ?_⟩, fun u hu => by
      obtain ⟨i, hi⟩ := List.mem_iff_getElem?.1 hu
      exact (hp i u hi).2⟩
    have hs : a.spot = none := spot_none (hp 0 _ (List.getElem?_eq_getElem (by omega))).1
    obtain ⟨b, off, sp⟩ := a
    obtain rfl : sp = none := hs
    have q := (hp i _ (List.getElem?_eq_getElem hi)).1
    rw [add_flat] at q
    refine ⟨b, off, rfl, World.block_lt_of_cell? _ _ q, fun j hj => ?_⟩
    obtain rfl : j = 0 := by omega
    dsimp only
    rw [Nat.mul_one, Nat.add_zero, List.getD_eq_getElem?_getD, List.getElem?_eq_getElem hi]
    exact q
set_option maxRecDepth 100000 in
theorem trod_hours {n : Nat} {v : Value} {y : DataW H × List MemPlace} (h : DataW.trod enc Try.prog w base spare held n 40 [v] = some y) : ∃ l : List Hr, HrsAt w w.heap.size v l := by
  rcases open_slice_fields Try.underlying40 Try.underlying48 (by kernel_rfl) (by kernel_rfl) h with ⟨h0, _⟩ | ⟨a, len, cap, m, D, Pl, h0, hb, hl, hc, hm, _, hf⟩
  · obtain rfl : v = .slice none 0 0 := by simpa using h0
    exact ⟨[], fun _ => undef, fun _ => undef, ⟨none, 0, rfl, Nat.zero_le _, fun i hi => by simp at hi⟩, fun i l hl => by simp at hl⟩
  · obtain rfl : v = .slice (some a) len cap := by simpa using h0
    have hlm : len ≤ m := by rw [hm]; split <;> omega
    obtain ⟨ls, hcs, hp⟩ := exists_list (fun i (l : Value × Value × Hr) => w.cell? (a.add (i * 3 + 0)) = some (.int .u8 l.2.2.feed) ∧ (0 ≤ l.2.2.feed ∧ l.2.2.feed ≤ 255) ∧ w.cell? (a.add (i * 3 + 1)) = some l.1 ∧ w.cell? (a.add (i * 3 + 2)) = some l.2.1 ∧ U8L w w.heap.size l.1 l.2.2.msgs ∧ U8L w w.heap.size l.2.1 l.2.2.stuck) len (fun i hi => by
      obtain ⟨ys, k, _, _, _, hj⟩ := hf i (by omega)
      obtain ⟨v0, y0, e0, _, t0⟩ := hj 0 _ rfl
      obtain ⟨v1, y1, e1, _, t1⟩ := hj 1 _ rfl
      obtain ⟨v2, y2, e2, _, t2⟩ := hj 2 _ rfl
      obtain ⟨x0, rfl, hw0⟩ := cell_int Try.underlying5 t0
      obtain ⟨ms, hms⟩ := open_u8L t1
      obtain ⟨ks, hks⟩ := open_u8L t2
      exact ⟨(v1, v2, ⟨x0, ms, ks⟩), e0, bounds_u8 hw0, e1, e2, hms, hks⟩)
    refine ⟨ls.map (·.2.2), fun i => match ls[i]? with | some l => l.1 | none => undef, fun i => match ls[i]? with | some l => l.2.1 | none => undef, ⟨some a, cap, by simp [hcs], by simp; omega, fun i hi => ?_⟩, fun i l hl => ?_⟩
    · have hi : i < ls.length := by simpa using hi
      have hs : a.spot = none := spot_none (hp 0 _ (List.getElem?_eq_getElem (by omega))).1
      obtain ⟨b, off, sp⟩ := a
      obtain rfl : sp = none := hs
      obtain ⟨q0, _, q1, q2, _, _⟩ := hp i _ (List.getElem?_eq_getElem hi)
      rw [add_flat] at q0 q1 q2
      refine ⟨b, off, rfl, World.block_lt_of_cell? _ _ q0, fun j hj => ?_⟩
      dsimp only
      rw [List.getD_eq_getElem?_getD, List.getElem?_map, List.getElem?_eq_getElem hi]
      rcases (show j = 0 ∨ j = 1 ∨ j = 2 by omega) with rfl | rfl | rfl
      · exact q0
      · exact q1
      · exact q2
    · rw [List.getElem?_map] at hl
      cases hq : ls[i]? with
      | none => rw [hq] at hl; cases hl
      | some q =>
        rw [hq] at hl
        obtain rfl : q.2.2 = l := by simpa using hl
        dsimp only
        rw [hq]
        exact ⟨(hp i q hq).2.1, (hp i q hq).2.2.2.2.1, (hp i q hq).2.2.2.2.2⟩
set_option maxRecDepth 100000 in
theorem open_hours {r : Reach} {b0 : Nat} {v : Value} {d : DataW H} {p : List MemPlace} (hv : Value.okWide Try.prog w r b0 40 v) (h : DataW.Trod enc Try.prog w base spare held 40 v d p) : ∃ l : List Hr, HrsAt w w.heap.size v l := by
  obtain ⟨A, len0, cap0, rfl⟩ := okWide_slice Try.underlying40 hv
  obtain ⟨n, h⟩ := h
  exact trod_hours (show DataW.trod enc Try.prog w base spare held n 40 [.slice A len0 cap0] = some (d, p) from h)
end
end Go.Proofs.Ytcjcjkomcolgeaa
