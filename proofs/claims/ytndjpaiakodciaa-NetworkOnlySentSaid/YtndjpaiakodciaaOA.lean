/-
  Arguments of chapter 6's laws opened: packets, nets. No condition.
-/
import Derived.Test.YtndjpaiakodciaaKB
import Derived.Test.YtndjpaiakodciaaNE
namespace Go.Proofs.Ytndjpaiakodciaa
open Go.ChangeShapes Go.WideShapes Go.ChangeAt Go.RowKit Go.Joins Go.Deep

section
variable {H : Type} {enc : TypeId × Value → H} {w : World} {base : Nat} {spare : Nat → Bool} {held : Bool}
theorem trod_data {n : Nat} {v : Value} {y : DataW H × List MemPlace} (h : DataW.trod enc Try.prog w base spare held n 26 [v] = some y) : ∃ l, BytesAt w w.heap.size v l :=
  (trod_bytes Try.underlying26 Try.underlying5 (by kernel_rfl) h).2
theorem trod_packets {n : Nat} {v : Value} {y : DataW H × List MemPlace} (h : DataW.trod enc Try.prog w base spare held n 22 [v] = some y) : ∃ q : List Pk, PksAt w w.heap.size v q := by
  rcases open_slice_fields Try.underlying22 Try.underlying28 (by kernel_rfl) (by kernel_rfl) h with ⟨h0, _⟩ | ⟨a, len, cap, m, D, Pl, h0, hb, hl, hc, hm, _, hf⟩
  · obtain rfl : v = .slice none 0 0 := by simpa using h0
    exact ⟨[], pksAt_nil _ _⟩
  · obtain rfl : v = .slice (some a) len cap := by simpa using h0
    have hlm : len ≤ m := by rw [hm]; split <;> omega
    obtain ⟨ls, hcs, hp⟩ := exists_list (fun i (l : Value × Pk) => w.cell? (a.add (i * 3 + 0)) = some (.int .i64 l.2.src) ∧ w.cell? (a.add (i * 3 + 1)) = some (.int .i64 l.2.dst) ∧ w.cell? (a.add (i * 3 + 2)) = some l.1 ∧ BytesAt w w.heap.size l.1 l.2.data) len (fun i hi => by
      obtain ⟨ys, k, _, _, _, hj⟩ := hf i (by omega)
      obtain ⟨v0, y0, e0, _, t0⟩ := hj 0 _ rfl
      obtain ⟨v1, y1, e1, _, t1⟩ := hj 1 _ rfl
      obtain ⟨v2, y2, e2, _, t2⟩ := hj 2 _ rfl
      obtain ⟨x0, rfl, _⟩ := cell_int Try.underlying3 t0
      obtain ⟨x1, rfl, _⟩ := cell_int Try.underlying3 t1
      obtain ⟨l, hl⟩ := trod_data t2
      exact ⟨(v2, ⟨x0, x1, l⟩), e0, e1, e2, hl⟩)
    refine ⟨ls.map (·.2), .inr ⟨a, len, cap, rfl, hl, hc⟩, fun i => (ls[i]?.map (·.1)).getD undef, ⟨some a, cap, by simp [hcs], by simp; omega, fun i hi => ?_⟩, fun i l hl => ?_⟩
    · have hi : i < ls.length := by simpa using hi
      have hs : a.spot = none := by
        obtain ⟨q0, _⟩ := hp 0 _ (List.getElem?_eq_getElem (by omega))
        exact spot_none q0
      obtain ⟨b, off, sp⟩ := a
      obtain rfl : sp = none := hs
      obtain ⟨q0, q1, q2, _⟩ := hp i _ (List.getElem?_eq_getElem hi)
      rw [add_at] at q0 q1 q2
      refine ⟨b, off, rfl, World.block_lt_of_cell? _ _ q0, fun j hj => ?_⟩
      dsimp only [pkCells]
      rw [List.getD_eq_getElem?_getD, List.getElem?_map, List.getElem?_eq_getElem hi]
      rcases (show j = 0 ∨ j = 1 ∨ j = 2 by omega) with rfl | rfl | rfl
      · exact q0
      · exact q1
      · exact q2
    · rw [List.getElem?_map] at hl
      cases hq : ls[i]? with
      | none => rw [hq] at hl; cases hl
      | some q =>
        rw [hq] at hl
        cases hl
        obtain ⟨_, _, _, q3⟩ := hp i q hq
        dsimp only
        rw [hq]
        exact q3
theorem trod_links {n : Nat} {v : Value} {y : DataW H × List MemPlace} (h : DataW.trod enc Try.prog w base spare held n 23 [v] = some y) : ∃ l : List (Int × Int), LksAt w w.heap.size v l := by
  rcases open_slice Try.underlying23 h with ⟨h0, _⟩ | ⟨a, len, cap, m, k, D, Pl, h0, hb, hl, hc, hm, _, hf⟩
  · obtain rfl : v = .slice none 0 0 := by simpa using h0
    exact ⟨[], lksAt_nil _ _⟩
  · obtain rfl : v = .slice (some a) len cap := by simpa using h0
    have hlm : len ≤ m := by rw [hm]; split <;> omega
    have k2 : Try.prog.cellsOf 55 = 2 := by kernel_rfl
    rw [k2] at hf
    have k1 : Try.prog.cellsOf 3 = 1 := by kernel_rfl
    obtain ⟨ls, hcs, hp⟩ := exists_list (fun i (l : Int × Int) => w.cell? (a.add (i * 2 + 0)) = some (.int .i64 l.1) ∧ w.cell? (a.add (i * 2 + 1)) = some (.int .i64 l.2)) len (fun i hi => by
      obtain ⟨cs, h1, h2⟩ := hf i (by omega)
      obtain ⟨_, hcl, hat⟩ := World.cells?_some h1
      match cs, hcl with
      | [c0, c1], _ =>
        have q0 := hat 0 (by omega)
        have q1 := hat 1 (by omega)
        obtain ⟨zs, m, _, _, _, hzl, hgz⟩ := DataW.trod_array Try.underlying55 h2
        match zs, hzl with
        | [z0, z1], _ =>
          obtain ⟨x0, rfl, _⟩ := cell_int Try.underlying3 (show DataW.trod enc Try.prog w base spare held m 3 [c0] = some z0 by simpa [k1] using hgz 0 (by omega))
          obtain ⟨x1, rfl, _⟩ := cell_int Try.underlying3 (show DataW.trod enc Try.prog w base spare held m 3 [c1] = some z1 by simpa [k1] using hgz 1 (by omega))
          refine ⟨(x0, x1), ?_, ?_⟩
          · rw [← Go.Deep.add_add, q0]; rfl
          · rw [← Go.Deep.add_add, q1]; rfl)
    refine ⟨ls, .inr ⟨a, len, cap, rfl, hl, hc⟩, some a, cap, by rw [hcs], by omega, fun i hi => ?_⟩
    have hs : a.spot = none := by
      obtain ⟨q0, _⟩ := hp 0 _ (List.getElem?_eq_getElem (by omega))
      exact spot_none q0
    obtain ⟨b, off, sp⟩ := a
    obtain rfl : sp = none := hs
    obtain ⟨q0, q1⟩ := hp i _ (List.getElem?_eq_getElem hi)
    rw [add_at] at q0 q1
    refine ⟨b, off, rfl, World.block_lt_of_cell? _ _ q0, fun j hj => ?_⟩
    dsimp only [lkCells]
    rw [List.getD_eq_getElem?_getD, List.getElem?_eq_getElem hi]
    rcases (show j = 0 ∨ j = 1 by omega) with rfl | rfl
    · exact q0
    · exact q1
theorem open_packets {r : Reach} {b0 : Nat} {v : Value} {d : DataW H} {p : List MemPlace} (hv : Value.okWide Try.prog w r b0 22 v) (h : DataW.Trod enc Try.prog w base spare held 22 v d p) : ∃ q : List Pk, PksAt w w.heap.size v q := by
  obtain ⟨A, len0, cap0, rfl⟩ := okWide_slice Try.underlying22 hv
  obtain ⟨n, h⟩ := h
  exact trod_packets (show DataW.trod enc Try.prog w base spare held n 22 [.slice A len0 cap0] = some (d, p) from h)
theorem open_data {r : Reach} {b0 : Nat} {v : Value} {d : DataW H} {p : List MemPlace} (hv : Value.okWide Try.prog w r b0 26 v) (h : DataW.Trod enc Try.prog w base spare held 26 v d p) : ∃ l, BytesAt w w.heap.size v l := by
  obtain ⟨A, len0, cap0, rfl⟩ := okWide_slice Try.underlying26 hv
  obtain ⟨n, h⟩ := h
  exact trod_data (show DataW.trod enc Try.prog w base spare held n 26 [.slice A len0 cap0] = some (d, p) from h)
theorem open_net {r : Reach} {b0 : Nat} {v : Value} {d : DataW H} {p : List MemPlace} (hv : Value.okWide Try.prog w r b0 25 v) (h : DataW.Trod enc Try.prog w base spare held 25 v d p) : ∃ (n : Net) (Vq Va : Value), v = .agg #[Vq, Va] ∧ NetAt w w.heap.size Vq Va n := by
  obtain ⟨cs, rfl, hsz⟩ := okWide_struct Try.underlying25 hv
  obtain ⟨l⟩ := cs
  have hC : Try.prog.cellsOf 25 = 2 := by kernel_rfl
  match l, hsz.trans hC with
  | [c0, c1], _ =>
    obtain ⟨fuel, hf⟩ := h
    obtain ⟨xs, n, _, hx, _, hlen, hg⟩ := DataW.trod_struct Try.underlying25 hf
    have k1 : Try.prog.cellsOf 22 = 1 := by kernel_rfl
    have k2 : Try.prog.cellsOf 23 = 1 := by kernel_rfl
    match xs, hlen with
    | [y0, y1], _ =>
      obtain ⟨q, hq⟩ := trod_packets (show DataW.trod enc Try.prog w base spare held n 22 [c0] = some y0 by simpa [Value.cells, k1] using hg 0 _ rfl)
      obtain ⟨l, hl⟩ := trod_links (show DataW.trod enc Try.prog w base spare held n 23 [c1] = some y1 by simpa [Value.cells, k2] using hg 1 _ rfl)
      exact ⟨⟨q, l⟩, c0, c1, rfl, hq, hl⟩
theorem open_packet {r : Reach} {b0 : Nat} {v : Value} {d : DataW H} {p : List MemPlace} (hv : Value.okWide Try.prog w r b0 28 v) (h : DataW.Trod enc Try.prog w base spare held 28 v d p) : ∃ (q : Pk) (V : Value), v = .agg #[.int .i64 q.src, .int .i64 q.dst, V] ∧ BytesAt w w.heap.size V q.data := by
  obtain ⟨cs, rfl, hsz⟩ := okWide_struct Try.underlying28 hv
  obtain ⟨l⟩ := cs
  have hC : Try.prog.cellsOf 28 = 3 := by kernel_rfl
  match l, hsz.trans hC with
  | [c0, c1, c2], _ =>
    obtain ⟨fuel, hf⟩ := h
    obtain ⟨xs, n, _, hx, _, hlen, hg⟩ := DataW.trod_struct Try.underlying28 hf
    have k1 : Try.prog.cellsOf 3 = 1 := by kernel_rfl
    have k2 : Try.prog.cellsOf 26 = 1 := by kernel_rfl
    match xs, hlen with
    | [y0, y1, y2], _ =>
      obtain ⟨x0, rfl, _⟩ := cell_int Try.underlying3 (show DataW.trod enc Try.prog w base spare held n 3 [c0] = some y0 by simpa [Value.cells, k1] using hg 0 _ rfl)
      obtain ⟨x1, rfl, _⟩ := cell_int Try.underlying3 (show DataW.trod enc Try.prog w base spare held n 3 [c1] = some y1 by simpa [Value.cells, k1] using hg 1 _ rfl)
      obtain ⟨l, hl⟩ := trod_data (show DataW.trod enc Try.prog w base spare held n 26 [c2] = some y2 by simpa [Value.cells, k2] using hg 2 _ rfl)
      exact ⟨⟨x0, x1, l⟩, c2, rfl, hl⟩
end
end Go.Proofs.Ytndjpaiakodciaa
