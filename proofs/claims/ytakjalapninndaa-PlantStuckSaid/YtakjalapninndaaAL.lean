/-
  A list of shocks among a law's arguments, opened. No condition.
-/
import Derived.Test.YtakjalapninndaaZ
import Derived.Test.YtakjalapninndaaAI
import Derived.Test.YtakjalapninndaaAM
namespace Go.Proofs.Ytakjalapninndaa
open Go.ChangeShapes Go.WideShapes Go.ChangeAt Go.RowKit Go.Joins Go.Deep

section
variable {H : Type} {enc : TypeId × Value → H} {w : World} {base : Nat} {spare : Nat → Bool} {held : Bool}
theorem open_shocks {r : Reach} {b0 : Nat} {v : Value} {d : DataW H} {p : List MemPlace} (hv : Value.okWide Try.prog w r b0 46 v) (h : DataW.Trod enc Try.prog w base spare held 46 v d p) : ∃ l : List Sh, ShocksAt w w.heap.size v l := by
  obtain ⟨A, len0, cap0, rfl⟩ := okWide_slice Try.underlying46 hv
  obtain ⟨n, h⟩ := h
  have h : DataW.trod enc Try.prog w base spare held n 46 [.slice A len0 cap0] = some (d, p) := h
  rcases open_slice_fields Try.underlying46 Try.underlying41 (by kernel_rfl) (by kernel_rfl) h with ⟨h0, _⟩ | ⟨a, len, cap, m, D, Pl, h0, hb, hl, hc, hm, _, hf⟩
  · have e : Value.slice A len0 cap0 = .slice none 0 0 := by simpa using h0
    rw [e]
    exact ⟨[], none, 0, rfl, Nat.zero_le _, fun i hi => by simp at hi⟩
  · have e : Value.slice A len0 cap0 = .slice (some a) len cap := by simpa using h0
    rw [e]
    have hlm : len ≤ m := by rw [hm]; split <;> omega
    obtain ⟨cs, hcs, hp⟩ := exists_list (fun i (c : Sh) => w.cell? (a.add (i * 2 + 0)) = some (.int .i64 c.feed) ∧ w.cell? (a.add (i * 2 + 1)) = some (.int .i64 c.msg)) len (fun i hi => by
      obtain ⟨ys, k, _, _, _, hj⟩ := hf i (by omega)
      obtain ⟨v0, y0, e0, _, t0⟩ := hj 0 _ rfl
      obtain ⟨v1, y1, e1, _, t1⟩ := hj 1 _ rfl
      obtain ⟨x0, rfl, _⟩ := cell_int Try.underlying3 t0
      obtain ⟨x1, rfl, _⟩ := cell_int Try.underlying3 t1
      exact ⟨⟨x0, x1⟩, e0, e1⟩)
    refine ⟨cs, some a, cap, by rw [hcs], by omega, fun i hi => ?_⟩
    have hs : a.spot = none := by
      obtain ⟨q0, _⟩ := hp 0 _ (List.getElem?_eq_getElem (by omega))
      exact spot_none q0
    obtain ⟨b, off, sp⟩ := a
    obtain rfl : sp = none := hs
    obtain ⟨q0, q1⟩ := hp i _ (List.getElem?_eq_getElem hi)
    rw [add_flat] at q0 q1
    refine ⟨b, off, rfl, World.block_lt_of_cell? _ _ q0, fun j hj => ?_⟩
    dsimp only
    rw [List.getElem?_eq_getElem hi]
    rcases (show j = 0 ∨ j = 1 by omega) with rfl | rfl
    · exact q0
    · exact q1
theorem open_code2 {r : Reach} {b0 : Nat} {v : Value} {d : DataW H} {p : List MemPlace} (hv : Value.okWide Try.prog w r b0 39 v) (h : DataW.Trod enc Try.prog w base spare held 39 v d p) : ∃ (V : Value) (code : List Ln), v = .agg #[V] ∧ CodeAt w w.heap.size V code ∧ SlForm V := by
  obtain ⟨V, code, rfl, hC⟩ := open_code hv h
  refine ⟨V, code, rfl, hC, ?_⟩
  obtain ⟨fuel, hf⟩ := h
  obtain ⟨xs, n, _, hx, _, hlen, hg⟩ := DataW.trod_struct Try.underlying39 hf
  have k1 : Try.prog.cellsOf 37 = 1 := by kernel_rfl
  match xs, hlen with
  | [y0], _ =>
    have ht : DataW.trod enc Try.prog w base spare held n 37 [V] = some y0 := by simpa [Value.cells, k1] using hg 0 _ rfl
    rcases open_slice_fields Try.underlying37 Try.underlying53 (by kernel_rfl) (by kernel_rfl) ht with ⟨h0, _⟩ | ⟨a, len, cap, m, D, Pl, h0, _⟩
    · exact .inl (by simpa using h0)
    · exact .inr ⟨a, len, cap, by simpa using h0⟩
end
end Go.Proofs.Ytakjalapninndaa
