/-
  Arguments of chapter 32's laws opened: a plant, a state, a shock. (Printed by gen_y.py.)
-/
import Derived.Test.YtakjalapninndaaG
import Derived.WalkKit
import Derived.ProofKit
import Derived.OpenShut
import Derived.ChangeOld
import Derived.Below
import Derived.Lib.SmallJoins
namespace Go.Proofs.Ytakjalapninndaa
open Go.ChangeShapes Go.WideShapes Go.ChangeAt Go.RowKit Go.Joins

theorem cell_int {H : Type} {enc : TypeId × Value → H} {P : Program} {w : World} {base : Nat} {spare : Nat → Bool} {held : Bool} {t : TypeId} {k : IntKind} {n : Nat} {v : Value} {y : DataW H × List MemPlace}
    (ht : P.underlying t = some (.int k)) (h : DataW.trod enc P w base spare held n t [v] = some y) : ∃ x : Int, v = .int k x ∧ (Lit.int k x).wf = true := by
  obtain ⟨x, hx, _, hw⟩ := DataW.trod_int ht h
  exact ⟨x, by simpa using hx, hw⟩
section
variable {H : Type} {enc : TypeId × Value → H} {w : World} {base : Nat} {spare : Nat → Bool} {held : Bool}
theorem open_plant {r : Reach} {b0 : Nat} {v : Value} {d : DataW H} {p : List MemPlace} (hv : Value.okWide Try.prog w r b0 23 v) (h : DataW.Trod enc Try.prog w base spare held 23 v d p) : ∃ a : Pl, v = a.v := by
  obtain ⟨cs, rfl, hsz⟩ := okWide_struct Try.underlying23 hv
  obtain ⟨l⟩ := cs
  have hC : Try.prog.cellsOf 23 = 12 := by kernel_rfl
  match l, hsz.trans hC with
  | [c0, c1, c2, c3, c4, c5, c6, c7, c8, c9, c10, c11], _ =>
    obtain ⟨fuel, hf⟩ := h
    obtain ⟨xs, n, _, hx, _, hlen, hg⟩ := DataW.trod_struct Try.underlying23 hf
    have k1 : Try.prog.cellsOf 3 = 1 := by kernel_rfl
    match xs, hlen with
    | [y0, y1, y2, y3, y4, y5, y6, y7, y8, y9, y10, y11], _ =>
      obtain ⟨a0, rfl, _⟩ := cell_int Try.underlying3 (show DataW.trod enc Try.prog w base spare held n 3 [c0] = some y0 by simpa [Value.cells, k1] using hg 0 _ rfl)
      obtain ⟨a1, rfl, _⟩ := cell_int Try.underlying3 (show DataW.trod enc Try.prog w base spare held n 3 [c1] = some y1 by simpa [Value.cells, k1] using hg 1 _ rfl)
      obtain ⟨a2, rfl, _⟩ := cell_int Try.underlying3 (show DataW.trod enc Try.prog w base spare held n 3 [c2] = some y2 by simpa [Value.cells, k1] using hg 2 _ rfl)
      obtain ⟨a3, rfl, _⟩ := cell_int Try.underlying3 (show DataW.trod enc Try.prog w base spare held n 3 [c3] = some y3 by simpa [Value.cells, k1] using hg 3 _ rfl)
      obtain ⟨a4, rfl, _⟩ := cell_int Try.underlying3 (show DataW.trod enc Try.prog w base spare held n 3 [c4] = some y4 by simpa [Value.cells, k1] using hg 4 _ rfl)
      obtain ⟨a5, rfl, _⟩ := cell_int Try.underlying3 (show DataW.trod enc Try.prog w base spare held n 3 [c5] = some y5 by simpa [Value.cells, k1] using hg 5 _ rfl)
      obtain ⟨a6, rfl, _⟩ := cell_int Try.underlying3 (show DataW.trod enc Try.prog w base spare held n 3 [c6] = some y6 by simpa [Value.cells, k1] using hg 6 _ rfl)
      obtain ⟨a7, rfl, _⟩ := cell_int Try.underlying3 (show DataW.trod enc Try.prog w base spare held n 3 [c7] = some y7 by simpa [Value.cells, k1] using hg 7 _ rfl)
      obtain ⟨a8, rfl, _⟩ := cell_int Try.underlying3 (show DataW.trod enc Try.prog w base spare held n 3 [c8] = some y8 by simpa [Value.cells, k1] using hg 8 _ rfl)
      obtain ⟨a9, rfl, _⟩ := cell_int Try.underlying3 (show DataW.trod enc Try.prog w base spare held n 3 [c9] = some y9 by simpa [Value.cells, k1] using hg 9 _ rfl)
      obtain ⟨a10, rfl, _⟩ := cell_int Try.underlying3 (show DataW.trod enc Try.prog w base spare held n 3 [c10] = some y10 by simpa [Value.cells, k1] using hg 10 _ rfl)
      obtain ⟨a11, rfl, _⟩ := cell_int Try.underlying3 (show DataW.trod enc Try.prog w base spare held n 3 [c11] = some y11 by simpa [Value.cells, k1] using hg 11 _ rfl)
      exact ⟨⟨a0, a1, a2, a3, a4, a5, a6, a7, a8, a9, a10, a11⟩, rfl⟩
theorem open_state {r : Reach} {b0 : Nat} {v : Value} {d : DataW H} {p : List MemPlace} (hv : Value.okWide Try.prog w r b0 26 v) (h : DataW.Trod enc Try.prog w base spare held 26 v d p) : ∃ a : St, v = a.v := by
  obtain ⟨cs, rfl, hsz⟩ := okWide_struct Try.underlying26 hv
  obtain ⟨l⟩ := cs
  have hC : Try.prog.cellsOf 26 = 6 := by kernel_rfl
  match l, hsz.trans hC with
  | [c0, c1, c2, c3, c4, c5], _ =>
    obtain ⟨fuel, hf⟩ := h
    obtain ⟨xs, n, _, hx, _, hlen, hg⟩ := DataW.trod_struct Try.underlying26 hf
    have k1 : Try.prog.cellsOf 3 = 1 := by kernel_rfl
    match xs, hlen with
    | [y0, y1, y2, y3, y4], _ =>
      obtain ⟨a0, rfl, _⟩ := cell_int Try.underlying3 (show DataW.trod enc Try.prog w base spare held n 3 [c0] = some y0 by simpa [Value.cells, k1] using hg 0 _ rfl)
      obtain ⟨a1, rfl, _⟩ := cell_int Try.underlying3 (show DataW.trod enc Try.prog w base spare held n 3 [c1] = some y1 by simpa [Value.cells, k1] using hg 1 _ rfl)
      have k2 : Try.prog.cellsOf 24 = 2 := by kernel_rfl
      obtain ⟨zs, m, _, _, _, hzl, hgz⟩ := DataW.trod_array Try.underlying24 (show DataW.trod enc Try.prog w base spare held n 24 [c2, c3] = some y2 by simpa [Value.cells, k2] using hg 2 _ rfl)
      match zs, hzl with
      | [z0, z1], _ =>
      obtain ⟨a2, rfl, _⟩ := cell_int Try.underlying3 (show DataW.trod enc Try.prog w base spare held m 3 [c2] = some z0 by simpa [k1] using hgz 0 (by decide))
      obtain ⟨a3, rfl, _⟩ := cell_int Try.underlying3 (show DataW.trod enc Try.prog w base spare held m 3 [c3] = some z1 by simpa [k1] using hgz 1 (by decide))
      obtain ⟨a4, rfl, _⟩ := cell_int Try.underlying3 (show DataW.trod enc Try.prog w base spare held n 3 [c4] = some y3 by simpa [Value.cells, k1] using hg 3 _ rfl)
      obtain ⟨a5, rfl, _⟩ := cell_int Try.underlying3 (show DataW.trod enc Try.prog w base spare held n 3 [c5] = some y4 by simpa [Value.cells, k1] using hg 4 _ rfl)
      exact ⟨⟨a0, a1, a2, a3, a4, a5⟩, rfl⟩
theorem open_shock {r : Reach} {b0 : Nat} {v : Value} {d : DataW H} {p : List MemPlace} (hv : Value.okWide Try.prog w r b0 41 v) (h : DataW.Trod enc Try.prog w base spare held 41 v d p) : ∃ a : Sh, v = a.v := by
  obtain ⟨cs, rfl, hsz⟩ := okWide_struct Try.underlying41 hv
  obtain ⟨l⟩ := cs
  have hC : Try.prog.cellsOf 41 = 2 := by kernel_rfl
  match l, hsz.trans hC with
  | [c0, c1], _ =>
    obtain ⟨fuel, hf⟩ := h
    obtain ⟨xs, n, _, hx, _, hlen, hg⟩ := DataW.trod_struct Try.underlying41 hf
    have k1 : Try.prog.cellsOf 3 = 1 := by kernel_rfl
    match xs, hlen with
    | [y0, y1], _ =>
      obtain ⟨a0, rfl, _⟩ := cell_int Try.underlying3 (show DataW.trod enc Try.prog w base spare held n 3 [c0] = some y0 by simpa [Value.cells, k1] using hg 0 _ rfl)
      obtain ⟨a1, rfl, _⟩ := cell_int Try.underlying3 (show DataW.trod enc Try.prog w base spare held n 3 [c1] = some y1 by simpa [Value.cells, k1] using hg 1 _ rfl)
      exact ⟨⟨a0, a1⟩, rfl⟩
end
end Go.Proofs.Ytakjalapninndaa
