/- Contract of IsCut of the reference. No condition. -/
import Derived.Test.YtmbifmmkccghfaaQNE
import Derived.Deep.RegionWith
set_option linter.unusedVariables false
set_option linter.unusedSimpArgs false
namespace Go.Proofs.Ytmbifmmkccghfaa
open Go.RowKit

end Go.Proofs.Ytmbifmmkccghfaa

/-
  Contract of Deliver of network. (Printed by gen_no.py.)
-/
namespace Go.Proofs.Ytmbifmmkccghfaa
open Go.RowKit

def RetDel (t : Pk × Net × Int) (D : Nat) (w : World) (e : Ending) (w' : World) : Prop := ∃ (V : Value) (p : Pk) (Vq Va : Value) (m : Net) (er : Int), e = .returned (.tuple #[p.v V, .agg #[Vq, Va], .int .i64 er]) ∧ Hid (t = (p, m, er)) ∧ Hid (BytesAt w' D V p.data) ∧ Hid (Net2 w' D w.heap.size Vq Va m) ∧ Below w.heap.size w w'
theorem nAt_bad {n : Net} {Vq Va : Value} {i c : Int} {w : World} {D : Nat} (h : Hid (askTN n i = c)) (hc : (c != 0) = true) (hDw : D ≤ w.heap.size) (hN : NetAt w D Vq Va n) : Calls Try.prog 70 #[.agg #[Vq, Va], .int .i64 i] w fun e w' => ∃ (A : Option Addr) (k : Nat), e = .returned (.tuple #[.agg #[.int .i64 0, .int .i64 0, .slice A 0 k], .int .i64 c]) ∧ Hid (BytesAt w' D (.slice A 0 k) []) ∧ Below w.heap.size w w' := by
  refine (nAt_any n Vq Va i w D hDw hN).mono fun _ _ ⟨V, p, er, he, ht, hV, hb⟩ => ?_
  have h1 := ht.out
  rw [atT, if_neg (by rw [h.out]; simpa using hc), h.out] at h1
  injection h1 with h2 h3
  subst h2 h3
  obtain ⟨A, m, rfl, _⟩ := hV.out.form
  exact ⟨A, m, he, hV, hb⟩
theorem nAt_y {n : Net} {Vq Va : Value} {i : Int} {y : Pk} {w : World} {D : Nat} (h : Hid (askTN n i = 0)) (hy : Hid (n.pk i = y)) (hDw : D ≤ w.heap.size) (hN : NetAt w D Vq Va n) : Calls Try.prog 70 #[.agg #[Vq, Va], .int .i64 i] w fun e w' => ∃ (A : Option Addr) (k m : Nat), e = .returned (.tuple #[.agg #[.int .i64 y.src, .int .i64 y.dst, .slice A k m], .int .i64 0]) ∧ Hid (BytesAt w' D (.slice A k m) y.data) ∧ Below w.heap.size w w' := by
  have := nAt_ok h hDw hN
  rw [hy.out] at this
  exact this
theorem nContainsLk_at {l : List (Int × Int)} {x y : Int} {t : Bool} {v : Value} {w : World} {D : Nat} (h : Hid (hasB l x y = t)) (hDw : D ≤ w.heap.size) (hL : LksAt w D v l) :
    Calls Try.prog 71 #[v, pairV x y] w fun e w' => e = .returned (.bool t) ∧ Below w.heap.size w w' :=
  (nContainsLk_any l x y v w D hDw hL).mono fun _ _ ⟨he, hb⟩ => ⟨by rw [he, h.out], hb⟩

end Go.Proofs.Ytmbifmmkccghfaa
