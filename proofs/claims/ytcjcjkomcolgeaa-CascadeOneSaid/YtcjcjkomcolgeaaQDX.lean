/- The reference of chapter 35: hour. (Printed by gen_dx.py.) No condition. -/
import Derived.Test.YtcjcjkomcolgeaaQDK
import Derived.Test.YtcjcjkomcolgeaaQKD
import Derived.Test.YtcjcjkomcolgeaaQDP
import Derived.Test.YtcjcjkomcolgeaaQDV
set_option linter.unusedVariables false
set_option linter.unusedSimpArgs false
namespace Go.Proofs.Ytcjcjkomcolgeaa
open Go.RowKit
attribute [local go_sem ↓ high] app_named

end Go.Proofs.Ytcjcjkomcolgeaa

/-
  The reference of chapter 35: Play. (Printed by gen_dy.py.) No condition.
-/
namespace Go.Proofs.Ytcjcjkomcolgeaa
open Go.RowKit
attribute [local go_sem ↓ high] app_named

def StsN (w : World) (K : Nat) (v : Value) (l : List St) : Prop := ∃ b c, v = .slice (some ⟨b, 0, none⟩) l.length c ∧ l.length ≤ c ∧ l.length ≤ maxLen ∧ b ≠ K ∧ b < w.heap.size ∧ ∀ i, i < l.length → ∀ j, j < 6 → w.cell? ⟨b, 0 + (i * 6 + j), none⟩ = some (((l.getD i St.zero).cells).getD j undef)
theorem StsN.at {w : World} {K : Nat} {v : Value} {l : List St} (h : StsN w K v l) : StsAt w w.heap.size v l := by
  obtain ⟨b, c, hv, _, hm, _, hb, hc⟩ := h
  exact ⟨_, c, hv, hm, fun i hi => ⟨b, 0, rfl, hb, hc i hi⟩⟩
theorem StsN.later {w w' : World} {K : Nat} {v : Value} {l : List St} (h : StsN w K v l) (hb : Below w.heap.size w w') : StsN w' K v l := by
  obtain ⟨b, c, hv, h1, hm, h2, h3, hc⟩ := h
  exact ⟨b, c, hv, h1, hm, h2, Nat.lt_of_lt_of_le h3 hb.size, fun i hi j hj => (hb.cell h3).trans (hc i hi j hj)⟩
theorem StsN.set {w : World} {K : Nat} {v : Value} {l : List St} (h : StsN w K v l) (o : Nat) (u : Value) : StsN (w.setCell ⟨K, o, none⟩ u) K v l := by
  obtain ⟨b, c, hv, h1, hm, h2, h3, hc⟩ := h
  exact ⟨b, c, hv, h1, hm, h2, by simpa using h3, fun i hi j hj => (World.cell?_setCell_far _ _ _ _ (by dsimp only; omega)).trans (hc i hi j hj)⟩
end Go.Proofs.Ytcjcjkomcolgeaa
