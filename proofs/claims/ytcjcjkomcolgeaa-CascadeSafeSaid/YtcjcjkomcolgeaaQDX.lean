/- The reference of chapter 35: hour. (Printed by gen_dx.py.) No condition. -/
import Derived.Test.YtcjcjkomcolgeaaQDK
import Derived.Test.YtcjcjkomcolgeaaQKD
import Derived.Test.YtcjcjkomcolgeaaQDP
import Derived.Test.YtcjcjkomcolgeaaQDV
set_option linter.unusedVariables false
set_option linter.unusedSimpArgs false
namespace Go.Proofs.Ytcjcjkomcolgeaa
open Go.RowKit
attribute [local go_sem ↓ high] app_named

end Go.Proofs.Ytcjcjkomcolgeaa

/-
  The reference of chapter 35: Play. (Printed by gen_dy.py.) No condition.
-/
namespace Go.Proofs.Ytcjcjkomcolgeaa
open Go.RowKit
attribute [local go_sem ↓ high] app_named

def StsN (w : World) (K : Nat) (v : Value) (l : List St) : Prop := ∃ b c, v = .slice (some ⟨b, 0, none⟩) l.length c ∧ l.length ≤ c ∧ l.length ≤ maxLen ∧ b ≠ K ∧ b < w.heap.size ∧ ∀ i, i < l.length → ∀ j, j < 6 → w.cell? ⟨b, 0 + (i * 6 + j), none⟩ = some (((l.getD i St.zero).cells).getD j undef)
theorem StsN.at {w : World} {K : Nat} {v : Value} {l : List St} (h : StsN w K v l) : StsAt w w.heap.size v l := by
  obtain ⟨b, c, hv, _, hm, _, hb, hc⟩ := h
  exact ⟨_, c, hv, hm, fun i hi => ⟨b, 0, rfl, hb, hc i hi⟩⟩
theorem StsN.later {w w' : World} {K : Nat} {v : Value} {l : List St} (h : StsN w K v l) (hb : Below w.heap.size w w') : StsN w' K v l := by
  obtain ⟨b, c, hv, h1, hm, h2, h3, hc⟩ := h
  exact ⟨b, c, hv, h1, hm, h2, Nat.lt_of_lt_of_le h3 hb.size, fun i hi j hj => (hb.cell h3).trans (hc i hi j hj)⟩
theorem StsN.set {w : World} {K : Nat} {v : Value} {l : List St} (h : StsN w K v l) (o : Nat) (u : Value) : StsN (w.setCell ⟨K, o, none⟩ u) K v l := by
  obtain ⟨b, c, hv, h1, hm, h2, h3, hc⟩ := h
  exact ⟨b, c, hv, h1, hm, h2, by simpa using h3, fun i hi j hj => (World.cell?_setCell_far _ _ _ _ (by dsimp only; omega)).trans (hc i hi j hj)⟩
def midL (a b : List Bool) (n j : Nat) : List Bool := (List.range n).map (midK a b j)
theorem midL_len {a b : List Bool} {n j : Nat} : (midL a b n j).length = n := by simp [midL]
theorem midL_zero {a b : List Bool} {n : Nat} (h : a.length = n) : midL a b n 0 = a := by
  refine List.ext_getElem (by rw [midL_len, h]) fun i h1 h2 => ?_
  simp only [midL, List.getElem_map, List.getElem_range, midK_zero]
  exact getD_at h2
theorem midL_end {a b : List Bool} {n : Nat} : midL a b n n = orL a b n := by
  unfold midL orL
  refine List.map_congr_left fun i hi => ?_
  unfold midK
  rw [if_pos (List.mem_range.1 hi)]
theorem midL_set {a b : List Bool} {n j : Nat} (hj : j < n) : ((midL a b n j).map Value.bool).set j (.bool (a.getD j false || b.getD j false)) = (midL a b n (j + 1)).map Value.bool := by
  refine List.ext_getElem (by simp [midL]) fun i h1 h2 => ?_
  rw [List.getElem_set]
  by_cases hij : j = i
  · subst hij
    simp [midL, midK_new]
  · rw [if_neg hij]
    simp only [midL, List.getElem_map, List.getElem_range]
    rw [midK_old (by omega)]
theorem midL_at {a b : List Bool} {n j : Nat} (hj : j < n) : ((midL a b n j).map Value.bool)[j]? = some (.bool (a.getD j false)) := by
  rw [List.getElem?_eq_getElem (by rw [List.length_map, midL_len]; exact hj)]
  simp [midL, midK_now]
end Go.Proofs.Ytcjcjkomcolgeaa
