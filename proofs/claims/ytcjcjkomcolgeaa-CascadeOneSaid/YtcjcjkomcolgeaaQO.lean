/- Contract of Step of acequiaref32. (Printed by gen_o.py.) -/
import Derived.Test.YtcjcjkomcolgeaaQF
import Derived.Test.YtcjcjkomcolgeaaQJ
import Derived.Lib.MinMax
set_option linter.unusedVariables false
set_option linter.unusedSimpArgs false
namespace Go.Proofs.Ytcjcjkomcolgeaa
open Go.RowKit

structure Small (p : Pl) (s : St) (x : Sh) : Prop where
  top : 1 ≤ p.top ∧ p.top ≤ 63
  positions : 1 ≤ p.positions ∧ p.positions ≤ 15
  rate : 1 ≤ p.rate ∧ p.rate ≤ 15
  step : 1 ≤ p.step ∧ p.step ≤ 15
  age : 0 ≤ p.age ∧ p.age ≤ 7
  level : 0 ≤ s.level ∧ s.level ≤ 63
  position : 0 ≤ s.position ∧ s.position ≤ p.positions
  p0 : 0 ≤ s.p0 ∧ s.p0 ≤ 15
  p1 : 0 ≤ s.p1 ∧ s.p1 ≤ 15
  sage : 0 ≤ s.age ∧ s.age ≤ 7
  feed : 0 ≤ x.feed ∧ x.feed ≤ 15

end Go.Proofs.Ytcjcjkomcolgeaa

/-
  Contract of Step of acequiaref32, joined. (Printed by gen_o.py.)
-/
namespace Go.Proofs.Ytcjcjkomcolgeaa
open Go.RowKit

theorem firstT_bd {code : List Ln} {r : Vr} (h : gateB code = true) : 0 ≤ (firstT code r).1 ∧ (firstT code r).1 ≤ 1099511627776 := by
  unfold firstT
  split
  · rename_i l hl
    have hm := List.mem_of_find?_eq_some hl
    simp only [gateB, Bool.and_eq_true, List.all_eq_true] at h
    have h1 := h.2 _ hm
    simp only [Ln.okB, Bool.and_eq_true] at h1
    exact of_decide_eq_true h1.2.1
  · exact ⟨Int.le_refl _, by decide⟩
theorem small_of {p : Pl} {s : St} {x : Sh} (hv : p.Valid) (hs : p.hasB s = true) (hc : chosenB p x = true) : Small p s x := by
  obtain ⟨h1, h2, h3, h4, h5, h6⟩ := Pl.hasB_bd hs
  simp only [chosenB, Bool.and_eq_true] at hc
  have c1 := inI_yes hc.1
  obtain ⟨k1, k2, k3, k4, k5, k6, k7, k8, k9, k10, k11, k12⟩ := hv
  refine ⟨k1, k5, k6, k7, k12, by omega, h2, ⟨h3.1, ?_⟩, ⟨h4.1, ?_⟩, by omega, by omega⟩
  · have := h3.2; split at this <;> omega
  · have := h4.2; split at this <;> omega

end Go.Proofs.Ytcjcjkomcolgeaa
