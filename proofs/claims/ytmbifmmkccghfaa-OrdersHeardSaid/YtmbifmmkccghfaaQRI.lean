/- Contract of Tick of orders. (Printed by pp.py.) No condition. -/
import Derived.Test.YtmbifmmkccghfaaQRE
set_option linter.unusedVariables false
set_option linter.unusedSimpArgs false
namespace Go.Proofs.Ytmbifmmkccghfaa
open Go.RowKit Go.Shelf
attribute [local go_sem] Oper.semAt_some
attribute [local go_sem ↓ high] app_named

def RetTick (t : Bx × List Int × Int) (w : World) (e : Ending) (w' : World) : Prop := ∃ Vq Va Vs Vh Vf Vl, e = .returned (.tuple #[.agg #[Vq, Va, Vs, Vh, Vf], Vl, .int .i64 t.2.2]) ∧ BxAt w' w'.heap.size Vq Va Vs Vh Vf t.1 ∧ HdAt w' w'.heap.size Vl t.2.1 ∧ Below w.heap.size w w'
theorem tick_no {b : Bx} {c : Int} (h : b.checkT = c) (h0 : c ≠ 0) : b.tickT = (Bx.zero, [], c) := by
  unfold Bx.checkT at h
  unfold Bx.tickT
  by_cases hk : b.okB = true
  · rw [if_pos hk] at h
    exact absurd h.symm h0
  · rw [if_neg hk] at h ⊢
    rw [h]
theorem check_ok {b : Bx} (h : b.checkT = 0) : b.okB = true := by
  unfold Bx.checkT at h
  split at h
  · assumption
  · cases h
theorem tick_yes {b : Bx} (h : b.okB = true) : b.tickT = (⟨b.net, b.sent, b.heard, List.replicate b.heard.length false⟩, (List.range b.heard.length).map b.orderB, 0) := by rw [Bx.tickT, if_pos h]
end Go.Proofs.Ytmbifmmkccghfaa
