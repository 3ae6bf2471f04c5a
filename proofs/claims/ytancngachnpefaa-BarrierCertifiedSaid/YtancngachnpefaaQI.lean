/- Contracts of Check, Few, Holds of acequiaref31. No condition. -/
import Derived.Test.YtancngachnpefaaQH
set_option linter.unusedVariables false
set_option linter.unusedSimpArgs false
namespace Go.Proofs.Ytancngachnpefaa
open Go.RowKit
abbrev Cn.v (c : Cn) : Value := .agg #[.int .i64 c.var, .int .i64 c.op, .int .i64 c.n]
end Go.Proofs.Ytancngachnpefaa
namespace Go.Proofs.Ytancngachnpefaa
open Go.RowKit
theorem gate_ok {code : List Ln} (h : gateB code = true) {k : Nat} (hk : k < code.length) {j : Nat} (hj : j < (code[k]).conds.length) : (0 ≤ ((code[k]).conds[j]).var ∧ ((code[k]).conds[j]).var ≤ 4) ∧ 1 ≤ ((code[k]).conds[j]).op ∧ ((code[k]).conds[j]).op ≤ 5 := by
  simp only [gateB, Bool.and_eq_true, List.all_eq_true] at h
  have h1 := h.2 _ (List.getElem_mem hk)
  simp only [Ln.okB, Bool.and_eq_true, List.all_eq_true] at h1
  have h2 := of_decide_eq_true (h1.2.2 _ (List.getElem_mem hj))
  exact ⟨h2.1, h2.2.1⟩
theorem gate_small {code : List Ln} (h : gateB code = true) : code.length ≤ 64 ∧ ∀ k (hk : k < code.length), (code[k]).conds.length ≤ 4 := by
  simp only [gateB, Bool.and_eq_true, List.all_eq_true] at h
  refine ⟨of_decide_eq_true h.1, fun k hk => ?_⟩
  have h1 := h.2 _ (List.getElem_mem hk)
  simp only [Ln.okB, Bool.and_eq_true] at h1
  exact of_decide_eq_true h1.1
theorem first_none {code : List Ln} {r : Vr} (h : code.all (fun l => !l.holdsB r) = true) : firstT code r = (0, false) := by
  unfold firstT
  rw [List.find?_eq_none.2 (fun x hx => by have := (List.all_eq_true.1 h) x hx; simpa using this)]
theorem Vr.at_cell (r : Vr) (i : Nat) (hi : i < 5) : ([.int .i64 r.v0, .int .i64 r.v1, .int .i64 r.v2, .int .i64 r.v3, .int .i64 r.v4] : List Value)[i]? = some (.int .i64 (r.at (i : Int))) := by
  rcases (show i = 0 ∨ i = 1 ∨ i = 2 ∨ i = 3 ∨ i = 4 by omega) with rfl | rfl | rfl | rfl | rfl <;> rfl
end Go.Proofs.Ytancngachnpefaa
