/- A cascade of one gate, hour by hour: plain facts, and how it lies in memory. (Printed by pp.py.) No condition. -/
import Derived.Test.YtcjcjkomcolgeaaQEN
set_option linter.unusedVariables false
set_option linter.unusedSimpArgs false
namespace Go.Proofs.Ytcjcjkomcolgeaa
open Go.RowKit

theorem one_step {p : Pl} {c : List Ln} {S : List Sp} {i : Nat} (hR : CsRight (oneC p c) 1) (hv : S.all (oneC p c).stepB = true) (hi : i < S.length) :
    ∃ o, nextT p (if (S[i]).stuck.getD 0 false = true then [] else c) (oneSt p c S i) ⟨(S[i]).feed, (S[i]).msgs.getD 0 0⟩ = (oneSt p c S (i + 1), o, 0) ∧ ((S[i]).stuck.getD 0 false = true → (oneSt p c S (i + 1)).position = (oneSt p c S i).position) := by
  obtain ⟨g, h1, h2⟩ := one_play hv (k := i) (by omega)
  have has := (playK_ok hR hv (by omega) h1).1
  have hsv : (oneC p c).stepB S[i] = true := List.all_eq_true.1 hv _ (List.getElem_mem _)
  have hsv2 := hsv
  simp only [Cs.stepB, Bool.and_eq_true] at hsv2
  have hf := inI_yes hsv2.2.2.1
  obtain ⟨e0, _, _⟩ := go_ok hR has hsv (by omega) hf.1 hf.2
  have e1 : oneSt p c S (i + 1) = (nextT p (if (S[i]).stuck.getD 0 false = true then [] else c) (oneSt p c S i) ⟨(S[i]).feed, (S[i]).msgs.getD 0 0⟩).1 := by
    rw [oneSt, getD_at hi]
  have e2 : (nextT p (if (S[i]).stuck.getD 0 false = true then [] else c) (oneSt p c S i) ⟨(S[i]).feed, (S[i]).msgs.getD 0 0⟩).2.2 = 0 := by
    rw [h2] at e0
    exact e0
  refine ⟨_, Prod.ext e1.symm (Prod.ext rfl e2), fun hk => ?_⟩
  rw [if_pos hk] at e1 e2
  rw [e1]
  exact one_pos e2
theorem one_playT {p : Pl} {c : List Ln} {S : List Sp} {j : Nat} (hR : CsRight (oneC p c) 1) (hv : S.all (oneC p c).stepB = true) (hl : S.length ≤ 4096) (hj : j ≤ S.length) : ∃ bad, (oneC p c).playT (S.take j) = ([oneSt p c S j], bad, 0) := by
  obtain ⟨g, h1, h2⟩ := one_play hv hj
  have hlen : (S.take j).length = j := by rw [List.length_take]; omega
  have h3 : (oneC p c).playK (S.take j) (S.take j).length = some g := by rw [hlen, playK_take (Nat.le_refl j), h1]
  have h4 : (S.take j).all (oneC p c).stepB = true := List.all_eq_true.2 fun s hs => List.all_eq_true.1 hv s (List.mem_of_mem_take hs)
  exact ⟨g.bad, by rw [playT_go (right_zero hR) (by omega) h4, endT_some h3, h2]⟩
theorem one_at {W : World} {p : Pl} {c : List Ln} {V : Value} {a b d : Nat} (h1 : Box W a [.int .i64 p.top, .int .i64 p.bank, .int .i64 p.siphon, .int .i64 p.start, .int .i64 p.positions, .int .i64 p.rate, .int .i64 p.step, .int .i64 p.pass, .int .i64 p.feed, .int .i64 p.pipe, .int .i64 p.orders, .int .i64 p.age]) (h2 : Box W b [V]) (h3 : Box W d [.slice none 0 0]) (hC : CodeAt W W.heap.size V c) : CsAt W W.heap.size (.slice (some ⟨a, 0, none⟩) 1 1) (.slice (some ⟨b, 0, none⟩) 1 1) (.slice (some ⟨d, 0, none⟩) 1 1) (oneC p c) := by
  refine ⟨⟨_, _, rfl, by simp [maxLen, oneC], fun i hi => ?_⟩, ⟨fun _ => V, ⟨_, _, rfl, by simp [maxLen, oneC], fun i hi => ?_⟩, fun i u hu => ?_⟩, ⟨fun _ => .slice none 0 0, ⟨_, _, rfl, by simp [maxLen, oneC], fun i hi => ?_⟩, fun i u hu => ?_⟩⟩
  · obtain rfl : i = 0 := by simpa [oneC] using hi
    refine ⟨a, 0, rfl, h1.lt, fun j hj => ?_⟩
    rw [Nat.zero_mul, Nat.zero_add, Nat.zero_add, h1.cell]
    rcases (show j = 0 ∨ j = 1 ∨ j = 2 ∨ j = 3 ∨ j = 4 ∨ j = 5 ∨ j = 6 ∨ j = 7 ∨ j = 8 ∨ j = 9 ∨ j = 10 ∨ j = 11 by omega) with rfl | rfl | rfl | rfl | rfl | rfl | rfl | rfl | rfl | rfl | rfl | rfl <;> rfl
  · obtain rfl : i = 0 := by simpa [oneC] using hi
    refine ⟨b, 0, rfl, h2.lt, fun j hj => ?_⟩
    obtain rfl : j = 0 := by omega
    exact h2.cell 0
  · match i, hu with
    | 0, hu =>
      obtain rfl : c = u := by simpa [oneC] using hu
      exact hC
    | i + 1, hu => simp [oneC] at hu
  · obtain rfl : i = 0 := by simpa [oneC] using hi
    refine ⟨d, 0, rfl, h3.lt, fun j hj => ?_⟩
    obtain rfl : j = 0 := by omega
    exact h3.cell 0
  · match i, hu with
    | 0, hu =>
      obtain rfl : [] = u := by simpa [oneC] using hu
      exact ⟨none, 0, rfl, by simp [maxLen], fun i hi => absurd hi (Nat.not_lt_zero _)⟩
    | i + 1, hu => simp [oneC] at hu
end Go.Proofs.Ytcjcjkomcolgeaa
