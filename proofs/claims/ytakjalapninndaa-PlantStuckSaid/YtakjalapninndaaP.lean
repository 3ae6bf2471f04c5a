/-
  Contract of Step of acequiaref32, joined. (Printed by gen_o.py.)
-/
import Derived.Test.YtakjalapninndaaO
namespace Go.Proofs.Ytakjalapninndaa
open Go.RowKit

theorem firstT_bd {code : List Ln} {r : Vr} (h : gateB code = true) : 0 ≤ (firstT code r).1 ∧ (firstT code r).1 ≤ 1099511627776 := by
  unfold firstT
  split
  · rename_i l hl
    have hm := List.mem_of_find?_eq_some hl
    simp only [gateB, Bool.and_eq_true, List.all_eq_true] at h
    have h1 := h.2 _ hm
    simp only [Ln.okB, Bool.and_eq_true] at h1
    exact of_decide_eq_true h1.2.1
  · exact ⟨Int.le_refl _, by decide⟩
theorem small_of {p : Pl} {s : St} {x : Sh} (hv : p.Valid) (hs : p.hasB s = true) (hc : chosenB p x = true) : Small p s x := by
  obtain ⟨h1, h2, h3, h4, h5, h6⟩ := Pl.hasB_bd hs
  simp only [chosenB, Bool.and_eq_true] at hc
  have c1 := inI_yes hc.1
  obtain ⟨k1, k2, k3, k4, k5, k6, k7, k8, k9, k10, k11, k12⟩ := hv
  refine ⟨k1, k5, k6, k7, k12, by omega, h2, ⟨h3.1, ?_⟩, ⟨h4.1, ?_⟩, by omega, by omega⟩
  · have := h3.2; split at this <;> omega
  · have := h4.2; split at this <;> omega

theorem pipe_zero {p : Pl} {s : St} (hs : p.hasB s = true) (hp : p.pipe = 0) : s.p0 = 0 ∧ s.p1 = 0 := by
  obtain ⟨_, _, h3, h4, _⟩ := Pl.hasB_bd hs
  rw [hp] at h3 h4
  simp at h3 h4
  omega

theorem rstep_any (p : Pl) (code : List Ln) (V : Value) (s : St) (x : Sh) (w : World) (hC : CodeAt w w.heap.size V code) (hv : p.Valid) (hs : p.hasB s = true) (hc : chosenB p x = true) (hg : gateB code = true) :
    Calls Try.prog 36 #[p.v, .agg #[V], s.v, x.v] w fun e w' => e = .returned (.tuple #[(stepT p code s x).v, .int .i64 (outT p code s x)]) ∧ Below w.heap.size w w' := by
  have S := small_of hv hs hc
  have hgd := firstT_bd (r := varsT p s x) hg
  obtain ⟨g, ok, hF⟩ : ∃ g ok, firstT code (varsT p s x) = (g, ok) := ⟨_, _, rfl⟩
  have hR : runT code (varsT p s x) = (g, ok, 0) := by rw [runT, if_pos hg, hF]
  rw [hF] at hgd
  dsimp only at hgd
  have hpi := hv.pipe
  by_cases hm : 0 ≤ x.msg
  · rcases (show p.pipe = 0 ∨ p.pipe = 1 ∨ p.pipe = 2 by omega) with hp | hp | hp
    · have e : varsT p s x = ⟨s.level, s.position, x.msg, 0, x.feed⟩ := by simp [varsT, heardT, fedT, hp, hm]
      rw [e] at hR
      obtain ⟨q0, q1⟩ := pipe_zero hs hp
      rcases ok with _ | _
      · exact (rstep_100 p code V s x w hC S g hp hm hR hgd).mono fun _ _ ⟨he, hb⟩ => ⟨by rw [he]; simp [stepT, outT, movedT, hF, fedT, heardT, hp, hm, q0, q1], hb⟩
      · exact (rstep_101 p code V s x w hC S g hp hm hR hgd).mono fun _ _ ⟨he, hb⟩ => ⟨by rw [he]; simp [stepT, outT, movedT, hF, fedT, heardT, hp, hm, q0, q1], hb⟩
    · have e : varsT p s x = ⟨s.level, s.position, x.msg, 0, s.p0⟩ := by simp [varsT, heardT, fedT, hp, hm]
      rw [e] at hR
      rcases ok with _ | _
      · exact (rstep_110 p code V s x w hC S g hp hm hR hgd).mono fun _ _ ⟨he, hb⟩ => ⟨by rw [he]; simp [stepT, outT, movedT, hF, fedT, heardT, hp, hm], hb⟩
      · exact (rstep_111 p code V s x w hC S g hp hm hR hgd).mono fun _ _ ⟨he, hb⟩ => ⟨by rw [he]; simp [stepT, outT, movedT, hF, fedT, heardT, hp, hm], hb⟩
    · have e : varsT p s x = ⟨s.level, s.position, x.msg, 0, s.p0⟩ := by simp [varsT, heardT, fedT, hp, hm]
      rw [e] at hR
      rcases ok with _ | _
      · exact (rstep_120 p code V s x w hC S g hp hm hR hgd).mono fun _ _ ⟨he, hb⟩ => ⟨by rw [he]; simp [stepT, outT, movedT, hF, fedT, heardT, hp, hm], hb⟩
      · exact (rstep_121 p code V s x w hC S g hp hm hR hgd).mono fun _ _ ⟨he, hb⟩ => ⟨by rw [he]; simp [stepT, outT, movedT, hF, fedT, heardT, hp, hm], hb⟩
  · rcases (show p.pipe = 0 ∨ p.pipe = 1 ∨ p.pipe = 2 by omega) with hp | hp | hp
    · have e : varsT p s x = ⟨s.level, s.position, s.order, min (s.age + 1) p.age, x.feed⟩ := by simp [varsT, heardT, fedT, hp, hm]
      rw [e] at hR
      obtain ⟨q0, q1⟩ := pipe_zero hs hp
      rcases ok with _ | _
      · exact (rstep_000 p code V s x w hC S g hp (by omega) hR hgd).mono fun _ _ ⟨he, hb⟩ => ⟨by rw [he]; simp [stepT, outT, movedT, hF, fedT, heardT, hp, hm, q0, q1], hb⟩
      · exact (rstep_001 p code V s x w hC S g hp (by omega) hR hgd).mono fun _ _ ⟨he, hb⟩ => ⟨by rw [he]; simp [stepT, outT, movedT, hF, fedT, heardT, hp, hm, q0, q1], hb⟩
    · have e : varsT p s x = ⟨s.level, s.position, s.order, min (s.age + 1) p.age, s.p0⟩ := by simp [varsT, heardT, fedT, hp, hm]
      rw [e] at hR
      rcases ok with _ | _
      · exact (rstep_010 p code V s x w hC S g hp (by omega) hR hgd).mono fun _ _ ⟨he, hb⟩ => ⟨by rw [he]; simp [stepT, outT, movedT, hF, fedT, heardT, hp, hm], hb⟩
      · exact (rstep_011 p code V s x w hC S g hp (by omega) hR hgd).mono fun _ _ ⟨he, hb⟩ => ⟨by rw [he]; simp [stepT, outT, movedT, hF, fedT, heardT, hp, hm], hb⟩
    · have e : varsT p s x = ⟨s.level, s.position, s.order, min (s.age + 1) p.age, s.p0⟩ := by simp [varsT, heardT, fedT, hp, hm]
      rw [e] at hR
      rcases ok with _ | _
      · exact (rstep_020 p code V s x w hC S g hp (by omega) hR hgd).mono fun _ _ ⟨he, hb⟩ => ⟨by rw [he]; simp [stepT, outT, movedT, hF, fedT, heardT, hp, hm], hb⟩
      · exact (rstep_021 p code V s x w hC S g hp (by omega) hR hgd).mono fun _ _ ⟨he, hb⟩ => ⟨by rw [he]; simp [stepT, outT, movedT, hF, fedT, heardT, hp, hm], hb⟩

end Go.Proofs.Ytakjalapninndaa
