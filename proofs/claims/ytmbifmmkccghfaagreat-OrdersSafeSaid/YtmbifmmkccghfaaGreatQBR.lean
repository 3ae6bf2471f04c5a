/- Contract of Check of package barrier, joined. No condition. -/
import Derived.Test.YtmbifmmkccghfaaGreatQBP
set_option linter.unusedVariables false
set_option linter.unusedSimpArgs false
namespace Go.Proofs.YtmbifmmkccghfaaGreat
open Go.RowKit
theorem bCert_is {p : Pl} {c : List Ln} {b : List Iq} {V U : Value} {w : World} {t : Bool} {f : Fw} {er : Int} (h : Hid (certT p c b = (t, f, er))) (hC : CodeAt w w.heap.size V c) (hQ : BarAt w w.heap.size U b) :
    Calls Tryz.prog 6 #[p.v, .agg #[V], U] w fun e w' => e = .returned (.tuple #[.bool t, f.v, .int .i64 er]) ∧ Below w.heap.size w w' := by
  have h := h.out
  obtain ⟨A1, k, rfl, _⟩ := hQ.form
  obtain ⟨A2, k2, rfl, _⟩ := hC.form
  unfold certT at h
  by_cases h0 : askT p c = 0
  · rw [if_pos h0] at h
    by_cases hb : barT b = 0
    · rw [if_pos hb] at h
      obtain ⟨b0, b1, b2, b3, b4, b5, be, hbe⟩ : ∃ b0 b1 b2 b3 b4 b5 be, Hid (p.beginT = (⟨b0, b1, b2, b3, b4, b5⟩, be)) := ⟨_, _, _, _, _, _, _, rfl⟩
      by_cases hi : inB b p.beginT.1 = true
      · rw [if_pos hi] at h
        have hv := (Pl.check_zero (ask_zero h0).1).1
        rcases hf : p.states.findSome? (flawAt p c b) with _ | f'
        · rw [hf] at h
          simp only [Prod.mk.injEq] at h
          obtain ⟨rfl, rfl, rfl⟩ := h
          exact bCert_3 p c b A1 A2 _ k _ k2 w h0 hb hi hv b0 b1 b2 b3 b4 b5 be hbe true Fw.zero (by rw [Hid, hf]; rfl) (fun _ => rfl) hC hQ
        · rw [hf] at h
          simp only [Prod.mk.injEq] at h
          obtain ⟨rfl, rfl, rfl⟩ := h
          exact bCert_3 p c b A1 A2 _ k _ k2 w h0 hb hi hv b0 b1 b2 b3 b4 b5 be hbe false f' (by rw [Hid, hf]; rfl) (fun e => by cases e) hC hQ
      · rw [if_neg hi] at h
        simp only [Prod.mk.injEq] at h
        obtain ⟨rfl, rfl, rfl⟩ := h
        have hq : p.beginT.1 = ⟨b0, b1, b2, b3, b4, b5⟩ := congrArg Prod.fst hbe.out
        rw [hq]
        exact bCert_2 p c b A1 A2 _ k _ k2 w h0 hb (by rw [Hid]; exact Bool.eq_false_iff.2 hi) b0 b1 b2 b3 b4 b5 be hbe hC hQ
    · rw [if_neg hb] at h
      simp only [Prod.mk.injEq] at h
      obtain ⟨rfl, rfl, h2⟩ := h
      exact bCert_1 p c b A1 A2 _ k _ k2 w er h0 h2 (by rw [← h2]; exact hb) hC hQ
  · rw [if_neg h0] at h
    simp only [Prod.mk.injEq] at h
    obtain ⟨rfl, rfl, h2⟩ := h
    exact bCert_0 p c b A1 A2 _ k _ k2 w er h2 (by rw [← h2]; exact h0) hC hQ
end Go.Proofs.YtmbifmmkccghfaaGreat
