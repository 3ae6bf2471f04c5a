/-
  Law 9 of chapter 32: PlantSafe. (Printed by gen_x9.py.)
-/
import Derived.Test.YtakjalapninndaaAG
import Derived.Test.YtakjalapninndaaAJ
import Derived.Lib.MinMax
import Derived.RegionTactic
import Derived.BigRegion
namespace Go.Proofs.Ytakjalapninndaa
open Go.RowKit

theorem law_PlantSafe (p : Pl) (s : St) (m : Int) (w : World) (hm : 0 ≤ m ∧ m ≤ 255) : Calls Try.prog 9 #[p.v, s.v, .int .u8 m] w fun e w' => e = .returned (.bool true) ∧ Below w.heap.size w w' := by
  by_cases hc : p.checkT = 0
  · have hf : p.beginT = ((⟨p.start, 0, 0, 0, 0, p.age⟩ : St), 0) := by rw [Pl.beginT, if_pos hc]
    have hst := Pl.first_safe hc
    have hv := (Pl.check_zero hc).1
    rcases hh : p.hasB s with _ | _
    · have hq : p.safeT s = (false, 320) := by rw [Pl.safeT, if_pos hc, if_neg (by rw [hh]; decide)]
      by_cases k1 : p.siphon ≤ p.start
      · by_cases k2 : p.start ≤ p.bank
        · rw [decide_eq_true (show p.siphon ≤ p.start ∧ p.start ≤ p.bank from ⟨k1, k2⟩)] at hst
          exact law9_out2 p s m w hc hf hst k1 k2 hq
        · rw [decide_eq_false (fun h : p.siphon ≤ p.start ∧ p.start ≤ p.bank => k2 h.2)] at hst
          exact law9_out1 p s m w hc hf hst k1 (by omega) hq
      · rw [decide_eq_false (fun h : p.siphon ≤ p.start ∧ p.start ≤ p.bank => k1 h.1)] at hst
        exact law9_out0 p s m w hc hf hst (by omega) hq
    · obtain ⟨r, hr, hgr⟩ := Pl.more_safe hm.1 hc hh
      have hq : p.safeT s = (p.goodB s, 0) := by rw [Pl.safeT, if_pos hc, if_pos hh]
      by_cases k1 : p.siphon ≤ p.start
      · by_cases k2 : p.start ≤ p.bank
        · rw [decide_eq_true (show p.siphon ≤ p.start ∧ p.start ≤ p.bank from ⟨k1, k2⟩)] at hst
          by_cases l1 : p.siphon ≤ s.level
          · by_cases l2 : s.level ≤ p.bank
            · by_cases l3 : p.rate * s.position ≤ p.pass
              · have hg : p.goodB s = true := decide_eq_true ⟨l1, l2, l3⟩
                rw [hg] at hq
                exact law9_23 p s m w hc hf hst k1 k2 l1 l2 l3 hq hv hh hm.1 hm.2 r hr (hgr hg)
              · rw [Pl.goodB, decide_eq_false (fun h : p.siphon ≤ s.level ∧ s.level ≤ p.bank ∧ p.rate * s.position ≤ p.pass => l3 h.2.2)] at hq
                exact law9_22 p s m w hc hf hst k1 k2 l1 l2 (by omega) hq hv hh hm.1 hm.2 r hr
            · rw [Pl.goodB, decide_eq_false (fun h : p.siphon ≤ s.level ∧ s.level ≤ p.bank ∧ p.rate * s.position ≤ p.pass => l2 h.2.1)] at hq
              exact law9_21 p s m w hc hf hst k1 k2 l1 (by omega) hq hv hh hm.1 hm.2 r hr
          · rw [Pl.goodB, decide_eq_false (fun h : p.siphon ≤ s.level ∧ s.level ≤ p.bank ∧ p.rate * s.position ≤ p.pass => l1 h.1)] at hq
            exact law9_20 p s m w hc hf hst k1 k2 (by omega) hq hv hh hm.1 hm.2 r hr
        · rw [decide_eq_false (fun h : p.siphon ≤ p.start ∧ p.start ≤ p.bank => k2 h.2)] at hst
          by_cases l1 : p.siphon ≤ s.level
          · by_cases l2 : s.level ≤ p.bank
            · by_cases l3 : p.rate * s.position ≤ p.pass
              · have hg : p.goodB s = true := decide_eq_true ⟨l1, l2, l3⟩
                rw [hg] at hq
                exact law9_13 p s m w hc hf hst k1 (by omega) l1 l2 l3 hq hv hh hm.1 hm.2 r hr (hgr hg)
              · rw [Pl.goodB, decide_eq_false (fun h : p.siphon ≤ s.level ∧ s.level ≤ p.bank ∧ p.rate * s.position ≤ p.pass => l3 h.2.2)] at hq
                exact law9_12 p s m w hc hf hst k1 (by omega) l1 l2 (by omega) hq hv hh hm.1 hm.2 r hr
            · rw [Pl.goodB, decide_eq_false (fun h : p.siphon ≤ s.level ∧ s.level ≤ p.bank ∧ p.rate * s.position ≤ p.pass => l2 h.2.1)] at hq
              exact law9_11 p s m w hc hf hst k1 (by omega) l1 (by omega) hq hv hh hm.1 hm.2 r hr
          · rw [Pl.goodB, decide_eq_false (fun h : p.siphon ≤ s.level ∧ s.level ≤ p.bank ∧ p.rate * s.position ≤ p.pass => l1 h.1)] at hq
            exact law9_10 p s m w hc hf hst k1 (by omega) (by omega) hq hv hh hm.1 hm.2 r hr
      · rw [decide_eq_false (fun h : p.siphon ≤ p.start ∧ p.start ≤ p.bank => k1 h.1)] at hst
        by_cases l1 : p.siphon ≤ s.level
        · by_cases l2 : s.level ≤ p.bank
          · by_cases l3 : p.rate * s.position ≤ p.pass
            · have hg : p.goodB s = true := decide_eq_true ⟨l1, l2, l3⟩
              rw [hg] at hq
              exact law9_03 p s m w hc hf hst (by omega) l1 l2 l3 hq hv hh hm.1 hm.2 r hr (hgr hg)
            · rw [Pl.goodB, decide_eq_false (fun h : p.siphon ≤ s.level ∧ s.level ≤ p.bank ∧ p.rate * s.position ≤ p.pass => l3 h.2.2)] at hq
              exact law9_02 p s m w hc hf hst (by omega) l1 l2 (by omega) hq hv hh hm.1 hm.2 r hr
          · rw [Pl.goodB, decide_eq_false (fun h : p.siphon ≤ s.level ∧ s.level ≤ p.bank ∧ p.rate * s.position ≤ p.pass => l2 h.2.1)] at hq
            exact law9_01 p s m w hc hf hst (by omega) l1 (by omega) hq hv hh hm.1 hm.2 r hr
        · rw [Pl.goodB, decide_eq_false (fun h : p.siphon ≤ s.level ∧ s.level ≤ p.bank ∧ p.rate * s.position ≤ p.pass => l1 h.1)] at hq
          exact law9_00 p s m w hc hf hst (by omega) (by omega) hq hv hh hm.1 hm.2 r hr
  · have hq : p.safeT s = (false, p.checkT) := by rw [Pl.safeT, if_neg hc]
    exact law9_bad p s m w _ hq rfl (by simp [hc]) (by simp [hc])

end Go.Proofs.Ytakjalapninndaa
