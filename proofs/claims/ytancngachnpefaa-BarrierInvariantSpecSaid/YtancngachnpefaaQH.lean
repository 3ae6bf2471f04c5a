/- Contracts of gatecode.Check. No condition. -/
import Derived.Test.YtancngachnpefaaQK
set_option linter.unusedVariables false
set_option linter.unusedSimpArgs false
set_option maxRecDepth 100000
set_option maxHeartbeats 4000000
namespace Go.Proofs.Ytancngachnpefaa
open Go.RowKit
theorem gwithin_any (n lo hi : Int) (w : World) : Calls Try.prog 71 #[.int .i64 n, .int .i64 lo, .int .i64 hi] w fun e w' => e = .returned (.bool (inI n lo hi)) ∧ w = w' := by
  by_cases h1 : lo ≤ n
  · by_cases h2 : n ≤ hi
    · go_enter Try.func71, Try.ntmps71
      go_wp2
      go_ret
      exact ⟨by rw [inI, decide_eq_true ⟨h1, h2⟩]; rfl, rfl⟩
    · go_enter Try.func71, Try.ntmps71
      go_wp2
      go_ret
      exact ⟨by rw [inI, decide_eq_false (by omega)]; rfl, rfl⟩
  · go_enter Try.func71, Try.ntmps71
    go_wp2
    go_ret
    exact ⟨by rw [inI, decide_eq_false (by omega)]; rfl, rfl⟩
theorem all_take {α : Type} (l : List α) (f : α → Bool) {k : Nat} (hk : k < l.length) : (l.take (k + 1)).all f = ((l.take k).all f && f l[k]) := by
  rw [List.take_succ_eq_append_getElem hk, List.all_append]
  simp
theorem all_bad {α : Type} {l : List α} {f : α → Bool} {k : Nat} (hk : k < l.length) (h : f l[k] = false) : l.all f = false := by
  rw [List.all_eq_false]
  exact ⟨_, List.getElem_mem hk, by rw [h]; decide⟩
theorem gcheck_small (code : List Ln) (A : Option Addr) (c : Nat) (w : World) (hC : CodeAt w w.heap.size (.slice A code.length c) code) (hn : code.length ≤ 64) :
    Calls Try.prog 56 #[.agg #[.slice A code.length c]] w fun e w' => e = .returned (.int .i64 (gateT code)) ∧ Below w.heap.size w w' := by
  obtain ⟨n, hnn⟩ : ∃ n, code.length = n := ⟨_, rfl⟩
  rw [hnn] at hn hC ⊢
  have HC := Lib.hid hC
  have HN := Lib.hid hnn
  clear hC hnn
  go_enter Try.func56, Try.ntmps56
  go_wp2_with fail
  go_loopw [15] (fun i wr => ∃ k : Nat, k ≤ n ∧ i = .int .i64 k ∧ Below w.heap.size w wr ∧ Hid ((code.take k).all Ln.okB = true)) (fun i _ => n - (intOf i).toNat)
  case atStart => exact ⟨0, by omega, rfl, by repeat (first | exact Below.refl _ _ | refine Below.alloc ?_ (by simp <;> omega) _), rfl⟩
  case round =>
    obtain ⟨k, hk, rfl, hb, hall⟩ := hrel
    by_cases hlt : k < n
    · have hkl : k < code.length := by rw [HN.out]; exact hlt
      obtain ⟨b, off, V, rfl, hbw, p0, p1, hV⟩ := HC.out.line hkl
      have p0 := (hb.cell hbw).trans p0
      have p1 := (hb.cell hbw).trans p1
      obtain ⟨A', c', rfl, hm⟩ := hV.form
      obtain ⟨l, hl⟩ : ∃ l, code[k] = l := ⟨_, rfl⟩
      rw [hl] at p0 p1 hV hm
      have hbad := all_bad (f := Ln.okB) hkl
      have htk := all_take code Ln.okB hkl
      rw [hl] at hbad htk
      rw [hall.out, Bool.true_and] at htk
      have hbad := Lib.hid hbad
      have htk := Lib.hid htk
      clear hl
      obtain ⟨m, hmm⟩ : ∃ m, l.conds.length = m := ⟨_, rfl⟩
      rw [hmm] at p0 hV hm
      unfold maxLen at hm
      have HM := Lib.hid hmm
      clear hmm
      have HV := Lib.hid hV
      clear hV
      rcases hs : inI l.set 0 1099511627776 with _ | _
      · go_wp2_with (go_at_call 71; refine (gwithin_any _ _ _ _).mono ?_; rintro e w' ⟨rfl, rfl⟩)
        all_goals
          go_ret
          refine ⟨?_, hb.alloc hb.size _⟩
          have : l.okB = false := by
            have h1 := inI_no hs
            simp only [Ln.okB, Bool.and_eq_false_iff, decide_eq_false_iff_not]
            exact .inr (.inl h1)
          rw [gateT, gateB, hbad.out this, Bool.and_false]
          rfl
      · by_cases h4 : m ≤ 4
        · go_wp2_with (go_at_call 71; refine (gwithin_any _ _ _ _).mono ?_; rintro e w' ⟨rfl, rfl⟩)
          go_loopw [33] (fun i wr => ∃ j : Nat, j ≤ m ∧ i = .int .i64 j ∧ Below w.heap.size w wr ∧ Hid ((l.conds.take j).all Cn.okB = true)) (fun i _ => m - (intOf i).toNat)
          case atStart => exact ⟨0, by omega, rfl, hb.alloc hb.size _, rfl⟩
          case round =>
            obtain ⟨j, hj, rfl, hb2, hall2⟩ := hrel
            by_cases hlt2 : j < m
            · have hjl : j < l.conds.length := by rw [HM.out]; exact hlt2
              obtain ⟨b', off', rfl, hbw', q0, q1, q2⟩ := (HV.out.below hb2).cond hjl
              obtain ⟨y, hy⟩ : ∃ y, l.conds[j] = y := ⟨_, rfl⟩
              rw [hy] at q0 q1 q2
              have hbad2 := all_bad (f := Cn.okB) hjl
              have htk2 := all_take l.conds Cn.okB hjl
              rw [hy] at hbad2 htk2
              rw [hall2.out, Bool.true_and] at htk2
              have hbad2 := Lib.hid hbad2
              have htk2 := Lib.hid htk2
              clear hy
              rcases g0 : inI y.var 0 4 with _ | _
              all_goals rcases g1 : inI y.op 1 5 with _ | _
              all_goals rcases g2 : inI y.n 0 1099511627776 with _ | _
              all_goals go_wp2_with (go_at_call 71; refine (gwithin_any _ _ _ _).mono ?_; rintro e w' ⟨rfl, rfl⟩)
              all_goals first
                | (refine ⟨⟨j + 1, by omega, by go_num, hb2.alloc hb2.size _, ?_⟩, by simp [intOf]; omega⟩
                   rw [Hid, htk2.out, Cn.okB]
                   exact decide_eq_true ⟨inI_yes g0, inI_yes g1, inI_yes g2⟩)
                | (go_ret
                   refine ⟨?_, hb2.alloc hb2.size _⟩
                   have h1 : y.okB = false := by
                     rw [Cn.okB, decide_eq_false_iff_not]
                     first | exact fun h => inI_no g0 h.1 | exact fun h => inI_no g1 h.2.1 | exact fun h => inI_no g2 h.2.2
                   have : l.okB = false := by
                     rw [Ln.okB, hbad2.out h1, Bool.and_false, Bool.and_false]
                   rw [gateT, gateB, hbad.out this, Bool.and_false]
                   rfl)
            · obtain rfl : j = m := by omega
              go_wp2
              refine ⟨⟨k + 1, by omega, by go_num, hb2, ?_⟩, by simp [intOf]; omega⟩
              rw [Hid, htk.out, Ln.okB, decide_eq_true (show l.conds.length ≤ 4 by rw [HM.out]; exact h4), decide_eq_true (inI_yes hs)]
              have := hall2.out
              rw [← HM.out, List.take_length] at this
              rw [this]
              rfl
        · go_wp2_with (go_at_call 71; refine (gwithin_any _ _ _ _).mono ?_; rintro e w' ⟨rfl, rfl⟩)
          go_ret
          refine ⟨?_, hb.alloc hb.size _⟩
          have : l.okB = false := by
            simp only [Ln.okB, Bool.and_eq_false_iff, decide_eq_false_iff_not]
            exact .inl (by rw [HM.out]; omega)
          rw [gateT, gateB, hbad.out this, Bool.and_false]
          rfl
    · obtain rfl : k = n := by omega
      go_wp2
      go_ret
      refine ⟨?_, hb⟩
      have h1 : code.all Ln.okB = true := by rw [← hall.out, ← HN.out, List.take_length]
      rw [gateT, gateB, h1, decide_eq_true (show code.length ≤ 64 by rw [HN.out]; exact hn)]
      rfl
theorem gcheck_long (code : List Ln) (A : Option Addr) (c : Nat) (w : World) (hn : 64 < code.length) (hm : code.length ≤ 9223372036854775807) :
    Calls Try.prog 56 #[.agg #[.slice A code.length c]] w fun e w' => e = .returned (.int .i64 310) ∧ Below w.heap.size w w' := by
  obtain ⟨n, hnn⟩ : ∃ n, code.length = n := ⟨_, rfl⟩
  rw [hnn] at hn hm ⊢
  clear hnn
  go_enter Try.func56, Try.ntmps56
  go_wp2
  go_ret
  exact ⟨rfl, (Below.refl _ _).alloc (Nat.le_refl _) _⟩
theorem gcheck_any (code : List Ln) (v : Value) (w : World) (hC : CodeAt w w.heap.size v code) :
    Calls Try.prog 56 #[.agg #[v]] w fun e w' => e = .returned (.int .i64 (gateT code)) ∧ Below w.heap.size w w' := by
  obtain ⟨A, c, rfl, hm⟩ := hC.form
  by_cases h : code.length ≤ 64
  · exact gcheck_small code A c w hC h
  · have : gateT code = 310 := by rw [gateT, gateB, decide_eq_false h]; rfl
    rw [this]
    exact gcheck_long code A c w (by omega) hm
end Go.Proofs.Ytancngachnpefaa
