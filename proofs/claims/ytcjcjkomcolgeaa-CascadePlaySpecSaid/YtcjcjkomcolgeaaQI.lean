/- Contracts of Check, Few, Holds of acequiaref31. No condition. -/
import Derived.Test.YtcjcjkomcolgeaaQH
set_option linter.unusedVariables false
set_option linter.unusedSimpArgs false
namespace Go.Proofs.Ytcjcjkomcolgeaa
open Go.RowKit

theorem rwithin_any (n : Int) (w : World) : Calls Try.prog 66 #[.int .i64 n] w fun e w' => e = .returned (.bool (inI n 0 1099511627776)) ∧ w = w' := by
  by_cases h1 : 0 ≤ n
  · by_cases h2 : n ≤ 1099511627776
    · go_enter Try.func66, Try.ntmps66
      go_wp2
      go_ret
      exact ⟨by rw [inI, decide_eq_true ⟨h1, h2⟩]; rfl, rfl⟩
    · go_enter Try.func66, Try.ntmps66
      go_wp2
      go_ret
      exact ⟨by rw [inI, decide_eq_false (by omega)]; rfl, rfl⟩
  · go_enter Try.func66, Try.ntmps66
    go_wp2
    go_ret
    exact ⟨by rw [inI, decide_eq_false (by omega)]; rfl, rfl⟩

set_option maxRecDepth 100000 in
set_option maxHeartbeats 4000000 in
theorem rgcheck_small (code : List Ln) (A : Option Addr) (c : Nat) (w : World) (hC : CodeAt w w.heap.size (.slice A code.length c) code) (hn : code.length ≤ 64) :
    Calls Try.prog 35 #[.agg #[.slice A code.length c]] w fun e w' => e = .returned (.int .i64 (gateT code)) ∧ Below w.heap.size w w' := by
  obtain ⟨n, hnn⟩ : ∃ n, code.length = n := ⟨_, rfl⟩
  rw [hnn] at hn hC ⊢
  have HN := Lib.hid hnn
  clear hnn
  go_enter Try.func35, Try.ntmps35
  go_wp2_with fail
  have X := Box.new w [.slice A n c] 63
  have hB := (Below.refl w.heap.size w).alloc (Nat.le_refl _) (.cells #[.slice A n c] 63)
  have HC := Lib.hid (hC.later ((Below.refl w.heap.size w).alloc (Nat.le_refl _) (.cells #[.slice A n c] 63)))
  clear hC
  generalize w.alloc (.cells #[.slice A n c] 63) = W at X hB HC ⊢
  go_loopw [3] (fun i wr => ∃ k : Nat, k ≤ n ∧ i = .int .i64 k ∧ Below W.heap.size W wr ∧ Hid ((code.take k).all Ln.okB = true)) (fun i _ => n - (intOf i).toNat)
  case atStart => exact ⟨0, by omega, rfl, Below.refl _ _, rfl⟩
  case round =>
    obtain ⟨k, hk, rfl, hb, hall⟩ := hrel
    have X' := X.later hb
    have x0 : wr.cell? ⟨w.heap.size, 0, none⟩ = some (.slice A n c) := X'.cell 0
    have xz := X'.lt
    by_cases hlt : k < n
    · have hkl : k < code.length := by rw [HN.out]; exact hlt
      obtain ⟨b, off, V, rfl, hbw, p0, p1, hV⟩ := HC.out.line hkl
      have p0 := (hb.cell hbw).trans p0
      have p1 := (hb.cell hbw).trans p1
      obtain ⟨A', c', rfl, hm⟩ := hV.form
      obtain ⟨l, hl⟩ : ∃ l, code[k] = l := ⟨_, rfl⟩
      rw [hl] at p0 p1 hV hm
      have hbad := all_bad (f := Ln.okB) hkl
      have htk := all_take code Ln.okB hkl
      rw [hl] at hbad htk
      rw [hall.out, Bool.true_and] at htk
      have hbad := Lib.hid hbad
      have htk := Lib.hid htk
      clear hl
      obtain ⟨m, hmm⟩ : ∃ m, l.conds.length = m := ⟨_, rfl⟩
      rw [hmm] at p0 hV hm
      unfold maxLen at hm
      have HM := Lib.hid hmm
      clear hmm
      have HV := Lib.hid hV
      clear hV
      rcases hs : inI l.set 0 1099511627776 with _ | _
      · go_wp2_with (go_at_call 66; refine (rwithin_any _ _).mono ?_; rintro e w' ⟨rfl, rfl⟩)
        all_goals
          go_ret
          refine ⟨?_, hB.trans ((hb.alloc hb.size _).mono hB.size)⟩
          have : l.okB = false := by
            have h1 := inI_no hs
            simp only [Ln.okB, Bool.and_eq_false_iff, decide_eq_false_iff_not]
            exact .inr (.inl h1)
          rw [gateT, gateB, hbad.out this, Bool.and_false]
          rfl
      · by_cases h4 : m ≤ 4
        · go_wp2_with (go_at_call 66; refine (rwithin_any _ _).mono ?_; rintro e w' ⟨rfl, rfl⟩)
          have Y := Box.new wr [.slice A' m c', .int .i64 l.set] 104
          have hY := hb.alloc hb.size (.cells #[.slice A' m c', .int .i64 l.set] 104)
          generalize wr.alloc (.cells #[.slice A' m c', .int .i64 l.set] 104) = W2 at Y hY ⊢
          clear x0 p0 p1 xz X'
          generalize wr.heap.size = D at Y ⊢
          go_loopw [5] (fun i wr => ∃ j : Nat, j ≤ m ∧ i = .int .i64 j ∧ Below W2.heap.size W2 wr ∧ Hid ((l.conds.take j).all Cn.okB = true)) (fun i _ => m - (intOf i).toNat)
          case atStart => exact ⟨0, by omega, rfl, Below.refl _ _, rfl⟩
          case round =>
            obtain ⟨j, hj, rfl, hb2, hall2⟩ := hrel
            have Y' := Y.later hb2
            have y0 : wr.cell? ⟨D, 0, none⟩ = some (.slice A' m c') := Y'.cell 0
            have yz := Y'.lt
            by_cases hlt2 : j < m
            · have hjl : j < l.conds.length := by rw [HM.out]; exact hlt2
              have hb3 := hY.trans (hb2.mono hY.size)
              obtain ⟨b', off', rfl, hbw', q0, q1, q2⟩ := (HV.out.below hb3).cond hjl
              obtain ⟨y, hy⟩ : ∃ y, l.conds[j] = y := ⟨_, rfl⟩
              rw [hy] at q0 q1 q2
              have hbad2 := all_bad (f := Cn.okB) hjl
              have htk2 := all_take l.conds Cn.okB hjl
              rw [hy] at hbad2 htk2
              rw [hall2.out, Bool.true_and] at htk2
              have hbad2 := Lib.hid hbad2
              have htk2 := Lib.hid htk2
              clear hy
              rcases g2 : inI y.n 0 1099511627776 with _ | _
              all_goals go_wp2_with (go_at_call 66; refine (rwithin_any _ _).mono ?_; rintro e w' ⟨rfl, rfl⟩)
              all_goals first
                | (refine ⟨⟨j + 1, by omega, by go_num, hb2.alloc hb2.size _, ?_⟩, by simp [intOf]; omega⟩
                   rw [Hid, htk2.out, Cn.okB]
                   have := inI_yes g2
                   exact decide_eq_true (by omega))
                | (go_ret
                   refine ⟨?_, hB.trans ((hY.trans ((hb2.alloc hb2.size _).mono hY.size)).mono hB.size)⟩
                   have h1 : y.okB = false := by
                     rw [Cn.okB, decide_eq_false_iff_not]
                     first | omega | exact fun h => inI_no g2 h.2.2
                   have : l.okB = false := by
                     rw [Ln.okB, hbad2.out h1, Bool.and_false, Bool.and_false]
                   rw [gateT, gateB, hbad.out this, Bool.and_false]
                   rfl)
            · obtain rfl : j = m := by omega
              go_wp2
              refine ⟨⟨k + 1, by omega, by go_num, hY.trans (hb2.mono hY.size), ?_⟩, by simp [intOf]; omega⟩
              rw [Hid, htk.out, Ln.okB, decide_eq_true (show l.conds.length ≤ 4 by rw [HM.out]; exact h4), decide_eq_true (inI_yes hs)]
              have := hall2.out
              rw [← HM.out, List.take_length] at this
              rw [this]
              rfl
        · go_wp2_with (go_at_call 66; refine (rwithin_any _ _).mono ?_; rintro e w' ⟨rfl, rfl⟩)
          go_ret
          refine ⟨?_, hB.trans ((hb.alloc hb.size _).mono hB.size)⟩
          have : l.okB = false := by
            simp only [Ln.okB, Bool.and_eq_false_iff, decide_eq_false_iff_not]
            exact .inl (by rw [HM.out]; omega)
          rw [gateT, gateB, hbad.out this, Bool.and_false]
          rfl
    · obtain rfl : k = n := by omega
      go_wp2
      go_ret
      refine ⟨?_, hB.trans (hb.mono hB.size)⟩
      have h1 : code.all Ln.okB = true := by rw [← hall.out, ← HN.out, List.take_length]
      rw [gateT, gateB, h1, decide_eq_true (show code.length ≤ 64 by rw [HN.out]; exact hn)]
      rfl


set_option maxHeartbeats 1000000 in
theorem rgcheck_long (code : List Ln) (A : Option Addr) (c : Nat) (w : World) (hn : 64 < code.length) (hm : code.length ≤ 9223372036854775807) :
    Calls Try.prog 35 #[.agg #[.slice A code.length c]] w fun e w' => e = .returned (.int .i64 310) ∧ Below w.heap.size w w' := by
  obtain ⟨n, hnn⟩ : ∃ n, code.length = n := ⟨_, rfl⟩
  rw [hnn] at hn hm ⊢
  clear hnn
  go_enter Try.func35, Try.ntmps35
  go_wp2
  go_ret
  exact ⟨rfl, (Below.refl _ _).alloc (Nat.le_refl _) _⟩

theorem rgcheck_any (code : List Ln) (v : Value) (w : World) (hC : CodeAt w w.heap.size v code) :
    Calls Try.prog 35 #[.agg #[v]] w fun e w' => e = .returned (.int .i64 (gateT code)) ∧ Below w.heap.size w w' := by
  obtain ⟨A, c, rfl, hm⟩ := hC.form
  by_cases h : code.length ≤ 64
  · exact rgcheck_small code A c w hC h
  · have : gateT code = 310 := by rw [gateT, gateB, decide_eq_false h]; rfl
    rw [this]
    exact rgcheck_long code A c w (by omega) hm

def fewB (code : List Ln) : Bool := decide (code.length ≤ 100) && code.all fun l => decide (l.conds.length ≤ 20)

set_option maxRecDepth 100000 in
set_option maxHeartbeats 2000000 in
theorem gfew_any (code : List Ln) (v : Value) (w : World) (hC : CodeAt w w.heap.size v code) :
    Calls Try.prog 28 #[.agg #[v]] w fun e w' => e = .returned (.bool (fewB code)) ∧ Below w.heap.size w w' := by
  obtain ⟨A, c, rfl, hm⟩ := hC.form
  unfold maxLen at hm
  obtain ⟨n, hnn⟩ : ∃ n, code.length = n := ⟨_, rfl⟩
  rw [hnn] at hm hC ⊢
  have HN := Lib.hid hnn
  clear hnn
  by_cases hn : n ≤ 100
  · go_enter Try.func28, Try.ntmps28
    go_wp2_with fail
    have X := Box.new w [.slice A n c] 63
    have hB := (Below.refl w.heap.size w).alloc (Nat.le_refl _) (.cells #[.slice A n c] 63)
    have HC := Lib.hid (hC.later ((Below.refl w.heap.size w).alloc (Nat.le_refl _) (.cells #[.slice A n c] 63)))
    clear hC
    generalize w.alloc (.cells #[.slice A n c] 63) = W at X hB HC ⊢
    have x0 : W.cell? ⟨w.heap.size, 0, none⟩ = some (.slice A n c) := X.cell 0
    have xz := X.lt
    go_loop [3] (fun i => ∃ k : Nat, k ≤ n ∧ i = .int .i64 k ∧ Hid ((code.take k).all (fun l => decide (l.conds.length ≤ 20)) = true)) (fun i => n - (intOf i).toNat)
    case atStart => exact ⟨0, by omega, rfl, rfl⟩
    case round =>
      obtain ⟨k, hk, rfl, hall⟩ := hrel
      by_cases hlt : k < n
      · have hkl : k < code.length := by rw [HN.out]; exact hlt
        obtain ⟨b, off, V, rfl, hbw, p0, p1, hV⟩ := HC.out.line hkl
        obtain ⟨A', c', rfl, hm'⟩ := hV.form
        obtain ⟨l, hl⟩ : ∃ l, code[k] = l := ⟨_, rfl⟩
        rw [hl] at p0 p1 hV hm'
        have hbad := all_bad (f := fun l : Ln => decide (l.conds.length ≤ 20)) hkl
        have htk := all_take code (fun l : Ln => decide (l.conds.length ≤ 20)) hkl
        rw [hl] at hbad htk
        rw [hall.out, Bool.true_and] at htk
        have hbad := Lib.hid hbad
        have htk := Lib.hid htk
        clear hl
        obtain ⟨m, hmm⟩ : ∃ m, l.conds.length = m := ⟨_, rfl⟩
        rw [hmm] at p0 hm'
        unfold maxLen at hm'
        have HM := Lib.hid hmm
        clear hmm hV
        by_cases h20 : m ≤ 20
        · go_wp2
          refine ⟨⟨k + 1, by omega, by go_num, ?_⟩, by simp [intOf]; omega⟩
          rw [Hid, htk.out]
          exact decide_eq_true (by rw [HM.out]; exact h20)
        · go_wp2
          go_ret
          refine ⟨?_, hB⟩
          rw [fewB, hbad.out (decide_eq_false (by rw [HM.out]; omega)), Bool.and_false]
          rfl
      · obtain rfl : k = n := by omega
        go_wp2
        go_ret
        refine ⟨?_, hB⟩
        have := hall.out
        rw [← HN.out, List.take_length] at this
        rw [fewB, this, decide_eq_true (show code.length ≤ 100 by rw [HN.out]; exact hn)]
        rfl
  · have : fewB code = false := by rw [fewB, decide_eq_false (by rw [HN.out]; omega)]; rfl
    have hf := Lib.hid this
    clear this hC
    go_enter Try.func28, Try.ntmps28
    go_wp2
    go_ret
    exact ⟨by rw [hf.out]; rfl, (Below.refl _ _).alloc (Nat.le_refl _) _⟩

abbrev Cn.v (c : Cn) : Value := .agg #[.int .i64 c.var, .int .i64 c.op, .int .i64 c.n]
set_option maxHeartbeats 2000000 in
theorem rholds_any (c : Cn) (x : Int) (w : World) (h : 1 ≤ c.op ∧ c.op ≤ 5) : Calls Try.prog 99 #[c.v, .int .i64 x] w fun e w' => e = .returned (.bool (c.holdsB x)) ∧ Below w.heap.size w w' := by
  obtain ⟨cv, co, cn⟩ := c
  dsimp only at h
  rcases (show co = 1 ∨ co = 2 ∨ co = 3 ∨ co = 4 ∨ co = 5 by omega) with rfl | rfl | rfl | rfl | rfl
  all_goals
    clear h
    go_enter Try.func99, Try.ntmps99
    go_wp2
    all_goals
      go_ret
      refine ⟨?_, (Below.refl _ _).alloc (Nat.le_refl _) _⟩
      simp [Cn.holdsB]
      try rfl

end Go.Proofs.Ytcjcjkomcolgeaa
