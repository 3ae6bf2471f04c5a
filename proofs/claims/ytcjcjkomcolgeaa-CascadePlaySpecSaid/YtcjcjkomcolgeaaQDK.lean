/- The reference of chapter 35: valid, firstBad. (Printed by pp.py.) No condition. -/
import Derived.Test.YtcjcjkomcolgeaaQDM
import Derived.Test.YtcjcjkomcolgeaaQDP
import Derived.Test.YtcjcjkomcolgeaaQBT
import Derived.Laws.MakeOwn
set_option linter.unusedVariables false
set_option linter.unusedSimpArgs false
namespace Go.Proofs.Ytcjcjkomcolgeaa
open Go.RowKit

theorem stepB_parts {x : Cs} {s : Sp} {n : Nat} (hn : x.plants.length = n) : x.stepB s = (decide (s.msgs.length = n) && (decide (s.stuck.length = n) && (inI s.feed 0 (x.plants.getD 0 Pl.zero).feed && (List.range n).all (x.msgB s)))) := by
  rw [Cs.stepB, hn]
set_option maxRecDepth 100000 in
set_option maxHeartbeats 4000000 in
theorem rValid_is (x : Cs) (Ap Ac Ab : Option Addr) (n kp kc kb : Nat) (f : Int) (M K : Value) (s : Sp) (w : World) (hR : Hid (CsRight x n)) (hx : Hid (PlsAt w w.heap.size (.slice Ap n kp) x.plants)) (hf : s.feed = f) (hM : Hid (IntL w w.heap.size M s.msgs)) (hK : Hid (BoolL w w.heap.size K s.stuck)) (t : Bool) (hT : Hid (x.stepB s = t)) :
    Calls Try.prog 42 #[.agg #[.slice Ap n kp, .slice Ac n kc, .slice Ab n kb], .agg #[.int .i64 f, M, K]] w fun e w' => e = .returned (.bool t) ∧ Below w.heap.size w w' := by
  have hn8 := hR.out.most
  have hn0 := hR.out.pos
  obtain ⟨a1, k1, rfl, hz1⟩ := hM.out.form
  obtain ⟨a2, k2, rfl, hz2⟩ := hK.out.form
  unfold maxLen at hz1 hz2
  have hB := ((Below.refl w.heap.size w).alloc (by simp <;> omega) (.cells #[.slice Ap n kp, .slice Ac n kc, .slice Ab n kb] 26)).alloc (by simp <;> omega) (.cells #[.int .i64 f, .slice a1 s.msgs.length k1, .slice a2 s.stuck.length k2] 44)
  have X2 := (Box.new w [.slice Ap n kp, .slice Ac n kc, .slice Ab n kb] 26).alloc (.cells #[.int .i64 f, .slice a1 s.msgs.length k1, .slice a2 s.stuck.length k2] 44)
  have X3 := Box.newAt (w := w.alloc (.cells #[.slice Ap n kp, .slice Ac n kc, .slice Ab n kb] 26)) (n := w.heap.size + 1) [.int .i64 f, .slice a1 s.msgs.length k1, .slice a2 s.stuck.length k2] 44 (by simp)
  have hst := stepB_parts (s := s) hR.out.plants
  rw [hT.out] at hst
  have hk0 : 0 < x.plants.length := by rw [hR.out.plants]; exact hn0
  obtain ⟨bp, op, rfl, hbp, p0, p1, p2, p3, p4, p5, p6, p7, p8, p9, p10, p11⟩ := hx.out.cells12 hk0
  rw [getD_at hk0] at hst
  have hM1 := hM.out
  have hK1 := hK.out
  obtain ⟨ms, sk⟩ : ∃ n, s.msgs.length = n := ⟨_, rfl⟩
  obtain ⟨ks, sk2⟩ : ∃ n, s.stuck.length = n := ⟨_, rfl⟩
  obtain ⟨q, hq⟩ : ∃ q, x.plants[0] = q := ⟨_, rfl⟩
  rw [sk] at hz1 hst hB X2 X3 hM1 ⊢
  rw [sk2] at hz2 hst hB X2 X3 ⊢
  rw [hq] at hst p8
  rw [hf] at hst
  have HST := Lib.hid hst
  have HM := Lib.hid hM1
  have HSK := Lib.hid sk
  clear sk sk2 hst p0 p1 p2 p3 p4 p5 p6 p7 p9 p10 p11 hM hK hM1 hK1 hf hq
  go_enter Try.func42, Try.ntmps42
  go_upto_region 1 with fail
  generalize (w.alloc (.cells #[.slice (some ⟨bp, op, none⟩) n kp, .slice Ac n kc, .slice Ab n kb] 26)).alloc (.cells #[.int .i64 f, .slice a1 ms k1, .slice a2 ks k2] 44) = W at hB X2 X3 ⊢
  have x2z := X2.lt
  have x3z := X3.lt
  have x20 : W.cell? ⟨w.heap.size, 0, none⟩ = some (.slice (some ⟨bp, op, none⟩) n kp) := X2.cell 0
  have X3c0 : W.cell? ⟨w.heap.size + 1, 0, none⟩ = some (.int .i64 f) := X3.cell 0
  have X3c1 : W.cell? ⟨w.heap.size + 1, 1, none⟩ = some (.slice a1 ms k1) := X3.cell 1
  have X3c2 : W.cell? ⟨w.heap.size + 1, 2, none⟩ = some (.slice a2 ks k2) := X3.cell 2
  have p8 := (hB.cell hbp).trans p8
  have hbpz := Nat.lt_of_lt_of_le hbp hB.size
  simp only [Nat.zero_mul, Nat.add_zero] at p8
  by_cases h1 : ms = n
  rotate_left
  · have hF : t = false := by rw [HST.out, decide_eq_false h1, Bool.false_and]
    have hd : ((ms : Int) != (n : Int)) = true := by simp; omega
    go_wp2_with (fail)
    go_quiet (fail)
    go_wp2
    go_ret
    subst hF
    exact ⟨rfl, bel_drewN hB nq⟩
  have hd : ((ms : Int) != (n : Int)) = false := by simp [h1]
  have H1 := Lib.hid h1
  clear h1
  by_cases h2 : ks = n
  rotate_left
  · have hF : t = false := by rw [HST.out, decide_eq_false h2, Bool.false_and, Bool.and_false]
    have hd2 : ((ks : Int) != (n : Int)) = true := by simp; omega
    go_wp2_with (fail)
    go_quiet (fail)
    go_wp2
    go_ret
    subst hF
    exact ⟨rfl, bel_drewN hB nq⟩
  have hd2 : ((ks : Int) != (n : Int)) = false := by simp [h2]
  have H2 := Lib.hid h2
  clear h2
  by_cases h3 : 0 ≤ f
  rotate_left
  · have hF : t = false := by rw [HST.out, inI, decide_eq_false (show ¬ (0 ≤ f ∧ f ≤ q.feed) by omega), Bool.false_and, Bool.and_false, Bool.and_false]
    have hd3 : decide (f < 0) = true := decide_eq_true (by omega)
    go_wp2_with (fail)
    go_quiet (fail)
    go_wp2
    go_ret
    subst hF
    exact ⟨rfl, bel_drewN hB nq⟩
  have hd3 : decide (f < 0) = false := decide_eq_false (by omega)
  by_cases h4 : f ≤ q.feed
  rotate_left
  · have hF : t = false := by rw [HST.out, inI, decide_eq_false (show ¬ (0 ≤ f ∧ f ≤ q.feed) by omega), Bool.false_and, Bool.and_false, Bool.and_false]
    have hd4 : decide (q.feed < f) = true := decide_eq_true (by omega)
    go_wp2_with (fail)
    go_quiet (fail)
    go_wp2
    go_ret
    subst hF
    exact ⟨rfl, bel_drewN hB nq⟩
  have hd4 : decide (q.feed < f) = false := decide_eq_false (by omega)
  have hTA : Hid (t = (List.range n).all (x.msgB s)) := by
    rw [Hid, HST.out, inI, decide_eq_true (show 0 ≤ f ∧ f ≤ q.feed from ⟨h3, h4⟩), decide_eq_true H1.out, decide_eq_true H2.out]
    rfl
  go_wp2_with (fail)
  go_quiet (fail)
  go_wp2_with (fail)
  clear hd hd2 hd3 hd4 p8 X3c0 X3c1 X3c2 x20
  have hBn := bel_drewN hB nq
  have X2n := X2.drewN nq
  have X3n := X3.drewN nq
  generalize W.drewN nq = W1 at hBn X2n X3n ⊢
  go_loopw [6] (fun i wr => ∃ j : Nat, j ≤ n ∧ i = .int .i64 j ∧ Below W1.heap.size W1 wr ∧ Hid (∀ i, i < j → x.msgB s i = true)) (fun i _ => n - (intOf i).toNat)
  case atStart => exact ⟨0, by omega, rfl, Below.refl _ _, Lib.hid (fun i hi => by omega)⟩
  case round =>
    obtain ⟨j, hj, rfl, hb, hall⟩ := hrel
    obtain ⟨wo, rfl⟩ : ∃ wo : World, wo = wr := ⟨_, rfl⟩
    have hbw := hBn.trans (hb.mono hBn.size)
    rcases Nat.lt_or_ge j n with hlt | hge
    rotate_left
    · obtain rfl : j = n := by omega
      have hF : t = true := by rw [hTA.out, List.all_eq_true]; exact fun i hi => hall.out i (List.mem_range.1 hi)
      have hlm : ¬ ((j : Int) < (j : Int)) := by omega
      go_wp2
      go_ret
      subst hF
      exact ⟨rfl, hbw⟩
    have hlm : (j : Int) < (n : Int) := by omega
    have hjp : j < x.plants.length := by rw [hR.out.plants]; exact hlt
    have hjm : j < s.msgs.length := by rw [HSK.out, H1.out]; exact hlt
    obtain ⟨bp', op', e1, hbp', p0, p1, p2, p3, p4, p5, p6, p7, p8, p9, p10, p11⟩ := hx.out.cells12 hjp
    cases e1
    obtain ⟨bm, om, rfl, hbm, m0⟩ := HM.out.at hjm
    have hmb : x.msgB s j = inI s.msgs[j] (-1) (x.plants[j]).orders := by rw [Cs.msgB, getD_at hjp, getD_at hjm]
    obtain ⟨p, hp⟩ : ∃ p, x.plants[j] = p := ⟨_, rfl⟩
    obtain ⟨ml, hml⟩ : ∃ m, s.msgs[j] = m := ⟨_, rfl⟩
    rw [hp] at p10 hmb
    rw [hml] at m0 hmb
    have HMB := Lib.hid hmb
    clear hp hml hmb p0 p1 p2 p3 p4 p5 p6 p7 p8 p9 p11
    have p10 := (hbw.cell hbp).trans p10
    have m0 := (hbw.cell hbm).trans m0
    have hbpw := Nat.lt_of_lt_of_le hbp hbw.size
    have hbmw := Nat.lt_of_lt_of_le hbm hbw.size
    have y2 := X2n.later hb
    have y3 := X3n.later hb
    have y2z := y2.lt
    have y3z := y3.lt
    have y20 : wo.cell? ⟨w.heap.size, 0, none⟩ = some (.slice (some ⟨bp, op, none⟩) n kp) := y2.cell 0
    have y31 : wo.cell? ⟨w.heap.size + 1, 1, none⟩ = some (.slice (some ⟨bm, om, none⟩) ms k1) := y3.cell 1
    have hjms : (j : Int) < (ms : Int) := by have := H1.out; omega
    by_cases h5 : -1 ≤ ml
    rotate_left
    · have hF : t = false := by
        rw [hTA.out, List.all_eq_false]
        exact ⟨j, List.mem_range.2 hlt, by rw [HMB.out, inI, decide_eq_false (by omega)]; decide⟩
      have hd : decide (ml < -1) = true := decide_eq_true (by omega)
      go_wp2_with (fail)
      go_quiet (fail)
      go_wp2
      go_ret
      subst hF
      exact ⟨rfl, bel_drewN hbw nq⟩
    have hd : decide (ml < -1) = false := decide_eq_false (by omega)
    by_cases h6 : ml ≤ p.orders
    rotate_left
    · have hF : t = false := by
        rw [hTA.out, List.all_eq_false]
        exact ⟨j, List.mem_range.2 hlt, by rw [HMB.out, inI, decide_eq_false (by omega)]; decide⟩
      have hd6 : decide (p.orders < ml) = true := decide_eq_true (by omega)
      go_wp2_with (fail)
      go_quiet (fail)
      go_wp2
      go_ret
      subst hF
      exact ⟨rfl, bel_drewN hbw nq⟩
    have hd6 : decide (p.orders < ml) = false := decide_eq_false (by omega)
    have hall2 : Hid (∀ i, i < j + 1 → x.msgB s i = true) := Lib.hid (fun i hi => by
      rcases Nat.lt_or_ge i j with h | h
      · exact hall.out i h
      · obtain rfl : i = j := by omega
        rw [HMB.out, inI, decide_eq_true ⟨h5, h6⟩])
    go_wp2_with (fail)
    go_quiet (fail)
    go_wp2
    exact ⟨⟨j + 1, by omega, by go_num, bel_drewN hb nq, hall2⟩, by simp [intOf]; omega⟩
end Go.Proofs.Ytcjcjkomcolgeaa

/-
  The reference of chapter 35: firstBad. (Printed by pp.py.) No condition.
-/
namespace Go.Proofs.Ytcjcjkomcolgeaa
open Go.RowKit

theorem badT_none {x : Cs} {sts : List St} {stuck : List Bool} (h : ∀ i, i < sts.length → x.badAt sts stuck i = false) : x.badT sts stuck = 0 := by
  rw [Cs.badT, range_none h]
theorem badT_some {x : Cs} {sts : List St} {stuck : List Bool} {k : Nat} (hk : k < sts.length) (h : ∀ i, i < k → x.badAt sts stuck i = false) (hx : x.badAt sts stuck k = true) : x.badT sts stuck = (k : Int) + 1 := by
  rw [Cs.badT, range_find hk h hx]
set_option maxRecDepth 100000 in
set_option maxHeartbeats 4000000 in
theorem rFirstBad_is (x : Cs) (sts : List St) (stuck : List Bool) (Ap Ac Ab As Ak : Option Addr) (n kp kc kb ks kk : Nat) (w : World) (hn8 : n ≤ 8) (hnp : Hid (x.plants.length = n)) (hns : Hid (sts.length = n)) (hnk : Hid (stuck.length = n)) (hx : Hid (PlsAt w w.heap.size (.slice Ap n kp) x.plants)) (hS : Hid (StsAt w w.heap.size (.slice As n ks) sts)) (hK : Hid (BoolL w w.heap.size (.slice Ak n kk) stuck)) (t : Int) (hT : Hid (x.badT sts stuck = t)) :
    Calls Try.prog 44 #[.agg #[.slice Ap n kp, .slice Ac n kc, .slice Ab n kb], .slice As n ks, .slice Ak n kk] w fun e w' => e = .returned (.int .i64 t) ∧ Below w.heap.size w w' := by
  have hB := (Below.refl w.heap.size w).alloc (Nat.le_refl _) (.cells #[.slice Ap n kp, .slice Ac n kc, .slice Ab n kb] 26)
  have X3 := Box.new w [.slice Ap n kp, .slice Ac n kc, .slice Ab n kb] 26
  go_enter Try.func44, Try.ntmps44
  go_upto_region 2 with fail
  generalize w.alloc (.cells #[.slice Ap n kp, .slice Ac n kc, .slice Ab n kb] 26) = w1 at hB X3 ⊢
  go_loopw [7] (fun i wr => ∃ j : Nat, j ≤ n ∧ i = .int .i64 j ∧ Below w1.heap.size w1 wr ∧ Hid (∀ i, i < j → x.badAt sts stuck i = false)) (fun i _ => n - (intOf i).toNat)
  case atStart => exact ⟨0, by omega, rfl, Below.refl _ _, Lib.hid (fun i hi => by omega)⟩
  case round =>
    obtain ⟨j, hj, rfl, hb, hall⟩ := hrel
    obtain ⟨wo, rfl⟩ : ∃ wo : World, wo = wr := ⟨_, rfl⟩
    have hbw := hB.trans (hb.mono hB.size)
    rcases Nat.lt_or_ge j n with hlt | hge
    rotate_left
    · obtain rfl : j = n := by omega
      have hF : t = 0 := by rw [← hT.out, badT_none (fun i hi => hall.out i (by rw [hns.out] at hi; exact hi))]
      have hlm : ¬ ((j : Int) < (j : Int)) := by omega
      go_wp2
      go_ret
      subst hF
      exact ⟨rfl, hbw⟩
    have hlm : (j : Int) < (n : Int) := by omega
    have hjp : j < x.plants.length := by rw [hnp.out]; exact hlt
    have hjs : j < sts.length := by rw [hns.out]; exact hlt
    have hjk : j < stuck.length := by rw [hnk.out]; exact hlt
    obtain ⟨bp, op, rfl, hbp, p0, p1, p2, p3, p4, p5, p6, p7, p8, p9, p10, p11⟩ := hx.out.cells12 hjp
    obtain ⟨bs, os, rfl, hbs, s0, s1, s2, s3, s4, s5⟩ := hS.out.state hjs
    obtain ⟨bk, ok, rfl, hbk, k0⟩ := hK.out.at hjk
    have hba : x.badAt sts stuck j = (!(x.plants[j]).safeB sts[j] && !stuck[j]) := by rw [Cs.badAt, getD_at hjp, getD_at hjs, getD_at hjk]
    obtain ⟨p, hp⟩ : ∃ p, x.plants[j] = p := ⟨_, rfl⟩
    obtain ⟨s, hs⟩ : ∃ s, sts[j] = s := ⟨_, rfl⟩
    obtain ⟨sk, hsk⟩ : ∃ b, stuck[j] = b := ⟨_, rfl⟩
    rw [hp] at p0 p1 p2 p3 p4 p5 p6 p7 p8 p9 p10 p11 hba
    rw [hs] at s0 s1 s2 s3 s4 s5 hba
    rw [hsk] at k0 hba
    obtain ⟨x0, x1, x2, x3, x4, x5⟩ := s
    dsimp only at s0 s1 s2 s3 s4 s5
    obtain ⟨q, er, hsf⟩ : ∃ q er, Hid (p.safeT ⟨x0, x1, x2, x3, x4, x5⟩ = (q, er)) := ⟨_, _, rfl⟩
    have hba : x.badAt sts stuck j = (!q && !sk) := by rw [hba, Pl.safeB, hsf.out]
    have HBA := Lib.hid hba
    clear hp hs hsk hba
    have hbpw := Nat.lt_of_lt_of_le hbp hbw.size
    have hbsw := Nat.lt_of_lt_of_le hbs hbw.size
    have y3 := X3.later hb
    have y3z := y3.lt
    have u0 : ∀ z : Later wo, z.w.cell? ⟨w.heap.size, 0, none⟩ = some (.slice (some ⟨bp, op, none⟩) n kp) := Later.cell (y3.cell 0) y3z
    have f0 : ∀ z : Later wo, z.w.cell? ⟨bp, op + j * 12, none⟩ = some (.int .i64 p.top) := Later.cell ((hbw.cell hbp).trans p0) hbpw
    have f1 : ∀ z : Later wo, z.w.cell? ⟨bp, op + j * 12 + 1, none⟩ = some (.int .i64 p.bank) := Later.cell ((hbw.cell hbp).trans p1) hbpw
    have f2 : ∀ z : Later wo, z.w.cell? ⟨bp, op + j * 12 + 2, none⟩ = some (.int .i64 p.siphon) := Later.cell ((hbw.cell hbp).trans p2) hbpw
    have f3 : ∀ z : Later wo, z.w.cell? ⟨bp, op + j * 12 + 3, none⟩ = some (.int .i64 p.start) := Later.cell ((hbw.cell hbp).trans p3) hbpw
    have f4 : ∀ z : Later wo, z.w.cell? ⟨bp, op + j * 12 + 4, none⟩ = some (.int .i64 p.positions) := Later.cell ((hbw.cell hbp).trans p4) hbpw
    have f5 : ∀ z : Later wo, z.w.cell? ⟨bp, op + j * 12 + 5, none⟩ = some (.int .i64 p.rate) := Later.cell ((hbw.cell hbp).trans p5) hbpw
    have f6 : ∀ z : Later wo, z.w.cell? ⟨bp, op + j * 12 + 6, none⟩ = some (.int .i64 p.step) := Later.cell ((hbw.cell hbp).trans p6) hbpw
    have f7 : ∀ z : Later wo, z.w.cell? ⟨bp, op + j * 12 + 7, none⟩ = some (.int .i64 p.pass) := Later.cell ((hbw.cell hbp).trans p7) hbpw
    have f8 : ∀ z : Later wo, z.w.cell? ⟨bp, op + j * 12 + 8, none⟩ = some (.int .i64 p.feed) := Later.cell ((hbw.cell hbp).trans p8) hbpw
    have f9 : ∀ z : Later wo, z.w.cell? ⟨bp, op + j * 12 + 9, none⟩ = some (.int .i64 p.pipe) := Later.cell ((hbw.cell hbp).trans p9) hbpw
    have f10 : ∀ z : Later wo, z.w.cell? ⟨bp, op + j * 12 + 10, none⟩ = some (.int .i64 p.orders) := Later.cell ((hbw.cell hbp).trans p10) hbpw
    have f11 : ∀ z : Later wo, z.w.cell? ⟨bp, op + j * 12 + 11, none⟩ = some (.int .i64 p.age) := Later.cell ((hbw.cell hbp).trans p11) hbpw
    have g0 : ∀ z : Later wo, z.w.cell? ⟨bs, os + j * 6, none⟩ = some (.int .i64 x0) := Later.cell ((hbw.cell hbs).trans s0) hbsw
    have g1 : ∀ z : Later wo, z.w.cell? ⟨bs, os + j * 6 + 1, none⟩ = some (.int .i64 x1) := Later.cell ((hbw.cell hbs).trans s1) hbsw
    have g2 : ∀ z : Later wo, z.w.cell? ⟨bs, os + j * 6 + 2, none⟩ = some (.int .i64 x2) := Later.cell ((hbw.cell hbs).trans s2) hbsw
    have g3 : ∀ z : Later wo, z.w.cell? ⟨bs, os + j * 6 + 3, none⟩ = some (.int .i64 x3) := Later.cell ((hbw.cell hbs).trans s3) hbsw
    have g4 : ∀ z : Later wo, z.w.cell? ⟨bs, os + j * 6 + 4, none⟩ = some (.int .i64 x4) := Later.cell ((hbw.cell hbs).trans s4) hbsw
    have g5 : ∀ z : Later wo, z.w.cell? ⟨bs, os + j * 6 + 5, none⟩ = some (.int .i64 x5) := Later.cell ((hbw.cell hbs).trans s5) hbsw
    have hz : ∀ z : Later wo, Calls Try.prog 72 #[p.v, (St.mk x0 x1 x2 x3 x4 x5).v] z.w (fun e w' => e = .returned (.tuple #[.bool q, .int .i64 er]) ∧ Below z.w.heap.size z.w w') := fun z => rsafe_is hsf
    clear p0 p1 p2 p3 p4 p5 p6 p7 p8 p9 p10 p11 s0 s1 s2 s3 s4 s5
    go_wp2_with fail
    refine wp_region_later (by kernel_rfl) (by kernel_rfl) ?_
    repeat (go_big_quiet_step ((go_at_call 72; exact Later.call _ (hz _))))
    refine wpQuiet_nil ?_
    intro _ hw'
    obtain ⟨yq, hw''⟩ := hw'
    subst hw''
    have hbq := hb.trans (yq.below.mono hb.size)
    have hbwq := hbw.trans (yq.below.mono hbw.size)
    have k0 := (hbwq.cell hbk).trans k0
    have hbkz := Nat.lt_of_lt_of_le hbk hbwq.size
    clear f0 f1 f2 f3 f4 f5 f6 f7 f8 f9 f10 f11 g0 g1 g2 g3 g4 g5 u0 hz y3 y3z
    generalize yq.w = wq at hbq hbwq k0 hbkz ⊢
    have hgood : (!q && !sk) = false → Hid (∀ i, i < j + 1 → x.badAt sts stuck i = false) := fun h => Lib.hid (fun i hi => by
      rcases Nat.lt_or_ge i j with h2 | h2
      · exact hall.out i h2
      · obtain rfl : i = j := by omega
        rw [HBA.out, h])
    cases q with
    | true =>
      have HG := hgood rfl
      clear hgood
      go_wp2
      exact ⟨⟨j + 1, by omega, by go_num, hbq, HG⟩, by simp [intOf]; omega⟩
    | false =>
      cases sk with
      | true =>
        have HG := hgood rfl
        clear hgood
        go_wp2
        exact ⟨⟨j + 1, by omega, by go_num, hbq, HG⟩, by simp [intOf]; omega⟩
      | false =>
        have hF : t = (j : Int) + 1 := by rw [← hT.out, badT_some (by rw [hns.out]; exact hlt) hall.out (by rw [HBA.out]; rfl)]
        have hwj : wrap64 ((j : Int) + 1) = (j : Int) + 1 := by unfold wrap64; omega
        have HF := Lib.hid hF
        clear hgood hF
        go_wp2
        go_ret
        obtain rfl := HF.out
        refine ⟨?_, hbwq⟩
        show Ending.returned (.int .i64 (wrap64 ((j : Int) + 1))) = _
        rw [hwj]
end Go.Proofs.Ytcjcjkomcolgeaa

/-
  Cascades: what a certificate says of the play; the first gates alone; one gate alone. Plain facts. No condition.
-/
namespace Go.Proofs.Ytcjcjkomcolgeaa
open Go.RowKit

theorem badT_nonneg {x : Cs} {sts : List St} {stuck : List Bool} : 0 ≤ x.badT sts stuck := by
  unfold Cs.badT
  split <;> omega
theorem lookK_bad {x : Cs} {sts : List St} {stuck : List Bool} {bad : Int} {n : Nat} (hl : sts.length = n) (hb : 0 ≤ bad) : x.lookK sts stuck bad n = if bad = 0 then x.badT sts stuck else bad := by
  unfold Cs.lookK Cs.badT
  rw [hl]
  by_cases h : bad > 0
  · rw [if_pos h, if_neg (by omega)]
  · have h0 : bad = 0 := by omega
    subst h0
    rw [if_neg h, if_pos rfl]
    cases List.find? (x.badAt sts stuck) (List.range n) <;> rfl
theorem right_zero {x : Cs} {n : Nat} (h : CsRight x n) : x.checkT = 0 := by
  have h8 := h.most
  have h0 := h.pos
  unfold Cs.checkT
  rw [h.plants, h.codes, h.bars, if_pos h8, if_neg (by omega)]
  refine firstErr_zero fun i hi => ?_
  obtain ⟨g1, g2, g3⟩ := h.gate i (List.mem_range.1 hi)
  unfold Cs.gateT
  rw [if_pos g1, if_pos g2, g3]
structure CsCert (x : Cs) (n : Nat) : Prop where
  right : CsRight x n
  cert : ∀ k, k < n → Cert (x.plants.getD k Pl.zero) (x.codes.getD k []) (x.bars.getD k [])
  most : ∀ k, k + 1 < n → (x.plants.getD k Pl.zero).rate * (x.plants.getD k Pl.zero).positions ≤ (x.plants.getD (k + 1) Pl.zero).feed
structure PlayInv (x : Cs) (n : Nat) (g : Pst) : Prop where
  has : x.hasAll n g.states
  len : g.stuck.length = n
  bar : ∀ i, i < n → g.stuck.getD i false = false → inB (x.bars.getD i []) (g.states.getD i St.zero) = true
  bad : g.bad = 0
theorem getD_rep {n i : Nat} : (List.replicate n false).getD i false = false := by
  rw [List.getD_eq_getElem?_getD, List.getElem?_replicate]
  split <;> rfl
def Cs.up (x : Cs) (m : Nat) : Cs := ⟨x.plants.take m, x.codes.take m, x.bars.take m⟩
def Sp.up (s : Sp) (m : Nat) : Sp := ⟨s.feed, s.msgs.take m, s.stuck.take m⟩
section
variable {x : Cs} {n m : Nat}
end
end Go.Proofs.Ytcjcjkomcolgeaa

/-
  Rows of Booleans that are made, rows that are built as blocks; plain facts on Play. No condition.
-/
namespace Go.Proofs.Ytcjcjkomcolgeaa
open Go.RowKit

theorem made_one (v : Value) (h : v.cells = #[v]) (n : Nat) : madeCells v.cells (n * 1) = (List.replicate n v).toArray := by
  rw [h, madeCells]
  apply Array.ext'
  apply List.ext_getElem?
  intro i
  rcases Nat.lt_or_ge i n with hi | hi
  · simp [hi, Nat.mod_one]
  · simp [hi]
theorem make_bools (w : World) (n : Nat) (hn : n ≤ 1024) : (Instr.makeSlice 41 (.int .i64 (n : Int)) (.int .i64 (n : Int))).run Try.prog w = .ok (.slice (some ⟨w.heap.size, 0, none⟩) n n) (w.alloc (.cells (List.replicate n (Value.bool false)).toArray 4)) := by
  obtain ⟨i, h1, h2, h3, h4⟩ := info_parts (show (Try.prog.info? 4).map (fun i => (i.zero, i.size, i.bytes)) = some (some (.bool false), 1, 1) by kernel_rfl)
  have := run_makeSlice (P := Try.prog) w 41 4 i (.bool false) Try.underlying41 h1 h2 .i64 .i64 n n (by omega) (Int.le_refl _) (by rw [h3]; simp; omega) (by rw [h4]; omega) (by omega)
  rw [h3] at this
  simp only [Int.toNat_natCast] at this
  rw [this, made_one _ rfl]
theorem OwnE.box {α : Type} {enc : α → List Value} {size : Nat} {w : World} {base e : Nat} {V : Value} {l : List α} (h : OwnE enc size w base e V l) (hs : ∀ x, (enc x).length = size) (hl : 0 < l.length) :
    ∃ b cap L, V = .slice (some ⟨b, 0, none⟩) l.length cap ∧ l.length ≤ cap ∧ base ≤ b ∧ Box w b L ∧ ∀ k (hk : k < l.length), ∀ j, j < size → L[k * size + j]? = (enc l[k])[j]? := by
  have hc := h.2
  rcases hc with ⟨rfl, h0⟩ | ⟨b, cap, cur, hv, hb, hg, hcap, hcm, hsz, htk⟩
  · omega
  · refine ⟨b, cap, cur.toList, hv, hcap, hb, ⟨e, by simpa using hg⟩, fun k hk j hj => ?_⟩
    have e1 := flatMap_at hs l k j hk hj
    rw [← e1, ← htk, List.getElem?_take_of_lt]
    have : (k + 1) * size ≤ l.length * size := Nat.mul_le_mul_right _ hk
    rw [Nat.add_mul, Nat.one_mul] at this
    omega
def Cs.endT (x : Cs) (l : List Sp) : List St × Int × Int := match x.playK l l.length with
  | some g => (g.states, g.bad, 0)
  | none => ([], 0, 350)
theorem playT_go {x : Cs} {l : List Sp} (h0 : x.checkT = 0) (h1 : l.length ≤ 4096) (h : l.all x.stepB = true) : x.playT l = x.endT l := by
  rw [Cs.playT, if_pos h0, if_pos h1, if_pos h]
  rfl
theorem endT_some {x : Cs} {l : List Sp} {g : Pst} (h : x.playK l l.length = some g) : x.endT l = (g.states, g.bad, 0) := by rw [Cs.endT, h]
theorem endT_none {x : Cs} {l : List Sp} (h : x.playK l l.length = none) : x.endT l = ([], 0, 350) := by rw [Cs.endT, h]
theorem playK_none {x : Cs} {l : List Sp} {k : Nat} (h : x.playK l k = none) : ∀ m, x.playK l (k + m) = none
  | 0 => h
  | m + 1 => by rw [← Nat.add_assoc, Cs.playK, playK_none h m]; rfl
theorem playK_bad {x : Cs} {l : List Sp} : ∀ {k : Nat} {g : Pst}, x.playK l k = some g → 0 ≤ g.bad
  | 0, g, h => by
    simp only [Cs.playK, Option.some.injEq] at h
    rw [← h]
    exact badT_nonneg
  | k + 1, g, h => by
    rw [Cs.playK] at h
    rcases hh : x.playK l k with _ | g'
    · rw [hh] at h; cases h
    · rw [hh, Option.bind_some, Cs.playStep] at h
      rcases hq : x.hourK g'.states (l.getD k Sp.zero) x.plants.length with _ | r
      · rw [hq] at h; cases h
      · rw [hq, Option.map_some, Option.some.injEq] at h
        rw [← h]
        dsimp only
        split
        · exact badT_nonneg
        · exact playK_bad hh
theorem playK_next {x : Cs} {l : List Sp} {k : Nat} {g : Pst} {n : Nat} {f : Int} {sts : List St} (hn : x.plants.length = n) (h : x.playK l k = some g) (hq : x.hourK g.states (l.getD k Sp.zero) n = some (f, sts)) :
    x.playK l (k + 1) = some ⟨sts, orL g.stuck (l.getD k Sp.zero).stuck n, x.lookK sts (orL g.stuck (l.getD k Sp.zero).stuck n) g.bad n⟩ := by
  rw [Cs.playK, h, Option.bind_some, Cs.playStep, hn, hq, Option.map_some, lookK_bad (hourK_len hq) (playK_bad h)]
theorem playK_stop {x : Cs} {l : List Sp} {k : Nat} {g : Pst} {n : Nat} (hn : x.plants.length = n) (h : x.playK l k = some g) (hq : x.hourK g.states (l.getD k Sp.zero) n = none) : x.playK l (k + 1) = none := by
  rw [Cs.playK, h, Option.bind_some, Cs.playStep, hn, hq]
  rfl
theorem begins_succ {x : Cs} {k : Nat} (hk : k < x.plants.length) : x.begins.take (k + 1) = x.begins.take k ++ [(x.plants[k]).beginT.1] := by
  have hk2 : k < x.begins.length := by rw [Cs.begins, List.length_map]; exact hk
  rw [List.take_succ_eq_append_getElem hk2]
  simp [Cs.begins]
theorem begins_len {x : Cs} : x.begins.length = x.plants.length := by rw [Cs.begins, List.length_map]
theorem begin_ok {p : Pl} (h : p.checkT = 0) : p.beginT.2 = 0 := by rw [Pl.beginT, if_pos h]
theorem start_look {x : Cs} {n : Nat} (hn : x.plants.length = n) : x.playK [] 0 = x.playK [] 0 ∧ x.start = ⟨x.begins, List.replicate n false, x.lookK x.begins (List.replicate n false) 0 n⟩ := by
  refine ⟨rfl, ?_⟩
  rw [lookK_bad (by rw [begins_len, hn]) (Int.le_refl 0), if_pos rfl, Cs.start, hn]
theorem st_cells (s : St) {j : Nat} (hj : j < 6) : s.cells[j]? = some ((s.cells).getD j undef) := by
  rw [List.getD_eq_getElem?_getD, List.getElem?_eq_getElem hj]
  rfl
end Go.Proofs.Ytcjcjkomcolgeaa
