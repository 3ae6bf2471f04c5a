/- The reference of chapter 35: Few comes to an end. (Printed by pp.py.) No condition. -/
import Derived.Test.YtcjcjkomcolgeaaQDF
import Derived.Test.YtcjcjkomcolgeaaQT
import Derived.Test.YtcjcjkomcolgeaaQI
set_option linter.unusedVariables false
set_option linter.unusedSimpArgs false
namespace Go.Proofs.Ytcjcjkomcolgeaa
open Go.RowKit

def RetAny (w : World) (e : Ending) (w' : World) : Prop := ∃ t, e = .returned (.bool t) ∧ Below w.heap.size w w'
set_option maxRecDepth 100000 in
set_option maxHeartbeats 40000000 in
theorem rCsFew_any (x : Cs) (Ap Ac Ab : Option Addr) (n nc nb kp kc kb : Nat) (w : World) (hnp : Hid (x.plants.length = n)) (hnc : Hid (x.codes.length = nc)) (hnb : Hid (x.bars.length = nb)) (hx : Hid (CsAt w w.heap.size (.slice Ap n kp) (.slice Ac nc kc) (.slice Ab nb kb) x)) (hm1 : n ≤ 9223372036854775807) (hm2 : nc ≤ 9223372036854775807) (hm3 : nb ≤ 9223372036854775807) :
    Calls Try.prog 9 #[.agg #[.slice Ap n kp, .slice Ac nc kc, .slice Ab nb kb]] w (RetAny w) := by
  have hB := (Below.refl w.heap.size w).alloc (Nat.le_refl _) (.cells #[.slice Ap n kp, .slice Ac nc kc, .slice Ab nb kb] 26)
  have X1 := Box.new w [.slice Ap n kp, .slice Ac nc kc, .slice Ab nb kb] 26
  go_enter Try.func9, Try.ntmps9
  go_upto_region 1 with fail
  generalize w.alloc (.cells #[.slice Ap n kp, .slice Ac nc kc, .slice Ab nb kb] 26) = w1 at hB X1 ⊢
  have z1 := X1.lt
  have X1c0 : w1.cell? ⟨w.heap.size, 0, none⟩ = some (.slice Ap n kp) := X1.cell 0
  have X1c1 : w1.cell? ⟨w.heap.size, 1, none⟩ = some (.slice Ac nc kc) := X1.cell 1
  have X1c2 : w1.cell? ⟨w.heap.size, 2, none⟩ = some (.slice Ab nb kb) := X1.cell 2
  by_cases h1 : n ≤ 12
  rotate_left
  · have hd1 : decide ((12 : Int) < (n : Int)) = true := decide_eq_true (by omega)
    go_wp2
    go_ret
    exact ⟨_, rfl, hB⟩
  have hd1 : decide ((12 : Int) < (n : Int)) = false := decide_eq_false (by omega)
  by_cases h2 : nc ≤ 12
  rotate_left
  · have hd2 : decide ((12 : Int) < (nc : Int)) = true := decide_eq_true (by omega)
    go_wp2
    go_ret
    exact ⟨_, rfl, hB⟩
  have hd2 : decide ((12 : Int) < (nc : Int)) = false := decide_eq_false (by omega)
  by_cases h3 : nb ≤ 12
  rotate_left
  · have hd3 : decide ((12 : Int) < (nb : Int)) = true := decide_eq_true (by omega)
    go_wp2
    go_ret
    exact ⟨_, rfl, hB⟩
  have hd3 : decide ((12 : Int) < (nb : Int)) = false := decide_eq_false (by omega)
  go_wp2_with fail
  clear hd1 hd2 hd3 X1c0 X1c1 X1c2 z1
  go_loopw [3, 4] (fun s3 i wr => ∃ (k : Nat) (W : Int), k ≤ n ∧ i = .int .i64 k ∧ s3 = .int .i64 W ∧ Below w.heap.size w wr ∧ Box wr w.heap.size [.slice Ap n kp, .slice Ac nc kc, .slice Ab nb kb]) (fun _ i _ => n - (intOf i).toNat)
  case atStart => exact ⟨0, 0, by omega, rfl, rfl, hB, X1⟩
  case round =>
    clear hB X1
    obtain ⟨k, W, hk, rfl, rfl, hB, X1⟩ := hrel
    obtain ⟨wo, rfl⟩ : ∃ wo : World, wo = wr := ⟨_, rfl⟩
    have z1 := X1.lt
    rcases Nat.lt_or_ge k n with hlt | hge
    rotate_left
    · obtain rfl : n = k := by omega
      have hlm : ¬ ((n : Int) < (n : Int)) := by omega
      have x10 : wo.cell? ⟨w.heap.size, 0, none⟩ = some (.slice Ap n kp) := X1.cell 0
      go_wp2_with fail
      clear x10 z1 hlm
      go_loopw [8] (fun i wr => ∃ j : Nat, j ≤ nc ∧ i = .int .i64 j ∧ Below w.heap.size w wr ∧ Box wr w.heap.size [.slice Ap n kp, .slice Ac nc kc, .slice Ab nb kb]) (fun i _ => nc - (intOf i).toNat)
      case atStart => exact ⟨0, by omega, rfl, hB, X1⟩
      case round =>
        clear hB X1
        obtain ⟨j, hj, rfl, hB, X1⟩ := hrel
        obtain ⟨wi, rfl⟩ : ∃ wi : World, wi = wr := ⟨_, rfl⟩
        have z1 := X1.lt
        rcases Nat.lt_or_ge j nc with hlj | hgj
        rotate_left
        · obtain rfl : nc = j := by omega
          have hlm : ¬ ((nc : Int) < (nc : Int)) := by omega
          have x11 : wi.cell? ⟨w.heap.size, 1, none⟩ = some (.slice Ac nc kc) := X1.cell 1
          go_wp2_with fail
          clear x11 z1 hlm
          go_loopw [9] (fun i wr => ∃ q : Nat, q ≤ nb ∧ i = .int .i64 q ∧ Below w.heap.size w wr ∧ Box wr w.heap.size [.slice Ap n kp, .slice Ac nc kc, .slice Ab nb kb]) (fun i _ => nb - (intOf i).toNat)
          case atStart => exact ⟨0, by omega, rfl, hB, X1⟩
          case round =>
            clear hB X1
            obtain ⟨q, hq, rfl, hB, X1⟩ := hrel
            obtain ⟨wq, rfl⟩ : ∃ wq : World, wq = wr := ⟨_, rfl⟩
            have z1 := X1.lt
            rcases Nat.lt_or_ge q nb with hlq | hgq
            rotate_left
            · obtain rfl : nb = q := by omega
              have hlm : ¬ ((nb : Int) < (nb : Int)) := by omega
              have x12 : wq.cell? ⟨w.heap.size, 2, none⟩ = some (.slice Ab nb kb) := X1.cell 2
              go_wp2
              go_ret
              exact ⟨_, rfl, hB⟩
            have hlm : (q : Int) < (nb : Int) := by omega
            have hqb : q < x.bars.length := by rw [hnb.out]; exact hlq
            obtain ⟨bb, ob, Vb, rfl, hbb, r0, hVb⟩ := hx.out.bars.bar hqb
            obtain ⟨A3, c3, rfl, hz3⟩ := hVb.form
            unfold maxLen at hz3
            obtain ⟨bl, hbl⟩ : ∃ bl, (x.bars[q]).length = bl := ⟨_, rfl⟩
            rw [hbl] at r0 hz3
            clear hbl hVb
            have r0 := (hB.cell hbb).trans r0
            have hbbz := Nat.lt_of_lt_of_le hbb hB.size
            have x12 : wq.cell? ⟨w.heap.size, 2, none⟩ = some (.slice (some ⟨bb, ob, none⟩) nb kb) := X1.cell 2
            by_cases h5 : bl ≤ 20
            · have hd : decide ((20 : Int) < (bl : Int)) = false := decide_eq_false (by omega)
              go_wp2
              exact ⟨⟨q + 1, by omega, by go_num, hB, X1⟩, by simp [intOf]; omega⟩
            · have hd : decide ((20 : Int) < (bl : Int)) = true := decide_eq_true (by omega)
              go_wp2
              go_ret
              exact ⟨_, rfl, hB⟩
        have hlm : (j : Int) < (nc : Int) := by omega
        have hjc : j < x.codes.length := by rw [hnc.out]; exact hlj
        obtain ⟨bc, oc, Vc, rfl, hbc, q0, hVc⟩ := hx.out.codes.code hjc
        obtain ⟨A3, c3, rfl, hz3⟩ := hVc.form
        unfold maxLen at hz3
        have HVC := Lib.hid hVc
        obtain ⟨c, hce⟩ : ∃ c, x.codes[j] = c := ⟨_, rfl⟩
        rw [hce] at HVC q0 hz3
        obtain ⟨bl, hbl⟩ : ∃ bl, c.length = bl := ⟨_, rfl⟩
        rw [hbl] at HVC q0 hz3
        clear hbl hVc hce
        have q0 := (hB.cell hbc).trans q0
        have hbcz := Nat.lt_of_lt_of_le hbc hB.size
        have x11 : wi.cell? ⟨w.heap.size, 1, none⟩ = some (.slice (some ⟨bc, oc, none⟩) nc kc) := X1.cell 1
        by_cases h5 : bl ≤ 12
        rotate_left
        · have hd : decide ((12 : Int) < (bl : Int)) = true := decide_eq_true (by omega)
          go_wp2
          go_ret
          exact ⟨_, rfl, hB⟩
        have hd : decide ((12 : Int) < (bl : Int)) = false := decide_eq_false (by omega)
        go_wp2_with fail
        refine (gfew_any c (.slice A3 bl c3) wi ((HVC.out.below hB).more hB.size)).mono ?_
        rintro e w3 ⟨rfl, hb⟩
        have hB := hB.trans (hb.mono hB.size)
        have X1 := X1.later hb
        clear q0 hbcz x11 hd hb z1
        generalize fewB c = q
        cases q with
        | true =>
          go_wp2
          exact ⟨⟨j + 1, by omega, by go_num, hB, X1⟩, by simp [intOf]; omega⟩
        | false =>
          go_wp2
          go_ret
          exact ⟨_, rfl, hB⟩
    have hlm : (k : Int) < (n : Int) := by omega
    have hkp : k < x.plants.length := by rw [hnp.out]; exact hlt
    obtain ⟨bp, op, rfl, hbp, p0, p1, p2, p3, p4, p5, p6, p7, p8, p9, p10, p11⟩ := hx.out.plants.cells12 hkp
    obtain ⟨p, hp⟩ : ∃ p, x.plants[k] = p := ⟨_, rfl⟩
    rw [hp] at p0 p1 p2 p3 p4 p5 p6 p7 p8 p9 p10 p11
    clear hp
    have p0 := (hB.cell hbp).trans p0
    have p1 := (hB.cell hbp).trans p1
    have p2 := (hB.cell hbp).trans p2
    have p3 := (hB.cell hbp).trans p3
    have p4 := (hB.cell hbp).trans p4
    have p5 := (hB.cell hbp).trans p5
    have p6 := (hB.cell hbp).trans p6
    have p7 := (hB.cell hbp).trans p7
    have p8 := (hB.cell hbp).trans p8
    have p9 := (hB.cell hbp).trans p9
    have p10 := (hB.cell hbp).trans p10
    have p11 := (hB.cell hbp).trans p11
    have hbpz := Nat.lt_of_lt_of_le hbp hB.size
    have x10 : wo.cell? ⟨w.heap.size, 0, none⟩ = some (.slice (some ⟨bp, op, none⟩) n kp) := X1.cell 0
    go_upto_region 8 with fail
    clear p0 p1 p2 p3 p4 p5 p6 p7 p8 p9 p10 p11 hbpz x10
    have hb := (Below.refl wo.heap.size wo).alloc (Nat.le_refl _) (.cells #[.int .i64 p.top, .int .i64 p.bank, .int .i64 p.siphon, .int .i64 p.start, .int .i64 p.positions, .int .i64 p.rate, .int .i64 p.step, .int .i64 p.pass, .int .i64 p.feed, .int .i64 p.pipe, .int .i64 p.orders, .int .i64 p.age] 55)
    have X5 := Box.new wo [.int .i64 p.top, .int .i64 p.bank, .int .i64 p.siphon, .int .i64 p.start, .int .i64 p.positions, .int .i64 p.rate, .int .i64 p.step, .int .i64 p.pass, .int .i64 p.feed, .int .i64 p.pipe, .int .i64 p.orders, .int .i64 p.age] 55
    have hB := hB.trans (hb.mono hB.size)
    have X1 := X1.later hb
    clear hb z1
    generalize wo.alloc (.cells #[.int .i64 p.top, .int .i64 p.bank, .int .i64 p.siphon, .int .i64 p.start, .int .i64 p.positions, .int .i64 p.rate, .int .i64 p.step, .int .i64 p.pass, .int .i64 p.feed, .int .i64 p.pipe, .int .i64 p.orders, .int .i64 p.age] 55) = w2 at hB X1 X5 ⊢
    generalize wo.heap.size = B5 at X5 ⊢
    have z5 := X5.lt
    have X5c0 : w2.cell? ⟨B5, 0, none⟩ = some (.int .i64 p.top) := X5.cell 0
    have X5c1 : w2.cell? ⟨B5, 1, none⟩ = some (.int .i64 p.bank) := X5.cell 1
    have X5c2 : w2.cell? ⟨B5, 2, none⟩ = some (.int .i64 p.siphon) := X5.cell 2
    have X5c3 : w2.cell? ⟨B5, 3, none⟩ = some (.int .i64 p.start) := X5.cell 3
    have X5c4 : w2.cell? ⟨B5, 4, none⟩ = some (.int .i64 p.positions) := X5.cell 4
    have X5c5 : w2.cell? ⟨B5, 5, none⟩ = some (.int .i64 p.rate) := X5.cell 5
    have X5c6 : w2.cell? ⟨B5, 6, none⟩ = some (.int .i64 p.step) := X5.cell 6
    have X5c7 : w2.cell? ⟨B5, 7, none⟩ = some (.int .i64 p.pass) := X5.cell 7
    have X5c8 : w2.cell? ⟨B5, 8, none⟩ = some (.int .i64 p.feed) := X5.cell 8
    have X5c9 : w2.cell? ⟨B5, 9, none⟩ = some (.int .i64 p.pipe) := X5.cell 9
    have X5c10 : w2.cell? ⟨B5, 10, none⟩ = some (.int .i64 p.orders) := X5.cell 10
    have X5c11 : w2.cell? ⟨B5, 11, none⟩ = some (.int .i64 p.age) := X5.cell 11
    go_wp2_with fail
    obtain ⟨cn, er, hcn⟩ : ∃ cn er, Hid (p.countT = (cn, er)) := ⟨_, _, rfl⟩
    refine (rcount_is hcn).mono ?_
    rintro e w3 ⟨rfl, hb⟩
    have hB := hB.trans (hb.mono hB.size)
    have X1 := X1.later hb
    have X5 := X5.later hb
    clear X5c0 X5c1 X5c2 X5c3 X5c4 X5c5 X5c6 X5c7 X5c8 X5c9 X5c10 X5c11 z5 hb
    by_cases h0 : er = 0
    · have he : (er == 0) = true := by simp [h0]
      have z5 := X5.lt
      have x58 : w3.cell? ⟨B5, 8, none⟩ = some (.int .i64 p.feed) := X5.cell 8
      have x510 : w3.cell? ⟨B5, 10, none⟩ = some (.int .i64 p.orders) := X5.cell 10
      go_wp2
      exact ⟨⟨k + 1, _, by omega, by go_num, rfl, hB, X1⟩, by simp [intOf]; omega⟩
    · have he : (er == 0) = false := by simp [h0]
      go_wp2
      exact ⟨⟨k + 1, _, by omega, by go_num, rfl, hB, X1⟩, by simp [intOf]; omega⟩
theorem rCsFew_at {x : Cs} {Vp Vc Vb : Value} {w : World} (hx : CsAt w w.heap.size Vp Vc Vb x) : Calls Try.prog 9 #[.agg #[Vp, Vc, Vb]] w (RetAny w) := by
  obtain ⟨Ap, kp, rfl, h1⟩ := hx.plants.form
  obtain ⟨Ac, kc, rfl, h2⟩ := hx.codes.form
  obtain ⟨Ab, kb, rfl, h3⟩ := hx.bars.form
  unfold maxLen at h1 h2 h3
  exact rCsFew_any x Ap Ac Ab _ _ _ kp kc kb w (Lib.hid rfl) (Lib.hid rfl) (Lib.hid rfl) (Lib.hid hx) (by omega) (by omega) (by omega)
end Go.Proofs.Ytcjcjkomcolgeaa
