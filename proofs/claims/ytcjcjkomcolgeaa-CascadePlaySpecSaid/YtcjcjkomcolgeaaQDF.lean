/- The reference of chapter 35: Check, Certified. (Printed by pp.py.) No condition. -/
import Derived.Test.YtcjcjkomcolgeaaQDD
set_option linter.unusedVariables false
set_option linter.unusedSimpArgs false
namespace Go.Proofs.Ytcjcjkomcolgeaa
open Go.RowKit

set_option maxRecDepth 100000 in
set_option maxHeartbeats 2000000 in
theorem rCsCheck_long (x : Cs) (Ap Ac Ab : Option Addr) (n nc nb kp kc kb : Nat) (w : World) (hn : 8 < n) (hm : n ≤ 9223372036854775807) : Calls Try.prog 13 #[.agg #[.slice Ap n kp, .slice Ac nc kc, .slice Ab nb kb]] w fun e w' => e = .returned (.int .i64 2) ∧ Below w.heap.size w w' := by
  have hd : decide ((n : Int) ≤ 8) = false := decide_eq_false (by omega)
  have hd2 : ¬ ((n : Int) ≤ 8) := by omega
  have hB := (Below.refl w.heap.size w).alloc (Nat.le_refl _) (.cells #[.slice Ap n kp, .slice Ac nc kc, .slice Ab nb kb] 26)
  have hd3 : decide ((8 : Int) < (n : Int)) = true := decide_eq_true (by omega)
  go_enter Try.func13, Try.ntmps13
  go_wp2
  go_ret
  exact ⟨rfl, hB⟩
set_option maxRecDepth 100000 in
set_option maxHeartbeats 2000000 in
theorem rCsCheck_bad (Ap Ac Ab : Option Addr) (n nc nb kp kc kb : Nat) (w : World) (hn : n ≤ 8) (hm1 : nc ≤ 9223372036854775807) (hm2 : nb ≤ 9223372036854775807) (h : n = 0 ∨ nc ≠ n ∨ nb ≠ n) : Calls Try.prog 13 #[.agg #[.slice Ap n kp, .slice Ac nc kc, .slice Ab nb kb]] w fun e w' => e = .returned (.int .i64 350) ∧ Below w.heap.size w w' := by
  have hd1 : decide ((n : Int) ≤ 8) = true := decide_eq_true (by omega)
  have hd2 : (n : Int) ≤ 8 := by omega
  have hd3 : decide ((8 : Int) < (n : Int)) = false := decide_eq_false (by omega)
  have hB := (Below.refl w.heap.size w).alloc (Nat.le_refl _) (.cells #[.slice Ap n kp, .slice Ac nc kc, .slice Ab nb kb] 26)
  rcases Nat.eq_zero_or_pos n with h0 | h0
  · subst h0
    go_enter Try.func13, Try.ntmps13
    go_wp2
    go_ret
    exact ⟨rfl, hB⟩
  have hp : decide ((0 : Int) < (n : Int)) = true := decide_eq_true (by omega)
  have hp2 : (0 : Int) < (n : Int) := by omega
  by_cases h1 : nc = n
  · have hc : ((nc : Int) != (n : Int)) = false := by simp [h1]
    have hz : ((n : Int) == 0) = false := by simp; omega
    have hb : ((nb : Int) != (n : Int)) = true := by simp; omega
    clear h
    have H1 := Lib.hid h1
    clear h1
    go_enter Try.func13, Try.ntmps13
    go_wp2
    go_ret
    exact ⟨rfl, hB⟩
  · have hc : ((nc : Int) != (n : Int)) = true := by simp; omega
    have hz : ((n : Int) == 0) = false := by simp; omega
    clear h
    go_enter Try.func13, Try.ntmps13
    go_wp2
    go_ret
    exact ⟨rfl, hB⟩
set_option maxRecDepth 100000 in
set_option maxHeartbeats 4000000 in
theorem rCsCheck_loop (x : Cs) (Ap Ac Ab : Option Addr) (n kp kc kb : Nat) (w : World) (hn : n ≤ 8) (h0 : 0 < n) (hnp : Hid (x.plants.length = n)) (hnc : Hid (x.codes.length = n)) (hnb : Hid (x.bars.length = n)) (hx : Hid (CsAt w w.heap.size (.slice Ap n kp) (.slice Ac n kc) (.slice Ab n kb) x)) (er : Int) (hT : Hid (firstErr x.gateT (List.range n) = er)) :
    Calls Try.prog 13 #[.agg #[.slice Ap n kp, .slice Ac n kc, .slice Ab n kb]] w fun e w' => e = .returned (.int .i64 er) ∧ Below w.heap.size w w' := by
  have hd1 : decide ((n : Int) ≤ 8) = true := decide_eq_true (by omega)
  have hd2 : (n : Int) ≤ 8 := by omega
  have hd3 : decide ((8 : Int) < (n : Int)) = false := decide_eq_false (by omega)
  have hp : decide ((0 : Int) < (n : Int)) = true := decide_eq_true (by omega)
  have hp2 : (0 : Int) < (n : Int) := by omega
  have hB := (Below.refl w.heap.size w).alloc (Nat.le_refl _) (.cells #[.slice Ap n kp, .slice Ac n kc, .slice Ab n kb] 26)
  have X1 := Box.new w [.slice Ap n kp, .slice Ac n kc, .slice Ab n kb] 26
  go_enter Try.func13, Try.ntmps13
  have hz : ((n : Int) == 0) = false := by simp; omega
  go_wp2_with fail
  clear hd1 hd2 hd3 hp hp2 hz
  generalize w.alloc (.cells #[.slice Ap n kp, .slice Ac n kc, .slice Ab n kb] 26) = w1 at hB X1 ⊢
  go_loopw [4] (fun i wr => ∃ k : Nat, k ≤ n ∧ i = .int .i64 k ∧ Below w1.heap.size w1 wr ∧ Hid (x.okTo k)) (fun i _ => n - (intOf i).toNat)
  case atStart => exact ⟨0, by omega, rfl, Below.refl _ _, Lib.hid (fun j hj => by omega)⟩
  case round =>
    obtain ⟨k, hk, rfl, hb, hok⟩ := hrel
    obtain ⟨wo, rfl⟩ : ∃ wo : World, wo = wr := ⟨_, rfl⟩
    have hbw := hB.trans (hb.mono hB.size)
    rcases Nat.lt_or_ge k n with hlt | hge
    rotate_left
    · obtain rfl : k = n := by omega
      have hF := hT.out
      rw [firstErr_zero (fun i hi => hok.out i (List.mem_range.1 hi))] at hF
      have HF := Lib.hid hF
      clear hF
      have hd4 : ¬ ((k : Int) < (k : Int)) := by omega
      go_wp2
      go_ret
      obtain rfl := HF.out
      exact ⟨rfl, hbw⟩
    have hd4 : (k : Int) < (n : Int) := by omega
    have hkp : k < x.plants.length := by rw [hnp.out]; exact hlt
    have hkc : k < x.codes.length := by rw [hnc.out]; exact hlt
    have hkb : k < x.bars.length := by rw [hnb.out]; exact hlt
    have hgT : x.gateT k = if (x.plants[k]).checkT = 0 then (if gateT x.codes[k] = 0 then barT x.bars[k] else gateT x.codes[k]) else (x.plants[k]).checkT := by
      rw [Cs.gateT, getD_at hkp, getD_at hkc, getD_at hkb]
    obtain ⟨bp, op, rfl, hbp, p0, p1, p2, p3, p4, p5, p6, p7, p8, p9, p10, p11⟩ := hx.out.plants.cells12 hkp
    obtain ⟨bc, oc, Vc, rfl, hbc, q0, hVc⟩ := hx.out.codes.code hkc
    obtain ⟨bb, ob, Vb, rfl, hbb, r0, hVb⟩ := hx.out.bars.bar hkb
    obtain ⟨p, hpe⟩ : ∃ p, x.plants[k] = p := ⟨_, rfl⟩
    obtain ⟨c, hce⟩ : ∃ c, x.codes[k] = c := ⟨_, rfl⟩
    obtain ⟨b, hbe⟩ : ∃ b, x.bars[k] = b := ⟨_, rfl⟩
    rw [hpe, hce, hbe] at hgT
    rw [hpe] at p0 p1 p2 p3 p4 p5 p6 p7 p8 p9 p10 p11
    rw [hce] at hVc
    rw [hbe] at hVb
    have HG := Lib.hid hgT
    have HVc := Lib.hid hVc
    have HVb := Lib.hid hVb
    clear hgT hpe hce hbe hVc hVb
    have p0 := (hbw.cell hbp).trans p0
    have p1 := (hbw.cell hbp).trans p1
    have p2 := (hbw.cell hbp).trans p2
    have p3 := (hbw.cell hbp).trans p3
    have p4 := (hbw.cell hbp).trans p4
    have p5 := (hbw.cell hbp).trans p5
    have p6 := (hbw.cell hbp).trans p6
    have p7 := (hbw.cell hbp).trans p7
    have p8 := (hbw.cell hbp).trans p8
    have p9 := (hbw.cell hbp).trans p9
    have p10 := (hbw.cell hbp).trans p10
    have p11 := (hbw.cell hbp).trans p11
    have x1 := X1.later hb
    have x1z := x1.lt
    have x1c0 : wo.cell? ⟨w.heap.size, 0, none⟩ = some (.slice (some ⟨bp, op, none⟩) n kp) := x1.cell 0
    have x1c1 : wo.cell? ⟨w.heap.size, 1, none⟩ = some (.slice (some ⟨bc, oc, none⟩) n kc) := x1.cell 1
    have x1c2 : wo.cell? ⟨w.heap.size, 2, none⟩ = some (.slice (some ⟨bb, ob, none⟩) n kb) := x1.cell 2
    obtain ⟨e1, he1⟩ : ∃ e1, Hid (p.checkT = e1) := ⟨_, rfl⟩
    have hbpz := Nat.lt_of_lt_of_le hbp hbw.size
    go_wp2_with fail
    refine (rcheck_at he1 _).mono ?_
    rintro e w2 ⟨rfl, hb2⟩
    clear p0 p1 p2 p3 p4 p5 p6 p7 p8 p9 p10 p11 x1c0 x1c1 x1c2 x1z hbpz
    have x1 := x1.later hb2
    have hb := hb.trans (hb2.mono hb.size)
    have hbw := hbw.trans (hb2.mono hbw.size)
    clear hb2
    by_cases h1 : e1 = 0
    rotate_left
    · have hE := Lib.hid (firstErr_at hlt hok.out (by rw [HG.out, if_neg (by rw [he1.out]; exact h1), he1.out]; exact h1))
      have hEe : Hid (er = e1) := by
        rw [Hid, ← hT.out, hE.out, HG.out, if_neg (by rw [he1.out]; exact h1), he1.out]
      have hne : (e1 != 0) = true := by simp [h1]
      go_wp2
      go_ret
      obtain rfl := hEe.out
      exact ⟨rfl, hbw⟩
    subst h1
    have x1z := x1.lt
    have x1c0 : w2.cell? ⟨w.heap.size, 0, none⟩ = some (.slice (some ⟨bp, op, none⟩) n kp) := x1.cell 0
    have x1c1 : w2.cell? ⟨w.heap.size, 1, none⟩ = some (.slice (some ⟨bc, oc, none⟩) n kc) := x1.cell 1
    have x1c2 : w2.cell? ⟨w.heap.size, 2, none⟩ = some (.slice (some ⟨bb, ob, none⟩) n kb) := x1.cell 2
    have q0' := (hbw.cell hbc).trans q0
    obtain ⟨e2, he2⟩ : ∃ e2, Hid (gateT c = e2) := ⟨_, rfl⟩
    go_wp2_with fail
    refine (rgcheck_at he2 ((HVc.out.below hbw).more hbw.size)).mono ?_
    rintro e w3 ⟨rfl, hb2⟩
    clear q0' x1c0 x1c1 x1c2 x1z
    have x1 := x1.later hb2
    have hb := hb.trans (hb2.mono hb.size)
    have hbw := hbw.trans (hb2.mono hbw.size)
    clear hb2
    by_cases h2 : e2 = 0
    rotate_left
    · have hE := Lib.hid (firstErr_at hlt hok.out (by rw [HG.out, if_pos he1.out, if_neg (by rw [he2.out]; exact h2), he2.out]; exact h2))
      have hEe : Hid (er = e2) := by
        rw [Hid, ← hT.out, hE.out, HG.out, if_pos he1.out, if_neg (by rw [he2.out]; exact h2), he2.out]
      have hne : (e2 != 0) = true := by simp [h2]
      go_wp2
      go_ret
      obtain rfl := hEe.out
      exact ⟨rfl, hbw⟩
    subst h2
    have x1z := x1.lt
    have x1c0 : w3.cell? ⟨w.heap.size, 0, none⟩ = some (.slice (some ⟨bp, op, none⟩) n kp) := x1.cell 0
    have x1c1 : w3.cell? ⟨w.heap.size, 1, none⟩ = some (.slice (some ⟨bc, oc, none⟩) n kc) := x1.cell 1
    have x1c2 : w3.cell? ⟨w.heap.size, 2, none⟩ = some (.slice (some ⟨bb, ob, none⟩) n kb) := x1.cell 2
    have r0' := (hbw.cell hbb).trans r0
    obtain ⟨t3, e3, he3⟩ : ∃ t3 e3, Hid (holdsT b St.zero = (t3, e3)) := ⟨_, _, rfl⟩
    have he4 : Hid (barT b = e3) := by rw [Hid, ← holds_zero, he3.out]
    go_wp2_with fail
    refine (rbHolds_is he3 ((HVb.out.below hbw).more hbw.size)).mono ?_
    rintro e w4 ⟨rfl, hb2⟩
    clear r0' x1c0 x1c1 x1c2 x1z
    have x1 := x1.later hb2
    have hb := hb.trans (hb2.mono hb.size)
    have hbw := hbw.trans (hb2.mono hbw.size)
    clear hb2
    by_cases h3 : e3 = 0
    rotate_left
    · have hE := Lib.hid (firstErr_at hlt hok.out (by rw [HG.out, if_pos he1.out, if_pos he2.out, he4.out]; exact h3))
      have hEe : Hid (er = e3) := by
        rw [Hid, ← hT.out, hE.out, HG.out, if_pos he1.out, if_pos he2.out, he4.out]
      have hne : (e3 != 0) = true := by simp [h3]
      go_wp2
      go_ret
      obtain rfl := hEe.out
      exact ⟨rfl, hbw⟩
    subst h3
    go_wp2
    refine ⟨⟨k + 1, by omega, by go_num, hb, Lib.hid (fun j hj => ?_)⟩, by simp [intOf]; omega⟩
    rcases Nat.lt_or_ge j k with hjk | hjk
    · exact hok.out j hjk
    · obtain rfl : j = k := by omega
      rw [HG.out, if_pos he1.out, if_pos he2.out, he4.out]
theorem rCsCheck_is {x : Cs} {Vp Vc Vb : Value} {w : World} {er : Int} (hT : Hid (x.checkT = er)) (hx : CsAt w w.heap.size Vp Vc Vb x) : Calls Try.prog 13 #[.agg #[Vp, Vc, Vb]] w fun e w' => e = .returned (.int .i64 er) ∧ Below w.heap.size w w' := by
  obtain ⟨Ap, kp, rfl, hmp⟩ := hx.plants.form
  obtain ⟨Ac, kc, rfl, hmc⟩ := hx.codes.form
  obtain ⟨Ab, kb, rfl, hmb⟩ := hx.bars.form
  simp only [maxLen] at hmp hmc hmb
  have h := hT.out
  unfold Cs.checkT at h
  by_cases h8 : x.plants.length ≤ 8
  · rw [if_pos h8] at h
    by_cases hb : x.plants.length = 0 ∨ x.codes.length ≠ x.plants.length ∨ x.bars.length ≠ x.plants.length
    · rw [if_pos hb] at h
      subst h
      exact rCsCheck_bad Ap Ac Ab _ _ _ kp kc kb w h8 (by omega) (by omega) hb
    · rw [if_neg hb] at h
      obtain ⟨n, hn⟩ : ∃ n, x.plants.length = n := ⟨_, rfl⟩
      have h1 : x.codes.length = n := by rw [← hn]; exact Decidable.byContradiction fun h => hb (.inr (.inl h))
      have h2 : x.bars.length = n := by rw [← hn]; exact Decidable.byContradiction fun h => hb (.inr (.inr h))
      have h3 : 0 < n := by rw [← hn]; exact Nat.pos_of_ne_zero fun h => hb (.inl h)
      rw [hn, h1, h2] at hx ⊢
      rw [hn] at h h8
      exact rCsCheck_loop x Ap Ac Ab n kp kc kb w h8 h3 hn h1 h2 hx er h
  · rw [if_neg h8] at h
    subst h
    exact rCsCheck_long x Ap Ac Ab _ _ _ kp kc kb w (by omega) (by omega)
end Go.Proofs.Ytcjcjkomcolgeaa

/-
  The reference of chapter 35: certified, Certified. (Printed by gen_dg.py.) No condition.
-/
namespace Go.Proofs.Ytcjcjkomcolgeaa
open Go.RowKit

end Go.Proofs.Ytcjcjkomcolgeaa

/-
  The reference of chapter 35: Certified. (Printed by pp.py.) No condition.
-/
namespace Go.Proofs.Ytcjcjkomcolgeaa
open Go.RowKit

end Go.Proofs.Ytcjcjkomcolgeaa
