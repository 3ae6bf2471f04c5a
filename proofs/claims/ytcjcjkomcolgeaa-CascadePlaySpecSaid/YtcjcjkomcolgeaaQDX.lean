/- The reference of chapter 35: hour. (Printed by gen_dx.py.) No condition. -/
import Derived.Test.YtcjcjkomcolgeaaQDK
import Derived.Test.YtcjcjkomcolgeaaQKD
import Derived.Test.YtcjcjkomcolgeaaQDP
set_option linter.unusedVariables false
set_option linter.unusedSimpArgs false
namespace Go.Proofs.Ytcjcjkomcolgeaa
open Go.RowKit
attribute [local go_sem ↓ high] app_named

def RHour (x : Cs) (sts : List St) (s : Sp) (n : Nat) (w : World) (e : Ending) (w' : World) : Prop := Below w.heap.size w w' ∧
  ((Hid (x.hourK sts s n = none) ∧ e = .returned (.tuple #[.slice none 0 0, .bool false])) ∨ ∃ f l V B, Hid (x.hourK sts s n = some (f, l)) ∧ e = .returned (.tuple #[V, .bool true]) ∧ w.heap.size ≤ B ∧ Hid (OwnSt w' B V l))
set_option maxRecDepth 100000 in
set_option maxHeartbeats 40000000 in
theorem rHour_is (x : Cs) (n : Nat) (sts : List St) (s : Sp) (Ap Ac Ab As Am Ak : Option Addr) (kp kc kb ks cm ck : Nat) (w : World) (hR : Hid (CsRight x n)) (hs : Hid (x.hasAll n sts)) (hv : Hid (x.stepB s = true))
    (hx : Hid (CsAt w w.heap.size (.slice Ap n kp) (.slice Ac n kc) (.slice Ab n kb) x)) (hS : Hid (StsAt w w.heap.size (.slice As n ks) sts)) (hM : Hid (IntL w w.heap.size (.slice Am n cm) s.msgs)) (hK : Hid (BoolL w w.heap.size (.slice Ak n ck) s.stuck)) :
    Calls Try.prog 45 #[.agg #[.slice Ap n kp, .slice Ac n kc, .slice Ab n kb], .slice As n ks, .agg #[.int .i64 s.feed, .slice Am n cm, .slice Ak n ck]] w (RHour x sts s n w) := by
  obtain ⟨i0, E⟩ := elem_state
  have hn8 := hR.out.most
  have hMl : s.msgs.length = n := by
    have := hv.out
    simp only [Cs.stepB, Bool.and_eq_true, decide_eq_true_eq, hR.out.plants] at this
    exact this.1
  have hKl : s.stuck.length = n := by
    have := hv.out
    simp only [Cs.stepB, Bool.and_eq_true, decide_eq_true_eq, hR.out.plants] at this
    exact this.2.1
  have HML := Lib.hid hMl
  have HKL := Lib.hid hKl
  clear hMl hKl
  have hB := ((Below.refl w.heap.size w).alloc (Nat.le_refl _) (.cells #[.slice Ap n kp, .slice Ac n kc, .slice Ab n kb] 26)).alloc (by simp) (.cells #[.int .i64 s.feed, .slice Am n cm, .slice Ak n ck] 44)
  have X3 := (Box.new w [.slice Ap n kp, .slice Ac n kc, .slice Ab n kb] 26).alloc (.cells #[.int .i64 s.feed, .slice Am n cm, .slice Ak n ck] 44)
  have X5 := Box.newAt (w := w.alloc (.cells #[.slice Ap n kp, .slice Ac n kc, .slice Ab n kb] 26)) (n := w.heap.size + 1) [.int .i64 s.feed, .slice Am n cm, .slice Ak n ck] 44 (by simp)
  go_enter Try.func45, Try.ntmps45
  go_upto_region 1 with fail
  generalize (w.alloc (.cells #[.slice Ap n kp, .slice Ac n kc, .slice Ab n kb] 26)).alloc (.cells #[.int .i64 s.feed, .slice Am n cm, .slice Ak n ck] 44) = W at hB X3 X5 ⊢
  have z5 := X5.lt
  have x50 : W.cell? ⟨w.heap.size + 1, 0, none⟩ = some (.int .i64 s.feed) := X5.cell 0
  go_wp2_with fail
  clear x50
  have hO0 := Lib.hid (ownE_nil St.cells 6 W (w.heap.size + 2) 51)
  go_loopw [8, 9, 10] (fun fs V i wr => ∃ (k : Nat) (f : Int) (l : List St), k ≤ n ∧ i = .int .i64 k ∧ fs = .int .i64 f ∧ Hid (x.hourK sts s k = some (f, l)) ∧ Below w.heap.size w wr ∧ Box wr w.heap.size [.slice Ap n kp, .slice Ac n kc, .slice Ab n kb] ∧ Box wr (w.heap.size + 1) [.int .i64 s.feed, .slice Am n cm, .slice Ak n ck] ∧ Hid (OwnSt wr (w.heap.size + 2) V l)) (fun _ _ i _ => n - (intOf i).toNat)
  case atStart => exact ⟨0, s.feed, [], by omega, rfl, rfl, Lib.hid rfl, hB, X3, X5, hO0⟩
  case round =>
    clear hB X3 X5 hO0 z5
    obtain ⟨k, f, l, hk, rfl, rfl, hq, hB, X3, X5, hO⟩ := hrel
    obtain ⟨wo, rfl⟩ : ∃ wo : World, wo = wr := ⟨_, rfl⟩
    have z3 := X3.lt
    have z5 := X5.lt
    rcases Nat.lt_or_ge k n with hlt | hge
    rotate_left
    · obtain rfl : n = k := by omega
      have hlm : ¬ ((n : Int) < (n : Int)) := by omega
      have x30 : wo.cell? ⟨w.heap.size, 0, none⟩ = some (.slice Ap n kp) := X3.cell 0
      go_wp2
      refine bodyPost_ret (results_tmp2 Try.results45 _ _ _) rfl ?_
      exact ⟨hB, .inr ⟨f, l, u9, w.heap.size + 2, hq, rfl, by omega, hO⟩⟩
    have hlm : (k : Int) < (n : Int) := by omega
    have hkp : k < x.plants.length := by rw [hR.out.plants]; exact hlt
    have hkc : k < x.codes.length := by rw [hR.out.codes]; exact hlt
    have hkm : k < s.msgs.length := by rw [HML.out]; exact hlt
    have hkk : k < s.stuck.length := by rw [HKL.out]; exact hlt
    have hks : k < sts.length := by rw [hs.out.1]; exact hlt
    obtain ⟨bp, op, rfl, hbp, p0, p1, p2, p3, p4, p5, p6, p7, p8, p9, p10, p11⟩ := hx.out.plants.cells12 hkp
    obtain ⟨bc, oc, Vc, rfl, hbc, q0, hVc⟩ := hx.out.codes.code hkc
    obtain ⟨bs, os, rfl, hbs, s0, s1, s2, s3, s4, s5⟩ := hS.out.state hks
    have hM1 := hM.out
    have hK1 := hK.out
    obtain ⟨bm, om, rfl, hbm, m0⟩ := hM1.at hkm
    obtain ⟨bk, ok, rfl, hbk, k0⟩ := hK1.at hkk
    clear hM1 hK1
    have hn0 := (hourK_ok hR.out hs.out hv.out (Nat.le_of_lt hlt) hq.out).1
    obtain ⟨p, hp⟩ : ∃ p, x.plants[k] = p := ⟨_, rfl⟩
    obtain ⟨t, ht⟩ : ∃ t, sts[k] = t := ⟨_, rfl⟩
    obtain ⟨mg, hmg⟩ : ∃ mg, s.msgs[k] = mg := ⟨_, rfl⟩
    obtain ⟨u, hu⟩ : ∃ u, s.stuck[k] = u := ⟨_, rfl⟩
    obtain ⟨c, hc⟩ : ∃ c, x.codes[k] = c := ⟨_, rfl⟩
    have HP : Hid (x.plants.getD k Pl.zero = p) := Lib.hid ((getD_at hkp).trans hp)
    have HU : Hid (s.stuck.getD k false = u) := Lib.hid ((getD_at hkk).trans hu)
    have HC : Hid (x.codes.getD k [] = c) := Lib.hid ((getD_at hkc).trans hc)
    have hgT : ∀ f, x.goT sts s k f = nextT p (x.codeT s k) t ⟨f, mg⟩ := fun f => by rw [Cs.goT, HP.out, getD_at hks, ht, getD_at hkm, hmg]
    have HGT := Lib.hid hgT
    rw [hp] at p0 p1 p2 p3 p4 p5 p6 p7 p8 p9 p10 p11
    rw [ht] at s0 s1 s2 s3 s4 s5
    rw [hmg] at m0
    rw [hu] at k0
    rw [hc] at hVc
    obtain ⟨Aq, cq, rfl, -⟩ := hVc.form
    obtain ⟨nq, hnq⟩ : ∃ nq, c.length = nq := ⟨_, rfl⟩
    rw [hnq] at q0 hVc
    clear hnq
    obtain ⟨t0, t1, t2, t3, t4, t5⟩ := t
    dsimp only at s0 s1 s2 s3 s4 s5
    have HVC := Lib.hid hVc
    clear hp ht hmg hu hc hgT hVc
    have p0 := (hB.cell hbp).trans p0
    have p1 := (hB.cell hbp).trans p1
    have p2 := (hB.cell hbp).trans p2
    have p3 := (hB.cell hbp).trans p3
    have p4 := (hB.cell hbp).trans p4
    have p5 := (hB.cell hbp).trans p5
    have p6 := (hB.cell hbp).trans p6
    have p7 := (hB.cell hbp).trans p7
    have p8 := (hB.cell hbp).trans p8
    have p9 := (hB.cell hbp).trans p9
    have p10 := (hB.cell hbp).trans p10
    have p11 := (hB.cell hbp).trans p11
    have s0 := (hB.cell hbs).trans s0
    have s1 := (hB.cell hbs).trans s1
    have s2 := (hB.cell hbs).trans s2
    have s3 := (hB.cell hbs).trans s3
    have s4 := (hB.cell hbs).trans s4
    have s5 := (hB.cell hbs).trans s5
    have q0 := (hB.cell hbc).trans q0
    have m0 := (hB.cell hbm).trans m0
    have k0 := (hB.cell hbk).trans k0
    have bpz := Nat.lt_of_lt_of_le hbp hB.size
    have bcz := Nat.lt_of_lt_of_le hbc hB.size
    have bsz := Nat.lt_of_lt_of_le hbs hB.size
    have bmz := Nat.lt_of_lt_of_le hbm hB.size
    have bkz := Nat.lt_of_lt_of_le hbk hB.size
    have X3c0 : wo.cell? ⟨w.heap.size, 0, none⟩ = some (.slice (some ⟨bp, op, none⟩) n kp) := X3.cell 0
    have X3c1 : wo.cell? ⟨w.heap.size, 1, none⟩ = some (.slice (some ⟨bc, oc, none⟩) n kc) := X3.cell 1
    have x51 : wo.cell? ⟨w.heap.size + 1, 1, none⟩ = some (.slice (some ⟨bm, om, none⟩) n cm) := X5.cell 1
    have x52 : wo.cell? ⟨w.heap.size + 1, 2, none⟩ = some (.slice (some ⟨bk, ok, none⟩) n ck) := X5.cell 2
    by_cases hfe : f ≤ p.feed
    rotate_left
    · have hd : decide (p.feed < f) = true := decide_eq_true (by omega)
      have hno := hourK_none (hourK_no hq.out (by rw [HP.out]; exact hfe)) (n - (k + 1))
      rw [show k + 1 + (n - (k + 1)) = n by omega] at hno
      have HNO := Lib.hid hno
      clear hno hfe
      go_wp2
      refine bodyPost_ret (results_tmp2 Try.results45 _ _ _) rfl ?_
      exact ⟨hB, .inl ⟨HNO, rfl⟩⟩
    have hd : decide (p.feed < f) = false := decide_eq_false (by omega)
    have HFE : Hid (f ≤ (x.plants.getD k Pl.zero).feed) := Lib.hid (by rw [HP.out]; exact hfe)
    have hgo := go_ok hR.out hs.out hv.out hlt hn0 HFE.out
    obtain ⟨rn, on, en, hnx⟩ : ∃ rn on en, Hid (x.goT sts s k f = (rn, on, en)) := ⟨_, _, _, rfl⟩
    rw [hnx.out] at hgo
    obtain ⟨rfl, -, -⟩ := hgo
    obtain ⟨r0, r1, r2, r3, r4, r5⟩ := rn
    have HNX : Hid (nextT p (x.codeT s k) ⟨t0, t1, t2, t3, t4, t5⟩ ⟨f, mg⟩ = (⟨r0, r1, r2, r3, r4, r5⟩, on, 0)) := Lib.hid ((HGT.out f).symm.trans hnx.out)
    have hyes := hourK_yes hq.out HFE.out
    rw [hnx.out] at hyes
    dsimp only at hyes
    have HY := Lib.hid hyes
    clear hyes hfe HGT
    have hlen : l.length = k := hourK_len hq.out
    have HLEN := Lib.hid hlen
    clear hlen
    go_upto_region 9 with fail
    have hb1 := (Below.refl wo.heap.size wo).alloc (Nat.le_refl _) (.cells #[.slice Aq nq cq] 63)
    have X11 := Box.new wo [.slice Aq nq cq] 63
    have hwo : w.heap.size + 1 < wo.heap.size := z5
    generalize wo.alloc (.cells #[.slice Aq nq cq] 63) = wa at hb1 X11 ⊢
    have hwa := hb1.size
    generalize hDc : wo.heap.size = Dc at X11 hwo hwa ⊢
    have HDC := Lib.hid hDc
    clear hDc
    have p0 := (hb1.cell bpz).trans p0
    have p1 := (hb1.cell bpz).trans p1
    have p2 := (hb1.cell bpz).trans p2
    have p3 := (hb1.cell bpz).trans p3
    have p4 := (hb1.cell bpz).trans p4
    have p5 := (hb1.cell bpz).trans p5
    have p6 := (hb1.cell bpz).trans p6
    have p7 := (hb1.cell bpz).trans p7
    have p8 := (hb1.cell bpz).trans p8
    have p9 := (hb1.cell bpz).trans p9
    have p10 := (hb1.cell bpz).trans p10
    have p11 := (hb1.cell bpz).trans p11
    have s0 := (hb1.cell bsz).trans s0
    have s1 := (hb1.cell bsz).trans s1
    have s2 := (hb1.cell bsz).trans s2
    have s3 := (hb1.cell bsz).trans s3
    have s4 := (hb1.cell bsz).trans s4
    have s5 := (hb1.cell bsz).trans s5
    have q0 := (hb1.cell bcz).trans q0
    have m0 := (hb1.cell bmz).trans m0
    have k0 := (hb1.cell bkz).trans k0
    have X3c0 := (hb1.cell z3).trans X3c0
    have X3c1 := (hb1.cell z3).trans X3c1
    have x51 := (hb1.cell z5).trans x51
    have x52 := (hb1.cell z5).trans x52
    have bpz := Nat.lt_of_lt_of_le bpz hb1.size
    have bsz := Nat.lt_of_lt_of_le bsz hb1.size
    have bcz := Nat.lt_of_lt_of_le bcz hb1.size
    have bmz := Nat.lt_of_lt_of_le bmz hb1.size
    have bkz := Nat.lt_of_lt_of_le bkz hb1.size
    have z3 := Nat.lt_of_lt_of_le z3 hb1.size
    have z5 := Nat.lt_of_lt_of_le z5 hb1.size
    have z11 := X11.lt
    cases u with
    | true =>
      have x11 : wa.cell? ⟨Dc, 0, none⟩ = some (.slice Aq nq cq) := X11.cell 0
      have f11 := X11.free 0
      go_upto_region 11 with fail
      have hw1 := hb1.setCell (p := ⟨Dc, 0, none⟩) (by have := HDC.out; dsimp only; omega) (.slice none 0 0)
      have X11 := X11.set 0 (.slice none 0 0)
      have p0 : (wa.setCell ⟨Dc, 0, none⟩ (.slice none 0 0)).cell? _ = _ := (World.cell?_setCell_far _ _ _ _ (by dsimp only; have := HDC.out; omega)).trans p0
      have p1 : (wa.setCell ⟨Dc, 0, none⟩ (.slice none 0 0)).cell? _ = _ := (World.cell?_setCell_far _ _ _ _ (by dsimp only; have := HDC.out; omega)).trans p1
      have p2 : (wa.setCell ⟨Dc, 0, none⟩ (.slice none 0 0)).cell? _ = _ := (World.cell?_setCell_far _ _ _ _ (by dsimp only; have := HDC.out; omega)).trans p2
      have p3 : (wa.setCell ⟨Dc, 0, none⟩ (.slice none 0 0)).cell? _ = _ := (World.cell?_setCell_far _ _ _ _ (by dsimp only; have := HDC.out; omega)).trans p3
      have p4 : (wa.setCell ⟨Dc, 0, none⟩ (.slice none 0 0)).cell? _ = _ := (World.cell?_setCell_far _ _ _ _ (by dsimp only; have := HDC.out; omega)).trans p4
      have p5 : (wa.setCell ⟨Dc, 0, none⟩ (.slice none 0 0)).cell? _ = _ := (World.cell?_setCell_far _ _ _ _ (by dsimp only; have := HDC.out; omega)).trans p5
      have p6 : (wa.setCell ⟨Dc, 0, none⟩ (.slice none 0 0)).cell? _ = _ := (World.cell?_setCell_far _ _ _ _ (by dsimp only; have := HDC.out; omega)).trans p6
      have p7 : (wa.setCell ⟨Dc, 0, none⟩ (.slice none 0 0)).cell? _ = _ := (World.cell?_setCell_far _ _ _ _ (by dsimp only; have := HDC.out; omega)).trans p7
      have p8 : (wa.setCell ⟨Dc, 0, none⟩ (.slice none 0 0)).cell? _ = _ := (World.cell?_setCell_far _ _ _ _ (by dsimp only; have := HDC.out; omega)).trans p8
      have p9 : (wa.setCell ⟨Dc, 0, none⟩ (.slice none 0 0)).cell? _ = _ := (World.cell?_setCell_far _ _ _ _ (by dsimp only; have := HDC.out; omega)).trans p9
      have p10 : (wa.setCell ⟨Dc, 0, none⟩ (.slice none 0 0)).cell? _ = _ := (World.cell?_setCell_far _ _ _ _ (by dsimp only; have := HDC.out; omega)).trans p10
      have p11 : (wa.setCell ⟨Dc, 0, none⟩ (.slice none 0 0)).cell? _ = _ := (World.cell?_setCell_far _ _ _ _ (by dsimp only; have := HDC.out; omega)).trans p11
      have s0 : (wa.setCell ⟨Dc, 0, none⟩ (.slice none 0 0)).cell? _ = _ := (World.cell?_setCell_far _ _ _ _ (by dsimp only; have := HDC.out; omega)).trans s0
      have s1 : (wa.setCell ⟨Dc, 0, none⟩ (.slice none 0 0)).cell? _ = _ := (World.cell?_setCell_far _ _ _ _ (by dsimp only; have := HDC.out; omega)).trans s1
      have s2 : (wa.setCell ⟨Dc, 0, none⟩ (.slice none 0 0)).cell? _ = _ := (World.cell?_setCell_far _ _ _ _ (by dsimp only; have := HDC.out; omega)).trans s2
      have s3 : (wa.setCell ⟨Dc, 0, none⟩ (.slice none 0 0)).cell? _ = _ := (World.cell?_setCell_far _ _ _ _ (by dsimp only; have := HDC.out; omega)).trans s3
      have s4 : (wa.setCell ⟨Dc, 0, none⟩ (.slice none 0 0)).cell? _ = _ := (World.cell?_setCell_far _ _ _ _ (by dsimp only; have := HDC.out; omega)).trans s4
      have s5 : (wa.setCell ⟨Dc, 0, none⟩ (.slice none 0 0)).cell? _ = _ := (World.cell?_setCell_far _ _ _ _ (by dsimp only; have := HDC.out; omega)).trans s5
      have q0 : (wa.setCell ⟨Dc, 0, none⟩ (.slice none 0 0)).cell? _ = _ := (World.cell?_setCell_far _ _ _ _ (by dsimp only; have := HDC.out; omega)).trans q0
      have m0 : (wa.setCell ⟨Dc, 0, none⟩ (.slice none 0 0)).cell? _ = _ := (World.cell?_setCell_far _ _ _ _ (by dsimp only; have := HDC.out; omega)).trans m0
      have k0 : (wa.setCell ⟨Dc, 0, none⟩ (.slice none 0 0)).cell? _ = _ := (World.cell?_setCell_far _ _ _ _ (by dsimp only; have := HDC.out; omega)).trans k0
      have X3c0 : (wa.setCell ⟨Dc, 0, none⟩ (.slice none 0 0)).cell? _ = _ := (World.cell?_setCell_far _ _ _ _ (by dsimp only; have := HDC.out; omega)).trans X3c0
      have X3c1 : (wa.setCell ⟨Dc, 0, none⟩ (.slice none 0 0)).cell? _ = _ := (World.cell?_setCell_far _ _ _ _ (by dsimp only; have := HDC.out; omega)).trans X3c1
      have x51 : (wa.setCell ⟨Dc, 0, none⟩ (.slice none 0 0)).cell? _ = _ := (World.cell?_setCell_far _ _ _ _ (by dsimp only; have := HDC.out; omega)).trans x51
      have x52 : (wa.setCell ⟨Dc, 0, none⟩ (.slice none 0 0)).cell? _ = _ := (World.cell?_setCell_far _ _ _ _ (by dsimp only; have := HDC.out; omega)).trans x52
      have hsw : (wa.setCell ⟨Dc, 0, none⟩ (.slice none 0 0)).heap.size = wa.heap.size := by simp
      rw [← hsw] at bpz bsz bcz bmz bkz z3 z5 z11
      clear hsw
      generalize wa.setCell ⟨Dc, 0, none⟩ (.slice none 0 0) = W1 at *
      have hcd : Hid (CodeAt W1 w.heap.size (.slice none 0 0) (x.codeT s k)) := by
        refine Lib.hid ?_
        unfold Cs.codeT
        rw [if_pos HU.out]
        exact ⟨fun _ => undef, ⟨none, 0, rfl, by simp [maxLen], fun i hi => absurd hi (Nat.not_lt_zero _)⟩, fun i l hl => by cases hl⟩
      have hwW := hw1.size
      have hWz : w.heap.size ≤ W1.heap.size := by have := hB.size; omega
      have z11 := X11.lt
      have hnext : ∀ z : World, Below W1.heap.size W1 z → Calls Try.prog 73 #[.agg #[.int .i64 p.top, .int .i64 p.bank, .int .i64 p.siphon, .int .i64 p.start, .int .i64 p.positions, .int .i64 p.rate, .int .i64 p.step, .int .i64 p.pass, .int .i64 p.feed, .int .i64 p.pipe, .int .i64 p.orders, .int .i64 p.age], .agg #[.slice none 0 0], .agg #[.int .i64 t0, .int .i64 t1, .int .i64 t2, .int .i64 t3, .int .i64 t4, .int .i64 t5], .agg #[.int .i64 f, .int .i64 mg]] z (fun e w' => e = .returned (.tuple #[.agg #[.int .i64 r0, .int .i64 r1, .int .i64 r2, .int .i64 r3, .int .i64 r4, .int .i64 r5], .int .i64 on, .int .i64 0]) ∧ Below z.heap.size z w') :=
        fun z hz => rnext_is (s := ⟨t0, t1, t2, t3, t4, t5⟩) (x := ⟨f, mg⟩) HNX ((hcd.out.below (hz.mono hWz)).more (Nat.le_trans hWz hz.size))
      have x11 : W1.cell? ⟨Dc, 0, none⟩ = some (.slice none 0 0) := X11.cell 0
      have f0 : ∀ z : Later W1, z.w.cell? ⟨bp, op + k * 12, none⟩ = some (.int .i64 p.top) := Later.cell p0 bpz
      have f1 : ∀ z : Later W1, z.w.cell? ⟨bp, op + k * 12 + 1, none⟩ = some (.int .i64 p.bank) := Later.cell p1 bpz
      have f2 : ∀ z : Later W1, z.w.cell? ⟨bp, op + k * 12 + 2, none⟩ = some (.int .i64 p.siphon) := Later.cell p2 bpz
      have f3 : ∀ z : Later W1, z.w.cell? ⟨bp, op + k * 12 + 3, none⟩ = some (.int .i64 p.start) := Later.cell p3 bpz
      have f4 : ∀ z : Later W1, z.w.cell? ⟨bp, op + k * 12 + 4, none⟩ = some (.int .i64 p.positions) := Later.cell p4 bpz
      have f5 : ∀ z : Later W1, z.w.cell? ⟨bp, op + k * 12 + 5, none⟩ = some (.int .i64 p.rate) := Later.cell p5 bpz
      have f6 : ∀ z : Later W1, z.w.cell? ⟨bp, op + k * 12 + 6, none⟩ = some (.int .i64 p.step) := Later.cell p6 bpz
      have f7 : ∀ z : Later W1, z.w.cell? ⟨bp, op + k * 12 + 7, none⟩ = some (.int .i64 p.pass) := Later.cell p7 bpz
      have f8 : ∀ z : Later W1, z.w.cell? ⟨bp, op + k * 12 + 8, none⟩ = some (.int .i64 p.feed) := Later.cell p8 bpz
      have f9 : ∀ z : Later W1, z.w.cell? ⟨bp, op + k * 12 + 9, none⟩ = some (.int .i64 p.pipe) := Later.cell p9 bpz
      have f10 : ∀ z : Later W1, z.w.cell? ⟨bp, op + k * 12 + 10, none⟩ = some (.int .i64 p.orders) := Later.cell p10 bpz
      have f11 : ∀ z : Later W1, z.w.cell? ⟨bp, op + k * 12 + 11, none⟩ = some (.int .i64 p.age) := Later.cell p11 bpz
      have v0 : ∀ z : Later W1, z.w.cell? ⟨bs, os + k * 6, none⟩ = some (.int .i64 t0) := Later.cell s0 bsz
      have v1 : ∀ z : Later W1, z.w.cell? ⟨bs, os + k * 6 + 1, none⟩ = some (.int .i64 t1) := Later.cell s1 bsz
      have v2 : ∀ z : Later W1, z.w.cell? ⟨bs, os + k * 6 + 2, none⟩ = some (.int .i64 t2) := Later.cell s2 bsz
      have v3 : ∀ z : Later W1, z.w.cell? ⟨bs, os + k * 6 + 3, none⟩ = some (.int .i64 t3) := Later.cell s3 bsz
      have v4 : ∀ z : Later W1, z.w.cell? ⟨bs, os + k * 6 + 4, none⟩ = some (.int .i64 t4) := Later.cell s4 bsz
      have v5 : ∀ z : Later W1, z.w.cell? ⟨bs, os + k * 6 + 5, none⟩ = some (.int .i64 t5) := Later.cell s5 bsz
      have g0 : ∀ z : Later W1, z.w.cell? ⟨w.heap.size, 0, none⟩ = some (.slice (some ⟨bp, op, none⟩) n kp) := Later.cell X3c0 z3
      have g1 : ∀ z : Later W1, z.w.cell? ⟨w.heap.size + 1, 1, none⟩ = some (.slice (some ⟨bm, om, none⟩) n cm) := Later.cell x51 z5
      have g2 : ∀ z : Later W1, z.w.cell? ⟨bm, om + k, none⟩ = some (.int .i64 mg) := Later.cell m0 bmz
      have g3 : ∀ z : Later W1, z.w.cell? ⟨Dc, 0, none⟩ = some (.slice none 0 0) := Later.cell x11 z11
      have hd9 := (Below.refl W1.heap.size W1).drew
      refine wp_region_heads (C := fun w' => ∃ x : Later W1, w' = x.w) [0, 1, 2, 3, 4, 5, 6, 7, 8, 9, 10, 11, 12, 13, 14, 15, 16] (by kernel_rfl) (by kernel_rfl) (Later.mk' hd9) (fun _ _ h => h) ?_
      simp only [headOps, List.filterMap_cons, List.filterMap_nil, List.getElem?_toArray, List.getElem?_cons_succ, List.getElem?_cons_zero]
      repeat (first | go_big_quiet_skip | (show wpQuiet _ _ _ _ (_ :: _) _; go_big_quiet_skip) | (show wpQuiet _ _ _ _ (_ :: _) _; go_big_quiet_want; go_big_quiet_op; go_big_quiet_on))
      refine wpQuiet_nil ?_
      clear f0 f1 f2 f3 f4 f5 f6 f7 f8 f9 f10 f11 v0 v1 v2 v3 v4 v5 g0 g1 g2 g3
      refine anyC_two (n := 8) (i := 17) (j := 22) (by kernel_rfl) (Later.mk' hd9) ?_ ?_
      · refine wpOp_callD (some 61) (by rfl) rfl rfl ?_ ((hnext W1.drew hd9).mono ?_)
        · go_simp
        rintro e w2 ⟨rfl, hw2'⟩
        have hw2 := hd9.trans (hw2'.mono hd9.size)
        clear hw2'
        refine ⟨_, rfl, ?_⟩
        simp only [Act.put, List.setIfInBounds_toArray, List.set_cons_zero, List.set_cons_succ]
        refine anyC_heads (by kernel_rfl) 4 w2 (Later.mk' hw2) [18, 19, 20, 21] _ _ (by kernel_rfl) ?_
        simp only [headOps, List.filterMap_cons, List.filterMap_nil, List.getElem?_toArray, List.getElem?_cons_succ, List.getElem?_cons_zero]
        repeat (first | go_big_quiet_skip | (show wpQuiet _ _ _ _ (_ :: _) _; go_big_quiet_skip) | (show wpQuiet _ _ _ _ (_ :: _) _; go_big_quiet_want; go_big_quiet_op; go_big_quiet_on))
        refine wpQuiet_nil ?_
        refine anyC_valD (some 12) (n := 3) (i := 22) (v := .pointer (some ⟨w2.heap.size, 0, none⟩)) (w' := w2.alloc (.cells #[.int .i64 0, .int .i64 0, .int .i64 0, .int .i64 0, .int .i64 0, .int .i64 0] 51)) (by kernel_rfl) rfl rfl rfl (Later.mk' hw2) ?_ ?_
        · go_simp
        simp only [Act.put, List.setIfInBounds_toArray, List.set_cons_zero, List.set_cons_succ]
        have Y := Box.new w2 [.int .i64 0, .int .i64 0, .int .i64 0, .int .i64 0, .int .i64 0, .int .i64 0] 51
        have hw3 := hw2.alloc hw2.size (.cells #[.int .i64 0, .int .i64 0, .int .i64 0, .int .i64 0, .int .i64 0, .int .i64 0] 51)
        have hFa := hw2.size
        generalize w2.alloc (.cells #[.int .i64 0, .int .i64 0, .int .i64 0, .int .i64 0, .int .i64 0, .int .i64 0] 51) = w3 at Y hw3 ⊢
        generalize w2.heap.size = Fa at Y hFa ⊢
        have Yc0 : w3.cell? ⟨Fa, 0, none⟩ = some (.int .i64 0) := Y.cell 0
        have Yf0 : w3.frozen? ⟨Fa, 0, none⟩ = false := Y.free 0
        have Yc1 : w3.cell? ⟨Fa, 1, none⟩ = some (.int .i64 0) := Y.cell 1
        have Yf1 : w3.frozen? ⟨Fa, 1, none⟩ = false := Y.free 1
        have Yc2 : w3.cell? ⟨Fa, 2, none⟩ = some (.int .i64 0) := Y.cell 2
        have Yf2 : w3.frozen? ⟨Fa, 2, none⟩ = false := Y.free 2
        have Yc3 : w3.cell? ⟨Fa, 3, none⟩ = some (.int .i64 0) := Y.cell 3
        have Yf3 : w3.frozen? ⟨Fa, 3, none⟩ = false := Y.free 3
        have Yc4 : w3.cell? ⟨Fa, 4, none⟩ = some (.int .i64 0) := Y.cell 4
        have Yf4 : w3.frozen? ⟨Fa, 4, none⟩ = false := Y.free 4
        have Yc5 : w3.cell? ⟨Fa, 5, none⟩ = some (.int .i64 0) := Y.cell 5
        have Yf5 : w3.frozen? ⟨Fa, 5, none⟩ = false := Y.free 5
        have Yz : Fa < w3.heap.size := Y.lt
        have hw9 := ((((((hw3.setCell (p := ⟨Fa, 0, none⟩) (by simp <;> omega) (.int .i64 r0)).setCell (p := ⟨Fa, 1, none⟩) (by simp <;> omega) (.int .i64 r1)).setCell (p := ⟨Fa, 2, none⟩) (by simp <;> omega) (.int .i64 r2)).setCell (p := ⟨Fa, 3, none⟩) (by simp <;> omega) (.int .i64 r3)).setCell (p := ⟨Fa, 4, none⟩) (by simp <;> omega) (.int .i64 r4)).setCell (p := ⟨Fa, 5, none⟩) (by simp <;> omega) (.int .i64 r5))
        refine anyC_storeN (w' := ((((((w3.setCell ⟨Fa, 0, none⟩ (.int .i64 r0)).setCell ⟨Fa, 1, none⟩ (.int .i64 r1)).setCell ⟨Fa, 2, none⟩ (.int .i64 r2)).setCell ⟨Fa, 3, none⟩ (.int .i64 r3)).setCell ⟨Fa, 4, none⟩ (.int .i64 r4)).setCell ⟨Fa, 5, none⟩ (.int .i64 r5))) (n := 2) (i := 23) (by kernel_rfl) rfl rfl rfl (Later.mk' hw3) ?_ ?_
        · go_simp
        have Y9 := ((((((Y.set 0 (.int .i64 r0)).set 1 (.int .i64 r1)).set 2 (.int .i64 r2)).set 3 (.int .i64 r3)).set 4 (.int .i64 r4)).set 5 (.int .i64 r5))
        generalize ((((((w3.setCell ⟨Fa, 0, none⟩ (.int .i64 r0)).setCell ⟨Fa, 1, none⟩ (.int .i64 r1)).setCell ⟨Fa, 2, none⟩ (.int .i64 r2)).setCell ⟨Fa, 3, none⟩ (.int .i64 r3)).setCell ⟨Fa, 4, none⟩ (.int .i64 r4)).setCell ⟨Fa, 5, none⟩ (.int .i64 r5)) = w9 at hw9 Y9 ⊢
        refine anyC_valD (some 13) (n := 1) (i := 24) (v := .int .i64 on) (w' := w9) (by kernel_rfl) rfl rfl rfl (Later.mk' hw9) (by first | rfl | go_simp) ?_
        simp only [Act.put, List.setIfInBounds_toArray, List.set_cons_zero, List.set_cons_succ]
        refine anyC_valD (some 14) (n := 0) (i := 25) (v := .int .i64 0) (w' := w9) (by kernel_rfl) rfl rfl rfl (Later.mk' hw9) (by first | rfl | go_simp) ?_
        simp only [Act.put, List.setIfInBounds_toArray, List.set_cons_zero, List.set_cons_succ]
        refine anyC_done (by kernel_rfl) (Later.mk' hw9) ?_
        have hwo9 : Below wo.heap.size wo w9 := hw1.trans (hw9.mono hw1.size)
        have Y9c0 : w9.cell? ⟨Fa, 0, none⟩ = some (.int .i64 r0) := Y9.cell 0
        have Y9c1 : w9.cell? ⟨Fa, 1, none⟩ = some (.int .i64 r1) := Y9.cell 1
        have Y9c2 : w9.cell? ⟨Fa, 2, none⟩ = some (.int .i64 r2) := Y9.cell 2
        have Y9c3 : w9.cell? ⟨Fa, 3, none⟩ = some (.int .i64 r3) := Y9.cell 3
        have Y9c4 : w9.cell? ⟨Fa, 4, none⟩ = some (.int .i64 r4) := Y9.cell 4
        have Y9c5 : w9.cell? ⟨Fa, 5, none⟩ = some (.int .i64 r5) := Y9.cell 5
        have y9z := Y9.lt
        have hwo9z := hwo9.size
        have hbS := (Below.refl w9.heap.size w9).alloc (Nat.le_refl _) (.cells #[.int .i64 r0, .int .i64 r1, .int .i64 r2, .int .i64 r3, .int .i64 r4, .int .i64 r5] 51)
        have XN := Box.new w9 [.int .i64 r0, .int .i64 r1, .int .i64 r2, .int .i64 r3, .int .i64 r4, .int .i64 r5] 51
        have hO3 := (hO.out.later hwo9).later hbS
        obtain ⟨g', c', w', hr, hO4, hgr⟩ := run_appE E (fun _ => rfl) st_one (by omega) (⟨r0, r1, r2, r3, r4, r5⟩ : St) 35 hO3 XN (by have := hbS.size; have := HDC.out; omega) (by rw [HLEN.out]; omega)
        rw [HLEN.out] at hO4 hr
        have hB1 := (hB.trans (hwo9.mono hB.size)).trans (hbS.mono (Nat.le_trans hB.size hwo9z))
        have hB2 := OwnE.grown hO3 hgr (by omega) hB1 hB1.size
        have X32 := box_grown hO3 hgr ((X3.later hwo9).later hbS) (by omega)
        have X52 := box_grown hO3 hgr ((X5.later hwo9).later hbS) (by omega)
        have HO4 := Lib.hid hO4
        clear hO4 hgr hO3 hbS XN hB1
        go_wp2
        exact ⟨⟨k + 1, _, _, by omega, by go_num, rfl, HY, hB2, X32, X52, HO4⟩, by simp [intOf]; omega⟩
      · refine wpOp_valD (some 12) (v := .pointer (some ⟨W1.heap.size, 0, none⟩)) (w' := W1.drew.alloc (.cells #[.int .i64 0, .int .i64 0, .int .i64 0, .int .i64 0, .int .i64 0, .int .i64 0] 51)) (by rfl) rfl rfl ?_ ?_
        · go_simp
        simp only [Act.put, List.setIfInBounds_toArray, List.set_cons_zero, List.set_cons_succ]
        have Y : Box _ W1.heap.size _ := Box.new W1.drew [.int .i64 0, .int .i64 0, .int .i64 0, .int .i64 0, .int .i64 0, .int .i64 0] 51
        have hw2 := hd9.alloc hd9.size (.cells #[.int .i64 0, .int .i64 0, .int .i64 0, .int .i64 0, .int .i64 0, .int .i64 0] 51)
        generalize W1.drew.alloc (.cells #[.int .i64 0, .int .i64 0, .int .i64 0, .int .i64 0, .int .i64 0, .int .i64 0] 51) = w2 at Y hw2 ⊢
        have hFa := Nat.le_refl W1.heap.size
        refine anyC_callD (some 61) (n := 7) (i := 17) (by kernel_rfl) rfl rfl rfl (Later.mk' hw2) ?_ ((hnext w2 hw2).mono ?_)
        · go_simp
        rintro e w3 ⟨rfl, hw3'⟩
        have hw3 := hw2.trans (hw3'.mono hw2.size)
        have Y := Y.later hw3'
        clear hw3'
        refine ⟨_, rfl, ?_⟩
        simp only [Act.put, List.setIfInBounds_toArray, List.set_cons_zero, List.set_cons_succ]
        refine anyC_heads (by kernel_rfl) 3 w3 (Later.mk' hw3) [18, 19, 20, 21] _ _ (by kernel_rfl) ?_
        simp only [headOps, List.filterMap_cons, List.filterMap_nil, List.getElem?_toArray, List.getElem?_cons_succ, List.getElem?_cons_zero]
        repeat (first | go_big_quiet_skip | (show wpQuiet _ _ _ _ (_ :: _) _; go_big_quiet_skip) | (show wpQuiet _ _ _ _ (_ :: _) _; go_big_quiet_want; go_big_quiet_op; go_big_quiet_on))
        refine wpQuiet_nil ?_
        have Yc0 : w3.cell? ⟨W1.heap.size, 0, none⟩ = some (.int .i64 0) := Y.cell 0
        have Yf0 : w3.frozen? ⟨W1.heap.size, 0, none⟩ = false := Y.free 0
        have Yc1 : w3.cell? ⟨W1.heap.size, 1, none⟩ = some (.int .i64 0) := Y.cell 1
        have Yf1 : w3.frozen? ⟨W1.heap.size, 1, none⟩ = false := Y.free 1
        have Yc2 : w3.cell? ⟨W1.heap.size, 2, none⟩ = some (.int .i64 0) := Y.cell 2
        have Yf2 : w3.frozen? ⟨W1.heap.size, 2, none⟩ = false := Y.free 2
        have Yc3 : w3.cell? ⟨W1.heap.size, 3, none⟩ = some (.int .i64 0) := Y.cell 3
        have Yf3 : w3.frozen? ⟨W1.heap.size, 3, none⟩ = false := Y.free 3
        have Yc4 : w3.cell? ⟨W1.heap.size, 4, none⟩ = some (.int .i64 0) := Y.cell 4
        have Yf4 : w3.frozen? ⟨W1.heap.size, 4, none⟩ = false := Y.free 4
        have Yc5 : w3.cell? ⟨W1.heap.size, 5, none⟩ = some (.int .i64 0) := Y.cell 5
        have Yf5 : w3.frozen? ⟨W1.heap.size, 5, none⟩ = false := Y.free 5
        have Yz : W1.heap.size < w3.heap.size := Y.lt
        have hw9 := ((((((hw3.setCell (p := ⟨W1.heap.size, 0, none⟩) (by simp <;> omega) (.int .i64 r0)).setCell (p := ⟨W1.heap.size, 1, none⟩) (by simp <;> omega) (.int .i64 r1)).setCell (p := ⟨W1.heap.size, 2, none⟩) (by simp <;> omega) (.int .i64 r2)).setCell (p := ⟨W1.heap.size, 3, none⟩) (by simp <;> omega) (.int .i64 r3)).setCell (p := ⟨W1.heap.size, 4, none⟩) (by simp <;> omega) (.int .i64 r4)).setCell (p := ⟨W1.heap.size, 5, none⟩) (by simp <;> omega) (.int .i64 r5))
        refine anyC_storeN (w' := ((((((w3.setCell ⟨W1.heap.size, 0, none⟩ (.int .i64 r0)).setCell ⟨W1.heap.size, 1, none⟩ (.int .i64 r1)).setCell ⟨W1.heap.size, 2, none⟩ (.int .i64 r2)).setCell ⟨W1.heap.size, 3, none⟩ (.int .i64 r3)).setCell ⟨W1.heap.size, 4, none⟩ (.int .i64 r4)).setCell ⟨W1.heap.size, 5, none⟩ (.int .i64 r5))) (n := 2) (i := 23) (by kernel_rfl) rfl rfl rfl (Later.mk' hw3) ?_ ?_
        · go_simp
        have Y9 := ((((((Y.set 0 (.int .i64 r0)).set 1 (.int .i64 r1)).set 2 (.int .i64 r2)).set 3 (.int .i64 r3)).set 4 (.int .i64 r4)).set 5 (.int .i64 r5))
        generalize ((((((w3.setCell ⟨W1.heap.size, 0, none⟩ (.int .i64 r0)).setCell ⟨W1.heap.size, 1, none⟩ (.int .i64 r1)).setCell ⟨W1.heap.size, 2, none⟩ (.int .i64 r2)).setCell ⟨W1.heap.size, 3, none⟩ (.int .i64 r3)).setCell ⟨W1.heap.size, 4, none⟩ (.int .i64 r4)).setCell ⟨W1.heap.size, 5, none⟩ (.int .i64 r5)) = w9 at hw9 Y9 ⊢
        refine anyC_valD (some 13) (n := 1) (i := 24) (v := .int .i64 on) (w' := w9) (by kernel_rfl) rfl rfl rfl (Later.mk' hw9) (by first | rfl | go_simp) ?_
        simp only [Act.put, List.setIfInBounds_toArray, List.set_cons_zero, List.set_cons_succ]
        refine anyC_valD (some 14) (n := 0) (i := 25) (v := .int .i64 0) (w' := w9) (by kernel_rfl) rfl rfl rfl (Later.mk' hw9) (by first | rfl | go_simp) ?_
        simp only [Act.put, List.setIfInBounds_toArray, List.set_cons_zero, List.set_cons_succ]
        refine anyC_done (by kernel_rfl) (Later.mk' hw9) ?_
        have hwo9 : Below wo.heap.size wo w9 := hw1.trans (hw9.mono hw1.size)
        have Y9c0 : w9.cell? ⟨W1.heap.size, 0, none⟩ = some (.int .i64 r0) := Y9.cell 0
        have Y9c1 : w9.cell? ⟨W1.heap.size, 1, none⟩ = some (.int .i64 r1) := Y9.cell 1
        have Y9c2 : w9.cell? ⟨W1.heap.size, 2, none⟩ = some (.int .i64 r2) := Y9.cell 2
        have Y9c3 : w9.cell? ⟨W1.heap.size, 3, none⟩ = some (.int .i64 r3) := Y9.cell 3
        have Y9c4 : w9.cell? ⟨W1.heap.size, 4, none⟩ = some (.int .i64 r4) := Y9.cell 4
        have Y9c5 : w9.cell? ⟨W1.heap.size, 5, none⟩ = some (.int .i64 r5) := Y9.cell 5
        have y9z := Y9.lt
        have hwo9z := hwo9.size
        have hbS := (Below.refl w9.heap.size w9).alloc (Nat.le_refl _) (.cells #[.int .i64 r0, .int .i64 r1, .int .i64 r2, .int .i64 r3, .int .i64 r4, .int .i64 r5] 51)
        have XN := Box.new w9 [.int .i64 r0, .int .i64 r1, .int .i64 r2, .int .i64 r3, .int .i64 r4, .int .i64 r5] 51
        have hO3 := (hO.out.later hwo9).later hbS
        obtain ⟨g', c', w', hr, hO4, hgr⟩ := run_appE E (fun _ => rfl) st_one (by omega) (⟨r0, r1, r2, r3, r4, r5⟩ : St) 35 hO3 XN (by have := hbS.size; have := HDC.out; omega) (by rw [HLEN.out]; omega)
        rw [HLEN.out] at hO4 hr
        have hB1 := (hB.trans (hwo9.mono hB.size)).trans (hbS.mono (Nat.le_trans hB.size hwo9z))
        have hB2 := OwnE.grown hO3 hgr (by omega) hB1 hB1.size
        have X32 := box_grown hO3 hgr ((X3.later hwo9).later hbS) (by omega)
        have X52 := box_grown hO3 hgr ((X5.later hwo9).later hbS) (by omega)
        have HO4 := Lib.hid hO4
        clear hO4 hgr hO3 hbS XN hB1
        go_wp2
        exact ⟨⟨k + 1, _, _, by omega, by go_num, rfl, HY, hB2, X32, X52, HO4⟩, by simp [intOf]; omega⟩
    | false =>
      go_upto_region 11 with fail
      have hw1 := hb1
      generalize wa = W1 at *
      have hcd : Hid (CodeAt W1 w.heap.size (.slice Aq nq cq) (x.codeT s k)) := by
        refine Lib.hid ?_
        unfold Cs.codeT
        rw [if_neg (by rw [HU.out]; decide), HC.out]
        exact (HVC.out.below hB).below (hw1.mono hB.size)
      have hwW := hw1.size
      have hWz : w.heap.size ≤ W1.heap.size := by have := hB.size; omega
      have z11 := X11.lt
      have hnext : ∀ z : World, Below W1.heap.size W1 z → Calls Try.prog 73 #[.agg #[.int .i64 p.top, .int .i64 p.bank, .int .i64 p.siphon, .int .i64 p.start, .int .i64 p.positions, .int .i64 p.rate, .int .i64 p.step, .int .i64 p.pass, .int .i64 p.feed, .int .i64 p.pipe, .int .i64 p.orders, .int .i64 p.age], .agg #[.slice Aq nq cq], .agg #[.int .i64 t0, .int .i64 t1, .int .i64 t2, .int .i64 t3, .int .i64 t4, .int .i64 t5], .agg #[.int .i64 f, .int .i64 mg]] z (fun e w' => e = .returned (.tuple #[.agg #[.int .i64 r0, .int .i64 r1, .int .i64 r2, .int .i64 r3, .int .i64 r4, .int .i64 r5], .int .i64 on, .int .i64 0]) ∧ Below z.heap.size z w') :=
        fun z hz => rnext_is (s := ⟨t0, t1, t2, t3, t4, t5⟩) (x := ⟨f, mg⟩) HNX ((hcd.out.below (hz.mono hWz)).more (Nat.le_trans hWz hz.size))
      have x11 : W1.cell? ⟨Dc, 0, none⟩ = some (.slice Aq nq cq) := X11.cell 0
      have f0 : ∀ z : Later W1, z.w.cell? ⟨bp, op + k * 12, none⟩ = some (.int .i64 p.top) := Later.cell p0 bpz
      have f1 : ∀ z : Later W1, z.w.cell? ⟨bp, op + k * 12 + 1, none⟩ = some (.int .i64 p.bank) := Later.cell p1 bpz
      have f2 : ∀ z : Later W1, z.w.cell? ⟨bp, op + k * 12 + 2, none⟩ = some (.int .i64 p.siphon) := Later.cell p2 bpz
      have f3 : ∀ z : Later W1, z.w.cell? ⟨bp, op + k * 12 + 3, none⟩ = some (.int .i64 p.start) := Later.cell p3 bpz
      have f4 : ∀ z : Later W1, z.w.cell? ⟨bp, op + k * 12 + 4, none⟩ = some (.int .i64 p.positions) := Later.cell p4 bpz
      have f5 : ∀ z : Later W1, z.w.cell? ⟨bp, op + k * 12 + 5, none⟩ = some (.int .i64 p.rate) := Later.cell p5 bpz
      have f6 : ∀ z : Later W1, z.w.cell? ⟨bp, op + k * 12 + 6, none⟩ = some (.int .i64 p.step) := Later.cell p6 bpz
      have f7 : ∀ z : Later W1, z.w.cell? ⟨bp, op + k * 12 + 7, none⟩ = some (.int .i64 p.pass) := Later.cell p7 bpz
      have f8 : ∀ z : Later W1, z.w.cell? ⟨bp, op + k * 12 + 8, none⟩ = some (.int .i64 p.feed) := Later.cell p8 bpz
      have f9 : ∀ z : Later W1, z.w.cell? ⟨bp, op + k * 12 + 9, none⟩ = some (.int .i64 p.pipe) := Later.cell p9 bpz
      have f10 : ∀ z : Later W1, z.w.cell? ⟨bp, op + k * 12 + 10, none⟩ = some (.int .i64 p.orders) := Later.cell p10 bpz
      have f11 : ∀ z : Later W1, z.w.cell? ⟨bp, op + k * 12 + 11, none⟩ = some (.int .i64 p.age) := Later.cell p11 bpz
      have v0 : ∀ z : Later W1, z.w.cell? ⟨bs, os + k * 6, none⟩ = some (.int .i64 t0) := Later.cell s0 bsz
      have v1 : ∀ z : Later W1, z.w.cell? ⟨bs, os + k * 6 + 1, none⟩ = some (.int .i64 t1) := Later.cell s1 bsz
      have v2 : ∀ z : Later W1, z.w.cell? ⟨bs, os + k * 6 + 2, none⟩ = some (.int .i64 t2) := Later.cell s2 bsz
      have v3 : ∀ z : Later W1, z.w.cell? ⟨bs, os + k * 6 + 3, none⟩ = some (.int .i64 t3) := Later.cell s3 bsz
      have v4 : ∀ z : Later W1, z.w.cell? ⟨bs, os + k * 6 + 4, none⟩ = some (.int .i64 t4) := Later.cell s4 bsz
      have v5 : ∀ z : Later W1, z.w.cell? ⟨bs, os + k * 6 + 5, none⟩ = some (.int .i64 t5) := Later.cell s5 bsz
      have g0 : ∀ z : Later W1, z.w.cell? ⟨w.heap.size, 0, none⟩ = some (.slice (some ⟨bp, op, none⟩) n kp) := Later.cell X3c0 z3
      have g1 : ∀ z : Later W1, z.w.cell? ⟨w.heap.size + 1, 1, none⟩ = some (.slice (some ⟨bm, om, none⟩) n cm) := Later.cell x51 z5
      have g2 : ∀ z : Later W1, z.w.cell? ⟨bm, om + k, none⟩ = some (.int .i64 mg) := Later.cell m0 bmz
      have g3 : ∀ z : Later W1, z.w.cell? ⟨Dc, 0, none⟩ = some (.slice Aq nq cq) := Later.cell x11 z11
      have hd9 := (Below.refl W1.heap.size W1).drew
      refine wp_region_heads (C := fun w' => ∃ x : Later W1, w' = x.w) [0, 1, 2, 3, 4, 5, 6, 7, 8, 9, 10, 11, 12, 13, 14, 15, 16] (by kernel_rfl) (by kernel_rfl) (Later.mk' hd9) (fun _ _ h => h) ?_
      simp only [headOps, List.filterMap_cons, List.filterMap_nil, List.getElem?_toArray, List.getElem?_cons_succ, List.getElem?_cons_zero]
      repeat (first | go_big_quiet_skip | (show wpQuiet _ _ _ _ (_ :: _) _; go_big_quiet_skip) | (show wpQuiet _ _ _ _ (_ :: _) _; go_big_quiet_want; go_big_quiet_op; go_big_quiet_on))
      refine wpQuiet_nil ?_
      clear f0 f1 f2 f3 f4 f5 f6 f7 f8 f9 f10 f11 v0 v1 v2 v3 v4 v5 g0 g1 g2 g3
      refine anyC_two (n := 8) (i := 17) (j := 22) (by kernel_rfl) (Later.mk' hd9) ?_ ?_
      · refine wpOp_callD (some 61) (by rfl) rfl rfl ?_ ((hnext W1.drew hd9).mono ?_)
        · go_simp
        rintro e w2 ⟨rfl, hw2'⟩
        have hw2 := hd9.trans (hw2'.mono hd9.size)
        clear hw2'
        refine ⟨_, rfl, ?_⟩
        simp only [Act.put, List.setIfInBounds_toArray, List.set_cons_zero, List.set_cons_succ]
        refine anyC_heads (by kernel_rfl) 4 w2 (Later.mk' hw2) [18, 19, 20, 21] _ _ (by kernel_rfl) ?_
        simp only [headOps, List.filterMap_cons, List.filterMap_nil, List.getElem?_toArray, List.getElem?_cons_succ, List.getElem?_cons_zero]
        repeat (first | go_big_quiet_skip | (show wpQuiet _ _ _ _ (_ :: _) _; go_big_quiet_skip) | (show wpQuiet _ _ _ _ (_ :: _) _; go_big_quiet_want; go_big_quiet_op; go_big_quiet_on))
        refine wpQuiet_nil ?_
        refine anyC_valD (some 12) (n := 3) (i := 22) (v := .pointer (some ⟨w2.heap.size, 0, none⟩)) (w' := w2.alloc (.cells #[.int .i64 0, .int .i64 0, .int .i64 0, .int .i64 0, .int .i64 0, .int .i64 0] 51)) (by kernel_rfl) rfl rfl rfl (Later.mk' hw2) ?_ ?_
        · go_simp
        simp only [Act.put, List.setIfInBounds_toArray, List.set_cons_zero, List.set_cons_succ]
        have Y := Box.new w2 [.int .i64 0, .int .i64 0, .int .i64 0, .int .i64 0, .int .i64 0, .int .i64 0] 51
        have hw3 := hw2.alloc hw2.size (.cells #[.int .i64 0, .int .i64 0, .int .i64 0, .int .i64 0, .int .i64 0, .int .i64 0] 51)
        have hFa := hw2.size
        generalize w2.alloc (.cells #[.int .i64 0, .int .i64 0, .int .i64 0, .int .i64 0, .int .i64 0, .int .i64 0] 51) = w3 at Y hw3 ⊢
        generalize w2.heap.size = Fa at Y hFa ⊢
        have Yc0 : w3.cell? ⟨Fa, 0, none⟩ = some (.int .i64 0) := Y.cell 0
        have Yf0 : w3.frozen? ⟨Fa, 0, none⟩ = false := Y.free 0
        have Yc1 : w3.cell? ⟨Fa, 1, none⟩ = some (.int .i64 0) := Y.cell 1
        have Yf1 : w3.frozen? ⟨Fa, 1, none⟩ = false := Y.free 1
        have Yc2 : w3.cell? ⟨Fa, 2, none⟩ = some (.int .i64 0) := Y.cell 2
        have Yf2 : w3.frozen? ⟨Fa, 2, none⟩ = false := Y.free 2
        have Yc3 : w3.cell? ⟨Fa, 3, none⟩ = some (.int .i64 0) := Y.cell 3
        have Yf3 : w3.frozen? ⟨Fa, 3, none⟩ = false := Y.free 3
        have Yc4 : w3.cell? ⟨Fa, 4, none⟩ = some (.int .i64 0) := Y.cell 4
        have Yf4 : w3.frozen? ⟨Fa, 4, none⟩ = false := Y.free 4
        have Yc5 : w3.cell? ⟨Fa, 5, none⟩ = some (.int .i64 0) := Y.cell 5
        have Yf5 : w3.frozen? ⟨Fa, 5, none⟩ = false := Y.free 5
        have Yz : Fa < w3.heap.size := Y.lt
        have hw9 := ((((((hw3.setCell (p := ⟨Fa, 0, none⟩) (by simp <;> omega) (.int .i64 r0)).setCell (p := ⟨Fa, 1, none⟩) (by simp <;> omega) (.int .i64 r1)).setCell (p := ⟨Fa, 2, none⟩) (by simp <;> omega) (.int .i64 r2)).setCell (p := ⟨Fa, 3, none⟩) (by simp <;> omega) (.int .i64 r3)).setCell (p := ⟨Fa, 4, none⟩) (by simp <;> omega) (.int .i64 r4)).setCell (p := ⟨Fa, 5, none⟩) (by simp <;> omega) (.int .i64 r5))
        refine anyC_storeN (w' := ((((((w3.setCell ⟨Fa, 0, none⟩ (.int .i64 r0)).setCell ⟨Fa, 1, none⟩ (.int .i64 r1)).setCell ⟨Fa, 2, none⟩ (.int .i64 r2)).setCell ⟨Fa, 3, none⟩ (.int .i64 r3)).setCell ⟨Fa, 4, none⟩ (.int .i64 r4)).setCell ⟨Fa, 5, none⟩ (.int .i64 r5))) (n := 2) (i := 23) (by kernel_rfl) rfl rfl rfl (Later.mk' hw3) ?_ ?_
        · go_simp
        have Y9 := ((((((Y.set 0 (.int .i64 r0)).set 1 (.int .i64 r1)).set 2 (.int .i64 r2)).set 3 (.int .i64 r3)).set 4 (.int .i64 r4)).set 5 (.int .i64 r5))
        generalize ((((((w3.setCell ⟨Fa, 0, none⟩ (.int .i64 r0)).setCell ⟨Fa, 1, none⟩ (.int .i64 r1)).setCell ⟨Fa, 2, none⟩ (.int .i64 r2)).setCell ⟨Fa, 3, none⟩ (.int .i64 r3)).setCell ⟨Fa, 4, none⟩ (.int .i64 r4)).setCell ⟨Fa, 5, none⟩ (.int .i64 r5)) = w9 at hw9 Y9 ⊢
        refine anyC_valD (some 13) (n := 1) (i := 24) (v := .int .i64 on) (w' := w9) (by kernel_rfl) rfl rfl rfl (Later.mk' hw9) (by first | rfl | go_simp) ?_
        simp only [Act.put, List.setIfInBounds_toArray, List.set_cons_zero, List.set_cons_succ]
        refine anyC_valD (some 14) (n := 0) (i := 25) (v := .int .i64 0) (w' := w9) (by kernel_rfl) rfl rfl rfl (Later.mk' hw9) (by first | rfl | go_simp) ?_
        simp only [Act.put, List.setIfInBounds_toArray, List.set_cons_zero, List.set_cons_succ]
        refine anyC_done (by kernel_rfl) (Later.mk' hw9) ?_
        have hwo9 : Below wo.heap.size wo w9 := hw1.trans (hw9.mono hw1.size)
        have Y9c0 : w9.cell? ⟨Fa, 0, none⟩ = some (.int .i64 r0) := Y9.cell 0
        have Y9c1 : w9.cell? ⟨Fa, 1, none⟩ = some (.int .i64 r1) := Y9.cell 1
        have Y9c2 : w9.cell? ⟨Fa, 2, none⟩ = some (.int .i64 r2) := Y9.cell 2
        have Y9c3 : w9.cell? ⟨Fa, 3, none⟩ = some (.int .i64 r3) := Y9.cell 3
        have Y9c4 : w9.cell? ⟨Fa, 4, none⟩ = some (.int .i64 r4) := Y9.cell 4
        have Y9c5 : w9.cell? ⟨Fa, 5, none⟩ = some (.int .i64 r5) := Y9.cell 5
        have y9z := Y9.lt
        have hwo9z := hwo9.size
        have hbS := (Below.refl w9.heap.size w9).alloc (Nat.le_refl _) (.cells #[.int .i64 r0, .int .i64 r1, .int .i64 r2, .int .i64 r3, .int .i64 r4, .int .i64 r5] 51)
        have XN := Box.new w9 [.int .i64 r0, .int .i64 r1, .int .i64 r2, .int .i64 r3, .int .i64 r4, .int .i64 r5] 51
        have hO3 := (hO.out.later hwo9).later hbS
        obtain ⟨g', c', w', hr, hO4, hgr⟩ := run_appE E (fun _ => rfl) st_one (by omega) (⟨r0, r1, r2, r3, r4, r5⟩ : St) 35 hO3 XN (by have := hbS.size; have := HDC.out; omega) (by rw [HLEN.out]; omega)
        rw [HLEN.out] at hO4 hr
        have hB1 := (hB.trans (hwo9.mono hB.size)).trans (hbS.mono (Nat.le_trans hB.size hwo9z))
        have hB2 := OwnE.grown hO3 hgr (by omega) hB1 hB1.size
        have X32 := box_grown hO3 hgr ((X3.later hwo9).later hbS) (by omega)
        have X52 := box_grown hO3 hgr ((X5.later hwo9).later hbS) (by omega)
        have HO4 := Lib.hid hO4
        clear hO4 hgr hO3 hbS XN hB1
        go_wp2
        exact ⟨⟨k + 1, _, _, by omega, by go_num, rfl, HY, hB2, X32, X52, HO4⟩, by simp [intOf]; omega⟩
      · refine wpOp_valD (some 12) (v := .pointer (some ⟨W1.heap.size, 0, none⟩)) (w' := W1.drew.alloc (.cells #[.int .i64 0, .int .i64 0, .int .i64 0, .int .i64 0, .int .i64 0, .int .i64 0] 51)) (by rfl) rfl rfl ?_ ?_
        · go_simp
        simp only [Act.put, List.setIfInBounds_toArray, List.set_cons_zero, List.set_cons_succ]
        have Y : Box _ W1.heap.size _ := Box.new W1.drew [.int .i64 0, .int .i64 0, .int .i64 0, .int .i64 0, .int .i64 0, .int .i64 0] 51
        have hw2 := hd9.alloc hd9.size (.cells #[.int .i64 0, .int .i64 0, .int .i64 0, .int .i64 0, .int .i64 0, .int .i64 0] 51)
        generalize W1.drew.alloc (.cells #[.int .i64 0, .int .i64 0, .int .i64 0, .int .i64 0, .int .i64 0, .int .i64 0] 51) = w2 at Y hw2 ⊢
        have hFa := Nat.le_refl W1.heap.size
        refine anyC_callD (some 61) (n := 7) (i := 17) (by kernel_rfl) rfl rfl rfl (Later.mk' hw2) ?_ ((hnext w2 hw2).mono ?_)
        · go_simp
        rintro e w3 ⟨rfl, hw3'⟩
        have hw3 := hw2.trans (hw3'.mono hw2.size)
        have Y := Y.later hw3'
        clear hw3'
        refine ⟨_, rfl, ?_⟩
        simp only [Act.put, List.setIfInBounds_toArray, List.set_cons_zero, List.set_cons_succ]
        refine anyC_heads (by kernel_rfl) 3 w3 (Later.mk' hw3) [18, 19, 20, 21] _ _ (by kernel_rfl) ?_
        simp only [headOps, List.filterMap_cons, List.filterMap_nil, List.getElem?_toArray, List.getElem?_cons_succ, List.getElem?_cons_zero]
        repeat (first | go_big_quiet_skip | (show wpQuiet _ _ _ _ (_ :: _) _; go_big_quiet_skip) | (show wpQuiet _ _ _ _ (_ :: _) _; go_big_quiet_want; go_big_quiet_op; go_big_quiet_on))
        refine wpQuiet_nil ?_
        have Yc0 : w3.cell? ⟨W1.heap.size, 0, none⟩ = some (.int .i64 0) := Y.cell 0
        have Yf0 : w3.frozen? ⟨W1.heap.size, 0, none⟩ = false := Y.free 0
        have Yc1 : w3.cell? ⟨W1.heap.size, 1, none⟩ = some (.int .i64 0) := Y.cell 1
        have Yf1 : w3.frozen? ⟨W1.heap.size, 1, none⟩ = false := Y.free 1
        have Yc2 : w3.cell? ⟨W1.heap.size, 2, none⟩ = some (.int .i64 0) := Y.cell 2
        have Yf2 : w3.frozen? ⟨W1.heap.size, 2, none⟩ = false := Y.free 2
        have Yc3 : w3.cell? ⟨W1.heap.size, 3, none⟩ = some (.int .i64 0) := Y.cell 3
        have Yf3 : w3.frozen? ⟨W1.heap.size, 3, none⟩ = false := Y.free 3
        have Yc4 : w3.cell? ⟨W1.heap.size, 4, none⟩ = some (.int .i64 0) := Y.cell 4
        have Yf4 : w3.frozen? ⟨W1.heap.size, 4, none⟩ = false := Y.free 4
        have Yc5 : w3.cell? ⟨W1.heap.size, 5, none⟩ = some (.int .i64 0) := Y.cell 5
        have Yf5 : w3.frozen? ⟨W1.heap.size, 5, none⟩ = false := Y.free 5
        have Yz : W1.heap.size < w3.heap.size := Y.lt
        have hw9 := ((((((hw3.setCell (p := ⟨W1.heap.size, 0, none⟩) (by simp <;> omega) (.int .i64 r0)).setCell (p := ⟨W1.heap.size, 1, none⟩) (by simp <;> omega) (.int .i64 r1)).setCell (p := ⟨W1.heap.size, 2, none⟩) (by simp <;> omega) (.int .i64 r2)).setCell (p := ⟨W1.heap.size, 3, none⟩) (by simp <;> omega) (.int .i64 r3)).setCell (p := ⟨W1.heap.size, 4, none⟩) (by simp <;> omega) (.int .i64 r4)).setCell (p := ⟨W1.heap.size, 5, none⟩) (by simp <;> omega) (.int .i64 r5))
        refine anyC_storeN (w' := ((((((w3.setCell ⟨W1.heap.size, 0, none⟩ (.int .i64 r0)).setCell ⟨W1.heap.size, 1, none⟩ (.int .i64 r1)).setCell ⟨W1.heap.size, 2, none⟩ (.int .i64 r2)).setCell ⟨W1.heap.size, 3, none⟩ (.int .i64 r3)).setCell ⟨W1.heap.size, 4, none⟩ (.int .i64 r4)).setCell ⟨W1.heap.size, 5, none⟩ (.int .i64 r5))) (n := 2) (i := 23) (by kernel_rfl) rfl rfl rfl (Later.mk' hw3) ?_ ?_
        · go_simp
        have Y9 := ((((((Y.set 0 (.int .i64 r0)).set 1 (.int .i64 r1)).set 2 (.int .i64 r2)).set 3 (.int .i64 r3)).set 4 (.int .i64 r4)).set 5 (.int .i64 r5))
        generalize ((((((w3.setCell ⟨W1.heap.size, 0, none⟩ (.int .i64 r0)).setCell ⟨W1.heap.size, 1, none⟩ (.int .i64 r1)).setCell ⟨W1.heap.size, 2, none⟩ (.int .i64 r2)).setCell ⟨W1.heap.size, 3, none⟩ (.int .i64 r3)).setCell ⟨W1.heap.size, 4, none⟩ (.int .i64 r4)).setCell ⟨W1.heap.size, 5, none⟩ (.int .i64 r5)) = w9 at hw9 Y9 ⊢
        refine anyC_valD (some 13) (n := 1) (i := 24) (v := .int .i64 on) (w' := w9) (by kernel_rfl) rfl rfl rfl (Later.mk' hw9) (by first | rfl | go_simp) ?_
        simp only [Act.put, List.setIfInBounds_toArray, List.set_cons_zero, List.set_cons_succ]
        refine anyC_valD (some 14) (n := 0) (i := 25) (v := .int .i64 0) (w' := w9) (by kernel_rfl) rfl rfl rfl (Later.mk' hw9) (by first | rfl | go_simp) ?_
        simp only [Act.put, List.setIfInBounds_toArray, List.set_cons_zero, List.set_cons_succ]
        refine anyC_done (by kernel_rfl) (Later.mk' hw9) ?_
        have hwo9 : Below wo.heap.size wo w9 := hw1.trans (hw9.mono hw1.size)
        have Y9c0 : w9.cell? ⟨W1.heap.size, 0, none⟩ = some (.int .i64 r0) := Y9.cell 0
        have Y9c1 : w9.cell? ⟨W1.heap.size, 1, none⟩ = some (.int .i64 r1) := Y9.cell 1
        have Y9c2 : w9.cell? ⟨W1.heap.size, 2, none⟩ = some (.int .i64 r2) := Y9.cell 2
        have Y9c3 : w9.cell? ⟨W1.heap.size, 3, none⟩ = some (.int .i64 r3) := Y9.cell 3
        have Y9c4 : w9.cell? ⟨W1.heap.size, 4, none⟩ = some (.int .i64 r4) := Y9.cell 4
        have Y9c5 : w9.cell? ⟨W1.heap.size, 5, none⟩ = some (.int .i64 r5) := Y9.cell 5
        have y9z := Y9.lt
        have hwo9z := hwo9.size
        have hbS := (Below.refl w9.heap.size w9).alloc (Nat.le_refl _) (.cells #[.int .i64 r0, .int .i64 r1, .int .i64 r2, .int .i64 r3, .int .i64 r4, .int .i64 r5] 51)
        have XN := Box.new w9 [.int .i64 r0, .int .i64 r1, .int .i64 r2, .int .i64 r3, .int .i64 r4, .int .i64 r5] 51
        have hO3 := (hO.out.later hwo9).later hbS
        obtain ⟨g', c', w', hr, hO4, hgr⟩ := run_appE E (fun _ => rfl) st_one (by omega) (⟨r0, r1, r2, r3, r4, r5⟩ : St) 35 hO3 XN (by have := hbS.size; have := HDC.out; omega) (by rw [HLEN.out]; omega)
        rw [HLEN.out] at hO4 hr
        have hB1 := (hB.trans (hwo9.mono hB.size)).trans (hbS.mono (Nat.le_trans hB.size hwo9z))
        have hB2 := OwnE.grown hO3 hgr (by omega) hB1 hB1.size
        have X32 := box_grown hO3 hgr ((X3.later hwo9).later hbS) (by omega)
        have X52 := box_grown hO3 hgr ((X5.later hwo9).later hbS) (by omega)
        have HO4 := Lib.hid hO4
        clear hO4 hgr hO3 hbS XN hB1
        go_wp2
        exact ⟨⟨k + 1, _, _, by omega, by go_num, rfl, HY, hB2, X32, X52, HO4⟩, by simp [intOf]; omega⟩
end Go.Proofs.Ytcjcjkomcolgeaa
