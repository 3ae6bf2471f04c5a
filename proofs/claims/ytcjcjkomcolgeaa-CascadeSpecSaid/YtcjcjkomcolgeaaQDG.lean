/- The reference of chapter 35: certified, Certified. (Printed by gen_dg.py.) No condition. -/
import Derived.Test.YtcjcjkomcolgeaaQDF
set_option linter.unusedVariables false
set_option linter.unusedSimpArgs false
namespace Go.Proofs.Ytcjcjkomcolgeaa
open Go.RowKit

theorem cert_ok0 {x : Cs} {n k : Nat} (hR : CsRight x n) (hk : k < n) : (certT (x.plants.getD k Pl.zero) (x.codes.getD k []) (x.bars.getD k [])).2.2 = 0 := by
  obtain ⟨h1, h2, h3⟩ := hR.gate k hk
  refine cert_err0.2 ⟨?_, h3⟩
  rw [askT, if_pos h1]
  exact h2
set_option maxRecDepth 100000 in
set_option maxHeartbeats 4000000 in
theorem rCertOne_is (x : Cs) (Ap Ac Ab : Option Addr) (n kp kc kb k : Nat) (w : World) (hR : Hid (CsRight x n)) (hlt : k < n) (hx : Hid (CsAt w w.heap.size (.slice Ap n kp) (.slice Ac n kc) (.slice Ab n kb) x)) (t : Bool) (hT : Hid (x.certB k = t)) :
    Calls Try.prog 30 #[.agg #[.slice Ap n kp, .slice Ac n kc, .slice Ab n kb], .int .i64 k] w fun e w' => e = .returned (.bool t) ∧ Below w.heap.size w w' := by
  have hn8 := hR.out.most
  have hbw := (Below.refl w.heap.size w).alloc (Nat.le_refl _) (.cells #[.slice Ap n kp, .slice Ac n kc, .slice Ab n kb] 26)
  have x1 := Box.new w [.slice Ap n kp, .slice Ac n kc, .slice Ab n kb] 26
  have hd3 : (k : Int) < (n : Int) := by omega
  obtain ⟨hg1, hg2, hg3⟩ := hR.out.gate k hlt
  have hkp : k < x.plants.length := by rw [hR.out.plants]; exact hlt
  have hkc : k < x.codes.length := by rw [hR.out.codes]; exact hlt
  have hkb : k < x.bars.length := by rw [hR.out.bars]; exact hlt
  have hv := (Pl.check_zero hg1).1
  have hce := cert_ok0 hR.out hlt
  have hcb : x.certB k = ((certT (x.plants.getD k Pl.zero) (x.codes.getD k []) (x.bars.getD k [])).1 && decide (k = 0 ∨ (x.plants.getD (k - 1) Pl.zero).rate * (x.plants.getD (k - 1) Pl.zero).positions ≤ (x.plants.getD k Pl.zero).feed)) := rfl
  rw [getD_at hkp, getD_at hkc, getD_at hkb] at hcb hce
  rw [getD_at hkp] at hv
  obtain ⟨bp, op, rfl, hbp, p0, p1, p2, p3, p4, p5, p6, p7, p8, p9, p10, p11⟩ := hx.out.plants.cells12 hkp
  obtain ⟨bc, oc, Vc, rfl, hbc, q0, hVc⟩ := hx.out.codes.code hkc
  obtain ⟨bb, ob, Vb, rfl, hbb, r0, hVb⟩ := hx.out.bars.bar hkb
  obtain ⟨p, hpe⟩ : ∃ p, x.plants[k] = p := ⟨_, rfl⟩
  obtain ⟨c, hce1⟩ : ∃ c, x.codes[k] = c := ⟨_, rfl⟩
  obtain ⟨b, hbe⟩ : ∃ b, x.bars[k] = b := ⟨_, rfl⟩
  rw [hpe] at p0 p1 p2 p3 p4 p5 p6 p7 p8 p9 p10 p11 hv
  rw [hce1] at hVc
  rw [hbe] at hVb
  rw [hpe, hce1, hbe] at hcb hce
  obtain ⟨ct, cf, ce, hct⟩ : ∃ ct cf ce, Hid (certT p c b = (ct, cf, ce)) := ⟨_, _, _, rfl⟩
  rw [hct.out] at hcb hce
  dsimp only at hcb hce
  subst hce
  have HCB := Lib.hid hcb
  have HV := Lib.hid hv
  have HVc := Lib.hid hVc
  have HVb := Lib.hid hVb
  clear hcb hv hpe hce1 hbe hVc hVb hg1 hg2 hg3
  go_enter Try.func30, Try.ntmps30
  go_upto_region 1 with fail
  generalize w.alloc (.cells #[.slice (some ⟨bp, op, none⟩) n kp, .slice (some ⟨bc, oc, none⟩) n kc, .slice (some ⟨bb, ob, none⟩) n kb] 26) = W at hbw x1 ⊢
  have p0 := (hbw.cell hbp).trans p0
  have p1 := (hbw.cell hbp).trans p1
  have p2 := (hbw.cell hbp).trans p2
  have p3 := (hbw.cell hbp).trans p3
  have p4 := (hbw.cell hbp).trans p4
  have p5 := (hbw.cell hbp).trans p5
  have p6 := (hbw.cell hbp).trans p6
  have p7 := (hbw.cell hbp).trans p7
  have p8 := (hbw.cell hbp).trans p8
  have p9 := (hbw.cell hbp).trans p9
  have p10 := (hbw.cell hbp).trans p10
  have p11 := (hbw.cell hbp).trans p11
  have q0 := (hbw.cell hbc).trans q0
  have r0 := (hbw.cell hbb).trans r0
  have hbpz := Nat.lt_of_lt_of_le hbp hbw.size
  go_cut [5, 7] (fun s5 s7 wx => s5 = .bool ct ∧ s7 = .int .i64 0 ∧ Below W.heap.size W wx)
  case first =>
    have x1z := x1.lt
    have x1c0 : W.cell? ⟨w.heap.size, 0, none⟩ = some (.slice (some ⟨bp, op, none⟩) n kp) := x1.cell 0
    have x1c1 : W.cell? ⟨w.heap.size, 1, none⟩ = some (.slice (some ⟨bc, oc, none⟩) n kc) := x1.cell 1
    have x1c2 : W.cell? ⟨w.heap.size, 2, none⟩ = some (.slice (some ⟨bb, ob, none⟩) n kb) := x1.cell 2
    have hbcz := Nat.lt_of_lt_of_le hbc hbw.size
    have hbbz := Nat.lt_of_lt_of_le hbb hbw.size
    have hCW := Lib.hid ((HVc.out.below hbw).more hbw.size)
    have hQW := Lib.hid ((HVb.out.below hbw).more hbw.size)
    have hd := (Below.refl W.heap.size W).drew
    have hCd := Lib.hid (hCW.out.later hd)
    have hQd := Lib.hid (hQW.out.later hd)
    have ha := ((Below.refl W.heap.size W).alloc (Nat.le_refl _) (.cells #[.int .i64 0, .int .i64 0, .int .i64 0, .int .i64 0, .int .i64 0, .int .i64 0, .int .i64 0, .int .i64 0, .int .i64 0] 78)).drew
    have hCa := Lib.hid (hCW.out.later ha)
    have hQa := Lib.hid (hQW.out.later ha)
    have X9 := (Box.new W [.int .i64 0, .int .i64 0, .int .i64 0, .int .i64 0, .int .i64 0, .int .i64 0, .int .i64 0, .int .i64 0, .int .i64 0] 78).drew
    obtain ⟨cf0, ⟨cf1, cf2, cf3, cf4, cf5, cf6⟩, ⟨cf7, cf8⟩⟩ := cf
    have hzA : Calls Try.prog 64 #[.agg #[.int .i64 p.top, .int .i64 p.bank, .int .i64 p.siphon, .int .i64 p.start, .int .i64 p.positions, .int .i64 p.rate, .int .i64 p.step, .int .i64 p.pass, .int .i64 p.feed, .int .i64 p.pipe, .int .i64 p.orders, .int .i64 p.age], .agg #[Vc], Vb] W.drew (fun e w' => e = .returned (.tuple #[.bool ct, (Fw.mk cf0 ⟨cf1, cf2, cf3, cf4, cf5, cf6⟩ ⟨cf7, cf8⟩).v, .int .i64 0]) ∧ Below W.heap.size W w') :=
      (rbCert_is (w := W.drew) hct hCd.out hQd.out).mono fun _ _ h => ⟨h.1, hd.trans h.2⟩
    have hzB : Calls Try.prog 64 #[.agg #[.int .i64 p.top, .int .i64 p.bank, .int .i64 p.siphon, .int .i64 p.start, .int .i64 p.positions, .int .i64 p.rate, .int .i64 p.step, .int .i64 p.pass, .int .i64 p.feed, .int .i64 p.pipe, .int .i64 p.orders, .int .i64 p.age], .agg #[Vc], Vb] (W.alloc (.cells #[.int .i64 0, .int .i64 0, .int .i64 0, .int .i64 0, .int .i64 0, .int .i64 0, .int .i64 0, .int .i64 0, .int .i64 0] 78)).drew (fun e w' => e = .returned (.tuple #[.bool ct, (Fw.mk cf0 ⟨cf1, cf2, cf3, cf4, cf5, cf6⟩ ⟨cf7, cf8⟩).v, .int .i64 0]) ∧ Below W.heap.size W w' ∧ Box w' W.heap.size [.int .i64 0, .int .i64 0, .int .i64 0, .int .i64 0, .int .i64 0, .int .i64 0, .int .i64 0, .int .i64 0, .int .i64 0]) :=
      (rbCert_is (w := (W.alloc (.cells #[.int .i64 0, .int .i64 0, .int .i64 0, .int .i64 0, .int .i64 0, .int .i64 0, .int .i64 0, .int .i64 0, .int .i64 0] 78)).drew) hct hCa.out hQa.out).mono fun _ _ h => ⟨h.1, ha.trans (h.2.mono ha.size), X9.later h.2⟩
    have u0 : ∀ z : Later W, z.w.cell? ⟨w.heap.size, 0, none⟩ = some (.slice (some ⟨bp, op, none⟩) n kp) := Later.cell x1c0 x1z
    have u1 : ∀ z : Later W, z.w.cell? ⟨w.heap.size, 1, none⟩ = some (.slice (some ⟨bc, oc, none⟩) n kc) := Later.cell x1c1 x1z
    have u2 : ∀ z : Later W, z.w.cell? ⟨w.heap.size, 2, none⟩ = some (.slice (some ⟨bb, ob, none⟩) n kb) := Later.cell x1c2 x1z
    have f0 : ∀ z : Later W, z.w.cell? ⟨bp, op + k * 12, none⟩ = some (.int .i64 p.top) := Later.cell p0 hbpz
    have f1 : ∀ z : Later W, z.w.cell? ⟨bp, op + k * 12 + 1, none⟩ = some (.int .i64 p.bank) := Later.cell p1 hbpz
    have f2 : ∀ z : Later W, z.w.cell? ⟨bp, op + k * 12 + 2, none⟩ = some (.int .i64 p.siphon) := Later.cell p2 hbpz
    have f3 : ∀ z : Later W, z.w.cell? ⟨bp, op + k * 12 + 3, none⟩ = some (.int .i64 p.start) := Later.cell p3 hbpz
    have f4 : ∀ z : Later W, z.w.cell? ⟨bp, op + k * 12 + 4, none⟩ = some (.int .i64 p.positions) := Later.cell p4 hbpz
    have f5 : ∀ z : Later W, z.w.cell? ⟨bp, op + k * 12 + 5, none⟩ = some (.int .i64 p.rate) := Later.cell p5 hbpz
    have f6 : ∀ z : Later W, z.w.cell? ⟨bp, op + k * 12 + 6, none⟩ = some (.int .i64 p.step) := Later.cell p6 hbpz
    have f7 : ∀ z : Later W, z.w.cell? ⟨bp, op + k * 12 + 7, none⟩ = some (.int .i64 p.pass) := Later.cell p7 hbpz
    have f8 : ∀ z : Later W, z.w.cell? ⟨bp, op + k * 12 + 8, none⟩ = some (.int .i64 p.feed) := Later.cell p8 hbpz
    have f9 : ∀ z : Later W, z.w.cell? ⟨bp, op + k * 12 + 9, none⟩ = some (.int .i64 p.pipe) := Later.cell p9 hbpz
    have f10 : ∀ z : Later W, z.w.cell? ⟨bp, op + k * 12 + 10, none⟩ = some (.int .i64 p.orders) := Later.cell p10 hbpz
    have f11 : ∀ z : Later W, z.w.cell? ⟨bp, op + k * 12 + 11, none⟩ = some (.int .i64 p.age) := Later.cell p11 hbpz
    have g0 : ∀ z : Later W, z.w.cell? ⟨bc, oc + k, none⟩ = some Vc := Later.cell q0 hbcz
    have g1 : ∀ z : Later W, z.w.cell? ⟨bb, ob + k, none⟩ = some Vb := Later.cell r0 hbbz
    clear hCd hQd hCa hQa hCW hQW X9 x1 hct
    refine wp_region_heads (C := fun w' => ∃ x : Later W, w' = x.w) [0, 1, 2, 3, 4, 5, 6, 7, 8, 9, 10, 11, 12, 13, 14] (by kernel_rfl) (by kernel_rfl) (Later.mk' hd) (fun _ _ h => h) ?_
    simp only [headOps, List.filterMap_cons, List.filterMap_nil, List.getElem?_toArray, List.getElem?_cons_succ, List.getElem?_cons_zero]
    repeat (first | go_big_quiet_skip | (show wpQuiet _ _ _ _ (_ :: _) _; go_big_quiet_want; go_big_quiet_op; go_big_quiet_on))
    refine wpQuiet_nil ?_
    clear f0 f1 f2 f3 f4 f5 f6 f7 f8 f9 f10 f11 u0 u1 u2 g0 g1 p0 p1 p2 p3 p4 p5 p6 p7 p8 p9 p10 p11 x1c0 x1c1 x1c2 q0 r0
    refine anyC_two (n := 8) (i := 15) (j := 20) (by kernel_rfl) (Later.mk' hd) ?_ ?_
    · refine wpOp_callD (some 24) (by rfl) rfl rfl ?_ (hzA.mono ?_)
      · go_simp
      rintro e w2 ⟨rfl, hw2⟩
      refine ⟨_, rfl, ?_⟩
      simp only [Act.put, List.setIfInBounds_toArray, List.set_cons_zero, List.set_cons_succ]
      refine anyC_heads (by kernel_rfl) 4 w2 (Later.mk' hw2) [16, 17, 18, 19] _ _ (by kernel_rfl) ?_
      simp only [headOps, List.filterMap_cons, List.filterMap_nil, List.getElem?_toArray, List.getElem?_cons_succ, List.getElem?_cons_zero]
      repeat (first | go_big_quiet_skip | (show wpQuiet _ _ _ _ (_ :: _) _; go_big_quiet_want; go_big_quiet_op; go_big_quiet_on))
      refine wpQuiet_nil ?_
      refine anyC_valD (some 6) (n := 3) (i := 20) (v := .pointer (some ⟨w2.heap.size, 0, none⟩)) (w' := w2.alloc (.cells #[.int .i64 0, .int .i64 0, .int .i64 0, .int .i64 0, .int .i64 0, .int .i64 0, .int .i64 0, .int .i64 0, .int .i64 0] 78)) (by kernel_rfl) rfl rfl rfl (Later.mk' hw2) ?_ ?_
      · go_simp
      simp only [Act.put, List.setIfInBounds_toArray, List.set_cons_zero, List.set_cons_succ]
      have Y := Box.new w2 [.int .i64 0, .int .i64 0, .int .i64 0, .int .i64 0, .int .i64 0, .int .i64 0, .int .i64 0, .int .i64 0, .int .i64 0] 78
      have hw3 := hw2.alloc hw2.size (.cells #[.int .i64 0, .int .i64 0, .int .i64 0, .int .i64 0, .int .i64 0, .int .i64 0, .int .i64 0, .int .i64 0, .int .i64 0] 78)
      have hFa := hw2.size
      generalize w2.alloc (.cells #[.int .i64 0, .int .i64 0, .int .i64 0, .int .i64 0, .int .i64 0, .int .i64 0, .int .i64 0, .int .i64 0, .int .i64 0] 78) = w3 at Y hw3 ⊢
      generalize w2.heap.size = Fa at Y hFa ⊢
      have Yc0 : w3.cell? ⟨Fa, 0, none⟩ = some (.int .i64 0) := Y.cell 0
      have Yf0 : w3.frozen? ⟨Fa, 0, none⟩ = false := Y.free 0
      have Yc1 : w3.cell? ⟨Fa, 1, none⟩ = some (.int .i64 0) := Y.cell 1
      have Yf1 : w3.frozen? ⟨Fa, 1, none⟩ = false := Y.free 1
      have Yc2 : w3.cell? ⟨Fa, 2, none⟩ = some (.int .i64 0) := Y.cell 2
      have Yf2 : w3.frozen? ⟨Fa, 2, none⟩ = false := Y.free 2
      have Yc3 : w3.cell? ⟨Fa, 3, none⟩ = some (.int .i64 0) := Y.cell 3
      have Yf3 : w3.frozen? ⟨Fa, 3, none⟩ = false := Y.free 3
      have Yc4 : w3.cell? ⟨Fa, 4, none⟩ = some (.int .i64 0) := Y.cell 4
      have Yf4 : w3.frozen? ⟨Fa, 4, none⟩ = false := Y.free 4
      have Yc5 : w3.cell? ⟨Fa, 5, none⟩ = some (.int .i64 0) := Y.cell 5
      have Yf5 : w3.frozen? ⟨Fa, 5, none⟩ = false := Y.free 5
      have Yc6 : w3.cell? ⟨Fa, 6, none⟩ = some (.int .i64 0) := Y.cell 6
      have Yf6 : w3.frozen? ⟨Fa, 6, none⟩ = false := Y.free 6
      have Yc7 : w3.cell? ⟨Fa, 7, none⟩ = some (.int .i64 0) := Y.cell 7
      have Yf7 : w3.frozen? ⟨Fa, 7, none⟩ = false := Y.free 7
      have Yc8 : w3.cell? ⟨Fa, 8, none⟩ = some (.int .i64 0) := Y.cell 8
      have Yf8 : w3.frozen? ⟨Fa, 8, none⟩ = false := Y.free 8
      have Yz : Fa < w3.heap.size := Y.lt
      have hw4 := (((((((((hw3.setCell (p := ⟨Fa, 0, none⟩) (by simp <;> omega) (.int .i64 cf0)).setCell (p := ⟨Fa, 1, none⟩) (by simp <;> omega) (.int .i64 cf1)).setCell (p := ⟨Fa, 2, none⟩) (by simp <;> omega) (.int .i64 cf2)).setCell (p := ⟨Fa, 3, none⟩) (by simp <;> omega) (.int .i64 cf3)).setCell (p := ⟨Fa, 4, none⟩) (by simp <;> omega) (.int .i64 cf4)).setCell (p := ⟨Fa, 5, none⟩) (by simp <;> omega) (.int .i64 cf5)).setCell (p := ⟨Fa, 6, none⟩) (by simp <;> omega) (.int .i64 cf6)).setCell (p := ⟨Fa, 7, none⟩) (by simp <;> omega) (.int .i64 cf7)).setCell (p := ⟨Fa, 8, none⟩) (by simp <;> omega) (.int .i64 cf8))
      refine anyC_valD (some 5) (n := 2) (i := 21) (v := .bool ct) (w' := w3) (by kernel_rfl) rfl rfl rfl (Later.mk' hw3) (by first | rfl | go_simp) ?_
      simp only [Act.put, List.setIfInBounds_toArray, List.set_cons_zero, List.set_cons_succ]
      refine anyC_storeN (w' := (((((((((w3.setCell ⟨Fa, 0, none⟩ (.int .i64 cf0)).setCell ⟨Fa, 1, none⟩ (.int .i64 cf1)).setCell ⟨Fa, 2, none⟩ (.int .i64 cf2)).setCell ⟨Fa, 3, none⟩ (.int .i64 cf3)).setCell ⟨Fa, 4, none⟩ (.int .i64 cf4)).setCell ⟨Fa, 5, none⟩ (.int .i64 cf5)).setCell ⟨Fa, 6, none⟩ (.int .i64 cf6)).setCell ⟨Fa, 7, none⟩ (.int .i64 cf7)).setCell ⟨Fa, 8, none⟩ (.int .i64 cf8))) (n := 1) (i := 22) (by kernel_rfl) rfl rfl rfl (Later.mk' hw3) ?_ ?_
      · go_simp
      generalize (((((((((w3.setCell ⟨Fa, 0, none⟩ (.int .i64 cf0)).setCell ⟨Fa, 1, none⟩ (.int .i64 cf1)).setCell ⟨Fa, 2, none⟩ (.int .i64 cf2)).setCell ⟨Fa, 3, none⟩ (.int .i64 cf3)).setCell ⟨Fa, 4, none⟩ (.int .i64 cf4)).setCell ⟨Fa, 5, none⟩ (.int .i64 cf5)).setCell ⟨Fa, 6, none⟩ (.int .i64 cf6)).setCell ⟨Fa, 7, none⟩ (.int .i64 cf7)).setCell ⟨Fa, 8, none⟩ (.int .i64 cf8)) = w4 at hw4 ⊢
      refine anyC_valD (some 7) (n := 0) (i := 23) (v := .int .i64 0) (w' := w4) (by kernel_rfl) rfl rfl rfl (Later.mk' hw4) (by first | rfl | go_simp) ?_
      simp only [Act.put, List.setIfInBounds_toArray, List.set_cons_zero, List.set_cons_succ]
      refine anyC_done (by kernel_rfl) (Later.mk' hw4) ?_
      go_wp2_with fail
      go_meet
      exact ⟨rfl, rfl, hw4⟩
    · refine wpOp_valD (some 6) (v := .pointer (some ⟨W.heap.size, 0, none⟩)) (w' := (W.alloc (.cells #[.int .i64 0, .int .i64 0, .int .i64 0, .int .i64 0, .int .i64 0, .int .i64 0, .int .i64 0, .int .i64 0, .int .i64 0] 78)).drew) (by rfl) rfl rfl ?_ ?_
      · go_simp
      simp only [Act.put, List.setIfInBounds_toArray, List.set_cons_zero, List.set_cons_succ]
      refine anyC_callD (some 24) (n := 7) (i := 15) (by kernel_rfl) rfl rfl rfl (Later.mk' ha) ?_ (hzB.mono ?_)
      · go_simp
      rintro e w2 ⟨rfl, hw2, Y⟩
      refine ⟨_, rfl, ?_⟩
      simp only [Act.put, List.setIfInBounds_toArray, List.set_cons_zero, List.set_cons_succ]
      refine anyC_heads (by kernel_rfl) 3 w2 (Later.mk' hw2) [16, 17, 18, 19] _ _ (by kernel_rfl) ?_
      simp only [headOps, List.filterMap_cons, List.filterMap_nil, List.getElem?_toArray, List.getElem?_cons_succ, List.getElem?_cons_zero]
      repeat (first | go_big_quiet_skip | (show wpQuiet _ _ _ _ (_ :: _) _; go_big_quiet_want; go_big_quiet_op; go_big_quiet_on))
      refine wpQuiet_nil ?_
      have hFa : W.heap.size ≤ W.heap.size := Nat.le_refl _
      have Yc0 : w2.cell? ⟨W.heap.size, 0, none⟩ = some (.int .i64 0) := Y.cell 0
      have Yf0 : w2.frozen? ⟨W.heap.size, 0, none⟩ = false := Y.free 0
      have Yc1 : w2.cell? ⟨W.heap.size, 1, none⟩ = some (.int .i64 0) := Y.cell 1
      have Yf1 : w2.frozen? ⟨W.heap.size, 1, none⟩ = false := Y.free 1
      have Yc2 : w2.cell? ⟨W.heap.size, 2, none⟩ = some (.int .i64 0) := Y.cell 2
      have Yf2 : w2.frozen? ⟨W.heap.size, 2, none⟩ = false := Y.free 2
      have Yc3 : w2.cell? ⟨W.heap.size, 3, none⟩ = some (.int .i64 0) := Y.cell 3
      have Yf3 : w2.frozen? ⟨W.heap.size, 3, none⟩ = false := Y.free 3
      have Yc4 : w2.cell? ⟨W.heap.size, 4, none⟩ = some (.int .i64 0) := Y.cell 4
      have Yf4 : w2.frozen? ⟨W.heap.size, 4, none⟩ = false := Y.free 4
      have Yc5 : w2.cell? ⟨W.heap.size, 5, none⟩ = some (.int .i64 0) := Y.cell 5
      have Yf5 : w2.frozen? ⟨W.heap.size, 5, none⟩ = false := Y.free 5
      have Yc6 : w2.cell? ⟨W.heap.size, 6, none⟩ = some (.int .i64 0) := Y.cell 6
      have Yf6 : w2.frozen? ⟨W.heap.size, 6, none⟩ = false := Y.free 6
      have Yc7 : w2.cell? ⟨W.heap.size, 7, none⟩ = some (.int .i64 0) := Y.cell 7
      have Yf7 : w2.frozen? ⟨W.heap.size, 7, none⟩ = false := Y.free 7
      have Yc8 : w2.cell? ⟨W.heap.size, 8, none⟩ = some (.int .i64 0) := Y.cell 8
      have Yf8 : w2.frozen? ⟨W.heap.size, 8, none⟩ = false := Y.free 8
      have Yz : W.heap.size < w2.heap.size := Y.lt
      have hw4 := (((((((((hw2.setCell (p := ⟨W.heap.size, 0, none⟩) (by simp <;> omega) (.int .i64 cf0)).setCell (p := ⟨W.heap.size, 1, none⟩) (by simp <;> omega) (.int .i64 cf1)).setCell (p := ⟨W.heap.size, 2, none⟩) (by simp <;> omega) (.int .i64 cf2)).setCell (p := ⟨W.heap.size, 3, none⟩) (by simp <;> omega) (.int .i64 cf3)).setCell (p := ⟨W.heap.size, 4, none⟩) (by simp <;> omega) (.int .i64 cf4)).setCell (p := ⟨W.heap.size, 5, none⟩) (by simp <;> omega) (.int .i64 cf5)).setCell (p := ⟨W.heap.size, 6, none⟩) (by simp <;> omega) (.int .i64 cf6)).setCell (p := ⟨W.heap.size, 7, none⟩) (by simp <;> omega) (.int .i64 cf7)).setCell (p := ⟨W.heap.size, 8, none⟩) (by simp <;> omega) (.int .i64 cf8))
      refine anyC_valD (some 5) (n := 2) (i := 21) (v := .bool ct) (w' := w2) (by kernel_rfl) rfl rfl rfl (Later.mk' hw2) (by first | rfl | go_simp) ?_
      simp only [Act.put, List.setIfInBounds_toArray, List.set_cons_zero, List.set_cons_succ]
      refine anyC_storeN (w' := (((((((((w2.setCell ⟨W.heap.size, 0, none⟩ (.int .i64 cf0)).setCell ⟨W.heap.size, 1, none⟩ (.int .i64 cf1)).setCell ⟨W.heap.size, 2, none⟩ (.int .i64 cf2)).setCell ⟨W.heap.size, 3, none⟩ (.int .i64 cf3)).setCell ⟨W.heap.size, 4, none⟩ (.int .i64 cf4)).setCell ⟨W.heap.size, 5, none⟩ (.int .i64 cf5)).setCell ⟨W.heap.size, 6, none⟩ (.int .i64 cf6)).setCell ⟨W.heap.size, 7, none⟩ (.int .i64 cf7)).setCell ⟨W.heap.size, 8, none⟩ (.int .i64 cf8))) (n := 1) (i := 22) (by kernel_rfl) rfl rfl rfl (Later.mk' hw2) ?_ ?_
      · go_simp
      generalize (((((((((w2.setCell ⟨W.heap.size, 0, none⟩ (.int .i64 cf0)).setCell ⟨W.heap.size, 1, none⟩ (.int .i64 cf1)).setCell ⟨W.heap.size, 2, none⟩ (.int .i64 cf2)).setCell ⟨W.heap.size, 3, none⟩ (.int .i64 cf3)).setCell ⟨W.heap.size, 4, none⟩ (.int .i64 cf4)).setCell ⟨W.heap.size, 5, none⟩ (.int .i64 cf5)).setCell ⟨W.heap.size, 6, none⟩ (.int .i64 cf6)).setCell ⟨W.heap.size, 7, none⟩ (.int .i64 cf7)).setCell ⟨W.heap.size, 8, none⟩ (.int .i64 cf8)) = w4 at hw4 ⊢
      refine anyC_valD (some 7) (n := 0) (i := 23) (v := .int .i64 0) (w' := w4) (by kernel_rfl) rfl rfl rfl (Later.mk' hw4) (by first | rfl | go_simp) ?_
      simp only [Act.put, List.setIfInBounds_toArray, List.set_cons_zero, List.set_cons_succ]
      refine anyC_done (by kernel_rfl) (Later.mk' hw4) ?_
      go_wp2_with fail
      go_meet
      exact ⟨rfl, rfl, hw4⟩
  case rest =>
    obtain ⟨rfl, rfl, hb8⟩ := hcut
    have hbx := hbw.trans (hb8.mono hbw.size)
    have x1 := x1.later hb8
    have p8 := (hb8.cell hbpz).trans p8
    have hbpx := Nat.lt_of_lt_of_le hbpz hb8.size
    cases ct with
    | false =>
      have hF : t = false := by rw [← hT.out, HCB.out]; rfl
      go_wp2
      go_ret
      subst hF
      exact ⟨rfl, hbx⟩
    | true =>
      have x1z := x1.lt
      rcases Nat.eq_zero_or_pos k with h0 | h0
      · subst h0
        have hF : t = true := by rw [← hT.out, HCB.out]; rfl
        clear p0 p1 p2 p3 p4 p5 p6 p7 p9 p10 p11 p8
        go_wp2_with (fail)
        go_quiet (fail)
        go_wp2
        go_ret
        subst hF
        exact ⟨rfl, bel_drewN hbx nq⟩
      · have hkq : k - 1 < x.plants.length := by omega
        have hgq := (hR.out.gate (k - 1) (by omega)).1
        rw [getD_at hkq] at hgq
        have hvq := (Pl.check_zero hgq).1
        obtain ⟨bq, oq, e1, hbq, s0, s1, s2, s3, s4, s5, s6, s7, s8, s9, s10, s11⟩ := hx.out.plants.cells12 hkq
        cases e1
        have hcq : x.certB k = decide ((x.plants[k - 1]).rate * (x.plants[k - 1]).positions ≤ p.feed) := by
          rw [HCB.out, getD_at hkq, Bool.true_and]
          congr 1
          rw [eq_iff_iff]
          exact ⟨fun h => h.resolve_left (by omega), fun h => .inr h⟩
        have s4 := ((hb8.cell hbpz).trans (hbw.cell hbp)).trans s4
        have s5 := ((hb8.cell hbpz).trans (hbw.cell hbp)).trans s5
        obtain ⟨q, hq⟩ : ∃ q, x.plants[k - 1] = q := ⟨_, rfl⟩
        rw [hq] at s4 s5 hcq hvq
        have hr := hvq.rate
        have hp := hvq.positions
        have hm := mul_le4 (a := q.rate) (b := q.positions) (A := 15) (B := 15) (by omega) (by omega)
        have hw : wrap64 (q.rate * q.positions) = q.rate * q.positions := by unfold wrap64; omega
        obtain ⟨j, hj⟩ : ∃ j, k - 1 = j := ⟨_, rfl⟩
        rw [hj] at s4 s5
        have hz : ((k : Int) == 0) = false := by simp; omega
        have hwj : IntKind.i64.wrap ((k : Int) - 1) = (j : Int) := by rw [wrap_id (by omega) (by omega)]; omega
        have hwk : wrap64 ((k : Int) - 1) = (j : Int) := by unfold wrap64; omega
        have hjn : (j : Int) < (n : Int) := by omega
        clear hj
        have HCQ := Lib.hid hcq
        have x1c0 : wc.cell? ⟨w.heap.size, 0, none⟩ = some (.slice (some ⟨bp, op, none⟩) n kp) := x1.cell 0
        clear s0 s1 s2 s3 s6 s7 s8 s9 s10 s11 p0 p1 p2 p3 p4 p5 p6 p7 p9 p10 p11 hcq hm hr hp hq
        by_cases hle : q.rate * q.positions ≤ p.feed
        · have hF : t = true := by rw [← hT.out, HCQ.out, decide_eq_true hle]
          have hdd : decide (q.rate * q.positions ≤ p.feed) = true := decide_eq_true hle
          go_wp2_with (fail)
          go_quiet (fail)
          go_wp2
          go_ret
          subst hF
          exact ⟨rfl, bel_drewN hbx nq⟩
        · have hF : t = false := by rw [← hT.out, HCQ.out, decide_eq_false hle]
          have hdd : decide (q.rate * q.positions ≤ p.feed) = false := decide_eq_false hle
          go_wp2_with (fail)
          go_quiet (fail)
          go_wp2
          go_ret
          subst hF
          exact ⟨rfl, bel_drewN hbx nq⟩
end Go.Proofs.Ytcjcjkomcolgeaa

/-
  The reference of chapter 35: Certified. (Printed by pp.py.) No condition.
-/
namespace Go.Proofs.Ytcjcjkomcolgeaa
open Go.RowKit

set_option maxRecDepth 100000 in
set_option maxHeartbeats 2000000 in
theorem rCert_bad {x : Cs} {Vp Vc Vb : Value} {w : World} {er : Int} (hT : Hid (x.checkT = er)) (h0 : er ≠ 0) (hx : CsAt w w.heap.size Vp Vc Vb x) : Calls Try.prog 11 #[.agg #[Vp, Vc, Vb]] w fun e w' => e = .returned (.tuple #[.bool false, .int .i64 0, .int .i64 er]) ∧ Below w.heap.size w w' := by
  have hd : (er != 0) = true := by simp [h0]
  have hB := (Below.refl w.heap.size w).alloc (Nat.le_refl _) (.cells #[Vp, Vc, Vb] 26)
  have HX := Lib.hid (hx.later hB)
  clear hx
  go_enter Try.func11, Try.ntmps11
  go_wp2_with fail
  refine (rCsCheck_is hT HX.out).mono ?_
  rintro e w1 ⟨rfl, hb⟩
  go_wp2
  refine bodyPost_ret (results_tmp3 Try.results11 _) rfl ?_
  exact ⟨rfl, hB.trans (hb.mono hB.size)⟩
set_option maxRecDepth 100000 in
set_option maxHeartbeats 4000000 in
theorem rCert_ok (x : Cs) (Ap Ac Ab : Option Addr) (n kp kc kb : Nat) (w : World) (hT : Hid (x.checkT = 0)) (hR : Hid (CsRight x n)) (hx : Hid (CsAt w w.heap.size (.slice Ap n kp) (.slice Ac n kc) (.slice Ab n kb) x)) (t : Bool) (i : Int)
    (hF : Hid (((List.range n).find? (fun i => !x.certB i) = none → t = true ∧ i = 0) ∧ ∀ k : Nat, (List.range n).find? (fun i => !x.certB i) = some k → t = false ∧ i = k)) :
    Calls Try.prog 11 #[.agg #[.slice Ap n kp, .slice Ac n kc, .slice Ab n kb]] w fun e w' => e = .returned (.tuple #[.bool t, .int .i64 i, .int .i64 0]) ∧ Below w.heap.size w w' := by
  have hn8 := hR.out.most
  have hB := (Below.refl w.heap.size w).alloc (Nat.le_refl _) (.cells #[.slice Ap n kp, .slice Ac n kc, .slice Ab n kb] 26)
  have X1 := Box.new w [.slice Ap n kp, .slice Ac n kc, .slice Ab n kb] 26
  have HX := Lib.hid (hx.out.later hB)
  go_enter Try.func11, Try.ntmps11
  go_wp2_with fail
  refine (rCsCheck_is hT HX.out).mono ?_
  rintro e w1 ⟨rfl, hb⟩
  have X1 := X1.later hb
  have hB := hB.trans (hb.mono hB.size)
  clear hb HX
  go_wp2_with fail
  go_loopw [6] (fun i wr => ∃ k : Nat, k ≤ n ∧ i = .int .i64 k ∧ Below w1.heap.size w1 wr ∧ Hid (∀ j, j < k → x.certB j = true)) (fun i _ => n - (intOf i).toNat)
  case atStart => exact ⟨0, by omega, rfl, Below.refl _ _, Lib.hid (fun j hj => by omega)⟩
  case round =>
    obtain ⟨k, hk, rfl, hb, hok⟩ := hrel
    obtain ⟨wo, rfl⟩ : ∃ wo : World, wo = wr := ⟨_, rfl⟩
    have hbw := hB.trans (hb.mono hB.size)
    have x1 := X1.later hb
    have x1z := x1.lt
    have x1c0 : wo.cell? ⟨w.heap.size, 0, none⟩ = some (.slice Ap n kp) := x1.cell 0
    have x1c1 : wo.cell? ⟨w.heap.size, 1, none⟩ = some (.slice Ac n kc) := x1.cell 1
    have x1c2 : wo.cell? ⟨w.heap.size, 2, none⟩ = some (.slice Ab n kb) := x1.cell 2
    rcases Nat.lt_or_ge k n with hlt | hge
    rotate_left
    · obtain rfl : k = n := by omega
      have hnone := hF.out.1 (range_none (fun j hj => by rw [hok.out j hj]; rfl))
      have HN := Lib.hid hnone
      clear hnone
      have hd3 : ¬ ((k : Int) < (k : Int)) := by omega
      go_wp2
      refine bodyPost_ret (results_tmp3 Try.results11 _) rfl ?_
      obtain ⟨rfl, rfl⟩ := HN.out
      exact ⟨rfl, hbw⟩
    have hd3 : (k : Int) < (n : Int) := by omega
    obtain ⟨ct, hct⟩ : ∃ ct, x.certB k = ct := ⟨_, rfl⟩
    have HCT := Lib.hid hct
    clear hct
    have HXw := Lib.hid (hx.out.later hbw)
    go_wp2_with fail
    refine (rCertOne_is x Ap Ac Ab n kp kc kb k wo hR hlt HXw ct HCT).mono ?_
    rintro e w2 ⟨rfl, hb2⟩
    have hbw := hbw.trans (hb2.mono hbw.size)
    have hb := hb.trans (hb2.mono hb.size)
    cases ct with
    | true =>
      have hok2 : Hid (∀ j, j < k + 1 → x.certB j = true) := Lib.hid (fun j hj => by
        rcases Nat.lt_or_ge j k with h | h
        · exact hok.out j h
        · obtain rfl : j = k := by omega
          exact HCT.out)
      go_wp2
      exact ⟨⟨k + 1, by omega, by go_num, hb, hok2⟩, by simp [intOf]; omega⟩
    | false =>
      have HN := Lib.hid (hF.out.2 k (range_find hlt (fun j hj => by rw [hok.out j hj]; rfl) (by rw [HCT.out]; rfl)))
      go_wp2
      refine bodyPost_ret (results_tmp3 Try.results11 _) rfl ?_
      obtain ⟨rfl, rfl⟩ := HN.out
      exact ⟨rfl, hbw⟩
theorem rCertified_is {x : Cs} {Vp Vc Vb : Value} {w : World} {t : Bool} {i er : Int} (h : Hid (x.certT = (t, i, er))) (hx : CsAt w w.heap.size Vp Vc Vb x) : Calls Try.prog 11 #[.agg #[Vp, Vc, Vb]] w fun e w' => e = .returned (.tuple #[.bool t, .int .i64 i, .int .i64 er]) ∧ Below w.heap.size w w' := by
  have h := h.out
  unfold Cs.certT at h
  by_cases h0 : x.checkT = 0
  · rw [if_pos h0] at h
    have hR := cs_right h0
    obtain ⟨Ap, kp, rfl, _⟩ := hx.plants.form
    obtain ⟨Ac, kc, rfl, _⟩ := hx.codes.form
    obtain ⟨Ab, kb, rfl, _⟩ := hx.bars.form
    obtain ⟨n, hn⟩ : ∃ n, x.plants.length = n := ⟨_, rfl⟩
    have h1 := hR.codes
    have h2 := hR.bars
    rw [hn] at h1 h2 hR h
    rw [hn, h1, h2] at hx ⊢
    rcases hf : (List.range n).find? (fun i => !x.certB i) with _ | k
    · rw [hf] at h
      simp only [Prod.mk.injEq] at h
      obtain ⟨rfl, rfl, rfl⟩ := h
      exact rCert_ok x Ap Ac Ab n kp kc kb w h0 hR hx true 0 (Lib.hid ⟨fun _ => ⟨rfl, rfl⟩, fun k hk => (by rw [hf] at hk; cases hk)⟩)
    · rw [hf] at h
      simp only [Prod.mk.injEq] at h
      obtain ⟨rfl, rfl, rfl⟩ := h
      exact rCert_ok x Ap Ac Ab n kp kc kb w h0 hR hx false k (Lib.hid ⟨fun hk => (by rw [hf] at hk; cases hk), fun j hj => (by rw [hf] at hj; cases hj; exact ⟨rfl, rfl⟩)⟩)
  · rw [if_neg h0] at h
    simp only [Prod.mk.injEq] at h
    obtain ⟨rfl, rfl, h2⟩ := h
    exact rCert_bad h2 (by rw [← h2]; exact h0) hx
end Go.Proofs.Ytcjcjkomcolgeaa
