/- hear and Deliver of orders: where the slices of the result lie. (Printed by mkw.py and pp.py.) No condition. -/
import Derived.Test.YtmbifmmkccghfaaQVB
import Derived.Test.YtmbifmmkccghfaaQRL
import Derived.Test.YtmbifmmkccghfaaQRE
import Derived.Test.YtmbifmmkccghfaaQNR
set_option linter.unusedVariables false
set_option linter.unusedSimpArgs false
namespace Go.Proofs.Ytmbifmmkccghfaa
open Go.RowKit Go.Shelf
section
attribute [local go_sem] Oper.semAt_some
attribute [local go_sem ↓ high] app_named cop_named
set_option maxRecDepth 100000 in
set_option maxHeartbeats 4000000 in
theorem oHearV_any (b : Bx) (g : Nat) (v : Int) (Aq Aa As Ah Af : Option Addr) (nq cq na ca ns cs n ch cf : Nat) (w : World) (hx : Hid (BxAt w w.heap.size (.slice Aq nq cq) (.slice Aa na ca) (.slice As ns cs) (.slice Ah n ch) (.slice Af n cf) b)) (hn : Hid (b.heard.length = n)) (hnf : Hid (b.fresh.length = n)) (hn8 : n ≤ 8) (hg : g < n) (hv : -1 ≤ v ∧ v ≤ 4096)
    {T : Bx} (hT : Hid (⟨b.net, b.sent, b.heard.set g (v + 1), b.fresh.set g true⟩ = T)) :
    Calls Try.prog 48 #[.agg #[.slice Aq nq cq, .slice Aa na ca, .slice As ns cs, .slice Ah n ch, .slice Af n cf], .int .i64 (g : Int), .int .i64 v] w (RetHearV T (.slice Aa na ca) (.slice As ns cs) (.slice Ah n ch) w) := by
  go_enter Try.func48, Try.ntmps48
  have hB := ((Below.refl w.heap.size w).alloc (Nat.le_refl _) (.cells #[.slice Aq nq cq, .slice Aa na ca, .slice As ns cs, .slice Ah n ch, .slice Af n cf] 30)).alloc (by simp) (.cells #[.slice none 0 0, .slice none 0 0, .slice none 0 0, .slice none 0 0, .slice none 0 0] 30)
  have X1 := (Box.new w [.slice Aq nq cq, .slice Aa na ca, .slice As ns cs, .slice Ah n ch, .slice Af n cf] 30).alloc (.cells #[.slice none 0 0, .slice none 0 0, .slice none 0 0, .slice none 0 0, .slice none 0 0] 30)
  have X6 := Box.newAt (w := w.alloc (.cells #[.slice Aq nq cq, .slice Aa na ca, .slice As ns cs, .slice Ah n ch, .slice Af n cf] 30)) (n := w.heap.size + 1) [.slice none 0 0, .slice none 0 0, .slice none 0 0, .slice none 0 0, .slice none 0 0] 30 (by simp)
  go_upto_region 1 with fail
  generalize (w.alloc (.cells #[.slice Aq nq cq, .slice Aa na ca, .slice As ns cs, .slice Ah n ch, .slice Af n cf] 30)).alloc (.cells #[.slice none 0 0, .slice none 0 0, .slice none 0 0, .slice none 0 0, .slice none 0 0] 30) = W at hB X1 X6 ⊢
  have z1 := X1.lt
  have z6 := X6.lt
  go_cut [7, 8] (fun s7 s8 wx => Below W.heap.size W wx ∧ ∃ gH gF, s7 = .slice (some ⟨gH, 0, none⟩) n n ∧ s8 = .slice (some ⟨gF, 0, none⟩) n n ∧ W.heap.size ≤ gH ∧ W.heap.size ≤ gF ∧ gH ≠ gF ∧ Box wx gH (List.replicate n (Value.int .i64 0)) ∧ Box wx gF (List.replicate n (Value.bool false)))
  case first =>
    have hd := (Below.refl W.heap.size W).drew
    have u3 : ∀ z : Later W, z.w.cell? ⟨w.heap.size, 3, none⟩ = some (.slice Ah n ch) := Later.cell (X1.cell 3) z1
    have u4 : ∀ z : Later W, z.w.cell? ⟨w.heap.size, 4, none⟩ = some (.slice Af n cf) := Later.cell (X1.cell 4) z1
    refine wp_region_headsM (C := fun w' => ∃ x : Later W, w' = x.w) [0, 1, 2, 4, 5, 6] (by kernel_rfl) (by kernel_rfl) (Later.mk' hd) (fun _ _ h => h) ?_
    simp only [headOps, List.filterMap_cons, List.filterMap_nil, List.getElem?_toArray, List.getElem?_cons_succ, List.getElem?_cons_zero]
    repeat (first | go_big_quiet_skip | (show wpQuiet _ _ _ _ (_ :: _) _; go_big_quiet_skip) | (show wpQuiet _ _ _ _ (_ :: _) _; go_big_quiet_want; go_big_quiet_op; go_big_quiet_on))
    refine wpQuiet_nil ?_
    clear u3 u4
    generalize W.drew = W0 at hd ⊢
    refine anyC_twoW (n := 4) (i := 3) (j := 7) (by kernel_rfl) (Later.mk' hd) ?_ ?_
    · have hmk := oMakeI n (by omega) W0
      refine wpOp_valD (some 12) (v := .slice (some ⟨W0.heap.size, 0, none⟩) n n) (w' := W0.alloc (.cells (List.replicate n (Value.int .i64 0)).toArray 3)) (by rfl) rfl rfl ?_ ?_
      · go_simp
      simp only [Act.put, List.setIfInBounds_toArray, List.set_cons_zero, List.set_cons_succ]
      clear hmk
      have hb := (Below.refl W0.heap.size W0).alloc (Nat.le_refl _) (.cells (List.replicate n (Value.int .i64 0)).toArray 3)
      have XH := Box.new W0 (List.replicate n (Value.int .i64 0)) 3
      have hgH := hd.size
      have hd := hd.trans (hb.mono hd.size)
      clear hb
      generalize W0.alloc (.cells (List.replicate n (Value.int .i64 0)).toArray 3) = W1 at hd XH ⊢
      generalize W0.heap.size = gH at XH hgH  ⊢
      refine anyC_heads (by kernel_rfl) 2 W1 (Later.mk' hd) [8] _ _ (by kernel_rfl) ?_
      simp only [headOps, List.filterMap_cons, List.filterMap_nil, List.getElem?_toArray, List.getElem?_cons_succ, List.getElem?_cons_zero]
      repeat (first | go_big_quiet_skip | (show wpQuiet _ _ _ _ (_ :: _) _; go_big_quiet_skip) | (show wpQuiet _ _ _ _ (_ :: _) _; go_big_quiet_want; go_big_quiet_op; go_big_quiet_on))
      refine wpQuiet_nil ?_
      refine anyC_oneW (n := 2) (i := 7) (by kernel_rfl) (Later.mk' hd) ?_
      have hmk := oMakeB n (by omega) W1
      refine wpOp_valD (some 16) (v := .slice (some ⟨W1.heap.size, 0, none⟩) n n) (w' := W1.alloc (.cells (List.replicate n (Value.bool false)).toArray 4)) (by rfl) rfl rfl ?_ ?_
      · go_simp
      simp only [Act.put, List.setIfInBounds_toArray, List.set_cons_zero, List.set_cons_succ]
      clear hmk
      have hb := (Below.refl W1.heap.size W1).alloc (Nat.le_refl _) (.cells (List.replicate n (Value.bool false)).toArray 4)
      have XF := Box.new W1 (List.replicate n (Value.bool false)) 4
      have hgF := hd.size
      have hd := hd.trans (hb.mono hd.size)
      have hne := XH.lt
      have XH := XH.later hb
      clear hb
      generalize W1.alloc (.cells (List.replicate n (Value.bool false)).toArray 4) = W2 at hd XH XF ⊢
      generalize W1.heap.size = gF at XF hgF hne ⊢
      refine anyC_valD (some 8) (n := 0) (i := 9) (v := .slice (some ⟨gF, 0, none⟩) n n) (w' := W2) (by kernel_rfl) rfl rfl rfl (Later.mk' hd) (by first | rfl | go_simp) ?_
      simp only [Act.put, List.setIfInBounds_toArray, List.set_cons_zero, List.set_cons_succ]
      refine anyC_done (by kernel_rfl) (Later.mk' hd) ?_
      go_wp2_with fail
      go_meet
      exact ⟨hd, gH, gF, rfl, rfl, hgH, hgF, by omega, XH, XF⟩
    · have hmk := oMakeB n (by omega) W0
      refine wpOp_valD (some 16) (v := .slice (some ⟨W0.heap.size, 0, none⟩) n n) (w' := W0.alloc (.cells (List.replicate n (Value.bool false)).toArray 4)) (by rfl) rfl rfl ?_ ?_
      · go_simp
      simp only [Act.put, List.setIfInBounds_toArray, List.set_cons_zero, List.set_cons_succ]
      clear hmk
      have hb := (Below.refl W0.heap.size W0).alloc (Nat.le_refl _) (.cells (List.replicate n (Value.bool false)).toArray 4)
      have XF := Box.new W0 (List.replicate n (Value.bool false)) 4
      have hgF := hd.size
      have hd := hd.trans (hb.mono hd.size)
      clear hb
      generalize W0.alloc (.cells (List.replicate n (Value.bool false)).toArray 4) = W1 at hd XF ⊢
      generalize W0.heap.size = gF at XF hgF  ⊢
      refine anyC_oneW (n := 3) (i := 3) (by kernel_rfl) (Later.mk' hd) ?_
      have hmk := oMakeI n (by omega) W1
      refine wpOp_valD (some 12) (v := .slice (some ⟨W1.heap.size, 0, none⟩) n n) (w' := W1.alloc (.cells (List.replicate n (Value.int .i64 0)).toArray 3)) (by rfl) rfl rfl ?_ ?_
      · go_simp
      simp only [Act.put, List.setIfInBounds_toArray, List.set_cons_zero, List.set_cons_succ]
      clear hmk
      have hb := (Below.refl W1.heap.size W1).alloc (Nat.le_refl _) (.cells (List.replicate n (Value.int .i64 0)).toArray 3)
      have XH := Box.new W1 (List.replicate n (Value.int .i64 0)) 3
      have hgH := hd.size
      have hd := hd.trans (hb.mono hd.size)
      have hne := XF.lt
      have XF := XF.later hb
      clear hb
      generalize W1.alloc (.cells (List.replicate n (Value.int .i64 0)).toArray 3) = W2 at hd XH XF ⊢
      generalize W1.heap.size = gH at XH hgH hne ⊢
      refine anyC_valD (some 7) (n := 1) (i := 8) (v := .slice (some ⟨gH, 0, none⟩) n n) (w' := W2) (by kernel_rfl) rfl rfl rfl (Later.mk' hd) (by first | rfl | go_simp) ?_
      simp only [Act.put, List.setIfInBounds_toArray, List.set_cons_zero, List.set_cons_succ]
      refine anyC_valD (some 8) (n := 0) (i := 9) (v := .slice (some ⟨gF, 0, none⟩) n n) (w' := W2) (by kernel_rfl) rfl rfl rfl (Later.mk' hd) (by first | rfl | go_simp) ?_
      simp only [Act.put, List.setIfInBounds_toArray, List.set_cons_zero, List.set_cons_succ]
      refine anyC_done (by kernel_rfl) (Later.mk' hd) ?_
      go_wp2_with fail
      go_meet
      exact ⟨hd, gH, gF, rfl, rfl, hgH, hgF, by omega, XH, XF⟩
  case rest =>
    obtain ⟨hb, gH, gF, rfl, rfl, hgH, hgF, hne, XH, XF⟩ := hcut
    have hgW := Nat.le_trans hB.size hgH
    have hB := hB.trans (hb.mono hB.size)
    have X1 := X1.later hb
    have X6 := X6.later hb
    have hsI : (Try.prog.info? 3).map (·.size) = some 1 := by kernel_rfl
    have hsB : (Try.prog.info? 4).map (·.size) = some 1 := by kernel_rfl
    have HH := hx.out.heard.later hB
    obtain ⟨W2, hc1, XH, hk1, hb1⟩ := copy_row1 (Value.int .i64) (fun _ => rfl) Try.underlying27 hsI 3 hn.out (hn.out ▸ HH.2) XH (by simp)
    clear HH
    have X1a := hk1 _ _ (by omega) X1
    have X6 := hk1 _ _ (by omega) X6
    have XF := hk1 _ _ (by omega) XF
    have hBa := hB.trans (hb1.mono (by have := hB.size; omega))
    have HF := hx.out.fresh.later hBa
    obtain ⟨W3, hc2, XF, hk2, hb2⟩ := copy_row1 Value.bool (fun _ => rfl) Try.underlying28 hsB 3 hnf.out (hnf.out ▸ HF.2) XF (by simp)
    clear HF
    have X1b := hk2 _ _ (by omega) X1a
    have X6 := hk2 _ _ (by omega) X6
    have XH := hk2 _ _ (by omega) XH
    have hB := hBa.trans (hb2.mono (by have := hB.size; omega))
    have x13 : wc.cell? ⟨w.heap.size, 3, none⟩ = some (.slice Ah n ch) := X1.cell 3
    have x14 : W2.cell? ⟨w.heap.size, 4, none⟩ = some (.slice Af n cf) := X1a.cell 4
    have y1 := X1.lt
    have y2 := X1a.lt
    clear hk1 hk2 hb1 hb2 hb
    go_upto_region 4 with fail
    clear hc1 hc2 x13 x14 y1 y2 X1 X1a
    have hgi : (g : Int) < (n : Int) := by omega
    have hgz : (0 : Int) ≤ (g : Int) := by omega
    have hwv : wrap64 (v + 1) = v + 1 := by unfold wrap64; omega
    have hwv2 : IntKind.i64.wrap (v + 1) = v + 1 := wrapO (by omega) (by omega)
    have hgl : g < b.heard.length := by rw [hn.out]; exact hg
    have hgl2 : g < b.fresh.length := by rw [hnf.out]; exact hg
    have k0 : W3.cell? ⟨gH, g, none⟩ = some (.int .i64 b.heard[g]) := by rw [XH.cell]; simp [hgl]
    have k1 : W3.cell? ⟨gF, g, none⟩ = some (.bool b.fresh[g]) := by rw [XF.cell]; simp [hgl2]
    have f0 := XH.free g
    have f1 := XF.free g
    have zH := XH.lt
    have zF := XF.lt
    have hne2 : gF ≠ gH := fun h => hne h.symm
    go_upto_region 5 with fail
    clear k0 k1 f0 f1 hgi hgz hwv hwv2
    have XH := (XH.set g (.int .i64 (v + 1))).other (a := ⟨gF, g, none⟩) (by simp <;> omega) (.bool true)
    have XF := (XF.other (a := ⟨gH, g, none⟩) (by simp <;> omega) (.int .i64 (v + 1))).set g (.bool true)
    have X1 := (X1b.other (a := ⟨gH, g, none⟩) (by simp <;> omega) (.int .i64 (v + 1))).other (a := ⟨gF, g, none⟩) (by simp <;> omega) (.bool true)
    have X6 := (X6.other (a := ⟨gH, g, none⟩) (by simp <;> omega) (.int .i64 (v + 1))).other (a := ⟨gF, g, none⟩) (by simp <;> omega) (.bool true)
    have hB := (hB.setCell (p := ⟨gH, g, none⟩) (by simp <;> omega) (.int .i64 (v + 1))).setCell (p := ⟨gF, g, none⟩) (by simp <;> omega) (.bool true)
    generalize (W3.setCell ⟨gH, g, none⟩ (.int .i64 (v + 1))).setCell ⟨gF, g, none⟩ (.bool true) = W4 at XH XF X1 X6 hB ⊢
    have e1 : (b.heard.map (Value.int .i64)).set g (.int .i64 (v + 1)) = (b.heard.set g (v + 1)).map (Value.int .i64) := List.map_set.symm
    have e2 : (b.fresh.map Value.bool).set g (.bool true) = (b.fresh.set g true).map Value.bool := List.map_set.symm
    rw [e1] at XH
    rw [e2] at XF
    clear e1 e2 X1b
    have X1c0 : W4.cell? ⟨w.heap.size, 0, none⟩ = some (.slice Aq nq cq) := X1.cell 0
    have X1f0 : W4.frozen? ⟨w.heap.size, 0, none⟩ = false := X1.free 0
    have X1c1 : W4.cell? ⟨w.heap.size, 1, none⟩ = some (.slice Aa na ca) := X1.cell 1
    have X1f1 : W4.frozen? ⟨w.heap.size, 1, none⟩ = false := X1.free 1
    have X1c2 : W4.cell? ⟨w.heap.size, 2, none⟩ = some (.slice As ns cs) := X1.cell 2
    have X1f2 : W4.frozen? ⟨w.heap.size, 2, none⟩ = false := X1.free 2
    have X1c3 : W4.cell? ⟨w.heap.size, 3, none⟩ = some (.slice Ah n ch) := X1.cell 3
    have X1f3 : W4.frozen? ⟨w.heap.size, 3, none⟩ = false := X1.free 3
    have X1c4 : W4.cell? ⟨w.heap.size, 4, none⟩ = some (.slice Af n cf) := X1.cell 4
    have X1f4 : W4.frozen? ⟨w.heap.size, 4, none⟩ = false := X1.free 4
    have X1z : w.heap.size < W4.heap.size := X1.lt
    go_upto_region 6 with fail
    clear X1c0 X1c1 X1c2 X1c3 X1c4 X1f0 X1f1 X1f2 X1f3 X1f4 X1z
    have XH := (XH.other (a := ⟨w.heap.size, 3, none⟩) (by simp <;> omega) (.slice (some ⟨gH, 0, none⟩) n n)).other (a := ⟨w.heap.size, 4, none⟩) (by simp <;> omega) (.slice (some ⟨gF, 0, none⟩) n n)
    have XF := (XF.other (a := ⟨w.heap.size, 3, none⟩) (by simp <;> omega) (.slice (some ⟨gH, 0, none⟩) n n)).other (a := ⟨w.heap.size, 4, none⟩) (by simp <;> omega) (.slice (some ⟨gF, 0, none⟩) n n)
    have X1 := (X1.set 3 (.slice (some ⟨gH, 0, none⟩) n n)).set 4 (.slice (some ⟨gF, 0, none⟩) n n)
    have X6 := (X6.other (a := ⟨w.heap.size, 3, none⟩) (by simp <;> omega) (.slice (some ⟨gH, 0, none⟩) n n)).other (a := ⟨w.heap.size, 4, none⟩) (by simp <;> omega) (.slice (some ⟨gF, 0, none⟩) n n)
    have hB := (hB.setCell (p := ⟨w.heap.size, 3, none⟩) (by simp) (.slice (some ⟨gH, 0, none⟩) n n)).setCell (p := ⟨w.heap.size, 4, none⟩) (by simp) (.slice (some ⟨gF, 0, none⟩) n n)
    generalize (W4.setCell ⟨w.heap.size, 3, none⟩ (.slice (some ⟨gH, 0, none⟩) n n)).setCell ⟨w.heap.size, 4, none⟩ (.slice (some ⟨gF, 0, none⟩) n n) = W5 at XH XF X1 X6 hB ⊢
    simp only [List.set_cons_zero, List.set_cons_succ] at X1
    have X1c0 : W5.cell? ⟨w.heap.size, 0, none⟩ = some (.slice Aq nq cq) := X1.cell 0
    have X1c1 : W5.cell? ⟨w.heap.size, 1, none⟩ = some (.slice Aa na ca) := X1.cell 1
    have X1c2 : W5.cell? ⟨w.heap.size, 2, none⟩ = some (.slice As ns cs) := X1.cell 2
    have X1c3 : W5.cell? ⟨w.heap.size, 3, none⟩ = some (.slice (some ⟨gH, 0, none⟩) n n) := X1.cell 3
    have X1c4 : W5.cell? ⟨w.heap.size, 4, none⟩ = some (.slice (some ⟨gF, 0, none⟩) n n) := X1.cell 4
    have z1 := X1.lt
    have X6c0 : W5.cell? ⟨w.heap.size + 1, 0, none⟩ = some (.slice none 0 0) := X6.cell 0
    have X6f0 : W5.frozen? ⟨w.heap.size + 1, 0, none⟩ = false := X6.free 0
    have X6c1 : W5.cell? ⟨w.heap.size + 1, 1, none⟩ = some (.slice none 0 0) := X6.cell 1
    have X6f1 : W5.frozen? ⟨w.heap.size + 1, 1, none⟩ = false := X6.free 1
    have X6c2 : W5.cell? ⟨w.heap.size + 1, 2, none⟩ = some (.slice none 0 0) := X6.cell 2
    have X6f2 : W5.frozen? ⟨w.heap.size + 1, 2, none⟩ = false := X6.free 2
    have X6c3 : W5.cell? ⟨w.heap.size + 1, 3, none⟩ = some (.slice none 0 0) := X6.cell 3
    have X6f3 : W5.frozen? ⟨w.heap.size + 1, 3, none⟩ = false := X6.free 3
    have X6c4 : W5.cell? ⟨w.heap.size + 1, 4, none⟩ = some (.slice none 0 0) := X6.cell 4
    have X6f4 : W5.frozen? ⟨w.heap.size + 1, 4, none⟩ = false := X6.free 4
    have X6z : w.heap.size + 1 < W5.heap.size := X6.lt
    go_wp2
    have XH := (((((XH.other (a := ⟨w.heap.size + 1, 0, none⟩) (by simp <;> omega) (.slice Aq nq cq)).other (a := ⟨w.heap.size + 1, 1, none⟩) (by simp <;> omega) (.slice Aa na ca)).other (a := ⟨w.heap.size + 1, 2, none⟩) (by simp <;> omega) (.slice As ns cs)).other (a := ⟨w.heap.size + 1, 3, none⟩) (by simp <;> omega) (.slice (some ⟨gH, 0, none⟩) n n)).other (a := ⟨w.heap.size + 1, 4, none⟩) (by simp <;> omega) (.slice (some ⟨gF, 0, none⟩) n n))
    have XF := (((((XF.other (a := ⟨w.heap.size + 1, 0, none⟩) (by simp <;> omega) (.slice Aq nq cq)).other (a := ⟨w.heap.size + 1, 1, none⟩) (by simp <;> omega) (.slice Aa na ca)).other (a := ⟨w.heap.size + 1, 2, none⟩) (by simp <;> omega) (.slice As ns cs)).other (a := ⟨w.heap.size + 1, 3, none⟩) (by simp <;> omega) (.slice (some ⟨gH, 0, none⟩) n n)).other (a := ⟨w.heap.size + 1, 4, none⟩) (by simp <;> omega) (.slice (some ⟨gF, 0, none⟩) n n))
    have Y6 := (((((X6.set 0 (.slice Aq nq cq)).set 1 (.slice Aa na ca)).set 2 (.slice As ns cs)).set 3 (.slice (some ⟨gH, 0, none⟩) n n)).set 4 (.slice (some ⟨gF, 0, none⟩) n n))
    have hB := (((((hB.setCell (p := ⟨w.heap.size + 1, 0, none⟩) (by simp <;> omega) (.slice Aq nq cq)).setCell (p := ⟨w.heap.size + 1, 1, none⟩) (by simp <;> omega) (.slice Aa na ca)).setCell (p := ⟨w.heap.size + 1, 2, none⟩) (by simp <;> omega) (.slice As ns cs)).setCell (p := ⟨w.heap.size + 1, 3, none⟩) (by simp <;> omega) (.slice (some ⟨gH, 0, none⟩) n n)).setCell (p := ⟨w.heap.size + 1, 4, none⟩) (by simp <;> omega) (.slice (some ⟨gF, 0, none⟩) n n))
    clear X1c0 X1c1 X1c2 X1c3 X1c4 X6c0 X6c1 X6c2 X6c3 X6c4 X6f0 X6f1 X6f2 X6f3 X6f4 X6z
    generalize (((((W5.setCell ⟨w.heap.size + 1, 0, none⟩ (.slice Aq nq cq)).setCell ⟨w.heap.size + 1, 1, none⟩ (.slice Aa na ca)).setCell ⟨w.heap.size + 1, 2, none⟩ (.slice As ns cs)).setCell ⟨w.heap.size + 1, 3, none⟩ (.slice (some ⟨gH, 0, none⟩) n n)).setCell ⟨w.heap.size + 1, 4, none⟩ (.slice (some ⟨gF, 0, none⟩) n n)) = W6 at XH XF Y6 hB ⊢
    simp only [List.set_cons_zero, List.set_cons_succ] at Y6
    have Y6c0 : W6.cell? ⟨w.heap.size + 1, 0, none⟩ = some (.slice Aq nq cq) := Y6.cell 0
    have Y6c1 : W6.cell? ⟨w.heap.size + 1, 1, none⟩ = some (.slice Aa na ca) := Y6.cell 1
    have Y6c2 : W6.cell? ⟨w.heap.size + 1, 2, none⟩ = some (.slice As ns cs) := Y6.cell 2
    have Y6c3 : W6.cell? ⟨w.heap.size + 1, 3, none⟩ = some (.slice (some ⟨gH, 0, none⟩) n n) := Y6.cell 3
    have Y6c4 : W6.cell? ⟨w.heap.size + 1, 4, none⟩ = some (.slice (some ⟨gF, 0, none⟩) n n) := Y6.cell 4
    have hX := hx.out.later hB
    have hH := box_hd XH (by rw [List.length_set, hn.out]; unfold maxLen; omega)
    have hF := box_fr XF (by rw [List.length_set, hnf.out]; unfold maxLen; omega)
    rw [List.length_set, hn.out] at hH
    rw [List.length_set, hnf.out] at hF
    obtain rfl := hT.out
    refine bodyPost_ret (v := .agg #[.slice Aq nq cq, .slice Aa na ca, .slice As ns cs, .slice (some ⟨gH, 0, none⟩) n n, .slice (some ⟨gF, 0, none⟩) n n]) (by simp [results, Try.results48, go_sem, Y6c0, Y6c1, Y6c2, Y6c3, Y6c4]) rfl ?_
    exact ⟨_, _, _, _, _, _, _, _, _, _, _, _, _, _, _, rfl, ⟨hX.net, hX.sent, hH, hF⟩, hB, ⟨.inl rfl, .inl rfl, .inr (.inr ⟨_, _, _, _, rfl, hgW⟩)⟩⟩
end
section
attribute [local go_sem] Oper.semAt_some
set_option maxRecDepth 100000 in
set_option maxHeartbeats 4000000 in
theorem oDeliverV_any (b : Bx) (i : Int) (Aq Aa As Ah Af : Option Addr) (nq cq na ca ns cs n ch nf cf : Nat) (w : World) (hx : Hid (BxAt w w.heap.size (.slice Aq nq cq) (.slice Aa na ca) (.slice As ns cs) (.slice Ah n ch) (.slice Af nf cf) b)) (hns : Hid (b.sent.length = ns)) (hn : Hid (b.heard.length = n)) (hnf : Hid (b.fresh.length = nf)) {T : Bx × Bool × Int} (hT : Hid (b.deliverT i = T)) :
    Calls Try.prog 23 #[.agg #[.slice Aq nq cq, .slice Aa na ca, .slice As ns cs, .slice Ah n ch, .slice Af nf cf], .int .i64 i] w (RetDlvV T (.slice Aa na ca) (.slice As ns cs) (.slice Ah n ch) w) := by
  go_enter Try.func23, Try.ntmps23
  have hB := ((Below.refl w.heap.size w).alloc (Nat.le_refl _) (.cells #[.slice Aq nq cq, .slice Aa na ca, .slice As ns cs, .slice Ah n ch, .slice Af nf cf] 30)).alloc (by simp) (.cells #[.slice none 0 0, .slice none 0 0, .slice none 0 0, .slice none 0 0, .slice none 0 0] 30)
  have X2 := (Box.new w [.slice Aq nq cq, .slice Aa na ca, .slice As ns cs, .slice Ah n ch, .slice Af nf cf] 30).alloc (.cells #[.slice none 0 0, .slice none 0 0, .slice none 0 0, .slice none 0 0, .slice none 0 0] 30)
  have X4 := Box.newAt (w := w.alloc (.cells #[.slice Aq nq cq, .slice Aa na ca, .slice As ns cs, .slice Ah n ch, .slice Af nf cf] 30)) (n := w.heap.size + 1) [.slice none 0 0, .slice none 0 0, .slice none 0 0, .slice none 0 0, .slice none 0 0] 30 (by simp)
  go_upto_region 1 with fail
  generalize (w.alloc (.cells #[.slice Aq nq cq, .slice Aa na ca, .slice As ns cs, .slice Ah n ch, .slice Af nf cf] 30)).alloc (.cells #[.slice none 0 0, .slice none 0 0, .slice none 0 0, .slice none 0 0, .slice none 0 0] 30) = w1 at hB X2 X4 ⊢
  have z1 := X2.lt
  have X2c0 : w1.cell? ⟨w.heap.size, 0, none⟩ = some (.slice Aq nq cq) := X2.cell 0
  have X2c1 : w1.cell? ⟨w.heap.size, 1, none⟩ = some (.slice Aa na ca) := X2.cell 1
  have X2c2 : w1.cell? ⟨w.heap.size, 2, none⟩ = some (.slice As ns cs) := X2.cell 2
  have X2c3 : w1.cell? ⟨w.heap.size, 3, none⟩ = some (.slice Ah n ch) := X2.cell 3
  have X2c4 : w1.cell? ⟨w.heap.size, 4, none⟩ = some (.slice Af nf cf) := X2.cell 4
  obtain ⟨c, hc⟩ : ∃ c, Hid (b.checkT = c) := ⟨_, Lib.hid rfl⟩
  go_wp2_with fail
  refine (oCheck_is hc (hx.out.later hB)).mono ?_
  rintro e w2 ⟨rfl, hb⟩
  have hB := hB.trans (hb.mono hB.size)
  have X2 := X2.later hb
  have X4 := X4.later hb
  clear hb z1 X2c0 X2c1 X2c2 X2c3 X2c4
  by_cases h0 : c = 0
  rotate_left
  · have d0 : (c != 0) = true := by simp [h0]
    obtain rfl : T = (Bx.zero, false, c) := by rw [← hT.out]; exact deliver_bad hc.out h0
    have X4c0 : w2.cell? ⟨w.heap.size + 1, 0, none⟩ = some (.slice none 0 0) := X4.cell 0
    have X4f0 : w2.frozen? ⟨w.heap.size + 1, 0, none⟩ = false := X4.free 0
    have X4c1 : w2.cell? ⟨w.heap.size + 1, 1, none⟩ = some (.slice none 0 0) := X4.cell 1
    have X4f1 : w2.frozen? ⟨w.heap.size + 1, 1, none⟩ = false := X4.free 1
    have X4c2 : w2.cell? ⟨w.heap.size + 1, 2, none⟩ = some (.slice none 0 0) := X4.cell 2
    have X4f2 : w2.frozen? ⟨w.heap.size + 1, 2, none⟩ = false := X4.free 2
    have X4c3 : w2.cell? ⟨w.heap.size + 1, 3, none⟩ = some (.slice none 0 0) := X4.cell 3
    have X4f3 : w2.frozen? ⟨w.heap.size + 1, 3, none⟩ = false := X4.free 3
    have X4c4 : w2.cell? ⟨w.heap.size + 1, 4, none⟩ = some (.slice none 0 0) := X4.cell 4
    have X4f4 : w2.frozen? ⟨w.heap.size + 1, 4, none⟩ = false := X4.free 4
    have X4z : w.heap.size + 1 < w2.heap.size := X4.lt
    have Y4 := (((((X4.set 0 (.slice none 0 0)).set 1 (.slice none 0 0)).set 2 (.slice none 0 0)).set 3 (.slice none 0 0)).set 4 (.slice none 0 0))
    have hB2 := (((((hB.setCell (p := ⟨w.heap.size + 1, 0, none⟩) (by simp <;> omega) (.slice none 0 0)).setCell (p := ⟨w.heap.size + 1, 1, none⟩) (by simp <;> omega) (.slice none 0 0)).setCell (p := ⟨w.heap.size + 1, 2, none⟩) (by simp <;> omega) (.slice none 0 0)).setCell (p := ⟨w.heap.size + 1, 3, none⟩) (by simp <;> omega) (.slice none 0 0)).setCell (p := ⟨w.heap.size + 1, 4, none⟩) (by simp <;> omega) (.slice none 0 0))
    go_wp2
    clear X4c0 X4c1 X4c2 X4c3 X4c4 X4f0 X4f1 X4f2 X4f3 X4f4 X4z
    generalize (((((w2.setCell ⟨w.heap.size + 1, 0, none⟩ (.slice none 0 0)).setCell ⟨w.heap.size + 1, 1, none⟩ (.slice none 0 0)).setCell ⟨w.heap.size + 1, 2, none⟩ (.slice none 0 0)).setCell ⟨w.heap.size + 1, 3, none⟩ (.slice none 0 0)).setCell ⟨w.heap.size + 1, 4, none⟩ (.slice none 0 0)) = W8 at Y4 hB2 ⊢
    simp only [List.set_cons_zero, List.set_cons_succ] at Y4
    have Y4c0 : W8.cell? ⟨w.heap.size + 1, 0, none⟩ = some (.slice none 0 0) := Y4.cell 0
    have Y4c1 : W8.cell? ⟨w.heap.size + 1, 1, none⟩ = some (.slice none 0 0) := Y4.cell 1
    have Y4c2 : W8.cell? ⟨w.heap.size + 1, 2, none⟩ = some (.slice none 0 0) := Y4.cell 2
    have Y4c3 : W8.cell? ⟨w.heap.size + 1, 3, none⟩ = some (.slice none 0 0) := Y4.cell 3
    have Y4c4 : W8.cell? ⟨w.heap.size + 1, 4, none⟩ = some (.slice none 0 0) := Y4.cell 4
    refine bodyPost_ret (v := .tuple #[.agg #[.slice none 0 0, .slice none 0 0, .slice none 0 0, .slice none 0 0, .slice none 0 0], .bool false, .int .i64 c]) (by simp [results, Try.results23, go_sem, Y4c0, Y4c1, Y4c2, Y4c3, Y4c4]) rfl ?_
    exact ⟨_, _, _, _, _, rfl, bxAt_zero _ _, hB2, Nw3.zero _ _ _ _⟩
  subst h0
  have hok := check_ok hc.out
  have HOK := Lib.hid hok
  obtain ⟨hl1, -, hga, -, -⟩ := okB_parts hok
  have HGA := Lib.hid hga
  have hl1 := of_decide_eq_true hl1
  rw [hn.out, hns.out, hnf.out] at hl1
  obtain ⟨⟨hn1, hn8⟩, hl2', hn4⟩ := hl1
  obtain rfl : nf = n := hl2'
  obtain ⟨n, rfl⟩ : ∃ q, q = nf := ⟨_, rfl⟩
  clear hok hga
  have z1 := X2.lt
  have X2c0 : w2.cell? ⟨w.heap.size, 0, none⟩ = some (.slice Aq nq cq) := X2.cell 0
  have X2c1 : w2.cell? ⟨w.heap.size, 1, none⟩ = some (.slice Aa na ca) := X2.cell 1
  have X2c2 : w2.cell? ⟨w.heap.size, 2, none⟩ = some (.slice As ns cs) := X2.cell 2
  have X2c3 : w2.cell? ⟨w.heap.size, 3, none⟩ = some (.slice Ah n ch) := X2.cell 3
  have X2c4 : w2.cell? ⟨w.heap.size, 4, none⟩ = some (.slice Af n cf) := X2.cell 4
  have HN := Lib.hid (hx.out.net.later hB)
  go_wp2_with fail
  refine (nDeliverV_is b.net i HN).mono ?_
  rintro e w3 ⟨V, p, Vq, Va, m, er, rfl, hT2, hD2, hN2, hb, hv⟩
  obtain ⟨Aq2, nq2, cq2, Aa2, na2, ca2, rfl, rfl⟩ := hN2.out.form
  obtain ⟨Ad, cd, rfl, hdl⟩ := hD2.out.form
  have HM := hN2.out.at hb.size
  have HD := hD2.out.more hb.size
  have hB := hB.trans (hb.mono hB.size)
  have X2 := X2.later hb
  have X4 := X4.later hb
  clear hb z1 X2c0 X2c1 X2c2 X2c3 X2c4 hN2 HN hD2
  go_upto_region 5 with fail
  have hal := ((Below.refl w3.heap.size w3).alloc (Nat.le_refl _) (.cells #[.int .i64 p.src, .int .i64 p.dst, .slice Ad p.data.length cd] 51)).alloc (by simp) (.cells #[.slice Aq2 nq2 cq2, .slice Aa2 na2 ca2] 25)
  have X7 := (Box.new w3 [.int .i64 p.src, .int .i64 p.dst, .slice Ad p.data.length cd] 51).alloc (.cells #[.slice Aq2 nq2 cq2, .slice Aa2 na2 ca2] 25)
  have X8 := Box.newAt (w := w3.alloc (.cells #[.int .i64 p.src, .int .i64 p.dst, .slice Ad p.data.length cd] 51)) (n := w3.heap.size + 1) [.slice Aq2 nq2 cq2, .slice Aa2 na2 ca2] 25 (by simp)
  have z2 := X2.lt
  have z4 := X4.lt
  have X2 := X2.later hal
  have X4 := X4.later hal
  have hB := hB.trans (hal.mono hB.size)
  have HM1 := HM.below hal
  have HD1 := BytesAt.below HD hal
  have hDz := hal.size
  clear hal HM HD
  generalize (w3.alloc (.cells #[.int .i64 p.src, .int .i64 p.dst, .slice Ad p.data.length cd] 51)).alloc (.cells #[.slice Aq2 nq2 cq2, .slice Aa2 na2 ca2] 25) = W3 at X7 X8 X2 X4 hB HM1 HD1 hDz ⊢
  generalize w3.heap.size = D at X7 X8 HM1 HD1 hDz z2 z4 ⊢
  have hsn := deliver_net (b := b) (p := p) (m := m) (er := er) HOK.out hT2.out
  by_cases he : er = 0
  rotate_left
  · have d6 : (er != 0) = true := by simp [he]
    obtain rfl : T = (Bx.zero, false, er) := by rw [← hT.out]; exact hsn.trans (if_neg he)
    have X4c0 : W3.cell? ⟨w.heap.size + 1, 0, none⟩ = some (.slice none 0 0) := X4.cell 0
    have X4f0 : W3.frozen? ⟨w.heap.size + 1, 0, none⟩ = false := X4.free 0
    have X4c1 : W3.cell? ⟨w.heap.size + 1, 1, none⟩ = some (.slice none 0 0) := X4.cell 1
    have X4f1 : W3.frozen? ⟨w.heap.size + 1, 1, none⟩ = false := X4.free 1
    have X4c2 : W3.cell? ⟨w.heap.size + 1, 2, none⟩ = some (.slice none 0 0) := X4.cell 2
    have X4f2 : W3.frozen? ⟨w.heap.size + 1, 2, none⟩ = false := X4.free 2
    have X4c3 : W3.cell? ⟨w.heap.size + 1, 3, none⟩ = some (.slice none 0 0) := X4.cell 3
    have X4f3 : W3.frozen? ⟨w.heap.size + 1, 3, none⟩ = false := X4.free 3
    have X4c4 : W3.cell? ⟨w.heap.size + 1, 4, none⟩ = some (.slice none 0 0) := X4.cell 4
    have X4f4 : W3.frozen? ⟨w.heap.size + 1, 4, none⟩ = false := X4.free 4
    have X4z : w.heap.size + 1 < W3.heap.size := X4.lt
    have Y4 := (((((X4.set 0 (.slice none 0 0)).set 1 (.slice none 0 0)).set 2 (.slice none 0 0)).set 3 (.slice none 0 0)).set 4 (.slice none 0 0))
    have hB2 := (((((hB.setCell (p := ⟨w.heap.size + 1, 0, none⟩) (by simp <;> omega) (.slice none 0 0)).setCell (p := ⟨w.heap.size + 1, 1, none⟩) (by simp <;> omega) (.slice none 0 0)).setCell (p := ⟨w.heap.size + 1, 2, none⟩) (by simp <;> omega) (.slice none 0 0)).setCell (p := ⟨w.heap.size + 1, 3, none⟩) (by simp <;> omega) (.slice none 0 0)).setCell (p := ⟨w.heap.size + 1, 4, none⟩) (by simp <;> omega) (.slice none 0 0))
    go_wp2
    clear X4c0 X4c1 X4c2 X4c3 X4c4 X4f0 X4f1 X4f2 X4f3 X4f4 X4z
    generalize (((((W3.setCell ⟨w.heap.size + 1, 0, none⟩ (.slice none 0 0)).setCell ⟨w.heap.size + 1, 1, none⟩ (.slice none 0 0)).setCell ⟨w.heap.size + 1, 2, none⟩ (.slice none 0 0)).setCell ⟨w.heap.size + 1, 3, none⟩ (.slice none 0 0)).setCell ⟨w.heap.size + 1, 4, none⟩ (.slice none 0 0)) = W8 at Y4 hB2 ⊢
    simp only [List.set_cons_zero, List.set_cons_succ] at Y4
    have Y4c0 : W8.cell? ⟨w.heap.size + 1, 0, none⟩ = some (.slice none 0 0) := Y4.cell 0
    have Y4c1 : W8.cell? ⟨w.heap.size + 1, 1, none⟩ = some (.slice none 0 0) := Y4.cell 1
    have Y4c2 : W8.cell? ⟨w.heap.size + 1, 2, none⟩ = some (.slice none 0 0) := Y4.cell 2
    have Y4c3 : W8.cell? ⟨w.heap.size + 1, 3, none⟩ = some (.slice none 0 0) := Y4.cell 3
    have Y4c4 : W8.cell? ⟨w.heap.size + 1, 4, none⟩ = some (.slice none 0 0) := Y4.cell 4
    refine bodyPost_ret (v := .tuple #[.agg #[.slice none 0 0, .slice none 0 0, .slice none 0 0, .slice none 0 0, .slice none 0 0], .bool false, .int .i64 er]) (by simp [results, Try.results23, go_sem, Y4c0, Y4c1, Y4c2, Y4c3, Y4c4]) rfl ?_
    exact ⟨_, _, _, _, _, rfl, bxAt_zero _ _, hB2, Nw3.zero _ _ _ _⟩
  subst he
  have hTh : T = ((b.hear p m).1, (b.hear p m).2, 0) := by rw [← hT.out]; exact hsn.trans (if_pos rfl)
  have HTH := Lib.hid hTh
  obtain ⟨hd32, hpk⟩ := deliver_ok HOK.out hT2.out hdl
  have HPK := Lib.hid hpk
  clear hsn hTh hpk
  have X2c0 : W3.cell? ⟨w.heap.size, 0, none⟩ = some (.slice Aq nq cq) := X2.cell 0
  have X2f0 : W3.frozen? ⟨w.heap.size, 0, none⟩ = false := X2.free 0
  have X2c1 : W3.cell? ⟨w.heap.size, 1, none⟩ = some (.slice Aa na ca) := X2.cell 1
  have X2f1 : W3.frozen? ⟨w.heap.size, 1, none⟩ = false := X2.free 1
  have X2c2 : W3.cell? ⟨w.heap.size, 2, none⟩ = some (.slice As ns cs) := X2.cell 2
  have X2f2 : W3.frozen? ⟨w.heap.size, 2, none⟩ = false := X2.free 2
  have X2c3 : W3.cell? ⟨w.heap.size, 3, none⟩ = some (.slice Ah n ch) := X2.cell 3
  have X2f3 : W3.frozen? ⟨w.heap.size, 3, none⟩ = false := X2.free 3
  have X2c4 : W3.cell? ⟨w.heap.size, 4, none⟩ = some (.slice Af n cf) := X2.cell 4
  have X2f4 : W3.frozen? ⟨w.heap.size, 4, none⟩ = false := X2.free 4
  have X2z : w.heap.size < W3.heap.size := X2.lt
  have X8c0 : W3.cell? ⟨D + 1, 0, none⟩ = some (.slice Aq2 nq2 cq2) := X8.cell 0
  have X8c1 : W3.cell? ⟨D + 1, 1, none⟩ = some (.slice Aa2 na2 ca2) := X8.cell 1
  have z8 := X8.lt
  go_upto_region 8 with fail
  clear X2c0 X2c1 X2c2 X2c3 X2c4 X2f0 X2f1 X2f2 X2f3 X2f4 X2z X8c0 X8c1 z8
  obtain ⟨HM2, -⟩ := HM1.set2 (SlBox.of X2 (by simp)) Aq2 Aa2 nq2 cq2 na2 ca2
  have HD2 := (HD1.setS (SlBox.of X2 (by simp)) 0 (.slice Aq2 nq2 cq2)).setS ((SlBox.of X2 (by simp)).set 0 Aq2 nq2 cq2) 1 (.slice Aa2 na2 ca2)
  have X2 := (X2.set 0 (.slice Aq2 nq2 cq2)).set 1 (.slice Aa2 na2 ca2)
  have X4 := (X4.other (a := ⟨w.heap.size, 0, none⟩) (by simp <;> omega) (.slice Aq2 nq2 cq2)).other (a := ⟨w.heap.size, 1, none⟩) (by simp <;> omega) (.slice Aa2 na2 ca2)
  have X7 := (X7.other (a := ⟨w.heap.size, 0, none⟩) (by simp <;> omega) (.slice Aq2 nq2 cq2)).other (a := ⟨w.heap.size, 1, none⟩) (by simp <;> omega) (.slice Aa2 na2 ca2)
  have hB := (hB.setCell (p := ⟨w.heap.size, 0, none⟩) (by simp) (.slice Aq2 nq2 cq2)).setCell (p := ⟨w.heap.size, 1, none⟩) (by simp) (.slice Aa2 na2 ca2)
  have hsz2 : D ≤ ((W3.setCell ⟨w.heap.size, 0, none⟩ (.slice Aq2 nq2 cq2)).setCell ⟨w.heap.size, 1, none⟩ (.slice Aa2 na2 ca2)).heap.size := by simp; omega
  clear X8
  generalize (W3.setCell ⟨w.heap.size, 0, none⟩ (.slice Aq2 nq2 cq2)).setCell ⟨w.heap.size, 1, none⟩ (.slice Aa2 na2 ca2) = W4 at X2 X4 X7 hB HM2 HD2 hsz2 ⊢
  simp only [List.set_cons_zero, List.set_cons_succ] at X2
  have hX := hx.out.later hB
  have HX : BxAt W4 W4.heap.size (.slice Aq2 nq2 cq2) (.slice Aa2 na2 ca2) (.slice As ns cs) (.slice Ah n ch) (.slice Af n cf) ⟨m, b.sent, b.heard, b.fresh⟩ := ⟨HM2.more hsz2, hX.sent, hX.heard, hX.fresh⟩
  clear hX
  obtain ⟨u, hu⟩ : ∃ u, Hid (numberT p.data = u) := ⟨_, Lib.hid rfl⟩
  have x72 : W4.cell? ⟨D, 2, none⟩ = some (.slice Ad p.data.length cd) := X7.cell 2
  have z7 := X7.lt
  go_wp2_with fail
  refine (oNumber_is hu (HD2.more hsz2) (by omega)).mono ?_
  rintro e W5 ⟨rfl, hb⟩
  have hB := hB.trans (hb.mono hB.size)
  have HX := HX.later hb
  have X2 := X2.later hb
  have X4 := X4.later hb
  have X7 := X7.later hb
  clear hb x72 z7 HM2 HD2 hsz2 z2 z4
  have x71 : W5.cell? ⟨D, 1, none⟩ = some (.int .i64 p.dst) := X7.cell 1
  have z7 := X7.lt
  rcases HPK.out with ⟨hp1, hp2, hp3⟩ | ⟨g, hp1, hgn, hp2, hp3, hp4, -⟩
  · obtain rfl : T = (⟨m, b.sent, b.heard, b.fresh⟩, false, 0) := by rw [HTH.out, hear_none (fun h => by rw [hp1] at h; omega)]
    have d7 : decide ((0 : Int) < p.dst) = false := by rw [hp1]; decide
    have X2c0 : W5.cell? ⟨w.heap.size, 0, none⟩ = some (.slice Aq2 nq2 cq2) := X2.cell 0
    have X2c1 : W5.cell? ⟨w.heap.size, 1, none⟩ = some (.slice Aa2 na2 ca2) := X2.cell 1
    have X2c2 : W5.cell? ⟨w.heap.size, 2, none⟩ = some (.slice As ns cs) := X2.cell 2
    have X2c3 : W5.cell? ⟨w.heap.size, 3, none⟩ = some (.slice Ah n ch) := X2.cell 3
    have X2c4 : W5.cell? ⟨w.heap.size, 4, none⟩ = some (.slice Af n cf) := X2.cell 4
    have z1 := X2.lt
    have X4c0 : W5.cell? ⟨w.heap.size + 1, 0, none⟩ = some (.slice none 0 0) := X4.cell 0
    have X4f0 : W5.frozen? ⟨w.heap.size + 1, 0, none⟩ = false := X4.free 0
    have X4c1 : W5.cell? ⟨w.heap.size + 1, 1, none⟩ = some (.slice none 0 0) := X4.cell 1
    have X4f1 : W5.frozen? ⟨w.heap.size + 1, 1, none⟩ = false := X4.free 1
    have X4c2 : W5.cell? ⟨w.heap.size + 1, 2, none⟩ = some (.slice none 0 0) := X4.cell 2
    have X4f2 : W5.frozen? ⟨w.heap.size + 1, 2, none⟩ = false := X4.free 2
    have X4c3 : W5.cell? ⟨w.heap.size + 1, 3, none⟩ = some (.slice none 0 0) := X4.cell 3
    have X4f3 : W5.frozen? ⟨w.heap.size + 1, 3, none⟩ = false := X4.free 3
    have X4c4 : W5.cell? ⟨w.heap.size + 1, 4, none⟩ = some (.slice none 0 0) := X4.cell 4
    have X4f4 : W5.frozen? ⟨w.heap.size + 1, 4, none⟩ = false := X4.free 4
    have X4z : w.heap.size + 1 < W5.heap.size := X4.lt
    go_wp2
    have HX5 := HX.set5 (SlBox.of X4 (by simp)) Aq2 Aa2 As Ah Af nq2 cq2 na2 ca2 ns cs n ch n cf
    have Y4 := (((((X4.set 0 (.slice Aq2 nq2 cq2)).set 1 (.slice Aa2 na2 ca2)).set 2 (.slice As ns cs)).set 3 (.slice Ah n ch)).set 4 (.slice Af n cf))
    have hB := (((((hB.setCell (p := ⟨w.heap.size + 1, 0, none⟩) (by simp <;> omega) (.slice Aq2 nq2 cq2)).setCell (p := ⟨w.heap.size + 1, 1, none⟩) (by simp <;> omega) (.slice Aa2 na2 ca2)).setCell (p := ⟨w.heap.size + 1, 2, none⟩) (by simp <;> omega) (.slice As ns cs)).setCell (p := ⟨w.heap.size + 1, 3, none⟩) (by simp <;> omega) (.slice Ah n ch)).setCell (p := ⟨w.heap.size + 1, 4, none⟩) (by simp <;> omega) (.slice Af n cf))
    have hsz : W5.heap.size ≤ (((((W5.setCell ⟨w.heap.size + 1, 0, none⟩ (.slice Aq2 nq2 cq2)).setCell ⟨w.heap.size + 1, 1, none⟩ (.slice Aa2 na2 ca2)).setCell ⟨w.heap.size + 1, 2, none⟩ (.slice As ns cs)).setCell ⟨w.heap.size + 1, 3, none⟩ (.slice Ah n ch)).setCell ⟨w.heap.size + 1, 4, none⟩ (.slice Af n cf)).heap.size := by simp
    clear X2c0 X2c1 X2c2 X2c3 X2c4 X4c0 X4c1 X4c2 X4c3 X4c4 X4f0 X4f1 X4f2 X4f3 X4f4 X4z
    generalize (((((W5.setCell ⟨w.heap.size + 1, 0, none⟩ (.slice Aq2 nq2 cq2)).setCell ⟨w.heap.size + 1, 1, none⟩ (.slice Aa2 na2 ca2)).setCell ⟨w.heap.size + 1, 2, none⟩ (.slice As ns cs)).setCell ⟨w.heap.size + 1, 3, none⟩ (.slice Ah n ch)).setCell ⟨w.heap.size + 1, 4, none⟩ (.slice Af n cf)) = W9 at Y4 hB HX5 hsz ⊢
    simp only [List.set_cons_zero, List.set_cons_succ] at Y4
    have Y4c0 : W9.cell? ⟨w.heap.size + 1, 0, none⟩ = some (.slice Aq2 nq2 cq2) := Y4.cell 0
    have Y4c1 : W9.cell? ⟨w.heap.size + 1, 1, none⟩ = some (.slice Aa2 na2 ca2) := Y4.cell 1
    have Y4c2 : W9.cell? ⟨w.heap.size + 1, 2, none⟩ = some (.slice As ns cs) := Y4.cell 2
    have Y4c3 : W9.cell? ⟨w.heap.size + 1, 3, none⟩ = some (.slice Ah n ch) := Y4.cell 3
    have Y4c4 : W9.cell? ⟨w.heap.size + 1, 4, none⟩ = some (.slice Af n cf) := Y4.cell 4
    refine bodyPost_ret (v := .tuple #[.agg #[.slice Aq2 nq2 cq2, .slice Aa2 na2 ca2, .slice As ns cs, .slice Ah n ch, .slice Af n cf], .bool false, .int .i64 0]) (by simp [results, Try.results23, go_sem, Y4c0, Y4c1, Y4c2, Y4c3, Y4c4]) rfl ?_
    exact ⟨_, _, _, _, _, rfl, HX5.more hsz, hB, ⟨hv.b _, .inl rfl, .inl rfl⟩⟩
  have d7 : decide ((0 : Int) < p.dst) = true := decide_eq_true (by omega)
  rw [hu.out, hns.out] at hp4
  rw [hu.out] at hp3
  have hgn2 : g < n := by rw [← hn.out]; exact hgn
  obtain ⟨bh, oh, rfl, hbh, ck⟩ := hx.out.heard.2.one (k := g) (by rw [hn.out]; exact hgn2)
  replace ck : W5.cell? ⟨bh, oh + g, none⟩ = some (.int .i64 (b.h g)) := (hB.cell hbh).trans ck
  have hbz := Nat.lt_of_lt_of_le hbh hB.size
  have x23 : W5.cell? ⟨w.heap.size, 3, none⟩ = some (.slice (some ⟨bh, oh, none⟩) n ch) := X2.cell 3
  have z1 := X2.lt
  have hsub : p.dst - 1 = (g : Int) := by omega
  have hw1 : wrap64 (p.dst - 1) = (g : Int) := by rw [hsub]; unfold wrap64; omega
  have hw2 : IntKind.i64.wrap (p.dst - 1) = (g : Int) := by rw [hsub]; exact wrapO (by omega) (by omega)
  have hgi : (g : Int) < (n : Int) := by omega
  have HSUB := Lib.hid hsub
  have HP1 := Lib.hid hp1
  have HHS := Lib.hid (fun h : b.h g ≤ u => hear_some (b := b) (p := p) (m := m) HP1.out (by rw [hu.out]; exact h))
  have HHN := Lib.hid (fun h : ¬ b.h g ≤ u => hear_no (b := b) (p := p) (m := m) HP1.out (by rw [hu.out]; exact h))
  clear hsub hp1
  obtain ⟨hg9, hhg⟩ : ∃ q, Hid (b.h g = q) := ⟨_, Lib.hid rfl⟩
  rw [hhg.out] at ck HHS HHN
  by_cases hle : hg9 ≤ u
  rotate_left
  · obtain rfl : T = (⟨m, b.sent, b.heard, b.fresh⟩, false, 0) := by rw [HTH.out, HHN.out hle]
    have d8 : decide (hg9 ≤ u) = false := decide_eq_false hle
    have X2c0 : W5.cell? ⟨w.heap.size, 0, none⟩ = some (.slice Aq2 nq2 cq2) := X2.cell 0
    have X2c1 : W5.cell? ⟨w.heap.size, 1, none⟩ = some (.slice Aa2 na2 ca2) := X2.cell 1
    have X2c2 : W5.cell? ⟨w.heap.size, 2, none⟩ = some (.slice As ns cs) := X2.cell 2
    have X2c3 : W5.cell? ⟨w.heap.size, 3, none⟩ = some (.slice (some ⟨bh, oh, none⟩) n ch) := X2.cell 3
    have X2c4 : W5.cell? ⟨w.heap.size, 4, none⟩ = some (.slice Af n cf) := X2.cell 4
    have z1 := X2.lt
    have X4c0 : W5.cell? ⟨w.heap.size + 1, 0, none⟩ = some (.slice none 0 0) := X4.cell 0
    have X4f0 : W5.frozen? ⟨w.heap.size + 1, 0, none⟩ = false := X4.free 0
    have X4c1 : W5.cell? ⟨w.heap.size + 1, 1, none⟩ = some (.slice none 0 0) := X4.cell 1
    have X4f1 : W5.frozen? ⟨w.heap.size + 1, 1, none⟩ = false := X4.free 1
    have X4c2 : W5.cell? ⟨w.heap.size + 1, 2, none⟩ = some (.slice none 0 0) := X4.cell 2
    have X4f2 : W5.frozen? ⟨w.heap.size + 1, 2, none⟩ = false := X4.free 2
    have X4c3 : W5.cell? ⟨w.heap.size + 1, 3, none⟩ = some (.slice none 0 0) := X4.cell 3
    have X4f3 : W5.frozen? ⟨w.heap.size + 1, 3, none⟩ = false := X4.free 3
    have X4c4 : W5.cell? ⟨w.heap.size + 1, 4, none⟩ = some (.slice none 0 0) := X4.cell 4
    have X4f4 : W5.frozen? ⟨w.heap.size + 1, 4, none⟩ = false := X4.free 4
    have X4z : w.heap.size + 1 < W5.heap.size := X4.lt
    go_wp2
    have HX5 := HX.set5 (SlBox.of X4 (by simp)) Aq2 Aa2 As (some ⟨bh, oh, none⟩) Af nq2 cq2 na2 ca2 ns cs n ch n cf
    have Y4 := (((((X4.set 0 (.slice Aq2 nq2 cq2)).set 1 (.slice Aa2 na2 ca2)).set 2 (.slice As ns cs)).set 3 (.slice (some ⟨bh, oh, none⟩) n ch)).set 4 (.slice Af n cf))
    have hB := (((((hB.setCell (p := ⟨w.heap.size + 1, 0, none⟩) (by simp <;> omega) (.slice Aq2 nq2 cq2)).setCell (p := ⟨w.heap.size + 1, 1, none⟩) (by simp <;> omega) (.slice Aa2 na2 ca2)).setCell (p := ⟨w.heap.size + 1, 2, none⟩) (by simp <;> omega) (.slice As ns cs)).setCell (p := ⟨w.heap.size + 1, 3, none⟩) (by simp <;> omega) (.slice (some ⟨bh, oh, none⟩) n ch)).setCell (p := ⟨w.heap.size + 1, 4, none⟩) (by simp <;> omega) (.slice Af n cf))
    have hsz : W5.heap.size ≤ (((((W5.setCell ⟨w.heap.size + 1, 0, none⟩ (.slice Aq2 nq2 cq2)).setCell ⟨w.heap.size + 1, 1, none⟩ (.slice Aa2 na2 ca2)).setCell ⟨w.heap.size + 1, 2, none⟩ (.slice As ns cs)).setCell ⟨w.heap.size + 1, 3, none⟩ (.slice (some ⟨bh, oh, none⟩) n ch)).setCell ⟨w.heap.size + 1, 4, none⟩ (.slice Af n cf)).heap.size := by simp
    clear X2c0 X2c1 X2c2 X2c3 X2c4 X4c0 X4c1 X4c2 X4c3 X4c4 X4f0 X4f1 X4f2 X4f3 X4f4 X4z
    generalize (((((W5.setCell ⟨w.heap.size + 1, 0, none⟩ (.slice Aq2 nq2 cq2)).setCell ⟨w.heap.size + 1, 1, none⟩ (.slice Aa2 na2 ca2)).setCell ⟨w.heap.size + 1, 2, none⟩ (.slice As ns cs)).setCell ⟨w.heap.size + 1, 3, none⟩ (.slice (some ⟨bh, oh, none⟩) n ch)).setCell ⟨w.heap.size + 1, 4, none⟩ (.slice Af n cf)) = W9 at Y4 hB HX5 hsz ⊢
    simp only [List.set_cons_zero, List.set_cons_succ] at Y4
    have Y4c0 : W9.cell? ⟨w.heap.size + 1, 0, none⟩ = some (.slice Aq2 nq2 cq2) := Y4.cell 0
    have Y4c1 : W9.cell? ⟨w.heap.size + 1, 1, none⟩ = some (.slice Aa2 na2 ca2) := Y4.cell 1
    have Y4c2 : W9.cell? ⟨w.heap.size + 1, 2, none⟩ = some (.slice As ns cs) := Y4.cell 2
    have Y4c3 : W9.cell? ⟨w.heap.size + 1, 3, none⟩ = some (.slice (some ⟨bh, oh, none⟩) n ch) := Y4.cell 3
    have Y4c4 : W9.cell? ⟨w.heap.size + 1, 4, none⟩ = some (.slice Af n cf) := Y4.cell 4
    refine bodyPost_ret (v := .tuple #[.agg #[.slice Aq2 nq2 cq2, .slice Aa2 na2 ca2, .slice As ns cs, .slice (some ⟨bh, oh, none⟩) n ch, .slice Af n cf], .bool false, .int .i64 0]) (by simp [results, Try.results23, go_sem, Y4c0, Y4c1, Y4c2, Y4c3, Y4c4]) rfl ?_
    exact ⟨_, _, _, _, _, rfl, HX5.more hsz, hB, ⟨hv.b _, .inl rfl, .inl rfl⟩⟩
  have d8 : decide (hg9 ≤ u) = true := decide_eq_true hle
  obtain rfl : T = (⟨m, b.sent, b.heard.set g (u + 1), b.fresh.set g true⟩, true, 0) := by rw [HTH.out, HHS.out hle, hu.out]
  go_upto_region 10 with fail
  have X2c0 : W5.cell? ⟨w.heap.size, 0, none⟩ = some (.slice Aq2 nq2 cq2) := X2.cell 0
  have X2c1 : W5.cell? ⟨w.heap.size, 1, none⟩ = some (.slice Aa2 na2 ca2) := X2.cell 1
  have X2c2 : W5.cell? ⟨w.heap.size, 2, none⟩ = some (.slice As ns cs) := X2.cell 2
  have X2c3 : W5.cell? ⟨w.heap.size, 3, none⟩ = some (.slice (some ⟨bh, oh, none⟩) n ch) := X2.cell 3
  have X2c4 : W5.cell? ⟨w.heap.size, 4, none⟩ = some (.slice Af n cf) := X2.cell 4
  go_wp2_with fail
  refine (oHearV_any ⟨m, b.sent, b.heard, b.fresh⟩ g u _ _ _ _ _ _ _ _ _ _ _ _ _ _ W5 (Lib.hid HX) hn hnf hn8 hgn2 (by omega) (Lib.hid rfl)).mono ?_
  rintro e W6 ⟨Aq3, nq3, cq3, Aa3, na3, ca3, As3, ns3, cs3, Ah3, n3, ch3, Af3, nf3, cf3, rfl, HX6, hb, h3⟩
  have h3 := h3.mono hB.size
  have hB := hB.trans (hb.mono hB.size)
  have X4 := X4.later hb
  clear hb X2c0 X2c1 X2c2 X2c3 X2c4 ck x23 x71 z7 z1 X2 X7 HX
  have X4c0 : W6.cell? ⟨w.heap.size + 1, 0, none⟩ = some (.slice none 0 0) := X4.cell 0
  have X4f0 : W6.frozen? ⟨w.heap.size + 1, 0, none⟩ = false := X4.free 0
  have X4c1 : W6.cell? ⟨w.heap.size + 1, 1, none⟩ = some (.slice none 0 0) := X4.cell 1
  have X4f1 : W6.frozen? ⟨w.heap.size + 1, 1, none⟩ = false := X4.free 1
  have X4c2 : W6.cell? ⟨w.heap.size + 1, 2, none⟩ = some (.slice none 0 0) := X4.cell 2
  have X4f2 : W6.frozen? ⟨w.heap.size + 1, 2, none⟩ = false := X4.free 2
  have X4c3 : W6.cell? ⟨w.heap.size + 1, 3, none⟩ = some (.slice none 0 0) := X4.cell 3
  have X4f3 : W6.frozen? ⟨w.heap.size + 1, 3, none⟩ = false := X4.free 3
  have X4c4 : W6.cell? ⟨w.heap.size + 1, 4, none⟩ = some (.slice none 0 0) := X4.cell 4
  have X4f4 : W6.frozen? ⟨w.heap.size + 1, 4, none⟩ = false := X4.free 4
  have X4z : w.heap.size + 1 < W6.heap.size := X4.lt
  go_wp2
  have HX5 := HX6.set5 (SlBox.of X4 (by simp)) Aq3 Aa3 As3 Ah3 Af3 nq3 cq3 na3 ca3 ns3 cs3 n3 ch3 nf3 cf3
  have Y4 := (((((X4.set 0 (.slice Aq3 nq3 cq3)).set 1 (.slice Aa3 na3 ca3)).set 2 (.slice As3 ns3 cs3)).set 3 (.slice Ah3 n3 ch3)).set 4 (.slice Af3 nf3 cf3))
  have hB := (((((hB.setCell (p := ⟨w.heap.size + 1, 0, none⟩) (by simp <;> omega) (.slice Aq3 nq3 cq3)).setCell (p := ⟨w.heap.size + 1, 1, none⟩) (by simp <;> omega) (.slice Aa3 na3 ca3)).setCell (p := ⟨w.heap.size + 1, 2, none⟩) (by simp <;> omega) (.slice As3 ns3 cs3)).setCell (p := ⟨w.heap.size + 1, 3, none⟩) (by simp <;> omega) (.slice Ah3 n3 ch3)).setCell (p := ⟨w.heap.size + 1, 4, none⟩) (by simp <;> omega) (.slice Af3 nf3 cf3))
  have hsz : W6.heap.size ≤ (((((W6.setCell ⟨w.heap.size + 1, 0, none⟩ (.slice Aq3 nq3 cq3)).setCell ⟨w.heap.size + 1, 1, none⟩ (.slice Aa3 na3 ca3)).setCell ⟨w.heap.size + 1, 2, none⟩ (.slice As3 ns3 cs3)).setCell ⟨w.heap.size + 1, 3, none⟩ (.slice Ah3 n3 ch3)).setCell ⟨w.heap.size + 1, 4, none⟩ (.slice Af3 nf3 cf3)).heap.size := by simp
  clear X4c0 X4c1 X4c2 X4c3 X4c4 X4f0 X4f1 X4f2 X4f3 X4f4 X4z
  generalize (((((W6.setCell ⟨w.heap.size + 1, 0, none⟩ (.slice Aq3 nq3 cq3)).setCell ⟨w.heap.size + 1, 1, none⟩ (.slice Aa3 na3 ca3)).setCell ⟨w.heap.size + 1, 2, none⟩ (.slice As3 ns3 cs3)).setCell ⟨w.heap.size + 1, 3, none⟩ (.slice Ah3 n3 ch3)).setCell ⟨w.heap.size + 1, 4, none⟩ (.slice Af3 nf3 cf3)) = W9 at Y4 hB HX5 hsz ⊢
  simp only [List.set_cons_zero, List.set_cons_succ] at Y4
  have Y4c0 : W9.cell? ⟨w.heap.size + 1, 0, none⟩ = some (.slice Aq3 nq3 cq3) := Y4.cell 0
  have Y4c1 : W9.cell? ⟨w.heap.size + 1, 1, none⟩ = some (.slice Aa3 na3 ca3) := Y4.cell 1
  have Y4c2 : W9.cell? ⟨w.heap.size + 1, 2, none⟩ = some (.slice As3 ns3 cs3) := Y4.cell 2
  have Y4c3 : W9.cell? ⟨w.heap.size + 1, 3, none⟩ = some (.slice Ah3 n3 ch3) := Y4.cell 3
  have Y4c4 : W9.cell? ⟨w.heap.size + 1, 4, none⟩ = some (.slice Af3 nf3 cf3) := Y4.cell 4
  refine bodyPost_ret (v := .tuple #[.agg #[.slice Aq3 nq3 cq3, .slice Aa3 na3 ca3, .slice As3 ns3 cs3, .slice Ah3 n3 ch3, .slice Af3 nf3 cf3], .bool true, .int .i64 0]) (by simp [results, Try.results23, go_sem, Y4c0, Y4c1, Y4c2, Y4c3, Y4c4]) rfl ?_
  exact ⟨_, _, _, _, _, rfl, HX5.more hsz, hB, ⟨(hv.b _).trans h3.1, h3.2.1, h3.2.2⟩⟩
end
end Go.Proofs.Ytmbifmmkccghfaa

/-
  Few of orders. (Printed by gen_rx.py and pp.py.) No condition.
-/
namespace Go.Proofs.Ytmbifmmkccghfaa
open Go.RowKit Go.Shelf
attribute [local go_sem] Oper.semAt_some

end Go.Proofs.Ytmbifmmkccghfaa

/-
  SameInts of the reference. (Printed by pp.py.) No condition.
-/
namespace Go.Proofs.Ytmbifmmkccghfaa
open Go.RowKit Go.Shelf
attribute [local go_sem] Oper.semAt_some

theorem ints_eq {l m : List Int} {n : Nat} (e1 : l.length = n) (e2 : m.length = n) (h : ∀ j, j < n → l.getD j 0 = m.getD j 0) : l = m := by
  apply List.ext_getElem (by omega)
  intro j h1 h2
  have := h j (by omega)
  rw [gd_at h1, gd_at h2] at this
  exact this
set_option maxRecDepth 100000 in
set_option maxHeartbeats 4000000 in
theorem rSameInts_any (A1 A2 : Option Addr) (n1 c1 n2 c2 : Nat) (l m : List Int) (w : World) (h1 : Hid (HdAt w w.heap.size (.slice A1 n1 c1) l)) (h2 : Hid (HdAt w w.heap.size (.slice A2 n2 c2) m)) (e1 : Hid (l.length = n1)) (e2 : Hid (m.length = n2)) (m1 : n1 ≤ 9223372036854775807) (m2 : n2 ≤ 9223372036854775807) {T : Bool} (hT : Hid (decide (l = m) = T)) :
    Calls Try.prog 19 #[.slice A1 n1 c1, .slice A2 n2 c2] w fun e w' => e = .returned (.bool T) ∧ Below w.heap.size w w' := by
  go_enter Try.func19, Try.ntmps19
  have hB := Below.refl w.heap.size w
  by_cases hne : n1 = n2
  rotate_left
  · have d0 : ((n1 : Int) != (n2 : Int)) = true := by simp; omega
    obtain rfl : T = false := by rw [← hT.out]; exact decide_eq_false (fun h => hne (by rw [← e1.out, ← e2.out, h]))
    go_wp2
    go_ret
    exact ⟨rfl, hB⟩
  subst hne
  have d0 : ((n1 : Int) != (n1 : Int)) = false := by simp
  go_upto_region 4 with fail
  clear d0
  go_loopw [5] (fun i wr => ∃ k : Nat, k ≤ n1 ∧ i = .int .i64 k ∧ Below w.heap.size w wr ∧ Hid (∀ j, j < k → l.getD j 0 = m.getD j 0)) (fun i _ => n1 - (intOf i).toNat)
  case atStart => exact ⟨0, by omega, rfl, hB, Lib.hid (fun j hj => by omega)⟩
  case round =>
    clear hB
    obtain ⟨k, hk, rfl, hB, hall⟩ := hrel
    obtain ⟨wo, rfl⟩ : ∃ wo : World, wo = wr := ⟨_, rfl⟩
    rcases Nat.lt_or_ge k n1 with hlt | hge
    rotate_left
    · obtain rfl : n1 = k := by omega
      have hlm : ¬ ((n1 : Int) < (n1 : Int)) := by omega
      obtain rfl : T = true := by rw [← hT.out]; exact decide_eq_true (ints_eq e1.out e2.out hall.out)
      go_wp2
      go_ret
      exact ⟨rfl, hB⟩
    have hlm : (k : Int) < (n1 : Int) := by omega
    obtain ⟨b1, o1, rfl, hb1, k1⟩ := h1.out.2.one (k := k) (by rw [e1.out]; exact hlt)
    obtain ⟨b2, o2, rfl, hb2, k2⟩ := h2.out.2.one (k := k) (by rw [e2.out]; exact hlt)
    have k1 := (hB.cell hb1).trans k1
    have k2 := (hB.cell hb2).trans k2
    have z1 := Nat.lt_of_lt_of_le hb1 hB.size
    have z2 := Nat.lt_of_lt_of_le hb2 hB.size
    have hbad : l.getD k 0 ≠ m.getD k 0 → T = false := fun h => by rw [← hT.out]; exact decide_eq_false (fun h9 => h (by rw [h9]))
    have hgood : l.getD k 0 = m.getD k 0 → ∀ j, j < k + 1 → l.getD j 0 = m.getD j 0 := fun h j hj => by
      rcases Nat.lt_or_ge j k with h9 | h9
      · exact hall.out j h9
      · obtain rfl : j = k := by omega
        exact h
    generalize l.getD k 0 = u at k1 hbad hgood
    generalize m.getD k 0 = v at k2 hbad hgood
    have HBAD := Lib.hid hbad
    have HG := Lib.hid hgood
    clear hbad hgood hall
    by_cases huv : u = v
    · subst huv
      have hg := Lib.hid (HG.out rfl)
      have d1 : (u != u) = false := by simp
      go_upto_region 6 with fail
      go_region
      go_wp2
      exact ⟨⟨k + 1, by omega, by go_num, hB.drew, hg⟩, by simp [intOf]; omega⟩
    · obtain rfl : T = false := HBAD.out huv
      have d1 : (u != v) = true := by simp [huv]
      go_upto_region 6 with fail
      go_region
      go_wp2
      go_ret
      exact ⟨rfl, hB.drew⟩
end Go.Proofs.Ytmbifmmkccghfaa

/-
  Same of orders, at two equal boxes. (Printed by gen_se.py and pp.py.) No condition.
-/
namespace Go.Proofs.Ytmbifmmkccghfaa
open Go.RowKit Go.Shelf
attribute [local go_sem] Oper.semAt_some

end Go.Proofs.Ytmbifmmkccghfaa

/-
  Rows of one cell an element, copied by append and stored into. No condition.
-/
namespace Go.Proofs.Ytmbifmmkccghfaa
open Go.RowKit

abbrev OwnX {α : Type} (enc : α → Value) (w : World) (base e : Nat) (V : Value) (l : List α) : Prop := OwnE (fun x => [enc x]) 1 w base e V l
theorem OwnX.put {α : Type} {enc : α → Value} {w : World} {base e g k c : Nat} {l : List α} (h : OwnX enc w base e (.slice (some ⟨g, 0, none⟩) k c) l) (hl : l.length = k) (j : Nat) (x : α) :
    OwnX enc (w.setCell ⟨g, j, none⟩ (enc x)) base e (.slice (some ⟨g, 0, none⟩) k c) (l.set j x) := by
  have e1 : ∀ l : List α, l.flatMap (fun x => [enc x]) = l.map enc := fun l => by
    induction l with
    | nil => rfl
    | cons x l ih => simp [List.flatMap_cons, ih]
  subst hl
  have := own_set (i := j) h (enc x)
  unfold OwnX OwnE
  rw [e1, List.length_set, List.map_set, ← e1]
  exact this
theorem OwnX.fr {w : World} {base : Nat} {V : Value} {l : List Bool} (h : OwnX Value.bool w base 4 V l) (hl : l.length ≤ maxLen) : FrAt w w.heap.size V l := by
  refine ⟨ownE_cap h, ?_⟩
  obtain ⟨A, c, hv, hc⟩ := OwnE.sl h (fun _ => rfl)
  refine ⟨A, c, hv, hl, fun k hk => ?_⟩
  obtain ⟨b, rfl, _, hb, h2⟩ := hc k hk
  refine ⟨b, 0, rfl, hb, fun j hj => ?_⟩
  obtain rfl : j = 0 := by omega
  rw [Nat.zero_add, h2 0 (by omega)]
  simp [hk]
end Go.Proofs.Ytmbifmmkccghfaa

/-
  Deliver of the reference. (Printed by gen_ru.py and pp.py.) No condition.
-/
namespace Go.Proofs.Ytmbifmmkccghfaa
open Go.RowKit Go.Shelf
attribute [local go_sem] Oper.semAt_some
attribute [local go_sem ↓ high] app_named

end Go.Proofs.Ytmbifmmkccghfaa
