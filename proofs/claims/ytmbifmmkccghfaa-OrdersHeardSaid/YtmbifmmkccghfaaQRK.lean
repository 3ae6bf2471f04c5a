/- New of both. (Printed by gen_rk.py and pp.py.) No condition. -/
import Derived.Test.YtmbifmmkccghfaaQRE
import Derived.Test.YtmbifmmkccghfaaQNR
set_option linter.unusedVariables false
set_option linter.unusedSimpArgs false
namespace Go.Proofs.Ytmbifmmkccghfaa
open Go.RowKit Go.Shelf
attribute [local go_sem] Oper.semAt_some

section
variable {P : Program} {ops : Array Oper} {md : Region.Mode} {N : Act → World → Prop} {C : World → Prop}
theorem anyC_oneW {n i : Nat} {listed : Array Bool} {a : Act} {w : World} (hr : Region.ready md ops listed = [i]) (hC : C w)
    (h1 : wpOp P ops (Nrm N) i (anyC P md ops N C (n - 1) (listed.setIfInBounds i true)) a w) (hn : 1 ≤ n := by decide) : anyC P md ops N C n listed a w := by
  obtain ⟨m, rfl⟩ : ∃ m, n = m + 1 := ⟨n - 1, by omega⟩
  refine ⟨hC, fun h0 => (by rw [h0] at hr; cases hr), fun x hx => ?_⟩
  rw [hr, List.mem_singleton] at hx
  subst hx
  exact h1
theorem anyC_twoW {n i j : Nat} {listed : Array Bool} {a : Act} {w : World} (hr : Region.ready md ops listed = [i, j]) (hC : C w)
    (h1 : wpOp P ops (Nrm N) i (anyC P md ops N C (n - 1) (listed.setIfInBounds i true)) a w) (h2 : wpOp P ops (Nrm N) j (anyC P md ops N C (n - 1) (listed.setIfInBounds j true)) a w) (hn : 1 ≤ n := by decide) : anyC P md ops N C n listed a w := by
  obtain ⟨m, rfl⟩ : ∃ m, n = m + 1 := ⟨n - 1, by omega⟩
  refine ⟨hC, fun h0 => (by rw [h0] at hr; cases hr), fun x hx => ?_⟩
  rw [hr] at hx
  simp only [List.mem_cons, List.not_mem_nil, or_false] at hx
  rcases hx with rfl | rfl
  · exact h1
  · exact h2
theorem anyC_threeW {n i j k : Nat} {listed : Array Bool} {a : Act} {w : World} (hr : Region.ready md ops listed = [i, j, k]) (hC : C w)
    (h1 : wpOp P ops (Nrm N) i (anyC P md ops N C (n - 1) (listed.setIfInBounds i true)) a w) (h2 : wpOp P ops (Nrm N) j (anyC P md ops N C (n - 1) (listed.setIfInBounds j true)) a w)
    (h3 : wpOp P ops (Nrm N) k (anyC P md ops N C (n - 1) (listed.setIfInBounds k true)) a w) (hn : 1 ≤ n := by decide) : anyC P md ops N C n listed a w := by
  obtain ⟨m, rfl⟩ : ∃ m, n = m + 1 := ⟨n - 1, by omega⟩
  refine ⟨hC, fun h0 => (by rw [h0] at hr; cases hr), fun x hx => ?_⟩
  rw [hr] at hx
  simp only [List.mem_cons, List.not_mem_nil, or_false] at hx
  rcases hx with rfl | rfl | rfl
  · exact h1
  · exact h2
  · exact h3
end
theorem new_made {w : World} {gH gF k : Nat} (h : Box w gH (List.replicate k (Value.int .i64 0))) (f : Box w gF (List.replicate k (Value.bool false))) (hk : k ≤ 8) : BxAt w w.heap.size (.slice none 0 0) (.slice none 0 0) (.slice none 0 0) (.slice (some ⟨gH, 0, none⟩) k k) (.slice (some ⟨gF, 0, none⟩) k k) ⟨Net.zero, [], List.replicate (k : Int).toNat 0, List.replicate (k : Int).toNat false⟩ := by
  have h1 := box_hd (l := List.replicate k 0) (by rw [List.map_replicate]; exact h) (by rw [List.length_replicate]; unfold maxLen; omega)
  have h2 := box_fr (l := List.replicate k false) (by rw [List.map_replicate]; exact f) (by rw [List.length_replicate]; unfold maxLen; omega)
  rw [List.length_replicate] at h1 h2
  exact ⟨netAt_zero _ _, lksAt_nil _ _, h1, h2⟩
set_option maxRecDepth 100000 in
set_option maxHeartbeats 4000000 in
theorem oNew_any (n : Int) (w : World) {T : Bx × Int} (hT : Hid (newB n = T)) : Calls Try.prog 10 #[.int .i64 n] w (RetBx T.1 #[.int .i64 T.2] w) := by
  go_enter Try.func10, Try.ntmps10
  have X2 := Box.new w [.slice none 0 0, .slice none 0 0, .slice none 0 0, .slice none 0 0, .slice none 0 0] 30
  have hB := (Below.refl w.heap.size w).alloc (Nat.le_refl _) (.cells #[.slice none 0 0, .slice none 0 0, .slice none 0 0, .slice none 0 0, .slice none 0 0] 30)
  go_upto_region 1 with fail
  generalize w.alloc (.cells #[.slice none 0 0, .slice none 0 0, .slice none 0 0, .slice none 0 0, .slice none 0 0] 30) = w1 at X2 hB ⊢
  have hz := X2.lt
  by_cases h1 : n < 1
  · have d1 : decide (n < 1) = true := decide_eq_true h1
    obtain rfl : T = (Bx.zero, 1) := by rw [← hT.out, newB, if_neg (by omega)]
    have X2c0 : w1.cell? ⟨w.heap.size, 0, none⟩ = some (.slice none 0 0) := X2.cell 0
    have X2f0 : w1.frozen? ⟨w.heap.size, 0, none⟩ = false := X2.free 0
    have X2c1 : w1.cell? ⟨w.heap.size, 1, none⟩ = some (.slice none 0 0) := X2.cell 1
    have X2f1 : w1.frozen? ⟨w.heap.size, 1, none⟩ = false := X2.free 1
    have X2c2 : w1.cell? ⟨w.heap.size, 2, none⟩ = some (.slice none 0 0) := X2.cell 2
    have X2f2 : w1.frozen? ⟨w.heap.size, 2, none⟩ = false := X2.free 2
    have X2c3 : w1.cell? ⟨w.heap.size, 3, none⟩ = some (.slice none 0 0) := X2.cell 3
    have X2f3 : w1.frozen? ⟨w.heap.size, 3, none⟩ = false := X2.free 3
    have X2c4 : w1.cell? ⟨w.heap.size, 4, none⟩ = some (.slice none 0 0) := X2.cell 4
    have X2f4 : w1.frozen? ⟨w.heap.size, 4, none⟩ = false := X2.free 4
    have X2z : w.heap.size < w1.heap.size := X2.lt
    have Y2 := (((((X2.set 0 (.slice none 0 0)).set 1 (.slice none 0 0)).set 2 (.slice none 0 0)).set 3 (.slice none 0 0)).set 4 (.slice none 0 0))
    have hB2 := (((((hB.setCell (p := ⟨w.heap.size, 0, none⟩) (by simp <;> omega) (.slice none 0 0)).setCell (p := ⟨w.heap.size, 1, none⟩) (by simp <;> omega) (.slice none 0 0)).setCell (p := ⟨w.heap.size, 2, none⟩) (by simp <;> omega) (.slice none 0 0)).setCell (p := ⟨w.heap.size, 3, none⟩) (by simp <;> omega) (.slice none 0 0)).setCell (p := ⟨w.heap.size, 4, none⟩) (by simp <;> omega) (.slice none 0 0))
    go_wp2
    clear X2c0 X2c1 X2c2 X2c3 X2c4 X2f0 X2f1 X2f2 X2f3 X2f4 X2z
    generalize (((((w1.setCell ⟨w.heap.size, 0, none⟩ (.slice none 0 0)).setCell ⟨w.heap.size, 1, none⟩ (.slice none 0 0)).setCell ⟨w.heap.size, 2, none⟩ (.slice none 0 0)).setCell ⟨w.heap.size, 3, none⟩ (.slice none 0 0)).setCell ⟨w.heap.size, 4, none⟩ (.slice none 0 0)) = W at Y2 hB2 ⊢
    simp only [List.set_cons_zero, List.set_cons_succ] at Y2
    have Y2c0 : W.cell? ⟨w.heap.size, 0, none⟩ = some (.slice none 0 0) := Y2.cell 0
    have Y2c1 : W.cell? ⟨w.heap.size, 1, none⟩ = some (.slice none 0 0) := Y2.cell 1
    have Y2c2 : W.cell? ⟨w.heap.size, 2, none⟩ = some (.slice none 0 0) := Y2.cell 2
    have Y2c3 : W.cell? ⟨w.heap.size, 3, none⟩ = some (.slice none 0 0) := Y2.cell 3
    have Y2c4 : W.cell? ⟨w.heap.size, 4, none⟩ = some (.slice none 0 0) := Y2.cell 4
    refine bodyPost_ret (v := .tuple #[.agg #[.slice none 0 0, .slice none 0 0, .slice none 0 0, .slice none 0 0, .slice none 0 0], .int .i64 1]) (by simp [results, Try.results10, go_sem, Y2c0, Y2c1, Y2c2, Y2c3, Y2c4]) rfl ?_
    exact ⟨_, _, _, _, _, rfl, bxAt_zero _ _, hB2⟩
  have d1 : decide (n < 1) = false := decide_eq_false h1
  by_cases h2 : 8 < n
  · have d2 : decide (8 < n) = true := decide_eq_true h2
    obtain rfl : T = (Bx.zero, 1) := by rw [← hT.out, newB, if_neg (by omega)]
    have X2c0 : w1.cell? ⟨w.heap.size, 0, none⟩ = some (.slice none 0 0) := X2.cell 0
    have X2f0 : w1.frozen? ⟨w.heap.size, 0, none⟩ = false := X2.free 0
    have X2c1 : w1.cell? ⟨w.heap.size, 1, none⟩ = some (.slice none 0 0) := X2.cell 1
    have X2f1 : w1.frozen? ⟨w.heap.size, 1, none⟩ = false := X2.free 1
    have X2c2 : w1.cell? ⟨w.heap.size, 2, none⟩ = some (.slice none 0 0) := X2.cell 2
    have X2f2 : w1.frozen? ⟨w.heap.size, 2, none⟩ = false := X2.free 2
    have X2c3 : w1.cell? ⟨w.heap.size, 3, none⟩ = some (.slice none 0 0) := X2.cell 3
    have X2f3 : w1.frozen? ⟨w.heap.size, 3, none⟩ = false := X2.free 3
    have X2c4 : w1.cell? ⟨w.heap.size, 4, none⟩ = some (.slice none 0 0) := X2.cell 4
    have X2f4 : w1.frozen? ⟨w.heap.size, 4, none⟩ = false := X2.free 4
    have X2z : w.heap.size < w1.heap.size := X2.lt
    have Y2 := (((((X2.set 0 (.slice none 0 0)).set 1 (.slice none 0 0)).set 2 (.slice none 0 0)).set 3 (.slice none 0 0)).set 4 (.slice none 0 0))
    have hB2 := (((((hB.setCell (p := ⟨w.heap.size, 0, none⟩) (by simp <;> omega) (.slice none 0 0)).setCell (p := ⟨w.heap.size, 1, none⟩) (by simp <;> omega) (.slice none 0 0)).setCell (p := ⟨w.heap.size, 2, none⟩) (by simp <;> omega) (.slice none 0 0)).setCell (p := ⟨w.heap.size, 3, none⟩) (by simp <;> omega) (.slice none 0 0)).setCell (p := ⟨w.heap.size, 4, none⟩) (by simp <;> omega) (.slice none 0 0))
    go_wp2
    clear X2c0 X2c1 X2c2 X2c3 X2c4 X2f0 X2f1 X2f2 X2f3 X2f4 X2z
    generalize (((((w1.setCell ⟨w.heap.size, 0, none⟩ (.slice none 0 0)).setCell ⟨w.heap.size, 1, none⟩ (.slice none 0 0)).setCell ⟨w.heap.size, 2, none⟩ (.slice none 0 0)).setCell ⟨w.heap.size, 3, none⟩ (.slice none 0 0)).setCell ⟨w.heap.size, 4, none⟩ (.slice none 0 0)) = W at Y2 hB2 ⊢
    simp only [List.set_cons_zero, List.set_cons_succ] at Y2
    have Y2c0 : W.cell? ⟨w.heap.size, 0, none⟩ = some (.slice none 0 0) := Y2.cell 0
    have Y2c1 : W.cell? ⟨w.heap.size, 1, none⟩ = some (.slice none 0 0) := Y2.cell 1
    have Y2c2 : W.cell? ⟨w.heap.size, 2, none⟩ = some (.slice none 0 0) := Y2.cell 2
    have Y2c3 : W.cell? ⟨w.heap.size, 3, none⟩ = some (.slice none 0 0) := Y2.cell 3
    have Y2c4 : W.cell? ⟨w.heap.size, 4, none⟩ = some (.slice none 0 0) := Y2.cell 4
    refine bodyPost_ret (v := .tuple #[.agg #[.slice none 0 0, .slice none 0 0, .slice none 0 0, .slice none 0 0, .slice none 0 0], .int .i64 1]) (by simp [results, Try.results10, go_sem, Y2c0, Y2c1, Y2c2, Y2c3, Y2c4]) rfl ?_
    exact ⟨_, _, _, _, _, rfl, bxAt_zero _ _, hB2⟩
  have d2 : decide (8 < n) = false := decide_eq_false h2
  obtain ⟨k, rfl⟩ : ∃ k : Nat, n = (k : Int) := ⟨n.toNat, by omega⟩
  obtain rfl : T = (⟨Net.zero, [], List.replicate (k : Int).toNat 0, List.replicate (k : Int).toNat false⟩, 0) := by rw [← hT.out, newB, if_pos (by omega)]
  have hk8 : k ≤ 8 := by omega
  have hk10 : k ≤ 1024 := by omega
  go_upto_region 3 with fail
  clear d1 d2 h1 h2
  refine wp_region_heads (C := fun _ => True) [1, 3] (by kernel_rfl) (by kernel_rfl) trivial (fun _ _ h => h) ?_
  simp only [headOps, List.filterMap_cons, List.filterMap_nil, List.getElem?_toArray, List.getElem?_cons_succ, List.getElem?_cons_zero]
  repeat (first | go_big_quiet_skip | (show wpQuiet _ _ _ _ (_ :: _) _; go_big_quiet_skip) | (show wpQuiet _ _ _ _ (_ :: _) _; go_big_quiet_want; go_big_quiet_op; go_big_quiet_on))
  refine wpQuiet_nil ?_
  have X2 := X2.drew
  have hB := hB.drew
  clear hz
  generalize w1.drew = W0 at X2 hB ⊢
  refine anyC_threeW (C := fun _ : World => True) (n := 6) (i := 0) (j := 2) (k := 4) (by kernel_rfl) trivial ?_ ?_ ?_
  · refine wpOp_callD (some 11) (by rfl) rfl rfl ?_ ((nNew_any W0).mono ?_)
    · go_simp
    rintro e W1 ⟨rfl, hb⟩
    refine ⟨_, rfl, ?_⟩
    simp only [Act.put, List.setIfInBounds_toArray, List.set_cons_zero, List.set_cons_succ]
    have hB := hB.trans (hb.mono hB.size)
    have X2 := X2.later hb
    refine anyC_twoW (C := fun _ : World => True) (n := 5) (i := 2) (j := 4) (by kernel_rfl) trivial ?_ ?_
    · have hmk := oMakeI k hk10 W1
      refine wpOp_valD (some 13) (v := .slice (some ⟨W1.heap.size, 0, none⟩) k k) (w' := W1.alloc (.cells (List.replicate k (Value.int .i64 0)).toArray 3)) (by rfl) rfl rfl ?_ ?_
      · go_simp
      simp only [Act.put, List.setIfInBounds_toArray, List.set_cons_zero, List.set_cons_succ]
      clear hmk
      have hb := (Below.refl W1.heap.size W1).alloc (Nat.le_refl _) (.cells (List.replicate k (Value.int .i64 0)).toArray 3)
      have XH := Box.new W1 (List.replicate k (Value.int .i64 0)) 3
      have hB := hB.trans (hb.mono hB.size)
      have hg2 : w.heap.size < W1.heap.size := X2.lt
      have X2 := X2.later hb
      clear hb
      generalize W1.alloc (.cells (List.replicate k (Value.int .i64 0)).toArray 3) = W2 at hB X2 XH ⊢
      generalize W1.heap.size = g2 at XH hg2 ⊢
      refine anyC_oneW (C := fun _ : World => True) (n := 4) (i := 4) (by kernel_rfl) trivial ?_
      · have hmk := oMakeB k hk10 W2
        refine wpOp_valD (some 15) (v := .slice (some ⟨W2.heap.size, 0, none⟩) k k) (w' := W2.alloc (.cells (List.replicate k (Value.bool false)).toArray 4)) (by rfl) rfl rfl ?_ ?_
        · go_simp
        simp only [Act.put, List.setIfInBounds_toArray, List.set_cons_zero, List.set_cons_succ]
        clear hmk
        have hb := (Below.refl W2.heap.size W2).alloc (Nat.le_refl _) (.cells (List.replicate k (Value.bool false)).toArray 4)
        have XF := Box.new W2 (List.replicate k (Value.bool false)) 4
        have hB := hB.trans (hb.mono hB.size)
        have hg3 : w.heap.size < W2.heap.size := X2.lt
        have X2 := X2.later hb
        have XH := XH.later hb
        clear hb
        generalize W2.alloc (.cells (List.replicate k (Value.bool false)).toArray 4) = W3 at hB X2 XH XF ⊢
        generalize W2.heap.size = g3 at XF hg3 ⊢
        refine anyC_valD (some 16) (n := 2) (i := 5) (v := .agg #[.slice none 0 0, .slice none 0 0, .slice none 0 0, .slice (some ⟨g2, 0, none⟩) k k, .slice (some ⟨g3, 0, none⟩) k k]) (w' := W3) (by kernel_rfl) rfl rfl rfl trivial (by first | rfl | go_simp) ?_
        simp only [Act.put, List.setIfInBounds_toArray, List.set_cons_zero, List.set_cons_succ]
        have X2c0 : W3.cell? ⟨w.heap.size, 0, none⟩ = some (.slice none 0 0) := X2.cell 0
        have X2f0 : W3.frozen? ⟨w.heap.size, 0, none⟩ = false := X2.free 0
        have X2c1 : W3.cell? ⟨w.heap.size, 1, none⟩ = some (.slice none 0 0) := X2.cell 1
        have X2f1 : W3.frozen? ⟨w.heap.size, 1, none⟩ = false := X2.free 1
        have X2c2 : W3.cell? ⟨w.heap.size, 2, none⟩ = some (.slice none 0 0) := X2.cell 2
        have X2f2 : W3.frozen? ⟨w.heap.size, 2, none⟩ = false := X2.free 2
        have X2c3 : W3.cell? ⟨w.heap.size, 3, none⟩ = some (.slice none 0 0) := X2.cell 3
        have X2f3 : W3.frozen? ⟨w.heap.size, 3, none⟩ = false := X2.free 3
        have X2c4 : W3.cell? ⟨w.heap.size, 4, none⟩ = some (.slice none 0 0) := X2.cell 4
        have X2f4 : W3.frozen? ⟨w.heap.size, 4, none⟩ = false := X2.free 4
        have X2z : w.heap.size < W3.heap.size := X2.lt
        refine anyC_storeN (w' := (((((W3.setCell ⟨w.heap.size, 0, none⟩ (.slice none 0 0)).setCell ⟨w.heap.size, 1, none⟩ (.slice none 0 0)).setCell ⟨w.heap.size, 2, none⟩ (.slice none 0 0)).setCell ⟨w.heap.size, 3, none⟩ (.slice (some ⟨g2, 0, none⟩) k k)).setCell ⟨w.heap.size, 4, none⟩ (.slice (some ⟨g3, 0, none⟩) k k))) (n := 1) (i := 6) (by kernel_rfl) rfl rfl rfl trivial ?_ ?_
        · go_simp
        have Y2 := (((((X2.set 0 (.slice none 0 0)).set 1 (.slice none 0 0)).set 2 (.slice none 0 0)).set 3 (.slice (some ⟨g2, 0, none⟩) k k)).set 4 (.slice (some ⟨g3, 0, none⟩) k k))
        have YH := (((((XH.other (a := ⟨w.heap.size, 0, none⟩) (by simp <;> omega) (.slice none 0 0)).other (a := ⟨w.heap.size, 1, none⟩) (by simp <;> omega) (.slice none 0 0)).other (a := ⟨w.heap.size, 2, none⟩) (by simp <;> omega) (.slice none 0 0)).other (a := ⟨w.heap.size, 3, none⟩) (by simp <;> omega) (.slice (some ⟨g2, 0, none⟩) k k)).other (a := ⟨w.heap.size, 4, none⟩) (by simp <;> omega) (.slice (some ⟨g3, 0, none⟩) k k))
        have YF := (((((XF.other (a := ⟨w.heap.size, 0, none⟩) (by simp <;> omega) (.slice none 0 0)).other (a := ⟨w.heap.size, 1, none⟩) (by simp <;> omega) (.slice none 0 0)).other (a := ⟨w.heap.size, 2, none⟩) (by simp <;> omega) (.slice none 0 0)).other (a := ⟨w.heap.size, 3, none⟩) (by simp <;> omega) (.slice (some ⟨g2, 0, none⟩) k k)).other (a := ⟨w.heap.size, 4, none⟩) (by simp <;> omega) (.slice (some ⟨g3, 0, none⟩) k k))
        have hB2 := (((((hB.setCell (p := ⟨w.heap.size, 0, none⟩) (by simp <;> omega) (.slice none 0 0)).setCell (p := ⟨w.heap.size, 1, none⟩) (by simp <;> omega) (.slice none 0 0)).setCell (p := ⟨w.heap.size, 2, none⟩) (by simp <;> omega) (.slice none 0 0)).setCell (p := ⟨w.heap.size, 3, none⟩) (by simp <;> omega) (.slice (some ⟨g2, 0, none⟩) k k)).setCell (p := ⟨w.heap.size, 4, none⟩) (by simp <;> omega) (.slice (some ⟨g3, 0, none⟩) k k))
        generalize (((((W3.setCell ⟨w.heap.size, 0, none⟩ (.slice none 0 0)).setCell ⟨w.heap.size, 1, none⟩ (.slice none 0 0)).setCell ⟨w.heap.size, 2, none⟩ (.slice none 0 0)).setCell ⟨w.heap.size, 3, none⟩ (.slice (some ⟨g2, 0, none⟩) k k)).setCell ⟨w.heap.size, 4, none⟩ (.slice (some ⟨g3, 0, none⟩) k k)) = W9 at Y2 YH YF hB2 ⊢
        simp only [List.set_cons_zero, List.set_cons_succ] at Y2
        refine anyC_valD (some 3) (n := 0) (i := 7) (v := .int .i64 0) (w' := W9) (by kernel_rfl) rfl rfl rfl trivial (by first | rfl | go_simp) ?_
        simp only [Act.put, List.setIfInBounds_toArray, List.set_cons_zero, List.set_cons_succ]
        refine anyC_done (by kernel_rfl) trivial ?_
        have Y2c0 : W9.cell? ⟨w.heap.size, 0, none⟩ = some (.slice none 0 0) := Y2.cell 0
        have Y2c1 : W9.cell? ⟨w.heap.size, 1, none⟩ = some (.slice none 0 0) := Y2.cell 1
        have Y2c2 : W9.cell? ⟨w.heap.size, 2, none⟩ = some (.slice none 0 0) := Y2.cell 2
        have Y2c3 : W9.cell? ⟨w.heap.size, 3, none⟩ = some (.slice (some ⟨g2, 0, none⟩) k k) := Y2.cell 3
        have Y2c4 : W9.cell? ⟨w.heap.size, 4, none⟩ = some (.slice (some ⟨g3, 0, none⟩) k k) := Y2.cell 4
        go_wp2
        refine bodyPost_ret (v := .tuple #[.agg #[.slice none 0 0, .slice none 0 0, .slice none 0 0, .slice (some ⟨g2, 0, none⟩) k k, .slice (some ⟨g3, 0, none⟩) k k], .int .i64 0]) (by simp [results, Try.results10, go_sem, Y2c0, Y2c1, Y2c2, Y2c3, Y2c4]) rfl ?_
        exact ⟨_, _, _, _, _, rfl, new_made YH YF hk8, hB2⟩
    · have hmk := oMakeB k hk10 W1
      refine wpOp_valD (some 15) (v := .slice (some ⟨W1.heap.size, 0, none⟩) k k) (w' := W1.alloc (.cells (List.replicate k (Value.bool false)).toArray 4)) (by rfl) rfl rfl ?_ ?_
      · go_simp
      simp only [Act.put, List.setIfInBounds_toArray, List.set_cons_zero, List.set_cons_succ]
      clear hmk
      have hb := (Below.refl W1.heap.size W1).alloc (Nat.le_refl _) (.cells (List.replicate k (Value.bool false)).toArray 4)
      have XF := Box.new W1 (List.replicate k (Value.bool false)) 4
      have hB := hB.trans (hb.mono hB.size)
      have hg2 : w.heap.size < W1.heap.size := X2.lt
      have X2 := X2.later hb
      clear hb
      generalize W1.alloc (.cells (List.replicate k (Value.bool false)).toArray 4) = W2 at hB X2 XF ⊢
      generalize W1.heap.size = g2 at XF hg2 ⊢
      refine anyC_oneW (C := fun _ : World => True) (n := 4) (i := 2) (by kernel_rfl) trivial ?_
      · have hmk := oMakeI k hk10 W2
        refine wpOp_valD (some 13) (v := .slice (some ⟨W2.heap.size, 0, none⟩) k k) (w' := W2.alloc (.cells (List.replicate k (Value.int .i64 0)).toArray 3)) (by rfl) rfl rfl ?_ ?_
        · go_simp
        simp only [Act.put, List.setIfInBounds_toArray, List.set_cons_zero, List.set_cons_succ]
        clear hmk
        have hb := (Below.refl W2.heap.size W2).alloc (Nat.le_refl _) (.cells (List.replicate k (Value.int .i64 0)).toArray 3)
        have XH := Box.new W2 (List.replicate k (Value.int .i64 0)) 3
        have hB := hB.trans (hb.mono hB.size)
        have hg3 : w.heap.size < W2.heap.size := X2.lt
        have X2 := X2.later hb
        have XF := XF.later hb
        clear hb
        generalize W2.alloc (.cells (List.replicate k (Value.int .i64 0)).toArray 3) = W3 at hB X2 XH XF ⊢
        generalize W2.heap.size = g3 at XH hg3 ⊢
        refine anyC_valD (some 16) (n := 2) (i := 5) (v := .agg #[.slice none 0 0, .slice none 0 0, .slice none 0 0, .slice (some ⟨g3, 0, none⟩) k k, .slice (some ⟨g2, 0, none⟩) k k]) (w' := W3) (by kernel_rfl) rfl rfl rfl trivial (by first | rfl | go_simp) ?_
        simp only [Act.put, List.setIfInBounds_toArray, List.set_cons_zero, List.set_cons_succ]
        have X2c0 : W3.cell? ⟨w.heap.size, 0, none⟩ = some (.slice none 0 0) := X2.cell 0
        have X2f0 : W3.frozen? ⟨w.heap.size, 0, none⟩ = false := X2.free 0
        have X2c1 : W3.cell? ⟨w.heap.size, 1, none⟩ = some (.slice none 0 0) := X2.cell 1
        have X2f1 : W3.frozen? ⟨w.heap.size, 1, none⟩ = false := X2.free 1
        have X2c2 : W3.cell? ⟨w.heap.size, 2, none⟩ = some (.slice none 0 0) := X2.cell 2
        have X2f2 : W3.frozen? ⟨w.heap.size, 2, none⟩ = false := X2.free 2
        have X2c3 : W3.cell? ⟨w.heap.size, 3, none⟩ = some (.slice none 0 0) := X2.cell 3
        have X2f3 : W3.frozen? ⟨w.heap.size, 3, none⟩ = false := X2.free 3
        have X2c4 : W3.cell? ⟨w.heap.size, 4, none⟩ = some (.slice none 0 0) := X2.cell 4
        have X2f4 : W3.frozen? ⟨w.heap.size, 4, none⟩ = false := X2.free 4
        have X2z : w.heap.size < W3.heap.size := X2.lt
        refine anyC_storeN (w' := (((((W3.setCell ⟨w.heap.size, 0, none⟩ (.slice none 0 0)).setCell ⟨w.heap.size, 1, none⟩ (.slice none 0 0)).setCell ⟨w.heap.size, 2, none⟩ (.slice none 0 0)).setCell ⟨w.heap.size, 3, none⟩ (.slice (some ⟨g3, 0, none⟩) k k)).setCell ⟨w.heap.size, 4, none⟩ (.slice (some ⟨g2, 0, none⟩) k k))) (n := 1) (i := 6) (by kernel_rfl) rfl rfl rfl trivial ?_ ?_
        · go_simp
        have Y2 := (((((X2.set 0 (.slice none 0 0)).set 1 (.slice none 0 0)).set 2 (.slice none 0 0)).set 3 (.slice (some ⟨g3, 0, none⟩) k k)).set 4 (.slice (some ⟨g2, 0, none⟩) k k))
        have YH := (((((XH.other (a := ⟨w.heap.size, 0, none⟩) (by simp <;> omega) (.slice none 0 0)).other (a := ⟨w.heap.size, 1, none⟩) (by simp <;> omega) (.slice none 0 0)).other (a := ⟨w.heap.size, 2, none⟩) (by simp <;> omega) (.slice none 0 0)).other (a := ⟨w.heap.size, 3, none⟩) (by simp <;> omega) (.slice (some ⟨g3, 0, none⟩) k k)).other (a := ⟨w.heap.size, 4, none⟩) (by simp <;> omega) (.slice (some ⟨g2, 0, none⟩) k k))
        have YF := (((((XF.other (a := ⟨w.heap.size, 0, none⟩) (by simp <;> omega) (.slice none 0 0)).other (a := ⟨w.heap.size, 1, none⟩) (by simp <;> omega) (.slice none 0 0)).other (a := ⟨w.heap.size, 2, none⟩) (by simp <;> omega) (.slice none 0 0)).other (a := ⟨w.heap.size, 3, none⟩) (by simp <;> omega) (.slice (some ⟨g3, 0, none⟩) k k)).other (a := ⟨w.heap.size, 4, none⟩) (by simp <;> omega) (.slice (some ⟨g2, 0, none⟩) k k))
        have hB2 := (((((hB.setCell (p := ⟨w.heap.size, 0, none⟩) (by simp <;> omega) (.slice none 0 0)).setCell (p := ⟨w.heap.size, 1, none⟩) (by simp <;> omega) (.slice none 0 0)).setCell (p := ⟨w.heap.size, 2, none⟩) (by simp <;> omega) (.slice none 0 0)).setCell (p := ⟨w.heap.size, 3, none⟩) (by simp <;> omega) (.slice (some ⟨g3, 0, none⟩) k k)).setCell (p := ⟨w.heap.size, 4, none⟩) (by simp <;> omega) (.slice (some ⟨g2, 0, none⟩) k k))
        generalize (((((W3.setCell ⟨w.heap.size, 0, none⟩ (.slice none 0 0)).setCell ⟨w.heap.size, 1, none⟩ (.slice none 0 0)).setCell ⟨w.heap.size, 2, none⟩ (.slice none 0 0)).setCell ⟨w.heap.size, 3, none⟩ (.slice (some ⟨g3, 0, none⟩) k k)).setCell ⟨w.heap.size, 4, none⟩ (.slice (some ⟨g2, 0, none⟩) k k)) = W9 at Y2 YH YF hB2 ⊢
        simp only [List.set_cons_zero, List.set_cons_succ] at Y2
        refine anyC_valD (some 3) (n := 0) (i := 7) (v := .int .i64 0) (w' := W9) (by kernel_rfl) rfl rfl rfl trivial (by first | rfl | go_simp) ?_
        simp only [Act.put, List.setIfInBounds_toArray, List.set_cons_zero, List.set_cons_succ]
        refine anyC_done (by kernel_rfl) trivial ?_
        have Y2c0 : W9.cell? ⟨w.heap.size, 0, none⟩ = some (.slice none 0 0) := Y2.cell 0
        have Y2c1 : W9.cell? ⟨w.heap.size, 1, none⟩ = some (.slice none 0 0) := Y2.cell 1
        have Y2c2 : W9.cell? ⟨w.heap.size, 2, none⟩ = some (.slice none 0 0) := Y2.cell 2
        have Y2c3 : W9.cell? ⟨w.heap.size, 3, none⟩ = some (.slice (some ⟨g3, 0, none⟩) k k) := Y2.cell 3
        have Y2c4 : W9.cell? ⟨w.heap.size, 4, none⟩ = some (.slice (some ⟨g2, 0, none⟩) k k) := Y2.cell 4
        go_wp2
        refine bodyPost_ret (v := .tuple #[.agg #[.slice none 0 0, .slice none 0 0, .slice none 0 0, .slice (some ⟨g3, 0, none⟩) k k, .slice (some ⟨g2, 0, none⟩) k k], .int .i64 0]) (by simp [results, Try.results10, go_sem, Y2c0, Y2c1, Y2c2, Y2c3, Y2c4]) rfl ?_
        exact ⟨_, _, _, _, _, rfl, new_made YH YF hk8, hB2⟩
  · have hmk := oMakeI k hk10 W0
    refine wpOp_valD (some 13) (v := .slice (some ⟨W0.heap.size, 0, none⟩) k k) (w' := W0.alloc (.cells (List.replicate k (Value.int .i64 0)).toArray 3)) (by rfl) rfl rfl ?_ ?_
    · go_simp
    simp only [Act.put, List.setIfInBounds_toArray, List.set_cons_zero, List.set_cons_succ]
    clear hmk
    have hb := (Below.refl W0.heap.size W0).alloc (Nat.le_refl _) (.cells (List.replicate k (Value.int .i64 0)).toArray 3)
    have XH := Box.new W0 (List.replicate k (Value.int .i64 0)) 3
    have hB := hB.trans (hb.mono hB.size)
    have hg1 : w.heap.size < W0.heap.size := X2.lt
    have X2 := X2.later hb
    clear hb
    generalize W0.alloc (.cells (List.replicate k (Value.int .i64 0)).toArray 3) = W1 at hB X2 XH ⊢
    generalize W0.heap.size = g1 at XH hg1 ⊢
    refine anyC_twoW (C := fun _ : World => True) (n := 5) (i := 0) (j := 4) (by kernel_rfl) trivial ?_ ?_
    · refine wpOp_callD (some 11) (by rfl) rfl rfl ?_ ((nNew_any W1).mono ?_)
      · go_simp
      rintro e W2 ⟨rfl, hb⟩
      refine ⟨_, rfl, ?_⟩
      simp only [Act.put, List.setIfInBounds_toArray, List.set_cons_zero, List.set_cons_succ]
      have hB := hB.trans (hb.mono hB.size)
      have X2 := X2.later hb
      have XH := XH.later hb
      refine anyC_oneW (C := fun _ : World => True) (n := 4) (i := 4) (by kernel_rfl) trivial ?_
      · have hmk := oMakeB k hk10 W2
        refine wpOp_valD (some 15) (v := .slice (some ⟨W2.heap.size, 0, none⟩) k k) (w' := W2.alloc (.cells (List.replicate k (Value.bool false)).toArray 4)) (by rfl) rfl rfl ?_ ?_
        · go_simp
        simp only [Act.put, List.setIfInBounds_toArray, List.set_cons_zero, List.set_cons_succ]
        clear hmk
        have hb := (Below.refl W2.heap.size W2).alloc (Nat.le_refl _) (.cells (List.replicate k (Value.bool false)).toArray 4)
        have XF := Box.new W2 (List.replicate k (Value.bool false)) 4
        have hB := hB.trans (hb.mono hB.size)
        have hg3 : w.heap.size < W2.heap.size := X2.lt
        have X2 := X2.later hb
        have XH := XH.later hb
        clear hb
        generalize W2.alloc (.cells (List.replicate k (Value.bool false)).toArray 4) = W3 at hB X2 XH XF ⊢
        generalize W2.heap.size = g3 at XF hg3 ⊢
        refine anyC_valD (some 16) (n := 2) (i := 5) (v := .agg #[.slice none 0 0, .slice none 0 0, .slice none 0 0, .slice (some ⟨g1, 0, none⟩) k k, .slice (some ⟨g3, 0, none⟩) k k]) (w' := W3) (by kernel_rfl) rfl rfl rfl trivial (by first | rfl | go_simp) ?_
        simp only [Act.put, List.setIfInBounds_toArray, List.set_cons_zero, List.set_cons_succ]
        have X2c0 : W3.cell? ⟨w.heap.size, 0, none⟩ = some (.slice none 0 0) := X2.cell 0
        have X2f0 : W3.frozen? ⟨w.heap.size, 0, none⟩ = false := X2.free 0
        have X2c1 : W3.cell? ⟨w.heap.size, 1, none⟩ = some (.slice none 0 0) := X2.cell 1
        have X2f1 : W3.frozen? ⟨w.heap.size, 1, none⟩ = false := X2.free 1
        have X2c2 : W3.cell? ⟨w.heap.size, 2, none⟩ = some (.slice none 0 0) := X2.cell 2
        have X2f2 : W3.frozen? ⟨w.heap.size, 2, none⟩ = false := X2.free 2
        have X2c3 : W3.cell? ⟨w.heap.size, 3, none⟩ = some (.slice none 0 0) := X2.cell 3
        have X2f3 : W3.frozen? ⟨w.heap.size, 3, none⟩ = false := X2.free 3
        have X2c4 : W3.cell? ⟨w.heap.size, 4, none⟩ = some (.slice none 0 0) := X2.cell 4
        have X2f4 : W3.frozen? ⟨w.heap.size, 4, none⟩ = false := X2.free 4
        have X2z : w.heap.size < W3.heap.size := X2.lt
        refine anyC_storeN (w' := (((((W3.setCell ⟨w.heap.size, 0, none⟩ (.slice none 0 0)).setCell ⟨w.heap.size, 1, none⟩ (.slice none 0 0)).setCell ⟨w.heap.size, 2, none⟩ (.slice none 0 0)).setCell ⟨w.heap.size, 3, none⟩ (.slice (some ⟨g1, 0, none⟩) k k)).setCell ⟨w.heap.size, 4, none⟩ (.slice (some ⟨g3, 0, none⟩) k k))) (n := 1) (i := 6) (by kernel_rfl) rfl rfl rfl trivial ?_ ?_
        · go_simp
        have Y2 := (((((X2.set 0 (.slice none 0 0)).set 1 (.slice none 0 0)).set 2 (.slice none 0 0)).set 3 (.slice (some ⟨g1, 0, none⟩) k k)).set 4 (.slice (some ⟨g3, 0, none⟩) k k))
        have YH := (((((XH.other (a := ⟨w.heap.size, 0, none⟩) (by simp <;> omega) (.slice none 0 0)).other (a := ⟨w.heap.size, 1, none⟩) (by simp <;> omega) (.slice none 0 0)).other (a := ⟨w.heap.size, 2, none⟩) (by simp <;> omega) (.slice none 0 0)).other (a := ⟨w.heap.size, 3, none⟩) (by simp <;> omega) (.slice (some ⟨g1, 0, none⟩) k k)).other (a := ⟨w.heap.size, 4, none⟩) (by simp <;> omega) (.slice (some ⟨g3, 0, none⟩) k k))
        have YF := (((((XF.other (a := ⟨w.heap.size, 0, none⟩) (by simp <;> omega) (.slice none 0 0)).other (a := ⟨w.heap.size, 1, none⟩) (by simp <;> omega) (.slice none 0 0)).other (a := ⟨w.heap.size, 2, none⟩) (by simp <;> omega) (.slice none 0 0)).other (a := ⟨w.heap.size, 3, none⟩) (by simp <;> omega) (.slice (some ⟨g1, 0, none⟩) k k)).other (a := ⟨w.heap.size, 4, none⟩) (by simp <;> omega) (.slice (some ⟨g3, 0, none⟩) k k))
        have hB2 := (((((hB.setCell (p := ⟨w.heap.size, 0, none⟩) (by simp <;> omega) (.slice none 0 0)).setCell (p := ⟨w.heap.size, 1, none⟩) (by simp <;> omega) (.slice none 0 0)).setCell (p := ⟨w.heap.size, 2, none⟩) (by simp <;> omega) (.slice none 0 0)).setCell (p := ⟨w.heap.size, 3, none⟩) (by simp <;> omega) (.slice (some ⟨g1, 0, none⟩) k k)).setCell (p := ⟨w.heap.size, 4, none⟩) (by simp <;> omega) (.slice (some ⟨g3, 0, none⟩) k k))
        generalize (((((W3.setCell ⟨w.heap.size, 0, none⟩ (.slice none 0 0)).setCell ⟨w.heap.size, 1, none⟩ (.slice none 0 0)).setCell ⟨w.heap.size, 2, none⟩ (.slice none 0 0)).setCell ⟨w.heap.size, 3, none⟩ (.slice (some ⟨g1, 0, none⟩) k k)).setCell ⟨w.heap.size, 4, none⟩ (.slice (some ⟨g3, 0, none⟩) k k)) = W9 at Y2 YH YF hB2 ⊢
        simp only [List.set_cons_zero, List.set_cons_succ] at Y2
        refine anyC_valD (some 3) (n := 0) (i := 7) (v := .int .i64 0) (w' := W9) (by kernel_rfl) rfl rfl rfl trivial (by first | rfl | go_simp) ?_
        simp only [Act.put, List.setIfInBounds_toArray, List.set_cons_zero, List.set_cons_succ]
        refine anyC_done (by kernel_rfl) trivial ?_
        have Y2c0 : W9.cell? ⟨w.heap.size, 0, none⟩ = some (.slice none 0 0) := Y2.cell 0
        have Y2c1 : W9.cell? ⟨w.heap.size, 1, none⟩ = some (.slice none 0 0) := Y2.cell 1
        have Y2c2 : W9.cell? ⟨w.heap.size, 2, none⟩ = some (.slice none 0 0) := Y2.cell 2
        have Y2c3 : W9.cell? ⟨w.heap.size, 3, none⟩ = some (.slice (some ⟨g1, 0, none⟩) k k) := Y2.cell 3
        have Y2c4 : W9.cell? ⟨w.heap.size, 4, none⟩ = some (.slice (some ⟨g3, 0, none⟩) k k) := Y2.cell 4
        go_wp2
        refine bodyPost_ret (v := .tuple #[.agg #[.slice none 0 0, .slice none 0 0, .slice none 0 0, .slice (some ⟨g1, 0, none⟩) k k, .slice (some ⟨g3, 0, none⟩) k k], .int .i64 0]) (by simp [results, Try.results10, go_sem, Y2c0, Y2c1, Y2c2, Y2c3, Y2c4]) rfl ?_
        exact ⟨_, _, _, _, _, rfl, new_made YH YF hk8, hB2⟩
    · have hmk := oMakeB k hk10 W1
      refine wpOp_valD (some 15) (v := .slice (some ⟨W1.heap.size, 0, none⟩) k k) (w' := W1.alloc (.cells (List.replicate k (Value.bool false)).toArray 4)) (by rfl) rfl rfl ?_ ?_
      · go_simp
      simp only [Act.put, List.setIfInBounds_toArray, List.set_cons_zero, List.set_cons_succ]
      clear hmk
      have hb := (Below.refl W1.heap.size W1).alloc (Nat.le_refl _) (.cells (List.replicate k (Value.bool false)).toArray 4)
      have XF := Box.new W1 (List.replicate k (Value.bool false)) 4
      have hB := hB.trans (hb.mono hB.size)
      have hg2 : w.heap.size < W1.heap.size := X2.lt
      have X2 := X2.later hb
      have XH := XH.later hb
      clear hb
      generalize W1.alloc (.cells (List.replicate k (Value.bool false)).toArray 4) = W2 at hB X2 XH XF ⊢
      generalize W1.heap.size = g2 at XF hg2 ⊢
      refine anyC_oneW (C := fun _ : World => True) (n := 4) (i := 0) (by kernel_rfl) trivial ?_
      · refine wpOp_callD (some 11) (by rfl) rfl rfl ?_ ((nNew_any W2).mono ?_)
        · go_simp
        rintro e W3 ⟨rfl, hb⟩
        refine ⟨_, rfl, ?_⟩
        simp only [Act.put, List.setIfInBounds_toArray, List.set_cons_zero, List.set_cons_succ]
        have hB := hB.trans (hb.mono hB.size)
        have X2 := X2.later hb
        have XH := XH.later hb
        have XF := XF.later hb
        refine anyC_valD (some 16) (n := 2) (i := 5) (v := .agg #[.slice none 0 0, .slice none 0 0, .slice none 0 0, .slice (some ⟨g1, 0, none⟩) k k, .slice (some ⟨g2, 0, none⟩) k k]) (w' := W3) (by kernel_rfl) rfl rfl rfl trivial (by first | rfl | go_simp) ?_
        simp only [Act.put, List.setIfInBounds_toArray, List.set_cons_zero, List.set_cons_succ]
        have X2c0 : W3.cell? ⟨w.heap.size, 0, none⟩ = some (.slice none 0 0) := X2.cell 0
        have X2f0 : W3.frozen? ⟨w.heap.size, 0, none⟩ = false := X2.free 0
        have X2c1 : W3.cell? ⟨w.heap.size, 1, none⟩ = some (.slice none 0 0) := X2.cell 1
        have X2f1 : W3.frozen? ⟨w.heap.size, 1, none⟩ = false := X2.free 1
        have X2c2 : W3.cell? ⟨w.heap.size, 2, none⟩ = some (.slice none 0 0) := X2.cell 2
        have X2f2 : W3.frozen? ⟨w.heap.size, 2, none⟩ = false := X2.free 2
        have X2c3 : W3.cell? ⟨w.heap.size, 3, none⟩ = some (.slice none 0 0) := X2.cell 3
        have X2f3 : W3.frozen? ⟨w.heap.size, 3, none⟩ = false := X2.free 3
        have X2c4 : W3.cell? ⟨w.heap.size, 4, none⟩ = some (.slice none 0 0) := X2.cell 4
        have X2f4 : W3.frozen? ⟨w.heap.size, 4, none⟩ = false := X2.free 4
        have X2z : w.heap.size < W3.heap.size := X2.lt
        refine anyC_storeN (w' := (((((W3.setCell ⟨w.heap.size, 0, none⟩ (.slice none 0 0)).setCell ⟨w.heap.size, 1, none⟩ (.slice none 0 0)).setCell ⟨w.heap.size, 2, none⟩ (.slice none 0 0)).setCell ⟨w.heap.size, 3, none⟩ (.slice (some ⟨g1, 0, none⟩) k k)).setCell ⟨w.heap.size, 4, none⟩ (.slice (some ⟨g2, 0, none⟩) k k))) (n := 1) (i := 6) (by kernel_rfl) rfl rfl rfl trivial ?_ ?_
        · go_simp
        have Y2 := (((((X2.set 0 (.slice none 0 0)).set 1 (.slice none 0 0)).set 2 (.slice none 0 0)).set 3 (.slice (some ⟨g1, 0, none⟩) k k)).set 4 (.slice (some ⟨g2, 0, none⟩) k k))
        have YH := (((((XH.other (a := ⟨w.heap.size, 0, none⟩) (by simp <;> omega) (.slice none 0 0)).other (a := ⟨w.heap.size, 1, none⟩) (by simp <;> omega) (.slice none 0 0)).other (a := ⟨w.heap.size, 2, none⟩) (by simp <;> omega) (.slice none 0 0)).other (a := ⟨w.heap.size, 3, none⟩) (by simp <;> omega) (.slice (some ⟨g1, 0, none⟩) k k)).other (a := ⟨w.heap.size, 4, none⟩) (by simp <;> omega) (.slice (some ⟨g2, 0, none⟩) k k))
        have YF := (((((XF.other (a := ⟨w.heap.size, 0, none⟩) (by simp <;> omega) (.slice none 0 0)).other (a := ⟨w.heap.size, 1, none⟩) (by simp <;> omega) (.slice none 0 0)).other (a := ⟨w.heap.size, 2, none⟩) (by simp <;> omega) (.slice none 0 0)).other (a := ⟨w.heap.size, 3, none⟩) (by simp <;> omega) (.slice (some ⟨g1, 0, none⟩) k k)).other (a := ⟨w.heap.size, 4, none⟩) (by simp <;> omega) (.slice (some ⟨g2, 0, none⟩) k k))
        have hB2 := (((((hB.setCell (p := ⟨w.heap.size, 0, none⟩) (by simp <;> omega) (.slice none 0 0)).setCell (p := ⟨w.heap.size, 1, none⟩) (by simp <;> omega) (.slice none 0 0)).setCell (p := ⟨w.heap.size, 2, none⟩) (by simp <;> omega) (.slice none 0 0)).setCell (p := ⟨w.heap.size, 3, none⟩) (by simp <;> omega) (.slice (some ⟨g1, 0, none⟩) k k)).setCell (p := ⟨w.heap.size, 4, none⟩) (by simp <;> omega) (.slice (some ⟨g2, 0, none⟩) k k))
        generalize (((((W3.setCell ⟨w.heap.size, 0, none⟩ (.slice none 0 0)).setCell ⟨w.heap.size, 1, none⟩ (.slice none 0 0)).setCell ⟨w.heap.size, 2, none⟩ (.slice none 0 0)).setCell ⟨w.heap.size, 3, none⟩ (.slice (some ⟨g1, 0, none⟩) k k)).setCell ⟨w.heap.size, 4, none⟩ (.slice (some ⟨g2, 0, none⟩) k k)) = W9 at Y2 YH YF hB2 ⊢
        simp only [List.set_cons_zero, List.set_cons_succ] at Y2
        refine anyC_valD (some 3) (n := 0) (i := 7) (v := .int .i64 0) (w' := W9) (by kernel_rfl) rfl rfl rfl trivial (by first | rfl | go_simp) ?_
        simp only [Act.put, List.setIfInBounds_toArray, List.set_cons_zero, List.set_cons_succ]
        refine anyC_done (by kernel_rfl) trivial ?_
        have Y2c0 : W9.cell? ⟨w.heap.size, 0, none⟩ = some (.slice none 0 0) := Y2.cell 0
        have Y2c1 : W9.cell? ⟨w.heap.size, 1, none⟩ = some (.slice none 0 0) := Y2.cell 1
        have Y2c2 : W9.cell? ⟨w.heap.size, 2, none⟩ = some (.slice none 0 0) := Y2.cell 2
        have Y2c3 : W9.cell? ⟨w.heap.size, 3, none⟩ = some (.slice (some ⟨g1, 0, none⟩) k k) := Y2.cell 3
        have Y2c4 : W9.cell? ⟨w.heap.size, 4, none⟩ = some (.slice (some ⟨g2, 0, none⟩) k k) := Y2.cell 4
        go_wp2
        refine bodyPost_ret (v := .tuple #[.agg #[.slice none 0 0, .slice none 0 0, .slice none 0 0, .slice (some ⟨g1, 0, none⟩) k k, .slice (some ⟨g2, 0, none⟩) k k], .int .i64 0]) (by simp [results, Try.results10, go_sem, Y2c0, Y2c1, Y2c2, Y2c3, Y2c4]) rfl ?_
        exact ⟨_, _, _, _, _, rfl, new_made YH YF hk8, hB2⟩
  · have hmk := oMakeB k hk10 W0
    refine wpOp_valD (some 15) (v := .slice (some ⟨W0.heap.size, 0, none⟩) k k) (w' := W0.alloc (.cells (List.replicate k (Value.bool false)).toArray 4)) (by rfl) rfl rfl ?_ ?_
    · go_simp
    simp only [Act.put, List.setIfInBounds_toArray, List.set_cons_zero, List.set_cons_succ]
    clear hmk
    have hb := (Below.refl W0.heap.size W0).alloc (Nat.le_refl _) (.cells (List.replicate k (Value.bool false)).toArray 4)
    have XF := Box.new W0 (List.replicate k (Value.bool false)) 4
    have hB := hB.trans (hb.mono hB.size)
    have hg1 : w.heap.size < W0.heap.size := X2.lt
    have X2 := X2.later hb
    clear hb
    generalize W0.alloc (.cells (List.replicate k (Value.bool false)).toArray 4) = W1 at hB X2 XF ⊢
    generalize W0.heap.size = g1 at XF hg1 ⊢
    refine anyC_twoW (C := fun _ : World => True) (n := 5) (i := 0) (j := 2) (by kernel_rfl) trivial ?_ ?_
    · refine wpOp_callD (some 11) (by rfl) rfl rfl ?_ ((nNew_any W1).mono ?_)
      · go_simp
      rintro e W2 ⟨rfl, hb⟩
      refine ⟨_, rfl, ?_⟩
      simp only [Act.put, List.setIfInBounds_toArray, List.set_cons_zero, List.set_cons_succ]
      have hB := hB.trans (hb.mono hB.size)
      have X2 := X2.later hb
      have XF := XF.later hb
      refine anyC_oneW (C := fun _ : World => True) (n := 4) (i := 2) (by kernel_rfl) trivial ?_
      · have hmk := oMakeI k hk10 W2
        refine wpOp_valD (some 13) (v := .slice (some ⟨W2.heap.size, 0, none⟩) k k) (w' := W2.alloc (.cells (List.replicate k (Value.int .i64 0)).toArray 3)) (by rfl) rfl rfl ?_ ?_
        · go_simp
        simp only [Act.put, List.setIfInBounds_toArray, List.set_cons_zero, List.set_cons_succ]
        clear hmk
        have hb := (Below.refl W2.heap.size W2).alloc (Nat.le_refl _) (.cells (List.replicate k (Value.int .i64 0)).toArray 3)
        have XH := Box.new W2 (List.replicate k (Value.int .i64 0)) 3
        have hB := hB.trans (hb.mono hB.size)
        have hg3 : w.heap.size < W2.heap.size := X2.lt
        have X2 := X2.later hb
        have XF := XF.later hb
        clear hb
        generalize W2.alloc (.cells (List.replicate k (Value.int .i64 0)).toArray 3) = W3 at hB X2 XH XF ⊢
        generalize W2.heap.size = g3 at XH hg3 ⊢
        refine anyC_valD (some 16) (n := 2) (i := 5) (v := .agg #[.slice none 0 0, .slice none 0 0, .slice none 0 0, .slice (some ⟨g3, 0, none⟩) k k, .slice (some ⟨g1, 0, none⟩) k k]) (w' := W3) (by kernel_rfl) rfl rfl rfl trivial (by first | rfl | go_simp) ?_
        simp only [Act.put, List.setIfInBounds_toArray, List.set_cons_zero, List.set_cons_succ]
        have X2c0 : W3.cell? ⟨w.heap.size, 0, none⟩ = some (.slice none 0 0) := X2.cell 0
        have X2f0 : W3.frozen? ⟨w.heap.size, 0, none⟩ = false := X2.free 0
        have X2c1 : W3.cell? ⟨w.heap.size, 1, none⟩ = some (.slice none 0 0) := X2.cell 1
        have X2f1 : W3.frozen? ⟨w.heap.size, 1, none⟩ = false := X2.free 1
        have X2c2 : W3.cell? ⟨w.heap.size, 2, none⟩ = some (.slice none 0 0) := X2.cell 2
        have X2f2 : W3.frozen? ⟨w.heap.size, 2, none⟩ = false := X2.free 2
        have X2c3 : W3.cell? ⟨w.heap.size, 3, none⟩ = some (.slice none 0 0) := X2.cell 3
        have X2f3 : W3.frozen? ⟨w.heap.size, 3, none⟩ = false := X2.free 3
        have X2c4 : W3.cell? ⟨w.heap.size, 4, none⟩ = some (.slice none 0 0) := X2.cell 4
        have X2f4 : W3.frozen? ⟨w.heap.size, 4, none⟩ = false := X2.free 4
        have X2z : w.heap.size < W3.heap.size := X2.lt
        refine anyC_storeN (w' := (((((W3.setCell ⟨w.heap.size, 0, none⟩ (.slice none 0 0)).setCell ⟨w.heap.size, 1, none⟩ (.slice none 0 0)).setCell ⟨w.heap.size, 2, none⟩ (.slice none 0 0)).setCell ⟨w.heap.size, 3, none⟩ (.slice (some ⟨g3, 0, none⟩) k k)).setCell ⟨w.heap.size, 4, none⟩ (.slice (some ⟨g1, 0, none⟩) k k))) (n := 1) (i := 6) (by kernel_rfl) rfl rfl rfl trivial ?_ ?_
        · go_simp
        have Y2 := (((((X2.set 0 (.slice none 0 0)).set 1 (.slice none 0 0)).set 2 (.slice none 0 0)).set 3 (.slice (some ⟨g3, 0, none⟩) k k)).set 4 (.slice (some ⟨g1, 0, none⟩) k k))
        have YH := (((((XH.other (a := ⟨w.heap.size, 0, none⟩) (by simp <;> omega) (.slice none 0 0)).other (a := ⟨w.heap.size, 1, none⟩) (by simp <;> omega) (.slice none 0 0)).other (a := ⟨w.heap.size, 2, none⟩) (by simp <;> omega) (.slice none 0 0)).other (a := ⟨w.heap.size, 3, none⟩) (by simp <;> omega) (.slice (some ⟨g3, 0, none⟩) k k)).other (a := ⟨w.heap.size, 4, none⟩) (by simp <;> omega) (.slice (some ⟨g1, 0, none⟩) k k))
        have YF := (((((XF.other (a := ⟨w.heap.size, 0, none⟩) (by simp <;> omega) (.slice none 0 0)).other (a := ⟨w.heap.size, 1, none⟩) (by simp <;> omega) (.slice none 0 0)).other (a := ⟨w.heap.size, 2, none⟩) (by simp <;> omega) (.slice none 0 0)).other (a := ⟨w.heap.size, 3, none⟩) (by simp <;> omega) (.slice (some ⟨g3, 0, none⟩) k k)).other (a := ⟨w.heap.size, 4, none⟩) (by simp <;> omega) (.slice (some ⟨g1, 0, none⟩) k k))
        have hB2 := (((((hB.setCell (p := ⟨w.heap.size, 0, none⟩) (by simp <;> omega) (.slice none 0 0)).setCell (p := ⟨w.heap.size, 1, none⟩) (by simp <;> omega) (.slice none 0 0)).setCell (p := ⟨w.heap.size, 2, none⟩) (by simp <;> omega) (.slice none 0 0)).setCell (p := ⟨w.heap.size, 3, none⟩) (by simp <;> omega) (.slice (some ⟨g3, 0, none⟩) k k)).setCell (p := ⟨w.heap.size, 4, none⟩) (by simp <;> omega) (.slice (some ⟨g1, 0, none⟩) k k))
        generalize (((((W3.setCell ⟨w.heap.size, 0, none⟩ (.slice none 0 0)).setCell ⟨w.heap.size, 1, none⟩ (.slice none 0 0)).setCell ⟨w.heap.size, 2, none⟩ (.slice none 0 0)).setCell ⟨w.heap.size, 3, none⟩ (.slice (some ⟨g3, 0, none⟩) k k)).setCell ⟨w.heap.size, 4, none⟩ (.slice (some ⟨g1, 0, none⟩) k k)) = W9 at Y2 YH YF hB2 ⊢
        simp only [List.set_cons_zero, List.set_cons_succ] at Y2
        refine anyC_valD (some 3) (n := 0) (i := 7) (v := .int .i64 0) (w' := W9) (by kernel_rfl) rfl rfl rfl trivial (by first | rfl | go_simp) ?_
        simp only [Act.put, List.setIfInBounds_toArray, List.set_cons_zero, List.set_cons_succ]
        refine anyC_done (by kernel_rfl) trivial ?_
        have Y2c0 : W9.cell? ⟨w.heap.size, 0, none⟩ = some (.slice none 0 0) := Y2.cell 0
        have Y2c1 : W9.cell? ⟨w.heap.size, 1, none⟩ = some (.slice none 0 0) := Y2.cell 1
        have Y2c2 : W9.cell? ⟨w.heap.size, 2, none⟩ = some (.slice none 0 0) := Y2.cell 2
        have Y2c3 : W9.cell? ⟨w.heap.size, 3, none⟩ = some (.slice (some ⟨g3, 0, none⟩) k k) := Y2.cell 3
        have Y2c4 : W9.cell? ⟨w.heap.size, 4, none⟩ = some (.slice (some ⟨g1, 0, none⟩) k k) := Y2.cell 4
        go_wp2
        refine bodyPost_ret (v := .tuple #[.agg #[.slice none 0 0, .slice none 0 0, .slice none 0 0, .slice (some ⟨g3, 0, none⟩) k k, .slice (some ⟨g1, 0, none⟩) k k], .int .i64 0]) (by simp [results, Try.results10, go_sem, Y2c0, Y2c1, Y2c2, Y2c3, Y2c4]) rfl ?_
        exact ⟨_, _, _, _, _, rfl, new_made YH YF hk8, hB2⟩
    · have hmk := oMakeI k hk10 W1
      refine wpOp_valD (some 13) (v := .slice (some ⟨W1.heap.size, 0, none⟩) k k) (w' := W1.alloc (.cells (List.replicate k (Value.int .i64 0)).toArray 3)) (by rfl) rfl rfl ?_ ?_
      · go_simp
      simp only [Act.put, List.setIfInBounds_toArray, List.set_cons_zero, List.set_cons_succ]
      clear hmk
      have hb := (Below.refl W1.heap.size W1).alloc (Nat.le_refl _) (.cells (List.replicate k (Value.int .i64 0)).toArray 3)
      have XH := Box.new W1 (List.replicate k (Value.int .i64 0)) 3
      have hB := hB.trans (hb.mono hB.size)
      have hg2 : w.heap.size < W1.heap.size := X2.lt
      have X2 := X2.later hb
      have XF := XF.later hb
      clear hb
      generalize W1.alloc (.cells (List.replicate k (Value.int .i64 0)).toArray 3) = W2 at hB X2 XH XF ⊢
      generalize W1.heap.size = g2 at XH hg2 ⊢
      refine anyC_oneW (C := fun _ : World => True) (n := 4) (i := 0) (by kernel_rfl) trivial ?_
      · refine wpOp_callD (some 11) (by rfl) rfl rfl ?_ ((nNew_any W2).mono ?_)
        · go_simp
        rintro e W3 ⟨rfl, hb⟩
        refine ⟨_, rfl, ?_⟩
        simp only [Act.put, List.setIfInBounds_toArray, List.set_cons_zero, List.set_cons_succ]
        have hB := hB.trans (hb.mono hB.size)
        have X2 := X2.later hb
        have XH := XH.later hb
        have XF := XF.later hb
        refine anyC_valD (some 16) (n := 2) (i := 5) (v := .agg #[.slice none 0 0, .slice none 0 0, .slice none 0 0, .slice (some ⟨g2, 0, none⟩) k k, .slice (some ⟨g1, 0, none⟩) k k]) (w' := W3) (by kernel_rfl) rfl rfl rfl trivial (by first | rfl | go_simp) ?_
        simp only [Act.put, List.setIfInBounds_toArray, List.set_cons_zero, List.set_cons_succ]
        have X2c0 : W3.cell? ⟨w.heap.size, 0, none⟩ = some (.slice none 0 0) := X2.cell 0
        have X2f0 : W3.frozen? ⟨w.heap.size, 0, none⟩ = false := X2.free 0
        have X2c1 : W3.cell? ⟨w.heap.size, 1, none⟩ = some (.slice none 0 0) := X2.cell 1
        have X2f1 : W3.frozen? ⟨w.heap.size, 1, none⟩ = false := X2.free 1
        have X2c2 : W3.cell? ⟨w.heap.size, 2, none⟩ = some (.slice none 0 0) := X2.cell 2
        have X2f2 : W3.frozen? ⟨w.heap.size, 2, none⟩ = false := X2.free 2
        have X2c3 : W3.cell? ⟨w.heap.size, 3, none⟩ = some (.slice none 0 0) := X2.cell 3
        have X2f3 : W3.frozen? ⟨w.heap.size, 3, none⟩ = false := X2.free 3
        have X2c4 : W3.cell? ⟨w.heap.size, 4, none⟩ = some (.slice none 0 0) := X2.cell 4
        have X2f4 : W3.frozen? ⟨w.heap.size, 4, none⟩ = false := X2.free 4
        have X2z : w.heap.size < W3.heap.size := X2.lt
        refine anyC_storeN (w' := (((((W3.setCell ⟨w.heap.size, 0, none⟩ (.slice none 0 0)).setCell ⟨w.heap.size, 1, none⟩ (.slice none 0 0)).setCell ⟨w.heap.size, 2, none⟩ (.slice none 0 0)).setCell ⟨w.heap.size, 3, none⟩ (.slice (some ⟨g2, 0, none⟩) k k)).setCell ⟨w.heap.size, 4, none⟩ (.slice (some ⟨g1, 0, none⟩) k k))) (n := 1) (i := 6) (by kernel_rfl) rfl rfl rfl trivial ?_ ?_
        · go_simp
        have Y2 := (((((X2.set 0 (.slice none 0 0)).set 1 (.slice none 0 0)).set 2 (.slice none 0 0)).set 3 (.slice (some ⟨g2, 0, none⟩) k k)).set 4 (.slice (some ⟨g1, 0, none⟩) k k))
        have YH := (((((XH.other (a := ⟨w.heap.size, 0, none⟩) (by simp <;> omega) (.slice none 0 0)).other (a := ⟨w.heap.size, 1, none⟩) (by simp <;> omega) (.slice none 0 0)).other (a := ⟨w.heap.size, 2, none⟩) (by simp <;> omega) (.slice none 0 0)).other (a := ⟨w.heap.size, 3, none⟩) (by simp <;> omega) (.slice (some ⟨g2, 0, none⟩) k k)).other (a := ⟨w.heap.size, 4, none⟩) (by simp <;> omega) (.slice (some ⟨g1, 0, none⟩) k k))
        have YF := (((((XF.other (a := ⟨w.heap.size, 0, none⟩) (by simp <;> omega) (.slice none 0 0)).other (a := ⟨w.heap.size, 1, none⟩) (by simp <;> omega) (.slice none 0 0)).other (a := ⟨w.heap.size, 2, none⟩) (by simp <;> omega) (.slice none 0 0)).other (a := ⟨w.heap.size, 3, none⟩) (by simp <;> omega) (.slice (some ⟨g2, 0, none⟩) k k)).other (a := ⟨w.heap.size, 4, none⟩) (by simp <;> omega) (.slice (some ⟨g1, 0, none⟩) k k))
        have hB2 := (((((hB.setCell (p := ⟨w.heap.size, 0, none⟩) (by simp <;> omega) (.slice none 0 0)).setCell (p := ⟨w.heap.size, 1, none⟩) (by simp <;> omega) (.slice none 0 0)).setCell (p := ⟨w.heap.size, 2, none⟩) (by simp <;> omega) (.slice none 0 0)).setCell (p := ⟨w.heap.size, 3, none⟩) (by simp <;> omega) (.slice (some ⟨g2, 0, none⟩) k k)).setCell (p := ⟨w.heap.size, 4, none⟩) (by simp <;> omega) (.slice (some ⟨g1, 0, none⟩) k k))
        generalize (((((W3.setCell ⟨w.heap.size, 0, none⟩ (.slice none 0 0)).setCell ⟨w.heap.size, 1, none⟩ (.slice none 0 0)).setCell ⟨w.heap.size, 2, none⟩ (.slice none 0 0)).setCell ⟨w.heap.size, 3, none⟩ (.slice (some ⟨g2, 0, none⟩) k k)).setCell ⟨w.heap.size, 4, none⟩ (.slice (some ⟨g1, 0, none⟩) k k)) = W9 at Y2 YH YF hB2 ⊢
        simp only [List.set_cons_zero, List.set_cons_succ] at Y2
        refine anyC_valD (some 3) (n := 0) (i := 7) (v := .int .i64 0) (w' := W9) (by kernel_rfl) rfl rfl rfl trivial (by first | rfl | go_simp) ?_
        simp only [Act.put, List.setIfInBounds_toArray, List.set_cons_zero, List.set_cons_succ]
        refine anyC_done (by kernel_rfl) trivial ?_
        have Y2c0 : W9.cell? ⟨w.heap.size, 0, none⟩ = some (.slice none 0 0) := Y2.cell 0
        have Y2c1 : W9.cell? ⟨w.heap.size, 1, none⟩ = some (.slice none 0 0) := Y2.cell 1
        have Y2c2 : W9.cell? ⟨w.heap.size, 2, none⟩ = some (.slice none 0 0) := Y2.cell 2
        have Y2c3 : W9.cell? ⟨w.heap.size, 3, none⟩ = some (.slice (some ⟨g2, 0, none⟩) k k) := Y2.cell 3
        have Y2c4 : W9.cell? ⟨w.heap.size, 4, none⟩ = some (.slice (some ⟨g1, 0, none⟩) k k) := Y2.cell 4
        go_wp2
        refine bodyPost_ret (v := .tuple #[.agg #[.slice none 0 0, .slice none 0 0, .slice none 0 0, .slice (some ⟨g2, 0, none⟩) k k, .slice (some ⟨g1, 0, none⟩) k k], .int .i64 0]) (by simp [results, Try.results10, go_sem, Y2c0, Y2c1, Y2c2, Y2c3, Y2c4]) rfl ?_
        exact ⟨_, _, _, _, _, rfl, new_made YH YF hk8, hB2⟩
end Go.Proofs.Ytmbifmmkccghfaa
