/- New of both. (Printed by gen_rk.py and pp.py.) No condition. -/
import Derived.Test.YtmbifmmkccghfaaGreatQK
import Derived.Test.YtmbifmmkccghfaaGreatQRE
import Derived.Test.YtmbifmmkccghfaaGreatQNP
import Derived.Test.YtmbifmmkccghfaaGreatQBM
import Derived.Test.YtmbifmmkccghfaaGreatQGA
import Derived.Laws.CopyRow
set_option linter.unusedVariables false
set_option linter.unusedSimpArgs false
set_option maxRecDepth 100000
set_option maxHeartbeats 4000000
namespace Go.Proofs.YtmbifmmkccghfaaGreat
open Go.RowKit Go.Shelf
attribute [local go_sem] Oper.semAt_some
section
variable {P : Program} {ops : Array Oper} {md : Region.Mode} {N : Act → World → Prop} {C : World → Prop}
theorem anyC_oneW {n i : Nat} {listed : Array Bool} {a : Act} {w : World} (hr : Region.ready md ops listed = [i]) (hC : C w)
    (h1 : wpOp P ops (Nrm N) i (anyC P md ops N C (n - 1) (listed.setIfInBounds i true)) a w) (hn : 1 ≤ n := by decide) : anyC P md ops N C n listed a w := by
  obtain ⟨m, rfl⟩ : ∃ m, n = m + 1 := ⟨n - 1, by omega⟩
  refine ⟨hC, fun h0 => (by rw [h0] at hr; cases hr), fun x hx => ?_⟩
  rw [hr, List.mem_singleton] at hx
  subst hx
  exact h1
theorem anyC_twoW {n i j : Nat} {listed : Array Bool} {a : Act} {w : World} (hr : Region.ready md ops listed = [i, j]) (hC : C w)
    (h1 : wpOp P ops (Nrm N) i (anyC P md ops N C (n - 1) (listed.setIfInBounds i true)) a w) (h2 : wpOp P ops (Nrm N) j (anyC P md ops N C (n - 1) (listed.setIfInBounds j true)) a w) (hn : 1 ≤ n := by decide) : anyC P md ops N C n listed a w := by
  obtain ⟨m, rfl⟩ : ∃ m, n = m + 1 := ⟨n - 1, by omega⟩
  refine ⟨hC, fun h0 => (by rw [h0] at hr; cases hr), fun x hx => ?_⟩
  rw [hr] at hx
  simp only [List.mem_cons, List.not_mem_nil, or_false] at hx
  rcases hx with rfl | rfl
  · exact h1
  · exact h2
theorem anyC_threeW {n i j k : Nat} {listed : Array Bool} {a : Act} {w : World} (hr : Region.ready md ops listed = [i, j, k]) (hC : C w)
    (h1 : wpOp P ops (Nrm N) i (anyC P md ops N C (n - 1) (listed.setIfInBounds i true)) a w) (h2 : wpOp P ops (Nrm N) j (anyC P md ops N C (n - 1) (listed.setIfInBounds j true)) a w)
    (h3 : wpOp P ops (Nrm N) k (anyC P md ops N C (n - 1) (listed.setIfInBounds k true)) a w) (hn : 1 ≤ n := by decide) : anyC P md ops N C n listed a w := by
  obtain ⟨m, rfl⟩ : ∃ m, n = m + 1 := ⟨n - 1, by omega⟩
  refine ⟨hC, fun h0 => (by rw [h0] at hr; cases hr), fun x hx => ?_⟩
  rw [hr] at hx
  simp only [List.mem_cons, List.not_mem_nil, or_false] at hx
  rcases hx with rfl | rfl | rfl
  · exact h1
  · exact h2
  · exact h3
end
theorem new_made {w : World} {gH gF k : Nat} (h : Box w gH (List.replicate k (Value.int .i64 0))) (f : Box w gF (List.replicate k (Value.bool false))) (hk : k ≤ 8) : BxAt w w.heap.size (.slice none 0 0) (.slice none 0 0) (.slice none 0 0) (.slice (some ⟨gH, 0, none⟩) k k) (.slice (some ⟨gF, 0, none⟩) k k) ⟨Net.zero, [], List.replicate (k : Int).toNat 0, List.replicate (k : Int).toNat false⟩ := by
  have h1 := box_hd (l := List.replicate k 0) (by rw [List.map_replicate]; exact h) (by rw [List.length_replicate]; unfold maxLen; omega)
  have h2 := box_fr (l := List.replicate k false) (by rw [List.map_replicate]; exact f) (by rw [List.length_replicate]; unfold maxLen; omega)
  rw [List.length_replicate] at h1 h2
  exact ⟨netAt_zero _ _, lksAt_nil _ _, h1, h2⟩
theorem oNew_any (n : Int) (w : World) {T : Bx × Int} (hT : Hid (newB n = T)) : Calls Tryz.prog 7 #[.int .i64 n] w (RetBx T.1 #[.int .i64 T.2] w) := by
  go_enter Tryz.func7, Tryz.ntmps7
  have X2 := Box.new w [.slice none 0 0, .slice none 0 0, .slice none 0 0, .slice none 0 0, .slice none 0 0] 49
  have hB := (Below.refl w.heap.size w).alloc (Nat.le_refl _) (.cells #[.slice none 0 0, .slice none 0 0, .slice none 0 0, .slice none 0 0, .slice none 0 0] 49)
  go_upto_region 1 with fail
  generalize w.alloc (.cells #[.slice none 0 0, .slice none 0 0, .slice none 0 0, .slice none 0 0, .slice none 0 0] 49) = w1 at X2 hB ⊢
  have hz := X2.lt
  by_cases h1 : n < 1
  · have d1 : decide (n < 1) = true := decide_eq_true h1
    obtain rfl : T = (Bx.zero, 1) := by rw [← hT.out, newB, if_neg (by omega)]
    obtain ⟨X2c0, X2f0, X2c1, X2f1, X2c2, X2f2, X2c3, X2f3, X2c4, X2f4⟩ := X2.f5
    have X2z : w.heap.size < w1.heap.size := X2.lt
    have Y2 := (((((X2.set 0 (.slice none 0 0)).set 1 (.slice none 0 0)).set 2 (.slice none 0 0)).set 3 (.slice none 0 0)).set 4 (.slice none 0 0))
    have hB2 := (((((hB.setCell (p := ⟨w.heap.size, 0, none⟩) (by simp <;> omega) (.slice none 0 0)).setCell (p := ⟨w.heap.size, 1, none⟩) (by simp <;> omega) (.slice none 0 0)).setCell (p := ⟨w.heap.size, 2, none⟩) (by simp <;> omega) (.slice none 0 0)).setCell (p := ⟨w.heap.size, 3, none⟩) (by simp <;> omega) (.slice none 0 0)).setCell (p := ⟨w.heap.size, 4, none⟩) (by simp <;> omega) (.slice none 0 0))
    go_wp2
    clear X2c0 X2c1 X2c2 X2c3 X2c4 X2f0 X2f1 X2f2 X2f3 X2f4 X2z
    generalize (((((w1.setCell ⟨w.heap.size, 0, none⟩ (.slice none 0 0)).setCell ⟨w.heap.size, 1, none⟩ (.slice none 0 0)).setCell ⟨w.heap.size, 2, none⟩ (.slice none 0 0)).setCell ⟨w.heap.size, 3, none⟩ (.slice none 0 0)).setCell ⟨w.heap.size, 4, none⟩ (.slice none 0 0)) = W at Y2 hB2 ⊢
    simp only [List.set_cons_zero, List.set_cons_succ] at Y2
    obtain ⟨Y2c0, Y2c1, Y2c2, Y2c3, Y2c4⟩ := Y2.c5
    refine bodyPost_ret (v := .tuple #[.agg #[.slice none 0 0, .slice none 0 0, .slice none 0 0, .slice none 0 0, .slice none 0 0], .int .i64 1]) (by simp [results, Tryz.results7, go_sem, Y2c0, Y2c1, Y2c2, Y2c3, Y2c4]) rfl ?_
    exact ⟨_, _, _, _, _, rfl, bxAt_zero _ _, hB2⟩
  have d1 : decide (n < 1) = false := decide_eq_false h1
  by_cases h2 : 8 < n
  · have d2 : decide (8 < n) = true := decide_eq_true h2
    obtain rfl : T = (Bx.zero, 1) := by rw [← hT.out, newB, if_neg (by omega)]
    obtain ⟨X2c0, X2f0, X2c1, X2f1, X2c2, X2f2, X2c3, X2f3, X2c4, X2f4⟩ := X2.f5
    have X2z : w.heap.size < w1.heap.size := X2.lt
    have Y2 := (((((X2.set 0 (.slice none 0 0)).set 1 (.slice none 0 0)).set 2 (.slice none 0 0)).set 3 (.slice none 0 0)).set 4 (.slice none 0 0))
    have hB2 := (((((hB.setCell (p := ⟨w.heap.size, 0, none⟩) (by simp <;> omega) (.slice none 0 0)).setCell (p := ⟨w.heap.size, 1, none⟩) (by simp <;> omega) (.slice none 0 0)).setCell (p := ⟨w.heap.size, 2, none⟩) (by simp <;> omega) (.slice none 0 0)).setCell (p := ⟨w.heap.size, 3, none⟩) (by simp <;> omega) (.slice none 0 0)).setCell (p := ⟨w.heap.size, 4, none⟩) (by simp <;> omega) (.slice none 0 0))
    go_wp2
    clear X2c0 X2c1 X2c2 X2c3 X2c4 X2f0 X2f1 X2f2 X2f3 X2f4 X2z
    generalize (((((w1.setCell ⟨w.heap.size, 0, none⟩ (.slice none 0 0)).setCell ⟨w.heap.size, 1, none⟩ (.slice none 0 0)).setCell ⟨w.heap.size, 2, none⟩ (.slice none 0 0)).setCell ⟨w.heap.size, 3, none⟩ (.slice none 0 0)).setCell ⟨w.heap.size, 4, none⟩ (.slice none 0 0)) = W at Y2 hB2 ⊢
    simp only [List.set_cons_zero, List.set_cons_succ] at Y2
    obtain ⟨Y2c0, Y2c1, Y2c2, Y2c3, Y2c4⟩ := Y2.c5
    refine bodyPost_ret (v := .tuple #[.agg #[.slice none 0 0, .slice none 0 0, .slice none 0 0, .slice none 0 0, .slice none 0 0], .int .i64 1]) (by simp [results, Tryz.results7, go_sem, Y2c0, Y2c1, Y2c2, Y2c3, Y2c4]) rfl ?_
    exact ⟨_, _, _, _, _, rfl, bxAt_zero _ _, hB2⟩
  have d2 : decide (8 < n) = false := decide_eq_false h2
  obtain ⟨k, rfl⟩ : ∃ k : Nat, n = (k : Int) := ⟨n.toNat, by omega⟩
  obtain rfl : T = (⟨Net.zero, [], List.replicate (k : Int).toNat 0, List.replicate (k : Int).toNat false⟩, 0) := by rw [← hT.out, newB, if_pos (by omega)]
  have hk8 : k ≤ 8 := by omega
  have hk10 : k ≤ 1024 := by omega
  go_upto_region 3 with fail
  clear d1 d2 h1 h2
  refine wp_region_heads (C := fun _ => True) [1, 3] (by kernel_rfl) (by kernel_rfl) trivial (fun _ _ h => h) ?_
  simp only [headOps, List.filterMap_cons, List.filterMap_nil, List.getElem?_toArray, List.getElem?_cons_succ, List.getElem?_cons_zero]
  repeat (first | go_big_quiet_skip | (show wpQuiet _ _ _ _ (_ :: _) _; go_big_quiet_skip) | (show wpQuiet _ _ _ _ (_ :: _) _; go_big_quiet_want; go_big_quiet_op; go_big_quiet_on))
  refine wpQuiet_nil ?_
  have X2 := X2.drew
  have hB := hB.drew
  clear hz
  generalize w1.drew = W0 at X2 hB ⊢
  refine anyC_threeW (C := fun _ : World => True) (n := 6) (i := 0) (j := 2) (k := 4) (by kernel_rfl) trivial ?_ ?_ ?_
  · refine wpOp_callD (some 11) (by rfl) rfl rfl ?_ ((nNew_any W0).mono ?_)
    · go_simp
    rintro e W1 ⟨rfl, hb⟩
    refine ⟨_, rfl, ?_⟩
    simp only [Act.put, List.setIfInBounds_toArray, List.set_cons_zero, List.set_cons_succ]
    have hB := hB.trans (hb.mono hB.size)
    have X2 := X2.later hb
    refine anyC_twoW (C := fun _ : World => True) (n := 5) (i := 2) (j := 4) (by kernel_rfl) trivial ?_ ?_
    · have hmk := oMakeI k hk10 W1
      refine wpOp_valD (some 13) (v := .slice (some ⟨W1.heap.size, 0, none⟩) k k) (w' := W1.alloc (.cells (List.replicate k (Value.int .i64 0)).toArray 3)) (by rfl) rfl rfl ?_ ?_
      · go_simp
      simp only [Act.put, List.setIfInBounds_toArray, List.set_cons_zero, List.set_cons_succ]
      clear hmk
      have hb := (Below.refl W1.heap.size W1).alloc (Nat.le_refl _) (.cells (List.replicate k (Value.int .i64 0)).toArray 3)
      have XH := Box.new W1 (List.replicate k (Value.int .i64 0)) 3
      have hB := hB.trans (hb.mono hB.size)
      have hg2 : w.heap.size < W1.heap.size := X2.lt
      have X2 := X2.later hb
      clear hb
      generalize W1.alloc (.cells (List.replicate k (Value.int .i64 0)).toArray 3) = W2 at hB X2 XH ⊢
      generalize W1.heap.size = g2 at XH hg2 ⊢
      refine anyC_oneW (C := fun _ : World => True) (n := 4) (i := 4) (by kernel_rfl) trivial ?_
      · have hmk := oMakeB k hk10 W2
        refine wpOp_valD (some 15) (v := .slice (some ⟨W2.heap.size, 0, none⟩) k k) (w' := W2.alloc (.cells (List.replicate k (Value.bool false)).toArray 4)) (by rfl) rfl rfl ?_ ?_
        · go_simp
        simp only [Act.put, List.setIfInBounds_toArray, List.set_cons_zero, List.set_cons_succ]
        clear hmk
        have hb := (Below.refl W2.heap.size W2).alloc (Nat.le_refl _) (.cells (List.replicate k (Value.bool false)).toArray 4)
        have XF := Box.new W2 (List.replicate k (Value.bool false)) 4
        have hB := hB.trans (hb.mono hB.size)
        have hg3 : w.heap.size < W2.heap.size := X2.lt
        have X2 := X2.later hb
        have XH := XH.later hb
        clear hb
        generalize W2.alloc (.cells (List.replicate k (Value.bool false)).toArray 4) = W3 at hB X2 XH XF ⊢
        generalize W2.heap.size = g3 at XF hg3 ⊢
        refine anyC_valD (some 16) (n := 2) (i := 5) (v := .agg #[.slice none 0 0, .slice none 0 0, .slice none 0 0, .slice (some ⟨g2, 0, none⟩) k k, .slice (some ⟨g3, 0, none⟩) k k]) (w' := W3) (by kernel_rfl) rfl rfl rfl trivial (by first | rfl | go_simp) ?_
        simp only [Act.put, List.setIfInBounds_toArray, List.set_cons_zero, List.set_cons_succ]
        obtain ⟨X2c0, X2f0, X2c1, X2f1, X2c2, X2f2, X2c3, X2f3, X2c4, X2f4⟩ := X2.f5
        have X2z : w.heap.size < W3.heap.size := X2.lt
        refine anyC_storeN (w' := (((((W3.setCell ⟨w.heap.size, 0, none⟩ (.slice none 0 0)).setCell ⟨w.heap.size, 1, none⟩ (.slice none 0 0)).setCell ⟨w.heap.size, 2, none⟩ (.slice none 0 0)).setCell ⟨w.heap.size, 3, none⟩ (.slice (some ⟨g2, 0, none⟩) k k)).setCell ⟨w.heap.size, 4, none⟩ (.slice (some ⟨g3, 0, none⟩) k k))) (n := 1) (i := 6) (by kernel_rfl) rfl rfl rfl trivial ?_ ?_
        · go_simp
        have Y2 := (((((X2.set 0 (.slice none 0 0)).set 1 (.slice none 0 0)).set 2 (.slice none 0 0)).set 3 (.slice (some ⟨g2, 0, none⟩) k k)).set 4 (.slice (some ⟨g3, 0, none⟩) k k))
        have YH := (((((XH.other (a := ⟨w.heap.size, 0, none⟩) (by simp <;> omega) (.slice none 0 0)).other (a := ⟨w.heap.size, 1, none⟩) (by simp <;> omega) (.slice none 0 0)).other (a := ⟨w.heap.size, 2, none⟩) (by simp <;> omega) (.slice none 0 0)).other (a := ⟨w.heap.size, 3, none⟩) (by simp <;> omega) (.slice (some ⟨g2, 0, none⟩) k k)).other (a := ⟨w.heap.size, 4, none⟩) (by simp <;> omega) (.slice (some ⟨g3, 0, none⟩) k k))
        have YF := (((((XF.other (a := ⟨w.heap.size, 0, none⟩) (by simp <;> omega) (.slice none 0 0)).other (a := ⟨w.heap.size, 1, none⟩) (by simp <;> omega) (.slice none 0 0)).other (a := ⟨w.heap.size, 2, none⟩) (by simp <;> omega) (.slice none 0 0)).other (a := ⟨w.heap.size, 3, none⟩) (by simp <;> omega) (.slice (some ⟨g2, 0, none⟩) k k)).other (a := ⟨w.heap.size, 4, none⟩) (by simp <;> omega) (.slice (some ⟨g3, 0, none⟩) k k))
        have hB2 := (((((hB.setCell (p := ⟨w.heap.size, 0, none⟩) (by simp <;> omega) (.slice none 0 0)).setCell (p := ⟨w.heap.size, 1, none⟩) (by simp <;> omega) (.slice none 0 0)).setCell (p := ⟨w.heap.size, 2, none⟩) (by simp <;> omega) (.slice none 0 0)).setCell (p := ⟨w.heap.size, 3, none⟩) (by simp <;> omega) (.slice (some ⟨g2, 0, none⟩) k k)).setCell (p := ⟨w.heap.size, 4, none⟩) (by simp <;> omega) (.slice (some ⟨g3, 0, none⟩) k k))
        generalize (((((W3.setCell ⟨w.heap.size, 0, none⟩ (.slice none 0 0)).setCell ⟨w.heap.size, 1, none⟩ (.slice none 0 0)).setCell ⟨w.heap.size, 2, none⟩ (.slice none 0 0)).setCell ⟨w.heap.size, 3, none⟩ (.slice (some ⟨g2, 0, none⟩) k k)).setCell ⟨w.heap.size, 4, none⟩ (.slice (some ⟨g3, 0, none⟩) k k)) = W9 at Y2 YH YF hB2 ⊢
        simp only [List.set_cons_zero, List.set_cons_succ] at Y2
        refine anyC_valD (some 3) (n := 0) (i := 7) (v := .int .i64 0) (w' := W9) (by kernel_rfl) rfl rfl rfl trivial (by first | rfl | go_simp) ?_
        simp only [Act.put, List.setIfInBounds_toArray, List.set_cons_zero, List.set_cons_succ]
        refine anyC_done (by kernel_rfl) trivial ?_
        obtain ⟨Y2c0, Y2c1, Y2c2, Y2c3, Y2c4⟩ := Y2.c5
        go_wp2
        refine bodyPost_ret (v := .tuple #[.agg #[.slice none 0 0, .slice none 0 0, .slice none 0 0, .slice (some ⟨g2, 0, none⟩) k k, .slice (some ⟨g3, 0, none⟩) k k], .int .i64 0]) (by simp [results, Tryz.results7, go_sem, Y2c0, Y2c1, Y2c2, Y2c3, Y2c4]) rfl ?_
        exact ⟨_, _, _, _, _, rfl, new_made YH YF hk8, hB2⟩
    · have hmk := oMakeB k hk10 W1
      refine wpOp_valD (some 15) (v := .slice (some ⟨W1.heap.size, 0, none⟩) k k) (w' := W1.alloc (.cells (List.replicate k (Value.bool false)).toArray 4)) (by rfl) rfl rfl ?_ ?_
      · go_simp
      simp only [Act.put, List.setIfInBounds_toArray, List.set_cons_zero, List.set_cons_succ]
      clear hmk
      have hb := (Below.refl W1.heap.size W1).alloc (Nat.le_refl _) (.cells (List.replicate k (Value.bool false)).toArray 4)
      have XF := Box.new W1 (List.replicate k (Value.bool false)) 4
      have hB := hB.trans (hb.mono hB.size)
      have hg2 : w.heap.size < W1.heap.size := X2.lt
      have X2 := X2.later hb
      clear hb
      generalize W1.alloc (.cells (List.replicate k (Value.bool false)).toArray 4) = W2 at hB X2 XF ⊢
      generalize W1.heap.size = g2 at XF hg2 ⊢
      refine anyC_oneW (C := fun _ : World => True) (n := 4) (i := 2) (by kernel_rfl) trivial ?_
      · have hmk := oMakeI k hk10 W2
        refine wpOp_valD (some 13) (v := .slice (some ⟨W2.heap.size, 0, none⟩) k k) (w' := W2.alloc (.cells (List.replicate k (Value.int .i64 0)).toArray 3)) (by rfl) rfl rfl ?_ ?_
        · go_simp
        simp only [Act.put, List.setIfInBounds_toArray, List.set_cons_zero, List.set_cons_succ]
        clear hmk
        have hb := (Below.refl W2.heap.size W2).alloc (Nat.le_refl _) (.cells (List.replicate k (Value.int .i64 0)).toArray 3)
        have XH := Box.new W2 (List.replicate k (Value.int .i64 0)) 3
        have hB := hB.trans (hb.mono hB.size)
        have hg3 : w.heap.size < W2.heap.size := X2.lt
        have X2 := X2.later hb
        have XF := XF.later hb
        clear hb
        generalize W2.alloc (.cells (List.replicate k (Value.int .i64 0)).toArray 3) = W3 at hB X2 XH XF ⊢
        generalize W2.heap.size = g3 at XH hg3 ⊢
        refine anyC_valD (some 16) (n := 2) (i := 5) (v := .agg #[.slice none 0 0, .slice none 0 0, .slice none 0 0, .slice (some ⟨g3, 0, none⟩) k k, .slice (some ⟨g2, 0, none⟩) k k]) (w' := W3) (by kernel_rfl) rfl rfl rfl trivial (by first | rfl | go_simp) ?_
        simp only [Act.put, List.setIfInBounds_toArray, List.set_cons_zero, List.set_cons_succ]
        obtain ⟨X2c0, X2f0, X2c1, X2f1, X2c2, X2f2, X2c3, X2f3, X2c4, X2f4⟩ := X2.f5
        have X2z : w.heap.size < W3.heap.size := X2.lt
        refine anyC_storeN (w' := (((((W3.setCell ⟨w.heap.size, 0, none⟩ (.slice none 0 0)).setCell ⟨w.heap.size, 1, none⟩ (.slice none 0 0)).setCell ⟨w.heap.size, 2, none⟩ (.slice none 0 0)).setCell ⟨w.heap.size, 3, none⟩ (.slice (some ⟨g3, 0, none⟩) k k)).setCell ⟨w.heap.size, 4, none⟩ (.slice (some ⟨g2, 0, none⟩) k k))) (n := 1) (i := 6) (by kernel_rfl) rfl rfl rfl trivial ?_ ?_
        · go_simp
        have Y2 := (((((X2.set 0 (.slice none 0 0)).set 1 (.slice none 0 0)).set 2 (.slice none 0 0)).set 3 (.slice (some ⟨g3, 0, none⟩) k k)).set 4 (.slice (some ⟨g2, 0, none⟩) k k))
        have YH := (((((XH.other (a := ⟨w.heap.size, 0, none⟩) (by simp <;> omega) (.slice none 0 0)).other (a := ⟨w.heap.size, 1, none⟩) (by simp <;> omega) (.slice none 0 0)).other (a := ⟨w.heap.size, 2, none⟩) (by simp <;> omega) (.slice none 0 0)).other (a := ⟨w.heap.size, 3, none⟩) (by simp <;> omega) (.slice (some ⟨g3, 0, none⟩) k k)).other (a := ⟨w.heap.size, 4, none⟩) (by simp <;> omega) (.slice (some ⟨g2, 0, none⟩) k k))
        have YF := (((((XF.other (a := ⟨w.heap.size, 0, none⟩) (by simp <;> omega) (.slice none 0 0)).other (a := ⟨w.heap.size, 1, none⟩) (by simp <;> omega) (.slice none 0 0)).other (a := ⟨w.heap.size, 2, none⟩) (by simp <;> omega) (.slice none 0 0)).other (a := ⟨w.heap.size, 3, none⟩) (by simp <;> omega) (.slice (some ⟨g3, 0, none⟩) k k)).other (a := ⟨w.heap.size, 4, none⟩) (by simp <;> omega) (.slice (some ⟨g2, 0, none⟩) k k))
        have hB2 := (((((hB.setCell (p := ⟨w.heap.size, 0, none⟩) (by simp <;> omega) (.slice none 0 0)).setCell (p := ⟨w.heap.size, 1, none⟩) (by simp <;> omega) (.slice none 0 0)).setCell (p := ⟨w.heap.size, 2, none⟩) (by simp <;> omega) (.slice none 0 0)).setCell (p := ⟨w.heap.size, 3, none⟩) (by simp <;> omega) (.slice (some ⟨g3, 0, none⟩) k k)).setCell (p := ⟨w.heap.size, 4, none⟩) (by simp <;> omega) (.slice (some ⟨g2, 0, none⟩) k k))
        generalize (((((W3.setCell ⟨w.heap.size, 0, none⟩ (.slice none 0 0)).setCell ⟨w.heap.size, 1, none⟩ (.slice none 0 0)).setCell ⟨w.heap.size, 2, none⟩ (.slice none 0 0)).setCell ⟨w.heap.size, 3, none⟩ (.slice (some ⟨g3, 0, none⟩) k k)).setCell ⟨w.heap.size, 4, none⟩ (.slice (some ⟨g2, 0, none⟩) k k)) = W9 at Y2 YH YF hB2 ⊢
        simp only [List.set_cons_zero, List.set_cons_succ] at Y2
        refine anyC_valD (some 3) (n := 0) (i := 7) (v := .int .i64 0) (w' := W9) (by kernel_rfl) rfl rfl rfl trivial (by first | rfl | go_simp) ?_
        simp only [Act.put, List.setIfInBounds_toArray, List.set_cons_zero, List.set_cons_succ]
        refine anyC_done (by kernel_rfl) trivial ?_
        obtain ⟨Y2c0, Y2c1, Y2c2, Y2c3, Y2c4⟩ := Y2.c5
        go_wp2
        refine bodyPost_ret (v := .tuple #[.agg #[.slice none 0 0, .slice none 0 0, .slice none 0 0, .slice (some ⟨g3, 0, none⟩) k k, .slice (some ⟨g2, 0, none⟩) k k], .int .i64 0]) (by simp [results, Tryz.results7, go_sem, Y2c0, Y2c1, Y2c2, Y2c3, Y2c4]) rfl ?_
        exact ⟨_, _, _, _, _, rfl, new_made YH YF hk8, hB2⟩
  · have hmk := oMakeI k hk10 W0
    refine wpOp_valD (some 13) (v := .slice (some ⟨W0.heap.size, 0, none⟩) k k) (w' := W0.alloc (.cells (List.replicate k (Value.int .i64 0)).toArray 3)) (by rfl) rfl rfl ?_ ?_
    · go_simp
    simp only [Act.put, List.setIfInBounds_toArray, List.set_cons_zero, List.set_cons_succ]
    clear hmk
    have hb := (Below.refl W0.heap.size W0).alloc (Nat.le_refl _) (.cells (List.replicate k (Value.int .i64 0)).toArray 3)
    have XH := Box.new W0 (List.replicate k (Value.int .i64 0)) 3
    have hB := hB.trans (hb.mono hB.size)
    have hg1 : w.heap.size < W0.heap.size := X2.lt
    have X2 := X2.later hb
    clear hb
    generalize W0.alloc (.cells (List.replicate k (Value.int .i64 0)).toArray 3) = W1 at hB X2 XH ⊢
    generalize W0.heap.size = g1 at XH hg1 ⊢
    refine anyC_twoW (C := fun _ : World => True) (n := 5) (i := 0) (j := 4) (by kernel_rfl) trivial ?_ ?_
    · refine wpOp_callD (some 11) (by rfl) rfl rfl ?_ ((nNew_any W1).mono ?_)
      · go_simp
      rintro e W2 ⟨rfl, hb⟩
      refine ⟨_, rfl, ?_⟩
      simp only [Act.put, List.setIfInBounds_toArray, List.set_cons_zero, List.set_cons_succ]
      have hB := hB.trans (hb.mono hB.size)
      have X2 := X2.later hb
      have XH := XH.later hb
      refine anyC_oneW (C := fun _ : World => True) (n := 4) (i := 4) (by kernel_rfl) trivial ?_
      · have hmk := oMakeB k hk10 W2
        refine wpOp_valD (some 15) (v := .slice (some ⟨W2.heap.size, 0, none⟩) k k) (w' := W2.alloc (.cells (List.replicate k (Value.bool false)).toArray 4)) (by rfl) rfl rfl ?_ ?_
        · go_simp
        simp only [Act.put, List.setIfInBounds_toArray, List.set_cons_zero, List.set_cons_succ]
        clear hmk
        have hb := (Below.refl W2.heap.size W2).alloc (Nat.le_refl _) (.cells (List.replicate k (Value.bool false)).toArray 4)
        have XF := Box.new W2 (List.replicate k (Value.bool false)) 4
        have hB := hB.trans (hb.mono hB.size)
        have hg3 : w.heap.size < W2.heap.size := X2.lt
        have X2 := X2.later hb
        have XH := XH.later hb
        clear hb
        generalize W2.alloc (.cells (List.replicate k (Value.bool false)).toArray 4) = W3 at hB X2 XH XF ⊢
        generalize W2.heap.size = g3 at XF hg3 ⊢
        refine anyC_valD (some 16) (n := 2) (i := 5) (v := .agg #[.slice none 0 0, .slice none 0 0, .slice none 0 0, .slice (some ⟨g1, 0, none⟩) k k, .slice (some ⟨g3, 0, none⟩) k k]) (w' := W3) (by kernel_rfl) rfl rfl rfl trivial (by first | rfl | go_simp) ?_
        simp only [Act.put, List.setIfInBounds_toArray, List.set_cons_zero, List.set_cons_succ]
        obtain ⟨X2c0, X2f0, X2c1, X2f1, X2c2, X2f2, X2c3, X2f3, X2c4, X2f4⟩ := X2.f5
        have X2z : w.heap.size < W3.heap.size := X2.lt
        refine anyC_storeN (w' := (((((W3.setCell ⟨w.heap.size, 0, none⟩ (.slice none 0 0)).setCell ⟨w.heap.size, 1, none⟩ (.slice none 0 0)).setCell ⟨w.heap.size, 2, none⟩ (.slice none 0 0)).setCell ⟨w.heap.size, 3, none⟩ (.slice (some ⟨g1, 0, none⟩) k k)).setCell ⟨w.heap.size, 4, none⟩ (.slice (some ⟨g3, 0, none⟩) k k))) (n := 1) (i := 6) (by kernel_rfl) rfl rfl rfl trivial ?_ ?_
        · go_simp
        have Y2 := (((((X2.set 0 (.slice none 0 0)).set 1 (.slice none 0 0)).set 2 (.slice none 0 0)).set 3 (.slice (some ⟨g1, 0, none⟩) k k)).set 4 (.slice (some ⟨g3, 0, none⟩) k k))
        have YH := (((((XH.other (a := ⟨w.heap.size, 0, none⟩) (by simp <;> omega) (.slice none 0 0)).other (a := ⟨w.heap.size, 1, none⟩) (by simp <;> omega) (.slice none 0 0)).other (a := ⟨w.heap.size, 2, none⟩) (by simp <;> omega) (.slice none 0 0)).other (a := ⟨w.heap.size, 3, none⟩) (by simp <;> omega) (.slice (some ⟨g1, 0, none⟩) k k)).other (a := ⟨w.heap.size, 4, none⟩) (by simp <;> omega) (.slice (some ⟨g3, 0, none⟩) k k))
        have YF := (((((XF.other (a := ⟨w.heap.size, 0, none⟩) (by simp <;> omega) (.slice none 0 0)).other (a := ⟨w.heap.size, 1, none⟩) (by simp <;> omega) (.slice none 0 0)).other (a := ⟨w.heap.size, 2, none⟩) (by simp <;> omega) (.slice none 0 0)).other (a := ⟨w.heap.size, 3, none⟩) (by simp <;> omega) (.slice (some ⟨g1, 0, none⟩) k k)).other (a := ⟨w.heap.size, 4, none⟩) (by simp <;> omega) (.slice (some ⟨g3, 0, none⟩) k k))
        have hB2 := (((((hB.setCell (p := ⟨w.heap.size, 0, none⟩) (by simp <;> omega) (.slice none 0 0)).setCell (p := ⟨w.heap.size, 1, none⟩) (by simp <;> omega) (.slice none 0 0)).setCell (p := ⟨w.heap.size, 2, none⟩) (by simp <;> omega) (.slice none 0 0)).setCell (p := ⟨w.heap.size, 3, none⟩) (by simp <;> omega) (.slice (some ⟨g1, 0, none⟩) k k)).setCell (p := ⟨w.heap.size, 4, none⟩) (by simp <;> omega) (.slice (some ⟨g3, 0, none⟩) k k))
        generalize (((((W3.setCell ⟨w.heap.size, 0, none⟩ (.slice none 0 0)).setCell ⟨w.heap.size, 1, none⟩ (.slice none 0 0)).setCell ⟨w.heap.size, 2, none⟩ (.slice none 0 0)).setCell ⟨w.heap.size, 3, none⟩ (.slice (some ⟨g1, 0, none⟩) k k)).setCell ⟨w.heap.size, 4, none⟩ (.slice (some ⟨g3, 0, none⟩) k k)) = W9 at Y2 YH YF hB2 ⊢
        simp only [List.set_cons_zero, List.set_cons_succ] at Y2
        refine anyC_valD (some 3) (n := 0) (i := 7) (v := .int .i64 0) (w' := W9) (by kernel_rfl) rfl rfl rfl trivial (by first | rfl | go_simp) ?_
        simp only [Act.put, List.setIfInBounds_toArray, List.set_cons_zero, List.set_cons_succ]
        refine anyC_done (by kernel_rfl) trivial ?_
        obtain ⟨Y2c0, Y2c1, Y2c2, Y2c3, Y2c4⟩ := Y2.c5
        go_wp2
        refine bodyPost_ret (v := .tuple #[.agg #[.slice none 0 0, .slice none 0 0, .slice none 0 0, .slice (some ⟨g1, 0, none⟩) k k, .slice (some ⟨g3, 0, none⟩) k k], .int .i64 0]) (by simp [results, Tryz.results7, go_sem, Y2c0, Y2c1, Y2c2, Y2c3, Y2c4]) rfl ?_
        exact ⟨_, _, _, _, _, rfl, new_made YH YF hk8, hB2⟩
    · have hmk := oMakeB k hk10 W1
      refine wpOp_valD (some 15) (v := .slice (some ⟨W1.heap.size, 0, none⟩) k k) (w' := W1.alloc (.cells (List.replicate k (Value.bool false)).toArray 4)) (by rfl) rfl rfl ?_ ?_
      · go_simp
      simp only [Act.put, List.setIfInBounds_toArray, List.set_cons_zero, List.set_cons_succ]
      clear hmk
      have hb := (Below.refl W1.heap.size W1).alloc (Nat.le_refl _) (.cells (List.replicate k (Value.bool false)).toArray 4)
      have XF := Box.new W1 (List.replicate k (Value.bool false)) 4
      have hB := hB.trans (hb.mono hB.size)
      have hg2 : w.heap.size < W1.heap.size := X2.lt
      have X2 := X2.later hb
      have XH := XH.later hb
      clear hb
      generalize W1.alloc (.cells (List.replicate k (Value.bool false)).toArray 4) = W2 at hB X2 XH XF ⊢
      generalize W1.heap.size = g2 at XF hg2 ⊢
      refine anyC_oneW (C := fun _ : World => True) (n := 4) (i := 0) (by kernel_rfl) trivial ?_
      · refine wpOp_callD (some 11) (by rfl) rfl rfl ?_ ((nNew_any W2).mono ?_)
        · go_simp
        rintro e W3 ⟨rfl, hb⟩
        refine ⟨_, rfl, ?_⟩
        simp only [Act.put, List.setIfInBounds_toArray, List.set_cons_zero, List.set_cons_succ]
        have hB := hB.trans (hb.mono hB.size)
        have X2 := X2.later hb
        have XH := XH.later hb
        have XF := XF.later hb
        refine anyC_valD (some 16) (n := 2) (i := 5) (v := .agg #[.slice none 0 0, .slice none 0 0, .slice none 0 0, .slice (some ⟨g1, 0, none⟩) k k, .slice (some ⟨g2, 0, none⟩) k k]) (w' := W3) (by kernel_rfl) rfl rfl rfl trivial (by first | rfl | go_simp) ?_
        simp only [Act.put, List.setIfInBounds_toArray, List.set_cons_zero, List.set_cons_succ]
        obtain ⟨X2c0, X2f0, X2c1, X2f1, X2c2, X2f2, X2c3, X2f3, X2c4, X2f4⟩ := X2.f5
        have X2z : w.heap.size < W3.heap.size := X2.lt
        refine anyC_storeN (w' := (((((W3.setCell ⟨w.heap.size, 0, none⟩ (.slice none 0 0)).setCell ⟨w.heap.size, 1, none⟩ (.slice none 0 0)).setCell ⟨w.heap.size, 2, none⟩ (.slice none 0 0)).setCell ⟨w.heap.size, 3, none⟩ (.slice (some ⟨g1, 0, none⟩) k k)).setCell ⟨w.heap.size, 4, none⟩ (.slice (some ⟨g2, 0, none⟩) k k))) (n := 1) (i := 6) (by kernel_rfl) rfl rfl rfl trivial ?_ ?_
        · go_simp
        have Y2 := (((((X2.set 0 (.slice none 0 0)).set 1 (.slice none 0 0)).set 2 (.slice none 0 0)).set 3 (.slice (some ⟨g1, 0, none⟩) k k)).set 4 (.slice (some ⟨g2, 0, none⟩) k k))
        have YH := (((((XH.other (a := ⟨w.heap.size, 0, none⟩) (by simp <;> omega) (.slice none 0 0)).other (a := ⟨w.heap.size, 1, none⟩) (by simp <;> omega) (.slice none 0 0)).other (a := ⟨w.heap.size, 2, none⟩) (by simp <;> omega) (.slice none 0 0)).other (a := ⟨w.heap.size, 3, none⟩) (by simp <;> omega) (.slice (some ⟨g1, 0, none⟩) k k)).other (a := ⟨w.heap.size, 4, none⟩) (by simp <;> omega) (.slice (some ⟨g2, 0, none⟩) k k))
        have YF := (((((XF.other (a := ⟨w.heap.size, 0, none⟩) (by simp <;> omega) (.slice none 0 0)).other (a := ⟨w.heap.size, 1, none⟩) (by simp <;> omega) (.slice none 0 0)).other (a := ⟨w.heap.size, 2, none⟩) (by simp <;> omega) (.slice none 0 0)).other (a := ⟨w.heap.size, 3, none⟩) (by simp <;> omega) (.slice (some ⟨g1, 0, none⟩) k k)).other (a := ⟨w.heap.size, 4, none⟩) (by simp <;> omega) (.slice (some ⟨g2, 0, none⟩) k k))
        have hB2 := (((((hB.setCell (p := ⟨w.heap.size, 0, none⟩) (by simp <;> omega) (.slice none 0 0)).setCell (p := ⟨w.heap.size, 1, none⟩) (by simp <;> omega) (.slice none 0 0)).setCell (p := ⟨w.heap.size, 2, none⟩) (by simp <;> omega) (.slice none 0 0)).setCell (p := ⟨w.heap.size, 3, none⟩) (by simp <;> omega) (.slice (some ⟨g1, 0, none⟩) k k)).setCell (p := ⟨w.heap.size, 4, none⟩) (by simp <;> omega) (.slice (some ⟨g2, 0, none⟩) k k))
        generalize (((((W3.setCell ⟨w.heap.size, 0, none⟩ (.slice none 0 0)).setCell ⟨w.heap.size, 1, none⟩ (.slice none 0 0)).setCell ⟨w.heap.size, 2, none⟩ (.slice none 0 0)).setCell ⟨w.heap.size, 3, none⟩ (.slice (some ⟨g1, 0, none⟩) k k)).setCell ⟨w.heap.size, 4, none⟩ (.slice (some ⟨g2, 0, none⟩) k k)) = W9 at Y2 YH YF hB2 ⊢
        simp only [List.set_cons_zero, List.set_cons_succ] at Y2
        refine anyC_valD (some 3) (n := 0) (i := 7) (v := .int .i64 0) (w' := W9) (by kernel_rfl) rfl rfl rfl trivial (by first | rfl | go_simp) ?_
        simp only [Act.put, List.setIfInBounds_toArray, List.set_cons_zero, List.set_cons_succ]
        refine anyC_done (by kernel_rfl) trivial ?_
        obtain ⟨Y2c0, Y2c1, Y2c2, Y2c3, Y2c4⟩ := Y2.c5
        go_wp2
        refine bodyPost_ret (v := .tuple #[.agg #[.slice none 0 0, .slice none 0 0, .slice none 0 0, .slice (some ⟨g1, 0, none⟩) k k, .slice (some ⟨g2, 0, none⟩) k k], .int .i64 0]) (by simp [results, Tryz.results7, go_sem, Y2c0, Y2c1, Y2c2, Y2c3, Y2c4]) rfl ?_
        exact ⟨_, _, _, _, _, rfl, new_made YH YF hk8, hB2⟩
  · have hmk := oMakeB k hk10 W0
    refine wpOp_valD (some 15) (v := .slice (some ⟨W0.heap.size, 0, none⟩) k k) (w' := W0.alloc (.cells (List.replicate k (Value.bool false)).toArray 4)) (by rfl) rfl rfl ?_ ?_
    · go_simp
    simp only [Act.put, List.setIfInBounds_toArray, List.set_cons_zero, List.set_cons_succ]
    clear hmk
    have hb := (Below.refl W0.heap.size W0).alloc (Nat.le_refl _) (.cells (List.replicate k (Value.bool false)).toArray 4)
    have XF := Box.new W0 (List.replicate k (Value.bool false)) 4
    have hB := hB.trans (hb.mono hB.size)
    have hg1 : w.heap.size < W0.heap.size := X2.lt
    have X2 := X2.later hb
    clear hb
    generalize W0.alloc (.cells (List.replicate k (Value.bool false)).toArray 4) = W1 at hB X2 XF ⊢
    generalize W0.heap.size = g1 at XF hg1 ⊢
    refine anyC_twoW (C := fun _ : World => True) (n := 5) (i := 0) (j := 2) (by kernel_rfl) trivial ?_ ?_
    · refine wpOp_callD (some 11) (by rfl) rfl rfl ?_ ((nNew_any W1).mono ?_)
      · go_simp
      rintro e W2 ⟨rfl, hb⟩
      refine ⟨_, rfl, ?_⟩
      simp only [Act.put, List.setIfInBounds_toArray, List.set_cons_zero, List.set_cons_succ]
      have hB := hB.trans (hb.mono hB.size)
      have X2 := X2.later hb
      have XF := XF.later hb
      refine anyC_oneW (C := fun _ : World => True) (n := 4) (i := 2) (by kernel_rfl) trivial ?_
      · have hmk := oMakeI k hk10 W2
        refine wpOp_valD (some 13) (v := .slice (some ⟨W2.heap.size, 0, none⟩) k k) (w' := W2.alloc (.cells (List.replicate k (Value.int .i64 0)).toArray 3)) (by rfl) rfl rfl ?_ ?_
        · go_simp
        simp only [Act.put, List.setIfInBounds_toArray, List.set_cons_zero, List.set_cons_succ]
        clear hmk
        have hb := (Below.refl W2.heap.size W2).alloc (Nat.le_refl _) (.cells (List.replicate k (Value.int .i64 0)).toArray 3)
        have XH := Box.new W2 (List.replicate k (Value.int .i64 0)) 3
        have hB := hB.trans (hb.mono hB.size)
        have hg3 : w.heap.size < W2.heap.size := X2.lt
        have X2 := X2.later hb
        have XF := XF.later hb
        clear hb
        generalize W2.alloc (.cells (List.replicate k (Value.int .i64 0)).toArray 3) = W3 at hB X2 XH XF ⊢
        generalize W2.heap.size = g3 at XH hg3 ⊢
        refine anyC_valD (some 16) (n := 2) (i := 5) (v := .agg #[.slice none 0 0, .slice none 0 0, .slice none 0 0, .slice (some ⟨g3, 0, none⟩) k k, .slice (some ⟨g1, 0, none⟩) k k]) (w' := W3) (by kernel_rfl) rfl rfl rfl trivial (by first | rfl | go_simp) ?_
        simp only [Act.put, List.setIfInBounds_toArray, List.set_cons_zero, List.set_cons_succ]
        obtain ⟨X2c0, X2f0, X2c1, X2f1, X2c2, X2f2, X2c3, X2f3, X2c4, X2f4⟩ := X2.f5
        have X2z : w.heap.size < W3.heap.size := X2.lt
        refine anyC_storeN (w' := (((((W3.setCell ⟨w.heap.size, 0, none⟩ (.slice none 0 0)).setCell ⟨w.heap.size, 1, none⟩ (.slice none 0 0)).setCell ⟨w.heap.size, 2, none⟩ (.slice none 0 0)).setCell ⟨w.heap.size, 3, none⟩ (.slice (some ⟨g3, 0, none⟩) k k)).setCell ⟨w.heap.size, 4, none⟩ (.slice (some ⟨g1, 0, none⟩) k k))) (n := 1) (i := 6) (by kernel_rfl) rfl rfl rfl trivial ?_ ?_
        · go_simp
        have Y2 := (((((X2.set 0 (.slice none 0 0)).set 1 (.slice none 0 0)).set 2 (.slice none 0 0)).set 3 (.slice (some ⟨g3, 0, none⟩) k k)).set 4 (.slice (some ⟨g1, 0, none⟩) k k))
        have YH := (((((XH.other (a := ⟨w.heap.size, 0, none⟩) (by simp <;> omega) (.slice none 0 0)).other (a := ⟨w.heap.size, 1, none⟩) (by simp <;> omega) (.slice none 0 0)).other (a := ⟨w.heap.size, 2, none⟩) (by simp <;> omega) (.slice none 0 0)).other (a := ⟨w.heap.size, 3, none⟩) (by simp <;> omega) (.slice (some ⟨g3, 0, none⟩) k k)).other (a := ⟨w.heap.size, 4, none⟩) (by simp <;> omega) (.slice (some ⟨g1, 0, none⟩) k k))
        have YF := (((((XF.other (a := ⟨w.heap.size, 0, none⟩) (by simp <;> omega) (.slice none 0 0)).other (a := ⟨w.heap.size, 1, none⟩) (by simp <;> omega) (.slice none 0 0)).other (a := ⟨w.heap.size, 2, none⟩) (by simp <;> omega) (.slice none 0 0)).other (a := ⟨w.heap.size, 3, none⟩) (by simp <;> omega) (.slice (some ⟨g3, 0, none⟩) k k)).other (a := ⟨w.heap.size, 4, none⟩) (by simp <;> omega) (.slice (some ⟨g1, 0, none⟩) k k))
        have hB2 := (((((hB.setCell (p := ⟨w.heap.size, 0, none⟩) (by simp <;> omega) (.slice none 0 0)).setCell (p := ⟨w.heap.size, 1, none⟩) (by simp <;> omega) (.slice none 0 0)).setCell (p := ⟨w.heap.size, 2, none⟩) (by simp <;> omega) (.slice none 0 0)).setCell (p := ⟨w.heap.size, 3, none⟩) (by simp <;> omega) (.slice (some ⟨g3, 0, none⟩) k k)).setCell (p := ⟨w.heap.size, 4, none⟩) (by simp <;> omega) (.slice (some ⟨g1, 0, none⟩) k k))
        generalize (((((W3.setCell ⟨w.heap.size, 0, none⟩ (.slice none 0 0)).setCell ⟨w.heap.size, 1, none⟩ (.slice none 0 0)).setCell ⟨w.heap.size, 2, none⟩ (.slice none 0 0)).setCell ⟨w.heap.size, 3, none⟩ (.slice (some ⟨g3, 0, none⟩) k k)).setCell ⟨w.heap.size, 4, none⟩ (.slice (some ⟨g1, 0, none⟩) k k)) = W9 at Y2 YH YF hB2 ⊢
        simp only [List.set_cons_zero, List.set_cons_succ] at Y2
        refine anyC_valD (some 3) (n := 0) (i := 7) (v := .int .i64 0) (w' := W9) (by kernel_rfl) rfl rfl rfl trivial (by first | rfl | go_simp) ?_
        simp only [Act.put, List.setIfInBounds_toArray, List.set_cons_zero, List.set_cons_succ]
        refine anyC_done (by kernel_rfl) trivial ?_
        obtain ⟨Y2c0, Y2c1, Y2c2, Y2c3, Y2c4⟩ := Y2.c5
        go_wp2
        refine bodyPost_ret (v := .tuple #[.agg #[.slice none 0 0, .slice none 0 0, .slice none 0 0, .slice (some ⟨g3, 0, none⟩) k k, .slice (some ⟨g1, 0, none⟩) k k], .int .i64 0]) (by simp [results, Tryz.results7, go_sem, Y2c0, Y2c1, Y2c2, Y2c3, Y2c4]) rfl ?_
        exact ⟨_, _, _, _, _, rfl, new_made YH YF hk8, hB2⟩
    · have hmk := oMakeI k hk10 W1
      refine wpOp_valD (some 13) (v := .slice (some ⟨W1.heap.size, 0, none⟩) k k) (w' := W1.alloc (.cells (List.replicate k (Value.int .i64 0)).toArray 3)) (by rfl) rfl rfl ?_ ?_
      · go_simp
      simp only [Act.put, List.setIfInBounds_toArray, List.set_cons_zero, List.set_cons_succ]
      clear hmk
      have hb := (Below.refl W1.heap.size W1).alloc (Nat.le_refl _) (.cells (List.replicate k (Value.int .i64 0)).toArray 3)
      have XH := Box.new W1 (List.replicate k (Value.int .i64 0)) 3
      have hB := hB.trans (hb.mono hB.size)
      have hg2 : w.heap.size < W1.heap.size := X2.lt
      have X2 := X2.later hb
      have XF := XF.later hb
      clear hb
      generalize W1.alloc (.cells (List.replicate k (Value.int .i64 0)).toArray 3) = W2 at hB X2 XH XF ⊢
      generalize W1.heap.size = g2 at XH hg2 ⊢
      refine anyC_oneW (C := fun _ : World => True) (n := 4) (i := 0) (by kernel_rfl) trivial ?_
      · refine wpOp_callD (some 11) (by rfl) rfl rfl ?_ ((nNew_any W2).mono ?_)
        · go_simp
        rintro e W3 ⟨rfl, hb⟩
        refine ⟨_, rfl, ?_⟩
        simp only [Act.put, List.setIfInBounds_toArray, List.set_cons_zero, List.set_cons_succ]
        have hB := hB.trans (hb.mono hB.size)
        have X2 := X2.later hb
        have XH := XH.later hb
        have XF := XF.later hb
        refine anyC_valD (some 16) (n := 2) (i := 5) (v := .agg #[.slice none 0 0, .slice none 0 0, .slice none 0 0, .slice (some ⟨g2, 0, none⟩) k k, .slice (some ⟨g1, 0, none⟩) k k]) (w' := W3) (by kernel_rfl) rfl rfl rfl trivial (by first | rfl | go_simp) ?_
        simp only [Act.put, List.setIfInBounds_toArray, List.set_cons_zero, List.set_cons_succ]
        obtain ⟨X2c0, X2f0, X2c1, X2f1, X2c2, X2f2, X2c3, X2f3, X2c4, X2f4⟩ := X2.f5
        have X2z : w.heap.size < W3.heap.size := X2.lt
        refine anyC_storeN (w' := (((((W3.setCell ⟨w.heap.size, 0, none⟩ (.slice none 0 0)).setCell ⟨w.heap.size, 1, none⟩ (.slice none 0 0)).setCell ⟨w.heap.size, 2, none⟩ (.slice none 0 0)).setCell ⟨w.heap.size, 3, none⟩ (.slice (some ⟨g2, 0, none⟩) k k)).setCell ⟨w.heap.size, 4, none⟩ (.slice (some ⟨g1, 0, none⟩) k k))) (n := 1) (i := 6) (by kernel_rfl) rfl rfl rfl trivial ?_ ?_
        · go_simp
        have Y2 := (((((X2.set 0 (.slice none 0 0)).set 1 (.slice none 0 0)).set 2 (.slice none 0 0)).set 3 (.slice (some ⟨g2, 0, none⟩) k k)).set 4 (.slice (some ⟨g1, 0, none⟩) k k))
        have YH := (((((XH.other (a := ⟨w.heap.size, 0, none⟩) (by simp <;> omega) (.slice none 0 0)).other (a := ⟨w.heap.size, 1, none⟩) (by simp <;> omega) (.slice none 0 0)).other (a := ⟨w.heap.size, 2, none⟩) (by simp <;> omega) (.slice none 0 0)).other (a := ⟨w.heap.size, 3, none⟩) (by simp <;> omega) (.slice (some ⟨g2, 0, none⟩) k k)).other (a := ⟨w.heap.size, 4, none⟩) (by simp <;> omega) (.slice (some ⟨g1, 0, none⟩) k k))
        have YF := (((((XF.other (a := ⟨w.heap.size, 0, none⟩) (by simp <;> omega) (.slice none 0 0)).other (a := ⟨w.heap.size, 1, none⟩) (by simp <;> omega) (.slice none 0 0)).other (a := ⟨w.heap.size, 2, none⟩) (by simp <;> omega) (.slice none 0 0)).other (a := ⟨w.heap.size, 3, none⟩) (by simp <;> omega) (.slice (some ⟨g2, 0, none⟩) k k)).other (a := ⟨w.heap.size, 4, none⟩) (by simp <;> omega) (.slice (some ⟨g1, 0, none⟩) k k))
        have hB2 := (((((hB.setCell (p := ⟨w.heap.size, 0, none⟩) (by simp <;> omega) (.slice none 0 0)).setCell (p := ⟨w.heap.size, 1, none⟩) (by simp <;> omega) (.slice none 0 0)).setCell (p := ⟨w.heap.size, 2, none⟩) (by simp <;> omega) (.slice none 0 0)).setCell (p := ⟨w.heap.size, 3, none⟩) (by simp <;> omega) (.slice (some ⟨g2, 0, none⟩) k k)).setCell (p := ⟨w.heap.size, 4, none⟩) (by simp <;> omega) (.slice (some ⟨g1, 0, none⟩) k k))
        generalize (((((W3.setCell ⟨w.heap.size, 0, none⟩ (.slice none 0 0)).setCell ⟨w.heap.size, 1, none⟩ (.slice none 0 0)).setCell ⟨w.heap.size, 2, none⟩ (.slice none 0 0)).setCell ⟨w.heap.size, 3, none⟩ (.slice (some ⟨g2, 0, none⟩) k k)).setCell ⟨w.heap.size, 4, none⟩ (.slice (some ⟨g1, 0, none⟩) k k)) = W9 at Y2 YH YF hB2 ⊢
        simp only [List.set_cons_zero, List.set_cons_succ] at Y2
        refine anyC_valD (some 3) (n := 0) (i := 7) (v := .int .i64 0) (w' := W9) (by kernel_rfl) rfl rfl rfl trivial (by first | rfl | go_simp) ?_
        simp only [Act.put, List.setIfInBounds_toArray, List.set_cons_zero, List.set_cons_succ]
        refine anyC_done (by kernel_rfl) trivial ?_
        obtain ⟨Y2c0, Y2c1, Y2c2, Y2c3, Y2c4⟩ := Y2.c5
        go_wp2
        refine bodyPost_ret (v := .tuple #[.agg #[.slice none 0 0, .slice none 0 0, .slice none 0 0, .slice (some ⟨g2, 0, none⟩) k k, .slice (some ⟨g1, 0, none⟩) k k], .int .i64 0]) (by simp [results, Tryz.results7, go_sem, Y2c0, Y2c1, Y2c2, Y2c3, Y2c4]) rfl ?_
        exact ⟨_, _, _, _, _, rfl, new_made YH YF hk8, hB2⟩
end Go.Proofs.YtmbifmmkccghfaaGreat
namespace Go.Proofs.YtmbifmmkccghfaaGreat
open Go.RowKit
theorem bytes_of {w : World} {S : Nat → Prop} {V : Value} {l : Bs} (h : BsAt w S V l) : BytesAt w w.heap.size V l := by
  obtain ⟨h0, A, c, hv, hn, h1⟩ := h
  refine ⟨h0, A, c, hv, hn, fun i hi => ?_⟩
  obtain ⟨b, off, hA, _, hb, h2⟩ := h1 i hi
  exact ⟨b, off, hA, hb, h2⟩
abbrev oEncM (m : Int × Int) : List Value := [.int .i64 m.1, .int .i64 m.2]
def lkL (l : List (Int × Int)) : List Value := l.flatMap oEncM
theorem lkL_length (l : List (Int × Int)) : (lkL l).length = l.length * 2 := by
  induction l with
  | nil => rfl
  | cons x l ih =>
    simp only [lkL, List.flatMap_cons, List.length_append, List.length_cons, List.length_nil] at ih ⊢
    omega
theorem lkL_append (l m : List (Int × Int)) : lkL (l ++ m) = lkL l ++ lkL m := List.flatMap_append
theorem oneM (m : Int × Int) : ∀ u ∈ oEncM m, u.oneCell' = true := by
  intro u hu
  simp at hu
  rcases hu with rfl | rfl <;> rfl
theorem one_lkL {l : List (Int × Int)} : ∀ u ∈ lkL l, u.oneCell' = true := by
  intro u hu
  obtain ⟨m, _, hm⟩ := List.mem_flatMap.1 hu
  exact oneM m u hm
theorem lkL_at {l : List (Int × Int)} {k : Nat} (hk : k < l.length) : (lkL l)[k * 2]? = some (.int .i64 (l.getD k (0, 0)).1) ∧ (lkL l)[k * 2 + 1]? = some (.int .i64 (l.getD k (0, 0)).2) := by
  have h0 := flatMap_at (enc := oEncM) (size := 2) (fun _ => rfl) l k 0 hk (by decide)
  have h1 := flatMap_at (enc := oEncM) (size := 2) (fun _ => rfl) l k 1 hk (by decide)
  rw [gd_at hk]
  exact ⟨h0, h1⟩
theorem oMade2 (v : Value) (n : Nat) : madeCells #[v, v] n = (List.replicate n v).toArray := by
  rw [madeCells]
  apply Array.ext'
  apply List.ext_getElem?
  intro i
  rcases Nat.lt_or_ge i n with hi | hi
  · rcases Nat.mod_two_eq_zero_or_one i with h | h <;> simp [hi, h]
  · simp [hi]
theorem oMakeM (n : Nat) (hn : n ≤ 8192) (w : World) : (Instr.makeSlice 45 (.int .i64 (n : Int)) (.int .i64 (n : Int))).run Tryz.prog w = .ok (.slice (some ⟨w.heap.size, 0, none⟩) n n) (w.alloc (.cells (List.replicate (n * 2) (Value.int .i64 0)).toArray 101)) := by
  obtain ⟨i, h1, h2, h3, h4⟩ := info_parts (show (Tryz.prog.info? 101).map (fun i => (i.zero, i.size, i.bytes)) = some (some (.agg #[.int .i64 0, .int .i64 0]), 2, 16) by kernel_rfl)
  have := run_makeSlice (P := Tryz.prog) w 45 101 i (.agg #[.int .i64 0, .int .i64 0]) Tryz.underlying45 h1 h2 .i64 .i64 n n (by omega) (Int.le_refl _) (by rw [h3]; simp; omega) (by rw [h4]; omega) (by omega)
  rw [h3] at this
  simp only [Int.toNat_natCast] at this
  rw [this, ← oMade2]
  rfl
theorem lks_box {w : World} {g : Nat} {l : List (Int × Int)} (h : Box w g (lkL l)) (hm : l.length ≤ maxLen) : LksAt w w.heap.size (.slice (some ⟨g, 0, none⟩) l.length l.length) l := by
  refine ⟨.inr ⟨_, _, _, rfl, Nat.le_refl _, hm⟩, _, _, rfl, hm, fun i hi => ⟨g, 0, rfl, h.lt, fun j hj => ?_⟩⟩
  obtain ⟨e0, e1⟩ := lkL_at hi
  rw [Nat.zero_add, h.cell]
  unfold lkCells
  rcases j with _ | _ | j
  · rw [Nat.add_zero, e0]; rfl
  · rw [e1]; rfl
  · omega
theorem OwnE.lks {w : World} {base : Nat} {V : Value} {l : List (Int × Int)} (h : OwnE oEncM 2 w base 101 V l) (hl : l.length ≤ maxLen) : LksAt w w.heap.size V l := by
  refine ⟨ownE_cap h, ?_⟩
  obtain ⟨A, c, hv, hc⟩ := OwnE.sl h (fun _ => rfl)
  refine ⟨A, c, hv, hl, fun k hk => ?_⟩
  obtain ⟨b, rfl, _, hb, h2⟩ := hc k hk
  refine ⟨b, 0, rfl, hb, fun j hj => ?_⟩
  rw [Nat.zero_add, h2 j hj]
  unfold lkCells
  rw [gd_at hk]
  rcases j with _ | _ | j
  · rfl
  · rfl
  · omega
theorem run_copy_rowS (w : World) (dT sT ty elem : TypeId) (g dLen dCap : Nat) (a : Addr) (sLen sCap size : Nat) (cur : Array Value) (t : TypeId) (cs : List Value) {k : Nat} (hk : Nat.min sLen dLen = k)
    (hu : Tryz.prog.underlying dT = some (.slice elem)) (hs : (Tryz.prog.info? elem).map (·.size) = some size)
    (hg : w.heap[g]? = some (.cells cur t (0, 0))) (hn : cs.length = k * size)
    (hsrc : ∀ j v, cs[j]? = some v → w.cell? (a.add j) = some v) (hfit : cs.length ≤ cur.size) (h1 : ∀ v ∈ cs, v.oneCell' = true) :
    (Builtin.copy_ #[dT, sT] ty #[.slice (some ⟨g, 0, none⟩) dLen dCap, .slice (some a) sLen sCap]).run Tryz.prog w =
      .ok (goInt k) (w.setRow g (cs ++ cur.toList.drop cs.length).toArray) := by
  have hl := run_loadCells_list (P := Tryz.prog) w a cs hsrc
  have hst := run_storeCells_at Tryz.prog g 0 t cs 0 cur w hg (by simpa using hfit) h1
  cases hq : Tryz.prog.info? elem with
  | none => simp [hq] at hs
  | some i =>
    have hi : i.size = size := by simpa [hq] using hs
    simp [Builtin.copy_, run_underlying hu, Builtin.lenOf, Builtin.firstCells, sizeOf, typeInfo, hq, hi, hk, ← hn, hl, hst]
theorem run_copy_noneS (w : World) (dT sT ty elem : TypeId) (d a : Option Addr) (dLen dCap sLen sCap : Nat) (hu : Tryz.prog.underlying dT = some (.slice elem)) (hs : ((Tryz.prog.info? elem).map (·.size)).isSome = true) (hn : Nat.min sLen dLen = 0) :
    (Builtin.copy_ #[dT, sT] ty #[.slice d dLen dCap, .slice a sLen sCap]).run Tryz.prog w = .ok (goInt 0) w := by
  cases hq : Tryz.prog.info? elem with
  | none => simp [hq] at hs
  | some i =>
    have hl : ∀ (x : Addr), (loadCells x 0).run Tryz.prog w = .ok #[] w := fun x => by simpa using run_loadCells_list (P := Tryz.prog) w x [] (by simp)
    cases d <;> cases a <;> simp [Builtin.copy_, run_underlying hu, Builtin.lenOf, Builtin.firstCells, sizeOf, typeInfo, hq, hn, storeCells, hl]
theorem copy_lks (ty : TypeId) {w : World} {g k c : Nat} {A : Option Addr} {l : List (Int × Int)} (hl : l.length = k) (hx : LksAt w w.heap.size (.slice A k c) l) (X : Box w g (List.replicate ((k + 1) * 2) (Value.int .i64 0))) :
    ∃ w', (copF #[45, 45] ty #[.slice (some ⟨g, 0, none⟩) (k + 1) (k + 1), .slice A k c]).run Tryz.prog w = .ok (.int .i64 (k : Int)) w' ∧ Box w' g (lkL l ++ [.int .i64 0, .int .i64 0]) ∧ Below g w w' := by
  have hs : (Tryz.prog.info? 101).map (·.size) = some 2 := by kernel_rfl
  have hmin : Nat.min k (k + 1) = k := Nat.min_eq_left (Nat.le_succ k)
  unfold copF
  rcases Nat.eq_zero_or_pos k with h0 | h0
  · subst h0
    obtain rfl : l = [] := List.eq_nil_of_length_eq_zero hl
    exact ⟨w, run_copy_noneS w _ _ ty 101 _ _ _ _ _ _ Tryz.underlying45 (by rw [hs]; rfl) hmin, X, Below.refl _ _⟩
  · obtain ⟨ab, ao, rfl, _, hc⟩ := hx.lk (by omega)
    obtain ⟨t, ht⟩ := X
    have hr := run_copy_rowS w 45 45 ty 101 g (k + 1) (k + 1) ⟨ab, ao, none⟩ k c 2 _ t (lkL l) hmin Tryz.underlying45 hs ht (by rw [lkL_length, hl]) (fun j v hv => by
      have hj : j < l.length * 2 := by have := (List.getElem?_eq_some_iff.1 hv).1; rwa [lkL_length] at this
      obtain ⟨e0, e1⟩ := lkL_at (l := l) (k := j / 2) (by omega)
      obtain ⟨c0, c1⟩ := hc (j / 2) (by omega)
      rw [add_at]
      rcases Nat.mod_two_eq_zero_or_one j with h2 | h2
      · have ej : j = j / 2 * 2 := by omega
        rw [ej] at hv
        show w.cell? ⟨ab, ao + j, none⟩ = _
        rw [ej, c0, ← e0, hv]
      · have ej : j = j / 2 * 2 + 1 := by omega
        rw [ej] at hv
        show w.cell? ⟨ab, ao + j, none⟩ = _
        rw [ej, ← Nat.add_assoc, c1, ← e1, hv]) (by rw [lkL_length]; simp; omega) one_lkL
    refine ⟨_, hr, ⟨t, ?_⟩, ⟨rfl, rfl, rfl, by simp [World.setRow], fun b hb => setRow_other w g b _ (by omega)⟩⟩
    rw [World.setRow, Array.getElem?_modify, if_pos rfl, ht]
    simp only [Option.map_some, Option.some.injEq, lkL_length, hl, List.drop_replicate]
    rw [show (k + 1) * 2 - k * 2 = 2 by omega]
    rfl
theorem Sl.set_netO {w : World} {B size n : Nat} {g : Nat → Nat → Value} {v : Value} (h : Sl w B size n g v) (hs : 0 < size) (hi : ∀ i, i < n → ∃ k z, g i 0 = .int k z) {x : Nat} {A1 A2 : Option Addr} {k1 c1 k2 c2 : Nat}
    (hx : Box w x [.slice A1 k1 c1, .slice A2 k2 c2]) (j : Nat) (u : Value) : Sl (w.setCell ⟨x, j, none⟩ u) B size n g v := by
  obtain ⟨A, c, hv, hm, h1⟩ := h
  refine ⟨A, c, hv, hm, fun i hin => ?_⟩
  obtain ⟨b, off, ha, hb, h3⟩ := h1 i hin
  have hne : b ≠ x := by
    rintro rfl
    have h4 := h3 0 hs
    rw [hx.cell] at h4
    obtain ⟨k, z, e⟩ := hi i hin
    rw [e] at h4
    generalize off + (i * size + 0) = m at h4
    match m with
    | 0 => simp at h4
    | 1 => simp at h4
    | m + 2 => simp at h4
  exact ⟨b, off, ha, hb, fun q hq => by rw [World.cell?_of_block (w := w) (Below.heap_setCell w ⟨x, j, none⟩ u b hne)]; exact h3 q hq⟩
theorem BytesAt.set_netO {w : World} {B : Nat} {v : Value} {l : List UInt8} (h : BytesAt w B v l) {x : Nat} {A1 A2 : Option Addr} {k1 c1 k2 c2 : Nat} (hx : Box w x [.slice A1 k1 c1, .slice A2 k2 c2]) (j : Nat) (u : Value) : BytesAt (w.setCell ⟨x, j, none⟩ u) B v l :=
  ⟨h.1, Sl.set_netO h.2 (by decide) (fun i _ => ⟨_, _, rfl⟩) hx j u⟩
theorem NetAt.set_netO {w : World} {B : Nat} {Vq Va : Value} {n : Net} (h : NetAt w B Vq Va n) {x : Nat} {A1 A2 : Option Addr} {k1 c1 k2 c2 : Nat} (hx : Box w x [.slice A1 k1 c1, .slice A2 k2 c2]) (j : Nat) (u : Value) : NetAt (w.setCell ⟨x, j, none⟩ u) B Vq Va n := by
  obtain ⟨f, V, s, b⟩ := h.queue
  exact ⟨⟨f, V, s.set_netO (by decide) (fun i _ => ⟨_, _, rfl⟩) hx j u, fun i p hp => (b i p hp).set_netO hx j u⟩, ⟨h.apart.1, h.apart.2.set_netO (by decide) (fun i _ => ⟨_, _, rfl⟩) hx j u⟩⟩
theorem net_setO {w : World} {Vq Va : Value} {n : Net} (h : Hid (NetAt w w.heap.size Vq Va n)) {x : Nat} {A1 A2 B1 B2 : Option Addr} {k1 c1 k2 c2 l1 d1 l2 d2 : Nat} (hx : Box w x [.slice A1 k1 c1, .slice A2 k2 c2]) :
    Hid (NetAt ((w.setCell ⟨x, 0, none⟩ (.slice B1 l1 d1)).setCell ⟨x, 1, none⟩ (.slice B2 l2 d2)) ((w.setCell ⟨x, 0, none⟩ (.slice B1 l1 d1)).setCell ⟨x, 1, none⟩ (.slice B2 l2 d2)).heap.size Vq Va n) := by
  have h2 := (h.out.set_netO hx 0 (.slice B1 l1 d1)).set_netO (hx.set 0 (.slice B1 l1 d1)) 1 (.slice B2 l2 d2)
  exact h2.more (by simp)
def SlBox (w : World) (x : Nat) : Prop := ∃ xs, Box w x xs ∧ ∀ v ∈ xs, ∃ A k c, v = .slice A k c
theorem SlBox.of {w : World} {x : Nat} {xs : List Value} (h : Box w x xs) (hs : ∀ v ∈ xs, ∃ A k c, v = .slice A k c) : SlBox w x := ⟨xs, h, hs⟩
theorem SlBox.set {w : World} {x : Nat} (h : SlBox w x) (i : Nat) (A : Option Addr) (k c : Nat) : SlBox (w.setCell ⟨x, i, none⟩ (.slice A k c)) x := by
  obtain ⟨xs, hb, hs⟩ := h
  refine ⟨_, hb.set i _, fun v hv => ?_⟩
  rcases List.mem_or_eq_of_mem_set hv with h1 | rfl
  · exact hs v h1
  · exact ⟨_, _, _, rfl⟩
theorem Sl.setS {w : World} {B size n : Nat} {g : Nat → Nat → Value} {v : Value} (h : Sl w B size n g v) (hs : 0 < size) (hi : ∀ i, i < n → ∃ k z, g i 0 = .int k z) {x : Nat} (hx : SlBox w x) (j : Nat) (u : Value) : Sl (w.setCell ⟨x, j, none⟩ u) B size n g v := by
  obtain ⟨A, c, hv, hm, h1⟩ := h
  obtain ⟨xs, hx, hxs⟩ := hx
  refine ⟨A, c, hv, hm, fun i hin => ?_⟩
  obtain ⟨b, off, ha, hb, h3⟩ := h1 i hin
  have hne : b ≠ x := by
    rintro rfl
    have h4 := h3 0 hs
    rw [hx.cell] at h4
    obtain ⟨k, z, e⟩ := hi i hin
    rw [e] at h4
    obtain ⟨A', k', c', e'⟩ := hxs _ (List.mem_of_getElem? h4)
    cases e'
  exact ⟨b, off, ha, hb, fun q hq => by rw [World.cell?_of_block (w := w) (Below.heap_setCell w ⟨x, j, none⟩ u b hne)]; exact h3 q hq⟩
theorem BytesAt.setS {w : World} {B : Nat} {v : Value} {l : List UInt8} (h : BytesAt w B v l) {x : Nat} (hx : SlBox w x) (j : Nat) (u : Value) : BytesAt (w.setCell ⟨x, j, none⟩ u) B v l :=
  ⟨h.1, Sl.setS h.2 (by decide) (fun i _ => ⟨_, _, rfl⟩) hx j u⟩
theorem NetAt.setS {w : World} {B : Nat} {Vq Va : Value} {n : Net} (h : NetAt w B Vq Va n) {x : Nat} (hx : SlBox w x) (j : Nat) (u : Value) : NetAt (w.setCell ⟨x, j, none⟩ u) B Vq Va n := by
  obtain ⟨f, V, s, b⟩ := h.queue
  exact ⟨⟨f, V, s.setS (by decide) (fun i _ => ⟨_, _, rfl⟩) hx j u, fun i p hp => (b i p hp).setS hx j u⟩, ⟨h.apart.1, h.apart.2.setS (by decide) (fun i _ => ⟨_, _, rfl⟩) hx j u⟩⟩
theorem NetAt.set2 {w : World} {B : Nat} {Vq Va : Value} {n : Net} (h : NetAt w B Vq Va n) {x : Nat} (hx : SlBox w x) (A0 A1 : Option Addr) (n0 c0 n1 c1 : Nat) :
    NetAt ((w.setCell ⟨x, 0, none⟩ (.slice A0 n0 c0)).setCell ⟨x, 1, none⟩ (.slice A1 n1 c1)) B Vq Va n ∧ SlBox ((w.setCell ⟨x, 0, none⟩ (.slice A0 n0 c0)).setCell ⟨x, 1, none⟩ (.slice A1 n1 c1)) x :=
  ⟨(h.setS hx 0 _).setS (hx.set 0 _ _ _) 1 _, (hx.set 0 _ _ _).set 1 _ _ _⟩
theorem NetAt.set5 {w : World} {B : Nat} {Vq Va : Value} {n : Net} (h : NetAt w B Vq Va n) {x : Nat} (hx : SlBox w x) (A0 A1 A2 A3 A4 : Option Addr) (n0 c0 n1 c1 n2 c2 n3 c3 n4 c4 : Nat) :
    NetAt (((((w.setCell ⟨x, 0, none⟩ (.slice A0 n0 c0)).setCell ⟨x, 1, none⟩ (.slice A1 n1 c1)).setCell ⟨x, 2, none⟩ (.slice A2 n2 c2)).setCell ⟨x, 3, none⟩ (.slice A3 n3 c3)).setCell ⟨x, 4, none⟩ (.slice A4 n4 c4)) B Vq Va n := by
  obtain ⟨h2, x2⟩ := h.set2 hx A0 A1 n0 c0 n1 c1
  exact ((h2.setS x2 2 _).setS (x2.set 2 _ _ _) 3 _).setS ((x2.set 2 _ _ _).set 3 _ _ _) 4 _
theorem lkL_last {l : List (Int × Int)} {k : Nat} (hl : l.length = k) (g o : Int) (u v : Value) : ((lkL l ++ [u, v]).set (k * 2) (.int .i64 g)).set (k * 2 + 1) (.int .i64 o) = lkL (l ++ [(g, o)]) := by
  subst hl
  rw [List.set_append_right _ _ (by rw [lkL_length]; omega), List.set_append_right _ _ (by rw [lkL_length]; omega), lkL_append, lkL_length]
  rw [show l.length * 2 - l.length * 2 = 0 by omega, show l.length * 2 + 1 - l.length * 2 = 1 by omega]
  rfl
theorem lkL_room {l : List (Int × Int)} {k : Nat} (hl : l.length = k) (u v : Value) : (lkL l ++ [u, v])[k * 2]? = some u ∧ (lkL l ++ [u, v])[k * 2 + 1]? = some v := by
  subst hl
  rw [List.getElem?_append_right (by rw [lkL_length]; omega), List.getElem?_append_right (by rw [lkL_length]; omega), lkL_length]
  rw [show l.length * 2 - l.length * 2 = 0 by omega, show l.length * 2 + 1 - l.length * 2 = 1 by omega]
  exact ⟨rfl, rfl⟩
end Go.Proofs.YtmbifmmkccghfaaGreat
namespace Go.Proofs.YtmbifmmkccghfaaGreat
open Go.RowKit Go.Shelf
attribute [local go_sem] Oper.semAt_some
attribute [local go_sem ↓ high] app_named cop_named
theorem send_bad {b : Bx} {g o : Int} {c : Int} (h : b.checkT = c) (h0 : c ≠ 0) : b.sendT g o = (Bx.zero, c) := by
  unfold Bx.checkT at h
  unfold Bx.sendT
  by_cases hk : b.okB = true
  · rw [if_pos hk] at h
    exact absurd h.symm h0
  · rw [if_neg hk] at h ⊢
    rw [h]
theorem wrap64_next {n : Nat} (h : n ≤ 4096) : wrap64 ((n : Int) + 1) = (n : Int) + 1 := by unfold wrap64; omega
theorem wrapI_next {n : Nat} (h : n ≤ 4096) : IntKind.i64.wrap ((n : Int) + 1) = (n : Int) + 1 := by rw [IntKind.wrap_i64]; omega
theorem send_out {b : Bx} {g o : Int} (h : b.okB = true) (h1 : ¬ ((0 ≤ g ∧ g < (b.heard.length : Int)) ∧ (0 ≤ o ∧ o ≤ 7))) : b.sendT g o = (Bx.zero, 1) := by rw [Bx.sendT, if_pos h, if_neg h1]
theorem send_full {b : Bx} {g o : Int} (h : b.okB = true) (h1 : (0 ≤ g ∧ g < (b.heard.length : Int)) ∧ (0 ≤ o ∧ o ≤ 7)) (h2 : b.sent.length = 4096) : b.sendT g o = (Bx.zero, 2) := by rw [Bx.sendT, if_pos h, if_pos h1, if_pos h2]
theorem send_net {b : Bx} {g o : Int} (h : b.okB = true) (h1 : (0 ≤ g ∧ g < (b.heard.length : Int)) ∧ (0 ≤ o ∧ o ≤ 7)) (h2 : ¬ b.sent.length = 4096) {m : Net} {er : Int} (h3 : Go.Proofs.YtmbifmmkccghfaaGreat.sendT b.net ⟨0, g + 1, msgB b.sent.length o⟩ = (m, er)) :
    b.sendT g o = if er = 0 then (⟨m, b.sent ++ [(g, o)], b.heard, b.fresh⟩, 0) else (Bx.zero, er) := by rw [Bx.sendT, if_pos h, if_pos h1, if_neg h2, h3]
end Go.Proofs.YtmbifmmkccghfaaGreat
namespace Go.Proofs.YtmbifmmkccghfaaGreat
open Go.RowKit Go.Shelf
attribute [local go_sem] Oper.semAt_some
theorem do_bad {b : Bx} {c : Int} {r : Net × Int} (h : b.checkT = c) (h0 : c ≠ 0) : b.doT r = (Bx.zero, c) := by
  unfold Bx.checkT at h
  unfold Bx.doT
  by_cases hk : b.okB = true
  · rw [if_pos hk] at h
    exact absurd h.symm h0
  · rw [if_neg hk] at h ⊢
    rw [h]
theorem do_net {b : Bx} {m : Net} {er : Int} {r : Net × Int} (h : b.okB = true) (hr : r = (m, er)) : b.doT r = if er = 0 then (⟨m, b.sent, b.heard, b.fresh⟩, 0) else (Bx.zero, er) := by rw [Bx.doT, if_pos h, hr]
end Go.Proofs.YtmbifmmkccghfaaGreat
