/- sane of the law's file of chapter 33. (Printed by gen_nb.py and pp.py.) No condition. -/
import Derived.Test.YtancngachnpefaaQK
import Derived.Test.YtancngachnpefaaQUB
import Derived.Test.YtancngachnpefaaQNL
set_option linter.unusedVariables false
set_option linter.unusedSimpArgs false
set_option maxRecDepth 100000
set_option maxHeartbeats 40000000
namespace Go.Proofs.Ytancngachnpefaa
open Go.RowKit
attribute [local go_sem ↓ high] eq_state eq_shock
section
variable {P : Program} {ops : Array Oper} {md : Region.Mode} {N : Act → World → Prop} {C : World → Prop}
theorem anyC_twoW {n i j : Nat} {listed : Array Bool} {a : Act} {w : World} (hr : Region.ready md ops listed = [i, j]) (hC : C w)
    (h1 : wpOp P ops (Nrm N) i (anyC P md ops N C (n - 1) (listed.setIfInBounds i true)) a w) (h2 : wpOp P ops (Nrm N) j (anyC P md ops N C (n - 1) (listed.setIfInBounds j true)) a w) (hn : 1 ≤ n := by decide) : anyC P md ops N C n listed a w := by
  obtain ⟨m, rfl⟩ : ∃ m, n = m + 1 := ⟨n - 1, by omega⟩
  refine ⟨hC, fun h0 => (by rw [h0] at hr; cases hr), fun x hx => ?_⟩
  rw [hr] at hx
  simp only [List.mem_cons, List.not_mem_nil, or_false] at hx
  rcases hx with rfl | rfl
  · exact h1
  · exact h2
theorem anyC_threeW {n i j k : Nat} {listed : Array Bool} {a : Act} {w : World} (hr : Region.ready md ops listed = [i, j, k]) (hC : C w)
    (h1 : wpOp P ops (Nrm N) i (anyC P md ops N C (n - 1) (listed.setIfInBounds i true)) a w) (h2 : wpOp P ops (Nrm N) j (anyC P md ops N C (n - 1) (listed.setIfInBounds j true)) a w)
    (h3 : wpOp P ops (Nrm N) k (anyC P md ops N C (n - 1) (listed.setIfInBounds k true)) a w) (hn : 1 ≤ n := by decide) : anyC P md ops N C n listed a w := by
  obtain ⟨m, rfl⟩ : ∃ m, n = m + 1 := ⟨n - 1, by omega⟩
  refine ⟨hC, fun h0 => (by rw [h0] at hr; cases hr), fun x hx => ?_⟩
  rw [hr] at hx
  simp only [List.mem_cons, List.not_mem_nil, or_false] at hx
  rcases hx with rfl | rfl | rfl
  · exact h1
  · exact h2
  · exact h3
end
theorem code_nil (w : World) (B : Nat) : CodeAt w B (.slice none 0 0) [] := ⟨fun _ => undef, ⟨none, 0, rfl, Nat.zero_le _, fun i hi => by simp at hi⟩, fun i l hl => by simp at hl⟩
theorem st_same {a b : St} (h : a.same b = true) : a = b := of_decide_eq_true h
theorem sh_same {a b : Sh} (h : a.same b = true) : a = b := by
  obtain ⟨h1, h2⟩ := of_decide_eq_true h
  cases a; cases b
  simp only at h1 h2
  rw [h1, h2]
theorem pool_cert_eq : certT poolP (valveC 0 4) safeQ = (true, ⟨0, ⟨0, 0, 0, 0, 0, 0⟩, ⟨0, 0⟩⟩, 0) := by
  have h := pool_cert
  obtain ⟨⟨ok, ⟨k, s, x⟩, er⟩, hc⟩ : ∃ t, certT poolP (valveC 0 4) safeQ = t := ⟨_, rfl⟩
  rw [hc] at h ⊢
  simp only [Bool.and_eq_true, decide_eq_true_eq] at h
  obtain ⟨rfl, rfl, h3, h4, rfl⟩ := h
  rw [st_same h3, sh_same h4]
  rfl
theorem pool_cert2_eq : certT poolP (valveC 0 4) [⟨0, 0, 0, 0, 0, -1⟩] = (false, ⟨1, ⟨2, 0, 0, 0, 0, 0⟩, ⟨0, 0⟩⟩, 0) := by
  have h := pool_cert2
  obtain ⟨⟨ok, ⟨k, s, x⟩, er⟩, hc⟩ : ∃ t, certT poolP (valveC 0 4) [⟨0, 0, 0, 0, 0, -1⟩] = t := ⟨_, rfl⟩
  rw [hc] at h ⊢
  simp only [Bool.and_eq_true, decide_eq_true_eq, Bool.not_eq_true'] at h
  obtain ⟨rfl, rfl, h3, h4, rfl⟩ := h
  rw [st_same h3, sh_same h4]
  rfl
theorem pool_bar17 : barT (List.replicate 17 Iq.zero) = 2 := by decide +kernel
theorem pool_cert3_eq : certT poolP (valveC 0 4) (List.replicate 17 Iq.zero) = (false, ⟨0, ⟨0, 0, 0, 0, 0, 0⟩, ⟨0, 0⟩⟩, 2) := by
  rw [certT, if_pos pool_ask, if_neg (by rw [pool_bar17]; decide), pool_bar17]
  rfl
theorem pool_inv_eq : invT poolP (valveC 0 4) = (poolP.states.filter (fun s => !lostI poolP (valveC 0 4) s), true, 0) := by
  have h := congrArg Prod.snd pool_inv
  dsimp only at h
  rw [invT, if_pos pool_ask, h]
theorem pool_inv_len : (poolP.states.filter (fun s => !lostI poolP (valveC 0 4) s)).length = 6 := congrArg Prod.fst pool_inv
theorem pool_esc_eq : escT poolP [] = ([⟨1, -1⟩, ⟨1, -1⟩], true, 0) := by
  have h := pool_esc
  obtain ⟨⟨l, ok, er⟩, hc⟩ : ∃ t, escT poolP [] = t := ⟨_, rfl⟩
  rw [hc] at h ⊢
  rcases l with _ | ⟨a, _ | ⟨b, _ | ⟨d, l⟩⟩⟩
  · cases h
  · cases h
  · simp only [Bool.and_eq_true, decide_eq_true_eq] at h
    obtain ⟨h1, h2, rfl, rfl⟩ := h
    rw [sh_same h1, sh_same h2]
  · cases h
theorem barAt_17 {w : World} {b : Nat} (hx : Box w b (List.replicate 102 (Value.int .i64 0))) : BarAt w w.heap.size (.slice (some ⟨b, 0, none⟩) 17 17) (List.replicate 17 Iq.zero) := by
  refine ⟨some ⟨b, 0, none⟩, 17, by rw [List.length_replicate], by simp [maxLen], fun i hi => ⟨b, 0, rfl, hx.lt, fun j hj => ?_⟩⟩
  rw [hx.cell, List.getElem?_replicate]
  rw [List.length_replicate] at hi
  rw [if_pos (by omega)]
  have h1 : (List.replicate 17 Iq.zero).getD i Iq.zero = Iq.zero := by
    rw [List.getD_eq_getElem?_getD, List.getElem?_replicate]
    split <;> rfl
  dsimp only
  rw [h1]
  rcases (show j = 0 ∨ j = 1 ∨ j = 2 ∨ j = 3 ∨ j = 4 ∨ j = 5 by omega) with rfl | rfl | rfl | rfl | rfl | rfl <;> rfl
theorem make17 (w : World) : (Instr.makeSlice 27 (.int .i64 17) (.int .i64 17)).run Try.prog w = .ok (.slice (some ⟨w.heap.size, 0, none⟩) 17 17) (w.alloc (.cells (List.replicate 102 (Value.int .i64 0)).toArray 71)) := by kernel_rfl
theorem bSane_any (w : World) : Calls Try.prog 10 #[] w fun e w' => e = .returned (.bool true) ∧ Below w.heap.size w w' := by
  go_enter Try.func10, Try.ntmps10
  go_upto_region 2 with fail
  have hB := (Below.refl w.heap.size w).alloc (Nat.le_refl _) (.cells #[.int .i64 2, .int .i64 0, .int .i64 0, .int .i64 0, .int .i64 0, .int .i64 0] 30)
  have X1 := Box.new w [.int .i64 2, .int .i64 0, .int .i64 0, .int .i64 0, .int .i64 0, .int .i64 0] 30
  generalize w.alloc (.cells #[.int .i64 2, .int .i64 0, .int .i64 0, .int .i64 0, .int .i64 0, .int .i64 0] 30) = w1 at X1 hB ⊢
  generalize hB1 : w.heap.size = B1 at X1 ⊢
  have HB1 := Lib.hid hB1
  clear hB1
  go_cut [2, 3] (fun s2 s3 wx => s2 = .bool true ∧ s3 = .int .i64 0 ∧ Below w1.heap.size w1 wx)
  case first =>
    have hd := (Below.refl w1.heap.size w1).drew
    have z1 := X1.lt
    have u0 : ∀ z : Later w1, z.w.cell? ⟨B1, 0, none⟩ = some (.int .i64 2) := Later.cell (X1.cell 0) z1
    have u1 : ∀ z : Later w1, z.w.cell? ⟨B1, 1, none⟩ = some (.int .i64 0) := Later.cell (X1.cell 1) z1
    have u2 : ∀ z : Later w1, z.w.cell? ⟨B1, 2, none⟩ = some (.int .i64 0) := Later.cell (X1.cell 2) z1
    have u3 : ∀ z : Later w1, z.w.cell? ⟨B1, 3, none⟩ = some (.int .i64 0) := Later.cell (X1.cell 3) z1
    have u4 : ∀ z : Later w1, z.w.cell? ⟨B1, 4, none⟩ = some (.int .i64 0) := Later.cell (X1.cell 4) z1
    have u5 : ∀ z : Later w1, z.w.cell? ⟨B1, 5, none⟩ = some (.int .i64 0) := Later.cell (X1.cell 5) z1
    refine wp_region_heads (C := fun w' => ∃ x : Later w1, w' = x.w) [1] (by kernel_rfl) (by kernel_rfl) (Later.mk' hd) (fun _ _ h => h) ?_
    simp only [headOps, List.filterMap_cons, List.filterMap_nil, List.getElem?_toArray, List.getElem?_cons_succ, List.getElem?_cons_zero]
    repeat (first | go_big_quiet_skip | (show wpQuiet _ _ _ _ (_ :: _) _; go_big_quiet_skip) | (show wpQuiet _ _ _ _ (_ :: _) _; go_big_quiet_want; go_big_quiet_op; go_big_quiet_on))
    refine wpQuiet_nil ?_
    clear u0 u1 u2 u3 u4 u5
    refine anyC_callD (some 25) (n := 6) (i := 0) (by kernel_rfl) rfl rfl rfl (Later.mk' hd) ?_ ((bLevels_any w1.drew).mono ?_)
    · go_simp
    rintro e W2 ⟨rfl, hQ, hb⟩
    refine ⟨_, rfl, ?_⟩
    simp only [Act.put, List.setIfInBounds_toArray, List.set_cons_zero, List.set_cons_succ]
    have hW2 := hd.trans (hb.mono hd.size)
    clear hb
    refine anyC_callD (some 27) (n := 5) (i := 2) (by kernel_rfl) rfl rfl rfl (Later.mk' hW2) ?_ ((bHolds_is (s := ⟨2, 0, 0, 0, 0, 0⟩) (Lib.hid pool_holds.1) hQ).mono ?_)
    · go_simp
    rintro e W3 ⟨rfl, hb⟩
    refine ⟨_, rfl, ?_⟩
    simp only [Act.put, List.setIfInBounds_toArray, List.set_cons_zero, List.set_cons_succ]
    have hW3 := hW2.trans (hb.mono hW2.size)
    clear hb
    refine anyC_heads (by kernel_rfl) 0 W3 (Later.mk' hW3) [3, 4, 5, 6, 7] _ _ (by kernel_rfl) ?_
    simp only [headOps, List.filterMap_cons, List.filterMap_nil, List.getElem?_toArray, List.getElem?_cons_succ, List.getElem?_cons_zero]
    repeat (first | go_big_quiet_skip | (show wpQuiet _ _ _ _ (_ :: _) _; go_big_quiet_skip) | (show wpQuiet _ _ _ _ (_ :: _) _; go_big_quiet_want; go_big_quiet_op; go_big_quiet_on))
    refine wpQuiet_nil ?_
    refine anyC_done (by kernel_rfl) (Later.mk' hW3) ?_
    go_wp2_with fail
    go_meet
    exact ⟨rfl, rfl, hW3⟩
  case rest =>
  obtain ⟨rfl, rfl, hb⟩ := hcut
  obtain ⟨w2, rfl⟩ : ∃ w2 : World, w2 = wc := ⟨_, rfl⟩
  replace hB := hB.trans (hb.mono hB.size)
  replace X1 := X1.later hb
  clear hb
  go_wp2_with fail
  refine (bLevels_any _).mono ?_
  rintro e w3 ⟨rfl, hQ, hb⟩
  replace hB := hB.trans (hb.mono hB.size)
  replace X1 := X1.later hb
  clear hb
  go_wp2_with fail
  refine (bHolds_is (s := ⟨4, 0, 0, 0, 0, 0⟩) (Lib.hid pool_holds.2.1) hQ).mono ?_
  rintro e w4 ⟨rfl, hb⟩
  replace hB := hB.trans (hb.mono hB.size)
  replace X1 := X1.later hb
  clear hb
  clear hQ
  go_wp2_with fail
  refine (bPool_any _).mono ?_
  rintro e w5 ⟨rfl, hb⟩
  replace hB := hB.trans (hb.mono hB.size)
  replace X1 := X1.later hb
  clear hb
  go_wp2_with fail
  refine (bValve_any _).mono ?_
  rintro e w6 ⟨V6, rfl, hC, hb⟩
  replace hB := hB.trans (hb.mono hB.size)
  replace X1 := X1.later hb
  clear hb
  go_wp2_with fail
  refine (bLevels_any _).mono ?_
  rintro e w7 ⟨rfl, hQ, hb⟩
  replace hB := hB.trans (hb.mono hB.size)
  replace X1 := X1.later hb
  replace hC := (hC.below hb).more hb.size
  clear hb
  go_wp2_with fail
  refine (bCert_is (Lib.hid pool_cert_eq) hC hQ).mono ?_
  rintro e w8 ⟨rfl, hb⟩
  replace hB := hB.trans (hb.mono hB.size)
  replace X1 := X1.later hb
  replace hC := (hC.below hb).more hb.size
  clear hb
  clear hC hQ
  go_upto_region 5 with fail
  have hb := (Below.refl w8.heap.size w8).alloc (Nat.le_refl _) (.cells #[.int .i64 0, .int .i64 0, .int .i64 0, .int .i64 0, .int .i64 0, .int .i64 0, .int .i64 0, .int .i64 0, .int .i64 0] 39)
  have X7 := Box.new w8 [.int .i64 0, .int .i64 0, .int .i64 0, .int .i64 0, .int .i64 0, .int .i64 0, .int .i64 0, .int .i64 0, .int .i64 0] 39
  replace hB := hB.trans (hb.mono hB.size)
  replace X1 := X1.later hb
  clear hb
  generalize w8.alloc (.cells #[.int .i64 0, .int .i64 0, .int .i64 0, .int .i64 0, .int .i64 0, .int .i64 0, .int .i64 0, .int .i64 0, .int .i64 0] 39) = w9 at hB X1 X7 ⊢
  generalize w8.heap.size = B7 at X7 ⊢
  go_wp2_with fail
  refine (bPool_any _).mono ?_
  rintro e w10 ⟨rfl, hb⟩
  replace hB := hB.trans (hb.mono hB.size)
  replace X1 := X1.later hb
  replace X7 := X7.later hb
  clear hb
  go_wp2_with fail
  refine (bValve_any _).mono ?_
  rintro e w11 ⟨V11, rfl, hC, hb⟩
  replace hB := hB.trans (hb.mono hB.size)
  replace X1 := X1.later hb
  replace X7 := X7.later hb
  clear hb
  go_wp2_with fail
  have hb := (Below.refl w11.heap.size w11).alloc (Nat.le_refl _) (.cells #[.int .i64 0, .int .i64 0, .int .i64 0, .int .i64 0, .int .i64 0, .int .i64 (-1)] 71)
  have hX := Box.new w11 [.int .i64 0, .int .i64 0, .int .i64 0, .int .i64 0, .int .i64 0, .int .i64 (-1)] 71
  have hQ := barAt_one (x := ⟨0, 0, 0, 0, 0, -1⟩) hX
  replace hB := hB.trans (hb.mono hB.size)
  replace X1 := X1.later hb
  replace X7 := X7.later hb
  replace hC := (hC.below hb).more hb.size
  clear hb hX
  refine (bCert_is (Lib.hid pool_cert2_eq) hC hQ).mono ?_
  rintro e w12 ⟨rfl, hb⟩
  replace hB := hB.trans (hb.mono hB.size)
  replace X1 := X1.later hb
  replace X7 := X7.later hb
  replace hC := (hC.below hb).more hb.size
  clear hb hQ
  clear hC
  go_upto_region 6 with fail
  have hb := (Below.refl w12.heap.size w12).alloc (Nat.le_refl _) (.cells #[.int .i64 1, .int .i64 2, .int .i64 0, .int .i64 0, .int .i64 0, .int .i64 0, .int .i64 0, .int .i64 0, .int .i64 0] 39)
  have X10 := Box.new w12 [.int .i64 1, .int .i64 2, .int .i64 0, .int .i64 0, .int .i64 0, .int .i64 0, .int .i64 0, .int .i64 0, .int .i64 0] 39
  replace hB := hB.trans (hb.mono hB.size)
  replace X1 := X1.later hb
  replace X7 := X7.later hb
  clear hb
  generalize w12.alloc (.cells #[.int .i64 1, .int .i64 2, .int .i64 0, .int .i64 0, .int .i64 0, .int .i64 0, .int .i64 0, .int .i64 0, .int .i64 0] 39) = w13 at hB X1 X7 X10 ⊢
  generalize w12.heap.size = B10 at X10 ⊢
  go_wp2_with fail
  refine (bPool_any _).mono ?_
  rintro e w14 ⟨rfl, hb⟩
  replace hB := hB.trans (hb.mono hB.size)
  replace X1 := X1.later hb
  replace X7 := X7.later hb
  replace X10 := X10.later hb
  clear hb
  go_wp2_with fail
  refine (bValve_any _).mono ?_
  rintro e w15 ⟨V15, rfl, hC, hb⟩
  replace hB := hB.trans (hb.mono hB.size)
  replace X1 := X1.later hb
  replace X7 := X7.later hb
  replace X10 := X10.later hb
  clear hb
  go_wp2_with fail
  refine (bInv_any poolP (valveC 0 4) _ _ _ _ (Lib.hid (fun _ => by rw [pool_count]; omega)) (Lib.hid hC)).mono ?_
  rintro e w16 ⟨A12, n12, c12, rfl, hrow, hb⟩
  rw [pool_inv_eq] at hrow ⊢
  replace hB := hB.trans (hb.mono hB.size)
  replace X1 := X1.later hb
  replace X7 := X7.later hb
  replace X10 := X10.later hb
  replace hC := (hC.below hb).more hb.size
  clear hb
  have hn12 : n12 = 6 := by
    obtain ⟨A', c', hV⟩ := hrow.form
    cases hV
    exact pool_inv_len
  subst hn12
  clear hrow hC
  go_wp2_with fail
  refine (bPool_any _).mono ?_
  rintro e w17 ⟨rfl, hb⟩
  replace hB := hB.trans (hb.mono hB.size)
  replace X1 := X1.later hb
  replace X7 := X7.later hb
  replace X10 := X10.later hb
  clear hb
  go_wp2_with fail
  refine (bEsc_any poolP [] _ _ _ _ (Lib.hid (fun _ => by rw [pool_count]; omega)) (Lib.hid (code_nil _ _))).mono ?_
  rintro e w18 ⟨A15, n15, c15, rfl, hS, hb⟩
  rw [pool_esc_eq] at hS ⊢
  replace hB := hB.trans (hb.mono hB.size)
  replace X1 := X1.later hb
  replace X7 := X7.later hb
  replace X10 := X10.later hb
  replace hS := hS
  clear hb
  go_upto_region 8 with fail
  have hmk : ∀ wx : World, (Instr.makeSlice 27 (.int .i64 17) (.int .i64 17)).run Try.prog wx = .ok (.slice (some ⟨wx.heap.size, 0, none⟩) 17 17) (wx.alloc (.cells (List.replicate 102 (Value.int .i64 0)).toArray 71)) := make17
  go_cut [20] (fun s20 wx => s20 = .int .i64 2 ∧ Below w18.heap.size w18 wx)
  case first =>
    have hd := (Below.refl w18.heap.size w18).drew
    refine wp_region_heads (C := fun w' => ∃ x : Later w18, w' = x.w) [] (by kernel_rfl) (by kernel_rfl) (Later.mk' hd) (fun _ _ h => h) ?_
    simp only [headOps, List.filterMap_nil]
    refine wpQuiet_nil ?_
    refine anyC_threeW (n := 12) (i := 0) (j := 2) (k := 8) (by kernel_rfl) (Later.mk' hd) ?_ ?_ ?_
    · skip
      refine wpOp_callD (some 68) (by rfl) rfl rfl ?_ ((bPool_any w18.drew).mono ?_)
      · go_simp
      rintro e W21 ⟨rfl, hb⟩
      refine ⟨_, rfl, ?_⟩
      simp only [Act.put, List.setIfInBounds_toArray, List.set_cons_zero, List.set_cons_succ]
      have hW21 := hd.trans (hb.mono hd.size)
      clear hb
      refine anyC_threeW (n := 11) (i := 1) (j := 2) (k := 8) (by kernel_rfl) (Later.mk' hW21) ?_ ?_ ?_
      · skip
        refine wpOp_callD (some 69) (by rfl) rfl rfl ?_ ((bValve_any W21).mono ?_)
        · go_simp
        rintro e W22 ⟨V8, rfl, hC8, hb⟩
        refine ⟨_, rfl, ?_⟩
        simp only [Act.put, List.setIfInBounds_toArray, List.set_cons_zero, List.set_cons_succ]
        have hW22 := hW21.trans (hb.mono hW21.size)
        clear hb
        refine anyC_twoW (n := 10) (i := 2) (j := 8) (by kernel_rfl) (Later.mk' hW22) ?_ ?_
        · skip
          refine wpOp_valD (some 70) (v := .slice (some ⟨W22.heap.size, 0, none⟩) 17 17) (w' := W22.alloc (.cells (List.replicate 102 (Value.int .i64 0)).toArray 71)) (by rfl) rfl rfl ?_ ?_
          · go_simp
          simp only [Act.put, List.setIfInBounds_toArray, List.set_cons_zero, List.set_cons_succ]
          have hb := (Below.refl W22.heap.size W22).alloc (Nat.le_refl _) (.cells (List.replicate 102 (Value.int .i64 0)).toArray 71)
          have hW23 := hW22.trans (hb.mono hW22.size)
          have hC8 := (hC8.below hb).more hb.size
          have hQ8 := barAt_17 (Box.new W22 (List.replicate 102 (Value.int .i64 0)) 71)
          clear hb
          generalize W22.alloc (.cells (List.replicate 102 (Value.int .i64 0)).toArray 71) = W23 at hW23 hQ8 hC8 ⊢
          generalize W22.heap.size = F9 at hQ8 ⊢
          refine anyC_twoW (n := 9) (i := 3) (j := 8) (by kernel_rfl) (Later.mk' hW23) ?_ ?_
          · skip
            refine wpOp_callD (some 71) (by rfl) rfl rfl ?_ ((bCert_is (Lib.hid pool_cert3_eq) hC8 hQ8).mono ?_)
            · go_simp
            rintro e W24 ⟨rfl, hb⟩
            refine ⟨_, rfl, ?_⟩
            simp only [Act.put, List.setIfInBounds_toArray, List.set_cons_zero, List.set_cons_succ]
            have hW24 := hW23.trans (hb.mono hW23.size)
            clear hb
            refine anyC_heads (by kernel_rfl) 4 W24 (Later.mk' hW24) [4, 5, 6, 7] _ _ (by kernel_rfl) ?_
            simp only [headOps, List.filterMap_cons, List.filterMap_nil, List.getElem?_toArray, List.getElem?_cons_succ, List.getElem?_cons_zero]
            repeat (first | go_big_quiet_skip | (show wpQuiet _ _ _ _ (_ :: _) _; go_big_quiet_skip) | (show wpQuiet _ _ _ _ (_ :: _) _; go_big_quiet_want; go_big_quiet_op; go_big_quiet_on))
            refine wpQuiet_nil ?_
            refine anyC_valD (some 19) (n := 3) (i := 8) (v := .pointer (some ⟨W24.heap.size, 0, none⟩)) (w' := W24.alloc (.cells #[.int .i64 0, .int .i64 0, .int .i64 0, .int .i64 0, .int .i64 0, .int .i64 0, .int .i64 0, .int .i64 0, .int .i64 0] 39)) (by kernel_rfl) rfl rfl rfl (Later.mk' hW24) (by go_simp) ?_
            simp only [Act.put, List.setIfInBounds_toArray, List.set_cons_zero, List.set_cons_succ]
            have Y8 := Box.new W24 [.int .i64 0, .int .i64 0, .int .i64 0, .int .i64 0, .int .i64 0, .int .i64 0, .int .i64 0, .int .i64 0, .int .i64 0] 39
            have hF8 := hW24.size
            have hWT := hW24.alloc hW24.size (.cells #[.int .i64 0, .int .i64 0, .int .i64 0, .int .i64 0, .int .i64 0, .int .i64 0, .int .i64 0, .int .i64 0, .int .i64 0] 39)
            generalize W24.alloc (.cells #[.int .i64 0, .int .i64 0, .int .i64 0, .int .i64 0, .int .i64 0, .int .i64 0, .int .i64 0, .int .i64 0, .int .i64 0] 39) = WT at Y8 hWT ⊢
            generalize W24.heap.size = F8 at Y8 hF8 ⊢
            obtain ⟨Y8c0, Y8f0, Y8c1, Y8f1, Y8c2, Y8f2, Y8c3, Y8f3, Y8c4, Y8f4, Y8c5, Y8f5, Y8c6, Y8f6, Y8c7, Y8f7, Y8c8, Y8f8⟩ := Y8.f9
            have Y8z : F8 < WT.heap.size := Y8.lt
            have hWZ := (((((((((hWT.setCell (p := ⟨F8, 0, none⟩) (by simp <;> omega) (.int .i64 0)).setCell (p := ⟨F8, 1, none⟩) (by simp <;> omega) (.int .i64 0)).setCell (p := ⟨F8, 2, none⟩) (by simp <;> omega) (.int .i64 0)).setCell (p := ⟨F8, 3, none⟩) (by simp <;> omega) (.int .i64 0)).setCell (p := ⟨F8, 4, none⟩) (by simp <;> omega) (.int .i64 0)).setCell (p := ⟨F8, 5, none⟩) (by simp <;> omega) (.int .i64 0)).setCell (p := ⟨F8, 6, none⟩) (by simp <;> omega) (.int .i64 0)).setCell (p := ⟨F8, 7, none⟩) (by simp <;> omega) (.int .i64 0)).setCell (p := ⟨F8, 8, none⟩) (by simp <;> omega) (.int .i64 0))
            refine anyC_valD (some 18) (n := 2) (i := 9) (v := .bool false) (w' := WT) (by kernel_rfl) rfl rfl rfl (Later.mk' hWT) (by first | rfl | go_simp) ?_
            simp only [Act.put, List.setIfInBounds_toArray, List.set_cons_zero, List.set_cons_succ]
            refine anyC_storeN (w' := (((((((((WT.setCell ⟨F8, 0, none⟩ (.int .i64 0)).setCell ⟨F8, 1, none⟩ (.int .i64 0)).setCell ⟨F8, 2, none⟩ (.int .i64 0)).setCell ⟨F8, 3, none⟩ (.int .i64 0)).setCell ⟨F8, 4, none⟩ (.int .i64 0)).setCell ⟨F8, 5, none⟩ (.int .i64 0)).setCell ⟨F8, 6, none⟩ (.int .i64 0)).setCell ⟨F8, 7, none⟩ (.int .i64 0)).setCell ⟨F8, 8, none⟩ (.int .i64 0))) (n := 1) (i := 10) (by kernel_rfl) rfl rfl rfl (Later.mk' hWT) ?_ ?_
            · go_simp
            generalize (((((((((WT.setCell ⟨F8, 0, none⟩ (.int .i64 0)).setCell ⟨F8, 1, none⟩ (.int .i64 0)).setCell ⟨F8, 2, none⟩ (.int .i64 0)).setCell ⟨F8, 3, none⟩ (.int .i64 0)).setCell ⟨F8, 4, none⟩ (.int .i64 0)).setCell ⟨F8, 5, none⟩ (.int .i64 0)).setCell ⟨F8, 6, none⟩ (.int .i64 0)).setCell ⟨F8, 7, none⟩ (.int .i64 0)).setCell ⟨F8, 8, none⟩ (.int .i64 0)) = WZ at hWZ ⊢
            refine anyC_valD (some 20) (n := 0) (i := 11) (v := .int .i64 2) (w' := WZ) (by kernel_rfl) rfl rfl rfl (Later.mk' hWZ) (by first | rfl | go_simp) ?_
            simp only [Act.put, List.setIfInBounds_toArray, List.set_cons_zero, List.set_cons_succ]
            refine anyC_done (by kernel_rfl) (Later.mk' hWZ) ?_
            go_wp2_with fail
            go_meet
            exact ⟨rfl, hWZ⟩
          · skip
            refine wpOp_valD (some 19) (v := .pointer (some ⟨W23.heap.size, 0, none⟩)) (w' := W23.alloc (.cells #[.int .i64 0, .int .i64 0, .int .i64 0, .int .i64 0, .int .i64 0, .int .i64 0, .int .i64 0, .int .i64 0, .int .i64 0] 39)) (by rfl) rfl rfl ?_ ?_
            · go_simp
            simp only [Act.put, List.setIfInBounds_toArray, List.set_cons_zero, List.set_cons_succ]
            have hb := (Below.refl W23.heap.size W23).alloc (Nat.le_refl _) (.cells #[.int .i64 0, .int .i64 0, .int .i64 0, .int .i64 0, .int .i64 0, .int .i64 0, .int .i64 0, .int .i64 0, .int .i64 0] 39)
            have hW25 := hW23.trans (hb.mono hW23.size)
            have hC8 := (hC8.below hb).more hb.size
            have hQ8 := (hQ8.below hb).more hb.size
            have Y8 := Box.new W23 [.int .i64 0, .int .i64 0, .int .i64 0, .int .i64 0, .int .i64 0, .int .i64 0, .int .i64 0, .int .i64 0, .int .i64 0] 39
            have hF8 := hW23.size
            clear hb
            generalize W23.alloc (.cells #[.int .i64 0, .int .i64 0, .int .i64 0, .int .i64 0, .int .i64 0, .int .i64 0, .int .i64 0, .int .i64 0, .int .i64 0] 39) = W25 at hW25 hQ8 hC8 Y8 ⊢
            generalize W23.heap.size = F8 at Y8 hF8 ⊢
            refine anyC_callD (some 71) (n := 7) (i := 3) (by kernel_rfl) rfl rfl rfl (Later.mk' hW25) ?_ ((bCert_is (Lib.hid pool_cert3_eq) hC8 hQ8).mono ?_)
            · go_simp
            rintro e W26 ⟨rfl, hb⟩
            refine ⟨_, rfl, ?_⟩
            simp only [Act.put, List.setIfInBounds_toArray, List.set_cons_zero, List.set_cons_succ]
            have hW26 := hW25.trans (hb.mono hW25.size)
            have Y8 := Y8.later hb
            clear hb
            refine anyC_heads (by kernel_rfl) 3 W26 (Later.mk' hW26) [4, 5, 6, 7] _ _ (by kernel_rfl) ?_
            simp only [headOps, List.filterMap_cons, List.filterMap_nil, List.getElem?_toArray, List.getElem?_cons_succ, List.getElem?_cons_zero]
            repeat (first | go_big_quiet_skip | (show wpQuiet _ _ _ _ (_ :: _) _; go_big_quiet_skip) | (show wpQuiet _ _ _ _ (_ :: _) _; go_big_quiet_want; go_big_quiet_op; go_big_quiet_on))
            refine wpQuiet_nil ?_
            obtain ⟨Y8c0, Y8f0, Y8c1, Y8f1, Y8c2, Y8f2, Y8c3, Y8f3, Y8c4, Y8f4, Y8c5, Y8f5, Y8c6, Y8f6, Y8c7, Y8f7, Y8c8, Y8f8⟩ := Y8.f9
            have Y8z : F8 < W26.heap.size := Y8.lt
            have hWZ := (((((((((hW26.setCell (p := ⟨F8, 0, none⟩) (by simp <;> omega) (.int .i64 0)).setCell (p := ⟨F8, 1, none⟩) (by simp <;> omega) (.int .i64 0)).setCell (p := ⟨F8, 2, none⟩) (by simp <;> omega) (.int .i64 0)).setCell (p := ⟨F8, 3, none⟩) (by simp <;> omega) (.int .i64 0)).setCell (p := ⟨F8, 4, none⟩) (by simp <;> omega) (.int .i64 0)).setCell (p := ⟨F8, 5, none⟩) (by simp <;> omega) (.int .i64 0)).setCell (p := ⟨F8, 6, none⟩) (by simp <;> omega) (.int .i64 0)).setCell (p := ⟨F8, 7, none⟩) (by simp <;> omega) (.int .i64 0)).setCell (p := ⟨F8, 8, none⟩) (by simp <;> omega) (.int .i64 0))
            refine anyC_valD (some 18) (n := 2) (i := 9) (v := .bool false) (w' := W26) (by kernel_rfl) rfl rfl rfl (Later.mk' hW26) (by first | rfl | go_simp) ?_
            simp only [Act.put, List.setIfInBounds_toArray, List.set_cons_zero, List.set_cons_succ]
            refine anyC_storeN (w' := (((((((((W26.setCell ⟨F8, 0, none⟩ (.int .i64 0)).setCell ⟨F8, 1, none⟩ (.int .i64 0)).setCell ⟨F8, 2, none⟩ (.int .i64 0)).setCell ⟨F8, 3, none⟩ (.int .i64 0)).setCell ⟨F8, 4, none⟩ (.int .i64 0)).setCell ⟨F8, 5, none⟩ (.int .i64 0)).setCell ⟨F8, 6, none⟩ (.int .i64 0)).setCell ⟨F8, 7, none⟩ (.int .i64 0)).setCell ⟨F8, 8, none⟩ (.int .i64 0))) (n := 1) (i := 10) (by kernel_rfl) rfl rfl rfl (Later.mk' hW26) ?_ ?_
            · go_simp
            generalize (((((((((W26.setCell ⟨F8, 0, none⟩ (.int .i64 0)).setCell ⟨F8, 1, none⟩ (.int .i64 0)).setCell ⟨F8, 2, none⟩ (.int .i64 0)).setCell ⟨F8, 3, none⟩ (.int .i64 0)).setCell ⟨F8, 4, none⟩ (.int .i64 0)).setCell ⟨F8, 5, none⟩ (.int .i64 0)).setCell ⟨F8, 6, none⟩ (.int .i64 0)).setCell ⟨F8, 7, none⟩ (.int .i64 0)).setCell ⟨F8, 8, none⟩ (.int .i64 0)) = WZ at hWZ ⊢
            refine anyC_valD (some 20) (n := 0) (i := 11) (v := .int .i64 2) (w' := WZ) (by kernel_rfl) rfl rfl rfl (Later.mk' hWZ) (by first | rfl | go_simp) ?_
            simp only [Act.put, List.setIfInBounds_toArray, List.set_cons_zero, List.set_cons_succ]
            refine anyC_done (by kernel_rfl) (Later.mk' hWZ) ?_
            go_wp2_with fail
            go_meet
            exact ⟨rfl, hWZ⟩
        · skip
          refine wpOp_valD (some 19) (v := .pointer (some ⟨W22.heap.size, 0, none⟩)) (w' := W22.alloc (.cells #[.int .i64 0, .int .i64 0, .int .i64 0, .int .i64 0, .int .i64 0, .int .i64 0, .int .i64 0, .int .i64 0, .int .i64 0] 39)) (by rfl) rfl rfl ?_ ?_
          · go_simp
          simp only [Act.put, List.setIfInBounds_toArray, List.set_cons_zero, List.set_cons_succ]
          have hb := (Below.refl W22.heap.size W22).alloc (Nat.le_refl _) (.cells #[.int .i64 0, .int .i64 0, .int .i64 0, .int .i64 0, .int .i64 0, .int .i64 0, .int .i64 0, .int .i64 0, .int .i64 0] 39)
          have hW27 := hW22.trans (hb.mono hW22.size)
          have hC8 := (hC8.below hb).more hb.size
          have Y8 := Box.new W22 [.int .i64 0, .int .i64 0, .int .i64 0, .int .i64 0, .int .i64 0, .int .i64 0, .int .i64 0, .int .i64 0, .int .i64 0] 39
          have hF8 := hW22.size
          clear hb
          generalize W22.alloc (.cells #[.int .i64 0, .int .i64 0, .int .i64 0, .int .i64 0, .int .i64 0, .int .i64 0, .int .i64 0, .int .i64 0, .int .i64 0] 39) = W27 at hW27 hC8 Y8 ⊢
          generalize W22.heap.size = F8 at Y8 hF8 ⊢
          refine anyC_valD (some 70) (n := 8) (i := 2) (v := .slice (some ⟨W27.heap.size, 0, none⟩) 17 17) (w' := W27.alloc (.cells (List.replicate 102 (Value.int .i64 0)).toArray 71)) (by kernel_rfl) rfl rfl rfl (Later.mk' hW27) (by go_simp) ?_
          simp only [Act.put, List.setIfInBounds_toArray, List.set_cons_zero, List.set_cons_succ]
          have hb := (Below.refl W27.heap.size W27).alloc (Nat.le_refl _) (.cells (List.replicate 102 (Value.int .i64 0)).toArray 71)
          have hW28 := hW27.trans (hb.mono hW27.size)
          have hC8 := (hC8.below hb).more hb.size
          have hQ8 := barAt_17 (Box.new W27 (List.replicate 102 (Value.int .i64 0)) 71)
          have Y8 := Y8.later hb
          clear hb
          generalize W27.alloc (.cells (List.replicate 102 (Value.int .i64 0)).toArray 71) = W28 at hW28 hQ8 hC8 Y8 ⊢
          generalize W27.heap.size = F9 at hQ8 ⊢
          refine anyC_callD (some 71) (n := 7) (i := 3) (by kernel_rfl) rfl rfl rfl (Later.mk' hW28) ?_ ((bCert_is (Lib.hid pool_cert3_eq) hC8 hQ8).mono ?_)
          · go_simp
          rintro e W29 ⟨rfl, hb⟩
          refine ⟨_, rfl, ?_⟩
          simp only [Act.put, List.setIfInBounds_toArray, List.set_cons_zero, List.set_cons_succ]
          have hW29 := hW28.trans (hb.mono hW28.size)
          have Y8 := Y8.later hb
          clear hb
          refine anyC_heads (by kernel_rfl) 3 W29 (Later.mk' hW29) [4, 5, 6, 7] _ _ (by kernel_rfl) ?_
          simp only [headOps, List.filterMap_cons, List.filterMap_nil, List.getElem?_toArray, List.getElem?_cons_succ, List.getElem?_cons_zero]
          repeat (first | go_big_quiet_skip | (show wpQuiet _ _ _ _ (_ :: _) _; go_big_quiet_skip) | (show wpQuiet _ _ _ _ (_ :: _) _; go_big_quiet_want; go_big_quiet_op; go_big_quiet_on))
          refine wpQuiet_nil ?_
          obtain ⟨Y8c0, Y8f0, Y8c1, Y8f1, Y8c2, Y8f2, Y8c3, Y8f3, Y8c4, Y8f4, Y8c5, Y8f5, Y8c6, Y8f6, Y8c7, Y8f7, Y8c8, Y8f8⟩ := Y8.f9
          have Y8z : F8 < W29.heap.size := Y8.lt
          have hWZ := (((((((((hW29.setCell (p := ⟨F8, 0, none⟩) (by simp <;> omega) (.int .i64 0)).setCell (p := ⟨F8, 1, none⟩) (by simp <;> omega) (.int .i64 0)).setCell (p := ⟨F8, 2, none⟩) (by simp <;> omega) (.int .i64 0)).setCell (p := ⟨F8, 3, none⟩) (by simp <;> omega) (.int .i64 0)).setCell (p := ⟨F8, 4, none⟩) (by simp <;> omega) (.int .i64 0)).setCell (p := ⟨F8, 5, none⟩) (by simp <;> omega) (.int .i64 0)).setCell (p := ⟨F8, 6, none⟩) (by simp <;> omega) (.int .i64 0)).setCell (p := ⟨F8, 7, none⟩) (by simp <;> omega) (.int .i64 0)).setCell (p := ⟨F8, 8, none⟩) (by simp <;> omega) (.int .i64 0))
          refine anyC_valD (some 18) (n := 2) (i := 9) (v := .bool false) (w' := W29) (by kernel_rfl) rfl rfl rfl (Later.mk' hW29) (by first | rfl | go_simp) ?_
          simp only [Act.put, List.setIfInBounds_toArray, List.set_cons_zero, List.set_cons_succ]
          refine anyC_storeN (w' := (((((((((W29.setCell ⟨F8, 0, none⟩ (.int .i64 0)).setCell ⟨F8, 1, none⟩ (.int .i64 0)).setCell ⟨F8, 2, none⟩ (.int .i64 0)).setCell ⟨F8, 3, none⟩ (.int .i64 0)).setCell ⟨F8, 4, none⟩ (.int .i64 0)).setCell ⟨F8, 5, none⟩ (.int .i64 0)).setCell ⟨F8, 6, none⟩ (.int .i64 0)).setCell ⟨F8, 7, none⟩ (.int .i64 0)).setCell ⟨F8, 8, none⟩ (.int .i64 0))) (n := 1) (i := 10) (by kernel_rfl) rfl rfl rfl (Later.mk' hW29) ?_ ?_
          · go_simp
          generalize (((((((((W29.setCell ⟨F8, 0, none⟩ (.int .i64 0)).setCell ⟨F8, 1, none⟩ (.int .i64 0)).setCell ⟨F8, 2, none⟩ (.int .i64 0)).setCell ⟨F8, 3, none⟩ (.int .i64 0)).setCell ⟨F8, 4, none⟩ (.int .i64 0)).setCell ⟨F8, 5, none⟩ (.int .i64 0)).setCell ⟨F8, 6, none⟩ (.int .i64 0)).setCell ⟨F8, 7, none⟩ (.int .i64 0)).setCell ⟨F8, 8, none⟩ (.int .i64 0)) = WZ at hWZ ⊢
          refine anyC_valD (some 20) (n := 0) (i := 11) (v := .int .i64 2) (w' := WZ) (by kernel_rfl) rfl rfl rfl (Later.mk' hWZ) (by first | rfl | go_simp) ?_
          simp only [Act.put, List.setIfInBounds_toArray, List.set_cons_zero, List.set_cons_succ]
          refine anyC_done (by kernel_rfl) (Later.mk' hWZ) ?_
          go_wp2_with fail
          go_meet
          exact ⟨rfl, hWZ⟩
      · skip
        refine wpOp_valD (some 70) (v := .slice (some ⟨W21.heap.size, 0, none⟩) 17 17) (w' := W21.alloc (.cells (List.replicate 102 (Value.int .i64 0)).toArray 71)) (by rfl) rfl rfl ?_ ?_
        · go_simp
        simp only [Act.put, List.setIfInBounds_toArray, List.set_cons_zero, List.set_cons_succ]
        have hb := (Below.refl W21.heap.size W21).alloc (Nat.le_refl _) (.cells (List.replicate 102 (Value.int .i64 0)).toArray 71)
        have hW30 := hW21.trans (hb.mono hW21.size)
        have hQ8 := barAt_17 (Box.new W21 (List.replicate 102 (Value.int .i64 0)) 71)
        clear hb
        generalize W21.alloc (.cells (List.replicate 102 (Value.int .i64 0)).toArray 71) = W30 at hW30 hQ8 ⊢
        generalize W21.heap.size = F9 at hQ8 ⊢
        refine anyC_twoW (n := 10) (i := 1) (j := 8) (by kernel_rfl) (Later.mk' hW30) ?_ ?_
        · skip
          refine wpOp_callD (some 69) (by rfl) rfl rfl ?_ ((bValve_any W30).mono ?_)
          · go_simp
          rintro e W31 ⟨V8, rfl, hC8, hb⟩
          refine ⟨_, rfl, ?_⟩
          simp only [Act.put, List.setIfInBounds_toArray, List.set_cons_zero, List.set_cons_succ]
          have hW31 := hW30.trans (hb.mono hW30.size)
          have hQ8 := (hQ8.below hb).more hb.size
          clear hb
          refine anyC_twoW (n := 9) (i := 3) (j := 8) (by kernel_rfl) (Later.mk' hW31) ?_ ?_
          · skip
            refine wpOp_callD (some 71) (by rfl) rfl rfl ?_ ((bCert_is (Lib.hid pool_cert3_eq) hC8 hQ8).mono ?_)
            · go_simp
            rintro e W32 ⟨rfl, hb⟩
            refine ⟨_, rfl, ?_⟩
            simp only [Act.put, List.setIfInBounds_toArray, List.set_cons_zero, List.set_cons_succ]
            have hW32 := hW31.trans (hb.mono hW31.size)
            clear hb
            refine anyC_heads (by kernel_rfl) 4 W32 (Later.mk' hW32) [4, 5, 6, 7] _ _ (by kernel_rfl) ?_
            simp only [headOps, List.filterMap_cons, List.filterMap_nil, List.getElem?_toArray, List.getElem?_cons_succ, List.getElem?_cons_zero]
            repeat (first | go_big_quiet_skip | (show wpQuiet _ _ _ _ (_ :: _) _; go_big_quiet_skip) | (show wpQuiet _ _ _ _ (_ :: _) _; go_big_quiet_want; go_big_quiet_op; go_big_quiet_on))
            refine wpQuiet_nil ?_
            refine anyC_valD (some 19) (n := 3) (i := 8) (v := .pointer (some ⟨W32.heap.size, 0, none⟩)) (w' := W32.alloc (.cells #[.int .i64 0, .int .i64 0, .int .i64 0, .int .i64 0, .int .i64 0, .int .i64 0, .int .i64 0, .int .i64 0, .int .i64 0] 39)) (by kernel_rfl) rfl rfl rfl (Later.mk' hW32) (by go_simp) ?_
            simp only [Act.put, List.setIfInBounds_toArray, List.set_cons_zero, List.set_cons_succ]
            have Y8 := Box.new W32 [.int .i64 0, .int .i64 0, .int .i64 0, .int .i64 0, .int .i64 0, .int .i64 0, .int .i64 0, .int .i64 0, .int .i64 0] 39
            have hF8 := hW32.size
            have hWT := hW32.alloc hW32.size (.cells #[.int .i64 0, .int .i64 0, .int .i64 0, .int .i64 0, .int .i64 0, .int .i64 0, .int .i64 0, .int .i64 0, .int .i64 0] 39)
            generalize W32.alloc (.cells #[.int .i64 0, .int .i64 0, .int .i64 0, .int .i64 0, .int .i64 0, .int .i64 0, .int .i64 0, .int .i64 0, .int .i64 0] 39) = WT at Y8 hWT ⊢
            generalize W32.heap.size = F8 at Y8 hF8 ⊢
            obtain ⟨Y8c0, Y8f0, Y8c1, Y8f1, Y8c2, Y8f2, Y8c3, Y8f3, Y8c4, Y8f4, Y8c5, Y8f5, Y8c6, Y8f6, Y8c7, Y8f7, Y8c8, Y8f8⟩ := Y8.f9
            have Y8z : F8 < WT.heap.size := Y8.lt
            have hWZ := (((((((((hWT.setCell (p := ⟨F8, 0, none⟩) (by simp <;> omega) (.int .i64 0)).setCell (p := ⟨F8, 1, none⟩) (by simp <;> omega) (.int .i64 0)).setCell (p := ⟨F8, 2, none⟩) (by simp <;> omega) (.int .i64 0)).setCell (p := ⟨F8, 3, none⟩) (by simp <;> omega) (.int .i64 0)).setCell (p := ⟨F8, 4, none⟩) (by simp <;> omega) (.int .i64 0)).setCell (p := ⟨F8, 5, none⟩) (by simp <;> omega) (.int .i64 0)).setCell (p := ⟨F8, 6, none⟩) (by simp <;> omega) (.int .i64 0)).setCell (p := ⟨F8, 7, none⟩) (by simp <;> omega) (.int .i64 0)).setCell (p := ⟨F8, 8, none⟩) (by simp <;> omega) (.int .i64 0))
            refine anyC_valD (some 18) (n := 2) (i := 9) (v := .bool false) (w' := WT) (by kernel_rfl) rfl rfl rfl (Later.mk' hWT) (by first | rfl | go_simp) ?_
            simp only [Act.put, List.setIfInBounds_toArray, List.set_cons_zero, List.set_cons_succ]
            refine anyC_storeN (w' := (((((((((WT.setCell ⟨F8, 0, none⟩ (.int .i64 0)).setCell ⟨F8, 1, none⟩ (.int .i64 0)).setCell ⟨F8, 2, none⟩ (.int .i64 0)).setCell ⟨F8, 3, none⟩ (.int .i64 0)).setCell ⟨F8, 4, none⟩ (.int .i64 0)).setCell ⟨F8, 5, none⟩ (.int .i64 0)).setCell ⟨F8, 6, none⟩ (.int .i64 0)).setCell ⟨F8, 7, none⟩ (.int .i64 0)).setCell ⟨F8, 8, none⟩ (.int .i64 0))) (n := 1) (i := 10) (by kernel_rfl) rfl rfl rfl (Later.mk' hWT) ?_ ?_
            · go_simp
            generalize (((((((((WT.setCell ⟨F8, 0, none⟩ (.int .i64 0)).setCell ⟨F8, 1, none⟩ (.int .i64 0)).setCell ⟨F8, 2, none⟩ (.int .i64 0)).setCell ⟨F8, 3, none⟩ (.int .i64 0)).setCell ⟨F8, 4, none⟩ (.int .i64 0)).setCell ⟨F8, 5, none⟩ (.int .i64 0)).setCell ⟨F8, 6, none⟩ (.int .i64 0)).setCell ⟨F8, 7, none⟩ (.int .i64 0)).setCell ⟨F8, 8, none⟩ (.int .i64 0)) = WZ at hWZ ⊢
            refine anyC_valD (some 20) (n := 0) (i := 11) (v := .int .i64 2) (w' := WZ) (by kernel_rfl) rfl rfl rfl (Later.mk' hWZ) (by first | rfl | go_simp) ?_
            simp only [Act.put, List.setIfInBounds_toArray, List.set_cons_zero, List.set_cons_succ]
            refine anyC_done (by kernel_rfl) (Later.mk' hWZ) ?_
            go_wp2_with fail
            go_meet
            exact ⟨rfl, hWZ⟩
          · skip
            refine wpOp_valD (some 19) (v := .pointer (some ⟨W31.heap.size, 0, none⟩)) (w' := W31.alloc (.cells #[.int .i64 0, .int .i64 0, .int .i64 0, .int .i64 0, .int .i64 0, .int .i64 0, .int .i64 0, .int .i64 0, .int .i64 0] 39)) (by rfl) rfl rfl ?_ ?_
            · go_simp
            simp only [Act.put, List.setIfInBounds_toArray, List.set_cons_zero, List.set_cons_succ]
            have hb := (Below.refl W31.heap.size W31).alloc (Nat.le_refl _) (.cells #[.int .i64 0, .int .i64 0, .int .i64 0, .int .i64 0, .int .i64 0, .int .i64 0, .int .i64 0, .int .i64 0, .int .i64 0] 39)
            have hW33 := hW31.trans (hb.mono hW31.size)
            have hC8 := (hC8.below hb).more hb.size
            have hQ8 := (hQ8.below hb).more hb.size
            have Y8 := Box.new W31 [.int .i64 0, .int .i64 0, .int .i64 0, .int .i64 0, .int .i64 0, .int .i64 0, .int .i64 0, .int .i64 0, .int .i64 0] 39
            have hF8 := hW31.size
            clear hb
            generalize W31.alloc (.cells #[.int .i64 0, .int .i64 0, .int .i64 0, .int .i64 0, .int .i64 0, .int .i64 0, .int .i64 0, .int .i64 0, .int .i64 0] 39) = W33 at hW33 hQ8 hC8 Y8 ⊢
            generalize W31.heap.size = F8 at Y8 hF8 ⊢
            refine anyC_callD (some 71) (n := 7) (i := 3) (by kernel_rfl) rfl rfl rfl (Later.mk' hW33) ?_ ((bCert_is (Lib.hid pool_cert3_eq) hC8 hQ8).mono ?_)
            · go_simp
            rintro e W34 ⟨rfl, hb⟩
            refine ⟨_, rfl, ?_⟩
            simp only [Act.put, List.setIfInBounds_toArray, List.set_cons_zero, List.set_cons_succ]
            have hW34 := hW33.trans (hb.mono hW33.size)
            have Y8 := Y8.later hb
            clear hb
            refine anyC_heads (by kernel_rfl) 3 W34 (Later.mk' hW34) [4, 5, 6, 7] _ _ (by kernel_rfl) ?_
            simp only [headOps, List.filterMap_cons, List.filterMap_nil, List.getElem?_toArray, List.getElem?_cons_succ, List.getElem?_cons_zero]
            repeat (first | go_big_quiet_skip | (show wpQuiet _ _ _ _ (_ :: _) _; go_big_quiet_skip) | (show wpQuiet _ _ _ _ (_ :: _) _; go_big_quiet_want; go_big_quiet_op; go_big_quiet_on))
            refine wpQuiet_nil ?_
            obtain ⟨Y8c0, Y8f0, Y8c1, Y8f1, Y8c2, Y8f2, Y8c3, Y8f3, Y8c4, Y8f4, Y8c5, Y8f5, Y8c6, Y8f6, Y8c7, Y8f7, Y8c8, Y8f8⟩ := Y8.f9
            have Y8z : F8 < W34.heap.size := Y8.lt
            have hWZ := (((((((((hW34.setCell (p := ⟨F8, 0, none⟩) (by simp <;> omega) (.int .i64 0)).setCell (p := ⟨F8, 1, none⟩) (by simp <;> omega) (.int .i64 0)).setCell (p := ⟨F8, 2, none⟩) (by simp <;> omega) (.int .i64 0)).setCell (p := ⟨F8, 3, none⟩) (by simp <;> omega) (.int .i64 0)).setCell (p := ⟨F8, 4, none⟩) (by simp <;> omega) (.int .i64 0)).setCell (p := ⟨F8, 5, none⟩) (by simp <;> omega) (.int .i64 0)).setCell (p := ⟨F8, 6, none⟩) (by simp <;> omega) (.int .i64 0)).setCell (p := ⟨F8, 7, none⟩) (by simp <;> omega) (.int .i64 0)).setCell (p := ⟨F8, 8, none⟩) (by simp <;> omega) (.int .i64 0))
            refine anyC_valD (some 18) (n := 2) (i := 9) (v := .bool false) (w' := W34) (by kernel_rfl) rfl rfl rfl (Later.mk' hW34) (by first | rfl | go_simp) ?_
            simp only [Act.put, List.setIfInBounds_toArray, List.set_cons_zero, List.set_cons_succ]
            refine anyC_storeN (w' := (((((((((W34.setCell ⟨F8, 0, none⟩ (.int .i64 0)).setCell ⟨F8, 1, none⟩ (.int .i64 0)).setCell ⟨F8, 2, none⟩ (.int .i64 0)).setCell ⟨F8, 3, none⟩ (.int .i64 0)).setCell ⟨F8, 4, none⟩ (.int .i64 0)).setCell ⟨F8, 5, none⟩ (.int .i64 0)).setCell ⟨F8, 6, none⟩ (.int .i64 0)).setCell ⟨F8, 7, none⟩ (.int .i64 0)).setCell ⟨F8, 8, none⟩ (.int .i64 0))) (n := 1) (i := 10) (by kernel_rfl) rfl rfl rfl (Later.mk' hW34) ?_ ?_
            · go_simp
            generalize (((((((((W34.setCell ⟨F8, 0, none⟩ (.int .i64 0)).setCell ⟨F8, 1, none⟩ (.int .i64 0)).setCell ⟨F8, 2, none⟩ (.int .i64 0)).setCell ⟨F8, 3, none⟩ (.int .i64 0)).setCell ⟨F8, 4, none⟩ (.int .i64 0)).setCell ⟨F8, 5, none⟩ (.int .i64 0)).setCell ⟨F8, 6, none⟩ (.int .i64 0)).setCell ⟨F8, 7, none⟩ (.int .i64 0)).setCell ⟨F8, 8, none⟩ (.int .i64 0)) = WZ at hWZ ⊢
            refine anyC_valD (some 20) (n := 0) (i := 11) (v := .int .i64 2) (w' := WZ) (by kernel_rfl) rfl rfl rfl (Later.mk' hWZ) (by first | rfl | go_simp) ?_
            simp only [Act.put, List.setIfInBounds_toArray, List.set_cons_zero, List.set_cons_succ]
            refine anyC_done (by kernel_rfl) (Later.mk' hWZ) ?_
            go_wp2_with fail
            go_meet
            exact ⟨rfl, hWZ⟩
        · skip
          refine wpOp_valD (some 19) (v := .pointer (some ⟨W30.heap.size, 0, none⟩)) (w' := W30.alloc (.cells #[.int .i64 0, .int .i64 0, .int .i64 0, .int .i64 0, .int .i64 0, .int .i64 0, .int .i64 0, .int .i64 0, .int .i64 0] 39)) (by rfl) rfl rfl ?_ ?_
          · go_simp
          simp only [Act.put, List.setIfInBounds_toArray, List.set_cons_zero, List.set_cons_succ]
          have hb := (Below.refl W30.heap.size W30).alloc (Nat.le_refl _) (.cells #[.int .i64 0, .int .i64 0, .int .i64 0, .int .i64 0, .int .i64 0, .int .i64 0, .int .i64 0, .int .i64 0, .int .i64 0] 39)
          have hW35 := hW30.trans (hb.mono hW30.size)
          have hQ8 := (hQ8.below hb).more hb.size
          have Y8 := Box.new W30 [.int .i64 0, .int .i64 0, .int .i64 0, .int .i64 0, .int .i64 0, .int .i64 0, .int .i64 0, .int .i64 0, .int .i64 0] 39
          have hF8 := hW30.size
          clear hb
          generalize W30.alloc (.cells #[.int .i64 0, .int .i64 0, .int .i64 0, .int .i64 0, .int .i64 0, .int .i64 0, .int .i64 0, .int .i64 0, .int .i64 0] 39) = W35 at hW35 hQ8 Y8 ⊢
          generalize W30.heap.size = F8 at Y8 hF8 ⊢
          refine anyC_callD (some 69) (n := 8) (i := 1) (by kernel_rfl) rfl rfl rfl (Later.mk' hW35) ?_ ((bValve_any W35).mono ?_)
          · go_simp
          rintro e W36 ⟨V8, rfl, hC8, hb⟩
          refine ⟨_, rfl, ?_⟩
          simp only [Act.put, List.setIfInBounds_toArray, List.set_cons_zero, List.set_cons_succ]
          have hW36 := hW35.trans (hb.mono hW35.size)
          have hQ8 := (hQ8.below hb).more hb.size
          have Y8 := Y8.later hb
          clear hb
          refine anyC_callD (some 71) (n := 7) (i := 3) (by kernel_rfl) rfl rfl rfl (Later.mk' hW36) ?_ ((bCert_is (Lib.hid pool_cert3_eq) hC8 hQ8).mono ?_)
          · go_simp
          rintro e W37 ⟨rfl, hb⟩
          refine ⟨_, rfl, ?_⟩
          simp only [Act.put, List.setIfInBounds_toArray, List.set_cons_zero, List.set_cons_succ]
          have hW37 := hW36.trans (hb.mono hW36.size)
          have Y8 := Y8.later hb
          clear hb
          refine anyC_heads (by kernel_rfl) 3 W37 (Later.mk' hW37) [4, 5, 6, 7] _ _ (by kernel_rfl) ?_
          simp only [headOps, List.filterMap_cons, List.filterMap_nil, List.getElem?_toArray, List.getElem?_cons_succ, List.getElem?_cons_zero]
          repeat (first | go_big_quiet_skip | (show wpQuiet _ _ _ _ (_ :: _) _; go_big_quiet_skip) | (show wpQuiet _ _ _ _ (_ :: _) _; go_big_quiet_want; go_big_quiet_op; go_big_quiet_on))
          refine wpQuiet_nil ?_
          obtain ⟨Y8c0, Y8f0, Y8c1, Y8f1, Y8c2, Y8f2, Y8c3, Y8f3, Y8c4, Y8f4, Y8c5, Y8f5, Y8c6, Y8f6, Y8c7, Y8f7, Y8c8, Y8f8⟩ := Y8.f9
          have Y8z : F8 < W37.heap.size := Y8.lt
          have hWZ := (((((((((hW37.setCell (p := ⟨F8, 0, none⟩) (by simp <;> omega) (.int .i64 0)).setCell (p := ⟨F8, 1, none⟩) (by simp <;> omega) (.int .i64 0)).setCell (p := ⟨F8, 2, none⟩) (by simp <;> omega) (.int .i64 0)).setCell (p := ⟨F8, 3, none⟩) (by simp <;> omega) (.int .i64 0)).setCell (p := ⟨F8, 4, none⟩) (by simp <;> omega) (.int .i64 0)).setCell (p := ⟨F8, 5, none⟩) (by simp <;> omega) (.int .i64 0)).setCell (p := ⟨F8, 6, none⟩) (by simp <;> omega) (.int .i64 0)).setCell (p := ⟨F8, 7, none⟩) (by simp <;> omega) (.int .i64 0)).setCell (p := ⟨F8, 8, none⟩) (by simp <;> omega) (.int .i64 0))
          refine anyC_valD (some 18) (n := 2) (i := 9) (v := .bool false) (w' := W37) (by kernel_rfl) rfl rfl rfl (Later.mk' hW37) (by first | rfl | go_simp) ?_
          simp only [Act.put, List.setIfInBounds_toArray, List.set_cons_zero, List.set_cons_succ]
          refine anyC_storeN (w' := (((((((((W37.setCell ⟨F8, 0, none⟩ (.int .i64 0)).setCell ⟨F8, 1, none⟩ (.int .i64 0)).setCell ⟨F8, 2, none⟩ (.int .i64 0)).setCell ⟨F8, 3, none⟩ (.int .i64 0)).setCell ⟨F8, 4, none⟩ (.int .i64 0)).setCell ⟨F8, 5, none⟩ (.int .i64 0)).setCell ⟨F8, 6, none⟩ (.int .i64 0)).setCell ⟨F8, 7, none⟩ (.int .i64 0)).setCell ⟨F8, 8, none⟩ (.int .i64 0))) (n := 1) (i := 10) (by kernel_rfl) rfl rfl rfl (Later.mk' hW37) ?_ ?_
          · go_simp
          generalize (((((((((W37.setCell ⟨F8, 0, none⟩ (.int .i64 0)).setCell ⟨F8, 1, none⟩ (.int .i64 0)).setCell ⟨F8, 2, none⟩ (.int .i64 0)).setCell ⟨F8, 3, none⟩ (.int .i64 0)).setCell ⟨F8, 4, none⟩ (.int .i64 0)).setCell ⟨F8, 5, none⟩ (.int .i64 0)).setCell ⟨F8, 6, none⟩ (.int .i64 0)).setCell ⟨F8, 7, none⟩ (.int .i64 0)).setCell ⟨F8, 8, none⟩ (.int .i64 0)) = WZ at hWZ ⊢
          refine anyC_valD (some 20) (n := 0) (i := 11) (v := .int .i64 2) (w' := WZ) (by kernel_rfl) rfl rfl rfl (Later.mk' hWZ) (by first | rfl | go_simp) ?_
          simp only [Act.put, List.setIfInBounds_toArray, List.set_cons_zero, List.set_cons_succ]
          refine anyC_done (by kernel_rfl) (Later.mk' hWZ) ?_
          go_wp2_with fail
          go_meet
          exact ⟨rfl, hWZ⟩
      · skip
        refine wpOp_valD (some 19) (v := .pointer (some ⟨W21.heap.size, 0, none⟩)) (w' := W21.alloc (.cells #[.int .i64 0, .int .i64 0, .int .i64 0, .int .i64 0, .int .i64 0, .int .i64 0, .int .i64 0, .int .i64 0, .int .i64 0] 39)) (by rfl) rfl rfl ?_ ?_
        · go_simp
        simp only [Act.put, List.setIfInBounds_toArray, List.set_cons_zero, List.set_cons_succ]
        have hb := (Below.refl W21.heap.size W21).alloc (Nat.le_refl _) (.cells #[.int .i64 0, .int .i64 0, .int .i64 0, .int .i64 0, .int .i64 0, .int .i64 0, .int .i64 0, .int .i64 0, .int .i64 0] 39)
        have hW38 := hW21.trans (hb.mono hW21.size)
        have Y8 := Box.new W21 [.int .i64 0, .int .i64 0, .int .i64 0, .int .i64 0, .int .i64 0, .int .i64 0, .int .i64 0, .int .i64 0, .int .i64 0] 39
        have hF8 := hW21.size
        clear hb
        generalize W21.alloc (.cells #[.int .i64 0, .int .i64 0, .int .i64 0, .int .i64 0, .int .i64 0, .int .i64 0, .int .i64 0, .int .i64 0, .int .i64 0] 39) = W38 at hW38 Y8 ⊢
        generalize W21.heap.size = F8 at Y8 hF8 ⊢
        refine anyC_twoW (n := 10) (i := 1) (j := 2) (by kernel_rfl) (Later.mk' hW38) ?_ ?_
        · skip
          refine wpOp_callD (some 69) (by rfl) rfl rfl ?_ ((bValve_any W38).mono ?_)
          · go_simp
          rintro e W39 ⟨V8, rfl, hC8, hb⟩
          refine ⟨_, rfl, ?_⟩
          simp only [Act.put, List.setIfInBounds_toArray, List.set_cons_zero, List.set_cons_succ]
          have hW39 := hW38.trans (hb.mono hW38.size)
          have Y8 := Y8.later hb
          clear hb
          refine anyC_valD (some 70) (n := 8) (i := 2) (v := .slice (some ⟨W39.heap.size, 0, none⟩) 17 17) (w' := W39.alloc (.cells (List.replicate 102 (Value.int .i64 0)).toArray 71)) (by kernel_rfl) rfl rfl rfl (Later.mk' hW39) (by go_simp) ?_
          simp only [Act.put, List.setIfInBounds_toArray, List.set_cons_zero, List.set_cons_succ]
          have hb := (Below.refl W39.heap.size W39).alloc (Nat.le_refl _) (.cells (List.replicate 102 (Value.int .i64 0)).toArray 71)
          have hW40 := hW39.trans (hb.mono hW39.size)
          have hC8 := (hC8.below hb).more hb.size
          have hQ8 := barAt_17 (Box.new W39 (List.replicate 102 (Value.int .i64 0)) 71)
          have Y8 := Y8.later hb
          clear hb
          generalize W39.alloc (.cells (List.replicate 102 (Value.int .i64 0)).toArray 71) = W40 at hW40 hQ8 hC8 Y8 ⊢
          generalize W39.heap.size = F9 at hQ8 ⊢
          refine anyC_callD (some 71) (n := 7) (i := 3) (by kernel_rfl) rfl rfl rfl (Later.mk' hW40) ?_ ((bCert_is (Lib.hid pool_cert3_eq) hC8 hQ8).mono ?_)
          · go_simp
          rintro e W41 ⟨rfl, hb⟩
          refine ⟨_, rfl, ?_⟩
          simp only [Act.put, List.setIfInBounds_toArray, List.set_cons_zero, List.set_cons_succ]
          have hW41 := hW40.trans (hb.mono hW40.size)
          have Y8 := Y8.later hb
          clear hb
          refine anyC_heads (by kernel_rfl) 3 W41 (Later.mk' hW41) [4, 5, 6, 7] _ _ (by kernel_rfl) ?_
          simp only [headOps, List.filterMap_cons, List.filterMap_nil, List.getElem?_toArray, List.getElem?_cons_succ, List.getElem?_cons_zero]
          repeat (first | go_big_quiet_skip | (show wpQuiet _ _ _ _ (_ :: _) _; go_big_quiet_skip) | (show wpQuiet _ _ _ _ (_ :: _) _; go_big_quiet_want; go_big_quiet_op; go_big_quiet_on))
          refine wpQuiet_nil ?_
          obtain ⟨Y8c0, Y8f0, Y8c1, Y8f1, Y8c2, Y8f2, Y8c3, Y8f3, Y8c4, Y8f4, Y8c5, Y8f5, Y8c6, Y8f6, Y8c7, Y8f7, Y8c8, Y8f8⟩ := Y8.f9
          have Y8z : F8 < W41.heap.size := Y8.lt
          have hWZ := (((((((((hW41.setCell (p := ⟨F8, 0, none⟩) (by simp <;> omega) (.int .i64 0)).setCell (p := ⟨F8, 1, none⟩) (by simp <;> omega) (.int .i64 0)).setCell (p := ⟨F8, 2, none⟩) (by simp <;> omega) (.int .i64 0)).setCell (p := ⟨F8, 3, none⟩) (by simp <;> omega) (.int .i64 0)).setCell (p := ⟨F8, 4, none⟩) (by simp <;> omega) (.int .i64 0)).setCell (p := ⟨F8, 5, none⟩) (by simp <;> omega) (.int .i64 0)).setCell (p := ⟨F8, 6, none⟩) (by simp <;> omega) (.int .i64 0)).setCell (p := ⟨F8, 7, none⟩) (by simp <;> omega) (.int .i64 0)).setCell (p := ⟨F8, 8, none⟩) (by simp <;> omega) (.int .i64 0))
          refine anyC_valD (some 18) (n := 2) (i := 9) (v := .bool false) (w' := W41) (by kernel_rfl) rfl rfl rfl (Later.mk' hW41) (by first | rfl | go_simp) ?_
          simp only [Act.put, List.setIfInBounds_toArray, List.set_cons_zero, List.set_cons_succ]
          refine anyC_storeN (w' := (((((((((W41.setCell ⟨F8, 0, none⟩ (.int .i64 0)).setCell ⟨F8, 1, none⟩ (.int .i64 0)).setCell ⟨F8, 2, none⟩ (.int .i64 0)).setCell ⟨F8, 3, none⟩ (.int .i64 0)).setCell ⟨F8, 4, none⟩ (.int .i64 0)).setCell ⟨F8, 5, none⟩ (.int .i64 0)).setCell ⟨F8, 6, none⟩ (.int .i64 0)).setCell ⟨F8, 7, none⟩ (.int .i64 0)).setCell ⟨F8, 8, none⟩ (.int .i64 0))) (n := 1) (i := 10) (by kernel_rfl) rfl rfl rfl (Later.mk' hW41) ?_ ?_
          · go_simp
          generalize (((((((((W41.setCell ⟨F8, 0, none⟩ (.int .i64 0)).setCell ⟨F8, 1, none⟩ (.int .i64 0)).setCell ⟨F8, 2, none⟩ (.int .i64 0)).setCell ⟨F8, 3, none⟩ (.int .i64 0)).setCell ⟨F8, 4, none⟩ (.int .i64 0)).setCell ⟨F8, 5, none⟩ (.int .i64 0)).setCell ⟨F8, 6, none⟩ (.int .i64 0)).setCell ⟨F8, 7, none⟩ (.int .i64 0)).setCell ⟨F8, 8, none⟩ (.int .i64 0)) = WZ at hWZ ⊢
          refine anyC_valD (some 20) (n := 0) (i := 11) (v := .int .i64 2) (w' := WZ) (by kernel_rfl) rfl rfl rfl (Later.mk' hWZ) (by first | rfl | go_simp) ?_
          simp only [Act.put, List.setIfInBounds_toArray, List.set_cons_zero, List.set_cons_succ]
          refine anyC_done (by kernel_rfl) (Later.mk' hWZ) ?_
          go_wp2_with fail
          go_meet
          exact ⟨rfl, hWZ⟩
        · skip
          refine wpOp_valD (some 70) (v := .slice (some ⟨W38.heap.size, 0, none⟩) 17 17) (w' := W38.alloc (.cells (List.replicate 102 (Value.int .i64 0)).toArray 71)) (by rfl) rfl rfl ?_ ?_
          · go_simp
          simp only [Act.put, List.setIfInBounds_toArray, List.set_cons_zero, List.set_cons_succ]
          have hb := (Below.refl W38.heap.size W38).alloc (Nat.le_refl _) (.cells (List.replicate 102 (Value.int .i64 0)).toArray 71)
          have hW42 := hW38.trans (hb.mono hW38.size)
          have hQ8 := barAt_17 (Box.new W38 (List.replicate 102 (Value.int .i64 0)) 71)
          have Y8 := Y8.later hb
          clear hb
          generalize W38.alloc (.cells (List.replicate 102 (Value.int .i64 0)).toArray 71) = W42 at hW42 hQ8 Y8 ⊢
          generalize W38.heap.size = F9 at hQ8 ⊢
          refine anyC_callD (some 69) (n := 8) (i := 1) (by kernel_rfl) rfl rfl rfl (Later.mk' hW42) ?_ ((bValve_any W42).mono ?_)
          · go_simp
          rintro e W43 ⟨V8, rfl, hC8, hb⟩
          refine ⟨_, rfl, ?_⟩
          simp only [Act.put, List.setIfInBounds_toArray, List.set_cons_zero, List.set_cons_succ]
          have hW43 := hW42.trans (hb.mono hW42.size)
          have hQ8 := (hQ8.below hb).more hb.size
          have Y8 := Y8.later hb
          clear hb
          refine anyC_callD (some 71) (n := 7) (i := 3) (by kernel_rfl) rfl rfl rfl (Later.mk' hW43) ?_ ((bCert_is (Lib.hid pool_cert3_eq) hC8 hQ8).mono ?_)
          · go_simp
          rintro e W44 ⟨rfl, hb⟩
          refine ⟨_, rfl, ?_⟩
          simp only [Act.put, List.setIfInBounds_toArray, List.set_cons_zero, List.set_cons_succ]
          have hW44 := hW43.trans (hb.mono hW43.size)
          have Y8 := Y8.later hb
          clear hb
          refine anyC_heads (by kernel_rfl) 3 W44 (Later.mk' hW44) [4, 5, 6, 7] _ _ (by kernel_rfl) ?_
          simp only [headOps, List.filterMap_cons, List.filterMap_nil, List.getElem?_toArray, List.getElem?_cons_succ, List.getElem?_cons_zero]
          repeat (first | go_big_quiet_skip | (show wpQuiet _ _ _ _ (_ :: _) _; go_big_quiet_skip) | (show wpQuiet _ _ _ _ (_ :: _) _; go_big_quiet_want; go_big_quiet_op; go_big_quiet_on))
          refine wpQuiet_nil ?_
          obtain ⟨Y8c0, Y8f0, Y8c1, Y8f1, Y8c2, Y8f2, Y8c3, Y8f3, Y8c4, Y8f4, Y8c5, Y8f5, Y8c6, Y8f6, Y8c7, Y8f7, Y8c8, Y8f8⟩ := Y8.f9
          have Y8z : F8 < W44.heap.size := Y8.lt
          have hWZ := (((((((((hW44.setCell (p := ⟨F8, 0, none⟩) (by simp <;> omega) (.int .i64 0)).setCell (p := ⟨F8, 1, none⟩) (by simp <;> omega) (.int .i64 0)).setCell (p := ⟨F8, 2, none⟩) (by simp <;> omega) (.int .i64 0)).setCell (p := ⟨F8, 3, none⟩) (by simp <;> omega) (.int .i64 0)).setCell (p := ⟨F8, 4, none⟩) (by simp <;> omega) (.int .i64 0)).setCell (p := ⟨F8, 5, none⟩) (by simp <;> omega) (.int .i64 0)).setCell (p := ⟨F8, 6, none⟩) (by simp <;> omega) (.int .i64 0)).setCell (p := ⟨F8, 7, none⟩) (by simp <;> omega) (.int .i64 0)).setCell (p := ⟨F8, 8, none⟩) (by simp <;> omega) (.int .i64 0))
          refine anyC_valD (some 18) (n := 2) (i := 9) (v := .bool false) (w' := W44) (by kernel_rfl) rfl rfl rfl (Later.mk' hW44) (by first | rfl | go_simp) ?_
          simp only [Act.put, List.setIfInBounds_toArray, List.set_cons_zero, List.set_cons_succ]
          refine anyC_storeN (w' := (((((((((W44.setCell ⟨F8, 0, none⟩ (.int .i64 0)).setCell ⟨F8, 1, none⟩ (.int .i64 0)).setCell ⟨F8, 2, none⟩ (.int .i64 0)).setCell ⟨F8, 3, none⟩ (.int .i64 0)).setCell ⟨F8, 4, none⟩ (.int .i64 0)).setCell ⟨F8, 5, none⟩ (.int .i64 0)).setCell ⟨F8, 6, none⟩ (.int .i64 0)).setCell ⟨F8, 7, none⟩ (.int .i64 0)).setCell ⟨F8, 8, none⟩ (.int .i64 0))) (n := 1) (i := 10) (by kernel_rfl) rfl rfl rfl (Later.mk' hW44) ?_ ?_
          · go_simp
          generalize (((((((((W44.setCell ⟨F8, 0, none⟩ (.int .i64 0)).setCell ⟨F8, 1, none⟩ (.int .i64 0)).setCell ⟨F8, 2, none⟩ (.int .i64 0)).setCell ⟨F8, 3, none⟩ (.int .i64 0)).setCell ⟨F8, 4, none⟩ (.int .i64 0)).setCell ⟨F8, 5, none⟩ (.int .i64 0)).setCell ⟨F8, 6, none⟩ (.int .i64 0)).setCell ⟨F8, 7, none⟩ (.int .i64 0)).setCell ⟨F8, 8, none⟩ (.int .i64 0)) = WZ at hWZ ⊢
          refine anyC_valD (some 20) (n := 0) (i := 11) (v := .int .i64 2) (w' := WZ) (by kernel_rfl) rfl rfl rfl (Later.mk' hWZ) (by first | rfl | go_simp) ?_
          simp only [Act.put, List.setIfInBounds_toArray, List.set_cons_zero, List.set_cons_succ]
          refine anyC_done (by kernel_rfl) (Later.mk' hWZ) ?_
          go_wp2_with fail
          go_meet
          exact ⟨rfl, hWZ⟩
    · skip
      refine wpOp_valD (some 70) (v := .slice (some ⟨w18.drew.heap.size, 0, none⟩) 17 17) (w' := w18.drew.alloc (.cells (List.replicate 102 (Value.int .i64 0)).toArray 71)) (by rfl) rfl rfl ?_ ?_
      · go_simp
      simp only [Act.put, List.setIfInBounds_toArray, List.set_cons_zero, List.set_cons_succ]
      have hb := (Below.refl w18.drew.heap.size w18.drew).alloc (Nat.le_refl _) (.cells (List.replicate 102 (Value.int .i64 0)).toArray 71)
      have hW45 := hd.trans (hb.mono hd.size)
      have hQ8 := barAt_17 (Box.new w18.drew (List.replicate 102 (Value.int .i64 0)) 71)
      clear hb
      generalize w18.drew.alloc (.cells (List.replicate 102 (Value.int .i64 0)).toArray 71) = W45 at hW45 hQ8 ⊢
      generalize w18.drew.heap.size = F9 at hQ8 ⊢
      refine anyC_twoW (n := 11) (i := 0) (j := 8) (by kernel_rfl) (Later.mk' hW45) ?_ ?_
      · skip
        refine wpOp_callD (some 68) (by rfl) rfl rfl ?_ ((bPool_any W45).mono ?_)
        · go_simp
        rintro e W46 ⟨rfl, hb⟩
        refine ⟨_, rfl, ?_⟩
        simp only [Act.put, List.setIfInBounds_toArray, List.set_cons_zero, List.set_cons_succ]
        have hW46 := hW45.trans (hb.mono hW45.size)
        have hQ8 := (hQ8.below hb).more hb.size
        clear hb
        refine anyC_twoW (n := 10) (i := 1) (j := 8) (by kernel_rfl) (Later.mk' hW46) ?_ ?_
        · skip
          refine wpOp_callD (some 69) (by rfl) rfl rfl ?_ ((bValve_any W46).mono ?_)
          · go_simp
          rintro e W47 ⟨V8, rfl, hC8, hb⟩
          refine ⟨_, rfl, ?_⟩
          simp only [Act.put, List.setIfInBounds_toArray, List.set_cons_zero, List.set_cons_succ]
          have hW47 := hW46.trans (hb.mono hW46.size)
          have hQ8 := (hQ8.below hb).more hb.size
          clear hb
          refine anyC_twoW (n := 9) (i := 3) (j := 8) (by kernel_rfl) (Later.mk' hW47) ?_ ?_
          · skip
            refine wpOp_callD (some 71) (by rfl) rfl rfl ?_ ((bCert_is (Lib.hid pool_cert3_eq) hC8 hQ8).mono ?_)
            · go_simp
            rintro e W48 ⟨rfl, hb⟩
            refine ⟨_, rfl, ?_⟩
            simp only [Act.put, List.setIfInBounds_toArray, List.set_cons_zero, List.set_cons_succ]
            have hW48 := hW47.trans (hb.mono hW47.size)
            clear hb
            refine anyC_heads (by kernel_rfl) 4 W48 (Later.mk' hW48) [4, 5, 6, 7] _ _ (by kernel_rfl) ?_
            simp only [headOps, List.filterMap_cons, List.filterMap_nil, List.getElem?_toArray, List.getElem?_cons_succ, List.getElem?_cons_zero]
            repeat (first | go_big_quiet_skip | (show wpQuiet _ _ _ _ (_ :: _) _; go_big_quiet_skip) | (show wpQuiet _ _ _ _ (_ :: _) _; go_big_quiet_want; go_big_quiet_op; go_big_quiet_on))
            refine wpQuiet_nil ?_
            refine anyC_valD (some 19) (n := 3) (i := 8) (v := .pointer (some ⟨W48.heap.size, 0, none⟩)) (w' := W48.alloc (.cells #[.int .i64 0, .int .i64 0, .int .i64 0, .int .i64 0, .int .i64 0, .int .i64 0, .int .i64 0, .int .i64 0, .int .i64 0] 39)) (by kernel_rfl) rfl rfl rfl (Later.mk' hW48) (by go_simp) ?_
            simp only [Act.put, List.setIfInBounds_toArray, List.set_cons_zero, List.set_cons_succ]
            have Y8 := Box.new W48 [.int .i64 0, .int .i64 0, .int .i64 0, .int .i64 0, .int .i64 0, .int .i64 0, .int .i64 0, .int .i64 0, .int .i64 0] 39
            have hF8 := hW48.size
            have hWT := hW48.alloc hW48.size (.cells #[.int .i64 0, .int .i64 0, .int .i64 0, .int .i64 0, .int .i64 0, .int .i64 0, .int .i64 0, .int .i64 0, .int .i64 0] 39)
            generalize W48.alloc (.cells #[.int .i64 0, .int .i64 0, .int .i64 0, .int .i64 0, .int .i64 0, .int .i64 0, .int .i64 0, .int .i64 0, .int .i64 0] 39) = WT at Y8 hWT ⊢
            generalize W48.heap.size = F8 at Y8 hF8 ⊢
            obtain ⟨Y8c0, Y8f0, Y8c1, Y8f1, Y8c2, Y8f2, Y8c3, Y8f3, Y8c4, Y8f4, Y8c5, Y8f5, Y8c6, Y8f6, Y8c7, Y8f7, Y8c8, Y8f8⟩ := Y8.f9
            have Y8z : F8 < WT.heap.size := Y8.lt
            have hWZ := (((((((((hWT.setCell (p := ⟨F8, 0, none⟩) (by simp <;> omega) (.int .i64 0)).setCell (p := ⟨F8, 1, none⟩) (by simp <;> omega) (.int .i64 0)).setCell (p := ⟨F8, 2, none⟩) (by simp <;> omega) (.int .i64 0)).setCell (p := ⟨F8, 3, none⟩) (by simp <;> omega) (.int .i64 0)).setCell (p := ⟨F8, 4, none⟩) (by simp <;> omega) (.int .i64 0)).setCell (p := ⟨F8, 5, none⟩) (by simp <;> omega) (.int .i64 0)).setCell (p := ⟨F8, 6, none⟩) (by simp <;> omega) (.int .i64 0)).setCell (p := ⟨F8, 7, none⟩) (by simp <;> omega) (.int .i64 0)).setCell (p := ⟨F8, 8, none⟩) (by simp <;> omega) (.int .i64 0))
            refine anyC_valD (some 18) (n := 2) (i := 9) (v := .bool false) (w' := WT) (by kernel_rfl) rfl rfl rfl (Later.mk' hWT) (by first | rfl | go_simp) ?_
            simp only [Act.put, List.setIfInBounds_toArray, List.set_cons_zero, List.set_cons_succ]
            refine anyC_storeN (w' := (((((((((WT.setCell ⟨F8, 0, none⟩ (.int .i64 0)).setCell ⟨F8, 1, none⟩ (.int .i64 0)).setCell ⟨F8, 2, none⟩ (.int .i64 0)).setCell ⟨F8, 3, none⟩ (.int .i64 0)).setCell ⟨F8, 4, none⟩ (.int .i64 0)).setCell ⟨F8, 5, none⟩ (.int .i64 0)).setCell ⟨F8, 6, none⟩ (.int .i64 0)).setCell ⟨F8, 7, none⟩ (.int .i64 0)).setCell ⟨F8, 8, none⟩ (.int .i64 0))) (n := 1) (i := 10) (by kernel_rfl) rfl rfl rfl (Later.mk' hWT) ?_ ?_
            · go_simp
            generalize (((((((((WT.setCell ⟨F8, 0, none⟩ (.int .i64 0)).setCell ⟨F8, 1, none⟩ (.int .i64 0)).setCell ⟨F8, 2, none⟩ (.int .i64 0)).setCell ⟨F8, 3, none⟩ (.int .i64 0)).setCell ⟨F8, 4, none⟩ (.int .i64 0)).setCell ⟨F8, 5, none⟩ (.int .i64 0)).setCell ⟨F8, 6, none⟩ (.int .i64 0)).setCell ⟨F8, 7, none⟩ (.int .i64 0)).setCell ⟨F8, 8, none⟩ (.int .i64 0)) = WZ at hWZ ⊢
            refine anyC_valD (some 20) (n := 0) (i := 11) (v := .int .i64 2) (w' := WZ) (by kernel_rfl) rfl rfl rfl (Later.mk' hWZ) (by first | rfl | go_simp) ?_
            simp only [Act.put, List.setIfInBounds_toArray, List.set_cons_zero, List.set_cons_succ]
            refine anyC_done (by kernel_rfl) (Later.mk' hWZ) ?_
            go_wp2_with fail
            go_meet
            exact ⟨rfl, hWZ⟩
          · skip
            refine wpOp_valD (some 19) (v := .pointer (some ⟨W47.heap.size, 0, none⟩)) (w' := W47.alloc (.cells #[.int .i64 0, .int .i64 0, .int .i64 0, .int .i64 0, .int .i64 0, .int .i64 0, .int .i64 0, .int .i64 0, .int .i64 0] 39)) (by rfl) rfl rfl ?_ ?_
            · go_simp
            simp only [Act.put, List.setIfInBounds_toArray, List.set_cons_zero, List.set_cons_succ]
            have hb := (Below.refl W47.heap.size W47).alloc (Nat.le_refl _) (.cells #[.int .i64 0, .int .i64 0, .int .i64 0, .int .i64 0, .int .i64 0, .int .i64 0, .int .i64 0, .int .i64 0, .int .i64 0] 39)
            have hW49 := hW47.trans (hb.mono hW47.size)
            have hC8 := (hC8.below hb).more hb.size
            have hQ8 := (hQ8.below hb).more hb.size
            have Y8 := Box.new W47 [.int .i64 0, .int .i64 0, .int .i64 0, .int .i64 0, .int .i64 0, .int .i64 0, .int .i64 0, .int .i64 0, .int .i64 0] 39
            have hF8 := hW47.size
            clear hb
            generalize W47.alloc (.cells #[.int .i64 0, .int .i64 0, .int .i64 0, .int .i64 0, .int .i64 0, .int .i64 0, .int .i64 0, .int .i64 0, .int .i64 0] 39) = W49 at hW49 hQ8 hC8 Y8 ⊢
            generalize W47.heap.size = F8 at Y8 hF8 ⊢
            refine anyC_callD (some 71) (n := 7) (i := 3) (by kernel_rfl) rfl rfl rfl (Later.mk' hW49) ?_ ((bCert_is (Lib.hid pool_cert3_eq) hC8 hQ8).mono ?_)
            · go_simp
            rintro e W50 ⟨rfl, hb⟩
            refine ⟨_, rfl, ?_⟩
            simp only [Act.put, List.setIfInBounds_toArray, List.set_cons_zero, List.set_cons_succ]
            have hW50 := hW49.trans (hb.mono hW49.size)
            have Y8 := Y8.later hb
            clear hb
            refine anyC_heads (by kernel_rfl) 3 W50 (Later.mk' hW50) [4, 5, 6, 7] _ _ (by kernel_rfl) ?_
            simp only [headOps, List.filterMap_cons, List.filterMap_nil, List.getElem?_toArray, List.getElem?_cons_succ, List.getElem?_cons_zero]
            repeat (first | go_big_quiet_skip | (show wpQuiet _ _ _ _ (_ :: _) _; go_big_quiet_skip) | (show wpQuiet _ _ _ _ (_ :: _) _; go_big_quiet_want; go_big_quiet_op; go_big_quiet_on))
            refine wpQuiet_nil ?_
            obtain ⟨Y8c0, Y8f0, Y8c1, Y8f1, Y8c2, Y8f2, Y8c3, Y8f3, Y8c4, Y8f4, Y8c5, Y8f5, Y8c6, Y8f6, Y8c7, Y8f7, Y8c8, Y8f8⟩ := Y8.f9
            have Y8z : F8 < W50.heap.size := Y8.lt
            have hWZ := (((((((((hW50.setCell (p := ⟨F8, 0, none⟩) (by simp <;> omega) (.int .i64 0)).setCell (p := ⟨F8, 1, none⟩) (by simp <;> omega) (.int .i64 0)).setCell (p := ⟨F8, 2, none⟩) (by simp <;> omega) (.int .i64 0)).setCell (p := ⟨F8, 3, none⟩) (by simp <;> omega) (.int .i64 0)).setCell (p := ⟨F8, 4, none⟩) (by simp <;> omega) (.int .i64 0)).setCell (p := ⟨F8, 5, none⟩) (by simp <;> omega) (.int .i64 0)).setCell (p := ⟨F8, 6, none⟩) (by simp <;> omega) (.int .i64 0)).setCell (p := ⟨F8, 7, none⟩) (by simp <;> omega) (.int .i64 0)).setCell (p := ⟨F8, 8, none⟩) (by simp <;> omega) (.int .i64 0))
            refine anyC_valD (some 18) (n := 2) (i := 9) (v := .bool false) (w' := W50) (by kernel_rfl) rfl rfl rfl (Later.mk' hW50) (by first | rfl | go_simp) ?_
            simp only [Act.put, List.setIfInBounds_toArray, List.set_cons_zero, List.set_cons_succ]
            refine anyC_storeN (w' := (((((((((W50.setCell ⟨F8, 0, none⟩ (.int .i64 0)).setCell ⟨F8, 1, none⟩ (.int .i64 0)).setCell ⟨F8, 2, none⟩ (.int .i64 0)).setCell ⟨F8, 3, none⟩ (.int .i64 0)).setCell ⟨F8, 4, none⟩ (.int .i64 0)).setCell ⟨F8, 5, none⟩ (.int .i64 0)).setCell ⟨F8, 6, none⟩ (.int .i64 0)).setCell ⟨F8, 7, none⟩ (.int .i64 0)).setCell ⟨F8, 8, none⟩ (.int .i64 0))) (n := 1) (i := 10) (by kernel_rfl) rfl rfl rfl (Later.mk' hW50) ?_ ?_
            · go_simp
            generalize (((((((((W50.setCell ⟨F8, 0, none⟩ (.int .i64 0)).setCell ⟨F8, 1, none⟩ (.int .i64 0)).setCell ⟨F8, 2, none⟩ (.int .i64 0)).setCell ⟨F8, 3, none⟩ (.int .i64 0)).setCell ⟨F8, 4, none⟩ (.int .i64 0)).setCell ⟨F8, 5, none⟩ (.int .i64 0)).setCell ⟨F8, 6, none⟩ (.int .i64 0)).setCell ⟨F8, 7, none⟩ (.int .i64 0)).setCell ⟨F8, 8, none⟩ (.int .i64 0)) = WZ at hWZ ⊢
            refine anyC_valD (some 20) (n := 0) (i := 11) (v := .int .i64 2) (w' := WZ) (by kernel_rfl) rfl rfl rfl (Later.mk' hWZ) (by first | rfl | go_simp) ?_
            simp only [Act.put, List.setIfInBounds_toArray, List.set_cons_zero, List.set_cons_succ]
            refine anyC_done (by kernel_rfl) (Later.mk' hWZ) ?_
            go_wp2_with fail
            go_meet
            exact ⟨rfl, hWZ⟩
        · skip
          refine wpOp_valD (some 19) (v := .pointer (some ⟨W46.heap.size, 0, none⟩)) (w' := W46.alloc (.cells #[.int .i64 0, .int .i64 0, .int .i64 0, .int .i64 0, .int .i64 0, .int .i64 0, .int .i64 0, .int .i64 0, .int .i64 0] 39)) (by rfl) rfl rfl ?_ ?_
          · go_simp
          simp only [Act.put, List.setIfInBounds_toArray, List.set_cons_zero, List.set_cons_succ]
          have hb := (Below.refl W46.heap.size W46).alloc (Nat.le_refl _) (.cells #[.int .i64 0, .int .i64 0, .int .i64 0, .int .i64 0, .int .i64 0, .int .i64 0, .int .i64 0, .int .i64 0, .int .i64 0] 39)
          have hW51 := hW46.trans (hb.mono hW46.size)
          have hQ8 := (hQ8.below hb).more hb.size
          have Y8 := Box.new W46 [.int .i64 0, .int .i64 0, .int .i64 0, .int .i64 0, .int .i64 0, .int .i64 0, .int .i64 0, .int .i64 0, .int .i64 0] 39
          have hF8 := hW46.size
          clear hb
          generalize W46.alloc (.cells #[.int .i64 0, .int .i64 0, .int .i64 0, .int .i64 0, .int .i64 0, .int .i64 0, .int .i64 0, .int .i64 0, .int .i64 0] 39) = W51 at hW51 hQ8 Y8 ⊢
          generalize W46.heap.size = F8 at Y8 hF8 ⊢
          refine anyC_callD (some 69) (n := 8) (i := 1) (by kernel_rfl) rfl rfl rfl (Later.mk' hW51) ?_ ((bValve_any W51).mono ?_)
          · go_simp
          rintro e W52 ⟨V8, rfl, hC8, hb⟩
          refine ⟨_, rfl, ?_⟩
          simp only [Act.put, List.setIfInBounds_toArray, List.set_cons_zero, List.set_cons_succ]
          have hW52 := hW51.trans (hb.mono hW51.size)
          have hQ8 := (hQ8.below hb).more hb.size
          have Y8 := Y8.later hb
          clear hb
          refine anyC_callD (some 71) (n := 7) (i := 3) (by kernel_rfl) rfl rfl rfl (Later.mk' hW52) ?_ ((bCert_is (Lib.hid pool_cert3_eq) hC8 hQ8).mono ?_)
          · go_simp
          rintro e W53 ⟨rfl, hb⟩
          refine ⟨_, rfl, ?_⟩
          simp only [Act.put, List.setIfInBounds_toArray, List.set_cons_zero, List.set_cons_succ]
          have hW53 := hW52.trans (hb.mono hW52.size)
          have Y8 := Y8.later hb
          clear hb
          refine anyC_heads (by kernel_rfl) 3 W53 (Later.mk' hW53) [4, 5, 6, 7] _ _ (by kernel_rfl) ?_
          simp only [headOps, List.filterMap_cons, List.filterMap_nil, List.getElem?_toArray, List.getElem?_cons_succ, List.getElem?_cons_zero]
          repeat (first | go_big_quiet_skip | (show wpQuiet _ _ _ _ (_ :: _) _; go_big_quiet_skip) | (show wpQuiet _ _ _ _ (_ :: _) _; go_big_quiet_want; go_big_quiet_op; go_big_quiet_on))
          refine wpQuiet_nil ?_
          obtain ⟨Y8c0, Y8f0, Y8c1, Y8f1, Y8c2, Y8f2, Y8c3, Y8f3, Y8c4, Y8f4, Y8c5, Y8f5, Y8c6, Y8f6, Y8c7, Y8f7, Y8c8, Y8f8⟩ := Y8.f9
          have Y8z : F8 < W53.heap.size := Y8.lt
          have hWZ := (((((((((hW53.setCell (p := ⟨F8, 0, none⟩) (by simp <;> omega) (.int .i64 0)).setCell (p := ⟨F8, 1, none⟩) (by simp <;> omega) (.int .i64 0)).setCell (p := ⟨F8, 2, none⟩) (by simp <;> omega) (.int .i64 0)).setCell (p := ⟨F8, 3, none⟩) (by simp <;> omega) (.int .i64 0)).setCell (p := ⟨F8, 4, none⟩) (by simp <;> omega) (.int .i64 0)).setCell (p := ⟨F8, 5, none⟩) (by simp <;> omega) (.int .i64 0)).setCell (p := ⟨F8, 6, none⟩) (by simp <;> omega) (.int .i64 0)).setCell (p := ⟨F8, 7, none⟩) (by simp <;> omega) (.int .i64 0)).setCell (p := ⟨F8, 8, none⟩) (by simp <;> omega) (.int .i64 0))
          refine anyC_valD (some 18) (n := 2) (i := 9) (v := .bool false) (w' := W53) (by kernel_rfl) rfl rfl rfl (Later.mk' hW53) (by first | rfl | go_simp) ?_
          simp only [Act.put, List.setIfInBounds_toArray, List.set_cons_zero, List.set_cons_succ]
          refine anyC_storeN (w' := (((((((((W53.setCell ⟨F8, 0, none⟩ (.int .i64 0)).setCell ⟨F8, 1, none⟩ (.int .i64 0)).setCell ⟨F8, 2, none⟩ (.int .i64 0)).setCell ⟨F8, 3, none⟩ (.int .i64 0)).setCell ⟨F8, 4, none⟩ (.int .i64 0)).setCell ⟨F8, 5, none⟩ (.int .i64 0)).setCell ⟨F8, 6, none⟩ (.int .i64 0)).setCell ⟨F8, 7, none⟩ (.int .i64 0)).setCell ⟨F8, 8, none⟩ (.int .i64 0))) (n := 1) (i := 10) (by kernel_rfl) rfl rfl rfl (Later.mk' hW53) ?_ ?_
          · go_simp
          generalize (((((((((W53.setCell ⟨F8, 0, none⟩ (.int .i64 0)).setCell ⟨F8, 1, none⟩ (.int .i64 0)).setCell ⟨F8, 2, none⟩ (.int .i64 0)).setCell ⟨F8, 3, none⟩ (.int .i64 0)).setCell ⟨F8, 4, none⟩ (.int .i64 0)).setCell ⟨F8, 5, none⟩ (.int .i64 0)).setCell ⟨F8, 6, none⟩ (.int .i64 0)).setCell ⟨F8, 7, none⟩ (.int .i64 0)).setCell ⟨F8, 8, none⟩ (.int .i64 0)) = WZ at hWZ ⊢
          refine anyC_valD (some 20) (n := 0) (i := 11) (v := .int .i64 2) (w' := WZ) (by kernel_rfl) rfl rfl rfl (Later.mk' hWZ) (by first | rfl | go_simp) ?_
          simp only [Act.put, List.setIfInBounds_toArray, List.set_cons_zero, List.set_cons_succ]
          refine anyC_done (by kernel_rfl) (Later.mk' hWZ) ?_
          go_wp2_with fail
          go_meet
          exact ⟨rfl, hWZ⟩
      · skip
        refine wpOp_valD (some 19) (v := .pointer (some ⟨W45.heap.size, 0, none⟩)) (w' := W45.alloc (.cells #[.int .i64 0, .int .i64 0, .int .i64 0, .int .i64 0, .int .i64 0, .int .i64 0, .int .i64 0, .int .i64 0, .int .i64 0] 39)) (by rfl) rfl rfl ?_ ?_
        · go_simp
        simp only [Act.put, List.setIfInBounds_toArray, List.set_cons_zero, List.set_cons_succ]
        have hb := (Below.refl W45.heap.size W45).alloc (Nat.le_refl _) (.cells #[.int .i64 0, .int .i64 0, .int .i64 0, .int .i64 0, .int .i64 0, .int .i64 0, .int .i64 0, .int .i64 0, .int .i64 0] 39)
        have hW54 := hW45.trans (hb.mono hW45.size)
        have hQ8 := (hQ8.below hb).more hb.size
        have Y8 := Box.new W45 [.int .i64 0, .int .i64 0, .int .i64 0, .int .i64 0, .int .i64 0, .int .i64 0, .int .i64 0, .int .i64 0, .int .i64 0] 39
        have hF8 := hW45.size
        clear hb
        generalize W45.alloc (.cells #[.int .i64 0, .int .i64 0, .int .i64 0, .int .i64 0, .int .i64 0, .int .i64 0, .int .i64 0, .int .i64 0, .int .i64 0] 39) = W54 at hW54 hQ8 Y8 ⊢
        generalize W45.heap.size = F8 at Y8 hF8 ⊢
        refine anyC_callD (some 68) (n := 9) (i := 0) (by kernel_rfl) rfl rfl rfl (Later.mk' hW54) ?_ ((bPool_any W54).mono ?_)
        · go_simp
        rintro e W55 ⟨rfl, hb⟩
        refine ⟨_, rfl, ?_⟩
        simp only [Act.put, List.setIfInBounds_toArray, List.set_cons_zero, List.set_cons_succ]
        have hW55 := hW54.trans (hb.mono hW54.size)
        have hQ8 := (hQ8.below hb).more hb.size
        have Y8 := Y8.later hb
        clear hb
        refine anyC_callD (some 69) (n := 8) (i := 1) (by kernel_rfl) rfl rfl rfl (Later.mk' hW55) ?_ ((bValve_any W55).mono ?_)
        · go_simp
        rintro e W56 ⟨V8, rfl, hC8, hb⟩
        refine ⟨_, rfl, ?_⟩
        simp only [Act.put, List.setIfInBounds_toArray, List.set_cons_zero, List.set_cons_succ]
        have hW56 := hW55.trans (hb.mono hW55.size)
        have hQ8 := (hQ8.below hb).more hb.size
        have Y8 := Y8.later hb
        clear hb
        refine anyC_callD (some 71) (n := 7) (i := 3) (by kernel_rfl) rfl rfl rfl (Later.mk' hW56) ?_ ((bCert_is (Lib.hid pool_cert3_eq) hC8 hQ8).mono ?_)
        · go_simp
        rintro e W57 ⟨rfl, hb⟩
        refine ⟨_, rfl, ?_⟩
        simp only [Act.put, List.setIfInBounds_toArray, List.set_cons_zero, List.set_cons_succ]
        have hW57 := hW56.trans (hb.mono hW56.size)
        have Y8 := Y8.later hb
        clear hb
        refine anyC_heads (by kernel_rfl) 3 W57 (Later.mk' hW57) [4, 5, 6, 7] _ _ (by kernel_rfl) ?_
        simp only [headOps, List.filterMap_cons, List.filterMap_nil, List.getElem?_toArray, List.getElem?_cons_succ, List.getElem?_cons_zero]
        repeat (first | go_big_quiet_skip | (show wpQuiet _ _ _ _ (_ :: _) _; go_big_quiet_skip) | (show wpQuiet _ _ _ _ (_ :: _) _; go_big_quiet_want; go_big_quiet_op; go_big_quiet_on))
        refine wpQuiet_nil ?_
        obtain ⟨Y8c0, Y8f0, Y8c1, Y8f1, Y8c2, Y8f2, Y8c3, Y8f3, Y8c4, Y8f4, Y8c5, Y8f5, Y8c6, Y8f6, Y8c7, Y8f7, Y8c8, Y8f8⟩ := Y8.f9
        have Y8z : F8 < W57.heap.size := Y8.lt
        have hWZ := (((((((((hW57.setCell (p := ⟨F8, 0, none⟩) (by simp <;> omega) (.int .i64 0)).setCell (p := ⟨F8, 1, none⟩) (by simp <;> omega) (.int .i64 0)).setCell (p := ⟨F8, 2, none⟩) (by simp <;> omega) (.int .i64 0)).setCell (p := ⟨F8, 3, none⟩) (by simp <;> omega) (.int .i64 0)).setCell (p := ⟨F8, 4, none⟩) (by simp <;> omega) (.int .i64 0)).setCell (p := ⟨F8, 5, none⟩) (by simp <;> omega) (.int .i64 0)).setCell (p := ⟨F8, 6, none⟩) (by simp <;> omega) (.int .i64 0)).setCell (p := ⟨F8, 7, none⟩) (by simp <;> omega) (.int .i64 0)).setCell (p := ⟨F8, 8, none⟩) (by simp <;> omega) (.int .i64 0))
        refine anyC_valD (some 18) (n := 2) (i := 9) (v := .bool false) (w' := W57) (by kernel_rfl) rfl rfl rfl (Later.mk' hW57) (by first | rfl | go_simp) ?_
        simp only [Act.put, List.setIfInBounds_toArray, List.set_cons_zero, List.set_cons_succ]
        refine anyC_storeN (w' := (((((((((W57.setCell ⟨F8, 0, none⟩ (.int .i64 0)).setCell ⟨F8, 1, none⟩ (.int .i64 0)).setCell ⟨F8, 2, none⟩ (.int .i64 0)).setCell ⟨F8, 3, none⟩ (.int .i64 0)).setCell ⟨F8, 4, none⟩ (.int .i64 0)).setCell ⟨F8, 5, none⟩ (.int .i64 0)).setCell ⟨F8, 6, none⟩ (.int .i64 0)).setCell ⟨F8, 7, none⟩ (.int .i64 0)).setCell ⟨F8, 8, none⟩ (.int .i64 0))) (n := 1) (i := 10) (by kernel_rfl) rfl rfl rfl (Later.mk' hW57) ?_ ?_
        · go_simp
        generalize (((((((((W57.setCell ⟨F8, 0, none⟩ (.int .i64 0)).setCell ⟨F8, 1, none⟩ (.int .i64 0)).setCell ⟨F8, 2, none⟩ (.int .i64 0)).setCell ⟨F8, 3, none⟩ (.int .i64 0)).setCell ⟨F8, 4, none⟩ (.int .i64 0)).setCell ⟨F8, 5, none⟩ (.int .i64 0)).setCell ⟨F8, 6, none⟩ (.int .i64 0)).setCell ⟨F8, 7, none⟩ (.int .i64 0)).setCell ⟨F8, 8, none⟩ (.int .i64 0)) = WZ at hWZ ⊢
        refine anyC_valD (some 20) (n := 0) (i := 11) (v := .int .i64 2) (w' := WZ) (by kernel_rfl) rfl rfl rfl (Later.mk' hWZ) (by first | rfl | go_simp) ?_
        simp only [Act.put, List.setIfInBounds_toArray, List.set_cons_zero, List.set_cons_succ]
        refine anyC_done (by kernel_rfl) (Later.mk' hWZ) ?_
        go_wp2_with fail
        go_meet
        exact ⟨rfl, hWZ⟩
    · skip
      refine wpOp_valD (some 19) (v := .pointer (some ⟨w18.drew.heap.size, 0, none⟩)) (w' := w18.drew.alloc (.cells #[.int .i64 0, .int .i64 0, .int .i64 0, .int .i64 0, .int .i64 0, .int .i64 0, .int .i64 0, .int .i64 0, .int .i64 0] 39)) (by rfl) rfl rfl ?_ ?_
      · go_simp
      simp only [Act.put, List.setIfInBounds_toArray, List.set_cons_zero, List.set_cons_succ]
      have hb := (Below.refl w18.drew.heap.size w18.drew).alloc (Nat.le_refl _) (.cells #[.int .i64 0, .int .i64 0, .int .i64 0, .int .i64 0, .int .i64 0, .int .i64 0, .int .i64 0, .int .i64 0, .int .i64 0] 39)
      have hW58 := hd.trans (hb.mono hd.size)
      have Y8 := Box.new w18.drew [.int .i64 0, .int .i64 0, .int .i64 0, .int .i64 0, .int .i64 0, .int .i64 0, .int .i64 0, .int .i64 0, .int .i64 0] 39
      have hF8 := hd.size
      clear hb
      generalize w18.drew.alloc (.cells #[.int .i64 0, .int .i64 0, .int .i64 0, .int .i64 0, .int .i64 0, .int .i64 0, .int .i64 0, .int .i64 0, .int .i64 0] 39) = W58 at hW58 Y8 ⊢
      generalize w18.drew.heap.size = F8 at Y8 hF8 ⊢
      refine anyC_twoW (n := 11) (i := 0) (j := 2) (by kernel_rfl) (Later.mk' hW58) ?_ ?_
      · skip
        refine wpOp_callD (some 68) (by rfl) rfl rfl ?_ ((bPool_any W58).mono ?_)
        · go_simp
        rintro e W59 ⟨rfl, hb⟩
        refine ⟨_, rfl, ?_⟩
        simp only [Act.put, List.setIfInBounds_toArray, List.set_cons_zero, List.set_cons_succ]
        have hW59 := hW58.trans (hb.mono hW58.size)
        have Y8 := Y8.later hb
        clear hb
        refine anyC_twoW (n := 10) (i := 1) (j := 2) (by kernel_rfl) (Later.mk' hW59) ?_ ?_
        · skip
          refine wpOp_callD (some 69) (by rfl) rfl rfl ?_ ((bValve_any W59).mono ?_)
          · go_simp
          rintro e W60 ⟨V8, rfl, hC8, hb⟩
          refine ⟨_, rfl, ?_⟩
          simp only [Act.put, List.setIfInBounds_toArray, List.set_cons_zero, List.set_cons_succ]
          have hW60 := hW59.trans (hb.mono hW59.size)
          have Y8 := Y8.later hb
          clear hb
          refine anyC_valD (some 70) (n := 8) (i := 2) (v := .slice (some ⟨W60.heap.size, 0, none⟩) 17 17) (w' := W60.alloc (.cells (List.replicate 102 (Value.int .i64 0)).toArray 71)) (by kernel_rfl) rfl rfl rfl (Later.mk' hW60) (by go_simp) ?_
          simp only [Act.put, List.setIfInBounds_toArray, List.set_cons_zero, List.set_cons_succ]
          have hb := (Below.refl W60.heap.size W60).alloc (Nat.le_refl _) (.cells (List.replicate 102 (Value.int .i64 0)).toArray 71)
          have hW61 := hW60.trans (hb.mono hW60.size)
          have hC8 := (hC8.below hb).more hb.size
          have hQ8 := barAt_17 (Box.new W60 (List.replicate 102 (Value.int .i64 0)) 71)
          have Y8 := Y8.later hb
          clear hb
          generalize W60.alloc (.cells (List.replicate 102 (Value.int .i64 0)).toArray 71) = W61 at hW61 hQ8 hC8 Y8 ⊢
          generalize W60.heap.size = F9 at hQ8 ⊢
          refine anyC_callD (some 71) (n := 7) (i := 3) (by kernel_rfl) rfl rfl rfl (Later.mk' hW61) ?_ ((bCert_is (Lib.hid pool_cert3_eq) hC8 hQ8).mono ?_)
          · go_simp
          rintro e W62 ⟨rfl, hb⟩
          refine ⟨_, rfl, ?_⟩
          simp only [Act.put, List.setIfInBounds_toArray, List.set_cons_zero, List.set_cons_succ]
          have hW62 := hW61.trans (hb.mono hW61.size)
          have Y8 := Y8.later hb
          clear hb
          refine anyC_heads (by kernel_rfl) 3 W62 (Later.mk' hW62) [4, 5, 6, 7] _ _ (by kernel_rfl) ?_
          simp only [headOps, List.filterMap_cons, List.filterMap_nil, List.getElem?_toArray, List.getElem?_cons_succ, List.getElem?_cons_zero]
          repeat (first | go_big_quiet_skip | (show wpQuiet _ _ _ _ (_ :: _) _; go_big_quiet_skip) | (show wpQuiet _ _ _ _ (_ :: _) _; go_big_quiet_want; go_big_quiet_op; go_big_quiet_on))
          refine wpQuiet_nil ?_
          obtain ⟨Y8c0, Y8f0, Y8c1, Y8f1, Y8c2, Y8f2, Y8c3, Y8f3, Y8c4, Y8f4, Y8c5, Y8f5, Y8c6, Y8f6, Y8c7, Y8f7, Y8c8, Y8f8⟩ := Y8.f9
          have Y8z : F8 < W62.heap.size := Y8.lt
          have hWZ := (((((((((hW62.setCell (p := ⟨F8, 0, none⟩) (by simp <;> omega) (.int .i64 0)).setCell (p := ⟨F8, 1, none⟩) (by simp <;> omega) (.int .i64 0)).setCell (p := ⟨F8, 2, none⟩) (by simp <;> omega) (.int .i64 0)).setCell (p := ⟨F8, 3, none⟩) (by simp <;> omega) (.int .i64 0)).setCell (p := ⟨F8, 4, none⟩) (by simp <;> omega) (.int .i64 0)).setCell (p := ⟨F8, 5, none⟩) (by simp <;> omega) (.int .i64 0)).setCell (p := ⟨F8, 6, none⟩) (by simp <;> omega) (.int .i64 0)).setCell (p := ⟨F8, 7, none⟩) (by simp <;> omega) (.int .i64 0)).setCell (p := ⟨F8, 8, none⟩) (by simp <;> omega) (.int .i64 0))
          refine anyC_valD (some 18) (n := 2) (i := 9) (v := .bool false) (w' := W62) (by kernel_rfl) rfl rfl rfl (Later.mk' hW62) (by first | rfl | go_simp) ?_
          simp only [Act.put, List.setIfInBounds_toArray, List.set_cons_zero, List.set_cons_succ]
          refine anyC_storeN (w' := (((((((((W62.setCell ⟨F8, 0, none⟩ (.int .i64 0)).setCell ⟨F8, 1, none⟩ (.int .i64 0)).setCell ⟨F8, 2, none⟩ (.int .i64 0)).setCell ⟨F8, 3, none⟩ (.int .i64 0)).setCell ⟨F8, 4, none⟩ (.int .i64 0)).setCell ⟨F8, 5, none⟩ (.int .i64 0)).setCell ⟨F8, 6, none⟩ (.int .i64 0)).setCell ⟨F8, 7, none⟩ (.int .i64 0)).setCell ⟨F8, 8, none⟩ (.int .i64 0))) (n := 1) (i := 10) (by kernel_rfl) rfl rfl rfl (Later.mk' hW62) ?_ ?_
          · go_simp
          generalize (((((((((W62.setCell ⟨F8, 0, none⟩ (.int .i64 0)).setCell ⟨F8, 1, none⟩ (.int .i64 0)).setCell ⟨F8, 2, none⟩ (.int .i64 0)).setCell ⟨F8, 3, none⟩ (.int .i64 0)).setCell ⟨F8, 4, none⟩ (.int .i64 0)).setCell ⟨F8, 5, none⟩ (.int .i64 0)).setCell ⟨F8, 6, none⟩ (.int .i64 0)).setCell ⟨F8, 7, none⟩ (.int .i64 0)).setCell ⟨F8, 8, none⟩ (.int .i64 0)) = WZ at hWZ ⊢
          refine anyC_valD (some 20) (n := 0) (i := 11) (v := .int .i64 2) (w' := WZ) (by kernel_rfl) rfl rfl rfl (Later.mk' hWZ) (by first | rfl | go_simp) ?_
          simp only [Act.put, List.setIfInBounds_toArray, List.set_cons_zero, List.set_cons_succ]
          refine anyC_done (by kernel_rfl) (Later.mk' hWZ) ?_
          go_wp2_with fail
          go_meet
          exact ⟨rfl, hWZ⟩
        · skip
          refine wpOp_valD (some 70) (v := .slice (some ⟨W59.heap.size, 0, none⟩) 17 17) (w' := W59.alloc (.cells (List.replicate 102 (Value.int .i64 0)).toArray 71)) (by rfl) rfl rfl ?_ ?_
          · go_simp
          simp only [Act.put, List.setIfInBounds_toArray, List.set_cons_zero, List.set_cons_succ]
          have hb := (Below.refl W59.heap.size W59).alloc (Nat.le_refl _) (.cells (List.replicate 102 (Value.int .i64 0)).toArray 71)
          have hW63 := hW59.trans (hb.mono hW59.size)
          have hQ8 := barAt_17 (Box.new W59 (List.replicate 102 (Value.int .i64 0)) 71)
          have Y8 := Y8.later hb
          clear hb
          generalize W59.alloc (.cells (List.replicate 102 (Value.int .i64 0)).toArray 71) = W63 at hW63 hQ8 Y8 ⊢
          generalize W59.heap.size = F9 at hQ8 ⊢
          refine anyC_callD (some 69) (n := 8) (i := 1) (by kernel_rfl) rfl rfl rfl (Later.mk' hW63) ?_ ((bValve_any W63).mono ?_)
          · go_simp
          rintro e W64 ⟨V8, rfl, hC8, hb⟩
          refine ⟨_, rfl, ?_⟩
          simp only [Act.put, List.setIfInBounds_toArray, List.set_cons_zero, List.set_cons_succ]
          have hW64 := hW63.trans (hb.mono hW63.size)
          have hQ8 := (hQ8.below hb).more hb.size
          have Y8 := Y8.later hb
          clear hb
          refine anyC_callD (some 71) (n := 7) (i := 3) (by kernel_rfl) rfl rfl rfl (Later.mk' hW64) ?_ ((bCert_is (Lib.hid pool_cert3_eq) hC8 hQ8).mono ?_)
          · go_simp
          rintro e W65 ⟨rfl, hb⟩
          refine ⟨_, rfl, ?_⟩
          simp only [Act.put, List.setIfInBounds_toArray, List.set_cons_zero, List.set_cons_succ]
          have hW65 := hW64.trans (hb.mono hW64.size)
          have Y8 := Y8.later hb
          clear hb
          refine anyC_heads (by kernel_rfl) 3 W65 (Later.mk' hW65) [4, 5, 6, 7] _ _ (by kernel_rfl) ?_
          simp only [headOps, List.filterMap_cons, List.filterMap_nil, List.getElem?_toArray, List.getElem?_cons_succ, List.getElem?_cons_zero]
          repeat (first | go_big_quiet_skip | (show wpQuiet _ _ _ _ (_ :: _) _; go_big_quiet_skip) | (show wpQuiet _ _ _ _ (_ :: _) _; go_big_quiet_want; go_big_quiet_op; go_big_quiet_on))
          refine wpQuiet_nil ?_
          obtain ⟨Y8c0, Y8f0, Y8c1, Y8f1, Y8c2, Y8f2, Y8c3, Y8f3, Y8c4, Y8f4, Y8c5, Y8f5, Y8c6, Y8f6, Y8c7, Y8f7, Y8c8, Y8f8⟩ := Y8.f9
          have Y8z : F8 < W65.heap.size := Y8.lt
          have hWZ := (((((((((hW65.setCell (p := ⟨F8, 0, none⟩) (by simp <;> omega) (.int .i64 0)).setCell (p := ⟨F8, 1, none⟩) (by simp <;> omega) (.int .i64 0)).setCell (p := ⟨F8, 2, none⟩) (by simp <;> omega) (.int .i64 0)).setCell (p := ⟨F8, 3, none⟩) (by simp <;> omega) (.int .i64 0)).setCell (p := ⟨F8, 4, none⟩) (by simp <;> omega) (.int .i64 0)).setCell (p := ⟨F8, 5, none⟩) (by simp <;> omega) (.int .i64 0)).setCell (p := ⟨F8, 6, none⟩) (by simp <;> omega) (.int .i64 0)).setCell (p := ⟨F8, 7, none⟩) (by simp <;> omega) (.int .i64 0)).setCell (p := ⟨F8, 8, none⟩) (by simp <;> omega) (.int .i64 0))
          refine anyC_valD (some 18) (n := 2) (i := 9) (v := .bool false) (w' := W65) (by kernel_rfl) rfl rfl rfl (Later.mk' hW65) (by first | rfl | go_simp) ?_
          simp only [Act.put, List.setIfInBounds_toArray, List.set_cons_zero, List.set_cons_succ]
          refine anyC_storeN (w' := (((((((((W65.setCell ⟨F8, 0, none⟩ (.int .i64 0)).setCell ⟨F8, 1, none⟩ (.int .i64 0)).setCell ⟨F8, 2, none⟩ (.int .i64 0)).setCell ⟨F8, 3, none⟩ (.int .i64 0)).setCell ⟨F8, 4, none⟩ (.int .i64 0)).setCell ⟨F8, 5, none⟩ (.int .i64 0)).setCell ⟨F8, 6, none⟩ (.int .i64 0)).setCell ⟨F8, 7, none⟩ (.int .i64 0)).setCell ⟨F8, 8, none⟩ (.int .i64 0))) (n := 1) (i := 10) (by kernel_rfl) rfl rfl rfl (Later.mk' hW65) ?_ ?_
          · go_simp
          generalize (((((((((W65.setCell ⟨F8, 0, none⟩ (.int .i64 0)).setCell ⟨F8, 1, none⟩ (.int .i64 0)).setCell ⟨F8, 2, none⟩ (.int .i64 0)).setCell ⟨F8, 3, none⟩ (.int .i64 0)).setCell ⟨F8, 4, none⟩ (.int .i64 0)).setCell ⟨F8, 5, none⟩ (.int .i64 0)).setCell ⟨F8, 6, none⟩ (.int .i64 0)).setCell ⟨F8, 7, none⟩ (.int .i64 0)).setCell ⟨F8, 8, none⟩ (.int .i64 0)) = WZ at hWZ ⊢
          refine anyC_valD (some 20) (n := 0) (i := 11) (v := .int .i64 2) (w' := WZ) (by kernel_rfl) rfl rfl rfl (Later.mk' hWZ) (by first | rfl | go_simp) ?_
          simp only [Act.put, List.setIfInBounds_toArray, List.set_cons_zero, List.set_cons_succ]
          refine anyC_done (by kernel_rfl) (Later.mk' hWZ) ?_
          go_wp2_with fail
          go_meet
          exact ⟨rfl, hWZ⟩
      · skip
        refine wpOp_valD (some 70) (v := .slice (some ⟨W58.heap.size, 0, none⟩) 17 17) (w' := W58.alloc (.cells (List.replicate 102 (Value.int .i64 0)).toArray 71)) (by rfl) rfl rfl ?_ ?_
        · go_simp
        simp only [Act.put, List.setIfInBounds_toArray, List.set_cons_zero, List.set_cons_succ]
        have hb := (Below.refl W58.heap.size W58).alloc (Nat.le_refl _) (.cells (List.replicate 102 (Value.int .i64 0)).toArray 71)
        have hW66 := hW58.trans (hb.mono hW58.size)
        have hQ8 := barAt_17 (Box.new W58 (List.replicate 102 (Value.int .i64 0)) 71)
        have Y8 := Y8.later hb
        clear hb
        generalize W58.alloc (.cells (List.replicate 102 (Value.int .i64 0)).toArray 71) = W66 at hW66 hQ8 Y8 ⊢
        generalize W58.heap.size = F9 at hQ8 ⊢
        refine anyC_callD (some 68) (n := 9) (i := 0) (by kernel_rfl) rfl rfl rfl (Later.mk' hW66) ?_ ((bPool_any W66).mono ?_)
        · go_simp
        rintro e W67 ⟨rfl, hb⟩
        refine ⟨_, rfl, ?_⟩
        simp only [Act.put, List.setIfInBounds_toArray, List.set_cons_zero, List.set_cons_succ]
        have hW67 := hW66.trans (hb.mono hW66.size)
        have hQ8 := (hQ8.below hb).more hb.size
        have Y8 := Y8.later hb
        clear hb
        refine anyC_callD (some 69) (n := 8) (i := 1) (by kernel_rfl) rfl rfl rfl (Later.mk' hW67) ?_ ((bValve_any W67).mono ?_)
        · go_simp
        rintro e W68 ⟨V8, rfl, hC8, hb⟩
        refine ⟨_, rfl, ?_⟩
        simp only [Act.put, List.setIfInBounds_toArray, List.set_cons_zero, List.set_cons_succ]
        have hW68 := hW67.trans (hb.mono hW67.size)
        have hQ8 := (hQ8.below hb).more hb.size
        have Y8 := Y8.later hb
        clear hb
        refine anyC_callD (some 71) (n := 7) (i := 3) (by kernel_rfl) rfl rfl rfl (Later.mk' hW68) ?_ ((bCert_is (Lib.hid pool_cert3_eq) hC8 hQ8).mono ?_)
        · go_simp
        rintro e W69 ⟨rfl, hb⟩
        refine ⟨_, rfl, ?_⟩
        simp only [Act.put, List.setIfInBounds_toArray, List.set_cons_zero, List.set_cons_succ]
        have hW69 := hW68.trans (hb.mono hW68.size)
        have Y8 := Y8.later hb
        clear hb
        refine anyC_heads (by kernel_rfl) 3 W69 (Later.mk' hW69) [4, 5, 6, 7] _ _ (by kernel_rfl) ?_
        simp only [headOps, List.filterMap_cons, List.filterMap_nil, List.getElem?_toArray, List.getElem?_cons_succ, List.getElem?_cons_zero]
        repeat (first | go_big_quiet_skip | (show wpQuiet _ _ _ _ (_ :: _) _; go_big_quiet_skip) | (show wpQuiet _ _ _ _ (_ :: _) _; go_big_quiet_want; go_big_quiet_op; go_big_quiet_on))
        refine wpQuiet_nil ?_
        obtain ⟨Y8c0, Y8f0, Y8c1, Y8f1, Y8c2, Y8f2, Y8c3, Y8f3, Y8c4, Y8f4, Y8c5, Y8f5, Y8c6, Y8f6, Y8c7, Y8f7, Y8c8, Y8f8⟩ := Y8.f9
        have Y8z : F8 < W69.heap.size := Y8.lt
        have hWZ := (((((((((hW69.setCell (p := ⟨F8, 0, none⟩) (by simp <;> omega) (.int .i64 0)).setCell (p := ⟨F8, 1, none⟩) (by simp <;> omega) (.int .i64 0)).setCell (p := ⟨F8, 2, none⟩) (by simp <;> omega) (.int .i64 0)).setCell (p := ⟨F8, 3, none⟩) (by simp <;> omega) (.int .i64 0)).setCell (p := ⟨F8, 4, none⟩) (by simp <;> omega) (.int .i64 0)).setCell (p := ⟨F8, 5, none⟩) (by simp <;> omega) (.int .i64 0)).setCell (p := ⟨F8, 6, none⟩) (by simp <;> omega) (.int .i64 0)).setCell (p := ⟨F8, 7, none⟩) (by simp <;> omega) (.int .i64 0)).setCell (p := ⟨F8, 8, none⟩) (by simp <;> omega) (.int .i64 0))
        refine anyC_valD (some 18) (n := 2) (i := 9) (v := .bool false) (w' := W69) (by kernel_rfl) rfl rfl rfl (Later.mk' hW69) (by first | rfl | go_simp) ?_
        simp only [Act.put, List.setIfInBounds_toArray, List.set_cons_zero, List.set_cons_succ]
        refine anyC_storeN (w' := (((((((((W69.setCell ⟨F8, 0, none⟩ (.int .i64 0)).setCell ⟨F8, 1, none⟩ (.int .i64 0)).setCell ⟨F8, 2, none⟩ (.int .i64 0)).setCell ⟨F8, 3, none⟩ (.int .i64 0)).setCell ⟨F8, 4, none⟩ (.int .i64 0)).setCell ⟨F8, 5, none⟩ (.int .i64 0)).setCell ⟨F8, 6, none⟩ (.int .i64 0)).setCell ⟨F8, 7, none⟩ (.int .i64 0)).setCell ⟨F8, 8, none⟩ (.int .i64 0))) (n := 1) (i := 10) (by kernel_rfl) rfl rfl rfl (Later.mk' hW69) ?_ ?_
        · go_simp
        generalize (((((((((W69.setCell ⟨F8, 0, none⟩ (.int .i64 0)).setCell ⟨F8, 1, none⟩ (.int .i64 0)).setCell ⟨F8, 2, none⟩ (.int .i64 0)).setCell ⟨F8, 3, none⟩ (.int .i64 0)).setCell ⟨F8, 4, none⟩ (.int .i64 0)).setCell ⟨F8, 5, none⟩ (.int .i64 0)).setCell ⟨F8, 6, none⟩ (.int .i64 0)).setCell ⟨F8, 7, none⟩ (.int .i64 0)).setCell ⟨F8, 8, none⟩ (.int .i64 0)) = WZ at hWZ ⊢
        refine anyC_valD (some 20) (n := 0) (i := 11) (v := .int .i64 2) (w' := WZ) (by kernel_rfl) rfl rfl rfl (Later.mk' hWZ) (by first | rfl | go_simp) ?_
        simp only [Act.put, List.setIfInBounds_toArray, List.set_cons_zero, List.set_cons_succ]
        refine anyC_done (by kernel_rfl) (Later.mk' hWZ) ?_
        go_wp2_with fail
        go_meet
        exact ⟨rfl, hWZ⟩
  case rest =>
  obtain ⟨rfl, hb⟩ := hcut
  obtain ⟨w19, rfl⟩ : ∃ w19 : World, w19 = wc := ⟨_, rfl⟩
  replace hB := hB.trans (hb.mono hB.size)
  replace X1 := X1.later hb
  replace X7 := X7.later hb
  replace X10 := X10.later hb
  replace hS := ShAt.same hS (fun _ _ hx => Box.later hx hb)
  clear hb hmk
  obtain ⟨X1c0, X1c1, X1c2, X1c3, X1c4, X1c5⟩ := X1.c6
  have X1z := X1.lt
  go_wp2_with fail
  clear X1c0 X1c1 X1c2 X1c3 X1c4 X1c5 X1z
  have hb := (Below.refl w19.heap.size w19).alloc (Nat.le_refl _) (.cells #[.int .i64 0, .int .i64 0, .int .i64 0, .int .i64 0, .int .i64 0, .int .i64 1048577] 71)
  have hX := Box.new w19 [.int .i64 0, .int .i64 0, .int .i64 0, .int .i64 0, .int .i64 0, .int .i64 1048577] 71
  have hQ := barAt_one (x := ⟨0, 0, 0, 0, 0, 1048577⟩) hX
  replace hB := hB.trans (hb.mono hB.size)
  replace X1 := X1.later hb
  replace X7 := X7.later hb
  replace X10 := X10.later hb
  replace hS := ShAt.same hS (fun _ _ hx => Box.later hx hb)
  clear hb hX
  refine (bHolds_is (s := ⟨2, 0, 0, 0, 0, 0⟩) (Lib.hid pool_holds.2.2) hQ).mono ?_
  rintro e w20 ⟨rfl, hb⟩
  replace hB := hB.trans (hb.mono hB.size)
  replace X1 := X1.later hb
  replace X7 := X7.later hb
  replace X10 := X10.later hb
  replace hS := ShAt.same hS (fun _ _ hx => Box.later hx hb)
  clear hb hQ
  obtain ⟨g, rfl, rfl, hR⟩ : ∃ g, A15 = some ⟨g, 0, none⟩ ∧ n15 = 2 ∧ RowF w20 g 2 (fun k => [(⟨1, -1⟩ : Sh), ⟨1, -1⟩].getD k Sh.zero) := by
    rcases hS with ⟨_, h9⟩ | ⟨g, c9, hV9, _, _, hR9⟩
    · cases h9
    · cases hV9
      exact ⟨g, rfl, rfl, hR9⟩
  have r0 : w20.cell? ⟨g, 0, none⟩ = some (.int .i64 1) := (hR.cell (k := 0) (by omega)).1
  have r1 : w20.cell? ⟨g, 1, none⟩ = some (.int .i64 (-1)) := (hR.cell (k := 0) (by omega)).2
  have r2 : w20.cell? ⟨g, 2, none⟩ = some (.int .i64 1) := (hR.cell (k := 1) (by omega)).1
  have r3 : w20.cell? ⟨g, 3, none⟩ = some (.int .i64 (-1)) := (hR.cell (k := 1) (by omega)).2
  have hgz := hR.lt
  clear hR hS
  obtain ⟨X1c0, X1c1, X1c2, X1c3, X1c4, X1c5⟩ := X1.c6
  have X1z := X1.lt
  obtain ⟨X7c0, X7c1, X7c2, X7c3, X7c4, X7c5, X7c6, X7c7, X7c8⟩ := X7.c9
  have X7z := X7.lt
  obtain ⟨X10c0, X10c1, X10c2, X10c3, X10c4, X10c5, X10c6, X10c7, X10c8⟩ := X10.c9
  have X10z := X10.lt
  go_upto_region 14 with fail
  clear X1c0 X1c1 X1c2 X1c3 X1c4 X1c5 X1z
  have hd := (Below.refl w20.heap.size w20).drew
  have k0 : ∀ z : Later w20, z.w.cell? ⟨g, 0, none⟩ = some (.int .i64 1) := Later.cell r0 hgz
  have k1 : ∀ z : Later w20, z.w.cell? ⟨g, 1, none⟩ = some (.int .i64 (-1)) := Later.cell r1 hgz
  have k2 : ∀ z : Later w20, z.w.cell? ⟨g, 2, none⟩ = some (.int .i64 1) := Later.cell r2 hgz
  have k3 : ∀ z : Later w20, z.w.cell? ⟨g, 3, none⟩ = some (.int .i64 (-1)) := Later.cell r3 hgz
  refine wp_region_heads (C := fun w' => ∃ x : Later w20, w' = x.w) [0, 1, 2, 3, 4, 5, 6, 7, 8, 9, 10, 11, 12, 13, 14] (by kernel_rfl) (by kernel_rfl) (Later.mk' hd) (fun _ _ h => h) ?_
  simp only [headOps, List.filterMap_cons, List.filterMap_nil, List.getElem?_toArray, List.getElem?_cons_succ, List.getElem?_cons_zero]
  repeat (first | go_big_quiet_skip | (show wpQuiet _ _ _ _ (_ :: _) _; go_big_quiet_skip) | (show wpQuiet _ _ _ _ (_ :: _) _; go_big_quiet_want; go_big_quiet_op; go_big_quiet_on))
  refine wpQuiet_nil ?_
  refine anyC_done (by kernel_rfl) (Later.mk' hd) ?_
  go_wp2_with fail
  go_ret
  exact ⟨rfl, hB.drew⟩
end Go.Proofs.Ytancngachnpefaa
