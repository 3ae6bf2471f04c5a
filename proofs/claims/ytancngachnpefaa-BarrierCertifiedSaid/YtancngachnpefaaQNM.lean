/- possible of the law's file of chapter 33. (Printed by gen_nm.py and pp.py.) No condition. -/
import Derived.Test.YtancngachnpefaaQK
import Derived.Test.YtancngachnpefaaQNL
import Derived.Test.YtancngachnpefaaQNB
set_option linter.unusedVariables false
set_option linter.unusedSimpArgs false
set_option maxRecDepth 100000
set_option maxHeartbeats 4000000
namespace Go.Proofs.Ytancngachnpefaa
open Go.RowKit Go.Shelf
attribute [local go_sem] Oper.semAt_some
theorem tmod_bd (x : Int) {n : Int} (h : 0 < n) : -n < x.tmod n ∧ x.tmod n < n := by
  have h1 := Int.tmod_lt_of_pos x h
  have h2 := Int.lt_tmod_of_pos x h
  exact ⟨h2, h1⟩
theorem inI_ofM {n a b : Int} (h : a ≤ n ∧ n ≤ b) : inI n a b = true := decide_eq_true h
theorem poss_in {p : Pl} (hv : p.Valid) {f m : Int} (h : 0 ≤ f ∧ f ≤ p.feed ∧ -1 ≤ m ∧ m ≤ p.orders) : (⟨f, m⟩ : Sh) ∈ p.shocks := by
  refine (shocks_mem hv).2 ?_
  unfold chosenB
  rw [Bool.and_eq_true]
  exact ⟨inI_ofM ⟨h.1, h.2.1⟩, inI_ofM ⟨h.2.2.1, h.2.2.2⟩⟩
theorem lPoss_any (p : Pl) (x : Sh) (w : World) (hv : Hid p.Valid) : Calls Try.prog 25 #[p.v, x.v] w fun e w' => ∃ y : Sh, e = .returned y.v ∧ y ∈ p.shocks ∧ Below w.heap.size w w' := by
  obtain ⟨x0, x1⟩ := x
  have hf0 := hv.out.feed
  have ho0 := hv.out.orders
  have e1 : wrap64 (p.feed + 1) = p.feed + 1 := by unfold wrap64; omega
  have e2 : IntKind.i64.wrap (p.feed + 1) = p.feed + 1 := by rw [IntKind.wrap_i64]; omega
  have e3 : wrap64 (p.orders + 2) = p.orders + 2 := by unfold wrap64; omega
  have e4 : IntKind.i64.wrap (p.orders + 2) = p.orders + 2 := by rw [IntKind.wrap_i64]; omega
  have e5 : max 1 (p.feed + 1) = p.feed + 1 := by omega
  have e6 : max 1 (p.orders + 2) = p.orders + 2 := by omega
  have e7 : ¬ p.feed + 1 = 0 := by omega
  have e8 : ¬ p.orders + 2 = 0 := by omega
  go_enter Try.func25, Try.ntmps25
  go_upto_region 1 with fail
  have hB := (((Below.refl w.heap.size w).alloc (by simp <;> omega) (.cells #[.int .i64 p.top, .int .i64 p.bank, .int .i64 p.siphon, .int .i64 p.start, .int .i64 p.positions, .int .i64 p.rate, .int .i64 p.step, .int .i64 p.pass, .int .i64 p.feed, .int .i64 p.pipe, .int .i64 p.orders, .int .i64 p.age] 23)).alloc (by simp <;> omega) (.cells #[.int .i64 x0, .int .i64 x1] 37)).alloc (by simp <;> omega) (.cells #[.int .i64 0, .int .i64 0] 37)
  have X2 := ((Box.newAt (w := w) (n := w.heap.size) [.int .i64 p.top, .int .i64 p.bank, .int .i64 p.siphon, .int .i64 p.start, .int .i64 p.positions, .int .i64 p.rate, .int .i64 p.step, .int .i64 p.pass, .int .i64 p.feed, .int .i64 p.pipe, .int .i64 p.orders, .int .i64 p.age] 23 rfl).alloc (.cells #[.int .i64 x0, .int .i64 x1] 37)).alloc (.cells #[.int .i64 0, .int .i64 0] 37)
  have X3 := (Box.newAt (w := w.alloc (.cells #[.int .i64 p.top, .int .i64 p.bank, .int .i64 p.siphon, .int .i64 p.start, .int .i64 p.positions, .int .i64 p.rate, .int .i64 p.step, .int .i64 p.pass, .int .i64 p.feed, .int .i64 p.pipe, .int .i64 p.orders, .int .i64 p.age] 23)) (n := w.heap.size + 1) [.int .i64 x0, .int .i64 x1] 37 (by simp)).alloc (.cells #[.int .i64 0, .int .i64 0] 37)
  have X4 := Box.newAt (w := (w.alloc (.cells #[.int .i64 p.top, .int .i64 p.bank, .int .i64 p.siphon, .int .i64 p.start, .int .i64 p.positions, .int .i64 p.rate, .int .i64 p.step, .int .i64 p.pass, .int .i64 p.feed, .int .i64 p.pipe, .int .i64 p.orders, .int .i64 p.age] 23)).alloc (.cells #[.int .i64 x0, .int .i64 x1] 37)) (n := w.heap.size + 1 + 1) [.int .i64 0, .int .i64 0] 37 (by simp)
  generalize ((w.alloc (.cells #[.int .i64 p.top, .int .i64 p.bank, .int .i64 p.siphon, .int .i64 p.start, .int .i64 p.positions, .int .i64 p.rate, .int .i64 p.step, .int .i64 p.pass, .int .i64 p.feed, .int .i64 p.pipe, .int .i64 p.orders, .int .i64 p.age] 23)).alloc (.cells #[.int .i64 x0, .int .i64 x1] 37)).alloc (.cells #[.int .i64 0, .int .i64 0] 37) = w0 at X2 X3 X4 hB ⊢
  go_cut [5, 6] (fun s5 s6 wx => s5 = .int .i64 (p.feed + 1) ∧ s6 = .int .i64 (p.orders + 2) ∧ Below w0.heap.size w0 wx)
  case first =>
    have hd := (Below.refl w0.heap.size w0).drew
    have z2 := X2.lt
    have u8 : ∀ z : Later w0, z.w.cell? ⟨w.heap.size, 8, none⟩ = some (.int .i64 p.feed) := Later.cell (X2.cell 8) z2
    have u10 : ∀ z : Later w0, z.w.cell? ⟨w.heap.size, 10, none⟩ = some (.int .i64 p.orders) := Later.cell (X2.cell 10) z2
    refine wp_region_heads (C := fun w' => ∃ x : Later w0, w' = x.w) [0, 1, 2, 4, 5, 6] (by kernel_rfl) (by kernel_rfl) (Later.mk' hd) (fun _ _ h => h) ?_
    simp only [headOps, List.filterMap_cons, List.filterMap_nil, List.getElem?_toArray, List.getElem?_cons_succ, List.getElem?_cons_zero]
    repeat (first | go_big_quiet_skip | (show wpQuiet _ _ _ _ (_ :: _) _; go_big_quiet_skip) | (show wpQuiet _ _ _ _ (_ :: _) _; go_big_quiet_want; go_big_quiet_op; go_big_quiet_on))
    refine wpQuiet_nil ?_
    clear u8 u10
    refine anyC_twoW (n := 4) (i := 3) (j := 7) (by kernel_rfl) (Later.mk' hd) ?_ ?_
    · refine wpOp_valD (some 12) (v := .int .i64 (p.feed + 1)) (w' := w0.drew) (by rfl) rfl rfl ?_ ?_
      · go_simp
      simp only [Act.put, List.setIfInBounds_toArray, List.set_cons_zero, List.set_cons_succ]
      refine anyC_twoW (n := 3) (i := 7) (j := 8) (by kernel_rfl) (Later.mk' hd) ?_ ?_
      · refine wpOp_valD (some 16) (v := .int .i64 (p.orders + 2)) (w' := w0.drew) (by rfl) rfl rfl ?_ ?_
        · go_simp
        simp only [Act.put, List.setIfInBounds_toArray, List.set_cons_zero, List.set_cons_succ]
        refine anyC_valD (some 5) (n := 1) (i := 8) (v := .int .i64 (p.feed + 1)) (w' := w0.drew) (by kernel_rfl) rfl rfl rfl (Later.mk' hd) (by first | rfl | go_simp) ?_
        simp only [Act.put, List.setIfInBounds_toArray, List.set_cons_zero, List.set_cons_succ]
        refine anyC_valD (some 6) (n := 0) (i := 9) (v := .int .i64 (p.orders + 2)) (w' := w0.drew) (by kernel_rfl) rfl rfl rfl (Later.mk' hd) (by first | rfl | go_simp) ?_
        simp only [Act.put, List.setIfInBounds_toArray, List.set_cons_zero, List.set_cons_succ]
        refine anyC_done (by kernel_rfl) (Later.mk' hd) ?_
        go_wp2_with fail
        go_meet
        exact ⟨rfl, rfl, hd⟩
      · refine wpOp_valD (some 5) (v := .int .i64 (p.feed + 1)) (w' := w0.drew) (by rfl) rfl rfl ?_ ?_
        · go_simp
        simp only [Act.put, List.setIfInBounds_toArray, List.set_cons_zero, List.set_cons_succ]
        refine anyC_valD (some 16) (n := 1) (i := 7) (v := .int .i64 (p.orders + 2)) (w' := w0.drew) (by kernel_rfl) rfl rfl rfl (Later.mk' hd) (by go_simp) ?_
        simp only [Act.put, List.setIfInBounds_toArray, List.set_cons_zero, List.set_cons_succ]
        refine anyC_valD (some 6) (n := 0) (i := 9) (v := .int .i64 (p.orders + 2)) (w' := w0.drew) (by kernel_rfl) rfl rfl rfl (Later.mk' hd) (by first | rfl | go_simp) ?_
        simp only [Act.put, List.setIfInBounds_toArray, List.set_cons_zero, List.set_cons_succ]
        refine anyC_done (by kernel_rfl) (Later.mk' hd) ?_
        go_wp2_with fail
        go_meet
        exact ⟨rfl, rfl, hd⟩
    · refine wpOp_valD (some 16) (v := .int .i64 (p.orders + 2)) (w' := w0.drew) (by rfl) rfl rfl ?_ ?_
      · go_simp
      simp only [Act.put, List.setIfInBounds_toArray, List.set_cons_zero, List.set_cons_succ]
      refine anyC_valD (some 12) (n := 2) (i := 3) (v := .int .i64 (p.feed + 1)) (w' := w0.drew) (by kernel_rfl) rfl rfl rfl (Later.mk' hd) (by go_simp) ?_
      simp only [Act.put, List.setIfInBounds_toArray, List.set_cons_zero, List.set_cons_succ]
      refine anyC_valD (some 5) (n := 1) (i := 8) (v := .int .i64 (p.feed + 1)) (w' := w0.drew) (by kernel_rfl) rfl rfl rfl (Later.mk' hd) (by first | rfl | go_simp) ?_
      simp only [Act.put, List.setIfInBounds_toArray, List.set_cons_zero, List.set_cons_succ]
      refine anyC_valD (some 6) (n := 0) (i := 9) (v := .int .i64 (p.orders + 2)) (w' := w0.drew) (by kernel_rfl) rfl rfl rfl (Later.mk' hd) (by first | rfl | go_simp) ?_
      simp only [Act.put, List.setIfInBounds_toArray, List.set_cons_zero, List.set_cons_succ]
      refine anyC_done (by kernel_rfl) (Later.mk' hd) ?_
      go_wp2_with fail
      go_meet
      exact ⟨rfl, rfl, hd⟩
  case rest =>
  obtain ⟨rfl, rfl, hb⟩ := hcut
  obtain ⟨w1, rfl⟩ : ∃ w1 : World, w1 = wc := ⟨_, rfl⟩
  clear e1 e2 e3 e4 e5 e6
  replace X3 := X3.later hb
  replace X4 := X4.later hb
  replace hB := hB.trans (hb.mono hB.size)
  clear hb X2
  obtain ⟨f, hf⟩ : ∃ f, x0.tmod (p.feed + 1) = f := ⟨_, rfl⟩
  obtain ⟨m, hm⟩ : ∃ m, x1.tmod (p.orders + 2) = m := ⟨_, rfl⟩
  have hf1 : -(p.feed + 1) < f ∧ f < p.feed + 1 := by
    rw [← hf]
    exact tmod_bd x0 (by omega)
  have hm1 : -(p.orders + 2) < m ∧ m < p.orders + 2 := by
    rw [← hm]
    exact tmod_bd x1 (by omega)
  go_upto_region 2 with fail
  go_cut [7, 8] (fun s7 s8 wx => s7 = .int .i64 f ∧ s8 = .int .i64 m ∧ Below w1.heap.size w1 wx)
  case first =>
    have hd := (Below.refl w1.heap.size w1).drew
    have z3 := X3.lt
    have u0 : ∀ z : Later w1, z.w.cell? ⟨w.heap.size + 1, 0, none⟩ = some (.int .i64 x0) := Later.cell (X3.cell 0) z3
    have u1 : ∀ z : Later w1, z.w.cell? ⟨w.heap.size + 1, 1, none⟩ = some (.int .i64 x1) := Later.cell (X3.cell 1) z3
    refine wp_region_heads (C := fun w' => ∃ x : Later w1, w' = x.w) [0, 1, 2, 3, 4, 5, 6, 7, 8, 9] (by kernel_rfl) (by kernel_rfl) (Later.mk' hd) (fun _ _ h => h) ?_
    simp only [headOps, List.filterMap_cons, List.filterMap_nil, List.getElem?_toArray, List.getElem?_cons_succ, List.getElem?_cons_zero]
    repeat (first | go_big_quiet_skip | (show wpQuiet _ _ _ _ (_ :: _) _; go_big_quiet_skip) | (show wpQuiet _ _ _ _ (_ :: _) _; go_big_quiet_want; go_big_quiet_op; go_big_quiet_on))
    refine wpQuiet_nil ?_
    refine anyC_done (by kernel_rfl) (Later.mk' hd) ?_
    go_wp2_with fail
    go_meet
    exact ⟨by simp only [hf], by simp only [hm], hd⟩
  case rest =>
  obtain ⟨rfl, rfl, hb⟩ := hcut
  obtain ⟨w2, rfl⟩ : ∃ w2 : World, w2 = wc := ⟨_, rfl⟩
  replace X4 := X4.later hb
  replace hB := hB.trans (hb.mono hB.size)
  clear hb X3 e7 e8 hf hm
  obtain ⟨f2, hf2⟩ : ∃ f2, (if f < 0 then f + (p.feed + 1) else f) = f2 := ⟨_, rfl⟩
  obtain ⟨m2, hm2⟩ : ∃ m2, (if m < 0 then m + (p.orders + 2) else m) = m2 := ⟨_, rfl⟩
  have hin : Hid ((⟨f2, m2 - 1⟩ : Sh) ∈ p.shocks) := Lib.hid (poss_in hv.out (by
    rw [← hf2, ← hm2]
    refine ⟨?_, ?_, ?_, ?_⟩ <;> split <;> omega))
  have e1 : wrap64 (f + (p.feed + 1)) = f + (p.feed + 1) := by unfold wrap64; omega
  have e2 : IntKind.i64.wrap (f + (p.feed + 1)) = f + (p.feed + 1) := by rw [IntKind.wrap_i64]; omega
  have e3 : wrap64 (m + (p.orders + 2)) = m + (p.orders + 2) := by unfold wrap64; omega
  have e4 : IntKind.i64.wrap (m + (p.orders + 2)) = m + (p.orders + 2) := by rw [IntKind.wrap_i64]; omega
  have hm3 : -1 ≤ m2 ∧ m2 ≤ p.orders + 2 := by rw [← hm2]; split <;> omega
  have e5 : wrap64 (m2 - 1) = m2 - 1 := by unfold wrap64; omega
  have e6 : IntKind.i64.wrap (m2 - 1) = m2 - 1 := by rw [IntKind.wrap_i64]; omega
  have E5 := Lib.hid e5
  have E6 := Lib.hid e6
  clear hm3 hf1 hm1 e5 e6
  by_cases hfn : f < 0
  · rw [if_pos hfn] at hf2
    by_cases hmn : m < 0
    · rw [if_pos hmn] at hm2
      subst hf2 hm2
      have e5 := E5.out
      have e6 := E6.out
      obtain ⟨X4c0, X4f0, X4c1, X4f1⟩ := X4.f2
      have X4z : w.heap.size + 1 + 1 < w2.heap.size := X4.lt
      go_wp2
      have Z4 : Box ((w2.setCell ⟨w.heap.size + 1 + 1, 0, none⟩ (.int .i64 (f + (p.feed + 1)))).setCell ⟨w.heap.size + 1 + 1, 1, none⟩ (.int .i64 (m + (p.orders + 2) - 1))) (w.heap.size + 1 + 1) [.int .i64 (f + (p.feed + 1)), .int .i64 (m + (p.orders + 2) - 1)] := (X4.set 0 (.int .i64 (f + (p.feed + 1)))).set 1 (.int .i64 (m + (p.orders + 2) - 1))
      have hBz := (hB.setCell (p := ⟨w.heap.size + 1 + 1, 0, none⟩) (by simp <;> omega) (.int .i64 (f + (p.feed + 1)))).setCell (p := ⟨w.heap.size + 1 + 1, 1, none⟩) (by simp <;> omega) (.int .i64 (m + (p.orders + 2) - 1))
      generalize ((w2.setCell ⟨w.heap.size + 1 + 1, 0, none⟩ (.int .i64 (f + (p.feed + 1)))).setCell ⟨w.heap.size + 1 + 1, 1, none⟩ (.int .i64 (m + (p.orders + 2) - 1))) = wz at Z4 hBz ⊢
      obtain ⟨Z4c0, Z4c1⟩ := Z4.c2
      refine bodyPost_ret (v := .agg #[.int .i64 (f + (p.feed + 1)), .int .i64 (m + (p.orders + 2) - 1)]) (by simp [results, Try.results25, go_sem, Z4c0, Z4c1]) rfl ?_
      exact ⟨⟨(f + (p.feed + 1)), (m + (p.orders + 2) - 1)⟩, rfl, hin.out, hBz⟩
    · rw [if_neg hmn] at hm2
      subst hf2 hm2
      have e5 := E5.out
      have e6 := E6.out
      obtain ⟨X4c0, X4f0, X4c1, X4f1⟩ := X4.f2
      have X4z : w.heap.size + 1 + 1 < w2.heap.size := X4.lt
      go_wp2
      have Z4 : Box ((w2.setCell ⟨w.heap.size + 1 + 1, 0, none⟩ (.int .i64 (f + (p.feed + 1)))).setCell ⟨w.heap.size + 1 + 1, 1, none⟩ (.int .i64 (m - 1))) (w.heap.size + 1 + 1) [.int .i64 (f + (p.feed + 1)), .int .i64 (m - 1)] := (X4.set 0 (.int .i64 (f + (p.feed + 1)))).set 1 (.int .i64 (m - 1))
      have hBz := (hB.setCell (p := ⟨w.heap.size + 1 + 1, 0, none⟩) (by simp <;> omega) (.int .i64 (f + (p.feed + 1)))).setCell (p := ⟨w.heap.size + 1 + 1, 1, none⟩) (by simp <;> omega) (.int .i64 (m - 1))
      generalize ((w2.setCell ⟨w.heap.size + 1 + 1, 0, none⟩ (.int .i64 (f + (p.feed + 1)))).setCell ⟨w.heap.size + 1 + 1, 1, none⟩ (.int .i64 (m - 1))) = wz at Z4 hBz ⊢
      obtain ⟨Z4c0, Z4c1⟩ := Z4.c2
      refine bodyPost_ret (v := .agg #[.int .i64 (f + (p.feed + 1)), .int .i64 (m - 1)]) (by simp [results, Try.results25, go_sem, Z4c0, Z4c1]) rfl ?_
      exact ⟨⟨(f + (p.feed + 1)), (m - 1)⟩, rfl, hin.out, hBz⟩
  · rw [if_neg hfn] at hf2
    by_cases hmn : m < 0
    · rw [if_pos hmn] at hm2
      subst hf2 hm2
      have e5 := E5.out
      have e6 := E6.out
      obtain ⟨X4c0, X4f0, X4c1, X4f1⟩ := X4.f2
      have X4z : w.heap.size + 1 + 1 < w2.heap.size := X4.lt
      go_wp2
      have Z4 : Box ((w2.setCell ⟨w.heap.size + 1 + 1, 0, none⟩ (.int .i64 (f))).setCell ⟨w.heap.size + 1 + 1, 1, none⟩ (.int .i64 (m + (p.orders + 2) - 1))) (w.heap.size + 1 + 1) [.int .i64 (f), .int .i64 (m + (p.orders + 2) - 1)] := (X4.set 0 (.int .i64 (f))).set 1 (.int .i64 (m + (p.orders + 2) - 1))
      have hBz := (hB.setCell (p := ⟨w.heap.size + 1 + 1, 0, none⟩) (by simp <;> omega) (.int .i64 (f))).setCell (p := ⟨w.heap.size + 1 + 1, 1, none⟩) (by simp <;> omega) (.int .i64 (m + (p.orders + 2) - 1))
      generalize ((w2.setCell ⟨w.heap.size + 1 + 1, 0, none⟩ (.int .i64 (f))).setCell ⟨w.heap.size + 1 + 1, 1, none⟩ (.int .i64 (m + (p.orders + 2) - 1))) = wz at Z4 hBz ⊢
      obtain ⟨Z4c0, Z4c1⟩ := Z4.c2
      refine bodyPost_ret (v := .agg #[.int .i64 (f), .int .i64 (m + (p.orders + 2) - 1)]) (by simp [results, Try.results25, go_sem, Z4c0, Z4c1]) rfl ?_
      exact ⟨⟨(f), (m + (p.orders + 2) - 1)⟩, rfl, hin.out, hBz⟩
    · rw [if_neg hmn] at hm2
      subst hf2 hm2
      have e5 := E5.out
      have e6 := E6.out
      obtain ⟨X4c0, X4f0, X4c1, X4f1⟩ := X4.f2
      have X4z : w.heap.size + 1 + 1 < w2.heap.size := X4.lt
      go_wp2
      have Z4 : Box ((w2.setCell ⟨w.heap.size + 1 + 1, 0, none⟩ (.int .i64 (f))).setCell ⟨w.heap.size + 1 + 1, 1, none⟩ (.int .i64 (m - 1))) (w.heap.size + 1 + 1) [.int .i64 (f), .int .i64 (m - 1)] := (X4.set 0 (.int .i64 (f))).set 1 (.int .i64 (m - 1))
      have hBz := (hB.setCell (p := ⟨w.heap.size + 1 + 1, 0, none⟩) (by simp <;> omega) (.int .i64 (f))).setCell (p := ⟨w.heap.size + 1 + 1, 1, none⟩) (by simp <;> omega) (.int .i64 (m - 1))
      generalize ((w2.setCell ⟨w.heap.size + 1 + 1, 0, none⟩ (.int .i64 (f))).setCell ⟨w.heap.size + 1 + 1, 1, none⟩ (.int .i64 (m - 1))) = wz at Z4 hBz ⊢
      obtain ⟨Z4c0, Z4c1⟩ := Z4.c2
      refine bodyPost_ret (v := .agg #[.int .i64 (f), .int .i64 (m - 1)]) (by simp [results, Try.results25, go_sem, Z4c0, Z4c1]) rfl ?_
      exact ⟨⟨(f), (m - 1)⟩, rfl, hin.out, hBz⟩
end Go.Proofs.Ytancngachnpefaa
