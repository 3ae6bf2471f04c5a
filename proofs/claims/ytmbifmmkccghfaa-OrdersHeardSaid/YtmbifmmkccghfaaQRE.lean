/- Contract of Check of orders. (Printed by pp.py.) No condition. -/
import Derived.Test.YtmbifmmkccghfaaQKG
import Derived.Test.YtmbifmmkccghfaaQGP
import Derived.Laws.MakeOwn
set_option linter.unusedVariables false
set_option linter.unusedSimpArgs false
namespace Go.Proofs.Ytmbifmmkccghfaa
open Go.RowKit

theorem check_no {b : Bx} (h : b.okB = false) : b.checkT = 340 := by rw [Bx.checkT, if_neg (by rw [h]; decide)]
theorem check_yes {b : Bx} (h : b.okB = true) : b.checkT = 0 := by rw [Bx.checkT, if_pos h]
theorem net_chk {n : Net} : n.checkT = 0 ∧ n.okB = true ∨ n.checkT = 60 ∧ n.okB = false := by
  unfold Net.checkT
  cases h : n.okB with
  | true => exact .inl ⟨if_pos rfl, rfl⟩
  | false => exact .inr ⟨if_neg (by decide), rfl⟩
theorem net_data {n : Net} (h : n.okB = true) {p : Pk} (hp : p ∈ n.queue) : p.data.length ≤ 1048576 := by
  simp only [Net.okB, Bool.and_eq_true] at h
  have := List.all_eq_true.1 h.2.1 p hp
  simp only [Pk.okB, Bool.and_eq_true, decide_eq_true_eq] at this
  exact this.2
set_option maxRecDepth 100000 in
set_option maxHeartbeats 4000000 in
theorem oCheck_any (b : Bx) (Aq Aa As Ah Af : Option Addr) (nq cq na ca ns cs n ch nf cf : Nat) (w : World) {T : Int} (hT : Hid (b.checkT = T)) (hx : Hid (BxAt w w.heap.size (.slice Aq nq cq) (.slice Aa na ca) (.slice As ns cs) (.slice Ah n ch) (.slice Af nf cf) b)) (hnq : Hid (b.net.queue.length = nq)) (hna : Hid (b.net.apart.length = na)) (hns : Hid (b.sent.length = ns)) (hn : Hid (b.heard.length = n)) (hnf : Hid (b.fresh.length = nf)) (hcs : ns ≤ 9223372036854775807) (hcn : n ≤ 9223372036854775807) (hcf : nf ≤ 9223372036854775807) (hcq : nq ≤ 9223372036854775807) :
    Calls Try.prog 15 #[.agg #[.slice Aq nq cq, .slice Aa na ca, .slice As ns cs, .slice Ah n ch, .slice Af nf cf]] w fun e w' => e = .returned (.int .i64 T) ∧ Below w.heap.size w w' := by
  have hB := (Below.refl w.heap.size w).alloc (Nat.le_refl _) (.cells #[.slice Aq nq cq, .slice Aa na ca, .slice As ns cs, .slice Ah n ch, .slice Af nf cf] 30)
  have X1 := Box.new w [.slice Aq nq cq, .slice Aa na ca, .slice As ns cs, .slice Ah n ch, .slice Af nf cf] 30
  go_enter Try.func15, Try.ntmps15
  go_upto_region 1 with fail
  generalize w.alloc (.cells #[.slice Aq nq cq, .slice Aa na ca, .slice As ns cs, .slice Ah n ch, .slice Af nf cf] 30) = w1 at hB X1 ⊢
  have z1 := X1.lt
  have X1c0 : w1.cell? ⟨w.heap.size, 0, none⟩ = some (.slice Aq nq cq) := X1.cell 0
  have X1c1 : w1.cell? ⟨w.heap.size, 1, none⟩ = some (.slice Aa na ca) := X1.cell 1
  have X1c2 : w1.cell? ⟨w.heap.size, 2, none⟩ = some (.slice As ns cs) := X1.cell 2
  have X1c3 : w1.cell? ⟨w.heap.size, 3, none⟩ = some (.slice Ah n ch) := X1.cell 3
  have X1c4 : w1.cell? ⟨w.heap.size, 4, none⟩ = some (.slice Af nf cf) := X1.cell 4
  obtain ⟨v, hv⟩ : ∃ v, Hid (b.validB = v) := ⟨_, Lib.hid rfl⟩
  go_wp2_with fail
  refine (oValid_is b _ _ As Ah Af ns cs n ch nf cf w1 hv (Lib.hid (hx.out.later hB)) hns hn hnf hcs hcn hcf).mono ?_
  rintro e w2 ⟨rfl, hb⟩
  have hB := hB.trans (hb.mono hB.size)
  have X1 := X1.later hb
  clear hb z1 X1c0 X1c1 X1c2 X1c3 X1c4
  cases v with
  | false =>
    obtain rfl : T = 340 := by rw [← hT.out, check_no]; rw [Bx.okB, hv.out]; rfl
    go_wp2
    go_ret
    exact ⟨rfl, hB⟩
  | true =>
  have z1 := X1.lt
  have X1c0 : w2.cell? ⟨w.heap.size, 0, none⟩ = some (.slice Aq nq cq) := X1.cell 0
  have X1c1 : w2.cell? ⟨w.heap.size, 1, none⟩ = some (.slice Aa na ca) := X1.cell 1
  have X1c2 : w2.cell? ⟨w.heap.size, 2, none⟩ = some (.slice As ns cs) := X1.cell 2
  have X1c3 : w2.cell? ⟨w.heap.size, 3, none⟩ = some (.slice Ah n ch) := X1.cell 3
  have X1c4 : w2.cell? ⟨w.heap.size, 4, none⟩ = some (.slice Af nf cf) := X1.cell 4
  obtain ⟨c, hc⟩ : ∃ c, Hid (b.net.checkT = c) := ⟨_, Lib.hid rfl⟩
  go_wp2_with fail
  refine (nCheck_at hc (hx.out.later hB).net).mono ?_
  rintro e w3 ⟨rfl, hb⟩
  have hB := hB.trans (hb.mono hB.size)
  have X1 := X1.later hb
  clear hb z1 X1c0 X1c1 X1c2 X1c3 X1c4
  rcases net_chk (n := b.net) with ⟨h1, h2⟩ | ⟨h1, h2⟩
  rotate_left
  · obtain rfl : c = 60 := by rw [← hc.out]; exact h1
    obtain rfl : T = 340 := by rw [← hT.out, check_no]; rw [Bx.okB, hv.out, h2]; rfl
    clear h1 h2
    go_wp2
    go_ret
    exact ⟨rfl, hB⟩
  obtain rfl : c = 0 := by rw [← hc.out]; exact h1
  have HNO := Lib.hid h2
  clear h1 h2
  have z1 := X1.lt
  have X1c0 : w3.cell? ⟨w.heap.size, 0, none⟩ = some (.slice Aq nq cq) := X1.cell 0
  have X1c1 : w3.cell? ⟨w.heap.size, 1, none⟩ = some (.slice Aa na ca) := X1.cell 1
  have X1c2 : w3.cell? ⟨w.heap.size, 2, none⟩ = some (.slice As ns cs) := X1.cell 2
  have X1c3 : w3.cell? ⟨w.heap.size, 3, none⟩ = some (.slice Ah n ch) := X1.cell 3
  have X1c4 : w3.cell? ⟨w.heap.size, 4, none⟩ = some (.slice Af nf cf) := X1.cell 4
  go_upto_region 4 with fail
  clear z1 X1c0 X1c1 X1c2 X1c3 X1c4
  have hvp : b.listsB = true ∧ b.sentB = true := by
    have := hv.out
    simp only [Bx.validB, Bool.and_eq_true] at this
    exact ⟨this.1, this.2.1⟩
  have HVP := Lib.hid hvp
  clear hvp
  go_loopw [19] (fun s wr => ∃ k : Nat, k ≤ nq ∧ s = .int .i64 k ∧ Below w.heap.size w wr ∧ Box wr w.heap.size [.slice Aq nq cq, .slice Aa na ca, .slice As ns cs, .slice Ah n ch, .slice Af nf cf] ∧ Hid (∀ j (hj : j < b.net.queue.length), j < k → b.pkB b.net.queue[j] = true)) (fun s _ => nq - (intOf s).toNat)
  case atStart => exact ⟨0, by omega, rfl, hB, X1, Lib.hid (fun j _ hj => by omega)⟩
  case round =>
    clear hB X1
    obtain ⟨k, hk, rfl, hB, X1, hall⟩ := hrel
    obtain ⟨wo, rfl⟩ : ∃ wo : World, wo = wr := ⟨_, rfl⟩
    rcases Nat.lt_or_ge k nq with hlt | hge
    rotate_left
    · obtain rfl : k = nq := by omega
      have hk3 : ¬ ((k : Int) < (k : Int)) := by omega
      obtain rfl : T = 0 := by
        rw [← hT.out, check_yes]
        rw [Bx.okB, hv.out, HNO.out, Bool.true_and, Bool.true_and]
        refine List.all_eq_true.2 fun p hp => ?_
        obtain ⟨j, hj, rfl⟩ := List.getElem_of_mem hp
        exact hall.out j hj (by rw [← hnq.out]; exact hj)
      go_wp2
      go_ret
      exact ⟨rfl, hB⟩
    have hk3 : (k : Int) < (nq : Int) := by omega
    have hkl : k < b.net.queue.length := by rw [hnq.out]; exact hlt
    obtain ⟨bq, oq, Vd, rfl, hbq, c0, c1, c2, hd⟩ := hx.out.net.queue.pk hkl
    have hdl := net_data HNO.out (List.getElem_mem hkl)
    have hbad : b.pkB b.net.queue[k] = false → T = 340 := fun h => by
      rw [← hT.out, check_no]
      have : b.net.queue.all b.pkB = false := List.all_eq_false.2 ⟨_, List.getElem_mem hkl, by rw [h]; decide⟩
      rw [Bx.okB, this, Bool.and_false, Bool.and_false]
    have hgood : b.pkB b.net.queue[k] = true → ∀ j (hj : j < b.net.queue.length), j < k + 1 → b.pkB b.net.queue[j] = true := fun h j hj hjk => by
      rcases Nat.lt_or_ge j k with h9 | h9
      · exact hall.out j hj h9
      · obtain rfl : j = k := by omega
        exact h
    have hsame := pk_same (b := b) (p := b.net.queue[k]) (by simp only [maxLen]; omega) HVP.out.2 (by
      have := of_decide_eq_true HVP.out.1
      simp only [maxLen]
      omega)
    rw [← hsame] at hbad hgood
    clear hsame
    generalize b.net.queue[k] = p at c0 c1 c2 hd hdl hbad hgood
    have HBAD := Lib.hid hbad
    have HGOOD := Lib.hid hgood
    clear hbad hgood
    obtain ⟨Ad, cd, rfl, -⟩ := hd.form
    obtain ⟨dl, hdle⟩ : ∃ dl, p.data.length = dl := ⟨_, rfl⟩
    rw [hdle] at c2 hd hdl
    have HD := Lib.hid hd
    have HDL := Lib.hid hdle
    clear hd hdle
    obtain ⟨src, dst, data⟩ := p
    dsimp only at c0 c1 HD HDL
    replace c0 := (hB.cell hbq).trans c0
    replace c1 := (hB.cell hbq).trans c1
    replace c2 := (hB.cell hbq).trans c2
    have hqz := Nat.lt_of_lt_of_le hbq hB.size
    go_upto_region 6 with fail
    have Y := Box.new wo [.int .i64 src, .int .i64 dst, .slice Ad dl cd] 51
    have hal := (Below.refl wo.heap.size wo).alloc (Nat.le_refl _) (.cells #[.int .i64 src, .int .i64 dst, .slice Ad dl cd] 51)
    have X1 := X1.later hal
    have hB := hB.trans (hal.mono hB.size)
    clear hal c0 c1 c2 hqz
    generalize wo.alloc (.cells #[.int .i64 src, .int .i64 dst, .slice Ad dl cd] 51) = wa at Y X1 hB ⊢
    generalize wo.heap.size = D at Y ⊢
    have y2 : wa.cell? ⟨D, 2, none⟩ = some (.slice Ad dl cd) := Y.cell 2
    have yz := Y.lt
    obtain ⟨u, hu⟩ : ∃ u, Hid (numberT data = u) := ⟨_, Lib.hid rfl⟩
    go_wp2_with fail
    have hda : BytesAt wa wa.heap.size (.slice Ad dl cd) data := (HD.out.below hB).more hB.size
    refine (oNumber_is hu hda (by rw [HDL.out]; omega)).mono ?_
    rintro e W ⟨rfl, hb⟩
    have hB := hB.trans (hb.mono hB.size)
    have X1 := X1.later hb
    have Y := Y.later hb
    clear hb y2 yz hda
    go_upto_region 7 with fail
    -- REGION 7
    go_cut [65] (fun s65 wx => s65 = .bool (!b.pkP ⟨src, dst, data⟩) ∧ Below W.heap.size W wx)
    case first =>
      have hd := (Below.refl W.heap.size W).drew
      have z1 := X1.lt
      have zy := Y.lt
      have u0 : ∀ z : Later W, z.w.cell? ⟨w.heap.size, 2, none⟩ = some (.slice As ns cs) := Later.cell (X1.cell 2) z1
      have v0 : ∀ z : Later W, z.w.cell? ⟨D, 0, none⟩ = some (.int .i64 src) := Later.cell (Y.cell 0) zy
      have v1 : ∀ z : Later W, z.w.cell? ⟨D, 1, none⟩ = some (.int .i64 dst) := Later.cell (Y.cell 1) zy
      have v2 : ∀ z : Later W, z.w.cell? ⟨D, 2, none⟩ = some (.slice Ad dl cd) := Later.cell (Y.cell 2) zy
      by_cases h0 : u < 0
      · have e1 : decide (u < 0) = true := decide_eq_true h0
        have hP : b.pkP ⟨src, dst, data⟩ = false := decide_eq_false (fun h => by rw [hu.out] at h; omega)
        refine wp_region_headsM (C := fun w' => ∃ x : Later W, w' = x.w) [0, 1, 2, 3, 4, 5, 6, 7, 8, 9, 10, 11, 12, 13, 14, 15, 16, 17, 18, 19, 20, 21, 22, 23, 24, 25, 26, 27, 28, 29, 30, 31, 32, 33, 34, 35, 36] (by kernel_rfl) (by kernel_rfl) (Later.mk' hd) (fun _ _ h => h) ?_
        simp only [headOps, List.filterMap_cons, List.filterMap_nil, List.getElem?_toArray, List.getElem?_cons_succ, List.getElem?_cons_zero]
        repeat (first | go_big_quiet_skip | (show wpQuiet _ _ _ _ (_ :: _) _; go_big_quiet_skip) | (show wpQuiet _ _ _ _ (_ :: _) _; go_big_quiet_want; go_big_quiet_op; go_big_quiet_on))
        refine wpQuiet_nil ?_
        clear u0 v0 v1 v2
        refine anyC_skipD (some 63) (n := 2) (i := 37) (by kernel_rfl) rfl rfl rfl (Later.mk' hd) ?_
        simp only [Act.put, List.setIfInBounds_toArray, List.set_cons_zero, List.set_cons_succ]
        refine anyC_heads (by kernel_rfl) 0 W.drew (Later.mk' hd) [38, 39] _ _ (by kernel_rfl) ?_
        simp only [headOps, List.filterMap_cons, List.filterMap_nil, List.getElem?_toArray, List.getElem?_cons_succ, List.getElem?_cons_zero]
        repeat (first | go_big_quiet_skip | (show wpQuiet _ _ _ _ (_ :: _) _; go_big_quiet_skip) | (show wpQuiet _ _ _ _ (_ :: _) _; go_big_quiet_want; go_big_quiet_op; go_big_quiet_on))
        refine wpQuiet_nil ?_
        refine anyC_done (by kernel_rfl) (Later.mk' hd) ?_
        go_wp2_with fail
        go_meet
        exact ⟨by rw [hP]; rfl, hd⟩
      have e1 : decide (u < 0) = false := decide_eq_false h0
      by_cases h1 : (ns : Int) ≤ u
      · have e2 : decide ((ns : Int) ≤ u) = true := decide_eq_true h1
        have hP : b.pkP ⟨src, dst, data⟩ = false := decide_eq_false (fun h => by rw [hu.out, hns.out] at h; omega)
        refine wp_region_headsM (C := fun w' => ∃ x : Later W, w' = x.w) [0, 1, 2, 3, 4, 5, 6, 7, 8, 9, 10, 11, 12, 13, 14, 15, 16, 17, 18, 19, 20, 21, 22, 23, 24, 25, 26, 27, 28, 29, 30, 31, 32, 33, 34, 35, 36] (by kernel_rfl) (by kernel_rfl) (Later.mk' hd) (fun _ _ h => h) ?_
        simp only [headOps, List.filterMap_cons, List.filterMap_nil, List.getElem?_toArray, List.getElem?_cons_succ, List.getElem?_cons_zero]
        repeat (first | go_big_quiet_skip | (show wpQuiet _ _ _ _ (_ :: _) _; go_big_quiet_skip) | (show wpQuiet _ _ _ _ (_ :: _) _; go_big_quiet_want; go_big_quiet_op; go_big_quiet_on))
        refine wpQuiet_nil ?_
        clear u0 v0 v1 v2
        refine anyC_skipD (some 63) (n := 2) (i := 37) (by kernel_rfl) rfl rfl rfl (Later.mk' hd) ?_
        simp only [Act.put, List.setIfInBounds_toArray, List.set_cons_zero, List.set_cons_succ]
        refine anyC_heads (by kernel_rfl) 0 W.drew (Later.mk' hd) [38, 39] _ _ (by kernel_rfl) ?_
        simp only [headOps, List.filterMap_cons, List.filterMap_nil, List.getElem?_toArray, List.getElem?_cons_succ, List.getElem?_cons_zero]
        repeat (first | go_big_quiet_skip | (show wpQuiet _ _ _ _ (_ :: _) _; go_big_quiet_skip) | (show wpQuiet _ _ _ _ (_ :: _) _; go_big_quiet_want; go_big_quiet_op; go_big_quiet_on))
        refine wpQuiet_nil ?_
        refine anyC_done (by kernel_rfl) (Later.mk' hd) ?_
        go_wp2_with fail
        go_meet
        exact ⟨by rw [hP]; rfl, hd⟩
      have e2 : decide ((ns : Int) ≤ u) = false := decide_eq_false h1
      by_cases h2 : src = 0
      rotate_left
      · have e3 : (src != 0) = true := by simp [h2]
        have hP : b.pkP ⟨src, dst, data⟩ = false := decide_eq_false (fun h => by exact h2 h.2.2.1)
        refine wp_region_headsM (C := fun w' => ∃ x : Later W, w' = x.w) [0, 1, 2, 3, 4, 5, 6, 7, 8, 9, 10, 11, 12, 13, 14, 15, 16, 17, 18, 19, 20, 21, 22, 23, 24, 25, 26, 27, 28, 29, 30, 31, 32, 33, 34, 35, 36] (by kernel_rfl) (by kernel_rfl) (Later.mk' hd) (fun _ _ h => h) ?_
        simp only [headOps, List.filterMap_cons, List.filterMap_nil, List.getElem?_toArray, List.getElem?_cons_succ, List.getElem?_cons_zero]
        repeat (first | go_big_quiet_skip | (show wpQuiet _ _ _ _ (_ :: _) _; go_big_quiet_skip) | (show wpQuiet _ _ _ _ (_ :: _) _; go_big_quiet_want; go_big_quiet_op; go_big_quiet_on))
        refine wpQuiet_nil ?_
        clear u0 v0 v1 v2
        refine anyC_skipD (some 63) (n := 2) (i := 37) (by kernel_rfl) rfl rfl rfl (Later.mk' hd) ?_
        simp only [Act.put, List.setIfInBounds_toArray, List.set_cons_zero, List.set_cons_succ]
        refine anyC_heads (by kernel_rfl) 0 W.drew (Later.mk' hd) [38, 39] _ _ (by kernel_rfl) ?_
        simp only [headOps, List.filterMap_cons, List.filterMap_nil, List.getElem?_toArray, List.getElem?_cons_succ, List.getElem?_cons_zero]
        repeat (first | go_big_quiet_skip | (show wpQuiet _ _ _ _ (_ :: _) _; go_big_quiet_skip) | (show wpQuiet _ _ _ _ (_ :: _) _; go_big_quiet_want; go_big_quiet_op; go_big_quiet_on))
        refine wpQuiet_nil ?_
        refine anyC_done (by kernel_rfl) (Later.mk' hd) ?_
        go_wp2_with fail
        go_meet
        exact ⟨by rw [hP]; rfl, hd⟩
      subst h2
      obtain ⟨j, rfl⟩ : ∃ j : Nat, u = (j : Int) := ⟨u.toNat, by omega⟩
      have hjl : j < b.sent.length := by rw [hns.out]; omega
      obtain ⟨bs, os, rfl, hbs, hc9⟩ := hx.out.sent.lk (by omega)
      obtain ⟨s0, s1⟩ := hc9 j hjl
      have hsa := sent_at HVP.out.2 (n := (j : Int)) (by omega) (by rw [hns.out]; omega)
      have hat : b.at (j : Int) = b.sent.getD j (0, 0) := by rw [Bx.at, Int.toNat_natCast]
      have hlist := of_decide_eq_true HVP.out.1
      rw [hat, hn.out] at hsa
      rw [hn.out] at hlist
      have HAT := Lib.hid hat
      clear hc9 hat
      replace s0 := (hB.cell hbs).trans s0
      replace s1 := (hB.cell hbs).trans s1
      have hsz := Nat.lt_of_lt_of_le hbs hB.size
      obtain ⟨m, hm⟩ : ∃ m, b.sent.getD j (0, 0) = m := ⟨_, rfl⟩
      rw [hm] at s0 s1 hsa
      have HM := Lib.hid hm
      clear hm
      obtain ⟨m1, m2⟩ := m
      dsimp only at s0 s1 hsa
      have w0 : ∀ z : Later W, z.w.cell? ⟨bs, os + j * 2, none⟩ = some (.int .i64 m1) := Later.cell s0 hsz
      have w1' : ∀ z : Later W, z.w.cell? ⟨bs, os + j * 2 + 1, none⟩ = some (.int .i64 m2) := Later.cell s1 hsz
      have hw1 : IntKind.i64.wrap (m1 + 1) = m1 + 1 := wrapO (by omega) (by omega)
      have hw2 : wrap64 (m1 + 1) = m1 + 1 := by unfold wrap64; omega
      have hj3 : (j : Int) < (ns : Int) := by omega
      clear s0 s1
      by_cases h3 : dst = m1 + 1
      rotate_left
      · have e4 : (dst != m1 + 1) = true := by simp [h3]
        have hP : b.pkP ⟨0, dst, data⟩ = false := decide_eq_false (fun h => by rw [hu.out, HAT.out, HM.out] at h; exact h3 h.2.2.2.1)
        refine wp_region_headsM (C := fun w' => ∃ x : Later W, w' = x.w) [0, 1, 2, 3, 4, 5, 6, 7, 8, 9, 10, 11, 12, 13, 14, 15, 16, 17, 18, 19, 20, 21, 22, 23, 24, 25, 26, 27, 28, 29, 30, 31, 32, 33, 34, 35, 36] (by kernel_rfl) (by kernel_rfl) (Later.mk' hd) (fun _ _ h => h) ?_
        simp only [headOps, List.filterMap_cons, List.filterMap_nil, List.getElem?_toArray, List.getElem?_cons_succ, List.getElem?_cons_zero]
        repeat (first | go_big_quiet_skip | (show wpQuiet _ _ _ _ (_ :: _) _; go_big_quiet_skip) | (show wpQuiet _ _ _ _ (_ :: _) _; go_big_quiet_want; go_big_quiet_op; go_big_quiet_on))
        refine wpQuiet_nil ?_
        clear u0 v0 v1 v2 w0 w1'
        refine anyC_skipD (some 63) (n := 2) (i := 37) (by kernel_rfl) rfl rfl rfl (Later.mk' hd) ?_
        simp only [Act.put, List.setIfInBounds_toArray, List.set_cons_zero, List.set_cons_succ]
        refine anyC_heads (by kernel_rfl) 0 W.drew (Later.mk' hd) [38, 39] _ _ (by kernel_rfl) ?_
        simp only [headOps, List.filterMap_cons, List.filterMap_nil, List.getElem?_toArray, List.getElem?_cons_succ, List.getElem?_cons_zero]
        repeat (first | go_big_quiet_skip | (show wpQuiet _ _ _ _ (_ :: _) _; go_big_quiet_skip) | (show wpQuiet _ _ _ _ (_ :: _) _; go_big_quiet_want; go_big_quiet_op; go_big_quiet_on))
        refine wpQuiet_nil ?_
        refine anyC_done (by kernel_rfl) (Later.mk' hd) ?_
        go_wp2_with fail
        go_meet
        exact ⟨by rw [hP]; rfl, hd⟩
      subst h3
      have e4 : ((m1 + 1 : Int) != m1 + 1) = false := by simp
      obtain ⟨tx, htx⟩ : ∃ tx, Hid (msgB (j : Int) m2 = tx) := ⟨_, Lib.hid rfl⟩
      have hcv : ∀ z : Later W, (convert 43 9 (.slice Ad dl cd)).run Try.prog z.w = .ok (.string (strB data)) z.w := fun z => take_str (bs_of ((HD.out.below (hB.trans (z.below.mono hB.size))).more (Nat.le_trans hB.size z.below.size)))
      have hmsg := oMessage_is (n := (j : Int)) (o := m2) ⟨by omega, by omega⟩ ⟨by omega, by omega⟩ htx W.drew
      obtain ⟨t, ht⟩ : ∃ t, decide (data = tx) = t := ⟨_, rfl⟩
      have e5 : ((strB data).toList == (strB tx).toList) = t := by
        rw [← ht, Bool.eq_iff_iff, ByteArray.toList_eq, ByteArray.toList_eq]
        simp [strB]
      have e6 : decide (strB data = strB tx) = t := by rw [← ht]; exact decide_eq_decide.2 strB_inj
      have hP : b.pkP ⟨0, m1 + 1, data⟩ = t := by
        unfold Bx.pkP
        rw [hu.out, HAT.out, HM.out, htx.out, ← ht]
        refine decide_eq_decide.2 ⟨fun h => h.2.2.2.2, fun h => ⟨by omega, by rw [hns.out]; omega, rfl, rfl, h⟩⟩
      clear ht
      generalize strB data = q1 at hcv e5 e6
      generalize strB tx = q2 at hmsg e5 e6
      refine wp_region_headsM (C := fun w' => ∃ x : Later W, w' = x.w) [0, 1, 2, 3, 4, 5, 6, 7, 8, 9, 10, 11, 12, 13, 14, 15, 16, 17, 18, 19, 20, 21, 22, 23, 24, 25, 26, 27, 28, 29, 30, 31, 32, 33, 34, 35, 36] (by kernel_rfl) (by kernel_rfl) (Later.mk' hd) (fun _ _ h => h) ?_
      simp only [headOps, List.filterMap_cons, List.filterMap_nil, List.getElem?_toArray, List.getElem?_cons_succ, List.getElem?_cons_zero]
      repeat (first | go_big_quiet_skip | (show wpQuiet _ _ _ _ (_ :: _) _; go_big_quiet_skip) | (show wpQuiet _ _ _ _ (_ :: _) _; go_big_quiet_want; go_big_quiet_op; go_big_quiet_on))
      refine wpQuiet_nil ?_
      clear u0 v0 v1 v2 w0 w1' hcv
      refine anyC_callD (some 63) (n := 2) (i := 37) (by kernel_rfl) rfl rfl rfl (Later.mk' hd) ?_ (hmsg.mono ?_)
      · go_simp
      rintro e W2 ⟨rfl, hW2⟩
      refine ⟨_, rfl, ?_⟩
      simp only [Act.put, List.setIfInBounds_toArray, List.set_cons_zero, List.set_cons_succ]
      have hW2 := hd.trans hW2
      refine anyC_heads (by kernel_rfl) 0 W2 (Later.mk' hW2) [38, 39] _ _ (by kernel_rfl) ?_
      simp only [headOps, List.filterMap_cons, List.filterMap_nil, List.getElem?_toArray, List.getElem?_cons_succ, List.getElem?_cons_zero]
      repeat (first | go_big_quiet_skip | (show wpQuiet _ _ _ _ (_ :: _) _; go_big_quiet_skip) | (show wpQuiet _ _ _ _ (_ :: _) _; go_big_quiet_want; go_big_quiet_op; go_big_quiet_on))
      refine wpQuiet_nil ?_
      refine anyC_done (by kernel_rfl) (Later.mk' hW2) ?_
      go_wp2_with fail
      go_meet
      exact ⟨by rw [hP], hW2⟩
    case rest =>
      obtain ⟨rfl, hb⟩ := hcut
      have hB := hB.trans (hb.mono hB.size)
      have X1 := X1.later hb
      generalize b.pkP ⟨src, dst, data⟩ = t at HBAD HGOOD
      cases t with
      | false =>
        obtain rfl : T = 340 := HBAD.out rfl
        go_wp2
        go_ret
        exact ⟨rfl, hB⟩
      | true =>
        have hg := Lib.hid (HGOOD.out rfl)
        go_wp2
        exact ⟨⟨k + 1, by omega, by go_num, hB, X1, hg⟩, by simp [intOf]; omega⟩
end Go.Proofs.Ytmbifmmkccghfaa

/-
  Contract of Check of the reference. (Printed by pp.py.) No condition.
-/
namespace Go.Proofs.Ytmbifmmkccghfaa
open Go.RowKit

end Go.Proofs.Ytmbifmmkccghfaa

/-
  Contract of Check of the reference, joined. (Printed by pp.py.) No condition.
-/
namespace Go.Proofs.Ytmbifmmkccghfaa
open Go.RowKit

end Go.Proofs.Ytmbifmmkccghfaa

/-
  Rows of numbers that orders builds; Check of both by name; what functions that return a box promise. No condition.
-/
namespace Go.Proofs.Ytmbifmmkccghfaa
open Go.RowKit

theorem oElemI : ∃ i, Elem 27 3 i (.int .i64 0) 1 8 := by
  obtain ⟨i, h1, h2, h3, h4⟩ := info_parts (show (Try.prog.info? 3).map (fun i => (i.zero, i.size, i.bytes)) = some (some (.int .i64 0), 1, 8) by kernel_rfl)
  exact ⟨i, Try.underlying27, h1, h2, h3, h4, by decide, by decide⟩
abbrev oEncI (n : Int) : List Value := [.int .i64 n]
abbrev OwnHd (w : World) (base : Nat) (V : Value) (l : List Int) : Prop := OwnE oEncI 1 w base 3 V l
theorem oOneI (n : Int) : ∀ u ∈ oEncI n, u.oneCell' = true := by
  intro u hu
  obtain rfl := List.mem_singleton.1 hu
  rfl
theorem ownE_cap {α : Type} {enc : α → List Value} {size base e : Nat} {w : World} {V : Value} {l : List α} (h : OwnE enc size w base e V l) : SlF V := by
  rcases h.2 with ⟨hv, _⟩ | ⟨g, cap, cur, hv, hb, hg, hcap, hcm, _⟩
  · exact .inl hv
  · exact .inr ⟨_, _, _, hv, hcap, hcm⟩
theorem OwnHd.hd {w : World} {base : Nat} {V : Value} {l : List Int} (h : OwnHd w base V l) (hl : l.length ≤ maxLen) : HdAt w w.heap.size V l := by
  refine ⟨ownE_cap h, ?_⟩
  obtain ⟨A, c, hv, hc⟩ := OwnE.sl h (fun _ => rfl)
  refine ⟨A, c, hv, hl, fun k hk => ?_⟩
  obtain ⟨b, rfl, _, hb, h2⟩ := hc k hk
  refine ⟨b, 0, rfl, hb, fun j hj => ?_⟩
  obtain rfl : j = 0 := by omega
  rw [Nat.zero_add, h2 0 (by omega)]
  simp [oEncI, hk]
theorem oMade (v : Value) (h : v.cells = #[v]) (n : Nat) : madeCells v.cells (n * 1) = (List.replicate n v).toArray := by
  rw [h, madeCells]
  apply Array.ext'
  apply List.ext_getElem?
  intro i
  rcases Nat.lt_or_ge i n with hi | hi
  · simp [hi, Nat.mod_one]
  · simp [hi]
theorem oMakeB (n : Nat) (hn : n ≤ 1024) (w : World) : (Instr.makeSlice 28 (.int .i64 (n : Int)) (.int .i64 (n : Int))).run Try.prog w = .ok (.slice (some ⟨w.heap.size, 0, none⟩) n n) (w.alloc (.cells (List.replicate n (Value.bool false)).toArray 4)) := by
  obtain ⟨i, h1, h2, h3, h4⟩ := info_parts (show (Try.prog.info? 4).map (fun i => (i.zero, i.size, i.bytes)) = some (some (.bool false), 1, 1) by kernel_rfl)
  have := run_makeSlice (P := Try.prog) w 28 4 i (.bool false) Try.underlying28 h1 h2 .i64 .i64 n n (by omega) (Int.le_refl _) (by rw [h3]; simp; omega) (by rw [h4]; omega) (by omega)
  rw [h3] at this
  simp only [Int.toNat_natCast] at this
  rw [this, oMade _ rfl]
theorem oMakeI (n : Nat) (hn : n ≤ 1024) (w : World) : (Instr.makeSlice 27 (.int .i64 (n : Int)) (.int .i64 (n : Int))).run Try.prog w = .ok (.slice (some ⟨w.heap.size, 0, none⟩) n n) (w.alloc (.cells (List.replicate n (Value.int .i64 0)).toArray 3)) := by
  obtain ⟨i, h1, h2, h3, h4⟩ := info_parts (show (Try.prog.info? 3).map (fun i => (i.zero, i.size, i.bytes)) = some (some (.int .i64 0), 1, 8) by kernel_rfl)
  have := run_makeSlice (P := Try.prog) w 27 3 i (.int .i64 0) Try.underlying27 h1 h2 .i64 .i64 n n (by omega) (Int.le_refl _) (by rw [h3]; simp; omega) (by rw [h4]; omega) (by omega)
  rw [h3] at this
  simp only [Int.toNat_natCast] at this
  rw [this, oMade _ rfl]
theorem box_fr {w : World} {K : Nat} {l : List Bool} (h : Box w K (l.map Value.bool)) (hm : l.length ≤ maxLen) : FrAt w w.heap.size (.slice (some ⟨K, 0, none⟩) l.length l.length) l := by
  refine ⟨.inr ⟨_, _, _, rfl, Nat.le_refl _, hm⟩, _, _, rfl, hm, fun i hi => ⟨K, 0, rfl, h.lt, fun j hj => ?_⟩⟩
  obtain rfl : j = 0 := by omega
  rw [Nat.zero_add, Nat.mul_one, Nat.add_zero, h.cell, List.getElem?_map, List.getElem?_eq_getElem hi]
  dsimp only
  rw [gd_at hi]
  rfl
theorem box_hd {w : World} {K : Nat} {l : List Int} (h : Box w K (l.map (Value.int .i64))) (hm : l.length ≤ maxLen) : HdAt w w.heap.size (.slice (some ⟨K, 0, none⟩) l.length l.length) l := by
  refine ⟨.inr ⟨_, _, _, rfl, Nat.le_refl _, hm⟩, _, _, rfl, hm, fun i hi => ⟨K, 0, rfl, h.lt, fun j hj => ?_⟩⟩
  obtain rfl : j = 0 := by omega
  rw [Nat.zero_add, Nat.mul_one, Nat.add_zero, h.cell, List.getElem?_map, List.getElem?_eq_getElem hi]
  dsimp only
  rw [gd_at hi]
  rfl
theorem BxAt.forms {w : World} {B : Nat} {Vq Va Vs Vh Vf : Value} {b : Bx} (h : BxAt w B Vq Va Vs Vh Vf b) : ∃ Aq cq Aa ca As cs Ah ch Af cf, Vq = .slice Aq b.net.queue.length cq ∧ Va = .slice Aa b.net.apart.length ca ∧ Vs = .slice As b.sent.length cs ∧ Vh = .slice Ah b.heard.length ch ∧ Vf = .slice Af b.fresh.length cf ∧
    b.net.queue.length ≤ 9223372036854775807 ∧ b.sent.length ≤ 9223372036854775807 ∧ b.heard.length ≤ 9223372036854775807 ∧ b.fresh.length ≤ 9223372036854775807 := by
  obtain ⟨Aq, cq, h1, m1⟩ := h.net.queue.form
  obtain ⟨Aa, ca, h2, _⟩ := h.net.apart.form
  obtain ⟨As, cs, h3, m3⟩ := h.sent.form
  obtain ⟨Ah, ch, h4, m4⟩ := h.heard.2.form3
  obtain ⟨Af, cf, h5, m5⟩ := h.fresh.2.form3
  unfold maxLen at m1 m3 m4 m5
  exact ⟨Aq, cq, Aa, ca, As, cs, Ah, ch, Af, cf, h1, h2, h3, h4, h5, by omega, by omega, by omega, by omega⟩
theorem oCheck_is {b : Bx} {Vq Va Vs Vh Vf : Value} {w : World} {T : Int} (hT : Hid (b.checkT = T)) (hx : BxAt w w.heap.size Vq Va Vs Vh Vf b) :
    Calls Try.prog 15 #[.agg #[Vq, Va, Vs, Vh, Vf]] w fun e w' => e = .returned (.int .i64 T) ∧ Below w.heap.size w w' := by
  obtain ⟨Aq, cq, Aa, ca, As, cs, Ah, ch, Af, cf, rfl, rfl, rfl, rfl, rfl, m1, m2, m3, m4⟩ := hx.forms
  exact oCheck_any b Aq Aa As Ah Af _ cq _ ca _ cs _ ch _ cf w hT (Lib.hid hx) (Lib.hid rfl) (Lib.hid rfl) (Lib.hid rfl) (Lib.hid rfl) (Lib.hid rfl) m2 m3 m4 m1
def RetBx (t : Bx) (rest : Array Value) (w : World) (e : Ending) (w' : World) : Prop := ∃ Vq Va Vs Vh Vf, e = .returned (.tuple (#[.agg #[Vq, Va, Vs, Vh, Vf]] ++ rest)) ∧ BxAt w' w'.heap.size Vq Va Vs Vh Vf t ∧ Below w.heap.size w w'
end Go.Proofs.Ytmbifmmkccghfaa
