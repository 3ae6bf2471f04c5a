/-
  Contract of Check of the reference of chapter 6. No condition.
-/
import Derived.Test.YtndjpaiakodciaaNC
namespace Go.Proofs.Ytndjpaiakodciaa
open Go.RowKit

theorem nRPacket_at {p : Pk} {V : Value} {w : World} {q : Bool} (h : Hid (p.okB = q)) (hV : BytesAt w w.heap.size V p.data) : Calls Try.prog 29 #[p.v V] w fun e w' => e = .returned (.bool q) ∧ Below w.heap.size w w' :=
  (nRPacket_any p V w hV).mono fun _ _ ⟨he, hb⟩ => ⟨by rw [he, h.out], hb⟩
theorem nSite_at {n : Int} {q : Bool} (h : Hid (siteB n = q)) (w : World) : Calls Try.prog 34 #[.int .i64 n] w fun e w' => e = .returned (.bool q) ∧ w = w' :=
  (nSite_any n w).mono fun _ _ ⟨he, hb⟩ => ⟨by rw [he, h.out], hb⟩
theorem link_sites (a b : Int) : linkB a b = (siteB a && (siteB b && decide (a < b))) := by
  rw [Bool.eq_iff_iff]
  simp only [linkB, siteB, Bool.and_eq_true, decide_eq_true_eq]
  omega
theorem cmpI_lt {x y : Int} (h : x < y) : cmpI x y = -1 := by rw [cmpI, if_pos h]
theorem cmpI_gt {x y : Int} (h : y < x) : cmpI x y = 1 := by rw [cmpI, if_neg (by omega), if_pos h]
theorem cmpI_eq (x : Int) : cmpI x x = 0 := by rw [cmpI, if_neg (by omega), if_neg (by omega)]
theorem cmpP_neg (p l : Int × Int) : (cmpP p l < 0) ↔ ¬ (l.1 < p.1 ∨ l.1 = p.1 ∧ l.2 ≤ p.2) := by
  obtain ⟨a, b⟩ := p
  obtain ⟨c, d⟩ := l
  dsimp only
  rcases Int.lt_trichotomy a c with h | rfl | h
  · rw [cmpP, cmpI_lt h, if_pos (by decide)]
    omega
  · rw [cmpP, cmpI_eq, if_neg (by simp)]
    rcases Int.lt_trichotomy b d with h | rfl | h
    · rw [cmpI_lt h]
      omega
    · rw [cmpI_eq]
      omega
    · rw [cmpI_gt h]
      omega
  · rw [cmpP, cmpI_gt h, if_pos (by decide)]
    omega

set_option maxRecDepth 100000 in
set_option maxHeartbeats 4000000 in
theorem nRCheck_any (n : Net) (Vq Va : Value) (w : World) (hN : NetAt w w.heap.size Vq Va n) :
    Calls Try.prog 14 #[.agg #[Vq, Va]] w fun e w' => e = .returned (.int .i64 n.checkT) ∧ Below w.heap.size w w' := by
  obtain ⟨Aq, cq, rfl, hmq⟩ := hN.queue.form
  obtain ⟨Aa, ca, rfl, hma⟩ := hN.apart.form
  unfold maxLen at hmq hma
  obtain ⟨nq, hnq⟩ : ∃ k, n.queue.length = k := ⟨_, rfl⟩
  obtain ⟨na, hna⟩ : ∃ k, n.apart.length = k := ⟨_, rfl⟩
  rw [hnq] at hmq
  rw [hna] at hma
  rw [hnq, hna] at hN ⊢
  have HQ := Lib.hid hnq
  have HA := Lib.hid hna
  have HN := Lib.hid hN
  clear hnq hna hN
  by_cases hl : nq ≤ 4096
  · have hB := (Below.refl w.heap.size w).alloc (Nat.le_refl _) (.cells #[.slice Aq nq cq, .slice Aa na ca] 25)
    have HN1 := Lib.hid (HN.out.later hB)
    have X := Box.new w [.slice Aq nq cq, .slice Aa na ca] 25
    go_enter Try.func14, Try.ntmps14
    go_wp2_with fail
    generalize w.alloc (.cells #[.slice Aq nq cq, .slice Aa na ca] 25) = W at hB HN1 X ⊢
    go_loopw [3] (fun i wr => ∃ k : Nat, k ≤ nq ∧ i = .int .i64 k ∧ Below W.heap.size W wr ∧ Hid ((n.queue.take k).all Pk.okB = true)) (fun i _ => nq - (intOf i).toNat)
    case atStart => exact ⟨0, by omega, rfl, Below.refl _ _, rfl⟩
    case round =>
      obtain ⟨k, hk, rfl, hb, hall⟩ := hrel
      have X' := X.later hb
      have x0 : wr.cell? ⟨w.heap.size, 0, none⟩ = some (.slice Aq nq cq) := X'.cell 0
      have xz := X'.lt
      by_cases hlt : k < nq
      · have hkl : k < n.queue.length := by rw [HQ.out]; exact hlt
        obtain ⟨b, off, V, rfl, hbw, q0, q1, q2, hV⟩ := HN1.out.queue.pk hkl
        have q0 := (hb.cell hbw).trans q0
        have q1 := (hb.cell hbw).trans q1
        have q2 := (hb.cell hbw).trans q2
        have hV2 := Lib.hid ((hV.below hb).more hb.size)
        have htk := allTake n.queue Pk.okB hkl
        have hbad := allBad (f := Pk.okB) hkl
        obtain ⟨y, hy⟩ : ∃ y, n.queue[k] = y := ⟨_, rfl⟩
        rw [hy] at q0 q1 hV2 htk hbad
        rw [hall.out, Bool.true_and] at htk
        have HTK := Lib.hid htk
        have HBAD := Lib.hid hbad
        clear hy hV htk hbad
        rcases hh : y.okB with _ | _
        · have HF : Hid (n.checkT = 60) := check_bad (by rw [Net.okB_eq, HBAD.out hh]; simp)
          have HH := Lib.hid hh
          clear hh
          go_wp2_with fail
          refine (nRPacket_at HH hV2.out).mono ?_
          rintro e w1 ⟨rfl, hb1⟩
          go_wp2
          go_ret
          exact ⟨by rw [HF.out]; rfl, hB.trans ((hb.trans (hb1.mono hb.size)).mono hB.size)⟩
        · have HH := Lib.hid hh
          clear hh
          go_wp2_with fail
          refine (nRPacket_at HH hV2.out).mono ?_
          rintro e w1 ⟨rfl, hb1⟩
          go_wp2
          refine ⟨⟨k + 1, by omega, by go_num, hb.trans (hb1.mono hb.size), ?_⟩, by simp [intOf]; omega⟩
          rw [Hid, HTK.out]
          exact HH.out
      · obtain rfl : k = nq := by omega
        have Hq : Hid (n.queue.all Pk.okB = true) := by
          have := hall.out
          rw [← HQ.out, List.take_length] at this
          exact this
        go_wp2_with fail
        clear x0 xz X' hall
        go_loopw [4] (fun i wr => ∃ j : Nat, j ≤ na ∧ i = .int .i64 j ∧ Below W.heap.size W wr ∧ Hid ((List.range j).all (okAt n.apart) = true)) (fun i _ => na - (intOf i).toNat)
        case atStart => exact ⟨0, by omega, rfl, hb, rfl⟩
        case round =>
          obtain ⟨j, hj, rfl, hb, hall⟩ := hrel
          have X' := X.later hb
          have x1 : wr.cell? ⟨w.heap.size, 1, none⟩ = some (.slice Aa na ca) := X'.cell 1
          have xz := X'.lt
          by_cases hlt : j < na
          · obtain ⟨b, off, rfl, hbw, hcs⟩ := HN1.out.apart.lk (by rw [HA.out]; omega)
            obtain ⟨g0, g1⟩ := hcs j (by rw [HA.out]; omega)
            have htk := rangeAll (okAt n.apart) j
            have hbad := rangeBad (f := okAt n.apart) (show j < n.apart.length by rw [HA.out]; exact hlt)
            have hok : okAt n.apart j = (linkB (n.apart.getD j (0, 0)).1 (n.apart.getD j (0, 0)).2 && (decide (j = 0) || decide (cmpP (n.apart.getD (j - 1) (0, 0)) (n.apart.getD j (0, 0)) < 0))) := rfl
            have hprev : 0 < j → W.cell? ⟨b, off + (j - 1) * 2, none⟩ = some (.int .i64 (n.apart.getD (j - 1) (0, 0)).1) ∧ W.cell? ⟨b, off + (j - 1) * 2 + 1, none⟩ = some (.int .i64 (n.apart.getD (j - 1) (0, 0)).2) := fun _ => hcs (j - 1) (by rw [HA.out]; omega)
            obtain ⟨⟨u, v⟩, hp⟩ : ∃ p, n.apart.getD (j - 1) (0, 0) = p := ⟨_, rfl⟩
            obtain ⟨⟨s, t⟩, hl'⟩ : ∃ l, n.apart.getD j (0, 0) = l := ⟨_, rfl⟩
            rw [hp, hl'] at hok
            rw [hl'] at g0 g1
            rw [hp] at hprev
            rw [hall.out, Bool.true_and] at htk
            dsimp only at g0 g1 hprev
            have HPREV := Lib.hid hprev
            have HTK := Lib.hid htk
            have HBAD := Lib.hid hbad
            have HOK := Lib.hid hok
            have HB : Hid (okAt n.apart j = false → n.checkT = 60) := fun h => check_bad (by rw [Net.okB_eq, apartB, HBAD.out h]; simp)
            clear hprev htk hbad hok hp hl' hcs
            have g0 := (hb.cell hbw).trans g0
            have g1 := (hb.cell hbw).trans g1
            have hb2 := hb.alloc hb.size (.cells #[.int .i64 s, .int .i64 t] 55)
            have HLS := Lib.hid (link_sites s t)
            rcases h1 : siteB s with _ | _
            · have H1 := Lib.hid h1
              clear h1
              go_wp2_with (go_at_call 34; refine (nSite_at H1 _).mono ?_; rintro e w' ⟨rfl, rfl⟩)
              go_ret
              exact ⟨by rw [HB.out (by rw [HOK.out, HLS.out, H1.out]; rfl)]; rfl, hB.trans (hb2.mono hB.size)⟩
            · rcases h2 : siteB t with _ | _
              · have H1 := Lib.hid h1
                have H2 := Lib.hid h2
                clear h1 h2
                go_wp2_with (first | (go_at_call 34; with_reducible refine (nSite_at H1 _).mono ?_; rintro e w' ⟨rfl, rfl⟩) | (go_at_call 34; with_reducible refine (nSite_at H2 _).mono ?_; rintro e w' ⟨rfl, rfl⟩))
                go_ret
                exact ⟨by rw [HB.out (by rw [HOK.out, HLS.out, H1.out, H2.out]; rfl)]; rfl, hB.trans (hb2.mono hB.size)⟩
              · have H1 := Lib.hid h1
                have H2 := Lib.hid h2
                clear h1 h2
                by_cases h3 : s < t
                · go_wp2_with (first | (go_at_call 34; with_reducible refine (nSite_at H1 _).mono ?_; rintro e w' ⟨rfl, rfl⟩) | (go_at_call 34; with_reducible refine (nSite_at H2 _).mono ?_; rintro e w' ⟨rfl, rfl⟩))
                  have HV : Hid (linkB s t = true) := by rw [Hid, HLS.out, H1.out, H2.out, decide_eq_true h3]; rfl
                  have Y := Box.new wr [.int .i64 s, .int .i64 t] 55
                  have X2 := X'.alloc (.cells #[.int .i64 s, .int .i64 t] 55)
                  generalize wr.alloc (.cells #[.int .i64 s, .int .i64 t] 55) = W2 at Y hb2 X2 ⊢
                  clear g0 g1 X' x1 xz
                  generalize wr.heap.size = D at Y ⊢
                  have y0 : ∀ z : Later W2, z.w.cell? ⟨D, 0, none⟩ = some (.int .i64 s) := Later.cell (Y.cell 0) Y.lt
                  have y1 : ∀ z : Later W2, z.w.cell? ⟨D, 1, none⟩ = some (.int .i64 t) := Later.cell (Y.cell 1) Y.lt
                  by_cases hj0 : j = 0
                  · subst hj0
                    refine wp_region_later (by kernel_rfl) (by kernel_rfl) ?_
                    repeat (go_big_quiet_step (fail))
                    refine wpQuiet_nil ?_
                    intro _ hw'
                    obtain ⟨yq, hw''⟩ := hw'
                    subst hw''
                    clear y0 y1
                    go_wp2
                    refine ⟨⟨0 + 1, by omega, by go_num, hb2.trans (yq.below.mono hb2.size), ?_⟩, by simp [intOf]; omega⟩
                    rw [Hid, HTK.out, HOK.out, HV.out]
                    rfl
                  · obtain ⟨p0, p1⟩ := HPREV.out (by omega)
                    have c0 : ∀ z : Later W2, z.w.cell? ⟨b, off + (j - 1) * 2, none⟩ = some (.int .i64 u) := Later.cell ((hb2.cell hbw).trans p0) (Nat.lt_of_lt_of_le hbw hb2.size)
                    have c1 : ∀ z : Later W2, z.w.cell? ⟨b, off + (j - 1) * 2 + 1, none⟩ = some (.int .i64 v) := Later.cell ((hb2.cell hbw).trans p1) (Nat.lt_of_lt_of_le hbw hb2.size)
                    have c2 : ∀ z : Later W2, z.w.cell? ⟨w.heap.size, 1, none⟩ = some (.slice (some ⟨b, off, none⟩) na ca) := Later.cell (X2.cell 1) X2.lt
                    have kp : decide (0 < j) = true := decide_eq_true (by omega)
                    have k0 : (0 : Int) ≤ (j : Int) - 1 := by omega
                    have k1 : (j : Int) - 1 < (na : Int) := by omega
                    have k2 : ((j : Int) - 1).toNat = j - 1 := by omega
                    have k3 : IntKind.i64.wrap ((j : Int) - 1) = (j : Int) - 1 := IntWalk.i64_in _ (by omega)
                    by_cases hbadc : s < u ∨ s = u ∧ t ≤ v
                    · have HC : Hid (decide (cmpP (u, v) (s, t) < 0) = false) := decide_eq_false (fun h => (cmpP_neg _ _).1 h hbadc)
                      by_cases hsu : s < u
                      · have d1 : decide (s < u) = true := decide_eq_true hsu
                        refine wp_region_later (by kernel_rfl) (by kernel_rfl) ?_
                        repeat (go_big_quiet_step (fail))
                        refine wpQuiet_nil ?_
                        intro _ hw'
                        obtain ⟨yq, hw''⟩ := hw'
                        subst hw''
                        clear y0 y1 c0 c1 c2 k0 k1 k2 k3
                        go_wp2
                        go_ret
                        exact ⟨by rw [HB.out (by rw [HOK.out, HV.out, HC.out, decide_eq_false hj0]; rfl)]; rfl, hB.trans ((hb2.trans (yq.below.mono hb2.size)).mono hB.size)⟩
                      · obtain ⟨rfl, htv⟩ : s = u ∧ t ≤ v := by omega
                        have d1 : decide (s < s) = false := decide_eq_false (by omega)
                        have d2 : (s == s) = true := by simp
                        have d3 : decide (t ≤ v) = true := decide_eq_true htv
                        refine wp_region_later (by kernel_rfl) (by kernel_rfl) ?_
                        repeat (go_big_quiet_step (fail))
                        refine wpQuiet_nil ?_
                        intro _ hw'
                        obtain ⟨yq, hw''⟩ := hw'
                        subst hw''
                        clear y0 y1 c0 c1 c2 k0 k1 k2 k3
                        go_wp2
                        go_ret
                        exact ⟨by rw [HB.out (by rw [HOK.out, HV.out, HC.out, decide_eq_false hj0]; rfl)]; rfl, hB.trans ((hb2.trans (yq.below.mono hb2.size)).mono hB.size)⟩
                    · have HC : Hid (decide (cmpP (u, v) (s, t) < 0) = true) := decide_eq_true ((cmpP_neg _ _).2 hbadc)
                      by_cases hsu : s = u
                      · subst hsu
                        have d1 : decide (s < s) = false := decide_eq_false (by omega)
                        have d2 : (s == s) = true := by simp
                        have d3 : decide (t ≤ v) = false := decide_eq_false (by omega)
                        refine wp_region_later (by kernel_rfl) (by kernel_rfl) ?_
                        repeat (go_big_quiet_step (fail))
                        refine wpQuiet_nil ?_
                        intro _ hw'
                        obtain ⟨yq, hw''⟩ := hw'
                        subst hw''
                        clear y0 y1 c0 c1 c2 k0 k1 k2 k3
                        go_wp2
                        refine ⟨⟨j + 1, by omega, by go_num, hb2.trans (yq.below.mono hb2.size), ?_⟩, by simp [intOf]; omega⟩
                        rw [Hid, HTK.out, HOK.out, HV.out, HC.out]
                        simp
                      · have d1 : decide (s < u) = false := decide_eq_false (by omega)
                        have d2 : (s == u) = false := by simp [hsu]
                        refine wp_region_later (by kernel_rfl) (by kernel_rfl) ?_
                        repeat (go_big_quiet_step (fail))
                        refine wpQuiet_nil ?_
                        intro _ hw'
                        obtain ⟨yq, hw''⟩ := hw'
                        subst hw''
                        clear y0 y1 c0 c1 c2 k0 k1 k2 k3
                        go_wp2
                        refine ⟨⟨j + 1, by omega, by go_num, hb2.trans (yq.below.mono hb2.size), ?_⟩, by simp [intOf]; omega⟩
                        rw [Hid, HTK.out, HOK.out, HV.out, HC.out]
                        simp
                · go_wp2_with (first | (go_at_call 34; with_reducible refine (nSite_at H1 _).mono ?_; rintro e w' ⟨rfl, rfl⟩) | (go_at_call 34; with_reducible refine (nSite_at H2 _).mono ?_; rintro e w' ⟨rfl, rfl⟩))
                  go_ret
                  exact ⟨by rw [HB.out (by rw [HOK.out, HLS.out, H1.out, H2.out, decide_eq_false (show ¬ s < t by omega)]; rfl)]; rfl, hB.trans (hb2.mono hB.size)⟩
          · obtain rfl : j = na := by omega
            have HF : Hid (n.checkT = 0) := check_good (by rw [Net.okB_eq, Hq.out, apartB, HA.out, hall.out, decide_eq_true (by rw [HQ.out]; exact hl)]; rfl)
            go_wp2
            go_ret
            exact ⟨by rw [HF.out]; rfl, hB.trans (hb.mono hB.size)⟩
  · have hf : n.checkT = 60 := check_bad (by rw [Net.okB_eq, decide_eq_false (by rw [HQ.out]; exact hl)]; rfl)
    rw [hf]
    clear hf
    go_enter Try.func14, Try.ntmps14
    go_wp2
    go_ret
    exact ⟨rfl, (Below.refl _ _).alloc (Nat.le_refl _) _⟩

end Go.Proofs.Ytndjpaiakodciaa
