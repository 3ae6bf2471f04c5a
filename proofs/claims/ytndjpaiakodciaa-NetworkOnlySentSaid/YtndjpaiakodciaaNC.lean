/-
  Contracts of Check of network and of its reference. No condition.
-/
import Derived.Test.YtndjpaiakodciaaNB
namespace Go.Proofs.Ytndjpaiakodciaa
open Go.RowKit

theorem nValid_at {a b : Int} {q : Bool} (h : Hid (linkB a b = q)) (w : World) : Calls Try.prog 32 #[pairV a b] w fun e w' => e = .returned (.bool q) ∧ Below w.heap.size w w' :=
  (nValid_any a b w).mono fun _ _ ⟨he, hb⟩ => ⟨by rw [he, h.out], hb⟩
theorem nContainsFunc_at {q : List Pk} {v : Value} {w : World} {t : Bool} (h : Hid (q.all Pk.okB = t)) (hQ : PksAt w w.heap.size v q) :
    Calls Try.prog 30 #[v, .func (.func 31) #[] #[]] w fun e w' => e = .returned (.bool (!t)) ∧ Below w.heap.size w w' :=
  (nContainsFunc_any q v w hQ).mono fun _ _ ⟨he, hb⟩ => ⟨by rw [he, h.out], hb⟩
theorem rangeAll (f : Nat → Bool) (k : Nat) : (List.range (k + 1)).all f = ((List.range k).all f && f k) := by
  rw [List.range_succ, List.all_append]
  simp
theorem rangeBad {f : Nat → Bool} {n k : Nat} (hk : k < n) (h : f k = false) : (List.range n).all f = false := by
  rw [List.all_eq_false]
  exact ⟨k, List.mem_range.2 hk, by simp [h]⟩
theorem Net.okB_eq (n : Net) : n.okB = (decide (n.queue.length ≤ 4096) && (n.queue.all Pk.okB && apartB n.apart)) := rfl
theorem check_bad {n : Net} (h : n.okB = false) : n.checkT = 60 := by rw [Net.checkT, h]; rfl
theorem check_good {n : Net} (h : n.okB = true) : n.checkT = 0 := by rw [Net.checkT, h]; rfl

set_option maxRecDepth 100000 in
set_option maxHeartbeats 4000000 in
theorem nCheck_any (n : Net) (Vq Va : Value) (w : World) (hN : NetAt w w.heap.size Vq Va n) :
    Calls Try.prog 13 #[.agg #[Vq, Va]] w fun e w' => e = .returned (.int .i64 n.checkT) ∧ Below w.heap.size w w' := by
  obtain ⟨Aq, cq, rfl, hmq⟩ := hN.queue.form
  obtain ⟨Aa, ca, rfl, hma⟩ := hN.apart.form
  unfold maxLen at hmq hma
  obtain ⟨nq, hnq⟩ : ∃ k, n.queue.length = k := ⟨_, rfl⟩
  obtain ⟨na, hna⟩ : ∃ k, n.apart.length = k := ⟨_, rfl⟩
  rw [hnq] at hmq
  rw [hna] at hma
  rw [hnq, hna] at hN ⊢
  have HQ := Lib.hid hnq
  have HA := Lib.hid hna
  have HN := Lib.hid hN
  clear hnq hna hN
  by_cases hl : nq ≤ 4096
  · rcases hq : n.queue.all Pk.okB with _ | _
    · have hf : n.checkT = 60 := check_bad (by rw [Net.okB_eq, hq]; simp)
      rw [hf]
      have Hq := Lib.hid hq
      clear hf hq
      have hb0 := (Below.refl w.heap.size w).alloc (Nat.le_refl _) (.cells #[.slice Aq nq cq, .slice Aa na ca] 25)
      have HN1 := Lib.hid (HN.out.later hb0)
      go_enter Try.func13, Try.ntmps13
      go_wp2_with fail
      refine (nContainsFunc_at Hq HN1.out.queue).mono ?_
      rintro e w1 ⟨rfl, hb⟩
      go_wp2
      go_ret
      exact ⟨rfl, hb0.trans (hb.mono hb0.size)⟩
    · have Hq := Lib.hid hq
      clear hq
      have hb0 := (Below.refl w.heap.size w).alloc (Nat.le_refl _) (.cells #[.slice Aq nq cq, .slice Aa na ca] 25)
      have HN1 := Lib.hid (HN.out.later hb0)
      go_enter Try.func13, Try.ntmps13
      go_wp2_with fail
      refine (nContainsFunc_at Hq HN1.out.queue).mono ?_
      rintro e W ⟨rfl, hb⟩
      have X := (Box.new w [.slice Aq nq cq, .slice Aa na ca] 25).later hb
      have HL := Lib.hid (HN1.out.later hb).apart
      have hB := hb0.trans (hb.mono hb0.size)
      clear hb HN1 hb0
      have x1 : W.cell? ⟨w.heap.size, 1, none⟩ = some (.slice Aa na ca) := X.cell 1
      have xz := X.lt
      go_wp2_with fail
      clear x1 xz
      go_loopw [17] (fun i wr => ∃ k : Nat, k ≤ na ∧ i = .int .i64 k ∧ Below W.heap.size W wr ∧ Hid ((List.range k).all (okAt n.apart) = true)) (fun i _ => na - (intOf i).toNat)
      case atStart => exact ⟨0, by omega, rfl, Below.refl _ _, rfl⟩
      case round =>
        obtain ⟨k, hk, rfl, hb, hall⟩ := hrel
        have X' := X.later hb
        by_cases hlt : k < na
        · obtain ⟨b, off, rfl, hbw, hcs⟩ := HL.out.lk (by rw [HA.out]; omega)
          obtain ⟨g0, g1⟩ := hcs k (by rw [HA.out]; omega)
          have htk := rangeAll (okAt n.apart) k
          have hbad := rangeBad (f := okAt n.apart) (show k < n.apart.length by rw [HA.out]; exact hlt)
          have hok : okAt n.apart k = (linkB (n.apart.getD k (0, 0)).1 (n.apart.getD k (0, 0)).2 && (decide (k = 0) || decide (cmpP (n.apart.getD (k - 1) (0, 0)) (n.apart.getD k (0, 0)) < 0))) := rfl
          have hprev : 0 < k → W.cell? ⟨b, off + (k - 1) * 2, none⟩ = some (.int .i64 (n.apart.getD (k - 1) (0, 0)).1) ∧ W.cell? ⟨b, off + (k - 1) * 2 + 1, none⟩ = some (.int .i64 (n.apart.getD (k - 1) (0, 0)).2) := fun _ => hcs (k - 1) (by rw [HA.out]; omega)
          obtain ⟨p, hp⟩ : ∃ p, n.apart.getD (k - 1) (0, 0) = p := ⟨_, rfl⟩
          obtain ⟨l, hl'⟩ : ∃ l, n.apart.getD k (0, 0) = l := ⟨_, rfl⟩
          rw [hp, hl'] at hok
          rw [hl'] at g0 g1
          rw [hp] at hprev
          rw [hall.out, Bool.true_and] at htk
          have HPREV := Lib.hid hprev
          have HTK := Lib.hid htk
          have HBAD := Lib.hid hbad
          have HOK := Lib.hid hok
          have HB : Hid (okAt n.apart k = false → n.checkT = 60) := fun h => check_bad (by rw [Net.okB_eq, apartB, HBAD.out h]; simp)
          clear hprev htk hbad hok hp hl' hcs
          have g0 := (hb.cell hbw).trans g0
          have g1 := (hb.cell hbw).trans g1
          go_wp2_with fail
          have Y := Box.new wr [.int .i64 l.1, .int .i64 l.2] 55
          have hb2 := hb.alloc hb.size (.cells #[.int .i64 l.1, .int .i64 l.2] 55)
          have X2 := X'.alloc (.cells #[.int .i64 l.1, .int .i64 l.2] 55)
          generalize wr.alloc (.cells #[.int .i64 l.1, .int .i64 l.2] 55) = W2 at Y hb2 X2 ⊢
          clear g0 g1 X'
          generalize wr.heap.size = D at Y ⊢
          have y0 : ∀ z : Later W2, z.w.cell? ⟨D, 0, none⟩ = some (.int .i64 l.1) := Later.cell (Y.cell 0) Y.lt
          have y1 : ∀ z : Later W2, z.w.cell? ⟨D, 1, none⟩ = some (.int .i64 l.2) := Later.cell (Y.cell 1) Y.lt
          rcases hv : linkB l.1 l.2 with _ | _
          · have HV := Lib.hid hv
            clear hv
            refine wp_region_later (by kernel_rfl) (by kernel_rfl) ?_
            repeat (go_big_quiet_step ((go_at_call 32; exact Later.call _ (nValid_at HV _))))
            refine wpQuiet_nil ?_
            intro _ hw'
            obtain ⟨yq, hw''⟩ := hw'
            subst hw''
            clear y0 y1
            go_wp2
            go_ret
            exact ⟨by rw [HB.out (by rw [HOK.out, HV.out]; rfl)]; rfl, hB.trans ((hb2.trans (yq.below.mono hb2.size)).mono hB.size)⟩
          · have HV := Lib.hid hv
            clear hv
            by_cases hk0 : k = 0
            · subst hk0
              refine wp_region_later (by kernel_rfl) (by kernel_rfl) ?_
              repeat (go_big_quiet_step ((go_at_call 32; exact Later.call _ (nValid_at HV _))))
              refine wpQuiet_nil ?_
              intro _ hw'
              obtain ⟨yq, hw''⟩ := hw'
              subst hw''
              clear y0 y1
              go_wp2
              refine ⟨⟨0 + 1, by omega, by go_num, hb2.trans (yq.below.mono hb2.size), ?_⟩, by simp [intOf]; omega⟩
              rw [Hid, HTK.out, HOK.out, HV.out]
              rfl
            · obtain ⟨p0, p1⟩ := HPREV.out (by omega)
              have c0 : ∀ z : Later W2, z.w.cell? ⟨b, off + (k - 1) * 2, none⟩ = some (.int .i64 p.1) := Later.cell ((hb2.cell hbw).trans p0) (Nat.lt_of_lt_of_le hbw hb2.size)
              have c1 : ∀ z : Later W2, z.w.cell? ⟨b, off + (k - 1) * 2 + 1, none⟩ = some (.int .i64 p.2) := Later.cell ((hb2.cell hbw).trans p1) (Nat.lt_of_lt_of_le hbw hb2.size)
              have c2 : ∀ z : Later W2, z.w.cell? ⟨w.heap.size, 1, none⟩ = some (.slice (some ⟨b, off, none⟩) na ca) := Later.cell (X2.cell 1) X2.lt
              have CMP : Hid (∀ z : Later W2, Calls Try.prog 33 #[.slice (some ⟨b, off + (k - 1) * 2, none⟩) 2 2, .slice (some ⟨D, 0, none⟩) 2 2] z.w fun e w' => e = .returned (.int .i64 (cmpP p l)) ∧ z.w = w') := fun z => nCompare_any p l _ _ _ _ _ _ _ (c0 z) (c1 z) (y0 z) (y1 z)
              have kp : decide (0 < k) = true := decide_eq_true (by omega)
              have k0 : (0 : Int) ≤ (k : Int) - 1 := by omega
              have k1 : (k : Int) - 1 < (na : Int) := by omega
              have k2 : ((k : Int) - 1).toNat = k - 1 := by omega
              have k3 : IntKind.i64.wrap ((k : Int) - 1) = (k : Int) - 1 := IntWalk.i64_in _ (by omega)
              refine wp_region_later (by kernel_rfl) (by kernel_rfl) ?_
              repeat (go_big_quiet_step ((first | (go_at_call 32; exact Later.call _ (nValid_at HV _)) | (go_at_call 33; exact Later.same _ (CMP.out _)))))
              refine wpQuiet_nil ?_
              intro _ hw'
              obtain ⟨yq, hw''⟩ := hw'
              subst hw''
              clear y0 y1 c0 c1 c2 CMP k0 k1 k2 k3
              by_cases hc : cmpP p l < 0
              · go_wp2
                refine ⟨⟨k + 1, by omega, by go_num, hb2.trans (yq.below.mono hb2.size), ?_⟩, by simp [intOf]; omega⟩
                rw [Hid, HTK.out, HOK.out, HV.out, decide_eq_true hc]
                simp
              · go_wp2
                go_ret
                exact ⟨by rw [HB.out (by rw [HOK.out, HV.out, decide_eq_false (show ¬ cmpP p l < 0 by omega), decide_eq_false hk0]; rfl)]; rfl, hB.trans ((hb2.trans (yq.below.mono hb2.size)).mono hB.size)⟩
        · obtain rfl : k = na := by omega
          have hF : n.checkT = 0 := check_good (by rw [Net.okB_eq, Hq.out, apartB, HA.out, hall.out, decide_eq_true (by rw [HQ.out]; exact hl)]; rfl)
          have HF := Lib.hid hF
          clear hF
          go_wp2
          go_ret
          exact ⟨by rw [HF.out]; rfl, hB.trans (hb.mono hB.size)⟩
  · have hf : n.checkT = 60 := check_bad (by rw [Net.okB_eq, decide_eq_false (by rw [HQ.out]; exact hl)]; rfl)
    rw [hf]
    clear hf
    go_enter Try.func13, Try.ntmps13
    go_wp2
    go_ret
    exact ⟨rfl, (Below.refl _ _).alloc (Nat.le_refl _) _⟩

end Go.Proofs.Ytndjpaiakodciaa
