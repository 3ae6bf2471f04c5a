/- Contracts of chapter 6: slices.ContainsFunc over packets, slices.Compare, the reference's test of a packet. No condition. -/
import Derived.Test.YtmbifmmkccghfaaGreatQGA
import Derived.Test.YtmbifmmkccghfaaGreatQAC
import Derived.Deep.DeepCutAuto
import Derived.Test.YtmbifmmkccghfaaGreatQK
set_option linter.unusedVariables false
set_option linter.unusedSimpArgs false
set_option maxRecDepth 100000
set_option maxHeartbeats 4000000
namespace Go.Proofs.YtmbifmmkccghfaaGreat
open Go.RowKit
def IxRes (b : Bool) (w : World) (e : Ending) (w' : World) : Prop := ∃ z : Int, e = .returned (.int .i64 z) ∧ Hid ((b = true ∧ 0 ≤ z) ∨ (b = false ∧ z < 0)) ∧ Below w.heap.size w w'
theorem allTake {α : Type} (l : List α) (f : α → Bool) {k : Nat} (hk : k < l.length) : (l.take (k + 1)).all f = ((l.take k).all f && f l[k]) := by
  rw [List.take_succ_eq_append_getElem hk, List.all_append]
  simp
theorem allBad {α : Type} {l : List α} {f : α → Bool} {k : Nat} (hk : k < l.length) (h : f l[k] = false) : l.all f = false := by
  rw [List.all_eq_false]
  exact ⟨l[k], List.getElem_mem hk, by simp [h]⟩
theorem nIndexFunc_any (q : List Pk) (v : Value) (w : World) (hQ : PksAt w w.heap.size v q) :
    Calls Tryz.prog 84 #[v, .func (.func 70) #[] #[]] w (IxRes (!q.all Pk.okB) w) := by
  obtain ⟨A, c, rfl, hm⟩ := hQ.form
  unfold maxLen at hm
  obtain ⟨n, hnn⟩ : ∃ n, q.length = n := ⟨_, rfl⟩
  rw [hnn] at hm hQ ⊢
  have HN := Lib.hid hnn
  have HQ := Lib.hid hQ
  clear hnn hQ
  go_enter Tryz.func84, Tryz.ntmps84
  go_wp2_with fail
  go_loopw [8] (fun i wr => ∃ j : Nat, j ≤ n ∧ i = .int .i64 j ∧ Below w.heap.size w wr ∧ Hid ((q.take j).all Pk.okB = true)) (fun i _ => n - (intOf i).toNat)
  case atStart => exact ⟨0, by omega, rfl, Below.refl _ _, rfl⟩
  case round =>
    obtain ⟨j, hj, rfl, hb, hall⟩ := hrel
    by_cases hlt : j < n
    · have hjl : j < q.length := by rw [HN.out]; exact hlt
      obtain ⟨b, off, V, rfl, hbw, q0, q1, q2, hV⟩ := HQ.out.pk hjl
      have q0 := (hb.cell hbw).trans q0
      have q1 := (hb.cell hbw).trans q1
      have q2 := (hb.cell hbw).trans q2
      have hV2 := Lib.hid ((hV.below hb).more hb.size)
      have htk := allTake q Pk.okB hjl
      have hbad := allBad (f := Pk.okB) hjl
      obtain ⟨y, hy⟩ : ∃ y, q[j] = y := ⟨_, rfl⟩
      rw [hy] at q0 q1 hV2 htk hbad
      rw [hall.out, Bool.true_and] at htk
      have htk := Lib.hid htk
      have hbad := Lib.hid hbad
      clear hy hV
      go_wp2_with fail
      refine (nPacket1_any y V _ hV2.out).mono ?_
      rintro e w1 ⟨rfl, hb1⟩
      have hb2 := hb.trans (hb1.mono hb.size)
      rcases hh : y.okB with _ | _
      · have hF := Lib.hid (hbad.out hh)
        go_wp2
        go_ret
        exact ⟨_, rfl, .inl ⟨by rw [hF.out]; rfl, by omega⟩, hb2⟩
      · go_wp2
        refine ⟨⟨j + 1, by omega, by go_num, hb2, ?_⟩, by simp [intOf]; omega⟩
        rw [Hid, htk.out]
        exact hh
    · obtain rfl : j = n := by omega
      have hF : Hid (q.all Pk.okB = true) := by
        have := hall.out
        rw [← HN.out, List.take_length] at this
        exact this
      go_wp2
      go_ret
      exact ⟨_, rfl, .inr ⟨by rw [hF.out]; rfl, by omega⟩, hb⟩
theorem nContainsFunc_any (q : List Pk) (v : Value) (w : World) (hQ : PksAt w w.heap.size v q) :
    Calls Tryz.prog 69 #[v, .func (.func 70) #[] #[]] w fun e w' => e = .returned (.bool (!q.all Pk.okB)) ∧ Below w.heap.size w w' := by
  obtain ⟨t, ht⟩ : ∃ t, (!q.all Pk.okB) = t := ⟨_, rfl⟩
  have hI := nIndexFunc_any q v w hQ
  rw [ht] at hI ⊢
  have HI := Lib.hid hI
  clear hI ht hQ
  go_enter Tryz.func69, Tryz.ntmps69
  go_wp2_with fail
  refine HI.out.mono ?_
  rintro e w1 ⟨z, rfl, hz, hb1⟩
  rcases hz.out with ⟨rfl, h0⟩ | ⟨rfl, h0⟩
  · have _hd : decide (0 ≤ z) = true := decide_eq_true h0
    go_wp2
    go_ret
    exact ⟨rfl, hb1⟩
  · have _hd : decide (0 ≤ z) = false := decide_eq_false (by omega)
    go_wp2
    go_ret
    exact ⟨rfl, hb1⟩
theorem nCompare_any (x y : Int × Int) (b1 o1 c1 b2 o2 c2 : Nat) (w : World) (h1 : w.cell? ⟨b1, o1, none⟩ = some (.int .i64 x.1)) (h2 : w.cell? ⟨b1, o1 + 1, none⟩ = some (.int .i64 x.2)) (h3 : w.cell? ⟨b2, o2, none⟩ = some (.int .i64 y.1)) (h4 : w.cell? ⟨b2, o2 + 1, none⟩ = some (.int .i64 y.2)) :
    Calls Tryz.prog 71 #[.slice (some ⟨b1, o1, none⟩) 2 c1, .slice (some ⟨b2, o2, none⟩) 2 c2] w fun e w' => e = .returned (.int .i64 (cmpP x y)) ∧ w = w' := by
  have H : Hid (∀ k, k < 2 → w.cell? ⟨b1, o1 + k, none⟩ = some (.int .i64 (if k = 0 then x.1 else x.2)) ∧ w.cell? ⟨b2, o2 + k, none⟩ = some (.int .i64 (if k = 0 then y.1 else y.2))) := by
    intro k hk
    rcases (show k = 0 ∨ k = 1 by omega) with rfl | rfl
    · exact ⟨h1, h3⟩
    · exact ⟨h2, h4⟩
  clear h1 h2 h3 h4
  go_enter Tryz.func71, Tryz.ntmps71
  go_wp2_with fail
  go_loop [11] (fun i => ∃ k : Nat, k ≤ 2 ∧ i = .int .i64 k ∧ Hid (0 < k → cmpI x.1 y.1 = 0) ∧ Hid (1 < k → cmpI x.2 y.2 = 0)) (fun i => 2 - (intOf i).toNat)
  case atStart => exact ⟨0, by omega, rfl, fun h => absurd h (by omega), fun h => absurd h (by omega)⟩
  case round =>
    obtain ⟨k, hk, rfl, e1, e2⟩ := hrel
    by_cases hlt : k < 2
    · obtain ⟨q1, q2⟩ := H.out k hlt
      obtain ⟨c, hc⟩ : ∃ c, cmpI (if k = 0 then x.1 else x.2) (if k = 0 then y.1 else y.2) = c := ⟨_, rfl⟩
      have HC := Lib.hid hc
      have S : ∀ w, Calls Tryz.prog 85 #[.int .i64 (if k = 0 then x.1 else x.2), .int .i64 (if k = 0 then y.1 else y.2)] w fun e w' => e = .returned (.int .i64 c) ∧ w = w' := fun w => by rw [← hc]; exact nCmp_any _ _ w
      have S := Lib.hid S
      clear hc
      obtain ⟨u, hu⟩ : ∃ u, (if k = 0 then x.1 else x.2) = u := ⟨_, rfl⟩
      obtain ⟨v, hv⟩ : ∃ v, (if k = 0 then y.1 else y.2) = v := ⟨_, rfl⟩
      rw [hu, hv] at S HC
      rw [hu] at q1
      rw [hv] at q2
      have HU := Lib.hid hu
      have HV := Lib.hid hv
      clear hu hv
      by_cases h0 : c = 0
      · subst h0
        go_wp2_with (go_at_call 85; refine (S.out _).mono ?_; rintro e w' ⟨rfl, rfl⟩)
        refine ⟨⟨k + 1, by omega, by go_num, fun _ => ?_, fun h => ?_⟩, by simp [intOf]; omega⟩
        · rcases (show k = 0 ∨ k = 1 by omega) with rfl | rfl
          · have := HC.out; rw [← HU.out, ← HV.out] at this; simpa using this
          · exact e1.out (by omega)
        · obtain rfl : k = 1 := by omega
          have := HC.out; rw [← HU.out, ← HV.out] at this; simpa using this
      · have _h1 : (c != 0) = true := by simp [h0]
        go_wp2_with (go_at_call 85; refine (S.out _).mono ?_; rintro e w' ⟨rfl, rfl⟩)
        go_ret
        refine ⟨?_, rfl⟩
        have hc := HC.out
        rw [← HU.out, ← HV.out] at hc
        rcases (show k = 0 ∨ k = 1 by omega) with rfl | rfl
        · have hc : cmpI x.1 y.1 = c := by simpa using hc
          rw [cmpP, hc, if_pos h0]
          rfl
        · have hc : cmpI x.2 y.2 = c := by simpa using hc
          rw [cmpP, e1.out (by omega), if_neg (by simp), hc]
          rfl
    · obtain rfl : k = 2 := by omega
      go_wp2
      go_ret
      refine ⟨?_, rfl⟩
      rw [cmpP, e1.out (by omega), if_neg (by simp), e2.out (by omega)]
      rfl
end Go.Proofs.YtmbifmmkccghfaaGreat
namespace Go.Proofs.YtmbifmmkccghfaaGreat
open Go.RowKit
theorem nValid_at {a b : Int} {q : Bool} (h : Hid (linkB a b = q)) (w : World) : Calls Tryz.prog 56 #[pairV a b] w fun e w' => e = .returned (.bool q) ∧ Below w.heap.size w w' :=
  (nValid_any a b w).mono fun _ _ ⟨he, hb⟩ => ⟨by rw [he, h.out], hb⟩
theorem nContainsFunc_at {q : List Pk} {v : Value} {w : World} {t : Bool} (h : Hid (q.all Pk.okB = t)) (hQ : PksAt w w.heap.size v q) :
    Calls Tryz.prog 69 #[v, .func (.func 70) #[] #[]] w fun e w' => e = .returned (.bool (!t)) ∧ Below w.heap.size w w' :=
  (nContainsFunc_any q v w hQ).mono fun _ _ ⟨he, hb⟩ => ⟨by rw [he, h.out], hb⟩
theorem rangeAll (f : Nat → Bool) (k : Nat) : (List.range (k + 1)).all f = ((List.range k).all f && f k) := by
  rw [List.range_succ, List.all_append]
  simp
theorem rangeBad {f : Nat → Bool} {n k : Nat} (hk : k < n) (h : f k = false) : (List.range n).all f = false := by
  rw [List.all_eq_false]
  exact ⟨k, List.mem_range.2 hk, by simp [h]⟩
theorem Net.okB_eq (n : Net) : n.okB = (decide (n.queue.length ≤ 4096) && (n.queue.all Pk.okB && apartB n.apart)) := rfl
theorem check_bad {n : Net} (h : n.okB = false) : n.checkT = 60 := by rw [Net.checkT, h]; rfl
theorem check_good {n : Net} (h : n.okB = true) : n.checkT = 0 := by rw [Net.checkT, h]; rfl
theorem nCheck_any (n : Net) (Vq Va : Value) (w : World) (hN : NetAt w w.heap.size Vq Va n) :
    Calls Tryz.prog 45 #[.agg #[Vq, Va]] w fun e w' => e = .returned (.int .i64 n.checkT) ∧ Below w.heap.size w w' := by
  obtain ⟨Aq, cq, rfl, hmq⟩ := hN.queue.form
  obtain ⟨Aa, ca, rfl, hma⟩ := hN.apart.form
  unfold maxLen at hmq hma
  obtain ⟨nq, hnq⟩ : ∃ k, n.queue.length = k := ⟨_, rfl⟩
  obtain ⟨na, hna⟩ : ∃ k, n.apart.length = k := ⟨_, rfl⟩
  rw [hnq] at hmq
  rw [hna] at hma
  rw [hnq, hna] at hN ⊢
  have HQ := Lib.hid hnq
  have HA := Lib.hid hna
  have HN := Lib.hid hN
  clear hnq hna hN
  by_cases hl : nq ≤ 4096
  · rcases hq : n.queue.all Pk.okB with _ | _
    · have hf : n.checkT = 60 := check_bad (by rw [Net.okB_eq, hq]; simp)
      rw [hf]
      have Hq := Lib.hid hq
      clear hf hq
      have hb0 := (Below.refl w.heap.size w).alloc (Nat.le_refl _) (.cells #[.slice Aq nq cq, .slice Aa na ca] 44)
      have HN1 := Lib.hid (HN.out.later hb0)
      go_enter Tryz.func45, Tryz.ntmps45
      go_wp2_with fail
      refine (nContainsFunc_at Hq HN1.out.queue).mono ?_
      rintro e w1 ⟨rfl, hb⟩
      go_wp2
      go_ret
      exact ⟨rfl, hb0.trans (hb.mono hb0.size)⟩
    · have Hq := Lib.hid hq
      clear hq
      have hb0 := (Below.refl w.heap.size w).alloc (Nat.le_refl _) (.cells #[.slice Aq nq cq, .slice Aa na ca] 44)
      have HN1 := Lib.hid (HN.out.later hb0)
      go_enter Tryz.func45, Tryz.ntmps45
      go_wp2_with fail
      refine (nContainsFunc_at Hq HN1.out.queue).mono ?_
      rintro e W ⟨rfl, hb⟩
      have X := (Box.new w [.slice Aq nq cq, .slice Aa na ca] 44).later hb
      have HL := Lib.hid (HN1.out.later hb).apart
      have hB := hb0.trans (hb.mono hb0.size)
      clear hb HN1 hb0
      have x1 : W.cell? ⟨w.heap.size, 1, none⟩ = some (.slice Aa na ca) := X.cell 1
      have xz := X.lt
      go_wp2_with fail
      clear x1 xz
      go_loopw [17] (fun i wr => ∃ k : Nat, k ≤ na ∧ i = .int .i64 k ∧ Below W.heap.size W wr ∧ Hid ((List.range k).all (okAt n.apart) = true)) (fun i _ => na - (intOf i).toNat)
      case atStart => exact ⟨0, by omega, rfl, Below.refl _ _, rfl⟩
      case round =>
        obtain ⟨k, hk, rfl, hb, hall⟩ := hrel
        have X' := X.later hb
        by_cases hlt : k < na
        · obtain ⟨b, off, rfl, hbw, hcs⟩ := HL.out.lk (by rw [HA.out]; omega)
          obtain ⟨g0, g1⟩ := hcs k (by rw [HA.out]; omega)
          have htk := rangeAll (okAt n.apart) k
          have hbad := rangeBad (f := okAt n.apart) (show k < n.apart.length by rw [HA.out]; exact hlt)
          have hok : okAt n.apart k = (linkB (n.apart.getD k (0, 0)).1 (n.apart.getD k (0, 0)).2 && (decide (k = 0) || decide (cmpP (n.apart.getD (k - 1) (0, 0)) (n.apart.getD k (0, 0)) < 0))) := rfl
          have hprev : 0 < k → W.cell? ⟨b, off + (k - 1) * 2, none⟩ = some (.int .i64 (n.apart.getD (k - 1) (0, 0)).1) ∧ W.cell? ⟨b, off + (k - 1) * 2 + 1, none⟩ = some (.int .i64 (n.apart.getD (k - 1) (0, 0)).2) := fun _ => hcs (k - 1) (by rw [HA.out]; omega)
          obtain ⟨p, hp⟩ : ∃ p, n.apart.getD (k - 1) (0, 0) = p := ⟨_, rfl⟩
          obtain ⟨l, hl'⟩ : ∃ l, n.apart.getD k (0, 0) = l := ⟨_, rfl⟩
          rw [hp, hl'] at hok
          rw [hl'] at g0 g1
          rw [hp] at hprev
          rw [hall.out, Bool.true_and] at htk
          have HPREV := Lib.hid hprev
          have HTK := Lib.hid htk
          have HBAD := Lib.hid hbad
          have HOK := Lib.hid hok
          have HB : Hid (okAt n.apart k = false → n.checkT = 60) := fun h => check_bad (by rw [Net.okB_eq, apartB, HBAD.out h]; simp)
          clear hprev htk hbad hok hp hl' hcs
          have g0 := (hb.cell hbw).trans g0
          have g1 := (hb.cell hbw).trans g1
          go_wp2_with fail
          have Y := Box.new wr [.int .i64 l.1, .int .i64 l.2] 31
          have hb2 := hb.alloc hb.size (.cells #[.int .i64 l.1, .int .i64 l.2] 31)
          have X2 := X'.alloc (.cells #[.int .i64 l.1, .int .i64 l.2] 31)
          generalize wr.alloc (.cells #[.int .i64 l.1, .int .i64 l.2] 31) = W2 at Y hb2 X2 ⊢
          clear g0 g1 X'
          generalize wr.heap.size = D at Y ⊢
          have y0 : ∀ z : Later W2, z.w.cell? ⟨D, 0, none⟩ = some (.int .i64 l.1) := Later.cell (Y.cell 0) Y.lt
          have y1 : ∀ z : Later W2, z.w.cell? ⟨D, 1, none⟩ = some (.int .i64 l.2) := Later.cell (Y.cell 1) Y.lt
          rcases hv : linkB l.1 l.2 with _ | _
          · have HV := Lib.hid hv
            clear hv
            refine wp_region_later (by kernel_rfl) (by kernel_rfl) ?_
            repeat (go_big_quiet_step ((go_at_call 56; exact Later.call _ (nValid_at HV _))))
            refine wpQuiet_nil ?_
            intro _ hw'
            obtain ⟨yq, hw''⟩ := hw'
            subst hw''
            clear y0 y1
            go_wp2
            go_ret
            exact ⟨by rw [HB.out (by rw [HOK.out, HV.out]; rfl)]; rfl, hB.trans ((hb2.trans (yq.below.mono hb2.size)).mono hB.size)⟩
          · have HV := Lib.hid hv
            clear hv
            by_cases hk0 : k = 0
            · subst hk0
              refine wp_region_later (by kernel_rfl) (by kernel_rfl) ?_
              repeat (go_big_quiet_step ((go_at_call 56; exact Later.call _ (nValid_at HV _))))
              refine wpQuiet_nil ?_
              intro _ hw'
              obtain ⟨yq, hw''⟩ := hw'
              subst hw''
              clear y0 y1
              go_wp2
              refine ⟨⟨0 + 1, by omega, by go_num, hb2.trans (yq.below.mono hb2.size), ?_⟩, by simp [intOf]; omega⟩
              rw [Hid, HTK.out, HOK.out, HV.out]
              rfl
            · obtain ⟨p0, p1⟩ := HPREV.out (by omega)
              have c0 : ∀ z : Later W2, z.w.cell? ⟨b, off + (k - 1) * 2, none⟩ = some (.int .i64 p.1) := Later.cell ((hb2.cell hbw).trans p0) (Nat.lt_of_lt_of_le hbw hb2.size)
              have c1 : ∀ z : Later W2, z.w.cell? ⟨b, off + (k - 1) * 2 + 1, none⟩ = some (.int .i64 p.2) := Later.cell ((hb2.cell hbw).trans p1) (Nat.lt_of_lt_of_le hbw hb2.size)
              have c2 : ∀ z : Later W2, z.w.cell? ⟨w.heap.size, 1, none⟩ = some (.slice (some ⟨b, off, none⟩) na ca) := Later.cell (X2.cell 1) X2.lt
              have CMP : Hid (∀ z : Later W2, Calls Tryz.prog 71 #[.slice (some ⟨b, off + (k - 1) * 2, none⟩) 2 2, .slice (some ⟨D, 0, none⟩) 2 2] z.w fun e w' => e = .returned (.int .i64 (cmpP p l)) ∧ z.w = w') := fun z => nCompare_any p l _ _ _ _ _ _ _ (c0 z) (c1 z) (y0 z) (y1 z)
              have kp : decide (0 < k) = true := decide_eq_true (by omega)
              have k0 : (0 : Int) ≤ (k : Int) - 1 := by omega
              have k1 : (k : Int) - 1 < (na : Int) := by omega
              have k2 : ((k : Int) - 1).toNat = k - 1 := by omega
              have k3 : IntKind.i64.wrap ((k : Int) - 1) = (k : Int) - 1 := IntWalk.i64_in _ (by omega)
              refine wp_region_later (by kernel_rfl) (by kernel_rfl) ?_
              repeat (go_big_quiet_step ((first | (go_at_call 56; exact Later.call _ (nValid_at HV _)) | (go_at_call 71; exact Later.same _ (CMP.out _)))))
              refine wpQuiet_nil ?_
              intro _ hw'
              obtain ⟨yq, hw''⟩ := hw'
              subst hw''
              clear y0 y1 c0 c1 c2 CMP k0 k1 k2 k3
              by_cases hc : cmpP p l < 0
              · go_wp2
                refine ⟨⟨k + 1, by omega, by go_num, hb2.trans (yq.below.mono hb2.size), ?_⟩, by simp [intOf]; omega⟩
                rw [Hid, HTK.out, HOK.out, HV.out, decide_eq_true hc]
                simp
              · go_wp2
                go_ret
                exact ⟨by rw [HB.out (by rw [HOK.out, HV.out, decide_eq_false (show ¬ cmpP p l < 0 by omega), decide_eq_false hk0]; rfl)]; rfl, hB.trans ((hb2.trans (yq.below.mono hb2.size)).mono hB.size)⟩
        · obtain rfl : k = na := by omega
          have hF : n.checkT = 0 := check_good (by rw [Net.okB_eq, Hq.out, apartB, HA.out, hall.out, decide_eq_true (by rw [HQ.out]; exact hl)]; rfl)
          have HF := Lib.hid hF
          clear hF
          go_wp2
          go_ret
          exact ⟨by rw [HF.out]; rfl, hB.trans (hb.mono hB.size)⟩
  · have hf : n.checkT = 60 := check_bad (by rw [Net.okB_eq, decide_eq_false (by rw [HQ.out]; exact hl)]; rfl)
    rw [hf]
    clear hf
    go_enter Tryz.func45, Tryz.ntmps45
    go_wp2
    go_ret
    exact ⟨rfl, (Below.refl _ _).alloc (Nat.le_refl _) _⟩
end Go.Proofs.YtmbifmmkccghfaaGreat
namespace Go.Proofs.YtmbifmmkccghfaaGreat
open Go.RowKit
end Go.Proofs.YtmbifmmkccghfaaGreat
namespace Go.Proofs.YtmbifmmkccghfaaGreat
open Go.RowKit
theorem Box.keepN {w w' : World} {b D : Nat} {xs : List Value} (h : Box w b xs) (hb : b < D) (hB : Below D w w') : Box w' b xs := h.same (hB.block b hb)
theorem info_pk : (Tryz.prog.info? 93).map (fun i => (i.zero, i.size, i.bytes)) = some (some (.agg #[.int .i64 0, .int .i64 0, .slice none 0 0]), 3, 40) := by kernel_rfl
theorem elem_pk : ∃ i, Elem 41 93 i (.agg #[.int .i64 0, .int .i64 0, .slice none 0 0]) 3 40 := by
  obtain ⟨i, hi, h0, h1, h2⟩ := info_parts info_pk
  exact ⟨i, Tryz.underlying41, hi, h0, h1, h2, rfl, by decide⟩
theorem info_lk : (Tryz.prog.info? 31).map (fun i => (i.zero, i.size, i.bytes)) = some (some (.agg #[.int .i64 0, .int .i64 0]), 2, 16) := by kernel_rfl
theorem elem_lk : ∃ i, Elem 42 31 i (.agg #[.int .i64 0, .int .i64 0]) 2 16 := by
  obtain ⟨i, hi, h0, h1, h2⟩ := info_parts info_lk
  exact ⟨i, Tryz.underlying42, hi, h0, h1, h2, rfl, by decide⟩
theorem Sl.congr {w : World} {B size n : Nat} {g h : Nat → Nat → Value} {v : Value} (hs : Sl w B size n g v) (he : ∀ i j, i < n → j < size → g i j = h i j) : Sl w B size n h v := by
  obtain ⟨A, c, hv, hm, h1⟩ := hs
  refine ⟨A, c, hv, hm, fun i hi => ?_⟩
  obtain ⟨b, off, ha, hb, h3⟩ := h1 i hi
  exact ⟨b, off, ha, hb, fun j hj => by rw [h3 j hj, he i j hi hj]⟩
theorem flat_congr {n size : Nat} {g h : Nat → Nat → Value} (hs : 0 < size) (he : ∀ i j, i < n → j < size → g i j = h i j) : flat n size g = flat n size h := by
  apply List.map_congr_left
  intro j hj
  have hj := List.mem_range.1 hj
  exact he _ _ ((Nat.div_lt_iff_lt_mul hs).2 hj) (Nat.mod_lt _ hs)
def catV (n : Nat) (V U : Nat → Value) : Nat → Value := fun i => if i < n then V i else U (i - n)
theorem pkCells_cat (q r : List Pk) (V U : Nat → Value) (i j : Nat) : cat q.length (pkCells q V) (pkCells r U) i j = pkCells (q ++ r) (catV q.length V U) i j := by
  unfold cat catV pkCells
  by_cases h : i < q.length
  · simp only [if_pos h, List.getD_eq_getElem?_getD, List.getElem?_append_left h]
  · simp only [if_neg h, List.getD_eq_getElem?_getD, List.getElem?_append_right (show q.length ≤ i by omega)]
theorem pkCells_one {q : List Pk} {V : Nat → Value} (hV : ∀ (i : Nat) (p : Pk), q[i]? = some p → ∃ w B, BytesAt w B (V i) p.data) {i j : Nat} (hi : i < q.length) : (pkCells q V i j).oneCell' = true := by
  unfold pkCells
  split
  · rfl
  · split
    · rfl
    · obtain ⟨w, B, h⟩ := hV i _ (List.getElem?_eq_getElem hi)
      obtain ⟨A, c, e, _⟩ := h.form
      rw [e]
      rfl
theorem bytes_cat {w : World} {B : Nat} {q r : List Pk} {V U : Nat → Value} (h1 : ∀ (i : Nat) (p : Pk), q[i]? = some p → BytesAt w B (V i) p.data) (h2 : ∀ (i : Nat) (p : Pk), r[i]? = some p → BytesAt w B (U i) p.data) :
    ∀ (i : Nat) (p : Pk), (q ++ r)[i]? = some p → BytesAt w B (catV q.length V U i) p.data := by
  intro i p hp
  unfold catV
  by_cases h : i < q.length
  · rw [if_pos h]
    exact h1 i p (by rw [List.getElem?_append_left h] at hp; exact hp)
  · rw [if_neg h]
    exact h2 _ p (by rw [List.getElem?_append_right (by omega)] at hp; exact hp)
def PksIn (w : World) (B D : Nat) (v : Value) (q : List Pk) : Prop :=
  SlF v ∧ ∃ V : Nat → Value, Sl w B 3 q.length (pkCells q V) v ∧ ∀ (i : Nat) (p : Pk), q[i]? = some p → BytesAt w D (V i) p.data
theorem PksAt.within {w : World} {B B' : Nat} {v : Value} {q : List Pk} (h : PksAt w B v q) (hB : B ≤ B') : PksIn w B' B v q := by
  obtain ⟨f, V, s, b⟩ := h
  exact ⟨f, V, s.more hB, b⟩
theorem PksIn.at {w : World} {B D : Nat} {v : Value} {q : List Pk} (h : PksIn w B D v q) (hD : D ≤ B) : PksAt w B v q := by
  obtain ⟨f, V, s, b⟩ := h
  exact ⟨f, V, s, fun i p hp => (b i p hp).more hD⟩
theorem pksIn_one {w : World} {b D : Nat} {p : Pk} {V : Value} (hX : Box w b [.int .i64 p.src, .int .i64 p.dst, V]) (hV : BytesAt w D V p.data) : PksIn w w.heap.size D (.slice (some ⟨b, 0, none⟩) 1 1) [p] := by
  refine ⟨.inr ⟨_, _, _, rfl, Nat.le_refl _, by simp [maxLen]⟩, fun _ => V, ⟨_, _, rfl, by simp [maxLen], fun i hi => ⟨b, 0, rfl, hX.lt, fun j hj => ?_⟩⟩, fun i x hx => ?_⟩
  · obtain rfl : i = 0 := by simpa using hi
    rcases (show j = 0 ∨ j = 1 ∨ j = 2 by omega) with rfl | rfl | rfl
    · exact hX.cell 0
    · exact hX.cell 1
    · exact hX.cell 2
  · rcases i with _ | i
    · obtain rfl : p = x := by simpa using hx
      exact hV
    · simp at hx
def Pks2 (w : World) (D base : Nat) (v : Value) (q : List Pk) : Prop :=
  SlF v ∧ ∃ V : Nat → Value, Sl2 w D base 3 q.length (pkCells q V) v ∧ ∀ (i : Nat) (p : Pk), q[i]? = some p → BytesAt w D (V i) p.data
theorem Pks2.at {w : World} {D base : Nat} {v : Value} {q : List Pk} (h : Pks2 w D base v q) (hD : D ≤ w.heap.size) : PksAt w w.heap.size v q := by
  obtain ⟨f, V, s, b⟩ := h
  exact ⟨f, V, s.sl, fun i p hp => (b i p hp).more hD⟩
theorem Pks2.set {w : World} {D base : Nat} {v : Value} {q : List Pk} (h : Pks2 w D base v q) {a : Addr} (h1 : D ≤ a.block) (h2 : a.block < base) (u : Value) : Pks2 (w.setCell a u) D base v q := by
  obtain ⟨f, V, s, b⟩ := h
  exact ⟨f, V, s.set h1 h2 u, fun i p hp => (b i p hp).below ((Below.refl D w).setCell h1 u)⟩
theorem Pks2.form {w : World} {D base : Nat} {v : Value} {q : List Pk} (h : Pks2 w D base v q) : ∃ A c, v = .slice A q.length c := by
  obtain ⟨_, _, ⟨A, c, hv, _⟩, _⟩ := h
  exact ⟨A, c, hv⟩
theorem run_app_pk (ty : TypeId) {w : World} {D : Nat} {A : Option Addr} {n cap : Nat} {q r : List Pk} {x : Value} (hq : PksAt w D (.slice A n cap) q) (hr : PksIn w w.heap.size D x r) (hD : D ≤ w.heap.size) (hcap : cap < q.length + r.length ∨ r.length = 0) (hsz : q.length + r.length ≤ 1048576) :
    ∃ A' n' c' w', (Builtin.append_ #[41, 41] ty #[.slice A n cap, x]).run Tryz.prog w = .ok (.slice A' n' c') w' ∧ Pks2 w' D w.heap.size (.slice A' n' c') (q ++ r) ∧ Below w.heap.size w w' := by
  obtain ⟨i, E⟩ := elem_pk
  obtain ⟨_, _, hv, _⟩ := hq.form
  obtain ⟨f1, V, s1, b1⟩ := hq
  obtain ⟨f2, U, s2, b2⟩ := hr
  have hn : n = q.length := by injection hv
  subst hn
  obtain ⟨v', w', hrun, s3, f3, hb⟩ := run_app E ty s1 hD f1 s2 f2 (fun k j hk _ => pkCells_one (fun i p hp => ⟨_, _, b2 i p hp⟩) hk) hcap (by simp only [maxLen]; omega) (by omega)
  have key : Pks2 w' D w.heap.size v' (q ++ r) := by
    refine ⟨f3, catV q.length V U, ?_, fun k p hp => (bytes_cat b1 b2 k p hp).below (hb.mono hD)⟩
    rw [List.length_append]
    obtain ⟨A2, c2, e1, e2, e3⟩ := s3
    refine ⟨A2, c2, e1, e2, fun i hi => ?_⟩
    obtain ⟨b, off, e4, e5, e6, e7⟩ := e3 i hi
    exact ⟨b, off, e4, e5, e6, fun j hj => by rw [e7 j hj, pkCells_cat]⟩
  obtain ⟨A', c', rfl⟩ := key.form
  exact ⟨_, _, _, w', hrun, key, hb⟩
def OwnPk (w : World) (base D : Nat) (v : Value) (q : List Pk) : Prop :=
  ∃ V : Nat → Value, w.ownsRow base 93 3 v q.length (flat q.length 3 (pkCells q V)) ∧ ∀ (i : Nat) (p : Pk), q[i]? = some p → BytesAt w D (V i) p.data
theorem OwnPk.two {w : World} {base D : Nat} {v : Value} {q : List Pk} (h : OwnPk w base D v q) (hn : q.length ≤ maxLen) : Pks2 w D base v q := by
  obtain ⟨V, h1, h2⟩ := h
  obtain ⟨s, f⟩ := own_sl2 (D := D) h1 hn
  exact ⟨f, V, s, h2⟩
theorem OwnPk.form {w : World} {base D : Nat} {v : Value} {q : List Pk} (h : OwnPk w base D v q) : ∃ A n c, v = .slice A n c := by
  obtain ⟨V, h1, _⟩ := h
  rcases h1.2 with ⟨rfl, _⟩ | ⟨g, cap, cur, rfl, _⟩
  · exact ⟨_, _, _, rfl⟩
  · exact ⟨_, _, _, rfl⟩
theorem OwnPk.alloc {w : World} {base D : Nat} {v : Value} {q : List Pk} (h : OwnPk w base D v q) (hD : D ≤ w.heap.size) (o : Obj) : OwnPk (w.alloc o) base D v q := by
  obtain ⟨V, h1, h2⟩ := h
  exact ⟨V, h1.alloc o, fun i p hp => (h2 i p hp).below ((Below.refl D w).alloc hD o)⟩
theorem lkCells_cat (q r : List (Int × Int)) (i j : Nat) : cat q.length (lkCells q) (lkCells r) i j = lkCells (q ++ r) i j := by
  unfold cat lkCells
  by_cases h : i < q.length
  · simp only [if_pos h, List.getD_eq_getElem?_getD, List.getElem?_append_left h]
  · simp only [if_neg h, List.getD_eq_getElem?_getD, List.getElem?_append_right (show q.length ≤ i by omega)]
theorem lkCells_one (q : List (Int × Int)) (i j : Nat) : (lkCells q i j).oneCell' = true := by
  unfold lkCells
  split <;> rfl
def OwnLk (w : World) (base : Nat) (v : Value) (l : List (Int × Int)) : Prop := w.ownsRow base 31 2 v l.length (flat l.length 2 (lkCells l))
theorem ownLk_nil (w : World) (base : Nat) : OwnLk w base (.slice none 0 0) [] := ⟨by simp [flat], .inl ⟨rfl, rfl⟩⟩
theorem OwnLk.lks {w : World} {base : Nat} {v : Value} {l : List (Int × Int)} (h : OwnLk w base v l) (hn : l.length ≤ maxLen) : LksAt w w.heap.size v l := by
  obtain ⟨s, f⟩ := own_sl h hn
  exact ⟨f, s⟩
theorem run_own_lk (ty : TypeId) {w : World} {base b : Nat} {v : Value} {l : List (Int × Int)} {x y : Int} (hl : OwnLk w base v l) (hX : Box w b [.int .i64 x, .int .i64 y]) (hbase : base ≤ w.heap.size) (hsz : l.length + 1 ≤ 1048576) :
    ∃ v' w', (Builtin.append_ #[42, 42] ty #[v, .slice (some ⟨b, 0, none⟩) 1 1]).run Tryz.prog w = .ok v' w' ∧ OwnLk w' base v' (l ++ [(x, y)]) ∧ Below base w w' ∧ w.grownBy w' v.ownBlock := by
  obtain ⟨i, E⟩ := elem_lk
  have hrow := World.ownsRow.lt hl
  have hs : Sl w w.heap.size 2 [(x, y)].length (lkCells [(x, y)]) (.slice (some ⟨b, 0, none⟩) 1 1) := by
    refine ⟨_, _, rfl, by simp [maxLen], fun i hi => ⟨b, 0, rfl, hX.lt, fun j hj => ?_⟩⟩
    obtain rfl : i = 0 := by simpa using hi
    rcases (show j = 0 ∨ j = 1 by omega) with rfl | rfl
    · exact hX.cell 0
    · exact hX.cell 1
  obtain ⟨v', w', hrun, o3, hg⟩ := run_app_own E ty hl hs (.inr ⟨_, _, _, rfl, Nat.le_refl _, by simp [maxLen]⟩) (fun k j _ _ => lkCells_one _ k j) (by simp only [maxLen, List.length_cons, List.length_nil]; omega) (by simp only [List.length_cons, List.length_nil]; omega) hbase
  refine ⟨v', w', hrun, ?_, (Below.refl base w).grown hg hbase (fun k hk => (hrow k hk).1), hg⟩
  rw [flat_congr (by decide) (fun i j _ _ => lkCells_cat l [(x, y)] i j)] at o3
  unfold OwnLk
  rw [List.length_append]
  exact o3
theorem Sl2.lower {w : World} {D base base' size n : Nat} {g : Nat → Nat → Value} {v : Value} (h : Sl2 w D base size n g v) (hb : base' ≤ base) : Sl2 w D base' size n g v := by
  obtain ⟨A, c, hv, hm, h1⟩ := h
  refine ⟨A, c, hv, hm, fun i hi => ?_⟩
  obtain ⟨b, off, ha, hb1, hl, h3⟩ := h1 i hi
  exact ⟨b, off, ha, by omega, hl, h3⟩
theorem Pks2.lower {w : World} {D base base' : Nat} {v : Value} {q : List Pk} (h : Pks2 w D base v q) (hb : base' ≤ base) : Pks2 w D base' v q := by
  obtain ⟨f, V, s, b⟩ := h
  exact ⟨f, V, s.lower hb, b⟩
theorem Pks2.later {w w' : World} {D base : Nat} {v : Value} {q : List Pk} (h : Pks2 w D base v q) (hD : D ≤ w.heap.size) (hb : Below w.heap.size w w') : Pks2 w' D base v q := by
  obtain ⟨f, V, s, b⟩ := h
  exact ⟨f, V, s.later hb, fun i p hp => (b i p hp).below (hb.mono hD)⟩
theorem PksAt.two {w : World} {D base : Nat} {v : Value} {q : List Pk} (h : PksAt w D v q) (hD : D ≤ w.heap.size) : Pks2 w D base v q := by
  obtain ⟨f, V, s, b⟩ := h
  exact ⟨f, V, s.sl2 hD, b⟩
def Lks2 (w : World) (D base : Nat) (v : Value) (l : List (Int × Int)) : Prop := SlF v ∧ Sl2 w D base 2 l.length (lkCells l) v
theorem LksAt.two {w : World} {D base : Nat} {v : Value} {l : List (Int × Int)} (h : LksAt w D v l) (hD : D ≤ w.heap.size) : Lks2 w D base v l := ⟨h.1, h.2.sl2 hD⟩
theorem OwnLk.two {w : World} {base D : Nat} {v : Value} {l : List (Int × Int)} (h : OwnLk w base v l) (hn : l.length ≤ maxLen) : Lks2 w D base v l := by
  obtain ⟨s, f⟩ := own_sl2 (D := D) h hn
  exact ⟨f, s⟩
theorem BytesAt.set1 {w : World} {D : Nat} {v : Value} {l : List UInt8} (h : BytesAt w D v l) {a : Addr} (h1 : D ≤ a.block) (u : Value) : BytesAt (w.setCell a u) D v l := h.below ((Below.refl D w).setCell h1 u)
structure Net2 (w : World) (D base : Nat) (Vq Va : Value) (n : Net) : Prop where
  queue : Pks2 w D base Vq n.queue
  apart : Lks2 w D base Va n.apart
theorem Net2.set {w : World} {D base : Nat} {Vq Va : Value} {n : Net} (h : Net2 w D base Vq Va n) {a : Addr} (h1 : D ≤ a.block) (h2 : a.block < base) (u : Value) : Net2 (w.setCell a u) D base Vq Va n := ⟨h.queue.set h1 h2 u, h.apart.1, h.apart.2.set h1 h2 u⟩
theorem Net2.later {w w' : World} {D base : Nat} {Vq Va : Value} {n : Net} (h : Net2 w D base Vq Va n) (hD : D ≤ w.heap.size) (hb : Below w.heap.size w w') : Net2 w' D base Vq Va n := ⟨h.queue.later hD hb, h.apart.1, h.apart.2.later hb⟩
theorem Net2.lower {w : World} {D base base' : Nat} {Vq Va : Value} {n : Net} (h : Net2 w D base Vq Va n) (hb : base' ≤ base) : Net2 w D base' Vq Va n := ⟨h.queue.lower hb, h.apart.1, h.apart.2.lower hb⟩
theorem Net2.at {w : World} {D base : Nat} {Vq Va : Value} {n : Net} (h : Net2 w D base Vq Va n) (hD : D ≤ w.heap.size) : NetAt w w.heap.size Vq Va n := ⟨h.queue.at hD, h.apart.1, h.apart.2.sl⟩
theorem NetAt.two {w : World} {D base : Nat} {Vq Va : Value} {n : Net} (h : NetAt w D Vq Va n) (hD : D ≤ w.heap.size) : Net2 w D base Vq Va n := ⟨h.queue.two hD, h.apart.two hD⟩
theorem net2_zero (w : World) (D base : Nat) : Net2 w D base (.slice none 0 0) (.slice none 0 0) Net.zero := ⟨⟨.inl rfl, fun _ => undef, ⟨none, 0, rfl, Nat.zero_le _, fun i hi => by simp [Net.zero] at hi⟩, fun i l hl => by simp [Net.zero] at hl⟩, .inl rfl, none, 0, rfl, Nat.zero_le _, fun i hi => by simp [Net.zero] at hi⟩
end Go.Proofs.YtmbifmmkccghfaaGreat
namespace Go.Proofs.YtmbifmmkccghfaaGreat
open Go.RowKit Go.Shelf
attribute [local go_sem] Oper.semAt_some
def HdAt (w : World) (B : Nat) (v : Value) (l : List Int) : Prop := SlF v ∧ Sl w B 1 l.length (fun i _ => .int .i64 (l.getD i 0)) v
def FrAt (w : World) (B : Nat) (v : Value) (l : List Bool) : Prop := SlF v ∧ Sl w B 1 l.length (fun i _ => .bool (l.getD i false)) v
theorem Sl.one {w : World} {B n c N : Nat} {g : Nat → Nat → Value} {A : Option Addr} (h : Sl w B 1 n g (.slice A N c)) {k : Nat} (hk : k < n) : ∃ b off, A = some ⟨b, off, none⟩ ∧ b < B ∧ w.cell? ⟨b, off + k, none⟩ = some (g k 0) := by
  obtain ⟨A', c', hv, _, h1⟩ := h
  cases hv
  obtain ⟨b, off, rfl, hb, h3⟩ := h1 k hk
  have := h3 0 (by omega)
  rw [Nat.mul_one, Nat.add_zero] at this
  exact ⟨b, off, rfl, hb, this⟩
theorem Sl.form3 {w : World} {B size n : Nat} {g : Nat → Nat → Value} {v : Value} (h : Sl w B size n g v) : ∃ A c, v = .slice A n c ∧ n ≤ maxLen := by
  obtain ⟨A, c, hv, hn, _⟩ := h
  exact ⟨A, c, hv, hn⟩
theorem wrapO {x : Int} (h1 : -9223372036854775808 ≤ x) (h2 : x ≤ 9223372036854775807) : IntKind.i64.wrap x = x := by
  rw [IntKind.wrap_i64]
  omega
structure BxAt (w : World) (B : Nat) (Vq Va Vs Vh Vf : Value) (b : Bx) : Prop where
  net : NetAt w B Vq Va b.net
  sent : LksAt w B Vs b.sent
  heard : HdAt w B Vh b.heard
  fresh : FrAt w B Vf b.fresh
section
variable {w w' : World} {B B' : Nat} {Vq Va Vs Vh Vf : Value} {b : Bx}
theorem HdAt.below {v : Value} {l : List Int} (h : HdAt w B v l) (hb : Below B w w') : HdAt w' B v l := ⟨h.1, h.2.below hb⟩
theorem HdAt.more {v : Value} {l : List Int} (h : HdAt w B v l) (hb : B ≤ B') : HdAt w B' v l := ⟨h.1, h.2.more hb⟩
theorem HdAt.later {v : Value} {l : List Int} (h : HdAt w w.heap.size v l) (hb : Below w.heap.size w w') : HdAt w' w'.heap.size v l := (h.below hb).more hb.size
theorem FrAt.below {v : Value} {l : List Bool} (h : FrAt w B v l) (hb : Below B w w') : FrAt w' B v l := ⟨h.1, h.2.below hb⟩
theorem FrAt.more {v : Value} {l : List Bool} (h : FrAt w B v l) (hb : B ≤ B') : FrAt w B' v l := ⟨h.1, h.2.more hb⟩
theorem FrAt.later {v : Value} {l : List Bool} (h : FrAt w w.heap.size v l) (hb : Below w.heap.size w w') : FrAt w' w'.heap.size v l := (h.below hb).more hb.size
theorem BxAt.below (h : BxAt w B Vq Va Vs Vh Vf b) (hb : Below B w w') : BxAt w' B Vq Va Vs Vh Vf b := ⟨h.net.below hb, h.sent.below hb, h.heard.below hb, h.fresh.below hb⟩
theorem BxAt.more (h : BxAt w B Vq Va Vs Vh Vf b) (hb : B ≤ B') : BxAt w B' Vq Va Vs Vh Vf b := ⟨h.net.more hb, h.sent.more hb, h.heard.more hb, h.fresh.more hb⟩
theorem BxAt.later (h : BxAt w w.heap.size Vq Va Vs Vh Vf b) (hb : Below w.heap.size w w') : BxAt w' w'.heap.size Vq Va Vs Vh Vf b := (h.below hb).more hb.size
theorem hdAt_nil (w : World) (B : Nat) : HdAt w B (.slice none 0 0) [] := ⟨.inl rfl, none, 0, rfl, Nat.zero_le _, fun _ hi => absurd hi (Nat.not_lt_zero _)⟩
theorem frAt_nil (w : World) (B : Nat) : FrAt w B (.slice none 0 0) [] := ⟨.inl rfl, none, 0, rfl, Nat.zero_le _, fun _ hi => absurd hi (Nat.not_lt_zero _)⟩
theorem bxAt_zero (w : World) (B : Nat) : BxAt w B (.slice none 0 0) (.slice none 0 0) (.slice none 0 0) (.slice none 0 0) (.slice none 0 0) Bx.zero := ⟨netAt_zero w B, lksAt_nil w B, hdAt_nil w B, frAt_nil w B⟩
end
theorem oGates_any (Vq Va Vs Vh Vf : Value) (w : World) : Calls Tryz.prog 31 #[.agg #[Vq, Va, Vs, Vh, Vf]] w fun e w' =>
    e = .returned (.func (.func 58) #[] #[.pointer (some ⟨w.heap.size, 0, none⟩)]) ∧ Box w' w.heap.size [Vq, Va, Vs, Vh, Vf] ∧ Below w.heap.size w w' := by
  have hmf : ∀ (fn : Fn) (first cap : Array Value) (w : World), (Instr.makeFunc fn first cap).run Tryz.prog w = .ok (.func fn first cap) w := fun _ _ _ _ => rfl
  go_enter Tryz.func31, Tryz.ntmps31
  go_wp2
  have X0 := Box.new w [Vq, Va, Vs, Vh, Vf] 49
  have hB := (Below.refl w.heap.size w).alloc (Nat.le_refl _) (.cells #[Vq, Va, Vs, Vh, Vf] 49)
  go_ret
  exact ⟨rfl, X0, hB⟩
theorem range_pre {k n : Nat} (h : k ≤ n) : List.range k <+: List.range n := by
  rw [List.prefix_iff_eq_take, List.length_range, List.take_range]
  congr 1
  omega
theorem oGates_seq (d : Nat) (b : Bx) (n ch : Nat) (Ah : Option Addr) (Vq Va Vs Vf : Value) (Bg : Nat) (w : World) (D : Nat) (R : Nat → Prop) (hn : b.heard.length = n) (hn8 : n ≤ 8) (hh : HdAt w D (.slice Ah n ch) b.heard) (hg : Box w Bg [Vq, Va, Vs, .slice Ah n ch, Vf]) (hRg : ¬ R Bg) (hD : D ≤ w.heap.size)
    (hbd : ∀ k, k < n → -9223372036854775807 ≤ b.h k ∧ b.h k ≤ 9223372036854775807)
    (Kp : World → World → Prop) (hKp : ∀ A B, Kp A B → KeepsC D R A B) :
    SeqN Fence.wide d Tryz.prog 58 #[.pointer (some ⟨Bg, 0, none⟩)] (fun k : Nat => #[.int .i64 k, .int .i64 (b.h k - 1)]) Kp (fun xs => xs = List.range n) (fun pre => pre <+: List.range n) (fun pre k => pre = List.range k ∧ k < n) w := fun l J Jx W hW hY h0 => by
  have HY := Lib.hid hY
  have HKp := Lib.hid hKp
  have HN := Lib.hid hn
  have HBD := Lib.hid hbd
  clear hY hKp hn hbd
  have hg := hg.later hW
  have hh := hh.below (hW.mono hD)
  refine callsIn_of_wp Tryz.func58 rfl trivial ?_ rfl
  simp only [Tryz.ntmps58, List.size_toArray, List.length_cons, List.length_nil, Nat.reduceAdd, Nat.reduceSub, Array.replicate_succ, Array.replicate_zero, List.push_toArray, List.append_toArray, List.nil_append, List.cons_append]
  refine wpIn_wide.2 ?_
  have x3 : W.cell? ⟨Bg, 3, none⟩ = some (.slice Ah n ch) := hg.cell 3
  have z3 := hg.lt
  go_wp2_with fail
  clear x3 z3
  have hh := Lib.hid hh
  go_loopw [8] (fun i wr => ∃ k : Nat, k ≤ n ∧ i = .int .i64 k ∧ Box wr Bg [Vq, Va, Vs, .slice Ah n ch, Vf] ∧ Hid (HdAt wr D (.slice Ah n ch) b.heard) ∧ Hid (J (List.range k) wr)) (fun i _ => n - (intOf i).toNat)
  case atStart => exact ⟨0, by omega, rfl, hg, hh, Lib.hid h0⟩
  case round =>
    clear hg hh h0
    obtain ⟨k, hk, rfl, hg, hh, hJ0⟩ := hrel
    obtain ⟨wo, rfl⟩ : ∃ wo : World, wo = wr := ⟨_, rfl⟩
    rcases Nat.lt_or_ge k n with hlt | hge
    rotate_left
    · obtain rfl : k = n := by omega
      have hlm : ¬ ((k : Int) < (k : Int)) := by omega
      go_wp2
      go_end0
      exact ⟨⟨_, rfl⟩, .inl hJ0.out⟩
    have hlm : (k : Int) < (n : Int) := by omega
    obtain ⟨f0, t0, a0, c0, hy0, hR0⟩ := HY.out _ k wo hJ0.out ⟨rfl, hlt⟩
    rw [← List.range_succ] at hR0
    obtain ⟨bh, oh, rfl, hbh, ck⟩ := hh.out.2.one (k := k) (by rw [HN.out]; exact hlt)
    have hbd := HBD.out k hlt
    replace ck : wo.cell? ⟨bh, oh + k, none⟩ = some (.int .i64 (b.h k)) := ck
    generalize b.h k = u at ck hbd hy0 hR0
    have hw1 : IntKind.i64.wrap (u - 1) = u - 1 := wrapO (by omega) (by omega)
    have hw2 : wrap64 (u - 1) = u - 1 := by unfold wrap64; omega
    have z3 := hg.lt
    refine (wpIn_wide (n := d)).1 ?_
    gi_wp2_with fail
    refine ⟨(fun h => by cases h), hR0.mono ?_⟩
    rintro e W2 (⟨rfl, hJ3, hK⟩ | ⟨rfl, hx⟩)
    rotate_left
    · gi_wp2
      refine bodyPost_ret (results_none rfl _ _ _) rfl ?_
      exact ⟨⟨_, rfl⟩, .inr ⟨_, range_pre (by omega), hx⟩⟩
    have hKC := HKp.out _ _ hK
    have hg := hKC.box hg hRg
    have hh2 := Lib.hid (hh.out.below hKC.low)
    clear z3 hR0 hy0 hJ0 hK ck
    gi_wp2
    exact ⟨⟨k + 1, by omega, by go_num, hg, hh2, Lib.hid hJ3⟩, by simp [intOf]; omega⟩
end Go.Proofs.YtmbifmmkccghfaaGreat
namespace Go.Proofs.YtmbifmmkccghfaaGreat
open Go.RowKit
attribute [local go_sem ↓ high] app_named
theorem nCheck_at {n : Net} {Vq Va : Value} {w : World} {c : Int} (h : Hid (n.checkT = c)) (hN : NetAt w w.heap.size Vq Va n) : Calls Tryz.prog 45 #[.agg #[Vq, Va]] w fun e w' => e = .returned (.int .i64 c) ∧ Below w.heap.size w w' :=
  (nCheck_any n Vq Va w hN).mono fun _ _ ⟨he, hb⟩ => ⟨by rw [he, h.out], hb⟩
theorem nPacket_at {p : Pk} {V : Value} {w : World} {q : Bool} (h : Hid (p.okB = q)) (hV : BytesAt w w.heap.size V p.data) : Calls Tryz.prog 63 #[p.v V] w fun e w' => e = .returned (.bool q) ∧ Below w.heap.size w w' :=
  (nPacket_any p V w hV).mono fun _ _ ⟨he, hb⟩ => ⟨by rw [he, h.out], hb⟩
def RetNet (t : Net × Int) (D : Nat) (w : World) (e : Ending) (w' : World) : Prop := ∃ (Vq Va : Value) (m : Net) (er : Int), e = .returned (.tuple #[.agg #[Vq, Va], .int .i64 er]) ∧ Hid (t = (m, er)) ∧ Hid (Net2 w' D w.heap.size Vq Va m) ∧ Below w.heap.size w w'
theorem PksAt.clip {w : World} {B : Nat} {A : Option Addr} {n c : Nat} {q : List Pk} (h : PksAt w B (.slice A n c) q) : PksAt w B (.slice A n n) q ∧ (n = q.length) ∧ ((A = none ∧ n = 0 ∧ c = 0) ∨ ∃ a, A = some a) ∧ n ≤ c ∧ c ≤ maxLen := by
  obtain ⟨f, V, ⟨A', c', hv, hm, h1⟩, h2⟩ := h
  cases hv
  rcases f with h0 | ⟨a, n', c', h0, hnc, hcm⟩
  · obtain ⟨rfl, hl, rfl⟩ : A = none ∧ q.length = 0 ∧ c = 0 := by simpa using h0
    refine ⟨⟨.inl (by rw [hl]), V, ⟨none, q.length, rfl, hm, h1⟩, h2⟩, rfl, .inl ⟨rfl, hl, rfl⟩, by omega, Nat.zero_le _⟩
  · obtain ⟨rfl, hl, rfl⟩ : A = some a ∧ q.length = n' ∧ c = c' := by simpa using h0
    subst hl
    exact ⟨⟨.inr ⟨a, _, _, rfl, Nat.le_refl _, by omega⟩, V, ⟨some a, q.length, rfl, hm, h1⟩, h2⟩, rfl, .inr ⟨a, rfl⟩, hnc, hcm⟩
end Go.Proofs.YtmbifmmkccghfaaGreat
namespace Go.Proofs.YtmbifmmkccghfaaGreat
open Go.RowKit
attribute [local go_sem ↓ high] app_named
end Go.Proofs.YtmbifmmkccghfaaGreat
namespace Go.Proofs.YtmbifmmkccghfaaGreat
open Go.RowKit
def RetPk (t : Pk × Int) (D : Nat) (w : World) (e : Ending) (w' : World) : Prop := ∃ (V : Value) (p : Pk) (er : Int), e = .returned (.tuple #[p.v V, .int .i64 er]) ∧ Hid (t = (p, er)) ∧ Hid (BytesAt w' D V p.data) ∧ Below w.heap.size w w'
def atT (n : Net) (i : Int) : Pk × Int := if askTN n i = 0 then (n.pk i, 0) else (Pk.zero, askTN n i)
theorem Net.pk_at {n : Net} {k : Nat} (h : k < n.queue.length) : n.pk (k : Int) = n.queue[k] := by
  rw [Net.pk, Int.toNat_natCast, List.getD_eq_getElem?_getD, List.getElem?_eq_getElem h]
  rfl
theorem nAt_1 (n : Net) (Aq : Option Addr) (nq cq : Nat) (Aa : Option Addr) (na ca : Nat) (i : Int) (w : World) (D : Nat) (hDw : D ≤ w.heap.size) (hN : Hid (NetAt w D (.slice Aq nq cq) (.slice Aa na ca) n)) (h : Hid (n.checkT = 60)) (hs : Hid (atT n i = (Pk.zero, 60))) : Calls Tryz.prog 65 #[.agg #[.slice Aq nq cq, .slice Aa na ca], .int .i64 i] w (RetPk (atT n i) D w) := by
  have HB0 : Below w.heap.size w ((w.alloc (.cells #[.slice Aq nq cq, .slice Aa na ca] 44)).alloc (.cells #[.int .i64 0, .int .i64 0, .slice none 0 0] 93)) := (((Below.refl w.heap.size w).alloc (by simp <;> omega) (.cells #[.slice Aq nq cq, .slice Aa na ca] 44)).alloc (by simp <;> omega) (.cells #[.int .i64 0, .int .i64 0, .slice none 0 0] 93))
  have HNB := Lib.hid (((hN.out.more hDw).below HB0).more HB0.size)
  go_enter Tryz.func65, Tryz.ntmps65
  go_wp2_with fail
  refine (nCheck_at h HNB.out).mono ?_
  rintro e w1 ⟨rfl, hb⟩
  have X0 := (((Box.newAt (n := w.heap.size) [.slice Aq nq cq, .slice Aa na ca] 44 (by simp)).alloc _)).later hb
  have R := ((Box.newAt (n := w.heap.size + 1) [.int .i64 0, .int .i64 0, .slice none 0 0] 93 (by simp))).later hb
  have hB : Below w.heap.size w w1 := ((((Below.refl w.heap.size w).alloc (by simp <;> omega) _).alloc (by simp <;> omega) _)).trans (hb.mono (by simp <;> omega))
  clear hb
  obtain ⟨Rc0, Rf0, Rc1, Rf1, Rc2, Rf2⟩ := R.f3
  have Rz : w.heap.size + 1 < w1.heap.size := R.lt
  have hle : w.heap.size ≤ w.heap.size + 1 := by omega
  have hres := hs
  go_wp2
  have hY := (((R.set 0 (.int .i64 0)).set 1 (.int .i64 0)).set 2 (.slice none 0 0))
  have hB := (((hB.setCell (p := ⟨w.heap.size + 1, 0, none⟩) (by simp <;> omega) (.int .i64 0)).setCell (p := ⟨w.heap.size + 1, 1, none⟩) (by simp <;> omega) (.int .i64 0)).setCell (p := ⟨w.heap.size + 1, 2, none⟩) (by simp <;> omega) (.slice none 0 0))
  generalize (((w1.setCell ⟨w.heap.size + 1, 0, none⟩ (.int .i64 0)).setCell ⟨w.heap.size + 1, 1, none⟩ (.int .i64 0)).setCell ⟨w.heap.size + 1, 2, none⟩ (.slice none 0 0)) = W at hY hB ⊢
  obtain ⟨y0, y1, y2⟩ := hY.c3
  refine bodyPost_ret (v := .tuple #[.agg #[.int .i64 0, .int .i64 0, .slice none 0 0], .int .i64 60]) (by simp [results, Tryz.results65, go_sem, y0, y1, y2]) rfl ?_
  exact ⟨_, Pk.zero, 60, rfl, hres, bytesAt_nil _ _, hB⟩
theorem nAt_2 (n : Net) (Aq : Option Addr) (nq cq : Nat) (Aa : Option Addr) (na ca : Nat) (i : Int) (w : World) (D : Nat) (hDw : D ≤ w.heap.size) (hN : Hid (NetAt w D (.slice Aq nq cq) (.slice Aa na ca) n)) (h : Hid (n.checkT = 0)) (_hi : i < 0) (hs : Hid (atT n i = (Pk.zero, 1))) : Calls Tryz.prog 65 #[.agg #[.slice Aq nq cq, .slice Aa na ca], .int .i64 i] w (RetPk (atT n i) D w) := by
  have HB0 : Below w.heap.size w ((w.alloc (.cells #[.slice Aq nq cq, .slice Aa na ca] 44)).alloc (.cells #[.int .i64 0, .int .i64 0, .slice none 0 0] 93)) := (((Below.refl w.heap.size w).alloc (by simp <;> omega) (.cells #[.slice Aq nq cq, .slice Aa na ca] 44)).alloc (by simp <;> omega) (.cells #[.int .i64 0, .int .i64 0, .slice none 0 0] 93))
  have HNB := Lib.hid (((hN.out.more hDw).below HB0).more HB0.size)
  go_enter Tryz.func65, Tryz.ntmps65
  go_wp2_with fail
  refine (nCheck_at h HNB.out).mono ?_
  rintro e w1 ⟨rfl, hb⟩
  have X0 := (((Box.newAt (n := w.heap.size) [.slice Aq nq cq, .slice Aa na ca] 44 (by simp)).alloc _)).later hb
  have R := ((Box.newAt (n := w.heap.size + 1) [.int .i64 0, .int .i64 0, .slice none 0 0] 93 (by simp))).later hb
  have hB : Below w.heap.size w w1 := ((((Below.refl w.heap.size w).alloc (by simp <;> omega) _).alloc (by simp <;> omega) _)).trans (hb.mono (by simp <;> omega))
  clear hb
  obtain ⟨X0c0, X0f0, X0c1, X0f1⟩ := X0.f2
  have X0z : w.heap.size < w1.heap.size := X0.lt
  obtain ⟨Rc0, Rf0, Rc1, Rf1, Rc2, Rf2⟩ := R.f3
  have Rz : w.heap.size + 1 < w1.heap.size := R.lt
  have hle : w.heap.size ≤ w.heap.size + 1 := by omega
  have hres := hs
  go_wp2
  have hY := (((R.set 0 (.int .i64 0)).set 1 (.int .i64 0)).set 2 (.slice none 0 0))
  have hB := (((hB.setCell (p := ⟨w.heap.size + 1, 0, none⟩) (by simp <;> omega) (.int .i64 0)).setCell (p := ⟨w.heap.size + 1, 1, none⟩) (by simp <;> omega) (.int .i64 0)).setCell (p := ⟨w.heap.size + 1, 2, none⟩) (by simp <;> omega) (.slice none 0 0))
  generalize (((w1.setCell ⟨w.heap.size + 1, 0, none⟩ (.int .i64 0)).setCell ⟨w.heap.size + 1, 1, none⟩ (.int .i64 0)).setCell ⟨w.heap.size + 1, 2, none⟩ (.slice none 0 0)) = W at hY hB ⊢
  obtain ⟨y0, y1, y2⟩ := hY.c3
  refine bodyPost_ret (v := .tuple #[.agg #[.int .i64 0, .int .i64 0, .slice none 0 0], .int .i64 1]) (by simp [results, Tryz.results65, go_sem, y0, y1, y2]) rfl ?_
  exact ⟨_, Pk.zero, 1, rfl, hres, bytesAt_nil _ _, hB⟩
theorem nAt_3 (n : Net) (Aq : Option Addr) (nq cq : Nat) (Aa : Option Addr) (na ca : Nat) (i : Int) (w : World) (D : Nat) (hDw : D ≤ w.heap.size) (hN : Hid (NetAt w D (.slice Aq nq cq) (.slice Aa na ca) n)) (h : Hid (n.checkT = 0)) (_hi : 0 ≤ i) (_hl : (nq : Int) ≤ i) (hs : Hid (atT n i = (Pk.zero, 1))) : Calls Tryz.prog 65 #[.agg #[.slice Aq nq cq, .slice Aa na ca], .int .i64 i] w (RetPk (atT n i) D w) := by
  have HB0 : Below w.heap.size w ((w.alloc (.cells #[.slice Aq nq cq, .slice Aa na ca] 44)).alloc (.cells #[.int .i64 0, .int .i64 0, .slice none 0 0] 93)) := (((Below.refl w.heap.size w).alloc (by simp <;> omega) (.cells #[.slice Aq nq cq, .slice Aa na ca] 44)).alloc (by simp <;> omega) (.cells #[.int .i64 0, .int .i64 0, .slice none 0 0] 93))
  have HNB := Lib.hid (((hN.out.more hDw).below HB0).more HB0.size)
  go_enter Tryz.func65, Tryz.ntmps65
  go_wp2_with fail
  refine (nCheck_at h HNB.out).mono ?_
  rintro e w1 ⟨rfl, hb⟩
  have X0 := (((Box.newAt (n := w.heap.size) [.slice Aq nq cq, .slice Aa na ca] 44 (by simp)).alloc _)).later hb
  have R := ((Box.newAt (n := w.heap.size + 1) [.int .i64 0, .int .i64 0, .slice none 0 0] 93 (by simp))).later hb
  have hB : Below w.heap.size w w1 := ((((Below.refl w.heap.size w).alloc (by simp <;> omega) _).alloc (by simp <;> omega) _)).trans (hb.mono (by simp <;> omega))
  clear hb
  obtain ⟨X0c0, X0f0, X0c1, X0f1⟩ := X0.f2
  have X0z : w.heap.size < w1.heap.size := X0.lt
  obtain ⟨Rc0, Rf0, Rc1, Rf1, Rc2, Rf2⟩ := R.f3
  have Rz : w.heap.size + 1 < w1.heap.size := R.lt
  have hle : w.heap.size ≤ w.heap.size + 1 := by omega
  have hres := hs
  go_wp2
  have hY := (((R.set 0 (.int .i64 0)).set 1 (.int .i64 0)).set 2 (.slice none 0 0))
  have hB := (((hB.setCell (p := ⟨w.heap.size + 1, 0, none⟩) (by simp <;> omega) (.int .i64 0)).setCell (p := ⟨w.heap.size + 1, 1, none⟩) (by simp <;> omega) (.int .i64 0)).setCell (p := ⟨w.heap.size + 1, 2, none⟩) (by simp <;> omega) (.slice none 0 0))
  generalize (((w1.setCell ⟨w.heap.size + 1, 0, none⟩ (.int .i64 0)).setCell ⟨w.heap.size + 1, 1, none⟩ (.int .i64 0)).setCell ⟨w.heap.size + 1, 2, none⟩ (.slice none 0 0)) = W at hY hB ⊢
  obtain ⟨y0, y1, y2⟩ := hY.c3
  refine bodyPost_ret (v := .tuple #[.agg #[.int .i64 0, .int .i64 0, .slice none 0 0], .int .i64 1]) (by simp [results, Tryz.results65, go_sem, y0, y1, y2]) rfl ?_
  exact ⟨_, Pk.zero, 1, rfl, hres, bytesAt_nil _ _, hB⟩
theorem nAt_4 (n : Net) (Aq : Option Addr) (nq cq : Nat) (Aa : Option Addr) (na ca : Nat) (i : Int) (w : World) (D : Nat) (hDw : D ≤ w.heap.size) (hN : Hid (NetAt w D (.slice Aq nq cq) (.slice Aa na ca) n)) (k : Nat) (_hk : i = (k : Int)) (hkn : k < nq) (h : Hid (n.checkT = 0)) (hnq : Hid (n.queue.length = nq)) (_hm : nq ≤ 9223372036854775807) : Calls Tryz.prog 65 #[.agg #[.slice Aq nq cq, .slice Aa na ca], .int .i64 i] w (RetPk (atT n i) D w) := by
  subst _hk
  have hkl : k < n.queue.length := by rw [hnq.out]; exact hkn
  have hs : Hid (atT n (k : Int) = (n.queue[k], 0)) := by
    have hok : askTN n (k : Int) = 0 := by
      have hh := h.out
      rw [Net.checkT] at hh
      rw [askTN, if_pos (by by_cases hx : n.okB = true; exact hx; rw [if_neg hx] at hh; omega), if_pos ⟨by omega, by omega⟩]
    rw [Hid, atT, if_pos hok, Net.pk_at hkl]
  obtain ⟨b, off, V, rfl, hbw, q0, q1, q2, hV⟩ := hN.out.queue.pk hkl
  obtain ⟨Ad, cd, rfl, _⟩ := hV.form
  obtain ⟨dl, hdl⟩ : ∃ dl, (n.queue[k]).data.length = dl := ⟨_, rfl⟩
  rw [hdl] at q2 hV
  obtain ⟨y, hy⟩ : ∃ y, n.queue[k] = y := ⟨_, rfl⟩
  rw [hy] at q0 q1 hV hs
  have HV := Lib.hid hV
  have Q0 := Lib.hid q0
  have Q1 := Lib.hid q1
  have Q2 := Lib.hid q2
  clear hdl hy hV q0 q1 q2
  have HB0 : Below w.heap.size w ((w.alloc (.cells #[.slice (some ⟨b, off, none⟩) nq cq, .slice Aa na ca] 44)).alloc (.cells #[.int .i64 0, .int .i64 0, .slice none 0 0] 93)) := (((Below.refl w.heap.size w).alloc (by simp <;> omega) (.cells #[.slice (some ⟨b, off, none⟩) nq cq, .slice Aa na ca] 44)).alloc (by simp <;> omega) (.cells #[.int .i64 0, .int .i64 0, .slice none 0 0] 93))
  have HNB := Lib.hid (((hN.out.more hDw).below HB0).more HB0.size)
  go_enter Tryz.func65, Tryz.ntmps65
  go_wp2_with fail
  refine (nCheck_at h HNB.out).mono ?_
  rintro e w1 ⟨rfl, hb⟩
  have X0 := (((Box.newAt (n := w.heap.size) [.slice (some ⟨b, off, none⟩) nq cq, .slice Aa na ca] 44 (by simp)).alloc _)).later hb
  have R := ((Box.newAt (n := w.heap.size + 1) [.int .i64 0, .int .i64 0, .slice none 0 0] 93 (by simp))).later hb
  have hB : Below w.heap.size w w1 := ((((Below.refl w.heap.size w).alloc (by simp <;> omega) _).alloc (by simp <;> omega) _)).trans (hb.mono (by simp <;> omega))
  clear hb
  have hbv := Nat.lt_of_lt_of_le hbw hDw
  have q0 := (hB.cell hbv).trans Q0.out
  have q1 := (hB.cell hbv).trans Q1.out
  have q2 := (hB.cell hbv).trans Q2.out
  have hbz : b < w1.heap.size := by have := hB.size; omega
  obtain ⟨X0c0, X0f0, X0c1, X0f1⟩ := X0.f2
  have X0z : w.heap.size < w1.heap.size := X0.lt
  obtain ⟨Rc0, Rf0, Rc1, Rf1, Rc2, Rf2⟩ := R.f3
  have Rz : w.heap.size + 1 < w1.heap.size := R.lt
  have hle : w.heap.size ≤ w.heap.size + 1 := by omega
  have hres := hs
  go_wp2
  have hY := (((R.set 0 (.int .i64 y.src)).set 1 (.int .i64 y.dst)).set 2 (.slice Ad dl cd))
  have hB := (((hB.setCell (p := ⟨w.heap.size + 1, 0, none⟩) (by simp <;> omega) (.int .i64 y.src)).setCell (p := ⟨w.heap.size + 1, 1, none⟩) (by simp <;> omega) (.int .i64 y.dst)).setCell (p := ⟨w.heap.size + 1, 2, none⟩) (by simp <;> omega) (.slice Ad dl cd))
  generalize (((w1.setCell ⟨w.heap.size + 1, 0, none⟩ (.int .i64 y.src)).setCell ⟨w.heap.size + 1, 1, none⟩ (.int .i64 y.dst)).setCell ⟨w.heap.size + 1, 2, none⟩ (.slice Ad dl cd)) = W at hY hB ⊢
  obtain ⟨y0, y1, y2⟩ := hY.c3
  refine bodyPost_ret (v := .tuple #[.agg #[.int .i64 y.src, .int .i64 y.dst, .slice Ad dl cd], .int .i64 0]) (by simp [results, Tryz.results65, go_sem, y0, y1, y2]) rfl ?_
  exact ⟨_, y, 0, rfl, hres, HV.out.below (hB.mono hDw), hB⟩
theorem nAt_any (n : Net) (Vq Va : Value) (i : Int) (w : World) (D : Nat) (hDw : D ≤ w.heap.size) (hN : NetAt w D Vq Va n) : Calls Tryz.prog 65 #[.agg #[Vq, Va], .int .i64 i] w (RetPk (atT n i) D w) := by
  obtain ⟨Aq, cq, rfl, hmq⟩ := hN.queue.form
  obtain ⟨Aa, ca, rfl, _⟩ := hN.apart.form
  rcases h : n.okB with _ | _
  · have ha : askTN n i = 60 := by rw [askTN, h]; rfl
    exact nAt_1 n Aq _ cq Aa _ ca i w D hDw hN (check_bad h) (by rw [Hid, atT, ha]; rfl)
  · by_cases hi : 0 ≤ i ∧ i < (n.queue.length : Int)
    · obtain ⟨k, rfl⟩ := Int.eq_ofNat_of_zero_le hi.1
      exact nAt_4 n Aq _ cq Aa _ ca _ w D hDw hN k rfl (by omega) (check_good h) rfl (by unfold maxLen at hmq; omega)
    · have ha : askTN n i = 1 := by rw [askTN, h, if_pos rfl, if_neg hi]
      have hs : Hid (atT n i = (Pk.zero, 1)) := by rw [Hid, atT, ha]; rfl
      by_cases h0 : i < 0
      · exact nAt_2 n Aq _ cq Aa _ ca i w D hDw hN (check_good h) h0 hs
      · exact nAt_3 n Aq _ cq Aa _ ca i w D hDw hN (check_good h) (by omega) (by omega) hs
end Go.Proofs.YtmbifmmkccghfaaGreat
namespace Go.Proofs.YtmbifmmkccghfaaGreat
open Go.RowKit
attribute [local go_sem ↓ high] app_named
theorem PksAt.take {w : World} {B b off n c k : Nat} {q : List Pk} (h : PksAt w B (.slice (some ⟨b, off, none⟩) n c) q) (hk : k ≤ q.length) (hc : k ≤ maxLen) : PksAt w B (.slice (some ⟨b, off, none⟩) k k) (q.take k) := by
  obtain ⟨f, V, ⟨A', c', hv, hm, h1⟩, h2⟩ := h
  cases hv
  have hl : (q.take k).length = k := by simp; omega
  refine ⟨.inr ⟨_, _, _, rfl, Nat.le_refl _, hc⟩, V, ⟨some ⟨b, off, none⟩, k, by rw [hl], by rw [hl]; exact hc, fun i hi => ?_⟩, fun i p hp => h2 i p ?_⟩
  · rw [hl] at hi
    obtain ⟨b', off', e, hb, h3⟩ := h1 i (by omega)
    refine ⟨b', off', e, hb, fun j hj => ?_⟩
    rw [h3 j hj]
    simp only [pkCells, List.getD_eq_getElem?_getD, List.getElem?_take_of_lt hi]
  · have hi : i < k := by
      have := (List.getElem?_eq_some_iff.1 hp).1
      omega
    rw [List.getElem?_take_of_lt hi] at hp
    exact hp
theorem PksAt.head {w : World} {B b off n c k c2 : Nat} {q : List Pk} (h : PksAt w B (.slice (some ⟨b, off, none⟩) n c) q) (hk : k ≤ q.length) (h1 : k ≤ c2) (h2 : c2 ≤ maxLen) : PksAt w B (.slice (some ⟨b, off, none⟩) k c2) (q.take k) := by
  obtain ⟨f, V, ⟨A', c', hv, hm, h3⟩, h4⟩ := h.take hk (Nat.le_trans h1 h2)
  have hl : (q.take k).length = k := by simp; omega
  obtain ⟨rfl, _, rfl⟩ : A' = some ⟨b, off, none⟩ ∧ k = (q.take k).length ∧ k = c' := by simpa [eq_comm] using hv
  exact ⟨.inr ⟨_, _, _, rfl, h1, h2⟩, V, ⟨some ⟨b, off, none⟩, c2, by rw [hl], hm, h3⟩, h4⟩
theorem PksAt.drop {w : World} {B b off n c k : Nat} {q : List Pk} (h : PksAt w B (.slice (some ⟨b, off, none⟩) n c) q) (hk : k ≤ q.length) (hc : q.length ≤ c) (hcm : c ≤ maxLen) : PksAt w B (.slice (some ⟨b, off + k * 3, none⟩) (q.length - k) (c - k)) (q.drop k) := by
  obtain ⟨f, V, ⟨A', c', hv, hm, h1⟩, h2⟩ := h
  cases hv
  have hl : (q.drop k).length = q.length - k := by simp
  refine ⟨.inr ⟨_, _, _, rfl, by omega, by omega⟩, fun i => V (k + i), ⟨some ⟨b, off + k * 3, none⟩, c - k, by rw [hl], by rw [hl]; omega, fun i hi => ?_⟩, fun i p hp => h2 (k + i) p ?_⟩
  · rw [hl] at hi
    obtain ⟨b', off', e, hb, h3⟩ := h1 (k + i) (by omega)
    cases e
    refine ⟨b, off + k * 3, rfl, hb, fun j hj => ?_⟩
    have := h3 j hj
    rw [show off + k * 3 + (i * 3 + j) = off + ((k + i) * 3 + j) by omega, this]
    simp only [pkCells, List.getD_eq_getElem?_getD, List.getElem?_drop]
  · rw [List.getElem?_drop] at hp
    exact hp
theorem PksAt.none_left {w : World} {B b off n c : Nat} {q : List Pk} (_h : PksAt w B (.slice (some ⟨b, off, none⟩) n c) q) : PksAt w B (.slice (some ⟨b, off, none⟩) 0 0) [] :=
  ⟨.inr ⟨_, _, _, rfl, Nat.le_refl _, Nat.zero_le _⟩, fun _ => undef, ⟨_, _, rfl, Nat.zero_le _, fun i hi => by simp at hi⟩, fun i p hp => by simp at hp⟩
theorem PksAt.addr {w : World} {B n c k : Nat} {A : Option Addr} {q : List Pk} (h : PksAt w B (.slice A n c) q) (hk : k < q.length) : ∃ b off, A = some ⟨b, off, none⟩ := by
  obtain ⟨f, V, ⟨A', c', hv, hm, h1⟩, h2⟩ := h
  cases hv
  obtain ⟨b, off, e, _⟩ := h1 k hk
  exact ⟨b, off, e⟩
def RetN1 (t : Net) (D : Nat) (w : World) (e : Ending) (w' : World) : Prop := ∃ (Vq Va : Value), e = .returned (.agg #[Vq, Va]) ∧ Hid (Net2 w' D w.heap.size Vq Va t) ∧ Below w.heap.size w w'
end Go.Proofs.YtmbifmmkccghfaaGreat
