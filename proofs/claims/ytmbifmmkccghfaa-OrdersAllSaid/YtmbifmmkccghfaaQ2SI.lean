/- OrdersAll. (Printed by gen_si.py and pp.py.) No condition. -/
import Derived.Test.YtmbifmmkccghfaaQ2SD
set_option linter.unusedVariables false
set_option linter.unusedSimpArgs false
namespace Go.Proofs.Ytmbifmmkccghfaa
open Go.RowKit Go.Shelf
attribute [local go_sem] Oper.semAt_some
attribute [local go_sem ↓ high] eq_pair

theorem RetDone.sl {b : Bx} {w w' : World} {e : Ending} (h : RetDone b w e w') : ∃ (x : Bx), ∃ Aq nq cq Aa na ca As ns cs Ah nh ch Af nf cf, Hid (Done b x) ∧ e = .returned (.tuple #[.agg #[.slice Aq nq cq, .slice Aa na ca, .slice As ns cs, .slice Ah nh ch, .slice Af nf cf], .bool true]) ∧ Hid (BxAt w' w'.heap.size (.slice Aq nq cq) (.slice Aa na ca) (.slice As ns cs) (.slice Ah nh ch) (.slice Af nf cf) x) ∧ Below w.heap.size w w' := by
  obtain ⟨x, Vq, Va, Vs, Vh, Vf, hD, he, hX, hb⟩ := h
  obtain ⟨Aq, nq, cq, Aa, na, ca, As, ns, cs, Ah, nh, ch, Af, nf, cf, rfl, rfl, rfl, rfl, rfl⟩ := hX.forms5
  exact ⟨x, Aq, nq, cq, Aa, na, ca, As, ns, cs, Ah, nh, ch, Af, nf, cf, hD, he, Lib.hid hX, hb⟩
def cutP (ap : List (Int × Int)) (g j : Nat) : Bool := (ap.take j).any fun x => decide (x = (0, (g : Int) + 1))
theorem cutP_succ {ap : List (Int × Int)} {g j : Nat} (h : j < ap.length) : cutP ap g (j + 1) = (cutP ap g j || (decide ((ap.getD j (0, 0)).1 = 0) && decide ((ap.getD j (0, 0)).2 = (g : Int) + 1))) := by
  rw [cutP, cutP, List.take_succ_eq_append_getElem h, List.any_append, gd_at h]
  congr 1
  simp only [List.any_cons, List.any_nil, Bool.or_false]
  obtain ⟨a, c⟩ := ap[j]
  rw [Bool.eq_iff_iff]
  simp
theorem cutP_all (ap : List (Int × Int)) (g : Nat) : cutP ap g ap.length = cutG ap g := by rw [cutP, List.take_length, cutG]
def Bx.thereP (b : Bx) (g j : Nat) : Bool := decide (b.h g = lastI b.sent g b.sent.length) || (b.net.queue.take j).any fun p => bears (lastI b.sent g b.sent.length) p && !cutG b.net.apart g
theorem thereP_succ {b : Bx} {g j : Nat} (h : j < b.net.queue.length) : b.thereP g (j + 1) = (b.thereP g j || (bears (lastI b.sent g b.sent.length) b.net.queue[j] && !cutG b.net.apart g)) := by
  rw [Bx.thereP, Bx.thereP, List.take_succ_eq_append_getElem h, List.any_append, Bool.or_assoc]
  congr 2
  simp
theorem thereP_all (b : Bx) (g : Nat) : b.thereP g b.net.queue.length = b.thereB g := by rw [Bx.thereP, List.take_length, Bx.thereB]
theorem bears_some {last n o : Int} {p : Pk} (h : readT p.data = some (n, o)) : bears last p = decide (n + 1 = last) := by rw [bears, h]
set_option maxRecDepth 100000 in
set_option maxHeartbeats 8000000 in
theorem law_All_go (b : Bx) (Aq : Option Addr) (nq cq : Nat) (Aa : Option Addr) (na ca : Nat) (As : Option Addr) (ns cs : Nat) (Ah : Option Addr) (nh ch : Nat) (Af : Option Addr) (nf cf : Nat) (A1 : Option Addr) (n1 c1 : Nat) (t1 : List UInt8) (A2 : Option Addr) (n2 c2 : Nat) (t2 : List UInt8) (ag : Int) (w : World) (hX : Hid (BxAt w w.heap.size (.slice Aq nq cq) (.slice Aa na ca) (.slice As ns cs) (.slice Ah nh ch) (.slice Af nf cf) b)) (hV1 : Hid (BytesAt w w.heap.size (.slice A1 n1 c1) t1)) (hV2 : Hid (BytesAt w w.heap.size (.slice A2 n2 c2) t2)) (hag : 0 ≤ ag ∧ ag ≤ 255) :
    Calls Try.prog 5 #[.agg #[.slice Aq nq cq, .slice Aa na ca, .slice As ns cs, .slice Ah nh ch, .slice Af nf cf], .slice A1 n1 c1, .slice A2 n2 c2, .int .u8 ag] w fun e w' => e = .returned (.bool true) ∧ Below w.heap.size w w' := by
  have hB := Below.refl w.heap.size w
  obtain ⟨l1, l2, l3, l4, l5, m1, m2, m3, m4, m5⟩ := hX.out.lens
  obtain ⟨f, hf⟩ : ∃ f, b.fewB = f := ⟨_, rfl⟩
  replace hf := Lib.hid hf
  go_enter Try.func5, Try.ntmps5
  go_wp2_with fail
  have hb := (Below.refl w.heap.size w).alloc (Nat.le_refl _) (.cells #[.slice Aq nq cq, .slice Aa na ca, .slice As ns cs, .slice Ah nh ch, .slice Af nf cf] 30)
  have XB := Box.new w [.slice Aq nq cq, .slice Aa na ca, .slice As ns cs, .slice Ah nh ch, .slice Af nf cf] 30
  replace hX := hid_bx hX hb
  replace hV1 := hid_by hV1 hb
  replace hV2 := hid_by hV2 hb
  replace hB := hB.trans (hb.mono hB.size)
  clear hb
  generalize w.alloc (.cells #[.slice Aq nq cq, .slice Aa na ca, .slice As ns cs, .slice Ah nh ch, .slice Af nf cf] 30) = w1 at XB hX hV1 hV2 hB ⊢
  refine (oSane_any _).mono ?_
  rintro e w2 ⟨rfl, hb⟩
  replace XB := XB.later hb
  replace hX := hid_bx hX hb
  replace hV1 := hid_by hV1 hb
  replace hV2 := hid_by hV2 hb
  replace hB := hB.trans (hb.mono hB.size)
  clear hb
  have XBc0 : w2.cell? ⟨w.heap.size, 0, none⟩ = some (.slice Aq nq cq) := XB.cell 0
  have XBc1 : w2.cell? ⟨w.heap.size, 1, none⟩ = some (.slice Aa na ca) := XB.cell 1
  have XBc2 : w2.cell? ⟨w.heap.size, 2, none⟩ = some (.slice As ns cs) := XB.cell 2
  have XBc3 : w2.cell? ⟨w.heap.size, 3, none⟩ = some (.slice Ah nh ch) := XB.cell 3
  have XBc4 : w2.cell? ⟨w.heap.size, 4, none⟩ = some (.slice Af nf cf) := XB.cell 4
  have XBz := XB.lt
  go_wp2_with fail
  clear XBc0 XBc1 XBc2 XBc3 XBc4 XBz
  refine (oRFew_is b hX hf).mono ?_
  rintro e w3 ⟨rfl, hb⟩
  replace XB := XB.later hb
  replace hX := hid_bx hX hb
  replace hV1 := hid_by hV1 hb
  replace hV2 := hid_by hV2 hb
  replace hB := hB.trans (hb.mono hB.size)
  clear hb
  cases f with
  | false =>
    go_wp2
    go_ret
    exact ⟨rfl, hB⟩
  | true =>
  obtain ⟨hq40, hn20⟩ : nq ≤ 40 ∧ nh ≤ 20 := by
    have h9 := hf.out
    simp only [Bx.fewB, fewN, Bool.and_eq_true, decide_eq_true_eq] at h9
    omega
  obtain ⟨ck, hck⟩ : ∃ ck, b.checkT = ck := ⟨_, rfl⟩
  replace hck := Lib.hid hck
  have XBc0 : w3.cell? ⟨w.heap.size, 0, none⟩ = some (.slice Aq nq cq) := XB.cell 0
  have XBc1 : w3.cell? ⟨w.heap.size, 1, none⟩ = some (.slice Aa na ca) := XB.cell 1
  have XBc2 : w3.cell? ⟨w.heap.size, 2, none⟩ = some (.slice As ns cs) := XB.cell 2
  have XBc3 : w3.cell? ⟨w.heap.size, 3, none⟩ = some (.slice Ah nh ch) := XB.cell 3
  have XBc4 : w3.cell? ⟨w.heap.size, 4, none⟩ = some (.slice Af nf cf) := XB.cell 4
  have XBz := XB.lt
  go_wp2_with fail
  clear XBc0 XBc1 XBc2 XBc3 XBc4 XBz
  refine (oCheck_is hck hX.out).mono ?_
  rintro e w4 ⟨rfl, hb⟩
  replace XB := XB.later hb
  replace hX := hid_bx hX hb
  replace hV1 := hid_by hV1 hb
  replace hV2 := hid_by hV2 hb
  replace hB := hB.trans (hb.mono hB.size)
  clear hb
  by_cases hc0 : ck = 0
  rotate_left
  · have e0 : (ck != 0) = true := by simp [hc0]
    go_wp2
    go_ret
    exact ⟨rfl, hB⟩
  subst hc0
  have hok : Hid (b.okB = true) := by
    have h9 := hck.out
    unfold Bx.checkT at h9
    split at h9
    · next h8 => exact h8
    · cases h9
  clear hck
  have XBc0 : w4.cell? ⟨w.heap.size, 0, none⟩ = some (.slice Aq nq cq) := XB.cell 0
  have XBc1 : w4.cell? ⟨w.heap.size, 1, none⟩ = some (.slice Aa na ca) := XB.cell 1
  have XBc2 : w4.cell? ⟨w.heap.size, 2, none⟩ = some (.slice As ns cs) := XB.cell 2
  have XBc3 : w4.cell? ⟨w.heap.size, 3, none⟩ = some (.slice Ah nh ch) := XB.cell 3
  have XBc4 : w4.cell? ⟨w.heap.size, 4, none⟩ = some (.slice Af nf cf) := XB.cell 4
  have XBz := XB.lt
  go_wp2_with fail
  clear XBc0 XBc1 XBc2 XBc3 XBc4 XBz
  refine (oDeliverAll_any b _ _ _ _ _ _ _ _ _ _ _ _ _ _ _ _ _ _ t1 _ hX hV1 hok).mono ?_
  rintro e w5 hh
  obtain ⟨x, Aqx, nqx, cqx, Aax, nax, cax, Asx, nsx, csx, Ahx, nhx, chx, Afx, nfx, cfx, hDx, rfl, hXx, hb⟩ := hh.sl
  replace XB := XB.later hb
  replace hX := hid_bx hX hb
  replace hV1 := hid_by hV1 hb
  replace hV2 := hid_by hV2 hb
  replace hB := hB.trans (hb.mono hB.size)
  clear hb
  have XBc0 : w5.cell? ⟨w.heap.size, 0, none⟩ = some (.slice Aq nq cq) := XB.cell 0
  have XBc1 : w5.cell? ⟨w.heap.size, 1, none⟩ = some (.slice Aa na ca) := XB.cell 1
  have XBc2 : w5.cell? ⟨w.heap.size, 2, none⟩ = some (.slice As ns cs) := XB.cell 2
  have XBc3 : w5.cell? ⟨w.heap.size, 3, none⟩ = some (.slice Ah nh ch) := XB.cell 3
  have XBc4 : w5.cell? ⟨w.heap.size, 4, none⟩ = some (.slice Af nf cf) := XB.cell 4
  have XBz := XB.lt
  go_wp2_with fail
  clear XBc0 XBc1 XBc2 XBc3 XBc4 XBz
  have hb := (Below.refl w5.heap.size w5).alloc (Nat.le_refl _) (.cells #[.slice Aqx nqx cqx, .slice Aax nax cax, .slice Asx nsx csx, .slice Ahx nhx chx, .slice Afx nfx cfx] 30)
  have X9 := Box.new w5 [.slice Aqx nqx cqx, .slice Aax nax cax, .slice Asx nsx csx, .slice Ahx nhx chx, .slice Afx nfx cfx] 30
  replace XB := XB.later hb
  replace hX := hid_bx hX hb
  replace hV1 := hid_by hV1 hb
  replace hV2 := hid_by hV2 hb
  replace hXx := hid_bx hXx hb
  replace hB := hB.trans (hb.mono hB.size)
  clear hb
  generalize w5.alloc (.cells #[.slice Aqx nqx cqx, .slice Aax nax cax, .slice Asx nsx csx, .slice Ahx nhx chx, .slice Afx nfx cfx] 30) = w6 at XB X9 hX hV1 hV2 hXx hB ⊢
  generalize w5.heap.size = G9 at X9 ⊢
  refine (oDeliverAll_any b _ _ _ _ _ _ _ _ _ _ _ _ _ _ _ _ _ _ t2 _ hX hV2 hok).mono ?_
  rintro e w7 hh
  obtain ⟨y, Aqy, nqy, cqy, Aay, nay, cay, Asy, nsy, csy, Ahy, nhy, chy, Afy, nfy, cfy, hDy, rfl, hXy, hb⟩ := hh.sl
  replace XB := XB.later hb
  replace X9 := X9.later hb
  replace hX := hid_bx hX hb
  replace hV1 := hid_by hV1 hb
  replace hV2 := hid_by hV2 hb
  replace hXx := hid_bx hXx hb
  replace hB := hB.trans (hb.mono hB.size)
  clear hb
  have X9c0 : w7.cell? ⟨G9, 0, none⟩ = some (.slice Aqx nqx cqx) := X9.cell 0
  have X9c1 : w7.cell? ⟨G9, 1, none⟩ = some (.slice Aax nax cax) := X9.cell 1
  have X9c2 : w7.cell? ⟨G9, 2, none⟩ = some (.slice Asx nsx csx) := X9.cell 2
  have X9c3 : w7.cell? ⟨G9, 3, none⟩ = some (.slice Ahx nhx chx) := X9.cell 3
  have X9c4 : w7.cell? ⟨G9, 4, none⟩ = some (.slice Afx nfx cfx) := X9.cell 4
  have X9z := X9.lt
  go_wp2_with fail
  clear X9c0 X9c1 X9c2 X9c3 X9c4 X9z
  have hb := (Below.refl w7.heap.size w7).alloc (Nat.le_refl _) (.cells #[.slice Aqy nqy cqy, .slice Aay nay cay, .slice Asy nsy csy, .slice Ahy nhy chy, .slice Afy nfy cfy] 30)
  have XY := Box.new w7 [.slice Aqy nqy cqy, .slice Aay nay cay, .slice Asy nsy csy, .slice Ahy nhy chy, .slice Afy nfy cfy] 30
  replace XB := XB.later hb
  replace X9 := X9.later hb
  replace hX := hid_bx hX hb
  replace hV1 := hid_by hV1 hb
  replace hV2 := hid_by hV2 hb
  replace hXx := hid_bx hXx hb
  replace hXy := hid_bx hXy hb
  replace hB := hB.trans (hb.mono hB.size)
  clear hb
  generalize w7.alloc (.cells #[.slice Aqy nqy cqy, .slice Aay nay cay, .slice Asy nsy csy, .slice Ahy nhy chy, .slice Afy nfy cfy] 30) = w8 at XB X9 XY hX hV1 hV2 hXx hXy hB ⊢
  generalize w7.heap.size = GY at XY ⊢
  have hsame : Hid (decide (x.heard = y.heard) = true) := Lib.hid (decide_eq_true (hDx.out.same (Flow.refl hok.out) hDy.out).symm)
  obtain ⟨-, -, -, kx, -⟩ := hXx.out.lens
  obtain rfl : nhx = nh := by rw [← kx, ← l4]; exact hDx.out.flow.len
  refine (rSameInts_is (Lib.hid hXx.out.heard) (Lib.hid hXy.out.heard) hsame).mono ?_
  rintro e w9 ⟨rfl, hb⟩
  replace XB := XB.later hb
  replace X9 := X9.later hb
  replace XY := XY.later hb
  replace hX := hid_bx hX hb
  replace hV1 := hid_by hV1 hb
  replace hV2 := hid_by hV2 hb
  replace hXx := hid_bx hXx hb
  replace hXy := hid_bx hXy hb
  replace hB := hB.trans (hb.mono hB.size)
  clear hb
  clear XY hXy hsame hV1
  have XBc0 : w9.cell? ⟨w.heap.size, 0, none⟩ = some (.slice Aq nq cq) := XB.cell 0
  have XBc1 : w9.cell? ⟨w.heap.size, 1, none⟩ = some (.slice Aa na ca) := XB.cell 1
  have XBc2 : w9.cell? ⟨w.heap.size, 2, none⟩ = some (.slice As ns cs) := XB.cell 2
  have XBc3 : w9.cell? ⟨w.heap.size, 3, none⟩ = some (.slice Ah nhx ch) := XB.cell 3
  have XBc4 : w9.cell? ⟨w.heap.size, 4, none⟩ = some (.slice Af nf cf) := XB.cell 4
  have XBz := XB.lt
  have X9c0 : w9.cell? ⟨G9, 0, none⟩ = some (.slice Aqx nqx cqx) := X9.cell 0
  have X9c1 : w9.cell? ⟨G9, 1, none⟩ = some (.slice Aax nax cax) := X9.cell 1
  have X9c2 : w9.cell? ⟨G9, 2, none⟩ = some (.slice Asx nsx csx) := X9.cell 2
  have X9c3 : w9.cell? ⟨G9, 3, none⟩ = some (.slice Ahx nhx chx) := X9.cell 3
  have X9c4 : w9.cell? ⟨G9, 4, none⟩ = some (.slice Afx nfx cfx) := X9.cell 4
  have X9z := X9.lt
  have e1 : ((nhx : Int) != (nhx : Int)) = false := by simp
  go_upto_region 10 with fail
  clear XBc0 XBc1 XBc2 XBc3 XBc4 XBz
  clear X9c0 X9c1 X9c2 X9c3 X9c4 X9z
  clear e1
  obtain ⟨t0, ht0⟩ : ∃ t0, (decide (0 < nq) && decide (nq < 4096)) = t0 := ⟨_, rfl⟩
  have HT0 := Lib.hid ht0
  go_cut [85] (fun s85 wx => s85 = .bool t0 ∧ w9 = wx)
  case first =>
    rcases Nat.eq_zero_or_pos nq with h0 | h0
    · obtain rfl : t0 = false := by rw [← HT0.out, h0]; rfl
      have h1 : ¬ (0 : Int) < (nq : Int) := by omega
      clear ht0 h0
      go_wp2_with fail
      go_meet
      exact ⟨rfl, rfl⟩
    · obtain rfl : t0 = true := by rw [← HT0.out]; simp; omega
      have h1 : (0 : Int) < (nq : Int) := by omega
      have h2 : (nq : Int) < 4096 := by omega
      clear ht0
      go_wp2_with fail
      go_meet
      exact ⟨rfl, rfl⟩
  case rest =>
  obtain ⟨rfl, hw⟩ := hcut
  subst hw
  clear ht0
  go_upto_if 85 with fail
  go_cut [8] (fun s8 wx => s8 = .bool false ∧ Below w9.heap.size w9 wx)
  case first =>
    cases t0 with
    | false =>
      go_wp2_with fail
      go_meet
      exact ⟨rfl, Below.refl _ _⟩
    | true =>
      have h0 : 0 < nq := by
        have h9 := HT0.out
        rw [Bool.and_eq_true] at h9
        exact of_decide_eq_true h9.1
      obtain ⟨kk, hkk⟩ : ∃ kk : Nat, ag % (nq : Int) = (kk : Int) := ⟨(ag % (nq : Int)).toNat, by have := Int.emod_nonneg ag (show (nq : Int) ≠ 0 by omega); omega⟩
      have hkl : kk < nq := by have := Int.emod_lt_of_pos ag (show (0 : Int) < nq by omega); omega
      obtain ⟨y2, hrp, hfl, -⟩ := flow_repeat hok.out (k := kk) (by omega) (by omega)
      replace hrp := Lib.hid hrp
      replace hfl := Lib.hid hfl
      have hz1 : w.heap.size < w9.heap.size := XB.lt
      have hz2 : G9 < w9.heap.size := X9.lt
      go_upto_region 11 with fail
      have hd := (Below.refl w9.heap.size w9).drew
      have XBz := XB.lt
      have u0 : ∀ z : Later w9, z.w.cell? ⟨w.heap.size, 0, none⟩ = some (.slice Aq nq cq) := Later.cell (XB.cell 0) XBz
      have u1 : ∀ z : Later w9, z.w.cell? ⟨w.heap.size, 1, none⟩ = some (.slice Aa na ca) := Later.cell (XB.cell 1) XBz
      have u2 : ∀ z : Later w9, z.w.cell? ⟨w.heap.size, 2, none⟩ = some (.slice As ns cs) := Later.cell (XB.cell 2) XBz
      have u3 : ∀ z : Later w9, z.w.cell? ⟨w.heap.size, 3, none⟩ = some (.slice Ah nhx ch) := Later.cell (XB.cell 3) XBz
      have u4 : ∀ z : Later w9, z.w.cell? ⟨w.heap.size, 4, none⟩ = some (.slice Af nf cf) := Later.cell (XB.cell 4) XBz
      have hb := hd
      replace XB := XB.later hb
      replace X9 := X9.later hb
      replace hX := hid_bx hX hb
      replace hV2 := hid_by hV2 hb
      replace hXx := hid_bx hXx hb
      replace hB := hB.trans (hb.mono hB.size)
      clear hb XBz
      refine wp_region_heads (C := fun w' => ∃ x : Later w9, w' = x.w) [0, 1, 2, 3, 4] (by kernel_rfl) (by kernel_rfl) (Later.mk' hd) (fun _ _ h => h) ?_
      simp only [headOps, List.filterMap_cons, List.filterMap_nil, List.getElem?_toArray, List.getElem?_cons_succ, List.getElem?_cons_zero]
      repeat (first | go_big_quiet_skip | (show wpQuiet _ _ _ _ (_ :: _) _; go_big_quiet_skip) | (show wpQuiet _ _ _ _ (_ :: _) _; go_big_quiet_want; go_big_quiet_op; go_big_quiet_on))
      refine wpQuiet_nil ?_
      clear u0 u1 u2 u3 u4
      generalize w9.drew = W0 at XB X9 hX hV2 hXx hB hd ⊢
      refine anyC_twoW (n := 7) (i := 5) (j := 9) (by kernel_rfl) (Later.mk' hd) ?_ ?_
      · refine wpOp_callD (some 92) (by rfl) rfl rfl ?_ ((oRepeat_is b kk hX hrp).mono ?_)
        · go_simp
        rintro e W1 hh
        obtain ⟨Aqm, nqm, cqm, Aam, nam, cam, Asm, nsm, csm, Ahm, nhm, chm, Afm, nfm, cfm, rfl, hXm, hb⟩ := hh.sl1
        refine ⟨_, rfl, ?_⟩
        simp only [Act.put, List.setIfInBounds_toArray, List.set_cons_zero, List.set_cons_succ]
        replace XB := XB.later hb
        replace X9 := X9.later hb
        replace hX := hid_bx hX hb
        replace hV2 := hid_by hV2 hb
        replace hXx := hid_bx hXx hb
        replace hB := hB.trans (hb.mono hB.size)
        replace hd := hd.trans (hb.mono hd.size)
        clear hb
        refine anyC_heads (by kernel_rfl) 3 W1 (Later.mk' hd) [6, 7, 8] _ _ (by kernel_rfl) ?_
        simp only [headOps, List.filterMap_cons, List.filterMap_nil, List.getElem?_toArray, List.getElem?_cons_succ, List.getElem?_cons_zero]
        repeat (first | go_big_quiet_skip | (show wpQuiet _ _ _ _ (_ :: _) _; go_big_quiet_skip) | (show wpQuiet _ _ _ _ (_ :: _) _; go_big_quiet_want; go_big_quiet_op; go_big_quiet_on))
        refine wpQuiet_nil ?_
        refine anyC_oneW (n := 3) (i := 9) (by kernel_rfl) (Later.mk' hd) ?_
        refine wpOp_valD (some 14) (v := .pointer (some ⟨W1.heap.size, 0, none⟩)) (w' := W1.alloc (.cells #[.slice none 0 0, .slice none 0 0, .slice none 0 0, .slice none 0 0, .slice none 0 0] 30)) (by rfl) rfl rfl ?_ ?_
        · go_simp
        simp only [Act.put, List.setIfInBounds_toArray, List.set_cons_zero, List.set_cons_succ]
        have hb := (Below.refl W1.heap.size W1).alloc (Nat.le_refl _) (.cells #[.slice none 0 0, .slice none 0 0, .slice none 0 0, .slice none 0 0, .slice none 0 0] 30)
        have XM := Box.new W1 [.slice none 0 0, .slice none 0 0, .slice none 0 0, .slice none 0 0, .slice none 0 0] 30
        have hgm := hd.size
        replace XB := XB.later hb
        replace X9 := X9.later hb
        replace hX := hid_bx hX hb
        replace hV2 := hid_by hV2 hb
        replace hXx := hid_bx hXx hb
        replace hXm := hid_bx hXm hb
        replace hB := hB.trans (hb.mono hB.size)
        replace hd := hd.trans (hb.mono hd.size)
        clear hb
        generalize W1.alloc (.cells #[.slice none 0 0, .slice none 0 0, .slice none 0 0, .slice none 0 0, .slice none 0 0] 30) = W2 at XB X9 hX hV2 hXx hXm hB hd XM ⊢
        generalize W1.heap.size = GM at XM hgm ⊢
        have XMc0 : W2.cell? ⟨GM, 0, none⟩ = some (.slice none 0 0) := XM.cell 0
        have XMf0 : W2.frozen? ⟨GM, 0, none⟩ = false := XM.free 0
        have XMc1 : W2.cell? ⟨GM, 1, none⟩ = some (.slice none 0 0) := XM.cell 1
        have XMf1 : W2.frozen? ⟨GM, 1, none⟩ = false := XM.free 1
        have XMc2 : W2.cell? ⟨GM, 2, none⟩ = some (.slice none 0 0) := XM.cell 2
        have XMf2 : W2.frozen? ⟨GM, 2, none⟩ = false := XM.free 2
        have XMc3 : W2.cell? ⟨GM, 3, none⟩ = some (.slice none 0 0) := XM.cell 3
        have XMf3 : W2.frozen? ⟨GM, 3, none⟩ = false := XM.free 3
        have XMc4 : W2.cell? ⟨GM, 4, none⟩ = some (.slice none 0 0) := XM.cell 4
        have XMf4 : W2.frozen? ⟨GM, 4, none⟩ = false := XM.free 4
        have XMz : GM < W2.heap.size := XM.lt
        refine anyC_storeN (w' := (((((W2.setCell ⟨GM, 0, none⟩ (.slice Aqm nqm cqm)).setCell ⟨GM, 1, none⟩ (.slice Aam nam cam)).setCell ⟨GM, 2, none⟩ (.slice Asm nsm csm)).setCell ⟨GM, 3, none⟩ (.slice Ahm nhm chm)).setCell ⟨GM, 4, none⟩ (.slice Afm nfm cfm))) (n := 1) (i := 10) (by kernel_rfl) rfl rfl rfl (Later.mk' hd) ?_ ?_
        · go_simp
        clear XMc0 XMf0 XMc1 XMf1 XMc2 XMf2 XMc3 XMf3 XMc4 XMf4 XMz
        replace hX := bx_set (Aq := Aqm) (nq := nqm) (cq := cqm) (Aa := Aam) (na := nam) (ca := cam) (As := Asm) (ns := nsm) (cs := csm) (Ah := Ahm) (nh := nhm) (ch := chm) (Af := Afm) (nf := nfm) (cf := cfm) hX XM
        replace hV2 := by_set (Aq := Aqm) (nq := nqm) (cq := cqm) (Aa := Aam) (na := nam) (ca := cam) (As := Asm) (ns := nsm) (cs := csm) (Ah := Ahm) (nh := nhm) (ch := chm) (Af := Afm) (nf := nfm) (cf := cfm) hV2 XM
        replace hXx := bx_set (Aq := Aqm) (nq := nqm) (cq := cqm) (Aa := Aam) (na := nam) (ca := cam) (As := Asm) (ns := nsm) (cs := csm) (Ah := Ahm) (nh := nhm) (ch := chm) (Af := Afm) (nf := nfm) (cf := cfm) hXx XM
        replace hXm := bx_set (Aq := Aqm) (nq := nqm) (cq := cqm) (Aa := Aam) (na := nam) (ca := cam) (As := Asm) (ns := nsm) (cs := csm) (Ah := Ahm) (nh := nhm) (ch := chm) (Af := Afm) (nf := nfm) (cf := cfm) hXm XM
        replace XB := (((((XB.other (a := ⟨GM, 0, none⟩) (by simp <;> omega) (.slice Aqm nqm cqm)).other (a := ⟨GM, 1, none⟩) (by simp <;> omega) (.slice Aam nam cam)).other (a := ⟨GM, 2, none⟩) (by simp <;> omega) (.slice Asm nsm csm)).other (a := ⟨GM, 3, none⟩) (by simp <;> omega) (.slice Ahm nhm chm)).other (a := ⟨GM, 4, none⟩) (by simp <;> omega) (.slice Afm nfm cfm))
        replace X9 := (((((X9.other (a := ⟨GM, 0, none⟩) (by simp <;> omega) (.slice Aqm nqm cqm)).other (a := ⟨GM, 1, none⟩) (by simp <;> omega) (.slice Aam nam cam)).other (a := ⟨GM, 2, none⟩) (by simp <;> omega) (.slice Asm nsm csm)).other (a := ⟨GM, 3, none⟩) (by simp <;> omega) (.slice Ahm nhm chm)).other (a := ⟨GM, 4, none⟩) (by simp <;> omega) (.slice Afm nfm cfm))
        replace hB := (((((hB.setCell (p := ⟨GM, 0, none⟩) (by simp <;> omega) (.slice Aqm nqm cqm)).setCell (p := ⟨GM, 1, none⟩) (by simp <;> omega) (.slice Aam nam cam)).setCell (p := ⟨GM, 2, none⟩) (by simp <;> omega) (.slice Asm nsm csm)).setCell (p := ⟨GM, 3, none⟩) (by simp <;> omega) (.slice Ahm nhm chm)).setCell (p := ⟨GM, 4, none⟩) (by simp <;> omega) (.slice Afm nfm cfm))
        replace hd := (((((hd.setCell (p := ⟨GM, 0, none⟩) (by simp <;> omega) (.slice Aqm nqm cqm)).setCell (p := ⟨GM, 1, none⟩) (by simp <;> omega) (.slice Aam nam cam)).setCell (p := ⟨GM, 2, none⟩) (by simp <;> omega) (.slice Asm nsm csm)).setCell (p := ⟨GM, 3, none⟩) (by simp <;> omega) (.slice Ahm nhm chm)).setCell (p := ⟨GM, 4, none⟩) (by simp <;> omega) (.slice Afm nfm cfm))
        replace XM := (((((XM.set 0 (.slice Aqm nqm cqm)).set 1 (.slice Aam nam cam)).set 2 (.slice Asm nsm csm)).set 3 (.slice Ahm nhm chm)).set 4 (.slice Afm nfm cfm))
        generalize (((((W2.setCell ⟨GM, 0, none⟩ (.slice Aqm nqm cqm)).setCell ⟨GM, 1, none⟩ (.slice Aam nam cam)).setCell ⟨GM, 2, none⟩ (.slice Asm nsm csm)).setCell ⟨GM, 3, none⟩ (.slice Ahm nhm chm)).setCell ⟨GM, 4, none⟩ (.slice Afm nfm cfm)) = W3 at hX hV2 hXx hXm XB X9 hB hd XM ⊢
        simp only [List.set_cons_zero, List.set_cons_succ] at XM
        refine anyC_valD (some 15) (n := 0) (i := 11) (v := .int .i64 0) (w' := W3) (by kernel_rfl) rfl rfl rfl (Later.mk' hd) (by first | rfl | go_simp) ?_
        simp only [Act.put, List.setIfInBounds_toArray, List.set_cons_zero, List.set_cons_succ]
        refine anyC_done (by kernel_rfl) (Later.mk' hd) ?_
        have XMc0 : W3.cell? ⟨GM, 0, none⟩ = some (.slice Aqm nqm cqm) := XM.cell 0
        have XMc1 : W3.cell? ⟨GM, 1, none⟩ = some (.slice Aam nam cam) := XM.cell 1
        have XMc2 : W3.cell? ⟨GM, 2, none⟩ = some (.slice Asm nsm csm) := XM.cell 2
        have XMc3 : W3.cell? ⟨GM, 3, none⟩ = some (.slice Ahm nhm chm) := XM.cell 3
        have XMc4 : W3.cell? ⟨GM, 4, none⟩ = some (.slice Afm nfm cfm) := XM.cell 4
        have XMz := XM.lt
        go_wp2_with fail
        clear XMc0 XMc1 XMc2 XMc3 XMc4 XMz
        refine (oDeliverAll_any y2 _ _ _ _ _ _ _ _ _ _ _ _ _ _ _ _ _ _ t2 _ hXm hV2 (Lib.hid hfl.out.ok)).mono ?_
        rintro e W4 hh
        obtain ⟨z, Aqz, nqz, cqz, Aaz, naz, caz, Asz, nsz, csz, Ahz, nhz, chz, Afz, nfz, cfz, hDz, rfl, hXz, hb⟩ := hh.sl
        replace XB := XB.later hb
        replace X9 := X9.later hb
        replace hX := hid_bx hX hb
        replace hV2 := hid_by hV2 hb
        replace hXx := hid_bx hXx hb
        replace hXm := hid_bx hXm hb
        replace hB := hB.trans (hb.mono hB.size)
        replace hd := hd.trans (hb.mono hd.size)
        clear hb
        have X9c0 : W4.cell? ⟨G9, 0, none⟩ = some (.slice Aqx nqx cqx) := X9.cell 0
        have X9c1 : W4.cell? ⟨G9, 1, none⟩ = some (.slice Aax nax cax) := X9.cell 1
        have X9c2 : W4.cell? ⟨G9, 2, none⟩ = some (.slice Asx nsx csx) := X9.cell 2
        have X9c3 : W4.cell? ⟨G9, 3, none⟩ = some (.slice Ahx nhx chx) := X9.cell 3
        have X9c4 : W4.cell? ⟨G9, 4, none⟩ = some (.slice Afx nfx cfx) := X9.cell 4
        have X9z := X9.lt
        have hb := (Below.refl W4.heap.size W4).alloc (Nat.le_refl _) (.cells #[.slice Aqz nqz cqz, .slice Aaz naz caz, .slice Asz nsz csz, .slice Ahz nhz chz, .slice Afz nfz cfz] 30)
        go_wp2_with fail
        clear X9c0 X9c1 X9c2 X9c3 X9c4 X9z
        replace XB := XB.later hb
        replace X9 := X9.later hb
        replace hX := hid_bx hX hb
        replace hV2 := hid_by hV2 hb
        replace hXx := hid_bx hXx hb
        replace hXm := hid_bx hXm hb
        replace hXz := hid_bx hXz hb
        replace hB := hB.trans (hb.mono hB.size)
        replace hd := hd.trans (hb.mono hd.size)
        clear hb
        generalize W4.alloc (.cells #[.slice Aqz nqz cqz, .slice Aaz naz caz, .slice Asz nsz csz, .slice Ahz nhz chz, .slice Afz nfz cfz] 30) = W5 at hXx hXz hd ⊢
        have hsz2 : Hid (decide (x.heard = z.heard) = true) := Lib.hid (decide_eq_true (hDx.out.same hfl.out hDz.out).symm)
        refine (rSameInts_is (Lib.hid hXx.out.heard) (Lib.hid hXz.out.heard) hsz2).mono ?_
        rintro e W6 ⟨rfl, hb⟩
        have hd2 := hd.trans (hb.mono hd.size)
        go_wp2_with fail
        go_meet
        exact ⟨rfl, hd2⟩
      · refine wpOp_valD (some 14) (v := .pointer (some ⟨W0.heap.size, 0, none⟩)) (w' := W0.alloc (.cells #[.slice none 0 0, .slice none 0 0, .slice none 0 0, .slice none 0 0, .slice none 0 0] 30)) (by rfl) rfl rfl ?_ ?_
        · go_simp
        simp only [Act.put, List.setIfInBounds_toArray, List.set_cons_zero, List.set_cons_succ]
        have hb := (Below.refl W0.heap.size W0).alloc (Nat.le_refl _) (.cells #[.slice none 0 0, .slice none 0 0, .slice none 0 0, .slice none 0 0, .slice none 0 0] 30)
        have XM := Box.new W0 [.slice none 0 0, .slice none 0 0, .slice none 0 0, .slice none 0 0, .slice none 0 0] 30
        have hgm := hd.size
        replace XB := XB.later hb
        replace X9 := X9.later hb
        replace hX := hid_bx hX hb
        replace hV2 := hid_by hV2 hb
        replace hXx := hid_bx hXx hb
        replace hB := hB.trans (hb.mono hB.size)
        replace hd := hd.trans (hb.mono hd.size)
        clear hb
        generalize W0.alloc (.cells #[.slice none 0 0, .slice none 0 0, .slice none 0 0, .slice none 0 0, .slice none 0 0] 30) = W1 at XB X9 hX hV2 hXx hB hd XM ⊢
        generalize W0.heap.size = GM at XM hgm ⊢
        refine anyC_oneW (n := 6) (i := 5) (by kernel_rfl) (Later.mk' hd) ?_
        refine wpOp_callD (some 92) (by rfl) rfl rfl ?_ ((oRepeat_is b kk hX hrp).mono ?_)
        · go_simp
        rintro e W2 hh
        obtain ⟨Aqm, nqm, cqm, Aam, nam, cam, Asm, nsm, csm, Ahm, nhm, chm, Afm, nfm, cfm, rfl, hXm, hb⟩ := hh.sl1
        refine ⟨_, rfl, ?_⟩
        simp only [Act.put, List.setIfInBounds_toArray, List.set_cons_zero, List.set_cons_succ]
        replace XB := XB.later hb
        replace X9 := X9.later hb
        replace XM := XM.later hb
        replace hX := hid_bx hX hb
        replace hV2 := hid_by hV2 hb
        replace hXx := hid_bx hXx hb
        replace hB := hB.trans (hb.mono hB.size)
        replace hd := hd.trans (hb.mono hd.size)
        clear hb
        refine anyC_heads (by kernel_rfl) 2 W2 (Later.mk' hd) [6, 7, 8] _ _ (by kernel_rfl) ?_
        simp only [headOps, List.filterMap_cons, List.filterMap_nil, List.getElem?_toArray, List.getElem?_cons_succ, List.getElem?_cons_zero]
        repeat (first | go_big_quiet_skip | (show wpQuiet _ _ _ _ (_ :: _) _; go_big_quiet_skip) | (show wpQuiet _ _ _ _ (_ :: _) _; go_big_quiet_want; go_big_quiet_op; go_big_quiet_on))
        refine wpQuiet_nil ?_
        have XMc0 : W2.cell? ⟨GM, 0, none⟩ = some (.slice none 0 0) := XM.cell 0
        have XMf0 : W2.frozen? ⟨GM, 0, none⟩ = false := XM.free 0
        have XMc1 : W2.cell? ⟨GM, 1, none⟩ = some (.slice none 0 0) := XM.cell 1
        have XMf1 : W2.frozen? ⟨GM, 1, none⟩ = false := XM.free 1
        have XMc2 : W2.cell? ⟨GM, 2, none⟩ = some (.slice none 0 0) := XM.cell 2
        have XMf2 : W2.frozen? ⟨GM, 2, none⟩ = false := XM.free 2
        have XMc3 : W2.cell? ⟨GM, 3, none⟩ = some (.slice none 0 0) := XM.cell 3
        have XMf3 : W2.frozen? ⟨GM, 3, none⟩ = false := XM.free 3
        have XMc4 : W2.cell? ⟨GM, 4, none⟩ = some (.slice none 0 0) := XM.cell 4
        have XMf4 : W2.frozen? ⟨GM, 4, none⟩ = false := XM.free 4
        have XMz : GM < W2.heap.size := XM.lt
        refine anyC_storeN (w' := (((((W2.setCell ⟨GM, 0, none⟩ (.slice Aqm nqm cqm)).setCell ⟨GM, 1, none⟩ (.slice Aam nam cam)).setCell ⟨GM, 2, none⟩ (.slice Asm nsm csm)).setCell ⟨GM, 3, none⟩ (.slice Ahm nhm chm)).setCell ⟨GM, 4, none⟩ (.slice Afm nfm cfm))) (n := 1) (i := 10) (by kernel_rfl) rfl rfl rfl (Later.mk' hd) ?_ ?_
        · go_simp
        clear XMc0 XMf0 XMc1 XMf1 XMc2 XMf2 XMc3 XMf3 XMc4 XMf4 XMz
        replace hX := bx_set (Aq := Aqm) (nq := nqm) (cq := cqm) (Aa := Aam) (na := nam) (ca := cam) (As := Asm) (ns := nsm) (cs := csm) (Ah := Ahm) (nh := nhm) (ch := chm) (Af := Afm) (nf := nfm) (cf := cfm) hX XM
        replace hV2 := by_set (Aq := Aqm) (nq := nqm) (cq := cqm) (Aa := Aam) (na := nam) (ca := cam) (As := Asm) (ns := nsm) (cs := csm) (Ah := Ahm) (nh := nhm) (ch := chm) (Af := Afm) (nf := nfm) (cf := cfm) hV2 XM
        replace hXx := bx_set (Aq := Aqm) (nq := nqm) (cq := cqm) (Aa := Aam) (na := nam) (ca := cam) (As := Asm) (ns := nsm) (cs := csm) (Ah := Ahm) (nh := nhm) (ch := chm) (Af := Afm) (nf := nfm) (cf := cfm) hXx XM
        replace hXm := bx_set (Aq := Aqm) (nq := nqm) (cq := cqm) (Aa := Aam) (na := nam) (ca := cam) (As := Asm) (ns := nsm) (cs := csm) (Ah := Ahm) (nh := nhm) (ch := chm) (Af := Afm) (nf := nfm) (cf := cfm) hXm XM
        replace XB := (((((XB.other (a := ⟨GM, 0, none⟩) (by simp <;> omega) (.slice Aqm nqm cqm)).other (a := ⟨GM, 1, none⟩) (by simp <;> omega) (.slice Aam nam cam)).other (a := ⟨GM, 2, none⟩) (by simp <;> omega) (.slice Asm nsm csm)).other (a := ⟨GM, 3, none⟩) (by simp <;> omega) (.slice Ahm nhm chm)).other (a := ⟨GM, 4, none⟩) (by simp <;> omega) (.slice Afm nfm cfm))
        replace X9 := (((((X9.other (a := ⟨GM, 0, none⟩) (by simp <;> omega) (.slice Aqm nqm cqm)).other (a := ⟨GM, 1, none⟩) (by simp <;> omega) (.slice Aam nam cam)).other (a := ⟨GM, 2, none⟩) (by simp <;> omega) (.slice Asm nsm csm)).other (a := ⟨GM, 3, none⟩) (by simp <;> omega) (.slice Ahm nhm chm)).other (a := ⟨GM, 4, none⟩) (by simp <;> omega) (.slice Afm nfm cfm))
        replace hB := (((((hB.setCell (p := ⟨GM, 0, none⟩) (by simp <;> omega) (.slice Aqm nqm cqm)).setCell (p := ⟨GM, 1, none⟩) (by simp <;> omega) (.slice Aam nam cam)).setCell (p := ⟨GM, 2, none⟩) (by simp <;> omega) (.slice Asm nsm csm)).setCell (p := ⟨GM, 3, none⟩) (by simp <;> omega) (.slice Ahm nhm chm)).setCell (p := ⟨GM, 4, none⟩) (by simp <;> omega) (.slice Afm nfm cfm))
        replace hd := (((((hd.setCell (p := ⟨GM, 0, none⟩) (by simp <;> omega) (.slice Aqm nqm cqm)).setCell (p := ⟨GM, 1, none⟩) (by simp <;> omega) (.slice Aam nam cam)).setCell (p := ⟨GM, 2, none⟩) (by simp <;> omega) (.slice Asm nsm csm)).setCell (p := ⟨GM, 3, none⟩) (by simp <;> omega) (.slice Ahm nhm chm)).setCell (p := ⟨GM, 4, none⟩) (by simp <;> omega) (.slice Afm nfm cfm))
        replace XM := (((((XM.set 0 (.slice Aqm nqm cqm)).set 1 (.slice Aam nam cam)).set 2 (.slice Asm nsm csm)).set 3 (.slice Ahm nhm chm)).set 4 (.slice Afm nfm cfm))
        generalize (((((W2.setCell ⟨GM, 0, none⟩ (.slice Aqm nqm cqm)).setCell ⟨GM, 1, none⟩ (.slice Aam nam cam)).setCell ⟨GM, 2, none⟩ (.slice Asm nsm csm)).setCell ⟨GM, 3, none⟩ (.slice Ahm nhm chm)).setCell ⟨GM, 4, none⟩ (.slice Afm nfm cfm)) = W3 at hX hV2 hXx hXm XB X9 hB hd XM ⊢
        simp only [List.set_cons_zero, List.set_cons_succ] at XM
        refine anyC_valD (some 15) (n := 0) (i := 11) (v := .int .i64 0) (w' := W3) (by kernel_rfl) rfl rfl rfl (Later.mk' hd) (by first | rfl | go_simp) ?_
        simp only [Act.put, List.setIfInBounds_toArray, List.set_cons_zero, List.set_cons_succ]
        refine anyC_done (by kernel_rfl) (Later.mk' hd) ?_
        have XMc0 : W3.cell? ⟨GM, 0, none⟩ = some (.slice Aqm nqm cqm) := XM.cell 0
        have XMc1 : W3.cell? ⟨GM, 1, none⟩ = some (.slice Aam nam cam) := XM.cell 1
        have XMc2 : W3.cell? ⟨GM, 2, none⟩ = some (.slice Asm nsm csm) := XM.cell 2
        have XMc3 : W3.cell? ⟨GM, 3, none⟩ = some (.slice Ahm nhm chm) := XM.cell 3
        have XMc4 : W3.cell? ⟨GM, 4, none⟩ = some (.slice Afm nfm cfm) := XM.cell 4
        have XMz := XM.lt
        go_wp2_with fail
        clear XMc0 XMc1 XMc2 XMc3 XMc4 XMz
        refine (oDeliverAll_any y2 _ _ _ _ _ _ _ _ _ _ _ _ _ _ _ _ _ _ t2 _ hXm hV2 (Lib.hid hfl.out.ok)).mono ?_
        rintro e W4 hh
        obtain ⟨z, Aqz, nqz, cqz, Aaz, naz, caz, Asz, nsz, csz, Ahz, nhz, chz, Afz, nfz, cfz, hDz, rfl, hXz, hb⟩ := hh.sl
        replace XB := XB.later hb
        replace X9 := X9.later hb
        replace hX := hid_bx hX hb
        replace hV2 := hid_by hV2 hb
        replace hXx := hid_bx hXx hb
        replace hXm := hid_bx hXm hb
        replace hB := hB.trans (hb.mono hB.size)
        replace hd := hd.trans (hb.mono hd.size)
        clear hb
        have X9c0 : W4.cell? ⟨G9, 0, none⟩ = some (.slice Aqx nqx cqx) := X9.cell 0
        have X9c1 : W4.cell? ⟨G9, 1, none⟩ = some (.slice Aax nax cax) := X9.cell 1
        have X9c2 : W4.cell? ⟨G9, 2, none⟩ = some (.slice Asx nsx csx) := X9.cell 2
        have X9c3 : W4.cell? ⟨G9, 3, none⟩ = some (.slice Ahx nhx chx) := X9.cell 3
        have X9c4 : W4.cell? ⟨G9, 4, none⟩ = some (.slice Afx nfx cfx) := X9.cell 4
        have X9z := X9.lt
        have hb := (Below.refl W4.heap.size W4).alloc (Nat.le_refl _) (.cells #[.slice Aqz nqz cqz, .slice Aaz naz caz, .slice Asz nsz csz, .slice Ahz nhz chz, .slice Afz nfz cfz] 30)
        go_wp2_with fail
        clear X9c0 X9c1 X9c2 X9c3 X9c4 X9z
        replace XB := XB.later hb
        replace X9 := X9.later hb
        replace hX := hid_bx hX hb
        replace hV2 := hid_by hV2 hb
        replace hXx := hid_bx hXx hb
        replace hXm := hid_bx hXm hb
        replace hXz := hid_bx hXz hb
        replace hB := hB.trans (hb.mono hB.size)
        replace hd := hd.trans (hb.mono hd.size)
        clear hb
        generalize W4.alloc (.cells #[.slice Aqz nqz cqz, .slice Aaz naz caz, .slice Asz nsz csz, .slice Ahz nhz chz, .slice Afz nfz cfz] 30) = W5 at hXx hXz hd ⊢
        have hsz2 : Hid (decide (x.heard = z.heard) = true) := Lib.hid (decide_eq_true (hDx.out.same hfl.out hDz.out).symm)
        refine (rSameInts_is (Lib.hid hXx.out.heard) (Lib.hid hXz.out.heard) hsz2).mono ?_
        rintro e W6 ⟨rfl, hb⟩
        have hd2 := hd.trans (hb.mono hd.size)
        go_wp2_with fail
        go_meet
        exact ⟨rfl, hd2⟩
  case rest =>
  obtain ⟨rfl, hb⟩ := hcut
  replace XB := XB.later hb
  replace X9 := X9.later hb
  replace hX := hid_bx hX hb
  replace hV2 := hid_by hV2 hb
  replace hXx := hid_bx hXx hb
  replace hB := hB.trans (hb.mono hB.size)
  clear hb
  clear HT0 hV2
  have XBc0 : wc.cell? ⟨w.heap.size, 0, none⟩ = some (.slice Aq nq cq) := XB.cell 0
  have XBc1 : wc.cell? ⟨w.heap.size, 1, none⟩ = some (.slice Aa na ca) := XB.cell 1
  have XBc2 : wc.cell? ⟨w.heap.size, 2, none⟩ = some (.slice As ns cs) := XB.cell 2
  have XBc3 : wc.cell? ⟨w.heap.size, 3, none⟩ = some (.slice Ah nhx ch) := XB.cell 3
  have XBc4 : wc.cell? ⟨w.heap.size, 4, none⟩ = some (.slice Af nf cf) := XB.cell 4
  have XBz := XB.lt
  have X9c0 : wc.cell? ⟨G9, 0, none⟩ = some (.slice Aqx nqx cqx) := X9.cell 0
  have X9c1 : wc.cell? ⟨G9, 1, none⟩ = some (.slice Aax nax cax) := X9.cell 1
  have X9c2 : wc.cell? ⟨G9, 2, none⟩ = some (.slice Asx nsx csx) := X9.cell 2
  have X9c3 : wc.cell? ⟨G9, 3, none⟩ = some (.slice Ahx nhx chx) := X9.cell 3
  have X9c4 : wc.cell? ⟨G9, 4, none⟩ = some (.slice Afx nfx cfx) := X9.cell 4
  have X9z := X9.lt
  go_upto_region 16 with fail
  clear XBc0 XBc1 XBc2 XBc3 XBc4 XBz
  clear X9c0 X9c1 X9c2 X9c3 X9c4 X9z
  go_loopw [118] (fun i wr => ∃ k : Nat, k ≤ nhx ∧ i = .int .i64 k ∧ Below w.heap.size w wr ∧ Box wr w.heap.size [.slice Aq nq cq, .slice Aa na ca, .slice As ns cs, .slice Ah nhx ch, .slice Af nf cf] ∧ Box wr G9 [.slice Aqx nqx cqx, .slice Aax nax cax, .slice Asx nsx csx, .slice Ahx nhx chx, .slice Afx nfx cfx] ∧ Hid (BxAt wr wr.heap.size (.slice Aq nq cq) (.slice Aa na ca) (.slice As ns cs) (.slice Ah nhx ch) (.slice Af nf cf) b) ∧ Hid (BxAt wr wr.heap.size (.slice Aqx nqx cqx) (.slice Aax nax cax) (.slice Asx nsx csx) (.slice Ahx nhx chx) (.slice Afx nfx cfx) x)) (fun i _ => nhx - (intOf i).toNat)
  case atStart => exact ⟨0, by omega, rfl, hB, XB, X9, hX, hXx⟩
  case round =>
    clear hB XB X9 hX hXx
    obtain ⟨k, hk, rfl, hB, XB, X9, hX, hXx⟩ := hrel
    obtain ⟨wo, rfl⟩ : ∃ wo : World, wo = wr := ⟨_, rfl⟩
    rcases Nat.lt_or_ge k nhx with hlt | hge
    rotate_left
    · obtain rfl : nhx = k := by omega
      have hlm : ¬ ((nhx : Int) < (nhx : Int)) := by omega
      go_wp2
      go_ret
      exact ⟨rfl, hB⟩
    have hlm : (k : Int) < (nhx : Int) := by omega
    have hnl : ns ≤ 4096 := by have h9 := (of_decide_eq_true (okB_parts hok.out).1).2.2; omega
    have XBc0 : wo.cell? ⟨w.heap.size, 0, none⟩ = some (.slice Aq nq cq) := XB.cell 0
    have XBc1 : wo.cell? ⟨w.heap.size, 1, none⟩ = some (.slice Aa na ca) := XB.cell 1
    have XBc2 : wo.cell? ⟨w.heap.size, 2, none⟩ = some (.slice As ns cs) := XB.cell 2
    have XBc3 : wo.cell? ⟨w.heap.size, 3, none⟩ = some (.slice Ah nhx ch) := XB.cell 3
    have XBc4 : wo.cell? ⟨w.heap.size, 4, none⟩ = some (.slice Af nf cf) := XB.cell 4
    have XBz := XB.lt
    have X9c0 : wo.cell? ⟨G9, 0, none⟩ = some (.slice Aqx nqx cqx) := X9.cell 0
    have X9c1 : wo.cell? ⟨G9, 1, none⟩ = some (.slice Aax nax cax) := X9.cell 1
    have X9c2 : wo.cell? ⟨G9, 2, none⟩ = some (.slice Asx nsx csx) := X9.cell 2
    have X9c3 : wo.cell? ⟨G9, 3, none⟩ = some (.slice Ahx nhx chx) := X9.cell 3
    have X9c4 : wo.cell? ⟨G9, 4, none⟩ = some (.slice Afx nfx cfx) := X9.cell 4
    have X9z := X9.lt
    go_upto_region 20 with fail
    clear XBc0 XBc1 XBc2 XBc3 XBc4 XBz
    clear X9c0 X9c1 X9c2 X9c3 X9c4 X9z
    clear hlm
    go_loopw [19, 124] (fun la i wr => ∃ j : Nat, j ≤ ns ∧ la = .int .i64 (lastI b.sent k j) ∧ i = .int .i64 j ∧ Below w.heap.size w wr ∧ Box wr w.heap.size [.slice Aq nq cq, .slice Aa na ca, .slice As ns cs, .slice Ah nhx ch, .slice Af nf cf] ∧ Box wr G9 [.slice Aqx nqx cqx, .slice Aax nax cax, .slice Asx nsx csx, .slice Ahx nhx chx, .slice Afx nfx cfx] ∧ Hid (BxAt wr wr.heap.size (.slice Aq nq cq) (.slice Aa na ca) (.slice As ns cs) (.slice Ah nhx ch) (.slice Af nf cf) b) ∧ Hid (BxAt wr wr.heap.size (.slice Aqx nqx cqx) (.slice Aax nax cax) (.slice Asx nsx csx) (.slice Ahx nhx chx) (.slice Afx nfx cfx) x)) (fun _ i _ => ns - (intOf i).toNat)
    case atStart => exact ⟨0, by omega, rfl, rfl, hB, XB, X9, hX, hXx⟩
    case round =>
      clear hB XB X9 hX hXx
      obtain ⟨j, hj, rfl, rfl, hB, XB, X9, hX, hXx⟩ := hrel
      obtain ⟨wp, rfl⟩ : ∃ wp : World, wp = wr := ⟨_, rfl⟩
      rcases Nat.lt_or_ge j ns with hjl | hjg
      · have hlm : (j : Int) < (ns : Int) := by omega
        obtain ⟨bs, os, rfl, hbs, hcs⟩ := hX.out.sent.lk (by omega)
        obtain ⟨q0, q1⟩ := hcs j (by omega)
        clear hcs
        obtain ⟨lj, hlj⟩ : ∃ lj, lastI b.sent k j = lj := ⟨_, rfl⟩
        obtain ⟨lk, hlk⟩ : ∃ lk, lastI b.sent k (j + 1) = lk := ⟨_, rfl⟩
        have HL : Hid (lk = if (b.sent.getD j (0, 0)).1 = (k : Int) then (j : Int) + 1 else lj) := by rw [Hid, ← hlj, ← hlk]; rfl
        generalize (b.sent.getD j (0, 0)).1 = u at q0 HL
        generalize (b.sent.getD j (0, 0)).2 = v at q1
        rw [hlj]
        have HLK := Lib.hid hlk
        clear hlj hlk
        have HW := Lib.hid (wrap64_next (by omega : j ≤ 4096))
        by_cases huk : u = (k : Int)
        · obtain rfl : lk = (j : Int) + 1 := by rw [HL.out, if_pos huk]
          subst huk
          have e1 : ((k : Int) == (k : Int)) = true := by simp
          go_upto_region 22 with fail
          have hb := (Below.refl wp.heap.size wp).alloc (Nat.le_refl _) (.cells #[.int .i64 (k : Int), .int .i64 v] 48)
          have XM := Box.new wp [.int .i64 (k : Int), .int .i64 v] 48
          replace XB := XB.later hb
          replace X9 := X9.later hb
          replace hX := hid_bx hX hb
          replace hXx := hid_bx hXx hb
          replace hB := hB.trans (hb.mono hB.size)
          clear hb
          generalize wp.alloc (.cells #[.int .i64 (k : Int), .int .i64 v] 48) = wq at XB X9 hX hXx hB XM ⊢
          generalize wp.heap.size = GM at XM ⊢
          have c0 : wq.cell? ⟨GM, 0, none⟩ = some (.int .i64 (k : Int)) := XM.cell 0
          have cz := XM.lt
          go_wp2
          exact ⟨⟨j + 1, by omega, by rw [HLK.out], by go_num, hB, XB, X9, hX, hXx⟩, by simp [intOf]; omega⟩
        · obtain rfl : lk = lj := by rw [HL.out, if_neg huk]
          have e1 : (u == (k : Int)) = false := by simp [huk]
          go_upto_region 22 with fail
          have hb := (Below.refl wp.heap.size wp).alloc (Nat.le_refl _) (.cells #[.int .i64 u, .int .i64 v] 48)
          have XM := Box.new wp [.int .i64 u, .int .i64 v] 48
          replace XB := XB.later hb
          replace X9 := X9.later hb
          replace hX := hid_bx hX hb
          replace hXx := hid_bx hXx hb
          replace hB := hB.trans (hb.mono hB.size)
          clear hb
          generalize wp.alloc (.cells #[.int .i64 u, .int .i64 v] 48) = wq at XB X9 hX hXx hB XM ⊢
          generalize wp.heap.size = GM at XM ⊢
          have c0 : wq.cell? ⟨GM, 0, none⟩ = some (.int .i64 u) := XM.cell 0
          have cz := XM.lt
          go_wp2
          exact ⟨⟨j + 1, by omega, by rw [HLK.out], by go_num, hB, XB, X9, hX, hXx⟩, by simp [intOf]; omega⟩
      obtain rfl : ns = j := by omega
      have hlm : ¬ ((ns : Int) < (ns : Int)) := by omega
      obtain ⟨la, hla⟩ : ∃ la, lastI b.sent k ns = la := ⟨_, rfl⟩
      rw [hla]
      replace hla := Lib.hid hla
      have hlr := last_range b.sent k ns
      rw [hla.out] at hlr
      replace hlr := Lib.hid hlr
      have hc0 : cutP b.net.apart k 0 = false := rfl
      clear hjg
      have XBc0 : wp.cell? ⟨w.heap.size, 0, none⟩ = some (.slice Aq nq cq) := XB.cell 0
      have XBc1 : wp.cell? ⟨w.heap.size, 1, none⟩ = some (.slice Aa na ca) := XB.cell 1
      have XBc2 : wp.cell? ⟨w.heap.size, 2, none⟩ = some (.slice As ns cs) := XB.cell 2
      have XBc3 : wp.cell? ⟨w.heap.size, 3, none⟩ = some (.slice Ah nhx ch) := XB.cell 3
      have XBc4 : wp.cell? ⟨w.heap.size, 4, none⟩ = some (.slice Af nf cf) := XB.cell 4
      have XBz := XB.lt
      have X9c0 : wp.cell? ⟨G9, 0, none⟩ = some (.slice Aqx nqx cqx) := X9.cell 0
      have X9c1 : wp.cell? ⟨G9, 1, none⟩ = some (.slice Aax nax cax) := X9.cell 1
      have X9c2 : wp.cell? ⟨G9, 2, none⟩ = some (.slice Asx nsx csx) := X9.cell 2
      have X9c3 : wp.cell? ⟨G9, 3, none⟩ = some (.slice Ahx nhx chx) := X9.cell 3
      have X9c4 : wp.cell? ⟨G9, 4, none⟩ = some (.slice Afx nfx cfx) := X9.cell 4
      have X9z := X9.lt
      go_upto_region 27 with fail
      clear XBc0 XBc1 XBc2 XBc3 XBc4 XBz
      clear X9c0 X9c1 X9c2 X9c3 X9c4 X9z
      clear hlm
      go_loopw [22, 140] (fun cu i wr => ∃ j : Nat, j ≤ na ∧ cu = .bool (cutP b.net.apart k j) ∧ i = .int .i64 j ∧ Below w.heap.size w wr ∧ Box wr w.heap.size [.slice Aq nq cq, .slice Aa na ca, .slice As ns cs, .slice Ah nhx ch, .slice Af nf cf] ∧ Box wr G9 [.slice Aqx nqx cqx, .slice Aax nax cax, .slice Asx nsx csx, .slice Ahx nhx chx, .slice Afx nfx cfx] ∧ Hid (BxAt wr wr.heap.size (.slice Aq nq cq) (.slice Aa na ca) (.slice As ns cs) (.slice Ah nhx ch) (.slice Af nf cf) b) ∧ Hid (BxAt wr wr.heap.size (.slice Aqx nqx cqx) (.slice Aax nax cax) (.slice Asx nsx csx) (.slice Ahx nhx chx) (.slice Afx nfx cfx) x)) (fun _ i _ => na - (intOf i).toNat)
      case atStart => exact ⟨0, by omega, by rw [hc0], rfl, hB, XB, X9, hX, hXx⟩
      case round =>
        clear hB XB X9 hX hXx hc0
        obtain ⟨j, hj, rfl, rfl, hB, XB, X9, hX, hXx⟩ := hrel
        obtain ⟨wq, rfl⟩ : ∃ wq : World, wq = wr := ⟨_, rfl⟩
        rcases Nat.lt_or_ge j na with hjl | hjg
        · have hlm : (j : Int) < (na : Int) := by omega
          obtain ⟨bs, os, rfl, hbs, hcs⟩ := hX.out.net.apart.lk (by omega)
          obtain ⟨q0, q1⟩ := hcs j (by omega)
          clear hcs
          obtain ⟨cj, hcj⟩ : ∃ cj, cutP b.net.apart k j = cj := ⟨_, rfl⟩
          obtain ⟨ck, hck⟩ : ∃ ck, cutP b.net.apart k (j + 1) = ck := ⟨_, rfl⟩
          have HC : Hid (ck = (cj || (decide ((b.net.apart.getD j (0, 0)).1 = 0) && decide ((b.net.apart.getD j (0, 0)).2 = (k : Int) + 1)))) := by rw [Hid, ← hcj, ← hck]; exact cutP_succ (by omega)
          generalize (b.net.apart.getD j (0, 0)).1 = u at q0 HC
          generalize (b.net.apart.getD j (0, 0)).2 = v at q1 HC
          rw [hcj]
          have HCK := Lib.hid hck
          clear hcj hck
          have HW1 := Lib.hid (wrap64_next (by omega : k ≤ 4096))
          have HW2 := Lib.hid (wrapI_next (by omega : k ≤ 4096))
          go_upto_region 29 with fail
          have hb := (Below.refl wq.heap.size wq).alloc (Nat.le_refl _) (.cells #[.int .i64 u, .int .i64 v] 49)
          have XM := Box.new wq [.int .i64 u, .int .i64 v] 49
          replace XB := XB.later hb
          replace X9 := X9.later hb
          replace hX := hid_bx hX hb
          replace hXx := hid_bx hXx hb
          replace hB := hB.trans (hb.mono hB.size)
          clear hb
          generalize wq.alloc (.cells #[.int .i64 u, .int .i64 v] 49) = wt at XB X9 hX hXx hB XM ⊢
          generalize wq.heap.size = GM at XM ⊢
          have c0 : wt.cell? ⟨GM, 0, none⟩ = some (.int .i64 u) := XM.cell 0
          have c1 : wt.cell? ⟨GM, 1, none⟩ = some (.int .i64 v) := XM.cell 1
          have cz := XM.lt
          cases cj with
          | true =>
            obtain rfl : ck = true := HC.out
            go_wp2
            exact ⟨⟨j + 1, by omega, by rw [HCK.out], by go_num, hB, XB, X9, hX, hXx⟩, by simp [intOf]; omega⟩
          | false =>
            go_wp2
            exact ⟨⟨j + 1, by omega, by rw [HCK.out, HC.out, Bool.false_or], by go_num, hB, XB, X9, hX, hXx⟩, by simp [intOf]; omega⟩
        obtain rfl : na = j := by omega
        have hlm : ¬ ((na : Int) < (na : Int)) := by omega
        obtain ⟨cu, hcu⟩ : ∃ cu, cutP b.net.apart k na = cu := ⟨_, rfl⟩
        rw [hcu]
        have HCU : Hid (cutG b.net.apart k = cu) := by rw [Hid, ← hcu, ← cutP_all, l2]
        clear hcu hjg
        obtain ⟨bh, oh, hA, hbh, ch0⟩ := hX.out.heard.2.one (k := k) (by omega)
        have hbhz : bh < wq.heap.size := hbh
        have HT : Hid (b.thereP k 0 = decide (b.h k = la)) := by rw [Hid, Bx.thereP, l3, hla.out]; simp
        obtain ⟨hk0, hhk⟩ : ∃ hk0, b.heard.getD k 0 = hk0 := ⟨_, rfl⟩
        rw [hhk] at ch0
        have hhk2 : Hid (b.h k = hk0) := hhk
        clear hhk
        rw [hhk2.out] at HT
        have XBc0 : wq.cell? ⟨w.heap.size, 0, none⟩ = some (.slice Aq nq cq) := XB.cell 0
        have XBc1 : wq.cell? ⟨w.heap.size, 1, none⟩ = some (.slice Aa na ca) := XB.cell 1
        have XBc2 : wq.cell? ⟨w.heap.size, 2, none⟩ = some (.slice As ns cs) := XB.cell 2
        have XBc3 : wq.cell? ⟨w.heap.size, 3, none⟩ = some (.slice Ah nhx ch) := XB.cell 3
        have XBc4 : wq.cell? ⟨w.heap.size, 4, none⟩ = some (.slice Af nf cf) := XB.cell 4
        have XBz := XB.lt
        have X9c0 : wq.cell? ⟨G9, 0, none⟩ = some (.slice Aqx nqx cqx) := X9.cell 0
        have X9c1 : wq.cell? ⟨G9, 1, none⟩ = some (.slice Aax nax cax) := X9.cell 1
        have X9c2 : wq.cell? ⟨G9, 2, none⟩ = some (.slice Asx nsx csx) := X9.cell 2
        have X9c3 : wq.cell? ⟨G9, 3, none⟩ = some (.slice Ahx nhx chx) := X9.cell 3
        have X9c4 : wq.cell? ⟨G9, 4, none⟩ = some (.slice Afx nfx cfx) := X9.cell 4
        have X9z := X9.lt
        rw [hA] at XBc3
        replace hA := Lib.hid hA
        go_upto_region 33 with fail
        clear XBc0 XBc1 XBc2 XBc3 XBc4 XBz
        clear X9c0 X9c1 X9c2 X9c3 X9c4 X9z
        clear hlm ch0 hA hbhz hbh
        have hrest : ∀ wz : World, Below w.heap.size w wz ∧ Box wz w.heap.size [.slice Aq nq cq, .slice Aa na ca, .slice As ns cs, .slice Ah nhx ch, .slice Af nf cf] ∧ Box wz G9 [.slice Aqx nqx cqx, .slice Aax nax cax, .slice Asx nsx csx, .slice Ahx nhx chx, .slice Afx nfx cfx] ∧ Hid (BxAt wz wz.heap.size (.slice Aq nq cq) (.slice Aa na ca) (.slice As ns cs) (.slice Ah nhx ch) (.slice Af nf cf) b) ∧ Hid (BxAt wz wz.heap.size (.slice Aqx nqx cqx) (.slice Aax nax cax) (.slice Asx nsx csx) (.slice Ahx nhx chx) (.slice Afx nfx cfx) x) → True := fun _ _ => trivial
        clear hrest
        go_loopw [25, 164] (fun tb i wr => ∃ j : Nat, j ≤ nq ∧ tb = .bool (b.thereP k j) ∧ i = .int .i64 j ∧ Below w.heap.size w wr ∧ Box wr w.heap.size [.slice Aq nq cq, .slice Aa na ca, .slice As ns cs, .slice Ah nhx ch, .slice Af nf cf] ∧ Box wr G9 [.slice Aqx nqx cqx, .slice Aax nax cax, .slice Asx nsx csx, .slice Ahx nhx chx, .slice Afx nfx cfx] ∧ Hid (BxAt wr wr.heap.size (.slice Aq nq cq) (.slice Aa na ca) (.slice As ns cs) (.slice Ah nhx ch) (.slice Af nf cf) b) ∧ Hid (BxAt wr wr.heap.size (.slice Aqx nqx cqx) (.slice Aax nax cax) (.slice Asx nsx csx) (.slice Ahx nhx chx) (.slice Afx nfx cfx) x)) (fun _ i _ => nq - (intOf i).toNat)
        case atStart => exact ⟨0, by omega, by rw [HT.out]; rfl, rfl, hB, XB, X9, hX, hXx⟩
        case round =>
          clear hB XB X9 hX hXx HT
          obtain ⟨j, hj, rfl, rfl, hB, XB, X9, hX, hXx⟩ := hrel
          obtain ⟨wt, rfl⟩ : ∃ wt : World, wt = wr := ⟨_, rfl⟩
          rcases Nat.lt_or_ge j nq with hjl | hjg
          · have hlm : (j : Int) < (nq : Int) := by omega
            have hjn : j < b.net.queue.length := by omega
            obtain ⟨n, o, r1, r2, r3, -⟩ := pkB_iff.1 ((okB_parts hok.out).2.2.2.2 _ (List.getElem_mem hjn))
            obtain ⟨bq, oq, V, rfl, hbq, q0, q1, q2, hV⟩ := hX.out.net.queue.pk hjn
            obtain ⟨tj, htj⟩ : ∃ tj, b.thereP k j = tj := ⟨_, rfl⟩
            obtain ⟨tk, htk⟩ : ∃ tk, b.thereP k (j + 1) = tk := ⟨_, rfl⟩
            have HTJ : Hid (tk = (tj || (decide (n + 1 = la) && !cu))) := by
              rw [Hid, ← htj, ← htk, thereP_succ hjn, bears_some r1, l3, hla.out, HCU.out]
            rw [htj]
            have HTK := Lib.hid htk
            clear htj htk
            have hpb := (okB_parts hok.out).2.2.2.2 _ (List.getElem_mem hjn)
            obtain ⟨p, hp⟩ : ∃ p, b.net.queue[j] = p := ⟨_, rfl⟩
            rw [hp] at q0 q1 hV r1 hpb
            clear hp
            obtain ⟨Ad, cd, rfl, hm9⟩ := hV.form
            have hdl : p.data.length ≤ 32 := (pk_facts (okB_parts hok.out).2.1 hpb hm9 (by omega)).1
            have HR := Lib.hid r1
            have hn4 : n < 4096 := by omega
            clear r1 r3 hm9 hpb
            obtain ⟨dz, hdz⟩ : ∃ dz, p.data.length = dz := ⟨_, rfl⟩
            rw [hdz] at q2 hV
            have HDL : Hid (p.data.length ≤ 79000000) := Lib.hid (by omega)
            clear hdz hdl
            replace hV := Lib.hid hV
            go_upto_region 35 with fail
            have hb := (Below.refl wt.heap.size wt).alloc (Nat.le_refl _) (.cells #[.int .i64 p.src, .int .i64 p.dst, .slice Ad dz cd] 51)
            have XM := Box.new wt [.int .i64 p.src, .int .i64 p.dst, .slice Ad dz cd] 51
            replace hV := hid_by hV hb
            replace XB := XB.later hb
            replace X9 := X9.later hb
            replace hX := hid_bx hX hb
            replace hXx := hid_bx hXx hb
            replace hB := hB.trans (hb.mono hB.size)
            clear hb
            generalize wt.alloc (.cells #[.int .i64 p.src, .int .i64 p.dst, .slice Ad dz cd] 51) = wu at XB X9 hX hXx hB XM hV ⊢
            generalize wt.heap.size = GM at XM ⊢
            have d2 : wu.cell? ⟨GM, 2, none⟩ = some (.slice Ad dz cd) := XM.cell 2
            have dzz := XM.lt
            clear q0 q1 q2 hbq
            go_wp2_with fail
            refine (rRead_is (T := some (n, o)) HR hV.out HDL.out).mono ?_
            rintro e wv ⟨he, hb⟩
            obtain rfl : e = .returned (.tuple #[.int .i64 n, .int .i64 o, .bool true]) := he
            replace XB := XB.later hb
            replace X9 := X9.later hb
            replace hX := hid_bx hX hb
            replace hXx := hid_bx hXx hb
            replace hB := hB.trans (hb.mono hB.size)
            clear hb d2 dzz XM hV HR HDL
            cases tj with
            | true =>
              obtain rfl : tk = true := HTJ.out
              go_wp2
              exact ⟨⟨j + 1, by omega, by rw [HTK.out], by go_num, hB, XB, X9, hX, hXx⟩, by simp [intOf]; omega⟩
            | false =>
              by_cases hnl : n + 1 = la
              · obtain rfl : tk = !cu := by rw [HTJ.out, decide_eq_true hnl]; cases cu <;> rfl
                have e1 : (la == la) = true := by simp
                cases cu with
                | true =>
                  go_wp2
                  exact ⟨⟨j + 1, by omega, by rw [HTK.out]; first | done | rfl, by go_num, hB, XB, X9, hX, hXx⟩, by simp [intOf]; omega⟩
                | false =>
                  go_wp2
                  exact ⟨⟨j + 1, by omega, by rw [HTK.out]; first | done | rfl, by go_num, hB, XB, X9, hX, hXx⟩, by simp [intOf]; omega⟩
              · obtain rfl : tk = false := by rw [HTJ.out, decide_eq_false hnl]; cases cu <;> rfl
                have e1 : (n + 1 == la) = false := by simp [hnl]
                go_wp2
                exact ⟨⟨j + 1, by omega, by rw [HTK.out], by go_num, hB, XB, X9, hX, hXx⟩, by simp [intOf]; omega⟩
          obtain rfl : nq = j := by omega
          have hlm : ¬ ((nq : Int) < (nq : Int)) := by omega
          obtain ⟨tb, htb⟩ : ∃ tb, b.thereP k nq = tb := ⟨_, rfl⟩
          rw [htb]
          cases tb with
          | false =>
            clear htb
            go_wp2
            exact ⟨⟨k + 1, by omega, by go_num, hB, XB, X9, hX, hXx⟩, by simp [intOf]; omega⟩
          | true =>
            have hxk : Hid (x.heard.getD k 0 = la) := by
              have h9 := hDx.out.h (g := k) (by omega)
              rw [there_top hok.out (by omega) (by rw [← thereP_all, l1]; exact htb), l3, hla.out] at h9
              exact h9
            obtain ⟨bx, ox, hA, hbx, cx⟩ := hXx.out.heard.2.one (k := k) (by have h9 := hXx.out.lens; omega)
            rw [hxk.out] at cx
            have e1 : (la != la) = false := by simp
            clear htb
            have XBc0 : wt.cell? ⟨w.heap.size, 0, none⟩ = some (.slice Aq nq cq) := XB.cell 0
            have XBc1 : wt.cell? ⟨w.heap.size, 1, none⟩ = some (.slice Aa na ca) := XB.cell 1
            have XBc2 : wt.cell? ⟨w.heap.size, 2, none⟩ = some (.slice As ns cs) := XB.cell 2
            have XBc3 : wt.cell? ⟨w.heap.size, 3, none⟩ = some (.slice Ah nhx ch) := XB.cell 3
            have XBc4 : wt.cell? ⟨w.heap.size, 4, none⟩ = some (.slice Af nf cf) := XB.cell 4
            have XBz := XB.lt
            have X9c0 : wt.cell? ⟨G9, 0, none⟩ = some (.slice Aqx nqx cqx) := X9.cell 0
            have X9c1 : wt.cell? ⟨G9, 1, none⟩ = some (.slice Aax nax cax) := X9.cell 1
            have X9c2 : wt.cell? ⟨G9, 2, none⟩ = some (.slice Asx nsx csx) := X9.cell 2
            have X9c3 : wt.cell? ⟨G9, 3, none⟩ = some (.slice Ahx nhx chx) := X9.cell 3
            have X9c4 : wt.cell? ⟨G9, 4, none⟩ = some (.slice Afx nfx cfx) := X9.cell 4
            have X9z := X9.lt
            rw [hA] at X9c3
            replace hA := Lib.hid hA
            go_wp2
            exact ⟨⟨k + 1, by omega, by go_num, hB, XB, X9, hX, hXx⟩, by simp [intOf]; omega⟩
theorem law_OrdersAll (b : Bx) (Vq Va Vs Vh Vf : Value) (t1 : List UInt8) (v1 : Value) (t2 : List UInt8) (v2 : Value) (ag : Int) (w : World) (h : BxAt w w.heap.size Vq Va Vs Vh Vf b) (h1 : BytesAt w w.heap.size v1 t1) (h2 : BytesAt w w.heap.size v2 t2) (hag : 0 ≤ ag ∧ ag ≤ 255) :
    Calls Try.prog 5 #[.agg #[Vq, Va, Vs, Vh, Vf], v1, v2, .int .u8 ag] w fun e w' => e = .returned (.bool true) ∧ Below w.heap.size w w' := by
  obtain ⟨_, _, _, _, _, _, _, _, _, _, _, _, _, _, _, rfl, rfl, rfl, rfl, rfl⟩ := h.forms5
  obtain ⟨_, _, rfl, _⟩ := h1.form
  obtain ⟨_, _, rfl, _⟩ := h2.form
  exact law_All_go b _ _ _ _ _ _ _ _ _ _ _ _ _ _ _ _ _ _ t1 _ _ _ t2 ag w (Lib.hid h) (Lib.hid h1) (Lib.hid h2) hag
end Go.Proofs.Ytmbifmmkccghfaa
