/- The law CascadeUpper. (Printed by pp.py.) No condition. -/
import Derived.Test.YtcjcjkomcolgeaaQEC
import Derived.Test.YtcjcjkomcolgeaaQED
import Derived.Test.YtcjcjkomcolgeaaQEN
set_option linter.unusedVariables false
set_option linter.unusedSimpArgs false
namespace Go.Proofs.Ytcjcjkomcolgeaa
open Go.RowKit
attribute [local go_sem ↓ high] app_named

set_option maxRecDepth 100000 in
set_option maxHeartbeats 4000000 in
theorem law_CascadeUpper (x : Cs) (Vp Vc Vb : Value) (l : List Hr) (Vl : Value) (u : Int) (w : World) (hx2 : CsAt w w.heap.size Vp Vc Vb x ∧ Capped Vp ∧ Capped Vc ∧ Capped Vb) (hl : HrsAt w w.heap.size Vl l) (hu : 0 ≤ u ∧ u ≤ 255) : Calls Try.prog 6 #[.agg #[Vp, Vc, Vb], Vl, .int .u8 u] w fun e w' => e = .returned (.bool true) ∧ Below w.heap.size w w' := by
  obtain ⟨hx, hcp, hcc, hcb⟩ := hx2
  obtain ⟨Ap, kp, rfl, -⟩ := hx.plants.form
  obtain ⟨Ac, kc, rfl, -⟩ := hx.codes.form
  obtain ⟨Ab, kb, rfl, -⟩ := hx.bars.form
  obtain ⟨Al, kl, rfl, -⟩ := hl.form
  have hcp := hcp _ _ _ rfl
  have hcc := hcc _ _ _ rfl
  have hcb := hcb _ _ _ rfl
  obtain ⟨n, hn⟩ : ∃ n, x.plants.length = n := ⟨_, rfl⟩
  obtain ⟨nc, hnc⟩ : ∃ n, x.codes.length = n := ⟨_, rfl⟩
  obtain ⟨nb, hnb⟩ : ∃ n, x.bars.length = n := ⟨_, rfl⟩
  obtain ⟨m, hm⟩ : ∃ n, l.length = n := ⟨_, rfl⟩
  rw [hn] at hcp
  rw [hnc] at hcc
  rw [hnb] at hcb
  rw [hn, hnc, hnb] at hx ⊢
  rw [hm] at hl ⊢
  have HX := Lib.hid hx
  have HL := Lib.hid hl
  have HX0 := HX
  have HL0 := HL
  have HN := Lib.hid hn
  have HNC := Lib.hid hnc
  have HNB := Lib.hid hnb
  have HM := Lib.hid hm
  clear hn hnc hnb hx hm hl
  have hB := (Below.refl w.heap.size w).alloc (Nat.le_refl _) (.cells #[.slice Ap n kp, .slice Ac nc kc, .slice Ab nb kb] 26)
  have X1 := Box.new w [.slice Ap n kp, .slice Ac nc kc, .slice Ab nb kb] 26
  go_enter Try.func6, Try.ntmps6
  go_wp2_with fail
  generalize w.alloc (.cells #[.slice Ap n kp, .slice Ac nc kc, .slice Ab nb kb] 26) = w1 at hB X1 ⊢
  refine (lSane_any w1).mono ?_
  rintro e w2 ⟨rfl, hb⟩
  have hB := hB.trans (hb.mono hB.size)
  have X1 := X1.later hb
  clear hb HX HL
  have z1 := X1.lt
  have X1c0 : w2.cell? ⟨w.heap.size, 0, none⟩ = some (.slice Ap n kp) := X1.cell 0
  have X1c1 : w2.cell? ⟨w.heap.size, 1, none⟩ = some (.slice Ac nc kc) := X1.cell 1
  have X1c2 : w2.cell? ⟨w.heap.size, 2, none⟩ = some (.slice Ab nb kb) := X1.cell 2
  go_wp2_with fail
  refine (rCsFew_at (HX0.out.later hB)).mono ?_
  rintro e w3 ⟨t, rfl, hb⟩
  have hB := hB.trans (hb.mono hB.size)
  have X1 := X1.later hb
  clear hb z1 X1c0 X1c1 X1c2
  cases t with
  | false =>
    go_wp2
    go_ret
    exact ⟨rfl, hB⟩
  | true =>
    by_cases h24 : m ≤ 24
    rotate_left
    · have hd : decide ((24 : Int) < (m : Int)) = true := decide_eq_true (by omega)
      have hd2 : (24 : Int) < (m : Int) := by omega
      go_wp2
      go_ret
      exact ⟨rfl, hB⟩
    have hd : decide ((24 : Int) < (m : Int)) = false := decide_eq_false (by omega)
    have hd2 : ¬ ((24 : Int) < (m : Int)) := by omega
    obtain ⟨ck, hck⟩ : ∃ ck, Hid (x.checkT = ck) := ⟨_, Lib.hid rfl⟩
    have z1 := X1.lt
    have X1c0 : w3.cell? ⟨w.heap.size, 0, none⟩ = some (.slice Ap n kp) := X1.cell 0
    have X1c1 : w3.cell? ⟨w.heap.size, 1, none⟩ = some (.slice Ac nc kc) := X1.cell 1
    have X1c2 : w3.cell? ⟨w.heap.size, 2, none⟩ = some (.slice Ab nb kb) := X1.cell 2
    go_wp2_with fail
    refine (mCheck_is hck (HX0.out.later hB)).mono ?_
    rintro e w4 ⟨rfl, hb⟩
    have hB := hB.trans (hb.mono hB.size)
    have X1 := X1.later hb
    clear hb z1 X1c0 X1c1 X1c2
    by_cases hc0 : ck = 0
    rotate_left
    · have he : (ck != 0) = true := by simp [hc0]
      go_wp2
      go_ret
      exact ⟨rfl, hB⟩
    subst hc0
    have hR := Lib.hid (cs_right hck.out)
    rw [HN.out] at hR
    have hpos := hR.out.pos
    have hmost := hR.out.most
    obtain rfl : n = nc := by rw [← HNC.out]; exact hR.out.codes.symm
    obtain rfl : n = nb := by rw [← HNB.out]; exact hR.out.bars.symm
    obtain ⟨bp, op, rfl, -, -⟩ := HX0.out.plants.plant (k := 0) (by rw [HN.out]; omega)
    obtain ⟨bc, oc, -, rfl, -, -⟩ := HX0.out.codes.code (k := 0) (by rw [HNC.out]; omega)
    obtain ⟨bb, ob, -, rfl, -, -⟩ := HX0.out.bars.bar (k := 0) (by rw [HNB.out]; omega)
    obtain ⟨G, hG⟩ : ∃ G, u.tmod (n : Int) = G := ⟨_, rfl⟩
    have hG0 := tmod_in (a := u) (m := (n : Int)) hu.1 (by omega)
    rw [hG] at hG0
    obtain ⟨k, hk⟩ : ∃ k : Nat, (k : Int) = 1 + G := ⟨(1 + G).toNat, by omega⟩
    have hk1 : 0 < k := by omega
    have hkn : k ≤ n := by omega
    have hz0 : ((n : Int) == 0) = false := by simp; omega
    have hz1 : ¬ ((n : Int) = 0) := by omega
    have hz2 : ¬ (n = 0) := by omega
    have hw1 : IntKind.i64.wrap u = u := wrap_id (by omega) (by omega)
    have hw2 : IntKind.i64.wrap G = G := wrap_id (by omega) (by omega)
    have hw3 : IntKind.i64.wrap (1 + G) = (k : Int) := by rw [wrap_id (by omega) (by omega)]; omega
    have z1 := X1.lt
    have X1c0 : w4.cell? ⟨w.heap.size, 0, none⟩ = some (.slice (some ⟨bp, op, none⟩) n kp) := X1.cell 0
    have HK := Lib.hid hk
    clear hk
    go_upto_region 8 with fail
    clear hw1 hw2 hw3 hz0 hz1 hz2 hG0 hG z1 X1c0 hd hd2 HK
    have hSV : Hid ((l.map x.stepT).all x.stepB = true) := Lib.hid (steps_ok hR.out HL0.out.ok)
    have hsz : w.heap.size + 1 ≤ w4.heap.size := X1.lt
    have hP0 : Hid (Pair w4 (w.heap.size + 1) (.slice none 0 0) (.slice none 0 0) [] []) := Lib.hid (Pair.nil _ _)
    go_loopw [8, 9, 49] (fun s8 s9 s wr => ∃ (i : Nat) (V U : Value) (L K : List Sq), i ≤ m ∧ V = s8 ∧ U = s9 ∧ s = .int .i64 i ∧ Hid (Pair wr (w.heap.size + 1) V U L K) ∧ Hid (L.map (·.s) = (l.take i).map x.stepT) ∧ Hid (K.map (·.s) = ((l.take i).map x.stepT).map (Sp.up · k)) ∧ Box wr w.heap.size [.slice (some ⟨bp, op, none⟩) n kp, .slice (some ⟨bc, oc, none⟩) n kc, .slice (some ⟨bb, ob, none⟩) n kb] ∧ Below w.heap.size w wr ∧ w.heap.size + 1 ≤ wr.heap.size) (fun _ _ s _ => m - (intOf s).toNat)
    case atStart => exact ⟨0, _, _, [], [], by omega, rfl, rfl, rfl, hP0, Lib.hid rfl, Lib.hid rfl, X1, hB, hsz⟩
    case round =>
      clear hP0 X1 hB hsz
      obtain ⟨i, V, U, L, K, hi, rfl, rfl, rfl, HP, HSa, HSb, X1, hB, hsz⟩ := hrel
      obtain ⟨wo, rfl⟩ : ∃ wo : World, wo = wr := ⟨_, rfl⟩
      rcases Nat.lt_or_ge i m with hlt | hge
      rotate_left
      · obtain rfl : i = m := by omega
        have hi3 : ¬ ((i : Int) < (i : Int)) := by omega
        rw [List.take_of_length_le (by rw [HM.out]; exact Nat.le_refl _)] at HSa HSb
        have hS1 := row_steps HP.out.a HSa.out HN.out hmost (by rw [HM.out]; exact h24)
        have hS2 := Lib.hid (row_stepsU HP.out.b HSb.out HN.out hmost (by rw [HM.out]; exact h24))
        obtain ⟨sts, bad, er, hr1⟩ : ∃ sts bad er, Hid (x.playT (l.map x.stepT) = (sts, bad, er)) := ⟨_, _, _, Lib.hid rfl⟩
        obtain ⟨sts', bad', er', hr2⟩ : ∃ sts bad er, Hid ((x.up k).playT ((l.map x.stepT).map (Sp.up · k)) = (sts, bad, er)) := ⟨_, _, _, Lib.hid rfl⟩
        have hcase : Hid ((er = 0 ∧ sts.length = n ∧ er' = 0 ∧ sts' = sts.take k ∧ (bad ≤ (k : Int) → bad' = bad)) ∨ er = 350) := by
          rcases up_end hR.out hk1 hkn hSV.out (by rw [List.length_map, HM.out]; omega) with ⟨g, g', e1, e2, e3, e4⟩ | ⟨e1, _⟩
          · rw [hr1.out] at e1
            rw [hr2.out] at e3
            simp only [Prod.mk.injEq] at e1 e3
            obtain ⟨rfl, rfl, rfl⟩ := e1
            obtain ⟨rfl, rfl, rfl⟩ := e3
            exact Lib.hid (.inl ⟨rfl, e2, rfl, rfl, e4⟩)
          · rw [hr1.out] at e1
            simp only [Prod.mk.injEq] at e1
            exact Lib.hid (.inr e1.2.2)
        obtain ⟨ns, hns⟩ : ∃ ns, Hid (sts.length = ns) := ⟨_, Lib.hid rfl⟩
        obtain ⟨ns', hns'⟩ : ∃ ns, Hid (sts'.length = ns) := ⟨_, Lib.hid rfl⟩
        have z1 := X1.lt
        have X1c0 : wo.cell? ⟨w.heap.size, 0, none⟩ = some (.slice (some ⟨bp, op, none⟩) n kp) := X1.cell 0
        have X1c1 : wo.cell? ⟨w.heap.size, 1, none⟩ = some (.slice (some ⟨bc, oc, none⟩) n kc) := X1.cell 1
        have X1c2 : wo.cell? ⟨w.heap.size, 2, none⟩ = some (.slice (some ⟨bb, ob, none⟩) n kb) := X1.cell 2
        go_wp2_with fail
        refine (play_any hr1 hns (HX0.out.later hB) hS1).mono ?_
        rintro e w5 ⟨A5, c5, rfl, hc5, hS5, hb⟩
        have hB := hB.trans (hb.mono hB.size)
        have X1 := X1.later hb
        have hS2 := Lib.hid ((hS2.out.below hb).more hb.size)
        have HS5 := Lib.hid hS5
        clear hb z1 X1c0 X1c1 X1c2 hS1 hS5 HP hsz HSa HSb
        have z1 := X1.lt
        have X1c0 : w5.cell? ⟨w.heap.size, 0, none⟩ = some (.slice (some ⟨bp, op, none⟩) n kp) := X1.cell 0
        have X1c1 : w5.cell? ⟨w.heap.size, 1, none⟩ = some (.slice (some ⟨bc, oc, none⟩) n kc) := X1.cell 1
        have X1c2 : w5.cell? ⟨w.heap.size, 2, none⟩ = some (.slice (some ⟨bb, ob, none⟩) n kb) := X1.cell 2
        go_wp2_with fail
        refine (lUpper_is bp op bc oc bb ob n n n kp kc kb k w5 hk1 (by omega) (by omega) (by omega)).mono ?_
        rintro e w6 ⟨rfl, hb⟩
        have hB := hB.trans (hb.mono hB.size)
        have X1 := X1.later hb
        have hS2 := Lib.hid ((hS2.out.below hb).more hb.size)
        have HS5 := Lib.hid ((HS5.out.below hb).more hb.size)
        clear hb z1 X1c0 X1c1 X1c2
        go_wp2_with fail
        refine (play_any hr2 hns' ((HX0.out.later hB).up (by rw [HN.out]; exact hkn) (by rw [HNC.out]; exact hkn) (by rw [HNB.out]; exact hkn)) hS2.out).mono ?_
        rintro e w7 ⟨A7, c7, rfl, -, hS7, hb⟩
        have hB := hB.trans (hb.mono hB.size)
        have X1 := X1.later hb
        have HS5 := Lib.hid ((HS5.out.below hb).more hb.size)
        have HS7 := Lib.hid hS7
        clear hb hS2 hS7
        go_upto_if 97 with fail
        go_cut [] (fun wx => Below w7.heap.size w7 wx)
        case first =>
          have z1 := X1.lt
          have X1c0 : w7.cell? ⟨w.heap.size, 0, none⟩ = some (.slice (some ⟨bp, op, none⟩) n kp) := X1.cell 0
          rcases hcase.out with ⟨h1, h2, h3, h4, h5⟩ | h1
          · obtain rfl : ns = n := by rw [← hns.out]; exact h2
            obtain rfl : ns' = k := by rw [← hns'.out, h4, List.length_take]; omega
            subst h1 h3 h4
            obtain ⟨b5, o5, rfl, -⟩ := HS5.out.state (k := 0) (by omega)
            have hpre := Lib.hid (StsAt.pre (m := ns') HS5.out (by omega))
            have H5 := Lib.hid h5
            have s1 : ¬ ((c5 : Int) < (ns' : Int)) := by omega
            have s2 : ¬ (c5 < ns') := by omega
            have s3 : 0 < c5 := by omega
            have hnn : ((ns : Int) != (ns : Int)) = false := by simp
            clear h5 h2 hcase
            go_wp2_with fail
            refine (rSame_refl (sts.take ns') _ _ w7 hpre.out HS7.out).mono ?_
            rintro e w8 ⟨rfl, hb8⟩
            clear s1 s2 s3 hnn z1 X1c0
            by_cases hbk : bad ≤ (ns' : Int)
            · obtain rfl := H5.out hbk
              have d1 : decide (bad' ≤ (ns' : Int)) = true := decide_eq_true hbk
              have d2 : (bad' != bad') = false := by simp
              go_wp2_with fail
              go_meet
              exact hb8
            · have d1 : decide (bad ≤ (ns' : Int)) = false := decide_eq_false hbk
              go_wp2_with fail
              go_meet
              exact hb8
          · subst h1
            clear hcase
            go_wp2_with fail
            go_meet
            exact Below.refl _ _
        case rest =>
          have hB := hB.trans (hcut.mono hB.size)
          have X1 := X1.later hcut
          clear hcut HS5 HS7 hcase hr1 hr2 hns hns' hc5
          have z1 := X1.lt
          have X1c0 : wc.cell? ⟨w.heap.size, 0, none⟩ = some (.slice (some ⟨bp, op, none⟩) n kp) := X1.cell 0
          have X1c1 : wc.cell? ⟨w.heap.size, 1, none⟩ = some (.slice (some ⟨bc, oc, none⟩) n kc) := X1.cell 1
          have X1c2 : wc.cell? ⟨w.heap.size, 2, none⟩ = some (.slice (some ⟨bb, ob, none⟩) n kb) := X1.cell 2
          by_cases hkn2 : k = n
          · subst hkn2
            have hnn : ((k : Int) == (k : Int)) = true := by simp
            go_wp2
            go_ret
            exact ⟨rfl, hB⟩
          have hnn : ((k : Int) == (n : Int)) = false := by simp; omega
          have hnn2 : ¬ ((k : Int) = (n : Int)) := by omega
          obtain ⟨n', hn'⟩ : ∃ n' : Nat, Hid (n = n' + 1) := ⟨n - 1, Lib.hid (by omega)⟩
          have hn1 : 0 < n' := by have := hn'.out; omega
          have hn2 : n' ≤ n := by have := hn'.out; omega
          have hw1 : IntKind.i64.wrap ((n : Int) - 1) = (n' : Int) := by rw [wrap_id (by omega) (by omega)]; have := hn'.out; omega
          obtain ⟨ct, ci, hct⟩ : ∃ ct ci, Hid (x.certT = (ct, ci, 0)) := cert_zero hck.out
          obtain ⟨dt, di, hdt⟩ : ∃ ct ci, Hid ((x.up n').certT = (ct, ci, 0)) := cert_zero (right_zero (up_right hR.out hn1 hn2))
          go_wp2_with fail
          refine (mCertified_is hct (HX0.out.later hB)).mono ?_
          rintro e w5 ⟨rfl, hb⟩
          have hB := hB.trans (hb.mono hB.size)
          have X1 := X1.later hb
          clear hb z1 X1c0 X1c1 X1c2 hnn
          have z1 := X1.lt
          have X1c0 : w5.cell? ⟨w.heap.size, 0, none⟩ = some (.slice (some ⟨bp, op, none⟩) n kp) := X1.cell 0
          have X1c1 : w5.cell? ⟨w.heap.size, 1, none⟩ = some (.slice (some ⟨bc, oc, none⟩) n kc) := X1.cell 1
          have X1c2 : w5.cell? ⟨w.heap.size, 2, none⟩ = some (.slice (some ⟨bb, ob, none⟩) n kb) := X1.cell 2
          go_wp2_with fail
          refine (lUpper_is bp op bc oc bb ob n n n kp kc kb n' w5 hn1 (by omega) (by omega) (by omega)).mono ?_
          rintro e w6 ⟨rfl, hb⟩
          have hB := hB.trans (hb.mono hB.size)
          clear hb z1 X1c0 X1c1 X1c2 hw1
          go_wp2_with fail
          refine (mCertified_is hdt ((HX0.out.later hB).up (by rw [HN.out]; exact hn2) (by rw [HNC.out]; exact hn2) (by rw [HNB.out]; exact hn2))).mono ?_
          rintro e w7' ⟨rfl, hb⟩
          have hB := hB.trans (hb.mono hB.size)
          cases ct with
          | false =>
            go_wp2
            go_ret
            exact ⟨rfl, hB⟩
          | true =>
            obtain rfl : dt = true := by
              have := up_cert hR.out (by rw [hct.out]) hn1 hn2
              rw [hdt.out] at this
              simp only [Prod.mk.injEq] at this
              exact this.1
            go_wp2
            go_ret
            exact ⟨rfl, hB⟩
      have hi3 : (i : Int) < (m : Int) := by omega
      have hil : i < l.length := by rw [HM.out]; exact hlt
      obtain ⟨gb, og, M, Q, rfl, hgb, c0, c1, c2, hf01, hM, hK⟩ := HL0.out.hour (k := i) hil
      have hok := HL0.out.ok _ (List.getElem_mem hil)
      obtain ⟨am, cm, rfl, -⟩ := hM.form
      obtain ⟨ak, ck, rfl, -⟩ := hK.form
      obtain ⟨h, hh⟩ : ∃ h, l[i] = h := ⟨_, rfl⟩
      rw [hh] at c0 c1 c2 hM hK hok
      obtain ⟨nm, hnm⟩ : ∃ n, h.msgs.length = n := ⟨_, rfl⟩
      obtain ⟨nk, hnk⟩ : ∃ n, h.stuck.length = n := ⟨_, rfl⟩
      obtain ⟨f, hf⟩ : ∃ n, h.feed = n := ⟨_, rfl⟩
      rw [hnm] at c1 hM
      rw [hnk] at c2 hK
      rw [hf] at c0
      have HH := Lib.hid hh
      have HNM := Lib.hid hnm
      have HNK := Lib.hid hnk
      have HF := Lib.hid hf
      have HOK := Lib.hid hok
      have HUM := Lib.hid hM
      have HUK := Lib.hid hK
      clear hh hnm hnk hf hok hM hK hf01
      have c0 := (hB.cell hgb).trans c0
      have c1 := (hB.cell hgb).trans c1
      have c2 := (hB.cell hgb).trans c2
      have hgz := Nat.lt_of_lt_of_le hgb hB.size
      go_upto_region 10 with fail
      have Y := Box.new wo [.int .u8 f, .slice am nm cm, .slice ak nk ck] 48
      have hal := (Below.refl wo.heap.size wo).alloc (Nat.le_refl _) (.cells #[.int .u8 f, .slice am nm cm, .slice ak nk ck] 48)
      have X1 := X1.later hal
      have HP := Lib.hid (HP.out.later hal)
      have hB := hB.trans (hal.mono hB.size)
      have hsz := Nat.le_trans hsz hal.size
      clear hal c0 c1 c2 hgz
      generalize wo.alloc (.cells #[.int .u8 f, .slice am nm cm, .slice ak nk ck] 48) = wa at Y X1 HP hB hsz ⊢
      generalize wo.heap.size = D1 at Y ⊢
      have z1 := X1.lt
      have zy := Y.lt
      have X1c0 : wa.cell? ⟨w.heap.size, 0, none⟩ = some (.slice (some ⟨bp, op, none⟩) n kp) := X1.cell 0
      have X1c1 : wa.cell? ⟨w.heap.size, 1, none⟩ = some (.slice (some ⟨bc, oc, none⟩) n kc) := X1.cell 1
      have X1c2 : wa.cell? ⟨w.heap.size, 2, none⟩ = some (.slice (some ⟨bb, ob, none⟩) n kb) := X1.cell 2
      have Yc0 : wa.cell? ⟨D1, 0, none⟩ = some (.int .u8 f) := Y.cell 0
      have Yc1 : wa.cell? ⟨D1, 1, none⟩ = some (.slice am nm cm) := Y.cell 1
      have Yc2 : wa.cell? ⟨D1, 2, none⟩ = some (.slice ak nk ck) := Y.cell 2
      have HP0w := HP
      go_wp2_with fail
      refine (lStep_is x n h (some ⟨bp, op, none⟩) (some ⟨bc, oc, none⟩) (some ⟨bb, ob, none⟩) am ak kp kc kb cm ck nm nk wa hR (Lib.hid (HX0.out.later hB)) HOK (Lib.hid ((HUM.out.below hB).more hB.size)) HNM (Lib.hid ((HUK.out.below hB).more hB.size)) HNK f HF).mono ?_
      rintro e w2 ⟨M2, K2, B2, rfl, hB2, hT2, hw2⟩
      have hB := hB.trans (hw2.mono hB.size)
      have X1 := X1.later hw2
      have HP := Lib.hid (HP.out.later hw2)
      have hsz := Nat.le_trans hsz hw2.size
      have hwa := hw2.size
      clear hw2 z1 zy X1c0 X1c1 X1c2 Yc0 Yc1 Yc2 Y
      have e1 : (x.stepT h).msgs.length = n := by simp [Cs.stepT, HN.out]
      have e2 : (x.stepT h).stuck.length = n := by simp [Cs.stepT, HN.out]
      obtain ⟨bM, cM, eM, hcM⟩ := hT2.m.cap (by omega)
      obtain ⟨bK, cK, eK, hcK⟩ := hT2.k.cap (by omega)
      rw [e1] at eM hcM
      rw [e2] at eK hcK
      subst eM eK
      have HT2 := Lib.hid hT2
      clear hT2
      go_upto_region 11 with fail
      have XD := Box.new w2 [.int .i64 (x.stepT h).feed, .slice (some ⟨bM, 0, none⟩) n cM, .slice (some ⟨bK, 0, none⟩) n cK] 44
      have hal := (Below.refl w2.heap.size w2).alloc (Nat.le_refl _) (.cells #[.int .i64 (x.stepT h).feed, .slice (some ⟨bM, 0, none⟩) n cM, .slice (some ⟨bK, 0, none⟩) n cK] 44)
      have hPB : ∀ b, (V.ownBlock = some b ∨ U.ownBlock = some b) → b < wa.heap.size := fun b hb => hb.elim (fun hb => HP0w.out.a.own.block_lt hb) (fun hb => HP0w.out.b.own.block_lt hb)
      have X1 := X1.later hal
      have HP := Lib.hid (HP.out.later hal)
      have HT2 := Lib.hid (HT2.out.later hal)
      have hB := hB.trans (hal.mono hB.size)
      have hsz := Nat.le_trans hsz hal.size
      have hwD : wa.heap.size ≤ w2.heap.size := hwa
      clear hal
      generalize w2.alloc (.cells #[.int .i64 (x.stepT h).feed, .slice (some ⟨bM, 0, none⟩) n cM, .slice (some ⟨bK, 0, none⟩) n cK] 44) = w3 at XD X1 HP HT2 hB hsz ⊢
      generalize w2.heap.size = D at XD hwD ⊢
      have hq1 : OwnI w3 (w.heap.size + 1) (.slice (some ⟨bM, 0, none⟩) n cM) (x.stepT h).msgs ∧ OwnB w3 (w.heap.size + 1) (.slice (some ⟨bK, 0, none⟩) n cK) (x.stepT h).stuck := ⟨HT2.out.m.less (by omega), HT2.out.k.less (by omega)⟩
      have hqb : ∀ b, (Sq.mk (.slice (some ⟨bM, 0, none⟩) n cM) (.slice (some ⟨bK, 0, none⟩) n cK) (x.stepT h)).has b → B2 ≤ b := fun b hb => hb.elim (fun hb => HT2.out.m.block_ge hb) (fun hb => HT2.out.k.block_ge hb)
      have XN := Box.new w3 [.int .i64 (x.stepT h).feed, .slice (some ⟨bM, 0, none⟩) n cM, .slice (some ⟨bK, 0, none⟩) n cK] 44
      have hal := (Below.refl w3.heap.size w3).alloc (Nat.le_refl _) (.cells #[.int .i64 (x.stepT h).feed, .slice (some ⟨bM, 0, none⟩) n cM, .slice (some ⟨bK, 0, none⟩) n cK] 44)
      have hPa := HP.out.later hal
      have hsal := hal.size
      have hLl : L.length = i := by
        have := congrArg List.length HSa.out
        rw [List.length_map, List.length_map, List.length_take] at this
        omega
      have hKl : K.length = i := by
        have := congrArg List.length HSb.out
        rw [List.length_map, List.length_map, List.length_map, List.length_take] at this
        omega
      obtain ⟨g1, c1, w4', hr, hP1, hg1, hbx, hbb⟩ := hPa.step ⟨.slice (some ⟨bM, 0, none⟩) n cM, .slice (some ⟨bK, 0, none⟩) n cK, x.stepT h⟩ ⟨hq1.1.later hal, hq1.2.later hal⟩ (fun b hb hV => by have := hqb b hb; have := hPB b (.inl hV); omega) (fun b hb hV => by have := hqb b hb; have := hPB b (.inr hV); omega) 33 XN (by omega) (by omega)
      have hHSa : Hid ((L ++ [(⟨.slice (some ⟨bM, 0, none⟩) n cM, .slice (some ⟨bK, 0, none⟩) n cK, x.stepT h⟩ : Sq)]).map (·.s) = (l.take (i + 1)).map x.stepT) := Lib.hid (by rw [List.map_append, HSa.out, take_snoc_map hil, HH.out]; rfl)
      rw [hLl] at hr hP1
      have hB3 := hB.trans (hal.mono hB.size)
      have XD4 := hbx D _ (XD.later hal) (fun c hc => by have := hPB c (.inl hc); omega)
      have X14 := hbx _ _ (X1.later hal) (fun c hc => by have := hPa.a.own.block_ge hc; omega)
      have hB4 := hbb _ _ hB3 (by omega)
      have hs4 := hg1.size
      have hsz4 : w.heap.size + 1 ≤ w4'.heap.size := by omega
      have hq4 := (hP1.a.msg _ (List.mem_append_right _ (List.mem_singleton.2 rfl)))
      have HQ4 := Lib.hid hq4
      have HP1 := Lib.hid hP1
      clear hP1 hg1 hbx hbb hPa XN hal hsal hB3 hPB hqb hq1 hq4 hs4 HT2 HP hB X1
      have xd : w3.cell? ⟨D, 0, none⟩ = some (.int .i64 (x.stepT h).feed) := XD.cell 0
      have xd1 : w3.cell? ⟨D, 1, none⟩ = some (.slice (some ⟨bM, 0, none⟩) n cM) := XD.cell 1
      have xd2 : w3.cell? ⟨D, 2, none⟩ = some (.slice (some ⟨bK, 0, none⟩) n cK) := XD.cell 2
      have xdz := XD.lt
      go_upto_region 12 with fail
      clear xd xd1 xd2 xdz hr XD
      have hd := (Below.refl w4'.heap.size w4').drew
      have zD := XD4.lt
      have XD4c0 : w4'.cell? ⟨D, 0, none⟩ = some (.int .i64 (x.stepT h).feed) := XD4.cell 0
      have XD4c1 : w4'.cell? ⟨D, 1, none⟩ = some (.slice (some ⟨bM, 0, none⟩) n cM) := XD4.cell 1
      have XD4c2 : w4'.cell? ⟨D, 2, none⟩ = some (.slice (some ⟨bK, 0, none⟩) n cK) := XD4.cell 2
      have v0 : ∀ z : Later w4', z.w.cell? ⟨D, 0, none⟩ = some (.int .i64 (x.stepT h).feed) := Later.cell XD4c0 zD
      have v1 : ∀ z : Later w4', z.w.cell? ⟨D, 1, none⟩ = some (.slice (some ⟨bM, 0, none⟩) n cM) := Later.cell XD4c1 zD
      have v2 : ∀ z : Later w4', z.w.cell? ⟨D, 2, none⟩ = some (.slice (some ⟨bK, 0, none⟩) n cK) := Later.cell XD4c2 zD
      have s1 : ¬ ((cM : Int) < (k : Int)) := by omega
      have s2 : ¬ (cM < k) := by omega
      have s3 : 0 < cM := by omega
      have s4 : ¬ ((cK : Int) < (k : Int)) := by omega
      have s5 : ¬ (cK < k) := by omega
      have s6 : 0 < cK := by omega
      refine wp_region_upto (C := fun w' => ∃ x : Later w4', w' = x.w) 13 [0, 1, 2, 3, 4, 5, 6, 7, 8, 9, 10, 11] (by kernel_rfl) (by kernel_rfl) (Later.mk' hd) (fun _ _ h => h) ?_
      simp only [headOps, List.filterMap_cons, List.filterMap_nil, List.getElem?_toArray, List.getElem?_cons_succ, List.getElem?_cons_zero]
      repeat (first | go_big_quiet_skip | (show wpQuiet _ _ _ _ (_ :: _) _; go_big_quiet_skip) | (show wpQuiet _ _ _ _ (_ :: _) _; go_big_quiet_want; go_big_quiet_op; go_big_quiet_on))
      refine wpQuiet_nil ?_
      clear v0 v1 v2 s1 s2 s3 s4 s5 s6 XD4c0 XD4c1 XD4c2 zD XD4
      have HP2 := Lib.hid (HP1.out.later hd)
      have X15 := X14.later hd
      have hB5 := hB4.trans (hd.mono hB4.size)
      have hq5 : OwnI w4'.drew (w.heap.size + 1) (.slice (some ⟨bM, 0, none⟩) n cM) (x.stepT h).msgs ∧ OwnB w4'.drew (w.heap.size + 1) (.slice (some ⟨bK, 0, none⟩) n cK) (x.stepT h).stuck := ⟨HQ4.out.1.later hd, HQ4.out.2.later hd⟩
      have hsz5 : w.heap.size + 1 ≤ w4'.drew.heap.size := hsz4
      clear HP1 X14 hB4 HQ4
      generalize w4'.drew = w0 at hd HP2 X15 hB5 hq5 hsz5 ⊢
      have hal := (Below.refl w0.heap.size w0).alloc (Nat.le_refl _) (.cells #[.int .i64 (x.stepT h).feed, .slice (some ⟨bM, 0, none⟩) k cM, .slice (some ⟨bK, 0, none⟩) k cK] 44)
      have XN := Box.new w0 [.int .i64 (x.stepT h).feed, .slice (some ⟨bM, 0, none⟩) k cM, .slice (some ⟨bK, 0, none⟩) k cK] 44
      have hPa := HP2.out.later hal
      have hmem : (⟨.slice (some ⟨bM, 0, none⟩) n cM, .slice (some ⟨bK, 0, none⟩) n cK, x.stepT h⟩ : Sq) ∈ L ++ [⟨.slice (some ⟨bM, 0, none⟩) n cM, .slice (some ⟨bK, 0, none⟩) n cK, x.stepT h⟩] := List.mem_append_right _ (List.mem_singleton.2 rfl)
      have hsal := hal.size
      obtain ⟨g2, c2, w5, hr, hP3, hg3, hbx, hbb⟩ := hPa.symm.step ⟨.slice (some ⟨bM, 0, none⟩) k cM, .slice (some ⟨bK, 0, none⟩) k cK, (x.stepT h).up k⟩ ⟨OwnE.pre (enc := encI) (fun _ => rfl) (hq5.1.later hal) hk1 (by rw [e1]; exact hkn), OwnE.pre (enc := encB) (fun _ => rfl) (hq5.2.later hal) hk1 (by rw [e2]; exact hkn)⟩
        (fun b hb => hPa.ba _ hmem b hb) (fun b hb => hb.elim (hPa.a.farm _ hmem b) (hPa.a.fark _ hmem b)) 33 XN (by omega) (by omega)
      have hHSb : Hid ((K ++ [(⟨.slice (some ⟨bM, 0, none⟩) k cM, .slice (some ⟨bK, 0, none⟩) k cK, (x.stepT h).up k⟩ : Sq)]).map (·.s) = ((l.take (i + 1)).map x.stepT).map (Sp.up · k)) := Lib.hid (by rw [List.map_append, HSb.out, take_snoc_map hil, HH.out, List.map_append]; rfl)
      rw [hKl] at hr hP3
      have HP3 := Lib.hid hP3.symm
      have X16 := hbx _ _ (X15.later hal) (fun c hc => by have := hPa.b.own.block_ge hc; omega)
      have hB6 := hbb _ _ (hB5.trans (hal.mono hB5.size)) (by omega)
      have hsz6 : w.heap.size + 1 ≤ w5.heap.size := by have := hg3.size; omega
      have hCa := hd.trans (hal.mono hd.size)
      clear hP3 hg3 hbx hbb hPa hal hq5 X15 hB5 XN hmem HP2
      refine anyG_val (some 77) (n := 2) (i := 12) (v := .slice (some ⟨w0.heap.size, 0, none⟩) 1 1) (w' := w0.alloc (.cells #[.int .i64 (x.stepT h).feed, .slice (some ⟨bM, 0, none⟩) k cM, .slice (some ⟨bK, 0, none⟩) k cK] 44)) (by kernel_rfl) rfl rfl rfl (fun _ => Later.mk' hd) ?_ ?_
      · go_simp
      simp only [Act.put, List.setIfInBounds_toArray, List.set_cons_zero, List.set_cons_succ]
      refine anyG_val (some 78) (n := 1) (i := 13) (v := .slice (some ⟨g2, 0, none⟩) (i + 1) c2) (w' := w5) (by kernel_rfl) rfl rfl rfl (fun _ => Later.mk' hCa) ?_ ?_
      · exact run_appOp (x := .tmp 65) (y := .tmp 77) rfl rfl rfl rfl hr
      simp only [Act.put, List.setIfInBounds_toArray, List.set_cons_zero, List.set_cons_succ]
      refine anyG_val (some 9) (n := 0) (i := 14) (v := .slice (some ⟨g2, 0, none⟩) (i + 1) c2) (w' := w5) (by kernel_rfl) rfl rfl rfl (fun h => absurd (h.symm.trans (by kernel_rfl : _ = true)) Bool.false_ne_true) (by first | rfl | go_simp) ?_
      simp only [Act.put, List.setIfInBounds_toArray, List.set_cons_zero, List.set_cons_succ]
      refine anyG_done (by kernel_rfl) (by kernel_rfl) ?_
      clear hr hCa hd
      go_wp2_with fail
      exact ⟨⟨i + 1, _, _, _, _, by omega, rfl, rfl, by go_num, HP3, hHSa, hHSb, X16, hB6, hsz6⟩, by simp [intOf]; omega⟩
end Go.Proofs.Ytcjcjkomcolgeaa
