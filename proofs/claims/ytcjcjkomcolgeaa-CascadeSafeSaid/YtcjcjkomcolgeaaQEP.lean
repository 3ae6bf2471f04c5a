/- The law CascadeSafe. (Printed by pp.py.) No condition. -/
import Derived.Test.YtcjcjkomcolgeaaQEC
import Derived.Test.YtcjcjkomcolgeaaQED
import Derived.Test.YtcjcjkomcolgeaaQEM
set_option linter.unusedVariables false
set_option linter.unusedSimpArgs false
namespace Go.Proofs.Ytcjcjkomcolgeaa
open Go.RowKit
attribute [local go_sem ↓ high] app_named

set_option maxRecDepth 100000 in
set_option maxHeartbeats 4000000 in
theorem law_CascadeSafe (x : Cs) (Vp Vc Vb : Value) (l : List Hr) (Vl : Value) (w : World) (hx : CsAt w w.heap.size Vp Vc Vb x) (hl : HrsAt w w.heap.size Vl l) : Calls Try.prog 5 #[.agg #[Vp, Vc, Vb], Vl] w fun e w' => e = .returned (.bool true) ∧ Below w.heap.size w w' := by
  obtain ⟨Ap, kp, rfl, -⟩ := hx.plants.form
  obtain ⟨Ac, kc, rfl, -⟩ := hx.codes.form
  obtain ⟨Ab, kb, rfl, -⟩ := hx.bars.form
  obtain ⟨Al, kl, rfl, -⟩ := hl.form
  obtain ⟨n, hn⟩ : ∃ n, x.plants.length = n := ⟨_, rfl⟩
  obtain ⟨nc, hnc⟩ : ∃ n, x.codes.length = n := ⟨_, rfl⟩
  obtain ⟨nb, hnb⟩ : ∃ n, x.bars.length = n := ⟨_, rfl⟩
  obtain ⟨m, hm⟩ : ∃ n, l.length = n := ⟨_, rfl⟩
  rw [hn, hnc, hnb] at hx ⊢
  rw [hm] at hl ⊢
  have HX := Lib.hid hx
  have HL := Lib.hid hl
  have HX0 := HX
  have HL0 := HL
  have HN := Lib.hid hn
  have HNC := Lib.hid hnc
  have HNB := Lib.hid hnb
  have HM := Lib.hid hm
  clear hn hnc hnb hx hm hl
  have hB := (Below.refl w.heap.size w).alloc (Nat.le_refl _) (.cells #[.slice Ap n kp, .slice Ac nc kc, .slice Ab nb kb] 26)
  have X1 := Box.new w [.slice Ap n kp, .slice Ac nc kc, .slice Ab nb kb] 26
  go_enter Try.func5, Try.ntmps5
  go_wp2_with fail
  have HX := Lib.hid (HX.out.later hB)
  have HL := Lib.hid ((HL.out.below hB).more hB.size)
  generalize w.alloc (.cells #[.slice Ap n kp, .slice Ac nc kc, .slice Ab nb kb] 26) = w1 at hB X1 HX HL ⊢
  refine (lSane_any w1).mono ?_
  rintro e w2 ⟨rfl, hb⟩
  have hB := hB.trans (hb.mono hB.size)
  have X1 := X1.later hb
  have HX := Lib.hid (HX.out.later hb)
  have HL := Lib.hid ((HL.out.below hb).more hb.size)
  clear hb
  have z1 := X1.lt
  have X1c0 : w2.cell? ⟨w.heap.size, 0, none⟩ = some (.slice Ap n kp) := X1.cell 0
  have X1c1 : w2.cell? ⟨w.heap.size, 1, none⟩ = some (.slice Ac nc kc) := X1.cell 1
  have X1c2 : w2.cell? ⟨w.heap.size, 2, none⟩ = some (.slice Ab nb kb) := X1.cell 2
  go_wp2_with fail
  refine (rCsFew_at HX.out).mono ?_
  rintro e w3 ⟨t, rfl, hb⟩
  have hB := hB.trans (hb.mono hB.size)
  have X1 := X1.later hb
  have HX := Lib.hid (HX.out.later hb)
  have HL := Lib.hid ((HL.out.below hb).more hb.size)
  clear hb z1 X1c0 X1c1 X1c2
  cases t with
  | false =>
    go_wp2
    go_ret
    exact ⟨rfl, hB⟩
  | true =>
    by_cases h24 : m ≤ 24
    rotate_left
    · have hd : decide ((24 : Int) < (m : Int)) = true := decide_eq_true (by omega)
      have hd2 : (24 : Int) < (m : Int) := by omega
      go_wp2
      go_ret
      exact ⟨rfl, hB⟩
    have hd : decide ((24 : Int) < (m : Int)) = false := decide_eq_false (by omega)
    have hd2 : ¬ ((24 : Int) < (m : Int)) := by omega
    obtain ⟨ct, ci, ce, hT⟩ : ∃ ct ci ce, Hid (x.certT = (ct, ci, ce)) := ⟨_, _, _, Lib.hid rfl⟩
    have z1 := X1.lt
    have X1c0 : w3.cell? ⟨w.heap.size, 0, none⟩ = some (.slice Ap n kp) := X1.cell 0
    have X1c1 : w3.cell? ⟨w.heap.size, 1, none⟩ = some (.slice Ac nc kc) := X1.cell 1
    have X1c2 : w3.cell? ⟨w.heap.size, 2, none⟩ = some (.slice Ab nb kb) := X1.cell 2
    go_wp2_with fail
    refine (mCertified_is hT HX.out).mono ?_
    rintro e w4 ⟨rfl, hb⟩
    have hB := hB.trans (hb.mono hB.size)
    have X1 := X1.later hb
    have HX := Lib.hid (HX.out.later hb)
    have HL := Lib.hid ((HL.out.below hb).more hb.size)
    clear hb z1 X1c0 X1c1 X1c2
    by_cases hce : ce = 0
    rotate_left
    · have he : (ce != 0) = true := by simp [hce]
      have he2 : (ce == 0) = false := by simp [hce]
      have hck : x.checkT = ce := by
        have h := hT.out
        unfold Cs.certT at h
        split at h
        · split at h <;> (cases h; exact absurd rfl hce)
        · cases h
          rfl
      have hs : (ce == ce) = true := by simp
      have z1 := X1.lt
      have X1c0 : w4.cell? ⟨w.heap.size, 0, none⟩ = some (.slice Ap n kp) := X1.cell 0
      have X1c1 : w4.cell? ⟨w.heap.size, 1, none⟩ = some (.slice Ac nc kc) := X1.cell 1
      have X1c2 : w4.cell? ⟨w.heap.size, 2, none⟩ = some (.slice Ab nb kb) := X1.cell 2
      go_wp2_with fail
      refine (mCheck_is (Lib.hid hck) HX.out).mono ?_
      rintro e w5 ⟨rfl, hb⟩
      have hB := hB.trans (hb.mono hB.size)
      go_wp2
      go_ret
      exact ⟨rfl, hB⟩
    have he : (ce != 0) = false := by simp [hce]
    have he2 : (ce == 0) = true := by simp [hce]
    cases ct with
    | false =>
      go_wp2
      go_ret
      exact ⟨rfl, hB⟩
    | true =>
      have hck : x.checkT = 0 := by
        have h := hT.out
        unfold Cs.certT at h
        split at h
        · assumption
        · cases h
      have hC := cs_cert hck (by rw [hT.out])
      rw [HN.out] at hC
      have HC := Lib.hid hC
      have hpos := hC.right.pos
      have hmost := hC.right.most
      obtain rfl : n = nc := by rw [← HNC.out]; exact hC.right.codes.symm
      obtain rfl : n = nb := by rw [← HNB.out]; exact hC.right.bars.symm
      clear hC hck
      have hmk : (Instr.makeSlice 41 (.int .i64 (n : Int)) (.int .i64 (n : Int))).run Try.prog w4 = .ok (.slice (some ⟨w4.heap.size, 0, none⟩) n n) (w4.alloc (.cells (List.replicate n (Value.bool false)).toArray 4)) := make_bools w4 n (by omega)
      have hbk : Below w4.heap.size w4 (w4.alloc (.cells (List.replicate n (Value.bool false)).toArray 4)) := (Below.refl w4.heap.size w4).alloc (Nat.le_refl _) _
      have XK : Box (w4.alloc (.cells (List.replicate n (Value.bool false)).toArray 4)) w4.heap.size (List.replicate n (Value.bool false)) := Box.new w4 (List.replicate n (Value.bool false)) 4
      have hsk : (w4.alloc (.cells (List.replicate n (Value.bool false)).toArray 4)).heap.size = w4.heap.size + 1 := by simp
      have z1 := X1.lt
      have X1c0 : w4.cell? ⟨w.heap.size, 0, none⟩ = some (.slice Ap n kp) := X1.cell 0
      generalize w4.alloc (.cells (List.replicate n (Value.bool false)).toArray 4) = wk at hmk hbk XK hsk
      have hB := hB.trans (hbk.mono hB.size)
      have X1 := X1.later hbk
      have hKw := z1
      go_upto_region 11 with fail
      clear hmk hbk z1 X1c0 hd hd2 he he2 HX HL
      generalize w4.heap.size = Kb at XK hsk hKw ⊢
      have hR0 : Hid (Row wk (Kb + 1) (.slice none 0 0) []) := Lib.hid (Row.nil _ _)
      have hK0 : Box wk Kb ((stuckK n (l.map x.stepT) 0).map Value.bool) := by
        have e : (stuckK n (l.map x.stepT) 0).map Value.bool = List.replicate n (Value.bool false) := by simp [stuckK]
        rw [e]
        exact XK
      have hSV : Hid ((l.map x.stepT).all x.stepB = true) := Lib.hid (steps_ok HC.out.right HL0.out.ok)
      have hsz : Kb + 1 ≤ wk.heap.size := by omega
      clear XK hsk
      go_loopw [8, 10] (fun s8 s10 wr => ∃ (j : Nat) (q : Int) (V : Value) (L : List Sq), j ≤ m + 1 ∧ V = s8 ∧ s10 = .int .i64 q ∧ Hid (q = (j : Int) - 1) ∧ Hid (Row wr (Kb + 1) V L) ∧ Hid (L.map (·.s) = (l.take (j - 1)).map x.stepT) ∧ Box wr Kb ((stuckK n (l.map x.stepT) (j - 1)).map Value.bool) ∧ Box wr w.heap.size [.slice Ap n kp, .slice Ac n kc, .slice Ab n kb] ∧ Below w.heap.size w wr ∧ Kb + 1 ≤ wr.heap.size) (fun _ s10 _ => m + 1 - (intOf s10 + 1).toNat)
      case atStart => exact ⟨0, -1, _, [], by omega, rfl, rfl, Lib.hid (by omega), hR0, Lib.hid rfl, hK0, X1, hB, hsz⟩
      case round =>
        clear hR0 hK0 X1 hB hsz
        obtain ⟨j, q, V, L, hj, rfl, rfl, hq, HR, HS, XK, X1, hB, hsz⟩ := hrel
        obtain ⟨wo, rfl⟩ : ∃ wo : World, wo = wr := ⟨_, rfl⟩
        have hqj := hq.out
        rcases Nat.lt_or_ge j (m + 1) with hlt | hge
        rotate_left
        · have hq1 : ¬ (q < (m : Int)) := by omega
          have hq2 : decide (q < (m : Int)) = false := decide_eq_false hq1
          go_wp2
          go_ret
          exact ⟨rfl, hB⟩
        have hq1 : q < (m : Int) := by omega
        have hq2 : decide (q < (m : Int)) = true := decide_eq_true hq1
        clear hqj
        go_upto_if 64 with fail
        go_cut [8] (fun s8 wx => ∃ (V : Value) (L : List Sq), V = s8 ∧ Hid (Row wx (Kb + 1) V L) ∧ Hid (L.map (·.s) = (l.take j).map x.stepT) ∧ Box wx Kb ((stuckK n (l.map x.stepT) j).map Value.bool) ∧ Box wx w.heap.size [.slice Ap n kp, .slice Ac n kc, .slice Ab n kb] ∧ Below w.heap.size w wx ∧ Kb + 1 ≤ wx.heap.size)
        case first =>
          clear hq1 hq2
          rcases j with _ | i
          · obtain rfl : q = -1 := by have := hq.out; omega
            clear hq
            have hq0 : decide ((0 : Int) ≤ (-1 : Int)) = false := by decide
            have hq3 : ¬ ((0 : Int) ≤ (-1 : Int)) := by decide
            go_wp2_with fail
            go_meet
            exact ⟨V, L, rfl, HR, HS, XK, X1, hB, hsz⟩
          · obtain rfl : q = (i : Int) := by have := hq.out; omega
            clear hq
            have hq0 : decide ((0 : Int) ≤ (i : Int)) = true := decide_eq_true (by omega)
            have hq3 : (0 : Int) ≤ (i : Int) := by omega
            have HS : Hid (L.map (·.s) = (l.take i).map x.stepT) := HS
            have XK : Box wo Kb ((stuckK n (l.map x.stepT) i).map Value.bool) := XK
            have hil : i < l.length := by rw [HM.out]; omega
            have him : i < m := by omega
            have him2 : (i : Int) < (m : Int) := by omega
            obtain ⟨gb, og, M, K, rfl, hgb, c0, c1, c2, hf01, hM, hK⟩ := HL0.out.hour (k := i) hil
            have hok := HL0.out.ok _ (List.getElem_mem hil)
            obtain ⟨am, cm, rfl, -⟩ := hM.form
            obtain ⟨ak, ck, rfl, -⟩ := hK.form
            obtain ⟨h, hh⟩ : ∃ h, l[i] = h := ⟨_, rfl⟩
            rw [hh] at c0 c1 c2 hM hK hok
            obtain ⟨nm, hnm⟩ : ∃ n, h.msgs.length = n := ⟨_, rfl⟩
            obtain ⟨nk, hnk⟩ : ∃ n, h.stuck.length = n := ⟨_, rfl⟩
            obtain ⟨f, hf⟩ : ∃ n, h.feed = n := ⟨_, rfl⟩
            rw [hnm] at c1 hM
            rw [hnk] at c2 hK
            rw [hf] at c0
            have HH := Lib.hid hh
            have HNM := Lib.hid hnm
            have HNK := Lib.hid hnk
            have HF := Lib.hid hf
            have HOK := Lib.hid hok
            have HUM := Lib.hid hM
            have HUK := Lib.hid hK
            clear hh hnm hnk hf hok hM hK hf01
            have c0 := (hB.cell hgb).trans c0
            have c1 := (hB.cell hgb).trans c1
            have c2 := (hB.cell hgb).trans c2
            have hgz := Nat.lt_of_lt_of_le hgb hB.size
            go_upto_region 14 with fail
            go_cut [11] (fun s11 wx => ∃ (D : Nat) (M2 K2 : Value) (B2 : Nat), s11 = .pointer (some ⟨D, 0, none⟩) ∧ wo.heap.size ≤ D ∧ Box wx D [.int .i64 (x.stepT h).feed, M2, K2] ∧ wo.heap.size ≤ B2 ∧ Hid (Two wx B2 M2 K2 (x.stepT h).msgs (x.stepT h).stuck) ∧ Below wo.heap.size wo wx)
            case first =>
              have hd := (Below.refl wo.heap.size wo).drew
              have x1z := X1.lt
              have X1c0 : wo.cell? ⟨w.heap.size, 0, none⟩ = some (.slice Ap n kp) := X1.cell 0
              have X1c1 : wo.cell? ⟨w.heap.size, 1, none⟩ = some (.slice Ac n kc) := X1.cell 1
              have X1c2 : wo.cell? ⟨w.heap.size, 2, none⟩ = some (.slice Ab n kb) := X1.cell 2
              have u0 : ∀ z : Later wo, z.w.cell? ⟨w.heap.size, 0, none⟩ = some (.slice Ap n kp) := Later.cell X1c0 x1z
              have u1 : ∀ z : Later wo, z.w.cell? ⟨w.heap.size, 1, none⟩ = some (.slice Ac n kc) := Later.cell X1c1 x1z
              have u2 : ∀ z : Later wo, z.w.cell? ⟨w.heap.size, 2, none⟩ = some (.slice Ab n kb) := Later.cell X1c2 x1z
              have v0 : ∀ z : Later wo, z.w.cell? ⟨gb, og + i * 3, none⟩ = some (.int .u8 f) := Later.cell c0 hgz
              have v1 : ∀ z : Later wo, z.w.cell? ⟨gb, og + i * 3 + 1, none⟩ = some (.slice am nm cm) := Later.cell c1 hgz
              have v2 : ∀ z : Later wo, z.w.cell? ⟨gb, og + i * 3 + 2, none⟩ = some (.slice ak nk ck) := Later.cell c2 hgz
              have ha := ((Below.refl wo.heap.size wo).alloc (Nat.le_refl _) (.cells #[.int .i64 0, .slice none 0 0, .slice none 0 0] 44)).drew
              have XA := (Box.new wo [.int .i64 0, .slice none 0 0, .slice none 0 0] 44).drew
              have hBd := hB.trans (hd.mono hB.size)
              have hBa := hB.trans (ha.mono hB.size)
              have hzA := lStep_is x n h Ap Ac Ab am ak kp kc kb cm ck nm nk wo.drew (Lib.hid HC.out.right) (Lib.hid (HX0.out.later hBd)) HOK (Lib.hid ((HUM.out.below hBd).more hBd.size)) HNM (Lib.hid ((HUK.out.below hBd).more hBd.size)) HNK f HF
              have hzB := lStep_is x n h Ap Ac Ab am ak kp kc kb cm ck nm nk (wo.alloc (.cells #[.int .i64 0, .slice none 0 0, .slice none 0 0] 44)).drew (Lib.hid HC.out.right) (Lib.hid (HX0.out.later hBa)) HOK (Lib.hid ((HUM.out.below hBa).more hBa.size)) HNM (Lib.hid ((HUK.out.below hBa).more hBa.size)) HNK f HF
              clear hBd hBa
              refine wp_region_heads (C := fun w' => ∃ x : Later wo, w' = x.w) [0, 1, 2, 3, 4, 5, 6, 7, 8, 9, 10, 11, 12, 13, 14, 15] (by kernel_rfl) (by kernel_rfl) (Later.mk' hd) (fun _ _ h => h) ?_
              simp only [headOps, List.filterMap_cons, List.filterMap_nil, List.getElem?_toArray, List.getElem?_cons_succ, List.getElem?_cons_zero]
              repeat (first | go_big_quiet_skip | (show wpQuiet _ _ _ _ (_ :: _) _; go_big_quiet_skip) | (show wpQuiet _ _ _ _ (_ :: _) _; go_big_quiet_want; go_big_quiet_op; go_big_quiet_on))
              refine wpQuiet_nil ?_
              clear u0 u1 u2 v0 v1 v2 X1c0 X1c1 X1c2 c0 c1 c2
              refine anyC_two (n := 2) (i := 16) (j := 17) (by kernel_rfl) (Later.mk' hd) ?_ ?_
              · refine wpOp_callD (some 81) (by rfl) rfl rfl ?_ (hzA.mono ?_)
                · go_simp
                rintro e w2 ⟨M2, K2, B2, rfl, hB2, hT2, hw2⟩
                refine ⟨_, rfl, ?_⟩
                simp only [Act.put, List.setIfInBounds_toArray, List.set_cons_zero, List.set_cons_succ]
                have hw2 := hd.trans hw2
                obtain ⟨aM, cM, eM⟩ := ownE_shape hT2.m
                obtain ⟨aK, cK, eK⟩ := ownE_shape hT2.k
                generalize (x.stepT h).msgs.length = lM at eM
                generalize (x.stepT h).stuck.length = lK at eK
                subst eM eK
                have HT2 := Lib.hid hT2
                clear hT2
                refine anyC_valD (some 11) (n := 1) (i := 17) (v := .pointer (some ⟨w2.heap.size, 0, none⟩)) (w' := w2.alloc (.cells #[.int .i64 0, .slice none 0 0, .slice none 0 0] 44)) (by kernel_rfl) rfl rfl rfl (Later.mk' hw2) ?_ ?_
                · go_simp
                simp only [Act.put, List.setIfInBounds_toArray, List.set_cons_zero, List.set_cons_succ]
                have Y := Box.new w2 [.int .i64 0, .slice none 0 0, .slice none 0 0] 44
                have hw3 := (Below.refl w2.heap.size w2).alloc (Nat.le_refl _) (.cells #[.int .i64 0, .slice none 0 0, .slice none 0 0] 44)
                have hFa := hw2.size
                generalize w2.alloc (.cells #[.int .i64 0, .slice none 0 0, .slice none 0 0] 44) = w3 at Y hw3 ⊢
                generalize hFF : w2.heap.size = Fa at Y hw3 hFa ⊢
                have hFb : Fa ≤ Fa := Nat.le_refl _
                have Yc0 : w3.cell? ⟨Fa, 0, none⟩ = some (.int .i64 0) := Y.cell 0
                have Yf0 : w3.frozen? ⟨Fa, 0, none⟩ = false := Y.free 0
                have Yc1 : w3.cell? ⟨Fa, 1, none⟩ = some (.slice none 0 0) := Y.cell 1
                have Yf1 : w3.frozen? ⟨Fa, 1, none⟩ = false := Y.free 1
                have Yc2 : w3.cell? ⟨Fa, 2, none⟩ = some (.slice none 0 0) := Y.cell 2
                have Yf2 : w3.frozen? ⟨Fa, 2, none⟩ = false := Y.free 2
                have Yz : Fa < w3.heap.size := Y.lt
                have hw4 := (((hw3.setCell (p := ⟨Fa, 0, none⟩) (by simp <;> omega) (.int .i64 (x.stepT h).feed)).setCell (p := ⟨Fa, 1, none⟩) (by simp <;> omega) (.slice aM lM cM)).setCell (p := ⟨Fa, 2, none⟩) (by simp <;> omega) (.slice aK lK cK))
                have Y4 := (((Y.set 0 (.int .i64 (x.stepT h).feed)).set 1 (.slice aM lM cM)).set 2 (.slice aK lK cK))
                have hC3 := hw2.trans (hw3.mono (by omega))
                refine anyC_storeN (w' := (((w3.setCell ⟨Fa, 0, none⟩ (.int .i64 (x.stepT h).feed)).setCell ⟨Fa, 1, none⟩ (.slice aM lM cM)).setCell ⟨Fa, 2, none⟩ (.slice aK lK cK))) (n := 0) (i := 18) (by kernel_rfl) rfl rfl rfl (Later.mk' hC3) ?_ ?_
                · go_simp
                generalize (((w3.setCell ⟨Fa, 0, none⟩ (.int .i64 (x.stepT h).feed)).setCell ⟨Fa, 1, none⟩ (.slice aM lM cM)).setCell ⟨Fa, 2, none⟩ (.slice aK lK cK)) = w4 at hw4 Y4 ⊢
                have hC4 := hw2.trans (hw4.mono (by omega))
                refine anyC_done (by kernel_rfl) (Later.mk' hC4) ?_
                subst hFF
                have HT4 := Lib.hid (HT2.out.later hw4)
                clear Y hw3 hC3
                go_wp2_with fail
                go_meet
                exact ⟨w2.heap.size, _, _, B2, rfl, by omega, Y4, hB2, HT4, hC4⟩
              · refine wpOp_valD (some 11) (v := .pointer (some ⟨wo.heap.size, 0, none⟩)) (w' := (wo.alloc (.cells #[.int .i64 0, .slice none 0 0, .slice none 0 0] 44)).drew) (by rfl) rfl rfl ?_ ?_
                · go_simp
                simp only [Act.put, List.setIfInBounds_toArray, List.set_cons_zero, List.set_cons_succ]
                have haz : wo.heap.size < (wo.alloc (.cells #[.int .i64 0, .slice none 0 0, .slice none 0 0] 44)).drew.heap.size := XA.lt
                refine anyC_callD (some 81) (n := 1) (i := 16) (by kernel_rfl) rfl rfl rfl (Later.mk' ha) ?_ (hzB.mono ?_)
                · go_simp
                rintro e w2 ⟨M2, K2, B2, rfl, hB2, hT2, hw2⟩
                refine ⟨_, rfl, ?_⟩
                simp only [Act.put, List.setIfInBounds_toArray, List.set_cons_zero, List.set_cons_succ]
                have Y := XA.later hw2
                have hw2 := ha.trans (hw2.mono ha.size)
                have hBz := Nat.lt_of_lt_of_le haz hB2
                clear hB2 haz XA
                obtain ⟨aM, cM, eM⟩ := ownE_shape hT2.m
                obtain ⟨aK, cK, eK⟩ := ownE_shape hT2.k
                generalize (x.stepT h).msgs.length = lM at eM
                generalize (x.stepT h).stuck.length = lK at eK
                subst eM eK
                have HT2 := Lib.hid hT2
                clear hT2
                generalize hFF : wo.heap.size = Fa at Y ⊢
                have hFa : wo.heap.size ≤ Fa := by omega
                have Yc0 : w2.cell? ⟨Fa, 0, none⟩ = some (.int .i64 0) := Y.cell 0
                have Yf0 : w2.frozen? ⟨Fa, 0, none⟩ = false := Y.free 0
                have Yc1 : w2.cell? ⟨Fa, 1, none⟩ = some (.slice none 0 0) := Y.cell 1
                have Yf1 : w2.frozen? ⟨Fa, 1, none⟩ = false := Y.free 1
                have Yc2 : w2.cell? ⟨Fa, 2, none⟩ = some (.slice none 0 0) := Y.cell 2
                have Yf2 : w2.frozen? ⟨Fa, 2, none⟩ = false := Y.free 2
                have Yz : Fa < w2.heap.size := Y.lt
                have hw4 := (((hw2.setCell (p := ⟨Fa, 0, none⟩) (by simp <;> omega) (.int .i64 (x.stepT h).feed)).setCell (p := ⟨Fa, 1, none⟩) (by simp <;> omega) (.slice aM lM cM)).setCell (p := ⟨Fa, 2, none⟩) (by simp <;> omega) (.slice aK lK cK))
                have Y4 := (((Y.set 0 (.int .i64 (x.stepT h).feed)).set 1 (.slice aM lM cM)).set 2 (.slice aK lK cK))
                have HT4 := Lib.hid (((HT2.out.set (a := ⟨Fa, 0, none⟩) (by dsimp only; omega) (.int .i64 (x.stepT h).feed)).set (a := ⟨Fa, 1, none⟩) (by dsimp only; omega) (.slice aM lM cM)).set (a := ⟨Fa, 2, none⟩) (by dsimp only; omega) (.slice aK lK cK))
                refine anyC_storeN (w' := (((w2.setCell ⟨Fa, 0, none⟩ (.int .i64 (x.stepT h).feed)).setCell ⟨Fa, 1, none⟩ (.slice aM lM cM)).setCell ⟨Fa, 2, none⟩ (.slice aK lK cK))) (n := 0) (i := 18) (by kernel_rfl) rfl rfl rfl (Later.mk' hw2) ?_ ?_
                · go_simp
                generalize (((w2.setCell ⟨Fa, 0, none⟩ (.int .i64 (x.stepT h).feed)).setCell ⟨Fa, 1, none⟩ (.slice aM lM cM)).setCell ⟨Fa, 2, none⟩ (.slice aK lK cK)) = w4 at hw4 Y4 HT4 ⊢
                refine anyC_done (by kernel_rfl) (Later.mk' hw4) ?_
                clear Y hw2 HT2
                go_wp2_with fail
                go_meet
                exact ⟨Fa, _, _, B2, rfl, hFa, Y4, by omega, HT4, hw4⟩
            case rest =>
              clear c0 c1 c2 hgz
              obtain ⟨D, M2, K2, B2, rfl, hD, XD, hB2, HT2, hb2⟩ := hcut
              have hB := hB.trans (hb2.mono hB.size)
              have X1 := X1.later hb2
              have XK := XK.later hb2
              have HR2 := Lib.hid (HR.out.later hb2)
              have hsz2 := hb2.size
              obtain ⟨aM, cM, eM⟩ := ownE_shape HT2.out.m
              obtain ⟨aK, cK, eK⟩ := ownE_shape HT2.out.k
              have e1 : (x.stepT h).msgs.length = n := by simp [Cs.stepT, HN.out]
              have e2 : (x.stepT h).stuck.length = n := by simp [Cs.stepT, HN.out]
              rw [e1] at eM
              rw [e2] at eK
              subst eM eK
              have hVB : ∀ b, V.ownBlock = some b → b < wo.heap.size := fun b hb => HR.out.own.block_lt hb
              obtain ⟨q1, q2, q3⟩ := Two.row HR2.out HT2.out (by omega) (fun b hb => by have := hVB b hb; omega)
              have XN := Box.new wc [.int .i64 (x.stepT h).feed, .slice aM n cM, .slice aK n cK] 44
              have hal := (Below.refl wc.heap.size wc).alloc (Nat.le_refl _) (.cells #[.int .i64 (x.stepT h).feed, .slice aM n cM, .slice aK n cK] 44)
              have hRa := HR2.out.later hal
              have hB3 := hB.trans (hal.mono hB.size)
              have hLl : L.length = i := by
                have := congrArg List.length HS.out
                rw [List.length_map, List.length_map, List.length_take] at this
                omega
              have hsal := hal.size
              obtain ⟨g', c', w', hr, hR3, hsz3, hbx, hbb⟩ := hRa.step ⟨.slice aM n cM, .slice aK n cK, x.stepT h⟩ ⟨q1.1.later hal, q1.2.later hal⟩ q2 q3 33 XN (by omega) (by omega)
              have hHS3 : Hid ((L ++ [(⟨.slice aM n cM, .slice aK n cK, x.stepT h⟩ : Sq)]).map (·.s) = (l.take (i + 1)).map x.stepT) := Lib.hid (by rw [List.map_append, HS.out, take_snoc_map hil, HH.out]; rfl)
              rw [hLl] at hr hR3
              have XD3 := hbx D _ (XD.later hal) (fun c hc => by have := hVB c hc; omega)
              have X13 := hbx _ _ (X1.later hal) (fun c hc => by have := HR.out.own.block_ge hc; omega)
              have XK3 := hbx _ _ (XK.later hal) (fun c hc => by have := HR.out.own.block_ge hc; omega)
              have hB4 := hbb _ _ hB3 (by omega)
              have hsz4 : Kb + 1 ≤ w'.heap.size := by omega
              have HR3 := Lib.hid hR3
              have hmemq : (⟨.slice aM n cM, .slice aK n cK, x.stepT h⟩ : Sq) ∈ L ++ [⟨.slice aM n cM, .slice aK n cK, x.stepT h⟩] := List.mem_append_right _ (List.mem_singleton.2 rfl)
              generalize hL3 : L ++ [(⟨.slice aM n cM, .slice aK n cK, x.stepT h⟩ : Sq)] = L3 at HR3 hHS3 hmemq
              clear hL3 hR3 hbx hbb hRa q1 q2 q3 XN hal hsal hB3 X1 XK hB HR2 HR HT2 hVB hb2 hsz3 hsz2
              have xd0 : wc.cell? ⟨D, 0, none⟩ = some (.int .i64 (x.stepT h).feed) := XD.cell 0
              have xd1 : wc.cell? ⟨D, 1, none⟩ = some (.slice aM n cM) := XD.cell 1
              have xd2 : wc.cell? ⟨D, 2, none⟩ = some (.slice aK n cK) := XD.cell 2
              have xdz := XD.lt
              have xe2 : w'.cell? ⟨D, 2, none⟩ = some (.slice aK n cK) := XD3.cell 2
              have xez := XD3.lt
              have hq9 : Hid (stuckK n (l.map x.stepT) (i + 1) = orL (stuckK n (l.map x.stepT) i) (x.stepT h).stuck n) := Lib.hid (by
                have : (l.map x.stepT).getD i Sp.zero = x.stepT h := by rw [getD_at (by rw [List.length_map]; exact hil), List.getElem_map, HH.out]
                rw [stuckK, this])
              go_wp2_with fail
              clear xd0 xd1 xd2 xdz xe2 xez hr XD XD3
              have HQ := Lib.hid hmemq
              clear hmemq
              go_loopw [89] (fun s wr => ∃ t : Nat, t ≤ n ∧ s = .int .i64 t ∧ Hid (Row wr (Kb + 1) (.slice (some ⟨g', 0, none⟩) (i + 1) c') L3) ∧ Box wr Kb ((midL (stuckK n (l.map x.stepT) i) (x.stepT h).stuck n t).map Value.bool) ∧ Box wr w.heap.size [.slice Ap n kp, .slice Ac n kc, .slice Ab n kb] ∧ Below w.heap.size w wr ∧ Kb + 1 ≤ wr.heap.size) (fun s _ => n - (intOf s).toNat)
              case atStart => exact ⟨0, by omega, rfl, HR3, by rw [midL_zero stuckK_len]; exact XK3, X13, hB4, hsz4⟩
              case round =>
                clear HR3 XK3 X13 hB4 hsz4
                obtain ⟨t, ht, rfl, HR, XK, X1, hB, hsz⟩ := hrel
                obtain ⟨wt, rfl⟩ : ∃ wt : World, wt = wr := ⟨_, rfl⟩
                rcases Nat.lt_or_ge t n with htl | htg
                rotate_left
                · obtain rfl : t = n := by omega
                  have ht3 : ¬ ((t : Int) < (t : Int)) := by omega
                  rw [midL_end, ← hq9.out] at XK
                  go_wp2_with fail
                  go_meet
                  exact ⟨_, L3, rfl, HR, hHS3, XK, X1, hB, hsz⟩
                have ht3 : (t : Int) < (n : Int) := by omega
                have hsl : t < (x.stepT h).stuck.length := by rw [e2]; exact htl
                have hbl := (HR.out.msg _ HQ.out).2.boolL (by dsimp only; rw [e2]; simp only [maxLen]; omega)
                obtain ⟨b2, o2, ea, hb2, ct⟩ := BoolL.at (A := aK) (n := n) (c := cK) hbl hsl
                subst ea
                have hgd := getD_at (d := false) hsl
                have k0 : wt.cell? ⟨Kb, t, none⟩ = some (.bool ((stuckK n (l.map x.stepT) i).getD t false)) := by
                  have := XK.cell t
                  rw [midL_at htl] at this
                  exact this
                have kf : wt.frozen? ⟨Kb, t, none⟩ = false := XK.free t
                have kz := XK.lt
                have hms := midL_set (a := stuckK n (l.map x.stepT) i) (b := (x.stepT h).stuck) htl
                rw [hgd] at hms
                generalize (stuckK n (l.map x.stepT) i).getD t false = A at k0 hms
                generalize (x.stepT h).stuck[t] = S at ct hms
                have HMS := Lib.hid hms
                clear hms hgd hbl
                rcases A with _ | _
                · have XK2 := XK.set t (.bool S)
                  rw [show (Value.bool S) = .bool (false || S) by rw [Bool.false_or], HMS.out] at XK2
                  go_wp2_with fail
                  refine ⟨⟨t + 1, by omega, by go_num, ?_, ?_, ?_, ?_, ?_⟩, by simp [intOf]; omega⟩
                  · exact Lib.hid (HR.out.set (a := ⟨Kb, t, none⟩) (by dsimp only; omega) _)
                  · simpa using XK2
                  · exact X1.other (a := ⟨Kb, t, none⟩) (by dsimp only; omega) _
                  · exact hB.setCell (p := ⟨Kb, t, none⟩) (by dsimp only; omega) _
                  · simpa using hsz
                · have XK2 := XK.set t (.bool true)
                  rw [show (Value.bool true) = .bool (true || S) by rw [Bool.true_or], HMS.out] at XK2
                  go_wp2_with fail
                  refine ⟨⟨t + 1, by omega, by go_num, ?_, ?_, ?_, ?_, ?_⟩, by simp [intOf]; omega⟩
                  · exact Lib.hid (HR.out.set (a := ⟨Kb, t, none⟩) (by dsimp only; omega) _)
                  · simpa using XK2
                  · exact X1.other (a := ⟨Kb, t, none⟩) (by dsimp only; omega) _
                  · exact hB.setCell (p := ⟨Kb, t, none⟩) (by dsimp only; omega) _
                  · simpa using hsz
        case rest =>
          clear hq1 hq2 HR HS XK X1 hB hsz
          obtain ⟨V, L, rfl, HR, HS, XK, X1, hB, hsz⟩ := hcut
          obtain ⟨g, hP, hI, hst⟩ := play_row (j := j) HC.out hSV.out (by rw [List.length_map, HM.out]; omega) (by rw [List.length_map, HM.out]; omega)
          rw [← List.map_take] at hP
          rw [← hst] at XK
          have HI := Lib.hid hI
          have HST := Lib.hid hst
          have hX := HX0.out.later hB
          have hS := row_steps HR.out HS.out HN.out hmost (by rw [List.length_take]; omega)
          have x1z := X1.lt
          have X1c0 : wc.cell? ⟨w.heap.size, 0, none⟩ = some (.slice Ap n kp) := X1.cell 0
          have X1c1 : wc.cell? ⟨w.heap.size, 1, none⟩ = some (.slice Ac n kc) := X1.cell 1
          have X1c2 : wc.cell? ⟨w.heap.size, 2, none⟩ = some (.slice Ab n kb) := X1.cell 2
          go_wp2_with fail
          refine (play_ok (Lib.hid hP) (Lib.hid hI.has.1) hX hS).mono ?_
          clear hP hI hst hX hS X1c0 X1c1 X1c2 x1z
          rintro e w6 ⟨A6, c6, rfl, -, hS6, hb6⟩
          have hB := hB.trans (hb6.mono hB.size)
          have X1 := X1.later hb6
          have XK := XK.later hb6
          have HR := Lib.hid (HR.out.later hb6)
          have hsz := Nat.le_trans hsz hb6.size
          have H6 := Lib.hid hS6
          clear hb6 hS6
          have x1z := X1.lt
          have X1c0 : w6.cell? ⟨w.heap.size, 0, none⟩ = some (.slice Ap n kp) := X1.cell 0
          have X1c1 : w6.cell? ⟨w.heap.size, 1, none⟩ = some (.slice Ac n kc) := X1.cell 1
          have X1c2 : w6.cell? ⟨w.heap.size, 2, none⟩ = some (.slice Ab n kb) := X1.cell 2
          have hnn : ((n : Int) != (n : Int)) = false := by simp
          go_wp2_with fail
          clear x1z X1c0 X1c1 X1c2 hnn
          go_loopw [128] (fun s wr => ∃ t : Nat, t ≤ n ∧ s = .int .i64 t ∧ Below w6.heap.size w6 wr) (fun s _ => n - (intOf s).toNat)
          case atStart => exact ⟨0, by omega, rfl, Below.refl _ _⟩
          case round =>
            obtain ⟨t, ht, rfl, hb⟩ := hrel
            obtain ⟨wt, rfl⟩ : ∃ wt : World, wt = wr := ⟨_, rfl⟩
            have hBt := hB.trans (hb.mono hB.size)
            have X1t := X1.later hb
            have XKt := XK.later hb
            rcases Nat.lt_or_ge t n with htl | htg
            rotate_left
            · obtain rfl : t = n := by omega
              have ht3 : ¬ ((t : Int) < (t : Int)) := by omega
              have hqj := hq.out
              have hwq : IntKind.i64.wrap (q + 1) = q + 1 := wrap_id (by omega) (by omega)
              clear hqj
              have HRt := Lib.hid (HR.out.later hb)
              have hszt := Nat.le_trans hsz hb.size
              go_wp2
              rw [HST.out] at XKt
              exact ⟨⟨j + 1, q + 1, V, L, by omega, rfl, rfl, Lib.hid (by have := hq.out; omega), HRt, HS, XKt, X1t, hBt, hszt⟩, by have := hq.out; simp [intOf]; omega⟩
            have ht3 : (t : Int) < (n : Int) := by omega
            have htl2 : t < g.states.length := by rw [HI.out.has.1]; exact htl
            have hts : t < g.stuck.length := by rw [HI.out.len]; exact htl
            obtain ⟨sg, so, rfl, hsg, s0, s1, s2, s3, s4, s5⟩ := H6.out.state htl2
            have hgd := getD_at (d := St.zero) htl2
            obtain ⟨s, hs⟩ : ∃ s, g.states[t] = s := ⟨_, rfl⟩
            rw [hs] at s0 s1 s2 s3 s4 s5 hgd
            have HGD := Lib.hid hgd
            clear hs hgd
            have s0 := (hb.cell hsg).trans s0
            have s1 := (hb.cell hsg).trans s1
            have s2 := (hb.cell hsg).trans s2
            have s3 := (hb.cell hsg).trans s3
            have s4 := (hb.cell hsg).trans s4
            have s5 := (hb.cell hsg).trans s5
            have hsgz := Nat.lt_of_lt_of_le hsg hb.size
            have hck : wt.cell? ⟨Kb, t, none⟩ = some (.bool (g.stuck.getD t false)) := by
              have := XKt.cell t
              rw [List.getElem?_map, List.getElem?_eq_getElem hts] at this
              rw [getD_at hts]
              exact this
            have kz := XKt.lt
            go_upto_region 27 with fail
            have Y := Box.new wt [.int .i64 s.level, .int .i64 s.position, .int .i64 s.p0, .int .i64 s.p1, .int .i64 s.order, .int .i64 s.age] 51
            have hbY := (Below.refl wt.heap.size wt).alloc (Nat.le_refl _) (.cells #[.int .i64 s.level, .int .i64 s.position, .int .i64 s.p0, .int .i64 s.p1, .int .i64 s.order, .int .i64 s.age] 51)
            have hck := (hbY.cell kz).trans hck
            have kz := Nat.lt_of_lt_of_le kz hbY.size
            have X1t := X1t.later hbY
            have hBt := hBt.trans (hbY.mono hBt.size)
            have hb := hb.trans (hbY.mono hb.size)
            clear s0 s1 s2 s3 s4 s5 hbY hsgz XKt
            generalize wt.alloc (.cells #[.int .i64 s.level, .int .i64 s.position, .int .i64 s.p0, .int .i64 s.p1, .int .i64 s.order, .int .i64 s.age] 51) = W at Y hck kz X1t hBt hb ⊢
            generalize wt.heap.size = D at Y ⊢
            generalize hA : g.stuck.getD t false = A at hck
            cases A with
            | true =>
              go_wp2
              exact ⟨⟨t + 1, by omega, by go_num, hb⟩, by simp [intOf]; omega⟩
            | false =>
              have hkp : t < x.plants.length := by rw [HN.out]; exact htl
              have hkb : t < x.bars.length := by rw [HNB.out]; exact htl
              have hin := HI.out.bar t htl hA
              have hsafe := bar_safe HC.out HI.out.has htl hin
              have hhas := HI.out.has.2 t htl
              obtain ⟨hg1, hg2, hg3⟩ := HC.out.right.gate t htl
              rw [HGD.out] at hin hsafe hhas
              rw [getD_at hkp] at hsafe hhas hg1
              rw [getD_at hkb] at hin hg3
              obtain ⟨bp, op, rfl, hbp, p0, p1, p2, p3, p4, p5, p6, p7, p8, p9, p10, p11⟩ := HX0.out.plants.cells12 hkp
              obtain ⟨bb, ob, Vb, rfl, hbb, r0, hVb⟩ := HX0.out.bars.bar hkb
              obtain ⟨p, hpe⟩ : ∃ p, x.plants[t] = p := ⟨_, rfl⟩
              obtain ⟨b, hbe⟩ : ∃ b, x.bars[t] = b := ⟨_, rfl⟩
              rw [hpe] at p0 p1 p2 p3 p4 p5 p6 p7 p8 p9 p10 p11 hsafe hhas hg1
              rw [hbe] at hVb hin hg3
              have HSF := safe_yes hg1 hhas hsafe
              have HHO := holds_yes (Pl.check_zero hg1).1 hhas hg3 hin
              have HVb := Lib.hid hVb
              clear hpe hbe hVb hin hsafe hhas hg1 hg2 hg3 hA
              have p0 := (hBt.cell hbp).trans p0
              have p1 := (hBt.cell hbp).trans p1
              have p2 := (hBt.cell hbp).trans p2
              have p3 := (hBt.cell hbp).trans p3
              have p4 := (hBt.cell hbp).trans p4
              have p5 := (hBt.cell hbp).trans p5
              have p6 := (hBt.cell hbp).trans p6
              have p7 := (hBt.cell hbp).trans p7
              have p8 := (hBt.cell hbp).trans p8
              have p9 := (hBt.cell hbp).trans p9
              have p10 := (hBt.cell hbp).trans p10
              have p11 := (hBt.cell hbp).trans p11
              have hbpz := Nat.lt_of_lt_of_le hbp hBt.size
              have x1z := X1t.lt
              have yz := Y.lt
              have X1tc0 : W.cell? ⟨w.heap.size, 0, none⟩ = some (.slice (some ⟨bp, op, none⟩) n kp) := X1t.cell 0
              have X1tc1 : W.cell? ⟨w.heap.size, 1, none⟩ = some (.slice Ac n kc) := X1t.cell 1
              have X1tc2 : W.cell? ⟨w.heap.size, 2, none⟩ = some (.slice (some ⟨bb, ob, none⟩) n kb) := X1t.cell 2
              have Yc0 : W.cell? ⟨D, 0, none⟩ = some (.int .i64 s.level) := Y.cell 0
              have Yc1 : W.cell? ⟨D, 1, none⟩ = some (.int .i64 s.position) := Y.cell 1
              have Yc2 : W.cell? ⟨D, 2, none⟩ = some (.int .i64 s.p0) := Y.cell 2
              have Yc3 : W.cell? ⟨D, 3, none⟩ = some (.int .i64 s.p1) := Y.cell 3
              have Yc4 : W.cell? ⟨D, 4, none⟩ = some (.int .i64 s.order) := Y.cell 4
              have Yc5 : W.cell? ⟨D, 5, none⟩ = some (.int .i64 s.age) := Y.cell 5
              have u0 : ∀ z : Later W, z.w.cell? ⟨w.heap.size, 0, none⟩ = some (.slice (some ⟨bp, op, none⟩) n kp) := Later.cell X1tc0 x1z
              have f0 : ∀ z : Later W, z.w.cell? ⟨bp, op + t * 12, none⟩ = some (.int .i64 p.top) := Later.cell p0 hbpz
              have f1 : ∀ z : Later W, z.w.cell? ⟨bp, op + t * 12 + 1, none⟩ = some (.int .i64 p.bank) := Later.cell p1 hbpz
              have f2 : ∀ z : Later W, z.w.cell? ⟨bp, op + t * 12 + 2, none⟩ = some (.int .i64 p.siphon) := Later.cell p2 hbpz
              have f3 : ∀ z : Later W, z.w.cell? ⟨bp, op + t * 12 + 3, none⟩ = some (.int .i64 p.start) := Later.cell p3 hbpz
              have f4 : ∀ z : Later W, z.w.cell? ⟨bp, op + t * 12 + 4, none⟩ = some (.int .i64 p.positions) := Later.cell p4 hbpz
              have f5 : ∀ z : Later W, z.w.cell? ⟨bp, op + t * 12 + 5, none⟩ = some (.int .i64 p.rate) := Later.cell p5 hbpz
              have f6 : ∀ z : Later W, z.w.cell? ⟨bp, op + t * 12 + 6, none⟩ = some (.int .i64 p.step) := Later.cell p6 hbpz
              have f7 : ∀ z : Later W, z.w.cell? ⟨bp, op + t * 12 + 7, none⟩ = some (.int .i64 p.pass) := Later.cell p7 hbpz
              have f8 : ∀ z : Later W, z.w.cell? ⟨bp, op + t * 12 + 8, none⟩ = some (.int .i64 p.feed) := Later.cell p8 hbpz
              have f9 : ∀ z : Later W, z.w.cell? ⟨bp, op + t * 12 + 9, none⟩ = some (.int .i64 p.pipe) := Later.cell p9 hbpz
              have f10 : ∀ z : Later W, z.w.cell? ⟨bp, op + t * 12 + 10, none⟩ = some (.int .i64 p.orders) := Later.cell p10 hbpz
              have f11 : ∀ z : Later W, z.w.cell? ⟨bp, op + t * 12 + 11, none⟩ = some (.int .i64 p.age) := Later.cell p11 hbpz
              have g0 : ∀ z : Later W, z.w.cell? ⟨D, 0, none⟩ = some (.int .i64 s.level) := Later.cell Yc0 yz
              have g1 : ∀ z : Later W, z.w.cell? ⟨D, 1, none⟩ = some (.int .i64 s.position) := Later.cell Yc1 yz
              have g2 : ∀ z : Later W, z.w.cell? ⟨D, 2, none⟩ = some (.int .i64 s.p0) := Later.cell Yc2 yz
              have g3 : ∀ z : Later W, z.w.cell? ⟨D, 3, none⟩ = some (.int .i64 s.p1) := Later.cell Yc3 yz
              have g4 : ∀ z : Later W, z.w.cell? ⟨D, 4, none⟩ = some (.int .i64 s.order) := Later.cell Yc4 yz
              have g5 : ∀ z : Later W, z.w.cell? ⟨D, 5, none⟩ = some (.int .i64 s.age) := Later.cell Yc5 yz
              have hd := (Below.refl W.heap.size W).drew
              have hz : Calls Try.prog 19 #[.agg #[.int .i64 p.top, .int .i64 p.bank, .int .i64 p.siphon, .int .i64 p.start, .int .i64 p.positions, .int .i64 p.rate, .int .i64 p.step, .int .i64 p.pass, .int .i64 p.feed, .int .i64 p.pipe, .int .i64 p.orders, .int .i64 p.age], .agg #[.int .i64 s.level, .int .i64 s.position, .int .i64 s.p0, .int .i64 s.p1, .int .i64 s.order, .int .i64 s.age]] W.drew (fun e w' => e = .returned (.tuple #[.bool true, .int .i64 0]) ∧ Below W.heap.size W w') :=
                (safe_is (p := p) (s := s) (w := W.drew) HSF).mono fun _ _ h => ⟨h.1, hd.trans h.2⟩
              go_upto_region 28 with fail
              refine wp_region_heads (C := fun w' => ∃ x : Later W, w' = x.w) [0, 1, 2, 3, 4, 5] (by kernel_rfl) (by kernel_rfl) (Later.mk' hd) (fun _ _ h => h) ?_
              simp only [headOps, List.filterMap_cons, List.filterMap_nil, List.getElem?_toArray, List.getElem?_cons_succ, List.getElem?_cons_zero]
              repeat (first | go_big_quiet_skip | (show wpQuiet _ _ _ _ (_ :: _) _; go_big_quiet_skip) | (show wpQuiet _ _ _ _ (_ :: _) _; go_big_quiet_want; go_big_quiet_op; go_big_quiet_on))
              refine wpQuiet_nil ?_
              clear u0 f0 f1 f2 f3 f4 f5 f6 f7 f8 f9 f10 f11 g0 g1 g2 g3 g4 g5 p0 p1 p2 p3 p4 p5 p6 p7 p8 p9 p10 p11
              clear X1tc0 X1tc1 X1tc2 Yc0 Yc1 Yc2 Yc3 Yc4 Yc5
              refine anyC_callD (some 144) (n := 5) (i := 6) (by kernel_rfl) rfl rfl rfl (Later.mk' hd) ?_ (hz.mono ?_)
              · go_simp
              rintro e W2 ⟨rfl, hW2⟩
              refine ⟨_, rfl, ?_⟩
              simp only [Act.put, List.setIfInBounds_toArray, List.set_cons_zero, List.set_cons_succ]
              refine anyC_heads (by kernel_rfl) 2 W2 (Later.mk' hW2) [7, 8, 9] _ _ (by kernel_rfl) ?_
              simp only [headOps, List.filterMap_cons, List.filterMap_nil, List.getElem?_toArray, List.getElem?_cons_succ, List.getElem?_cons_zero]
              repeat (first | go_big_quiet_skip | (show wpQuiet _ _ _ _ (_ :: _) _; go_big_quiet_skip) | (show wpQuiet _ _ _ _ (_ :: _) _; go_big_quiet_want; go_big_quiet_op; go_big_quiet_on))
              refine wpQuiet_nil ?_
              refine anyC_valD (some 19) (n := 1) (i := 10) (v := .bool true) (w' := W2) (by kernel_rfl) rfl rfl rfl (Later.mk' hW2) (by first | rfl | go_simp) ?_
              simp only [Act.put, List.setIfInBounds_toArray, List.set_cons_zero, List.set_cons_succ]
              refine anyC_valD (some 20) (n := 0) (i := 11) (v := .int .i64 0) (w' := W2) (by kernel_rfl) rfl rfl rfl (Later.mk' hW2) (by first | rfl | go_simp) ?_
              simp only [Act.put, List.setIfInBounds_toArray, List.set_cons_zero, List.set_cons_succ]
              refine anyC_done (by kernel_rfl) (Later.mk' hW2) ?_
              have X2 := X1t.later hW2
              have Y2 := Y.later hW2
              have hB2 := hBt.trans (hW2.mono hBt.size)
              have hb2 := hb.trans (hW2.mono hb.size)
              clear hz hd hW2 X1t Y hBt hb x1z yz hck kz hbpz
              have hQ := Lib.hid ((HVb.out.below hB2).more hB2.size)
              have r0 := (hB2.cell hbb).trans r0
              have hbbz := Nat.lt_of_lt_of_le hbb hB2.size
              have x1z := X2.lt
              have yz := Y2.lt
              have X2c0 : W2.cell? ⟨w.heap.size, 0, none⟩ = some (.slice (some ⟨bp, op, none⟩) n kp) := X2.cell 0
              have X2c1 : W2.cell? ⟨w.heap.size, 1, none⟩ = some (.slice Ac n kc) := X2.cell 1
              have X2c2 : W2.cell? ⟨w.heap.size, 2, none⟩ = some (.slice (some ⟨bb, ob, none⟩) n kb) := X2.cell 2
              have Y2c0 : W2.cell? ⟨D, 0, none⟩ = some (.int .i64 s.level) := Y2.cell 0
              have Y2c1 : W2.cell? ⟨D, 1, none⟩ = some (.int .i64 s.position) := Y2.cell 1
              have Y2c2 : W2.cell? ⟨D, 2, none⟩ = some (.int .i64 s.p0) := Y2.cell 2
              have Y2c3 : W2.cell? ⟨D, 3, none⟩ = some (.int .i64 s.p1) := Y2.cell 3
              have Y2c4 : W2.cell? ⟨D, 4, none⟩ = some (.int .i64 s.order) := Y2.cell 4
              have Y2c5 : W2.cell? ⟨D, 5, none⟩ = some (.int .i64 s.age) := Y2.cell 5
              have u2 : ∀ z : Later W2, z.w.cell? ⟨w.heap.size, 2, none⟩ = some (.slice (some ⟨bb, ob, none⟩) n kb) := Later.cell X2c2 x1z
              have v0 : ∀ z : Later W2, z.w.cell? ⟨bb, ob + t, none⟩ = some Vb := Later.cell r0 hbbz
              have g0 : ∀ z : Later W2, z.w.cell? ⟨D, 0, none⟩ = some (.int .i64 s.level) := Later.cell Y2c0 yz
              have g1 : ∀ z : Later W2, z.w.cell? ⟨D, 1, none⟩ = some (.int .i64 s.position) := Later.cell Y2c1 yz
              have g2 : ∀ z : Later W2, z.w.cell? ⟨D, 2, none⟩ = some (.int .i64 s.p0) := Later.cell Y2c2 yz
              have g3 : ∀ z : Later W2, z.w.cell? ⟨D, 3, none⟩ = some (.int .i64 s.p1) := Later.cell Y2c3 yz
              have g4 : ∀ z : Later W2, z.w.cell? ⟨D, 4, none⟩ = some (.int .i64 s.order) := Later.cell Y2c4 yz
              have g5 : ∀ z : Later W2, z.w.cell? ⟨D, 5, none⟩ = some (.int .i64 s.age) := Later.cell Y2c5 yz
              have hd := (Below.refl W2.heap.size W2).drew
              have hz : Calls Try.prog 20 #[Vb, .agg #[.int .i64 s.level, .int .i64 s.position, .int .i64 s.p0, .int .i64 s.p1, .int .i64 s.order, .int .i64 s.age]] W2.drew (fun e w' => e = .returned (.tuple #[.bool true, .int .i64 0]) ∧ Below W2.heap.size W2 w') :=
                (bHolds_is (b := b) (s := s) (w := W2.drew) HHO ((hQ.out.below hd).more hd.size)).mono fun _ _ h => ⟨h.1, hd.trans h.2⟩
              go_upto_region 29 with fail
              refine wp_region_heads (C := fun w' => ∃ x : Later W2, w' = x.w) [0, 1, 2, 3, 4, 5] (by kernel_rfl) (by kernel_rfl) (Later.mk' hd) (fun _ _ h => h) ?_
              simp only [headOps, List.filterMap_cons, List.filterMap_nil, List.getElem?_toArray, List.getElem?_cons_succ, List.getElem?_cons_zero]
              repeat (first | go_big_quiet_skip | (show wpQuiet _ _ _ _ (_ :: _) _; go_big_quiet_skip) | (show wpQuiet _ _ _ _ (_ :: _) _; go_big_quiet_want; go_big_quiet_op; go_big_quiet_on))
              refine wpQuiet_nil ?_
              clear u2 v0 g0 g1 g2 g3 g4 g5
              clear X2c0 X2c1 X2c2 Y2c0 Y2c1 Y2c2 Y2c3 Y2c4 Y2c5
              refine anyC_callD (some 154) (n := 5) (i := 6) (by kernel_rfl) rfl rfl rfl (Later.mk' hd) ?_ (hz.mono ?_)
              · go_simp
              rintro e W3 ⟨rfl, hW3⟩
              refine ⟨_, rfl, ?_⟩
              simp only [Act.put, List.setIfInBounds_toArray, List.set_cons_zero, List.set_cons_succ]
              refine anyC_heads (by kernel_rfl) 2 W3 (Later.mk' hW3) [7, 8, 9] _ _ (by kernel_rfl) ?_
              simp only [headOps, List.filterMap_cons, List.filterMap_nil, List.getElem?_toArray, List.getElem?_cons_succ, List.getElem?_cons_zero]
              repeat (first | go_big_quiet_skip | (show wpQuiet _ _ _ _ (_ :: _) _; go_big_quiet_skip) | (show wpQuiet _ _ _ _ (_ :: _) _; go_big_quiet_want; go_big_quiet_op; go_big_quiet_on))
              refine wpQuiet_nil ?_
              refine anyC_valD (some 21) (n := 1) (i := 10) (v := .bool true) (w' := W3) (by kernel_rfl) rfl rfl rfl (Later.mk' hW3) (by first | rfl | go_simp) ?_
              simp only [Act.put, List.setIfInBounds_toArray, List.set_cons_zero, List.set_cons_succ]
              refine anyC_valD (some 22) (n := 0) (i := 11) (v := .int .i64 0) (w' := W3) (by kernel_rfl) rfl rfl rfl (Later.mk' hW3) (by first | rfl | go_simp) ?_
              simp only [Act.put, List.setIfInBounds_toArray, List.set_cons_zero, List.set_cons_succ]
              refine anyC_done (by kernel_rfl) (Later.mk' hW3) ?_
              have hb3 := hb2.trans (hW3.mono hb2.size)
              clear hz hd hW3 X2 Y2 hb2 x1z yz hbbz r0
              go_wp2
              exact ⟨⟨t + 1, by omega, by go_num, hb3⟩, by simp [intOf]; omega⟩
end Go.Proofs.Ytcjcjkomcolgeaa
