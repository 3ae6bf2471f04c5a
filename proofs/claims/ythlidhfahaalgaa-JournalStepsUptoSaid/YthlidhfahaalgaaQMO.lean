/- JournalSteps: records added one by one: contract of its function add. (Printed by gen_mo.py.) -/
import Derived.Test.YthlidhfahaalgaaQK
import Derived.Test.YthlidhfahaalgaaQMB
import Derived.Test.YthlidhfahaalgaaQMJ
import Derived.Test.YthlidhfahaalgaaQJF
import Derived.RangeFuncNested
import Derived.OwnWalkIn
set_option linter.unusedVariables false
set_option linter.unusedSimpArgs false
set_option maxRecDepth 100000
set_option maxHeartbeats 16000000
namespace Go.Proofs.Ythlidhfahaalgaa
open Go.RowKit
attribute [local go_sem ↓ high] app_named cop_named
def accT (n : Nat) (R L : List Bs) : List Bs := L.foldl (fun a b => if usedT a + secT b.length ≤ n then a ++ [b] else a) R
structure Jok (J : Jn) (R : List Bs) (n s : Nat) : Prop where
  ok : J.okB = true
  is : J = ⟨R, n, s⟩
theorem Jok.add {J : Jn} {R : List Bs} {n s : Nat} (h : Jok J R n s) (b : Bs) : (usedT R + secT b.length ≤ n → (appendT J b).2 = 0 ∧ Jok (appendT J b).1 (R ++ [b]) n s) ∧ (¬ usedT R + secT b.length ≤ n → (appendT J b).2 ≠ 0) := by
  obtain ⟨ok, rfl⟩ := h
  obtain ⟨g1, g2, g3, g4, g5⟩ := (Jn.okB_iff _).1 ok
  dsimp only at g1 g2 g3 g4 g5
  constructor
  · intro hf
    rw [appendT, if_pos ok, if_neg (by dsimp only; omega)]
    refine ⟨rfl, (Jn.okB_iff _).2 ⟨g1, g2, g3, ?_, ?_⟩, rfl⟩
    · simp only [List.length_append, List.length_cons]; omega
    · simp only [usedT_append]
      have : usedT [b] = secT b.length := by rw [usedT_cons]; rfl
      omega
  · intro hf
    rw [appendT, if_pos ok, if_pos (by dsimp only; omega)]
    simp
theorem Jok.jn {J : Jn} {R : List Bs} {n s m : Nat} (h : Jok J R n s) (hm : R.length = m) : JnIs J m n s := by
  obtain ⟨_, rfl⟩ := h
  exact ⟨hm, rfl, rfl⟩
theorem accT_step (n : Nat) (R L : List Bs) {k : Nat} (hk : k < L.length) : accT n R (L.take (k + 1)) = if usedT (accT n R (L.take k)) + secT (L[k]).length ≤ n then accT n R (L.take k) ++ [L[k]] else accT n R (L.take k) := by
  rw [List.take_succ_eq_append_getElem hk, accT, List.foldl_append]
  rfl
theorem jAdd_any (J : Jn) (R L : List Bs) (nn s m : Nat) (A : Option Addr) (c : Nat) (Ar : Option Addr) (nr cr : Nat) (Lx : List Nat) (w : World) (hL : InW Lx w) (hJ : Hid (Jok J R nn s)) (hm : Hid (R.length = m)) (hR : Hid (RwAt w (Out Lx) (.slice A m c) R)) (hrec : Hid (RwAt w (Out Lx) (.slice Ar nr cr) L)) (hnr : Hid (L.length = nr)) (hrl : Hid (∀ b ∈ L, b.length ≤ 140737488351232)) :
    Calls Try.prog 28 #[.agg #[.slice A m c, .int .i64 (nn : Int), .int .i64 (s : Int)], .slice Ar nr cr] w (fun e w' => ∃ (A' : Option Addr) (m' c' : Nat) (J' : Jn), e = .returned (.agg #[.slice A' m' c', .int .i64 (nn : Int), .int .i64 (s : Int)]) ∧ Hid (Jok J' (accT nn R L) nn s) ∧ Hid ((accT nn R L).length = m') ∧ Hid (RwAt w' (Out Lx) (.slice A' m' c') (accT nn R L)) ∧ Below w.heap.size w w') := by
  have hB := Below.refl w.heap.size w
  go_enter Try.func28, Try.ntmps28
  go_wp2_with fail
  have hst := (Below.refl w.heap.size w).alloc (Nat.le_refl _) (.cells #[.slice A m c, .int .i64 (nn : Int), .int .i64 (s : Int)] 29)
  have hg0 : w.heap.size ≤ w.heap.size := hB.size
  replace hR := rw_more (a := w.heap.size) (Nat.le_refl _) hR
  replace hR := rw_later hR hst
  replace hrec := rw_more (a := w.heap.size) (Nat.le_refl _) hrec
  replace hrec := rw_later hrec hst
  replace hL := hL.later hst.size
  replace hL := hL.cons (a := w.heap.size) (by simp)
  replace hB := hB.trans (hst.mono hB.size)
  have Lb := Box.new w [.slice A m c, .int .i64 (nn : Int), .int .i64 (s : Int)] 29
  have hzLb : Hid ((w.alloc (.cells #[.slice A m c, .int .i64 (nn : Int), .int .i64 (s : Int)] 29)).heap.size = w.heap.size + 1) := Lib.hid (by simp)
  clear hst
  generalize w.alloc (.cells #[.slice A m c, .int .i64 (nn : Int), .int .i64 (s : Int)] 29) = w1 at hB hL hzLb Lb hR hrec ⊢
  generalize hga : w.heap.size = Lba at hzLb Lb hL hR hrec ⊢
  have gLb : w.heap.size ≤ Lba := by rw [← hga]; exact hg0
  clear hg0
  clear hga
  rw [← hzLb.out]
  have hst := (Below.refl w1.heap.size w1).alloc (Nat.le_refl _) (.cells #[.slice none 0 0, .int .i64 0, .int .i64 0] 29)
  have nLbT : Lba ≠ w1.heap.size := by have := Lb.lt; omega
  have hg0 : w.heap.size ≤ w1.heap.size := hB.size
  replace Lb := Lb.later hst
  replace hR := rw_more (a := w1.heap.size) (Nat.le_refl _) hR
  replace hR := rw_later hR hst
  replace hrec := rw_more (a := w1.heap.size) (Nat.le_refl _) hrec
  replace hrec := rw_later hrec hst
  replace hL := hL.later hst.size
  replace hL := hL.cons (a := w1.heap.size) (by simp)
  replace hB := hB.trans (hst.mono hB.size)
  have T := Box.new w1 [.slice none 0 0, .int .i64 0, .int .i64 0] 29
  have hzT : Hid ((w1.alloc (.cells #[.slice none 0 0, .int .i64 0, .int .i64 0] 29)).heap.size = w1.heap.size + 1) := Lib.hid (by simp)
  clear hst
  generalize w1.alloc (.cells #[.slice none 0 0, .int .i64 0, .int .i64 0] 29) = w2 at hB hL hzT T Lb hR hrec ⊢
  generalize hga : w1.heap.size = Ta at hzT T nLbT hL hR hrec ⊢
  have gT : w.heap.size ≤ Ta := by rw [← hga]; exact hg0
  clear hg0
  clear hga
  have hnr9 : nr ≤ 9223372036854775807 := by have h := hrec.out.caps; omega
  clear hzLb hzT
  go_loopw [11] (fun j wr => ∃ (q m : Nat) (N : List Bs) (J : Jn) (A : Option Addr) (c : Nat), q ≤ nr ∧ j = .int .i64 (q : Int) ∧ Hid (accT nn R (L.take q) = N) ∧ Hid (Jok J N nn s) ∧ Hid (N.length = m) ∧ Box wr Lba [.slice A m c, .int .i64 (nn : Int), .int .i64 (s : Int)] ∧ Box wr Ta [.slice none 0 0, .int .i64 0, .int .i64 0] ∧ Hid (RwAt wr (Out (Ta :: Lba :: Lx)) (.slice A m c) N) ∧ Hid (RwAt wr (Out (Ta :: Lba :: Lx)) (.slice Ar nr cr) L) ∧ InW (Ta :: Lba :: Lx) wr ∧ Below w.heap.size w wr) (fun j _ => nr - (intOf j).toNat)
  case atStart => exact ⟨0, m, R, J, A, c, Nat.zero_le _, rfl, rfl, hJ, hm, Lb, T, hR, hrec, hL, hB⟩
  case round =>
    clear Lb T hR hrec hL hB hJ hm
    obtain ⟨q, m, N, J, A, c, hq, rfl, hN, hJ, hm, Lb, T, hR, hrec, hL, hB⟩ := hrel
    have hJs : Hid (sumB J.records ≤ 4194304) := Lib.hid (ok_sum hJ.out.ok)
    have hJi : Hid (JnIs J m nn s) := Lib.hid (hJ.out.jn hm.out)
    rcases Nat.lt_or_ge q nr with hqlt | hqge
    rotate_left
    · obtain rfl : nr = q := by omega
      have hqn : decide ((nr : Int) < (nr : Int)) = false := decide_eq_false (by omega)
      have hNe : Hid (accT nn R L = N) := Lib.hid (by have h := hN.out; rwa [List.take_of_length_le (by rw [hnr.out]; exact Nat.le_refl nr)] at h)
      obtain ⟨Lbc0, Lbc1, Lbc2⟩ := Lb.c3
      have Lbz : Lba < wr.heap.size := Lb.lt
      obtain ⟨Tc0, Tc1, Tc2⟩ := T.c3
      have Tz : Ta < wr.heap.size := T.lt
      have Tf0 : wr.frozen? ⟨Ta, 0, none⟩ = false := T.free 0
      have Tf1 : wr.frozen? ⟨Ta, 1, none⟩ = false := T.free 1
      have Tf2 : wr.frozen? ⟨Ta, 2, none⟩ = false := T.free 2
      go_wp2_with fail
      clear Lbc0 Lbc1 Lbc2 Lbz Tc0 Tc1 Tc2 Tz
      clear Tf0 Tf1 Tf2
      replace hR := (rw_set (a := Ta) (by simp) (rw_set (a := Ta) (by simp) (rw_set (a := Ta) (by simp) hR 0 (.slice A m c)) 1 (.int .i64 (nn : Int))) 2 (.int .i64 (s : Int)))
      replace hrec := (rw_set (a := Ta) (by simp) (rw_set (a := Ta) (by simp) (rw_set (a := Ta) (by simp) hrec 0 (.slice A m c)) 1 (.int .i64 (nn : Int))) 2 (.int .i64 (s : Int)))
      replace hB := (((hB.setCell (p := ⟨Ta, 0, none⟩) gT (.slice A m c)).setCell (p := ⟨Ta, 1, none⟩) gT (.int .i64 (nn : Int))).setCell (p := ⟨Ta, 2, none⟩) gT (.int .i64 (s : Int)))
      replace Lb := (((Lb.other (a := ⟨Ta, 0, none⟩) nLbT (.slice A m c)).other (a := ⟨Ta, 1, none⟩) nLbT (.int .i64 (nn : Int))).other (a := ⟨Ta, 2, none⟩) nLbT (.int .i64 (s : Int)))
      replace T := (((T.set 0 (.slice A m c)).set 1 (.int .i64 (nn : Int))).set 2 (.int .i64 (s : Int)))
      have hLs : InW (Ta :: Lba :: Lx) (((wr.setCell ⟨Ta, 0, none⟩ (.slice A m c)).setCell ⟨Ta, 1, none⟩ (.int .i64 (nn : Int))).setCell ⟨Ta, 2, none⟩ (.int .i64 (s : Int))) := hL.later (by simp)
      replace hL := hLs
      clear hLs
      generalize (((wr.setCell ⟨Ta, 0, none⟩ (.slice A m c)).setCell ⟨Ta, 1, none⟩ (.int .i64 (nn : Int))).setCell ⟨Ta, 2, none⟩ (.int .i64 (s : Int))) = w3 at hB hL Lb T hR hrec ⊢
      have z0 := T.cell 0
      have z1 := T.cell 1
      have z2 := T.cell 2
      refine bodyPost_ret (v := .agg #[.slice A m c, .int .i64 (nn : Int), .int .i64 (s : Int)]) (by simp [results, Try.results28, go_sem, z0, z1, z2]) rfl ?_
      exact ⟨A, m, c, J, rfl, Lib.hid (by rw [hNe.out]; exact hJ.out), Lib.hid (by rw [hNe.out]; exact hm.out), Lib.hid (by rw [hNe.out]; exact hR.out.weak fun _ hb _ hc => hb (List.mem_cons_of_mem _ (List.mem_cons_of_mem _ hc))), hB⟩
    have hqn : decide ((q : Int) < (nr : Int)) = true := decide_eq_true (by omega)
    have j0 : (0 : Int) ≤ (q : Int) := by omega
    have j1 : (q : Int) < (nr : Int) := by omega
    obtain ⟨rb, ro, V, hAr, hrL, hrz, hrc, hrb⟩ := hrec.out.row (k := q) (by rw [hnr.out]; exact hqlt)
    subst hAr
    obtain ⟨Ab, cb, hV, hbm⟩ := hrb.form
    subst hV
    have hst := accT_step nn R L (k := q) (by rw [hnr.out]; exact hqlt)
    rw [hN.out] at hst
    obtain ⟨b, hb0⟩ : ∃ x, L[q]'(by rw [hnr.out]; exact hqlt) = x := ⟨_, rfl⟩
    rw [hb0] at hrc hrb hbm hst
    have hnb3 := hrl.out b (by rw [← hb0]; exact List.getElem_mem _)
    clear hb0
    have HST := Lib.hid hst
    clear hst
    obtain ⟨nb, hnb⟩ : ∃ x, b.length = x := ⟨_, rfl⟩
    rw [hnb] at hrc hrb hnb3
    replace hnb := Lib.hid hnb
    have hnb2 : nb ≤ 9223372036854775000 := by omega
    replace hrb := Lib.hid hrb
    clear hbm hrL hnb3
    obtain ⟨⟨J1, er1⟩, h1⟩ : ∃ p, appendT J b = p := ⟨_, rfl⟩
    obtain ⟨n1, hn1⟩ : ∃ k, J1.records.length = k := ⟨_, rfl⟩
    obtain ⟨m1, hm1⟩ : ∃ k, J1.many = k := ⟨_, rfl⟩
    obtain ⟨s1, hs1⟩ : ∃ k, J1.synced = k := ⟨_, rfl⟩
    have hj1 : Hid (JnIs J1 n1 m1 s1) := ⟨hn1, hm1, hs1⟩
    clear hn1 hm1 hs1
    have hadd := Lib.hid (hJ.out.add b)
    replace h1 := Lib.hid h1
    have eJ : J.records = N := by rw [hJ.out.is]
    have hRJ : Hid (RwAt wr (Out (Ta :: Lba :: Lx)) (.slice A m c) J.records) := by rw [eJ]; exact hR
    clear eJ
    obtain ⟨Lbc0, Lbc1, Lbc2⟩ := Lb.c3
    have Lbz : Lba < wr.heap.size := Lb.lt
    go_wp2_with fail
    clear Lbc0 Lbc1 Lbc2 Lbz
    refine (jAppend_at hRJ hJi hJs hrb hnb hnb2).mono ?_
    rintro e w4 hh
    obtain ⟨A1, c1, rfl, R1, hb⟩ := RetJn.is hh hL h1 hj1
    replace Lb := Lb.later hb
    replace T := T.later hb
    replace hR := rw_later hR hb
    replace hrec := rw_later hrec hb
    replace hrb := bs_later hrb hb
    replace hRJ := rw_later hRJ hb
    replace hB := hB.trans (hb.mono hB.size)
    replace hL := hL.later hb.size
    clear hb
    clear hRJ
    clear hrc hrz
    by_cases hfit : usedT N + secT b.length ≤ nn
    rotate_left
    · have he : er1 ≠ 0 := by have := hadd.out.2 hfit; rwa [h1.out] at this
      have he2 : (er1 == 0) = false := by simpa using he
      have hN2 : Hid (accT nn R (L.take (q + 1)) = N) := Lib.hid (by rw [HST.out, if_neg hfit])
      clear hfit
      obtain ⟨Lbc0, Lbc1, Lbc2⟩ := Lb.c3
      have Lbz : Lba < w4.heap.size := Lb.lt
      go_wp2_with fail
      clear Lbc0 Lbc1 Lbc2 Lbz
      have hst := (Below.refl w4.heap.size w4).alloc (Nat.le_refl _) (.cells #[.slice A1 n1 c1, .int .i64 m1, .int .i64 s1] 29)
      have nLbY : Lba ≠ w4.heap.size := by have := Lb.lt; omega
      have nTY : Ta ≠ w4.heap.size := by have := T.lt; omega
      replace Lb := Lb.later hst
      replace T := T.later hst
      replace hR := rw_later hR hst
      replace hrec := rw_later hrec hst
      replace hrb := bs_later hrb hst
      replace R1 := rw_later R1 hst
      replace hL := hL.later hst.size
      replace hB := hB.trans (hst.mono hB.size)
      have Y := Box.new w4 [.slice A1 n1 c1, .int .i64 m1, .int .i64 s1] 29
      have hzY : Hid ((w4.alloc (.cells #[.slice A1 n1 c1, .int .i64 m1, .int .i64 s1] 29)).heap.size = w4.heap.size + 1) := Lib.hid (by simp)
      clear hst
      generalize w4.alloc (.cells #[.slice A1 n1 c1, .int .i64 m1, .int .i64 s1] 29) = w5 at hB hL hzY Y Lb T hR hrec hrb R1 ⊢
      generalize hga : w4.heap.size = Ya at hzY Y nLbY nTY ⊢
      clear hga
      exact ⟨⟨q + 1, m, N, J, A, c, by omega, by go_num, hN2, hJ, hm, Lb, T, hR, hrec, hL, hB⟩, by simp [intOf] <;> omega⟩
    have hz := hadd.out.1 hfit
    rw [h1.out] at hz
    obtain ⟨he, hJ1⟩ := hz
    dsimp only at he hJ1
    subst he
    have hN2 : Hid (accT nn R (L.take (q + 1)) = N ++ [b]) := Lib.hid (by rw [HST.out, if_pos hfit])
    have hm1 : Hid ((N ++ [b]).length = m + 1) := Lib.hid (by rw [List.length_append, hm.out]; rfl)
    have hji := hJ1.jn hm1.out
    replace hJ1 := Lib.hid hJ1
    obtain rfl : n1 = m + 1 := hj1.out.len.symm.trans hji.len
    obtain rfl : m1 = nn := hj1.out.many.symm.trans hji.many
    obtain rfl : s1 = s := hj1.out.sync.symm.trans hji.sync
    clear hji hfit
    go_upto_region 6 with fail
    have hst := (Below.refl w4.heap.size w4).alloc (Nat.le_refl _) (.cells #[.slice A1 (m + 1) c1, .int .i64 (nn : Int), .int .i64 (s : Int)] 29)
    have nLbY : Lba ≠ w4.heap.size := by have := Lb.lt; omega
    have nTY : Ta ≠ w4.heap.size := by have := T.lt; omega
    replace Lb := Lb.later hst
    replace T := T.later hst
    replace hR := rw_later hR hst
    replace hrec := rw_later hrec hst
    replace hrb := bs_later hrb hst
    replace R1 := rw_later R1 hst
    replace hL := hL.later hst.size
    replace hB := hB.trans (hst.mono hB.size)
    have Y := Box.new w4 [.slice A1 (m + 1) c1, .int .i64 (nn : Int), .int .i64 (s : Int)] 29
    have hzY : Hid ((w4.alloc (.cells #[.slice A1 (m + 1) c1, .int .i64 (nn : Int), .int .i64 (s : Int)] 29)).heap.size = w4.heap.size + 1) := Lib.hid (by simp)
    clear hst
    generalize w4.alloc (.cells #[.slice A1 (m + 1) c1, .int .i64 (nn : Int), .int .i64 (s : Int)] 29) = w5 at hB hL hzY Y Lb T hR hrec hrb R1 ⊢
    generalize hga : w4.heap.size = Ya at hzY Y nLbY nTY ⊢
    clear hga
    obtain ⟨Lbc0, Lbc1, Lbc2⟩ := Lb.c3
    have Lbz : Lba < w5.heap.size := Lb.lt
    obtain ⟨Yc0, Yc1, Yc2⟩ := Y.c3
    have Yz : Ya < w5.heap.size := Y.lt
    have Lbf0 : w5.frozen? ⟨Lba, 0, none⟩ = false := Lb.free 0
    have Lbf1 : w5.frozen? ⟨Lba, 1, none⟩ = false := Lb.free 1
    have Lbf2 : w5.frozen? ⟨Lba, 2, none⟩ = false := Lb.free 2
    go_wp2_with fail
    clear Lbc0 Lbc1 Lbc2 Lbz Yc0 Yc1 Yc2 Yz
    clear Lbf0 Lbf1 Lbf2
    replace hR := (rw_set (a := Lba) (by simp) (rw_set (a := Lba) (by simp) (rw_set (a := Lba) (by simp) hR 0 (.slice A1 (m + 1) c1)) 1 (.int .i64 (nn : Int))) 2 (.int .i64 (s : Int)))
    replace hrec := (rw_set (a := Lba) (by simp) (rw_set (a := Lba) (by simp) (rw_set (a := Lba) (by simp) hrec 0 (.slice A1 (m + 1) c1)) 1 (.int .i64 (nn : Int))) 2 (.int .i64 (s : Int)))
    replace hrb := (bs_set (a := Lba) (by simp) (bs_set (a := Lba) (by simp) (bs_set (a := Lba) (by simp) hrb 0 (.slice A1 (m + 1) c1)) 1 (.int .i64 (nn : Int))) 2 (.int .i64 (s : Int)))
    replace R1 := (rw_set (a := Lba) (by simp) (rw_set (a := Lba) (by simp) (rw_set (a := Lba) (by simp) R1 0 (.slice A1 (m + 1) c1)) 1 (.int .i64 (nn : Int))) 2 (.int .i64 (s : Int)))
    replace hB := (((hB.setCell (p := ⟨Lba, 0, none⟩) gLb (.slice A1 (m + 1) c1)).setCell (p := ⟨Lba, 1, none⟩) gLb (.int .i64 (nn : Int))).setCell (p := ⟨Lba, 2, none⟩) gLb (.int .i64 (s : Int)))
    replace T := (((T.other (a := ⟨Lba, 0, none⟩) (Ne.symm nLbT) (.slice A1 (m + 1) c1)).other (a := ⟨Lba, 1, none⟩) (Ne.symm nLbT) (.int .i64 (nn : Int))).other (a := ⟨Lba, 2, none⟩) (Ne.symm nLbT) (.int .i64 (s : Int)))
    replace Y := (((Y.other (a := ⟨Lba, 0, none⟩) (Ne.symm nLbY) (.slice A1 (m + 1) c1)).other (a := ⟨Lba, 1, none⟩) (Ne.symm nLbY) (.int .i64 (nn : Int))).other (a := ⟨Lba, 2, none⟩) (Ne.symm nLbY) (.int .i64 (s : Int)))
    replace Lb := (((Lb.set 0 (.slice A1 (m + 1) c1)).set 1 (.int .i64 (nn : Int))).set 2 (.int .i64 (s : Int)))
    have hLs : InW (Ta :: Lba :: Lx) (((w5.setCell ⟨Lba, 0, none⟩ (.slice A1 (m + 1) c1)).setCell ⟨Lba, 1, none⟩ (.int .i64 (nn : Int))).setCell ⟨Lba, 2, none⟩ (.int .i64 (s : Int))) := hL.later (by simp)
    replace hL := hLs
    clear hLs
    generalize (((w5.setCell ⟨Lba, 0, none⟩ (.slice A1 (m + 1) c1)).setCell ⟨Lba, 1, none⟩ (.int .i64 (nn : Int))).setCell ⟨Lba, 2, none⟩ (.int .i64 (s : Int))) = w6 at hB hL Lb T Y hR hrec hrb R1 ⊢
    have eJ1 : J1.records = N ++ [b] := by rw [hJ1.out.is]
    have hR2 : Hid (RwAt w6 (Out (Ta :: Lba :: Lx)) (.slice A1 (m + 1) c1) (N ++ [b])) := by rw [← eJ1]; exact R1
    exact ⟨⟨q + 1, m + 1, N ++ [b], J1, A1, c1, by omega, by go_num, hN2, hJ1, hm1, Lb, T, hR2, hrec, hL, hB⟩, by simp [intOf] <;> omega⟩
end Go.Proofs.Ythlidhfahaalgaa
namespace Go.Proofs.Ythlidhfahaalgaa
open Go.RowKit
theorem acc_ext (n : Nat) : ∀ (L R : List Bs), ∃ N, accT n R L = R ++ N
  | [], R => ⟨[], by rw [List.append_nil]; rfl⟩
  | b :: L, R => by
    have e : accT n R (b :: L) = accT n (if usedT R + secT b.length ≤ n then R ++ [b] else R) L := rfl
    rw [e]
    split
    · obtain ⟨N, h⟩ := acc_ext n L (R ++ [b])
      exact ⟨b :: N, by rw [h, List.append_assoc]; rfl⟩
    · exact acc_ext n L R
theorem sync_acc {S R L : List Bs} {g nn : Nat} {J : Jn} (h : GoodS S nn R g) (hg : g + 1 ≤ 4294967295) (hJ : Jok J (accT nn R L) nn R.length) :
    ∃ S', GoodS S' nn (accT nn R L) (g + 1) ∧ syncJ J ⟨S, [], -1, false⟩ = (⟨accT nn R L, nn, ((accT nn R L).length : Nat)⟩, ⟨S', [], -1, false⟩, 0) := by
  obtain ⟨N, hN⟩ := acc_ext nn L R
  obtain ⟨ok, rfl⟩ := hJ
  rw [hN] at ok ⊢
  rcases sync_good h hg (l := -1) (by omega) ok with ⟨S', l', h1, _, _, h2, _, _, h3⟩ | ⟨h0, _⟩
  · obtain rfl : l' = -1 := h2 rfl
    exact ⟨S', h1, h3⟩
  · omega
theorem sync_none {S R : List Bs} {g nn : Nat} (h : GoodS S nn R g) (hg : g + 1 ≤ 4294967295) : syncJ ⟨R, nn, (R.length : Nat)⟩ ⟨S, [], -1, false⟩ = (⟨R, nn, (R.length : Nat)⟩, ⟨S, [], -1, false⟩, 0) := by
  have h0 := opened_ok h
  have ok : (⟨R ++ [], nn, (R.length : Nat)⟩ : Jn).okB = true := by rw [List.append_nil]; exact h0
  rcases sync_good h hg (l := -1) (by omega) ok with ⟨S', l', _, _, _, h2, h4, _, h3⟩ | ⟨h9, _⟩
  · obtain ⟨rfl, rfl⟩ := h4 rfl
    rw [List.append_nil] at h3
    exact h3
  · omega
theorem jok_open {S R : List Bs} {g nn : Nat} (h : GoodS S nn R g) : Jok ⟨R, nn, (R.length : Nat)⟩ R nn R.length := ⟨opened_ok h, rfl⟩
theorem acc_jok {n s : Nat} : ∀ (L R : List Bs), Jok ⟨R, n, s⟩ R n s → Jok ⟨accT n R L, n, s⟩ (accT n R L) n s
  | [], _, h => h
  | b :: L, R, h => by
    have e : accT n R (b :: L) = accT n (if usedT R + secT b.length ≤ n then R ++ [b] else R) L := rfl
    rw [e]
    split
    · rename_i hf
      obtain ⟨_, ok, e2⟩ := (h.add b).1 hf
      rw [e2] at ok
      exact acc_jok L _ ⟨ok, rfl⟩
    · exact acc_jok L R h
theorem acc_app (n : Nat) (R L M : List Bs) : accT n (accT n R L) M = accT n R (L ++ M) := (List.foldl_append ..).symm
structure StepsJ (nn : Nat) (a b : List Bs) (S0 S1 S2 S3 : List Bs) : Prop where
  k0 : Jok ⟨[], nn, (0 : Nat)⟩ [] nn 0
  k1 : Jok ⟨accT nn [] a, nn, (0 : Nat)⟩ (accT nn [] a) nn 0
  k2 : Jok ⟨accT nn (accT nn [] a) b, nn, (0 : Nat)⟩ (accT nn (accT nn [] a) b) nn 0
  k3 : Jok ⟨accT nn [] a, nn, ((accT nn [] a).length : Nat)⟩ (accT nn [] a) nn (accT nn [] a).length
  k4 : Jok ⟨accT nn (accT nn [] a) b, nn, ((accT nn [] a).length : Nat)⟩ (accT nn (accT nn [] a) b) nn (accT nn [] a).length
  k5 : Jok ⟨accT nn (accT nn [] a) b, nn, ((accT nn (accT nn [] a) b).length : Nat)⟩ (accT nn (accT nn [] a) b) nn (accT nn (accT nn [] a) b).length
  y1 : syncJ ⟨accT nn (accT nn [] a) b, nn, (0 : Nat)⟩ ⟨S0, [], -1, false⟩ = (⟨accT nn (accT nn [] a) b, nn, ((accT nn (accT nn [] a) b).length : Nat)⟩, ⟨S1, [], -1, false⟩, 0)
  y2 : syncJ ⟨accT nn [] a, nn, (0 : Nat)⟩ ⟨S0, [], -1, false⟩ = (⟨accT nn [] a, nn, ((accT nn [] a).length : Nat)⟩, ⟨S2, [], -1, false⟩, 0)
  y3 : syncJ ⟨accT nn (accT nn [] a) b, nn, ((accT nn [] a).length : Nat)⟩ ⟨S2, [], -1, false⟩ = (⟨accT nn (accT nn [] a) b, nn, ((accT nn (accT nn [] a) b).length : Nat)⟩, ⟨S3, [], -1, false⟩, 0)
  y4 : syncJ ⟨accT nn (accT nn [] a) b, nn, ((accT nn (accT nn [] a) b).length : Nat)⟩ ⟨S3, [], -1, false⟩ = (⟨accT nn (accT nn [] a) b, nn, ((accT nn (accT nn [] a) b).length : Nat)⟩, ⟨S3, [], -1, false⟩, 0)
  o0 : openT ⟨S0, [], -1, false⟩ = (⟨[], nn, (0 : Nat)⟩, 0)
  o1 : openT ⟨S1, [], -1, false⟩ = (⟨accT nn (accT nn [] a) b, nn, ((accT nn (accT nn [] a) b).length : Nat)⟩, 0)
  o3 : openT ⟨S3, [], -1, false⟩ = (⟨accT nn (accT nn [] a) b, nn, ((accT nn (accT nn [] a) b).length : Nat)⟩, 0)
  l0 : S0.length = nn
  l1 : S1.length = nn
  l2 : S2.length = nn
  l3 : S3.length = nn
theorem steps_all {nn : Nat} (h1 : 1 ≤ nn) (h2 : nn ≤ 4096) (a b : List Bs) : ∃ S1 S2 S3, StepsJ nn a b (List.replicate nn zeros) S1 S2 S3 := by
  have g0 := new_good h1 h2
  have k0 : Jok ⟨[], nn, (0 : Nat)⟩ [] nn 0 := jok_open g0
  have k1 := acc_jok a [] k0
  have k2 := acc_jok b _ k1
  have k2' : Jok ⟨accT nn (accT nn [] a) b, nn, (0 : Nat)⟩ (accT nn [] (a ++ b)) nn 0 := by rw [← acc_app]; exact k2
  obtain ⟨S1, g1, y1⟩ := sync_acc g0 (by omega) k2'
  rw [← acc_app] at g1 y1
  obtain ⟨S2, g2, y2⟩ := sync_acc g0 (by omega) k1
  have k3 := jok_open g2
  have k4 := acc_jok b _ k3
  obtain ⟨S3, g3, y3⟩ := sync_acc g2 (by omega) k4
  have k5 := jok_open g3
  exact ⟨S1, S2, S3, k0, k1, k2, k3, k4, k5, y1, y2, y3, sync_none g3 (by omega), open_good g0 (by omega), open_good g1 (by omega), open_good g3 (by omega), g0.len, g1.len, g2.len, g3.len⟩
end Go.Proofs.Ythlidhfahaalgaa
namespace Go.Proofs.Ythlidhfahaalgaa
open Go.RowKit
section
variable {P : Program} {ops : Array Oper} {md : Region.Mode} {N : Act → World → Prop} {C : World → Prop}
theorem wpOp_call {i : Nat} {o : Oper} {f : FuncId} {args : Array Value} {a : Act} {w : World} {K : Act → World → Prop} (hi : ops[i]? = some o) (hw : Region.wanted o (yielded ops a.tmps) = true)
    (hrun : (execOp a.eval o).run P w = .ok (.enter f args) w) (h : Calls P f args w fun e w' => ∃ v, e = .returned v ∧ K (a.put o.dst v) w') : wpOp P ops (Nrm N) i K a w := by
  unfold wpOp
  simp only [hi, hw, if_true]
  refine .inl ?_
  unfold Oper.wp
  rw [hrun]
  exact Calls.mono h fun e w' ⟨v, he, hk⟩ => by subst he; exact hk
theorem wpOp_val {i : Nat} {o : Oper} {v : Value} {a : Act} {w w' : World} {K : Act → World → Prop} (hi : ops[i]? = some o) (hw : Region.wanted o (yielded ops a.tmps) = true)
    (hrun : (execOp a.eval o).run P w = .ok (.value v) w') (h : K (a.put o.dst v) w') : wpOp P ops (Nrm N) i K a w := by
  unfold wpOp
  simp only [hi, hw, if_true]
  refine .inl ?_
  unfold Oper.wp
  rw [hrun]
  exact h
theorem wpOp_callD {i : Nat} {o : Oper} {f : FuncId} {args : Array Value} {a : Act} {w : World} {K : Act → World → Prop} (d : Option Tmp) (hi : ops[i]? = some o) (hd : o.dst = d) (hw : Region.wanted o (yielded ops a.tmps) = true)
    (hrun : (execOp a.eval o).run P w = .ok (.enter f args) w) (h : Calls P f args w fun e w' => ∃ v, e = .returned v ∧ K (a.put d v) w') : wpOp P ops (Nrm N) i K a w := by
  subst hd
  exact wpOp_call hi hw hrun h
theorem wpOp_valD {i : Nat} {o : Oper} {v : Value} {a : Act} {w w' : World} {K : Act → World → Prop} (d : Option Tmp) (hi : ops[i]? = some o) (hd : o.dst = d) (hw : Region.wanted o (yielded ops a.tmps) = true)
    (hrun : (execOp a.eval o).run P w = .ok (.value v) w') (h : K (a.put d v) w') : wpOp P ops (Nrm N) i K a w := by
  subst hd
  exact wpOp_val hi hw hrun h
end
end Go.Proofs.Ythlidhfahaalgaa
namespace Go.Proofs.Ythlidhfahaalgaa
open Go.RowKit
set_option linter.unusedVariables false
section
variable {P : Program} {ops : Array Oper} {md : Region.Mode} {N : Act → World → Prop} {C : World → Prop} {l₀ m : Nat}
end
def valN : Op → Bool
  | .nilCheck _ => true
  | o => valOp o
theorem onlyV_bind {P : Program} {α : Type} {s : Sem α} {f : α → Sem Next} (hf : ∀ x w n w', (f x).run P w = .ok n w' → ∃ u, n = .value u) (w : World) (n : Next) (w' : World) (h : (s >>= f).run P w = .ok n w') : ∃ u, n = .value u := by
  rw [Sem.run_bind] at h
  generalize s.run P w = r at h
  rcases r with ⟨x, w1⟩ | ⟨x, w1⟩
  · exact hf _ _ _ _ h
  · cases h
theorem onlyV_pure {P : Program} (v : Value) (w : World) (n : Next) (w' : World) (h : (pure (Next.value v) : Sem Next).run P w = .ok n w') : ∃ u, n = .value u := by
  simp only [Sem.run_pure, Result.ok.injEq] at h
  exact ⟨_, h.1.symm⟩
theorem onlyV_nil {P : Program} {x : Operand} {d : Option Tmp} {t : TypeId} {pos : String} {af : Array Edge} {g : Option (Nat × Bool)} {ρ : Operand → Value} {w w' : World} {n : Next} (h : (execOp ρ ⟨d, .nilCheck x, t, pos, af, g⟩).run P w = .ok n w') : ∃ u, n = .value u := by
  unfold execOp at h
  dsimp only at h
  split at h
  · cases h
  · cases h
  · cases h
  · split at h
    · cases h
    · refine onlyV_bind (fun x w n w' h => onlyV_bind (fun b w n w' h => ?_) w n w' h) w n w' h
      split at h
      · exact onlyV_bind (fun _ => onlyV_pure _) _ _ _ h
      · first | exact onlyV_pure _ _ _ _ h | exact onlyV_bind (fun _ => onlyV_pure _) _ _ _ h
    · exact onlyV_pure _ _ _ _ h
  · exact onlyV_pure _ _ _ _ h
theorem valN_value {P : Program} {o : Oper} (ho : valN o.op = true) {ρ : Operand → Value} {w w' : World} {n : Next} (h : (execOp ρ o).run P w = .ok n w') : ∃ u, n = .value u := by
  by_cases hv : valOp o.op = true
  · exact valOp_value hv h
  · obtain ⟨dst, op, type, pos, after, guard⟩ := o
    cases op <;> first | (exact absurd ho hv) | exact onlyV_nil h
theorem yieldsN_of {P : Program} {ops : Array Oper} {C : World → Prop} {o : Oper} (ho : valN o.op = true) {a : Act} {v : Value} (hw : Region.wanted o (yielded ops a.tmps) = true) (h : ∀ w, C w → o.quietAt P a C w v) : YieldsC P ops C o v a := by
  refine .inl ⟨hw, fun w hC => ?_⟩
  have h1 := h w hC
  unfold Oper.quietAt at h1
  generalize hr : (execOp a.eval o).run P w = r at h1 ⊢
  rcases r with ⟨n, w'⟩ | ⟨x, w'⟩
  · obtain ⟨u, rfl⟩ := valN_value ho hr
    obtain ⟨rfl, rfl⟩ := h1
    rfl
  · cases h1
def headsN (md : Region.Mode) (ops : Array Oper) : List Nat → Array Bool → Bool
  | [], _ => true
  | k :: ks, listed => (Region.ready md ops listed).contains k && (Region.free md ops listed k && ((match ops[k]? with | some o => valN o.op | none => false) && headsN md ops ks (listed.setIfInBounds k true)))
end Go.Proofs.Ythlidhfahaalgaa
namespace Go.Proofs.Ythlidhfahaalgaa
open Go.RowKit
section
variable {P : Program} {ops : Array Oper} {md : Region.Mode} {N : Act → World → Prop} {C : World → Prop} {l₀ m : Nat}
theorem getD_tf {listed : Array Bool} {k : Nat} (h : listed.getD k true = false) : listed.getD k false = false := by
  rw [Array.getD_eq_getD_getElem?] at h ⊢
  cases hk : listed[k]? with
  | none => rfl
  | some b => rw [hk] at h; exact h
def Closed (md : Region.Mode) (ops : Array Oper) (listed : Array Bool) : Prop := ∀ (k : Nat) (o : Oper), ops[k]? = some o → listed.getD k false = true → ∀ e ∈ o.after, Region.binds md e = true → listed.getD e.on false = true
theorem closed_set {listed : Array Bool} {j : Nat} (h : Closed md ops listed) (hj : j ∈ Region.ready md ops listed) : Closed md ops (listed.setIfInBounds j true) := by
  obtain ⟨_, oj, hoj, hall⟩ := mem_ready.1 hj
  intro k o hk hl e he hb
  by_cases hkj : k = j
  · subst hkj
    rw [hoj] at hk
    cases hk
    exact getD_set_true (hall e he hb)
  · rw [getD_set_ne false (Ne.symm hkj)] at hl
    exact getD_set_true (h k o hk hl e he hb)
def awaited (md : Region.Mode) (ops : Array Oper) (z : Nat) : Bool :=
  (List.range z).all fun k => (List.range (z + 1)).any fun d => decide (k < d) && (match ops[d]? with | some o => !(o.after.all fun e => !Region.binds md e || e.on != k) | none => false)
theorem all_listed {z : Nat} {listed : Array Bool} (hA : awaited md ops z = true) (hc : Closed md ops listed) (hz : z ∈ Region.ready md ops listed) : ∀ k, k < z → listed.getD k false = true := by
  obtain ⟨_, oz, hoz, hall⟩ := mem_ready.1 hz
  have key : ∀ m, ∀ k, k < z → z - k ≤ m → listed.getD k false = true := by
    intro m
    induction m with
    | zero => intro k hk hm; omega
    | succ m ih =>
      intro k hk hm
      have h1 := List.all_eq_true.1 hA k (List.mem_range.2 hk)
      obtain ⟨d, hd, h2⟩ := List.any_eq_true.1 h1
      have hd := List.mem_range.1 hd
      rw [Bool.and_eq_true, decide_eq_true_eq] at h2
      obtain ⟨hkd, h3⟩ := h2
      cases ho : ops[d]? with
      | none => rw [ho] at h3; cases h3
      | some o =>
        rw [ho] at h3
        dsimp only at h3
        refine Decidable.byContradiction fun hn => ?_
        have h4 : (o.after.all fun e => !Region.binds md e || e.on != k) = true := by
          refine Array.all_eq_true_iff_forall_mem.2 fun e he => ?_
          by_cases hb : Region.binds md e = true
          · have h5 : listed.getD e.on false = true := by
              by_cases hdz : d = z
              · subst hdz
                rw [hoz] at ho
                cases ho
                exact hall e he hb
              · exact hc d o ho (ih d (by omega) (by omega)) e he hb
            have h6 : e.on ≠ k := fun h => hn (h ▸ h5)
            simp [h6]
          · simp [hb]
        rw [h4] at h3
        cases h3
  exact fun k hk => key (z - k) k hk (Nat.le_refl _)
end
theorem closed_none {md : Region.Mode} {ops : Array Oper} {n : Nat} : Closed md ops (Array.replicate n false) := by
  intro k o _ hl
  rw [Array.getD_eq_getD_getElem?, Array.getElem?_replicate] at hl
  split at hl <;> cases hl
end Go.Proofs.Ythlidhfahaalgaa
namespace Go.Proofs.Ythlidhfahaalgaa
open Go.RowKit
section
variable {P : Program} {ops : Array Oper} {md : Region.Mode} {N : Act → World → Prop} {C : World → Prop}
def anyG (P : Program) (md : Region.Mode) (ops : Array Oper) (N : Act → World → Prop) (C : World → Prop) (z : Nat) : Nat → Array Bool → Act → World → Prop
  | 0, listed, a, w => listed.getD z false = true ∧ Region.ready md ops listed = [] ∧ N a w
  | n + 1, listed, a, w => (listed.getD z true = false → C w) ∧ (Region.ready md ops listed = [] → N a w) ∧ ∀ i ∈ Region.ready md ops listed, wpOp P ops (Nrm N) i (anyG P md ops N C z n (listed.setIfInBounds i true)) a w
theorem anyG_any {z : Nat} {Q : Exit → Act → World → Prop} (hN : ∀ a w, N a w → Q .normal a w) : ∀ {n : Nat} {listed : Array Bool} {a : Act} {w : World}, anyG P md ops N C z n listed a w → wpAny P md ops Q n listed a w
  | 0, _, _, _, h => ⟨h.2.1, hN _ _ h.2.2⟩
  | n + 1, listed, a, w, h => ⟨fun h0 => hN _ _ (h.2.1 h0), fun i hi => by
      obtain ⟨_, o, ho, _⟩ := mem_ready.1 hi
      exact wpOp_go ho rfl rfl rfl (h.2.2 i hi) fun _ _ _ hk => anyG_any hN hk⟩
theorem anyG_first {z i : Nat} {oi : Oper} {v : Value} (hA : awaited md ops z = true) (hi : ops[i]? = some oi) (hiz : i < z) (hsel : ∀ (j : Nat) (o : Oper) cs b, ops[j]? = some o → o.op ≠ .select cs b) :
    ∀ (n : Nat) (listed : Array Bool) (a : Act) (w : World), Closed md ops listed → listed.getD z true = false →
      (∀ j oj, ops[j]? = some oj → j ≠ i → listed.getD j true = false → (∀ e ∈ oj.after, Region.binds md e = true → e.on ≠ i) → oi.apart ops oj = true) →
      i ∈ Region.ready md ops listed → YieldsC P ops C oi v a → C w →
      anyG P md ops N C z n (listed.setIfInBounds i true) (a.put oi.dst v) w → anyG P md ops N C z (n + 1) listed a w
  | n, listed, a, w, hc, hz, hfree, hr, hy, hC, H => by
    refine ⟨fun _ => hC, fun h => (by rw [h] at hr; cases hr), fun j hj => ?_⟩
    by_cases hji : j = i
    · subst hji; exact hy.wpOp hi hC H
    · have hjz : j ≠ z := by
        rintro rfl
        have h1 := all_listed hA hc hj i hiz
        rw [getD_tf (mem_ready.1 hr).1] at h1
        cases h1
      have hjr := ready_mono (i := i) hj hji
      match n, H with
      | 0, H =>
        rw [H.2.1] at hjr
        cases hjr
      | n + 1, H =>
        obtain ⟨hjun, oj, hoj, hall⟩ := mem_ready.1 hj
        have hiun := (mem_ready.1 hr).1
        have hnot : ∀ e ∈ oj.after, Region.binds md e = true → e.on ≠ i := fun e he hb heq => by
          have h1 := hall e he hb
          rw [heq] at h1
          rw [getD_tf hiun] at h1
          cases h1
        obtain ⟨h1, h2, h3⟩ := Oper.apart_spec (hfree j oj hoj hji hjun hnot)
        refine wpOp_go hoj (execOp_put oj (fun cs b => hsel j oj cs b hoj) a oi.dst v h1) (wanted_put oj a oi.dst v h1) (by cases oi.dst <;> rfl) (H.2.2 j hjr) fun u D w' hk => ?_
        have hzj : (listed.setIfInBounds j true).getD z true = false := by rw [getD_set_ne true hjz]; exact hz
        have hCw : C w' := by
          cases n with
          | zero =>
            have h4 := hk.1
            rw [getD_set_ne false hjz, getD_set_ne false (by omega), getD_tf hz] at h4
            cases h4
          | succ n => exact hk.1 (by rw [getD_set_ne true hjz, getD_set_ne true (by omega)]; exact hz)
        refine anyG_first (v := v) hA hi hiz hsel n _ _ _ (closed_set hc hj) hzj (fun k ok hk hki hun hno => hfree k ok hk hki ?_ hno) (ready_mono hr (Ne.symm hji)) ?_ hCw ?_
        · by_cases hjk : j = k
          · subst hjk; exact hjun
          · rw [getD_set_ne true hjk] at hun; exact hun
        · have e1 : execOp (Act.put { a with defers := D } oj.dst u).eval oi = execOp a.eval oi := execOp_put oi (fun cs b => hsel i oi cs b hi) { a with defers := D } oj.dst u h3
          have e2 := wanted_put oi { a with defers := D } oj.dst u h3
          rcases hy with ⟨y1, y2⟩ | ⟨y1, y2⟩
          · exact .inl ⟨e2.trans y1, fun w hw => by rw [e1]; exact y2 w hw⟩
          · exact .inr ⟨e2.trans y1, y2⟩
        · rw [Array.setIfInBounds_comm _ _ hji]
          have e3 : ({ a.put oi.dst v with defers := D } : Act) = Act.put { a with defers := D } oi.dst v := by cases oi.dst <;> rfl
          rw [e3, Act.put_comm _ v u h2] at hk
          exact hk
theorem anyG_heads {z : Nat} (hA : awaited md ops z = true) (hs : Region.noSelect ops = true) (n : Nat) (w : World) (hC : C w) : ∀ (ks : List Nat) (listed : Array Bool) (a : Act), Closed md ops listed → listed.getD z true = false → ks.all (fun k => decide (k < z)) = true →
    headsN md ops ks listed = true → wpQuiet P ops C (fun a' => anyG P md ops N C z n (headsL ks listed) a' w) (headOps ops ks) a → anyG P md ops N C z (n + ks.length) listed a w
  | [], _, _, _, _, _, _, h => h
  | k :: ks, listed, a, hc, hz, hlt, hB, h => by
    cases h0 : ops[k]? with
    | none => simp [headsN, h0] at hB
    | some o =>
    simp only [headsN, Bool.and_eq_true, h0] at hB
    obtain ⟨hr, hf, hv, hB⟩ := hB
    rw [List.all_cons, Bool.and_eq_true, decide_eq_true_eq] at hlt
    have hr' : k ∈ Region.ready md ops listed := by simpa using hr
    have hc' := closed_set hc hr'
    have hz' : (listed.setIfInBounds k true).getD z true = false := by rw [getD_set_ne true (by omega)]; exact hz
    rw [headOps, List.filterMap_cons, h0] at h
    unfold wpQuiet at h
    by_cases hw : Region.wanted o (yielded ops a.tmps) = true
    · rw [if_pos hw] at h
      obtain ⟨v, h1, h2⟩ := h
      exact anyG_first hA h0 hlt.1 (Region.noSelect_spec hs) (n + ks.length) listed a w hc hz (Region.free_spec h0 hf) hr' (yieldsN_of hv hw h1) hC (anyG_heads hA hs n w hC ks _ _ hc' hz' hlt.2 hB h2)
    · rw [if_neg hw] at h
      exact anyG_first hA h0 hlt.1 (Region.noSelect_spec hs) (n + ks.length) listed a w hc hz (Region.free_spec h0 hf) hr' (.inr ⟨by simpa using hw, rfl⟩) hC (anyG_heads hA hs n w hC ks _ _ hc' hz' hlt.2 hB h)
theorem anyG_val {z n i : Nat} {o : Oper} {v : Value} {listed : Array Bool} {a : Act} {w w' : World} (d : Option Tmp) (hr : Region.ready md ops listed = [i]) (hi : ops[i]? = some o) (hd : o.dst = d) (hw : Region.wanted o (yielded ops a.tmps) = true) (hC : listed.getD z true = false → C w)
    (hrun : (execOp a.eval o).run P w = .ok (.value v) w') (h : anyG P md ops N C z n (listed.setIfInBounds i true) (a.put d v) w') : anyG P md ops N C z (n + 1) listed a w := by
  subst hd
  refine ⟨hC, fun h0 => (by rw [h0] at hr; cases hr), fun j hj => ?_⟩
  rw [hr] at hj
  obtain rfl : j = i := by simpa using hj
  unfold wpOp
  simp only [hi, hw, if_true]
  refine .inl ?_
  unfold Oper.wp
  rw [hrun]
  exact h
theorem anyG_store {z n i : Nat} {o : Oper} {listed : Array Bool} {a : Act} {w w' : World} (hr : Region.ready md ops listed = [i]) (hi : ops[i]? = some o) (hd : o.dst = none) (hw : Region.wanted o (yielded ops a.tmps) = true) (hC : listed.getD z true = false → C w)
    (hrun : (execOp a.eval o).run P w = .ok .skip w') (h : anyG P md ops N C z n (listed.setIfInBounds i true) a w') : anyG P md ops N C z (n + 1) listed a w := by
  refine ⟨hC, fun h0 => (by rw [h0] at hr; cases hr), fun j hj => ?_⟩
  rw [hr] at hj
  obtain rfl : j = i := by simpa using hj
  unfold wpOp
  simp only [hi, hw, if_true]
  refine .inl ?_
  unfold Oper.wp
  rw [hrun]
  show anyG P md ops N C z n _ (a.put o.dst undef) w'
  rw [hd]
  exact h
theorem anyG_two {z n i j : Nat} {listed : Array Bool} {a : Act} {w : World} (hr : Region.ready md ops listed = [i, j]) (hC : listed.getD z true = false → C w)
    (h1 : wpOp P ops (Nrm N) i (anyG P md ops N C z n (listed.setIfInBounds i true)) a w) (h2 : wpOp P ops (Nrm N) j (anyG P md ops N C z n (listed.setIfInBounds j true)) a w) : anyG P md ops N C z (n + 1) listed a w := by
  refine ⟨hC, fun h0 => (by rw [h0] at hr; cases hr), fun k hk => ?_⟩
  rw [hr] at hk
  simp only [List.mem_cons, List.not_mem_nil, or_false] at hk
  rcases hk with rfl | rfl
  · exact h1
  · exact h2
theorem anyG_done {z : Nat} {listed : Array Bool} {a : Act} {w : World} (hr : Region.ready md ops listed = []) (hz : listed.getD z false = true) (h : N a w) : anyG P md ops N C z 0 listed a w := ⟨hz, hr, h⟩
end
theorem wp_region_upto {P : Program} {N : Act → World → Prop} {C : World → Prop} {Q : Exit → Act → World → Prop} {id : Nat} {a : Act} {w : World} {l : List Oper} (z : Nat) (ks : List Nat) (hm : P.follows .mixedOrders = true)
    (hB : ((Region.noSelect l.toArray && (decide (ks.length ≤ l.length) && headsN .any l.toArray ks (Array.replicate l.length false))) && ((awaited .any l.toArray z && decide (z < l.length)) && ks.all (fun k => decide (k < z)))) = true) (hC : C w.drew) (hN : ∀ a w, N a w → Q .normal a w)
    (h : wpQuiet P l.toArray C (fun a' => anyG P .any l.toArray N C z (l.length - ks.length) (headsL ks (Array.replicate l.length false)) a' w.drew) (headOps l.toArray ks) a) : (Code.region id l.toArray true).wp P Q a w := by
  simp only [Bool.and_eq_true] at hB
  obtain ⟨⟨hs, hn, hB⟩, ⟨hA, hp⟩, hlt⟩ := hB
  have hn := of_decide_eq_true hn
  have hp := of_decide_eq_true hp
  refine wp_region_any hm (anyG_any (C := C) (z := z) hN ?_)
  have hz0 : (Array.replicate l.length false).getD z true = false := by
    rw [Array.getD_eq_getD_getElem?, Array.getElem?_replicate, if_pos hp]
    rfl
  have := anyG_heads (P := P) (md := .any) (N := N) hA hs (l.length - ks.length) w.drew hC ks (Array.replicate l.length false) a closed_none hz0 hlt hB h
  rw [show l.length - ks.length + ks.length = l.length by omega] at this
  rw [List.size_toArray]
  exact this
end Go.Proofs.Ythlidhfahaalgaa
namespace Go.Proofs.Ythlidhfahaalgaa
open Go.RowKit
section
variable {P : Program} {ops : Array Oper} {md : Region.Mode} {N : Act → World → Prop} {C : World → Prop}
theorem getD_set_eq {l : Array Bool} {j : Nat} : (l.setIfInBounds j true).getD j true = true := by
  rw [Array.getD_eq_getD_getElem?]
  rcases Nat.lt_or_ge j l.size with h | h
  · rw [Array.getElem?_setIfInBounds_self_of_lt h]; rfl
  · rw [Array.getElem?_eq_none (by simpa using h)]; rfl
theorem anyG_pure {z i : Nat} {oi : Oper} {v : Value} (hi : ops[i]? = some oi) (hiz : i ≠ z) (hsel : ∀ (j : Nat) (o : Oper) cs b, ops[j]? = some o → o.op ≠ .select cs b) :
    ∀ (n : Nat) (listed : Array Bool) (a : Act) (w : World), Closed md ops listed → (listed.getD z true = false → C w) →
      (∀ j oj, ops[j]? = some oj → j ≠ i → listed.getD j true = false → (∀ e ∈ oj.after, Region.binds md e = true → e.on ≠ i) → oi.apart ops oj = true) →
      i ∈ Region.ready md ops listed → YieldsC P ops (fun _ => True) oi v a →
      anyG P md ops N C z n (listed.setIfInBounds i true) (a.put oi.dst v) w → anyG P md ops N C z (n + 1) listed a w
  | n, listed, a, w, hc, hC, hfree, hr, hy, H => by
    refine ⟨hC, fun h => (by rw [h] at hr; cases hr), fun j hj => ?_⟩
    by_cases hji : j = i
    · subst hji; exact hy.wpOp hi trivial H
    · have hjr := ready_mono (i := i) hj hji
      match n, H with
      | 0, H =>
        rw [H.2.1] at hjr
        cases hjr
      | n + 1, H =>
        obtain ⟨hjun, oj, hoj, hall⟩ := mem_ready.1 hj
        have hiun := (mem_ready.1 hr).1
        have hnot : ∀ e ∈ oj.after, Region.binds md e = true → e.on ≠ i := fun e he hb heq => by
          have h1 := hall e he hb
          rw [heq] at h1
          rw [getD_tf hiun] at h1
          cases h1
        obtain ⟨h1, h2, h3⟩ := Oper.apart_spec (hfree j oj hoj hji hjun hnot)
        refine wpOp_go hoj (execOp_put oj (fun cs b => hsel j oj cs b hoj) a oi.dst v h1) (wanted_put oj a oi.dst v h1) (by cases oi.dst <;> rfl) (H.2.2 j hjr) fun u D w' hk => ?_
        have hCw : (listed.setIfInBounds j true).getD z true = false → C w' := fun h => by
          have hjz : j ≠ z := by
            rintro rfl
            rw [getD_set_eq] at h
            cases h
          rw [getD_set_ne true hjz] at h
          cases n with
          | zero =>
            have h4 := hk.1
            rw [getD_set_ne false hjz, getD_set_ne false hiz, getD_tf h] at h4
            cases h4
          | succ n => exact hk.1 (by rw [getD_set_ne true hjz, getD_set_ne true hiz]; exact h)
        refine anyG_pure (v := v) hi hiz hsel n _ _ _ (closed_set hc hj) hCw (fun k ok hk hki hun hno => hfree k ok hk hki ?_ hno) (ready_mono hr (Ne.symm hji)) ?_ ?_
        · by_cases hjk : j = k
          · subst hjk; exact hjun
          · rw [getD_set_ne true hjk] at hun; exact hun
        · have e1 : execOp (Act.put { a with defers := D } oj.dst u).eval oi = execOp a.eval oi := execOp_put oi (fun cs b => hsel i oi cs b hi) { a with defers := D } oj.dst u h3
          have e2 := wanted_put oi { a with defers := D } oj.dst u h3
          rcases hy with ⟨y1, y2⟩ | ⟨y1, y2⟩
          · exact .inl ⟨e2.trans y1, fun w hw => by rw [e1]; exact y2 w hw⟩
          · exact .inr ⟨e2.trans y1, y2⟩
        · rw [Array.setIfInBounds_comm _ _ hji]
          have e3 : ({ a.put oi.dst v with defers := D } : Act) = Act.put { a with defers := D } oi.dst v := by cases oi.dst <;> rfl
          rw [e3, Act.put_comm _ v u h2] at hk
          exact hk
theorem anyG_pures {z : Nat} (hs : Region.noSelect ops = true) (n : Nat) (w : World) : ∀ (ks : List Nat) (listed : Array Bool) (a : Act), Closed md ops listed → (listed.getD z true = false → C w) → ks.all (fun k => decide (k ≠ z)) = true →
    headsN md ops ks listed = true → wpQuiet P ops (fun _ => True) (fun a' => anyG P md ops N C z n (headsL ks listed) a' w) (headOps ops ks) a → anyG P md ops N C z (n + ks.length) listed a w
  | [], _, _, _, _, _, _, h => h
  | k :: ks, listed, a, hc, hC, hlt, hB, h => by
    cases h0 : ops[k]? with
    | none => simp [headsN, h0] at hB
    | some o =>
    simp only [headsN, Bool.and_eq_true, h0] at hB
    obtain ⟨hr, hf, hv, hB⟩ := hB
    rw [List.all_cons, Bool.and_eq_true, decide_eq_true_eq] at hlt
    have hr' : k ∈ Region.ready md ops listed := by simpa using hr
    have hc' := closed_set hc hr'
    have hC' : (listed.setIfInBounds k true).getD z true = false → C w := by rw [getD_set_ne true hlt.1]; exact hC
    rw [headOps, List.filterMap_cons, h0] at h
    unfold wpQuiet at h
    by_cases hw : Region.wanted o (yielded ops a.tmps) = true
    · rw [if_pos hw] at h
      obtain ⟨v, h1, h2⟩ := h
      exact anyG_pure h0 hlt.1 (Region.noSelect_spec hs) (n + ks.length) listed a w hc hC (Region.free_spec h0 hf) hr' (yieldsN_of hv hw h1) (anyG_pures hs n w ks _ _ hc' hC' hlt.2 hB h2)
    · rw [if_neg hw] at h
      exact anyG_pure h0 hlt.1 (Region.noSelect_spec hs) (n + ks.length) listed a w hc hC (Region.free_spec h0 hf) hr' (.inr ⟨by simpa using hw, rfl⟩) (anyG_pures hs n w ks _ _ hc' hC' hlt.2 hB h)
def closedB (md : Region.Mode) (ops : Array Oper) (listed : Array Bool) : Bool := (List.range ops.size).all fun k => match ops[k]? with | some o => !listed.getD k false || o.after.all (fun e => !Region.binds md e || listed.getD e.on false) | none => true
theorem closed_of {listed : Array Bool} (h : closedB md ops listed = true) : Closed md ops listed := by
  intro k o hk hl e he hb
  have hlt : k < ops.size := (Array.getElem?_eq_some_iff.1 hk).1
  have h1 := List.all_eq_true.1 h k (List.mem_range.2 hlt)
  rw [hk] at h1
  simp only [hl, Bool.not_true, Bool.false_or] at h1
  have h2 := Array.all_eq_true_iff_forall_mem.1 h1 e he
  rw [hb] at h2
  simpa using h2
end
end Go.Proofs.Ythlidhfahaalgaa
