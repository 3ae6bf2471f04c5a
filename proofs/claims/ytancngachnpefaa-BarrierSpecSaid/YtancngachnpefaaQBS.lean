/- The reference of chapter 33: within, check, in, Holds. (Printed by pp.py.) No condition. -/
import Derived.Test.YtancngachnpefaaQK
import Derived.Deep.CutBlock
import Derived.Test.YtancngachnpefaaQBB
import Derived.Test.YtancngachnpefaaQD
import Derived.Test.YtancngachnpefaaQMB
import Derived.Test.YtancngachnpefaaQI
import Derived.Test.YtancngachnpefaaQBM
set_option linter.unusedVariables false
set_option linter.unusedSimpArgs false
set_option maxRecDepth 100000
set_option maxHeartbeats 8000000
namespace Go.Proofs.Ytancngachnpefaa
open Go.RowKit
theorem rbWithin_any (n lo hi : Int) (w : World) : Calls Try.prog 38 #[.int .i64 n, .int .i64 lo, .int .i64 hi] w fun e w' => e = .returned (.bool (inI n lo hi)) ∧ w = w' := by
  by_cases h1 : lo ≤ n
  · by_cases h2 : n ≤ hi
    · go_enter Try.func38, Try.ntmps38
      go_wp2
      go_ret
      exact ⟨by rw [inI, decide_eq_true ⟨h1, h2⟩]; rfl, rfl⟩
    · go_enter Try.func38, Try.ntmps38
      go_wp2
      go_ret
      exact ⟨by rw [inI, decide_eq_false (by omega)]; rfl, rfl⟩
  · go_enter Try.func38, Try.ntmps38
    go_wp2
    go_ret
    exact ⟨by rw [inI, decide_eq_false (by omega)]; rfl, rfl⟩
theorem rbWithin_at {n lo hi : Int} {t : Bool} (h : inI n lo hi = t) (w : World) : Calls Try.prog 38 #[.int .i64 n, .int .i64 lo, .int .i64 hi] w fun e w' => e = .returned (.bool t) ∧ w = w' :=
  (rbWithin_any n lo hi w).mono fun _ _ ⟨he, hb⟩ => ⟨by rw [he, h], hb⟩
theorem iq_in (x : Iq) : x.okB = [x.level, x.position, x.pipe, x.order, x.age, x.most].all fun n => inI n (-1048576) 1048576 := by
  simp [Iq.okB]
theorem rbCheck_any (b : List Iq) (v : Value) (w : World) (t : Int) (ht : Hid (barT b = t)) (hQ : BarAt w w.heap.size v b) :
    Calls Try.prog 37 #[v] w fun e w' => e = .returned (.int .i64 t) ∧ Below w.heap.size w w' := by
  obtain ⟨A, c, rfl, hm⟩ := hQ.form
  unfold maxLen at hm
  obtain ⟨m, hnn⟩ : ∃ m, b.length = m := ⟨_, rfl⟩
  rw [hnn] at hm hQ ⊢
  have HN := Lib.hid hnn
  have HQ := Lib.hid hQ
  clear hnn hQ
  by_cases h16 : 16 < m
  · have _hd : decide ((16 : Int) < (m : Int)) = true := decide_eq_true (by omega)
    have hF : t = 2 := by
      rw [← ht.out, barT, HN.out, if_neg (by omega)]
    go_enter Try.func37, Try.ntmps37
    go_wp2
    go_ret
    subst hF
    exact ⟨rfl, Below.refl _ _⟩
  have _hd : decide ((16 : Int) < (m : Int)) = false := decide_eq_false (by omega)
  have hT : Hid (t = if b.all Iq.okB = true then 0 else 330) := by
    rw [Hid, ← ht.out, barT, HN.out, if_pos (by omega)]
  go_enter Try.func37, Try.ntmps37
  go_wp2_with fail
  go_loopw [3] (fun i wr => ∃ j : Nat, j ≤ m ∧ i = .int .i64 j ∧ Below w.heap.size w wr ∧ Hid ((b.take j).all Iq.okB = true)) (fun i _ => m - (intOf i).toNat)
  case atStart => exact ⟨0, by omega, rfl, Below.refl _ _, rfl⟩
  case round =>
    obtain ⟨j, hj, rfl, hb, hall⟩ := hrel
    obtain ⟨wo, rfl⟩ : ∃ wo : World, wo = wr := ⟨_, rfl⟩
    by_cases hlt : j < m
    · have hjl : j < b.length := by rw [HN.out]; exact hlt
      have HQ' := HQ.out
      rw [← HN.out] at HQ'
      obtain ⟨g, off, rfl, hg, c0, c1, c2, c3, c4, c5⟩ := HQ'.ineq hjl
      have c0 := (hb.cell hg).trans c0
      have c1 := (hb.cell hg).trans c1
      have c2 := (hb.cell hg).trans c2
      have c3 := (hb.cell hg).trans c3
      have c4 := (hb.cell hg).trans c4
      have c5 := (hb.cell hg).trans c5
      have htk := bTake b Iq.okB hjl
      have hbad := bBad (f := Iq.okB) hjl
      obtain ⟨y, hy⟩ : ∃ y, b[j] = y := ⟨_, rfl⟩
      rw [hy] at c0 c1 c2 c3 c4 c5 htk hbad
      obtain ⟨y0, y1, y2, y3, y4, y5⟩ := y
      dsimp only at c0 c1 c2 c3 c4 c5
      rw [hall.out, Bool.true_and, iq_in] at htk
      rw [iq_in] at hbad
      dsimp only at htk hbad
      have htk := Lib.hid htk
      have hbad := Lib.hid hbad
      clear hy HQ'
      have hlm : decide ((j : Int) < (m : Int)) = true := decide_eq_true (by omega)
      go_wp2_with fail
      have hsz : wo.heap.size + 1 = (wo.alloc (.cells #[.int .i64 y0, .int .i64 y1, .int .i64 y2, .int .i64 y3, .int .i64 y4, .int .i64 y5] 71)).heap.size := by
        show _ = (wo.heap.push _).size
        simp
      have hb2 := hb.alloc hb.size (.cells #[.int .i64 y0, .int .i64 y1, .int .i64 y2, .int .i64 y3, .int .i64 y4, .int .i64 y5] 71)
      generalize wo.alloc (.cells #[.int .i64 y0, .int .i64 y1, .int .i64 y2, .int .i64 y3, .int .i64 y4, .int .i64 y5] 71) = W2 at hb2 hsz ⊢
      have Z := Box.newAt (w := W2) [.int .i64 y0, .int .i64 y1, .int .i64 y2, .int .i64 y3, .int .i64 y4, .int .i64 y5] 3 hsz
      have hb3 := hb2.alloc hb2.size (.cells #[.int .i64 y0, .int .i64 y1, .int .i64 y2, .int .i64 y3, .int .i64 y4, .int .i64 y5] 3)
      generalize W2.alloc (.cells #[.int .i64 y0, .int .i64 y1, .int .i64 y2, .int .i64 y3, .int .i64 y4, .int .i64 y5] 3) = W3 at hb3 Z ⊢
      clear c0 c1 c2 c3 c4 c5 hb2 hsz
      generalize wo.heap.size + 1 = S at Z ⊢
      obtain ⟨ys, hys⟩ : ∃ ys, [y0, y1, y2, y3, y4, y5] = ys := ⟨_, rfl⟩
      have hyl : ys.length = 6 := by rw [← hys]; rfl
      have hZ : ∀ k (hk : k < ys.length), W3.cell? ⟨S, k, none⟩ = some (.int .i64 ys[k]) := by
        intro k hk
        rw [Z.cell k]
        have e : ([.int .i64 y0, .int .i64 y1, .int .i64 y2, .int .i64 y3, .int .i64 y4, .int .i64 y5] : List Value) = ys.map (fun x => .int .i64 x) := by rw [← hys]; rfl
        rw [e, List.getElem?_map, List.getElem?_eq_getElem hk]
        rfl
      rw [hys] at htk hbad
      have HZ := Lib.hid hZ
      have HYL := Lib.hid hyl
      clear Z hys hZ hyl
      go_loopw [6] (fun i wr => ∃ k : Nat, k ≤ 6 ∧ i = .int .i64 k ∧ wr = W3 ∧ Hid ((ys.take k).all (fun n => inI n (-1048576) 1048576) = true)) (fun i _ => 6 - (intOf i).toNat)
      case atStart => refine ⟨0, by omega, ?_, ?_, ?_⟩ <;> first | rfl | trivial
      case round =>
        obtain ⟨k, hk, rfl, rfl, hall2⟩ := hrel
        by_cases hlt2 : k < 6
        · have hk6 : k < ys.length := by rw [HYL.out]; exact hlt2
          have q0 := HZ.out k hk6
          have ht2 := bTake ys (fun n => inI n (-1048576) 1048576) hk6
          have hb2 := bBad (l := ys) (f := fun n => inI n (-1048576) 1048576) hk6
          obtain ⟨y, hy⟩ : ∃ y, ys[k] = y := ⟨_, rfl⟩
          rw [hy] at q0 ht2 hb2
          rw [hall2.out, Bool.true_and] at ht2
          have ht2 := Lib.hid ht2
          have hb2 := Lib.hid hb2
          clear hy
          have hlk : decide ((k : Int) < 6) = true := decide_eq_true (by omega)
          obtain ⟨u, hu⟩ : ∃ u, inI y (-1048576) 1048576 = u := ⟨_, rfl⟩
          go_wp2_with fail
          refine (rbWithin_at hu _).mono ?_
          rintro e w1 ⟨rfl, rfl⟩
          cases u with
          | true =>
            go_wp2
            refine ⟨⟨k + 1, by omega, by go_num, trivial, ?_⟩, by simp [intOf]; omega⟩
            rw [Hid, ht2.out]
            exact hu
          | false =>
            have hF : t = 330 := by
              rw [hT.out, hbad.out (hb2.out hu)]
              rfl
            go_wp2
            go_ret
            subst hF
            exact ⟨rfl, hb3⟩
        · obtain rfl : k = 6 := by omega
          have ha := hall2.out
          rw [List.take_of_length_le (by rw [HYL.out]; exact Nat.le_refl _)] at ha
          have HA := Lib.hid ha
          clear ha
          go_wp2
          refine ⟨⟨j + 1, by omega, by go_num, hb3, ?_⟩, by simp [intOf]; omega⟩
          rw [Hid, htk.out]
          exact HA.out
    · obtain rfl : j = m := by omega
      have hF : t = 0 := by
        have := hall.out
        rw [← HN.out, List.take_length] at this
        rw [hT.out, this]
        rfl
      go_wp2
      go_ret
      subst hF
      exact ⟨rfl, hb⟩
theorem rbIn_any (b : List Iq) (s : St) (v : Value) (w : World) (t : Bool) (ht : Hid (inB b s = t)) (hQ : BarAt w w.heap.size v b)
    (hok : Hid (∀ x ∈ b, x.okB = true)) (hs : Hid (s.numsB = true)) :
    Calls Try.prog 39 #[v, s.v] w fun e w' => e = .returned (.bool t) ∧ Below w.heap.size w w' := by
  obtain ⟨A, c, rfl, hm⟩ := hQ.form
  unfold maxLen at hm
  obtain ⟨m, hnn⟩ : ∃ m, b.length = m := ⟨_, rfl⟩
  rw [hnn] at hm hQ ⊢
  have HN := Lib.hid hnn
  have HQ := Lib.hid hQ
  clear hnn hQ
  obtain ⟨s0, s1, s2, s3, s4, s5⟩ := s
  go_enter Try.func39, Try.ntmps39
  go_wp2_with fail
  have Y := Box.new w [.int .i64 s0, .int .i64 s1, .int .i64 s2, .int .i64 s3, .int .i64 s4, .int .i64 s5] 30
  have hb0 := (Below.refl w.heap.size w).alloc (Nat.le_refl _) (.cells #[.int .i64 s0, .int .i64 s1, .int .i64 s2, .int .i64 s3, .int .i64 s4, .int .i64 s5] 30)
  generalize w.alloc (.cells #[.int .i64 s0, .int .i64 s1, .int .i64 s2, .int .i64 s3, .int .i64 s4, .int .i64 s5] 30) = W at Y hb0 ⊢
  go_loopw [5] (fun i wr => ∃ j : Nat, j ≤ m ∧ i = .int .i64 j ∧ Below W.heap.size W wr ∧ Hid ((b.take j).all (inP ⟨s0, s1, s2, s3, s4, s5⟩) = true)) (fun i _ => m - (intOf i).toNat)
  case atStart => exact ⟨0, by omega, rfl, Below.refl _ _, rfl⟩
  case round =>
    obtain ⟨j, hj, rfl, hb, hall⟩ := hrel
    have hbw := hb0.trans (hb.mono hb0.size)
    by_cases hlt : j < m
    · have hjl : j < b.length := by rw [HN.out]; exact hlt
      have HQ' := HQ.out
      rw [← HN.out] at HQ'
      obtain ⟨g, off, rfl, hg, c0, c1, c2, c3, c4, c5⟩ := HQ'.ineq hjl
      have c0 := (hbw.cell hg).trans c0
      have c1 := (hbw.cell hg).trans c1
      have c2 := (hbw.cell hg).trans c2
      have c3 := (hbw.cell hg).trans c3
      have c4 := (hbw.cell hg).trans c4
      have c5 := (hbw.cell hg).trans c5
      have htk := bTake b (inP ⟨s0, s1, s2, s3, s4, s5⟩) hjl
      have hbad := bBad (f := inP ⟨s0, s1, s2, s3, s4, s5⟩) hjl
      have hx := hok.out b[j] (List.getElem_mem hjl)
      obtain ⟨y, hy⟩ : ∃ y, b[j] = y := ⟨_, rfl⟩
      rw [hy] at c0 c1 c2 c3 c4 c5 htk hbad hx
      obtain ⟨y0, y1, y2, y3, y4, y5⟩ := y
      dsimp only at c0 c1 c2 c3 c4 c5
      rw [hall.out, Bool.true_and] at htk
      have htk := Lib.hid htk
      have hbad := Lib.hid hbad
      have hb2 := hb.alloc hb.size (.cells #[.int .i64 y0, .int .i64 y1, .int .i64 y2, .int .i64 y3, .int .i64 y4, .int .i64 y5] 71)
      have a0 : (wr.alloc (.cells #[.int .i64 y0, .int .i64 y1, .int .i64 y2, .int .i64 y3, .int .i64 y4, .int .i64 y5] 71)).cell? ⟨w.heap.size, 0, none⟩ = some (.int .i64 s0) := (hb2.cell Y.lt).trans (Y.cell 0)
      have a1 : (wr.alloc (.cells #[.int .i64 y0, .int .i64 y1, .int .i64 y2, .int .i64 y3, .int .i64 y4, .int .i64 y5] 71)).cell? ⟨w.heap.size, 1, none⟩ = some (.int .i64 s1) := (hb2.cell Y.lt).trans (Y.cell 1)
      have a2 : (wr.alloc (.cells #[.int .i64 y0, .int .i64 y1, .int .i64 y2, .int .i64 y3, .int .i64 y4, .int .i64 y5] 71)).cell? ⟨w.heap.size, 2, none⟩ = some (.int .i64 s2) := (hb2.cell Y.lt).trans (Y.cell 2)
      have a3 : (wr.alloc (.cells #[.int .i64 y0, .int .i64 y1, .int .i64 y2, .int .i64 y3, .int .i64 y4, .int .i64 y5] 71)).cell? ⟨w.heap.size, 3, none⟩ = some (.int .i64 s3) := (hb2.cell Y.lt).trans (Y.cell 3)
      have a4 : (wr.alloc (.cells #[.int .i64 y0, .int .i64 y1, .int .i64 y2, .int .i64 y3, .int .i64 y4, .int .i64 y5] 71)).cell? ⟨w.heap.size, 4, none⟩ = some (.int .i64 s4) := (hb2.cell Y.lt).trans (Y.cell 4)
      have a5 : (wr.alloc (.cells #[.int .i64 y0, .int .i64 y1, .int .i64 y2, .int .i64 y3, .int .i64 y4, .int .i64 y5] 71)).cell? ⟨w.heap.size, 5, none⟩ = some (.int .i64 s5) := (hb2.cell Y.lt).trans (Y.cell 5)
      clear hy HQ'
      have hs' := hs.out
      simp only [Iq.okB, St.numsB, inI, Bool.and_eq_true, decide_eq_true_eq] at hx hs'
      have p0 := mul_bd (a := y0) (b := s0) (A := 1048576) (B := 1048576) (by omega) (by omega)
      have p1 := mul_bd (a := y1) (b := s1) (A := 1048576) (B := 1048576) (by omega) (by omega)
      have p2 := mul_bd (a := y2) (b := s2 + s3) (A := 1048576) (B := 2097152) (by omega) (by omega)
      have p3 := mul_bd (a := y3) (b := s4) (A := 1048576) (B := 1048576) (by omega) (by omega)
      have p4 := mul_bd (a := y4) (b := s5) (A := 1048576) (B := 1048576) (by omega) (by omega)
      have hsm : Iq.sum ⟨y0, y1, y2, y3, y4, y5⟩ ⟨s0, s1, s2, s3, s4, s5⟩ = y0 * s0 + y1 * s1 + y2 * (s2 + s3) + y3 * s4 + y4 * s5 := rfl
      have e : wrap64 (s2 + s3) = s2 + s3 := by unfold wrap64; omega
      have e0 : wrap64 (y0 * s0) = y0 * s0 := by unfold wrap64; omega
      have e1 : wrap64 (y1 * s1) = y1 * s1 := by unfold wrap64; omega
      have e2 : wrap64 (y2 * (s2 + s3)) = y2 * (s2 + s3) := by unfold wrap64; omega
      have e3 : wrap64 (y3 * s4) = y3 * s4 := by unfold wrap64; omega
      have e4 : wrap64 (y4 * s5) = y4 * s5 := by unfold wrap64; omega
      generalize hq0 : y0 * s0 = q0 at p0 hsm e0
      generalize hq1 : y1 * s1 = q1 at p1 hsm e1
      generalize hq2 : y2 * (s2 + s3) = q2 at p2 hsm e2
      generalize hq3 : y3 * s4 = q3 at p3 hsm e3
      generalize hq4 : y4 * s5 = q4 at p4 hsm e4
      have f1 : wrap64 (q0 + q1) = q0 + q1 := by unfold wrap64; omega
      have f2 : wrap64 (q0 + q1 + q2) = q0 + q1 + q2 := by unfold wrap64; omega
      have f3 : wrap64 (q0 + q1 + q2 + q3) = q0 + q1 + q2 + q3 := by unfold wrap64; omega
      have f4 : wrap64 (q0 + q1 + q2 + q3 + q4) = q0 + q1 + q2 + q3 + q4 := by unfold wrap64; omega
      have HSM := Lib.hid hsm
      clear hsm hx hs' p0 p1 p2 p3 p4
      have hlm : decide ((j : Int) < (m : Int)) = true := decide_eq_true (by omega)
      rcases hh : inP ⟨s0, s1, s2, s3, s4, s5⟩ ⟨y0, y1, y2, y3, y4, y5⟩ with _ | _
      · have hF : t = false := by
          rw [← ht.out, inB_inP]
          exact hbad.out hh
        have hd := of_decide_eq_false hh
        rw [HSM.out] at hd
        have _hd : decide (y5 < q0 + q1 + q2 + q3 + q4) = true := decide_eq_true (by dsimp only at hd; omega)
        clear hd
        go_wp2
        go_ret
        subst hF
        exact ⟨rfl, hb0.trans (hb2.mono hb0.size)⟩
      · have hd := of_decide_eq_true hh
        rw [HSM.out] at hd
        have _hd : decide (y5 < q0 + q1 + q2 + q3 + q4) = false := decide_eq_false (by dsimp only at hd; omega)
        clear hd
        go_wp2
        refine ⟨⟨j + 1, by omega, by go_num, hb2, ?_⟩, by simp [intOf]; omega⟩
        rw [Hid, htk.out]
        exact hh
    · obtain rfl : j = m := by omega
      have hF : t = true := by
        have := hall.out
        rw [← HN.out, List.take_length] at this
        rw [← ht.out, inB_inP]
        exact this
      go_wp2
      go_ret
      subst hF
      exact ⟨rfl, hbw⟩
theorem nums_in (s : St) : s.numsB = [s.level, s.position, s.p0, s.p1, s.order, s.age].all fun n => inI n 0 1048576 := by
  simp [St.numsB]
theorem rbHolds_bad (b : List Iq) (s : St) (v : Value) (w : World) (t : Int) (ht : Hid (barT b = t)) (h0 : t ≠ 0) (hQ : BarAt w w.heap.size v b) :
    Calls Try.prog 13 #[v, s.v] w fun e w' => e = .returned (.tuple #[.bool false, .int .i64 t]) ∧ Below w.heap.size w w' := by
  obtain ⟨s0, s1, s2, s3, s4, s5⟩ := s
  have hb0 := (Below.refl w.heap.size w).alloc (Nat.le_refl _) (.cells #[.int .i64 s0, .int .i64 s1, .int .i64 s2, .int .i64 s3, .int .i64 s4, .int .i64 s5] 30)
  have HQ := Lib.hid (hQ.later hb0)
  clear hQ
  go_enter Try.func13, Try.ntmps13
  go_wp2_with fail
  generalize w.alloc (.cells #[.int .i64 s0, .int .i64 s1, .int .i64 s2, .int .i64 s3, .int .i64 s4, .int .i64 s5] 30) = W at HQ hb0 ⊢
  refine (rbCheck_any b v W t ht HQ.out).mono ?_
  rintro e w1 ⟨rfl, hb1⟩
  have _hd : (t != 0) = true := by simp [h0]
  go_wp2
  go_ret2
  exact ⟨rfl, hb0.trans (hb1.mono hb0.size)⟩
theorem rbHolds_in (b : List Iq) (s : St) (v : Value) (w : World) (t : Bool) (er : Int) (h0 : Hid (barT b = 0)) (ht : Hid ((if s.numsB = true then (inB b s, 0) else (false, 1)) = (t, er))) (hQ : BarAt w w.heap.size v b) :
    Calls Try.prog 13 #[v, s.v] w fun e w' => e = .returned (.tuple #[.bool t, .int .i64 er]) ∧ Below w.heap.size w w' := by
  obtain ⟨s0, s1, s2, s3, s4, s5⟩ := s
  have hb0 := (Below.refl w.heap.size w).alloc (Nat.le_refl _) (.cells #[.int .i64 s0, .int .i64 s1, .int .i64 s2, .int .i64 s3, .int .i64 s4, .int .i64 s5] 30)
  have Y := Box.new w [.int .i64 s0, .int .i64 s1, .int .i64 s2, .int .i64 s3, .int .i64 s4, .int .i64 s5] 30
  have HQ := Lib.hid (hQ.later hb0)
  clear hQ
  go_enter Try.func13, Try.ntmps13
  go_wp2_with fail
  generalize w.alloc (.cells #[.int .i64 s0, .int .i64 s1, .int .i64 s2, .int .i64 s3, .int .i64 s4, .int .i64 s5] 30) = W at HQ hb0 Y ⊢
  refine (rbCheck_any b v W 0 h0 HQ.out).mono ?_
  rintro e w1 ⟨rfl, hb1⟩
  have Y1 := Y.later hb1
  have HQ1 := Lib.hid ((HQ.out.below hb1).more hb1.size)
  have hyz := Y1.lt
  obtain ⟨Y1c0, Y1c1, Y1c2, Y1c3, Y1c4, Y1c5⟩ := Y1.c6
  go_upto_region 6 with fail
  have hb1 := hb0.trans (hb1.mono hb0.size)
  have Z := Box.new w1 [.int .i64 s0, .int .i64 s1, .int .i64 s2, .int .i64 s3, .int .i64 s4, .int .i64 s5] 3
  have Y1 := Y1.alloc (.cells #[.int .i64 s0, .int .i64 s1, .int .i64 s2, .int .i64 s3, .int .i64 s4, .int .i64 s5] 3)
  have hb2 := (Below.refl w1.heap.size w1).alloc (Nat.le_refl _) (.cells #[.int .i64 s0, .int .i64 s1, .int .i64 s2, .int .i64 s3, .int .i64 s4, .int .i64 s5] 3)
  have HQ2 := Lib.hid ((HQ1.out.below hb2).more hb2.size)
  have hb3 := hb1.trans (hb2.mono hb1.size)
  clear Y1c0 Y1c1 Y1c2 Y1c3 Y1c4 Y1c5 hb2 hb1 HQ HQ1 Y hb0 hyz
  generalize w1.alloc (.cells #[.int .i64 s0, .int .i64 s1, .int .i64 s2, .int .i64 s3, .int .i64 s4, .int .i64 s5] 3) = W3 at hb3 Z Y1 HQ2 ⊢
  generalize w1.heap.size = S at Z ⊢
  have hyz := Y1.lt
  obtain ⟨ys, hys⟩ : ∃ ys, [s0, s1, s2, s3, s4, s5] = ys := ⟨_, rfl⟩
  have hyl : ys.length = 6 := by rw [← hys]; rfl
  have hZ : ∀ k (hk : k < ys.length), W3.cell? ⟨S, k, none⟩ = some (.int .i64 ys[k]) := by
    intro k hk
    rw [Z.cell k]
    have e : ([.int .i64 s0, .int .i64 s1, .int .i64 s2, .int .i64 s3, .int .i64 s4, .int .i64 s5] : List Value) = ys.map (fun x => .int .i64 x) := by rw [← hys]; rfl
    rw [e, List.getElem?_map, List.getElem?_eq_getElem hk]
    rfl
  have hni := nums_in ⟨s0, s1, s2, s3, s4, s5⟩
  dsimp only at hni
  rw [hys] at hni
  have HNI := Lib.hid hni
  have HZ := Lib.hid hZ
  have HYL := Lib.hid hyl
  clear Z hys hZ hyl hni
  obtain ⟨Y1c0, Y1c1, Y1c2, Y1c3, Y1c4, Y1c5⟩ := Y1.c6
  go_loopw [8] (fun i wr => ∃ k : Nat, k ≤ 6 ∧ i = .int .i64 k ∧ wr = W3 ∧ Hid ((ys.take k).all (fun n => inI n 0 1048576) = true)) (fun i _ => 6 - (intOf i).toNat)
  case atStart => exact ⟨0, by omega, rfl, rfl, rfl⟩
  case round =>
    obtain ⟨k, hk, rfl, rfl, hall2⟩ := hrel
    by_cases hlt2 : k < 6
    · have hk6 : k < ys.length := by rw [HYL.out]; exact hlt2
      have q0 := HZ.out k hk6
      have ht2 := bTake ys (fun n => inI n 0 1048576) hk6
      have hb2 := bBad (l := ys) (f := fun n => inI n 0 1048576) hk6
      obtain ⟨y, hy⟩ : ∃ y, ys[k] = y := ⟨_, rfl⟩
      rw [hy] at q0 ht2 hb2
      rw [hall2.out, Bool.true_and] at ht2
      have ht2 := Lib.hid ht2
      have hb2 := Lib.hid hb2
      clear hy
      have hlk : decide ((k : Int) < 6) = true := decide_eq_true (by omega)
      obtain ⟨u, hu⟩ : ∃ u, inI y 0 1048576 = u := ⟨_, rfl⟩
      go_wp2_with fail
      refine (rbWithin_at hu _).mono ?_
      rintro e w1 ⟨rfl, rfl⟩
      cases u with
      | true =>
        go_wp2
        refine ⟨⟨k + 1, by omega, by go_num, trivial, ?_⟩, by simp [intOf]; omega⟩
        rw [Hid, ht2.out]
        exact hu
      | false =>
        have hF : Hid (false = t ∧ 1 = er) := by
          have := ht.out
          rw [if_neg (by rw [HNI.out, hb2.out hu]; decide)] at this
          exact Lib.hid (by simpa using this)
        go_wp2
        go_ret2
        obtain ⟨rfl, rfl⟩ := hF.out
        exact ⟨rfl, hb3⟩
    · obtain rfl : k = 6 := by omega
      have ha := hall2.out
      rw [List.take_of_length_le (by rw [HYL.out]; exact Nat.le_refl _)] at ha
      rw [← HNI.out] at ha
      have hF : Hid (inB b ⟨s0, s1, s2, s3, s4, s5⟩ = t ∧ 0 = er) := by
        have := ht.out
        rw [if_pos ha] at this
        exact Lib.hid (by simpa using this)
      have HA := Lib.hid ha
      clear ha
      go_wp2_with fail
      refine (rbIn_any b ⟨s0, s1, s2, s3, s4, s5⟩ v _ t (Lib.hid hF.out.1) HQ2.out (barT_ok h0.out) HA).mono ?_
      rintro e w4 ⟨rfl, hb4⟩
      go_wp2
      go_ret2
      obtain ⟨_, rfl⟩ := hF.out
      exact ⟨rfl, hb3.trans (hb4.mono hb3.size)⟩
theorem rbHolds_is {b : List Iq} {s : St} {v : Value} {w : World} {t : Bool} {er : Int} (h : Hid (holdsT b s = (t, er))) (hQ : BarAt w w.heap.size v b) :
    Calls Try.prog 13 #[v, s.v] w fun e w' => e = .returned (.tuple #[.bool t, .int .i64 er]) ∧ Below w.heap.size w w' := by
  have h := h.out
  unfold holdsT at h
  by_cases h0 : barT b = 0
  · rw [if_pos h0] at h
    exact rbHolds_in b s v w t er h0 h hQ
  · rw [if_neg h0] at h
    simp only [Prod.mk.injEq] at h
    obtain ⟨rfl, h2⟩ := h
    exact rbHolds_bad b s v w er h2 (by omega) hQ
end Go.Proofs.Ytancngachnpefaa
namespace Go.Proofs.Ytancngachnpefaa
open Go.RowKit
attribute [local go_sem ↓ high] app_named
theorem rbAsk_is {p : Pl} {c : List Ln} {V : Value} {w : World} {er : Int} (h : Hid (askT p c = er)) (hC : CodeAt w w.heap.size V c) :
    Calls Try.prog 44 #[p.v, .agg #[V]] w fun e w' => e = .returned (.int .i64 er) ∧ Below w.heap.size w w' := by
  have hB := ((Below.refl w.heap.size w).alloc (by simp <;> omega) (.cells #[.int .i64 p.top, .int .i64 p.bank, .int .i64 p.siphon, .int .i64 p.start, .int .i64 p.positions, .int .i64 p.rate, .int .i64 p.step, .int .i64 p.pass, .int .i64 p.feed, .int .i64 p.pipe, .int .i64 p.orders, .int .i64 p.age] 23)).alloc (by simp <;> omega) (.cells #[V] 26)
  have X3 := Box.newAt (w := w.alloc (.cells #[.int .i64 p.top, .int .i64 p.bank, .int .i64 p.siphon, .int .i64 p.start, .int .i64 p.positions, .int .i64 p.rate, .int .i64 p.step, .int .i64 p.pass, .int .i64 p.feed, .int .i64 p.pipe, .int .i64 p.orders, .int .i64 p.age] 23)) (n := w.heap.size + 1) [V] 26 (by simp)
  have HC := Lib.hid (hC.later hB)
  by_cases h0 : p.checkT = 0
  · have h1 := h.out
    unfold askT at h1
    rw [if_pos h0] at h1
    have H1 := Lib.hid h1
    have H0 := Lib.hid h0
    clear h1 h0
    go_enter Try.func44, Try.ntmps44
    go_wp2_with fail
    refine (rcheck_at H0 _).mono ?_
    rintro e w1 ⟨rfl, hb⟩
    have HC1 := Lib.hid ((HC.out.below hb).more hb.size)
    have X3 := X3.later hb
    have hB := hB.trans (hb.mono hB.size)
    clear hb HC
    have X3c0 : w1.cell? ⟨w.heap.size + 1, 0, none⟩ = some (V) := X3.cell 0
    have X3f0 : w1.frozen? ⟨w.heap.size + 1, 0, none⟩ = false := X3.free 0
    have X3z : w.heap.size + 1 < w1.heap.size := X3.lt
    go_wp2_with fail
    refine (rgcheck_at H1 HC1.out).mono ?_
    rintro e w2 ⟨rfl, hb⟩
    go_wp2
    go_ret
    exact ⟨rfl, hB.trans (hb.mono hB.size)⟩
  · have h1 := h.out
    unfold askT at h1
    rw [if_neg h0] at h1
    have hd : (er != 0) = true := by simp [← h1, h0]
    have H1 := Lib.hid h1
    clear h1 h0
    go_enter Try.func44, Try.ntmps44
    go_wp2_with fail
    refine (rcheck_at H1 _).mono ?_
    rintro e w1 ⟨rfl, hb⟩
    go_wp2
    go_ret
    exact ⟨rfl, hB.trans (hb.mono hB.size)⟩
theorem rbSafe_is {p : Pl} {s : St} {w : World} {q : Bool} (h : Hid (p.safeB s = q)) : Calls Try.prog 47 #[p.v, s.v] w fun e w' => e = .returned (.bool q) ∧ Below w.heap.size w w' := by
  obtain ⟨q', er, hs⟩ : ∃ q er, Hid (p.safeT s = (q, er)) := ⟨_, _, rfl⟩
  obtain rfl : q' = q := by
    have h1 := h.out
    unfold Pl.safeB at h1
    rw [hs.out] at h1
    exact h1
  have her : q' = true → er = 0 := by
    intro hq
    have h1 := hs.out
    unfold Pl.safeT at h1
    split at h1
    · split at h1
      · simp only [Prod.mk.injEq] at h1
        exact h1.2.symm
      · simp only [Prod.mk.injEq] at h1
        rw [hq] at h1
        cases h1.1
    · simp only [Prod.mk.injEq] at h1
      rw [hq] at h1
      cases h1.1
  have hB := ((Below.refl w.heap.size w).alloc (by simp <;> omega) (.cells #[.int .i64 p.top, .int .i64 p.bank, .int .i64 p.siphon, .int .i64 p.start, .int .i64 p.positions, .int .i64 p.rate, .int .i64 p.step, .int .i64 p.pass, .int .i64 p.feed, .int .i64 p.pipe, .int .i64 p.orders, .int .i64 p.age] 23)).alloc (by simp <;> omega) (.cells #[.int .i64 s.level, .int .i64 s.position, .int .i64 s.p0, .int .i64 s.p1, .int .i64 s.order, .int .i64 s.age] 30)
  cases q' with
  | true =>
    obtain rfl := her rfl
    clear her
    go_enter Try.func47, Try.ntmps47
    go_wp2_with fail
    refine (rsafe_is hs).mono ?_
    rintro e w1 ⟨rfl, hb⟩
    go_wp2
    go_ret
    exact ⟨rfl, hB.trans (hb.mono hB.size)⟩
  | false =>
    clear her
    go_enter Try.func47, Try.ntmps47
    go_wp2_with fail
    refine (rsafe_is hs).mono ?_
    rintro e w1 ⟨rfl, hb⟩
    go_wp2
    go_ret
    exact ⟨rfl, hB.trans (hb.mono hB.size)⟩
theorem rbNext_is {p : Pl} {c : List Ln} {V : Value} {s : St} {x : Sh} {w : World} {t : St} {ou er : Int} (h : Hid (nextT p c s x = (t, ou, er))) (hC : CodeAt w w.heap.size V c) :
    Calls Try.prog 48 #[p.v, .agg #[V], s.v, x.v] w fun e w' => e = .returned t.v ∧ Below w.heap.size w w' := by
  obtain ⟨A, m, k, rfl⟩ : ∃ A m k, V = .slice A m k := by
    obtain ⟨A, k, rfl, _⟩ := hC.form
    exact ⟨A, _, k, rfl⟩
  have hB := (((((Below.refl w.heap.size w).alloc (by simp <;> omega) (.cells #[.int .i64 p.top, .int .i64 p.bank, .int .i64 p.siphon, .int .i64 p.start, .int .i64 p.positions, .int .i64 p.rate, .int .i64 p.step, .int .i64 p.pass, .int .i64 p.feed, .int .i64 p.pipe, .int .i64 p.orders, .int .i64 p.age] 23)).alloc (by simp <;> omega) (.cells #[.slice A m k] 26)).alloc (by simp <;> omega) (.cells #[.int .i64 s.level, .int .i64 s.position, .int .i64 s.p0, .int .i64 s.p1, .int .i64 s.order, .int .i64 s.age] 30)).alloc (by simp <;> omega) (.cells #[.int .i64 x.feed, .int .i64 x.msg] 37)).alloc (by simp <;> omega) (.cells #[.int .i64 0, .int .i64 0, .int .i64 0, .int .i64 0, .int .i64 0, .int .i64 0] 30)
  have X3 := ((((Box.new w [.int .i64 p.top, .int .i64 p.bank, .int .i64 p.siphon, .int .i64 p.start, .int .i64 p.positions, .int .i64 p.rate, .int .i64 p.step, .int .i64 p.pass, .int .i64 p.feed, .int .i64 p.pipe, .int .i64 p.orders, .int .i64 p.age] 23).alloc (.cells #[.slice A m k] 26)).alloc (.cells #[.int .i64 s.level, .int .i64 s.position, .int .i64 s.p0, .int .i64 s.p1, .int .i64 s.order, .int .i64 s.age] 30)).alloc (.cells #[.int .i64 x.feed, .int .i64 x.msg] 37)).alloc (.cells #[.int .i64 0, .int .i64 0, .int .i64 0, .int .i64 0, .int .i64 0, .int .i64 0] 30)
  have X4 := (((Box.newAt (w := w.alloc (.cells #[.int .i64 p.top, .int .i64 p.bank, .int .i64 p.siphon, .int .i64 p.start, .int .i64 p.positions, .int .i64 p.rate, .int .i64 p.step, .int .i64 p.pass, .int .i64 p.feed, .int .i64 p.pipe, .int .i64 p.orders, .int .i64 p.age] 23)) (n := w.heap.size + 1) [.slice A m k] 26 (by simp)).alloc (.cells #[.int .i64 s.level, .int .i64 s.position, .int .i64 s.p0, .int .i64 s.p1, .int .i64 s.order, .int .i64 s.age] 30)).alloc (.cells #[.int .i64 x.feed, .int .i64 x.msg] 37)).alloc (.cells #[.int .i64 0, .int .i64 0, .int .i64 0, .int .i64 0, .int .i64 0, .int .i64 0] 30)
  have X5 := ((Box.newAt (w := (w.alloc (.cells #[.int .i64 p.top, .int .i64 p.bank, .int .i64 p.siphon, .int .i64 p.start, .int .i64 p.positions, .int .i64 p.rate, .int .i64 p.step, .int .i64 p.pass, .int .i64 p.feed, .int .i64 p.pipe, .int .i64 p.orders, .int .i64 p.age] 23)).alloc (.cells #[.slice A m k] 26)) (n := w.heap.size + 1 + 1) [.int .i64 s.level, .int .i64 s.position, .int .i64 s.p0, .int .i64 s.p1, .int .i64 s.order, .int .i64 s.age] 30 (by simp)).alloc (.cells #[.int .i64 x.feed, .int .i64 x.msg] 37)).alloc (.cells #[.int .i64 0, .int .i64 0, .int .i64 0, .int .i64 0, .int .i64 0, .int .i64 0] 30)
  have X6 := (Box.newAt (w := ((w.alloc (.cells #[.int .i64 p.top, .int .i64 p.bank, .int .i64 p.siphon, .int .i64 p.start, .int .i64 p.positions, .int .i64 p.rate, .int .i64 p.step, .int .i64 p.pass, .int .i64 p.feed, .int .i64 p.pipe, .int .i64 p.orders, .int .i64 p.age] 23)).alloc (.cells #[.slice A m k] 26)).alloc (.cells #[.int .i64 s.level, .int .i64 s.position, .int .i64 s.p0, .int .i64 s.p1, .int .i64 s.order, .int .i64 s.age] 30)) (n := w.heap.size + 1 + 1 + 1) [.int .i64 x.feed, .int .i64 x.msg] 37 (by simp)).alloc (.cells #[.int .i64 0, .int .i64 0, .int .i64 0, .int .i64 0, .int .i64 0, .int .i64 0] 30)
  have X7 := Box.newAt (w := (((w.alloc (.cells #[.int .i64 p.top, .int .i64 p.bank, .int .i64 p.siphon, .int .i64 p.start, .int .i64 p.positions, .int .i64 p.rate, .int .i64 p.step, .int .i64 p.pass, .int .i64 p.feed, .int .i64 p.pipe, .int .i64 p.orders, .int .i64 p.age] 23)).alloc (.cells #[.slice A m k] 26)).alloc (.cells #[.int .i64 s.level, .int .i64 s.position, .int .i64 s.p0, .int .i64 s.p1, .int .i64 s.order, .int .i64 s.age] 30)).alloc (.cells #[.int .i64 x.feed, .int .i64 x.msg] 37)) (n := w.heap.size + 1 + 1 + 1 + 1) [.int .i64 0, .int .i64 0, .int .i64 0, .int .i64 0, .int .i64 0, .int .i64 0] 30 (by simp)
  have HC := Lib.hid (hC.later hB)
  clear hC
  go_enter Try.func48, Try.ntmps48
  go_upto_region 1 with fail
  generalize ((((w.alloc (.cells #[.int .i64 p.top, .int .i64 p.bank, .int .i64 p.siphon, .int .i64 p.start, .int .i64 p.positions, .int .i64 p.rate, .int .i64 p.step, .int .i64 p.pass, .int .i64 p.feed, .int .i64 p.pipe, .int .i64 p.orders, .int .i64 p.age] 23)).alloc (.cells #[.slice A m k] 26)).alloc (.cells #[.int .i64 s.level, .int .i64 s.position, .int .i64 s.p0, .int .i64 s.p1, .int .i64 s.order, .int .i64 s.age] 30)).alloc (.cells #[.int .i64 x.feed, .int .i64 x.msg] 37)).alloc (.cells #[.int .i64 0, .int .i64 0, .int .i64 0, .int .i64 0, .int .i64 0, .int .i64 0] 30) = w0 at X3 X4 X5 X6 X7 hB HC ⊢
  obtain ⟨X3c0, X3c1, X3c2, X3c3, X3c4, X3c5, X3c6, X3c7, X3c8, X3c9, X3c10, X3c11⟩ := X3.c12
  have X4c0 : w0.cell? ⟨w.heap.size + 1, 0, none⟩ = some (.slice A m k) := X4.cell 0
  obtain ⟨X5c0, X5c1, X5c2, X5c3, X5c4, X5c5⟩ := X5.c6
  obtain ⟨X6c0, X6c1⟩ := X6.c2
  have X7z := X7.lt
  go_wp2_with fail
  refine (rnext_is h HC.out).mono ?_
  rintro e w1 ⟨rfl, hb⟩
  have X7 := X7.later hb
  have hB := hB.trans (hb.mono hB.size)
  clear hb HC X3 X4 X5 X6 X3c0 X3c1 X3c2 X3c3 X3c4 X3c5 X3c6 X3c7 X3c8 X3c9 X3c10 X3c11 X4c0 X5c0 X5c1 X5c2 X5c3 X5c4 X5c5 X6c0 X6c1 X7z
  obtain ⟨t0, t1, t2, t3, t4, t5⟩ := t
  go_upto_region 2 with fail
  have X9 := Box.new w1 [.int .i64 t0, .int .i64 t1, .int .i64 t2, .int .i64 t3, .int .i64 t4, .int .i64 t5] 30
  have X7 := X7.alloc (.cells #[.int .i64 t0, .int .i64 t1, .int .i64 t2, .int .i64 t3, .int .i64 t4, .int .i64 t5] 30)
  have hB := hB.alloc hB.size (.cells #[.int .i64 t0, .int .i64 t1, .int .i64 t2, .int .i64 t3, .int .i64 t4, .int .i64 t5] 30)
  generalize w1.alloc (.cells #[.int .i64 t0, .int .i64 t1, .int .i64 t2, .int .i64 t3, .int .i64 t4, .int .i64 t5] 30) = w2 at X7 X9 hB ⊢
  generalize w1.heap.size = D at X9 ⊢
  have X9z := X9.lt
  obtain ⟨X9c0, X9c1, X9c2, X9c3, X9c4, X9c5⟩ := X9.c6
  obtain ⟨X7c0, X7f0, X7c1, X7f1, X7c2, X7f2, X7c3, X7f3, X7c4, X7f4, X7c5, X7f5⟩ := X7.f6
  have X7z : w.heap.size + 1 + 1 + 1 + 1 < w2.heap.size := X7.lt
  go_wp2
  have hY := ((((((X7.set 0 (.int .i64 t0)).set 1 (.int .i64 t1)).set 2 (.int .i64 t2)).set 3 (.int .i64 t3)).set 4 (.int .i64 t4)).set 5 (.int .i64 t5))
  have hB := ((((((hB.setCell (p := ⟨w.heap.size + 1 + 1 + 1 + 1, 0, none⟩) (by simp <;> omega) (.int .i64 t0)).setCell (p := ⟨w.heap.size + 1 + 1 + 1 + 1, 1, none⟩) (by simp <;> omega) (.int .i64 t1)).setCell (p := ⟨w.heap.size + 1 + 1 + 1 + 1, 2, none⟩) (by simp <;> omega) (.int .i64 t2)).setCell (p := ⟨w.heap.size + 1 + 1 + 1 + 1, 3, none⟩) (by simp <;> omega) (.int .i64 t3)).setCell (p := ⟨w.heap.size + 1 + 1 + 1 + 1, 4, none⟩) (by simp <;> omega) (.int .i64 t4)).setCell (p := ⟨w.heap.size + 1 + 1 + 1 + 1, 5, none⟩) (by simp <;> omega) (.int .i64 t5))
  generalize ((((((w2.setCell ⟨w.heap.size + 1 + 1 + 1 + 1, 0, none⟩ (.int .i64 t0)).setCell ⟨w.heap.size + 1 + 1 + 1 + 1, 1, none⟩ (.int .i64 t1)).setCell ⟨w.heap.size + 1 + 1 + 1 + 1, 2, none⟩ (.int .i64 t2)).setCell ⟨w.heap.size + 1 + 1 + 1 + 1, 3, none⟩ (.int .i64 t3)).setCell ⟨w.heap.size + 1 + 1 + 1 + 1, 4, none⟩ (.int .i64 t4)).setCell ⟨w.heap.size + 1 + 1 + 1 + 1, 5, none⟩ (.int .i64 t5)) = W at hY hB ⊢
  obtain ⟨hYc0, hYc1, hYc2, hYc3, hYc4, hYc5⟩ := hY.c6
  refine bodyPost_ret (v := .agg #[.int .i64 t0, .int .i64 t1, .int .i64 t2, .int .i64 t3, .int .i64 t4, .int .i64 t5]) (by simp [results, Try.results48, go_sem, hYc0, hYc1, hYc2, hYc3, hYc4, hYc5]) rfl ?_
  exact ⟨rfl, hB⟩
theorem rbPipes_is {p : Pl} {w : World} (hp : 0 ≤ p.pipe ∧ p.pipe ≤ 2) : Calls Try.prog 55 #[p.v] w fun e w' => e = .returned (.tuple #[.int .i64 p.m0, .int .i64 p.m1]) ∧ Below w.heap.size w w' := by
  obtain ⟨a0, a1, a2, a3, a4, a5, a6, a7, a8, a9, a10, a11⟩ := p
  dsimp only at hp
  rcases (show a9 = 0 ∨ a9 = 1 ∨ a9 = 2 by omega) with rfl | rfl | rfl
  · go_enter Try.func55, Try.ntmps55
    go_wp2
    go_ret2
    exact ⟨by simp [Pl.m0, Pl.m1], (Below.refl _ _).alloc (Nat.le_refl _) _⟩
  · go_enter Try.func55, Try.ntmps55
    go_wp2
    go_ret2
    exact ⟨by simp [Pl.m0, Pl.m1], (Below.refl _ _).alloc (Nat.le_refl _) _⟩
  · go_enter Try.func55, Try.ntmps55
    go_wp2_with fail
    go_quiet (fail)
    go_wp2
    go_ret2
    exact ⟨by simp [Pl.m0, Pl.m1], bel_drewN ((Below.refl _ _).alloc (Nat.le_refl _) _) nq⟩
theorem elem_state : ∃ i, Elem 43 30 i (.agg #[.int .i64 0, .int .i64 0, .int .i64 0, .int .i64 0, .int .i64 0, .int .i64 0]) 6 48 := by
  obtain ⟨i, h1, h2, h3, h4⟩ := info_parts (show (Try.prog.info? 30).map (fun i => (i.zero, i.size, i.bytes)) = some (some (.agg #[.int .i64 0, .int .i64 0, .int .i64 0, .int .i64 0, .int .i64 0, .int .i64 0]), 6, 48) by kernel_rfl)
  exact ⟨i, Try.underlying43, h1, h2, h3, h4, by decide, by decide⟩
theorem elem_shock : ∃ i, Elem 47 37 i (.agg #[.int .i64 0, .int .i64 0]) 2 16 := by
  obtain ⟨i, h1, h2, h3, h4⟩ := info_parts (show (Try.prog.info? 37).map (fun i => (i.zero, i.size, i.bytes)) = some (some (.agg #[.int .i64 0, .int .i64 0]), 2, 16) by kernel_rfl)
  exact ⟨i, Try.underlying47, h1, h2, h3, h4, by decide, by decide⟩
abbrev Sh.cells (x : Sh) : List Value := [.int .i64 x.feed, .int .i64 x.msg]
abbrev OwnSt (w : World) (base : Nat) (V : Value) (l : List St) : Prop := OwnE St.cells 6 w base 30 V l
abbrev OwnSh (w : World) (base : Nat) (V : Value) (l : List Sh) : Prop := OwnE Sh.cells 2 w base 37 V l
theorem st_one (x : St) : ∀ u ∈ x.cells, u.oneCell' = true := by
  intro u hu
  simp only [List.mem_cons, List.not_mem_nil, or_false] at hu
  rcases hu with rfl | rfl | rfl | rfl | rfl | rfl <;> rfl
theorem sh_one (x : Sh) : ∀ u ∈ x.cells, u.oneCell' = true := by
  intro u hu
  simp only [List.mem_cons, List.not_mem_nil, or_false] at hu
  rcases hu with rfl | rfl <;> rfl
def Pl.preSh (p : Pl) (k : Nat) : List Sh := (List.range k).map p.shAt
def Pl.preSt (p : Pl) (k : Nat) : List St := (List.range k).map p.stAt
theorem preSh_succ (p : Pl) (k : Nat) : p.preSh (k + 1) = p.preSh k ++ [p.shAt k] := by rw [Pl.preSh, List.range_succ, List.map_append]; rfl
theorem preSt_succ (p : Pl) (k : Nat) : p.preSt (k + 1) = p.preSt k ++ [p.stAt k] := by rw [Pl.preSt, List.range_succ, List.map_append]; rfl
theorem preSh_len (p : Pl) (k : Nat) : (p.preSh k).length = k := by simp [Pl.preSh]
theorem preSt_len (p : Pl) (k : Nat) : (p.preSt k).length = k := by simp [Pl.preSt]
theorem rbShocks_any (p : Pl) (hv : Hid p.Valid) (w : World) : Calls Try.prog 46 #[p.v] w fun e w' => ∃ V, e = .returned V ∧ OwnSh w' (w.heap.size + 1) V p.shocks ∧ Below w.heap.size w w' := by
  obtain ⟨i0, E⟩ := elem_shock
  have hf := hv.out.feed
  have ho := hv.out.orders
  obtain ⟨nf, hnf⟩ : ∃ nf, p.nf = nf := ⟨_, rfl⟩
  obtain ⟨nm, hnm⟩ : ∃ nm, p.nm = nm := ⟨_, rfl⟩
  have ef : p.feed = (nf : Int) - 1 := by rw [← hnf, Pl.nf]; omega
  have eo : p.orders = (nm : Int) - 2 := by rw [← hnm, Pl.nm]; omega
  have hnf16 : nf ≤ 16 := by omega
  have hnm9 : nm ≤ 9 := by omega
  have HNF := Lib.hid hnf
  have HNM := Lib.hid hnm
  have EF := Lib.hid ef
  have EO := Lib.hid eo
  clear hnf hnm ef eo hf ho
  go_enter Try.func46, Try.ntmps46
  go_upto_region 3 with fail
  have X1 := Box.new w [.int .i64 p.top, .int .i64 p.bank, .int .i64 p.siphon, .int .i64 p.start, .int .i64 p.positions, .int .i64 p.rate, .int .i64 p.step, .int .i64 p.pass, .int .i64 p.feed, .int .i64 p.pipe, .int .i64 p.orders, .int .i64 p.age] 23
  have hB := (Below.refl w.heap.size w).alloc (Nat.le_refl _) (.cells #[.int .i64 p.top, .int .i64 p.bank, .int .i64 p.siphon, .int .i64 p.start, .int .i64 p.positions, .int .i64 p.rate, .int .i64 p.step, .int .i64 p.pass, .int .i64 p.feed, .int .i64 p.pipe, .int .i64 p.orders, .int .i64 p.age] 23)
  have hsz : w.heap.size + 1 ≤ (w.alloc (.cells #[.int .i64 p.top, .int .i64 p.bank, .int .i64 p.siphon, .int .i64 p.start, .int .i64 p.positions, .int .i64 p.rate, .int .i64 p.step, .int .i64 p.pass, .int .i64 p.feed, .int .i64 p.pipe, .int .i64 p.orders, .int .i64 p.age] 23)).heap.size := by simp
  generalize w.alloc (.cells #[.int .i64 p.top, .int .i64 p.bank, .int .i64 p.siphon, .int .i64 p.start, .int .i64 p.positions, .int .i64 p.rate, .int .i64 p.step, .int .i64 p.pass, .int .i64 p.feed, .int .i64 p.pipe, .int .i64 p.orders, .int .i64 p.age] 23) = w0 at X1 hB hsz ⊢
  go_loopw [4, 3] (fun i v wr => ∃ f : Nat, f ≤ nf ∧ i = .int .i64 f ∧ Hid (OwnSh wr (w.heap.size + 1) v (p.preSh (f * nm))) ∧ Box wr w.heap.size [.int .i64 p.top, .int .i64 p.bank, .int .i64 p.siphon, .int .i64 p.start, .int .i64 p.positions, .int .i64 p.rate, .int .i64 p.step, .int .i64 p.pass, .int .i64 p.feed, .int .i64 p.pipe, .int .i64 p.orders, .int .i64 p.age] ∧ Below w.heap.size w wr ∧ w.heap.size + 1 ≤ wr.heap.size) (fun i _ _ => nf - (intOf i).toNat)
  case atStart =>
    refine ⟨0, by omega, rfl, ?_, X1, hB, hsz⟩
    rw [Nat.zero_mul]
    exact Lib.hid (ownE_nil _ _ _ _ _)
  case round =>
    clear X1 hB hsz
    obtain ⟨f, hf, rfl, hO, X1, hB, hsz⟩ := hrel
    obtain ⟨wo, rfl⟩ : ∃ wo : World, wo = wr := ⟨_, rfl⟩
    have hz := X1.lt
    have x8 : wo.cell? ⟨w.heap.size, 8, none⟩ = some (.int .i64 p.feed) := X1.cell 8
    rcases Nat.lt_or_ge f nf with hlt | hge
    rotate_left
    · obtain rfl : f = nf := by omega
      have hd : decide ((f : Int) ≤ p.feed) = false := decide_eq_false (by have := EF.out; omega)
      have hd2 : ¬ ((f : Int) ≤ p.feed) := by have := EF.out; omega
      go_wp2
      go_ret
      refine ⟨_, rfl, ?_, hB⟩
      have := hO.out
      rw [← HNF.out, ← HNM.out] at this
      exact this
    have hd : decide ((f : Int) ≤ p.feed) = true := decide_eq_true (by have := EF.out; omega)
    have hd2 : (f : Int) ≤ p.feed := by have := EF.out; omega
    go_wp2_with fail
    clear x8 hd hd2 hz
    go_loopw [5, 3] (fun i v wr => ∃ m : Nat, m ≤ nm ∧ i = .int .i64 ((m : Int) - 1) ∧ Hid (OwnSh wr (w.heap.size + 1) v (p.preSh (f * nm + m))) ∧ Box wr w.heap.size [.int .i64 p.top, .int .i64 p.bank, .int .i64 p.siphon, .int .i64 p.start, .int .i64 p.positions, .int .i64 p.rate, .int .i64 p.step, .int .i64 p.pass, .int .i64 p.feed, .int .i64 p.pipe, .int .i64 p.orders, .int .i64 p.age] ∧ Below w.heap.size w wr ∧ w.heap.size + 1 ≤ wr.heap.size) (fun i _ _ => nm - (intOf i + 1).toNat)
    case atStart => exact ⟨0, by omega, by go_num, hO, X1, hB, hsz⟩
    case round =>
      clear X1 hB hsz hO
      obtain ⟨m, hm, rfl, hO, X1, hB, hsz⟩ := hrel
      obtain ⟨wi, rfl⟩ : ∃ wi : World, wi = wr := ⟨_, rfl⟩
      have hz := X1.lt
      have x10 : wi.cell? ⟨w.heap.size, 10, none⟩ = some (.int .i64 p.orders) := X1.cell 10
      rcases Nat.lt_or_ge m nm with hlm | hgm
      rotate_left
      · obtain rfl : m = nm := by omega
        have hd : decide ((m : Int) - 1 ≤ p.orders) = false := decide_eq_false (by have := EO.out; omega)
        have hd2 : ¬ ((m : Int) - 1 ≤ p.orders) := by have := EO.out; omega
        go_wp2
        refine ⟨⟨f + 1, by omega, by go_num, ?_, X1, hB, hsz⟩, by simp [intOf]; omega⟩
        rw [Nat.add_mul, Nat.one_mul]
        exact hO
      have hd : decide ((m : Int) - 1 ≤ p.orders) = true := decide_eq_true (by have := EO.out; omega)
      have hd2 : (m : Int) - 1 ≤ p.orders := by have := EO.out; omega
      have hsh : p.shAt (f * nm + m) = ⟨(f : Int), (m : Int) - 1⟩ := by
        have := shAt_at p (f := f) (m := m) (by rw [HNM.out]; exact hlm)
        rw [HNM.out] at this
        exact this
      have hnx := preSh_succ p (f * nm + m)
      rw [hsh] at hnx
      have HNX := Lib.hid hnx
      clear hnx hsh
      have hlen : (p.preSh (f * nm + m)).length = f * nm + m := preSh_len _ _
      have hle : f * nm ≤ 16 * 9 := Nat.mul_le_mul (by omega) hnm9
      have hbS := (Below.refl wi.heap.size wi).alloc (Nat.le_refl _) (.cells #[.int .i64 (f : Int), .int .i64 ((m : Int) - 1)] 37)
      have hO1 := hO.out.later hbS
      have XN := Box.new wi [.int .i64 (f : Int), .int .i64 ((m : Int) - 1)] 37
      obtain ⟨g', c', w', hr, hO2, hg⟩ := run_appE E (fun _ => rfl) sh_one (by omega) (⟨(f : Int), (m : Int) - 1⟩ : Sh) 47 hO1 XN (Nat.le_trans hsz hbS.size) (by omega)
      rw [← HNX.out] at hO2
      rw [hlen] at hO2 hr
      have hB1 := hB.trans (hbS.mono hB.size)
      have hB2 := OwnE.grown hO1 hg (by omega) hB1 hB1.size
      have X2 := box_grown hO1 hg (X1.alloc (.cells #[.int .i64 (f : Int), .int .i64 ((m : Int) - 1)] 37)) (by omega)
      have hsz2 := Nat.le_trans hsz (Nat.le_trans hbS.size hg.size)
      have HO2 := Lib.hid hO2
      clear hO2 hg hO1 XN hB1 hbS hO
      go_wp2
      refine ⟨⟨m + 1, by omega, by go_num, ?_, X2, hB2, hsz2⟩, by simp [intOf]; omega⟩
      rw [← Nat.add_assoc]
      exact HO2
theorem stAt_of {p : Pl} (hv : p.Valid) {l q x y o a : Nat} (h1 : q < p.n0) (h2 : x < p.nx) (h3 : y < p.ny) (h4 : o < p.no) (h5 : a < p.na) :
    p.stAt (((((l * p.n0 + q) * p.nx + x) * p.ny + y) * p.no + o) * p.na + a) = ⟨(l : Int), (q : Int), (x : Int), (y : Int), (o : Int), (a : Int)⟩ := by
  obtain ⟨d5, r5⟩ := div_step (q := (((l * p.n0 + q) * p.nx + x) * p.ny + y) * p.no + o) h5
  obtain ⟨d4, r4⟩ := div_step (q := ((l * p.n0 + q) * p.nx + x) * p.ny + y) h4
  obtain ⟨d3, r3⟩ := div_step (q := (l * p.n0 + q) * p.nx + x) h3
  obtain ⟨d2, r2⟩ := div_step (q := l * p.n0 + q) h2
  obtain ⟨d1, r1⟩ := div_step (q := l) h1
  rw [stAt_q, d5, r5, d4, r4, d3, r3, d2, r2, d1, r1]
theorem up_mul (K N P : Nat) : (K * N + N) * P = (K + 1) * (N * P) := by rw [← Nat.mul_assoc, Nat.add_mul K 1 N, Nat.one_mul]
theorem up_one (K N : Nat) : K * N + N = (K + 1) * N := by rw [Nat.add_mul, Nat.one_mul]
theorem start_mul (K N P : Nat) : K * (N * P) = (K * N + 0) * P := by rw [Nat.add_zero, Nat.mul_assoc]
theorem lt_up {a b N M : Nat} (h1 : a < M) (h2 : b < N) : a * N + b < M * N := by
  have := Nat.mul_le_mul_right N (show a + 1 ≤ M by omega)
  rw [Nat.add_mul, Nat.one_mul] at this
  omega
theorem rbStates_any (p : Pl) (hv : Hid p.Valid) (hc : Hid (p.count ≤ 1048576)) (w : World) : Calls Try.prog 26 #[p.v] w fun e w' => ∃ V, e = .returned V ∧ ∃ B, w.heap.size ≤ B ∧ OwnSt w' B V p.states ∧ Below w.heap.size w w' := by
  obtain ⟨i0, E⟩ := elem_state
  obtain ⟨p1, p2, p3, p4, p5⟩ := hv.out.ns
  obtain ⟨m1, m2⟩ := hv.out.maxes
  have h1 := hv.out.positions
  have h2 := hv.out.top
  have h3 := hv.out.orders
  have h4 := hv.out.age
  change (p.nx : Int) - 1 = p.m0 at m1
  change (p.ny : Int) - 1 = p.m1 at m2
  have e0 : p.top = ((p.top + 1).toNat : Int) - 1 := by omega
  have e1 : p.positions = (p.n0 : Int) - 1 := by unfold Pl.n0; omega
  have e4 : p.orders = (p.no : Int) - 1 := by unfold Pl.no; omega
  have e5 : p.age = (p.na : Int) - 1 := by unfold Pl.na; omega
  have hst := fun l q x y o a => @stAt_of p hv.out l q x y o a
  have hcc : p.count = (p.top + 1).toNat * (p.n0 * (p.nx * (p.ny * (p.no * p.na)))) := rfl
  have hc' := hc.out
  rw [hcc] at hc'
  have hpipe := hv.out.pipe
  generalize hN0 : (p.top + 1).toNat = N0 at e0 hcc hc'
  generalize hN1 : p.n0 = N1 at e1 hst hcc hc' p1
  generalize hN2 : p.nx = N2 at m1 hst hcc hc' p2
  generalize hN3 : p.ny = N3 at m2 hst hcc hc' p3
  generalize hN4 : p.no = N4 at e4 hst hcc hc' p4
  generalize hN5 : p.na = N5 at e5 hst hcc hc' p5
  have E0 := Lib.hid e0
  have E1 := Lib.hid e1
  have E2 : Hid (p.m0 = (N2 : Int) - 1) := Lib.hid m1.symm
  have E3 : Hid (p.m1 = (N3 : Int) - 1) := Lib.hid m2.symm
  have E4 := Lib.hid e4
  have E5 := Lib.hid e5
  have HST := Lib.hid hst
  have HCC := Lib.hid hcc
  have HC := Lib.hid hc'
  have hsmall : N0 ≤ 64 ∧ N1 ≤ 16 ∧ N4 ≤ 8 ∧ N5 ≤ 8 ∧ N2 ≤ 16 ∧ N3 ≤ 16 := by
    have h5 := hv.out.feed
    refine ⟨by omega, by omega, by omega, by omega, ?_, ?_⟩
    · rw [← hN2]; unfold Pl.nx; split <;> omega
    · rw [← hN3]; unfold Pl.ny; split <;> omega
  obtain ⟨z0, z1, z4, z5, z2, z3⟩ := hsmall
  clear hN0 hN1 hN2 hN3 hN4 hN5 e0 e1 e4 e5 m1 m2 hst hcc hc' h1 h2 h3 h4
  go_enter Try.func26, Try.ntmps26
  go_wp2_with fail
  have X1 := Box.new w [.int .i64 p.top, .int .i64 p.bank, .int .i64 p.siphon, .int .i64 p.start, .int .i64 p.positions, .int .i64 p.rate, .int .i64 p.step, .int .i64 p.pass, .int .i64 p.feed, .int .i64 p.pipe, .int .i64 p.orders, .int .i64 p.age] 23
  have hB := (Below.refl w.heap.size w).alloc (Nat.le_refl _) (.cells #[.int .i64 p.top, .int .i64 p.bank, .int .i64 p.siphon, .int .i64 p.start, .int .i64 p.positions, .int .i64 p.rate, .int .i64 p.step, .int .i64 p.pass, .int .i64 p.feed, .int .i64 p.pipe, .int .i64 p.orders, .int .i64 p.age] 23)
  refine (rbPipes_is hpipe).mono ?_
  rintro e w0 ⟨rfl, hb⟩
  have X1 := X1.later hb
  have hB := hB.trans (hb.mono hB.size)
  clear hb
  go_upto_region 4 with fail
  have hBs : w.heap.size < w0.heap.size := X1.lt
  obtain ⟨B, hBe⟩ : ∃ B, w0.heap.size = B := ⟨_, rfl⟩
  have hsz : B ≤ w0.heap.size := by omega
  rw [hBe] at hBs
  clear hBe
  go_loopw [6, 5] (fun i V wr => ∃ l : Nat, l ≤ N0 ∧ i = .int .i64 l ∧ Hid (OwnSt wr B V (p.preSt (l * (N1 * (N2 * (N3 * (N4 * N5))))))) ∧ Box wr w.heap.size [.int .i64 p.top, .int .i64 p.bank, .int .i64 p.siphon, .int .i64 p.start, .int .i64 p.positions, .int .i64 p.rate, .int .i64 p.step, .int .i64 p.pass, .int .i64 p.feed, .int .i64 p.pipe, .int .i64 p.orders, .int .i64 p.age] ∧ Below w.heap.size w wr ∧ B ≤ wr.heap.size) (fun i _ _ => N0 - (intOf i).toNat)
  case atStart =>
    refine ⟨0, by omega, rfl, ?_, X1, hB, hsz⟩
    rw [Nat.zero_mul]
    exact Lib.hid (ownE_nil _ _ _ _ _)
  case round =>
    clear X1 hB hsz
    obtain ⟨l, hl, rfl, hO, X1, hB, hsz⟩ := hrel
    obtain ⟨wl, rfl⟩ : ∃ wl : World, wl = wr := ⟨_, rfl⟩
    have hz := X1.lt
    have xl : wl.cell? ⟨w.heap.size, 0, none⟩ = some (.int .i64 p.top) := X1.cell 0
    rcases Nat.lt_or_ge l N0 with hll | hge
    rotate_left
    · obtain rfl : l = N0 := by omega
      have hd2 : ¬ ((l : Int) ≤ p.top) := by have := E0.out; omega
      go_wp2
      go_ret
      refine ⟨_, rfl, B, by omega, ?_, hB⟩
      have := hO.out
      rw [← HCC.out] at this
      exact this
    have hd2 : (l : Int) ≤ p.top := by have := E0.out; omega
    go_wp2_with fail
    clear hd2 hz xl
    go_loopw [7, 5] (fun i V wr => ∃ q : Nat, q ≤ N1 ∧ i = .int .i64 q ∧ Hid (OwnSt wr B V (p.preSt ((l * N1 + q) * (N2 * (N3 * (N4 * N5)))))) ∧ Box wr w.heap.size [.int .i64 p.top, .int .i64 p.bank, .int .i64 p.siphon, .int .i64 p.start, .int .i64 p.positions, .int .i64 p.rate, .int .i64 p.step, .int .i64 p.pass, .int .i64 p.feed, .int .i64 p.pipe, .int .i64 p.orders, .int .i64 p.age] ∧ Below w.heap.size w wr ∧ B ≤ wr.heap.size) (fun i _ _ => N1 - (intOf i).toNat)
    case atStart =>
      refine ⟨0, by omega, rfl, ?_, X1, hB, hsz⟩
      rw [start_mul] at hO
      exact hO
    case round =>
      clear X1 hB hsz hO
      obtain ⟨q, hq, rfl, hO, X1, hB, hsz⟩ := hrel
      obtain ⟨wq, rfl⟩ : ∃ wq : World, wq = wr := ⟨_, rfl⟩
      have hz := X1.lt
      have xl : wq.cell? ⟨w.heap.size, 4, none⟩ = some (.int .i64 p.positions) := X1.cell 4
      rcases Nat.lt_or_ge q N1 with hlq | hge
      rotate_left
      · obtain rfl : q = N1 := by omega
        have hd2 : ¬ ((q : Int) ≤ p.positions) := by have := E1.out; omega
        go_wp2
        refine ⟨⟨l + 1, by omega, by go_num, ?_, X1, hB, hsz⟩, by simp [intOf]; omega⟩
        rw [up_mul] at hO
        exact hO
      have hd2 : (q : Int) ≤ p.positions := by have := E1.out; omega
      go_wp2_with fail
      clear hd2 hz xl
      go_loopw [8, 5] (fun i V wr => ∃ x : Nat, x ≤ N2 ∧ i = .int .i64 x ∧ Hid (OwnSt wr B V (p.preSt (((l * N1 + q) * N2 + x) * (N3 * (N4 * N5))))) ∧ Box wr w.heap.size [.int .i64 p.top, .int .i64 p.bank, .int .i64 p.siphon, .int .i64 p.start, .int .i64 p.positions, .int .i64 p.rate, .int .i64 p.step, .int .i64 p.pass, .int .i64 p.feed, .int .i64 p.pipe, .int .i64 p.orders, .int .i64 p.age] ∧ Below w.heap.size w wr ∧ B ≤ wr.heap.size) (fun i _ _ => N2 - (intOf i).toNat)
      case atStart =>
        refine ⟨0, by omega, rfl, ?_, X1, hB, hsz⟩
        rw [start_mul] at hO
        exact hO
      case round =>
        clear X1 hB hsz hO
        obtain ⟨x, hx, rfl, hO, X1, hB, hsz⟩ := hrel
        obtain ⟨wx, rfl⟩ : ∃ wx : World, wx = wr := ⟨_, rfl⟩
        have hz := X1.lt
        rcases Nat.lt_or_ge x N2 with hlx | hge
        rotate_left
        · obtain rfl : x = N2 := by omega
          have hd2 : ¬ ((x : Int) ≤ p.m0) := by have := E2.out; omega
          go_wp2
          refine ⟨⟨q + 1, by omega, by go_num, ?_, X1, hB, hsz⟩, by simp [intOf]; omega⟩
          rw [up_mul] at hO
          exact hO
        have hd2 : (x : Int) ≤ p.m0 := by have := E2.out; omega
        go_wp2_with fail
        clear hd2 hz
        go_loopw [9, 5] (fun i V wr => ∃ y : Nat, y ≤ N3 ∧ i = .int .i64 y ∧ Hid (OwnSt wr B V (p.preSt ((((l * N1 + q) * N2 + x) * N3 + y) * (N4 * N5)))) ∧ Box wr w.heap.size [.int .i64 p.top, .int .i64 p.bank, .int .i64 p.siphon, .int .i64 p.start, .int .i64 p.positions, .int .i64 p.rate, .int .i64 p.step, .int .i64 p.pass, .int .i64 p.feed, .int .i64 p.pipe, .int .i64 p.orders, .int .i64 p.age] ∧ Below w.heap.size w wr ∧ B ≤ wr.heap.size) (fun i _ _ => N3 - (intOf i).toNat)
        case atStart =>
          refine ⟨0, by omega, rfl, ?_, X1, hB, hsz⟩
          rw [start_mul] at hO
          exact hO
        case round =>
          clear X1 hB hsz hO
          obtain ⟨y, hy, rfl, hO, X1, hB, hsz⟩ := hrel
          obtain ⟨wy, rfl⟩ : ∃ wy : World, wy = wr := ⟨_, rfl⟩
          have hz := X1.lt
          rcases Nat.lt_or_ge y N3 with hly | hge
          rotate_left
          · obtain rfl : y = N3 := by omega
            have hd2 : ¬ ((y : Int) ≤ p.m1) := by have := E3.out; omega
            go_wp2
            refine ⟨⟨x + 1, by omega, by go_num, ?_, X1, hB, hsz⟩, by simp [intOf]; omega⟩
            rw [up_mul] at hO
            exact hO
          have hd2 : (y : Int) ≤ p.m1 := by have := E3.out; omega
          go_wp2_with fail
          clear hd2 hz
          go_loopw [10, 5] (fun i V wr => ∃ o : Nat, o ≤ N4 ∧ i = .int .i64 o ∧ Hid (OwnSt wr B V (p.preSt (((((l * N1 + q) * N2 + x) * N3 + y) * N4 + o) * N5))) ∧ Box wr w.heap.size [.int .i64 p.top, .int .i64 p.bank, .int .i64 p.siphon, .int .i64 p.start, .int .i64 p.positions, .int .i64 p.rate, .int .i64 p.step, .int .i64 p.pass, .int .i64 p.feed, .int .i64 p.pipe, .int .i64 p.orders, .int .i64 p.age] ∧ Below w.heap.size w wr ∧ B ≤ wr.heap.size) (fun i _ _ => N4 - (intOf i).toNat)
          case atStart =>
            refine ⟨0, by omega, rfl, ?_, X1, hB, hsz⟩
            rw [start_mul] at hO
            exact hO
          case round =>
            clear X1 hB hsz hO
            obtain ⟨o, ho, rfl, hO, X1, hB, hsz⟩ := hrel
            obtain ⟨wo, rfl⟩ : ∃ wo : World, wo = wr := ⟨_, rfl⟩
            have hz := X1.lt
            have xl : wo.cell? ⟨w.heap.size, 10, none⟩ = some (.int .i64 p.orders) := X1.cell 10
            rcases Nat.lt_or_ge o N4 with hlo | hge
            rotate_left
            · obtain rfl : o = N4 := by omega
              have hd2 : ¬ ((o : Int) ≤ p.orders) := by have := E4.out; omega
              go_wp2
              refine ⟨⟨y + 1, by omega, by go_num, ?_, X1, hB, hsz⟩, by simp [intOf]; omega⟩
              rw [up_mul] at hO
              exact hO
            have hd2 : (o : Int) ≤ p.orders := by have := E4.out; omega
            go_wp2_with fail
            clear hd2 hz xl
            go_loopw [11, 5] (fun i V wr => ∃ a : Nat, a ≤ N5 ∧ i = .int .i64 a ∧ Hid (OwnSt wr B V (p.preSt ((((((l * N1 + q) * N2 + x) * N3 + y) * N4 + o) * N5 + a)))) ∧ Box wr w.heap.size [.int .i64 p.top, .int .i64 p.bank, .int .i64 p.siphon, .int .i64 p.start, .int .i64 p.positions, .int .i64 p.rate, .int .i64 p.step, .int .i64 p.pass, .int .i64 p.feed, .int .i64 p.pipe, .int .i64 p.orders, .int .i64 p.age] ∧ Below w.heap.size w wr ∧ B ≤ wr.heap.size) (fun i _ _ => N5 - (intOf i).toNat)
            case atStart =>
              refine ⟨0, by omega, rfl, ?_, X1, hB, hsz⟩
              exact hO
            case round =>
              clear X1 hB hsz hO
              obtain ⟨a, ha, rfl, hO, X1, hB, hsz⟩ := hrel
              obtain ⟨wa, rfl⟩ : ∃ wa : World, wa = wr := ⟨_, rfl⟩
              have hz := X1.lt
              have xl : wa.cell? ⟨w.heap.size, 11, none⟩ = some (.int .i64 p.age) := X1.cell 11
              rcases Nat.lt_or_ge a N5 with hla | hge
              rotate_left
              · obtain rfl : a = N5 := by omega
                have hd2 : ¬ ((a : Int) ≤ p.age) := by have := E5.out; omega
                go_wp2
                refine ⟨⟨o + 1, by omega, by go_num, ?_, X1, hB, hsz⟩, by simp [intOf]; omega⟩
                rw [up_one] at hO
                exact hO
              have hd2 : (a : Int) ≤ p.age := by have := E5.out; omega
              have hlen : (p.preSt ((((((l * N1 + q) * N2 + x) * N3 + y) * N4 + o) * N5 + a))).length = (((((l * N1 + q) * N2 + x) * N3 + y) * N4 + o) * N5 + a) := preSt_len _ _
              have hkl : (((((l * N1 + q) * N2 + x) * N3 + y) * N4 + o) * N5 + a) < 1048576 := by
                have h1 := (lt_up (lt_up (lt_up (lt_up (lt_up hll hlq) hlx) hly) hlo) hla)
                have h2 := HC.out
                simp only [← Nat.mul_assoc] at h2
                omega
              have hnx := preSt_succ p ((((((l * N1 + q) * N2 + x) * N3 + y) * N4 + o) * N5 + a))
              rw [HST.out l q x y o a hlq hlx hly hlo hla] at hnx
              have HNX := Lib.hid hnx
              clear hnx
              have hbS := (Below.refl wa.heap.size wa).alloc (Nat.le_refl _) (.cells #[.int .i64 (l : Int), .int .i64 (q : Int), .int .i64 (x : Int), .int .i64 (y : Int), .int .i64 (o : Int), .int .i64 (a : Int)] 30)
              have hO1 := hO.out.later hbS
              have XN := Box.new wa [.int .i64 (l : Int), .int .i64 (q : Int), .int .i64 (x : Int), .int .i64 (y : Int), .int .i64 (o : Int), .int .i64 (a : Int)] 30
              obtain ⟨g', c', w', hr, hO2, hg⟩ := run_appE E (fun _ => rfl) st_one (by omega) (⟨(l : Int), (q : Int), (x : Int), (y : Int), (o : Int), (a : Int)⟩ : St) 43 hO1 XN (Nat.le_trans hsz hbS.size) (by rw [hlen]; omega)
              rw [← HNX.out] at hO2
              rw [hlen] at hO2 hr
              have hB1 := hB.trans (hbS.mono hB.size)
              have hB2 := OwnE.grown hO1 hg (by omega) hB1 hB1.size
              have X2 := box_grown hO1 hg (X1.alloc (.cells #[.int .i64 (l : Int), .int .i64 (q : Int), .int .i64 (x : Int), .int .i64 (y : Int), .int .i64 (o : Int), .int .i64 (a : Int)] 30)) (by omega)
              have hsz2 := Nat.le_trans hsz (Nat.le_trans hbS.size hg.size)
              have HO2 := Lib.hid hO2
              clear hO2 hg hO1 XN hB1 hbS hO hlen hkl
              generalize hkk : ((((l * N1 + q) * N2 + x) * N3 + y) * N4 + o) * N5 = KK at hr HO2
              have HKK := Lib.hid hkk
              clear hkk
              go_wp2
              refine ⟨⟨a + 1, by omega, by go_num, ?_, X2, hB2, hsz2⟩, by simp [intOf]; omega⟩
              rw [← Nat.add_assoc]
              exact HO2
end Go.Proofs.Ytancngachnpefaa
