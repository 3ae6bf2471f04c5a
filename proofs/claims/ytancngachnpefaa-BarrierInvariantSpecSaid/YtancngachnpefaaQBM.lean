/- What the iterator states of package barrier promises. (Printed by gen_bm.py.) No condition. -/
import Derived.Test.YtancngachnpefaaQK
import Derived.Test.YtancngachnpefaaQS
import Derived.Test.YtancngachnpefaaQBK
import Derived.Maps.AppendAt
set_option linter.unusedVariables false
set_option linter.unusedSimpArgs false
set_option maxRecDepth 100000
set_option maxHeartbeats 4000000
namespace Go.Proofs.Ytancngachnpefaa
open Go.RowKit Go.Shelf
attribute [local go_sem] Oper.semAt_some
theorem small6 {p : Pl} (hv : p.Valid) {x0 x1 x2 x3 x4 x5 : Int} (h : (0 ≤ x0 ∧ x0 ≤ p.top) ∧ (0 ≤ x1 ∧ x1 ≤ p.positions) ∧ (0 ≤ x2 ∧ x2 ≤ if 0 < p.pipe then p.feed else 0) ∧ (0 ≤ x3 ∧ x3 ≤ if 1 < p.pipe then p.feed else 0) ∧ (0 ≤ x4 ∧ x4 ≤ p.orders) ∧ 0 ≤ x5 ∧ x5 ≤ p.age) :
    (0 ≤ x0 ∧ x0 ≤ 63) ∧ (0 ≤ x1 ∧ x1 ≤ 63) ∧ (0 ≤ x2 ∧ x2 ≤ 63) ∧ (0 ≤ x3 ∧ x3 ≤ 63) ∧ (0 ≤ x4 ∧ x4 ≤ 63) ∧ 0 ≤ x5 ∧ x5 ≤ 63 := by
  have h1 := hv.positions
  have h2 := hv.top
  have h3 := hv.orders
  have h4 := hv.age
  have h5 := hv.feed
  obtain ⟨a, b, c, d, e, f⟩ := h
  refine ⟨by omega, by omega, ?_, ?_, by omega, by omega⟩
  · split at c <;> omega
  · split at d <;> omega
theorem last_max {n q t : Nat} (hn : 0 < n) (h : q + 1 = t * n) : q % n = n - 1 ∧ q / n + 1 = t := by
  have h0 : (q + 1) % n = 0 := by rw [h]; exact Nat.mul_mod_left t n
  have h1 : (q + 1) / n = t := by rw [h]; exact Nat.mul_div_left t hn
  rcases mod_step (q := q) hn with ⟨_, h2, _⟩ | ⟨h2, _, h3⟩
  · omega
  · exact ⟨h2, by omega⟩
theorem stAt_end {p : Pl} (hv : p.Valid) {k : Nat} (h : k + 1 = p.count) : (p.stAt k).age = p.age ∧ (p.stAt k).order = p.orders ∧ (p.stAt k).p1 = p.m1 ∧ (p.stAt k).p0 = p.m0 ∧ (p.stAt k).position = p.positions ∧ (p.stAt k).level = p.top := by
  obtain ⟨a, b, c, d, e⟩ := hv.ns
  obtain ⟨m1, m2⟩ := hv.maxes
  have h1 := hv.positions
  have h2 := hv.top
  have h3 := hv.orders
  have h4 := hv.age
  have e0 : (p.n0 : Int) = p.positions + 1 := by unfold Pl.n0; omega
  have e1 : (p.no : Int) = p.orders + 1 := by unfold Pl.no; omega
  have e2 : (p.na : Int) = p.age + 1 := by unfold Pl.na; omega
  change (p.nx : Int) - 1 = p.m0 at m1
  change (p.ny : Int) - 1 = p.m1 at m2
  have hc : p.count = (((((p.top + 1).toNat * p.n0) * p.nx) * p.ny) * p.no) * p.na := by unfold Pl.count; simp only [Nat.mul_assoc]
  obtain ⟨r5, s5⟩ := last_max e (h.trans hc)
  obtain ⟨r4, s4⟩ := last_max d s5
  obtain ⟨r3, s3⟩ := last_max c s4
  obtain ⟨r2, s2⟩ := last_max b s3
  obtain ⟨r1, s1⟩ := last_max a s2
  rw [stAt_q]
  dsimp only
  refine ⟨?_, ?_, ?_, ?_, ?_, ?_⟩ <;> omega
theorem states_seq (n : Nat) (p : Pl) (hv : Hid p.Valid) (Bm : Nat) (w : World) (D : Nat) (R : Nat → Prop) (hm : Box w Bm (mostL p)) (hRm : ¬ R Bm) (hRw : Hid (∀ b, R b → b < w.heap.size)) :
    SeqB Fence.wide n Try.prog 66 #[.pointer (some ⟨Bm, 0, none⟩)] (fun x : St => #[x.v]) (KeepsC D R) (fun xs => xs = p.states) (fun pre => pre <+: p.states) (fun pre x => pre ++ [x] <+: p.states) w := fun l J Jx W hW hJ hJx hY h0 => by
  have HY := Lib.hid hY
  have HJ := Lib.hid hJ
  have HJx := Lib.hid hJx
  clear hY hJ hJx
  have hm := hm.later hW
  have hRa : ¬ R W.heap.size := fun h => by have := hRw.out _ h; have := hW.size; omega
  have hml := hm.lt
  have hne : Bm ≠ W.heap.size := Nat.ne_of_lt hml
  have hCP := Lib.hid (count_pos hv.out)
  refine callsIn_of_wp Try.func66 rfl trivial ?_ rfl
  simp only [Try.ntmps66, List.size_toArray, List.length_cons, List.length_nil, Nat.reduceAdd, Nat.reduceSub, Array.replicate_succ, Array.replicate_zero, List.push_toArray, List.append_toArray, List.nil_append, List.cons_append]
  refine wpIn_wide.2 ?_
  go_wp2_with fail
  have hbA := (Below.refl W.heap.size W).alloc (Nat.le_refl _) (.cells #[.int .i64 0, .int .i64 0, .int .i64 0, .int .i64 0, .int .i64 0, .int .i64 0] 127)
  have Y0 := Box.new W [.int .i64 0, .int .i64 0, .int .i64 0, .int .i64 0, .int .i64 0, .int .i64 0] 127
  have M0 := hm.alloc (.cells #[.int .i64 0, .int .i64 0, .int .i64 0, .int .i64 0, .int .i64 0, .int .i64 0] 127)
  have J0 := HJ.out _ _ _ h0 hbA
  generalize W.alloc (.cells #[.int .i64 0, .int .i64 0, .int .i64 0, .int .i64 0, .int .i64 0, .int .i64 0] 127) = W1 at hbA Y0 M0 J0 ⊢
  go_loopg [] p.count (fun g wr => ∃ k : Nat, k + g = p.count ∧ 0 < g ∧ Box wr W.heap.size (p.stAt k).cells ∧ Box wr Bm (mostL p) ∧ J ((List.range k).map p.stAt) wr)
  case atStart =>
    refine ⟨0, by omega, hCP.out, ?_, M0, J0⟩
    rw [stAt_zero]
    exact Y0
  case round =>
    obtain ⟨k, hkg, hg0, Y, M, hJ0⟩ := hrel
    clear Y0 M0 J0 hbA hm
    obtain ⟨wo, rfl⟩ : ∃ wo : World, wo = wr := ⟨_, rfl⟩
    obtain ⟨G, rfl⟩ : ∃ G, G = gk := ⟨_, rfl⟩
    have hkc : k < p.count := by omega
    have hsucc := Lib.hid (stAt_succ hv.out k)
    have hlast := Lib.hid (stAt_last hv.out hkc)
    obtain ⟨f0, t0, a0, c0, hy0, hR0⟩ := HY.out _ (p.stAt k) wo hJ0 (by rw [← states_take]; exact List.IsPrefix.map _ (by rw [List.prefix_iff_eq_take, List.length_range, List.take_range]; congr 1; omega))
    have HT := Lib.hid (states_take p k)
    rw [← HT.out] at hR0
    obtain ⟨y, hy⟩ : ∃ y, p.stAt k = y := ⟨_, rfl⟩
    rw [hy] at Y hy0 hsucc hlast
    obtain ⟨x0, x1, x2, x3, x4, x5⟩ := y
    simp only [St.v] at hy0
    have hbd := Pl.hasB_bd (stAt_has hv.out hkc)
    rw [hy] at hbd
    dsimp only at hbd
    have HB := Lib.hid (small6 hv.out hbd)
    have HS := Lib.hid hy
    clear hy hbd
    have hal := Y.lt
    obtain ⟨Yc0, Yc1, Yc2, Yc3, Yc4, Yc5⟩ := Y.c6
    refine (wpIn_wide (n := n)).1 ?_
    gi_wp2_with fail
    refine ⟨(fun h => by cases h), hR0.mono ?_⟩
    rintro e W2 (⟨rfl, hJ3, hK⟩ | ⟨rfl, hx⟩)
    rotate_left
    · gi_wp2
      refine bodyPost_ret (results_none rfl _ _ _) rfl ?_
      refine ⟨⟨_, rfl⟩, .inr ⟨_, ?_, hx⟩⟩
      show List.map _ _ <+: List.map _ _
      exact List.IsPrefix.map _ (by rw [List.prefix_iff_eq_take, List.length_range, List.take_range]; congr 1; omega)
    have Y := hK.box Y hRa
    have M := hK.box M hRm
    have hal := Nat.lt_of_lt_of_le hal hK.size
    clear hR0 hy0 hJ0 hK Yc0 Yc1 Yc2 Yc3 Yc4 Yc5 hml
    have hml := M.lt
    gi_wp2_with fail
    refine wpIn_wide.2 ?_
    go_loopw [4] (fun i wr => Below W.heap.size W2 wr ∧ Box wr Bm (mostL p) ∧ ((i = .int .i64 (5) ∧ Box wr W.heap.size [.int .i64 x0, .int .i64 x1, .int .i64 x2, .int .i64 x3, .int .i64 x4, .int .i64 x5]) ∨ (i = .int .i64 (4) ∧ x5 = p.age ∧ Box wr W.heap.size [.int .i64 x0, .int .i64 x1, .int .i64 x2, .int .i64 x3, .int .i64 x4, .int .i64 0]) ∨ (i = .int .i64 (3) ∧ x5 = p.age ∧ x4 = p.orders ∧ Box wr W.heap.size [.int .i64 x0, .int .i64 x1, .int .i64 x2, .int .i64 x3, .int .i64 0, .int .i64 0]) ∨ (i = .int .i64 (2) ∧ x5 = p.age ∧ x4 = p.orders ∧ x3 = p.m1 ∧ Box wr W.heap.size [.int .i64 x0, .int .i64 x1, .int .i64 x2, .int .i64 0, .int .i64 0, .int .i64 0]) ∨ (i = .int .i64 (1) ∧ x5 = p.age ∧ x4 = p.orders ∧ x3 = p.m1 ∧ x2 = p.m0 ∧ Box wr W.heap.size [.int .i64 x0, .int .i64 x1, .int .i64 0, .int .i64 0, .int .i64 0, .int .i64 0]) ∨ (i = .int .i64 (0) ∧ x5 = p.age ∧ x4 = p.orders ∧ x3 = p.m1 ∧ x2 = p.m0 ∧ x1 = p.positions ∧ Box wr W.heap.size [.int .i64 x0, .int .i64 0, .int .i64 0, .int .i64 0, .int .i64 0, .int .i64 0]) ∨ (i = .int .i64 (-1) ∧ x5 = p.age ∧ x4 = p.orders ∧ x3 = p.m1 ∧ x2 = p.m0 ∧ x1 = p.positions ∧ x0 = p.top ∧ Box wr W.heap.size [.int .i64 0, .int .i64 0, .int .i64 0, .int .i64 0, .int .i64 0, .int .i64 0]))) (fun i _ => (intOf i + 1).toNat)
    case atStart => exact ⟨Below.refl _ _, M, .inl ⟨rfl, Y⟩⟩
    case round =>
      clear Y M hal hml
      obtain ⟨hb2, M, hrel⟩ := hrel
      obtain ⟨wi, rfl⟩ : ∃ wi : World, wi = wr := ⟨_, rfl⟩
      have hJ4 := HJ.out _ _ _ hJ3 hb2
      have hml := M.lt
      rcases hrel with ⟨rfl, Y⟩ | ⟨rfl, g5, Y⟩ | ⟨rfl, g5, g4, Y⟩ | ⟨rfl, g5, g4, g3, Y⟩ | ⟨rfl, g5, g4, g3, g2, Y⟩ | ⟨rfl, g5, g4, g3, g2, g1, Y⟩ | ⟨rfl, g5, g4, g3, g2, g1, g0, Y⟩
      · have hal := Y.lt
        obtain ⟨Yc0, Yf0, Yc1, Yf1, Yc2, Yf2, Yc3, Yf3, Yc4, Yf4, Yc5, Yf5⟩ := Y.f6
        have Yz : W.heap.size < wi.heap.size := Y.lt
        obtain ⟨Mc0, Mc1, Mc2, Mc3, Mc4, Mc5⟩ := M.c6
        by_cases g5 : x5 = p.age
        · have hd : decide (x5 = p.age) = true := decide_eq_true g5
          have hd2 : (x5 == p.age) = true := by simp [g5]
          have G5 := Lib.hid g5
          clear g5
          go_wp2_with (fail)
          go_quiet (fail)
          go_wp2
          refine ⟨⟨(bel_drewN hb2 nq).setCell (by simp) _, M.other (Ne.symm (Ne.symm hne)) _, .inr (.inl ⟨by go_num, G5.out, Y.set 5 _⟩)⟩, by simp [intOf]⟩
        · have hd : decide (x5 = p.age) = false := decide_eq_false g5
          have hd2 : (x5 == p.age) = false := by simp [g5]
          go_wp2_with (fail)
          go_quiet (fail)
          go_wp2
          have hB := HB.out
          have hw : wrap64 (x5 + 1) = x5 + 1 := by unfold wrap64; omega
          clear hB
          refine wpIn_wide.2 ?_
          go_wp2
          go_roundg (G - 1)
          case measure => omega
          case rel =>
            refine ⟨k + 1, by omega, ?_, ?_, M.other (a := ⟨W.heap.size, 5, none⟩) hne _, HJ.out _ _ _ hJ4 ((bel_drewN (Below.refl _ _) nq).setCell (p := ⟨W.heap.size, 5, none⟩) (Nat.le_refl _) _)⟩
            · rcases Nat.eq_zero_or_pos (G - 1) with hz | hz
              · exact absurd (by have := (stAt_end hv.out (k := k) (by omega)).1; rw [HS.out] at this; exact this) g5
              · exact hz
            · rw [show p.stAt (k + 1) = _ from hsucc.out.d5 g5]
              exact (Y.drewN nq).set 5 _
      · have hal := Y.lt
        obtain ⟨Yc0, Yf0, Yc1, Yf1, Yc2, Yf2, Yc3, Yf3, Yc4, Yf4, Yc5, Yf5⟩ := Y.f6
        have Yz : W.heap.size < wi.heap.size := Y.lt
        obtain ⟨Mc0, Mc1, Mc2, Mc3, Mc4, Mc5⟩ := M.c6
        by_cases g4 : x4 = p.orders
        · have hd : decide (x4 = p.orders) = true := decide_eq_true g4
          have hd2 : (x4 == p.orders) = true := by simp [g4]
          have G4 := Lib.hid g4
          clear g4
          go_wp2_with (fail)
          go_quiet (fail)
          go_wp2
          refine ⟨⟨(bel_drewN hb2 nq).setCell (by simp) _, M.other (Ne.symm (Ne.symm hne)) _, .inr (.inr (.inl ⟨by go_num, g5, G4.out, Y.set 4 _⟩))⟩, by simp [intOf]⟩
        · have hd : decide (x4 = p.orders) = false := decide_eq_false g4
          have hd2 : (x4 == p.orders) = false := by simp [g4]
          go_wp2_with (fail)
          go_quiet (fail)
          go_wp2
          have hB := HB.out
          have hw : wrap64 (x4 + 1) = x4 + 1 := by unfold wrap64; omega
          clear hB
          refine wpIn_wide.2 ?_
          go_wp2
          go_roundg (G - 1)
          case measure => omega
          case rel =>
            refine ⟨k + 1, by omega, ?_, ?_, M.other (a := ⟨W.heap.size, 4, none⟩) hne _, HJ.out _ _ _ hJ4 ((bel_drewN (Below.refl _ _) nq).setCell (p := ⟨W.heap.size, 4, none⟩) (Nat.le_refl _) _)⟩
            · rcases Nat.eq_zero_or_pos (G - 1) with hz | hz
              · exact absurd (by have := (stAt_end hv.out (k := k) (by omega)).2.1; rw [HS.out] at this; exact this) g4
              · exact hz
            · rw [show p.stAt (k + 1) = _ from hsucc.out.d4 g5 g4]
              exact (Y.drewN nq).set 4 _
      · have hal := Y.lt
        obtain ⟨Yc0, Yf0, Yc1, Yf1, Yc2, Yf2, Yc3, Yf3, Yc4, Yf4, Yc5, Yf5⟩ := Y.f6
        have Yz : W.heap.size < wi.heap.size := Y.lt
        obtain ⟨Mc0, Mc1, Mc2, Mc3, Mc4, Mc5⟩ := M.c6
        by_cases g3 : x3 = p.m1
        · have hd : decide (x3 = p.m1) = true := decide_eq_true g3
          have hd2 : (x3 == p.m1) = true := by simp [g3]
          have G3 := Lib.hid g3
          clear g3
          go_wp2_with (fail)
          go_quiet (fail)
          go_wp2
          refine ⟨⟨(bel_drewN hb2 nq).setCell (by simp) _, M.other (Ne.symm (Ne.symm hne)) _, .inr (.inr (.inr (.inl ⟨by go_num, g5, g4, G3.out, Y.set 3 _⟩)))⟩, by simp [intOf]⟩
        · have hd : decide (x3 = p.m1) = false := decide_eq_false g3
          have hd2 : (x3 == p.m1) = false := by simp [g3]
          go_wp2_with (fail)
          go_quiet (fail)
          go_wp2
          have hB := HB.out
          have hw : wrap64 (x3 + 1) = x3 + 1 := by unfold wrap64; omega
          clear hB
          refine wpIn_wide.2 ?_
          go_wp2
          go_roundg (G - 1)
          case measure => omega
          case rel =>
            refine ⟨k + 1, by omega, ?_, ?_, M.other (a := ⟨W.heap.size, 3, none⟩) hne _, HJ.out _ _ _ hJ4 ((bel_drewN (Below.refl _ _) nq).setCell (p := ⟨W.heap.size, 3, none⟩) (Nat.le_refl _) _)⟩
            · rcases Nat.eq_zero_or_pos (G - 1) with hz | hz
              · exact absurd (by have := (stAt_end hv.out (k := k) (by omega)).2.2.1; rw [HS.out] at this; exact this) g3
              · exact hz
            · rw [show p.stAt (k + 1) = _ from hsucc.out.d3 g5 g4 g3]
              exact (Y.drewN nq).set 3 _
      · have hal := Y.lt
        obtain ⟨Yc0, Yf0, Yc1, Yf1, Yc2, Yf2, Yc3, Yf3, Yc4, Yf4, Yc5, Yf5⟩ := Y.f6
        have Yz : W.heap.size < wi.heap.size := Y.lt
        obtain ⟨Mc0, Mc1, Mc2, Mc3, Mc4, Mc5⟩ := M.c6
        by_cases g2 : x2 = p.m0
        · have hd : decide (x2 = p.m0) = true := decide_eq_true g2
          have hd2 : (x2 == p.m0) = true := by simp [g2]
          have G2 := Lib.hid g2
          clear g2
          go_wp2_with (fail)
          go_quiet (fail)
          go_wp2
          refine ⟨⟨(bel_drewN hb2 nq).setCell (by simp) _, M.other (Ne.symm (Ne.symm hne)) _, .inr (.inr (.inr (.inr (.inl ⟨by go_num, g5, g4, g3, G2.out, Y.set 2 _⟩))))⟩, by simp [intOf]⟩
        · have hd : decide (x2 = p.m0) = false := decide_eq_false g2
          have hd2 : (x2 == p.m0) = false := by simp [g2]
          go_wp2_with (fail)
          go_quiet (fail)
          go_wp2
          have hB := HB.out
          have hw : wrap64 (x2 + 1) = x2 + 1 := by unfold wrap64; omega
          clear hB
          refine wpIn_wide.2 ?_
          go_wp2
          go_roundg (G - 1)
          case measure => omega
          case rel =>
            refine ⟨k + 1, by omega, ?_, ?_, M.other (a := ⟨W.heap.size, 2, none⟩) hne _, HJ.out _ _ _ hJ4 ((bel_drewN (Below.refl _ _) nq).setCell (p := ⟨W.heap.size, 2, none⟩) (Nat.le_refl _) _)⟩
            · rcases Nat.eq_zero_or_pos (G - 1) with hz | hz
              · exact absurd (by have := (stAt_end hv.out (k := k) (by omega)).2.2.2.1; rw [HS.out] at this; exact this) g2
              · exact hz
            · rw [show p.stAt (k + 1) = _ from hsucc.out.d2 g5 g4 g3 g2]
              exact (Y.drewN nq).set 2 _
      · have hal := Y.lt
        obtain ⟨Yc0, Yf0, Yc1, Yf1, Yc2, Yf2, Yc3, Yf3, Yc4, Yf4, Yc5, Yf5⟩ := Y.f6
        have Yz : W.heap.size < wi.heap.size := Y.lt
        obtain ⟨Mc0, Mc1, Mc2, Mc3, Mc4, Mc5⟩ := M.c6
        by_cases g1 : x1 = p.positions
        · have hd : decide (x1 = p.positions) = true := decide_eq_true g1
          have hd2 : (x1 == p.positions) = true := by simp [g1]
          have G1 := Lib.hid g1
          clear g1
          go_wp2_with (fail)
          go_quiet (fail)
          go_wp2
          refine ⟨⟨(bel_drewN hb2 nq).setCell (by simp) _, M.other (Ne.symm (Ne.symm hne)) _, .inr (.inr (.inr (.inr (.inr (.inl ⟨by go_num, g5, g4, g3, g2, G1.out, Y.set 1 _⟩)))))⟩, by simp [intOf]⟩
        · have hd : decide (x1 = p.positions) = false := decide_eq_false g1
          have hd2 : (x1 == p.positions) = false := by simp [g1]
          go_wp2_with (fail)
          go_quiet (fail)
          go_wp2
          have hB := HB.out
          have hw : wrap64 (x1 + 1) = x1 + 1 := by unfold wrap64; omega
          clear hB
          refine wpIn_wide.2 ?_
          go_wp2
          go_roundg (G - 1)
          case measure => omega
          case rel =>
            refine ⟨k + 1, by omega, ?_, ?_, M.other (a := ⟨W.heap.size, 1, none⟩) hne _, HJ.out _ _ _ hJ4 ((bel_drewN (Below.refl _ _) nq).setCell (p := ⟨W.heap.size, 1, none⟩) (Nat.le_refl _) _)⟩
            · rcases Nat.eq_zero_or_pos (G - 1) with hz | hz
              · exact absurd (by have := (stAt_end hv.out (k := k) (by omega)).2.2.2.2.1; rw [HS.out] at this; exact this) g1
              · exact hz
            · rw [show p.stAt (k + 1) = _ from hsucc.out.d1 g5 g4 g3 g2 g1]
              exact (Y.drewN nq).set 1 _
      · have hal := Y.lt
        obtain ⟨Yc0, Yf0, Yc1, Yf1, Yc2, Yf2, Yc3, Yf3, Yc4, Yf4, Yc5, Yf5⟩ := Y.f6
        have Yz : W.heap.size < wi.heap.size := Y.lt
        obtain ⟨Mc0, Mc1, Mc2, Mc3, Mc4, Mc5⟩ := M.c6
        by_cases g0 : x0 = p.top
        · have hd : decide (x0 = p.top) = true := decide_eq_true g0
          have hd2 : (x0 == p.top) = true := by simp [g0]
          have G0 := Lib.hid g0
          clear g0
          go_wp2_with (fail)
          go_quiet (fail)
          go_wp2
          refine ⟨⟨(bel_drewN hb2 nq).setCell (by simp) _, M.other (Ne.symm (Ne.symm hne)) _, .inr (.inr (.inr (.inr (.inr (.inr (⟨by go_num, g5, g4, g3, g2, g1, G0.out, Y.set 0 _⟩))))))⟩, by simp [intOf]⟩
        · have hd : decide (x0 = p.top) = false := decide_eq_false g0
          have hd2 : (x0 == p.top) = false := by simp [g0]
          go_wp2_with (fail)
          go_quiet (fail)
          go_wp2
          have hB := HB.out
          have hw : wrap64 (x0 + 1) = x0 + 1 := by unfold wrap64; omega
          clear hB
          refine wpIn_wide.2 ?_
          go_wp2
          go_roundg (G - 1)
          case measure => omega
          case rel =>
            refine ⟨k + 1, by omega, ?_, ?_, M.other (a := ⟨W.heap.size, 0, none⟩) hne _, HJ.out _ _ _ hJ4 ((bel_drewN (Below.refl _ _) nq).setCell (p := ⟨W.heap.size, 0, none⟩) (Nat.le_refl _) _)⟩
            · rcases Nat.eq_zero_or_pos (G - 1) with hz | hz
              · exact absurd (by have := (stAt_end hv.out (k := k) (by omega)).2.2.2.2.2; rw [HS.out] at this; exact this) g0
              · exact hz
            · rw [show p.stAt (k + 1) = _ from hsucc.out.d0 g5 g4 g3 g2 g1 g0]
              exact (Y.drewN nq).set 0 _
      · have hal := Y.lt
        go_wp2_with (fail)
        go_quiet (fail)
        go_wp2
        refine wpIn_wide.2 ?_
        go_wp2
        refine bodyPost_ret (results_none rfl _ _ _) rfl ?_
        refine ⟨⟨_, rfl⟩, .inl ⟨_, ?_, HJ.out _ _ _ hJ4 (bel_drewN (Below.refl _ _) nq)⟩⟩
        show _ = List.map _ (List.range p.count)
        rw [hlast.out g5 g4 g3 g2 g1 g0]
end Go.Proofs.Ytancngachnpefaa
namespace Go.Proofs.Ytancngachnpefaa
open Go.RowKit Go.Shelf
attribute [local go_sem] Oper.semAt_some
theorem bSafe_is {p : Pl} {V : Value} {s : St} {w : World} {q : Bool} {er : Int} (h : Hid (p.safeT s = (q, er))) : Calls Try.prog 42 #[gmV p V, s.v] w fun e w' => e = .returned (.bool q) ∧ Below w.heap.size w w' := by
  go_enter Try.func42, Try.ntmps42
  go_wp2_with fail
  have hB := ((Below.refl w.heap.size w).alloc (by simp <;> omega) (.cells #[.int .i64 p.top, .int .i64 p.bank, .int .i64 p.siphon, .int .i64 p.start, .int .i64 p.positions, .int .i64 p.rate, .int .i64 p.step, .int .i64 p.pass, .int .i64 p.feed, .int .i64 p.pipe, .int .i64 p.orders, .int .i64 p.age, V] 83)).alloc (by simp <;> omega) (.cells #[.int .i64 s.level, .int .i64 s.position, .int .i64 s.p0, .int .i64 s.p1, .int .i64 s.order, .int .i64 s.age] 30)
  refine (safe_is h).mono ?_
  rintro e w1 ⟨rfl, hb⟩
  go_wp2
  go_ret
  exact ⟨rfl, hB.trans (hb.mono hB.size)⟩
def Pl.nexts (p : Pl) (c : List Ln) (s : St) (k : Nat) : List (Sh × St) := (List.range k).map fun j => (p.shAt j, (nextT p c s (p.shAt j)).1)
theorem nexts_succ (p : Pl) (c : List Ln) (s : St) (k : Nat) : p.nexts c s (k + 1) = p.nexts c s k ++ [(p.shAt k, (nextT p c s (p.shAt k)).1)] := by
  rw [Pl.nexts, List.range_succ, List.map_append]; rfl
theorem nexts_pre (p : Pl) (c : List Ln) (s : St) {k m : Nat} (h : k ≤ m) : p.nexts c s k <+: p.nexts c s m :=
  List.IsPrefix.map _ (by rw [List.prefix_iff_eq_take, List.length_range, List.take_range]; congr 1; omega)
theorem shAt_at (p : Pl) {f m : Nat} (h : m < p.nm) : p.shAt (f * p.nm + m) = ⟨(f : Int), (m : Int) - 1⟩ := by
  obtain ⟨h1, h2⟩ := div_step (q := f) h
  rw [Pl.shAt, h1, h2]
def Pl.nf (p : Pl) : Nat := (p.feed + 1).toNat
theorem next_seq (n : Nat) (p : Pl) (c : List Ln) (V : Value) (s : St) (hv : Hid p.Valid) (Bg Bs : Nat) (w : World) (D : Nat) (R : Nat → Prop) (hDw : D ≤ w.heap.size) (hC : Hid (CodeAt w D V c)) (hg : Box w Bg (gmL p V)) (hs : Box w Bs s.cells) (hRg : ¬ R Bg) (hRs : ¬ R Bs) (hRw : Hid (∀ b, R b → b < w.heap.size)) :
    SeqB Fence.wide n Try.prog 67 #[.pointer (some ⟨Bg, 0, none⟩), .pointer (some ⟨Bs, 0, none⟩)] (fun x : Sh × St => #[x.1.v, x.2.v]) (KeepsC D R) (fun xs => xs = p.nexts c s (p.nf * p.nm)) (fun pre => pre <+: p.nexts c s (p.nf * p.nm)) (fun pre x => pre ++ [x] <+: p.nexts c s (p.nf * p.nm)) w := fun l J Jx W hW hJ hJx hY h0 => by
  have HY := Lib.hid hY
  have HJ := Lib.hid hJ
  have HJx := Lib.hid hJx
  clear hY hJ hJx
  have hg := hg.later hW
  have hs := hs.later hW
  have HC := Lib.hid (hC.out.below (hW.mono hDw))
  have hDW := Nat.le_trans hDw hW.size
  have hf := hv.out.feed
  have ho := hv.out.orders
  obtain ⟨nf, hnf⟩ : ∃ nf, p.nf = nf := ⟨_, rfl⟩
  obtain ⟨nm, hnm⟩ : ∃ nm, p.nm = nm := ⟨_, rfl⟩
  have ef : p.feed + 1 = (nf : Int) := by rw [← hnf, Pl.nf]; omega
  have eo : p.orders + 2 = (nm : Int) := by rw [← hnm, Pl.nm]; omega
  have HNF := Lib.hid hnf
  have HNM := Lib.hid hnm
  have EF := Lib.hid ef
  have EO := Lib.hid eo
  have hnf16 : nf ≤ 16 := by omega
  have hnm9 : nm ≤ 9 := by omega
  rw [hnf, hnm]
  have w1 : IntKind.i64.wrap (p.feed + 1) = (nf : Int) := by rw [wrap_id (by omega) (by omega), ef]
  have w2 : IntKind.i64.wrap (p.orders + 2) = (nm : Int) := by rw [wrap_id (by omega) (by omega), eo]
  have w3 : wrap64 (p.feed + 1) = (nf : Int) := by unfold wrap64; omega
  have w4 : wrap64 (p.orders + 2) = (nm : Int) := by unfold wrap64; omega
  clear ef eo hnf hnm hf ho
  refine callsIn_of_wp Try.func67 rfl trivial ?_ rfl
  simp only [Try.ntmps67, List.size_toArray, List.length_cons, List.length_nil, Nat.reduceAdd, Nat.reduceSub, Array.replicate_succ, Array.replicate_zero, List.push_toArray, List.append_toArray, List.nil_append, List.cons_append]
  refine wpIn_wide.2 ?_
  have hgz := hg.lt
  have x8 : W.cell? ⟨Bg, 8, none⟩ = some (.int .i64 p.feed) := hg.cell 8
  go_wp2_with fail
  clear x8
  go_loopw [14] (fun i wr => ∃ f : Nat, f ≤ nf ∧ i = .int .i64 f ∧ Below D W wr ∧ Box wr Bg (gmL p V) ∧ Box wr Bs s.cells ∧ Hid (J (p.nexts c s (f * nm)) wr)) (fun i _ => nf - (intOf i).toNat)
  case atStart =>
    refine ⟨0, by omega, rfl, Below.refl _ _, hg, hs, ?_⟩
    rw [Nat.zero_mul]
    exact Lib.hid h0
  case round =>
    clear hg hs h0 hgz
    obtain ⟨f, hf, rfl, hb, hg, hs, hJ0⟩ := hrel
    obtain ⟨wo, rfl⟩ : ∃ wo : World, wo = wr := ⟨_, rfl⟩
    have hgz := hg.lt
    rcases Nat.lt_or_ge f nf with hlt | hge
    rotate_left
    · obtain rfl : f = nf := by omega
      have hd1 : decide ((f : Int) < (f : Int)) = false := by simp
      go_wp2
      go_end0
      exact ⟨⟨_, rfl⟩, .inl ⟨_, rfl, hJ0.out⟩⟩
    have hd1 : decide ((f : Int) < (nf : Int)) = true := decide_eq_true (by omega)
    have x10 : wo.cell? ⟨Bg, 10, none⟩ = some (.int .i64 p.orders) := hg.cell 10
    go_wp2_with fail
    clear hd1 x10
    go_loopw [21] (fun i wr => ∃ m : Nat, m ≤ nm ∧ i = .int .i64 m ∧ Below D W wr ∧ Box wr Bg (gmL p V) ∧ Box wr Bs s.cells ∧ Hid (J (p.nexts c s (f * nm + m)) wr)) (fun i _ => nm - (intOf i).toNat)
    case atStart => exact ⟨0, by omega, rfl, hb, hg, hs, hJ0⟩
    case round =>
      clear hb hg hs hJ0 hgz
      obtain ⟨m, hm, rfl, hb, hg, hs, hJ0⟩ := hrel
      obtain ⟨wi, rfl⟩ : ∃ wi : World, wi = wr := ⟨_, rfl⟩
      rcases Nat.lt_or_ge m nm with hlm | hgm
      rotate_left
      · obtain rfl : m = nm := by omega
        have hd1 : decide ((m : Int) < (m : Int)) = false := by simp
        go_wp2
        refine ⟨⟨f + 1, by omega, by go_num, hb, hg, hs, ?_⟩, by simp [intOf]; omega⟩
        rw [Nat.add_mul, Nat.one_mul]
        exact hJ0
      have hd1 : decide ((m : Int) < (nm : Int)) = true := decide_eq_true (by omega)
      have hsh : p.shAt (f * nm + m) = ⟨(f : Int), (m : Int) - 1⟩ := by
        have := shAt_at p (f := f) (m := m) (by rw [HNM.out]; exact hlm)
        rw [HNM.out] at this
        exact this
      obtain ⟨t, o, er, HT⟩ : ∃ t o er, Hid (nextT p c s ⟨(f : Int), (m : Int) - 1⟩ = (t, o, er)) := ⟨_, _, _, rfl⟩
      have hnx := nexts_succ p c s (f * nm + m)
      rw [hsh, HT.out] at hnx
      dsimp only at hnx
      have HNX := Lib.hid hnx
      clear hnx hsh
      have hgz := hg.lt
      have hsz := hs.lt
      have hgc0 : wi.cell? ⟨Bg, 0, none⟩ = some (.int .i64 p.top) := hg.cell 0
      have hgc1 : wi.cell? ⟨Bg, 1, none⟩ = some (.int .i64 p.bank) := hg.cell 1
      have hgc2 : wi.cell? ⟨Bg, 2, none⟩ = some (.int .i64 p.siphon) := hg.cell 2
      have hgc3 : wi.cell? ⟨Bg, 3, none⟩ = some (.int .i64 p.start) := hg.cell 3
      have hgc4 : wi.cell? ⟨Bg, 4, none⟩ = some (.int .i64 p.positions) := hg.cell 4
      have hgc5 : wi.cell? ⟨Bg, 5, none⟩ = some (.int .i64 p.rate) := hg.cell 5
      have hgc6 : wi.cell? ⟨Bg, 6, none⟩ = some (.int .i64 p.step) := hg.cell 6
      have hgc7 : wi.cell? ⟨Bg, 7, none⟩ = some (.int .i64 p.pass) := hg.cell 7
      have hgc8 : wi.cell? ⟨Bg, 8, none⟩ = some (.int .i64 p.feed) := hg.cell 8
      have hgc9 : wi.cell? ⟨Bg, 9, none⟩ = some (.int .i64 p.pipe) := hg.cell 9
      have hgc10 : wi.cell? ⟨Bg, 10, none⟩ = some (.int .i64 p.orders) := hg.cell 10
      have hgc11 : wi.cell? ⟨Bg, 11, none⟩ = some (.int .i64 p.age) := hg.cell 11
      have hgc12 : wi.cell? ⟨Bg, 12, none⟩ = some (V) := hg.cell 12
      obtain ⟨hsc0, hsc1, hsc2, hsc3, hsc4, hsc5⟩ := hs.c6
      have X6 := Box.new wi [.int .i64 (f : Int), .int .i64 ((m : Int) - 1)] 37
      have hbS := (Below.refl wi.heap.size wi).alloc (Nat.le_refl _) (.cells #[.int .i64 (f : Int), .int .i64 ((m : Int) - 1)] 37)
      refine (wpIn_wide (n := n)).1 ?_
      gi_wp2_with fail
      refine ⟨trivial, (fun h => by cases h), ?_⟩
      have hg1 := hg.alloc (.cells #[.int .i64 (f : Int), .int .i64 ((m : Int) - 1)] 37)
      have hs1 := hs.alloc (.cells #[.int .i64 (f : Int), .int .i64 ((m : Int) - 1)] 37)
      have hJ1 := Lib.hid (HJ.out _ _ _ hJ0.out (hbS.mono hb.size))
      have hb1 := hb.trans (hbS.mono (Nat.le_trans hDW hb.size))
      have hz6 := X6.lt
      clear hgc0 hgc1 hgc2 hgc3 hgc4 hgc5 hgc6 hgc7 hgc8 hgc9 hgc10 hgc11 hgc12 hsc0 hsc1 hsc2 hsc3 hsc4 hsc5 hgz hsz hg hs hJ0 hb hbS
      generalize wi.heap.size = S6 at X6 hz6 ⊢
      generalize wi.alloc (.cells #[.int .i64 (f : Int), .int .i64 ((m : Int) - 1)] 37) = w1 at X6 hz6 hg1 hs1 hJ1 hb1 ⊢
      refine (callsIn_wide.2 (next_is (p := p) (s := s) (x := ⟨(f : Int), (m : Int) - 1⟩) HT ((HC.out.below hb1).more (Nat.le_trans hDW hb1.size)))).mono ?_
      rintro e w2 ⟨rfl, hb2⟩
      have X6 := X6.later hb2
      have hg2 := hg1.later hb2
      have hs2 := hs1.later hb2
      have hJ2 := Lib.hid (HJ.out _ _ _ hJ1.out (hb2.mono hb1.size))
      have hb3 := hb1.trans (hb2.mono (Nat.le_trans hDW hb1.size))
      obtain ⟨t0, t1, t2, t3, t4, t5⟩ := t
      have hbT := (Below.refl w2.heap.size w2).alloc (Nat.le_refl _) (.cells #[.int .i64 t0, .int .i64 t1, .int .i64 t2, .int .i64 t3, .int .i64 t4, .int .i64 t5] 30)
      have X6 := X6.alloc (.cells #[.int .i64 t0, .int .i64 t1, .int .i64 t2, .int .i64 t3, .int .i64 t4, .int .i64 t5] 30)
      have hg3 := hg2.alloc (.cells #[.int .i64 t0, .int .i64 t1, .int .i64 t2, .int .i64 t3, .int .i64 t4, .int .i64 t5] 30)
      have hs3 := hs2.alloc (.cells #[.int .i64 t0, .int .i64 t1, .int .i64 t2, .int .i64 t3, .int .i64 t4, .int .i64 t5] 30)
      have hJ3 := Lib.hid (HJ.out _ _ _ hJ2.out (hbT.mono (Nat.le_trans hb1.size hb2.size)))
      have hb4 := hb3.trans (hbT.mono (Nat.le_trans hDW hb3.size))
      clear hg1 hs1 hJ1 hb1 hz6 hg2 hs2 hJ2 hbT hb2 hb3
      have hz6 := X6.lt
      have x60 : (w2.alloc (.cells #[.int .i64 t0, .int .i64 t1, .int .i64 t2, .int .i64 t3, .int .i64 t4, .int .i64 t5] 30)).cell? ⟨S6, 0, none⟩ = some (.int .i64 (f : Int)) := X6.cell 0
      have x61 : (w2.alloc (.cells #[.int .i64 t0, .int .i64 t1, .int .i64 t2, .int .i64 t3, .int .i64 t4, .int .i64 t5] 30)).cell? ⟨S6, 1, none⟩ = some (.int .i64 ((m : Int) - 1)) := X6.cell 1
      have hlen : p.nexts c s (f * nm + m) ++ [(⟨(f : Int), (m : Int) - 1⟩, ⟨t0, t1, t2, t3, t4, t5⟩)] <+: p.nexts c s (nf * nm) := by
        rw [← HNX.out]
        refine nexts_pre p c s ?_
        have h2 := Nat.mul_le_mul_right nm (show f + 1 ≤ nf by omega)
        rw [Nat.add_mul, Nat.one_mul] at h2
        omega
      obtain ⟨f0, q0, a0, c0, hy0, hR0⟩ := HY.out _ (⟨(f : Int), (m : Int) - 1⟩, ⟨t0, t1, t2, t3, t4, t5⟩) _ hJ3.out (by rw [HNF.out, HNM.out]; exact hlen)
      rw [← HNX.out] at hR0
      simp only [St.v, Sh.v] at hy0
      gi_wp2_with fail
      refine ⟨(fun h => by cases h), hR0.mono ?_⟩
      rintro e W2 (⟨rfl, hJ4, hK⟩ | ⟨rfl, hx⟩)
      rotate_left
      · gi_wp2
        refine bodyPost_ret (results_none rfl _ _ _) rfl ?_
        refine ⟨⟨_, rfl⟩, .inr ⟨_, nexts_pre p c s ?_, hx⟩⟩
        have h2 := Nat.mul_le_mul_right nm (show f + 1 ≤ nf by omega)
        rw [Nat.add_mul, Nat.one_mul] at h2
        omega
      have hg := hK.box hg3 hRg
      have hs := hK.box hs3 hRs
      have hb := hb4.trans hK.low
      clear hR0 hy0 hJ3 hK hg3 hs3 hb4 x60 x61
      gi_wp2
      refine ⟨⟨m + 1, by omega, by go_num, hb, hg, hs, ?_⟩, by simp [intOf]; omega⟩
      rw [← Nat.add_assoc]
      exact Lib.hid hJ4
end Go.Proofs.Ytancngachnpefaa
namespace Go.Proofs.Ytancngachnpefaa
open Go.RowKit Go.Shelf
end Go.Proofs.Ytancngachnpefaa
namespace Go.Proofs.Ytancngachnpefaa
open Go.RowKit
def OwnE {α : Type} (enc : α → List Value) (size : Nat) (w : World) (base e : Nat) (V : Value) (l : List α) : Prop := w.ownsRow base e size V l.length (l.flatMap enc)
section
variable {α : Type} {enc : α → List Value} {size : Nat} {w w' : World} {base t e : Nat} {V : Value} {l : List α}
theorem ownE_nil (enc : α → List Value) (size : Nat) (w : World) (base e : Nat) : OwnE enc size w base e (.slice none 0 0) ([] : List α) := ⟨by simp, .inl ⟨rfl, rfl⟩⟩
theorem OwnE.later (h : OwnE enc size w base e V l) (hb : Below w.heap.size w w') : OwnE enc size w' base e V l :=
  World.ownsRow.kept h (row := none) ⟨hb.os, hb.tape, hb.output, hb.size, fun i hi _ => hb.block i hi⟩ (by rcases V.ownBlock with _ | _ <;> simp)
theorem OwnE.set (h : OwnE enc size w base e V l) {a : Addr} (ha : a.block < base) (u : Value) : OwnE enc size (w.setCell a u) base e V l := by
  refine World.ownsRow.kept h (row := some a.block) ⟨rfl, rfl, rfl, by simp, fun i _ hi => Below.heap_setCell w a u i (fun e => hi (by rw [e]))⟩ ?_
  refine .inr fun hk => ?_
  have := World.ownsRow.lt h _ hk
  omega
theorem OwnE.drew (h : OwnE enc size w base e V l) : OwnE enc size w.drew base e V l := h.later ((Below.refl _ _).drew)
theorem flatMap_at {enc : α → List Value} {size : Nat} (hs : ∀ x, (enc x).length = size) : ∀ (l : List α) (k j : Nat) (hk : k < l.length), j < size → (l.flatMap enc)[k * size + j]? = (enc l[k])[j]?
  | [], k, _, hk, _ => absurd hk (Nat.not_lt_zero k)
  | x :: l, 0, j, _, hj => by
    rw [List.flatMap_cons, Nat.zero_mul, Nat.zero_add, List.getElem?_append_left (by rw [hs]; exact hj)]
    rfl
  | x :: l, k + 1, j, hk, hj => by
    rw [List.flatMap_cons, List.getElem?_append_right (by rw [hs, Nat.add_mul]; omega), hs, show (k + 1) * size + j - size = k * size + j by rw [Nat.add_mul]; omega]
    exact flatMap_at hs l k j (by simpa using hk) hj
theorem OwnE.sl (h : OwnE enc size w base e V l) (hs : ∀ x, (enc x).length = size) : ∃ A c, V = .slice A l.length c ∧ ∀ k (hk : k < l.length), ∃ b, A = some ⟨b, 0, none⟩ ∧ base ≤ b ∧ b < w.heap.size ∧ ∀ j, j < size → w.cell? ⟨b, k * size + j, none⟩ = (enc l[k])[j]? := by
  have hc := h.2
  rcases hc with ⟨rfl, hl⟩ | ⟨b, cap, cur, hv, hb, hg, hcap, hcm, _⟩
  · exact ⟨none, 0, by rw [hl], fun k hk => by omega⟩
  · refine ⟨some ⟨b, 0, none⟩, cap, hv, fun k hk => ⟨b, rfl, hb, (Array.getElem?_eq_some_iff.1 hg).1, fun j hj => ?_⟩⟩
    have e1 := flatMap_at hs l k j hk hj
    have hlt : j < (enc l[k]).length := by rw [hs]; exact hj
    rw [List.getElem?_eq_getElem hlt] at e1 ⊢
    have := World.ownsRow.cells h (g := b) (by rw [hv]; rfl) _ _ e1
    rw [add_at, Nat.zero_add] at this
    exact this
theorem OwnE.grown {B : Nat} {a : World} (h : OwnE enc size w base e V l) (hg : w.grownBy w' V.ownBlock) (hB : B ≤ base) (hb : Below B a w) (hs : B ≤ w.heap.size) : Below B a w' :=
  hb.grown hg hs (fun k hk => by have := World.ownsRow.lt h k hk; omega)
theorem box_grown {b : Nat} {xs : List Value} (h : OwnE enc size w base e V l) (hg : w.grownBy w' V.ownBlock) (hx : Box w b xs) (hb : b < base) : Box w' b xs := by
  obtain ⟨t, ht⟩ := hx
  refine ⟨t, (hg.block b (Array.getElem?_eq_some_iff.1 ht).1 (fun e => ?_)).trans ht⟩
  have := World.ownsRow.lt h b e.symm
  omega
theorem run_appE {i : TypeInfo} {z : Value} {bytes : Nat} (E : Elem t e i z size bytes) (hs : ∀ x, (enc x).length = size) (h1 : ∀ x, ∀ u ∈ enc x, u.oneCell' = true) (hby : bytes ≤ 1000) (x : α) {g : Nat} (ty : TypeId) (ho : OwnE enc size w base e V l) (hx : Box w g (enc x)) (hbase : base ≤ w.heap.size) (hl : l.length ≤ 1048576) :
    ∃ g' c' w', (appF #[t, t] ty #[V, .slice (some ⟨g, 0, none⟩) 1 1]).run Try.prog w = .ok (.slice (some ⟨g', 0, none⟩) (l.length + 1) c') w' ∧ OwnE enc size w' base e (.slice (some ⟨g', 0, none⟩) (l.length + 1) c') (l ++ [x]) ∧ w.grownBy w' V.ownBlock := by
  obtain ⟨v', w', hr, h3, h2, _, _⟩ := run_append_own_at (P := Try.prog) w base t ty e i _ size bytes E.ht E.hi E.hz E.hsize E.hby E.hzs E.hsz _ _ _ ho ⟨g, 0, none⟩ 1 1 (enc x) (by rw [hs, Nat.one_mul])
    (fun j u hu => by
      rw [add_at, Nat.zero_add, hx.cell j]
      exact hu)
    (h1 x) (by simp only [maxLen]; omega) (by have := Nat.mul_le_mul_left (l.length + 1) hby; omega) hbase
  have h5 := h3.2
  rcases h5 with ⟨_, h6⟩ | ⟨g', cap, cur, hv, _⟩
  · omega
  · subst hv
    refine ⟨g', cap, w', hr, ?_, h2⟩
    rw [OwnE, List.length_append, List.flatMap_append]
    simpa using h3
end
end Go.Proofs.Ytancngachnpefaa
namespace Go.Proofs.Ytancngachnpefaa
open Go.RowKit Go.Shelf
theorem yieldAt_roundN {α : Type} {F : Fence} {n : Nat} {P : Program} {B l D' : Nat} {Kp : World → World → Prop} (hKt : ∀ A B C : World, Kp A B → Kp B C → Kp A C) (hKb : ∀ (W : World) (l : Nat) (o o' : Obj), B ≤ l → W.heap[l]? = some o → o.isCells = false → Kp W (W.putObj l o')) (hB : B ≤ l) {fn : FuncId} {tmps : Array Value} {ps : Array Tmp} {assign body : Code} (hfn : F.fn fn)
    {I : List α → World → Prop} {Ix : Code → List α → World → Prop} {xs : List α} {vs : Array Value} {Ax : Act → World → Prop} {W : World} {rec : LoopState → Option Code → Loop}
    (hrec : rec = fun st pe => { state := st, pending := pe, fn, tmps, params := ps, assign, body, defers := D' })
    (hI : ∀ A o r, A.heap[l]? = some (.loop r) → I xs A → I xs (A.putObj l o)) (hIx : ∀ c A o r, A.heap[l]? = some (.loop r) → Ix c xs A → Ix c xs (A.putObj l o)) (hvs : vs.size = ps.size)
    (hl : W.heap[l]? = some (.loop (rec .ready none)))
    (hassign : ∀ K : Act → World → Prop, (∀ a' W', KeepsFrom B W W' → Kp W W' → Ax a' W' → K a' W') → assign.wpIn (F.inRound l) n P (Exit.then K (fun _ _ _ => False)) { tmps := (ps.zip vs).foldl (fun t (p, v) => t.setIfInBounds p v) tmps, defers := [] } W)
    (hbody : ∀ a' A, Ax a' A → A.heap[l]? = some (.loop (rec .ready none)) → body.wpIn (F.inRound l) n P (ownPostG B Kp I Ix xs (A.putObj l (.loop { rec .ready none with state := .busy }))) a' (A.putObj l (.loop { rec .ready none with state := .busy }))) :
    YieldAt F n P l vs W fun e W' => (e = .returned (.bool true) ∧ (I xs W' ∧ W'.heap[l]? = some (.loop (rec .ready none)) ∧ ∀ k o, B ≤ k → k ≠ l → W.heap[k]? = some o → o.isCells = false → W'.heap[k]? = some o) ∧ Kp W W') ∨
      (e = .returned (.bool false) ∧ ∃ c, Ix c xs W' ∧ W'.heap[l]? = some (.loop (rec .done (some c))) ∧ ∀ k o, B ≤ k → k ≠ l → W.heap[k]? = some o → o.isCells = false → W'.heap[k]? = some o) := by
  have hy := run_yield (P := P) (args := vs) hl (by rw [hrec]; exact hvs)
  rw [hrec] at hy
  refine ⟨fn, _, assign, body, hy, roundIn_of_wpIn hfn (hassign _ ?_)⟩
  intro a' Wa hkf hkc hax
  have hla := hkf.same _ _ hB hl rfl
  have hlt : l < Wa.heap.size := (Array.getElem?_eq_some_iff.1 hla).1
  refine ⟨_, run_beginRound hla (by rw [hrec]), wpIn_mono (hbody a' Wa hax hla) ?_⟩
  have hl2 : (Wa.putObj l (.loop { rec .ready none with state := .busy })).heap[l]? = some (.loop { rec .ready none with state := .busy }) := World.putObj_heap_same hlt
  have hk2 : Kp W (Wa.putObj l (.loop { rec .ready none with state := .busy })) := hKt _ _ _ hkc (hKb _ _ _ _ hB hla rfl)
  have fin : ∀ (jump : Option Code) (W3 : World), KeepsFrom B (Wa.putObj l (.loop { rec .ready none with state := .busy })) W3 →
      (Instr.endRound l jump).run P W3 = .ok (.bool jump.isNone) (W3.putObj l (.loop (rec (if jump.isNone then .ready else .done) jump))) ∧
      W3.heap[l]? = some (.loop { rec .ready none with state := .busy }) ∧
      (W3.putObj l (.loop (rec (if jump.isNone then .ready else .done) jump))).heap[l]? = some (.loop (rec (if jump.isNone then .ready else .done) jump)) ∧
      (∀ k o, B ≤ k → k ≠ l → W.heap[k]? = some o → o.isCells = false → (W3.putObj l (.loop (rec (if jump.isNone then .ready else .done) jump))).heap[k]? = some o) := by
    intro jump W3 hk3
    have hl3 := hk3.same _ _ hB hl2 rfl
    have he := run_endRound (P := P) jump hl3
    rw [hrec] at he ⊢
    refine ⟨he, by rw [hrec] at hl3; exact hl3, World.putObj_heap_same (Array.getElem?_eq_some_iff.1 hl3).1, fun k o hk hkl ho hc => ?_⟩
    refine (World.putObj_heap_other hkl).trans (hk3.same k o hk ?_ hc)
    exact (World.putObj_heap_other hkl).trans (hkf.same k o hk ho hc)
  rintro e a3 W3 hp
  cases e with
  | normal =>
    obtain ⟨hk3, hkp3, hi3⟩ := hp
    obtain ⟨hr, hl3, hl4, hk4⟩ := fin none W3 hk3
    exact ⟨_, _, hr, .inl ⟨rfl, ⟨hI _ _ _ hl3 hi3, hl4, hk4⟩, hKt _ _ _ hk2 (hKt _ _ _ hkp3 (hKb _ _ _ _ hB hl3 rfl))⟩⟩
  | ret =>
    obtain ⟨hk3, hi3⟩ := hp
    obtain ⟨hr, hl3, hl4, hk4⟩ := fin (some .ret) W3 hk3
    exact ⟨_, _, hr, .inr ⟨rfl, .ret, hIx _ _ _ _ hl3 hi3, hl4, hk4⟩⟩
  | exit id =>
    obtain ⟨hk3, hi3⟩ := hp
    obtain ⟨hr, hl3, hl4, hk4⟩ := fin (some (.exit id)) W3 hk3
    exact ⟨_, _, hr, .inr ⟨rfl, .exit id, hIx _ _ _ _ hl3 hi3, hl4, hk4⟩⟩
  | goto t =>
    obtain ⟨hk3, hi3⟩ := hp
    obtain ⟨hr, hl3, hl4, hk4⟩ := fin (some (.goto t)) W3 hk3
    exact ⟨_, _, hr, .inr ⟨rfl, .goto t, hIx _ _ _ _ hl3 hi3, hl4, hk4⟩⟩
  | panic ch => exact hp.elim
  | outgrown => exact hp.elim
section
variable {α : Type} {enc : α → List Value} {size : Nat} {w w' : World} {base e : Nat} {V : Value} {l : List α}
theorem OwnE.cellsAt (h : OwnE enc size w base e V l) {k : Nat} (hk : V.ownBlock = some k) {o : Obj} (ho : w.heap[k]? = some o) : o.isCells = true := by
  rcases h.2 with ⟨rfl, _⟩ | ⟨b, cap, cur, rfl, _, hg, _⟩
  · cases hk
  · obtain rfl : b = k := Option.some.inj hk
    rw [hg] at ho
    cases ho
    rfl
theorem OwnE.record (h : OwnE enc size w base e V l) {k : Nat} {o : Obj} (hl : w.heap[k]? = some o) (hc : o.isCells = false) (o' : Obj) : OwnE enc size (w.putObj k o') base e V l := by
  refine World.ownsRow.kept h (row := some k) ⟨rfl, rfl, rfl, by simp, fun i _ hi => World.putObj_heap_other (fun e => hi (by rw [e]))⟩ ?_
  refine .inr fun hk => ?_
  have := OwnE.cellsAt h hk hl
  rw [hc] at this
  cases this
end
theorem run_app_op {o : Oper} {ev : Operand → Value} {t : TypeId} {x y : Operand} {vx vy v : Value} {w w' : World} (ho : o.op = .call { callee := .builtin .append, args := #[x, y], argTypes := #[t, t] }) (hty : o.type = t) (hx : ev x = vx) (hy : ev y = vy) (h : (appF #[t, t] t #[vx, vy]).run Try.prog w = .ok v w') : (execOp ev o).run Try.prog w = .ok (.value v) w' := by
  subst hty hx hy
  have e : execOp ev o = (do let d ← resolve ev { callee := .builtin .append, args := #[x, y], argTypes := #[o.type, o.type] } o.type; invoke d.target d.args) := by
    unfold execOp
    rw [ho]
  have e2 : resolve ev { callee := .builtin .append, args := #[x, y], argTypes := #[o.type, o.type] } o.type = pure { target := .builtin .append #[o.type, o.type] o.type (#[x, y].map fun | .const _ => true | _ => false), args := #[ev x, ev y] } := by
    simp [resolve]
    rfl
  rw [e, e2]
  have e3 : (do let d ← (pure { target := .builtin .append #[o.type, o.type] o.type (#[x, y].map fun | .const _ => true | _ => false), args := #[ev x, ev y] } : Sem Deferred); invoke d.target d.args) = builtin .append #[o.type, o.type] o.type (#[x, y].map fun | .const _ => true | _ => false) #[ev x, ev y] := rfl
  rw [e3, app_named]
  simp [go_sem, h]
end Go.Proofs.Ytancngachnpefaa
namespace Go.Proofs.Ytancngachnpefaa
open Go.RowKit Go.Shelf
def SeqO {α : Type} (F : Fence) (n : Nat) (P : Program) (g : Nat) (lb : Array Value) (encs : α → Array Value) (Kp : Nat → World → World → Prop) (Ow : Nat → Option Nat) (S Sp : List α → Prop) (T : List α → α → Prop) (w : World) : Prop :=
  ∀ (l : Nat) (J Jx : List α → World → Prop) (W : World), Below w.heap.size w W → (∀ s A B, J s A → A.grownBy B (Ow W.heap.size) → J s B) → (∀ s A B, Jx s A → A.grownBy B (Ow W.heap.size) → Jx s B) →
    (∀ pre x W1, J pre W1 → T pre x → YieldAt F (n - 1) P l (encs x) W1 fun e W' =>
      (e = .returned (.bool true) ∧ J (pre ++ [x]) W' ∧ Kp W.heap.size W1 W') ∨ (e = .returned (.bool false) ∧ Jx (pre ++ [x]) W')) →
    J [] W →
    CallsIn F n P g (#[.func (.yield l) #[] #[]] ++ lb) W fun e W' => (∃ v, e = .returned v) ∧ ((∃ xs, S xs ∧ J xs W') ∨ (∃ pre, Sp pre ∧ Jx pre W'))
theorem wpIn_rangeO_out {α : Type} {F : Fence} {n : Nat} {P : Program} {g : Operand} {ps : Array Tmp} {assign body : Code} {Q : Exit → Act → World → Prop} {a : Act} {w : World}
    (hro : F.round = none) (h1 : 1 ≤ n) {gf : Nat} {lb : Array Value} (hg : a.eval g = .func (.func gf) #[] lb) (hFg : F.fn gf) (eg : ∀ args w, (callFunc gf args).run P w = .ok (.enter gf args) w)
    {encs : α → Array Value} {Kpn : Nat → World → World → Prop} {Ow : Nat → Option Nat} {Kp : World → World → Prop} (hKe : Kpn (w.heap.size + 2) = Kp) (hOw : ∀ k, Ow (w.heap.size + 2) = some k → w.heap.size + 2 ≤ k) (hKt : ∀ A B C : World, Kp A B → Kp B C → Kp A C) (hKb : ∀ (W : World) (l : Nat) (o o' : Obj), w.heap.size ≤ l → W.heap[l]? = some o → o.isCells = false → Kp W (W.putObj l o')) {S Sp : List α → Prop} {T : List α → α → Prop} {w0 : World} (hseq : SeqO F (n - 1) P gf lb encs Kpn Ow S Sp T w0) (hb0 : Below w0.heap.size w0 w) (hps : ∀ x, (encs x).size = ps.size)
    (I : List α → World → Prop) (Ix : Code → List α → World → Prop) (hI : ∀ s A l o r, w.heap.size ≤ l → A.heap[l]? = some (.loop r) → I s A → I s (A.putObj l o)) (hIx : ∀ c s A l o r, w.heap.size ≤ l → A.heap[l]? = some (.loop r) → Ix c s A → Ix c s (A.putObj l o)) (hI2 : ∀ s A B, I s A → A.grownBy B (Ow (w.heap.size + 2)) → I s B) (hIx2 : ∀ c s A B, Ix c s A → A.grownBy B (Ow (w.heap.size + 2)) → Ix c s B) (h0 : ∀ W, Below w.heap.size w W → W.heap.size = w.heap.size + 2 → I [] W)
    (Ax : List α → α → Act → World → Prop) (hAx : ∀ pre x a' A l o o', w.heap.size ≤ l → A.heap[l]? = some o → o.isCells = false → Ax pre x a' A → Ax pre x a' (A.putObj l o'))
    (hassign : ∀ (l : Nat) (pre : List α) (x : α) (W : World) (K : Act → World → Prop), I pre W → T pre x → (∀ a' W', KeepsFrom w.heap.size W W' → Kp W W' → Ax pre x a' W' → K a' W') →
      assign.wpIn (F.inRound l) (n - 1 - 1) P (Exit.then K (fun _ _ _ => False)) { tmps := (ps.zip (encs x)).foldl (fun t (p, v) => t.setIfInBounds p v) a.tmps, defers := [] } W)
    (hbody : ∀ (l : Nat) (pre : List α) (x : α) (a' : Act) (W : World), w.heap.size ≤ l → (∃ r, W.heap[l]? = some (.loop r)) → Ax pre x a' W → body.wpIn (F.inRound l) (n - 1 - 1) P (ownPostG w.heap.size Kp I Ix (pre ++ [x]) W) a' W)
    (hdone : ∀ (E : Nat) (xs : List α) (W : World), w.heap.size ≤ E → S xs → I xs W → W.heap[E]? = some (.deferred (some [])) → Q .normal { a with defers := { target := .collected E, args := #[] } :: a.defers } W)
    (hstop : ∀ (E : Nat) (c : Code) (pre : List α) (W : World), w.heap.size ≤ E → Sp pre → Ix c pre W → W.heap[E]? = some (.deferred (some [])) → c.wpIn F n P Q { a with defers := { target := .collected E, args := #[] } :: a.defers } W) :
    (Code.rangeFunc g ps assign body).wpIn F n P Q a w := by
  refine wpIn_rangeFunc ?_
  intro fn hfn
  rw [hro]
  obtain ⟨rec, hrec⟩ : ∃ rec : LoopState → Option Code → Loop, rec = fun st pe => { state := st, pending := pe, fn, tmps := a.tmps, params := ps, assign, body, defers := w.heap.size } := ⟨_, rfl⟩
  obtain ⟨W1, hW1⟩ : ∃ W1, (w.alloc (.deferred (some []))).alloc (.loop (rec .ready none)) = W1 := ⟨_, rfl⟩
  have hL1 : W1.heap[w.heap.size + 1]? = some (.loop (rec .ready none)) := by
    rw [← hW1]; have := World.alloc_heap_new (w.alloc (.deferred (some []))) (.loop (rec .ready none)); rwa [World.size_alloc] at this
  have hK1 : W1.heap[w.heap.size]? = some (.deferred (some [])) := by
    rw [← hW1]; exact (Below.heap_alloc _ _ _ (by simp)).trans (World.alloc_heap_new w _)
  have hb1 : Below w.heap.size w W1 := by
    rw [← hW1]; exact ((Below.refl _ w).alloc (Nat.le_refl _) _).alloc (by simp) _
  have hs1 : w.heap.size + 1 < W1.heap.size := (Array.getElem?_eq_some_iff.1 hL1).1
  have hz1 : W1.heap.size = w.heap.size + 2 := by rw [← hW1]; simp
  refine ⟨w.heap.size + 1, [{ target := .collected w.heap.size, args := #[] }], W1, { target := .fn (.func gf) lb, args := #[.func (.yield (w.heap.size + 1)) #[] #[]] }, W1, gf,
    #[.func (.yield (w.heap.size + 1)) #[] #[]] ++ lb, W1, ?_, ?_, ?_, ?_, fun _ => h1, ?_⟩
  · rw [← hW1, hrec]; exact run_enterLoop_outer _ _ _ _ _
  · simp only [resolve, hg]
    simp [go_sem]
  · intro f' hf'; simp [Target.leads] at hf'; subst hf'; exact hFg
  · simp [invoke, go_sem, eg]
  · refine (hseq (w.heap.size + 1)
      (fun pre W => I pre W ∧ W.heap[w.heap.size + 1]? = some (.loop (rec .ready none)) ∧ W.heap[w.heap.size]? = some (.deferred (some [])))
      (fun pre W => ∃ c, Ix c pre W ∧ W.heap[w.heap.size + 1]? = some (.loop (rec .done (some c))) ∧ W.heap[w.heap.size]? = some (.deferred (some [])))
      W1 (hb0.trans (hb1.mono hb0.size)) ?_ ?_ ?_ ⟨h0 _ hb1 hz1, hL1, hK1⟩).mono ?_
    · rintro s A B ⟨h1, h2, h3⟩ hb
      rw [hz1] at hb
      exact ⟨hI2 _ _ _ h1 hb, (hb.block _ (Array.getElem?_eq_some_iff.1 h2).1 (fun e => by have := hOw _ e.symm; omega)).trans h2, (hb.block _ (Array.getElem?_eq_some_iff.1 h3).1 (fun e => by have := hOw _ e.symm; omega)).trans h3⟩
    · rintro s A B ⟨c, h1, h2, h3⟩ hb
      rw [hz1] at hb
      exact ⟨c, hIx2 _ _ _ _ h1 hb, (hb.block _ (Array.getElem?_eq_some_iff.1 h2).1 (fun e => by have := hOw _ e.symm; omega)).trans h2, (hb.block _ (Array.getElem?_eq_some_iff.1 h3).1 (fun e => by have := hOw _ e.symm; omega)).trans h3⟩
    · rintro pre x W ⟨hi, hl, hk⟩ hlen
      rw [hz1, hKe]
      refine (yieldAt_roundN (Ax := Ax pre x) (I := I) (Ix := Ix) (xs := pre ++ [x]) (D' := w.heap.size) hKt hKb (Nat.le_succ _) hfn hrec (fun A o r hr h => hI _ _ _ _ _ (Nat.le_succ _) hr h) (fun c A o r hr h => hIx _ _ _ _ _ _ (Nat.le_succ _) hr h) (hps x) hl
        (fun K hK => hassign _ pre x W K hi hlen hK) (fun a' A hax hla => hbody _ pre x a' _ (Nat.le_succ _) ⟨_, World.putObj_heap_same (Array.getElem?_eq_some_iff.1 hla).1⟩ (hAx _ _ _ _ _ _ _ (Nat.le_succ _) hla rfl hax))).mono ?_
      rintro e W' (⟨rfl, ⟨h1, h2, h3⟩, h4⟩ | ⟨rfl, c, h1, h2, h3⟩)
      · exact .inl ⟨rfl, ⟨h1, h2, h3 _ _ (Nat.le_refl _) (by omega) hk rfl⟩, h4⟩
      · exact .inr ⟨rfl, c, h1, h2, h3 _ _ (Nat.le_refl _) (by omega) hk rfl⟩
    · rintro e W2 ⟨⟨v, rfl⟩, (⟨xs, hS, hi, hl, hk⟩ | ⟨pre, hSp, c, hi, hl, hk⟩)⟩
      · exact ⟨none, _, by have := run_endLoop (P := P) hl (by rw [hrec]; simp); rw [hrec] at this; exact this, hdone _ xs _ (Nat.le_refl _) hS (hI _ _ _ _ _ (Nat.le_succ _) hl hi) ((World.putObj_heap_other (by omega)).trans hk)⟩
      · exact ⟨some c, _, by have := run_endLoop (P := P) hl (by rw [hrec]; simp); rw [hrec] at this; exact this, hstop _ c pre _ (Nat.le_refl _) hSp (hIx _ _ _ _ _ _ (Nat.le_succ _) hl hi) ((World.putObj_heap_other (by omega)).trans hk)⟩
theorem wpIn_rangeO_in {α : Type} {F : Fence} {n : Nat} {P : Program} {g : Operand} {ps : Array Tmp} {assign body : Code} {Q : Exit → Act → World → Prop} {a : Act} {w : World}
    {l₀ : Nat} {r₀ : Loop} (hro : F.round = some l₀) (hl₀ : w.heap[l₀]? = some (.loop r₀)) (h1 : 1 ≤ n) {gf : Nat} {lb : Array Value} (hg : a.eval g = .func (.func gf) #[] lb) (hFg : F.fn gf) (eg : ∀ args w, (callFunc gf args).run P w = .ok (.enter gf args) w)
    {encs : α → Array Value} {Kpn : Nat → World → World → Prop} {Ow : Nat → Option Nat} {Kp : World → World → Prop} (hKe : Kpn (w.heap.size + 1) = Kp) (hOw : ∀ k, Ow (w.heap.size + 1) = some k → w.heap.size + 1 ≤ k) (hKt : ∀ A B C : World, Kp A B → Kp B C → Kp A C) (hKb : ∀ (W : World) (l : Nat) (o o' : Obj), w.heap.size ≤ l → W.heap[l]? = some o → o.isCells = false → Kp W (W.putObj l o')) {S Sp : List α → Prop} {T : List α → α → Prop} {w0 : World} (hseq : SeqO F (n - 1) P gf lb encs Kpn Ow S Sp T w0) (hb0 : Below w0.heap.size w0 w) (hps : ∀ x, (encs x).size = ps.size)
    (I : List α → World → Prop) (Ix : Code → List α → World → Prop) (hI : ∀ s A l o r, w.heap.size ≤ l → A.heap[l]? = some (.loop r) → I s A → I s (A.putObj l o)) (hIx : ∀ c s A l o r, w.heap.size ≤ l → A.heap[l]? = some (.loop r) → Ix c s A → Ix c s (A.putObj l o)) (hI2 : ∀ s A B, I s A → A.grownBy B (Ow (w.heap.size + 1)) → I s B) (hIx2 : ∀ c s A B, Ix c s A → A.grownBy B (Ow (w.heap.size + 1)) → Ix c s B) (h0 : ∀ W, Below w.heap.size w W → W.heap.size = w.heap.size + 1 → I [] W)
    (Ax : List α → α → Act → World → Prop) (hAx : ∀ pre x a' A l o o', w.heap.size ≤ l → A.heap[l]? = some o → o.isCells = false → Ax pre x a' A → Ax pre x a' (A.putObj l o'))
    (hassign : ∀ (l : Nat) (pre : List α) (x : α) (W : World) (K : Act → World → Prop), I pre W → T pre x → (∀ a' W', KeepsFrom w.heap.size W W' → Kp W W' → Ax pre x a' W' → K a' W') →
      assign.wpIn (F.inRound l) (n - 1 - 1) P (Exit.then K (fun _ _ _ => False)) { tmps := (ps.zip (encs x)).foldl (fun t (p, v) => t.setIfInBounds p v) a.tmps, defers := [] } W)
    (hbody : ∀ (l : Nat) (pre : List α) (x : α) (a' : Act) (W : World), w.heap.size ≤ l → (∃ r, W.heap[l]? = some (.loop r)) → Ax pre x a' W → body.wpIn (F.inRound l) (n - 1 - 1) P (ownPostG w.heap.size Kp I Ix (pre ++ [x]) W) a' W)
    (hdone : ∀ (xs : List α) (W : World), S xs → I xs W → Q .normal a W)
    (hstop : ∀ (c : Code) (pre : List α) (W : World), Sp pre → Ix c pre W → c.wpIn F n P Q a W) :
    (Code.rangeFunc g ps assign body).wpIn F n P Q a w := by
  refine wpIn_rangeFunc ?_
  intro fn hfn
  rw [hro]
  obtain ⟨rec, hrec⟩ : ∃ rec : LoopState → Option Code → Loop, rec = fun st pe => { state := st, pending := pe, fn, tmps := a.tmps, params := ps, assign, body, defers := r₀.defers } := ⟨_, rfl⟩
  obtain ⟨W1, hW1⟩ : ∃ W1, w.alloc (.loop (rec .ready none)) = W1 := ⟨_, rfl⟩
  have hL1 : W1.heap[w.heap.size]? = some (.loop (rec .ready none)) := by rw [← hW1]; exact World.alloc_heap_new w _
  have hb1 : Below w.heap.size w W1 := by rw [← hW1]; exact (Below.refl _ w).alloc (Nat.le_refl _) _
  have hz1 : W1.heap.size = w.heap.size + 1 := by rw [← hW1]; simp
  refine ⟨w.heap.size, [], W1, { target := .fn (.func gf) lb, args := #[.func (.yield w.heap.size) #[] #[]] }, W1, gf,
    #[.func (.yield w.heap.size) #[] #[]] ++ lb, W1, ?_, ?_, ?_, ?_, fun _ => h1, ?_⟩
  · rw [← hW1, hrec]; exact run_enterLoop_inner hl₀ _ _ _ _ _
  · simp only [resolve, hg]
    simp [go_sem]
  · intro f' hf'; simp [Target.leads] at hf'; subst hf'; exact hFg
  · simp [invoke, go_sem, eg]
  · refine (hseq w.heap.size
      (fun pre W => I pre W ∧ W.heap[w.heap.size]? = some (.loop (rec .ready none)))
      (fun pre W => ∃ c, Ix c pre W ∧ W.heap[w.heap.size]? = some (.loop (rec .done (some c))))
      W1 (hb0.trans (hb1.mono hb0.size)) ?_ ?_ ?_ ⟨h0 _ hb1 hz1, hL1⟩).mono ?_
    · rintro s A B ⟨h1, h2⟩ hb
      rw [hz1] at hb
      exact ⟨hI2 _ _ _ h1 hb, (hb.block _ (Array.getElem?_eq_some_iff.1 h2).1 (fun e => by have := hOw _ e.symm; omega)).trans h2⟩
    · rintro s A B ⟨c, h1, h2⟩ hb
      rw [hz1] at hb
      exact ⟨c, hIx2 _ _ _ _ h1 hb, (hb.block _ (Array.getElem?_eq_some_iff.1 h2).1 (fun e => by have := hOw _ e.symm; omega)).trans h2⟩
    · rintro pre x W ⟨hi, hl⟩ hlen
      rw [hz1, hKe]
      refine (yieldAt_roundN (Ax := Ax pre x) (I := I) (Ix := Ix) (xs := pre ++ [x]) (D' := r₀.defers) hKt hKb (Nat.le_refl _) hfn hrec (fun A o r hr h => hI _ _ _ _ _ (Nat.le_refl _) hr h) (fun c A o r hr h => hIx _ _ _ _ _ _ (Nat.le_refl _) hr h) (hps x) hl
        (fun K hK => hassign _ pre x W K hi hlen hK) (fun a' A hax hla => hbody _ pre x a' _ (Nat.le_refl _) ⟨_, World.putObj_heap_same (Array.getElem?_eq_some_iff.1 hla).1⟩ (hAx _ _ _ _ _ _ _ (Nat.le_refl _) hla rfl hax))).mono ?_
      rintro e W' (⟨rfl, ⟨h1, h2, _⟩, h4⟩ | ⟨rfl, c, h1, h2, _⟩)
      · exact .inl ⟨rfl, ⟨h1, h2⟩, h4⟩
      · exact .inr ⟨rfl, c, h1, h2⟩
    · rintro e W2 ⟨⟨v, rfl⟩, (⟨xs, hS, hi, hl⟩ | ⟨pre, hSp, c, hi, hl⟩)⟩
      · exact ⟨none, _, by have := run_endLoop (P := P) hl (by rw [hrec]; simp); rw [hrec] at this; exact this, hdone xs _ hS (hI _ _ _ _ _ (Nat.le_refl _) hl hi)⟩
      · exact ⟨some c, _, by have := run_endLoop (P := P) hl (by rw [hrec]; simp); rw [hrec] at this; exact this, hstop c pre _ hSp (hIx _ _ _ _ _ _ (Nat.le_refl _) hl hi)⟩
end Go.Proofs.Ytancngachnpefaa
