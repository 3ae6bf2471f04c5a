/- What the iterator states of package barrier promises. (Printed by gen_bm.py.) No condition. -/
import Derived.Test.YtmbifmmkccghfaaGreatQK
import Derived.Test.YtmbifmmkccghfaaGreatQR
import Derived.Test.YtmbifmmkccghfaaGreatQBG
import Derived.Test.YtmbifmmkccghfaaGreatQAC
import Derived.Laws.CopyRow
import Derived.Laws.IdiomCopy
set_option linter.unusedVariables false
set_option linter.unusedSimpArgs false
set_option maxRecDepth 100000
set_option maxHeartbeats 4000000
namespace Go.Proofs.YtmbifmmkccghfaaGreat
open Go.RowKit Go.Shelf
attribute [local go_sem] Oper.semAt_some
theorem small6 {p : Pl} (hv : p.Valid) {x0 x1 x2 x3 x4 x5 : Int} (h : (0 ≤ x0 ∧ x0 ≤ p.top) ∧ (0 ≤ x1 ∧ x1 ≤ p.positions) ∧ (0 ≤ x2 ∧ x2 ≤ if 0 < p.pipe then p.feed else 0) ∧ (0 ≤ x3 ∧ x3 ≤ if 1 < p.pipe then p.feed else 0) ∧ (0 ≤ x4 ∧ x4 ≤ p.orders) ∧ 0 ≤ x5 ∧ x5 ≤ p.age) :
    (0 ≤ x0 ∧ x0 ≤ 63) ∧ (0 ≤ x1 ∧ x1 ≤ 63) ∧ (0 ≤ x2 ∧ x2 ≤ 63) ∧ (0 ≤ x3 ∧ x3 ≤ 63) ∧ (0 ≤ x4 ∧ x4 ≤ 63) ∧ 0 ≤ x5 ∧ x5 ≤ 63 := by
  have h1 := hv.positions
  have h2 := hv.top
  have h3 := hv.orders
  have h4 := hv.age
  have h5 := hv.feed
  obtain ⟨a, b, c, d, e, f⟩ := h
  refine ⟨by omega, by omega, ?_, ?_, by omega, by omega⟩
  · split at c <;> omega
  · split at d <;> omega
theorem last_max {n q t : Nat} (hn : 0 < n) (h : q + 1 = t * n) : q % n = n - 1 ∧ q / n + 1 = t := by
  have h0 : (q + 1) % n = 0 := by rw [h]; exact Nat.mul_mod_left t n
  have h1 : (q + 1) / n = t := by rw [h]; exact Nat.mul_div_left t hn
  rcases mod_step (q := q) hn with ⟨_, h2, _⟩ | ⟨h2, _, h3⟩
  · omega
  · exact ⟨h2, by omega⟩
theorem stAt_end {p : Pl} (hv : p.Valid) {k : Nat} (h : k + 1 = p.count) : (p.stAt k).age = p.age ∧ (p.stAt k).order = p.orders ∧ (p.stAt k).p1 = p.m1 ∧ (p.stAt k).p0 = p.m0 ∧ (p.stAt k).position = p.positions ∧ (p.stAt k).level = p.top := by
  obtain ⟨a, b, c, d, e⟩ := hv.ns
  obtain ⟨m1, m2⟩ := hv.maxes
  have h1 := hv.positions
  have h2 := hv.top
  have h3 := hv.orders
  have h4 := hv.age
  have e0 : (p.n0 : Int) = p.positions + 1 := by unfold Pl.n0; omega
  have e1 : (p.no : Int) = p.orders + 1 := by unfold Pl.no; omega
  have e2 : (p.na : Int) = p.age + 1 := by unfold Pl.na; omega
  change (p.nx : Int) - 1 = p.m0 at m1
  change (p.ny : Int) - 1 = p.m1 at m2
  have hc : p.count = (((((p.top + 1).toNat * p.n0) * p.nx) * p.ny) * p.no) * p.na := by unfold Pl.count; simp only [Nat.mul_assoc]
  obtain ⟨r5, s5⟩ := last_max e (h.trans hc)
  obtain ⟨r4, s4⟩ := last_max d s5
  obtain ⟨r3, s3⟩ := last_max c s4
  obtain ⟨r2, s2⟩ := last_max b s3
  obtain ⟨r1, s1⟩ := last_max a s2
  rw [stAt_q]
  dsimp only
  refine ⟨?_, ?_, ?_, ?_, ?_, ?_⟩ <;> omega
theorem states_seq (n : Nat) (p : Pl) (hv : Hid p.Valid) (Bm : Nat) (w : World) (D : Nat) (R : Nat → Prop) (hm : Box w Bm (mostL p)) (hRm : ¬ R Bm) (hRw : Hid (∀ b, R b → b < w.heap.size)) :
    SeqB Fence.wide n Tryz.prog 49 #[.pointer (some ⟨Bm, 0, none⟩)] (fun x : St => #[x.v]) (KeepsC D R) (fun xs => xs = p.states) (fun pre => pre <+: p.states) (fun pre x => pre ++ [x] <+: p.states) w := fun l J Jx W hW hJ hJx hY h0 => by
  have HY := Lib.hid hY
  have HJ := Lib.hid hJ
  have HJx := Lib.hid hJx
  clear hY hJ hJx
  have hm := hm.later hW
  have hRa : ¬ R W.heap.size := fun h => by have := hRw.out _ h; have := hW.size; omega
  have hml := hm.lt
  have hne : Bm ≠ W.heap.size := Nat.ne_of_lt hml
  have hCP := Lib.hid (count_pos hv.out)
  refine callsIn_of_wp Tryz.func49 rfl trivial ?_ rfl
  simp only [Tryz.ntmps49, List.size_toArray, List.length_cons, List.length_nil, Nat.reduceAdd, Nat.reduceSub, Array.replicate_succ, Array.replicate_zero, List.push_toArray, List.append_toArray, List.nil_append, List.cons_append]
  refine wpIn_wide.2 ?_
  go_wp2_with fail
  have hbA := (Below.refl W.heap.size W).alloc (Nat.le_refl _) (.cells #[.int .i64 0, .int .i64 0, .int .i64 0, .int .i64 0, .int .i64 0, .int .i64 0] 122)
  have Y0 := Box.new W [.int .i64 0, .int .i64 0, .int .i64 0, .int .i64 0, .int .i64 0, .int .i64 0] 122
  have M0 := hm.alloc (.cells #[.int .i64 0, .int .i64 0, .int .i64 0, .int .i64 0, .int .i64 0, .int .i64 0] 122)
  have J0 := HJ.out _ _ _ h0 hbA
  generalize W.alloc (.cells #[.int .i64 0, .int .i64 0, .int .i64 0, .int .i64 0, .int .i64 0, .int .i64 0] 122) = W1 at hbA Y0 M0 J0 ⊢
  go_loopg [] p.count (fun g wr => ∃ k : Nat, k + g = p.count ∧ 0 < g ∧ Box wr W.heap.size (p.stAt k).cells ∧ Box wr Bm (mostL p) ∧ J ((List.range k).map p.stAt) wr)
  case atStart =>
    refine ⟨0, by omega, hCP.out, ?_, M0, J0⟩
    rw [stAt_zero]
    exact Y0
  case round =>
    obtain ⟨k, hkg, hg0, Y, M, hJ0⟩ := hrel
    clear Y0 M0 J0 hbA hm
    obtain ⟨wo, rfl⟩ : ∃ wo : World, wo = wr := ⟨_, rfl⟩
    obtain ⟨G, rfl⟩ : ∃ G, G = gk := ⟨_, rfl⟩
    have hkc : k < p.count := by omega
    have hsucc := Lib.hid (stAt_succ hv.out k)
    have hlast := Lib.hid (stAt_last hv.out hkc)
    obtain ⟨f0, t0, a0, c0, hy0, hR0⟩ := HY.out _ (p.stAt k) wo hJ0 (by rw [← states_take]; exact List.IsPrefix.map _ (by rw [List.prefix_iff_eq_take, List.length_range, List.take_range]; congr 1; omega))
    have HT := Lib.hid (states_take p k)
    rw [← HT.out] at hR0
    obtain ⟨y, hy⟩ : ∃ y, p.stAt k = y := ⟨_, rfl⟩
    rw [hy] at Y hy0 hsucc hlast
    obtain ⟨x0, x1, x2, x3, x4, x5⟩ := y
    simp only [St.v] at hy0
    have hbd := Pl.hasB_bd (stAt_has hv.out hkc)
    rw [hy] at hbd
    dsimp only at hbd
    have HB := Lib.hid (small6 hv.out hbd)
    have HS := Lib.hid hy
    clear hy hbd
    have hal := Y.lt
    obtain ⟨Yc0, Yc1, Yc2, Yc3, Yc4, Yc5⟩ := Y.c6
    refine (wpIn_wide (n := n)).1 ?_
    gi_wp2_with fail
    refine ⟨(fun h => by cases h), hR0.mono ?_⟩
    rintro e W2 (⟨rfl, hJ3, hK⟩ | ⟨rfl, hx⟩)
    rotate_left
    · gi_wp2
      refine bodyPost_ret (results_none rfl _ _ _) rfl ?_
      refine ⟨⟨_, rfl⟩, .inr ⟨_, ?_, hx⟩⟩
      show List.map _ _ <+: List.map _ _
      exact List.IsPrefix.map _ (by rw [List.prefix_iff_eq_take, List.length_range, List.take_range]; congr 1; omega)
    have Y := hK.box Y hRa
    have M := hK.box M hRm
    have hal := Nat.lt_of_lt_of_le hal hK.size
    clear hR0 hy0 hJ0 hK Yc0 Yc1 Yc2 Yc3 Yc4 Yc5 hml
    have hml := M.lt
    gi_wp2_with fail
    refine wpIn_wide.2 ?_
    go_loopw [4] (fun i wr => Below W.heap.size W2 wr ∧ Box wr Bm (mostL p) ∧ ((i = .int .i64 (5) ∧ Box wr W.heap.size [.int .i64 x0, .int .i64 x1, .int .i64 x2, .int .i64 x3, .int .i64 x4, .int .i64 x5]) ∨ (i = .int .i64 (4) ∧ x5 = p.age ∧ Box wr W.heap.size [.int .i64 x0, .int .i64 x1, .int .i64 x2, .int .i64 x3, .int .i64 x4, .int .i64 0]) ∨ (i = .int .i64 (3) ∧ x5 = p.age ∧ x4 = p.orders ∧ Box wr W.heap.size [.int .i64 x0, .int .i64 x1, .int .i64 x2, .int .i64 x3, .int .i64 0, .int .i64 0]) ∨ (i = .int .i64 (2) ∧ x5 = p.age ∧ x4 = p.orders ∧ x3 = p.m1 ∧ Box wr W.heap.size [.int .i64 x0, .int .i64 x1, .int .i64 x2, .int .i64 0, .int .i64 0, .int .i64 0]) ∨ (i = .int .i64 (1) ∧ x5 = p.age ∧ x4 = p.orders ∧ x3 = p.m1 ∧ x2 = p.m0 ∧ Box wr W.heap.size [.int .i64 x0, .int .i64 x1, .int .i64 0, .int .i64 0, .int .i64 0, .int .i64 0]) ∨ (i = .int .i64 (0) ∧ x5 = p.age ∧ x4 = p.orders ∧ x3 = p.m1 ∧ x2 = p.m0 ∧ x1 = p.positions ∧ Box wr W.heap.size [.int .i64 x0, .int .i64 0, .int .i64 0, .int .i64 0, .int .i64 0, .int .i64 0]) ∨ (i = .int .i64 (-1) ∧ x5 = p.age ∧ x4 = p.orders ∧ x3 = p.m1 ∧ x2 = p.m0 ∧ x1 = p.positions ∧ x0 = p.top ∧ Box wr W.heap.size [.int .i64 0, .int .i64 0, .int .i64 0, .int .i64 0, .int .i64 0, .int .i64 0]))) (fun i _ => (intOf i + 1).toNat)
    case atStart => exact ⟨Below.refl _ _, M, .inl ⟨rfl, Y⟩⟩
    case round =>
      clear Y M hal hml
      obtain ⟨hb2, M, hrel⟩ := hrel
      obtain ⟨wi, rfl⟩ : ∃ wi : World, wi = wr := ⟨_, rfl⟩
      have hJ4 := HJ.out _ _ _ hJ3 hb2
      have hml := M.lt
      rcases hrel with ⟨rfl, Y⟩ | ⟨rfl, g5, Y⟩ | ⟨rfl, g5, g4, Y⟩ | ⟨rfl, g5, g4, g3, Y⟩ | ⟨rfl, g5, g4, g3, g2, Y⟩ | ⟨rfl, g5, g4, g3, g2, g1, Y⟩ | ⟨rfl, g5, g4, g3, g2, g1, g0, Y⟩
      · have hal := Y.lt
        obtain ⟨Yc0, Yf0, Yc1, Yf1, Yc2, Yf2, Yc3, Yf3, Yc4, Yf4, Yc5, Yf5⟩ := Y.f6
        have Yz : W.heap.size < wi.heap.size := Y.lt
        obtain ⟨Mc0, Mc1, Mc2, Mc3, Mc4, Mc5⟩ := M.c6
        by_cases g5 : x5 = p.age
        · have hd : decide (x5 = p.age) = true := decide_eq_true g5
          have hd2 : (x5 == p.age) = true := by simp [g5]
          have G5 := Lib.hid g5
          clear g5
          go_wp2_with (fail)
          go_quiet (fail)
          go_wp2
          refine ⟨⟨(bel_drewN hb2 nq).setCell (by simp) _, M.other (Ne.symm (Ne.symm hne)) _, .inr (.inl ⟨by go_num, G5.out, Y.set 5 _⟩)⟩, by simp [intOf]⟩
        · have hd : decide (x5 = p.age) = false := decide_eq_false g5
          have hd2 : (x5 == p.age) = false := by simp [g5]
          go_wp2_with (fail)
          go_quiet (fail)
          go_wp2
          have hB := HB.out
          have hw : wrap64 (x5 + 1) = x5 + 1 := by unfold wrap64; omega
          clear hB
          refine wpIn_wide.2 ?_
          go_wp2
          go_roundg (G - 1)
          case measure => omega
          case rel =>
            refine ⟨k + 1, by omega, ?_, ?_, M.other (a := ⟨W.heap.size, 5, none⟩) hne _, HJ.out _ _ _ hJ4 ((bel_drewN (Below.refl _ _) nq).setCell (p := ⟨W.heap.size, 5, none⟩) (Nat.le_refl _) _)⟩
            · rcases Nat.eq_zero_or_pos (G - 1) with hz | hz
              · exact absurd (by have := (stAt_end hv.out (k := k) (by omega)).1; rw [HS.out] at this; exact this) g5
              · exact hz
            · rw [show p.stAt (k + 1) = _ from hsucc.out.d5 g5]
              exact (Y.drewN nq).set 5 _
      · have hal := Y.lt
        obtain ⟨Yc0, Yf0, Yc1, Yf1, Yc2, Yf2, Yc3, Yf3, Yc4, Yf4, Yc5, Yf5⟩ := Y.f6
        have Yz : W.heap.size < wi.heap.size := Y.lt
        obtain ⟨Mc0, Mc1, Mc2, Mc3, Mc4, Mc5⟩ := M.c6
        by_cases g4 : x4 = p.orders
        · have hd : decide (x4 = p.orders) = true := decide_eq_true g4
          have hd2 : (x4 == p.orders) = true := by simp [g4]
          have G4 := Lib.hid g4
          clear g4
          go_wp2_with (fail)
          go_quiet (fail)
          go_wp2
          refine ⟨⟨(bel_drewN hb2 nq).setCell (by simp) _, M.other (Ne.symm (Ne.symm hne)) _, .inr (.inr (.inl ⟨by go_num, g5, G4.out, Y.set 4 _⟩))⟩, by simp [intOf]⟩
        · have hd : decide (x4 = p.orders) = false := decide_eq_false g4
          have hd2 : (x4 == p.orders) = false := by simp [g4]
          go_wp2_with (fail)
          go_quiet (fail)
          go_wp2
          have hB := HB.out
          have hw : wrap64 (x4 + 1) = x4 + 1 := by unfold wrap64; omega
          clear hB
          refine wpIn_wide.2 ?_
          go_wp2
          go_roundg (G - 1)
          case measure => omega
          case rel =>
            refine ⟨k + 1, by omega, ?_, ?_, M.other (a := ⟨W.heap.size, 4, none⟩) hne _, HJ.out _ _ _ hJ4 ((bel_drewN (Below.refl _ _) nq).setCell (p := ⟨W.heap.size, 4, none⟩) (Nat.le_refl _) _)⟩
            · rcases Nat.eq_zero_or_pos (G - 1) with hz | hz
              · exact absurd (by have := (stAt_end hv.out (k := k) (by omega)).2.1; rw [HS.out] at this; exact this) g4
              · exact hz
            · rw [show p.stAt (k + 1) = _ from hsucc.out.d4 g5 g4]
              exact (Y.drewN nq).set 4 _
      · have hal := Y.lt
        obtain ⟨Yc0, Yf0, Yc1, Yf1, Yc2, Yf2, Yc3, Yf3, Yc4, Yf4, Yc5, Yf5⟩ := Y.f6
        have Yz : W.heap.size < wi.heap.size := Y.lt
        obtain ⟨Mc0, Mc1, Mc2, Mc3, Mc4, Mc5⟩ := M.c6
        by_cases g3 : x3 = p.m1
        · have hd : decide (x3 = p.m1) = true := decide_eq_true g3
          have hd2 : (x3 == p.m1) = true := by simp [g3]
          have G3 := Lib.hid g3
          clear g3
          go_wp2_with (fail)
          go_quiet (fail)
          go_wp2
          refine ⟨⟨(bel_drewN hb2 nq).setCell (by simp) _, M.other (Ne.symm (Ne.symm hne)) _, .inr (.inr (.inr (.inl ⟨by go_num, g5, g4, G3.out, Y.set 3 _⟩)))⟩, by simp [intOf]⟩
        · have hd : decide (x3 = p.m1) = false := decide_eq_false g3
          have hd2 : (x3 == p.m1) = false := by simp [g3]
          go_wp2_with (fail)
          go_quiet (fail)
          go_wp2
          have hB := HB.out
          have hw : wrap64 (x3 + 1) = x3 + 1 := by unfold wrap64; omega
          clear hB
          refine wpIn_wide.2 ?_
          go_wp2
          go_roundg (G - 1)
          case measure => omega
          case rel =>
            refine ⟨k + 1, by omega, ?_, ?_, M.other (a := ⟨W.heap.size, 3, none⟩) hne _, HJ.out _ _ _ hJ4 ((bel_drewN (Below.refl _ _) nq).setCell (p := ⟨W.heap.size, 3, none⟩) (Nat.le_refl _) _)⟩
            · rcases Nat.eq_zero_or_pos (G - 1) with hz | hz
              · exact absurd (by have := (stAt_end hv.out (k := k) (by omega)).2.2.1; rw [HS.out] at this; exact this) g3
              · exact hz
            · rw [show p.stAt (k + 1) = _ from hsucc.out.d3 g5 g4 g3]
              exact (Y.drewN nq).set 3 _
      · have hal := Y.lt
        obtain ⟨Yc0, Yf0, Yc1, Yf1, Yc2, Yf2, Yc3, Yf3, Yc4, Yf4, Yc5, Yf5⟩ := Y.f6
        have Yz : W.heap.size < wi.heap.size := Y.lt
        obtain ⟨Mc0, Mc1, Mc2, Mc3, Mc4, Mc5⟩ := M.c6
        by_cases g2 : x2 = p.m0
        · have hd : decide (x2 = p.m0) = true := decide_eq_true g2
          have hd2 : (x2 == p.m0) = true := by simp [g2]
          have G2 := Lib.hid g2
          clear g2
          go_wp2_with (fail)
          go_quiet (fail)
          go_wp2
          refine ⟨⟨(bel_drewN hb2 nq).setCell (by simp) _, M.other (Ne.symm (Ne.symm hne)) _, .inr (.inr (.inr (.inr (.inl ⟨by go_num, g5, g4, g3, G2.out, Y.set 2 _⟩))))⟩, by simp [intOf]⟩
        · have hd : decide (x2 = p.m0) = false := decide_eq_false g2
          have hd2 : (x2 == p.m0) = false := by simp [g2]
          go_wp2_with (fail)
          go_quiet (fail)
          go_wp2
          have hB := HB.out
          have hw : wrap64 (x2 + 1) = x2 + 1 := by unfold wrap64; omega
          clear hB
          refine wpIn_wide.2 ?_
          go_wp2
          go_roundg (G - 1)
          case measure => omega
          case rel =>
            refine ⟨k + 1, by omega, ?_, ?_, M.other (a := ⟨W.heap.size, 2, none⟩) hne _, HJ.out _ _ _ hJ4 ((bel_drewN (Below.refl _ _) nq).setCell (p := ⟨W.heap.size, 2, none⟩) (Nat.le_refl _) _)⟩
            · rcases Nat.eq_zero_or_pos (G - 1) with hz | hz
              · exact absurd (by have := (stAt_end hv.out (k := k) (by omega)).2.2.2.1; rw [HS.out] at this; exact this) g2
              · exact hz
            · rw [show p.stAt (k + 1) = _ from hsucc.out.d2 g5 g4 g3 g2]
              exact (Y.drewN nq).set 2 _
      · have hal := Y.lt
        obtain ⟨Yc0, Yf0, Yc1, Yf1, Yc2, Yf2, Yc3, Yf3, Yc4, Yf4, Yc5, Yf5⟩ := Y.f6
        have Yz : W.heap.size < wi.heap.size := Y.lt
        obtain ⟨Mc0, Mc1, Mc2, Mc3, Mc4, Mc5⟩ := M.c6
        by_cases g1 : x1 = p.positions
        · have hd : decide (x1 = p.positions) = true := decide_eq_true g1
          have hd2 : (x1 == p.positions) = true := by simp [g1]
          have G1 := Lib.hid g1
          clear g1
          go_wp2_with (fail)
          go_quiet (fail)
          go_wp2
          refine ⟨⟨(bel_drewN hb2 nq).setCell (by simp) _, M.other (Ne.symm (Ne.symm hne)) _, .inr (.inr (.inr (.inr (.inr (.inl ⟨by go_num, g5, g4, g3, g2, G1.out, Y.set 1 _⟩)))))⟩, by simp [intOf]⟩
        · have hd : decide (x1 = p.positions) = false := decide_eq_false g1
          have hd2 : (x1 == p.positions) = false := by simp [g1]
          go_wp2_with (fail)
          go_quiet (fail)
          go_wp2
          have hB := HB.out
          have hw : wrap64 (x1 + 1) = x1 + 1 := by unfold wrap64; omega
          clear hB
          refine wpIn_wide.2 ?_
          go_wp2
          go_roundg (G - 1)
          case measure => omega
          case rel =>
            refine ⟨k + 1, by omega, ?_, ?_, M.other (a := ⟨W.heap.size, 1, none⟩) hne _, HJ.out _ _ _ hJ4 ((bel_drewN (Below.refl _ _) nq).setCell (p := ⟨W.heap.size, 1, none⟩) (Nat.le_refl _) _)⟩
            · rcases Nat.eq_zero_or_pos (G - 1) with hz | hz
              · exact absurd (by have := (stAt_end hv.out (k := k) (by omega)).2.2.2.2.1; rw [HS.out] at this; exact this) g1
              · exact hz
            · rw [show p.stAt (k + 1) = _ from hsucc.out.d1 g5 g4 g3 g2 g1]
              exact (Y.drewN nq).set 1 _
      · have hal := Y.lt
        obtain ⟨Yc0, Yf0, Yc1, Yf1, Yc2, Yf2, Yc3, Yf3, Yc4, Yf4, Yc5, Yf5⟩ := Y.f6
        have Yz : W.heap.size < wi.heap.size := Y.lt
        obtain ⟨Mc0, Mc1, Mc2, Mc3, Mc4, Mc5⟩ := M.c6
        by_cases g0 : x0 = p.top
        · have hd : decide (x0 = p.top) = true := decide_eq_true g0
          have hd2 : (x0 == p.top) = true := by simp [g0]
          have G0 := Lib.hid g0
          clear g0
          go_wp2_with (fail)
          go_quiet (fail)
          go_wp2
          refine ⟨⟨(bel_drewN hb2 nq).setCell (by simp) _, M.other (Ne.symm (Ne.symm hne)) _, .inr (.inr (.inr (.inr (.inr (.inr (⟨by go_num, g5, g4, g3, g2, g1, G0.out, Y.set 0 _⟩))))))⟩, by simp [intOf]⟩
        · have hd : decide (x0 = p.top) = false := decide_eq_false g0
          have hd2 : (x0 == p.top) = false := by simp [g0]
          go_wp2_with (fail)
          go_quiet (fail)
          go_wp2
          have hB := HB.out
          have hw : wrap64 (x0 + 1) = x0 + 1 := by unfold wrap64; omega
          clear hB
          refine wpIn_wide.2 ?_
          go_wp2
          go_roundg (G - 1)
          case measure => omega
          case rel =>
            refine ⟨k + 1, by omega, ?_, ?_, M.other (a := ⟨W.heap.size, 0, none⟩) hne _, HJ.out _ _ _ hJ4 ((bel_drewN (Below.refl _ _) nq).setCell (p := ⟨W.heap.size, 0, none⟩) (Nat.le_refl _) _)⟩
            · rcases Nat.eq_zero_or_pos (G - 1) with hz | hz
              · exact absurd (by have := (stAt_end hv.out (k := k) (by omega)).2.2.2.2.2; rw [HS.out] at this; exact this) g0
              · exact hz
            · rw [show p.stAt (k + 1) = _ from hsucc.out.d0 g5 g4 g3 g2 g1 g0]
              exact (Y.drewN nq).set 0 _
      · have hal := Y.lt
        go_wp2_with (fail)
        go_quiet (fail)
        go_wp2
        refine wpIn_wide.2 ?_
        go_wp2
        refine bodyPost_ret (results_none rfl _ _ _) rfl ?_
        refine ⟨⟨_, rfl⟩, .inl ⟨_, ?_, HJ.out _ _ _ hJ4 (bel_drewN (Below.refl _ _) nq)⟩⟩
        show _ = List.map _ (List.range p.count)
        rw [hlast.out g5 g4 g3 g2 g1 g0]
end Go.Proofs.YtmbifmmkccghfaaGreat
namespace Go.Proofs.YtmbifmmkccghfaaGreat
open Go.RowKit Go.Shelf
attribute [local go_sem] Oper.semAt_some
theorem bSafe_is {p : Pl} {V : Value} {s : St} {w : World} {q : Bool} {er : Int} (h : Hid (p.safeT s = (q, er))) : Calls Tryz.prog 24 #[gmV p V, s.v] w fun e w' => e = .returned (.bool q) ∧ Below w.heap.size w w' := by
  go_enter Tryz.func24, Tryz.ntmps24
  go_wp2_with fail
  have hB := ((Below.refl w.heap.size w).alloc (by simp <;> omega) (.cells #[.int .i64 p.top, .int .i64 p.bank, .int .i64 p.siphon, .int .i64 p.start, .int .i64 p.positions, .int .i64 p.rate, .int .i64 p.step, .int .i64 p.pass, .int .i64 p.feed, .int .i64 p.pipe, .int .i64 p.orders, .int .i64 p.age, V] 78)).alloc (by simp <;> omega) (.cells #[.int .i64 s.level, .int .i64 s.position, .int .i64 s.p0, .int .i64 s.p1, .int .i64 s.order, .int .i64 s.age] 33)
  refine (safe_is h).mono ?_
  rintro e w1 ⟨rfl, hb⟩
  go_wp2
  go_ret
  exact ⟨rfl, hB.trans (hb.mono hB.size)⟩
def Pl.nexts (p : Pl) (c : List Ln) (s : St) (k : Nat) : List (Sh × St) := (List.range k).map fun j => (p.shAt j, (nextT p c s (p.shAt j)).1)
theorem nexts_succ (p : Pl) (c : List Ln) (s : St) (k : Nat) : p.nexts c s (k + 1) = p.nexts c s k ++ [(p.shAt k, (nextT p c s (p.shAt k)).1)] := by
  rw [Pl.nexts, List.range_succ, List.map_append]; rfl
theorem nexts_pre (p : Pl) (c : List Ln) (s : St) {k m : Nat} (h : k ≤ m) : p.nexts c s k <+: p.nexts c s m :=
  List.IsPrefix.map _ (by rw [List.prefix_iff_eq_take, List.length_range, List.take_range]; congr 1; omega)
theorem shAt_at (p : Pl) {f m : Nat} (h : m < p.nm) : p.shAt (f * p.nm + m) = ⟨(f : Int), (m : Int) - 1⟩ := by
  obtain ⟨h1, h2⟩ := div_step (q := f) h
  rw [Pl.shAt, h1, h2]
def Pl.nf (p : Pl) : Nat := (p.feed + 1).toNat
theorem next_seq (n : Nat) (p : Pl) (c : List Ln) (V : Value) (s : St) (hv : Hid p.Valid) (Bg Bs : Nat) (w : World) (D : Nat) (R : Nat → Prop) (hDw : D ≤ w.heap.size) (hC : Hid (CodeAt w D V c)) (hg : Box w Bg (gmL p V)) (hs : Box w Bs s.cells) (hRg : ¬ R Bg) (hRs : ¬ R Bs) (hRw : Hid (∀ b, R b → b < w.heap.size)) :
    SeqB Fence.wide n Tryz.prog 50 #[.pointer (some ⟨Bg, 0, none⟩), .pointer (some ⟨Bs, 0, none⟩)] (fun x : Sh × St => #[x.1.v, x.2.v]) (KeepsC D R) (fun xs => xs = p.nexts c s (p.nf * p.nm)) (fun pre => pre <+: p.nexts c s (p.nf * p.nm)) (fun pre x => pre ++ [x] <+: p.nexts c s (p.nf * p.nm)) w := fun l J Jx W hW hJ hJx hY h0 => by
  have HY := Lib.hid hY
  have HJ := Lib.hid hJ
  have HJx := Lib.hid hJx
  clear hY hJ hJx
  have hg := hg.later hW
  have hs := hs.later hW
  have HC := Lib.hid (hC.out.below (hW.mono hDw))
  have hDW := Nat.le_trans hDw hW.size
  have hf := hv.out.feed
  have ho := hv.out.orders
  obtain ⟨nf, hnf⟩ : ∃ nf, p.nf = nf := ⟨_, rfl⟩
  obtain ⟨nm, hnm⟩ : ∃ nm, p.nm = nm := ⟨_, rfl⟩
  have ef : p.feed + 1 = (nf : Int) := by rw [← hnf, Pl.nf]; omega
  have eo : p.orders + 2 = (nm : Int) := by rw [← hnm, Pl.nm]; omega
  have HNF := Lib.hid hnf
  have HNM := Lib.hid hnm
  have EF := Lib.hid ef
  have EO := Lib.hid eo
  have hnf16 : nf ≤ 16 := by omega
  have hnm9 : nm ≤ 9 := by omega
  rw [hnf, hnm]
  have w1 : IntKind.i64.wrap (p.feed + 1) = (nf : Int) := by rw [wrap_id (by omega) (by omega), ef]
  have w2 : IntKind.i64.wrap (p.orders + 2) = (nm : Int) := by rw [wrap_id (by omega) (by omega), eo]
  have w3 : wrap64 (p.feed + 1) = (nf : Int) := by unfold wrap64; omega
  have w4 : wrap64 (p.orders + 2) = (nm : Int) := by unfold wrap64; omega
  clear ef eo hnf hnm hf ho
  refine callsIn_of_wp Tryz.func50 rfl trivial ?_ rfl
  simp only [Tryz.ntmps50, List.size_toArray, List.length_cons, List.length_nil, Nat.reduceAdd, Nat.reduceSub, Array.replicate_succ, Array.replicate_zero, List.push_toArray, List.append_toArray, List.nil_append, List.cons_append]
  refine wpIn_wide.2 ?_
  have hgz := hg.lt
  have x8 : W.cell? ⟨Bg, 8, none⟩ = some (.int .i64 p.feed) := hg.cell 8
  go_wp2_with fail
  clear x8
  go_loopw [14] (fun i wr => ∃ f : Nat, f ≤ nf ∧ i = .int .i64 f ∧ Below D W wr ∧ Box wr Bg (gmL p V) ∧ Box wr Bs s.cells ∧ Hid (J (p.nexts c s (f * nm)) wr)) (fun i _ => nf - (intOf i).toNat)
  case atStart =>
    refine ⟨0, by omega, rfl, Below.refl _ _, hg, hs, ?_⟩
    rw [Nat.zero_mul]
    exact Lib.hid h0
  case round =>
    clear hg hs h0 hgz
    obtain ⟨f, hf, rfl, hb, hg, hs, hJ0⟩ := hrel
    obtain ⟨wo, rfl⟩ : ∃ wo : World, wo = wr := ⟨_, rfl⟩
    have hgz := hg.lt
    rcases Nat.lt_or_ge f nf with hlt | hge
    rotate_left
    · obtain rfl : f = nf := by omega
      have hd1 : decide ((f : Int) < (f : Int)) = false := by simp
      go_wp2
      go_end0
      exact ⟨⟨_, rfl⟩, .inl ⟨_, rfl, hJ0.out⟩⟩
    have hd1 : decide ((f : Int) < (nf : Int)) = true := decide_eq_true (by omega)
    have x10 : wo.cell? ⟨Bg, 10, none⟩ = some (.int .i64 p.orders) := hg.cell 10
    go_wp2_with fail
    clear hd1 x10
    go_loopw [21] (fun i wr => ∃ m : Nat, m ≤ nm ∧ i = .int .i64 m ∧ Below D W wr ∧ Box wr Bg (gmL p V) ∧ Box wr Bs s.cells ∧ Hid (J (p.nexts c s (f * nm + m)) wr)) (fun i _ => nm - (intOf i).toNat)
    case atStart => exact ⟨0, by omega, rfl, hb, hg, hs, hJ0⟩
    case round =>
      clear hb hg hs hJ0 hgz
      obtain ⟨m, hm, rfl, hb, hg, hs, hJ0⟩ := hrel
      obtain ⟨wi, rfl⟩ : ∃ wi : World, wi = wr := ⟨_, rfl⟩
      rcases Nat.lt_or_ge m nm with hlm | hgm
      rotate_left
      · obtain rfl : m = nm := by omega
        have hd1 : decide ((m : Int) < (m : Int)) = false := by simp
        go_wp2
        refine ⟨⟨f + 1, by omega, by go_num, hb, hg, hs, ?_⟩, by simp [intOf]; omega⟩
        rw [Nat.add_mul, Nat.one_mul]
        exact hJ0
      have hd1 : decide ((m : Int) < (nm : Int)) = true := decide_eq_true (by omega)
      have hsh : p.shAt (f * nm + m) = ⟨(f : Int), (m : Int) - 1⟩ := by
        have := shAt_at p (f := f) (m := m) (by rw [HNM.out]; exact hlm)
        rw [HNM.out] at this
        exact this
      obtain ⟨t, o, er, HT⟩ : ∃ t o er, Hid (nextT p c s ⟨(f : Int), (m : Int) - 1⟩ = (t, o, er)) := ⟨_, _, _, rfl⟩
      have hnx := nexts_succ p c s (f * nm + m)
      rw [hsh, HT.out] at hnx
      dsimp only at hnx
      have HNX := Lib.hid hnx
      clear hnx hsh
      have hgz := hg.lt
      have hsz := hs.lt
      have hgc0 : wi.cell? ⟨Bg, 0, none⟩ = some (.int .i64 p.top) := hg.cell 0
      have hgc1 : wi.cell? ⟨Bg, 1, none⟩ = some (.int .i64 p.bank) := hg.cell 1
      have hgc2 : wi.cell? ⟨Bg, 2, none⟩ = some (.int .i64 p.siphon) := hg.cell 2
      have hgc3 : wi.cell? ⟨Bg, 3, none⟩ = some (.int .i64 p.start) := hg.cell 3
      have hgc4 : wi.cell? ⟨Bg, 4, none⟩ = some (.int .i64 p.positions) := hg.cell 4
      have hgc5 : wi.cell? ⟨Bg, 5, none⟩ = some (.int .i64 p.rate) := hg.cell 5
      have hgc6 : wi.cell? ⟨Bg, 6, none⟩ = some (.int .i64 p.step) := hg.cell 6
      have hgc7 : wi.cell? ⟨Bg, 7, none⟩ = some (.int .i64 p.pass) := hg.cell 7
      have hgc8 : wi.cell? ⟨Bg, 8, none⟩ = some (.int .i64 p.feed) := hg.cell 8
      have hgc9 : wi.cell? ⟨Bg, 9, none⟩ = some (.int .i64 p.pipe) := hg.cell 9
      have hgc10 : wi.cell? ⟨Bg, 10, none⟩ = some (.int .i64 p.orders) := hg.cell 10
      have hgc11 : wi.cell? ⟨Bg, 11, none⟩ = some (.int .i64 p.age) := hg.cell 11
      have hgc12 : wi.cell? ⟨Bg, 12, none⟩ = some (V) := hg.cell 12
      obtain ⟨hsc0, hsc1, hsc2, hsc3, hsc4, hsc5⟩ := hs.c6
      have X6 := Box.new wi [.int .i64 (f : Int), .int .i64 ((m : Int) - 1)] 35
      have hbS := (Below.refl wi.heap.size wi).alloc (Nat.le_refl _) (.cells #[.int .i64 (f : Int), .int .i64 ((m : Int) - 1)] 35)
      refine (wpIn_wide (n := n)).1 ?_
      gi_wp2_with fail
      refine ⟨trivial, (fun h => by cases h), ?_⟩
      have hg1 := hg.alloc (.cells #[.int .i64 (f : Int), .int .i64 ((m : Int) - 1)] 35)
      have hs1 := hs.alloc (.cells #[.int .i64 (f : Int), .int .i64 ((m : Int) - 1)] 35)
      have hJ1 := Lib.hid (HJ.out _ _ _ hJ0.out (hbS.mono hb.size))
      have hb1 := hb.trans (hbS.mono (Nat.le_trans hDW hb.size))
      have hz6 := X6.lt
      clear hgc0 hgc1 hgc2 hgc3 hgc4 hgc5 hgc6 hgc7 hgc8 hgc9 hgc10 hgc11 hgc12 hsc0 hsc1 hsc2 hsc3 hsc4 hsc5 hgz hsz hg hs hJ0 hb hbS
      generalize wi.heap.size = S6 at X6 hz6 ⊢
      generalize wi.alloc (.cells #[.int .i64 (f : Int), .int .i64 ((m : Int) - 1)] 35) = w1 at X6 hz6 hg1 hs1 hJ1 hb1 ⊢
      refine (callsIn_wide.2 (next_is (p := p) (s := s) (x := ⟨(f : Int), (m : Int) - 1⟩) HT ((HC.out.below hb1).more (Nat.le_trans hDW hb1.size)))).mono ?_
      rintro e w2 ⟨rfl, hb2⟩
      have X6 := X6.later hb2
      have hg2 := hg1.later hb2
      have hs2 := hs1.later hb2
      have hJ2 := Lib.hid (HJ.out _ _ _ hJ1.out (hb2.mono hb1.size))
      have hb3 := hb1.trans (hb2.mono (Nat.le_trans hDW hb1.size))
      obtain ⟨t0, t1, t2, t3, t4, t5⟩ := t
      have hbT := (Below.refl w2.heap.size w2).alloc (Nat.le_refl _) (.cells #[.int .i64 t0, .int .i64 t1, .int .i64 t2, .int .i64 t3, .int .i64 t4, .int .i64 t5] 33)
      have X6 := X6.alloc (.cells #[.int .i64 t0, .int .i64 t1, .int .i64 t2, .int .i64 t3, .int .i64 t4, .int .i64 t5] 33)
      have hg3 := hg2.alloc (.cells #[.int .i64 t0, .int .i64 t1, .int .i64 t2, .int .i64 t3, .int .i64 t4, .int .i64 t5] 33)
      have hs3 := hs2.alloc (.cells #[.int .i64 t0, .int .i64 t1, .int .i64 t2, .int .i64 t3, .int .i64 t4, .int .i64 t5] 33)
      have hJ3 := Lib.hid (HJ.out _ _ _ hJ2.out (hbT.mono (Nat.le_trans hb1.size hb2.size)))
      have hb4 := hb3.trans (hbT.mono (Nat.le_trans hDW hb3.size))
      clear hg1 hs1 hJ1 hb1 hz6 hg2 hs2 hJ2 hbT hb2 hb3
      have hz6 := X6.lt
      have x60 : (w2.alloc (.cells #[.int .i64 t0, .int .i64 t1, .int .i64 t2, .int .i64 t3, .int .i64 t4, .int .i64 t5] 33)).cell? ⟨S6, 0, none⟩ = some (.int .i64 (f : Int)) := X6.cell 0
      have x61 : (w2.alloc (.cells #[.int .i64 t0, .int .i64 t1, .int .i64 t2, .int .i64 t3, .int .i64 t4, .int .i64 t5] 33)).cell? ⟨S6, 1, none⟩ = some (.int .i64 ((m : Int) - 1)) := X6.cell 1
      have hlen : p.nexts c s (f * nm + m) ++ [(⟨(f : Int), (m : Int) - 1⟩, ⟨t0, t1, t2, t3, t4, t5⟩)] <+: p.nexts c s (nf * nm) := by
        rw [← HNX.out]
        refine nexts_pre p c s ?_
        have h2 := Nat.mul_le_mul_right nm (show f + 1 ≤ nf by omega)
        rw [Nat.add_mul, Nat.one_mul] at h2
        omega
      obtain ⟨f0, q0, a0, c0, hy0, hR0⟩ := HY.out _ (⟨(f : Int), (m : Int) - 1⟩, ⟨t0, t1, t2, t3, t4, t5⟩) _ hJ3.out (by rw [HNF.out, HNM.out]; exact hlen)
      rw [← HNX.out] at hR0
      simp only [St.v, Sh.v] at hy0
      gi_wp2_with fail
      refine ⟨(fun h => by cases h), hR0.mono ?_⟩
      rintro e W2 (⟨rfl, hJ4, hK⟩ | ⟨rfl, hx⟩)
      rotate_left
      · gi_wp2
        refine bodyPost_ret (results_none rfl _ _ _) rfl ?_
        refine ⟨⟨_, rfl⟩, .inr ⟨_, nexts_pre p c s ?_, hx⟩⟩
        have h2 := Nat.mul_le_mul_right nm (show f + 1 ≤ nf by omega)
        rw [Nat.add_mul, Nat.one_mul] at h2
        omega
      have hg := hK.box hg3 hRg
      have hs := hK.box hs3 hRs
      have hb := hb4.trans hK.low
      clear hR0 hy0 hJ3 hK hg3 hs3 hb4 x60 x61
      gi_wp2
      refine ⟨⟨m + 1, by omega, by go_num, hb, hg, hs, ?_⟩, by simp [intOf]; omega⟩
      rw [← Nat.add_assoc]
      exact Lib.hid hJ4
end Go.Proofs.YtmbifmmkccghfaaGreat
namespace Go.Proofs.YtmbifmmkccghfaaGreat
open Go.RowKit
theorem findSome_pre {α β : Type} {l pre : List α} {x : α} {f : β} {g : α → Option β} (h : pre ++ [x] <+: l) (hn : ∀ y ∈ pre, g y = none) (hx : g x = some f) : l.findSome? g = some f := by
  obtain ⟨r, rfl⟩ := h
  rw [List.append_assoc, List.findSome?_append, List.findSome?_eq_none_iff.2 hn]
  simp [hx]
theorem find_pre {α : Type} {l pre : List α} {x : α} {g : α → Bool} (h : pre ++ [x] <+: l) (hn : ∀ y ∈ pre, g y = false) (hx : g x = true) : l.find? g = some x := by
  obtain ⟨r, rfl⟩ := h
  rw [List.append_assoc, List.find?_append, List.find?_eq_none.2 (fun y hy => by rw [hn y hy]; decide)]
  simp [hx]
theorem pre_mem {α : Type} {l pre : List α} {x : α} (h : pre ++ [x] <+: l) : x ∈ l := h.subset (by simp)
theorem has_nums {p : Pl} (hv : p.Valid) {s : St} (h : p.hasB s = true) : s.numsB = true := by
  obtain ⟨h1, h2, h3, h4, h5, h6⟩ := small6 hv (Pl.hasB_bd h)
  simp only [St.numsB]
  rw [inI_in (by omega), inI_in (by omega), inI_in (by omega), inI_in (by omega), inI_in (by omega), inI_in (by omega)]
  rfl
theorem states_nums {p : Pl} (hv : p.Valid) {s : St} (h : s ∈ p.states) : Hid (s.numsB = true) := has_nums hv (states_has hv h)
theorem nexts_mem {p : Pl} {c : List Ln} {s : St} {x : Sh × St} (h : x ∈ p.nexts c s (p.nf * p.nm)) : x.1 ∈ p.shocks ∧ x.2 = (nextT p c s x.1).1 := by
  obtain ⟨j, hj, rfl⟩ := List.mem_map.1 h
  exact ⟨List.mem_map.2 ⟨j, hj, rfl⟩, rfl⟩
theorem nextS_has {p : Pl} {c : List Ln} {s : St} {x : Sh} (ha : askT p c = 0) (hs : s ∈ p.states) (hx : x ∈ p.shocks) : p.hasB (nextT p c s x).1 = true := by
  obtain ⟨h1, h2⟩ := ask_zero ha
  obtain ⟨hv, _⟩ := Pl.check_zero h1
  have hh := states_has hv hs
  have hc := (shocks_mem hv).1 hx
  rcases gateT_two c with ⟨_, hg⟩ | hg
  · rw [nextT, if_pos h1, if_pos h2, if_pos hh, if_pos hc]
    exact step_has hv hh hc hg
  · omega
theorem nexts_nums {p : Pl} {c : List Ln} {s : St} (ha : askT p c = 0) (hs : s ∈ p.states) {x : Sh × St} (h : x ∈ p.nexts c s (p.nf * p.nm)) : Hid (x.2.numsB = true) := by
  obtain ⟨h1, h2⟩ := nexts_mem h
  rw [h2]
  exact has_nums (Pl.check_zero (ask_zero ha).1).1 (nextS_has ha hs h1)
theorem flaw_out {p : Pl} {c : List Ln} {b : List Iq} {s : St} (h : inB b s = false) : flawAt p c b s = none := by rw [flawAt, if_neg (by rw [h]; decide)]
theorem flaw_unsafe {p : Pl} {c : List Ln} {b : List Iq} {s : St} (h : inB b s = true) (hs : p.safeB s = false) : flawAt p c b s = some ⟨2, s, Sh.zero⟩ := by rw [flawAt, if_pos h, if_neg (by rw [hs]; decide)]
theorem flaw_stays {p : Pl} {c : List Ln} {b : List Iq} {s : St} (h : ∀ x ∈ p.nexts c s (p.nf * p.nm), inB b x.2 = true) (_hi : inB b s = true) (hs : p.safeB s = true) : flawAt p c b s = none := by
  refine flaw_none.2 fun _ => ⟨hs, fun x hx => ?_⟩
  obtain ⟨j, hj, rfl⟩ := List.mem_map.1 hx
  exact h (p.shAt j, _) (List.mem_map.2 ⟨j, hj, rfl⟩)
theorem flaw_leaves {p : Pl} {c : List Ln} {b : List Iq} {s : St} {pre : List (Sh × St)} {x : Sh × St} (hi : inB b s = true) (hs : p.safeB s = true) (h : pre ++ [x] <+: p.nexts c s (p.nf * p.nm)) (hn : ∀ y ∈ pre, inB b y.2 = true) (hx : inB b x.2 = false) :
    flawAt p c b s = some ⟨3, s, x.1⟩ := by
  rw [flawAt, if_pos hi, if_pos hs]
  have key : pre.map Prod.fst ++ [x.1] <+: p.shocks := by
    have h1 := List.IsPrefix.map Prod.fst h
    rw [List.map_append] at h1
    have h2 : (p.nexts c s (p.nf * p.nm)).map Prod.fst = p.shocks := by
      rw [Pl.nexts, List.map_map]
      rfl
    rw [h2] at h1
    exact h1
  have e : ∀ y ∈ pre, y.2 = (nextT p c s y.1).1 := fun y hy => (nexts_mem (h.subset (by simp [hy]))).2
  rw [find_pre (x := x.1) key]
  · rfl
  · intro z hz
    obtain ⟨y, hy, rfl⟩ := List.mem_map.1 hz
    rw [← e y hy, hn y hy]
    rfl
  · rw [← (nexts_mem (pre_mem h)).2, hx]
    rfl
end Go.Proofs.YtmbifmmkccghfaaGreat
namespace Go.Proofs.YtmbifmmkccghfaaGreat
open Go.RowKit
structure Pk where
  (src dst : Int)
  data : List UInt8
structure Net where
  queue : List Pk
  apart : List (Int × Int)
def BytesAt (w : World) (B : Nat) (v : Value) (l : List UInt8) : Prop := SlF v ∧ Sl w B 1 l.length (fun i _ => .int .u8 ((l.getD i 0).toNat : Int)) v
theorem BytesAt.below {w w' : World} {B : Nat} {v : Value} {l : List UInt8} (h : BytesAt w B v l) (hb : Below B w w') : BytesAt w' B v l := ⟨h.1, Sl.below h.2 hb⟩
theorem BytesAt.more {w : World} {B B' : Nat} {v : Value} {l : List UInt8} (h : BytesAt w B v l) (hb : B ≤ B') : BytesAt w B' v l := ⟨h.1, Sl.more h.2 hb⟩
theorem BytesAt.later {w w' : World} {v : Value} {l : List UInt8} (h : BytesAt w w.heap.size v l) (hb : Below w.heap.size w w') : BytesAt w' w'.heap.size v l := (h.below hb).more hb.size
theorem BytesAt.form {w : World} {B : Nat} {v : Value} {l : List UInt8} (h : BytesAt w B v l) : ∃ A c, v = .slice A l.length c ∧ l.length ≤ maxLen := by
  obtain ⟨A, c, hv, hn, _⟩ := h.2
  exact ⟨A, c, hv, hn⟩
theorem bytesAt_nil (w : World) (B : Nat) : BytesAt w B (.slice none 0 0) [] := ⟨.inl rfl, none, 0, rfl, Nat.zero_le _, fun i hi => by simp at hi⟩
def pkCells (q : List Pk) (V : Nat → Value) (i j : Nat) : Value := if j = 0 then .int .i64 (q.getD i ⟨0, 0, []⟩).src else if j = 1 then .int .i64 (q.getD i ⟨0, 0, []⟩).dst else V i
def PksAt (w : World) (B : Nat) (v : Value) (q : List Pk) : Prop :=
  SlF v ∧ ∃ V : Nat → Value, Sl w B 3 q.length (pkCells q V) v ∧ ∀ (i : Nat) (p : Pk), q[i]? = some p → BytesAt w B (V i) p.data
theorem PksAt.below {w w' : World} {B : Nat} {v : Value} {q : List Pk} (h : PksAt w B v q) (hb : Below B w w') : PksAt w' B v q := by
  obtain ⟨h0, V, h1, h2⟩ := h
  exact ⟨h0, V, h1.below hb, fun i l hl => (h2 i l hl).below hb⟩
theorem PksAt.more {w : World} {B B' : Nat} {v : Value} {q : List Pk} (h : PksAt w B v q) (hb : B ≤ B') : PksAt w B' v q := by
  obtain ⟨h0, V, h1, h2⟩ := h
  exact ⟨h0, V, h1.more hb, fun i l hl => (h2 i l hl).more hb⟩
theorem PksAt.later {w w' : World} {v : Value} {q : List Pk} (h : PksAt w w.heap.size v q) (hb : Below w.heap.size w w') : PksAt w' w'.heap.size v q := (h.below hb).more hb.size
theorem PksAt.form {w : World} {B : Nat} {v : Value} {q : List Pk} (h : PksAt w B v q) : ∃ A c, v = .slice A q.length c ∧ q.length ≤ maxLen := by
  obtain ⟨_, V, ⟨A, c, hv, hn, _⟩, _⟩ := h
  exact ⟨A, c, hv, hn⟩
theorem pksAt_nil (w : World) (B : Nat) : PksAt w B (.slice none 0 0) [] := ⟨.inl rfl, fun _ => undef, ⟨none, 0, rfl, Nat.zero_le _, fun i hi => by simp at hi⟩, fun i l hl => by simp at hl⟩
theorem PksAt.pk {w : World} {B : Nat} {A : Option Addr} {n c : Nat} {q : List Pk} (h : PksAt w B (.slice A n c) q) {k : Nat} (hk : k < q.length) :
    ∃ b off V, A = some ⟨b, off, none⟩ ∧ b < B ∧ w.cell? ⟨b, off + k * 3, none⟩ = some (.int .i64 (q[k]).src) ∧ w.cell? ⟨b, off + k * 3 + 1, none⟩ = some (.int .i64 (q[k]).dst) ∧ w.cell? ⟨b, off + k * 3 + 2, none⟩ = some V ∧ BytesAt w B V (q[k]).data := by
  obtain ⟨_, V, ⟨A', c', hv, _, h1⟩, h2⟩ := h
  cases hv
  obtain ⟨b, off, rfl, hb, h3⟩ := h1 k hk
  have e : q[k]? = some q[k] := List.getElem?_eq_getElem hk
  have eg : q.getD k ⟨0, 0, []⟩ = q[k] := by rw [List.getD_eq_getElem?_getD, e]; rfl
  have c0 := h3 0 (by omega)
  have c1 := h3 1 (by omega)
  have c2 := h3 2 (by omega)
  simp only [pkCells, eg] at c0 c1 c2
  exact ⟨b, off, V k, rfl, hb, c0, by rw [Nat.add_assoc]; exact c1, by rw [Nat.add_assoc]; exact c2, h2 k _ e⟩
def lkCells (l : List (Int × Int)) (i j : Nat) : Value := if j = 0 then .int .i64 (l.getD i (0, 0)).1 else .int .i64 (l.getD i (0, 0)).2
def LksAt (w : World) (B : Nat) (v : Value) (l : List (Int × Int)) : Prop := SlF v ∧ Sl w B 2 l.length (lkCells l) v
theorem LksAt.below {w w' : World} {B : Nat} {v : Value} {l : List (Int × Int)} (h : LksAt w B v l) (hb : Below B w w') : LksAt w' B v l := ⟨h.1, h.2.below hb⟩
theorem LksAt.more {w : World} {B B' : Nat} {v : Value} {l : List (Int × Int)} (h : LksAt w B v l) (hb : B ≤ B') : LksAt w B' v l := ⟨h.1, h.2.more hb⟩
theorem LksAt.later {w w' : World} {v : Value} {l : List (Int × Int)} (h : LksAt w w.heap.size v l) (hb : Below w.heap.size w w') : LksAt w' w'.heap.size v l := (h.below hb).more hb.size
theorem LksAt.form {w : World} {B : Nat} {v : Value} {l : List (Int × Int)} (h : LksAt w B v l) : ∃ A c, v = .slice A l.length c ∧ l.length ≤ maxLen := by
  obtain ⟨_, A, c, hv, hn, _⟩ := h
  exact ⟨A, c, hv, hn⟩
theorem lksAt_nil (w : World) (B : Nat) : LksAt w B (.slice none 0 0) [] := ⟨.inl rfl, none, 0, rfl, Nat.zero_le _, fun i hi => by simp at hi⟩
theorem LksAt.lk {w : World} {B : Nat} {A : Option Addr} {n c : Nat} {l : List (Int × Int)} (h : LksAt w B (.slice A n c) l) (hn : 0 < l.length) :
    ∃ b off, A = some ⟨b, off, none⟩ ∧ b < B ∧ ∀ k, k < l.length → w.cell? ⟨b, off + k * 2, none⟩ = some (.int .i64 (l.getD k (0, 0)).1) ∧ w.cell? ⟨b, off + k * 2 + 1, none⟩ = some (.int .i64 (l.getD k (0, 0)).2) := by
  obtain ⟨_, A', c', hv, _, h1⟩ := h
  cases hv
  obtain ⟨b, off, rfl, hb, _⟩ := h1 0 hn
  refine ⟨b, off, rfl, hb, fun k hk => ?_⟩
  obtain ⟨b', off', e', _, h3⟩ := h1 k hk
  cases e'
  exact ⟨h3 0 (by omega), by rw [Nat.add_assoc]; exact h3 1 (by omega)⟩
structure NetAt (w : World) (B : Nat) (Vq Va : Value) (n : Net) : Prop where
  queue : PksAt w B Vq n.queue
  apart : LksAt w B Va n.apart
theorem NetAt.below {w w' : World} {B : Nat} {Vq Va : Value} {n : Net} (h : NetAt w B Vq Va n) (hb : Below B w w') : NetAt w' B Vq Va n := ⟨h.queue.below hb, h.apart.below hb⟩
theorem NetAt.more {w : World} {B B' : Nat} {Vq Va : Value} {n : Net} (h : NetAt w B Vq Va n) (hb : B ≤ B') : NetAt w B' Vq Va n := ⟨h.queue.more hb, h.apart.more hb⟩
theorem NetAt.later {w w' : World} {Vq Va : Value} {n : Net} (h : NetAt w w.heap.size Vq Va n) (hb : Below w.heap.size w w') : NetAt w' w'.heap.size Vq Va n := (h.below hb).more hb.size
def Net.zero : Net := ⟨[], []⟩
theorem netAt_zero (w : World) (B : Nat) : NetAt w B (.slice none 0 0) (.slice none 0 0) Net.zero := ⟨pksAt_nil w B, lksAt_nil w B⟩
def linkB (a b : Int) : Bool := decide (0 ≤ a ∧ a < b ∧ b < 24)
def Pk.okB (p : Pk) : Bool := linkB (min p.src p.dst) (max p.src p.dst) && decide (p.data.length ≤ 1048576)
def cmpI (x y : Int) : Int := if x < y then -1 else if y < x then 1 else 0
def cmpP (x y : Int × Int) : Int := if cmpI x.1 y.1 ≠ 0 then cmpI x.1 y.1 else cmpI x.2 y.2
def okAt (l : List (Int × Int)) (i : Nat) : Bool := linkB (l.getD i (0, 0)).1 (l.getD i (0, 0)).2 && (decide (i = 0) || decide (cmpP (l.getD (i - 1) (0, 0)) (l.getD i (0, 0)) < 0))
def apartB (l : List (Int × Int)) : Bool := (List.range l.length).all (okAt l)
def Net.okB (n : Net) : Bool := decide (n.queue.length ≤ 4096) && (n.queue.all Pk.okB && apartB n.apart)
def Net.checkT (n : Net) : Int := if n.okB = true then 0 else 60
def sendT (n : Net) (p : Pk) : Net × Int := if n.okB = true ∧ p.okB = true then (if n.queue.length = 4096 then (Net.zero, 2) else (⟨n.queue ++ [p], n.apart⟩, 0)) else (Net.zero, 60)
def askTN (n : Net) (i : Int) : Int := if n.okB = true then (if 0 ≤ i ∧ i < (n.queue.length : Int) then 0 else 1) else 60
def Net.without (n : Net) (i : Nat) : Net := ⟨n.queue.take i ++ n.queue.drop (i + 1), n.apart⟩
def Pk.zero : Pk := ⟨0, 0, []⟩
def Net.pk (n : Net) (i : Int) : Pk := n.queue.getD i.toNat Pk.zero
def cutB (l : List (Int × Int)) (a b : Int) : Bool := l.any fun x => decide (x.1 = min a b) && decide (x.2 = max a b)
def deliverT (n : Net) (i : Int) : Pk × Net × Int := if askTN n i = 0 then ((if cutB n.apart (n.pk i).src (n.pk i).dst = true then Pk.zero else n.pk i), n.without i.toNat, 0) else (Pk.zero, Net.zero, askTN n i)
def loseT (n : Net) (i : Int) : Net × Int := if askTN n i = 0 then (n.without i.toNat, 0) else (Net.zero, askTN n i)
def repeatT (n : Net) (i : Int) : Net × Int := if askTN n i = 0 then sendT n (n.pk i) else (Net.zero, askTN n i)
def allLinks : List (Int × Int) := (List.range 24).flatMap fun a => (List.range (24 - (a + 1))).map fun k => ((a : Int), ((a + 1 + k : Nat) : Int))
def keptB (l : List (Int × Int)) (a b : Int) (on : Bool) (x : Int × Int) : Bool := if x = (min a b, max a b) then on else decide (x ∈ l)
def cutT (n : Net) (a b : Int) (on : Bool) : Net × Int := if n.okB = true then (if linkB (min a b) (max a b) = true then (⟨n.queue, allLinks.filter (keptB n.apart a b on)⟩, 0) else (Net.zero, 1)) else (Net.zero, 60)
end Go.Proofs.YtmbifmmkccghfaaGreat
namespace Go.Proofs.YtmbifmmkccghfaaGreat
open Go.RowKit
inductive Val where
  | mk (kind num : Int) (str : List UInt8) (elems : List Val)
def Val.kind : Val → Int | .mk k _ _ _ => k
def Val.num : Val → Int | .mk _ n _ _ => n
def Val.str : Val → List UInt8 | .mk _ _ s _ => s
def Val.elems : Val → List Val | .mk _ _ _ l => l
def Val.zero : Val := .mk 0 0 [] []
mutual
/-- Is a value well-formed? -/
def Val.okB : Val → Bool
  | .mk k n s l => if k = 1 then s.isEmpty && l.isEmpty else if k = 2 then decide (n = 0) && l.isEmpty else if k = 3 then decide (n = 0) && (s.isEmpty && okL l) else false
def okL : List Val → Bool
  | [] => true
  | x :: l => x.okB && okL l
end
mutual
/-- The depth of a value. -/
def Val.depth : Val → Nat
  | .mk k _ _ l => if k = 3 then depthL l + 1 else 0
def depthL : List Val → Nat
  | [] => 0
  | x :: l => max x.depth (depthL l)
end
mutual
/-- How far slices are nested in a value. -/
def Val.nest : Val → Nat
  | .mk _ _ _ l => nestL l
def nestL : List Val → Nat
  | [] => 0
  | x :: l => max (x.nest + 1) (nestL l)
end
theorem okL_all (l : List Val) : okL l = l.all Val.okB := by
  induction l with
  | nil => rfl
  | cons x l ih => rw [okL, List.all_cons, ih]
theorem okL_append (l m : List Val) : okL (l ++ m) = (okL l && okL m) := by rw [okL_all, okL_all, okL_all, List.all_append]
theorem depthL_append (l m : List Val) : depthL (l ++ m) = max (depthL l) (depthL m) := by
  induction l with
  | nil => rw [List.nil_append, depthL, Nat.max_eq_right (Nat.zero_le _)]
  | cons x l ih => rw [List.cons_append, depthL, depthL, ih, Nat.max_assoc]
theorem nest_mem {x : Val} {l : List Val} (h : x ∈ l) : x.nest + 1 ≤ nestL l := by
  induction l with
  | nil => cases h
  | cons y l ih =>
    rw [nestL]
    rcases List.mem_cons.1 h with rfl | h
    · exact Nat.le_max_left _ _
    · exact Nat.le_trans (ih h) (Nat.le_max_right _ _)
theorem Val.nest_elems (x : Val) : x.nest = nestL x.elems := by cases x; rw [Val.nest]; rfl
mutual
theorem Val.depth_nest : ∀ x : Val, x.depth ≤ x.nest + 1
  | .mk k n s l => by
    have := depthL_nest l
    rw [Val.depth, Val.nest]
    split <;> omega
theorem depthL_nest : ∀ l : List Val, depthL l ≤ nestL l
  | [] => by rw [depthL]; exact Nat.zero_le _
  | x :: l => by
    have h1 := Val.depth_nest x
    have h2 := depthL_nest l
    rw [depthL, nestL]
    omega
end
def strB (l : List UInt8) : ByteArray := ⟨l.toArray⟩
theorem strB_toList (l : List UInt8) : (strB l).toList = l := by rw [ByteArray.toList_eq]; rfl
abbrev Val.v (x : Val) (L : Value) : Value := .agg #[.int .i64 x.kind, .int .i64 x.num, .string (strB x.str), L]
def valCells (l : List Val) (V : Nat → Value) (i j : Nat) : Value :=
  if j = 0 then .int .i64 (l.getD i Val.zero).kind else if j = 1 then .int .i64 (l.getD i Val.zero).num else if j = 2 then .string (strB (l.getD i Val.zero).str) else V i
def ValsAt (w : World) (B : Nat) : Nat → Value → List Val → Prop
  | 0, L, l => SlF L ∧ l = [] ∧ Sl w B 4 0 (valCells [] fun _ => undef) L
  | d + 1, L, l => SlF L ∧ ∃ V : Nat → Value, Sl w B 4 l.length (valCells l V) L ∧ ∀ (i : Nat) (x : Val), l[i]? = some x → ValsAt w B d (V i) x.elems
theorem ValsAt.below {w w' : World} {B : Nat} (hb : Below B w w') : ∀ {d : Nat} {L : Value} {l : List Val}, ValsAt w B d L l → ValsAt w' B d L l
  | 0, _, _, h => ⟨h.1, h.2.1, h.2.2.below hb⟩
  | _ + 1, _, _, ⟨f, V, s, b⟩ => ⟨f, V, s.below hb, fun i x hx => (b i x hx).below hb⟩
theorem ValsAt.more {w : World} {B B' : Nat} (hb : B ≤ B') : ∀ {d : Nat} {L : Value} {l : List Val}, ValsAt w B d L l → ValsAt w B' d L l
  | 0, _, _, h => ⟨h.1, h.2.1, h.2.2.more hb⟩
  | _ + 1, _, _, ⟨f, V, s, b⟩ => ⟨f, V, s.more hb, fun i x hx => (b i x hx).more hb⟩
theorem ValsAt.later {w w' : World} {d : Nat} {L : Value} {l : List Val} (h : ValsAt w w.heap.size d L l) (hb : Below w.heap.size w w') : ValsAt w' w'.heap.size d L l := (h.below hb).more hb.size
theorem ValsAt.form {w : World} {B d : Nat} {L : Value} {l : List Val} (h : ValsAt w B d L l) : ∃ A c, L = .slice A l.length c ∧ l.length ≤ maxLen := by
  cases d with
  | zero =>
    obtain ⟨_, rfl, A, c, hv, hm, _⟩ := h
    exact ⟨A, c, hv, hm⟩
  | succ d =>
    obtain ⟨_, V, ⟨A, c, hv, hm, _⟩, _⟩ := h
    exact ⟨A, c, hv, hm⟩
theorem valsAt_nil (w : World) (B d : Nat) : ValsAt w B d (.slice none 0 0) [] := by
  cases d with
  | zero => exact ⟨.inl rfl, rfl, none, 0, rfl, Nat.zero_le _, fun i hi => by omega⟩
  | succ d => exact ⟨.inl rfl, fun _ => undef, ⟨none, 0, rfl, Nat.zero_le _, fun i hi => by simp at hi⟩, fun i x hx => by simp at hx⟩
theorem ValsAt.fit {w : World} {B : Nat} : ∀ {d e : Nat} {L : Value} {l : List Val}, ValsAt w B d L l → nestL l ≤ e → ValsAt w B e L l
  | 0, 0, _, _, h, _ => h
  | 0, e + 1, _, _, ⟨f, h0, s⟩, _ => by
    subst h0
    exact ⟨f, fun _ => undef, s, fun i x hx => by simp at hx⟩
  | d + 1, 0, _, l, ⟨f, V, s, b⟩, hn => by
    match l, hn with
    | [], _ =>
      refine ⟨f, rfl, ?_⟩
      obtain ⟨A, c, hv, hm, _⟩ := s
      exact ⟨A, c, hv, hm, fun i hi => by omega⟩
    | x :: l, hn => rw [nestL] at hn; omega
  | d + 1, e + 1, _, l, ⟨f, V, s, b⟩, hn => ⟨f, V, s, fun i x hx => (b i x hx).fit (by have := nest_mem (List.mem_of_getElem? hx); rw [← Val.nest_elems]; omega)⟩
theorem ValsAt.elem {w : World} {B d n c : Nat} {A : Option Addr} {l : List Val} (h : ValsAt w B d (.slice A n c) l) {k : Nat} (hk : k < l.length) :
    ∃ d' b off V, d = d' + 1 ∧ A = some ⟨b, off, none⟩ ∧ b < B ∧ w.cell? ⟨b, off + k * 4, none⟩ = some (.int .i64 (l[k]).kind) ∧ w.cell? ⟨b, off + k * 4 + 1, none⟩ = some (.int .i64 (l[k]).num) ∧ w.cell? ⟨b, off + k * 4 + 2, none⟩ = some (.string (strB (l[k]).str)) ∧ w.cell? ⟨b, off + k * 4 + 3, none⟩ = some V ∧ ValsAt w B d' V (l[k]).elems := by
  cases d with
  | zero =>
    obtain ⟨_, rfl, _⟩ := h
    simp at hk
  | succ d =>
    obtain ⟨_, V, ⟨A', c', hv, _, h1⟩, h2⟩ := h
    cases hv
    obtain ⟨b, off, rfl, hb, h3⟩ := h1 k hk
    have e : l[k]? = some l[k] := List.getElem?_eq_getElem hk
    have eg : l.getD k Val.zero = l[k] := by rw [List.getD_eq_getElem?_getD, e]; rfl
    have c0 := h3 0 (by omega)
    have c1 := h3 1 (by omega)
    have c2 := h3 2 (by omega)
    have c3 := h3 3 (by omega)
    simp only [valCells, eg] at c0 c1 c2 c3
    exact ⟨d, b, off, V k, rfl, rfl, hb, c0, by rw [Nat.add_assoc]; exact c1, by rw [Nat.add_assoc]; exact c2, by rw [Nat.add_assoc]; exact c3, h2 k _ e⟩
theorem nestL_le {l : List Val} {m : Nat} (h : ∀ x ∈ l, x.nest + 1 ≤ m) : nestL l ≤ m := by
  induction l with
  | nil => exact Nat.zero_le _
  | cons x l ih =>
    rw [nestL]
    exact Nat.max_le.2 ⟨h x List.mem_cons_self, ih fun y hy => h y (List.mem_cons_of_mem _ hy)⟩
theorem ValsAt.nest {w : World} {B : Nat} : ∀ {d : Nat} {L : Value} {l : List Val}, ValsAt w B d L l → nestL l ≤ d
  | 0, _, _, ⟨_, h, _⟩ => by subst h; exact Nat.zero_le _
  | d + 1, _, l, ⟨_, V, _, b⟩ => nestL_le fun x hx => by
    obtain ⟨i, hi, rfl⟩ := List.getElem_of_mem hx
    have := (b i _ (List.getElem?_eq_getElem hi)).nest
    rw [← Val.nest_elems] at this
    omega
theorem depthL_le {l : List Val} {m : Nat} (h : ∀ x ∈ l, x.depth ≤ m) : depthL l ≤ m := by
  induction l with
  | nil => exact Nat.zero_le _
  | cons x l ih =>
    rw [depthL]
    exact Nat.max_le.2 ⟨h x List.mem_cons_self, ih fun y hy => h y (List.mem_cons_of_mem _ hy)⟩
theorem ValsAt.depths {w : World} {B d : Nat} {L : Value} {l : List Val} (h : ValsAt w B d L l) (k : Nat) : depthL (l.take k) ≤ d := depthL_le fun x hx => by
  have h1 := nest_mem (List.mem_of_mem_take hx)
  have h2 := h.nest
  have h3 := x.depth_nest
  omega
theorem okL_snoc (l : List Val) (x : Val) : okL (l ++ [x]) = (okL l && x.okB) := by rw [okL_append, okL, okL, Bool.and_true]
theorem depthL_snoc (l : List Val) (x : Val) : depthL (l ++ [x]) = max (depthL l) x.depth := by rw [depthL_append, depthL, depthL, Nat.max_zero]
theorem okL_take {l : List Val} {k : Nat} (h : okL (l.take k) = false) : okL l = false := by
  rcases h2 : okL l with _ | _
  · rfl
  · have e := okL_append (l.take k) (l.drop k)
    rw [List.take_append_drop, h2, h, Bool.false_and] at e
    exact absurd e (by decide)
end Go.Proofs.YtmbifmmkccghfaaGreat
namespace Go.Proofs.YtmbifmmkccghfaaGreat
open Go.RowKit
def SlP (w : World) (S : Nat → Prop) (size n : Nat) (g : Nat → Nat → Value) (v : Value) : Prop :=
  ∃ A c, v = .slice A n c ∧ n ≤ maxLen ∧ ∀ i, i < n → ∃ b off, A = some ⟨b, off, none⟩ ∧ S b ∧ b < w.heap.size ∧ ∀ j, j < size → w.cell? ⟨b, off + (i * size + j), none⟩ = some (g i j)
def Keeps (S : Nat → Prop) (w w' : World) : Prop := w.heap.size ≤ w'.heap.size ∧ ∀ b, S b → b < w.heap.size → w'.heap[b]? = w.heap[b]?
theorem Keeps.of {S : Nat → Prop} {w w' : World} (h : Below w.heap.size w w') : Keeps S w w' := ⟨h.size, fun b _ hb => h.block b hb⟩
theorem Keeps.refl (S : Nat → Prop) (w : World) : Keeps S w w := ⟨Nat.le_refl _, fun _ _ _ => rfl⟩
theorem Keeps.trans {S : Nat → Prop} {w w' w'' : World} (h : Keeps S w w') (k : Keeps S w' w'') : Keeps S w w'' :=
  ⟨Nat.le_trans h.1 k.1, fun b hS hb => (k.2 b hS (Nat.lt_of_lt_of_le hb h.1)).trans (h.2 b hS hb)⟩
theorem Keeps.set {S : Nat → Prop} (w : World) {a : Addr} (h : ¬ S a.block) (u : Value) : Keeps S w (w.setCell a u) :=
  ⟨by simp, fun b hS _ => Below.heap_setCell w a u b (fun e => h (e ▸ hS))⟩
theorem Keeps.row {S : Nat → Prop} (w : World) {g : Nat} (h : ¬ S g) (cs : Array Value) : Keeps S w (w.setRow g cs) :=
  ⟨by simp [World.setRow], fun b hS _ => setRow_other w g b cs (fun e => h (e ▸ hS))⟩
theorem Keeps.from {S : Nat → Prop} {B : Nat} {w w' : World} (h : Below B w w') (hS : ∀ b, S b → b < w.heap.size → b < B) : Keeps S w w' :=
  ⟨h.size, fun b hb hl => h.block b (hS b hb hl)⟩
theorem Keeps.grown {S : Nat → Prop} {w w' : World} {row : Option Nat} (h : w.grownBy w' row) (hr : ∀ k, row = some k → ¬ S k) : Keeps S w w' := by
  refine ⟨h.size, fun b hS hl => h.block b hl (fun e => ?_)⟩
  exact hr b e.symm hS
theorem SlP.keep {w w' : World} {S : Nat → Prop} {size n : Nat} {g : Nat → Nat → Value} {v : Value} (h : SlP w S size n g v) (hk : Keeps S w w') : SlP w' S size n g v := by
  obtain ⟨A, c, hv, hm, h1⟩ := h
  refine ⟨A, c, hv, hm, fun i hi => ?_⟩
  obtain ⟨b, off, ha, hb, hl, h3⟩ := h1 i hi
  exact ⟨b, off, ha, hb, Nat.lt_of_lt_of_le hl hk.1, fun j hj => by rw [World.cell?_of_block (w := w) (hk.2 b hb hl)]; exact h3 j hj⟩
theorem SlP.weak {w : World} {S S' : Nat → Prop} {size n : Nat} {g : Nat → Nat → Value} {v : Value} (h : SlP w S size n g v) (hk : ∀ b, S b → b < w.heap.size → S' b) : SlP w S' size n g v := by
  obtain ⟨A, c, hv, hm, h1⟩ := h
  refine ⟨A, c, hv, hm, fun i hi => ?_⟩
  obtain ⟨b, off, ha, hb, hl, h3⟩ := h1 i hi
  exact ⟨b, off, ha, hk b hb hl, hl, h3⟩
theorem SlP.sl {w : World} {S : Nat → Prop} {size n : Nat} {g : Nat → Nat → Value} {v : Value} (h : SlP w S size n g v) : Sl w w.heap.size size n g v := by
  obtain ⟨A, c, hv, hm, h1⟩ := h
  refine ⟨A, c, hv, hm, fun i hi => ?_⟩
  obtain ⟨b, off, ha, _, hb, h3⟩ := h1 i hi
  exact ⟨b, off, ha, hb, h3⟩
theorem SlP.congr {w : World} {S : Nat → Prop} {size n : Nat} {g h : Nat → Nat → Value} {v : Value} (hs : SlP w S size n g v) (he : ∀ i j, i < n → j < size → g i j = h i j) : SlP w S size n h v := by
  obtain ⟨A, c, hv, hm, h1⟩ := hs
  refine ⟨A, c, hv, hm, fun i hi => ?_⟩
  obtain ⟨b, off, ha, hb, hl, h3⟩ := h1 i hi
  exact ⟨b, off, ha, hb, hl, fun j hj => by rw [h3 j hj, he i j hi hj]⟩
theorem SlP.form {w : World} {S : Nat → Prop} {size n : Nat} {g : Nat → Nat → Value} {v : Value} (h : SlP w S size n g v) : ∃ A c, v = .slice A n c ∧ n ≤ maxLen := by
  obtain ⟨A, c, hv, hm, _⟩ := h
  exact ⟨A, c, hv, hm⟩
theorem slP_nil (w : World) (S : Nat → Prop) (size : Nat) (g : Nat → Nat → Value) : SlP w S size 0 g (.slice none 0 0) := ⟨none, 0, rfl, Nat.zero_le _, fun i hi => by omega⟩
theorem own_slp {w : World} {base e size n : Nat} {g : Nat → Nat → Value} {v : Value} (h : w.ownsRow base e size v n (flat n size g)) (hn : n ≤ maxLen) : SlP w (fun b => base ≤ b) size n g v ∧ SlF v := by
  obtain ⟨⟨A, c, hv, hm, h1⟩, hf⟩ := own_sl2 (D := 0) h hn
  refine ⟨⟨A, c, hv, hm, fun i hi => ?_⟩, hf⟩
  obtain ⟨b, off, ha, hb, hl, h3⟩ := h1 i hi
  exact ⟨b, off, ha, by omega, hl, h3⟩
theorem SlP.part {w : World} {S : Nat → Prop} {size n c : Nat} {g : Nat → Nat → Value} {b off : Nat} (h : SlP w S size n g (.slice (some ⟨b, off, none⟩) n c)) (i m c' : Nat) (him : i + m ≤ n) : SlP w S size m (fun k j => g (i + k) j) (.slice (some ⟨b, off + i * size, none⟩) m c') := by
  obtain ⟨A, c0, hv, hm, h1⟩ := h
  cases hv
  refine ⟨_, _, rfl, by omega, fun k hk => ?_⟩
  obtain ⟨b', off', ha, hb, hl, h3⟩ := h1 (i + k) (by omega)
  cases ha
  exact ⟨b, _, rfl, hb, hl, fun j hj => by rw [← h3 j hj]; congr 2; rw [Nat.add_mul]; omega⟩
section
variable {t e : TypeId} {i : TypeInfo} {z : Value} {size bytes : Nat}
end
theorem flat_congr' {n size : Nat} {g h : Nat → Nat → Value} (hs : 0 < size) (he : ∀ i j, i < n → j < size → g i j = h i j) : flat n size g = flat n size h := by
  apply List.map_congr_left
  intro j hj
  have hj := List.mem_range.1 hj
  exact he _ _ ((Nat.div_lt_iff_lt_mul hs).2 hj) (Nat.mod_lt _ hs)
theorem flat_one (n : Nat) (V : Nat → Value) : flat n 1 (fun i _ => V i) = (List.range n).map V := by simp [flat]
theorem own_set {w : World} {base e g i n c : Nat} {xs : List Value} (h : w.ownsRow base e 1 (.slice (some ⟨g, 0, none⟩) n c) n xs) (u : Value) :
    (w.setCell ⟨g, i, none⟩ u).ownsRow base e 1 (.slice (some ⟨g, 0, none⟩) n c) n (xs.set i u) := by
  obtain ⟨hl, h⟩ := h
  rcases h with ⟨h1, _⟩ | ⟨g', cap, cur, hv, hb, hg, hc, hcm, hs, hx⟩
  · cases h1
  · cases hv
    refine ⟨by simpa using hl, .inr ⟨g, c, cur.setIfInBounds i u, rfl, hb, ?_, hc, hcm, by simpa using hs, ?_⟩⟩
    · show (w.heap.modify g _)[g]? = _
      rw [Array.getElem?_modify, if_pos rfl, hg]
      simp
    · rw [← hx, Array.toList_setIfInBounds, Nat.mul_one, List.take_set]
noncomputable def copF (ats : Array TypeId) (ty : TypeId) (args : Array Value) : Sem Value := Builtin.copy_ ats ty args
theorem cop_named {ats : Array TypeId} {ty : TypeId} {cs : Array Bool} {args : Array Value} : builtin .copy ats ty cs args = (do pure (.value (← copF ats ty args))) := rfl
end Go.Proofs.YtmbifmmkccghfaaGreat
