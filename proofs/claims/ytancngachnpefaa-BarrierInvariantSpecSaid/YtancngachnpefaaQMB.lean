/- What the iterators states and next of package barrier promise to callers that write memory above the range's own. (Printed by a program from BM, BN.) No condition. -/
import Derived.Test.YtancngachnpefaaQK
import Derived.Test.YtancngachnpefaaQBM
import Derived.Test.YtancngachnpefaaQS
import Derived.DeepKeys3
import Derived.WideKeyElems
import Derived.Maps.Own
import Derived.RangeFuncRecord
import Derived.Deep.CutBlock
import Derived.Test.YtancngachnpefaaQBB
import Derived.Test.YtancngachnpefaaQB
set_option linter.unusedVariables false
set_option linter.unusedSimpArgs false
set_option maxRecDepth 100000
set_option maxHeartbeats 4000000
namespace Go.Proofs.Ytancngachnpefaa
open Go.RowKit Go.Shelf
attribute [local go_sem] Oper.semAt_some
theorem grown_refl (A : World) (row : Option Nat) : A.grownBy A row := ⟨rfl, rfl, rfl, Nat.le_refl _, fun _ _ _ => rfl⟩
theorem grown_below {A B : World} {row : Option Nat} (h : Below A.heap.size A B) : A.grownBy B row := ⟨h.os, h.tape, h.output, h.size, fun i hi _ => h.block i hi⟩
theorem grown_drewN {A B : World} {row : Option Nat} (h : A.grownBy B row) (n : Nat) : A.grownBy (B.drewN n) row := by
  induction n with
  | zero => exact h
  | succ n ih => exact ⟨ih.os, ih.tape, ih.output, ih.size, ih.block⟩
theorem grown_cell {A B : World} {x i : Nat} (h : A.grownBy B (some x)) (v : Value) : A.grownBy (B.setCell ⟨x, i, none⟩ v) (some x) :=
  ⟨h.os, h.tape, h.output, by simpa using h.size, fun k hk hne => (Below.heap_setCell B ⟨x, i, none⟩ v k (fun e => hne (by rw [e]))).trans (h.block k hk hne)⟩
theorem World.grownBy.tr {A B C : World} {row : Option Nat} (h : A.grownBy B row) (k : B.grownBy C row) : A.grownBy C row :=
  ⟨k.os.trans h.os, k.tape.trans h.tape, k.output.trans h.output, Nat.le_trans h.size k.size, fun i hi hn => (k.block i (Nat.lt_of_lt_of_le hi h.size) hn).trans (h.block i hi hn)⟩
theorem states_seqO (n : Nat) (p : Pl) (hv : Hid p.Valid) (Bm : Nat) (w : World) (D : Nat) (R : Nat → Nat → Prop) (hm : Box w Bm (mostL p)) (hRm : ∀ s, ¬ R s Bm) (hRs : ∀ s, ¬ R s s) :
    SeqO Fence.wide n Try.prog 66 #[.pointer (some ⟨Bm, 0, none⟩)] (fun x : St => #[x.v]) (fun s => KeepsC D (R s)) (fun s => some s) (fun xs => xs = p.states) (fun pre => pre <+: p.states) (fun pre x => pre ++ [x] <+: p.states) w := fun l J Jx W hW hJ hJx hY h0 => by
  have HY := Lib.hid hY
  have HJ := Lib.hid hJ
  have HJx := Lib.hid hJx
  clear hY hJ hJx
  have hm := hm.later hW
  have hRa : ¬ R W.heap.size W.heap.size := hRs _
  have hml := hm.lt
  have hne : Bm ≠ W.heap.size := Nat.ne_of_lt hml
  have hCP := Lib.hid (count_pos hv.out)
  refine callsIn_of_wp Try.func66 rfl trivial ?_ rfl
  simp only [Try.ntmps66, List.size_toArray, List.length_cons, List.length_nil, Nat.reduceAdd, Nat.reduceSub, Array.replicate_succ, Array.replicate_zero, List.push_toArray, List.append_toArray, List.nil_append, List.cons_append]
  refine wpIn_wide.2 ?_
  go_wp2_with fail
  have hbA := (Below.refl W.heap.size W).alloc (Nat.le_refl _) (.cells #[.int .i64 0, .int .i64 0, .int .i64 0, .int .i64 0, .int .i64 0, .int .i64 0] 127)
  have Y0 := Box.new W [.int .i64 0, .int .i64 0, .int .i64 0, .int .i64 0, .int .i64 0, .int .i64 0] 127
  have M0 := hm.alloc (.cells #[.int .i64 0, .int .i64 0, .int .i64 0, .int .i64 0, .int .i64 0, .int .i64 0] 127)
  have J0 := HJ.out _ _ _ h0 (grown_below hbA)
  generalize W.alloc (.cells #[.int .i64 0, .int .i64 0, .int .i64 0, .int .i64 0, .int .i64 0, .int .i64 0] 127) = W1 at hbA Y0 M0 J0 ⊢
  go_loopg [] p.count (fun g wr => ∃ k : Nat, k + g = p.count ∧ 0 < g ∧ Box wr W.heap.size (p.stAt k).cells ∧ Box wr Bm (mostL p) ∧ J ((List.range k).map p.stAt) wr)
  case atStart =>
    refine ⟨0, by omega, hCP.out, ?_, M0, J0⟩
    rw [stAt_zero]
    exact Y0
  case round =>
    obtain ⟨k, hkg, hg0, Y, M, hJ0⟩ := hrel
    clear Y0 M0 J0 hbA hm
    obtain ⟨wo, rfl⟩ : ∃ wo : World, wo = wr := ⟨_, rfl⟩
    obtain ⟨G, rfl⟩ : ∃ G, G = gk := ⟨_, rfl⟩
    have hkc : k < p.count := by omega
    have hsucc := Lib.hid (stAt_succ hv.out k)
    have hlast := Lib.hid (stAt_last hv.out hkc)
    obtain ⟨f0, t0, a0, c0, hy0, hR0⟩ := HY.out _ (p.stAt k) wo hJ0 (by rw [← states_take]; exact List.IsPrefix.map _ (by rw [List.prefix_iff_eq_take, List.length_range, List.take_range]; congr 1; omega))
    have HT := Lib.hid (states_take p k)
    rw [← HT.out] at hR0
    obtain ⟨y, hy⟩ : ∃ y, p.stAt k = y := ⟨_, rfl⟩
    rw [hy] at Y hy0 hsucc hlast
    obtain ⟨x0, x1, x2, x3, x4, x5⟩ := y
    simp only [St.v] at hy0
    have hbd := Pl.hasB_bd (stAt_has hv.out hkc)
    rw [hy] at hbd
    dsimp only at hbd
    have HB := Lib.hid (small6 hv.out hbd)
    have HS := Lib.hid hy
    clear hy hbd
    have hal := Y.lt
    obtain ⟨Yc0, Yc1, Yc2, Yc3, Yc4, Yc5⟩ := Y.c6
    refine (wpIn_wide (n := n)).1 ?_
    gi_wp2_with fail
    refine ⟨(fun h => by cases h), hR0.mono ?_⟩
    rintro e W2 (⟨rfl, hJ3, hK⟩ | ⟨rfl, hx⟩)
    rotate_left
    · gi_wp2
      refine bodyPost_ret (results_none rfl _ _ _) rfl ?_
      refine ⟨⟨_, rfl⟩, .inr ⟨_, ?_, hx⟩⟩
      show List.map _ _ <+: List.map _ _
      exact List.IsPrefix.map _ (by rw [List.prefix_iff_eq_take, List.length_range, List.take_range]; congr 1; omega)
    have Y := hK.box Y hRa
    have M := hK.box M (hRm _)
    have hal := Nat.lt_of_lt_of_le hal hK.size
    clear hR0 hy0 hJ0 hK Yc0 Yc1 Yc2 Yc3 Yc4 Yc5 hml
    have hml := M.lt
    gi_wp2_with fail
    refine wpIn_wide.2 ?_
    go_loopw [4] (fun i wr => W2.grownBy wr (some W.heap.size) ∧ Box wr Bm (mostL p) ∧ ((i = .int .i64 (5) ∧ Box wr W.heap.size [.int .i64 x0, .int .i64 x1, .int .i64 x2, .int .i64 x3, .int .i64 x4, .int .i64 x5]) ∨ (i = .int .i64 (4) ∧ x5 = p.age ∧ Box wr W.heap.size [.int .i64 x0, .int .i64 x1, .int .i64 x2, .int .i64 x3, .int .i64 x4, .int .i64 0]) ∨ (i = .int .i64 (3) ∧ x5 = p.age ∧ x4 = p.orders ∧ Box wr W.heap.size [.int .i64 x0, .int .i64 x1, .int .i64 x2, .int .i64 x3, .int .i64 0, .int .i64 0]) ∨ (i = .int .i64 (2) ∧ x5 = p.age ∧ x4 = p.orders ∧ x3 = p.m1 ∧ Box wr W.heap.size [.int .i64 x0, .int .i64 x1, .int .i64 x2, .int .i64 0, .int .i64 0, .int .i64 0]) ∨ (i = .int .i64 (1) ∧ x5 = p.age ∧ x4 = p.orders ∧ x3 = p.m1 ∧ x2 = p.m0 ∧ Box wr W.heap.size [.int .i64 x0, .int .i64 x1, .int .i64 0, .int .i64 0, .int .i64 0, .int .i64 0]) ∨ (i = .int .i64 (0) ∧ x5 = p.age ∧ x4 = p.orders ∧ x3 = p.m1 ∧ x2 = p.m0 ∧ x1 = p.positions ∧ Box wr W.heap.size [.int .i64 x0, .int .i64 0, .int .i64 0, .int .i64 0, .int .i64 0, .int .i64 0]) ∨ (i = .int .i64 (-1) ∧ x5 = p.age ∧ x4 = p.orders ∧ x3 = p.m1 ∧ x2 = p.m0 ∧ x1 = p.positions ∧ x0 = p.top ∧ Box wr W.heap.size [.int .i64 0, .int .i64 0, .int .i64 0, .int .i64 0, .int .i64 0, .int .i64 0]))) (fun i _ => (intOf i + 1).toNat)
    case atStart => exact ⟨grown_refl _ _, M, .inl ⟨rfl, Y⟩⟩
    case round =>
      clear Y M hal hml
      obtain ⟨hb2, M, hrel⟩ := hrel
      obtain ⟨wi, rfl⟩ : ∃ wi : World, wi = wr := ⟨_, rfl⟩
      have hJ4 := HJ.out _ _ _ hJ3 hb2
      have hml := M.lt
      rcases hrel with ⟨rfl, Y⟩ | ⟨rfl, g5, Y⟩ | ⟨rfl, g5, g4, Y⟩ | ⟨rfl, g5, g4, g3, Y⟩ | ⟨rfl, g5, g4, g3, g2, Y⟩ | ⟨rfl, g5, g4, g3, g2, g1, Y⟩ | ⟨rfl, g5, g4, g3, g2, g1, g0, Y⟩
      · have hal := Y.lt
        obtain ⟨Yc0, Yf0, Yc1, Yf1, Yc2, Yf2, Yc3, Yf3, Yc4, Yf4, Yc5, Yf5⟩ := Y.f6
        have Yz : W.heap.size < wi.heap.size := Y.lt
        obtain ⟨Mc0, Mc1, Mc2, Mc3, Mc4, Mc5⟩ := M.c6
        by_cases g5 : x5 = p.age
        · have hd : decide (x5 = p.age) = true := decide_eq_true g5
          have hd2 : (x5 == p.age) = true := by simp [g5]
          have G5 := Lib.hid g5
          clear g5
          go_wp2_with (fail)
          go_quiet (fail)
          go_wp2
          refine ⟨⟨grown_cell (grown_drewN hb2 nq) _, M.other (Ne.symm (Ne.symm hne)) _, .inr (.inl ⟨by go_num, G5.out, Y.set 5 _⟩)⟩, by simp [intOf]⟩
        · have hd : decide (x5 = p.age) = false := decide_eq_false g5
          have hd2 : (x5 == p.age) = false := by simp [g5]
          go_wp2_with (fail)
          go_quiet (fail)
          go_wp2
          have hB := HB.out
          have hw : wrap64 (x5 + 1) = x5 + 1 := by unfold wrap64; omega
          clear hB
          refine wpIn_wide.2 ?_
          go_wp2
          go_roundg (G - 1)
          case measure => omega
          case rel =>
            refine ⟨k + 1, by omega, ?_, ?_, M.other (a := ⟨W.heap.size, 5, none⟩) hne _, HJ.out _ _ _ hJ4 (grown_cell (i := 5) (grown_drewN (grown_refl _ _) nq) _)⟩
            · rcases Nat.eq_zero_or_pos (G - 1) with hz | hz
              · exact absurd (by have := (stAt_end hv.out (k := k) (by omega)).1; rw [HS.out] at this; exact this) g5
              · exact hz
            · rw [show p.stAt (k + 1) = _ from hsucc.out.d5 g5]
              exact (Y.drewN nq).set 5 _
      · have hal := Y.lt
        obtain ⟨Yc0, Yf0, Yc1, Yf1, Yc2, Yf2, Yc3, Yf3, Yc4, Yf4, Yc5, Yf5⟩ := Y.f6
        have Yz : W.heap.size < wi.heap.size := Y.lt
        obtain ⟨Mc0, Mc1, Mc2, Mc3, Mc4, Mc5⟩ := M.c6
        by_cases g4 : x4 = p.orders
        · have hd : decide (x4 = p.orders) = true := decide_eq_true g4
          have hd2 : (x4 == p.orders) = true := by simp [g4]
          have G4 := Lib.hid g4
          clear g4
          go_wp2_with (fail)
          go_quiet (fail)
          go_wp2
          refine ⟨⟨grown_cell (grown_drewN hb2 nq) _, M.other (Ne.symm (Ne.symm hne)) _, .inr (.inr (.inl ⟨by go_num, g5, G4.out, Y.set 4 _⟩))⟩, by simp [intOf]⟩
        · have hd : decide (x4 = p.orders) = false := decide_eq_false g4
          have hd2 : (x4 == p.orders) = false := by simp [g4]
          go_wp2_with (fail)
          go_quiet (fail)
          go_wp2
          have hB := HB.out
          have hw : wrap64 (x4 + 1) = x4 + 1 := by unfold wrap64; omega
          clear hB
          refine wpIn_wide.2 ?_
          go_wp2
          go_roundg (G - 1)
          case measure => omega
          case rel =>
            refine ⟨k + 1, by omega, ?_, ?_, M.other (a := ⟨W.heap.size, 4, none⟩) hne _, HJ.out _ _ _ hJ4 (grown_cell (i := 4) (grown_drewN (grown_refl _ _) nq) _)⟩
            · rcases Nat.eq_zero_or_pos (G - 1) with hz | hz
              · exact absurd (by have := (stAt_end hv.out (k := k) (by omega)).2.1; rw [HS.out] at this; exact this) g4
              · exact hz
            · rw [show p.stAt (k + 1) = _ from hsucc.out.d4 g5 g4]
              exact (Y.drewN nq).set 4 _
      · have hal := Y.lt
        obtain ⟨Yc0, Yf0, Yc1, Yf1, Yc2, Yf2, Yc3, Yf3, Yc4, Yf4, Yc5, Yf5⟩ := Y.f6
        have Yz : W.heap.size < wi.heap.size := Y.lt
        obtain ⟨Mc0, Mc1, Mc2, Mc3, Mc4, Mc5⟩ := M.c6
        by_cases g3 : x3 = p.m1
        · have hd : decide (x3 = p.m1) = true := decide_eq_true g3
          have hd2 : (x3 == p.m1) = true := by simp [g3]
          have G3 := Lib.hid g3
          clear g3
          go_wp2_with (fail)
          go_quiet (fail)
          go_wp2
          refine ⟨⟨grown_cell (grown_drewN hb2 nq) _, M.other (Ne.symm (Ne.symm hne)) _, .inr (.inr (.inr (.inl ⟨by go_num, g5, g4, G3.out, Y.set 3 _⟩)))⟩, by simp [intOf]⟩
        · have hd : decide (x3 = p.m1) = false := decide_eq_false g3
          have hd2 : (x3 == p.m1) = false := by simp [g3]
          go_wp2_with (fail)
          go_quiet (fail)
          go_wp2
          have hB := HB.out
          have hw : wrap64 (x3 + 1) = x3 + 1 := by unfold wrap64; omega
          clear hB
          refine wpIn_wide.2 ?_
          go_wp2
          go_roundg (G - 1)
          case measure => omega
          case rel =>
            refine ⟨k + 1, by omega, ?_, ?_, M.other (a := ⟨W.heap.size, 3, none⟩) hne _, HJ.out _ _ _ hJ4 (grown_cell (i := 3) (grown_drewN (grown_refl _ _) nq) _)⟩
            · rcases Nat.eq_zero_or_pos (G - 1) with hz | hz
              · exact absurd (by have := (stAt_end hv.out (k := k) (by omega)).2.2.1; rw [HS.out] at this; exact this) g3
              · exact hz
            · rw [show p.stAt (k + 1) = _ from hsucc.out.d3 g5 g4 g3]
              exact (Y.drewN nq).set 3 _
      · have hal := Y.lt
        obtain ⟨Yc0, Yf0, Yc1, Yf1, Yc2, Yf2, Yc3, Yf3, Yc4, Yf4, Yc5, Yf5⟩ := Y.f6
        have Yz : W.heap.size < wi.heap.size := Y.lt
        obtain ⟨Mc0, Mc1, Mc2, Mc3, Mc4, Mc5⟩ := M.c6
        by_cases g2 : x2 = p.m0
        · have hd : decide (x2 = p.m0) = true := decide_eq_true g2
          have hd2 : (x2 == p.m0) = true := by simp [g2]
          have G2 := Lib.hid g2
          clear g2
          go_wp2_with (fail)
          go_quiet (fail)
          go_wp2
          refine ⟨⟨grown_cell (grown_drewN hb2 nq) _, M.other (Ne.symm (Ne.symm hne)) _, .inr (.inr (.inr (.inr (.inl ⟨by go_num, g5, g4, g3, G2.out, Y.set 2 _⟩))))⟩, by simp [intOf]⟩
        · have hd : decide (x2 = p.m0) = false := decide_eq_false g2
          have hd2 : (x2 == p.m0) = false := by simp [g2]
          go_wp2_with (fail)
          go_quiet (fail)
          go_wp2
          have hB := HB.out
          have hw : wrap64 (x2 + 1) = x2 + 1 := by unfold wrap64; omega
          clear hB
          refine wpIn_wide.2 ?_
          go_wp2
          go_roundg (G - 1)
          case measure => omega
          case rel =>
            refine ⟨k + 1, by omega, ?_, ?_, M.other (a := ⟨W.heap.size, 2, none⟩) hne _, HJ.out _ _ _ hJ4 (grown_cell (i := 2) (grown_drewN (grown_refl _ _) nq) _)⟩
            · rcases Nat.eq_zero_or_pos (G - 1) with hz | hz
              · exact absurd (by have := (stAt_end hv.out (k := k) (by omega)).2.2.2.1; rw [HS.out] at this; exact this) g2
              · exact hz
            · rw [show p.stAt (k + 1) = _ from hsucc.out.d2 g5 g4 g3 g2]
              exact (Y.drewN nq).set 2 _
      · have hal := Y.lt
        obtain ⟨Yc0, Yf0, Yc1, Yf1, Yc2, Yf2, Yc3, Yf3, Yc4, Yf4, Yc5, Yf5⟩ := Y.f6
        have Yz : W.heap.size < wi.heap.size := Y.lt
        obtain ⟨Mc0, Mc1, Mc2, Mc3, Mc4, Mc5⟩ := M.c6
        by_cases g1 : x1 = p.positions
        · have hd : decide (x1 = p.positions) = true := decide_eq_true g1
          have hd2 : (x1 == p.positions) = true := by simp [g1]
          have G1 := Lib.hid g1
          clear g1
          go_wp2_with (fail)
          go_quiet (fail)
          go_wp2
          refine ⟨⟨grown_cell (grown_drewN hb2 nq) _, M.other (Ne.symm (Ne.symm hne)) _, .inr (.inr (.inr (.inr (.inr (.inl ⟨by go_num, g5, g4, g3, g2, G1.out, Y.set 1 _⟩)))))⟩, by simp [intOf]⟩
        · have hd : decide (x1 = p.positions) = false := decide_eq_false g1
          have hd2 : (x1 == p.positions) = false := by simp [g1]
          go_wp2_with (fail)
          go_quiet (fail)
          go_wp2
          have hB := HB.out
          have hw : wrap64 (x1 + 1) = x1 + 1 := by unfold wrap64; omega
          clear hB
          refine wpIn_wide.2 ?_
          go_wp2
          go_roundg (G - 1)
          case measure => omega
          case rel =>
            refine ⟨k + 1, by omega, ?_, ?_, M.other (a := ⟨W.heap.size, 1, none⟩) hne _, HJ.out _ _ _ hJ4 (grown_cell (i := 1) (grown_drewN (grown_refl _ _) nq) _)⟩
            · rcases Nat.eq_zero_or_pos (G - 1) with hz | hz
              · exact absurd (by have := (stAt_end hv.out (k := k) (by omega)).2.2.2.2.1; rw [HS.out] at this; exact this) g1
              · exact hz
            · rw [show p.stAt (k + 1) = _ from hsucc.out.d1 g5 g4 g3 g2 g1]
              exact (Y.drewN nq).set 1 _
      · have hal := Y.lt
        obtain ⟨Yc0, Yf0, Yc1, Yf1, Yc2, Yf2, Yc3, Yf3, Yc4, Yf4, Yc5, Yf5⟩ := Y.f6
        have Yz : W.heap.size < wi.heap.size := Y.lt
        obtain ⟨Mc0, Mc1, Mc2, Mc3, Mc4, Mc5⟩ := M.c6
        by_cases g0 : x0 = p.top
        · have hd : decide (x0 = p.top) = true := decide_eq_true g0
          have hd2 : (x0 == p.top) = true := by simp [g0]
          have G0 := Lib.hid g0
          clear g0
          go_wp2_with (fail)
          go_quiet (fail)
          go_wp2
          refine ⟨⟨grown_cell (grown_drewN hb2 nq) _, M.other (Ne.symm (Ne.symm hne)) _, .inr (.inr (.inr (.inr (.inr (.inr (⟨by go_num, g5, g4, g3, g2, g1, G0.out, Y.set 0 _⟩))))))⟩, by simp [intOf]⟩
        · have hd : decide (x0 = p.top) = false := decide_eq_false g0
          have hd2 : (x0 == p.top) = false := by simp [g0]
          go_wp2_with (fail)
          go_quiet (fail)
          go_wp2
          have hB := HB.out
          have hw : wrap64 (x0 + 1) = x0 + 1 := by unfold wrap64; omega
          clear hB
          refine wpIn_wide.2 ?_
          go_wp2
          go_roundg (G - 1)
          case measure => omega
          case rel =>
            refine ⟨k + 1, by omega, ?_, ?_, M.other (a := ⟨W.heap.size, 0, none⟩) hne _, HJ.out _ _ _ hJ4 (grown_cell (i := 0) (grown_drewN (grown_refl _ _) nq) _)⟩
            · rcases Nat.eq_zero_or_pos (G - 1) with hz | hz
              · exact absurd (by have := (stAt_end hv.out (k := k) (by omega)).2.2.2.2.2; rw [HS.out] at this; exact this) g0
              · exact hz
            · rw [show p.stAt (k + 1) = _ from hsucc.out.d0 g5 g4 g3 g2 g1 g0]
              exact (Y.drewN nq).set 0 _
      · have hal := Y.lt
        go_wp2_with (fail)
        go_quiet (fail)
        go_wp2
        refine wpIn_wide.2 ?_
        go_wp2
        refine bodyPost_ret (results_none rfl _ _ _) rfl ?_
        refine ⟨⟨_, rfl⟩, .inl ⟨_, ?_, HJ.out _ _ _ hJ4 (grown_drewN (grown_refl _ _) nq)⟩⟩
        show _ = List.map _ (List.range p.count)
        rw [hlast.out g5 g4 g3 g2 g1 g0]
theorem next_seqO (n : Nat) (p : Pl) (c : List Ln) (V : Value) (s : St) (hv : Hid p.Valid) (Bg Bs : Nat) (w : World) (D : Nat) (R : Nat → Nat → Prop) (hDw : D ≤ w.heap.size) (hC : Hid (CodeAt w D V c)) (hg : Box w Bg (gmL p V)) (hs : Box w Bs s.cells) (hRg : ∀ k, ¬ R k Bg) (hRs : ∀ k, ¬ R k Bs) :
    SeqO Fence.wide n Try.prog 67 #[.pointer (some ⟨Bg, 0, none⟩), .pointer (some ⟨Bs, 0, none⟩)] (fun x : Sh × St => #[x.1.v, x.2.v]) (fun k => KeepsC D (R k)) (fun _ => none) (fun xs => xs = p.nexts c s (p.nf * p.nm)) (fun pre => pre <+: p.nexts c s (p.nf * p.nm)) (fun pre x => pre ++ [x] <+: p.nexts c s (p.nf * p.nm)) w := fun l J Jx W hW hJ hJx hY h0 => by
  have HY := Lib.hid hY
  have HJ := Lib.hid hJ
  have HJx := Lib.hid hJx
  clear hY hJ hJx
  have hg := hg.later hW
  have hs := hs.later hW
  have HC := Lib.hid (hC.out.below (hW.mono hDw))
  have hDW := Nat.le_trans hDw hW.size
  have hf := hv.out.feed
  have ho := hv.out.orders
  obtain ⟨nf, hnf⟩ : ∃ nf, p.nf = nf := ⟨_, rfl⟩
  obtain ⟨nm, hnm⟩ : ∃ nm, p.nm = nm := ⟨_, rfl⟩
  have ef : p.feed + 1 = (nf : Int) := by rw [← hnf, Pl.nf]; omega
  have eo : p.orders + 2 = (nm : Int) := by rw [← hnm, Pl.nm]; omega
  have HNF := Lib.hid hnf
  have HNM := Lib.hid hnm
  have EF := Lib.hid ef
  have EO := Lib.hid eo
  have hnf16 : nf ≤ 16 := by omega
  have hnm9 : nm ≤ 9 := by omega
  rw [hnf, hnm]
  have w1 : IntKind.i64.wrap (p.feed + 1) = (nf : Int) := by rw [wrap_id (by omega) (by omega), ef]
  have w2 : IntKind.i64.wrap (p.orders + 2) = (nm : Int) := by rw [wrap_id (by omega) (by omega), eo]
  have w3 : wrap64 (p.feed + 1) = (nf : Int) := by unfold wrap64; omega
  have w4 : wrap64 (p.orders + 2) = (nm : Int) := by unfold wrap64; omega
  clear ef eo hnf hnm hf ho
  refine callsIn_of_wp Try.func67 rfl trivial ?_ rfl
  simp only [Try.ntmps67, List.size_toArray, List.length_cons, List.length_nil, Nat.reduceAdd, Nat.reduceSub, Array.replicate_succ, Array.replicate_zero, List.push_toArray, List.append_toArray, List.nil_append, List.cons_append]
  refine wpIn_wide.2 ?_
  have hgz := hg.lt
  have x8 : W.cell? ⟨Bg, 8, none⟩ = some (.int .i64 p.feed) := hg.cell 8
  go_wp2_with fail
  clear x8
  go_loopw [14] (fun i wr => ∃ f : Nat, f ≤ nf ∧ i = .int .i64 f ∧ Below D W wr ∧ Box wr Bg (gmL p V) ∧ Box wr Bs s.cells ∧ Hid (J (p.nexts c s (f * nm)) wr)) (fun i _ => nf - (intOf i).toNat)
  case atStart =>
    refine ⟨0, by omega, rfl, Below.refl _ _, hg, hs, ?_⟩
    rw [Nat.zero_mul]
    exact Lib.hid h0
  case round =>
    clear hg hs h0 hgz
    obtain ⟨f, hf, rfl, hb, hg, hs, hJ0⟩ := hrel
    obtain ⟨wo, rfl⟩ : ∃ wo : World, wo = wr := ⟨_, rfl⟩
    have hgz := hg.lt
    rcases Nat.lt_or_ge f nf with hlt | hge
    rotate_left
    · obtain rfl : f = nf := by omega
      have hd1 : decide ((f : Int) < (f : Int)) = false := by simp
      go_wp2
      go_end0
      exact ⟨⟨_, rfl⟩, .inl ⟨_, rfl, hJ0.out⟩⟩
    have hd1 : decide ((f : Int) < (nf : Int)) = true := decide_eq_true (by omega)
    have x10 : wo.cell? ⟨Bg, 10, none⟩ = some (.int .i64 p.orders) := hg.cell 10
    go_wp2_with fail
    clear hd1 x10
    go_loopw [21] (fun i wr => ∃ m : Nat, m ≤ nm ∧ i = .int .i64 m ∧ Below D W wr ∧ Box wr Bg (gmL p V) ∧ Box wr Bs s.cells ∧ Hid (J (p.nexts c s (f * nm + m)) wr)) (fun i _ => nm - (intOf i).toNat)
    case atStart => exact ⟨0, by omega, rfl, hb, hg, hs, hJ0⟩
    case round =>
      clear hb hg hs hJ0 hgz
      obtain ⟨m, hm, rfl, hb, hg, hs, hJ0⟩ := hrel
      obtain ⟨wi, rfl⟩ : ∃ wi : World, wi = wr := ⟨_, rfl⟩
      rcases Nat.lt_or_ge m nm with hlm | hgm
      rotate_left
      · obtain rfl : m = nm := by omega
        have hd1 : decide ((m : Int) < (m : Int)) = false := by simp
        go_wp2
        refine ⟨⟨f + 1, by omega, by go_num, hb, hg, hs, ?_⟩, by simp [intOf]; omega⟩
        rw [Nat.add_mul, Nat.one_mul]
        exact hJ0
      have hd1 : decide ((m : Int) < (nm : Int)) = true := decide_eq_true (by omega)
      have hsh : p.shAt (f * nm + m) = ⟨(f : Int), (m : Int) - 1⟩ := by
        have := shAt_at p (f := f) (m := m) (by rw [HNM.out]; exact hlm)
        rw [HNM.out] at this
        exact this
      obtain ⟨t, o, er, HT⟩ : ∃ t o er, Hid (nextT p c s ⟨(f : Int), (m : Int) - 1⟩ = (t, o, er)) := ⟨_, _, _, rfl⟩
      have hnx := nexts_succ p c s (f * nm + m)
      rw [hsh, HT.out] at hnx
      dsimp only at hnx
      have HNX := Lib.hid hnx
      clear hnx hsh
      have hgz := hg.lt
      have hsz := hs.lt
      have hgc0 : wi.cell? ⟨Bg, 0, none⟩ = some (.int .i64 p.top) := hg.cell 0
      have hgc1 : wi.cell? ⟨Bg, 1, none⟩ = some (.int .i64 p.bank) := hg.cell 1
      have hgc2 : wi.cell? ⟨Bg, 2, none⟩ = some (.int .i64 p.siphon) := hg.cell 2
      have hgc3 : wi.cell? ⟨Bg, 3, none⟩ = some (.int .i64 p.start) := hg.cell 3
      have hgc4 : wi.cell? ⟨Bg, 4, none⟩ = some (.int .i64 p.positions) := hg.cell 4
      have hgc5 : wi.cell? ⟨Bg, 5, none⟩ = some (.int .i64 p.rate) := hg.cell 5
      have hgc6 : wi.cell? ⟨Bg, 6, none⟩ = some (.int .i64 p.step) := hg.cell 6
      have hgc7 : wi.cell? ⟨Bg, 7, none⟩ = some (.int .i64 p.pass) := hg.cell 7
      have hgc8 : wi.cell? ⟨Bg, 8, none⟩ = some (.int .i64 p.feed) := hg.cell 8
      have hgc9 : wi.cell? ⟨Bg, 9, none⟩ = some (.int .i64 p.pipe) := hg.cell 9
      have hgc10 : wi.cell? ⟨Bg, 10, none⟩ = some (.int .i64 p.orders) := hg.cell 10
      have hgc11 : wi.cell? ⟨Bg, 11, none⟩ = some (.int .i64 p.age) := hg.cell 11
      have hgc12 : wi.cell? ⟨Bg, 12, none⟩ = some (V) := hg.cell 12
      obtain ⟨hsc0, hsc1, hsc2, hsc3, hsc4, hsc5⟩ := hs.c6
      have X6 := Box.new wi [.int .i64 (f : Int), .int .i64 ((m : Int) - 1)] 37
      have hbS := (Below.refl wi.heap.size wi).alloc (Nat.le_refl _) (.cells #[.int .i64 (f : Int), .int .i64 ((m : Int) - 1)] 37)
      refine (wpIn_wide (n := n)).1 ?_
      gi_wp2_with fail
      refine ⟨trivial, (fun h => by cases h), ?_⟩
      have hg1 := hg.alloc (.cells #[.int .i64 (f : Int), .int .i64 ((m : Int) - 1)] 37)
      have hs1 := hs.alloc (.cells #[.int .i64 (f : Int), .int .i64 ((m : Int) - 1)] 37)
      have hJ1 := Lib.hid (HJ.out _ _ _ hJ0.out (grown_below hbS))
      have hb1 := hb.trans (hbS.mono (Nat.le_trans hDW hb.size))
      have hz6 := X6.lt
      clear hgc0 hgc1 hgc2 hgc3 hgc4 hgc5 hgc6 hgc7 hgc8 hgc9 hgc10 hgc11 hgc12 hsc0 hsc1 hsc2 hsc3 hsc4 hsc5 hgz hsz hg hs hJ0 hb hbS
      generalize wi.heap.size = S6 at X6 hz6 ⊢
      generalize wi.alloc (.cells #[.int .i64 (f : Int), .int .i64 ((m : Int) - 1)] 37) = w1 at X6 hz6 hg1 hs1 hJ1 hb1 ⊢
      refine (callsIn_wide.2 (next_is (p := p) (s := s) (x := ⟨(f : Int), (m : Int) - 1⟩) HT ((HC.out.below hb1).more (Nat.le_trans hDW hb1.size)))).mono ?_
      rintro e w2 ⟨rfl, hb2⟩
      have X6 := X6.later hb2
      have hg2 := hg1.later hb2
      have hs2 := hs1.later hb2
      have hJ2 := Lib.hid (HJ.out _ _ _ hJ1.out (grown_below hb2))
      have hb3 := hb1.trans (hb2.mono (Nat.le_trans hDW hb1.size))
      obtain ⟨t0, t1, t2, t3, t4, t5⟩ := t
      have hbT := (Below.refl w2.heap.size w2).alloc (Nat.le_refl _) (.cells #[.int .i64 t0, .int .i64 t1, .int .i64 t2, .int .i64 t3, .int .i64 t4, .int .i64 t5] 30)
      have X6 := X6.alloc (.cells #[.int .i64 t0, .int .i64 t1, .int .i64 t2, .int .i64 t3, .int .i64 t4, .int .i64 t5] 30)
      have hg3 := hg2.alloc (.cells #[.int .i64 t0, .int .i64 t1, .int .i64 t2, .int .i64 t3, .int .i64 t4, .int .i64 t5] 30)
      have hs3 := hs2.alloc (.cells #[.int .i64 t0, .int .i64 t1, .int .i64 t2, .int .i64 t3, .int .i64 t4, .int .i64 t5] 30)
      have hJ3 := Lib.hid (HJ.out _ _ _ hJ2.out (grown_below hbT))
      have hb4 := hb3.trans (hbT.mono (Nat.le_trans hDW hb3.size))
      clear hg1 hs1 hJ1 hb1 hz6 hg2 hs2 hJ2 hbT hb2 hb3
      have hz6 := X6.lt
      have x60 : (w2.alloc (.cells #[.int .i64 t0, .int .i64 t1, .int .i64 t2, .int .i64 t3, .int .i64 t4, .int .i64 t5] 30)).cell? ⟨S6, 0, none⟩ = some (.int .i64 (f : Int)) := X6.cell 0
      have x61 : (w2.alloc (.cells #[.int .i64 t0, .int .i64 t1, .int .i64 t2, .int .i64 t3, .int .i64 t4, .int .i64 t5] 30)).cell? ⟨S6, 1, none⟩ = some (.int .i64 ((m : Int) - 1)) := X6.cell 1
      have hlen : p.nexts c s (f * nm + m) ++ [(⟨(f : Int), (m : Int) - 1⟩, ⟨t0, t1, t2, t3, t4, t5⟩)] <+: p.nexts c s (nf * nm) := by
        rw [← HNX.out]
        refine nexts_pre p c s ?_
        have h2 := Nat.mul_le_mul_right nm (show f + 1 ≤ nf by omega)
        rw [Nat.add_mul, Nat.one_mul] at h2
        omega
      obtain ⟨f0, q0, a0, c0, hy0, hR0⟩ := HY.out _ (⟨(f : Int), (m : Int) - 1⟩, ⟨t0, t1, t2, t3, t4, t5⟩) _ hJ3.out (by rw [HNF.out, HNM.out]; exact hlen)
      rw [← HNX.out] at hR0
      simp only [St.v, Sh.v] at hy0
      gi_wp2_with fail
      refine ⟨(fun h => by cases h), hR0.mono ?_⟩
      rintro e W2 (⟨rfl, hJ4, hK⟩ | ⟨rfl, hx⟩)
      rotate_left
      · gi_wp2
        refine bodyPost_ret (results_none rfl _ _ _) rfl ?_
        refine ⟨⟨_, rfl⟩, .inr ⟨_, nexts_pre p c s ?_, hx⟩⟩
        have h2 := Nat.mul_le_mul_right nm (show f + 1 ≤ nf by omega)
        rw [Nat.add_mul, Nat.one_mul] at h2
        omega
      have hg := hK.box hg3 (hRg _)
      have hs := hK.box hs3 (hRs _)
      have hb := hb4.trans hK.low
      clear hR0 hy0 hJ3 hK hg3 hs3 hb4 x60 x61
      gi_wp2
      refine ⟨⟨m + 1, by omega, by go_num, hb, hg, hs, ?_⟩, by simp [intOf]; omega⟩
      rw [← Nat.add_assoc]
      exact Lib.hid hJ4
end Go.Proofs.Ytancngachnpefaa
namespace Go.Proofs.Ytancngachnpefaa
open Go.RowKit Go.WideMaps Go.ChangeMaps Go.ChangeShapes
theorem St.ext' {a b : St} (h0 : a.level = b.level) (h1 : a.position = b.position) (h2 : a.p0 = b.p0) (h3 : a.p1 = b.p1) (h4 : a.order = b.order) (h5 : a.age = b.age) : a = b := by
  cases a; cases b
  simp only at h0 h1 h2 h3 h4 h5
  subst h0 h1 h2 h3 h4 h5
  rfl
instance : DecidableEq St := fun a b => decidable_of_iff (a.level = b.level ∧ a.position = b.position ∧ a.p0 = b.p0 ∧ a.p1 = b.p1 ∧ a.order = b.order ∧ a.age = b.age)
  ⟨fun ⟨h0, h1, h2, h3, h4, h5⟩ => St.ext' h0 h1 h2 h3 h4 h5, fun h => by subst h; exact ⟨rfl, rfl, rfl, rfl, rfl, rfl⟩⟩
theorem stv_inj {a b : St} (h : a.v = b.v) : a = b := by
  simp only [St.v, Value.agg.injEq, Array.mk.injEq, List.cons.injEq, Value.int.injEq, true_and, and_true] at h
  obtain ⟨h0, h1, h2, h3, h4, h5⟩ := h
  exact St.ext' h0 h1 h2 h3 h4 h5
def in64 (n : Int) : Prop := -9223372036854775808 ≤ n ∧ n ≤ 9223372036854775807
structure St.Wide (s : St) : Prop where
  level : in64 s.level
  position : in64 s.position
  p0 : in64 s.p0
  p1 : in64 s.p1
  order : in64 s.order
  age : in64 s.age
theorem wf64 {n : Int} (h : in64 n) : (Lit.int .i64 n).wf = true := by
  obtain ⟨h1, h2⟩ := h
  have h3 : IntKind.i64.min = -9223372036854775808 := rfl
  simp [Lit.wf]
  exact ⟨by omega, by omega⟩
theorem st_law : KeyLaw Try.prog 30 := deep_law (m := 3) (by omega) (by kernel_rfl) (by kernel_rfl) (by kernel_rfl)
theorem st_lits (d : Nat) {s : St} (h : s.Wide) : Try.prog.keyLits (d + 3) 30 s.v.cells.toList = some [.int .i64 s.level, .int .i64 s.position, .int .i64 s.p0, .int .i64 s.p1, .int .i64 s.order, .int .i64 s.age] := by
  have c1 : Try.prog.cellsOf 30 = 6 := by kernel_rfl
  have c2 : Try.prog.cellsOf 28 = 2 := by kernel_rfl
  have c3 : Try.prog.cellsOf 3 = 1 := by kernel_rfl
  have hr : List.range 2 = [0, 1] := rfl
  simp [Program.keyLits, Value.cells, Try.underlying30, Try.underlying3, Try.underlying28, c1, c2, c3, hr, wf64 h.level, wf64 h.position, wf64 h.p0, wf64 h.p1, wf64 h.order, wf64 h.age]
theorem st_key {s : St} (h : s.Wide) : ∃ l, keyOf Try.prog 30 s.v = some l := by
  have h1 : Try.prog.keyType 30 = true := by kernel_rfl
  have h2 : s.v.formed Try.prog 30 = true := by kernel_rfl
  obtain ⟨d, hd⟩ : ∃ d, Try.prog.types.size + 1 = d + 3 := ⟨Try.prog.types.size - 2, by
    have : Nat.ble 2 Try.prog.types.size = true := by kernel_rfl
    have := Nat.le_of_ble_eq_true this
    omega⟩
  have h3 : keyOf Try.prog 30 s.v = some (.string (keyBytes [.int .i64 s.level, .int .i64 s.position, .int .i64 s.p0, .int .i64 s.p1, .int .i64 s.order, .int .i64 s.age])) := by
    unfold keyOf
    rw [Try.underlying30]
    simp only [h1, h2, Bool.and_self, if_true, hd, st_lits d h]
    rfl
  exact ⟨_, h3⟩
def updS {α : Type} (f : St → Option α) (s : St) (v : α) : St → Option α := fun x => if x = s then some v else f x
theorem updS_same {α : Type} (f : St → Option α) (s : St) (v : α) : updS f s v s = some v := by rw [updS, if_pos rfl]
structure MapIs (es : List MapEntry) (c : Nat) (f : St → Option Value) : Prop where
  keys : es.Pairwise (fun a b => a.key ≠ b.key)
  borns : es.Pairwise (fun a b => a.born ≠ b.born)
  below : ∀ e ∈ es, e.born < c
  get : ∀ e ∈ es, ∃ s : St, s.Wide ∧ e.key = s.v ∧ f s = some e.val
  has : ∀ s v, f s = some v → ∃ e ∈ es, e.key = s.v
theorem MapIs.nil (c : Nat) : MapIs [] c (fun _ => none) := ⟨List.Pairwise.nil, List.Pairwise.nil, (fun e he => (by cases he)), (fun e he => (by cases he)), (fun s v h => (by cases h))⟩
section
variable {es : List MapEntry} {c : Nat} {f : St → Option Value} {s : St}
theorem MapIs.absent (h : MapIs es c f) (hf : f s = none) : ∀ y ∈ es, y.key ≠ s.v := fun y hy he => by
  obtain ⟨s', _, he', hv⟩ := h.get y hy
  rw [he] at he'
  rw [← stv_inj he', hf] at hv
  cases hv
theorem MapIs.push (h : MapIs es c f) (hs : s.Wide) (hf : f s = none) (v : Value) : MapIs (es ++ [⟨s.v, v, c⟩]) (c + 1) (updS f s v) := by
  have hno := h.absent hf
  refine ⟨?_, ?_, ?_, ?_, ?_⟩
  · rw [List.pairwise_append]
    exact ⟨h.keys, List.pairwise_singleton _ _, fun a ha b hb => by rw [List.mem_singleton.1 hb]; exact hno a ha⟩
  · rw [List.pairwise_append]
    refine ⟨h.borns, List.pairwise_singleton _ _, fun a ha b hb => ?_⟩
    rw [List.mem_singleton.1 hb]
    have := h.below a ha
    show a.born ≠ c
    omega
  · intro e he
    rcases List.mem_append.1 he with he | he
    · have := h.below e he
      omega
    · rw [List.mem_singleton.1 he]
      exact Nat.lt_succ_self c
  · intro y hy
    rcases List.mem_append.1 hy with hy | hy
    · obtain ⟨s', hw, he, hv⟩ := h.get y hy
      exact ⟨s', hw, he, by rw [updS, if_neg (fun e => hno y hy (by rw [he, e]))]; exact hv⟩
    · rw [List.mem_singleton.1 hy]
      exact ⟨s, hs, rfl, updS_same _ _ _⟩
  · intro s' v' hv
    unfold updS at hv
    split at hv
    · rename_i he
      exact ⟨_, List.mem_append_right _ (List.mem_singleton.2 rfl), by rw [he]⟩
    · obtain ⟨y, hy, he⟩ := h.has s' v' hv
      exact ⟨y, List.mem_append_left _ hy, he⟩
theorem map_set_same {β : Type} (g : MapEntry → β) : ∀ (l : List MapEntry) (i : Nat) (a b : MapEntry), l[i]? = some a → g a = g b → (l.set i b).map g = l.map g := by
  intro l i a b hl hk
  apply List.ext_getElem?
  intro k
  rw [List.getElem?_map, List.getElem?_map, List.getElem?_set]
  split
  · rename_i e
    subst e
    rw [hl]
    simp [(List.getElem?_eq_some_iff.1 hl).1, hk]
  · rfl
theorem MapIs.set (h : MapIs es c f) {j : Nat} {x : MapEntry} (hj : es[j]? = some x) (hx : x.key = s.v) (v : Value) : MapIs (es.set j { x with key := s.v, val := v }) c (updS f s v) := by
  obtain ⟨hj2, hxj⟩ := List.getElem?_eq_some_iff.1 hj
  have hw : s.Wide := by
    obtain ⟨s', hw, he, _⟩ := h.get x (List.mem_of_getElem? hj)
    rw [hx] at he
    rw [stv_inj he]
    exact hw
  have hi : ∀ y ∈ es.set j { x with key := s.v, val := v }, y = { x with key := s.v, val := v } ∨ (y ∈ es ∧ y.key ≠ s.v) := by
    intro y hy
    obtain ⟨i, hi, hyi⟩ := List.getElem_of_mem hy
    by_cases hij : i = j
    · subst hij
      rw [List.getElem_set_self] at hyi
      exact .inl hyi.symm
    · rw [List.getElem_set_ne (Ne.symm hij)] at hyi
      have hi2 : i < es.length := by simpa using hi
      refine .inr ⟨by rw [← hyi]; exact List.getElem_mem hi2, fun he => ?_⟩
      rcases Nat.lt_or_gt_of_ne hij with hl | hl
      · have := List.pairwise_iff_getElem.1 h.keys i j hi2 hj2 hl
        rw [hxj, hyi, hx, he] at this
        exact this rfl
      · have := List.pairwise_iff_getElem.1 h.keys j i hj2 hi2 hl
        rw [hxj, hyi, hx, he] at this
        exact this rfl
  refine ⟨?_, ?_, ?_, ?_, ?_⟩
  · have h5 := List.pairwise_map (f := fun y : MapEntry => y.key) (R := fun a b => a ≠ b) (l := es)
    have h6 := List.pairwise_map (f := fun y : MapEntry => y.key) (R := fun a b => a ≠ b) (l := es.set j { x with key := s.v, val := v })
    rw [map_set_same _ es j x _ hj hx] at h6
    exact h6.1 (h5.2 h.keys)
  · have h5 := List.pairwise_map (f := fun y : MapEntry => y.born) (R := fun a b => a ≠ b) (l := es)
    have h6 := List.pairwise_map (f := fun y : MapEntry => y.born) (R := fun a b => a ≠ b) (l := es.set j { x with key := s.v, val := v })
    rw [map_set_same (fun y : MapEntry => y.born) es j x { x with key := s.v, val := v } hj rfl] at h6
    exact h6.1 (h5.2 h.borns)
  · intro y hy
    rcases hi y hy with rfl | ⟨hy, _⟩
    · exact h.below x (List.mem_of_getElem? hj)
    · exact h.below y hy
  · intro y hy
    rcases hi y hy with rfl | ⟨hy, hne⟩
    · exact ⟨s, hw, rfl, updS_same _ _ _⟩
    · obtain ⟨s', hw, he, hv⟩ := h.get y hy
      exact ⟨s', hw, he, by rw [updS, if_neg (fun e => hne (by rw [he, e]))]; exact hv⟩
  · intro s' v' hv
    have hset : ∀ (s2 : St), (∃ y ∈ es, y.key = s2.v) → ∃ y ∈ es.set j { x with key := s.v, val := v }, y.key = s2.v := by
      rintro s2 ⟨y, hy, he⟩
      obtain ⟨i, hil, hyi⟩ := List.getElem_of_mem hy
      by_cases hij : i = j
      · subst hij
        refine ⟨{ x with key := s.v, val := v }, List.mem_iff_getElem.2 ⟨i, by rw [List.length_set]; exact hil, by simp⟩, ?_⟩
        rw [hxj] at hyi
        rw [← hyi, hx] at he
        exact he
      · refine ⟨y, List.mem_iff_getElem.2 ⟨i, by rw [List.length_set]; exact hil, ?_⟩, he⟩
        rw [List.getElem_set_ne (Ne.symm hij)]
        exact hyi
    unfold updS at hv
    split at hv
    · rename_i he
      subst he
      exact hset _ ⟨x, List.mem_of_getElem? hj, hx⟩
    · exact hset _ (h.has s' v' hv)
theorem modify_list {es : Array MapEntry} {j : Nat} {x : MapEntry} (hj : es[j]? = some x) (g : MapEntry → MapEntry) : (es.modify j g).toList = es.toList.set j (g x) := by
  apply List.ext_getElem?
  intro i
  rw [Array.getElem?_toList, Array.getElem?_modify, List.getElem?_set, Array.getElem?_toList]
  split
  · rename_i e
    subst e
    rw [hj]
    simp [(Array.getElem?_eq_some_iff.1 hj).1]
  · rfl
end
def MapS (w : World) (B : Nat) (f : St → Option Value) : Prop := ∃ es c, w.heap[B]? = some (.map es c) ∧ MapIs es.toList c f
theorem MapS.made (w : World) : MapS (w.alloc (.map #[] 0)) w.heap.size (fun _ => none) := ⟨#[], 0, World.alloc_heap_new w _, MapIs.nil 0⟩
theorem MapS.block {w : World} {B : Nat} {f : St → Option Value} (h : MapS w B f) : ∃ es c, w.heap[B]? = some (.map es c) := by
  obtain ⟨es, c, h, _⟩ := h
  exact ⟨es, c, h⟩
theorem MapS.lt {w : World} {B : Nat} {f : St → Option Value} (h : MapS w B f) : B < w.heap.size := by
  obtain ⟨es, c, h⟩ := h.block
  exact (Array.getElem?_eq_some_iff.1 h).1
theorem MapS.same {w w' : World} {B : Nat} {f : St → Option Value} (h : MapS w B f) (hb : w'.heap[B]? = w.heap[B]?) : MapS w' B f := by
  obtain ⟨es, c, h1, h2⟩ := h
  exact ⟨es, c, hb.trans h1, h2⟩
theorem MapS.kept {w w' : World} {B : Nat} {f : St → Option Value} {row : Option Nat} (h : MapS w B f) (hg : w.grownBy w' row) (hne : some B ≠ row) : MapS w' B f := h.same (hg.block B h.lt hne)
theorem MapS.later {w w' : World} {B : Nat} {f : St → Option Value} (h : MapS w B f) (hb : Below w.heap.size w w') : MapS w' B f := h.same (hb.block B h.lt)
theorem MapS.set {w : World} {B : Nat} {f : St → Option Value} (h : MapS w B f) {a : Addr} (ha : a.block ≠ B) (v : Value) : MapS (w.setCell a v) B f := h.same (Below.heap_setCell w a v B (fun e => ha e.symm))
theorem MapS.notBox {w : World} {B b : Nat} {f : St → Option Value} {xs : List Value} (h : MapS w B f) (hx : Box w b xs) : b ≠ B := by
  intro e
  subst e
  obtain ⟨es, c, hb⟩ := h.block
  obtain ⟨t, ht⟩ := hx
  rw [hb] at ht
  cases ht
section
variable {w : World} {B : Nat} {f : St → Option Value} {t e : TypeId} {s : St} {z : Value}
theorem MapS.find (h : MapS w B f) (hs : s.Wide) : ∃ es c kl, w.heap[B]? = some (.map es c) ∧ MapIs es.toList c f ∧ keyOf Try.prog 30 s.v = some kl ∧
    (((Instr.findKey 30 s.v es.toList).run Try.prog w = .ok none w ∧ f s = none) ∨ ∃ j x, (Instr.findKey 30 s.v es.toList).run Try.prog w = .ok (some (j, x.val)) w ∧ es[j]? = some x ∧ x.key = s.v ∧ f s = some x.val) := by
  obtain ⟨es, c, h1, h2⟩ := h
  obtain ⟨kl, hk⟩ := st_key hs
  have hall : ∀ x ∈ es.toList, ∃ l, keyOf Try.prog 30 x.key = some l := fun x hx => by
    obtain ⟨s, hs, he, _⟩ := h2.get x hx
    rw [he]
    exact st_key hs
  refine ⟨es, c, kl, h1, h2, hk, ?_⟩
  rcases st_law.find w hk es.toList hall with ⟨g1, g2⟩ | ⟨j, x, g1, g2, g3⟩
  · refine .inl ⟨g1, ?_⟩
    cases hf : f s with
    | none => rfl
    | some v =>
      obtain ⟨x, hx, he⟩ := h2.has s v hf
      exact absurd he (g2 x hx)
  · obtain ⟨s', _, he, hv⟩ := h2.get x (List.mem_of_getElem? g2)
    rw [g3] at he
    rw [← stv_inj he] at hv
    exact .inr ⟨j, x, g1, by simpa using g2, g3, hv⟩
theorem MapS.look (h : MapS w B f) (ht : Try.prog.underlying t = some (.map 30 e)) (hz : (zeroValue e).run Try.prog w = .ok z w) (hs : s.Wide) : (Instr.lookup t (.map (some B)) s.v false).run Try.prog w = .ok ((f s).getD z) w := by
  obtain ⟨es, c, kl, h1, _, hk, ⟨g1, g2⟩ | ⟨j, x, g1, _, _, g2⟩⟩ := h.find hs
  · rw [g2]
    simp [Instr.lookup, run_underlying ht, MapKept.run_getObj_map h1, st_law.check w _ hk, g1, hz, Result.andThen]
  · rw [g2]
    simp [Instr.lookup, run_underlying ht, MapKept.run_getObj_map h1, st_law.check w _ hk, g1, Result.andThen]
theorem MapS.look2 (h : MapS w B f) (ht : Try.prog.underlying t = some (.map 30 e)) (hz : (zeroValue e).run Try.prog w = .ok z w) (hs : s.Wide) : (Instr.lookup t (.map (some B)) s.v true).run Try.prog w = .ok (.tuple #[(f s).getD z, .bool (f s).isSome]) w := by
  obtain ⟨es, c, kl, h1, _, hk, ⟨g1, g2⟩ | ⟨j, x, g1, _, _, g2⟩⟩ := h.find hs
  · rw [g2]
    simp [Instr.lookup, run_underlying ht, MapKept.run_getObj_map h1, st_law.check w _ hk, g1, hz, Result.andThen]
  · rw [g2]
    simp [Instr.lookup, run_underlying ht, MapKept.run_getObj_map h1, st_law.check w _ hk, g1, Result.andThen]
theorem grownBy_setBlock {es es' : Array MapEntry} {c c' : Nat} (hb : w.heap[B]? = some (.map es c)) : w.grownBy (setBlock w B (.map es' c')) (some B) :=
  ⟨rfl, rfl, rfl, by simp [setBlock], fun i _ hi => heap_setBlock_other hb _ (fun e => hi (by rw [e]))⟩
theorem MapS.put (h : MapS w B f) (ht : Try.prog.underlying t = some (.map 30 e)) (hs : s.Wide) (v : Value) : ∃ w', (Instr.mapUpdate t (.map (some B)) s.v v).run Try.prog w = .ok () w' ∧ MapS w' B (updS f s v) ∧ w.grownBy w' (some B) ∧ w'.heap.size = w.heap.size := by
  obtain ⟨es, c, kl, h1, h2, hk, ⟨g1, g2⟩ | ⟨j, x, g1, g2, g3, g4⟩⟩ := h.find hs
  · exact ⟨setBlock w B (.map (es.push ⟨s.v, v, c⟩) (c + 1)), by simp [Instr.mapUpdate, run_underlying ht, MapKept.run_getObj_map h1, st_law.check w false hk, g1, MapKept.run_setObj_map _ h1, Result.andThen, setBlock], ⟨_, _, heap_setBlock_same h1 _, by rw [Array.toList_push]; exact h2.push hs g2 v⟩, grownBy_setBlock h1, by simp [setBlock]⟩
  · exact ⟨setBlock w B (.map (es.modify j (fun y => { y with key := s.v, val := v })) c), by simp [Instr.mapUpdate, run_underlying ht, MapKept.run_getObj_map h1, st_law.check w false hk, g1, g2, g3, st_law.stays w hk, MapKept.run_setObj_map _ h1, Result.andThen, setBlock], ⟨_, _, heap_setBlock_same h1 _, by rw [modify_list g2]; exact h2.set (by simpa using g2) g3 v⟩, grownBy_setBlock h1, by simp [setBlock]⟩
def StampS (w : World) (B : Nat) (s : St) (st : Nat) : Prop := ∃ (es : Array MapEntry) (c j : Nat) (x : MapEntry), w.heap[B]? = some (.map es c) ∧ es[j]? = some x ∧ x.key = s.v ∧ x.born = st
theorem StampS.same {w' : World} {st : Nat} (h : StampS w B s st) (hb : w'.heap[B]? = w.heap[B]?) : StampS w' B s st := by
  obtain ⟨es, c, j, x, h1, h2⟩ := h
  exact ⟨es, c, j, x, hb.trans h1, h2⟩
theorem updS_twice {α : Type} (f : St → Option α) (s : St) (u v : α) : updS (updS f s u) s v = updS f s v := by
  funext x
  unfold updS
  split
  · rfl
  · rfl
theorem MapS.entry (h : MapS w B f) (ht : Try.prog.underlying t = some (.map 30 e)) (hz : (zeroValue e).run Try.prog w = .ok z w) (hs : s.Wide) :
    ∃ (w' : World) (st : Nat), (Instr.mapEntry t (.map (some B)) s.v).run Try.prog w = .ok (.tuple #[(f s).getD z, goInt st]) w' ∧ MapS w' B (updS f s ((f s).getD z)) ∧ StampS w' B s st ∧ w.grownBy w' (some B) ∧ w'.heap.size = w.heap.size := by
  obtain ⟨es, c, kl, h1, h2, hk, ⟨g1, g2⟩ | ⟨j, x, g1, g2, g3, g4⟩⟩ := h.find hs
  · rw [g2]
    refine ⟨setBlock w B (.map (es.push ⟨s.v, z, c⟩) (c + 1)), c, by simp [Instr.mapEntry, run_underlying ht, MapKept.run_getObj_map h1, st_law.check w false hk, g1, hz, MapKept.run_setObj_map _ h1, Result.andThen, setBlock], ⟨_, _, heap_setBlock_same h1 _, by rw [Array.toList_push]; exact h2.push hs g2 z⟩, ⟨_, _, es.size, ⟨s.v, z, c⟩, heap_setBlock_same h1 _, by simp, rfl, rfl⟩, grownBy_setBlock h1, by simp [setBlock]⟩
  · rw [g4]
    refine ⟨setBlock w B (.map (es.modify j (fun y => { y with key := s.v })) c), x.born, by simp [Instr.mapEntry, run_underlying ht, MapKept.run_getObj_map h1, st_law.check w false hk, g1, g2, g3, st_law.stays w hk, MapKept.run_setObj_map _ h1, Result.andThen, setBlock], ⟨_, _, heap_setBlock_same h1 _, by rw [modify_list g2]; exact h2.set (by simpa using g2) g3 x.val⟩, ⟨_, _, j, { x with key := s.v }, heap_setBlock_same h1 _, by rw [Array.getElem?_modify, if_pos rfl, g2]; rfl, rfl, rfl⟩, grownBy_setBlock h1, by simp [setBlock]⟩
theorem MapS.entryPut {st : Nat} (h : MapS w B f) (hst : StampS w B s st) (v : Value) : ∃ w', (Instr.entryStore t (.map (some B)) (goInt st) v).run Try.prog w = .ok () w' ∧ MapS w' B (updS f s v) ∧ w.grownBy w' (some B) ∧ w'.heap.size = w.heap.size := by
  obtain ⟨es, c, h1, h2⟩ := h
  obtain ⟨es', c', j, x, h1', hj, hx, hb⟩ := hst
  rw [h1] at h1'
  cases h1'
  subst hb
  have hfi : es.findIdx? (fun y => (y.born : Int) == (x.born : Int)) = some j := by
    rw [Array.findIdx?_eq_some_iff_getElem]
    have hj' : es.toList[j]? = some x := by simpa using hj
    obtain ⟨hjl, hjx⟩ := List.getElem?_eq_some_iff.1 hj'
    have hjx' : es[j]'(by simpa using hjl) = x := by simpa using hjx
    refine ⟨by simpa using hjl, by rw [hjx']; simp, fun i hi => ?_⟩
    have h9 := List.pairwise_iff_getElem.1 h2.borns i j (by omega) hjl hi
    rw [hjx, Array.getElem_toList] at h9
    simp only [beq_iff_eq]
    exact fun e => h9 (by omega)
  refine ⟨setBlock w B (.map (es.modify j (fun y => { y with val := v })) c), ?_, ⟨_, _, heap_setBlock_same h1 _, ?_⟩, grownBy_setBlock h1, by simp [setBlock]⟩
  · simp [Instr.entryStore, MapKept.run_getObj_map h1, asInt, asIntOf, goInt, hfi, MapKept.run_setObj_map _ h1, Result.andThen, setBlock]
  · rw [modify_list hj]
    have := h2.set (s := s) (j := j) (x := x) (by simpa using hj) hx v
    rw [← hx] at this
    exact this
end
end Go.Proofs.Ytancngachnpefaa
namespace Go.Proofs.Ytancngachnpefaa
open Go.RowKit
theorem inI_of {n lo hi : Int} (h : lo ≤ n ∧ n ≤ hi) : inI n lo hi = true := decide_eq_true h
theorem fed_bd {p : Pl} {s : St} {x : Sh} (S : Small p s x) : 0 ≤ (fedT p s x).1 ∧ (fedT p s x).1 ≤ 15 := by
  have h1 := S.feed
  have h2 := S.p0
  unfold fedT
  split
  · omega
  · split <;> omega
theorem movedT_bd {p : Pl} {code : List Ln} {s : St} {x : Sh} (S : Small p s x) (hg : gateB code = true) :
    (0 ≤ movedT p code s x ∧ movedT p code s x ≤ p.positions) ∧ s.position - p.step ≤ movedT p code s x ∧ movedT p code s x ≤ s.position + p.step := by
  have h0 := (firstT_bd (r := varsT p s x) hg).1
  have h1 := S.positions
  have h2 := S.step
  have h3 := S.position
  unfold movedT
  split <;> omega
structure Stepped (p : Pl) (s : St) (x : Sh) (t : St) (o f : Int) : Prop where
  level : 0 ≤ t.level ∧ t.level ≤ p.top
  position : 0 ≤ t.position ∧ t.position ≤ p.positions
  down : s.position - p.step ≤ t.position
  up : t.position ≤ s.position + p.step
  out : 0 ≤ o ∧ o ≤ p.rate * t.position
  most : p.rate * t.position ≤ 225
  fed : 0 ≤ f ∧ f ≤ 15
  spill : 0 ≤ s.level + f - o - t.level
  full : t.level = p.top ∨ s.level + f - o - t.level ≤ 0
  flow : p.rate * t.position ≤ o ∨ t.level ≤ 0
theorem stepped {p : Pl} {code : List Ln} {s : St} {x : Sh} (S : Small p s x) (hg : gateB code = true) : Stepped p s x (stepT p code s x) (outT p code s x) (fedT p s x).1 := by
  have hf := fed_bd S
  obtain ⟨h1, h2, h3⟩ := movedT_bd S hg
  have hl := S.level
  have ht := S.top
  have hr := mul_le4 (a := p.rate) (b := movedT p code s x) (A := 15) (B := 15) (by have := S.rate; omega) (by have := S.positions; omega)
  have e1 : (stepT p code s x).level = min p.top (s.level + (fedT p s x).1 - outT p code s x) := rfl
  have e2 : (stepT p code s x).position = movedT p code s x := rfl
  have e3 : outT p code s x = min (s.level + (fedT p s x).1) (p.rate * movedT p code s x) := rfl
  generalize (fedT p s x).1 = f at *
  generalize movedT p code s x = M at *
  generalize outT p code s x = o at *
  generalize hR : p.rate * M = R at *
  have e4 : p.rate * (stepT p code s x).position = R := by rw [e2, hR]
  have top0 : s.level ≤ 63 := hl.2
  refine ⟨by omega, by omega, by omega, by omega, by rw [e4]; omega, by rw [e4]; omega, hf, by omega, by omega, by rw [e4]; omega⟩
theorem step_has {p : Pl} {code : List Ln} {s : St} {x : Sh} (hv : p.Valid) (hs : p.hasB s = true) (hc : chosenB p x = true) (hg : gateB code = true) : p.hasB (stepT p code s x) = true := by
  have S := small_of hv hs hc
  have Z := stepped (code := code) S hg
  obtain ⟨_, _, h3, h4, h5, h6⟩ := Pl.hasB_bd hs
  simp only [chosenB, Bool.and_eq_true] at hc
  have c1 := inI_yes hc.1
  have c2 := inI_yes hc.2
  have e3 : (stepT p code s x).p0 = (fedT p s x).2.1 := rfl
  have e4 : (stepT p code s x).p1 = (fedT p s x).2.2 := rfl
  have e5 : (stepT p code s x).order = (heardT p s x).1 := rfl
  have e6 : (stepT p code s x).age = (heardT p s x).2 := rfl
  have ho : (0 ≤ (heardT p s x).1 ∧ (heardT p s x).1 ≤ p.orders) ∧ 0 ≤ (heardT p s x).2 ∧ (heardT p s x).2 ≤ p.age := by
    unfold heardT
    split
    · exact ⟨⟨by assumption, c2.2⟩, Int.le_refl _, by omega⟩
    · exact ⟨h5, by omega, by omega⟩
  have hq : (0 ≤ (fedT p s x).2.1 ∧ (fedT p s x).2.1 ≤ if 0 < p.pipe then p.feed else 0) ∧ 0 ≤ (fedT p s x).2.2 ∧ (fedT p s x).2.2 ≤ if 1 < p.pipe then p.feed else 0 := by
    have hp := hv.pipe
    rcases (show p.pipe = 0 ∨ p.pipe = 1 ∨ p.pipe = 2 by omega) with h | h | h
    all_goals
      simp [fedT, h] at h3 h4 ⊢
      omega
  simp only [Pl.hasB, Bool.and_eq_true]
  exact ⟨inI_of Z.level, inI_of Z.position, inI_of (by rw [e3]; exact hq.1), inI_of (by rw [e4]; exact hq.2), inI_of (by rw [e5]; exact ho.1), inI_of (by rw [e6]; exact ho.2)⟩
end Go.Proofs.Ytancngachnpefaa
namespace Go.Proofs.Ytancngachnpefaa
open Go.RowKit
theorem findSome_pre {α β : Type} {l pre : List α} {x : α} {f : β} {g : α → Option β} (h : pre ++ [x] <+: l) (hn : ∀ y ∈ pre, g y = none) (hx : g x = some f) : l.findSome? g = some f := by
  obtain ⟨r, rfl⟩ := h
  rw [List.append_assoc, List.findSome?_append, List.findSome?_eq_none_iff.2 hn]
  simp [hx]
theorem find_pre {α : Type} {l pre : List α} {x : α} {g : α → Bool} (h : pre ++ [x] <+: l) (hn : ∀ y ∈ pre, g y = false) (hx : g x = true) : l.find? g = some x := by
  obtain ⟨r, rfl⟩ := h
  rw [List.append_assoc, List.find?_append, List.find?_eq_none.2 (fun y hy => by rw [hn y hy]; decide)]
  simp [hx]
theorem pre_mem {α : Type} {l pre : List α} {x : α} (h : pre ++ [x] <+: l) : x ∈ l := h.subset (by simp)
theorem has_nums {p : Pl} (hv : p.Valid) {s : St} (h : p.hasB s = true) : s.numsB = true := by
  obtain ⟨h1, h2, h3, h4, h5, h6⟩ := small6 hv (Pl.hasB_bd h)
  simp only [St.numsB]
  rw [inI_in (by omega), inI_in (by omega), inI_in (by omega), inI_in (by omega), inI_in (by omega), inI_in (by omega)]
  rfl
theorem states_nums {p : Pl} (hv : p.Valid) {s : St} (h : s ∈ p.states) : Hid (s.numsB = true) := has_nums hv (states_has hv h)
theorem nexts_mem {p : Pl} {c : List Ln} {s : St} {x : Sh × St} (h : x ∈ p.nexts c s (p.nf * p.nm)) : x.1 ∈ p.shocks ∧ x.2 = (nextT p c s x.1).1 := by
  obtain ⟨j, hj, rfl⟩ := List.mem_map.1 h
  exact ⟨List.mem_map.2 ⟨j, hj, rfl⟩, rfl⟩
theorem nextS_has {p : Pl} {c : List Ln} {s : St} {x : Sh} (ha : askT p c = 0) (hs : s ∈ p.states) (hx : x ∈ p.shocks) : p.hasB (nextT p c s x).1 = true := by
  obtain ⟨h1, h2⟩ := ask_zero ha
  obtain ⟨hv, _⟩ := Pl.check_zero h1
  have hh := states_has hv hs
  have hc := (shocks_mem hv).1 hx
  rcases gateT_two c with ⟨_, hg⟩ | hg
  · rw [nextT, if_pos h1, if_pos h2, if_pos hh, if_pos hc]
    exact step_has hv hh hc hg
  · omega
theorem nexts_nums {p : Pl} {c : List Ln} {s : St} (ha : askT p c = 0) (hs : s ∈ p.states) {x : Sh × St} (h : x ∈ p.nexts c s (p.nf * p.nm)) : Hid (x.2.numsB = true) := by
  obtain ⟨h1, h2⟩ := nexts_mem h
  rw [h2]
  exact has_nums (Pl.check_zero (ask_zero ha).1).1 (nextS_has ha hs h1)
theorem flaw_out {p : Pl} {c : List Ln} {b : List Iq} {s : St} (h : inB b s = false) : flawAt p c b s = none := by rw [flawAt, if_neg (by rw [h]; decide)]
theorem flaw_unsafe {p : Pl} {c : List Ln} {b : List Iq} {s : St} (h : inB b s = true) (hs : p.safeB s = false) : flawAt p c b s = some ⟨2, s, Sh.zero⟩ := by rw [flawAt, if_pos h, if_neg (by rw [hs]; decide)]
theorem flaw_stays {p : Pl} {c : List Ln} {b : List Iq} {s : St} (h : ∀ x ∈ p.nexts c s (p.nf * p.nm), inB b x.2 = true) (_hi : inB b s = true) (hs : p.safeB s = true) : flawAt p c b s = none := by
  refine flaw_none.2 fun _ => ⟨hs, fun x hx => ?_⟩
  obtain ⟨j, hj, rfl⟩ := List.mem_map.1 hx
  exact h (p.shAt j, _) (List.mem_map.2 ⟨j, hj, rfl⟩)
theorem flaw_leaves {p : Pl} {c : List Ln} {b : List Iq} {s : St} {pre : List (Sh × St)} {x : Sh × St} (hi : inB b s = true) (hs : p.safeB s = true) (h : pre ++ [x] <+: p.nexts c s (p.nf * p.nm)) (hn : ∀ y ∈ pre, inB b y.2 = true) (hx : inB b x.2 = false) :
    flawAt p c b s = some ⟨3, s, x.1⟩ := by
  rw [flawAt, if_pos hi, if_pos hs]
  have key : pre.map Prod.fst ++ [x.1] <+: p.shocks := by
    have h1 := List.IsPrefix.map Prod.fst h
    rw [List.map_append] at h1
    have h2 : (p.nexts c s (p.nf * p.nm)).map Prod.fst = p.shocks := by
      rw [Pl.nexts, List.map_map]
      rfl
    rw [h2] at h1
    exact h1
  have e : ∀ y ∈ pre, y.2 = (nextT p c s y.1).1 := fun y hy => (nexts_mem (h.subset (by simp [hy]))).2
  rw [find_pre (x := x.1) key]
  · rfl
  · intro z hz
    obtain ⟨y, hy, rfl⟩ := List.mem_map.1 hz
    rw [← e y hy, hn y hy]
    rfl
  · rw [← (nexts_mem (pre_mem h)).2, hx]
    rfl
end Go.Proofs.Ytancngachnpefaa
namespace Go.Proofs.Ytancngachnpefaa
open Go.RowKit
end Go.Proofs.Ytancngachnpefaa
