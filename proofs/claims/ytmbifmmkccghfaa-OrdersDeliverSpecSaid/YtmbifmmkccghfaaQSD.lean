/- The examples of chapter 34 hold. (Printed by gen_sd.py.) No condition. -/
import Derived.Test.YtmbifmmkccghfaaQRT
import Derived.Deep.RegionHeld3
import Derived.Test.YtmbifmmkccghfaaQK
import Derived.WalkKit
import Derived.ProofKit
import Derived.OpenShut
import Derived.ChangeOld
import Derived.Below
import Derived.Lib.SmallJoins
import Derived.Deep.Slices
import Derived.Deep.Fields
import Derived.ChangeSame
import Derived.Test.YtmbifmmkccghfaaQKG
set_option linter.unusedVariables false
set_option linter.unusedSimpArgs false
namespace Go.Proofs.Ytmbifmmkccghfaa
open Go.RowKit

theorem RetBx.sl1 {t : Bx} {r : Value} {w w' : World} {e : Ending} (h : RetBx t #[r] w e w') : ∃ Aq nq cq Aa na ca As ns cs Ah nh ch Af nf cf, e = .returned (.tuple #[.agg #[.slice Aq nq cq, .slice Aa na ca, .slice As ns cs, .slice Ah nh ch, .slice Af nf cf], r]) ∧ Hid (BxAt w' w'.heap.size (.slice Aq nq cq) (.slice Aa na ca) (.slice As ns cs) (.slice Ah nh ch) (.slice Af nf cf) t) ∧ Below w.heap.size w w' := h.sl
def oxA : Bx := ⟨Net.zero, [], [0, 0], [false, false]⟩
def oxX : Bx := ⟨⟨[⟨0, 2, msgB 0 5⟩], []⟩, [(1, 5)], [0, 0], [false, false]⟩
def oxY : Bx := ⟨⟨[⟨0, 2, msgB 0 5⟩, ⟨0, 2, msgB 1 3⟩], []⟩, [(1, 5), (1, 3)], [0, 0], [false, false]⟩
def oxD : Bx := ⟨⟨[⟨0, 2, msgB 0 5⟩], []⟩, [(1, 5), (1, 3)], [0, 2], [false, true]⟩
def oxE : Bx := ⟨⟨[], []⟩, [(1, 5), (1, 3)], [0, 2], [false, true]⟩
def oxT : Bx := ⟨⟨[], []⟩, [(1, 5), (1, 3)], [0, 2], [false, false]⟩
theorem oe1 : newB 2 = (oxA, 0) := by kernel_rfl
theorem oe2 : newB 9 = (Bx.zero, 1) := by kernel_rfl
theorem oe3 : oxA.sendT 2 0 = (Bx.zero, 1) := by kernel_rfl
theorem oe4 : oxA.sendT 0 8 = (Bx.zero, 1) := by kernel_rfl
theorem oe5 : oxA.deliverT 0 = (Bx.zero, false, 1) := by kernel_rfl
theorem oe6 : oxA.checkT = 0 := by kernel_rfl
theorem oe7 : Bx.zero.checkT = 340 := by kernel_rfl
theorem oe8 : oxA.sendT 1 5 = (oxX, 0) := by kernel_rfl
theorem oe9 : oxX.sendT 1 3 = (oxY, 0) := by kernel_rfl
theorem oe10 : oxY.deliverT 1 = (oxD, true, 0) := by kernel_rfl
theorem oe11 : oxD.deliverT 0 = (oxE, false, 0) := by kernel_rfl
theorem oe12 : oxE.tickT = (oxT, [-1, 3], 0) := by kernel_rfl
theorem oe13 : oxT.tickT = (oxT, [-1, -1], 0) := by kernel_rfl
set_option maxRecDepth 100000 in
set_option maxHeartbeats 4000000 in
theorem oSane_any (w : World) : Calls Try.prog 8 #[] w fun e w' => e = .returned (.bool true) ∧ Below w.heap.size w w' := by
  have hB := Below.refl w.heap.size w
  go_enter Try.func8, Try.ntmps8
  go_wp2_with fail
  refine (oNew_any 2 _ (T := (oxA, 0)) (Lib.hid oe1)).mono ?_
  rintro e w1 hh
  obtain ⟨Aq1, nq1, cq1, Aa1, na1, ca1, As1, ns1, cs1, Ah1, nh1, ch1, Af1, nf1, cf1, rfl, hX1, hb⟩ := hh.sl1
  have hB := hB.trans (hb.mono hB.size)
  clear hb
  go_wp2_with fail
  have hst := ((Below.refl w1.heap.size w1).alloc (by simp <;> omega) (.cells #[.slice Aq1 nq1 cq1, .slice Aa1 na1 ca1, .slice As1 ns1 cs1, .slice Ah1 nh1 ch1, .slice Af1 nf1 cf1] 30))
  have hBo := hB
  have hX1 := hid_bx hX1 hst
  have hB := hB.trans (hst.mono hB.size)
  have X1 := (Box.newAt (w := w1) (n := w1.heap.size) [.slice Aq1 nq1 cq1, .slice Aa1 na1 ca1, .slice As1 ns1 cs1, .slice Ah1 nh1 ch1, .slice Af1 nf1 cf1] 30 (by simp))
  clear hst
  generalize (w1.alloc (.cells #[.slice Aq1 nq1 cq1, .slice Aa1 na1 ca1, .slice As1 ns1 cs1, .slice Ah1 nh1 ch1, .slice Af1 nf1 cf1] 30)) = w2 at hB  X1 hX1 ⊢
  generalize w1.heap.size = X1a at X1 ⊢
  refine (oNew_any 9 _ (T := (Bx.zero, 1)) (Lib.hid oe2)).mono ?_
  rintro e w3 hh
  obtain ⟨Aq2, nq2, cq2, Aa2, na2, ca2, As2, ns2, cs2, Ah2, nh2, ch2, Af2, nf2, cf2, rfl, hX2, hb⟩ := hh.sl1
  have X1 := X1.later hb
  have hX1 := hid_bx hX1 hb
  have hB := hB.trans (hb.mono hB.size)
  clear hb
  have X1c0 : w3.cell? ⟨X1a, 0, none⟩ = some (.slice Aq1 nq1 cq1) := X1.cell 0
  have X1c1 : w3.cell? ⟨X1a, 1, none⟩ = some (.slice Aa1 na1 ca1) := X1.cell 1
  have X1c2 : w3.cell? ⟨X1a, 2, none⟩ = some (.slice As1 ns1 cs1) := X1.cell 2
  have X1c3 : w3.cell? ⟨X1a, 3, none⟩ = some (.slice Ah1 nh1 ch1) := X1.cell 3
  have X1c4 : w3.cell? ⟨X1a, 4, none⟩ = some (.slice Af1 nf1 cf1) := X1.cell 4
  have X1z : X1a < w3.heap.size := X1.lt
  go_wp2_with fail
  clear X1c0 X1c1 X1c2 X1c3 X1c4 X1z
  have hst := ((Below.refl w3.heap.size w3).alloc (by simp <;> omega) (.cells #[.slice Aq2 nq2 cq2, .slice Aa2 na2 ca2, .slice As2 ns2 cs2, .slice Ah2 nh2 ch2, .slice Af2 nf2 cf2] 30))
  have hBo := hB
  have X1o := X1
  have X1 := X1.later hst
  have hX1 := hid_bx hX1 hst
  have hB := hB.trans (hst.mono hB.size)
  have X2 := (Box.newAt (w := w3) (n := w3.heap.size) [.slice Aq2 nq2 cq2, .slice Aa2 na2 ca2, .slice As2 ns2 cs2, .slice Ah2 nh2 ch2, .slice Af2 nf2 cf2] 30 (by simp))
  clear hst
  generalize (w3.alloc (.cells #[.slice Aq2 nq2 cq2, .slice Aa2 na2 ca2, .slice As2 ns2 cs2, .slice Ah2 nh2 ch2, .slice Af2 nf2 cf2] 30)) = w4 at hB X1 X2 hX1 ⊢
  generalize w3.heap.size = X2a at X2 ⊢
  refine (oSend_is oxA 2 0 hX1 (T := (Bx.zero, 1)) (Lib.hid oe3)).mono ?_
  rintro e w5 hh
  obtain ⟨Aq3, nq3, cq3, Aa3, na3, ca3, As3, ns3, cs3, Ah3, nh3, ch3, Af3, nf3, cf3, rfl, hX3, hb⟩ := hh.sl1
  have X1 := X1.later hb
  have X2 := X2.later hb
  have hX1 := hid_bx hX1 hb
  have hB := hB.trans (hb.mono hB.size)
  clear hb
  clear X2
  have X1c0 : w5.cell? ⟨X1a, 0, none⟩ = some (.slice Aq1 nq1 cq1) := X1.cell 0
  have X1c1 : w5.cell? ⟨X1a, 1, none⟩ = some (.slice Aa1 na1 ca1) := X1.cell 1
  have X1c2 : w5.cell? ⟨X1a, 2, none⟩ = some (.slice As1 ns1 cs1) := X1.cell 2
  have X1c3 : w5.cell? ⟨X1a, 3, none⟩ = some (.slice Ah1 nh1 ch1) := X1.cell 3
  have X1c4 : w5.cell? ⟨X1a, 4, none⟩ = some (.slice Af1 nf1 cf1) := X1.cell 4
  have X1z : X1a < w5.heap.size := X1.lt
  go_wp2_with fail
  clear X1c0 X1c1 X1c2 X1c3 X1c4 X1z
  have hst := ((Below.refl w5.heap.size w5).alloc (by simp <;> omega) (.cells #[.slice Aq3 nq3 cq3, .slice Aa3 na3 ca3, .slice As3 ns3 cs3, .slice Ah3 nh3 ch3, .slice Af3 nf3 cf3] 30))
  have hBo := hB
  have X1o := X1
  have X1 := X1.later hst
  have hX1 := hid_bx hX1 hst
  have hB := hB.trans (hst.mono hB.size)
  have X3 := (Box.newAt (w := w5) (n := w5.heap.size) [.slice Aq3 nq3 cq3, .slice Aa3 na3 ca3, .slice As3 ns3 cs3, .slice Ah3 nh3 ch3, .slice Af3 nf3 cf3] 30 (by simp))
  clear hst
  generalize (w5.alloc (.cells #[.slice Aq3 nq3 cq3, .slice Aa3 na3 ca3, .slice As3 ns3 cs3, .slice Ah3 nh3 ch3, .slice Af3 nf3 cf3] 30)) = w6 at hB X1 X3 hX1 ⊢
  generalize w5.heap.size = X3a at X3 ⊢
  refine (oSend_is oxA 0 8 hX1 (T := (Bx.zero, 1)) (Lib.hid oe4)).mono ?_
  rintro e w7 hh
  obtain ⟨Aq4, nq4, cq4, Aa4, na4, ca4, As4, ns4, cs4, Ah4, nh4, ch4, Af4, nf4, cf4, rfl, hX4, hb⟩ := hh.sl1
  have X1 := X1.later hb
  have X3 := X3.later hb
  have hX1 := hid_bx hX1 hb
  have hB := hB.trans (hb.mono hB.size)
  clear hb
  clear X3
  have X1c0 : w7.cell? ⟨X1a, 0, none⟩ = some (.slice Aq1 nq1 cq1) := X1.cell 0
  have X1c1 : w7.cell? ⟨X1a, 1, none⟩ = some (.slice Aa1 na1 ca1) := X1.cell 1
  have X1c2 : w7.cell? ⟨X1a, 2, none⟩ = some (.slice As1 ns1 cs1) := X1.cell 2
  have X1c3 : w7.cell? ⟨X1a, 3, none⟩ = some (.slice Ah1 nh1 ch1) := X1.cell 3
  have X1c4 : w7.cell? ⟨X1a, 4, none⟩ = some (.slice Af1 nf1 cf1) := X1.cell 4
  have X1z : X1a < w7.heap.size := X1.lt
  go_wp2_with fail
  clear X1c0 X1c1 X1c2 X1c3 X1c4 X1z
  have hst := ((Below.refl w7.heap.size w7).alloc (by simp <;> omega) (.cells #[.slice Aq4 nq4 cq4, .slice Aa4 na4 ca4, .slice As4 ns4 cs4, .slice Ah4 nh4 ch4, .slice Af4 nf4 cf4] 30))
  have hBo := hB
  have X1o := X1
  have X1 := X1.later hst
  have hX1 := hid_bx hX1 hst
  have hB := hB.trans (hst.mono hB.size)
  have X4 := (Box.newAt (w := w7) (n := w7.heap.size) [.slice Aq4 nq4 cq4, .slice Aa4 na4 ca4, .slice As4 ns4 cs4, .slice Ah4 nh4 ch4, .slice Af4 nf4 cf4] 30 (by simp))
  clear hst
  generalize (w7.alloc (.cells #[.slice Aq4 nq4 cq4, .slice Aa4 na4 ca4, .slice As4 ns4 cs4, .slice Ah4 nh4 ch4, .slice Af4 nf4 cf4] 30)) = w8 at hB X1 X4 hX1 ⊢
  generalize w7.heap.size = X4a at X4 ⊢
  refine (oDeliver_is oxA 0 hX1 (T := (Bx.zero, false, 1)) (Lib.hid oe5)).mono ?_
  rintro e w9 hh
  obtain ⟨Aq5, nq5, cq5, Aa5, na5, ca5, As5, ns5, cs5, Ah5, nh5, ch5, Af5, nf5, cf5, rfl, hX5, hb⟩ := hh.sl
  have X1 := X1.later hb
  have X4 := X4.later hb
  have hX1 := hid_bx hX1 hb
  have hB := hB.trans (hb.mono hB.size)
  clear hb
  clear X4
  have X1c0 : w9.cell? ⟨X1a, 0, none⟩ = some (.slice Aq1 nq1 cq1) := X1.cell 0
  have X1c1 : w9.cell? ⟨X1a, 1, none⟩ = some (.slice Aa1 na1 ca1) := X1.cell 1
  have X1c2 : w9.cell? ⟨X1a, 2, none⟩ = some (.slice As1 ns1 cs1) := X1.cell 2
  have X1c3 : w9.cell? ⟨X1a, 3, none⟩ = some (.slice Ah1 nh1 ch1) := X1.cell 3
  have X1c4 : w9.cell? ⟨X1a, 4, none⟩ = some (.slice Af1 nf1 cf1) := X1.cell 4
  have X1z : X1a < w9.heap.size := X1.lt
  go_wp2_with fail
  clear X1c0 X1c1 X1c2 X1c3 X1c4 X1z
  have hst := ((Below.refl w9.heap.size w9).alloc (by simp <;> omega) (.cells #[.slice Aq5 nq5 cq5, .slice Aa5 na5 ca5, .slice As5 ns5 cs5, .slice Ah5 nh5 ch5, .slice Af5 nf5 cf5] 30))
  have hBo := hB
  have X1o := X1
  have X1 := X1.later hst
  have hX1 := hid_bx hX1 hst
  have hB := hB.trans (hst.mono hB.size)
  have X5 := (Box.newAt (w := w9) (n := w9.heap.size) [.slice Aq5 nq5 cq5, .slice Aa5 na5 ca5, .slice As5 ns5 cs5, .slice Ah5 nh5 ch5, .slice Af5 nf5 cf5] 30 (by simp))
  clear hst
  generalize (w9.alloc (.cells #[.slice Aq5 nq5 cq5, .slice Aa5 na5 ca5, .slice As5 ns5 cs5, .slice Ah5 nh5 ch5, .slice Af5 nf5 cf5] 30)) = w10 at hB X1 X5 hX1 ⊢
  generalize w9.heap.size = X5a at X5 ⊢
  refine (oCheck_is (Lib.hid oe6) hX1.out).mono ?_
  rintro e w11 ⟨rfl, hb⟩
  have X1 := X1.later hb
  have X5 := X5.later hb
  have hX1 := hid_bx hX1 hb
  have hB := hB.trans (hb.mono hB.size)
  clear hb
  clear X5
  have X1c0 : w11.cell? ⟨X1a, 0, none⟩ = some (.slice Aq1 nq1 cq1) := X1.cell 0
  have X1c1 : w11.cell? ⟨X1a, 1, none⟩ = some (.slice Aa1 na1 ca1) := X1.cell 1
  have X1c2 : w11.cell? ⟨X1a, 2, none⟩ = some (.slice As1 ns1 cs1) := X1.cell 2
  have X1c3 : w11.cell? ⟨X1a, 3, none⟩ = some (.slice Ah1 nh1 ch1) := X1.cell 3
  have X1c4 : w11.cell? ⟨X1a, 4, none⟩ = some (.slice Af1 nf1 cf1) := X1.cell 4
  have X1z : X1a < w11.heap.size := X1.lt
  go_wp2_with fail
  clear X1c0 X1c1 X1c2 X1c3 X1c4 X1z
  refine (oCheck_is (Lib.hid oe7) (bxAt_zero _ _)).mono ?_
  rintro e w12 ⟨rfl, hb⟩
  have X1 := X1.later hb
  have hX1 := hid_bx hX1 hb
  have hB := hB.trans (hb.mono hB.size)
  clear hb
  have X1c0 : w12.cell? ⟨X1a, 0, none⟩ = some (.slice Aq1 nq1 cq1) := X1.cell 0
  have X1c1 : w12.cell? ⟨X1a, 1, none⟩ = some (.slice Aa1 na1 ca1) := X1.cell 1
  have X1c2 : w12.cell? ⟨X1a, 2, none⟩ = some (.slice As1 ns1 cs1) := X1.cell 2
  have X1c3 : w12.cell? ⟨X1a, 3, none⟩ = some (.slice Ah1 nh1 ch1) := X1.cell 3
  have X1c4 : w12.cell? ⟨X1a, 4, none⟩ = some (.slice Af1 nf1 cf1) := X1.cell 4
  have X1z : X1a < w12.heap.size := X1.lt
  go_wp2_with fail
  clear X1c0 X1c1 X1c2 X1c3 X1c4 X1z
  refine (oSend_is oxA 1 5 hX1 (T := (oxX, 0)) (Lib.hid oe8)).mono ?_
  rintro e w13 hh
  obtain ⟨Aq6, nq6, cq6, Aa6, na6, ca6, As6, ns6, cs6, Ah6, nh6, ch6, Af6, nf6, cf6, rfl, hX6, hb⟩ := hh.sl1
  have X1 := X1.later hb
  have hX1 := hid_bx hX1 hb
  have hB := hB.trans (hb.mono hB.size)
  clear hb
  clear X1 hX1
  go_wp2_with fail
  have hst := ((Below.refl w13.heap.size w13).alloc (by simp <;> omega) (.cells #[.slice Aq6 nq6 cq6, .slice Aa6 na6 ca6, .slice As6 ns6 cs6, .slice Ah6 nh6 ch6, .slice Af6 nf6 cf6] 30))
  have hBo := hB
  have hX6 := hid_bx hX6 hst
  have hB := hB.trans (hst.mono hB.size)
  have X6 := (Box.newAt (w := w13) (n := w13.heap.size) [.slice Aq6 nq6 cq6, .slice Aa6 na6 ca6, .slice As6 ns6 cs6, .slice Ah6 nh6 ch6, .slice Af6 nf6 cf6] 30 (by simp))
  clear hst
  generalize (w13.alloc (.cells #[.slice Aq6 nq6 cq6, .slice Aa6 na6 ca6, .slice As6 ns6 cs6, .slice Ah6 nh6 ch6, .slice Af6 nf6 cf6] 30)) = w14 at hB  X6 hX6 ⊢
  generalize w13.heap.size = X6a at X6 ⊢
  refine (oSend_is oxX 1 3 hX6 (T := (oxY, 0)) (Lib.hid oe9)).mono ?_
  rintro e w15 hh
  obtain ⟨Aq7, nq7, cq7, Aa7, na7, ca7, As7, ns7, cs7, Ah7, nh7, ch7, Af7, nf7, cf7, rfl, hX7, hb⟩ := hh.sl1
  have X6 := X6.later hb
  have hX6 := hid_bx hX6 hb
  have hB := hB.trans (hb.mono hB.size)
  clear hb
  clear X6 hX6
  go_wp2_with fail
  have hst := ((Below.refl w15.heap.size w15).alloc (by simp <;> omega) (.cells #[.slice Aq7 nq7 cq7, .slice Aa7 na7 ca7, .slice As7 ns7 cs7, .slice Ah7 nh7 ch7, .slice Af7 nf7 cf7] 30))
  have hBo := hB
  have hX7 := hid_bx hX7 hst
  have hB := hB.trans (hst.mono hB.size)
  have X7 := (Box.newAt (w := w15) (n := w15.heap.size) [.slice Aq7 nq7 cq7, .slice Aa7 na7 ca7, .slice As7 ns7 cs7, .slice Ah7 nh7 ch7, .slice Af7 nf7 cf7] 30 (by simp))
  have gX7 : w.heap.size ≤ w15.heap.size := by have := hBo.size; omega
  clear hst
  generalize (w15.alloc (.cells #[.slice Aq7 nq7 cq7, .slice Aa7 na7 ca7, .slice As7 ns7 cs7, .slice Ah7 nh7 ch7, .slice Af7 nf7 cf7] 30)) = w16 at hB  X7 hX7 ⊢
  generalize w15.heap.size = X7a at X7 gX7 ⊢
  refine (oDeliver_is oxY 1 hX7 (T := (oxD, true, 0)) (Lib.hid oe10)).mono ?_
  rintro e w17 hh
  obtain ⟨Aq8, nq8, cq8, Aa8, na8, ca8, As8, ns8, cs8, Ah8, nh8, ch8, Af8, nf8, cf8, rfl, hX8, hb⟩ := hh.sl
  have X7 := X7.later hb
  have hX7 := hid_bx hX7 hb
  have hB := hB.trans (hb.mono hB.size)
  clear hb
  clear hX7
  have X7f0 : w17.frozen? ⟨X7a, 0, none⟩ = false := X7.free 0
  have X7f1 : w17.frozen? ⟨X7a, 1, none⟩ = false := X7.free 1
  have X7f2 : w17.frozen? ⟨X7a, 2, none⟩ = false := X7.free 2
  have X7f3 : w17.frozen? ⟨X7a, 3, none⟩ = false := X7.free 3
  have X7f4 : w17.frozen? ⟨X7a, 4, none⟩ = false := X7.free 4
  have X7c0 : w17.cell? ⟨X7a, 0, none⟩ = some (.slice Aq7 nq7 cq7) := X7.cell 0
  have X7c1 : w17.cell? ⟨X7a, 1, none⟩ = some (.slice Aa7 na7 ca7) := X7.cell 1
  have X7c2 : w17.cell? ⟨X7a, 2, none⟩ = some (.slice As7 ns7 cs7) := X7.cell 2
  have X7c3 : w17.cell? ⟨X7a, 3, none⟩ = some (.slice Ah7 nh7 ch7) := X7.cell 3
  have X7c4 : w17.cell? ⟨X7a, 4, none⟩ = some (.slice Af7 nf7 cf7) := X7.cell 4
  have X7z : X7a < w17.heap.size := X7.lt
  go_wp2_with fail
  clear X7c0 X7f0 X7c1 X7f1 X7c2 X7f2 X7c3 X7f3 X7c4 X7f4 X7z
  have hX8 := bx_set (Aq := Aq8) (nq := nq8) (cq := cq8) (Aa := Aa8) (na := na8) (ca := ca8) (As := As8) (ns := ns8) (cs := cs8) (Ah := Ah8) (nh := nh8) (ch := ch8) (Af := Af8) (nf := nf8) (cf := cf8) hX8 X7
  have hB := (((((hB.setCell (p := ⟨X7a, 0, none⟩) gX7 (.slice Aq8 nq8 cq8)).setCell (p := ⟨X7a, 1, none⟩) gX7 (.slice Aa8 na8 ca8)).setCell (p := ⟨X7a, 2, none⟩) gX7 (.slice As8 ns8 cs8)).setCell (p := ⟨X7a, 3, none⟩) gX7 (.slice Ah8 nh8 ch8)).setCell (p := ⟨X7a, 4, none⟩) gX7 (.slice Af8 nf8 cf8))
  have X7 := (((((X7.set 0 (.slice Aq8 nq8 cq8)).set 1 (.slice Aa8 na8 ca8)).set 2 (.slice As8 ns8 cs8)).set 3 (.slice Ah8 nh8 ch8)).set 4 (.slice Af8 nf8 cf8))
  simp only [List.set_cons_zero, List.set_cons_succ] at X7
  generalize (((((w17.setCell ⟨X7a, 0, none⟩ (.slice Aq8 nq8 cq8)).setCell ⟨X7a, 1, none⟩ (.slice Aa8 na8 ca8)).setCell ⟨X7a, 2, none⟩ (.slice As8 ns8 cs8)).setCell ⟨X7a, 3, none⟩ (.slice Ah8 nh8 ch8)).setCell ⟨X7a, 4, none⟩ (.slice Af8 nf8 cf8)) = w18 at hB X7 hX8 ⊢
  refine (oDeliver_is oxD 0 hX8 (T := (oxE, false, 0)) (Lib.hid oe11)).mono ?_
  rintro e w19 hh
  obtain ⟨Aq9, nq9, cq9, Aa9, na9, ca9, As9, ns9, cs9, Ah9, nh9, ch9, Af9, nf9, cf9, rfl, hX9, hb⟩ := hh.sl
  have X7 := X7.later hb
  have hX8 := hid_bx hX8 hb
  have hB := hB.trans (hb.mono hB.size)
  clear hb
  clear hX8
  have X7f0 : w19.frozen? ⟨X7a, 0, none⟩ = false := X7.free 0
  have X7f1 : w19.frozen? ⟨X7a, 1, none⟩ = false := X7.free 1
  have X7f2 : w19.frozen? ⟨X7a, 2, none⟩ = false := X7.free 2
  have X7f3 : w19.frozen? ⟨X7a, 3, none⟩ = false := X7.free 3
  have X7f4 : w19.frozen? ⟨X7a, 4, none⟩ = false := X7.free 4
  have X7c0 : w19.cell? ⟨X7a, 0, none⟩ = some (.slice Aq8 nq8 cq8) := X7.cell 0
  have X7c1 : w19.cell? ⟨X7a, 1, none⟩ = some (.slice Aa8 na8 ca8) := X7.cell 1
  have X7c2 : w19.cell? ⟨X7a, 2, none⟩ = some (.slice As8 ns8 cs8) := X7.cell 2
  have X7c3 : w19.cell? ⟨X7a, 3, none⟩ = some (.slice Ah8 nh8 ch8) := X7.cell 3
  have X7c4 : w19.cell? ⟨X7a, 4, none⟩ = some (.slice Af8 nf8 cf8) := X7.cell 4
  have X7z : X7a < w19.heap.size := X7.lt
  go_wp2_with fail
  clear X7c0 X7f0 X7c1 X7f1 X7c2 X7f2 X7c3 X7f3 X7c4 X7f4 X7z
  have hX9 := bx_set (Aq := Aq9) (nq := nq9) (cq := cq9) (Aa := Aa9) (na := na9) (ca := ca9) (As := As9) (ns := ns9) (cs := cs9) (Ah := Ah9) (nh := nh9) (ch := ch9) (Af := Af9) (nf := nf9) (cf := cf9) hX9 X7
  have hB := (((((hB.setCell (p := ⟨X7a, 0, none⟩) gX7 (.slice Aq9 nq9 cq9)).setCell (p := ⟨X7a, 1, none⟩) gX7 (.slice Aa9 na9 ca9)).setCell (p := ⟨X7a, 2, none⟩) gX7 (.slice As9 ns9 cs9)).setCell (p := ⟨X7a, 3, none⟩) gX7 (.slice Ah9 nh9 ch9)).setCell (p := ⟨X7a, 4, none⟩) gX7 (.slice Af9 nf9 cf9))
  have X7 := (((((X7.set 0 (.slice Aq9 nq9 cq9)).set 1 (.slice Aa9 na9 ca9)).set 2 (.slice As9 ns9 cs9)).set 3 (.slice Ah9 nh9 ch9)).set 4 (.slice Af9 nf9 cf9))
  simp only [List.set_cons_zero, List.set_cons_succ] at X7
  generalize (((((w19.setCell ⟨X7a, 0, none⟩ (.slice Aq9 nq9 cq9)).setCell ⟨X7a, 1, none⟩ (.slice Aa9 na9 ca9)).setCell ⟨X7a, 2, none⟩ (.slice As9 ns9 cs9)).setCell ⟨X7a, 3, none⟩ (.slice Ah9 nh9 ch9)).setCell ⟨X7a, 4, none⟩ (.slice Af9 nf9 cf9)) = w20 at hB X7 hX9 ⊢
  refine (oTick_is oxE hX9 (T := (oxT, [-1, 3], 0)) (Lib.hid oe12)).mono ?_
  rintro e w21 hh
  obtain ⟨Aq10, nq10, cq10, Aa10, na10, ca10, As10, ns10, cs10, Ah10, nh10, ch10, Af10, nf10, cf10, Al10, nl10, cl10, rfl, hX10, hL10, hb⟩ := hh.sl
  have X7 := X7.later hb
  have hX9 := hid_bx hX9 hb
  have hB := hB.trans (hb.mono hB.size)
  clear hb
  clear X7 hX9
  go_wp2_with fail
  have hst := ((Below.refl w21.heap.size w21).alloc (by simp <;> omega) (.cells #[.slice Aq10 nq10 cq10, .slice Aa10 na10 ca10, .slice As10 ns10 cs10, .slice Ah10 nh10 ch10, .slice Af10 nf10 cf10] 30))
  have hBo := hB
  have hX10 := hid_bx hX10 hst
  have hL10 := hid_hd hL10 hst
  have hB := hB.trans (hst.mono hB.size)
  have X10 := (Box.newAt (w := w21) (n := w21.heap.size) [.slice Aq10 nq10 cq10, .slice Aa10 na10 ca10, .slice As10 ns10 cs10, .slice Ah10 nh10 ch10, .slice Af10 nf10 cf10] 30 (by simp))
  clear hst
  generalize (w21.alloc (.cells #[.slice Aq10 nq10 cq10, .slice Aa10 na10 ca10, .slice As10 ns10 cs10, .slice Ah10 nh10 ch10, .slice Af10 nf10 cf10] 30)) = w22 at hB  X10 hX10 hL10 ⊢
  generalize w21.heap.size = X10a at X10 ⊢
  refine (oTick_is oxT hX10 (T := (oxT, [-1, -1], 0)) (Lib.hid oe13)).mono ?_
  rintro e w23 hh
  obtain ⟨Aq11, nq11, cq11, Aa11, na11, ca11, As11, ns11, cs11, Ah11, nh11, ch11, Af11, nf11, cf11, Al11, nl11, cl11, rfl, hX11, hL11, hb⟩ := hh.sl
  have X10 := X10.later hb
  have hX10 := hid_bx hX10 hb
  have hL10 := hid_hd hL10 hb
  have hB := hB.trans (hb.mono hB.size)
  clear hb
  clear X10 hX10
  go_wp2_with fail
  have hst := (((Below.refl w23.heap.size w23).alloc (by simp <;> omega) (.cells #[.slice Aq11 nq11 cq11, .slice Aa11 na11 ca11, .slice As11 ns11 cs11, .slice Ah11 nh11 ch11, .slice Af11 nf11 cf11] 30)).alloc (by simp <;> omega) (.cells #[.int .i64 (-1), .int .i64 3] 3))
  have hBo := hB
  have hL10 := hid_hd hL10 hst
  have hL11 := hid_hd hL11 hst
  have hB := hB.trans (hst.mono hB.size)
  have X11 := ((Box.newAt (w := w23) (n := w23.heap.size) [.slice Aq11 nq11 cq11, .slice Aa11 na11 ca11, .slice As11 ns11 cs11, .slice Ah11 nh11 ch11, .slice Af11 nf11 cf11] 30 (by simp)).alloc (.cells #[.int .i64 (-1), .int .i64 3] 3))
  have B12 := (Box.newAt (w := (w23.alloc (.cells #[.slice Aq11 nq11 cq11, .slice Aa11 na11 ca11, .slice As11 ns11 cs11, .slice Ah11 nh11 ch11, .slice Af11 nf11 cf11] 30))) (n := w23.heap.size + 1) [.int .i64 (-1), .int .i64 3] 3 (by simp))
  clear hst
  generalize ((w23.alloc (.cells #[.slice Aq11 nq11 cq11, .slice Aa11 na11 ca11, .slice As11 ns11 cs11, .slice Ah11 nh11 ch11, .slice Af11 nf11 cf11] 30)).alloc (.cells #[.int .i64 (-1), .int .i64 3] 3)) = w24 at hB  X11 B12 hL10 hL11 ⊢
  generalize w23.heap.size + 1 = B12a at X11 B12 ⊢
  generalize w23.heap.size = X11a at X11 B12 ⊢
  refine (rSameInts_is hL10 (Lib.hid (box_hd (l := [-1, 3]) B12 (by simp [maxLen]))) (T := true) (Lib.hid (by decide))).mono ?_
  rintro e w25 ⟨rfl, hb⟩
  have X11 := X11.later hb
  have B12 := B12.later hb
  have hL10 := hid_hd hL10 hb
  have hL11 := hid_hd hL11 hb
  have hB := hB.trans (hb.mono hB.size)
  clear hb
  clear B12 X11
  go_wp2_with fail
  have hst := ((Below.refl w25.heap.size w25).alloc (by simp <;> omega) (.cells #[.int .i64 (-1), .int .i64 (-1)] 3))
  have hBo := hB
  have hL10 := hid_hd hL10 hst
  have hL11 := hid_hd hL11 hst
  have hB := hB.trans (hst.mono hB.size)
  have B13 := (Box.newAt (w := w25) (n := w25.heap.size) [.int .i64 (-1), .int .i64 (-1)] 3 (by simp))
  clear hst
  generalize (w25.alloc (.cells #[.int .i64 (-1), .int .i64 (-1)] 3)) = w26 at hB  B13 hL10 hL11 ⊢
  generalize w25.heap.size = B13a at B13 ⊢
  refine (rSameInts_is hL11 (Lib.hid (box_hd (l := [-1, -1]) B13 (by simp [maxLen]))) (T := true) (Lib.hid (by decide))).mono ?_
  rintro e w27 ⟨rfl, hb⟩
  have B13 := B13.later hb
  have hL10 := hid_hd hL10 hb
  have hL11 := hid_hd hL11 hb
  have hB := hB.trans (hb.mono hB.size)
  clear hb
  go_wp2
  go_ret
  exact ⟨by first | rfl | simp, hB⟩
end Go.Proofs.Ytmbifmmkccghfaa

/-
  OrdersSpec, OrdersTickSpec, OrdersDeliverSpec. (Printed by gen_sf.py.) No condition.
-/
namespace Go.Proofs.Ytmbifmmkccghfaa
open Go.RowKit

section
variable {b : Bx} {Vq Va Vs Vh Vf Uq Ua Us Uh Uf : Value} {W : World}
end
set_option maxRecDepth 100000 in
set_option maxHeartbeats 4000000 in
theorem law_Deliver_go (b : Bx) (Aq : Option Addr) (nq cq : Nat) (Aa : Option Addr) (na ca : Nat) (As : Option Addr) (ns cs : Nat) (Ah : Option Addr) (nh ch : Nat) (Af : Option Addr) (nf cf : Nat) (i : Int) (w : World) (hX : Hid (BxAt w w.heap.size (.slice Aq nq cq) (.slice Aa na ca) (.slice As ns cs) (.slice Ah nh ch) (.slice Af nf cf) b)) :
    Calls Try.prog 6 #[.agg #[.slice Aq nq cq, .slice Aa na ca, .slice As ns cs, .slice Ah nh ch, .slice Af nf cf], .int .i64 i] w fun e w' => e = .returned (.bool true) ∧ Below w.heap.size w w' := by
  have hB := Below.refl w.heap.size w
  obtain ⟨t, ht⟩ : ∃ t, b.fewB = t := ⟨_, rfl⟩
  have ht := Lib.hid ht
  obtain ⟨x, is, ex, hx⟩ : ∃ x is ex, b.deliverT i = (x, is, ex) := ⟨_, _, _, rfl⟩
  have hx := Lib.hid hx
  have qis : (is == is) = true := by simp
  have ris : (is != is) = false := by simp
  have qex : (ex == ex) = true := by simp
  have rex : (ex != ex) = false := by simp
  obtain ⟨y, ey, hy⟩ : ∃ y ey, b.loseT i = (y, ey) := ⟨_, _, rfl⟩
  have hy := Lib.hid hy
  have qey : (ey == ey) = true := by simp
  have rey : (ey != ey) = false := by simp
  obtain ⟨u, eu, hu⟩ : ∃ u eu, b.repeatT i = (u, eu) := ⟨_, _, rfl⟩
  have hu := Lib.hid hu
  have qeu : (eu == eu) = true := by simp
  have reu : (eu != eu) = false := by simp
  go_enter Try.func6, Try.ntmps6
  go_wp2_with fail
  have hst := ((Below.refl w.heap.size w).alloc (by simp <;> omega) (.cells #[.slice Aq nq cq, .slice Aa na ca, .slice As ns cs, .slice Ah nh ch, .slice Af nf cf] 30))
  have hBo := hB
  have hX := hid_bx hX hst
  have hB := hB.trans (hst.mono hB.size)
  have X0 := (Box.newAt (w := w) (n := w.heap.size) [.slice Aq nq cq, .slice Aa na ca, .slice As ns cs, .slice Ah nh ch, .slice Af nf cf] 30 (by simp))
  clear hst
  generalize (w.alloc (.cells #[.slice Aq nq cq, .slice Aa na ca, .slice As ns cs, .slice Ah nh ch, .slice Af nf cf] 30)) = w1 at hB  X0 hX ⊢
  generalize w.heap.size = X0a at X0 ⊢
  refine (oSane_any _).mono ?_
  rintro e w2 ⟨rfl, hb⟩
  have X0 := X0.later hb
  have hX := hid_bx hX hb
  have hB := hB.trans (hb.mono hB.size)
  clear hb
  have X0c0 : w2.cell? ⟨X0a, 0, none⟩ = some (.slice Aq nq cq) := X0.cell 0
  have X0c1 : w2.cell? ⟨X0a, 1, none⟩ = some (.slice Aa na ca) := X0.cell 1
  have X0c2 : w2.cell? ⟨X0a, 2, none⟩ = some (.slice As ns cs) := X0.cell 2
  have X0c3 : w2.cell? ⟨X0a, 3, none⟩ = some (.slice Ah nh ch) := X0.cell 3
  have X0c4 : w2.cell? ⟨X0a, 4, none⟩ = some (.slice Af nf cf) := X0.cell 4
  have X0z : X0a < w2.heap.size := X0.lt
  go_wp2_with fail
  clear X0c0 X0c1 X0c2 X0c3 X0c4 X0z
  refine (oRFew_is b hX ht).mono ?_
  rintro e w3 ⟨rfl, hb⟩
  have X0 := X0.later hb
  have hX := hid_bx hX hb
  have hB := hB.trans (hb.mono hB.size)
  clear hb
  cases t with
  | false =>
    go_wp2
    go_ret
    exact ⟨rfl, hB⟩
  | true =>
    have X0c0 : w3.cell? ⟨X0a, 0, none⟩ = some (.slice Aq nq cq) := X0.cell 0
    have X0c1 : w3.cell? ⟨X0a, 1, none⟩ = some (.slice Aa na ca) := X0.cell 1
    have X0c2 : w3.cell? ⟨X0a, 2, none⟩ = some (.slice As ns cs) := X0.cell 2
    have X0c3 : w3.cell? ⟨X0a, 3, none⟩ = some (.slice Ah nh ch) := X0.cell 3
    have X0c4 : w3.cell? ⟨X0a, 4, none⟩ = some (.slice Af nf cf) := X0.cell 4
    have X0z : X0a < w3.heap.size := X0.lt
    go_wp2_with fail
    clear X0c0 X0c1 X0c2 X0c3 X0c4 X0z
    refine (oDeliver_is b i hX hx).mono ?_
    rintro e w4 hh
    obtain ⟨Aq1, nq1, cq1, Aa1, na1, ca1, As1, ns1, cs1, Ah1, nh1, ch1, Af1, nf1, cf1, rfl, hX1, hb⟩ := hh.sl
    have X0 := X0.later hb
    have hX := hid_bx hX hb
    have hB := hB.trans (hb.mono hB.size)
    clear hb
    have X0c0 : w4.cell? ⟨X0a, 0, none⟩ = some (.slice Aq nq cq) := X0.cell 0
    have X0c1 : w4.cell? ⟨X0a, 1, none⟩ = some (.slice Aa na ca) := X0.cell 1
    have X0c2 : w4.cell? ⟨X0a, 2, none⟩ = some (.slice As ns cs) := X0.cell 2
    have X0c3 : w4.cell? ⟨X0a, 3, none⟩ = some (.slice Ah nh ch) := X0.cell 3
    have X0c4 : w4.cell? ⟨X0a, 4, none⟩ = some (.slice Af nf cf) := X0.cell 4
    have X0z : X0a < w4.heap.size := X0.lt
    go_wp2_with fail
    clear X0c0 X0c1 X0c2 X0c3 X0c4 X0z
    have hst := ((Below.refl w4.heap.size w4).alloc (by simp <;> omega) (.cells #[.slice Aq1 nq1 cq1, .slice Aa1 na1 ca1, .slice As1 ns1 cs1, .slice Ah1 nh1 ch1, .slice Af1 nf1 cf1] 30))
    have hBo := hB
    have X0o := X0
    have X0 := X0.later hst
    have hX := hid_bx hX hst
    have hX1 := hid_bx hX1 hst
    have hB := hB.trans (hst.mono hB.size)
    have X1 := (Box.newAt (w := w4) (n := w4.heap.size) [.slice Aq1 nq1 cq1, .slice Aa1 na1 ca1, .slice As1 ns1 cs1, .slice Ah1 nh1 ch1, .slice Af1 nf1 cf1] 30 (by simp))
    have gX1 : w.heap.size ≤ w4.heap.size := by have := hBo.size; omega
    clear hst
    have nX0X1 : X0a ≠ w4.heap.size := by have := X0o.lt; omega
    generalize (w4.alloc (.cells #[.slice Aq1 nq1 cq1, .slice Aa1 na1 ca1, .slice As1 ns1 cs1, .slice Ah1 nh1 ch1, .slice Af1 nf1 cf1] 30)) = w5 at hB X0 X1 hX hX1 ⊢
    generalize w4.heap.size = X1a at X1 nX0X1 gX1 ⊢
    refine (oRDeliver_is b i hX hx).mono ?_
    rintro e w6 hh
    obtain ⟨Aq2, nq2, cq2, Aa2, na2, ca2, As2, ns2, cs2, Ah2, nh2, ch2, Af2, nf2, cf2, rfl, hX2, hb⟩ := hh.sl
    have X0 := X0.later hb
    have X1 := X1.later hb
    have hX := hid_bx hX hb
    have hX1 := hid_bx hX1 hb
    have hB := hB.trans (hb.mono hB.size)
    clear hb
    have X1c0 : w6.cell? ⟨X1a, 0, none⟩ = some (.slice Aq1 nq1 cq1) := X1.cell 0
    have X1c1 : w6.cell? ⟨X1a, 1, none⟩ = some (.slice Aa1 na1 ca1) := X1.cell 1
    have X1c2 : w6.cell? ⟨X1a, 2, none⟩ = some (.slice As1 ns1 cs1) := X1.cell 2
    have X1c3 : w6.cell? ⟨X1a, 3, none⟩ = some (.slice Ah1 nh1 ch1) := X1.cell 3
    have X1c4 : w6.cell? ⟨X1a, 4, none⟩ = some (.slice Af1 nf1 cf1) := X1.cell 4
    have X1z : X1a < w6.heap.size := X1.lt
    go_wp2_with fail
    clear X1c0 X1c1 X1c2 X1c3 X1c4 X1z
    have hst := ((Below.refl w6.heap.size w6).alloc (by simp <;> omega) (.cells #[.slice Aq2 nq2 cq2, .slice Aa2 na2 ca2, .slice As2 ns2 cs2, .slice Ah2 nh2 ch2, .slice Af2 nf2 cf2] 30))
    have hBo := hB
    have X0o := X0
    have X0 := X0.later hst
    have X1o := X1
    have X1 := X1.later hst
    have hX := hid_bx hX hst
    have hX1 := hid_bx hX1 hst
    have hX2 := hid_bx hX2 hst
    have hB := hB.trans (hst.mono hB.size)
    have X2 := (Box.newAt (w := w6) (n := w6.heap.size) [.slice Aq2 nq2 cq2, .slice Aa2 na2 ca2, .slice As2 ns2 cs2, .slice Ah2 nh2 ch2, .slice Af2 nf2 cf2] 30 (by simp))
    have gX2 : w.heap.size ≤ w6.heap.size := by have := hBo.size; omega
    clear hst
    have nX0X2 : X0a ≠ w6.heap.size := by have := X0o.lt; omega
    have nX1X2 : X1a ≠ w6.heap.size := by have := X1o.lt; omega
    generalize (w6.alloc (.cells #[.slice Aq2 nq2 cq2, .slice Aa2 na2 ca2, .slice As2 ns2 cs2, .slice Ah2 nh2 ch2, .slice Af2 nf2 cf2] 30)) = w7 at hB X0 X1 X2 hX hX1 hX2 ⊢
    generalize w6.heap.size = X2a at X2 nX0X2 nX1X2 gX2 ⊢
    refine (oSame_is x hX1 hX2).mono ?_
    rintro e w8 ⟨rfl, hb⟩
    have X0 := X0.later hb
    have X1 := X1.later hb
    have X2 := X2.later hb
    have hX := hid_bx hX hb
    have hX1 := hid_bx hX1 hb
    have hX2 := hid_bx hX2 hb
    have hB := hB.trans (hb.mono hB.size)
    clear hb
    clear hX1 hX2
    have X0c0 : w8.cell? ⟨X0a, 0, none⟩ = some (.slice Aq nq cq) := X0.cell 0
    have X0c1 : w8.cell? ⟨X0a, 1, none⟩ = some (.slice Aa na ca) := X0.cell 1
    have X0c2 : w8.cell? ⟨X0a, 2, none⟩ = some (.slice As ns cs) := X0.cell 2
    have X0c3 : w8.cell? ⟨X0a, 3, none⟩ = some (.slice Ah nh ch) := X0.cell 3
    have X0c4 : w8.cell? ⟨X0a, 4, none⟩ = some (.slice Af nf cf) := X0.cell 4
    have X0z : X0a < w8.heap.size := X0.lt
    go_wp2_with fail
    clear X0c0 X0c1 X0c2 X0c3 X0c4 X0z
    refine (oLose_is b i hX hy).mono ?_
    rintro e w9 hh
    obtain ⟨Aq3, nq3, cq3, Aa3, na3, ca3, As3, ns3, cs3, Ah3, nh3, ch3, Af3, nf3, cf3, rfl, hX3, hb⟩ := hh.sl1
    have X0 := X0.later hb
    have X1 := X1.later hb
    have X2 := X2.later hb
    have hX := hid_bx hX hb
    have hB := hB.trans (hb.mono hB.size)
    clear hb
    have X0c0 : w9.cell? ⟨X0a, 0, none⟩ = some (.slice Aq nq cq) := X0.cell 0
    have X0c1 : w9.cell? ⟨X0a, 1, none⟩ = some (.slice Aa na ca) := X0.cell 1
    have X0c2 : w9.cell? ⟨X0a, 2, none⟩ = some (.slice As ns cs) := X0.cell 2
    have X0c3 : w9.cell? ⟨X0a, 3, none⟩ = some (.slice Ah nh ch) := X0.cell 3
    have X0c4 : w9.cell? ⟨X0a, 4, none⟩ = some (.slice Af nf cf) := X0.cell 4
    have X0z : X0a < w9.heap.size := X0.lt
    have X1f0 : w9.frozen? ⟨X1a, 0, none⟩ = false := X1.free 0
    have X1f1 : w9.frozen? ⟨X1a, 1, none⟩ = false := X1.free 1
    have X1f2 : w9.frozen? ⟨X1a, 2, none⟩ = false := X1.free 2
    have X1f3 : w9.frozen? ⟨X1a, 3, none⟩ = false := X1.free 3
    have X1f4 : w9.frozen? ⟨X1a, 4, none⟩ = false := X1.free 4
    have X1c0 : w9.cell? ⟨X1a, 0, none⟩ = some (.slice Aq1 nq1 cq1) := X1.cell 0
    have X1c1 : w9.cell? ⟨X1a, 1, none⟩ = some (.slice Aa1 na1 ca1) := X1.cell 1
    have X1c2 : w9.cell? ⟨X1a, 2, none⟩ = some (.slice As1 ns1 cs1) := X1.cell 2
    have X1c3 : w9.cell? ⟨X1a, 3, none⟩ = some (.slice Ah1 nh1 ch1) := X1.cell 3
    have X1c4 : w9.cell? ⟨X1a, 4, none⟩ = some (.slice Af1 nf1 cf1) := X1.cell 4
    have X1z : X1a < w9.heap.size := X1.lt
    go_wp2_with fail
    clear X1f0 X1f1 X1f2 X1f3 X1f4
    clear X0c0 X0c1 X0c2 X0c3 X0c4 X0z X1c0 X1c1 X1c2 X1c3 X1c4 X1z
    have hX := bx_set (Aq := Aq3) (nq := nq3) (cq := cq3) (Aa := Aa3) (na := na3) (ca := ca3) (As := As3) (ns := ns3) (cs := cs3) (Ah := Ah3) (nh := nh3) (ch := ch3) (Af := Af3) (nf := nf3) (cf := cf3) hX X1
    have hX3 := bx_set (Aq := Aq3) (nq := nq3) (cq := cq3) (Aa := Aa3) (na := na3) (ca := ca3) (As := As3) (ns := ns3) (cs := cs3) (Ah := Ah3) (nh := nh3) (ch := ch3) (Af := Af3) (nf := nf3) (cf := cf3) hX3 X1
    have hB := (((((hB.setCell (p := ⟨X1a, 0, none⟩) gX1 (.slice Aq3 nq3 cq3)).setCell (p := ⟨X1a, 1, none⟩) gX1 (.slice Aa3 na3 ca3)).setCell (p := ⟨X1a, 2, none⟩) gX1 (.slice As3 ns3 cs3)).setCell (p := ⟨X1a, 3, none⟩) gX1 (.slice Ah3 nh3 ch3)).setCell (p := ⟨X1a, 4, none⟩) gX1 (.slice Af3 nf3 cf3))
    have X0 := (((((X0.other (a := ⟨X1a, 0, none⟩) nX0X1 (.slice Aq3 nq3 cq3)).other (a := ⟨X1a, 1, none⟩) nX0X1 (.slice Aa3 na3 ca3)).other (a := ⟨X1a, 2, none⟩) nX0X1 (.slice As3 ns3 cs3)).other (a := ⟨X1a, 3, none⟩) nX0X1 (.slice Ah3 nh3 ch3)).other (a := ⟨X1a, 4, none⟩) nX0X1 (.slice Af3 nf3 cf3))
    have X2 := (((((X2.other (a := ⟨X1a, 0, none⟩) (Ne.symm nX1X2) (.slice Aq3 nq3 cq3)).other (a := ⟨X1a, 1, none⟩) (Ne.symm nX1X2) (.slice Aa3 na3 ca3)).other (a := ⟨X1a, 2, none⟩) (Ne.symm nX1X2) (.slice As3 ns3 cs3)).other (a := ⟨X1a, 3, none⟩) (Ne.symm nX1X2) (.slice Ah3 nh3 ch3)).other (a := ⟨X1a, 4, none⟩) (Ne.symm nX1X2) (.slice Af3 nf3 cf3))
    have X1 := (((((X1.set 0 (.slice Aq3 nq3 cq3)).set 1 (.slice Aa3 na3 ca3)).set 2 (.slice As3 ns3 cs3)).set 3 (.slice Ah3 nh3 ch3)).set 4 (.slice Af3 nf3 cf3))
    simp only [List.set_cons_zero, List.set_cons_succ] at X1
    generalize (((((w9.setCell ⟨X1a, 0, none⟩ (.slice Aq3 nq3 cq3)).setCell ⟨X1a, 1, none⟩ (.slice Aa3 na3 ca3)).setCell ⟨X1a, 2, none⟩ (.slice As3 ns3 cs3)).setCell ⟨X1a, 3, none⟩ (.slice Ah3 nh3 ch3)).setCell ⟨X1a, 4, none⟩ (.slice Af3 nf3 cf3)) = w10 at hB X0 X1 X2 hX hX3 ⊢
    refine (oRLose_is b i hX hy).mono ?_
    rintro e w11 hh
    obtain ⟨Aq4, nq4, cq4, Aa4, na4, ca4, As4, ns4, cs4, Ah4, nh4, ch4, Af4, nf4, cf4, rfl, hX4, hb⟩ := hh.sl1
    have X0 := X0.later hb
    have X1 := X1.later hb
    have X2 := X2.later hb
    have hX := hid_bx hX hb
    have hX3 := hid_bx hX3 hb
    have hB := hB.trans (hb.mono hB.size)
    clear hb
    have X0c0 : w11.cell? ⟨X0a, 0, none⟩ = some (.slice Aq nq cq) := X0.cell 0
    have X0c1 : w11.cell? ⟨X0a, 1, none⟩ = some (.slice Aa na ca) := X0.cell 1
    have X0c2 : w11.cell? ⟨X0a, 2, none⟩ = some (.slice As ns cs) := X0.cell 2
    have X0c3 : w11.cell? ⟨X0a, 3, none⟩ = some (.slice Ah nh ch) := X0.cell 3
    have X0c4 : w11.cell? ⟨X0a, 4, none⟩ = some (.slice Af nf cf) := X0.cell 4
    have X0z : X0a < w11.heap.size := X0.lt
    have X1c0 : w11.cell? ⟨X1a, 0, none⟩ = some (.slice Aq3 nq3 cq3) := X1.cell 0
    have X1c1 : w11.cell? ⟨X1a, 1, none⟩ = some (.slice Aa3 na3 ca3) := X1.cell 1
    have X1c2 : w11.cell? ⟨X1a, 2, none⟩ = some (.slice As3 ns3 cs3) := X1.cell 2
    have X1c3 : w11.cell? ⟨X1a, 3, none⟩ = some (.slice Ah3 nh3 ch3) := X1.cell 3
    have X1c4 : w11.cell? ⟨X1a, 4, none⟩ = some (.slice Af3 nf3 cf3) := X1.cell 4
    have X1z : X1a < w11.heap.size := X1.lt
    have X2f0 : w11.frozen? ⟨X2a, 0, none⟩ = false := X2.free 0
    have X2f1 : w11.frozen? ⟨X2a, 1, none⟩ = false := X2.free 1
    have X2f2 : w11.frozen? ⟨X2a, 2, none⟩ = false := X2.free 2
    have X2f3 : w11.frozen? ⟨X2a, 3, none⟩ = false := X2.free 3
    have X2f4 : w11.frozen? ⟨X2a, 4, none⟩ = false := X2.free 4
    have X2c0 : w11.cell? ⟨X2a, 0, none⟩ = some (.slice Aq2 nq2 cq2) := X2.cell 0
    have X2c1 : w11.cell? ⟨X2a, 1, none⟩ = some (.slice Aa2 na2 ca2) := X2.cell 1
    have X2c2 : w11.cell? ⟨X2a, 2, none⟩ = some (.slice As2 ns2 cs2) := X2.cell 2
    have X2c3 : w11.cell? ⟨X2a, 3, none⟩ = some (.slice Ah2 nh2 ch2) := X2.cell 3
    have X2c4 : w11.cell? ⟨X2a, 4, none⟩ = some (.slice Af2 nf2 cf2) := X2.cell 4
    have X2z : X2a < w11.heap.size := X2.lt
    go_wp2_with fail
    clear X2f0 X2f1 X2f2 X2f3 X2f4
    clear X0c0 X0c1 X0c2 X0c3 X0c4 X0z X1c0 X1c1 X1c2 X1c3 X1c4 X1z X2c0 X2c1 X2c2 X2c3 X2c4 X2z
    have hX := bx_set (Aq := Aq4) (nq := nq4) (cq := cq4) (Aa := Aa4) (na := na4) (ca := ca4) (As := As4) (ns := ns4) (cs := cs4) (Ah := Ah4) (nh := nh4) (ch := ch4) (Af := Af4) (nf := nf4) (cf := cf4) hX X2
    have hX3 := bx_set (Aq := Aq4) (nq := nq4) (cq := cq4) (Aa := Aa4) (na := na4) (ca := ca4) (As := As4) (ns := ns4) (cs := cs4) (Ah := Ah4) (nh := nh4) (ch := ch4) (Af := Af4) (nf := nf4) (cf := cf4) hX3 X2
    have hX4 := bx_set (Aq := Aq4) (nq := nq4) (cq := cq4) (Aa := Aa4) (na := na4) (ca := ca4) (As := As4) (ns := ns4) (cs := cs4) (Ah := Ah4) (nh := nh4) (ch := ch4) (Af := Af4) (nf := nf4) (cf := cf4) hX4 X2
    have hB := (((((hB.setCell (p := ⟨X2a, 0, none⟩) gX2 (.slice Aq4 nq4 cq4)).setCell (p := ⟨X2a, 1, none⟩) gX2 (.slice Aa4 na4 ca4)).setCell (p := ⟨X2a, 2, none⟩) gX2 (.slice As4 ns4 cs4)).setCell (p := ⟨X2a, 3, none⟩) gX2 (.slice Ah4 nh4 ch4)).setCell (p := ⟨X2a, 4, none⟩) gX2 (.slice Af4 nf4 cf4))
    have X0 := (((((X0.other (a := ⟨X2a, 0, none⟩) nX0X2 (.slice Aq4 nq4 cq4)).other (a := ⟨X2a, 1, none⟩) nX0X2 (.slice Aa4 na4 ca4)).other (a := ⟨X2a, 2, none⟩) nX0X2 (.slice As4 ns4 cs4)).other (a := ⟨X2a, 3, none⟩) nX0X2 (.slice Ah4 nh4 ch4)).other (a := ⟨X2a, 4, none⟩) nX0X2 (.slice Af4 nf4 cf4))
    have X1 := (((((X1.other (a := ⟨X2a, 0, none⟩) nX1X2 (.slice Aq4 nq4 cq4)).other (a := ⟨X2a, 1, none⟩) nX1X2 (.slice Aa4 na4 ca4)).other (a := ⟨X2a, 2, none⟩) nX1X2 (.slice As4 ns4 cs4)).other (a := ⟨X2a, 3, none⟩) nX1X2 (.slice Ah4 nh4 ch4)).other (a := ⟨X2a, 4, none⟩) nX1X2 (.slice Af4 nf4 cf4))
    have X2 := (((((X2.set 0 (.slice Aq4 nq4 cq4)).set 1 (.slice Aa4 na4 ca4)).set 2 (.slice As4 ns4 cs4)).set 3 (.slice Ah4 nh4 ch4)).set 4 (.slice Af4 nf4 cf4))
    simp only [List.set_cons_zero, List.set_cons_succ] at X2
    generalize (((((w11.setCell ⟨X2a, 0, none⟩ (.slice Aq4 nq4 cq4)).setCell ⟨X2a, 1, none⟩ (.slice Aa4 na4 ca4)).setCell ⟨X2a, 2, none⟩ (.slice As4 ns4 cs4)).setCell ⟨X2a, 3, none⟩ (.slice Ah4 nh4 ch4)).setCell ⟨X2a, 4, none⟩ (.slice Af4 nf4 cf4)) = w12 at hB X0 X1 X2 hX hX3 hX4 ⊢
    refine (oSame_is y hX3 hX4).mono ?_
    rintro e w13 ⟨rfl, hb⟩
    have X0 := X0.later hb
    have X1 := X1.later hb
    have X2 := X2.later hb
    have hX := hid_bx hX hb
    have hX3 := hid_bx hX3 hb
    have hX4 := hid_bx hX4 hb
    have hB := hB.trans (hb.mono hB.size)
    clear hb
    clear hX3 hX4
    have X0c0 : w13.cell? ⟨X0a, 0, none⟩ = some (.slice Aq nq cq) := X0.cell 0
    have X0c1 : w13.cell? ⟨X0a, 1, none⟩ = some (.slice Aa na ca) := X0.cell 1
    have X0c2 : w13.cell? ⟨X0a, 2, none⟩ = some (.slice As ns cs) := X0.cell 2
    have X0c3 : w13.cell? ⟨X0a, 3, none⟩ = some (.slice Ah nh ch) := X0.cell 3
    have X0c4 : w13.cell? ⟨X0a, 4, none⟩ = some (.slice Af nf cf) := X0.cell 4
    have X0z : X0a < w13.heap.size := X0.lt
    go_wp2_with fail
    clear X0c0 X0c1 X0c2 X0c3 X0c4 X0z
    refine (oRepeat_is b i hX hu).mono ?_
    rintro e w14 hh
    obtain ⟨Aq5, nq5, cq5, Aa5, na5, ca5, As5, ns5, cs5, Ah5, nh5, ch5, Af5, nf5, cf5, rfl, hX5, hb⟩ := hh.sl1
    have X0 := X0.later hb
    have X1 := X1.later hb
    have X2 := X2.later hb
    have hX := hid_bx hX hb
    have hB := hB.trans (hb.mono hB.size)
    clear hb
    have X0c0 : w14.cell? ⟨X0a, 0, none⟩ = some (.slice Aq nq cq) := X0.cell 0
    have X0c1 : w14.cell? ⟨X0a, 1, none⟩ = some (.slice Aa na ca) := X0.cell 1
    have X0c2 : w14.cell? ⟨X0a, 2, none⟩ = some (.slice As ns cs) := X0.cell 2
    have X0c3 : w14.cell? ⟨X0a, 3, none⟩ = some (.slice Ah nh ch) := X0.cell 3
    have X0c4 : w14.cell? ⟨X0a, 4, none⟩ = some (.slice Af nf cf) := X0.cell 4
    have X0z : X0a < w14.heap.size := X0.lt
    have X1f0 : w14.frozen? ⟨X1a, 0, none⟩ = false := X1.free 0
    have X1f1 : w14.frozen? ⟨X1a, 1, none⟩ = false := X1.free 1
    have X1f2 : w14.frozen? ⟨X1a, 2, none⟩ = false := X1.free 2
    have X1f3 : w14.frozen? ⟨X1a, 3, none⟩ = false := X1.free 3
    have X1f4 : w14.frozen? ⟨X1a, 4, none⟩ = false := X1.free 4
    have X1c0 : w14.cell? ⟨X1a, 0, none⟩ = some (.slice Aq3 nq3 cq3) := X1.cell 0
    have X1c1 : w14.cell? ⟨X1a, 1, none⟩ = some (.slice Aa3 na3 ca3) := X1.cell 1
    have X1c2 : w14.cell? ⟨X1a, 2, none⟩ = some (.slice As3 ns3 cs3) := X1.cell 2
    have X1c3 : w14.cell? ⟨X1a, 3, none⟩ = some (.slice Ah3 nh3 ch3) := X1.cell 3
    have X1c4 : w14.cell? ⟨X1a, 4, none⟩ = some (.slice Af3 nf3 cf3) := X1.cell 4
    have X1z : X1a < w14.heap.size := X1.lt
    go_wp2_with fail
    clear X1f0 X1f1 X1f2 X1f3 X1f4
    clear X0c0 X0c1 X0c2 X0c3 X0c4 X0z X1c0 X1c1 X1c2 X1c3 X1c4 X1z
    have hX := bx_set (Aq := Aq5) (nq := nq5) (cq := cq5) (Aa := Aa5) (na := na5) (ca := ca5) (As := As5) (ns := ns5) (cs := cs5) (Ah := Ah5) (nh := nh5) (ch := ch5) (Af := Af5) (nf := nf5) (cf := cf5) hX X1
    have hX5 := bx_set (Aq := Aq5) (nq := nq5) (cq := cq5) (Aa := Aa5) (na := na5) (ca := ca5) (As := As5) (ns := ns5) (cs := cs5) (Ah := Ah5) (nh := nh5) (ch := ch5) (Af := Af5) (nf := nf5) (cf := cf5) hX5 X1
    have hB := (((((hB.setCell (p := ⟨X1a, 0, none⟩) gX1 (.slice Aq5 nq5 cq5)).setCell (p := ⟨X1a, 1, none⟩) gX1 (.slice Aa5 na5 ca5)).setCell (p := ⟨X1a, 2, none⟩) gX1 (.slice As5 ns5 cs5)).setCell (p := ⟨X1a, 3, none⟩) gX1 (.slice Ah5 nh5 ch5)).setCell (p := ⟨X1a, 4, none⟩) gX1 (.slice Af5 nf5 cf5))
    have X0 := (((((X0.other (a := ⟨X1a, 0, none⟩) nX0X1 (.slice Aq5 nq5 cq5)).other (a := ⟨X1a, 1, none⟩) nX0X1 (.slice Aa5 na5 ca5)).other (a := ⟨X1a, 2, none⟩) nX0X1 (.slice As5 ns5 cs5)).other (a := ⟨X1a, 3, none⟩) nX0X1 (.slice Ah5 nh5 ch5)).other (a := ⟨X1a, 4, none⟩) nX0X1 (.slice Af5 nf5 cf5))
    have X2 := (((((X2.other (a := ⟨X1a, 0, none⟩) (Ne.symm nX1X2) (.slice Aq5 nq5 cq5)).other (a := ⟨X1a, 1, none⟩) (Ne.symm nX1X2) (.slice Aa5 na5 ca5)).other (a := ⟨X1a, 2, none⟩) (Ne.symm nX1X2) (.slice As5 ns5 cs5)).other (a := ⟨X1a, 3, none⟩) (Ne.symm nX1X2) (.slice Ah5 nh5 ch5)).other (a := ⟨X1a, 4, none⟩) (Ne.symm nX1X2) (.slice Af5 nf5 cf5))
    have X1 := (((((X1.set 0 (.slice Aq5 nq5 cq5)).set 1 (.slice Aa5 na5 ca5)).set 2 (.slice As5 ns5 cs5)).set 3 (.slice Ah5 nh5 ch5)).set 4 (.slice Af5 nf5 cf5))
    simp only [List.set_cons_zero, List.set_cons_succ] at X1
    generalize (((((w14.setCell ⟨X1a, 0, none⟩ (.slice Aq5 nq5 cq5)).setCell ⟨X1a, 1, none⟩ (.slice Aa5 na5 ca5)).setCell ⟨X1a, 2, none⟩ (.slice As5 ns5 cs5)).setCell ⟨X1a, 3, none⟩ (.slice Ah5 nh5 ch5)).setCell ⟨X1a, 4, none⟩ (.slice Af5 nf5 cf5)) = w15 at hB X0 X1 X2 hX hX5 ⊢
    refine (oRRepeat_is b i hX hu).mono ?_
    rintro e w16 hh
    obtain ⟨Aq6, nq6, cq6, Aa6, na6, ca6, As6, ns6, cs6, Ah6, nh6, ch6, Af6, nf6, cf6, rfl, hX6, hb⟩ := hh.sl1
    have X0 := X0.later hb
    have X1 := X1.later hb
    have X2 := X2.later hb
    have hX := hid_bx hX hb
    have hX5 := hid_bx hX5 hb
    have hB := hB.trans (hb.mono hB.size)
    clear hb
    have X0c0 : w16.cell? ⟨X0a, 0, none⟩ = some (.slice Aq nq cq) := X0.cell 0
    have X0c1 : w16.cell? ⟨X0a, 1, none⟩ = some (.slice Aa na ca) := X0.cell 1
    have X0c2 : w16.cell? ⟨X0a, 2, none⟩ = some (.slice As ns cs) := X0.cell 2
    have X0c3 : w16.cell? ⟨X0a, 3, none⟩ = some (.slice Ah nh ch) := X0.cell 3
    have X0c4 : w16.cell? ⟨X0a, 4, none⟩ = some (.slice Af nf cf) := X0.cell 4
    have X0z : X0a < w16.heap.size := X0.lt
    have X1c0 : w16.cell? ⟨X1a, 0, none⟩ = some (.slice Aq5 nq5 cq5) := X1.cell 0
    have X1c1 : w16.cell? ⟨X1a, 1, none⟩ = some (.slice Aa5 na5 ca5) := X1.cell 1
    have X1c2 : w16.cell? ⟨X1a, 2, none⟩ = some (.slice As5 ns5 cs5) := X1.cell 2
    have X1c3 : w16.cell? ⟨X1a, 3, none⟩ = some (.slice Ah5 nh5 ch5) := X1.cell 3
    have X1c4 : w16.cell? ⟨X1a, 4, none⟩ = some (.slice Af5 nf5 cf5) := X1.cell 4
    have X1z : X1a < w16.heap.size := X1.lt
    have X2f0 : w16.frozen? ⟨X2a, 0, none⟩ = false := X2.free 0
    have X2f1 : w16.frozen? ⟨X2a, 1, none⟩ = false := X2.free 1
    have X2f2 : w16.frozen? ⟨X2a, 2, none⟩ = false := X2.free 2
    have X2f3 : w16.frozen? ⟨X2a, 3, none⟩ = false := X2.free 3
    have X2f4 : w16.frozen? ⟨X2a, 4, none⟩ = false := X2.free 4
    have X2c0 : w16.cell? ⟨X2a, 0, none⟩ = some (.slice Aq4 nq4 cq4) := X2.cell 0
    have X2c1 : w16.cell? ⟨X2a, 1, none⟩ = some (.slice Aa4 na4 ca4) := X2.cell 1
    have X2c2 : w16.cell? ⟨X2a, 2, none⟩ = some (.slice As4 ns4 cs4) := X2.cell 2
    have X2c3 : w16.cell? ⟨X2a, 3, none⟩ = some (.slice Ah4 nh4 ch4) := X2.cell 3
    have X2c4 : w16.cell? ⟨X2a, 4, none⟩ = some (.slice Af4 nf4 cf4) := X2.cell 4
    have X2z : X2a < w16.heap.size := X2.lt
    go_wp2_with fail
    clear X2f0 X2f1 X2f2 X2f3 X2f4
    clear X0c0 X0c1 X0c2 X0c3 X0c4 X0z X1c0 X1c1 X1c2 X1c3 X1c4 X1z X2c0 X2c1 X2c2 X2c3 X2c4 X2z
    have hX := bx_set (Aq := Aq6) (nq := nq6) (cq := cq6) (Aa := Aa6) (na := na6) (ca := ca6) (As := As6) (ns := ns6) (cs := cs6) (Ah := Ah6) (nh := nh6) (ch := ch6) (Af := Af6) (nf := nf6) (cf := cf6) hX X2
    have hX5 := bx_set (Aq := Aq6) (nq := nq6) (cq := cq6) (Aa := Aa6) (na := na6) (ca := ca6) (As := As6) (ns := ns6) (cs := cs6) (Ah := Ah6) (nh := nh6) (ch := ch6) (Af := Af6) (nf := nf6) (cf := cf6) hX5 X2
    have hX6 := bx_set (Aq := Aq6) (nq := nq6) (cq := cq6) (Aa := Aa6) (na := na6) (ca := ca6) (As := As6) (ns := ns6) (cs := cs6) (Ah := Ah6) (nh := nh6) (ch := ch6) (Af := Af6) (nf := nf6) (cf := cf6) hX6 X2
    have hB := (((((hB.setCell (p := ⟨X2a, 0, none⟩) gX2 (.slice Aq6 nq6 cq6)).setCell (p := ⟨X2a, 1, none⟩) gX2 (.slice Aa6 na6 ca6)).setCell (p := ⟨X2a, 2, none⟩) gX2 (.slice As6 ns6 cs6)).setCell (p := ⟨X2a, 3, none⟩) gX2 (.slice Ah6 nh6 ch6)).setCell (p := ⟨X2a, 4, none⟩) gX2 (.slice Af6 nf6 cf6))
    have X0 := (((((X0.other (a := ⟨X2a, 0, none⟩) nX0X2 (.slice Aq6 nq6 cq6)).other (a := ⟨X2a, 1, none⟩) nX0X2 (.slice Aa6 na6 ca6)).other (a := ⟨X2a, 2, none⟩) nX0X2 (.slice As6 ns6 cs6)).other (a := ⟨X2a, 3, none⟩) nX0X2 (.slice Ah6 nh6 ch6)).other (a := ⟨X2a, 4, none⟩) nX0X2 (.slice Af6 nf6 cf6))
    have X1 := (((((X1.other (a := ⟨X2a, 0, none⟩) nX1X2 (.slice Aq6 nq6 cq6)).other (a := ⟨X2a, 1, none⟩) nX1X2 (.slice Aa6 na6 ca6)).other (a := ⟨X2a, 2, none⟩) nX1X2 (.slice As6 ns6 cs6)).other (a := ⟨X2a, 3, none⟩) nX1X2 (.slice Ah6 nh6 ch6)).other (a := ⟨X2a, 4, none⟩) nX1X2 (.slice Af6 nf6 cf6))
    have X2 := (((((X2.set 0 (.slice Aq6 nq6 cq6)).set 1 (.slice Aa6 na6 ca6)).set 2 (.slice As6 ns6 cs6)).set 3 (.slice Ah6 nh6 ch6)).set 4 (.slice Af6 nf6 cf6))
    simp only [List.set_cons_zero, List.set_cons_succ] at X2
    generalize (((((w16.setCell ⟨X2a, 0, none⟩ (.slice Aq6 nq6 cq6)).setCell ⟨X2a, 1, none⟩ (.slice Aa6 na6 ca6)).setCell ⟨X2a, 2, none⟩ (.slice As6 ns6 cs6)).setCell ⟨X2a, 3, none⟩ (.slice Ah6 nh6 ch6)).setCell ⟨X2a, 4, none⟩ (.slice Af6 nf6 cf6)) = w17 at hB X0 X1 X2 hX hX5 hX6 ⊢
    refine (oSame_is u hX5 hX6).mono ?_
    rintro e w18 ⟨rfl, hb⟩
    have X0 := X0.later hb
    have X1 := X1.later hb
    have X2 := X2.later hb
    have hX := hid_bx hX hb
    have hX5 := hid_bx hX5 hb
    have hX6 := hid_bx hX6 hb
    have hB := hB.trans (hb.mono hB.size)
    clear hb
    go_wp2
    go_ret
    exact ⟨by first | rfl | simp, hB⟩

theorem law_OrdersDeliverSpec (b : Bx) (Vq Va Vs Vh Vf : Value) (i : Int) (w : World) (h : BxAt w w.heap.size Vq Va Vs Vh Vf b) :
    Calls Try.prog 6 #[.agg #[Vq, Va, Vs, Vh, Vf], .int .i64 i] w fun e w' => e = .returned (.bool true) ∧ Below w.heap.size w w' := by
  obtain ⟨_, _, _, _, _, _, _, _, _, _, _, _, _, _, _, rfl, rfl, rfl, rfl, rfl⟩ := h.forms5
  exact law_Deliver_go b _ _ _ _ _ _ _ _ _ _ _ _ _ _ _ i w (Lib.hid h)
end Go.Proofs.Ytmbifmmkccghfaa

/-
  Arguments that are slices of structs, opened; small words for it. No condition.
  The theorem open_slice_fields stands in the kit's howto/extra-structs.md, to be copied.
-/
namespace Go.Proofs.Ytmbifmmkccghfaa
open Go.ChangeShapes Go.WideShapes Go.ChangeAt Go.RowKit Go.Joins Go.Deep

theorem cell_int {H : Type} {enc : TypeId × Value → H} {P : Program} {w : World} {base : Nat} {spare : Nat → Bool} {held : Bool} {t : TypeId} {k : IntKind} {n : Nat} {v : Value} {y : DataW H × List MemPlace}
    (ht : P.underlying t = some (.int k)) (h : DataW.trod enc P w base spare held n t [v] = some y) : ∃ x : Int, v = .int k x ∧ (Lit.int k x).wf = true := by
  obtain ⟨x, hx, _, hw⟩ := DataW.trod_int ht h
  exact ⟨x, by simpa using hx, hw⟩
section
variable {H : Type} {enc : TypeId × Value → H} {P : Program} {w : World} {base : Nat} {spare : Nat → Bool} {held : Bool}
theorem open_slice_fields {t e : TypeId} {fs : Array Field} {fuel : Nat} {cs : List Value} {x : DataW H × List MemPlace} (ht : P.underlying t = some (.slice e)) (he : P.underlying e = some (.struct fs))
    (hone : oneCellFields P fs = true) (hC : P.cellsOf e = fs.size) (h : DataW.trod enc P w base spare held fuel t cs = some x) :
    (cs = [.slice none 0 0] ∧ x = (.nil, [])) ∨
    ∃ (a : Addr) (len cap m : Nat) (D : Nat → DataW H) (Pl : Nat → List MemPlace), cs = [.slice (some a) len cap] ∧ base ≤ a.block ∧ len ≤ cap ∧ cap ≤ maxLen ∧ m = (if spare a.block then cap else len) ∧
      x = (.slice ((List.range len).map D) ((List.range (m - len)).map fun j => D (len + j)), MemPlace.row a (m * fs.size) ++ (List.range m).flatMap Pl) ∧
      ∀ i, i < m → ∃ (ys : List (DataW H × List MemPlace)) (n : Nat), D i = .agg (ys.map (·.1)) ∧ Pl i = ys.flatMap (·.2) ∧ ys.length = fs.size ∧
        ∀ (j : Nat) (f : Field), fs[j]? = some f → ∃ (v : Value) (y : DataW H × List MemPlace), w.cell? (a.add (i * fs.size + j)) = some v ∧ ys[j]? = some y ∧ DataW.trod enc P w base spare held n f.type [v] = some y := by
  rcases open_slice ht h with h0 | ⟨a, len, cap, m, n, D, Pl, hcs, hb, hl, hm, hmm, hx, hi⟩
  · exact .inl h0
  · refine .inr ⟨a, len, cap, m, D, Pl, hcs, hb, hl, hm, hmm, by rw [hC] at hx; exact hx, fun i him => ?_⟩
    obtain ⟨cs', hc, ht'⟩ := hi i him
    rw [hC] at hc
    obtain ⟨ys, n', hn', hy, hlen, hyl, hf⟩ := DataW.trod_struct he ht'
    obtain ⟨_, hcl, hat⟩ := World.cells?_some hc
    simp only [Prod.mk.injEq] at hy
    refine ⟨ys, n', hy.1, hy.2, hyl, fun j f hj => ?_⟩
    obtain ⟨ho, hk⟩ := hone_of hone j f hj
    have hjl : j < fs.size := (Array.getElem?_eq_some_iff.1 hj).1
    have hcell := hat j hjl
    have hv : cs'[j]? = some (cs'[j]'(by omega)) := List.getElem?_eq_getElem (by omega)
    have h1 := hf j f hj
    rw [ho, hk] at h1
    have hone' : (cs'.drop j).take 1 = [cs'[j]'(by omega)] := by
      rw [List.drop_eq_getElem_cons (by omega)]
      rfl
    rw [hone'] at h1
    have hys : ys[j]? = some (ys[j]'(by omega)) := List.getElem?_eq_getElem (by omega)
    refine ⟨_, _, ?_, hys, h1.trans hys⟩
    rw [← Go.Deep.add_add, hcell, hv]
end

theorem exists_list {α : Type} (P : Nat → α → Prop) : ∀ n, (∀ i, i < n → ∃ a, P i a) → ∃ l : List α, l.length = n ∧ ∀ i a, l[i]? = some a → P i a
  | 0, _ => ⟨[], rfl, fun i a h => by simp at h⟩
  | n + 1, h => by
    obtain ⟨l, hl, hp⟩ := exists_list P n (fun i hi => h i (by omega))
    obtain ⟨a, ha⟩ := h n (by omega)
    refine ⟨l ++ [a], by simp [hl], fun i b hb => ?_⟩
    rcases Nat.lt_trichotomy i n with hi | rfl | hi
    · rw [List.getElem?_append_left (by omega)] at hb
      exact hp i b hb
    · rw [List.getElem?_append_right (by omega), hl] at hb
      simp at hb
      subst hb
      exact ha
    · rw [List.getElem?_eq_none (by simp; omega)] at hb
      cases hb
theorem spot_none {w : World} {a : Addr} {v : Value} (h : w.cell? a = some v) : a.spot = none := by
  unfold World.cell? at h
  split at h
  · split at h
    · cases h
    · rename_i hs
      cases hq : a.spot with
      | none => rfl
      | some q => rw [hq] at hs; exact absurd rfl hs
  · cases h
theorem trod_bytes {H : Type} {enc : TypeId × Value → H} {w : World} {base : Nat} {spare : Nat → Bool} {held : Bool} {t e : TypeId} {n : Nat} {v : Value} {y : DataW H × List MemPlace} (ht : Try.prog.underlying t = some (.slice e)) (he : Try.prog.underlying e = some (.int .u8)) (hc : Try.prog.cellsOf e = 1)
    (h : DataW.trod enc Try.prog w base spare held n t [v] = some y) : SlF v ∧ ∃ l : List UInt8, Sl w w.heap.size 1 l.length (fun i _ => .int .u8 ((l.getD i 0).toNat : Int)) v := by
  rcases open_slice1 ht hc h with ⟨h0, _⟩ | ⟨a, len, cap, m, k, V, D, Pl, h0, hb, hl, hcm, hm, _, hf⟩
  · obtain rfl : v = .slice none 0 0 := by simpa using h0
    exact ⟨.inl rfl, [], none, 0, rfl, Nat.zero_le _, fun i hi => by simp at hi⟩
  · obtain rfl : v = .slice (some a) len cap := by simpa using h0
    have hlm : len ≤ m := by rw [hm]; split <;> omega
    refine ⟨.inr ⟨a, len, cap, rfl, hl, hcm⟩, ?_⟩
    obtain ⟨l, hll, hp⟩ := exists_list (fun i (x : UInt8) => w.cell? (a.add i) = some (.int .u8 (x.toNat : Int))) len (fun i hi => by
      obtain ⟨e0, t0⟩ := hf i (by omega)
      obtain ⟨x, hx, hw⟩ := cell_int he t0
      obtain ⟨h1, h2⟩ := bounds_u8 hw
      refine ⟨UInt8.ofNat x.toNat, ?_⟩
      rw [e0, hx]
      simp
      omega)
    refine ⟨l, some a, cap, by rw [hll], by omega, fun i hi => ?_⟩
    have hs : a.spot = none := spot_none (hp 0 _ (List.getElem?_eq_getElem (by omega)))
    obtain ⟨b, off, sp⟩ := a
    obtain rfl : sp = none := hs
    have q := hp i _ (List.getElem?_eq_getElem hi)
    rw [add_at] at q
    refine ⟨b, off, rfl, World.block_lt_of_cell? _ _ q, fun j hj => ?_⟩
    obtain rfl : j = 0 := by omega
    dsimp only
    rw [Nat.mul_one, Nat.add_zero, List.getD_eq_getElem?_getD, List.getElem?_eq_getElem hi]
    exact q

end Go.Proofs.Ytmbifmmkccghfaa

/-
  Arguments of chapter 6's laws opened: packets, nets. No condition.
-/
namespace Go.Proofs.Ytmbifmmkccghfaa
open Go.ChangeShapes Go.WideShapes Go.ChangeAt Go.RowKit Go.Joins Go.Deep

section
variable {H : Type} {enc : TypeId × Value → H} {w : World} {base : Nat} {spare : Nat → Bool} {held : Bool}
set_option maxRecDepth 100000 in
theorem trod_data {n : Nat} {v : Value} {y : DataW H × List MemPlace} (h : DataW.trod enc Try.prog w base spare held n 43 [v] = some y) : ∃ l, BytesAt w w.heap.size v l :=
  have h9 := trod_bytes Try.underlying43 Try.underlying5 (by kernel_rfl) h
  h9.2.elim fun l hl => ⟨l, h9.1, hl⟩
set_option maxRecDepth 100000 in
theorem trod_packets {n : Nat} {v : Value} {y : DataW H × List MemPlace} (h : DataW.trod enc Try.prog w base spare held n 22 [v] = some y) : ∃ q : List Pk, PksAt w w.heap.size v q := by
  rcases open_slice_fields Try.underlying22 Try.underlying51 (by kernel_rfl) (by kernel_rfl) h with ⟨h0, _⟩ | ⟨a, len, cap, m, D, Pl, h0, hb, hl, hc, hm, _, hf⟩
  · obtain rfl : v = .slice none 0 0 := by simpa using h0
    exact ⟨[], pksAt_nil _ _⟩
  · obtain rfl : v = .slice (some a) len cap := by simpa using h0
    have hlm : len ≤ m := by rw [hm]; split <;> omega
    obtain ⟨ls, hcs, hp⟩ := exists_list (fun i (l : Value × Pk) => w.cell? (a.add (i * 3 + 0)) = some (.int .i64 l.2.src) ∧ w.cell? (a.add (i * 3 + 1)) = some (.int .i64 l.2.dst) ∧ w.cell? (a.add (i * 3 + 2)) = some l.1 ∧ BytesAt w w.heap.size l.1 l.2.data) len (fun i hi => by
      obtain ⟨ys, k, _, _, _, hj⟩ := hf i (by omega)
      obtain ⟨v0, y0, e0, _, t0⟩ := hj 0 _ rfl
      obtain ⟨v1, y1, e1, _, t1⟩ := hj 1 _ rfl
      obtain ⟨v2, y2, e2, _, t2⟩ := hj 2 _ rfl
      obtain ⟨x0, rfl, _⟩ := cell_int Try.underlying3 t0
      obtain ⟨x1, rfl, _⟩ := cell_int Try.underlying3 t1
      obtain ⟨l, hl⟩ := trod_data t2
      exact ⟨(v2, ⟨x0, x1, l⟩), e0, e1, e2, hl⟩)
    refine ⟨ls.map (·.2), .inr ⟨a, len, cap, rfl, hl, hc⟩, fun i => (ls[i]?.map (·.1)).getD undef, ⟨some a, cap, by simp [hcs], by simp; omega, fun i hi => ?_⟩, fun i l hl => ?_⟩
    · have hi : i < ls.length := by simpa using hi
      have hs : a.spot = none := by
        obtain ⟨q0, _⟩ := hp 0 _ (List.getElem?_eq_getElem (by omega))
        exact spot_none q0
      obtain ⟨b, off, sp⟩ := a
      obtain rfl : sp = none := hs
      obtain ⟨q0, q1, q2, _⟩ := hp i _ (List.getElem?_eq_getElem hi)
      rw [add_at] at q0 q1 q2
      refine ⟨b, off, rfl, World.block_lt_of_cell? _ _ q0, fun j hj => ?_⟩
      dsimp only [pkCells]
      rw [List.getD_eq_getElem?_getD, List.getElem?_map, List.getElem?_eq_getElem hi]
      rcases (show j = 0 ∨ j = 1 ∨ j = 2 by omega) with rfl | rfl | rfl
      · exact q0
      · exact q1
      · exact q2
    · rw [List.getElem?_map] at hl
      cases hq : ls[i]? with
      | none => rw [hq] at hl; cases hl
      | some q =>
        rw [hq] at hl
        cases hl
        obtain ⟨_, _, _, q3⟩ := hp i q hq
        dsimp only
        rw [hq]
        exact q3
set_option maxRecDepth 100000 in
theorem trod_links {n : Nat} {v : Value} {y : DataW H × List MemPlace} (h : DataW.trod enc Try.prog w base spare held n 23 [v] = some y) : ∃ l : List (Int × Int), LksAt w w.heap.size v l := by
  rcases open_slice Try.underlying23 h with ⟨h0, _⟩ | ⟨a, len, cap, m, k, D, Pl, h0, hb, hl, hc, hm, _, hf⟩
  · obtain rfl : v = .slice none 0 0 := by simpa using h0
    exact ⟨[], lksAt_nil _ _⟩
  · obtain rfl : v = .slice (some a) len cap := by simpa using h0
    have hlm : len ≤ m := by rw [hm]; split <;> omega
    have k2 : Try.prog.cellsOf 49 = 2 := by kernel_rfl
    rw [k2] at hf
    have k1 : Try.prog.cellsOf 3 = 1 := by kernel_rfl
    obtain ⟨ls, hcs, hp⟩ := exists_list (fun i (l : Int × Int) => w.cell? (a.add (i * 2 + 0)) = some (.int .i64 l.1) ∧ w.cell? (a.add (i * 2 + 1)) = some (.int .i64 l.2)) len (fun i hi => by
      obtain ⟨cs, h1, h2⟩ := hf i (by omega)
      obtain ⟨_, hcl, hat⟩ := World.cells?_some h1
      match cs, hcl with
      | [c0, c1], _ =>
        have q0 := hat 0 (by omega)
        have q1 := hat 1 (by omega)
        obtain ⟨zs, m, _, _, _, hzl, hgz⟩ := DataW.trod_array Try.underlying49 h2
        match zs, hzl with
        | [z0, z1], _ =>
          obtain ⟨x0, rfl, _⟩ := cell_int Try.underlying3 (show DataW.trod enc Try.prog w base spare held m 3 [c0] = some z0 by simpa [k1] using hgz 0 (by omega))
          obtain ⟨x1, rfl, _⟩ := cell_int Try.underlying3 (show DataW.trod enc Try.prog w base spare held m 3 [c1] = some z1 by simpa [k1] using hgz 1 (by omega))
          refine ⟨(x0, x1), ?_, ?_⟩
          · rw [← Go.Deep.add_add, q0]; rfl
          · rw [← Go.Deep.add_add, q1]; rfl)
    refine ⟨ls, .inr ⟨a, len, cap, rfl, hl, hc⟩, some a, cap, by rw [hcs], by omega, fun i hi => ?_⟩
    have hs : a.spot = none := by
      obtain ⟨q0, _⟩ := hp 0 _ (List.getElem?_eq_getElem (by omega))
      exact spot_none q0
    obtain ⟨b, off, sp⟩ := a
    obtain rfl : sp = none := hs
    obtain ⟨q0, q1⟩ := hp i _ (List.getElem?_eq_getElem hi)
    rw [add_at] at q0 q1
    refine ⟨b, off, rfl, World.block_lt_of_cell? _ _ q0, fun j hj => ?_⟩
    dsimp only [lkCells]
    rw [List.getD_eq_getElem?_getD, List.getElem?_eq_getElem hi]
    rcases (show j = 0 ∨ j = 1 by omega) with rfl | rfl
    · exact q0
    · exact q1
end
end Go.Proofs.Ytmbifmmkccghfaa

/-
  Arguments of chapter 34's laws opened: boxes. No condition.
-/
namespace Go.Proofs.Ytmbifmmkccghfaa
open Go.ChangeShapes Go.WideShapes Go.ChangeAt Go.RowKit Go.Joins Go.Deep

section
variable {H : Type} {enc : TypeId × Value → H} {w : World} {base : Nat} {spare : Nat → Bool} {held : Bool}
set_option maxRecDepth 100000 in
theorem trod_heard {n : Nat} {v : Value} {y : DataW H × List MemPlace} (h : DataW.trod enc Try.prog w base spare held n 27 [v] = some y) : ∃ l : List Int, HdAt w w.heap.size v l := by
  rcases open_slice1 Try.underlying27 (by kernel_rfl) h with ⟨h0, _⟩ | ⟨a, len, cap, m, k, V, D, Pl, h0, hb, hl, hc, hm, _, hf⟩
  · obtain rfl : v = .slice none 0 0 := by simpa using h0
    exact ⟨[], .inl rfl, none, 0, rfl, Nat.zero_le _, fun i hi => by simp at hi⟩
  · obtain rfl : v = .slice (some a) len cap := by simpa using h0
    have hlm : len ≤ m := by rw [hm]; split <;> omega
    obtain ⟨l, hll, hp⟩ := exists_list (fun i (x : Int) => w.cell? (a.add i) = some (.int .i64 x)) len (fun i hi => by
      obtain ⟨e0, t0⟩ := hf i (by omega)
      obtain ⟨x, hx, _⟩ := cell_int Try.underlying3 t0
      exact ⟨x, by rw [e0, hx]⟩)
    refine ⟨l, .inr ⟨a, len, cap, rfl, hl, hc⟩, some a, cap, by rw [hll], by omega, fun i hi => ?_⟩
    have hs : a.spot = none := spot_none (hp 0 _ (List.getElem?_eq_getElem (by omega)))
    obtain ⟨b, off, sp⟩ := a
    obtain rfl : sp = none := hs
    have q := hp i _ (List.getElem?_eq_getElem hi)
    rw [add_at] at q
    refine ⟨b, off, rfl, World.block_lt_of_cell? _ _ q, fun j hj => ?_⟩
    obtain rfl : j = 0 := by omega
    dsimp only
    rw [Nat.mul_one, Nat.add_zero, List.getD_eq_getElem?_getD, List.getElem?_eq_getElem hi]
    exact q
set_option maxRecDepth 100000 in
theorem trod_fresh {n : Nat} {v : Value} {y : DataW H × List MemPlace} (h : DataW.trod enc Try.prog w base spare held n 28 [v] = some y) : ∃ l : List Bool, FrAt w w.heap.size v l := by
  rcases open_slice1 Try.underlying28 (by kernel_rfl) h with ⟨h0, _⟩ | ⟨a, len, cap, m, k, V, D, Pl, h0, hb, hl, hc, hm, _, hf⟩
  · obtain rfl : v = .slice none 0 0 := by simpa using h0
    exact ⟨[], .inl rfl, none, 0, rfl, Nat.zero_le _, fun i hi => by simp at hi⟩
  · obtain rfl : v = .slice (some a) len cap := by simpa using h0
    have hlm : len ≤ m := by rw [hm]; split <;> omega
    obtain ⟨l, hll, hp⟩ := exists_list (fun i (x : Bool) => w.cell? (a.add i) = some (.bool x)) len (fun i hi => by
      obtain ⟨e0, t0⟩ := hf i (by omega)
      obtain ⟨x, hx, _⟩ := DataW.trod_bool Try.underlying4 t0
      have hx : V i = .bool x := by simpa using hx
      exact ⟨x, by rw [e0, hx]⟩)
    refine ⟨l, .inr ⟨a, len, cap, rfl, hl, hc⟩, some a, cap, by rw [hll], by omega, fun i hi => ?_⟩
    have hs : a.spot = none := spot_none (hp 0 _ (List.getElem?_eq_getElem (by omega)))
    obtain ⟨b, off, sp⟩ := a
    obtain rfl : sp = none := hs
    have q := hp i _ (List.getElem?_eq_getElem hi)
    rw [add_at] at q
    refine ⟨b, off, rfl, World.block_lt_of_cell? _ _ q, fun j hj => ?_⟩
    obtain rfl : j = 0 := by omega
    dsimp only
    rw [Nat.mul_one, Nat.add_zero, List.getD_eq_getElem?_getD, List.getElem?_eq_getElem hi]
    exact q
set_option maxRecDepth 100000 in
theorem trod_msgs {n : Nat} {v : Value} {y : DataW H × List MemPlace} (h : DataW.trod enc Try.prog w base spare held n 26 [v] = some y) : ∃ q : List (Int × Int), LksAt w w.heap.size v q := by
  rcases open_slice_fields Try.underlying26 Try.underlying48 (by kernel_rfl) (by kernel_rfl) h with ⟨h0, _⟩ | ⟨a, len, cap, m, D, Pl, h0, hb, hl, hc, hm, _, hf⟩
  · obtain rfl : v = .slice none 0 0 := by simpa using h0
    exact ⟨[], lksAt_nil _ _⟩
  · obtain rfl : v = .slice (some a) len cap := by simpa using h0
    have hlm : len ≤ m := by rw [hm]; split <;> omega
    obtain ⟨ls, hcs, hp⟩ := exists_list (fun i (l : Int × Int) => w.cell? (a.add (i * 2 + 0)) = some (.int .i64 l.1) ∧ w.cell? (a.add (i * 2 + 1)) = some (.int .i64 l.2)) len (fun i hi => by
      obtain ⟨ys, k, _, _, _, hj⟩ := hf i (by omega)
      obtain ⟨v0, y0, e0, _, t0⟩ := hj 0 _ rfl
      obtain ⟨v1, y1, e1, _, t1⟩ := hj 1 _ rfl
      obtain ⟨x0, rfl, _⟩ := cell_int Try.underlying3 t0
      obtain ⟨x1, rfl, _⟩ := cell_int Try.underlying3 t1
      exact ⟨(x0, x1), e0, e1⟩)
    refine ⟨ls, .inr ⟨a, len, cap, rfl, hl, hc⟩, some a, cap, by rw [hcs], by omega, fun i hi => ?_⟩
    have hs : a.spot = none := by
      obtain ⟨q0, _⟩ := hp 0 _ (List.getElem?_eq_getElem (by omega))
      exact spot_none q0
    obtain ⟨b, off, sp⟩ := a
    obtain rfl : sp = none := hs
    obtain ⟨q0, q1⟩ := hp i _ (List.getElem?_eq_getElem hi)
    rw [add_at] at q0 q1
    refine ⟨b, off, rfl, World.block_lt_of_cell? _ _ q0, fun j hj => ?_⟩
    dsimp only [lkCells]
    rw [List.getD_eq_getElem?_getD, List.getElem?_eq_getElem hi]
    rcases (show j = 0 ∨ j = 1 by omega) with rfl | rfl
    · exact q0
    · exact q1
set_option maxRecDepth 100000 in
theorem open_box {r : Reach} {b0 : Nat} {v : Value} {d : DataW H} {p : List MemPlace} (hv : Value.okWide Try.prog w r b0 30 v) (h : DataW.Trod enc Try.prog w base spare held 30 v d p) : ∃ (b : Bx) (Vq Va Vs Vh Vf : Value), v = .agg #[Vq, Va, Vs, Vh, Vf] ∧ BxAt w w.heap.size Vq Va Vs Vh Vf b := by
  obtain ⟨cs, rfl, hsz⟩ := okWide_struct Try.underlying30 hv
  obtain ⟨l⟩ := cs
  have hC : Try.prog.cellsOf 30 = 5 := by kernel_rfl
  match l, hsz.trans hC with
  | [c0, c1, c2, c3, c4], _ =>
    obtain ⟨fuel, hf⟩ := h
    obtain ⟨xs, n, _, hx, _, hlen, hg⟩ := DataW.trod_struct Try.underlying30 hf
    have k0 : Try.prog.cellsOf 25 = 2 := by kernel_rfl
    have k1 : Try.prog.cellsOf 22 = 1 := by kernel_rfl
    have k2 : Try.prog.cellsOf 23 = 1 := by kernel_rfl
    have k3 : Try.prog.cellsOf 26 = 1 := by kernel_rfl
    have k4 : Try.prog.cellsOf 27 = 1 := by kernel_rfl
    have k5 : Try.prog.cellsOf 28 = 1 := by kernel_rfl
    match xs, hlen with
    | [y0, y1, y2, y3], _ =>
      obtain ⟨ys, n', _, hy, _, hlen', hg'⟩ := DataW.trod_struct Try.underlying25 (show DataW.trod enc Try.prog w base spare held n 25 [c0, c1] = some y0 by simpa [Value.cells, k0, k3, k4, k5] using hg 0 _ rfl)
      obtain ⟨s, hs⟩ := trod_msgs (show DataW.trod enc Try.prog w base spare held n 26 [c2] = some y1 by simpa [Value.cells, k0, k3, k4, k5] using hg 1 _ rfl)
      obtain ⟨hd, hh⟩ := trod_heard (show DataW.trod enc Try.prog w base spare held n 27 [c3] = some y2 by simpa [Value.cells, k0, k3, k4, k5] using hg 2 _ rfl)
      obtain ⟨fr, hfr⟩ := trod_fresh (show DataW.trod enc Try.prog w base spare held n 28 [c4] = some y3 by simpa [Value.cells, k0, k3, k4, k5] using hg 3 _ rfl)
      match ys, hlen' with
      | [z0, z1], _ =>
        obtain ⟨q, hq⟩ := trod_packets (show DataW.trod enc Try.prog w base spare held n' 22 [c0] = some z0 by simpa [Value.cells, k1, k2] using hg' 0 _ rfl)
        obtain ⟨l, hl⟩ := trod_links (show DataW.trod enc Try.prog w base spare held n' 23 [c1] = some z1 by simpa [Value.cells, k1, k2] using hg' 1 _ rfl)
        exact ⟨⟨⟨q, l⟩, s, hd, fr⟩, c0, c1, c2, c3, c4, rfl, ⟨⟨hq, hl⟩, hs, hh, hfr⟩⟩
end
end Go.Proofs.Ytmbifmmkccghfaa
