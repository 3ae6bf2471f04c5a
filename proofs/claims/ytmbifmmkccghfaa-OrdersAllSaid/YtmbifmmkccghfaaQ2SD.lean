/- The examples of chapter 34 hold. (Printed by gen_sd.py.) No condition. -/
import Derived.Test.YtmbifmmkccghfaaQ2RO
import Derived.Deep.RegionHeld3
import Derived.Test.YtmbifmmkccghfaaQ2NI
import Derived.Test.YtmbifmmkccghfaaQ2RX
set_option linter.unusedVariables false
set_option linter.unusedSimpArgs false
namespace Go.Proofs.Ytmbifmmkccghfaa
open Go.RowKit

theorem RetBx.sl1 {t : Bx} {r : Value} {w w' : World} {e : Ending} (h : RetBx t #[r] w e w') : ∃ Aq nq cq Aa na ca As ns cs Ah nh ch Af nf cf, e = .returned (.tuple #[.agg #[.slice Aq nq cq, .slice Aa na ca, .slice As ns cs, .slice Ah nh ch, .slice Af nf cf], r]) ∧ Hid (BxAt w' w'.heap.size (.slice Aq nq cq) (.slice Aa na ca) (.slice As ns cs) (.slice Ah nh ch) (.slice Af nf cf) t) ∧ Below w.heap.size w w' := h.sl
def oxA : Bx := ⟨Net.zero, [], [0, 0], [false, false]⟩
def oxX : Bx := ⟨⟨[⟨0, 2, msgB 0 5⟩], []⟩, [(1, 5)], [0, 0], [false, false]⟩
def oxY : Bx := ⟨⟨[⟨0, 2, msgB 0 5⟩, ⟨0, 2, msgB 1 3⟩], []⟩, [(1, 5), (1, 3)], [0, 0], [false, false]⟩
def oxD : Bx := ⟨⟨[⟨0, 2, msgB 0 5⟩], []⟩, [(1, 5), (1, 3)], [0, 2], [false, true]⟩
def oxE : Bx := ⟨⟨[], []⟩, [(1, 5), (1, 3)], [0, 2], [false, true]⟩
def oxT : Bx := ⟨⟨[], []⟩, [(1, 5), (1, 3)], [0, 2], [false, false]⟩
theorem oe1 : newB 2 = (oxA, 0) := by kernel_rfl
theorem oe2 : newB 9 = (Bx.zero, 1) := by kernel_rfl
theorem oe3 : oxA.sendT 2 0 = (Bx.zero, 1) := by kernel_rfl
theorem oe4 : oxA.sendT 0 8 = (Bx.zero, 1) := by kernel_rfl
theorem oe5 : oxA.deliverT 0 = (Bx.zero, false, 1) := by kernel_rfl
theorem oe6 : oxA.checkT = 0 := by kernel_rfl
theorem oe7 : Bx.zero.checkT = 340 := by kernel_rfl
theorem oe8 : oxA.sendT 1 5 = (oxX, 0) := by kernel_rfl
theorem oe9 : oxX.sendT 1 3 = (oxY, 0) := by kernel_rfl
theorem oe10 : oxY.deliverT 1 = (oxD, true, 0) := by kernel_rfl
theorem oe11 : oxD.deliverT 0 = (oxE, false, 0) := by kernel_rfl
theorem oe12 : oxE.tickT = (oxT, [-1, 3], 0) := by kernel_rfl
theorem oe13 : oxT.tickT = (oxT, [-1, -1], 0) := by kernel_rfl
set_option maxRecDepth 100000 in
set_option maxHeartbeats 4000000 in
theorem oSane_any (w : World) : Calls Try.prog 8 #[] w fun e w' => e = .returned (.bool true) ∧ Below w.heap.size w w' := by
  have hB := Below.refl w.heap.size w
  go_enter Try.func8, Try.ntmps8
  go_wp2_with fail
  refine (oNew_any 2 _ (T := (oxA, 0)) (Lib.hid oe1)).mono ?_
  rintro e w1 hh
  obtain ⟨Aq1, nq1, cq1, Aa1, na1, ca1, As1, ns1, cs1, Ah1, nh1, ch1, Af1, nf1, cf1, rfl, hX1, hb⟩ := hh.sl1
  have hB := hB.trans (hb.mono hB.size)
  clear hb
  go_wp2_with fail
  have hst := ((Below.refl w1.heap.size w1).alloc (by simp <;> omega) (.cells #[.slice Aq1 nq1 cq1, .slice Aa1 na1 ca1, .slice As1 ns1 cs1, .slice Ah1 nh1 ch1, .slice Af1 nf1 cf1] 30))
  have hBo := hB
  have hX1 := hid_bx hX1 hst
  have hB := hB.trans (hst.mono hB.size)
  have X1 := (Box.newAt (w := w1) (n := w1.heap.size) [.slice Aq1 nq1 cq1, .slice Aa1 na1 ca1, .slice As1 ns1 cs1, .slice Ah1 nh1 ch1, .slice Af1 nf1 cf1] 30 (by simp))
  clear hst
  generalize (w1.alloc (.cells #[.slice Aq1 nq1 cq1, .slice Aa1 na1 ca1, .slice As1 ns1 cs1, .slice Ah1 nh1 ch1, .slice Af1 nf1 cf1] 30)) = w2 at hB  X1 hX1 ⊢
  generalize w1.heap.size = X1a at X1 ⊢
  refine (oNew_any 9 _ (T := (Bx.zero, 1)) (Lib.hid oe2)).mono ?_
  rintro e w3 hh
  obtain ⟨Aq2, nq2, cq2, Aa2, na2, ca2, As2, ns2, cs2, Ah2, nh2, ch2, Af2, nf2, cf2, rfl, hX2, hb⟩ := hh.sl1
  have X1 := X1.later hb
  have hX1 := hid_bx hX1 hb
  have hB := hB.trans (hb.mono hB.size)
  clear hb
  have X1c0 : w3.cell? ⟨X1a, 0, none⟩ = some (.slice Aq1 nq1 cq1) := X1.cell 0
  have X1c1 : w3.cell? ⟨X1a, 1, none⟩ = some (.slice Aa1 na1 ca1) := X1.cell 1
  have X1c2 : w3.cell? ⟨X1a, 2, none⟩ = some (.slice As1 ns1 cs1) := X1.cell 2
  have X1c3 : w3.cell? ⟨X1a, 3, none⟩ = some (.slice Ah1 nh1 ch1) := X1.cell 3
  have X1c4 : w3.cell? ⟨X1a, 4, none⟩ = some (.slice Af1 nf1 cf1) := X1.cell 4
  have X1z : X1a < w3.heap.size := X1.lt
  go_wp2_with fail
  clear X1c0 X1c1 X1c2 X1c3 X1c4 X1z
  have hst := ((Below.refl w3.heap.size w3).alloc (by simp <;> omega) (.cells #[.slice Aq2 nq2 cq2, .slice Aa2 na2 ca2, .slice As2 ns2 cs2, .slice Ah2 nh2 ch2, .slice Af2 nf2 cf2] 30))
  have hBo := hB
  have X1o := X1
  have X1 := X1.later hst
  have hX1 := hid_bx hX1 hst
  have hB := hB.trans (hst.mono hB.size)
  have X2 := (Box.newAt (w := w3) (n := w3.heap.size) [.slice Aq2 nq2 cq2, .slice Aa2 na2 ca2, .slice As2 ns2 cs2, .slice Ah2 nh2 ch2, .slice Af2 nf2 cf2] 30 (by simp))
  clear hst
  generalize (w3.alloc (.cells #[.slice Aq2 nq2 cq2, .slice Aa2 na2 ca2, .slice As2 ns2 cs2, .slice Ah2 nh2 ch2, .slice Af2 nf2 cf2] 30)) = w4 at hB X1 X2 hX1 ⊢
  generalize w3.heap.size = X2a at X2 ⊢
  refine (oSend_is oxA 2 0 hX1 (T := (Bx.zero, 1)) (Lib.hid oe3)).mono ?_
  rintro e w5 hh
  obtain ⟨Aq3, nq3, cq3, Aa3, na3, ca3, As3, ns3, cs3, Ah3, nh3, ch3, Af3, nf3, cf3, rfl, hX3, hb⟩ := hh.sl1
  have X1 := X1.later hb
  have X2 := X2.later hb
  have hX1 := hid_bx hX1 hb
  have hB := hB.trans (hb.mono hB.size)
  clear hb
  clear X2
  have X1c0 : w5.cell? ⟨X1a, 0, none⟩ = some (.slice Aq1 nq1 cq1) := X1.cell 0
  have X1c1 : w5.cell? ⟨X1a, 1, none⟩ = some (.slice Aa1 na1 ca1) := X1.cell 1
  have X1c2 : w5.cell? ⟨X1a, 2, none⟩ = some (.slice As1 ns1 cs1) := X1.cell 2
  have X1c3 : w5.cell? ⟨X1a, 3, none⟩ = some (.slice Ah1 nh1 ch1) := X1.cell 3
  have X1c4 : w5.cell? ⟨X1a, 4, none⟩ = some (.slice Af1 nf1 cf1) := X1.cell 4
  have X1z : X1a < w5.heap.size := X1.lt
  go_wp2_with fail
  clear X1c0 X1c1 X1c2 X1c3 X1c4 X1z
  have hst := ((Below.refl w5.heap.size w5).alloc (by simp <;> omega) (.cells #[.slice Aq3 nq3 cq3, .slice Aa3 na3 ca3, .slice As3 ns3 cs3, .slice Ah3 nh3 ch3, .slice Af3 nf3 cf3] 30))
  have hBo := hB
  have X1o := X1
  have X1 := X1.later hst
  have hX1 := hid_bx hX1 hst
  have hB := hB.trans (hst.mono hB.size)
  have X3 := (Box.newAt (w := w5) (n := w5.heap.size) [.slice Aq3 nq3 cq3, .slice Aa3 na3 ca3, .slice As3 ns3 cs3, .slice Ah3 nh3 ch3, .slice Af3 nf3 cf3] 30 (by simp))
  clear hst
  generalize (w5.alloc (.cells #[.slice Aq3 nq3 cq3, .slice Aa3 na3 ca3, .slice As3 ns3 cs3, .slice Ah3 nh3 ch3, .slice Af3 nf3 cf3] 30)) = w6 at hB X1 X3 hX1 ⊢
  generalize w5.heap.size = X3a at X3 ⊢
  refine (oSend_is oxA 0 8 hX1 (T := (Bx.zero, 1)) (Lib.hid oe4)).mono ?_
  rintro e w7 hh
  obtain ⟨Aq4, nq4, cq4, Aa4, na4, ca4, As4, ns4, cs4, Ah4, nh4, ch4, Af4, nf4, cf4, rfl, hX4, hb⟩ := hh.sl1
  have X1 := X1.later hb
  have X3 := X3.later hb
  have hX1 := hid_bx hX1 hb
  have hB := hB.trans (hb.mono hB.size)
  clear hb
  clear X3
  have X1c0 : w7.cell? ⟨X1a, 0, none⟩ = some (.slice Aq1 nq1 cq1) := X1.cell 0
  have X1c1 : w7.cell? ⟨X1a, 1, none⟩ = some (.slice Aa1 na1 ca1) := X1.cell 1
  have X1c2 : w7.cell? ⟨X1a, 2, none⟩ = some (.slice As1 ns1 cs1) := X1.cell 2
  have X1c3 : w7.cell? ⟨X1a, 3, none⟩ = some (.slice Ah1 nh1 ch1) := X1.cell 3
  have X1c4 : w7.cell? ⟨X1a, 4, none⟩ = some (.slice Af1 nf1 cf1) := X1.cell 4
  have X1z : X1a < w7.heap.size := X1.lt
  go_wp2_with fail
  clear X1c0 X1c1 X1c2 X1c3 X1c4 X1z
  have hst := ((Below.refl w7.heap.size w7).alloc (by simp <;> omega) (.cells #[.slice Aq4 nq4 cq4, .slice Aa4 na4 ca4, .slice As4 ns4 cs4, .slice Ah4 nh4 ch4, .slice Af4 nf4 cf4] 30))
  have hBo := hB
  have X1o := X1
  have X1 := X1.later hst
  have hX1 := hid_bx hX1 hst
  have hB := hB.trans (hst.mono hB.size)
  have X4 := (Box.newAt (w := w7) (n := w7.heap.size) [.slice Aq4 nq4 cq4, .slice Aa4 na4 ca4, .slice As4 ns4 cs4, .slice Ah4 nh4 ch4, .slice Af4 nf4 cf4] 30 (by simp))
  clear hst
  generalize (w7.alloc (.cells #[.slice Aq4 nq4 cq4, .slice Aa4 na4 ca4, .slice As4 ns4 cs4, .slice Ah4 nh4 ch4, .slice Af4 nf4 cf4] 30)) = w8 at hB X1 X4 hX1 ⊢
  generalize w7.heap.size = X4a at X4 ⊢
  refine (oDeliver_is oxA 0 hX1 (T := (Bx.zero, false, 1)) (Lib.hid oe5)).mono ?_
  rintro e w9 hh
  obtain ⟨Aq5, nq5, cq5, Aa5, na5, ca5, As5, ns5, cs5, Ah5, nh5, ch5, Af5, nf5, cf5, rfl, hX5, hb⟩ := hh.sl
  have X1 := X1.later hb
  have X4 := X4.later hb
  have hX1 := hid_bx hX1 hb
  have hB := hB.trans (hb.mono hB.size)
  clear hb
  clear X4
  have X1c0 : w9.cell? ⟨X1a, 0, none⟩ = some (.slice Aq1 nq1 cq1) := X1.cell 0
  have X1c1 : w9.cell? ⟨X1a, 1, none⟩ = some (.slice Aa1 na1 ca1) := X1.cell 1
  have X1c2 : w9.cell? ⟨X1a, 2, none⟩ = some (.slice As1 ns1 cs1) := X1.cell 2
  have X1c3 : w9.cell? ⟨X1a, 3, none⟩ = some (.slice Ah1 nh1 ch1) := X1.cell 3
  have X1c4 : w9.cell? ⟨X1a, 4, none⟩ = some (.slice Af1 nf1 cf1) := X1.cell 4
  have X1z : X1a < w9.heap.size := X1.lt
  go_wp2_with fail
  clear X1c0 X1c1 X1c2 X1c3 X1c4 X1z
  have hst := ((Below.refl w9.heap.size w9).alloc (by simp <;> omega) (.cells #[.slice Aq5 nq5 cq5, .slice Aa5 na5 ca5, .slice As5 ns5 cs5, .slice Ah5 nh5 ch5, .slice Af5 nf5 cf5] 30))
  have hBo := hB
  have X1o := X1
  have X1 := X1.later hst
  have hX1 := hid_bx hX1 hst
  have hB := hB.trans (hst.mono hB.size)
  have X5 := (Box.newAt (w := w9) (n := w9.heap.size) [.slice Aq5 nq5 cq5, .slice Aa5 na5 ca5, .slice As5 ns5 cs5, .slice Ah5 nh5 ch5, .slice Af5 nf5 cf5] 30 (by simp))
  clear hst
  generalize (w9.alloc (.cells #[.slice Aq5 nq5 cq5, .slice Aa5 na5 ca5, .slice As5 ns5 cs5, .slice Ah5 nh5 ch5, .slice Af5 nf5 cf5] 30)) = w10 at hB X1 X5 hX1 ⊢
  generalize w9.heap.size = X5a at X5 ⊢
  refine (oCheck_is (Lib.hid oe6) hX1.out).mono ?_
  rintro e w11 ⟨rfl, hb⟩
  have X1 := X1.later hb
  have X5 := X5.later hb
  have hX1 := hid_bx hX1 hb
  have hB := hB.trans (hb.mono hB.size)
  clear hb
  clear X5
  have X1c0 : w11.cell? ⟨X1a, 0, none⟩ = some (.slice Aq1 nq1 cq1) := X1.cell 0
  have X1c1 : w11.cell? ⟨X1a, 1, none⟩ = some (.slice Aa1 na1 ca1) := X1.cell 1
  have X1c2 : w11.cell? ⟨X1a, 2, none⟩ = some (.slice As1 ns1 cs1) := X1.cell 2
  have X1c3 : w11.cell? ⟨X1a, 3, none⟩ = some (.slice Ah1 nh1 ch1) := X1.cell 3
  have X1c4 : w11.cell? ⟨X1a, 4, none⟩ = some (.slice Af1 nf1 cf1) := X1.cell 4
  have X1z : X1a < w11.heap.size := X1.lt
  go_wp2_with fail
  clear X1c0 X1c1 X1c2 X1c3 X1c4 X1z
  refine (oCheck_is (Lib.hid oe7) (bxAt_zero _ _)).mono ?_
  rintro e w12 ⟨rfl, hb⟩
  have X1 := X1.later hb
  have hX1 := hid_bx hX1 hb
  have hB := hB.trans (hb.mono hB.size)
  clear hb
  have X1c0 : w12.cell? ⟨X1a, 0, none⟩ = some (.slice Aq1 nq1 cq1) := X1.cell 0
  have X1c1 : w12.cell? ⟨X1a, 1, none⟩ = some (.slice Aa1 na1 ca1) := X1.cell 1
  have X1c2 : w12.cell? ⟨X1a, 2, none⟩ = some (.slice As1 ns1 cs1) := X1.cell 2
  have X1c3 : w12.cell? ⟨X1a, 3, none⟩ = some (.slice Ah1 nh1 ch1) := X1.cell 3
  have X1c4 : w12.cell? ⟨X1a, 4, none⟩ = some (.slice Af1 nf1 cf1) := X1.cell 4
  have X1z : X1a < w12.heap.size := X1.lt
  go_wp2_with fail
  clear X1c0 X1c1 X1c2 X1c3 X1c4 X1z
  refine (oSend_is oxA 1 5 hX1 (T := (oxX, 0)) (Lib.hid oe8)).mono ?_
  rintro e w13 hh
  obtain ⟨Aq6, nq6, cq6, Aa6, na6, ca6, As6, ns6, cs6, Ah6, nh6, ch6, Af6, nf6, cf6, rfl, hX6, hb⟩ := hh.sl1
  have X1 := X1.later hb
  have hX1 := hid_bx hX1 hb
  have hB := hB.trans (hb.mono hB.size)
  clear hb
  clear X1 hX1
  go_wp2_with fail
  have hst := ((Below.refl w13.heap.size w13).alloc (by simp <;> omega) (.cells #[.slice Aq6 nq6 cq6, .slice Aa6 na6 ca6, .slice As6 ns6 cs6, .slice Ah6 nh6 ch6, .slice Af6 nf6 cf6] 30))
  have hBo := hB
  have hX6 := hid_bx hX6 hst
  have hB := hB.trans (hst.mono hB.size)
  have X6 := (Box.newAt (w := w13) (n := w13.heap.size) [.slice Aq6 nq6 cq6, .slice Aa6 na6 ca6, .slice As6 ns6 cs6, .slice Ah6 nh6 ch6, .slice Af6 nf6 cf6] 30 (by simp))
  clear hst
  generalize (w13.alloc (.cells #[.slice Aq6 nq6 cq6, .slice Aa6 na6 ca6, .slice As6 ns6 cs6, .slice Ah6 nh6 ch6, .slice Af6 nf6 cf6] 30)) = w14 at hB  X6 hX6 ⊢
  generalize w13.heap.size = X6a at X6 ⊢
  refine (oSend_is oxX 1 3 hX6 (T := (oxY, 0)) (Lib.hid oe9)).mono ?_
  rintro e w15 hh
  obtain ⟨Aq7, nq7, cq7, Aa7, na7, ca7, As7, ns7, cs7, Ah7, nh7, ch7, Af7, nf7, cf7, rfl, hX7, hb⟩ := hh.sl1
  have X6 := X6.later hb
  have hX6 := hid_bx hX6 hb
  have hB := hB.trans (hb.mono hB.size)
  clear hb
  clear X6 hX6
  go_wp2_with fail
  have hst := ((Below.refl w15.heap.size w15).alloc (by simp <;> omega) (.cells #[.slice Aq7 nq7 cq7, .slice Aa7 na7 ca7, .slice As7 ns7 cs7, .slice Ah7 nh7 ch7, .slice Af7 nf7 cf7] 30))
  have hBo := hB
  have hX7 := hid_bx hX7 hst
  have hB := hB.trans (hst.mono hB.size)
  have X7 := (Box.newAt (w := w15) (n := w15.heap.size) [.slice Aq7 nq7 cq7, .slice Aa7 na7 ca7, .slice As7 ns7 cs7, .slice Ah7 nh7 ch7, .slice Af7 nf7 cf7] 30 (by simp))
  have gX7 : w.heap.size ≤ w15.heap.size := by have := hBo.size; omega
  clear hst
  generalize (w15.alloc (.cells #[.slice Aq7 nq7 cq7, .slice Aa7 na7 ca7, .slice As7 ns7 cs7, .slice Ah7 nh7 ch7, .slice Af7 nf7 cf7] 30)) = w16 at hB  X7 hX7 ⊢
  generalize w15.heap.size = X7a at X7 gX7 ⊢
  refine (oDeliver_is oxY 1 hX7 (T := (oxD, true, 0)) (Lib.hid oe10)).mono ?_
  rintro e w17 hh
  obtain ⟨Aq8, nq8, cq8, Aa8, na8, ca8, As8, ns8, cs8, Ah8, nh8, ch8, Af8, nf8, cf8, rfl, hX8, hb⟩ := hh.sl
  have X7 := X7.later hb
  have hX7 := hid_bx hX7 hb
  have hB := hB.trans (hb.mono hB.size)
  clear hb
  clear hX7
  have X7f0 : w17.frozen? ⟨X7a, 0, none⟩ = false := X7.free 0
  have X7f1 : w17.frozen? ⟨X7a, 1, none⟩ = false := X7.free 1
  have X7f2 : w17.frozen? ⟨X7a, 2, none⟩ = false := X7.free 2
  have X7f3 : w17.frozen? ⟨X7a, 3, none⟩ = false := X7.free 3
  have X7f4 : w17.frozen? ⟨X7a, 4, none⟩ = false := X7.free 4
  have X7c0 : w17.cell? ⟨X7a, 0, none⟩ = some (.slice Aq7 nq7 cq7) := X7.cell 0
  have X7c1 : w17.cell? ⟨X7a, 1, none⟩ = some (.slice Aa7 na7 ca7) := X7.cell 1
  have X7c2 : w17.cell? ⟨X7a, 2, none⟩ = some (.slice As7 ns7 cs7) := X7.cell 2
  have X7c3 : w17.cell? ⟨X7a, 3, none⟩ = some (.slice Ah7 nh7 ch7) := X7.cell 3
  have X7c4 : w17.cell? ⟨X7a, 4, none⟩ = some (.slice Af7 nf7 cf7) := X7.cell 4
  have X7z : X7a < w17.heap.size := X7.lt
  go_wp2_with fail
  clear X7c0 X7f0 X7c1 X7f1 X7c2 X7f2 X7c3 X7f3 X7c4 X7f4 X7z
  have hX8 := bx_set (Aq := Aq8) (nq := nq8) (cq := cq8) (Aa := Aa8) (na := na8) (ca := ca8) (As := As8) (ns := ns8) (cs := cs8) (Ah := Ah8) (nh := nh8) (ch := ch8) (Af := Af8) (nf := nf8) (cf := cf8) hX8 X7
  have hB := (((((hB.setCell (p := ⟨X7a, 0, none⟩) gX7 (.slice Aq8 nq8 cq8)).setCell (p := ⟨X7a, 1, none⟩) gX7 (.slice Aa8 na8 ca8)).setCell (p := ⟨X7a, 2, none⟩) gX7 (.slice As8 ns8 cs8)).setCell (p := ⟨X7a, 3, none⟩) gX7 (.slice Ah8 nh8 ch8)).setCell (p := ⟨X7a, 4, none⟩) gX7 (.slice Af8 nf8 cf8))
  have X7 := (((((X7.set 0 (.slice Aq8 nq8 cq8)).set 1 (.slice Aa8 na8 ca8)).set 2 (.slice As8 ns8 cs8)).set 3 (.slice Ah8 nh8 ch8)).set 4 (.slice Af8 nf8 cf8))
  simp only [List.set_cons_zero, List.set_cons_succ] at X7
  generalize (((((w17.setCell ⟨X7a, 0, none⟩ (.slice Aq8 nq8 cq8)).setCell ⟨X7a, 1, none⟩ (.slice Aa8 na8 ca8)).setCell ⟨X7a, 2, none⟩ (.slice As8 ns8 cs8)).setCell ⟨X7a, 3, none⟩ (.slice Ah8 nh8 ch8)).setCell ⟨X7a, 4, none⟩ (.slice Af8 nf8 cf8)) = w18 at hB X7 hX8 ⊢
  refine (oDeliver_is oxD 0 hX8 (T := (oxE, false, 0)) (Lib.hid oe11)).mono ?_
  rintro e w19 hh
  obtain ⟨Aq9, nq9, cq9, Aa9, na9, ca9, As9, ns9, cs9, Ah9, nh9, ch9, Af9, nf9, cf9, rfl, hX9, hb⟩ := hh.sl
  have X7 := X7.later hb
  have hX8 := hid_bx hX8 hb
  have hB := hB.trans (hb.mono hB.size)
  clear hb
  clear hX8
  have X7f0 : w19.frozen? ⟨X7a, 0, none⟩ = false := X7.free 0
  have X7f1 : w19.frozen? ⟨X7a, 1, none⟩ = false := X7.free 1
  have X7f2 : w19.frozen? ⟨X7a, 2, none⟩ = false := X7.free 2
  have X7f3 : w19.frozen? ⟨X7a, 3, none⟩ = false := X7.free 3
  have X7f4 : w19.frozen? ⟨X7a, 4, none⟩ = false := X7.free 4
  have X7c0 : w19.cell? ⟨X7a, 0, none⟩ = some (.slice Aq8 nq8 cq8) := X7.cell 0
  have X7c1 : w19.cell? ⟨X7a, 1, none⟩ = some (.slice Aa8 na8 ca8) := X7.cell 1
  have X7c2 : w19.cell? ⟨X7a, 2, none⟩ = some (.slice As8 ns8 cs8) := X7.cell 2
  have X7c3 : w19.cell? ⟨X7a, 3, none⟩ = some (.slice Ah8 nh8 ch8) := X7.cell 3
  have X7c4 : w19.cell? ⟨X7a, 4, none⟩ = some (.slice Af8 nf8 cf8) := X7.cell 4
  have X7z : X7a < w19.heap.size := X7.lt
  go_wp2_with fail
  clear X7c0 X7f0 X7c1 X7f1 X7c2 X7f2 X7c3 X7f3 X7c4 X7f4 X7z
  have hX9 := bx_set (Aq := Aq9) (nq := nq9) (cq := cq9) (Aa := Aa9) (na := na9) (ca := ca9) (As := As9) (ns := ns9) (cs := cs9) (Ah := Ah9) (nh := nh9) (ch := ch9) (Af := Af9) (nf := nf9) (cf := cf9) hX9 X7
  have hB := (((((hB.setCell (p := ⟨X7a, 0, none⟩) gX7 (.slice Aq9 nq9 cq9)).setCell (p := ⟨X7a, 1, none⟩) gX7 (.slice Aa9 na9 ca9)).setCell (p := ⟨X7a, 2, none⟩) gX7 (.slice As9 ns9 cs9)).setCell (p := ⟨X7a, 3, none⟩) gX7 (.slice Ah9 nh9 ch9)).setCell (p := ⟨X7a, 4, none⟩) gX7 (.slice Af9 nf9 cf9))
  have X7 := (((((X7.set 0 (.slice Aq9 nq9 cq9)).set 1 (.slice Aa9 na9 ca9)).set 2 (.slice As9 ns9 cs9)).set 3 (.slice Ah9 nh9 ch9)).set 4 (.slice Af9 nf9 cf9))
  simp only [List.set_cons_zero, List.set_cons_succ] at X7
  generalize (((((w19.setCell ⟨X7a, 0, none⟩ (.slice Aq9 nq9 cq9)).setCell ⟨X7a, 1, none⟩ (.slice Aa9 na9 ca9)).setCell ⟨X7a, 2, none⟩ (.slice As9 ns9 cs9)).setCell ⟨X7a, 3, none⟩ (.slice Ah9 nh9 ch9)).setCell ⟨X7a, 4, none⟩ (.slice Af9 nf9 cf9)) = w20 at hB X7 hX9 ⊢
  refine (oTick_is oxE hX9 (T := (oxT, [-1, 3], 0)) (Lib.hid oe12)).mono ?_
  rintro e w21 hh
  obtain ⟨Aq10, nq10, cq10, Aa10, na10, ca10, As10, ns10, cs10, Ah10, nh10, ch10, Af10, nf10, cf10, Al10, nl10, cl10, rfl, hX10, hL10, hb⟩ := hh.sl
  have X7 := X7.later hb
  have hX9 := hid_bx hX9 hb
  have hB := hB.trans (hb.mono hB.size)
  clear hb
  clear X7 hX9
  go_wp2_with fail
  have hst := ((Below.refl w21.heap.size w21).alloc (by simp <;> omega) (.cells #[.slice Aq10 nq10 cq10, .slice Aa10 na10 ca10, .slice As10 ns10 cs10, .slice Ah10 nh10 ch10, .slice Af10 nf10 cf10] 30))
  have hBo := hB
  have hX10 := hid_bx hX10 hst
  have hL10 := hid_hd hL10 hst
  have hB := hB.trans (hst.mono hB.size)
  have X10 := (Box.newAt (w := w21) (n := w21.heap.size) [.slice Aq10 nq10 cq10, .slice Aa10 na10 ca10, .slice As10 ns10 cs10, .slice Ah10 nh10 ch10, .slice Af10 nf10 cf10] 30 (by simp))
  clear hst
  generalize (w21.alloc (.cells #[.slice Aq10 nq10 cq10, .slice Aa10 na10 ca10, .slice As10 ns10 cs10, .slice Ah10 nh10 ch10, .slice Af10 nf10 cf10] 30)) = w22 at hB  X10 hX10 hL10 ⊢
  generalize w21.heap.size = X10a at X10 ⊢
  refine (oTick_is oxT hX10 (T := (oxT, [-1, -1], 0)) (Lib.hid oe13)).mono ?_
  rintro e w23 hh
  obtain ⟨Aq11, nq11, cq11, Aa11, na11, ca11, As11, ns11, cs11, Ah11, nh11, ch11, Af11, nf11, cf11, Al11, nl11, cl11, rfl, hX11, hL11, hb⟩ := hh.sl
  have X10 := X10.later hb
  have hX10 := hid_bx hX10 hb
  have hL10 := hid_hd hL10 hb
  have hB := hB.trans (hb.mono hB.size)
  clear hb
  clear X10 hX10
  go_wp2_with fail
  have hst := (((Below.refl w23.heap.size w23).alloc (by simp <;> omega) (.cells #[.slice Aq11 nq11 cq11, .slice Aa11 na11 ca11, .slice As11 ns11 cs11, .slice Ah11 nh11 ch11, .slice Af11 nf11 cf11] 30)).alloc (by simp <;> omega) (.cells #[.int .i64 (-1), .int .i64 3] 3))
  have hBo := hB
  have hL10 := hid_hd hL10 hst
  have hL11 := hid_hd hL11 hst
  have hB := hB.trans (hst.mono hB.size)
  have X11 := ((Box.newAt (w := w23) (n := w23.heap.size) [.slice Aq11 nq11 cq11, .slice Aa11 na11 ca11, .slice As11 ns11 cs11, .slice Ah11 nh11 ch11, .slice Af11 nf11 cf11] 30 (by simp)).alloc (.cells #[.int .i64 (-1), .int .i64 3] 3))
  have B12 := (Box.newAt (w := (w23.alloc (.cells #[.slice Aq11 nq11 cq11, .slice Aa11 na11 ca11, .slice As11 ns11 cs11, .slice Ah11 nh11 ch11, .slice Af11 nf11 cf11] 30))) (n := w23.heap.size + 1) [.int .i64 (-1), .int .i64 3] 3 (by simp))
  clear hst
  generalize ((w23.alloc (.cells #[.slice Aq11 nq11 cq11, .slice Aa11 na11 ca11, .slice As11 ns11 cs11, .slice Ah11 nh11 ch11, .slice Af11 nf11 cf11] 30)).alloc (.cells #[.int .i64 (-1), .int .i64 3] 3)) = w24 at hB  X11 B12 hL10 hL11 ⊢
  generalize w23.heap.size + 1 = B12a at X11 B12 ⊢
  generalize w23.heap.size = X11a at X11 B12 ⊢
  refine (rSameInts_is hL10 (Lib.hid (box_hd (l := [-1, 3]) B12 (by simp [maxLen]))) (T := true) (Lib.hid (by decide))).mono ?_
  rintro e w25 ⟨rfl, hb⟩
  have X11 := X11.later hb
  have B12 := B12.later hb
  have hL10 := hid_hd hL10 hb
  have hL11 := hid_hd hL11 hb
  have hB := hB.trans (hb.mono hB.size)
  clear hb
  clear B12 X11
  go_wp2_with fail
  have hst := ((Below.refl w25.heap.size w25).alloc (by simp <;> omega) (.cells #[.int .i64 (-1), .int .i64 (-1)] 3))
  have hBo := hB
  have hL10 := hid_hd hL10 hst
  have hL11 := hid_hd hL11 hst
  have hB := hB.trans (hst.mono hB.size)
  have B13 := (Box.newAt (w := w25) (n := w25.heap.size) [.int .i64 (-1), .int .i64 (-1)] 3 (by simp))
  clear hst
  generalize (w25.alloc (.cells #[.int .i64 (-1), .int .i64 (-1)] 3)) = w26 at hB  B13 hL10 hL11 ⊢
  generalize w25.heap.size = B13a at B13 ⊢
  refine (rSameInts_is hL11 (Lib.hid (box_hd (l := [-1, -1]) B13 (by simp [maxLen]))) (T := true) (Lib.hid (by decide))).mono ?_
  rintro e w27 ⟨rfl, hb⟩
  have B13 := B13.later hb
  have hL10 := hid_hd hL10 hb
  have hL11 := hid_hd hL11 hb
  have hB := hB.trans (hb.mono hB.size)
  clear hb
  go_wp2
  go_ret
  exact ⟨by first | rfl | simp, hB⟩
end Go.Proofs.Ytmbifmmkccghfaa

/-
  OrdersSpec, OrdersTickSpec, OrdersDeliverSpec. (Printed by gen_sf.py.) No condition.
-/
namespace Go.Proofs.Ytmbifmmkccghfaa
open Go.RowKit

section
variable {b : Bx} {Vq Va Vs Vh Vf Uq Ua Us Uh Uf : Value} {W : World}
end
end Go.Proofs.Ytmbifmmkccghfaa

/-
  Plain facts on nets (of chapter 6's texts NY and OB), for the seats that lack that chapter's laws. No condition.
-/
namespace Go.Proofs.Ytmbifmmkccghfaa
open Go.RowKit

theorem okB_partsN {n : Net} (h : n.okB = true) : n.queue.length ≤ 4096 ∧ n.queue.all Pk.okB = true ∧ apartB n.apart = true := by
  rw [Net.okB_eq, Bool.and_eq_true, Bool.and_eq_true, decide_eq_true_eq] at h
  exact h
theorem okB_mk {q : List Pk} {l : List (Int × Int)} (h1 : q.length ≤ 4096) (h2 : q.all Pk.okB = true) (h3 : apartB l = true) : (Net.mk q l).okB = true := by
  rw [Net.okB_eq, Bool.and_eq_true, Bool.and_eq_true, decide_eq_true_eq]
  exact ⟨h1, h2, h3⟩
theorem without_ok {n : Net} (h : n.okB = true) (k : Nat) : (n.without k).okB = true := by
  obtain ⟨h1, h2, h3⟩ := okB_partsN h
  refine okB_mk ?_ ?_ h3
  · simp only [List.length_append, List.length_take, List.length_drop]; omega
  · rw [List.all_append, Bool.and_eq_true]
    exact ⟨List.all_eq_true.2 fun x hx => List.all_eq_true.1 h2 x (List.mem_of_mem_take hx), List.all_eq_true.2 fun x hx => List.all_eq_true.1 h2 x (List.mem_of_mem_drop hx)⟩
theorem pk_ok {n : Net} (h : n.okB = true) {k : Nat} (hk : k < n.queue.length) : (n.pk k).okB = true := by
  rw [Net.pk_at hk]
  exact List.all_eq_true.1 (okB_partsN h).2.1 _ (List.getElem_mem hk)
theorem ask_ok {n : Net} (h : n.okB = true) {k : Nat} (hk : k < n.queue.length) : askTN n (k : Int) = 0 := by
  rw [askTN, if_pos h, if_pos ⟨by omega, by omega⟩]
theorem send_ok {n : Net} {p : Pk} (h : n.okB = true) (hp : p.okB = true) (hl : n.queue.length < 4096) : sendT n p = (⟨n.queue ++ [p], n.apart⟩, 0) := by
  rw [sendT, if_pos ⟨h, hp⟩, if_neg (by omega)]
theorem sent_ok {n : Net} {p : Pk} (h : n.okB = true) (hp : p.okB = true) (hl : n.queue.length < 4096) : (Net.mk (n.queue ++ [p]) n.apart).okB = true := by
  obtain ⟨h1, h2, h3⟩ := okB_partsN h
  refine okB_mk ?_ ?_ h3
  · simp; omega
  · rw [List.all_append, h2]; simp [hp]
theorem without_len {n : Net} {k : Nat} (hk : k < n.queue.length) : (n.without k).queue.length = n.queue.length - 1 := by
  simp only [Net.without, List.length_append, List.length_take, List.length_drop]; omega
theorem repeat_at {n : Net} (h : n.okB = true) {k : Nat} (hk : k < n.queue.length) (hl : n.queue.length < 4096) : repeatT n (k : Int) = (⟨n.queue ++ [n.pk k], n.apart⟩, 0) := by
  rw [repeatT, if_pos (ask_ok h hk), send_ok h (pk_ok h hk) hl]
theorem deliver_at {n : Net} (h : n.okB = true) {k : Nat} (hk : k < n.queue.length) : deliverT n (k : Int) = ((if cutB n.apart (n.pk k).src (n.pk k).dst = true then Pk.zero else n.pk k), n.without k, 0) := by
  rw [deliverT, if_pos (ask_ok h hk)]; rfl
end Go.Proofs.Ytmbifmmkccghfaa

/-
  What the moves of chapter 34's runs do to a box: it stays right. No condition.
-/
namespace Go.Proofs.Ytmbifmmkccghfaa
open Go.RowKit

structure Om where
  kd : Int
  gt : Int
  od : Int
  at0 : Int
  fd : Int
def Om.ok (m : Om) : Prop := (0 ≤ m.kd ∧ m.kd ≤ 255) ∧ (0 ≤ m.gt ∧ m.gt ≤ 255) ∧ (0 ≤ m.od ∧ m.od ≤ 255) ∧ (0 ≤ m.at0 ∧ m.at0 ≤ 255) ∧ (0 ≤ m.fd ∧ m.fd ≤ 255)
def Bx.pos (b : Bx) (a : Int) : Int := if b.net.queue.length = 0 then 0 else a % (b.net.queue.length : Int)
def heardT (b : Bx) (i : Int) (r : Bx × Bool × Int) : Bx × Int := if r.2.2 = 0 then (r.1, if r.2.1 = true then (b.net.pk i).dst else 0) else (b, 0)
theorem okB_of {b : Bx} (h1 : b.listsB = true) (h2 : b.sentB = true) (h3 : ∀ g, g < b.heard.length → b.gateB g = true) (h4 : b.net.okB = true) (h5 : ∀ p ∈ b.net.queue, b.pkB p = true) : b.okB = true := by
  simp only [Bx.okB, Bx.validB, Bool.and_eq_true]
  exact ⟨⟨h1, h2, List.all_eq_true.2 fun g hg => h3 g (List.mem_range.1 hg)⟩, h4, List.all_eq_true.2 h5⟩
structure Kept (b x : Bx) (hd : Int) (s : List (Int × Int)) : Prop where
  ok : x.okB = true
  len : x.heard.length = b.heard.length
  sent : x.sent = b.sent ++ s
  fresh : ∀ g : Nat, g < b.heard.length → x.f g = (b.f g || decide (hd = (g : Int) + 1))
  up : ∀ g : Nat, g < b.heard.length → b.h g ≤ x.h g
  new : ∀ g : Nat, g < b.heard.length → b.h g < x.h g → hd = (g : Int) + 1
  hd : 0 ≤ hd ∧ hd ≤ (b.heard.length : Int)
theorem Kept.refl {b : Bx} (h : b.okB = true) : Kept b b 0 [] :=
  ⟨h, rfl, by simp, fun g _ => by have : ¬ (0 : Int) = (g : Int) + 1 := by omega
                                  simp [this], fun _ _ => Int.le_refl _, fun _ _ h => absurd h (Int.lt_irrefl _), ⟨Int.le_refl _, by omega⟩⟩
theorem Kept.links {b : Bx} {n : Net} (h : b.okB = true) (hn : n.okB = true) (hq : ∀ p ∈ n.queue, p ∈ b.net.queue) : Kept b ⟨n, b.sent, b.heard, b.fresh⟩ 0 [] := by
  obtain ⟨h1, h2, h3, -, h5⟩ := okB_parts h
  refine ⟨okB_of h1 h2 h3 hn (fun p hp => h5 p (hq p hp)), rfl, by simp, fun g _ => ?_, fun _ _ => Int.le_refl _, fun _ _ h => absurd h (Int.lt_irrefl _), ⟨Int.le_refl _, by omega⟩⟩
  have : ¬ (0 : Int) = (g : Int) + 1 := by omega
  simp only [this, decide_false, Bool.or_false]
  rfl
theorem doT_kept {b : Bx} {r : Net × Int} (h : b.okB = true) (hr : r.2 = 0 → r.1.okB = true ∧ ∀ p ∈ r.1.queue, p ∈ b.net.queue) : (b.doT r).2 = 0 → Kept b (b.doT r).1 0 [] := by
  unfold Bx.doT
  rw [if_pos h]
  split
  · next h0 => exact fun _ => Kept.links h (hr h0).1 (hr h0).2
  · next h0 => exact fun h1 => absurd h1 h0
theorem ask_in {n : Net} {i : Int} (h : askTN n i = 0) : n.okB = true ∧ 0 ≤ i ∧ i < (n.queue.length : Int) := by
  unfold askTN at h
  split at h
  · next h1 =>
    split at h
    · next h2 => exact ⟨h1, h2.1, h2.2⟩
    · cases h
  · cases h
theorem pk_mem {n : Net} {i : Int} (h0 : 0 ≤ i) (h1 : i < (n.queue.length : Int)) : n.pk i ∈ n.queue := by
  have hk : i.toNat < n.queue.length := by omega
  rw [Net.pk, List.getD_eq_getElem?_getD, List.getElem?_eq_getElem hk]
  exact List.getElem_mem hk
theorem without_mem {n : Net} {k : Nat} {p : Pk} (h : p ∈ (n.without k).queue) : p ∈ n.queue := by
  rcases List.mem_append.1 h with h | h
  · exact List.mem_of_mem_take h
  · exact List.mem_of_mem_drop h
theorem repeat_kept {b : Bx} (h : b.okB = true) (i : Int) : (b.repeatT i).2 = 0 → Kept b (b.repeatT i).1 0 [] := by
  refine doT_kept h fun h0 => ?_
  unfold Go.Proofs.Ytmbifmmkccghfaa.repeatT at h0 ⊢
  split at h0
  · next h1 =>
    obtain ⟨k0, k1, k2⟩ := ask_in h1
    rw [if_pos h1]
    unfold Go.Proofs.Ytmbifmmkccghfaa.sendT at h0 ⊢
    split at h0
    · next h2 =>
      rw [if_pos h2]
      split at h0
      · cases h0
      · next h3 =>
        rw [if_neg h3]
        have h4 := (okB_partsN k0).1
        refine ⟨sent_ok k0 h2.2 (by omega), fun p hp => ?_⟩
        rcases List.mem_append.1 hp with hp | hp
        · exact hp
        · rw [List.mem_singleton.1 hp]; exact pk_mem k1 k2
    · cases h0
  · next h1 => exact absurd h0 h1
theorem pkB_iff {b : Bx} {p : Pk} : b.pkB p = true ↔ ∃ n o, readT p.data = some (n, o) ∧ 0 ≤ n ∧ n < (b.sent.length : Int) ∧ p.src = 0 ∧ p.dst = (b.at n).1 + 1 ∧ o = (b.at n).2 := by
  unfold Bx.pkB
  rcases readT p.data with _ | ⟨n, o⟩
  · exact ⟨fun h => (by cases h), fun ⟨_, _, h, _⟩ => (by cases h)⟩
  · constructor
    · intro h
      exact ⟨n, o, rfl, of_decide_eq_true h⟩
    · rintro ⟨n', o', h, h1⟩
      cases h
      exact decide_eq_true h1
theorem set_at {l : List Int} {g k : Nat} {x : Int} (hg : g < l.length) : (l.set g x).getD k 0 = if k = g then x else l.getD k 0 := by
  rw [List.getD_eq_getElem?_getD, List.getElem?_set]
  by_cases h : g = k
  · subst h; simp [hg]
  · rw [if_neg h, if_neg (fun e => h e.symm), List.getD_eq_getElem?_getD]
theorem set_atB {l : List Bool} {g k : Nat} {x : Bool} (hg : g < l.length) : (l.set g x).getD k false = if k = g then x else l.getD k false := by
  rw [List.getD_eq_getElem?_getD, List.getElem?_set]
  by_cases h : g = k
  · subst h; simp [hg]
  · rw [if_neg h, if_neg (fun e => h e.symm), List.getD_eq_getElem?_getD]
def val (ap : List (Int × Int)) (g : Nat) (p : Pk) : Int := if p.dst = (g : Int) + 1 ∧ cutB ap p.src p.dst = false then numberT p.data + 1 else 0
theorem h_range {b : Bx} (h : b.okB = true) {g : Nat} (hg : g < b.heard.length) : 0 ≤ b.h g ∧ b.h g ≤ (b.sent.length : Int) ∧ (b.h g ≠ 0 → (b.at (b.h g - 1)).1 = (g : Int)) := by
  have hk := (okB_parts h).2.2.1 g hg
  unfold Bx.gateB at hk
  split at hk
  · next hz => exact ⟨by omega, by omega, fun h => absurd hz h⟩
  · obtain ⟨z1, z2, z3⟩ := of_decide_eq_true hk
    exact ⟨z1, z2, fun _ => z3⟩
theorem deliver_cases {b : Bx} (h : b.okB = true) {i : Int} (h0 : (b.deliverT i).2.2 = 0) : 0 ≤ i ∧ i < (b.net.queue.length : Int) ∧
    ((b.deliverT i = (⟨b.net.without i.toNat, b.sent, b.heard, b.fresh⟩, false, 0) ∧ ∀ k : Nat, k < b.heard.length → val b.net.apart k (b.net.pk i) ≤ b.h k) ∨
      ∃ (g : Nat) (n o : Int), g < b.heard.length ∧ (b.net.pk i).dst = (g : Int) + 1 ∧ readT (b.net.pk i).data = some (n, o) ∧ 0 ≤ n ∧ n < (b.sent.length : Int) ∧ (b.at n).1 = (g : Int) ∧ b.h g ≤ n ∧ numberT (b.net.pk i).data = n ∧ cutB b.net.apart (b.net.pk i).src (b.net.pk i).dst = false ∧
        b.deliverT i = (⟨b.net.without i.toNat, b.sent, b.heard.set g (n + 1), b.fresh.set g true⟩, true, 0)) := by
  obtain ⟨h1, h2, h3, h4, h5⟩ := okB_parts h
  unfold Bx.deliverT at h0 ⊢
  rw [if_pos h] at h0 ⊢
  split at h0
  · next hd =>
    rw [if_pos hd]
    unfold Go.Proofs.Ytmbifmmkccghfaa.deliverT at hd ⊢
    split at hd
    · next ha =>
      obtain ⟨-, k1, k2⟩ := ask_in ha
      rw [if_pos ha]
      refine ⟨k1, k2, ?_⟩
      dsimp only
      split
      · next hc =>
        left
        rw [hear_none (by intro h; exact absurd h.1 (by decide))]
        refine ⟨rfl, fun k hk => ?_⟩
        rw [val, if_neg (by rw [hc]; exact fun h => by cases h.2)]
        exact (h_range h hk).1
      · next hc =>
        have hc := Bool.eq_false_iff.2 hc
        obtain ⟨n, o, r1, r2, r3, r4, r5, r6⟩ := pkB_iff.1 (h5 _ (pk_mem k1 k2))
        obtain ⟨⟨s1, s2⟩, -, -⟩ := sent_at h2 r2 r3
        have hg : (b.net.pk i).dst = ((b.at n).1.toNat : Int) + 1 := by omega
        have hn := number_read r1 r2
        by_cases hh : b.h (b.at n).1.toNat ≤ n
        · right
          refine ⟨(b.at n).1.toNat, n, o, by omega, hg, r1, r2, r3, by omega, hh, hn, hc, ?_⟩
          rw [hear_some hg (by rw [hn]; exact hh), hn]
        · left
          rw [hear_no hg (by rw [hn]; exact hh)]
          refine ⟨rfl, fun k hk => ?_⟩
          rw [val]
          split
          · next hv =>
            obtain rfl : k = (b.at n).1.toNat := by omega
            rw [hn]
            omega
          · exact (h_range h hk).1
    · next ha => exact absurd hd ha
  · next hd => exact absurd h0 hd
theorem deliver_kept {b : Bx} (h : b.okB = true) (i : Int) : Kept b (heardT b i (b.deliverT i)).1 (heardT b i (b.deliverT i)).2 [] := by
  unfold heardT
  split
  · next h0 =>
    obtain ⟨h1, h2, h3, h4, h5⟩ := okB_parts h
    obtain ⟨l1, l2, l3⟩ := of_decide_eq_true h1
    obtain ⟨k1, k2, ⟨e, -⟩ | ⟨g, n, o, hg, hd, r1, r2, r3, r4, hh, -, -, e⟩⟩ := deliver_cases h h0
    · rw [e]
      exact Kept.links h (without_ok h4 _) (fun p hp => without_mem hp)
    · rw [e]
      dsimp only
      rw [if_pos rfl, hd]
      have hgf : g < b.fresh.length := by omega
      refine ⟨okB_of ?_ (by unfold Bx.sentB at h2 ⊢; dsimp only; rw [List.length_set]; exact h2) ?_ (without_ok h4 _) (fun p hp => h5 p (without_mem hp)), ?_, by simp, fun k hk => ?_, fun k hk => ?_, fun k hk => ?_, ⟨by omega, by omega⟩⟩
      · refine decide_eq_true ⟨?_, ?_, l3⟩
        · rw [List.length_set]; exact l1
        · rw [List.length_set, List.length_set]; exact l2
      · intro k hk
        rw [List.length_set] at hk
        have hk' := h3 k hk
        unfold Bx.gateB
        show (if (b.heard.set g (n + 1)).getD k 0 = 0 then !((b.fresh.set g true).getD k false) else decide (0 ≤ (b.heard.set g (n + 1)).getD k 0 ∧ (b.heard.set g (n + 1)).getD k 0 ≤ (b.sent.length : Int) ∧ (b.at ((b.heard.set g (n + 1)).getD k 0 - 1)).1 = (k : Int))) = true
        rw [set_at hg, set_atB hgf]
        by_cases e1 : k = g
        · subst e1
          rw [if_pos rfl, if_neg (by omega)]
          refine decide_eq_true ⟨by omega, by omega, ?_⟩
          rw [show n + 1 - 1 = n by omega]
          exact r4
        · rw [if_neg e1, if_neg e1]
          exact hk'
      · exact List.length_set
      · show (b.fresh.set g true).getD k false = (b.fresh.getD k false || decide ((g : Int) + 1 = (k : Int) + 1))
        rw [set_atB hgf]
        by_cases e1 : k = g
        · subst e1; simp
        · have : ¬ (g : Int) + 1 = (k : Int) + 1 := by omega
          rw [if_neg e1, decide_eq_false this, Bool.or_false]
      · show b.h k ≤ (b.heard.set g (n + 1)).getD k 0
        rw [set_at hg]
        split
        · next e1 => subst e1; omega
        · exact Int.le_refl _
      · show b.h k < (b.heard.set g (n + 1)).getD k 0 → _
        rw [set_at hg]
        split
        · next e1 => subst e1; exact fun _ => rfl
        · exact fun h => absurd h (Int.lt_irrefl _)
  · exact Kept.refl h
end Go.Proofs.Ytmbifmmkccghfaa

/-
  All packets delivered, in any order: what each gate has heard then. No condition.
-/
namespace Go.Proofs.Ytmbifmmkccghfaa
open Go.RowKit

def topL (ap : List (Int × Int)) (g : Nat) : Int → List Pk → Int
  | h, [] => h
  | h, p :: q => topL ap g (max h (val ap g p)) q
def Bx.top (b : Bx) (g : Nat) : Int := topL b.net.apart g (b.h g) b.net.queue
theorem topL_le (ap : List (Int × Int)) (g : Nat) (m : Int) : ∀ (q : List Pk) (h : Int), topL ap g h q ≤ m ↔ h ≤ m ∧ ∀ p ∈ q, val ap g p ≤ m
  | [], h => by simp [topL]
  | p :: q, h => by
    rw [topL, topL_le ap g m q]
    simp only [List.mem_cons, forall_eq_or_imp]
    rw [Int.max_le, and_assoc]
theorem top_eq {a b : Int} (h : ∀ m, a ≤ m ↔ b ≤ m) : a = b := Int.le_antisymm ((h b).2 (Int.le_refl _)) ((h a).1 (Int.le_refl _))
theorem mem_without {n : Net} {k : Nat} (hk : k < n.queue.length) (P : Pk → Prop) : (∀ p ∈ n.queue, P p) ↔ (P (n.pk (k : Int)) ∧ ∀ p ∈ (n.without k).queue, P p) := by
  have hpk : n.pk (k : Int) = n.queue[k] := Net.pk_at hk
  have e : n.queue = n.queue.take k ++ n.queue[k] :: n.queue.drop (k + 1) := by rw [List.getElem_cons_drop, List.take_append_drop]
  constructor
  · intro h
    exact ⟨by rw [hpk]; exact h _ (List.getElem_mem hk), fun p hp => h p (without_mem hp)⟩
  · rintro ⟨h1, h2⟩ p hp
    rw [e] at hp
    rcases List.mem_append.1 hp with hp | hp
    · exact h2 p (List.mem_append_left _ hp)
    · rcases List.mem_cons.1 hp with rfl | hp
      · rw [hpk] at h1; exact h1
      · exact h2 p (List.mem_append_right _ hp)
structure Flow (b x : Bx) : Prop where
  ok : x.okB = true
  len : x.heard.length = b.heard.length
  sent : x.sent = b.sent
  top : ∀ g : Nat, g < b.heard.length → x.top g = b.top g
theorem Flow.refl {b : Bx} (h : b.okB = true) : Flow b b := ⟨h, rfl, rfl, fun _ _ => rfl⟩
theorem Flow.trans {b x y : Bx} (h : Flow b x) (h2 : Flow x y) : Flow b y := ⟨h2.ok, h2.len.trans h.len, h2.sent.trans h.sent, fun g hg => (h2.top g (by rw [h.len]; exact hg)).trans (h.top g hg)⟩
theorem flow_deliver {b : Bx} (h : b.okB = true) {k : Nat} (hk : k < b.net.queue.length) : ∃ x is, b.deliverT (k : Int) = (x, is, 0) ∧ Flow b x ∧ x.net.queue.length + 1 = b.net.queue.length := by
  have h4 := (okB_parts h).2.2.2.1
  have h0 : (b.deliverT (k : Int)).2.2 = 0 := by
    rw [Bx.deliverT, if_pos h, deliver_at h4 hk]
    rfl
  have hK := deliver_kept h (k : Int)
  rw [heardT, if_pos h0] at hK
  have hl : (b.net.without k).queue.length + 1 = b.net.queue.length := by have := without_len hk; omega
  obtain ⟨-, -, ⟨e, hv⟩ | ⟨g, n, o, hg, hd, r1, r2, r3, r4, hh, hn, hc, e⟩⟩ := deliver_cases h h0
  · rw [e, Int.toNat_natCast] at hK
    refine ⟨_, _, by rw [e, Int.toNat_natCast], ⟨hK.ok, hK.len, rfl, fun g hg => ?_⟩, hl⟩
    refine top_eq fun m => ?_
    rw [Bx.top, Bx.top, topL_le, topL_le, mem_without hk]
    have := hv g hg
    show (b.h g ≤ m ∧ ∀ p ∈ (b.net.without k).queue, val b.net.apart g p ≤ m) ↔ _
    constructor
    · rintro ⟨h1, h2⟩; exact ⟨h1, by omega, h2⟩
    · rintro ⟨h1, _, h2⟩; exact ⟨h1, h2⟩
  · rw [e, Int.toNat_natCast] at hK
    refine ⟨_, _, by rw [e, Int.toNat_natCast], ⟨hK.ok, hK.len, rfl, fun j hj => ?_⟩, hl⟩
    refine top_eq fun m => ?_
    rw [Bx.top, Bx.top, topL_le, topL_le, mem_without hk]
    show ((b.heard.set g (n + 1)).getD j 0 ≤ m ∧ ∀ p ∈ (b.net.without k).queue, val b.net.apart j p ≤ m) ↔ _
    rw [set_at hg]
    by_cases ej : j = g
    · subst ej
      rw [if_pos rfl]
      have ev : val b.net.apart j (b.net.pk (k : Int)) = n + 1 := by rw [val, if_pos ⟨hd, hc⟩, hn]
      rw [ev]
      constructor
      · rintro ⟨h1, h2⟩; exact ⟨by omega, h1, h2⟩
      · rintro ⟨_, h1, h2⟩; exact ⟨h1, h2⟩
    · rw [if_neg ej]
      have ev : val b.net.apart j (b.net.pk (k : Int)) = 0 := by rw [val, if_neg (by rw [hd]; intro h; omega)]
      rw [ev]
      have := (h_range h hj).1
      show (b.h j ≤ m ∧ _) ↔ _
      constructor
      · rintro ⟨h1, h2⟩; exact ⟨h1, by omega, h2⟩
      · rintro ⟨h1, _, h2⟩; exact ⟨h1, h2⟩
theorem flow_repeat {b : Bx} (h : b.okB = true) {k : Nat} (hk : k < b.net.queue.length) (hl : b.net.queue.length < 4096) : ∃ x, b.repeatT (k : Int) = (x, 0) ∧ Flow b x ∧ x.net.queue.length = b.net.queue.length + 1 := by
  have h4 := (okB_parts h).2.2.2.1
  have e : b.repeatT (k : Int) = (⟨⟨b.net.queue ++ [b.net.pk k], b.net.apart⟩, b.sent, b.heard, b.fresh⟩, 0) := by
    rw [Bx.repeatT, repeat_at h4 hk hl, Bx.doT, if_pos h, if_pos rfl]
  have hK := repeat_kept h (k : Int) (by rw [e])
  rw [e] at hK
  refine ⟨_, e, ⟨hK.ok, rfl, rfl, fun g hg => ?_⟩, by simp⟩
  refine top_eq fun m => ?_
  rw [Bx.top, Bx.top, topL_le, topL_le]
  have hm : b.net.pk (k : Int) ∈ b.net.queue := pk_mem (by omega) (by omega)
  show (b.h g ≤ m ∧ ∀ p ∈ b.net.queue ++ [b.net.pk k], val b.net.apart g p ≤ m) ↔ _
  constructor
  · rintro ⟨h1, h2⟩; exact ⟨h1, fun p hp => h2 p (List.mem_append_left _ hp)⟩
  · rintro ⟨h1, h2⟩
    refine ⟨h1, fun p hp => ?_⟩
    rcases List.mem_append.1 hp with hp | hp
    · exact h2 p hp
    · rw [List.mem_singleton.1 hp]; exact h2 _ hm
structure Done (b x : Bx) : Prop where
  flow : Flow b x
  empty : x.net.queue.length = 0
theorem Done.h {b x : Bx} (h : Done b x) {g : Nat} (hg : g < b.heard.length) : x.h g = b.top g := by
  have h1 := h.flow.top g hg
  have h2 : x.net.queue = [] := List.length_eq_zero_iff.1 h.empty
  rw [Bx.top, h2] at h1
  exact h1
theorem Done.same {b c x y : Bx} (h : Done b x) (hc : Flow b c) (h2 : Done c y) : y.heard = x.heard := by
  have h2' : Done b y := ⟨hc.trans h2.flow, h2.empty⟩
  refine ints_eq (n := b.heard.length) h2'.flow.len h.flow.len fun j hj => ?_
  exact (h2'.h hj).trans (h.h hj).symm
def lastI (l : List (Int × Int)) (g : Nat) : Nat → Int
  | 0 => 0
  | k + 1 => if (l.getD k (0, 0)).1 = (g : Int) then (k : Int) + 1 else lastI l g k
theorem last_range (l : List (Int × Int)) (g : Nat) : ∀ k, 0 ≤ lastI l g k ∧ lastI l g k ≤ (k : Int)
  | 0 => ⟨Int.le_refl _, Int.le_refl _⟩
  | k + 1 => by
    have := last_range l g k
    rw [lastI]
    split <;> omega
theorem last_most (l : List (Int × Int)) (g : Nat) : ∀ k j : Nat, j < k → (l.getD j (0, 0)).1 = (g : Int) → (j : Int) + 1 ≤ lastI l g k
  | k + 1, j, hj, h => by
    rw [lastI]
    split
    · omega
    · next hn =>
      rcases Nat.lt_or_ge j k with h1 | h1
      · exact last_most l g k j h1 h
      · obtain rfl : j = k := by omega
        exact absurd h hn
theorem last_is (l : List (Int × Int)) (g : Nat) : ∀ k : Nat, lastI l g k ≠ 0 → (l.getD (lastI l g k - 1).toNat (0, 0)).1 = (g : Int)
  | 0, h => absurd rfl h
  | k + 1, h => by
    rw [lastI] at h ⊢
    split
    · next h1 =>
      rw [show ((k : Int) + 1 - 1).toNat = k by omega]
      exact h1
    · next h1 =>
      rw [if_neg h1] at h
      exact last_is l g k h
def bears (last : Int) (p : Pk) : Bool := match readT p.data with
  | some (n, _) => decide (n + 1 = last)
  | none => false
def cutG (ap : List (Int × Int)) (g : Nat) : Bool := ap.any fun x => decide (x = (0, (g : Int) + 1))
theorem cutG_eq (ap : List (Int × Int)) (g : Nat) : cutG ap g = cutB ap 0 ((g : Int) + 1) := by
  unfold cutG cutB
  rw [show min (0 : Int) ((g : Int) + 1) = 0 by omega, show max (0 : Int) ((g : Int) + 1) = (g : Int) + 1 by omega]
  congr 1
  funext x
  obtain ⟨a, c⟩ := x
  rw [Bool.eq_iff_iff]
  simp
def Bx.thereB (b : Bx) (g : Nat) : Bool := decide (b.h g = lastI b.sent g b.sent.length) || b.net.queue.any fun p => bears (lastI b.sent g b.sent.length) p && !cutG b.net.apart g
theorem there_top {b : Bx} (h : b.okB = true) {g : Nat} (hg : g < b.heard.length) (ht : b.thereB g = true) : b.top g = lastI b.sent g b.sent.length := by
  obtain ⟨h1, h2, h3, h4, h5⟩ := okB_parts h
  have hr := last_range b.sent g b.sent.length
  obtain ⟨k1, k2, k3⟩ := h_range h hg
  have hmost : ∀ n : Int, 0 ≤ n → n < (b.sent.length : Int) → (b.at n).1 = (g : Int) → n + 1 ≤ lastI b.sent g b.sent.length := fun n n0 n1 he => by
    have := last_most b.sent g b.sent.length n.toNat (by omega) he
    omega
  have hle : b.top g ≤ lastI b.sent g b.sent.length := by
    rw [Bx.top, topL_le]
    refine ⟨?_, fun p hp => ?_⟩
    · by_cases hz : b.h g = 0
      · omega
      · have := hmost (b.h g - 1) (by omega) (by omega) (k3 hz)
        omega
    · rw [val]
      split
      · next hv =>
        obtain ⟨n, o, r1, r2, r3, r4, r5, r6⟩ := pkB_iff.1 (h5 p hp)
        rw [number_read r1 r2]
        exact hmost n r2 r3 (by have := hv.1; omega)
      · exact hr.1
  have hge := (topL_le b.net.apart g (b.top g) b.net.queue (b.h g)).1 (Int.le_refl _)
  refine Int.le_antisymm hle ?_
  unfold Bx.thereB at ht
  rcases Bool.or_eq_true _ _ ▸ ht with ht | ht
  · rw [← of_decide_eq_true ht]; exact hge.1
  · obtain ⟨p, hp, hb⟩ := List.any_eq_true.1 ht
    rw [Bool.and_eq_true] at hb
    obtain ⟨hb, hc⟩ := hb
    obtain ⟨n, o, r1, r2, r3, r4, r5, r6⟩ := pkB_iff.1 (h5 p hp)
    unfold bears at hb
    rw [r1] at hb
    have hn : n + 1 = lastI b.sent g b.sent.length := of_decide_eq_true hb
    have hz : lastI b.sent g b.sent.length ≠ 0 := by omega
    have hi := last_is b.sent g b.sent.length hz
    rw [← hn, show (n + 1 - 1).toNat = n.toNat by omega] at hi
    have hd : p.dst = (g : Int) + 1 := by rw [r5]; exact congrArg (· + 1) hi
    have hv := hge.2 p hp
    rw [val, if_pos ⟨hd, by rw [r4, hd, ← cutG_eq]; simpa using hc⟩, number_read r1 r2] at hv
    omega
end Go.Proofs.Ytmbifmmkccghfaa

/-
  deliver: all packets of a box delivered. (Printed by gen_sh.py and pp.py.) No condition.
-/
namespace Go.Proofs.Ytmbifmmkccghfaa
open Go.RowKit Go.Shelf
attribute [local go_sem] Oper.semAt_some

def RetDone (b : Bx) (w : World) (e : Ending) (w' : World) : Prop := ∃ (x : Bx) (Vq Va Vs Vh Vf : Value), Hid (Done b x) ∧ e = .returned (.tuple #[.agg #[Vq, Va, Vs, Vh, Vf], .bool true]) ∧ BxAt w' w'.heap.size Vq Va Vs Vh Vf x ∧ Below w.heap.size w w'
theorem hid_by {w w' : World} {V : Value} {l : List UInt8} (h : Hid (BytesAt w w.heap.size V l)) (hb : Below w.heap.size w w') : Hid (BytesAt w' w'.heap.size V l) := h.out.later hb
theorem by_set {w : World} {V : Value} {l : List UInt8} (h : Hid (BytesAt w w.heap.size V l)) {x : Nat} {A0 A1 A2 A3 A4 : Option Addr} {n0 c0 n1 c1 n2 c2 n3 c3 n4 c4 : Nat} (hx : Box w x [.slice A0 n0 c0, .slice A1 n1 c1, .slice A2 n2 c2, .slice A3 n3 c3, .slice A4 n4 c4]) {Aq Aa As Ah Af : Option Addr} {nq cq na ca ns cs nh ch nf cf : Nat} :
    Hid (BytesAt (((((w.setCell ⟨x, 0, none⟩ (.slice Aq nq cq)).setCell ⟨x, 1, none⟩ (.slice Aa na ca)).setCell ⟨x, 2, none⟩ (.slice As ns cs)).setCell ⟨x, 3, none⟩ (.slice Ah nh ch)).setCell ⟨x, 4, none⟩ (.slice Af nf cf)) (((((w.setCell ⟨x, 0, none⟩ (.slice Aq nq cq)).setCell ⟨x, 1, none⟩ (.slice Aa na ca)).setCell ⟨x, 2, none⟩ (.slice As ns cs)).setCell ⟨x, 3, none⟩ (.slice Ah nh ch)).setCell ⟨x, 4, none⟩ (.slice Af nf cf)).heap.size V l) := by
  have k0 := SlBox.of hx (by simp)
  have k1 := k0.set 0 Aq nq cq
  have k2 := k1.set 1 Aa na ca
  have k3 := k2.set 2 As ns cs
  have k4 := k3.set 3 Ah nh ch
  simp only [World.size_setCell]
  exact Lib.hid (((((h.out.setS k0 _ _).setS k1 _ _).setS k2 _ _).setS k3 _ _).setS k4 _ _)
set_option maxRecDepth 100000 in
set_option maxHeartbeats 4000000 in
theorem oDeliverAll_any (b : Bx) (Aq : Option Addr) (nq cq : Nat) (Aa : Option Addr) (na ca : Nat) (As : Option Addr) (ns cs : Nat) (Ah : Option Addr) (nh ch : Nat) (Af : Option Addr) (nf cf : Nat) (At : Option Addr) (nt ct : Nat) (ts : List UInt8) (w : World) (hX : Hid (BxAt w w.heap.size (.slice Aq nq cq) (.slice Aa na ca) (.slice As ns cs) (.slice Ah nh ch) (.slice Af nf cf) b)) (hV : Hid (BytesAt w w.heap.size (.slice At nt ct) ts)) (hok : Hid (b.okB = true)) :
    Calls Try.prog 20 #[.agg #[.slice Aq nq cq, .slice Aa na ca, .slice As ns cs, .slice Ah nh ch, .slice Af nf cf], .slice At nt ct] w (RetDone b w) := by
  obtain ⟨l1, -, -, -, -, m1, -⟩ := hX.out.lens
  obtain ⟨lt, mt⟩ : ts.length = nt ∧ nt ≤ 9223372036854775807 := by
    obtain ⟨_, _, h1, m1⟩ := hV.out.form
    cases h1
    unfold maxLen at m1
    exact ⟨rfl, by omega⟩
  go_enter Try.func20, Try.ntmps20
  have hB := ((Below.refl w.heap.size w).alloc (Nat.le_refl _) (.cells #[.slice Aq nq cq, .slice Aa na ca, .slice As ns cs, .slice Ah nh ch, .slice Af nf cf] 30)).alloc (by simp) (.cells #[.slice none 0 0, .slice none 0 0, .slice none 0 0, .slice none 0 0, .slice none 0 0] 30)
  have XB := (Box.new w [.slice Aq nq cq, .slice Aa na ca, .slice As ns cs, .slice Ah nh ch, .slice Af nf cf] 30).alloc (.cells #[.slice none 0 0, .slice none 0 0, .slice none 0 0, .slice none 0 0, .slice none 0 0] 30)
  have XR := Box.newAt (w := w.alloc (.cells #[.slice Aq nq cq, .slice Aa na ca, .slice As ns cs, .slice Ah nh ch, .slice Af nf cf] 30)) (n := w.heap.size + 1) [.slice none 0 0, .slice none 0 0, .slice none 0 0, .slice none 0 0, .slice none 0 0] 30 (by simp)
  go_upto_region 1 with fail
  have hX := hid_bx hX hB
  have hV := hid_by hV hB
  generalize (w.alloc (.cells #[.slice Aq nq cq, .slice Aa na ca, .slice As ns cs, .slice Ah nh ch, .slice Af nf cf] 30)).alloc (.cells #[.slice none 0 0, .slice none 0 0, .slice none 0 0, .slice none 0 0, .slice none 0 0] 30) = w1 at hX hV hB XB XR ⊢
  have XBc0 : w1.cell? ⟨w.heap.size, 0, none⟩ = some (.slice Aq nq cq) := XB.cell 0
  have XBf0 : w1.frozen? ⟨w.heap.size, 0, none⟩ = false := XB.free 0
  have XBc1 : w1.cell? ⟨w.heap.size, 1, none⟩ = some (.slice Aa na ca) := XB.cell 1
  have XBf1 : w1.frozen? ⟨w.heap.size, 1, none⟩ = false := XB.free 1
  have XBc2 : w1.cell? ⟨w.heap.size, 2, none⟩ = some (.slice As ns cs) := XB.cell 2
  have XBf2 : w1.frozen? ⟨w.heap.size, 2, none⟩ = false := XB.free 2
  have XBc3 : w1.cell? ⟨w.heap.size, 3, none⟩ = some (.slice Ah nh ch) := XB.cell 3
  have XBf3 : w1.frozen? ⟨w.heap.size, 3, none⟩ = false := XB.free 3
  have XBc4 : w1.cell? ⟨w.heap.size, 4, none⟩ = some (.slice Af nf cf) := XB.cell 4
  have XBf4 : w1.frozen? ⟨w.heap.size, 4, none⟩ = false := XB.free 4
  have XBz : w.heap.size < w1.heap.size := XB.lt
  go_upto_region 3 with fail
  clear XBc0 XBf0 XBc1 XBf1 XBc2 XBf2 XBc3 XBf3 XBc4 XBf4 XBz
  go_loopw [17] (fun i wr => ∃ (k : Nat) (x : Bx) (Aq1 : Option Addr) (nq1 cq1 : Nat) (Aa1 : Option Addr) (na1 ca1 : Nat) (As1 : Option Addr) (ns1 cs1 : Nat) (Ah1 : Option Addr) (nh1 ch1 : Nat) (Af1 : Option Addr) (nf1 cf1 : Nat), k ≤ nq ∧ i = .int .i64 k ∧ Hid (Flow b x) ∧ k + x.net.queue.length = nq ∧ Below w.heap.size w wr ∧ Box wr w.heap.size [.slice Aq1 nq1 cq1, .slice Aa1 na1 ca1, .slice As1 ns1 cs1, .slice Ah1 nh1 ch1, .slice Af1 nf1 cf1] ∧ Box wr (w.heap.size + 1) [.slice none 0 0, .slice none 0 0, .slice none 0 0, .slice none 0 0, .slice none 0 0] ∧ Hid (BxAt wr wr.heap.size (.slice Aq1 nq1 cq1) (.slice Aa1 na1 ca1) (.slice As1 ns1 cs1) (.slice Ah1 nh1 ch1) (.slice Af1 nf1 cf1) x) ∧ Hid (BytesAt wr wr.heap.size (.slice At nt ct) ts)) (fun i _ => nq - (intOf i).toNat)
  case atStart => exact ⟨0, b, Aq, nq, cq, Aa, na, ca, As, ns, cs, Ah, nh, ch, Af, nf, cf, by omega, rfl, Lib.hid (Flow.refl hok.out), by omega, hB, XB, XR, hX, hV⟩
  case round =>
    clear hB XB XR hX hV
    obtain ⟨k, x, Aq1, nq1, cq1, Aa1, na1, ca1, As1, ns1, cs1, Ah1, nh1, ch1, Af1, nf1, cf1, hk, rfl, hF, hkx, hB, XB, XR, hX, hV⟩ := hrel
    obtain ⟨wo, rfl⟩ : ∃ wo : World, wo = wr := ⟨_, rfl⟩
    obtain ⟨j1, -⟩ := hX.out.lens
    have hj : k + nq1 = nq := by omega
    rcases Nat.lt_or_ge k nq with hlt | hge
    rotate_left
    · obtain rfl : nq = k := by omega
      have h0 : nq1 = 0 := by omega
      have hDn : Hid (Done b x) := Lib.hid ⟨hF.out, by omega⟩
      subst h0
      have hlm : ¬ ((nq : Int) < (nq : Int)) := by omega
      go_upto_region 13 with fail
      have XRc0 : wo.cell? ⟨w.heap.size + 1, 0, none⟩ = some (.slice none 0 0) := XR.cell 0
      have XRf0 : wo.frozen? ⟨w.heap.size + 1, 0, none⟩ = false := XR.free 0
      have XRc1 : wo.cell? ⟨w.heap.size + 1, 1, none⟩ = some (.slice none 0 0) := XR.cell 1
      have XRf1 : wo.frozen? ⟨w.heap.size + 1, 1, none⟩ = false := XR.free 1
      have XRc2 : wo.cell? ⟨w.heap.size + 1, 2, none⟩ = some (.slice none 0 0) := XR.cell 2
      have XRf2 : wo.frozen? ⟨w.heap.size + 1, 2, none⟩ = false := XR.free 2
      have XRc3 : wo.cell? ⟨w.heap.size + 1, 3, none⟩ = some (.slice none 0 0) := XR.cell 3
      have XRf3 : wo.frozen? ⟨w.heap.size + 1, 3, none⟩ = false := XR.free 3
      have XRc4 : wo.cell? ⟨w.heap.size + 1, 4, none⟩ = some (.slice none 0 0) := XR.cell 4
      have XRf4 : wo.frozen? ⟨w.heap.size + 1, 4, none⟩ = false := XR.free 4
      have XRz : w.heap.size + 1 < wo.heap.size := XR.lt
      have XBc0 : wo.cell? ⟨w.heap.size, 0, none⟩ = some (.slice Aq1 0 cq1) := XB.cell 0
      have XBc1 : wo.cell? ⟨w.heap.size, 1, none⟩ = some (.slice Aa1 na1 ca1) := XB.cell 1
      have XBc2 : wo.cell? ⟨w.heap.size, 2, none⟩ = some (.slice As1 ns1 cs1) := XB.cell 2
      have XBc3 : wo.cell? ⟨w.heap.size, 3, none⟩ = some (.slice Ah1 nh1 ch1) := XB.cell 3
      have XBc4 : wo.cell? ⟨w.heap.size, 4, none⟩ = some (.slice Af1 nf1 cf1) := XB.cell 4
      have zb := XB.lt
      go_region
      have hX9 := bx_set (Aq := Aq1) (nq := 0) (cq := cq1) (Aa := Aa1) (na := na1) (ca := ca1) (As := As1) (ns := ns1) (cs := cs1) (Ah := Ah1) (nh := nh1) (ch := ch1) (Af := Af1) (nf := nf1) (cf := cf1) hX XR
      have hX9 := hid_bx hX9 (Below.refl _ _).drew
      have hB9 := ((((((hB.setCell (p := ⟨w.heap.size + 1, 0, none⟩) (by simp <;> omega) (.slice Aq1 0 cq1)).setCell (p := ⟨w.heap.size + 1, 1, none⟩) (by simp <;> omega) (.slice Aa1 na1 ca1)).setCell (p := ⟨w.heap.size + 1, 2, none⟩) (by simp <;> omega) (.slice As1 ns1 cs1)).setCell (p := ⟨w.heap.size + 1, 3, none⟩) (by simp <;> omega) (.slice Ah1 nh1 ch1)).setCell (p := ⟨w.heap.size + 1, 4, none⟩) (by simp <;> omega) (.slice Af1 nf1 cf1))).drew
      have XR9 := ((((((XR.set 0 (.slice Aq1 0 cq1)).set 1 (.slice Aa1 na1 ca1)).set 2 (.slice As1 ns1 cs1)).set 3 (.slice Ah1 nh1 ch1)).set 4 (.slice Af1 nf1 cf1))).drew
      clear XRc0 XRc1 XRc2 XRc3 XRc4 XRf0 XRf1 XRf2 XRf3 XRf4 XRz XBc0 XBc1 XBc2 XBc3 XBc4 zb
      generalize ((((((wo.setCell ⟨w.heap.size + 1, 0, none⟩ (.slice Aq1 0 cq1)).setCell ⟨w.heap.size + 1, 1, none⟩ (.slice Aa1 na1 ca1)).setCell ⟨w.heap.size + 1, 2, none⟩ (.slice As1 ns1 cs1)).setCell ⟨w.heap.size + 1, 3, none⟩ (.slice Ah1 nh1 ch1)).setCell ⟨w.heap.size + 1, 4, none⟩ (.slice Af1 nf1 cf1))).drew = w9 at hX9 hB9 XR9 ⊢
      simp only [List.set_cons_zero, List.set_cons_succ] at XR9
      have XR9c0 : w9.cell? ⟨w.heap.size + 1, 0, none⟩ = some (.slice Aq1 0 cq1) := XR9.cell 0
      have XR9c1 : w9.cell? ⟨w.heap.size + 1, 1, none⟩ = some (.slice Aa1 na1 ca1) := XR9.cell 1
      have XR9c2 : w9.cell? ⟨w.heap.size + 1, 2, none⟩ = some (.slice As1 ns1 cs1) := XR9.cell 2
      have XR9c3 : w9.cell? ⟨w.heap.size + 1, 3, none⟩ = some (.slice Ah1 nh1 ch1) := XR9.cell 3
      have XR9c4 : w9.cell? ⟨w.heap.size + 1, 4, none⟩ = some (.slice Af1 nf1 cf1) := XR9.cell 4
      go_wp2
      refine bodyPost_ret (v := .tuple #[.agg #[.slice Aq1 0 cq1, .slice Aa1 na1 ca1, .slice As1 ns1 cs1, .slice Ah1 nh1 ch1, .slice Af1 nf1 cf1], .bool true]) (by simp [results, Try.results20, go_sem, XR9c0, XR9c1, XR9c2, XR9c3, XR9c4]) rfl ?_
      exact ⟨x, _, _, _, _, _, hDn, rfl, hX9.out, hB9⟩
    have hlm : (k : Int) < (nq : Int) := by omega
    have hq1 : 0 < nq1 := by omega
    rcases Nat.lt_or_ge k nt with h7 | h7
    · have hlm2 : (k : Int) < (nt : Int) := by omega
      obtain ⟨bt, ot, rfl, hbt, ht⟩ := hV.out.2.one (k := k) (by rw [lt]; exact h7)
      generalize ts.getD k 0 = tv at ht
      have htv : tv.toNat ≤ 255 := by have := tv.toNat_lt; omega
      generalize tv.toNat = tn at ht htv
      obtain ⟨at0, hat⟩ : ∃ at0 : Nat, tn % nq1 = at0 := ⟨_, rfl⟩
      have hatl : at0 < nq1 := by rw [← hat]; exact Nat.mod_lt _ hq1
      have hat2 : (tn : Int) % (nq1 : Int) = (at0 : Int) := by rw [← hat]; omega
      have XBc0 : wo.cell? ⟨w.heap.size, 0, none⟩ = some (.slice Aq1 nq1 cq1) := XB.cell 0
      have XBc1 : wo.cell? ⟨w.heap.size, 1, none⟩ = some (.slice Aa1 na1 ca1) := XB.cell 1
      have XBc2 : wo.cell? ⟨w.heap.size, 2, none⟩ = some (.slice As1 ns1 cs1) := XB.cell 2
      have XBc3 : wo.cell? ⟨w.heap.size, 3, none⟩ = some (.slice Ah1 nh1 ch1) := XB.cell 3
      have XBc4 : wo.cell? ⟨w.heap.size, 4, none⟩ = some (.slice Af1 nf1 cf1) := XB.cell 4
      have zb := XB.lt
      go_upto_region 7 with fail
      go_region
      clear XBc0 XBc1 XBc2 XBc3 XBc4 zb ht hbt
      have hb := (Below.refl wo.heap.size wo).drew
      have hX := hid_bx hX hb
      have hV := hid_by hV hb
      have XB := XB.later hb
      have XR := XR.later hb
      have hB := hB.trans (hb.mono hB.size)
      clear hb
      generalize wo.drew = wp at hX hV XB XR hB ⊢
      have XBc0 : wp.cell? ⟨w.heap.size, 0, none⟩ = some (.slice Aq1 nq1 cq1) := XB.cell 0
      have XBf0 : wp.frozen? ⟨w.heap.size, 0, none⟩ = false := XB.free 0
      have XBc1 : wp.cell? ⟨w.heap.size, 1, none⟩ = some (.slice Aa1 na1 ca1) := XB.cell 1
      have XBf1 : wp.frozen? ⟨w.heap.size, 1, none⟩ = false := XB.free 1
      have XBc2 : wp.cell? ⟨w.heap.size, 2, none⟩ = some (.slice As1 ns1 cs1) := XB.cell 2
      have XBf2 : wp.frozen? ⟨w.heap.size, 2, none⟩ = false := XB.free 2
      have XBc3 : wp.cell? ⟨w.heap.size, 3, none⟩ = some (.slice Ah1 nh1 ch1) := XB.cell 3
      have XBf3 : wp.frozen? ⟨w.heap.size, 3, none⟩ = false := XB.free 3
      have XBc4 : wp.cell? ⟨w.heap.size, 4, none⟩ = some (.slice Af1 nf1 cf1) := XB.cell 4
      have XBf4 : wp.frozen? ⟨w.heap.size, 4, none⟩ = false := XB.free 4
      have XBz : w.heap.size < wp.heap.size := XB.lt
      obtain ⟨y, is, hd, hfl, hyl⟩ := flow_deliver hF.out.ok (k := at0) (by omega)
      have hF2 := Lib.hid (hF.out.trans hfl)
      have hd := Lib.hid hd
      clear hfl
      go_upto_region 8 with fail
      go_wp2_with fail
      clear XBc0 XBf0 XBc1 XBf1 XBc2 XBf2 XBc3 XBf3 XBc4 XBf4 XBz
      refine (oDeliver_is x at0 hX hd).mono ?_
      rintro e w4 hh
      obtain ⟨Aq2, nq2, cq2, Aa2, na2, ca2, As2, ns2, cs2, Ah2, nh2, ch2, Af2, nf2, cf2, rfl, hX2, hb⟩ := hh.sl
      have hX := hid_bx hX hb
      have hV := hid_by hV hb
      have XB := XB.later hb
      have XR := XR.later hb
      have hB := hB.trans (hb.mono hB.size)
      clear hb
      have XBc0 : w4.cell? ⟨w.heap.size, 0, none⟩ = some (.slice Aq1 nq1 cq1) := XB.cell 0
      have XBf0 : w4.frozen? ⟨w.heap.size, 0, none⟩ = false := XB.free 0
      have XBc1 : w4.cell? ⟨w.heap.size, 1, none⟩ = some (.slice Aa1 na1 ca1) := XB.cell 1
      have XBf1 : w4.frozen? ⟨w.heap.size, 1, none⟩ = false := XB.free 1
      have XBc2 : w4.cell? ⟨w.heap.size, 2, none⟩ = some (.slice As1 ns1 cs1) := XB.cell 2
      have XBf2 : w4.frozen? ⟨w.heap.size, 2, none⟩ = false := XB.free 2
      have XBc3 : w4.cell? ⟨w.heap.size, 3, none⟩ = some (.slice Ah1 nh1 ch1) := XB.cell 3
      have XBf3 : w4.frozen? ⟨w.heap.size, 3, none⟩ = false := XB.free 3
      have XBc4 : w4.cell? ⟨w.heap.size, 4, none⟩ = some (.slice Af1 nf1 cf1) := XB.cell 4
      have XBf4 : w4.frozen? ⟨w.heap.size, 4, none⟩ = false := XB.free 4
      have XBz : w.heap.size < w4.heap.size := XB.lt
      go_upto_region 9 with fail
      clear XBc0 XBf0 XBc1 XBf1 XBc2 XBf2 XBc3 XBf3 XBc4 XBf4 XBz
      have hb := (Below.refl w4.heap.size w4).alloc (Nat.le_refl _) (.cells #[.slice Aq2 nq2 cq2, .slice Aa2 na2 ca2, .slice As2 ns2 cs2, .slice Ah2 nh2 ch2, .slice Af2 nf2 cf2] 30)
      have X9 := Box.new w4 [.slice Aq2 nq2 cq2, .slice Aa2 na2 ca2, .slice As2 ns2 cs2, .slice Ah2 nh2 ch2, .slice Af2 nf2 cf2] 30
      have hX2 := hid_bx hX2 hb
      have hV := hid_by hV hb
      have XB := XB.later hb
      have XR := XR.later hb
      have hle := hB.size
      have hB := hB.trans (hb.mono hB.size)
      clear hb
      generalize w4.alloc (.cells #[.slice Aq2 nq2 cq2, .slice Aa2 na2 ca2, .slice As2 ns2 cs2, .slice Ah2 nh2 ch2, .slice Af2 nf2 cf2] 30) = w5 at hX2 hV XB XR X9 hB ⊢
      generalize w4.heap.size = G at X9 hle ⊢
      obtain ⟨j2, -, -, -, -, j3, -⟩ := hX2.out.lens
      have hl2 : ¬ ((nq1 : Int) ≤ (nq2 : Int)) := by omega
      have X9c0 : w5.cell? ⟨G, 0, none⟩ = some (.slice Aq2 nq2 cq2) := X9.cell 0
      have X9c1 : w5.cell? ⟨G, 1, none⟩ = some (.slice Aa2 na2 ca2) := X9.cell 1
      have X9c2 : w5.cell? ⟨G, 2, none⟩ = some (.slice As2 ns2 cs2) := X9.cell 2
      have X9c3 : w5.cell? ⟨G, 3, none⟩ = some (.slice Ah2 nh2 ch2) := X9.cell 3
      have X9c4 : w5.cell? ⟨G, 4, none⟩ = some (.slice Af2 nf2 cf2) := X9.cell 4
      have XBc0 : w5.cell? ⟨w.heap.size, 0, none⟩ = some (.slice Aq1 nq1 cq1) := XB.cell 0
      have XBf0 : w5.frozen? ⟨w.heap.size, 0, none⟩ = false := XB.free 0
      have XBc1 : w5.cell? ⟨w.heap.size, 1, none⟩ = some (.slice Aa1 na1 ca1) := XB.cell 1
      have XBf1 : w5.frozen? ⟨w.heap.size, 1, none⟩ = false := XB.free 1
      have XBc2 : w5.cell? ⟨w.heap.size, 2, none⟩ = some (.slice As1 ns1 cs1) := XB.cell 2
      have XBf2 : w5.frozen? ⟨w.heap.size, 2, none⟩ = false := XB.free 2
      have XBc3 : w5.cell? ⟨w.heap.size, 3, none⟩ = some (.slice Ah1 nh1 ch1) := XB.cell 3
      have XBf3 : w5.frozen? ⟨w.heap.size, 3, none⟩ = false := XB.free 3
      have XBc4 : w5.cell? ⟨w.heap.size, 4, none⟩ = some (.slice Af1 nf1 cf1) := XB.cell 4
      have XBf4 : w5.frozen? ⟨w.heap.size, 4, none⟩ = false := XB.free 4
      have XBz : w.heap.size < w5.heap.size := XB.lt
      have z9 := X9.lt
      go_wp2
      have hX := bx_set (Aq := Aq2) (nq := nq2) (cq := cq2) (Aa := Aa2) (na := na2) (ca := ca2) (As := As2) (ns := ns2) (cs := cs2) (Ah := Ah2) (nh := nh2) (ch := ch2) (Af := Af2) (nf := nf2) (cf := cf2) hX2 XB
      have hV := by_set (Aq := Aq2) (nq := nq2) (cq := cq2) (Aa := Aa2) (na := na2) (ca := ca2) (As := As2) (ns := ns2) (cs := cs2) (Ah := Ah2) (nh := nh2) (ch := ch2) (Af := Af2) (nf := nf2) (cf := cf2) hV XB
      have hB := (((((hB.setCell (p := ⟨w.heap.size, 0, none⟩) (by simp <;> omega) (.slice Aq2 nq2 cq2)).setCell (p := ⟨w.heap.size, 1, none⟩) (by simp <;> omega) (.slice Aa2 na2 ca2)).setCell (p := ⟨w.heap.size, 2, none⟩) (by simp <;> omega) (.slice As2 ns2 cs2)).setCell (p := ⟨w.heap.size, 3, none⟩) (by simp <;> omega) (.slice Ah2 nh2 ch2)).setCell (p := ⟨w.heap.size, 4, none⟩) (by simp <;> omega) (.slice Af2 nf2 cf2))
      have XR := (((((XR.other (a := ⟨w.heap.size, 0, none⟩) (by simp <;> omega) (.slice Aq2 nq2 cq2)).other (a := ⟨w.heap.size, 1, none⟩) (by simp <;> omega) (.slice Aa2 na2 ca2)).other (a := ⟨w.heap.size, 2, none⟩) (by simp <;> omega) (.slice As2 ns2 cs2)).other (a := ⟨w.heap.size, 3, none⟩) (by simp <;> omega) (.slice Ah2 nh2 ch2)).other (a := ⟨w.heap.size, 4, none⟩) (by simp <;> omega) (.slice Af2 nf2 cf2))
      have XB := (((((XB.set 0 (.slice Aq2 nq2 cq2)).set 1 (.slice Aa2 na2 ca2)).set 2 (.slice As2 ns2 cs2)).set 3 (.slice Ah2 nh2 ch2)).set 4 (.slice Af2 nf2 cf2))
      clear XBc0 XBf0 XBc1 XBf1 XBc2 XBf2 XBc3 XBf3 XBc4 XBf4 XBz
      generalize (((((w5.setCell ⟨w.heap.size, 0, none⟩ (.slice Aq2 nq2 cq2)).setCell ⟨w.heap.size, 1, none⟩ (.slice Aa2 na2 ca2)).setCell ⟨w.heap.size, 2, none⟩ (.slice As2 ns2 cs2)).setCell ⟨w.heap.size, 3, none⟩ (.slice Ah2 nh2 ch2)).setCell ⟨w.heap.size, 4, none⟩ (.slice Af2 nf2 cf2)) = w9 at hX hV hB XR XB ⊢
      simp only [List.set_cons_zero, List.set_cons_succ] at XB
      exact ⟨⟨k + 1, y, Aq2, nq2, cq2, Aa2, na2, ca2, As2, ns2, cs2, Ah2, nh2, ch2, Af2, nf2, cf2, by omega, by go_num, hF2, by omega, hB, XB, XR, hX, hV⟩, by simp [intOf]; omega⟩
    · have hlm2 : ¬ (k : Int) < (nt : Int) := by omega
      have hatl : 0 < nq1 := hq1
      have XBc0 : wo.cell? ⟨w.heap.size, 0, none⟩ = some (.slice Aq1 nq1 cq1) := XB.cell 0
      have XBf0 : wo.frozen? ⟨w.heap.size, 0, none⟩ = false := XB.free 0
      have XBc1 : wo.cell? ⟨w.heap.size, 1, none⟩ = some (.slice Aa1 na1 ca1) := XB.cell 1
      have XBf1 : wo.frozen? ⟨w.heap.size, 1, none⟩ = false := XB.free 1
      have XBc2 : wo.cell? ⟨w.heap.size, 2, none⟩ = some (.slice As1 ns1 cs1) := XB.cell 2
      have XBf2 : wo.frozen? ⟨w.heap.size, 2, none⟩ = false := XB.free 2
      have XBc3 : wo.cell? ⟨w.heap.size, 3, none⟩ = some (.slice Ah1 nh1 ch1) := XB.cell 3
      have XBf3 : wo.frozen? ⟨w.heap.size, 3, none⟩ = false := XB.free 3
      have XBc4 : wo.cell? ⟨w.heap.size, 4, none⟩ = some (.slice Af1 nf1 cf1) := XB.cell 4
      have XBf4 : wo.frozen? ⟨w.heap.size, 4, none⟩ = false := XB.free 4
      have XBz : w.heap.size < wo.heap.size := XB.lt
      obtain ⟨y, is, hd, hfl, hyl⟩ := flow_deliver hF.out.ok (k := 0) (by omega)
      have hF2 := Lib.hid (hF.out.trans hfl)
      have hd := Lib.hid hd
      clear hfl
      go_upto_region 8 with fail
      go_wp2_with fail
      clear XBc0 XBf0 XBc1 XBf1 XBc2 XBf2 XBc3 XBf3 XBc4 XBf4 XBz
      refine (oDeliver_is x 0 hX hd).mono ?_
      rintro e w4 hh
      obtain ⟨Aq2, nq2, cq2, Aa2, na2, ca2, As2, ns2, cs2, Ah2, nh2, ch2, Af2, nf2, cf2, rfl, hX2, hb⟩ := hh.sl
      have hX := hid_bx hX hb
      have hV := hid_by hV hb
      have XB := XB.later hb
      have XR := XR.later hb
      have hB := hB.trans (hb.mono hB.size)
      clear hb
      have XBc0 : w4.cell? ⟨w.heap.size, 0, none⟩ = some (.slice Aq1 nq1 cq1) := XB.cell 0
      have XBf0 : w4.frozen? ⟨w.heap.size, 0, none⟩ = false := XB.free 0
      have XBc1 : w4.cell? ⟨w.heap.size, 1, none⟩ = some (.slice Aa1 na1 ca1) := XB.cell 1
      have XBf1 : w4.frozen? ⟨w.heap.size, 1, none⟩ = false := XB.free 1
      have XBc2 : w4.cell? ⟨w.heap.size, 2, none⟩ = some (.slice As1 ns1 cs1) := XB.cell 2
      have XBf2 : w4.frozen? ⟨w.heap.size, 2, none⟩ = false := XB.free 2
      have XBc3 : w4.cell? ⟨w.heap.size, 3, none⟩ = some (.slice Ah1 nh1 ch1) := XB.cell 3
      have XBf3 : w4.frozen? ⟨w.heap.size, 3, none⟩ = false := XB.free 3
      have XBc4 : w4.cell? ⟨w.heap.size, 4, none⟩ = some (.slice Af1 nf1 cf1) := XB.cell 4
      have XBf4 : w4.frozen? ⟨w.heap.size, 4, none⟩ = false := XB.free 4
      have XBz : w.heap.size < w4.heap.size := XB.lt
      go_upto_region 9 with fail
      clear XBc0 XBf0 XBc1 XBf1 XBc2 XBf2 XBc3 XBf3 XBc4 XBf4 XBz
      have hb := (Below.refl w4.heap.size w4).alloc (Nat.le_refl _) (.cells #[.slice Aq2 nq2 cq2, .slice Aa2 na2 ca2, .slice As2 ns2 cs2, .slice Ah2 nh2 ch2, .slice Af2 nf2 cf2] 30)
      have X9 := Box.new w4 [.slice Aq2 nq2 cq2, .slice Aa2 na2 ca2, .slice As2 ns2 cs2, .slice Ah2 nh2 ch2, .slice Af2 nf2 cf2] 30
      have hX2 := hid_bx hX2 hb
      have hV := hid_by hV hb
      have XB := XB.later hb
      have XR := XR.later hb
      have hle := hB.size
      have hB := hB.trans (hb.mono hB.size)
      clear hb
      generalize w4.alloc (.cells #[.slice Aq2 nq2 cq2, .slice Aa2 na2 ca2, .slice As2 ns2 cs2, .slice Ah2 nh2 ch2, .slice Af2 nf2 cf2] 30) = w5 at hX2 hV XB XR X9 hB ⊢
      generalize w4.heap.size = G at X9 hle ⊢
      obtain ⟨j2, -, -, -, -, j3, -⟩ := hX2.out.lens
      have hl2 : ¬ ((nq1 : Int) ≤ (nq2 : Int)) := by omega
      have X9c0 : w5.cell? ⟨G, 0, none⟩ = some (.slice Aq2 nq2 cq2) := X9.cell 0
      have X9c1 : w5.cell? ⟨G, 1, none⟩ = some (.slice Aa2 na2 ca2) := X9.cell 1
      have X9c2 : w5.cell? ⟨G, 2, none⟩ = some (.slice As2 ns2 cs2) := X9.cell 2
      have X9c3 : w5.cell? ⟨G, 3, none⟩ = some (.slice Ah2 nh2 ch2) := X9.cell 3
      have X9c4 : w5.cell? ⟨G, 4, none⟩ = some (.slice Af2 nf2 cf2) := X9.cell 4
      have XBc0 : w5.cell? ⟨w.heap.size, 0, none⟩ = some (.slice Aq1 nq1 cq1) := XB.cell 0
      have XBf0 : w5.frozen? ⟨w.heap.size, 0, none⟩ = false := XB.free 0
      have XBc1 : w5.cell? ⟨w.heap.size, 1, none⟩ = some (.slice Aa1 na1 ca1) := XB.cell 1
      have XBf1 : w5.frozen? ⟨w.heap.size, 1, none⟩ = false := XB.free 1
      have XBc2 : w5.cell? ⟨w.heap.size, 2, none⟩ = some (.slice As1 ns1 cs1) := XB.cell 2
      have XBf2 : w5.frozen? ⟨w.heap.size, 2, none⟩ = false := XB.free 2
      have XBc3 : w5.cell? ⟨w.heap.size, 3, none⟩ = some (.slice Ah1 nh1 ch1) := XB.cell 3
      have XBf3 : w5.frozen? ⟨w.heap.size, 3, none⟩ = false := XB.free 3
      have XBc4 : w5.cell? ⟨w.heap.size, 4, none⟩ = some (.slice Af1 nf1 cf1) := XB.cell 4
      have XBf4 : w5.frozen? ⟨w.heap.size, 4, none⟩ = false := XB.free 4
      have XBz : w.heap.size < w5.heap.size := XB.lt
      have z9 := X9.lt
      go_wp2
      have hX := bx_set (Aq := Aq2) (nq := nq2) (cq := cq2) (Aa := Aa2) (na := na2) (ca := ca2) (As := As2) (ns := ns2) (cs := cs2) (Ah := Ah2) (nh := nh2) (ch := ch2) (Af := Af2) (nf := nf2) (cf := cf2) hX2 XB
      have hV := by_set (Aq := Aq2) (nq := nq2) (cq := cq2) (Aa := Aa2) (na := na2) (ca := ca2) (As := As2) (ns := ns2) (cs := cs2) (Ah := Ah2) (nh := nh2) (ch := ch2) (Af := Af2) (nf := nf2) (cf := cf2) hV XB
      have hB := (((((hB.setCell (p := ⟨w.heap.size, 0, none⟩) (by simp <;> omega) (.slice Aq2 nq2 cq2)).setCell (p := ⟨w.heap.size, 1, none⟩) (by simp <;> omega) (.slice Aa2 na2 ca2)).setCell (p := ⟨w.heap.size, 2, none⟩) (by simp <;> omega) (.slice As2 ns2 cs2)).setCell (p := ⟨w.heap.size, 3, none⟩) (by simp <;> omega) (.slice Ah2 nh2 ch2)).setCell (p := ⟨w.heap.size, 4, none⟩) (by simp <;> omega) (.slice Af2 nf2 cf2))
      have XR := (((((XR.other (a := ⟨w.heap.size, 0, none⟩) (by simp <;> omega) (.slice Aq2 nq2 cq2)).other (a := ⟨w.heap.size, 1, none⟩) (by simp <;> omega) (.slice Aa2 na2 ca2)).other (a := ⟨w.heap.size, 2, none⟩) (by simp <;> omega) (.slice As2 ns2 cs2)).other (a := ⟨w.heap.size, 3, none⟩) (by simp <;> omega) (.slice Ah2 nh2 ch2)).other (a := ⟨w.heap.size, 4, none⟩) (by simp <;> omega) (.slice Af2 nf2 cf2))
      have XB := (((((XB.set 0 (.slice Aq2 nq2 cq2)).set 1 (.slice Aa2 na2 ca2)).set 2 (.slice As2 ns2 cs2)).set 3 (.slice Ah2 nh2 ch2)).set 4 (.slice Af2 nf2 cf2))
      clear XBc0 XBf0 XBc1 XBf1 XBc2 XBf2 XBc3 XBf3 XBc4 XBf4 XBz
      generalize (((((w5.setCell ⟨w.heap.size, 0, none⟩ (.slice Aq2 nq2 cq2)).setCell ⟨w.heap.size, 1, none⟩ (.slice Aa2 na2 ca2)).setCell ⟨w.heap.size, 2, none⟩ (.slice As2 ns2 cs2)).setCell ⟨w.heap.size, 3, none⟩ (.slice Ah2 nh2 ch2)).setCell ⟨w.heap.size, 4, none⟩ (.slice Af2 nf2 cf2)) = w9 at hX hV hB XR XB ⊢
      simp only [List.set_cons_zero, List.set_cons_succ] at XB
      exact ⟨⟨k + 1, y, Aq2, nq2, cq2, Aa2, na2, ca2, As2, ns2, cs2, Ah2, nh2, ch2, Af2, nf2, cf2, by omega, by go_num, hF2, by omega, hB, XB, XR, hX, hV⟩, by simp [intOf]; omega⟩
end Go.Proofs.Ytmbifmmkccghfaa
