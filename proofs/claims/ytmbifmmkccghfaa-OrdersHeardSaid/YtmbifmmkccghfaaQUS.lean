/- The examples of chapter 34 hold. (Printed by gen_us.py.) No condition. -/
import Derived.Test.YtmbifmmkccghfaaQKO
import Derived.Test.YtmbifmmkccghfaaQVD
set_option linter.unusedVariables false
set_option linter.unusedSimpArgs false
namespace Go.Proofs.Ytmbifmmkccghfaa
open Go.RowKit

def owA : Bx := ⟨Net.zero, [], [0, 0], [false, false]⟩
def owX : Bx := ⟨⟨[⟨0, 2, msgB 0 5⟩], []⟩, [(1, 5)], [0, 0], [false, false]⟩
def owY : Bx := ⟨⟨[⟨0, 2, msgB 0 5⟩, ⟨0, 2, msgB 1 3⟩], []⟩, [(1, 5), (1, 3)], [0, 0], [false, false]⟩
def owD : Bx := ⟨⟨[⟨0, 2, msgB 0 5⟩], []⟩, [(1, 5), (1, 3)], [0, 2], [false, true]⟩
def owE : Bx := ⟨⟨[], []⟩, [(1, 5), (1, 3)], [0, 2], [false, true]⟩
def owT : Bx := ⟨⟨[], []⟩, [(1, 5), (1, 3)], [0, 2], [false, false]⟩
theorem ov1 : newB 2 = (owA, 0) := by kernel_rfl
theorem ov2 : newB 9 = (Bx.zero, 1) := by kernel_rfl
theorem ov3 : owA.sendT 2 0 = (Bx.zero, 1) := by kernel_rfl
theorem ov4 : owA.sendT 0 8 = (Bx.zero, 1) := by kernel_rfl
theorem ov5 : owA.deliverT 0 = (Bx.zero, false, 1) := by kernel_rfl
theorem ov6 : owA.checkT = 0 := by kernel_rfl
theorem ov7 : Bx.zero.checkT = 340 := by kernel_rfl
theorem ov8 : owA.sendT 1 5 = (owX, 0) := by kernel_rfl
theorem ov9 : owX.sendT 1 3 = (owY, 0) := by kernel_rfl
theorem ov10 : owY.deliverT 1 = (owD, true, 0) := by kernel_rfl
theorem ov11 : owD.deliverT 0 = (owE, false, 0) := by kernel_rfl
theorem ov12 : owE.tickT = (owT, [-1, 3], 0) := by kernel_rfl
theorem ov13 : owT.tickT = (owT, [-1, -1], 0) := by kernel_rfl
set_option maxRecDepth 100000 in
set_option maxHeartbeats 4000000 in
theorem oSaneV_any (w : World) : Calls Try.prog 8 #[] w fun e w' => e = .returned (.bool true) ∧ Below w.heap.size w w' := by
  have hB := Below.refl w.heap.size w
  go_enter Try.func8, Try.ntmps8
  go_wp2_with fail
  refine (oNew_any 2 _ (T := (owA, 0)) (Lib.hid ov1)).mono ?_
  rintro e w1 hh
  obtain ⟨Aq1, nq1, cq1, Aa1, na1, ca1, As1, ns1, cs1, Ah1, nh1, ch1, Af1, nf1, cf1, rfl, hX1, hb⟩ := hh.sl
  have hB := hB.trans (hb.mono hB.size)
  clear hb
  go_wp2_with fail
  have hst := ((Below.refl w1.heap.size w1).alloc (by simp <;> omega) (.cells #[.slice Aq1 nq1 cq1, .slice Aa1 na1 ca1, .slice As1 ns1 cs1, .slice Ah1 nh1 ch1, .slice Af1 nf1 cf1] 30))
  have hBo := hB
  have hX1 := hid_bx hX1 hst
  have hB := hB.trans (hst.mono hB.size)
  have X1 := (Box.newAt (w := w1) (n := w1.heap.size) [.slice Aq1 nq1 cq1, .slice Aa1 na1 ca1, .slice As1 ns1 cs1, .slice Ah1 nh1 ch1, .slice Af1 nf1 cf1] 30 (by simp))
  clear hst
  generalize (w1.alloc (.cells #[.slice Aq1 nq1 cq1, .slice Aa1 na1 ca1, .slice As1 ns1 cs1, .slice Ah1 nh1 ch1, .slice Af1 nf1 cf1] 30)) = w2 at hB  X1 hX1 ⊢
  generalize w1.heap.size = X1a at X1 ⊢
  refine (oNew_any 9 _ (T := (Bx.zero, 1)) (Lib.hid ov2)).mono ?_
  rintro e w3 hh
  obtain ⟨Aq2, nq2, cq2, Aa2, na2, ca2, As2, ns2, cs2, Ah2, nh2, ch2, Af2, nf2, cf2, rfl, hX2, hb⟩ := hh.sl
  have X1 := X1.later hb
  have hX1 := hid_bx hX1 hb
  have hB := hB.trans (hb.mono hB.size)
  clear hb
  have X1c0 : w3.cell? ⟨X1a, 0, none⟩ = some (.slice Aq1 nq1 cq1) := X1.cell 0
  have X1c1 : w3.cell? ⟨X1a, 1, none⟩ = some (.slice Aa1 na1 ca1) := X1.cell 1
  have X1c2 : w3.cell? ⟨X1a, 2, none⟩ = some (.slice As1 ns1 cs1) := X1.cell 2
  have X1c3 : w3.cell? ⟨X1a, 3, none⟩ = some (.slice Ah1 nh1 ch1) := X1.cell 3
  have X1c4 : w3.cell? ⟨X1a, 4, none⟩ = some (.slice Af1 nf1 cf1) := X1.cell 4
  have X1z : X1a < w3.heap.size := X1.lt
  go_wp2_with fail
  clear X1c0 X1c1 X1c2 X1c3 X1c4 X1z
  have hst := ((Below.refl w3.heap.size w3).alloc (by simp <;> omega) (.cells #[.slice Aq2 nq2 cq2, .slice Aa2 na2 ca2, .slice As2 ns2 cs2, .slice Ah2 nh2 ch2, .slice Af2 nf2 cf2] 30))
  have hBo := hB
  have X1o := X1
  have X1 := X1.later hst
  have hX1 := hid_bx hX1 hst
  have hB := hB.trans (hst.mono hB.size)
  have X2 := (Box.newAt (w := w3) (n := w3.heap.size) [.slice Aq2 nq2 cq2, .slice Aa2 na2 ca2, .slice As2 ns2 cs2, .slice Ah2 nh2 ch2, .slice Af2 nf2 cf2] 30 (by simp))
  clear hst
  generalize (w3.alloc (.cells #[.slice Aq2 nq2 cq2, .slice Aa2 na2 ca2, .slice As2 ns2 cs2, .slice Ah2 nh2 ch2, .slice Af2 nf2 cf2] 30)) = w4 at hB X1 X2 hX1 ⊢
  generalize w3.heap.size = X2a at X2 ⊢
  refine (oSendV_is owA 2 0 hX1 (T := (Bx.zero, 1)) (Lib.hid ov3)).mono ?_
  rintro e w5 hh
  obtain ⟨Aq3, nq3, cq3, Aa3, na3, ca3, As3, ns3, cs3, Ah3, nh3, ch3, Af3, nf3, cf3, rfl, hX3, hb, -⟩ := hh.sl1
  have X1 := X1.later hb
  have X2 := X2.later hb
  have hX1 := hid_bx hX1 hb
  have hB := hB.trans (hb.mono hB.size)
  clear hb
  clear X2
  have X1c0 : w5.cell? ⟨X1a, 0, none⟩ = some (.slice Aq1 nq1 cq1) := X1.cell 0
  have X1c1 : w5.cell? ⟨X1a, 1, none⟩ = some (.slice Aa1 na1 ca1) := X1.cell 1
  have X1c2 : w5.cell? ⟨X1a, 2, none⟩ = some (.slice As1 ns1 cs1) := X1.cell 2
  have X1c3 : w5.cell? ⟨X1a, 3, none⟩ = some (.slice Ah1 nh1 ch1) := X1.cell 3
  have X1c4 : w5.cell? ⟨X1a, 4, none⟩ = some (.slice Af1 nf1 cf1) := X1.cell 4
  have X1z : X1a < w5.heap.size := X1.lt
  go_wp2_with fail
  clear X1c0 X1c1 X1c2 X1c3 X1c4 X1z
  have hst := ((Below.refl w5.heap.size w5).alloc (by simp <;> omega) (.cells #[.slice Aq3 nq3 cq3, .slice Aa3 na3 ca3, .slice As3 ns3 cs3, .slice Ah3 nh3 ch3, .slice Af3 nf3 cf3] 30))
  have hBo := hB
  have X1o := X1
  have X1 := X1.later hst
  have hX1 := hid_bx hX1 hst
  have hB := hB.trans (hst.mono hB.size)
  have X3 := (Box.newAt (w := w5) (n := w5.heap.size) [.slice Aq3 nq3 cq3, .slice Aa3 na3 ca3, .slice As3 ns3 cs3, .slice Ah3 nh3 ch3, .slice Af3 nf3 cf3] 30 (by simp))
  clear hst
  generalize (w5.alloc (.cells #[.slice Aq3 nq3 cq3, .slice Aa3 na3 ca3, .slice As3 ns3 cs3, .slice Ah3 nh3 ch3, .slice Af3 nf3 cf3] 30)) = w6 at hB X1 X3 hX1 ⊢
  generalize w5.heap.size = X3a at X3 ⊢
  refine (oSendV_is owA 0 8 hX1 (T := (Bx.zero, 1)) (Lib.hid ov4)).mono ?_
  rintro e w7 hh
  obtain ⟨Aq4, nq4, cq4, Aa4, na4, ca4, As4, ns4, cs4, Ah4, nh4, ch4, Af4, nf4, cf4, rfl, hX4, hb, -⟩ := hh.sl1
  have X1 := X1.later hb
  have X3 := X3.later hb
  have hX1 := hid_bx hX1 hb
  have hB := hB.trans (hb.mono hB.size)
  clear hb
  clear X3
  have X1c0 : w7.cell? ⟨X1a, 0, none⟩ = some (.slice Aq1 nq1 cq1) := X1.cell 0
  have X1c1 : w7.cell? ⟨X1a, 1, none⟩ = some (.slice Aa1 na1 ca1) := X1.cell 1
  have X1c2 : w7.cell? ⟨X1a, 2, none⟩ = some (.slice As1 ns1 cs1) := X1.cell 2
  have X1c3 : w7.cell? ⟨X1a, 3, none⟩ = some (.slice Ah1 nh1 ch1) := X1.cell 3
  have X1c4 : w7.cell? ⟨X1a, 4, none⟩ = some (.slice Af1 nf1 cf1) := X1.cell 4
  have X1z : X1a < w7.heap.size := X1.lt
  go_wp2_with fail
  clear X1c0 X1c1 X1c2 X1c3 X1c4 X1z
  have hst := ((Below.refl w7.heap.size w7).alloc (by simp <;> omega) (.cells #[.slice Aq4 nq4 cq4, .slice Aa4 na4 ca4, .slice As4 ns4 cs4, .slice Ah4 nh4 ch4, .slice Af4 nf4 cf4] 30))
  have hBo := hB
  have X1o := X1
  have X1 := X1.later hst
  have hX1 := hid_bx hX1 hst
  have hB := hB.trans (hst.mono hB.size)
  have X4 := (Box.newAt (w := w7) (n := w7.heap.size) [.slice Aq4 nq4 cq4, .slice Aa4 na4 ca4, .slice As4 ns4 cs4, .slice Ah4 nh4 ch4, .slice Af4 nf4 cf4] 30 (by simp))
  clear hst
  generalize (w7.alloc (.cells #[.slice Aq4 nq4 cq4, .slice Aa4 na4 ca4, .slice As4 ns4 cs4, .slice Ah4 nh4 ch4, .slice Af4 nf4 cf4] 30)) = w8 at hB X1 X4 hX1 ⊢
  generalize w7.heap.size = X4a at X4 ⊢
  refine (oDeliverV_is owA 0 hX1 (T := (Bx.zero, false, 1)) (Lib.hid ov5)).mono ?_
  rintro e w9 hh
  obtain ⟨Aq5, nq5, cq5, Aa5, na5, ca5, As5, ns5, cs5, Ah5, nh5, ch5, Af5, nf5, cf5, rfl, hX5, hb, -⟩ := hh.sl
  have X1 := X1.later hb
  have X4 := X4.later hb
  have hX1 := hid_bx hX1 hb
  have hB := hB.trans (hb.mono hB.size)
  clear hb
  clear X4
  have X1c0 : w9.cell? ⟨X1a, 0, none⟩ = some (.slice Aq1 nq1 cq1) := X1.cell 0
  have X1c1 : w9.cell? ⟨X1a, 1, none⟩ = some (.slice Aa1 na1 ca1) := X1.cell 1
  have X1c2 : w9.cell? ⟨X1a, 2, none⟩ = some (.slice As1 ns1 cs1) := X1.cell 2
  have X1c3 : w9.cell? ⟨X1a, 3, none⟩ = some (.slice Ah1 nh1 ch1) := X1.cell 3
  have X1c4 : w9.cell? ⟨X1a, 4, none⟩ = some (.slice Af1 nf1 cf1) := X1.cell 4
  have X1z : X1a < w9.heap.size := X1.lt
  go_wp2_with fail
  clear X1c0 X1c1 X1c2 X1c3 X1c4 X1z
  have hst := ((Below.refl w9.heap.size w9).alloc (by simp <;> omega) (.cells #[.slice Aq5 nq5 cq5, .slice Aa5 na5 ca5, .slice As5 ns5 cs5, .slice Ah5 nh5 ch5, .slice Af5 nf5 cf5] 30))
  have hBo := hB
  have X1o := X1
  have X1 := X1.later hst
  have hX1 := hid_bx hX1 hst
  have hB := hB.trans (hst.mono hB.size)
  have X5 := (Box.newAt (w := w9) (n := w9.heap.size) [.slice Aq5 nq5 cq5, .slice Aa5 na5 ca5, .slice As5 ns5 cs5, .slice Ah5 nh5 ch5, .slice Af5 nf5 cf5] 30 (by simp))
  clear hst
  generalize (w9.alloc (.cells #[.slice Aq5 nq5 cq5, .slice Aa5 na5 ca5, .slice As5 ns5 cs5, .slice Ah5 nh5 ch5, .slice Af5 nf5 cf5] 30)) = w10 at hB X1 X5 hX1 ⊢
  generalize w9.heap.size = X5a at X5 ⊢
  refine (oCheck_is (Lib.hid ov6) hX1.out).mono ?_
  rintro e w11 ⟨rfl, hb⟩
  have X1 := X1.later hb
  have X5 := X5.later hb
  have hX1 := hid_bx hX1 hb
  have hB := hB.trans (hb.mono hB.size)
  clear hb
  clear X5
  have X1c0 : w11.cell? ⟨X1a, 0, none⟩ = some (.slice Aq1 nq1 cq1) := X1.cell 0
  have X1c1 : w11.cell? ⟨X1a, 1, none⟩ = some (.slice Aa1 na1 ca1) := X1.cell 1
  have X1c2 : w11.cell? ⟨X1a, 2, none⟩ = some (.slice As1 ns1 cs1) := X1.cell 2
  have X1c3 : w11.cell? ⟨X1a, 3, none⟩ = some (.slice Ah1 nh1 ch1) := X1.cell 3
  have X1c4 : w11.cell? ⟨X1a, 4, none⟩ = some (.slice Af1 nf1 cf1) := X1.cell 4
  have X1z : X1a < w11.heap.size := X1.lt
  go_wp2_with fail
  clear X1c0 X1c1 X1c2 X1c3 X1c4 X1z
  refine (oCheck_is (Lib.hid ov7) (bxAt_zero _ _)).mono ?_
  rintro e w12 ⟨rfl, hb⟩
  have X1 := X1.later hb
  have hX1 := hid_bx hX1 hb
  have hB := hB.trans (hb.mono hB.size)
  clear hb
  have X1c0 : w12.cell? ⟨X1a, 0, none⟩ = some (.slice Aq1 nq1 cq1) := X1.cell 0
  have X1c1 : w12.cell? ⟨X1a, 1, none⟩ = some (.slice Aa1 na1 ca1) := X1.cell 1
  have X1c2 : w12.cell? ⟨X1a, 2, none⟩ = some (.slice As1 ns1 cs1) := X1.cell 2
  have X1c3 : w12.cell? ⟨X1a, 3, none⟩ = some (.slice Ah1 nh1 ch1) := X1.cell 3
  have X1c4 : w12.cell? ⟨X1a, 4, none⟩ = some (.slice Af1 nf1 cf1) := X1.cell 4
  have X1z : X1a < w12.heap.size := X1.lt
  go_wp2_with fail
  clear X1c0 X1c1 X1c2 X1c3 X1c4 X1z
  refine (oSendV_is owA 1 5 hX1 (T := (owX, 0)) (Lib.hid ov8)).mono ?_
  rintro e w13 hh
  obtain ⟨Aq6, nq6, cq6, Aa6, na6, ca6, As6, ns6, cs6, Ah6, nh6, ch6, Af6, nf6, cf6, rfl, hX6, hb, -⟩ := hh.sl1
  have X1 := X1.later hb
  have hX1 := hid_bx hX1 hb
  have hB := hB.trans (hb.mono hB.size)
  clear hb
  clear X1 hX1
  go_wp2_with fail
  have hst := ((Below.refl w13.heap.size w13).alloc (by simp <;> omega) (.cells #[.slice Aq6 nq6 cq6, .slice Aa6 na6 ca6, .slice As6 ns6 cs6, .slice Ah6 nh6 ch6, .slice Af6 nf6 cf6] 30))
  have hBo := hB
  have hX6 := hid_bx hX6 hst
  have hB := hB.trans (hst.mono hB.size)
  have X6 := (Box.newAt (w := w13) (n := w13.heap.size) [.slice Aq6 nq6 cq6, .slice Aa6 na6 ca6, .slice As6 ns6 cs6, .slice Ah6 nh6 ch6, .slice Af6 nf6 cf6] 30 (by simp))
  clear hst
  generalize (w13.alloc (.cells #[.slice Aq6 nq6 cq6, .slice Aa6 na6 ca6, .slice As6 ns6 cs6, .slice Ah6 nh6 ch6, .slice Af6 nf6 cf6] 30)) = w14 at hB  X6 hX6 ⊢
  generalize w13.heap.size = X6a at X6 ⊢
  refine (oSendV_is owX 1 3 hX6 (T := (owY, 0)) (Lib.hid ov9)).mono ?_
  rintro e w15 hh
  obtain ⟨Aq7, nq7, cq7, Aa7, na7, ca7, As7, ns7, cs7, Ah7, nh7, ch7, Af7, nf7, cf7, rfl, hX7, hb, -⟩ := hh.sl1
  have X6 := X6.later hb
  have hX6 := hid_bx hX6 hb
  have hB := hB.trans (hb.mono hB.size)
  clear hb
  clear X6 hX6
  go_wp2_with fail
  have hst := ((Below.refl w15.heap.size w15).alloc (by simp <;> omega) (.cells #[.slice Aq7 nq7 cq7, .slice Aa7 na7 ca7, .slice As7 ns7 cs7, .slice Ah7 nh7 ch7, .slice Af7 nf7 cf7] 30))
  have hBo := hB
  have hX7 := hid_bx hX7 hst
  have hB := hB.trans (hst.mono hB.size)
  have X7 := (Box.newAt (w := w15) (n := w15.heap.size) [.slice Aq7 nq7 cq7, .slice Aa7 na7 ca7, .slice As7 ns7 cs7, .slice Ah7 nh7 ch7, .slice Af7 nf7 cf7] 30 (by simp))
  have gX7 : w.heap.size ≤ w15.heap.size := by have := hBo.size; omega
  clear hst
  generalize (w15.alloc (.cells #[.slice Aq7 nq7 cq7, .slice Aa7 na7 ca7, .slice As7 ns7 cs7, .slice Ah7 nh7 ch7, .slice Af7 nf7 cf7] 30)) = w16 at hB  X7 hX7 ⊢
  generalize w15.heap.size = X7a at X7 gX7 ⊢
  refine (oDeliverV_is owY 1 hX7 (T := (owD, true, 0)) (Lib.hid ov10)).mono ?_
  rintro e w17 hh
  obtain ⟨Aq8, nq8, cq8, Aa8, na8, ca8, As8, ns8, cs8, Ah8, nh8, ch8, Af8, nf8, cf8, rfl, hX8, hb, -⟩ := hh.sl
  have X7 := X7.later hb
  have hX7 := hid_bx hX7 hb
  have hB := hB.trans (hb.mono hB.size)
  clear hb
  clear hX7
  have X7f0 : w17.frozen? ⟨X7a, 0, none⟩ = false := X7.free 0
  have X7f1 : w17.frozen? ⟨X7a, 1, none⟩ = false := X7.free 1
  have X7f2 : w17.frozen? ⟨X7a, 2, none⟩ = false := X7.free 2
  have X7f3 : w17.frozen? ⟨X7a, 3, none⟩ = false := X7.free 3
  have X7f4 : w17.frozen? ⟨X7a, 4, none⟩ = false := X7.free 4
  have X7c0 : w17.cell? ⟨X7a, 0, none⟩ = some (.slice Aq7 nq7 cq7) := X7.cell 0
  have X7c1 : w17.cell? ⟨X7a, 1, none⟩ = some (.slice Aa7 na7 ca7) := X7.cell 1
  have X7c2 : w17.cell? ⟨X7a, 2, none⟩ = some (.slice As7 ns7 cs7) := X7.cell 2
  have X7c3 : w17.cell? ⟨X7a, 3, none⟩ = some (.slice Ah7 nh7 ch7) := X7.cell 3
  have X7c4 : w17.cell? ⟨X7a, 4, none⟩ = some (.slice Af7 nf7 cf7) := X7.cell 4
  have X7z : X7a < w17.heap.size := X7.lt
  go_wp2_with fail
  clear X7c0 X7f0 X7c1 X7f1 X7c2 X7f2 X7c3 X7f3 X7c4 X7f4 X7z
  have hX8 := bx_set (Aq := Aq8) (nq := nq8) (cq := cq8) (Aa := Aa8) (na := na8) (ca := ca8) (As := As8) (ns := ns8) (cs := cs8) (Ah := Ah8) (nh := nh8) (ch := ch8) (Af := Af8) (nf := nf8) (cf := cf8) hX8 X7
  have hB := (((((hB.setCell (p := ⟨X7a, 0, none⟩) gX7 (.slice Aq8 nq8 cq8)).setCell (p := ⟨X7a, 1, none⟩) gX7 (.slice Aa8 na8 ca8)).setCell (p := ⟨X7a, 2, none⟩) gX7 (.slice As8 ns8 cs8)).setCell (p := ⟨X7a, 3, none⟩) gX7 (.slice Ah8 nh8 ch8)).setCell (p := ⟨X7a, 4, none⟩) gX7 (.slice Af8 nf8 cf8))
  have X7 := (((((X7.set 0 (.slice Aq8 nq8 cq8)).set 1 (.slice Aa8 na8 ca8)).set 2 (.slice As8 ns8 cs8)).set 3 (.slice Ah8 nh8 ch8)).set 4 (.slice Af8 nf8 cf8))
  simp only [List.set_cons_zero, List.set_cons_succ] at X7
  generalize (((((w17.setCell ⟨X7a, 0, none⟩ (.slice Aq8 nq8 cq8)).setCell ⟨X7a, 1, none⟩ (.slice Aa8 na8 ca8)).setCell ⟨X7a, 2, none⟩ (.slice As8 ns8 cs8)).setCell ⟨X7a, 3, none⟩ (.slice Ah8 nh8 ch8)).setCell ⟨X7a, 4, none⟩ (.slice Af8 nf8 cf8)) = w18 at hB X7 hX8 ⊢
  refine (oDeliverV_is owD 0 hX8 (T := (owE, false, 0)) (Lib.hid ov11)).mono ?_
  rintro e w19 hh
  obtain ⟨Aq9, nq9, cq9, Aa9, na9, ca9, As9, ns9, cs9, Ah9, nh9, ch9, Af9, nf9, cf9, rfl, hX9, hb, -⟩ := hh.sl
  have X7 := X7.later hb
  have hX8 := hid_bx hX8 hb
  have hB := hB.trans (hb.mono hB.size)
  clear hb
  clear hX8
  have X7f0 : w19.frozen? ⟨X7a, 0, none⟩ = false := X7.free 0
  have X7f1 : w19.frozen? ⟨X7a, 1, none⟩ = false := X7.free 1
  have X7f2 : w19.frozen? ⟨X7a, 2, none⟩ = false := X7.free 2
  have X7f3 : w19.frozen? ⟨X7a, 3, none⟩ = false := X7.free 3
  have X7f4 : w19.frozen? ⟨X7a, 4, none⟩ = false := X7.free 4
  have X7c0 : w19.cell? ⟨X7a, 0, none⟩ = some (.slice Aq8 nq8 cq8) := X7.cell 0
  have X7c1 : w19.cell? ⟨X7a, 1, none⟩ = some (.slice Aa8 na8 ca8) := X7.cell 1
  have X7c2 : w19.cell? ⟨X7a, 2, none⟩ = some (.slice As8 ns8 cs8) := X7.cell 2
  have X7c3 : w19.cell? ⟨X7a, 3, none⟩ = some (.slice Ah8 nh8 ch8) := X7.cell 3
  have X7c4 : w19.cell? ⟨X7a, 4, none⟩ = some (.slice Af8 nf8 cf8) := X7.cell 4
  have X7z : X7a < w19.heap.size := X7.lt
  go_wp2_with fail
  clear X7c0 X7f0 X7c1 X7f1 X7c2 X7f2 X7c3 X7f3 X7c4 X7f4 X7z
  have hX9 := bx_set (Aq := Aq9) (nq := nq9) (cq := cq9) (Aa := Aa9) (na := na9) (ca := ca9) (As := As9) (ns := ns9) (cs := cs9) (Ah := Ah9) (nh := nh9) (ch := ch9) (Af := Af9) (nf := nf9) (cf := cf9) hX9 X7
  have hB := (((((hB.setCell (p := ⟨X7a, 0, none⟩) gX7 (.slice Aq9 nq9 cq9)).setCell (p := ⟨X7a, 1, none⟩) gX7 (.slice Aa9 na9 ca9)).setCell (p := ⟨X7a, 2, none⟩) gX7 (.slice As9 ns9 cs9)).setCell (p := ⟨X7a, 3, none⟩) gX7 (.slice Ah9 nh9 ch9)).setCell (p := ⟨X7a, 4, none⟩) gX7 (.slice Af9 nf9 cf9))
  have X7 := (((((X7.set 0 (.slice Aq9 nq9 cq9)).set 1 (.slice Aa9 na9 ca9)).set 2 (.slice As9 ns9 cs9)).set 3 (.slice Ah9 nh9 ch9)).set 4 (.slice Af9 nf9 cf9))
  simp only [List.set_cons_zero, List.set_cons_succ] at X7
  generalize (((((w19.setCell ⟨X7a, 0, none⟩ (.slice Aq9 nq9 cq9)).setCell ⟨X7a, 1, none⟩ (.slice Aa9 na9 ca9)).setCell ⟨X7a, 2, none⟩ (.slice As9 ns9 cs9)).setCell ⟨X7a, 3, none⟩ (.slice Ah9 nh9 ch9)).setCell ⟨X7a, 4, none⟩ (.slice Af9 nf9 cf9)) = w20 at hB X7 hX9 ⊢
  refine (oTickV_is owE hX9 (T := (owT, [-1, 3], 0)) (Lib.hid ov12)).mono ?_
  rintro e w21 hh
  obtain ⟨Aq10, nq10, cq10, Aa10, na10, ca10, As10, ns10, cs10, Ah10, nh10, ch10, Af10, nf10, cf10, Al10, nl10, cl10, rfl, hX10, hL10, hb, -⟩ := hh.sl
  have X7 := X7.later hb
  have hX9 := hid_bx hX9 hb
  have hB := hB.trans (hb.mono hB.size)
  clear hb
  clear X7 hX9
  go_wp2_with fail
  have hst := ((Below.refl w21.heap.size w21).alloc (by simp <;> omega) (.cells #[.slice Aq10 nq10 cq10, .slice Aa10 na10 ca10, .slice As10 ns10 cs10, .slice Ah10 nh10 ch10, .slice Af10 nf10 cf10] 30))
  have hBo := hB
  have hX10 := hid_bx hX10 hst
  have hL10 := hid_hd hL10 hst
  have hB := hB.trans (hst.mono hB.size)
  have X10 := (Box.newAt (w := w21) (n := w21.heap.size) [.slice Aq10 nq10 cq10, .slice Aa10 na10 ca10, .slice As10 ns10 cs10, .slice Ah10 nh10 ch10, .slice Af10 nf10 cf10] 30 (by simp))
  clear hst
  generalize (w21.alloc (.cells #[.slice Aq10 nq10 cq10, .slice Aa10 na10 ca10, .slice As10 ns10 cs10, .slice Ah10 nh10 ch10, .slice Af10 nf10 cf10] 30)) = w22 at hB  X10 hX10 hL10 ⊢
  generalize w21.heap.size = X10a at X10 ⊢
  refine (oTickV_is owT hX10 (T := (owT, [-1, -1], 0)) (Lib.hid ov13)).mono ?_
  rintro e w23 hh
  obtain ⟨Aq11, nq11, cq11, Aa11, na11, ca11, As11, ns11, cs11, Ah11, nh11, ch11, Af11, nf11, cf11, Al11, nl11, cl11, rfl, hX11, hL11, hb, -⟩ := hh.sl
  have X10 := X10.later hb
  have hX10 := hid_bx hX10 hb
  have hL10 := hid_hd hL10 hb
  have hB := hB.trans (hb.mono hB.size)
  clear hb
  clear X10 hX10
  go_wp2_with fail
  have hst := (((Below.refl w23.heap.size w23).alloc (by simp <;> omega) (.cells #[.slice Aq11 nq11 cq11, .slice Aa11 na11 ca11, .slice As11 ns11 cs11, .slice Ah11 nh11 ch11, .slice Af11 nf11 cf11] 30)).alloc (by simp <;> omega) (.cells #[.int .i64 (-1), .int .i64 3] 3))
  have hBo := hB
  have hL10 := hid_hd hL10 hst
  have hL11 := hid_hd hL11 hst
  have hB := hB.trans (hst.mono hB.size)
  have X11 := ((Box.newAt (w := w23) (n := w23.heap.size) [.slice Aq11 nq11 cq11, .slice Aa11 na11 ca11, .slice As11 ns11 cs11, .slice Ah11 nh11 ch11, .slice Af11 nf11 cf11] 30 (by simp)).alloc (.cells #[.int .i64 (-1), .int .i64 3] 3))
  have B12 := (Box.newAt (w := (w23.alloc (.cells #[.slice Aq11 nq11 cq11, .slice Aa11 na11 ca11, .slice As11 ns11 cs11, .slice Ah11 nh11 ch11, .slice Af11 nf11 cf11] 30))) (n := w23.heap.size + 1) [.int .i64 (-1), .int .i64 3] 3 (by simp))
  clear hst
  generalize ((w23.alloc (.cells #[.slice Aq11 nq11 cq11, .slice Aa11 na11 ca11, .slice As11 ns11 cs11, .slice Ah11 nh11 ch11, .slice Af11 nf11 cf11] 30)).alloc (.cells #[.int .i64 (-1), .int .i64 3] 3)) = w24 at hB  X11 B12 hL10 hL11 ⊢
  generalize w23.heap.size + 1 = B12a at X11 B12 ⊢
  generalize w23.heap.size = X11a at X11 B12 ⊢
  refine (rSameInts_is hL10 (Lib.hid (box_hd (l := [-1, 3]) B12 (by simp [maxLen]))) (T := true) (Lib.hid (by decide))).mono ?_
  rintro e w25 ⟨rfl, hb⟩
  have X11 := X11.later hb
  have B12 := B12.later hb
  have hL10 := hid_hd hL10 hb
  have hL11 := hid_hd hL11 hb
  have hB := hB.trans (hb.mono hB.size)
  clear hb
  clear B12 X11
  go_wp2_with fail
  have hst := ((Below.refl w25.heap.size w25).alloc (by simp <;> omega) (.cells #[.int .i64 (-1), .int .i64 (-1)] 3))
  have hBo := hB
  have hL10 := hid_hd hL10 hst
  have hL11 := hid_hd hL11 hst
  have hB := hB.trans (hst.mono hB.size)
  have B13 := (Box.newAt (w := w25) (n := w25.heap.size) [.int .i64 (-1), .int .i64 (-1)] 3 (by simp))
  clear hst
  generalize (w25.alloc (.cells #[.int .i64 (-1), .int .i64 (-1)] 3)) = w26 at hB  B13 hL10 hL11 ⊢
  generalize w25.heap.size = B13a at B13 ⊢
  refine (rSameInts_is hL11 (Lib.hid (box_hd (l := [-1, -1]) B13 (by simp [maxLen]))) (T := true) (Lib.hid (by decide))).mono ?_
  rintro e w27 ⟨rfl, hb⟩
  have B13 := B13.later hb
  have hL10 := hid_hd hL10 hb
  have hL11 := hid_hd hL11 hb
  have hB := hB.trans (hb.mono hB.size)
  clear hb
  go_wp2
  go_ret
  exact ⟨by first | rfl | simp, hB⟩
end Go.Proofs.Ytmbifmmkccghfaa
