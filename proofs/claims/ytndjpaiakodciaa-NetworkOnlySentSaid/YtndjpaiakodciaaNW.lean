/-
  The examples of chapter 6 hold. (Printed by gen_nw.py.)
-/
import Derived.Test.YtndjpaiakodciaaNV
namespace Go.Proofs.Ytndjpaiakodciaa
open Go.RowKit
attribute [local go_sem ↓ high] eq_pair

def exP : Pk := ⟨1, 3, [7]⟩
def exA : Net := ⟨[exP], []⟩
def exB : Net := ⟨[exP, exP], []⟩
def exC : Net := ⟨[exP, exP], [(1, 3)]⟩
def exE : Net := ⟨[exP], [(1, 3)]⟩
theorem ex1 : deliverT Net.zero 0 = (Pk.zero, Net.zero, 1) := by kernel_rfl
theorem ex2 : sendT Net.zero ⟨3, 3, []⟩ = (Net.zero, 60) := by kernel_rfl
theorem ex3 : cutT Net.zero 2 2 true = (Net.zero, 1) := by kernel_rfl
theorem ex4 : sendT Net.zero exP = (exA, 0) := by kernel_rfl
theorem ex5 : repeatT exA 0 = (exB, 0) := by kernel_rfl
theorem ex6 : cutT exB 3 1 true = (exC, 0) := by kernel_rfl
theorem ex7 : deliverT exB 0 = (exP, exA, 0) := by kernel_rfl
theorem ex8 : deliverT exC 1 = (Pk.zero, exE, 0) := by kernel_rfl
theorem ex9 : Net.zero.checkT = 0 := by kernel_rfl
theorem bytes_nil (w : World) : Hid (BytesAt w w.heap.size (.slice none 0 0) ([] : List UInt8)) := bytesAt_nil w _
theorem bytes_one {w : World} {b : Nat} {x : UInt8} (h : Box w b [.int .u8 (x.toNat : Int)]) : Hid (BytesAt w w.heap.size (.slice (some ⟨b, 0, none⟩) 1 1) [x]) := by
  refine ⟨_, _, rfl, by simp [maxLen], fun i hi => ⟨b, 0, rfl, h.lt, fun j hj => ?_⟩⟩
  obtain rfl : i = 0 := by simpa using hi
  obtain rfl : j = 0 := by omega
  exact h.cell 0

set_option maxRecDepth 100000 in
set_option maxHeartbeats 4000000 in
theorem nSane_any (w : World) : Calls Try.prog 9 #[] w fun e w' => e = .returned (.bool true) ∧ Below w.heap.size w w' := by
  have hB := Below.refl w.heap.size w
  go_enter Try.func9, Try.ntmps9
  go_wp2_with fail
  refine (nNew_any _).mono ?_
  rintro e w1 ⟨rfl, hb⟩
  have hB := hB.trans (hb.mono hB.size)
  clear hb
  have hN0 : Hid (NetAt w1 w1.heap.size (.slice none 0 0) (.slice none 0 0) Net.zero) := netAt_zero _ _
  go_wp2_with fail
  have hst := ((Below.refl w1.heap.size w1).alloc (by simp <;> omega) (.cells #[.slice none 0 0, .slice none 0 0] 25))
  have hN0 := hid_later hN0 hst
  have hB := hB.trans (hst.mono hB.size)
  have X0 := (Box.newAt (w := w1) (n := w1.heap.size) [.slice none 0 0, .slice none 0 0] 25 (by simp))
  clear hst
  generalize (w1.alloc (.cells #[.slice none 0 0, .slice none 0 0] 25)) = w2 at hB  X0 hN0 ⊢
  generalize w1.heap.size = X0a at X0 ⊢
  refine (nDeliver_is Net.zero 0 hN0).mono ?_
  rintro e w3 hh
  obtain ⟨Ad1, cd1, Aq1, cq1, Aa1, ca1, rfl, hV1, hN1, hb⟩ := RetDel.is hh ex1 (a := 0) (b := 0) (k := 0) rfl rfl rfl
  have X0 := X0.later hb
  have hN0 := hid_later hN0 hb
  have hB := hB.trans (hb.mono hB.size)
  clear hb
  have X0c0 : w3.cell? ⟨X0a, 0, none⟩ = some (.slice none 0 0) := X0.cell 0
  have X0c1 : w3.cell? ⟨X0a, 1, none⟩ = some (.slice none 0 0) := X0.cell 1
  have X0z : X0a < w3.heap.size := X0.lt
  have X0z1 : X0a < w3.heap.size + 1 := by omega
  go_wp2_with fail
  clear X0c0 X0c1 X0z X0z1
  have hst := (((Below.refl w3.heap.size w3).alloc (by simp <;> omega) (.cells #[.int .i64 Pk.zero.src, .int .i64 Pk.zero.dst, .slice Ad1 0 cd1] 28)).alloc (by simp <;> omega) (.cells #[.slice Aq1 0 cq1, .slice Aa1 0 ca1] 25))
  have X0 := X0.later hst
  have hN0 := hid_later hN0 hst
  have hB := hB.trans (hst.mono hB.size)
  have P1 := ((Box.newAt (w := w3) (n := w3.heap.size) [.int .i64 Pk.zero.src, .int .i64 Pk.zero.dst, .slice Ad1 0 cd1] 28 (by simp)).alloc (.cells #[.slice Aq1 0 cq1, .slice Aa1 0 ca1] 25))
  have X1 := (Box.newAt (w := (w3.alloc (.cells #[.int .i64 Pk.zero.src, .int .i64 Pk.zero.dst, .slice Ad1 0 cd1] 28))) (n := w3.heap.size + 1) [.slice Aq1 0 cq1, .slice Aa1 0 ca1] 25 (by simp))
  clear hst
  generalize ((w3.alloc (.cells #[.int .i64 Pk.zero.src, .int .i64 Pk.zero.dst, .slice Ad1 0 cd1] 28)).alloc (.cells #[.slice Aq1 0 cq1, .slice Aa1 0 ca1] 25)) = w4 at hB X0 P1 X1 hN0 ⊢
  generalize w3.heap.size + 1 = X1a at P1 X1 ⊢
  generalize w3.heap.size = P1a at P1 X1 ⊢
  refine (nSend_is Net.zero ⟨3, 3, []⟩ hN0 (bytes_nil _)).mono ?_
  rintro e w5 hh
  obtain ⟨Aq2, cq2, Aa2, ca2, rfl, hN2, hb⟩ := RetNet.is hh ex2 (a := 0) (b := 0) rfl rfl
  have X0 := X0.later hb
  have P1 := P1.later hb
  have X1 := X1.later hb
  have hN0 := hid_later hN0 hb
  have hB := hB.trans (hb.mono hB.size)
  clear hb
  have X0c0 : w5.cell? ⟨X0a, 0, none⟩ = some (.slice none 0 0) := X0.cell 0
  have X0c1 : w5.cell? ⟨X0a, 1, none⟩ = some (.slice none 0 0) := X0.cell 1
  have X0z : X0a < w5.heap.size := X0.lt
  go_wp2_with fail
  clear X0c0 X0c1 X0z
  have hst := ((Below.refl w5.heap.size w5).alloc (by simp <;> omega) (.cells #[.slice Aq2 0 cq2, .slice Aa2 0 ca2] 25))
  have X0 := X0.later hst
  have P1 := P1.later hst
  have X1 := X1.later hst
  have hN0 := hid_later hN0 hst
  have hB := hB.trans (hst.mono hB.size)
  have X2 := (Box.newAt (w := w5) (n := w5.heap.size) [.slice Aq2 0 cq2, .slice Aa2 0 ca2] 25 (by simp))
  clear hst
  generalize (w5.alloc (.cells #[.slice Aq2 0 cq2, .slice Aa2 0 ca2] 25)) = w6 at hB X0 P1 X1 X2 hN0 ⊢
  generalize w5.heap.size = X2a at X2 ⊢
  refine (nCut_is Net.zero 2 2 true hN0).mono ?_
  rintro e w7 hh
  obtain ⟨Aq3, cq3, Aa3, ca3, rfl, hN3, hb⟩ := RetNet.is hh ex3 (a := 0) (b := 0) rfl rfl
  have X0 := X0.later hb
  have P1 := P1.later hb
  have X1 := X1.later hb
  have X2 := X2.later hb
  have hN0 := hid_later hN0 hb
  have hB := hB.trans (hb.mono hB.size)
  clear hb
  have x0 : w7.cell? ⟨X0a, 0, none⟩ = some (.slice none 0 0) := X0.cell 0
  have x1 : w7.cell? ⟨X0a, 1, none⟩ = some (.slice none 0 0) := X0.cell 1
  have x2 := X0.lt
  have x3 : X0a < w7.heap.size + 1 := by omega
  have x4 : X0a < w7.heap.size + 1 + 1 := by omega
  go_wp2_with fail
  clear x0 x1 x2 x3 x4
  have hst := ((((Below.refl w7.heap.size w7).alloc (by simp <;> omega) (.cells #[.slice Aq3 0 cq3, .slice Aa3 0 ca3] 25)).alloc (by simp <;> omega) (.cells #[.int .u8 7] 5)).alloc (by simp <;> omega) (.cells #[.int .i64 1, .int .i64 3, .slice (some ⟨w7.heap.size + 1, 0, none⟩) 1 1] 28))
  have X0 := X0.later hst
  have P1 := P1.later hst
  have X1 := X1.later hst
  have X2 := X2.later hst
  have hN0 := hid_later hN0 hst
  have hB := hB.trans (hst.mono hB.size)
  have X3 := (((Box.newAt (w := w7) (n := w7.heap.size) [.slice Aq3 0 cq3, .slice Aa3 0 ca3] 25 (by simp)).alloc (.cells #[.int .u8 7] 5)).alloc (.cells #[.int .i64 1, .int .i64 3, .slice (some ⟨w7.heap.size + 1, 0, none⟩) 1 1] 28))
  have B4 := ((Box.newAt (w := (w7.alloc (.cells #[.slice Aq3 0 cq3, .slice Aa3 0 ca3] 25))) (n := w7.heap.size + 1) [.int .u8 7] 5 (by simp)).alloc (.cells #[.int .i64 1, .int .i64 3, .slice (some ⟨w7.heap.size + 1, 0, none⟩) 1 1] 28))
  have P4 := (Box.newAt (w := ((w7.alloc (.cells #[.slice Aq3 0 cq3, .slice Aa3 0 ca3] 25)).alloc (.cells #[.int .u8 7] 5))) (n := w7.heap.size + 1 + 1) [.int .i64 1, .int .i64 3, .slice (some ⟨w7.heap.size + 1, 0, none⟩) 1 1] 28 (by simp))
  clear hst
  generalize (((w7.alloc (.cells #[.slice Aq3 0 cq3, .slice Aa3 0 ca3] 25)).alloc (.cells #[.int .u8 7] 5)).alloc (.cells #[.int .i64 1, .int .i64 3, .slice (some ⟨w7.heap.size + 1, 0, none⟩) 1 1] 28)) = w8 at hB X0 P1 X1 X2 X3 B4 P4 hN0 ⊢
  generalize w7.heap.size + 1 + 1 = P4a at X3 B4 P4 ⊢
  generalize w7.heap.size + 1 = B4a at X3 B4 P4 ⊢
  generalize w7.heap.size = X3a at X3 B4 P4 ⊢
  have hV4 : Hid (BytesAt w8 w8.heap.size (.slice (some ⟨B4a, 0, none⟩) 1 1) exP.data) := bytes_one B4
  refine (nSend_is Net.zero exP hN0 hV4).mono ?_
  rintro e w9 hh
  obtain ⟨Aq5, cq5, Aa5, ca5, rfl, hN5, hb⟩ := RetNet.is hh ex4 (a := 1) (b := 0) rfl rfl
  have X0 := X0.later hb
  have P1 := P1.later hb
  have X1 := X1.later hb
  have X2 := X2.later hb
  have X3 := X3.later hb
  have B4 := B4.later hb
  have P4 := P4.later hb
  have hN0 := hid_later hN0 hb
  have hV4 := hid_bytes hV4 hb
  have hB := hB.trans (hb.mono hB.size)
  clear hb
  go_wp2_with fail
  have hst := ((Below.refl w9.heap.size w9).alloc (by simp <;> omega) (.cells #[.slice Aq5 1 cq5, .slice Aa5 0 ca5] 25))
  have X0 := X0.later hst
  have P1 := P1.later hst
  have X1 := X1.later hst
  have X2 := X2.later hst
  have X3 := X3.later hst
  have B4 := B4.later hst
  have P4 := P4.later hst
  have hN0 := hid_later hN0 hst
  have hV4 := hid_bytes hV4 hst
  have hN5 := hid_later hN5 hst
  have hB := hB.trans (hst.mono hB.size)
  have X5 := (Box.newAt (w := w9) (n := w9.heap.size) [.slice Aq5 1 cq5, .slice Aa5 0 ca5] 25 (by simp))
  clear hst
  generalize (w9.alloc (.cells #[.slice Aq5 1 cq5, .slice Aa5 0 ca5] 25)) = w10 at hB X0 P1 X1 X2 X3 B4 P4 X5 hN0 hV4 hN5 ⊢
  generalize w9.heap.size = X5a at X5 ⊢
  refine (nRepeat_is exA 0 hN5).mono ?_
  rintro e w11 hh
  obtain ⟨Aq6, cq6, Aa6, ca6, rfl, hN6, hb⟩ := RetNet.is hh ex5 (a := 2) (b := 0) rfl rfl
  have X0 := X0.later hb
  have P1 := P1.later hb
  have X1 := X1.later hb
  have X2 := X2.later hb
  have X3 := X3.later hb
  have B4 := B4.later hb
  have P4 := P4.later hb
  have X5 := X5.later hb
  have hN0 := hid_later hN0 hb
  have hV4 := hid_bytes hV4 hb
  have hN5 := hid_later hN5 hb
  have hB := hB.trans (hb.mono hB.size)
  clear hb
  go_wp2_with fail
  have hst := ((Below.refl w11.heap.size w11).alloc (by simp <;> omega) (.cells #[.slice Aq6 2 cq6, .slice Aa6 0 ca6] 25))
  have X0 := X0.later hst
  have P1 := P1.later hst
  have X1 := X1.later hst
  have X2 := X2.later hst
  have X3 := X3.later hst
  have B4 := B4.later hst
  have P4 := P4.later hst
  have X5 := X5.later hst
  have hN0 := hid_later hN0 hst
  have hV4 := hid_bytes hV4 hst
  have hN5 := hid_later hN5 hst
  have hN6 := hid_later hN6 hst
  have hB := hB.trans (hst.mono hB.size)
  have X6 := (Box.newAt (w := w11) (n := w11.heap.size) [.slice Aq6 2 cq6, .slice Aa6 0 ca6] 25 (by simp))
  clear hst
  generalize (w11.alloc (.cells #[.slice Aq6 2 cq6, .slice Aa6 0 ca6] 25)) = w12 at hB X0 P1 X1 X2 X3 B4 P4 X5 X6 hN0 hV4 hN5 hN6 ⊢
  generalize w11.heap.size = X6a at X6 ⊢
  refine (nCut_is exB 3 1 true hN6).mono ?_
  rintro e w13 hh
  obtain ⟨Aq7, cq7, Aa7, ca7, rfl, hN7, hb⟩ := RetNet.is hh ex6 (a := 2) (b := 1) rfl rfl
  have X0 := X0.later hb
  have P1 := P1.later hb
  have X1 := X1.later hb
  have X2 := X2.later hb
  have X3 := X3.later hb
  have B4 := B4.later hb
  have P4 := P4.later hb
  have X5 := X5.later hb
  have X6 := X6.later hb
  have hN0 := hid_later hN0 hb
  have hV4 := hid_bytes hV4 hb
  have hN5 := hid_later hN5 hb
  have hN6 := hid_later hN6 hb
  have hB := hB.trans (hb.mono hB.size)
  clear hb
  have X6c0 : w13.cell? ⟨X6a, 0, none⟩ = some (.slice Aq6 2 cq6) := X6.cell 0
  have X6c1 : w13.cell? ⟨X6a, 1, none⟩ = some (.slice Aa6 0 ca6) := X6.cell 1
  have X6z : X6a < w13.heap.size := X6.lt
  go_wp2_with fail
  clear X6c0 X6c1 X6z
  have hst := ((Below.refl w13.heap.size w13).alloc (by simp <;> omega) (.cells #[.slice Aq7 2 cq7, .slice Aa7 1 ca7] 25))
  have X0 := X0.later hst
  have P1 := P1.later hst
  have X1 := X1.later hst
  have X2 := X2.later hst
  have X3 := X3.later hst
  have B4 := B4.later hst
  have P4 := P4.later hst
  have X5 := X5.later hst
  have X6 := X6.later hst
  have hN0 := hid_later hN0 hst
  have hV4 := hid_bytes hV4 hst
  have hN5 := hid_later hN5 hst
  have hN6 := hid_later hN6 hst
  have hN7 := hid_later hN7 hst
  have hB := hB.trans (hst.mono hB.size)
  have X7 := (Box.newAt (w := w13) (n := w13.heap.size) [.slice Aq7 2 cq7, .slice Aa7 1 ca7] 25 (by simp))
  clear hst
  generalize (w13.alloc (.cells #[.slice Aq7 2 cq7, .slice Aa7 1 ca7] 25)) = w14 at hB X0 P1 X1 X2 X3 B4 P4 X5 X6 X7 hN0 hV4 hN5 hN6 hN7 ⊢
  generalize w13.heap.size = X7a at X7 ⊢
  refine (nDeliver_is exB 0 hN6).mono ?_
  rintro e w15 hh
  obtain ⟨Ad8, cd8, Aq8, cq8, Aa8, ca8, rfl, hV8, hN8, hb⟩ := RetDel.is hh ex7 (a := 1) (b := 0) (k := 1) rfl rfl rfl
  have X0 := X0.later hb
  have P1 := P1.later hb
  have X1 := X1.later hb
  have X2 := X2.later hb
  have X3 := X3.later hb
  have B4 := B4.later hb
  have P4 := P4.later hb
  have X5 := X5.later hb
  have X6 := X6.later hb
  have X7 := X7.later hb
  have hN0 := hid_later hN0 hb
  have hV4 := hid_bytes hV4 hb
  have hN5 := hid_later hN5 hb
  have hN6 := hid_later hN6 hb
  have hN7 := hid_later hN7 hb
  have hB := hB.trans (hb.mono hB.size)
  clear hb
  have X7c0 : w15.cell? ⟨X7a, 0, none⟩ = some (.slice Aq7 2 cq7) := X7.cell 0
  have X7c1 : w15.cell? ⟨X7a, 1, none⟩ = some (.slice Aa7 1 ca7) := X7.cell 1
  have X7z : X7a < w15.heap.size := X7.lt
  have X7z1 : X7a < w15.heap.size + 1 := by omega
  go_wp2_with fail
  clear X7c0 X7c1 X7z X7z1
  have hst := (((Below.refl w15.heap.size w15).alloc (by simp <;> omega) (.cells #[.int .i64 exP.src, .int .i64 exP.dst, .slice Ad8 1 cd8] 28)).alloc (by simp <;> omega) (.cells #[.slice Aq8 1 cq8, .slice Aa8 0 ca8] 25))
  have X0 := X0.later hst
  have P1 := P1.later hst
  have X1 := X1.later hst
  have X2 := X2.later hst
  have X3 := X3.later hst
  have B4 := B4.later hst
  have P4 := P4.later hst
  have X5 := X5.later hst
  have X6 := X6.later hst
  have X7 := X7.later hst
  have hN0 := hid_later hN0 hst
  have hV4 := hid_bytes hV4 hst
  have hN5 := hid_later hN5 hst
  have hN6 := hid_later hN6 hst
  have hN7 := hid_later hN7 hst
  have hN8 := hid_later hN8 hst
  have hV8 := hid_bytes hV8 hst
  have hB := hB.trans (hst.mono hB.size)
  have P8 := ((Box.newAt (w := w15) (n := w15.heap.size) [.int .i64 exP.src, .int .i64 exP.dst, .slice Ad8 1 cd8] 28 (by simp)).alloc (.cells #[.slice Aq8 1 cq8, .slice Aa8 0 ca8] 25))
  have X8 := (Box.newAt (w := (w15.alloc (.cells #[.int .i64 exP.src, .int .i64 exP.dst, .slice Ad8 1 cd8] 28))) (n := w15.heap.size + 1) [.slice Aq8 1 cq8, .slice Aa8 0 ca8] 25 (by simp))
  clear hst
  generalize ((w15.alloc (.cells #[.int .i64 exP.src, .int .i64 exP.dst, .slice Ad8 1 cd8] 28)).alloc (.cells #[.slice Aq8 1 cq8, .slice Aa8 0 ca8] 25)) = w16 at hB X0 P1 X1 X2 X3 B4 P4 X5 X6 X7 P8 X8 hN0 hV4 hN5 hN6 hN7 hN8 hV8 ⊢
  generalize w15.heap.size + 1 = X8a at P8 X8 ⊢
  generalize w15.heap.size = P8a at P8 X8 ⊢
  refine (nDeliver_is exC 1 hN7).mono ?_
  rintro e w17 hh
  obtain ⟨Ad9, cd9, Aq9, cq9, Aa9, ca9, rfl, hV9, hN9, hb⟩ := RetDel.is hh ex8 (a := 1) (b := 1) (k := 0) rfl rfl rfl
  have X0 := X0.later hb
  have P1 := P1.later hb
  have X1 := X1.later hb
  have X2 := X2.later hb
  have X3 := X3.later hb
  have B4 := B4.later hb
  have P4 := P4.later hb
  have X5 := X5.later hb
  have X6 := X6.later hb
  have X7 := X7.later hb
  have P8 := P8.later hb
  have X8 := X8.later hb
  have hN0 := hid_later hN0 hb
  have hV4 := hid_bytes hV4 hb
  have hN5 := hid_later hN5 hb
  have hN6 := hid_later hN6 hb
  have hN7 := hid_later hN7 hb
  have hN8 := hid_later hN8 hb
  have hV8 := hid_bytes hV8 hb
  have hB := hB.trans (hb.mono hB.size)
  clear hb
  have X0c0 : w17.cell? ⟨X0a, 0, none⟩ = some (.slice none 0 0) := X0.cell 0
  have X0c1 : w17.cell? ⟨X0a, 1, none⟩ = some (.slice none 0 0) := X0.cell 1
  have X0z : X0a < w17.heap.size := X0.lt
  have X0z1 : X0a < w17.heap.size + 1 := by omega
  go_wp2_with fail
  clear X0c0 X0c1 X0z X0z1
  have hst := (((Below.refl w17.heap.size w17).alloc (by simp <;> omega) (.cells #[.int .i64 Pk.zero.src, .int .i64 Pk.zero.dst, .slice Ad9 0 cd9] 28)).alloc (by simp <;> omega) (.cells #[.slice Aq9 1 cq9, .slice Aa9 1 ca9] 25))
  have X0 := X0.later hst
  have P1 := P1.later hst
  have X1 := X1.later hst
  have X2 := X2.later hst
  have X3 := X3.later hst
  have B4 := B4.later hst
  have P4 := P4.later hst
  have X5 := X5.later hst
  have X6 := X6.later hst
  have X7 := X7.later hst
  have P8 := P8.later hst
  have X8 := X8.later hst
  have hN0 := hid_later hN0 hst
  have hV4 := hid_bytes hV4 hst
  have hN5 := hid_later hN5 hst
  have hN6 := hid_later hN6 hst
  have hN7 := hid_later hN7 hst
  have hN8 := hid_later hN8 hst
  have hV8 := hid_bytes hV8 hst
  have hV9 := hid_bytes hV9 hst
  have hB := hB.trans (hst.mono hB.size)
  have P9 := ((Box.newAt (w := w17) (n := w17.heap.size) [.int .i64 Pk.zero.src, .int .i64 Pk.zero.dst, .slice Ad9 0 cd9] 28 (by simp)).alloc (.cells #[.slice Aq9 1 cq9, .slice Aa9 1 ca9] 25))
  have X9 := (Box.newAt (w := (w17.alloc (.cells #[.int .i64 Pk.zero.src, .int .i64 Pk.zero.dst, .slice Ad9 0 cd9] 28))) (n := w17.heap.size + 1) [.slice Aq9 1 cq9, .slice Aa9 1 ca9] 25 (by simp))
  clear hst
  generalize ((w17.alloc (.cells #[.int .i64 Pk.zero.src, .int .i64 Pk.zero.dst, .slice Ad9 0 cd9] 28)).alloc (.cells #[.slice Aq9 1 cq9, .slice Aa9 1 ca9] 25)) = w18 at hB X0 P1 X1 X2 X3 B4 P4 X5 X6 X7 P8 X8 P9 X9 hN0 hV4 hN5 hN6 hN7 hN8 hV8 hV9 ⊢
  generalize w17.heap.size + 1 = X9a at P9 X9 ⊢
  generalize w17.heap.size = P9a at P9 X9 ⊢
  refine (nCheck_at ex9 hN0.out).mono ?_
  rintro e w19 ⟨rfl, hb⟩
  have X0 := X0.later hb
  have P1 := P1.later hb
  have X1 := X1.later hb
  have X2 := X2.later hb
  have X3 := X3.later hb
  have B4 := B4.later hb
  have P4 := P4.later hb
  have X5 := X5.later hb
  have X6 := X6.later hb
  have X7 := X7.later hb
  have P8 := P8.later hb
  have X8 := X8.later hb
  have P9 := P9.later hb
  have X9 := X9.later hb
  have hN0 := hid_later hN0 hb
  have hV4 := hid_bytes hV4 hb
  have hN5 := hid_later hN5 hb
  have hN6 := hid_later hN6 hb
  have hN7 := hid_later hN7 hb
  have hN8 := hid_later hN8 hb
  have hV8 := hid_bytes hV8 hb
  have hV9 := hid_bytes hV9 hb
  have hB := hB.trans (hb.mono hB.size)
  clear hb
  have P4c0 : w19.cell? ⟨P4a, 0, none⟩ = some (.int .i64 1) := P4.cell 0
  have P4c1 : w19.cell? ⟨P4a, 1, none⟩ = some (.int .i64 3) := P4.cell 1
  have P4c2 : w19.cell? ⟨P4a, 2, none⟩ = some (.slice (some ⟨B4a, 0, none⟩) 1 1) := P4.cell 2
  have P4z : P4a < w19.heap.size := P4.lt
  have P8c0 : w19.cell? ⟨P8a, 0, none⟩ = some (.int .i64 exP.src) := P8.cell 0
  have P8c1 : w19.cell? ⟨P8a, 1, none⟩ = some (.int .i64 exP.dst) := P8.cell 1
  have P8c2 : w19.cell? ⟨P8a, 2, none⟩ = some (.slice Ad8 1 cd8) := P8.cell 2
  have P8z : P8a < w19.heap.size := P8.lt
  go_wp2_with fail
  clear P4c0 P4c1 P4c2 P4z P8c0 P8c1 P8c2 P8z
  refine (nSamePk_at (p := exP) (q := exP) (t := true) rfl hV4.out hV8.out).mono ?_
  rintro e w20 ⟨rfl, hb⟩
  have X0 := X0.later hb
  have P1 := P1.later hb
  have X1 := X1.later hb
  have X2 := X2.later hb
  have X3 := X3.later hb
  have B4 := B4.later hb
  have P4 := P4.later hb
  have X5 := X5.later hb
  have X6 := X6.later hb
  have X7 := X7.later hb
  have P8 := P8.later hb
  have X8 := X8.later hb
  have P9 := P9.later hb
  have X9 := X9.later hb
  have hN0 := hid_later hN0 hb
  have hV4 := hid_bytes hV4 hb
  have hN5 := hid_later hN5 hb
  have hN6 := hid_later hN6 hb
  have hN7 := hid_later hN7 hb
  have hN8 := hid_later hN8 hb
  have hV8 := hid_bytes hV8 hb
  have hV9 := hid_bytes hV9 hb
  have hB := hB.trans (hb.mono hB.size)
  clear hb
  have P9c0 : w20.cell? ⟨P9a, 0, none⟩ = some (.int .i64 Pk.zero.src) := P9.cell 0
  have P9c1 : w20.cell? ⟨P9a, 1, none⟩ = some (.int .i64 Pk.zero.dst) := P9.cell 1
  have P9c2 : w20.cell? ⟨P9a, 2, none⟩ = some (.slice Ad9 0 cd9) := P9.cell 2
  have P9z : P9a < w20.heap.size := P9.lt
  go_wp2_with fail
  clear P9c0 P9c1 P9c2 P9z
  refine (nSamePk_at (p := Pk.zero) (q := Pk.zero) (t := true) rfl hV9.out (bytes_nil _)).mono ?_
  rintro e w21 ⟨rfl, hb⟩
  have X0 := X0.later hb
  have P1 := P1.later hb
  have X1 := X1.later hb
  have X2 := X2.later hb
  have X3 := X3.later hb
  have B4 := B4.later hb
  have P4 := P4.later hb
  have X5 := X5.later hb
  have X6 := X6.later hb
  have X7 := X7.later hb
  have P8 := P8.later hb
  have X8 := X8.later hb
  have P9 := P9.later hb
  have X9 := X9.later hb
  have hN0 := hid_later hN0 hb
  have hV4 := hid_bytes hV4 hb
  have hN5 := hid_later hN5 hb
  have hN6 := hid_later hN6 hb
  have hN7 := hid_later hN7 hb
  have hN8 := hid_later hN8 hb
  have hV8 := hid_bytes hV8 hb
  have hV9 := hid_bytes hV9 hb
  have hB := hB.trans (hb.mono hB.size)
  clear hb
  have X8c0 : w21.cell? ⟨X8a, 0, none⟩ = some (.slice Aq8 1 cq8) := X8.cell 0
  have X8c1 : w21.cell? ⟨X8a, 1, none⟩ = some (.slice Aa8 0 ca8) := X8.cell 1
  have X8z : X8a < w21.heap.size := X8.lt
  have X5c0 : w21.cell? ⟨X5a, 0, none⟩ = some (.slice Aq5 1 cq5) := X5.cell 0
  have X5c1 : w21.cell? ⟨X5a, 1, none⟩ = some (.slice Aa5 0 ca5) := X5.cell 1
  have X5z : X5a < w21.heap.size := X5.lt
  go_wp2_with fail
  clear X8c0 X8c1 X8z X5c0 X5c1 X5z
  refine (nSame_at (n := exA) (m := exA) (t := true) rfl hN8.out hN5.out).mono ?_
  rintro e w22 ⟨rfl, hb⟩
  have X0 := X0.later hb
  have P1 := P1.later hb
  have X1 := X1.later hb
  have X2 := X2.later hb
  have X3 := X3.later hb
  have B4 := B4.later hb
  have P4 := P4.later hb
  have X5 := X5.later hb
  have X6 := X6.later hb
  have X7 := X7.later hb
  have P8 := P8.later hb
  have X8 := X8.later hb
  have P9 := P9.later hb
  have X9 := X9.later hb
  have hN0 := hid_later hN0 hb
  have hV4 := hid_bytes hV4 hb
  have hN5 := hid_later hN5 hb
  have hN6 := hid_later hN6 hb
  have hN7 := hid_later hN7 hb
  have hN8 := hid_later hN8 hb
  have hV8 := hid_bytes hV8 hb
  have hV9 := hid_bytes hV9 hb
  have hB := hB.trans (hb.mono hB.size)
  clear hb
  obtain ⟨b, off, rfl, hbw, hcs⟩ := hN7.out.apart.lk (by decide)
  obtain ⟨g0, g1⟩ := hcs 0 (by decide)
  simp only [exC, List.getD_cons_zero, Nat.zero_mul, Nat.add_zero] at g0 g1
  have X7c0 : w22.cell? ⟨X7a, 0, none⟩ = some (.slice Aq7 2 cq7) := X7.cell 0
  have X7c1 : w22.cell? ⟨X7a, 1, none⟩ = some (.slice (some ⟨b, off, none⟩) 1 ca7) := X7.cell 1
  have X7z : X7a < w22.heap.size := X7.lt
  go_wp2
  go_ret
  exact ⟨by first | rfl | simp, hB⟩

end Go.Proofs.Ytndjpaiakodciaa
