/-
  IntervalLaws: the walk. (Printed by gen_laws.py.)
-/
import Derived.Test.YtmjbcmicjhgciaaZG
import Derived.Test.YtmjbcmicjhgciaaZT
import Derived.Test.YtmjbcmicjhgciaaZS
import Derived.BigQuiet
import Derived.Deep.DeepCutAuto
import Derived.Deep.CutBlock
namespace Go.Proofs.Ytmjbcmicjhgciaa
open Go.RowKit

set_option maxRecDepth 100000 in
set_option maxHeartbeats 4000000 in
theorem laws_walk (a b c d u v p1 q1 p2 q2 p3 q3 p4 q4 p5 q5 p6 q6 p7 q7 p8 q8 p9 q9 p10 q10 p11 q11 p12 q12 e g i1 j1 i2 j2 k2 l j3 k3 m n o j4 : Int) (w : World) (o1 o2 : Bool) (A1 : Hid (addT a b c d = (p1, q1, e))) (A2 : Hid (addT c d a b = (p1, q1, e))) (M1 : Hid (mulT a b c d = (p2, q2, g))) (M2 : Hid (mulT c d a b = (p2, q2, g)))
    (S1 : Hid (subT p1 q1 c d = (p3, q3, i1))) (I1 : Hid (insT a b p3 q3 = (o1, j1))) (A3 : Hid (addT c d u v = (p4, q4, i2))) (A4 : Hid (addT p1 q1 u v = (p5, q5, j2))) (A5 : Hid (addT a b p4 q4 = (p6, q6, k2)))
    (M3 : Hid (mulT c d u v = (p7, q7, l))) (M4 : Hid (mulT p2 q2 u v = (p8, q8, j3))) (M5 : Hid (mulT a b p7 q7 = (p9, q9, k3))) (M6 : Hid (mulT a b u v = (p10, q10, m))) (M7 : Hid (mulT a b p4 q4 = (p11, q11, n)))
    (A6 : Hid (addT p2 q2 p10 q10 = (p12, q12, o))) (I2 : Hid (insT p11 q11 p12 q12 = (o2, j4)))
    (C1 : Hid ((e == 0) = false ∨ ((e == 0) = true ∧ (i1 == 0) = false) ∨ ((e == 0) = true ∧ (i1 == 0) = true ∧ j1 = 0 ∧ o1 = true)))
    (C2 : Hid ((e == 0) = false ∨ ((e == 0) = true ∧ (i2 == 0) = false) ∨ ((e == 0) = true ∧ (i2 == 0) = true ∧ p6 = p5 ∧ q6 = q5 ∧ k2 = j2)))
    (C3 : Hid ((g == 0) = false ∨ ((g == 0) = true ∧ (l == 0) = false) ∨ ((g == 0) = true ∧ (l == 0) = true ∧ (j3 == 0) = false) ∨ ((g == 0) = true ∧ (l == 0) = true ∧ (j3 == 0) = true ∧ (k3 == 0) = false) ∨
      ((g == 0) = true ∧ (l == 0) = true ∧ (j3 == 0) = true ∧ (k3 == 0) = true ∧ p9 = p8 ∧ q9 = q8)))
    (C4 : Hid ((i2 != 0) = true ∨ ((i2 != 0) = false ∧ (g != 0) = true) ∨ ((i2 != 0) = false ∧ (g != 0) = false ∧ (m != 0) = true) ∨ ((i2 != 0) = false ∧ (g != 0) = false ∧ (m != 0) = false ∧ (n != 0) = true) ∨
      ((i2 != 0) = false ∧ (g != 0) = false ∧ (m != 0) = false ∧ (n != 0) = false ∧ (o != 0) = true) ∨
      ((i2 != 0) = false ∧ (g != 0) = false ∧ (m != 0) = false ∧ (n != 0) = false ∧ (o != 0) = false ∧ j4 = 0 ∧ o2 = true))) : Calls Try.prog 10 #[rng a b, rng c d, rng u v] w fun e w' => e = .returned (.bool true) ∧ Below w.heap.size w w' := by
  go_enter Try.func10, Try.ntmps10
  go_wp2_with fail
  refine (sane_any _).mono ?_
  rintro e w1 ⟨rfl, hb⟩
  have X0 := ((((Box.newAt (n := w.heap.size) [.int .i64 a, .int .i64 b] 23 (by simp)).alloc _).alloc _)).later hb
  have X1 := (((Box.newAt (n := w.heap.size + 1) [.int .i64 c, .int .i64 d] 23 (by simp)).alloc _)).later hb
  have X2 := ((Box.newAt (n := w.heap.size + 1 + 1) [.int .i64 u, .int .i64 v] 23 (by simp))).later hb
  have hB : Below w.heap.size w w1 := (((((Below.refl w.heap.size w).alloc (by simp <;> omega) _).alloc (by simp <;> omega) _).alloc (by simp <;> omega) _)).trans (hb.mono (by simp <;> omega))
  clear hb
  have X0c0 : w1.cell? ⟨w.heap.size, 0, none⟩ = some (.int .i64 a) := X0.cell 0
  have X0f0 : w1.frozen? ⟨w.heap.size, 0, none⟩ = false := X0.free 0
  have X0c1 : w1.cell? ⟨w.heap.size, 1, none⟩ = some (.int .i64 b) := X0.cell 1
  have X0f1 : w1.frozen? ⟨w.heap.size, 1, none⟩ = false := X0.free 1
  have X0z : w.heap.size < w1.heap.size := X0.lt
  have X1c0 : w1.cell? ⟨w.heap.size + 1, 0, none⟩ = some (.int .i64 c) := X1.cell 0
  have X1f0 : w1.frozen? ⟨w.heap.size + 1, 0, none⟩ = false := X1.free 0
  have X1c1 : w1.cell? ⟨w.heap.size + 1, 1, none⟩ = some (.int .i64 d) := X1.cell 1
  have X1f1 : w1.frozen? ⟨w.heap.size + 1, 1, none⟩ = false := X1.free 1
  have X1z : w.heap.size + 1 < w1.heap.size := X1.lt
  go_wp2_with fail
  refine ((Add_any a b c d _).mono fun _ _ => Ret.at A1).mono ?_
  rintro e w2 ⟨rfl, hb⟩
  clear X0c0 X0f0 X0c1 X0f1 X0z X1c0 X1f0 X1c1 X1f1 X1z
  have X0 := X0.later hb
  have X1 := X1.later hb
  have X2 := X2.later hb
  have hB := hB.trans (hb.mono hB.size)
  clear hb
  have X0c0 : w2.cell? ⟨w.heap.size, 0, none⟩ = some (.int .i64 a) := X0.cell 0
  have X0f0 : w2.frozen? ⟨w.heap.size, 0, none⟩ = false := X0.free 0
  have X0c1 : w2.cell? ⟨w.heap.size, 1, none⟩ = some (.int .i64 b) := X0.cell 1
  have X0f1 : w2.frozen? ⟨w.heap.size, 1, none⟩ = false := X0.free 1
  have X0z : w.heap.size < w2.heap.size := X0.lt
  have X1c0 : w2.cell? ⟨w.heap.size + 1, 0, none⟩ = some (.int .i64 c) := X1.cell 0
  have X1f0 : w2.frozen? ⟨w.heap.size + 1, 0, none⟩ = false := X1.free 0
  have X1c1 : w2.cell? ⟨w.heap.size + 1, 1, none⟩ = some (.int .i64 d) := X1.cell 1
  have X1f1 : w2.frozen? ⟨w.heap.size + 1, 1, none⟩ = false := X1.free 1
  have X1z : w.heap.size + 1 < w2.heap.size := X1.lt
  go_wp2_with fail
  refine ((Add_any c d a b _).mono fun _ _ => Ret.at A2).mono ?_
  rintro e w3 ⟨rfl, hb⟩
  clear X0c0 X0f0 X0c1 X0f1 X0z X1c0 X1f0 X1c1 X1f1 X1z
  have X3 := ((Box.newAt (w := w2) (n := w2.heap.size) [.int .i64 p1, .int .i64 q1] 23 (by simp))).later hb
  have X0 := ((X0.alloc (.cells #[.int .i64 p1, .int .i64 q1] 23))).later hb
  have X1 := ((X1.alloc (.cells #[.int .i64 p1, .int .i64 q1] 23))).later hb
  have X2 := ((X2.alloc (.cells #[.int .i64 p1, .int .i64 q1] 23))).later hb
  have hB := (hB.alloc hB.size (.cells #[.int .i64 p1, .int .i64 q1] 23)).trans (hb.mono (by have := hB.size; simp; omega))
  clear hb
  have X0c0 : w3.cell? ⟨w.heap.size, 0, none⟩ = some (.int .i64 a) := X0.cell 0
  have X0f0 : w3.frozen? ⟨w.heap.size, 0, none⟩ = false := X0.free 0
  have X0c1 : w3.cell? ⟨w.heap.size, 1, none⟩ = some (.int .i64 b) := X0.cell 1
  have X0f1 : w3.frozen? ⟨w.heap.size, 1, none⟩ = false := X0.free 1
  have X0z : w.heap.size < w3.heap.size := X0.lt
  have X1c0 : w3.cell? ⟨w.heap.size + 1, 0, none⟩ = some (.int .i64 c) := X1.cell 0
  have X1f0 : w3.frozen? ⟨w.heap.size + 1, 0, none⟩ = false := X1.free 0
  have X1c1 : w3.cell? ⟨w.heap.size + 1, 1, none⟩ = some (.int .i64 d) := X1.cell 1
  have X1f1 : w3.frozen? ⟨w.heap.size + 1, 1, none⟩ = false := X1.free 1
  have X1z : w.heap.size + 1 < w3.heap.size := X1.lt
  go_wp2_with fail
  refine ((Mul_any a b c d _).mono fun _ _ => Ret.at M1).mono ?_
  rintro e w4 ⟨rfl, hb⟩
  clear X0c0 X0f0 X0c1 X0f1 X0z X1c0 X1f0 X1c1 X1f1 X1z
  have X4 := ((Box.newAt (w := w3) (n := w3.heap.size) [.int .i64 p1, .int .i64 q1] 23 (by simp))).later hb
  have X0 := ((X0.alloc (.cells #[.int .i64 p1, .int .i64 q1] 23))).later hb
  have X1 := ((X1.alloc (.cells #[.int .i64 p1, .int .i64 q1] 23))).later hb
  have X2 := ((X2.alloc (.cells #[.int .i64 p1, .int .i64 q1] 23))).later hb
  have X3 := ((X3.alloc (.cells #[.int .i64 p1, .int .i64 q1] 23))).later hb
  have hB := (hB.alloc hB.size (.cells #[.int .i64 p1, .int .i64 q1] 23)).trans (hb.mono (by have := hB.size; simp; omega))
  clear hb
  have X0c0 : w4.cell? ⟨w.heap.size, 0, none⟩ = some (.int .i64 a) := X0.cell 0
  have X0f0 : w4.frozen? ⟨w.heap.size, 0, none⟩ = false := X0.free 0
  have X0c1 : w4.cell? ⟨w.heap.size, 1, none⟩ = some (.int .i64 b) := X0.cell 1
  have X0f1 : w4.frozen? ⟨w.heap.size, 1, none⟩ = false := X0.free 1
  have X0z : w.heap.size < w4.heap.size := X0.lt
  have X1c0 : w4.cell? ⟨w.heap.size + 1, 0, none⟩ = some (.int .i64 c) := X1.cell 0
  have X1f0 : w4.frozen? ⟨w.heap.size + 1, 0, none⟩ = false := X1.free 0
  have X1c1 : w4.cell? ⟨w.heap.size + 1, 1, none⟩ = some (.int .i64 d) := X1.cell 1
  have X1f1 : w4.frozen? ⟨w.heap.size + 1, 1, none⟩ = false := X1.free 1
  have X1z : w.heap.size + 1 < w4.heap.size := X1.lt
  go_wp2_with fail
  refine ((Mul_any c d a b _).mono fun _ _ => Ret.at M2).mono ?_
  rintro e w5 ⟨rfl, hb⟩
  clear X0c0 X0f0 X0c1 X0f1 X0z X1c0 X1f0 X1c1 X1f1 X1z
  have X5 := ((Box.newAt (w := w4) (n := w4.heap.size) [.int .i64 p2, .int .i64 q2] 23 (by simp))).later hb
  have X0 := ((X0.alloc (.cells #[.int .i64 p2, .int .i64 q2] 23))).later hb
  have X1 := ((X1.alloc (.cells #[.int .i64 p2, .int .i64 q2] 23))).later hb
  have X2 := ((X2.alloc (.cells #[.int .i64 p2, .int .i64 q2] 23))).later hb
  have X3 := ((X3.alloc (.cells #[.int .i64 p2, .int .i64 q2] 23))).later hb
  have X4 := ((X4.alloc (.cells #[.int .i64 p2, .int .i64 q2] 23))).later hb
  have hB := (hB.alloc hB.size (.cells #[.int .i64 p2, .int .i64 q2] 23)).trans (hb.mono (by have := hB.size; simp; omega))
  clear hb
  have X3c0 : w5.cell? ⟨w2.heap.size, 0, none⟩ = some (.int .i64 p1) := X3.cell 0
  have X3f0 : w5.frozen? ⟨w2.heap.size, 0, none⟩ = false := X3.free 0
  have X3c1 : w5.cell? ⟨w2.heap.size, 1, none⟩ = some (.int .i64 q1) := X3.cell 1
  have X3f1 : w5.frozen? ⟨w2.heap.size, 1, none⟩ = false := X3.free 1
  have X3z : w2.heap.size < w5.heap.size := X3.lt
  have X4c0 : w5.cell? ⟨w3.heap.size, 0, none⟩ = some (.int .i64 p1) := X4.cell 0
  have X4f0 : w5.frozen? ⟨w3.heap.size, 0, none⟩ = false := X4.free 0
  have X4c1 : w5.cell? ⟨w3.heap.size, 1, none⟩ = some (.int .i64 q1) := X4.cell 1
  have X4f1 : w5.frozen? ⟨w3.heap.size, 1, none⟩ = false := X4.free 1
  have X4z : w3.heap.size < w5.heap.size := X4.lt
  have X5c0 : w5.cell? ⟨w4.heap.size, 0, none⟩ = some (.int .i64 p2) := X5.cell 0
  have X5f0 : w5.frozen? ⟨w4.heap.size, 0, none⟩ = false := X5.free 0
  have X5c1 : w5.cell? ⟨w4.heap.size, 1, none⟩ = some (.int .i64 q2) := X5.cell 1
  have X5f1 : w5.frozen? ⟨w4.heap.size, 1, none⟩ = false := X5.free 1
  have X5z : w4.heap.size < w5.heap.size := X5.lt
  go_upto_if 80 with fail
  clear X3c0 X3f0 X3c1 X3f1 X3z X4c0 X4f0 X4c1 X4f1 X4z X5c0 X5f0 X5c1 X5f1 X5z
  have X0 := (X0.alloc (.cells #[.int .i64 p2, .int .i64 q2] 23))
  have X1 := (X1.alloc (.cells #[.int .i64 p2, .int .i64 q2] 23))
  have X2 := (X2.alloc (.cells #[.int .i64 p2, .int .i64 q2] 23))
  have X3 := (X3.alloc (.cells #[.int .i64 p2, .int .i64 q2] 23))
  have X4 := (X4.alloc (.cells #[.int .i64 p2, .int .i64 q2] 23))
  have X5 := (X5.alloc (.cells #[.int .i64 p2, .int .i64 q2] 23))
  have X6 := (Box.newAt (w := w5) (n := w5.heap.size) [.int .i64 p2, .int .i64 q2] 23 (by simp))
  have hB := (hB.alloc hB.size (.cells #[.int .i64 p2, .int .i64 q2] 23))
  generalize (w5.alloc (.cells #[.int .i64 p2, .int .i64 q2] 23)) = w6 at hB X0 X1 X2 X3 X4 X5 X6 ⊢
  clear X4 X6
  go_cut [6] (fun s wx => s = .bool false ∧ Below w6.heap.size w6 wx)
  case first =>
    have hW : Below w6.heap.size w6 w6 := Below.refl _ _
    rcases C1.out with h1 | ⟨h1, h2⟩ | ⟨h1, h2, rfl, rfl⟩
    · go_wp2
      go_meet
      exact ⟨rfl, hW⟩
    · skip
      have X1c0 : w6.cell? ⟨w.heap.size + 1, 0, none⟩ = some (.int .i64 c) := X1.cell 0
      have X1f0 : w6.frozen? ⟨w.heap.size + 1, 0, none⟩ = false := X1.free 0
      have X1c1 : w6.cell? ⟨w.heap.size + 1, 1, none⟩ = some (.int .i64 d) := X1.cell 1
      have X1f1 : w6.frozen? ⟨w.heap.size + 1, 1, none⟩ = false := X1.free 1
      have X1z : w.heap.size + 1 < w6.heap.size := X1.lt
      have X3c0 : w6.cell? ⟨w2.heap.size, 0, none⟩ = some (.int .i64 p1) := X3.cell 0
      have X3f0 : w6.frozen? ⟨w2.heap.size, 0, none⟩ = false := X3.free 0
      have X3c1 : w6.cell? ⟨w2.heap.size, 1, none⟩ = some (.int .i64 q1) := X3.cell 1
      have X3f1 : w6.frozen? ⟨w2.heap.size, 1, none⟩ = false := X3.free 1
      have X3z : w2.heap.size < w6.heap.size := X3.lt
      go_wp2_with fail
      refine ((Sub_any p1 q1 c d _).mono fun _ _ => Ret.at S1).mono ?_
      rintro e w7 ⟨rfl, hb⟩
      clear X1c0 X1f0 X1c1 X1f1 X1z X3c0 X3f0 X3c1 X3f1 X3z
      have X0 := X0.later hb
      have X1 := X1.later hb
      have X2 := X2.later hb
      have X3 := X3.later hb
      have X5 := X5.later hb
      have hB := hB.trans (hb.mono hB.size)
      have hW := hW.trans (hb.mono hW.size)
      clear hb
      have X0c0 : w7.cell? ⟨w.heap.size, 0, none⟩ = some (.int .i64 a) := X0.cell 0
      have X0f0 : w7.frozen? ⟨w.heap.size, 0, none⟩ = false := X0.free 0
      have X0c1 : w7.cell? ⟨w.heap.size, 1, none⟩ = some (.int .i64 b) := X0.cell 1
      have X0f1 : w7.frozen? ⟨w.heap.size, 1, none⟩ = false := X0.free 1
      have X0z : w.heap.size < w7.heap.size := X0.lt
      go_wp2_with fail
      refine ((Inside_any a b p3 q3 _).mono fun _ _ => RetO.at I1).mono ?_
      rintro e w8 ⟨rfl, hb⟩
      clear X0c0 X0f0 X0c1 X0f1 X0z
      have X7 := ((Box.newAt (w := w7) (n := w7.heap.size) [.int .i64 p3, .int .i64 q3] 23 (by simp))).later hb
      have X0 := ((X0.alloc (.cells #[.int .i64 p3, .int .i64 q3] 23))).later hb
      have X1 := ((X1.alloc (.cells #[.int .i64 p3, .int .i64 q3] 23))).later hb
      have X2 := ((X2.alloc (.cells #[.int .i64 p3, .int .i64 q3] 23))).later hb
      have X3 := ((X3.alloc (.cells #[.int .i64 p3, .int .i64 q3] 23))).later hb
      have X5 := ((X5.alloc (.cells #[.int .i64 p3, .int .i64 q3] 23))).later hb
      have hB := (hB.alloc hB.size (.cells #[.int .i64 p3, .int .i64 q3] 23)).trans (hb.mono (by have := hB.size; simp; omega))
      have hW := (hW.alloc hW.size (.cells #[.int .i64 p3, .int .i64 q3] 23)).trans (hb.mono (by have := hW.size; simp; omega))
      clear hb
      go_wp2
      go_meet
      exact ⟨rfl, hW⟩
    · skip
      have X1c0 : w6.cell? ⟨w.heap.size + 1, 0, none⟩ = some (.int .i64 c) := X1.cell 0
      have X1f0 : w6.frozen? ⟨w.heap.size + 1, 0, none⟩ = false := X1.free 0
      have X1c1 : w6.cell? ⟨w.heap.size + 1, 1, none⟩ = some (.int .i64 d) := X1.cell 1
      have X1f1 : w6.frozen? ⟨w.heap.size + 1, 1, none⟩ = false := X1.free 1
      have X1z : w.heap.size + 1 < w6.heap.size := X1.lt
      have X3c0 : w6.cell? ⟨w2.heap.size, 0, none⟩ = some (.int .i64 p1) := X3.cell 0
      have X3f0 : w6.frozen? ⟨w2.heap.size, 0, none⟩ = false := X3.free 0
      have X3c1 : w6.cell? ⟨w2.heap.size, 1, none⟩ = some (.int .i64 q1) := X3.cell 1
      have X3f1 : w6.frozen? ⟨w2.heap.size, 1, none⟩ = false := X3.free 1
      have X3z : w2.heap.size < w6.heap.size := X3.lt
      go_wp2_with fail
      refine ((Sub_any p1 q1 c d _).mono fun _ _ => Ret.at S1).mono ?_
      rintro e w7 ⟨rfl, hb⟩
      clear X1c0 X1f0 X1c1 X1f1 X1z X3c0 X3f0 X3c1 X3f1 X3z
      have X0 := X0.later hb
      have X1 := X1.later hb
      have X2 := X2.later hb
      have X3 := X3.later hb
      have X5 := X5.later hb
      have hB := hB.trans (hb.mono hB.size)
      have hW := hW.trans (hb.mono hW.size)
      clear hb
      have X0c0 : w7.cell? ⟨w.heap.size, 0, none⟩ = some (.int .i64 a) := X0.cell 0
      have X0f0 : w7.frozen? ⟨w.heap.size, 0, none⟩ = false := X0.free 0
      have X0c1 : w7.cell? ⟨w.heap.size, 1, none⟩ = some (.int .i64 b) := X0.cell 1
      have X0f1 : w7.frozen? ⟨w.heap.size, 1, none⟩ = false := X0.free 1
      have X0z : w.heap.size < w7.heap.size := X0.lt
      go_wp2_with fail
      refine ((Inside_any a b p3 q3 _).mono fun _ _ => RetO.at I1).mono ?_
      rintro e w8 ⟨rfl, hb⟩
      clear X0c0 X0f0 X0c1 X0f1 X0z
      have X7 := ((Box.newAt (w := w7) (n := w7.heap.size) [.int .i64 p3, .int .i64 q3] 23 (by simp))).later hb
      have X0 := ((X0.alloc (.cells #[.int .i64 p3, .int .i64 q3] 23))).later hb
      have X1 := ((X1.alloc (.cells #[.int .i64 p3, .int .i64 q3] 23))).later hb
      have X2 := ((X2.alloc (.cells #[.int .i64 p3, .int .i64 q3] 23))).later hb
      have X3 := ((X3.alloc (.cells #[.int .i64 p3, .int .i64 q3] 23))).later hb
      have X5 := ((X5.alloc (.cells #[.int .i64 p3, .int .i64 q3] 23))).later hb
      have hB := (hB.alloc hB.size (.cells #[.int .i64 p3, .int .i64 q3] 23)).trans (hb.mono (by have := hB.size; simp; omega))
      have hW := (hW.alloc hW.size (.cells #[.int .i64 p3, .int .i64 q3] 23)).trans (hb.mono (by have := hW.size; simp; omega))
      clear hb
      go_wp2
      go_meet
      exact ⟨rfl, hW⟩
  case rest =>
    obtain ⟨rfl, hb⟩ := hcut
    have X0 := X0.later hb
    have X1 := X1.later hb
    have X2 := X2.later hb
    have X3 := X3.later hb
    have X5 := X5.later hb
    have hB := hB.trans (hb.mono hB.size)
    clear hb C1
    have X1c0 : wc.cell? ⟨w.heap.size + 1, 0, none⟩ = some (.int .i64 c) := X1.cell 0
    have X1f0 : wc.frozen? ⟨w.heap.size + 1, 0, none⟩ = false := X1.free 0
    have X1c1 : wc.cell? ⟨w.heap.size + 1, 1, none⟩ = some (.int .i64 d) := X1.cell 1
    have X1f1 : wc.frozen? ⟨w.heap.size + 1, 1, none⟩ = false := X1.free 1
    have X1z : w.heap.size + 1 < wc.heap.size := X1.lt
    have X2c0 : wc.cell? ⟨w.heap.size + 1 + 1, 0, none⟩ = some (.int .i64 u) := X2.cell 0
    have X2f0 : wc.frozen? ⟨w.heap.size + 1 + 1, 0, none⟩ = false := X2.free 0
    have X2c1 : wc.cell? ⟨w.heap.size + 1 + 1, 1, none⟩ = some (.int .i64 v) := X2.cell 1
    have X2f1 : wc.frozen? ⟨w.heap.size + 1 + 1, 1, none⟩ = false := X2.free 1
    have X2z : w.heap.size + 1 + 1 < wc.heap.size := X2.lt
    go_wp2_with fail
    refine ((Add_any c d u v _).mono fun _ _ => Ret.at A3).mono ?_
    rintro e w31 ⟨rfl, hb⟩
    clear X1c0 X1f0 X1c1 X1f1 X1z X2c0 X2f0 X2c1 X2f1 X2z
    have X0 := X0.later hb
    have X1 := X1.later hb
    have X2 := X2.later hb
    have X3 := X3.later hb
    have X5 := X5.later hb
    have hB := hB.trans (hb.mono hB.size)
    clear hb
    have X2c0 : w31.cell? ⟨w.heap.size + 1 + 1, 0, none⟩ = some (.int .i64 u) := X2.cell 0
    have X2f0 : w31.frozen? ⟨w.heap.size + 1 + 1, 0, none⟩ = false := X2.free 0
    have X2c1 : w31.cell? ⟨w.heap.size + 1 + 1, 1, none⟩ = some (.int .i64 v) := X2.cell 1
    have X2f1 : w31.frozen? ⟨w.heap.size + 1 + 1, 1, none⟩ = false := X2.free 1
    have X2z : w.heap.size + 1 + 1 < w31.heap.size := X2.lt
    have X3c0 : w31.cell? ⟨w2.heap.size, 0, none⟩ = some (.int .i64 p1) := X3.cell 0
    have X3f0 : w31.frozen? ⟨w2.heap.size, 0, none⟩ = false := X3.free 0
    have X3c1 : w31.cell? ⟨w2.heap.size, 1, none⟩ = some (.int .i64 q1) := X3.cell 1
    have X3f1 : w31.frozen? ⟨w2.heap.size, 1, none⟩ = false := X3.free 1
    have X3z : w2.heap.size < w31.heap.size := X3.lt
    go_wp2_with fail
    refine ((Add_any p1 q1 u v _).mono fun _ _ => Ret.at A4).mono ?_
    rintro e w32 ⟨rfl, hb⟩
    clear X2c0 X2f0 X2c1 X2f1 X2z X3c0 X3f0 X3c1 X3f1 X3z
    have X8 := ((Box.newAt (w := w31) (n := w31.heap.size) [.int .i64 p4, .int .i64 q4] 23 (by simp))).later hb
    have X0 := ((X0.alloc (.cells #[.int .i64 p4, .int .i64 q4] 23))).later hb
    have X1 := ((X1.alloc (.cells #[.int .i64 p4, .int .i64 q4] 23))).later hb
    have X2 := ((X2.alloc (.cells #[.int .i64 p4, .int .i64 q4] 23))).later hb
    have X3 := ((X3.alloc (.cells #[.int .i64 p4, .int .i64 q4] 23))).later hb
    have X5 := ((X5.alloc (.cells #[.int .i64 p4, .int .i64 q4] 23))).later hb
    have hB := (hB.alloc hB.size (.cells #[.int .i64 p4, .int .i64 q4] 23)).trans (hb.mono (by have := hB.size; simp; omega))
    clear hb
    have X0c0 : w32.cell? ⟨w.heap.size, 0, none⟩ = some (.int .i64 a) := X0.cell 0
    have X0f0 : w32.frozen? ⟨w.heap.size, 0, none⟩ = false := X0.free 0
    have X0c1 : w32.cell? ⟨w.heap.size, 1, none⟩ = some (.int .i64 b) := X0.cell 1
    have X0f1 : w32.frozen? ⟨w.heap.size, 1, none⟩ = false := X0.free 1
    have X0z : w.heap.size < w32.heap.size := X0.lt
    have X8c0 : w32.cell? ⟨w31.heap.size, 0, none⟩ = some (.int .i64 p4) := X8.cell 0
    have X8f0 : w32.frozen? ⟨w31.heap.size, 0, none⟩ = false := X8.free 0
    have X8c1 : w32.cell? ⟨w31.heap.size, 1, none⟩ = some (.int .i64 q4) := X8.cell 1
    have X8f1 : w32.frozen? ⟨w31.heap.size, 1, none⟩ = false := X8.free 1
    have X8z : w31.heap.size < w32.heap.size := X8.lt
    go_wp2_with fail
    refine ((Add_any a b p4 q4 _).mono fun _ _ => Ret.at A5).mono ?_
    rintro e w33 ⟨rfl, hb⟩
    clear X0c0 X0f0 X0c1 X0f1 X0z X8c0 X8f0 X8c1 X8f1 X8z
    have nX0X9 : w.heap.size ≠ w32.heap.size := Nat.ne_of_lt (by have := X0.lt; omega)
    have nX1X9 : w.heap.size + 1 ≠ w32.heap.size := Nat.ne_of_lt (by have := X1.lt; omega)
    have nX2X9 : w.heap.size + 1 + 1 ≠ w32.heap.size := Nat.ne_of_lt (by have := X2.lt; omega)
    have nX3X9 : w2.heap.size ≠ w32.heap.size := Nat.ne_of_lt (by have := X3.lt; omega)
    have nX5X9 : w4.heap.size ≠ w32.heap.size := Nat.ne_of_lt (by have := X5.lt; omega)
    have nX8X9 : w31.heap.size ≠ w32.heap.size := Nat.ne_of_lt (by have := X8.lt; omega)
    have gX9 : w.heap.size ≤ w32.heap.size := by have := hB.size; omega
    have X9 := ((Box.newAt (w := w32) (n := w32.heap.size) [.int .i64 p5, .int .i64 q5] 23 (by simp))).later hb
    have X0 := ((X0.alloc (.cells #[.int .i64 p5, .int .i64 q5] 23))).later hb
    have X1 := ((X1.alloc (.cells #[.int .i64 p5, .int .i64 q5] 23))).later hb
    have X2 := ((X2.alloc (.cells #[.int .i64 p5, .int .i64 q5] 23))).later hb
    have X3 := ((X3.alloc (.cells #[.int .i64 p5, .int .i64 q5] 23))).later hb
    have X5 := ((X5.alloc (.cells #[.int .i64 p5, .int .i64 q5] 23))).later hb
    have X8 := ((X8.alloc (.cells #[.int .i64 p5, .int .i64 q5] 23))).later hb
    have hB := (hB.alloc hB.size (.cells #[.int .i64 p5, .int .i64 q5] 23)).trans (hb.mono (by have := hB.size; simp; omega))
    clear hb
    have X9c0 : w33.cell? ⟨w32.heap.size, 0, none⟩ = some (.int .i64 p5) := X9.cell 0
    have X9f0 : w33.frozen? ⟨w32.heap.size, 0, none⟩ = false := X9.free 0
    have X9c1 : w33.cell? ⟨w32.heap.size, 1, none⟩ = some (.int .i64 q5) := X9.cell 1
    have X9f1 : w33.frozen? ⟨w32.heap.size, 1, none⟩ = false := X9.free 1
    have X9z : w32.heap.size < w33.heap.size := X9.lt
    go_upto_region 17 with fail
    clear X9c0 X9f0 X9c1 X9f1 X9z
    have nX0X10 : w.heap.size ≠ w33.heap.size := Nat.ne_of_lt (by have := X0.lt; omega)
    have nX1X10 : w.heap.size + 1 ≠ w33.heap.size := Nat.ne_of_lt (by have := X1.lt; omega)
    have nX2X10 : w.heap.size + 1 + 1 ≠ w33.heap.size := Nat.ne_of_lt (by have := X2.lt; omega)
    have nX3X10 : w2.heap.size ≠ w33.heap.size := Nat.ne_of_lt (by have := X3.lt; omega)
    have nX5X10 : w4.heap.size ≠ w33.heap.size := Nat.ne_of_lt (by have := X5.lt; omega)
    have nX8X10 : w31.heap.size ≠ w33.heap.size := Nat.ne_of_lt (by have := X8.lt; omega)
    have nX9X10 : w32.heap.size ≠ w33.heap.size := Nat.ne_of_lt (by have := X9.lt; omega)
    have nX10X9 : w33.heap.size ≠ w32.heap.size := Nat.ne_of_gt (by have := X9.lt; omega)
    have gX10 : w.heap.size ≤ w33.heap.size := by have := hB.size; omega
    have X0 := (X0.alloc (.cells #[.int .i64 p6, .int .i64 q6] 23))
    have X1 := (X1.alloc (.cells #[.int .i64 p6, .int .i64 q6] 23))
    have X2 := (X2.alloc (.cells #[.int .i64 p6, .int .i64 q6] 23))
    have X3 := (X3.alloc (.cells #[.int .i64 p6, .int .i64 q6] 23))
    have X5 := (X5.alloc (.cells #[.int .i64 p6, .int .i64 q6] 23))
    have X8 := (X8.alloc (.cells #[.int .i64 p6, .int .i64 q6] 23))
    have X9 := (X9.alloc (.cells #[.int .i64 p6, .int .i64 q6] 23))
    have X10 := (Box.newAt (w := w33) (n := w33.heap.size) [.int .i64 p6, .int .i64 q6] 23 (by simp))
    have hB := (hB.alloc hB.size (.cells #[.int .i64 p6, .int .i64 q6] 23))
    generalize (w33.alloc (.cells #[.int .i64 p6, .int .i64 q6] 23)) = w34 at hB X0 X1 X2 X3 X5 X8 X9 X10 ⊢
    have X9c0 : w34.cell? ⟨w32.heap.size, 0, none⟩ = some (.int .i64 p5) := X9.cell 0
    have X9f0 : w34.frozen? ⟨w32.heap.size, 0, none⟩ = false := X9.free 0
    have X9c1 : w34.cell? ⟨w32.heap.size, 1, none⟩ = some (.int .i64 q5) := X9.cell 1
    have X9f1 : w34.frozen? ⟨w32.heap.size, 1, none⟩ = false := X9.free 1
    have X9z : w32.heap.size < w34.heap.size := X9.lt
    have X10c0 : w34.cell? ⟨w33.heap.size, 0, none⟩ = some (.int .i64 p6) := X10.cell 0
    have X10f0 : w34.frozen? ⟨w33.heap.size, 0, none⟩ = false := X10.free 0
    have X10c1 : w34.cell? ⟨w33.heap.size, 1, none⟩ = some (.int .i64 q6) := X10.cell 1
    have X10f1 : w34.frozen? ⟨w33.heap.size, 1, none⟩ = false := X10.free 1
    have X10z : w33.heap.size < w34.heap.size := X10.lt
    go_cut [136] (fun s wx => s = .bool false ∧ wx = w34)
    case first =>
      rcases C2.out with h1 | ⟨h1, h2⟩ | ⟨h1, h2, rfl, rfl, rfl⟩
      all_goals
        go_wp2
        go_meet
        exact ⟨rfl, rfl⟩
    case rest =>
      obtain ⟨rfl, hwc⟩ := hcut
      have hwc := hwc.symm
      subst hwc
      clear C2
      clear X9c0 X9f0 X9c1 X9f1 X9z X10c0 X10f0 X10c1 X10f1 X10z
      have X1c0 : w34.cell? ⟨w.heap.size + 1, 0, none⟩ = some (.int .i64 c) := X1.cell 0
      have X1f0 : w34.frozen? ⟨w.heap.size + 1, 0, none⟩ = false := X1.free 0
      have X1c1 : w34.cell? ⟨w.heap.size + 1, 1, none⟩ = some (.int .i64 d) := X1.cell 1
      have X1f1 : w34.frozen? ⟨w.heap.size + 1, 1, none⟩ = false := X1.free 1
      have X1z : w.heap.size + 1 < w34.heap.size := X1.lt
      have X2c0 : w34.cell? ⟨w.heap.size + 1 + 1, 0, none⟩ = some (.int .i64 u) := X2.cell 0
      have X2f0 : w34.frozen? ⟨w.heap.size + 1 + 1, 0, none⟩ = false := X2.free 0
      have X2c1 : w34.cell? ⟨w.heap.size + 1 + 1, 1, none⟩ = some (.int .i64 v) := X2.cell 1
      have X2f1 : w34.frozen? ⟨w.heap.size + 1 + 1, 1, none⟩ = false := X2.free 1
      have X2z : w.heap.size + 1 + 1 < w34.heap.size := X2.lt
      go_wp2_with fail
      refine ((Mul_any c d u v _).mono fun _ _ => Ret.at M3).mono ?_
      rintro e w35 ⟨rfl, hb⟩
      clear X1c0 X1f0 X1c1 X1f1 X1z X2c0 X2f0 X2c1 X2f1 X2z
      have X0 := X0.later hb
      have X1 := X1.later hb
      have X2 := X2.later hb
      have X3 := X3.later hb
      have X5 := X5.later hb
      have X8 := X8.later hb
      have X9 := X9.later hb
      have X10 := X10.later hb
      have hB := hB.trans (hb.mono hB.size)
      clear hb
      have X2c0 : w35.cell? ⟨w.heap.size + 1 + 1, 0, none⟩ = some (.int .i64 u) := X2.cell 0
      have X2f0 : w35.frozen? ⟨w.heap.size + 1 + 1, 0, none⟩ = false := X2.free 0
      have X2c1 : w35.cell? ⟨w.heap.size + 1 + 1, 1, none⟩ = some (.int .i64 v) := X2.cell 1
      have X2f1 : w35.frozen? ⟨w.heap.size + 1 + 1, 1, none⟩ = false := X2.free 1
      have X2z : w.heap.size + 1 + 1 < w35.heap.size := X2.lt
      have X5c0 : w35.cell? ⟨w4.heap.size, 0, none⟩ = some (.int .i64 p2) := X5.cell 0
      have X5f0 : w35.frozen? ⟨w4.heap.size, 0, none⟩ = false := X5.free 0
      have X5c1 : w35.cell? ⟨w4.heap.size, 1, none⟩ = some (.int .i64 q2) := X5.cell 1
      have X5f1 : w35.frozen? ⟨w4.heap.size, 1, none⟩ = false := X5.free 1
      have X5z : w4.heap.size < w35.heap.size := X5.lt
      go_wp2_with fail
      refine ((Mul_any p2 q2 u v _).mono fun _ _ => Ret.at M4).mono ?_
      rintro e w36 ⟨rfl, hb⟩
      clear X2c0 X2f0 X2c1 X2f1 X2z X5c0 X5f0 X5c1 X5f1 X5z
      have nX11X9 : w35.heap.size ≠ w32.heap.size := Nat.ne_of_gt (by have := X9.lt; omega)
      have nX11X10 : w35.heap.size ≠ w33.heap.size := Nat.ne_of_gt (by have := X10.lt; omega)
      have X11 := ((Box.newAt (w := w35) (n := w35.heap.size) [.int .i64 p7, .int .i64 q7] 23 (by simp))).later hb
      have X0 := ((X0.alloc (.cells #[.int .i64 p7, .int .i64 q7] 23))).later hb
      have X1 := ((X1.alloc (.cells #[.int .i64 p7, .int .i64 q7] 23))).later hb
      have X2 := ((X2.alloc (.cells #[.int .i64 p7, .int .i64 q7] 23))).later hb
      have X3 := ((X3.alloc (.cells #[.int .i64 p7, .int .i64 q7] 23))).later hb
      have X5 := ((X5.alloc (.cells #[.int .i64 p7, .int .i64 q7] 23))).later hb
      have X8 := ((X8.alloc (.cells #[.int .i64 p7, .int .i64 q7] 23))).later hb
      have X9 := ((X9.alloc (.cells #[.int .i64 p7, .int .i64 q7] 23))).later hb
      have X10 := ((X10.alloc (.cells #[.int .i64 p7, .int .i64 q7] 23))).later hb
      have hB := (hB.alloc hB.size (.cells #[.int .i64 p7, .int .i64 q7] 23)).trans (hb.mono (by have := hB.size; simp; omega))
      clear hb
      have X0c0 : w36.cell? ⟨w.heap.size, 0, none⟩ = some (.int .i64 a) := X0.cell 0
      have X0f0 : w36.frozen? ⟨w.heap.size, 0, none⟩ = false := X0.free 0
      have X0c1 : w36.cell? ⟨w.heap.size, 1, none⟩ = some (.int .i64 b) := X0.cell 1
      have X0f1 : w36.frozen? ⟨w.heap.size, 1, none⟩ = false := X0.free 1
      have X0z : w.heap.size < w36.heap.size := X0.lt
      have X9c0 : w36.cell? ⟨w32.heap.size, 0, none⟩ = some (.int .i64 p5) := X9.cell 0
      have X9f0 : w36.frozen? ⟨w32.heap.size, 0, none⟩ = false := X9.free 0
      have X9c1 : w36.cell? ⟨w32.heap.size, 1, none⟩ = some (.int .i64 q5) := X9.cell 1
      have X9f1 : w36.frozen? ⟨w32.heap.size, 1, none⟩ = false := X9.free 1
      have X9z : w32.heap.size < w36.heap.size := X9.lt
      have X11c0 : w36.cell? ⟨w35.heap.size, 0, none⟩ = some (.int .i64 p7) := X11.cell 0
      have X11f0 : w36.frozen? ⟨w35.heap.size, 0, none⟩ = false := X11.free 0
      have X11c1 : w36.cell? ⟨w35.heap.size, 1, none⟩ = some (.int .i64 q7) := X11.cell 1
      have X11f1 : w36.frozen? ⟨w35.heap.size, 1, none⟩ = false := X11.free 1
      have X11z : w35.heap.size < w36.heap.size := X11.lt
      go_wp2_with fail
      refine ((Mul_any a b p7 q7 _).mono fun _ _ => Ret.at M5).mono ?_
      rintro e w37 ⟨rfl, hb⟩
      clear X0c0 X0f0 X0c1 X0f1 X0z X9c0 X9f0 X9c1 X9f1 X9z X11c0 X11f0 X11c1 X11f1 X11z
      have X0 := (((X0.other (a := ⟨w32.heap.size, 0, none⟩) nX0X9 (.int .i64 p8)).other (a := ⟨w32.heap.size, 1, none⟩) nX0X9 (.int .i64 q8))).later hb
      have X1 := (((X1.other (a := ⟨w32.heap.size, 0, none⟩) nX1X9 (.int .i64 p8)).other (a := ⟨w32.heap.size, 1, none⟩) nX1X9 (.int .i64 q8))).later hb
      have X2 := (((X2.other (a := ⟨w32.heap.size, 0, none⟩) nX2X9 (.int .i64 p8)).other (a := ⟨w32.heap.size, 1, none⟩) nX2X9 (.int .i64 q8))).later hb
      have X3 := (((X3.other (a := ⟨w32.heap.size, 0, none⟩) nX3X9 (.int .i64 p8)).other (a := ⟨w32.heap.size, 1, none⟩) nX3X9 (.int .i64 q8))).later hb
      have X5 := (((X5.other (a := ⟨w32.heap.size, 0, none⟩) nX5X9 (.int .i64 p8)).other (a := ⟨w32.heap.size, 1, none⟩) nX5X9 (.int .i64 q8))).later hb
      have X8 := (((X8.other (a := ⟨w32.heap.size, 0, none⟩) nX8X9 (.int .i64 p8)).other (a := ⟨w32.heap.size, 1, none⟩) nX8X9 (.int .i64 q8))).later hb
      have X9 := (((X9.set 0 (.int .i64 p8)).set 1 (.int .i64 q8))).later hb
      have X10 := (((X10.other (a := ⟨w32.heap.size, 0, none⟩) nX10X9 (.int .i64 p8)).other (a := ⟨w32.heap.size, 1, none⟩) nX10X9 (.int .i64 q8))).later hb
      have X11 := (((X11.other (a := ⟨w32.heap.size, 0, none⟩) nX11X9 (.int .i64 p8)).other (a := ⟨w32.heap.size, 1, none⟩) nX11X9 (.int .i64 q8))).later hb
      have hB := ((hB.setCell (p := ⟨w32.heap.size, 0, none⟩) gX9 (.int .i64 p8)).setCell (p := ⟨w32.heap.size, 1, none⟩) gX9 (.int .i64 q8)).trans (hb.mono (by have := hB.size; simp; omega))
      clear hb
      have X10c0 : w37.cell? ⟨w33.heap.size, 0, none⟩ = some (.int .i64 p6) := X10.cell 0
      have X10f0 : w37.frozen? ⟨w33.heap.size, 0, none⟩ = false := X10.free 0
      have X10c1 : w37.cell? ⟨w33.heap.size, 1, none⟩ = some (.int .i64 q6) := X10.cell 1
      have X10f1 : w37.frozen? ⟨w33.heap.size, 1, none⟩ = false := X10.free 1
      have X10z : w33.heap.size < w37.heap.size := X10.lt
      go_upto_region 22 with fail
      clear X10c0 X10f0 X10c1 X10f1 X10z
      have X0 := ((X0.other (a := ⟨w33.heap.size, 0, none⟩) nX0X10 (.int .i64 p9)).other (a := ⟨w33.heap.size, 1, none⟩) nX0X10 (.int .i64 q9))
      have X1 := ((X1.other (a := ⟨w33.heap.size, 0, none⟩) nX1X10 (.int .i64 p9)).other (a := ⟨w33.heap.size, 1, none⟩) nX1X10 (.int .i64 q9))
      have X2 := ((X2.other (a := ⟨w33.heap.size, 0, none⟩) nX2X10 (.int .i64 p9)).other (a := ⟨w33.heap.size, 1, none⟩) nX2X10 (.int .i64 q9))
      have X3 := ((X3.other (a := ⟨w33.heap.size, 0, none⟩) nX3X10 (.int .i64 p9)).other (a := ⟨w33.heap.size, 1, none⟩) nX3X10 (.int .i64 q9))
      have X5 := ((X5.other (a := ⟨w33.heap.size, 0, none⟩) nX5X10 (.int .i64 p9)).other (a := ⟨w33.heap.size, 1, none⟩) nX5X10 (.int .i64 q9))
      have X8 := ((X8.other (a := ⟨w33.heap.size, 0, none⟩) nX8X10 (.int .i64 p9)).other (a := ⟨w33.heap.size, 1, none⟩) nX8X10 (.int .i64 q9))
      have X9 := ((X9.other (a := ⟨w33.heap.size, 0, none⟩) nX9X10 (.int .i64 p9)).other (a := ⟨w33.heap.size, 1, none⟩) nX9X10 (.int .i64 q9))
      have X10 := ((X10.set 0 (.int .i64 p9)).set 1 (.int .i64 q9))
      have X11 := ((X11.other (a := ⟨w33.heap.size, 0, none⟩) nX11X10 (.int .i64 p9)).other (a := ⟨w33.heap.size, 1, none⟩) nX11X10 (.int .i64 q9))
      have hB := ((hB.setCell (p := ⟨w33.heap.size, 0, none⟩) gX10 (.int .i64 p9)).setCell (p := ⟨w33.heap.size, 1, none⟩) gX10 (.int .i64 q9))
      generalize ((w37.setCell ⟨w33.heap.size, 0, none⟩ (.int .i64 p9)).setCell ⟨w33.heap.size, 1, none⟩ (.int .i64 q9)) = w38 at hB X0 X1 X2 X3 X5 X8 X9 X10 X11 ⊢
      have X9c0 : w38.cell? ⟨w32.heap.size, 0, none⟩ = some (.int .i64 p8) := X9.cell 0
      have X9f0 : w38.frozen? ⟨w32.heap.size, 0, none⟩ = false := X9.free 0
      have X9c1 : w38.cell? ⟨w32.heap.size, 1, none⟩ = some (.int .i64 q8) := X9.cell 1
      have X9f1 : w38.frozen? ⟨w32.heap.size, 1, none⟩ = false := X9.free 1
      have X9z : w32.heap.size < w38.heap.size := X9.lt
      have X10c0 : w38.cell? ⟨w33.heap.size, 0, none⟩ = some (.int .i64 p9) := X10.cell 0
      have X10f0 : w38.frozen? ⟨w33.heap.size, 0, none⟩ = false := X10.free 0
      have X10c1 : w38.cell? ⟨w33.heap.size, 1, none⟩ = some (.int .i64 q9) := X10.cell 1
      have X10f1 : w38.frozen? ⟨w33.heap.size, 1, none⟩ = false := X10.free 1
      have X10z : w33.heap.size < w38.heap.size := X10.lt
      go_cut [173] (fun s wx => s = .bool false ∧ wx = w38)
      case first =>
        rcases C3.out with h1 | ⟨h1, h2⟩ | ⟨h1, h2, h3⟩ | ⟨h1, h2, h3, h4⟩ | ⟨h1, h2, h3, h4, rfl, rfl⟩
        all_goals
          go_wp2
          go_meet
          exact ⟨rfl, rfl⟩
      case rest =>
        obtain ⟨rfl, hwc⟩ := hcut
        have hwc := hwc.symm
        subst hwc
        clear C3
        clear X9c0 X9f0 X9c1 X9f1 X9z X10c0 X10f0 X10c1 X10f1 X10z
        clear X9 X10 X11
        have X0c0 : w38.cell? ⟨w.heap.size, 0, none⟩ = some (.int .i64 a) := X0.cell 0
        have X0f0 : w38.frozen? ⟨w.heap.size, 0, none⟩ = false := X0.free 0
        have X0c1 : w38.cell? ⟨w.heap.size, 1, none⟩ = some (.int .i64 b) := X0.cell 1
        have X0f1 : w38.frozen? ⟨w.heap.size, 1, none⟩ = false := X0.free 1
        have X0z : w.heap.size < w38.heap.size := X0.lt
        have X2c0 : w38.cell? ⟨w.heap.size + 1 + 1, 0, none⟩ = some (.int .i64 u) := X2.cell 0
        have X2f0 : w38.frozen? ⟨w.heap.size + 1 + 1, 0, none⟩ = false := X2.free 0
        have X2c1 : w38.cell? ⟨w.heap.size + 1 + 1, 1, none⟩ = some (.int .i64 v) := X2.cell 1
        have X2f1 : w38.frozen? ⟨w.heap.size + 1 + 1, 1, none⟩ = false := X2.free 1
        have X2z : w.heap.size + 1 + 1 < w38.heap.size := X2.lt
        go_wp2_with fail
        refine ((Mul_any a b u v _).mono fun _ _ => Ret.at M6).mono ?_
        rintro e w39 ⟨rfl, hb⟩
        clear X0c0 X0f0 X0c1 X0f1 X0z X2c0 X2f0 X2c1 X2f1 X2z
        have X0 := X0.later hb
        have X1 := X1.later hb
        have X2 := X2.later hb
        have X3 := X3.later hb
        have X5 := X5.later hb
        have X8 := X8.later hb
        have hB := hB.trans (hb.mono hB.size)
        clear hb
        have X0c0 : w39.cell? ⟨w.heap.size, 0, none⟩ = some (.int .i64 a) := X0.cell 0
        have X0f0 : w39.frozen? ⟨w.heap.size, 0, none⟩ = false := X0.free 0
        have X0c1 : w39.cell? ⟨w.heap.size, 1, none⟩ = some (.int .i64 b) := X0.cell 1
        have X0f1 : w39.frozen? ⟨w.heap.size, 1, none⟩ = false := X0.free 1
        have X0z : w.heap.size < w39.heap.size := X0.lt
        have X8c0 : w39.cell? ⟨w31.heap.size, 0, none⟩ = some (.int .i64 p4) := X8.cell 0
        have X8f0 : w39.frozen? ⟨w31.heap.size, 0, none⟩ = false := X8.free 0
        have X8c1 : w39.cell? ⟨w31.heap.size, 1, none⟩ = some (.int .i64 q4) := X8.cell 1
        have X8f1 : w39.frozen? ⟨w31.heap.size, 1, none⟩ = false := X8.free 1
        have X8z : w31.heap.size < w39.heap.size := X8.lt
        go_wp2_with fail
        refine ((Mul_any a b p4 q4 _).mono fun _ _ => Ret.at M7).mono ?_
        rintro e w40 ⟨rfl, hb⟩
        clear X0c0 X0f0 X0c1 X0f1 X0z X8c0 X8f0 X8c1 X8f1 X8z
        have X12 := ((Box.newAt (w := w39) (n := w39.heap.size) [.int .i64 p10, .int .i64 q10] 23 (by simp))).later hb
        have X0 := ((X0.alloc (.cells #[.int .i64 p10, .int .i64 q10] 23))).later hb
        have X1 := ((X1.alloc (.cells #[.int .i64 p10, .int .i64 q10] 23))).later hb
        have X2 := ((X2.alloc (.cells #[.int .i64 p10, .int .i64 q10] 23))).later hb
        have X3 := ((X3.alloc (.cells #[.int .i64 p10, .int .i64 q10] 23))).later hb
        have X5 := ((X5.alloc (.cells #[.int .i64 p10, .int .i64 q10] 23))).later hb
        have X8 := ((X8.alloc (.cells #[.int .i64 p10, .int .i64 q10] 23))).later hb
        have hB := (hB.alloc hB.size (.cells #[.int .i64 p10, .int .i64 q10] 23)).trans (hb.mono (by have := hB.size; simp; omega))
        clear hb
        have X5c0 : w40.cell? ⟨w4.heap.size, 0, none⟩ = some (.int .i64 p2) := X5.cell 0
        have X5f0 : w40.frozen? ⟨w4.heap.size, 0, none⟩ = false := X5.free 0
        have X5c1 : w40.cell? ⟨w4.heap.size, 1, none⟩ = some (.int .i64 q2) := X5.cell 1
        have X5f1 : w40.frozen? ⟨w4.heap.size, 1, none⟩ = false := X5.free 1
        have X5z : w4.heap.size < w40.heap.size := X5.lt
        have X12c0 : w40.cell? ⟨w39.heap.size, 0, none⟩ = some (.int .i64 p10) := X12.cell 0
        have X12f0 : w40.frozen? ⟨w39.heap.size, 0, none⟩ = false := X12.free 0
        have X12c1 : w40.cell? ⟨w39.heap.size, 1, none⟩ = some (.int .i64 q10) := X12.cell 1
        have X12f1 : w40.frozen? ⟨w39.heap.size, 1, none⟩ = false := X12.free 1
        have X12z : w39.heap.size < w40.heap.size := X12.lt
        go_wp2_with fail
        refine ((Add_any p2 q2 p10 q10 _).mono fun _ _ => Ret.at A6).mono ?_
        rintro e w41 ⟨rfl, hb⟩
        clear X5c0 X5f0 X5c1 X5f1 X5z X12c0 X12f0 X12c1 X12f1 X12z
        have X13 := ((Box.newAt (w := w40) (n := w40.heap.size) [.int .i64 p11, .int .i64 q11] 23 (by simp))).later hb
        have X0 := ((X0.alloc (.cells #[.int .i64 p11, .int .i64 q11] 23))).later hb
        have X1 := ((X1.alloc (.cells #[.int .i64 p11, .int .i64 q11] 23))).later hb
        have X2 := ((X2.alloc (.cells #[.int .i64 p11, .int .i64 q11] 23))).later hb
        have X3 := ((X3.alloc (.cells #[.int .i64 p11, .int .i64 q11] 23))).later hb
        have X5 := ((X5.alloc (.cells #[.int .i64 p11, .int .i64 q11] 23))).later hb
        have X8 := ((X8.alloc (.cells #[.int .i64 p11, .int .i64 q11] 23))).later hb
        have X12 := ((X12.alloc (.cells #[.int .i64 p11, .int .i64 q11] 23))).later hb
        have hB := (hB.alloc hB.size (.cells #[.int .i64 p11, .int .i64 q11] 23)).trans (hb.mono (by have := hB.size; simp; omega))
        clear hb
        rcases C4.out with h1 | ⟨h1, h2⟩ | ⟨h1, h2, h3⟩ | ⟨h1, h2, h3, h4⟩ | ⟨h1, h2, h3, h4, h5⟩ | ⟨h1, h2, h3, h4, h5, rfl, rfl⟩
        · skip
          go_wp2
          go_ret
          exact ⟨rfl, (hB.alloc hB.size _)⟩
        · skip
          go_wp2
          go_ret
          exact ⟨rfl, (hB.alloc hB.size _)⟩
        · skip
          go_wp2
          go_ret
          exact ⟨rfl, (hB.alloc hB.size _)⟩
        · skip
          go_wp2
          go_ret
          exact ⟨rfl, (hB.alloc hB.size _)⟩
        · skip
          go_wp2
          go_ret
          exact ⟨rfl, (hB.alloc hB.size _)⟩
        · skip
          have X13c0 : w41.cell? ⟨w40.heap.size, 0, none⟩ = some (.int .i64 p11) := X13.cell 0
          have X13f0 : w41.frozen? ⟨w40.heap.size, 0, none⟩ = false := X13.free 0
          have X13c1 : w41.cell? ⟨w40.heap.size, 1, none⟩ = some (.int .i64 q11) := X13.cell 1
          have X13f1 : w41.frozen? ⟨w40.heap.size, 1, none⟩ = false := X13.free 1
          have X13z : w40.heap.size < w41.heap.size := X13.lt
          go_wp2_with fail
          refine ((Inside_any p11 q11 p12 q12 _).mono fun _ _ => RetO.at I2).mono ?_
          rintro e w42 ⟨rfl, hb⟩
          clear X13c0 X13f0 X13c1 X13f1 X13z
          have X14 := ((Box.newAt (w := w41) (n := w41.heap.size) [.int .i64 p12, .int .i64 q12] 23 (by simp))).later hb
          have X0 := ((X0.alloc (.cells #[.int .i64 p12, .int .i64 q12] 23))).later hb
          have X1 := ((X1.alloc (.cells #[.int .i64 p12, .int .i64 q12] 23))).later hb
          have X2 := ((X2.alloc (.cells #[.int .i64 p12, .int .i64 q12] 23))).later hb
          have X3 := ((X3.alloc (.cells #[.int .i64 p12, .int .i64 q12] 23))).later hb
          have X5 := ((X5.alloc (.cells #[.int .i64 p12, .int .i64 q12] 23))).later hb
          have X8 := ((X8.alloc (.cells #[.int .i64 p12, .int .i64 q12] 23))).later hb
          have X12 := ((X12.alloc (.cells #[.int .i64 p12, .int .i64 q12] 23))).later hb
          have X13 := ((X13.alloc (.cells #[.int .i64 p12, .int .i64 q12] 23))).later hb
          have hB := (hB.alloc hB.size (.cells #[.int .i64 p12, .int .i64 q12] 23)).trans (hb.mono (by have := hB.size; simp; omega))
          clear hb
          go_wp2
          go_ret
          exact ⟨rfl, hB⟩

end Go.Proofs.Ytmjbcmicjhgciaa
