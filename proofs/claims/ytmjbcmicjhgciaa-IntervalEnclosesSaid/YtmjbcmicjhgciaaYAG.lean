/-
  IntervalEncloses: the walk, a case a theorem. (Printed by gen_encl3.py.)
-/
import Derived.Test.YtmjbcmicjhgciaaZG
import Derived.Test.YtmjbcmicjhgciaaZL
import Derived.Test.YtmjbcmicjhgciaaZT
namespace Go.Proofs.Ytmjbcmicjhgciaa
open Go.RowKit

set_option maxRecDepth 100000 in
set_option maxHeartbeats 4000000 in
theorem encl_hi_ok_0 (a b c d x y : Int) (w : World) (_b1 : -1099511627776 ≤ a) (_b2 : a ≤ b) (_b3 : b ≤ 1099511627776) (_b4 : -1099511627776 ≤ c) (_b5 : c ≤ d) (_b6 : d ≤ 1099511627776) (_b7 : a ≤ x) (_b8 : x ≤ b) (_b9 : c ≤ y) (_b10 : y ≤ d) (h1 : Hid (okR a b = true)) (h2 : Hid (okR c d = true)) (h3 : Hid (holB a b x = true)) (h4 : Hid (holB c d y = true)) (H1 : Hid (addT a b c d = (0, 0, 2))) (_m1 : -1099511627776 ≤ a + c) (_n1 : 1099511627776 < b + d) (H2 : Hid (subT a b c d = (a - d, b - c, 0))) (J2 : Hid (holB (a - d) (b - c) (x - y) = true)) (H3 : Hid (mulT a b c d = (0, 0, 2))) (K0 : Hid (fitB a c = false))  : Calls Try.prog 6 #[rng a b, rng c d, .int .i64 x, .int .i64 y] w fun e w' => e = .returned (.bool true) ∧ Below w.heap.size w w' := by
  go_enter Try.func6, Try.ntmps6
  go_wp2_with fail
  refine (sane_any _).mono ?_
  rintro e w1 ⟨rfl, hb⟩
  have X0 := (((Box.newAt (n := w.heap.size) [.int .i64 a, .int .i64 b] 23 (by simp)).alloc _)).later hb
  have X1 := ((Box.newAt (n := w.heap.size + 1) [.int .i64 c, .int .i64 d] 23 (by simp))).later hb
  have hB : Below w.heap.size w w1 := ((((Below.refl w.heap.size w).alloc (by simp <;> omega) _).alloc (by simp <;> omega) _)).trans (hb.mono (by simp <;> omega))
  clear hb
  have X0c0 : w1.cell? ⟨w.heap.size, 0, none⟩ = some (.int .i64 a) := X0.cell 0
  have X0f0 : w1.frozen? ⟨w.heap.size, 0, none⟩ = false := X0.free 0
  have X0c1 : w1.cell? ⟨w.heap.size, 1, none⟩ = some (.int .i64 b) := X0.cell 1
  have X0f1 : w1.frozen? ⟨w.heap.size, 1, none⟩ = false := X0.free 1
  have X0z : w.heap.size < w1.heap.size := X0.lt
  go_wp2_with fail
  refine (Check_at (chk_yes h1.out) _).mono ?_
  rintro e w2 ⟨rfl, hb⟩
  clear X0c0 X0f0 X0c1 X0f1 X0z
  have X0 := X0.later hb
  have X1 := X1.later hb
  have hB := hB.trans (hb.mono hB.size)
  clear hb
  have X1c0 : w2.cell? ⟨w.heap.size + 1, 0, none⟩ = some (.int .i64 c) := X1.cell 0
  have X1f0 : w2.frozen? ⟨w.heap.size + 1, 0, none⟩ = false := X1.free 0
  have X1c1 : w2.cell? ⟨w.heap.size + 1, 1, none⟩ = some (.int .i64 d) := X1.cell 1
  have X1f1 : w2.frozen? ⟨w.heap.size + 1, 1, none⟩ = false := X1.free 1
  have X1z : w.heap.size + 1 < w2.heap.size := X1.lt
  go_wp2_with fail
  refine (Check_at (chk_yes h2.out) _).mono ?_
  rintro e w3 ⟨rfl, hb⟩
  clear X1c0 X1f0 X1c1 X1f1 X1z
  have X0 := X0.later hb
  have X1 := X1.later hb
  have hB := hB.trans (hb.mono hB.size)
  clear hb
  have X0c0 : w3.cell? ⟨w.heap.size, 0, none⟩ = some (.int .i64 a) := X0.cell 0
  have X0f0 : w3.frozen? ⟨w.heap.size, 0, none⟩ = false := X0.free 0
  have X0c1 : w3.cell? ⟨w.heap.size, 1, none⟩ = some (.int .i64 b) := X0.cell 1
  have X0f1 : w3.frozen? ⟨w.heap.size, 1, none⟩ = false := X0.free 1
  have X0z : w.heap.size < w3.heap.size := X0.lt
  go_wp2_with fail
  refine (holds_at h3.out _).mono ?_
  rintro e w4 ⟨rfl, hb⟩
  clear X0c0 X0f0 X0c1 X0f1 X0z
  have X0 := X0.later hb
  have X1 := X1.later hb
  have hB := hB.trans (hb.mono hB.size)
  clear hb
  have X1c0 : w4.cell? ⟨w.heap.size + 1, 0, none⟩ = some (.int .i64 c) := X1.cell 0
  have X1f0 : w4.frozen? ⟨w.heap.size + 1, 0, none⟩ = false := X1.free 0
  have X1c1 : w4.cell? ⟨w.heap.size + 1, 1, none⟩ = some (.int .i64 d) := X1.cell 1
  have X1f1 : w4.frozen? ⟨w.heap.size + 1, 1, none⟩ = false := X1.free 1
  have X1z : w.heap.size + 1 < w4.heap.size := X1.lt
  go_wp2_with fail
  refine (holds_at h4.out _).mono ?_
  rintro e w5 ⟨rfl, hb⟩
  clear X1c0 X1f0 X1c1 X1f1 X1z
  have X0 := X0.later hb
  have X1 := X1.later hb
  have hB := hB.trans (hb.mono hB.size)
  clear hb
  have X0c0 : w5.cell? ⟨w.heap.size, 0, none⟩ = some (.int .i64 a) := X0.cell 0
  have X0f0 : w5.frozen? ⟨w.heap.size, 0, none⟩ = false := X0.free 0
  have X0c1 : w5.cell? ⟨w.heap.size, 1, none⟩ = some (.int .i64 b) := X0.cell 1
  have X0f1 : w5.frozen? ⟨w.heap.size, 1, none⟩ = false := X0.free 1
  have X0z : w.heap.size < w5.heap.size := X0.lt
  have X1c0 : w5.cell? ⟨w.heap.size + 1, 0, none⟩ = some (.int .i64 c) := X1.cell 0
  have X1f0 : w5.frozen? ⟨w.heap.size + 1, 0, none⟩ = false := X1.free 0
  have X1c1 : w5.cell? ⟨w.heap.size + 1, 1, none⟩ = some (.int .i64 d) := X1.cell 1
  have X1f1 : w5.frozen? ⟨w.heap.size + 1, 1, none⟩ = false := X1.free 1
  have X1z : w.heap.size + 1 < w5.heap.size := X1.lt
  go_wp2_with fail
  refine ((Add_any a b c d _).mono fun _ _ => Ret.at H1).mono ?_
  rintro e w6 ⟨rfl, hb⟩
  clear X0c0 X0f0 X0c1 X0f1 X0z X1c0 X1f0 X1c1 X1f1 X1z
  have X0 := X0.later hb
  have X1 := X1.later hb
  have hB := hB.trans (hb.mono hB.size)
  clear hb
  have X0c0 : w6.cell? ⟨w.heap.size, 0, none⟩ = some (.int .i64 a) := X0.cell 0
  have X0f0 : w6.frozen? ⟨w.heap.size, 0, none⟩ = false := X0.free 0
  have X0c1 : w6.cell? ⟨w.heap.size, 1, none⟩ = some (.int .i64 b) := X0.cell 1
  have X0f1 : w6.frozen? ⟨w.heap.size, 1, none⟩ = false := X0.free 1
  have X0z : w.heap.size < w6.heap.size := X0.lt
  have X1c0 : w6.cell? ⟨w.heap.size + 1, 0, none⟩ = some (.int .i64 c) := X1.cell 0
  have X1f0 : w6.frozen? ⟨w.heap.size + 1, 0, none⟩ = false := X1.free 0
  have X1c1 : w6.cell? ⟨w.heap.size + 1, 1, none⟩ = some (.int .i64 d) := X1.cell 1
  have X1f1 : w6.frozen? ⟨w.heap.size + 1, 1, none⟩ = false := X1.free 1
  have X1z : w.heap.size + 1 < w6.heap.size := X1.lt
  go_wp2_with fail
  refine ((Sub_any a b c d _).mono fun _ _ => Ret.at H2).mono ?_
  rintro e w7 ⟨rfl, hb⟩
  clear X0c0 X0f0 X0c1 X0f1 X0z X1c0 X1f0 X1c1 X1f1 X1z
  have X2 := ((Box.newAt (w := w6) (n := w6.heap.size) [.int .i64 0, .int .i64 0] 23 (by simp))).later hb
  have X0 := ((X0.alloc (.cells #[.int .i64 0, .int .i64 0] 23))).later hb
  have X1 := ((X1.alloc (.cells #[.int .i64 0, .int .i64 0] 23))).later hb
  have hB := (hB.alloc hB.size (.cells #[.int .i64 0, .int .i64 0] 23)).trans (hb.mono (by have := hB.size; simp; omega))
  clear hb
  have X0c0 : w7.cell? ⟨w.heap.size, 0, none⟩ = some (.int .i64 a) := X0.cell 0
  have X0f0 : w7.frozen? ⟨w.heap.size, 0, none⟩ = false := X0.free 0
  have X0c1 : w7.cell? ⟨w.heap.size, 1, none⟩ = some (.int .i64 b) := X0.cell 1
  have X0f1 : w7.frozen? ⟨w.heap.size, 1, none⟩ = false := X0.free 1
  have X0z : w.heap.size < w7.heap.size := X0.lt
  have X1c0 : w7.cell? ⟨w.heap.size + 1, 0, none⟩ = some (.int .i64 c) := X1.cell 0
  have X1f0 : w7.frozen? ⟨w.heap.size + 1, 0, none⟩ = false := X1.free 0
  have X1c1 : w7.cell? ⟨w.heap.size + 1, 1, none⟩ = some (.int .i64 d) := X1.cell 1
  have X1f1 : w7.frozen? ⟨w.heap.size + 1, 1, none⟩ = false := X1.free 1
  have X1z : w.heap.size + 1 < w7.heap.size := X1.lt
  go_wp2_with fail
  refine ((Mul_any a b c d _).mono fun _ _ => Ret.at H3).mono ?_
  rintro e w8 ⟨rfl, hb⟩
  clear X0c0 X0f0 X0c1 X0f1 X0z X1c0 X1f0 X1c1 X1f1 X1z
  have X3 := ((Box.newAt (w := w7) (n := w7.heap.size) [.int .i64 (a - d), .int .i64 (b - c)] 23 (by simp))).later hb
  have X0 := ((X0.alloc (.cells #[.int .i64 (a - d), .int .i64 (b - c)] 23))).later hb
  have X1 := ((X1.alloc (.cells #[.int .i64 (a - d), .int .i64 (b - c)] 23))).later hb
  have X2 := ((X2.alloc (.cells #[.int .i64 (a - d), .int .i64 (b - c)] 23))).later hb
  have hB := (hB.alloc hB.size (.cells #[.int .i64 (a - d), .int .i64 (b - c)] 23)).trans (hb.mono (by have := hB.size; simp; omega))
  clear hb
  have X0c0 : w8.cell? ⟨w.heap.size, 0, none⟩ = some (.int .i64 a) := X0.cell 0
  have X0f0 : w8.frozen? ⟨w.heap.size, 0, none⟩ = false := X0.free 0
  have X0c1 : w8.cell? ⟨w.heap.size, 1, none⟩ = some (.int .i64 b) := X0.cell 1
  have X0f1 : w8.frozen? ⟨w.heap.size, 1, none⟩ = false := X0.free 1
  have X0z : w.heap.size < w8.heap.size := X0.lt
  have X1c0 : w8.cell? ⟨w.heap.size + 1, 0, none⟩ = some (.int .i64 c) := X1.cell 0
  have X1f0 : w8.frozen? ⟨w.heap.size + 1, 0, none⟩ = false := X1.free 0
  have X1c1 : w8.cell? ⟨w.heap.size + 1, 1, none⟩ = some (.int .i64 d) := X1.cell 1
  have X1f1 : w8.frozen? ⟨w.heap.size + 1, 1, none⟩ = false := X1.free 1
  have X1z : w.heap.size + 1 < w8.heap.size := X1.lt
  have X3c0 : w8.cell? ⟨w7.heap.size, 0, none⟩ = some (.int .i64 (a - d)) := X3.cell 0
  have X3f0 : w8.frozen? ⟨w7.heap.size, 0, none⟩ = false := X3.free 0
  have X3c1 : w8.cell? ⟨w7.heap.size, 1, none⟩ = some (.int .i64 (b - c)) := X3.cell 1
  have X3f1 : w8.frozen? ⟨w7.heap.size, 1, none⟩ = false := X3.free 1
  have X3z : w7.heap.size < w8.heap.size := X3.lt
  go_wp2_with fail
  refine (holds_at J2.out _).mono ?_
  rintro e w9 ⟨rfl, hb⟩
  clear X0c0 X0f0 X0c1 X0f1 X0z X1c0 X1f0 X1c1 X1f1 X1z X3c0 X3f0 X3c1 X3f1 X3z
  have X4 := ((Box.newAt (w := w8) (n := w8.heap.size) [.int .i64 0, .int .i64 0] 23 (by simp))).later hb
  have X0 := ((X0.alloc (.cells #[.int .i64 0, .int .i64 0] 23))).later hb
  have X1 := ((X1.alloc (.cells #[.int .i64 0, .int .i64 0] 23))).later hb
  have X2 := ((X2.alloc (.cells #[.int .i64 0, .int .i64 0] 23))).later hb
  have X3 := ((X3.alloc (.cells #[.int .i64 0, .int .i64 0] 23))).later hb
  have hB := (hB.alloc hB.size (.cells #[.int .i64 0, .int .i64 0] 23)).trans (hb.mono (by have := hB.size; simp; omega))
  clear hb
  have X0c0 : w9.cell? ⟨w.heap.size, 0, none⟩ = some (.int .i64 a) := X0.cell 0
  have X0f0 : w9.frozen? ⟨w.heap.size, 0, none⟩ = false := X0.free 0
  have X0c1 : w9.cell? ⟨w.heap.size, 1, none⟩ = some (.int .i64 b) := X0.cell 1
  have X0f1 : w9.frozen? ⟨w.heap.size, 1, none⟩ = false := X0.free 1
  have X0z : w.heap.size < w9.heap.size := X0.lt
  have X1c0 : w9.cell? ⟨w.heap.size + 1, 0, none⟩ = some (.int .i64 c) := X1.cell 0
  have X1f0 : w9.frozen? ⟨w.heap.size + 1, 0, none⟩ = false := X1.free 0
  have X1c1 : w9.cell? ⟨w.heap.size + 1, 1, none⟩ = some (.int .i64 d) := X1.cell 1
  have X1f1 : w9.frozen? ⟨w.heap.size + 1, 1, none⟩ = false := X1.free 1
  have X1z : w.heap.size + 1 < w9.heap.size := X1.lt
  have X3c0 : w9.cell? ⟨w7.heap.size, 0, none⟩ = some (.int .i64 (a - d)) := X3.cell 0
  have X3f0 : w9.frozen? ⟨w7.heap.size, 0, none⟩ = false := X3.free 0
  have X3c1 : w9.cell? ⟨w7.heap.size, 1, none⟩ = some (.int .i64 (b - c)) := X3.cell 1
  have X3f1 : w9.frozen? ⟨w7.heap.size, 1, none⟩ = false := X3.free 1
  have X3z : w7.heap.size < w9.heap.size := X3.lt
  go_wp2_with fail
  refine (Fits_at K0.out ⟨by omega, by omega⟩ ⟨by omega, by omega⟩ _).mono ?_
  rintro e w10 ⟨rfl, hb⟩
  clear X0c0 X0f0 X0c1 X0f1 X0z X1c0 X1f0 X1c1 X1f1 X1z X3c0 X3f0 X3c1 X3f1 X3z
  have X0 := X0.later hb
  have X1 := X1.later hb
  have X2 := X2.later hb
  have X3 := X3.later hb
  have X4 := X4.later hb
  have hB := hB.trans (hb.mono hB.size)
  clear hb
  have X0c0 : w10.cell? ⟨w.heap.size, 0, none⟩ = some (.int .i64 a) := X0.cell 0
  have X0f0 : w10.frozen? ⟨w.heap.size, 0, none⟩ = false := X0.free 0
  have X0c1 : w10.cell? ⟨w.heap.size, 1, none⟩ = some (.int .i64 b) := X0.cell 1
  have X0f1 : w10.frozen? ⟨w.heap.size, 1, none⟩ = false := X0.free 1
  have X0z : w.heap.size < w10.heap.size := X0.lt
  have X1c0 : w10.cell? ⟨w.heap.size + 1, 0, none⟩ = some (.int .i64 c) := X1.cell 0
  have X1f0 : w10.frozen? ⟨w.heap.size + 1, 0, none⟩ = false := X1.free 0
  have X1c1 : w10.cell? ⟨w.heap.size + 1, 1, none⟩ = some (.int .i64 d) := X1.cell 1
  have X1f1 : w10.frozen? ⟨w.heap.size + 1, 1, none⟩ = false := X1.free 1
  have X1z : w.heap.size + 1 < w10.heap.size := X1.lt
  go_wp2
  go_ret
  exact ⟨rfl, hB⟩

set_option maxRecDepth 100000 in
set_option maxHeartbeats 4000000 in
theorem encl_hi_ok_1 (a b c d x y : Int) (w : World) (_b1 : -1099511627776 ≤ a) (_b2 : a ≤ b) (_b3 : b ≤ 1099511627776) (_b4 : -1099511627776 ≤ c) (_b5 : c ≤ d) (_b6 : d ≤ 1099511627776) (_b7 : a ≤ x) (_b8 : x ≤ b) (_b9 : c ≤ y) (_b10 : y ≤ d) (h1 : Hid (okR a b = true)) (h2 : Hid (okR c d = true)) (h3 : Hid (holB a b x = true)) (h4 : Hid (holB c d y = true)) (H1 : Hid (addT a b c d = (0, 0, 2))) (_m1 : -1099511627776 ≤ a + c) (_n1 : 1099511627776 < b + d) (H2 : Hid (subT a b c d = (a - d, b - c, 0))) (J2 : Hid (holB (a - d) (b - c) (x - y) = true)) (H3 : Hid (mulT a b c d = (0, 0, 2))) (K0 : Hid (fitB a c = true)) (K1 : Hid (fitB a d = false))  : Calls Try.prog 6 #[rng a b, rng c d, .int .i64 x, .int .i64 y] w fun e w' => e = .returned (.bool true) ∧ Below w.heap.size w w' := by
  go_enter Try.func6, Try.ntmps6
  go_wp2_with fail
  refine (sane_any _).mono ?_
  rintro e w1 ⟨rfl, hb⟩
  have X0 := (((Box.newAt (n := w.heap.size) [.int .i64 a, .int .i64 b] 23 (by simp)).alloc _)).later hb
  have X1 := ((Box.newAt (n := w.heap.size + 1) [.int .i64 c, .int .i64 d] 23 (by simp))).later hb
  have hB : Below w.heap.size w w1 := ((((Below.refl w.heap.size w).alloc (by simp <;> omega) _).alloc (by simp <;> omega) _)).trans (hb.mono (by simp <;> omega))
  clear hb
  have X0c0 : w1.cell? ⟨w.heap.size, 0, none⟩ = some (.int .i64 a) := X0.cell 0
  have X0f0 : w1.frozen? ⟨w.heap.size, 0, none⟩ = false := X0.free 0
  have X0c1 : w1.cell? ⟨w.heap.size, 1, none⟩ = some (.int .i64 b) := X0.cell 1
  have X0f1 : w1.frozen? ⟨w.heap.size, 1, none⟩ = false := X0.free 1
  have X0z : w.heap.size < w1.heap.size := X0.lt
  go_wp2_with fail
  refine (Check_at (chk_yes h1.out) _).mono ?_
  rintro e w2 ⟨rfl, hb⟩
  clear X0c0 X0f0 X0c1 X0f1 X0z
  have X0 := X0.later hb
  have X1 := X1.later hb
  have hB := hB.trans (hb.mono hB.size)
  clear hb
  have X1c0 : w2.cell? ⟨w.heap.size + 1, 0, none⟩ = some (.int .i64 c) := X1.cell 0
  have X1f0 : w2.frozen? ⟨w.heap.size + 1, 0, none⟩ = false := X1.free 0
  have X1c1 : w2.cell? ⟨w.heap.size + 1, 1, none⟩ = some (.int .i64 d) := X1.cell 1
  have X1f1 : w2.frozen? ⟨w.heap.size + 1, 1, none⟩ = false := X1.free 1
  have X1z : w.heap.size + 1 < w2.heap.size := X1.lt
  go_wp2_with fail
  refine (Check_at (chk_yes h2.out) _).mono ?_
  rintro e w3 ⟨rfl, hb⟩
  clear X1c0 X1f0 X1c1 X1f1 X1z
  have X0 := X0.later hb
  have X1 := X1.later hb
  have hB := hB.trans (hb.mono hB.size)
  clear hb
  have X0c0 : w3.cell? ⟨w.heap.size, 0, none⟩ = some (.int .i64 a) := X0.cell 0
  have X0f0 : w3.frozen? ⟨w.heap.size, 0, none⟩ = false := X0.free 0
  have X0c1 : w3.cell? ⟨w.heap.size, 1, none⟩ = some (.int .i64 b) := X0.cell 1
  have X0f1 : w3.frozen? ⟨w.heap.size, 1, none⟩ = false := X0.free 1
  have X0z : w.heap.size < w3.heap.size := X0.lt
  go_wp2_with fail
  refine (holds_at h3.out _).mono ?_
  rintro e w4 ⟨rfl, hb⟩
  clear X0c0 X0f0 X0c1 X0f1 X0z
  have X0 := X0.later hb
  have X1 := X1.later hb
  have hB := hB.trans (hb.mono hB.size)
  clear hb
  have X1c0 : w4.cell? ⟨w.heap.size + 1, 0, none⟩ = some (.int .i64 c) := X1.cell 0
  have X1f0 : w4.frozen? ⟨w.heap.size + 1, 0, none⟩ = false := X1.free 0
  have X1c1 : w4.cell? ⟨w.heap.size + 1, 1, none⟩ = some (.int .i64 d) := X1.cell 1
  have X1f1 : w4.frozen? ⟨w.heap.size + 1, 1, none⟩ = false := X1.free 1
  have X1z : w.heap.size + 1 < w4.heap.size := X1.lt
  go_wp2_with fail
  refine (holds_at h4.out _).mono ?_
  rintro e w5 ⟨rfl, hb⟩
  clear X1c0 X1f0 X1c1 X1f1 X1z
  have X0 := X0.later hb
  have X1 := X1.later hb
  have hB := hB.trans (hb.mono hB.size)
  clear hb
  have X0c0 : w5.cell? ⟨w.heap.size, 0, none⟩ = some (.int .i64 a) := X0.cell 0
  have X0f0 : w5.frozen? ⟨w.heap.size, 0, none⟩ = false := X0.free 0
  have X0c1 : w5.cell? ⟨w.heap.size, 1, none⟩ = some (.int .i64 b) := X0.cell 1
  have X0f1 : w5.frozen? ⟨w.heap.size, 1, none⟩ = false := X0.free 1
  have X0z : w.heap.size < w5.heap.size := X0.lt
  have X1c0 : w5.cell? ⟨w.heap.size + 1, 0, none⟩ = some (.int .i64 c) := X1.cell 0
  have X1f0 : w5.frozen? ⟨w.heap.size + 1, 0, none⟩ = false := X1.free 0
  have X1c1 : w5.cell? ⟨w.heap.size + 1, 1, none⟩ = some (.int .i64 d) := X1.cell 1
  have X1f1 : w5.frozen? ⟨w.heap.size + 1, 1, none⟩ = false := X1.free 1
  have X1z : w.heap.size + 1 < w5.heap.size := X1.lt
  go_wp2_with fail
  refine ((Add_any a b c d _).mono fun _ _ => Ret.at H1).mono ?_
  rintro e w6 ⟨rfl, hb⟩
  clear X0c0 X0f0 X0c1 X0f1 X0z X1c0 X1f0 X1c1 X1f1 X1z
  have X0 := X0.later hb
  have X1 := X1.later hb
  have hB := hB.trans (hb.mono hB.size)
  clear hb
  have X0c0 : w6.cell? ⟨w.heap.size, 0, none⟩ = some (.int .i64 a) := X0.cell 0
  have X0f0 : w6.frozen? ⟨w.heap.size, 0, none⟩ = false := X0.free 0
  have X0c1 : w6.cell? ⟨w.heap.size, 1, none⟩ = some (.int .i64 b) := X0.cell 1
  have X0f1 : w6.frozen? ⟨w.heap.size, 1, none⟩ = false := X0.free 1
  have X0z : w.heap.size < w6.heap.size := X0.lt
  have X1c0 : w6.cell? ⟨w.heap.size + 1, 0, none⟩ = some (.int .i64 c) := X1.cell 0
  have X1f0 : w6.frozen? ⟨w.heap.size + 1, 0, none⟩ = false := X1.free 0
  have X1c1 : w6.cell? ⟨w.heap.size + 1, 1, none⟩ = some (.int .i64 d) := X1.cell 1
  have X1f1 : w6.frozen? ⟨w.heap.size + 1, 1, none⟩ = false := X1.free 1
  have X1z : w.heap.size + 1 < w6.heap.size := X1.lt
  go_wp2_with fail
  refine ((Sub_any a b c d _).mono fun _ _ => Ret.at H2).mono ?_
  rintro e w7 ⟨rfl, hb⟩
  clear X0c0 X0f0 X0c1 X0f1 X0z X1c0 X1f0 X1c1 X1f1 X1z
  have X2 := ((Box.newAt (w := w6) (n := w6.heap.size) [.int .i64 0, .int .i64 0] 23 (by simp))).later hb
  have X0 := ((X0.alloc (.cells #[.int .i64 0, .int .i64 0] 23))).later hb
  have X1 := ((X1.alloc (.cells #[.int .i64 0, .int .i64 0] 23))).later hb
  have hB := (hB.alloc hB.size (.cells #[.int .i64 0, .int .i64 0] 23)).trans (hb.mono (by have := hB.size; simp; omega))
  clear hb
  have X0c0 : w7.cell? ⟨w.heap.size, 0, none⟩ = some (.int .i64 a) := X0.cell 0
  have X0f0 : w7.frozen? ⟨w.heap.size, 0, none⟩ = false := X0.free 0
  have X0c1 : w7.cell? ⟨w.heap.size, 1, none⟩ = some (.int .i64 b) := X0.cell 1
  have X0f1 : w7.frozen? ⟨w.heap.size, 1, none⟩ = false := X0.free 1
  have X0z : w.heap.size < w7.heap.size := X0.lt
  have X1c0 : w7.cell? ⟨w.heap.size + 1, 0, none⟩ = some (.int .i64 c) := X1.cell 0
  have X1f0 : w7.frozen? ⟨w.heap.size + 1, 0, none⟩ = false := X1.free 0
  have X1c1 : w7.cell? ⟨w.heap.size + 1, 1, none⟩ = some (.int .i64 d) := X1.cell 1
  have X1f1 : w7.frozen? ⟨w.heap.size + 1, 1, none⟩ = false := X1.free 1
  have X1z : w.heap.size + 1 < w7.heap.size := X1.lt
  go_wp2_with fail
  refine ((Mul_any a b c d _).mono fun _ _ => Ret.at H3).mono ?_
  rintro e w8 ⟨rfl, hb⟩
  clear X0c0 X0f0 X0c1 X0f1 X0z X1c0 X1f0 X1c1 X1f1 X1z
  have X3 := ((Box.newAt (w := w7) (n := w7.heap.size) [.int .i64 (a - d), .int .i64 (b - c)] 23 (by simp))).later hb
  have X0 := ((X0.alloc (.cells #[.int .i64 (a - d), .int .i64 (b - c)] 23))).later hb
  have X1 := ((X1.alloc (.cells #[.int .i64 (a - d), .int .i64 (b - c)] 23))).later hb
  have X2 := ((X2.alloc (.cells #[.int .i64 (a - d), .int .i64 (b - c)] 23))).later hb
  have hB := (hB.alloc hB.size (.cells #[.int .i64 (a - d), .int .i64 (b - c)] 23)).trans (hb.mono (by have := hB.size; simp; omega))
  clear hb
  have X0c0 : w8.cell? ⟨w.heap.size, 0, none⟩ = some (.int .i64 a) := X0.cell 0
  have X0f0 : w8.frozen? ⟨w.heap.size, 0, none⟩ = false := X0.free 0
  have X0c1 : w8.cell? ⟨w.heap.size, 1, none⟩ = some (.int .i64 b) := X0.cell 1
  have X0f1 : w8.frozen? ⟨w.heap.size, 1, none⟩ = false := X0.free 1
  have X0z : w.heap.size < w8.heap.size := X0.lt
  have X1c0 : w8.cell? ⟨w.heap.size + 1, 0, none⟩ = some (.int .i64 c) := X1.cell 0
  have X1f0 : w8.frozen? ⟨w.heap.size + 1, 0, none⟩ = false := X1.free 0
  have X1c1 : w8.cell? ⟨w.heap.size + 1, 1, none⟩ = some (.int .i64 d) := X1.cell 1
  have X1f1 : w8.frozen? ⟨w.heap.size + 1, 1, none⟩ = false := X1.free 1
  have X1z : w.heap.size + 1 < w8.heap.size := X1.lt
  have X3c0 : w8.cell? ⟨w7.heap.size, 0, none⟩ = some (.int .i64 (a - d)) := X3.cell 0
  have X3f0 : w8.frozen? ⟨w7.heap.size, 0, none⟩ = false := X3.free 0
  have X3c1 : w8.cell? ⟨w7.heap.size, 1, none⟩ = some (.int .i64 (b - c)) := X3.cell 1
  have X3f1 : w8.frozen? ⟨w7.heap.size, 1, none⟩ = false := X3.free 1
  have X3z : w7.heap.size < w8.heap.size := X3.lt
  go_wp2_with fail
  refine (holds_at J2.out _).mono ?_
  rintro e w9 ⟨rfl, hb⟩
  clear X0c0 X0f0 X0c1 X0f1 X0z X1c0 X1f0 X1c1 X1f1 X1z X3c0 X3f0 X3c1 X3f1 X3z
  have X4 := ((Box.newAt (w := w8) (n := w8.heap.size) [.int .i64 0, .int .i64 0] 23 (by simp))).later hb
  have X0 := ((X0.alloc (.cells #[.int .i64 0, .int .i64 0] 23))).later hb
  have X1 := ((X1.alloc (.cells #[.int .i64 0, .int .i64 0] 23))).later hb
  have X2 := ((X2.alloc (.cells #[.int .i64 0, .int .i64 0] 23))).later hb
  have X3 := ((X3.alloc (.cells #[.int .i64 0, .int .i64 0] 23))).later hb
  have hB := (hB.alloc hB.size (.cells #[.int .i64 0, .int .i64 0] 23)).trans (hb.mono (by have := hB.size; simp; omega))
  clear hb
  have X0c0 : w9.cell? ⟨w.heap.size, 0, none⟩ = some (.int .i64 a) := X0.cell 0
  have X0f0 : w9.frozen? ⟨w.heap.size, 0, none⟩ = false := X0.free 0
  have X0c1 : w9.cell? ⟨w.heap.size, 1, none⟩ = some (.int .i64 b) := X0.cell 1
  have X0f1 : w9.frozen? ⟨w.heap.size, 1, none⟩ = false := X0.free 1
  have X0z : w.heap.size < w9.heap.size := X0.lt
  have X1c0 : w9.cell? ⟨w.heap.size + 1, 0, none⟩ = some (.int .i64 c) := X1.cell 0
  have X1f0 : w9.frozen? ⟨w.heap.size + 1, 0, none⟩ = false := X1.free 0
  have X1c1 : w9.cell? ⟨w.heap.size + 1, 1, none⟩ = some (.int .i64 d) := X1.cell 1
  have X1f1 : w9.frozen? ⟨w.heap.size + 1, 1, none⟩ = false := X1.free 1
  have X1z : w.heap.size + 1 < w9.heap.size := X1.lt
  have X3c0 : w9.cell? ⟨w7.heap.size, 0, none⟩ = some (.int .i64 (a - d)) := X3.cell 0
  have X3f0 : w9.frozen? ⟨w7.heap.size, 0, none⟩ = false := X3.free 0
  have X3c1 : w9.cell? ⟨w7.heap.size, 1, none⟩ = some (.int .i64 (b - c)) := X3.cell 1
  have X3f1 : w9.frozen? ⟨w7.heap.size, 1, none⟩ = false := X3.free 1
  have X3z : w7.heap.size < w9.heap.size := X3.lt
  go_wp2_with fail
  refine (Fits_at K0.out ⟨by omega, by omega⟩ ⟨by omega, by omega⟩ _).mono ?_
  rintro e w10 ⟨rfl, hb⟩
  clear X0c0 X0f0 X0c1 X0f1 X0z X1c0 X1f0 X1c1 X1f1 X1z X3c0 X3f0 X3c1 X3f1 X3z
  have X0 := X0.later hb
  have X1 := X1.later hb
  have X2 := X2.later hb
  have X3 := X3.later hb
  have X4 := X4.later hb
  have hB := hB.trans (hb.mono hB.size)
  clear hb
  have X0c0 : w10.cell? ⟨w.heap.size, 0, none⟩ = some (.int .i64 a) := X0.cell 0
  have X0f0 : w10.frozen? ⟨w.heap.size, 0, none⟩ = false := X0.free 0
  have X0c1 : w10.cell? ⟨w.heap.size, 1, none⟩ = some (.int .i64 b) := X0.cell 1
  have X0f1 : w10.frozen? ⟨w.heap.size, 1, none⟩ = false := X0.free 1
  have X0z : w.heap.size < w10.heap.size := X0.lt
  have X1c0 : w10.cell? ⟨w.heap.size + 1, 0, none⟩ = some (.int .i64 c) := X1.cell 0
  have X1f0 : w10.frozen? ⟨w.heap.size + 1, 0, none⟩ = false := X1.free 0
  have X1c1 : w10.cell? ⟨w.heap.size + 1, 1, none⟩ = some (.int .i64 d) := X1.cell 1
  have X1f1 : w10.frozen? ⟨w.heap.size + 1, 1, none⟩ = false := X1.free 1
  have X1z : w.heap.size + 1 < w10.heap.size := X1.lt
  go_wp2_with fail
  refine (Fits_at K1.out ⟨by omega, by omega⟩ ⟨by omega, by omega⟩ _).mono ?_
  rintro e w11 ⟨rfl, hb⟩
  clear X0c0 X0f0 X0c1 X0f1 X0z X1c0 X1f0 X1c1 X1f1 X1z
  have X0 := X0.later hb
  have X1 := X1.later hb
  have X2 := X2.later hb
  have X3 := X3.later hb
  have X4 := X4.later hb
  have hB := hB.trans (hb.mono hB.size)
  clear hb
  have X0c0 : w11.cell? ⟨w.heap.size, 0, none⟩ = some (.int .i64 a) := X0.cell 0
  have X0f0 : w11.frozen? ⟨w.heap.size, 0, none⟩ = false := X0.free 0
  have X0c1 : w11.cell? ⟨w.heap.size, 1, none⟩ = some (.int .i64 b) := X0.cell 1
  have X0f1 : w11.frozen? ⟨w.heap.size, 1, none⟩ = false := X0.free 1
  have X0z : w.heap.size < w11.heap.size := X0.lt
  have X1c0 : w11.cell? ⟨w.heap.size + 1, 0, none⟩ = some (.int .i64 c) := X1.cell 0
  have X1f0 : w11.frozen? ⟨w.heap.size + 1, 0, none⟩ = false := X1.free 0
  have X1c1 : w11.cell? ⟨w.heap.size + 1, 1, none⟩ = some (.int .i64 d) := X1.cell 1
  have X1f1 : w11.frozen? ⟨w.heap.size + 1, 1, none⟩ = false := X1.free 1
  have X1z : w.heap.size + 1 < w11.heap.size := X1.lt
  go_wp2
  go_ret
  exact ⟨rfl, hB⟩

set_option maxRecDepth 100000 in
set_option maxHeartbeats 4000000 in
theorem encl_hi_ok_2 (a b c d x y : Int) (w : World) (_b1 : -1099511627776 ≤ a) (_b2 : a ≤ b) (_b3 : b ≤ 1099511627776) (_b4 : -1099511627776 ≤ c) (_b5 : c ≤ d) (_b6 : d ≤ 1099511627776) (_b7 : a ≤ x) (_b8 : x ≤ b) (_b9 : c ≤ y) (_b10 : y ≤ d) (h1 : Hid (okR a b = true)) (h2 : Hid (okR c d = true)) (h3 : Hid (holB a b x = true)) (h4 : Hid (holB c d y = true)) (H1 : Hid (addT a b c d = (0, 0, 2))) (_m1 : -1099511627776 ≤ a + c) (_n1 : 1099511627776 < b + d) (H2 : Hid (subT a b c d = (a - d, b - c, 0))) (J2 : Hid (holB (a - d) (b - c) (x - y) = true)) (H3 : Hid (mulT a b c d = (0, 0, 2))) (K0 : Hid (fitB a c = true)) (K1 : Hid (fitB a d = true)) (K2 : Hid (fitB b c = false))  : Calls Try.prog 6 #[rng a b, rng c d, .int .i64 x, .int .i64 y] w fun e w' => e = .returned (.bool true) ∧ Below w.heap.size w w' := by
  go_enter Try.func6, Try.ntmps6
  go_wp2_with fail
  refine (sane_any _).mono ?_
  rintro e w1 ⟨rfl, hb⟩
  have X0 := (((Box.newAt (n := w.heap.size) [.int .i64 a, .int .i64 b] 23 (by simp)).alloc _)).later hb
  have X1 := ((Box.newAt (n := w.heap.size + 1) [.int .i64 c, .int .i64 d] 23 (by simp))).later hb
  have hB : Below w.heap.size w w1 := ((((Below.refl w.heap.size w).alloc (by simp <;> omega) _).alloc (by simp <;> omega) _)).trans (hb.mono (by simp <;> omega))
  clear hb
  have X0c0 : w1.cell? ⟨w.heap.size, 0, none⟩ = some (.int .i64 a) := X0.cell 0
  have X0f0 : w1.frozen? ⟨w.heap.size, 0, none⟩ = false := X0.free 0
  have X0c1 : w1.cell? ⟨w.heap.size, 1, none⟩ = some (.int .i64 b) := X0.cell 1
  have X0f1 : w1.frozen? ⟨w.heap.size, 1, none⟩ = false := X0.free 1
  have X0z : w.heap.size < w1.heap.size := X0.lt
  go_wp2_with fail
  refine (Check_at (chk_yes h1.out) _).mono ?_
  rintro e w2 ⟨rfl, hb⟩
  clear X0c0 X0f0 X0c1 X0f1 X0z
  have X0 := X0.later hb
  have X1 := X1.later hb
  have hB := hB.trans (hb.mono hB.size)
  clear hb
  have X1c0 : w2.cell? ⟨w.heap.size + 1, 0, none⟩ = some (.int .i64 c) := X1.cell 0
  have X1f0 : w2.frozen? ⟨w.heap.size + 1, 0, none⟩ = false := X1.free 0
  have X1c1 : w2.cell? ⟨w.heap.size + 1, 1, none⟩ = some (.int .i64 d) := X1.cell 1
  have X1f1 : w2.frozen? ⟨w.heap.size + 1, 1, none⟩ = false := X1.free 1
  have X1z : w.heap.size + 1 < w2.heap.size := X1.lt
  go_wp2_with fail
  refine (Check_at (chk_yes h2.out) _).mono ?_
  rintro e w3 ⟨rfl, hb⟩
  clear X1c0 X1f0 X1c1 X1f1 X1z
  have X0 := X0.later hb
  have X1 := X1.later hb
  have hB := hB.trans (hb.mono hB.size)
  clear hb
  have X0c0 : w3.cell? ⟨w.heap.size, 0, none⟩ = some (.int .i64 a) := X0.cell 0
  have X0f0 : w3.frozen? ⟨w.heap.size, 0, none⟩ = false := X0.free 0
  have X0c1 : w3.cell? ⟨w.heap.size, 1, none⟩ = some (.int .i64 b) := X0.cell 1
  have X0f1 : w3.frozen? ⟨w.heap.size, 1, none⟩ = false := X0.free 1
  have X0z : w.heap.size < w3.heap.size := X0.lt
  go_wp2_with fail
  refine (holds_at h3.out _).mono ?_
  rintro e w4 ⟨rfl, hb⟩
  clear X0c0 X0f0 X0c1 X0f1 X0z
  have X0 := X0.later hb
  have X1 := X1.later hb
  have hB := hB.trans (hb.mono hB.size)
  clear hb
  have X1c0 : w4.cell? ⟨w.heap.size + 1, 0, none⟩ = some (.int .i64 c) := X1.cell 0
  have X1f0 : w4.frozen? ⟨w.heap.size + 1, 0, none⟩ = false := X1.free 0
  have X1c1 : w4.cell? ⟨w.heap.size + 1, 1, none⟩ = some (.int .i64 d) := X1.cell 1
  have X1f1 : w4.frozen? ⟨w.heap.size + 1, 1, none⟩ = false := X1.free 1
  have X1z : w.heap.size + 1 < w4.heap.size := X1.lt
  go_wp2_with fail
  refine (holds_at h4.out _).mono ?_
  rintro e w5 ⟨rfl, hb⟩
  clear X1c0 X1f0 X1c1 X1f1 X1z
  have X0 := X0.later hb
  have X1 := X1.later hb
  have hB := hB.trans (hb.mono hB.size)
  clear hb
  have X0c0 : w5.cell? ⟨w.heap.size, 0, none⟩ = some (.int .i64 a) := X0.cell 0
  have X0f0 : w5.frozen? ⟨w.heap.size, 0, none⟩ = false := X0.free 0
  have X0c1 : w5.cell? ⟨w.heap.size, 1, none⟩ = some (.int .i64 b) := X0.cell 1
  have X0f1 : w5.frozen? ⟨w.heap.size, 1, none⟩ = false := X0.free 1
  have X0z : w.heap.size < w5.heap.size := X0.lt
  have X1c0 : w5.cell? ⟨w.heap.size + 1, 0, none⟩ = some (.int .i64 c) := X1.cell 0
  have X1f0 : w5.frozen? ⟨w.heap.size + 1, 0, none⟩ = false := X1.free 0
  have X1c1 : w5.cell? ⟨w.heap.size + 1, 1, none⟩ = some (.int .i64 d) := X1.cell 1
  have X1f1 : w5.frozen? ⟨w.heap.size + 1, 1, none⟩ = false := X1.free 1
  have X1z : w.heap.size + 1 < w5.heap.size := X1.lt
  go_wp2_with fail
  refine ((Add_any a b c d _).mono fun _ _ => Ret.at H1).mono ?_
  rintro e w6 ⟨rfl, hb⟩
  clear X0c0 X0f0 X0c1 X0f1 X0z X1c0 X1f0 X1c1 X1f1 X1z
  have X0 := X0.later hb
  have X1 := X1.later hb
  have hB := hB.trans (hb.mono hB.size)
  clear hb
  have X0c0 : w6.cell? ⟨w.heap.size, 0, none⟩ = some (.int .i64 a) := X0.cell 0
  have X0f0 : w6.frozen? ⟨w.heap.size, 0, none⟩ = false := X0.free 0
  have X0c1 : w6.cell? ⟨w.heap.size, 1, none⟩ = some (.int .i64 b) := X0.cell 1
  have X0f1 : w6.frozen? ⟨w.heap.size, 1, none⟩ = false := X0.free 1
  have X0z : w.heap.size < w6.heap.size := X0.lt
  have X1c0 : w6.cell? ⟨w.heap.size + 1, 0, none⟩ = some (.int .i64 c) := X1.cell 0
  have X1f0 : w6.frozen? ⟨w.heap.size + 1, 0, none⟩ = false := X1.free 0
  have X1c1 : w6.cell? ⟨w.heap.size + 1, 1, none⟩ = some (.int .i64 d) := X1.cell 1
  have X1f1 : w6.frozen? ⟨w.heap.size + 1, 1, none⟩ = false := X1.free 1
  have X1z : w.heap.size + 1 < w6.heap.size := X1.lt
  go_wp2_with fail
  refine ((Sub_any a b c d _).mono fun _ _ => Ret.at H2).mono ?_
  rintro e w7 ⟨rfl, hb⟩
  clear X0c0 X0f0 X0c1 X0f1 X0z X1c0 X1f0 X1c1 X1f1 X1z
  have X2 := ((Box.newAt (w := w6) (n := w6.heap.size) [.int .i64 0, .int .i64 0] 23 (by simp))).later hb
  have X0 := ((X0.alloc (.cells #[.int .i64 0, .int .i64 0] 23))).later hb
  have X1 := ((X1.alloc (.cells #[.int .i64 0, .int .i64 0] 23))).later hb
  have hB := (hB.alloc hB.size (.cells #[.int .i64 0, .int .i64 0] 23)).trans (hb.mono (by have := hB.size; simp; omega))
  clear hb
  have X0c0 : w7.cell? ⟨w.heap.size, 0, none⟩ = some (.int .i64 a) := X0.cell 0
  have X0f0 : w7.frozen? ⟨w.heap.size, 0, none⟩ = false := X0.free 0
  have X0c1 : w7.cell? ⟨w.heap.size, 1, none⟩ = some (.int .i64 b) := X0.cell 1
  have X0f1 : w7.frozen? ⟨w.heap.size, 1, none⟩ = false := X0.free 1
  have X0z : w.heap.size < w7.heap.size := X0.lt
  have X1c0 : w7.cell? ⟨w.heap.size + 1, 0, none⟩ = some (.int .i64 c) := X1.cell 0
  have X1f0 : w7.frozen? ⟨w.heap.size + 1, 0, none⟩ = false := X1.free 0
  have X1c1 : w7.cell? ⟨w.heap.size + 1, 1, none⟩ = some (.int .i64 d) := X1.cell 1
  have X1f1 : w7.frozen? ⟨w.heap.size + 1, 1, none⟩ = false := X1.free 1
  have X1z : w.heap.size + 1 < w7.heap.size := X1.lt
  go_wp2_with fail
  refine ((Mul_any a b c d _).mono fun _ _ => Ret.at H3).mono ?_
  rintro e w8 ⟨rfl, hb⟩
  clear X0c0 X0f0 X0c1 X0f1 X0z X1c0 X1f0 X1c1 X1f1 X1z
  have X3 := ((Box.newAt (w := w7) (n := w7.heap.size) [.int .i64 (a - d), .int .i64 (b - c)] 23 (by simp))).later hb
  have X0 := ((X0.alloc (.cells #[.int .i64 (a - d), .int .i64 (b - c)] 23))).later hb
  have X1 := ((X1.alloc (.cells #[.int .i64 (a - d), .int .i64 (b - c)] 23))).later hb
  have X2 := ((X2.alloc (.cells #[.int .i64 (a - d), .int .i64 (b - c)] 23))).later hb
  have hB := (hB.alloc hB.size (.cells #[.int .i64 (a - d), .int .i64 (b - c)] 23)).trans (hb.mono (by have := hB.size; simp; omega))
  clear hb
  have X0c0 : w8.cell? ⟨w.heap.size, 0, none⟩ = some (.int .i64 a) := X0.cell 0
  have X0f0 : w8.frozen? ⟨w.heap.size, 0, none⟩ = false := X0.free 0
  have X0c1 : w8.cell? ⟨w.heap.size, 1, none⟩ = some (.int .i64 b) := X0.cell 1
  have X0f1 : w8.frozen? ⟨w.heap.size, 1, none⟩ = false := X0.free 1
  have X0z : w.heap.size < w8.heap.size := X0.lt
  have X1c0 : w8.cell? ⟨w.heap.size + 1, 0, none⟩ = some (.int .i64 c) := X1.cell 0
  have X1f0 : w8.frozen? ⟨w.heap.size + 1, 0, none⟩ = false := X1.free 0
  have X1c1 : w8.cell? ⟨w.heap.size + 1, 1, none⟩ = some (.int .i64 d) := X1.cell 1
  have X1f1 : w8.frozen? ⟨w.heap.size + 1, 1, none⟩ = false := X1.free 1
  have X1z : w.heap.size + 1 < w8.heap.size := X1.lt
  have X3c0 : w8.cell? ⟨w7.heap.size, 0, none⟩ = some (.int .i64 (a - d)) := X3.cell 0
  have X3f0 : w8.frozen? ⟨w7.heap.size, 0, none⟩ = false := X3.free 0
  have X3c1 : w8.cell? ⟨w7.heap.size, 1, none⟩ = some (.int .i64 (b - c)) := X3.cell 1
  have X3f1 : w8.frozen? ⟨w7.heap.size, 1, none⟩ = false := X3.free 1
  have X3z : w7.heap.size < w8.heap.size := X3.lt
  go_wp2_with fail
  refine (holds_at J2.out _).mono ?_
  rintro e w9 ⟨rfl, hb⟩
  clear X0c0 X0f0 X0c1 X0f1 X0z X1c0 X1f0 X1c1 X1f1 X1z X3c0 X3f0 X3c1 X3f1 X3z
  have X4 := ((Box.newAt (w := w8) (n := w8.heap.size) [.int .i64 0, .int .i64 0] 23 (by simp))).later hb
  have X0 := ((X0.alloc (.cells #[.int .i64 0, .int .i64 0] 23))).later hb
  have X1 := ((X1.alloc (.cells #[.int .i64 0, .int .i64 0] 23))).later hb
  have X2 := ((X2.alloc (.cells #[.int .i64 0, .int .i64 0] 23))).later hb
  have X3 := ((X3.alloc (.cells #[.int .i64 0, .int .i64 0] 23))).later hb
  have hB := (hB.alloc hB.size (.cells #[.int .i64 0, .int .i64 0] 23)).trans (hb.mono (by have := hB.size; simp; omega))
  clear hb
  have X0c0 : w9.cell? ⟨w.heap.size, 0, none⟩ = some (.int .i64 a) := X0.cell 0
  have X0f0 : w9.frozen? ⟨w.heap.size, 0, none⟩ = false := X0.free 0
  have X0c1 : w9.cell? ⟨w.heap.size, 1, none⟩ = some (.int .i64 b) := X0.cell 1
  have X0f1 : w9.frozen? ⟨w.heap.size, 1, none⟩ = false := X0.free 1
  have X0z : w.heap.size < w9.heap.size := X0.lt
  have X1c0 : w9.cell? ⟨w.heap.size + 1, 0, none⟩ = some (.int .i64 c) := X1.cell 0
  have X1f0 : w9.frozen? ⟨w.heap.size + 1, 0, none⟩ = false := X1.free 0
  have X1c1 : w9.cell? ⟨w.heap.size + 1, 1, none⟩ = some (.int .i64 d) := X1.cell 1
  have X1f1 : w9.frozen? ⟨w.heap.size + 1, 1, none⟩ = false := X1.free 1
  have X1z : w.heap.size + 1 < w9.heap.size := X1.lt
  have X3c0 : w9.cell? ⟨w7.heap.size, 0, none⟩ = some (.int .i64 (a - d)) := X3.cell 0
  have X3f0 : w9.frozen? ⟨w7.heap.size, 0, none⟩ = false := X3.free 0
  have X3c1 : w9.cell? ⟨w7.heap.size, 1, none⟩ = some (.int .i64 (b - c)) := X3.cell 1
  have X3f1 : w9.frozen? ⟨w7.heap.size, 1, none⟩ = false := X3.free 1
  have X3z : w7.heap.size < w9.heap.size := X3.lt
  go_wp2_with fail
  refine (Fits_at K0.out ⟨by omega, by omega⟩ ⟨by omega, by omega⟩ _).mono ?_
  rintro e w10 ⟨rfl, hb⟩
  clear X0c0 X0f0 X0c1 X0f1 X0z X1c0 X1f0 X1c1 X1f1 X1z X3c0 X3f0 X3c1 X3f1 X3z
  have X0 := X0.later hb
  have X1 := X1.later hb
  have X2 := X2.later hb
  have X3 := X3.later hb
  have X4 := X4.later hb
  have hB := hB.trans (hb.mono hB.size)
  clear hb
  have X0c0 : w10.cell? ⟨w.heap.size, 0, none⟩ = some (.int .i64 a) := X0.cell 0
  have X0f0 : w10.frozen? ⟨w.heap.size, 0, none⟩ = false := X0.free 0
  have X0c1 : w10.cell? ⟨w.heap.size, 1, none⟩ = some (.int .i64 b) := X0.cell 1
  have X0f1 : w10.frozen? ⟨w.heap.size, 1, none⟩ = false := X0.free 1
  have X0z : w.heap.size < w10.heap.size := X0.lt
  have X1c0 : w10.cell? ⟨w.heap.size + 1, 0, none⟩ = some (.int .i64 c) := X1.cell 0
  have X1f0 : w10.frozen? ⟨w.heap.size + 1, 0, none⟩ = false := X1.free 0
  have X1c1 : w10.cell? ⟨w.heap.size + 1, 1, none⟩ = some (.int .i64 d) := X1.cell 1
  have X1f1 : w10.frozen? ⟨w.heap.size + 1, 1, none⟩ = false := X1.free 1
  have X1z : w.heap.size + 1 < w10.heap.size := X1.lt
  go_wp2_with fail
  refine (Fits_at K1.out ⟨by omega, by omega⟩ ⟨by omega, by omega⟩ _).mono ?_
  rintro e w11 ⟨rfl, hb⟩
  clear X0c0 X0f0 X0c1 X0f1 X0z X1c0 X1f0 X1c1 X1f1 X1z
  have X0 := X0.later hb
  have X1 := X1.later hb
  have X2 := X2.later hb
  have X3 := X3.later hb
  have X4 := X4.later hb
  have hB := hB.trans (hb.mono hB.size)
  clear hb
  have X0c0 : w11.cell? ⟨w.heap.size, 0, none⟩ = some (.int .i64 a) := X0.cell 0
  have X0f0 : w11.frozen? ⟨w.heap.size, 0, none⟩ = false := X0.free 0
  have X0c1 : w11.cell? ⟨w.heap.size, 1, none⟩ = some (.int .i64 b) := X0.cell 1
  have X0f1 : w11.frozen? ⟨w.heap.size, 1, none⟩ = false := X0.free 1
  have X0z : w.heap.size < w11.heap.size := X0.lt
  have X1c0 : w11.cell? ⟨w.heap.size + 1, 0, none⟩ = some (.int .i64 c) := X1.cell 0
  have X1f0 : w11.frozen? ⟨w.heap.size + 1, 0, none⟩ = false := X1.free 0
  have X1c1 : w11.cell? ⟨w.heap.size + 1, 1, none⟩ = some (.int .i64 d) := X1.cell 1
  have X1f1 : w11.frozen? ⟨w.heap.size + 1, 1, none⟩ = false := X1.free 1
  have X1z : w.heap.size + 1 < w11.heap.size := X1.lt
  go_wp2_with fail
  refine (Fits_at K2.out ⟨by omega, by omega⟩ ⟨by omega, by omega⟩ _).mono ?_
  rintro e w12 ⟨rfl, hb⟩
  clear X0c0 X0f0 X0c1 X0f1 X0z X1c0 X1f0 X1c1 X1f1 X1z
  have X0 := X0.later hb
  have X1 := X1.later hb
  have X2 := X2.later hb
  have X3 := X3.later hb
  have X4 := X4.later hb
  have hB := hB.trans (hb.mono hB.size)
  clear hb
  have X0c0 : w12.cell? ⟨w.heap.size, 0, none⟩ = some (.int .i64 a) := X0.cell 0
  have X0f0 : w12.frozen? ⟨w.heap.size, 0, none⟩ = false := X0.free 0
  have X0c1 : w12.cell? ⟨w.heap.size, 1, none⟩ = some (.int .i64 b) := X0.cell 1
  have X0f1 : w12.frozen? ⟨w.heap.size, 1, none⟩ = false := X0.free 1
  have X0z : w.heap.size < w12.heap.size := X0.lt
  have X1c0 : w12.cell? ⟨w.heap.size + 1, 0, none⟩ = some (.int .i64 c) := X1.cell 0
  have X1f0 : w12.frozen? ⟨w.heap.size + 1, 0, none⟩ = false := X1.free 0
  have X1c1 : w12.cell? ⟨w.heap.size + 1, 1, none⟩ = some (.int .i64 d) := X1.cell 1
  have X1f1 : w12.frozen? ⟨w.heap.size + 1, 1, none⟩ = false := X1.free 1
  have X1z : w.heap.size + 1 < w12.heap.size := X1.lt
  go_wp2
  go_ret
  exact ⟨rfl, hB⟩

set_option maxRecDepth 100000 in
set_option maxHeartbeats 4000000 in
theorem encl_hi_ok_3 (a b c d x y : Int) (w : World) (_b1 : -1099511627776 ≤ a) (_b2 : a ≤ b) (_b3 : b ≤ 1099511627776) (_b4 : -1099511627776 ≤ c) (_b5 : c ≤ d) (_b6 : d ≤ 1099511627776) (_b7 : a ≤ x) (_b8 : x ≤ b) (_b9 : c ≤ y) (_b10 : y ≤ d) (h1 : Hid (okR a b = true)) (h2 : Hid (okR c d = true)) (h3 : Hid (holB a b x = true)) (h4 : Hid (holB c d y = true)) (H1 : Hid (addT a b c d = (0, 0, 2))) (_m1 : -1099511627776 ≤ a + c) (_n1 : 1099511627776 < b + d) (H2 : Hid (subT a b c d = (a - d, b - c, 0))) (J2 : Hid (holB (a - d) (b - c) (x - y) = true)) (H3 : Hid (mulT a b c d = (0, 0, 2))) (K0 : Hid (fitB a c = true)) (K1 : Hid (fitB a d = true)) (K2 : Hid (fitB b c = true)) (K3 : Hid (fitB b d = false))  : Calls Try.prog 6 #[rng a b, rng c d, .int .i64 x, .int .i64 y] w fun e w' => e = .returned (.bool true) ∧ Below w.heap.size w w' := by
  go_enter Try.func6, Try.ntmps6
  go_wp2_with fail
  refine (sane_any _).mono ?_
  rintro e w1 ⟨rfl, hb⟩
  have X0 := (((Box.newAt (n := w.heap.size) [.int .i64 a, .int .i64 b] 23 (by simp)).alloc _)).later hb
  have X1 := ((Box.newAt (n := w.heap.size + 1) [.int .i64 c, .int .i64 d] 23 (by simp))).later hb
  have hB : Below w.heap.size w w1 := ((((Below.refl w.heap.size w).alloc (by simp <;> omega) _).alloc (by simp <;> omega) _)).trans (hb.mono (by simp <;> omega))
  clear hb
  have X0c0 : w1.cell? ⟨w.heap.size, 0, none⟩ = some (.int .i64 a) := X0.cell 0
  have X0f0 : w1.frozen? ⟨w.heap.size, 0, none⟩ = false := X0.free 0
  have X0c1 : w1.cell? ⟨w.heap.size, 1, none⟩ = some (.int .i64 b) := X0.cell 1
  have X0f1 : w1.frozen? ⟨w.heap.size, 1, none⟩ = false := X0.free 1
  have X0z : w.heap.size < w1.heap.size := X0.lt
  go_wp2_with fail
  refine (Check_at (chk_yes h1.out) _).mono ?_
  rintro e w2 ⟨rfl, hb⟩
  clear X0c0 X0f0 X0c1 X0f1 X0z
  have X0 := X0.later hb
  have X1 := X1.later hb
  have hB := hB.trans (hb.mono hB.size)
  clear hb
  have X1c0 : w2.cell? ⟨w.heap.size + 1, 0, none⟩ = some (.int .i64 c) := X1.cell 0
  have X1f0 : w2.frozen? ⟨w.heap.size + 1, 0, none⟩ = false := X1.free 0
  have X1c1 : w2.cell? ⟨w.heap.size + 1, 1, none⟩ = some (.int .i64 d) := X1.cell 1
  have X1f1 : w2.frozen? ⟨w.heap.size + 1, 1, none⟩ = false := X1.free 1
  have X1z : w.heap.size + 1 < w2.heap.size := X1.lt
  go_wp2_with fail
  refine (Check_at (chk_yes h2.out) _).mono ?_
  rintro e w3 ⟨rfl, hb⟩
  clear X1c0 X1f0 X1c1 X1f1 X1z
  have X0 := X0.later hb
  have X1 := X1.later hb
  have hB := hB.trans (hb.mono hB.size)
  clear hb
  have X0c0 : w3.cell? ⟨w.heap.size, 0, none⟩ = some (.int .i64 a) := X0.cell 0
  have X0f0 : w3.frozen? ⟨w.heap.size, 0, none⟩ = false := X0.free 0
  have X0c1 : w3.cell? ⟨w.heap.size, 1, none⟩ = some (.int .i64 b) := X0.cell 1
  have X0f1 : w3.frozen? ⟨w.heap.size, 1, none⟩ = false := X0.free 1
  have X0z : w.heap.size < w3.heap.size := X0.lt
  go_wp2_with fail
  refine (holds_at h3.out _).mono ?_
  rintro e w4 ⟨rfl, hb⟩
  clear X0c0 X0f0 X0c1 X0f1 X0z
  have X0 := X0.later hb
  have X1 := X1.later hb
  have hB := hB.trans (hb.mono hB.size)
  clear hb
  have X1c0 : w4.cell? ⟨w.heap.size + 1, 0, none⟩ = some (.int .i64 c) := X1.cell 0
  have X1f0 : w4.frozen? ⟨w.heap.size + 1, 0, none⟩ = false := X1.free 0
  have X1c1 : w4.cell? ⟨w.heap.size + 1, 1, none⟩ = some (.int .i64 d) := X1.cell 1
  have X1f1 : w4.frozen? ⟨w.heap.size + 1, 1, none⟩ = false := X1.free 1
  have X1z : w.heap.size + 1 < w4.heap.size := X1.lt
  go_wp2_with fail
  refine (holds_at h4.out _).mono ?_
  rintro e w5 ⟨rfl, hb⟩
  clear X1c0 X1f0 X1c1 X1f1 X1z
  have X0 := X0.later hb
  have X1 := X1.later hb
  have hB := hB.trans (hb.mono hB.size)
  clear hb
  have X0c0 : w5.cell? ⟨w.heap.size, 0, none⟩ = some (.int .i64 a) := X0.cell 0
  have X0f0 : w5.frozen? ⟨w.heap.size, 0, none⟩ = false := X0.free 0
  have X0c1 : w5.cell? ⟨w.heap.size, 1, none⟩ = some (.int .i64 b) := X0.cell 1
  have X0f1 : w5.frozen? ⟨w.heap.size, 1, none⟩ = false := X0.free 1
  have X0z : w.heap.size < w5.heap.size := X0.lt
  have X1c0 : w5.cell? ⟨w.heap.size + 1, 0, none⟩ = some (.int .i64 c) := X1.cell 0
  have X1f0 : w5.frozen? ⟨w.heap.size + 1, 0, none⟩ = false := X1.free 0
  have X1c1 : w5.cell? ⟨w.heap.size + 1, 1, none⟩ = some (.int .i64 d) := X1.cell 1
  have X1f1 : w5.frozen? ⟨w.heap.size + 1, 1, none⟩ = false := X1.free 1
  have X1z : w.heap.size + 1 < w5.heap.size := X1.lt
  go_wp2_with fail
  refine ((Add_any a b c d _).mono fun _ _ => Ret.at H1).mono ?_
  rintro e w6 ⟨rfl, hb⟩
  clear X0c0 X0f0 X0c1 X0f1 X0z X1c0 X1f0 X1c1 X1f1 X1z
  have X0 := X0.later hb
  have X1 := X1.later hb
  have hB := hB.trans (hb.mono hB.size)
  clear hb
  have X0c0 : w6.cell? ⟨w.heap.size, 0, none⟩ = some (.int .i64 a) := X0.cell 0
  have X0f0 : w6.frozen? ⟨w.heap.size, 0, none⟩ = false := X0.free 0
  have X0c1 : w6.cell? ⟨w.heap.size, 1, none⟩ = some (.int .i64 b) := X0.cell 1
  have X0f1 : w6.frozen? ⟨w.heap.size, 1, none⟩ = false := X0.free 1
  have X0z : w.heap.size < w6.heap.size := X0.lt
  have X1c0 : w6.cell? ⟨w.heap.size + 1, 0, none⟩ = some (.int .i64 c) := X1.cell 0
  have X1f0 : w6.frozen? ⟨w.heap.size + 1, 0, none⟩ = false := X1.free 0
  have X1c1 : w6.cell? ⟨w.heap.size + 1, 1, none⟩ = some (.int .i64 d) := X1.cell 1
  have X1f1 : w6.frozen? ⟨w.heap.size + 1, 1, none⟩ = false := X1.free 1
  have X1z : w.heap.size + 1 < w6.heap.size := X1.lt
  go_wp2_with fail
  refine ((Sub_any a b c d _).mono fun _ _ => Ret.at H2).mono ?_
  rintro e w7 ⟨rfl, hb⟩
  clear X0c0 X0f0 X0c1 X0f1 X0z X1c0 X1f0 X1c1 X1f1 X1z
  have X2 := ((Box.newAt (w := w6) (n := w6.heap.size) [.int .i64 0, .int .i64 0] 23 (by simp))).later hb
  have X0 := ((X0.alloc (.cells #[.int .i64 0, .int .i64 0] 23))).later hb
  have X1 := ((X1.alloc (.cells #[.int .i64 0, .int .i64 0] 23))).later hb
  have hB := (hB.alloc hB.size (.cells #[.int .i64 0, .int .i64 0] 23)).trans (hb.mono (by have := hB.size; simp; omega))
  clear hb
  have X0c0 : w7.cell? ⟨w.heap.size, 0, none⟩ = some (.int .i64 a) := X0.cell 0
  have X0f0 : w7.frozen? ⟨w.heap.size, 0, none⟩ = false := X0.free 0
  have X0c1 : w7.cell? ⟨w.heap.size, 1, none⟩ = some (.int .i64 b) := X0.cell 1
  have X0f1 : w7.frozen? ⟨w.heap.size, 1, none⟩ = false := X0.free 1
  have X0z : w.heap.size < w7.heap.size := X0.lt
  have X1c0 : w7.cell? ⟨w.heap.size + 1, 0, none⟩ = some (.int .i64 c) := X1.cell 0
  have X1f0 : w7.frozen? ⟨w.heap.size + 1, 0, none⟩ = false := X1.free 0
  have X1c1 : w7.cell? ⟨w.heap.size + 1, 1, none⟩ = some (.int .i64 d) := X1.cell 1
  have X1f1 : w7.frozen? ⟨w.heap.size + 1, 1, none⟩ = false := X1.free 1
  have X1z : w.heap.size + 1 < w7.heap.size := X1.lt
  go_wp2_with fail
  refine ((Mul_any a b c d _).mono fun _ _ => Ret.at H3).mono ?_
  rintro e w8 ⟨rfl, hb⟩
  clear X0c0 X0f0 X0c1 X0f1 X0z X1c0 X1f0 X1c1 X1f1 X1z
  have X3 := ((Box.newAt (w := w7) (n := w7.heap.size) [.int .i64 (a - d), .int .i64 (b - c)] 23 (by simp))).later hb
  have X0 := ((X0.alloc (.cells #[.int .i64 (a - d), .int .i64 (b - c)] 23))).later hb
  have X1 := ((X1.alloc (.cells #[.int .i64 (a - d), .int .i64 (b - c)] 23))).later hb
  have X2 := ((X2.alloc (.cells #[.int .i64 (a - d), .int .i64 (b - c)] 23))).later hb
  have hB := (hB.alloc hB.size (.cells #[.int .i64 (a - d), .int .i64 (b - c)] 23)).trans (hb.mono (by have := hB.size; simp; omega))
  clear hb
  have X0c0 : w8.cell? ⟨w.heap.size, 0, none⟩ = some (.int .i64 a) := X0.cell 0
  have X0f0 : w8.frozen? ⟨w.heap.size, 0, none⟩ = false := X0.free 0
  have X0c1 : w8.cell? ⟨w.heap.size, 1, none⟩ = some (.int .i64 b) := X0.cell 1
  have X0f1 : w8.frozen? ⟨w.heap.size, 1, none⟩ = false := X0.free 1
  have X0z : w.heap.size < w8.heap.size := X0.lt
  have X1c0 : w8.cell? ⟨w.heap.size + 1, 0, none⟩ = some (.int .i64 c) := X1.cell 0
  have X1f0 : w8.frozen? ⟨w.heap.size + 1, 0, none⟩ = false := X1.free 0
  have X1c1 : w8.cell? ⟨w.heap.size + 1, 1, none⟩ = some (.int .i64 d) := X1.cell 1
  have X1f1 : w8.frozen? ⟨w.heap.size + 1, 1, none⟩ = false := X1.free 1
  have X1z : w.heap.size + 1 < w8.heap.size := X1.lt
  have X3c0 : w8.cell? ⟨w7.heap.size, 0, none⟩ = some (.int .i64 (a - d)) := X3.cell 0
  have X3f0 : w8.frozen? ⟨w7.heap.size, 0, none⟩ = false := X3.free 0
  have X3c1 : w8.cell? ⟨w7.heap.size, 1, none⟩ = some (.int .i64 (b - c)) := X3.cell 1
  have X3f1 : w8.frozen? ⟨w7.heap.size, 1, none⟩ = false := X3.free 1
  have X3z : w7.heap.size < w8.heap.size := X3.lt
  go_wp2_with fail
  refine (holds_at J2.out _).mono ?_
  rintro e w9 ⟨rfl, hb⟩
  clear X0c0 X0f0 X0c1 X0f1 X0z X1c0 X1f0 X1c1 X1f1 X1z X3c0 X3f0 X3c1 X3f1 X3z
  have X4 := ((Box.newAt (w := w8) (n := w8.heap.size) [.int .i64 0, .int .i64 0] 23 (by simp))).later hb
  have X0 := ((X0.alloc (.cells #[.int .i64 0, .int .i64 0] 23))).later hb
  have X1 := ((X1.alloc (.cells #[.int .i64 0, .int .i64 0] 23))).later hb
  have X2 := ((X2.alloc (.cells #[.int .i64 0, .int .i64 0] 23))).later hb
  have X3 := ((X3.alloc (.cells #[.int .i64 0, .int .i64 0] 23))).later hb
  have hB := (hB.alloc hB.size (.cells #[.int .i64 0, .int .i64 0] 23)).trans (hb.mono (by have := hB.size; simp; omega))
  clear hb
  have X0c0 : w9.cell? ⟨w.heap.size, 0, none⟩ = some (.int .i64 a) := X0.cell 0
  have X0f0 : w9.frozen? ⟨w.heap.size, 0, none⟩ = false := X0.free 0
  have X0c1 : w9.cell? ⟨w.heap.size, 1, none⟩ = some (.int .i64 b) := X0.cell 1
  have X0f1 : w9.frozen? ⟨w.heap.size, 1, none⟩ = false := X0.free 1
  have X0z : w.heap.size < w9.heap.size := X0.lt
  have X1c0 : w9.cell? ⟨w.heap.size + 1, 0, none⟩ = some (.int .i64 c) := X1.cell 0
  have X1f0 : w9.frozen? ⟨w.heap.size + 1, 0, none⟩ = false := X1.free 0
  have X1c1 : w9.cell? ⟨w.heap.size + 1, 1, none⟩ = some (.int .i64 d) := X1.cell 1
  have X1f1 : w9.frozen? ⟨w.heap.size + 1, 1, none⟩ = false := X1.free 1
  have X1z : w.heap.size + 1 < w9.heap.size := X1.lt
  have X3c0 : w9.cell? ⟨w7.heap.size, 0, none⟩ = some (.int .i64 (a - d)) := X3.cell 0
  have X3f0 : w9.frozen? ⟨w7.heap.size, 0, none⟩ = false := X3.free 0
  have X3c1 : w9.cell? ⟨w7.heap.size, 1, none⟩ = some (.int .i64 (b - c)) := X3.cell 1
  have X3f1 : w9.frozen? ⟨w7.heap.size, 1, none⟩ = false := X3.free 1
  have X3z : w7.heap.size < w9.heap.size := X3.lt
  go_wp2_with fail
  refine (Fits_at K0.out ⟨by omega, by omega⟩ ⟨by omega, by omega⟩ _).mono ?_
  rintro e w10 ⟨rfl, hb⟩
  clear X0c0 X0f0 X0c1 X0f1 X0z X1c0 X1f0 X1c1 X1f1 X1z X3c0 X3f0 X3c1 X3f1 X3z
  have X0 := X0.later hb
  have X1 := X1.later hb
  have X2 := X2.later hb
  have X3 := X3.later hb
  have X4 := X4.later hb
  have hB := hB.trans (hb.mono hB.size)
  clear hb
  have X0c0 : w10.cell? ⟨w.heap.size, 0, none⟩ = some (.int .i64 a) := X0.cell 0
  have X0f0 : w10.frozen? ⟨w.heap.size, 0, none⟩ = false := X0.free 0
  have X0c1 : w10.cell? ⟨w.heap.size, 1, none⟩ = some (.int .i64 b) := X0.cell 1
  have X0f1 : w10.frozen? ⟨w.heap.size, 1, none⟩ = false := X0.free 1
  have X0z : w.heap.size < w10.heap.size := X0.lt
  have X1c0 : w10.cell? ⟨w.heap.size + 1, 0, none⟩ = some (.int .i64 c) := X1.cell 0
  have X1f0 : w10.frozen? ⟨w.heap.size + 1, 0, none⟩ = false := X1.free 0
  have X1c1 : w10.cell? ⟨w.heap.size + 1, 1, none⟩ = some (.int .i64 d) := X1.cell 1
  have X1f1 : w10.frozen? ⟨w.heap.size + 1, 1, none⟩ = false := X1.free 1
  have X1z : w.heap.size + 1 < w10.heap.size := X1.lt
  go_wp2_with fail
  refine (Fits_at K1.out ⟨by omega, by omega⟩ ⟨by omega, by omega⟩ _).mono ?_
  rintro e w11 ⟨rfl, hb⟩
  clear X0c0 X0f0 X0c1 X0f1 X0z X1c0 X1f0 X1c1 X1f1 X1z
  have X0 := X0.later hb
  have X1 := X1.later hb
  have X2 := X2.later hb
  have X3 := X3.later hb
  have X4 := X4.later hb
  have hB := hB.trans (hb.mono hB.size)
  clear hb
  have X0c0 : w11.cell? ⟨w.heap.size, 0, none⟩ = some (.int .i64 a) := X0.cell 0
  have X0f0 : w11.frozen? ⟨w.heap.size, 0, none⟩ = false := X0.free 0
  have X0c1 : w11.cell? ⟨w.heap.size, 1, none⟩ = some (.int .i64 b) := X0.cell 1
  have X0f1 : w11.frozen? ⟨w.heap.size, 1, none⟩ = false := X0.free 1
  have X0z : w.heap.size < w11.heap.size := X0.lt
  have X1c0 : w11.cell? ⟨w.heap.size + 1, 0, none⟩ = some (.int .i64 c) := X1.cell 0
  have X1f0 : w11.frozen? ⟨w.heap.size + 1, 0, none⟩ = false := X1.free 0
  have X1c1 : w11.cell? ⟨w.heap.size + 1, 1, none⟩ = some (.int .i64 d) := X1.cell 1
  have X1f1 : w11.frozen? ⟨w.heap.size + 1, 1, none⟩ = false := X1.free 1
  have X1z : w.heap.size + 1 < w11.heap.size := X1.lt
  go_wp2_with fail
  refine (Fits_at K2.out ⟨by omega, by omega⟩ ⟨by omega, by omega⟩ _).mono ?_
  rintro e w12 ⟨rfl, hb⟩
  clear X0c0 X0f0 X0c1 X0f1 X0z X1c0 X1f0 X1c1 X1f1 X1z
  have X0 := X0.later hb
  have X1 := X1.later hb
  have X2 := X2.later hb
  have X3 := X3.later hb
  have X4 := X4.later hb
  have hB := hB.trans (hb.mono hB.size)
  clear hb
  have X0c0 : w12.cell? ⟨w.heap.size, 0, none⟩ = some (.int .i64 a) := X0.cell 0
  have X0f0 : w12.frozen? ⟨w.heap.size, 0, none⟩ = false := X0.free 0
  have X0c1 : w12.cell? ⟨w.heap.size, 1, none⟩ = some (.int .i64 b) := X0.cell 1
  have X0f1 : w12.frozen? ⟨w.heap.size, 1, none⟩ = false := X0.free 1
  have X0z : w.heap.size < w12.heap.size := X0.lt
  have X1c0 : w12.cell? ⟨w.heap.size + 1, 0, none⟩ = some (.int .i64 c) := X1.cell 0
  have X1f0 : w12.frozen? ⟨w.heap.size + 1, 0, none⟩ = false := X1.free 0
  have X1c1 : w12.cell? ⟨w.heap.size + 1, 1, none⟩ = some (.int .i64 d) := X1.cell 1
  have X1f1 : w12.frozen? ⟨w.heap.size + 1, 1, none⟩ = false := X1.free 1
  have X1z : w.heap.size + 1 < w12.heap.size := X1.lt
  go_wp2_with fail
  refine (Fits_at K3.out ⟨by omega, by omega⟩ ⟨by omega, by omega⟩ _).mono ?_
  rintro e w13 ⟨rfl, hb⟩
  clear X0c0 X0f0 X0c1 X0f1 X0z X1c0 X1f0 X1c1 X1f1 X1z
  have X0 := X0.later hb
  have X1 := X1.later hb
  have X2 := X2.later hb
  have X3 := X3.later hb
  have X4 := X4.later hb
  have hB := hB.trans (hb.mono hB.size)
  clear hb
  have X0c0 : w13.cell? ⟨w.heap.size, 0, none⟩ = some (.int .i64 a) := X0.cell 0
  have X0f0 : w13.frozen? ⟨w.heap.size, 0, none⟩ = false := X0.free 0
  have X0c1 : w13.cell? ⟨w.heap.size, 1, none⟩ = some (.int .i64 b) := X0.cell 1
  have X0f1 : w13.frozen? ⟨w.heap.size, 1, none⟩ = false := X0.free 1
  have X0z : w.heap.size < w13.heap.size := X0.lt
  have X1c0 : w13.cell? ⟨w.heap.size + 1, 0, none⟩ = some (.int .i64 c) := X1.cell 0
  have X1f0 : w13.frozen? ⟨w.heap.size + 1, 0, none⟩ = false := X1.free 0
  have X1c1 : w13.cell? ⟨w.heap.size + 1, 1, none⟩ = some (.int .i64 d) := X1.cell 1
  have X1f1 : w13.frozen? ⟨w.heap.size + 1, 1, none⟩ = false := X1.free 1
  have X1z : w.heap.size + 1 < w13.heap.size := X1.lt
  go_wp2
  go_ret
  exact ⟨rfl, hB⟩

set_option maxRecDepth 100000 in
set_option maxHeartbeats 4000000 in
theorem encl_hi_ok_ok (a b c d x y u v : Int) (w : World) (_b1 : -1099511627776 ≤ a) (_b2 : a ≤ b) (_b3 : b ≤ 1099511627776) (_b4 : -1099511627776 ≤ c) (_b5 : c ≤ d) (_b6 : d ≤ 1099511627776) (_b7 : a ≤ x) (_b8 : x ≤ b) (_b9 : c ≤ y) (_b10 : y ≤ d) (h1 : Hid (okR a b = true)) (h2 : Hid (okR c d = true)) (h3 : Hid (holB a b x = true)) (h4 : Hid (holB c d y = true)) (H1 : Hid (addT a b c d = (0, 0, 2))) (_m1 : -1099511627776 ≤ a + c) (_n1 : 1099511627776 < b + d) (H2 : Hid (subT a b c d = (a - d, b - c, 0))) (J2 : Hid (holB (a - d) (b - c) (x - y) = true)) (H3 : Hid (mulT a b c d = (u, v, 0))) (K0 : Hid (fitB a c = true)) (K1 : Hid (fitB a d = true)) (K2 : Hid (fitB b c = true)) (K3 : Hid (fitB b d = true)) (J3 : Hid (holB u v (x * y) = true))
    (Hu : Hid (u = a * c ∨ u = a * d ∨ u = b * c ∨ u = b * d)) (Hv : Hid (v = a * c ∨ v = a * d ∨ v = b * c ∨ v = b * d))
    (_v1 : IntKind.i64.wrap (a * c) = a * c) (_v2 : IntKind.i64.wrap (a * d) = a * d) (_v3 : IntKind.i64.wrap (b * c) = b * c) (_v4 : IntKind.i64.wrap (b * d) = b * d) (_v5 : IntKind.i64.wrap (x * y) = x * y)  : Calls Try.prog 6 #[rng a b, rng c d, .int .i64 x, .int .i64 y] w fun e w' => e = .returned (.bool true) ∧ Below w.heap.size w w' := by
  go_enter Try.func6, Try.ntmps6
  go_wp2_with fail
  refine (sane_any _).mono ?_
  rintro e w1 ⟨rfl, hb⟩
  have X0 := (((Box.newAt (n := w.heap.size) [.int .i64 a, .int .i64 b] 23 (by simp)).alloc _)).later hb
  have X1 := ((Box.newAt (n := w.heap.size + 1) [.int .i64 c, .int .i64 d] 23 (by simp))).later hb
  have hB : Below w.heap.size w w1 := ((((Below.refl w.heap.size w).alloc (by simp <;> omega) _).alloc (by simp <;> omega) _)).trans (hb.mono (by simp <;> omega))
  clear hb
  have X0c0 : w1.cell? ⟨w.heap.size, 0, none⟩ = some (.int .i64 a) := X0.cell 0
  have X0f0 : w1.frozen? ⟨w.heap.size, 0, none⟩ = false := X0.free 0
  have X0c1 : w1.cell? ⟨w.heap.size, 1, none⟩ = some (.int .i64 b) := X0.cell 1
  have X0f1 : w1.frozen? ⟨w.heap.size, 1, none⟩ = false := X0.free 1
  have X0z : w.heap.size < w1.heap.size := X0.lt
  go_wp2_with fail
  refine (Check_at (chk_yes h1.out) _).mono ?_
  rintro e w2 ⟨rfl, hb⟩
  clear X0c0 X0f0 X0c1 X0f1 X0z
  have X0 := X0.later hb
  have X1 := X1.later hb
  have hB := hB.trans (hb.mono hB.size)
  clear hb
  have X1c0 : w2.cell? ⟨w.heap.size + 1, 0, none⟩ = some (.int .i64 c) := X1.cell 0
  have X1f0 : w2.frozen? ⟨w.heap.size + 1, 0, none⟩ = false := X1.free 0
  have X1c1 : w2.cell? ⟨w.heap.size + 1, 1, none⟩ = some (.int .i64 d) := X1.cell 1
  have X1f1 : w2.frozen? ⟨w.heap.size + 1, 1, none⟩ = false := X1.free 1
  have X1z : w.heap.size + 1 < w2.heap.size := X1.lt
  go_wp2_with fail
  refine (Check_at (chk_yes h2.out) _).mono ?_
  rintro e w3 ⟨rfl, hb⟩
  clear X1c0 X1f0 X1c1 X1f1 X1z
  have X0 := X0.later hb
  have X1 := X1.later hb
  have hB := hB.trans (hb.mono hB.size)
  clear hb
  have X0c0 : w3.cell? ⟨w.heap.size, 0, none⟩ = some (.int .i64 a) := X0.cell 0
  have X0f0 : w3.frozen? ⟨w.heap.size, 0, none⟩ = false := X0.free 0
  have X0c1 : w3.cell? ⟨w.heap.size, 1, none⟩ = some (.int .i64 b) := X0.cell 1
  have X0f1 : w3.frozen? ⟨w.heap.size, 1, none⟩ = false := X0.free 1
  have X0z : w.heap.size < w3.heap.size := X0.lt
  go_wp2_with fail
  refine (holds_at h3.out _).mono ?_
  rintro e w4 ⟨rfl, hb⟩
  clear X0c0 X0f0 X0c1 X0f1 X0z
  have X0 := X0.later hb
  have X1 := X1.later hb
  have hB := hB.trans (hb.mono hB.size)
  clear hb
  have X1c0 : w4.cell? ⟨w.heap.size + 1, 0, none⟩ = some (.int .i64 c) := X1.cell 0
  have X1f0 : w4.frozen? ⟨w.heap.size + 1, 0, none⟩ = false := X1.free 0
  have X1c1 : w4.cell? ⟨w.heap.size + 1, 1, none⟩ = some (.int .i64 d) := X1.cell 1
  have X1f1 : w4.frozen? ⟨w.heap.size + 1, 1, none⟩ = false := X1.free 1
  have X1z : w.heap.size + 1 < w4.heap.size := X1.lt
  go_wp2_with fail
  refine (holds_at h4.out _).mono ?_
  rintro e w5 ⟨rfl, hb⟩
  clear X1c0 X1f0 X1c1 X1f1 X1z
  have X0 := X0.later hb
  have X1 := X1.later hb
  have hB := hB.trans (hb.mono hB.size)
  clear hb
  have X0c0 : w5.cell? ⟨w.heap.size, 0, none⟩ = some (.int .i64 a) := X0.cell 0
  have X0f0 : w5.frozen? ⟨w.heap.size, 0, none⟩ = false := X0.free 0
  have X0c1 : w5.cell? ⟨w.heap.size, 1, none⟩ = some (.int .i64 b) := X0.cell 1
  have X0f1 : w5.frozen? ⟨w.heap.size, 1, none⟩ = false := X0.free 1
  have X0z : w.heap.size < w5.heap.size := X0.lt
  have X1c0 : w5.cell? ⟨w.heap.size + 1, 0, none⟩ = some (.int .i64 c) := X1.cell 0
  have X1f0 : w5.frozen? ⟨w.heap.size + 1, 0, none⟩ = false := X1.free 0
  have X1c1 : w5.cell? ⟨w.heap.size + 1, 1, none⟩ = some (.int .i64 d) := X1.cell 1
  have X1f1 : w5.frozen? ⟨w.heap.size + 1, 1, none⟩ = false := X1.free 1
  have X1z : w.heap.size + 1 < w5.heap.size := X1.lt
  go_wp2_with fail
  refine ((Add_any a b c d _).mono fun _ _ => Ret.at H1).mono ?_
  rintro e w6 ⟨rfl, hb⟩
  clear X0c0 X0f0 X0c1 X0f1 X0z X1c0 X1f0 X1c1 X1f1 X1z
  have X0 := X0.later hb
  have X1 := X1.later hb
  have hB := hB.trans (hb.mono hB.size)
  clear hb
  have X0c0 : w6.cell? ⟨w.heap.size, 0, none⟩ = some (.int .i64 a) := X0.cell 0
  have X0f0 : w6.frozen? ⟨w.heap.size, 0, none⟩ = false := X0.free 0
  have X0c1 : w6.cell? ⟨w.heap.size, 1, none⟩ = some (.int .i64 b) := X0.cell 1
  have X0f1 : w6.frozen? ⟨w.heap.size, 1, none⟩ = false := X0.free 1
  have X0z : w.heap.size < w6.heap.size := X0.lt
  have X1c0 : w6.cell? ⟨w.heap.size + 1, 0, none⟩ = some (.int .i64 c) := X1.cell 0
  have X1f0 : w6.frozen? ⟨w.heap.size + 1, 0, none⟩ = false := X1.free 0
  have X1c1 : w6.cell? ⟨w.heap.size + 1, 1, none⟩ = some (.int .i64 d) := X1.cell 1
  have X1f1 : w6.frozen? ⟨w.heap.size + 1, 1, none⟩ = false := X1.free 1
  have X1z : w.heap.size + 1 < w6.heap.size := X1.lt
  go_wp2_with fail
  refine ((Sub_any a b c d _).mono fun _ _ => Ret.at H2).mono ?_
  rintro e w7 ⟨rfl, hb⟩
  clear X0c0 X0f0 X0c1 X0f1 X0z X1c0 X1f0 X1c1 X1f1 X1z
  have X2 := ((Box.newAt (w := w6) (n := w6.heap.size) [.int .i64 0, .int .i64 0] 23 (by simp))).later hb
  have X0 := ((X0.alloc (.cells #[.int .i64 0, .int .i64 0] 23))).later hb
  have X1 := ((X1.alloc (.cells #[.int .i64 0, .int .i64 0] 23))).later hb
  have hB := (hB.alloc hB.size (.cells #[.int .i64 0, .int .i64 0] 23)).trans (hb.mono (by have := hB.size; simp; omega))
  clear hb
  have X0c0 : w7.cell? ⟨w.heap.size, 0, none⟩ = some (.int .i64 a) := X0.cell 0
  have X0f0 : w7.frozen? ⟨w.heap.size, 0, none⟩ = false := X0.free 0
  have X0c1 : w7.cell? ⟨w.heap.size, 1, none⟩ = some (.int .i64 b) := X0.cell 1
  have X0f1 : w7.frozen? ⟨w.heap.size, 1, none⟩ = false := X0.free 1
  have X0z : w.heap.size < w7.heap.size := X0.lt
  have X1c0 : w7.cell? ⟨w.heap.size + 1, 0, none⟩ = some (.int .i64 c) := X1.cell 0
  have X1f0 : w7.frozen? ⟨w.heap.size + 1, 0, none⟩ = false := X1.free 0
  have X1c1 : w7.cell? ⟨w.heap.size + 1, 1, none⟩ = some (.int .i64 d) := X1.cell 1
  have X1f1 : w7.frozen? ⟨w.heap.size + 1, 1, none⟩ = false := X1.free 1
  have X1z : w.heap.size + 1 < w7.heap.size := X1.lt
  go_wp2_with fail
  refine ((Mul_any a b c d _).mono fun _ _ => Ret.at H3).mono ?_
  rintro e w8 ⟨rfl, hb⟩
  clear X0c0 X0f0 X0c1 X0f1 X0z X1c0 X1f0 X1c1 X1f1 X1z
  have X3 := ((Box.newAt (w := w7) (n := w7.heap.size) [.int .i64 (a - d), .int .i64 (b - c)] 23 (by simp))).later hb
  have X0 := ((X0.alloc (.cells #[.int .i64 (a - d), .int .i64 (b - c)] 23))).later hb
  have X1 := ((X1.alloc (.cells #[.int .i64 (a - d), .int .i64 (b - c)] 23))).later hb
  have X2 := ((X2.alloc (.cells #[.int .i64 (a - d), .int .i64 (b - c)] 23))).later hb
  have hB := (hB.alloc hB.size (.cells #[.int .i64 (a - d), .int .i64 (b - c)] 23)).trans (hb.mono (by have := hB.size; simp; omega))
  clear hb
  have X0c0 : w8.cell? ⟨w.heap.size, 0, none⟩ = some (.int .i64 a) := X0.cell 0
  have X0f0 : w8.frozen? ⟨w.heap.size, 0, none⟩ = false := X0.free 0
  have X0c1 : w8.cell? ⟨w.heap.size, 1, none⟩ = some (.int .i64 b) := X0.cell 1
  have X0f1 : w8.frozen? ⟨w.heap.size, 1, none⟩ = false := X0.free 1
  have X0z : w.heap.size < w8.heap.size := X0.lt
  have X1c0 : w8.cell? ⟨w.heap.size + 1, 0, none⟩ = some (.int .i64 c) := X1.cell 0
  have X1f0 : w8.frozen? ⟨w.heap.size + 1, 0, none⟩ = false := X1.free 0
  have X1c1 : w8.cell? ⟨w.heap.size + 1, 1, none⟩ = some (.int .i64 d) := X1.cell 1
  have X1f1 : w8.frozen? ⟨w.heap.size + 1, 1, none⟩ = false := X1.free 1
  have X1z : w.heap.size + 1 < w8.heap.size := X1.lt
  have X3c0 : w8.cell? ⟨w7.heap.size, 0, none⟩ = some (.int .i64 (a - d)) := X3.cell 0
  have X3f0 : w8.frozen? ⟨w7.heap.size, 0, none⟩ = false := X3.free 0
  have X3c1 : w8.cell? ⟨w7.heap.size, 1, none⟩ = some (.int .i64 (b - c)) := X3.cell 1
  have X3f1 : w8.frozen? ⟨w7.heap.size, 1, none⟩ = false := X3.free 1
  have X3z : w7.heap.size < w8.heap.size := X3.lt
  go_wp2_with fail
  refine (holds_at J2.out _).mono ?_
  rintro e w9 ⟨rfl, hb⟩
  clear X0c0 X0f0 X0c1 X0f1 X0z X1c0 X1f0 X1c1 X1f1 X1z X3c0 X3f0 X3c1 X3f1 X3z
  have X4 := ((Box.newAt (w := w8) (n := w8.heap.size) [.int .i64 u, .int .i64 v] 23 (by simp))).later hb
  have X0 := ((X0.alloc (.cells #[.int .i64 u, .int .i64 v] 23))).later hb
  have X1 := ((X1.alloc (.cells #[.int .i64 u, .int .i64 v] 23))).later hb
  have X2 := ((X2.alloc (.cells #[.int .i64 u, .int .i64 v] 23))).later hb
  have X3 := ((X3.alloc (.cells #[.int .i64 u, .int .i64 v] 23))).later hb
  have hB := (hB.alloc hB.size (.cells #[.int .i64 u, .int .i64 v] 23)).trans (hb.mono (by have := hB.size; simp; omega))
  clear hb
  have X0c0 : w9.cell? ⟨w.heap.size, 0, none⟩ = some (.int .i64 a) := X0.cell 0
  have X0f0 : w9.frozen? ⟨w.heap.size, 0, none⟩ = false := X0.free 0
  have X0c1 : w9.cell? ⟨w.heap.size, 1, none⟩ = some (.int .i64 b) := X0.cell 1
  have X0f1 : w9.frozen? ⟨w.heap.size, 1, none⟩ = false := X0.free 1
  have X0z : w.heap.size < w9.heap.size := X0.lt
  have X1c0 : w9.cell? ⟨w.heap.size + 1, 0, none⟩ = some (.int .i64 c) := X1.cell 0
  have X1f0 : w9.frozen? ⟨w.heap.size + 1, 0, none⟩ = false := X1.free 0
  have X1c1 : w9.cell? ⟨w.heap.size + 1, 1, none⟩ = some (.int .i64 d) := X1.cell 1
  have X1f1 : w9.frozen? ⟨w.heap.size + 1, 1, none⟩ = false := X1.free 1
  have X1z : w.heap.size + 1 < w9.heap.size := X1.lt
  have X3c0 : w9.cell? ⟨w7.heap.size, 0, none⟩ = some (.int .i64 (a - d)) := X3.cell 0
  have X3f0 : w9.frozen? ⟨w7.heap.size, 0, none⟩ = false := X3.free 0
  have X3c1 : w9.cell? ⟨w7.heap.size, 1, none⟩ = some (.int .i64 (b - c)) := X3.cell 1
  have X3f1 : w9.frozen? ⟨w7.heap.size, 1, none⟩ = false := X3.free 1
  have X3z : w7.heap.size < w9.heap.size := X3.lt
  go_wp2_with fail
  refine (Fits_at K0.out ⟨by omega, by omega⟩ ⟨by omega, by omega⟩ _).mono ?_
  rintro e w10 ⟨rfl, hb⟩
  clear X0c0 X0f0 X0c1 X0f1 X0z X1c0 X1f0 X1c1 X1f1 X1z X3c0 X3f0 X3c1 X3f1 X3z
  have X0 := X0.later hb
  have X1 := X1.later hb
  have X2 := X2.later hb
  have X3 := X3.later hb
  have X4 := X4.later hb
  have hB := hB.trans (hb.mono hB.size)
  clear hb
  have X0c0 : w10.cell? ⟨w.heap.size, 0, none⟩ = some (.int .i64 a) := X0.cell 0
  have X0f0 : w10.frozen? ⟨w.heap.size, 0, none⟩ = false := X0.free 0
  have X0c1 : w10.cell? ⟨w.heap.size, 1, none⟩ = some (.int .i64 b) := X0.cell 1
  have X0f1 : w10.frozen? ⟨w.heap.size, 1, none⟩ = false := X0.free 1
  have X0z : w.heap.size < w10.heap.size := X0.lt
  have X1c0 : w10.cell? ⟨w.heap.size + 1, 0, none⟩ = some (.int .i64 c) := X1.cell 0
  have X1f0 : w10.frozen? ⟨w.heap.size + 1, 0, none⟩ = false := X1.free 0
  have X1c1 : w10.cell? ⟨w.heap.size + 1, 1, none⟩ = some (.int .i64 d) := X1.cell 1
  have X1f1 : w10.frozen? ⟨w.heap.size + 1, 1, none⟩ = false := X1.free 1
  have X1z : w.heap.size + 1 < w10.heap.size := X1.lt
  go_wp2_with fail
  refine (Fits_at K1.out ⟨by omega, by omega⟩ ⟨by omega, by omega⟩ _).mono ?_
  rintro e w11 ⟨rfl, hb⟩
  clear X0c0 X0f0 X0c1 X0f1 X0z X1c0 X1f0 X1c1 X1f1 X1z
  have X0 := X0.later hb
  have X1 := X1.later hb
  have X2 := X2.later hb
  have X3 := X3.later hb
  have X4 := X4.later hb
  have hB := hB.trans (hb.mono hB.size)
  clear hb
  have X0c0 : w11.cell? ⟨w.heap.size, 0, none⟩ = some (.int .i64 a) := X0.cell 0
  have X0f0 : w11.frozen? ⟨w.heap.size, 0, none⟩ = false := X0.free 0
  have X0c1 : w11.cell? ⟨w.heap.size, 1, none⟩ = some (.int .i64 b) := X0.cell 1
  have X0f1 : w11.frozen? ⟨w.heap.size, 1, none⟩ = false := X0.free 1
  have X0z : w.heap.size < w11.heap.size := X0.lt
  have X1c0 : w11.cell? ⟨w.heap.size + 1, 0, none⟩ = some (.int .i64 c) := X1.cell 0
  have X1f0 : w11.frozen? ⟨w.heap.size + 1, 0, none⟩ = false := X1.free 0
  have X1c1 : w11.cell? ⟨w.heap.size + 1, 1, none⟩ = some (.int .i64 d) := X1.cell 1
  have X1f1 : w11.frozen? ⟨w.heap.size + 1, 1, none⟩ = false := X1.free 1
  have X1z : w.heap.size + 1 < w11.heap.size := X1.lt
  go_wp2_with fail
  refine (Fits_at K2.out ⟨by omega, by omega⟩ ⟨by omega, by omega⟩ _).mono ?_
  rintro e w12 ⟨rfl, hb⟩
  clear X0c0 X0f0 X0c1 X0f1 X0z X1c0 X1f0 X1c1 X1f1 X1z
  have X0 := X0.later hb
  have X1 := X1.later hb
  have X2 := X2.later hb
  have X3 := X3.later hb
  have X4 := X4.later hb
  have hB := hB.trans (hb.mono hB.size)
  clear hb
  have X0c0 : w12.cell? ⟨w.heap.size, 0, none⟩ = some (.int .i64 a) := X0.cell 0
  have X0f0 : w12.frozen? ⟨w.heap.size, 0, none⟩ = false := X0.free 0
  have X0c1 : w12.cell? ⟨w.heap.size, 1, none⟩ = some (.int .i64 b) := X0.cell 1
  have X0f1 : w12.frozen? ⟨w.heap.size, 1, none⟩ = false := X0.free 1
  have X0z : w.heap.size < w12.heap.size := X0.lt
  have X1c0 : w12.cell? ⟨w.heap.size + 1, 0, none⟩ = some (.int .i64 c) := X1.cell 0
  have X1f0 : w12.frozen? ⟨w.heap.size + 1, 0, none⟩ = false := X1.free 0
  have X1c1 : w12.cell? ⟨w.heap.size + 1, 1, none⟩ = some (.int .i64 d) := X1.cell 1
  have X1f1 : w12.frozen? ⟨w.heap.size + 1, 1, none⟩ = false := X1.free 1
  have X1z : w.heap.size + 1 < w12.heap.size := X1.lt
  go_wp2_with fail
  refine (Fits_at K3.out ⟨by omega, by omega⟩ ⟨by omega, by omega⟩ _).mono ?_
  rintro e w13 ⟨rfl, hb⟩
  clear X0c0 X0f0 X0c1 X0f1 X0z X1c0 X1f0 X1c1 X1f1 X1z
  have X0 := X0.later hb
  have X1 := X1.later hb
  have X2 := X2.later hb
  have X3 := X3.later hb
  have X4 := X4.later hb
  have hB := hB.trans (hb.mono hB.size)
  clear hb
  have X0c0 : w13.cell? ⟨w.heap.size, 0, none⟩ = some (.int .i64 a) := X0.cell 0
  have X0f0 : w13.frozen? ⟨w.heap.size, 0, none⟩ = false := X0.free 0
  have X0c1 : w13.cell? ⟨w.heap.size, 1, none⟩ = some (.int .i64 b) := X0.cell 1
  have X0f1 : w13.frozen? ⟨w.heap.size, 1, none⟩ = false := X0.free 1
  have X0z : w.heap.size < w13.heap.size := X0.lt
  have X1c0 : w13.cell? ⟨w.heap.size + 1, 0, none⟩ = some (.int .i64 c) := X1.cell 0
  have X1f0 : w13.frozen? ⟨w.heap.size + 1, 0, none⟩ = false := X1.free 0
  have X1c1 : w13.cell? ⟨w.heap.size + 1, 1, none⟩ = some (.int .i64 d) := X1.cell 1
  have X1f1 : w13.frozen? ⟨w.heap.size + 1, 1, none⟩ = false := X1.free 1
  have X1z : w.heap.size + 1 < w13.heap.size := X1.lt
  have X4c0 : w13.cell? ⟨w8.heap.size, 0, none⟩ = some (.int .i64 u) := X4.cell 0
  have X4f0 : w13.frozen? ⟨w8.heap.size, 0, none⟩ = false := X4.free 0
  have X4c1 : w13.cell? ⟨w8.heap.size, 1, none⟩ = some (.int .i64 v) := X4.cell 1
  have X4f1 : w13.frozen? ⟨w8.heap.size, 1, none⟩ = false := X4.free 1
  have X4z : w8.heap.size < w13.heap.size := X4.lt
  go_wp2_with fail
  refine (holds_at J3.out _).mono ?_
  rintro e w14 ⟨rfl, hb⟩
  clear X0c0 X0f0 X0c1 X0f1 X0z X1c0 X1f0 X1c1 X1f1 X1z X4c0 X4f0 X4c1 X4f1 X4z
  have X0 := X0.later hb
  have X1 := X1.later hb
  have X2 := X2.later hb
  have X3 := X3.later hb
  have X4 := X4.later hb
  have hB := hB.trans (hb.mono hB.size)
  clear hb
  have X0c0 : w14.cell? ⟨w.heap.size, 0, none⟩ = some (.int .i64 a) := X0.cell 0
  have X0f0 : w14.frozen? ⟨w.heap.size, 0, none⟩ = false := X0.free 0
  have X0c1 : w14.cell? ⟨w.heap.size, 1, none⟩ = some (.int .i64 b) := X0.cell 1
  have X0f1 : w14.frozen? ⟨w.heap.size, 1, none⟩ = false := X0.free 1
  have X0z : w.heap.size < w14.heap.size := X0.lt
  have X1c0 : w14.cell? ⟨w.heap.size + 1, 0, none⟩ = some (.int .i64 c) := X1.cell 0
  have X1f0 : w14.frozen? ⟨w.heap.size + 1, 0, none⟩ = false := X1.free 0
  have X1c1 : w14.cell? ⟨w.heap.size + 1, 1, none⟩ = some (.int .i64 d) := X1.cell 1
  have X1f1 : w14.frozen? ⟨w.heap.size + 1, 1, none⟩ = false := X1.free 1
  have X1z : w.heap.size + 1 < w14.heap.size := X1.lt
  have X4c0 : w14.cell? ⟨w8.heap.size, 0, none⟩ = some (.int .i64 u) := X4.cell 0
  have X4f0 : w14.frozen? ⟨w8.heap.size, 0, none⟩ = false := X4.free 0
  have X4c1 : w14.cell? ⟨w8.heap.size, 1, none⟩ = some (.int .i64 v) := X4.cell 1
  have X4f1 : w14.frozen? ⟨w8.heap.size, 1, none⟩ = false := X4.free 1
  have X4z : w8.heap.size < w14.heap.size := X4.lt
  go_wp2_with fail
  refine (reached4 _ (a * c) (a * d) (b * c) (b * d) _ _ (by go_simp) (by go_simp) (by go_simp) (by go_simp) Hu.out).mono ?_
  rintro e w15 ⟨rfl, hb⟩
  clear X0c0 X0f0 X0c1 X0f1 X0z X1c0 X1f0 X1c1 X1f1 X1z X4c0 X4f0 X4c1 X4f1 X4z
  have Y1 := ((Box.newAt (w := w14) (n := w14.heap.size) [.int .i64 (a * c), .int .i64 (a * d), .int .i64 (b * c), .int .i64 (b * d)] 3 (by simp))).later hb
  have X0 := ((X0.alloc (.cells #[.int .i64 (a * c), .int .i64 (a * d), .int .i64 (b * c), .int .i64 (b * d)] 3))).later hb
  have X1 := ((X1.alloc (.cells #[.int .i64 (a * c), .int .i64 (a * d), .int .i64 (b * c), .int .i64 (b * d)] 3))).later hb
  have X2 := ((X2.alloc (.cells #[.int .i64 (a * c), .int .i64 (a * d), .int .i64 (b * c), .int .i64 (b * d)] 3))).later hb
  have X3 := ((X3.alloc (.cells #[.int .i64 (a * c), .int .i64 (a * d), .int .i64 (b * c), .int .i64 (b * d)] 3))).later hb
  have X4 := ((X4.alloc (.cells #[.int .i64 (a * c), .int .i64 (a * d), .int .i64 (b * c), .int .i64 (b * d)] 3))).later hb
  have hB := (hB.alloc hB.size (.cells #[.int .i64 (a * c), .int .i64 (a * d), .int .i64 (b * c), .int .i64 (b * d)] 3)).trans (hb.mono (by have := hB.size; simp; omega))
  clear hb
  clear Y1
  have X0c0 : w15.cell? ⟨w.heap.size, 0, none⟩ = some (.int .i64 a) := X0.cell 0
  have X0f0 : w15.frozen? ⟨w.heap.size, 0, none⟩ = false := X0.free 0
  have X0c1 : w15.cell? ⟨w.heap.size, 1, none⟩ = some (.int .i64 b) := X0.cell 1
  have X0f1 : w15.frozen? ⟨w.heap.size, 1, none⟩ = false := X0.free 1
  have X0z : w.heap.size < w15.heap.size := X0.lt
  have X1c0 : w15.cell? ⟨w.heap.size + 1, 0, none⟩ = some (.int .i64 c) := X1.cell 0
  have X1f0 : w15.frozen? ⟨w.heap.size + 1, 0, none⟩ = false := X1.free 0
  have X1c1 : w15.cell? ⟨w.heap.size + 1, 1, none⟩ = some (.int .i64 d) := X1.cell 1
  have X1f1 : w15.frozen? ⟨w.heap.size + 1, 1, none⟩ = false := X1.free 1
  have X1z : w.heap.size + 1 < w15.heap.size := X1.lt
  have X4c0 : w15.cell? ⟨w8.heap.size, 0, none⟩ = some (.int .i64 u) := X4.cell 0
  have X4f0 : w15.frozen? ⟨w8.heap.size, 0, none⟩ = false := X4.free 0
  have X4c1 : w15.cell? ⟨w8.heap.size, 1, none⟩ = some (.int .i64 v) := X4.cell 1
  have X4f1 : w15.frozen? ⟨w8.heap.size, 1, none⟩ = false := X4.free 1
  have X4z : w8.heap.size < w15.heap.size := X4.lt
  go_wp2_with fail
  refine (reached4 _ (a * c) (a * d) (b * c) (b * d) _ _ (by go_simp) (by go_simp) (by go_simp) (by go_simp) Hv.out).mono ?_
  rintro e w16 ⟨rfl, hb⟩
  clear X0c0 X0f0 X0c1 X0f1 X0z X1c0 X1f0 X1c1 X1f1 X1z X4c0 X4f0 X4c1 X4f1 X4z
  have Y2 := ((Box.newAt (w := w15) (n := w15.heap.size) [.int .i64 (a * c), .int .i64 (a * d), .int .i64 (b * c), .int .i64 (b * d)] 3 (by simp))).later hb
  have X0 := ((X0.alloc (.cells #[.int .i64 (a * c), .int .i64 (a * d), .int .i64 (b * c), .int .i64 (b * d)] 3))).later hb
  have X1 := ((X1.alloc (.cells #[.int .i64 (a * c), .int .i64 (a * d), .int .i64 (b * c), .int .i64 (b * d)] 3))).later hb
  have X2 := ((X2.alloc (.cells #[.int .i64 (a * c), .int .i64 (a * d), .int .i64 (b * c), .int .i64 (b * d)] 3))).later hb
  have X3 := ((X3.alloc (.cells #[.int .i64 (a * c), .int .i64 (a * d), .int .i64 (b * c), .int .i64 (b * d)] 3))).later hb
  have X4 := ((X4.alloc (.cells #[.int .i64 (a * c), .int .i64 (a * d), .int .i64 (b * c), .int .i64 (b * d)] 3))).later hb
  have hB := (hB.alloc hB.size (.cells #[.int .i64 (a * c), .int .i64 (a * d), .int .i64 (b * c), .int .i64 (b * d)] 3)).trans (hb.mono (by have := hB.size; simp; omega))
  clear hb
  clear Y2
  have X0c0 : w16.cell? ⟨w.heap.size, 0, none⟩ = some (.int .i64 a) := X0.cell 0
  have X0f0 : w16.frozen? ⟨w.heap.size, 0, none⟩ = false := X0.free 0
  have X0c1 : w16.cell? ⟨w.heap.size, 1, none⟩ = some (.int .i64 b) := X0.cell 1
  have X0f1 : w16.frozen? ⟨w.heap.size, 1, none⟩ = false := X0.free 1
  have X0z : w.heap.size < w16.heap.size := X0.lt
  have X1c0 : w16.cell? ⟨w.heap.size + 1, 0, none⟩ = some (.int .i64 c) := X1.cell 0
  have X1f0 : w16.frozen? ⟨w.heap.size + 1, 0, none⟩ = false := X1.free 0
  have X1c1 : w16.cell? ⟨w.heap.size + 1, 1, none⟩ = some (.int .i64 d) := X1.cell 1
  have X1f1 : w16.frozen? ⟨w.heap.size + 1, 1, none⟩ = false := X1.free 1
  have X1z : w.heap.size + 1 < w16.heap.size := X1.lt
  go_wp2
  go_ret
  exact ⟨rfl, hB⟩

end Go.Proofs.Ytmjbcmicjhgciaa
