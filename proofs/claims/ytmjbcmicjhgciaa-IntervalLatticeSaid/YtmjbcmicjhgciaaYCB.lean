/-
  IntervalScaled: the walk. (Printed by gen_scaled.py.)
-/
import Derived.Test.YtmjbcmicjhgciaaZG
import Derived.Test.YtmjbcmicjhgciaaZX
import Derived.Test.YtmjbcmicjhgciaaZS
import Derived.BigQuiet
namespace Go.Proofs.Ytmjbcmicjhgciaa
open Go.RowKit

set_option maxRecDepth 100000 in
set_option maxHeartbeats 4000000 in
theorem sc_pos_lim (a b n d lo hi L M q1 q2 : Int) (w : World) (H1 : Hid (scT a b n d (ratC n d) = (lo, hi, 0))) (_b1 : -1073741824 ≤ a) (_b2 : a ≤ b) (_b3 : b ≤ 1073741824) (_b4 : 1 ≤ d) (_b5 : d ≤ 1073741824) (_b6 : -1073741824 ≤ n) (_b7 : n ≤ 1073741824) (_b8 : -1099511627776 ≤ lo) (_b9 : lo ≤ hi) (_b10 : hi ≤ 1099511627776) (S : Hid (ScNums a b n d lo hi L M q1 q2)) (_nz : (n == 0) = false) (_np : 0 < n) (H2 : Hid (scT lo hi d n (ratC d n) = (0, 0, 2))) : Calls Try.prog 8 #[rng a b, rat n d] w fun e w' => e = .returned (.bool true) ∧ Below w.heap.size w w' := by
  go_enter Try.func8, Try.ntmps8
  go_wp2_with fail
  refine (sane_any _).mono ?_
  rintro e w1 ⟨rfl, hb⟩
  have X0 := (((Box.newAt (n := w.heap.size) [.int .i64 a, .int .i64 b] 23 (by simp)).alloc _)).later hb
  have X1 := ((Box.newAt (n := w.heap.size + 1) [.int .i64 n, .int .i64 d] 31 (by simp))).later hb
  have hB : Below w.heap.size w w1 := ((((Below.refl w.heap.size w).alloc (by simp <;> omega) _).alloc (by simp <;> omega) _)).trans (hb.mono (by simp <;> omega))
  clear hb
  have X0c0 : w1.cell? ⟨w.heap.size, 0, none⟩ = some (.int .i64 a) := X0.cell 0
  have X0f0 : w1.frozen? ⟨w.heap.size, 0, none⟩ = false := X0.free 0
  have X0c1 : w1.cell? ⟨w.heap.size, 1, none⟩ = some (.int .i64 b) := X0.cell 1
  have X0f1 : w1.frozen? ⟨w.heap.size, 1, none⟩ = false := X0.free 1
  have X0z : w.heap.size < w1.heap.size := X0.lt
  have X1c0 : w1.cell? ⟨w.heap.size + 1, 0, none⟩ = some (.int .i64 n) := X1.cell 0
  have X1f0 : w1.frozen? ⟨w.heap.size + 1, 0, none⟩ = false := X1.free 0
  have X1c1 : w1.cell? ⟨w.heap.size + 1, 1, none⟩ = some (.int .i64 d) := X1.cell 1
  have X1f1 : w1.frozen? ⟨w.heap.size + 1, 1, none⟩ = false := X1.free 1
  have X1z : w.heap.size + 1 < w1.heap.size := X1.lt
  go_wp2_with fail
  refine ((Scale_any a b n d _).mono fun _ _ => Ret.at H1).mono ?_
  rintro e w2 ⟨rfl, hb⟩
  clear X0c0 X0f0 X0c1 X0f1 X0z X1c0 X1f0 X1c1 X1f1 X1z
  have X0 := X0.later hb
  have X1 := X1.later hb
  have hB := hB.trans (hb.mono hB.size)
  clear hb
  have X0c0 : w2.cell? ⟨w.heap.size, 0, none⟩ = some (.int .i64 a) := X0.cell 0
  have X0f0 : w2.frozen? ⟨w.heap.size, 0, none⟩ = false := X0.free 0
  have X0c1 : w2.cell? ⟨w.heap.size, 1, none⟩ = some (.int .i64 b) := X0.cell 1
  have X0f1 : w2.frozen? ⟨w.heap.size, 1, none⟩ = false := X0.free 1
  have X0z : w.heap.size < w2.heap.size := X0.lt
  have X1c0 : w2.cell? ⟨w.heap.size + 1, 0, none⟩ = some (.int .i64 n) := X1.cell 0
  have X1f0 : w2.frozen? ⟨w.heap.size + 1, 0, none⟩ = false := X1.free 0
  have X1c1 : w2.cell? ⟨w.heap.size + 1, 1, none⟩ = some (.int .i64 d) := X1.cell 1
  have X1f1 : w2.frozen? ⟨w.heap.size + 1, 1, none⟩ = false := X1.free 1
  have X1z : w.heap.size + 1 < w2.heap.size := X1.lt
  go_wp2_with fail
  have m1 := S.out.m1
  have m2 := S.out.m2
  have hL := S.out.hL
  have hM := S.out.hM
  go_quiet (fail)
  clear m1 m2 hL hM
  clear X0c0 X0f0 X0c1 X0f1 X0z X1c0 X1f0 X1c1 X1f1 X1z
  have X0 := ((X0.alloc (.cells #[.int .i64 lo, .int .i64 hi] 23))).drewN nq
  have X1 := ((X1.alloc (.cells #[.int .i64 lo, .int .i64 hi] 23))).drewN nq
  have X2 := ((Box.newAt (w := w2) (n := w2.heap.size) [.int .i64 lo, .int .i64 hi] 23 (by simp))).drewN nq
  have hB := bel_drewN (hB.alloc hB.size (.cells #[.int .i64 lo, .int .i64 hi] 23)) nq
  generalize ((w2.alloc (.cells #[.int .i64 lo, .int .i64 hi] 23))).drewN nq = w3 at hB X0 X1 X2 ⊢
  have X0c0 : w3.cell? ⟨w.heap.size, 0, none⟩ = some (.int .i64 a) := X0.cell 0
  have X0f0 : w3.frozen? ⟨w.heap.size, 0, none⟩ = false := X0.free 0
  have X0c1 : w3.cell? ⟨w.heap.size, 1, none⟩ = some (.int .i64 b) := X0.cell 1
  have X0f1 : w3.frozen? ⟨w.heap.size, 1, none⟩ = false := X0.free 1
  have X0z : w.heap.size < w3.heap.size := X0.lt
  have X1c0 : w3.cell? ⟨w.heap.size + 1, 0, none⟩ = some (.int .i64 n) := X1.cell 0
  have X1f0 : w3.frozen? ⟨w.heap.size + 1, 0, none⟩ = false := X1.free 0
  have X1c1 : w3.cell? ⟨w.heap.size + 1, 1, none⟩ = some (.int .i64 d) := X1.cell 1
  have X1f1 : w3.frozen? ⟨w.heap.size + 1, 1, none⟩ = false := X1.free 1
  have X1z : w.heap.size + 1 < w3.heap.size := X1.lt
  have X2c0 : w3.cell? ⟨w2.heap.size, 0, none⟩ = some (.int .i64 lo) := X2.cell 0
  have X2f0 : w3.frozen? ⟨w2.heap.size, 0, none⟩ = false := X2.free 0
  have X2c1 : w3.cell? ⟨w2.heap.size, 1, none⟩ = some (.int .i64 hi) := X2.cell 1
  have X2f1 : w3.frozen? ⟨w2.heap.size, 1, none⟩ = false := X2.free 1
  have X2z : w2.heap.size < w3.heap.size := X2.lt
  go_wp2_with fail
  have hq1 := S.out.hq1
  have hq2 := S.out.hq2
  have s1 := S.out.s1
  have s2 := S.out.s2
  have s3 := S.out.s3
  have s4 := S.out.s4
  have t1 := S.out.t1
  have t2 := S.out.t2
  have t3 := S.out.t3
  have t4 := S.out.t4
  have dz : (d == 0) = false := by simp; omega
  go_quiet (fail)
  clear hq1 hq2 s1 s2 s3 s4 t1 t2 t3 t4 dz
  clear X0c0 X0f0 X0c1 X0f1 X0z X1c0 X1f0 X1c1 X1f1 X1z X2c0 X2f0 X2c1 X2f1 X2z
  have X0 := (X0).drewN nq
  have X1 := (X1).drewN nq
  have X2 := (X2).drewN nq
  have hB := bel_drewN hB nq
  generalize (w3).drewN nq = w4 at hB X0 X1 X2 ⊢
  have X0c0 : w4.cell? ⟨w.heap.size, 0, none⟩ = some (.int .i64 a) := X0.cell 0
  have X0f0 : w4.frozen? ⟨w.heap.size, 0, none⟩ = false := X0.free 0
  have X0c1 : w4.cell? ⟨w.heap.size, 1, none⟩ = some (.int .i64 b) := X0.cell 1
  have X0f1 : w4.frozen? ⟨w.heap.size, 1, none⟩ = false := X0.free 1
  have X0z : w.heap.size < w4.heap.size := X0.lt
  have X1c0 : w4.cell? ⟨w.heap.size + 1, 0, none⟩ = some (.int .i64 n) := X1.cell 0
  have X1f0 : w4.frozen? ⟨w.heap.size + 1, 0, none⟩ = false := X1.free 0
  have X1c1 : w4.cell? ⟨w.heap.size + 1, 1, none⟩ = some (.int .i64 d) := X1.cell 1
  have X1f1 : w4.frozen? ⟨w.heap.size + 1, 1, none⟩ = false := X1.free 1
  have X1z : w.heap.size + 1 < w4.heap.size := X1.lt
  have X2c0 : w4.cell? ⟨w2.heap.size, 0, none⟩ = some (.int .i64 lo) := X2.cell 0
  have X2f0 : w4.frozen? ⟨w2.heap.size, 0, none⟩ = false := X2.free 0
  have X2c1 : w4.cell? ⟨w2.heap.size, 1, none⟩ = some (.int .i64 hi) := X2.cell 1
  have X2f1 : w4.frozen? ⟨w2.heap.size, 1, none⟩ = false := X2.free 1
  have X2z : w2.heap.size < w4.heap.size := X2.lt
  go_wp2_with fail
  have m3 := S.out.m3
  have m4 := S.out.m4
  have m5 := S.out.m5
  have m6 := S.out.m6
  go_quiet (fail)
  clear m3 m4 m5 m6
  clear X0c0 X0f0 X0c1 X0f1 X0z X1c0 X1f0 X1c1 X1f1 X1z X2c0 X2f0 X2c1 X2f1 X2z
  have X0 := (X0).drewN nq
  have X1 := (X1).drewN nq
  have X2 := (X2).drewN nq
  have hB := bel_drewN hB nq
  generalize (w4).drewN nq = w5 at hB X0 X1 X2 ⊢
  have l1 := S.out.l1
  have l2 := S.out.l2
  have l3 := S.out.l3
  have l4 := S.out.l4
  have X0c0 : w5.cell? ⟨w.heap.size, 0, none⟩ = some (.int .i64 a) := X0.cell 0
  have X0f0 : w5.frozen? ⟨w.heap.size, 0, none⟩ = false := X0.free 0
  have X0c1 : w5.cell? ⟨w.heap.size, 1, none⟩ = some (.int .i64 b) := X0.cell 1
  have X0f1 : w5.frozen? ⟨w.heap.size, 1, none⟩ = false := X0.free 1
  have X0z : w.heap.size < w5.heap.size := X0.lt
  have X1c0 : w5.cell? ⟨w.heap.size + 1, 0, none⟩ = some (.int .i64 n) := X1.cell 0
  have X1f0 : w5.frozen? ⟨w.heap.size + 1, 0, none⟩ = false := X1.free 0
  have X1c1 : w5.cell? ⟨w.heap.size + 1, 1, none⟩ = some (.int .i64 d) := X1.cell 1
  have X1f1 : w5.frozen? ⟨w.heap.size + 1, 1, none⟩ = false := X1.free 1
  have X1z : w.heap.size + 1 < w5.heap.size := X1.lt
  have X2c0 : w5.cell? ⟨w2.heap.size, 0, none⟩ = some (.int .i64 lo) := X2.cell 0
  have X2f0 : w5.frozen? ⟨w2.heap.size, 0, none⟩ = false := X2.free 0
  have X2c1 : w5.cell? ⟨w2.heap.size, 1, none⟩ = some (.int .i64 hi) := X2.cell 1
  have X2f1 : w5.frozen? ⟨w2.heap.size, 1, none⟩ = false := X2.free 1
  have X2z : w2.heap.size < w5.heap.size := X2.lt
  go_wp2_with fail
  refine ((Scale_any lo hi d n _).mono fun _ _ => Ret.at H2).mono ?_
  rintro e w6 ⟨rfl, hb⟩
  clear X0c0 X0f0 X0c1 X0f1 X0z X1c0 X1f0 X1c1 X1f1 X1z X2c0 X2f0 X2c1 X2f1 X2z
  have X3 := ((Box.newAt (w := w5) (n := w5.heap.size) [.int .i64 d, .int .i64 n] 31 (by simp))).later hb
  have X0 := ((X0.alloc (.cells #[.int .i64 d, .int .i64 n] 31))).later hb
  have X1 := ((X1.alloc (.cells #[.int .i64 d, .int .i64 n] 31))).later hb
  have X2 := ((X2.alloc (.cells #[.int .i64 d, .int .i64 n] 31))).later hb
  have hB := (hB.alloc hB.size (.cells #[.int .i64 d, .int .i64 n] 31)).trans (hb.mono (by have := hB.size; simp; omega))
  clear hb
  have X0c0 : w6.cell? ⟨w.heap.size, 0, none⟩ = some (.int .i64 a) := X0.cell 0
  have X0f0 : w6.frozen? ⟨w.heap.size, 0, none⟩ = false := X0.free 0
  have X0c1 : w6.cell? ⟨w.heap.size, 1, none⟩ = some (.int .i64 b) := X0.cell 1
  have X0f1 : w6.frozen? ⟨w.heap.size, 1, none⟩ = false := X0.free 1
  have X0z : w.heap.size < w6.heap.size := X0.lt
  have X1c0 : w6.cell? ⟨w.heap.size + 1, 0, none⟩ = some (.int .i64 n) := X1.cell 0
  have X1f0 : w6.frozen? ⟨w.heap.size + 1, 0, none⟩ = false := X1.free 0
  have X1c1 : w6.cell? ⟨w.heap.size + 1, 1, none⟩ = some (.int .i64 d) := X1.cell 1
  have X1f1 : w6.frozen? ⟨w.heap.size + 1, 1, none⟩ = false := X1.free 1
  have X1z : w.heap.size + 1 < w6.heap.size := X1.lt
  have X2c0 : w6.cell? ⟨w2.heap.size, 0, none⟩ = some (.int .i64 lo) := X2.cell 0
  have X2f0 : w6.frozen? ⟨w2.heap.size, 0, none⟩ = false := X2.free 0
  have X2c1 : w6.cell? ⟨w2.heap.size, 1, none⟩ = some (.int .i64 hi) := X2.cell 1
  have X2f1 : w6.frozen? ⟨w2.heap.size, 1, none⟩ = false := X2.free 1
  have X2z : w2.heap.size < w6.heap.size := X2.lt
  go_wp2
  go_ret
  exact ⟨rfl, (hB.alloc hB.size _)⟩

set_option maxRecDepth 100000 in
set_option maxHeartbeats 4000000 in
theorem sc_pos_ok (a b n d lo hi L M q1 q2 y z : Int) (w : World) (H1 : Hid (scT a b n d (ratC n d) = (lo, hi, 0))) (_b1 : -1073741824 ≤ a) (_b2 : a ≤ b) (_b3 : b ≤ 1073741824) (_b4 : 1 ≤ d) (_b5 : d ≤ 1073741824) (_b6 : -1073741824 ≤ n) (_b7 : n ≤ 1073741824) (_b8 : -1099511627776 ≤ lo) (_b9 : lo ≤ hi) (_b10 : hi ≤ 1099511627776) (S : Hid (ScNums a b n d lo hi L M q1 q2)) (_nz : (n == 0) = false) (_np : 0 < n) (H2 : Hid (scT lo hi d n (ratC d n) = (y, z, 0))) (H3 : Hid (insT a b y z = (true, 0))) : Calls Try.prog 8 #[rng a b, rat n d] w fun e w' => e = .returned (.bool true) ∧ Below w.heap.size w w' := by
  go_enter Try.func8, Try.ntmps8
  go_wp2_with fail
  refine (sane_any _).mono ?_
  rintro e w1 ⟨rfl, hb⟩
  have X0 := (((Box.newAt (n := w.heap.size) [.int .i64 a, .int .i64 b] 23 (by simp)).alloc _)).later hb
  have X1 := ((Box.newAt (n := w.heap.size + 1) [.int .i64 n, .int .i64 d] 31 (by simp))).later hb
  have hB : Below w.heap.size w w1 := ((((Below.refl w.heap.size w).alloc (by simp <;> omega) _).alloc (by simp <;> omega) _)).trans (hb.mono (by simp <;> omega))
  clear hb
  have X0c0 : w1.cell? ⟨w.heap.size, 0, none⟩ = some (.int .i64 a) := X0.cell 0
  have X0f0 : w1.frozen? ⟨w.heap.size, 0, none⟩ = false := X0.free 0
  have X0c1 : w1.cell? ⟨w.heap.size, 1, none⟩ = some (.int .i64 b) := X0.cell 1
  have X0f1 : w1.frozen? ⟨w.heap.size, 1, none⟩ = false := X0.free 1
  have X0z : w.heap.size < w1.heap.size := X0.lt
  have X1c0 : w1.cell? ⟨w.heap.size + 1, 0, none⟩ = some (.int .i64 n) := X1.cell 0
  have X1f0 : w1.frozen? ⟨w.heap.size + 1, 0, none⟩ = false := X1.free 0
  have X1c1 : w1.cell? ⟨w.heap.size + 1, 1, none⟩ = some (.int .i64 d) := X1.cell 1
  have X1f1 : w1.frozen? ⟨w.heap.size + 1, 1, none⟩ = false := X1.free 1
  have X1z : w.heap.size + 1 < w1.heap.size := X1.lt
  go_wp2_with fail
  refine ((Scale_any a b n d _).mono fun _ _ => Ret.at H1).mono ?_
  rintro e w2 ⟨rfl, hb⟩
  clear X0c0 X0f0 X0c1 X0f1 X0z X1c0 X1f0 X1c1 X1f1 X1z
  have X0 := X0.later hb
  have X1 := X1.later hb
  have hB := hB.trans (hb.mono hB.size)
  clear hb
  have X0c0 : w2.cell? ⟨w.heap.size, 0, none⟩ = some (.int .i64 a) := X0.cell 0
  have X0f0 : w2.frozen? ⟨w.heap.size, 0, none⟩ = false := X0.free 0
  have X0c1 : w2.cell? ⟨w.heap.size, 1, none⟩ = some (.int .i64 b) := X0.cell 1
  have X0f1 : w2.frozen? ⟨w.heap.size, 1, none⟩ = false := X0.free 1
  have X0z : w.heap.size < w2.heap.size := X0.lt
  have X1c0 : w2.cell? ⟨w.heap.size + 1, 0, none⟩ = some (.int .i64 n) := X1.cell 0
  have X1f0 : w2.frozen? ⟨w.heap.size + 1, 0, none⟩ = false := X1.free 0
  have X1c1 : w2.cell? ⟨w.heap.size + 1, 1, none⟩ = some (.int .i64 d) := X1.cell 1
  have X1f1 : w2.frozen? ⟨w.heap.size + 1, 1, none⟩ = false := X1.free 1
  have X1z : w.heap.size + 1 < w2.heap.size := X1.lt
  go_wp2_with fail
  have m1 := S.out.m1
  have m2 := S.out.m2
  have hL := S.out.hL
  have hM := S.out.hM
  go_quiet (fail)
  clear m1 m2 hL hM
  clear X0c0 X0f0 X0c1 X0f1 X0z X1c0 X1f0 X1c1 X1f1 X1z
  have X0 := ((X0.alloc (.cells #[.int .i64 lo, .int .i64 hi] 23))).drewN nq
  have X1 := ((X1.alloc (.cells #[.int .i64 lo, .int .i64 hi] 23))).drewN nq
  have X2 := ((Box.newAt (w := w2) (n := w2.heap.size) [.int .i64 lo, .int .i64 hi] 23 (by simp))).drewN nq
  have hB := bel_drewN (hB.alloc hB.size (.cells #[.int .i64 lo, .int .i64 hi] 23)) nq
  generalize ((w2.alloc (.cells #[.int .i64 lo, .int .i64 hi] 23))).drewN nq = w3 at hB X0 X1 X2 ⊢
  have X0c0 : w3.cell? ⟨w.heap.size, 0, none⟩ = some (.int .i64 a) := X0.cell 0
  have X0f0 : w3.frozen? ⟨w.heap.size, 0, none⟩ = false := X0.free 0
  have X0c1 : w3.cell? ⟨w.heap.size, 1, none⟩ = some (.int .i64 b) := X0.cell 1
  have X0f1 : w3.frozen? ⟨w.heap.size, 1, none⟩ = false := X0.free 1
  have X0z : w.heap.size < w3.heap.size := X0.lt
  have X1c0 : w3.cell? ⟨w.heap.size + 1, 0, none⟩ = some (.int .i64 n) := X1.cell 0
  have X1f0 : w3.frozen? ⟨w.heap.size + 1, 0, none⟩ = false := X1.free 0
  have X1c1 : w3.cell? ⟨w.heap.size + 1, 1, none⟩ = some (.int .i64 d) := X1.cell 1
  have X1f1 : w3.frozen? ⟨w.heap.size + 1, 1, none⟩ = false := X1.free 1
  have X1z : w.heap.size + 1 < w3.heap.size := X1.lt
  have X2c0 : w3.cell? ⟨w2.heap.size, 0, none⟩ = some (.int .i64 lo) := X2.cell 0
  have X2f0 : w3.frozen? ⟨w2.heap.size, 0, none⟩ = false := X2.free 0
  have X2c1 : w3.cell? ⟨w2.heap.size, 1, none⟩ = some (.int .i64 hi) := X2.cell 1
  have X2f1 : w3.frozen? ⟨w2.heap.size, 1, none⟩ = false := X2.free 1
  have X2z : w2.heap.size < w3.heap.size := X2.lt
  go_wp2_with fail
  have hq1 := S.out.hq1
  have hq2 := S.out.hq2
  have s1 := S.out.s1
  have s2 := S.out.s2
  have s3 := S.out.s3
  have s4 := S.out.s4
  have t1 := S.out.t1
  have t2 := S.out.t2
  have t3 := S.out.t3
  have t4 := S.out.t4
  have dz : (d == 0) = false := by simp; omega
  go_quiet (fail)
  clear hq1 hq2 s1 s2 s3 s4 t1 t2 t3 t4 dz
  clear X0c0 X0f0 X0c1 X0f1 X0z X1c0 X1f0 X1c1 X1f1 X1z X2c0 X2f0 X2c1 X2f1 X2z
  have X0 := (X0).drewN nq
  have X1 := (X1).drewN nq
  have X2 := (X2).drewN nq
  have hB := bel_drewN hB nq
  generalize (w3).drewN nq = w4 at hB X0 X1 X2 ⊢
  have X0c0 : w4.cell? ⟨w.heap.size, 0, none⟩ = some (.int .i64 a) := X0.cell 0
  have X0f0 : w4.frozen? ⟨w.heap.size, 0, none⟩ = false := X0.free 0
  have X0c1 : w4.cell? ⟨w.heap.size, 1, none⟩ = some (.int .i64 b) := X0.cell 1
  have X0f1 : w4.frozen? ⟨w.heap.size, 1, none⟩ = false := X0.free 1
  have X0z : w.heap.size < w4.heap.size := X0.lt
  have X1c0 : w4.cell? ⟨w.heap.size + 1, 0, none⟩ = some (.int .i64 n) := X1.cell 0
  have X1f0 : w4.frozen? ⟨w.heap.size + 1, 0, none⟩ = false := X1.free 0
  have X1c1 : w4.cell? ⟨w.heap.size + 1, 1, none⟩ = some (.int .i64 d) := X1.cell 1
  have X1f1 : w4.frozen? ⟨w.heap.size + 1, 1, none⟩ = false := X1.free 1
  have X1z : w.heap.size + 1 < w4.heap.size := X1.lt
  have X2c0 : w4.cell? ⟨w2.heap.size, 0, none⟩ = some (.int .i64 lo) := X2.cell 0
  have X2f0 : w4.frozen? ⟨w2.heap.size, 0, none⟩ = false := X2.free 0
  have X2c1 : w4.cell? ⟨w2.heap.size, 1, none⟩ = some (.int .i64 hi) := X2.cell 1
  have X2f1 : w4.frozen? ⟨w2.heap.size, 1, none⟩ = false := X2.free 1
  have X2z : w2.heap.size < w4.heap.size := X2.lt
  go_wp2_with fail
  have m3 := S.out.m3
  have m4 := S.out.m4
  have m5 := S.out.m5
  have m6 := S.out.m6
  go_quiet (fail)
  clear m3 m4 m5 m6
  clear X0c0 X0f0 X0c1 X0f1 X0z X1c0 X1f0 X1c1 X1f1 X1z X2c0 X2f0 X2c1 X2f1 X2z
  have X0 := (X0).drewN nq
  have X1 := (X1).drewN nq
  have X2 := (X2).drewN nq
  have hB := bel_drewN hB nq
  generalize (w4).drewN nq = w5 at hB X0 X1 X2 ⊢
  have l1 := S.out.l1
  have l2 := S.out.l2
  have l3 := S.out.l3
  have l4 := S.out.l4
  have X0c0 : w5.cell? ⟨w.heap.size, 0, none⟩ = some (.int .i64 a) := X0.cell 0
  have X0f0 : w5.frozen? ⟨w.heap.size, 0, none⟩ = false := X0.free 0
  have X0c1 : w5.cell? ⟨w.heap.size, 1, none⟩ = some (.int .i64 b) := X0.cell 1
  have X0f1 : w5.frozen? ⟨w.heap.size, 1, none⟩ = false := X0.free 1
  have X0z : w.heap.size < w5.heap.size := X0.lt
  have X1c0 : w5.cell? ⟨w.heap.size + 1, 0, none⟩ = some (.int .i64 n) := X1.cell 0
  have X1f0 : w5.frozen? ⟨w.heap.size + 1, 0, none⟩ = false := X1.free 0
  have X1c1 : w5.cell? ⟨w.heap.size + 1, 1, none⟩ = some (.int .i64 d) := X1.cell 1
  have X1f1 : w5.frozen? ⟨w.heap.size + 1, 1, none⟩ = false := X1.free 1
  have X1z : w.heap.size + 1 < w5.heap.size := X1.lt
  have X2c0 : w5.cell? ⟨w2.heap.size, 0, none⟩ = some (.int .i64 lo) := X2.cell 0
  have X2f0 : w5.frozen? ⟨w2.heap.size, 0, none⟩ = false := X2.free 0
  have X2c1 : w5.cell? ⟨w2.heap.size, 1, none⟩ = some (.int .i64 hi) := X2.cell 1
  have X2f1 : w5.frozen? ⟨w2.heap.size, 1, none⟩ = false := X2.free 1
  have X2z : w2.heap.size < w5.heap.size := X2.lt
  go_wp2_with fail
  refine ((Scale_any lo hi d n _).mono fun _ _ => Ret.at H2).mono ?_
  rintro e w6 ⟨rfl, hb⟩
  clear X0c0 X0f0 X0c1 X0f1 X0z X1c0 X1f0 X1c1 X1f1 X1z X2c0 X2f0 X2c1 X2f1 X2z
  have X3 := ((Box.newAt (w := w5) (n := w5.heap.size) [.int .i64 d, .int .i64 n] 31 (by simp))).later hb
  have X0 := ((X0.alloc (.cells #[.int .i64 d, .int .i64 n] 31))).later hb
  have X1 := ((X1.alloc (.cells #[.int .i64 d, .int .i64 n] 31))).later hb
  have X2 := ((X2.alloc (.cells #[.int .i64 d, .int .i64 n] 31))).later hb
  have hB := (hB.alloc hB.size (.cells #[.int .i64 d, .int .i64 n] 31)).trans (hb.mono (by have := hB.size; simp; omega))
  clear hb
  have X0c0 : w6.cell? ⟨w.heap.size, 0, none⟩ = some (.int .i64 a) := X0.cell 0
  have X0f0 : w6.frozen? ⟨w.heap.size, 0, none⟩ = false := X0.free 0
  have X0c1 : w6.cell? ⟨w.heap.size, 1, none⟩ = some (.int .i64 b) := X0.cell 1
  have X0f1 : w6.frozen? ⟨w.heap.size, 1, none⟩ = false := X0.free 1
  have X0z : w.heap.size < w6.heap.size := X0.lt
  go_wp2_with fail
  refine ((Inside_any a b y z _).mono fun _ _ => RetO.at H3).mono ?_
  rintro e w7 ⟨rfl, hb⟩
  clear X0c0 X0f0 X0c1 X0f1 X0z
  have X4 := ((Box.newAt (w := w6) (n := w6.heap.size) [.int .i64 y, .int .i64 z] 23 (by simp))).later hb
  have X0 := ((X0.alloc (.cells #[.int .i64 y, .int .i64 z] 23))).later hb
  have X1 := ((X1.alloc (.cells #[.int .i64 y, .int .i64 z] 23))).later hb
  have X2 := ((X2.alloc (.cells #[.int .i64 y, .int .i64 z] 23))).later hb
  have X3 := ((X3.alloc (.cells #[.int .i64 y, .int .i64 z] 23))).later hb
  have hB := (hB.alloc hB.size (.cells #[.int .i64 y, .int .i64 z] 23)).trans (hb.mono (by have := hB.size; simp; omega))
  clear hb
  have X0c0 : w7.cell? ⟨w.heap.size, 0, none⟩ = some (.int .i64 a) := X0.cell 0
  have X0f0 : w7.frozen? ⟨w.heap.size, 0, none⟩ = false := X0.free 0
  have X0c1 : w7.cell? ⟨w.heap.size, 1, none⟩ = some (.int .i64 b) := X0.cell 1
  have X0f1 : w7.frozen? ⟨w.heap.size, 1, none⟩ = false := X0.free 1
  have X0z : w.heap.size < w7.heap.size := X0.lt
  go_wp2
  go_ret
  exact ⟨rfl, hB⟩

end Go.Proofs.Ytmjbcmicjhgciaa
