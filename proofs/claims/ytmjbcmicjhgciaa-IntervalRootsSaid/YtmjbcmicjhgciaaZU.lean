/-
  IntervalRoots: the walk. (Printed by gen_roots.py.)
-/
import Derived.Test.YtmjbcmicjhgciaaZG
import Derived.Test.YtmjbcmicjhgciaaZT
namespace Go.Proofs.Ytmjbcmicjhgciaa
open Go.RowKit

set_option maxRecDepth 100000 in
set_option maxHeartbeats 4000000 in
theorem roots_1 (a b x : Int) (w : World) (h1 : Hid (okR a b = false)) : Calls Try.prog 7 #[rng a b, .int .i64 x] w fun e w' => e = .returned (.bool true) ∧ Below w.heap.size w w' := by
  go_enter Try.func7, Try.ntmps7
  go_wp2_with fail
  refine (sane_any _).mono ?_
  rintro e w1 ⟨rfl, hb⟩
  have X0 := ((Box.newAt (n := w.heap.size) [.int .i64 a, .int .i64 b] 23 (by simp))).later hb
  have hB : Below w.heap.size w w1 := (((Below.refl w.heap.size w).alloc (by simp <;> omega) _)).trans (hb.mono (by simp <;> omega))
  clear hb
  have X0c0 : w1.cell? ⟨w.heap.size, 0, none⟩ = some (.int .i64 a) := X0.cell 0
  have X0f0 : w1.frozen? ⟨w.heap.size, 0, none⟩ = false := X0.free 0
  have X0c1 : w1.cell? ⟨w.heap.size, 1, none⟩ = some (.int .i64 b) := X0.cell 1
  have X0f1 : w1.frozen? ⟨w.heap.size, 1, none⟩ = false := X0.free 1
  have X0z : w.heap.size < w1.heap.size := X0.lt
  go_wp2_with fail
  refine (Check_at (chk_no h1.out) _).mono ?_
  rintro e w2 ⟨rfl, hb⟩
  clear X0c0 X0f0 X0c1 X0f1 X0z
  have X0 := X0.later hb
  have hB := hB.trans (hb.mono hB.size)
  clear hb
  have X0c0 : w2.cell? ⟨w.heap.size, 0, none⟩ = some (.int .i64 a) := X0.cell 0
  have X0f0 : w2.frozen? ⟨w.heap.size, 0, none⟩ = false := X0.free 0
  have X0c1 : w2.cell? ⟨w.heap.size, 1, none⟩ = some (.int .i64 b) := X0.cell 1
  have X0f1 : w2.frozen? ⟨w.heap.size, 1, none⟩ = false := X0.free 1
  have X0z : w.heap.size < w2.heap.size := X0.lt
  go_wp2
  go_ret
  exact ⟨rfl, hB⟩

set_option maxRecDepth 100000 in
set_option maxHeartbeats 4000000 in
theorem roots_2 (a b x : Int) (w : World) (h1 : Hid (okR a b = true)) (h2 : Hid (holB a b x = false)) : Calls Try.prog 7 #[rng a b, .int .i64 x] w fun e w' => e = .returned (.bool true) ∧ Below w.heap.size w w' := by
  go_enter Try.func7, Try.ntmps7
  go_wp2_with fail
  refine (sane_any _).mono ?_
  rintro e w1 ⟨rfl, hb⟩
  have X0 := ((Box.newAt (n := w.heap.size) [.int .i64 a, .int .i64 b] 23 (by simp))).later hb
  have hB : Below w.heap.size w w1 := (((Below.refl w.heap.size w).alloc (by simp <;> omega) _)).trans (hb.mono (by simp <;> omega))
  clear hb
  have X0c0 : w1.cell? ⟨w.heap.size, 0, none⟩ = some (.int .i64 a) := X0.cell 0
  have X0f0 : w1.frozen? ⟨w.heap.size, 0, none⟩ = false := X0.free 0
  have X0c1 : w1.cell? ⟨w.heap.size, 1, none⟩ = some (.int .i64 b) := X0.cell 1
  have X0f1 : w1.frozen? ⟨w.heap.size, 1, none⟩ = false := X0.free 1
  have X0z : w.heap.size < w1.heap.size := X0.lt
  go_wp2_with fail
  refine (Check_at (chk_yes h1.out) _).mono ?_
  rintro e w2 ⟨rfl, hb⟩
  clear X0c0 X0f0 X0c1 X0f1 X0z
  have X0 := X0.later hb
  have hB := hB.trans (hb.mono hB.size)
  clear hb
  have X0c0 : w2.cell? ⟨w.heap.size, 0, none⟩ = some (.int .i64 a) := X0.cell 0
  have X0f0 : w2.frozen? ⟨w.heap.size, 0, none⟩ = false := X0.free 0
  have X0c1 : w2.cell? ⟨w.heap.size, 1, none⟩ = some (.int .i64 b) := X0.cell 1
  have X0f1 : w2.frozen? ⟨w.heap.size, 1, none⟩ = false := X0.free 1
  have X0z : w.heap.size < w2.heap.size := X0.lt
  go_wp2_with fail
  refine (holds_at h2.out _).mono ?_
  rintro e w3 ⟨rfl, hb⟩
  clear X0c0 X0f0 X0c1 X0f1 X0z
  have X0 := X0.later hb
  have hB := hB.trans (hb.mono hB.size)
  clear hb
  have X0c0 : w3.cell? ⟨w.heap.size, 0, none⟩ = some (.int .i64 a) := X0.cell 0
  have X0f0 : w3.frozen? ⟨w.heap.size, 0, none⟩ = false := X0.free 0
  have X0c1 : w3.cell? ⟨w.heap.size, 1, none⟩ = some (.int .i64 b) := X0.cell 1
  have X0f1 : w3.frozen? ⟨w.heap.size, 1, none⟩ = false := X0.free 1
  have X0z : w.heap.size < w3.heap.size := X0.lt
  go_wp2
  go_ret
  exact ⟨rfl, hB⟩

set_option maxRecDepth 100000 in
set_option maxHeartbeats 4000000 in
theorem roots_no_neg (a b x : Int) (w : World) (h1 : Hid (okR a b = true)) (h2 : Hid (holB a b x = true)) (H1 : Hid (sqT a b = (0, 0, 2))) (H2 : Hid (mulT a b a b = (0, 0, 2))) (_k1 : a < 0) (H3 : Hid (rootT a b = (0, 0, 1))) : Calls Try.prog 7 #[rng a b, .int .i64 x] w fun e w' => e = .returned (.bool true) ∧ Below w.heap.size w w' := by
  go_enter Try.func7, Try.ntmps7
  go_wp2_with fail
  refine (sane_any _).mono ?_
  rintro e w1 ⟨rfl, hb⟩
  have X0 := ((Box.newAt (n := w.heap.size) [.int .i64 a, .int .i64 b] 23 (by simp))).later hb
  have hB : Below w.heap.size w w1 := (((Below.refl w.heap.size w).alloc (by simp <;> omega) _)).trans (hb.mono (by simp <;> omega))
  clear hb
  have X0c0 : w1.cell? ⟨w.heap.size, 0, none⟩ = some (.int .i64 a) := X0.cell 0
  have X0f0 : w1.frozen? ⟨w.heap.size, 0, none⟩ = false := X0.free 0
  have X0c1 : w1.cell? ⟨w.heap.size, 1, none⟩ = some (.int .i64 b) := X0.cell 1
  have X0f1 : w1.frozen? ⟨w.heap.size, 1, none⟩ = false := X0.free 1
  have X0z : w.heap.size < w1.heap.size := X0.lt
  go_wp2_with fail
  refine (Check_at (chk_yes h1.out) _).mono ?_
  rintro e w2 ⟨rfl, hb⟩
  clear X0c0 X0f0 X0c1 X0f1 X0z
  have X0 := X0.later hb
  have hB := hB.trans (hb.mono hB.size)
  clear hb
  have X0c0 : w2.cell? ⟨w.heap.size, 0, none⟩ = some (.int .i64 a) := X0.cell 0
  have X0f0 : w2.frozen? ⟨w.heap.size, 0, none⟩ = false := X0.free 0
  have X0c1 : w2.cell? ⟨w.heap.size, 1, none⟩ = some (.int .i64 b) := X0.cell 1
  have X0f1 : w2.frozen? ⟨w.heap.size, 1, none⟩ = false := X0.free 1
  have X0z : w.heap.size < w2.heap.size := X0.lt
  go_wp2_with fail
  refine (holds_at h2.out _).mono ?_
  rintro e w3 ⟨rfl, hb⟩
  clear X0c0 X0f0 X0c1 X0f1 X0z
  have X0 := X0.later hb
  have hB := hB.trans (hb.mono hB.size)
  clear hb
  have X0c0 : w3.cell? ⟨w.heap.size, 0, none⟩ = some (.int .i64 a) := X0.cell 0
  have X0f0 : w3.frozen? ⟨w.heap.size, 0, none⟩ = false := X0.free 0
  have X0c1 : w3.cell? ⟨w.heap.size, 1, none⟩ = some (.int .i64 b) := X0.cell 1
  have X0f1 : w3.frozen? ⟨w.heap.size, 1, none⟩ = false := X0.free 1
  have X0z : w.heap.size < w3.heap.size := X0.lt
  go_wp2_with fail
  refine ((Square_any a b _).mono fun _ _ => Ret.at H1).mono ?_
  rintro e w4 ⟨rfl, hb⟩
  clear X0c0 X0f0 X0c1 X0f1 X0z
  have X0 := X0.later hb
  have hB := hB.trans (hb.mono hB.size)
  clear hb
  have X0c0 : w4.cell? ⟨w.heap.size, 0, none⟩ = some (.int .i64 a) := X0.cell 0
  have X0f0 : w4.frozen? ⟨w.heap.size, 0, none⟩ = false := X0.free 0
  have X0c1 : w4.cell? ⟨w.heap.size, 1, none⟩ = some (.int .i64 b) := X0.cell 1
  have X0f1 : w4.frozen? ⟨w.heap.size, 1, none⟩ = false := X0.free 1
  have X0z : w.heap.size < w4.heap.size := X0.lt
  go_wp2_with fail
  refine ((Mul_any a b a b _).mono fun _ _ => Ret.at H2).mono ?_
  rintro e w5 ⟨rfl, hb⟩
  clear X0c0 X0f0 X0c1 X0f1 X0z
  have X1 := ((Box.newAt (w := w4) (n := w4.heap.size) [.int .i64 0, .int .i64 0] 23 (by simp))).later hb
  have X0 := ((X0.alloc (.cells #[.int .i64 0, .int .i64 0] 23))).later hb
  have hB := (hB.alloc hB.size (.cells #[.int .i64 0, .int .i64 0] 23)).trans (hb.mono (by have := hB.size; simp; omega))
  clear hb
  have X0c0 : w5.cell? ⟨w.heap.size, 0, none⟩ = some (.int .i64 a) := X0.cell 0
  have X0f0 : w5.frozen? ⟨w.heap.size, 0, none⟩ = false := X0.free 0
  have X0c1 : w5.cell? ⟨w.heap.size, 1, none⟩ = some (.int .i64 b) := X0.cell 1
  have X0f1 : w5.frozen? ⟨w.heap.size, 1, none⟩ = false := X0.free 1
  have X0z : w.heap.size < w5.heap.size := X0.lt
  go_wp2_with fail
  refine ((Root_any a b _).mono fun _ _ => Ret.at H3).mono ?_
  rintro e w6 ⟨rfl, hb⟩
  clear X0c0 X0f0 X0c1 X0f1 X0z
  have X2 := ((Box.newAt (w := w5) (n := w5.heap.size) [.int .i64 0, .int .i64 0] 23 (by simp))).later hb
  have X0 := ((X0.alloc (.cells #[.int .i64 0, .int .i64 0] 23))).later hb
  have X1 := ((X1.alloc (.cells #[.int .i64 0, .int .i64 0] 23))).later hb
  have hB := (hB.alloc hB.size (.cells #[.int .i64 0, .int .i64 0] 23)).trans (hb.mono (by have := hB.size; simp; omega))
  clear hb
  have X0c0 : w6.cell? ⟨w.heap.size, 0, none⟩ = some (.int .i64 a) := X0.cell 0
  have X0f0 : w6.frozen? ⟨w.heap.size, 0, none⟩ = false := X0.free 0
  have X0c1 : w6.cell? ⟨w.heap.size, 1, none⟩ = some (.int .i64 b) := X0.cell 1
  have X0f1 : w6.frozen? ⟨w.heap.size, 1, none⟩ = false := X0.free 1
  have X0z : w.heap.size < w6.heap.size := X0.lt
  go_wp2
  go_ret
  exact ⟨rfl, (hB.alloc hB.size _)⟩

set_option maxRecDepth 100000 in
set_option maxHeartbeats 4000000 in
theorem roots_no_pos (a b x r s : Int) (w : World) (h1 : Hid (okR a b = true)) (h2 : Hid (holB a b x = true)) (H1 : Hid (sqT a b = (0, 0, 2))) (H2 : Hid (mulT a b a b = (0, 0, 2))) (_k1 : 0 ≤ a) (H3 : Hid (rootT a b = (r, s, 0))) (_k2 : 0 ≤ r) (_k3 : r ≤ s) (_k4 : s ≤ 1048576) (_k5 : r * r ≤ a) (_k6 : a < (r + 1) * (r + 1)) (_k7 : b ≤ s * s)
    (_v1 : IntKind.i64.wrap (r * r) = r * r) (_v2 : IntKind.i64.wrap ((r + 1) * (r + 1)) = (r + 1) * (r + 1)) (_v3 : IntKind.i64.wrap (s * s) = s * s) (_k8 : 1 ≤ s) (_k9 : (s - 1) * (s - 1) < b) (_v4 : IntKind.i64.wrap ((s - 1) * (s - 1)) = (s - 1) * (s - 1)) : Calls Try.prog 7 #[rng a b, .int .i64 x] w fun e w' => e = .returned (.bool true) ∧ Below w.heap.size w w' := by
  go_enter Try.func7, Try.ntmps7
  go_wp2_with fail
  refine (sane_any _).mono ?_
  rintro e w1 ⟨rfl, hb⟩
  have X0 := ((Box.newAt (n := w.heap.size) [.int .i64 a, .int .i64 b] 23 (by simp))).later hb
  have hB : Below w.heap.size w w1 := (((Below.refl w.heap.size w).alloc (by simp <;> omega) _)).trans (hb.mono (by simp <;> omega))
  clear hb
  have X0c0 : w1.cell? ⟨w.heap.size, 0, none⟩ = some (.int .i64 a) := X0.cell 0
  have X0f0 : w1.frozen? ⟨w.heap.size, 0, none⟩ = false := X0.free 0
  have X0c1 : w1.cell? ⟨w.heap.size, 1, none⟩ = some (.int .i64 b) := X0.cell 1
  have X0f1 : w1.frozen? ⟨w.heap.size, 1, none⟩ = false := X0.free 1
  have X0z : w.heap.size < w1.heap.size := X0.lt
  go_wp2_with fail
  refine (Check_at (chk_yes h1.out) _).mono ?_
  rintro e w2 ⟨rfl, hb⟩
  clear X0c0 X0f0 X0c1 X0f1 X0z
  have X0 := X0.later hb
  have hB := hB.trans (hb.mono hB.size)
  clear hb
  have X0c0 : w2.cell? ⟨w.heap.size, 0, none⟩ = some (.int .i64 a) := X0.cell 0
  have X0f0 : w2.frozen? ⟨w.heap.size, 0, none⟩ = false := X0.free 0
  have X0c1 : w2.cell? ⟨w.heap.size, 1, none⟩ = some (.int .i64 b) := X0.cell 1
  have X0f1 : w2.frozen? ⟨w.heap.size, 1, none⟩ = false := X0.free 1
  have X0z : w.heap.size < w2.heap.size := X0.lt
  go_wp2_with fail
  refine (holds_at h2.out _).mono ?_
  rintro e w3 ⟨rfl, hb⟩
  clear X0c0 X0f0 X0c1 X0f1 X0z
  have X0 := X0.later hb
  have hB := hB.trans (hb.mono hB.size)
  clear hb
  have X0c0 : w3.cell? ⟨w.heap.size, 0, none⟩ = some (.int .i64 a) := X0.cell 0
  have X0f0 : w3.frozen? ⟨w.heap.size, 0, none⟩ = false := X0.free 0
  have X0c1 : w3.cell? ⟨w.heap.size, 1, none⟩ = some (.int .i64 b) := X0.cell 1
  have X0f1 : w3.frozen? ⟨w.heap.size, 1, none⟩ = false := X0.free 1
  have X0z : w.heap.size < w3.heap.size := X0.lt
  go_wp2_with fail
  refine ((Square_any a b _).mono fun _ _ => Ret.at H1).mono ?_
  rintro e w4 ⟨rfl, hb⟩
  clear X0c0 X0f0 X0c1 X0f1 X0z
  have X0 := X0.later hb
  have hB := hB.trans (hb.mono hB.size)
  clear hb
  have X0c0 : w4.cell? ⟨w.heap.size, 0, none⟩ = some (.int .i64 a) := X0.cell 0
  have X0f0 : w4.frozen? ⟨w.heap.size, 0, none⟩ = false := X0.free 0
  have X0c1 : w4.cell? ⟨w.heap.size, 1, none⟩ = some (.int .i64 b) := X0.cell 1
  have X0f1 : w4.frozen? ⟨w.heap.size, 1, none⟩ = false := X0.free 1
  have X0z : w.heap.size < w4.heap.size := X0.lt
  go_wp2_with fail
  refine ((Mul_any a b a b _).mono fun _ _ => Ret.at H2).mono ?_
  rintro e w5 ⟨rfl, hb⟩
  clear X0c0 X0f0 X0c1 X0f1 X0z
  have X1 := ((Box.newAt (w := w4) (n := w4.heap.size) [.int .i64 0, .int .i64 0] 23 (by simp))).later hb
  have X0 := ((X0.alloc (.cells #[.int .i64 0, .int .i64 0] 23))).later hb
  have hB := (hB.alloc hB.size (.cells #[.int .i64 0, .int .i64 0] 23)).trans (hb.mono (by have := hB.size; simp; omega))
  clear hb
  have X0c0 : w5.cell? ⟨w.heap.size, 0, none⟩ = some (.int .i64 a) := X0.cell 0
  have X0f0 : w5.frozen? ⟨w.heap.size, 0, none⟩ = false := X0.free 0
  have X0c1 : w5.cell? ⟨w.heap.size, 1, none⟩ = some (.int .i64 b) := X0.cell 1
  have X0f1 : w5.frozen? ⟨w.heap.size, 1, none⟩ = false := X0.free 1
  have X0z : w.heap.size < w5.heap.size := X0.lt
  go_wp2_with fail
  refine ((Root_any a b _).mono fun _ _ => Ret.at H3).mono ?_
  rintro e w6 ⟨rfl, hb⟩
  clear X0c0 X0f0 X0c1 X0f1 X0z
  have X2 := ((Box.newAt (w := w5) (n := w5.heap.size) [.int .i64 0, .int .i64 0] 23 (by simp))).later hb
  have X0 := ((X0.alloc (.cells #[.int .i64 0, .int .i64 0] 23))).later hb
  have X1 := ((X1.alloc (.cells #[.int .i64 0, .int .i64 0] 23))).later hb
  have hB := (hB.alloc hB.size (.cells #[.int .i64 0, .int .i64 0] 23)).trans (hb.mono (by have := hB.size; simp; omega))
  clear hb
  have X0c0 : w6.cell? ⟨w.heap.size, 0, none⟩ = some (.int .i64 a) := X0.cell 0
  have X0f0 : w6.frozen? ⟨w.heap.size, 0, none⟩ = false := X0.free 0
  have X0c1 : w6.cell? ⟨w.heap.size, 1, none⟩ = some (.int .i64 b) := X0.cell 1
  have X0f1 : w6.frozen? ⟨w.heap.size, 1, none⟩ = false := X0.free 1
  have X0z : w.heap.size < w6.heap.size := X0.lt
  go_wp2
  go_ret
  exact ⟨rfl, (hB.alloc hB.size _)⟩

set_option maxRecDepth 100000 in
set_option maxHeartbeats 4000000 in
theorem roots_no_zero (a b x r : Int) (w : World) (h1 : Hid (okR a b = true)) (h2 : Hid (holB a b x = true)) (H1 : Hid (sqT a b = (0, 0, 2))) (H2 : Hid (mulT a b a b = (0, 0, 2))) (_k1 : 0 ≤ a) (H3 : Hid (rootT a b = (r, 0, 0))) (_k2 : 0 ≤ r) (_k3 : r ≤ 0) (_k5 : r * r ≤ a) (_k6 : a < (r + 1) * (r + 1)) (_k7 : b ≤ 0)
    (_v1 : IntKind.i64.wrap (r * r) = r * r) (_v2 : IntKind.i64.wrap ((r + 1) * (r + 1)) = (r + 1) * (r + 1)) : Calls Try.prog 7 #[rng a b, .int .i64 x] w fun e w' => e = .returned (.bool true) ∧ Below w.heap.size w w' := by
  go_enter Try.func7, Try.ntmps7
  go_wp2_with fail
  refine (sane_any _).mono ?_
  rintro e w1 ⟨rfl, hb⟩
  have X0 := ((Box.newAt (n := w.heap.size) [.int .i64 a, .int .i64 b] 23 (by simp))).later hb
  have hB : Below w.heap.size w w1 := (((Below.refl w.heap.size w).alloc (by simp <;> omega) _)).trans (hb.mono (by simp <;> omega))
  clear hb
  have X0c0 : w1.cell? ⟨w.heap.size, 0, none⟩ = some (.int .i64 a) := X0.cell 0
  have X0f0 : w1.frozen? ⟨w.heap.size, 0, none⟩ = false := X0.free 0
  have X0c1 : w1.cell? ⟨w.heap.size, 1, none⟩ = some (.int .i64 b) := X0.cell 1
  have X0f1 : w1.frozen? ⟨w.heap.size, 1, none⟩ = false := X0.free 1
  have X0z : w.heap.size < w1.heap.size := X0.lt
  go_wp2_with fail
  refine (Check_at (chk_yes h1.out) _).mono ?_
  rintro e w2 ⟨rfl, hb⟩
  clear X0c0 X0f0 X0c1 X0f1 X0z
  have X0 := X0.later hb
  have hB := hB.trans (hb.mono hB.size)
  clear hb
  have X0c0 : w2.cell? ⟨w.heap.size, 0, none⟩ = some (.int .i64 a) := X0.cell 0
  have X0f0 : w2.frozen? ⟨w.heap.size, 0, none⟩ = false := X0.free 0
  have X0c1 : w2.cell? ⟨w.heap.size, 1, none⟩ = some (.int .i64 b) := X0.cell 1
  have X0f1 : w2.frozen? ⟨w.heap.size, 1, none⟩ = false := X0.free 1
  have X0z : w.heap.size < w2.heap.size := X0.lt
  go_wp2_with fail
  refine (holds_at h2.out _).mono ?_
  rintro e w3 ⟨rfl, hb⟩
  clear X0c0 X0f0 X0c1 X0f1 X0z
  have X0 := X0.later hb
  have hB := hB.trans (hb.mono hB.size)
  clear hb
  have X0c0 : w3.cell? ⟨w.heap.size, 0, none⟩ = some (.int .i64 a) := X0.cell 0
  have X0f0 : w3.frozen? ⟨w.heap.size, 0, none⟩ = false := X0.free 0
  have X0c1 : w3.cell? ⟨w.heap.size, 1, none⟩ = some (.int .i64 b) := X0.cell 1
  have X0f1 : w3.frozen? ⟨w.heap.size, 1, none⟩ = false := X0.free 1
  have X0z : w.heap.size < w3.heap.size := X0.lt
  go_wp2_with fail
  refine ((Square_any a b _).mono fun _ _ => Ret.at H1).mono ?_
  rintro e w4 ⟨rfl, hb⟩
  clear X0c0 X0f0 X0c1 X0f1 X0z
  have X0 := X0.later hb
  have hB := hB.trans (hb.mono hB.size)
  clear hb
  have X0c0 : w4.cell? ⟨w.heap.size, 0, none⟩ = some (.int .i64 a) := X0.cell 0
  have X0f0 : w4.frozen? ⟨w.heap.size, 0, none⟩ = false := X0.free 0
  have X0c1 : w4.cell? ⟨w.heap.size, 1, none⟩ = some (.int .i64 b) := X0.cell 1
  have X0f1 : w4.frozen? ⟨w.heap.size, 1, none⟩ = false := X0.free 1
  have X0z : w.heap.size < w4.heap.size := X0.lt
  go_wp2_with fail
  refine ((Mul_any a b a b _).mono fun _ _ => Ret.at H2).mono ?_
  rintro e w5 ⟨rfl, hb⟩
  clear X0c0 X0f0 X0c1 X0f1 X0z
  have X1 := ((Box.newAt (w := w4) (n := w4.heap.size) [.int .i64 0, .int .i64 0] 23 (by simp))).later hb
  have X0 := ((X0.alloc (.cells #[.int .i64 0, .int .i64 0] 23))).later hb
  have hB := (hB.alloc hB.size (.cells #[.int .i64 0, .int .i64 0] 23)).trans (hb.mono (by have := hB.size; simp; omega))
  clear hb
  have X0c0 : w5.cell? ⟨w.heap.size, 0, none⟩ = some (.int .i64 a) := X0.cell 0
  have X0f0 : w5.frozen? ⟨w.heap.size, 0, none⟩ = false := X0.free 0
  have X0c1 : w5.cell? ⟨w.heap.size, 1, none⟩ = some (.int .i64 b) := X0.cell 1
  have X0f1 : w5.frozen? ⟨w.heap.size, 1, none⟩ = false := X0.free 1
  have X0z : w.heap.size < w5.heap.size := X0.lt
  go_wp2_with fail
  refine ((Root_any a b _).mono fun _ _ => Ret.at H3).mono ?_
  rintro e w6 ⟨rfl, hb⟩
  clear X0c0 X0f0 X0c1 X0f1 X0z
  have X2 := ((Box.newAt (w := w5) (n := w5.heap.size) [.int .i64 0, .int .i64 0] 23 (by simp))).later hb
  have X0 := ((X0.alloc (.cells #[.int .i64 0, .int .i64 0] 23))).later hb
  have X1 := ((X1.alloc (.cells #[.int .i64 0, .int .i64 0] 23))).later hb
  have hB := (hB.alloc hB.size (.cells #[.int .i64 0, .int .i64 0] 23)).trans (hb.mono (by have := hB.size; simp; omega))
  clear hb
  have X0c0 : w6.cell? ⟨w.heap.size, 0, none⟩ = some (.int .i64 a) := X0.cell 0
  have X0f0 : w6.frozen? ⟨w.heap.size, 0, none⟩ = false := X0.free 0
  have X0c1 : w6.cell? ⟨w.heap.size, 1, none⟩ = some (.int .i64 b) := X0.cell 1
  have X0f1 : w6.frozen? ⟨w.heap.size, 1, none⟩ = false := X0.free 1
  have X0z : w.heap.size < w6.heap.size := X0.lt
  go_wp2
  go_ret
  exact ⟨rfl, (hB.alloc hB.size _)⟩

end Go.Proofs.Ytmjbcmicjhgciaa
