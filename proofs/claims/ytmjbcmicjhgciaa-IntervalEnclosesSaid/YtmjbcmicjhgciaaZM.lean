/-
  IntervalEncloses: the walk. (Printed by gen_encl.py.)
-/
import Derived.Test.YtmjbcmicjhgciaaZG
import Derived.Test.YtmjbcmicjhgciaaZL


namespace Go.Proofs.Ytmjbcmicjhgciaa
open Go.RowKit
set_option maxRecDepth 100000 in
set_option maxHeartbeats 4000000 in
theorem encl_1 (a b c d x y : Int) (w : World) (h1 : chkT a b = 130) : Calls Try.prog 6 #[rng a b, rng c d, .int .i64 x, .int .i64 y] w fun e w' => e = .returned (.bool true) ∧ Below w.heap.size w w' := by
  go_enter Try.func6, Try.ntmps6
  go_wp2_with fail
  refine (sane_any _).mono ?_
  rintro e w1 ⟨rfl, hb⟩
  have X0 := (((Box.newAt (n := w.heap.size) [.int .i64 a, .int .i64 b] 23 (by simp)).alloc _)).later hb
  have X1 := ((Box.newAt (n := w.heap.size + 1) [.int .i64 c, .int .i64 d] 23 (by simp))).later hb
  have hB : Below w.heap.size w w1 := ((((Below.refl w.heap.size w).alloc (by simp <;> omega) _).alloc (by simp <;> omega) _)).trans (hb.mono (by simp <;> omega))
  have L : All w1 [] := All.nil
  clear hb
  obtain ⟨⟨c0, d0⟩, f0, g0⟩ := X0.two
  have z0 := X0.lt
  obtain ⟨⟨c1, d1⟩, f1, g1⟩ := X1.two
  have z1 := X1.lt
  go_wp2_with fail
  refine (Check_at h1 _).mono ?_
  rintro e w2 ⟨rfl, hb⟩
  clear c0 d0 f0 g0 z0 c1 d1 f1 g1 z1
  have hB := hB.trans (hb.mono hB.size)
  have L := L.later hb
  have X0 := X0.later hb
  have X1 := X1.later hb
  clear hb
  obtain ⟨⟨c0, d0⟩, f0, g0⟩ := X0.two
  have z0 := X0.lt
  obtain ⟨⟨c1, d1⟩, f1, g1⟩ := X1.two
  have z1 := X1.lt
  go_wp2
  go_ret
  exact ⟨rfl, hB⟩

set_option maxRecDepth 100000 in
set_option maxHeartbeats 4000000 in
theorem encl_2 (a b c d x y : Int) (w : World) (h1 : chkT a b = 0) (h2 : chkT c d = 130) : Calls Try.prog 6 #[rng a b, rng c d, .int .i64 x, .int .i64 y] w fun e w' => e = .returned (.bool true) ∧ Below w.heap.size w w' := by
  go_enter Try.func6, Try.ntmps6
  go_wp2_with fail
  refine (sane_any _).mono ?_
  rintro e w1 ⟨rfl, hb⟩
  have X0 := (((Box.newAt (n := w.heap.size) [.int .i64 a, .int .i64 b] 23 (by simp)).alloc _)).later hb
  have X1 := ((Box.newAt (n := w.heap.size + 1) [.int .i64 c, .int .i64 d] 23 (by simp))).later hb
  have hB : Below w.heap.size w w1 := ((((Below.refl w.heap.size w).alloc (by simp <;> omega) _).alloc (by simp <;> omega) _)).trans (hb.mono (by simp <;> omega))
  have L : All w1 [] := All.nil
  clear hb
  obtain ⟨⟨c0, d0⟩, f0, g0⟩ := X0.two
  have z0 := X0.lt
  obtain ⟨⟨c1, d1⟩, f1, g1⟩ := X1.two
  have z1 := X1.lt
  go_wp2_with fail
  refine (Check_at h1 _).mono ?_
  rintro e w2 ⟨rfl, hb⟩
  clear c0 d0 f0 g0 z0 c1 d1 f1 g1 z1
  have hB := hB.trans (hb.mono hB.size)
  have L := L.later hb
  have X0 := X0.later hb
  have X1 := X1.later hb
  clear hb
  obtain ⟨⟨c0, d0⟩, f0, g0⟩ := X0.two
  have z0 := X0.lt
  obtain ⟨⟨c1, d1⟩, f1, g1⟩ := X1.two
  have z1 := X1.lt
  go_wp2_with fail
  refine (Check_at h2 _).mono ?_
  rintro e w3 ⟨rfl, hb⟩
  clear c0 d0 f0 g0 z0 c1 d1 f1 g1 z1
  have hB := hB.trans (hb.mono hB.size)
  have L := L.later hb
  have X0 := X0.later hb
  have X1 := X1.later hb
  clear hb
  obtain ⟨⟨c0, d0⟩, f0, g0⟩ := X0.two
  have z0 := X0.lt
  obtain ⟨⟨c1, d1⟩, f1, g1⟩ := X1.two
  have z1 := X1.lt
  go_wp2
  go_ret
  exact ⟨rfl, hB⟩

set_option maxRecDepth 100000 in
set_option maxHeartbeats 4000000 in
theorem encl_3 (a b c d x y : Int) (w : World) (h1 : chkT a b = 0) (h2 : chkT c d = 0) (h3 : holB a b x = false) : Calls Try.prog 6 #[rng a b, rng c d, .int .i64 x, .int .i64 y] w fun e w' => e = .returned (.bool true) ∧ Below w.heap.size w w' := by
  go_enter Try.func6, Try.ntmps6
  go_wp2_with fail
  refine (sane_any _).mono ?_
  rintro e w1 ⟨rfl, hb⟩
  have X0 := (((Box.newAt (n := w.heap.size) [.int .i64 a, .int .i64 b] 23 (by simp)).alloc _)).later hb
  have X1 := ((Box.newAt (n := w.heap.size + 1) [.int .i64 c, .int .i64 d] 23 (by simp))).later hb
  have hB : Below w.heap.size w w1 := ((((Below.refl w.heap.size w).alloc (by simp <;> omega) _).alloc (by simp <;> omega) _)).trans (hb.mono (by simp <;> omega))
  have L : All w1 [] := All.nil
  clear hb
  obtain ⟨⟨c0, d0⟩, f0, g0⟩ := X0.two
  have z0 := X0.lt
  obtain ⟨⟨c1, d1⟩, f1, g1⟩ := X1.two
  have z1 := X1.lt
  go_wp2_with fail
  refine (Check_at h1 _).mono ?_
  rintro e w2 ⟨rfl, hb⟩
  clear c0 d0 f0 g0 z0 c1 d1 f1 g1 z1
  have hB := hB.trans (hb.mono hB.size)
  have L := L.later hb
  have X0 := X0.later hb
  have X1 := X1.later hb
  clear hb
  obtain ⟨⟨c0, d0⟩, f0, g0⟩ := X0.two
  have z0 := X0.lt
  obtain ⟨⟨c1, d1⟩, f1, g1⟩ := X1.two
  have z1 := X1.lt
  go_wp2_with fail
  refine (Check_at h2 _).mono ?_
  rintro e w3 ⟨rfl, hb⟩
  clear c0 d0 f0 g0 z0 c1 d1 f1 g1 z1
  have hB := hB.trans (hb.mono hB.size)
  have L := L.later hb
  have X0 := X0.later hb
  have X1 := X1.later hb
  clear hb
  obtain ⟨⟨c0, d0⟩, f0, g0⟩ := X0.two
  have z0 := X0.lt
  obtain ⟨⟨c1, d1⟩, f1, g1⟩ := X1.two
  have z1 := X1.lt
  go_wp2_with fail
  refine (holds_at h3 _).mono ?_
  rintro e w4 ⟨rfl, hb⟩
  clear c0 d0 f0 g0 z0 c1 d1 f1 g1 z1
  have hB := hB.trans (hb.mono hB.size)
  have L := L.later hb
  have X0 := X0.later hb
  have X1 := X1.later hb
  clear hb
  obtain ⟨⟨c0, d0⟩, f0, g0⟩ := X0.two
  have z0 := X0.lt
  obtain ⟨⟨c1, d1⟩, f1, g1⟩ := X1.two
  have z1 := X1.lt
  go_wp2
  go_ret
  exact ⟨rfl, hB⟩

set_option maxRecDepth 100000 in
set_option maxHeartbeats 4000000 in
theorem encl_4 (a b c d x y : Int) (w : World) (h1 : chkT a b = 0) (h2 : chkT c d = 0) (h3 : holB a b x = true) (h4 : holB c d y = false) : Calls Try.prog 6 #[rng a b, rng c d, .int .i64 x, .int .i64 y] w fun e w' => e = .returned (.bool true) ∧ Below w.heap.size w w' := by
  go_enter Try.func6, Try.ntmps6
  go_wp2_with fail
  refine (sane_any _).mono ?_
  rintro e w1 ⟨rfl, hb⟩
  have X0 := (((Box.newAt (n := w.heap.size) [.int .i64 a, .int .i64 b] 23 (by simp)).alloc _)).later hb
  have X1 := ((Box.newAt (n := w.heap.size + 1) [.int .i64 c, .int .i64 d] 23 (by simp))).later hb
  have hB : Below w.heap.size w w1 := ((((Below.refl w.heap.size w).alloc (by simp <;> omega) _).alloc (by simp <;> omega) _)).trans (hb.mono (by simp <;> omega))
  have L : All w1 [] := All.nil
  clear hb
  obtain ⟨⟨c0, d0⟩, f0, g0⟩ := X0.two
  have z0 := X0.lt
  obtain ⟨⟨c1, d1⟩, f1, g1⟩ := X1.two
  have z1 := X1.lt
  go_wp2_with fail
  refine (Check_at h1 _).mono ?_
  rintro e w2 ⟨rfl, hb⟩
  clear c0 d0 f0 g0 z0 c1 d1 f1 g1 z1
  have hB := hB.trans (hb.mono hB.size)
  have L := L.later hb
  have X0 := X0.later hb
  have X1 := X1.later hb
  clear hb
  obtain ⟨⟨c0, d0⟩, f0, g0⟩ := X0.two
  have z0 := X0.lt
  obtain ⟨⟨c1, d1⟩, f1, g1⟩ := X1.two
  have z1 := X1.lt
  go_wp2_with fail
  refine (Check_at h2 _).mono ?_
  rintro e w3 ⟨rfl, hb⟩
  clear c0 d0 f0 g0 z0 c1 d1 f1 g1 z1
  have hB := hB.trans (hb.mono hB.size)
  have L := L.later hb
  have X0 := X0.later hb
  have X1 := X1.later hb
  clear hb
  obtain ⟨⟨c0, d0⟩, f0, g0⟩ := X0.two
  have z0 := X0.lt
  obtain ⟨⟨c1, d1⟩, f1, g1⟩ := X1.two
  have z1 := X1.lt
  go_wp2_with fail
  refine (holds_at h3 _).mono ?_
  rintro e w4 ⟨rfl, hb⟩
  clear c0 d0 f0 g0 z0 c1 d1 f1 g1 z1
  have hB := hB.trans (hb.mono hB.size)
  have L := L.later hb
  have X0 := X0.later hb
  have X1 := X1.later hb
  clear hb
  obtain ⟨⟨c0, d0⟩, f0, g0⟩ := X0.two
  have z0 := X0.lt
  obtain ⟨⟨c1, d1⟩, f1, g1⟩ := X1.two
  have z1 := X1.lt
  go_wp2_with fail
  refine (holds_at h4 _).mono ?_
  rintro e w5 ⟨rfl, hb⟩
  clear c0 d0 f0 g0 z0 c1 d1 f1 g1 z1
  have hB := hB.trans (hb.mono hB.size)
  have L := L.later hb
  have X0 := X0.later hb
  have X1 := X1.later hb
  clear hb
  obtain ⟨⟨c0, d0⟩, f0, g0⟩ := X0.two
  have z0 := X0.lt
  obtain ⟨⟨c1, d1⟩, f1, g1⟩ := X1.two
  have z1 := X1.lt
  go_wp2
  go_ret
  exact ⟨rfl, hB⟩

end Go.Proofs.Ytmjbcmicjhgciaa
