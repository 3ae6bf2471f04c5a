/-
  Law 9 of chapter 32: PlantSafe. (Printed by gen_x9.py.)
-/
import Derived.Test.YtakjalapninndaaAF
import Derived.Lib.MinMax
import Derived.RegionTactic
import Derived.BigRegion
namespace Go.Proofs.Ytakjalapninndaa
open Go.RowKit

set_option maxRecDepth 100000 in
set_option maxHeartbeats 4000000 in
theorem law9_out1 (p : Pl) (s : St) (m : Int) (w : World) (hc : Hid (p.checkT = 0)) (hf : Hid (p.beginT = ((⟨p.start, 0, 0, 0, 0, p.age⟩ : St), 0))) (hst : Hid (p.safeT (⟨p.start, 0, 0, 0, 0, p.age⟩ : St) = (false, 0))) (_k1 : p.siphon ≤ p.start) (_k2 : p.bank < p.start) (hq : Hid (p.safeT s = (false, 320))) : Calls Try.prog 9 #[p.v, s.v, .int .u8 m] w fun e w' => e = .returned (.bool true) ∧ Below w.heap.size w w' := by
  go_enter Try.func9, Try.ntmps9
  go_wp2_with fail
  refine (sane_any _).mono ?_
  rintro e w1 ⟨rfl, hb⟩
  have X0 := (((Box.newAt (n := w.heap.size) [.int .i64 p.top, .int .i64 p.bank, .int .i64 p.siphon, .int .i64 p.start, .int .i64 p.positions, .int .i64 p.rate, .int .i64 p.step, .int .i64 p.pass, .int .i64 p.feed, .int .i64 p.pipe, .int .i64 p.orders, .int .i64 p.age] 23 (by simp)).alloc _)).later hb
  have X1 := ((Box.newAt (n := w.heap.size + 1) [.int .i64 s.level, .int .i64 s.position, .int .i64 s.p0, .int .i64 s.p1, .int .i64 s.order, .int .i64 s.age] 26 (by simp))).later hb
  have hB : Below w.heap.size w w1 := ((((Below.refl w.heap.size w).alloc (by simp <;> omega) _).alloc (by simp <;> omega) _)).trans (hb.mono (by simp <;> omega))
  clear hb
  have X0c0 : w1.cell? ⟨w.heap.size, 0, none⟩ = some (.int .i64 p.top) := X0.cell 0
  have X0f0 : w1.frozen? ⟨w.heap.size, 0, none⟩ = false := X0.free 0
  have X0c1 : w1.cell? ⟨w.heap.size, 1, none⟩ = some (.int .i64 p.bank) := X0.cell 1
  have X0f1 : w1.frozen? ⟨w.heap.size, 1, none⟩ = false := X0.free 1
  have X0c2 : w1.cell? ⟨w.heap.size, 2, none⟩ = some (.int .i64 p.siphon) := X0.cell 2
  have X0f2 : w1.frozen? ⟨w.heap.size, 2, none⟩ = false := X0.free 2
  have X0c3 : w1.cell? ⟨w.heap.size, 3, none⟩ = some (.int .i64 p.start) := X0.cell 3
  have X0f3 : w1.frozen? ⟨w.heap.size, 3, none⟩ = false := X0.free 3
  have X0c4 : w1.cell? ⟨w.heap.size, 4, none⟩ = some (.int .i64 p.positions) := X0.cell 4
  have X0f4 : w1.frozen? ⟨w.heap.size, 4, none⟩ = false := X0.free 4
  have X0c5 : w1.cell? ⟨w.heap.size, 5, none⟩ = some (.int .i64 p.rate) := X0.cell 5
  have X0f5 : w1.frozen? ⟨w.heap.size, 5, none⟩ = false := X0.free 5
  have X0c6 : w1.cell? ⟨w.heap.size, 6, none⟩ = some (.int .i64 p.step) := X0.cell 6
  have X0f6 : w1.frozen? ⟨w.heap.size, 6, none⟩ = false := X0.free 6
  have X0c7 : w1.cell? ⟨w.heap.size, 7, none⟩ = some (.int .i64 p.pass) := X0.cell 7
  have X0f7 : w1.frozen? ⟨w.heap.size, 7, none⟩ = false := X0.free 7
  have X0c8 : w1.cell? ⟨w.heap.size, 8, none⟩ = some (.int .i64 p.feed) := X0.cell 8
  have X0f8 : w1.frozen? ⟨w.heap.size, 8, none⟩ = false := X0.free 8
  have X0c9 : w1.cell? ⟨w.heap.size, 9, none⟩ = some (.int .i64 p.pipe) := X0.cell 9
  have X0f9 : w1.frozen? ⟨w.heap.size, 9, none⟩ = false := X0.free 9
  have X0c10 : w1.cell? ⟨w.heap.size, 10, none⟩ = some (.int .i64 p.orders) := X0.cell 10
  have X0f10 : w1.frozen? ⟨w.heap.size, 10, none⟩ = false := X0.free 10
  have X0c11 : w1.cell? ⟨w.heap.size, 11, none⟩ = some (.int .i64 p.age) := X0.cell 11
  have X0f11 : w1.frozen? ⟨w.heap.size, 11, none⟩ = false := X0.free 11
  have X0z : w.heap.size < w1.heap.size := X0.lt
  have X1c0 : w1.cell? ⟨w.heap.size + 1, 0, none⟩ = some (.int .i64 s.level) := X1.cell 0
  have X1f0 : w1.frozen? ⟨w.heap.size + 1, 0, none⟩ = false := X1.free 0
  have X1c1 : w1.cell? ⟨w.heap.size + 1, 1, none⟩ = some (.int .i64 s.position) := X1.cell 1
  have X1f1 : w1.frozen? ⟨w.heap.size + 1, 1, none⟩ = false := X1.free 1
  have X1c2 : w1.cell? ⟨w.heap.size + 1, 2, none⟩ = some (.int .i64 s.p0) := X1.cell 2
  have X1f2 : w1.frozen? ⟨w.heap.size + 1, 2, none⟩ = false := X1.free 2
  have X1c3 : w1.cell? ⟨w.heap.size + 1, 3, none⟩ = some (.int .i64 s.p1) := X1.cell 3
  have X1f3 : w1.frozen? ⟨w.heap.size + 1, 3, none⟩ = false := X1.free 3
  have X1c4 : w1.cell? ⟨w.heap.size + 1, 4, none⟩ = some (.int .i64 s.order) := X1.cell 4
  have X1f4 : w1.frozen? ⟨w.heap.size + 1, 4, none⟩ = false := X1.free 4
  have X1c5 : w1.cell? ⟨w.heap.size + 1, 5, none⟩ = some (.int .i64 s.age) := X1.cell 5
  have X1f5 : w1.frozen? ⟨w.heap.size + 1, 5, none⟩ = false := X1.free 5
  have X1z : w.heap.size + 1 < w1.heap.size := X1.lt
  go_wp2_with fail
  refine (safe_is hq).mono ?_
  rintro e w2 ⟨rfl, hb⟩
  clear X0c0 X0f0 X0c1 X0f1 X0c2 X0f2 X0c3 X0f3 X0c4 X0f4 X0c5 X0f5 X0c6 X0f6 X0c7 X0f7 X0c8 X0f8 X0c9 X0f9 X0c10 X0f10 X0c11 X0f11 X0z X1c0 X1f0 X1c1 X1f1 X1c2 X1f2 X1c3 X1f3 X1c4 X1f4 X1c5 X1f5 X1z
  have X0 := X0.later hb
  have X1 := X1.later hb
  have hB := hB.trans (hb.mono hB.size)
  clear hb
  have X0c0 : w2.cell? ⟨w.heap.size, 0, none⟩ = some (.int .i64 p.top) := X0.cell 0
  have X0f0 : w2.frozen? ⟨w.heap.size, 0, none⟩ = false := X0.free 0
  have X0c1 : w2.cell? ⟨w.heap.size, 1, none⟩ = some (.int .i64 p.bank) := X0.cell 1
  have X0f1 : w2.frozen? ⟨w.heap.size, 1, none⟩ = false := X0.free 1
  have X0c2 : w2.cell? ⟨w.heap.size, 2, none⟩ = some (.int .i64 p.siphon) := X0.cell 2
  have X0f2 : w2.frozen? ⟨w.heap.size, 2, none⟩ = false := X0.free 2
  have X0c3 : w2.cell? ⟨w.heap.size, 3, none⟩ = some (.int .i64 p.start) := X0.cell 3
  have X0f3 : w2.frozen? ⟨w.heap.size, 3, none⟩ = false := X0.free 3
  have X0c4 : w2.cell? ⟨w.heap.size, 4, none⟩ = some (.int .i64 p.positions) := X0.cell 4
  have X0f4 : w2.frozen? ⟨w.heap.size, 4, none⟩ = false := X0.free 4
  have X0c5 : w2.cell? ⟨w.heap.size, 5, none⟩ = some (.int .i64 p.rate) := X0.cell 5
  have X0f5 : w2.frozen? ⟨w.heap.size, 5, none⟩ = false := X0.free 5
  have X0c6 : w2.cell? ⟨w.heap.size, 6, none⟩ = some (.int .i64 p.step) := X0.cell 6
  have X0f6 : w2.frozen? ⟨w.heap.size, 6, none⟩ = false := X0.free 6
  have X0c7 : w2.cell? ⟨w.heap.size, 7, none⟩ = some (.int .i64 p.pass) := X0.cell 7
  have X0f7 : w2.frozen? ⟨w.heap.size, 7, none⟩ = false := X0.free 7
  have X0c8 : w2.cell? ⟨w.heap.size, 8, none⟩ = some (.int .i64 p.feed) := X0.cell 8
  have X0f8 : w2.frozen? ⟨w.heap.size, 8, none⟩ = false := X0.free 8
  have X0c9 : w2.cell? ⟨w.heap.size, 9, none⟩ = some (.int .i64 p.pipe) := X0.cell 9
  have X0f9 : w2.frozen? ⟨w.heap.size, 9, none⟩ = false := X0.free 9
  have X0c10 : w2.cell? ⟨w.heap.size, 10, none⟩ = some (.int .i64 p.orders) := X0.cell 10
  have X0f10 : w2.frozen? ⟨w.heap.size, 10, none⟩ = false := X0.free 10
  have X0c11 : w2.cell? ⟨w.heap.size, 11, none⟩ = some (.int .i64 p.age) := X0.cell 11
  have X0f11 : w2.frozen? ⟨w.heap.size, 11, none⟩ = false := X0.free 11
  have X0z : w.heap.size < w2.heap.size := X0.lt
  go_wp2_with fail
  refine (check_at hc _).mono ?_
  rintro e w3 ⟨rfl, hb⟩
  clear X0c0 X0f0 X0c1 X0f1 X0c2 X0f2 X0c3 X0f3 X0c4 X0f4 X0c5 X0f5 X0c6 X0f6 X0c7 X0f7 X0c8 X0f8 X0c9 X0f9 X0c10 X0f10 X0c11 X0f11 X0z
  have X0 := X0.later hb
  have X1 := X1.later hb
  have hB := hB.trans (hb.mono hB.size)
  clear hb
  have X0c0 : w3.cell? ⟨w.heap.size, 0, none⟩ = some (.int .i64 p.top) := X0.cell 0
  have X0f0 : w3.frozen? ⟨w.heap.size, 0, none⟩ = false := X0.free 0
  have X0c1 : w3.cell? ⟨w.heap.size, 1, none⟩ = some (.int .i64 p.bank) := X0.cell 1
  have X0f1 : w3.frozen? ⟨w.heap.size, 1, none⟩ = false := X0.free 1
  have X0c2 : w3.cell? ⟨w.heap.size, 2, none⟩ = some (.int .i64 p.siphon) := X0.cell 2
  have X0f2 : w3.frozen? ⟨w.heap.size, 2, none⟩ = false := X0.free 2
  have X0c3 : w3.cell? ⟨w.heap.size, 3, none⟩ = some (.int .i64 p.start) := X0.cell 3
  have X0f3 : w3.frozen? ⟨w.heap.size, 3, none⟩ = false := X0.free 3
  have X0c4 : w3.cell? ⟨w.heap.size, 4, none⟩ = some (.int .i64 p.positions) := X0.cell 4
  have X0f4 : w3.frozen? ⟨w.heap.size, 4, none⟩ = false := X0.free 4
  have X0c5 : w3.cell? ⟨w.heap.size, 5, none⟩ = some (.int .i64 p.rate) := X0.cell 5
  have X0f5 : w3.frozen? ⟨w.heap.size, 5, none⟩ = false := X0.free 5
  have X0c6 : w3.cell? ⟨w.heap.size, 6, none⟩ = some (.int .i64 p.step) := X0.cell 6
  have X0f6 : w3.frozen? ⟨w.heap.size, 6, none⟩ = false := X0.free 6
  have X0c7 : w3.cell? ⟨w.heap.size, 7, none⟩ = some (.int .i64 p.pass) := X0.cell 7
  have X0f7 : w3.frozen? ⟨w.heap.size, 7, none⟩ = false := X0.free 7
  have X0c8 : w3.cell? ⟨w.heap.size, 8, none⟩ = some (.int .i64 p.feed) := X0.cell 8
  have X0f8 : w3.frozen? ⟨w.heap.size, 8, none⟩ = false := X0.free 8
  have X0c9 : w3.cell? ⟨w.heap.size, 9, none⟩ = some (.int .i64 p.pipe) := X0.cell 9
  have X0f9 : w3.frozen? ⟨w.heap.size, 9, none⟩ = false := X0.free 9
  have X0c10 : w3.cell? ⟨w.heap.size, 10, none⟩ = some (.int .i64 p.orders) := X0.cell 10
  have X0f10 : w3.frozen? ⟨w.heap.size, 10, none⟩ = false := X0.free 10
  have X0c11 : w3.cell? ⟨w.heap.size, 11, none⟩ = some (.int .i64 p.age) := X0.cell 11
  have X0f11 : w3.frozen? ⟨w.heap.size, 11, none⟩ = false := X0.free 11
  have X0z : w.heap.size < w3.heap.size := X0.lt
  go_wp2_with fail
  refine (begin_is hf).mono ?_
  rintro e w4 ⟨rfl, hb⟩
  clear X0c0 X0f0 X0c1 X0f1 X0c2 X0f2 X0c3 X0f3 X0c4 X0f4 X0c5 X0f5 X0c6 X0f6 X0c7 X0f7 X0c8 X0f8 X0c9 X0f9 X0c10 X0f10 X0c11 X0f11 X0z
  have X0 := X0.later hb
  have X1 := X1.later hb
  have hB := hB.trans (hb.mono hB.size)
  clear hb
  have X0c0 : w4.cell? ⟨w.heap.size, 0, none⟩ = some (.int .i64 p.top) := X0.cell 0
  have X0f0 : w4.frozen? ⟨w.heap.size, 0, none⟩ = false := X0.free 0
  have X0c1 : w4.cell? ⟨w.heap.size, 1, none⟩ = some (.int .i64 p.bank) := X0.cell 1
  have X0f1 : w4.frozen? ⟨w.heap.size, 1, none⟩ = false := X0.free 1
  have X0c2 : w4.cell? ⟨w.heap.size, 2, none⟩ = some (.int .i64 p.siphon) := X0.cell 2
  have X0f2 : w4.frozen? ⟨w.heap.size, 2, none⟩ = false := X0.free 2
  have X0c3 : w4.cell? ⟨w.heap.size, 3, none⟩ = some (.int .i64 p.start) := X0.cell 3
  have X0f3 : w4.frozen? ⟨w.heap.size, 3, none⟩ = false := X0.free 3
  have X0c4 : w4.cell? ⟨w.heap.size, 4, none⟩ = some (.int .i64 p.positions) := X0.cell 4
  have X0f4 : w4.frozen? ⟨w.heap.size, 4, none⟩ = false := X0.free 4
  have X0c5 : w4.cell? ⟨w.heap.size, 5, none⟩ = some (.int .i64 p.rate) := X0.cell 5
  have X0f5 : w4.frozen? ⟨w.heap.size, 5, none⟩ = false := X0.free 5
  have X0c6 : w4.cell? ⟨w.heap.size, 6, none⟩ = some (.int .i64 p.step) := X0.cell 6
  have X0f6 : w4.frozen? ⟨w.heap.size, 6, none⟩ = false := X0.free 6
  have X0c7 : w4.cell? ⟨w.heap.size, 7, none⟩ = some (.int .i64 p.pass) := X0.cell 7
  have X0f7 : w4.frozen? ⟨w.heap.size, 7, none⟩ = false := X0.free 7
  have X0c8 : w4.cell? ⟨w.heap.size, 8, none⟩ = some (.int .i64 p.feed) := X0.cell 8
  have X0f8 : w4.frozen? ⟨w.heap.size, 8, none⟩ = false := X0.free 8
  have X0c9 : w4.cell? ⟨w.heap.size, 9, none⟩ = some (.int .i64 p.pipe) := X0.cell 9
  have X0f9 : w4.frozen? ⟨w.heap.size, 9, none⟩ = false := X0.free 9
  have X0c10 : w4.cell? ⟨w.heap.size, 10, none⟩ = some (.int .i64 p.orders) := X0.cell 10
  have X0f10 : w4.frozen? ⟨w.heap.size, 10, none⟩ = false := X0.free 10
  have X0c11 : w4.cell? ⟨w.heap.size, 11, none⟩ = some (.int .i64 p.age) := X0.cell 11
  have X0f11 : w4.frozen? ⟨w.heap.size, 11, none⟩ = false := X0.free 11
  have X0z : w.heap.size < w4.heap.size := X0.lt
  go_wp2_with fail
  refine (safe_is (s := (⟨p.start, 0, 0, 0, 0, p.age⟩ : St)) hst).mono ?_
  rintro e w5 ⟨rfl, hb⟩
  clear X0c0 X0f0 X0c1 X0f1 X0c2 X0f2 X0c3 X0f3 X0c4 X0f4 X0c5 X0f5 X0c6 X0f6 X0c7 X0f7 X0c8 X0f8 X0c9 X0f9 X0c10 X0f10 X0c11 X0f11 X0z
  have B0 := ((Box.newAt (w := w4) (n := w4.heap.size) [.int .i64 p.start, .int .i64 0, .int .i64 0, .int .i64 0, .int .i64 0, .int .i64 p.age] 26 (by simp))).later hb
  have X0 := ((X0.alloc (.cells #[.int .i64 p.start, .int .i64 0, .int .i64 0, .int .i64 0, .int .i64 0, .int .i64 p.age] 26))).later hb
  have X1 := ((X1.alloc (.cells #[.int .i64 p.start, .int .i64 0, .int .i64 0, .int .i64 0, .int .i64 0, .int .i64 p.age] 26))).later hb
  have hB := (hB.alloc hB.size (.cells #[.int .i64 p.start, .int .i64 0, .int .i64 0, .int .i64 0, .int .i64 0, .int .i64 p.age] 26)).trans (hb.mono (by have := hB.size; simp; omega))
  clear hb
  have X0c0 : w5.cell? ⟨w.heap.size, 0, none⟩ = some (.int .i64 p.top) := X0.cell 0
  have X0f0 : w5.frozen? ⟨w.heap.size, 0, none⟩ = false := X0.free 0
  have X0c1 : w5.cell? ⟨w.heap.size, 1, none⟩ = some (.int .i64 p.bank) := X0.cell 1
  have X0f1 : w5.frozen? ⟨w.heap.size, 1, none⟩ = false := X0.free 1
  have X0c2 : w5.cell? ⟨w.heap.size, 2, none⟩ = some (.int .i64 p.siphon) := X0.cell 2
  have X0f2 : w5.frozen? ⟨w.heap.size, 2, none⟩ = false := X0.free 2
  have X0c3 : w5.cell? ⟨w.heap.size, 3, none⟩ = some (.int .i64 p.start) := X0.cell 3
  have X0f3 : w5.frozen? ⟨w.heap.size, 3, none⟩ = false := X0.free 3
  have X0c4 : w5.cell? ⟨w.heap.size, 4, none⟩ = some (.int .i64 p.positions) := X0.cell 4
  have X0f4 : w5.frozen? ⟨w.heap.size, 4, none⟩ = false := X0.free 4
  have X0c5 : w5.cell? ⟨w.heap.size, 5, none⟩ = some (.int .i64 p.rate) := X0.cell 5
  have X0f5 : w5.frozen? ⟨w.heap.size, 5, none⟩ = false := X0.free 5
  have X0c6 : w5.cell? ⟨w.heap.size, 6, none⟩ = some (.int .i64 p.step) := X0.cell 6
  have X0f6 : w5.frozen? ⟨w.heap.size, 6, none⟩ = false := X0.free 6
  have X0c7 : w5.cell? ⟨w.heap.size, 7, none⟩ = some (.int .i64 p.pass) := X0.cell 7
  have X0f7 : w5.frozen? ⟨w.heap.size, 7, none⟩ = false := X0.free 7
  have X0c8 : w5.cell? ⟨w.heap.size, 8, none⟩ = some (.int .i64 p.feed) := X0.cell 8
  have X0f8 : w5.frozen? ⟨w.heap.size, 8, none⟩ = false := X0.free 8
  have X0c9 : w5.cell? ⟨w.heap.size, 9, none⟩ = some (.int .i64 p.pipe) := X0.cell 9
  have X0f9 : w5.frozen? ⟨w.heap.size, 9, none⟩ = false := X0.free 9
  have X0c10 : w5.cell? ⟨w.heap.size, 10, none⟩ = some (.int .i64 p.orders) := X0.cell 10
  have X0f10 : w5.frozen? ⟨w.heap.size, 10, none⟩ = false := X0.free 10
  have X0c11 : w5.cell? ⟨w.heap.size, 11, none⟩ = some (.int .i64 p.age) := X0.cell 11
  have X0f11 : w5.frozen? ⟨w.heap.size, 11, none⟩ = false := X0.free 11
  have X0z : w.heap.size < w5.heap.size := X0.lt
  go_wp2
  go_ret
  exact ⟨rfl, hB⟩

set_option maxRecDepth 100000 in
set_option maxHeartbeats 4000000 in
theorem law9_10 (p : Pl) (s : St) (m : Int) (w : World) (hc : Hid (p.checkT = 0)) (hf : Hid (p.beginT = ((⟨p.start, 0, 0, 0, 0, p.age⟩ : St), 0))) (hst : Hid (p.safeT (⟨p.start, 0, 0, 0, 0, p.age⟩ : St) = (false, 0))) (_k1 : p.siphon ≤ p.start) (_k2 : p.bank < p.start) (_l1 : s.level < p.siphon) (hq : Hid (p.safeT s = (false, 0))) (hv : Hid p.Valid) (hh : Hid (p.hasB s = true)) (_hm : 0 ≤ m) (_hm2 : m ≤ 255) (r : Bool) (hr : Hid ((⟨p.top, min (p.top - 1) (p.bank + m), p.siphon, p.start, p.positions, p.rate, p.step, min 1048576 (p.pass + m), p.feed, p.pipe, p.orders, p.age⟩ : Pl).safeT s = (r, 0)))  : Calls Try.prog 9 #[p.v, s.v, .int .u8 m] w fun e w' => e = .returned (.bool true) ∧ Below w.heap.size w w' := by
  go_enter Try.func9, Try.ntmps9
  go_wp2_with fail
  refine (sane_any _).mono ?_
  rintro e w1 ⟨rfl, hb⟩
  have X0 := (((Box.newAt (n := w.heap.size) [.int .i64 p.top, .int .i64 p.bank, .int .i64 p.siphon, .int .i64 p.start, .int .i64 p.positions, .int .i64 p.rate, .int .i64 p.step, .int .i64 p.pass, .int .i64 p.feed, .int .i64 p.pipe, .int .i64 p.orders, .int .i64 p.age] 23 (by simp)).alloc _)).later hb
  have X1 := ((Box.newAt (n := w.heap.size + 1) [.int .i64 s.level, .int .i64 s.position, .int .i64 s.p0, .int .i64 s.p1, .int .i64 s.order, .int .i64 s.age] 26 (by simp))).later hb
  have hB : Below w.heap.size w w1 := ((((Below.refl w.heap.size w).alloc (by simp <;> omega) _).alloc (by simp <;> omega) _)).trans (hb.mono (by simp <;> omega))
  clear hb
  have X0c0 : w1.cell? ⟨w.heap.size, 0, none⟩ = some (.int .i64 p.top) := X0.cell 0
  have X0f0 : w1.frozen? ⟨w.heap.size, 0, none⟩ = false := X0.free 0
  have X0c1 : w1.cell? ⟨w.heap.size, 1, none⟩ = some (.int .i64 p.bank) := X0.cell 1
  have X0f1 : w1.frozen? ⟨w.heap.size, 1, none⟩ = false := X0.free 1
  have X0c2 : w1.cell? ⟨w.heap.size, 2, none⟩ = some (.int .i64 p.siphon) := X0.cell 2
  have X0f2 : w1.frozen? ⟨w.heap.size, 2, none⟩ = false := X0.free 2
  have X0c3 : w1.cell? ⟨w.heap.size, 3, none⟩ = some (.int .i64 p.start) := X0.cell 3
  have X0f3 : w1.frozen? ⟨w.heap.size, 3, none⟩ = false := X0.free 3
  have X0c4 : w1.cell? ⟨w.heap.size, 4, none⟩ = some (.int .i64 p.positions) := X0.cell 4
  have X0f4 : w1.frozen? ⟨w.heap.size, 4, none⟩ = false := X0.free 4
  have X0c5 : w1.cell? ⟨w.heap.size, 5, none⟩ = some (.int .i64 p.rate) := X0.cell 5
  have X0f5 : w1.frozen? ⟨w.heap.size, 5, none⟩ = false := X0.free 5
  have X0c6 : w1.cell? ⟨w.heap.size, 6, none⟩ = some (.int .i64 p.step) := X0.cell 6
  have X0f6 : w1.frozen? ⟨w.heap.size, 6, none⟩ = false := X0.free 6
  have X0c7 : w1.cell? ⟨w.heap.size, 7, none⟩ = some (.int .i64 p.pass) := X0.cell 7
  have X0f7 : w1.frozen? ⟨w.heap.size, 7, none⟩ = false := X0.free 7
  have X0c8 : w1.cell? ⟨w.heap.size, 8, none⟩ = some (.int .i64 p.feed) := X0.cell 8
  have X0f8 : w1.frozen? ⟨w.heap.size, 8, none⟩ = false := X0.free 8
  have X0c9 : w1.cell? ⟨w.heap.size, 9, none⟩ = some (.int .i64 p.pipe) := X0.cell 9
  have X0f9 : w1.frozen? ⟨w.heap.size, 9, none⟩ = false := X0.free 9
  have X0c10 : w1.cell? ⟨w.heap.size, 10, none⟩ = some (.int .i64 p.orders) := X0.cell 10
  have X0f10 : w1.frozen? ⟨w.heap.size, 10, none⟩ = false := X0.free 10
  have X0c11 : w1.cell? ⟨w.heap.size, 11, none⟩ = some (.int .i64 p.age) := X0.cell 11
  have X0f11 : w1.frozen? ⟨w.heap.size, 11, none⟩ = false := X0.free 11
  have X0z : w.heap.size < w1.heap.size := X0.lt
  have X1c0 : w1.cell? ⟨w.heap.size + 1, 0, none⟩ = some (.int .i64 s.level) := X1.cell 0
  have X1f0 : w1.frozen? ⟨w.heap.size + 1, 0, none⟩ = false := X1.free 0
  have X1c1 : w1.cell? ⟨w.heap.size + 1, 1, none⟩ = some (.int .i64 s.position) := X1.cell 1
  have X1f1 : w1.frozen? ⟨w.heap.size + 1, 1, none⟩ = false := X1.free 1
  have X1c2 : w1.cell? ⟨w.heap.size + 1, 2, none⟩ = some (.int .i64 s.p0) := X1.cell 2
  have X1f2 : w1.frozen? ⟨w.heap.size + 1, 2, none⟩ = false := X1.free 2
  have X1c3 : w1.cell? ⟨w.heap.size + 1, 3, none⟩ = some (.int .i64 s.p1) := X1.cell 3
  have X1f3 : w1.frozen? ⟨w.heap.size + 1, 3, none⟩ = false := X1.free 3
  have X1c4 : w1.cell? ⟨w.heap.size + 1, 4, none⟩ = some (.int .i64 s.order) := X1.cell 4
  have X1f4 : w1.frozen? ⟨w.heap.size + 1, 4, none⟩ = false := X1.free 4
  have X1c5 : w1.cell? ⟨w.heap.size + 1, 5, none⟩ = some (.int .i64 s.age) := X1.cell 5
  have X1f5 : w1.frozen? ⟨w.heap.size + 1, 5, none⟩ = false := X1.free 5
  have X1z : w.heap.size + 1 < w1.heap.size := X1.lt
  go_wp2_with fail
  refine (safe_is hq).mono ?_
  rintro e w2 ⟨rfl, hb⟩
  clear X0c0 X0f0 X0c1 X0f1 X0c2 X0f2 X0c3 X0f3 X0c4 X0f4 X0c5 X0f5 X0c6 X0f6 X0c7 X0f7 X0c8 X0f8 X0c9 X0f9 X0c10 X0f10 X0c11 X0f11 X0z X1c0 X1f0 X1c1 X1f1 X1c2 X1f2 X1c3 X1f3 X1c4 X1f4 X1c5 X1f5 X1z
  have X0 := X0.later hb
  have X1 := X1.later hb
  have hB := hB.trans (hb.mono hB.size)
  clear hb
  have X0c0 : w2.cell? ⟨w.heap.size, 0, none⟩ = some (.int .i64 p.top) := X0.cell 0
  have X0f0 : w2.frozen? ⟨w.heap.size, 0, none⟩ = false := X0.free 0
  have X0c1 : w2.cell? ⟨w.heap.size, 1, none⟩ = some (.int .i64 p.bank) := X0.cell 1
  have X0f1 : w2.frozen? ⟨w.heap.size, 1, none⟩ = false := X0.free 1
  have X0c2 : w2.cell? ⟨w.heap.size, 2, none⟩ = some (.int .i64 p.siphon) := X0.cell 2
  have X0f2 : w2.frozen? ⟨w.heap.size, 2, none⟩ = false := X0.free 2
  have X0c3 : w2.cell? ⟨w.heap.size, 3, none⟩ = some (.int .i64 p.start) := X0.cell 3
  have X0f3 : w2.frozen? ⟨w.heap.size, 3, none⟩ = false := X0.free 3
  have X0c4 : w2.cell? ⟨w.heap.size, 4, none⟩ = some (.int .i64 p.positions) := X0.cell 4
  have X0f4 : w2.frozen? ⟨w.heap.size, 4, none⟩ = false := X0.free 4
  have X0c5 : w2.cell? ⟨w.heap.size, 5, none⟩ = some (.int .i64 p.rate) := X0.cell 5
  have X0f5 : w2.frozen? ⟨w.heap.size, 5, none⟩ = false := X0.free 5
  have X0c6 : w2.cell? ⟨w.heap.size, 6, none⟩ = some (.int .i64 p.step) := X0.cell 6
  have X0f6 : w2.frozen? ⟨w.heap.size, 6, none⟩ = false := X0.free 6
  have X0c7 : w2.cell? ⟨w.heap.size, 7, none⟩ = some (.int .i64 p.pass) := X0.cell 7
  have X0f7 : w2.frozen? ⟨w.heap.size, 7, none⟩ = false := X0.free 7
  have X0c8 : w2.cell? ⟨w.heap.size, 8, none⟩ = some (.int .i64 p.feed) := X0.cell 8
  have X0f8 : w2.frozen? ⟨w.heap.size, 8, none⟩ = false := X0.free 8
  have X0c9 : w2.cell? ⟨w.heap.size, 9, none⟩ = some (.int .i64 p.pipe) := X0.cell 9
  have X0f9 : w2.frozen? ⟨w.heap.size, 9, none⟩ = false := X0.free 9
  have X0c10 : w2.cell? ⟨w.heap.size, 10, none⟩ = some (.int .i64 p.orders) := X0.cell 10
  have X0f10 : w2.frozen? ⟨w.heap.size, 10, none⟩ = false := X0.free 10
  have X0c11 : w2.cell? ⟨w.heap.size, 11, none⟩ = some (.int .i64 p.age) := X0.cell 11
  have X0f11 : w2.frozen? ⟨w.heap.size, 11, none⟩ = false := X0.free 11
  have X0z : w.heap.size < w2.heap.size := X0.lt
  go_wp2_with fail
  refine (check_at hc _).mono ?_
  rintro e w3 ⟨rfl, hb⟩
  clear X0c0 X0f0 X0c1 X0f1 X0c2 X0f2 X0c3 X0f3 X0c4 X0f4 X0c5 X0f5 X0c6 X0f6 X0c7 X0f7 X0c8 X0f8 X0c9 X0f9 X0c10 X0f10 X0c11 X0f11 X0z
  have X0 := X0.later hb
  have X1 := X1.later hb
  have hB := hB.trans (hb.mono hB.size)
  clear hb
  have X0c0 : w3.cell? ⟨w.heap.size, 0, none⟩ = some (.int .i64 p.top) := X0.cell 0
  have X0f0 : w3.frozen? ⟨w.heap.size, 0, none⟩ = false := X0.free 0
  have X0c1 : w3.cell? ⟨w.heap.size, 1, none⟩ = some (.int .i64 p.bank) := X0.cell 1
  have X0f1 : w3.frozen? ⟨w.heap.size, 1, none⟩ = false := X0.free 1
  have X0c2 : w3.cell? ⟨w.heap.size, 2, none⟩ = some (.int .i64 p.siphon) := X0.cell 2
  have X0f2 : w3.frozen? ⟨w.heap.size, 2, none⟩ = false := X0.free 2
  have X0c3 : w3.cell? ⟨w.heap.size, 3, none⟩ = some (.int .i64 p.start) := X0.cell 3
  have X0f3 : w3.frozen? ⟨w.heap.size, 3, none⟩ = false := X0.free 3
  have X0c4 : w3.cell? ⟨w.heap.size, 4, none⟩ = some (.int .i64 p.positions) := X0.cell 4
  have X0f4 : w3.frozen? ⟨w.heap.size, 4, none⟩ = false := X0.free 4
  have X0c5 : w3.cell? ⟨w.heap.size, 5, none⟩ = some (.int .i64 p.rate) := X0.cell 5
  have X0f5 : w3.frozen? ⟨w.heap.size, 5, none⟩ = false := X0.free 5
  have X0c6 : w3.cell? ⟨w.heap.size, 6, none⟩ = some (.int .i64 p.step) := X0.cell 6
  have X0f6 : w3.frozen? ⟨w.heap.size, 6, none⟩ = false := X0.free 6
  have X0c7 : w3.cell? ⟨w.heap.size, 7, none⟩ = some (.int .i64 p.pass) := X0.cell 7
  have X0f7 : w3.frozen? ⟨w.heap.size, 7, none⟩ = false := X0.free 7
  have X0c8 : w3.cell? ⟨w.heap.size, 8, none⟩ = some (.int .i64 p.feed) := X0.cell 8
  have X0f8 : w3.frozen? ⟨w.heap.size, 8, none⟩ = false := X0.free 8
  have X0c9 : w3.cell? ⟨w.heap.size, 9, none⟩ = some (.int .i64 p.pipe) := X0.cell 9
  have X0f9 : w3.frozen? ⟨w.heap.size, 9, none⟩ = false := X0.free 9
  have X0c10 : w3.cell? ⟨w.heap.size, 10, none⟩ = some (.int .i64 p.orders) := X0.cell 10
  have X0f10 : w3.frozen? ⟨w.heap.size, 10, none⟩ = false := X0.free 10
  have X0c11 : w3.cell? ⟨w.heap.size, 11, none⟩ = some (.int .i64 p.age) := X0.cell 11
  have X0f11 : w3.frozen? ⟨w.heap.size, 11, none⟩ = false := X0.free 11
  have X0z : w.heap.size < w3.heap.size := X0.lt
  go_wp2_with fail
  refine (begin_is hf).mono ?_
  rintro e w4 ⟨rfl, hb⟩
  clear X0c0 X0f0 X0c1 X0f1 X0c2 X0f2 X0c3 X0f3 X0c4 X0f4 X0c5 X0f5 X0c6 X0f6 X0c7 X0f7 X0c8 X0f8 X0c9 X0f9 X0c10 X0f10 X0c11 X0f11 X0z
  have X0 := X0.later hb
  have X1 := X1.later hb
  have hB := hB.trans (hb.mono hB.size)
  clear hb
  have X0c0 : w4.cell? ⟨w.heap.size, 0, none⟩ = some (.int .i64 p.top) := X0.cell 0
  have X0f0 : w4.frozen? ⟨w.heap.size, 0, none⟩ = false := X0.free 0
  have X0c1 : w4.cell? ⟨w.heap.size, 1, none⟩ = some (.int .i64 p.bank) := X0.cell 1
  have X0f1 : w4.frozen? ⟨w.heap.size, 1, none⟩ = false := X0.free 1
  have X0c2 : w4.cell? ⟨w.heap.size, 2, none⟩ = some (.int .i64 p.siphon) := X0.cell 2
  have X0f2 : w4.frozen? ⟨w.heap.size, 2, none⟩ = false := X0.free 2
  have X0c3 : w4.cell? ⟨w.heap.size, 3, none⟩ = some (.int .i64 p.start) := X0.cell 3
  have X0f3 : w4.frozen? ⟨w.heap.size, 3, none⟩ = false := X0.free 3
  have X0c4 : w4.cell? ⟨w.heap.size, 4, none⟩ = some (.int .i64 p.positions) := X0.cell 4
  have X0f4 : w4.frozen? ⟨w.heap.size, 4, none⟩ = false := X0.free 4
  have X0c5 : w4.cell? ⟨w.heap.size, 5, none⟩ = some (.int .i64 p.rate) := X0.cell 5
  have X0f5 : w4.frozen? ⟨w.heap.size, 5, none⟩ = false := X0.free 5
  have X0c6 : w4.cell? ⟨w.heap.size, 6, none⟩ = some (.int .i64 p.step) := X0.cell 6
  have X0f6 : w4.frozen? ⟨w.heap.size, 6, none⟩ = false := X0.free 6
  have X0c7 : w4.cell? ⟨w.heap.size, 7, none⟩ = some (.int .i64 p.pass) := X0.cell 7
  have X0f7 : w4.frozen? ⟨w.heap.size, 7, none⟩ = false := X0.free 7
  have X0c8 : w4.cell? ⟨w.heap.size, 8, none⟩ = some (.int .i64 p.feed) := X0.cell 8
  have X0f8 : w4.frozen? ⟨w.heap.size, 8, none⟩ = false := X0.free 8
  have X0c9 : w4.cell? ⟨w.heap.size, 9, none⟩ = some (.int .i64 p.pipe) := X0.cell 9
  have X0f9 : w4.frozen? ⟨w.heap.size, 9, none⟩ = false := X0.free 9
  have X0c10 : w4.cell? ⟨w.heap.size, 10, none⟩ = some (.int .i64 p.orders) := X0.cell 10
  have X0f10 : w4.frozen? ⟨w.heap.size, 10, none⟩ = false := X0.free 10
  have X0c11 : w4.cell? ⟨w.heap.size, 11, none⟩ = some (.int .i64 p.age) := X0.cell 11
  have X0f11 : w4.frozen? ⟨w.heap.size, 11, none⟩ = false := X0.free 11
  have X0z : w.heap.size < w4.heap.size := X0.lt
  go_wp2_with fail
  refine (safe_is (s := (⟨p.start, 0, 0, 0, 0, p.age⟩ : St)) hst).mono ?_
  rintro e w5 ⟨rfl, hb⟩
  clear X0c0 X0f0 X0c1 X0f1 X0c2 X0f2 X0c3 X0f3 X0c4 X0f4 X0c5 X0f5 X0c6 X0f6 X0c7 X0f7 X0c8 X0f8 X0c9 X0f9 X0c10 X0f10 X0c11 X0f11 X0z
  have B0 := ((Box.newAt (w := w4) (n := w4.heap.size) [.int .i64 p.start, .int .i64 0, .int .i64 0, .int .i64 0, .int .i64 0, .int .i64 p.age] 26 (by simp))).later hb
  have X0 := ((X0.alloc (.cells #[.int .i64 p.start, .int .i64 0, .int .i64 0, .int .i64 0, .int .i64 0, .int .i64 p.age] 26))).later hb
  have X1 := ((X1.alloc (.cells #[.int .i64 p.start, .int .i64 0, .int .i64 0, .int .i64 0, .int .i64 0, .int .i64 p.age] 26))).later hb
  have hB := (hB.alloc hB.size (.cells #[.int .i64 p.start, .int .i64 0, .int .i64 0, .int .i64 0, .int .i64 0, .int .i64 p.age] 26)).trans (hb.mono (by have := hB.size; simp; omega))
  clear hb
  have mm := rate_wrap hv.out hh.out
  obtain ⟨⟨_, _⟩, ⟨_, _⟩, ⟨_, _⟩, ⟨_, _⟩, ⟨_, _⟩, ⟨_, _⟩, ⟨_, _⟩, ⟨_, _⟩, _⟩ := hv.out
  rcases r with _ | _
  all_goals
    have X0c0 : w5.cell? ⟨w.heap.size, 0, none⟩ = some (.int .i64 p.top) := X0.cell 0
    have X0f0 : w5.frozen? ⟨w.heap.size, 0, none⟩ = false := X0.free 0
    have X0c1 : w5.cell? ⟨w.heap.size, 1, none⟩ = some (.int .i64 p.bank) := X0.cell 1
    have X0f1 : w5.frozen? ⟨w.heap.size, 1, none⟩ = false := X0.free 1
    have X0c2 : w5.cell? ⟨w.heap.size, 2, none⟩ = some (.int .i64 p.siphon) := X0.cell 2
    have X0f2 : w5.frozen? ⟨w.heap.size, 2, none⟩ = false := X0.free 2
    have X0c3 : w5.cell? ⟨w.heap.size, 3, none⟩ = some (.int .i64 p.start) := X0.cell 3
    have X0f3 : w5.frozen? ⟨w.heap.size, 3, none⟩ = false := X0.free 3
    have X0c4 : w5.cell? ⟨w.heap.size, 4, none⟩ = some (.int .i64 p.positions) := X0.cell 4
    have X0f4 : w5.frozen? ⟨w.heap.size, 4, none⟩ = false := X0.free 4
    have X0c5 : w5.cell? ⟨w.heap.size, 5, none⟩ = some (.int .i64 p.rate) := X0.cell 5
    have X0f5 : w5.frozen? ⟨w.heap.size, 5, none⟩ = false := X0.free 5
    have X0c6 : w5.cell? ⟨w.heap.size, 6, none⟩ = some (.int .i64 p.step) := X0.cell 6
    have X0f6 : w5.frozen? ⟨w.heap.size, 6, none⟩ = false := X0.free 6
    have X0c7 : w5.cell? ⟨w.heap.size, 7, none⟩ = some (.int .i64 p.pass) := X0.cell 7
    have X0f7 : w5.frozen? ⟨w.heap.size, 7, none⟩ = false := X0.free 7
    have X0c8 : w5.cell? ⟨w.heap.size, 8, none⟩ = some (.int .i64 p.feed) := X0.cell 8
    have X0f8 : w5.frozen? ⟨w.heap.size, 8, none⟩ = false := X0.free 8
    have X0c9 : w5.cell? ⟨w.heap.size, 9, none⟩ = some (.int .i64 p.pipe) := X0.cell 9
    have X0f9 : w5.frozen? ⟨w.heap.size, 9, none⟩ = false := X0.free 9
    have X0c10 : w5.cell? ⟨w.heap.size, 10, none⟩ = some (.int .i64 p.orders) := X0.cell 10
    have X0f10 : w5.frozen? ⟨w.heap.size, 10, none⟩ = false := X0.free 10
    have X0c11 : w5.cell? ⟨w.heap.size, 11, none⟩ = some (.int .i64 p.age) := X0.cell 11
    have X0f11 : w5.frozen? ⟨w.heap.size, 11, none⟩ = false := X0.free 11
    have X0z : w.heap.size < w5.heap.size := X0.lt
    have X1c0 : w5.cell? ⟨w.heap.size + 1, 0, none⟩ = some (.int .i64 s.level) := X1.cell 0
    have X1f0 : w5.frozen? ⟨w.heap.size + 1, 0, none⟩ = false := X1.free 0
    have X1c1 : w5.cell? ⟨w.heap.size + 1, 1, none⟩ = some (.int .i64 s.position) := X1.cell 1
    have X1f1 : w5.frozen? ⟨w.heap.size + 1, 1, none⟩ = false := X1.free 1
    have X1c2 : w5.cell? ⟨w.heap.size + 1, 2, none⟩ = some (.int .i64 s.p0) := X1.cell 2
    have X1f2 : w5.frozen? ⟨w.heap.size + 1, 2, none⟩ = false := X1.free 2
    have X1c3 : w5.cell? ⟨w.heap.size + 1, 3, none⟩ = some (.int .i64 s.p1) := X1.cell 3
    have X1f3 : w5.frozen? ⟨w.heap.size + 1, 3, none⟩ = false := X1.free 3
    have X1c4 : w5.cell? ⟨w.heap.size + 1, 4, none⟩ = some (.int .i64 s.order) := X1.cell 4
    have X1f4 : w5.frozen? ⟨w.heap.size + 1, 4, none⟩ = false := X1.free 4
    have X1c5 : w5.cell? ⟨w.heap.size + 1, 5, none⟩ = some (.int .i64 s.age) := X1.cell 5
    have X1f5 : w5.frozen? ⟨w.heap.size + 1, 5, none⟩ = false := X1.free 5
    have X1z : w.heap.size + 1 < w5.heap.size := X1.lt
    go_wp2_with fail
    go_region
    go_wp2_with fail
    refine (safe_is (p := (⟨p.top, min (p.top - 1) (p.bank + m), p.siphon, p.start, p.positions, p.rate, p.step, min 1048576 (p.pass + m), p.feed, p.pipe, p.orders, p.age⟩ : Pl)) hr).mono ?_
    rintro e w6 ⟨rfl, hb⟩
    have hB := (hB.alloc hB.size _).drew.trans (hb.mono (by have := hB.size; simp; omega))
    go_wp2
    go_ret
    exact ⟨rfl, hB⟩

set_option maxRecDepth 100000 in
set_option maxHeartbeats 4000000 in
theorem law9_11 (p : Pl) (s : St) (m : Int) (w : World) (hc : Hid (p.checkT = 0)) (hf : Hid (p.beginT = ((⟨p.start, 0, 0, 0, 0, p.age⟩ : St), 0))) (hst : Hid (p.safeT (⟨p.start, 0, 0, 0, 0, p.age⟩ : St) = (false, 0))) (_k1 : p.siphon ≤ p.start) (_k2 : p.bank < p.start) (_l1 : p.siphon ≤ s.level) (_l2 : p.bank < s.level) (hq : Hid (p.safeT s = (false, 0))) (hv : Hid p.Valid) (hh : Hid (p.hasB s = true)) (_hm : 0 ≤ m) (_hm2 : m ≤ 255) (r : Bool) (hr : Hid ((⟨p.top, min (p.top - 1) (p.bank + m), p.siphon, p.start, p.positions, p.rate, p.step, min 1048576 (p.pass + m), p.feed, p.pipe, p.orders, p.age⟩ : Pl).safeT s = (r, 0)))  : Calls Try.prog 9 #[p.v, s.v, .int .u8 m] w fun e w' => e = .returned (.bool true) ∧ Below w.heap.size w w' := by
  go_enter Try.func9, Try.ntmps9
  go_wp2_with fail
  refine (sane_any _).mono ?_
  rintro e w1 ⟨rfl, hb⟩
  have X0 := (((Box.newAt (n := w.heap.size) [.int .i64 p.top, .int .i64 p.bank, .int .i64 p.siphon, .int .i64 p.start, .int .i64 p.positions, .int .i64 p.rate, .int .i64 p.step, .int .i64 p.pass, .int .i64 p.feed, .int .i64 p.pipe, .int .i64 p.orders, .int .i64 p.age] 23 (by simp)).alloc _)).later hb
  have X1 := ((Box.newAt (n := w.heap.size + 1) [.int .i64 s.level, .int .i64 s.position, .int .i64 s.p0, .int .i64 s.p1, .int .i64 s.order, .int .i64 s.age] 26 (by simp))).later hb
  have hB : Below w.heap.size w w1 := ((((Below.refl w.heap.size w).alloc (by simp <;> omega) _).alloc (by simp <;> omega) _)).trans (hb.mono (by simp <;> omega))
  clear hb
  have X0c0 : w1.cell? ⟨w.heap.size, 0, none⟩ = some (.int .i64 p.top) := X0.cell 0
  have X0f0 : w1.frozen? ⟨w.heap.size, 0, none⟩ = false := X0.free 0
  have X0c1 : w1.cell? ⟨w.heap.size, 1, none⟩ = some (.int .i64 p.bank) := X0.cell 1
  have X0f1 : w1.frozen? ⟨w.heap.size, 1, none⟩ = false := X0.free 1
  have X0c2 : w1.cell? ⟨w.heap.size, 2, none⟩ = some (.int .i64 p.siphon) := X0.cell 2
  have X0f2 : w1.frozen? ⟨w.heap.size, 2, none⟩ = false := X0.free 2
  have X0c3 : w1.cell? ⟨w.heap.size, 3, none⟩ = some (.int .i64 p.start) := X0.cell 3
  have X0f3 : w1.frozen? ⟨w.heap.size, 3, none⟩ = false := X0.free 3
  have X0c4 : w1.cell? ⟨w.heap.size, 4, none⟩ = some (.int .i64 p.positions) := X0.cell 4
  have X0f4 : w1.frozen? ⟨w.heap.size, 4, none⟩ = false := X0.free 4
  have X0c5 : w1.cell? ⟨w.heap.size, 5, none⟩ = some (.int .i64 p.rate) := X0.cell 5
  have X0f5 : w1.frozen? ⟨w.heap.size, 5, none⟩ = false := X0.free 5
  have X0c6 : w1.cell? ⟨w.heap.size, 6, none⟩ = some (.int .i64 p.step) := X0.cell 6
  have X0f6 : w1.frozen? ⟨w.heap.size, 6, none⟩ = false := X0.free 6
  have X0c7 : w1.cell? ⟨w.heap.size, 7, none⟩ = some (.int .i64 p.pass) := X0.cell 7
  have X0f7 : w1.frozen? ⟨w.heap.size, 7, none⟩ = false := X0.free 7
  have X0c8 : w1.cell? ⟨w.heap.size, 8, none⟩ = some (.int .i64 p.feed) := X0.cell 8
  have X0f8 : w1.frozen? ⟨w.heap.size, 8, none⟩ = false := X0.free 8
  have X0c9 : w1.cell? ⟨w.heap.size, 9, none⟩ = some (.int .i64 p.pipe) := X0.cell 9
  have X0f9 : w1.frozen? ⟨w.heap.size, 9, none⟩ = false := X0.free 9
  have X0c10 : w1.cell? ⟨w.heap.size, 10, none⟩ = some (.int .i64 p.orders) := X0.cell 10
  have X0f10 : w1.frozen? ⟨w.heap.size, 10, none⟩ = false := X0.free 10
  have X0c11 : w1.cell? ⟨w.heap.size, 11, none⟩ = some (.int .i64 p.age) := X0.cell 11
  have X0f11 : w1.frozen? ⟨w.heap.size, 11, none⟩ = false := X0.free 11
  have X0z : w.heap.size < w1.heap.size := X0.lt
  have X1c0 : w1.cell? ⟨w.heap.size + 1, 0, none⟩ = some (.int .i64 s.level) := X1.cell 0
  have X1f0 : w1.frozen? ⟨w.heap.size + 1, 0, none⟩ = false := X1.free 0
  have X1c1 : w1.cell? ⟨w.heap.size + 1, 1, none⟩ = some (.int .i64 s.position) := X1.cell 1
  have X1f1 : w1.frozen? ⟨w.heap.size + 1, 1, none⟩ = false := X1.free 1
  have X1c2 : w1.cell? ⟨w.heap.size + 1, 2, none⟩ = some (.int .i64 s.p0) := X1.cell 2
  have X1f2 : w1.frozen? ⟨w.heap.size + 1, 2, none⟩ = false := X1.free 2
  have X1c3 : w1.cell? ⟨w.heap.size + 1, 3, none⟩ = some (.int .i64 s.p1) := X1.cell 3
  have X1f3 : w1.frozen? ⟨w.heap.size + 1, 3, none⟩ = false := X1.free 3
  have X1c4 : w1.cell? ⟨w.heap.size + 1, 4, none⟩ = some (.int .i64 s.order) := X1.cell 4
  have X1f4 : w1.frozen? ⟨w.heap.size + 1, 4, none⟩ = false := X1.free 4
  have X1c5 : w1.cell? ⟨w.heap.size + 1, 5, none⟩ = some (.int .i64 s.age) := X1.cell 5
  have X1f5 : w1.frozen? ⟨w.heap.size + 1, 5, none⟩ = false := X1.free 5
  have X1z : w.heap.size + 1 < w1.heap.size := X1.lt
  go_wp2_with fail
  refine (safe_is hq).mono ?_
  rintro e w2 ⟨rfl, hb⟩
  clear X0c0 X0f0 X0c1 X0f1 X0c2 X0f2 X0c3 X0f3 X0c4 X0f4 X0c5 X0f5 X0c6 X0f6 X0c7 X0f7 X0c8 X0f8 X0c9 X0f9 X0c10 X0f10 X0c11 X0f11 X0z X1c0 X1f0 X1c1 X1f1 X1c2 X1f2 X1c3 X1f3 X1c4 X1f4 X1c5 X1f5 X1z
  have X0 := X0.later hb
  have X1 := X1.later hb
  have hB := hB.trans (hb.mono hB.size)
  clear hb
  have X0c0 : w2.cell? ⟨w.heap.size, 0, none⟩ = some (.int .i64 p.top) := X0.cell 0
  have X0f0 : w2.frozen? ⟨w.heap.size, 0, none⟩ = false := X0.free 0
  have X0c1 : w2.cell? ⟨w.heap.size, 1, none⟩ = some (.int .i64 p.bank) := X0.cell 1
  have X0f1 : w2.frozen? ⟨w.heap.size, 1, none⟩ = false := X0.free 1
  have X0c2 : w2.cell? ⟨w.heap.size, 2, none⟩ = some (.int .i64 p.siphon) := X0.cell 2
  have X0f2 : w2.frozen? ⟨w.heap.size, 2, none⟩ = false := X0.free 2
  have X0c3 : w2.cell? ⟨w.heap.size, 3, none⟩ = some (.int .i64 p.start) := X0.cell 3
  have X0f3 : w2.frozen? ⟨w.heap.size, 3, none⟩ = false := X0.free 3
  have X0c4 : w2.cell? ⟨w.heap.size, 4, none⟩ = some (.int .i64 p.positions) := X0.cell 4
  have X0f4 : w2.frozen? ⟨w.heap.size, 4, none⟩ = false := X0.free 4
  have X0c5 : w2.cell? ⟨w.heap.size, 5, none⟩ = some (.int .i64 p.rate) := X0.cell 5
  have X0f5 : w2.frozen? ⟨w.heap.size, 5, none⟩ = false := X0.free 5
  have X0c6 : w2.cell? ⟨w.heap.size, 6, none⟩ = some (.int .i64 p.step) := X0.cell 6
  have X0f6 : w2.frozen? ⟨w.heap.size, 6, none⟩ = false := X0.free 6
  have X0c7 : w2.cell? ⟨w.heap.size, 7, none⟩ = some (.int .i64 p.pass) := X0.cell 7
  have X0f7 : w2.frozen? ⟨w.heap.size, 7, none⟩ = false := X0.free 7
  have X0c8 : w2.cell? ⟨w.heap.size, 8, none⟩ = some (.int .i64 p.feed) := X0.cell 8
  have X0f8 : w2.frozen? ⟨w.heap.size, 8, none⟩ = false := X0.free 8
  have X0c9 : w2.cell? ⟨w.heap.size, 9, none⟩ = some (.int .i64 p.pipe) := X0.cell 9
  have X0f9 : w2.frozen? ⟨w.heap.size, 9, none⟩ = false := X0.free 9
  have X0c10 : w2.cell? ⟨w.heap.size, 10, none⟩ = some (.int .i64 p.orders) := X0.cell 10
  have X0f10 : w2.frozen? ⟨w.heap.size, 10, none⟩ = false := X0.free 10
  have X0c11 : w2.cell? ⟨w.heap.size, 11, none⟩ = some (.int .i64 p.age) := X0.cell 11
  have X0f11 : w2.frozen? ⟨w.heap.size, 11, none⟩ = false := X0.free 11
  have X0z : w.heap.size < w2.heap.size := X0.lt
  go_wp2_with fail
  refine (check_at hc _).mono ?_
  rintro e w3 ⟨rfl, hb⟩
  clear X0c0 X0f0 X0c1 X0f1 X0c2 X0f2 X0c3 X0f3 X0c4 X0f4 X0c5 X0f5 X0c6 X0f6 X0c7 X0f7 X0c8 X0f8 X0c9 X0f9 X0c10 X0f10 X0c11 X0f11 X0z
  have X0 := X0.later hb
  have X1 := X1.later hb
  have hB := hB.trans (hb.mono hB.size)
  clear hb
  have X0c0 : w3.cell? ⟨w.heap.size, 0, none⟩ = some (.int .i64 p.top) := X0.cell 0
  have X0f0 : w3.frozen? ⟨w.heap.size, 0, none⟩ = false := X0.free 0
  have X0c1 : w3.cell? ⟨w.heap.size, 1, none⟩ = some (.int .i64 p.bank) := X0.cell 1
  have X0f1 : w3.frozen? ⟨w.heap.size, 1, none⟩ = false := X0.free 1
  have X0c2 : w3.cell? ⟨w.heap.size, 2, none⟩ = some (.int .i64 p.siphon) := X0.cell 2
  have X0f2 : w3.frozen? ⟨w.heap.size, 2, none⟩ = false := X0.free 2
  have X0c3 : w3.cell? ⟨w.heap.size, 3, none⟩ = some (.int .i64 p.start) := X0.cell 3
  have X0f3 : w3.frozen? ⟨w.heap.size, 3, none⟩ = false := X0.free 3
  have X0c4 : w3.cell? ⟨w.heap.size, 4, none⟩ = some (.int .i64 p.positions) := X0.cell 4
  have X0f4 : w3.frozen? ⟨w.heap.size, 4, none⟩ = false := X0.free 4
  have X0c5 : w3.cell? ⟨w.heap.size, 5, none⟩ = some (.int .i64 p.rate) := X0.cell 5
  have X0f5 : w3.frozen? ⟨w.heap.size, 5, none⟩ = false := X0.free 5
  have X0c6 : w3.cell? ⟨w.heap.size, 6, none⟩ = some (.int .i64 p.step) := X0.cell 6
  have X0f6 : w3.frozen? ⟨w.heap.size, 6, none⟩ = false := X0.free 6
  have X0c7 : w3.cell? ⟨w.heap.size, 7, none⟩ = some (.int .i64 p.pass) := X0.cell 7
  have X0f7 : w3.frozen? ⟨w.heap.size, 7, none⟩ = false := X0.free 7
  have X0c8 : w3.cell? ⟨w.heap.size, 8, none⟩ = some (.int .i64 p.feed) := X0.cell 8
  have X0f8 : w3.frozen? ⟨w.heap.size, 8, none⟩ = false := X0.free 8
  have X0c9 : w3.cell? ⟨w.heap.size, 9, none⟩ = some (.int .i64 p.pipe) := X0.cell 9
  have X0f9 : w3.frozen? ⟨w.heap.size, 9, none⟩ = false := X0.free 9
  have X0c10 : w3.cell? ⟨w.heap.size, 10, none⟩ = some (.int .i64 p.orders) := X0.cell 10
  have X0f10 : w3.frozen? ⟨w.heap.size, 10, none⟩ = false := X0.free 10
  have X0c11 : w3.cell? ⟨w.heap.size, 11, none⟩ = some (.int .i64 p.age) := X0.cell 11
  have X0f11 : w3.frozen? ⟨w.heap.size, 11, none⟩ = false := X0.free 11
  have X0z : w.heap.size < w3.heap.size := X0.lt
  go_wp2_with fail
  refine (begin_is hf).mono ?_
  rintro e w4 ⟨rfl, hb⟩
  clear X0c0 X0f0 X0c1 X0f1 X0c2 X0f2 X0c3 X0f3 X0c4 X0f4 X0c5 X0f5 X0c6 X0f6 X0c7 X0f7 X0c8 X0f8 X0c9 X0f9 X0c10 X0f10 X0c11 X0f11 X0z
  have X0 := X0.later hb
  have X1 := X1.later hb
  have hB := hB.trans (hb.mono hB.size)
  clear hb
  have X0c0 : w4.cell? ⟨w.heap.size, 0, none⟩ = some (.int .i64 p.top) := X0.cell 0
  have X0f0 : w4.frozen? ⟨w.heap.size, 0, none⟩ = false := X0.free 0
  have X0c1 : w4.cell? ⟨w.heap.size, 1, none⟩ = some (.int .i64 p.bank) := X0.cell 1
  have X0f1 : w4.frozen? ⟨w.heap.size, 1, none⟩ = false := X0.free 1
  have X0c2 : w4.cell? ⟨w.heap.size, 2, none⟩ = some (.int .i64 p.siphon) := X0.cell 2
  have X0f2 : w4.frozen? ⟨w.heap.size, 2, none⟩ = false := X0.free 2
  have X0c3 : w4.cell? ⟨w.heap.size, 3, none⟩ = some (.int .i64 p.start) := X0.cell 3
  have X0f3 : w4.frozen? ⟨w.heap.size, 3, none⟩ = false := X0.free 3
  have X0c4 : w4.cell? ⟨w.heap.size, 4, none⟩ = some (.int .i64 p.positions) := X0.cell 4
  have X0f4 : w4.frozen? ⟨w.heap.size, 4, none⟩ = false := X0.free 4
  have X0c5 : w4.cell? ⟨w.heap.size, 5, none⟩ = some (.int .i64 p.rate) := X0.cell 5
  have X0f5 : w4.frozen? ⟨w.heap.size, 5, none⟩ = false := X0.free 5
  have X0c6 : w4.cell? ⟨w.heap.size, 6, none⟩ = some (.int .i64 p.step) := X0.cell 6
  have X0f6 : w4.frozen? ⟨w.heap.size, 6, none⟩ = false := X0.free 6
  have X0c7 : w4.cell? ⟨w.heap.size, 7, none⟩ = some (.int .i64 p.pass) := X0.cell 7
  have X0f7 : w4.frozen? ⟨w.heap.size, 7, none⟩ = false := X0.free 7
  have X0c8 : w4.cell? ⟨w.heap.size, 8, none⟩ = some (.int .i64 p.feed) := X0.cell 8
  have X0f8 : w4.frozen? ⟨w.heap.size, 8, none⟩ = false := X0.free 8
  have X0c9 : w4.cell? ⟨w.heap.size, 9, none⟩ = some (.int .i64 p.pipe) := X0.cell 9
  have X0f9 : w4.frozen? ⟨w.heap.size, 9, none⟩ = false := X0.free 9
  have X0c10 : w4.cell? ⟨w.heap.size, 10, none⟩ = some (.int .i64 p.orders) := X0.cell 10
  have X0f10 : w4.frozen? ⟨w.heap.size, 10, none⟩ = false := X0.free 10
  have X0c11 : w4.cell? ⟨w.heap.size, 11, none⟩ = some (.int .i64 p.age) := X0.cell 11
  have X0f11 : w4.frozen? ⟨w.heap.size, 11, none⟩ = false := X0.free 11
  have X0z : w.heap.size < w4.heap.size := X0.lt
  go_wp2_with fail
  refine (safe_is (s := (⟨p.start, 0, 0, 0, 0, p.age⟩ : St)) hst).mono ?_
  rintro e w5 ⟨rfl, hb⟩
  clear X0c0 X0f0 X0c1 X0f1 X0c2 X0f2 X0c3 X0f3 X0c4 X0f4 X0c5 X0f5 X0c6 X0f6 X0c7 X0f7 X0c8 X0f8 X0c9 X0f9 X0c10 X0f10 X0c11 X0f11 X0z
  have B0 := ((Box.newAt (w := w4) (n := w4.heap.size) [.int .i64 p.start, .int .i64 0, .int .i64 0, .int .i64 0, .int .i64 0, .int .i64 p.age] 26 (by simp))).later hb
  have X0 := ((X0.alloc (.cells #[.int .i64 p.start, .int .i64 0, .int .i64 0, .int .i64 0, .int .i64 0, .int .i64 p.age] 26))).later hb
  have X1 := ((X1.alloc (.cells #[.int .i64 p.start, .int .i64 0, .int .i64 0, .int .i64 0, .int .i64 0, .int .i64 p.age] 26))).later hb
  have hB := (hB.alloc hB.size (.cells #[.int .i64 p.start, .int .i64 0, .int .i64 0, .int .i64 0, .int .i64 0, .int .i64 p.age] 26)).trans (hb.mono (by have := hB.size; simp; omega))
  clear hb
  have mm := rate_wrap hv.out hh.out
  obtain ⟨⟨_, _⟩, ⟨_, _⟩, ⟨_, _⟩, ⟨_, _⟩, ⟨_, _⟩, ⟨_, _⟩, ⟨_, _⟩, ⟨_, _⟩, _⟩ := hv.out
  rcases r with _ | _
  all_goals
    have X0c0 : w5.cell? ⟨w.heap.size, 0, none⟩ = some (.int .i64 p.top) := X0.cell 0
    have X0f0 : w5.frozen? ⟨w.heap.size, 0, none⟩ = false := X0.free 0
    have X0c1 : w5.cell? ⟨w.heap.size, 1, none⟩ = some (.int .i64 p.bank) := X0.cell 1
    have X0f1 : w5.frozen? ⟨w.heap.size, 1, none⟩ = false := X0.free 1
    have X0c2 : w5.cell? ⟨w.heap.size, 2, none⟩ = some (.int .i64 p.siphon) := X0.cell 2
    have X0f2 : w5.frozen? ⟨w.heap.size, 2, none⟩ = false := X0.free 2
    have X0c3 : w5.cell? ⟨w.heap.size, 3, none⟩ = some (.int .i64 p.start) := X0.cell 3
    have X0f3 : w5.frozen? ⟨w.heap.size, 3, none⟩ = false := X0.free 3
    have X0c4 : w5.cell? ⟨w.heap.size, 4, none⟩ = some (.int .i64 p.positions) := X0.cell 4
    have X0f4 : w5.frozen? ⟨w.heap.size, 4, none⟩ = false := X0.free 4
    have X0c5 : w5.cell? ⟨w.heap.size, 5, none⟩ = some (.int .i64 p.rate) := X0.cell 5
    have X0f5 : w5.frozen? ⟨w.heap.size, 5, none⟩ = false := X0.free 5
    have X0c6 : w5.cell? ⟨w.heap.size, 6, none⟩ = some (.int .i64 p.step) := X0.cell 6
    have X0f6 : w5.frozen? ⟨w.heap.size, 6, none⟩ = false := X0.free 6
    have X0c7 : w5.cell? ⟨w.heap.size, 7, none⟩ = some (.int .i64 p.pass) := X0.cell 7
    have X0f7 : w5.frozen? ⟨w.heap.size, 7, none⟩ = false := X0.free 7
    have X0c8 : w5.cell? ⟨w.heap.size, 8, none⟩ = some (.int .i64 p.feed) := X0.cell 8
    have X0f8 : w5.frozen? ⟨w.heap.size, 8, none⟩ = false := X0.free 8
    have X0c9 : w5.cell? ⟨w.heap.size, 9, none⟩ = some (.int .i64 p.pipe) := X0.cell 9
    have X0f9 : w5.frozen? ⟨w.heap.size, 9, none⟩ = false := X0.free 9
    have X0c10 : w5.cell? ⟨w.heap.size, 10, none⟩ = some (.int .i64 p.orders) := X0.cell 10
    have X0f10 : w5.frozen? ⟨w.heap.size, 10, none⟩ = false := X0.free 10
    have X0c11 : w5.cell? ⟨w.heap.size, 11, none⟩ = some (.int .i64 p.age) := X0.cell 11
    have X0f11 : w5.frozen? ⟨w.heap.size, 11, none⟩ = false := X0.free 11
    have X0z : w.heap.size < w5.heap.size := X0.lt
    have X1c0 : w5.cell? ⟨w.heap.size + 1, 0, none⟩ = some (.int .i64 s.level) := X1.cell 0
    have X1f0 : w5.frozen? ⟨w.heap.size + 1, 0, none⟩ = false := X1.free 0
    have X1c1 : w5.cell? ⟨w.heap.size + 1, 1, none⟩ = some (.int .i64 s.position) := X1.cell 1
    have X1f1 : w5.frozen? ⟨w.heap.size + 1, 1, none⟩ = false := X1.free 1
    have X1c2 : w5.cell? ⟨w.heap.size + 1, 2, none⟩ = some (.int .i64 s.p0) := X1.cell 2
    have X1f2 : w5.frozen? ⟨w.heap.size + 1, 2, none⟩ = false := X1.free 2
    have X1c3 : w5.cell? ⟨w.heap.size + 1, 3, none⟩ = some (.int .i64 s.p1) := X1.cell 3
    have X1f3 : w5.frozen? ⟨w.heap.size + 1, 3, none⟩ = false := X1.free 3
    have X1c4 : w5.cell? ⟨w.heap.size + 1, 4, none⟩ = some (.int .i64 s.order) := X1.cell 4
    have X1f4 : w5.frozen? ⟨w.heap.size + 1, 4, none⟩ = false := X1.free 4
    have X1c5 : w5.cell? ⟨w.heap.size + 1, 5, none⟩ = some (.int .i64 s.age) := X1.cell 5
    have X1f5 : w5.frozen? ⟨w.heap.size + 1, 5, none⟩ = false := X1.free 5
    have X1z : w.heap.size + 1 < w5.heap.size := X1.lt
    go_wp2_with fail
    go_region
    go_wp2_with fail
    refine (safe_is (p := (⟨p.top, min (p.top - 1) (p.bank + m), p.siphon, p.start, p.positions, p.rate, p.step, min 1048576 (p.pass + m), p.feed, p.pipe, p.orders, p.age⟩ : Pl)) hr).mono ?_
    rintro e w6 ⟨rfl, hb⟩
    have hB := (hB.alloc hB.size _).drew.trans (hb.mono (by have := hB.size; simp; omega))
    go_wp2
    go_ret
    exact ⟨rfl, hB⟩

set_option maxRecDepth 100000 in
set_option maxHeartbeats 4000000 in
theorem law9_12 (p : Pl) (s : St) (m : Int) (w : World) (hc : Hid (p.checkT = 0)) (hf : Hid (p.beginT = ((⟨p.start, 0, 0, 0, 0, p.age⟩ : St), 0))) (hst : Hid (p.safeT (⟨p.start, 0, 0, 0, 0, p.age⟩ : St) = (false, 0))) (_k1 : p.siphon ≤ p.start) (_k2 : p.bank < p.start) (_l1 : p.siphon ≤ s.level) (_l2 : s.level ≤ p.bank) (_l3 : p.pass < p.rate * s.position) (hq : Hid (p.safeT s = (false, 0))) (hv : Hid p.Valid) (hh : Hid (p.hasB s = true)) (_hm : 0 ≤ m) (_hm2 : m ≤ 255) (r : Bool) (hr : Hid ((⟨p.top, min (p.top - 1) (p.bank + m), p.siphon, p.start, p.positions, p.rate, p.step, min 1048576 (p.pass + m), p.feed, p.pipe, p.orders, p.age⟩ : Pl).safeT s = (r, 0)))  : Calls Try.prog 9 #[p.v, s.v, .int .u8 m] w fun e w' => e = .returned (.bool true) ∧ Below w.heap.size w w' := by
  go_enter Try.func9, Try.ntmps9
  go_wp2_with fail
  refine (sane_any _).mono ?_
  rintro e w1 ⟨rfl, hb⟩
  have X0 := (((Box.newAt (n := w.heap.size) [.int .i64 p.top, .int .i64 p.bank, .int .i64 p.siphon, .int .i64 p.start, .int .i64 p.positions, .int .i64 p.rate, .int .i64 p.step, .int .i64 p.pass, .int .i64 p.feed, .int .i64 p.pipe, .int .i64 p.orders, .int .i64 p.age] 23 (by simp)).alloc _)).later hb
  have X1 := ((Box.newAt (n := w.heap.size + 1) [.int .i64 s.level, .int .i64 s.position, .int .i64 s.p0, .int .i64 s.p1, .int .i64 s.order, .int .i64 s.age] 26 (by simp))).later hb
  have hB : Below w.heap.size w w1 := ((((Below.refl w.heap.size w).alloc (by simp <;> omega) _).alloc (by simp <;> omega) _)).trans (hb.mono (by simp <;> omega))
  clear hb
  have X0c0 : w1.cell? ⟨w.heap.size, 0, none⟩ = some (.int .i64 p.top) := X0.cell 0
  have X0f0 : w1.frozen? ⟨w.heap.size, 0, none⟩ = false := X0.free 0
  have X0c1 : w1.cell? ⟨w.heap.size, 1, none⟩ = some (.int .i64 p.bank) := X0.cell 1
  have X0f1 : w1.frozen? ⟨w.heap.size, 1, none⟩ = false := X0.free 1
  have X0c2 : w1.cell? ⟨w.heap.size, 2, none⟩ = some (.int .i64 p.siphon) := X0.cell 2
  have X0f2 : w1.frozen? ⟨w.heap.size, 2, none⟩ = false := X0.free 2
  have X0c3 : w1.cell? ⟨w.heap.size, 3, none⟩ = some (.int .i64 p.start) := X0.cell 3
  have X0f3 : w1.frozen? ⟨w.heap.size, 3, none⟩ = false := X0.free 3
  have X0c4 : w1.cell? ⟨w.heap.size, 4, none⟩ = some (.int .i64 p.positions) := X0.cell 4
  have X0f4 : w1.frozen? ⟨w.heap.size, 4, none⟩ = false := X0.free 4
  have X0c5 : w1.cell? ⟨w.heap.size, 5, none⟩ = some (.int .i64 p.rate) := X0.cell 5
  have X0f5 : w1.frozen? ⟨w.heap.size, 5, none⟩ = false := X0.free 5
  have X0c6 : w1.cell? ⟨w.heap.size, 6, none⟩ = some (.int .i64 p.step) := X0.cell 6
  have X0f6 : w1.frozen? ⟨w.heap.size, 6, none⟩ = false := X0.free 6
  have X0c7 : w1.cell? ⟨w.heap.size, 7, none⟩ = some (.int .i64 p.pass) := X0.cell 7
  have X0f7 : w1.frozen? ⟨w.heap.size, 7, none⟩ = false := X0.free 7
  have X0c8 : w1.cell? ⟨w.heap.size, 8, none⟩ = some (.int .i64 p.feed) := X0.cell 8
  have X0f8 : w1.frozen? ⟨w.heap.size, 8, none⟩ = false := X0.free 8
  have X0c9 : w1.cell? ⟨w.heap.size, 9, none⟩ = some (.int .i64 p.pipe) := X0.cell 9
  have X0f9 : w1.frozen? ⟨w.heap.size, 9, none⟩ = false := X0.free 9
  have X0c10 : w1.cell? ⟨w.heap.size, 10, none⟩ = some (.int .i64 p.orders) := X0.cell 10
  have X0f10 : w1.frozen? ⟨w.heap.size, 10, none⟩ = false := X0.free 10
  have X0c11 : w1.cell? ⟨w.heap.size, 11, none⟩ = some (.int .i64 p.age) := X0.cell 11
  have X0f11 : w1.frozen? ⟨w.heap.size, 11, none⟩ = false := X0.free 11
  have X0z : w.heap.size < w1.heap.size := X0.lt
  have X1c0 : w1.cell? ⟨w.heap.size + 1, 0, none⟩ = some (.int .i64 s.level) := X1.cell 0
  have X1f0 : w1.frozen? ⟨w.heap.size + 1, 0, none⟩ = false := X1.free 0
  have X1c1 : w1.cell? ⟨w.heap.size + 1, 1, none⟩ = some (.int .i64 s.position) := X1.cell 1
  have X1f1 : w1.frozen? ⟨w.heap.size + 1, 1, none⟩ = false := X1.free 1
  have X1c2 : w1.cell? ⟨w.heap.size + 1, 2, none⟩ = some (.int .i64 s.p0) := X1.cell 2
  have X1f2 : w1.frozen? ⟨w.heap.size + 1, 2, none⟩ = false := X1.free 2
  have X1c3 : w1.cell? ⟨w.heap.size + 1, 3, none⟩ = some (.int .i64 s.p1) := X1.cell 3
  have X1f3 : w1.frozen? ⟨w.heap.size + 1, 3, none⟩ = false := X1.free 3
  have X1c4 : w1.cell? ⟨w.heap.size + 1, 4, none⟩ = some (.int .i64 s.order) := X1.cell 4
  have X1f4 : w1.frozen? ⟨w.heap.size + 1, 4, none⟩ = false := X1.free 4
  have X1c5 : w1.cell? ⟨w.heap.size + 1, 5, none⟩ = some (.int .i64 s.age) := X1.cell 5
  have X1f5 : w1.frozen? ⟨w.heap.size + 1, 5, none⟩ = false := X1.free 5
  have X1z : w.heap.size + 1 < w1.heap.size := X1.lt
  go_wp2_with fail
  refine (safe_is hq).mono ?_
  rintro e w2 ⟨rfl, hb⟩
  clear X0c0 X0f0 X0c1 X0f1 X0c2 X0f2 X0c3 X0f3 X0c4 X0f4 X0c5 X0f5 X0c6 X0f6 X0c7 X0f7 X0c8 X0f8 X0c9 X0f9 X0c10 X0f10 X0c11 X0f11 X0z X1c0 X1f0 X1c1 X1f1 X1c2 X1f2 X1c3 X1f3 X1c4 X1f4 X1c5 X1f5 X1z
  have X0 := X0.later hb
  have X1 := X1.later hb
  have hB := hB.trans (hb.mono hB.size)
  clear hb
  have X0c0 : w2.cell? ⟨w.heap.size, 0, none⟩ = some (.int .i64 p.top) := X0.cell 0
  have X0f0 : w2.frozen? ⟨w.heap.size, 0, none⟩ = false := X0.free 0
  have X0c1 : w2.cell? ⟨w.heap.size, 1, none⟩ = some (.int .i64 p.bank) := X0.cell 1
  have X0f1 : w2.frozen? ⟨w.heap.size, 1, none⟩ = false := X0.free 1
  have X0c2 : w2.cell? ⟨w.heap.size, 2, none⟩ = some (.int .i64 p.siphon) := X0.cell 2
  have X0f2 : w2.frozen? ⟨w.heap.size, 2, none⟩ = false := X0.free 2
  have X0c3 : w2.cell? ⟨w.heap.size, 3, none⟩ = some (.int .i64 p.start) := X0.cell 3
  have X0f3 : w2.frozen? ⟨w.heap.size, 3, none⟩ = false := X0.free 3
  have X0c4 : w2.cell? ⟨w.heap.size, 4, none⟩ = some (.int .i64 p.positions) := X0.cell 4
  have X0f4 : w2.frozen? ⟨w.heap.size, 4, none⟩ = false := X0.free 4
  have X0c5 : w2.cell? ⟨w.heap.size, 5, none⟩ = some (.int .i64 p.rate) := X0.cell 5
  have X0f5 : w2.frozen? ⟨w.heap.size, 5, none⟩ = false := X0.free 5
  have X0c6 : w2.cell? ⟨w.heap.size, 6, none⟩ = some (.int .i64 p.step) := X0.cell 6
  have X0f6 : w2.frozen? ⟨w.heap.size, 6, none⟩ = false := X0.free 6
  have X0c7 : w2.cell? ⟨w.heap.size, 7, none⟩ = some (.int .i64 p.pass) := X0.cell 7
  have X0f7 : w2.frozen? ⟨w.heap.size, 7, none⟩ = false := X0.free 7
  have X0c8 : w2.cell? ⟨w.heap.size, 8, none⟩ = some (.int .i64 p.feed) := X0.cell 8
  have X0f8 : w2.frozen? ⟨w.heap.size, 8, none⟩ = false := X0.free 8
  have X0c9 : w2.cell? ⟨w.heap.size, 9, none⟩ = some (.int .i64 p.pipe) := X0.cell 9
  have X0f9 : w2.frozen? ⟨w.heap.size, 9, none⟩ = false := X0.free 9
  have X0c10 : w2.cell? ⟨w.heap.size, 10, none⟩ = some (.int .i64 p.orders) := X0.cell 10
  have X0f10 : w2.frozen? ⟨w.heap.size, 10, none⟩ = false := X0.free 10
  have X0c11 : w2.cell? ⟨w.heap.size, 11, none⟩ = some (.int .i64 p.age) := X0.cell 11
  have X0f11 : w2.frozen? ⟨w.heap.size, 11, none⟩ = false := X0.free 11
  have X0z : w.heap.size < w2.heap.size := X0.lt
  go_wp2_with fail
  refine (check_at hc _).mono ?_
  rintro e w3 ⟨rfl, hb⟩
  clear X0c0 X0f0 X0c1 X0f1 X0c2 X0f2 X0c3 X0f3 X0c4 X0f4 X0c5 X0f5 X0c6 X0f6 X0c7 X0f7 X0c8 X0f8 X0c9 X0f9 X0c10 X0f10 X0c11 X0f11 X0z
  have X0 := X0.later hb
  have X1 := X1.later hb
  have hB := hB.trans (hb.mono hB.size)
  clear hb
  have X0c0 : w3.cell? ⟨w.heap.size, 0, none⟩ = some (.int .i64 p.top) := X0.cell 0
  have X0f0 : w3.frozen? ⟨w.heap.size, 0, none⟩ = false := X0.free 0
  have X0c1 : w3.cell? ⟨w.heap.size, 1, none⟩ = some (.int .i64 p.bank) := X0.cell 1
  have X0f1 : w3.frozen? ⟨w.heap.size, 1, none⟩ = false := X0.free 1
  have X0c2 : w3.cell? ⟨w.heap.size, 2, none⟩ = some (.int .i64 p.siphon) := X0.cell 2
  have X0f2 : w3.frozen? ⟨w.heap.size, 2, none⟩ = false := X0.free 2
  have X0c3 : w3.cell? ⟨w.heap.size, 3, none⟩ = some (.int .i64 p.start) := X0.cell 3
  have X0f3 : w3.frozen? ⟨w.heap.size, 3, none⟩ = false := X0.free 3
  have X0c4 : w3.cell? ⟨w.heap.size, 4, none⟩ = some (.int .i64 p.positions) := X0.cell 4
  have X0f4 : w3.frozen? ⟨w.heap.size, 4, none⟩ = false := X0.free 4
  have X0c5 : w3.cell? ⟨w.heap.size, 5, none⟩ = some (.int .i64 p.rate) := X0.cell 5
  have X0f5 : w3.frozen? ⟨w.heap.size, 5, none⟩ = false := X0.free 5
  have X0c6 : w3.cell? ⟨w.heap.size, 6, none⟩ = some (.int .i64 p.step) := X0.cell 6
  have X0f6 : w3.frozen? ⟨w.heap.size, 6, none⟩ = false := X0.free 6
  have X0c7 : w3.cell? ⟨w.heap.size, 7, none⟩ = some (.int .i64 p.pass) := X0.cell 7
  have X0f7 : w3.frozen? ⟨w.heap.size, 7, none⟩ = false := X0.free 7
  have X0c8 : w3.cell? ⟨w.heap.size, 8, none⟩ = some (.int .i64 p.feed) := X0.cell 8
  have X0f8 : w3.frozen? ⟨w.heap.size, 8, none⟩ = false := X0.free 8
  have X0c9 : w3.cell? ⟨w.heap.size, 9, none⟩ = some (.int .i64 p.pipe) := X0.cell 9
  have X0f9 : w3.frozen? ⟨w.heap.size, 9, none⟩ = false := X0.free 9
  have X0c10 : w3.cell? ⟨w.heap.size, 10, none⟩ = some (.int .i64 p.orders) := X0.cell 10
  have X0f10 : w3.frozen? ⟨w.heap.size, 10, none⟩ = false := X0.free 10
  have X0c11 : w3.cell? ⟨w.heap.size, 11, none⟩ = some (.int .i64 p.age) := X0.cell 11
  have X0f11 : w3.frozen? ⟨w.heap.size, 11, none⟩ = false := X0.free 11
  have X0z : w.heap.size < w3.heap.size := X0.lt
  go_wp2_with fail
  refine (begin_is hf).mono ?_
  rintro e w4 ⟨rfl, hb⟩
  clear X0c0 X0f0 X0c1 X0f1 X0c2 X0f2 X0c3 X0f3 X0c4 X0f4 X0c5 X0f5 X0c6 X0f6 X0c7 X0f7 X0c8 X0f8 X0c9 X0f9 X0c10 X0f10 X0c11 X0f11 X0z
  have X0 := X0.later hb
  have X1 := X1.later hb
  have hB := hB.trans (hb.mono hB.size)
  clear hb
  have X0c0 : w4.cell? ⟨w.heap.size, 0, none⟩ = some (.int .i64 p.top) := X0.cell 0
  have X0f0 : w4.frozen? ⟨w.heap.size, 0, none⟩ = false := X0.free 0
  have X0c1 : w4.cell? ⟨w.heap.size, 1, none⟩ = some (.int .i64 p.bank) := X0.cell 1
  have X0f1 : w4.frozen? ⟨w.heap.size, 1, none⟩ = false := X0.free 1
  have X0c2 : w4.cell? ⟨w.heap.size, 2, none⟩ = some (.int .i64 p.siphon) := X0.cell 2
  have X0f2 : w4.frozen? ⟨w.heap.size, 2, none⟩ = false := X0.free 2
  have X0c3 : w4.cell? ⟨w.heap.size, 3, none⟩ = some (.int .i64 p.start) := X0.cell 3
  have X0f3 : w4.frozen? ⟨w.heap.size, 3, none⟩ = false := X0.free 3
  have X0c4 : w4.cell? ⟨w.heap.size, 4, none⟩ = some (.int .i64 p.positions) := X0.cell 4
  have X0f4 : w4.frozen? ⟨w.heap.size, 4, none⟩ = false := X0.free 4
  have X0c5 : w4.cell? ⟨w.heap.size, 5, none⟩ = some (.int .i64 p.rate) := X0.cell 5
  have X0f5 : w4.frozen? ⟨w.heap.size, 5, none⟩ = false := X0.free 5
  have X0c6 : w4.cell? ⟨w.heap.size, 6, none⟩ = some (.int .i64 p.step) := X0.cell 6
  have X0f6 : w4.frozen? ⟨w.heap.size, 6, none⟩ = false := X0.free 6
  have X0c7 : w4.cell? ⟨w.heap.size, 7, none⟩ = some (.int .i64 p.pass) := X0.cell 7
  have X0f7 : w4.frozen? ⟨w.heap.size, 7, none⟩ = false := X0.free 7
  have X0c8 : w4.cell? ⟨w.heap.size, 8, none⟩ = some (.int .i64 p.feed) := X0.cell 8
  have X0f8 : w4.frozen? ⟨w.heap.size, 8, none⟩ = false := X0.free 8
  have X0c9 : w4.cell? ⟨w.heap.size, 9, none⟩ = some (.int .i64 p.pipe) := X0.cell 9
  have X0f9 : w4.frozen? ⟨w.heap.size, 9, none⟩ = false := X0.free 9
  have X0c10 : w4.cell? ⟨w.heap.size, 10, none⟩ = some (.int .i64 p.orders) := X0.cell 10
  have X0f10 : w4.frozen? ⟨w.heap.size, 10, none⟩ = false := X0.free 10
  have X0c11 : w4.cell? ⟨w.heap.size, 11, none⟩ = some (.int .i64 p.age) := X0.cell 11
  have X0f11 : w4.frozen? ⟨w.heap.size, 11, none⟩ = false := X0.free 11
  have X0z : w.heap.size < w4.heap.size := X0.lt
  go_wp2_with fail
  refine (safe_is (s := (⟨p.start, 0, 0, 0, 0, p.age⟩ : St)) hst).mono ?_
  rintro e w5 ⟨rfl, hb⟩
  clear X0c0 X0f0 X0c1 X0f1 X0c2 X0f2 X0c3 X0f3 X0c4 X0f4 X0c5 X0f5 X0c6 X0f6 X0c7 X0f7 X0c8 X0f8 X0c9 X0f9 X0c10 X0f10 X0c11 X0f11 X0z
  have B0 := ((Box.newAt (w := w4) (n := w4.heap.size) [.int .i64 p.start, .int .i64 0, .int .i64 0, .int .i64 0, .int .i64 0, .int .i64 p.age] 26 (by simp))).later hb
  have X0 := ((X0.alloc (.cells #[.int .i64 p.start, .int .i64 0, .int .i64 0, .int .i64 0, .int .i64 0, .int .i64 p.age] 26))).later hb
  have X1 := ((X1.alloc (.cells #[.int .i64 p.start, .int .i64 0, .int .i64 0, .int .i64 0, .int .i64 0, .int .i64 p.age] 26))).later hb
  have hB := (hB.alloc hB.size (.cells #[.int .i64 p.start, .int .i64 0, .int .i64 0, .int .i64 0, .int .i64 0, .int .i64 p.age] 26)).trans (hb.mono (by have := hB.size; simp; omega))
  clear hb
  have mm := rate_wrap hv.out hh.out
  obtain ⟨⟨_, _⟩, ⟨_, _⟩, ⟨_, _⟩, ⟨_, _⟩, ⟨_, _⟩, ⟨_, _⟩, ⟨_, _⟩, ⟨_, _⟩, _⟩ := hv.out
  rcases r with _ | _
  all_goals
    have X0c0 : w5.cell? ⟨w.heap.size, 0, none⟩ = some (.int .i64 p.top) := X0.cell 0
    have X0f0 : w5.frozen? ⟨w.heap.size, 0, none⟩ = false := X0.free 0
    have X0c1 : w5.cell? ⟨w.heap.size, 1, none⟩ = some (.int .i64 p.bank) := X0.cell 1
    have X0f1 : w5.frozen? ⟨w.heap.size, 1, none⟩ = false := X0.free 1
    have X0c2 : w5.cell? ⟨w.heap.size, 2, none⟩ = some (.int .i64 p.siphon) := X0.cell 2
    have X0f2 : w5.frozen? ⟨w.heap.size, 2, none⟩ = false := X0.free 2
    have X0c3 : w5.cell? ⟨w.heap.size, 3, none⟩ = some (.int .i64 p.start) := X0.cell 3
    have X0f3 : w5.frozen? ⟨w.heap.size, 3, none⟩ = false := X0.free 3
    have X0c4 : w5.cell? ⟨w.heap.size, 4, none⟩ = some (.int .i64 p.positions) := X0.cell 4
    have X0f4 : w5.frozen? ⟨w.heap.size, 4, none⟩ = false := X0.free 4
    have X0c5 : w5.cell? ⟨w.heap.size, 5, none⟩ = some (.int .i64 p.rate) := X0.cell 5
    have X0f5 : w5.frozen? ⟨w.heap.size, 5, none⟩ = false := X0.free 5
    have X0c6 : w5.cell? ⟨w.heap.size, 6, none⟩ = some (.int .i64 p.step) := X0.cell 6
    have X0f6 : w5.frozen? ⟨w.heap.size, 6, none⟩ = false := X0.free 6
    have X0c7 : w5.cell? ⟨w.heap.size, 7, none⟩ = some (.int .i64 p.pass) := X0.cell 7
    have X0f7 : w5.frozen? ⟨w.heap.size, 7, none⟩ = false := X0.free 7
    have X0c8 : w5.cell? ⟨w.heap.size, 8, none⟩ = some (.int .i64 p.feed) := X0.cell 8
    have X0f8 : w5.frozen? ⟨w.heap.size, 8, none⟩ = false := X0.free 8
    have X0c9 : w5.cell? ⟨w.heap.size, 9, none⟩ = some (.int .i64 p.pipe) := X0.cell 9
    have X0f9 : w5.frozen? ⟨w.heap.size, 9, none⟩ = false := X0.free 9
    have X0c10 : w5.cell? ⟨w.heap.size, 10, none⟩ = some (.int .i64 p.orders) := X0.cell 10
    have X0f10 : w5.frozen? ⟨w.heap.size, 10, none⟩ = false := X0.free 10
    have X0c11 : w5.cell? ⟨w.heap.size, 11, none⟩ = some (.int .i64 p.age) := X0.cell 11
    have X0f11 : w5.frozen? ⟨w.heap.size, 11, none⟩ = false := X0.free 11
    have X0z : w.heap.size < w5.heap.size := X0.lt
    have X1c0 : w5.cell? ⟨w.heap.size + 1, 0, none⟩ = some (.int .i64 s.level) := X1.cell 0
    have X1f0 : w5.frozen? ⟨w.heap.size + 1, 0, none⟩ = false := X1.free 0
    have X1c1 : w5.cell? ⟨w.heap.size + 1, 1, none⟩ = some (.int .i64 s.position) := X1.cell 1
    have X1f1 : w5.frozen? ⟨w.heap.size + 1, 1, none⟩ = false := X1.free 1
    have X1c2 : w5.cell? ⟨w.heap.size + 1, 2, none⟩ = some (.int .i64 s.p0) := X1.cell 2
    have X1f2 : w5.frozen? ⟨w.heap.size + 1, 2, none⟩ = false := X1.free 2
    have X1c3 : w5.cell? ⟨w.heap.size + 1, 3, none⟩ = some (.int .i64 s.p1) := X1.cell 3
    have X1f3 : w5.frozen? ⟨w.heap.size + 1, 3, none⟩ = false := X1.free 3
    have X1c4 : w5.cell? ⟨w.heap.size + 1, 4, none⟩ = some (.int .i64 s.order) := X1.cell 4
    have X1f4 : w5.frozen? ⟨w.heap.size + 1, 4, none⟩ = false := X1.free 4
    have X1c5 : w5.cell? ⟨w.heap.size + 1, 5, none⟩ = some (.int .i64 s.age) := X1.cell 5
    have X1f5 : w5.frozen? ⟨w.heap.size + 1, 5, none⟩ = false := X1.free 5
    have X1z : w.heap.size + 1 < w5.heap.size := X1.lt
    go_wp2_with fail
    go_region
    go_wp2_with fail
    refine (safe_is (p := (⟨p.top, min (p.top - 1) (p.bank + m), p.siphon, p.start, p.positions, p.rate, p.step, min 1048576 (p.pass + m), p.feed, p.pipe, p.orders, p.age⟩ : Pl)) hr).mono ?_
    rintro e w6 ⟨rfl, hb⟩
    have hB := (hB.alloc hB.size _).drew.trans (hb.mono (by have := hB.size; simp; omega))
    go_wp2
    go_ret
    exact ⟨rfl, hB⟩

set_option maxRecDepth 100000 in
set_option maxHeartbeats 4000000 in
theorem law9_13 (p : Pl) (s : St) (m : Int) (w : World) (hc : Hid (p.checkT = 0)) (hf : Hid (p.beginT = ((⟨p.start, 0, 0, 0, 0, p.age⟩ : St), 0))) (hst : Hid (p.safeT (⟨p.start, 0, 0, 0, 0, p.age⟩ : St) = (false, 0))) (_k1 : p.siphon ≤ p.start) (_k2 : p.bank < p.start) (_l1 : p.siphon ≤ s.level) (_l2 : s.level ≤ p.bank) (_l3 : p.rate * s.position ≤ p.pass) (hq : Hid (p.safeT s = (true, 0))) (hv : Hid p.Valid) (hh : Hid (p.hasB s = true)) (_hm : 0 ≤ m) (_hm2 : m ≤ 255) (r : Bool) (hr : Hid ((⟨p.top, min (p.top - 1) (p.bank + m), p.siphon, p.start, p.positions, p.rate, p.step, min 1048576 (p.pass + m), p.feed, p.pipe, p.orders, p.age⟩ : Pl).safeT s = (r, 0))) (_hrt : r = true) : Calls Try.prog 9 #[p.v, s.v, .int .u8 m] w fun e w' => e = .returned (.bool true) ∧ Below w.heap.size w w' := by
  go_enter Try.func9, Try.ntmps9
  go_wp2_with fail
  refine (sane_any _).mono ?_
  rintro e w1 ⟨rfl, hb⟩
  have X0 := (((Box.newAt (n := w.heap.size) [.int .i64 p.top, .int .i64 p.bank, .int .i64 p.siphon, .int .i64 p.start, .int .i64 p.positions, .int .i64 p.rate, .int .i64 p.step, .int .i64 p.pass, .int .i64 p.feed, .int .i64 p.pipe, .int .i64 p.orders, .int .i64 p.age] 23 (by simp)).alloc _)).later hb
  have X1 := ((Box.newAt (n := w.heap.size + 1) [.int .i64 s.level, .int .i64 s.position, .int .i64 s.p0, .int .i64 s.p1, .int .i64 s.order, .int .i64 s.age] 26 (by simp))).later hb
  have hB : Below w.heap.size w w1 := ((((Below.refl w.heap.size w).alloc (by simp <;> omega) _).alloc (by simp <;> omega) _)).trans (hb.mono (by simp <;> omega))
  clear hb
  have X0c0 : w1.cell? ⟨w.heap.size, 0, none⟩ = some (.int .i64 p.top) := X0.cell 0
  have X0f0 : w1.frozen? ⟨w.heap.size, 0, none⟩ = false := X0.free 0
  have X0c1 : w1.cell? ⟨w.heap.size, 1, none⟩ = some (.int .i64 p.bank) := X0.cell 1
  have X0f1 : w1.frozen? ⟨w.heap.size, 1, none⟩ = false := X0.free 1
  have X0c2 : w1.cell? ⟨w.heap.size, 2, none⟩ = some (.int .i64 p.siphon) := X0.cell 2
  have X0f2 : w1.frozen? ⟨w.heap.size, 2, none⟩ = false := X0.free 2
  have X0c3 : w1.cell? ⟨w.heap.size, 3, none⟩ = some (.int .i64 p.start) := X0.cell 3
  have X0f3 : w1.frozen? ⟨w.heap.size, 3, none⟩ = false := X0.free 3
  have X0c4 : w1.cell? ⟨w.heap.size, 4, none⟩ = some (.int .i64 p.positions) := X0.cell 4
  have X0f4 : w1.frozen? ⟨w.heap.size, 4, none⟩ = false := X0.free 4
  have X0c5 : w1.cell? ⟨w.heap.size, 5, none⟩ = some (.int .i64 p.rate) := X0.cell 5
  have X0f5 : w1.frozen? ⟨w.heap.size, 5, none⟩ = false := X0.free 5
  have X0c6 : w1.cell? ⟨w.heap.size, 6, none⟩ = some (.int .i64 p.step) := X0.cell 6
  have X0f6 : w1.frozen? ⟨w.heap.size, 6, none⟩ = false := X0.free 6
  have X0c7 : w1.cell? ⟨w.heap.size, 7, none⟩ = some (.int .i64 p.pass) := X0.cell 7
  have X0f7 : w1.frozen? ⟨w.heap.size, 7, none⟩ = false := X0.free 7
  have X0c8 : w1.cell? ⟨w.heap.size, 8, none⟩ = some (.int .i64 p.feed) := X0.cell 8
  have X0f8 : w1.frozen? ⟨w.heap.size, 8, none⟩ = false := X0.free 8
  have X0c9 : w1.cell? ⟨w.heap.size, 9, none⟩ = some (.int .i64 p.pipe) := X0.cell 9
  have X0f9 : w1.frozen? ⟨w.heap.size, 9, none⟩ = false := X0.free 9
  have X0c10 : w1.cell? ⟨w.heap.size, 10, none⟩ = some (.int .i64 p.orders) := X0.cell 10
  have X0f10 : w1.frozen? ⟨w.heap.size, 10, none⟩ = false := X0.free 10
  have X0c11 : w1.cell? ⟨w.heap.size, 11, none⟩ = some (.int .i64 p.age) := X0.cell 11
  have X0f11 : w1.frozen? ⟨w.heap.size, 11, none⟩ = false := X0.free 11
  have X0z : w.heap.size < w1.heap.size := X0.lt
  have X1c0 : w1.cell? ⟨w.heap.size + 1, 0, none⟩ = some (.int .i64 s.level) := X1.cell 0
  have X1f0 : w1.frozen? ⟨w.heap.size + 1, 0, none⟩ = false := X1.free 0
  have X1c1 : w1.cell? ⟨w.heap.size + 1, 1, none⟩ = some (.int .i64 s.position) := X1.cell 1
  have X1f1 : w1.frozen? ⟨w.heap.size + 1, 1, none⟩ = false := X1.free 1
  have X1c2 : w1.cell? ⟨w.heap.size + 1, 2, none⟩ = some (.int .i64 s.p0) := X1.cell 2
  have X1f2 : w1.frozen? ⟨w.heap.size + 1, 2, none⟩ = false := X1.free 2
  have X1c3 : w1.cell? ⟨w.heap.size + 1, 3, none⟩ = some (.int .i64 s.p1) := X1.cell 3
  have X1f3 : w1.frozen? ⟨w.heap.size + 1, 3, none⟩ = false := X1.free 3
  have X1c4 : w1.cell? ⟨w.heap.size + 1, 4, none⟩ = some (.int .i64 s.order) := X1.cell 4
  have X1f4 : w1.frozen? ⟨w.heap.size + 1, 4, none⟩ = false := X1.free 4
  have X1c5 : w1.cell? ⟨w.heap.size + 1, 5, none⟩ = some (.int .i64 s.age) := X1.cell 5
  have X1f5 : w1.frozen? ⟨w.heap.size + 1, 5, none⟩ = false := X1.free 5
  have X1z : w.heap.size + 1 < w1.heap.size := X1.lt
  go_wp2_with fail
  refine (safe_is hq).mono ?_
  rintro e w2 ⟨rfl, hb⟩
  clear X0c0 X0f0 X0c1 X0f1 X0c2 X0f2 X0c3 X0f3 X0c4 X0f4 X0c5 X0f5 X0c6 X0f6 X0c7 X0f7 X0c8 X0f8 X0c9 X0f9 X0c10 X0f10 X0c11 X0f11 X0z X1c0 X1f0 X1c1 X1f1 X1c2 X1f2 X1c3 X1f3 X1c4 X1f4 X1c5 X1f5 X1z
  have X0 := X0.later hb
  have X1 := X1.later hb
  have hB := hB.trans (hb.mono hB.size)
  clear hb
  have X0c0 : w2.cell? ⟨w.heap.size, 0, none⟩ = some (.int .i64 p.top) := X0.cell 0
  have X0f0 : w2.frozen? ⟨w.heap.size, 0, none⟩ = false := X0.free 0
  have X0c1 : w2.cell? ⟨w.heap.size, 1, none⟩ = some (.int .i64 p.bank) := X0.cell 1
  have X0f1 : w2.frozen? ⟨w.heap.size, 1, none⟩ = false := X0.free 1
  have X0c2 : w2.cell? ⟨w.heap.size, 2, none⟩ = some (.int .i64 p.siphon) := X0.cell 2
  have X0f2 : w2.frozen? ⟨w.heap.size, 2, none⟩ = false := X0.free 2
  have X0c3 : w2.cell? ⟨w.heap.size, 3, none⟩ = some (.int .i64 p.start) := X0.cell 3
  have X0f3 : w2.frozen? ⟨w.heap.size, 3, none⟩ = false := X0.free 3
  have X0c4 : w2.cell? ⟨w.heap.size, 4, none⟩ = some (.int .i64 p.positions) := X0.cell 4
  have X0f4 : w2.frozen? ⟨w.heap.size, 4, none⟩ = false := X0.free 4
  have X0c5 : w2.cell? ⟨w.heap.size, 5, none⟩ = some (.int .i64 p.rate) := X0.cell 5
  have X0f5 : w2.frozen? ⟨w.heap.size, 5, none⟩ = false := X0.free 5
  have X0c6 : w2.cell? ⟨w.heap.size, 6, none⟩ = some (.int .i64 p.step) := X0.cell 6
  have X0f6 : w2.frozen? ⟨w.heap.size, 6, none⟩ = false := X0.free 6
  have X0c7 : w2.cell? ⟨w.heap.size, 7, none⟩ = some (.int .i64 p.pass) := X0.cell 7
  have X0f7 : w2.frozen? ⟨w.heap.size, 7, none⟩ = false := X0.free 7
  have X0c8 : w2.cell? ⟨w.heap.size, 8, none⟩ = some (.int .i64 p.feed) := X0.cell 8
  have X0f8 : w2.frozen? ⟨w.heap.size, 8, none⟩ = false := X0.free 8
  have X0c9 : w2.cell? ⟨w.heap.size, 9, none⟩ = some (.int .i64 p.pipe) := X0.cell 9
  have X0f9 : w2.frozen? ⟨w.heap.size, 9, none⟩ = false := X0.free 9
  have X0c10 : w2.cell? ⟨w.heap.size, 10, none⟩ = some (.int .i64 p.orders) := X0.cell 10
  have X0f10 : w2.frozen? ⟨w.heap.size, 10, none⟩ = false := X0.free 10
  have X0c11 : w2.cell? ⟨w.heap.size, 11, none⟩ = some (.int .i64 p.age) := X0.cell 11
  have X0f11 : w2.frozen? ⟨w.heap.size, 11, none⟩ = false := X0.free 11
  have X0z : w.heap.size < w2.heap.size := X0.lt
  go_wp2_with fail
  refine (check_at hc _).mono ?_
  rintro e w3 ⟨rfl, hb⟩
  clear X0c0 X0f0 X0c1 X0f1 X0c2 X0f2 X0c3 X0f3 X0c4 X0f4 X0c5 X0f5 X0c6 X0f6 X0c7 X0f7 X0c8 X0f8 X0c9 X0f9 X0c10 X0f10 X0c11 X0f11 X0z
  have X0 := X0.later hb
  have X1 := X1.later hb
  have hB := hB.trans (hb.mono hB.size)
  clear hb
  have X0c0 : w3.cell? ⟨w.heap.size, 0, none⟩ = some (.int .i64 p.top) := X0.cell 0
  have X0f0 : w3.frozen? ⟨w.heap.size, 0, none⟩ = false := X0.free 0
  have X0c1 : w3.cell? ⟨w.heap.size, 1, none⟩ = some (.int .i64 p.bank) := X0.cell 1
  have X0f1 : w3.frozen? ⟨w.heap.size, 1, none⟩ = false := X0.free 1
  have X0c2 : w3.cell? ⟨w.heap.size, 2, none⟩ = some (.int .i64 p.siphon) := X0.cell 2
  have X0f2 : w3.frozen? ⟨w.heap.size, 2, none⟩ = false := X0.free 2
  have X0c3 : w3.cell? ⟨w.heap.size, 3, none⟩ = some (.int .i64 p.start) := X0.cell 3
  have X0f3 : w3.frozen? ⟨w.heap.size, 3, none⟩ = false := X0.free 3
  have X0c4 : w3.cell? ⟨w.heap.size, 4, none⟩ = some (.int .i64 p.positions) := X0.cell 4
  have X0f4 : w3.frozen? ⟨w.heap.size, 4, none⟩ = false := X0.free 4
  have X0c5 : w3.cell? ⟨w.heap.size, 5, none⟩ = some (.int .i64 p.rate) := X0.cell 5
  have X0f5 : w3.frozen? ⟨w.heap.size, 5, none⟩ = false := X0.free 5
  have X0c6 : w3.cell? ⟨w.heap.size, 6, none⟩ = some (.int .i64 p.step) := X0.cell 6
  have X0f6 : w3.frozen? ⟨w.heap.size, 6, none⟩ = false := X0.free 6
  have X0c7 : w3.cell? ⟨w.heap.size, 7, none⟩ = some (.int .i64 p.pass) := X0.cell 7
  have X0f7 : w3.frozen? ⟨w.heap.size, 7, none⟩ = false := X0.free 7
  have X0c8 : w3.cell? ⟨w.heap.size, 8, none⟩ = some (.int .i64 p.feed) := X0.cell 8
  have X0f8 : w3.frozen? ⟨w.heap.size, 8, none⟩ = false := X0.free 8
  have X0c9 : w3.cell? ⟨w.heap.size, 9, none⟩ = some (.int .i64 p.pipe) := X0.cell 9
  have X0f9 : w3.frozen? ⟨w.heap.size, 9, none⟩ = false := X0.free 9
  have X0c10 : w3.cell? ⟨w.heap.size, 10, none⟩ = some (.int .i64 p.orders) := X0.cell 10
  have X0f10 : w3.frozen? ⟨w.heap.size, 10, none⟩ = false := X0.free 10
  have X0c11 : w3.cell? ⟨w.heap.size, 11, none⟩ = some (.int .i64 p.age) := X0.cell 11
  have X0f11 : w3.frozen? ⟨w.heap.size, 11, none⟩ = false := X0.free 11
  have X0z : w.heap.size < w3.heap.size := X0.lt
  go_wp2_with fail
  refine (begin_is hf).mono ?_
  rintro e w4 ⟨rfl, hb⟩
  clear X0c0 X0f0 X0c1 X0f1 X0c2 X0f2 X0c3 X0f3 X0c4 X0f4 X0c5 X0f5 X0c6 X0f6 X0c7 X0f7 X0c8 X0f8 X0c9 X0f9 X0c10 X0f10 X0c11 X0f11 X0z
  have X0 := X0.later hb
  have X1 := X1.later hb
  have hB := hB.trans (hb.mono hB.size)
  clear hb
  have X0c0 : w4.cell? ⟨w.heap.size, 0, none⟩ = some (.int .i64 p.top) := X0.cell 0
  have X0f0 : w4.frozen? ⟨w.heap.size, 0, none⟩ = false := X0.free 0
  have X0c1 : w4.cell? ⟨w.heap.size, 1, none⟩ = some (.int .i64 p.bank) := X0.cell 1
  have X0f1 : w4.frozen? ⟨w.heap.size, 1, none⟩ = false := X0.free 1
  have X0c2 : w4.cell? ⟨w.heap.size, 2, none⟩ = some (.int .i64 p.siphon) := X0.cell 2
  have X0f2 : w4.frozen? ⟨w.heap.size, 2, none⟩ = false := X0.free 2
  have X0c3 : w4.cell? ⟨w.heap.size, 3, none⟩ = some (.int .i64 p.start) := X0.cell 3
  have X0f3 : w4.frozen? ⟨w.heap.size, 3, none⟩ = false := X0.free 3
  have X0c4 : w4.cell? ⟨w.heap.size, 4, none⟩ = some (.int .i64 p.positions) := X0.cell 4
  have X0f4 : w4.frozen? ⟨w.heap.size, 4, none⟩ = false := X0.free 4
  have X0c5 : w4.cell? ⟨w.heap.size, 5, none⟩ = some (.int .i64 p.rate) := X0.cell 5
  have X0f5 : w4.frozen? ⟨w.heap.size, 5, none⟩ = false := X0.free 5
  have X0c6 : w4.cell? ⟨w.heap.size, 6, none⟩ = some (.int .i64 p.step) := X0.cell 6
  have X0f6 : w4.frozen? ⟨w.heap.size, 6, none⟩ = false := X0.free 6
  have X0c7 : w4.cell? ⟨w.heap.size, 7, none⟩ = some (.int .i64 p.pass) := X0.cell 7
  have X0f7 : w4.frozen? ⟨w.heap.size, 7, none⟩ = false := X0.free 7
  have X0c8 : w4.cell? ⟨w.heap.size, 8, none⟩ = some (.int .i64 p.feed) := X0.cell 8
  have X0f8 : w4.frozen? ⟨w.heap.size, 8, none⟩ = false := X0.free 8
  have X0c9 : w4.cell? ⟨w.heap.size, 9, none⟩ = some (.int .i64 p.pipe) := X0.cell 9
  have X0f9 : w4.frozen? ⟨w.heap.size, 9, none⟩ = false := X0.free 9
  have X0c10 : w4.cell? ⟨w.heap.size, 10, none⟩ = some (.int .i64 p.orders) := X0.cell 10
  have X0f10 : w4.frozen? ⟨w.heap.size, 10, none⟩ = false := X0.free 10
  have X0c11 : w4.cell? ⟨w.heap.size, 11, none⟩ = some (.int .i64 p.age) := X0.cell 11
  have X0f11 : w4.frozen? ⟨w.heap.size, 11, none⟩ = false := X0.free 11
  have X0z : w.heap.size < w4.heap.size := X0.lt
  go_wp2_with fail
  refine (safe_is (s := (⟨p.start, 0, 0, 0, 0, p.age⟩ : St)) hst).mono ?_
  rintro e w5 ⟨rfl, hb⟩
  clear X0c0 X0f0 X0c1 X0f1 X0c2 X0f2 X0c3 X0f3 X0c4 X0f4 X0c5 X0f5 X0c6 X0f6 X0c7 X0f7 X0c8 X0f8 X0c9 X0f9 X0c10 X0f10 X0c11 X0f11 X0z
  have B0 := ((Box.newAt (w := w4) (n := w4.heap.size) [.int .i64 p.start, .int .i64 0, .int .i64 0, .int .i64 0, .int .i64 0, .int .i64 p.age] 26 (by simp))).later hb
  have X0 := ((X0.alloc (.cells #[.int .i64 p.start, .int .i64 0, .int .i64 0, .int .i64 0, .int .i64 0, .int .i64 p.age] 26))).later hb
  have X1 := ((X1.alloc (.cells #[.int .i64 p.start, .int .i64 0, .int .i64 0, .int .i64 0, .int .i64 0, .int .i64 p.age] 26))).later hb
  have hB := (hB.alloc hB.size (.cells #[.int .i64 p.start, .int .i64 0, .int .i64 0, .int .i64 0, .int .i64 0, .int .i64 p.age] 26)).trans (hb.mono (by have := hB.size; simp; omega))
  clear hb
  have mm := rate_wrap hv.out hh.out
  obtain ⟨⟨_, _⟩, ⟨_, _⟩, ⟨_, _⟩, ⟨_, _⟩, ⟨_, _⟩, ⟨_, _⟩, ⟨_, _⟩, ⟨_, _⟩, _⟩ := hv.out
  subst _hrt
  have X0c0 : w5.cell? ⟨w.heap.size, 0, none⟩ = some (.int .i64 p.top) := X0.cell 0
  have X0f0 : w5.frozen? ⟨w.heap.size, 0, none⟩ = false := X0.free 0
  have X0c1 : w5.cell? ⟨w.heap.size, 1, none⟩ = some (.int .i64 p.bank) := X0.cell 1
  have X0f1 : w5.frozen? ⟨w.heap.size, 1, none⟩ = false := X0.free 1
  have X0c2 : w5.cell? ⟨w.heap.size, 2, none⟩ = some (.int .i64 p.siphon) := X0.cell 2
  have X0f2 : w5.frozen? ⟨w.heap.size, 2, none⟩ = false := X0.free 2
  have X0c3 : w5.cell? ⟨w.heap.size, 3, none⟩ = some (.int .i64 p.start) := X0.cell 3
  have X0f3 : w5.frozen? ⟨w.heap.size, 3, none⟩ = false := X0.free 3
  have X0c4 : w5.cell? ⟨w.heap.size, 4, none⟩ = some (.int .i64 p.positions) := X0.cell 4
  have X0f4 : w5.frozen? ⟨w.heap.size, 4, none⟩ = false := X0.free 4
  have X0c5 : w5.cell? ⟨w.heap.size, 5, none⟩ = some (.int .i64 p.rate) := X0.cell 5
  have X0f5 : w5.frozen? ⟨w.heap.size, 5, none⟩ = false := X0.free 5
  have X0c6 : w5.cell? ⟨w.heap.size, 6, none⟩ = some (.int .i64 p.step) := X0.cell 6
  have X0f6 : w5.frozen? ⟨w.heap.size, 6, none⟩ = false := X0.free 6
  have X0c7 : w5.cell? ⟨w.heap.size, 7, none⟩ = some (.int .i64 p.pass) := X0.cell 7
  have X0f7 : w5.frozen? ⟨w.heap.size, 7, none⟩ = false := X0.free 7
  have X0c8 : w5.cell? ⟨w.heap.size, 8, none⟩ = some (.int .i64 p.feed) := X0.cell 8
  have X0f8 : w5.frozen? ⟨w.heap.size, 8, none⟩ = false := X0.free 8
  have X0c9 : w5.cell? ⟨w.heap.size, 9, none⟩ = some (.int .i64 p.pipe) := X0.cell 9
  have X0f9 : w5.frozen? ⟨w.heap.size, 9, none⟩ = false := X0.free 9
  have X0c10 : w5.cell? ⟨w.heap.size, 10, none⟩ = some (.int .i64 p.orders) := X0.cell 10
  have X0f10 : w5.frozen? ⟨w.heap.size, 10, none⟩ = false := X0.free 10
  have X0c11 : w5.cell? ⟨w.heap.size, 11, none⟩ = some (.int .i64 p.age) := X0.cell 11
  have X0f11 : w5.frozen? ⟨w.heap.size, 11, none⟩ = false := X0.free 11
  have X0z : w.heap.size < w5.heap.size := X0.lt
  have X1c0 : w5.cell? ⟨w.heap.size + 1, 0, none⟩ = some (.int .i64 s.level) := X1.cell 0
  have X1f0 : w5.frozen? ⟨w.heap.size + 1, 0, none⟩ = false := X1.free 0
  have X1c1 : w5.cell? ⟨w.heap.size + 1, 1, none⟩ = some (.int .i64 s.position) := X1.cell 1
  have X1f1 : w5.frozen? ⟨w.heap.size + 1, 1, none⟩ = false := X1.free 1
  have X1c2 : w5.cell? ⟨w.heap.size + 1, 2, none⟩ = some (.int .i64 s.p0) := X1.cell 2
  have X1f2 : w5.frozen? ⟨w.heap.size + 1, 2, none⟩ = false := X1.free 2
  have X1c3 : w5.cell? ⟨w.heap.size + 1, 3, none⟩ = some (.int .i64 s.p1) := X1.cell 3
  have X1f3 : w5.frozen? ⟨w.heap.size + 1, 3, none⟩ = false := X1.free 3
  have X1c4 : w5.cell? ⟨w.heap.size + 1, 4, none⟩ = some (.int .i64 s.order) := X1.cell 4
  have X1f4 : w5.frozen? ⟨w.heap.size + 1, 4, none⟩ = false := X1.free 4
  have X1c5 : w5.cell? ⟨w.heap.size + 1, 5, none⟩ = some (.int .i64 s.age) := X1.cell 5
  have X1f5 : w5.frozen? ⟨w.heap.size + 1, 5, none⟩ = false := X1.free 5
  have X1z : w.heap.size + 1 < w5.heap.size := X1.lt
  go_wp2_with fail
  go_region
  go_wp2_with fail
  refine (safe_is (p := (⟨p.top, min (p.top - 1) (p.bank + m), p.siphon, p.start, p.positions, p.rate, p.step, min 1048576 (p.pass + m), p.feed, p.pipe, p.orders, p.age⟩ : Pl)) hr).mono ?_
  rintro e w6 ⟨rfl, hb⟩
  have hB := (hB.alloc hB.size _).drew.trans (hb.mono (by have := hB.size; simp; omega))
  go_wp2
  go_ret
  exact ⟨rfl, hB⟩

end Go.Proofs.Ytakjalapninndaa
