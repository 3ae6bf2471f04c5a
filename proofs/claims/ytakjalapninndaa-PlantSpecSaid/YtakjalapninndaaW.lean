/-
  Law 3 of chapter 32: PlantSpec. (Printed by gen_w.py.)
-/
import Derived.Test.YtakjalapninndaaU
namespace Go.Proofs.Ytakjalapninndaa
open Go.RowKit

theorem sane_at (w : World) : Calls Try.prog 10 #[] w fun e w' => e = .returned (.bool true) ∧ Below w.heap.size w w' := sane_any w

set_option maxRecDepth 100000 in
set_option maxHeartbeats 4000000 in
theorem law_PlantSpec (p : Pl) (s : St) (w : World) : Calls Try.prog 3 #[p.v, s.v] w fun e w' => e = .returned (.bool true) ∧ Below w.heap.size w w' := by
  obtain ⟨n, er, hn⟩ : ∃ n er, p.countT = (n, er) := ⟨_, _, rfl⟩
  obtain ⟨t, eb, ht⟩ : ∃ t eb, p.beginT = (t, eb) := ⟨_, _, rfl⟩
  obtain ⟨q, es, hq⟩ : ∃ q es, p.safeT s = (q, es) := ⟨_, _, rfl⟩
  obtain ⟨c, hc⟩ : ∃ c, p.checkT = c := ⟨_, rfl⟩
  have hn := Lib.hid hn
  have ht := Lib.hid ht
  have hq := Lib.hid hq
  have hc := Lib.hid hc
  go_enter Try.func3, Try.ntmps3
  go_wp2_with fail
  refine (sane_at _).mono ?_
  rintro e w1 ⟨rfl, hb⟩
  have X0 := (((Box.newAt (n := w.heap.size) [.int .i64 p.top, .int .i64 p.bank, .int .i64 p.siphon, .int .i64 p.start, .int .i64 p.positions, .int .i64 p.rate, .int .i64 p.step, .int .i64 p.pass, .int .i64 p.feed, .int .i64 p.pipe, .int .i64 p.orders, .int .i64 p.age] 23 (by simp)).alloc _)).later hb
  have X1 := ((Box.newAt (n := w.heap.size + 1) [.int .i64 s.level, .int .i64 s.position, .int .i64 s.p0, .int .i64 s.p1, .int .i64 s.order, .int .i64 s.age] 26 (by simp))).later hb
  have hB : Below w.heap.size w w1 := ((((Below.refl w.heap.size w).alloc (by simp <;> omega) _).alloc (by simp <;> omega) _)).trans (hb.mono (by simp <;> omega))
  clear hb
  have X0c0 : w1.cell? ⟨w.heap.size, 0, none⟩ = some (.int .i64 p.top) := X0.cell 0
  have X0f0 : w1.frozen? ⟨w.heap.size, 0, none⟩ = false := X0.free 0
  have X0c1 : w1.cell? ⟨w.heap.size, 1, none⟩ = some (.int .i64 p.bank) := X0.cell 1
  have X0f1 : w1.frozen? ⟨w.heap.size, 1, none⟩ = false := X0.free 1
  have X0c2 : w1.cell? ⟨w.heap.size, 2, none⟩ = some (.int .i64 p.siphon) := X0.cell 2
  have X0f2 : w1.frozen? ⟨w.heap.size, 2, none⟩ = false := X0.free 2
  have X0c3 : w1.cell? ⟨w.heap.size, 3, none⟩ = some (.int .i64 p.start) := X0.cell 3
  have X0f3 : w1.frozen? ⟨w.heap.size, 3, none⟩ = false := X0.free 3
  have X0c4 : w1.cell? ⟨w.heap.size, 4, none⟩ = some (.int .i64 p.positions) := X0.cell 4
  have X0f4 : w1.frozen? ⟨w.heap.size, 4, none⟩ = false := X0.free 4
  have X0c5 : w1.cell? ⟨w.heap.size, 5, none⟩ = some (.int .i64 p.rate) := X0.cell 5
  have X0f5 : w1.frozen? ⟨w.heap.size, 5, none⟩ = false := X0.free 5
  have X0c6 : w1.cell? ⟨w.heap.size, 6, none⟩ = some (.int .i64 p.step) := X0.cell 6
  have X0f6 : w1.frozen? ⟨w.heap.size, 6, none⟩ = false := X0.free 6
  have X0c7 : w1.cell? ⟨w.heap.size, 7, none⟩ = some (.int .i64 p.pass) := X0.cell 7
  have X0f7 : w1.frozen? ⟨w.heap.size, 7, none⟩ = false := X0.free 7
  have X0c8 : w1.cell? ⟨w.heap.size, 8, none⟩ = some (.int .i64 p.feed) := X0.cell 8
  have X0f8 : w1.frozen? ⟨w.heap.size, 8, none⟩ = false := X0.free 8
  have X0c9 : w1.cell? ⟨w.heap.size, 9, none⟩ = some (.int .i64 p.pipe) := X0.cell 9
  have X0f9 : w1.frozen? ⟨w.heap.size, 9, none⟩ = false := X0.free 9
  have X0c10 : w1.cell? ⟨w.heap.size, 10, none⟩ = some (.int .i64 p.orders) := X0.cell 10
  have X0f10 : w1.frozen? ⟨w.heap.size, 10, none⟩ = false := X0.free 10
  have X0c11 : w1.cell? ⟨w.heap.size, 11, none⟩ = some (.int .i64 p.age) := X0.cell 11
  have X0f11 : w1.frozen? ⟨w.heap.size, 11, none⟩ = false := X0.free 11
  have X0z : w.heap.size < w1.heap.size := X0.lt
  go_wp2_with fail
  refine (count_is hn).mono ?_
  rintro e w2 ⟨rfl, hb⟩
  clear X0c0 X0f0 X0c1 X0f1 X0c2 X0f2 X0c3 X0f3 X0c4 X0f4 X0c5 X0f5 X0c6 X0f6 X0c7 X0f7 X0c8 X0f8 X0c9 X0f9 X0c10 X0f10 X0c11 X0f11 X0z
  have X0 := X0.later hb
  have X1 := X1.later hb
  have hB := hB.trans (hb.mono hB.size)
  clear hb
  have X0c0 : w2.cell? ⟨w.heap.size, 0, none⟩ = some (.int .i64 p.top) := X0.cell 0
  have X0f0 : w2.frozen? ⟨w.heap.size, 0, none⟩ = false := X0.free 0
  have X0c1 : w2.cell? ⟨w.heap.size, 1, none⟩ = some (.int .i64 p.bank) := X0.cell 1
  have X0f1 : w2.frozen? ⟨w.heap.size, 1, none⟩ = false := X0.free 1
  have X0c2 : w2.cell? ⟨w.heap.size, 2, none⟩ = some (.int .i64 p.siphon) := X0.cell 2
  have X0f2 : w2.frozen? ⟨w.heap.size, 2, none⟩ = false := X0.free 2
  have X0c3 : w2.cell? ⟨w.heap.size, 3, none⟩ = some (.int .i64 p.start) := X0.cell 3
  have X0f3 : w2.frozen? ⟨w.heap.size, 3, none⟩ = false := X0.free 3
  have X0c4 : w2.cell? ⟨w.heap.size, 4, none⟩ = some (.int .i64 p.positions) := X0.cell 4
  have X0f4 : w2.frozen? ⟨w.heap.size, 4, none⟩ = false := X0.free 4
  have X0c5 : w2.cell? ⟨w.heap.size, 5, none⟩ = some (.int .i64 p.rate) := X0.cell 5
  have X0f5 : w2.frozen? ⟨w.heap.size, 5, none⟩ = false := X0.free 5
  have X0c6 : w2.cell? ⟨w.heap.size, 6, none⟩ = some (.int .i64 p.step) := X0.cell 6
  have X0f6 : w2.frozen? ⟨w.heap.size, 6, none⟩ = false := X0.free 6
  have X0c7 : w2.cell? ⟨w.heap.size, 7, none⟩ = some (.int .i64 p.pass) := X0.cell 7
  have X0f7 : w2.frozen? ⟨w.heap.size, 7, none⟩ = false := X0.free 7
  have X0c8 : w2.cell? ⟨w.heap.size, 8, none⟩ = some (.int .i64 p.feed) := X0.cell 8
  have X0f8 : w2.frozen? ⟨w.heap.size, 8, none⟩ = false := X0.free 8
  have X0c9 : w2.cell? ⟨w.heap.size, 9, none⟩ = some (.int .i64 p.pipe) := X0.cell 9
  have X0f9 : w2.frozen? ⟨w.heap.size, 9, none⟩ = false := X0.free 9
  have X0c10 : w2.cell? ⟨w.heap.size, 10, none⟩ = some (.int .i64 p.orders) := X0.cell 10
  have X0f10 : w2.frozen? ⟨w.heap.size, 10, none⟩ = false := X0.free 10
  have X0c11 : w2.cell? ⟨w.heap.size, 11, none⟩ = some (.int .i64 p.age) := X0.cell 11
  have X0f11 : w2.frozen? ⟨w.heap.size, 11, none⟩ = false := X0.free 11
  have X0z : w.heap.size < w2.heap.size := X0.lt
  go_wp2_with fail
  refine (rcount_is hn).mono ?_
  rintro e w3 ⟨rfl, hb⟩
  clear X0c0 X0f0 X0c1 X0f1 X0c2 X0f2 X0c3 X0f3 X0c4 X0f4 X0c5 X0f5 X0c6 X0f6 X0c7 X0f7 X0c8 X0f8 X0c9 X0f9 X0c10 X0f10 X0c11 X0f11 X0z
  have X0 := X0.later hb
  have X1 := X1.later hb
  have hB := hB.trans (hb.mono hB.size)
  clear hb
  have X0c0 : w3.cell? ⟨w.heap.size, 0, none⟩ = some (.int .i64 p.top) := X0.cell 0
  have X0f0 : w3.frozen? ⟨w.heap.size, 0, none⟩ = false := X0.free 0
  have X0c1 : w3.cell? ⟨w.heap.size, 1, none⟩ = some (.int .i64 p.bank) := X0.cell 1
  have X0f1 : w3.frozen? ⟨w.heap.size, 1, none⟩ = false := X0.free 1
  have X0c2 : w3.cell? ⟨w.heap.size, 2, none⟩ = some (.int .i64 p.siphon) := X0.cell 2
  have X0f2 : w3.frozen? ⟨w.heap.size, 2, none⟩ = false := X0.free 2
  have X0c3 : w3.cell? ⟨w.heap.size, 3, none⟩ = some (.int .i64 p.start) := X0.cell 3
  have X0f3 : w3.frozen? ⟨w.heap.size, 3, none⟩ = false := X0.free 3
  have X0c4 : w3.cell? ⟨w.heap.size, 4, none⟩ = some (.int .i64 p.positions) := X0.cell 4
  have X0f4 : w3.frozen? ⟨w.heap.size, 4, none⟩ = false := X0.free 4
  have X0c5 : w3.cell? ⟨w.heap.size, 5, none⟩ = some (.int .i64 p.rate) := X0.cell 5
  have X0f5 : w3.frozen? ⟨w.heap.size, 5, none⟩ = false := X0.free 5
  have X0c6 : w3.cell? ⟨w.heap.size, 6, none⟩ = some (.int .i64 p.step) := X0.cell 6
  have X0f6 : w3.frozen? ⟨w.heap.size, 6, none⟩ = false := X0.free 6
  have X0c7 : w3.cell? ⟨w.heap.size, 7, none⟩ = some (.int .i64 p.pass) := X0.cell 7
  have X0f7 : w3.frozen? ⟨w.heap.size, 7, none⟩ = false := X0.free 7
  have X0c8 : w3.cell? ⟨w.heap.size, 8, none⟩ = some (.int .i64 p.feed) := X0.cell 8
  have X0f8 : w3.frozen? ⟨w.heap.size, 8, none⟩ = false := X0.free 8
  have X0c9 : w3.cell? ⟨w.heap.size, 9, none⟩ = some (.int .i64 p.pipe) := X0.cell 9
  have X0f9 : w3.frozen? ⟨w.heap.size, 9, none⟩ = false := X0.free 9
  have X0c10 : w3.cell? ⟨w.heap.size, 10, none⟩ = some (.int .i64 p.orders) := X0.cell 10
  have X0f10 : w3.frozen? ⟨w.heap.size, 10, none⟩ = false := X0.free 10
  have X0c11 : w3.cell? ⟨w.heap.size, 11, none⟩ = some (.int .i64 p.age) := X0.cell 11
  have X0f11 : w3.frozen? ⟨w.heap.size, 11, none⟩ = false := X0.free 11
  have X0z : w.heap.size < w3.heap.size := X0.lt
  go_wp2_with fail
  refine (begin_is ht).mono ?_
  rintro e w4 ⟨rfl, hb⟩
  clear X0c0 X0f0 X0c1 X0f1 X0c2 X0f2 X0c3 X0f3 X0c4 X0f4 X0c5 X0f5 X0c6 X0f6 X0c7 X0f7 X0c8 X0f8 X0c9 X0f9 X0c10 X0f10 X0c11 X0f11 X0z
  have X0 := X0.later hb
  have X1 := X1.later hb
  have hB := hB.trans (hb.mono hB.size)
  clear hb
  have X0c0 : w4.cell? ⟨w.heap.size, 0, none⟩ = some (.int .i64 p.top) := X0.cell 0
  have X0f0 : w4.frozen? ⟨w.heap.size, 0, none⟩ = false := X0.free 0
  have X0c1 : w4.cell? ⟨w.heap.size, 1, none⟩ = some (.int .i64 p.bank) := X0.cell 1
  have X0f1 : w4.frozen? ⟨w.heap.size, 1, none⟩ = false := X0.free 1
  have X0c2 : w4.cell? ⟨w.heap.size, 2, none⟩ = some (.int .i64 p.siphon) := X0.cell 2
  have X0f2 : w4.frozen? ⟨w.heap.size, 2, none⟩ = false := X0.free 2
  have X0c3 : w4.cell? ⟨w.heap.size, 3, none⟩ = some (.int .i64 p.start) := X0.cell 3
  have X0f3 : w4.frozen? ⟨w.heap.size, 3, none⟩ = false := X0.free 3
  have X0c4 : w4.cell? ⟨w.heap.size, 4, none⟩ = some (.int .i64 p.positions) := X0.cell 4
  have X0f4 : w4.frozen? ⟨w.heap.size, 4, none⟩ = false := X0.free 4
  have X0c5 : w4.cell? ⟨w.heap.size, 5, none⟩ = some (.int .i64 p.rate) := X0.cell 5
  have X0f5 : w4.frozen? ⟨w.heap.size, 5, none⟩ = false := X0.free 5
  have X0c6 : w4.cell? ⟨w.heap.size, 6, none⟩ = some (.int .i64 p.step) := X0.cell 6
  have X0f6 : w4.frozen? ⟨w.heap.size, 6, none⟩ = false := X0.free 6
  have X0c7 : w4.cell? ⟨w.heap.size, 7, none⟩ = some (.int .i64 p.pass) := X0.cell 7
  have X0f7 : w4.frozen? ⟨w.heap.size, 7, none⟩ = false := X0.free 7
  have X0c8 : w4.cell? ⟨w.heap.size, 8, none⟩ = some (.int .i64 p.feed) := X0.cell 8
  have X0f8 : w4.frozen? ⟨w.heap.size, 8, none⟩ = false := X0.free 8
  have X0c9 : w4.cell? ⟨w.heap.size, 9, none⟩ = some (.int .i64 p.pipe) := X0.cell 9
  have X0f9 : w4.frozen? ⟨w.heap.size, 9, none⟩ = false := X0.free 9
  have X0c10 : w4.cell? ⟨w.heap.size, 10, none⟩ = some (.int .i64 p.orders) := X0.cell 10
  have X0f10 : w4.frozen? ⟨w.heap.size, 10, none⟩ = false := X0.free 10
  have X0c11 : w4.cell? ⟨w.heap.size, 11, none⟩ = some (.int .i64 p.age) := X0.cell 11
  have X0f11 : w4.frozen? ⟨w.heap.size, 11, none⟩ = false := X0.free 11
  have X0z : w.heap.size < w4.heap.size := X0.lt
  go_wp2_with fail
  refine (rbegin_is ht).mono ?_
  rintro e w5 ⟨rfl, hb⟩
  clear X0c0 X0f0 X0c1 X0f1 X0c2 X0f2 X0c3 X0f3 X0c4 X0f4 X0c5 X0f5 X0c6 X0f6 X0c7 X0f7 X0c8 X0f8 X0c9 X0f9 X0c10 X0f10 X0c11 X0f11 X0z
  have B0 := ((Box.newAt (w := w4) (n := w4.heap.size) [.int .i64 t.level, .int .i64 t.position, .int .i64 t.p0, .int .i64 t.p1, .int .i64 t.order, .int .i64 t.age] 26 (by simp))).later hb
  have X0 := ((X0.alloc (.cells #[.int .i64 t.level, .int .i64 t.position, .int .i64 t.p0, .int .i64 t.p1, .int .i64 t.order, .int .i64 t.age] 26))).later hb
  have X1 := ((X1.alloc (.cells #[.int .i64 t.level, .int .i64 t.position, .int .i64 t.p0, .int .i64 t.p1, .int .i64 t.order, .int .i64 t.age] 26))).later hb
  have hB := (hB.alloc hB.size (.cells #[.int .i64 t.level, .int .i64 t.position, .int .i64 t.p0, .int .i64 t.p1, .int .i64 t.order, .int .i64 t.age] 26)).trans (hb.mono (by have := hB.size; simp; omega))
  clear hb
  have X0c0 : w5.cell? ⟨w.heap.size, 0, none⟩ = some (.int .i64 p.top) := X0.cell 0
  have X0f0 : w5.frozen? ⟨w.heap.size, 0, none⟩ = false := X0.free 0
  have X0c1 : w5.cell? ⟨w.heap.size, 1, none⟩ = some (.int .i64 p.bank) := X0.cell 1
  have X0f1 : w5.frozen? ⟨w.heap.size, 1, none⟩ = false := X0.free 1
  have X0c2 : w5.cell? ⟨w.heap.size, 2, none⟩ = some (.int .i64 p.siphon) := X0.cell 2
  have X0f2 : w5.frozen? ⟨w.heap.size, 2, none⟩ = false := X0.free 2
  have X0c3 : w5.cell? ⟨w.heap.size, 3, none⟩ = some (.int .i64 p.start) := X0.cell 3
  have X0f3 : w5.frozen? ⟨w.heap.size, 3, none⟩ = false := X0.free 3
  have X0c4 : w5.cell? ⟨w.heap.size, 4, none⟩ = some (.int .i64 p.positions) := X0.cell 4
  have X0f4 : w5.frozen? ⟨w.heap.size, 4, none⟩ = false := X0.free 4
  have X0c5 : w5.cell? ⟨w.heap.size, 5, none⟩ = some (.int .i64 p.rate) := X0.cell 5
  have X0f5 : w5.frozen? ⟨w.heap.size, 5, none⟩ = false := X0.free 5
  have X0c6 : w5.cell? ⟨w.heap.size, 6, none⟩ = some (.int .i64 p.step) := X0.cell 6
  have X0f6 : w5.frozen? ⟨w.heap.size, 6, none⟩ = false := X0.free 6
  have X0c7 : w5.cell? ⟨w.heap.size, 7, none⟩ = some (.int .i64 p.pass) := X0.cell 7
  have X0f7 : w5.frozen? ⟨w.heap.size, 7, none⟩ = false := X0.free 7
  have X0c8 : w5.cell? ⟨w.heap.size, 8, none⟩ = some (.int .i64 p.feed) := X0.cell 8
  have X0f8 : w5.frozen? ⟨w.heap.size, 8, none⟩ = false := X0.free 8
  have X0c9 : w5.cell? ⟨w.heap.size, 9, none⟩ = some (.int .i64 p.pipe) := X0.cell 9
  have X0f9 : w5.frozen? ⟨w.heap.size, 9, none⟩ = false := X0.free 9
  have X0c10 : w5.cell? ⟨w.heap.size, 10, none⟩ = some (.int .i64 p.orders) := X0.cell 10
  have X0f10 : w5.frozen? ⟨w.heap.size, 10, none⟩ = false := X0.free 10
  have X0c11 : w5.cell? ⟨w.heap.size, 11, none⟩ = some (.int .i64 p.age) := X0.cell 11
  have X0f11 : w5.frozen? ⟨w.heap.size, 11, none⟩ = false := X0.free 11
  have X0z : w.heap.size < w5.heap.size := X0.lt
  have X1c0 : w5.cell? ⟨w.heap.size + 1, 0, none⟩ = some (.int .i64 s.level) := X1.cell 0
  have X1f0 : w5.frozen? ⟨w.heap.size + 1, 0, none⟩ = false := X1.free 0
  have X1c1 : w5.cell? ⟨w.heap.size + 1, 1, none⟩ = some (.int .i64 s.position) := X1.cell 1
  have X1f1 : w5.frozen? ⟨w.heap.size + 1, 1, none⟩ = false := X1.free 1
  have X1c2 : w5.cell? ⟨w.heap.size + 1, 2, none⟩ = some (.int .i64 s.p0) := X1.cell 2
  have X1f2 : w5.frozen? ⟨w.heap.size + 1, 2, none⟩ = false := X1.free 2
  have X1c3 : w5.cell? ⟨w.heap.size + 1, 3, none⟩ = some (.int .i64 s.p1) := X1.cell 3
  have X1f3 : w5.frozen? ⟨w.heap.size + 1, 3, none⟩ = false := X1.free 3
  have X1c4 : w5.cell? ⟨w.heap.size + 1, 4, none⟩ = some (.int .i64 s.order) := X1.cell 4
  have X1f4 : w5.frozen? ⟨w.heap.size + 1, 4, none⟩ = false := X1.free 4
  have X1c5 : w5.cell? ⟨w.heap.size + 1, 5, none⟩ = some (.int .i64 s.age) := X1.cell 5
  have X1f5 : w5.frozen? ⟨w.heap.size + 1, 5, none⟩ = false := X1.free 5
  have X1z : w.heap.size + 1 < w5.heap.size := X1.lt
  go_wp2_with fail
  refine (safe_is hq).mono ?_
  rintro e w6 ⟨rfl, hb⟩
  clear X0c0 X0f0 X0c1 X0f1 X0c2 X0f2 X0c3 X0f3 X0c4 X0f4 X0c5 X0f5 X0c6 X0f6 X0c7 X0f7 X0c8 X0f8 X0c9 X0f9 X0c10 X0f10 X0c11 X0f11 X0z X1c0 X1f0 X1c1 X1f1 X1c2 X1f2 X1c3 X1f3 X1c4 X1f4 X1c5 X1f5 X1z
  have B1 := ((Box.newAt (w := w5) (n := w5.heap.size) [.int .i64 t.level, .int .i64 t.position, .int .i64 t.p0, .int .i64 t.p1, .int .i64 t.order, .int .i64 t.age] 26 (by simp))).later hb
  have X0 := ((X0.alloc (.cells #[.int .i64 t.level, .int .i64 t.position, .int .i64 t.p0, .int .i64 t.p1, .int .i64 t.order, .int .i64 t.age] 26))).later hb
  have X1 := ((X1.alloc (.cells #[.int .i64 t.level, .int .i64 t.position, .int .i64 t.p0, .int .i64 t.p1, .int .i64 t.order, .int .i64 t.age] 26))).later hb
  have B0 := ((B0.alloc (.cells #[.int .i64 t.level, .int .i64 t.position, .int .i64 t.p0, .int .i64 t.p1, .int .i64 t.order, .int .i64 t.age] 26))).later hb
  have hB := (hB.alloc hB.size (.cells #[.int .i64 t.level, .int .i64 t.position, .int .i64 t.p0, .int .i64 t.p1, .int .i64 t.order, .int .i64 t.age] 26)).trans (hb.mono (by have := hB.size; simp; omega))
  clear hb
  have X0c0 : w6.cell? ⟨w.heap.size, 0, none⟩ = some (.int .i64 p.top) := X0.cell 0
  have X0f0 : w6.frozen? ⟨w.heap.size, 0, none⟩ = false := X0.free 0
  have X0c1 : w6.cell? ⟨w.heap.size, 1, none⟩ = some (.int .i64 p.bank) := X0.cell 1
  have X0f1 : w6.frozen? ⟨w.heap.size, 1, none⟩ = false := X0.free 1
  have X0c2 : w6.cell? ⟨w.heap.size, 2, none⟩ = some (.int .i64 p.siphon) := X0.cell 2
  have X0f2 : w6.frozen? ⟨w.heap.size, 2, none⟩ = false := X0.free 2
  have X0c3 : w6.cell? ⟨w.heap.size, 3, none⟩ = some (.int .i64 p.start) := X0.cell 3
  have X0f3 : w6.frozen? ⟨w.heap.size, 3, none⟩ = false := X0.free 3
  have X0c4 : w6.cell? ⟨w.heap.size, 4, none⟩ = some (.int .i64 p.positions) := X0.cell 4
  have X0f4 : w6.frozen? ⟨w.heap.size, 4, none⟩ = false := X0.free 4
  have X0c5 : w6.cell? ⟨w.heap.size, 5, none⟩ = some (.int .i64 p.rate) := X0.cell 5
  have X0f5 : w6.frozen? ⟨w.heap.size, 5, none⟩ = false := X0.free 5
  have X0c6 : w6.cell? ⟨w.heap.size, 6, none⟩ = some (.int .i64 p.step) := X0.cell 6
  have X0f6 : w6.frozen? ⟨w.heap.size, 6, none⟩ = false := X0.free 6
  have X0c7 : w6.cell? ⟨w.heap.size, 7, none⟩ = some (.int .i64 p.pass) := X0.cell 7
  have X0f7 : w6.frozen? ⟨w.heap.size, 7, none⟩ = false := X0.free 7
  have X0c8 : w6.cell? ⟨w.heap.size, 8, none⟩ = some (.int .i64 p.feed) := X0.cell 8
  have X0f8 : w6.frozen? ⟨w.heap.size, 8, none⟩ = false := X0.free 8
  have X0c9 : w6.cell? ⟨w.heap.size, 9, none⟩ = some (.int .i64 p.pipe) := X0.cell 9
  have X0f9 : w6.frozen? ⟨w.heap.size, 9, none⟩ = false := X0.free 9
  have X0c10 : w6.cell? ⟨w.heap.size, 10, none⟩ = some (.int .i64 p.orders) := X0.cell 10
  have X0f10 : w6.frozen? ⟨w.heap.size, 10, none⟩ = false := X0.free 10
  have X0c11 : w6.cell? ⟨w.heap.size, 11, none⟩ = some (.int .i64 p.age) := X0.cell 11
  have X0f11 : w6.frozen? ⟨w.heap.size, 11, none⟩ = false := X0.free 11
  have X0z : w.heap.size < w6.heap.size := X0.lt
  have X1c0 : w6.cell? ⟨w.heap.size + 1, 0, none⟩ = some (.int .i64 s.level) := X1.cell 0
  have X1f0 : w6.frozen? ⟨w.heap.size + 1, 0, none⟩ = false := X1.free 0
  have X1c1 : w6.cell? ⟨w.heap.size + 1, 1, none⟩ = some (.int .i64 s.position) := X1.cell 1
  have X1f1 : w6.frozen? ⟨w.heap.size + 1, 1, none⟩ = false := X1.free 1
  have X1c2 : w6.cell? ⟨w.heap.size + 1, 2, none⟩ = some (.int .i64 s.p0) := X1.cell 2
  have X1f2 : w6.frozen? ⟨w.heap.size + 1, 2, none⟩ = false := X1.free 2
  have X1c3 : w6.cell? ⟨w.heap.size + 1, 3, none⟩ = some (.int .i64 s.p1) := X1.cell 3
  have X1f3 : w6.frozen? ⟨w.heap.size + 1, 3, none⟩ = false := X1.free 3
  have X1c4 : w6.cell? ⟨w.heap.size + 1, 4, none⟩ = some (.int .i64 s.order) := X1.cell 4
  have X1f4 : w6.frozen? ⟨w.heap.size + 1, 4, none⟩ = false := X1.free 4
  have X1c5 : w6.cell? ⟨w.heap.size + 1, 5, none⟩ = some (.int .i64 s.age) := X1.cell 5
  have X1f5 : w6.frozen? ⟨w.heap.size + 1, 5, none⟩ = false := X1.free 5
  have X1z : w.heap.size + 1 < w6.heap.size := X1.lt
  go_wp2_with fail
  refine (rsafe_is hq).mono ?_
  rintro e w7 ⟨rfl, hb⟩
  clear X0c0 X0f0 X0c1 X0f1 X0c2 X0f2 X0c3 X0f3 X0c4 X0f4 X0c5 X0f5 X0c6 X0f6 X0c7 X0f7 X0c8 X0f8 X0c9 X0f9 X0c10 X0f10 X0c11 X0f11 X0z X1c0 X1f0 X1c1 X1f1 X1c2 X1f2 X1c3 X1f3 X1c4 X1f4 X1c5 X1f5 X1z
  have X0 := X0.later hb
  have X1 := X1.later hb
  have B0 := B0.later hb
  have B1 := B1.later hb
  have hB := hB.trans (hb.mono hB.size)
  clear hb
  go_wp2_with fail
  have X0l0 : ∀ y : Later w7, y.w.cell? ⟨w.heap.size, 0, none⟩ = some (.int .i64 p.top) := Later.cell (X0.cell 0) X0.lt
  have X0l1 : ∀ y : Later w7, y.w.cell? ⟨w.heap.size, 1, none⟩ = some (.int .i64 p.bank) := Later.cell (X0.cell 1) X0.lt
  have X0l2 : ∀ y : Later w7, y.w.cell? ⟨w.heap.size, 2, none⟩ = some (.int .i64 p.siphon) := Later.cell (X0.cell 2) X0.lt
  have X0l3 : ∀ y : Later w7, y.w.cell? ⟨w.heap.size, 3, none⟩ = some (.int .i64 p.start) := Later.cell (X0.cell 3) X0.lt
  have X0l4 : ∀ y : Later w7, y.w.cell? ⟨w.heap.size, 4, none⟩ = some (.int .i64 p.positions) := Later.cell (X0.cell 4) X0.lt
  have X0l5 : ∀ y : Later w7, y.w.cell? ⟨w.heap.size, 5, none⟩ = some (.int .i64 p.rate) := Later.cell (X0.cell 5) X0.lt
  have X0l6 : ∀ y : Later w7, y.w.cell? ⟨w.heap.size, 6, none⟩ = some (.int .i64 p.step) := Later.cell (X0.cell 6) X0.lt
  have X0l7 : ∀ y : Later w7, y.w.cell? ⟨w.heap.size, 7, none⟩ = some (.int .i64 p.pass) := Later.cell (X0.cell 7) X0.lt
  have X0l8 : ∀ y : Later w7, y.w.cell? ⟨w.heap.size, 8, none⟩ = some (.int .i64 p.feed) := Later.cell (X0.cell 8) X0.lt
  have X0l9 : ∀ y : Later w7, y.w.cell? ⟨w.heap.size, 9, none⟩ = some (.int .i64 p.pipe) := Later.cell (X0.cell 9) X0.lt
  have X0l10 : ∀ y : Later w7, y.w.cell? ⟨w.heap.size, 10, none⟩ = some (.int .i64 p.orders) := Later.cell (X0.cell 10) X0.lt
  have X0l11 : ∀ y : Later w7, y.w.cell? ⟨w.heap.size, 11, none⟩ = some (.int .i64 p.age) := Later.cell (X0.cell 11) X0.lt
  have B0l0 : ∀ y : Later w7, y.w.cell? ⟨w4.heap.size, 0, none⟩ = some (.int .i64 t.level) := Later.cell (B0.cell 0) B0.lt
  have B0l1 : ∀ y : Later w7, y.w.cell? ⟨w4.heap.size, 1, none⟩ = some (.int .i64 t.position) := Later.cell (B0.cell 1) B0.lt
  have B0l2 : ∀ y : Later w7, y.w.cell? ⟨w4.heap.size, 2, none⟩ = some (.int .i64 t.p0) := Later.cell (B0.cell 2) B0.lt
  have B0l3 : ∀ y : Later w7, y.w.cell? ⟨w4.heap.size, 3, none⟩ = some (.int .i64 t.p1) := Later.cell (B0.cell 3) B0.lt
  have B0l4 : ∀ y : Later w7, y.w.cell? ⟨w4.heap.size, 4, none⟩ = some (.int .i64 t.order) := Later.cell (B0.cell 4) B0.lt
  have B0l5 : ∀ y : Later w7, y.w.cell? ⟨w4.heap.size, 5, none⟩ = some (.int .i64 t.age) := Later.cell (B0.cell 5) B0.lt
  have B1l0 : ∀ y : Later w7, y.w.cell? ⟨w5.heap.size, 0, none⟩ = some (.int .i64 t.level) := Later.cell (B1.cell 0) B1.lt
  have B1l1 : ∀ y : Later w7, y.w.cell? ⟨w5.heap.size, 1, none⟩ = some (.int .i64 t.position) := Later.cell (B1.cell 1) B1.lt
  have B1l2 : ∀ y : Later w7, y.w.cell? ⟨w5.heap.size, 2, none⟩ = some (.int .i64 t.p0) := Later.cell (B1.cell 2) B1.lt
  have B1l3 : ∀ y : Later w7, y.w.cell? ⟨w5.heap.size, 3, none⟩ = some (.int .i64 t.p1) := Later.cell (B1.cell 3) B1.lt
  have B1l4 : ∀ y : Later w7, y.w.cell? ⟨w5.heap.size, 4, none⟩ = some (.int .i64 t.order) := Later.cell (B1.cell 4) B1.lt
  have B1l5 : ∀ y : Later w7, y.w.cell? ⟨w5.heap.size, 5, none⟩ = some (.int .i64 t.age) := Later.cell (B1.cell 5) B1.lt
  refine wp_region_later (by kernel_rfl) (by kernel_rfl) ?_
  repeat (go_big_quiet_step ((first | (go_at_call 17; with_reducible exact Later.call _ (check_at hc _)) | (go_at_call 18; with_reducible exact Later.call _ (rcheck_at hc _)))))
  refine wpQuiet_nil ?_
  intro _ hw'
  obtain ⟨yq, hw''⟩ := hw'
  subst hw''
  clear X0l0 X0l1 X0l2 X0l3 X0l4 X0l5 X0l6 X0l7 X0l8 X0l9 X0l10 X0l11 B0l0 B0l1 B0l2 B0l3 B0l4 B0l5 B1l0 B1l1 B1l2 B1l3 B1l4 B1l5
  obtain ⟨w8, hb⟩ : ∃ z, z = yq.w ∧ Below w7.heap.size w7 z := ⟨_, rfl, yq.below⟩
  obtain ⟨hz, hb⟩ := hb
  rw [← hz]
  clear hz
  have X0 := X0.later hb
  have X1 := X1.later hb
  have B0 := B0.later hb
  have B1 := B1.later hb
  have hB := hB.trans (hb.mono hB.size)
  clear hb
  go_wp2
  go_ret
  exact ⟨rfl, hB⟩

end Go.Proofs.Ytakjalapninndaa
