/-
  Law 7 of chapter 32: PlantDelay. (Printed by gen_x7.py.)
-/
import Derived.Test.YtakjalapninndaaAB
import Derived.Test.YtakjalapninndaaAC
namespace Go.Proofs.Ytakjalapninndaa
open Go.RowKit

set_option maxRecDepth 100000 in
set_option maxHeartbeats 4000000 in
theorem law7_no (p : Pl) (code : List Ln) (V : Value) (s : St) (x : Sh) (y : Int) (w : World) (hC : Hid (CodeAt w w.heap.size V code)) (hf : Hid (fewB code = false)) : Calls Try.prog 7 #[p.v, .agg #[V], s.v, x.v, .int .i64 y] w fun e w' => e = .returned (.bool true) ∧ Below w.heap.size w w' := by
  go_enter Try.func7, Try.ntmps7
  go_wp2_with fail
  refine (sane_any _).mono ?_
  rintro e w1 ⟨rfl, hb⟩
  have X0 := (((((Box.newAt (n := w.heap.size) [.int .i64 p.top, .int .i64 p.bank, .int .i64 p.siphon, .int .i64 p.start, .int .i64 p.positions, .int .i64 p.rate, .int .i64 p.step, .int .i64 p.pass, .int .i64 p.feed, .int .i64 p.pipe, .int .i64 p.orders, .int .i64 p.age] 23 (by simp)).alloc _).alloc _).alloc _)).later hb
  have X1 := ((((Box.newAt (n := w.heap.size + 1) [V] 39 (by simp)).alloc _).alloc _)).later hb
  have X2 := (((Box.newAt (n := w.heap.size + 1 + 1) [.int .i64 s.level, .int .i64 s.position, .int .i64 s.p0, .int .i64 s.p1, .int .i64 s.order, .int .i64 s.age] 26 (by simp)).alloc _)).later hb
  have X3 := ((Box.newAt (n := w.heap.size + 1 + 1 + 1) [.int .i64 x.feed, .int .i64 x.msg] 41 (by simp))).later hb
  have hB : Below w.heap.size w w1 := ((((((Below.refl w.heap.size w).alloc (by simp <;> omega) _).alloc (by simp <;> omega) _).alloc (by simp <;> omega) _).alloc (by simp <;> omega) _)).trans (hb.mono (by simp <;> omega))
  clear hb
  have X1c0 : w1.cell? ⟨w.heap.size + 1, 0, none⟩ = some (V) := X1.cell 0
  have X1f0 : w1.frozen? ⟨w.heap.size + 1, 0, none⟩ = false := X1.free 0
  have X1z : w.heap.size + 1 < w1.heap.size := X1.lt
  go_wp2_with fail
  refine (gfew_at hf ((hC.out.below hB).more hB.size)).mono ?_
  rintro e w2 ⟨rfl, hb⟩
  clear X1c0 X1f0 X1z
  have X0 := X0.later hb
  have X1 := X1.later hb
  have X2 := X2.later hb
  have X3 := X3.later hb
  have hB := hB.trans (hb.mono hB.size)
  clear hb
  go_wp2
  go_ret
  exact ⟨rfl, hB⟩

set_option maxRecDepth 100000 in
set_option maxHeartbeats 4000000 in
theorem law7_e (p : Pl) (code : List Ln) (V : Value) (s : St) (x : Sh) (y : Int) (w : World) (hC : Hid (CodeAt w w.heap.size V code)) (hf : Hid (fewB code = true)) (t u : St) (o q er es : Int) (ht : Hid (nextT p code s x = (t, o, er))) (hu : Hid (nextT p code s ⟨y, x.msg⟩ = (u, q, es))) (_h1 : (er == 0) = false) (_h2 : (er != 0) = true) : Calls Try.prog 7 #[p.v, .agg #[V], s.v, x.v, .int .i64 y] w fun e w' => e = .returned (.bool true) ∧ Below w.heap.size w w' := by
  go_enter Try.func7, Try.ntmps7
  go_wp2_with fail
  refine (sane_any _).mono ?_
  rintro e w1 ⟨rfl, hb⟩
  have X0 := (((((Box.newAt (n := w.heap.size) [.int .i64 p.top, .int .i64 p.bank, .int .i64 p.siphon, .int .i64 p.start, .int .i64 p.positions, .int .i64 p.rate, .int .i64 p.step, .int .i64 p.pass, .int .i64 p.feed, .int .i64 p.pipe, .int .i64 p.orders, .int .i64 p.age] 23 (by simp)).alloc _).alloc _).alloc _)).later hb
  have X1 := ((((Box.newAt (n := w.heap.size + 1) [V] 39 (by simp)).alloc _).alloc _)).later hb
  have X2 := (((Box.newAt (n := w.heap.size + 1 + 1) [.int .i64 s.level, .int .i64 s.position, .int .i64 s.p0, .int .i64 s.p1, .int .i64 s.order, .int .i64 s.age] 26 (by simp)).alloc _)).later hb
  have X3 := ((Box.newAt (n := w.heap.size + 1 + 1 + 1) [.int .i64 x.feed, .int .i64 x.msg] 41 (by simp))).later hb
  have hB : Below w.heap.size w w1 := ((((((Below.refl w.heap.size w).alloc (by simp <;> omega) _).alloc (by simp <;> omega) _).alloc (by simp <;> omega) _).alloc (by simp <;> omega) _)).trans (hb.mono (by simp <;> omega))
  clear hb
  have X1c0 : w1.cell? ⟨w.heap.size + 1, 0, none⟩ = some (V) := X1.cell 0
  have X1f0 : w1.frozen? ⟨w.heap.size + 1, 0, none⟩ = false := X1.free 0
  have X1z : w.heap.size + 1 < w1.heap.size := X1.lt
  go_wp2_with fail
  refine (gfew_at hf ((hC.out.below hB).more hB.size)).mono ?_
  rintro e w2 ⟨rfl, hb⟩
  clear X1c0 X1f0 X1z
  have X0 := X0.later hb
  have X1 := X1.later hb
  have X2 := X2.later hb
  have X3 := X3.later hb
  have hB := hB.trans (hb.mono hB.size)
  clear hb
  have X0c0 : w2.cell? ⟨w.heap.size, 0, none⟩ = some (.int .i64 p.top) := X0.cell 0
  have X0f0 : w2.frozen? ⟨w.heap.size, 0, none⟩ = false := X0.free 0
  have X0c1 : w2.cell? ⟨w.heap.size, 1, none⟩ = some (.int .i64 p.bank) := X0.cell 1
  have X0f1 : w2.frozen? ⟨w.heap.size, 1, none⟩ = false := X0.free 1
  have X0c2 : w2.cell? ⟨w.heap.size, 2, none⟩ = some (.int .i64 p.siphon) := X0.cell 2
  have X0f2 : w2.frozen? ⟨w.heap.size, 2, none⟩ = false := X0.free 2
  have X0c3 : w2.cell? ⟨w.heap.size, 3, none⟩ = some (.int .i64 p.start) := X0.cell 3
  have X0f3 : w2.frozen? ⟨w.heap.size, 3, none⟩ = false := X0.free 3
  have X0c4 : w2.cell? ⟨w.heap.size, 4, none⟩ = some (.int .i64 p.positions) := X0.cell 4
  have X0f4 : w2.frozen? ⟨w.heap.size, 4, none⟩ = false := X0.free 4
  have X0c5 : w2.cell? ⟨w.heap.size, 5, none⟩ = some (.int .i64 p.rate) := X0.cell 5
  have X0f5 : w2.frozen? ⟨w.heap.size, 5, none⟩ = false := X0.free 5
  have X0c6 : w2.cell? ⟨w.heap.size, 6, none⟩ = some (.int .i64 p.step) := X0.cell 6
  have X0f6 : w2.frozen? ⟨w.heap.size, 6, none⟩ = false := X0.free 6
  have X0c7 : w2.cell? ⟨w.heap.size, 7, none⟩ = some (.int .i64 p.pass) := X0.cell 7
  have X0f7 : w2.frozen? ⟨w.heap.size, 7, none⟩ = false := X0.free 7
  have X0c8 : w2.cell? ⟨w.heap.size, 8, none⟩ = some (.int .i64 p.feed) := X0.cell 8
  have X0f8 : w2.frozen? ⟨w.heap.size, 8, none⟩ = false := X0.free 8
  have X0c9 : w2.cell? ⟨w.heap.size, 9, none⟩ = some (.int .i64 p.pipe) := X0.cell 9
  have X0f9 : w2.frozen? ⟨w.heap.size, 9, none⟩ = false := X0.free 9
  have X0c10 : w2.cell? ⟨w.heap.size, 10, none⟩ = some (.int .i64 p.orders) := X0.cell 10
  have X0f10 : w2.frozen? ⟨w.heap.size, 10, none⟩ = false := X0.free 10
  have X0c11 : w2.cell? ⟨w.heap.size, 11, none⟩ = some (.int .i64 p.age) := X0.cell 11
  have X0f11 : w2.frozen? ⟨w.heap.size, 11, none⟩ = false := X0.free 11
  have X0z : w.heap.size < w2.heap.size := X0.lt
  have X1c0 : w2.cell? ⟨w.heap.size + 1, 0, none⟩ = some (V) := X1.cell 0
  have X1f0 : w2.frozen? ⟨w.heap.size + 1, 0, none⟩ = false := X1.free 0
  have X1z : w.heap.size + 1 < w2.heap.size := X1.lt
  have X2c0 : w2.cell? ⟨w.heap.size + 1 + 1, 0, none⟩ = some (.int .i64 s.level) := X2.cell 0
  have X2f0 : w2.frozen? ⟨w.heap.size + 1 + 1, 0, none⟩ = false := X2.free 0
  have X2c1 : w2.cell? ⟨w.heap.size + 1 + 1, 1, none⟩ = some (.int .i64 s.position) := X2.cell 1
  have X2f1 : w2.frozen? ⟨w.heap.size + 1 + 1, 1, none⟩ = false := X2.free 1
  have X2c2 : w2.cell? ⟨w.heap.size + 1 + 1, 2, none⟩ = some (.int .i64 s.p0) := X2.cell 2
  have X2f2 : w2.frozen? ⟨w.heap.size + 1 + 1, 2, none⟩ = false := X2.free 2
  have X2c3 : w2.cell? ⟨w.heap.size + 1 + 1, 3, none⟩ = some (.int .i64 s.p1) := X2.cell 3
  have X2f3 : w2.frozen? ⟨w.heap.size + 1 + 1, 3, none⟩ = false := X2.free 3
  have X2c4 : w2.cell? ⟨w.heap.size + 1 + 1, 4, none⟩ = some (.int .i64 s.order) := X2.cell 4
  have X2f4 : w2.frozen? ⟨w.heap.size + 1 + 1, 4, none⟩ = false := X2.free 4
  have X2c5 : w2.cell? ⟨w.heap.size + 1 + 1, 5, none⟩ = some (.int .i64 s.age) := X2.cell 5
  have X2f5 : w2.frozen? ⟨w.heap.size + 1 + 1, 5, none⟩ = false := X2.free 5
  have X2z : w.heap.size + 1 + 1 < w2.heap.size := X2.lt
  have X3c0 : w2.cell? ⟨w.heap.size + 1 + 1 + 1, 0, none⟩ = some (.int .i64 x.feed) := X3.cell 0
  have X3f0 : w2.frozen? ⟨w.heap.size + 1 + 1 + 1, 0, none⟩ = false := X3.free 0
  have X3c1 : w2.cell? ⟨w.heap.size + 1 + 1 + 1, 1, none⟩ = some (.int .i64 x.msg) := X3.cell 1
  have X3f1 : w2.frozen? ⟨w.heap.size + 1 + 1 + 1, 1, none⟩ = false := X3.free 1
  have X3z : w.heap.size + 1 + 1 + 1 < w2.heap.size := X3.lt
  go_wp2_with fail
  refine (next_is ht ((hC.out.below (hB.alloc hB.size (.cells #[.int .i64 y, .int .i64 x.msg] 41))).more (hB.alloc hB.size (.cells #[.int .i64 y, .int .i64 x.msg] 41)).size)).mono ?_
  rintro e w3 ⟨rfl, hb⟩
  clear X0c0 X0f0 X0c1 X0f1 X0c2 X0f2 X0c3 X0f3 X0c4 X0f4 X0c5 X0f5 X0c6 X0f6 X0c7 X0f7 X0c8 X0f8 X0c9 X0f9 X0c10 X0f10 X0c11 X0f11 X0z X1c0 X1f0 X1z X2c0 X2f0 X2c1 X2f1 X2c2 X2f2 X2c3 X2f3 X2c4 X2f4 X2c5 X2f5 X2z X3c0 X3f0 X3c1 X3f1 X3z
  have X5 := ((Box.newAt (w := w2) (n := w2.heap.size) [.int .i64 y, .int .i64 x.msg] 41 (by simp))).later hb
  have X0 := ((X0.alloc (.cells #[.int .i64 y, .int .i64 x.msg] 41))).later hb
  have X1 := ((X1.alloc (.cells #[.int .i64 y, .int .i64 x.msg] 41))).later hb
  have X2 := ((X2.alloc (.cells #[.int .i64 y, .int .i64 x.msg] 41))).later hb
  have X3 := ((X3.alloc (.cells #[.int .i64 y, .int .i64 x.msg] 41))).later hb
  have hB := (hB.alloc hB.size (.cells #[.int .i64 y, .int .i64 x.msg] 41)).trans (hb.mono (by have := hB.size; simp; omega))
  clear hb
  have X0c0 : w3.cell? ⟨w.heap.size, 0, none⟩ = some (.int .i64 p.top) := X0.cell 0
  have X0f0 : w3.frozen? ⟨w.heap.size, 0, none⟩ = false := X0.free 0
  have X0c1 : w3.cell? ⟨w.heap.size, 1, none⟩ = some (.int .i64 p.bank) := X0.cell 1
  have X0f1 : w3.frozen? ⟨w.heap.size, 1, none⟩ = false := X0.free 1
  have X0c2 : w3.cell? ⟨w.heap.size, 2, none⟩ = some (.int .i64 p.siphon) := X0.cell 2
  have X0f2 : w3.frozen? ⟨w.heap.size, 2, none⟩ = false := X0.free 2
  have X0c3 : w3.cell? ⟨w.heap.size, 3, none⟩ = some (.int .i64 p.start) := X0.cell 3
  have X0f3 : w3.frozen? ⟨w.heap.size, 3, none⟩ = false := X0.free 3
  have X0c4 : w3.cell? ⟨w.heap.size, 4, none⟩ = some (.int .i64 p.positions) := X0.cell 4
  have X0f4 : w3.frozen? ⟨w.heap.size, 4, none⟩ = false := X0.free 4
  have X0c5 : w3.cell? ⟨w.heap.size, 5, none⟩ = some (.int .i64 p.rate) := X0.cell 5
  have X0f5 : w3.frozen? ⟨w.heap.size, 5, none⟩ = false := X0.free 5
  have X0c6 : w3.cell? ⟨w.heap.size, 6, none⟩ = some (.int .i64 p.step) := X0.cell 6
  have X0f6 : w3.frozen? ⟨w.heap.size, 6, none⟩ = false := X0.free 6
  have X0c7 : w3.cell? ⟨w.heap.size, 7, none⟩ = some (.int .i64 p.pass) := X0.cell 7
  have X0f7 : w3.frozen? ⟨w.heap.size, 7, none⟩ = false := X0.free 7
  have X0c8 : w3.cell? ⟨w.heap.size, 8, none⟩ = some (.int .i64 p.feed) := X0.cell 8
  have X0f8 : w3.frozen? ⟨w.heap.size, 8, none⟩ = false := X0.free 8
  have X0c9 : w3.cell? ⟨w.heap.size, 9, none⟩ = some (.int .i64 p.pipe) := X0.cell 9
  have X0f9 : w3.frozen? ⟨w.heap.size, 9, none⟩ = false := X0.free 9
  have X0c10 : w3.cell? ⟨w.heap.size, 10, none⟩ = some (.int .i64 p.orders) := X0.cell 10
  have X0f10 : w3.frozen? ⟨w.heap.size, 10, none⟩ = false := X0.free 10
  have X0c11 : w3.cell? ⟨w.heap.size, 11, none⟩ = some (.int .i64 p.age) := X0.cell 11
  have X0f11 : w3.frozen? ⟨w.heap.size, 11, none⟩ = false := X0.free 11
  have X0z : w.heap.size < w3.heap.size := X0.lt
  have X1c0 : w3.cell? ⟨w.heap.size + 1, 0, none⟩ = some (V) := X1.cell 0
  have X1f0 : w3.frozen? ⟨w.heap.size + 1, 0, none⟩ = false := X1.free 0
  have X1z : w.heap.size + 1 < w3.heap.size := X1.lt
  have X2c0 : w3.cell? ⟨w.heap.size + 1 + 1, 0, none⟩ = some (.int .i64 s.level) := X2.cell 0
  have X2f0 : w3.frozen? ⟨w.heap.size + 1 + 1, 0, none⟩ = false := X2.free 0
  have X2c1 : w3.cell? ⟨w.heap.size + 1 + 1, 1, none⟩ = some (.int .i64 s.position) := X2.cell 1
  have X2f1 : w3.frozen? ⟨w.heap.size + 1 + 1, 1, none⟩ = false := X2.free 1
  have X2c2 : w3.cell? ⟨w.heap.size + 1 + 1, 2, none⟩ = some (.int .i64 s.p0) := X2.cell 2
  have X2f2 : w3.frozen? ⟨w.heap.size + 1 + 1, 2, none⟩ = false := X2.free 2
  have X2c3 : w3.cell? ⟨w.heap.size + 1 + 1, 3, none⟩ = some (.int .i64 s.p1) := X2.cell 3
  have X2f3 : w3.frozen? ⟨w.heap.size + 1 + 1, 3, none⟩ = false := X2.free 3
  have X2c4 : w3.cell? ⟨w.heap.size + 1 + 1, 4, none⟩ = some (.int .i64 s.order) := X2.cell 4
  have X2f4 : w3.frozen? ⟨w.heap.size + 1 + 1, 4, none⟩ = false := X2.free 4
  have X2c5 : w3.cell? ⟨w.heap.size + 1 + 1, 5, none⟩ = some (.int .i64 s.age) := X2.cell 5
  have X2f5 : w3.frozen? ⟨w.heap.size + 1 + 1, 5, none⟩ = false := X2.free 5
  have X2z : w.heap.size + 1 + 1 < w3.heap.size := X2.lt
  have X5c0 : w3.cell? ⟨w2.heap.size, 0, none⟩ = some (.int .i64 y) := X5.cell 0
  have X5f0 : w3.frozen? ⟨w2.heap.size, 0, none⟩ = false := X5.free 0
  have X5c1 : w3.cell? ⟨w2.heap.size, 1, none⟩ = some (.int .i64 x.msg) := X5.cell 1
  have X5f1 : w3.frozen? ⟨w2.heap.size, 1, none⟩ = false := X5.free 1
  have X5z : w2.heap.size < w3.heap.size := X5.lt
  go_wp2_with fail
  refine (next_is (x := ⟨y, x.msg⟩) hu ((hC.out.below (hB.alloc hB.size (.cells #[.int .i64 t.level, .int .i64 t.position, .int .i64 t.p0, .int .i64 t.p1, .int .i64 t.order, .int .i64 t.age] 26))).more (hB.alloc hB.size (.cells #[.int .i64 t.level, .int .i64 t.position, .int .i64 t.p0, .int .i64 t.p1, .int .i64 t.order, .int .i64 t.age] 26)).size)).mono ?_
  rintro e w4 ⟨rfl, hb⟩
  clear X0c0 X0f0 X0c1 X0f1 X0c2 X0f2 X0c3 X0f3 X0c4 X0f4 X0c5 X0f5 X0c6 X0f6 X0c7 X0f7 X0c8 X0f8 X0c9 X0f9 X0c10 X0f10 X0c11 X0f11 X0z X1c0 X1f0 X1z X2c0 X2f0 X2c1 X2f1 X2c2 X2f2 X2c3 X2f3 X2c4 X2f4 X2c5 X2f5 X2z X5c0 X5f0 X5c1 X5f1 X5z
  have B0 := ((Box.newAt (w := w3) (n := w3.heap.size) [.int .i64 t.level, .int .i64 t.position, .int .i64 t.p0, .int .i64 t.p1, .int .i64 t.order, .int .i64 t.age] 26 (by simp))).later hb
  have X0 := ((X0.alloc (.cells #[.int .i64 t.level, .int .i64 t.position, .int .i64 t.p0, .int .i64 t.p1, .int .i64 t.order, .int .i64 t.age] 26))).later hb
  have X1 := ((X1.alloc (.cells #[.int .i64 t.level, .int .i64 t.position, .int .i64 t.p0, .int .i64 t.p1, .int .i64 t.order, .int .i64 t.age] 26))).later hb
  have X2 := ((X2.alloc (.cells #[.int .i64 t.level, .int .i64 t.position, .int .i64 t.p0, .int .i64 t.p1, .int .i64 t.order, .int .i64 t.age] 26))).later hb
  have X3 := ((X3.alloc (.cells #[.int .i64 t.level, .int .i64 t.position, .int .i64 t.p0, .int .i64 t.p1, .int .i64 t.order, .int .i64 t.age] 26))).later hb
  have X5 := ((X5.alloc (.cells #[.int .i64 t.level, .int .i64 t.position, .int .i64 t.p0, .int .i64 t.p1, .int .i64 t.order, .int .i64 t.age] 26))).later hb
  have hB := (hB.alloc hB.size (.cells #[.int .i64 t.level, .int .i64 t.position, .int .i64 t.p0, .int .i64 t.p1, .int .i64 t.order, .int .i64 t.age] 26)).trans (hb.mono (by have := hB.size; simp; omega))
  clear hb
  have X0c0 : w4.cell? ⟨w.heap.size, 0, none⟩ = some (.int .i64 p.top) := X0.cell 0
  have X0f0 : w4.frozen? ⟨w.heap.size, 0, none⟩ = false := X0.free 0
  have X0c1 : w4.cell? ⟨w.heap.size, 1, none⟩ = some (.int .i64 p.bank) := X0.cell 1
  have X0f1 : w4.frozen? ⟨w.heap.size, 1, none⟩ = false := X0.free 1
  have X0c2 : w4.cell? ⟨w.heap.size, 2, none⟩ = some (.int .i64 p.siphon) := X0.cell 2
  have X0f2 : w4.frozen? ⟨w.heap.size, 2, none⟩ = false := X0.free 2
  have X0c3 : w4.cell? ⟨w.heap.size, 3, none⟩ = some (.int .i64 p.start) := X0.cell 3
  have X0f3 : w4.frozen? ⟨w.heap.size, 3, none⟩ = false := X0.free 3
  have X0c4 : w4.cell? ⟨w.heap.size, 4, none⟩ = some (.int .i64 p.positions) := X0.cell 4
  have X0f4 : w4.frozen? ⟨w.heap.size, 4, none⟩ = false := X0.free 4
  have X0c5 : w4.cell? ⟨w.heap.size, 5, none⟩ = some (.int .i64 p.rate) := X0.cell 5
  have X0f5 : w4.frozen? ⟨w.heap.size, 5, none⟩ = false := X0.free 5
  have X0c6 : w4.cell? ⟨w.heap.size, 6, none⟩ = some (.int .i64 p.step) := X0.cell 6
  have X0f6 : w4.frozen? ⟨w.heap.size, 6, none⟩ = false := X0.free 6
  have X0c7 : w4.cell? ⟨w.heap.size, 7, none⟩ = some (.int .i64 p.pass) := X0.cell 7
  have X0f7 : w4.frozen? ⟨w.heap.size, 7, none⟩ = false := X0.free 7
  have X0c8 : w4.cell? ⟨w.heap.size, 8, none⟩ = some (.int .i64 p.feed) := X0.cell 8
  have X0f8 : w4.frozen? ⟨w.heap.size, 8, none⟩ = false := X0.free 8
  have X0c9 : w4.cell? ⟨w.heap.size, 9, none⟩ = some (.int .i64 p.pipe) := X0.cell 9
  have X0f9 : w4.frozen? ⟨w.heap.size, 9, none⟩ = false := X0.free 9
  have X0c10 : w4.cell? ⟨w.heap.size, 10, none⟩ = some (.int .i64 p.orders) := X0.cell 10
  have X0f10 : w4.frozen? ⟨w.heap.size, 10, none⟩ = false := X0.free 10
  have X0c11 : w4.cell? ⟨w.heap.size, 11, none⟩ = some (.int .i64 p.age) := X0.cell 11
  have X0f11 : w4.frozen? ⟨w.heap.size, 11, none⟩ = false := X0.free 11
  have X0z : w.heap.size < w4.heap.size := X0.lt
  go_wp2
  go_ret
  exact ⟨rfl, hB.alloc hB.size _⟩

set_option maxRecDepth 100000 in
set_option maxHeartbeats 4000000 in
theorem law7_f (p : Pl) (code : List Ln) (V : Value) (s : St) (x : Sh) (y : Int) (w : World) (hC : Hid (CodeAt w w.heap.size V code)) (hf : Hid (fewB code = true)) (t u : St) (o q er es : Int) (ht : Hid (nextT p code s x = (t, o, er))) (hu : Hid (nextT p code s ⟨y, x.msg⟩ = (u, q, es))) (_h0 : er = 0) (_h1 : (es == 0) = false) (_h2 : (es != 0) = true) : Calls Try.prog 7 #[p.v, .agg #[V], s.v, x.v, .int .i64 y] w fun e w' => e = .returned (.bool true) ∧ Below w.heap.size w w' := by
  go_enter Try.func7, Try.ntmps7
  go_wp2_with fail
  refine (sane_any _).mono ?_
  rintro e w1 ⟨rfl, hb⟩
  have X0 := (((((Box.newAt (n := w.heap.size) [.int .i64 p.top, .int .i64 p.bank, .int .i64 p.siphon, .int .i64 p.start, .int .i64 p.positions, .int .i64 p.rate, .int .i64 p.step, .int .i64 p.pass, .int .i64 p.feed, .int .i64 p.pipe, .int .i64 p.orders, .int .i64 p.age] 23 (by simp)).alloc _).alloc _).alloc _)).later hb
  have X1 := ((((Box.newAt (n := w.heap.size + 1) [V] 39 (by simp)).alloc _).alloc _)).later hb
  have X2 := (((Box.newAt (n := w.heap.size + 1 + 1) [.int .i64 s.level, .int .i64 s.position, .int .i64 s.p0, .int .i64 s.p1, .int .i64 s.order, .int .i64 s.age] 26 (by simp)).alloc _)).later hb
  have X3 := ((Box.newAt (n := w.heap.size + 1 + 1 + 1) [.int .i64 x.feed, .int .i64 x.msg] 41 (by simp))).later hb
  have hB : Below w.heap.size w w1 := ((((((Below.refl w.heap.size w).alloc (by simp <;> omega) _).alloc (by simp <;> omega) _).alloc (by simp <;> omega) _).alloc (by simp <;> omega) _)).trans (hb.mono (by simp <;> omega))
  clear hb
  have X1c0 : w1.cell? ⟨w.heap.size + 1, 0, none⟩ = some (V) := X1.cell 0
  have X1f0 : w1.frozen? ⟨w.heap.size + 1, 0, none⟩ = false := X1.free 0
  have X1z : w.heap.size + 1 < w1.heap.size := X1.lt
  go_wp2_with fail
  refine (gfew_at hf ((hC.out.below hB).more hB.size)).mono ?_
  rintro e w2 ⟨rfl, hb⟩
  clear X1c0 X1f0 X1z
  have X0 := X0.later hb
  have X1 := X1.later hb
  have X2 := X2.later hb
  have X3 := X3.later hb
  have hB := hB.trans (hb.mono hB.size)
  clear hb
  have X0c0 : w2.cell? ⟨w.heap.size, 0, none⟩ = some (.int .i64 p.top) := X0.cell 0
  have X0f0 : w2.frozen? ⟨w.heap.size, 0, none⟩ = false := X0.free 0
  have X0c1 : w2.cell? ⟨w.heap.size, 1, none⟩ = some (.int .i64 p.bank) := X0.cell 1
  have X0f1 : w2.frozen? ⟨w.heap.size, 1, none⟩ = false := X0.free 1
  have X0c2 : w2.cell? ⟨w.heap.size, 2, none⟩ = some (.int .i64 p.siphon) := X0.cell 2
  have X0f2 : w2.frozen? ⟨w.heap.size, 2, none⟩ = false := X0.free 2
  have X0c3 : w2.cell? ⟨w.heap.size, 3, none⟩ = some (.int .i64 p.start) := X0.cell 3
  have X0f3 : w2.frozen? ⟨w.heap.size, 3, none⟩ = false := X0.free 3
  have X0c4 : w2.cell? ⟨w.heap.size, 4, none⟩ = some (.int .i64 p.positions) := X0.cell 4
  have X0f4 : w2.frozen? ⟨w.heap.size, 4, none⟩ = false := X0.free 4
  have X0c5 : w2.cell? ⟨w.heap.size, 5, none⟩ = some (.int .i64 p.rate) := X0.cell 5
  have X0f5 : w2.frozen? ⟨w.heap.size, 5, none⟩ = false := X0.free 5
  have X0c6 : w2.cell? ⟨w.heap.size, 6, none⟩ = some (.int .i64 p.step) := X0.cell 6
  have X0f6 : w2.frozen? ⟨w.heap.size, 6, none⟩ = false := X0.free 6
  have X0c7 : w2.cell? ⟨w.heap.size, 7, none⟩ = some (.int .i64 p.pass) := X0.cell 7
  have X0f7 : w2.frozen? ⟨w.heap.size, 7, none⟩ = false := X0.free 7
  have X0c8 : w2.cell? ⟨w.heap.size, 8, none⟩ = some (.int .i64 p.feed) := X0.cell 8
  have X0f8 : w2.frozen? ⟨w.heap.size, 8, none⟩ = false := X0.free 8
  have X0c9 : w2.cell? ⟨w.heap.size, 9, none⟩ = some (.int .i64 p.pipe) := X0.cell 9
  have X0f9 : w2.frozen? ⟨w.heap.size, 9, none⟩ = false := X0.free 9
  have X0c10 : w2.cell? ⟨w.heap.size, 10, none⟩ = some (.int .i64 p.orders) := X0.cell 10
  have X0f10 : w2.frozen? ⟨w.heap.size, 10, none⟩ = false := X0.free 10
  have X0c11 : w2.cell? ⟨w.heap.size, 11, none⟩ = some (.int .i64 p.age) := X0.cell 11
  have X0f11 : w2.frozen? ⟨w.heap.size, 11, none⟩ = false := X0.free 11
  have X0z : w.heap.size < w2.heap.size := X0.lt
  have X1c0 : w2.cell? ⟨w.heap.size + 1, 0, none⟩ = some (V) := X1.cell 0
  have X1f0 : w2.frozen? ⟨w.heap.size + 1, 0, none⟩ = false := X1.free 0
  have X1z : w.heap.size + 1 < w2.heap.size := X1.lt
  have X2c0 : w2.cell? ⟨w.heap.size + 1 + 1, 0, none⟩ = some (.int .i64 s.level) := X2.cell 0
  have X2f0 : w2.frozen? ⟨w.heap.size + 1 + 1, 0, none⟩ = false := X2.free 0
  have X2c1 : w2.cell? ⟨w.heap.size + 1 + 1, 1, none⟩ = some (.int .i64 s.position) := X2.cell 1
  have X2f1 : w2.frozen? ⟨w.heap.size + 1 + 1, 1, none⟩ = false := X2.free 1
  have X2c2 : w2.cell? ⟨w.heap.size + 1 + 1, 2, none⟩ = some (.int .i64 s.p0) := X2.cell 2
  have X2f2 : w2.frozen? ⟨w.heap.size + 1 + 1, 2, none⟩ = false := X2.free 2
  have X2c3 : w2.cell? ⟨w.heap.size + 1 + 1, 3, none⟩ = some (.int .i64 s.p1) := X2.cell 3
  have X2f3 : w2.frozen? ⟨w.heap.size + 1 + 1, 3, none⟩ = false := X2.free 3
  have X2c4 : w2.cell? ⟨w.heap.size + 1 + 1, 4, none⟩ = some (.int .i64 s.order) := X2.cell 4
  have X2f4 : w2.frozen? ⟨w.heap.size + 1 + 1, 4, none⟩ = false := X2.free 4
  have X2c5 : w2.cell? ⟨w.heap.size + 1 + 1, 5, none⟩ = some (.int .i64 s.age) := X2.cell 5
  have X2f5 : w2.frozen? ⟨w.heap.size + 1 + 1, 5, none⟩ = false := X2.free 5
  have X2z : w.heap.size + 1 + 1 < w2.heap.size := X2.lt
  have X3c0 : w2.cell? ⟨w.heap.size + 1 + 1 + 1, 0, none⟩ = some (.int .i64 x.feed) := X3.cell 0
  have X3f0 : w2.frozen? ⟨w.heap.size + 1 + 1 + 1, 0, none⟩ = false := X3.free 0
  have X3c1 : w2.cell? ⟨w.heap.size + 1 + 1 + 1, 1, none⟩ = some (.int .i64 x.msg) := X3.cell 1
  have X3f1 : w2.frozen? ⟨w.heap.size + 1 + 1 + 1, 1, none⟩ = false := X3.free 1
  have X3z : w.heap.size + 1 + 1 + 1 < w2.heap.size := X3.lt
  go_wp2_with fail
  refine (next_is ht ((hC.out.below (hB.alloc hB.size (.cells #[.int .i64 y, .int .i64 x.msg] 41))).more (hB.alloc hB.size (.cells #[.int .i64 y, .int .i64 x.msg] 41)).size)).mono ?_
  rintro e w3 ⟨rfl, hb⟩
  clear X0c0 X0f0 X0c1 X0f1 X0c2 X0f2 X0c3 X0f3 X0c4 X0f4 X0c5 X0f5 X0c6 X0f6 X0c7 X0f7 X0c8 X0f8 X0c9 X0f9 X0c10 X0f10 X0c11 X0f11 X0z X1c0 X1f0 X1z X2c0 X2f0 X2c1 X2f1 X2c2 X2f2 X2c3 X2f3 X2c4 X2f4 X2c5 X2f5 X2z X3c0 X3f0 X3c1 X3f1 X3z
  have X5 := ((Box.newAt (w := w2) (n := w2.heap.size) [.int .i64 y, .int .i64 x.msg] 41 (by simp))).later hb
  have X0 := ((X0.alloc (.cells #[.int .i64 y, .int .i64 x.msg] 41))).later hb
  have X1 := ((X1.alloc (.cells #[.int .i64 y, .int .i64 x.msg] 41))).later hb
  have X2 := ((X2.alloc (.cells #[.int .i64 y, .int .i64 x.msg] 41))).later hb
  have X3 := ((X3.alloc (.cells #[.int .i64 y, .int .i64 x.msg] 41))).later hb
  have hB := (hB.alloc hB.size (.cells #[.int .i64 y, .int .i64 x.msg] 41)).trans (hb.mono (by have := hB.size; simp; omega))
  clear hb
  have X0c0 : w3.cell? ⟨w.heap.size, 0, none⟩ = some (.int .i64 p.top) := X0.cell 0
  have X0f0 : w3.frozen? ⟨w.heap.size, 0, none⟩ = false := X0.free 0
  have X0c1 : w3.cell? ⟨w.heap.size, 1, none⟩ = some (.int .i64 p.bank) := X0.cell 1
  have X0f1 : w3.frozen? ⟨w.heap.size, 1, none⟩ = false := X0.free 1
  have X0c2 : w3.cell? ⟨w.heap.size, 2, none⟩ = some (.int .i64 p.siphon) := X0.cell 2
  have X0f2 : w3.frozen? ⟨w.heap.size, 2, none⟩ = false := X0.free 2
  have X0c3 : w3.cell? ⟨w.heap.size, 3, none⟩ = some (.int .i64 p.start) := X0.cell 3
  have X0f3 : w3.frozen? ⟨w.heap.size, 3, none⟩ = false := X0.free 3
  have X0c4 : w3.cell? ⟨w.heap.size, 4, none⟩ = some (.int .i64 p.positions) := X0.cell 4
  have X0f4 : w3.frozen? ⟨w.heap.size, 4, none⟩ = false := X0.free 4
  have X0c5 : w3.cell? ⟨w.heap.size, 5, none⟩ = some (.int .i64 p.rate) := X0.cell 5
  have X0f5 : w3.frozen? ⟨w.heap.size, 5, none⟩ = false := X0.free 5
  have X0c6 : w3.cell? ⟨w.heap.size, 6, none⟩ = some (.int .i64 p.step) := X0.cell 6
  have X0f6 : w3.frozen? ⟨w.heap.size, 6, none⟩ = false := X0.free 6
  have X0c7 : w3.cell? ⟨w.heap.size, 7, none⟩ = some (.int .i64 p.pass) := X0.cell 7
  have X0f7 : w3.frozen? ⟨w.heap.size, 7, none⟩ = false := X0.free 7
  have X0c8 : w3.cell? ⟨w.heap.size, 8, none⟩ = some (.int .i64 p.feed) := X0.cell 8
  have X0f8 : w3.frozen? ⟨w.heap.size, 8, none⟩ = false := X0.free 8
  have X0c9 : w3.cell? ⟨w.heap.size, 9, none⟩ = some (.int .i64 p.pipe) := X0.cell 9
  have X0f9 : w3.frozen? ⟨w.heap.size, 9, none⟩ = false := X0.free 9
  have X0c10 : w3.cell? ⟨w.heap.size, 10, none⟩ = some (.int .i64 p.orders) := X0.cell 10
  have X0f10 : w3.frozen? ⟨w.heap.size, 10, none⟩ = false := X0.free 10
  have X0c11 : w3.cell? ⟨w.heap.size, 11, none⟩ = some (.int .i64 p.age) := X0.cell 11
  have X0f11 : w3.frozen? ⟨w.heap.size, 11, none⟩ = false := X0.free 11
  have X0z : w.heap.size < w3.heap.size := X0.lt
  have X1c0 : w3.cell? ⟨w.heap.size + 1, 0, none⟩ = some (V) := X1.cell 0
  have X1f0 : w3.frozen? ⟨w.heap.size + 1, 0, none⟩ = false := X1.free 0
  have X1z : w.heap.size + 1 < w3.heap.size := X1.lt
  have X2c0 : w3.cell? ⟨w.heap.size + 1 + 1, 0, none⟩ = some (.int .i64 s.level) := X2.cell 0
  have X2f0 : w3.frozen? ⟨w.heap.size + 1 + 1, 0, none⟩ = false := X2.free 0
  have X2c1 : w3.cell? ⟨w.heap.size + 1 + 1, 1, none⟩ = some (.int .i64 s.position) := X2.cell 1
  have X2f1 : w3.frozen? ⟨w.heap.size + 1 + 1, 1, none⟩ = false := X2.free 1
  have X2c2 : w3.cell? ⟨w.heap.size + 1 + 1, 2, none⟩ = some (.int .i64 s.p0) := X2.cell 2
  have X2f2 : w3.frozen? ⟨w.heap.size + 1 + 1, 2, none⟩ = false := X2.free 2
  have X2c3 : w3.cell? ⟨w.heap.size + 1 + 1, 3, none⟩ = some (.int .i64 s.p1) := X2.cell 3
  have X2f3 : w3.frozen? ⟨w.heap.size + 1 + 1, 3, none⟩ = false := X2.free 3
  have X2c4 : w3.cell? ⟨w.heap.size + 1 + 1, 4, none⟩ = some (.int .i64 s.order) := X2.cell 4
  have X2f4 : w3.frozen? ⟨w.heap.size + 1 + 1, 4, none⟩ = false := X2.free 4
  have X2c5 : w3.cell? ⟨w.heap.size + 1 + 1, 5, none⟩ = some (.int .i64 s.age) := X2.cell 5
  have X2f5 : w3.frozen? ⟨w.heap.size + 1 + 1, 5, none⟩ = false := X2.free 5
  have X2z : w.heap.size + 1 + 1 < w3.heap.size := X2.lt
  have X5c0 : w3.cell? ⟨w2.heap.size, 0, none⟩ = some (.int .i64 y) := X5.cell 0
  have X5f0 : w3.frozen? ⟨w2.heap.size, 0, none⟩ = false := X5.free 0
  have X5c1 : w3.cell? ⟨w2.heap.size, 1, none⟩ = some (.int .i64 x.msg) := X5.cell 1
  have X5f1 : w3.frozen? ⟨w2.heap.size, 1, none⟩ = false := X5.free 1
  have X5z : w2.heap.size < w3.heap.size := X5.lt
  go_wp2_with fail
  refine (next_is (x := ⟨y, x.msg⟩) hu ((hC.out.below (hB.alloc hB.size (.cells #[.int .i64 t.level, .int .i64 t.position, .int .i64 t.p0, .int .i64 t.p1, .int .i64 t.order, .int .i64 t.age] 26))).more (hB.alloc hB.size (.cells #[.int .i64 t.level, .int .i64 t.position, .int .i64 t.p0, .int .i64 t.p1, .int .i64 t.order, .int .i64 t.age] 26)).size)).mono ?_
  rintro e w4 ⟨rfl, hb⟩
  clear X0c0 X0f0 X0c1 X0f1 X0c2 X0f2 X0c3 X0f3 X0c4 X0f4 X0c5 X0f5 X0c6 X0f6 X0c7 X0f7 X0c8 X0f8 X0c9 X0f9 X0c10 X0f10 X0c11 X0f11 X0z X1c0 X1f0 X1z X2c0 X2f0 X2c1 X2f1 X2c2 X2f2 X2c3 X2f3 X2c4 X2f4 X2c5 X2f5 X2z X5c0 X5f0 X5c1 X5f1 X5z
  have B0 := ((Box.newAt (w := w3) (n := w3.heap.size) [.int .i64 t.level, .int .i64 t.position, .int .i64 t.p0, .int .i64 t.p1, .int .i64 t.order, .int .i64 t.age] 26 (by simp))).later hb
  have X0 := ((X0.alloc (.cells #[.int .i64 t.level, .int .i64 t.position, .int .i64 t.p0, .int .i64 t.p1, .int .i64 t.order, .int .i64 t.age] 26))).later hb
  have X1 := ((X1.alloc (.cells #[.int .i64 t.level, .int .i64 t.position, .int .i64 t.p0, .int .i64 t.p1, .int .i64 t.order, .int .i64 t.age] 26))).later hb
  have X2 := ((X2.alloc (.cells #[.int .i64 t.level, .int .i64 t.position, .int .i64 t.p0, .int .i64 t.p1, .int .i64 t.order, .int .i64 t.age] 26))).later hb
  have X3 := ((X3.alloc (.cells #[.int .i64 t.level, .int .i64 t.position, .int .i64 t.p0, .int .i64 t.p1, .int .i64 t.order, .int .i64 t.age] 26))).later hb
  have X5 := ((X5.alloc (.cells #[.int .i64 t.level, .int .i64 t.position, .int .i64 t.p0, .int .i64 t.p1, .int .i64 t.order, .int .i64 t.age] 26))).later hb
  have hB := (hB.alloc hB.size (.cells #[.int .i64 t.level, .int .i64 t.position, .int .i64 t.p0, .int .i64 t.p1, .int .i64 t.order, .int .i64 t.age] 26)).trans (hb.mono (by have := hB.size; simp; omega))
  clear hb
  have X0c0 : w4.cell? ⟨w.heap.size, 0, none⟩ = some (.int .i64 p.top) := X0.cell 0
  have X0f0 : w4.frozen? ⟨w.heap.size, 0, none⟩ = false := X0.free 0
  have X0c1 : w4.cell? ⟨w.heap.size, 1, none⟩ = some (.int .i64 p.bank) := X0.cell 1
  have X0f1 : w4.frozen? ⟨w.heap.size, 1, none⟩ = false := X0.free 1
  have X0c2 : w4.cell? ⟨w.heap.size, 2, none⟩ = some (.int .i64 p.siphon) := X0.cell 2
  have X0f2 : w4.frozen? ⟨w.heap.size, 2, none⟩ = false := X0.free 2
  have X0c3 : w4.cell? ⟨w.heap.size, 3, none⟩ = some (.int .i64 p.start) := X0.cell 3
  have X0f3 : w4.frozen? ⟨w.heap.size, 3, none⟩ = false := X0.free 3
  have X0c4 : w4.cell? ⟨w.heap.size, 4, none⟩ = some (.int .i64 p.positions) := X0.cell 4
  have X0f4 : w4.frozen? ⟨w.heap.size, 4, none⟩ = false := X0.free 4
  have X0c5 : w4.cell? ⟨w.heap.size, 5, none⟩ = some (.int .i64 p.rate) := X0.cell 5
  have X0f5 : w4.frozen? ⟨w.heap.size, 5, none⟩ = false := X0.free 5
  have X0c6 : w4.cell? ⟨w.heap.size, 6, none⟩ = some (.int .i64 p.step) := X0.cell 6
  have X0f6 : w4.frozen? ⟨w.heap.size, 6, none⟩ = false := X0.free 6
  have X0c7 : w4.cell? ⟨w.heap.size, 7, none⟩ = some (.int .i64 p.pass) := X0.cell 7
  have X0f7 : w4.frozen? ⟨w.heap.size, 7, none⟩ = false := X0.free 7
  have X0c8 : w4.cell? ⟨w.heap.size, 8, none⟩ = some (.int .i64 p.feed) := X0.cell 8
  have X0f8 : w4.frozen? ⟨w.heap.size, 8, none⟩ = false := X0.free 8
  have X0c9 : w4.cell? ⟨w.heap.size, 9, none⟩ = some (.int .i64 p.pipe) := X0.cell 9
  have X0f9 : w4.frozen? ⟨w.heap.size, 9, none⟩ = false := X0.free 9
  have X0c10 : w4.cell? ⟨w.heap.size, 10, none⟩ = some (.int .i64 p.orders) := X0.cell 10
  have X0f10 : w4.frozen? ⟨w.heap.size, 10, none⟩ = false := X0.free 10
  have X0c11 : w4.cell? ⟨w.heap.size, 11, none⟩ = some (.int .i64 p.age) := X0.cell 11
  have X0f11 : w4.frozen? ⟨w.heap.size, 11, none⟩ = false := X0.free 11
  have X0z : w.heap.size < w4.heap.size := X0.lt
  go_wp2
  go_ret
  exact ⟨rfl, hB.alloc hB.size _⟩

set_option maxRecDepth 100000 in
set_option maxHeartbeats 4000000 in
theorem law7_p (p : Pl) (code : List Ln) (V : Value) (s : St) (x : Sh) (y : Int) (w : World) (hC : Hid (CodeAt w w.heap.size V code)) (hf : Hid (fewB code = true)) (t u : St) (o q er es : Int) (ht : Hid (nextT p code s x = (t, o, er))) (hu : Hid (nextT p code s ⟨y, x.msg⟩ = (u, q, es))) (_h0 : er = 0) (_h1 : es = 0) (hp0 : Hid (p.pipe = 0)) : Calls Try.prog 7 #[p.v, .agg #[V], s.v, x.v, .int .i64 y] w fun e w' => e = .returned (.bool true) ∧ Below w.heap.size w w' := by
  go_enter Try.func7, Try.ntmps7
  go_wp2_with fail
  refine (sane_any _).mono ?_
  rintro e w1 ⟨rfl, hb⟩
  have X0 := (((((Box.newAt (n := w.heap.size) [.int .i64 p.top, .int .i64 p.bank, .int .i64 p.siphon, .int .i64 p.start, .int .i64 p.positions, .int .i64 p.rate, .int .i64 p.step, .int .i64 p.pass, .int .i64 p.feed, .int .i64 p.pipe, .int .i64 p.orders, .int .i64 p.age] 23 (by simp)).alloc _).alloc _).alloc _)).later hb
  have X1 := ((((Box.newAt (n := w.heap.size + 1) [V] 39 (by simp)).alloc _).alloc _)).later hb
  have X2 := (((Box.newAt (n := w.heap.size + 1 + 1) [.int .i64 s.level, .int .i64 s.position, .int .i64 s.p0, .int .i64 s.p1, .int .i64 s.order, .int .i64 s.age] 26 (by simp)).alloc _)).later hb
  have X3 := ((Box.newAt (n := w.heap.size + 1 + 1 + 1) [.int .i64 x.feed, .int .i64 x.msg] 41 (by simp))).later hb
  have hB : Below w.heap.size w w1 := ((((((Below.refl w.heap.size w).alloc (by simp <;> omega) _).alloc (by simp <;> omega) _).alloc (by simp <;> omega) _).alloc (by simp <;> omega) _)).trans (hb.mono (by simp <;> omega))
  clear hb
  have X1c0 : w1.cell? ⟨w.heap.size + 1, 0, none⟩ = some (V) := X1.cell 0
  have X1f0 : w1.frozen? ⟨w.heap.size + 1, 0, none⟩ = false := X1.free 0
  have X1z : w.heap.size + 1 < w1.heap.size := X1.lt
  go_wp2_with fail
  refine (gfew_at hf ((hC.out.below hB).more hB.size)).mono ?_
  rintro e w2 ⟨rfl, hb⟩
  clear X1c0 X1f0 X1z
  have X0 := X0.later hb
  have X1 := X1.later hb
  have X2 := X2.later hb
  have X3 := X3.later hb
  have hB := hB.trans (hb.mono hB.size)
  clear hb
  have X0c0 : w2.cell? ⟨w.heap.size, 0, none⟩ = some (.int .i64 p.top) := X0.cell 0
  have X0f0 : w2.frozen? ⟨w.heap.size, 0, none⟩ = false := X0.free 0
  have X0c1 : w2.cell? ⟨w.heap.size, 1, none⟩ = some (.int .i64 p.bank) := X0.cell 1
  have X0f1 : w2.frozen? ⟨w.heap.size, 1, none⟩ = false := X0.free 1
  have X0c2 : w2.cell? ⟨w.heap.size, 2, none⟩ = some (.int .i64 p.siphon) := X0.cell 2
  have X0f2 : w2.frozen? ⟨w.heap.size, 2, none⟩ = false := X0.free 2
  have X0c3 : w2.cell? ⟨w.heap.size, 3, none⟩ = some (.int .i64 p.start) := X0.cell 3
  have X0f3 : w2.frozen? ⟨w.heap.size, 3, none⟩ = false := X0.free 3
  have X0c4 : w2.cell? ⟨w.heap.size, 4, none⟩ = some (.int .i64 p.positions) := X0.cell 4
  have X0f4 : w2.frozen? ⟨w.heap.size, 4, none⟩ = false := X0.free 4
  have X0c5 : w2.cell? ⟨w.heap.size, 5, none⟩ = some (.int .i64 p.rate) := X0.cell 5
  have X0f5 : w2.frozen? ⟨w.heap.size, 5, none⟩ = false := X0.free 5
  have X0c6 : w2.cell? ⟨w.heap.size, 6, none⟩ = some (.int .i64 p.step) := X0.cell 6
  have X0f6 : w2.frozen? ⟨w.heap.size, 6, none⟩ = false := X0.free 6
  have X0c7 : w2.cell? ⟨w.heap.size, 7, none⟩ = some (.int .i64 p.pass) := X0.cell 7
  have X0f7 : w2.frozen? ⟨w.heap.size, 7, none⟩ = false := X0.free 7
  have X0c8 : w2.cell? ⟨w.heap.size, 8, none⟩ = some (.int .i64 p.feed) := X0.cell 8
  have X0f8 : w2.frozen? ⟨w.heap.size, 8, none⟩ = false := X0.free 8
  have X0c9 : w2.cell? ⟨w.heap.size, 9, none⟩ = some (.int .i64 p.pipe) := X0.cell 9
  have X0f9 : w2.frozen? ⟨w.heap.size, 9, none⟩ = false := X0.free 9
  have X0c10 : w2.cell? ⟨w.heap.size, 10, none⟩ = some (.int .i64 p.orders) := X0.cell 10
  have X0f10 : w2.frozen? ⟨w.heap.size, 10, none⟩ = false := X0.free 10
  have X0c11 : w2.cell? ⟨w.heap.size, 11, none⟩ = some (.int .i64 p.age) := X0.cell 11
  have X0f11 : w2.frozen? ⟨w.heap.size, 11, none⟩ = false := X0.free 11
  have X0z : w.heap.size < w2.heap.size := X0.lt
  have X1c0 : w2.cell? ⟨w.heap.size + 1, 0, none⟩ = some (V) := X1.cell 0
  have X1f0 : w2.frozen? ⟨w.heap.size + 1, 0, none⟩ = false := X1.free 0
  have X1z : w.heap.size + 1 < w2.heap.size := X1.lt
  have X2c0 : w2.cell? ⟨w.heap.size + 1 + 1, 0, none⟩ = some (.int .i64 s.level) := X2.cell 0
  have X2f0 : w2.frozen? ⟨w.heap.size + 1 + 1, 0, none⟩ = false := X2.free 0
  have X2c1 : w2.cell? ⟨w.heap.size + 1 + 1, 1, none⟩ = some (.int .i64 s.position) := X2.cell 1
  have X2f1 : w2.frozen? ⟨w.heap.size + 1 + 1, 1, none⟩ = false := X2.free 1
  have X2c2 : w2.cell? ⟨w.heap.size + 1 + 1, 2, none⟩ = some (.int .i64 s.p0) := X2.cell 2
  have X2f2 : w2.frozen? ⟨w.heap.size + 1 + 1, 2, none⟩ = false := X2.free 2
  have X2c3 : w2.cell? ⟨w.heap.size + 1 + 1, 3, none⟩ = some (.int .i64 s.p1) := X2.cell 3
  have X2f3 : w2.frozen? ⟨w.heap.size + 1 + 1, 3, none⟩ = false := X2.free 3
  have X2c4 : w2.cell? ⟨w.heap.size + 1 + 1, 4, none⟩ = some (.int .i64 s.order) := X2.cell 4
  have X2f4 : w2.frozen? ⟨w.heap.size + 1 + 1, 4, none⟩ = false := X2.free 4
  have X2c5 : w2.cell? ⟨w.heap.size + 1 + 1, 5, none⟩ = some (.int .i64 s.age) := X2.cell 5
  have X2f5 : w2.frozen? ⟨w.heap.size + 1 + 1, 5, none⟩ = false := X2.free 5
  have X2z : w.heap.size + 1 + 1 < w2.heap.size := X2.lt
  have X3c0 : w2.cell? ⟨w.heap.size + 1 + 1 + 1, 0, none⟩ = some (.int .i64 x.feed) := X3.cell 0
  have X3f0 : w2.frozen? ⟨w.heap.size + 1 + 1 + 1, 0, none⟩ = false := X3.free 0
  have X3c1 : w2.cell? ⟨w.heap.size + 1 + 1 + 1, 1, none⟩ = some (.int .i64 x.msg) := X3.cell 1
  have X3f1 : w2.frozen? ⟨w.heap.size + 1 + 1 + 1, 1, none⟩ = false := X3.free 1
  have X3z : w.heap.size + 1 + 1 + 1 < w2.heap.size := X3.lt
  go_wp2_with fail
  refine (next_is ht ((hC.out.below (hB.alloc hB.size (.cells #[.int .i64 y, .int .i64 x.msg] 41))).more (hB.alloc hB.size (.cells #[.int .i64 y, .int .i64 x.msg] 41)).size)).mono ?_
  rintro e w3 ⟨rfl, hb⟩
  clear X0c0 X0f0 X0c1 X0f1 X0c2 X0f2 X0c3 X0f3 X0c4 X0f4 X0c5 X0f5 X0c6 X0f6 X0c7 X0f7 X0c8 X0f8 X0c9 X0f9 X0c10 X0f10 X0c11 X0f11 X0z X1c0 X1f0 X1z X2c0 X2f0 X2c1 X2f1 X2c2 X2f2 X2c3 X2f3 X2c4 X2f4 X2c5 X2f5 X2z X3c0 X3f0 X3c1 X3f1 X3z
  have X5 := ((Box.newAt (w := w2) (n := w2.heap.size) [.int .i64 y, .int .i64 x.msg] 41 (by simp))).later hb
  have X0 := ((X0.alloc (.cells #[.int .i64 y, .int .i64 x.msg] 41))).later hb
  have X1 := ((X1.alloc (.cells #[.int .i64 y, .int .i64 x.msg] 41))).later hb
  have X2 := ((X2.alloc (.cells #[.int .i64 y, .int .i64 x.msg] 41))).later hb
  have X3 := ((X3.alloc (.cells #[.int .i64 y, .int .i64 x.msg] 41))).later hb
  have hB := (hB.alloc hB.size (.cells #[.int .i64 y, .int .i64 x.msg] 41)).trans (hb.mono (by have := hB.size; simp; omega))
  clear hb
  have X0c0 : w3.cell? ⟨w.heap.size, 0, none⟩ = some (.int .i64 p.top) := X0.cell 0
  have X0f0 : w3.frozen? ⟨w.heap.size, 0, none⟩ = false := X0.free 0
  have X0c1 : w3.cell? ⟨w.heap.size, 1, none⟩ = some (.int .i64 p.bank) := X0.cell 1
  have X0f1 : w3.frozen? ⟨w.heap.size, 1, none⟩ = false := X0.free 1
  have X0c2 : w3.cell? ⟨w.heap.size, 2, none⟩ = some (.int .i64 p.siphon) := X0.cell 2
  have X0f2 : w3.frozen? ⟨w.heap.size, 2, none⟩ = false := X0.free 2
  have X0c3 : w3.cell? ⟨w.heap.size, 3, none⟩ = some (.int .i64 p.start) := X0.cell 3
  have X0f3 : w3.frozen? ⟨w.heap.size, 3, none⟩ = false := X0.free 3
  have X0c4 : w3.cell? ⟨w.heap.size, 4, none⟩ = some (.int .i64 p.positions) := X0.cell 4
  have X0f4 : w3.frozen? ⟨w.heap.size, 4, none⟩ = false := X0.free 4
  have X0c5 : w3.cell? ⟨w.heap.size, 5, none⟩ = some (.int .i64 p.rate) := X0.cell 5
  have X0f5 : w3.frozen? ⟨w.heap.size, 5, none⟩ = false := X0.free 5
  have X0c6 : w3.cell? ⟨w.heap.size, 6, none⟩ = some (.int .i64 p.step) := X0.cell 6
  have X0f6 : w3.frozen? ⟨w.heap.size, 6, none⟩ = false := X0.free 6
  have X0c7 : w3.cell? ⟨w.heap.size, 7, none⟩ = some (.int .i64 p.pass) := X0.cell 7
  have X0f7 : w3.frozen? ⟨w.heap.size, 7, none⟩ = false := X0.free 7
  have X0c8 : w3.cell? ⟨w.heap.size, 8, none⟩ = some (.int .i64 p.feed) := X0.cell 8
  have X0f8 : w3.frozen? ⟨w.heap.size, 8, none⟩ = false := X0.free 8
  have X0c9 : w3.cell? ⟨w.heap.size, 9, none⟩ = some (.int .i64 p.pipe) := X0.cell 9
  have X0f9 : w3.frozen? ⟨w.heap.size, 9, none⟩ = false := X0.free 9
  have X0c10 : w3.cell? ⟨w.heap.size, 10, none⟩ = some (.int .i64 p.orders) := X0.cell 10
  have X0f10 : w3.frozen? ⟨w.heap.size, 10, none⟩ = false := X0.free 10
  have X0c11 : w3.cell? ⟨w.heap.size, 11, none⟩ = some (.int .i64 p.age) := X0.cell 11
  have X0f11 : w3.frozen? ⟨w.heap.size, 11, none⟩ = false := X0.free 11
  have X0z : w.heap.size < w3.heap.size := X0.lt
  have X1c0 : w3.cell? ⟨w.heap.size + 1, 0, none⟩ = some (V) := X1.cell 0
  have X1f0 : w3.frozen? ⟨w.heap.size + 1, 0, none⟩ = false := X1.free 0
  have X1z : w.heap.size + 1 < w3.heap.size := X1.lt
  have X2c0 : w3.cell? ⟨w.heap.size + 1 + 1, 0, none⟩ = some (.int .i64 s.level) := X2.cell 0
  have X2f0 : w3.frozen? ⟨w.heap.size + 1 + 1, 0, none⟩ = false := X2.free 0
  have X2c1 : w3.cell? ⟨w.heap.size + 1 + 1, 1, none⟩ = some (.int .i64 s.position) := X2.cell 1
  have X2f1 : w3.frozen? ⟨w.heap.size + 1 + 1, 1, none⟩ = false := X2.free 1
  have X2c2 : w3.cell? ⟨w.heap.size + 1 + 1, 2, none⟩ = some (.int .i64 s.p0) := X2.cell 2
  have X2f2 : w3.frozen? ⟨w.heap.size + 1 + 1, 2, none⟩ = false := X2.free 2
  have X2c3 : w3.cell? ⟨w.heap.size + 1 + 1, 3, none⟩ = some (.int .i64 s.p1) := X2.cell 3
  have X2f3 : w3.frozen? ⟨w.heap.size + 1 + 1, 3, none⟩ = false := X2.free 3
  have X2c4 : w3.cell? ⟨w.heap.size + 1 + 1, 4, none⟩ = some (.int .i64 s.order) := X2.cell 4
  have X2f4 : w3.frozen? ⟨w.heap.size + 1 + 1, 4, none⟩ = false := X2.free 4
  have X2c5 : w3.cell? ⟨w.heap.size + 1 + 1, 5, none⟩ = some (.int .i64 s.age) := X2.cell 5
  have X2f5 : w3.frozen? ⟨w.heap.size + 1 + 1, 5, none⟩ = false := X2.free 5
  have X2z : w.heap.size + 1 + 1 < w3.heap.size := X2.lt
  have X5c0 : w3.cell? ⟨w2.heap.size, 0, none⟩ = some (.int .i64 y) := X5.cell 0
  have X5f0 : w3.frozen? ⟨w2.heap.size, 0, none⟩ = false := X5.free 0
  have X5c1 : w3.cell? ⟨w2.heap.size, 1, none⟩ = some (.int .i64 x.msg) := X5.cell 1
  have X5f1 : w3.frozen? ⟨w2.heap.size, 1, none⟩ = false := X5.free 1
  have X5z : w2.heap.size < w3.heap.size := X5.lt
  go_wp2_with fail
  refine (next_is (x := ⟨y, x.msg⟩) hu ((hC.out.below (hB.alloc hB.size (.cells #[.int .i64 t.level, .int .i64 t.position, .int .i64 t.p0, .int .i64 t.p1, .int .i64 t.order, .int .i64 t.age] 26))).more (hB.alloc hB.size (.cells #[.int .i64 t.level, .int .i64 t.position, .int .i64 t.p0, .int .i64 t.p1, .int .i64 t.order, .int .i64 t.age] 26)).size)).mono ?_
  rintro e w4 ⟨rfl, hb⟩
  clear X0c0 X0f0 X0c1 X0f1 X0c2 X0f2 X0c3 X0f3 X0c4 X0f4 X0c5 X0f5 X0c6 X0f6 X0c7 X0f7 X0c8 X0f8 X0c9 X0f9 X0c10 X0f10 X0c11 X0f11 X0z X1c0 X1f0 X1z X2c0 X2f0 X2c1 X2f1 X2c2 X2f2 X2c3 X2f3 X2c4 X2f4 X2c5 X2f5 X2z X5c0 X5f0 X5c1 X5f1 X5z
  have B0 := ((Box.newAt (w := w3) (n := w3.heap.size) [.int .i64 t.level, .int .i64 t.position, .int .i64 t.p0, .int .i64 t.p1, .int .i64 t.order, .int .i64 t.age] 26 (by simp))).later hb
  have X0 := ((X0.alloc (.cells #[.int .i64 t.level, .int .i64 t.position, .int .i64 t.p0, .int .i64 t.p1, .int .i64 t.order, .int .i64 t.age] 26))).later hb
  have X1 := ((X1.alloc (.cells #[.int .i64 t.level, .int .i64 t.position, .int .i64 t.p0, .int .i64 t.p1, .int .i64 t.order, .int .i64 t.age] 26))).later hb
  have X2 := ((X2.alloc (.cells #[.int .i64 t.level, .int .i64 t.position, .int .i64 t.p0, .int .i64 t.p1, .int .i64 t.order, .int .i64 t.age] 26))).later hb
  have X3 := ((X3.alloc (.cells #[.int .i64 t.level, .int .i64 t.position, .int .i64 t.p0, .int .i64 t.p1, .int .i64 t.order, .int .i64 t.age] 26))).later hb
  have X5 := ((X5.alloc (.cells #[.int .i64 t.level, .int .i64 t.position, .int .i64 t.p0, .int .i64 t.p1, .int .i64 t.order, .int .i64 t.age] 26))).later hb
  have hB := (hB.alloc hB.size (.cells #[.int .i64 t.level, .int .i64 t.position, .int .i64 t.p0, .int .i64 t.p1, .int .i64 t.order, .int .i64 t.age] 26)).trans (hb.mono (by have := hB.size; simp; omega))
  clear hb
  have X0c0 : w4.cell? ⟨w.heap.size, 0, none⟩ = some (.int .i64 p.top) := X0.cell 0
  have X0f0 : w4.frozen? ⟨w.heap.size, 0, none⟩ = false := X0.free 0
  have X0c1 : w4.cell? ⟨w.heap.size, 1, none⟩ = some (.int .i64 p.bank) := X0.cell 1
  have X0f1 : w4.frozen? ⟨w.heap.size, 1, none⟩ = false := X0.free 1
  have X0c2 : w4.cell? ⟨w.heap.size, 2, none⟩ = some (.int .i64 p.siphon) := X0.cell 2
  have X0f2 : w4.frozen? ⟨w.heap.size, 2, none⟩ = false := X0.free 2
  have X0c3 : w4.cell? ⟨w.heap.size, 3, none⟩ = some (.int .i64 p.start) := X0.cell 3
  have X0f3 : w4.frozen? ⟨w.heap.size, 3, none⟩ = false := X0.free 3
  have X0c4 : w4.cell? ⟨w.heap.size, 4, none⟩ = some (.int .i64 p.positions) := X0.cell 4
  have X0f4 : w4.frozen? ⟨w.heap.size, 4, none⟩ = false := X0.free 4
  have X0c5 : w4.cell? ⟨w.heap.size, 5, none⟩ = some (.int .i64 p.rate) := X0.cell 5
  have X0f5 : w4.frozen? ⟨w.heap.size, 5, none⟩ = false := X0.free 5
  have X0c6 : w4.cell? ⟨w.heap.size, 6, none⟩ = some (.int .i64 p.step) := X0.cell 6
  have X0f6 : w4.frozen? ⟨w.heap.size, 6, none⟩ = false := X0.free 6
  have X0c7 : w4.cell? ⟨w.heap.size, 7, none⟩ = some (.int .i64 p.pass) := X0.cell 7
  have X0f7 : w4.frozen? ⟨w.heap.size, 7, none⟩ = false := X0.free 7
  have X0c8 : w4.cell? ⟨w.heap.size, 8, none⟩ = some (.int .i64 p.feed) := X0.cell 8
  have X0f8 : w4.frozen? ⟨w.heap.size, 8, none⟩ = false := X0.free 8
  have X0c9 : w4.cell? ⟨w.heap.size, 9, none⟩ = some (.int .i64 p.pipe) := X0.cell 9
  have X0f9 : w4.frozen? ⟨w.heap.size, 9, none⟩ = false := X0.free 9
  have X0c10 : w4.cell? ⟨w.heap.size, 10, none⟩ = some (.int .i64 p.orders) := X0.cell 10
  have X0f10 : w4.frozen? ⟨w.heap.size, 10, none⟩ = false := X0.free 10
  have X0c11 : w4.cell? ⟨w.heap.size, 11, none⟩ = some (.int .i64 p.age) := X0.cell 11
  have X0f11 : w4.frozen? ⟨w.heap.size, 11, none⟩ = false := X0.free 11
  have X0z : w.heap.size < w4.heap.size := X0.lt
  have _hp := hp0.out
  go_wp2
  go_ret
  exact ⟨rfl, hB.alloc hB.size _⟩

set_option maxRecDepth 100000 in
set_option maxHeartbeats 4000000 in
theorem law7_good (p : Pl) (code : List Ln) (V : Value) (s : St) (x : Sh) (y : Int) (w : World) (hC : Hid (CodeAt w w.heap.size V code)) (hf : Hid (fewB code = true)) (l M a0 a1 b0 b1 od ag o : Int) (ht : Hid (nextT p code s x = ((⟨l, M, a0, a1, od, ag⟩ : St), o, 0))) (hu : Hid (nextT p code s ⟨y, x.msg⟩ = ((⟨l, M, b0, b1, od, ag⟩ : St), o, 0))) (_hp : 0 < p.pipe) : Calls Try.prog 7 #[p.v, .agg #[V], s.v, x.v, .int .i64 y] w fun e w' => e = .returned (.bool true) ∧ Below w.heap.size w w' := by
  go_enter Try.func7, Try.ntmps7
  go_wp2_with fail
  refine (sane_any _).mono ?_
  rintro e w1 ⟨rfl, hb⟩
  have X0 := (((((Box.newAt (n := w.heap.size) [.int .i64 p.top, .int .i64 p.bank, .int .i64 p.siphon, .int .i64 p.start, .int .i64 p.positions, .int .i64 p.rate, .int .i64 p.step, .int .i64 p.pass, .int .i64 p.feed, .int .i64 p.pipe, .int .i64 p.orders, .int .i64 p.age] 23 (by simp)).alloc _).alloc _).alloc _)).later hb
  have X1 := ((((Box.newAt (n := w.heap.size + 1) [V] 39 (by simp)).alloc _).alloc _)).later hb
  have X2 := (((Box.newAt (n := w.heap.size + 1 + 1) [.int .i64 s.level, .int .i64 s.position, .int .i64 s.p0, .int .i64 s.p1, .int .i64 s.order, .int .i64 s.age] 26 (by simp)).alloc _)).later hb
  have X3 := ((Box.newAt (n := w.heap.size + 1 + 1 + 1) [.int .i64 x.feed, .int .i64 x.msg] 41 (by simp))).later hb
  have hB : Below w.heap.size w w1 := ((((((Below.refl w.heap.size w).alloc (by simp <;> omega) _).alloc (by simp <;> omega) _).alloc (by simp <;> omega) _).alloc (by simp <;> omega) _)).trans (hb.mono (by simp <;> omega))
  clear hb
  have X1c0 : w1.cell? ⟨w.heap.size + 1, 0, none⟩ = some (V) := X1.cell 0
  have X1f0 : w1.frozen? ⟨w.heap.size + 1, 0, none⟩ = false := X1.free 0
  have X1z : w.heap.size + 1 < w1.heap.size := X1.lt
  go_wp2_with fail
  refine (gfew_at hf ((hC.out.below hB).more hB.size)).mono ?_
  rintro e w2 ⟨rfl, hb⟩
  clear X1c0 X1f0 X1z
  have X0 := X0.later hb
  have X1 := X1.later hb
  have X2 := X2.later hb
  have X3 := X3.later hb
  have hB := hB.trans (hb.mono hB.size)
  clear hb
  have X0c0 : w2.cell? ⟨w.heap.size, 0, none⟩ = some (.int .i64 p.top) := X0.cell 0
  have X0f0 : w2.frozen? ⟨w.heap.size, 0, none⟩ = false := X0.free 0
  have X0c1 : w2.cell? ⟨w.heap.size, 1, none⟩ = some (.int .i64 p.bank) := X0.cell 1
  have X0f1 : w2.frozen? ⟨w.heap.size, 1, none⟩ = false := X0.free 1
  have X0c2 : w2.cell? ⟨w.heap.size, 2, none⟩ = some (.int .i64 p.siphon) := X0.cell 2
  have X0f2 : w2.frozen? ⟨w.heap.size, 2, none⟩ = false := X0.free 2
  have X0c3 : w2.cell? ⟨w.heap.size, 3, none⟩ = some (.int .i64 p.start) := X0.cell 3
  have X0f3 : w2.frozen? ⟨w.heap.size, 3, none⟩ = false := X0.free 3
  have X0c4 : w2.cell? ⟨w.heap.size, 4, none⟩ = some (.int .i64 p.positions) := X0.cell 4
  have X0f4 : w2.frozen? ⟨w.heap.size, 4, none⟩ = false := X0.free 4
  have X0c5 : w2.cell? ⟨w.heap.size, 5, none⟩ = some (.int .i64 p.rate) := X0.cell 5
  have X0f5 : w2.frozen? ⟨w.heap.size, 5, none⟩ = false := X0.free 5
  have X0c6 : w2.cell? ⟨w.heap.size, 6, none⟩ = some (.int .i64 p.step) := X0.cell 6
  have X0f6 : w2.frozen? ⟨w.heap.size, 6, none⟩ = false := X0.free 6
  have X0c7 : w2.cell? ⟨w.heap.size, 7, none⟩ = some (.int .i64 p.pass) := X0.cell 7
  have X0f7 : w2.frozen? ⟨w.heap.size, 7, none⟩ = false := X0.free 7
  have X0c8 : w2.cell? ⟨w.heap.size, 8, none⟩ = some (.int .i64 p.feed) := X0.cell 8
  have X0f8 : w2.frozen? ⟨w.heap.size, 8, none⟩ = false := X0.free 8
  have X0c9 : w2.cell? ⟨w.heap.size, 9, none⟩ = some (.int .i64 p.pipe) := X0.cell 9
  have X0f9 : w2.frozen? ⟨w.heap.size, 9, none⟩ = false := X0.free 9
  have X0c10 : w2.cell? ⟨w.heap.size, 10, none⟩ = some (.int .i64 p.orders) := X0.cell 10
  have X0f10 : w2.frozen? ⟨w.heap.size, 10, none⟩ = false := X0.free 10
  have X0c11 : w2.cell? ⟨w.heap.size, 11, none⟩ = some (.int .i64 p.age) := X0.cell 11
  have X0f11 : w2.frozen? ⟨w.heap.size, 11, none⟩ = false := X0.free 11
  have X0z : w.heap.size < w2.heap.size := X0.lt
  have X1c0 : w2.cell? ⟨w.heap.size + 1, 0, none⟩ = some (V) := X1.cell 0
  have X1f0 : w2.frozen? ⟨w.heap.size + 1, 0, none⟩ = false := X1.free 0
  have X1z : w.heap.size + 1 < w2.heap.size := X1.lt
  have X2c0 : w2.cell? ⟨w.heap.size + 1 + 1, 0, none⟩ = some (.int .i64 s.level) := X2.cell 0
  have X2f0 : w2.frozen? ⟨w.heap.size + 1 + 1, 0, none⟩ = false := X2.free 0
  have X2c1 : w2.cell? ⟨w.heap.size + 1 + 1, 1, none⟩ = some (.int .i64 s.position) := X2.cell 1
  have X2f1 : w2.frozen? ⟨w.heap.size + 1 + 1, 1, none⟩ = false := X2.free 1
  have X2c2 : w2.cell? ⟨w.heap.size + 1 + 1, 2, none⟩ = some (.int .i64 s.p0) := X2.cell 2
  have X2f2 : w2.frozen? ⟨w.heap.size + 1 + 1, 2, none⟩ = false := X2.free 2
  have X2c3 : w2.cell? ⟨w.heap.size + 1 + 1, 3, none⟩ = some (.int .i64 s.p1) := X2.cell 3
  have X2f3 : w2.frozen? ⟨w.heap.size + 1 + 1, 3, none⟩ = false := X2.free 3
  have X2c4 : w2.cell? ⟨w.heap.size + 1 + 1, 4, none⟩ = some (.int .i64 s.order) := X2.cell 4
  have X2f4 : w2.frozen? ⟨w.heap.size + 1 + 1, 4, none⟩ = false := X2.free 4
  have X2c5 : w2.cell? ⟨w.heap.size + 1 + 1, 5, none⟩ = some (.int .i64 s.age) := X2.cell 5
  have X2f5 : w2.frozen? ⟨w.heap.size + 1 + 1, 5, none⟩ = false := X2.free 5
  have X2z : w.heap.size + 1 + 1 < w2.heap.size := X2.lt
  have X3c0 : w2.cell? ⟨w.heap.size + 1 + 1 + 1, 0, none⟩ = some (.int .i64 x.feed) := X3.cell 0
  have X3f0 : w2.frozen? ⟨w.heap.size + 1 + 1 + 1, 0, none⟩ = false := X3.free 0
  have X3c1 : w2.cell? ⟨w.heap.size + 1 + 1 + 1, 1, none⟩ = some (.int .i64 x.msg) := X3.cell 1
  have X3f1 : w2.frozen? ⟨w.heap.size + 1 + 1 + 1, 1, none⟩ = false := X3.free 1
  have X3z : w.heap.size + 1 + 1 + 1 < w2.heap.size := X3.lt
  go_wp2_with fail
  refine (next_is ht ((hC.out.below (hB.alloc hB.size (.cells #[.int .i64 y, .int .i64 x.msg] 41))).more (hB.alloc hB.size (.cells #[.int .i64 y, .int .i64 x.msg] 41)).size)).mono ?_
  rintro e w3 ⟨rfl, hb⟩
  clear X0c0 X0f0 X0c1 X0f1 X0c2 X0f2 X0c3 X0f3 X0c4 X0f4 X0c5 X0f5 X0c6 X0f6 X0c7 X0f7 X0c8 X0f8 X0c9 X0f9 X0c10 X0f10 X0c11 X0f11 X0z X1c0 X1f0 X1z X2c0 X2f0 X2c1 X2f1 X2c2 X2f2 X2c3 X2f3 X2c4 X2f4 X2c5 X2f5 X2z X3c0 X3f0 X3c1 X3f1 X3z
  have X5 := ((Box.newAt (w := w2) (n := w2.heap.size) [.int .i64 y, .int .i64 x.msg] 41 (by simp))).later hb
  have X0 := ((X0.alloc (.cells #[.int .i64 y, .int .i64 x.msg] 41))).later hb
  have X1 := ((X1.alloc (.cells #[.int .i64 y, .int .i64 x.msg] 41))).later hb
  have X2 := ((X2.alloc (.cells #[.int .i64 y, .int .i64 x.msg] 41))).later hb
  have X3 := ((X3.alloc (.cells #[.int .i64 y, .int .i64 x.msg] 41))).later hb
  have hB := (hB.alloc hB.size (.cells #[.int .i64 y, .int .i64 x.msg] 41)).trans (hb.mono (by have := hB.size; simp; omega))
  clear hb
  have X0c0 : w3.cell? ⟨w.heap.size, 0, none⟩ = some (.int .i64 p.top) := X0.cell 0
  have X0f0 : w3.frozen? ⟨w.heap.size, 0, none⟩ = false := X0.free 0
  have X0c1 : w3.cell? ⟨w.heap.size, 1, none⟩ = some (.int .i64 p.bank) := X0.cell 1
  have X0f1 : w3.frozen? ⟨w.heap.size, 1, none⟩ = false := X0.free 1
  have X0c2 : w3.cell? ⟨w.heap.size, 2, none⟩ = some (.int .i64 p.siphon) := X0.cell 2
  have X0f2 : w3.frozen? ⟨w.heap.size, 2, none⟩ = false := X0.free 2
  have X0c3 : w3.cell? ⟨w.heap.size, 3, none⟩ = some (.int .i64 p.start) := X0.cell 3
  have X0f3 : w3.frozen? ⟨w.heap.size, 3, none⟩ = false := X0.free 3
  have X0c4 : w3.cell? ⟨w.heap.size, 4, none⟩ = some (.int .i64 p.positions) := X0.cell 4
  have X0f4 : w3.frozen? ⟨w.heap.size, 4, none⟩ = false := X0.free 4
  have X0c5 : w3.cell? ⟨w.heap.size, 5, none⟩ = some (.int .i64 p.rate) := X0.cell 5
  have X0f5 : w3.frozen? ⟨w.heap.size, 5, none⟩ = false := X0.free 5
  have X0c6 : w3.cell? ⟨w.heap.size, 6, none⟩ = some (.int .i64 p.step) := X0.cell 6
  have X0f6 : w3.frozen? ⟨w.heap.size, 6, none⟩ = false := X0.free 6
  have X0c7 : w3.cell? ⟨w.heap.size, 7, none⟩ = some (.int .i64 p.pass) := X0.cell 7
  have X0f7 : w3.frozen? ⟨w.heap.size, 7, none⟩ = false := X0.free 7
  have X0c8 : w3.cell? ⟨w.heap.size, 8, none⟩ = some (.int .i64 p.feed) := X0.cell 8
  have X0f8 : w3.frozen? ⟨w.heap.size, 8, none⟩ = false := X0.free 8
  have X0c9 : w3.cell? ⟨w.heap.size, 9, none⟩ = some (.int .i64 p.pipe) := X0.cell 9
  have X0f9 : w3.frozen? ⟨w.heap.size, 9, none⟩ = false := X0.free 9
  have X0c10 : w3.cell? ⟨w.heap.size, 10, none⟩ = some (.int .i64 p.orders) := X0.cell 10
  have X0f10 : w3.frozen? ⟨w.heap.size, 10, none⟩ = false := X0.free 10
  have X0c11 : w3.cell? ⟨w.heap.size, 11, none⟩ = some (.int .i64 p.age) := X0.cell 11
  have X0f11 : w3.frozen? ⟨w.heap.size, 11, none⟩ = false := X0.free 11
  have X0z : w.heap.size < w3.heap.size := X0.lt
  have X1c0 : w3.cell? ⟨w.heap.size + 1, 0, none⟩ = some (V) := X1.cell 0
  have X1f0 : w3.frozen? ⟨w.heap.size + 1, 0, none⟩ = false := X1.free 0
  have X1z : w.heap.size + 1 < w3.heap.size := X1.lt
  have X2c0 : w3.cell? ⟨w.heap.size + 1 + 1, 0, none⟩ = some (.int .i64 s.level) := X2.cell 0
  have X2f0 : w3.frozen? ⟨w.heap.size + 1 + 1, 0, none⟩ = false := X2.free 0
  have X2c1 : w3.cell? ⟨w.heap.size + 1 + 1, 1, none⟩ = some (.int .i64 s.position) := X2.cell 1
  have X2f1 : w3.frozen? ⟨w.heap.size + 1 + 1, 1, none⟩ = false := X2.free 1
  have X2c2 : w3.cell? ⟨w.heap.size + 1 + 1, 2, none⟩ = some (.int .i64 s.p0) := X2.cell 2
  have X2f2 : w3.frozen? ⟨w.heap.size + 1 + 1, 2, none⟩ = false := X2.free 2
  have X2c3 : w3.cell? ⟨w.heap.size + 1 + 1, 3, none⟩ = some (.int .i64 s.p1) := X2.cell 3
  have X2f3 : w3.frozen? ⟨w.heap.size + 1 + 1, 3, none⟩ = false := X2.free 3
  have X2c4 : w3.cell? ⟨w.heap.size + 1 + 1, 4, none⟩ = some (.int .i64 s.order) := X2.cell 4
  have X2f4 : w3.frozen? ⟨w.heap.size + 1 + 1, 4, none⟩ = false := X2.free 4
  have X2c5 : w3.cell? ⟨w.heap.size + 1 + 1, 5, none⟩ = some (.int .i64 s.age) := X2.cell 5
  have X2f5 : w3.frozen? ⟨w.heap.size + 1 + 1, 5, none⟩ = false := X2.free 5
  have X2z : w.heap.size + 1 + 1 < w3.heap.size := X2.lt
  have X5c0 : w3.cell? ⟨w2.heap.size, 0, none⟩ = some (.int .i64 y) := X5.cell 0
  have X5f0 : w3.frozen? ⟨w2.heap.size, 0, none⟩ = false := X5.free 0
  have X5c1 : w3.cell? ⟨w2.heap.size, 1, none⟩ = some (.int .i64 x.msg) := X5.cell 1
  have X5f1 : w3.frozen? ⟨w2.heap.size, 1, none⟩ = false := X5.free 1
  have X5z : w2.heap.size < w3.heap.size := X5.lt
  go_wp2_with fail
  refine (next_is (x := ⟨y, x.msg⟩) hu ((hC.out.below (hB.alloc hB.size (.cells #[.int .i64 l, .int .i64 M, .int .i64 a0, .int .i64 a1, .int .i64 od, .int .i64 ag] 26))).more (hB.alloc hB.size (.cells #[.int .i64 l, .int .i64 M, .int .i64 a0, .int .i64 a1, .int .i64 od, .int .i64 ag] 26)).size)).mono ?_
  rintro e w4 ⟨rfl, hb⟩
  clear X0c0 X0f0 X0c1 X0f1 X0c2 X0f2 X0c3 X0f3 X0c4 X0f4 X0c5 X0f5 X0c6 X0f6 X0c7 X0f7 X0c8 X0f8 X0c9 X0f9 X0c10 X0f10 X0c11 X0f11 X0z X1c0 X1f0 X1z X2c0 X2f0 X2c1 X2f1 X2c2 X2f2 X2c3 X2f3 X2c4 X2f4 X2c5 X2f5 X2z X5c0 X5f0 X5c1 X5f1 X5z
  have B0 := ((Box.newAt (w := w3) (n := w3.heap.size) [.int .i64 l, .int .i64 M, .int .i64 a0, .int .i64 a1, .int .i64 od, .int .i64 ag] 26 (by simp))).later hb
  have X0 := ((X0.alloc (.cells #[.int .i64 l, .int .i64 M, .int .i64 a0, .int .i64 a1, .int .i64 od, .int .i64 ag] 26))).later hb
  have X1 := ((X1.alloc (.cells #[.int .i64 l, .int .i64 M, .int .i64 a0, .int .i64 a1, .int .i64 od, .int .i64 ag] 26))).later hb
  have X2 := ((X2.alloc (.cells #[.int .i64 l, .int .i64 M, .int .i64 a0, .int .i64 a1, .int .i64 od, .int .i64 ag] 26))).later hb
  have X3 := ((X3.alloc (.cells #[.int .i64 l, .int .i64 M, .int .i64 a0, .int .i64 a1, .int .i64 od, .int .i64 ag] 26))).later hb
  have X5 := ((X5.alloc (.cells #[.int .i64 l, .int .i64 M, .int .i64 a0, .int .i64 a1, .int .i64 od, .int .i64 ag] 26))).later hb
  have hB := (hB.alloc hB.size (.cells #[.int .i64 l, .int .i64 M, .int .i64 a0, .int .i64 a1, .int .i64 od, .int .i64 ag] 26)).trans (hb.mono (by have := hB.size; simp; omega))
  clear hb
  have X0c0 : w4.cell? ⟨w.heap.size, 0, none⟩ = some (.int .i64 p.top) := X0.cell 0
  have X0f0 : w4.frozen? ⟨w.heap.size, 0, none⟩ = false := X0.free 0
  have X0c1 : w4.cell? ⟨w.heap.size, 1, none⟩ = some (.int .i64 p.bank) := X0.cell 1
  have X0f1 : w4.frozen? ⟨w.heap.size, 1, none⟩ = false := X0.free 1
  have X0c2 : w4.cell? ⟨w.heap.size, 2, none⟩ = some (.int .i64 p.siphon) := X0.cell 2
  have X0f2 : w4.frozen? ⟨w.heap.size, 2, none⟩ = false := X0.free 2
  have X0c3 : w4.cell? ⟨w.heap.size, 3, none⟩ = some (.int .i64 p.start) := X0.cell 3
  have X0f3 : w4.frozen? ⟨w.heap.size, 3, none⟩ = false := X0.free 3
  have X0c4 : w4.cell? ⟨w.heap.size, 4, none⟩ = some (.int .i64 p.positions) := X0.cell 4
  have X0f4 : w4.frozen? ⟨w.heap.size, 4, none⟩ = false := X0.free 4
  have X0c5 : w4.cell? ⟨w.heap.size, 5, none⟩ = some (.int .i64 p.rate) := X0.cell 5
  have X0f5 : w4.frozen? ⟨w.heap.size, 5, none⟩ = false := X0.free 5
  have X0c6 : w4.cell? ⟨w.heap.size, 6, none⟩ = some (.int .i64 p.step) := X0.cell 6
  have X0f6 : w4.frozen? ⟨w.heap.size, 6, none⟩ = false := X0.free 6
  have X0c7 : w4.cell? ⟨w.heap.size, 7, none⟩ = some (.int .i64 p.pass) := X0.cell 7
  have X0f7 : w4.frozen? ⟨w.heap.size, 7, none⟩ = false := X0.free 7
  have X0c8 : w4.cell? ⟨w.heap.size, 8, none⟩ = some (.int .i64 p.feed) := X0.cell 8
  have X0f8 : w4.frozen? ⟨w.heap.size, 8, none⟩ = false := X0.free 8
  have X0c9 : w4.cell? ⟨w.heap.size, 9, none⟩ = some (.int .i64 p.pipe) := X0.cell 9
  have X0f9 : w4.frozen? ⟨w.heap.size, 9, none⟩ = false := X0.free 9
  have X0c10 : w4.cell? ⟨w.heap.size, 10, none⟩ = some (.int .i64 p.orders) := X0.cell 10
  have X0f10 : w4.frozen? ⟨w.heap.size, 10, none⟩ = false := X0.free 10
  have X0c11 : w4.cell? ⟨w.heap.size, 11, none⟩ = some (.int .i64 p.age) := X0.cell 11
  have X0f11 : w4.frozen? ⟨w.heap.size, 11, none⟩ = false := X0.free 11
  have X0z : w.heap.size < w4.heap.size := X0.lt
  have B0c0 : w4.cell? ⟨w3.heap.size, 0, none⟩ = some (.int .i64 l) := B0.cell 0
  have B0f0 : w4.frozen? ⟨w3.heap.size, 0, none⟩ = false := B0.free 0
  have B0c1 : w4.cell? ⟨w3.heap.size, 1, none⟩ = some (.int .i64 M) := B0.cell 1
  have B0f1 : w4.frozen? ⟨w3.heap.size, 1, none⟩ = false := B0.free 1
  have B0c2 : w4.cell? ⟨w3.heap.size, 2, none⟩ = some (.int .i64 a0) := B0.cell 2
  have B0f2 : w4.frozen? ⟨w3.heap.size, 2, none⟩ = false := B0.free 2
  have B0c3 : w4.cell? ⟨w3.heap.size, 3, none⟩ = some (.int .i64 a1) := B0.cell 3
  have B0f3 : w4.frozen? ⟨w3.heap.size, 3, none⟩ = false := B0.free 3
  have B0c4 : w4.cell? ⟨w3.heap.size, 4, none⟩ = some (.int .i64 od) := B0.cell 4
  have B0f4 : w4.frozen? ⟨w3.heap.size, 4, none⟩ = false := B0.free 4
  have B0c5 : w4.cell? ⟨w3.heap.size, 5, none⟩ = some (.int .i64 ag) := B0.cell 5
  have B0f5 : w4.frozen? ⟨w3.heap.size, 5, none⟩ = false := B0.free 5
  have B0z : w3.heap.size < w4.heap.size := B0.lt
  go_wp2
  go_ret
  exact ⟨rfl, hB.alloc hB.size _⟩

theorem law_PlantDelay (p : Pl) (code : List Ln) (V : Value) (s : St) (x : Sh) (y : Int) (w : World) (hC : CodeAt w w.heap.size V code) : Calls Try.prog 7 #[p.v, .agg #[V], s.v, x.v, .int .i64 y] w fun e w' => e = .returned (.bool true) ∧ Below w.heap.size w w' := by
  rcases hf : fewB code with _ | _
  · exact law7_no p code V s x y w hC hf
  · obtain ⟨t, o, er, ht⟩ : ∃ t o er, nextT p code s x = (t, o, er) := ⟨_, _, _, rfl⟩
    obtain ⟨u, q, es, hu⟩ : ∃ t o er, nextT p code s ⟨y, x.msg⟩ = (t, o, er) := ⟨_, _, _, rfl⟩
    by_cases h1 : er = 0
    · by_cases h2 : es = 0
      · by_cases hp : p.pipe = 0
        · exact law7_p p code V s x y w hC hf t u o q er es ht hu h1 h2 hp
        · subst h1 h2
          rcases next_error (p := p) (code := code) (s := s) (x := x) with ⟨er, h, ht'⟩ | ⟨hv, hg, hh, hc, ht'⟩
          · rw [ht] at ht'; simp only [Prod.mk.injEq] at ht'; exact absurd ht'.2.2.symm h
          rcases next_error (p := p) (code := code) (s := s) (x := ⟨y, x.msg⟩) with ⟨er, h, hu'⟩ | ⟨_, _, _, _, hu'⟩
          · rw [hu] at hu'; simp only [Prod.mk.injEq] at hu'; exact absurd hu'.2.2.symm h
          have ef : (fedT p s ⟨y, x.msg⟩).1 = (fedT p s x).1 := by rw [fedT, fedT, if_neg hp, if_neg hp]; split <;> rfl
          have eh : heardT p s ⟨y, x.msg⟩ = heardT p s x := rfl
          have ev : varsT p s ⟨y, x.msg⟩ = varsT p s x := by rw [varsT, varsT, ef, eh]
          have em : movedT p code s ⟨y, x.msg⟩ = movedT p code s x := by rw [movedT, movedT, ev]
          have eo : outT p code s ⟨y, x.msg⟩ = outT p code s x := by rw [outT, outT, ef, em]
          have es : stepT p code s ⟨y, x.msg⟩ = ⟨(stepT p code s x).level, (stepT p code s x).position, (fedT p s ⟨y, x.msg⟩).2.1, (fedT p s ⟨y, x.msg⟩).2.2, (stepT p code s x).order, (stepT p code s x).age⟩ := by
            rw [stepT, stepT, ef, em, eo, eh]
          rw [es, eo] at hu'
          exact law7_good p code V s x y w hC hf _ _ _ _ _ _ _ _ _ ht' hu' (by have := hv.pipe; omega)
      · exact law7_f p code V s x y w hC hf t u o q er es ht hu h1 (by simp [h2]) (by simp [h2])
    · exact law7_e p code V s x y w hC hf t u o q er es ht hu (by simp [h1]) (by simp [h1])

end Go.Proofs.Ytakjalapninndaa
