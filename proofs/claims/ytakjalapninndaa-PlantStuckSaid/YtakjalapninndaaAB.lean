/-
  Law 4 of chapter 32: PlantNextSpec. (Printed by gen_x4.py.)
-/
import Derived.Test.YtakjalapninndaaU
namespace Go.Proofs.Ytakjalapninndaa
open Go.RowKit

theorem gfew_at {code : List Ln} {v : Value} {w : World} {q : Bool} (h : Hid (fewB code = q)) (hC : CodeAt w w.heap.size v code) : Calls Try.prog 19 #[.agg #[v]] w fun e w' => e = .returned (.bool q) ∧ Below w.heap.size w w' :=
  (gfew_any code v w hC).mono fun _ _ ⟨he, hb⟩ => ⟨by rw [he, h.out], hb⟩

set_option maxRecDepth 100000 in
set_option maxHeartbeats 4000000 in
theorem law4_no (p : Pl) (code : List Ln) (V : Value) (s : St) (x : Sh) (w : World) (hC : Hid (CodeAt w w.heap.size V code)) (hf : Hid (fewB code = false)) : Calls Try.prog 4 #[p.v, .agg #[V], s.v, x.v] w fun e w' => e = .returned (.bool true) ∧ Below w.heap.size w w' := by
  go_enter Try.func4, Try.ntmps4
  go_wp2_with fail
  refine (sane_any _).mono ?_
  rintro e w1 ⟨rfl, hb⟩
  have X0 := (((((Box.newAt (n := w.heap.size) [.int .i64 p.top, .int .i64 p.bank, .int .i64 p.siphon, .int .i64 p.start, .int .i64 p.positions, .int .i64 p.rate, .int .i64 p.step, .int .i64 p.pass, .int .i64 p.feed, .int .i64 p.pipe, .int .i64 p.orders, .int .i64 p.age] 23 (by simp)).alloc _).alloc _).alloc _)).later hb
  have X1 := ((((Box.newAt (n := w.heap.size + 1) [V] 39 (by simp)).alloc _).alloc _)).later hb
  have X2 := (((Box.newAt (n := w.heap.size + 1 + 1) [.int .i64 s.level, .int .i64 s.position, .int .i64 s.p0, .int .i64 s.p1, .int .i64 s.order, .int .i64 s.age] 26 (by simp)).alloc _)).later hb
  have X3 := ((Box.newAt (n := w.heap.size + 1 + 1 + 1) [.int .i64 x.feed, .int .i64 x.msg] 41 (by simp))).later hb
  have hB : Below w.heap.size w w1 := ((((((Below.refl w.heap.size w).alloc (by simp <;> omega) _).alloc (by simp <;> omega) _).alloc (by simp <;> omega) _).alloc (by simp <;> omega) _)).trans (hb.mono (by simp <;> omega))
  clear hb
  have X1c0 : w1.cell? ⟨w.heap.size + 1, 0, none⟩ = some (V) := X1.cell 0
  have X1f0 : w1.frozen? ⟨w.heap.size + 1, 0, none⟩ = false := X1.free 0
  have X1z : w.heap.size + 1 < w1.heap.size := X1.lt
  go_wp2_with fail
  refine (gfew_at hf ((hC.out.below hB).more hB.size)).mono ?_
  rintro e w2 ⟨rfl, hb⟩
  clear X1c0 X1f0 X1z
  have X0 := X0.later hb
  have X1 := X1.later hb
  have X2 := X2.later hb
  have X3 := X3.later hb
  have hB := hB.trans (hb.mono hB.size)
  clear hb
  go_wp2
  go_ret
  exact ⟨rfl, hB⟩

set_option maxRecDepth 100000 in
set_option maxHeartbeats 4000000 in
theorem law4_yes (p : Pl) (code : List Ln) (V : Value) (s : St) (x : Sh) (w : World) (hC : Hid (CodeAt w w.heap.size V code)) (hf : Hid (fewB code = true)) (t : St) (o er : Int) (ht : Hid (nextT p code s x = (t, o, er))) : Calls Try.prog 4 #[p.v, .agg #[V], s.v, x.v] w fun e w' => e = .returned (.bool true) ∧ Below w.heap.size w w' := by
  go_enter Try.func4, Try.ntmps4
  go_wp2_with fail
  refine (sane_any _).mono ?_
  rintro e w1 ⟨rfl, hb⟩
  have X0 := (((((Box.newAt (n := w.heap.size) [.int .i64 p.top, .int .i64 p.bank, .int .i64 p.siphon, .int .i64 p.start, .int .i64 p.positions, .int .i64 p.rate, .int .i64 p.step, .int .i64 p.pass, .int .i64 p.feed, .int .i64 p.pipe, .int .i64 p.orders, .int .i64 p.age] 23 (by simp)).alloc _).alloc _).alloc _)).later hb
  have X1 := ((((Box.newAt (n := w.heap.size + 1) [V] 39 (by simp)).alloc _).alloc _)).later hb
  have X2 := (((Box.newAt (n := w.heap.size + 1 + 1) [.int .i64 s.level, .int .i64 s.position, .int .i64 s.p0, .int .i64 s.p1, .int .i64 s.order, .int .i64 s.age] 26 (by simp)).alloc _)).later hb
  have X3 := ((Box.newAt (n := w.heap.size + 1 + 1 + 1) [.int .i64 x.feed, .int .i64 x.msg] 41 (by simp))).later hb
  have hB : Below w.heap.size w w1 := ((((((Below.refl w.heap.size w).alloc (by simp <;> omega) _).alloc (by simp <;> omega) _).alloc (by simp <;> omega) _).alloc (by simp <;> omega) _)).trans (hb.mono (by simp <;> omega))
  clear hb
  have X1c0 : w1.cell? ⟨w.heap.size + 1, 0, none⟩ = some (V) := X1.cell 0
  have X1f0 : w1.frozen? ⟨w.heap.size + 1, 0, none⟩ = false := X1.free 0
  have X1z : w.heap.size + 1 < w1.heap.size := X1.lt
  go_wp2_with fail
  refine (gfew_at hf ((hC.out.below hB).more hB.size)).mono ?_
  rintro e w2 ⟨rfl, hb⟩
  clear X1c0 X1f0 X1z
  have X0 := X0.later hb
  have X1 := X1.later hb
  have X2 := X2.later hb
  have X3 := X3.later hb
  have hB := hB.trans (hb.mono hB.size)
  clear hb
  have X0c0 : w2.cell? ⟨w.heap.size, 0, none⟩ = some (.int .i64 p.top) := X0.cell 0
  have X0f0 : w2.frozen? ⟨w.heap.size, 0, none⟩ = false := X0.free 0
  have X0c1 : w2.cell? ⟨w.heap.size, 1, none⟩ = some (.int .i64 p.bank) := X0.cell 1
  have X0f1 : w2.frozen? ⟨w.heap.size, 1, none⟩ = false := X0.free 1
  have X0c2 : w2.cell? ⟨w.heap.size, 2, none⟩ = some (.int .i64 p.siphon) := X0.cell 2
  have X0f2 : w2.frozen? ⟨w.heap.size, 2, none⟩ = false := X0.free 2
  have X0c3 : w2.cell? ⟨w.heap.size, 3, none⟩ = some (.int .i64 p.start) := X0.cell 3
  have X0f3 : w2.frozen? ⟨w.heap.size, 3, none⟩ = false := X0.free 3
  have X0c4 : w2.cell? ⟨w.heap.size, 4, none⟩ = some (.int .i64 p.positions) := X0.cell 4
  have X0f4 : w2.frozen? ⟨w.heap.size, 4, none⟩ = false := X0.free 4
  have X0c5 : w2.cell? ⟨w.heap.size, 5, none⟩ = some (.int .i64 p.rate) := X0.cell 5
  have X0f5 : w2.frozen? ⟨w.heap.size, 5, none⟩ = false := X0.free 5
  have X0c6 : w2.cell? ⟨w.heap.size, 6, none⟩ = some (.int .i64 p.step) := X0.cell 6
  have X0f6 : w2.frozen? ⟨w.heap.size, 6, none⟩ = false := X0.free 6
  have X0c7 : w2.cell? ⟨w.heap.size, 7, none⟩ = some (.int .i64 p.pass) := X0.cell 7
  have X0f7 : w2.frozen? ⟨w.heap.size, 7, none⟩ = false := X0.free 7
  have X0c8 : w2.cell? ⟨w.heap.size, 8, none⟩ = some (.int .i64 p.feed) := X0.cell 8
  have X0f8 : w2.frozen? ⟨w.heap.size, 8, none⟩ = false := X0.free 8
  have X0c9 : w2.cell? ⟨w.heap.size, 9, none⟩ = some (.int .i64 p.pipe) := X0.cell 9
  have X0f9 : w2.frozen? ⟨w.heap.size, 9, none⟩ = false := X0.free 9
  have X0c10 : w2.cell? ⟨w.heap.size, 10, none⟩ = some (.int .i64 p.orders) := X0.cell 10
  have X0f10 : w2.frozen? ⟨w.heap.size, 10, none⟩ = false := X0.free 10
  have X0c11 : w2.cell? ⟨w.heap.size, 11, none⟩ = some (.int .i64 p.age) := X0.cell 11
  have X0f11 : w2.frozen? ⟨w.heap.size, 11, none⟩ = false := X0.free 11
  have X0z : w.heap.size < w2.heap.size := X0.lt
  have X1c0 : w2.cell? ⟨w.heap.size + 1, 0, none⟩ = some (V) := X1.cell 0
  have X1f0 : w2.frozen? ⟨w.heap.size + 1, 0, none⟩ = false := X1.free 0
  have X1z : w.heap.size + 1 < w2.heap.size := X1.lt
  have X2c0 : w2.cell? ⟨w.heap.size + 1 + 1, 0, none⟩ = some (.int .i64 s.level) := X2.cell 0
  have X2f0 : w2.frozen? ⟨w.heap.size + 1 + 1, 0, none⟩ = false := X2.free 0
  have X2c1 : w2.cell? ⟨w.heap.size + 1 + 1, 1, none⟩ = some (.int .i64 s.position) := X2.cell 1
  have X2f1 : w2.frozen? ⟨w.heap.size + 1 + 1, 1, none⟩ = false := X2.free 1
  have X2c2 : w2.cell? ⟨w.heap.size + 1 + 1, 2, none⟩ = some (.int .i64 s.p0) := X2.cell 2
  have X2f2 : w2.frozen? ⟨w.heap.size + 1 + 1, 2, none⟩ = false := X2.free 2
  have X2c3 : w2.cell? ⟨w.heap.size + 1 + 1, 3, none⟩ = some (.int .i64 s.p1) := X2.cell 3
  have X2f3 : w2.frozen? ⟨w.heap.size + 1 + 1, 3, none⟩ = false := X2.free 3
  have X2c4 : w2.cell? ⟨w.heap.size + 1 + 1, 4, none⟩ = some (.int .i64 s.order) := X2.cell 4
  have X2f4 : w2.frozen? ⟨w.heap.size + 1 + 1, 4, none⟩ = false := X2.free 4
  have X2c5 : w2.cell? ⟨w.heap.size + 1 + 1, 5, none⟩ = some (.int .i64 s.age) := X2.cell 5
  have X2f5 : w2.frozen? ⟨w.heap.size + 1 + 1, 5, none⟩ = false := X2.free 5
  have X2z : w.heap.size + 1 + 1 < w2.heap.size := X2.lt
  have X3c0 : w2.cell? ⟨w.heap.size + 1 + 1 + 1, 0, none⟩ = some (.int .i64 x.feed) := X3.cell 0
  have X3f0 : w2.frozen? ⟨w.heap.size + 1 + 1 + 1, 0, none⟩ = false := X3.free 0
  have X3c1 : w2.cell? ⟨w.heap.size + 1 + 1 + 1, 1, none⟩ = some (.int .i64 x.msg) := X3.cell 1
  have X3f1 : w2.frozen? ⟨w.heap.size + 1 + 1 + 1, 1, none⟩ = false := X3.free 1
  have X3z : w.heap.size + 1 + 1 + 1 < w2.heap.size := X3.lt
  go_wp2_with fail
  refine (next_is ht ((hC.out.below hB).more hB.size)).mono ?_
  rintro e w3 ⟨rfl, hb⟩
  clear X0c0 X0f0 X0c1 X0f1 X0c2 X0f2 X0c3 X0f3 X0c4 X0f4 X0c5 X0f5 X0c6 X0f6 X0c7 X0f7 X0c8 X0f8 X0c9 X0f9 X0c10 X0f10 X0c11 X0f11 X0z X1c0 X1f0 X1z X2c0 X2f0 X2c1 X2f1 X2c2 X2f2 X2c3 X2f3 X2c4 X2f4 X2c5 X2f5 X2z X3c0 X3f0 X3c1 X3f1 X3z
  have X0 := X0.later hb
  have X1 := X1.later hb
  have X2 := X2.later hb
  have X3 := X3.later hb
  have hB := hB.trans (hb.mono hB.size)
  clear hb
  have X0c0 : w3.cell? ⟨w.heap.size, 0, none⟩ = some (.int .i64 p.top) := X0.cell 0
  have X0f0 : w3.frozen? ⟨w.heap.size, 0, none⟩ = false := X0.free 0
  have X0c1 : w3.cell? ⟨w.heap.size, 1, none⟩ = some (.int .i64 p.bank) := X0.cell 1
  have X0f1 : w3.frozen? ⟨w.heap.size, 1, none⟩ = false := X0.free 1
  have X0c2 : w3.cell? ⟨w.heap.size, 2, none⟩ = some (.int .i64 p.siphon) := X0.cell 2
  have X0f2 : w3.frozen? ⟨w.heap.size, 2, none⟩ = false := X0.free 2
  have X0c3 : w3.cell? ⟨w.heap.size, 3, none⟩ = some (.int .i64 p.start) := X0.cell 3
  have X0f3 : w3.frozen? ⟨w.heap.size, 3, none⟩ = false := X0.free 3
  have X0c4 : w3.cell? ⟨w.heap.size, 4, none⟩ = some (.int .i64 p.positions) := X0.cell 4
  have X0f4 : w3.frozen? ⟨w.heap.size, 4, none⟩ = false := X0.free 4
  have X0c5 : w3.cell? ⟨w.heap.size, 5, none⟩ = some (.int .i64 p.rate) := X0.cell 5
  have X0f5 : w3.frozen? ⟨w.heap.size, 5, none⟩ = false := X0.free 5
  have X0c6 : w3.cell? ⟨w.heap.size, 6, none⟩ = some (.int .i64 p.step) := X0.cell 6
  have X0f6 : w3.frozen? ⟨w.heap.size, 6, none⟩ = false := X0.free 6
  have X0c7 : w3.cell? ⟨w.heap.size, 7, none⟩ = some (.int .i64 p.pass) := X0.cell 7
  have X0f7 : w3.frozen? ⟨w.heap.size, 7, none⟩ = false := X0.free 7
  have X0c8 : w3.cell? ⟨w.heap.size, 8, none⟩ = some (.int .i64 p.feed) := X0.cell 8
  have X0f8 : w3.frozen? ⟨w.heap.size, 8, none⟩ = false := X0.free 8
  have X0c9 : w3.cell? ⟨w.heap.size, 9, none⟩ = some (.int .i64 p.pipe) := X0.cell 9
  have X0f9 : w3.frozen? ⟨w.heap.size, 9, none⟩ = false := X0.free 9
  have X0c10 : w3.cell? ⟨w.heap.size, 10, none⟩ = some (.int .i64 p.orders) := X0.cell 10
  have X0f10 : w3.frozen? ⟨w.heap.size, 10, none⟩ = false := X0.free 10
  have X0c11 : w3.cell? ⟨w.heap.size, 11, none⟩ = some (.int .i64 p.age) := X0.cell 11
  have X0f11 : w3.frozen? ⟨w.heap.size, 11, none⟩ = false := X0.free 11
  have X0z : w.heap.size < w3.heap.size := X0.lt
  have X1c0 : w3.cell? ⟨w.heap.size + 1, 0, none⟩ = some (V) := X1.cell 0
  have X1f0 : w3.frozen? ⟨w.heap.size + 1, 0, none⟩ = false := X1.free 0
  have X1z : w.heap.size + 1 < w3.heap.size := X1.lt
  have X2c0 : w3.cell? ⟨w.heap.size + 1 + 1, 0, none⟩ = some (.int .i64 s.level) := X2.cell 0
  have X2f0 : w3.frozen? ⟨w.heap.size + 1 + 1, 0, none⟩ = false := X2.free 0
  have X2c1 : w3.cell? ⟨w.heap.size + 1 + 1, 1, none⟩ = some (.int .i64 s.position) := X2.cell 1
  have X2f1 : w3.frozen? ⟨w.heap.size + 1 + 1, 1, none⟩ = false := X2.free 1
  have X2c2 : w3.cell? ⟨w.heap.size + 1 + 1, 2, none⟩ = some (.int .i64 s.p0) := X2.cell 2
  have X2f2 : w3.frozen? ⟨w.heap.size + 1 + 1, 2, none⟩ = false := X2.free 2
  have X2c3 : w3.cell? ⟨w.heap.size + 1 + 1, 3, none⟩ = some (.int .i64 s.p1) := X2.cell 3
  have X2f3 : w3.frozen? ⟨w.heap.size + 1 + 1, 3, none⟩ = false := X2.free 3
  have X2c4 : w3.cell? ⟨w.heap.size + 1 + 1, 4, none⟩ = some (.int .i64 s.order) := X2.cell 4
  have X2f4 : w3.frozen? ⟨w.heap.size + 1 + 1, 4, none⟩ = false := X2.free 4
  have X2c5 : w3.cell? ⟨w.heap.size + 1 + 1, 5, none⟩ = some (.int .i64 s.age) := X2.cell 5
  have X2f5 : w3.frozen? ⟨w.heap.size + 1 + 1, 5, none⟩ = false := X2.free 5
  have X2z : w.heap.size + 1 + 1 < w3.heap.size := X2.lt
  have X3c0 : w3.cell? ⟨w.heap.size + 1 + 1 + 1, 0, none⟩ = some (.int .i64 x.feed) := X3.cell 0
  have X3f0 : w3.frozen? ⟨w.heap.size + 1 + 1 + 1, 0, none⟩ = false := X3.free 0
  have X3c1 : w3.cell? ⟨w.heap.size + 1 + 1 + 1, 1, none⟩ = some (.int .i64 x.msg) := X3.cell 1
  have X3f1 : w3.frozen? ⟨w.heap.size + 1 + 1 + 1, 1, none⟩ = false := X3.free 1
  have X3z : w.heap.size + 1 + 1 + 1 < w3.heap.size := X3.lt
  go_wp2_with fail
  refine (rnext_is ht ((hC.out.below (hB.alloc hB.size (.cells #[.int .i64 t.level, .int .i64 t.position, .int .i64 t.p0, .int .i64 t.p1, .int .i64 t.order, .int .i64 t.age] 26))).more (hB.alloc hB.size (.cells #[.int .i64 t.level, .int .i64 t.position, .int .i64 t.p0, .int .i64 t.p1, .int .i64 t.order, .int .i64 t.age] 26)).size)).mono ?_
  rintro e w4 ⟨rfl, hb⟩
  clear X0c0 X0f0 X0c1 X0f1 X0c2 X0f2 X0c3 X0f3 X0c4 X0f4 X0c5 X0f5 X0c6 X0f6 X0c7 X0f7 X0c8 X0f8 X0c9 X0f9 X0c10 X0f10 X0c11 X0f11 X0z X1c0 X1f0 X1z X2c0 X2f0 X2c1 X2f1 X2c2 X2f2 X2c3 X2f3 X2c4 X2f4 X2c5 X2f5 X2z X3c0 X3f0 X3c1 X3f1 X3z
  have B0 := ((Box.newAt (w := w3) (n := w3.heap.size) [.int .i64 t.level, .int .i64 t.position, .int .i64 t.p0, .int .i64 t.p1, .int .i64 t.order, .int .i64 t.age] 26 (by simp))).later hb
  have X0 := ((X0.alloc (.cells #[.int .i64 t.level, .int .i64 t.position, .int .i64 t.p0, .int .i64 t.p1, .int .i64 t.order, .int .i64 t.age] 26))).later hb
  have X1 := ((X1.alloc (.cells #[.int .i64 t.level, .int .i64 t.position, .int .i64 t.p0, .int .i64 t.p1, .int .i64 t.order, .int .i64 t.age] 26))).later hb
  have X2 := ((X2.alloc (.cells #[.int .i64 t.level, .int .i64 t.position, .int .i64 t.p0, .int .i64 t.p1, .int .i64 t.order, .int .i64 t.age] 26))).later hb
  have X3 := ((X3.alloc (.cells #[.int .i64 t.level, .int .i64 t.position, .int .i64 t.p0, .int .i64 t.p1, .int .i64 t.order, .int .i64 t.age] 26))).later hb
  have hB := (hB.alloc hB.size (.cells #[.int .i64 t.level, .int .i64 t.position, .int .i64 t.p0, .int .i64 t.p1, .int .i64 t.order, .int .i64 t.age] 26)).trans (hb.mono (by have := hB.size; simp; omega))
  clear hb
  have B0c0 : w4.cell? ⟨w3.heap.size, 0, none⟩ = some (.int .i64 t.level) := B0.cell 0
  have B0f0 : w4.frozen? ⟨w3.heap.size, 0, none⟩ = false := B0.free 0
  have B0c1 : w4.cell? ⟨w3.heap.size, 1, none⟩ = some (.int .i64 t.position) := B0.cell 1
  have B0f1 : w4.frozen? ⟨w3.heap.size, 1, none⟩ = false := B0.free 1
  have B0c2 : w4.cell? ⟨w3.heap.size, 2, none⟩ = some (.int .i64 t.p0) := B0.cell 2
  have B0f2 : w4.frozen? ⟨w3.heap.size, 2, none⟩ = false := B0.free 2
  have B0c3 : w4.cell? ⟨w3.heap.size, 3, none⟩ = some (.int .i64 t.p1) := B0.cell 3
  have B0f3 : w4.frozen? ⟨w3.heap.size, 3, none⟩ = false := B0.free 3
  have B0c4 : w4.cell? ⟨w3.heap.size, 4, none⟩ = some (.int .i64 t.order) := B0.cell 4
  have B0f4 : w4.frozen? ⟨w3.heap.size, 4, none⟩ = false := B0.free 4
  have B0c5 : w4.cell? ⟨w3.heap.size, 5, none⟩ = some (.int .i64 t.age) := B0.cell 5
  have B0f5 : w4.frozen? ⟨w3.heap.size, 5, none⟩ = false := B0.free 5
  have B0z : w3.heap.size < w4.heap.size := B0.lt
  go_wp2
  go_ret
  exact ⟨rfl, hB.alloc hB.size _⟩

theorem law_PlantNextSpec (p : Pl) (code : List Ln) (V : Value) (s : St) (x : Sh) (w : World) (hC : CodeAt w w.heap.size V code) : Calls Try.prog 4 #[p.v, .agg #[V], s.v, x.v] w fun e w' => e = .returned (.bool true) ∧ Below w.heap.size w w' := by
  rcases hf : fewB code with _ | _
  · exact law4_no p code V s x w hC hf
  · exact law4_yes p code V s x w hC hf _ _ _ rfl

end Go.Proofs.Ytakjalapninndaa
