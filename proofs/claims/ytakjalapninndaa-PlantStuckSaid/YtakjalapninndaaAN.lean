/-
  Law 8 of chapter 32: PlantStuck. (Printed by gen_x8.py.)
-/
import Derived.Test.YtakjalapninndaaAM
import Derived.Deep.RegionHeld3
import Derived.Deep.DeepCutAuto
namespace Go.Proofs.Ytakjalapninndaa
open Go.RowKit

set_option maxRecDepth 100000 in
set_option maxHeartbeats 8000000 in
theorem law8_no (p : Pl) (code : List Ln) (A : Option Addr) (n c : Nat) (s : St) (x : Sh) (m : Int) (w : World) (hC : Hid (CodeAt w w.heap.size (.slice A n c) code)) (_hV : SlForm (.slice A n c)) (_hn : Hid (code.length = n)) (hf : Hid (fewB code = false)) : Calls Try.prog 8 #[p.v, .agg #[.slice A n c], s.v, x.v, .int .u8 m] w fun e w' => e = .returned (.bool true) ∧ Below w.heap.size w w' := by
  go_enter Try.func8, Try.ntmps8
  go_wp2_with fail
  refine (sane_any _).mono ?_
  rintro e w1 ⟨rfl, hb⟩
  have X0 := (((((Box.newAt (n := w.heap.size) [.int .i64 p.top, .int .i64 p.bank, .int .i64 p.siphon, .int .i64 p.start, .int .i64 p.positions, .int .i64 p.rate, .int .i64 p.step, .int .i64 p.pass, .int .i64 p.feed, .int .i64 p.pipe, .int .i64 p.orders, .int .i64 p.age] 23 (by simp)).alloc _).alloc _).alloc _)).later hb
  have X1 := ((((Box.newAt (n := w.heap.size + 1) [.slice A n c] 39 (by simp)).alloc _).alloc _)).later hb
  have X2 := (((Box.newAt (n := w.heap.size + 1 + 1) [.int .i64 s.level, .int .i64 s.position, .int .i64 s.p0, .int .i64 s.p1, .int .i64 s.order, .int .i64 s.age] 26 (by simp)).alloc _)).later hb
  have X3 := ((Box.newAt (n := w.heap.size + 1 + 1 + 1) [.int .i64 x.feed, .int .i64 x.msg] 41 (by simp))).later hb
  have hB : Below w.heap.size w w1 := ((((((Below.refl w.heap.size w).alloc (by simp <;> omega) _).alloc (by simp <;> omega) _).alloc (by simp <;> omega) _).alloc (by simp <;> omega) _)).trans (hb.mono (by simp <;> omega))
  clear hb
  have X1c0 : w1.cell? ⟨w.heap.size + 1, 0, none⟩ = some (.slice A n c) := X1.cell 0
  have X1f0 : w1.frozen? ⟨w.heap.size + 1, 0, none⟩ = false := X1.free 0
  have X1z : w.heap.size + 1 < w1.heap.size := X1.lt
  go_wp2_with fail
  refine (gfew_at hf ((hC.out.below hB).more hB.size)).mono ?_
  rintro e w2 ⟨rfl, hb⟩
  clear X1c0 X1f0 X1z
  have X0 := X0.later hb
  have X1 := X1.later hb
  have X2 := X2.later hb
  have X3 := X3.later hb
  have hB := hB.trans (hb.mono hB.size)
  clear hb
  go_wp2
  go_ret
  exact ⟨rfl, hB⟩

set_option maxRecDepth 100000 in
set_option maxHeartbeats 8000000 in
theorem law8_long (p : Pl) (code : List Ln) (A : Option Addr) (n c : Nat) (s : St) (x : Sh) (m : Int) (w : World) (hC : Hid (CodeAt w w.heap.size (.slice A n c) code)) (_hV : SlForm (.slice A n c)) (_hn : Hid (code.length = n)) (hf : Hid (fewB code = true)) (_hm : (60 : Int) < (n : Int)) : Calls Try.prog 8 #[p.v, .agg #[.slice A n c], s.v, x.v, .int .u8 m] w fun e w' => e = .returned (.bool true) ∧ Below w.heap.size w w' := by
  go_enter Try.func8, Try.ntmps8
  go_wp2_with fail
  refine (sane_any _).mono ?_
  rintro e w1 ⟨rfl, hb⟩
  have X0 := (((((Box.newAt (n := w.heap.size) [.int .i64 p.top, .int .i64 p.bank, .int .i64 p.siphon, .int .i64 p.start, .int .i64 p.positions, .int .i64 p.rate, .int .i64 p.step, .int .i64 p.pass, .int .i64 p.feed, .int .i64 p.pipe, .int .i64 p.orders, .int .i64 p.age] 23 (by simp)).alloc _).alloc _).alloc _)).later hb
  have X1 := ((((Box.newAt (n := w.heap.size + 1) [.slice A n c] 39 (by simp)).alloc _).alloc _)).later hb
  have X2 := (((Box.newAt (n := w.heap.size + 1 + 1) [.int .i64 s.level, .int .i64 s.position, .int .i64 s.p0, .int .i64 s.p1, .int .i64 s.order, .int .i64 s.age] 26 (by simp)).alloc _)).later hb
  have X3 := ((Box.newAt (n := w.heap.size + 1 + 1 + 1) [.int .i64 x.feed, .int .i64 x.msg] 41 (by simp))).later hb
  have hB : Below w.heap.size w w1 := ((((((Below.refl w.heap.size w).alloc (by simp <;> omega) _).alloc (by simp <;> omega) _).alloc (by simp <;> omega) _).alloc (by simp <;> omega) _)).trans (hb.mono (by simp <;> omega))
  clear hb
  have X1c0 : w1.cell? ⟨w.heap.size + 1, 0, none⟩ = some (.slice A n c) := X1.cell 0
  have X1f0 : w1.frozen? ⟨w.heap.size + 1, 0, none⟩ = false := X1.free 0
  have X1z : w.heap.size + 1 < w1.heap.size := X1.lt
  go_wp2_with fail
  refine (gfew_at hf ((hC.out.below hB).more hB.size)).mono ?_
  rintro e w2 ⟨rfl, hb⟩
  clear X1c0 X1f0 X1z
  have X0 := X0.later hb
  have X1 := X1.later hb
  have X2 := X2.later hb
  have X3 := X3.later hb
  have hB := hB.trans (hb.mono hB.size)
  clear hb
  have X1c0 : w2.cell? ⟨w.heap.size + 1, 0, none⟩ = some (.slice A n c) := X1.cell 0
  have X1f0 : w2.frozen? ⟨w.heap.size + 1, 0, none⟩ = false := X1.free 0
  have X1z : w.heap.size + 1 < w2.heap.size := X1.lt
  go_wp2
  go_ret
  exact ⟨rfl, hB⟩

set_option maxRecDepth 100000 in
set_option maxHeartbeats 8000000 in
theorem law8_bada (p : Pl) (code : List Ln) (A : Option Addr) (n c : Nat) (s : St) (x : Sh) (m : Int) (w : World) (hC : Hid (CodeAt w w.heap.size (.slice A n c) code)) (hV : SlForm (.slice A n c)) (hn : Hid (code.length = n)) (hf : Hid (fewB code = true)) (_hm : (n : Int) ≤ 60) (_m1 : 0 ≤ m) (_m2 : m ≤ 255) (t0 : St) (o0 : Int) (er0 : Int) (_he1 : (er0 == 0) = false) (h0 : Hid (nextT p [] s x = (t0, o0, er0))) (t1 : St) (o1 : Int) (er1 er2 : Int) (t2 : St) (o2 : Int) (_hf1 : (er1 == 0) = false) (_hf2 : (er1 != 0) = true) (h1 : Hid (nextT p code s x = (t1, o1, er1))) (h2 : Hid (nextT p (⟨[⟨0, 1, 0⟩], m⟩ :: code) s x = (t2, o2, er2))) : Calls Try.prog 8 #[p.v, .agg #[.slice A n c], s.v, x.v, .int .u8 m] w fun e w' => e = .returned (.bool true) ∧ Below w.heap.size w w' := by
  go_enter Try.func8, Try.ntmps8
  go_wp2_with fail
  refine (sane_any _).mono ?_
  rintro e w1 ⟨rfl, hb⟩
  have X0 := (((((Box.newAt (n := w.heap.size) [.int .i64 p.top, .int .i64 p.bank, .int .i64 p.siphon, .int .i64 p.start, .int .i64 p.positions, .int .i64 p.rate, .int .i64 p.step, .int .i64 p.pass, .int .i64 p.feed, .int .i64 p.pipe, .int .i64 p.orders, .int .i64 p.age] 23 (by simp)).alloc _).alloc _).alloc _)).later hb
  have X1 := ((((Box.newAt (n := w.heap.size + 1) [.slice A n c] 39 (by simp)).alloc _).alloc _)).later hb
  have X2 := (((Box.newAt (n := w.heap.size + 1 + 1) [.int .i64 s.level, .int .i64 s.position, .int .i64 s.p0, .int .i64 s.p1, .int .i64 s.order, .int .i64 s.age] 26 (by simp)).alloc _)).later hb
  have X3 := ((Box.newAt (n := w.heap.size + 1 + 1 + 1) [.int .i64 x.feed, .int .i64 x.msg] 41 (by simp))).later hb
  have hB : Below w.heap.size w w1 := ((((((Below.refl w.heap.size w).alloc (by simp <;> omega) _).alloc (by simp <;> omega) _).alloc (by simp <;> omega) _).alloc (by simp <;> omega) _)).trans (hb.mono (by simp <;> omega))
  clear hb
  have X1c0 : w1.cell? ⟨w.heap.size + 1, 0, none⟩ = some (.slice A n c) := X1.cell 0
  have X1f0 : w1.frozen? ⟨w.heap.size + 1, 0, none⟩ = false := X1.free 0
  have X1z : w.heap.size + 1 < w1.heap.size := X1.lt
  go_wp2_with fail
  refine (gfew_at hf ((hC.out.below hB).more hB.size)).mono ?_
  rintro e w2 ⟨rfl, hb⟩
  clear X1c0 X1f0 X1z
  have X0 := X0.later hb
  have X1 := X1.later hb
  have X2 := X2.later hb
  have X3 := X3.later hb
  have hB := hB.trans (hb.mono hB.size)
  clear hb
  have X0c0 : w2.cell? ⟨w.heap.size, 0, none⟩ = some (.int .i64 p.top) := X0.cell 0
  have X0f0 : w2.frozen? ⟨w.heap.size, 0, none⟩ = false := X0.free 0
  have X0c1 : w2.cell? ⟨w.heap.size, 1, none⟩ = some (.int .i64 p.bank) := X0.cell 1
  have X0f1 : w2.frozen? ⟨w.heap.size, 1, none⟩ = false := X0.free 1
  have X0c2 : w2.cell? ⟨w.heap.size, 2, none⟩ = some (.int .i64 p.siphon) := X0.cell 2
  have X0f2 : w2.frozen? ⟨w.heap.size, 2, none⟩ = false := X0.free 2
  have X0c3 : w2.cell? ⟨w.heap.size, 3, none⟩ = some (.int .i64 p.start) := X0.cell 3
  have X0f3 : w2.frozen? ⟨w.heap.size, 3, none⟩ = false := X0.free 3
  have X0c4 : w2.cell? ⟨w.heap.size, 4, none⟩ = some (.int .i64 p.positions) := X0.cell 4
  have X0f4 : w2.frozen? ⟨w.heap.size, 4, none⟩ = false := X0.free 4
  have X0c5 : w2.cell? ⟨w.heap.size, 5, none⟩ = some (.int .i64 p.rate) := X0.cell 5
  have X0f5 : w2.frozen? ⟨w.heap.size, 5, none⟩ = false := X0.free 5
  have X0c6 : w2.cell? ⟨w.heap.size, 6, none⟩ = some (.int .i64 p.step) := X0.cell 6
  have X0f6 : w2.frozen? ⟨w.heap.size, 6, none⟩ = false := X0.free 6
  have X0c7 : w2.cell? ⟨w.heap.size, 7, none⟩ = some (.int .i64 p.pass) := X0.cell 7
  have X0f7 : w2.frozen? ⟨w.heap.size, 7, none⟩ = false := X0.free 7
  have X0c8 : w2.cell? ⟨w.heap.size, 8, none⟩ = some (.int .i64 p.feed) := X0.cell 8
  have X0f8 : w2.frozen? ⟨w.heap.size, 8, none⟩ = false := X0.free 8
  have X0c9 : w2.cell? ⟨w.heap.size, 9, none⟩ = some (.int .i64 p.pipe) := X0.cell 9
  have X0f9 : w2.frozen? ⟨w.heap.size, 9, none⟩ = false := X0.free 9
  have X0c10 : w2.cell? ⟨w.heap.size, 10, none⟩ = some (.int .i64 p.orders) := X0.cell 10
  have X0f10 : w2.frozen? ⟨w.heap.size, 10, none⟩ = false := X0.free 10
  have X0c11 : w2.cell? ⟨w.heap.size, 11, none⟩ = some (.int .i64 p.age) := X0.cell 11
  have X0f11 : w2.frozen? ⟨w.heap.size, 11, none⟩ = false := X0.free 11
  have X0z : w.heap.size < w2.heap.size := X0.lt
  have X1c0 : w2.cell? ⟨w.heap.size + 1, 0, none⟩ = some (.slice A n c) := X1.cell 0
  have X1f0 : w2.frozen? ⟨w.heap.size + 1, 0, none⟩ = false := X1.free 0
  have X1z : w.heap.size + 1 < w2.heap.size := X1.lt
  have X2c0 : w2.cell? ⟨w.heap.size + 1 + 1, 0, none⟩ = some (.int .i64 s.level) := X2.cell 0
  have X2f0 : w2.frozen? ⟨w.heap.size + 1 + 1, 0, none⟩ = false := X2.free 0
  have X2c1 : w2.cell? ⟨w.heap.size + 1 + 1, 1, none⟩ = some (.int .i64 s.position) := X2.cell 1
  have X2f1 : w2.frozen? ⟨w.heap.size + 1 + 1, 1, none⟩ = false := X2.free 1
  have X2c2 : w2.cell? ⟨w.heap.size + 1 + 1, 2, none⟩ = some (.int .i64 s.p0) := X2.cell 2
  have X2f2 : w2.frozen? ⟨w.heap.size + 1 + 1, 2, none⟩ = false := X2.free 2
  have X2c3 : w2.cell? ⟨w.heap.size + 1 + 1, 3, none⟩ = some (.int .i64 s.p1) := X2.cell 3
  have X2f3 : w2.frozen? ⟨w.heap.size + 1 + 1, 3, none⟩ = false := X2.free 3
  have X2c4 : w2.cell? ⟨w.heap.size + 1 + 1, 4, none⟩ = some (.int .i64 s.order) := X2.cell 4
  have X2f4 : w2.frozen? ⟨w.heap.size + 1 + 1, 4, none⟩ = false := X2.free 4
  have X2c5 : w2.cell? ⟨w.heap.size + 1 + 1, 5, none⟩ = some (.int .i64 s.age) := X2.cell 5
  have X2f5 : w2.frozen? ⟨w.heap.size + 1 + 1, 5, none⟩ = false := X2.free 5
  have X2z : w.heap.size + 1 + 1 < w2.heap.size := X2.lt
  have X3c0 : w2.cell? ⟨w.heap.size + 1 + 1 + 1, 0, none⟩ = some (.int .i64 x.feed) := X3.cell 0
  have X3f0 : w2.frozen? ⟨w.heap.size + 1 + 1 + 1, 0, none⟩ = false := X3.free 0
  have X3c1 : w2.cell? ⟨w.heap.size + 1 + 1 + 1, 1, none⟩ = some (.int .i64 x.msg) := X3.cell 1
  have X3f1 : w2.frozen? ⟨w.heap.size + 1 + 1 + 1, 1, none⟩ = false := X3.free 1
  have X3z : w.heap.size + 1 + 1 + 1 < w2.heap.size := X3.lt
  go_wp2_with fail
  refine (next_is h0 (codeAt_nil _ _)).mono ?_
  rintro e w3 ⟨rfl, hb⟩
  clear X0c0 X0f0 X0c1 X0f1 X0c2 X0f2 X0c3 X0f3 X0c4 X0f4 X0c5 X0f5 X0c6 X0f6 X0c7 X0f7 X0c8 X0f8 X0c9 X0f9 X0c10 X0f10 X0c11 X0f11 X0z X1c0 X1f0 X1z X2c0 X2f0 X2c1 X2f1 X2c2 X2f2 X2c3 X2f3 X2c4 X2f4 X2c5 X2f5 X2z X3c0 X3f0 X3c1 X3f1 X3z
  have X0 := X0.later hb
  have X1 := X1.later hb
  have X2 := X2.later hb
  have X3 := X3.later hb
  have hB := hB.trans (hb.mono hB.size)
  clear hb
  have X0c0 : w3.cell? ⟨w.heap.size, 0, none⟩ = some (.int .i64 p.top) := X0.cell 0
  have X0f0 : w3.frozen? ⟨w.heap.size, 0, none⟩ = false := X0.free 0
  have X0c1 : w3.cell? ⟨w.heap.size, 1, none⟩ = some (.int .i64 p.bank) := X0.cell 1
  have X0f1 : w3.frozen? ⟨w.heap.size, 1, none⟩ = false := X0.free 1
  have X0c2 : w3.cell? ⟨w.heap.size, 2, none⟩ = some (.int .i64 p.siphon) := X0.cell 2
  have X0f2 : w3.frozen? ⟨w.heap.size, 2, none⟩ = false := X0.free 2
  have X0c3 : w3.cell? ⟨w.heap.size, 3, none⟩ = some (.int .i64 p.start) := X0.cell 3
  have X0f3 : w3.frozen? ⟨w.heap.size, 3, none⟩ = false := X0.free 3
  have X0c4 : w3.cell? ⟨w.heap.size, 4, none⟩ = some (.int .i64 p.positions) := X0.cell 4
  have X0f4 : w3.frozen? ⟨w.heap.size, 4, none⟩ = false := X0.free 4
  have X0c5 : w3.cell? ⟨w.heap.size, 5, none⟩ = some (.int .i64 p.rate) := X0.cell 5
  have X0f5 : w3.frozen? ⟨w.heap.size, 5, none⟩ = false := X0.free 5
  have X0c6 : w3.cell? ⟨w.heap.size, 6, none⟩ = some (.int .i64 p.step) := X0.cell 6
  have X0f6 : w3.frozen? ⟨w.heap.size, 6, none⟩ = false := X0.free 6
  have X0c7 : w3.cell? ⟨w.heap.size, 7, none⟩ = some (.int .i64 p.pass) := X0.cell 7
  have X0f7 : w3.frozen? ⟨w.heap.size, 7, none⟩ = false := X0.free 7
  have X0c8 : w3.cell? ⟨w.heap.size, 8, none⟩ = some (.int .i64 p.feed) := X0.cell 8
  have X0f8 : w3.frozen? ⟨w.heap.size, 8, none⟩ = false := X0.free 8
  have X0c9 : w3.cell? ⟨w.heap.size, 9, none⟩ = some (.int .i64 p.pipe) := X0.cell 9
  have X0f9 : w3.frozen? ⟨w.heap.size, 9, none⟩ = false := X0.free 9
  have X0c10 : w3.cell? ⟨w.heap.size, 10, none⟩ = some (.int .i64 p.orders) := X0.cell 10
  have X0f10 : w3.frozen? ⟨w.heap.size, 10, none⟩ = false := X0.free 10
  have X0c11 : w3.cell? ⟨w.heap.size, 11, none⟩ = some (.int .i64 p.age) := X0.cell 11
  have X0f11 : w3.frozen? ⟨w.heap.size, 11, none⟩ = false := X0.free 11
  have X0z : w.heap.size < w3.heap.size := X0.lt
  have X1c0 : w3.cell? ⟨w.heap.size + 1, 0, none⟩ = some (.slice A n c) := X1.cell 0
  have X1f0 : w3.frozen? ⟨w.heap.size + 1, 0, none⟩ = false := X1.free 0
  have X1z : w.heap.size + 1 < w3.heap.size := X1.lt
  have X2c0 : w3.cell? ⟨w.heap.size + 1 + 1, 0, none⟩ = some (.int .i64 s.level) := X2.cell 0
  have X2f0 : w3.frozen? ⟨w.heap.size + 1 + 1, 0, none⟩ = false := X2.free 0
  have X2c1 : w3.cell? ⟨w.heap.size + 1 + 1, 1, none⟩ = some (.int .i64 s.position) := X2.cell 1
  have X2f1 : w3.frozen? ⟨w.heap.size + 1 + 1, 1, none⟩ = false := X2.free 1
  have X2c2 : w3.cell? ⟨w.heap.size + 1 + 1, 2, none⟩ = some (.int .i64 s.p0) := X2.cell 2
  have X2f2 : w3.frozen? ⟨w.heap.size + 1 + 1, 2, none⟩ = false := X2.free 2
  have X2c3 : w3.cell? ⟨w.heap.size + 1 + 1, 3, none⟩ = some (.int .i64 s.p1) := X2.cell 3
  have X2f3 : w3.frozen? ⟨w.heap.size + 1 + 1, 3, none⟩ = false := X2.free 3
  have X2c4 : w3.cell? ⟨w.heap.size + 1 + 1, 4, none⟩ = some (.int .i64 s.order) := X2.cell 4
  have X2f4 : w3.frozen? ⟨w.heap.size + 1 + 1, 4, none⟩ = false := X2.free 4
  have X2c5 : w3.cell? ⟨w.heap.size + 1 + 1, 5, none⟩ = some (.int .i64 s.age) := X2.cell 5
  have X2f5 : w3.frozen? ⟨w.heap.size + 1 + 1, 5, none⟩ = false := X2.free 5
  have X2z : w.heap.size + 1 + 1 < w3.heap.size := X2.lt
  have X3c0 : w3.cell? ⟨w.heap.size + 1 + 1 + 1, 0, none⟩ = some (.int .i64 x.feed) := X3.cell 0
  have X3f0 : w3.frozen? ⟨w.heap.size + 1 + 1 + 1, 0, none⟩ = false := X3.free 0
  have X3c1 : w3.cell? ⟨w.heap.size + 1 + 1 + 1, 1, none⟩ = some (.int .i64 x.msg) := X3.cell 1
  have X3f1 : w3.frozen? ⟨w.heap.size + 1 + 1 + 1, 1, none⟩ = false := X3.free 1
  have X3z : w.heap.size + 1 + 1 + 1 < w3.heap.size := X3.lt
  have zz1p : w.heap.size < w3.heap.size + 1 := by omega
  have zz1c : w.heap.size + 1 < w3.heap.size + 1 := by omega
  have zz1s : w.heap.size + 1 + 1 < w3.heap.size + 1 := by omega
  have zz1x : w.heap.size + 1 + 1 + 1 < w3.heap.size + 1 := by omega
  have zz2p : w.heap.size < w3.heap.size + 1 + 1 := by omega
  have zz2c : w.heap.size + 1 < w3.heap.size + 1 + 1 := by omega
  have zz2s : w.heap.size + 1 + 1 < w3.heap.size + 1 + 1 := by omega
  have zz2x : w.heap.size + 1 + 1 + 1 < w3.heap.size + 1 + 1 := by omega
  have zz3p : w.heap.size < w3.heap.size + 1 + 1 + 1 := by omega
  have zz3c : w.heap.size + 1 < w3.heap.size + 1 + 1 + 1 := by omega
  have zz3s : w.heap.size + 1 + 1 < w3.heap.size + 1 + 1 + 1 := by omega
  have zz3x : w.heap.size + 1 + 1 + 1 < w3.heap.size + 1 + 1 + 1 := by omega
  go_wp2_with fail
  clear zz1p zz1c zz1s zz1x zz2p zz2c zz2s zz2x zz3p zz3c zz3s zz3x
  clear X0c0 X0f0 X0c1 X0f1 X0c2 X0f2 X0c3 X0f3 X0c4 X0f4 X0c5 X0f5 X0c6 X0f6 X0c7 X0f7 X0c8 X0f8 X0c9 X0f9 X0c10 X0f10 X0c11 X0f11 X0z X1c0 X1f0 X1z X2c0 X2f0 X2c1 X2f1 X2c2 X2f2 X2c3 X2f3 X2c4 X2f4 X2c5 X2f5 X2z X3c0 X3f0 X3c1 X3f1 X3z
  have X0 := ((((X0.alloc (.cells #[.int .i64 t0.level, .int .i64 t0.position, .int .i64 t0.p0, .int .i64 t0.p1, .int .i64 t0.order, .int .i64 t0.age] 26)).alloc (.cells #[.slice none 0 0, .int .i64 m] 53)).alloc (.cells #[.int .i64 0, .int .i64 1, .int .i64 0] 55)).alloc (.cells #[.slice (some ⟨w3.heap.size + 1 + 1, 0, none⟩) 1 1, .int .i64 m] 53))
  have X1 := ((((X1.alloc (.cells #[.int .i64 t0.level, .int .i64 t0.position, .int .i64 t0.p0, .int .i64 t0.p1, .int .i64 t0.order, .int .i64 t0.age] 26)).alloc (.cells #[.slice none 0 0, .int .i64 m] 53)).alloc (.cells #[.int .i64 0, .int .i64 1, .int .i64 0] 55)).alloc (.cells #[.slice (some ⟨w3.heap.size + 1 + 1, 0, none⟩) 1 1, .int .i64 m] 53))
  have X2 := ((((X2.alloc (.cells #[.int .i64 t0.level, .int .i64 t0.position, .int .i64 t0.p0, .int .i64 t0.p1, .int .i64 t0.order, .int .i64 t0.age] 26)).alloc (.cells #[.slice none 0 0, .int .i64 m] 53)).alloc (.cells #[.int .i64 0, .int .i64 1, .int .i64 0] 55)).alloc (.cells #[.slice (some ⟨w3.heap.size + 1 + 1, 0, none⟩) 1 1, .int .i64 m] 53))
  have X3 := ((((X3.alloc (.cells #[.int .i64 t0.level, .int .i64 t0.position, .int .i64 t0.p0, .int .i64 t0.p1, .int .i64 t0.order, .int .i64 t0.age] 26)).alloc (.cells #[.slice none 0 0, .int .i64 m] 53)).alloc (.cells #[.int .i64 0, .int .i64 1, .int .i64 0] 55)).alloc (.cells #[.slice (some ⟨w3.heap.size + 1 + 1, 0, none⟩) 1 1, .int .i64 m] 53))
  have B0 := ((((Box.newAt (w := w3) (n := w3.heap.size) [.int .i64 t0.level, .int .i64 t0.position, .int .i64 t0.p0, .int .i64 t0.p1, .int .i64 t0.order, .int .i64 t0.age] 26 (by simp)).alloc (.cells #[.slice none 0 0, .int .i64 m] 53)).alloc (.cells #[.int .i64 0, .int .i64 1, .int .i64 0] 55)).alloc (.cells #[.slice (some ⟨w3.heap.size + 1 + 1, 0, none⟩) 1 1, .int .i64 m] 53))
  have AL := (((Box.newAt (w := (w3.alloc (.cells #[.int .i64 t0.level, .int .i64 t0.position, .int .i64 t0.p0, .int .i64 t0.p1, .int .i64 t0.order, .int .i64 t0.age] 26))) (n := w3.heap.size + 1) [.slice none 0 0, .int .i64 m] 53 (by simp)).alloc (.cells #[.int .i64 0, .int .i64 1, .int .i64 0] 55)).alloc (.cells #[.slice (some ⟨w3.heap.size + 1 + 1, 0, none⟩) 1 1, .int .i64 m] 53))
  have NC := ((Box.newAt (w := ((w3.alloc (.cells #[.int .i64 t0.level, .int .i64 t0.position, .int .i64 t0.p0, .int .i64 t0.p1, .int .i64 t0.order, .int .i64 t0.age] 26)).alloc (.cells #[.slice none 0 0, .int .i64 m] 53))) (n := w3.heap.size + 1 + 1) [.int .i64 0, .int .i64 1, .int .i64 0] 55 (by simp)).alloc (.cells #[.slice (some ⟨w3.heap.size + 1 + 1, 0, none⟩) 1 1, .int .i64 m] 53))
  have NL := (Box.newAt (w := (((w3.alloc (.cells #[.int .i64 t0.level, .int .i64 t0.position, .int .i64 t0.p0, .int .i64 t0.p1, .int .i64 t0.order, .int .i64 t0.age] 26)).alloc (.cells #[.slice none 0 0, .int .i64 m] 53)).alloc (.cells #[.int .i64 0, .int .i64 1, .int .i64 0] 55))) (n := w3.heap.size + 1 + 1 + 1) [.slice (some ⟨w3.heap.size + 1 + 1, 0, none⟩) 1 1, .int .i64 m] 53 (by simp))
  have hB := ((((hB.alloc hB.size (.cells #[.int .i64 t0.level, .int .i64 t0.position, .int .i64 t0.p0, .int .i64 t0.p1, .int .i64 t0.order, .int .i64 t0.age] 26)).alloc (by have := hB.size; simp; omega) (.cells #[.slice none 0 0, .int .i64 m] 53)).alloc (by have := hB.size; simp; omega) (.cells #[.int .i64 0, .int .i64 1, .int .i64 0] 55)).alloc (by have := hB.size; simp; omega) (.cells #[.slice (some ⟨w3.heap.size + 1 + 1, 0, none⟩) 1 1, .int .i64 m] 53))
  generalize ((((w3.alloc (.cells #[.int .i64 t0.level, .int .i64 t0.position, .int .i64 t0.p0, .int .i64 t0.p1, .int .i64 t0.order, .int .i64 t0.age] 26)).alloc (.cells #[.slice none 0 0, .int .i64 m] 53)).alloc (.cells #[.int .i64 0, .int .i64 1, .int .i64 0] 55)).alloc (.cells #[.slice (some ⟨w3.heap.size + 1 + 1, 0, none⟩) 1 1, .int .i64 m] 53)) = w4 at hB X0 X1 X2 X3 B0 AL NC NL ⊢
  refine (next_is h1 ((hC.out.below hB).more hB.size)).mono ?_
  rintro e w5 ⟨rfl, hb⟩
  have X0 := X0.later hb
  have X1 := X1.later hb
  have X2 := X2.later hb
  have X3 := X3.later hb
  have B0 := B0.later hb
  have AL := AL.later hb
  have NC := NC.later hb
  have NL := NL.later hb
  have hB := hB.trans (hb.mono hB.size)
  clear hb
  go_upto_region 11 with fail
  have nX0A0 : w.heap.size ≠ w5.heap.size := Nat.ne_of_lt (by have := X0.lt; omega)
  have nX1A0 : w.heap.size + 1 ≠ w5.heap.size := Nat.ne_of_lt (by have := X1.lt; omega)
  have nX2A0 : w.heap.size + 1 + 1 ≠ w5.heap.size := Nat.ne_of_lt (by have := X2.lt; omega)
  have nX3A0 : w.heap.size + 1 + 1 + 1 ≠ w5.heap.size := Nat.ne_of_lt (by have := X3.lt; omega)
  have nB0A0 : w3.heap.size ≠ w5.heap.size := Nat.ne_of_lt (by have := B0.lt; omega)
  have nALA0 : w3.heap.size + 1 ≠ w5.heap.size := Nat.ne_of_lt (by have := AL.lt; omega)
  have nNCA0 : w3.heap.size + 1 + 1 ≠ w5.heap.size := Nat.ne_of_lt (by have := NC.lt; omega)
  have nNLA0 : w3.heap.size + 1 + 1 + 1 ≠ w5.heap.size := Nat.ne_of_lt (by have := NL.lt; omega)
  have gA0 : w.heap.size ≤ w5.heap.size := by have := hB.size; omega
  have X0 := (X0.alloc (.cells #[.int .i64 t1.level, .int .i64 t1.position, .int .i64 t1.p0, .int .i64 t1.p1, .int .i64 t1.order, .int .i64 t1.age] 26))
  have X1 := (X1.alloc (.cells #[.int .i64 t1.level, .int .i64 t1.position, .int .i64 t1.p0, .int .i64 t1.p1, .int .i64 t1.order, .int .i64 t1.age] 26))
  have X2 := (X2.alloc (.cells #[.int .i64 t1.level, .int .i64 t1.position, .int .i64 t1.p0, .int .i64 t1.p1, .int .i64 t1.order, .int .i64 t1.age] 26))
  have X3 := (X3.alloc (.cells #[.int .i64 t1.level, .int .i64 t1.position, .int .i64 t1.p0, .int .i64 t1.p1, .int .i64 t1.order, .int .i64 t1.age] 26))
  have B0 := (B0.alloc (.cells #[.int .i64 t1.level, .int .i64 t1.position, .int .i64 t1.p0, .int .i64 t1.p1, .int .i64 t1.order, .int .i64 t1.age] 26))
  have AL := (AL.alloc (.cells #[.int .i64 t1.level, .int .i64 t1.position, .int .i64 t1.p0, .int .i64 t1.p1, .int .i64 t1.order, .int .i64 t1.age] 26))
  have NC := (NC.alloc (.cells #[.int .i64 t1.level, .int .i64 t1.position, .int .i64 t1.p0, .int .i64 t1.p1, .int .i64 t1.order, .int .i64 t1.age] 26))
  have NL := (NL.alloc (.cells #[.int .i64 t1.level, .int .i64 t1.position, .int .i64 t1.p0, .int .i64 t1.p1, .int .i64 t1.order, .int .i64 t1.age] 26))
  have A0 := (Box.newAt (w := w5) (n := w5.heap.size) [.int .i64 t1.level, .int .i64 t1.position, .int .i64 t1.p0, .int .i64 t1.p1, .int .i64 t1.order, .int .i64 t1.age] 26 (by simp))
  have hB := (hB.alloc hB.size (.cells #[.int .i64 t1.level, .int .i64 t1.position, .int .i64 t1.p0, .int .i64 t1.p1, .int .i64 t1.order, .int .i64 t1.age] 26))
  generalize (w5.alloc (.cells #[.int .i64 t1.level, .int .i64 t1.position, .int .i64 t1.p0, .int .i64 t1.p1, .int .i64 t1.order, .int .i64 t1.age] 26)) = w6 at hB X0 X1 X2 X3 B0 AL NC NL A0 ⊢
  go_cut [19, 20, 21] (fun s19 s20 s21 wx => ∃ g : Nat, s19 = .pointer (some ⟨g, 0, none⟩) ∧ s20 = .int .i64 o2 ∧ s21 = .int .i64 er2 ∧ w6.heap.size ≤ g ∧ Box wx g [.int .i64 t2.level, .int .i64 t2.position, .int .i64 t2.p0, .int .i64 t2.p1, .int .i64 t2.order, .int .i64 t2.age] ∧ Below w6.heap.size w6 wx)
  case first =>
    have KEEP : ∀ z, Below w6.heap.size w6 z → z.cell? ⟨w.heap.size, 0, none⟩ = some (.int .i64 p.top) ∧ z.cell? ⟨w.heap.size, 1, none⟩ = some (.int .i64 p.bank) ∧ z.cell? ⟨w.heap.size, 2, none⟩ = some (.int .i64 p.siphon) ∧ z.cell? ⟨w.heap.size, 3, none⟩ = some (.int .i64 p.start) ∧ z.cell? ⟨w.heap.size, 4, none⟩ = some (.int .i64 p.positions) ∧ z.cell? ⟨w.heap.size, 5, none⟩ = some (.int .i64 p.rate) ∧ z.cell? ⟨w.heap.size, 6, none⟩ = some (.int .i64 p.step) ∧ z.cell? ⟨w.heap.size, 7, none⟩ = some (.int .i64 p.pass) ∧ z.cell? ⟨w.heap.size, 8, none⟩ = some (.int .i64 p.feed) ∧ z.cell? ⟨w.heap.size, 9, none⟩ = some (.int .i64 p.pipe) ∧ z.cell? ⟨w.heap.size, 10, none⟩ = some (.int .i64 p.orders) ∧ z.cell? ⟨w.heap.size, 11, none⟩ = some (.int .i64 p.age) ∧ z.cell? ⟨w.heap.size + 1, 0, none⟩ = some (.slice A n c) ∧ z.cell? ⟨w.heap.size + 1 + 1, 0, none⟩ = some (.int .i64 s.level) ∧ z.cell? ⟨w.heap.size + 1 + 1, 1, none⟩ = some (.int .i64 s.position) ∧ z.cell? ⟨w.heap.size + 1 + 1, 2, none⟩ = some (.int .i64 s.p0) ∧ z.cell? ⟨w.heap.size + 1 + 1, 3, none⟩ = some (.int .i64 s.p1) ∧ z.cell? ⟨w.heap.size + 1 + 1, 4, none⟩ = some (.int .i64 s.order) ∧ z.cell? ⟨w.heap.size + 1 + 1, 5, none⟩ = some (.int .i64 s.age) ∧ z.cell? ⟨w.heap.size + 1 + 1 + 1, 0, none⟩ = some (.int .i64 x.feed) ∧ z.cell? ⟨w.heap.size + 1 + 1 + 1, 1, none⟩ = some (.int .i64 x.msg) ∧ z.cell? ⟨w3.heap.size + 1 + 1 + 1, 0, none⟩ = some (.slice (some ⟨w3.heap.size + 1 + 1, 0, none⟩) 1 1) ∧ z.cell? ⟨w3.heap.size + 1 + 1 + 1, 1, none⟩ = some (.int .i64 m) := fun z hz => ⟨(hz.cell X0.lt).trans (X0.cell 0), (hz.cell X0.lt).trans (X0.cell 1), (hz.cell X0.lt).trans (X0.cell 2), (hz.cell X0.lt).trans (X0.cell 3), (hz.cell X0.lt).trans (X0.cell 4), (hz.cell X0.lt).trans (X0.cell 5), (hz.cell X0.lt).trans (X0.cell 6), (hz.cell X0.lt).trans (X0.cell 7), (hz.cell X0.lt).trans (X0.cell 8), (hz.cell X0.lt).trans (X0.cell 9), (hz.cell X0.lt).trans (X0.cell 10), (hz.cell X0.lt).trans (X0.cell 11), (hz.cell X1.lt).trans (X1.cell 0), (hz.cell X2.lt).trans (X2.cell 0), (hz.cell X2.lt).trans (X2.cell 1), (hz.cell X2.lt).trans (X2.cell 2), (hz.cell X2.lt).trans (X2.cell 3), (hz.cell X2.lt).trans (X2.cell 4), (hz.cell X2.lt).trans (X2.cell 5), (hz.cell X3.lt).trans (X3.cell 0), (hz.cell X3.lt).trans (X3.cell 1), (hz.cell NL.lt).trans (NL.cell 0), (hz.cell NL.lt).trans (NL.cell 1)⟩
    have HKEEP := Lib.hid KEEP
    clear KEEP
    have HC2 := Lib.hid ((hC.out.below hB).more hB.size)
    have HL2 : Hid (CondsAt w6 w6.heap.size (.slice (some ⟨w3.heap.size + 1 + 1, 0, none⟩) 1 1) [⟨0, 1, 0⟩]) := condsAt_one (c := ⟨0, 1, 0⟩) NC NC.lt
    have hzw := Below.refl w6.heap.size w6
    have hz : Below w6.heap.size w6 w6.drew := hzw.drew
    have hlen : code.length ≤ 60 := by rw [hn.out]; omega
    have HLEN := Lib.hid hlen
    clear hlen
    go_region_held3 (fun z => z.cell? ⟨w.heap.size, 0, none⟩ = some (.int .i64 p.top) ∧ z.cell? ⟨w.heap.size, 1, none⟩ = some (.int .i64 p.bank) ∧ z.cell? ⟨w.heap.size, 2, none⟩ = some (.int .i64 p.siphon) ∧ z.cell? ⟨w.heap.size, 3, none⟩ = some (.int .i64 p.start) ∧ z.cell? ⟨w.heap.size, 4, none⟩ = some (.int .i64 p.positions) ∧ z.cell? ⟨w.heap.size, 5, none⟩ = some (.int .i64 p.rate) ∧ z.cell? ⟨w.heap.size, 6, none⟩ = some (.int .i64 p.step) ∧ z.cell? ⟨w.heap.size, 7, none⟩ = some (.int .i64 p.pass) ∧ z.cell? ⟨w.heap.size, 8, none⟩ = some (.int .i64 p.feed) ∧ z.cell? ⟨w.heap.size, 9, none⟩ = some (.int .i64 p.pipe) ∧ z.cell? ⟨w.heap.size, 10, none⟩ = some (.int .i64 p.orders) ∧ z.cell? ⟨w.heap.size, 11, none⟩ = some (.int .i64 p.age) ∧ z.cell? ⟨w.heap.size + 1, 0, none⟩ = some (.slice A n c) ∧ z.cell? ⟨w.heap.size + 1 + 1, 0, none⟩ = some (.int .i64 s.level) ∧ z.cell? ⟨w.heap.size + 1 + 1, 1, none⟩ = some (.int .i64 s.position) ∧ z.cell? ⟨w.heap.size + 1 + 1, 2, none⟩ = some (.int .i64 s.p0) ∧ z.cell? ⟨w.heap.size + 1 + 1, 3, none⟩ = some (.int .i64 s.p1) ∧ z.cell? ⟨w.heap.size + 1 + 1, 4, none⟩ = some (.int .i64 s.order) ∧ z.cell? ⟨w.heap.size + 1 + 1, 5, none⟩ = some (.int .i64 s.age) ∧ z.cell? ⟨w.heap.size + 1 + 1 + 1, 0, none⟩ = some (.int .i64 x.feed) ∧ z.cell? ⟨w.heap.size + 1 + 1 + 1, 1, none⟩ = some (.int .i64 x.msg) ∧ z.cell? ⟨w3.heap.size + 1 + 1 + 1, 0, none⟩ = some (.slice (some ⟨w3.heap.size + 1 + 1, 0, none⟩) 1 1) ∧ z.cell? ⟨w3.heap.size + 1 + 1 + 1, 1, none⟩ = some (.int .i64 m))
      (first | (with_reducible exact HKEEP.out _ hz) | (with_reducible exact HKEEP.out _ (hzw.alloc (Nat.le_refl _) _).drew) | (with_reducible exact HKEEP.out _ ((hzw.alloc (Nat.le_refl _) _).alloc (by simp) _).drew) | (with_reducible exact HKEEP.out _ (hz.alloc hz.size _)) | (with_reducible exact HKEEP.out _ ((hz.alloc hz.size _).alloc (Nat.le_trans hz.size (by simp)) _)) | (with_reducible exact HKEEP.out _ (Below.six hz hDg _ _ _ _ _ _))  | (go_keep; done))
      (first
        | (refine step_prepend (W := w6) (B := w6.heap.size) (b := w6.heap.size) (lv := .slice (some ⟨w3.heap.size + 1 + 1, 0, none⟩) 1 1) (l := ⟨[⟨0, 1, 0⟩], m⟩) (by rfl) (.tmp 71) (.tmp 73) (by rfl) (by rfl) (by rfl) HC2.out hV HLEN.out HL2.out (hzw.alloc (Nat.le_refl _) (.cells #[.slice (some ⟨w3.heap.size + 1 + 1, 0, none⟩) 1 1, .int .i64 m] 53)).drew (by simp) (new_a _ _ _) ?_; intro A' n' c' z' HC3 hz hne)
        | (refine step_prepend (W := w6) (B := w6.heap.size) (b := w6.heap.size + 1) (lv := .slice (some ⟨w3.heap.size + 1 + 1, 0, none⟩) 1 1) (l := ⟨[⟨0, 1, 0⟩], m⟩) (by rfl) (.tmp 71) (.tmp 73) (by rfl) (by rfl) (by rfl) HC2.out hV HLEN.out HL2.out ((hzw.alloc (Nat.le_refl _) (.cells #[.int .i64 0, .int .i64 0, .int .i64 0, .int .i64 0, .int .i64 0, .int .i64 0] 26)).alloc (by simp) (.cells #[.slice (some ⟨w3.heap.size + 1 + 1, 0, none⟩) 1 1, .int .i64 m] 53)).drew (by simp) (new_b _ _ _ _) ?_; intro A' n' c' z' HC3 hz hne; have hDg : w6.heap.size ≤ w6.heap.size := Nat.le_refl _; have DZ : Box (z') (w6.heap.size) [.int .i64 0, .int .i64 0, .int .i64 0, .int .i64 0, .int .i64 0, .int .i64 0] := ((Box.newAt (w := w6) (n := w6.heap.size) [.int .i64 0, .int .i64 0, .int .i64 0, .int .i64 0, .int .i64 0, .int .i64 0] 26 rfl).alloc (.cells #[.slice (some ⟨w3.heap.size + 1 + 1, 0, none⟩) 1 1, .int .i64 m] 53)).drew.same (hne _ (by simp; omega) (by simp)))
        | (refine step_prepend (W := w6) (B := w6.heap.size) (b := w6.heap.size) (lv := .slice (some ⟨w3.heap.size + 1 + 1, 0, none⟩) 1 1) (l := ⟨[⟨0, 1, 0⟩], m⟩) (by rfl) (.tmp 71) (.tmp 73) (by rfl) (by rfl) (by rfl) HC2.out hV HLEN.out HL2.out ((hzw.alloc (Nat.le_refl _) (.cells #[.slice (some ⟨w3.heap.size + 1 + 1, 0, none⟩) 1 1, .int .i64 m] 53)).alloc (by simp) (.cells #[.int .i64 0, .int .i64 0, .int .i64 0, .int .i64 0, .int .i64 0, .int .i64 0] 26)).drew (by simp) (new_c _ _ _ _) ?_; intro A' n' c' z' HC3 hz hne; have hDg : w6.heap.size ≤ w6.heap.size + 1 := Nat.le_succ _; have DZ : Box (z') (w6.heap.size + 1) [.int .i64 0, .int .i64 0, .int .i64 0, .int .i64 0, .int .i64 0, .int .i64 0] := (Box.newAt (w := w6.alloc (.cells #[.slice (some ⟨w3.heap.size + 1 + 1, 0, none⟩) 1 1, .int .i64 m] 53)) (n := w6.heap.size + 1) [.int .i64 0, .int .i64 0, .int .i64 0, .int .i64 0, .int .i64 0, .int .i64 0] 26 (by simp)).drew.same (hne _ (by simp) (by simp)))
        | (go_simp; go_at_call 20; with_reducible refine (next_is h2 HC3).mono ?_; rintro e z4 ⟨rfl, hb4⟩; dsimp only; have hz : Below w6.heap.size w6 z4 := hz.trans (hb4.mono hz.size); try (have DZ := DZ.later hb4; obtain ⟨⟨dc0, dc1, dc2, dc3, dc4, dc5⟩, ⟨df0, df1, df2, df3, df4, df5⟩, dzz⟩ := DZ.six))
        | (go_simp; go_at_call 20; with_reducible refine (next_is h2 (HC3.later ((Below.refl _ _).alloc (Nat.le_refl _) (.cells #[.int .i64 0, .int .i64 0, .int .i64 0, .int .i64 0, .int .i64 0, .int .i64 0] 26)))).mono ?_; rintro e z4 ⟨rfl, hb4⟩; dsimp only; have hz0 := hz; have hz : Below w6.heap.size w6 z4 := (hz.alloc hz.size (.cells #[.int .i64 0, .int .i64 0, .int .i64 0, .int .i64 0, .int .i64 0, .int .i64 0] 26)).trans (hb4.mono (Nat.le_trans hz.size (by simp))); have DZ : Box (z4) (z'.heap.size) [.int .i64 0, .int .i64 0, .int .i64 0, .int .i64 0, .int .i64 0, .int .i64 0] := (Box.newAt (w := z') (n := z'.heap.size) [.int .i64 0, .int .i64 0, .int .i64 0, .int .i64 0, .int .i64 0, .int .i64 0] 26 rfl).later hb4; have hDg : w6.heap.size ≤ z'.heap.size := hz0.size; obtain ⟨⟨dc0, dc1, dc2, dc3, dc4, dc5⟩, ⟨df0, df1, df2, df3, df4, df5⟩, dzz⟩ := DZ.six))
    all_goals (go_wp2_with fail; go_meet)
    all_goals first | exact ⟨_, rfl, rfl, rfl, hz.size, Box.newAt _ _ rfl, hz.alloc hz.size _⟩ | exact ⟨_, rfl, rfl, rfl, hDg, Box.sixSet DZ _ _ _ _ _ _, Below.six hz hDg _ _ _ _ _ _⟩
  case rest =>
    obtain ⟨gB, rfl, rfl, rfl, hgB, BX, hb⟩ := hcut
    go_wp2
    go_ret
    exact ⟨rfl, hB.trans (hb.mono hB.size)⟩

set_option maxRecDepth 100000 in
set_option maxHeartbeats 8000000 in
theorem law8_badb (p : Pl) (code : List Ln) (A : Option Addr) (n c : Nat) (s : St) (x : Sh) (m : Int) (w : World) (hC : Hid (CodeAt w w.heap.size (.slice A n c) code)) (hV : SlForm (.slice A n c)) (hn : Hid (code.length = n)) (hf : Hid (fewB code = true)) (_hm : (n : Int) ≤ 60) (_m1 : 0 ≤ m) (_m2 : m ≤ 255) (l0 q0 q1 d0 a0 : Int) (o0 : Int)  (h0 : Hid (nextT p [] s x = ((⟨l0, s.position, q0, q1, d0, a0⟩ : St), o0, 0))) (t1 : St) (o1 : Int) (er1 er2 : Int) (t2 : St) (o2 : Int) (_hf1 : (er1 == 0) = false) (_hf2 : (er1 != 0) = true) (h1 : Hid (nextT p code s x = (t1, o1, er1))) (h2 : Hid (nextT p (⟨[⟨0, 1, 0⟩], m⟩ :: code) s x = (t2, o2, er2))) : Calls Try.prog 8 #[p.v, .agg #[.slice A n c], s.v, x.v, .int .u8 m] w fun e w' => e = .returned (.bool true) ∧ Below w.heap.size w w' := by
  go_enter Try.func8, Try.ntmps8
  go_wp2_with fail
  refine (sane_any _).mono ?_
  rintro e w1 ⟨rfl, hb⟩
  have X0 := (((((Box.newAt (n := w.heap.size) [.int .i64 p.top, .int .i64 p.bank, .int .i64 p.siphon, .int .i64 p.start, .int .i64 p.positions, .int .i64 p.rate, .int .i64 p.step, .int .i64 p.pass, .int .i64 p.feed, .int .i64 p.pipe, .int .i64 p.orders, .int .i64 p.age] 23 (by simp)).alloc _).alloc _).alloc _)).later hb
  have X1 := ((((Box.newAt (n := w.heap.size + 1) [.slice A n c] 39 (by simp)).alloc _).alloc _)).later hb
  have X2 := (((Box.newAt (n := w.heap.size + 1 + 1) [.int .i64 s.level, .int .i64 s.position, .int .i64 s.p0, .int .i64 s.p1, .int .i64 s.order, .int .i64 s.age] 26 (by simp)).alloc _)).later hb
  have X3 := ((Box.newAt (n := w.heap.size + 1 + 1 + 1) [.int .i64 x.feed, .int .i64 x.msg] 41 (by simp))).later hb
  have hB : Below w.heap.size w w1 := ((((((Below.refl w.heap.size w).alloc (by simp <;> omega) _).alloc (by simp <;> omega) _).alloc (by simp <;> omega) _).alloc (by simp <;> omega) _)).trans (hb.mono (by simp <;> omega))
  clear hb
  have X1c0 : w1.cell? ⟨w.heap.size + 1, 0, none⟩ = some (.slice A n c) := X1.cell 0
  have X1f0 : w1.frozen? ⟨w.heap.size + 1, 0, none⟩ = false := X1.free 0
  have X1z : w.heap.size + 1 < w1.heap.size := X1.lt
  go_wp2_with fail
  refine (gfew_at hf ((hC.out.below hB).more hB.size)).mono ?_
  rintro e w2 ⟨rfl, hb⟩
  clear X1c0 X1f0 X1z
  have X0 := X0.later hb
  have X1 := X1.later hb
  have X2 := X2.later hb
  have X3 := X3.later hb
  have hB := hB.trans (hb.mono hB.size)
  clear hb
  have X0c0 : w2.cell? ⟨w.heap.size, 0, none⟩ = some (.int .i64 p.top) := X0.cell 0
  have X0f0 : w2.frozen? ⟨w.heap.size, 0, none⟩ = false := X0.free 0
  have X0c1 : w2.cell? ⟨w.heap.size, 1, none⟩ = some (.int .i64 p.bank) := X0.cell 1
  have X0f1 : w2.frozen? ⟨w.heap.size, 1, none⟩ = false := X0.free 1
  have X0c2 : w2.cell? ⟨w.heap.size, 2, none⟩ = some (.int .i64 p.siphon) := X0.cell 2
  have X0f2 : w2.frozen? ⟨w.heap.size, 2, none⟩ = false := X0.free 2
  have X0c3 : w2.cell? ⟨w.heap.size, 3, none⟩ = some (.int .i64 p.start) := X0.cell 3
  have X0f3 : w2.frozen? ⟨w.heap.size, 3, none⟩ = false := X0.free 3
  have X0c4 : w2.cell? ⟨w.heap.size, 4, none⟩ = some (.int .i64 p.positions) := X0.cell 4
  have X0f4 : w2.frozen? ⟨w.heap.size, 4, none⟩ = false := X0.free 4
  have X0c5 : w2.cell? ⟨w.heap.size, 5, none⟩ = some (.int .i64 p.rate) := X0.cell 5
  have X0f5 : w2.frozen? ⟨w.heap.size, 5, none⟩ = false := X0.free 5
  have X0c6 : w2.cell? ⟨w.heap.size, 6, none⟩ = some (.int .i64 p.step) := X0.cell 6
  have X0f6 : w2.frozen? ⟨w.heap.size, 6, none⟩ = false := X0.free 6
  have X0c7 : w2.cell? ⟨w.heap.size, 7, none⟩ = some (.int .i64 p.pass) := X0.cell 7
  have X0f7 : w2.frozen? ⟨w.heap.size, 7, none⟩ = false := X0.free 7
  have X0c8 : w2.cell? ⟨w.heap.size, 8, none⟩ = some (.int .i64 p.feed) := X0.cell 8
  have X0f8 : w2.frozen? ⟨w.heap.size, 8, none⟩ = false := X0.free 8
  have X0c9 : w2.cell? ⟨w.heap.size, 9, none⟩ = some (.int .i64 p.pipe) := X0.cell 9
  have X0f9 : w2.frozen? ⟨w.heap.size, 9, none⟩ = false := X0.free 9
  have X0c10 : w2.cell? ⟨w.heap.size, 10, none⟩ = some (.int .i64 p.orders) := X0.cell 10
  have X0f10 : w2.frozen? ⟨w.heap.size, 10, none⟩ = false := X0.free 10
  have X0c11 : w2.cell? ⟨w.heap.size, 11, none⟩ = some (.int .i64 p.age) := X0.cell 11
  have X0f11 : w2.frozen? ⟨w.heap.size, 11, none⟩ = false := X0.free 11
  have X0z : w.heap.size < w2.heap.size := X0.lt
  have X1c0 : w2.cell? ⟨w.heap.size + 1, 0, none⟩ = some (.slice A n c) := X1.cell 0
  have X1f0 : w2.frozen? ⟨w.heap.size + 1, 0, none⟩ = false := X1.free 0
  have X1z : w.heap.size + 1 < w2.heap.size := X1.lt
  have X2c0 : w2.cell? ⟨w.heap.size + 1 + 1, 0, none⟩ = some (.int .i64 s.level) := X2.cell 0
  have X2f0 : w2.frozen? ⟨w.heap.size + 1 + 1, 0, none⟩ = false := X2.free 0
  have X2c1 : w2.cell? ⟨w.heap.size + 1 + 1, 1, none⟩ = some (.int .i64 s.position) := X2.cell 1
  have X2f1 : w2.frozen? ⟨w.heap.size + 1 + 1, 1, none⟩ = false := X2.free 1
  have X2c2 : w2.cell? ⟨w.heap.size + 1 + 1, 2, none⟩ = some (.int .i64 s.p0) := X2.cell 2
  have X2f2 : w2.frozen? ⟨w.heap.size + 1 + 1, 2, none⟩ = false := X2.free 2
  have X2c3 : w2.cell? ⟨w.heap.size + 1 + 1, 3, none⟩ = some (.int .i64 s.p1) := X2.cell 3
  have X2f3 : w2.frozen? ⟨w.heap.size + 1 + 1, 3, none⟩ = false := X2.free 3
  have X2c4 : w2.cell? ⟨w.heap.size + 1 + 1, 4, none⟩ = some (.int .i64 s.order) := X2.cell 4
  have X2f4 : w2.frozen? ⟨w.heap.size + 1 + 1, 4, none⟩ = false := X2.free 4
  have X2c5 : w2.cell? ⟨w.heap.size + 1 + 1, 5, none⟩ = some (.int .i64 s.age) := X2.cell 5
  have X2f5 : w2.frozen? ⟨w.heap.size + 1 + 1, 5, none⟩ = false := X2.free 5
  have X2z : w.heap.size + 1 + 1 < w2.heap.size := X2.lt
  have X3c0 : w2.cell? ⟨w.heap.size + 1 + 1 + 1, 0, none⟩ = some (.int .i64 x.feed) := X3.cell 0
  have X3f0 : w2.frozen? ⟨w.heap.size + 1 + 1 + 1, 0, none⟩ = false := X3.free 0
  have X3c1 : w2.cell? ⟨w.heap.size + 1 + 1 + 1, 1, none⟩ = some (.int .i64 x.msg) := X3.cell 1
  have X3f1 : w2.frozen? ⟨w.heap.size + 1 + 1 + 1, 1, none⟩ = false := X3.free 1
  have X3z : w.heap.size + 1 + 1 + 1 < w2.heap.size := X3.lt
  go_wp2_with fail
  refine (next_is h0 (codeAt_nil _ _)).mono ?_
  rintro e w3 ⟨rfl, hb⟩
  clear X0c0 X0f0 X0c1 X0f1 X0c2 X0f2 X0c3 X0f3 X0c4 X0f4 X0c5 X0f5 X0c6 X0f6 X0c7 X0f7 X0c8 X0f8 X0c9 X0f9 X0c10 X0f10 X0c11 X0f11 X0z X1c0 X1f0 X1z X2c0 X2f0 X2c1 X2f1 X2c2 X2f2 X2c3 X2f3 X2c4 X2f4 X2c5 X2f5 X2z X3c0 X3f0 X3c1 X3f1 X3z
  have X0 := X0.later hb
  have X1 := X1.later hb
  have X2 := X2.later hb
  have X3 := X3.later hb
  have hB := hB.trans (hb.mono hB.size)
  clear hb
  have X0c0 : w3.cell? ⟨w.heap.size, 0, none⟩ = some (.int .i64 p.top) := X0.cell 0
  have X0f0 : w3.frozen? ⟨w.heap.size, 0, none⟩ = false := X0.free 0
  have X0c1 : w3.cell? ⟨w.heap.size, 1, none⟩ = some (.int .i64 p.bank) := X0.cell 1
  have X0f1 : w3.frozen? ⟨w.heap.size, 1, none⟩ = false := X0.free 1
  have X0c2 : w3.cell? ⟨w.heap.size, 2, none⟩ = some (.int .i64 p.siphon) := X0.cell 2
  have X0f2 : w3.frozen? ⟨w.heap.size, 2, none⟩ = false := X0.free 2
  have X0c3 : w3.cell? ⟨w.heap.size, 3, none⟩ = some (.int .i64 p.start) := X0.cell 3
  have X0f3 : w3.frozen? ⟨w.heap.size, 3, none⟩ = false := X0.free 3
  have X0c4 : w3.cell? ⟨w.heap.size, 4, none⟩ = some (.int .i64 p.positions) := X0.cell 4
  have X0f4 : w3.frozen? ⟨w.heap.size, 4, none⟩ = false := X0.free 4
  have X0c5 : w3.cell? ⟨w.heap.size, 5, none⟩ = some (.int .i64 p.rate) := X0.cell 5
  have X0f5 : w3.frozen? ⟨w.heap.size, 5, none⟩ = false := X0.free 5
  have X0c6 : w3.cell? ⟨w.heap.size, 6, none⟩ = some (.int .i64 p.step) := X0.cell 6
  have X0f6 : w3.frozen? ⟨w.heap.size, 6, none⟩ = false := X0.free 6
  have X0c7 : w3.cell? ⟨w.heap.size, 7, none⟩ = some (.int .i64 p.pass) := X0.cell 7
  have X0f7 : w3.frozen? ⟨w.heap.size, 7, none⟩ = false := X0.free 7
  have X0c8 : w3.cell? ⟨w.heap.size, 8, none⟩ = some (.int .i64 p.feed) := X0.cell 8
  have X0f8 : w3.frozen? ⟨w.heap.size, 8, none⟩ = false := X0.free 8
  have X0c9 : w3.cell? ⟨w.heap.size, 9, none⟩ = some (.int .i64 p.pipe) := X0.cell 9
  have X0f9 : w3.frozen? ⟨w.heap.size, 9, none⟩ = false := X0.free 9
  have X0c10 : w3.cell? ⟨w.heap.size, 10, none⟩ = some (.int .i64 p.orders) := X0.cell 10
  have X0f10 : w3.frozen? ⟨w.heap.size, 10, none⟩ = false := X0.free 10
  have X0c11 : w3.cell? ⟨w.heap.size, 11, none⟩ = some (.int .i64 p.age) := X0.cell 11
  have X0f11 : w3.frozen? ⟨w.heap.size, 11, none⟩ = false := X0.free 11
  have X0z : w.heap.size < w3.heap.size := X0.lt
  have X1c0 : w3.cell? ⟨w.heap.size + 1, 0, none⟩ = some (.slice A n c) := X1.cell 0
  have X1f0 : w3.frozen? ⟨w.heap.size + 1, 0, none⟩ = false := X1.free 0
  have X1z : w.heap.size + 1 < w3.heap.size := X1.lt
  have X2c0 : w3.cell? ⟨w.heap.size + 1 + 1, 0, none⟩ = some (.int .i64 s.level) := X2.cell 0
  have X2f0 : w3.frozen? ⟨w.heap.size + 1 + 1, 0, none⟩ = false := X2.free 0
  have X2c1 : w3.cell? ⟨w.heap.size + 1 + 1, 1, none⟩ = some (.int .i64 s.position) := X2.cell 1
  have X2f1 : w3.frozen? ⟨w.heap.size + 1 + 1, 1, none⟩ = false := X2.free 1
  have X2c2 : w3.cell? ⟨w.heap.size + 1 + 1, 2, none⟩ = some (.int .i64 s.p0) := X2.cell 2
  have X2f2 : w3.frozen? ⟨w.heap.size + 1 + 1, 2, none⟩ = false := X2.free 2
  have X2c3 : w3.cell? ⟨w.heap.size + 1 + 1, 3, none⟩ = some (.int .i64 s.p1) := X2.cell 3
  have X2f3 : w3.frozen? ⟨w.heap.size + 1 + 1, 3, none⟩ = false := X2.free 3
  have X2c4 : w3.cell? ⟨w.heap.size + 1 + 1, 4, none⟩ = some (.int .i64 s.order) := X2.cell 4
  have X2f4 : w3.frozen? ⟨w.heap.size + 1 + 1, 4, none⟩ = false := X2.free 4
  have X2c5 : w3.cell? ⟨w.heap.size + 1 + 1, 5, none⟩ = some (.int .i64 s.age) := X2.cell 5
  have X2f5 : w3.frozen? ⟨w.heap.size + 1 + 1, 5, none⟩ = false := X2.free 5
  have X2z : w.heap.size + 1 + 1 < w3.heap.size := X2.lt
  have X3c0 : w3.cell? ⟨w.heap.size + 1 + 1 + 1, 0, none⟩ = some (.int .i64 x.feed) := X3.cell 0
  have X3f0 : w3.frozen? ⟨w.heap.size + 1 + 1 + 1, 0, none⟩ = false := X3.free 0
  have X3c1 : w3.cell? ⟨w.heap.size + 1 + 1 + 1, 1, none⟩ = some (.int .i64 x.msg) := X3.cell 1
  have X3f1 : w3.frozen? ⟨w.heap.size + 1 + 1 + 1, 1, none⟩ = false := X3.free 1
  have X3z : w.heap.size + 1 + 1 + 1 < w3.heap.size := X3.lt
  have zz1p : w.heap.size < w3.heap.size + 1 := by omega
  have zz1c : w.heap.size + 1 < w3.heap.size + 1 := by omega
  have zz1s : w.heap.size + 1 + 1 < w3.heap.size + 1 := by omega
  have zz1x : w.heap.size + 1 + 1 + 1 < w3.heap.size + 1 := by omega
  have zz2p : w.heap.size < w3.heap.size + 1 + 1 := by omega
  have zz2c : w.heap.size + 1 < w3.heap.size + 1 + 1 := by omega
  have zz2s : w.heap.size + 1 + 1 < w3.heap.size + 1 + 1 := by omega
  have zz2x : w.heap.size + 1 + 1 + 1 < w3.heap.size + 1 + 1 := by omega
  have zz3p : w.heap.size < w3.heap.size + 1 + 1 + 1 := by omega
  have zz3c : w.heap.size + 1 < w3.heap.size + 1 + 1 + 1 := by omega
  have zz3s : w.heap.size + 1 + 1 < w3.heap.size + 1 + 1 + 1 := by omega
  have zz3x : w.heap.size + 1 + 1 + 1 < w3.heap.size + 1 + 1 + 1 := by omega
  go_wp2_with fail
  clear zz1p zz1c zz1s zz1x zz2p zz2c zz2s zz2x zz3p zz3c zz3s zz3x
  clear X0c0 X0f0 X0c1 X0f1 X0c2 X0f2 X0c3 X0f3 X0c4 X0f4 X0c5 X0f5 X0c6 X0f6 X0c7 X0f7 X0c8 X0f8 X0c9 X0f9 X0c10 X0f10 X0c11 X0f11 X0z X1c0 X1f0 X1z X2c0 X2f0 X2c1 X2f1 X2c2 X2f2 X2c3 X2f3 X2c4 X2f4 X2c5 X2f5 X2z X3c0 X3f0 X3c1 X3f1 X3z
  have X0 := ((((X0.alloc (.cells #[.int .i64 l0, .int .i64 s.position, .int .i64 q0, .int .i64 q1, .int .i64 d0, .int .i64 a0] 26)).alloc (.cells #[.slice none 0 0, .int .i64 m] 53)).alloc (.cells #[.int .i64 0, .int .i64 1, .int .i64 0] 55)).alloc (.cells #[.slice (some ⟨w3.heap.size + 1 + 1, 0, none⟩) 1 1, .int .i64 m] 53))
  have X1 := ((((X1.alloc (.cells #[.int .i64 l0, .int .i64 s.position, .int .i64 q0, .int .i64 q1, .int .i64 d0, .int .i64 a0] 26)).alloc (.cells #[.slice none 0 0, .int .i64 m] 53)).alloc (.cells #[.int .i64 0, .int .i64 1, .int .i64 0] 55)).alloc (.cells #[.slice (some ⟨w3.heap.size + 1 + 1, 0, none⟩) 1 1, .int .i64 m] 53))
  have X2 := ((((X2.alloc (.cells #[.int .i64 l0, .int .i64 s.position, .int .i64 q0, .int .i64 q1, .int .i64 d0, .int .i64 a0] 26)).alloc (.cells #[.slice none 0 0, .int .i64 m] 53)).alloc (.cells #[.int .i64 0, .int .i64 1, .int .i64 0] 55)).alloc (.cells #[.slice (some ⟨w3.heap.size + 1 + 1, 0, none⟩) 1 1, .int .i64 m] 53))
  have X3 := ((((X3.alloc (.cells #[.int .i64 l0, .int .i64 s.position, .int .i64 q0, .int .i64 q1, .int .i64 d0, .int .i64 a0] 26)).alloc (.cells #[.slice none 0 0, .int .i64 m] 53)).alloc (.cells #[.int .i64 0, .int .i64 1, .int .i64 0] 55)).alloc (.cells #[.slice (some ⟨w3.heap.size + 1 + 1, 0, none⟩) 1 1, .int .i64 m] 53))
  have B0 := ((((Box.newAt (w := w3) (n := w3.heap.size) [.int .i64 l0, .int .i64 s.position, .int .i64 q0, .int .i64 q1, .int .i64 d0, .int .i64 a0] 26 (by simp)).alloc (.cells #[.slice none 0 0, .int .i64 m] 53)).alloc (.cells #[.int .i64 0, .int .i64 1, .int .i64 0] 55)).alloc (.cells #[.slice (some ⟨w3.heap.size + 1 + 1, 0, none⟩) 1 1, .int .i64 m] 53))
  have AL := (((Box.newAt (w := (w3.alloc (.cells #[.int .i64 l0, .int .i64 s.position, .int .i64 q0, .int .i64 q1, .int .i64 d0, .int .i64 a0] 26))) (n := w3.heap.size + 1) [.slice none 0 0, .int .i64 m] 53 (by simp)).alloc (.cells #[.int .i64 0, .int .i64 1, .int .i64 0] 55)).alloc (.cells #[.slice (some ⟨w3.heap.size + 1 + 1, 0, none⟩) 1 1, .int .i64 m] 53))
  have NC := ((Box.newAt (w := ((w3.alloc (.cells #[.int .i64 l0, .int .i64 s.position, .int .i64 q0, .int .i64 q1, .int .i64 d0, .int .i64 a0] 26)).alloc (.cells #[.slice none 0 0, .int .i64 m] 53))) (n := w3.heap.size + 1 + 1) [.int .i64 0, .int .i64 1, .int .i64 0] 55 (by simp)).alloc (.cells #[.slice (some ⟨w3.heap.size + 1 + 1, 0, none⟩) 1 1, .int .i64 m] 53))
  have NL := (Box.newAt (w := (((w3.alloc (.cells #[.int .i64 l0, .int .i64 s.position, .int .i64 q0, .int .i64 q1, .int .i64 d0, .int .i64 a0] 26)).alloc (.cells #[.slice none 0 0, .int .i64 m] 53)).alloc (.cells #[.int .i64 0, .int .i64 1, .int .i64 0] 55))) (n := w3.heap.size + 1 + 1 + 1) [.slice (some ⟨w3.heap.size + 1 + 1, 0, none⟩) 1 1, .int .i64 m] 53 (by simp))
  have hB := ((((hB.alloc hB.size (.cells #[.int .i64 l0, .int .i64 s.position, .int .i64 q0, .int .i64 q1, .int .i64 d0, .int .i64 a0] 26)).alloc (by have := hB.size; simp; omega) (.cells #[.slice none 0 0, .int .i64 m] 53)).alloc (by have := hB.size; simp; omega) (.cells #[.int .i64 0, .int .i64 1, .int .i64 0] 55)).alloc (by have := hB.size; simp; omega) (.cells #[.slice (some ⟨w3.heap.size + 1 + 1, 0, none⟩) 1 1, .int .i64 m] 53))
  generalize ((((w3.alloc (.cells #[.int .i64 l0, .int .i64 s.position, .int .i64 q0, .int .i64 q1, .int .i64 d0, .int .i64 a0] 26)).alloc (.cells #[.slice none 0 0, .int .i64 m] 53)).alloc (.cells #[.int .i64 0, .int .i64 1, .int .i64 0] 55)).alloc (.cells #[.slice (some ⟨w3.heap.size + 1 + 1, 0, none⟩) 1 1, .int .i64 m] 53)) = w4 at hB X0 X1 X2 X3 B0 AL NC NL ⊢
  refine (next_is h1 ((hC.out.below hB).more hB.size)).mono ?_
  rintro e w5 ⟨rfl, hb⟩
  have X0 := X0.later hb
  have X1 := X1.later hb
  have X2 := X2.later hb
  have X3 := X3.later hb
  have B0 := B0.later hb
  have AL := AL.later hb
  have NC := NC.later hb
  have NL := NL.later hb
  have hB := hB.trans (hb.mono hB.size)
  clear hb
  go_upto_region 11 with fail
  have nX0A0 : w.heap.size ≠ w5.heap.size := Nat.ne_of_lt (by have := X0.lt; omega)
  have nX1A0 : w.heap.size + 1 ≠ w5.heap.size := Nat.ne_of_lt (by have := X1.lt; omega)
  have nX2A0 : w.heap.size + 1 + 1 ≠ w5.heap.size := Nat.ne_of_lt (by have := X2.lt; omega)
  have nX3A0 : w.heap.size + 1 + 1 + 1 ≠ w5.heap.size := Nat.ne_of_lt (by have := X3.lt; omega)
  have nB0A0 : w3.heap.size ≠ w5.heap.size := Nat.ne_of_lt (by have := B0.lt; omega)
  have nALA0 : w3.heap.size + 1 ≠ w5.heap.size := Nat.ne_of_lt (by have := AL.lt; omega)
  have nNCA0 : w3.heap.size + 1 + 1 ≠ w5.heap.size := Nat.ne_of_lt (by have := NC.lt; omega)
  have nNLA0 : w3.heap.size + 1 + 1 + 1 ≠ w5.heap.size := Nat.ne_of_lt (by have := NL.lt; omega)
  have gA0 : w.heap.size ≤ w5.heap.size := by have := hB.size; omega
  have X0 := (X0.alloc (.cells #[.int .i64 t1.level, .int .i64 t1.position, .int .i64 t1.p0, .int .i64 t1.p1, .int .i64 t1.order, .int .i64 t1.age] 26))
  have X1 := (X1.alloc (.cells #[.int .i64 t1.level, .int .i64 t1.position, .int .i64 t1.p0, .int .i64 t1.p1, .int .i64 t1.order, .int .i64 t1.age] 26))
  have X2 := (X2.alloc (.cells #[.int .i64 t1.level, .int .i64 t1.position, .int .i64 t1.p0, .int .i64 t1.p1, .int .i64 t1.order, .int .i64 t1.age] 26))
  have X3 := (X3.alloc (.cells #[.int .i64 t1.level, .int .i64 t1.position, .int .i64 t1.p0, .int .i64 t1.p1, .int .i64 t1.order, .int .i64 t1.age] 26))
  have B0 := (B0.alloc (.cells #[.int .i64 t1.level, .int .i64 t1.position, .int .i64 t1.p0, .int .i64 t1.p1, .int .i64 t1.order, .int .i64 t1.age] 26))
  have AL := (AL.alloc (.cells #[.int .i64 t1.level, .int .i64 t1.position, .int .i64 t1.p0, .int .i64 t1.p1, .int .i64 t1.order, .int .i64 t1.age] 26))
  have NC := (NC.alloc (.cells #[.int .i64 t1.level, .int .i64 t1.position, .int .i64 t1.p0, .int .i64 t1.p1, .int .i64 t1.order, .int .i64 t1.age] 26))
  have NL := (NL.alloc (.cells #[.int .i64 t1.level, .int .i64 t1.position, .int .i64 t1.p0, .int .i64 t1.p1, .int .i64 t1.order, .int .i64 t1.age] 26))
  have A0 := (Box.newAt (w := w5) (n := w5.heap.size) [.int .i64 t1.level, .int .i64 t1.position, .int .i64 t1.p0, .int .i64 t1.p1, .int .i64 t1.order, .int .i64 t1.age] 26 (by simp))
  have hB := (hB.alloc hB.size (.cells #[.int .i64 t1.level, .int .i64 t1.position, .int .i64 t1.p0, .int .i64 t1.p1, .int .i64 t1.order, .int .i64 t1.age] 26))
  generalize (w5.alloc (.cells #[.int .i64 t1.level, .int .i64 t1.position, .int .i64 t1.p0, .int .i64 t1.p1, .int .i64 t1.order, .int .i64 t1.age] 26)) = w6 at hB X0 X1 X2 X3 B0 AL NC NL A0 ⊢
  go_cut [19, 20, 21] (fun s19 s20 s21 wx => ∃ g : Nat, s19 = .pointer (some ⟨g, 0, none⟩) ∧ s20 = .int .i64 o2 ∧ s21 = .int .i64 er2 ∧ w6.heap.size ≤ g ∧ Box wx g [.int .i64 t2.level, .int .i64 t2.position, .int .i64 t2.p0, .int .i64 t2.p1, .int .i64 t2.order, .int .i64 t2.age] ∧ Below w6.heap.size w6 wx)
  case first =>
    have KEEP : ∀ z, Below w6.heap.size w6 z → z.cell? ⟨w.heap.size, 0, none⟩ = some (.int .i64 p.top) ∧ z.cell? ⟨w.heap.size, 1, none⟩ = some (.int .i64 p.bank) ∧ z.cell? ⟨w.heap.size, 2, none⟩ = some (.int .i64 p.siphon) ∧ z.cell? ⟨w.heap.size, 3, none⟩ = some (.int .i64 p.start) ∧ z.cell? ⟨w.heap.size, 4, none⟩ = some (.int .i64 p.positions) ∧ z.cell? ⟨w.heap.size, 5, none⟩ = some (.int .i64 p.rate) ∧ z.cell? ⟨w.heap.size, 6, none⟩ = some (.int .i64 p.step) ∧ z.cell? ⟨w.heap.size, 7, none⟩ = some (.int .i64 p.pass) ∧ z.cell? ⟨w.heap.size, 8, none⟩ = some (.int .i64 p.feed) ∧ z.cell? ⟨w.heap.size, 9, none⟩ = some (.int .i64 p.pipe) ∧ z.cell? ⟨w.heap.size, 10, none⟩ = some (.int .i64 p.orders) ∧ z.cell? ⟨w.heap.size, 11, none⟩ = some (.int .i64 p.age) ∧ z.cell? ⟨w.heap.size + 1, 0, none⟩ = some (.slice A n c) ∧ z.cell? ⟨w.heap.size + 1 + 1, 0, none⟩ = some (.int .i64 s.level) ∧ z.cell? ⟨w.heap.size + 1 + 1, 1, none⟩ = some (.int .i64 s.position) ∧ z.cell? ⟨w.heap.size + 1 + 1, 2, none⟩ = some (.int .i64 s.p0) ∧ z.cell? ⟨w.heap.size + 1 + 1, 3, none⟩ = some (.int .i64 s.p1) ∧ z.cell? ⟨w.heap.size + 1 + 1, 4, none⟩ = some (.int .i64 s.order) ∧ z.cell? ⟨w.heap.size + 1 + 1, 5, none⟩ = some (.int .i64 s.age) ∧ z.cell? ⟨w.heap.size + 1 + 1 + 1, 0, none⟩ = some (.int .i64 x.feed) ∧ z.cell? ⟨w.heap.size + 1 + 1 + 1, 1, none⟩ = some (.int .i64 x.msg) ∧ z.cell? ⟨w3.heap.size + 1 + 1 + 1, 0, none⟩ = some (.slice (some ⟨w3.heap.size + 1 + 1, 0, none⟩) 1 1) ∧ z.cell? ⟨w3.heap.size + 1 + 1 + 1, 1, none⟩ = some (.int .i64 m) := fun z hz => ⟨(hz.cell X0.lt).trans (X0.cell 0), (hz.cell X0.lt).trans (X0.cell 1), (hz.cell X0.lt).trans (X0.cell 2), (hz.cell X0.lt).trans (X0.cell 3), (hz.cell X0.lt).trans (X0.cell 4), (hz.cell X0.lt).trans (X0.cell 5), (hz.cell X0.lt).trans (X0.cell 6), (hz.cell X0.lt).trans (X0.cell 7), (hz.cell X0.lt).trans (X0.cell 8), (hz.cell X0.lt).trans (X0.cell 9), (hz.cell X0.lt).trans (X0.cell 10), (hz.cell X0.lt).trans (X0.cell 11), (hz.cell X1.lt).trans (X1.cell 0), (hz.cell X2.lt).trans (X2.cell 0), (hz.cell X2.lt).trans (X2.cell 1), (hz.cell X2.lt).trans (X2.cell 2), (hz.cell X2.lt).trans (X2.cell 3), (hz.cell X2.lt).trans (X2.cell 4), (hz.cell X2.lt).trans (X2.cell 5), (hz.cell X3.lt).trans (X3.cell 0), (hz.cell X3.lt).trans (X3.cell 1), (hz.cell NL.lt).trans (NL.cell 0), (hz.cell NL.lt).trans (NL.cell 1)⟩
    have HKEEP := Lib.hid KEEP
    clear KEEP
    have HC2 := Lib.hid ((hC.out.below hB).more hB.size)
    have HL2 : Hid (CondsAt w6 w6.heap.size (.slice (some ⟨w3.heap.size + 1 + 1, 0, none⟩) 1 1) [⟨0, 1, 0⟩]) := condsAt_one (c := ⟨0, 1, 0⟩) NC NC.lt
    have hzw := Below.refl w6.heap.size w6
    have hz : Below w6.heap.size w6 w6.drew := hzw.drew
    have hlen : code.length ≤ 60 := by rw [hn.out]; omega
    have HLEN := Lib.hid hlen
    clear hlen
    go_region_held3 (fun z => z.cell? ⟨w.heap.size, 0, none⟩ = some (.int .i64 p.top) ∧ z.cell? ⟨w.heap.size, 1, none⟩ = some (.int .i64 p.bank) ∧ z.cell? ⟨w.heap.size, 2, none⟩ = some (.int .i64 p.siphon) ∧ z.cell? ⟨w.heap.size, 3, none⟩ = some (.int .i64 p.start) ∧ z.cell? ⟨w.heap.size, 4, none⟩ = some (.int .i64 p.positions) ∧ z.cell? ⟨w.heap.size, 5, none⟩ = some (.int .i64 p.rate) ∧ z.cell? ⟨w.heap.size, 6, none⟩ = some (.int .i64 p.step) ∧ z.cell? ⟨w.heap.size, 7, none⟩ = some (.int .i64 p.pass) ∧ z.cell? ⟨w.heap.size, 8, none⟩ = some (.int .i64 p.feed) ∧ z.cell? ⟨w.heap.size, 9, none⟩ = some (.int .i64 p.pipe) ∧ z.cell? ⟨w.heap.size, 10, none⟩ = some (.int .i64 p.orders) ∧ z.cell? ⟨w.heap.size, 11, none⟩ = some (.int .i64 p.age) ∧ z.cell? ⟨w.heap.size + 1, 0, none⟩ = some (.slice A n c) ∧ z.cell? ⟨w.heap.size + 1 + 1, 0, none⟩ = some (.int .i64 s.level) ∧ z.cell? ⟨w.heap.size + 1 + 1, 1, none⟩ = some (.int .i64 s.position) ∧ z.cell? ⟨w.heap.size + 1 + 1, 2, none⟩ = some (.int .i64 s.p0) ∧ z.cell? ⟨w.heap.size + 1 + 1, 3, none⟩ = some (.int .i64 s.p1) ∧ z.cell? ⟨w.heap.size + 1 + 1, 4, none⟩ = some (.int .i64 s.order) ∧ z.cell? ⟨w.heap.size + 1 + 1, 5, none⟩ = some (.int .i64 s.age) ∧ z.cell? ⟨w.heap.size + 1 + 1 + 1, 0, none⟩ = some (.int .i64 x.feed) ∧ z.cell? ⟨w.heap.size + 1 + 1 + 1, 1, none⟩ = some (.int .i64 x.msg) ∧ z.cell? ⟨w3.heap.size + 1 + 1 + 1, 0, none⟩ = some (.slice (some ⟨w3.heap.size + 1 + 1, 0, none⟩) 1 1) ∧ z.cell? ⟨w3.heap.size + 1 + 1 + 1, 1, none⟩ = some (.int .i64 m))
      (first | (with_reducible exact HKEEP.out _ hz) | (with_reducible exact HKEEP.out _ (hzw.alloc (Nat.le_refl _) _).drew) | (with_reducible exact HKEEP.out _ ((hzw.alloc (Nat.le_refl _) _).alloc (by simp) _).drew) | (with_reducible exact HKEEP.out _ (hz.alloc hz.size _)) | (with_reducible exact HKEEP.out _ ((hz.alloc hz.size _).alloc (Nat.le_trans hz.size (by simp)) _)) | (with_reducible exact HKEEP.out _ (Below.six hz hDg _ _ _ _ _ _))  | (go_keep; done))
      (first
        | (refine step_prepend (W := w6) (B := w6.heap.size) (b := w6.heap.size) (lv := .slice (some ⟨w3.heap.size + 1 + 1, 0, none⟩) 1 1) (l := ⟨[⟨0, 1, 0⟩], m⟩) (by rfl) (.tmp 71) (.tmp 73) (by rfl) (by rfl) (by rfl) HC2.out hV HLEN.out HL2.out (hzw.alloc (Nat.le_refl _) (.cells #[.slice (some ⟨w3.heap.size + 1 + 1, 0, none⟩) 1 1, .int .i64 m] 53)).drew (by simp) (new_a _ _ _) ?_; intro A' n' c' z' HC3 hz hne)
        | (refine step_prepend (W := w6) (B := w6.heap.size) (b := w6.heap.size + 1) (lv := .slice (some ⟨w3.heap.size + 1 + 1, 0, none⟩) 1 1) (l := ⟨[⟨0, 1, 0⟩], m⟩) (by rfl) (.tmp 71) (.tmp 73) (by rfl) (by rfl) (by rfl) HC2.out hV HLEN.out HL2.out ((hzw.alloc (Nat.le_refl _) (.cells #[.int .i64 0, .int .i64 0, .int .i64 0, .int .i64 0, .int .i64 0, .int .i64 0] 26)).alloc (by simp) (.cells #[.slice (some ⟨w3.heap.size + 1 + 1, 0, none⟩) 1 1, .int .i64 m] 53)).drew (by simp) (new_b _ _ _ _) ?_; intro A' n' c' z' HC3 hz hne; have hDg : w6.heap.size ≤ w6.heap.size := Nat.le_refl _; have DZ : Box (z') (w6.heap.size) [.int .i64 0, .int .i64 0, .int .i64 0, .int .i64 0, .int .i64 0, .int .i64 0] := ((Box.newAt (w := w6) (n := w6.heap.size) [.int .i64 0, .int .i64 0, .int .i64 0, .int .i64 0, .int .i64 0, .int .i64 0] 26 rfl).alloc (.cells #[.slice (some ⟨w3.heap.size + 1 + 1, 0, none⟩) 1 1, .int .i64 m] 53)).drew.same (hne _ (by simp; omega) (by simp)))
        | (refine step_prepend (W := w6) (B := w6.heap.size) (b := w6.heap.size) (lv := .slice (some ⟨w3.heap.size + 1 + 1, 0, none⟩) 1 1) (l := ⟨[⟨0, 1, 0⟩], m⟩) (by rfl) (.tmp 71) (.tmp 73) (by rfl) (by rfl) (by rfl) HC2.out hV HLEN.out HL2.out ((hzw.alloc (Nat.le_refl _) (.cells #[.slice (some ⟨w3.heap.size + 1 + 1, 0, none⟩) 1 1, .int .i64 m] 53)).alloc (by simp) (.cells #[.int .i64 0, .int .i64 0, .int .i64 0, .int .i64 0, .int .i64 0, .int .i64 0] 26)).drew (by simp) (new_c _ _ _ _) ?_; intro A' n' c' z' HC3 hz hne; have hDg : w6.heap.size ≤ w6.heap.size + 1 := Nat.le_succ _; have DZ : Box (z') (w6.heap.size + 1) [.int .i64 0, .int .i64 0, .int .i64 0, .int .i64 0, .int .i64 0, .int .i64 0] := (Box.newAt (w := w6.alloc (.cells #[.slice (some ⟨w3.heap.size + 1 + 1, 0, none⟩) 1 1, .int .i64 m] 53)) (n := w6.heap.size + 1) [.int .i64 0, .int .i64 0, .int .i64 0, .int .i64 0, .int .i64 0, .int .i64 0] 26 (by simp)).drew.same (hne _ (by simp) (by simp)))
        | (go_simp; go_at_call 20; with_reducible refine (next_is h2 HC3).mono ?_; rintro e z4 ⟨rfl, hb4⟩; dsimp only; have hz : Below w6.heap.size w6 z4 := hz.trans (hb4.mono hz.size); try (have DZ := DZ.later hb4; obtain ⟨⟨dc0, dc1, dc2, dc3, dc4, dc5⟩, ⟨df0, df1, df2, df3, df4, df5⟩, dzz⟩ := DZ.six))
        | (go_simp; go_at_call 20; with_reducible refine (next_is h2 (HC3.later ((Below.refl _ _).alloc (Nat.le_refl _) (.cells #[.int .i64 0, .int .i64 0, .int .i64 0, .int .i64 0, .int .i64 0, .int .i64 0] 26)))).mono ?_; rintro e z4 ⟨rfl, hb4⟩; dsimp only; have hz0 := hz; have hz : Below w6.heap.size w6 z4 := (hz.alloc hz.size (.cells #[.int .i64 0, .int .i64 0, .int .i64 0, .int .i64 0, .int .i64 0, .int .i64 0] 26)).trans (hb4.mono (Nat.le_trans hz.size (by simp))); have DZ : Box (z4) (z'.heap.size) [.int .i64 0, .int .i64 0, .int .i64 0, .int .i64 0, .int .i64 0, .int .i64 0] := (Box.newAt (w := z') (n := z'.heap.size) [.int .i64 0, .int .i64 0, .int .i64 0, .int .i64 0, .int .i64 0, .int .i64 0] 26 rfl).later hb4; have hDg : w6.heap.size ≤ z'.heap.size := hz0.size; obtain ⟨⟨dc0, dc1, dc2, dc3, dc4, dc5⟩, ⟨df0, df1, df2, df3, df4, df5⟩, dzz⟩ := DZ.six))
    all_goals (go_wp2_with fail; go_meet)
    all_goals first | exact ⟨_, rfl, rfl, rfl, hz.size, Box.newAt _ _ rfl, hz.alloc hz.size _⟩ | exact ⟨_, rfl, rfl, rfl, hDg, Box.sixSet DZ _ _ _ _ _ _, Below.six hz hDg _ _ _ _ _ _⟩
  case rest =>
    obtain ⟨gB, rfl, rfl, rfl, hgB, BX, hb⟩ := hcut
    go_wp2
    go_ret
    exact ⟨rfl, hB.trans (hb.mono hB.size)⟩

set_option maxRecDepth 100000 in
set_option maxHeartbeats 8000000 in
theorem law8_good (p : Pl) (code : List Ln) (A : Option Addr) (n c : Nat) (s : St) (x : Sh) (m : Int) (w : World) (hC : Hid (CodeAt w w.heap.size (.slice A n c) code)) (hV : SlForm (.slice A n c)) (hn : Hid (code.length = n)) (hf : Hid (fewB code = true)) (_hm : (n : Int) ≤ 60) (_m1 : 0 ≤ m) (_m2 : m ≤ 255) (l0 q0 q1 d0 a0 : Int) (o0 : Int)  (h0 : Hid (nextT p [] s x = ((⟨l0, s.position, q0, q1, d0, a0⟩ : St), o0, 0))) (t1 : St) (o1 : Int) (t3 : St) (o3 : Int) (h1 : Hid (nextT p code s x = (t1, o1, 0))) (h2 : Hid (nextT p (⟨[⟨0, 1, 0⟩], m⟩ :: code) s x = (t1, o1, 0))) (h3 : Hid (nextT p [⟨[], m⟩] s x = (t3, o3, 0))) (h4 : Hid (nextT p (⟨[], m⟩ :: code) s x = (t3, o3, 0))) : Calls Try.prog 8 #[p.v, .agg #[.slice A n c], s.v, x.v, .int .u8 m] w fun e w' => e = .returned (.bool true) ∧ Below w.heap.size w w' := by
  go_enter Try.func8, Try.ntmps8
  go_wp2_with fail
  refine (sane_any _).mono ?_
  rintro e w1 ⟨rfl, hb⟩
  have X0 := (((((Box.newAt (n := w.heap.size) [.int .i64 p.top, .int .i64 p.bank, .int .i64 p.siphon, .int .i64 p.start, .int .i64 p.positions, .int .i64 p.rate, .int .i64 p.step, .int .i64 p.pass, .int .i64 p.feed, .int .i64 p.pipe, .int .i64 p.orders, .int .i64 p.age] 23 (by simp)).alloc _).alloc _).alloc _)).later hb
  have X1 := ((((Box.newAt (n := w.heap.size + 1) [.slice A n c] 39 (by simp)).alloc _).alloc _)).later hb
  have X2 := (((Box.newAt (n := w.heap.size + 1 + 1) [.int .i64 s.level, .int .i64 s.position, .int .i64 s.p0, .int .i64 s.p1, .int .i64 s.order, .int .i64 s.age] 26 (by simp)).alloc _)).later hb
  have X3 := ((Box.newAt (n := w.heap.size + 1 + 1 + 1) [.int .i64 x.feed, .int .i64 x.msg] 41 (by simp))).later hb
  have hB : Below w.heap.size w w1 := ((((((Below.refl w.heap.size w).alloc (by simp <;> omega) _).alloc (by simp <;> omega) _).alloc (by simp <;> omega) _).alloc (by simp <;> omega) _)).trans (hb.mono (by simp <;> omega))
  clear hb
  have X1c0 : w1.cell? ⟨w.heap.size + 1, 0, none⟩ = some (.slice A n c) := X1.cell 0
  have X1f0 : w1.frozen? ⟨w.heap.size + 1, 0, none⟩ = false := X1.free 0
  have X1z : w.heap.size + 1 < w1.heap.size := X1.lt
  go_wp2_with fail
  refine (gfew_at hf ((hC.out.below hB).more hB.size)).mono ?_
  rintro e w2 ⟨rfl, hb⟩
  clear X1c0 X1f0 X1z
  have X0 := X0.later hb
  have X1 := X1.later hb
  have X2 := X2.later hb
  have X3 := X3.later hb
  have hB := hB.trans (hb.mono hB.size)
  clear hb
  have X0c0 : w2.cell? ⟨w.heap.size, 0, none⟩ = some (.int .i64 p.top) := X0.cell 0
  have X0f0 : w2.frozen? ⟨w.heap.size, 0, none⟩ = false := X0.free 0
  have X0c1 : w2.cell? ⟨w.heap.size, 1, none⟩ = some (.int .i64 p.bank) := X0.cell 1
  have X0f1 : w2.frozen? ⟨w.heap.size, 1, none⟩ = false := X0.free 1
  have X0c2 : w2.cell? ⟨w.heap.size, 2, none⟩ = some (.int .i64 p.siphon) := X0.cell 2
  have X0f2 : w2.frozen? ⟨w.heap.size, 2, none⟩ = false := X0.free 2
  have X0c3 : w2.cell? ⟨w.heap.size, 3, none⟩ = some (.int .i64 p.start) := X0.cell 3
  have X0f3 : w2.frozen? ⟨w.heap.size, 3, none⟩ = false := X0.free 3
  have X0c4 : w2.cell? ⟨w.heap.size, 4, none⟩ = some (.int .i64 p.positions) := X0.cell 4
  have X0f4 : w2.frozen? ⟨w.heap.size, 4, none⟩ = false := X0.free 4
  have X0c5 : w2.cell? ⟨w.heap.size, 5, none⟩ = some (.int .i64 p.rate) := X0.cell 5
  have X0f5 : w2.frozen? ⟨w.heap.size, 5, none⟩ = false := X0.free 5
  have X0c6 : w2.cell? ⟨w.heap.size, 6, none⟩ = some (.int .i64 p.step) := X0.cell 6
  have X0f6 : w2.frozen? ⟨w.heap.size, 6, none⟩ = false := X0.free 6
  have X0c7 : w2.cell? ⟨w.heap.size, 7, none⟩ = some (.int .i64 p.pass) := X0.cell 7
  have X0f7 : w2.frozen? ⟨w.heap.size, 7, none⟩ = false := X0.free 7
  have X0c8 : w2.cell? ⟨w.heap.size, 8, none⟩ = some (.int .i64 p.feed) := X0.cell 8
  have X0f8 : w2.frozen? ⟨w.heap.size, 8, none⟩ = false := X0.free 8
  have X0c9 : w2.cell? ⟨w.heap.size, 9, none⟩ = some (.int .i64 p.pipe) := X0.cell 9
  have X0f9 : w2.frozen? ⟨w.heap.size, 9, none⟩ = false := X0.free 9
  have X0c10 : w2.cell? ⟨w.heap.size, 10, none⟩ = some (.int .i64 p.orders) := X0.cell 10
  have X0f10 : w2.frozen? ⟨w.heap.size, 10, none⟩ = false := X0.free 10
  have X0c11 : w2.cell? ⟨w.heap.size, 11, none⟩ = some (.int .i64 p.age) := X0.cell 11
  have X0f11 : w2.frozen? ⟨w.heap.size, 11, none⟩ = false := X0.free 11
  have X0z : w.heap.size < w2.heap.size := X0.lt
  have X1c0 : w2.cell? ⟨w.heap.size + 1, 0, none⟩ = some (.slice A n c) := X1.cell 0
  have X1f0 : w2.frozen? ⟨w.heap.size + 1, 0, none⟩ = false := X1.free 0
  have X1z : w.heap.size + 1 < w2.heap.size := X1.lt
  have X2c0 : w2.cell? ⟨w.heap.size + 1 + 1, 0, none⟩ = some (.int .i64 s.level) := X2.cell 0
  have X2f0 : w2.frozen? ⟨w.heap.size + 1 + 1, 0, none⟩ = false := X2.free 0
  have X2c1 : w2.cell? ⟨w.heap.size + 1 + 1, 1, none⟩ = some (.int .i64 s.position) := X2.cell 1
  have X2f1 : w2.frozen? ⟨w.heap.size + 1 + 1, 1, none⟩ = false := X2.free 1
  have X2c2 : w2.cell? ⟨w.heap.size + 1 + 1, 2, none⟩ = some (.int .i64 s.p0) := X2.cell 2
  have X2f2 : w2.frozen? ⟨w.heap.size + 1 + 1, 2, none⟩ = false := X2.free 2
  have X2c3 : w2.cell? ⟨w.heap.size + 1 + 1, 3, none⟩ = some (.int .i64 s.p1) := X2.cell 3
  have X2f3 : w2.frozen? ⟨w.heap.size + 1 + 1, 3, none⟩ = false := X2.free 3
  have X2c4 : w2.cell? ⟨w.heap.size + 1 + 1, 4, none⟩ = some (.int .i64 s.order) := X2.cell 4
  have X2f4 : w2.frozen? ⟨w.heap.size + 1 + 1, 4, none⟩ = false := X2.free 4
  have X2c5 : w2.cell? ⟨w.heap.size + 1 + 1, 5, none⟩ = some (.int .i64 s.age) := X2.cell 5
  have X2f5 : w2.frozen? ⟨w.heap.size + 1 + 1, 5, none⟩ = false := X2.free 5
  have X2z : w.heap.size + 1 + 1 < w2.heap.size := X2.lt
  have X3c0 : w2.cell? ⟨w.heap.size + 1 + 1 + 1, 0, none⟩ = some (.int .i64 x.feed) := X3.cell 0
  have X3f0 : w2.frozen? ⟨w.heap.size + 1 + 1 + 1, 0, none⟩ = false := X3.free 0
  have X3c1 : w2.cell? ⟨w.heap.size + 1 + 1 + 1, 1, none⟩ = some (.int .i64 x.msg) := X3.cell 1
  have X3f1 : w2.frozen? ⟨w.heap.size + 1 + 1 + 1, 1, none⟩ = false := X3.free 1
  have X3z : w.heap.size + 1 + 1 + 1 < w2.heap.size := X3.lt
  go_wp2_with fail
  refine (next_is h0 (codeAt_nil _ _)).mono ?_
  rintro e w3 ⟨rfl, hb⟩
  clear X0c0 X0f0 X0c1 X0f1 X0c2 X0f2 X0c3 X0f3 X0c4 X0f4 X0c5 X0f5 X0c6 X0f6 X0c7 X0f7 X0c8 X0f8 X0c9 X0f9 X0c10 X0f10 X0c11 X0f11 X0z X1c0 X1f0 X1z X2c0 X2f0 X2c1 X2f1 X2c2 X2f2 X2c3 X2f3 X2c4 X2f4 X2c5 X2f5 X2z X3c0 X3f0 X3c1 X3f1 X3z
  have X0 := X0.later hb
  have X1 := X1.later hb
  have X2 := X2.later hb
  have X3 := X3.later hb
  have hB := hB.trans (hb.mono hB.size)
  clear hb
  have X0c0 : w3.cell? ⟨w.heap.size, 0, none⟩ = some (.int .i64 p.top) := X0.cell 0
  have X0f0 : w3.frozen? ⟨w.heap.size, 0, none⟩ = false := X0.free 0
  have X0c1 : w3.cell? ⟨w.heap.size, 1, none⟩ = some (.int .i64 p.bank) := X0.cell 1
  have X0f1 : w3.frozen? ⟨w.heap.size, 1, none⟩ = false := X0.free 1
  have X0c2 : w3.cell? ⟨w.heap.size, 2, none⟩ = some (.int .i64 p.siphon) := X0.cell 2
  have X0f2 : w3.frozen? ⟨w.heap.size, 2, none⟩ = false := X0.free 2
  have X0c3 : w3.cell? ⟨w.heap.size, 3, none⟩ = some (.int .i64 p.start) := X0.cell 3
  have X0f3 : w3.frozen? ⟨w.heap.size, 3, none⟩ = false := X0.free 3
  have X0c4 : w3.cell? ⟨w.heap.size, 4, none⟩ = some (.int .i64 p.positions) := X0.cell 4
  have X0f4 : w3.frozen? ⟨w.heap.size, 4, none⟩ = false := X0.free 4
  have X0c5 : w3.cell? ⟨w.heap.size, 5, none⟩ = some (.int .i64 p.rate) := X0.cell 5
  have X0f5 : w3.frozen? ⟨w.heap.size, 5, none⟩ = false := X0.free 5
  have X0c6 : w3.cell? ⟨w.heap.size, 6, none⟩ = some (.int .i64 p.step) := X0.cell 6
  have X0f6 : w3.frozen? ⟨w.heap.size, 6, none⟩ = false := X0.free 6
  have X0c7 : w3.cell? ⟨w.heap.size, 7, none⟩ = some (.int .i64 p.pass) := X0.cell 7
  have X0f7 : w3.frozen? ⟨w.heap.size, 7, none⟩ = false := X0.free 7
  have X0c8 : w3.cell? ⟨w.heap.size, 8, none⟩ = some (.int .i64 p.feed) := X0.cell 8
  have X0f8 : w3.frozen? ⟨w.heap.size, 8, none⟩ = false := X0.free 8
  have X0c9 : w3.cell? ⟨w.heap.size, 9, none⟩ = some (.int .i64 p.pipe) := X0.cell 9
  have X0f9 : w3.frozen? ⟨w.heap.size, 9, none⟩ = false := X0.free 9
  have X0c10 : w3.cell? ⟨w.heap.size, 10, none⟩ = some (.int .i64 p.orders) := X0.cell 10
  have X0f10 : w3.frozen? ⟨w.heap.size, 10, none⟩ = false := X0.free 10
  have X0c11 : w3.cell? ⟨w.heap.size, 11, none⟩ = some (.int .i64 p.age) := X0.cell 11
  have X0f11 : w3.frozen? ⟨w.heap.size, 11, none⟩ = false := X0.free 11
  have X0z : w.heap.size < w3.heap.size := X0.lt
  have X1c0 : w3.cell? ⟨w.heap.size + 1, 0, none⟩ = some (.slice A n c) := X1.cell 0
  have X1f0 : w3.frozen? ⟨w.heap.size + 1, 0, none⟩ = false := X1.free 0
  have X1z : w.heap.size + 1 < w3.heap.size := X1.lt
  have X2c0 : w3.cell? ⟨w.heap.size + 1 + 1, 0, none⟩ = some (.int .i64 s.level) := X2.cell 0
  have X2f0 : w3.frozen? ⟨w.heap.size + 1 + 1, 0, none⟩ = false := X2.free 0
  have X2c1 : w3.cell? ⟨w.heap.size + 1 + 1, 1, none⟩ = some (.int .i64 s.position) := X2.cell 1
  have X2f1 : w3.frozen? ⟨w.heap.size + 1 + 1, 1, none⟩ = false := X2.free 1
  have X2c2 : w3.cell? ⟨w.heap.size + 1 + 1, 2, none⟩ = some (.int .i64 s.p0) := X2.cell 2
  have X2f2 : w3.frozen? ⟨w.heap.size + 1 + 1, 2, none⟩ = false := X2.free 2
  have X2c3 : w3.cell? ⟨w.heap.size + 1 + 1, 3, none⟩ = some (.int .i64 s.p1) := X2.cell 3
  have X2f3 : w3.frozen? ⟨w.heap.size + 1 + 1, 3, none⟩ = false := X2.free 3
  have X2c4 : w3.cell? ⟨w.heap.size + 1 + 1, 4, none⟩ = some (.int .i64 s.order) := X2.cell 4
  have X2f4 : w3.frozen? ⟨w.heap.size + 1 + 1, 4, none⟩ = false := X2.free 4
  have X2c5 : w3.cell? ⟨w.heap.size + 1 + 1, 5, none⟩ = some (.int .i64 s.age) := X2.cell 5
  have X2f5 : w3.frozen? ⟨w.heap.size + 1 + 1, 5, none⟩ = false := X2.free 5
  have X2z : w.heap.size + 1 + 1 < w3.heap.size := X2.lt
  have X3c0 : w3.cell? ⟨w.heap.size + 1 + 1 + 1, 0, none⟩ = some (.int .i64 x.feed) := X3.cell 0
  have X3f0 : w3.frozen? ⟨w.heap.size + 1 + 1 + 1, 0, none⟩ = false := X3.free 0
  have X3c1 : w3.cell? ⟨w.heap.size + 1 + 1 + 1, 1, none⟩ = some (.int .i64 x.msg) := X3.cell 1
  have X3f1 : w3.frozen? ⟨w.heap.size + 1 + 1 + 1, 1, none⟩ = false := X3.free 1
  have X3z : w.heap.size + 1 + 1 + 1 < w3.heap.size := X3.lt
  have zz1p : w.heap.size < w3.heap.size + 1 := by omega
  have zz1c : w.heap.size + 1 < w3.heap.size + 1 := by omega
  have zz1s : w.heap.size + 1 + 1 < w3.heap.size + 1 := by omega
  have zz1x : w.heap.size + 1 + 1 + 1 < w3.heap.size + 1 := by omega
  have zz2p : w.heap.size < w3.heap.size + 1 + 1 := by omega
  have zz2c : w.heap.size + 1 < w3.heap.size + 1 + 1 := by omega
  have zz2s : w.heap.size + 1 + 1 < w3.heap.size + 1 + 1 := by omega
  have zz2x : w.heap.size + 1 + 1 + 1 < w3.heap.size + 1 + 1 := by omega
  have zz3p : w.heap.size < w3.heap.size + 1 + 1 + 1 := by omega
  have zz3c : w.heap.size + 1 < w3.heap.size + 1 + 1 + 1 := by omega
  have zz3s : w.heap.size + 1 + 1 < w3.heap.size + 1 + 1 + 1 := by omega
  have zz3x : w.heap.size + 1 + 1 + 1 < w3.heap.size + 1 + 1 + 1 := by omega
  go_wp2_with fail
  clear zz1p zz1c zz1s zz1x zz2p zz2c zz2s zz2x zz3p zz3c zz3s zz3x
  clear X0c0 X0f0 X0c1 X0f1 X0c2 X0f2 X0c3 X0f3 X0c4 X0f4 X0c5 X0f5 X0c6 X0f6 X0c7 X0f7 X0c8 X0f8 X0c9 X0f9 X0c10 X0f10 X0c11 X0f11 X0z X1c0 X1f0 X1z X2c0 X2f0 X2c1 X2f1 X2c2 X2f2 X2c3 X2f3 X2c4 X2f4 X2c5 X2f5 X2z X3c0 X3f0 X3c1 X3f1 X3z
  have X0 := ((((X0.alloc (.cells #[.int .i64 l0, .int .i64 s.position, .int .i64 q0, .int .i64 q1, .int .i64 d0, .int .i64 a0] 26)).alloc (.cells #[.slice none 0 0, .int .i64 m] 53)).alloc (.cells #[.int .i64 0, .int .i64 1, .int .i64 0] 55)).alloc (.cells #[.slice (some ⟨w3.heap.size + 1 + 1, 0, none⟩) 1 1, .int .i64 m] 53))
  have X1 := ((((X1.alloc (.cells #[.int .i64 l0, .int .i64 s.position, .int .i64 q0, .int .i64 q1, .int .i64 d0, .int .i64 a0] 26)).alloc (.cells #[.slice none 0 0, .int .i64 m] 53)).alloc (.cells #[.int .i64 0, .int .i64 1, .int .i64 0] 55)).alloc (.cells #[.slice (some ⟨w3.heap.size + 1 + 1, 0, none⟩) 1 1, .int .i64 m] 53))
  have X2 := ((((X2.alloc (.cells #[.int .i64 l0, .int .i64 s.position, .int .i64 q0, .int .i64 q1, .int .i64 d0, .int .i64 a0] 26)).alloc (.cells #[.slice none 0 0, .int .i64 m] 53)).alloc (.cells #[.int .i64 0, .int .i64 1, .int .i64 0] 55)).alloc (.cells #[.slice (some ⟨w3.heap.size + 1 + 1, 0, none⟩) 1 1, .int .i64 m] 53))
  have X3 := ((((X3.alloc (.cells #[.int .i64 l0, .int .i64 s.position, .int .i64 q0, .int .i64 q1, .int .i64 d0, .int .i64 a0] 26)).alloc (.cells #[.slice none 0 0, .int .i64 m] 53)).alloc (.cells #[.int .i64 0, .int .i64 1, .int .i64 0] 55)).alloc (.cells #[.slice (some ⟨w3.heap.size + 1 + 1, 0, none⟩) 1 1, .int .i64 m] 53))
  have B0 := ((((Box.newAt (w := w3) (n := w3.heap.size) [.int .i64 l0, .int .i64 s.position, .int .i64 q0, .int .i64 q1, .int .i64 d0, .int .i64 a0] 26 (by simp)).alloc (.cells #[.slice none 0 0, .int .i64 m] 53)).alloc (.cells #[.int .i64 0, .int .i64 1, .int .i64 0] 55)).alloc (.cells #[.slice (some ⟨w3.heap.size + 1 + 1, 0, none⟩) 1 1, .int .i64 m] 53))
  have AL := (((Box.newAt (w := (w3.alloc (.cells #[.int .i64 l0, .int .i64 s.position, .int .i64 q0, .int .i64 q1, .int .i64 d0, .int .i64 a0] 26))) (n := w3.heap.size + 1) [.slice none 0 0, .int .i64 m] 53 (by simp)).alloc (.cells #[.int .i64 0, .int .i64 1, .int .i64 0] 55)).alloc (.cells #[.slice (some ⟨w3.heap.size + 1 + 1, 0, none⟩) 1 1, .int .i64 m] 53))
  have NC := ((Box.newAt (w := ((w3.alloc (.cells #[.int .i64 l0, .int .i64 s.position, .int .i64 q0, .int .i64 q1, .int .i64 d0, .int .i64 a0] 26)).alloc (.cells #[.slice none 0 0, .int .i64 m] 53))) (n := w3.heap.size + 1 + 1) [.int .i64 0, .int .i64 1, .int .i64 0] 55 (by simp)).alloc (.cells #[.slice (some ⟨w3.heap.size + 1 + 1, 0, none⟩) 1 1, .int .i64 m] 53))
  have NL := (Box.newAt (w := (((w3.alloc (.cells #[.int .i64 l0, .int .i64 s.position, .int .i64 q0, .int .i64 q1, .int .i64 d0, .int .i64 a0] 26)).alloc (.cells #[.slice none 0 0, .int .i64 m] 53)).alloc (.cells #[.int .i64 0, .int .i64 1, .int .i64 0] 55))) (n := w3.heap.size + 1 + 1 + 1) [.slice (some ⟨w3.heap.size + 1 + 1, 0, none⟩) 1 1, .int .i64 m] 53 (by simp))
  have hB := ((((hB.alloc hB.size (.cells #[.int .i64 l0, .int .i64 s.position, .int .i64 q0, .int .i64 q1, .int .i64 d0, .int .i64 a0] 26)).alloc (by have := hB.size; simp; omega) (.cells #[.slice none 0 0, .int .i64 m] 53)).alloc (by have := hB.size; simp; omega) (.cells #[.int .i64 0, .int .i64 1, .int .i64 0] 55)).alloc (by have := hB.size; simp; omega) (.cells #[.slice (some ⟨w3.heap.size + 1 + 1, 0, none⟩) 1 1, .int .i64 m] 53))
  generalize ((((w3.alloc (.cells #[.int .i64 l0, .int .i64 s.position, .int .i64 q0, .int .i64 q1, .int .i64 d0, .int .i64 a0] 26)).alloc (.cells #[.slice none 0 0, .int .i64 m] 53)).alloc (.cells #[.int .i64 0, .int .i64 1, .int .i64 0] 55)).alloc (.cells #[.slice (some ⟨w3.heap.size + 1 + 1, 0, none⟩) 1 1, .int .i64 m] 53)) = w4 at hB X0 X1 X2 X3 B0 AL NC NL ⊢
  refine (next_is h1 ((hC.out.below hB).more hB.size)).mono ?_
  rintro e w5 ⟨rfl, hb⟩
  have X0 := X0.later hb
  have X1 := X1.later hb
  have X2 := X2.later hb
  have X3 := X3.later hb
  have B0 := B0.later hb
  have AL := AL.later hb
  have NC := NC.later hb
  have NL := NL.later hb
  have hB := hB.trans (hb.mono hB.size)
  clear hb
  go_upto_region 11 with fail
  have nX0A0 : w.heap.size ≠ w5.heap.size := Nat.ne_of_lt (by have := X0.lt; omega)
  have nX1A0 : w.heap.size + 1 ≠ w5.heap.size := Nat.ne_of_lt (by have := X1.lt; omega)
  have nX2A0 : w.heap.size + 1 + 1 ≠ w5.heap.size := Nat.ne_of_lt (by have := X2.lt; omega)
  have nX3A0 : w.heap.size + 1 + 1 + 1 ≠ w5.heap.size := Nat.ne_of_lt (by have := X3.lt; omega)
  have nB0A0 : w3.heap.size ≠ w5.heap.size := Nat.ne_of_lt (by have := B0.lt; omega)
  have nALA0 : w3.heap.size + 1 ≠ w5.heap.size := Nat.ne_of_lt (by have := AL.lt; omega)
  have nNCA0 : w3.heap.size + 1 + 1 ≠ w5.heap.size := Nat.ne_of_lt (by have := NC.lt; omega)
  have nNLA0 : w3.heap.size + 1 + 1 + 1 ≠ w5.heap.size := Nat.ne_of_lt (by have := NL.lt; omega)
  have gA0 : w.heap.size ≤ w5.heap.size := by have := hB.size; omega
  have X0 := (X0.alloc (.cells #[.int .i64 t1.level, .int .i64 t1.position, .int .i64 t1.p0, .int .i64 t1.p1, .int .i64 t1.order, .int .i64 t1.age] 26))
  have X1 := (X1.alloc (.cells #[.int .i64 t1.level, .int .i64 t1.position, .int .i64 t1.p0, .int .i64 t1.p1, .int .i64 t1.order, .int .i64 t1.age] 26))
  have X2 := (X2.alloc (.cells #[.int .i64 t1.level, .int .i64 t1.position, .int .i64 t1.p0, .int .i64 t1.p1, .int .i64 t1.order, .int .i64 t1.age] 26))
  have X3 := (X3.alloc (.cells #[.int .i64 t1.level, .int .i64 t1.position, .int .i64 t1.p0, .int .i64 t1.p1, .int .i64 t1.order, .int .i64 t1.age] 26))
  have B0 := (B0.alloc (.cells #[.int .i64 t1.level, .int .i64 t1.position, .int .i64 t1.p0, .int .i64 t1.p1, .int .i64 t1.order, .int .i64 t1.age] 26))
  have AL := (AL.alloc (.cells #[.int .i64 t1.level, .int .i64 t1.position, .int .i64 t1.p0, .int .i64 t1.p1, .int .i64 t1.order, .int .i64 t1.age] 26))
  have NC := (NC.alloc (.cells #[.int .i64 t1.level, .int .i64 t1.position, .int .i64 t1.p0, .int .i64 t1.p1, .int .i64 t1.order, .int .i64 t1.age] 26))
  have NL := (NL.alloc (.cells #[.int .i64 t1.level, .int .i64 t1.position, .int .i64 t1.p0, .int .i64 t1.p1, .int .i64 t1.order, .int .i64 t1.age] 26))
  have A0 := (Box.newAt (w := w5) (n := w5.heap.size) [.int .i64 t1.level, .int .i64 t1.position, .int .i64 t1.p0, .int .i64 t1.p1, .int .i64 t1.order, .int .i64 t1.age] 26 (by simp))
  have hB := (hB.alloc hB.size (.cells #[.int .i64 t1.level, .int .i64 t1.position, .int .i64 t1.p0, .int .i64 t1.p1, .int .i64 t1.order, .int .i64 t1.age] 26))
  generalize (w5.alloc (.cells #[.int .i64 t1.level, .int .i64 t1.position, .int .i64 t1.p0, .int .i64 t1.p1, .int .i64 t1.order, .int .i64 t1.age] 26)) = w6 at hB X0 X1 X2 X3 B0 AL NC NL A0 ⊢
  go_cut [19, 20, 21] (fun s19 s20 s21 wx => ∃ g : Nat, s19 = .pointer (some ⟨g, 0, none⟩) ∧ s20 = .int .i64 o1 ∧ s21 = .int .i64 0 ∧ w6.heap.size ≤ g ∧ Box wx g [.int .i64 t1.level, .int .i64 t1.position, .int .i64 t1.p0, .int .i64 t1.p1, .int .i64 t1.order, .int .i64 t1.age] ∧ Below w6.heap.size w6 wx)
  case first =>
    have KEEP : ∀ z, Below w6.heap.size w6 z → z.cell? ⟨w.heap.size, 0, none⟩ = some (.int .i64 p.top) ∧ z.cell? ⟨w.heap.size, 1, none⟩ = some (.int .i64 p.bank) ∧ z.cell? ⟨w.heap.size, 2, none⟩ = some (.int .i64 p.siphon) ∧ z.cell? ⟨w.heap.size, 3, none⟩ = some (.int .i64 p.start) ∧ z.cell? ⟨w.heap.size, 4, none⟩ = some (.int .i64 p.positions) ∧ z.cell? ⟨w.heap.size, 5, none⟩ = some (.int .i64 p.rate) ∧ z.cell? ⟨w.heap.size, 6, none⟩ = some (.int .i64 p.step) ∧ z.cell? ⟨w.heap.size, 7, none⟩ = some (.int .i64 p.pass) ∧ z.cell? ⟨w.heap.size, 8, none⟩ = some (.int .i64 p.feed) ∧ z.cell? ⟨w.heap.size, 9, none⟩ = some (.int .i64 p.pipe) ∧ z.cell? ⟨w.heap.size, 10, none⟩ = some (.int .i64 p.orders) ∧ z.cell? ⟨w.heap.size, 11, none⟩ = some (.int .i64 p.age) ∧ z.cell? ⟨w.heap.size + 1, 0, none⟩ = some (.slice A n c) ∧ z.cell? ⟨w.heap.size + 1 + 1, 0, none⟩ = some (.int .i64 s.level) ∧ z.cell? ⟨w.heap.size + 1 + 1, 1, none⟩ = some (.int .i64 s.position) ∧ z.cell? ⟨w.heap.size + 1 + 1, 2, none⟩ = some (.int .i64 s.p0) ∧ z.cell? ⟨w.heap.size + 1 + 1, 3, none⟩ = some (.int .i64 s.p1) ∧ z.cell? ⟨w.heap.size + 1 + 1, 4, none⟩ = some (.int .i64 s.order) ∧ z.cell? ⟨w.heap.size + 1 + 1, 5, none⟩ = some (.int .i64 s.age) ∧ z.cell? ⟨w.heap.size + 1 + 1 + 1, 0, none⟩ = some (.int .i64 x.feed) ∧ z.cell? ⟨w.heap.size + 1 + 1 + 1, 1, none⟩ = some (.int .i64 x.msg) ∧ z.cell? ⟨w3.heap.size + 1 + 1 + 1, 0, none⟩ = some (.slice (some ⟨w3.heap.size + 1 + 1, 0, none⟩) 1 1) ∧ z.cell? ⟨w3.heap.size + 1 + 1 + 1, 1, none⟩ = some (.int .i64 m) := fun z hz => ⟨(hz.cell X0.lt).trans (X0.cell 0), (hz.cell X0.lt).trans (X0.cell 1), (hz.cell X0.lt).trans (X0.cell 2), (hz.cell X0.lt).trans (X0.cell 3), (hz.cell X0.lt).trans (X0.cell 4), (hz.cell X0.lt).trans (X0.cell 5), (hz.cell X0.lt).trans (X0.cell 6), (hz.cell X0.lt).trans (X0.cell 7), (hz.cell X0.lt).trans (X0.cell 8), (hz.cell X0.lt).trans (X0.cell 9), (hz.cell X0.lt).trans (X0.cell 10), (hz.cell X0.lt).trans (X0.cell 11), (hz.cell X1.lt).trans (X1.cell 0), (hz.cell X2.lt).trans (X2.cell 0), (hz.cell X2.lt).trans (X2.cell 1), (hz.cell X2.lt).trans (X2.cell 2), (hz.cell X2.lt).trans (X2.cell 3), (hz.cell X2.lt).trans (X2.cell 4), (hz.cell X2.lt).trans (X2.cell 5), (hz.cell X3.lt).trans (X3.cell 0), (hz.cell X3.lt).trans (X3.cell 1), (hz.cell NL.lt).trans (NL.cell 0), (hz.cell NL.lt).trans (NL.cell 1)⟩
    have HKEEP := Lib.hid KEEP
    clear KEEP
    have HC2 := Lib.hid ((hC.out.below hB).more hB.size)
    have HL2 : Hid (CondsAt w6 w6.heap.size (.slice (some ⟨w3.heap.size + 1 + 1, 0, none⟩) 1 1) [⟨0, 1, 0⟩]) := condsAt_one (c := ⟨0, 1, 0⟩) NC NC.lt
    have hzw := Below.refl w6.heap.size w6
    have hz : Below w6.heap.size w6 w6.drew := hzw.drew
    have hlen : code.length ≤ 60 := by rw [hn.out]; omega
    have HLEN := Lib.hid hlen
    clear hlen
    go_region_held3 (fun z => z.cell? ⟨w.heap.size, 0, none⟩ = some (.int .i64 p.top) ∧ z.cell? ⟨w.heap.size, 1, none⟩ = some (.int .i64 p.bank) ∧ z.cell? ⟨w.heap.size, 2, none⟩ = some (.int .i64 p.siphon) ∧ z.cell? ⟨w.heap.size, 3, none⟩ = some (.int .i64 p.start) ∧ z.cell? ⟨w.heap.size, 4, none⟩ = some (.int .i64 p.positions) ∧ z.cell? ⟨w.heap.size, 5, none⟩ = some (.int .i64 p.rate) ∧ z.cell? ⟨w.heap.size, 6, none⟩ = some (.int .i64 p.step) ∧ z.cell? ⟨w.heap.size, 7, none⟩ = some (.int .i64 p.pass) ∧ z.cell? ⟨w.heap.size, 8, none⟩ = some (.int .i64 p.feed) ∧ z.cell? ⟨w.heap.size, 9, none⟩ = some (.int .i64 p.pipe) ∧ z.cell? ⟨w.heap.size, 10, none⟩ = some (.int .i64 p.orders) ∧ z.cell? ⟨w.heap.size, 11, none⟩ = some (.int .i64 p.age) ∧ z.cell? ⟨w.heap.size + 1, 0, none⟩ = some (.slice A n c) ∧ z.cell? ⟨w.heap.size + 1 + 1, 0, none⟩ = some (.int .i64 s.level) ∧ z.cell? ⟨w.heap.size + 1 + 1, 1, none⟩ = some (.int .i64 s.position) ∧ z.cell? ⟨w.heap.size + 1 + 1, 2, none⟩ = some (.int .i64 s.p0) ∧ z.cell? ⟨w.heap.size + 1 + 1, 3, none⟩ = some (.int .i64 s.p1) ∧ z.cell? ⟨w.heap.size + 1 + 1, 4, none⟩ = some (.int .i64 s.order) ∧ z.cell? ⟨w.heap.size + 1 + 1, 5, none⟩ = some (.int .i64 s.age) ∧ z.cell? ⟨w.heap.size + 1 + 1 + 1, 0, none⟩ = some (.int .i64 x.feed) ∧ z.cell? ⟨w.heap.size + 1 + 1 + 1, 1, none⟩ = some (.int .i64 x.msg) ∧ z.cell? ⟨w3.heap.size + 1 + 1 + 1, 0, none⟩ = some (.slice (some ⟨w3.heap.size + 1 + 1, 0, none⟩) 1 1) ∧ z.cell? ⟨w3.heap.size + 1 + 1 + 1, 1, none⟩ = some (.int .i64 m))
      (first | (with_reducible exact HKEEP.out _ hz) | (with_reducible exact HKEEP.out _ (hzw.alloc (Nat.le_refl _) _).drew) | (with_reducible exact HKEEP.out _ ((hzw.alloc (Nat.le_refl _) _).alloc (by simp) _).drew) | (with_reducible exact HKEEP.out _ (hz.alloc hz.size _)) | (with_reducible exact HKEEP.out _ ((hz.alloc hz.size _).alloc (Nat.le_trans hz.size (by simp)) _)) | (with_reducible exact HKEEP.out _ (Below.six hz hDg _ _ _ _ _ _))  | (go_keep; done))
      (first
        | (refine step_prepend (W := w6) (B := w6.heap.size) (b := w6.heap.size) (lv := .slice (some ⟨w3.heap.size + 1 + 1, 0, none⟩) 1 1) (l := ⟨[⟨0, 1, 0⟩], m⟩) (by rfl) (.tmp 71) (.tmp 73) (by rfl) (by rfl) (by rfl) HC2.out hV HLEN.out HL2.out (hzw.alloc (Nat.le_refl _) (.cells #[.slice (some ⟨w3.heap.size + 1 + 1, 0, none⟩) 1 1, .int .i64 m] 53)).drew (by simp) (new_a _ _ _) ?_; intro A' n' c' z' HC3 hz hne)
        | (refine step_prepend (W := w6) (B := w6.heap.size) (b := w6.heap.size + 1) (lv := .slice (some ⟨w3.heap.size + 1 + 1, 0, none⟩) 1 1) (l := ⟨[⟨0, 1, 0⟩], m⟩) (by rfl) (.tmp 71) (.tmp 73) (by rfl) (by rfl) (by rfl) HC2.out hV HLEN.out HL2.out ((hzw.alloc (Nat.le_refl _) (.cells #[.int .i64 0, .int .i64 0, .int .i64 0, .int .i64 0, .int .i64 0, .int .i64 0] 26)).alloc (by simp) (.cells #[.slice (some ⟨w3.heap.size + 1 + 1, 0, none⟩) 1 1, .int .i64 m] 53)).drew (by simp) (new_b _ _ _ _) ?_; intro A' n' c' z' HC3 hz hne; have hDg : w6.heap.size ≤ w6.heap.size := Nat.le_refl _; have DZ : Box (z') (w6.heap.size) [.int .i64 0, .int .i64 0, .int .i64 0, .int .i64 0, .int .i64 0, .int .i64 0] := ((Box.newAt (w := w6) (n := w6.heap.size) [.int .i64 0, .int .i64 0, .int .i64 0, .int .i64 0, .int .i64 0, .int .i64 0] 26 rfl).alloc (.cells #[.slice (some ⟨w3.heap.size + 1 + 1, 0, none⟩) 1 1, .int .i64 m] 53)).drew.same (hne _ (by simp; omega) (by simp)))
        | (refine step_prepend (W := w6) (B := w6.heap.size) (b := w6.heap.size) (lv := .slice (some ⟨w3.heap.size + 1 + 1, 0, none⟩) 1 1) (l := ⟨[⟨0, 1, 0⟩], m⟩) (by rfl) (.tmp 71) (.tmp 73) (by rfl) (by rfl) (by rfl) HC2.out hV HLEN.out HL2.out ((hzw.alloc (Nat.le_refl _) (.cells #[.slice (some ⟨w3.heap.size + 1 + 1, 0, none⟩) 1 1, .int .i64 m] 53)).alloc (by simp) (.cells #[.int .i64 0, .int .i64 0, .int .i64 0, .int .i64 0, .int .i64 0, .int .i64 0] 26)).drew (by simp) (new_c _ _ _ _) ?_; intro A' n' c' z' HC3 hz hne; have hDg : w6.heap.size ≤ w6.heap.size + 1 := Nat.le_succ _; have DZ : Box (z') (w6.heap.size + 1) [.int .i64 0, .int .i64 0, .int .i64 0, .int .i64 0, .int .i64 0, .int .i64 0] := (Box.newAt (w := w6.alloc (.cells #[.slice (some ⟨w3.heap.size + 1 + 1, 0, none⟩) 1 1, .int .i64 m] 53)) (n := w6.heap.size + 1) [.int .i64 0, .int .i64 0, .int .i64 0, .int .i64 0, .int .i64 0, .int .i64 0] 26 (by simp)).drew.same (hne _ (by simp) (by simp)))
        | (go_simp; go_at_call 20; with_reducible refine (next_is h2 HC3).mono ?_; rintro e z4 ⟨rfl, hb4⟩; dsimp only; have hz : Below w6.heap.size w6 z4 := hz.trans (hb4.mono hz.size); try (have DZ := DZ.later hb4; obtain ⟨⟨dc0, dc1, dc2, dc3, dc4, dc5⟩, ⟨df0, df1, df2, df3, df4, df5⟩, dzz⟩ := DZ.six))
        | (go_simp; go_at_call 20; with_reducible refine (next_is h2 (HC3.later ((Below.refl _ _).alloc (Nat.le_refl _) (.cells #[.int .i64 0, .int .i64 0, .int .i64 0, .int .i64 0, .int .i64 0, .int .i64 0] 26)))).mono ?_; rintro e z4 ⟨rfl, hb4⟩; dsimp only; have hz0 := hz; have hz : Below w6.heap.size w6 z4 := (hz.alloc hz.size (.cells #[.int .i64 0, .int .i64 0, .int .i64 0, .int .i64 0, .int .i64 0, .int .i64 0] 26)).trans (hb4.mono (Nat.le_trans hz.size (by simp))); have DZ : Box (z4) (z'.heap.size) [.int .i64 0, .int .i64 0, .int .i64 0, .int .i64 0, .int .i64 0, .int .i64 0] := (Box.newAt (w := z') (n := z'.heap.size) [.int .i64 0, .int .i64 0, .int .i64 0, .int .i64 0, .int .i64 0, .int .i64 0] 26 rfl).later hb4; have hDg : w6.heap.size ≤ z'.heap.size := hz0.size; obtain ⟨⟨dc0, dc1, dc2, dc3, dc4, dc5⟩, ⟨df0, df1, df2, df3, df4, df5⟩, dzz⟩ := DZ.six))
    all_goals (go_wp2_with fail; go_meet)
    all_goals first | exact ⟨_, rfl, rfl, rfl, hz.size, Box.newAt _ _ rfl, hz.alloc hz.size _⟩ | exact ⟨_, rfl, rfl, rfl, hDg, Box.sixSet DZ _ _ _ _ _ _, Below.six hz hDg _ _ _ _ _ _⟩
  case rest =>
    obtain ⟨gB, rfl, rfl, rfl, hgB, BX, hb⟩ := hcut
    have nX0BX : w.heap.size ≠ gB := Nat.ne_of_lt (by have := X0.lt; omega)
    have nBXX0 : gB ≠ w.heap.size := Nat.ne_of_gt (by have := X0.lt; omega)
    have nX1BX : w.heap.size + 1 ≠ gB := Nat.ne_of_lt (by have := X1.lt; omega)
    have nBXX1 : gB ≠ w.heap.size + 1 := Nat.ne_of_gt (by have := X1.lt; omega)
    have nX2BX : w.heap.size + 1 + 1 ≠ gB := Nat.ne_of_lt (by have := X2.lt; omega)
    have nBXX2 : gB ≠ w.heap.size + 1 + 1 := Nat.ne_of_gt (by have := X2.lt; omega)
    have nX3BX : w.heap.size + 1 + 1 + 1 ≠ gB := Nat.ne_of_lt (by have := X3.lt; omega)
    have nBXX3 : gB ≠ w.heap.size + 1 + 1 + 1 := Nat.ne_of_gt (by have := X3.lt; omega)
    have nB0BX : w3.heap.size ≠ gB := Nat.ne_of_lt (by have := B0.lt; omega)
    have nBXB0 : gB ≠ w3.heap.size := Nat.ne_of_gt (by have := B0.lt; omega)
    have nALBX : w3.heap.size + 1 ≠ gB := Nat.ne_of_lt (by have := AL.lt; omega)
    have nBXAL : gB ≠ w3.heap.size + 1 := Nat.ne_of_gt (by have := AL.lt; omega)
    have nNCBX : w3.heap.size + 1 + 1 ≠ gB := Nat.ne_of_lt (by have := NC.lt; omega)
    have nBXNC : gB ≠ w3.heap.size + 1 + 1 := Nat.ne_of_gt (by have := NC.lt; omega)
    have nNLBX : w3.heap.size + 1 + 1 + 1 ≠ gB := Nat.ne_of_lt (by have := NL.lt; omega)
    have nBXNL : gB ≠ w3.heap.size + 1 + 1 + 1 := Nat.ne_of_gt (by have := NL.lt; omega)
    have nA0BX : w5.heap.size ≠ gB := Nat.ne_of_lt (by have := A0.lt; omega)
    have nBXA0 : gB ≠ w5.heap.size := Nat.ne_of_gt (by have := A0.lt; omega)
    have gBX : w.heap.size ≤ gB := by have := hB.size; omega
    have X0 := X0.later hb
    have X1 := X1.later hb
    have X2 := X2.later hb
    have X3 := X3.later hb
    have B0 := B0.later hb
    have AL := AL.later hb
    have NC := NC.later hb
    have NL := NL.later hb
    have A0 := A0.later hb
    have hB := hB.trans (hb.mono hB.size)
    clear hb hgB
    have X0c0 : wc.cell? ⟨w.heap.size, 0, none⟩ = some (.int .i64 p.top) := X0.cell 0
    have X0f0 : wc.frozen? ⟨w.heap.size, 0, none⟩ = false := X0.free 0
    have X0c1 : wc.cell? ⟨w.heap.size, 1, none⟩ = some (.int .i64 p.bank) := X0.cell 1
    have X0f1 : wc.frozen? ⟨w.heap.size, 1, none⟩ = false := X0.free 1
    have X0c2 : wc.cell? ⟨w.heap.size, 2, none⟩ = some (.int .i64 p.siphon) := X0.cell 2
    have X0f2 : wc.frozen? ⟨w.heap.size, 2, none⟩ = false := X0.free 2
    have X0c3 : wc.cell? ⟨w.heap.size, 3, none⟩ = some (.int .i64 p.start) := X0.cell 3
    have X0f3 : wc.frozen? ⟨w.heap.size, 3, none⟩ = false := X0.free 3
    have X0c4 : wc.cell? ⟨w.heap.size, 4, none⟩ = some (.int .i64 p.positions) := X0.cell 4
    have X0f4 : wc.frozen? ⟨w.heap.size, 4, none⟩ = false := X0.free 4
    have X0c5 : wc.cell? ⟨w.heap.size, 5, none⟩ = some (.int .i64 p.rate) := X0.cell 5
    have X0f5 : wc.frozen? ⟨w.heap.size, 5, none⟩ = false := X0.free 5
    have X0c6 : wc.cell? ⟨w.heap.size, 6, none⟩ = some (.int .i64 p.step) := X0.cell 6
    have X0f6 : wc.frozen? ⟨w.heap.size, 6, none⟩ = false := X0.free 6
    have X0c7 : wc.cell? ⟨w.heap.size, 7, none⟩ = some (.int .i64 p.pass) := X0.cell 7
    have X0f7 : wc.frozen? ⟨w.heap.size, 7, none⟩ = false := X0.free 7
    have X0c8 : wc.cell? ⟨w.heap.size, 8, none⟩ = some (.int .i64 p.feed) := X0.cell 8
    have X0f8 : wc.frozen? ⟨w.heap.size, 8, none⟩ = false := X0.free 8
    have X0c9 : wc.cell? ⟨w.heap.size, 9, none⟩ = some (.int .i64 p.pipe) := X0.cell 9
    have X0f9 : wc.frozen? ⟨w.heap.size, 9, none⟩ = false := X0.free 9
    have X0c10 : wc.cell? ⟨w.heap.size, 10, none⟩ = some (.int .i64 p.orders) := X0.cell 10
    have X0f10 : wc.frozen? ⟨w.heap.size, 10, none⟩ = false := X0.free 10
    have X0c11 : wc.cell? ⟨w.heap.size, 11, none⟩ = some (.int .i64 p.age) := X0.cell 11
    have X0f11 : wc.frozen? ⟨w.heap.size, 11, none⟩ = false := X0.free 11
    have X0z : w.heap.size < wc.heap.size := X0.lt
    have X2c0 : wc.cell? ⟨w.heap.size + 1 + 1, 0, none⟩ = some (.int .i64 s.level) := X2.cell 0
    have X2f0 : wc.frozen? ⟨w.heap.size + 1 + 1, 0, none⟩ = false := X2.free 0
    have X2c1 : wc.cell? ⟨w.heap.size + 1 + 1, 1, none⟩ = some (.int .i64 s.position) := X2.cell 1
    have X2f1 : wc.frozen? ⟨w.heap.size + 1 + 1, 1, none⟩ = false := X2.free 1
    have X2c2 : wc.cell? ⟨w.heap.size + 1 + 1, 2, none⟩ = some (.int .i64 s.p0) := X2.cell 2
    have X2f2 : wc.frozen? ⟨w.heap.size + 1 + 1, 2, none⟩ = false := X2.free 2
    have X2c3 : wc.cell? ⟨w.heap.size + 1 + 1, 3, none⟩ = some (.int .i64 s.p1) := X2.cell 3
    have X2f3 : wc.frozen? ⟨w.heap.size + 1 + 1, 3, none⟩ = false := X2.free 3
    have X2c4 : wc.cell? ⟨w.heap.size + 1 + 1, 4, none⟩ = some (.int .i64 s.order) := X2.cell 4
    have X2f4 : wc.frozen? ⟨w.heap.size + 1 + 1, 4, none⟩ = false := X2.free 4
    have X2c5 : wc.cell? ⟨w.heap.size + 1 + 1, 5, none⟩ = some (.int .i64 s.age) := X2.cell 5
    have X2f5 : wc.frozen? ⟨w.heap.size + 1 + 1, 5, none⟩ = false := X2.free 5
    have X2z : w.heap.size + 1 + 1 < wc.heap.size := X2.lt
    have X3c0 : wc.cell? ⟨w.heap.size + 1 + 1 + 1, 0, none⟩ = some (.int .i64 x.feed) := X3.cell 0
    have X3f0 : wc.frozen? ⟨w.heap.size + 1 + 1 + 1, 0, none⟩ = false := X3.free 0
    have X3c1 : wc.cell? ⟨w.heap.size + 1 + 1 + 1, 1, none⟩ = some (.int .i64 x.msg) := X3.cell 1
    have X3f1 : wc.frozen? ⟨w.heap.size + 1 + 1 + 1, 1, none⟩ = false := X3.free 1
    have X3z : w.heap.size + 1 + 1 + 1 < wc.heap.size := X3.lt
    have A0c0 : wc.cell? ⟨w5.heap.size, 0, none⟩ = some (.int .i64 t1.level) := A0.cell 0
    have A0f0 : wc.frozen? ⟨w5.heap.size, 0, none⟩ = false := A0.free 0
    have A0c1 : wc.cell? ⟨w5.heap.size, 1, none⟩ = some (.int .i64 t1.position) := A0.cell 1
    have A0f1 : wc.frozen? ⟨w5.heap.size, 1, none⟩ = false := A0.free 1
    have A0c2 : wc.cell? ⟨w5.heap.size, 2, none⟩ = some (.int .i64 t1.p0) := A0.cell 2
    have A0f2 : wc.frozen? ⟨w5.heap.size, 2, none⟩ = false := A0.free 2
    have A0c3 : wc.cell? ⟨w5.heap.size, 3, none⟩ = some (.int .i64 t1.p1) := A0.cell 3
    have A0f3 : wc.frozen? ⟨w5.heap.size, 3, none⟩ = false := A0.free 3
    have A0c4 : wc.cell? ⟨w5.heap.size, 4, none⟩ = some (.int .i64 t1.order) := A0.cell 4
    have A0f4 : wc.frozen? ⟨w5.heap.size, 4, none⟩ = false := A0.free 4
    have A0c5 : wc.cell? ⟨w5.heap.size, 5, none⟩ = some (.int .i64 t1.age) := A0.cell 5
    have A0f5 : wc.frozen? ⟨w5.heap.size, 5, none⟩ = false := A0.free 5
    have A0z : w5.heap.size < wc.heap.size := A0.lt
    have BXc0 : wc.cell? ⟨gB, 0, none⟩ = some (.int .i64 t1.level) := BX.cell 0
    have BXf0 : wc.frozen? ⟨gB, 0, none⟩ = false := BX.free 0
    have BXc1 : wc.cell? ⟨gB, 1, none⟩ = some (.int .i64 t1.position) := BX.cell 1
    have BXf1 : wc.frozen? ⟨gB, 1, none⟩ = false := BX.free 1
    have BXc2 : wc.cell? ⟨gB, 2, none⟩ = some (.int .i64 t1.p0) := BX.cell 2
    have BXf2 : wc.frozen? ⟨gB, 2, none⟩ = false := BX.free 2
    have BXc3 : wc.cell? ⟨gB, 3, none⟩ = some (.int .i64 t1.p1) := BX.cell 3
    have BXf3 : wc.frozen? ⟨gB, 3, none⟩ = false := BX.free 3
    have BXc4 : wc.cell? ⟨gB, 4, none⟩ = some (.int .i64 t1.order) := BX.cell 4
    have BXf4 : wc.frozen? ⟨gB, 4, none⟩ = false := BX.free 4
    have BXc5 : wc.cell? ⟨gB, 5, none⟩ = some (.int .i64 t1.age) := BX.cell 5
    have BXf5 : wc.frozen? ⟨gB, 5, none⟩ = false := BX.free 5
    have BXz : gB < wc.heap.size := BX.lt
    have ALc0 : wc.cell? ⟨w3.heap.size + 1, 0, none⟩ = some (.slice none 0 0) := AL.cell 0
    have ALf0 : wc.frozen? ⟨w3.heap.size + 1, 0, none⟩ = false := AL.free 0
    have ALc1 : wc.cell? ⟨w3.heap.size + 1, 1, none⟩ = some (.int .i64 m) := AL.cell 1
    have ALf1 : wc.frozen? ⟨w3.heap.size + 1, 1, none⟩ = false := AL.free 1
    have ALz : w3.heap.size + 1 < wc.heap.size := AL.lt
    go_wp2_with fail
    refine (next_is h3 (codeAt_bare (n := m) (Box.newAt (n := wc.heap.size) [.slice none 0 0, .int .i64 m] 53 rfl) (by simp))).mono ?_
    rintro e w7 ⟨rfl, hb⟩
    clear X0c0 X0f0 X0c1 X0f1 X0c2 X0f2 X0c3 X0f3 X0c4 X0f4 X0c5 X0f5 X0c6 X0f6 X0c7 X0f7 X0c8 X0f8 X0c9 X0f9 X0c10 X0f10 X0c11 X0f11 X0z X2c0 X2f0 X2c1 X2f1 X2c2 X2f2 X2c3 X2f3 X2c4 X2f4 X2c5 X2f5 X2z X3c0 X3f0 X3c1 X3f1 X3z A0c0 A0f0 A0c1 A0f1 A0c2 A0f2 A0c3 A0f3 A0c4 A0f4 A0c5 A0f5 A0z BXc0 BXf0 BXc1 BXf1 BXc2 BXf2 BXc3 BXf3 BXc4 BXf4 BXc5 BXf5 BXz ALc0 ALf0 ALc1 ALf1 ALz
    have nLSA0 : wc.heap.size ≠ w5.heap.size := Nat.ne_of_gt (by have := A0.lt; omega)
    have nLSBX : wc.heap.size ≠ gB := Nat.ne_of_gt (by have := BX.lt; omega)
    have LS := ((Box.newAt (w := wc) (n := wc.heap.size) [.slice none 0 0, .int .i64 m] 53 (by simp))).later hb
    have X0 := ((X0.alloc (.cells #[.slice none 0 0, .int .i64 m] 53))).later hb
    have X1 := ((X1.alloc (.cells #[.slice none 0 0, .int .i64 m] 53))).later hb
    have X2 := ((X2.alloc (.cells #[.slice none 0 0, .int .i64 m] 53))).later hb
    have X3 := ((X3.alloc (.cells #[.slice none 0 0, .int .i64 m] 53))).later hb
    have B0 := ((B0.alloc (.cells #[.slice none 0 0, .int .i64 m] 53))).later hb
    have AL := ((AL.alloc (.cells #[.slice none 0 0, .int .i64 m] 53))).later hb
    have NC := ((NC.alloc (.cells #[.slice none 0 0, .int .i64 m] 53))).later hb
    have NL := ((NL.alloc (.cells #[.slice none 0 0, .int .i64 m] 53))).later hb
    have A0 := ((A0.alloc (.cells #[.slice none 0 0, .int .i64 m] 53))).later hb
    have BX := ((BX.alloc (.cells #[.slice none 0 0, .int .i64 m] 53))).later hb
    have hB := (hB.alloc hB.size (.cells #[.slice none 0 0, .int .i64 m] 53)).trans (hb.mono (by have := hB.size; simp; omega))
    clear hb
    have A0c0 : w7.cell? ⟨w5.heap.size, 0, none⟩ = some (.int .i64 t1.level) := A0.cell 0
    have A0f0 : w7.frozen? ⟨w5.heap.size, 0, none⟩ = false := A0.free 0
    have A0c1 : w7.cell? ⟨w5.heap.size, 1, none⟩ = some (.int .i64 t1.position) := A0.cell 1
    have A0f1 : w7.frozen? ⟨w5.heap.size, 1, none⟩ = false := A0.free 1
    have A0c2 : w7.cell? ⟨w5.heap.size, 2, none⟩ = some (.int .i64 t1.p0) := A0.cell 2
    have A0f2 : w7.frozen? ⟨w5.heap.size, 2, none⟩ = false := A0.free 2
    have A0c3 : w7.cell? ⟨w5.heap.size, 3, none⟩ = some (.int .i64 t1.p1) := A0.cell 3
    have A0f3 : w7.frozen? ⟨w5.heap.size, 3, none⟩ = false := A0.free 3
    have A0c4 : w7.cell? ⟨w5.heap.size, 4, none⟩ = some (.int .i64 t1.order) := A0.cell 4
    have A0f4 : w7.frozen? ⟨w5.heap.size, 4, none⟩ = false := A0.free 4
    have A0c5 : w7.cell? ⟨w5.heap.size, 5, none⟩ = some (.int .i64 t1.age) := A0.cell 5
    have A0f5 : w7.frozen? ⟨w5.heap.size, 5, none⟩ = false := A0.free 5
    have A0z : w5.heap.size < w7.heap.size := A0.lt
    go_upto_region 17 with fail
    clear A0c0 A0f0 A0c1 A0f1 A0c2 A0f2 A0c3 A0f3 A0c4 A0f4 A0c5 A0f5 A0z
    have X0 := ((((((X0.other (a := ⟨w5.heap.size, 0, none⟩) nX0A0 (.int .i64 t3.level)).other (a := ⟨w5.heap.size, 1, none⟩) nX0A0 (.int .i64 t3.position)).other (a := ⟨w5.heap.size, 2, none⟩) nX0A0 (.int .i64 t3.p0)).other (a := ⟨w5.heap.size, 3, none⟩) nX0A0 (.int .i64 t3.p1)).other (a := ⟨w5.heap.size, 4, none⟩) nX0A0 (.int .i64 t3.order)).other (a := ⟨w5.heap.size, 5, none⟩) nX0A0 (.int .i64 t3.age))
    have X1 := ((((((X1.other (a := ⟨w5.heap.size, 0, none⟩) nX1A0 (.int .i64 t3.level)).other (a := ⟨w5.heap.size, 1, none⟩) nX1A0 (.int .i64 t3.position)).other (a := ⟨w5.heap.size, 2, none⟩) nX1A0 (.int .i64 t3.p0)).other (a := ⟨w5.heap.size, 3, none⟩) nX1A0 (.int .i64 t3.p1)).other (a := ⟨w5.heap.size, 4, none⟩) nX1A0 (.int .i64 t3.order)).other (a := ⟨w5.heap.size, 5, none⟩) nX1A0 (.int .i64 t3.age))
    have X2 := ((((((X2.other (a := ⟨w5.heap.size, 0, none⟩) nX2A0 (.int .i64 t3.level)).other (a := ⟨w5.heap.size, 1, none⟩) nX2A0 (.int .i64 t3.position)).other (a := ⟨w5.heap.size, 2, none⟩) nX2A0 (.int .i64 t3.p0)).other (a := ⟨w5.heap.size, 3, none⟩) nX2A0 (.int .i64 t3.p1)).other (a := ⟨w5.heap.size, 4, none⟩) nX2A0 (.int .i64 t3.order)).other (a := ⟨w5.heap.size, 5, none⟩) nX2A0 (.int .i64 t3.age))
    have X3 := ((((((X3.other (a := ⟨w5.heap.size, 0, none⟩) nX3A0 (.int .i64 t3.level)).other (a := ⟨w5.heap.size, 1, none⟩) nX3A0 (.int .i64 t3.position)).other (a := ⟨w5.heap.size, 2, none⟩) nX3A0 (.int .i64 t3.p0)).other (a := ⟨w5.heap.size, 3, none⟩) nX3A0 (.int .i64 t3.p1)).other (a := ⟨w5.heap.size, 4, none⟩) nX3A0 (.int .i64 t3.order)).other (a := ⟨w5.heap.size, 5, none⟩) nX3A0 (.int .i64 t3.age))
    have B0 := ((((((B0.other (a := ⟨w5.heap.size, 0, none⟩) nB0A0 (.int .i64 t3.level)).other (a := ⟨w5.heap.size, 1, none⟩) nB0A0 (.int .i64 t3.position)).other (a := ⟨w5.heap.size, 2, none⟩) nB0A0 (.int .i64 t3.p0)).other (a := ⟨w5.heap.size, 3, none⟩) nB0A0 (.int .i64 t3.p1)).other (a := ⟨w5.heap.size, 4, none⟩) nB0A0 (.int .i64 t3.order)).other (a := ⟨w5.heap.size, 5, none⟩) nB0A0 (.int .i64 t3.age))
    have AL := ((((((AL.other (a := ⟨w5.heap.size, 0, none⟩) nALA0 (.int .i64 t3.level)).other (a := ⟨w5.heap.size, 1, none⟩) nALA0 (.int .i64 t3.position)).other (a := ⟨w5.heap.size, 2, none⟩) nALA0 (.int .i64 t3.p0)).other (a := ⟨w5.heap.size, 3, none⟩) nALA0 (.int .i64 t3.p1)).other (a := ⟨w5.heap.size, 4, none⟩) nALA0 (.int .i64 t3.order)).other (a := ⟨w5.heap.size, 5, none⟩) nALA0 (.int .i64 t3.age))
    have NC := ((((((NC.other (a := ⟨w5.heap.size, 0, none⟩) nNCA0 (.int .i64 t3.level)).other (a := ⟨w5.heap.size, 1, none⟩) nNCA0 (.int .i64 t3.position)).other (a := ⟨w5.heap.size, 2, none⟩) nNCA0 (.int .i64 t3.p0)).other (a := ⟨w5.heap.size, 3, none⟩) nNCA0 (.int .i64 t3.p1)).other (a := ⟨w5.heap.size, 4, none⟩) nNCA0 (.int .i64 t3.order)).other (a := ⟨w5.heap.size, 5, none⟩) nNCA0 (.int .i64 t3.age))
    have NL := ((((((NL.other (a := ⟨w5.heap.size, 0, none⟩) nNLA0 (.int .i64 t3.level)).other (a := ⟨w5.heap.size, 1, none⟩) nNLA0 (.int .i64 t3.position)).other (a := ⟨w5.heap.size, 2, none⟩) nNLA0 (.int .i64 t3.p0)).other (a := ⟨w5.heap.size, 3, none⟩) nNLA0 (.int .i64 t3.p1)).other (a := ⟨w5.heap.size, 4, none⟩) nNLA0 (.int .i64 t3.order)).other (a := ⟨w5.heap.size, 5, none⟩) nNLA0 (.int .i64 t3.age))
    have A0 := ((((((A0.set 0 (.int .i64 t3.level)).set 1 (.int .i64 t3.position)).set 2 (.int .i64 t3.p0)).set 3 (.int .i64 t3.p1)).set 4 (.int .i64 t3.order)).set 5 (.int .i64 t3.age))
    have BX := ((((((BX.other (a := ⟨w5.heap.size, 0, none⟩) nBXA0 (.int .i64 t3.level)).other (a := ⟨w5.heap.size, 1, none⟩) nBXA0 (.int .i64 t3.position)).other (a := ⟨w5.heap.size, 2, none⟩) nBXA0 (.int .i64 t3.p0)).other (a := ⟨w5.heap.size, 3, none⟩) nBXA0 (.int .i64 t3.p1)).other (a := ⟨w5.heap.size, 4, none⟩) nBXA0 (.int .i64 t3.order)).other (a := ⟨w5.heap.size, 5, none⟩) nBXA0 (.int .i64 t3.age))
    have LS := ((((((LS.other (a := ⟨w5.heap.size, 0, none⟩) nLSA0 (.int .i64 t3.level)).other (a := ⟨w5.heap.size, 1, none⟩) nLSA0 (.int .i64 t3.position)).other (a := ⟨w5.heap.size, 2, none⟩) nLSA0 (.int .i64 t3.p0)).other (a := ⟨w5.heap.size, 3, none⟩) nLSA0 (.int .i64 t3.p1)).other (a := ⟨w5.heap.size, 4, none⟩) nLSA0 (.int .i64 t3.order)).other (a := ⟨w5.heap.size, 5, none⟩) nLSA0 (.int .i64 t3.age))
    have hB := ((((((hB.setCell (p := ⟨w5.heap.size, 0, none⟩) gA0 (.int .i64 t3.level)).setCell (p := ⟨w5.heap.size, 1, none⟩) gA0 (.int .i64 t3.position)).setCell (p := ⟨w5.heap.size, 2, none⟩) gA0 (.int .i64 t3.p0)).setCell (p := ⟨w5.heap.size, 3, none⟩) gA0 (.int .i64 t3.p1)).setCell (p := ⟨w5.heap.size, 4, none⟩) gA0 (.int .i64 t3.order)).setCell (p := ⟨w5.heap.size, 5, none⟩) gA0 (.int .i64 t3.age))
    generalize ((((((w7.setCell ⟨w5.heap.size, 0, none⟩ (.int .i64 t3.level)).setCell ⟨w5.heap.size, 1, none⟩ (.int .i64 t3.position)).setCell ⟨w5.heap.size, 2, none⟩ (.int .i64 t3.p0)).setCell ⟨w5.heap.size, 3, none⟩ (.int .i64 t3.p1)).setCell ⟨w5.heap.size, 4, none⟩ (.int .i64 t3.order)).setCell ⟨w5.heap.size, 5, none⟩ (.int .i64 t3.age)) = w8 at hB X0 X1 X2 X3 B0 AL NC NL A0 BX LS ⊢
    have KEEP : ∀ z, Below w8.heap.size w8 z → z.cell? ⟨w.heap.size, 0, none⟩ = some (.int .i64 p.top) ∧ z.cell? ⟨w.heap.size, 1, none⟩ = some (.int .i64 p.bank) ∧ z.cell? ⟨w.heap.size, 2, none⟩ = some (.int .i64 p.siphon) ∧ z.cell? ⟨w.heap.size, 3, none⟩ = some (.int .i64 p.start) ∧ z.cell? ⟨w.heap.size, 4, none⟩ = some (.int .i64 p.positions) ∧ z.cell? ⟨w.heap.size, 5, none⟩ = some (.int .i64 p.rate) ∧ z.cell? ⟨w.heap.size, 6, none⟩ = some (.int .i64 p.step) ∧ z.cell? ⟨w.heap.size, 7, none⟩ = some (.int .i64 p.pass) ∧ z.cell? ⟨w.heap.size, 8, none⟩ = some (.int .i64 p.feed) ∧ z.cell? ⟨w.heap.size, 9, none⟩ = some (.int .i64 p.pipe) ∧ z.cell? ⟨w.heap.size, 10, none⟩ = some (.int .i64 p.orders) ∧ z.cell? ⟨w.heap.size, 11, none⟩ = some (.int .i64 p.age) ∧ z.cell? ⟨w.heap.size + 1, 0, none⟩ = some (.slice A n c) ∧ z.cell? ⟨w.heap.size + 1 + 1, 0, none⟩ = some (.int .i64 s.level) ∧ z.cell? ⟨w.heap.size + 1 + 1, 1, none⟩ = some (.int .i64 s.position) ∧ z.cell? ⟨w.heap.size + 1 + 1, 2, none⟩ = some (.int .i64 s.p0) ∧ z.cell? ⟨w.heap.size + 1 + 1, 3, none⟩ = some (.int .i64 s.p1) ∧ z.cell? ⟨w.heap.size + 1 + 1, 4, none⟩ = some (.int .i64 s.order) ∧ z.cell? ⟨w.heap.size + 1 + 1, 5, none⟩ = some (.int .i64 s.age) ∧ z.cell? ⟨w.heap.size + 1 + 1 + 1, 0, none⟩ = some (.int .i64 x.feed) ∧ z.cell? ⟨w.heap.size + 1 + 1 + 1, 1, none⟩ = some (.int .i64 x.msg) ∧ z.cell? ⟨w3.heap.size + 1, 0, none⟩ = some (.slice none 0 0) ∧ z.cell? ⟨w3.heap.size + 1, 1, none⟩ = some (.int .i64 m) := fun z hz => ⟨(hz.cell X0.lt).trans (X0.cell 0), (hz.cell X0.lt).trans (X0.cell 1), (hz.cell X0.lt).trans (X0.cell 2), (hz.cell X0.lt).trans (X0.cell 3), (hz.cell X0.lt).trans (X0.cell 4), (hz.cell X0.lt).trans (X0.cell 5), (hz.cell X0.lt).trans (X0.cell 6), (hz.cell X0.lt).trans (X0.cell 7), (hz.cell X0.lt).trans (X0.cell 8), (hz.cell X0.lt).trans (X0.cell 9), (hz.cell X0.lt).trans (X0.cell 10), (hz.cell X0.lt).trans (X0.cell 11), (hz.cell X1.lt).trans (X1.cell 0), (hz.cell X2.lt).trans (X2.cell 0), (hz.cell X2.lt).trans (X2.cell 1), (hz.cell X2.lt).trans (X2.cell 2), (hz.cell X2.lt).trans (X2.cell 3), (hz.cell X2.lt).trans (X2.cell 4), (hz.cell X2.lt).trans (X2.cell 5), (hz.cell X3.lt).trans (X3.cell 0), (hz.cell X3.lt).trans (X3.cell 1), (hz.cell AL.lt).trans (AL.cell 0), (hz.cell AL.lt).trans (AL.cell 1)⟩
    have HKEEP := Lib.hid KEEP
    clear KEEP
    have KEEP2 : ∀ (z : World) (u0 u1 u2 u3 u4 u5 : Value), Below w8.heap.size w8 z → ((((((z.setCell ⟨gB, 0, none⟩ u0).setCell ⟨gB, 1, none⟩ u1).setCell ⟨gB, 2, none⟩ u2).setCell ⟨gB, 3, none⟩ u3).setCell ⟨gB, 4, none⟩ u4).setCell ⟨gB, 5, none⟩ u5).cell? ⟨w.heap.size, 0, none⟩ = some (.int .i64 p.top) ∧ ((((((z.setCell ⟨gB, 0, none⟩ u0).setCell ⟨gB, 1, none⟩ u1).setCell ⟨gB, 2, none⟩ u2).setCell ⟨gB, 3, none⟩ u3).setCell ⟨gB, 4, none⟩ u4).setCell ⟨gB, 5, none⟩ u5).cell? ⟨w.heap.size, 1, none⟩ = some (.int .i64 p.bank) ∧ ((((((z.setCell ⟨gB, 0, none⟩ u0).setCell ⟨gB, 1, none⟩ u1).setCell ⟨gB, 2, none⟩ u2).setCell ⟨gB, 3, none⟩ u3).setCell ⟨gB, 4, none⟩ u4).setCell ⟨gB, 5, none⟩ u5).cell? ⟨w.heap.size, 2, none⟩ = some (.int .i64 p.siphon) ∧ ((((((z.setCell ⟨gB, 0, none⟩ u0).setCell ⟨gB, 1, none⟩ u1).setCell ⟨gB, 2, none⟩ u2).setCell ⟨gB, 3, none⟩ u3).setCell ⟨gB, 4, none⟩ u4).setCell ⟨gB, 5, none⟩ u5).cell? ⟨w.heap.size, 3, none⟩ = some (.int .i64 p.start) ∧ ((((((z.setCell ⟨gB, 0, none⟩ u0).setCell ⟨gB, 1, none⟩ u1).setCell ⟨gB, 2, none⟩ u2).setCell ⟨gB, 3, none⟩ u3).setCell ⟨gB, 4, none⟩ u4).setCell ⟨gB, 5, none⟩ u5).cell? ⟨w.heap.size, 4, none⟩ = some (.int .i64 p.positions) ∧ ((((((z.setCell ⟨gB, 0, none⟩ u0).setCell ⟨gB, 1, none⟩ u1).setCell ⟨gB, 2, none⟩ u2).setCell ⟨gB, 3, none⟩ u3).setCell ⟨gB, 4, none⟩ u4).setCell ⟨gB, 5, none⟩ u5).cell? ⟨w.heap.size, 5, none⟩ = some (.int .i64 p.rate) ∧ ((((((z.setCell ⟨gB, 0, none⟩ u0).setCell ⟨gB, 1, none⟩ u1).setCell ⟨gB, 2, none⟩ u2).setCell ⟨gB, 3, none⟩ u3).setCell ⟨gB, 4, none⟩ u4).setCell ⟨gB, 5, none⟩ u5).cell? ⟨w.heap.size, 6, none⟩ = some (.int .i64 p.step) ∧ ((((((z.setCell ⟨gB, 0, none⟩ u0).setCell ⟨gB, 1, none⟩ u1).setCell ⟨gB, 2, none⟩ u2).setCell ⟨gB, 3, none⟩ u3).setCell ⟨gB, 4, none⟩ u4).setCell ⟨gB, 5, none⟩ u5).cell? ⟨w.heap.size, 7, none⟩ = some (.int .i64 p.pass) ∧ ((((((z.setCell ⟨gB, 0, none⟩ u0).setCell ⟨gB, 1, none⟩ u1).setCell ⟨gB, 2, none⟩ u2).setCell ⟨gB, 3, none⟩ u3).setCell ⟨gB, 4, none⟩ u4).setCell ⟨gB, 5, none⟩ u5).cell? ⟨w.heap.size, 8, none⟩ = some (.int .i64 p.feed) ∧ ((((((z.setCell ⟨gB, 0, none⟩ u0).setCell ⟨gB, 1, none⟩ u1).setCell ⟨gB, 2, none⟩ u2).setCell ⟨gB, 3, none⟩ u3).setCell ⟨gB, 4, none⟩ u4).setCell ⟨gB, 5, none⟩ u5).cell? ⟨w.heap.size, 9, none⟩ = some (.int .i64 p.pipe) ∧ ((((((z.setCell ⟨gB, 0, none⟩ u0).setCell ⟨gB, 1, none⟩ u1).setCell ⟨gB, 2, none⟩ u2).setCell ⟨gB, 3, none⟩ u3).setCell ⟨gB, 4, none⟩ u4).setCell ⟨gB, 5, none⟩ u5).cell? ⟨w.heap.size, 10, none⟩ = some (.int .i64 p.orders) ∧ ((((((z.setCell ⟨gB, 0, none⟩ u0).setCell ⟨gB, 1, none⟩ u1).setCell ⟨gB, 2, none⟩ u2).setCell ⟨gB, 3, none⟩ u3).setCell ⟨gB, 4, none⟩ u4).setCell ⟨gB, 5, none⟩ u5).cell? ⟨w.heap.size, 11, none⟩ = some (.int .i64 p.age) ∧ ((((((z.setCell ⟨gB, 0, none⟩ u0).setCell ⟨gB, 1, none⟩ u1).setCell ⟨gB, 2, none⟩ u2).setCell ⟨gB, 3, none⟩ u3).setCell ⟨gB, 4, none⟩ u4).setCell ⟨gB, 5, none⟩ u5).cell? ⟨w.heap.size + 1, 0, none⟩ = some (.slice A n c) ∧ ((((((z.setCell ⟨gB, 0, none⟩ u0).setCell ⟨gB, 1, none⟩ u1).setCell ⟨gB, 2, none⟩ u2).setCell ⟨gB, 3, none⟩ u3).setCell ⟨gB, 4, none⟩ u4).setCell ⟨gB, 5, none⟩ u5).cell? ⟨w.heap.size + 1 + 1, 0, none⟩ = some (.int .i64 s.level) ∧ ((((((z.setCell ⟨gB, 0, none⟩ u0).setCell ⟨gB, 1, none⟩ u1).setCell ⟨gB, 2, none⟩ u2).setCell ⟨gB, 3, none⟩ u3).setCell ⟨gB, 4, none⟩ u4).setCell ⟨gB, 5, none⟩ u5).cell? ⟨w.heap.size + 1 + 1, 1, none⟩ = some (.int .i64 s.position) ∧ ((((((z.setCell ⟨gB, 0, none⟩ u0).setCell ⟨gB, 1, none⟩ u1).setCell ⟨gB, 2, none⟩ u2).setCell ⟨gB, 3, none⟩ u3).setCell ⟨gB, 4, none⟩ u4).setCell ⟨gB, 5, none⟩ u5).cell? ⟨w.heap.size + 1 + 1, 2, none⟩ = some (.int .i64 s.p0) ∧ ((((((z.setCell ⟨gB, 0, none⟩ u0).setCell ⟨gB, 1, none⟩ u1).setCell ⟨gB, 2, none⟩ u2).setCell ⟨gB, 3, none⟩ u3).setCell ⟨gB, 4, none⟩ u4).setCell ⟨gB, 5, none⟩ u5).cell? ⟨w.heap.size + 1 + 1, 3, none⟩ = some (.int .i64 s.p1) ∧ ((((((z.setCell ⟨gB, 0, none⟩ u0).setCell ⟨gB, 1, none⟩ u1).setCell ⟨gB, 2, none⟩ u2).setCell ⟨gB, 3, none⟩ u3).setCell ⟨gB, 4, none⟩ u4).setCell ⟨gB, 5, none⟩ u5).cell? ⟨w.heap.size + 1 + 1, 4, none⟩ = some (.int .i64 s.order) ∧ ((((((z.setCell ⟨gB, 0, none⟩ u0).setCell ⟨gB, 1, none⟩ u1).setCell ⟨gB, 2, none⟩ u2).setCell ⟨gB, 3, none⟩ u3).setCell ⟨gB, 4, none⟩ u4).setCell ⟨gB, 5, none⟩ u5).cell? ⟨w.heap.size + 1 + 1, 5, none⟩ = some (.int .i64 s.age) ∧ ((((((z.setCell ⟨gB, 0, none⟩ u0).setCell ⟨gB, 1, none⟩ u1).setCell ⟨gB, 2, none⟩ u2).setCell ⟨gB, 3, none⟩ u3).setCell ⟨gB, 4, none⟩ u4).setCell ⟨gB, 5, none⟩ u5).cell? ⟨w.heap.size + 1 + 1 + 1, 0, none⟩ = some (.int .i64 x.feed) ∧ ((((((z.setCell ⟨gB, 0, none⟩ u0).setCell ⟨gB, 1, none⟩ u1).setCell ⟨gB, 2, none⟩ u2).setCell ⟨gB, 3, none⟩ u3).setCell ⟨gB, 4, none⟩ u4).setCell ⟨gB, 5, none⟩ u5).cell? ⟨w.heap.size + 1 + 1 + 1, 1, none⟩ = some (.int .i64 x.msg) ∧ ((((((z.setCell ⟨gB, 0, none⟩ u0).setCell ⟨gB, 1, none⟩ u1).setCell ⟨gB, 2, none⟩ u2).setCell ⟨gB, 3, none⟩ u3).setCell ⟨gB, 4, none⟩ u4).setCell ⟨gB, 5, none⟩ u5).cell? ⟨w3.heap.size + 1, 0, none⟩ = some (.slice none 0 0) ∧ ((((((z.setCell ⟨gB, 0, none⟩ u0).setCell ⟨gB, 1, none⟩ u1).setCell ⟨gB, 2, none⟩ u2).setCell ⟨gB, 3, none⟩ u3).setCell ⟨gB, 4, none⟩ u4).setCell ⟨gB, 5, none⟩ u5).cell? ⟨w3.heap.size + 1, 1, none⟩ = some (.int .i64 m) := fun z u0 u1 u2 u3 u4 u5 hz => ⟨((X0.later hz).sixOther nX0BX u0 u1 u2 u3 u4 u5).cell 0, ((X0.later hz).sixOther nX0BX u0 u1 u2 u3 u4 u5).cell 1, ((X0.later hz).sixOther nX0BX u0 u1 u2 u3 u4 u5).cell 2, ((X0.later hz).sixOther nX0BX u0 u1 u2 u3 u4 u5).cell 3, ((X0.later hz).sixOther nX0BX u0 u1 u2 u3 u4 u5).cell 4, ((X0.later hz).sixOther nX0BX u0 u1 u2 u3 u4 u5).cell 5, ((X0.later hz).sixOther nX0BX u0 u1 u2 u3 u4 u5).cell 6, ((X0.later hz).sixOther nX0BX u0 u1 u2 u3 u4 u5).cell 7, ((X0.later hz).sixOther nX0BX u0 u1 u2 u3 u4 u5).cell 8, ((X0.later hz).sixOther nX0BX u0 u1 u2 u3 u4 u5).cell 9, ((X0.later hz).sixOther nX0BX u0 u1 u2 u3 u4 u5).cell 10, ((X0.later hz).sixOther nX0BX u0 u1 u2 u3 u4 u5).cell 11, ((X1.later hz).sixOther nX1BX u0 u1 u2 u3 u4 u5).cell 0, ((X2.later hz).sixOther nX2BX u0 u1 u2 u3 u4 u5).cell 0, ((X2.later hz).sixOther nX2BX u0 u1 u2 u3 u4 u5).cell 1, ((X2.later hz).sixOther nX2BX u0 u1 u2 u3 u4 u5).cell 2, ((X2.later hz).sixOther nX2BX u0 u1 u2 u3 u4 u5).cell 3, ((X2.later hz).sixOther nX2BX u0 u1 u2 u3 u4 u5).cell 4, ((X2.later hz).sixOther nX2BX u0 u1 u2 u3 u4 u5).cell 5, ((X3.later hz).sixOther nX3BX u0 u1 u2 u3 u4 u5).cell 0, ((X3.later hz).sixOther nX3BX u0 u1 u2 u3 u4 u5).cell 1, ((AL.later hz).sixOther nALBX u0 u1 u2 u3 u4 u5).cell 0, ((AL.later hz).sixOther nALBX u0 u1 u2 u3 u4 u5).cell 1⟩
    have HKEEP2 := Lib.hid KEEP2
    clear KEEP2
    have HC2 := Lib.hid ((hC.out.below hB).more hB.size)
    have HL2 : Hid (CondsAt w8 w8.heap.size (.slice none 0 0) []) := condsAt_nil _ _
    have hzw := Below.refl w8.heap.size w8
    have hz : Below w8.heap.size w8 w8.drew := hzw.drew
    have hlen : code.length ≤ 60 := by rw [hn.out]; omega
    have HLEN := Lib.hid hlen
    clear hlen
    go_region_held3 (fun z => z.cell? ⟨w.heap.size, 0, none⟩ = some (.int .i64 p.top) ∧ z.cell? ⟨w.heap.size, 1, none⟩ = some (.int .i64 p.bank) ∧ z.cell? ⟨w.heap.size, 2, none⟩ = some (.int .i64 p.siphon) ∧ z.cell? ⟨w.heap.size, 3, none⟩ = some (.int .i64 p.start) ∧ z.cell? ⟨w.heap.size, 4, none⟩ = some (.int .i64 p.positions) ∧ z.cell? ⟨w.heap.size, 5, none⟩ = some (.int .i64 p.rate) ∧ z.cell? ⟨w.heap.size, 6, none⟩ = some (.int .i64 p.step) ∧ z.cell? ⟨w.heap.size, 7, none⟩ = some (.int .i64 p.pass) ∧ z.cell? ⟨w.heap.size, 8, none⟩ = some (.int .i64 p.feed) ∧ z.cell? ⟨w.heap.size, 9, none⟩ = some (.int .i64 p.pipe) ∧ z.cell? ⟨w.heap.size, 10, none⟩ = some (.int .i64 p.orders) ∧ z.cell? ⟨w.heap.size, 11, none⟩ = some (.int .i64 p.age) ∧ z.cell? ⟨w.heap.size + 1, 0, none⟩ = some (.slice A n c) ∧ z.cell? ⟨w.heap.size + 1 + 1, 0, none⟩ = some (.int .i64 s.level) ∧ z.cell? ⟨w.heap.size + 1 + 1, 1, none⟩ = some (.int .i64 s.position) ∧ z.cell? ⟨w.heap.size + 1 + 1, 2, none⟩ = some (.int .i64 s.p0) ∧ z.cell? ⟨w.heap.size + 1 + 1, 3, none⟩ = some (.int .i64 s.p1) ∧ z.cell? ⟨w.heap.size + 1 + 1, 4, none⟩ = some (.int .i64 s.order) ∧ z.cell? ⟨w.heap.size + 1 + 1, 5, none⟩ = some (.int .i64 s.age) ∧ z.cell? ⟨w.heap.size + 1 + 1 + 1, 0, none⟩ = some (.int .i64 x.feed) ∧ z.cell? ⟨w.heap.size + 1 + 1 + 1, 1, none⟩ = some (.int .i64 x.msg) ∧ z.cell? ⟨w3.heap.size + 1, 0, none⟩ = some (.slice none 0 0) ∧ z.cell? ⟨w3.heap.size + 1, 1, none⟩ = some (.int .i64 m))
      (first | (with_reducible exact HKEEP.out _ hz) | (with_reducible exact HKEEP.out _ (hzw.alloc (Nat.le_refl _) _).drew) | (with_reducible exact HKEEP.out _ ((hzw.alloc (Nat.le_refl _) _).alloc (by simp) _).drew) | (with_reducible exact HKEEP.out _ (hz.alloc hz.size _)) | (with_reducible exact HKEEP.out _ ((hz.alloc hz.size _).alloc (Nat.le_trans hz.size (by simp)) _)) | (with_reducible exact HKEEP.out _ (Below.six hz hDg _ _ _ _ _ _))  | (with_reducible exact HKEEP2.out _ _ _ _ _ _ _ hz) | (go_keep; done))
      (first
        | (refine step_prepend (W := w8) (B := w8.heap.size) (b := w8.heap.size) (lv := .slice none 0 0) (l := ⟨[], m⟩) (by rfl) (.tmp 110) (.tmp 112) (by rfl) (by rfl) (by rfl) HC2.out hV HLEN.out HL2.out (hzw.alloc (Nat.le_refl _) (.cells #[.slice none 0 0, .int .i64 m] 53)).drew (by simp) (new_a _ _ _) ?_; intro A' n' c' z' HC3 hz hne)
        | (go_simp; go_at_call 20; with_reducible refine (next_is h4 HC3).mono ?_; rintro e z4 ⟨rfl, hb4⟩; dsimp only; have hz : Below w8.heap.size w8 z4 := hz.trans (hb4.mono hz.size); have BZ := BX.later hz; have AZ := A0.later hz; obtain ⟨⟨dc0, dc1, dc2, dc3, dc4, dc5⟩, ⟨df0, df1, df2, df3, df4, df5⟩, dzz⟩ := BZ.six))
    have AY := AZ.sixOther nA0BX (.int .i64 t3.level) (.int .i64 t3.position) (.int .i64 t3.p0) (.int .i64 t3.p1) (.int .i64 t3.order) (.int .i64 t3.age)
    have BY := BZ.sixSet (.int .i64 t3.level) (.int .i64 t3.position) (.int .i64 t3.p0) (.int .i64 t3.p1) (.int .i64 t3.order) (.int .i64 t3.age)
    have hB := Below.six (hB.trans (hz.mono hB.size)) gBX (.int .i64 t3.level) (.int .i64 t3.position) (.int .i64 t3.p0) (.int .i64 t3.p1) (.int .i64 t3.order) (.int .i64 t3.age)
    generalize ((((((z4.setCell ⟨gB, 0, none⟩ (.int .i64 t3.level)).setCell ⟨gB, 1, none⟩ (.int .i64 t3.position)).setCell ⟨gB, 2, none⟩ (.int .i64 t3.p0)).setCell ⟨gB, 3, none⟩ (.int .i64 t3.p1)).setCell ⟨gB, 4, none⟩ (.int .i64 t3.order)).setCell ⟨gB, 5, none⟩ (.int .i64 t3.age)) = w9 at AY BY hB ⊢
    have AYc0 : w9.cell? ⟨w5.heap.size, 0, none⟩ = some (.int .i64 t3.level) := AY.cell 0
    have AYf0 : w9.frozen? ⟨w5.heap.size, 0, none⟩ = false := AY.free 0
    have AYc1 : w9.cell? ⟨w5.heap.size, 1, none⟩ = some (.int .i64 t3.position) := AY.cell 1
    have AYf1 : w9.frozen? ⟨w5.heap.size, 1, none⟩ = false := AY.free 1
    have AYc2 : w9.cell? ⟨w5.heap.size, 2, none⟩ = some (.int .i64 t3.p0) := AY.cell 2
    have AYf2 : w9.frozen? ⟨w5.heap.size, 2, none⟩ = false := AY.free 2
    have AYc3 : w9.cell? ⟨w5.heap.size, 3, none⟩ = some (.int .i64 t3.p1) := AY.cell 3
    have AYf3 : w9.frozen? ⟨w5.heap.size, 3, none⟩ = false := AY.free 3
    have AYc4 : w9.cell? ⟨w5.heap.size, 4, none⟩ = some (.int .i64 t3.order) := AY.cell 4
    have AYf4 : w9.frozen? ⟨w5.heap.size, 4, none⟩ = false := AY.free 4
    have AYc5 : w9.cell? ⟨w5.heap.size, 5, none⟩ = some (.int .i64 t3.age) := AY.cell 5
    have AYf5 : w9.frozen? ⟨w5.heap.size, 5, none⟩ = false := AY.free 5
    have AYz : w5.heap.size < w9.heap.size := AY.lt
    have BYc0 : w9.cell? ⟨gB, 0, none⟩ = some (.int .i64 t3.level) := BY.cell 0
    have BYf0 : w9.frozen? ⟨gB, 0, none⟩ = false := BY.free 0
    have BYc1 : w9.cell? ⟨gB, 1, none⟩ = some (.int .i64 t3.position) := BY.cell 1
    have BYf1 : w9.frozen? ⟨gB, 1, none⟩ = false := BY.free 1
    have BYc2 : w9.cell? ⟨gB, 2, none⟩ = some (.int .i64 t3.p0) := BY.cell 2
    have BYf2 : w9.frozen? ⟨gB, 2, none⟩ = false := BY.free 2
    have BYc3 : w9.cell? ⟨gB, 3, none⟩ = some (.int .i64 t3.p1) := BY.cell 3
    have BYf3 : w9.frozen? ⟨gB, 3, none⟩ = false := BY.free 3
    have BYc4 : w9.cell? ⟨gB, 4, none⟩ = some (.int .i64 t3.order) := BY.cell 4
    have BYf4 : w9.frozen? ⟨gB, 4, none⟩ = false := BY.free 4
    have BYc5 : w9.cell? ⟨gB, 5, none⟩ = some (.int .i64 t3.age) := BY.cell 5
    have BYf5 : w9.frozen? ⟨gB, 5, none⟩ = false := BY.free 5
    have BYz : gB < w9.heap.size := BY.lt
    go_wp2
    go_ret
    exact ⟨rfl, hB⟩

theorem law_PlantStuck (p : Pl) (code : List Ln) (V : Value) (s : St) (x : Sh) (m : Int) (w : World) (hC : CodeAt w w.heap.size V code) (hV : SlForm V) (hm : 0 ≤ m ∧ m ≤ 255) : Calls Try.prog 8 #[p.v, .agg #[V], s.v, x.v, .int .u8 m] w fun e w' => e = .returned (.bool true) ∧ Below w.heap.size w w' := by
  obtain ⟨A, c, rfl, _⟩ := hC.form
  rcases hf : fewB code with _ | _
  · exact law8_no p code A code.length c s x m w hC hV rfl hf
  · by_cases hn : 60 < code.length
    · exact law8_long p code A code.length c s x m w hC hV rfl hf (by omega)
    · obtain ⟨t1, o1, er1, h1⟩ : ∃ t o er, nextT p code s x = (t, o, er) := ⟨_, _, _, rfl⟩
      obtain ⟨t2, o2, er2, h2⟩ : ∃ t o er, nextT p (⟨[⟨0, 1, 0⟩], m⟩ :: code) s x = (t, o, er) := ⟨_, _, _, rfl⟩
      obtain ⟨t0, o0, er0, h0⟩ : ∃ t o er, nextT p [] s x = (t, o, er) := ⟨_, _, _, rfl⟩
      by_cases he1 : er1 = 0
      · subst he1
        obtain ⟨h2', t3, o3, h3, h4⟩ := stuck_facts hm (by omega) h1
        have h0' := next_other h1 [] gate_nil
        have hp := next_none h0'
        obtain ⟨tz, htz⟩ : ∃ t, stepT p [] s x = t := ⟨_, rfl⟩
        rw [htz] at h0' hp
        obtain ⟨l0, ps, q0, q1, d0, a0⟩ := tz
        obtain rfl : ps = s.position := hp
        exact law8_good p code A code.length c s x m w hC hV rfl hf (by omega) hm.1 hm.2 l0 q0 q1 d0 a0 _ h0' t1 o1 t3 o3 h1 h2' h3 h4
      · by_cases he0 : er0 = 0
        · subst he0
          have hp := next_none h0
          obtain ⟨l0, ps, q0, q1, d0, a0⟩ := t0
          obtain rfl : ps = s.position := hp
          exact law8_badb p code A code.length c s x m w hC hV rfl hf (by omega) hm.1 hm.2 l0 q0 q1 d0 a0 o0 h0 t1 o1 er1 er2 t2 o2 (by simp [he1]) (by simp [he1]) h1 h2
        · exact law8_bada p code A code.length c s x m w hC hV rfl hf (by omega) hm.1 hm.2 t0 o0 er0 (by simp [he0]) h0 t1 o1 er1 er2 t2 o2 (by simp [he1]) (by simp [he1]) h1 h2

end Go.Proofs.Ytakjalapninndaa
