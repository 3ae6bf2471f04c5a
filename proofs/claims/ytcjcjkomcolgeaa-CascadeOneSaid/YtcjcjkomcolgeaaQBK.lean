/- Contracts of open, safe, next and states of package barrier (the iterators are in BL, BM). (Printed by pp.py.) No condition. -/
import Derived.Test.YtcjcjkomcolgeaaQD
import Derived.Test.YtcjcjkomcolgeaaQL
import Derived.Test.YtcjcjkomcolgeaaQKD
import Derived.Test.YtcjcjkomcolgeaaQBD
set_option linter.unusedVariables false
set_option linter.unusedSimpArgs false
namespace Go.Proofs.Ytcjcjkomcolgeaa
open Go.RowKit Go.Shelf

def Pl.zero0 : Pl := ⟨0, 0, 0, 0, 0, 0, 0, 0, 0, 0, 0, 0⟩
abbrev gmV (p : Pl) (V : Value) : Value := .agg #[.int .i64 p.top, .int .i64 p.bank, .int .i64 p.siphon, .int .i64 p.start, .int .i64 p.positions, .int .i64 p.rate, .int .i64 p.step, .int .i64 p.pass, .int .i64 p.feed, .int .i64 p.pipe, .int .i64 p.orders, .int .i64 p.age, V]
abbrev gmL (p : Pl) (V : Value) : List Value := [.int .i64 p.top, .int .i64 p.bank, .int .i64 p.siphon, .int .i64 p.start, .int .i64 p.positions, .int .i64 p.rate, .int .i64 p.step, .int .i64 p.pass, .int .i64 p.feed, .int .i64 p.pipe, .int .i64 p.orders, .int .i64 p.age, V]

set_option maxRecDepth 100000 in
set_option maxHeartbeats 2000000 in
theorem bOpen_good (p : Pl) (c : List Ln) (V : Value) (w : World) (h1 : Hid (p.checkT = 0)) (h2 : Hid (gateT c = 0)) (hC : Hid (CodeAt w w.heap.size V c)) :
    Calls Try.prog 60 #[p.v, .agg #[V]] w fun e w' => e = .returned (.tuple #[gmV p V, .int .i64 0]) ∧ Below w.heap.size w w' := by
  obtain ⟨A, k, rfl, hm⟩ := hC.out.form
  obtain ⟨m, hmm⟩ : ∃ m, c.length = m := ⟨_, rfl⟩
  rw [hmm] at hC ⊢
  clear hm hmm
  go_enter Try.func60, Try.ntmps60
  go_wp2_with fail
  refine (check_at h1 _).mono ?_
  rintro e w1 ⟨rfl, hb⟩
  have X0 := (((Box.newAt (n := w.heap.size) [.int .i64 p.top, .int .i64 p.bank, .int .i64 p.siphon, .int .i64 p.start, .int .i64 p.positions, .int .i64 p.rate, .int .i64 p.step, .int .i64 p.pass, .int .i64 p.feed, .int .i64 p.pipe, .int .i64 p.orders, .int .i64 p.age] 55 (by simp)).alloc _).alloc _).later hb
  have X1 := ((Box.newAt (n := w.heap.size + 1) [.slice A m k] 63 (by simp)).alloc _).later hb
  have X2 := (Box.newAt (n := w.heap.size + 1 + 1) [.int .i64 0, .int .i64 0, .int .i64 0, .int .i64 0, .int .i64 0, .int .i64 0, .int .i64 0, .int .i64 0, .int .i64 0, .int .i64 0, .int .i64 0, .int .i64 0, .slice none 0 0] 117 (by simp)).later hb
  have hB : Below w.heap.size w w1 := ((((Below.refl w.heap.size w).alloc (by simp <;> omega) _).alloc (by simp <;> omega) _).alloc (by simp <;> omega) _).trans (hb.mono (by simp <;> omega))
  clear hb
  have X1c0 : w1.cell? ⟨w.heap.size + 1, 0, none⟩ = some (.slice A m k) := X1.cell 0
  have X1f0 : w1.frozen? ⟨w.heap.size + 1, 0, none⟩ = false := X1.free 0
  have X1z : w.heap.size + 1 < w1.heap.size := X1.lt
  go_wp2_with fail
  refine (gcheck_at h2 ((hC.out.below hB).more hB.size)).mono ?_
  rintro e w2 ⟨rfl, hb⟩
  have X0 := X0.later hb
  have X1 := X1.later hb
  have X2 := X2.later hb
  have hB := hB.trans (hb.mono hB.size)
  clear hb X1c0 X1f0 X1z
  have X0c0 : w2.cell? ⟨w.heap.size, 0, none⟩ = some (.int .i64 p.top) := X0.cell 0
  have X0f0 : w2.frozen? ⟨w.heap.size, 0, none⟩ = false := X0.free 0
  have X0c1 : w2.cell? ⟨w.heap.size, 1, none⟩ = some (.int .i64 p.bank) := X0.cell 1
  have X0f1 : w2.frozen? ⟨w.heap.size, 1, none⟩ = false := X0.free 1
  have X0c2 : w2.cell? ⟨w.heap.size, 2, none⟩ = some (.int .i64 p.siphon) := X0.cell 2
  have X0f2 : w2.frozen? ⟨w.heap.size, 2, none⟩ = false := X0.free 2
  have X0c3 : w2.cell? ⟨w.heap.size, 3, none⟩ = some (.int .i64 p.start) := X0.cell 3
  have X0f3 : w2.frozen? ⟨w.heap.size, 3, none⟩ = false := X0.free 3
  have X0c4 : w2.cell? ⟨w.heap.size, 4, none⟩ = some (.int .i64 p.positions) := X0.cell 4
  have X0f4 : w2.frozen? ⟨w.heap.size, 4, none⟩ = false := X0.free 4
  have X0c5 : w2.cell? ⟨w.heap.size, 5, none⟩ = some (.int .i64 p.rate) := X0.cell 5
  have X0f5 : w2.frozen? ⟨w.heap.size, 5, none⟩ = false := X0.free 5
  have X0c6 : w2.cell? ⟨w.heap.size, 6, none⟩ = some (.int .i64 p.step) := X0.cell 6
  have X0f6 : w2.frozen? ⟨w.heap.size, 6, none⟩ = false := X0.free 6
  have X0c7 : w2.cell? ⟨w.heap.size, 7, none⟩ = some (.int .i64 p.pass) := X0.cell 7
  have X0f7 : w2.frozen? ⟨w.heap.size, 7, none⟩ = false := X0.free 7
  have X0c8 : w2.cell? ⟨w.heap.size, 8, none⟩ = some (.int .i64 p.feed) := X0.cell 8
  have X0f8 : w2.frozen? ⟨w.heap.size, 8, none⟩ = false := X0.free 8
  have X0c9 : w2.cell? ⟨w.heap.size, 9, none⟩ = some (.int .i64 p.pipe) := X0.cell 9
  have X0f9 : w2.frozen? ⟨w.heap.size, 9, none⟩ = false := X0.free 9
  have X0c10 : w2.cell? ⟨w.heap.size, 10, none⟩ = some (.int .i64 p.orders) := X0.cell 10
  have X0f10 : w2.frozen? ⟨w.heap.size, 10, none⟩ = false := X0.free 10
  have X0c11 : w2.cell? ⟨w.heap.size, 11, none⟩ = some (.int .i64 p.age) := X0.cell 11
  have X0f11 : w2.frozen? ⟨w.heap.size, 11, none⟩ = false := X0.free 11
  have X0z : w.heap.size < w2.heap.size := X0.lt
  have X1c0 : w2.cell? ⟨w.heap.size + 1, 0, none⟩ = some (.slice A m k) := X1.cell 0
  have X1f0 : w2.frozen? ⟨w.heap.size + 1, 0, none⟩ = false := X1.free 0
  have X1z : w.heap.size + 1 < w2.heap.size := X1.lt
  have X2c0 : w2.cell? ⟨w.heap.size + 1 + 1, 0, none⟩ = some (.int .i64 0) := X2.cell 0
  have X2f0 : w2.frozen? ⟨w.heap.size + 1 + 1, 0, none⟩ = false := X2.free 0
  have X2c1 : w2.cell? ⟨w.heap.size + 1 + 1, 1, none⟩ = some (.int .i64 0) := X2.cell 1
  have X2f1 : w2.frozen? ⟨w.heap.size + 1 + 1, 1, none⟩ = false := X2.free 1
  have X2c2 : w2.cell? ⟨w.heap.size + 1 + 1, 2, none⟩ = some (.int .i64 0) := X2.cell 2
  have X2f2 : w2.frozen? ⟨w.heap.size + 1 + 1, 2, none⟩ = false := X2.free 2
  have X2c3 : w2.cell? ⟨w.heap.size + 1 + 1, 3, none⟩ = some (.int .i64 0) := X2.cell 3
  have X2f3 : w2.frozen? ⟨w.heap.size + 1 + 1, 3, none⟩ = false := X2.free 3
  have X2c4 : w2.cell? ⟨w.heap.size + 1 + 1, 4, none⟩ = some (.int .i64 0) := X2.cell 4
  have X2f4 : w2.frozen? ⟨w.heap.size + 1 + 1, 4, none⟩ = false := X2.free 4
  have X2c5 : w2.cell? ⟨w.heap.size + 1 + 1, 5, none⟩ = some (.int .i64 0) := X2.cell 5
  have X2f5 : w2.frozen? ⟨w.heap.size + 1 + 1, 5, none⟩ = false := X2.free 5
  have X2c6 : w2.cell? ⟨w.heap.size + 1 + 1, 6, none⟩ = some (.int .i64 0) := X2.cell 6
  have X2f6 : w2.frozen? ⟨w.heap.size + 1 + 1, 6, none⟩ = false := X2.free 6
  have X2c7 : w2.cell? ⟨w.heap.size + 1 + 1, 7, none⟩ = some (.int .i64 0) := X2.cell 7
  have X2f7 : w2.frozen? ⟨w.heap.size + 1 + 1, 7, none⟩ = false := X2.free 7
  have X2c8 : w2.cell? ⟨w.heap.size + 1 + 1, 8, none⟩ = some (.int .i64 0) := X2.cell 8
  have X2f8 : w2.frozen? ⟨w.heap.size + 1 + 1, 8, none⟩ = false := X2.free 8
  have X2c9 : w2.cell? ⟨w.heap.size + 1 + 1, 9, none⟩ = some (.int .i64 0) := X2.cell 9
  have X2f9 : w2.frozen? ⟨w.heap.size + 1 + 1, 9, none⟩ = false := X2.free 9
  have X2c10 : w2.cell? ⟨w.heap.size + 1 + 1, 10, none⟩ = some (.int .i64 0) := X2.cell 10
  have X2f10 : w2.frozen? ⟨w.heap.size + 1 + 1, 10, none⟩ = false := X2.free 10
  have X2c11 : w2.cell? ⟨w.heap.size + 1 + 1, 11, none⟩ = some (.int .i64 0) := X2.cell 11
  have X2f11 : w2.frozen? ⟨w.heap.size + 1 + 1, 11, none⟩ = false := X2.free 11
  have X2c12 : w2.cell? ⟨w.heap.size + 1 + 1, 12, none⟩ = some (.slice none 0 0) := X2.cell 12
  have X2f12 : w2.frozen? ⟨w.heap.size + 1 + 1, 12, none⟩ = false := X2.free 12
  have X2z : w.heap.size + 1 + 1 < w2.heap.size := X2.lt
  go_wp2
  have hY := (((((((((((((X2.set 0 (.int .i64 p.top)).set 1 (.int .i64 p.bank)).set 2 (.int .i64 p.siphon)).set 3 (.int .i64 p.start)).set 4 (.int .i64 p.positions)).set 5 (.int .i64 p.rate)).set 6 (.int .i64 p.step)).set 7 (.int .i64 p.pass)).set 8 (.int .i64 p.feed)).set 9 (.int .i64 p.pipe)).set 10 (.int .i64 p.orders)).set 11 (.int .i64 p.age)).set 12 (.slice A m k))
  have hB := (((((((((((((hB.setCell (p := ⟨w.heap.size + 1 + 1, 0, none⟩) (by simp <;> omega) (.int .i64 p.top)).setCell (p := ⟨w.heap.size + 1 + 1, 1, none⟩) (by simp <;> omega) (.int .i64 p.bank)).setCell (p := ⟨w.heap.size + 1 + 1, 2, none⟩) (by simp <;> omega) (.int .i64 p.siphon)).setCell (p := ⟨w.heap.size + 1 + 1, 3, none⟩) (by simp <;> omega) (.int .i64 p.start)).setCell (p := ⟨w.heap.size + 1 + 1, 4, none⟩) (by simp <;> omega) (.int .i64 p.positions)).setCell (p := ⟨w.heap.size + 1 + 1, 5, none⟩) (by simp <;> omega) (.int .i64 p.rate)).setCell (p := ⟨w.heap.size + 1 + 1, 6, none⟩) (by simp <;> omega) (.int .i64 p.step)).setCell (p := ⟨w.heap.size + 1 + 1, 7, none⟩) (by simp <;> omega) (.int .i64 p.pass)).setCell (p := ⟨w.heap.size + 1 + 1, 8, none⟩) (by simp <;> omega) (.int .i64 p.feed)).setCell (p := ⟨w.heap.size + 1 + 1, 9, none⟩) (by simp <;> omega) (.int .i64 p.pipe)).setCell (p := ⟨w.heap.size + 1 + 1, 10, none⟩) (by simp <;> omega) (.int .i64 p.orders)).setCell (p := ⟨w.heap.size + 1 + 1, 11, none⟩) (by simp <;> omega) (.int .i64 p.age)).setCell (p := ⟨w.heap.size + 1 + 1, 12, none⟩) (by simp <;> omega) (.slice A m k))
  generalize (((((((((((((w2.setCell ⟨w.heap.size + 1 + 1, 0, none⟩ (.int .i64 p.top)).setCell ⟨w.heap.size + 1 + 1, 1, none⟩ (.int .i64 p.bank)).setCell ⟨w.heap.size + 1 + 1, 2, none⟩ (.int .i64 p.siphon)).setCell ⟨w.heap.size + 1 + 1, 3, none⟩ (.int .i64 p.start)).setCell ⟨w.heap.size + 1 + 1, 4, none⟩ (.int .i64 p.positions)).setCell ⟨w.heap.size + 1 + 1, 5, none⟩ (.int .i64 p.rate)).setCell ⟨w.heap.size + 1 + 1, 6, none⟩ (.int .i64 p.step)).setCell ⟨w.heap.size + 1 + 1, 7, none⟩ (.int .i64 p.pass)).setCell ⟨w.heap.size + 1 + 1, 8, none⟩ (.int .i64 p.feed)).setCell ⟨w.heap.size + 1 + 1, 9, none⟩ (.int .i64 p.pipe)).setCell ⟨w.heap.size + 1 + 1, 10, none⟩ (.int .i64 p.orders)).setCell ⟨w.heap.size + 1 + 1, 11, none⟩ (.int .i64 p.age)).setCell ⟨w.heap.size + 1 + 1, 12, none⟩ (.slice A m k)) = W at hY hB ⊢
  have hYc0 : W.cell? ⟨w.heap.size + 1 + 1, 0, none⟩ = some (.int .i64 p.top) := hY.cell 0
  have hYc1 : W.cell? ⟨w.heap.size + 1 + 1, 1, none⟩ = some (.int .i64 p.bank) := hY.cell 1
  have hYc2 : W.cell? ⟨w.heap.size + 1 + 1, 2, none⟩ = some (.int .i64 p.siphon) := hY.cell 2
  have hYc3 : W.cell? ⟨w.heap.size + 1 + 1, 3, none⟩ = some (.int .i64 p.start) := hY.cell 3
  have hYc4 : W.cell? ⟨w.heap.size + 1 + 1, 4, none⟩ = some (.int .i64 p.positions) := hY.cell 4
  have hYc5 : W.cell? ⟨w.heap.size + 1 + 1, 5, none⟩ = some (.int .i64 p.rate) := hY.cell 5
  have hYc6 : W.cell? ⟨w.heap.size + 1 + 1, 6, none⟩ = some (.int .i64 p.step) := hY.cell 6
  have hYc7 : W.cell? ⟨w.heap.size + 1 + 1, 7, none⟩ = some (.int .i64 p.pass) := hY.cell 7
  have hYc8 : W.cell? ⟨w.heap.size + 1 + 1, 8, none⟩ = some (.int .i64 p.feed) := hY.cell 8
  have hYc9 : W.cell? ⟨w.heap.size + 1 + 1, 9, none⟩ = some (.int .i64 p.pipe) := hY.cell 9
  have hYc10 : W.cell? ⟨w.heap.size + 1 + 1, 10, none⟩ = some (.int .i64 p.orders) := hY.cell 10
  have hYc11 : W.cell? ⟨w.heap.size + 1 + 1, 11, none⟩ = some (.int .i64 p.age) := hY.cell 11
  have hYc12 : W.cell? ⟨w.heap.size + 1 + 1, 12, none⟩ = some (.slice A m k) := hY.cell 12
  refine bodyPost_ret (v := .tuple #[gmV p (.slice A m k), .int .i64 0]) (by simp [results, Try.results60, go_sem, hYc0, hYc1, hYc2, hYc3, hYc4, hYc5, hYc6, hYc7, hYc8, hYc9, hYc10, hYc11, hYc12]) rfl ?_
  exact ⟨rfl, hB⟩

set_option maxRecDepth 100000 in
set_option maxHeartbeats 2000000 in
theorem bOpen_bad1 (p : Pl) (c : List Ln) (V : Value) (w : World) (er : Int) (h1 : Hid (p.checkT = er)) (h0 : Hid (er ≠ 0)) (_hC : Hid (CodeAt w w.heap.size V c)) :
    Calls Try.prog 60 #[p.v, .agg #[V]] w fun e w' => e = .returned (.tuple #[gmV Pl.zero0 (.slice none 0 0), .int .i64 er]) ∧ Below w.heap.size w w' := by
  have hd : (er != 0) = true := by simp [h0.out]
  go_enter Try.func60, Try.ntmps60
  go_wp2_with fail
  refine (check_at h1 _).mono ?_
  rintro e w1 ⟨rfl, hb⟩
  have X2 := (Box.newAt (n := w.heap.size + 1 + 1) [.int .i64 0, .int .i64 0, .int .i64 0, .int .i64 0, .int .i64 0, .int .i64 0, .int .i64 0, .int .i64 0, .int .i64 0, .int .i64 0, .int .i64 0, .int .i64 0, .slice none 0 0] 117 (by simp)).later hb
  have hB : Below w.heap.size w w1 := ((((Below.refl w.heap.size w).alloc (by simp <;> omega) _).alloc (by simp <;> omega) _).alloc (by simp <;> omega) _).trans (hb.mono (by simp <;> omega))
  clear hb
  have X2c0 : w1.cell? ⟨w.heap.size + 1 + 1, 0, none⟩ = some (.int .i64 0) := X2.cell 0
  have X2f0 : w1.frozen? ⟨w.heap.size + 1 + 1, 0, none⟩ = false := X2.free 0
  have X2c1 : w1.cell? ⟨w.heap.size + 1 + 1, 1, none⟩ = some (.int .i64 0) := X2.cell 1
  have X2f1 : w1.frozen? ⟨w.heap.size + 1 + 1, 1, none⟩ = false := X2.free 1
  have X2c2 : w1.cell? ⟨w.heap.size + 1 + 1, 2, none⟩ = some (.int .i64 0) := X2.cell 2
  have X2f2 : w1.frozen? ⟨w.heap.size + 1 + 1, 2, none⟩ = false := X2.free 2
  have X2c3 : w1.cell? ⟨w.heap.size + 1 + 1, 3, none⟩ = some (.int .i64 0) := X2.cell 3
  have X2f3 : w1.frozen? ⟨w.heap.size + 1 + 1, 3, none⟩ = false := X2.free 3
  have X2c4 : w1.cell? ⟨w.heap.size + 1 + 1, 4, none⟩ = some (.int .i64 0) := X2.cell 4
  have X2f4 : w1.frozen? ⟨w.heap.size + 1 + 1, 4, none⟩ = false := X2.free 4
  have X2c5 : w1.cell? ⟨w.heap.size + 1 + 1, 5, none⟩ = some (.int .i64 0) := X2.cell 5
  have X2f5 : w1.frozen? ⟨w.heap.size + 1 + 1, 5, none⟩ = false := X2.free 5
  have X2c6 : w1.cell? ⟨w.heap.size + 1 + 1, 6, none⟩ = some (.int .i64 0) := X2.cell 6
  have X2f6 : w1.frozen? ⟨w.heap.size + 1 + 1, 6, none⟩ = false := X2.free 6
  have X2c7 : w1.cell? ⟨w.heap.size + 1 + 1, 7, none⟩ = some (.int .i64 0) := X2.cell 7
  have X2f7 : w1.frozen? ⟨w.heap.size + 1 + 1, 7, none⟩ = false := X2.free 7
  have X2c8 : w1.cell? ⟨w.heap.size + 1 + 1, 8, none⟩ = some (.int .i64 0) := X2.cell 8
  have X2f8 : w1.frozen? ⟨w.heap.size + 1 + 1, 8, none⟩ = false := X2.free 8
  have X2c9 : w1.cell? ⟨w.heap.size + 1 + 1, 9, none⟩ = some (.int .i64 0) := X2.cell 9
  have X2f9 : w1.frozen? ⟨w.heap.size + 1 + 1, 9, none⟩ = false := X2.free 9
  have X2c10 : w1.cell? ⟨w.heap.size + 1 + 1, 10, none⟩ = some (.int .i64 0) := X2.cell 10
  have X2f10 : w1.frozen? ⟨w.heap.size + 1 + 1, 10, none⟩ = false := X2.free 10
  have X2c11 : w1.cell? ⟨w.heap.size + 1 + 1, 11, none⟩ = some (.int .i64 0) := X2.cell 11
  have X2f11 : w1.frozen? ⟨w.heap.size + 1 + 1, 11, none⟩ = false := X2.free 11
  have X2c12 : w1.cell? ⟨w.heap.size + 1 + 1, 12, none⟩ = some (.slice none 0 0) := X2.cell 12
  have X2f12 : w1.frozen? ⟨w.heap.size + 1 + 1, 12, none⟩ = false := X2.free 12
  have X2z : w.heap.size + 1 + 1 < w1.heap.size := X2.lt
  go_wp2
  have hY := (((((((((((((X2.set 0 (.int .i64 0)).set 1 (.int .i64 0)).set 2 (.int .i64 0)).set 3 (.int .i64 0)).set 4 (.int .i64 0)).set 5 (.int .i64 0)).set 6 (.int .i64 0)).set 7 (.int .i64 0)).set 8 (.int .i64 0)).set 9 (.int .i64 0)).set 10 (.int .i64 0)).set 11 (.int .i64 0)).set 12 (.slice none 0 0))
  have hB := (((((((((((((hB.setCell (p := ⟨w.heap.size + 1 + 1, 0, none⟩) (by simp <;> omega) (.int .i64 0)).setCell (p := ⟨w.heap.size + 1 + 1, 1, none⟩) (by simp <;> omega) (.int .i64 0)).setCell (p := ⟨w.heap.size + 1 + 1, 2, none⟩) (by simp <;> omega) (.int .i64 0)).setCell (p := ⟨w.heap.size + 1 + 1, 3, none⟩) (by simp <;> omega) (.int .i64 0)).setCell (p := ⟨w.heap.size + 1 + 1, 4, none⟩) (by simp <;> omega) (.int .i64 0)).setCell (p := ⟨w.heap.size + 1 + 1, 5, none⟩) (by simp <;> omega) (.int .i64 0)).setCell (p := ⟨w.heap.size + 1 + 1, 6, none⟩) (by simp <;> omega) (.int .i64 0)).setCell (p := ⟨w.heap.size + 1 + 1, 7, none⟩) (by simp <;> omega) (.int .i64 0)).setCell (p := ⟨w.heap.size + 1 + 1, 8, none⟩) (by simp <;> omega) (.int .i64 0)).setCell (p := ⟨w.heap.size + 1 + 1, 9, none⟩) (by simp <;> omega) (.int .i64 0)).setCell (p := ⟨w.heap.size + 1 + 1, 10, none⟩) (by simp <;> omega) (.int .i64 0)).setCell (p := ⟨w.heap.size + 1 + 1, 11, none⟩) (by simp <;> omega) (.int .i64 0)).setCell (p := ⟨w.heap.size + 1 + 1, 12, none⟩) (by simp <;> omega) (.slice none 0 0))
  generalize (((((((((((((w1.setCell ⟨w.heap.size + 1 + 1, 0, none⟩ (.int .i64 0)).setCell ⟨w.heap.size + 1 + 1, 1, none⟩ (.int .i64 0)).setCell ⟨w.heap.size + 1 + 1, 2, none⟩ (.int .i64 0)).setCell ⟨w.heap.size + 1 + 1, 3, none⟩ (.int .i64 0)).setCell ⟨w.heap.size + 1 + 1, 4, none⟩ (.int .i64 0)).setCell ⟨w.heap.size + 1 + 1, 5, none⟩ (.int .i64 0)).setCell ⟨w.heap.size + 1 + 1, 6, none⟩ (.int .i64 0)).setCell ⟨w.heap.size + 1 + 1, 7, none⟩ (.int .i64 0)).setCell ⟨w.heap.size + 1 + 1, 8, none⟩ (.int .i64 0)).setCell ⟨w.heap.size + 1 + 1, 9, none⟩ (.int .i64 0)).setCell ⟨w.heap.size + 1 + 1, 10, none⟩ (.int .i64 0)).setCell ⟨w.heap.size + 1 + 1, 11, none⟩ (.int .i64 0)).setCell ⟨w.heap.size + 1 + 1, 12, none⟩ (.slice none 0 0)) = W at hY hB ⊢
  have hYc0 : W.cell? ⟨w.heap.size + 1 + 1, 0, none⟩ = some (.int .i64 0) := hY.cell 0
  have hYc1 : W.cell? ⟨w.heap.size + 1 + 1, 1, none⟩ = some (.int .i64 0) := hY.cell 1
  have hYc2 : W.cell? ⟨w.heap.size + 1 + 1, 2, none⟩ = some (.int .i64 0) := hY.cell 2
  have hYc3 : W.cell? ⟨w.heap.size + 1 + 1, 3, none⟩ = some (.int .i64 0) := hY.cell 3
  have hYc4 : W.cell? ⟨w.heap.size + 1 + 1, 4, none⟩ = some (.int .i64 0) := hY.cell 4
  have hYc5 : W.cell? ⟨w.heap.size + 1 + 1, 5, none⟩ = some (.int .i64 0) := hY.cell 5
  have hYc6 : W.cell? ⟨w.heap.size + 1 + 1, 6, none⟩ = some (.int .i64 0) := hY.cell 6
  have hYc7 : W.cell? ⟨w.heap.size + 1 + 1, 7, none⟩ = some (.int .i64 0) := hY.cell 7
  have hYc8 : W.cell? ⟨w.heap.size + 1 + 1, 8, none⟩ = some (.int .i64 0) := hY.cell 8
  have hYc9 : W.cell? ⟨w.heap.size + 1 + 1, 9, none⟩ = some (.int .i64 0) := hY.cell 9
  have hYc10 : W.cell? ⟨w.heap.size + 1 + 1, 10, none⟩ = some (.int .i64 0) := hY.cell 10
  have hYc11 : W.cell? ⟨w.heap.size + 1 + 1, 11, none⟩ = some (.int .i64 0) := hY.cell 11
  have hYc12 : W.cell? ⟨w.heap.size + 1 + 1, 12, none⟩ = some (.slice none 0 0) := hY.cell 12
  refine bodyPost_ret (v := .tuple #[gmV Pl.zero0 (.slice none 0 0), .int .i64 er]) (by simp [results, Try.results60, go_sem, hYc0, hYc1, hYc2, hYc3, hYc4, hYc5, hYc6, hYc7, hYc8, hYc9, hYc10, hYc11, hYc12, Pl.zero0]) rfl ?_
  exact ⟨rfl, hB⟩

set_option maxRecDepth 100000 in
set_option maxHeartbeats 2000000 in
theorem bOpen_bad2 (p : Pl) (c : List Ln) (V : Value) (w : World) (er : Int) (h1 : Hid (p.checkT = 0)) (h2 : Hid (gateT c = er)) (h0 : Hid (er ≠ 0)) (hC : Hid (CodeAt w w.heap.size V c)) :
    Calls Try.prog 60 #[p.v, .agg #[V]] w fun e w' => e = .returned (.tuple #[gmV Pl.zero0 (.slice none 0 0), .int .i64 er]) ∧ Below w.heap.size w w' := by
  have hd : (er != 0) = true := by simp [h0.out]
  go_enter Try.func60, Try.ntmps60
  go_wp2_with fail
  refine (check_at h1 _).mono ?_
  rintro e w1 ⟨rfl, hb⟩
  have X1 := ((Box.newAt (n := w.heap.size + 1) [V] 63 (by simp)).alloc _).later hb
  have X2 := (Box.newAt (n := w.heap.size + 1 + 1) [.int .i64 0, .int .i64 0, .int .i64 0, .int .i64 0, .int .i64 0, .int .i64 0, .int .i64 0, .int .i64 0, .int .i64 0, .int .i64 0, .int .i64 0, .int .i64 0, .slice none 0 0] 117 (by simp)).later hb
  have hB : Below w.heap.size w w1 := ((((Below.refl w.heap.size w).alloc (by simp <;> omega) _).alloc (by simp <;> omega) _).alloc (by simp <;> omega) _).trans (hb.mono (by simp <;> omega))
  clear hb
  have X1c0 : w1.cell? ⟨w.heap.size + 1, 0, none⟩ = some (V) := X1.cell 0
  have X1f0 : w1.frozen? ⟨w.heap.size + 1, 0, none⟩ = false := X1.free 0
  have X1z : w.heap.size + 1 < w1.heap.size := X1.lt
  go_wp2_with fail
  refine (gcheck_at h2 ((hC.out.below hB).more hB.size)).mono ?_
  rintro e w2 ⟨rfl, hb⟩
  have X2 := X2.later hb
  have hB := hB.trans (hb.mono hB.size)
  clear hb X1c0 X1f0 X1z
  have X2c0 : w2.cell? ⟨w.heap.size + 1 + 1, 0, none⟩ = some (.int .i64 0) := X2.cell 0
  have X2f0 : w2.frozen? ⟨w.heap.size + 1 + 1, 0, none⟩ = false := X2.free 0
  have X2c1 : w2.cell? ⟨w.heap.size + 1 + 1, 1, none⟩ = some (.int .i64 0) := X2.cell 1
  have X2f1 : w2.frozen? ⟨w.heap.size + 1 + 1, 1, none⟩ = false := X2.free 1
  have X2c2 : w2.cell? ⟨w.heap.size + 1 + 1, 2, none⟩ = some (.int .i64 0) := X2.cell 2
  have X2f2 : w2.frozen? ⟨w.heap.size + 1 + 1, 2, none⟩ = false := X2.free 2
  have X2c3 : w2.cell? ⟨w.heap.size + 1 + 1, 3, none⟩ = some (.int .i64 0) := X2.cell 3
  have X2f3 : w2.frozen? ⟨w.heap.size + 1 + 1, 3, none⟩ = false := X2.free 3
  have X2c4 : w2.cell? ⟨w.heap.size + 1 + 1, 4, none⟩ = some (.int .i64 0) := X2.cell 4
  have X2f4 : w2.frozen? ⟨w.heap.size + 1 + 1, 4, none⟩ = false := X2.free 4
  have X2c5 : w2.cell? ⟨w.heap.size + 1 + 1, 5, none⟩ = some (.int .i64 0) := X2.cell 5
  have X2f5 : w2.frozen? ⟨w.heap.size + 1 + 1, 5, none⟩ = false := X2.free 5
  have X2c6 : w2.cell? ⟨w.heap.size + 1 + 1, 6, none⟩ = some (.int .i64 0) := X2.cell 6
  have X2f6 : w2.frozen? ⟨w.heap.size + 1 + 1, 6, none⟩ = false := X2.free 6
  have X2c7 : w2.cell? ⟨w.heap.size + 1 + 1, 7, none⟩ = some (.int .i64 0) := X2.cell 7
  have X2f7 : w2.frozen? ⟨w.heap.size + 1 + 1, 7, none⟩ = false := X2.free 7
  have X2c8 : w2.cell? ⟨w.heap.size + 1 + 1, 8, none⟩ = some (.int .i64 0) := X2.cell 8
  have X2f8 : w2.frozen? ⟨w.heap.size + 1 + 1, 8, none⟩ = false := X2.free 8
  have X2c9 : w2.cell? ⟨w.heap.size + 1 + 1, 9, none⟩ = some (.int .i64 0) := X2.cell 9
  have X2f9 : w2.frozen? ⟨w.heap.size + 1 + 1, 9, none⟩ = false := X2.free 9
  have X2c10 : w2.cell? ⟨w.heap.size + 1 + 1, 10, none⟩ = some (.int .i64 0) := X2.cell 10
  have X2f10 : w2.frozen? ⟨w.heap.size + 1 + 1, 10, none⟩ = false := X2.free 10
  have X2c11 : w2.cell? ⟨w.heap.size + 1 + 1, 11, none⟩ = some (.int .i64 0) := X2.cell 11
  have X2f11 : w2.frozen? ⟨w.heap.size + 1 + 1, 11, none⟩ = false := X2.free 11
  have X2c12 : w2.cell? ⟨w.heap.size + 1 + 1, 12, none⟩ = some (.slice none 0 0) := X2.cell 12
  have X2f12 : w2.frozen? ⟨w.heap.size + 1 + 1, 12, none⟩ = false := X2.free 12
  have X2z : w.heap.size + 1 + 1 < w2.heap.size := X2.lt
  go_wp2
  have hY := (((((((((((((X2.set 0 (.int .i64 0)).set 1 (.int .i64 0)).set 2 (.int .i64 0)).set 3 (.int .i64 0)).set 4 (.int .i64 0)).set 5 (.int .i64 0)).set 6 (.int .i64 0)).set 7 (.int .i64 0)).set 8 (.int .i64 0)).set 9 (.int .i64 0)).set 10 (.int .i64 0)).set 11 (.int .i64 0)).set 12 (.slice none 0 0))
  have hB := (((((((((((((hB.setCell (p := ⟨w.heap.size + 1 + 1, 0, none⟩) (by simp <;> omega) (.int .i64 0)).setCell (p := ⟨w.heap.size + 1 + 1, 1, none⟩) (by simp <;> omega) (.int .i64 0)).setCell (p := ⟨w.heap.size + 1 + 1, 2, none⟩) (by simp <;> omega) (.int .i64 0)).setCell (p := ⟨w.heap.size + 1 + 1, 3, none⟩) (by simp <;> omega) (.int .i64 0)).setCell (p := ⟨w.heap.size + 1 + 1, 4, none⟩) (by simp <;> omega) (.int .i64 0)).setCell (p := ⟨w.heap.size + 1 + 1, 5, none⟩) (by simp <;> omega) (.int .i64 0)).setCell (p := ⟨w.heap.size + 1 + 1, 6, none⟩) (by simp <;> omega) (.int .i64 0)).setCell (p := ⟨w.heap.size + 1 + 1, 7, none⟩) (by simp <;> omega) (.int .i64 0)).setCell (p := ⟨w.heap.size + 1 + 1, 8, none⟩) (by simp <;> omega) (.int .i64 0)).setCell (p := ⟨w.heap.size + 1 + 1, 9, none⟩) (by simp <;> omega) (.int .i64 0)).setCell (p := ⟨w.heap.size + 1 + 1, 10, none⟩) (by simp <;> omega) (.int .i64 0)).setCell (p := ⟨w.heap.size + 1 + 1, 11, none⟩) (by simp <;> omega) (.int .i64 0)).setCell (p := ⟨w.heap.size + 1 + 1, 12, none⟩) (by simp <;> omega) (.slice none 0 0))
  generalize (((((((((((((w2.setCell ⟨w.heap.size + 1 + 1, 0, none⟩ (.int .i64 0)).setCell ⟨w.heap.size + 1 + 1, 1, none⟩ (.int .i64 0)).setCell ⟨w.heap.size + 1 + 1, 2, none⟩ (.int .i64 0)).setCell ⟨w.heap.size + 1 + 1, 3, none⟩ (.int .i64 0)).setCell ⟨w.heap.size + 1 + 1, 4, none⟩ (.int .i64 0)).setCell ⟨w.heap.size + 1 + 1, 5, none⟩ (.int .i64 0)).setCell ⟨w.heap.size + 1 + 1, 6, none⟩ (.int .i64 0)).setCell ⟨w.heap.size + 1 + 1, 7, none⟩ (.int .i64 0)).setCell ⟨w.heap.size + 1 + 1, 8, none⟩ (.int .i64 0)).setCell ⟨w.heap.size + 1 + 1, 9, none⟩ (.int .i64 0)).setCell ⟨w.heap.size + 1 + 1, 10, none⟩ (.int .i64 0)).setCell ⟨w.heap.size + 1 + 1, 11, none⟩ (.int .i64 0)).setCell ⟨w.heap.size + 1 + 1, 12, none⟩ (.slice none 0 0)) = W at hY hB ⊢
  have hYc0 : W.cell? ⟨w.heap.size + 1 + 1, 0, none⟩ = some (.int .i64 0) := hY.cell 0
  have hYc1 : W.cell? ⟨w.heap.size + 1 + 1, 1, none⟩ = some (.int .i64 0) := hY.cell 1
  have hYc2 : W.cell? ⟨w.heap.size + 1 + 1, 2, none⟩ = some (.int .i64 0) := hY.cell 2
  have hYc3 : W.cell? ⟨w.heap.size + 1 + 1, 3, none⟩ = some (.int .i64 0) := hY.cell 3
  have hYc4 : W.cell? ⟨w.heap.size + 1 + 1, 4, none⟩ = some (.int .i64 0) := hY.cell 4
  have hYc5 : W.cell? ⟨w.heap.size + 1 + 1, 5, none⟩ = some (.int .i64 0) := hY.cell 5
  have hYc6 : W.cell? ⟨w.heap.size + 1 + 1, 6, none⟩ = some (.int .i64 0) := hY.cell 6
  have hYc7 : W.cell? ⟨w.heap.size + 1 + 1, 7, none⟩ = some (.int .i64 0) := hY.cell 7
  have hYc8 : W.cell? ⟨w.heap.size + 1 + 1, 8, none⟩ = some (.int .i64 0) := hY.cell 8
  have hYc9 : W.cell? ⟨w.heap.size + 1 + 1, 9, none⟩ = some (.int .i64 0) := hY.cell 9
  have hYc10 : W.cell? ⟨w.heap.size + 1 + 1, 10, none⟩ = some (.int .i64 0) := hY.cell 10
  have hYc11 : W.cell? ⟨w.heap.size + 1 + 1, 11, none⟩ = some (.int .i64 0) := hY.cell 11
  have hYc12 : W.cell? ⟨w.heap.size + 1 + 1, 12, none⟩ = some (.slice none 0 0) := hY.cell 12
  refine bodyPost_ret (v := .tuple #[gmV Pl.zero0 (.slice none 0 0), .int .i64 er]) (by simp [results, Try.results60, go_sem, hYc0, hYc1, hYc2, hYc3, hYc4, hYc5, hYc6, hYc7, hYc8, hYc9, hYc10, hYc11, hYc12, Pl.zero0]) rfl ?_
  exact ⟨rfl, hB⟩

def Pl.m0 (p : Pl) : Int := if 0 < p.pipe then p.feed else 0
def Pl.m1 (p : Pl) : Int := if 1 < p.pipe then p.feed else 0
abbrev mostL (p : Pl) : List Value := [.int .i64 p.top, .int .i64 p.positions, .int .i64 p.m0, .int .i64 p.m1, .int .i64 p.orders, .int .i64 p.age]

set_option maxRecDepth 100000 in
set_option maxHeartbeats 2000000 in
theorem bStates_0 (p : Pl) (V : Value) (w : World) (hp : p.pipe = 0) : Calls Try.prog 61 #[gmV p V] w fun e w' =>
    e = .returned (.func (.func 78) #[] #[.pointer (some ⟨w.heap.size + 1, 0, none⟩)]) ∧ Box w' (w.heap.size + 1) (mostL p) ∧ Below w.heap.size w w' := by
  have hmf : ∀ (fn : Fn) (first cap : Array Value) (w : World), (Instr.makeFunc fn first cap).run Try.prog w = .ok (.func fn first cap) w := fun _ _ _ _ => rfl
  obtain ⟨a0, a1, a2, a3, a4, a5, a6, a7, a8, a9, a10, a11⟩ := p
  dsimp only at hp
  subst hp
  go_enter Try.func61, Try.ntmps61
  go_wp2_with fail
  refine wp_loop_rounds 1 ?_
  skip
  rw [rounds_succ]; go_wp2
  have X1 := Box.newAt (w := w.alloc (.cells #[.int .i64 a0, .int .i64 a1, .int .i64 a2, .int .i64 a3, .int .i64 a4, .int .i64 a5, .int .i64 a6, .int .i64 a7, .int .i64 a8, .int .i64 0, .int .i64 a10, .int .i64 a11, V] 117)) (n := w.heap.size + 1) [.int .i64 a0, .int .i64 a4, .int .i64 0, .int .i64 0, .int .i64 a10, .int .i64 a11] 142 (by simp)
  have hB := ((Below.refl w.heap.size w).alloc (by simp <;> omega) (.cells #[.int .i64 a0, .int .i64 a1, .int .i64 a2, .int .i64 a3, .int .i64 a4, .int .i64 a5, .int .i64 a6, .int .i64 a7, .int .i64 a8, .int .i64 0, .int .i64 a10, .int .i64 a11, V] 117)).alloc (by simp <;> omega) (.cells #[.int .i64 a0, .int .i64 a4, .int .i64 0, .int .i64 0, .int .i64 a10, .int .i64 a11] 142)
  go_ret
  refine ⟨rfl, ?_, hB⟩
  simp only [mostL, Pl.m0, Pl.m1]
  exact X1

set_option maxRecDepth 100000 in
set_option maxHeartbeats 2000000 in
theorem bStates_1 (p : Pl) (V : Value) (w : World) (hp : p.pipe = 1) : Calls Try.prog 61 #[gmV p V] w fun e w' =>
    e = .returned (.func (.func 78) #[] #[.pointer (some ⟨w.heap.size + 1, 0, none⟩)]) ∧ Box w' (w.heap.size + 1) (mostL p) ∧ Below w.heap.size w w' := by
  have hmf : ∀ (fn : Fn) (first cap : Array Value) (w : World), (Instr.makeFunc fn first cap).run Try.prog w = .ok (.func fn first cap) w := fun _ _ _ _ => rfl
  obtain ⟨a0, a1, a2, a3, a4, a5, a6, a7, a8, a9, a10, a11⟩ := p
  dsimp only at hp
  subst hp
  go_enter Try.func61, Try.ntmps61
  go_wp2_with fail
  refine wp_loop_rounds 2 ?_
  rw [rounds_succ]; go_wp2_with fail
  rw [rounds_succ]; go_wp2
  have X1 := Box.newAt (w := w.alloc (.cells #[.int .i64 a0, .int .i64 a1, .int .i64 a2, .int .i64 a3, .int .i64 a4, .int .i64 a5, .int .i64 a6, .int .i64 a7, .int .i64 a8, .int .i64 1, .int .i64 a10, .int .i64 a11, V] 117)) (n := w.heap.size + 1) [.int .i64 a0, .int .i64 a4, .int .i64 a8, .int .i64 0, .int .i64 a10, .int .i64 a11] 142 (by simp)
  have hB := ((Below.refl w.heap.size w).alloc (by simp <;> omega) (.cells #[.int .i64 a0, .int .i64 a1, .int .i64 a2, .int .i64 a3, .int .i64 a4, .int .i64 a5, .int .i64 a6, .int .i64 a7, .int .i64 a8, .int .i64 1, .int .i64 a10, .int .i64 a11, V] 117)).alloc (by simp <;> omega) (.cells #[.int .i64 a0, .int .i64 a4, .int .i64 a8, .int .i64 0, .int .i64 a10, .int .i64 a11] 142)
  go_ret
  refine ⟨rfl, ?_, hB⟩
  simp only [mostL, Pl.m0, Pl.m1]
  exact X1

set_option maxRecDepth 100000 in
set_option maxHeartbeats 2000000 in
theorem bStates_2 (p : Pl) (V : Value) (w : World) (hp : p.pipe = 2) : Calls Try.prog 61 #[gmV p V] w fun e w' =>
    e = .returned (.func (.func 78) #[] #[.pointer (some ⟨w.heap.size + 1, 0, none⟩)]) ∧ Box w' (w.heap.size + 1) (mostL p) ∧ Below w.heap.size w w' := by
  have hmf : ∀ (fn : Fn) (first cap : Array Value) (w : World), (Instr.makeFunc fn first cap).run Try.prog w = .ok (.func fn first cap) w := fun _ _ _ _ => rfl
  obtain ⟨a0, a1, a2, a3, a4, a5, a6, a7, a8, a9, a10, a11⟩ := p
  dsimp only at hp
  subst hp
  go_enter Try.func61, Try.ntmps61
  go_wp2_with fail
  refine wp_loop_rounds 3 ?_
  rw [rounds_succ]; go_wp2_with fail; rw [rounds_succ]; go_wp2_with fail
  rw [rounds_succ]; go_wp2
  have X1 := Box.newAt (w := w.alloc (.cells #[.int .i64 a0, .int .i64 a1, .int .i64 a2, .int .i64 a3, .int .i64 a4, .int .i64 a5, .int .i64 a6, .int .i64 a7, .int .i64 a8, .int .i64 2, .int .i64 a10, .int .i64 a11, V] 117)) (n := w.heap.size + 1) [.int .i64 a0, .int .i64 a4, .int .i64 a8, .int .i64 a8, .int .i64 a10, .int .i64 a11] 142 (by simp)
  have hB := ((Below.refl w.heap.size w).alloc (by simp <;> omega) (.cells #[.int .i64 a0, .int .i64 a1, .int .i64 a2, .int .i64 a3, .int .i64 a4, .int .i64 a5, .int .i64 a6, .int .i64 a7, .int .i64 a8, .int .i64 2, .int .i64 a10, .int .i64 a11, V] 117)).alloc (by simp <;> omega) (.cells #[.int .i64 a0, .int .i64 a4, .int .i64 a8, .int .i64 a8, .int .i64 a10, .int .i64 a11] 142)
  go_ret
  refine ⟨rfl, ?_, hB⟩
  simp only [mostL, Pl.m0, Pl.m1]
  exact X1

theorem bStates_any (p : Pl) (V : Value) (w : World) (hp : 0 ≤ p.pipe ∧ p.pipe ≤ 2) : Calls Try.prog 61 #[gmV p V] w fun e w' =>
    e = .returned (.func (.func 78) #[] #[.pointer (some ⟨w.heap.size + 1, 0, none⟩)]) ∧ Box w' (w.heap.size + 1) (mostL p) ∧ Below w.heap.size w w' := by
  rcases (show p.pipe = 0 ∨ p.pipe = 1 ∨ p.pipe = 2 by omega) with h | h | h
  · exact bStates_0 p V w h
  · exact bStates_1 p V w h
  · exact bStates_2 p V w h

theorem bNext_any (p : Pl) (V : Value) (s : St) (w : World) : Calls Try.prog 63 #[gmV p V, s.v] w fun e w' =>
    e = .returned (.func (.func 79) #[] #[.pointer (some ⟨w.heap.size, 0, none⟩), .pointer (some ⟨w.heap.size + 1, 0, none⟩)]) ∧ Box w' w.heap.size (gmL p V) ∧ Box w' (w.heap.size + 1) s.cells ∧ Below w.heap.size w w' := by
  have hmf : ∀ (fn : Fn) (first cap : Array Value) (w : World), (Instr.makeFunc fn first cap).run Try.prog w = .ok (.func fn first cap) w := fun _ _ _ _ => rfl
  go_enter Try.func63, Try.ntmps63
  go_wp2
  have X0 := (Box.newAt (w := w) (n := w.heap.size) (gmL p V) 117 rfl).alloc (.cells #[.int .i64 s.level, .int .i64 s.position, .int .i64 s.p0, .int .i64 s.p1, .int .i64 s.order, .int .i64 s.age] 51)
  have X1 := Box.newAt (w := w.alloc (.cells #[.int .i64 p.top, .int .i64 p.bank, .int .i64 p.siphon, .int .i64 p.start, .int .i64 p.positions, .int .i64 p.rate, .int .i64 p.step, .int .i64 p.pass, .int .i64 p.feed, .int .i64 p.pipe, .int .i64 p.orders, .int .i64 p.age, V] 117)) (n := w.heap.size + 1) s.cells 51 (by simp)
  have hB := ((Below.refl w.heap.size w).alloc (by simp <;> omega) (.cells #[.int .i64 p.top, .int .i64 p.bank, .int .i64 p.siphon, .int .i64 p.start, .int .i64 p.positions, .int .i64 p.rate, .int .i64 p.step, .int .i64 p.pass, .int .i64 p.feed, .int .i64 p.pipe, .int .i64 p.orders, .int .i64 p.age, V] 117)).alloc (by simp <;> omega) (.cells #[.int .i64 s.level, .int .i64 s.position, .int .i64 s.p0, .int .i64 s.p1, .int .i64 s.order, .int .i64 s.age] 51)
  go_ret
  exact ⟨rfl, X0, X1, hB⟩
end Go.Proofs.Ytcjcjkomcolgeaa
