/- Contracts of open, safe, next and states of package barrier (the iterators are in BL, BM). (Printed by pp.py.) No condition. -/
import Derived.Test.YtancngachnpefaaQK
import Derived.Test.YtancngachnpefaaQB
import Derived.Test.YtancngachnpefaaQP
import Derived.Test.YtancngachnpefaaQS
import Derived.Test.YtancngachnpefaaQBB
import Derived.Deep.CutBlock
import Derived.Deep.LoopGhost
set_option linter.unusedVariables false
set_option linter.unusedSimpArgs false
set_option maxRecDepth 100000
set_option maxHeartbeats 2000000
namespace Go.Proofs.Ytancngachnpefaa
open Go.RowKit Go.Shelf
def Pl.zero0 : Pl := ⟨0, 0, 0, 0, 0, 0, 0, 0, 0, 0, 0, 0⟩
abbrev gmV (p : Pl) (V : Value) : Value := .agg #[.int .i64 p.top, .int .i64 p.bank, .int .i64 p.siphon, .int .i64 p.start, .int .i64 p.positions, .int .i64 p.rate, .int .i64 p.step, .int .i64 p.pass, .int .i64 p.feed, .int .i64 p.pipe, .int .i64 p.orders, .int .i64 p.age, V]
abbrev gmL (p : Pl) (V : Value) : List Value := [.int .i64 p.top, .int .i64 p.bank, .int .i64 p.siphon, .int .i64 p.start, .int .i64 p.positions, .int .i64 p.rate, .int .i64 p.step, .int .i64 p.pass, .int .i64 p.feed, .int .i64 p.pipe, .int .i64 p.orders, .int .i64 p.age, V]
theorem bOpen_good (p : Pl) (c : List Ln) (V : Value) (w : World) (h1 : Hid (p.checkT = 0)) (h2 : Hid (gateT c = 0)) (hC : Hid (CodeAt w w.heap.size V c)) :
    Calls Try.prog 40 #[p.v, .agg #[V]] w fun e w' => e = .returned (.tuple #[gmV p V, .int .i64 0]) ∧ Below w.heap.size w w' := by
  obtain ⟨A, k, rfl, hm⟩ := hC.out.form
  obtain ⟨m, hmm⟩ : ∃ m, c.length = m := ⟨_, rfl⟩
  rw [hmm] at hC ⊢
  clear hm hmm
  go_enter Try.func40, Try.ntmps40
  go_wp2_with fail
  refine (check_at h1 _).mono ?_
  rintro e w1 ⟨rfl, hb⟩
  have X0 := (((Box.newAt (n := w.heap.size) [.int .i64 p.top, .int .i64 p.bank, .int .i64 p.siphon, .int .i64 p.start, .int .i64 p.positions, .int .i64 p.rate, .int .i64 p.step, .int .i64 p.pass, .int .i64 p.feed, .int .i64 p.pipe, .int .i64 p.orders, .int .i64 p.age] 23 (by simp)).alloc _).alloc _).later hb
  have X1 := ((Box.newAt (n := w.heap.size + 1) [.slice A m k] 26 (by simp)).alloc _).later hb
  have X2 := (Box.newAt (n := w.heap.size + 1 + 1) [.int .i64 0, .int .i64 0, .int .i64 0, .int .i64 0, .int .i64 0, .int .i64 0, .int .i64 0, .int .i64 0, .int .i64 0, .int .i64 0, .int .i64 0, .int .i64 0, .slice none 0 0] 83 (by simp)).later hb
  have hB : Below w.heap.size w w1 := ((((Below.refl w.heap.size w).alloc (by simp <;> omega) _).alloc (by simp <;> omega) _).alloc (by simp <;> omega) _).trans (hb.mono (by simp <;> omega))
  clear hb
  have X1c0 : w1.cell? ⟨w.heap.size + 1, 0, none⟩ = some (.slice A m k) := X1.cell 0
  have X1f0 : w1.frozen? ⟨w.heap.size + 1, 0, none⟩ = false := X1.free 0
  have X1z : w.heap.size + 1 < w1.heap.size := X1.lt
  go_wp2_with fail
  refine (gcheck_at h2 ((hC.out.below hB).more hB.size)).mono ?_
  rintro e w2 ⟨rfl, hb⟩
  have X0 := X0.later hb
  have X1 := X1.later hb
  have X2 := X2.later hb
  have hB := hB.trans (hb.mono hB.size)
  clear hb X1c0 X1f0 X1z
  obtain ⟨X0c0, X0f0, X0c1, X0f1, X0c2, X0f2, X0c3, X0f3, X0c4, X0f4, X0c5, X0f5, X0c6, X0f6, X0c7, X0f7, X0c8, X0f8, X0c9, X0f9, X0c10, X0f10, X0c11, X0f11⟩ := X0.f12
  have X0z : w.heap.size < w2.heap.size := X0.lt
  have X1c0 : w2.cell? ⟨w.heap.size + 1, 0, none⟩ = some (.slice A m k) := X1.cell 0
  have X1f0 : w2.frozen? ⟨w.heap.size + 1, 0, none⟩ = false := X1.free 0
  have X1z : w.heap.size + 1 < w2.heap.size := X1.lt
  have X2c0 : w2.cell? ⟨w.heap.size + 1 + 1, 0, none⟩ = some (.int .i64 0) := X2.cell 0
  have X2f0 : w2.frozen? ⟨w.heap.size + 1 + 1, 0, none⟩ = false := X2.free 0
  have X2c1 : w2.cell? ⟨w.heap.size + 1 + 1, 1, none⟩ = some (.int .i64 0) := X2.cell 1
  have X2f1 : w2.frozen? ⟨w.heap.size + 1 + 1, 1, none⟩ = false := X2.free 1
  have X2c2 : w2.cell? ⟨w.heap.size + 1 + 1, 2, none⟩ = some (.int .i64 0) := X2.cell 2
  have X2f2 : w2.frozen? ⟨w.heap.size + 1 + 1, 2, none⟩ = false := X2.free 2
  have X2c3 : w2.cell? ⟨w.heap.size + 1 + 1, 3, none⟩ = some (.int .i64 0) := X2.cell 3
  have X2f3 : w2.frozen? ⟨w.heap.size + 1 + 1, 3, none⟩ = false := X2.free 3
  have X2c4 : w2.cell? ⟨w.heap.size + 1 + 1, 4, none⟩ = some (.int .i64 0) := X2.cell 4
  have X2f4 : w2.frozen? ⟨w.heap.size + 1 + 1, 4, none⟩ = false := X2.free 4
  have X2c5 : w2.cell? ⟨w.heap.size + 1 + 1, 5, none⟩ = some (.int .i64 0) := X2.cell 5
  have X2f5 : w2.frozen? ⟨w.heap.size + 1 + 1, 5, none⟩ = false := X2.free 5
  have X2c6 : w2.cell? ⟨w.heap.size + 1 + 1, 6, none⟩ = some (.int .i64 0) := X2.cell 6
  have X2f6 : w2.frozen? ⟨w.heap.size + 1 + 1, 6, none⟩ = false := X2.free 6
  have X2c7 : w2.cell? ⟨w.heap.size + 1 + 1, 7, none⟩ = some (.int .i64 0) := X2.cell 7
  have X2f7 : w2.frozen? ⟨w.heap.size + 1 + 1, 7, none⟩ = false := X2.free 7
  have X2c8 : w2.cell? ⟨w.heap.size + 1 + 1, 8, none⟩ = some (.int .i64 0) := X2.cell 8
  have X2f8 : w2.frozen? ⟨w.heap.size + 1 + 1, 8, none⟩ = false := X2.free 8
  have X2c9 : w2.cell? ⟨w.heap.size + 1 + 1, 9, none⟩ = some (.int .i64 0) := X2.cell 9
  have X2f9 : w2.frozen? ⟨w.heap.size + 1 + 1, 9, none⟩ = false := X2.free 9
  have X2c10 : w2.cell? ⟨w.heap.size + 1 + 1, 10, none⟩ = some (.int .i64 0) := X2.cell 10
  have X2f10 : w2.frozen? ⟨w.heap.size + 1 + 1, 10, none⟩ = false := X2.free 10
  have X2c11 : w2.cell? ⟨w.heap.size + 1 + 1, 11, none⟩ = some (.int .i64 0) := X2.cell 11
  have X2f11 : w2.frozen? ⟨w.heap.size + 1 + 1, 11, none⟩ = false := X2.free 11
  have X2c12 : w2.cell? ⟨w.heap.size + 1 + 1, 12, none⟩ = some (.slice none 0 0) := X2.cell 12
  have X2f12 : w2.frozen? ⟨w.heap.size + 1 + 1, 12, none⟩ = false := X2.free 12
  have X2z : w.heap.size + 1 + 1 < w2.heap.size := X2.lt
  go_wp2
  have hY := (((((((((((((X2.set 0 (.int .i64 p.top)).set 1 (.int .i64 p.bank)).set 2 (.int .i64 p.siphon)).set 3 (.int .i64 p.start)).set 4 (.int .i64 p.positions)).set 5 (.int .i64 p.rate)).set 6 (.int .i64 p.step)).set 7 (.int .i64 p.pass)).set 8 (.int .i64 p.feed)).set 9 (.int .i64 p.pipe)).set 10 (.int .i64 p.orders)).set 11 (.int .i64 p.age)).set 12 (.slice A m k))
  have hB := (((((((((((((hB.setCell (p := ⟨w.heap.size + 1 + 1, 0, none⟩) (by simp <;> omega) (.int .i64 p.top)).setCell (p := ⟨w.heap.size + 1 + 1, 1, none⟩) (by simp <;> omega) (.int .i64 p.bank)).setCell (p := ⟨w.heap.size + 1 + 1, 2, none⟩) (by simp <;> omega) (.int .i64 p.siphon)).setCell (p := ⟨w.heap.size + 1 + 1, 3, none⟩) (by simp <;> omega) (.int .i64 p.start)).setCell (p := ⟨w.heap.size + 1 + 1, 4, none⟩) (by simp <;> omega) (.int .i64 p.positions)).setCell (p := ⟨w.heap.size + 1 + 1, 5, none⟩) (by simp <;> omega) (.int .i64 p.rate)).setCell (p := ⟨w.heap.size + 1 + 1, 6, none⟩) (by simp <;> omega) (.int .i64 p.step)).setCell (p := ⟨w.heap.size + 1 + 1, 7, none⟩) (by simp <;> omega) (.int .i64 p.pass)).setCell (p := ⟨w.heap.size + 1 + 1, 8, none⟩) (by simp <;> omega) (.int .i64 p.feed)).setCell (p := ⟨w.heap.size + 1 + 1, 9, none⟩) (by simp <;> omega) (.int .i64 p.pipe)).setCell (p := ⟨w.heap.size + 1 + 1, 10, none⟩) (by simp <;> omega) (.int .i64 p.orders)).setCell (p := ⟨w.heap.size + 1 + 1, 11, none⟩) (by simp <;> omega) (.int .i64 p.age)).setCell (p := ⟨w.heap.size + 1 + 1, 12, none⟩) (by simp <;> omega) (.slice A m k))
  generalize (((((((((((((w2.setCell ⟨w.heap.size + 1 + 1, 0, none⟩ (.int .i64 p.top)).setCell ⟨w.heap.size + 1 + 1, 1, none⟩ (.int .i64 p.bank)).setCell ⟨w.heap.size + 1 + 1, 2, none⟩ (.int .i64 p.siphon)).setCell ⟨w.heap.size + 1 + 1, 3, none⟩ (.int .i64 p.start)).setCell ⟨w.heap.size + 1 + 1, 4, none⟩ (.int .i64 p.positions)).setCell ⟨w.heap.size + 1 + 1, 5, none⟩ (.int .i64 p.rate)).setCell ⟨w.heap.size + 1 + 1, 6, none⟩ (.int .i64 p.step)).setCell ⟨w.heap.size + 1 + 1, 7, none⟩ (.int .i64 p.pass)).setCell ⟨w.heap.size + 1 + 1, 8, none⟩ (.int .i64 p.feed)).setCell ⟨w.heap.size + 1 + 1, 9, none⟩ (.int .i64 p.pipe)).setCell ⟨w.heap.size + 1 + 1, 10, none⟩ (.int .i64 p.orders)).setCell ⟨w.heap.size + 1 + 1, 11, none⟩ (.int .i64 p.age)).setCell ⟨w.heap.size + 1 + 1, 12, none⟩ (.slice A m k)) = W at hY hB ⊢
  have hYc0 : W.cell? ⟨w.heap.size + 1 + 1, 0, none⟩ = some (.int .i64 p.top) := hY.cell 0
  have hYc1 : W.cell? ⟨w.heap.size + 1 + 1, 1, none⟩ = some (.int .i64 p.bank) := hY.cell 1
  have hYc2 : W.cell? ⟨w.heap.size + 1 + 1, 2, none⟩ = some (.int .i64 p.siphon) := hY.cell 2
  have hYc3 : W.cell? ⟨w.heap.size + 1 + 1, 3, none⟩ = some (.int .i64 p.start) := hY.cell 3
  have hYc4 : W.cell? ⟨w.heap.size + 1 + 1, 4, none⟩ = some (.int .i64 p.positions) := hY.cell 4
  have hYc5 : W.cell? ⟨w.heap.size + 1 + 1, 5, none⟩ = some (.int .i64 p.rate) := hY.cell 5
  have hYc6 : W.cell? ⟨w.heap.size + 1 + 1, 6, none⟩ = some (.int .i64 p.step) := hY.cell 6
  have hYc7 : W.cell? ⟨w.heap.size + 1 + 1, 7, none⟩ = some (.int .i64 p.pass) := hY.cell 7
  have hYc8 : W.cell? ⟨w.heap.size + 1 + 1, 8, none⟩ = some (.int .i64 p.feed) := hY.cell 8
  have hYc9 : W.cell? ⟨w.heap.size + 1 + 1, 9, none⟩ = some (.int .i64 p.pipe) := hY.cell 9
  have hYc10 : W.cell? ⟨w.heap.size + 1 + 1, 10, none⟩ = some (.int .i64 p.orders) := hY.cell 10
  have hYc11 : W.cell? ⟨w.heap.size + 1 + 1, 11, none⟩ = some (.int .i64 p.age) := hY.cell 11
  have hYc12 : W.cell? ⟨w.heap.size + 1 + 1, 12, none⟩ = some (.slice A m k) := hY.cell 12
  refine bodyPost_ret (v := .tuple #[gmV p (.slice A m k), .int .i64 0]) (by simp [results, Try.results40, go_sem, hYc0, hYc1, hYc2, hYc3, hYc4, hYc5, hYc6, hYc7, hYc8, hYc9, hYc10, hYc11, hYc12]) rfl ?_
  exact ⟨rfl, hB⟩
theorem bOpen_bad1 (p : Pl) (c : List Ln) (V : Value) (w : World) (er : Int) (h1 : Hid (p.checkT = er)) (h0 : Hid (er ≠ 0)) (_hC : Hid (CodeAt w w.heap.size V c)) :
    Calls Try.prog 40 #[p.v, .agg #[V]] w fun e w' => e = .returned (.tuple #[gmV Pl.zero0 (.slice none 0 0), .int .i64 er]) ∧ Below w.heap.size w w' := by
  have hd : (er != 0) = true := by simp [h0.out]
  go_enter Try.func40, Try.ntmps40
  go_wp2_with fail
  refine (check_at h1 _).mono ?_
  rintro e w1 ⟨rfl, hb⟩
  have X2 := (Box.newAt (n := w.heap.size + 1 + 1) [.int .i64 0, .int .i64 0, .int .i64 0, .int .i64 0, .int .i64 0, .int .i64 0, .int .i64 0, .int .i64 0, .int .i64 0, .int .i64 0, .int .i64 0, .int .i64 0, .slice none 0 0] 83 (by simp)).later hb
  have hB : Below w.heap.size w w1 := ((((Below.refl w.heap.size w).alloc (by simp <;> omega) _).alloc (by simp <;> omega) _).alloc (by simp <;> omega) _).trans (hb.mono (by simp <;> omega))
  clear hb
  have X2c0 : w1.cell? ⟨w.heap.size + 1 + 1, 0, none⟩ = some (.int .i64 0) := X2.cell 0
  have X2f0 : w1.frozen? ⟨w.heap.size + 1 + 1, 0, none⟩ = false := X2.free 0
  have X2c1 : w1.cell? ⟨w.heap.size + 1 + 1, 1, none⟩ = some (.int .i64 0) := X2.cell 1
  have X2f1 : w1.frozen? ⟨w.heap.size + 1 + 1, 1, none⟩ = false := X2.free 1
  have X2c2 : w1.cell? ⟨w.heap.size + 1 + 1, 2, none⟩ = some (.int .i64 0) := X2.cell 2
  have X2f2 : w1.frozen? ⟨w.heap.size + 1 + 1, 2, none⟩ = false := X2.free 2
  have X2c3 : w1.cell? ⟨w.heap.size + 1 + 1, 3, none⟩ = some (.int .i64 0) := X2.cell 3
  have X2f3 : w1.frozen? ⟨w.heap.size + 1 + 1, 3, none⟩ = false := X2.free 3
  have X2c4 : w1.cell? ⟨w.heap.size + 1 + 1, 4, none⟩ = some (.int .i64 0) := X2.cell 4
  have X2f4 : w1.frozen? ⟨w.heap.size + 1 + 1, 4, none⟩ = false := X2.free 4
  have X2c5 : w1.cell? ⟨w.heap.size + 1 + 1, 5, none⟩ = some (.int .i64 0) := X2.cell 5
  have X2f5 : w1.frozen? ⟨w.heap.size + 1 + 1, 5, none⟩ = false := X2.free 5
  have X2c6 : w1.cell? ⟨w.heap.size + 1 + 1, 6, none⟩ = some (.int .i64 0) := X2.cell 6
  have X2f6 : w1.frozen? ⟨w.heap.size + 1 + 1, 6, none⟩ = false := X2.free 6
  have X2c7 : w1.cell? ⟨w.heap.size + 1 + 1, 7, none⟩ = some (.int .i64 0) := X2.cell 7
  have X2f7 : w1.frozen? ⟨w.heap.size + 1 + 1, 7, none⟩ = false := X2.free 7
  have X2c8 : w1.cell? ⟨w.heap.size + 1 + 1, 8, none⟩ = some (.int .i64 0) := X2.cell 8
  have X2f8 : w1.frozen? ⟨w.heap.size + 1 + 1, 8, none⟩ = false := X2.free 8
  have X2c9 : w1.cell? ⟨w.heap.size + 1 + 1, 9, none⟩ = some (.int .i64 0) := X2.cell 9
  have X2f9 : w1.frozen? ⟨w.heap.size + 1 + 1, 9, none⟩ = false := X2.free 9
  have X2c10 : w1.cell? ⟨w.heap.size + 1 + 1, 10, none⟩ = some (.int .i64 0) := X2.cell 10
  have X2f10 : w1.frozen? ⟨w.heap.size + 1 + 1, 10, none⟩ = false := X2.free 10
  have X2c11 : w1.cell? ⟨w.heap.size + 1 + 1, 11, none⟩ = some (.int .i64 0) := X2.cell 11
  have X2f11 : w1.frozen? ⟨w.heap.size + 1 + 1, 11, none⟩ = false := X2.free 11
  have X2c12 : w1.cell? ⟨w.heap.size + 1 + 1, 12, none⟩ = some (.slice none 0 0) := X2.cell 12
  have X2f12 : w1.frozen? ⟨w.heap.size + 1 + 1, 12, none⟩ = false := X2.free 12
  have X2z : w.heap.size + 1 + 1 < w1.heap.size := X2.lt
  go_wp2
  have hY := (((((((((((((X2.set 0 (.int .i64 0)).set 1 (.int .i64 0)).set 2 (.int .i64 0)).set 3 (.int .i64 0)).set 4 (.int .i64 0)).set 5 (.int .i64 0)).set 6 (.int .i64 0)).set 7 (.int .i64 0)).set 8 (.int .i64 0)).set 9 (.int .i64 0)).set 10 (.int .i64 0)).set 11 (.int .i64 0)).set 12 (.slice none 0 0))
  have hB := (((((((((((((hB.setCell (p := ⟨w.heap.size + 1 + 1, 0, none⟩) (by simp <;> omega) (.int .i64 0)).setCell (p := ⟨w.heap.size + 1 + 1, 1, none⟩) (by simp <;> omega) (.int .i64 0)).setCell (p := ⟨w.heap.size + 1 + 1, 2, none⟩) (by simp <;> omega) (.int .i64 0)).setCell (p := ⟨w.heap.size + 1 + 1, 3, none⟩) (by simp <;> omega) (.int .i64 0)).setCell (p := ⟨w.heap.size + 1 + 1, 4, none⟩) (by simp <;> omega) (.int .i64 0)).setCell (p := ⟨w.heap.size + 1 + 1, 5, none⟩) (by simp <;> omega) (.int .i64 0)).setCell (p := ⟨w.heap.size + 1 + 1, 6, none⟩) (by simp <;> omega) (.int .i64 0)).setCell (p := ⟨w.heap.size + 1 + 1, 7, none⟩) (by simp <;> omega) (.int .i64 0)).setCell (p := ⟨w.heap.size + 1 + 1, 8, none⟩) (by simp <;> omega) (.int .i64 0)).setCell (p := ⟨w.heap.size + 1 + 1, 9, none⟩) (by simp <;> omega) (.int .i64 0)).setCell (p := ⟨w.heap.size + 1 + 1, 10, none⟩) (by simp <;> omega) (.int .i64 0)).setCell (p := ⟨w.heap.size + 1 + 1, 11, none⟩) (by simp <;> omega) (.int .i64 0)).setCell (p := ⟨w.heap.size + 1 + 1, 12, none⟩) (by simp <;> omega) (.slice none 0 0))
  generalize (((((((((((((w1.setCell ⟨w.heap.size + 1 + 1, 0, none⟩ (.int .i64 0)).setCell ⟨w.heap.size + 1 + 1, 1, none⟩ (.int .i64 0)).setCell ⟨w.heap.size + 1 + 1, 2, none⟩ (.int .i64 0)).setCell ⟨w.heap.size + 1 + 1, 3, none⟩ (.int .i64 0)).setCell ⟨w.heap.size + 1 + 1, 4, none⟩ (.int .i64 0)).setCell ⟨w.heap.size + 1 + 1, 5, none⟩ (.int .i64 0)).setCell ⟨w.heap.size + 1 + 1, 6, none⟩ (.int .i64 0)).setCell ⟨w.heap.size + 1 + 1, 7, none⟩ (.int .i64 0)).setCell ⟨w.heap.size + 1 + 1, 8, none⟩ (.int .i64 0)).setCell ⟨w.heap.size + 1 + 1, 9, none⟩ (.int .i64 0)).setCell ⟨w.heap.size + 1 + 1, 10, none⟩ (.int .i64 0)).setCell ⟨w.heap.size + 1 + 1, 11, none⟩ (.int .i64 0)).setCell ⟨w.heap.size + 1 + 1, 12, none⟩ (.slice none 0 0)) = W at hY hB ⊢
  have hYc0 : W.cell? ⟨w.heap.size + 1 + 1, 0, none⟩ = some (.int .i64 0) := hY.cell 0
  have hYc1 : W.cell? ⟨w.heap.size + 1 + 1, 1, none⟩ = some (.int .i64 0) := hY.cell 1
  have hYc2 : W.cell? ⟨w.heap.size + 1 + 1, 2, none⟩ = some (.int .i64 0) := hY.cell 2
  have hYc3 : W.cell? ⟨w.heap.size + 1 + 1, 3, none⟩ = some (.int .i64 0) := hY.cell 3
  have hYc4 : W.cell? ⟨w.heap.size + 1 + 1, 4, none⟩ = some (.int .i64 0) := hY.cell 4
  have hYc5 : W.cell? ⟨w.heap.size + 1 + 1, 5, none⟩ = some (.int .i64 0) := hY.cell 5
  have hYc6 : W.cell? ⟨w.heap.size + 1 + 1, 6, none⟩ = some (.int .i64 0) := hY.cell 6
  have hYc7 : W.cell? ⟨w.heap.size + 1 + 1, 7, none⟩ = some (.int .i64 0) := hY.cell 7
  have hYc8 : W.cell? ⟨w.heap.size + 1 + 1, 8, none⟩ = some (.int .i64 0) := hY.cell 8
  have hYc9 : W.cell? ⟨w.heap.size + 1 + 1, 9, none⟩ = some (.int .i64 0) := hY.cell 9
  have hYc10 : W.cell? ⟨w.heap.size + 1 + 1, 10, none⟩ = some (.int .i64 0) := hY.cell 10
  have hYc11 : W.cell? ⟨w.heap.size + 1 + 1, 11, none⟩ = some (.int .i64 0) := hY.cell 11
  have hYc12 : W.cell? ⟨w.heap.size + 1 + 1, 12, none⟩ = some (.slice none 0 0) := hY.cell 12
  refine bodyPost_ret (v := .tuple #[gmV Pl.zero0 (.slice none 0 0), .int .i64 er]) (by simp [results, Try.results40, go_sem, hYc0, hYc1, hYc2, hYc3, hYc4, hYc5, hYc6, hYc7, hYc8, hYc9, hYc10, hYc11, hYc12, Pl.zero0]) rfl ?_
  exact ⟨rfl, hB⟩
theorem bOpen_bad2 (p : Pl) (c : List Ln) (V : Value) (w : World) (er : Int) (h1 : Hid (p.checkT = 0)) (h2 : Hid (gateT c = er)) (h0 : Hid (er ≠ 0)) (hC : Hid (CodeAt w w.heap.size V c)) :
    Calls Try.prog 40 #[p.v, .agg #[V]] w fun e w' => e = .returned (.tuple #[gmV Pl.zero0 (.slice none 0 0), .int .i64 er]) ∧ Below w.heap.size w w' := by
  have hd : (er != 0) = true := by simp [h0.out]
  go_enter Try.func40, Try.ntmps40
  go_wp2_with fail
  refine (check_at h1 _).mono ?_
  rintro e w1 ⟨rfl, hb⟩
  have X1 := ((Box.newAt (n := w.heap.size + 1) [V] 26 (by simp)).alloc _).later hb
  have X2 := (Box.newAt (n := w.heap.size + 1 + 1) [.int .i64 0, .int .i64 0, .int .i64 0, .int .i64 0, .int .i64 0, .int .i64 0, .int .i64 0, .int .i64 0, .int .i64 0, .int .i64 0, .int .i64 0, .int .i64 0, .slice none 0 0] 83 (by simp)).later hb
  have hB : Below w.heap.size w w1 := ((((Below.refl w.heap.size w).alloc (by simp <;> omega) _).alloc (by simp <;> omega) _).alloc (by simp <;> omega) _).trans (hb.mono (by simp <;> omega))
  clear hb
  have X1c0 : w1.cell? ⟨w.heap.size + 1, 0, none⟩ = some (V) := X1.cell 0
  have X1f0 : w1.frozen? ⟨w.heap.size + 1, 0, none⟩ = false := X1.free 0
  have X1z : w.heap.size + 1 < w1.heap.size := X1.lt
  go_wp2_with fail
  refine (gcheck_at h2 ((hC.out.below hB).more hB.size)).mono ?_
  rintro e w2 ⟨rfl, hb⟩
  have X2 := X2.later hb
  have hB := hB.trans (hb.mono hB.size)
  clear hb X1c0 X1f0 X1z
  have X2c0 : w2.cell? ⟨w.heap.size + 1 + 1, 0, none⟩ = some (.int .i64 0) := X2.cell 0
  have X2f0 : w2.frozen? ⟨w.heap.size + 1 + 1, 0, none⟩ = false := X2.free 0
  have X2c1 : w2.cell? ⟨w.heap.size + 1 + 1, 1, none⟩ = some (.int .i64 0) := X2.cell 1
  have X2f1 : w2.frozen? ⟨w.heap.size + 1 + 1, 1, none⟩ = false := X2.free 1
  have X2c2 : w2.cell? ⟨w.heap.size + 1 + 1, 2, none⟩ = some (.int .i64 0) := X2.cell 2
  have X2f2 : w2.frozen? ⟨w.heap.size + 1 + 1, 2, none⟩ = false := X2.free 2
  have X2c3 : w2.cell? ⟨w.heap.size + 1 + 1, 3, none⟩ = some (.int .i64 0) := X2.cell 3
  have X2f3 : w2.frozen? ⟨w.heap.size + 1 + 1, 3, none⟩ = false := X2.free 3
  have X2c4 : w2.cell? ⟨w.heap.size + 1 + 1, 4, none⟩ = some (.int .i64 0) := X2.cell 4
  have X2f4 : w2.frozen? ⟨w.heap.size + 1 + 1, 4, none⟩ = false := X2.free 4
  have X2c5 : w2.cell? ⟨w.heap.size + 1 + 1, 5, none⟩ = some (.int .i64 0) := X2.cell 5
  have X2f5 : w2.frozen? ⟨w.heap.size + 1 + 1, 5, none⟩ = false := X2.free 5
  have X2c6 : w2.cell? ⟨w.heap.size + 1 + 1, 6, none⟩ = some (.int .i64 0) := X2.cell 6
  have X2f6 : w2.frozen? ⟨w.heap.size + 1 + 1, 6, none⟩ = false := X2.free 6
  have X2c7 : w2.cell? ⟨w.heap.size + 1 + 1, 7, none⟩ = some (.int .i64 0) := X2.cell 7
  have X2f7 : w2.frozen? ⟨w.heap.size + 1 + 1, 7, none⟩ = false := X2.free 7
  have X2c8 : w2.cell? ⟨w.heap.size + 1 + 1, 8, none⟩ = some (.int .i64 0) := X2.cell 8
  have X2f8 : w2.frozen? ⟨w.heap.size + 1 + 1, 8, none⟩ = false := X2.free 8
  have X2c9 : w2.cell? ⟨w.heap.size + 1 + 1, 9, none⟩ = some (.int .i64 0) := X2.cell 9
  have X2f9 : w2.frozen? ⟨w.heap.size + 1 + 1, 9, none⟩ = false := X2.free 9
  have X2c10 : w2.cell? ⟨w.heap.size + 1 + 1, 10, none⟩ = some (.int .i64 0) := X2.cell 10
  have X2f10 : w2.frozen? ⟨w.heap.size + 1 + 1, 10, none⟩ = false := X2.free 10
  have X2c11 : w2.cell? ⟨w.heap.size + 1 + 1, 11, none⟩ = some (.int .i64 0) := X2.cell 11
  have X2f11 : w2.frozen? ⟨w.heap.size + 1 + 1, 11, none⟩ = false := X2.free 11
  have X2c12 : w2.cell? ⟨w.heap.size + 1 + 1, 12, none⟩ = some (.slice none 0 0) := X2.cell 12
  have X2f12 : w2.frozen? ⟨w.heap.size + 1 + 1, 12, none⟩ = false := X2.free 12
  have X2z : w.heap.size + 1 + 1 < w2.heap.size := X2.lt
  go_wp2
  have hY := (((((((((((((X2.set 0 (.int .i64 0)).set 1 (.int .i64 0)).set 2 (.int .i64 0)).set 3 (.int .i64 0)).set 4 (.int .i64 0)).set 5 (.int .i64 0)).set 6 (.int .i64 0)).set 7 (.int .i64 0)).set 8 (.int .i64 0)).set 9 (.int .i64 0)).set 10 (.int .i64 0)).set 11 (.int .i64 0)).set 12 (.slice none 0 0))
  have hB := (((((((((((((hB.setCell (p := ⟨w.heap.size + 1 + 1, 0, none⟩) (by simp <;> omega) (.int .i64 0)).setCell (p := ⟨w.heap.size + 1 + 1, 1, none⟩) (by simp <;> omega) (.int .i64 0)).setCell (p := ⟨w.heap.size + 1 + 1, 2, none⟩) (by simp <;> omega) (.int .i64 0)).setCell (p := ⟨w.heap.size + 1 + 1, 3, none⟩) (by simp <;> omega) (.int .i64 0)).setCell (p := ⟨w.heap.size + 1 + 1, 4, none⟩) (by simp <;> omega) (.int .i64 0)).setCell (p := ⟨w.heap.size + 1 + 1, 5, none⟩) (by simp <;> omega) (.int .i64 0)).setCell (p := ⟨w.heap.size + 1 + 1, 6, none⟩) (by simp <;> omega) (.int .i64 0)).setCell (p := ⟨w.heap.size + 1 + 1, 7, none⟩) (by simp <;> omega) (.int .i64 0)).setCell (p := ⟨w.heap.size + 1 + 1, 8, none⟩) (by simp <;> omega) (.int .i64 0)).setCell (p := ⟨w.heap.size + 1 + 1, 9, none⟩) (by simp <;> omega) (.int .i64 0)).setCell (p := ⟨w.heap.size + 1 + 1, 10, none⟩) (by simp <;> omega) (.int .i64 0)).setCell (p := ⟨w.heap.size + 1 + 1, 11, none⟩) (by simp <;> omega) (.int .i64 0)).setCell (p := ⟨w.heap.size + 1 + 1, 12, none⟩) (by simp <;> omega) (.slice none 0 0))
  generalize (((((((((((((w2.setCell ⟨w.heap.size + 1 + 1, 0, none⟩ (.int .i64 0)).setCell ⟨w.heap.size + 1 + 1, 1, none⟩ (.int .i64 0)).setCell ⟨w.heap.size + 1 + 1, 2, none⟩ (.int .i64 0)).setCell ⟨w.heap.size + 1 + 1, 3, none⟩ (.int .i64 0)).setCell ⟨w.heap.size + 1 + 1, 4, none⟩ (.int .i64 0)).setCell ⟨w.heap.size + 1 + 1, 5, none⟩ (.int .i64 0)).setCell ⟨w.heap.size + 1 + 1, 6, none⟩ (.int .i64 0)).setCell ⟨w.heap.size + 1 + 1, 7, none⟩ (.int .i64 0)).setCell ⟨w.heap.size + 1 + 1, 8, none⟩ (.int .i64 0)).setCell ⟨w.heap.size + 1 + 1, 9, none⟩ (.int .i64 0)).setCell ⟨w.heap.size + 1 + 1, 10, none⟩ (.int .i64 0)).setCell ⟨w.heap.size + 1 + 1, 11, none⟩ (.int .i64 0)).setCell ⟨w.heap.size + 1 + 1, 12, none⟩ (.slice none 0 0)) = W at hY hB ⊢
  have hYc0 : W.cell? ⟨w.heap.size + 1 + 1, 0, none⟩ = some (.int .i64 0) := hY.cell 0
  have hYc1 : W.cell? ⟨w.heap.size + 1 + 1, 1, none⟩ = some (.int .i64 0) := hY.cell 1
  have hYc2 : W.cell? ⟨w.heap.size + 1 + 1, 2, none⟩ = some (.int .i64 0) := hY.cell 2
  have hYc3 : W.cell? ⟨w.heap.size + 1 + 1, 3, none⟩ = some (.int .i64 0) := hY.cell 3
  have hYc4 : W.cell? ⟨w.heap.size + 1 + 1, 4, none⟩ = some (.int .i64 0) := hY.cell 4
  have hYc5 : W.cell? ⟨w.heap.size + 1 + 1, 5, none⟩ = some (.int .i64 0) := hY.cell 5
  have hYc6 : W.cell? ⟨w.heap.size + 1 + 1, 6, none⟩ = some (.int .i64 0) := hY.cell 6
  have hYc7 : W.cell? ⟨w.heap.size + 1 + 1, 7, none⟩ = some (.int .i64 0) := hY.cell 7
  have hYc8 : W.cell? ⟨w.heap.size + 1 + 1, 8, none⟩ = some (.int .i64 0) := hY.cell 8
  have hYc9 : W.cell? ⟨w.heap.size + 1 + 1, 9, none⟩ = some (.int .i64 0) := hY.cell 9
  have hYc10 : W.cell? ⟨w.heap.size + 1 + 1, 10, none⟩ = some (.int .i64 0) := hY.cell 10
  have hYc11 : W.cell? ⟨w.heap.size + 1 + 1, 11, none⟩ = some (.int .i64 0) := hY.cell 11
  have hYc12 : W.cell? ⟨w.heap.size + 1 + 1, 12, none⟩ = some (.slice none 0 0) := hY.cell 12
  refine bodyPost_ret (v := .tuple #[gmV Pl.zero0 (.slice none 0 0), .int .i64 er]) (by simp [results, Try.results40, go_sem, hYc0, hYc1, hYc2, hYc3, hYc4, hYc5, hYc6, hYc7, hYc8, hYc9, hYc10, hYc11, hYc12, Pl.zero0]) rfl ?_
  exact ⟨rfl, hB⟩
def Pl.m0 (p : Pl) : Int := if 0 < p.pipe then p.feed else 0
def Pl.m1 (p : Pl) : Int := if 1 < p.pipe then p.feed else 0
abbrev mostL (p : Pl) : List Value := [.int .i64 p.top, .int .i64 p.positions, .int .i64 p.m0, .int .i64 p.m1, .int .i64 p.orders, .int .i64 p.age]
theorem bStates_0 (p : Pl) (V : Value) (w : World) (hp : p.pipe = 0) : Calls Try.prog 41 #[gmV p V] w fun e w' =>
    e = .returned (.func (.func 66) #[] #[.pointer (some ⟨w.heap.size + 1, 0, none⟩)]) ∧ Box w' (w.heap.size + 1) (mostL p) ∧ Below w.heap.size w w' := by
  have hmf : ∀ (fn : Fn) (first cap : Array Value) (w : World), (Instr.makeFunc fn first cap).run Try.prog w = .ok (.func fn first cap) w := fun _ _ _ _ => rfl
  obtain ⟨a0, a1, a2, a3, a4, a5, a6, a7, a8, a9, a10, a11⟩ := p
  dsimp only at hp
  subst hp
  go_enter Try.func41, Try.ntmps41
  go_wp2_with fail
  refine wp_loop_rounds 1 ?_
  skip
  rw [rounds_succ]; go_wp2
  have X1 := Box.newAt (w := w.alloc (.cells #[.int .i64 a0, .int .i64 a1, .int .i64 a2, .int .i64 a3, .int .i64 a4, .int .i64 a5, .int .i64 a6, .int .i64 a7, .int .i64 a8, .int .i64 0, .int .i64 a10, .int .i64 a11, V] 83)) (n := w.heap.size + 1) [.int .i64 a0, .int .i64 a4, .int .i64 0, .int .i64 0, .int .i64 a10, .int .i64 a11] 127 (by simp)
  have hB := ((Below.refl w.heap.size w).alloc (by simp <;> omega) (.cells #[.int .i64 a0, .int .i64 a1, .int .i64 a2, .int .i64 a3, .int .i64 a4, .int .i64 a5, .int .i64 a6, .int .i64 a7, .int .i64 a8, .int .i64 0, .int .i64 a10, .int .i64 a11, V] 83)).alloc (by simp <;> omega) (.cells #[.int .i64 a0, .int .i64 a4, .int .i64 0, .int .i64 0, .int .i64 a10, .int .i64 a11] 127)
  go_ret
  refine ⟨rfl, ?_, hB⟩
  simp only [mostL, Pl.m0, Pl.m1]
  exact X1
theorem bStates_1 (p : Pl) (V : Value) (w : World) (hp : p.pipe = 1) : Calls Try.prog 41 #[gmV p V] w fun e w' =>
    e = .returned (.func (.func 66) #[] #[.pointer (some ⟨w.heap.size + 1, 0, none⟩)]) ∧ Box w' (w.heap.size + 1) (mostL p) ∧ Below w.heap.size w w' := by
  have hmf : ∀ (fn : Fn) (first cap : Array Value) (w : World), (Instr.makeFunc fn first cap).run Try.prog w = .ok (.func fn first cap) w := fun _ _ _ _ => rfl
  obtain ⟨a0, a1, a2, a3, a4, a5, a6, a7, a8, a9, a10, a11⟩ := p
  dsimp only at hp
  subst hp
  go_enter Try.func41, Try.ntmps41
  go_wp2_with fail
  refine wp_loop_rounds 2 ?_
  rw [rounds_succ]; go_wp2_with fail
  rw [rounds_succ]; go_wp2
  have X1 := Box.newAt (w := w.alloc (.cells #[.int .i64 a0, .int .i64 a1, .int .i64 a2, .int .i64 a3, .int .i64 a4, .int .i64 a5, .int .i64 a6, .int .i64 a7, .int .i64 a8, .int .i64 1, .int .i64 a10, .int .i64 a11, V] 83)) (n := w.heap.size + 1) [.int .i64 a0, .int .i64 a4, .int .i64 a8, .int .i64 0, .int .i64 a10, .int .i64 a11] 127 (by simp)
  have hB := ((Below.refl w.heap.size w).alloc (by simp <;> omega) (.cells #[.int .i64 a0, .int .i64 a1, .int .i64 a2, .int .i64 a3, .int .i64 a4, .int .i64 a5, .int .i64 a6, .int .i64 a7, .int .i64 a8, .int .i64 1, .int .i64 a10, .int .i64 a11, V] 83)).alloc (by simp <;> omega) (.cells #[.int .i64 a0, .int .i64 a4, .int .i64 a8, .int .i64 0, .int .i64 a10, .int .i64 a11] 127)
  go_ret
  refine ⟨rfl, ?_, hB⟩
  simp only [mostL, Pl.m0, Pl.m1]
  exact X1
theorem bStates_2 (p : Pl) (V : Value) (w : World) (hp : p.pipe = 2) : Calls Try.prog 41 #[gmV p V] w fun e w' =>
    e = .returned (.func (.func 66) #[] #[.pointer (some ⟨w.heap.size + 1, 0, none⟩)]) ∧ Box w' (w.heap.size + 1) (mostL p) ∧ Below w.heap.size w w' := by
  have hmf : ∀ (fn : Fn) (first cap : Array Value) (w : World), (Instr.makeFunc fn first cap).run Try.prog w = .ok (.func fn first cap) w := fun _ _ _ _ => rfl
  obtain ⟨a0, a1, a2, a3, a4, a5, a6, a7, a8, a9, a10, a11⟩ := p
  dsimp only at hp
  subst hp
  go_enter Try.func41, Try.ntmps41
  go_wp2_with fail
  refine wp_loop_rounds 3 ?_
  rw [rounds_succ]; go_wp2_with fail; rw [rounds_succ]; go_wp2_with fail
  rw [rounds_succ]; go_wp2
  have X1 := Box.newAt (w := w.alloc (.cells #[.int .i64 a0, .int .i64 a1, .int .i64 a2, .int .i64 a3, .int .i64 a4, .int .i64 a5, .int .i64 a6, .int .i64 a7, .int .i64 a8, .int .i64 2, .int .i64 a10, .int .i64 a11, V] 83)) (n := w.heap.size + 1) [.int .i64 a0, .int .i64 a4, .int .i64 a8, .int .i64 a8, .int .i64 a10, .int .i64 a11] 127 (by simp)
  have hB := ((Below.refl w.heap.size w).alloc (by simp <;> omega) (.cells #[.int .i64 a0, .int .i64 a1, .int .i64 a2, .int .i64 a3, .int .i64 a4, .int .i64 a5, .int .i64 a6, .int .i64 a7, .int .i64 a8, .int .i64 2, .int .i64 a10, .int .i64 a11, V] 83)).alloc (by simp <;> omega) (.cells #[.int .i64 a0, .int .i64 a4, .int .i64 a8, .int .i64 a8, .int .i64 a10, .int .i64 a11] 127)
  go_ret
  refine ⟨rfl, ?_, hB⟩
  simp only [mostL, Pl.m0, Pl.m1]
  exact X1
theorem bStates_any (p : Pl) (V : Value) (w : World) (hp : 0 ≤ p.pipe ∧ p.pipe ≤ 2) : Calls Try.prog 41 #[gmV p V] w fun e w' =>
    e = .returned (.func (.func 66) #[] #[.pointer (some ⟨w.heap.size + 1, 0, none⟩)]) ∧ Box w' (w.heap.size + 1) (mostL p) ∧ Below w.heap.size w w' := by
  rcases (show p.pipe = 0 ∨ p.pipe = 1 ∨ p.pipe = 2 by omega) with h | h | h
  · exact bStates_0 p V w h
  · exact bStates_1 p V w h
  · exact bStates_2 p V w h
theorem bNext_any (p : Pl) (V : Value) (s : St) (w : World) : Calls Try.prog 43 #[gmV p V, s.v] w fun e w' =>
    e = .returned (.func (.func 67) #[] #[.pointer (some ⟨w.heap.size, 0, none⟩), .pointer (some ⟨w.heap.size + 1, 0, none⟩)]) ∧ Box w' w.heap.size (gmL p V) ∧ Box w' (w.heap.size + 1) s.cells ∧ Below w.heap.size w w' := by
  have hmf : ∀ (fn : Fn) (first cap : Array Value) (w : World), (Instr.makeFunc fn first cap).run Try.prog w = .ok (.func fn first cap) w := fun _ _ _ _ => rfl
  go_enter Try.func43, Try.ntmps43
  go_wp2
  have X0 := (Box.newAt (w := w) (n := w.heap.size) (gmL p V) 83 rfl).alloc (.cells #[.int .i64 s.level, .int .i64 s.position, .int .i64 s.p0, .int .i64 s.p1, .int .i64 s.order, .int .i64 s.age] 30)
  have X1 := Box.newAt (w := w.alloc (.cells #[.int .i64 p.top, .int .i64 p.bank, .int .i64 p.siphon, .int .i64 p.start, .int .i64 p.positions, .int .i64 p.rate, .int .i64 p.step, .int .i64 p.pass, .int .i64 p.feed, .int .i64 p.pipe, .int .i64 p.orders, .int .i64 p.age, V] 83)) (n := w.heap.size + 1) s.cells 30 (by simp)
  have hB := ((Below.refl w.heap.size w).alloc (by simp <;> omega) (.cells #[.int .i64 p.top, .int .i64 p.bank, .int .i64 p.siphon, .int .i64 p.start, .int .i64 p.positions, .int .i64 p.rate, .int .i64 p.step, .int .i64 p.pass, .int .i64 p.feed, .int .i64 p.pipe, .int .i64 p.orders, .int .i64 p.age, V] 83)).alloc (by simp <;> omega) (.cells #[.int .i64 s.level, .int .i64 s.position, .int .i64 s.p0, .int .i64 s.p1, .int .i64 s.order, .int .i64 s.age] 30)
  go_ret
  exact ⟨rfl, X0, X1, hB⟩
end Go.Proofs.Ytancngachnpefaa
namespace Go.Proofs.Ytancngachnpefaa
open Go.RowKit Go.Shelf
attribute [local go_sem] Oper.semAt_some
theorem mod_step {n q : Nat} (hn : 0 < n) : (q % n ≠ n - 1 ∧ (q + 1) % n = q % n + 1 ∧ (q + 1) / n = q / n) ∨ (q % n = n - 1 ∧ (q + 1) % n = 0 ∧ (q + 1) / n = q / n + 1) := by
  obtain ⟨c, hc⟩ : ∃ c, q / n = c := ⟨_, rfl⟩
  obtain ⟨r, hr⟩ : ∃ r, q % n = r := ⟨_, rfl⟩
  have hlt : r < n := hr ▸ Nat.mod_lt q hn
  have hq : q = c * n + r := by rw [← hc, ← hr, Nat.mul_comm]; exact (Nat.div_add_mod q n).symm
  rw [hc, hr]
  by_cases h : r = n - 1
  · right
    have e : q + 1 = (c + 1) * n + 0 := by rw [hq, Nat.add_mul, Nat.one_mul]; omega
    obtain ⟨h1, h2⟩ := div_step (q := c + 1) (n := n) (r := 0) hn
    rw [e]
    exact ⟨h, h2, h1⟩
  · left
    have e : q + 1 = c * n + (r + 1) := by rw [hq]; omega
    obtain ⟨h1, h2⟩ := div_step (q := c) (n := n) (r := r + 1) (by omega)
    rw [e]
    exact ⟨h, h2, h1⟩
theorem stAt_q (p : Pl) (k : Nat) : p.stAt k = ⟨(k / p.na / p.no / p.ny / p.nx / p.n0 : Nat), (k / p.na / p.no / p.ny / p.nx % p.n0 : Nat), (k / p.na / p.no / p.ny % p.nx : Nat), (k / p.na / p.no % p.ny : Nat), (k / p.na % p.no : Nat), (k % p.na : Nat)⟩ := by
  have e1 : k / (p.no * p.na) = k / p.na / p.no := by rw [Nat.mul_comm, Nat.div_div_eq_div_mul]
  have e2 : k / (p.ny * (p.no * p.na)) = k / p.na / p.no / p.ny := by rw [Nat.mul_comm p.ny, ← Nat.div_div_eq_div_mul, e1]
  have e3 : k / (p.nx * (p.ny * (p.no * p.na))) = k / p.na / p.no / p.ny / p.nx := by rw [Nat.mul_comm p.nx, ← Nat.div_div_eq_div_mul, e2]
  have e4 : k / (p.n0 * (p.nx * (p.ny * (p.no * p.na)))) = k / p.na / p.no / p.ny / p.nx / p.n0 := by rw [Nat.mul_comm p.n0, ← Nat.div_div_eq_div_mul, e3]
  unfold Pl.stAt
  rw [e1, e2, e3, e4]
structure Succ (p : Pl) (k : Nat) (x y : St) : Prop where
  d5 : x.age ≠ p.age → y = ⟨x.level, x.position, x.p0, x.p1, x.order, x.age + 1⟩
  d4 : x.age = p.age → x.order ≠ p.orders → y = ⟨x.level, x.position, x.p0, x.p1, x.order + 1, 0⟩
  d3 : x.age = p.age → x.order = p.orders → x.p1 ≠ p.m1 → y = ⟨x.level, x.position, x.p0, x.p1 + 1, 0, 0⟩
  d2 : x.age = p.age → x.order = p.orders → x.p1 = p.m1 → x.p0 ≠ p.m0 → y = ⟨x.level, x.position, x.p0 + 1, 0, 0, 0⟩
  d1 : x.age = p.age → x.order = p.orders → x.p1 = p.m1 → x.p0 = p.m0 → x.position ≠ p.positions → y = ⟨x.level, x.position + 1, 0, 0, 0, 0⟩
  d0 : x.age = p.age → x.order = p.orders → x.p1 = p.m1 → x.p0 = p.m0 → x.position = p.positions → x.level ≠ p.top → y = ⟨x.level + 1, 0, 0, 0, 0, 0⟩
theorem stAt_succ {p : Pl} (hv : p.Valid) (k : Nat) : Succ p k (p.stAt k) (p.stAt (k + 1)) := by
  obtain ⟨a, b, c, d, e⟩ := hv.ns
  obtain ⟨m1, m2⟩ := hv.maxes
  have h1 := hv.positions
  have h3 := hv.orders
  have h4 := hv.age
  have e0 : (p.n0 : Int) = p.positions + 1 := by unfold Pl.n0; omega
  have e1 : (p.no : Int) = p.orders + 1 := by unfold Pl.no; omega
  have e2 : (p.na : Int) = p.age + 1 := by unfold Pl.na; omega
  change (p.nx : Int) - 1 = p.m0 at m1
  change (p.ny : Int) - 1 = p.m1 at m2
  rw [stAt_q, stAt_q]
  have s5 := mod_step (q := k) e
  have s4 := mod_step (q := k / p.na) d
  have s3 := mod_step (q := k / p.na / p.no) c
  have s2 := mod_step (q := k / p.na / p.no / p.ny) b
  have s1 := mod_step (q := k / p.na / p.no / p.ny / p.nx) a
  constructor
  · intro g5
    dsimp only at g5
    obtain ⟨_, r5, q5⟩ := s5.resolve_right (fun h => g5 (by have := h.1; omega))
    simp only [r5, q5]
    congr 1
  · intro g5 g4
    dsimp only at g5 g4
    obtain ⟨_, r5, q5⟩ := s5.resolve_left (fun h => h.1 (by omega))
    obtain ⟨_, r4, q4⟩ := s4.resolve_right (fun h => g4 (by have := h.1; omega))
    simp only [r5, q5, r4, q4]
    congr 1
  · intro g5 g4 g3
    dsimp only at g5 g4 g3
    obtain ⟨_, r5, q5⟩ := s5.resolve_left (fun h => h.1 (by omega))
    obtain ⟨_, r4, q4⟩ := s4.resolve_left (fun h => h.1 (by omega))
    obtain ⟨_, r3, q3⟩ := s3.resolve_right (fun h => g3 (by have := h.1; omega))
    simp only [r5, q5, r4, q4, r3, q3]
    congr 1
  · intro g5 g4 g3 g2
    dsimp only at g5 g4 g3 g2
    obtain ⟨_, r5, q5⟩ := s5.resolve_left (fun h => h.1 (by omega))
    obtain ⟨_, r4, q4⟩ := s4.resolve_left (fun h => h.1 (by omega))
    obtain ⟨_, r3, q3⟩ := s3.resolve_left (fun h => h.1 (by omega))
    obtain ⟨_, r2, q2⟩ := s2.resolve_right (fun h => g2 (by have := h.1; omega))
    simp only [r5, q5, r4, q4, r3, q3, r2, q2]
    congr 1
  · intro g5 g4 g3 g2 g1
    dsimp only at g5 g4 g3 g2 g1
    obtain ⟨_, r5, q5⟩ := s5.resolve_left (fun h => h.1 (by omega))
    obtain ⟨_, r4, q4⟩ := s4.resolve_left (fun h => h.1 (by omega))
    obtain ⟨_, r3, q3⟩ := s3.resolve_left (fun h => h.1 (by omega))
    obtain ⟨_, r2, q2⟩ := s2.resolve_left (fun h => h.1 (by omega))
    obtain ⟨_, r1, q1⟩ := s1.resolve_right (fun h => g1 (by have := h.1; omega))
    simp only [r5, q5, r4, q4, r3, q3, r2, q2, r1, q1]
    congr 1
  · intro g5 g4 g3 g2 g1 g0
    dsimp only at g5 g4 g3 g2 g1 g0
    obtain ⟨_, r5, q5⟩ := s5.resolve_left (fun h => h.1 (by omega))
    obtain ⟨_, r4, q4⟩ := s4.resolve_left (fun h => h.1 (by omega))
    obtain ⟨_, r3, q3⟩ := s3.resolve_left (fun h => h.1 (by omega))
    obtain ⟨_, r2, q2⟩ := s2.resolve_left (fun h => h.1 (by omega))
    obtain ⟨_, r1, q1⟩ := s1.resolve_left (fun h => h.1 (by omega))
    simp only [r5, q5, r4, q4, r3, q3, r2, q2, r1, q1]
    congr 1
theorem mod_last {n q : Nat} (h : q % n = n - 1) (hn : 0 < n) : q + 1 = (q / n + 1) * n := by
  have := Nat.div_add_mod q n
  rw [Nat.add_mul, Nat.one_mul, Nat.mul_comm]
  omega
theorem stAt_last {p : Pl} (hv : p.Valid) {k : Nat} (hk : k < p.count) (g5 : (p.stAt k).age = p.age) (g4 : (p.stAt k).order = p.orders) (g3 : (p.stAt k).p1 = p.m1) (g2 : (p.stAt k).p0 = p.m0) (g1 : (p.stAt k).position = p.positions) (g0 : (p.stAt k).level = p.top) : k + 1 = p.count := by
  obtain ⟨a, b, c, d, e⟩ := hv.ns
  obtain ⟨m1, m2⟩ := hv.maxes
  have h1 := hv.positions
  have h2 := hv.top
  have h3 := hv.orders
  have h4 := hv.age
  have e0 : (p.n0 : Int) = p.positions + 1 := by unfold Pl.n0; omega
  have e1 : (p.no : Int) = p.orders + 1 := by unfold Pl.no; omega
  have e2 : (p.na : Int) = p.age + 1 := by unfold Pl.na; omega
  change (p.nx : Int) - 1 = p.m0 at m1
  change (p.ny : Int) - 1 = p.m1 at m2
  rw [stAt_q] at g5 g4 g3 g2 g1 g0
  dsimp only at g5 g4 g3 g2 g1 g0
  have s5 := mod_last (q := k) (n := p.na) (by omega) e
  have s4 := mod_last (q := k / p.na) (n := p.no) (by omega) d
  have s3 := mod_last (q := k / p.na / p.no) (n := p.ny) (by omega) c
  have s2 := mod_last (q := k / p.na / p.no / p.ny) (n := p.nx) (by omega) b
  have s1 := mod_last (q := k / p.na / p.no / p.ny / p.nx) (n := p.n0) (by omega) a
  have s0 : k / p.na / p.no / p.ny / p.nx / p.n0 + 1 = (p.top + 1).toNat := by omega
  rw [s5, s4, s3, s2, s1, s0]
  unfold Pl.count
  simp only [Nat.mul_assoc]
theorem stAt_zero (p : Pl) : p.stAt 0 = St.zero := by simp [stAt_q, St.zero]
theorem states_take (p : Pl) (k : Nat) : (List.range (k + 1)).map p.stAt = (List.range k).map p.stAt ++ [p.stAt k] := by
  rw [List.range_succ, List.map_append]; rfl
theorem count_pos {p : Pl} (hv : p.Valid) : 0 < p.count := by
  obtain ⟨a, b, c, d, e⟩ := hv.ns
  have := hv.top
  exact Nat.mul_pos (by omega) (Nat.mul_pos a (Nat.mul_pos b (Nat.mul_pos c (Nat.mul_pos d e))))
end Go.Proofs.Ytancngachnpefaa
