/- Contracts of Count, Begin of plant and of its reference. (Printed by gen_d.py.) -/
import Derived.Test.YtcjcjkomcolgeaaQB
import Derived.Test.YtcjcjkomcolgeaaQC
set_option linter.unusedVariables false
set_option linter.unusedSimpArgs false
namespace Go.Proofs.Ytcjcjkomcolgeaa
open Go.RowKit

def RetS (t : St × Int) (w : World) (e : Ending) (w' : World) : Prop := ∃ (s : St) (er : Int), e = .returned (.tuple #[s.v, .int .i64 er]) ∧ Hid (t = (s, er)) ∧ Below w.heap.size w w'
def RetN (t : Int × Int) (w : World) (e : Ending) (w' : World) : Prop := ∃ n er : Int, e = .returned (.tuple #[.int .i64 n, .int .i64 er]) ∧ Hid (t = (n, er)) ∧ Below w.heap.size w w'
def RetO (t : Bool × Int) (w : World) (e : Ending) (w' : World) : Prop := ∃ (ok : Bool) (er : Int), e = .returned (.tuple #[.bool ok, .int .i64 er]) ∧ Hid (t = (ok, er)) ∧ Below w.heap.size w w'
theorem check_at {p : Pl} {c : Int} (h : Hid (p.checkT = c)) (w : World) : Calls Try.prog 22 #[p.v] w fun e w' => e = .returned (.int .i64 c) ∧ Below w.heap.size w w' :=
  (check_any p w).mono fun _ _ ⟨he, hb⟩ => ⟨by rw [he, h.out], hb⟩
theorem rcheck_at {p : Pl} {c : Int} (h : Hid (p.checkT = c)) (w : World) : Calls Try.prog 34 #[p.v] w fun e w' => e = .returned (.int .i64 c) ∧ Below w.heap.size w w' :=
  (rcheck_any p w).mono fun _ _ ⟨he, hb⟩ => ⟨by rw [he, h.out], hb⟩

set_option maxRecDepth 100000 in
set_option maxHeartbeats 2000000 in
theorem Begin_no (p : Pl) (c : Int) (h : Hid (p.checkT = c)) (_h1 : (c == 0) = false) (_h2 : (c != 0) = true) (w : World) : Calls Try.prog 24 #[p.v] w fun e w' => e = .returned (.tuple #[St.zero.v, .int .i64 c]) ∧ Below w.heap.size w w' := by
  go_enter Try.func24, Try.ntmps24
  go_wp2_with fail
  refine (check_at h _).mono ?_
  rintro e w1 ⟨rfl, hb⟩
  have X0 := (((Box.newAt (n := w.heap.size) [.int .i64 p.top, .int .i64 p.bank, .int .i64 p.siphon, .int .i64 p.start, .int .i64 p.positions, .int .i64 p.rate, .int .i64 p.step, .int .i64 p.pass, .int .i64 p.feed, .int .i64 p.pipe, .int .i64 p.orders, .int .i64 p.age] 55 (by simp)).alloc _)).later hb
  have X1 := ((Box.newAt (n := w.heap.size + 1) [.int .i64 0, .int .i64 0, .int .i64 0, .int .i64 0, .int .i64 0, .int .i64 0] 51 (by simp))).later hb
  have hB : Below w.heap.size w w1 := ((((Below.refl w.heap.size w).alloc (by simp <;> omega) _).alloc (by simp <;> omega) _)).trans (hb.mono (by simp <;> omega))
  clear hb
  have X1c0 : w1.cell? ⟨w.heap.size + 1, 0, none⟩ = some (.int .i64 0) := X1.cell 0
  have X1f0 : w1.frozen? ⟨w.heap.size + 1, 0, none⟩ = false := X1.free 0
  have X1c1 : w1.cell? ⟨w.heap.size + 1, 1, none⟩ = some (.int .i64 0) := X1.cell 1
  have X1f1 : w1.frozen? ⟨w.heap.size + 1, 1, none⟩ = false := X1.free 1
  have X1c2 : w1.cell? ⟨w.heap.size + 1, 2, none⟩ = some (.int .i64 0) := X1.cell 2
  have X1f2 : w1.frozen? ⟨w.heap.size + 1, 2, none⟩ = false := X1.free 2
  have X1c3 : w1.cell? ⟨w.heap.size + 1, 3, none⟩ = some (.int .i64 0) := X1.cell 3
  have X1f3 : w1.frozen? ⟨w.heap.size + 1, 3, none⟩ = false := X1.free 3
  have X1c4 : w1.cell? ⟨w.heap.size + 1, 4, none⟩ = some (.int .i64 0) := X1.cell 4
  have X1f4 : w1.frozen? ⟨w.heap.size + 1, 4, none⟩ = false := X1.free 4
  have X1c5 : w1.cell? ⟨w.heap.size + 1, 5, none⟩ = some (.int .i64 0) := X1.cell 5
  have X1f5 : w1.frozen? ⟨w.heap.size + 1, 5, none⟩ = false := X1.free 5
  have X1z : w.heap.size + 1 < w1.heap.size := X1.lt
  have hle : w.heap.size ≤ w.heap.size + 1 := by omega
  go_wp2
  have hY := ((((((X1.set 0 (.int .i64 0)).set 1 (.int .i64 0)).set 2 (.int .i64 0)).set 3 (.int .i64 0)).set 4 (.int .i64 0)).set 5 (.int .i64 0))
  have hB := ((((((hB.setCell (p := ⟨w.heap.size + 1, 0, none⟩) (by simp) (.int .i64 0)).setCell (p := ⟨w.heap.size + 1, 1, none⟩) (by simp) (.int .i64 0)).setCell (p := ⟨w.heap.size + 1, 2, none⟩) (by simp) (.int .i64 0)).setCell (p := ⟨w.heap.size + 1, 3, none⟩) (by simp) (.int .i64 0)).setCell (p := ⟨w.heap.size + 1, 4, none⟩) (by simp) (.int .i64 0)).setCell (p := ⟨w.heap.size + 1, 5, none⟩) (by simp) (.int .i64 0))
  generalize ((((((w1.setCell ⟨w.heap.size + 1, 0, none⟩ (.int .i64 0)).setCell ⟨w.heap.size + 1, 1, none⟩ (.int .i64 0)).setCell ⟨w.heap.size + 1, 2, none⟩ (.int .i64 0)).setCell ⟨w.heap.size + 1, 3, none⟩ (.int .i64 0)).setCell ⟨w.heap.size + 1, 4, none⟩ (.int .i64 0)).setCell ⟨w.heap.size + 1, 5, none⟩ (.int .i64 0)) = W at hY hB ⊢
  have y0 : W.cell? ⟨w.heap.size + 1, 0, none⟩ = some (.int .i64 0) := hY.cell 0
  have y1 : W.cell? ⟨w.heap.size + 1, 1, none⟩ = some (.int .i64 0) := hY.cell 1
  have y2 : W.cell? ⟨w.heap.size + 1, 2, none⟩ = some (.int .i64 0) := hY.cell 2
  have y3 : W.cell? ⟨w.heap.size + 1, 3, none⟩ = some (.int .i64 0) := hY.cell 3
  have y4 : W.cell? ⟨w.heap.size + 1, 4, none⟩ = some (.int .i64 0) := hY.cell 4
  have y5 : W.cell? ⟨w.heap.size + 1, 5, none⟩ = some (.int .i64 0) := hY.cell 5
  refine bodyPost_ret (v := .tuple #[St.zero.v, .int .i64 c]) (by simp [results, Try.results24, go_sem, y0, y1, y2, y3, y4, y5, St.zero]) rfl ?_
  exact ⟨rfl, hB⟩

set_option maxRecDepth 100000 in
set_option maxHeartbeats 2000000 in
theorem Begin_yes (p : Pl) (h : Hid (p.checkT = 0)) (w : World) : Calls Try.prog 24 #[p.v] w fun e w' => e = .returned (.tuple #[(St.mk p.start 0 0 0 0 p.age).v, .int .i64 0]) ∧ Below w.heap.size w w' := by
  go_enter Try.func24, Try.ntmps24
  go_wp2_with fail
  refine (check_at h _).mono ?_
  rintro e w1 ⟨rfl, hb⟩
  have X0 := (((Box.newAt (n := w.heap.size) [.int .i64 p.top, .int .i64 p.bank, .int .i64 p.siphon, .int .i64 p.start, .int .i64 p.positions, .int .i64 p.rate, .int .i64 p.step, .int .i64 p.pass, .int .i64 p.feed, .int .i64 p.pipe, .int .i64 p.orders, .int .i64 p.age] 55 (by simp)).alloc _)).later hb
  have X1 := ((Box.newAt (n := w.heap.size + 1) [.int .i64 0, .int .i64 0, .int .i64 0, .int .i64 0, .int .i64 0, .int .i64 0] 51 (by simp))).later hb
  have hB : Below w.heap.size w w1 := ((((Below.refl w.heap.size w).alloc (by simp <;> omega) _).alloc (by simp <;> omega) _)).trans (hb.mono (by simp <;> omega))
  clear hb
  have X0c0 : w1.cell? ⟨w.heap.size, 0, none⟩ = some (.int .i64 p.top) := X0.cell 0
  have X0f0 : w1.frozen? ⟨w.heap.size, 0, none⟩ = false := X0.free 0
  have X0c1 : w1.cell? ⟨w.heap.size, 1, none⟩ = some (.int .i64 p.bank) := X0.cell 1
  have X0f1 : w1.frozen? ⟨w.heap.size, 1, none⟩ = false := X0.free 1
  have X0c2 : w1.cell? ⟨w.heap.size, 2, none⟩ = some (.int .i64 p.siphon) := X0.cell 2
  have X0f2 : w1.frozen? ⟨w.heap.size, 2, none⟩ = false := X0.free 2
  have X0c3 : w1.cell? ⟨w.heap.size, 3, none⟩ = some (.int .i64 p.start) := X0.cell 3
  have X0f3 : w1.frozen? ⟨w.heap.size, 3, none⟩ = false := X0.free 3
  have X0c4 : w1.cell? ⟨w.heap.size, 4, none⟩ = some (.int .i64 p.positions) := X0.cell 4
  have X0f4 : w1.frozen? ⟨w.heap.size, 4, none⟩ = false := X0.free 4
  have X0c5 : w1.cell? ⟨w.heap.size, 5, none⟩ = some (.int .i64 p.rate) := X0.cell 5
  have X0f5 : w1.frozen? ⟨w.heap.size, 5, none⟩ = false := X0.free 5
  have X0c6 : w1.cell? ⟨w.heap.size, 6, none⟩ = some (.int .i64 p.step) := X0.cell 6
  have X0f6 : w1.frozen? ⟨w.heap.size, 6, none⟩ = false := X0.free 6
  have X0c7 : w1.cell? ⟨w.heap.size, 7, none⟩ = some (.int .i64 p.pass) := X0.cell 7
  have X0f7 : w1.frozen? ⟨w.heap.size, 7, none⟩ = false := X0.free 7
  have X0c8 : w1.cell? ⟨w.heap.size, 8, none⟩ = some (.int .i64 p.feed) := X0.cell 8
  have X0f8 : w1.frozen? ⟨w.heap.size, 8, none⟩ = false := X0.free 8
  have X0c9 : w1.cell? ⟨w.heap.size, 9, none⟩ = some (.int .i64 p.pipe) := X0.cell 9
  have X0f9 : w1.frozen? ⟨w.heap.size, 9, none⟩ = false := X0.free 9
  have X0c10 : w1.cell? ⟨w.heap.size, 10, none⟩ = some (.int .i64 p.orders) := X0.cell 10
  have X0f10 : w1.frozen? ⟨w.heap.size, 10, none⟩ = false := X0.free 10
  have X0c11 : w1.cell? ⟨w.heap.size, 11, none⟩ = some (.int .i64 p.age) := X0.cell 11
  have X0f11 : w1.frozen? ⟨w.heap.size, 11, none⟩ = false := X0.free 11
  have X0z : w.heap.size < w1.heap.size := X0.lt
  have X1c0 : w1.cell? ⟨w.heap.size + 1, 0, none⟩ = some (.int .i64 0) := X1.cell 0
  have X1f0 : w1.frozen? ⟨w.heap.size + 1, 0, none⟩ = false := X1.free 0
  have X1c1 : w1.cell? ⟨w.heap.size + 1, 1, none⟩ = some (.int .i64 0) := X1.cell 1
  have X1f1 : w1.frozen? ⟨w.heap.size + 1, 1, none⟩ = false := X1.free 1
  have X1c2 : w1.cell? ⟨w.heap.size + 1, 2, none⟩ = some (.int .i64 0) := X1.cell 2
  have X1f2 : w1.frozen? ⟨w.heap.size + 1, 2, none⟩ = false := X1.free 2
  have X1c3 : w1.cell? ⟨w.heap.size + 1, 3, none⟩ = some (.int .i64 0) := X1.cell 3
  have X1f3 : w1.frozen? ⟨w.heap.size + 1, 3, none⟩ = false := X1.free 3
  have X1c4 : w1.cell? ⟨w.heap.size + 1, 4, none⟩ = some (.int .i64 0) := X1.cell 4
  have X1f4 : w1.frozen? ⟨w.heap.size + 1, 4, none⟩ = false := X1.free 4
  have X1c5 : w1.cell? ⟨w.heap.size + 1, 5, none⟩ = some (.int .i64 0) := X1.cell 5
  have X1f5 : w1.frozen? ⟨w.heap.size + 1, 5, none⟩ = false := X1.free 5
  have X1z : w.heap.size + 1 < w1.heap.size := X1.lt
  go_wp2
  have hY := ((((((X1.set 0 (.int .i64 p.start)).set 1 (.int .i64 0)).set 2 (.int .i64 0)).set 3 (.int .i64 0)).set 4 (.int .i64 0)).set 5 (.int .i64 p.age))
  have hB := ((((((hB.setCell (p := ⟨w.heap.size + 1, 0, none⟩) (by simp) (.int .i64 p.start)).setCell (p := ⟨w.heap.size + 1, 1, none⟩) (by simp) (.int .i64 0)).setCell (p := ⟨w.heap.size + 1, 2, none⟩) (by simp) (.int .i64 0)).setCell (p := ⟨w.heap.size + 1, 3, none⟩) (by simp) (.int .i64 0)).setCell (p := ⟨w.heap.size + 1, 4, none⟩) (by simp) (.int .i64 0)).setCell (p := ⟨w.heap.size + 1, 5, none⟩) (by simp) (.int .i64 p.age))
  generalize ((((((w1.setCell ⟨w.heap.size + 1, 0, none⟩ (.int .i64 p.start)).setCell ⟨w.heap.size + 1, 1, none⟩ (.int .i64 0)).setCell ⟨w.heap.size + 1, 2, none⟩ (.int .i64 0)).setCell ⟨w.heap.size + 1, 3, none⟩ (.int .i64 0)).setCell ⟨w.heap.size + 1, 4, none⟩ (.int .i64 0)).setCell ⟨w.heap.size + 1, 5, none⟩ (.int .i64 p.age)) = W at hY hB ⊢
  have y0 : W.cell? ⟨w.heap.size + 1, 0, none⟩ = some (.int .i64 p.start) := hY.cell 0
  have y1 : W.cell? ⟨w.heap.size + 1, 1, none⟩ = some (.int .i64 0) := hY.cell 1
  have y2 : W.cell? ⟨w.heap.size + 1, 2, none⟩ = some (.int .i64 0) := hY.cell 2
  have y3 : W.cell? ⟨w.heap.size + 1, 3, none⟩ = some (.int .i64 0) := hY.cell 3
  have y4 : W.cell? ⟨w.heap.size + 1, 4, none⟩ = some (.int .i64 0) := hY.cell 4
  have y5 : W.cell? ⟨w.heap.size + 1, 5, none⟩ = some (.int .i64 p.age) := hY.cell 5
  refine bodyPost_ret (v := .tuple #[(St.mk p.start 0 0 0 0 p.age).v, .int .i64 0]) (by simp [results, Try.results24, go_sem, y0, y1, y2, y3, y4, y5]) rfl ?_
  exact ⟨rfl, hB⟩

theorem Begin_any (p : Pl) (w : World) : Calls Try.prog 24 #[p.v] w (RetS p.beginT w) := by
  by_cases h : p.checkT = 0
  · exact (Begin_yes p h w).mono fun _ _ ⟨he, hb⟩ => ⟨_, _, he, by rw [Hid, Pl.beginT, if_pos h], hb⟩
  · exact (Begin_no p _ rfl (by simp [h]) (by simp [h]) w).mono fun _ _ ⟨he, hb⟩ => ⟨_, _, he, by rw [Hid, Pl.beginT, if_neg h], hb⟩
set_option maxRecDepth 100000 in
set_option maxHeartbeats 2000000 in
theorem rCount_no (p : Pl) (c : Int) (h : Hid (p.checkT = c)) (_h1 : (c == 0) = false) (_h2 : (c != 0) = true) (w : World) : Calls Try.prog 27 #[p.v] w fun e w' => e = .returned (.tuple #[.int .i64 0, .int .i64 c]) ∧ Below w.heap.size w w' := by
  go_enter Try.func27, Try.ntmps27
  go_wp2_with fail
  refine (rcheck_at h _).mono ?_
  rintro e w1 ⟨rfl, hb⟩
  have X0 := ((Box.newAt (n := w.heap.size) [.int .i64 p.top, .int .i64 p.bank, .int .i64 p.siphon, .int .i64 p.start, .int .i64 p.positions, .int .i64 p.rate, .int .i64 p.step, .int .i64 p.pass, .int .i64 p.feed, .int .i64 p.pipe, .int .i64 p.orders, .int .i64 p.age] 55 (by simp))).later hb
  have hB : Below w.heap.size w w1 := (((Below.refl w.heap.size w).alloc (by simp <;> omega) _)).trans (hb.mono (by simp <;> omega))
  clear hb
  go_wp2
  go_ret2
  exact ⟨rfl, hB⟩

set_option maxRecDepth 100000 in
set_option maxHeartbeats 2000000 in
theorem rCount_yes (p : Pl) (h : Hid (p.checkT = 0)) (hv : Hid p.Valid) (w : World) : Calls Try.prog 27 #[p.v] w fun e w' => e = .returned (.tuple #[.int .i64 p.countI, .int .i64 0]) ∧ Below w.heap.size w w' := by
  go_enter Try.func27, Try.ntmps27
  go_wp2_with fail
  refine (rcheck_at h _).mono ?_
  rintro e w1 ⟨rfl, hb⟩
  have X0 := ((Box.newAt (n := w.heap.size) [.int .i64 p.top, .int .i64 p.bank, .int .i64 p.siphon, .int .i64 p.start, .int .i64 p.positions, .int .i64 p.rate, .int .i64 p.step, .int .i64 p.pass, .int .i64 p.feed, .int .i64 p.pipe, .int .i64 p.orders, .int .i64 p.age] 55 (by simp))).later hb
  have hB : Below w.heap.size w w1 := (((Below.refl w.heap.size w).alloc (by simp <;> omega) _)).trans (hb.mono (by simp <;> omega))
  clear hb
  have X0c0 : w1.cell? ⟨w.heap.size, 0, none⟩ = some (.int .i64 p.top) := X0.cell 0
  have X0f0 : w1.frozen? ⟨w.heap.size, 0, none⟩ = false := X0.free 0
  have X0c1 : w1.cell? ⟨w.heap.size, 1, none⟩ = some (.int .i64 p.bank) := X0.cell 1
  have X0f1 : w1.frozen? ⟨w.heap.size, 1, none⟩ = false := X0.free 1
  have X0c2 : w1.cell? ⟨w.heap.size, 2, none⟩ = some (.int .i64 p.siphon) := X0.cell 2
  have X0f2 : w1.frozen? ⟨w.heap.size, 2, none⟩ = false := X0.free 2
  have X0c3 : w1.cell? ⟨w.heap.size, 3, none⟩ = some (.int .i64 p.start) := X0.cell 3
  have X0f3 : w1.frozen? ⟨w.heap.size, 3, none⟩ = false := X0.free 3
  have X0c4 : w1.cell? ⟨w.heap.size, 4, none⟩ = some (.int .i64 p.positions) := X0.cell 4
  have X0f4 : w1.frozen? ⟨w.heap.size, 4, none⟩ = false := X0.free 4
  have X0c5 : w1.cell? ⟨w.heap.size, 5, none⟩ = some (.int .i64 p.rate) := X0.cell 5
  have X0f5 : w1.frozen? ⟨w.heap.size, 5, none⟩ = false := X0.free 5
  have X0c6 : w1.cell? ⟨w.heap.size, 6, none⟩ = some (.int .i64 p.step) := X0.cell 6
  have X0f6 : w1.frozen? ⟨w.heap.size, 6, none⟩ = false := X0.free 6
  have X0c7 : w1.cell? ⟨w.heap.size, 7, none⟩ = some (.int .i64 p.pass) := X0.cell 7
  have X0f7 : w1.frozen? ⟨w.heap.size, 7, none⟩ = false := X0.free 7
  have X0c8 : w1.cell? ⟨w.heap.size, 8, none⟩ = some (.int .i64 p.feed) := X0.cell 8
  have X0f8 : w1.frozen? ⟨w.heap.size, 8, none⟩ = false := X0.free 8
  have X0c9 : w1.cell? ⟨w.heap.size, 9, none⟩ = some (.int .i64 p.pipe) := X0.cell 9
  have X0f9 : w1.frozen? ⟨w.heap.size, 9, none⟩ = false := X0.free 9
  have X0c10 : w1.cell? ⟨w.heap.size, 10, none⟩ = some (.int .i64 p.orders) := X0.cell 10
  have X0f10 : w1.frozen? ⟨w.heap.size, 10, none⟩ = false := X0.free 10
  have X0c11 : w1.cell? ⟨w.heap.size, 11, none⟩ = some (.int .i64 p.age) := X0.cell 11
  have X0f11 : w1.frozen? ⟨w.heap.size, 11, none⟩ = false := X0.free 11
  have X0z : w.heap.size < w1.heap.size := X0.lt
  go_wp2_with fail
  refine (rcount_any p hv _).mono ?_
  rintro e w2 ⟨rfl, hb⟩
  clear X0c0 X0f0 X0c1 X0f1 X0c2 X0f2 X0c3 X0f3 X0c4 X0f4 X0c5 X0f5 X0c6 X0f6 X0c7 X0f7 X0c8 X0f8 X0c9 X0f9 X0c10 X0f10 X0c11 X0f11 X0z
  have X0 := X0.later hb
  have hB := hB.trans (hb.mono hB.size)
  clear hb
  go_wp2
  go_ret2
  exact ⟨rfl, hB⟩

theorem rCount_any (p : Pl) (w : World) : Calls Try.prog 27 #[p.v] w (RetN p.countT w) := by
  by_cases h : p.checkT = 0
  · exact (rCount_yes p h (Pl.check_zero h).1 w).mono fun _ _ ⟨he, hb⟩ => ⟨_, _, he, by rw [Hid, Pl.countT, if_pos h], hb⟩
  · exact (rCount_no p _ rfl (by simp [h]) (by simp [h]) w).mono fun _ _ ⟨he, hb⟩ => ⟨_, _, he, by rw [Hid, Pl.countT, if_neg h], hb⟩
end Go.Proofs.Ytcjcjkomcolgeaa
