/- Contracts of Next of plant and of acequiaref32: the ways that fail. (Printed by gen_r.py.) -/
import Derived.Test.YtmbifmmkccghfaaGreatQK
import Derived.Test.YtmbifmmkccghfaaGreatQE
import Derived.Test.YtmbifmmkccghfaaGreatQQ
import Derived.Laws.EntriesVeiled
set_option linter.unusedVariables false
set_option linter.unusedSimpArgs false
set_option maxRecDepth 100000
set_option maxHeartbeats 4000000
namespace Go.Proofs.YtmbifmmkccghfaaGreat
open Go.RowKit
theorem belongs_at {p : Pl} {s : St} {q : Bool} (hp : 0 ≤ p.pipe ∧ p.pipe ≤ 2) (h : Hid (p.hasB s = q)) (w : World) : Calls Tryz.prog 33 #[p.v, s.v] w fun e w' => e = .returned (.bool q) ∧ Below w.heap.size w w' :=
  (belongs_any p s w hp).mono fun _ _ ⟨he, hb⟩ => ⟨by rw [he, h.out], hb⟩
theorem next_check (p : Pl) (code : List Ln) (V : Value) (s : St) (x : Sh) (w : World) (_hC : Hid (CodeAt w w.heap.size V code)) (c : Int) (h : Hid (p.checkT = c)) (_h1 : (c == 0) = false) (_h2 : (c != 0) = true) :
    Calls Tryz.prog 11 #[p.v, .agg #[V], s.v, x.v] w fun e w' => e = .returned (.tuple #[.agg #[.int .i64 0, .int .i64 0, .int .i64 0, .int .i64 0, .int .i64 0, .int .i64 0], .int .i64 0, .int .i64 c]) ∧ Below w.heap.size w w' := by
  go_enter Tryz.func11, Tryz.ntmps11
  go_wp2_with fail
  refine (check_at h _).mono ?_
  rintro e w1 ⟨rfl, hb⟩
  have X0 := ((((((Box.newAt (n := w.heap.size) [.int .i64 p.top, .int .i64 p.bank, .int .i64 p.siphon, .int .i64 p.start, .int .i64 p.positions, .int .i64 p.rate, .int .i64 p.step, .int .i64 p.pass, .int .i64 p.feed, .int .i64 p.pipe, .int .i64 p.orders, .int .i64 p.age] 23 (by simp)).alloc _).alloc _).alloc _).alloc _)).later hb
  have X1 := (((((Box.newAt (n := w.heap.size + 1) [V] 26 (by simp)).alloc _).alloc _).alloc _)).later hb
  have X2 := ((((Box.newAt (n := w.heap.size + 1 + 1) [.int .i64 s.level, .int .i64 s.position, .int .i64 s.p0, .int .i64 s.p1, .int .i64 s.order, .int .i64 s.age] 33 (by simp)).alloc _).alloc _)).later hb
  have X3 := (((Box.newAt (n := w.heap.size + 1 + 1 + 1) [.int .i64 x.feed, .int .i64 x.msg] 35 (by simp)).alloc _)).later hb
  have X4 := ((Box.newAt (n := w.heap.size + 1 + 1 + 1 + 1) [.int .i64 0, .int .i64 0, .int .i64 0, .int .i64 0, .int .i64 0, .int .i64 0] 33 (by simp))).later hb
  have hB : Below w.heap.size w w1 := (((((((Below.refl w.heap.size w).alloc (by simp <;> omega) _).alloc (by simp <;> omega) _).alloc (by simp <;> omega) _).alloc (by simp <;> omega) _).alloc (by simp <;> omega) _)).trans (hb.mono (by simp <;> omega))
  clear hb
  obtain ⟨X0c0, X0f0, X0c1, X0f1, X0c2, X0f2, X0c3, X0f3, X0c4, X0f4, X0c5, X0f5, X0c6, X0f6, X0c7, X0f7, X0c8, X0f8, X0c9, X0f9, X0c10, X0f10, X0c11, X0f11⟩ := X0.f12
  have X0z : w.heap.size < w1.heap.size := X0.lt
  obtain ⟨X3c0, X3f0, X3c1, X3f1⟩ := X3.f2
  have X3z : w.heap.size + 1 + 1 + 1 < w1.heap.size := X3.lt
  obtain ⟨X4c0, X4f0, X4c1, X4f1, X4c2, X4f2, X4c3, X4f3, X4c4, X4f4, X4c5, X4f5⟩ := X4.f6
  have X4z : w.heap.size + 1 + 1 + 1 + 1 < w1.heap.size := X4.lt
  go_wp2
  have hY := ((((((X4.set 0 (.int .i64 0)).set 1 (.int .i64 0)).set 2 (.int .i64 0)).set 3 (.int .i64 0)).set 4 (.int .i64 0)).set 5 (.int .i64 0))
  have hB := ((((((hB.setCell (p := ⟨w.heap.size + 1 + 1 + 1 + 1, 0, none⟩) (by simp <;> omega) (.int .i64 0)).setCell (p := ⟨w.heap.size + 1 + 1 + 1 + 1, 1, none⟩) (by simp <;> omega) (.int .i64 0)).setCell (p := ⟨w.heap.size + 1 + 1 + 1 + 1, 2, none⟩) (by simp <;> omega) (.int .i64 0)).setCell (p := ⟨w.heap.size + 1 + 1 + 1 + 1, 3, none⟩) (by simp <;> omega) (.int .i64 0)).setCell (p := ⟨w.heap.size + 1 + 1 + 1 + 1, 4, none⟩) (by simp <;> omega) (.int .i64 0)).setCell (p := ⟨w.heap.size + 1 + 1 + 1 + 1, 5, none⟩) (by simp <;> omega) (.int .i64 0))
  generalize ((((((w1.setCell ⟨w.heap.size + 1 + 1 + 1 + 1, 0, none⟩ (.int .i64 0)).setCell ⟨w.heap.size + 1 + 1 + 1 + 1, 1, none⟩ (.int .i64 0)).setCell ⟨w.heap.size + 1 + 1 + 1 + 1, 2, none⟩ (.int .i64 0)).setCell ⟨w.heap.size + 1 + 1 + 1 + 1, 3, none⟩ (.int .i64 0)).setCell ⟨w.heap.size + 1 + 1 + 1 + 1, 4, none⟩ (.int .i64 0)).setCell ⟨w.heap.size + 1 + 1 + 1 + 1, 5, none⟩ (.int .i64 0)) = W at hY hB ⊢
  obtain ⟨y0, y1, y2, y3, y4, y5⟩ := hY.c6
  refine bodyPost_ret (v := .tuple #[.agg #[.int .i64 0, .int .i64 0, .int .i64 0, .int .i64 0, .int .i64 0, .int .i64 0], .int .i64 0, .int .i64 c]) (by simp [results, Tryz.results11, go_sem, y0, y1, y2, y3, y4, y5]) rfl ?_
  exact ⟨rfl, hB⟩
theorem next_gate (p : Pl) (code : List Ln) (V : Value) (s : St) (x : Sh) (w : World) (hC : Hid (CodeAt w w.heap.size V code)) (h : Hid (p.checkT = 0)) (hg : Hid (gateT code = 310)) :
    Calls Tryz.prog 11 #[p.v, .agg #[V], s.v, x.v] w fun e w' => e = .returned (.tuple #[.agg #[.int .i64 0, .int .i64 0, .int .i64 0, .int .i64 0, .int .i64 0, .int .i64 0], .int .i64 0, .int .i64 310]) ∧ Below w.heap.size w w' := by
  go_enter Tryz.func11, Tryz.ntmps11
  go_wp2_with fail
  refine (check_at h _).mono ?_
  rintro e w1 ⟨rfl, hb⟩
  have X0 := ((((((Box.newAt (n := w.heap.size) [.int .i64 p.top, .int .i64 p.bank, .int .i64 p.siphon, .int .i64 p.start, .int .i64 p.positions, .int .i64 p.rate, .int .i64 p.step, .int .i64 p.pass, .int .i64 p.feed, .int .i64 p.pipe, .int .i64 p.orders, .int .i64 p.age] 23 (by simp)).alloc _).alloc _).alloc _).alloc _)).later hb
  have X1 := (((((Box.newAt (n := w.heap.size + 1) [V] 26 (by simp)).alloc _).alloc _).alloc _)).later hb
  have X2 := ((((Box.newAt (n := w.heap.size + 1 + 1) [.int .i64 s.level, .int .i64 s.position, .int .i64 s.p0, .int .i64 s.p1, .int .i64 s.order, .int .i64 s.age] 33 (by simp)).alloc _).alloc _)).later hb
  have X3 := (((Box.newAt (n := w.heap.size + 1 + 1 + 1) [.int .i64 x.feed, .int .i64 x.msg] 35 (by simp)).alloc _)).later hb
  have X4 := ((Box.newAt (n := w.heap.size + 1 + 1 + 1 + 1) [.int .i64 0, .int .i64 0, .int .i64 0, .int .i64 0, .int .i64 0, .int .i64 0] 33 (by simp))).later hb
  have hB : Below w.heap.size w w1 := (((((((Below.refl w.heap.size w).alloc (by simp <;> omega) _).alloc (by simp <;> omega) _).alloc (by simp <;> omega) _).alloc (by simp <;> omega) _).alloc (by simp <;> omega) _)).trans (hb.mono (by simp <;> omega))
  clear hb
  have X1c0 : w1.cell? ⟨w.heap.size + 1, 0, none⟩ = some (V) := X1.cell 0
  have X1f0 : w1.frozen? ⟨w.heap.size + 1, 0, none⟩ = false := X1.free 0
  have X1z : w.heap.size + 1 < w1.heap.size := X1.lt
  go_wp2_with fail
  refine (gcheck_at hg ((hC.out.below hB).more hB.size)).mono ?_
  rintro e w2 ⟨rfl, hb⟩
  clear X1c0 X1f0 X1z
  have X0 := X0.later hb
  have X1 := X1.later hb
  have X2 := X2.later hb
  have X3 := X3.later hb
  have X4 := X4.later hb
  have hB := hB.trans (hb.mono hB.size)
  clear hb
  obtain ⟨X0c0, X0f0, X0c1, X0f1, X0c2, X0f2, X0c3, X0f3, X0c4, X0f4, X0c5, X0f5, X0c6, X0f6, X0c7, X0f7, X0c8, X0f8, X0c9, X0f9, X0c10, X0f10, X0c11, X0f11⟩ := X0.f12
  have X0z : w.heap.size < w2.heap.size := X0.lt
  obtain ⟨X3c0, X3f0, X3c1, X3f1⟩ := X3.f2
  have X3z : w.heap.size + 1 + 1 + 1 < w2.heap.size := X3.lt
  obtain ⟨X4c0, X4f0, X4c1, X4f1, X4c2, X4f2, X4c3, X4f3, X4c4, X4f4, X4c5, X4f5⟩ := X4.f6
  have X4z : w.heap.size + 1 + 1 + 1 + 1 < w2.heap.size := X4.lt
  go_wp2
  have hY := ((((((X4.set 0 (.int .i64 0)).set 1 (.int .i64 0)).set 2 (.int .i64 0)).set 3 (.int .i64 0)).set 4 (.int .i64 0)).set 5 (.int .i64 0))
  have hB := ((((((hB.setCell (p := ⟨w.heap.size + 1 + 1 + 1 + 1, 0, none⟩) (by simp <;> omega) (.int .i64 0)).setCell (p := ⟨w.heap.size + 1 + 1 + 1 + 1, 1, none⟩) (by simp <;> omega) (.int .i64 0)).setCell (p := ⟨w.heap.size + 1 + 1 + 1 + 1, 2, none⟩) (by simp <;> omega) (.int .i64 0)).setCell (p := ⟨w.heap.size + 1 + 1 + 1 + 1, 3, none⟩) (by simp <;> omega) (.int .i64 0)).setCell (p := ⟨w.heap.size + 1 + 1 + 1 + 1, 4, none⟩) (by simp <;> omega) (.int .i64 0)).setCell (p := ⟨w.heap.size + 1 + 1 + 1 + 1, 5, none⟩) (by simp <;> omega) (.int .i64 0))
  generalize ((((((w2.setCell ⟨w.heap.size + 1 + 1 + 1 + 1, 0, none⟩ (.int .i64 0)).setCell ⟨w.heap.size + 1 + 1 + 1 + 1, 1, none⟩ (.int .i64 0)).setCell ⟨w.heap.size + 1 + 1 + 1 + 1, 2, none⟩ (.int .i64 0)).setCell ⟨w.heap.size + 1 + 1 + 1 + 1, 3, none⟩ (.int .i64 0)).setCell ⟨w.heap.size + 1 + 1 + 1 + 1, 4, none⟩ (.int .i64 0)).setCell ⟨w.heap.size + 1 + 1 + 1 + 1, 5, none⟩ (.int .i64 0)) = W at hY hB ⊢
  obtain ⟨y0, y1, y2, y3, y4, y5⟩ := hY.c6
  refine bodyPost_ret (v := .tuple #[.agg #[.int .i64 0, .int .i64 0, .int .i64 0, .int .i64 0, .int .i64 0, .int .i64 0], .int .i64 0, .int .i64 310]) (by simp [results, Tryz.results11, go_sem, y0, y1, y2, y3, y4, y5]) rfl ?_
  exact ⟨rfl, hB⟩
theorem next_has (p : Pl) (code : List Ln) (V : Value) (s : St) (x : Sh) (w : World) (hC : Hid (CodeAt w w.heap.size V code)) (h : Hid (p.checkT = 0)) (hg : Hid (gateT code = 0)) (hp : Hid (0 ≤ p.pipe ∧ p.pipe ≤ 2)) (hh : Hid (p.hasB s = false)) :
    Calls Tryz.prog 11 #[p.v, .agg #[V], s.v, x.v] w fun e w' => e = .returned (.tuple #[.agg #[.int .i64 0, .int .i64 0, .int .i64 0, .int .i64 0, .int .i64 0, .int .i64 0], .int .i64 0, .int .i64 320]) ∧ Below w.heap.size w w' := by
  go_enter Tryz.func11, Tryz.ntmps11
  go_wp2_with fail
  refine (check_at h _).mono ?_
  rintro e w1 ⟨rfl, hb⟩
  have X0 := ((((((Box.newAt (n := w.heap.size) [.int .i64 p.top, .int .i64 p.bank, .int .i64 p.siphon, .int .i64 p.start, .int .i64 p.positions, .int .i64 p.rate, .int .i64 p.step, .int .i64 p.pass, .int .i64 p.feed, .int .i64 p.pipe, .int .i64 p.orders, .int .i64 p.age] 23 (by simp)).alloc _).alloc _).alloc _).alloc _)).later hb
  have X1 := (((((Box.newAt (n := w.heap.size + 1) [V] 26 (by simp)).alloc _).alloc _).alloc _)).later hb
  have X2 := ((((Box.newAt (n := w.heap.size + 1 + 1) [.int .i64 s.level, .int .i64 s.position, .int .i64 s.p0, .int .i64 s.p1, .int .i64 s.order, .int .i64 s.age] 33 (by simp)).alloc _).alloc _)).later hb
  have X3 := (((Box.newAt (n := w.heap.size + 1 + 1 + 1) [.int .i64 x.feed, .int .i64 x.msg] 35 (by simp)).alloc _)).later hb
  have X4 := ((Box.newAt (n := w.heap.size + 1 + 1 + 1 + 1) [.int .i64 0, .int .i64 0, .int .i64 0, .int .i64 0, .int .i64 0, .int .i64 0] 33 (by simp))).later hb
  have hB : Below w.heap.size w w1 := (((((((Below.refl w.heap.size w).alloc (by simp <;> omega) _).alloc (by simp <;> omega) _).alloc (by simp <;> omega) _).alloc (by simp <;> omega) _).alloc (by simp <;> omega) _)).trans (hb.mono (by simp <;> omega))
  clear hb
  have X1c0 : w1.cell? ⟨w.heap.size + 1, 0, none⟩ = some (V) := X1.cell 0
  have X1f0 : w1.frozen? ⟨w.heap.size + 1, 0, none⟩ = false := X1.free 0
  have X1z : w.heap.size + 1 < w1.heap.size := X1.lt
  go_wp2_with fail
  refine (gcheck_at hg ((hC.out.below hB).more hB.size)).mono ?_
  rintro e w2 ⟨rfl, hb⟩
  clear X1c0 X1f0 X1z
  have X0 := X0.later hb
  have X1 := X1.later hb
  have X2 := X2.later hb
  have X3 := X3.later hb
  have X4 := X4.later hb
  have hB := hB.trans (hb.mono hB.size)
  clear hb
  obtain ⟨X0c0, X0f0, X0c1, X0f1, X0c2, X0f2, X0c3, X0f3, X0c4, X0f4, X0c5, X0f5, X0c6, X0f6, X0c7, X0f7, X0c8, X0f8, X0c9, X0f9, X0c10, X0f10, X0c11, X0f11⟩ := X0.f12
  have X0z : w.heap.size < w2.heap.size := X0.lt
  obtain ⟨X2c0, X2f0, X2c1, X2f1, X2c2, X2f2, X2c3, X2f3, X2c4, X2f4, X2c5, X2f5⟩ := X2.f6
  have X2z : w.heap.size + 1 + 1 < w2.heap.size := X2.lt
  go_wp2_with fail
  refine (belongs_at hp.out hh _).mono ?_
  rintro e w3 ⟨rfl, hb⟩
  clear X0c0 X0f0 X0c1 X0f1 X0c2 X0f2 X0c3 X0f3 X0c4 X0f4 X0c5 X0f5 X0c6 X0f6 X0c7 X0f7 X0c8 X0f8 X0c9 X0f9 X0c10 X0f10 X0c11 X0f11 X0z X2c0 X2f0 X2c1 X2f1 X2c2 X2f2 X2c3 X2f3 X2c4 X2f4 X2c5 X2f5 X2z
  have X0 := X0.later hb
  have X1 := X1.later hb
  have X2 := X2.later hb
  have X3 := X3.later hb
  have X4 := X4.later hb
  have hB := hB.trans (hb.mono hB.size)
  clear hb
  obtain ⟨X0c0, X0f0, X0c1, X0f1, X0c2, X0f2, X0c3, X0f3, X0c4, X0f4, X0c5, X0f5, X0c6, X0f6, X0c7, X0f7, X0c8, X0f8, X0c9, X0f9, X0c10, X0f10, X0c11, X0f11⟩ := X0.f12
  have X0z : w.heap.size < w3.heap.size := X0.lt
  obtain ⟨X3c0, X3f0, X3c1, X3f1⟩ := X3.f2
  have X3z : w.heap.size + 1 + 1 + 1 < w3.heap.size := X3.lt
  obtain ⟨X4c0, X4f0, X4c1, X4f1, X4c2, X4f2, X4c3, X4f3, X4c4, X4f4, X4c5, X4f5⟩ := X4.f6
  have X4z : w.heap.size + 1 + 1 + 1 + 1 < w3.heap.size := X4.lt
  go_wp2
  have hY := ((((((X4.set 0 (.int .i64 0)).set 1 (.int .i64 0)).set 2 (.int .i64 0)).set 3 (.int .i64 0)).set 4 (.int .i64 0)).set 5 (.int .i64 0))
  have hB := ((((((hB.setCell (p := ⟨w.heap.size + 1 + 1 + 1 + 1, 0, none⟩) (by simp <;> omega) (.int .i64 0)).setCell (p := ⟨w.heap.size + 1 + 1 + 1 + 1, 1, none⟩) (by simp <;> omega) (.int .i64 0)).setCell (p := ⟨w.heap.size + 1 + 1 + 1 + 1, 2, none⟩) (by simp <;> omega) (.int .i64 0)).setCell (p := ⟨w.heap.size + 1 + 1 + 1 + 1, 3, none⟩) (by simp <;> omega) (.int .i64 0)).setCell (p := ⟨w.heap.size + 1 + 1 + 1 + 1, 4, none⟩) (by simp <;> omega) (.int .i64 0)).setCell (p := ⟨w.heap.size + 1 + 1 + 1 + 1, 5, none⟩) (by simp <;> omega) (.int .i64 0))
  generalize ((((((w3.setCell ⟨w.heap.size + 1 + 1 + 1 + 1, 0, none⟩ (.int .i64 0)).setCell ⟨w.heap.size + 1 + 1 + 1 + 1, 1, none⟩ (.int .i64 0)).setCell ⟨w.heap.size + 1 + 1 + 1 + 1, 2, none⟩ (.int .i64 0)).setCell ⟨w.heap.size + 1 + 1 + 1 + 1, 3, none⟩ (.int .i64 0)).setCell ⟨w.heap.size + 1 + 1 + 1 + 1, 4, none⟩ (.int .i64 0)).setCell ⟨w.heap.size + 1 + 1 + 1 + 1, 5, none⟩ (.int .i64 0)) = W at hY hB ⊢
  obtain ⟨y0, y1, y2, y3, y4, y5⟩ := hY.c6
  refine bodyPost_ret (v := .tuple #[.agg #[.int .i64 0, .int .i64 0, .int .i64 0, .int .i64 0, .int .i64 0, .int .i64 0], .int .i64 0, .int .i64 320]) (by simp [results, Tryz.results11, go_sem, y0, y1, y2, y3, y4, y5]) rfl ?_
  exact ⟨rfl, hB⟩
theorem next_chosen0 (p : Pl) (code : List Ln) (V : Value) (s : St) (x : Sh) (w : World) (hC : Hid (CodeAt w w.heap.size V code)) (h : Hid (p.checkT = 0)) (hg : Hid (gateT code = 0)) (hp : Hid (0 ≤ p.pipe ∧ p.pipe ≤ 2)) (hh : Hid (p.hasB s = true)) (_k1 : x.feed < 0) :
    Calls Tryz.prog 11 #[p.v, .agg #[V], s.v, x.v] w fun e w' => e = .returned (.tuple #[.agg #[.int .i64 0, .int .i64 0, .int .i64 0, .int .i64 0, .int .i64 0, .int .i64 0], .int .i64 0, .int .i64 1]) ∧ Below w.heap.size w w' := by
  go_enter Tryz.func11, Tryz.ntmps11
  go_wp2_with fail
  refine (check_at h _).mono ?_
  rintro e w1 ⟨rfl, hb⟩
  have X0 := ((((((Box.newAt (n := w.heap.size) [.int .i64 p.top, .int .i64 p.bank, .int .i64 p.siphon, .int .i64 p.start, .int .i64 p.positions, .int .i64 p.rate, .int .i64 p.step, .int .i64 p.pass, .int .i64 p.feed, .int .i64 p.pipe, .int .i64 p.orders, .int .i64 p.age] 23 (by simp)).alloc _).alloc _).alloc _).alloc _)).later hb
  have X1 := (((((Box.newAt (n := w.heap.size + 1) [V] 26 (by simp)).alloc _).alloc _).alloc _)).later hb
  have X2 := ((((Box.newAt (n := w.heap.size + 1 + 1) [.int .i64 s.level, .int .i64 s.position, .int .i64 s.p0, .int .i64 s.p1, .int .i64 s.order, .int .i64 s.age] 33 (by simp)).alloc _).alloc _)).later hb
  have X3 := (((Box.newAt (n := w.heap.size + 1 + 1 + 1) [.int .i64 x.feed, .int .i64 x.msg] 35 (by simp)).alloc _)).later hb
  have X4 := ((Box.newAt (n := w.heap.size + 1 + 1 + 1 + 1) [.int .i64 0, .int .i64 0, .int .i64 0, .int .i64 0, .int .i64 0, .int .i64 0] 33 (by simp))).later hb
  have hB : Below w.heap.size w w1 := (((((((Below.refl w.heap.size w).alloc (by simp <;> omega) _).alloc (by simp <;> omega) _).alloc (by simp <;> omega) _).alloc (by simp <;> omega) _).alloc (by simp <;> omega) _)).trans (hb.mono (by simp <;> omega))
  clear hb
  have X1c0 : w1.cell? ⟨w.heap.size + 1, 0, none⟩ = some (V) := X1.cell 0
  have X1f0 : w1.frozen? ⟨w.heap.size + 1, 0, none⟩ = false := X1.free 0
  have X1z : w.heap.size + 1 < w1.heap.size := X1.lt
  go_wp2_with fail
  refine (gcheck_at hg ((hC.out.below hB).more hB.size)).mono ?_
  rintro e w2 ⟨rfl, hb⟩
  clear X1c0 X1f0 X1z
  have X0 := X0.later hb
  have X1 := X1.later hb
  have X2 := X2.later hb
  have X3 := X3.later hb
  have X4 := X4.later hb
  have hB := hB.trans (hb.mono hB.size)
  clear hb
  obtain ⟨X0c0, X0f0, X0c1, X0f1, X0c2, X0f2, X0c3, X0f3, X0c4, X0f4, X0c5, X0f5, X0c6, X0f6, X0c7, X0f7, X0c8, X0f8, X0c9, X0f9, X0c10, X0f10, X0c11, X0f11⟩ := X0.f12
  have X0z : w.heap.size < w2.heap.size := X0.lt
  obtain ⟨X2c0, X2f0, X2c1, X2f1, X2c2, X2f2, X2c3, X2f3, X2c4, X2f4, X2c5, X2f5⟩ := X2.f6
  have X2z : w.heap.size + 1 + 1 < w2.heap.size := X2.lt
  go_wp2_with fail
  refine (belongs_at hp.out hh _).mono ?_
  rintro e w3 ⟨rfl, hb⟩
  clear X0c0 X0f0 X0c1 X0f1 X0c2 X0f2 X0c3 X0f3 X0c4 X0f4 X0c5 X0f5 X0c6 X0f6 X0c7 X0f7 X0c8 X0f8 X0c9 X0f9 X0c10 X0f10 X0c11 X0f11 X0z X2c0 X2f0 X2c1 X2f1 X2c2 X2f2 X2c3 X2f3 X2c4 X2f4 X2c5 X2f5 X2z
  have X0 := X0.later hb
  have X1 := X1.later hb
  have X2 := X2.later hb
  have X3 := X3.later hb
  have X4 := X4.later hb
  have hB := hB.trans (hb.mono hB.size)
  clear hb
  obtain ⟨X0c0, X0f0, X0c1, X0f1, X0c2, X0f2, X0c3, X0f3, X0c4, X0f4, X0c5, X0f5, X0c6, X0f6, X0c7, X0f7, X0c8, X0f8, X0c9, X0f9, X0c10, X0f10, X0c11, X0f11⟩ := X0.f12
  have X0z : w.heap.size < w3.heap.size := X0.lt
  obtain ⟨X3c0, X3f0, X3c1, X3f1⟩ := X3.f2
  have X3z : w.heap.size + 1 + 1 + 1 < w3.heap.size := X3.lt
  obtain ⟨X4c0, X4f0, X4c1, X4f1, X4c2, X4f2, X4c3, X4f3, X4c4, X4f4, X4c5, X4f5⟩ := X4.f6
  have X4z : w.heap.size + 1 + 1 + 1 + 1 < w3.heap.size := X4.lt
  go_wp2
  have hY := ((((((X4.set 0 (.int .i64 0)).set 1 (.int .i64 0)).set 2 (.int .i64 0)).set 3 (.int .i64 0)).set 4 (.int .i64 0)).set 5 (.int .i64 0))
  have hB := ((((((hB.setCell (p := ⟨w.heap.size + 1 + 1 + 1 + 1, 0, none⟩) (by simp <;> omega) (.int .i64 0)).setCell (p := ⟨w.heap.size + 1 + 1 + 1 + 1, 1, none⟩) (by simp <;> omega) (.int .i64 0)).setCell (p := ⟨w.heap.size + 1 + 1 + 1 + 1, 2, none⟩) (by simp <;> omega) (.int .i64 0)).setCell (p := ⟨w.heap.size + 1 + 1 + 1 + 1, 3, none⟩) (by simp <;> omega) (.int .i64 0)).setCell (p := ⟨w.heap.size + 1 + 1 + 1 + 1, 4, none⟩) (by simp <;> omega) (.int .i64 0)).setCell (p := ⟨w.heap.size + 1 + 1 + 1 + 1, 5, none⟩) (by simp <;> omega) (.int .i64 0))
  generalize ((((((w3.setCell ⟨w.heap.size + 1 + 1 + 1 + 1, 0, none⟩ (.int .i64 0)).setCell ⟨w.heap.size + 1 + 1 + 1 + 1, 1, none⟩ (.int .i64 0)).setCell ⟨w.heap.size + 1 + 1 + 1 + 1, 2, none⟩ (.int .i64 0)).setCell ⟨w.heap.size + 1 + 1 + 1 + 1, 3, none⟩ (.int .i64 0)).setCell ⟨w.heap.size + 1 + 1 + 1 + 1, 4, none⟩ (.int .i64 0)).setCell ⟨w.heap.size + 1 + 1 + 1 + 1, 5, none⟩ (.int .i64 0)) = W at hY hB ⊢
  obtain ⟨y0, y1, y2, y3, y4, y5⟩ := hY.c6
  refine bodyPost_ret (v := .tuple #[.agg #[.int .i64 0, .int .i64 0, .int .i64 0, .int .i64 0, .int .i64 0, .int .i64 0], .int .i64 0, .int .i64 1]) (by simp [results, Tryz.results11, go_sem, y0, y1, y2, y3, y4, y5]) rfl ?_
  exact ⟨rfl, hB⟩
theorem next_chosen1 (p : Pl) (code : List Ln) (V : Value) (s : St) (x : Sh) (w : World) (hC : Hid (CodeAt w w.heap.size V code)) (h : Hid (p.checkT = 0)) (hg : Hid (gateT code = 0)) (hp : Hid (0 ≤ p.pipe ∧ p.pipe ≤ 2)) (hh : Hid (p.hasB s = true)) (_k1 : 0 ≤ x.feed) (_k2 : p.feed < x.feed) :
    Calls Tryz.prog 11 #[p.v, .agg #[V], s.v, x.v] w fun e w' => e = .returned (.tuple #[.agg #[.int .i64 0, .int .i64 0, .int .i64 0, .int .i64 0, .int .i64 0, .int .i64 0], .int .i64 0, .int .i64 1]) ∧ Below w.heap.size w w' := by
  go_enter Tryz.func11, Tryz.ntmps11
  go_wp2_with fail
  refine (check_at h _).mono ?_
  rintro e w1 ⟨rfl, hb⟩
  have X0 := ((((((Box.newAt (n := w.heap.size) [.int .i64 p.top, .int .i64 p.bank, .int .i64 p.siphon, .int .i64 p.start, .int .i64 p.positions, .int .i64 p.rate, .int .i64 p.step, .int .i64 p.pass, .int .i64 p.feed, .int .i64 p.pipe, .int .i64 p.orders, .int .i64 p.age] 23 (by simp)).alloc _).alloc _).alloc _).alloc _)).later hb
  have X1 := (((((Box.newAt (n := w.heap.size + 1) [V] 26 (by simp)).alloc _).alloc _).alloc _)).later hb
  have X2 := ((((Box.newAt (n := w.heap.size + 1 + 1) [.int .i64 s.level, .int .i64 s.position, .int .i64 s.p0, .int .i64 s.p1, .int .i64 s.order, .int .i64 s.age] 33 (by simp)).alloc _).alloc _)).later hb
  have X3 := (((Box.newAt (n := w.heap.size + 1 + 1 + 1) [.int .i64 x.feed, .int .i64 x.msg] 35 (by simp)).alloc _)).later hb
  have X4 := ((Box.newAt (n := w.heap.size + 1 + 1 + 1 + 1) [.int .i64 0, .int .i64 0, .int .i64 0, .int .i64 0, .int .i64 0, .int .i64 0] 33 (by simp))).later hb
  have hB : Below w.heap.size w w1 := (((((((Below.refl w.heap.size w).alloc (by simp <;> omega) _).alloc (by simp <;> omega) _).alloc (by simp <;> omega) _).alloc (by simp <;> omega) _).alloc (by simp <;> omega) _)).trans (hb.mono (by simp <;> omega))
  clear hb
  have X1c0 : w1.cell? ⟨w.heap.size + 1, 0, none⟩ = some (V) := X1.cell 0
  have X1f0 : w1.frozen? ⟨w.heap.size + 1, 0, none⟩ = false := X1.free 0
  have X1z : w.heap.size + 1 < w1.heap.size := X1.lt
  go_wp2_with fail
  refine (gcheck_at hg ((hC.out.below hB).more hB.size)).mono ?_
  rintro e w2 ⟨rfl, hb⟩
  clear X1c0 X1f0 X1z
  have X0 := X0.later hb
  have X1 := X1.later hb
  have X2 := X2.later hb
  have X3 := X3.later hb
  have X4 := X4.later hb
  have hB := hB.trans (hb.mono hB.size)
  clear hb
  obtain ⟨X0c0, X0f0, X0c1, X0f1, X0c2, X0f2, X0c3, X0f3, X0c4, X0f4, X0c5, X0f5, X0c6, X0f6, X0c7, X0f7, X0c8, X0f8, X0c9, X0f9, X0c10, X0f10, X0c11, X0f11⟩ := X0.f12
  have X0z : w.heap.size < w2.heap.size := X0.lt
  obtain ⟨X2c0, X2f0, X2c1, X2f1, X2c2, X2f2, X2c3, X2f3, X2c4, X2f4, X2c5, X2f5⟩ := X2.f6
  have X2z : w.heap.size + 1 + 1 < w2.heap.size := X2.lt
  go_wp2_with fail
  refine (belongs_at hp.out hh _).mono ?_
  rintro e w3 ⟨rfl, hb⟩
  clear X0c0 X0f0 X0c1 X0f1 X0c2 X0f2 X0c3 X0f3 X0c4 X0f4 X0c5 X0f5 X0c6 X0f6 X0c7 X0f7 X0c8 X0f8 X0c9 X0f9 X0c10 X0f10 X0c11 X0f11 X0z X2c0 X2f0 X2c1 X2f1 X2c2 X2f2 X2c3 X2f3 X2c4 X2f4 X2c5 X2f5 X2z
  have X0 := X0.later hb
  have X1 := X1.later hb
  have X2 := X2.later hb
  have X3 := X3.later hb
  have X4 := X4.later hb
  have hB := hB.trans (hb.mono hB.size)
  clear hb
  obtain ⟨X0c0, X0f0, X0c1, X0f1, X0c2, X0f2, X0c3, X0f3, X0c4, X0f4, X0c5, X0f5, X0c6, X0f6, X0c7, X0f7, X0c8, X0f8, X0c9, X0f9, X0c10, X0f10, X0c11, X0f11⟩ := X0.f12
  have X0z : w.heap.size < w3.heap.size := X0.lt
  obtain ⟨X3c0, X3f0, X3c1, X3f1⟩ := X3.f2
  have X3z : w.heap.size + 1 + 1 + 1 < w3.heap.size := X3.lt
  obtain ⟨X4c0, X4f0, X4c1, X4f1, X4c2, X4f2, X4c3, X4f3, X4c4, X4f4, X4c5, X4f5⟩ := X4.f6
  have X4z : w.heap.size + 1 + 1 + 1 + 1 < w3.heap.size := X4.lt
  go_wp2
  have hY := ((((((X4.set 0 (.int .i64 0)).set 1 (.int .i64 0)).set 2 (.int .i64 0)).set 3 (.int .i64 0)).set 4 (.int .i64 0)).set 5 (.int .i64 0))
  have hB := ((((((hB.setCell (p := ⟨w.heap.size + 1 + 1 + 1 + 1, 0, none⟩) (by simp <;> omega) (.int .i64 0)).setCell (p := ⟨w.heap.size + 1 + 1 + 1 + 1, 1, none⟩) (by simp <;> omega) (.int .i64 0)).setCell (p := ⟨w.heap.size + 1 + 1 + 1 + 1, 2, none⟩) (by simp <;> omega) (.int .i64 0)).setCell (p := ⟨w.heap.size + 1 + 1 + 1 + 1, 3, none⟩) (by simp <;> omega) (.int .i64 0)).setCell (p := ⟨w.heap.size + 1 + 1 + 1 + 1, 4, none⟩) (by simp <;> omega) (.int .i64 0)).setCell (p := ⟨w.heap.size + 1 + 1 + 1 + 1, 5, none⟩) (by simp <;> omega) (.int .i64 0))
  generalize ((((((w3.setCell ⟨w.heap.size + 1 + 1 + 1 + 1, 0, none⟩ (.int .i64 0)).setCell ⟨w.heap.size + 1 + 1 + 1 + 1, 1, none⟩ (.int .i64 0)).setCell ⟨w.heap.size + 1 + 1 + 1 + 1, 2, none⟩ (.int .i64 0)).setCell ⟨w.heap.size + 1 + 1 + 1 + 1, 3, none⟩ (.int .i64 0)).setCell ⟨w.heap.size + 1 + 1 + 1 + 1, 4, none⟩ (.int .i64 0)).setCell ⟨w.heap.size + 1 + 1 + 1 + 1, 5, none⟩ (.int .i64 0)) = W at hY hB ⊢
  obtain ⟨y0, y1, y2, y3, y4, y5⟩ := hY.c6
  refine bodyPost_ret (v := .tuple #[.agg #[.int .i64 0, .int .i64 0, .int .i64 0, .int .i64 0, .int .i64 0, .int .i64 0], .int .i64 0, .int .i64 1]) (by simp [results, Tryz.results11, go_sem, y0, y1, y2, y3, y4, y5]) rfl ?_
  exact ⟨rfl, hB⟩
theorem next_chosen2 (p : Pl) (code : List Ln) (V : Value) (s : St) (x : Sh) (w : World) (hC : Hid (CodeAt w w.heap.size V code)) (h : Hid (p.checkT = 0)) (hg : Hid (gateT code = 0)) (hp : Hid (0 ≤ p.pipe ∧ p.pipe ≤ 2)) (hh : Hid (p.hasB s = true)) (_k1 : 0 ≤ x.feed) (_k2 : x.feed ≤ p.feed) (_k3 : x.msg < -1) :
    Calls Tryz.prog 11 #[p.v, .agg #[V], s.v, x.v] w fun e w' => e = .returned (.tuple #[.agg #[.int .i64 0, .int .i64 0, .int .i64 0, .int .i64 0, .int .i64 0, .int .i64 0], .int .i64 0, .int .i64 1]) ∧ Below w.heap.size w w' := by
  go_enter Tryz.func11, Tryz.ntmps11
  go_wp2_with fail
  refine (check_at h _).mono ?_
  rintro e w1 ⟨rfl, hb⟩
  have X0 := ((((((Box.newAt (n := w.heap.size) [.int .i64 p.top, .int .i64 p.bank, .int .i64 p.siphon, .int .i64 p.start, .int .i64 p.positions, .int .i64 p.rate, .int .i64 p.step, .int .i64 p.pass, .int .i64 p.feed, .int .i64 p.pipe, .int .i64 p.orders, .int .i64 p.age] 23 (by simp)).alloc _).alloc _).alloc _).alloc _)).later hb
  have X1 := (((((Box.newAt (n := w.heap.size + 1) [V] 26 (by simp)).alloc _).alloc _).alloc _)).later hb
  have X2 := ((((Box.newAt (n := w.heap.size + 1 + 1) [.int .i64 s.level, .int .i64 s.position, .int .i64 s.p0, .int .i64 s.p1, .int .i64 s.order, .int .i64 s.age] 33 (by simp)).alloc _).alloc _)).later hb
  have X3 := (((Box.newAt (n := w.heap.size + 1 + 1 + 1) [.int .i64 x.feed, .int .i64 x.msg] 35 (by simp)).alloc _)).later hb
  have X4 := ((Box.newAt (n := w.heap.size + 1 + 1 + 1 + 1) [.int .i64 0, .int .i64 0, .int .i64 0, .int .i64 0, .int .i64 0, .int .i64 0] 33 (by simp))).later hb
  have hB : Below w.heap.size w w1 := (((((((Below.refl w.heap.size w).alloc (by simp <;> omega) _).alloc (by simp <;> omega) _).alloc (by simp <;> omega) _).alloc (by simp <;> omega) _).alloc (by simp <;> omega) _)).trans (hb.mono (by simp <;> omega))
  clear hb
  have X1c0 : w1.cell? ⟨w.heap.size + 1, 0, none⟩ = some (V) := X1.cell 0
  have X1f0 : w1.frozen? ⟨w.heap.size + 1, 0, none⟩ = false := X1.free 0
  have X1z : w.heap.size + 1 < w1.heap.size := X1.lt
  go_wp2_with fail
  refine (gcheck_at hg ((hC.out.below hB).more hB.size)).mono ?_
  rintro e w2 ⟨rfl, hb⟩
  clear X1c0 X1f0 X1z
  have X0 := X0.later hb
  have X1 := X1.later hb
  have X2 := X2.later hb
  have X3 := X3.later hb
  have X4 := X4.later hb
  have hB := hB.trans (hb.mono hB.size)
  clear hb
  obtain ⟨X0c0, X0f0, X0c1, X0f1, X0c2, X0f2, X0c3, X0f3, X0c4, X0f4, X0c5, X0f5, X0c6, X0f6, X0c7, X0f7, X0c8, X0f8, X0c9, X0f9, X0c10, X0f10, X0c11, X0f11⟩ := X0.f12
  have X0z : w.heap.size < w2.heap.size := X0.lt
  obtain ⟨X2c0, X2f0, X2c1, X2f1, X2c2, X2f2, X2c3, X2f3, X2c4, X2f4, X2c5, X2f5⟩ := X2.f6
  have X2z : w.heap.size + 1 + 1 < w2.heap.size := X2.lt
  go_wp2_with fail
  refine (belongs_at hp.out hh _).mono ?_
  rintro e w3 ⟨rfl, hb⟩
  clear X0c0 X0f0 X0c1 X0f1 X0c2 X0f2 X0c3 X0f3 X0c4 X0f4 X0c5 X0f5 X0c6 X0f6 X0c7 X0f7 X0c8 X0f8 X0c9 X0f9 X0c10 X0f10 X0c11 X0f11 X0z X2c0 X2f0 X2c1 X2f1 X2c2 X2f2 X2c3 X2f3 X2c4 X2f4 X2c5 X2f5 X2z
  have X0 := X0.later hb
  have X1 := X1.later hb
  have X2 := X2.later hb
  have X3 := X3.later hb
  have X4 := X4.later hb
  have hB := hB.trans (hb.mono hB.size)
  clear hb
  obtain ⟨X0c0, X0f0, X0c1, X0f1, X0c2, X0f2, X0c3, X0f3, X0c4, X0f4, X0c5, X0f5, X0c6, X0f6, X0c7, X0f7, X0c8, X0f8, X0c9, X0f9, X0c10, X0f10, X0c11, X0f11⟩ := X0.f12
  have X0z : w.heap.size < w3.heap.size := X0.lt
  obtain ⟨X3c0, X3f0, X3c1, X3f1⟩ := X3.f2
  have X3z : w.heap.size + 1 + 1 + 1 < w3.heap.size := X3.lt
  obtain ⟨X4c0, X4f0, X4c1, X4f1, X4c2, X4f2, X4c3, X4f3, X4c4, X4f4, X4c5, X4f5⟩ := X4.f6
  have X4z : w.heap.size + 1 + 1 + 1 + 1 < w3.heap.size := X4.lt
  go_wp2
  have hY := ((((((X4.set 0 (.int .i64 0)).set 1 (.int .i64 0)).set 2 (.int .i64 0)).set 3 (.int .i64 0)).set 4 (.int .i64 0)).set 5 (.int .i64 0))
  have hB := ((((((hB.setCell (p := ⟨w.heap.size + 1 + 1 + 1 + 1, 0, none⟩) (by simp <;> omega) (.int .i64 0)).setCell (p := ⟨w.heap.size + 1 + 1 + 1 + 1, 1, none⟩) (by simp <;> omega) (.int .i64 0)).setCell (p := ⟨w.heap.size + 1 + 1 + 1 + 1, 2, none⟩) (by simp <;> omega) (.int .i64 0)).setCell (p := ⟨w.heap.size + 1 + 1 + 1 + 1, 3, none⟩) (by simp <;> omega) (.int .i64 0)).setCell (p := ⟨w.heap.size + 1 + 1 + 1 + 1, 4, none⟩) (by simp <;> omega) (.int .i64 0)).setCell (p := ⟨w.heap.size + 1 + 1 + 1 + 1, 5, none⟩) (by simp <;> omega) (.int .i64 0))
  generalize ((((((w3.setCell ⟨w.heap.size + 1 + 1 + 1 + 1, 0, none⟩ (.int .i64 0)).setCell ⟨w.heap.size + 1 + 1 + 1 + 1, 1, none⟩ (.int .i64 0)).setCell ⟨w.heap.size + 1 + 1 + 1 + 1, 2, none⟩ (.int .i64 0)).setCell ⟨w.heap.size + 1 + 1 + 1 + 1, 3, none⟩ (.int .i64 0)).setCell ⟨w.heap.size + 1 + 1 + 1 + 1, 4, none⟩ (.int .i64 0)).setCell ⟨w.heap.size + 1 + 1 + 1 + 1, 5, none⟩ (.int .i64 0)) = W at hY hB ⊢
  obtain ⟨y0, y1, y2, y3, y4, y5⟩ := hY.c6
  refine bodyPost_ret (v := .tuple #[.agg #[.int .i64 0, .int .i64 0, .int .i64 0, .int .i64 0, .int .i64 0, .int .i64 0], .int .i64 0, .int .i64 1]) (by simp [results, Tryz.results11, go_sem, y0, y1, y2, y3, y4, y5]) rfl ?_
  exact ⟨rfl, hB⟩
theorem next_chosen3 (p : Pl) (code : List Ln) (V : Value) (s : St) (x : Sh) (w : World) (hC : Hid (CodeAt w w.heap.size V code)) (h : Hid (p.checkT = 0)) (hg : Hid (gateT code = 0)) (hp : Hid (0 ≤ p.pipe ∧ p.pipe ≤ 2)) (hh : Hid (p.hasB s = true)) (_k1 : 0 ≤ x.feed) (_k2 : x.feed ≤ p.feed) (_k3 : -1 ≤ x.msg) (_k4 : p.orders < x.msg) :
    Calls Tryz.prog 11 #[p.v, .agg #[V], s.v, x.v] w fun e w' => e = .returned (.tuple #[.agg #[.int .i64 0, .int .i64 0, .int .i64 0, .int .i64 0, .int .i64 0, .int .i64 0], .int .i64 0, .int .i64 1]) ∧ Below w.heap.size w w' := by
  go_enter Tryz.func11, Tryz.ntmps11
  go_wp2_with fail
  refine (check_at h _).mono ?_
  rintro e w1 ⟨rfl, hb⟩
  have X0 := ((((((Box.newAt (n := w.heap.size) [.int .i64 p.top, .int .i64 p.bank, .int .i64 p.siphon, .int .i64 p.start, .int .i64 p.positions, .int .i64 p.rate, .int .i64 p.step, .int .i64 p.pass, .int .i64 p.feed, .int .i64 p.pipe, .int .i64 p.orders, .int .i64 p.age] 23 (by simp)).alloc _).alloc _).alloc _).alloc _)).later hb
  have X1 := (((((Box.newAt (n := w.heap.size + 1) [V] 26 (by simp)).alloc _).alloc _).alloc _)).later hb
  have X2 := ((((Box.newAt (n := w.heap.size + 1 + 1) [.int .i64 s.level, .int .i64 s.position, .int .i64 s.p0, .int .i64 s.p1, .int .i64 s.order, .int .i64 s.age] 33 (by simp)).alloc _).alloc _)).later hb
  have X3 := (((Box.newAt (n := w.heap.size + 1 + 1 + 1) [.int .i64 x.feed, .int .i64 x.msg] 35 (by simp)).alloc _)).later hb
  have X4 := ((Box.newAt (n := w.heap.size + 1 + 1 + 1 + 1) [.int .i64 0, .int .i64 0, .int .i64 0, .int .i64 0, .int .i64 0, .int .i64 0] 33 (by simp))).later hb
  have hB : Below w.heap.size w w1 := (((((((Below.refl w.heap.size w).alloc (by simp <;> omega) _).alloc (by simp <;> omega) _).alloc (by simp <;> omega) _).alloc (by simp <;> omega) _).alloc (by simp <;> omega) _)).trans (hb.mono (by simp <;> omega))
  clear hb
  have X1c0 : w1.cell? ⟨w.heap.size + 1, 0, none⟩ = some (V) := X1.cell 0
  have X1f0 : w1.frozen? ⟨w.heap.size + 1, 0, none⟩ = false := X1.free 0
  have X1z : w.heap.size + 1 < w1.heap.size := X1.lt
  go_wp2_with fail
  refine (gcheck_at hg ((hC.out.below hB).more hB.size)).mono ?_
  rintro e w2 ⟨rfl, hb⟩
  clear X1c0 X1f0 X1z
  have X0 := X0.later hb
  have X1 := X1.later hb
  have X2 := X2.later hb
  have X3 := X3.later hb
  have X4 := X4.later hb
  have hB := hB.trans (hb.mono hB.size)
  clear hb
  obtain ⟨X0c0, X0f0, X0c1, X0f1, X0c2, X0f2, X0c3, X0f3, X0c4, X0f4, X0c5, X0f5, X0c6, X0f6, X0c7, X0f7, X0c8, X0f8, X0c9, X0f9, X0c10, X0f10, X0c11, X0f11⟩ := X0.f12
  have X0z : w.heap.size < w2.heap.size := X0.lt
  obtain ⟨X2c0, X2f0, X2c1, X2f1, X2c2, X2f2, X2c3, X2f3, X2c4, X2f4, X2c5, X2f5⟩ := X2.f6
  have X2z : w.heap.size + 1 + 1 < w2.heap.size := X2.lt
  go_wp2_with fail
  refine (belongs_at hp.out hh _).mono ?_
  rintro e w3 ⟨rfl, hb⟩
  clear X0c0 X0f0 X0c1 X0f1 X0c2 X0f2 X0c3 X0f3 X0c4 X0f4 X0c5 X0f5 X0c6 X0f6 X0c7 X0f7 X0c8 X0f8 X0c9 X0f9 X0c10 X0f10 X0c11 X0f11 X0z X2c0 X2f0 X2c1 X2f1 X2c2 X2f2 X2c3 X2f3 X2c4 X2f4 X2c5 X2f5 X2z
  have X0 := X0.later hb
  have X1 := X1.later hb
  have X2 := X2.later hb
  have X3 := X3.later hb
  have X4 := X4.later hb
  have hB := hB.trans (hb.mono hB.size)
  clear hb
  obtain ⟨X0c0, X0f0, X0c1, X0f1, X0c2, X0f2, X0c3, X0f3, X0c4, X0f4, X0c5, X0f5, X0c6, X0f6, X0c7, X0f7, X0c8, X0f8, X0c9, X0f9, X0c10, X0f10, X0c11, X0f11⟩ := X0.f12
  have X0z : w.heap.size < w3.heap.size := X0.lt
  obtain ⟨X3c0, X3f0, X3c1, X3f1⟩ := X3.f2
  have X3z : w.heap.size + 1 + 1 + 1 < w3.heap.size := X3.lt
  obtain ⟨X4c0, X4f0, X4c1, X4f1, X4c2, X4f2, X4c3, X4f3, X4c4, X4f4, X4c5, X4f5⟩ := X4.f6
  have X4z : w.heap.size + 1 + 1 + 1 + 1 < w3.heap.size := X4.lt
  go_wp2
  have hY := ((((((X4.set 0 (.int .i64 0)).set 1 (.int .i64 0)).set 2 (.int .i64 0)).set 3 (.int .i64 0)).set 4 (.int .i64 0)).set 5 (.int .i64 0))
  have hB := ((((((hB.setCell (p := ⟨w.heap.size + 1 + 1 + 1 + 1, 0, none⟩) (by simp <;> omega) (.int .i64 0)).setCell (p := ⟨w.heap.size + 1 + 1 + 1 + 1, 1, none⟩) (by simp <;> omega) (.int .i64 0)).setCell (p := ⟨w.heap.size + 1 + 1 + 1 + 1, 2, none⟩) (by simp <;> omega) (.int .i64 0)).setCell (p := ⟨w.heap.size + 1 + 1 + 1 + 1, 3, none⟩) (by simp <;> omega) (.int .i64 0)).setCell (p := ⟨w.heap.size + 1 + 1 + 1 + 1, 4, none⟩) (by simp <;> omega) (.int .i64 0)).setCell (p := ⟨w.heap.size + 1 + 1 + 1 + 1, 5, none⟩) (by simp <;> omega) (.int .i64 0))
  generalize ((((((w3.setCell ⟨w.heap.size + 1 + 1 + 1 + 1, 0, none⟩ (.int .i64 0)).setCell ⟨w.heap.size + 1 + 1 + 1 + 1, 1, none⟩ (.int .i64 0)).setCell ⟨w.heap.size + 1 + 1 + 1 + 1, 2, none⟩ (.int .i64 0)).setCell ⟨w.heap.size + 1 + 1 + 1 + 1, 3, none⟩ (.int .i64 0)).setCell ⟨w.heap.size + 1 + 1 + 1 + 1, 4, none⟩ (.int .i64 0)).setCell ⟨w.heap.size + 1 + 1 + 1 + 1, 5, none⟩ (.int .i64 0)) = W at hY hB ⊢
  obtain ⟨y0, y1, y2, y3, y4, y5⟩ := hY.c6
  refine bodyPost_ret (v := .tuple #[.agg #[.int .i64 0, .int .i64 0, .int .i64 0, .int .i64 0, .int .i64 0, .int .i64 0], .int .i64 0, .int .i64 1]) (by simp [results, Tryz.results11, go_sem, y0, y1, y2, y3, y4, y5]) rfl ?_
  exact ⟨rfl, hB⟩
end Go.Proofs.YtmbifmmkccghfaaGreat
namespace Go.Proofs.YtmbifmmkccghfaaGreat
open Go.RowKit
theorem hear_at {p : Pl} {V : Value} {s : St} {x : Sh} {f o od ag : Int} {b : Nat} {w : World} (hX : Box w b (hourL p V s x f o)) (ha : 0 ≤ s.age ∧ s.age ≤ 7) (hH : Hid (heardT p s x = (od, ag))) :
    Calls Tryz.prog 34 #[.pointer (some ⟨b, 0, none⟩)] w fun e w' => e = .returned (.tuple #[]) ∧ Box w' b (hourL p V ⟨s.level, s.position, s.p0, s.p1, od, ag⟩ x f o) ∧ Aside b w w' := by
  have := hear_any p V s x f o b w hX ha
  rw [hH.out] at this
  exact this
theorem feed_at {p : Pl} {V : Value} {s : St} {x : Sh} {f o g q0 q1 : Int} {b : Nat} {w : World} (hX : Box w b (hourL p V s x f o)) (hp : 0 ≤ p.pipe ∧ p.pipe ≤ 2) (hH : Hid (fedT p s x = (g, q0, q1))) :
    Calls Tryz.prog 35 #[.pointer (some ⟨b, 0, none⟩)] w fun e w' => e = .returned (.tuple #[]) ∧ Box w' b (hourL p V ⟨s.level, s.position, q0, q1, s.order, s.age⟩ x g o) ∧ Aside b w w' := by
  have := feed_any p V s x f o b w hX hp
  rw [hH.out] at this
  exact this
def movedM (p : Pl) (s : St) (g : Int) (ok : Bool) : Int := if ok = true then s.position + max (-p.step) (min p.step (min g p.positions - s.position)) else s.position
theorem set_at {p : Pl} {V : Value} {s : St} {x : Sh} {f o : Int} {b : Nat} {w : World} (hX : Box w b (hourL p V s x f o)) {code : List Ln} {g M : Int} {ok : Bool} (hC : Hid (CodeAt w w.heap.size V code)) (hR : Hid (runT code ⟨s.level, s.position, s.order, s.age, f⟩ = (g, ok, 0))) (hg : 0 ≤ g ∧ g ≤ 1099511627776)
    (hp : 0 ≤ s.position ∧ s.position ≤ p.positions) (hq : 1 ≤ p.positions ∧ p.positions ≤ 15) (hs : 1 ≤ p.step ∧ p.step ≤ 15) (hM : Hid (movedM p s g ok = M)) :
    Calls Tryz.prog 36 #[.pointer (some ⟨b, 0, none⟩)] w fun e w' => e = .returned (.tuple #[]) ∧ Box w' b (hourL p V ⟨s.level, M, s.p0, s.p1, s.order, s.age⟩ x f o) ∧ Aside b w w' := by
  have hM := hM.out
  subst hM
  cases ok
  · exact set_no p V s x f o b w hX code g hC hR hg hp hq hs
  · exact set_yes p V s x f o b w hX code g hC hR hg hp hq hs
theorem next_good (p : Pl) (code : List Ln) (V : Value) (s : St) (x : Sh) (w : World) (hC : Hid (CodeAt w w.heap.size V code)) (h : Hid (p.checkT = 0)) (hg : Hid (gateT code = 0)) (hv : Hid p.Valid) (hh : Hid (p.hasB s = true)) (_k1 : 0 ≤ x.feed) (_k2 : x.feed ≤ p.feed) (_k3 : -1 ≤ x.msg) (_k4 : x.msg ≤ p.orders)
    (S : Hid (Small p s x)) (od ag f q0 q1 g M : Int) (ok : Bool) (hH : Hid (heardT p s x = (od, ag))) (hF : Hid (fedT p s x = (f, q0, q1))) (hR : Hid (runT code ⟨s.level, s.position, od, ag, f⟩ = (g, ok, 0))) (hgb : Hid (0 ≤ g ∧ g ≤ 1099511627776)) (hM : Hid (movedM p s g ok = M)) (hf : Hid (0 ≤ f ∧ f ≤ 15)) (hM1 : Hid (0 ≤ p.rate * M ∧ p.rate * M ≤ 225)) :
    Calls Tryz.prog 11 #[p.v, .agg #[V], s.v, x.v] w fun e w' => e = .returned (.tuple #[.agg #[.int .i64 (min p.top (s.level + f - min (s.level + f) (p.rate * M))), .int .i64 M, .int .i64 q0, .int .i64 q1, .int .i64 od, .int .i64 ag], .int .i64 (min (s.level + f) (p.rate * M)), .int .i64 0]) ∧ Below w.heap.size w w' := by
  go_enter Tryz.func11, Tryz.ntmps11
  go_wp2_with fail
  refine (check_at h _).mono ?_
  rintro e w1 ⟨rfl, hb⟩
  have X0 := ((((((Box.newAt (n := w.heap.size) [.int .i64 p.top, .int .i64 p.bank, .int .i64 p.siphon, .int .i64 p.start, .int .i64 p.positions, .int .i64 p.rate, .int .i64 p.step, .int .i64 p.pass, .int .i64 p.feed, .int .i64 p.pipe, .int .i64 p.orders, .int .i64 p.age] 23 (by simp)).alloc _).alloc _).alloc _).alloc _)).later hb
  have X1 := (((((Box.newAt (n := w.heap.size + 1) [V] 26 (by simp)).alloc _).alloc _).alloc _)).later hb
  have X2 := ((((Box.newAt (n := w.heap.size + 1 + 1) [.int .i64 s.level, .int .i64 s.position, .int .i64 s.p0, .int .i64 s.p1, .int .i64 s.order, .int .i64 s.age] 33 (by simp)).alloc _).alloc _)).later hb
  have X3 := (((Box.newAt (n := w.heap.size + 1 + 1 + 1) [.int .i64 x.feed, .int .i64 x.msg] 35 (by simp)).alloc _)).later hb
  have X4 := ((Box.newAt (n := w.heap.size + 1 + 1 + 1 + 1) [.int .i64 0, .int .i64 0, .int .i64 0, .int .i64 0, .int .i64 0, .int .i64 0] 33 (by simp))).later hb
  have hB : Below w.heap.size w w1 := (((((((Below.refl w.heap.size w).alloc (by simp <;> omega) _).alloc (by simp <;> omega) _).alloc (by simp <;> omega) _).alloc (by simp <;> omega) _).alloc (by simp <;> omega) _)).trans (hb.mono (by simp <;> omega))
  clear hb
  have X1c0 : w1.cell? ⟨w.heap.size + 1, 0, none⟩ = some (V) := X1.cell 0
  have X1f0 : w1.frozen? ⟨w.heap.size + 1, 0, none⟩ = false := X1.free 0
  have X1z : w.heap.size + 1 < w1.heap.size := X1.lt
  go_wp2_with fail
  refine (gcheck_at hg ((hC.out.below hB).more hB.size)).mono ?_
  rintro e w2 ⟨rfl, hb⟩
  clear X1c0 X1f0 X1z
  have X0 := X0.later hb
  have X1 := X1.later hb
  have X2 := X2.later hb
  have X3 := X3.later hb
  have X4 := X4.later hb
  have hB := hB.trans (hb.mono hB.size)
  clear hb
  obtain ⟨X0c0, X0f0, X0c1, X0f1, X0c2, X0f2, X0c3, X0f3, X0c4, X0f4, X0c5, X0f5, X0c6, X0f6, X0c7, X0f7, X0c8, X0f8, X0c9, X0f9, X0c10, X0f10, X0c11, X0f11⟩ := X0.f12
  have X0z : w.heap.size < w2.heap.size := X0.lt
  obtain ⟨X2c0, X2f0, X2c1, X2f1, X2c2, X2f2, X2c3, X2f3, X2c4, X2f4, X2c5, X2f5⟩ := X2.f6
  have X2z : w.heap.size + 1 + 1 < w2.heap.size := X2.lt
  go_wp2_with fail
  refine (belongs_at hv.out.pipe hh _).mono ?_
  rintro e w3 ⟨rfl, hb⟩
  clear X0c0 X0f0 X0c1 X0f1 X0c2 X0f2 X0c3 X0f3 X0c4 X0f4 X0c5 X0f5 X0c6 X0f6 X0c7 X0f7 X0c8 X0f8 X0c9 X0f9 X0c10 X0f10 X0c11 X0f11 X0z X2c0 X2f0 X2c1 X2f1 X2c2 X2f2 X2c3 X2f3 X2c4 X2f4 X2c5 X2f5 X2z
  have X0 := X0.later hb
  have X1 := X1.later hb
  have X2 := X2.later hb
  have X3 := X3.later hb
  have X4 := X4.later hb
  have hB := hB.trans (hb.mono hB.size)
  clear hb
  obtain ⟨X0c0, X0f0, X0c1, X0f1, X0c2, X0f2, X0c3, X0f3, X0c4, X0f4, X0c5, X0f5, X0c6, X0f6, X0c7, X0f7, X0c8, X0f8, X0c9, X0f9, X0c10, X0f10, X0c11, X0f11⟩ := X0.f12
  have X0z : w.heap.size < w3.heap.size := X0.lt
  have X1c0 : w3.cell? ⟨w.heap.size + 1, 0, none⟩ = some (V) := X1.cell 0
  have X1f0 : w3.frozen? ⟨w.heap.size + 1, 0, none⟩ = false := X1.free 0
  have X1z : w.heap.size + 1 < w3.heap.size := X1.lt
  obtain ⟨X2c0, X2f0, X2c1, X2f1, X2c2, X2f2, X2c3, X2f3, X2c4, X2f4, X2c5, X2f5⟩ := X2.f6
  have X2z : w.heap.size + 1 + 1 < w3.heap.size := X2.lt
  obtain ⟨X3c0, X3f0, X3c1, X3f1⟩ := X3.f2
  have X3z : w.heap.size + 1 + 1 + 1 < w3.heap.size := X3.lt
  obtain ⟨X4c0, X4f0, X4c1, X4f1, X4c2, X4f2, X4c3, X4f3, X4c4, X4f4, X4c5, X4f5⟩ := X4.f6
  have X4z : w.heap.size + 1 + 1 + 1 + 1 < w3.heap.size := X4.lt
  go_wp2_with fail
  clear X0c0 X0f0 X0c1 X0f1 X0c2 X0f2 X0c3 X0f3 X0c4 X0f4 X0c5 X0f5 X0c6 X0f6 X0c7 X0f7 X0c8 X0f8 X0c9 X0f9 X0c10 X0f10 X0c11 X0f11 X0z X1c0 X1f0 X1z X2c0 X2f0 X2c1 X2f1 X2c2 X2f2 X2c3 X2f3 X2c4 X2f4 X2c5 X2f5 X2z X3c0 X3f0 X3c1 X3f1 X3z X4c0 X4f0 X4c1 X4f1 X4c2 X4f2 X4c3 X4f3 X4c4 X4f4 X4c5 X4f5 X4z
  clear X0 X1 X2 X3
  have hlt := X4.lt
  have hX : Box ((w3.alloc (.cells #[.int .i64 s.level, .int .i64 s.position, .int .i64 s.p0, .int .i64 s.p1, .int .i64 s.order, .int .i64 s.age, .int .i64 p.top, .int .i64 p.bank, .int .i64 p.siphon, .int .i64 p.start, .int .i64 p.positions, .int .i64 p.rate, .int .i64 p.step, .int .i64 p.pass, .int .i64 p.feed, .int .i64 p.pipe, .int .i64 p.orders, .int .i64 p.age, V, .int .i64 x.feed, .int .i64 x.msg, .int .i64 0, .int .i64 0] 106)).alloc (.cells #[.func (.func 34) #[.pointer (some ⟨w3.heap.size, 0, none⟩)] #[], .func (.func 35) #[.pointer (some ⟨w3.heap.size, 0, none⟩)] #[], .func (.func 36) #[.pointer (some ⟨w3.heap.size, 0, none⟩)] #[], .func (.func 37) #[.pointer (some ⟨w3.heap.size, 0, none⟩)] #[]] 1)) w3.heap.size (hourL p V s x 0 0) := (Box.new w3 (hourL p V s x 0 0) 106).alloc _
  have hN := Box.newAt (w := w3.alloc (.cells #[.int .i64 s.level, .int .i64 s.position, .int .i64 s.p0, .int .i64 s.p1, .int .i64 s.order, .int .i64 s.age, .int .i64 p.top, .int .i64 p.bank, .int .i64 p.siphon, .int .i64 p.start, .int .i64 p.positions, .int .i64 p.rate, .int .i64 p.step, .int .i64 p.pass, .int .i64 p.feed, .int .i64 p.pipe, .int .i64 p.orders, .int .i64 p.age, V, .int .i64 x.feed, .int .i64 x.msg, .int .i64 0, .int .i64 0] 106)) (n := w3.heap.size + 1) [.func (.func 34) #[.pointer (some ⟨w3.heap.size, 0, none⟩)] #[], .func (.func 35) #[.pointer (some ⟨w3.heap.size, 0, none⟩)] #[], .func (.func 36) #[.pointer (some ⟨w3.heap.size, 0, none⟩)] #[], .func (.func 37) #[.pointer (some ⟨w3.heap.size, 0, none⟩)] #[]] 1 (by simp)
  have X4 := (X4.alloc (.cells #[.int .i64 s.level, .int .i64 s.position, .int .i64 s.p0, .int .i64 s.p1, .int .i64 s.order, .int .i64 s.age, .int .i64 p.top, .int .i64 p.bank, .int .i64 p.siphon, .int .i64 p.start, .int .i64 p.positions, .int .i64 p.rate, .int .i64 p.step, .int .i64 p.pass, .int .i64 p.feed, .int .i64 p.pipe, .int .i64 p.orders, .int .i64 p.age, V, .int .i64 x.feed, .int .i64 x.msg, .int .i64 0, .int .i64 0] 106)).alloc (.cells #[.func (.func 34) #[.pointer (some ⟨w3.heap.size, 0, none⟩)] #[], .func (.func 35) #[.pointer (some ⟨w3.heap.size, 0, none⟩)] #[], .func (.func 36) #[.pointer (some ⟨w3.heap.size, 0, none⟩)] #[], .func (.func 37) #[.pointer (some ⟨w3.heap.size, 0, none⟩)] #[]] 1)
  have hD := Lib.hid hB.size
  have hB := (hB.alloc hB.size (.cells #[.int .i64 s.level, .int .i64 s.position, .int .i64 s.p0, .int .i64 s.p1, .int .i64 s.order, .int .i64 s.age, .int .i64 p.top, .int .i64 p.bank, .int .i64 p.siphon, .int .i64 p.start, .int .i64 p.positions, .int .i64 p.rate, .int .i64 p.step, .int .i64 p.pass, .int .i64 p.feed, .int .i64 p.pipe, .int .i64 p.orders, .int .i64 p.age, V, .int .i64 x.feed, .int .i64 x.msg, .int .i64 0, .int .i64 0] 106)).alloc (by have := hB.size; simp; omega) (.cells #[.func (.func 34) #[.pointer (some ⟨w3.heap.size, 0, none⟩)] #[], .func (.func 35) #[.pointer (some ⟨w3.heap.size, 0, none⟩)] #[], .func (.func 36) #[.pointer (some ⟨w3.heap.size, 0, none⟩)] #[], .func (.func 37) #[.pointer (some ⟨w3.heap.size, 0, none⟩)] #[]] 1)
  generalize (w3.alloc (.cells #[.int .i64 s.level, .int .i64 s.position, .int .i64 s.p0, .int .i64 s.p1, .int .i64 s.order, .int .i64 s.age, .int .i64 p.top, .int .i64 p.bank, .int .i64 p.siphon, .int .i64 p.start, .int .i64 p.positions, .int .i64 p.rate, .int .i64 p.step, .int .i64 p.pass, .int .i64 p.feed, .int .i64 p.pipe, .int .i64 p.orders, .int .i64 p.age, V, .int .i64 x.feed, .int .i64 x.msg, .int .i64 0, .int .i64 0] 106)).alloc (.cells #[.func (.func 34) #[.pointer (some ⟨w3.heap.size, 0, none⟩)] #[], .func (.func 35) #[.pointer (some ⟨w3.heap.size, 0, none⟩)] #[], .func (.func 36) #[.pointer (some ⟨w3.heap.size, 0, none⟩)] #[], .func (.func 37) #[.pointer (some ⟨w3.heap.size, 0, none⟩)] #[]] 1) = W at hX hN X4 hB ⊢
  generalize w3.heap.size = D at hX hN hD hlt ⊢
  refine wp_loop_rounds 5 ?_
  rw [rounds_succ]
  have hS := Lib.hid S.out.sage
  have n0 : W.cell? ⟨D + 1, 0, none⟩ = some _ := hN.cell 0
  have z0 := hN.lt
  go_wp2_with fail
  have zz := hX.lt
  refine (hear_at hX hS.out hH).mono ?_
  rintro e w4 ⟨rfl, hX, hA⟩
  clear n0 z0
  have hN := hN.aside hA (by omega)
  have X4 := X4.aside hA (by omega)
  have hB := hB.trans (hA.below hD.out zz)
  clear hA zz
  have n1 : w4.cell? ⟨D + 1, 1, none⟩ = some _ := hN.cell 1
  have z1 := hN.lt
  go_wp2_with fail
  rw [rounds_succ]
  go_wp2_with fail
  have zz := hX.lt
  refine (feed_at hX hv.out.pipe hF).mono ?_
  rintro e w5 ⟨rfl, hX, hA⟩
  clear n1 z1
  have hN := hN.aside hA (by omega)
  have X4 := X4.aside hA (by omega)
  have hB := hB.trans (hA.below hD.out zz)
  clear hA zz
  have n2 : w5.cell? ⟨D + 1, 2, none⟩ = some _ := hN.cell 2
  have z2 := hN.lt
  go_wp2_with fail
  rw [rounds_succ]
  go_wp2_with fail
  have zz := hX.lt
  refine (set_at hX (hC.out.below hB |>.more hB.size) hR hgb.out S.out.position S.out.positions S.out.step hM).mono ?_
  rintro e w6 ⟨rfl, hX, hA⟩
  clear n2 z2
  have hN := hN.aside hA (by omega)
  have X4 := X4.aside hA (by omega)
  have hB := hB.trans (hA.below hD.out zz)
  clear hA zz
  have n3 : w6.cell? ⟨D + 1, 3, none⟩ = some _ := hN.cell 3
  have z3 := hN.lt
  go_wp2_with fail
  rw [rounds_succ]
  go_wp2_with fail
  have zz := hX.lt
  refine (pass_any p V _ x _ _ D _ hX S.out.level hf.out hM1.out).mono ?_
  rintro e w7 ⟨rfl, hX, hA⟩
  clear n3 z3
  have hN := hN.aside hA (by omega)
  have X4 := X4.aside hA (by omega)
  have hB := hB.trans (hA.below hD.out zz)
  clear hA zz
  have n4 : w7.cell? ⟨D + 1, 3, none⟩ = some _ := hN.cell 3
  have z4 := hN.lt
  go_wp2_with fail
  rw [rounds_succ]
  go_wp2_with fail
  clear n4 z4 hN
  obtain ⟨d0, d1, d2, d3, d4, d5⟩ := hX.c6
  have d22 : w7.cell? ⟨D, 22, none⟩ = some (.int .i64 (min (s.level + f) (p.rate * M))) := hX.cell 22
  obtain ⟨r0, rf0, r1, rf1, r2, rf2, r3, rf3, r4, rf4, r5, rf5⟩ := X4.f6
  have rz := X4.lt
  have hne : D ≠ w.heap.size + 1 + 1 + 1 + 1 := by omega
  go_region
  go_wp2
  have hY := ((((((X4.set 0 (.int .i64 (min p.top (s.level + f - min (s.level + f) (p.rate * M))))).set 1 (.int .i64 (M))).set 2 (.int .i64 (q0))).set 3 (.int .i64 (q1))).set 4 (.int .i64 (od))).set 5 (.int .i64 (ag)))
  have hB := ((((((hB.setCell (p := ⟨w.heap.size + 1 + 1 + 1 + 1, 0, none⟩) (by simp <;> omega) (.int .i64 (min p.top (s.level + f - min (s.level + f) (p.rate * M))))).setCell (p := ⟨w.heap.size + 1 + 1 + 1 + 1, 1, none⟩) (by simp <;> omega) (.int .i64 (M))).setCell (p := ⟨w.heap.size + 1 + 1 + 1 + 1, 2, none⟩) (by simp <;> omega) (.int .i64 (q0))).setCell (p := ⟨w.heap.size + 1 + 1 + 1 + 1, 3, none⟩) (by simp <;> omega) (.int .i64 (q1))).setCell (p := ⟨w.heap.size + 1 + 1 + 1 + 1, 4, none⟩) (by simp <;> omega) (.int .i64 (od))).setCell (p := ⟨w.heap.size + 1 + 1 + 1 + 1, 5, none⟩) (by simp <;> omega) (.int .i64 (ag)))
  generalize ((((((w7.setCell ⟨w.heap.size + 1 + 1 + 1 + 1, 0, none⟩ (.int .i64 (min p.top (s.level + f - min (s.level + f) (p.rate * M))))).setCell ⟨w.heap.size + 1 + 1 + 1 + 1, 1, none⟩ (.int .i64 (M))).setCell ⟨w.heap.size + 1 + 1 + 1 + 1, 2, none⟩ (.int .i64 (q0))).setCell ⟨w.heap.size + 1 + 1 + 1 + 1, 3, none⟩ (.int .i64 (q1))).setCell ⟨w.heap.size + 1 + 1 + 1 + 1, 4, none⟩ (.int .i64 (od))).setCell ⟨w.heap.size + 1 + 1 + 1 + 1, 5, none⟩ (.int .i64 (ag))) = W2 at hY hB ⊢
  obtain ⟨y0, y1, y2, y3, y4, y5⟩ := hY.c6
  refine bodyPost_ret (v := .tuple #[.agg #[.int .i64 (min p.top (s.level + f - min (s.level + f) (p.rate * M))), .int .i64 M, .int .i64 q0, .int .i64 q1, .int .i64 od, .int .i64 ag], .int .i64 (min (s.level + f) (p.rate * M)), .int .i64 0]) (by simp [results, Tryz.results11, go_sem, y0, y1, y2, y3, y4, y5]) rfl ?_
  exact ⟨rfl, hB.drew⟩
end Go.Proofs.YtmbifmmkccghfaaGreat
namespace Go.Proofs.YtmbifmmkccghfaaGreat
open Go.RowKit
def RetX (t : St × Int × Int) (w : World) (e : Ending) (w' : World) : Prop := ∃ (s : St) (o er : Int), e = .returned (.tuple #[s.v, .int .i64 o, .int .i64 er]) ∧ Hid (t = (s, o, er)) ∧ Below w.heap.size w w'
theorem gateT_two (code : List Ln) : (gateT code = 0 ∧ gateB code = true) ∨ gateT code = 310 := by
  unfold gateT
  split
  · exact .inl ⟨rfl, by assumption⟩
  · exact .inr rfl
theorem movedM_is (p : Pl) (code : List Ln) (s : St) (x : Sh) (hp : 0 ≤ s.position ∧ s.position ≤ p.positions) (hs : 1 ≤ p.step) : movedM p s (firstT code (varsT p s x)).1 (firstT code (varsT p s x)).2 = movedT p code s x := by
  unfold movedM movedT
  split <;> omega
theorem moved_bd {p : Pl} {code : List Ln} {s : St} {x : Sh} (S : Small p s x) (hg : 0 ≤ (firstT code (varsT p s x)).1) : 0 ≤ movedT p code s x ∧ movedT p code s x ≤ 15 := by
  obtain ⟨_, h1, _, h2, _, _, h3, _⟩ := S
  unfold movedT
  split <;> omega
theorem next_any (p : Pl) (code : List Ln) (V : Value) (s : St) (x : Sh) (w : World) (hC : CodeAt w w.heap.size V code) :
    Calls Tryz.prog 11 #[p.v, .agg #[V], s.v, x.v] w (RetX (nextT p code s x) w) := by
  by_cases h : p.checkT = 0
  · obtain ⟨hv, _⟩ := Pl.check_zero h
    rcases gateT_two code with ⟨hg, hgb⟩ | hg
    · rcases hh : p.hasB s with _ | _
      · have e : nextT p code s x = (St.zero, 0, 320) := by rw [nextT, if_pos h, if_pos hg, if_neg (by rw [hh]; decide)]
        rw [e]
        exact (next_has p code V s x w hC h hg hv.pipe hh).mono fun _ _ ⟨he, hb⟩ => ⟨St.zero, 0, 320, he, rfl, hb⟩
      · rcases hc : chosenB p x with _ | _
        · have e : nextT p code s x = (St.zero, 0, 1) := by rw [nextT, if_pos h, if_pos hg, if_pos hh, if_neg (by rw [hc]; decide)]
          rw [e]
          have hc' : ¬ ((0 ≤ x.feed ∧ x.feed ≤ p.feed) ∧ -1 ≤ x.msg ∧ x.msg ≤ p.orders) := by
            intro hk
            rw [chosenB, inI, inI, decide_eq_true hk.1, decide_eq_true hk.2] at hc
            cases hc
          by_cases k1 : 0 ≤ x.feed
          · by_cases k2 : x.feed ≤ p.feed
            · by_cases k3 : -1 ≤ x.msg
              · exact (next_chosen3 p code V s x w hC h hg hv.pipe hh k1 k2 k3 (by omega)).mono fun _ _ ⟨he, hb⟩ => ⟨St.zero, 0, 1, he, rfl, hb⟩
              · exact (next_chosen2 p code V s x w hC h hg hv.pipe hh k1 k2 (by omega)).mono fun _ _ ⟨he, hb⟩ => ⟨St.zero, 0, 1, he, rfl, hb⟩
            · exact (next_chosen1 p code V s x w hC h hg hv.pipe hh k1 (by omega)).mono fun _ _ ⟨he, hb⟩ => ⟨St.zero, 0, 1, he, rfl, hb⟩
          · exact (next_chosen0 p code V s x w hC h hg hv.pipe hh (by omega)).mono fun _ _ ⟨he, hb⟩ => ⟨St.zero, 0, 1, he, rfl, hb⟩
        · have e : nextT p code s x = (stepT p code s x, outT p code s x, 0) := by rw [nextT, if_pos h, if_pos hg, if_pos hh, if_pos hc]
          rw [e]
          have S := small_of hv hh hc
          have hgd := firstT_bd (r := varsT p s x) hgb
          have hMb := moved_bd S hgd.1
          have hM := movedM_is p code s x S.position S.step.1
          have hrm := mul_le4 (a := p.rate) (b := movedT p code s x) (A := 15) (B := 15) (by have := S.rate; omega) hMb
          have hck := hc
          simp only [chosenB, Bool.and_eq_true] at hck
          have c1 := inI_yes hck.1
          have c2 := inI_yes hck.2
          have hf : 0 ≤ (fedT p s x).1 ∧ (fedT p s x).1 ≤ 15 := by
            have := S.feed
            have := S.p0
            unfold fedT
            split
            · omega
            · split <;> omega
          have hR : runT code (varsT p s x) = ((firstT code (varsT p s x)).1, (firstT code (varsT p s x)).2, 0) := by rw [runT, if_pos hgb]
          refine (next_good p code V s x w hC h hg hv hh c1.1 c1.2 c2.1 c2.2 S (heardT p s x).1 (heardT p s x).2 (fedT p s x).1 (fedT p s x).2.1 (fedT p s x).2.2 (firstT code (varsT p s x)).1 (movedT p code s x) (firstT code (varsT p s x)).2 rfl rfl hR hgd hM hf (by rw [Hid]; exact ⟨hrm.1, by omega⟩)).mono ?_
          rintro _ _ ⟨he, hb⟩
          exact ⟨stepT p code s x, outT p code s x, 0, he, rfl, hb⟩
    · have e : nextT p code s x = (St.zero, 0, 310) := by rw [nextT, if_pos h, if_neg (by omega), hg]
      rw [e]
      exact (next_gate p code V s x w hC h hg).mono fun _ _ ⟨he, hb⟩ => ⟨St.zero, 0, 310, he, rfl, hb⟩
  · have e : nextT p code s x = (St.zero, 0, p.checkT) := by rw [nextT, if_neg h]
    rw [e]
    exact (next_check p code V s x w hC p.checkT rfl (by simp [h]) (by simp [h])).mono fun _ _ ⟨he, hb⟩ => ⟨St.zero, 0, p.checkT, he, rfl, hb⟩
theorem next_is {p : Pl} {code : List Ln} {V : Value} {s : St} {x : Sh} {w : World} {t : St} {o er : Int} (h : Hid (nextT p code s x = (t, o, er))) (hC : CodeAt w w.heap.size V code) :
    Calls Tryz.prog 11 #[p.v, .agg #[V], s.v, x.v] w fun e w' => e = .returned (.tuple #[t.v, .int .i64 o, .int .i64 er]) ∧ Below w.heap.size w w' :=
  (next_any p code V s x w hC).mono fun _ _ ⟨a, b, c, he, hq, hb⟩ => by
    have := hq.out.symm.trans h.out
    simp only [Prod.mk.injEq] at this
    obtain ⟨rfl, rfl, rfl⟩ := this
    exact ⟨he, hb⟩
theorem rcount_is {p : Pl} {w : World} {n er : Int} (h : Hid (p.countT = (n, er))) : Calls Tryz.prog 19 #[p.v] w fun e w' => e = .returned (.tuple #[.int .i64 n, .int .i64 er]) ∧ Below w.heap.size w w' :=
  (rCount_any p w).mono fun _ _ ⟨a, b, he, hq, hb⟩ => by
    have := hq.out.symm.trans h.out
    simp only [Prod.mk.injEq] at this
    obtain ⟨rfl, rfl⟩ := this
    exact ⟨he, hb⟩
theorem begin_is {p : Pl} {w : World} {t : St} {er : Int} (h : Hid (p.beginT = (t, er))) : Calls Tryz.prog 8 #[p.v] w fun e w' => e = .returned (.tuple #[t.v, .int .i64 er]) ∧ Below w.heap.size w w' :=
  (Begin_any p w).mono fun _ _ ⟨a, b, he, hq, hb⟩ => by
    have := hq.out.symm.trans h.out
    simp only [Prod.mk.injEq] at this
    obtain ⟨rfl, rfl⟩ := this
    exact ⟨he, hb⟩
theorem safe_is {p : Pl} {s : St} {w : World} {q : Bool} {er : Int} (h : Hid (p.safeT s = (q, er))) : Calls Tryz.prog 12 #[p.v, s.v] w fun e w' => e = .returned (.tuple #[.bool q, .int .i64 er]) ∧ Below w.heap.size w w' :=
  (Safe_any p s w).mono fun _ _ ⟨a, b, he, hq, hb⟩ => by
    have := hq.out.symm.trans h.out
    simp only [Prod.mk.injEq] at this
    obtain ⟨rfl, rfl⟩ := this
    exact ⟨he, hb⟩
end Go.Proofs.YtmbifmmkccghfaaGreat
