/- Contracts of Next of plant and of acequiaref32: the ways that fail. (Printed by gen_r.py.) -/
import Derived.Test.YtancngachnpefaaQK
import Derived.Test.YtancngachnpefaaQP
import Derived.Test.YtancngachnpefaaQQ
set_option linter.unusedVariables false
set_option linter.unusedSimpArgs false
set_option maxRecDepth 100000
set_option maxHeartbeats 2000000
namespace Go.Proofs.Ytancngachnpefaa
open Go.RowKit
theorem belongs_at {p : Pl} {s : St} {q : Bool} (hp : 0 ≤ p.pipe ∧ p.pipe ≤ 2) (h : Hid (p.hasB s = q)) (w : World) : Calls Try.prog 54 #[p.v, s.v] w fun e w' => e = .returned (.bool q) ∧ Below w.heap.size w w' :=
  (belongs_any p s w hp).mono fun _ _ ⟨he, hb⟩ => ⟨by rw [he, h.out], hb⟩
theorem rbelongs_at {p : Pl} {s : St} {q : Bool} (hp : 0 ≤ p.pipe ∧ p.pipe ≤ 2) (h : Hid (p.hasB s = q)) (w : World) : Calls Try.prog 76 #[p.v, s.v] w fun e w' => e = .returned (.bool q) ∧ Below w.heap.size w w' :=
  (Belongs_any p s w hp).mono fun _ _ ⟨he, hb⟩ => ⟨by rw [he, h.out], hb⟩
theorem rchosen_at {p : Pl} {x : Sh} {q : Bool} (h : Hid (chosenB p x = q)) (w : World) : Calls Try.prog 78 #[p.v, x.v] w fun e w' => e = .returned (.bool q) ∧ Below w.heap.size w w' :=
  (Chosen_any p x w).mono fun _ _ ⟨he, hb⟩ => ⟨by rw [he, h.out], hb⟩
theorem next_check (p : Pl) (code : List Ln) (V : Value) (s : St) (x : Sh) (w : World) (_hC : Hid (CodeAt w w.heap.size V code)) (c : Int) (h : Hid (p.checkT = c)) (_h1 : (c == 0) = false) (_h2 : (c != 0) = true) :
    Calls Try.prog 28 #[p.v, .agg #[V], s.v, x.v] w fun e w' => e = .returned (.tuple #[.agg #[.int .i64 0, .int .i64 0, .int .i64 0, .int .i64 0, .int .i64 0, .int .i64 0], .int .i64 0, .int .i64 c]) ∧ Below w.heap.size w w' := by
  go_enter Try.func28, Try.ntmps28
  go_wp2_with fail
  refine (check_at h _).mono ?_
  rintro e w1 ⟨rfl, hb⟩
  have X0 := ((((((Box.newAt (n := w.heap.size) [.int .i64 p.top, .int .i64 p.bank, .int .i64 p.siphon, .int .i64 p.start, .int .i64 p.positions, .int .i64 p.rate, .int .i64 p.step, .int .i64 p.pass, .int .i64 p.feed, .int .i64 p.pipe, .int .i64 p.orders, .int .i64 p.age] 23 (by simp)).alloc _).alloc _).alloc _).alloc _)).later hb
  have X1 := (((((Box.newAt (n := w.heap.size + 1) [V] 26 (by simp)).alloc _).alloc _).alloc _)).later hb
  have X2 := ((((Box.newAt (n := w.heap.size + 1 + 1) [.int .i64 s.level, .int .i64 s.position, .int .i64 s.p0, .int .i64 s.p1, .int .i64 s.order, .int .i64 s.age] 30 (by simp)).alloc _).alloc _)).later hb
  have X3 := (((Box.newAt (n := w.heap.size + 1 + 1 + 1) [.int .i64 x.feed, .int .i64 x.msg] 37 (by simp)).alloc _)).later hb
  have X4 := ((Box.newAt (n := w.heap.size + 1 + 1 + 1 + 1) [.int .i64 0, .int .i64 0, .int .i64 0, .int .i64 0, .int .i64 0, .int .i64 0] 30 (by simp))).later hb
  have hB : Below w.heap.size w w1 := (((((((Below.refl w.heap.size w).alloc (by simp <;> omega) _).alloc (by simp <;> omega) _).alloc (by simp <;> omega) _).alloc (by simp <;> omega) _).alloc (by simp <;> omega) _)).trans (hb.mono (by simp <;> omega))
  clear hb
  obtain ⟨X0c0, X0f0, X0c1, X0f1, X0c2, X0f2, X0c3, X0f3, X0c4, X0f4, X0c5, X0f5, X0c6, X0f6, X0c7, X0f7, X0c8, X0f8, X0c9, X0f9, X0c10, X0f10, X0c11, X0f11⟩ := X0.f12
  have X0z : w.heap.size < w1.heap.size := X0.lt
  obtain ⟨X3c0, X3f0, X3c1, X3f1⟩ := X3.f2
  have X3z : w.heap.size + 1 + 1 + 1 < w1.heap.size := X3.lt
  obtain ⟨X4c0, X4f0, X4c1, X4f1, X4c2, X4f2, X4c3, X4f3, X4c4, X4f4, X4c5, X4f5⟩ := X4.f6
  have X4z : w.heap.size + 1 + 1 + 1 + 1 < w1.heap.size := X4.lt
  go_wp2
  have hY := ((((((X4.set 0 (.int .i64 0)).set 1 (.int .i64 0)).set 2 (.int .i64 0)).set 3 (.int .i64 0)).set 4 (.int .i64 0)).set 5 (.int .i64 0))
  have hB := ((((((hB.setCell (p := ⟨w.heap.size + 1 + 1 + 1 + 1, 0, none⟩) (by simp <;> omega) (.int .i64 0)).setCell (p := ⟨w.heap.size + 1 + 1 + 1 + 1, 1, none⟩) (by simp <;> omega) (.int .i64 0)).setCell (p := ⟨w.heap.size + 1 + 1 + 1 + 1, 2, none⟩) (by simp <;> omega) (.int .i64 0)).setCell (p := ⟨w.heap.size + 1 + 1 + 1 + 1, 3, none⟩) (by simp <;> omega) (.int .i64 0)).setCell (p := ⟨w.heap.size + 1 + 1 + 1 + 1, 4, none⟩) (by simp <;> omega) (.int .i64 0)).setCell (p := ⟨w.heap.size + 1 + 1 + 1 + 1, 5, none⟩) (by simp <;> omega) (.int .i64 0))
  generalize ((((((w1.setCell ⟨w.heap.size + 1 + 1 + 1 + 1, 0, none⟩ (.int .i64 0)).setCell ⟨w.heap.size + 1 + 1 + 1 + 1, 1, none⟩ (.int .i64 0)).setCell ⟨w.heap.size + 1 + 1 + 1 + 1, 2, none⟩ (.int .i64 0)).setCell ⟨w.heap.size + 1 + 1 + 1 + 1, 3, none⟩ (.int .i64 0)).setCell ⟨w.heap.size + 1 + 1 + 1 + 1, 4, none⟩ (.int .i64 0)).setCell ⟨w.heap.size + 1 + 1 + 1 + 1, 5, none⟩ (.int .i64 0)) = W at hY hB ⊢
  obtain ⟨y0, y1, y2, y3, y4, y5⟩ := hY.c6
  refine bodyPost_ret (v := .tuple #[.agg #[.int .i64 0, .int .i64 0, .int .i64 0, .int .i64 0, .int .i64 0, .int .i64 0], .int .i64 0, .int .i64 c]) (by simp [results, Try.results28, go_sem, y0, y1, y2, y3, y4, y5]) rfl ?_
  exact ⟨rfl, hB⟩
theorem next_gate (p : Pl) (code : List Ln) (V : Value) (s : St) (x : Sh) (w : World) (hC : Hid (CodeAt w w.heap.size V code)) (h : Hid (p.checkT = 0)) (hg : Hid (gateT code = 310)) :
    Calls Try.prog 28 #[p.v, .agg #[V], s.v, x.v] w fun e w' => e = .returned (.tuple #[.agg #[.int .i64 0, .int .i64 0, .int .i64 0, .int .i64 0, .int .i64 0, .int .i64 0], .int .i64 0, .int .i64 310]) ∧ Below w.heap.size w w' := by
  go_enter Try.func28, Try.ntmps28
  go_wp2_with fail
  refine (check_at h _).mono ?_
  rintro e w1 ⟨rfl, hb⟩
  have X0 := ((((((Box.newAt (n := w.heap.size) [.int .i64 p.top, .int .i64 p.bank, .int .i64 p.siphon, .int .i64 p.start, .int .i64 p.positions, .int .i64 p.rate, .int .i64 p.step, .int .i64 p.pass, .int .i64 p.feed, .int .i64 p.pipe, .int .i64 p.orders, .int .i64 p.age] 23 (by simp)).alloc _).alloc _).alloc _).alloc _)).later hb
  have X1 := (((((Box.newAt (n := w.heap.size + 1) [V] 26 (by simp)).alloc _).alloc _).alloc _)).later hb
  have X2 := ((((Box.newAt (n := w.heap.size + 1 + 1) [.int .i64 s.level, .int .i64 s.position, .int .i64 s.p0, .int .i64 s.p1, .int .i64 s.order, .int .i64 s.age] 30 (by simp)).alloc _).alloc _)).later hb
  have X3 := (((Box.newAt (n := w.heap.size + 1 + 1 + 1) [.int .i64 x.feed, .int .i64 x.msg] 37 (by simp)).alloc _)).later hb
  have X4 := ((Box.newAt (n := w.heap.size + 1 + 1 + 1 + 1) [.int .i64 0, .int .i64 0, .int .i64 0, .int .i64 0, .int .i64 0, .int .i64 0] 30 (by simp))).later hb
  have hB : Below w.heap.size w w1 := (((((((Below.refl w.heap.size w).alloc (by simp <;> omega) _).alloc (by simp <;> omega) _).alloc (by simp <;> omega) _).alloc (by simp <;> omega) _).alloc (by simp <;> omega) _)).trans (hb.mono (by simp <;> omega))
  clear hb
  have X1c0 : w1.cell? ⟨w.heap.size + 1, 0, none⟩ = some (V) := X1.cell 0
  have X1f0 : w1.frozen? ⟨w.heap.size + 1, 0, none⟩ = false := X1.free 0
  have X1z : w.heap.size + 1 < w1.heap.size := X1.lt
  go_wp2_with fail
  refine (gcheck_at hg ((hC.out.below hB).more hB.size)).mono ?_
  rintro e w2 ⟨rfl, hb⟩
  clear X1c0 X1f0 X1z
  have X0 := X0.later hb
  have X1 := X1.later hb
  have X2 := X2.later hb
  have X3 := X3.later hb
  have X4 := X4.later hb
  have hB := hB.trans (hb.mono hB.size)
  clear hb
  obtain ⟨X0c0, X0f0, X0c1, X0f1, X0c2, X0f2, X0c3, X0f3, X0c4, X0f4, X0c5, X0f5, X0c6, X0f6, X0c7, X0f7, X0c8, X0f8, X0c9, X0f9, X0c10, X0f10, X0c11, X0f11⟩ := X0.f12
  have X0z : w.heap.size < w2.heap.size := X0.lt
  obtain ⟨X3c0, X3f0, X3c1, X3f1⟩ := X3.f2
  have X3z : w.heap.size + 1 + 1 + 1 < w2.heap.size := X3.lt
  obtain ⟨X4c0, X4f0, X4c1, X4f1, X4c2, X4f2, X4c3, X4f3, X4c4, X4f4, X4c5, X4f5⟩ := X4.f6
  have X4z : w.heap.size + 1 + 1 + 1 + 1 < w2.heap.size := X4.lt
  go_wp2
  have hY := ((((((X4.set 0 (.int .i64 0)).set 1 (.int .i64 0)).set 2 (.int .i64 0)).set 3 (.int .i64 0)).set 4 (.int .i64 0)).set 5 (.int .i64 0))
  have hB := ((((((hB.setCell (p := ⟨w.heap.size + 1 + 1 + 1 + 1, 0, none⟩) (by simp <;> omega) (.int .i64 0)).setCell (p := ⟨w.heap.size + 1 + 1 + 1 + 1, 1, none⟩) (by simp <;> omega) (.int .i64 0)).setCell (p := ⟨w.heap.size + 1 + 1 + 1 + 1, 2, none⟩) (by simp <;> omega) (.int .i64 0)).setCell (p := ⟨w.heap.size + 1 + 1 + 1 + 1, 3, none⟩) (by simp <;> omega) (.int .i64 0)).setCell (p := ⟨w.heap.size + 1 + 1 + 1 + 1, 4, none⟩) (by simp <;> omega) (.int .i64 0)).setCell (p := ⟨w.heap.size + 1 + 1 + 1 + 1, 5, none⟩) (by simp <;> omega) (.int .i64 0))
  generalize ((((((w2.setCell ⟨w.heap.size + 1 + 1 + 1 + 1, 0, none⟩ (.int .i64 0)).setCell ⟨w.heap.size + 1 + 1 + 1 + 1, 1, none⟩ (.int .i64 0)).setCell ⟨w.heap.size + 1 + 1 + 1 + 1, 2, none⟩ (.int .i64 0)).setCell ⟨w.heap.size + 1 + 1 + 1 + 1, 3, none⟩ (.int .i64 0)).setCell ⟨w.heap.size + 1 + 1 + 1 + 1, 4, none⟩ (.int .i64 0)).setCell ⟨w.heap.size + 1 + 1 + 1 + 1, 5, none⟩ (.int .i64 0)) = W at hY hB ⊢
  obtain ⟨y0, y1, y2, y3, y4, y5⟩ := hY.c6
  refine bodyPost_ret (v := .tuple #[.agg #[.int .i64 0, .int .i64 0, .int .i64 0, .int .i64 0, .int .i64 0, .int .i64 0], .int .i64 0, .int .i64 310]) (by simp [results, Try.results28, go_sem, y0, y1, y2, y3, y4, y5]) rfl ?_
  exact ⟨rfl, hB⟩
theorem next_has (p : Pl) (code : List Ln) (V : Value) (s : St) (x : Sh) (w : World) (hC : Hid (CodeAt w w.heap.size V code)) (h : Hid (p.checkT = 0)) (hg : Hid (gateT code = 0)) (hp : Hid (0 ≤ p.pipe ∧ p.pipe ≤ 2)) (hh : Hid (p.hasB s = false)) :
    Calls Try.prog 28 #[p.v, .agg #[V], s.v, x.v] w fun e w' => e = .returned (.tuple #[.agg #[.int .i64 0, .int .i64 0, .int .i64 0, .int .i64 0, .int .i64 0, .int .i64 0], .int .i64 0, .int .i64 320]) ∧ Below w.heap.size w w' := by
  go_enter Try.func28, Try.ntmps28
  go_wp2_with fail
  refine (check_at h _).mono ?_
  rintro e w1 ⟨rfl, hb⟩
  have X0 := ((((((Box.newAt (n := w.heap.size) [.int .i64 p.top, .int .i64 p.bank, .int .i64 p.siphon, .int .i64 p.start, .int .i64 p.positions, .int .i64 p.rate, .int .i64 p.step, .int .i64 p.pass, .int .i64 p.feed, .int .i64 p.pipe, .int .i64 p.orders, .int .i64 p.age] 23 (by simp)).alloc _).alloc _).alloc _).alloc _)).later hb
  have X1 := (((((Box.newAt (n := w.heap.size + 1) [V] 26 (by simp)).alloc _).alloc _).alloc _)).later hb
  have X2 := ((((Box.newAt (n := w.heap.size + 1 + 1) [.int .i64 s.level, .int .i64 s.position, .int .i64 s.p0, .int .i64 s.p1, .int .i64 s.order, .int .i64 s.age] 30 (by simp)).alloc _).alloc _)).later hb
  have X3 := (((Box.newAt (n := w.heap.size + 1 + 1 + 1) [.int .i64 x.feed, .int .i64 x.msg] 37 (by simp)).alloc _)).later hb
  have X4 := ((Box.newAt (n := w.heap.size + 1 + 1 + 1 + 1) [.int .i64 0, .int .i64 0, .int .i64 0, .int .i64 0, .int .i64 0, .int .i64 0] 30 (by simp))).later hb
  have hB : Below w.heap.size w w1 := (((((((Below.refl w.heap.size w).alloc (by simp <;> omega) _).alloc (by simp <;> omega) _).alloc (by simp <;> omega) _).alloc (by simp <;> omega) _).alloc (by simp <;> omega) _)).trans (hb.mono (by simp <;> omega))
  clear hb
  have X1c0 : w1.cell? ⟨w.heap.size + 1, 0, none⟩ = some (V) := X1.cell 0
  have X1f0 : w1.frozen? ⟨w.heap.size + 1, 0, none⟩ = false := X1.free 0
  have X1z : w.heap.size + 1 < w1.heap.size := X1.lt
  go_wp2_with fail
  refine (gcheck_at hg ((hC.out.below hB).more hB.size)).mono ?_
  rintro e w2 ⟨rfl, hb⟩
  clear X1c0 X1f0 X1z
  have X0 := X0.later hb
  have X1 := X1.later hb
  have X2 := X2.later hb
  have X3 := X3.later hb
  have X4 := X4.later hb
  have hB := hB.trans (hb.mono hB.size)
  clear hb
  obtain ⟨X0c0, X0f0, X0c1, X0f1, X0c2, X0f2, X0c3, X0f3, X0c4, X0f4, X0c5, X0f5, X0c6, X0f6, X0c7, X0f7, X0c8, X0f8, X0c9, X0f9, X0c10, X0f10, X0c11, X0f11⟩ := X0.f12
  have X0z : w.heap.size < w2.heap.size := X0.lt
  obtain ⟨X2c0, X2f0, X2c1, X2f1, X2c2, X2f2, X2c3, X2f3, X2c4, X2f4, X2c5, X2f5⟩ := X2.f6
  have X2z : w.heap.size + 1 + 1 < w2.heap.size := X2.lt
  go_wp2_with fail
  refine (belongs_at hp.out hh _).mono ?_
  rintro e w3 ⟨rfl, hb⟩
  clear X0c0 X0f0 X0c1 X0f1 X0c2 X0f2 X0c3 X0f3 X0c4 X0f4 X0c5 X0f5 X0c6 X0f6 X0c7 X0f7 X0c8 X0f8 X0c9 X0f9 X0c10 X0f10 X0c11 X0f11 X0z X2c0 X2f0 X2c1 X2f1 X2c2 X2f2 X2c3 X2f3 X2c4 X2f4 X2c5 X2f5 X2z
  have X0 := X0.later hb
  have X1 := X1.later hb
  have X2 := X2.later hb
  have X3 := X3.later hb
  have X4 := X4.later hb
  have hB := hB.trans (hb.mono hB.size)
  clear hb
  obtain ⟨X0c0, X0f0, X0c1, X0f1, X0c2, X0f2, X0c3, X0f3, X0c4, X0f4, X0c5, X0f5, X0c6, X0f6, X0c7, X0f7, X0c8, X0f8, X0c9, X0f9, X0c10, X0f10, X0c11, X0f11⟩ := X0.f12
  have X0z : w.heap.size < w3.heap.size := X0.lt
  obtain ⟨X3c0, X3f0, X3c1, X3f1⟩ := X3.f2
  have X3z : w.heap.size + 1 + 1 + 1 < w3.heap.size := X3.lt
  obtain ⟨X4c0, X4f0, X4c1, X4f1, X4c2, X4f2, X4c3, X4f3, X4c4, X4f4, X4c5, X4f5⟩ := X4.f6
  have X4z : w.heap.size + 1 + 1 + 1 + 1 < w3.heap.size := X4.lt
  go_wp2
  have hY := ((((((X4.set 0 (.int .i64 0)).set 1 (.int .i64 0)).set 2 (.int .i64 0)).set 3 (.int .i64 0)).set 4 (.int .i64 0)).set 5 (.int .i64 0))
  have hB := ((((((hB.setCell (p := ⟨w.heap.size + 1 + 1 + 1 + 1, 0, none⟩) (by simp <;> omega) (.int .i64 0)).setCell (p := ⟨w.heap.size + 1 + 1 + 1 + 1, 1, none⟩) (by simp <;> omega) (.int .i64 0)).setCell (p := ⟨w.heap.size + 1 + 1 + 1 + 1, 2, none⟩) (by simp <;> omega) (.int .i64 0)).setCell (p := ⟨w.heap.size + 1 + 1 + 1 + 1, 3, none⟩) (by simp <;> omega) (.int .i64 0)).setCell (p := ⟨w.heap.size + 1 + 1 + 1 + 1, 4, none⟩) (by simp <;> omega) (.int .i64 0)).setCell (p := ⟨w.heap.size + 1 + 1 + 1 + 1, 5, none⟩) (by simp <;> omega) (.int .i64 0))
  generalize ((((((w3.setCell ⟨w.heap.size + 1 + 1 + 1 + 1, 0, none⟩ (.int .i64 0)).setCell ⟨w.heap.size + 1 + 1 + 1 + 1, 1, none⟩ (.int .i64 0)).setCell ⟨w.heap.size + 1 + 1 + 1 + 1, 2, none⟩ (.int .i64 0)).setCell ⟨w.heap.size + 1 + 1 + 1 + 1, 3, none⟩ (.int .i64 0)).setCell ⟨w.heap.size + 1 + 1 + 1 + 1, 4, none⟩ (.int .i64 0)).setCell ⟨w.heap.size + 1 + 1 + 1 + 1, 5, none⟩ (.int .i64 0)) = W at hY hB ⊢
  obtain ⟨y0, y1, y2, y3, y4, y5⟩ := hY.c6
  refine bodyPost_ret (v := .tuple #[.agg #[.int .i64 0, .int .i64 0, .int .i64 0, .int .i64 0, .int .i64 0, .int .i64 0], .int .i64 0, .int .i64 320]) (by simp [results, Try.results28, go_sem, y0, y1, y2, y3, y4, y5]) rfl ?_
  exact ⟨rfl, hB⟩
theorem next_chosen0 (p : Pl) (code : List Ln) (V : Value) (s : St) (x : Sh) (w : World) (hC : Hid (CodeAt w w.heap.size V code)) (h : Hid (p.checkT = 0)) (hg : Hid (gateT code = 0)) (hp : Hid (0 ≤ p.pipe ∧ p.pipe ≤ 2)) (hh : Hid (p.hasB s = true)) (_k1 : x.feed < 0) :
    Calls Try.prog 28 #[p.v, .agg #[V], s.v, x.v] w fun e w' => e = .returned (.tuple #[.agg #[.int .i64 0, .int .i64 0, .int .i64 0, .int .i64 0, .int .i64 0, .int .i64 0], .int .i64 0, .int .i64 1]) ∧ Below w.heap.size w w' := by
  go_enter Try.func28, Try.ntmps28
  go_wp2_with fail
  refine (check_at h _).mono ?_
  rintro e w1 ⟨rfl, hb⟩
  have X0 := ((((((Box.newAt (n := w.heap.size) [.int .i64 p.top, .int .i64 p.bank, .int .i64 p.siphon, .int .i64 p.start, .int .i64 p.positions, .int .i64 p.rate, .int .i64 p.step, .int .i64 p.pass, .int .i64 p.feed, .int .i64 p.pipe, .int .i64 p.orders, .int .i64 p.age] 23 (by simp)).alloc _).alloc _).alloc _).alloc _)).later hb
  have X1 := (((((Box.newAt (n := w.heap.size + 1) [V] 26 (by simp)).alloc _).alloc _).alloc _)).later hb
  have X2 := ((((Box.newAt (n := w.heap.size + 1 + 1) [.int .i64 s.level, .int .i64 s.position, .int .i64 s.p0, .int .i64 s.p1, .int .i64 s.order, .int .i64 s.age] 30 (by simp)).alloc _).alloc _)).later hb
  have X3 := (((Box.newAt (n := w.heap.size + 1 + 1 + 1) [.int .i64 x.feed, .int .i64 x.msg] 37 (by simp)).alloc _)).later hb
  have X4 := ((Box.newAt (n := w.heap.size + 1 + 1 + 1 + 1) [.int .i64 0, .int .i64 0, .int .i64 0, .int .i64 0, .int .i64 0, .int .i64 0] 30 (by simp))).later hb
  have hB : Below w.heap.size w w1 := (((((((Below.refl w.heap.size w).alloc (by simp <;> omega) _).alloc (by simp <;> omega) _).alloc (by simp <;> omega) _).alloc (by simp <;> omega) _).alloc (by simp <;> omega) _)).trans (hb.mono (by simp <;> omega))
  clear hb
  have X1c0 : w1.cell? ⟨w.heap.size + 1, 0, none⟩ = some (V) := X1.cell 0
  have X1f0 : w1.frozen? ⟨w.heap.size + 1, 0, none⟩ = false := X1.free 0
  have X1z : w.heap.size + 1 < w1.heap.size := X1.lt
  go_wp2_with fail
  refine (gcheck_at hg ((hC.out.below hB).more hB.size)).mono ?_
  rintro e w2 ⟨rfl, hb⟩
  clear X1c0 X1f0 X1z
  have X0 := X0.later hb
  have X1 := X1.later hb
  have X2 := X2.later hb
  have X3 := X3.later hb
  have X4 := X4.later hb
  have hB := hB.trans (hb.mono hB.size)
  clear hb
  obtain ⟨X0c0, X0f0, X0c1, X0f1, X0c2, X0f2, X0c3, X0f3, X0c4, X0f4, X0c5, X0f5, X0c6, X0f6, X0c7, X0f7, X0c8, X0f8, X0c9, X0f9, X0c10, X0f10, X0c11, X0f11⟩ := X0.f12
  have X0z : w.heap.size < w2.heap.size := X0.lt
  obtain ⟨X2c0, X2f0, X2c1, X2f1, X2c2, X2f2, X2c3, X2f3, X2c4, X2f4, X2c5, X2f5⟩ := X2.f6
  have X2z : w.heap.size + 1 + 1 < w2.heap.size := X2.lt
  go_wp2_with fail
  refine (belongs_at hp.out hh _).mono ?_
  rintro e w3 ⟨rfl, hb⟩
  clear X0c0 X0f0 X0c1 X0f1 X0c2 X0f2 X0c3 X0f3 X0c4 X0f4 X0c5 X0f5 X0c6 X0f6 X0c7 X0f7 X0c8 X0f8 X0c9 X0f9 X0c10 X0f10 X0c11 X0f11 X0z X2c0 X2f0 X2c1 X2f1 X2c2 X2f2 X2c3 X2f3 X2c4 X2f4 X2c5 X2f5 X2z
  have X0 := X0.later hb
  have X1 := X1.later hb
  have X2 := X2.later hb
  have X3 := X3.later hb
  have X4 := X4.later hb
  have hB := hB.trans (hb.mono hB.size)
  clear hb
  obtain ⟨X0c0, X0f0, X0c1, X0f1, X0c2, X0f2, X0c3, X0f3, X0c4, X0f4, X0c5, X0f5, X0c6, X0f6, X0c7, X0f7, X0c8, X0f8, X0c9, X0f9, X0c10, X0f10, X0c11, X0f11⟩ := X0.f12
  have X0z : w.heap.size < w3.heap.size := X0.lt
  obtain ⟨X3c0, X3f0, X3c1, X3f1⟩ := X3.f2
  have X3z : w.heap.size + 1 + 1 + 1 < w3.heap.size := X3.lt
  obtain ⟨X4c0, X4f0, X4c1, X4f1, X4c2, X4f2, X4c3, X4f3, X4c4, X4f4, X4c5, X4f5⟩ := X4.f6
  have X4z : w.heap.size + 1 + 1 + 1 + 1 < w3.heap.size := X4.lt
  go_wp2
  have hY := ((((((X4.set 0 (.int .i64 0)).set 1 (.int .i64 0)).set 2 (.int .i64 0)).set 3 (.int .i64 0)).set 4 (.int .i64 0)).set 5 (.int .i64 0))
  have hB := ((((((hB.setCell (p := ⟨w.heap.size + 1 + 1 + 1 + 1, 0, none⟩) (by simp <;> omega) (.int .i64 0)).setCell (p := ⟨w.heap.size + 1 + 1 + 1 + 1, 1, none⟩) (by simp <;> omega) (.int .i64 0)).setCell (p := ⟨w.heap.size + 1 + 1 + 1 + 1, 2, none⟩) (by simp <;> omega) (.int .i64 0)).setCell (p := ⟨w.heap.size + 1 + 1 + 1 + 1, 3, none⟩) (by simp <;> omega) (.int .i64 0)).setCell (p := ⟨w.heap.size + 1 + 1 + 1 + 1, 4, none⟩) (by simp <;> omega) (.int .i64 0)).setCell (p := ⟨w.heap.size + 1 + 1 + 1 + 1, 5, none⟩) (by simp <;> omega) (.int .i64 0))
  generalize ((((((w3.setCell ⟨w.heap.size + 1 + 1 + 1 + 1, 0, none⟩ (.int .i64 0)).setCell ⟨w.heap.size + 1 + 1 + 1 + 1, 1, none⟩ (.int .i64 0)).setCell ⟨w.heap.size + 1 + 1 + 1 + 1, 2, none⟩ (.int .i64 0)).setCell ⟨w.heap.size + 1 + 1 + 1 + 1, 3, none⟩ (.int .i64 0)).setCell ⟨w.heap.size + 1 + 1 + 1 + 1, 4, none⟩ (.int .i64 0)).setCell ⟨w.heap.size + 1 + 1 + 1 + 1, 5, none⟩ (.int .i64 0)) = W at hY hB ⊢
  obtain ⟨y0, y1, y2, y3, y4, y5⟩ := hY.c6
  refine bodyPost_ret (v := .tuple #[.agg #[.int .i64 0, .int .i64 0, .int .i64 0, .int .i64 0, .int .i64 0, .int .i64 0], .int .i64 0, .int .i64 1]) (by simp [results, Try.results28, go_sem, y0, y1, y2, y3, y4, y5]) rfl ?_
  exact ⟨rfl, hB⟩
theorem next_chosen1 (p : Pl) (code : List Ln) (V : Value) (s : St) (x : Sh) (w : World) (hC : Hid (CodeAt w w.heap.size V code)) (h : Hid (p.checkT = 0)) (hg : Hid (gateT code = 0)) (hp : Hid (0 ≤ p.pipe ∧ p.pipe ≤ 2)) (hh : Hid (p.hasB s = true)) (_k1 : 0 ≤ x.feed) (_k2 : p.feed < x.feed) :
    Calls Try.prog 28 #[p.v, .agg #[V], s.v, x.v] w fun e w' => e = .returned (.tuple #[.agg #[.int .i64 0, .int .i64 0, .int .i64 0, .int .i64 0, .int .i64 0, .int .i64 0], .int .i64 0, .int .i64 1]) ∧ Below w.heap.size w w' := by
  go_enter Try.func28, Try.ntmps28
  go_wp2_with fail
  refine (check_at h _).mono ?_
  rintro e w1 ⟨rfl, hb⟩
  have X0 := ((((((Box.newAt (n := w.heap.size) [.int .i64 p.top, .int .i64 p.bank, .int .i64 p.siphon, .int .i64 p.start, .int .i64 p.positions, .int .i64 p.rate, .int .i64 p.step, .int .i64 p.pass, .int .i64 p.feed, .int .i64 p.pipe, .int .i64 p.orders, .int .i64 p.age] 23 (by simp)).alloc _).alloc _).alloc _).alloc _)).later hb
  have X1 := (((((Box.newAt (n := w.heap.size + 1) [V] 26 (by simp)).alloc _).alloc _).alloc _)).later hb
  have X2 := ((((Box.newAt (n := w.heap.size + 1 + 1) [.int .i64 s.level, .int .i64 s.position, .int .i64 s.p0, .int .i64 s.p1, .int .i64 s.order, .int .i64 s.age] 30 (by simp)).alloc _).alloc _)).later hb
  have X3 := (((Box.newAt (n := w.heap.size + 1 + 1 + 1) [.int .i64 x.feed, .int .i64 x.msg] 37 (by simp)).alloc _)).later hb
  have X4 := ((Box.newAt (n := w.heap.size + 1 + 1 + 1 + 1) [.int .i64 0, .int .i64 0, .int .i64 0, .int .i64 0, .int .i64 0, .int .i64 0] 30 (by simp))).later hb
  have hB : Below w.heap.size w w1 := (((((((Below.refl w.heap.size w).alloc (by simp <;> omega) _).alloc (by simp <;> omega) _).alloc (by simp <;> omega) _).alloc (by simp <;> omega) _).alloc (by simp <;> omega) _)).trans (hb.mono (by simp <;> omega))
  clear hb
  have X1c0 : w1.cell? ⟨w.heap.size + 1, 0, none⟩ = some (V) := X1.cell 0
  have X1f0 : w1.frozen? ⟨w.heap.size + 1, 0, none⟩ = false := X1.free 0
  have X1z : w.heap.size + 1 < w1.heap.size := X1.lt
  go_wp2_with fail
  refine (gcheck_at hg ((hC.out.below hB).more hB.size)).mono ?_
  rintro e w2 ⟨rfl, hb⟩
  clear X1c0 X1f0 X1z
  have X0 := X0.later hb
  have X1 := X1.later hb
  have X2 := X2.later hb
  have X3 := X3.later hb
  have X4 := X4.later hb
  have hB := hB.trans (hb.mono hB.size)
  clear hb
  obtain ⟨X0c0, X0f0, X0c1, X0f1, X0c2, X0f2, X0c3, X0f3, X0c4, X0f4, X0c5, X0f5, X0c6, X0f6, X0c7, X0f7, X0c8, X0f8, X0c9, X0f9, X0c10, X0f10, X0c11, X0f11⟩ := X0.f12
  have X0z : w.heap.size < w2.heap.size := X0.lt
  obtain ⟨X2c0, X2f0, X2c1, X2f1, X2c2, X2f2, X2c3, X2f3, X2c4, X2f4, X2c5, X2f5⟩ := X2.f6
  have X2z : w.heap.size + 1 + 1 < w2.heap.size := X2.lt
  go_wp2_with fail
  refine (belongs_at hp.out hh _).mono ?_
  rintro e w3 ⟨rfl, hb⟩
  clear X0c0 X0f0 X0c1 X0f1 X0c2 X0f2 X0c3 X0f3 X0c4 X0f4 X0c5 X0f5 X0c6 X0f6 X0c7 X0f7 X0c8 X0f8 X0c9 X0f9 X0c10 X0f10 X0c11 X0f11 X0z X2c0 X2f0 X2c1 X2f1 X2c2 X2f2 X2c3 X2f3 X2c4 X2f4 X2c5 X2f5 X2z
  have X0 := X0.later hb
  have X1 := X1.later hb
  have X2 := X2.later hb
  have X3 := X3.later hb
  have X4 := X4.later hb
  have hB := hB.trans (hb.mono hB.size)
  clear hb
  obtain ⟨X0c0, X0f0, X0c1, X0f1, X0c2, X0f2, X0c3, X0f3, X0c4, X0f4, X0c5, X0f5, X0c6, X0f6, X0c7, X0f7, X0c8, X0f8, X0c9, X0f9, X0c10, X0f10, X0c11, X0f11⟩ := X0.f12
  have X0z : w.heap.size < w3.heap.size := X0.lt
  obtain ⟨X3c0, X3f0, X3c1, X3f1⟩ := X3.f2
  have X3z : w.heap.size + 1 + 1 + 1 < w3.heap.size := X3.lt
  obtain ⟨X4c0, X4f0, X4c1, X4f1, X4c2, X4f2, X4c3, X4f3, X4c4, X4f4, X4c5, X4f5⟩ := X4.f6
  have X4z : w.heap.size + 1 + 1 + 1 + 1 < w3.heap.size := X4.lt
  go_wp2
  have hY := ((((((X4.set 0 (.int .i64 0)).set 1 (.int .i64 0)).set 2 (.int .i64 0)).set 3 (.int .i64 0)).set 4 (.int .i64 0)).set 5 (.int .i64 0))
  have hB := ((((((hB.setCell (p := ⟨w.heap.size + 1 + 1 + 1 + 1, 0, none⟩) (by simp <;> omega) (.int .i64 0)).setCell (p := ⟨w.heap.size + 1 + 1 + 1 + 1, 1, none⟩) (by simp <;> omega) (.int .i64 0)).setCell (p := ⟨w.heap.size + 1 + 1 + 1 + 1, 2, none⟩) (by simp <;> omega) (.int .i64 0)).setCell (p := ⟨w.heap.size + 1 + 1 + 1 + 1, 3, none⟩) (by simp <;> omega) (.int .i64 0)).setCell (p := ⟨w.heap.size + 1 + 1 + 1 + 1, 4, none⟩) (by simp <;> omega) (.int .i64 0)).setCell (p := ⟨w.heap.size + 1 + 1 + 1 + 1, 5, none⟩) (by simp <;> omega) (.int .i64 0))
  generalize ((((((w3.setCell ⟨w.heap.size + 1 + 1 + 1 + 1, 0, none⟩ (.int .i64 0)).setCell ⟨w.heap.size + 1 + 1 + 1 + 1, 1, none⟩ (.int .i64 0)).setCell ⟨w.heap.size + 1 + 1 + 1 + 1, 2, none⟩ (.int .i64 0)).setCell ⟨w.heap.size + 1 + 1 + 1 + 1, 3, none⟩ (.int .i64 0)).setCell ⟨w.heap.size + 1 + 1 + 1 + 1, 4, none⟩ (.int .i64 0)).setCell ⟨w.heap.size + 1 + 1 + 1 + 1, 5, none⟩ (.int .i64 0)) = W at hY hB ⊢
  obtain ⟨y0, y1, y2, y3, y4, y5⟩ := hY.c6
  refine bodyPost_ret (v := .tuple #[.agg #[.int .i64 0, .int .i64 0, .int .i64 0, .int .i64 0, .int .i64 0, .int .i64 0], .int .i64 0, .int .i64 1]) (by simp [results, Try.results28, go_sem, y0, y1, y2, y3, y4, y5]) rfl ?_
  exact ⟨rfl, hB⟩
theorem next_chosen2 (p : Pl) (code : List Ln) (V : Value) (s : St) (x : Sh) (w : World) (hC : Hid (CodeAt w w.heap.size V code)) (h : Hid (p.checkT = 0)) (hg : Hid (gateT code = 0)) (hp : Hid (0 ≤ p.pipe ∧ p.pipe ≤ 2)) (hh : Hid (p.hasB s = true)) (_k1 : 0 ≤ x.feed) (_k2 : x.feed ≤ p.feed) (_k3 : x.msg < -1) :
    Calls Try.prog 28 #[p.v, .agg #[V], s.v, x.v] w fun e w' => e = .returned (.tuple #[.agg #[.int .i64 0, .int .i64 0, .int .i64 0, .int .i64 0, .int .i64 0, .int .i64 0], .int .i64 0, .int .i64 1]) ∧ Below w.heap.size w w' := by
  go_enter Try.func28, Try.ntmps28
  go_wp2_with fail
  refine (check_at h _).mono ?_
  rintro e w1 ⟨rfl, hb⟩
  have X0 := ((((((Box.newAt (n := w.heap.size) [.int .i64 p.top, .int .i64 p.bank, .int .i64 p.siphon, .int .i64 p.start, .int .i64 p.positions, .int .i64 p.rate, .int .i64 p.step, .int .i64 p.pass, .int .i64 p.feed, .int .i64 p.pipe, .int .i64 p.orders, .int .i64 p.age] 23 (by simp)).alloc _).alloc _).alloc _).alloc _)).later hb
  have X1 := (((((Box.newAt (n := w.heap.size + 1) [V] 26 (by simp)).alloc _).alloc _).alloc _)).later hb
  have X2 := ((((Box.newAt (n := w.heap.size + 1 + 1) [.int .i64 s.level, .int .i64 s.position, .int .i64 s.p0, .int .i64 s.p1, .int .i64 s.order, .int .i64 s.age] 30 (by simp)).alloc _).alloc _)).later hb
  have X3 := (((Box.newAt (n := w.heap.size + 1 + 1 + 1) [.int .i64 x.feed, .int .i64 x.msg] 37 (by simp)).alloc _)).later hb
  have X4 := ((Box.newAt (n := w.heap.size + 1 + 1 + 1 + 1) [.int .i64 0, .int .i64 0, .int .i64 0, .int .i64 0, .int .i64 0, .int .i64 0] 30 (by simp))).later hb
  have hB : Below w.heap.size w w1 := (((((((Below.refl w.heap.size w).alloc (by simp <;> omega) _).alloc (by simp <;> omega) _).alloc (by simp <;> omega) _).alloc (by simp <;> omega) _).alloc (by simp <;> omega) _)).trans (hb.mono (by simp <;> omega))
  clear hb
  have X1c0 : w1.cell? ⟨w.heap.size + 1, 0, none⟩ = some (V) := X1.cell 0
  have X1f0 : w1.frozen? ⟨w.heap.size + 1, 0, none⟩ = false := X1.free 0
  have X1z : w.heap.size + 1 < w1.heap.size := X1.lt
  go_wp2_with fail
  refine (gcheck_at hg ((hC.out.below hB).more hB.size)).mono ?_
  rintro e w2 ⟨rfl, hb⟩
  clear X1c0 X1f0 X1z
  have X0 := X0.later hb
  have X1 := X1.later hb
  have X2 := X2.later hb
  have X3 := X3.later hb
  have X4 := X4.later hb
  have hB := hB.trans (hb.mono hB.size)
  clear hb
  obtain ⟨X0c0, X0f0, X0c1, X0f1, X0c2, X0f2, X0c3, X0f3, X0c4, X0f4, X0c5, X0f5, X0c6, X0f6, X0c7, X0f7, X0c8, X0f8, X0c9, X0f9, X0c10, X0f10, X0c11, X0f11⟩ := X0.f12
  have X0z : w.heap.size < w2.heap.size := X0.lt
  obtain ⟨X2c0, X2f0, X2c1, X2f1, X2c2, X2f2, X2c3, X2f3, X2c4, X2f4, X2c5, X2f5⟩ := X2.f6
  have X2z : w.heap.size + 1 + 1 < w2.heap.size := X2.lt
  go_wp2_with fail
  refine (belongs_at hp.out hh _).mono ?_
  rintro e w3 ⟨rfl, hb⟩
  clear X0c0 X0f0 X0c1 X0f1 X0c2 X0f2 X0c3 X0f3 X0c4 X0f4 X0c5 X0f5 X0c6 X0f6 X0c7 X0f7 X0c8 X0f8 X0c9 X0f9 X0c10 X0f10 X0c11 X0f11 X0z X2c0 X2f0 X2c1 X2f1 X2c2 X2f2 X2c3 X2f3 X2c4 X2f4 X2c5 X2f5 X2z
  have X0 := X0.later hb
  have X1 := X1.later hb
  have X2 := X2.later hb
  have X3 := X3.later hb
  have X4 := X4.later hb
  have hB := hB.trans (hb.mono hB.size)
  clear hb
  obtain ⟨X0c0, X0f0, X0c1, X0f1, X0c2, X0f2, X0c3, X0f3, X0c4, X0f4, X0c5, X0f5, X0c6, X0f6, X0c7, X0f7, X0c8, X0f8, X0c9, X0f9, X0c10, X0f10, X0c11, X0f11⟩ := X0.f12
  have X0z : w.heap.size < w3.heap.size := X0.lt
  obtain ⟨X3c0, X3f0, X3c1, X3f1⟩ := X3.f2
  have X3z : w.heap.size + 1 + 1 + 1 < w3.heap.size := X3.lt
  obtain ⟨X4c0, X4f0, X4c1, X4f1, X4c2, X4f2, X4c3, X4f3, X4c4, X4f4, X4c5, X4f5⟩ := X4.f6
  have X4z : w.heap.size + 1 + 1 + 1 + 1 < w3.heap.size := X4.lt
  go_wp2
  have hY := ((((((X4.set 0 (.int .i64 0)).set 1 (.int .i64 0)).set 2 (.int .i64 0)).set 3 (.int .i64 0)).set 4 (.int .i64 0)).set 5 (.int .i64 0))
  have hB := ((((((hB.setCell (p := ⟨w.heap.size + 1 + 1 + 1 + 1, 0, none⟩) (by simp <;> omega) (.int .i64 0)).setCell (p := ⟨w.heap.size + 1 + 1 + 1 + 1, 1, none⟩) (by simp <;> omega) (.int .i64 0)).setCell (p := ⟨w.heap.size + 1 + 1 + 1 + 1, 2, none⟩) (by simp <;> omega) (.int .i64 0)).setCell (p := ⟨w.heap.size + 1 + 1 + 1 + 1, 3, none⟩) (by simp <;> omega) (.int .i64 0)).setCell (p := ⟨w.heap.size + 1 + 1 + 1 + 1, 4, none⟩) (by simp <;> omega) (.int .i64 0)).setCell (p := ⟨w.heap.size + 1 + 1 + 1 + 1, 5, none⟩) (by simp <;> omega) (.int .i64 0))
  generalize ((((((w3.setCell ⟨w.heap.size + 1 + 1 + 1 + 1, 0, none⟩ (.int .i64 0)).setCell ⟨w.heap.size + 1 + 1 + 1 + 1, 1, none⟩ (.int .i64 0)).setCell ⟨w.heap.size + 1 + 1 + 1 + 1, 2, none⟩ (.int .i64 0)).setCell ⟨w.heap.size + 1 + 1 + 1 + 1, 3, none⟩ (.int .i64 0)).setCell ⟨w.heap.size + 1 + 1 + 1 + 1, 4, none⟩ (.int .i64 0)).setCell ⟨w.heap.size + 1 + 1 + 1 + 1, 5, none⟩ (.int .i64 0)) = W at hY hB ⊢
  obtain ⟨y0, y1, y2, y3, y4, y5⟩ := hY.c6
  refine bodyPost_ret (v := .tuple #[.agg #[.int .i64 0, .int .i64 0, .int .i64 0, .int .i64 0, .int .i64 0, .int .i64 0], .int .i64 0, .int .i64 1]) (by simp [results, Try.results28, go_sem, y0, y1, y2, y3, y4, y5]) rfl ?_
  exact ⟨rfl, hB⟩
theorem next_chosen3 (p : Pl) (code : List Ln) (V : Value) (s : St) (x : Sh) (w : World) (hC : Hid (CodeAt w w.heap.size V code)) (h : Hid (p.checkT = 0)) (hg : Hid (gateT code = 0)) (hp : Hid (0 ≤ p.pipe ∧ p.pipe ≤ 2)) (hh : Hid (p.hasB s = true)) (_k1 : 0 ≤ x.feed) (_k2 : x.feed ≤ p.feed) (_k3 : -1 ≤ x.msg) (_k4 : p.orders < x.msg) :
    Calls Try.prog 28 #[p.v, .agg #[V], s.v, x.v] w fun e w' => e = .returned (.tuple #[.agg #[.int .i64 0, .int .i64 0, .int .i64 0, .int .i64 0, .int .i64 0, .int .i64 0], .int .i64 0, .int .i64 1]) ∧ Below w.heap.size w w' := by
  go_enter Try.func28, Try.ntmps28
  go_wp2_with fail
  refine (check_at h _).mono ?_
  rintro e w1 ⟨rfl, hb⟩
  have X0 := ((((((Box.newAt (n := w.heap.size) [.int .i64 p.top, .int .i64 p.bank, .int .i64 p.siphon, .int .i64 p.start, .int .i64 p.positions, .int .i64 p.rate, .int .i64 p.step, .int .i64 p.pass, .int .i64 p.feed, .int .i64 p.pipe, .int .i64 p.orders, .int .i64 p.age] 23 (by simp)).alloc _).alloc _).alloc _).alloc _)).later hb
  have X1 := (((((Box.newAt (n := w.heap.size + 1) [V] 26 (by simp)).alloc _).alloc _).alloc _)).later hb
  have X2 := ((((Box.newAt (n := w.heap.size + 1 + 1) [.int .i64 s.level, .int .i64 s.position, .int .i64 s.p0, .int .i64 s.p1, .int .i64 s.order, .int .i64 s.age] 30 (by simp)).alloc _).alloc _)).later hb
  have X3 := (((Box.newAt (n := w.heap.size + 1 + 1 + 1) [.int .i64 x.feed, .int .i64 x.msg] 37 (by simp)).alloc _)).later hb
  have X4 := ((Box.newAt (n := w.heap.size + 1 + 1 + 1 + 1) [.int .i64 0, .int .i64 0, .int .i64 0, .int .i64 0, .int .i64 0, .int .i64 0] 30 (by simp))).later hb
  have hB : Below w.heap.size w w1 := (((((((Below.refl w.heap.size w).alloc (by simp <;> omega) _).alloc (by simp <;> omega) _).alloc (by simp <;> omega) _).alloc (by simp <;> omega) _).alloc (by simp <;> omega) _)).trans (hb.mono (by simp <;> omega))
  clear hb
  have X1c0 : w1.cell? ⟨w.heap.size + 1, 0, none⟩ = some (V) := X1.cell 0
  have X1f0 : w1.frozen? ⟨w.heap.size + 1, 0, none⟩ = false := X1.free 0
  have X1z : w.heap.size + 1 < w1.heap.size := X1.lt
  go_wp2_with fail
  refine (gcheck_at hg ((hC.out.below hB).more hB.size)).mono ?_
  rintro e w2 ⟨rfl, hb⟩
  clear X1c0 X1f0 X1z
  have X0 := X0.later hb
  have X1 := X1.later hb
  have X2 := X2.later hb
  have X3 := X3.later hb
  have X4 := X4.later hb
  have hB := hB.trans (hb.mono hB.size)
  clear hb
  obtain ⟨X0c0, X0f0, X0c1, X0f1, X0c2, X0f2, X0c3, X0f3, X0c4, X0f4, X0c5, X0f5, X0c6, X0f6, X0c7, X0f7, X0c8, X0f8, X0c9, X0f9, X0c10, X0f10, X0c11, X0f11⟩ := X0.f12
  have X0z : w.heap.size < w2.heap.size := X0.lt
  obtain ⟨X2c0, X2f0, X2c1, X2f1, X2c2, X2f2, X2c3, X2f3, X2c4, X2f4, X2c5, X2f5⟩ := X2.f6
  have X2z : w.heap.size + 1 + 1 < w2.heap.size := X2.lt
  go_wp2_with fail
  refine (belongs_at hp.out hh _).mono ?_
  rintro e w3 ⟨rfl, hb⟩
  clear X0c0 X0f0 X0c1 X0f1 X0c2 X0f2 X0c3 X0f3 X0c4 X0f4 X0c5 X0f5 X0c6 X0f6 X0c7 X0f7 X0c8 X0f8 X0c9 X0f9 X0c10 X0f10 X0c11 X0f11 X0z X2c0 X2f0 X2c1 X2f1 X2c2 X2f2 X2c3 X2f3 X2c4 X2f4 X2c5 X2f5 X2z
  have X0 := X0.later hb
  have X1 := X1.later hb
  have X2 := X2.later hb
  have X3 := X3.later hb
  have X4 := X4.later hb
  have hB := hB.trans (hb.mono hB.size)
  clear hb
  obtain ⟨X0c0, X0f0, X0c1, X0f1, X0c2, X0f2, X0c3, X0f3, X0c4, X0f4, X0c5, X0f5, X0c6, X0f6, X0c7, X0f7, X0c8, X0f8, X0c9, X0f9, X0c10, X0f10, X0c11, X0f11⟩ := X0.f12
  have X0z : w.heap.size < w3.heap.size := X0.lt
  obtain ⟨X3c0, X3f0, X3c1, X3f1⟩ := X3.f2
  have X3z : w.heap.size + 1 + 1 + 1 < w3.heap.size := X3.lt
  obtain ⟨X4c0, X4f0, X4c1, X4f1, X4c2, X4f2, X4c3, X4f3, X4c4, X4f4, X4c5, X4f5⟩ := X4.f6
  have X4z : w.heap.size + 1 + 1 + 1 + 1 < w3.heap.size := X4.lt
  go_wp2
  have hY := ((((((X4.set 0 (.int .i64 0)).set 1 (.int .i64 0)).set 2 (.int .i64 0)).set 3 (.int .i64 0)).set 4 (.int .i64 0)).set 5 (.int .i64 0))
  have hB := ((((((hB.setCell (p := ⟨w.heap.size + 1 + 1 + 1 + 1, 0, none⟩) (by simp <;> omega) (.int .i64 0)).setCell (p := ⟨w.heap.size + 1 + 1 + 1 + 1, 1, none⟩) (by simp <;> omega) (.int .i64 0)).setCell (p := ⟨w.heap.size + 1 + 1 + 1 + 1, 2, none⟩) (by simp <;> omega) (.int .i64 0)).setCell (p := ⟨w.heap.size + 1 + 1 + 1 + 1, 3, none⟩) (by simp <;> omega) (.int .i64 0)).setCell (p := ⟨w.heap.size + 1 + 1 + 1 + 1, 4, none⟩) (by simp <;> omega) (.int .i64 0)).setCell (p := ⟨w.heap.size + 1 + 1 + 1 + 1, 5, none⟩) (by simp <;> omega) (.int .i64 0))
  generalize ((((((w3.setCell ⟨w.heap.size + 1 + 1 + 1 + 1, 0, none⟩ (.int .i64 0)).setCell ⟨w.heap.size + 1 + 1 + 1 + 1, 1, none⟩ (.int .i64 0)).setCell ⟨w.heap.size + 1 + 1 + 1 + 1, 2, none⟩ (.int .i64 0)).setCell ⟨w.heap.size + 1 + 1 + 1 + 1, 3, none⟩ (.int .i64 0)).setCell ⟨w.heap.size + 1 + 1 + 1 + 1, 4, none⟩ (.int .i64 0)).setCell ⟨w.heap.size + 1 + 1 + 1 + 1, 5, none⟩ (.int .i64 0)) = W at hY hB ⊢
  obtain ⟨y0, y1, y2, y3, y4, y5⟩ := hY.c6
  refine bodyPost_ret (v := .tuple #[.agg #[.int .i64 0, .int .i64 0, .int .i64 0, .int .i64 0, .int .i64 0, .int .i64 0], .int .i64 0, .int .i64 1]) (by simp [results, Try.results28, go_sem, y0, y1, y2, y3, y4, y5]) rfl ?_
  exact ⟨rfl, hB⟩
theorem rnext_check (p : Pl) (code : List Ln) (V : Value) (s : St) (x : Sh) (w : World) (_hC : Hid (CodeAt w w.heap.size V code)) (c : Int) (h : Hid (p.checkT = c)) (_h1 : (c == 0) = false) (_h2 : (c != 0) = true) :
    Calls Try.prog 70 #[p.v, .agg #[V], s.v, x.v] w fun e w' => e = .returned (.tuple #[.agg #[.int .i64 0, .int .i64 0, .int .i64 0, .int .i64 0, .int .i64 0, .int .i64 0], .int .i64 0, .int .i64 c]) ∧ Below w.heap.size w w' := by
  go_enter Try.func70, Try.ntmps70
  go_wp2_with fail
  refine (rcheck_at h _).mono ?_
  rintro e w1 ⟨rfl, hb⟩
  have X0 := ((((((Box.newAt (n := w.heap.size) [.int .i64 p.top, .int .i64 p.bank, .int .i64 p.siphon, .int .i64 p.start, .int .i64 p.positions, .int .i64 p.rate, .int .i64 p.step, .int .i64 p.pass, .int .i64 p.feed, .int .i64 p.pipe, .int .i64 p.orders, .int .i64 p.age] 23 (by simp)).alloc _).alloc _).alloc _).alloc _)).later hb
  have X1 := (((((Box.newAt (n := w.heap.size + 1) [V] 26 (by simp)).alloc _).alloc _).alloc _)).later hb
  have X2 := ((((Box.newAt (n := w.heap.size + 1 + 1) [.int .i64 s.level, .int .i64 s.position, .int .i64 s.p0, .int .i64 s.p1, .int .i64 s.order, .int .i64 s.age] 30 (by simp)).alloc _).alloc _)).later hb
  have X3 := (((Box.newAt (n := w.heap.size + 1 + 1 + 1) [.int .i64 x.feed, .int .i64 x.msg] 37 (by simp)).alloc _)).later hb
  have X4 := ((Box.newAt (n := w.heap.size + 1 + 1 + 1 + 1) [.int .i64 0, .int .i64 0, .int .i64 0, .int .i64 0, .int .i64 0, .int .i64 0] 30 (by simp))).later hb
  have hB : Below w.heap.size w w1 := (((((((Below.refl w.heap.size w).alloc (by simp <;> omega) _).alloc (by simp <;> omega) _).alloc (by simp <;> omega) _).alloc (by simp <;> omega) _).alloc (by simp <;> omega) _)).trans (hb.mono (by simp <;> omega))
  clear hb
  obtain ⟨X0c0, X0f0, X0c1, X0f1, X0c2, X0f2, X0c3, X0f3, X0c4, X0f4, X0c5, X0f5, X0c6, X0f6, X0c7, X0f7, X0c8, X0f8, X0c9, X0f9, X0c10, X0f10, X0c11, X0f11⟩ := X0.f12
  have X0z : w.heap.size < w1.heap.size := X0.lt
  obtain ⟨X3c0, X3f0, X3c1, X3f1⟩ := X3.f2
  have X3z : w.heap.size + 1 + 1 + 1 < w1.heap.size := X3.lt
  obtain ⟨X4c0, X4f0, X4c1, X4f1, X4c2, X4f2, X4c3, X4f3, X4c4, X4f4, X4c5, X4f5⟩ := X4.f6
  have X4z : w.heap.size + 1 + 1 + 1 + 1 < w1.heap.size := X4.lt
  go_wp2
  have hY := ((((((X4.set 0 (.int .i64 0)).set 1 (.int .i64 0)).set 2 (.int .i64 0)).set 3 (.int .i64 0)).set 4 (.int .i64 0)).set 5 (.int .i64 0))
  have hB := ((((((hB.setCell (p := ⟨w.heap.size + 1 + 1 + 1 + 1, 0, none⟩) (by simp <;> omega) (.int .i64 0)).setCell (p := ⟨w.heap.size + 1 + 1 + 1 + 1, 1, none⟩) (by simp <;> omega) (.int .i64 0)).setCell (p := ⟨w.heap.size + 1 + 1 + 1 + 1, 2, none⟩) (by simp <;> omega) (.int .i64 0)).setCell (p := ⟨w.heap.size + 1 + 1 + 1 + 1, 3, none⟩) (by simp <;> omega) (.int .i64 0)).setCell (p := ⟨w.heap.size + 1 + 1 + 1 + 1, 4, none⟩) (by simp <;> omega) (.int .i64 0)).setCell (p := ⟨w.heap.size + 1 + 1 + 1 + 1, 5, none⟩) (by simp <;> omega) (.int .i64 0))
  generalize ((((((w1.setCell ⟨w.heap.size + 1 + 1 + 1 + 1, 0, none⟩ (.int .i64 0)).setCell ⟨w.heap.size + 1 + 1 + 1 + 1, 1, none⟩ (.int .i64 0)).setCell ⟨w.heap.size + 1 + 1 + 1 + 1, 2, none⟩ (.int .i64 0)).setCell ⟨w.heap.size + 1 + 1 + 1 + 1, 3, none⟩ (.int .i64 0)).setCell ⟨w.heap.size + 1 + 1 + 1 + 1, 4, none⟩ (.int .i64 0)).setCell ⟨w.heap.size + 1 + 1 + 1 + 1, 5, none⟩ (.int .i64 0)) = W at hY hB ⊢
  obtain ⟨y0, y1, y2, y3, y4, y5⟩ := hY.c6
  refine bodyPost_ret (v := .tuple #[.agg #[.int .i64 0, .int .i64 0, .int .i64 0, .int .i64 0, .int .i64 0, .int .i64 0], .int .i64 0, .int .i64 c]) (by simp [results, Try.results70, go_sem, y0, y1, y2, y3, y4, y5]) rfl ?_
  exact ⟨rfl, hB⟩
theorem rnext_gate (p : Pl) (code : List Ln) (V : Value) (s : St) (x : Sh) (w : World) (hC : Hid (CodeAt w w.heap.size V code)) (h : Hid (p.checkT = 0)) (hg : Hid (gateT code = 310)) :
    Calls Try.prog 70 #[p.v, .agg #[V], s.v, x.v] w fun e w' => e = .returned (.tuple #[.agg #[.int .i64 0, .int .i64 0, .int .i64 0, .int .i64 0, .int .i64 0, .int .i64 0], .int .i64 0, .int .i64 310]) ∧ Below w.heap.size w w' := by
  go_enter Try.func70, Try.ntmps70
  go_wp2_with fail
  refine (rcheck_at h _).mono ?_
  rintro e w1 ⟨rfl, hb⟩
  have X0 := ((((((Box.newAt (n := w.heap.size) [.int .i64 p.top, .int .i64 p.bank, .int .i64 p.siphon, .int .i64 p.start, .int .i64 p.positions, .int .i64 p.rate, .int .i64 p.step, .int .i64 p.pass, .int .i64 p.feed, .int .i64 p.pipe, .int .i64 p.orders, .int .i64 p.age] 23 (by simp)).alloc _).alloc _).alloc _).alloc _)).later hb
  have X1 := (((((Box.newAt (n := w.heap.size + 1) [V] 26 (by simp)).alloc _).alloc _).alloc _)).later hb
  have X2 := ((((Box.newAt (n := w.heap.size + 1 + 1) [.int .i64 s.level, .int .i64 s.position, .int .i64 s.p0, .int .i64 s.p1, .int .i64 s.order, .int .i64 s.age] 30 (by simp)).alloc _).alloc _)).later hb
  have X3 := (((Box.newAt (n := w.heap.size + 1 + 1 + 1) [.int .i64 x.feed, .int .i64 x.msg] 37 (by simp)).alloc _)).later hb
  have X4 := ((Box.newAt (n := w.heap.size + 1 + 1 + 1 + 1) [.int .i64 0, .int .i64 0, .int .i64 0, .int .i64 0, .int .i64 0, .int .i64 0] 30 (by simp))).later hb
  have hB : Below w.heap.size w w1 := (((((((Below.refl w.heap.size w).alloc (by simp <;> omega) _).alloc (by simp <;> omega) _).alloc (by simp <;> omega) _).alloc (by simp <;> omega) _).alloc (by simp <;> omega) _)).trans (hb.mono (by simp <;> omega))
  clear hb
  have X1c0 : w1.cell? ⟨w.heap.size + 1, 0, none⟩ = some (V) := X1.cell 0
  have X1f0 : w1.frozen? ⟨w.heap.size + 1, 0, none⟩ = false := X1.free 0
  have X1z : w.heap.size + 1 < w1.heap.size := X1.lt
  go_wp2_with fail
  refine (rgcheck_at hg ((hC.out.below hB).more hB.size)).mono ?_
  rintro e w2 ⟨rfl, hb⟩
  clear X1c0 X1f0 X1z
  have X0 := X0.later hb
  have X1 := X1.later hb
  have X2 := X2.later hb
  have X3 := X3.later hb
  have X4 := X4.later hb
  have hB := hB.trans (hb.mono hB.size)
  clear hb
  obtain ⟨X0c0, X0f0, X0c1, X0f1, X0c2, X0f2, X0c3, X0f3, X0c4, X0f4, X0c5, X0f5, X0c6, X0f6, X0c7, X0f7, X0c8, X0f8, X0c9, X0f9, X0c10, X0f10, X0c11, X0f11⟩ := X0.f12
  have X0z : w.heap.size < w2.heap.size := X0.lt
  obtain ⟨X3c0, X3f0, X3c1, X3f1⟩ := X3.f2
  have X3z : w.heap.size + 1 + 1 + 1 < w2.heap.size := X3.lt
  obtain ⟨X4c0, X4f0, X4c1, X4f1, X4c2, X4f2, X4c3, X4f3, X4c4, X4f4, X4c5, X4f5⟩ := X4.f6
  have X4z : w.heap.size + 1 + 1 + 1 + 1 < w2.heap.size := X4.lt
  go_wp2
  have hY := ((((((X4.set 0 (.int .i64 0)).set 1 (.int .i64 0)).set 2 (.int .i64 0)).set 3 (.int .i64 0)).set 4 (.int .i64 0)).set 5 (.int .i64 0))
  have hB := ((((((hB.setCell (p := ⟨w.heap.size + 1 + 1 + 1 + 1, 0, none⟩) (by simp <;> omega) (.int .i64 0)).setCell (p := ⟨w.heap.size + 1 + 1 + 1 + 1, 1, none⟩) (by simp <;> omega) (.int .i64 0)).setCell (p := ⟨w.heap.size + 1 + 1 + 1 + 1, 2, none⟩) (by simp <;> omega) (.int .i64 0)).setCell (p := ⟨w.heap.size + 1 + 1 + 1 + 1, 3, none⟩) (by simp <;> omega) (.int .i64 0)).setCell (p := ⟨w.heap.size + 1 + 1 + 1 + 1, 4, none⟩) (by simp <;> omega) (.int .i64 0)).setCell (p := ⟨w.heap.size + 1 + 1 + 1 + 1, 5, none⟩) (by simp <;> omega) (.int .i64 0))
  generalize ((((((w2.setCell ⟨w.heap.size + 1 + 1 + 1 + 1, 0, none⟩ (.int .i64 0)).setCell ⟨w.heap.size + 1 + 1 + 1 + 1, 1, none⟩ (.int .i64 0)).setCell ⟨w.heap.size + 1 + 1 + 1 + 1, 2, none⟩ (.int .i64 0)).setCell ⟨w.heap.size + 1 + 1 + 1 + 1, 3, none⟩ (.int .i64 0)).setCell ⟨w.heap.size + 1 + 1 + 1 + 1, 4, none⟩ (.int .i64 0)).setCell ⟨w.heap.size + 1 + 1 + 1 + 1, 5, none⟩ (.int .i64 0)) = W at hY hB ⊢
  obtain ⟨y0, y1, y2, y3, y4, y5⟩ := hY.c6
  refine bodyPost_ret (v := .tuple #[.agg #[.int .i64 0, .int .i64 0, .int .i64 0, .int .i64 0, .int .i64 0, .int .i64 0], .int .i64 0, .int .i64 310]) (by simp [results, Try.results70, go_sem, y0, y1, y2, y3, y4, y5]) rfl ?_
  exact ⟨rfl, hB⟩
theorem rnext_has (p : Pl) (code : List Ln) (V : Value) (s : St) (x : Sh) (w : World) (hC : Hid (CodeAt w w.heap.size V code)) (h : Hid (p.checkT = 0)) (hg : Hid (gateT code = 0)) (hp : Hid (0 ≤ p.pipe ∧ p.pipe ≤ 2)) (hh : Hid (p.hasB s = false)) :
    Calls Try.prog 70 #[p.v, .agg #[V], s.v, x.v] w fun e w' => e = .returned (.tuple #[.agg #[.int .i64 0, .int .i64 0, .int .i64 0, .int .i64 0, .int .i64 0, .int .i64 0], .int .i64 0, .int .i64 320]) ∧ Below w.heap.size w w' := by
  go_enter Try.func70, Try.ntmps70
  go_wp2_with fail
  refine (rcheck_at h _).mono ?_
  rintro e w1 ⟨rfl, hb⟩
  have X0 := ((((((Box.newAt (n := w.heap.size) [.int .i64 p.top, .int .i64 p.bank, .int .i64 p.siphon, .int .i64 p.start, .int .i64 p.positions, .int .i64 p.rate, .int .i64 p.step, .int .i64 p.pass, .int .i64 p.feed, .int .i64 p.pipe, .int .i64 p.orders, .int .i64 p.age] 23 (by simp)).alloc _).alloc _).alloc _).alloc _)).later hb
  have X1 := (((((Box.newAt (n := w.heap.size + 1) [V] 26 (by simp)).alloc _).alloc _).alloc _)).later hb
  have X2 := ((((Box.newAt (n := w.heap.size + 1 + 1) [.int .i64 s.level, .int .i64 s.position, .int .i64 s.p0, .int .i64 s.p1, .int .i64 s.order, .int .i64 s.age] 30 (by simp)).alloc _).alloc _)).later hb
  have X3 := (((Box.newAt (n := w.heap.size + 1 + 1 + 1) [.int .i64 x.feed, .int .i64 x.msg] 37 (by simp)).alloc _)).later hb
  have X4 := ((Box.newAt (n := w.heap.size + 1 + 1 + 1 + 1) [.int .i64 0, .int .i64 0, .int .i64 0, .int .i64 0, .int .i64 0, .int .i64 0] 30 (by simp))).later hb
  have hB : Below w.heap.size w w1 := (((((((Below.refl w.heap.size w).alloc (by simp <;> omega) _).alloc (by simp <;> omega) _).alloc (by simp <;> omega) _).alloc (by simp <;> omega) _).alloc (by simp <;> omega) _)).trans (hb.mono (by simp <;> omega))
  clear hb
  have X1c0 : w1.cell? ⟨w.heap.size + 1, 0, none⟩ = some (V) := X1.cell 0
  have X1f0 : w1.frozen? ⟨w.heap.size + 1, 0, none⟩ = false := X1.free 0
  have X1z : w.heap.size + 1 < w1.heap.size := X1.lt
  go_wp2_with fail
  refine (rgcheck_at hg ((hC.out.below hB).more hB.size)).mono ?_
  rintro e w2 ⟨rfl, hb⟩
  clear X1c0 X1f0 X1z
  have X0 := X0.later hb
  have X1 := X1.later hb
  have X2 := X2.later hb
  have X3 := X3.later hb
  have X4 := X4.later hb
  have hB := hB.trans (hb.mono hB.size)
  clear hb
  obtain ⟨X0c0, X0f0, X0c1, X0f1, X0c2, X0f2, X0c3, X0f3, X0c4, X0f4, X0c5, X0f5, X0c6, X0f6, X0c7, X0f7, X0c8, X0f8, X0c9, X0f9, X0c10, X0f10, X0c11, X0f11⟩ := X0.f12
  have X0z : w.heap.size < w2.heap.size := X0.lt
  obtain ⟨X2c0, X2f0, X2c1, X2f1, X2c2, X2f2, X2c3, X2f3, X2c4, X2f4, X2c5, X2f5⟩ := X2.f6
  have X2z : w.heap.size + 1 + 1 < w2.heap.size := X2.lt
  go_wp2_with fail
  refine (rbelongs_at hp.out hh _).mono ?_
  rintro e w3 ⟨rfl, hb⟩
  clear X0c0 X0f0 X0c1 X0f1 X0c2 X0f2 X0c3 X0f3 X0c4 X0f4 X0c5 X0f5 X0c6 X0f6 X0c7 X0f7 X0c8 X0f8 X0c9 X0f9 X0c10 X0f10 X0c11 X0f11 X0z X2c0 X2f0 X2c1 X2f1 X2c2 X2f2 X2c3 X2f3 X2c4 X2f4 X2c5 X2f5 X2z
  have X0 := X0.later hb
  have X1 := X1.later hb
  have X2 := X2.later hb
  have X3 := X3.later hb
  have X4 := X4.later hb
  have hB := hB.trans (hb.mono hB.size)
  clear hb
  obtain ⟨X0c0, X0f0, X0c1, X0f1, X0c2, X0f2, X0c3, X0f3, X0c4, X0f4, X0c5, X0f5, X0c6, X0f6, X0c7, X0f7, X0c8, X0f8, X0c9, X0f9, X0c10, X0f10, X0c11, X0f11⟩ := X0.f12
  have X0z : w.heap.size < w3.heap.size := X0.lt
  obtain ⟨X3c0, X3f0, X3c1, X3f1⟩ := X3.f2
  have X3z : w.heap.size + 1 + 1 + 1 < w3.heap.size := X3.lt
  obtain ⟨X4c0, X4f0, X4c1, X4f1, X4c2, X4f2, X4c3, X4f3, X4c4, X4f4, X4c5, X4f5⟩ := X4.f6
  have X4z : w.heap.size + 1 + 1 + 1 + 1 < w3.heap.size := X4.lt
  go_wp2
  have hY := ((((((X4.set 0 (.int .i64 0)).set 1 (.int .i64 0)).set 2 (.int .i64 0)).set 3 (.int .i64 0)).set 4 (.int .i64 0)).set 5 (.int .i64 0))
  have hB := ((((((hB.setCell (p := ⟨w.heap.size + 1 + 1 + 1 + 1, 0, none⟩) (by simp <;> omega) (.int .i64 0)).setCell (p := ⟨w.heap.size + 1 + 1 + 1 + 1, 1, none⟩) (by simp <;> omega) (.int .i64 0)).setCell (p := ⟨w.heap.size + 1 + 1 + 1 + 1, 2, none⟩) (by simp <;> omega) (.int .i64 0)).setCell (p := ⟨w.heap.size + 1 + 1 + 1 + 1, 3, none⟩) (by simp <;> omega) (.int .i64 0)).setCell (p := ⟨w.heap.size + 1 + 1 + 1 + 1, 4, none⟩) (by simp <;> omega) (.int .i64 0)).setCell (p := ⟨w.heap.size + 1 + 1 + 1 + 1, 5, none⟩) (by simp <;> omega) (.int .i64 0))
  generalize ((((((w3.setCell ⟨w.heap.size + 1 + 1 + 1 + 1, 0, none⟩ (.int .i64 0)).setCell ⟨w.heap.size + 1 + 1 + 1 + 1, 1, none⟩ (.int .i64 0)).setCell ⟨w.heap.size + 1 + 1 + 1 + 1, 2, none⟩ (.int .i64 0)).setCell ⟨w.heap.size + 1 + 1 + 1 + 1, 3, none⟩ (.int .i64 0)).setCell ⟨w.heap.size + 1 + 1 + 1 + 1, 4, none⟩ (.int .i64 0)).setCell ⟨w.heap.size + 1 + 1 + 1 + 1, 5, none⟩ (.int .i64 0)) = W at hY hB ⊢
  obtain ⟨y0, y1, y2, y3, y4, y5⟩ := hY.c6
  refine bodyPost_ret (v := .tuple #[.agg #[.int .i64 0, .int .i64 0, .int .i64 0, .int .i64 0, .int .i64 0, .int .i64 0], .int .i64 0, .int .i64 320]) (by simp [results, Try.results70, go_sem, y0, y1, y2, y3, y4, y5]) rfl ?_
  exact ⟨rfl, hB⟩
theorem rnext_chosen (p : Pl) (code : List Ln) (V : Value) (s : St) (x : Sh) (w : World) (hC : Hid (CodeAt w w.heap.size V code)) (h : Hid (p.checkT = 0)) (hg : Hid (gateT code = 0)) (hp : Hid (0 ≤ p.pipe ∧ p.pipe ≤ 2)) (hh : Hid (p.hasB s = true)) (hc : Hid (chosenB p x = false)) :
    Calls Try.prog 70 #[p.v, .agg #[V], s.v, x.v] w fun e w' => e = .returned (.tuple #[.agg #[.int .i64 0, .int .i64 0, .int .i64 0, .int .i64 0, .int .i64 0, .int .i64 0], .int .i64 0, .int .i64 1]) ∧ Below w.heap.size w w' := by
  go_enter Try.func70, Try.ntmps70
  go_wp2_with fail
  refine (rcheck_at h _).mono ?_
  rintro e w1 ⟨rfl, hb⟩
  have X0 := ((((((Box.newAt (n := w.heap.size) [.int .i64 p.top, .int .i64 p.bank, .int .i64 p.siphon, .int .i64 p.start, .int .i64 p.positions, .int .i64 p.rate, .int .i64 p.step, .int .i64 p.pass, .int .i64 p.feed, .int .i64 p.pipe, .int .i64 p.orders, .int .i64 p.age] 23 (by simp)).alloc _).alloc _).alloc _).alloc _)).later hb
  have X1 := (((((Box.newAt (n := w.heap.size + 1) [V] 26 (by simp)).alloc _).alloc _).alloc _)).later hb
  have X2 := ((((Box.newAt (n := w.heap.size + 1 + 1) [.int .i64 s.level, .int .i64 s.position, .int .i64 s.p0, .int .i64 s.p1, .int .i64 s.order, .int .i64 s.age] 30 (by simp)).alloc _).alloc _)).later hb
  have X3 := (((Box.newAt (n := w.heap.size + 1 + 1 + 1) [.int .i64 x.feed, .int .i64 x.msg] 37 (by simp)).alloc _)).later hb
  have X4 := ((Box.newAt (n := w.heap.size + 1 + 1 + 1 + 1) [.int .i64 0, .int .i64 0, .int .i64 0, .int .i64 0, .int .i64 0, .int .i64 0] 30 (by simp))).later hb
  have hB : Below w.heap.size w w1 := (((((((Below.refl w.heap.size w).alloc (by simp <;> omega) _).alloc (by simp <;> omega) _).alloc (by simp <;> omega) _).alloc (by simp <;> omega) _).alloc (by simp <;> omega) _)).trans (hb.mono (by simp <;> omega))
  clear hb
  have X1c0 : w1.cell? ⟨w.heap.size + 1, 0, none⟩ = some (V) := X1.cell 0
  have X1f0 : w1.frozen? ⟨w.heap.size + 1, 0, none⟩ = false := X1.free 0
  have X1z : w.heap.size + 1 < w1.heap.size := X1.lt
  go_wp2_with fail
  refine (rgcheck_at hg ((hC.out.below hB).more hB.size)).mono ?_
  rintro e w2 ⟨rfl, hb⟩
  clear X1c0 X1f0 X1z
  have X0 := X0.later hb
  have X1 := X1.later hb
  have X2 := X2.later hb
  have X3 := X3.later hb
  have X4 := X4.later hb
  have hB := hB.trans (hb.mono hB.size)
  clear hb
  obtain ⟨X0c0, X0f0, X0c1, X0f1, X0c2, X0f2, X0c3, X0f3, X0c4, X0f4, X0c5, X0f5, X0c6, X0f6, X0c7, X0f7, X0c8, X0f8, X0c9, X0f9, X0c10, X0f10, X0c11, X0f11⟩ := X0.f12
  have X0z : w.heap.size < w2.heap.size := X0.lt
  obtain ⟨X2c0, X2f0, X2c1, X2f1, X2c2, X2f2, X2c3, X2f3, X2c4, X2f4, X2c5, X2f5⟩ := X2.f6
  have X2z : w.heap.size + 1 + 1 < w2.heap.size := X2.lt
  go_wp2_with fail
  refine (rbelongs_at hp.out hh _).mono ?_
  rintro e w3 ⟨rfl, hb⟩
  clear X0c0 X0f0 X0c1 X0f1 X0c2 X0f2 X0c3 X0f3 X0c4 X0f4 X0c5 X0f5 X0c6 X0f6 X0c7 X0f7 X0c8 X0f8 X0c9 X0f9 X0c10 X0f10 X0c11 X0f11 X0z X2c0 X2f0 X2c1 X2f1 X2c2 X2f2 X2c3 X2f3 X2c4 X2f4 X2c5 X2f5 X2z
  have X0 := X0.later hb
  have X1 := X1.later hb
  have X2 := X2.later hb
  have X3 := X3.later hb
  have X4 := X4.later hb
  have hB := hB.trans (hb.mono hB.size)
  clear hb
  obtain ⟨X0c0, X0f0, X0c1, X0f1, X0c2, X0f2, X0c3, X0f3, X0c4, X0f4, X0c5, X0f5, X0c6, X0f6, X0c7, X0f7, X0c8, X0f8, X0c9, X0f9, X0c10, X0f10, X0c11, X0f11⟩ := X0.f12
  have X0z : w.heap.size < w3.heap.size := X0.lt
  obtain ⟨X3c0, X3f0, X3c1, X3f1⟩ := X3.f2
  have X3z : w.heap.size + 1 + 1 + 1 < w3.heap.size := X3.lt
  go_wp2_with fail
  refine (rchosen_at hc _).mono ?_
  rintro e w4 ⟨rfl, hb⟩
  clear X0c0 X0f0 X0c1 X0f1 X0c2 X0f2 X0c3 X0f3 X0c4 X0f4 X0c5 X0f5 X0c6 X0f6 X0c7 X0f7 X0c8 X0f8 X0c9 X0f9 X0c10 X0f10 X0c11 X0f11 X0z X3c0 X3f0 X3c1 X3f1 X3z
  have X0 := X0.later hb
  have X1 := X1.later hb
  have X2 := X2.later hb
  have X3 := X3.later hb
  have X4 := X4.later hb
  have hB := hB.trans (hb.mono hB.size)
  clear hb
  obtain ⟨X0c0, X0f0, X0c1, X0f1, X0c2, X0f2, X0c3, X0f3, X0c4, X0f4, X0c5, X0f5, X0c6, X0f6, X0c7, X0f7, X0c8, X0f8, X0c9, X0f9, X0c10, X0f10, X0c11, X0f11⟩ := X0.f12
  have X0z : w.heap.size < w4.heap.size := X0.lt
  obtain ⟨X3c0, X3f0, X3c1, X3f1⟩ := X3.f2
  have X3z : w.heap.size + 1 + 1 + 1 < w4.heap.size := X3.lt
  obtain ⟨X4c0, X4f0, X4c1, X4f1, X4c2, X4f2, X4c3, X4f3, X4c4, X4f4, X4c5, X4f5⟩ := X4.f6
  have X4z : w.heap.size + 1 + 1 + 1 + 1 < w4.heap.size := X4.lt
  go_wp2
  have hY := ((((((X4.set 0 (.int .i64 0)).set 1 (.int .i64 0)).set 2 (.int .i64 0)).set 3 (.int .i64 0)).set 4 (.int .i64 0)).set 5 (.int .i64 0))
  have hB := ((((((hB.setCell (p := ⟨w.heap.size + 1 + 1 + 1 + 1, 0, none⟩) (by simp <;> omega) (.int .i64 0)).setCell (p := ⟨w.heap.size + 1 + 1 + 1 + 1, 1, none⟩) (by simp <;> omega) (.int .i64 0)).setCell (p := ⟨w.heap.size + 1 + 1 + 1 + 1, 2, none⟩) (by simp <;> omega) (.int .i64 0)).setCell (p := ⟨w.heap.size + 1 + 1 + 1 + 1, 3, none⟩) (by simp <;> omega) (.int .i64 0)).setCell (p := ⟨w.heap.size + 1 + 1 + 1 + 1, 4, none⟩) (by simp <;> omega) (.int .i64 0)).setCell (p := ⟨w.heap.size + 1 + 1 + 1 + 1, 5, none⟩) (by simp <;> omega) (.int .i64 0))
  generalize ((((((w4.setCell ⟨w.heap.size + 1 + 1 + 1 + 1, 0, none⟩ (.int .i64 0)).setCell ⟨w.heap.size + 1 + 1 + 1 + 1, 1, none⟩ (.int .i64 0)).setCell ⟨w.heap.size + 1 + 1 + 1 + 1, 2, none⟩ (.int .i64 0)).setCell ⟨w.heap.size + 1 + 1 + 1 + 1, 3, none⟩ (.int .i64 0)).setCell ⟨w.heap.size + 1 + 1 + 1 + 1, 4, none⟩ (.int .i64 0)).setCell ⟨w.heap.size + 1 + 1 + 1 + 1, 5, none⟩ (.int .i64 0)) = W at hY hB ⊢
  obtain ⟨y0, y1, y2, y3, y4, y5⟩ := hY.c6
  refine bodyPost_ret (v := .tuple #[.agg #[.int .i64 0, .int .i64 0, .int .i64 0, .int .i64 0, .int .i64 0, .int .i64 0], .int .i64 0, .int .i64 1]) (by simp [results, Try.results70, go_sem, y0, y1, y2, y3, y4, y5]) rfl ?_
  exact ⟨rfl, hB⟩
end Go.Proofs.Ytancngachnpefaa
