/- Contracts of Count, Begin of plant and of its reference. (Printed by gen_d.py.) -/
import Derived.Test.YtancngachnpefaaQK
import Derived.Test.YtancngachnpefaaQB
set_option linter.unusedVariables false
set_option linter.unusedSimpArgs false
set_option maxRecDepth 100000
set_option maxHeartbeats 2000000
namespace Go.Proofs.Ytancngachnpefaa
open Go.RowKit
def RetS (t : St × Int) (w : World) (e : Ending) (w' : World) : Prop := ∃ (s : St) (er : Int), e = .returned (.tuple #[s.v, .int .i64 er]) ∧ Hid (t = (s, er)) ∧ Below w.heap.size w w'
def RetN (t : Int × Int) (w : World) (e : Ending) (w' : World) : Prop := ∃ n er : Int, e = .returned (.tuple #[.int .i64 n, .int .i64 er]) ∧ Hid (t = (n, er)) ∧ Below w.heap.size w w'
def RetO (t : Bool × Int) (w : World) (e : Ending) (w' : World) : Prop := ∃ (ok : Bool) (er : Int), e = .returned (.tuple #[.bool ok, .int .i64 er]) ∧ Hid (t = (ok, er)) ∧ Below w.heap.size w w'
theorem check_at {p : Pl} {c : Int} (h : Hid (p.checkT = c)) (w : World) : Calls Try.prog 22 #[p.v] w fun e w' => e = .returned (.int .i64 c) ∧ Below w.heap.size w w' :=
  (check_any p w).mono fun _ _ ⟨he, hb⟩ => ⟨by rw [he, h.out], hb⟩
theorem rcheck_at {p : Pl} {c : Int} (h : Hid (p.checkT = c)) (w : World) : Calls Try.prog 32 #[p.v] w fun e w' => e = .returned (.int .i64 c) ∧ Below w.heap.size w w' :=
  (rcheck_any p w).mono fun _ _ ⟨he, hb⟩ => ⟨by rw [he, h.out], hb⟩
theorem Begin_no (p : Pl) (c : Int) (h : Hid (p.checkT = c)) (_h1 : (c == 0) = false) (_h2 : (c != 0) = true) (w : World) : Calls Try.prog 27 #[p.v] w fun e w' => e = .returned (.tuple #[St.zero.v, .int .i64 c]) ∧ Below w.heap.size w w' := by
  go_enter Try.func27, Try.ntmps27
  go_wp2_with fail
  refine (check_at h _).mono ?_
  rintro e w1 ⟨rfl, hb⟩
  have X0 := (((Box.newAt (n := w.heap.size) [.int .i64 p.top, .int .i64 p.bank, .int .i64 p.siphon, .int .i64 p.start, .int .i64 p.positions, .int .i64 p.rate, .int .i64 p.step, .int .i64 p.pass, .int .i64 p.feed, .int .i64 p.pipe, .int .i64 p.orders, .int .i64 p.age] 23 (by simp)).alloc _)).later hb
  have X1 := ((Box.newAt (n := w.heap.size + 1) [.int .i64 0, .int .i64 0, .int .i64 0, .int .i64 0, .int .i64 0, .int .i64 0] 30 (by simp))).later hb
  have hB : Below w.heap.size w w1 := ((((Below.refl w.heap.size w).alloc (by simp <;> omega) _).alloc (by simp <;> omega) _)).trans (hb.mono (by simp <;> omega))
  clear hb
  obtain ⟨X1c0, X1f0, X1c1, X1f1, X1c2, X1f2, X1c3, X1f3, X1c4, X1f4, X1c5, X1f5⟩ := X1.f6
  have X1z : w.heap.size + 1 < w1.heap.size := X1.lt
  have hle : w.heap.size ≤ w.heap.size + 1 := by omega
  go_wp2
  have hY := ((((((X1.set 0 (.int .i64 0)).set 1 (.int .i64 0)).set 2 (.int .i64 0)).set 3 (.int .i64 0)).set 4 (.int .i64 0)).set 5 (.int .i64 0))
  have hB := ((((((hB.setCell (p := ⟨w.heap.size + 1, 0, none⟩) (by simp) (.int .i64 0)).setCell (p := ⟨w.heap.size + 1, 1, none⟩) (by simp) (.int .i64 0)).setCell (p := ⟨w.heap.size + 1, 2, none⟩) (by simp) (.int .i64 0)).setCell (p := ⟨w.heap.size + 1, 3, none⟩) (by simp) (.int .i64 0)).setCell (p := ⟨w.heap.size + 1, 4, none⟩) (by simp) (.int .i64 0)).setCell (p := ⟨w.heap.size + 1, 5, none⟩) (by simp) (.int .i64 0))
  generalize ((((((w1.setCell ⟨w.heap.size + 1, 0, none⟩ (.int .i64 0)).setCell ⟨w.heap.size + 1, 1, none⟩ (.int .i64 0)).setCell ⟨w.heap.size + 1, 2, none⟩ (.int .i64 0)).setCell ⟨w.heap.size + 1, 3, none⟩ (.int .i64 0)).setCell ⟨w.heap.size + 1, 4, none⟩ (.int .i64 0)).setCell ⟨w.heap.size + 1, 5, none⟩ (.int .i64 0)) = W at hY hB ⊢
  obtain ⟨y0, y1, y2, y3, y4, y5⟩ := hY.c6
  refine bodyPost_ret (v := .tuple #[St.zero.v, .int .i64 c]) (by simp [results, Try.results27, go_sem, y0, y1, y2, y3, y4, y5, St.zero]) rfl ?_
  exact ⟨rfl, hB⟩
theorem Begin_yes (p : Pl) (h : Hid (p.checkT = 0)) (w : World) : Calls Try.prog 27 #[p.v] w fun e w' => e = .returned (.tuple #[(St.mk p.start 0 0 0 0 p.age).v, .int .i64 0]) ∧ Below w.heap.size w w' := by
  go_enter Try.func27, Try.ntmps27
  go_wp2_with fail
  refine (check_at h _).mono ?_
  rintro e w1 ⟨rfl, hb⟩
  have X0 := (((Box.newAt (n := w.heap.size) [.int .i64 p.top, .int .i64 p.bank, .int .i64 p.siphon, .int .i64 p.start, .int .i64 p.positions, .int .i64 p.rate, .int .i64 p.step, .int .i64 p.pass, .int .i64 p.feed, .int .i64 p.pipe, .int .i64 p.orders, .int .i64 p.age] 23 (by simp)).alloc _)).later hb
  have X1 := ((Box.newAt (n := w.heap.size + 1) [.int .i64 0, .int .i64 0, .int .i64 0, .int .i64 0, .int .i64 0, .int .i64 0] 30 (by simp))).later hb
  have hB : Below w.heap.size w w1 := ((((Below.refl w.heap.size w).alloc (by simp <;> omega) _).alloc (by simp <;> omega) _)).trans (hb.mono (by simp <;> omega))
  clear hb
  obtain ⟨X0c0, X0f0, X0c1, X0f1, X0c2, X0f2, X0c3, X0f3, X0c4, X0f4, X0c5, X0f5, X0c6, X0f6, X0c7, X0f7, X0c8, X0f8, X0c9, X0f9, X0c10, X0f10, X0c11, X0f11⟩ := X0.f12
  have X0z : w.heap.size < w1.heap.size := X0.lt
  obtain ⟨X1c0, X1f0, X1c1, X1f1, X1c2, X1f2, X1c3, X1f3, X1c4, X1f4, X1c5, X1f5⟩ := X1.f6
  have X1z : w.heap.size + 1 < w1.heap.size := X1.lt
  go_wp2
  have hY := ((((((X1.set 0 (.int .i64 p.start)).set 1 (.int .i64 0)).set 2 (.int .i64 0)).set 3 (.int .i64 0)).set 4 (.int .i64 0)).set 5 (.int .i64 p.age))
  have hB := ((((((hB.setCell (p := ⟨w.heap.size + 1, 0, none⟩) (by simp) (.int .i64 p.start)).setCell (p := ⟨w.heap.size + 1, 1, none⟩) (by simp) (.int .i64 0)).setCell (p := ⟨w.heap.size + 1, 2, none⟩) (by simp) (.int .i64 0)).setCell (p := ⟨w.heap.size + 1, 3, none⟩) (by simp) (.int .i64 0)).setCell (p := ⟨w.heap.size + 1, 4, none⟩) (by simp) (.int .i64 0)).setCell (p := ⟨w.heap.size + 1, 5, none⟩) (by simp) (.int .i64 p.age))
  generalize ((((((w1.setCell ⟨w.heap.size + 1, 0, none⟩ (.int .i64 p.start)).setCell ⟨w.heap.size + 1, 1, none⟩ (.int .i64 0)).setCell ⟨w.heap.size + 1, 2, none⟩ (.int .i64 0)).setCell ⟨w.heap.size + 1, 3, none⟩ (.int .i64 0)).setCell ⟨w.heap.size + 1, 4, none⟩ (.int .i64 0)).setCell ⟨w.heap.size + 1, 5, none⟩ (.int .i64 p.age)) = W at hY hB ⊢
  obtain ⟨y0, y1, y2, y3, y4, y5⟩ := hY.c6
  refine bodyPost_ret (v := .tuple #[(St.mk p.start 0 0 0 0 p.age).v, .int .i64 0]) (by simp [results, Try.results27, go_sem, y0, y1, y2, y3, y4, y5]) rfl ?_
  exact ⟨rfl, hB⟩
theorem Begin_any (p : Pl) (w : World) : Calls Try.prog 27 #[p.v] w (RetS p.beginT w) := by
  by_cases h : p.checkT = 0
  · exact (Begin_yes p h w).mono fun _ _ ⟨he, hb⟩ => ⟨_, _, he, by rw [Hid, Pl.beginT, if_pos h], hb⟩
  · exact (Begin_no p _ rfl (by simp [h]) (by simp [h]) w).mono fun _ _ ⟨he, hb⟩ => ⟨_, _, he, by rw [Hid, Pl.beginT, if_neg h], hb⟩
theorem rCount_no (p : Pl) (c : Int) (h : Hid (p.checkT = c)) (_h1 : (c == 0) = false) (_h2 : (c != 0) = true) (w : World) : Calls Try.prog 33 #[p.v] w fun e w' => e = .returned (.tuple #[.int .i64 0, .int .i64 c]) ∧ Below w.heap.size w w' := by
  go_enter Try.func33, Try.ntmps33
  go_wp2_with fail
  refine (rcheck_at h _).mono ?_
  rintro e w1 ⟨rfl, hb⟩
  have X0 := ((Box.newAt (n := w.heap.size) [.int .i64 p.top, .int .i64 p.bank, .int .i64 p.siphon, .int .i64 p.start, .int .i64 p.positions, .int .i64 p.rate, .int .i64 p.step, .int .i64 p.pass, .int .i64 p.feed, .int .i64 p.pipe, .int .i64 p.orders, .int .i64 p.age] 23 (by simp))).later hb
  have hB : Below w.heap.size w w1 := (((Below.refl w.heap.size w).alloc (by simp <;> omega) _)).trans (hb.mono (by simp <;> omega))
  clear hb
  go_wp2
  go_ret2
  exact ⟨rfl, hB⟩
theorem rCount_yes (p : Pl) (h : Hid (p.checkT = 0)) (hv : Hid p.Valid) (w : World) : Calls Try.prog 33 #[p.v] w fun e w' => e = .returned (.tuple #[.int .i64 p.countI, .int .i64 0]) ∧ Below w.heap.size w w' := by
  go_enter Try.func33, Try.ntmps33
  go_wp2_with fail
  refine (rcheck_at h _).mono ?_
  rintro e w1 ⟨rfl, hb⟩
  have X0 := ((Box.newAt (n := w.heap.size) [.int .i64 p.top, .int .i64 p.bank, .int .i64 p.siphon, .int .i64 p.start, .int .i64 p.positions, .int .i64 p.rate, .int .i64 p.step, .int .i64 p.pass, .int .i64 p.feed, .int .i64 p.pipe, .int .i64 p.orders, .int .i64 p.age] 23 (by simp))).later hb
  have hB : Below w.heap.size w w1 := (((Below.refl w.heap.size w).alloc (by simp <;> omega) _)).trans (hb.mono (by simp <;> omega))
  clear hb
  obtain ⟨X0c0, X0f0, X0c1, X0f1, X0c2, X0f2, X0c3, X0f3, X0c4, X0f4, X0c5, X0f5, X0c6, X0f6, X0c7, X0f7, X0c8, X0f8, X0c9, X0f9, X0c10, X0f10, X0c11, X0f11⟩ := X0.f12
  have X0z : w.heap.size < w1.heap.size := X0.lt
  go_wp2_with fail
  refine (rcount_any p hv _).mono ?_
  rintro e w2 ⟨rfl, hb⟩
  clear X0c0 X0f0 X0c1 X0f1 X0c2 X0f2 X0c3 X0f3 X0c4 X0f4 X0c5 X0f5 X0c6 X0f6 X0c7 X0f7 X0c8 X0f8 X0c9 X0f9 X0c10 X0f10 X0c11 X0f11 X0z
  have X0 := X0.later hb
  have hB := hB.trans (hb.mono hB.size)
  clear hb
  go_wp2
  go_ret2
  exact ⟨rfl, hB⟩
theorem rCount_any (p : Pl) (w : World) : Calls Try.prog 33 #[p.v] w (RetN p.countT w) := by
  by_cases h : p.checkT = 0
  · exact (rCount_yes p h (Pl.check_zero h).1 w).mono fun _ _ ⟨he, hb⟩ => ⟨_, _, he, by rw [Hid, Pl.countT, if_pos h], hb⟩
  · exact (rCount_no p _ rfl (by simp [h]) (by simp [h]) w).mono fun _ _ ⟨he, hb⟩ => ⟨_, _, he, by rw [Hid, Pl.countT, if_neg h], hb⟩
end Go.Proofs.Ytancngachnpefaa
