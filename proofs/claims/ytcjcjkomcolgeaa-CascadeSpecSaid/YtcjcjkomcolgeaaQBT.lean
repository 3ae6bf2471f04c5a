/- The reference of chapter 33: ask, safe, next, pipes, Shocks, States. (Printed by gen_bt.py.) No condition. -/
import Derived.Test.YtcjcjkomcolgeaaQBQ
import Derived.Test.YtcjcjkomcolgeaaQI
import Derived.Test.YtcjcjkomcolgeaaQKD
set_option linter.unusedVariables false
set_option linter.unusedSimpArgs false
namespace Go.Proofs.Ytcjcjkomcolgeaa
open Go.RowKit
attribute [local go_sem ↓ high] app_named

theorem rbAsk_is {p : Pl} {c : List Ln} {V : Value} {w : World} {er : Int} (h : Hid (askT p c = er)) (hC : CodeAt w w.heap.size V c) :
    Calls Try.prog 80 #[p.v, .agg #[V]] w fun e w' => e = .returned (.int .i64 er) ∧ Below w.heap.size w w' := by
  have hB := ((Below.refl w.heap.size w).alloc (by simp <;> omega) (.cells #[.int .i64 p.top, .int .i64 p.bank, .int .i64 p.siphon, .int .i64 p.start, .int .i64 p.positions, .int .i64 p.rate, .int .i64 p.step, .int .i64 p.pass, .int .i64 p.feed, .int .i64 p.pipe, .int .i64 p.orders, .int .i64 p.age] 55)).alloc (by simp <;> omega) (.cells #[V] 63)
  have X3 := Box.newAt (w := w.alloc (.cells #[.int .i64 p.top, .int .i64 p.bank, .int .i64 p.siphon, .int .i64 p.start, .int .i64 p.positions, .int .i64 p.rate, .int .i64 p.step, .int .i64 p.pass, .int .i64 p.feed, .int .i64 p.pipe, .int .i64 p.orders, .int .i64 p.age] 55)) (n := w.heap.size + 1) [V] 63 (by simp)
  have HC := Lib.hid (hC.later hB)
  by_cases h0 : p.checkT = 0
  · have h1 := h.out
    unfold askT at h1
    rw [if_pos h0] at h1
    have H1 := Lib.hid h1
    have H0 := Lib.hid h0
    clear h1 h0
    go_enter Try.func80, Try.ntmps80
    go_wp2_with fail
    refine (rcheck_at H0 _).mono ?_
    rintro e w1 ⟨rfl, hb⟩
    have HC1 := Lib.hid ((HC.out.below hb).more hb.size)
    have X3 := X3.later hb
    have hB := hB.trans (hb.mono hB.size)
    clear hb HC
    have X3c0 : w1.cell? ⟨w.heap.size + 1, 0, none⟩ = some (V) := X3.cell 0
    have X3f0 : w1.frozen? ⟨w.heap.size + 1, 0, none⟩ = false := X3.free 0
    have X3z : w.heap.size + 1 < w1.heap.size := X3.lt
    go_wp2_with fail
    refine (rgcheck_at H1 HC1.out).mono ?_
    rintro e w2 ⟨rfl, hb⟩
    go_wp2
    go_ret
    exact ⟨rfl, hB.trans (hb.mono hB.size)⟩
  · have h1 := h.out
    unfold askT at h1
    rw [if_neg h0] at h1
    have hd : (er != 0) = true := by simp [← h1, h0]
    have H1 := Lib.hid h1
    clear h1 h0
    go_enter Try.func80, Try.ntmps80
    go_wp2_with fail
    refine (rcheck_at H1 _).mono ?_
    rintro e w1 ⟨rfl, hb⟩
    go_wp2
    go_ret
    exact ⟨rfl, hB.trans (hb.mono hB.size)⟩

theorem rbSafe_is {p : Pl} {s : St} {w : World} {q : Bool} (h : Hid (p.safeB s = q)) : Calls Try.prog 83 #[p.v, s.v] w fun e w' => e = .returned (.bool q) ∧ Below w.heap.size w w' := by
  obtain ⟨q', er, hs⟩ : ∃ q er, Hid (p.safeT s = (q, er)) := ⟨_, _, rfl⟩
  obtain rfl : q' = q := by
    have h1 := h.out
    unfold Pl.safeB at h1
    rw [hs.out] at h1
    exact h1
  have her : q' = true → er = 0 := by
    intro hq
    have h1 := hs.out
    unfold Pl.safeT at h1
    split at h1
    · split at h1
      · simp only [Prod.mk.injEq] at h1
        exact h1.2.symm
      · simp only [Prod.mk.injEq] at h1
        rw [hq] at h1
        cases h1.1
    · simp only [Prod.mk.injEq] at h1
      rw [hq] at h1
      cases h1.1
  have hB := ((Below.refl w.heap.size w).alloc (by simp <;> omega) (.cells #[.int .i64 p.top, .int .i64 p.bank, .int .i64 p.siphon, .int .i64 p.start, .int .i64 p.positions, .int .i64 p.rate, .int .i64 p.step, .int .i64 p.pass, .int .i64 p.feed, .int .i64 p.pipe, .int .i64 p.orders, .int .i64 p.age] 55)).alloc (by simp <;> omega) (.cells #[.int .i64 s.level, .int .i64 s.position, .int .i64 s.p0, .int .i64 s.p1, .int .i64 s.order, .int .i64 s.age] 51)
  cases q' with
  | true =>
    obtain rfl := her rfl
    clear her
    go_enter Try.func83, Try.ntmps83
    go_wp2_with fail
    refine (rsafe_is hs).mono ?_
    rintro e w1 ⟨rfl, hb⟩
    go_wp2
    go_ret
    exact ⟨rfl, hB.trans (hb.mono hB.size)⟩
  | false =>
    clear her
    go_enter Try.func83, Try.ntmps83
    go_wp2_with fail
    refine (rsafe_is hs).mono ?_
    rintro e w1 ⟨rfl, hb⟩
    go_wp2
    go_ret
    exact ⟨rfl, hB.trans (hb.mono hB.size)⟩

set_option maxHeartbeats 2000000 in
theorem rbNext_is {p : Pl} {c : List Ln} {V : Value} {s : St} {x : Sh} {w : World} {t : St} {ou er : Int} (h : Hid (nextT p c s x = (t, ou, er))) (hC : CodeAt w w.heap.size V c) :
    Calls Try.prog 84 #[p.v, .agg #[V], s.v, x.v] w fun e w' => e = .returned t.v ∧ Below w.heap.size w w' := by
  obtain ⟨A, m, k, rfl⟩ : ∃ A m k, V = .slice A m k := by
    obtain ⟨A, k, rfl, _⟩ := hC.form
    exact ⟨A, _, k, rfl⟩
  have hB := (((((Below.refl w.heap.size w).alloc (by simp <;> omega) (.cells #[.int .i64 p.top, .int .i64 p.bank, .int .i64 p.siphon, .int .i64 p.start, .int .i64 p.positions, .int .i64 p.rate, .int .i64 p.step, .int .i64 p.pass, .int .i64 p.feed, .int .i64 p.pipe, .int .i64 p.orders, .int .i64 p.age] 55)).alloc (by simp <;> omega) (.cells #[.slice A m k] 63)).alloc (by simp <;> omega) (.cells #[.int .i64 s.level, .int .i64 s.position, .int .i64 s.p0, .int .i64 s.p1, .int .i64 s.order, .int .i64 s.age] 51)).alloc (by simp <;> omega) (.cells #[.int .i64 x.feed, .int .i64 x.msg] 71)).alloc (by simp <;> omega) (.cells #[.int .i64 0, .int .i64 0, .int .i64 0, .int .i64 0, .int .i64 0, .int .i64 0] 51)
  have X3 := ((((Box.new w [.int .i64 p.top, .int .i64 p.bank, .int .i64 p.siphon, .int .i64 p.start, .int .i64 p.positions, .int .i64 p.rate, .int .i64 p.step, .int .i64 p.pass, .int .i64 p.feed, .int .i64 p.pipe, .int .i64 p.orders, .int .i64 p.age] 55).alloc (.cells #[.slice A m k] 63)).alloc (.cells #[.int .i64 s.level, .int .i64 s.position, .int .i64 s.p0, .int .i64 s.p1, .int .i64 s.order, .int .i64 s.age] 51)).alloc (.cells #[.int .i64 x.feed, .int .i64 x.msg] 71)).alloc (.cells #[.int .i64 0, .int .i64 0, .int .i64 0, .int .i64 0, .int .i64 0, .int .i64 0] 51)
  have X4 := (((Box.newAt (w := w.alloc (.cells #[.int .i64 p.top, .int .i64 p.bank, .int .i64 p.siphon, .int .i64 p.start, .int .i64 p.positions, .int .i64 p.rate, .int .i64 p.step, .int .i64 p.pass, .int .i64 p.feed, .int .i64 p.pipe, .int .i64 p.orders, .int .i64 p.age] 55)) (n := w.heap.size + 1) [.slice A m k] 63 (by simp)).alloc (.cells #[.int .i64 s.level, .int .i64 s.position, .int .i64 s.p0, .int .i64 s.p1, .int .i64 s.order, .int .i64 s.age] 51)).alloc (.cells #[.int .i64 x.feed, .int .i64 x.msg] 71)).alloc (.cells #[.int .i64 0, .int .i64 0, .int .i64 0, .int .i64 0, .int .i64 0, .int .i64 0] 51)
  have X5 := ((Box.newAt (w := (w.alloc (.cells #[.int .i64 p.top, .int .i64 p.bank, .int .i64 p.siphon, .int .i64 p.start, .int .i64 p.positions, .int .i64 p.rate, .int .i64 p.step, .int .i64 p.pass, .int .i64 p.feed, .int .i64 p.pipe, .int .i64 p.orders, .int .i64 p.age] 55)).alloc (.cells #[.slice A m k] 63)) (n := w.heap.size + 1 + 1) [.int .i64 s.level, .int .i64 s.position, .int .i64 s.p0, .int .i64 s.p1, .int .i64 s.order, .int .i64 s.age] 51 (by simp)).alloc (.cells #[.int .i64 x.feed, .int .i64 x.msg] 71)).alloc (.cells #[.int .i64 0, .int .i64 0, .int .i64 0, .int .i64 0, .int .i64 0, .int .i64 0] 51)
  have X6 := (Box.newAt (w := ((w.alloc (.cells #[.int .i64 p.top, .int .i64 p.bank, .int .i64 p.siphon, .int .i64 p.start, .int .i64 p.positions, .int .i64 p.rate, .int .i64 p.step, .int .i64 p.pass, .int .i64 p.feed, .int .i64 p.pipe, .int .i64 p.orders, .int .i64 p.age] 55)).alloc (.cells #[.slice A m k] 63)).alloc (.cells #[.int .i64 s.level, .int .i64 s.position, .int .i64 s.p0, .int .i64 s.p1, .int .i64 s.order, .int .i64 s.age] 51)) (n := w.heap.size + 1 + 1 + 1) [.int .i64 x.feed, .int .i64 x.msg] 71 (by simp)).alloc (.cells #[.int .i64 0, .int .i64 0, .int .i64 0, .int .i64 0, .int .i64 0, .int .i64 0] 51)
  have X7 := Box.newAt (w := (((w.alloc (.cells #[.int .i64 p.top, .int .i64 p.bank, .int .i64 p.siphon, .int .i64 p.start, .int .i64 p.positions, .int .i64 p.rate, .int .i64 p.step, .int .i64 p.pass, .int .i64 p.feed, .int .i64 p.pipe, .int .i64 p.orders, .int .i64 p.age] 55)).alloc (.cells #[.slice A m k] 63)).alloc (.cells #[.int .i64 s.level, .int .i64 s.position, .int .i64 s.p0, .int .i64 s.p1, .int .i64 s.order, .int .i64 s.age] 51)).alloc (.cells #[.int .i64 x.feed, .int .i64 x.msg] 71)) (n := w.heap.size + 1 + 1 + 1 + 1) [.int .i64 0, .int .i64 0, .int .i64 0, .int .i64 0, .int .i64 0, .int .i64 0] 51 (by simp)
  have HC := Lib.hid (hC.later hB)
  clear hC
  go_enter Try.func84, Try.ntmps84
  go_upto_region 1 with fail
  generalize ((((w.alloc (.cells #[.int .i64 p.top, .int .i64 p.bank, .int .i64 p.siphon, .int .i64 p.start, .int .i64 p.positions, .int .i64 p.rate, .int .i64 p.step, .int .i64 p.pass, .int .i64 p.feed, .int .i64 p.pipe, .int .i64 p.orders, .int .i64 p.age] 55)).alloc (.cells #[.slice A m k] 63)).alloc (.cells #[.int .i64 s.level, .int .i64 s.position, .int .i64 s.p0, .int .i64 s.p1, .int .i64 s.order, .int .i64 s.age] 51)).alloc (.cells #[.int .i64 x.feed, .int .i64 x.msg] 71)).alloc (.cells #[.int .i64 0, .int .i64 0, .int .i64 0, .int .i64 0, .int .i64 0, .int .i64 0] 51) = w0 at X3 X4 X5 X6 X7 hB HC ⊢
  have X3c0 : w0.cell? ⟨w.heap.size, 0, none⟩ = some (.int .i64 p.top) := X3.cell 0
  have X3c1 : w0.cell? ⟨w.heap.size, 1, none⟩ = some (.int .i64 p.bank) := X3.cell 1
  have X3c2 : w0.cell? ⟨w.heap.size, 2, none⟩ = some (.int .i64 p.siphon) := X3.cell 2
  have X3c3 : w0.cell? ⟨w.heap.size, 3, none⟩ = some (.int .i64 p.start) := X3.cell 3
  have X3c4 : w0.cell? ⟨w.heap.size, 4, none⟩ = some (.int .i64 p.positions) := X3.cell 4
  have X3c5 : w0.cell? ⟨w.heap.size, 5, none⟩ = some (.int .i64 p.rate) := X3.cell 5
  have X3c6 : w0.cell? ⟨w.heap.size, 6, none⟩ = some (.int .i64 p.step) := X3.cell 6
  have X3c7 : w0.cell? ⟨w.heap.size, 7, none⟩ = some (.int .i64 p.pass) := X3.cell 7
  have X3c8 : w0.cell? ⟨w.heap.size, 8, none⟩ = some (.int .i64 p.feed) := X3.cell 8
  have X3c9 : w0.cell? ⟨w.heap.size, 9, none⟩ = some (.int .i64 p.pipe) := X3.cell 9
  have X3c10 : w0.cell? ⟨w.heap.size, 10, none⟩ = some (.int .i64 p.orders) := X3.cell 10
  have X3c11 : w0.cell? ⟨w.heap.size, 11, none⟩ = some (.int .i64 p.age) := X3.cell 11
  have X4c0 : w0.cell? ⟨w.heap.size + 1, 0, none⟩ = some (.slice A m k) := X4.cell 0
  have X5c0 : w0.cell? ⟨w.heap.size + 1 + 1, 0, none⟩ = some (.int .i64 s.level) := X5.cell 0
  have X5c1 : w0.cell? ⟨w.heap.size + 1 + 1, 1, none⟩ = some (.int .i64 s.position) := X5.cell 1
  have X5c2 : w0.cell? ⟨w.heap.size + 1 + 1, 2, none⟩ = some (.int .i64 s.p0) := X5.cell 2
  have X5c3 : w0.cell? ⟨w.heap.size + 1 + 1, 3, none⟩ = some (.int .i64 s.p1) := X5.cell 3
  have X5c4 : w0.cell? ⟨w.heap.size + 1 + 1, 4, none⟩ = some (.int .i64 s.order) := X5.cell 4
  have X5c5 : w0.cell? ⟨w.heap.size + 1 + 1, 5, none⟩ = some (.int .i64 s.age) := X5.cell 5
  have X6c0 : w0.cell? ⟨w.heap.size + 1 + 1 + 1, 0, none⟩ = some (.int .i64 x.feed) := X6.cell 0
  have X6c1 : w0.cell? ⟨w.heap.size + 1 + 1 + 1, 1, none⟩ = some (.int .i64 x.msg) := X6.cell 1
  have X7z := X7.lt
  go_wp2_with fail
  refine (rnext_is h HC.out).mono ?_
  rintro e w1 ⟨rfl, hb⟩
  have X7 := X7.later hb
  have hB := hB.trans (hb.mono hB.size)
  clear hb HC X3 X4 X5 X6 X3c0 X3c1 X3c2 X3c3 X3c4 X3c5 X3c6 X3c7 X3c8 X3c9 X3c10 X3c11 X4c0 X5c0 X5c1 X5c2 X5c3 X5c4 X5c5 X6c0 X6c1 X7z
  obtain ⟨t0, t1, t2, t3, t4, t5⟩ := t
  go_upto_region 2 with fail
  have X9 := Box.new w1 [.int .i64 t0, .int .i64 t1, .int .i64 t2, .int .i64 t3, .int .i64 t4, .int .i64 t5] 51
  have X7 := X7.alloc (.cells #[.int .i64 t0, .int .i64 t1, .int .i64 t2, .int .i64 t3, .int .i64 t4, .int .i64 t5] 51)
  have hB := hB.alloc hB.size (.cells #[.int .i64 t0, .int .i64 t1, .int .i64 t2, .int .i64 t3, .int .i64 t4, .int .i64 t5] 51)
  generalize w1.alloc (.cells #[.int .i64 t0, .int .i64 t1, .int .i64 t2, .int .i64 t3, .int .i64 t4, .int .i64 t5] 51) = w2 at X7 X9 hB ⊢
  generalize w1.heap.size = D at X9 ⊢
  have X9z := X9.lt
  have X9c0 : w2.cell? ⟨D, 0, none⟩ = some (.int .i64 t0) := X9.cell 0
  have X9c1 : w2.cell? ⟨D, 1, none⟩ = some (.int .i64 t1) := X9.cell 1
  have X9c2 : w2.cell? ⟨D, 2, none⟩ = some (.int .i64 t2) := X9.cell 2
  have X9c3 : w2.cell? ⟨D, 3, none⟩ = some (.int .i64 t3) := X9.cell 3
  have X9c4 : w2.cell? ⟨D, 4, none⟩ = some (.int .i64 t4) := X9.cell 4
  have X9c5 : w2.cell? ⟨D, 5, none⟩ = some (.int .i64 t5) := X9.cell 5
  have X7c0 : w2.cell? ⟨w.heap.size + 1 + 1 + 1 + 1, 0, none⟩ = some (.int .i64 0) := X7.cell 0
  have X7f0 : w2.frozen? ⟨w.heap.size + 1 + 1 + 1 + 1, 0, none⟩ = false := X7.free 0
  have X7c1 : w2.cell? ⟨w.heap.size + 1 + 1 + 1 + 1, 1, none⟩ = some (.int .i64 0) := X7.cell 1
  have X7f1 : w2.frozen? ⟨w.heap.size + 1 + 1 + 1 + 1, 1, none⟩ = false := X7.free 1
  have X7c2 : w2.cell? ⟨w.heap.size + 1 + 1 + 1 + 1, 2, none⟩ = some (.int .i64 0) := X7.cell 2
  have X7f2 : w2.frozen? ⟨w.heap.size + 1 + 1 + 1 + 1, 2, none⟩ = false := X7.free 2
  have X7c3 : w2.cell? ⟨w.heap.size + 1 + 1 + 1 + 1, 3, none⟩ = some (.int .i64 0) := X7.cell 3
  have X7f3 : w2.frozen? ⟨w.heap.size + 1 + 1 + 1 + 1, 3, none⟩ = false := X7.free 3
  have X7c4 : w2.cell? ⟨w.heap.size + 1 + 1 + 1 + 1, 4, none⟩ = some (.int .i64 0) := X7.cell 4
  have X7f4 : w2.frozen? ⟨w.heap.size + 1 + 1 + 1 + 1, 4, none⟩ = false := X7.free 4
  have X7c5 : w2.cell? ⟨w.heap.size + 1 + 1 + 1 + 1, 5, none⟩ = some (.int .i64 0) := X7.cell 5
  have X7f5 : w2.frozen? ⟨w.heap.size + 1 + 1 + 1 + 1, 5, none⟩ = false := X7.free 5
  have X7z : w.heap.size + 1 + 1 + 1 + 1 < w2.heap.size := X7.lt
  go_wp2
  have hY := ((((((X7.set 0 (.int .i64 t0)).set 1 (.int .i64 t1)).set 2 (.int .i64 t2)).set 3 (.int .i64 t3)).set 4 (.int .i64 t4)).set 5 (.int .i64 t5))
  have hB := ((((((hB.setCell (p := ⟨w.heap.size + 1 + 1 + 1 + 1, 0, none⟩) (by simp <;> omega) (.int .i64 t0)).setCell (p := ⟨w.heap.size + 1 + 1 + 1 + 1, 1, none⟩) (by simp <;> omega) (.int .i64 t1)).setCell (p := ⟨w.heap.size + 1 + 1 + 1 + 1, 2, none⟩) (by simp <;> omega) (.int .i64 t2)).setCell (p := ⟨w.heap.size + 1 + 1 + 1 + 1, 3, none⟩) (by simp <;> omega) (.int .i64 t3)).setCell (p := ⟨w.heap.size + 1 + 1 + 1 + 1, 4, none⟩) (by simp <;> omega) (.int .i64 t4)).setCell (p := ⟨w.heap.size + 1 + 1 + 1 + 1, 5, none⟩) (by simp <;> omega) (.int .i64 t5))
  generalize ((((((w2.setCell ⟨w.heap.size + 1 + 1 + 1 + 1, 0, none⟩ (.int .i64 t0)).setCell ⟨w.heap.size + 1 + 1 + 1 + 1, 1, none⟩ (.int .i64 t1)).setCell ⟨w.heap.size + 1 + 1 + 1 + 1, 2, none⟩ (.int .i64 t2)).setCell ⟨w.heap.size + 1 + 1 + 1 + 1, 3, none⟩ (.int .i64 t3)).setCell ⟨w.heap.size + 1 + 1 + 1 + 1, 4, none⟩ (.int .i64 t4)).setCell ⟨w.heap.size + 1 + 1 + 1 + 1, 5, none⟩ (.int .i64 t5)) = W at hY hB ⊢
  have hYc0 : W.cell? ⟨w.heap.size + 1 + 1 + 1 + 1, 0, none⟩ = some (.int .i64 t0) := hY.cell 0
  have hYc1 : W.cell? ⟨w.heap.size + 1 + 1 + 1 + 1, 1, none⟩ = some (.int .i64 t1) := hY.cell 1
  have hYc2 : W.cell? ⟨w.heap.size + 1 + 1 + 1 + 1, 2, none⟩ = some (.int .i64 t2) := hY.cell 2
  have hYc3 : W.cell? ⟨w.heap.size + 1 + 1 + 1 + 1, 3, none⟩ = some (.int .i64 t3) := hY.cell 3
  have hYc4 : W.cell? ⟨w.heap.size + 1 + 1 + 1 + 1, 4, none⟩ = some (.int .i64 t4) := hY.cell 4
  have hYc5 : W.cell? ⟨w.heap.size + 1 + 1 + 1 + 1, 5, none⟩ = some (.int .i64 t5) := hY.cell 5
  refine bodyPost_ret (v := .agg #[.int .i64 t0, .int .i64 t1, .int .i64 t2, .int .i64 t3, .int .i64 t4, .int .i64 t5]) (by simp [results, Try.results84, go_sem, hYc0, hYc1, hYc2, hYc3, hYc4, hYc5]) rfl ?_
  exact ⟨rfl, hB⟩

theorem rbPipes_is {p : Pl} {w : World} (hp : 0 ≤ p.pipe ∧ p.pipe ≤ 2) : Calls Try.prog 93 #[p.v] w fun e w' => e = .returned (.tuple #[.int .i64 p.m0, .int .i64 p.m1]) ∧ Below w.heap.size w w' := by
  obtain ⟨a0, a1, a2, a3, a4, a5, a6, a7, a8, a9, a10, a11⟩ := p
  dsimp only at hp
  rcases (show a9 = 0 ∨ a9 = 1 ∨ a9 = 2 by omega) with rfl | rfl | rfl
  · go_enter Try.func93, Try.ntmps93
    go_wp2
    go_ret2
    exact ⟨by simp [Pl.m0, Pl.m1], (Below.refl _ _).alloc (Nat.le_refl _) _⟩
  · go_enter Try.func93, Try.ntmps93
    go_wp2
    go_ret2
    exact ⟨by simp [Pl.m0, Pl.m1], (Below.refl _ _).alloc (Nat.le_refl _) _⟩
  · go_enter Try.func93, Try.ntmps93
    go_wp2_with fail
    go_quiet (fail)
    go_wp2
    go_ret2
    exact ⟨by simp [Pl.m0, Pl.m1], bel_drewN ((Below.refl _ _).alloc (Nat.le_refl _) _) nq⟩

theorem elem_state : ∃ i, Elem 35 51 i (.agg #[.int .i64 0, .int .i64 0, .int .i64 0, .int .i64 0, .int .i64 0, .int .i64 0]) 6 48 := by
  obtain ⟨i, h1, h2, h3, h4⟩ := info_parts (show (Try.prog.info? 51).map (fun i => (i.zero, i.size, i.bytes)) = some (some (.agg #[.int .i64 0, .int .i64 0, .int .i64 0, .int .i64 0, .int .i64 0, .int .i64 0]), 6, 48) by kernel_rfl)
  exact ⟨i, Try.underlying35, h1, h2, h3, h4, by decide, by decide⟩
theorem elem_shock : ∃ i, Elem 146 71 i (.agg #[.int .i64 0, .int .i64 0]) 2 16 := by
  obtain ⟨i, h1, h2, h3, h4⟩ := info_parts (show (Try.prog.info? 71).map (fun i => (i.zero, i.size, i.bytes)) = some (some (.agg #[.int .i64 0, .int .i64 0]), 2, 16) by kernel_rfl)
  exact ⟨i, Try.underlying146, h1, h2, h3, h4, by decide, by decide⟩
abbrev Sh.cells (x : Sh) : List Value := [.int .i64 x.feed, .int .i64 x.msg]
abbrev OwnSt (w : World) (base : Nat) (V : Value) (l : List St) : Prop := OwnE St.cells 6 w base 51 V l
abbrev OwnSh (w : World) (base : Nat) (V : Value) (l : List Sh) : Prop := OwnE Sh.cells 2 w base 71 V l
theorem st_one (x : St) : ∀ u ∈ x.cells, u.oneCell' = true := by
  intro u hu
  simp only [List.mem_cons, List.not_mem_nil, or_false] at hu
  rcases hu with rfl | rfl | rfl | rfl | rfl | rfl <;> rfl
theorem sh_one (x : Sh) : ∀ u ∈ x.cells, u.oneCell' = true := by
  intro u hu
  simp only [List.mem_cons, List.not_mem_nil, or_false] at hu
  rcases hu with rfl | rfl <;> rfl
def Pl.preSh (p : Pl) (k : Nat) : List Sh := (List.range k).map p.shAt
def Pl.preSt (p : Pl) (k : Nat) : List St := (List.range k).map p.stAt
theorem preSh_succ (p : Pl) (k : Nat) : p.preSh (k + 1) = p.preSh k ++ [p.shAt k] := by rw [Pl.preSh, List.range_succ, List.map_append]; rfl
theorem preSt_succ (p : Pl) (k : Nat) : p.preSt (k + 1) = p.preSt k ++ [p.stAt k] := by rw [Pl.preSt, List.range_succ, List.map_append]; rfl
theorem preSh_len (p : Pl) (k : Nat) : (p.preSh k).length = k := by simp [Pl.preSh]
theorem preSt_len (p : Pl) (k : Nat) : (p.preSt k).length = k := by simp [Pl.preSt]

set_option maxRecDepth 100000 in
set_option maxHeartbeats 4000000 in
theorem rbShocks_any (p : Pl) (hv : Hid p.Valid) (w : World) : Calls Try.prog 82 #[p.v] w fun e w' => ∃ V, e = .returned V ∧ OwnSh w' (w.heap.size + 1) V p.shocks ∧ Below w.heap.size w w' := by
  obtain ⟨i0, E⟩ := elem_shock
  have hf := hv.out.feed
  have ho := hv.out.orders
  obtain ⟨nf, hnf⟩ : ∃ nf, p.nf = nf := ⟨_, rfl⟩
  obtain ⟨nm, hnm⟩ : ∃ nm, p.nm = nm := ⟨_, rfl⟩
  have ef : p.feed = (nf : Int) - 1 := by rw [← hnf, Pl.nf]; omega
  have eo : p.orders = (nm : Int) - 2 := by rw [← hnm, Pl.nm]; omega
  have hnf16 : nf ≤ 16 := by omega
  have hnm9 : nm ≤ 9 := by omega
  have HNF := Lib.hid hnf
  have HNM := Lib.hid hnm
  have EF := Lib.hid ef
  have EO := Lib.hid eo
  clear hnf hnm ef eo hf ho
  go_enter Try.func82, Try.ntmps82
  go_upto_region 3 with fail
  have X1 := Box.new w [.int .i64 p.top, .int .i64 p.bank, .int .i64 p.siphon, .int .i64 p.start, .int .i64 p.positions, .int .i64 p.rate, .int .i64 p.step, .int .i64 p.pass, .int .i64 p.feed, .int .i64 p.pipe, .int .i64 p.orders, .int .i64 p.age] 55
  have hB := (Below.refl w.heap.size w).alloc (Nat.le_refl _) (.cells #[.int .i64 p.top, .int .i64 p.bank, .int .i64 p.siphon, .int .i64 p.start, .int .i64 p.positions, .int .i64 p.rate, .int .i64 p.step, .int .i64 p.pass, .int .i64 p.feed, .int .i64 p.pipe, .int .i64 p.orders, .int .i64 p.age] 55)
  have hsz : w.heap.size + 1 ≤ (w.alloc (.cells #[.int .i64 p.top, .int .i64 p.bank, .int .i64 p.siphon, .int .i64 p.start, .int .i64 p.positions, .int .i64 p.rate, .int .i64 p.step, .int .i64 p.pass, .int .i64 p.feed, .int .i64 p.pipe, .int .i64 p.orders, .int .i64 p.age] 55)).heap.size := by simp
  generalize w.alloc (.cells #[.int .i64 p.top, .int .i64 p.bank, .int .i64 p.siphon, .int .i64 p.start, .int .i64 p.positions, .int .i64 p.rate, .int .i64 p.step, .int .i64 p.pass, .int .i64 p.feed, .int .i64 p.pipe, .int .i64 p.orders, .int .i64 p.age] 55) = w0 at X1 hB hsz ⊢
  go_loopw [4, 3] (fun i v wr => ∃ f : Nat, f ≤ nf ∧ i = .int .i64 f ∧ Hid (OwnSh wr (w.heap.size + 1) v (p.preSh (f * nm))) ∧ Box wr w.heap.size [.int .i64 p.top, .int .i64 p.bank, .int .i64 p.siphon, .int .i64 p.start, .int .i64 p.positions, .int .i64 p.rate, .int .i64 p.step, .int .i64 p.pass, .int .i64 p.feed, .int .i64 p.pipe, .int .i64 p.orders, .int .i64 p.age] ∧ Below w.heap.size w wr ∧ w.heap.size + 1 ≤ wr.heap.size) (fun i _ _ => nf - (intOf i).toNat)
  case atStart =>
    refine ⟨0, by omega, rfl, ?_, X1, hB, hsz⟩
    rw [Nat.zero_mul]
    exact Lib.hid (ownE_nil _ _ _ _ _)
  case round =>
    clear X1 hB hsz
    obtain ⟨f, hf, rfl, hO, X1, hB, hsz⟩ := hrel
    obtain ⟨wo, rfl⟩ : ∃ wo : World, wo = wr := ⟨_, rfl⟩
    have hz := X1.lt
    have x8 : wo.cell? ⟨w.heap.size, 8, none⟩ = some (.int .i64 p.feed) := X1.cell 8
    rcases Nat.lt_or_ge f nf with hlt | hge
    rotate_left
    · obtain rfl : f = nf := by omega
      have hd : decide ((f : Int) ≤ p.feed) = false := decide_eq_false (by have := EF.out; omega)
      have hd2 : ¬ ((f : Int) ≤ p.feed) := by have := EF.out; omega
      go_wp2
      go_ret
      refine ⟨_, rfl, ?_, hB⟩
      have := hO.out
      rw [← HNF.out, ← HNM.out] at this
      exact this
    have hd : decide ((f : Int) ≤ p.feed) = true := decide_eq_true (by have := EF.out; omega)
    have hd2 : (f : Int) ≤ p.feed := by have := EF.out; omega
    go_wp2_with fail
    clear x8 hd hd2 hz
    go_loopw [5, 3] (fun i v wr => ∃ m : Nat, m ≤ nm ∧ i = .int .i64 ((m : Int) - 1) ∧ Hid (OwnSh wr (w.heap.size + 1) v (p.preSh (f * nm + m))) ∧ Box wr w.heap.size [.int .i64 p.top, .int .i64 p.bank, .int .i64 p.siphon, .int .i64 p.start, .int .i64 p.positions, .int .i64 p.rate, .int .i64 p.step, .int .i64 p.pass, .int .i64 p.feed, .int .i64 p.pipe, .int .i64 p.orders, .int .i64 p.age] ∧ Below w.heap.size w wr ∧ w.heap.size + 1 ≤ wr.heap.size) (fun i _ _ => nm - (intOf i + 1).toNat)
    case atStart => exact ⟨0, by omega, by go_num, hO, X1, hB, hsz⟩
    case round =>
      clear X1 hB hsz hO
      obtain ⟨m, hm, rfl, hO, X1, hB, hsz⟩ := hrel
      obtain ⟨wi, rfl⟩ : ∃ wi : World, wi = wr := ⟨_, rfl⟩
      have hz := X1.lt
      have x10 : wi.cell? ⟨w.heap.size, 10, none⟩ = some (.int .i64 p.orders) := X1.cell 10
      rcases Nat.lt_or_ge m nm with hlm | hgm
      rotate_left
      · obtain rfl : m = nm := by omega
        have hd : decide ((m : Int) - 1 ≤ p.orders) = false := decide_eq_false (by have := EO.out; omega)
        have hd2 : ¬ ((m : Int) - 1 ≤ p.orders) := by have := EO.out; omega
        go_wp2
        refine ⟨⟨f + 1, by omega, by go_num, ?_, X1, hB, hsz⟩, by simp [intOf]; omega⟩
        rw [Nat.add_mul, Nat.one_mul]
        exact hO
      have hd : decide ((m : Int) - 1 ≤ p.orders) = true := decide_eq_true (by have := EO.out; omega)
      have hd2 : (m : Int) - 1 ≤ p.orders := by have := EO.out; omega
      have hsh : p.shAt (f * nm + m) = ⟨(f : Int), (m : Int) - 1⟩ := by
        have := shAt_at p (f := f) (m := m) (by rw [HNM.out]; exact hlm)
        rw [HNM.out] at this
        exact this
      have hnx := preSh_succ p (f * nm + m)
      rw [hsh] at hnx
      have HNX := Lib.hid hnx
      clear hnx hsh
      have hlen : (p.preSh (f * nm + m)).length = f * nm + m := preSh_len _ _
      have hle : f * nm ≤ 16 * 9 := Nat.mul_le_mul (by omega) hnm9
      have hbS := (Below.refl wi.heap.size wi).alloc (Nat.le_refl _) (.cells #[.int .i64 (f : Int), .int .i64 ((m : Int) - 1)] 71)
      have hO1 := hO.out.later hbS
      have XN := Box.new wi [.int .i64 (f : Int), .int .i64 ((m : Int) - 1)] 71
      obtain ⟨g', c', w', hr, hO2, hg⟩ := run_appE E (fun _ => rfl) sh_one (by omega) (⟨(f : Int), (m : Int) - 1⟩ : Sh) 146 hO1 XN (Nat.le_trans hsz hbS.size) (by omega)
      rw [← HNX.out] at hO2
      rw [hlen] at hO2 hr
      have hB1 := hB.trans (hbS.mono hB.size)
      have hB2 := OwnE.grown hO1 hg (by omega) hB1 hB1.size
      have X2 := box_grown hO1 hg (X1.alloc (.cells #[.int .i64 (f : Int), .int .i64 ((m : Int) - 1)] 71)) (by omega)
      have hsz2 := Nat.le_trans hsz (Nat.le_trans hbS.size hg.size)
      have HO2 := Lib.hid hO2
      clear hO2 hg hO1 XN hB1 hbS hO
      go_wp2
      refine ⟨⟨m + 1, by omega, by go_num, ?_, X2, hB2, hsz2⟩, by simp [intOf]; omega⟩
      rw [← Nat.add_assoc]
      exact HO2

theorem stAt_of {p : Pl} (hv : p.Valid) {l q x y o a : Nat} (h1 : q < p.n0) (h2 : x < p.nx) (h3 : y < p.ny) (h4 : o < p.no) (h5 : a < p.na) :
    p.stAt (((((l * p.n0 + q) * p.nx + x) * p.ny + y) * p.no + o) * p.na + a) = ⟨(l : Int), (q : Int), (x : Int), (y : Int), (o : Int), (a : Int)⟩ := by
  obtain ⟨d5, r5⟩ := div_step (q := (((l * p.n0 + q) * p.nx + x) * p.ny + y) * p.no + o) h5
  obtain ⟨d4, r4⟩ := div_step (q := ((l * p.n0 + q) * p.nx + x) * p.ny + y) h4
  obtain ⟨d3, r3⟩ := div_step (q := (l * p.n0 + q) * p.nx + x) h3
  obtain ⟨d2, r2⟩ := div_step (q := l * p.n0 + q) h2
  obtain ⟨d1, r1⟩ := div_step (q := l) h1
  rw [stAt_q, d5, r5, d4, r4, d3, r3, d2, r2, d1, r1]
theorem up_mul (K N P : Nat) : (K * N + N) * P = (K + 1) * (N * P) := by rw [← Nat.mul_assoc, Nat.add_mul K 1 N, Nat.one_mul]
theorem up_one (K N : Nat) : K * N + N = (K + 1) * N := by rw [Nat.add_mul, Nat.one_mul]
theorem start_mul (K N P : Nat) : K * (N * P) = (K * N + 0) * P := by rw [Nat.add_zero, Nat.mul_assoc]
theorem lt_up {a b N M : Nat} (h1 : a < M) (h2 : b < N) : a * N + b < M * N := by
  have := Nat.mul_le_mul_right N (show a + 1 ≤ M by omega)
  rw [Nat.add_mul, Nat.one_mul] at this
  omega

set_option maxRecDepth 100000 in
set_option maxHeartbeats 8000000 in
theorem rbStates_any (p : Pl) (hv : Hid p.Valid) (hc : Hid (p.count ≤ 1048576)) (w : World) : Calls Try.prog 81 #[p.v] w fun e w' => ∃ V, e = .returned V ∧ ∃ B, w.heap.size ≤ B ∧ OwnSt w' B V p.states ∧ Below w.heap.size w w' := by
  obtain ⟨i0, E⟩ := elem_state
  obtain ⟨p1, p2, p3, p4, p5⟩ := hv.out.ns
  obtain ⟨m1, m2⟩ := hv.out.maxes
  have h1 := hv.out.positions
  have h2 := hv.out.top
  have h3 := hv.out.orders
  have h4 := hv.out.age
  change (p.nx : Int) - 1 = p.m0 at m1
  change (p.ny : Int) - 1 = p.m1 at m2
  have e0 : p.top = ((p.top + 1).toNat : Int) - 1 := by omega
  have e1 : p.positions = (p.n0 : Int) - 1 := by unfold Pl.n0; omega
  have e4 : p.orders = (p.no : Int) - 1 := by unfold Pl.no; omega
  have e5 : p.age = (p.na : Int) - 1 := by unfold Pl.na; omega
  have hst := fun l q x y o a => @stAt_of p hv.out l q x y o a
  have hcc : p.count = (p.top + 1).toNat * (p.n0 * (p.nx * (p.ny * (p.no * p.na)))) := rfl
  have hc' := hc.out
  rw [hcc] at hc'
  have hpipe := hv.out.pipe
  generalize hN0 : (p.top + 1).toNat = N0 at e0 hcc hc'
  generalize hN1 : p.n0 = N1 at e1 hst hcc hc' p1
  generalize hN2 : p.nx = N2 at m1 hst hcc hc' p2
  generalize hN3 : p.ny = N3 at m2 hst hcc hc' p3
  generalize hN4 : p.no = N4 at e4 hst hcc hc' p4
  generalize hN5 : p.na = N5 at e5 hst hcc hc' p5
  have E0 := Lib.hid e0
  have E1 := Lib.hid e1
  have E2 : Hid (p.m0 = (N2 : Int) - 1) := Lib.hid m1.symm
  have E3 : Hid (p.m1 = (N3 : Int) - 1) := Lib.hid m2.symm
  have E4 := Lib.hid e4
  have E5 := Lib.hid e5
  have HST := Lib.hid hst
  have HCC := Lib.hid hcc
  have HC := Lib.hid hc'
  have hsmall : N0 ≤ 64 ∧ N1 ≤ 16 ∧ N4 ≤ 8 ∧ N5 ≤ 8 ∧ N2 ≤ 16 ∧ N3 ≤ 16 := by
    have h5 := hv.out.feed
    refine ⟨by omega, by omega, by omega, by omega, ?_, ?_⟩
    · rw [← hN2]; unfold Pl.nx; split <;> omega
    · rw [← hN3]; unfold Pl.ny; split <;> omega
  obtain ⟨z0, z1, z4, z5, z2, z3⟩ := hsmall
  clear hN0 hN1 hN2 hN3 hN4 hN5 e0 e1 e4 e5 m1 m2 hst hcc hc' h1 h2 h3 h4
  go_enter Try.func81, Try.ntmps81
  go_wp2_with fail
  have X1 := Box.new w [.int .i64 p.top, .int .i64 p.bank, .int .i64 p.siphon, .int .i64 p.start, .int .i64 p.positions, .int .i64 p.rate, .int .i64 p.step, .int .i64 p.pass, .int .i64 p.feed, .int .i64 p.pipe, .int .i64 p.orders, .int .i64 p.age] 55
  have hB := (Below.refl w.heap.size w).alloc (Nat.le_refl _) (.cells #[.int .i64 p.top, .int .i64 p.bank, .int .i64 p.siphon, .int .i64 p.start, .int .i64 p.positions, .int .i64 p.rate, .int .i64 p.step, .int .i64 p.pass, .int .i64 p.feed, .int .i64 p.pipe, .int .i64 p.orders, .int .i64 p.age] 55)
  refine (rbPipes_is hpipe).mono ?_
  rintro e w0 ⟨rfl, hb⟩
  have X1 := X1.later hb
  have hB := hB.trans (hb.mono hB.size)
  clear hb
  go_upto_region 4 with fail
  have hBs : w.heap.size < w0.heap.size := X1.lt
  obtain ⟨B, hBe⟩ : ∃ B, w0.heap.size = B := ⟨_, rfl⟩
  have hsz : B ≤ w0.heap.size := by omega
  rw [hBe] at hBs
  clear hBe
  go_loopw [6, 5] (fun i V wr => ∃ l : Nat, l ≤ N0 ∧ i = .int .i64 l ∧ Hid (OwnSt wr B V (p.preSt (l * (N1 * (N2 * (N3 * (N4 * N5))))))) ∧ Box wr w.heap.size [.int .i64 p.top, .int .i64 p.bank, .int .i64 p.siphon, .int .i64 p.start, .int .i64 p.positions, .int .i64 p.rate, .int .i64 p.step, .int .i64 p.pass, .int .i64 p.feed, .int .i64 p.pipe, .int .i64 p.orders, .int .i64 p.age] ∧ Below w.heap.size w wr ∧ B ≤ wr.heap.size) (fun i _ _ => N0 - (intOf i).toNat)
  case atStart =>
    refine ⟨0, by omega, rfl, ?_, X1, hB, hsz⟩
    rw [Nat.zero_mul]
    exact Lib.hid (ownE_nil _ _ _ _ _)
  case round =>
    clear X1 hB hsz
    obtain ⟨l, hl, rfl, hO, X1, hB, hsz⟩ := hrel
    obtain ⟨wl, rfl⟩ : ∃ wl : World, wl = wr := ⟨_, rfl⟩
    have hz := X1.lt
    have xl : wl.cell? ⟨w.heap.size, 0, none⟩ = some (.int .i64 p.top) := X1.cell 0
    rcases Nat.lt_or_ge l N0 with hll | hge
    rotate_left
    · obtain rfl : l = N0 := by omega
      have hd2 : ¬ ((l : Int) ≤ p.top) := by have := E0.out; omega
      go_wp2
      go_ret
      refine ⟨_, rfl, B, by omega, ?_, hB⟩
      have := hO.out
      rw [← HCC.out] at this
      exact this
    have hd2 : (l : Int) ≤ p.top := by have := E0.out; omega
    go_wp2_with fail
    clear hd2 hz xl
    go_loopw [7, 5] (fun i V wr => ∃ q : Nat, q ≤ N1 ∧ i = .int .i64 q ∧ Hid (OwnSt wr B V (p.preSt ((l * N1 + q) * (N2 * (N3 * (N4 * N5)))))) ∧ Box wr w.heap.size [.int .i64 p.top, .int .i64 p.bank, .int .i64 p.siphon, .int .i64 p.start, .int .i64 p.positions, .int .i64 p.rate, .int .i64 p.step, .int .i64 p.pass, .int .i64 p.feed, .int .i64 p.pipe, .int .i64 p.orders, .int .i64 p.age] ∧ Below w.heap.size w wr ∧ B ≤ wr.heap.size) (fun i _ _ => N1 - (intOf i).toNat)
    case atStart =>
      refine ⟨0, by omega, rfl, ?_, X1, hB, hsz⟩
      rw [start_mul] at hO
      exact hO
    case round =>
      clear X1 hB hsz hO
      obtain ⟨q, hq, rfl, hO, X1, hB, hsz⟩ := hrel
      obtain ⟨wq, rfl⟩ : ∃ wq : World, wq = wr := ⟨_, rfl⟩
      have hz := X1.lt
      have xl : wq.cell? ⟨w.heap.size, 4, none⟩ = some (.int .i64 p.positions) := X1.cell 4
      rcases Nat.lt_or_ge q N1 with hlq | hge
      rotate_left
      · obtain rfl : q = N1 := by omega
        have hd2 : ¬ ((q : Int) ≤ p.positions) := by have := E1.out; omega
        go_wp2
        refine ⟨⟨l + 1, by omega, by go_num, ?_, X1, hB, hsz⟩, by simp [intOf]; omega⟩
        rw [up_mul] at hO
        exact hO
      have hd2 : (q : Int) ≤ p.positions := by have := E1.out; omega
      go_wp2_with fail
      clear hd2 hz xl
      go_loopw [8, 5] (fun i V wr => ∃ x : Nat, x ≤ N2 ∧ i = .int .i64 x ∧ Hid (OwnSt wr B V (p.preSt (((l * N1 + q) * N2 + x) * (N3 * (N4 * N5))))) ∧ Box wr w.heap.size [.int .i64 p.top, .int .i64 p.bank, .int .i64 p.siphon, .int .i64 p.start, .int .i64 p.positions, .int .i64 p.rate, .int .i64 p.step, .int .i64 p.pass, .int .i64 p.feed, .int .i64 p.pipe, .int .i64 p.orders, .int .i64 p.age] ∧ Below w.heap.size w wr ∧ B ≤ wr.heap.size) (fun i _ _ => N2 - (intOf i).toNat)
      case atStart =>
        refine ⟨0, by omega, rfl, ?_, X1, hB, hsz⟩
        rw [start_mul] at hO
        exact hO
      case round =>
        clear X1 hB hsz hO
        obtain ⟨x, hx, rfl, hO, X1, hB, hsz⟩ := hrel
        obtain ⟨wx, rfl⟩ : ∃ wx : World, wx = wr := ⟨_, rfl⟩
        have hz := X1.lt
        rcases Nat.lt_or_ge x N2 with hlx | hge
        rotate_left
        · obtain rfl : x = N2 := by omega
          have hd2 : ¬ ((x : Int) ≤ p.m0) := by have := E2.out; omega
          go_wp2
          refine ⟨⟨q + 1, by omega, by go_num, ?_, X1, hB, hsz⟩, by simp [intOf]; omega⟩
          rw [up_mul] at hO
          exact hO
        have hd2 : (x : Int) ≤ p.m0 := by have := E2.out; omega
        go_wp2_with fail
        clear hd2 hz
        go_loopw [9, 5] (fun i V wr => ∃ y : Nat, y ≤ N3 ∧ i = .int .i64 y ∧ Hid (OwnSt wr B V (p.preSt ((((l * N1 + q) * N2 + x) * N3 + y) * (N4 * N5)))) ∧ Box wr w.heap.size [.int .i64 p.top, .int .i64 p.bank, .int .i64 p.siphon, .int .i64 p.start, .int .i64 p.positions, .int .i64 p.rate, .int .i64 p.step, .int .i64 p.pass, .int .i64 p.feed, .int .i64 p.pipe, .int .i64 p.orders, .int .i64 p.age] ∧ Below w.heap.size w wr ∧ B ≤ wr.heap.size) (fun i _ _ => N3 - (intOf i).toNat)
        case atStart =>
          refine ⟨0, by omega, rfl, ?_, X1, hB, hsz⟩
          rw [start_mul] at hO
          exact hO
        case round =>
          clear X1 hB hsz hO
          obtain ⟨y, hy, rfl, hO, X1, hB, hsz⟩ := hrel
          obtain ⟨wy, rfl⟩ : ∃ wy : World, wy = wr := ⟨_, rfl⟩
          have hz := X1.lt
          rcases Nat.lt_or_ge y N3 with hly | hge
          rotate_left
          · obtain rfl : y = N3 := by omega
            have hd2 : ¬ ((y : Int) ≤ p.m1) := by have := E3.out; omega
            go_wp2
            refine ⟨⟨x + 1, by omega, by go_num, ?_, X1, hB, hsz⟩, by simp [intOf]; omega⟩
            rw [up_mul] at hO
            exact hO
          have hd2 : (y : Int) ≤ p.m1 := by have := E3.out; omega
          go_wp2_with fail
          clear hd2 hz
          go_loopw [10, 5] (fun i V wr => ∃ o : Nat, o ≤ N4 ∧ i = .int .i64 o ∧ Hid (OwnSt wr B V (p.preSt (((((l * N1 + q) * N2 + x) * N3 + y) * N4 + o) * N5))) ∧ Box wr w.heap.size [.int .i64 p.top, .int .i64 p.bank, .int .i64 p.siphon, .int .i64 p.start, .int .i64 p.positions, .int .i64 p.rate, .int .i64 p.step, .int .i64 p.pass, .int .i64 p.feed, .int .i64 p.pipe, .int .i64 p.orders, .int .i64 p.age] ∧ Below w.heap.size w wr ∧ B ≤ wr.heap.size) (fun i _ _ => N4 - (intOf i).toNat)
          case atStart =>
            refine ⟨0, by omega, rfl, ?_, X1, hB, hsz⟩
            rw [start_mul] at hO
            exact hO
          case round =>
            clear X1 hB hsz hO
            obtain ⟨o, ho, rfl, hO, X1, hB, hsz⟩ := hrel
            obtain ⟨wo, rfl⟩ : ∃ wo : World, wo = wr := ⟨_, rfl⟩
            have hz := X1.lt
            have xl : wo.cell? ⟨w.heap.size, 10, none⟩ = some (.int .i64 p.orders) := X1.cell 10
            rcases Nat.lt_or_ge o N4 with hlo | hge
            rotate_left
            · obtain rfl : o = N4 := by omega
              have hd2 : ¬ ((o : Int) ≤ p.orders) := by have := E4.out; omega
              go_wp2
              refine ⟨⟨y + 1, by omega, by go_num, ?_, X1, hB, hsz⟩, by simp [intOf]; omega⟩
              rw [up_mul] at hO
              exact hO
            have hd2 : (o : Int) ≤ p.orders := by have := E4.out; omega
            go_wp2_with fail
            clear hd2 hz xl
            go_loopw [11, 5] (fun i V wr => ∃ a : Nat, a ≤ N5 ∧ i = .int .i64 a ∧ Hid (OwnSt wr B V (p.preSt ((((((l * N1 + q) * N2 + x) * N3 + y) * N4 + o) * N5 + a)))) ∧ Box wr w.heap.size [.int .i64 p.top, .int .i64 p.bank, .int .i64 p.siphon, .int .i64 p.start, .int .i64 p.positions, .int .i64 p.rate, .int .i64 p.step, .int .i64 p.pass, .int .i64 p.feed, .int .i64 p.pipe, .int .i64 p.orders, .int .i64 p.age] ∧ Below w.heap.size w wr ∧ B ≤ wr.heap.size) (fun i _ _ => N5 - (intOf i).toNat)
            case atStart =>
              refine ⟨0, by omega, rfl, ?_, X1, hB, hsz⟩
              exact hO
            case round =>
              clear X1 hB hsz hO
              obtain ⟨a, ha, rfl, hO, X1, hB, hsz⟩ := hrel
              obtain ⟨wa, rfl⟩ : ∃ wa : World, wa = wr := ⟨_, rfl⟩
              have hz := X1.lt
              have xl : wa.cell? ⟨w.heap.size, 11, none⟩ = some (.int .i64 p.age) := X1.cell 11
              rcases Nat.lt_or_ge a N5 with hla | hge
              rotate_left
              · obtain rfl : a = N5 := by omega
                have hd2 : ¬ ((a : Int) ≤ p.age) := by have := E5.out; omega
                go_wp2
                refine ⟨⟨o + 1, by omega, by go_num, ?_, X1, hB, hsz⟩, by simp [intOf]; omega⟩
                rw [up_one] at hO
                exact hO
              have hd2 : (a : Int) ≤ p.age := by have := E5.out; omega
              have hlen : (p.preSt ((((((l * N1 + q) * N2 + x) * N3 + y) * N4 + o) * N5 + a))).length = (((((l * N1 + q) * N2 + x) * N3 + y) * N4 + o) * N5 + a) := preSt_len _ _
              have hkl : (((((l * N1 + q) * N2 + x) * N3 + y) * N4 + o) * N5 + a) < 1048576 := by
                have h1 := (lt_up (lt_up (lt_up (lt_up (lt_up hll hlq) hlx) hly) hlo) hla)
                have h2 := HC.out
                simp only [← Nat.mul_assoc] at h2
                omega
              have hnx := preSt_succ p ((((((l * N1 + q) * N2 + x) * N3 + y) * N4 + o) * N5 + a))
              rw [HST.out l q x y o a hlq hlx hly hlo hla] at hnx
              have HNX := Lib.hid hnx
              clear hnx
              have hbS := (Below.refl wa.heap.size wa).alloc (Nat.le_refl _) (.cells #[.int .i64 (l : Int), .int .i64 (q : Int), .int .i64 (x : Int), .int .i64 (y : Int), .int .i64 (o : Int), .int .i64 (a : Int)] 51)
              have hO1 := hO.out.later hbS
              have XN := Box.new wa [.int .i64 (l : Int), .int .i64 (q : Int), .int .i64 (x : Int), .int .i64 (y : Int), .int .i64 (o : Int), .int .i64 (a : Int)] 51
              obtain ⟨g', c', w', hr, hO2, hg⟩ := run_appE E (fun _ => rfl) st_one (by omega) (⟨(l : Int), (q : Int), (x : Int), (y : Int), (o : Int), (a : Int)⟩ : St) 35 hO1 XN (Nat.le_trans hsz hbS.size) (by rw [hlen]; omega)
              rw [← HNX.out] at hO2
              rw [hlen] at hO2 hr
              have hB1 := hB.trans (hbS.mono hB.size)
              have hB2 := OwnE.grown hO1 hg (by omega) hB1 hB1.size
              have X2 := box_grown hO1 hg (X1.alloc (.cells #[.int .i64 (l : Int), .int .i64 (q : Int), .int .i64 (x : Int), .int .i64 (y : Int), .int .i64 (o : Int), .int .i64 (a : Int)] 51)) (by omega)
              have hsz2 := Nat.le_trans hsz (Nat.le_trans hbS.size hg.size)
              have HO2 := Lib.hid hO2
              clear hO2 hg hO1 XN hB1 hbS hO hlen hkl
              generalize hkk : ((((l * N1 + q) * N2 + x) * N3 + y) * N4 + o) * N5 = KK at hr HO2
              have HKK := Lib.hid hkk
              clear hkk
              go_wp2
              refine ⟨⟨a + 1, by omega, by go_num, ?_, X2, hB2, hsz2⟩, by simp [intOf]; omega⟩
              rw [← Nat.add_assoc]
              exact HO2
end Go.Proofs.Ytcjcjkomcolgeaa
