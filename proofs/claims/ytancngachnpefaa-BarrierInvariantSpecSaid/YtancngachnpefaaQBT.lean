/- The reference of chapter 33: ask, safe, next, pipes, Shocks, States. (Printed by gen_bt.py.) No condition. -/
import Derived.Test.YtancngachnpefaaQK
import Derived.Test.YtancngachnpefaaQMB
import Derived.Test.YtancngachnpefaaQI
import Derived.Test.YtancngachnpefaaQBM
import Derived.ArgAppend
set_option linter.unusedVariables false
set_option linter.unusedSimpArgs false
set_option maxRecDepth 100000
set_option maxHeartbeats 8000000
namespace Go.Proofs.Ytancngachnpefaa
open Go.RowKit
attribute [local go_sem ↓ high] app_named
theorem rbAsk_is {p : Pl} {c : List Ln} {V : Value} {w : World} {er : Int} (h : Hid (askT p c = er)) (hC : CodeAt w w.heap.size V c) :
    Calls Try.prog 44 #[p.v, .agg #[V]] w fun e w' => e = .returned (.int .i64 er) ∧ Below w.heap.size w w' := by
  have hB := ((Below.refl w.heap.size w).alloc (by simp <;> omega) (.cells #[.int .i64 p.top, .int .i64 p.bank, .int .i64 p.siphon, .int .i64 p.start, .int .i64 p.positions, .int .i64 p.rate, .int .i64 p.step, .int .i64 p.pass, .int .i64 p.feed, .int .i64 p.pipe, .int .i64 p.orders, .int .i64 p.age] 23)).alloc (by simp <;> omega) (.cells #[V] 26)
  have X3 := Box.newAt (w := w.alloc (.cells #[.int .i64 p.top, .int .i64 p.bank, .int .i64 p.siphon, .int .i64 p.start, .int .i64 p.positions, .int .i64 p.rate, .int .i64 p.step, .int .i64 p.pass, .int .i64 p.feed, .int .i64 p.pipe, .int .i64 p.orders, .int .i64 p.age] 23)) (n := w.heap.size + 1) [V] 26 (by simp)
  have HC := Lib.hid (hC.later hB)
  by_cases h0 : p.checkT = 0
  · have h1 := h.out
    unfold askT at h1
    rw [if_pos h0] at h1
    have H1 := Lib.hid h1
    have H0 := Lib.hid h0
    clear h1 h0
    go_enter Try.func44, Try.ntmps44
    go_wp2_with fail
    refine (rcheck_at H0 _).mono ?_
    rintro e w1 ⟨rfl, hb⟩
    have HC1 := Lib.hid ((HC.out.below hb).more hb.size)
    have X3 := X3.later hb
    have hB := hB.trans (hb.mono hB.size)
    clear hb HC
    have X3c0 : w1.cell? ⟨w.heap.size + 1, 0, none⟩ = some (V) := X3.cell 0
    have X3f0 : w1.frozen? ⟨w.heap.size + 1, 0, none⟩ = false := X3.free 0
    have X3z : w.heap.size + 1 < w1.heap.size := X3.lt
    go_wp2_with fail
    refine (rgcheck_at H1 HC1.out).mono ?_
    rintro e w2 ⟨rfl, hb⟩
    go_wp2
    go_ret
    exact ⟨rfl, hB.trans (hb.mono hB.size)⟩
  · have h1 := h.out
    unfold askT at h1
    rw [if_neg h0] at h1
    have hd : (er != 0) = true := by simp [← h1, h0]
    have H1 := Lib.hid h1
    clear h1 h0
    go_enter Try.func44, Try.ntmps44
    go_wp2_with fail
    refine (rcheck_at H1 _).mono ?_
    rintro e w1 ⟨rfl, hb⟩
    go_wp2
    go_ret
    exact ⟨rfl, hB.trans (hb.mono hB.size)⟩
theorem rbSafe_is {p : Pl} {s : St} {w : World} {q : Bool} (h : Hid (p.safeB s = q)) : Calls Try.prog 47 #[p.v, s.v] w fun e w' => e = .returned (.bool q) ∧ Below w.heap.size w w' := by
  obtain ⟨q', er, hs⟩ : ∃ q er, Hid (p.safeT s = (q, er)) := ⟨_, _, rfl⟩
  obtain rfl : q' = q := by
    have h1 := h.out
    unfold Pl.safeB at h1
    rw [hs.out] at h1
    exact h1
  have her : q' = true → er = 0 := by
    intro hq
    have h1 := hs.out
    unfold Pl.safeT at h1
    split at h1
    · split at h1
      · simp only [Prod.mk.injEq] at h1
        exact h1.2.symm
      · simp only [Prod.mk.injEq] at h1
        rw [hq] at h1
        cases h1.1
    · simp only [Prod.mk.injEq] at h1
      rw [hq] at h1
      cases h1.1
  have hB := ((Below.refl w.heap.size w).alloc (by simp <;> omega) (.cells #[.int .i64 p.top, .int .i64 p.bank, .int .i64 p.siphon, .int .i64 p.start, .int .i64 p.positions, .int .i64 p.rate, .int .i64 p.step, .int .i64 p.pass, .int .i64 p.feed, .int .i64 p.pipe, .int .i64 p.orders, .int .i64 p.age] 23)).alloc (by simp <;> omega) (.cells #[.int .i64 s.level, .int .i64 s.position, .int .i64 s.p0, .int .i64 s.p1, .int .i64 s.order, .int .i64 s.age] 30)
  cases q' with
  | true =>
    obtain rfl := her rfl
    clear her
    go_enter Try.func47, Try.ntmps47
    go_wp2_with fail
    refine (rsafe_is hs).mono ?_
    rintro e w1 ⟨rfl, hb⟩
    go_wp2
    go_ret
    exact ⟨rfl, hB.trans (hb.mono hB.size)⟩
  | false =>
    clear her
    go_enter Try.func47, Try.ntmps47
    go_wp2_with fail
    refine (rsafe_is hs).mono ?_
    rintro e w1 ⟨rfl, hb⟩
    go_wp2
    go_ret
    exact ⟨rfl, hB.trans (hb.mono hB.size)⟩
theorem rbNext_is {p : Pl} {c : List Ln} {V : Value} {s : St} {x : Sh} {w : World} {t : St} {ou er : Int} (h : Hid (nextT p c s x = (t, ou, er))) (hC : CodeAt w w.heap.size V c) :
    Calls Try.prog 48 #[p.v, .agg #[V], s.v, x.v] w fun e w' => e = .returned t.v ∧ Below w.heap.size w w' := by
  obtain ⟨A, m, k, rfl⟩ : ∃ A m k, V = .slice A m k := by
    obtain ⟨A, k, rfl, _⟩ := hC.form
    exact ⟨A, _, k, rfl⟩
  have hB := (((((Below.refl w.heap.size w).alloc (by simp <;> omega) (.cells #[.int .i64 p.top, .int .i64 p.bank, .int .i64 p.siphon, .int .i64 p.start, .int .i64 p.positions, .int .i64 p.rate, .int .i64 p.step, .int .i64 p.pass, .int .i64 p.feed, .int .i64 p.pipe, .int .i64 p.orders, .int .i64 p.age] 23)).alloc (by simp <;> omega) (.cells #[.slice A m k] 26)).alloc (by simp <;> omega) (.cells #[.int .i64 s.level, .int .i64 s.position, .int .i64 s.p0, .int .i64 s.p1, .int .i64 s.order, .int .i64 s.age] 30)).alloc (by simp <;> omega) (.cells #[.int .i64 x.feed, .int .i64 x.msg] 37)).alloc (by simp <;> omega) (.cells #[.int .i64 0, .int .i64 0, .int .i64 0, .int .i64 0, .int .i64 0, .int .i64 0] 30)
  have X3 := ((((Box.new w [.int .i64 p.top, .int .i64 p.bank, .int .i64 p.siphon, .int .i64 p.start, .int .i64 p.positions, .int .i64 p.rate, .int .i64 p.step, .int .i64 p.pass, .int .i64 p.feed, .int .i64 p.pipe, .int .i64 p.orders, .int .i64 p.age] 23).alloc (.cells #[.slice A m k] 26)).alloc (.cells #[.int .i64 s.level, .int .i64 s.position, .int .i64 s.p0, .int .i64 s.p1, .int .i64 s.order, .int .i64 s.age] 30)).alloc (.cells #[.int .i64 x.feed, .int .i64 x.msg] 37)).alloc (.cells #[.int .i64 0, .int .i64 0, .int .i64 0, .int .i64 0, .int .i64 0, .int .i64 0] 30)
  have X4 := (((Box.newAt (w := w.alloc (.cells #[.int .i64 p.top, .int .i64 p.bank, .int .i64 p.siphon, .int .i64 p.start, .int .i64 p.positions, .int .i64 p.rate, .int .i64 p.step, .int .i64 p.pass, .int .i64 p.feed, .int .i64 p.pipe, .int .i64 p.orders, .int .i64 p.age] 23)) (n := w.heap.size + 1) [.slice A m k] 26 (by simp)).alloc (.cells #[.int .i64 s.level, .int .i64 s.position, .int .i64 s.p0, .int .i64 s.p1, .int .i64 s.order, .int .i64 s.age] 30)).alloc (.cells #[.int .i64 x.feed, .int .i64 x.msg] 37)).alloc (.cells #[.int .i64 0, .int .i64 0, .int .i64 0, .int .i64 0, .int .i64 0, .int .i64 0] 30)
  have X5 := ((Box.newAt (w := (w.alloc (.cells #[.int .i64 p.top, .int .i64 p.bank, .int .i64 p.siphon, .int .i64 p.start, .int .i64 p.positions, .int .i64 p.rate, .int .i64 p.step, .int .i64 p.pass, .int .i64 p.feed, .int .i64 p.pipe, .int .i64 p.orders, .int .i64 p.age] 23)).alloc (.cells #[.slice A m k] 26)) (n := w.heap.size + 1 + 1) [.int .i64 s.level, .int .i64 s.position, .int .i64 s.p0, .int .i64 s.p1, .int .i64 s.order, .int .i64 s.age] 30 (by simp)).alloc (.cells #[.int .i64 x.feed, .int .i64 x.msg] 37)).alloc (.cells #[.int .i64 0, .int .i64 0, .int .i64 0, .int .i64 0, .int .i64 0, .int .i64 0] 30)
  have X6 := (Box.newAt (w := ((w.alloc (.cells #[.int .i64 p.top, .int .i64 p.bank, .int .i64 p.siphon, .int .i64 p.start, .int .i64 p.positions, .int .i64 p.rate, .int .i64 p.step, .int .i64 p.pass, .int .i64 p.feed, .int .i64 p.pipe, .int .i64 p.orders, .int .i64 p.age] 23)).alloc (.cells #[.slice A m k] 26)).alloc (.cells #[.int .i64 s.level, .int .i64 s.position, .int .i64 s.p0, .int .i64 s.p1, .int .i64 s.order, .int .i64 s.age] 30)) (n := w.heap.size + 1 + 1 + 1) [.int .i64 x.feed, .int .i64 x.msg] 37 (by simp)).alloc (.cells #[.int .i64 0, .int .i64 0, .int .i64 0, .int .i64 0, .int .i64 0, .int .i64 0] 30)
  have X7 := Box.newAt (w := (((w.alloc (.cells #[.int .i64 p.top, .int .i64 p.bank, .int .i64 p.siphon, .int .i64 p.start, .int .i64 p.positions, .int .i64 p.rate, .int .i64 p.step, .int .i64 p.pass, .int .i64 p.feed, .int .i64 p.pipe, .int .i64 p.orders, .int .i64 p.age] 23)).alloc (.cells #[.slice A m k] 26)).alloc (.cells #[.int .i64 s.level, .int .i64 s.position, .int .i64 s.p0, .int .i64 s.p1, .int .i64 s.order, .int .i64 s.age] 30)).alloc (.cells #[.int .i64 x.feed, .int .i64 x.msg] 37)) (n := w.heap.size + 1 + 1 + 1 + 1) [.int .i64 0, .int .i64 0, .int .i64 0, .int .i64 0, .int .i64 0, .int .i64 0] 30 (by simp)
  have HC := Lib.hid (hC.later hB)
  clear hC
  go_enter Try.func48, Try.ntmps48
  go_upto_region 1 with fail
  generalize ((((w.alloc (.cells #[.int .i64 p.top, .int .i64 p.bank, .int .i64 p.siphon, .int .i64 p.start, .int .i64 p.positions, .int .i64 p.rate, .int .i64 p.step, .int .i64 p.pass, .int .i64 p.feed, .int .i64 p.pipe, .int .i64 p.orders, .int .i64 p.age] 23)).alloc (.cells #[.slice A m k] 26)).alloc (.cells #[.int .i64 s.level, .int .i64 s.position, .int .i64 s.p0, .int .i64 s.p1, .int .i64 s.order, .int .i64 s.age] 30)).alloc (.cells #[.int .i64 x.feed, .int .i64 x.msg] 37)).alloc (.cells #[.int .i64 0, .int .i64 0, .int .i64 0, .int .i64 0, .int .i64 0, .int .i64 0] 30) = w0 at X3 X4 X5 X6 X7 hB HC ⊢
  obtain ⟨X3c0, X3c1, X3c2, X3c3, X3c4, X3c5, X3c6, X3c7, X3c8, X3c9, X3c10, X3c11⟩ := X3.c12
  have X4c0 : w0.cell? ⟨w.heap.size + 1, 0, none⟩ = some (.slice A m k) := X4.cell 0
  obtain ⟨X5c0, X5c1, X5c2, X5c3, X5c4, X5c5⟩ := X5.c6
  obtain ⟨X6c0, X6c1⟩ := X6.c2
  have X7z := X7.lt
  go_wp2_with fail
  refine (rnext_is h HC.out).mono ?_
  rintro e w1 ⟨rfl, hb⟩
  have X7 := X7.later hb
  have hB := hB.trans (hb.mono hB.size)
  clear hb HC X3 X4 X5 X6 X3c0 X3c1 X3c2 X3c3 X3c4 X3c5 X3c6 X3c7 X3c8 X3c9 X3c10 X3c11 X4c0 X5c0 X5c1 X5c2 X5c3 X5c4 X5c5 X6c0 X6c1 X7z
  obtain ⟨t0, t1, t2, t3, t4, t5⟩ := t
  go_upto_region 2 with fail
  have X9 := Box.new w1 [.int .i64 t0, .int .i64 t1, .int .i64 t2, .int .i64 t3, .int .i64 t4, .int .i64 t5] 30
  have X7 := X7.alloc (.cells #[.int .i64 t0, .int .i64 t1, .int .i64 t2, .int .i64 t3, .int .i64 t4, .int .i64 t5] 30)
  have hB := hB.alloc hB.size (.cells #[.int .i64 t0, .int .i64 t1, .int .i64 t2, .int .i64 t3, .int .i64 t4, .int .i64 t5] 30)
  generalize w1.alloc (.cells #[.int .i64 t0, .int .i64 t1, .int .i64 t2, .int .i64 t3, .int .i64 t4, .int .i64 t5] 30) = w2 at X7 X9 hB ⊢
  generalize w1.heap.size = D at X9 ⊢
  have X9z := X9.lt
  obtain ⟨X9c0, X9c1, X9c2, X9c3, X9c4, X9c5⟩ := X9.c6
  obtain ⟨X7c0, X7f0, X7c1, X7f1, X7c2, X7f2, X7c3, X7f3, X7c4, X7f4, X7c5, X7f5⟩ := X7.f6
  have X7z : w.heap.size + 1 + 1 + 1 + 1 < w2.heap.size := X7.lt
  go_wp2
  have hY := ((((((X7.set 0 (.int .i64 t0)).set 1 (.int .i64 t1)).set 2 (.int .i64 t2)).set 3 (.int .i64 t3)).set 4 (.int .i64 t4)).set 5 (.int .i64 t5))
  have hB := ((((((hB.setCell (p := ⟨w.heap.size + 1 + 1 + 1 + 1, 0, none⟩) (by simp <;> omega) (.int .i64 t0)).setCell (p := ⟨w.heap.size + 1 + 1 + 1 + 1, 1, none⟩) (by simp <;> omega) (.int .i64 t1)).setCell (p := ⟨w.heap.size + 1 + 1 + 1 + 1, 2, none⟩) (by simp <;> omega) (.int .i64 t2)).setCell (p := ⟨w.heap.size + 1 + 1 + 1 + 1, 3, none⟩) (by simp <;> omega) (.int .i64 t3)).setCell (p := ⟨w.heap.size + 1 + 1 + 1 + 1, 4, none⟩) (by simp <;> omega) (.int .i64 t4)).setCell (p := ⟨w.heap.size + 1 + 1 + 1 + 1, 5, none⟩) (by simp <;> omega) (.int .i64 t5))
  generalize ((((((w2.setCell ⟨w.heap.size + 1 + 1 + 1 + 1, 0, none⟩ (.int .i64 t0)).setCell ⟨w.heap.size + 1 + 1 + 1 + 1, 1, none⟩ (.int .i64 t1)).setCell ⟨w.heap.size + 1 + 1 + 1 + 1, 2, none⟩ (.int .i64 t2)).setCell ⟨w.heap.size + 1 + 1 + 1 + 1, 3, none⟩ (.int .i64 t3)).setCell ⟨w.heap.size + 1 + 1 + 1 + 1, 4, none⟩ (.int .i64 t4)).setCell ⟨w.heap.size + 1 + 1 + 1 + 1, 5, none⟩ (.int .i64 t5)) = W at hY hB ⊢
  obtain ⟨hYc0, hYc1, hYc2, hYc3, hYc4, hYc5⟩ := hY.c6
  refine bodyPost_ret (v := .agg #[.int .i64 t0, .int .i64 t1, .int .i64 t2, .int .i64 t3, .int .i64 t4, .int .i64 t5]) (by simp [results, Try.results48, go_sem, hYc0, hYc1, hYc2, hYc3, hYc4, hYc5]) rfl ?_
  exact ⟨rfl, hB⟩
theorem rbPipes_is {p : Pl} {w : World} (hp : 0 ≤ p.pipe ∧ p.pipe ≤ 2) : Calls Try.prog 55 #[p.v] w fun e w' => e = .returned (.tuple #[.int .i64 p.m0, .int .i64 p.m1]) ∧ Below w.heap.size w w' := by
  obtain ⟨a0, a1, a2, a3, a4, a5, a6, a7, a8, a9, a10, a11⟩ := p
  dsimp only at hp
  rcases (show a9 = 0 ∨ a9 = 1 ∨ a9 = 2 by omega) with rfl | rfl | rfl
  · go_enter Try.func55, Try.ntmps55
    go_wp2
    go_ret2
    exact ⟨by simp [Pl.m0, Pl.m1], (Below.refl _ _).alloc (Nat.le_refl _) _⟩
  · go_enter Try.func55, Try.ntmps55
    go_wp2
    go_ret2
    exact ⟨by simp [Pl.m0, Pl.m1], (Below.refl _ _).alloc (Nat.le_refl _) _⟩
  · go_enter Try.func55, Try.ntmps55
    go_wp2_with fail
    go_quiet (fail)
    go_wp2
    go_ret2
    exact ⟨by simp [Pl.m0, Pl.m1], bel_drewN ((Below.refl _ _).alloc (Nat.le_refl _) _) nq⟩
theorem elem_state : ∃ i, Elem 43 30 i (.agg #[.int .i64 0, .int .i64 0, .int .i64 0, .int .i64 0, .int .i64 0, .int .i64 0]) 6 48 := by
  obtain ⟨i, h1, h2, h3, h4⟩ := info_parts (show (Try.prog.info? 30).map (fun i => (i.zero, i.size, i.bytes)) = some (some (.agg #[.int .i64 0, .int .i64 0, .int .i64 0, .int .i64 0, .int .i64 0, .int .i64 0]), 6, 48) by kernel_rfl)
  exact ⟨i, Try.underlying43, h1, h2, h3, h4, by decide, by decide⟩
theorem elem_shock : ∃ i, Elem 47 37 i (.agg #[.int .i64 0, .int .i64 0]) 2 16 := by
  obtain ⟨i, h1, h2, h3, h4⟩ := info_parts (show (Try.prog.info? 37).map (fun i => (i.zero, i.size, i.bytes)) = some (some (.agg #[.int .i64 0, .int .i64 0]), 2, 16) by kernel_rfl)
  exact ⟨i, Try.underlying47, h1, h2, h3, h4, by decide, by decide⟩
abbrev Sh.cells (x : Sh) : List Value := [.int .i64 x.feed, .int .i64 x.msg]
abbrev OwnSt (w : World) (base : Nat) (V : Value) (l : List St) : Prop := OwnE St.cells 6 w base 30 V l
abbrev OwnSh (w : World) (base : Nat) (V : Value) (l : List Sh) : Prop := OwnE Sh.cells 2 w base 37 V l
theorem st_one (x : St) : ∀ u ∈ x.cells, u.oneCell' = true := by
  intro u hu
  simp only [List.mem_cons, List.not_mem_nil, or_false] at hu
  rcases hu with rfl | rfl | rfl | rfl | rfl | rfl <;> rfl
theorem sh_one (x : Sh) : ∀ u ∈ x.cells, u.oneCell' = true := by
  intro u hu
  simp only [List.mem_cons, List.not_mem_nil, or_false] at hu
  rcases hu with rfl | rfl <;> rfl
def Pl.preSh (p : Pl) (k : Nat) : List Sh := (List.range k).map p.shAt
def Pl.preSt (p : Pl) (k : Nat) : List St := (List.range k).map p.stAt
theorem preSh_succ (p : Pl) (k : Nat) : p.preSh (k + 1) = p.preSh k ++ [p.shAt k] := by rw [Pl.preSh, List.range_succ, List.map_append]; rfl
theorem preSt_succ (p : Pl) (k : Nat) : p.preSt (k + 1) = p.preSt k ++ [p.stAt k] := by rw [Pl.preSt, List.range_succ, List.map_append]; rfl
theorem preSh_len (p : Pl) (k : Nat) : (p.preSh k).length = k := by simp [Pl.preSh]
theorem preSt_len (p : Pl) (k : Nat) : (p.preSt k).length = k := by simp [Pl.preSt]
theorem rbShocks_any (p : Pl) (hv : Hid p.Valid) (w : World) : Calls Try.prog 46 #[p.v] w fun e w' => ∃ V, e = .returned V ∧ OwnSh w' (w.heap.size + 1) V p.shocks ∧ Below w.heap.size w w' := by
  obtain ⟨i0, E⟩ := elem_shock
  have hf := hv.out.feed
  have ho := hv.out.orders
  obtain ⟨nf, hnf⟩ : ∃ nf, p.nf = nf := ⟨_, rfl⟩
  obtain ⟨nm, hnm⟩ : ∃ nm, p.nm = nm := ⟨_, rfl⟩
  have ef : p.feed = (nf : Int) - 1 := by rw [← hnf, Pl.nf]; omega
  have eo : p.orders = (nm : Int) - 2 := by rw [← hnm, Pl.nm]; omega
  have hnf16 : nf ≤ 16 := by omega
  have hnm9 : nm ≤ 9 := by omega
  have HNF := Lib.hid hnf
  have HNM := Lib.hid hnm
  have EF := Lib.hid ef
  have EO := Lib.hid eo
  clear hnf hnm ef eo hf ho
  go_enter Try.func46, Try.ntmps46
  go_upto_region 3 with fail
  have X1 := Box.new w [.int .i64 p.top, .int .i64 p.bank, .int .i64 p.siphon, .int .i64 p.start, .int .i64 p.positions, .int .i64 p.rate, .int .i64 p.step, .int .i64 p.pass, .int .i64 p.feed, .int .i64 p.pipe, .int .i64 p.orders, .int .i64 p.age] 23
  have hB := (Below.refl w.heap.size w).alloc (Nat.le_refl _) (.cells #[.int .i64 p.top, .int .i64 p.bank, .int .i64 p.siphon, .int .i64 p.start, .int .i64 p.positions, .int .i64 p.rate, .int .i64 p.step, .int .i64 p.pass, .int .i64 p.feed, .int .i64 p.pipe, .int .i64 p.orders, .int .i64 p.age] 23)
  have hsz : w.heap.size + 1 ≤ (w.alloc (.cells #[.int .i64 p.top, .int .i64 p.bank, .int .i64 p.siphon, .int .i64 p.start, .int .i64 p.positions, .int .i64 p.rate, .int .i64 p.step, .int .i64 p.pass, .int .i64 p.feed, .int .i64 p.pipe, .int .i64 p.orders, .int .i64 p.age] 23)).heap.size := by simp
  generalize w.alloc (.cells #[.int .i64 p.top, .int .i64 p.bank, .int .i64 p.siphon, .int .i64 p.start, .int .i64 p.positions, .int .i64 p.rate, .int .i64 p.step, .int .i64 p.pass, .int .i64 p.feed, .int .i64 p.pipe, .int .i64 p.orders, .int .i64 p.age] 23) = w0 at X1 hB hsz ⊢
  go_loopw [4, 3] (fun i v wr => ∃ f : Nat, f ≤ nf ∧ i = .int .i64 f ∧ Hid (OwnSh wr (w.heap.size + 1) v (p.preSh (f * nm))) ∧ Box wr w.heap.size [.int .i64 p.top, .int .i64 p.bank, .int .i64 p.siphon, .int .i64 p.start, .int .i64 p.positions, .int .i64 p.rate, .int .i64 p.step, .int .i64 p.pass, .int .i64 p.feed, .int .i64 p.pipe, .int .i64 p.orders, .int .i64 p.age] ∧ Below w.heap.size w wr ∧ w.heap.size + 1 ≤ wr.heap.size) (fun i _ _ => nf - (intOf i).toNat)
  case atStart =>
    refine ⟨0, by omega, rfl, ?_, X1, hB, hsz⟩
    rw [Nat.zero_mul]
    exact Lib.hid (ownE_nil _ _ _ _ _)
  case round =>
    clear X1 hB hsz
    obtain ⟨f, hf, rfl, hO, X1, hB, hsz⟩ := hrel
    obtain ⟨wo, rfl⟩ : ∃ wo : World, wo = wr := ⟨_, rfl⟩
    have hz := X1.lt
    have x8 : wo.cell? ⟨w.heap.size, 8, none⟩ = some (.int .i64 p.feed) := X1.cell 8
    rcases Nat.lt_or_ge f nf with hlt | hge
    rotate_left
    · obtain rfl : f = nf := by omega
      have hd : decide ((f : Int) ≤ p.feed) = false := decide_eq_false (by have := EF.out; omega)
      have hd2 : ¬ ((f : Int) ≤ p.feed) := by have := EF.out; omega
      go_wp2
      go_ret
      refine ⟨_, rfl, ?_, hB⟩
      have := hO.out
      rw [← HNF.out, ← HNM.out] at this
      exact this
    have hd : decide ((f : Int) ≤ p.feed) = true := decide_eq_true (by have := EF.out; omega)
    have hd2 : (f : Int) ≤ p.feed := by have := EF.out; omega
    go_wp2_with fail
    clear x8 hd hd2 hz
    go_loopw [5, 3] (fun i v wr => ∃ m : Nat, m ≤ nm ∧ i = .int .i64 ((m : Int) - 1) ∧ Hid (OwnSh wr (w.heap.size + 1) v (p.preSh (f * nm + m))) ∧ Box wr w.heap.size [.int .i64 p.top, .int .i64 p.bank, .int .i64 p.siphon, .int .i64 p.start, .int .i64 p.positions, .int .i64 p.rate, .int .i64 p.step, .int .i64 p.pass, .int .i64 p.feed, .int .i64 p.pipe, .int .i64 p.orders, .int .i64 p.age] ∧ Below w.heap.size w wr ∧ w.heap.size + 1 ≤ wr.heap.size) (fun i _ _ => nm - (intOf i + 1).toNat)
    case atStart => exact ⟨0, by omega, by go_num, hO, X1, hB, hsz⟩
    case round =>
      clear X1 hB hsz hO
      obtain ⟨m, hm, rfl, hO, X1, hB, hsz⟩ := hrel
      obtain ⟨wi, rfl⟩ : ∃ wi : World, wi = wr := ⟨_, rfl⟩
      have hz := X1.lt
      have x10 : wi.cell? ⟨w.heap.size, 10, none⟩ = some (.int .i64 p.orders) := X1.cell 10
      rcases Nat.lt_or_ge m nm with hlm | hgm
      rotate_left
      · obtain rfl : m = nm := by omega
        have hd : decide ((m : Int) - 1 ≤ p.orders) = false := decide_eq_false (by have := EO.out; omega)
        have hd2 : ¬ ((m : Int) - 1 ≤ p.orders) := by have := EO.out; omega
        go_wp2
        refine ⟨⟨f + 1, by omega, by go_num, ?_, X1, hB, hsz⟩, by simp [intOf]; omega⟩
        rw [Nat.add_mul, Nat.one_mul]
        exact hO
      have hd : decide ((m : Int) - 1 ≤ p.orders) = true := decide_eq_true (by have := EO.out; omega)
      have hd2 : (m : Int) - 1 ≤ p.orders := by have := EO.out; omega
      have hsh : p.shAt (f * nm + m) = ⟨(f : Int), (m : Int) - 1⟩ := by
        have := shAt_at p (f := f) (m := m) (by rw [HNM.out]; exact hlm)
        rw [HNM.out] at this
        exact this
      have hnx := preSh_succ p (f * nm + m)
      rw [hsh] at hnx
      have HNX := Lib.hid hnx
      clear hnx hsh
      have hlen : (p.preSh (f * nm + m)).length = f * nm + m := preSh_len _ _
      have hle : f * nm ≤ 16 * 9 := Nat.mul_le_mul (by omega) hnm9
      have hbS := (Below.refl wi.heap.size wi).alloc (Nat.le_refl _) (.cells #[.int .i64 (f : Int), .int .i64 ((m : Int) - 1)] 37)
      have hO1 := hO.out.later hbS
      have XN := Box.new wi [.int .i64 (f : Int), .int .i64 ((m : Int) - 1)] 37
      obtain ⟨g', c', w', hr, hO2, hg⟩ := run_appE E (fun _ => rfl) sh_one (by omega) (⟨(f : Int), (m : Int) - 1⟩ : Sh) 47 hO1 XN (Nat.le_trans hsz hbS.size) (by omega)
      rw [← HNX.out] at hO2
      rw [hlen] at hO2 hr
      have hB1 := hB.trans (hbS.mono hB.size)
      have hB2 := OwnE.grown hO1 hg (by omega) hB1 hB1.size
      have X2 := box_grown hO1 hg (X1.alloc (.cells #[.int .i64 (f : Int), .int .i64 ((m : Int) - 1)] 37)) (by omega)
      have hsz2 := Nat.le_trans hsz (Nat.le_trans hbS.size hg.size)
      have HO2 := Lib.hid hO2
      clear hO2 hg hO1 XN hB1 hbS hO
      go_wp2
      refine ⟨⟨m + 1, by omega, by go_num, ?_, X2, hB2, hsz2⟩, by simp [intOf]; omega⟩
      rw [← Nat.add_assoc]
      exact HO2
theorem stAt_of {p : Pl} (hv : p.Valid) {l q x y o a : Nat} (h1 : q < p.n0) (h2 : x < p.nx) (h3 : y < p.ny) (h4 : o < p.no) (h5 : a < p.na) :
    p.stAt (((((l * p.n0 + q) * p.nx + x) * p.ny + y) * p.no + o) * p.na + a) = ⟨(l : Int), (q : Int), (x : Int), (y : Int), (o : Int), (a : Int)⟩ := by
  obtain ⟨d5, r5⟩ := div_step (q := (((l * p.n0 + q) * p.nx + x) * p.ny + y) * p.no + o) h5
  obtain ⟨d4, r4⟩ := div_step (q := ((l * p.n0 + q) * p.nx + x) * p.ny + y) h4
  obtain ⟨d3, r3⟩ := div_step (q := (l * p.n0 + q) * p.nx + x) h3
  obtain ⟨d2, r2⟩ := div_step (q := l * p.n0 + q) h2
  obtain ⟨d1, r1⟩ := div_step (q := l) h1
  rw [stAt_q, d5, r5, d4, r4, d3, r3, d2, r2, d1, r1]
theorem up_mul (K N P : Nat) : (K * N + N) * P = (K + 1) * (N * P) := by rw [← Nat.mul_assoc, Nat.add_mul K 1 N, Nat.one_mul]
theorem up_one (K N : Nat) : K * N + N = (K + 1) * N := by rw [Nat.add_mul, Nat.one_mul]
theorem start_mul (K N P : Nat) : K * (N * P) = (K * N + 0) * P := by rw [Nat.add_zero, Nat.mul_assoc]
theorem lt_up {a b N M : Nat} (h1 : a < M) (h2 : b < N) : a * N + b < M * N := by
  have := Nat.mul_le_mul_right N (show a + 1 ≤ M by omega)
  rw [Nat.add_mul, Nat.one_mul] at this
  omega
theorem rbStates_any (p : Pl) (hv : Hid p.Valid) (hc : Hid (p.count ≤ 1048576)) (w : World) : Calls Try.prog 26 #[p.v] w fun e w' => ∃ V, e = .returned V ∧ ∃ B, w.heap.size ≤ B ∧ OwnSt w' B V p.states ∧ Below w.heap.size w w' := by
  obtain ⟨i0, E⟩ := elem_state
  obtain ⟨p1, p2, p3, p4, p5⟩ := hv.out.ns
  obtain ⟨m1, m2⟩ := hv.out.maxes
  have h1 := hv.out.positions
  have h2 := hv.out.top
  have h3 := hv.out.orders
  have h4 := hv.out.age
  change (p.nx : Int) - 1 = p.m0 at m1
  change (p.ny : Int) - 1 = p.m1 at m2
  have e0 : p.top = ((p.top + 1).toNat : Int) - 1 := by omega
  have e1 : p.positions = (p.n0 : Int) - 1 := by unfold Pl.n0; omega
  have e4 : p.orders = (p.no : Int) - 1 := by unfold Pl.no; omega
  have e5 : p.age = (p.na : Int) - 1 := by unfold Pl.na; omega
  have hst := fun l q x y o a => @stAt_of p hv.out l q x y o a
  have hcc : p.count = (p.top + 1).toNat * (p.n0 * (p.nx * (p.ny * (p.no * p.na)))) := rfl
  have hc' := hc.out
  rw [hcc] at hc'
  have hpipe := hv.out.pipe
  generalize hN0 : (p.top + 1).toNat = N0 at e0 hcc hc'
  generalize hN1 : p.n0 = N1 at e1 hst hcc hc' p1
  generalize hN2 : p.nx = N2 at m1 hst hcc hc' p2
  generalize hN3 : p.ny = N3 at m2 hst hcc hc' p3
  generalize hN4 : p.no = N4 at e4 hst hcc hc' p4
  generalize hN5 : p.na = N5 at e5 hst hcc hc' p5
  have E0 := Lib.hid e0
  have E1 := Lib.hid e1
  have E2 : Hid (p.m0 = (N2 : Int) - 1) := Lib.hid m1.symm
  have E3 : Hid (p.m1 = (N3 : Int) - 1) := Lib.hid m2.symm
  have E4 := Lib.hid e4
  have E5 := Lib.hid e5
  have HST := Lib.hid hst
  have HCC := Lib.hid hcc
  have HC := Lib.hid hc'
  have hsmall : N0 ≤ 64 ∧ N1 ≤ 16 ∧ N4 ≤ 8 ∧ N5 ≤ 8 ∧ N2 ≤ 16 ∧ N3 ≤ 16 := by
    have h5 := hv.out.feed
    refine ⟨by omega, by omega, by omega, by omega, ?_, ?_⟩
    · rw [← hN2]; unfold Pl.nx; split <;> omega
    · rw [← hN3]; unfold Pl.ny; split <;> omega
  obtain ⟨z0, z1, z4, z5, z2, z3⟩ := hsmall
  clear hN0 hN1 hN2 hN3 hN4 hN5 e0 e1 e4 e5 m1 m2 hst hcc hc' h1 h2 h3 h4
  go_enter Try.func26, Try.ntmps26
  go_wp2_with fail
  have X1 := Box.new w [.int .i64 p.top, .int .i64 p.bank, .int .i64 p.siphon, .int .i64 p.start, .int .i64 p.positions, .int .i64 p.rate, .int .i64 p.step, .int .i64 p.pass, .int .i64 p.feed, .int .i64 p.pipe, .int .i64 p.orders, .int .i64 p.age] 23
  have hB := (Below.refl w.heap.size w).alloc (Nat.le_refl _) (.cells #[.int .i64 p.top, .int .i64 p.bank, .int .i64 p.siphon, .int .i64 p.start, .int .i64 p.positions, .int .i64 p.rate, .int .i64 p.step, .int .i64 p.pass, .int .i64 p.feed, .int .i64 p.pipe, .int .i64 p.orders, .int .i64 p.age] 23)
  refine (rbPipes_is hpipe).mono ?_
  rintro e w0 ⟨rfl, hb⟩
  have X1 := X1.later hb
  have hB := hB.trans (hb.mono hB.size)
  clear hb
  go_upto_region 4 with fail
  have hBs : w.heap.size < w0.heap.size := X1.lt
  obtain ⟨B, hBe⟩ : ∃ B, w0.heap.size = B := ⟨_, rfl⟩
  have hsz : B ≤ w0.heap.size := by omega
  rw [hBe] at hBs
  clear hBe
  go_loopw [6, 5] (fun i V wr => ∃ l : Nat, l ≤ N0 ∧ i = .int .i64 l ∧ Hid (OwnSt wr B V (p.preSt (l * (N1 * (N2 * (N3 * (N4 * N5))))))) ∧ Box wr w.heap.size [.int .i64 p.top, .int .i64 p.bank, .int .i64 p.siphon, .int .i64 p.start, .int .i64 p.positions, .int .i64 p.rate, .int .i64 p.step, .int .i64 p.pass, .int .i64 p.feed, .int .i64 p.pipe, .int .i64 p.orders, .int .i64 p.age] ∧ Below w.heap.size w wr ∧ B ≤ wr.heap.size) (fun i _ _ => N0 - (intOf i).toNat)
  case atStart =>
    refine ⟨0, by omega, rfl, ?_, X1, hB, hsz⟩
    rw [Nat.zero_mul]
    exact Lib.hid (ownE_nil _ _ _ _ _)
  case round =>
    clear X1 hB hsz
    obtain ⟨l, hl, rfl, hO, X1, hB, hsz⟩ := hrel
    obtain ⟨wl, rfl⟩ : ∃ wl : World, wl = wr := ⟨_, rfl⟩
    have hz := X1.lt
    have xl : wl.cell? ⟨w.heap.size, 0, none⟩ = some (.int .i64 p.top) := X1.cell 0
    rcases Nat.lt_or_ge l N0 with hll | hge
    rotate_left
    · obtain rfl : l = N0 := by omega
      have hd2 : ¬ ((l : Int) ≤ p.top) := by have := E0.out; omega
      go_wp2
      go_ret
      refine ⟨_, rfl, B, by omega, ?_, hB⟩
      have := hO.out
      rw [← HCC.out] at this
      exact this
    have hd2 : (l : Int) ≤ p.top := by have := E0.out; omega
    go_wp2_with fail
    clear hd2 hz xl
    go_loopw [7, 5] (fun i V wr => ∃ q : Nat, q ≤ N1 ∧ i = .int .i64 q ∧ Hid (OwnSt wr B V (p.preSt ((l * N1 + q) * (N2 * (N3 * (N4 * N5)))))) ∧ Box wr w.heap.size [.int .i64 p.top, .int .i64 p.bank, .int .i64 p.siphon, .int .i64 p.start, .int .i64 p.positions, .int .i64 p.rate, .int .i64 p.step, .int .i64 p.pass, .int .i64 p.feed, .int .i64 p.pipe, .int .i64 p.orders, .int .i64 p.age] ∧ Below w.heap.size w wr ∧ B ≤ wr.heap.size) (fun i _ _ => N1 - (intOf i).toNat)
    case atStart =>
      refine ⟨0, by omega, rfl, ?_, X1, hB, hsz⟩
      rw [start_mul] at hO
      exact hO
    case round =>
      clear X1 hB hsz hO
      obtain ⟨q, hq, rfl, hO, X1, hB, hsz⟩ := hrel
      obtain ⟨wq, rfl⟩ : ∃ wq : World, wq = wr := ⟨_, rfl⟩
      have hz := X1.lt
      have xl : wq.cell? ⟨w.heap.size, 4, none⟩ = some (.int .i64 p.positions) := X1.cell 4
      rcases Nat.lt_or_ge q N1 with hlq | hge
      rotate_left
      · obtain rfl : q = N1 := by omega
        have hd2 : ¬ ((q : Int) ≤ p.positions) := by have := E1.out; omega
        go_wp2
        refine ⟨⟨l + 1, by omega, by go_num, ?_, X1, hB, hsz⟩, by simp [intOf]; omega⟩
        rw [up_mul] at hO
        exact hO
      have hd2 : (q : Int) ≤ p.positions := by have := E1.out; omega
      go_wp2_with fail
      clear hd2 hz xl
      go_loopw [8, 5] (fun i V wr => ∃ x : Nat, x ≤ N2 ∧ i = .int .i64 x ∧ Hid (OwnSt wr B V (p.preSt (((l * N1 + q) * N2 + x) * (N3 * (N4 * N5))))) ∧ Box wr w.heap.size [.int .i64 p.top, .int .i64 p.bank, .int .i64 p.siphon, .int .i64 p.start, .int .i64 p.positions, .int .i64 p.rate, .int .i64 p.step, .int .i64 p.pass, .int .i64 p.feed, .int .i64 p.pipe, .int .i64 p.orders, .int .i64 p.age] ∧ Below w.heap.size w wr ∧ B ≤ wr.heap.size) (fun i _ _ => N2 - (intOf i).toNat)
      case atStart =>
        refine ⟨0, by omega, rfl, ?_, X1, hB, hsz⟩
        rw [start_mul] at hO
        exact hO
      case round =>
        clear X1 hB hsz hO
        obtain ⟨x, hx, rfl, hO, X1, hB, hsz⟩ := hrel
        obtain ⟨wx, rfl⟩ : ∃ wx : World, wx = wr := ⟨_, rfl⟩
        have hz := X1.lt
        rcases Nat.lt_or_ge x N2 with hlx | hge
        rotate_left
        · obtain rfl : x = N2 := by omega
          have hd2 : ¬ ((x : Int) ≤ p.m0) := by have := E2.out; omega
          go_wp2
          refine ⟨⟨q + 1, by omega, by go_num, ?_, X1, hB, hsz⟩, by simp [intOf]; omega⟩
          rw [up_mul] at hO
          exact hO
        have hd2 : (x : Int) ≤ p.m0 := by have := E2.out; omega
        go_wp2_with fail
        clear hd2 hz
        go_loopw [9, 5] (fun i V wr => ∃ y : Nat, y ≤ N3 ∧ i = .int .i64 y ∧ Hid (OwnSt wr B V (p.preSt ((((l * N1 + q) * N2 + x) * N3 + y) * (N4 * N5)))) ∧ Box wr w.heap.size [.int .i64 p.top, .int .i64 p.bank, .int .i64 p.siphon, .int .i64 p.start, .int .i64 p.positions, .int .i64 p.rate, .int .i64 p.step, .int .i64 p.pass, .int .i64 p.feed, .int .i64 p.pipe, .int .i64 p.orders, .int .i64 p.age] ∧ Below w.heap.size w wr ∧ B ≤ wr.heap.size) (fun i _ _ => N3 - (intOf i).toNat)
        case atStart =>
          refine ⟨0, by omega, rfl, ?_, X1, hB, hsz⟩
          rw [start_mul] at hO
          exact hO
        case round =>
          clear X1 hB hsz hO
          obtain ⟨y, hy, rfl, hO, X1, hB, hsz⟩ := hrel
          obtain ⟨wy, rfl⟩ : ∃ wy : World, wy = wr := ⟨_, rfl⟩
          have hz := X1.lt
          rcases Nat.lt_or_ge y N3 with hly | hge
          rotate_left
          · obtain rfl : y = N3 := by omega
            have hd2 : ¬ ((y : Int) ≤ p.m1) := by have := E3.out; omega
            go_wp2
            refine ⟨⟨x + 1, by omega, by go_num, ?_, X1, hB, hsz⟩, by simp [intOf]; omega⟩
            rw [up_mul] at hO
            exact hO
          have hd2 : (y : Int) ≤ p.m1 := by have := E3.out; omega
          go_wp2_with fail
          clear hd2 hz
          go_loopw [10, 5] (fun i V wr => ∃ o : Nat, o ≤ N4 ∧ i = .int .i64 o ∧ Hid (OwnSt wr B V (p.preSt (((((l * N1 + q) * N2 + x) * N3 + y) * N4 + o) * N5))) ∧ Box wr w.heap.size [.int .i64 p.top, .int .i64 p.bank, .int .i64 p.siphon, .int .i64 p.start, .int .i64 p.positions, .int .i64 p.rate, .int .i64 p.step, .int .i64 p.pass, .int .i64 p.feed, .int .i64 p.pipe, .int .i64 p.orders, .int .i64 p.age] ∧ Below w.heap.size w wr ∧ B ≤ wr.heap.size) (fun i _ _ => N4 - (intOf i).toNat)
          case atStart =>
            refine ⟨0, by omega, rfl, ?_, X1, hB, hsz⟩
            rw [start_mul] at hO
            exact hO
          case round =>
            clear X1 hB hsz hO
            obtain ⟨o, ho, rfl, hO, X1, hB, hsz⟩ := hrel
            obtain ⟨wo, rfl⟩ : ∃ wo : World, wo = wr := ⟨_, rfl⟩
            have hz := X1.lt
            have xl : wo.cell? ⟨w.heap.size, 10, none⟩ = some (.int .i64 p.orders) := X1.cell 10
            rcases Nat.lt_or_ge o N4 with hlo | hge
            rotate_left
            · obtain rfl : o = N4 := by omega
              have hd2 : ¬ ((o : Int) ≤ p.orders) := by have := E4.out; omega
              go_wp2
              refine ⟨⟨y + 1, by omega, by go_num, ?_, X1, hB, hsz⟩, by simp [intOf]; omega⟩
              rw [up_mul] at hO
              exact hO
            have hd2 : (o : Int) ≤ p.orders := by have := E4.out; omega
            go_wp2_with fail
            clear hd2 hz xl
            go_loopw [11, 5] (fun i V wr => ∃ a : Nat, a ≤ N5 ∧ i = .int .i64 a ∧ Hid (OwnSt wr B V (p.preSt ((((((l * N1 + q) * N2 + x) * N3 + y) * N4 + o) * N5 + a)))) ∧ Box wr w.heap.size [.int .i64 p.top, .int .i64 p.bank, .int .i64 p.siphon, .int .i64 p.start, .int .i64 p.positions, .int .i64 p.rate, .int .i64 p.step, .int .i64 p.pass, .int .i64 p.feed, .int .i64 p.pipe, .int .i64 p.orders, .int .i64 p.age] ∧ Below w.heap.size w wr ∧ B ≤ wr.heap.size) (fun i _ _ => N5 - (intOf i).toNat)
            case atStart =>
              refine ⟨0, by omega, rfl, ?_, X1, hB, hsz⟩
              exact hO
            case round =>
              clear X1 hB hsz hO
              obtain ⟨a, ha, rfl, hO, X1, hB, hsz⟩ := hrel
              obtain ⟨wa, rfl⟩ : ∃ wa : World, wa = wr := ⟨_, rfl⟩
              have hz := X1.lt
              have xl : wa.cell? ⟨w.heap.size, 11, none⟩ = some (.int .i64 p.age) := X1.cell 11
              rcases Nat.lt_or_ge a N5 with hla | hge
              rotate_left
              · obtain rfl : a = N5 := by omega
                have hd2 : ¬ ((a : Int) ≤ p.age) := by have := E5.out; omega
                go_wp2
                refine ⟨⟨o + 1, by omega, by go_num, ?_, X1, hB, hsz⟩, by simp [intOf]; omega⟩
                rw [up_one] at hO
                exact hO
              have hd2 : (a : Int) ≤ p.age := by have := E5.out; omega
              have hlen : (p.preSt ((((((l * N1 + q) * N2 + x) * N3 + y) * N4 + o) * N5 + a))).length = (((((l * N1 + q) * N2 + x) * N3 + y) * N4 + o) * N5 + a) := preSt_len _ _
              have hkl : (((((l * N1 + q) * N2 + x) * N3 + y) * N4 + o) * N5 + a) < 1048576 := by
                have h1 := (lt_up (lt_up (lt_up (lt_up (lt_up hll hlq) hlx) hly) hlo) hla)
                have h2 := HC.out
                simp only [← Nat.mul_assoc] at h2
                omega
              have hnx := preSt_succ p ((((((l * N1 + q) * N2 + x) * N3 + y) * N4 + o) * N5 + a))
              rw [HST.out l q x y o a hlq hlx hly hlo hla] at hnx
              have HNX := Lib.hid hnx
              clear hnx
              have hbS := (Below.refl wa.heap.size wa).alloc (Nat.le_refl _) (.cells #[.int .i64 (l : Int), .int .i64 (q : Int), .int .i64 (x : Int), .int .i64 (y : Int), .int .i64 (o : Int), .int .i64 (a : Int)] 30)
              have hO1 := hO.out.later hbS
              have XN := Box.new wa [.int .i64 (l : Int), .int .i64 (q : Int), .int .i64 (x : Int), .int .i64 (y : Int), .int .i64 (o : Int), .int .i64 (a : Int)] 30
              obtain ⟨g', c', w', hr, hO2, hg⟩ := run_appE E (fun _ => rfl) st_one (by omega) (⟨(l : Int), (q : Int), (x : Int), (y : Int), (o : Int), (a : Int)⟩ : St) 43 hO1 XN (Nat.le_trans hsz hbS.size) (by rw [hlen]; omega)
              rw [← HNX.out] at hO2
              rw [hlen] at hO2 hr
              have hB1 := hB.trans (hbS.mono hB.size)
              have hB2 := OwnE.grown hO1 hg (by omega) hB1 hB1.size
              have X2 := box_grown hO1 hg (X1.alloc (.cells #[.int .i64 (l : Int), .int .i64 (q : Int), .int .i64 (x : Int), .int .i64 (y : Int), .int .i64 (o : Int), .int .i64 (a : Int)] 30)) (by omega)
              have hsz2 := Nat.le_trans hsz (Nat.le_trans hbS.size hg.size)
              have HO2 := Lib.hid hO2
              clear hO2 hg hO1 XN hB1 hbS hO hlen hkl
              generalize hkk : ((((l * N1 + q) * N2 + x) * N3 + y) * N4 + o) * N5 = KK at hr HO2
              have HKK := Lib.hid hkk
              clear hkk
              go_wp2
              refine ⟨⟨a + 1, by omega, by go_num, ?_, X2, hB2, hsz2⟩, by simp [intOf]; omega⟩
              rw [← Nat.add_assoc]
              exact HO2
end Go.Proofs.Ytancngachnpefaa
namespace Go.Proofs.Ytancngachnpefaa
open Go.RowKit
theorem one_st (s : St) : ∀ u ∈ s.cells, u.oneCell' = true := by
  intro u hu
  simp only [St.cells, List.mem_cons, List.not_mem_nil, or_false] at hu
  rcases hu with rfl | rfl | rfl | rfl | rfl | rfl <;> rfl
abbrev Row (w : World) (D : Nat) (V : Value) (l : List St) : Prop := OwnE St.cells 6 w D 30 V l
theorem one_box {w : World} {g : Nat} {s : St} (hx : Box w g s.cells) : ∀ j u, (s.cells)[j]? = some u → w.cell? ((⟨g, 0, none⟩ : Addr).add j) = some u := fun j u hu => by
  rw [add_at, Nat.zero_add, hx.cell j]
  exact hu
section
variable {w w' : World} {D g : Nat} {V : Value} {l : List St} {s : St}
theorem Row.form (h : Row w D V l) : ∃ A c, V = .slice A l.length c := by
  rcases h.2 with ⟨rfl, hl⟩ | ⟨b, cap, cur, hv, _⟩
  · exact ⟨none, 0, by rw [hl]⟩
  · exact ⟨some ⟨b, 0, none⟩, cap, hv⟩
theorem run_appS (ty : TypeId) (ho : Row w D V l) (hx : Box w g s.cells) (hD : D ≤ w.heap.size) (hl : l.length ≤ 1048576) :
    ∃ g' c' w', (appF #[43, 43] ty #[V, .slice (some ⟨g, 0, none⟩) 1 1]).run Try.prog w = .ok (.slice (some ⟨g', 0, none⟩) (l.length + 1) c') w' ∧ Row w' D (.slice (some ⟨g', 0, none⟩) (l.length + 1) c') (l ++ [s]) ∧ w.grownBy w' V.ownBlock ∧ (V.ownBlock = some g' ∨ g' = w.heap.size) := by
  obtain ⟨i, E⟩ := elem_state
  obtain ⟨v', w', hr, h3, h2, _, h5⟩ := run_append_own_at (P := Try.prog) w D 43 ty 30 i _ 6 48 E.ht E.hi E.hz E.hsize E.hby E.hzs E.hsz _ _ _ ho ⟨g, 0, none⟩ 1 1 s.cells rfl (one_box hx)
    (one_st s) (by simp only [maxLen]; omega) (by omega) hD
  have h6 := h3.2
  rcases h6 with ⟨_, h6⟩ | ⟨g', cap, cur, hv, _⟩
  · omega
  · subst hv
    refine ⟨g', cap, w', hr, ?_, h2, ?_⟩
    · show OwnE _ _ _ _ _ _ _
      rw [OwnE, List.length_append, List.flatMap_append]
      simpa using h3
    · rcases h5 with h5 | h5
      · exact .inl h5.symm
      · exact .inr (Option.some.inj h5)
theorem Row.cells? (h : Row w D V l) (hg : V.ownBlock = some g) : ∃ cs, w.heap[g]? = some (.cells cs 30 (0, 0)) := by
  rcases h.2 with ⟨rfl, _⟩ | ⟨b, cap, cur, hv, _, hh, _⟩
  · cases hg
  · rw [hv] at hg
    cases hg
    exact ⟨cur, hh⟩
theorem Row.notMap (h : Row w D V l) (hg : V.ownBlock = some g) {es : Array MapEntry} {c : Nat} (hm : w.heap[g]? = some (.map es c)) : False := by
  obtain ⟨cs, hc⟩ := h.cells? hg
  rw [hm] at hc
  cases hc
theorem Row.cellsOnly (h : Row w D V l) (hg : V.ownBlock = some g) {o : Obj} (ho : w.heap[g]? = some o) (hc : o.isCells = false) : False := by
  obtain ⟨cs, hcs⟩ := h.cells? hg
  rw [ho] at hcs
  cases hcs
  cases hc
theorem Row.lt (h : Row w D V l) (hg : V.ownBlock = some g) : D ≤ g ∧ g < w.heap.size := World.ownsRow.lt h g hg
theorem Row.kept {row : Option Nat} (h : Row w D V l) (hg : w.grownBy w' row) (hne : ∀ b, V.ownBlock = some b → row ≠ some b) : Row w' D V l :=
  World.ownsRow.kept h hg (by
    cases hv : V.ownBlock with
    | none => exact .inl rfl
    | some b => exact .inr (fun e => hne b hv e.symm))
theorem Row.same (h : Row w D V l) (hb : ∀ b, V.ownBlock = some b → w'.heap[b]? = w.heap[b]?) : Row w' D V l :=
  ⟨h.1, h.2.imp id fun ⟨g, cap, cur, hv, hD, hh, rest⟩ => ⟨g, cap, cur, hv, hD, (hb g (by rw [hv]; rfl)).trans hh, rest⟩⟩
def quB : Value → Option Nat
  | .slice (some a) _ (_ + 1) => some a.block
  | _ => none
def Qu (w : World) (D : Nat) (V : Value) (l : List St) : Prop :=
  (∃ A, V = .slice A 0 0 ∧ l = []) ∨ ∃ b pre cap, V = .slice (some ⟨b, pre.length * 6, none⟩) l.length (cap + 1) ∧ Row w D (.slice (some ⟨b, 0, none⟩) (pre ++ l).length (pre.length + (cap + 1))) (pre ++ l)
theorem Qu.nil (w : World) (D : Nat) : Qu w D (.slice none 0 0) [] := .inl ⟨none, rfl, rfl⟩
theorem Qu.form (h : Qu w D V l) : ∃ A c, V = .slice A l.length c := by
  rcases h with ⟨A, rfl, rfl⟩ | ⟨b, pre, cap, rfl, _⟩
  · exact ⟨_, _, rfl⟩
  · exact ⟨_, _, rfl⟩
theorem Qu.kept {row : Option Nat} (h : Qu w D V l) (hg : w.grownBy w' row) (hne : ∀ b, quB V = some b → row ≠ some b) : Qu w' D V l := by
  rcases h with h | ⟨b, pre, cap, rfl, h⟩
  · exact .inl h
  · exact .inr ⟨b, pre, cap, rfl, h.kept hg (fun b' hb' => by cases hb'; exact hne b rfl)⟩
theorem Qu.same (h : Qu w D V l) (hb : ∀ b, quB V = some b → w'.heap[b]? = w.heap[b]?) : Qu w' D V l := by
  rcases h with h | ⟨b, pre, cap, rfl, h⟩
  · exact .inl h
  · exact .inr ⟨b, pre, cap, rfl, h.same (fun b' hb' => by cases hb'; exact hb b rfl)⟩
theorem Qu.later (h : Qu w D V l) (hb : Below w.heap.size w w') : Qu w' D V l := h.kept (row := none) ⟨hb.os, hb.tape, hb.output, hb.size, fun i hi _ => hb.block i hi⟩ (fun _ _ e => by cases e)
theorem Qu.lt (h : Qu w D V l) (hg : quB V = some g) : D ≤ g ∧ g < w.heap.size := by
  rcases h with ⟨A, rfl, _⟩ | ⟨b, pre, cap, rfl, h⟩
  · cases A <;> cases hg
  · cases hg
    exact h.lt rfl
theorem Qu.notMap (h : Qu w D V l) (hg : quB V = some g) {es : Array MapEntry} {c : Nat} (hm : w.heap[g]? = some (.map es c)) : False := by
  rcases h with ⟨A, rfl, _⟩ | ⟨b, pre, cap, rfl, h⟩
  · cases A <;> cases hg
  · cases hg
    exact h.notMap rfl hm
theorem Qu.ofRow (h : Row w D V l) : Qu w D V l := by
  rcases h.2 with ⟨rfl, hl⟩ | ⟨b, cap, cur, hv, _, _, hc, _⟩
  · exact .inl ⟨none, rfl, List.length_eq_zero_iff.1 hl⟩
  · subst hv
    cases cap with
    | zero =>
      have hl : l.length = 0 := by omega
      exact .inl ⟨some ⟨b, 0, none⟩, by rw [hl], List.length_eq_zero_iff.1 hl⟩
    | succ cap =>
      refine .inr ⟨b, [], cap, by simp, ?_⟩
      simpa using h
theorem Qu.cellsOnly (h : Qu w D V l) (hg : quB V = some g) {o : Obj} (ho : w.heap[g]? = some o) (hc : o.isCells = false) : False := by
  rcases h with ⟨A, rfl, _⟩ | ⟨b, pre, cap, rfl, h⟩
  · cases A <;> cases hg
  · cases hg
    exact h.cellsOnly rfl ho hc
theorem Qu.cells? (h : Qu w D V l) (hg : quB V = some g) : ∃ cs, w.heap[g]? = some (.cells cs 30 (0, 0)) := by
  rcases h with ⟨A, rfl, _⟩ | ⟨b, pre, cap, rfl, h⟩
  · cases A <;> cases hg
  · cases hg
    exact h.cells? rfl
theorem Qu.head {r : List St} (h : Qu w D V (s :: r)) : ∃ b off cap, V = .slice (some ⟨b, off, none⟩) (r.length + 1) (cap + 1) ∧ D ≤ b ∧ b < w.heap.size ∧ (∀ j, j < 6 → w.cell? ⟨b, off + j, none⟩ = (s.cells)[j]?) ∧
    (∀ A, A = (if cap = 0 then some ⟨b, off, none⟩ else some ⟨b, off + 6, none⟩) → Qu w D (.slice A r.length cap) r ∧ (quB (.slice A r.length cap) = none ∨ quB (.slice A r.length cap) = some b)) := by
  rcases h with ⟨A, rfl, h⟩ | ⟨b, pre, cap, rfl, h⟩
  · cases h
  · obtain ⟨A, c, hv, hc⟩ := h.sl (fun _ => rfl)
    have hk : pre.length < (pre ++ s :: r).length := by simp
    obtain ⟨b', hA, h1, h2, h3⟩ := hc pre.length hk
    cases hv
    cases hA
    have e : (pre ++ s :: r)[pre.length] = s := by simp
    rw [e] at h3
    refine ⟨b, pre.length * 6, cap, rfl, h1, h2, h3, ?_⟩
    rintro A rfl
    have hcap := h.2
    rcases hcap with ⟨hv, _⟩ | ⟨_, cap', cur, hv, _, _, hle, _⟩
    · cases hv
    cases hv
    have hr : (pre ++ s :: r).length = pre.length + (r.length + 1) := by simp
    by_cases h0 : cap = 0
    · subst h0
      have hrl : r.length = 0 := by omega
      rw [if_pos rfl]
      exact ⟨.inl ⟨_, by rw [hrl], List.length_eq_zero_iff.1 hrl⟩, .inl rfl⟩
    · obtain ⟨cap, rfl⟩ : ∃ c, cap = c + 1 := ⟨cap - 1, by omega⟩
      rw [if_neg h0]
      refine ⟨.inr ⟨b, pre ++ [s], cap, ?_, ?_⟩, .inr rfl⟩
      · rw [List.length_append, Nat.add_mul]
        rfl
      · have e1 : pre ++ [s] ++ r = pre ++ s :: r := by simp
        have e2 : (pre ++ [s]).length + (cap + 1) = pre.length + (cap + 1 + 1) := by rw [List.length_append]; simp; omega
        rw [e1, e2]
        exact h
end
end Go.Proofs.Ytancngachnpefaa
namespace Go.Proofs.Ytancngachnpefaa
open Go.RowKit
section
variable {w w' : World} {D g : Nat} {V : Value} {l : List St} {s : St}
theorem len_st : ∀ l : List St, (l.flatMap St.cells).length = l.length * 6
  | [] => rfl
  | x :: l => by
    rw [List.flatMap_cons, List.length_append, len_st l, List.length_cons]
    simp only [St.cells, List.length_cons, List.length_nil]
    omega
theorem grown_any {row : Option Nat} (h : w.grownBy w' none) : w.grownBy w' row := ⟨h.os, h.tape, h.output, h.size, fun k hk _ => h.block k hk (by simp)⟩
theorem Qu.app (ty : TypeId) (h : Qu w D V l) (hx : Box w g s.cells) (hD : D ≤ w.heap.size) (hl : l.length ≤ 1048576) :
    ∃ A c w', (appF #[43, 43] ty #[V, .slice (some ⟨g, 0, none⟩) 1 1]).run Try.prog w = .ok (.slice A (l.length + 1) c) w' ∧ Qu w' D (.slice A (l.length + 1) c) (l ++ [s]) ∧ w.grownBy w' (quB V) ∧ (quB (.slice A (l.length + 1) c) = quB V ∨ ∃ k, quB (.slice A (l.length + 1) c) = some k ∧ w.heap.size ≤ k) := by
  obtain ⟨i, E⟩ := elem_state
  have hlen1 : (l ++ [s]).length = l.length + 1 := by simp
  -- the arm that grows
  have grows : ∀ (a : Addr) (c : Nat), V = .slice (some a) l.length c → c < l.length + 1 → (∀ j u, (l.flatMap St.cells)[j]? = some u → w.cell? (a.add j) = some u) →
      ∃ A c w', (appF #[43, 43] ty #[V, .slice (some ⟨g, 0, none⟩) 1 1]).run Try.prog w = .ok (.slice A (l.length + 1) c) w' ∧ Qu w' D (.slice A (l.length + 1) c) (l ++ [s]) ∧ w.grownBy w' (quB V) ∧ (quB (.slice A (l.length + 1) c) = quB V ∨ ∃ k, quB (.slice A (l.length + 1) c) = some k ∧ w.heap.size ≤ k) := by
    rintro a c rfl hc holds
    obtain ⟨v', w', hr, h3, h2⟩ := run_append_arg_grows (P := Try.prog) w 43 ty 30 i _ 6 48 E.ht E.hi E.hz E.hsize E.hby E.hzs E.hsz a l.length c (l.flatMap St.cells) (len_st l) holds ⟨g, 0, none⟩ 1 1 s.cells rfl (one_box hx) (by omega) (by simp only [maxLen]; omega) (by omega)
    rcases h3.2 with ⟨_, h6⟩ | ⟨g', cap', cur, hv, hge, hh, hle, hrest⟩
    · omega
    subst hv
    have hrow : Row w' D (.slice (some ⟨g', 0, none⟩) (l.length + 1) cap') (l ++ [s]) := by
      show OwnE _ _ _ _ _ _ _
      rw [OwnE, hlen1, List.flatMap_append]
      refine ⟨by simpa using h3.1, .inr ⟨g', cap', cur, rfl, Nat.le_trans hD hge, hh, hle, ?_⟩⟩
      simpa using hrest
    have hq := Qu.ofRow hrow
    refine ⟨_, _, w', hr, hq, grown_any h2, ?_⟩
    cases cap' with
    | zero => omega
    | succ cap' => exact .inr ⟨g', rfl, hge⟩
  rcases h with ⟨A, rfl, rfl⟩ | ⟨b, pre, cap, rfl, h⟩
  · cases A with
    | none =>
      obtain ⟨g', c', w', hr, h1, h2, h3⟩ := run_appS ty (ownE_nil St.cells 6 w D 30) hx hD (by simp)
      refine ⟨_, _, w', hr, Qu.ofRow h1, h2, ?_⟩
      have hg : g' = w.heap.size := h3.resolve_left (fun e => by cases e)
      subst hg
      cases c' with
      | zero => exact .inl rfl
      | succ c' => exact .inr ⟨_, rfl, Nat.le_refl _⟩
    | some a => exact grows a 0 rfl (by omega) (fun j u hu => by simp at hu)
  · by_cases hroom : l.length + 1 ≤ cap + 1
    · rcases h.2 with ⟨hv, _⟩ | ⟨b', cap', cur, hv, hDb, hh, hle, hcm, hcs, htk⟩
      · cases hv
      cases hv
      have hpl : (pre ++ l).length = pre.length + l.length := List.length_append
      have hcell : ∀ j, j < cur.size → (w.cell? ⟨b, j, none⟩).isSome = true := fun j hj => by
        simp [World.cell?, hh, hj]
      have hfree : ∀ j, w.frozen? ⟨b, j, none⟩ = false := fun j => by
        simp [World.frozen?, hh]
      have hr := run_append_room_cells (P := Try.prog) w 43 ty 30 i E.ht E.hi b (pre.length * 6) l.length (cap + 1) ⟨g, 0, none⟩ 1 1 s.cells (by rw [E.hsize]; rfl) (one_box hx) (one_st s) hroom
        (fun j hj => by rw [E.hsize]; exact hcell _ (by rw [hcs]; simp only [St.cells, List.length_cons, List.length_nil] at hj; omega)) (fun j hj => hfree _)
      have hr2 := run_append_room_cells (P := Try.prog) w 43 ty 30 i E.ht E.hi b 0 (pre ++ l).length (pre.length + (cap + 1)) ⟨g, 0, none⟩ 1 1 s.cells (by rw [E.hsize]; rfl) (one_box hx) (one_st s) (by omega)
        (fun j hj => by rw [E.hsize]; exact hcell _ (by rw [hcs]; simp only [St.cells, List.length_cons, List.length_nil] at hj; omega)) (fun j hj => hfree _)
      have hr3 := run_append_room (P := Try.prog) w 43 ty 30 i E.ht E.hi b (pre ++ l).length (pre.length + (cap + 1)) cur hh ⟨g, 0, none⟩ 1 1 s.cells (by rw [E.hsize]; rfl) (one_box hx) (one_st s) (by omega) (by rw [hcs, E.hsize]; simp only [St.cells, List.length_cons, List.length_nil]; omega)
      have hw := hr2.symm.trans hr3
      simp only [Result.ok.injEq, true_and] at hw
      rw [E.hsize] at hr
      rw [Nat.zero_add, E.hsize, hpl, Nat.add_mul] at hw
      rw [hw] at hr
      refine ⟨_, _, _, hr, .inr ⟨b, pre, cap, by rw [hlen1], ?_⟩, ⟨rfl, rfl, rfl, by simp, fun k _ hk => setRow_other w b k _ (fun e => hk (by simp [quB, e]))⟩, .inl rfl⟩
      have e1 : pre ++ (l ++ [s]) = (pre ++ l) ++ [s] := by simp
      have hlen : ((pre ++ l ++ [s]).flatMap St.cells).length = (pre ++ l ++ [s]).length * 6 := len_st _
      show OwnE _ _ _ _ _ _ _
      rw [e1]
      refine ⟨hlen, .inr ⟨b, _, _, rfl, hDb, setRow_heap w b cur _ _ _ hh, by rw [List.length_append, hpl]; simp; omega, hcm, ?_, ?_⟩⟩
      · simp only [List.size_toArray, List.length_append, List.length_take, List.length_drop, Array.length_toList]
        simp only [St.cells, List.length_cons, List.length_nil]
        omega
      · have e2 : ((pre ++ l ++ [s]).flatMap St.cells) = (pre ++ l).flatMap St.cells ++ s.cells := by simp
        rw [e2]
        have htk2 : List.take (pre.length * 6 + l.length * 6) cur.toList = (pre ++ l).flatMap St.cells := by rw [← htk, hpl, Nat.add_mul]
        rw [htk2]
        have e3 : (pre ++ l ++ [s]).length * 6 = ((pre ++ l).flatMap St.cells ++ s.cells).length := by rw [← e2, hlen]
        rw [e3]
        exact List.take_left
    · refine grows _ _ rfl (by omega) (fun j u hu => ?_)
      have hc := World.ownsRow.cells h (g := b) rfl (pre.length * 6 + j) u (by
        rw [List.flatMap_append, List.getElem?_append_right (by rw [len_st]; omega), len_st]
        rw [show pre.length * 6 + j - pre.length * 6 = j by omega]
        exact hu)
      rw [add_at] at hc ⊢
      rw [Nat.zero_add] at hc
      exact hc
end
def updF (fr : St → List St) (y : St) (l : List St) : St → List St := fun x => if x = y then l else fr x
structure RowsV (w : World) (D B : Nat) (No : Nat → Prop) (fr : St → List St) (V : St → Option Value) : Prop where
  map : MapS w B V
  row : ∀ y v, V y = some v → Row w D v (fr y)
  none : ∀ y, V y = none → fr y = []
  apart : ∀ y y' v v' g, V y = some v → V y' = some v' → v.ownBlock = some g → v'.ownBlock = some g → y = y'
  off : ∀ y v g, V y = some v → v.ownBlock = some g → ¬ No g
def RowsS (w : World) (D B : Nat) (No : Nat → Prop) (fr : St → List St) : Prop := ∃ V, RowsV w D B No fr V
section
variable {w w' : World} {D B : Nat} {No : Nat → Prop} {fr : St → List St}
theorem RowsS.made (w : World) (D : Nat) (No : Nat → Prop) : RowsS (w.alloc (.map #[] 0)) D w.heap.size No (fun _ => []) :=
  ⟨fun _ => none, MapS.made w, (fun _ _ h => by cases h), (fun _ _ => rfl), (fun _ _ _ _ _ h => by cases h), (fun _ _ _ h => by cases h)⟩
theorem RowsV.kept {V : St → Option Value} {row : Option Nat} (h : RowsV w D B No fr V) (hg : w.grownBy w' row) (hB : row ≠ some B) (hr : ∀ g, row = some g → No g ∨ g < D ∨ ∃ o, w.heap[g]? = some o ∧ o.isCells = false) : RowsV w' D B No fr V :=
  ⟨h.map.kept hg (fun e => hB e.symm), fun y v hv => (h.row y v hv).kept hg (fun b hb e => by
    rcases hr b e with h1 | h1 | ⟨o, h1, h2⟩
    · exact h.off y v b hv hb h1
    · have := (h.row y v hv).lt hb
      omega
    · exact (h.row y v hv).cellsOnly hb h1 h2), h.none, h.apart, h.off⟩
theorem RowsS.kept {row : Option Nat} (h : RowsS w D B No fr) (hg : w.grownBy w' row) (hB : row ≠ some B) (hr : ∀ g, row = some g → No g ∨ g < D ∨ ∃ o, w.heap[g]? = some o ∧ o.isCells = false) : RowsS w' D B No fr := h.imp fun _ h => h.kept hg hB hr
theorem RowsS.later (h : RowsS w D B No fr) (hb : Below w.heap.size w w') : RowsS w' D B No fr := h.kept (row := none) ⟨hb.os, hb.tape, hb.output, hb.size, fun i hi _ => hb.block i hi⟩ (fun e => by cases e) (fun _ e => by cases e)
theorem RowsS.lt (h : RowsS w D B No fr) : B < w.heap.size := by
  obtain ⟨V, h⟩ := h
  exact h.map.lt
theorem RowsS.no {No' : Nat → Prop} (h : RowsS w D B No fr) (hn : ∀ g, No' g → No g ∨ w.heap.size ≤ g) : RowsS w D B No' fr := by
  obtain ⟨V, h⟩ := h
  refine ⟨V, h.map, h.row, h.none, h.apart, fun y v g hv hg e => ?_⟩
  rcases hn g e with h1 | h1
  · exact h.off y v g hv hg h1
  · have := (h.row y v hv).lt hg
    omega
theorem RowsS.look {y : St} (h : RowsS w D B No fr) (hy : y.Wide) (hz : (zeroValue 43).run Try.prog w = .ok (.slice none 0 0) w) :
    ∃ v, (Instr.lookup 97 (.map (some B)) y.v false).run Try.prog w = .ok v w ∧ Row w D v (fr y) ∧ ∀ k, v.ownBlock = some k → ¬ No k := by
  obtain ⟨V, h⟩ := h
  refine ⟨_, h.map.look Try.underlying97 hz hy, ?_⟩
  cases hv : V y with
  | none =>
    rw [h.none y hv]
    exact ⟨ownE_nil _ _ _ _ _, fun k hk => by cases hk⟩
  | some v => exact ⟨h.row y v hv, fun k hk => h.off y v k hv hk⟩
structure Turn2 (w w' : World) (B : Nat) (row : Option Nat) : Prop where
  os : w'.os = w.os
  tape : w'.tape = w.tape
  output : w'.output = w.output
  size : w.heap.size ≤ w'.heap.size
  block : ∀ k, k < w.heap.size → k ≠ B → some k ≠ row → w'.heap[k]? = w.heap[k]?
theorem RowsS.push {y s : St} {g : Nat} (ty : TypeId) (h : RowsS w D B No fr) (hy : y.Wide) (hx : Box w g s.cells) (hD : D ≤ w.heap.size) (hl : (fr y).length ≤ 1048576) (hNo : ∀ k, No k → k < w.heap.size)
    (hz : (zeroValue 43).run Try.prog w = .ok (.slice none 0 0) w) :
    ∃ (w1 : World) (st : Nat) (A0 : Option Addr) (n0 c0 : Nat) (w2 : World) (A1 : Option Addr) (n1 c1 : Nat) (w3 : World), (Instr.mapEntry 97 (.map (some B)) y.v).run Try.prog w = .ok (.tuple #[.slice A0 n0 c0, goInt st]) w1 ∧
      (appF #[43, 43] ty #[.slice A0 n0 c0, .slice (some ⟨g, 0, none⟩) 1 1]).run Try.prog w1 = .ok (.slice A1 n1 c1) w2 ∧
      (Instr.entryStore 97 (.map (some B)) (goInt st) (.slice A1 n1 c1)).run Try.prog w2 = .ok () w3 ∧ RowsS w3 D B No (updF fr y (fr y ++ [s])) ∧
      ∃ row, Turn2 w w3 B row ∧ ∀ k, row = some k → D ≤ k ∧ ¬ No k ∧ ∃ cs, w.heap[k]? = some (.cells cs 30 (0, 0)) := by
  obtain ⟨V, h⟩ := h
  obtain ⟨w1, st, hr1, hm1, hst1, hg1, hs1⟩ := h.map.entry Try.underlying97 hz hy
  obtain ⟨v0, hv0⟩ : ∃ v0, (V y).getD (.slice none 0 0) = v0 := ⟨_, rfl⟩
  rw [hv0] at hr1 hm1
  have hrow0 : Row w D v0 (fr y) := by
    rw [← hv0]
    cases hv : V y with
    | none =>
      rw [h.none y hv]
      exact ownE_nil _ _ _ _ _
    | some v => exact h.row y v hv
  have hoff0 : ∀ k, v0.ownBlock = some k → ¬ No k ∧ ∀ y' v', y' ≠ y → V y' = some v' → v'.ownBlock ≠ some k := by
    rw [← hv0]
    cases hv : V y with
    | none => exact fun k hk => by cases hk
    | some v => exact fun k hk => ⟨h.off y v k hv hk, fun y' v' hne hv' hk' => hne (h.apart y' y v' v k hv' hv hk' hk)⟩
  have hBrow : ∀ y' v' k, V y' = some v' → v'.ownBlock = some k → k ≠ B := fun y' v' k hv hk e => by
    subst e
    obtain ⟨es, c, hb⟩ := h.map.block
    exact (h.row y' v' hv).notMap hk hb
  have hB0 : ∀ k, v0.ownBlock = some k → k ≠ B := fun k hk e => by
    subst e
    obtain ⟨es, c, hb⟩ := h.map.block
    exact hrow0.notMap hk hb
  have hx1 : Box w1 g s.cells := by
    obtain ⟨t, ht⟩ := hx
    exact ⟨t, (hg1.block g (Array.getElem?_eq_some_iff.1 ht).1 (fun e => h.map.notBox ⟨t, ht⟩ (Option.some.inj e))).trans ht⟩
  have hrow1 : Row w1 D v0 (fr y) := hrow0.kept hg1 (fun b hb e => hB0 b hb (Option.some.inj e).symm)
  obtain ⟨g', c', w2, hr2, hrow2, hg2, hor⟩ := run_appS ty hrow1 hx1 (by rw [hs1]; exact hD) hl
  have hm2 : MapS w2 B (updS V y v0) := hm1.kept hg2 (fun e => hB0 B e.symm rfl)
  have hst2 : StampS w2 B y st := hst1.same (hg2.block B hm1.lt (fun e => hB0 B e.symm rfl))
  obtain ⟨w3, hr3, hm3, hg3, hs3⟩ := hm2.entryPut (t := 97) hst2 (.slice (some ⟨g', 0, none⟩) ((fr y).length + 1) c')
  rw [updS_twice] at hm3
  obtain ⟨A0, c0, rfl⟩ := hrow0.form
  have hg'lt : g' < w2.heap.size := (hrow2.lt rfl).2
  have hg'B : g' ≠ B := fun e => by
    subst e
    obtain ⟨es, c, hb⟩ := hm2.block
    exact hrow2.notMap rfl hb
  have hrow3 : Row w3 D (.slice (some ⟨g', 0, none⟩) ((fr y).length + 1) c') (fr y ++ [s]) := hrow2.kept hg3 (fun b hb e => by cases hb; exact hg'B (Option.some.inj e).symm)
  refine ⟨w1, st, A0, _, c0, w2, _, _, c', w3, hr1, hr2, hr3, ⟨_, hm3, ?_, ?_, ?_, ?_⟩, (Value.slice A0 (fr y).length c0).ownBlock, ⟨(hg3.os.trans hg2.os).trans hg1.os, (hg3.tape.trans hg2.tape).trans hg1.tape, (hg3.output.trans hg2.output).trans hg1.output, Nat.le_trans hg1.size (Nat.le_trans hg2.size hg3.size), fun k hk hkB hkr => ?_⟩, fun k hk => ⟨(hrow0.lt hk).1, (hoff0 k hk).1, hrow0.cells? hk⟩⟩
  · intro y' v' hv'
    unfold updS at hv'
    unfold updF
    split at hv'
    · rename_i e
      cases hv'
      rw [if_pos e]
      exact hrow3
    · rename_i e
      rw [if_neg e]
      have hr := h.row y' v' hv'
      have k1 := hr.kept hg1 (fun b hb e2 => hBrow y' v' b hv' hb (Option.some.inj e2).symm)
      have k2 := k1.kept hg2 (fun b hb e2 => (hoff0 b e2).2 y' v' e hv' hb)
      exact k2.kept hg3 (fun b hb e2 => hBrow y' v' b hv' hb (Option.some.inj e2).symm)
  · intro y' hv'
    unfold updS at hv'
    unfold updF
    split at hv'
    · cases hv'
    · rename_i e
      rw [if_neg e]
      exact h.none y' hv'
  · have hnew : ∀ y' v', y' ≠ y → V y' = some v' → v'.ownBlock ≠ some g' := fun y' v' hne hv' hk => by
      rcases hor with ho | ho
      · exact (hoff0 g' ho).2 y' v' hne hv' hk
      · have := ((h.row y' v' hv').lt hk).2
        omega
    intro y1 y2 v1 v2 k hv1 hv2 hk1 hk2
    unfold updS at hv1 hv2
    split at hv1
    · rename_i e1
      cases hv1
      cases hk1
      split at hv2
      · rename_i e2
        rw [e1, e2]
      · rename_i e2
        exact absurd hk2 (hnew y2 v2 e2 hv2)
    · rename_i e1
      split at hv2
      · cases hv2
        cases hk2
        exact absurd hk1 (hnew y1 v1 e1 hv1)
      · exact h.apart y1 y2 v1 v2 k hv1 hv2 hk1 hk2
  · intro y' v' k hv' hk
    unfold updS at hv'
    split at hv'
    · cases hv'
      cases hk
      rcases hor with ho | ho
      · exact (hoff0 g' ho).1
      · intro e
        have := hNo g' e
        omega
    · exact h.off y' v' k hv' hk
  · have e1 := hg1.block k hk (fun e => hkB (Option.some.inj e))
    have e2 := hg2.block k (by rw [hs1]; exact hk) hkr
    have e3 := hg3.block k (Nat.lt_of_lt_of_le (by rw [hs1]; exact hk) hg2.size) (fun e => hkB (Option.some.inj e))
    exact e3.trans (e2.trans e1)
end
end Go.Proofs.Ytancngachnpefaa
