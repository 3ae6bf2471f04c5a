/- Check of plant. No condition. -/
import Derived.Test.YtancngachnpefaaQK
set_option linter.unusedVariables false
set_option linter.unusedSimpArgs false
set_option maxRecDepth 100000
set_option maxHeartbeats 2000000
namespace Go.Proofs.Ytancngachnpefaa
open Go.RowKit
theorem check_low (p : Pl) (w : World) (h : p.top < 1 ∨ 63 < p.top) : Calls Try.prog 22 #[p.v] w fun e w' => e = .returned (.int .i64 320) ∧ Below w.heap.size w w' := by
  obtain ⟨m, hm⟩ : ∃ m, IntKind.i64.wrap (p.top - 1) = m := ⟨_, rfl⟩
  have hix := ixP0 p m
  rcases h with h | h
  all_goals
    go_enter Try.func22, Try.ntmps22
    go_wp2_with fail
    refine wp_loop_rounds 1 ?_
    rw [rounds_succ]
    go_wp2
    go_ret
    exact ⟨rfl, ((Below.refl _ _).alloc (Nat.le_refl _) _).alloc (by simp) _⟩
theorem check_mid (p : Pl) (w : World) (h1 : 1 ≤ p.top) (h2 : p.top ≤ 63) : Calls Try.prog 22 #[p.v] w fun e w' => e = .returned (.int .i64 p.checkT) ∧ Below w.heap.size w w' := by
  go_enter Try.func22, Try.ntmps22
  go_wp2_with fail
  have X := Box.new w p.cells 23
  have hB : Below w.heap.size w (w.alloc (.cells #[.int .i64 p.top, .int .i64 p.bank, .int .i64 p.siphon, .int .i64 p.start, .int .i64 p.positions, .int .i64 p.rate, .int .i64 p.step, .int .i64 p.pass, .int .i64 p.feed, .int .i64 p.pipe, .int .i64 p.orders, .int .i64 p.age] 23)) := (Below.refl _ _).alloc (Nat.le_refl _) _
  generalize w.alloc (.cells #[.int .i64 p.top, .int .i64 p.bank, .int .i64 p.siphon, .int .i64 p.start, .int .i64 p.positions, .int .i64 p.rate, .int .i64 p.step, .int .i64 p.pass, .int .i64 p.feed, .int .i64 p.pipe, .int .i64 p.orders, .int .i64 p.age] 23) = W at X hB ⊢
  go_loopw [49] (fun i wr => ∃ k : Nat, k ≤ 12 ∧ i = .int .i64 k ∧ Below W.heap.size W wr ∧ Hid (((p.bounds.take k).all fun t => inI t.1 t.2.1 t.2.2) = true)) (fun i _ => (12 - intOf i).toNat)
  case atStart => exact ⟨0, by omega, rfl, Below.refl _ _, rfl⟩
  case round =>
    obtain ⟨k, hk, rfl, hb, hall⟩ := hrel
    by_cases hlt : k < 12
    · obtain ⟨⟨x, lo, hi⟩, ht⟩ : ∃ t, p.bounds.getD k (0, 0, 0) = t := ⟨_, rfl⟩
      have hix := ixP p k hlt
      have hbad := Pl.bounds_bad (p := p) hlt
      have htk := p.bounds_take k hlt
      rw [ht] at hix hbad htk
      rw [hall.out, Bool.true_and] at htk
      have hbad := Lib.hid hbad
      have htk := Lib.hid htk
      clear ht
      go_wp2
      case roundEnd =>
        have h1 : lo ≤ x ∧ x ≤ hi := by assumption
        refine ⟨⟨k + 1, by omega, by go_num, hb.alloc hb.size _, ?_⟩, by simp [intOf]; omega⟩
        rw [Hid, htk.out]
        exact decide_eq_true h1
      all_goals
        go_ret
        refine ⟨?_, (hB.trans (hb.mono hB.size)).alloc (by have := hB.size; have := hb.size; omega) _⟩
        rw [Pl.check_bad (hbad.out (decide_eq_false (by omega)))]
        rfl
    · obtain rfl : k = 12 := by omega
      have hv : p.validB = true := by rw [Pl.bounds_all]; exact hall.out
      have X' := X.later hb
      obtain ⟨c0, c1, c2, c3, c4, c5, c6, c7, c8, c9, c10, c11⟩ := X'.c12
      have hcz : Hid (p.checkT = if 4096 < p.countI then 2 else 0) := by rw [Hid, Pl.checkT, if_pos hv]
      have HV := Lib.hid (Pl.valid_of hv)
      clear hv
      go_wp2_with fail
      refine (count_any p HV _).mono ?_
      rintro e w2 ⟨rfl, hb2⟩
      by_cases hc : 4096 < p.countI
      · go_wp2
        go_ret
        exact ⟨by rw [hcz.out, if_pos hc]; rfl, hB.trans ((hb.trans (hb2.mono hb.size)).mono hB.size)⟩
      · go_wp2
        go_ret
        exact ⟨by rw [hcz.out, if_neg (by omega)]; rfl, hB.trans ((hb.trans (hb2.mono hb.size)).mono hB.size)⟩
theorem check_any (p : Pl) (w : World) : Calls Try.prog 22 #[p.v] w fun e w' => e = .returned (.int .i64 p.checkT) ∧ Below w.heap.size w w' := by
  by_cases h : p.top < 1 ∨ 63 < p.top
  · rw [Pl.check_bad (Pl.invalid_top h)]
    exact check_low p w h
  · exact check_mid p w (by omega) (by omega)
end Go.Proofs.Ytancngachnpefaa
namespace Go.Proofs.Ytancngachnpefaa
open Go.RowKit
def RetS (t : St × Int) (w : World) (e : Ending) (w' : World) : Prop := ∃ (s : St) (er : Int), e = .returned (.tuple #[s.v, .int .i64 er]) ∧ Hid (t = (s, er)) ∧ Below w.heap.size w w'
def RetN (t : Int × Int) (w : World) (e : Ending) (w' : World) : Prop := ∃ n er : Int, e = .returned (.tuple #[.int .i64 n, .int .i64 er]) ∧ Hid (t = (n, er)) ∧ Below w.heap.size w w'
def RetO (t : Bool × Int) (w : World) (e : Ending) (w' : World) : Prop := ∃ (ok : Bool) (er : Int), e = .returned (.tuple #[.bool ok, .int .i64 er]) ∧ Hid (t = (ok, er)) ∧ Below w.heap.size w w'
theorem check_at {p : Pl} {c : Int} (h : Hid (p.checkT = c)) (w : World) : Calls Try.prog 22 #[p.v] w fun e w' => e = .returned (.int .i64 c) ∧ Below w.heap.size w w' :=
  (check_any p w).mono fun _ _ ⟨he, hb⟩ => ⟨by rw [he, h.out], hb⟩
theorem rcheck_at {p : Pl} {c : Int} (h : Hid (p.checkT = c)) (w : World) : Calls Try.prog 32 #[p.v] w fun e w' => e = .returned (.int .i64 c) ∧ Below w.heap.size w w' :=
  (rcheck_any p w).mono fun _ _ ⟨he, hb⟩ => ⟨by rw [he, h.out], hb⟩
theorem Begin_no (p : Pl) (c : Int) (h : Hid (p.checkT = c)) (_h1 : (c == 0) = false) (_h2 : (c != 0) = true) (w : World) : Calls Try.prog 27 #[p.v] w fun e w' => e = .returned (.tuple #[St.zero.v, .int .i64 c]) ∧ Below w.heap.size w w' := by
  go_enter Try.func27, Try.ntmps27
  go_wp2_with fail
  refine (check_at h _).mono ?_
  rintro e w1 ⟨rfl, hb⟩
  have X0 := (((Box.newAt (n := w.heap.size) [.int .i64 p.top, .int .i64 p.bank, .int .i64 p.siphon, .int .i64 p.start, .int .i64 p.positions, .int .i64 p.rate, .int .i64 p.step, .int .i64 p.pass, .int .i64 p.feed, .int .i64 p.pipe, .int .i64 p.orders, .int .i64 p.age] 23 (by simp)).alloc _)).later hb
  have X1 := ((Box.newAt (n := w.heap.size + 1) [.int .i64 0, .int .i64 0, .int .i64 0, .int .i64 0, .int .i64 0, .int .i64 0] 30 (by simp))).later hb
  have hB : Below w.heap.size w w1 := ((((Below.refl w.heap.size w).alloc (by simp <;> omega) _).alloc (by simp <;> omega) _)).trans (hb.mono (by simp <;> omega))
  clear hb
  obtain ⟨X1c0, X1f0, X1c1, X1f1, X1c2, X1f2, X1c3, X1f3, X1c4, X1f4, X1c5, X1f5⟩ := X1.f6
  have X1z : w.heap.size + 1 < w1.heap.size := X1.lt
  have hle : w.heap.size ≤ w.heap.size + 1 := by omega
  go_wp2
  have hY := ((((((X1.set 0 (.int .i64 0)).set 1 (.int .i64 0)).set 2 (.int .i64 0)).set 3 (.int .i64 0)).set 4 (.int .i64 0)).set 5 (.int .i64 0))
  have hB := ((((((hB.setCell (p := ⟨w.heap.size + 1, 0, none⟩) (by simp) (.int .i64 0)).setCell (p := ⟨w.heap.size + 1, 1, none⟩) (by simp) (.int .i64 0)).setCell (p := ⟨w.heap.size + 1, 2, none⟩) (by simp) (.int .i64 0)).setCell (p := ⟨w.heap.size + 1, 3, none⟩) (by simp) (.int .i64 0)).setCell (p := ⟨w.heap.size + 1, 4, none⟩) (by simp) (.int .i64 0)).setCell (p := ⟨w.heap.size + 1, 5, none⟩) (by simp) (.int .i64 0))
  generalize ((((((w1.setCell ⟨w.heap.size + 1, 0, none⟩ (.int .i64 0)).setCell ⟨w.heap.size + 1, 1, none⟩ (.int .i64 0)).setCell ⟨w.heap.size + 1, 2, none⟩ (.int .i64 0)).setCell ⟨w.heap.size + 1, 3, none⟩ (.int .i64 0)).setCell ⟨w.heap.size + 1, 4, none⟩ (.int .i64 0)).setCell ⟨w.heap.size + 1, 5, none⟩ (.int .i64 0)) = W at hY hB ⊢
  obtain ⟨y0, y1, y2, y3, y4, y5⟩ := hY.c6
  refine bodyPost_ret (v := .tuple #[St.zero.v, .int .i64 c]) (by simp [results, Try.results27, go_sem, y0, y1, y2, y3, y4, y5, St.zero]) rfl ?_
  exact ⟨rfl, hB⟩
theorem Begin_yes (p : Pl) (h : Hid (p.checkT = 0)) (w : World) : Calls Try.prog 27 #[p.v] w fun e w' => e = .returned (.tuple #[(St.mk p.start 0 0 0 0 p.age).v, .int .i64 0]) ∧ Below w.heap.size w w' := by
  go_enter Try.func27, Try.ntmps27
  go_wp2_with fail
  refine (check_at h _).mono ?_
  rintro e w1 ⟨rfl, hb⟩
  have X0 := (((Box.newAt (n := w.heap.size) [.int .i64 p.top, .int .i64 p.bank, .int .i64 p.siphon, .int .i64 p.start, .int .i64 p.positions, .int .i64 p.rate, .int .i64 p.step, .int .i64 p.pass, .int .i64 p.feed, .int .i64 p.pipe, .int .i64 p.orders, .int .i64 p.age] 23 (by simp)).alloc _)).later hb
  have X1 := ((Box.newAt (n := w.heap.size + 1) [.int .i64 0, .int .i64 0, .int .i64 0, .int .i64 0, .int .i64 0, .int .i64 0] 30 (by simp))).later hb
  have hB : Below w.heap.size w w1 := ((((Below.refl w.heap.size w).alloc (by simp <;> omega) _).alloc (by simp <;> omega) _)).trans (hb.mono (by simp <;> omega))
  clear hb
  obtain ⟨X0c0, X0f0, X0c1, X0f1, X0c2, X0f2, X0c3, X0f3, X0c4, X0f4, X0c5, X0f5, X0c6, X0f6, X0c7, X0f7, X0c8, X0f8, X0c9, X0f9, X0c10, X0f10, X0c11, X0f11⟩ := X0.f12
  have X0z : w.heap.size < w1.heap.size := X0.lt
  obtain ⟨X1c0, X1f0, X1c1, X1f1, X1c2, X1f2, X1c3, X1f3, X1c4, X1f4, X1c5, X1f5⟩ := X1.f6
  have X1z : w.heap.size + 1 < w1.heap.size := X1.lt
  go_wp2
  have hY := ((((((X1.set 0 (.int .i64 p.start)).set 1 (.int .i64 0)).set 2 (.int .i64 0)).set 3 (.int .i64 0)).set 4 (.int .i64 0)).set 5 (.int .i64 p.age))
  have hB := ((((((hB.setCell (p := ⟨w.heap.size + 1, 0, none⟩) (by simp) (.int .i64 p.start)).setCell (p := ⟨w.heap.size + 1, 1, none⟩) (by simp) (.int .i64 0)).setCell (p := ⟨w.heap.size + 1, 2, none⟩) (by simp) (.int .i64 0)).setCell (p := ⟨w.heap.size + 1, 3, none⟩) (by simp) (.int .i64 0)).setCell (p := ⟨w.heap.size + 1, 4, none⟩) (by simp) (.int .i64 0)).setCell (p := ⟨w.heap.size + 1, 5, none⟩) (by simp) (.int .i64 p.age))
  generalize ((((((w1.setCell ⟨w.heap.size + 1, 0, none⟩ (.int .i64 p.start)).setCell ⟨w.heap.size + 1, 1, none⟩ (.int .i64 0)).setCell ⟨w.heap.size + 1, 2, none⟩ (.int .i64 0)).setCell ⟨w.heap.size + 1, 3, none⟩ (.int .i64 0)).setCell ⟨w.heap.size + 1, 4, none⟩ (.int .i64 0)).setCell ⟨w.heap.size + 1, 5, none⟩ (.int .i64 p.age)) = W at hY hB ⊢
  obtain ⟨y0, y1, y2, y3, y4, y5⟩ := hY.c6
  refine bodyPost_ret (v := .tuple #[(St.mk p.start 0 0 0 0 p.age).v, .int .i64 0]) (by simp [results, Try.results27, go_sem, y0, y1, y2, y3, y4, y5]) rfl ?_
  exact ⟨rfl, hB⟩
theorem Begin_any (p : Pl) (w : World) : Calls Try.prog 27 #[p.v] w (RetS p.beginT w) := by
  by_cases h : p.checkT = 0
  · exact (Begin_yes p h w).mono fun _ _ ⟨he, hb⟩ => ⟨_, _, he, by rw [Hid, Pl.beginT, if_pos h], hb⟩
  · exact (Begin_no p _ rfl (by simp [h]) (by simp [h]) w).mono fun _ _ ⟨he, hb⟩ => ⟨_, _, he, by rw [Hid, Pl.beginT, if_neg h], hb⟩
theorem rCount_no (p : Pl) (c : Int) (h : Hid (p.checkT = c)) (_h1 : (c == 0) = false) (_h2 : (c != 0) = true) (w : World) : Calls Try.prog 33 #[p.v] w fun e w' => e = .returned (.tuple #[.int .i64 0, .int .i64 c]) ∧ Below w.heap.size w w' := by
  go_enter Try.func33, Try.ntmps33
  go_wp2_with fail
  refine (rcheck_at h _).mono ?_
  rintro e w1 ⟨rfl, hb⟩
  have X0 := ((Box.newAt (n := w.heap.size) [.int .i64 p.top, .int .i64 p.bank, .int .i64 p.siphon, .int .i64 p.start, .int .i64 p.positions, .int .i64 p.rate, .int .i64 p.step, .int .i64 p.pass, .int .i64 p.feed, .int .i64 p.pipe, .int .i64 p.orders, .int .i64 p.age] 23 (by simp))).later hb
  have hB : Below w.heap.size w w1 := (((Below.refl w.heap.size w).alloc (by simp <;> omega) _)).trans (hb.mono (by simp <;> omega))
  clear hb
  go_wp2
  go_ret2
  exact ⟨rfl, hB⟩
theorem rCount_yes (p : Pl) (h : Hid (p.checkT = 0)) (hv : Hid p.Valid) (w : World) : Calls Try.prog 33 #[p.v] w fun e w' => e = .returned (.tuple #[.int .i64 p.countI, .int .i64 0]) ∧ Below w.heap.size w w' := by
  go_enter Try.func33, Try.ntmps33
  go_wp2_with fail
  refine (rcheck_at h _).mono ?_
  rintro e w1 ⟨rfl, hb⟩
  have X0 := ((Box.newAt (n := w.heap.size) [.int .i64 p.top, .int .i64 p.bank, .int .i64 p.siphon, .int .i64 p.start, .int .i64 p.positions, .int .i64 p.rate, .int .i64 p.step, .int .i64 p.pass, .int .i64 p.feed, .int .i64 p.pipe, .int .i64 p.orders, .int .i64 p.age] 23 (by simp))).later hb
  have hB : Below w.heap.size w w1 := (((Below.refl w.heap.size w).alloc (by simp <;> omega) _)).trans (hb.mono (by simp <;> omega))
  clear hb
  obtain ⟨X0c0, X0f0, X0c1, X0f1, X0c2, X0f2, X0c3, X0f3, X0c4, X0f4, X0c5, X0f5, X0c6, X0f6, X0c7, X0f7, X0c8, X0f8, X0c9, X0f9, X0c10, X0f10, X0c11, X0f11⟩ := X0.f12
  have X0z : w.heap.size < w1.heap.size := X0.lt
  go_wp2_with fail
  refine (rcount_any p hv _).mono ?_
  rintro e w2 ⟨rfl, hb⟩
  clear X0c0 X0f0 X0c1 X0f1 X0c2 X0f2 X0c3 X0f3 X0c4 X0f4 X0c5 X0f5 X0c6 X0f6 X0c7 X0f7 X0c8 X0f8 X0c9 X0f9 X0c10 X0f10 X0c11 X0f11 X0z
  have X0 := X0.later hb
  have hB := hB.trans (hb.mono hB.size)
  clear hb
  go_wp2
  go_ret2
  exact ⟨rfl, hB⟩
theorem rCount_any (p : Pl) (w : World) : Calls Try.prog 33 #[p.v] w (RetN p.countT w) := by
  by_cases h : p.checkT = 0
  · exact (rCount_yes p h (Pl.check_zero h).1 w).mono fun _ _ ⟨he, hb⟩ => ⟨_, _, he, by rw [Hid, Pl.countT, if_pos h], hb⟩
  · exact (rCount_no p _ rfl (by simp [h]) (by simp [h]) w).mono fun _ _ ⟨he, hb⟩ => ⟨_, _, he, by rw [Hid, Pl.countT, if_neg h], hb⟩
theorem rBegin_no (p : Pl) (c : Int) (h : Hid (p.checkT = c)) (_h1 : (c == 0) = false) (_h2 : (c != 0) = true) (w : World) : Calls Try.prog 45 #[p.v] w fun e w' => e = .returned (.tuple #[St.zero.v, .int .i64 c]) ∧ Below w.heap.size w w' := by
  go_enter Try.func45, Try.ntmps45
  go_wp2_with fail
  refine (rcheck_at h _).mono ?_
  rintro e w1 ⟨rfl, hb⟩
  have X0 := (((Box.newAt (n := w.heap.size) [.int .i64 p.top, .int .i64 p.bank, .int .i64 p.siphon, .int .i64 p.start, .int .i64 p.positions, .int .i64 p.rate, .int .i64 p.step, .int .i64 p.pass, .int .i64 p.feed, .int .i64 p.pipe, .int .i64 p.orders, .int .i64 p.age] 23 (by simp)).alloc _)).later hb
  have X1 := ((Box.newAt (n := w.heap.size + 1) [.int .i64 0, .int .i64 0, .int .i64 0, .int .i64 0, .int .i64 0, .int .i64 0] 30 (by simp))).later hb
  have hB : Below w.heap.size w w1 := ((((Below.refl w.heap.size w).alloc (by simp <;> omega) _).alloc (by simp <;> omega) _)).trans (hb.mono (by simp <;> omega))
  clear hb
  obtain ⟨X1c0, X1f0, X1c1, X1f1, X1c2, X1f2, X1c3, X1f3, X1c4, X1f4, X1c5, X1f5⟩ := X1.f6
  have X1z : w.heap.size + 1 < w1.heap.size := X1.lt
  have hle : w.heap.size ≤ w.heap.size + 1 := by omega
  go_wp2
  have hY := ((((((X1.set 0 (.int .i64 0)).set 1 (.int .i64 0)).set 2 (.int .i64 0)).set 3 (.int .i64 0)).set 4 (.int .i64 0)).set 5 (.int .i64 0))
  have hB := ((((((hB.setCell (p := ⟨w.heap.size + 1, 0, none⟩) (by simp) (.int .i64 0)).setCell (p := ⟨w.heap.size + 1, 1, none⟩) (by simp) (.int .i64 0)).setCell (p := ⟨w.heap.size + 1, 2, none⟩) (by simp) (.int .i64 0)).setCell (p := ⟨w.heap.size + 1, 3, none⟩) (by simp) (.int .i64 0)).setCell (p := ⟨w.heap.size + 1, 4, none⟩) (by simp) (.int .i64 0)).setCell (p := ⟨w.heap.size + 1, 5, none⟩) (by simp) (.int .i64 0))
  generalize ((((((w1.setCell ⟨w.heap.size + 1, 0, none⟩ (.int .i64 0)).setCell ⟨w.heap.size + 1, 1, none⟩ (.int .i64 0)).setCell ⟨w.heap.size + 1, 2, none⟩ (.int .i64 0)).setCell ⟨w.heap.size + 1, 3, none⟩ (.int .i64 0)).setCell ⟨w.heap.size + 1, 4, none⟩ (.int .i64 0)).setCell ⟨w.heap.size + 1, 5, none⟩ (.int .i64 0)) = W at hY hB ⊢
  obtain ⟨y0, y1, y2, y3, y4, y5⟩ := hY.c6
  refine bodyPost_ret (v := .tuple #[St.zero.v, .int .i64 c]) (by simp [results, Try.results45, go_sem, y0, y1, y2, y3, y4, y5, St.zero]) rfl ?_
  exact ⟨rfl, hB⟩
theorem rBegin_yes (p : Pl) (h : Hid (p.checkT = 0)) (w : World) : Calls Try.prog 45 #[p.v] w fun e w' => e = .returned (.tuple #[(St.mk p.start 0 0 0 0 p.age).v, .int .i64 0]) ∧ Below w.heap.size w w' := by
  go_enter Try.func45, Try.ntmps45
  go_wp2_with fail
  refine (rcheck_at h _).mono ?_
  rintro e w1 ⟨rfl, hb⟩
  have X0 := (((Box.newAt (n := w.heap.size) [.int .i64 p.top, .int .i64 p.bank, .int .i64 p.siphon, .int .i64 p.start, .int .i64 p.positions, .int .i64 p.rate, .int .i64 p.step, .int .i64 p.pass, .int .i64 p.feed, .int .i64 p.pipe, .int .i64 p.orders, .int .i64 p.age] 23 (by simp)).alloc _)).later hb
  have X1 := ((Box.newAt (n := w.heap.size + 1) [.int .i64 0, .int .i64 0, .int .i64 0, .int .i64 0, .int .i64 0, .int .i64 0] 30 (by simp))).later hb
  have hB : Below w.heap.size w w1 := ((((Below.refl w.heap.size w).alloc (by simp <;> omega) _).alloc (by simp <;> omega) _)).trans (hb.mono (by simp <;> omega))
  clear hb
  obtain ⟨X0c0, X0f0, X0c1, X0f1, X0c2, X0f2, X0c3, X0f3, X0c4, X0f4, X0c5, X0f5, X0c6, X0f6, X0c7, X0f7, X0c8, X0f8, X0c9, X0f9, X0c10, X0f10, X0c11, X0f11⟩ := X0.f12
  have X0z : w.heap.size < w1.heap.size := X0.lt
  obtain ⟨X1c0, X1f0, X1c1, X1f1, X1c2, X1f2, X1c3, X1f3, X1c4, X1f4, X1c5, X1f5⟩ := X1.f6
  have X1z : w.heap.size + 1 < w1.heap.size := X1.lt
  go_wp2
  have hY := ((((((X1.set 0 (.int .i64 p.start)).set 1 (.int .i64 0)).set 2 (.int .i64 0)).set 3 (.int .i64 0)).set 4 (.int .i64 0)).set 5 (.int .i64 p.age))
  have hB := ((((((hB.setCell (p := ⟨w.heap.size + 1, 0, none⟩) (by simp) (.int .i64 p.start)).setCell (p := ⟨w.heap.size + 1, 1, none⟩) (by simp) (.int .i64 0)).setCell (p := ⟨w.heap.size + 1, 2, none⟩) (by simp) (.int .i64 0)).setCell (p := ⟨w.heap.size + 1, 3, none⟩) (by simp) (.int .i64 0)).setCell (p := ⟨w.heap.size + 1, 4, none⟩) (by simp) (.int .i64 0)).setCell (p := ⟨w.heap.size + 1, 5, none⟩) (by simp) (.int .i64 p.age))
  generalize ((((((w1.setCell ⟨w.heap.size + 1, 0, none⟩ (.int .i64 p.start)).setCell ⟨w.heap.size + 1, 1, none⟩ (.int .i64 0)).setCell ⟨w.heap.size + 1, 2, none⟩ (.int .i64 0)).setCell ⟨w.heap.size + 1, 3, none⟩ (.int .i64 0)).setCell ⟨w.heap.size + 1, 4, none⟩ (.int .i64 0)).setCell ⟨w.heap.size + 1, 5, none⟩ (.int .i64 p.age)) = W at hY hB ⊢
  obtain ⟨y0, y1, y2, y3, y4, y5⟩ := hY.c6
  refine bodyPost_ret (v := .tuple #[(St.mk p.start 0 0 0 0 p.age).v, .int .i64 0]) (by simp [results, Try.results45, go_sem, y0, y1, y2, y3, y4, y5]) rfl ?_
  exact ⟨rfl, hB⟩
theorem rBegin_any (p : Pl) (w : World) : Calls Try.prog 45 #[p.v] w (RetS p.beginT w) := by
  by_cases h : p.checkT = 0
  · exact (rBegin_yes p h w).mono fun _ _ ⟨he, hb⟩ => ⟨_, _, he, by rw [Hid, Pl.beginT, if_pos h], hb⟩
  · exact (rBegin_no p _ rfl (by simp [h]) (by simp [h]) w).mono fun _ _ ⟨he, hb⟩ => ⟨_, _, he, by rw [Hid, Pl.beginT, if_neg h], hb⟩
end Go.Proofs.Ytancngachnpefaa
