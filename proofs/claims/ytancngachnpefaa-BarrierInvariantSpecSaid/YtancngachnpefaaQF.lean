/- Contracts of Belongs, Good, Chosen and Safe. (Printed by gen_f.py.) -/
import Derived.Test.YtancngachnpefaaQK
import Derived.Test.YtancngachnpefaaQB
set_option linter.unusedVariables false
set_option linter.unusedSimpArgs false
set_option maxRecDepth 100000
set_option maxHeartbeats 2000000
namespace Go.Proofs.Ytancngachnpefaa
open Go.RowKit
theorem Belongs_0 (p : Pl) (s : St) (w : World) (hp : p.pipe = 0) : Calls Try.prog 76 #[p.v, s.v] w fun e w' => e = .returned (.bool (pairsB (pairs p s 0 0))) ∧ Below w.heap.size w w' := by
  rcases h0 : inI s.p0 0 0 with _ | _
  · go_enter Try.func76, Try.ntmps76
    go_wp2_with fail
    refine wp_loop_rounds 1 ?_
    rw [rounds_succ]
    go_wp2_with (go_at_call 73; refine (within_any _ _ _ _).mono ?_; rintro e w' ⟨rfl, rfl⟩)
    go_ret
    exact ⟨by simp [pairsB, pairs, h0], by repeat (first | exact Below.refl _ _ | refine Below.alloc ?_ (by simp <;> omega) _)⟩
  rcases h1 : inI s.p1 0 0 with _ | _
  · go_enter Try.func76, Try.ntmps76
    go_wp2_with fail
    refine wp_loop_rounds 2 ?_
    rw [rounds_succ]
    go_wp2_with (go_at_call 73; refine (within_any _ _ _ _).mono ?_; rintro e w' ⟨rfl, rfl⟩)
    rw [rounds_succ]
    go_wp2_with (go_at_call 73; refine (within_any _ _ _ _).mono ?_; rintro e w' ⟨rfl, rfl⟩)
    go_ret
    exact ⟨by simp [pairsB, pairs, h1], by repeat (first | exact Below.refl _ _ | refine Below.alloc ?_ (by simp <;> omega) _)⟩
  · go_enter Try.func76, Try.ntmps76
    go_wp2_with fail
    refine wp_loop_rounds 3 ?_
    rw [rounds_succ]
    go_wp2_with (go_at_call 73; refine (within_any _ _ _ _).mono ?_; rintro e w' ⟨rfl, rfl⟩)
    rw [rounds_succ]
    go_wp2_with (go_at_call 73; refine (within_any _ _ _ _).mono ?_; rintro e w' ⟨rfl, rfl⟩)
    rw [rounds_succ]
    go_wp2_with (go_at_call 73; refine (within_any _ _ _ _).mono ?_; rintro e w' ⟨rfl, rfl⟩)
    all_goals
      go_ret
      refine ⟨?_, by repeat (first | exact Below.refl _ _ | refine Below.alloc ?_ (by simp <;> omega) _)⟩
      simp_all [pairsB, pairs]
theorem Belongs_1 (p : Pl) (s : St) (w : World) (hp : p.pipe = 1) : Calls Try.prog 76 #[p.v, s.v] w fun e w' => e = .returned (.bool (pairsB (pairs p s p.feed 0))) ∧ Below w.heap.size w w' := by
  rcases h0 : inI s.p0 0 p.feed with _ | _
  · go_enter Try.func76, Try.ntmps76
    go_wp2_with fail
    refine wp_loop_rounds 1 ?_
    rw [rounds_succ]
    go_wp2_with (go_at_call 73; refine (within_any _ _ _ _).mono ?_; rintro e w' ⟨rfl, rfl⟩)
    go_ret
    exact ⟨by simp [pairsB, pairs, h0], by repeat (first | exact Below.refl _ _ | refine Below.alloc ?_ (by simp <;> omega) _)⟩
  rcases h1 : inI s.p1 0 0 with _ | _
  · go_enter Try.func76, Try.ntmps76
    go_wp2_with fail
    refine wp_loop_rounds 2 ?_
    rw [rounds_succ]
    go_wp2_with (go_at_call 73; refine (within_any _ _ _ _).mono ?_; rintro e w' ⟨rfl, rfl⟩)
    rw [rounds_succ]
    go_wp2_with (go_at_call 73; refine (within_any _ _ _ _).mono ?_; rintro e w' ⟨rfl, rfl⟩)
    go_ret
    exact ⟨by simp [pairsB, pairs, h1], by repeat (first | exact Below.refl _ _ | refine Below.alloc ?_ (by simp <;> omega) _)⟩
  · go_enter Try.func76, Try.ntmps76
    go_wp2_with fail
    refine wp_loop_rounds 3 ?_
    rw [rounds_succ]
    go_wp2_with (go_at_call 73; refine (within_any _ _ _ _).mono ?_; rintro e w' ⟨rfl, rfl⟩)
    rw [rounds_succ]
    go_wp2_with (go_at_call 73; refine (within_any _ _ _ _).mono ?_; rintro e w' ⟨rfl, rfl⟩)
    rw [rounds_succ]
    go_wp2_with (go_at_call 73; refine (within_any _ _ _ _).mono ?_; rintro e w' ⟨rfl, rfl⟩)
    all_goals
      go_ret
      refine ⟨?_, by repeat (first | exact Below.refl _ _ | refine Below.alloc ?_ (by simp <;> omega) _)⟩
      simp_all [pairsB, pairs]
theorem Belongs_2 (p : Pl) (s : St) (w : World) (hp : p.pipe = 2) : Calls Try.prog 76 #[p.v, s.v] w fun e w' => e = .returned (.bool (pairsB (pairs p s p.feed p.feed))) ∧ Below w.heap.size w w' := by
  rcases h0 : inI s.p0 0 p.feed with _ | _
  · go_enter Try.func76, Try.ntmps76
    go_wp2_with fail
    refine wp_loop_rounds 1 ?_
    rw [rounds_succ]
    go_wp2_with (go_at_call 73; refine (within_any _ _ _ _).mono ?_; rintro e w' ⟨rfl, rfl⟩)
    go_ret
    exact ⟨by simp [pairsB, pairs, h0], by repeat (first | exact Below.refl _ _ | refine Below.alloc ?_ (by simp <;> omega) _)⟩
  rcases h1 : inI s.p1 0 p.feed with _ | _
  · go_enter Try.func76, Try.ntmps76
    go_wp2_with fail
    refine wp_loop_rounds 2 ?_
    rw [rounds_succ]
    go_wp2_with (go_at_call 73; refine (within_any _ _ _ _).mono ?_; rintro e w' ⟨rfl, rfl⟩)
    rw [rounds_succ]
    go_wp2_with (go_at_call 73; refine (within_any _ _ _ _).mono ?_; rintro e w' ⟨rfl, rfl⟩)
    go_ret
    exact ⟨by simp [pairsB, pairs, h1], by repeat (first | exact Below.refl _ _ | refine Below.alloc ?_ (by simp <;> omega) _)⟩
  · go_enter Try.func76, Try.ntmps76
    go_wp2_with fail
    refine wp_loop_rounds 3 ?_
    rw [rounds_succ]
    go_wp2_with (go_at_call 73; refine (within_any _ _ _ _).mono ?_; rintro e w' ⟨rfl, rfl⟩)
    rw [rounds_succ]
    go_wp2_with (go_at_call 73; refine (within_any _ _ _ _).mono ?_; rintro e w' ⟨rfl, rfl⟩)
    rw [rounds_succ]
    go_wp2_with (go_at_call 73; refine (within_any _ _ _ _).mono ?_; rintro e w' ⟨rfl, rfl⟩)
    all_goals
      go_ret
      refine ⟨?_, by repeat (first | exact Below.refl _ _ | refine Below.alloc ?_ (by simp <;> omega) _)⟩
      simp_all [pairsB, pairs]
theorem Belongs_any (p : Pl) (s : St) (w : World) (hv : 0 ≤ p.pipe ∧ p.pipe ≤ 2) : Calls Try.prog 76 #[p.v, s.v] w fun e w' => e = .returned (.bool (p.hasB s)) ∧ Below w.heap.size w w' := by
  rw [Pl.hasB_pairs]
  rcases (show p.pipe = 0 ∨ p.pipe = 1 ∨ p.pipe = 2 by omega) with h | h | h
  · rw [if_neg (by omega), if_neg (by omega)]; exact Belongs_0 p s w h
  · rw [if_pos (by omega), if_neg (by omega)]; exact Belongs_1 p s w h
  · rw [if_pos (by omega), if_pos (by omega)]; exact Belongs_2 p s w h
theorem Pl.hasB_bd {p : Pl} {s : St} (h : p.hasB s = true) : (0 ≤ s.level ∧ s.level ≤ p.top) ∧ (0 ≤ s.position ∧ s.position ≤ p.positions) ∧ (0 ≤ s.p0 ∧ s.p0 ≤ if 0 < p.pipe then p.feed else 0) ∧ (0 ≤ s.p1 ∧ s.p1 ≤ if 1 < p.pipe then p.feed else 0) ∧ (0 ≤ s.order ∧ s.order ≤ p.orders) ∧ 0 ≤ s.age ∧ s.age ≤ p.age := by
  simp only [Pl.hasB, Bool.and_eq_true] at h
  obtain ⟨h1, h2, h3, h4, h5, h6⟩ := h
  exact ⟨inI_yes h1, inI_yes h2, inI_yes h3, inI_yes h4, inI_yes h5, inI_yes h6⟩
theorem rate_wrap {p : Pl} {s : St} (hv : p.Valid) (h : p.hasB s = true) : IntKind.i64.wrap (p.rate * s.position) = p.rate * s.position := by
  obtain ⟨_, h2, _⟩ := Pl.hasB_bd h
  have h3 := hv.rate
  have h4 := hv.positions
  have := mul_le4 (a := p.rate) (b := s.position) (A := 15) (B := 15) (by omega) (by omega)
  exact wrap_id (by omega) (by omega)
theorem Chosen_any (p : Pl) (x : Sh) (w : World) : Calls Try.prog 78 #[p.v, x.v] w fun e w' => e = .returned (.bool (chosenB p x)) ∧ Below w.heap.size w w' := by
  go_enter Try.func78, Try.ntmps78
  go_wp2_with (go_at_call 73; refine (within_any _ _ _ _).mono ?_; rintro e w' ⟨rfl, rfl⟩)
  all_goals
    go_ret
    refine ⟨?_, by repeat (first | exact Below.refl _ _ | refine Below.alloc ?_ (by simp <;> omega) _)⟩
    simp_all [chosenB]
theorem Good_any (p : Pl) (s : St) (hv : Hid p.Valid) (h : Hid (p.hasB s = true)) (w : World) : Calls Try.prog 77 #[p.v, s.v] w fun e w' => e = .returned (.bool (p.goodB s)) ∧ Below w.heap.size w w' := by
  have m := rate_wrap hv.out h.out
  rcases h1 : inI s.level p.siphon p.bank with _ | _
  · have hg : p.goodB s = false := decide_eq_false fun hk => inI_no h1 ⟨hk.1, hk.2.1⟩
    go_enter Try.func77, Try.ntmps77
    go_wp2_with (go_at_call 73; refine (within_any _ _ _ _).mono ?_; rintro e w' ⟨rfl, rfl⟩)
    go_ret
    exact ⟨by rw [hg]; rfl, by repeat (first | exact Below.refl _ _ | refine Below.alloc ?_ (by simp <;> omega) _)⟩
  · have hg : p.goodB s = decide (p.rate * s.position ≤ p.pass) := by
      rw [Pl.goodB, decide_eq_decide]
      have := inI_yes h1
      omega
    have Hg := Lib.hid hg
    clear hg
    go_enter Try.func77, Try.ntmps77
    go_wp2_with (go_at_call 73; refine (within_any _ _ _ _).mono ?_; rintro e w' ⟨rfl, rfl⟩)
    go_ret
    exact ⟨by rw [Hg.out]; rfl, by repeat (first | exact Below.refl _ _ | refine Below.alloc ?_ (by simp <;> omega) _)⟩
theorem Safe_no (p : Pl) (s : St) (c : Int) (h : Hid (p.checkT = c)) (_h1 : (c == 0) = false) (_h2 : (c != 0) = true) (w : World) : Calls Try.prog 24 #[p.v, s.v] w fun e w' => e = .returned (.tuple #[.bool false, .int .i64 c]) ∧ Below w.heap.size w w' := by
  go_enter Try.func24, Try.ntmps24
  go_wp2_with fail
  refine (check_at h _).mono ?_
  rintro e w1 ⟨rfl, hb⟩
  have X0 := (((Box.newAt (n := w.heap.size) [.int .i64 p.top, .int .i64 p.bank, .int .i64 p.siphon, .int .i64 p.start, .int .i64 p.positions, .int .i64 p.rate, .int .i64 p.step, .int .i64 p.pass, .int .i64 p.feed, .int .i64 p.pipe, .int .i64 p.orders, .int .i64 p.age] 23 (by simp)).alloc _)).later hb
  have X1 := ((Box.newAt (n := w.heap.size + 1) [.int .i64 s.level, .int .i64 s.position, .int .i64 s.p0, .int .i64 s.p1, .int .i64 s.order, .int .i64 s.age] 30 (by simp))).later hb
  have hB : Below w.heap.size w w1 := ((((Below.refl w.heap.size w).alloc (by simp <;> omega) _).alloc (by simp <;> omega) _)).trans (hb.mono (by simp <;> omega))
  clear hb
  go_wp2
  go_ret2
  exact ⟨rfl, hB⟩
theorem Safe_out (p : Pl) (s : St) (h : Hid (p.checkT = 0)) (hp : Hid (0 ≤ p.pipe ∧ p.pipe ≤ 2)) (hh : Hid (p.hasB s = false)) (w : World) : Calls Try.prog 24 #[p.v, s.v] w fun e w' => e = .returned (.tuple #[.bool false, .int .i64 320]) ∧ Below w.heap.size w w' := by
  go_enter Try.func24, Try.ntmps24
  go_wp2_with fail
  refine (check_at h _).mono ?_
  rintro e w1 ⟨rfl, hb⟩
  have X0 := (((Box.newAt (n := w.heap.size) [.int .i64 p.top, .int .i64 p.bank, .int .i64 p.siphon, .int .i64 p.start, .int .i64 p.positions, .int .i64 p.rate, .int .i64 p.step, .int .i64 p.pass, .int .i64 p.feed, .int .i64 p.pipe, .int .i64 p.orders, .int .i64 p.age] 23 (by simp)).alloc _)).later hb
  have X1 := ((Box.newAt (n := w.heap.size + 1) [.int .i64 s.level, .int .i64 s.position, .int .i64 s.p0, .int .i64 s.p1, .int .i64 s.order, .int .i64 s.age] 30 (by simp))).later hb
  have hB : Below w.heap.size w w1 := ((((Below.refl w.heap.size w).alloc (by simp <;> omega) _).alloc (by simp <;> omega) _)).trans (hb.mono (by simp <;> omega))
  clear hb
  obtain ⟨X0c0, X0f0, X0c1, X0f1, X0c2, X0f2, X0c3, X0f3, X0c4, X0f4, X0c5, X0f5, X0c6, X0f6, X0c7, X0f7, X0c8, X0f8, X0c9, X0f9, X0c10, X0f10, X0c11, X0f11⟩ := X0.f12
  have X0z : w.heap.size < w1.heap.size := X0.lt
  obtain ⟨X1c0, X1f0, X1c1, X1f1, X1c2, X1f2, X1c3, X1f3, X1c4, X1f4, X1c5, X1f5⟩ := X1.f6
  have X1z : w.heap.size + 1 < w1.heap.size := X1.lt
  go_wp2_with fail
  refine (((belongs_any p s _ hp.out).mono fun _ _ ⟨he, hb⟩ => ⟨by rw [he, hh.out], hb⟩ : Calls Try.prog 54 #[p.v, s.v] _ fun e w' => e = .returned (.bool false) ∧ Below _ _ w')).mono ?_
  rintro e w2 ⟨rfl, hb⟩
  clear X0c0 X0f0 X0c1 X0f1 X0c2 X0f2 X0c3 X0f3 X0c4 X0f4 X0c5 X0f5 X0c6 X0f6 X0c7 X0f7 X0c8 X0f8 X0c9 X0f9 X0c10 X0f10 X0c11 X0f11 X0z X1c0 X1f0 X1c1 X1f1 X1c2 X1f2 X1c3 X1f3 X1c4 X1f4 X1c5 X1f5 X1z
  have X0 := X0.later hb
  have X1 := X1.later hb
  have hB := hB.trans (hb.mono hB.size)
  clear hb
  go_wp2
  go_ret2
  exact ⟨rfl, hB⟩
theorem Safe_in0 (p : Pl) (s : St) (h : Hid (p.checkT = 0)) (hv : Hid p.Valid) (hh : Hid (p.hasB s = true)) (_k1 : s.level < p.siphon) (w : World) : Calls Try.prog 24 #[p.v, s.v] w fun e w' => e = .returned (.tuple #[.bool false, .int .i64 0]) ∧ Below w.heap.size w w' := by
  go_enter Try.func24, Try.ntmps24
  go_wp2_with fail
  refine (check_at h _).mono ?_
  rintro e w1 ⟨rfl, hb⟩
  have X0 := (((Box.newAt (n := w.heap.size) [.int .i64 p.top, .int .i64 p.bank, .int .i64 p.siphon, .int .i64 p.start, .int .i64 p.positions, .int .i64 p.rate, .int .i64 p.step, .int .i64 p.pass, .int .i64 p.feed, .int .i64 p.pipe, .int .i64 p.orders, .int .i64 p.age] 23 (by simp)).alloc _)).later hb
  have X1 := ((Box.newAt (n := w.heap.size + 1) [.int .i64 s.level, .int .i64 s.position, .int .i64 s.p0, .int .i64 s.p1, .int .i64 s.order, .int .i64 s.age] 30 (by simp))).later hb
  have hB : Below w.heap.size w w1 := ((((Below.refl w.heap.size w).alloc (by simp <;> omega) _).alloc (by simp <;> omega) _)).trans (hb.mono (by simp <;> omega))
  clear hb
  obtain ⟨X0c0, X0f0, X0c1, X0f1, X0c2, X0f2, X0c3, X0f3, X0c4, X0f4, X0c5, X0f5, X0c6, X0f6, X0c7, X0f7, X0c8, X0f8, X0c9, X0f9, X0c10, X0f10, X0c11, X0f11⟩ := X0.f12
  have X0z : w.heap.size < w1.heap.size := X0.lt
  obtain ⟨X1c0, X1f0, X1c1, X1f1, X1c2, X1f2, X1c3, X1f3, X1c4, X1f4, X1c5, X1f5⟩ := X1.f6
  have X1z : w.heap.size + 1 < w1.heap.size := X1.lt
  go_wp2_with fail
  refine (((belongs_any p s _ hv.out.pipe).mono fun _ _ ⟨he, hb⟩ => ⟨by rw [he, hh.out], hb⟩ : Calls Try.prog 54 #[p.v, s.v] _ fun e w' => e = .returned (.bool true) ∧ Below _ _ w')).mono ?_
  rintro e w2 ⟨rfl, hb⟩
  clear X0c0 X0f0 X0c1 X0f1 X0c2 X0f2 X0c3 X0f3 X0c4 X0f4 X0c5 X0f5 X0c6 X0f6 X0c7 X0f7 X0c8 X0f8 X0c9 X0f9 X0c10 X0f10 X0c11 X0f11 X0z X1c0 X1f0 X1c1 X1f1 X1c2 X1f2 X1c3 X1f3 X1c4 X1f4 X1c5 X1f5 X1z
  have X0 := X0.later hb
  have X1 := X1.later hb
  have hB := hB.trans (hb.mono hB.size)
  clear hb
  obtain ⟨X0c0, X0f0, X0c1, X0f1, X0c2, X0f2, X0c3, X0f3, X0c4, X0f4, X0c5, X0f5, X0c6, X0f6, X0c7, X0f7, X0c8, X0f8, X0c9, X0f9, X0c10, X0f10, X0c11, X0f11⟩ := X0.f12
  have X0z : w.heap.size < w2.heap.size := X0.lt
  obtain ⟨X1c0, X1f0, X1c1, X1f1, X1c2, X1f2, X1c3, X1f3, X1c4, X1f4, X1c5, X1f5⟩ := X1.f6
  have X1z : w.heap.size + 1 < w2.heap.size := X1.lt
  have m := rate_wrap hv.out hh.out
  go_wp2
  go_ret2
  exact ⟨rfl, hB⟩
theorem Safe_in1 (p : Pl) (s : St) (h : Hid (p.checkT = 0)) (hv : Hid p.Valid) (hh : Hid (p.hasB s = true)) (_k1 : p.siphon ≤ s.level) (_k2 : p.bank < s.level) (w : World) : Calls Try.prog 24 #[p.v, s.v] w fun e w' => e = .returned (.tuple #[.bool false, .int .i64 0]) ∧ Below w.heap.size w w' := by
  go_enter Try.func24, Try.ntmps24
  go_wp2_with fail
  refine (check_at h _).mono ?_
  rintro e w1 ⟨rfl, hb⟩
  have X0 := (((Box.newAt (n := w.heap.size) [.int .i64 p.top, .int .i64 p.bank, .int .i64 p.siphon, .int .i64 p.start, .int .i64 p.positions, .int .i64 p.rate, .int .i64 p.step, .int .i64 p.pass, .int .i64 p.feed, .int .i64 p.pipe, .int .i64 p.orders, .int .i64 p.age] 23 (by simp)).alloc _)).later hb
  have X1 := ((Box.newAt (n := w.heap.size + 1) [.int .i64 s.level, .int .i64 s.position, .int .i64 s.p0, .int .i64 s.p1, .int .i64 s.order, .int .i64 s.age] 30 (by simp))).later hb
  have hB : Below w.heap.size w w1 := ((((Below.refl w.heap.size w).alloc (by simp <;> omega) _).alloc (by simp <;> omega) _)).trans (hb.mono (by simp <;> omega))
  clear hb
  obtain ⟨X0c0, X0f0, X0c1, X0f1, X0c2, X0f2, X0c3, X0f3, X0c4, X0f4, X0c5, X0f5, X0c6, X0f6, X0c7, X0f7, X0c8, X0f8, X0c9, X0f9, X0c10, X0f10, X0c11, X0f11⟩ := X0.f12
  have X0z : w.heap.size < w1.heap.size := X0.lt
  obtain ⟨X1c0, X1f0, X1c1, X1f1, X1c2, X1f2, X1c3, X1f3, X1c4, X1f4, X1c5, X1f5⟩ := X1.f6
  have X1z : w.heap.size + 1 < w1.heap.size := X1.lt
  go_wp2_with fail
  refine (((belongs_any p s _ hv.out.pipe).mono fun _ _ ⟨he, hb⟩ => ⟨by rw [he, hh.out], hb⟩ : Calls Try.prog 54 #[p.v, s.v] _ fun e w' => e = .returned (.bool true) ∧ Below _ _ w')).mono ?_
  rintro e w2 ⟨rfl, hb⟩
  clear X0c0 X0f0 X0c1 X0f1 X0c2 X0f2 X0c3 X0f3 X0c4 X0f4 X0c5 X0f5 X0c6 X0f6 X0c7 X0f7 X0c8 X0f8 X0c9 X0f9 X0c10 X0f10 X0c11 X0f11 X0z X1c0 X1f0 X1c1 X1f1 X1c2 X1f2 X1c3 X1f3 X1c4 X1f4 X1c5 X1f5 X1z
  have X0 := X0.later hb
  have X1 := X1.later hb
  have hB := hB.trans (hb.mono hB.size)
  clear hb
  obtain ⟨X0c0, X0f0, X0c1, X0f1, X0c2, X0f2, X0c3, X0f3, X0c4, X0f4, X0c5, X0f5, X0c6, X0f6, X0c7, X0f7, X0c8, X0f8, X0c9, X0f9, X0c10, X0f10, X0c11, X0f11⟩ := X0.f12
  have X0z : w.heap.size < w2.heap.size := X0.lt
  obtain ⟨X1c0, X1f0, X1c1, X1f1, X1c2, X1f2, X1c3, X1f3, X1c4, X1f4, X1c5, X1f5⟩ := X1.f6
  have X1z : w.heap.size + 1 < w2.heap.size := X1.lt
  have m := rate_wrap hv.out hh.out
  go_wp2
  go_ret2
  exact ⟨rfl, hB⟩
theorem Safe_in2 (p : Pl) (s : St) (h : Hid (p.checkT = 0)) (hv : Hid p.Valid) (hh : Hid (p.hasB s = true)) (_k1 : p.siphon ≤ s.level) (_k2 : s.level ≤ p.bank) (w : World) : Calls Try.prog 24 #[p.v, s.v] w fun e w' => e = .returned (.tuple #[.bool (decide (p.rate * s.position ≤ p.pass)), .int .i64 0]) ∧ Below w.heap.size w w' := by
  go_enter Try.func24, Try.ntmps24
  go_wp2_with fail
  refine (check_at h _).mono ?_
  rintro e w1 ⟨rfl, hb⟩
  have X0 := (((Box.newAt (n := w.heap.size) [.int .i64 p.top, .int .i64 p.bank, .int .i64 p.siphon, .int .i64 p.start, .int .i64 p.positions, .int .i64 p.rate, .int .i64 p.step, .int .i64 p.pass, .int .i64 p.feed, .int .i64 p.pipe, .int .i64 p.orders, .int .i64 p.age] 23 (by simp)).alloc _)).later hb
  have X1 := ((Box.newAt (n := w.heap.size + 1) [.int .i64 s.level, .int .i64 s.position, .int .i64 s.p0, .int .i64 s.p1, .int .i64 s.order, .int .i64 s.age] 30 (by simp))).later hb
  have hB : Below w.heap.size w w1 := ((((Below.refl w.heap.size w).alloc (by simp <;> omega) _).alloc (by simp <;> omega) _)).trans (hb.mono (by simp <;> omega))
  clear hb
  obtain ⟨X0c0, X0f0, X0c1, X0f1, X0c2, X0f2, X0c3, X0f3, X0c4, X0f4, X0c5, X0f5, X0c6, X0f6, X0c7, X0f7, X0c8, X0f8, X0c9, X0f9, X0c10, X0f10, X0c11, X0f11⟩ := X0.f12
  have X0z : w.heap.size < w1.heap.size := X0.lt
  obtain ⟨X1c0, X1f0, X1c1, X1f1, X1c2, X1f2, X1c3, X1f3, X1c4, X1f4, X1c5, X1f5⟩ := X1.f6
  have X1z : w.heap.size + 1 < w1.heap.size := X1.lt
  go_wp2_with fail
  refine (((belongs_any p s _ hv.out.pipe).mono fun _ _ ⟨he, hb⟩ => ⟨by rw [he, hh.out], hb⟩ : Calls Try.prog 54 #[p.v, s.v] _ fun e w' => e = .returned (.bool true) ∧ Below _ _ w')).mono ?_
  rintro e w2 ⟨rfl, hb⟩
  clear X0c0 X0f0 X0c1 X0f1 X0c2 X0f2 X0c3 X0f3 X0c4 X0f4 X0c5 X0f5 X0c6 X0f6 X0c7 X0f7 X0c8 X0f8 X0c9 X0f9 X0c10 X0f10 X0c11 X0f11 X0z X1c0 X1f0 X1c1 X1f1 X1c2 X1f2 X1c3 X1f3 X1c4 X1f4 X1c5 X1f5 X1z
  have X0 := X0.later hb
  have X1 := X1.later hb
  have hB := hB.trans (hb.mono hB.size)
  clear hb
  obtain ⟨X0c0, X0f0, X0c1, X0f1, X0c2, X0f2, X0c3, X0f3, X0c4, X0f4, X0c5, X0f5, X0c6, X0f6, X0c7, X0f7, X0c8, X0f8, X0c9, X0f9, X0c10, X0f10, X0c11, X0f11⟩ := X0.f12
  have X0z : w.heap.size < w2.heap.size := X0.lt
  obtain ⟨X1c0, X1f0, X1c1, X1f1, X1c2, X1f2, X1c3, X1f3, X1c4, X1f4, X1c5, X1f5⟩ := X1.f6
  have X1z : w.heap.size + 1 < w2.heap.size := X1.lt
  have m := rate_wrap hv.out hh.out
  go_wp2
  go_ret2
  exact ⟨rfl, hB⟩
theorem Safe_any (p : Pl) (s : St) (w : World) : Calls Try.prog 24 #[p.v, s.v] w (RetO (p.safeT s) w) := by
  by_cases h : p.checkT = 0
  · have hv := (Pl.check_zero h).1
    rcases hh : p.hasB s with _ | _
    · exact (Safe_out p s h hv.pipe hh w).mono fun _ _ ⟨he, hb⟩ => ⟨_, _, he, by rw [Hid, Pl.safeT, if_pos h, if_neg (by rw [hh]; decide)], hb⟩
    · by_cases h1 : p.siphon ≤ s.level
      · by_cases h2 : s.level ≤ p.bank
        · exact (Safe_in2 p s h hv hh h1 h2 w).mono fun _ _ ⟨he, hb⟩ => ⟨_, _, he, by
            rw [Hid, Pl.safeT, if_pos h, if_pos hh, Pl.goodB, Prod.mk.injEq, decide_eq_decide]
            exact ⟨by omega, rfl⟩, hb⟩
        · exact (Safe_in1 p s h hv hh h1 (by omega) w).mono fun _ _ ⟨he, hb⟩ => ⟨_, _, he, by
            rw [Hid, Pl.safeT, if_pos h, if_pos hh, Pl.goodB, decide_eq_false (by omega)], hb⟩
      · exact (Safe_in0 p s h hv hh (by omega) w).mono fun _ _ ⟨he, hb⟩ => ⟨_, _, he, by
          rw [Hid, Pl.safeT, if_pos h, if_pos hh, Pl.goodB, decide_eq_false (by omega)], hb⟩
  · exact (Safe_no p s _ rfl (by simp [h]) (by simp [h]) w).mono fun _ _ ⟨he, hb⟩ => ⟨_, _, he, by rw [Hid, Pl.safeT, if_neg h], hb⟩
theorem rSafe_no (p : Pl) (s : St) (c : Int) (h : Hid (p.checkT = c)) (_h1 : (c == 0) = false) (_h2 : (c != 0) = true) (w : World) : Calls Try.prog 69 #[p.v, s.v] w fun e w' => e = .returned (.tuple #[.bool false, .int .i64 c]) ∧ Below w.heap.size w w' := by
  go_enter Try.func69, Try.ntmps69
  go_wp2_with fail
  refine (rcheck_at h _).mono ?_
  rintro e w1 ⟨rfl, hb⟩
  have X0 := (((Box.newAt (n := w.heap.size) [.int .i64 p.top, .int .i64 p.bank, .int .i64 p.siphon, .int .i64 p.start, .int .i64 p.positions, .int .i64 p.rate, .int .i64 p.step, .int .i64 p.pass, .int .i64 p.feed, .int .i64 p.pipe, .int .i64 p.orders, .int .i64 p.age] 23 (by simp)).alloc _)).later hb
  have X1 := ((Box.newAt (n := w.heap.size + 1) [.int .i64 s.level, .int .i64 s.position, .int .i64 s.p0, .int .i64 s.p1, .int .i64 s.order, .int .i64 s.age] 30 (by simp))).later hb
  have hB : Below w.heap.size w w1 := ((((Below.refl w.heap.size w).alloc (by simp <;> omega) _).alloc (by simp <;> omega) _)).trans (hb.mono (by simp <;> omega))
  clear hb
  go_wp2
  go_ret2
  exact ⟨rfl, hB⟩
theorem rSafe_out (p : Pl) (s : St) (h : Hid (p.checkT = 0)) (hp : Hid (0 ≤ p.pipe ∧ p.pipe ≤ 2)) (hh : Hid (p.hasB s = false)) (w : World) : Calls Try.prog 69 #[p.v, s.v] w fun e w' => e = .returned (.tuple #[.bool false, .int .i64 320]) ∧ Below w.heap.size w w' := by
  go_enter Try.func69, Try.ntmps69
  go_wp2_with fail
  refine (rcheck_at h _).mono ?_
  rintro e w1 ⟨rfl, hb⟩
  have X0 := (((Box.newAt (n := w.heap.size) [.int .i64 p.top, .int .i64 p.bank, .int .i64 p.siphon, .int .i64 p.start, .int .i64 p.positions, .int .i64 p.rate, .int .i64 p.step, .int .i64 p.pass, .int .i64 p.feed, .int .i64 p.pipe, .int .i64 p.orders, .int .i64 p.age] 23 (by simp)).alloc _)).later hb
  have X1 := ((Box.newAt (n := w.heap.size + 1) [.int .i64 s.level, .int .i64 s.position, .int .i64 s.p0, .int .i64 s.p1, .int .i64 s.order, .int .i64 s.age] 30 (by simp))).later hb
  have hB : Below w.heap.size w w1 := ((((Below.refl w.heap.size w).alloc (by simp <;> omega) _).alloc (by simp <;> omega) _)).trans (hb.mono (by simp <;> omega))
  clear hb
  obtain ⟨X0c0, X0f0, X0c1, X0f1, X0c2, X0f2, X0c3, X0f3, X0c4, X0f4, X0c5, X0f5, X0c6, X0f6, X0c7, X0f7, X0c8, X0f8, X0c9, X0f9, X0c10, X0f10, X0c11, X0f11⟩ := X0.f12
  have X0z : w.heap.size < w1.heap.size := X0.lt
  obtain ⟨X1c0, X1f0, X1c1, X1f1, X1c2, X1f2, X1c3, X1f3, X1c4, X1f4, X1c5, X1f5⟩ := X1.f6
  have X1z : w.heap.size + 1 < w1.heap.size := X1.lt
  go_wp2_with fail
  refine (((Belongs_any p s _ hp.out).mono fun _ _ ⟨he, hb⟩ => ⟨by rw [he, hh.out], hb⟩ : Calls Try.prog 76 #[p.v, s.v] _ fun e w' => e = .returned (.bool false) ∧ Below _ _ w')).mono ?_
  rintro e w2 ⟨rfl, hb⟩
  clear X0c0 X0f0 X0c1 X0f1 X0c2 X0f2 X0c3 X0f3 X0c4 X0f4 X0c5 X0f5 X0c6 X0f6 X0c7 X0f7 X0c8 X0f8 X0c9 X0f9 X0c10 X0f10 X0c11 X0f11 X0z X1c0 X1f0 X1c1 X1f1 X1c2 X1f2 X1c3 X1f3 X1c4 X1f4 X1c5 X1f5 X1z
  have X0 := X0.later hb
  have X1 := X1.later hb
  have hB := hB.trans (hb.mono hB.size)
  clear hb
  go_wp2
  go_ret2
  exact ⟨rfl, hB⟩
theorem rSafe_in (p : Pl) (s : St) (h : Hid (p.checkT = 0)) (hv : Hid p.Valid) (hh : Hid (p.hasB s = true)) (w : World) : Calls Try.prog 69 #[p.v, s.v] w fun e w' => e = .returned (.tuple #[.bool (p.goodB s), .int .i64 0]) ∧ Below w.heap.size w w' := by
  go_enter Try.func69, Try.ntmps69
  go_wp2_with fail
  refine (rcheck_at h _).mono ?_
  rintro e w1 ⟨rfl, hb⟩
  have X0 := (((Box.newAt (n := w.heap.size) [.int .i64 p.top, .int .i64 p.bank, .int .i64 p.siphon, .int .i64 p.start, .int .i64 p.positions, .int .i64 p.rate, .int .i64 p.step, .int .i64 p.pass, .int .i64 p.feed, .int .i64 p.pipe, .int .i64 p.orders, .int .i64 p.age] 23 (by simp)).alloc _)).later hb
  have X1 := ((Box.newAt (n := w.heap.size + 1) [.int .i64 s.level, .int .i64 s.position, .int .i64 s.p0, .int .i64 s.p1, .int .i64 s.order, .int .i64 s.age] 30 (by simp))).later hb
  have hB : Below w.heap.size w w1 := ((((Below.refl w.heap.size w).alloc (by simp <;> omega) _).alloc (by simp <;> omega) _)).trans (hb.mono (by simp <;> omega))
  clear hb
  obtain ⟨X0c0, X0f0, X0c1, X0f1, X0c2, X0f2, X0c3, X0f3, X0c4, X0f4, X0c5, X0f5, X0c6, X0f6, X0c7, X0f7, X0c8, X0f8, X0c9, X0f9, X0c10, X0f10, X0c11, X0f11⟩ := X0.f12
  have X0z : w.heap.size < w1.heap.size := X0.lt
  obtain ⟨X1c0, X1f0, X1c1, X1f1, X1c2, X1f2, X1c3, X1f3, X1c4, X1f4, X1c5, X1f5⟩ := X1.f6
  have X1z : w.heap.size + 1 < w1.heap.size := X1.lt
  go_wp2_with fail
  refine (((Belongs_any p s _ hv.out.pipe).mono fun _ _ ⟨he, hb⟩ => ⟨by rw [he, hh.out], hb⟩ : Calls Try.prog 76 #[p.v, s.v] _ fun e w' => e = .returned (.bool true) ∧ Below _ _ w')).mono ?_
  rintro e w2 ⟨rfl, hb⟩
  clear X0c0 X0f0 X0c1 X0f1 X0c2 X0f2 X0c3 X0f3 X0c4 X0f4 X0c5 X0f5 X0c6 X0f6 X0c7 X0f7 X0c8 X0f8 X0c9 X0f9 X0c10 X0f10 X0c11 X0f11 X0z X1c0 X1f0 X1c1 X1f1 X1c2 X1f2 X1c3 X1f3 X1c4 X1f4 X1c5 X1f5 X1z
  have X0 := X0.later hb
  have X1 := X1.later hb
  have hB := hB.trans (hb.mono hB.size)
  clear hb
  obtain ⟨X0c0, X0f0, X0c1, X0f1, X0c2, X0f2, X0c3, X0f3, X0c4, X0f4, X0c5, X0f5, X0c6, X0f6, X0c7, X0f7, X0c8, X0f8, X0c9, X0f9, X0c10, X0f10, X0c11, X0f11⟩ := X0.f12
  have X0z : w.heap.size < w2.heap.size := X0.lt
  obtain ⟨X1c0, X1f0, X1c1, X1f1, X1c2, X1f2, X1c3, X1f3, X1c4, X1f4, X1c5, X1f5⟩ := X1.f6
  have X1z : w.heap.size + 1 < w2.heap.size := X1.lt
  go_wp2_with fail
  refine (Good_any p s hv hh _).mono ?_
  rintro e w3 ⟨rfl, hb⟩
  clear X0c0 X0f0 X0c1 X0f1 X0c2 X0f2 X0c3 X0f3 X0c4 X0f4 X0c5 X0f5 X0c6 X0f6 X0c7 X0f7 X0c8 X0f8 X0c9 X0f9 X0c10 X0f10 X0c11 X0f11 X0z X1c0 X1f0 X1c1 X1f1 X1c2 X1f2 X1c3 X1f3 X1c4 X1f4 X1c5 X1f5 X1z
  have X0 := X0.later hb
  have X1 := X1.later hb
  have hB := hB.trans (hb.mono hB.size)
  clear hb
  go_wp2
  go_ret2
  exact ⟨rfl, hB⟩
theorem rSafe_any (p : Pl) (s : St) (w : World) : Calls Try.prog 69 #[p.v, s.v] w (RetO (p.safeT s) w) := by
  by_cases h : p.checkT = 0
  · have hv := (Pl.check_zero h).1
    rcases hh : p.hasB s with _ | _
    · exact (rSafe_out p s h hv.pipe hh w).mono fun _ _ ⟨he, hb⟩ => ⟨_, _, he, by rw [Hid, Pl.safeT, if_pos h, if_neg (by rw [hh]; decide)], hb⟩
    · exact (rSafe_in p s h hv hh w).mono fun _ _ ⟨he, hb⟩ => ⟨_, _, he, by rw [Hid, Pl.safeT, if_pos h, if_pos hh], hb⟩
  · exact (rSafe_no p s _ rfl (by simp [h]) (by simp [h]) w).mono fun _ _ ⟨he, hb⟩ => ⟨_, _, he, by rw [Hid, Pl.safeT, if_neg h], hb⟩
end Go.Proofs.Ytancngachnpefaa
