/-
  Contracts of Sub, Hull, abs, Fits, Mul of the reference of chapter 13. No condition.
-/
import Derived.Test.YtmjbcmicjhgciaaC
namespace Go.Proofs.Ytmjbcmicjhgciaa
open Go.RowKit

set_option maxHeartbeats 1000000 in
theorem rSub_any (a b c d : Int) (w : World) : Calls Try.prog 16 #[rng a b, rng c d] w (Ret (subT a b c d) w) := by
  go_enter Try.func16, Try.ntmps16
  go_wp2_with fail
  refine (Valid_any a b _).mono ?_
  rintro e w1 ⟨q, rfl, hq, hB1⟩
  have hB2 : Below w.heap.size w w1 := (((Below.refl _ w).alloc (Nat.le_refl _) _).alloc (by simp) _ |>.alloc (by simp; omega) _).trans (hB1.mono (by simp; omega))
  have X2 := ((Box.new w [.int .i64 a, .int .i64 b] 23).alloc _ |>.alloc _).later hB1
  have X3 := ((Box.newAt (n := w.heap.size + 1) [.int .i64 c, .int .i64 d] 23 (by simp)).alloc _).later hB1
  have X4 := (Box.newAt (n := w.heap.size + 1 + 1) [.int .i64 0, .int .i64 0] 23 (by simp)).later hB1
  clear hB1
  obtain ⟨⟨c4, c4'⟩, f4, f4'⟩ := X4.two
  cases q
  · go_wp2
    refine bodyPost_ret (v := .tuple #[rng 0 0, .int .i64 130]) (by simp [results, Try.results16, go_sem, c4, c4']) rfl ⟨0, 0, 130, rfl, ?_, by repeat (first | assumption | refine Below.setCell ?_ (by simp <;> omega) _)⟩
    have h := hq.out
    simp [Hid, subT, h]
  · obtain ⟨b1, b2, b3⟩ := okR_bd hq.out
    obtain ⟨⟨c3, c3'⟩, _, _⟩ := X3.two
    go_wp2_with fail
    clear c3 c3' c4 c4' f4 f4'
    refine (Valid_any c d _).mono ?_
    rintro e w2 ⟨q2, rfl, hq2, hB3⟩
    have hB4 := hB2.trans (hB3.mono hB2.size)
    have X2 := X2.later hB3
    have X3 := X3.later hB3
    have X4 := X4.later hB3
    clear hB2 hB3
    obtain ⟨⟨c2, c2'⟩, _, _⟩ := X2.two
    obtain ⟨⟨c3, c3'⟩, _, _⟩ := X3.two
    obtain ⟨⟨c4, c4'⟩, f4, f4'⟩ := X4.two
    cases q2
    · go_wp2
      refine bodyPost_ret (v := .tuple #[rng 0 0, .int .i64 130]) (by simp [results, Try.results16, go_sem, c4, c4']) rfl ⟨0, 0, 130, rfl, ?_, by repeat (first | assumption | refine Below.setCell ?_ (by simp <;> omega) _)⟩
      have h := hq2.out
      simp [Hid, subT, h]
    · obtain ⟨b4, b5, b6⟩ := okR_bd hq2.out
      go_wp2_with fail
      refine (result_any (a - d) (b - c) _).mono ?_
      rintro e w3 ⟨lo, hi, er, rfl, hq3, hB5⟩
      have X4 := X4.later hB5
      have hB6 := hB4.trans (hB5.mono hB4.size)
      clear hB4 hB5 X2 X3 c4 c4' f4 f4' c2 c2' c3 c3'
      obtain ⟨⟨c4, c4'⟩, f4, f4'⟩ := X4.two
      go_wp2
      refine bodyPost_ret (v := .tuple #[rng lo hi, .int .i64 er]) (by simp [results, Try.results16, go_sem, c4, c4']) rfl ⟨lo, hi, er, rfl, ?_, by repeat (first | assumption | refine Below.setCell ?_ (by simp <;> omega) _)⟩
      have h := hq.out
      have h2 := hq2.out
      have h3 := hq3.out
      simp [Hid, subT, h, h2, h3]

set_option maxHeartbeats 1000000 in
theorem rHull_any (a b c d : Int) (w : World) : Calls Try.prog 30 #[rng a b, rng c d] w (Ret (hul2T a b c d) w) := by
  go_enter Try.func30, Try.ntmps30
  go_wp2_with fail
  refine (Valid_any a b _).mono ?_
  rintro e w1 ⟨q, rfl, hq, hB1⟩
  have hB2 : Below w.heap.size w w1 := (((Below.refl _ w).alloc (Nat.le_refl _) _).alloc (by simp) _ |>.alloc (by simp; omega) _).trans (hB1.mono (by simp; omega))
  have X2 := ((Box.new w [.int .i64 a, .int .i64 b] 23).alloc _ |>.alloc _).later hB1
  have X3 := ((Box.newAt (n := w.heap.size + 1) [.int .i64 c, .int .i64 d] 23 (by simp)).alloc _).later hB1
  have X4 := (Box.newAt (n := w.heap.size + 1 + 1) [.int .i64 0, .int .i64 0] 23 (by simp)).later hB1
  clear hB1
  obtain ⟨⟨c4, c4'⟩, f4, f4'⟩ := X4.two
  cases q
  · go_wp2
    refine bodyPost_ret (v := .tuple #[rng 0 0, .int .i64 130]) (by simp [results, Try.results30, go_sem, c4, c4']) rfl ⟨0, 0, 130, rfl, ?_, by repeat (first | assumption | refine Below.setCell ?_ (by simp <;> omega) _)⟩
    have h := hq.out
    simp [Hid, hul2T, h]
  · obtain ⟨b1, b2, b3⟩ := okR_bd hq.out
    obtain ⟨⟨c3, c3'⟩, _, _⟩ := X3.two
    go_wp2_with fail
    clear c3 c3' c4 c4' f4 f4'
    refine (Valid_any c d _).mono ?_
    rintro e w2 ⟨q2, rfl, hq2, hB3⟩
    have hB4 := hB2.trans (hB3.mono hB2.size)
    have X2 := X2.later hB3
    have X3 := X3.later hB3
    have X4 := X4.later hB3
    clear hB2 hB3
    obtain ⟨⟨c2, c2'⟩, _, _⟩ := X2.two
    obtain ⟨⟨c3, c3'⟩, _, _⟩ := X3.two
    obtain ⟨⟨c4, c4'⟩, f4, f4'⟩ := X4.two
    cases q2
    · go_wp2
      refine bodyPost_ret (v := .tuple #[rng 0 0, .int .i64 130]) (by simp [results, Try.results30, go_sem, c4, c4']) rfl ⟨0, 0, 130, rfl, ?_, by repeat (first | assumption | refine Below.setCell ?_ (by simp <;> omega) _)⟩
      have h := hq2.out
      simp [Hid, hul2T, h]
    · obtain ⟨b4, b5, b6⟩ := okR_bd hq2.out
      by_cases h1 : c < a
      all_goals by_cases h2 : b < d
      all_goals go_wp2
      · refine bodyPost_ret (v := .tuple #[rng c d, .int .i64 0]) (by simp [results, Try.results30, go_sem, c4, c4']) rfl ⟨c, d, 0, rfl, ?_, by repeat (first | assumption | refine Below.setCell ?_ (by simp <;> omega) _)⟩
        exact hul2_yes hq.out hq2.out (by omega)
      · refine bodyPost_ret (v := .tuple #[rng c b, .int .i64 0]) (by simp [results, Try.results30, go_sem, c4, c4']) rfl ⟨c, b, 0, rfl, ?_, by repeat (first | assumption | refine Below.setCell ?_ (by simp <;> omega) _)⟩
        exact hul2_yes hq.out hq2.out (by omega)
      · refine bodyPost_ret (v := .tuple #[rng a d, .int .i64 0]) (by simp [results, Try.results30, go_sem, c4, c4']) rfl ⟨a, d, 0, rfl, ?_, by repeat (first | assumption | refine Below.setCell ?_ (by simp <;> omega) _)⟩
        exact hul2_yes hq.out hq2.out (by omega)
      · refine bodyPost_ret (v := .tuple #[rng a b, .int .i64 0]) (by simp [results, Try.results30, go_sem, c4, c4']) rfl ⟨a, b, 0, rfl, ?_, by repeat (first | assumption | refine Below.setCell ?_ (by simp <;> omega) _)⟩
        exact hul2_yes hq.out hq2.out (by omega)

set_option maxHeartbeats 400000 in
theorem abs_any (x : Int) (w : World) (h : -4611686018427387904 ≤ x ∧ x ≤ 4611686018427387904) : Calls Try.prog 51 #[.int .i64 x] w (RetI (absI x) w) := by
  obtain ⟨h1, h2⟩ := h
  by_cases hx : x < 0
  all_goals
    go_enter Try.func51, Try.ntmps51
    go_wp2
    go_ret
    refine ⟨_, rfl, ?_, Below.refl _ _⟩
    simp only [Hid, absI]
    omega

set_option maxHeartbeats 400000 in
theorem Fits_any (x y : Int) (w : World) (h : -1099511627776 ≤ x ∧ x ≤ 1099511627776) (h' : -1099511627776 ≤ y ∧ y ≤ 1099511627776) : Calls Try.prog 34 #[.int .i64 x, .int .i64 y] w (RetB (fitB x y) w) := by
  obtain ⟨h1, h2⟩ := h
  obtain ⟨h3, h4⟩ := h'
  rcases hx : (x == 0) with _ | _
  · go_enter Try.func34, Try.ntmps34
    go_wp2_with fail
    refine (abs_any y _ (by omega)).mono ?_
    rintro e w1 ⟨n, rfl, hq, hB⟩
    go_wp2_with fail
    refine (abs_any x _ (by omega)).mono ?_
    rintro e w2 ⟨m, rfl, hq2, hB2⟩
    have hm : 1 ≤ m := absI_pos hq2.out hx
    go_wp2
    go_ret
    refine ⟨_, rfl, ?_, hB.trans (hB2.mono hB.size)⟩
    exact fit_div hq.out hq2.out hm
  · go_enter Try.func34, Try.ntmps34
    go_wp2
    go_ret
    refine ⟨_, rfl, ?_, Below.refl _ _⟩
    have : x = 0 := by simpa using hx
    simp [Hid, fitB, this]

set_option maxHeartbeats 1000000 in
theorem rInside_any (a b c d : Int) (w : World) : Calls Try.prog 32 #[rng a b, rng c d] w (RetO (insT a b c d) w) := by
  go_enter Try.func32, Try.ntmps32
  go_wp2_with fail
  refine (Valid_any a b _).mono ?_
  rintro e w1 ⟨q, rfl, hq, hB1⟩
  have hB2 : Below w.heap.size w w1 := (((Below.refl _ w).alloc (Nat.le_refl _) _).alloc (by simp) _).trans (hB1.mono (by simp; omega))
  have X2 := ((Box.new w [.int .i64 a, .int .i64 b] 23).alloc _).later hB1
  have X3 := (Box.newAt (n := w.heap.size + 1) [.int .i64 c, .int .i64 d] 23 (by simp)).later hB1
  clear hB1
  cases q
  · go_wp2
    go_ret2
    exact ⟨_, _, rfl, by have h := hq.out; simp [Hid, insT, h], hB2⟩
  · obtain ⟨b1, b2, b3⟩ := okR_bd hq.out
    obtain ⟨⟨c3, c3'⟩, _, _⟩ := X3.two
    go_wp2_with fail
    clear c3 c3'
    refine (Valid_any c d _).mono ?_
    rintro e w2 ⟨q2, rfl, hq2, hB3⟩
    have hB4 := hB2.trans (hB3.mono hB2.size)
    have X2 := X2.later hB3
    have X3 := X3.later hB3
    clear hB2 hB3
    obtain ⟨⟨c2, c2'⟩, _, _⟩ := X2.two
    obtain ⟨⟨c3, c3'⟩, _, _⟩ := X3.two
    cases q2
    · go_wp2
      go_ret2
      exact ⟨_, _, rfl, by have h := hq2.out; simp [Hid, insT, h], hB4⟩
    · obtain ⟨b4, b5, b6⟩ := okR_bd hq2.out
      go_wp2
      · go_ret2
        refine ⟨_, _, rfl, ?_, hB4⟩
        have h := hq.out
        have h2 := hq2.out
        have h1 : c ≤ a := by assumption
        simp [Hid, insT, h, h2, h1]
      · go_ret2
        refine ⟨_, _, rfl, ?_, hB4⟩
        have h := hq.out
        have h2 := hq2.out
        have h1 : a < c := by assumption
        simp [Hid, insT, h, h2]
        omega

set_option maxHeartbeats 1000000 in
theorem rMeet_any (a b c d : Int) (w : World) : Calls Try.prog 28 #[rng a b, rng c d] w (RetM (meetT a b c d) w) := by
  go_enter Try.func28, Try.ntmps28
  go_wp2_with fail
  refine (Valid_any a b _).mono ?_
  rintro e w1 ⟨q, rfl, hq, hB1⟩
  have hB2 : Below w.heap.size w w1 := (((Below.refl _ w).alloc (Nat.le_refl _) _).alloc (by simp) _ |>.alloc (by simp; omega) _).trans (hB1.mono (by simp; omega))
  have X2 := ((Box.new w [.int .i64 a, .int .i64 b] 23).alloc _ |>.alloc _).later hB1
  have X3 := ((Box.newAt (n := w.heap.size + 1) [.int .i64 c, .int .i64 d] 23 (by simp)).alloc _).later hB1
  have X4 := (Box.newAt (n := w.heap.size + 1 + 1) [.int .i64 0, .int .i64 0] 23 (by simp)).later hB1
  clear hB1
  obtain ⟨⟨c4, c4'⟩, f4, f4'⟩ := X4.two
  cases q
  · go_wp2
    refine bodyPost_ret (v := .tuple #[rng 0 0, .bool false, .int .i64 130]) (by simp [results, Try.results28, go_sem, c4, c4']) rfl ⟨0, 0, false, 130, rfl, ?_, by repeat (first | assumption | refine Below.setCell ?_ (by simp <;> omega) _)⟩
    have h := hq.out
    simp [Hid, meetT, h]
  · obtain ⟨b1, b2, b3⟩ := okR_bd hq.out
    obtain ⟨⟨c3, c3'⟩, _, _⟩ := X3.two
    go_wp2_with fail
    clear c3 c3' c4 c4' f4 f4'
    refine (Valid_any c d _).mono ?_
    rintro e w2 ⟨q2, rfl, hq2, hB3⟩
    have hB4 := hB2.trans (hB3.mono hB2.size)
    have X2 := X2.later hB3
    have X3 := X3.later hB3
    have X4 := X4.later hB3
    clear hB2 hB3
    obtain ⟨⟨c2, c2'⟩, _, _⟩ := X2.two
    obtain ⟨⟨c3, c3'⟩, _, _⟩ := X3.two
    obtain ⟨⟨c4, c4'⟩, f4, f4'⟩ := X4.two
    cases q2
    · go_wp2
      refine bodyPost_ret (v := .tuple #[rng 0 0, .bool false, .int .i64 130]) (by simp [results, Try.results28, go_sem, c4, c4']) rfl ⟨0, 0, false, 130, rfl, ?_, by repeat (first | assumption | refine Below.setCell ?_ (by simp <;> omega) _)⟩
      have h := hq2.out
      simp [Hid, meetT, h]
    · obtain ⟨b4, b5, b6⟩ := okR_bd hq2.out
      have hz := X4.lt
      by_cases h1 : a < c
      all_goals by_cases h2 : d < b
      all_goals go_wp2
      · have Y := ((X4.set 0 (.int .i64 c)).set 1 (.int .i64 d)).alloc (.cells #[.int .i64 c, .int .i64 d] 23)
        obtain ⟨⟨y0, y1⟩, _, _⟩ := Y.two
        refine bodyPost_ret (v := .tuple #[rng c d, .bool true, .int .i64 0]) (by simp [results, Try.results28, go_sem, y0, y1]) rfl ⟨c, d, true, 0, rfl, ?_, by repeat (first | assumption | refine Below.setCell ?_ (by simp <;> omega) _ | refine Below.alloc ?_ (by have := hB4.size; simp; omega) _)⟩
        exact meet_yes (by rw [hq.out, hq2.out]; rfl) (by omega)
      · have Y := ((X4.set 0 (.int .i64 0)).set 1 (.int .i64 0)).alloc (.cells #[.int .i64 c, .int .i64 b] 23)
        obtain ⟨⟨y0, y1⟩, _, _⟩ := Y.two
        refine bodyPost_ret (v := .tuple #[rng 0 0, .bool false, .int .i64 0]) (by simp [results, Try.results28, go_sem, y0, y1]) rfl ⟨0, 0, false, 0, rfl, ?_, by repeat (first | assumption | refine Below.setCell ?_ (by simp <;> omega) _ | refine Below.alloc ?_ (by have := hB4.size; simp; omega) _)⟩
        exact meet_no (by rw [hq.out, hq2.out]; rfl) (by omega)
      · have Y := ((X4.set 0 (.int .i64 c)).set 1 (.int .i64 b)).alloc (.cells #[.int .i64 c, .int .i64 b] 23)
        obtain ⟨⟨y0, y1⟩, _, _⟩ := Y.two
        refine bodyPost_ret (v := .tuple #[rng c b, .bool true, .int .i64 0]) (by simp [results, Try.results28, go_sem, y0, y1]) rfl ⟨c, b, true, 0, rfl, ?_, by repeat (first | assumption | refine Below.setCell ?_ (by simp <;> omega) _ | refine Below.alloc ?_ (by have := hB4.size; simp; omega) _)⟩
        exact meet_yes (by rw [hq.out, hq2.out]; rfl) (by omega)
      · have Y := ((X4.set 0 (.int .i64 0)).set 1 (.int .i64 0)).alloc (.cells #[.int .i64 a, .int .i64 d] 23)
        obtain ⟨⟨y0, y1⟩, _, _⟩ := Y.two
        refine bodyPost_ret (v := .tuple #[rng 0 0, .bool false, .int .i64 0]) (by simp [results, Try.results28, go_sem, y0, y1]) rfl ⟨0, 0, false, 0, rfl, ?_, by repeat (first | assumption | refine Below.setCell ?_ (by simp <;> omega) _ | refine Below.alloc ?_ (by have := hB4.size; simp; omega) _)⟩
        exact meet_no (by rw [hq.out, hq2.out]; rfl) (by omega)
      · have Y := ((X4.set 0 (.int .i64 a)).set 1 (.int .i64 d)).alloc (.cells #[.int .i64 a, .int .i64 d] 23)
        obtain ⟨⟨y0, y1⟩, _, _⟩ := Y.two
        refine bodyPost_ret (v := .tuple #[rng a d, .bool true, .int .i64 0]) (by simp [results, Try.results28, go_sem, y0, y1]) rfl ⟨a, d, true, 0, rfl, ?_, by repeat (first | assumption | refine Below.setCell ?_ (by simp <;> omega) _ | refine Below.alloc ?_ (by have := hB4.size; simp; omega) _)⟩
        exact meet_yes (by rw [hq.out, hq2.out]; rfl) (by omega)
      · have Y := ((X4.set 0 (.int .i64 a)).set 1 (.int .i64 b)).alloc (.cells #[.int .i64 a, .int .i64 b] 23)
        obtain ⟨⟨y0, y1⟩, _, _⟩ := Y.two
        refine bodyPost_ret (v := .tuple #[rng a b, .bool true, .int .i64 0]) (by simp [results, Try.results28, go_sem, y0, y1]) rfl ⟨a, b, true, 0, rfl, ?_, by repeat (first | assumption | refine Below.setCell ?_ (by simp <;> omega) _ | refine Below.alloc ?_ (by have := hB4.size; simp; omega) _)⟩
        exact meet_yes (by rw [hq.out, hq2.out]; rfl) (by omega)

end Go.Proofs.Ytmjbcmicjhgciaa
