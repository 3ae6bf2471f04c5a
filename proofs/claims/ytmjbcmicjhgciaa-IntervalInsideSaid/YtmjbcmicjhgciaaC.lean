/-
  Contracts of Meet and Inside of package interval, and of Valid, Check, result, Add, Sub, Meet, Hull, Inside, abs, Fits of the reference. No condition.
-/
import Derived.Test.YtmjbcmicjhgciaaA
namespace Go.Proofs.Ytmjbcmicjhgciaa
open Go.RowKit

set_option maxHeartbeats 1000000 in
theorem Meet_any (a b c d : Int) (w : World) : Calls Try.prog 27 #[rng a b, rng c d] w (RetM (meetT a b c d) w) := by
  go_enter Try.func27, Try.ntmps27
  go_wp2_with fail
  refine (valid2 _ a b c d _ (by simp) (by go_simp) (by go_simp) (by go_simp) (by go_simp)).mono ?_
  rintro e w1 ⟨q, rfl, hq, hB1⟩
  have hB2 : Below w.heap.size w w1 := ((((Below.refl _ w).alloc (Nat.le_refl _) _).alloc (by simp) _).alloc (by simp; omega) _ |>.alloc (by simp; omega) _).trans (hB1.mono (by simp; omega))
  have X2 := (((Box.new w [.int .i64 a, .int .i64 b] 23).alloc _).alloc _ |>.alloc _).later hB1
  have X3 := (((Box.newAt (n := w.heap.size + 1) [.int .i64 c, .int .i64 d] 23 (by simp)).alloc _).alloc _).later hB1
  have X4 := ((Box.newAt (n := w.heap.size + 1 + 1) [.int .i64 0, .int .i64 0] 23 (by simp)).alloc _).later hB1
  clear hB1
  obtain ⟨⟨c4, c4'⟩, f4, f4'⟩ := X4.two
  cases q
  · go_wp2
    refine bodyPost_ret (v := .tuple #[rng 0 0, .bool false, .int .i64 130]) (by simp [results, Try.results27, go_sem, c4, c4']) rfl ⟨0, 0, false, 130, rfl, ?_, by repeat (first | assumption | refine Below.setCell ?_ (by simp <;> omega) _)⟩
    have h := hq.out
    simp only [Hid, meetT, h]; rfl
  · obtain ⟨⟨b1, b2, b3⟩, b4, b5, b6⟩ := okR_and hq.out
    obtain ⟨⟨c2, c2'⟩, _, _⟩ := X2.two
    obtain ⟨⟨c3, c3'⟩, _, _⟩ := X3.two
    by_cases h1 : a < c
    all_goals by_cases h2 : d < b
    all_goals go_wp2
    · have Y := (((X4.set 0 (.int .i64 c)).set 1 (.int .i64 d)).set 0 (.int .i64 c)).set 1 (.int .i64 d)
      obtain ⟨⟨y0, y1⟩, _, _⟩ := Y.two
      refine bodyPost_ret (v := .tuple #[rng c d, .bool true, .int .i64 0]) (by simp [results, Try.results27, go_sem, y0, y1]) rfl ⟨c, d, true, 0, rfl, ?_, by repeat (first | assumption | refine Below.setCell ?_ (by simp <;> omega) _)⟩
      exact meet_yes hq.out (by omega)
    · have Y := (((X4.set 0 (.int .i64 c)).set 1 (.int .i64 b)).set 0 (.int .i64 0)).set 1 (.int .i64 0)
      obtain ⟨⟨y0, y1⟩, _, _⟩ := Y.two
      refine bodyPost_ret (v := .tuple #[rng 0 0, .bool false, .int .i64 0]) (by simp [results, Try.results27, go_sem, y0, y1]) rfl ⟨0, 0, false, 0, rfl, ?_, by repeat (first | assumption | refine Below.setCell ?_ (by simp <;> omega) _)⟩
      exact meet_no hq.out (by omega)
    · have Y := (((X4.set 0 (.int .i64 c)).set 1 (.int .i64 b)).set 0 (.int .i64 c)).set 1 (.int .i64 b)
      obtain ⟨⟨y0, y1⟩, _, _⟩ := Y.two
      refine bodyPost_ret (v := .tuple #[rng c b, .bool true, .int .i64 0]) (by simp [results, Try.results27, go_sem, y0, y1]) rfl ⟨c, b, true, 0, rfl, ?_, by repeat (first | assumption | refine Below.setCell ?_ (by simp <;> omega) _)⟩
      exact meet_yes hq.out (by omega)
    · have Y := (((X4.set 0 (.int .i64 a)).set 1 (.int .i64 d)).set 0 (.int .i64 0)).set 1 (.int .i64 0)
      obtain ⟨⟨y0, y1⟩, _, _⟩ := Y.two
      refine bodyPost_ret (v := .tuple #[rng 0 0, .bool false, .int .i64 0]) (by simp [results, Try.results27, go_sem, y0, y1]) rfl ⟨0, 0, false, 0, rfl, ?_, by repeat (first | assumption | refine Below.setCell ?_ (by simp <;> omega) _)⟩
      exact meet_no hq.out (by omega)
    · have Y := (((X4.set 0 (.int .i64 a)).set 1 (.int .i64 d)).set 0 (.int .i64 a)).set 1 (.int .i64 d)
      obtain ⟨⟨y0, y1⟩, _, _⟩ := Y.two
      refine bodyPost_ret (v := .tuple #[rng a d, .bool true, .int .i64 0]) (by simp [results, Try.results27, go_sem, y0, y1]) rfl ⟨a, d, true, 0, rfl, ?_, by repeat (first | assumption | refine Below.setCell ?_ (by simp <;> omega) _)⟩
      exact meet_yes hq.out (by omega)
    · have Y := (((X4.set 0 (.int .i64 a)).set 1 (.int .i64 b)).set 0 (.int .i64 a)).set 1 (.int .i64 b)
      obtain ⟨⟨y0, y1⟩, _, _⟩ := Y.two
      refine bodyPost_ret (v := .tuple #[rng a b, .bool true, .int .i64 0]) (by simp [results, Try.results27, go_sem, y0, y1]) rfl ⟨a, b, true, 0, rfl, ?_, by repeat (first | assumption | refine Below.setCell ?_ (by simp <;> omega) _)⟩
      exact meet_yes hq.out (by omega)

set_option maxHeartbeats 1000000 in
theorem Inside_any (a b c d : Int) (w : World) : Calls Try.prog 31 #[rng a b, rng c d] w (RetO (insT a b c d) w) := by
  go_enter Try.func31, Try.ntmps31
  go_wp2_with fail
  refine (valid2 _ a b c d _ (by simp) (by go_simp) (by go_simp) (by go_simp) (by go_simp)).mono ?_
  rintro e w1 ⟨q, rfl, hq, hB1⟩
  have hB2 : Below w.heap.size w w1 := ((((Below.refl _ w).alloc (Nat.le_refl _) _).alloc (by simp) _).alloc (by simp; omega) _).trans (hB1.mono (by simp; omega))
  have X2 := (((Box.new w [.int .i64 a, .int .i64 b] 23).alloc _).alloc _).later hB1
  have X3 := ((Box.newAt (n := w.heap.size + 1) [.int .i64 c, .int .i64 d] 23 (by simp)).alloc _).later hB1
  clear hB1
  cases q
  · go_wp2
    go_ret2
    exact ⟨_, _, rfl, by have h := hq.out; simp only [Hid, insT, h]; rfl, hB2⟩
  · obtain ⟨⟨b1, b2, b3⟩, b4, b5, b6⟩ := okR_and hq.out
    obtain ⟨⟨c2, c2'⟩, _, _⟩ := X2.two
    obtain ⟨⟨c3, c3'⟩, _, _⟩ := X3.two
    go_wp2
    · go_ret2
      refine ⟨_, _, rfl, ?_, hB2⟩
      have h := hq.out
      have h1 : c ≤ a := by assumption
      simp [Hid, insT, h, h1]
    · go_ret2
      refine ⟨_, _, rfl, ?_, hB2⟩
      have h := hq.out
      have h1 : a < c := by assumption
      simp [Hid, insT, h]
      omega
set_option maxHeartbeats 400000 in
theorem Valid_any (lo hi : Int) (w : World) : Calls Try.prog 39 #[rng lo hi] w (RetB (okR lo hi) w) := by
  go_enter Try.func39, Try.ntmps39
  go_wp2
  all_goals
    go_ret
    exact ⟨_, rfl, by simp [Hid, okR]; omega, (Below.refl _ _).alloc (Nat.le_refl _) _⟩

set_option maxHeartbeats 400000 in
theorem rCheck_any (a b : Int) (w : World) : Calls Try.prog 20 #[rng a b] w (RetI (chkT a b) w) := by
  go_enter Try.func20, Try.ntmps20
  go_wp2_with fail
  refine (Valid_any a b _).mono ?_
  rintro e w1 ⟨q, rfl, hq, hB1⟩
  have hB2 := ((Below.refl _ w).alloc (Nat.le_refl _) _).trans (hB1.mono (by simp))
  cases q
  all_goals
    go_wp2
    go_ret
    exact ⟨_, rfl, by have h := hq.out; simp [Hid, chkT, h], hB2⟩

set_option maxHeartbeats 400000 in
theorem result_any (a b : Int) (w : World) : Calls Try.prog 40 #[rng a b] w (Ret (cutT a b) w) := by
  go_enter Try.func40, Try.ntmps40
  go_wp2_with fail
  refine (Valid_any a b _).mono ?_
  rintro e w1 ⟨q, rfl, hq, hB1⟩
  have hB2 := (((Below.refl _ w).alloc (Nat.le_refl _) _).alloc (by simp) _).trans (hB1.mono (by simp; omega))
  have X2 := ((Box.new w [.int .i64 a, .int .i64 b] 23).alloc _).later hB1
  have X3 := (Box.newAt (n := w.heap.size + 1) [.int .i64 0, .int .i64 0] 23 (by simp)).later hB1
  obtain ⟨⟨c2, c2'⟩, f2, f2'⟩ := X2.two
  obtain ⟨⟨c3, c3'⟩, f3, f3'⟩ := X3.two
  cases q
  · go_wp2
    refine bodyPost_ret (v := .tuple #[rng 0 0, .int .i64 2]) (by simp [results, Try.results40, go_sem, c3, c3']) rfl ⟨0, 0, 2, rfl, ?_, by repeat (first | assumption | refine Below.setCell ?_ (by simp <;> omega) _)⟩
    have h := hq.out
    simp [Hid, cutT, h]
  · go_wp2
    refine bodyPost_ret (v := .tuple #[rng a b, .int .i64 0]) (by simp [results, Try.results40, go_sem, c3, c3']) rfl ⟨a, b, 0, rfl, ?_, by repeat (first | assumption | refine Below.setCell ?_ (by simp <;> omega) _)⟩
    have h := hq.out
    simp [Hid, cutT, h]

set_option maxHeartbeats 1000000 in
theorem rAdd_any (a b c d : Int) (w : World) : Calls Try.prog 14 #[rng a b, rng c d] w (Ret (addT a b c d) w) := by
  go_enter Try.func14, Try.ntmps14
  go_wp2_with fail
  refine (Valid_any a b _).mono ?_
  rintro e w1 ⟨q, rfl, hq, hB1⟩
  have hB2 : Below w.heap.size w w1 := (((Below.refl _ w).alloc (Nat.le_refl _) _).alloc (by simp) _ |>.alloc (by simp; omega) _).trans (hB1.mono (by simp; omega))
  have X2 := ((Box.new w [.int .i64 a, .int .i64 b] 23).alloc _ |>.alloc _).later hB1
  have X3 := ((Box.newAt (n := w.heap.size + 1) [.int .i64 c, .int .i64 d] 23 (by simp)).alloc _).later hB1
  have X4 := (Box.newAt (n := w.heap.size + 1 + 1) [.int .i64 0, .int .i64 0] 23 (by simp)).later hB1
  clear hB1
  obtain ⟨⟨c4, c4'⟩, f4, f4'⟩ := X4.two
  cases q
  · go_wp2
    refine bodyPost_ret (v := .tuple #[rng 0 0, .int .i64 130]) (by simp [results, Try.results14, go_sem, c4, c4']) rfl ⟨0, 0, 130, rfl, ?_, by repeat (first | assumption | refine Below.setCell ?_ (by simp <;> omega) _)⟩
    have h := hq.out
    simp [Hid, addT, h]
  · obtain ⟨b1, b2, b3⟩ := okR_bd hq.out
    obtain ⟨⟨c3, c3'⟩, _, _⟩ := X3.two
    go_wp2_with fail
    clear c3 c3' c4 c4' f4 f4'
    refine (Valid_any c d _).mono ?_
    rintro e w2 ⟨q2, rfl, hq2, hB3⟩
    have hB4 := hB2.trans (hB3.mono hB2.size)
    have X2 := X2.later hB3
    have X3 := X3.later hB3
    have X4 := X4.later hB3
    clear hB2 hB3
    obtain ⟨⟨c2, c2'⟩, _, _⟩ := X2.two
    obtain ⟨⟨c3, c3'⟩, _, _⟩ := X3.two
    obtain ⟨⟨c4, c4'⟩, f4, f4'⟩ := X4.two
    cases q2
    · go_wp2
      refine bodyPost_ret (v := .tuple #[rng 0 0, .int .i64 130]) (by simp [results, Try.results14, go_sem, c4, c4']) rfl ⟨0, 0, 130, rfl, ?_, by repeat (first | assumption | refine Below.setCell ?_ (by simp <;> omega) _)⟩
      have h := hq2.out
      simp [Hid, addT, h]
    · obtain ⟨b4, b5, b6⟩ := okR_bd hq2.out
      go_wp2_with fail
      refine (result_any (a + c) (b + d) _).mono ?_
      rintro e w3 ⟨lo, hi, er, rfl, hq3, hB5⟩
      have X4 := X4.later hB5
      have hB6 := hB4.trans (hB5.mono hB4.size)
      clear hB4 hB5 X2 X3 c4 c4' f4 f4' c2 c2' c3 c3'
      obtain ⟨⟨c4, c4'⟩, f4, f4'⟩ := X4.two
      go_wp2
      refine bodyPost_ret (v := .tuple #[rng lo hi, .int .i64 er]) (by simp [results, Try.results14, go_sem, c4, c4']) rfl ⟨lo, hi, er, rfl, ?_, by repeat (first | assumption | refine Below.setCell ?_ (by simp <;> omega) _)⟩
      have h := hq.out
      have h2 := hq2.out
      have h3 := hq3.out
      simp [Hid, addT, h, h2, h3]

end Go.Proofs.Ytmjbcmicjhgciaa
