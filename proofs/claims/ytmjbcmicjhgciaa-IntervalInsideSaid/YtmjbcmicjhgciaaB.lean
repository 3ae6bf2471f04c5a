/-
  Contracts of Check, Add, Sub, Meet, Hull, Inside of package interval. No condition.
-/
import Derived.Test.YtmjbcmicjhgciaaA
namespace Go.Proofs.Ytmjbcmicjhgciaa
open Go.RowKit

set_option maxHeartbeats 400000 in
theorem Check_any (a b : Int) (w : World) : Calls Try.prog 19 #[rng a b] w (RetI (chkT a b) w) := by
  go_enter Try.func19, Try.ntmps19
  go_wp2_with fail
  refine (valid1 _ a b _ (by go_simp) (by go_simp)).mono ?_
  rintro e w1 ⟨q, rfl, hq, hB1⟩
  have hB2 := (((Below.refl _ w).alloc (Nat.le_refl _) _).alloc (by simp) _).trans (hB1.mono (by simp; omega))
  cases q
  all_goals
    go_wp2
    go_ret
    exact ⟨_, rfl, by have h := hq.out; simp [Hid, chkT, h], hB2⟩

set_option maxHeartbeats 1000000 in
theorem Add_any (a b c d : Int) (w : World) : Calls Try.prog 13 #[rng a b, rng c d] w (Ret (addT a b c d) w) := by
  go_enter Try.func13, Try.ntmps13
  go_wp2_with fail
  refine (valid2 _ a b c d _ (by simp) (by go_simp) (by go_simp) (by go_simp) (by go_simp)).mono ?_
  rintro e w1 ⟨q, rfl, hq, hB1⟩
  have hB2 : Below w.heap.size w w1 := ((((Below.refl _ w).alloc (Nat.le_refl _) _).alloc (by simp) _).alloc (by simp; omega) _ |>.alloc (by simp; omega) _).trans (hB1.mono (by simp; omega))
  have X2 := (((Box.new w [.int .i64 a, .int .i64 b] 23).alloc _).alloc _ |>.alloc _).later hB1
  have X3 := (((Box.newAt (n := w.heap.size + 1) [.int .i64 c, .int .i64 d] 23 (by simp)).alloc _).alloc _).later hB1
  have X4 := ((Box.newAt (n := w.heap.size + 1 + 1) [.int .i64 0, .int .i64 0] 23 (by simp)).alloc _).later hB1
  clear hB1
  obtain ⟨⟨c4, c4'⟩, f4, f4'⟩ := X4.two
  cases q
  · go_wp2
    refine bodyPost_ret (v := .tuple #[rng 0 0, .int .i64 130]) (by simp [results, Try.results13, go_sem, c4, c4']) rfl ⟨0, 0, 130, rfl, ?_, by repeat (first | assumption | refine Below.setCell ?_ (by simp <;> omega) _)⟩
    have h := hq.out
    simp only [Hid, addT, h]; rfl
  · obtain ⟨⟨b1, b2, b3⟩, b4, b5, b6⟩ := okR_and hq.out
    obtain ⟨⟨c2, c2'⟩, _, _⟩ := X2.two
    obtain ⟨⟨c3, c3'⟩, _, _⟩ := X3.two
    go_wp2_with fail
    refine (hull_any (a + c) _ 0 _ [b + d] _ (by simp) (by simp) (fun i hi => by obtain rfl : i = 0 := by simpa using hi
                                                                                 go_simp)).mono ?_
    rintro e w2 ⟨lo, hi, er, rfl, hq2, hB3⟩
    have X4 := (X4.alloc _).later hB3
    obtain ⟨⟨d4, d4'⟩, g4, g4'⟩ := X4.two
    have hB4 := (hB2.alloc hB2.size _).trans (hB3.mono (by have := hB2.size; simp; omega))
    clear hB3 X2 X3 X4
    go_wp2
    refine bodyPost_ret (v := .tuple #[rng lo hi, .int .i64 er]) (by simp [results, Try.results13, go_sem, d4, d4']) rfl ⟨lo, hi, er, rfl, ?_, by repeat (first | assumption | refine Below.setCell ?_ (by simp <;> omega) _)⟩
    have h := hq.out
    have h2 := hq2.out
    rw [hull1 (by omega)] at h2
    simp only [Hid, addT, h, ← h2]; rfl

set_option maxHeartbeats 1000000 in
theorem Sub_any (a b c d : Int) (w : World) : Calls Try.prog 15 #[rng a b, rng c d] w (Ret (subT a b c d) w) := by
  go_enter Try.func15, Try.ntmps15
  go_wp2_with fail
  refine (valid2 _ a b c d _ (by simp) (by go_simp) (by go_simp) (by go_simp) (by go_simp)).mono ?_
  rintro e w1 ⟨q, rfl, hq, hB1⟩
  have hB2 : Below w.heap.size w w1 := ((((Below.refl _ w).alloc (Nat.le_refl _) _).alloc (by simp) _).alloc (by simp; omega) _ |>.alloc (by simp; omega) _).trans (hB1.mono (by simp; omega))
  have X2 := (((Box.new w [.int .i64 a, .int .i64 b] 23).alloc _).alloc _ |>.alloc _).later hB1
  have X3 := (((Box.newAt (n := w.heap.size + 1) [.int .i64 c, .int .i64 d] 23 (by simp)).alloc _).alloc _).later hB1
  have X4 := ((Box.newAt (n := w.heap.size + 1 + 1) [.int .i64 0, .int .i64 0] 23 (by simp)).alloc _).later hB1
  clear hB1
  obtain ⟨⟨c4, c4'⟩, f4, f4'⟩ := X4.two
  cases q
  · go_wp2
    refine bodyPost_ret (v := .tuple #[rng 0 0, .int .i64 130]) (by simp [results, Try.results15, go_sem, c4, c4']) rfl ⟨0, 0, 130, rfl, ?_, by repeat (first | assumption | refine Below.setCell ?_ (by simp <;> omega) _)⟩
    have h := hq.out
    simp only [Hid, subT, h]; rfl
  · obtain ⟨⟨b1, b2, b3⟩, b4, b5, b6⟩ := okR_and hq.out
    obtain ⟨⟨c2, c2'⟩, _, _⟩ := X2.two
    obtain ⟨⟨c3, c3'⟩, _, _⟩ := X3.two
    go_wp2_with fail
    refine (hull_any (a - d) _ 0 _ [b - c] _ (by simp) (by simp) (fun i hi => by obtain rfl : i = 0 := by simpa using hi
                                                                                 go_simp)).mono ?_
    rintro e w2 ⟨lo, hi, er, rfl, hq2, hB3⟩
    have X4 := (X4.alloc _).later hB3
    obtain ⟨⟨d4, d4'⟩, g4, g4'⟩ := X4.two
    have hB4 := (hB2.alloc hB2.size _).trans (hB3.mono (by have := hB2.size; simp; omega))
    clear hB3 X2 X3 X4
    go_wp2
    refine bodyPost_ret (v := .tuple #[rng lo hi, .int .i64 er]) (by simp [results, Try.results15, go_sem, d4, d4']) rfl ⟨lo, hi, er, rfl, ?_, by repeat (first | assumption | refine Below.setCell ?_ (by simp <;> omega) _)⟩
    have h := hq.out
    have h2 := hq2.out
    rw [hull1 (by omega)] at h2
    simp only [Hid, subT, h, ← h2]; rfl

set_option maxHeartbeats 1000000 in
theorem Hull_any (a b c d : Int) (w : World) : Calls Try.prog 29 #[rng a b, rng c d] w (Ret (hul2T a b c d) w) := by
  go_enter Try.func29, Try.ntmps29
  go_wp2_with fail
  refine (valid2 _ a b c d _ (by simp) (by go_simp) (by go_simp) (by go_simp) (by go_simp)).mono ?_
  rintro e w1 ⟨q, rfl, hq, hB1⟩
  have hB2 : Below w.heap.size w w1 := ((((Below.refl _ w).alloc (Nat.le_refl _) _).alloc (by simp) _).alloc (by simp; omega) _ |>.alloc (by simp; omega) _).trans (hB1.mono (by simp; omega))
  have X2 := (((Box.new w [.int .i64 a, .int .i64 b] 23).alloc _).alloc _ |>.alloc _).later hB1
  have X3 := (((Box.newAt (n := w.heap.size + 1) [.int .i64 c, .int .i64 d] 23 (by simp)).alloc _).alloc _).later hB1
  have X4 := ((Box.newAt (n := w.heap.size + 1 + 1) [.int .i64 0, .int .i64 0] 23 (by simp)).alloc _).later hB1
  clear hB1
  obtain ⟨⟨c4, c4'⟩, f4, f4'⟩ := X4.two
  cases q
  · go_wp2
    refine bodyPost_ret (v := .tuple #[rng 0 0, .int .i64 130]) (by simp [results, Try.results29, go_sem, c4, c4']) rfl ⟨0, 0, 130, rfl, ?_, by repeat (first | assumption | refine Below.setCell ?_ (by simp <;> omega) _)⟩
    have h := hq.out
    simp only [Hid, hul2T, h]; rfl
  · obtain ⟨⟨b1, b2, b3⟩, b4, b5, b6⟩ := okR_and hq.out
    obtain ⟨⟨c2, c2'⟩, _, _⟩ := X2.two
    obtain ⟨⟨c3, c3'⟩, _, _⟩ := X3.two
    go_wp2_with fail
    refine (hull_any a _ 0 _ [b, c, d] _ (by simp) (by simp) (fun i hi => by
      have hi' : i < 3 := by simpa using hi
      rcases i with _ | _ | _ | i
      · go_simp
      · go_simp
      · go_simp
      · omega)).mono ?_
    rintro e w2 ⟨lo, hi, er, rfl, hq2, hB3⟩
    have X4 := (X4.alloc _).later hB3
    obtain ⟨⟨d4, d4'⟩, g4, g4'⟩ := X4.two
    have hB4 := (hB2.alloc hB2.size _).trans (hB3.mono (by have := hB2.size; simp; omega))
    clear hB3 X2 X3 X4
    go_wp2
    refine bodyPost_ret (v := .tuple #[rng lo hi, .int .i64 er]) (by simp [results, Try.results29, go_sem, d4, d4']) rfl ⟨lo, hi, er, rfl, ?_, by repeat (first | assumption | refine Below.setCell ?_ (by simp <;> omega) _)⟩
    have h := hq.out
    have h2 := hq2.out
    rw [hull3 ⟨b1, b2, b3⟩ ⟨b4, b5, b6⟩] at h2
    simp only [Hid, hul2T, h, ← h2]; rfl

end Go.Proofs.Ytmjbcmicjhgciaa
