/-
  Contracts of Square and Root of package interval and of the reference. No condition.
-/
import Derived.Test.YtmjbcmicjhgciaaR
import Derived.Deep.CutBlock
import Derived.Deep.DeepCutAuto
namespace Go.Proofs.Ytmjbcmicjhgciaa
open Go.RowKit

theorem root_at (n r : Int) (w : World) (h : 0 ≤ n ∧ n ≤ 1099511627776) (hr : sqrtI n = r) : Calls Try.prog 42 #[.int .i64 n] w fun e w' => e = .returned (.int .i64 r) ∧ w' = w :=
  (root_any n w h).mono fun _ _ ⟨_, he, hr', hw⟩ => ⟨by rw [he, ← hr'.out, hr], hw.symm⟩
theorem root_up {a b ra rb : Int} (h : okR a b = true) (ha : sqrtI a = ra) (hb : sqrtI b = rb) (h0 : 0 ≤ a) (h1 : rb * rb < b) : Hid (rootT a b = (ra, rb + 1, 0)) := by
  rw [Hid, rootT, if_pos h, if_neg (by omega), rupI, ha, hb, if_pos h1]
theorem root_eq {a b ra rb : Int} (h : okR a b = true) (ha : sqrtI a = ra) (hb : sqrtI b = rb) (h0 : 0 ≤ a) (h1 : b ≤ rb * rb) : Hid (rootT a b = (ra, rb, 0)) := by
  rw [Hid, rootT, if_pos h, if_neg (by omega), rupI, ha, hb, if_neg (by omega)]

set_option maxHeartbeats 1000000 in
theorem Root_any (a b : Int) (w : World) : Calls Try.prog 23 #[rng a b] w (Ret (rootT a b) w) := by
  go_enter Try.func23, Try.ntmps23
  go_wp2_with fail
  refine (valid1 _ a b _ (by go_simp) (by go_simp)).mono ?_
  rintro e w1 ⟨q, rfl, hq, hB1⟩
  have hB2 : Below w.heap.size w w1 := (((Below.refl _ w).alloc (Nat.le_refl _) _).alloc (by simp) _ |>.alloc (by simp; omega) _).trans (hB1.mono (by simp; omega))
  have X1 := (((Box.new w [.int .i64 a, .int .i64 b] 23).alloc _).alloc _).later hB1
  have X2 := ((Box.newAt (n := w.heap.size + 1) [.int .i64 0, .int .i64 0] 23 (by simp)).alloc _).later hB1
  clear hB1
  obtain ⟨⟨c1, c1'⟩, f1, f1'⟩ := X1.two
  obtain ⟨⟨c2, c2'⟩, f2, f2'⟩ := X2.two
  cases q
  · go_wp2
    refine bodyPost_ret (v := .tuple #[rng 0 0, .int .i64 130]) (by simp [results, Try.results23, go_sem, c2, c2']) rfl ⟨0, 0, 130, rfl, ?_, by repeat (first | assumption | refine Below.setCell ?_ (by simp <;> omega) _)⟩
    have h := hq.out
    simp [Hid, rootT, h]
  · obtain ⟨b1, b2, b3⟩ := okR_bd hq.out
    by_cases h0 : a < 0
    · go_wp2
      refine bodyPost_ret (v := .tuple #[rng 0 0, .int .i64 1]) (by simp [results, Try.results23, go_sem, c2, c2']) rfl ⟨0, 0, 1, rfl, ?_, by repeat (first | assumption | refine Below.setCell ?_ (by simp <;> omega) _)⟩
      have h := hq.out
      simp [Hid, rootT, h, h0]
    · go_wp2_with fail
      have h0' : 0 ≤ a := by omega
      have hx := sqrtI_bd h0' (show a ≤ 1099511627776 by omega)
      obtain ⟨hx0, hx1⟩ := hx
      have hy := sqrtI_bd (show 0 ≤ b by omega) b3
      obtain ⟨hy0, hy1⟩ := hy
      obtain ⟨ra, hra⟩ : ∃ ra, sqrtI a = ra := ⟨_, rfl⟩
      obtain ⟨rb, hrb⟩ : ∃ rb, sqrtI b = rb := ⟨_, rfl⟩
      rw [hra] at hx0 hx1
      rw [hrb] at hy0 hy1
      have Hra := Lib.hid hra
      have Hrb := Lib.hid hrb
      clear hra hrb
      have hz := sq_bd hy0 (show rb ≤ 1048577 by omega)
      obtain ⟨hz0, hz1⟩ := hz
      go_still_tail 6, (by kernel_rfl)
      still_call (root_at a ra _ ⟨h0', by omega⟩ Hra.out)
      repeat still_step
      still_call (root_at b rb _ ⟨by omega, by omega⟩ Hrb.out)
      repeat still_step
      refine wpStill_nil ?_
      change wpList _ _ _ _ _ w1.drew
      have X2' := X2.drew
      have X1' := X1.drew
      have hB3 := hB2.drew
      generalize w1.drew = w2 at *
      clear c1 c1' f1 f1' c2 c2' f2 f2' X1 X2 hB2
      obtain ⟨⟨c1, c1'⟩, f1, f1'⟩ := X1'.two
      obtain ⟨⟨c2, c2'⟩, f2, f2'⟩ := X2'.two
      go_upto_region 6 with (fail)
      have Y1 := (X1'.other (a := ⟨w.heap.size + 1, 0, none⟩) (by simp) (.int .i64 ra)).other (a := ⟨w.heap.size + 1, 1, none⟩) (by simp) (.int .i64 rb)
      have Y2 := (X2'.set 0 (.int .i64 ra)).set 1 (.int .i64 rb)
      have hB4 := (hB3.setCell (p := ⟨w.heap.size + 1, 0, none⟩) (by simp) (.int .i64 ra)).setCell (p := ⟨w.heap.size + 1, 1, none⟩) (by simp) (.int .i64 rb)
      clear c1 c1' f1 f1' c2 c2' f2 f2' X1' X2' hB3
      generalize (w2.setCell ⟨w.heap.size + 1, 0, none⟩ (.int .i64 ra)).setCell ⟨w.heap.size + 1, 1, none⟩ (.int .i64 rb) = w3 at *
      obtain ⟨⟨c1, c1'⟩, f1, f1'⟩ := Y1.two
      obtain ⟨⟨c2, c2'⟩, f2, f2'⟩ := Y2.two
      go_wp2
      · refine bodyPost_ret (v := .tuple #[rng ra (rb + 1), .int .i64 0]) (by simp [results, Try.results23, go_sem, c2, c2']) rfl ⟨_, _, 0, rfl, ?_, by repeat (first | assumption | refine Below.setCell ?_ (by simp <;> omega) _)⟩
        exact root_up hq.out Hra.out Hrb.out h0' (by assumption)
      · refine bodyPost_ret (v := .tuple #[rng ra rb, .int .i64 0]) (by simp [results, Try.results23, go_sem, c2, c2']) rfl ⟨_, _, 0, rfl, ?_, by repeat (first | assumption | refine Below.setCell ?_ (by simp <;> omega) _)⟩
        exact root_eq hq.out Hra.out Hrb.out h0' (by assumption)

theorem rroot_at (n r : Int) (w : World) (h : 0 ≤ n ∧ n ≤ 1099511627776) (hr : sqrtI n = r) : Calls Try.prog 43 #[.int .i64 n] w fun e w' => e = .returned (.int .i64 r) ∧ w = w' :=
  (rroot_any n w h).mono fun _ _ ⟨_, he, hr', hw⟩ => ⟨by rw [he, ← hr'.out, hr], hw⟩

set_option maxHeartbeats 1000000 in
theorem rRoot_any (a b : Int) (w : World) : Calls Try.prog 24 #[rng a b] w (Ret (rootT a b) w) := by
  go_enter Try.func24, Try.ntmps24
  go_wp2_with fail
  refine (Valid_any a b _).mono ?_
  rintro e w1 ⟨q, rfl, hq, hB1⟩
  have hB2 : Below w.heap.size w w1 := (((Below.refl _ w).alloc (Nat.le_refl _) _).alloc (by simp) _).trans (hB1.mono (by simp; omega))
  have X1 := ((Box.new w [.int .i64 a, .int .i64 b] 23).alloc _).later hB1
  have X2 := (Box.newAt (n := w.heap.size + 1) [.int .i64 0, .int .i64 0] 23 (by simp)).later hB1
  clear hB1
  obtain ⟨⟨c1, c1'⟩, f1, f1'⟩ := X1.two
  obtain ⟨⟨c2, c2'⟩, f2, f2'⟩ := X2.two
  cases q
  · go_wp2
    refine bodyPost_ret (v := .tuple #[rng 0 0, .int .i64 130]) (by simp [results, Try.results24, go_sem, c2, c2']) rfl ⟨0, 0, 130, rfl, ?_, by repeat (first | assumption | refine Below.setCell ?_ (by simp <;> omega) _)⟩
    have h := hq.out
    simp [Hid, rootT, h]
  · obtain ⟨b1, b2, b3⟩ := okR_bd hq.out
    by_cases h0 : a < 0
    · go_wp2
      refine bodyPost_ret (v := .tuple #[rng 0 0, .int .i64 1]) (by simp [results, Try.results24, go_sem, c2, c2']) rfl ⟨0, 0, 1, rfl, ?_, by repeat (first | assumption | refine Below.setCell ?_ (by simp <;> omega) _)⟩
      have h := hq.out
      simp [Hid, rootT, h, h0]
    · have h0' : 0 ≤ a := by omega
      have hx := sqrtI_bd h0' (show a ≤ 1099511627776 by omega)
      obtain ⟨hx0, hx1⟩ := hx
      have hy := sqrtI_bd (show 0 ≤ b by omega) b3
      obtain ⟨hy0, hy1⟩ := hy
      obtain ⟨ra, hra⟩ : ∃ ra, sqrtI a = ra := ⟨_, rfl⟩
      obtain ⟨rb, hrb⟩ : ∃ rb, sqrtI b = rb := ⟨_, rfl⟩
      rw [hra] at hx0 hx1
      rw [hrb] at hy0 hy1
      have Hra := Lib.hid hra
      have Hrb := Lib.hid hrb
      clear hra hrb
      have hz := sq_bd hy0 (show rb ≤ 1048577 by omega)
      obtain ⟨hz0, hz1⟩ := hz
      go_wp2_with fail
      refine (rroot_at b rb _ ⟨by omega, b3⟩ Hrb.out).mono ?_
      rintro e w' ⟨rfl, rfl⟩
      by_cases h1 : rb * rb < b
      all_goals
        go_wp2_with fail
        refine (rroot_at a ra _ ⟨h0', by omega⟩ Hra.out).mono ?_
        rintro e w' ⟨rfl, rfl⟩
        go_wp2
      · refine bodyPost_ret (v := .tuple #[rng ra (rb + 1), .int .i64 0]) (by simp [results, Try.results24, go_sem, c2, c2']) rfl ⟨_, _, 0, rfl, ?_, by repeat (first | assumption | refine Below.setCell ?_ (by simp <;> omega) _)⟩
        exact root_up hq.out Hra.out Hrb.out h0' (by omega)
      · refine bodyPost_ret (v := .tuple #[rng ra rb, .int .i64 0]) (by simp [results, Try.results24, go_sem, c2, c2']) rfl ⟨_, _, 0, rfl, ?_, by repeat (first | assumption | refine Below.setCell ?_ (by simp <;> omega) _)⟩
        exact root_eq hq.out Hra.out Hrb.out h0' (by omega)

end Go.Proofs.Ytmjbcmicjhgciaa
