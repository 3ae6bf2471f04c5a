/-
  Contract of Mul of the reference of chapter 13. No condition.
-/
import Derived.Test.YtmjbcmicjhgciaaD
import Derived.Test.YtmjbcmicjhgciaaL
namespace Go.Proofs.Ytmjbcmicjhgciaa
open Go.RowKit

set_option maxHeartbeats 1000000 in
theorem rMul_any (a b c d : Int) (w : World) : Calls Try.prog 18 #[rng a b, rng c d] w (Ret (mulT a b c d) w) := by
  go_enter Try.func18, Try.ntmps18
  go_wp2_with fail
  refine (Valid_any a b _).mono ?_
  rintro e w1 ⟨q, rfl, hq, hB1⟩
  have hB2 : Below w.heap.size w w1 := (((Below.refl _ w).alloc (Nat.le_refl _) _).alloc (by simp) _ |>.alloc (by simp; omega) _).trans (hB1.mono (by simp; omega))
  have X2 := ((Box.new w [.int .i64 a, .int .i64 b] 23).alloc _ |>.alloc _).later hB1
  have X3 := ((Box.newAt (n := w.heap.size + 1) [.int .i64 c, .int .i64 d] 23 (by simp)).alloc _).later hB1
  have X4 := (Box.newAt (n := w.heap.size + 1 + 1) [.int .i64 0, .int .i64 0] 23 (by simp)).later hB1
  clear hB1
  obtain ⟨⟨c4, c4'⟩, f4, f4'⟩ := X4.two
  cases q
  · go_wp2
    refine bodyPost_ret (v := .tuple #[rng 0 0, .int .i64 130]) (by simp [results, Try.results18, go_sem, c4, c4']) rfl ⟨0, 0, 130, rfl, ?_, by repeat (first | assumption | refine Below.setCell ?_ (by simp <;> omega) _)⟩
    have h := hq.out
    simp [Hid, mulT, h]
  · obtain ⟨b1, b2, b3⟩ := okR_bd hq.out
    obtain ⟨⟨c3, c3'⟩, _, _⟩ := X3.two
    go_wp2_with fail
    clear c3 c3' c4 c4' f4 f4'
    refine (Valid_any c d _).mono ?_
    rintro e w2 ⟨q2, rfl, hq2, hB3⟩
    have hB4 := hB2.trans (hB3.mono hB2.size)
    have X2 := X2.later hB3
    have X3 := X3.later hB3
    have X4 := X4.later hB3
    clear hB2 hB3
    obtain ⟨⟨c2, c2'⟩, _, _⟩ := X2.two
    obtain ⟨⟨c3, c3'⟩, _, _⟩ := X3.two
    obtain ⟨⟨c4, c4'⟩, f4, f4'⟩ := X4.two
    cases q2
    · go_wp2
      refine bodyPost_ret (v := .tuple #[rng 0 0, .int .i64 130]) (by simp [results, Try.results18, go_sem, c4, c4']) rfl ⟨0, 0, 130, rfl, ?_, by repeat (first | assumption | refine Below.setCell ?_ (by simp <;> omega) _)⟩
      have h := hq2.out
      simp [Hid, mulT, h]
    · obtain ⟨b4, b5, b6⟩ := okR_bd hq2.out
      go_wp2_with fail
      refine (Fits_any a c _ (by omega) (by omega)).mono ?_
      rintro e w3 ⟨q3, rfl, hq3, hB⟩
      have hC3 := hB4.trans (hB.mono hB4.size)
      have X2 := X2.later hB
      have X3 := X3.later hB
      have X4 := X4.later hB
      clear hB c2 c2' c3 c3' c4 c4' f4 f4'
      obtain ⟨⟨c2, c2'⟩, _, _⟩ := X2.two
      obtain ⟨⟨c3, c3'⟩, _, _⟩ := X3.two
      obtain ⟨⟨c4, c4'⟩, f4, f4'⟩ := X4.two
      cases q3
      · go_wp2
        refine bodyPost_ret (v := .tuple #[rng 0 0, .int .i64 2]) (by simp [results, Try.results18, go_sem, c4, c4']) rfl ⟨0, 0, 2, rfl, ?_, by repeat (first | assumption | refine Below.setCell ?_ (by simp <;> omega) _)⟩
        exact mul_no (by rw [hq.out, hq2.out]; rfl) (by simp [fit4, hq3.out])
      have B3 := fitB_bd hq3.out
      go_wp2_with fail
      refine (Fits_any a d _ (by omega) (by omega)).mono ?_
      rintro e w4 ⟨q4, rfl, hq4, hB⟩
      have hC4 := hC3.trans (hB.mono hC3.size)
      have X2 := X2.later hB
      have X3 := X3.later hB
      have X4 := X4.later hB
      clear hB c2 c2' c3 c3' c4 c4' f4 f4'
      obtain ⟨⟨c2, c2'⟩, _, _⟩ := X2.two
      obtain ⟨⟨c3, c3'⟩, _, _⟩ := X3.two
      obtain ⟨⟨c4, c4'⟩, f4, f4'⟩ := X4.two
      cases q4
      · go_wp2
        refine bodyPost_ret (v := .tuple #[rng 0 0, .int .i64 2]) (by simp [results, Try.results18, go_sem, c4, c4']) rfl ⟨0, 0, 2, rfl, ?_, by repeat (first | assumption | refine Below.setCell ?_ (by simp <;> omega) _)⟩
        exact mul_no (by rw [hq.out, hq2.out]; rfl) (by simp [fit4, hq4.out])
      have B4 := fitB_bd hq4.out
      go_wp2_with fail
      refine (Fits_any b c _ (by omega) (by omega)).mono ?_
      rintro e w5 ⟨q5, rfl, hq5, hB⟩
      have hC5 := hC4.trans (hB.mono hC4.size)
      have X2 := X2.later hB
      have X3 := X3.later hB
      have X4 := X4.later hB
      clear hB c2 c2' c3 c3' c4 c4' f4 f4'
      obtain ⟨⟨c2, c2'⟩, _, _⟩ := X2.two
      obtain ⟨⟨c3, c3'⟩, _, _⟩ := X3.two
      obtain ⟨⟨c4, c4'⟩, f4, f4'⟩ := X4.two
      cases q5
      · go_wp2
        refine bodyPost_ret (v := .tuple #[rng 0 0, .int .i64 2]) (by simp [results, Try.results18, go_sem, c4, c4']) rfl ⟨0, 0, 2, rfl, ?_, by repeat (first | assumption | refine Below.setCell ?_ (by simp <;> omega) _)⟩
        exact mul_no (by rw [hq.out, hq2.out]; rfl) (by simp [fit4, hq5.out])
      have B5 := fitB_bd hq5.out
      go_wp2_with fail
      refine (Fits_any b d _ (by omega) (by omega)).mono ?_
      rintro e w6 ⟨q6, rfl, hq6, hB⟩
      have hC6 := hC5.trans (hB.mono hC5.size)
      have X2 := X2.later hB
      have X3 := X3.later hB
      have X4 := X4.later hB
      clear hB c2 c2' c3 c3' c4 c4' f4 f4'
      obtain ⟨⟨c2, c2'⟩, _, _⟩ := X2.two
      obtain ⟨⟨c3, c3'⟩, _, _⟩ := X3.two
      obtain ⟨⟨c4, c4'⟩, f4, f4'⟩ := X4.two
      cases q6
      · go_wp2
        refine bodyPost_ret (v := .tuple #[rng 0 0, .int .i64 2]) (by simp [results, Try.results18, go_sem, c4, c4']) rfl ⟨0, 0, 2, rfl, ?_, by repeat (first | assumption | refine Below.setCell ?_ (by simp <;> omega) _)⟩
        exact mul_no (by rw [hq.out, hq2.out]; rfl) (by simp [fit4, hq6.out])
      have B6 := fitB_bd hq6.out
      obtain ⟨l3, u3⟩ := B3
      obtain ⟨l4, u4⟩ := B4
      obtain ⟨l5, u5⟩ := B5
      obtain ⟨l6, u6⟩ := B6
      go_wp2
      refine bodyPost_ret (v := .tuple #[rng (min (min (min (a * c) (a * d)) (b * c)) (b * d)) (max (max (max (a * c) (a * d)) (b * c)) (b * d)), .int .i64 0]) (by simp [results, Try.results18, go_sem, c4, c4']) rfl ⟨_, _, 0, rfl, ?_, by repeat (first | assumption | refine Below.setCell ?_ (by simp <;> omega) _)⟩
      exact mul_yes (by rw [hq.out, hq2.out]; rfl) (by simp [fit4, hq3.out, hq4.out, hq5.out, hq6.out])

end Go.Proofs.Ytmjbcmicjhgciaa
