/-
  Contracts of Square of package interval and of the reference. No condition.
-/
import Derived.Test.YtmjbcmicjhgciaaP
import Derived.Test.YtmjbcmicjhgciaaE
import Derived.Test.YtmjbcmicjhgciaaQ
import Derived.Deep.CutBlock
namespace Go.Proofs.Ytmjbcmicjhgciaa
open Go.RowKit

theorem sq_facts {a b : Int} (hok : okR a b = true) (hf : fit4 a b a b = true) :
    0 ≤ lstT a b ∧ lstT a b ≤ 1048576 ∧ 0 ≤ lstT a b * lstT a b ∧ lstT a b * lstT a b ≤ 1099511627776 ∧ (a * a ≤ 1099511627776 ∧ 0 ≤ a * a) ∧ b * b ≤ 1099511627776 ∧ 0 ≤ b * b := by
  have h1 : fitB a a = true ∧ fitB a b = true ∧ fitB b a = true ∧ fitB b b = true := by simpa [fit4, and_assoc] using hf
  obtain ⟨h1, _, _, h4⟩ := h1
  have h1 := fitB_bd h1
  have h4 := fitB_bd h4
  obtain ⟨o1, o2, o3⟩ := okR_bd hok
  have e : lstT a b = a ∨ lstT a b = -b ∨ lstT a b = 0 := by unfold lstT; omega
  have e0 : 0 ≤ lstT a b := by unfold lstT; omega
  have e3 : lstT a b * lstT a b ≤ 1099511627776 := by
    rcases e with e | e | e
    · rw [e]; omega
    · rw [e, Int.neg_mul_neg]; omega
    · rw [e]; omega
  refine ⟨e0, ?_, sq_nonneg _, e3, ⟨h1.2, sq_nonneg a⟩, h4.2, sq_nonneg b⟩
  rcases Int.lt_or_le 1048576 (lstT a b) with h | h
  · have := sq_le (show (0 : Int) ≤ 1048577 by omega) (show 1048577 ≤ lstT a b by omega); omega
  · exact h

set_option maxHeartbeats 1000000 in
theorem Square_any (a b : Int) (w : World) : Calls Try.prog 21 #[rng a b] w (Ret (sqT a b) w) := by
  go_enter Try.func21, Try.ntmps21
  go_wp2_with fail
  refine (Mul_any a b a b _).mono ?_
  rintro e w1 ⟨lo, hi, er, rfl, hq, hB1⟩
  have hB2 : Below w.heap.size w w1 := (((Below.refl _ w).alloc (Nat.le_refl _) _).alloc (by simp) _).trans (hB1.mono (by simp; omega))
  have X1 := ((Box.new w [.int .i64 a, .int .i64 b] 23).alloc _).later hB1
  have X2 := (Box.newAt (n := w.heap.size + 1) [.int .i64 0, .int .i64 0] 23 (by simp)).later hB1
  clear hB1
  obtain ⟨⟨c1, c1'⟩, f1, f1'⟩ := X1.two
  obtain ⟨⟨c2, c2'⟩, f2, f2'⟩ := X2.two
  rcases hok : okR a b with _ | _
  · have h := hq.out
    simp only [mulT, hok] at h
    have h' : (0, 0, (130 : Int)) = (lo, hi, er) := h
    simp only [Prod.mk.injEq] at h'
    obtain ⟨rfl, rfl, rfl⟩ := h'
    have Hok := Lib.hid hok
    clear hok h
    go_wp2
    have Y := ((X2.set 0 (.int .i64 0)).set 1 (.int .i64 0)).set 0 (.int .i64 0) |>.set 1 (.int .i64 0)
    obtain ⟨⟨y0, y1⟩, _, _⟩ := Y.two
    refine bodyPost_ret (v := .tuple #[rng 0 0, .int .i64 130]) (by simp [results, Try.results21, go_sem, y0, y1]) rfl ⟨0, 0, 130, rfl, ?_, by repeat (first | assumption | refine Below.setCell ?_ (by simp <;> omega) _)⟩
    simp [Hid, sqT, Hok.out]
  · rcases hf : fit4 a b a b with _ | _
    · have h := (mul_no (by rw [hok]; rfl) hf).symm.trans hq.out
      simp only [Prod.mk.injEq] at h
      obtain ⟨rfl, rfl, rfl⟩ := h
      have Hok := Lib.hid hok
      have Hf := Lib.hid hf
      clear hok hf
      go_wp2
      have Y := ((X2.set 0 (.int .i64 0)).set 1 (.int .i64 0)).set 0 (.int .i64 0) |>.set 1 (.int .i64 0)
      obtain ⟨⟨y0, y1⟩, _, _⟩ := Y.two
      refine bodyPost_ret (v := .tuple #[rng 0 0, .int .i64 2]) (by simp [results, Try.results21, go_sem, y0, y1]) rfl ⟨0, 0, 2, rfl, ?_, by repeat (first | assumption | refine Below.setCell ?_ (by simp <;> omega) _)⟩
      simp [Hid, sqT, Hok.out, Hf.out]
    · have h := (mul_yes (by rw [hok]; rfl) hf).symm.trans hq.out
      simp only [Prod.mk.injEq] at h
      obtain ⟨-, -, rfl⟩ := h
      obtain ⟨o1, o2, o3⟩ := okR_bd hok
      obtain ⟨s1, s2, s3, s4, _⟩ := sq_facts hok hf
      have hr : Hid (sqT a b = (lstT a b * lstT a b, hi, 0)) := by
        have h := hq.out
        simp [Hid, sqT, hok, hf, h]
      have Hl := Lib.hid (show lstT a b = max a (max (-b) 0) from rfl)
      unfold lstT at s1 s2 s3 s4
      clear hok hf
      go_upto_region 4 with (fail)
      have Y1 := (X1.other (a := ⟨w.heap.size + 1, 0, none⟩) (by simp) (.int .i64 lo)).other (a := ⟨w.heap.size + 1, 1, none⟩) (by simp) (.int .i64 hi)
      have Y2 := (X2.set 0 (.int .i64 lo)).set 1 (.int .i64 hi)
      have hB4 := (hB2.setCell (p := ⟨w.heap.size + 1, 0, none⟩) (by simp) (.int .i64 lo)).setCell (p := ⟨w.heap.size + 1, 1, none⟩) (by simp) (.int .i64 hi)
      clear c1 c1' f1 f1' c2 c2' f2 f2' X1 X2 hB2
      generalize (w1.setCell ⟨w.heap.size + 1, 0, none⟩ (.int .i64 lo)).setCell ⟨w.heap.size + 1, 1, none⟩ (.int .i64 hi) = w3 at *
      obtain ⟨⟨c1, c1'⟩, f1, f1'⟩ := Y1.two
      obtain ⟨⟨c2, c2'⟩, f2, f2'⟩ := Y2.two
      go_wp2
      refine bodyPost_ret (v := .tuple #[rng (max a (max (-b) 0) * max a (max (-b) 0)) hi, .int .i64 0]) (by simp [results, Try.results21, go_sem, c2, c2']) rfl ⟨_, _, 0, rfl, ?_, by repeat (first | assumption | refine Below.setCell ?_ (by simp <;> omega) _)⟩
      rw [← Hl.out]
      exact hr


set_option maxHeartbeats 1000000 in
theorem rSquare_any (a b : Int) (w : World) : Calls Try.prog 22 #[rng a b] w (Ret (sqT a b) w) := by
  go_enter Try.func22, Try.ntmps22
  go_wp2_with fail
  refine (rMul_any a b a b _).mono ?_
  rintro e w1 ⟨lo, hi, er, rfl, hq, hB1⟩
  have hB2 : Below w.heap.size w w1 := (((Below.refl _ w).alloc (Nat.le_refl _) _).alloc (by simp) _).trans (hB1.mono (by simp; omega))
  have X1 := ((Box.new w [.int .i64 a, .int .i64 b] 23).alloc _).later hB1
  have X2 := (Box.newAt (n := w.heap.size + 1) [.int .i64 0, .int .i64 0] 23 (by simp)).later hB1
  clear hB1
  obtain ⟨⟨c1, c1'⟩, f1, f1'⟩ := X1.two
  obtain ⟨⟨c2, c2'⟩, f2, f2'⟩ := X2.two
  have z1 := X1.lt
  have z2 := X2.lt
  rcases hok : okR a b with _ | _
  · have h := hq.out
    simp only [mulT, hok] at h
    have h' : (0, 0, (130 : Int)) = (lo, hi, er) := h
    simp only [Prod.mk.injEq] at h'
    obtain ⟨rfl, rfl, rfl⟩ := h'
    have Hok := Lib.hid hok
    clear hok h
    go_wp2
    refine bodyPost_ret (v := .tuple #[rng 0 0, .int .i64 130]) (by simp [results, Try.results22, go_sem, c2, c2', z2]) rfl ⟨0, 0, 130, rfl, ?_, by repeat (first | assumption | refine Below.setCell ?_ (by simp <;> omega) _ | refine Below.alloc ?_ (by simp; have := hB2.size; omega) _)⟩
    simp [Hid, sqT, Hok.out]
  · rcases hf : fit4 a b a b with _ | _
    · have h := (mul_no (by rw [hok]; rfl) hf).symm.trans hq.out
      simp only [Prod.mk.injEq] at h
      obtain ⟨rfl, rfl, rfl⟩ := h
      have Hok := Lib.hid hok
      have Hf := Lib.hid hf
      clear hok hf
      go_wp2
      refine bodyPost_ret (v := .tuple #[rng 0 0, .int .i64 2]) (by simp [results, Try.results22, go_sem, c2, c2', z2]) rfl ⟨0, 0, 2, rfl, ?_, by repeat (first | assumption | refine Below.setCell ?_ (by simp <;> omega) _ | refine Below.alloc ?_ (by simp; have := hB2.size; omega) _)⟩
      simp [Hid, sqT, Hok.out, Hf.out]
    · have h := (mul_yes (by rw [hok]; rfl) hf).symm.trans hq.out
      simp only [Prod.mk.injEq] at h
      obtain ⟨-, -, rfl⟩ := h
      obtain ⟨o1, o2, o3⟩ := okR_bd hok
      obtain ⟨_, _, _, _, ⟨s1, s2⟩, s3, s4⟩ := sq_facts hok hf
      have hr : Hid (sqT a b = (lstT a b * lstT a b, hi, 0)) := by
        have h := hq.out
        simp [Hid, sqT, hok, hf, h]
      clear hok hf
      by_cases h1 : 0 < a
      · have h2 : ¬ b < 0 := by omega
        have e : Hid (lstT a b = a) := by unfold Hid lstT; omega
        go_wp2
        refine bodyPost_ret (v := .tuple #[rng (a * a) hi, .int .i64 0]) (by simp [results, Try.results22, go_sem, c2, c2', z2]) rfl ⟨_, _, 0, rfl, ?_, by repeat (first | assumption | refine Below.setCell ?_ (by simp <;> omega) _ | refine Below.alloc ?_ (by simp; have := hB2.size; omega) _)⟩
        have h := hr.out
        rw [e.out] at h
        exact h
      · by_cases h2 : b < 0
        · have e : Hid (lstT a b = -b) := by unfold Hid lstT; omega
          go_wp2
          refine bodyPost_ret (v := .tuple #[rng (b * b) hi, .int .i64 0]) (by simp [results, Try.results22, go_sem, c2, c2', z2]) rfl ⟨_, _, 0, rfl, ?_, by repeat (first | assumption | refine Below.setCell ?_ (by simp <;> omega) _ | refine Below.alloc ?_ (by simp; have := hB2.size; omega) _)⟩
          have h := hr.out
          rw [e.out, Int.neg_mul_neg] at h
          exact h
        · have e : Hid (lstT a b = 0) := by unfold Hid lstT; omega
          go_wp2
          refine bodyPost_ret (v := .tuple #[rng 0 hi, .int .i64 0]) (by simp [results, Try.results22, go_sem, c2, c2', z2]) rfl ⟨_, _, 0, rfl, ?_, by repeat (first | assumption | refine Below.setCell ?_ (by simp <;> omega) _ | refine Below.alloc ?_ (by simp; have := hB2.size; omega) _)⟩
          have h := hr.out
          rw [e.out] at h
          exact h

end Go.Proofs.Ytmjbcmicjhgciaa
