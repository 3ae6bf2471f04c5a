/-
  Ratios: Check of the implementation and Check of the specification.
-/
import Derived.Test.YtmjbcmicjhgciaaZ
import Derived.StillTailTactics
namespace Go.Proofs.Ytmjbcmicjhgciaa
open Go.RowKit Go.Shelf

theorem rCheck12_any (n d : Int) (w : World) : Calls Try.prog 49 #[rat n d] w fun e w' => ∃ q, e = .returned (.int .i64 q) ∧ Hid (ratC n d = q) ∧ Below w.heap.size w w' := by
  have X : Box (w.alloc (.cells #[.int .i64 n, .int .i64 d] 31)) w.heap.size [.int .i64 n, .int .i64 d] := Box.new w _ 31
  obtain ⟨⟨c0, c1⟩, f0, f1⟩ := X.two
  go_enter Try.func49, Try.ntmps49
  go_wp2_with fail
  refine (rCheckR_any n d _).mono ?_
  rintro e w1 ⟨q, rfl, hq, hB⟩
  have hB2 : Below w.heap.size w w1 := ((Below.refl _ w).alloc (Nat.le_refl _) _).trans (hB.mono (by simp))
  cases q
  · go_wp2
    go_ret
    exact ⟨120, rfl, by simp [Hid, ratC, hq.out], hB2⟩
  · go_wp2
    go_ret
    exact ⟨0, rfl, by simp [Hid, ratC, hq.out], hB2⟩

set_option maxRecDepth 100000 in
set_option maxHeartbeats 1000000 in
theorem ratioCheck_any (n d : Int) (w : World) : Calls Try.prog 44 #[rat n d] w fun e w' => ∃ q, e = .returned (.int .i64 q) ∧ Hid (ratC n d = q) ∧ Below w.heap.size w w' := by
  have X : Box (w.alloc (.cells #[.int .i64 n, .int .i64 d] 31)) w.heap.size [.int .i64 n, .int .i64 d] := Box.new w _ 31
  obtain ⟨⟨c0, c1⟩, f0, f1⟩ := X.two
  have h : Hid (ratB n d = (decide (1 ≤ d) && decide (d ≤ 1073741824) && decide (-1073741824 ≤ n) && decide (n ≤ 1073741824) && decide (Nat.gcd n.natAbs d.natAbs = 1))) := by
    show _ = _
    simp [ratB, Bool.and_assoc]
  rcases h1 : decide (d < 1) with _ | _
  rotate_left
  · have h1' : decide (1 ≤ d) = false := by simp at h1 ⊢; omega
    have H1 := Lib.hid h1'
    clear h1'
    go_enter Try.func44, Try.ntmps44
    go_wp2_with fail
    go_quiet (fail)
    go_wp2
    go_ret
    exact ⟨120, rfl, by rw [Hid, ratC, h.out, H1.out]; simp, by repeat (first | exact Below.refl _ _ | refine Below.drewN ?_ _ | refine Below.setCell ?_ (by simp <;> omega) _ | refine Below.alloc ?_ (by simp <;> omega) _)⟩
  rcases h2 : decide (1073741824 < d) with _ | _
  rotate_left
  · have h1' : decide (d ≤ 1073741824) = false := by simp at h2 ⊢; omega
    have H1 := Lib.hid h1'
    clear h1'
    go_enter Try.func44, Try.ntmps44
    go_wp2_with fail
    go_quiet (fail)
    go_wp2
    go_ret
    exact ⟨120, rfl, by rw [Hid, ratC, h.out, H1.out]; simp, by repeat (first | exact Below.refl _ _ | refine Below.drewN ?_ _ | refine Below.setCell ?_ (by simp <;> omega) _ | refine Below.alloc ?_ (by simp <;> omega) _)⟩
  rcases h3 : decide (n < -1073741824) with _ | _
  rotate_left
  · have h1' : decide (-1073741824 ≤ n) = false := by simp at h3 ⊢; omega
    have H1 := Lib.hid h1'
    clear h1'
    go_enter Try.func44, Try.ntmps44
    go_wp2_with fail
    go_quiet (fail)
    go_wp2
    go_ret
    exact ⟨120, rfl, by rw [Hid, ratC, h.out, H1.out]; simp, by repeat (first | exact Below.refl _ _ | refine Below.drewN ?_ _ | refine Below.setCell ?_ (by simp <;> omega) _ | refine Below.alloc ?_ (by simp <;> omega) _)⟩
  rcases h4 : decide (1073741824 < n) with _ | _
  rotate_left
  · have h1' : decide (n ≤ 1073741824) = false := by simp at h4 ⊢; omega
    have H1 := Lib.hid h1'
    clear h1'
    go_enter Try.func44, Try.ntmps44
    go_wp2_with fail
    go_quiet (fail)
    go_wp2
    go_ret
    exact ⟨120, rfl, by rw [Hid, ratC, h.out, H1.out]; simp, by repeat (first | exact Below.refl _ _ | refine Below.drewN ?_ _ | refine Below.setCell ?_ (by simp <;> omega) _ | refine Below.alloc ?_ (by simp <;> omega) _)⟩
  have k1 := of_decide_eq_false h1
  have k2 := of_decide_eq_false h2
  have k3 := of_decide_eq_false h3
  have k4 := of_decide_eq_false h4
  obtain ⟨m, hm⟩ : ∃ m : Nat, d = (m : Int) := ⟨d.toNat, by omega⟩
  subst hm
  have C1 : ∀ w, Calls Try.prog 54 #[.int .i64 n] w fun e w' => e = .returned (.int .u64 (n.natAbs : Int)) ∧ w' = w := fun w => (magnitude_any n w ⟨by omega, by omega⟩).mono fun e w' ⟨m, h1, h2, h3⟩ => ⟨by rw [h1, h2.out], h3.symm⟩
  have C2 := fun w => divisor_any n.natAbs m w (by omega) (by omega)
  have hwr : IntKind.u64.wrap (m : Int) = (m : Int) := by rw [IntKind.wrap_u64]; omega
  have hh : Hid (ratB n (m : Int) = decide (((Nat.gcd n.natAbs m : Nat) : Int) = 1)) := by
    show _ = _
    have e1 : decide (1 ≤ (m : Int)) = true := by simp; omega
    have e2 : decide ((m : Int) ≤ 1073741824) = true := by simp; omega
    have e3 : decide (-1073741824 ≤ n) = true := by simp; omega
    have e4 : decide (n ≤ 1073741824) = true := by simp; omega
    rw [h.out, e1, e2, e3, e4]
    simp
    omega
  clear k1 k2 k3 k4
  go_enter Try.func44, Try.ntmps44
  go_wp2_with fail
  have hB0 : Below w.heap.size w (w.alloc (.cells #[.int .i64 n, .int .i64 (m : Int)] 31)) := (Below.refl _ w).alloc (Nat.le_refl _) _
  generalize w.alloc (.cells #[.int .i64 n, .int .i64 (m : Int)] 31) = W at *
  have d0 : ({ heap := W.heap, tape := W.tape, drawn := W.drawn + 1, os := W.os, output := W.output } : World).cell? ⟨w.heap.size, 0, none⟩ = some (.int .i64 n) := c0
  have d1 : ({ heap := W.heap, tape := W.tape, drawn := W.drawn + 1, os := W.os, output := W.output } : World).cell? ⟨w.heap.size, 1, none⟩ = some (.int .i64 (m : Int)) := c1
  go_still_tail 25, (by kernel_rfl)
  still_call (C1 _)
  repeat still_step
  refine wpStill_nil ?_
  change wpList _ _ _ _ _ W.drew
  have hB1 := hB0.drew
  generalize W.drew = W1 at *
  go_wp2_with fail
  refine (C2 _).mono ?_
  rintro e w2 ⟨g, rfl, hg, hB2⟩
  have hB3 := hB1.trans (hB2.mono hB1.size)
  rcases hb : ((g : Int) != 1) with _ | _
  · go_wp2
    go_ret
    refine ⟨0, rfl, ?_, hB3⟩
    have : g = 1 := by simp at hb; omega
    simp [Hid, ratC, hh.out, ← hg.out, this]
  · go_wp2
    go_ret
    refine ⟨120, rfl, ?_, hB3⟩
    have : g ≠ 1 := by simp at hb; omega
    rw [Hid, ratC, hh.out, ← hg.out]
    simp; omega

end Go.Proofs.Ytmjbcmicjhgciaa
