/-
  Scale: the closure 'around'.
-/
import Derived.Test.YtmjbcmicjhgciaaZB
import Derived.Test.YtmjbcmicjhgciaaU
import Derived.Deep.QuietTactic
import Derived.BigQuiet
namespace Go.Proofs.Ytmjbcmicjhgciaa
open Go.RowKit

theorem results_tmp3 {P : Program} {w : World} {fn : Func} {t u s : Tmp} (h : fn.results = #[.tmp t, .tmp u, .tmp s]) (tmps : Array Value) :
    (results fn tmps).run P w = .ok (.tuple #[tmps.getD t undef, tmps.getD u undef, tmps.getD s undef]) w := by
  simp [results, h]

set_option maxRecDepth 100000 in
set_option maxHeartbeats 2000000 in
theorem around_any (x n : Int) (D : Nat) (R : Nat) (w : World) (hX : Box w R [.int .i64 n, .int .i64 (D : Int)]) (hD : 1 ≤ D ∧ D ≤ 1073741824) (hn : -1073741824 ≤ n ∧ n ≤ 1073741824) (hx : -1099511627776 ≤ x ∧ x ≤ 1099511627776) :
    Calls Try.prog 45 #[.int .i64 x, .pointer (some ⟨R, 0, none⟩)] w fun e w' => ∃ (lo hi : Int) (ok : Bool), e = .returned (.tuple #[.int .i64 lo, .int .i64 hi, .bool ok]) ∧ Hid (aroundP x n D lo hi ok) ∧ ∃ k, w' = w.drewN k := by
  obtain ⟨⟨c0, c1⟩, f0, f1⟩ := hX.two
  obtain ⟨m, hm⟩ : ∃ m : Nat, m = x.natAbs := ⟨_, rfl⟩
  obtain ⟨k, hk⟩ : ∃ k : Nat, k = n.natAbs := ⟨_, rfl⟩
  obtain ⟨hi, hhi⟩ : ∃ h : Nat, h = m * k / 18446744073709551616 := ⟨_, rfl⟩
  obtain ⟨lo, hlo⟩ : ∃ h : Nat, h = m * k % 18446744073709551616 := ⟨_, rfl⟩
  have C1 : ∀ w, Calls Try.prog 47 #[.int .i64 x] w fun e w' => e = .returned (.int .u64 (m : Int)) ∧ w' = w := fun w => (size_any x w ⟨by omega, by omega⟩).mono fun e w' ⟨m', h1, h2, h3⟩ => ⟨by rw [h1, h2.out, hm], h3.symm⟩
  have C2 : ∀ w, Calls Try.prog 47 #[.int .i64 n] w fun e w' => e = .returned (.int .u64 (k : Int)) ∧ w' = w := fun w => (size_any n w ⟨by omega, by omega⟩).mono fun e w' ⟨m', h1, h2, h3⟩ => ⟨by rw [h1, h2.out, hk], h3.symm⟩
  have C3 : ∀ w, Calls Try.prog 46 #[.int .u64 m, .int .u64 k] w fun e w' => e = .returned (.tuple #[.int .u64 (hi : Int), .int .u64 (lo : Int)]) ∧ w' = w := fun w => (Mul64_any m k (by omega) (by omega) w).mono fun e w' ⟨h1, h3⟩ => ⟨by rw [h1, hhi, hlo], h3⟩
  have hlo1 : lo < 18446744073709551616 := by rw [hlo]; exact Nat.mod_lt _ (by omega)
  have hsum : hi * 18446744073709551616 + lo = m * k := by rw [hhi, hlo]; exact Nat.div_add_mod' _ _
  have Hm := Lib.hid hm
  have Hk := Lib.hid hk
  have Hx := Lib.hid hx
  have Hn := Lib.hid hn
  have HL := Lib.hid hlo1
  have Hs := Lib.hid hsum
  have hwr : IntKind.u64.wrap (D : Int) = (D : Int) := by rw [IntKind.wrap_u64]; omega
  have hD' := Lib.hid hD
  clear hm hk hhi hlo hx hn hlo1 hsum hD
  go_enter Try.func45, Try.ntmps45
  go_wp2_with fail
  go_quiet (first | (go_at_call 46; exact Calls.quiet_of_same (C3 _)) | (go_at_call 47; first | exact Calls.quiet_of_same (C1 _) | exact Calls.quiet_of_same (C2 _)))
  by_cases hle : D ≤ hi
  · go_wp2
    refine bodyPost_ret (results_tmp3 Try.results45 _) rfl ?_
    refine ⟨0, 0, false, rfl, around_far Hm.out Hk.out (by have := Hs.out; have := HL.out; omega), _, rfl⟩
  · have CD := fun w => Div64_any hi lo D w hD'.out.1 (by have := hD'.out; omega) (by omega) HL.out
    go_wp2_with fail
    refine (CD _).mono ?_
    rintro e w1 ⟨q, r, rfl, hqr, k1, rfl⟩
    have hqr1 : Hid (q = m * k / D ∧ r = m * k % D) := by have h := hqr.out; rw [Hs.out] at h; exact h
    clear hqr CD C1 C2 C3
    have hle' : ¬ ((D : Int) ≤ (hi : Int)) := by omega
    by_cases hq : 1099511627776 < q
    · go_wp2
      refine bodyPost_ret (results_tmp3 Try.results45 _) rfl ?_
      refine ⟨0, 0, false, rfl, around_far Hm.out Hk.out ?_, _, rfl⟩
      have h1 := hqr1.out.1
      have h2 : 1099511627777 ≤ m * k / D := by omega
      exact (Nat.le_div_iff_mul_le hD'.out.1).1 h2
    · have hwq : IntKind.i64.wrap (q : Int) = (q : Int) := by rw [IntKind.wrap_i64]; omega
      by_cases hr : 0 < r
      all_goals rcases hs1 : decide (x < 0) with _ | _
      all_goals rcases hs2 : decide (n < 0) with _ | _
      all_goals go_wp2
      all_goals refine bodyPost_ret (results_tmp3 Try.results45 _) rfl ?_
      · exact ⟨_, _, true, rfl, around_law hD'.out.1 Hm.out Hk.out hqr1.out.1 hqr1.out.2 1 (by rw [if_pos hr]) (by rw [hs1, hs2]; rfl) (by rw [hs1, hs2]; rfl), _, rfl⟩
      · exact ⟨_, _, true, rfl, around_law hD'.out.1 Hm.out Hk.out hqr1.out.1 hqr1.out.2 1 (by rw [if_pos hr]) (by rw [hs1, hs2]; rfl) (by rw [hs1, hs2]; rfl), _, rfl⟩
      · exact ⟨_, _, true, rfl, around_law hD'.out.1 Hm.out Hk.out hqr1.out.1 hqr1.out.2 1 (by rw [if_pos hr]) (by rw [hs1, hs2]; rfl) (by rw [hs1, hs2]; rfl), _, rfl⟩
      · exact ⟨_, _, true, rfl, around_law hD'.out.1 Hm.out Hk.out hqr1.out.1 hqr1.out.2 1 (by rw [if_pos hr]) (by rw [hs1, hs2]; rfl) (by rw [hs1, hs2]; rfl), _, rfl⟩
      · exact ⟨_, _, true, rfl, around_law hD'.out.1 Hm.out Hk.out hqr1.out.1 hqr1.out.2 0 (by rw [if_neg hr]) (by rw [hs1, hs2]; rfl) (by rw [hs1, hs2, Int.add_zero]; rfl), _, rfl⟩
      · exact ⟨_, _, true, rfl, around_law hD'.out.1 Hm.out Hk.out hqr1.out.1 hqr1.out.2 0 (by rw [if_neg hr]) (by rw [hs1, hs2, Int.add_zero]; rfl) (by rw [hs1, hs2]; rfl), _, rfl⟩
      · exact ⟨_, _, true, rfl, around_law hD'.out.1 Hm.out Hk.out hqr1.out.1 hqr1.out.2 0 (by rw [if_neg hr]) (by rw [hs1, hs2, Int.add_zero]; rfl) (by rw [hs1, hs2]; rfl), _, rfl⟩
      · exact ⟨_, _, true, rfl, around_law hD'.out.1 Hm.out Hk.out hqr1.out.1 hqr1.out.2 0 (by rw [if_neg hr]) (by rw [hs1, hs2]; rfl) (by rw [hs1, hs2, Int.add_zero]; rfl), _, rfl⟩

end Go.Proofs.Ytmjbcmicjhgciaa
