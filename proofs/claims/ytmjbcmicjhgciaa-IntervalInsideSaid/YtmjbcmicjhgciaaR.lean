/-
  Contracts of Square, root, Root of package interval and of the reference. No condition.
-/
import Derived.Test.YtmjbcmicjhgciaaP
import Derived.Test.YtmjbcmicjhgciaaE
import Derived.Test.YtmjbcmicjhgciaaQ
namespace Go.Proofs.Ytmjbcmicjhgciaa
open Go.RowKit

set_option maxHeartbeats 400000 in
theorem root_any (n : Int) (w : World) (h : 0 ≤ n ∧ n ≤ 1099511627776) : Calls Try.prog 42 #[.int .i64 n] w fun e w' => ∃ r : Int, e = .returned (.int .i64 r) ∧ Hid (sqrtI n = r) ∧ w = w' := by
  obtain ⟨h0, h1⟩ := h
  go_enter Try.func42, Try.ntmps42
  go_wp2
  go_loop [3] (fun v => ∃ r : Int, v = .int .i64 r ∧ 0 ≤ r ∧ r ≤ 1048576 ∧ n < (r + 1) * (r + 1)) (fun v => (intOf v).toNat)
  case atStart => exact ⟨1048576, rfl, by omega, by omega, by omega⟩
  case round =>
    obtain ⟨r, rfl, r0, r1, r2⟩ := hrel
    have hb := sq_bd r0 (show r ≤ 1048577 by omega)
    obtain ⟨hb0, hb1⟩ := hb
    by_cases hlt : n < r * r
    · have hr : 1 ≤ r := by
        rcases Int.lt_or_le 0 r with e | e
        · omega
        · obtain rfl : r = 0 := by omega
          simp at hlt; omega
      obtain ⟨k0, k1, k2⟩ := newton h0 (show 0 < r by omega) hlt
      have hq0 : 0 ≤ n / r := Int.ediv_nonneg h0 (by omega)
      have hq1 : n / r < r := Int.ediv_lt_of_lt_mul (by omega) hlt
      go_wp2
      go_round
      case rel => exact ⟨_, rfl, k0, by omega, k2⟩
      case measure => simp [intOf]; omega
    · go_wp2
      go_ret
      exact ⟨r, rfl, isRoot_unique (sqrtI_is h0 h1) ⟨r0, by omega, r2⟩, rfl⟩

set_option maxHeartbeats 400000 in
theorem rroot_any (n : Int) (w : World) (h : 0 ≤ n ∧ n ≤ 1099511627776) : Calls Try.prog 43 #[.int .i64 n] w fun e w' => ∃ r : Int, e = .returned (.int .i64 r) ∧ Hid (sqrtI n = r) ∧ w = w' := by
  obtain ⟨h0, h1⟩ := h
  go_enter Try.func43, Try.ntmps43
  go_wp2
  go_loop [3, 4] (fun v u => ∃ (k : Nat) (r b : Int), v = .int .i64 r ∧ u = .int .i64 b ∧ k ≤ 21 ∧ Hid (b = if k = 0 then 0 else ((2 ^ (k - 1) : Nat) : Int)) ∧ 0 ≤ r ∧ r ≤ 1048576 ∧ Hid (rootN n k r = sqrtI n)) (fun _ u => (intOf u).toNat)
  case atStart => exact ⟨21, 0, 1048576, rfl, rfl, by omega, by simp [Hid], by omega, by omega, rfl⟩
  case round =>
    obtain ⟨k, r, b, rfl, rfl, hk, hb, r0, r1, hr⟩ := hrel
    cases k with
    | zero =>
      obtain rfl : b = 0 := hb.out
      go_wp2
      go_ret
      exact ⟨r, rfl, hr.out.symm, rfl⟩
    | succ k =>
      have hb1 : b = ((2 ^ k : Nat) : Int) := hb.out
      have hp : 1 ≤ b ∧ b ≤ 1048576 := by
        have h1 : 0 < 2 ^ k := Nat.two_pow_pos k
        have h2 : 2 ^ k ≤ 2 ^ 20 := Nat.pow_le_pow_right (by omega) (by omega)
        omega
      obtain ⟨p1, p2⟩ := hp
      have hd : b / 2 = if k = 0 then 0 else ((2 ^ (k - 1) : Nat) : Int) := by
        cases k with
        | zero => simp [hb1]
        | succ k => rw [hb1, Nat.pow_succ]; simp
      have Hd := Lib.hid hd
      have Hb := Lib.hid hb1
      clear hd hb1 hb
      have hs : 0 ≤ (r + b) * (r + b) ∧ (r + b) * (r + b) ≤ 4398046511104 := ⟨sq_nonneg _, by have := sq_le (show 0 ≤ r + b by omega) (show r + b ≤ 2097152 by omega); omega⟩
      obtain ⟨s0, s1⟩ := hs
      by_cases hlt : (r + b) * (r + b) ≤ n
      all_goals
        go_wp2
        go_round
        case rel =>
          refine ⟨k, _, _, rfl, rfl, by omega, Hd, by omega, ?_, ?_⟩
          · rcases Int.lt_or_le 1048576 (r + b) with e | e
            · have := sq_le (show (0 : Int) ≤ 1048577 by omega) (show 1048577 ≤ r + b by omega); omega
            · omega
          · have h := hr.out
            unfold rootN at h
            rw [← Hb.out] at h
            first | rwa [if_pos hlt] at h | rwa [if_neg (by omega)] at h
        case measure => simp [intOf]; omega

end Go.Proofs.Ytmjbcmicjhgciaa
