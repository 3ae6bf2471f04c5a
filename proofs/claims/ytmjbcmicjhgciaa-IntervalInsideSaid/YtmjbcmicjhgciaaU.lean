/-
  Contracts of math/bits.Len64 (after the shelf's own proof, at this dump), LeadingZeros64 and Div64, at divisors below 2^32.
-/
import Derived.Lib.BitFns
import Derived.Lib.ItoaNum
import Derived.Lib.Strings
import Derived.Lib.Slices
import Derived.Lib.Small
import Derived.Lib.Walk
import Derived.Test.YtmjbcmicjhgciaaM
import Derived.Test.YtmjbcmicjhgciaaV
import Derived.Test.YtmjbcmicjhgciaaW
import Derived.Deep.CutBlock
import Derived.Deep.QuietTactic
import Derived.BigQuiet
namespace Go.Proofs.Ytmjbcmicjhgciaa
open Go.RowKit

theorem ret_int' {k : IntKind} {a b : Int} (h : a = b) : Ending.returned (.int k a) = .returned (.int k b) := by rw [h]
theorem bitLen_bounds {x : Nat} (h : 1 ≤ x) (h2 : x < 4294967296) : 1 ≤ Lib.bitLen x ∧ Lib.bitLen x ≤ 32 ∧ 2 ^ (Lib.bitLen x - 1) ≤ x ∧ x < 2 ^ Lib.bitLen x := by
  obtain ⟨a, b, c⟩ := Lib.bitLenAux_bounds 64 x (by omega) (by omega)
  exact ⟨a, Lib.bitLen_le x 32 (by omega) (by omega), b, c⟩

set_option maxHeartbeats 400000 in
theorem LZ64_any (x : Nat) (w : World) (h0 : 1 ≤ x) (h1 : x < 4294967296) :
    Calls Try.prog 55 #[.int .u64 (x : Int)] w fun e w' => ∃ s : Nat, e = .returned (.int .i64 (s : Int)) ∧ Hid ((32 ≤ s ∧ s ≤ 63) ∧ 9223372036854775808 ≤ x * 2 ^ s ∧ x * 2 ^ s < 18446744073709551616) ∧ w = w' := by
  obtain ⟨l1, l2, l3, l4⟩ := bitLen_bounds h0 h1
  have e64 : (2 : Nat) ^ 64 = 18446744073709551616 := by decide
  have e63 : (2 : Nat) ^ 63 = 9223372036854775808 := by decide
  have m1 : x * 2 ^ (64 - Lib.bitLen x) < 18446744073709551616 := by
    have := Nat.mul_lt_mul_of_pos_right l4 (Nat.two_pow_pos (64 - Lib.bitLen x))
    rw [← Nat.pow_add, show Lib.bitLen x + (64 - Lib.bitLen x) = 64 by omega, e64] at this; exact this
  have m2 : 9223372036854775808 ≤ x * 2 ^ (64 - Lib.bitLen x) := by
    have := Nat.mul_le_mul_right (2 ^ (64 - Lib.bitLen x)) l3
    rw [← Nat.pow_add, show Lib.bitLen x - 1 + (64 - Lib.bitLen x) = 63 by omega, e63] at this; exact this
  clear l3 l4 e64 e63
  obtain ⟨n, hn⟩ : ∃ n, n = Lib.bitLen x := ⟨_, rfl⟩
  rw [← hn] at l1 l2 m1 m2
  have Hn := Lib.hid hn
  clear hn
  go_enter Try.func55, Try.ntmps55
  go_wp2_with fail
  refine (Len64_any (x : Int) _ (by omega) (by omega)).mono ?_
  rintro e w' ⟨rfl, rfl⟩
  rw [Int.toNat_natCast, ← Hn.out]
  go_wp2
  go_ret
  exact ⟨64 - n, ret_int' (by omega), ⟨by omega, m2, m1⟩, rfl⟩

set_option maxRecDepth 100000 in
set_option maxHeartbeats 1000000 in
theorem Div64_any (hi lo y : Nat) (w : World) (h0 : 1 ≤ y) (h1 : y < 4294967296) (h2 : hi < y) (h3 : lo < 18446744073709551616) :
    Calls Try.prog 48 #[.int .u64 (hi : Int), .int .u64 (lo : Int), .int .u64 (y : Int)] w fun e w' => ∃ q r : Nat, e = .returned (.tuple #[.int .u64 (q : Int), .int .u64 (r : Int)]) ∧
      Hid (q = (hi * 18446744073709551616 + lo) / y ∧ r = (hi * 18446744073709551616 + lo) % y) ∧ ∃ n, w' = w.drewN n := by
  have hy0 : ((y : Int) == 0) = false := by simp; omega
  rcases hh : ((hi : Int) == 0) with _ | _
  · go_enter Try.func48, Try.ntmps48
    go_wp2_with fail
    refine (LZ64_any y _ h0 h1).mono ?_
    rintro e w' ⟨s, rfl, hs, rfl⟩
    obtain ⟨⟨s1, s2⟩, s3, s4⟩ := hs.out
    have hP := Nat.two_pow_pos s
    have hQ := Nat.two_pow_pos (64 - s)
    have hPQ : 2 ^ s * 2 ^ (64 - s) = 18446744073709551616 := by rw [← Nat.pow_add, show s + (64 - s) = 64 by omega]
    have hP32 : 2 ^ s = 2 ^ (s - 32) * 4294967296 := by rw [show (4294967296 : Nat) = 2 ^ 32 by decide, ← Nat.pow_add]; congr 1; omega
    -- the numbers of the school division
    obtain ⟨Y, hY⟩ : ∃ Y : Nat, Y = y * 2 ^ s := ⟨_, rfl⟩
    obtain ⟨Z, hZ⟩ : ∃ Z : Nat, Z = y * 2 ^ (s - 32) := ⟨_, rfl⟩
    have hYZ : Y = Z * 4294967296 := by rw [hY, hZ, hP32, Nat.mul_assoc]
    rw [← hY] at s3 s4
    obtain ⟨U, hU⟩ : ∃ U : Nat, U = hi * 2 ^ s + lo / 2 ^ (64 - s) := ⟨_, rfl⟩
    obtain ⟨L3, hL⟩ : ∃ L3 : Nat, L3 = lo * 2 ^ s % 18446744073709551616 := ⟨_, rfl⟩
    obtain ⟨L31, h31⟩ : ∃ x : Nat, x = L3 / 4294967296 := ⟨_, rfl⟩
    obtain ⟨L30, h30⟩ : ∃ x : Nat, x = L3 % 4294967296 := ⟨_, rfl⟩
    obtain ⟨Q1, hQ1⟩ : ∃ x : Nat, x = U / Z := ⟨_, rfl⟩
    obtain ⟨R1, hR1⟩ : ∃ x : Nat, x = U % Z := ⟨_, rfl⟩
    obtain ⟨Q0, hQ0⟩ : ∃ x : Nat, x = (R1 * 4294967296 + L31) / Z := ⟨_, rfl⟩
    obtain ⟨R0, hR0⟩ : ∃ x : Nat, x = (R1 * 4294967296 + L31) % Z := ⟨_, rfl⟩
    obtain ⟨hUY, hq, hr⟩ := div64_core (K := 18446744073709551616) (H := 4294967296) rfl (by omega) hP hQ hPQ h0 h2 h3 hY hYZ hU hL h31 h30 hQ1 hR1 hQ0 hR0
    obtain ⟨V, hV⟩ : ∃ x : Nat, x = R1 * 4294967296 + L31 := ⟨_, rfl⟩
    rw [← hV] at hQ0 hR0
    obtain ⟨H2, hH2⟩ : ∃ x : Nat, x = hi * 2 ^ s := ⟨_, rfl⟩
    obtain ⟨L2, hL2⟩ : ∃ x : Nat, x = lo / 2 ^ (64 - s) := ⟨_, rfl⟩
    have hZpos : 1 ≤ Z := by omega
    have hZ32 : Z < 4294967296 := by omega
    have hL2s : L2 < 2 ^ s := by
      rw [hL2]; refine Nat.div_lt_of_lt_mul ?_
      rw [Nat.mul_comm, hPQ]; exact h3
    have hH2s : H2 + L2 < 18446744073709551616 := by rw [hH2, hL2, ← hU]; omega
    have hR1Z : R1 < Z := by rw [hR1]; exact Nat.mod_lt _ hZpos
    have hR0Z : R0 < Z := by rw [hR0]; exact Nat.mod_lt _ hZpos
    have hL31 : L31 < 4294967296 := by omega
    have hL30 : L30 < 4294967296 := by omega
    have hVY : V < Z * 4294967296 := by omega
    have eU : U = Q1 * Z + R1 := by rw [hQ1, hR1, Nat.div_add_mod']
    have eV : V = Q0 * Z + R0 := by rw [hQ0, hR0, Nat.div_add_mod']
    have hQ1s : Q1 < 4294967296 := by rw [hQ1]; exact Nat.div_lt_of_lt_mul (by rw [← hYZ]; exact hUY)
    have hQ0s : Q0 < 4294967296 := by rw [hQ0]; exact Nat.div_lt_of_lt_mul hVY
    obtain ⟨QZ, hQZ⟩ : ∃ x : Nat, x = Q1 * Z := ⟨_, rfl⟩
    obtain ⟨Q0Z, hQ0Z⟩ : ∃ x : Nat, x = Q0 * Z := ⟨_, rfl⟩
    rw [← hQZ] at eU
    rw [← hQ0Z] at eV
    have eQY : Q1 * Y = QZ * 4294967296 := by rw [hYZ, hQZ, Nat.mul_assoc]
    have eQ0Y : Q0 * Y = Q0Z * 4294967296 := by rw [hYZ, hQ0Z, Nat.mul_assoc]
    -- how the walk spells them
    have y1 : IntKind.u64.wrap ((y : Int) * 2 ^ s) = (Y : Int) := by rw [wrapPow, ← hY]; omega
    have y2 : (Y : Int) / 4294967296 = (Z : Int) := by omega
    have y3 : bits .and .u64 (Y : Int) 4294967295 = 0 := by rw [Mul64.maskN Y s4]; omega
    have y4 : IntKind.u64.wrap ((hi : Int) * 2 ^ s) = (H2 : Int) := by rw [wrapPow, ← hH2]; omega
    have y5 : (lo : Int) / 2 ^ (64 - s) = (L2 : Int) := by rw [divPow, ← hL2]
    have y6 : bits .or .u64 (H2 : Int) (L2 : Int) = (U : Int) := by
      rw [hH2, orPow hi L2 s hL2s (by omega) (by rw [← hH2]; omega), hU, hL2]
    have y7 : IntKind.u64.wrap ((lo : Int) * 2 ^ s) = (L3 : Int) := by rw [wrapPow, ← hL]
    have y8 : (L3 : Int) / 4294967296 = (L31 : Int) := by omega
    have y9 : bits .and .u64 (L3 : Int) 4294967295 = (L30 : Int) := by rw [Mul64.maskN L3 (by omega)]; omega
    have z1 : (U : Int) / (Z : Int) = (Q1 : Int) := by rw [hQ1]; exact (Int.natCast_ediv U Z).symm
    have z2 : IntKind.u64.wrap ((Q1 : Int) * (Z : Int)) = (QZ : Int) := by rw [Mul64.mulN, ← hQZ, wrapNat]; omega
    have z3 : IntKind.u64.wrap ((U : Int) - (QZ : Int)) = (R1 : Int) := by rw [IntKind.wrap_u64]; omega
    have HH := Lib.hid (And.intro hq hr)
    have HQ0 := Lib.hid hQ0
    have HQ0Z := Lib.hid hQ0Z
    clear hq hr hP hQ hPQ hP32 hY hZ hYZ hU hL h31 h30 hQ1 hR1 hQ0 hR0 hH2 hL2 hL2s hQZ hQ0Z
    have EU := Lib.hid eU
    have EV := Lib.hid eV
    have EQY := Lib.hid eQY
    have EQ0Y := Lib.hid eQ0Y
    have HV := Lib.hid hV
    clear eU eV eQY eQ0Y hV
    go_upto_region 17 with (fail)
    refine wp_loop_rounds 1 ?_
    rw [rounds_succ]
    clear y1 y2 y3 y4 y5 y6 y7 y8 y9 z1 z2 z3
    obtain ⟨U1, hU1⟩ : ∃ x : Nat, x = U * 4294967296 % 18446744073709551616 := ⟨_, rfl⟩
    obtain ⟨QY, hQY⟩ : ∃ x : Nat, x = QZ * 4294967296 % 18446744073709551616 := ⟨_, rfl⟩
    obtain ⟨V1, hV1⟩ : ∃ x : Nat, x = V * 4294967296 % 18446744073709551616 := ⟨_, rfl⟩
    obtain ⟨Q0Y, hQ0Y⟩ : ∃ x : Nat, x = Q0Z * 4294967296 % 18446744073709551616 := ⟨_, rfl⟩
    obtain ⟨T, hT⟩ : ∃ x : Nat, x = R0 * 4294967296 + L30 := ⟨_, rfl⟩
    obtain ⟨S1, hS1⟩ : ∃ x : Nat, x = U1 + L31 := ⟨_, rfl⟩
    obtain ⟨S2, hS2⟩ : ∃ x : Nat, x = V1 + L30 := ⟨_, rfl⟩
    have t1 : IntKind.u64.wrap ((U1 : Int) + (L31 : Int)) = (S1 : Int) := by rw [IntKind.wrap_u64]; omega
    have t2 : IntKind.u64.wrap ((V1 : Int) + (L30 : Int)) = (S2 : Int) := by rw [IntKind.wrap_u64]; omega
    have u1 : IntKind.u64.wrap ((U : Int) * 4294967296) = (U1 : Int) := by rw [IntKind.wrap_u64]; omega
    have u2 : IntKind.u64.wrap ((Q1 : Int) * (Y : Int)) = (QY : Int) := by rw [Mul64.mulN, EQY.out, wrapNat, ← hQY]
    have u3 : IntKind.u64.wrap ((S1 : Int) - (QY : Int)) = (V : Int) := by
      have e1 := EU.out
      have e2 := HV.out
      rw [IntKind.wrap_u64]; omega
    obtain ⟨R4, hR4⟩ : ∃ x : Nat, x = R1 * 4294967296 := ⟨_, rfl⟩
    obtain ⟨R5, hR5⟩ : ∃ x : Nat, x = R0 * 4294967296 := ⟨_, rfl⟩
    have v1 : IntKind.u64.wrap (4294967296 * (R1 : Int)) = (R4 : Int) := by rw [IntKind.wrap_u64]; omega
    have v2 : IntKind.u64.wrap ((R4 : Int) + (L31 : Int)) = (V : Int) := by
      have e2 := HV.out
      rw [IntKind.wrap_u64]; omega
    have v3 : IntKind.u64.wrap (4294967296 * (R0 : Int)) = (R5 : Int) := by rw [IntKind.wrap_u64]; omega
    have v4 : IntKind.u64.wrap ((R5 : Int) + (L30 : Int)) = (T : Int) := by rw [IntKind.wrap_u64]; omega
    clear hR4 hR5
    have g1 : decide ((4294967296 : Int) ≤ (Q1 : Int)) = false := by simp; omega
    have g2 : decide ((4294967296 : Int) ≤ (Q0 : Int)) = false := by simp; omega
    have u4 : (V : Int) / (Z : Int) = (Q0 : Int) := by rw [HQ0.out]; exact (Int.natCast_ediv V Z).symm
    have u5 : IntKind.u64.wrap ((Q0 : Int) * (Z : Int)) = (Q0Z : Int) := by
      have e1 := EV.out
      rw [Mul64.mulN, ← HQ0Z.out, wrapNat]; omega
    have u6 : IntKind.u64.wrap ((V : Int) - (Q0Z : Int)) = (R0 : Int) := by
      have e1 := EV.out
      rw [IntKind.wrap_u64]; omega
    have u7 : IntKind.u64.wrap ((V : Int) * 4294967296) = (V1 : Int) := by rw [IntKind.wrap_u64]; omega
    have u8 : IntKind.u64.wrap ((Q0 : Int) * (Y : Int)) = (Q0Y : Int) := by rw [Mul64.mulN, EQ0Y.out, wrapNat, ← hQ0Y]
    have u9 : IntKind.u64.wrap ((S2 : Int) - (Q0Y : Int)) = (T : Int) := by
      have e1 := EV.out
      rw [IntKind.wrap_u64]; omega
    have u10 : (T : Int) / 2 ^ s = ((T / 2 ^ s : Nat) : Int) := divPow T s
    obtain ⟨T2, hT2⟩ : ∃ x : Nat, x = T / 2 ^ s := ⟨_, rfl⟩
    rw [← hT2] at u10
    have HT := Lib.hid hT
    have HT2 := Lib.hid hT2
    clear hU1 hQY hV1 hQ0Y hT hT2 hS1 hS2 h3 s3 s4 hH2s
    go_wp2
    refine wp_loop_rounds 1 ?_
    rw [rounds_succ]
    go_wp2
    go_ret2
    refine ⟨Q1 * 4294967296 + Q0, T2, ?_, ?_, 0, rfl⟩
    · simp
    · obtain ⟨a1, a2⟩ := HH.out
      exact ⟨a1, by rw [HT2.out, HT.out]; exact a2⟩
  · obtain rfl : hi = 0 := by simpa using hh
    have q1 : (lo : Int) / (y : Int) = ((lo / y : Nat) : Int) := (Int.natCast_ediv lo y).symm
    have q2 : (lo : Int) % (y : Int) = ((lo % y : Nat) : Int) := (Int.natCast_emod lo y).symm
    have hd : lo / y ≤ lo := Nat.div_le_self _ _
    obtain ⟨q, hq⟩ : ∃ x, x = lo / y := ⟨_, rfl⟩
    obtain ⟨r, hr⟩ : ∃ x, x = lo % y := ⟨_, rfl⟩
    rw [← hq] at q1 hd
    rw [← hr] at q2
    have t1 : (lo : Int).tdiv (y : Int) = (q : Int) := by rw [Int.tdiv_eq_ediv_of_nonneg (by omega)]; exact q1
    have t2 : (lo : Int).tmod (y : Int) = (r : Int) := by rw [Int.tmod_eq_emod_of_nonneg (by omega)]; exact q2
    have t3 : IntKind.u64.wrap (q : Int) = (q : Int) := by rw [IntKind.wrap_u64]; omega
    have Hq := Lib.hid hq
    have Hr := Lib.hid hr
    clear hq hr h3 hd
    go_enter Try.func48, Try.ntmps48
    go_wp2
    go_quiet (fail)
    go_wp2
    go_ret2
    exact ⟨q, r, rfl, ⟨by rw [Hq.out]; simp, by rw [Hr.out]; simp⟩, _, rfl⟩

end Go.Proofs.Ytmjbcmicjhgciaa
