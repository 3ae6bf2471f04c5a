/-
  The arithmetic under math/bits.Div64 at a divisor below 2^32, in plain Lean.
-/
import Derived.Laws.Bits64b
import Derived.Laws.BitsAllLaws
import Derived.Test.YtmjbcmicjhgciaaK
namespace Go.Proofs.Ytmjbcmicjhgciaa
open Go.RowKit

theorem wrapPow (a s : Nat) : IntKind.u64.wrap ((a : Int) * 2 ^ s) = ((a * 2 ^ s % 18446744073709551616 : Nat) : Int) := by
  have e : (a : Int) * 2 ^ s = ((a * 2 ^ s : Nat) : Int) := by simp
  rw [e, IntKind.wrap_u64]; omega
theorem divPow (a k : Nat) : (a : Int) / 2 ^ k = ((a / 2 ^ k : Nat) : Int) := by simp
theorem wrapNat (a : Nat) : IntKind.u64.wrap (a : Int) = ((a % 18446744073709551616 : Nat) : Int) := by rw [IntKind.wrap_u64]; omega
theorem orPow (a b s : Nat) (hb : b < 2 ^ s) (h' : b < 18446744073709551616) (h'' : a * 2 ^ s < 18446744073709551616) : bits .or .u64 ((a * 2 ^ s : Nat) : Int) (b : Int) = ((a * 2 ^ s + b : Nat) : Int) := by
  rw [bits_or_u64_nat _ _ h'' h']
  congr 1
  rw [Nat.mul_comm]
  exact (Nat.two_pow_add_eq_or_of_lt hb a).symm

/-- The school division, by halves: K = H * H, P * Q = K; the divisor is Z * H. -/
theorem div64_core {K H P Q hi lo y Y Z U L3 L31 L30 Q1 R1 Q0 R0 : Nat} (hK : H * H = K) (hH : 0 < H) (hP : 0 < P) (hQ : 0 < Q) (hPQ : P * Q = K) (h0 : 1 ≤ y) (h2 : hi < y) (h3 : lo < K)
    (hY : Y = y * P) (hZ : Y = Z * H) (hU : U = hi * P + lo / Q) (hL : L3 = lo * P % K) (h31 : L31 = L3 / H) (h30 : L30 = L3 % H)
    (hQ1 : Q1 = U / Z) (hR1 : R1 = U % Z) (hQ0 : Q0 = (R1 * H + L31) / Z) (hR0 : R0 = (R1 * H + L31) % Z) :
    U < Y ∧ Q1 * H + Q0 = (hi * K + lo) / y ∧ (R0 * H + L30) / P = (hi * K + lo) % y := by
  have hYpos : 0 < Y := by rw [hY]; exact Nat.mul_pos (by omega) hP
  have hZpos : 0 < Z := by
    rcases Nat.eq_zero_or_pos Z with h | h
    · rw [h, Nat.zero_mul] at hZ; omega
    · exact h
  have hl1 : lo = lo / Q * Q + lo % Q := (Nat.div_add_mod' lo Q).symm
  have hl2 : lo % Q < Q := Nat.mod_lt _ hQ
  have hl3 : lo % Q * P < K := by
    rw [← hPQ, Nat.mul_comm P Q]
    exact Nat.mul_lt_mul_of_pos_right hl2 hP
  have hlP : lo * P = lo % Q * P + K * (lo / Q) := by
    conv => lhs; rw [hl1]
    rw [← hPQ]; grind
  have hL3 : L3 = lo % Q * P := by rw [hL, hlP, Nat.add_mul_mod_self_left, Nat.mod_eq_of_lt hl3]
  have hN : (hi * K + lo) * P = U * K + L3 := by
    rw [Nat.add_mul, hlP, hU, hL3]; grind
  have hU1 : U = Q1 * Z + R1 := by rw [hQ1, hR1, Nat.div_add_mod']
  have hV : R1 * H + L31 = Q0 * Z + R0 := by rw [hQ0, hR0, Nat.div_add_mod']
  have hR0lt : R0 < Z := by rw [hR0]; exact Nat.mod_lt _ hZpos
  have h64 : L3 = L31 * H + L30 := by rw [h31, h30, Nat.div_add_mod']
  have hL30 : L30 < H := by rw [h30]; exact Nat.mod_lt _ hH
  have hmain : (hi * K + lo) * P = (Q1 * H + Q0) * Y + (R0 * H + L30) := by
    have e : U * K + L3 = (Q1 * Z) * K + (R1 * H + L31) * H + L30 := by rw [h64, hU1, ← hK]; grind
    rw [hN, e, hV, hZ, ← hK]; grind
  have hT : R0 * H + L30 < Y := by
    rw [hZ]
    have := Nat.mul_le_mul_right H (show R0 + 1 ≤ Z by omega)
    rw [Nat.succ_mul] at this; omega
  have hUY : U < Y := by
    have h1 : (hi * K + lo) * P < (hi * K + K) * P := Nat.mul_lt_mul_of_pos_right (by omega) hP
    have h2' : (hi * K + K) * P ≤ Y * K := by
      have := Nat.mul_le_mul_right (K * P) (show hi + 1 ≤ y by omega)
      rw [hY]; grind
    have hKpos : 0 < K := by rw [← hK]; exact Nat.mul_pos hH hH
    have h3 : U * K < Y * K := by omega
    exact Nat.lt_of_mul_lt_mul_right h3
  obtain ⟨q, hq⟩ : ∃ q, q = Q1 * H + Q0 := ⟨_, rfl⟩
  obtain ⟨T, hT'⟩ : ∃ T, T = R0 * H + L30 := ⟨_, rfl⟩
  obtain ⟨n, hn⟩ : ∃ n, n = hi * K + lo := ⟨_, rfl⟩
  rw [← hq, ← hT', ← hn, hY, ← Nat.mul_assoc] at hmain
  rw [← hT', hY] at hT
  rw [← hq, ← hT', ← hn]
  have hle : q * y ≤ n := by
    rcases Nat.lt_or_ge n (q * y) with h | h
    · have := Nat.mul_lt_mul_of_pos_right h hP; omega
    · exact h
  have hT2 : T = (n - q * y) * P := by rw [Nat.sub_mul]; omega
  have hlt : n - q * y < y := by
    rw [hT2] at hT; exact Nat.lt_of_mul_lt_mul_right hT
  refine ⟨hUY, ?_, ?_⟩
  · symm
    refine Nat.div_eq_of_lt_le hle ?_
    rw [Nat.succ_mul]; omega
  · rw [hT2, Nat.mul_div_cancel _ hP]
    have : n = n - q * y + y * q := by rw [Nat.mul_comm y q]; omega
    conv => rhs; rw [this, Nat.add_mul_mod_self_left, Nat.mod_eq_of_lt hlt]

end Go.Proofs.Ytmjbcmicjhgciaa
