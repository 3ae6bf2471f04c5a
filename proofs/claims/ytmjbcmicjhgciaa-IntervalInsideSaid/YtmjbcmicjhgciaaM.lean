/-
  Contracts of math/bits.Mul64 (after the shelf's own proof, at this dump) and of size of package interval. No condition.
-/
import Derived.Lib.Mul64
import Derived.Laws.Bits64b
import Derived.Test.YtmjbcmicjhgciaaL
namespace Go.Proofs.Ytmjbcmicjhgciaa
open Go.RowKit

namespace Mul64
theorem maskN (a : Nat) (ha : a < 18446744073709551616) : bits .and .u64 (a : Int) 4294967295 = ((a % 4294967296 : Nat) : Int) := by
  have h := bits_and_u64_nat a 4294967295 ha (by omega)
  have e : a &&& 4294967295 = a % 4294967296 := Nat.and_two_pow_sub_one_eq_mod a 32
  rw [e] at h
  exact h
theorem divN (a : Nat) : (a : Int) / 4294967296 = ((a / 4294967296 : Nat) : Int) := by omega
theorem mulN (a b : Nat) : (a : Int) * (b : Int) = ((a * b : Nat) : Int) := (Int.natCast_mul a b).symm
theorem addN (a b : Nat) : (a : Int) + (b : Int) = ((a + b : Nat) : Int) := (Int.natCast_add a b).symm
theorem wrapN (a : Nat) (ha : a < 18446744073709551616) : IntKind.u64.wrap (a : Int) = (a : Int) := by rw [IntKind.wrap_u64]; omega
theorem wrapM (a : Nat) : IntKind.u64.wrap (a : Int) = ((a % 18446744073709551616 : Nat) : Int) := by rw [IntKind.wrap_u64]; omega
end Mul64

set_option maxHeartbeats 1000000 in
theorem Mul64_any (x y : Nat) (hx : x < 18446744073709551616) (hy : y < 18446744073709551616) (w : World) :
    Calls Try.prog 46 #[.int .u64 x, .int .u64 y] w fun e w' => e = .returned (.tuple #[.int .u64 ((x * y / 18446744073709551616 : Nat) : Int), .int .u64 ((x * y % 18446744073709551616 : Nat) : Int)]) ∧ w' = w := by
  obtain ⟨bd, bt, bw, hhi⟩ := Lib.mul64_hi x y hx hy
  have ba := Lib.half_mul_le (a := x / 4294967296) (b := y / 4294967296) (by omega) (by omega)
  have bb := Lib.half_mul_le (a := x / 4294967296) (b := y % 4294967296) (by omega) (by omega)
  have bc := Lib.half_mul_le (a := x % 4294967296) (b := y / 4294967296) (by omega) (by omega)
  have ba' : x / 4294967296 * (y / 4294967296) < 18446744073709551616 := by omega
  have bb' : x / 4294967296 * (y % 4294967296) < 18446744073709551616 := by omega
  have bc' : x % 4294967296 * (y / 4294967296) < 18446744073709551616 := by omega
  have bh1 : x / 4294967296 * (y / 4294967296) + (x / 4294967296 * (y % 4294967296) + x % 4294967296 * (y % 4294967296) / 4294967296) / 4294967296 < 18446744073709551616 := by omega
  have bh : x / 4294967296 * (y / 4294967296) + (x / 4294967296 * (y % 4294967296) + x % 4294967296 * (y % 4294967296) / 4294967296) / 4294967296 + ((x / 4294967296 * (y % 4294967296) + x % 4294967296 * (y % 4294967296) / 4294967296) % 4294967296 + x % 4294967296 * (y / 4294967296)) / 4294967296 < 18446744073709551616 := by omega
  go_enter Try.func46, Try.ntmps46
  go_wp2
  simp only [Mul64.maskN x hx, Mul64.maskN y hy, Mul64.divN, Mul64.mulN, Mul64.addN, Mul64.wrapN _ bd, Mul64.wrapN _ bb', Mul64.wrapN _ bt, Mul64.maskN _ bt, Mul64.wrapN _ bc', Mul64.wrapN _ bw, Mul64.wrapN _ ba', Mul64.wrapN _ bh1, Mul64.wrapN _ bh, Mul64.wrapM (x * y)]
  rw [hhi]
  go_ret2
  exact ⟨rfl, rfl⟩

set_option maxHeartbeats 400000 in
theorem size_any (x : Int) (w : World) (h : -4611686018427387904 ≤ x ∧ x ≤ 4611686018427387904) :
    Calls Try.prog 47 #[.int .i64 x] w fun e w' => ∃ m : Nat, e = .returned (.int .u64 (m : Int)) ∧ Hid (m = x.natAbs) ∧ w = w' := by
  obtain ⟨h1, h2⟩ := h
  go_enter Try.func47, Try.ntmps47
  go_wp2
  go_ret
  refine ⟨x.natAbs, ?_, rfl, rfl⟩
  have : (max x (-x)) = (x.natAbs : Int) := by omega
  rw [← this]
  rfl

theorem Mul64_hl (x y : Nat) (hx : x < 18446744073709551616) (hy : y < 18446744073709551616) (w : World) :
    Calls Try.prog 46 #[.int .u64 x, .int .u64 y] w fun e w' => ∃ hi lo : Nat, e = .returned (.tuple #[.int .u64 (hi : Int), .int .u64 (lo : Int)]) ∧ Hid (hi = x * y / 18446744073709551616 ∧ lo = x * y % 18446744073709551616) ∧ w = w' :=
  (Mul64_any x y hx hy w).mono fun _ _ ⟨he, hw⟩ => ⟨_, _, he, ⟨rfl, rfl⟩, hw.symm⟩

/-- Whether a product fits is seen from the two words of the product of the absolute values. -/
theorem fit_words {x y : Int} {m k hi lo : Nat} (hm : m = x.natAbs) (hk : k = y.natAbs) (h : hi = m * k / 18446744073709551616 ∧ lo = m * k % 18446744073709551616) :
    (fitB x y = true ∧ hi = 0 ∧ lo ≤ 1099511627776) ∨ (fitB x y = false ∧ hi = 0 ∧ 1099511627776 < lo) ∨ (fitB x y = false ∧ 0 < hi) := by
  have e : m * k = (x * y).natAbs := by rw [hm, hk, Int.natAbs_mul]
  rw [e] at h
  obtain ⟨h1, h2⟩ := h
  rcases hf : fitB x y with _ | _
  · have : ¬ (-1099511627776 ≤ x * y ∧ x * y ≤ 1099511627776) := by simpa [fitB] using hf
    by_cases hz : hi = 0
    · exact .inr (.inl ⟨rfl, hz, by omega⟩)
    · exact .inr (.inr ⟨rfl, by omega⟩)
  · have := fitB_bd hf
    exact .inl ⟨rfl, by omega, by omega⟩

end Go.Proofs.Ytmjbcmicjhgciaa
