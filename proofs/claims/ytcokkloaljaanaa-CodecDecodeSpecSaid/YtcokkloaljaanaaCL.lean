/-
  Numerals as data, and the facts on bits that their functions need. No condition.
-/
import Derived.Test.YtcokkloaljaanaaCK
import Derived.Laws.Bits64
import Derived.Laws.Bits64b
namespace Go.Proofs.Ytcokkloaljaanaa
open Go.RowKit

/-- The numeral of a number. -/
def numT (u : Nat) : Bs := if u < 128 then [UInt8.ofNat u] else UInt8.ofNat (u % 128 + 128) :: numT (u / 128)
decreasing_by omega
theorem numT_small {u : Nat} (h : u < 128) : numT u = [UInt8.ofNat u] := by rw [numT, if_pos h]
theorem numT_big {u : Nat} (h : ¬ u < 128) : numT u = UInt8.ofNat (u % 128 + 128) :: numT (u / 128) := by rw [numT, if_neg h]
/-- A numeral of a number below 128 ^ k has at most k bytes, k not 0. -/
theorem numT_len (k : Nat) : ∀ u : Nat, u < 128 ^ k → 0 < k → (numT u).length ≤ k := by
  induction k with
  | zero => intro u _ h; omega
  | succ k ih =>
    intro u hu _
    by_cases h : u < 128
    · rw [numT_small h]; simp
    · rw [numT_big h, List.length_cons]
      rw [Nat.pow_succ] at hu
      have h2 : u / 128 < 128 ^ k := by omega
      have hk : 0 < k := by
        rcases Nat.eq_zero_or_pos k with rfl | hk
        · simp at h2; omega
        · exact hk
      have := ih _ h2 hk
      omega
theorem numT_le {u : Nat} (h : u < 18446744073709551616) : (numT u).length ≤ 10 := numT_len 10 u (by omega) (by decide)
theorem numT_pos (u : Nat) : 0 < (numT u).length := by
  by_cases h : u < 128
  · rw [numT_small h]; simp
  · rw [numT_big h]; simp
theorem u8_nat {n : Nat} (h : n < 256) : ((UInt8.ofNat n).toNat : Int) = (n : Int) := by
  have : (UInt8.ofNat n).toNat = n := by simp; omega
  rw [this]
theorem or_128 : ∀ n : Fin 256, bits .or .u8 (n.val : Int) 128 = ((n.val % 128 + 128 : Nat) : Int) := by decide +kernel
/-- The byte that is written while more follow. -/
theorem or_byte (u : Nat) : bits .or .u8 ((u : Int) % 256) 128 = ((UInt8.ofNat (u % 128 + 128)).toNat : Int) := by
  rw [u8_nat (by omega)]
  have h := or_128 ⟨u % 256, by omega⟩
  have e1 : ((u % 256 : Nat) : Int) = (u : Int) % 256 := by omega
  have e2 : u % 256 % 128 + 128 = u % 128 + 128 := by omega
  dsimp only at h
  rw [e1, e2] at h
  exact h

/-- The unsigned form of a number. -/
def zig (n : Int) : Nat := if 0 ≤ n then (2 * n).toNat else (-2 * n - 1).toNat
/-- The number with an unsigned form. -/
def zag (u : Nat) : Int := if u % 2 = 1 then -((u / 2 : Nat) : Int) - 1 else ((u / 2 : Nat) : Int)
theorem zig_lt {n : Int} (h1 : -9223372036854775808 ≤ n) (h2 : n ≤ 9223372036854775807) : zig n < 18446744073709551616 := by
  unfold zig; split <;> omega
theorem zag_zig (n : Int) : zag (zig n) = n := by
  unfold zig zag
  split
  · rw [if_neg (by omega)]; omega
  · rw [if_pos (by omega)]; omega
theorem zig_zag (u : Nat) : zig (zag u) = u := by
  unfold zig zag
  by_cases h : u % 2 = 1
  · rw [if_pos h, if_neg (by omega)]; omega
  · rw [if_neg h, if_pos (by omega)]; omega
theorem zag_range {u : Nat} (h : u < 18446744073709551616) : -9223372036854775808 ≤ zag u ∧ zag u ≤ 9223372036854775807 := by
  unfold zag; split <;> omega
theorem nat_xor_zero (a : Nat) : a ^^^ 0 = a := Nat.xor_zero a
theorem nat_xor_ones {a : Nat} (h : a < 18446744073709551616) : a ^^^ 18446744073709551615 = 18446744073709551615 - a := by
  have e : BitVec.ofNat 64 a ^^^ BitVec.allOnes 64 = ~~~ (BitVec.ofNat 64 a) := BitVec.xor_allOnes
  have e2 := congrArg BitVec.toNat e
  rw [BitVec.toNat_xor, BitVec.toNat_not, BitVec.toNat_ofNat, BitVec.toNat_allOnes, Nat.mod_eq_of_lt (by omega)] at e2
  exact e2

end Go.Proofs.Ytcokkloaljaanaa
