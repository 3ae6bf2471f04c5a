/-
  Checksums and numbers: the walks of sum, get, checksum, number. No condition but the length of numbers.
-/
import Derived.Test.YthlidhfahaalgaaQDG
import Derived.Test.YthlidhfahaalgaaQDD
import Derived.Laws.Bits64
import Derived.Lib.EndianBits
import Derived.Lib.MinMax
namespace Go.Proofs.Ythlidhfahaalgaa
open Go.RowKit

theorem ofInt_toNat (n a : Nat) (h : a < 2 ^ n) : (BitVec.ofInt n (a : Int)).toNat = a := by
  rw [BitVec.ofInt_natCast, BitVec.toNat_ofNat]; exact Nat.mod_eq_of_lt h
theorem wrap_u32_nat {a : Nat} (h : a < 4294967296) : IntKind.u32.wrap (a : Int) = (a : Int) := by
  rw [IntKind.wrap_u32]; omega
theorem wrap_u64_nat {a : Nat} (h : a < 18446744073709551616) : IntKind.u64.wrap (a : Int) = (a : Int) := by
  rw [IntKind.wrap_u64]; omega
theorem xor_u32 {a b : Nat} (ha : a < 4294967296) (hb : b < 4294967296) : bits .xor .u32 (a : Int) (b : Int) = ((a ^^^ b : Nat) : Int) := by
  show IntKind.u32.wrap ((BitVec.ofInt 32 (a : Int) ^^^ BitVec.ofInt 32 (b : Int)).toNat : Int) = _
  rw [BitVec.toNat_xor, ofInt_toNat 32 a ha, ofInt_toNat 32 b hb, wrap_u32_nat (xor_lt32 ha hb)]
theorem and1_u32 {a : Nat} (ha : a < 4294967296) : bits .and .u32 (a : Int) 1 = ((a % 2 : Nat) : Int) := by
  show IntKind.u32.wrap ((BitVec.ofInt 32 (a : Int) &&& BitVec.ofInt 32 1).toNat : Int) = _
  have h1 : (BitVec.ofInt 32 1).toNat = 1 := rfl
  rw [BitVec.toNat_and, ofInt_toNat 32 a ha, h1, Nat.and_one_is_mod, wrap_u32_nat (by omega)]
theorem or_u64 {a b : Nat} (ha : a < 72057594037927936) (hb : b < 256) : bits .or .u64 ((256 * a : Nat) : Int) (b : Int) = ((256 * a + b : Nat) : Int) := by
  show IntKind.u64.wrap ((BitVec.ofInt 64 ((256 * a : Nat) : Int) ||| BitVec.ofInt 64 (b : Int)).toNat : Int) = _
  rw [BitVec.toNat_or, ofInt_toNat 64 (256 * a) (by omega), ofInt_toNat 64 b (by omega), show 256 * a ||| b = 256 * a + b from (Nat.two_pow_add_eq_or_of_lt (i := 8) hb a).symm, wrap_u64_nat (by omega)]
theorem stepC_mul (n : Nat) : stepC n = (n / 2) ^^^ (3988292384 * (n % 2)) := by
  unfold stepC
  rcases (show n % 2 = 0 ∨ n % 2 = 1 by omega) with h | h
  · rw [if_neg (by omega), h, Nat.mul_zero, Nat.xor_zero]
  · rw [if_pos h, h, Nat.mul_one]

theorem roll_succ (k n : Nat) : rollC (k + 1) n = rollC k (stepC n) := rfl
theorem roll_start (m : Nat) (y : UInt8) : Hid (rollC (8 - 0) (m ^^^ y.toNat) = byteC m y) := by
  rw [Hid, Nat.sub_zero, byteC]
theorem roll_end {z m : Nat} {y : UInt8} (h : Hid (rollC (8 - 8) z = byteC m y)) : z = byteC m y := h.out
set_option maxRecDepth 100000 in
set_option maxHeartbeats 4000000 in
theorem jSum_any (l : Bs) (A : Option Addr) (c : Nat) (S : Nat → Prop) (w : World) (h : Hid (BsAt w S (.slice A l.length c) l)) :
    Calls Try.prog 65 #[.slice A l.length c] w fun e w' => e = .returned (.int .u32 (sumT l : Nat)) ∧ w' = w := by
  obtain ⟨T, hT⟩ : ∃ T : Nat, Hid (sumT l = T) := ⟨_, rfl⟩
  rw [hT.out]
  have hlen : l.length ≤ maxLen := by obtain ⟨_, _, _, hm⟩ := h.out.form; exact hm
  obtain ⟨n, hn⟩ : ∃ n, l.length = n := ⟨_, rfl⟩
  rw [hn] at h hlen ⊢
  have hn62 : (n : Int) ≤ 9223372036854775807 := by simp only [maxLen] at hlen; omega
  go_enter Try.func65, Try.ntmps65
  go_wp2_with fail
  go_loopw [3, 8] (fun x i wr => ∃ k m : Nat, k ≤ n ∧ i = .int .i64 k ∧ x = .int .u32 m ∧ Hid (m = foldC 4294967295 (l.take k)) ∧ wr = w) (fun _ i _ => n - (intOf i).toNat)
  case atStart => exact ⟨0, 4294967295, by omega, rfl, rfl, rfl, rfl⟩
  case round =>
    obtain ⟨k, m, hk, rfl, rfl, hm, rfl⟩ := hrel
    rcases Nat.lt_or_ge k n with hlt | hge
    rotate_left
    · obtain rfl : k = n := by omega
      have hmT : Hid (m ^^^ 4294967295 = T) := by rw [Hid, hm.out, ← hT.out, sumT, ← hn, List.take_length]
      have hx : bits .xor .u32 IntKind.u32.max (m : Int) = (T : Int) := by
        rw [show IntKind.u32.max = ((4294967295 : Nat) : Int) from rfl, xor_u32 (by decide) (by rw [hm.out]; exact foldC_lt _ (by decide)), Nat.xor_comm, hmT.out]
      have hsg : IntKind.u32.signed = false := rfl
      go_wp2
      go_ret
      exact ⟨rfl, rfl⟩
    have hk7 : (k : Int) < (n : Int) := by omega
    obtain ⟨b, off, rfl, hSb, hbz, hc⟩ := h.out.cell (show k < l.length by omega)
    have hm32 : m < 4294967296 := by rw [hm.out]; exact foldC_lt _ (by decide)
    obtain ⟨y, hy⟩ : ∃ y : UInt8, l.getD k 0 = y := ⟨_, rfl⟩
    rw [hy] at hc
    have hy2 := u8_lt y
    have hx : bits .xor .u32 (m : Int) (y.toNat : Int) = ((m ^^^ y.toNat : Nat) : Int) := xor_u32 hm32 (by omega)
    have hw : IntKind.u32.wrap (y.toNat : Int) = (y.toNat : Int) := wrap_u32_nat (by omega)
    have hq : m ^^^ y.toNat < 4294967296 := xor_lt32 hm32 (by omega)
    have HM := Lib.hid hm32
    clear hm32
    go_wp2_with fail
    clear hx hw
    go_loopw [3, 16] (fun x i w2 => ∃ j z : Nat, j ≤ 8 ∧ i = .int .i64 j ∧ x = .int .u32 z ∧ z < 4294967296 ∧ Hid (rollC (8 - j) z = byteC m y) ∧ w2 = wr) (fun _ i _ => 8 - (intOf i).toNat)
    case atStart => exact ⟨0, m ^^^ y.toNat, by omega, rfl, rfl, hq, roll_start m y, rfl⟩
    case round =>
      clear hc hq
      obtain ⟨j, z, hj, rfl, rfl, hz, hr, rfl⟩ := hrel
      rcases Nat.lt_or_ge j 8 with hl8 | hg8
      rotate_left
      · obtain rfl : j = 8 := by omega
        have hz' := roll_end hr
        have HZ := Lib.hid hz'
        clear hz' hr
        go_wp2
        refine ⟨⟨k + 1, z, by omega, by go_num, rfl, ?_, trivial⟩, by simp [intOf] <;> omega⟩
        have hk' : k < l.length := by omega
        have hyk : l[k] = y := by rw [← hy, List.getD_eq_getElem?_getD, List.getElem?_eq_getElem hk']; rfl
        rw [Hid, foldC_take_succ hk', ← hm.out, hyk]
        exact HZ.out
      have e1 : bits .and .u32 (z : Int) 1 = ((z % 2 : Nat) : Int) := and1_u32 hz
      have hj8 : (j : Int) < 8 := by omega
      have e2 : bits .xor .u32 ((z : Int) / 2) (3988292384 * ((z : Int) % 2)) = ((stepC z : Nat) : Int) := by
        rw [stepC_mul, show (z : Int) / 2 = ((z / 2 : Nat) : Int) by omega, show (3988292384 : Int) * ((z : Int) % 2) = ((3988292384 * (z % 2) : Nat) : Int) by omega]
        exact xor_u32 (by omega) (by omega)
      have e3 : Hid (stepC z < 4294967296) := stepC_lt hz
      have e4 : Hid (rollC (8 - (j + 1)) (stepC z) = byteC m y) := by
        rw [Hid, ← hr.out, show 8 - j = (8 - (j + 1)) + 1 by omega, roll_succ]
      go_wp2
      exact ⟨⟨j + 1, stepC z, by omega, by go_num, rfl, e3, e4, trivial⟩, by simp [intOf] <;> omega⟩

theorem numT_take4 {l : Bs} (hl : l.length ≤ 4) (k : Nat) : numT (l.take k) < 4294967296 := by
  have h := numT_lt (l.take k)
  have h2 : (256 : Nat) ^ (l.take k).length ≤ 256 ^ 4 := Nat.pow_le_pow_right (by decide) (by rw [List.length_take]; omega)
  exact Nat.lt_of_lt_of_le h h2
set_option maxRecDepth 100000 in
set_option maxHeartbeats 4000000 in
theorem jGet_any (l : Bs) (A : Option Addr) (c : Nat) (S : Nat → Prop) (w : World) (h : Hid (BsAt w S (.slice A l.length c) l)) (hl : l.length ≤ 4) :
    Calls Try.prog 41 #[.slice A l.length c] w fun e w' => e = .returned (.int .u64 (numT l : Nat)) ∧ w' = w := by
  obtain ⟨T, hT⟩ : ∃ T : Nat, Hid (numT l = T) := ⟨_, rfl⟩
  rw [hT.out]
  obtain ⟨n, hn⟩ : ∃ n, l.length = n := ⟨_, rfl⟩
  have H4 : ∀ k, numT (l.take k) < 4294967296 := numT_take4 hl
  rw [hn] at h hl ⊢
  go_enter Try.func41, Try.ntmps41
  go_wp2_with fail
  go_loopw [2, 7] (fun x i wr => ∃ k m : Nat, k ≤ n ∧ i = .int .i64 k ∧ x = .int .u64 m ∧ Hid (m = numT (l.take k)) ∧ wr = w) (fun _ i _ => n - (intOf i).toNat)
  case atStart => exact ⟨0, 0, by omega, rfl, rfl, rfl, rfl⟩
  case round =>
    obtain ⟨k, m, hk, rfl, rfl, hm, rfl⟩ := hrel
    rcases Nat.lt_or_ge k n with hlt | hge
    rotate_left
    · obtain rfl : k = n := by omega
      have hmT : m = T := by rw [hm.out, ← hT.out, ← hn, List.take_length]
      subst hmT
      clear H4
      go_wp2
      go_ret
      exact ⟨rfl, rfl⟩
    have hk7 : (k : Int) < (n : Int) := by omega
    obtain ⟨b, off, rfl, hSb, hbz, hc⟩ := h.out.cell (show k < l.length by omega)
    have hm32 : m < 4294967296 := by rw [hm.out]; exact H4 k
    obtain ⟨y, hy⟩ : ∃ y : UInt8, l.getD k 0 = y := ⟨_, rfl⟩
    rw [hy] at hc
    have hy2 := u8_lt y
    have hw : IntKind.u64.wrap (y.toNat : Int) = (y.toNat : Int) := wrap_u64_nat (by omega)
    have hw2 : IntKind.u64.wrap ((m : Int) * 256) = 256 * (m : Int) := by rw [IntKind.wrap_u64]; omega
    have hx : bits .or .u64 (256 * (m : Int)) (y.toNat : Int) = ((256 * m + y.toNat : Nat) : Int) := by
      have := or_u64 (a := m) (b := y.toNat) (by omega) hy2
      rwa [show ((256 * m : Nat) : Int) = 256 * (m : Int) by omega] at this
    have hk' : k < l.length := by omega
    have hyk : l[k] = y := by rw [← hy, List.getD_eq_getElem?_getD, List.getElem?_eq_getElem hk']; rfl
    have hs : Hid (256 * m + y.toNat = numT (l.take (k + 1))) := by rw [Hid, numT_take_succ hk', hm.out, hyk]
    clear H4 hk' hyk hm32 hy
    go_wp2
    exact ⟨⟨k + 1, 256 * m + y.toNat, by omega, by go_num, rfl, hs, trivial⟩, by simp [intOf] <;> omega⟩
set_option maxRecDepth 100000 in
set_option maxHeartbeats 4000000 in
theorem jNumber_any (l : Bs) (A : Option Addr) (c : Nat) (S : Nat → Prop) (w : World) (h : Hid (BsAt w S (.slice A l.length c) l)) (hl : l.length ≤ 4) :
    Calls Try.prog 63 #[.slice A l.length c] w fun e w' => e = .returned (.int .u64 (numT l : Nat)) ∧ w' = w := by
  obtain ⟨T, hT⟩ : ∃ T : Nat, Hid (numT l = T) := ⟨_, rfl⟩
  rw [hT.out]
  obtain ⟨n, hn⟩ : ∃ n, l.length = n := ⟨_, rfl⟩
  have H4 : ∀ k, numT (l.take k) < 4294967296 := numT_take4 hl
  rw [hn] at h hl ⊢
  go_enter Try.func63, Try.ntmps63
  go_wp2_with fail
  go_loopw [3, 4] (fun x i wr => ∃ k m : Nat, k ≤ n ∧ i = .int .i64 k ∧ x = .int .u64 m ∧ Hid (m = numT (l.take k)) ∧ wr = w) (fun _ i _ => n - (intOf i).toNat)
  case atStart => exact ⟨0, 0, by omega, rfl, rfl, rfl, rfl⟩
  case round =>
    obtain ⟨k, m, hk, rfl, rfl, hm, rfl⟩ := hrel
    rcases Nat.lt_or_ge k n with hlt | hge
    rotate_left
    · obtain rfl : k = n := by omega
      have hmT : m = T := by rw [hm.out, ← hT.out, ← hn, List.take_length]
      subst hmT
      clear H4
      go_wp2
      go_ret
      exact ⟨rfl, rfl⟩
    have hk7 : (k : Int) < (n : Int) := by omega
    obtain ⟨b, off, rfl, hSb, hbz, hc⟩ := h.out.cell (show k < l.length by omega)
    have hm32 : m < 4294967296 := by rw [hm.out]; exact H4 k
    obtain ⟨y, hy⟩ : ∃ y : UInt8, l.getD k 0 = y := ⟨_, rfl⟩
    rw [hy] at hc
    have hy2 := u8_lt y
    have hw : IntKind.u64.wrap (y.toNat : Int) = (y.toNat : Int) := wrap_u64_nat (by omega)
    have hw2 : IntKind.u64.wrap (256 * (m : Int)) = 256 * (m : Int) := by rw [IntKind.wrap_u64]; omega
    have hw3 : IntKind.u64.wrap (256 * (m : Int) + (y.toNat : Int)) = ((256 * m + y.toNat : Nat) : Int) := by rw [IntKind.wrap_u64]; omega
    have hk' : k < l.length := by omega
    have hyk : l[k] = y := by rw [← hy, List.getD_eq_getElem?_getD, List.getElem?_eq_getElem hk']; rfl
    have hs : Hid (256 * m + y.toNat = numT (l.take (k + 1))) := by rw [Hid, numT_take_succ hk', hm.out, hyk]
    clear H4 hk' hyk hm32 hy
    go_wp2
    exact ⟨⟨k + 1, 256 * m + y.toNat, by omega, by go_num, rfl, hs, trivial⟩, by simp [intOf] <;> omega⟩
set_option maxRecDepth 100000 in
set_option maxHeartbeats 4000000 in
theorem jChecksum_any (l : Bs) (A : Option Addr) (c : Nat) (S : Nat → Prop) (w : World) (h : Hid (BsAt w S (.slice A l.length c) l)) :
    Calls Try.prog 67 #[.slice A l.length c] w fun e w' => e = .returned (.int .u32 (sumT l : Nat)) ∧ w' = w := by
  obtain ⟨T, hT⟩ : ∃ T : Nat, Hid (sumT l = T) := ⟨_, rfl⟩
  rw [hT.out]
  have hlen : l.length ≤ maxLen := by obtain ⟨_, _, _, hm⟩ := h.out.form; exact hm
  obtain ⟨n, hn⟩ : ∃ n, l.length = n := ⟨_, rfl⟩
  rw [hn] at h hlen ⊢
  have hn62 : (n : Int) ≤ 9223372036854775807 := by simp only [maxLen] at hlen; omega
  go_enter Try.func67, Try.ntmps67
  go_wp2_with fail
  go_loopw [3, 4] (fun x i wr => ∃ k m : Nat, k ≤ n ∧ i = .int .i64 k ∧ x = .int .u32 m ∧ Hid (m = foldC 4294967295 (l.take k)) ∧ wr = w) (fun _ i _ => n - (intOf i).toNat)
  case atStart => exact ⟨0, 4294967295, by omega, rfl, rfl, rfl, rfl⟩
  case round =>
    obtain ⟨k, m, hk, rfl, rfl, hm, rfl⟩ := hrel
    rcases Nat.lt_or_ge k n with hlt | hge
    rotate_left
    · obtain rfl : k = n := by omega
      have hmT : Hid (m ^^^ 4294967295 = T) := by rw [Hid, hm.out, ← hT.out, sumT, ← hn, List.take_length]
      have hx : bits .xor .u32 (m : Int) 4294967295 = (T : Int) := by
        rw [show (4294967295 : Int) = ((4294967295 : Nat) : Int) from rfl, xor_u32 (by rw [hm.out]; exact foldC_lt _ (by decide)) (by decide), hmT.out]
      go_wp2
      go_ret
      exact ⟨rfl, rfl⟩
    have hk7 : (k : Int) < (n : Int) := by omega
    obtain ⟨b, off, rfl, hSb, hbz, hc⟩ := h.out.cell (show k < l.length by omega)
    have hm32 : m < 4294967296 := by rw [hm.out]; exact foldC_lt _ (by decide)
    obtain ⟨y, hy⟩ : ∃ y : UInt8, l.getD k 0 = y := ⟨_, rfl⟩
    rw [hy] at hc
    have hy2 := u8_lt y
    have hx : bits .xor .u32 (m : Int) (y.toNat : Int) = ((m ^^^ y.toNat : Nat) : Int) := xor_u32 hm32 (by omega)
    have hw : IntKind.u32.wrap (y.toNat : Int) = (y.toNat : Int) := wrap_u32_nat (by omega)
    have hq : m ^^^ y.toNat < 4294967296 := xor_lt32 hm32 (by omega)
    have HM := Lib.hid hm32
    clear hm32
    go_wp2_with fail
    clear hx hw
    go_loopw [3, 5] (fun x i w2 => ∃ j z : Nat, j ≤ 8 ∧ i = .int .i64 j ∧ x = .int .u32 z ∧ z < 4294967296 ∧ Hid (rollC (8 - j) z = byteC m y) ∧ w2 = wr) (fun _ i _ => 8 - (intOf i).toNat)
    case atStart => exact ⟨0, m ^^^ y.toNat, by omega, rfl, rfl, hq, roll_start m y, rfl⟩
    case round =>
      clear hc hq
      obtain ⟨j, z, hj, rfl, rfl, hz, hr, rfl⟩ := hrel
      rcases Nat.lt_or_ge j 8 with hl8 | hg8
      rotate_left
      · obtain rfl : j = 8 := by omega
        have hz' := roll_end hr
        have HZ := Lib.hid hz'
        clear hz' hr
        go_wp2
        refine ⟨⟨k + 1, z, by omega, by go_num, rfl, ?_, trivial⟩, by simp [intOf] <;> omega⟩
        have hk' : k < l.length := by omega
        have hyk : l[k] = y := by rw [← hy, List.getD_eq_getElem?_getD, List.getElem?_eq_getElem hk']; rfl
        rw [Hid, foldC_take_succ hk', ← hm.out, hyk]
        exact HZ.out
      have hj8 : (j : Int) < 8 := by omega
      have e3 : Hid (stepC z < 4294967296) := stepC_lt hz
      have e4 : Hid (rollC (8 - (j + 1)) (stepC z) = byteC m y) := by
        rw [Hid, ← hr.out, show 8 - j = (8 - (j + 1)) + 1 by omega, roll_succ]
      rcases (show z % 2 = 0 ∨ z % 2 = 1 by omega) with h2 | h2
      · have e5 : stepC z = z / 2 := by rw [stepC, if_neg (by omega)]
        have e6 : (z : Int).tmod 2 = 0 := by rw [Int.tmod_eq_emod_of_nonneg (by omega)]; omega
        have e7 : (z : Int) % 2 = 0 := by omega
        rw [e5] at e3 e4
        go_wp2
        exact ⟨⟨j + 1, z / 2, by omega, by go_num, by simp, e3, e4, trivial⟩, by simp [intOf] <;> omega⟩
      · have e5 : stepC z = z / 2 ^^^ 3988292384 := by rw [stepC, if_pos h2]
        have e6 : (z : Int).tmod 2 = 1 := by rw [Int.tmod_eq_emod_of_nonneg (by omega)]; omega
        have e7 : (z : Int) % 2 = 1 := by omega
        have e8 : bits .xor .u32 ((z : Int) / 2) 3988292384 = ((z / 2 ^^^ 3988292384 : Nat) : Int) := by
          rw [show (z : Int) / 2 = ((z / 2 : Nat) : Int) by omega, show (3988292384 : Int) = ((3988292384 : Nat) : Int) from rfl]
          exact xor_u32 (by omega) (by decide)
        rw [e5] at e3 e4
        go_wp2
        exact ⟨⟨j + 1, z / 2 ^^^ 3988292384, by omega, by go_num, rfl, e3, e4, trivial⟩, by simp [intOf] <;> omega⟩

end Go.Proofs.Ythlidhfahaalgaa

/-
  Sectors, used, Check and Room of chapter 5, of both. The lengths are bounded.
-/
namespace Go.Proofs.Ythlidhfahaalgaa
open Go.RowKit

structure Jn where
  records : List Bs
  many : Int
  synced : Int
def secT (n : Nat) : Nat := max 1 ((n + 111) / 112)
def usedT (l : List Bs) : Nat := l.foldl (fun n b => n + secT b.length) 0
theorem usedT_snoc (l : List Bs) (b : Bs) : usedT (l ++ [b]) = usedT l + secT b.length := by rw [usedT, List.foldl_append]; rfl
theorem usedT_take_succ {l : List Bs} {k : Nat} (hk : k < l.length) : usedT (l.take (k + 1)) = usedT (l.take k) + secT (l[k]).length := by
  rw [List.take_succ_eq_append_getElem hk, usedT_snoc]
theorem sumB_append (a b : List Bs) : sumB (a ++ b) = sumB a + sumB b := by
  induction a with
  | nil => simp [sumB]
  | cons x a ih => simp only [List.cons_append, sumB, List.foldr_cons] at ih ⊢; omega
theorem usedT_le (l : List Bs) : usedT l ≤ sumB l := by
  suffices H : ∀ n (l : List Bs), l.foldl (fun n b => n + secT b.length) n ≤ n + sumB l by
    have := H 0 l; rw [usedT]; omega
  intro n l
  induction l generalizing n with
  | nil => simp [sumB]
  | cons x l ih =>
    have := ih (n + secT x.length)
    simp only [List.foldl_cons, sumB, List.foldr_cons] at this ⊢
    have h2 : secT x.length ≤ x.length + 1 := by unfold secT; omega
    omega
theorem length_le_sumB (l : List Bs) : l.length ≤ sumB l := by
  induction l with
  | nil => simp [sumB]
  | cons x l ih => simp only [sumB, List.foldr_cons, List.length_cons] at ih ⊢; omega
theorem sumB_mem {l : List Bs} {k : Nat} (hk : k < l.length) : (l[k]).length < sumB l := by
  have h := sumB_append (l.take k) (l.drop k)
  rw [List.take_append_drop, List.drop_eq_getElem_cons hk] at h
  simp only [sumB, List.foldr_cons] at h ⊢
  omega
theorem sumB_take_le (l : List Bs) (k : Nat) : sumB (l.take k) ≤ sumB l := by
  have h := sumB_append (l.take k) (l.drop k)
  rw [List.take_append_drop] at h
  omega

def Jn.okB (l : Jn) : Bool := decide (1 ≤ l.many) && (decide (l.many ≤ 4096) && (decide (0 ≤ l.synced) && (decide (l.synced ≤ (l.records.length : Int)) && decide ((usedT l.records : Int) ≤ l.many))))
def Jn.checkT (l : Jn) : Int := if l.okB = true then 0 else 1
def Jn.roomT (l : Jn) : Int := if l.okB = true then 112 * (l.many - (usedT l.records : Int)) else 0

set_option maxRecDepth 100000 in
set_option maxHeartbeats 4000000 in
theorem jSectors_any (A : Option Addr) (n c : Nat) (w : World) (hn : n ≤ 4194304) : Calls Try.prog 35 #[.slice A n c] w fun e w' => e = .returned (.int .i64 (secT n : Nat)) ∧ w' = w := by
  have hm : (secT n : Int) = max 1 (((n : Int) + 112 - 1) / 112) := by unfold secT; omega
  rw [hm]
  go_enter Try.func35, Try.ntmps35
  go_wp2_with fail
  go_ret
  exact ⟨rfl, rfl⟩
set_option maxRecDepth 100000 in
set_option maxHeartbeats 4000000 in
theorem jRSectors_any (n : Nat) (w : World) (hn : n ≤ 4194304) : Calls Try.prog 39 #[.int .i64 n] w fun e w' => e = .returned (.int .i64 (secT n : Nat)) ∧ w' = w := by
  have hm : (secT n : Int) = max 1 (((n : Int) + 112 - 1) / 112) := by unfold secT; omega
  rw [hm]
  go_enter Try.func39, Try.ntmps39
  go_wp2_with fail
  go_ret
  exact ⟨rfl, rfl⟩
set_option maxRecDepth 100000 in
set_option maxHeartbeats 4000000 in
theorem jUsed_any (l : List Bs) (A : Option Addr) (c : Nat) (S : Nat → Prop) (w : World) (h : Hid (RwAt w S (.slice A l.length c) l)) (hs : sumB l ≤ 4194304) : Calls Try.prog 36 #[.slice A l.length c] w fun e w' => e = .returned (.int .i64 (usedT l : Nat)) ∧ w' = w := by
  obtain ⟨T, hT⟩ : ∃ T : Nat, Hid (usedT l = T) := ⟨_, rfl⟩
  rw [hT.out]
  obtain ⟨n, hn⟩ : ∃ n, l.length = n := ⟨_, rfl⟩
  have hn2 : n ≤ 4194304 := by have := length_le_sumB l; omega
  have HS := Lib.hid hs
  clear hs
  rw [hn] at h ⊢
  go_enter Try.func36, Try.ntmps36
  go_wp2_with fail
  go_loopw [2, 7] (fun x i wr => ∃ k m : Nat, k ≤ n ∧ i = .int .i64 k ∧ x = .int .i64 m ∧ Hid (m = usedT (l.take k)) ∧ wr = w) (fun _ i _ => n - (intOf i).toNat)
  case atStart => exact ⟨0, 0, by omega, rfl, rfl, rfl, rfl⟩
  case round =>
    obtain ⟨k, m, hk, rfl, rfl, hm, rfl⟩ := hrel
    rcases Nat.lt_or_ge k n with hlt | hge
    rotate_left
    · obtain rfl : k = n := by omega
      have hmT : m = T := by rw [hm.out, ← hT.out, ← hn, List.take_length]
      subst hmT
      go_wp2
      go_ret
      exact ⟨rfl, rfl⟩
    have hk7 : (k : Int) < (n : Int) := by omega
    have hk' : k < l.length := by omega
    obtain ⟨b, off, V, rfl, hSb, hbz, hc, hbs⟩ := h.out.row hk'
    obtain ⟨Ab, cb, rfl, _⟩ := hbs.form
    obtain ⟨z, hz⟩ : ∃ z, (l[k]).length = z := ⟨_, rfl⟩
    have hz2 : z ≤ 4194304 := by have := sumB_mem hk'; have := HS.out; omega
    have hm2 : m ≤ 4194304 := by rw [hm.out]; have := usedT_le (l.take k); have := sumB_take_le l k; have := HS.out; omega
    have hsz : secT z ≤ 4194304 := by unfold secT; omega
    have hnx : Hid (m + secT z = usedT (l.take (k + 1))) := by rw [Hid, usedT_take_succ hk', hm.out, hz]
    rw [hz] at hc
    clear hbs hz hm
    go_wp2_with fail
    refine (jSectors_any Ab z cb _ hz2).mono ?_
    rintro e w2 ⟨rfl, rfl⟩
    go_wp2
    exact ⟨⟨k + 1, m + secT z, by omega, by go_num, by first | rfl | simp, hnx, trivial⟩, by simp [intOf] <;> omega⟩
set_option maxRecDepth 100000 in
set_option maxHeartbeats 4000000 in
theorem jRUsed_any (l : List Bs) (A : Option Addr) (c : Nat) (S : Nat → Prop) (w : World) (h : Hid (RwAt w S (.slice A l.length c) l)) (hs : sumB l ≤ 4194304) : Calls Try.prog 40 #[.slice A l.length c] w fun e w' => e = .returned (.int .i64 (usedT l : Nat)) ∧ w' = w := by
  obtain ⟨T, hT⟩ : ∃ T : Nat, Hid (usedT l = T) := ⟨_, rfl⟩
  rw [hT.out]
  obtain ⟨n, hn⟩ : ∃ n, l.length = n := ⟨_, rfl⟩
  have hn2 : n ≤ 4194304 := by have := length_le_sumB l; omega
  have HS := Lib.hid hs
  clear hs
  rw [hn] at h ⊢
  go_enter Try.func40, Try.ntmps40
  go_wp2_with fail
  go_loopw [3, 4] (fun x i wr => ∃ k m : Nat, k ≤ n ∧ i = .int .i64 k ∧ x = .int .i64 m ∧ Hid (m = usedT (l.take k)) ∧ wr = w) (fun _ i _ => n - (intOf i).toNat)
  case atStart => exact ⟨0, 0, by omega, rfl, rfl, rfl, rfl⟩
  case round =>
    obtain ⟨k, m, hk, rfl, rfl, hm, rfl⟩ := hrel
    rcases Nat.lt_or_ge k n with hlt | hge
    rotate_left
    · obtain rfl : k = n := by omega
      have hmT : m = T := by rw [hm.out, ← hT.out, ← hn, List.take_length]
      subst hmT
      go_wp2
      go_ret
      exact ⟨rfl, rfl⟩
    have hk7 : (k : Int) < (n : Int) := by omega
    have hk' : k < l.length := by omega
    obtain ⟨b, off, V, rfl, hSb, hbz, hc, hbs⟩ := h.out.row hk'
    obtain ⟨Ab, cb, rfl, _⟩ := hbs.form
    obtain ⟨z, hz⟩ : ∃ z, (l[k]).length = z := ⟨_, rfl⟩
    have hz2 : z ≤ 4194304 := by have := sumB_mem hk'; have := HS.out; omega
    have hm2 : m ≤ 4194304 := by rw [hm.out]; have := usedT_le (l.take k); have := sumB_take_le l k; have := HS.out; omega
    have hsz : secT z ≤ 4194304 := by unfold secT; omega
    have hnx : Hid (m + secT z = usedT (l.take (k + 1))) := by rw [Hid, usedT_take_succ hk', hm.out, hz]
    rw [hz] at hc
    clear hbs hz hm
    go_wp2_with fail
    refine (jRSectors_any z _ hz2).mono ?_
    rintro e w2 ⟨rfl, rfl⟩
    go_wp2
    exact ⟨⟨k + 1, m + secT z, by omega, by go_num, by first | rfl | simp, hnx, trivial⟩, by simp [intOf] <;> omega⟩

end Go.Proofs.Ythlidhfahaalgaa
