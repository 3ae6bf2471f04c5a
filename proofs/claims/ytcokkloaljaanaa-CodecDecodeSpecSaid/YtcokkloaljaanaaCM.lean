/-
  Contracts of numeral, unsigned and signed of codec, and of unsigned of the reference. No condition.
-/
import Derived.Test.YtcokkloaljaanaaCL
namespace Go.Proofs.Ytcokkloaljaanaa
open Go.RowKit
attribute [local go_sem ↓ high] app_named

set_option maxRecDepth 100000 in
set_option maxHeartbeats 2000000 in
theorem cNumeral_any (u : Nat) (hu : u < 18446744073709551616) (base : Nat) (v : Value) (l : Bs) (w : World) (ho : OwnBs w base v l) (hbase : base ≤ w.heap.size) (hl : l.length ≤ 100000000) :
    Calls Try.prog 38 #[v, .int .u64 u] w (RetApp (l ++ numT u) base v w) := by
  have hlen := numT_le hu
  have HU := Lib.hid hu
  have hO := Lib.hid ho
  have hG := grownBy_refl w v.ownBlock
  have hL := Lies.refl w v
  have HL := Lib.hid hl
  have hlen2 : (l ++ numT u).length ≤ 100000010 := by rw [List.length_append]; omega
  obtain ⟨T, hT⟩ : ∃ T, l ++ numT u = T := ⟨_, rfl⟩
  rw [hT] at hlen2 ⊢
  have HT := Lib.hid hT
  clear hT hl ho hlen hu
  go_enter Try.func38, Try.ntmps38
  go_wp2
  go_loopw [0, 1] (fun b x wr => ∃ (V : Value) (un : Nat) (pre : Bs), b = V ∧ x = .int .u64 un ∧ Hid (un < 18446744073709551616) ∧ Hid (pre ++ numT un = T) ∧ Hid (OwnBs wr base V pre) ∧ w.grownBy wr v.ownBlock ∧ Lies w v V) (fun _ x _ => (intOf x).toNat)
  case atStart => exact ⟨v, u, l, rfl, rfl, HU, HT, hO, hG, hL⟩
  case round =>
    clear hO hG hL HU HL HT
    obtain ⟨V, un, pre, hVe, rfl, HU, HT, hO, hG, hL⟩ := hrel
    replace hVe := hVe.symm
    subst hVe
    have hpl : pre.length ≤ 100000010 := by
      have := congrArg List.length HT.out
      rw [List.length_append] at this
      omega
    have hbw := Nat.le_trans hbase hG.size
    have hun := HU.out
    have e1 : ∀ x : UInt8, ∃ v' w', (appF #[27, 27] 27 #[V, .slice (some ⟨wr.heap.size, 0, none⟩) 1 1]).run Try.prog (wr.alloc (.cells #[.int .u8 (x.toNat : Int)] 5)) = .ok v' w' ∧ OwnBs w' base v' (pre ++ [x]) ∧ w.grownBy w' v.ownBlock ∧ Lies w v v' := by
      intro x
      have hst := (Below.refl wr.heap.size wr).alloc (Nat.le_refl _) (.cells #[.int .u8 (x.toNat : Int)] 5)
      obtain ⟨v', w', hr, h1, h2, h3⟩ := app_one x (hO.out.below hst) (Box.new wr [.int .u8 (x.toNat : Int)] 5) (Nat.le_trans hbw hst.size) (by omega)
      exact ⟨v', w', hr, h1, grownBy_trans hG hL (grownBy_below hst h2), hL.trans hG.size (h3.below hst)⟩
    by_cases hlt : un < 128
    · obtain ⟨v', w', hr, h1, h2, h3⟩ := e1 (UInt8.ofNat un)
      rw [u8_nat (by omega)] at hr
      have HR : Hid (RetApp T base v w (.returned v') w') := ⟨v', rfl, by rw [← HT.out, numT_small hlt]; exact h1, h2, h3⟩
      clear h1 h2 h3 hO HT e1 hL hG HU hun hpl
      go_wp2
      go_ret
      exact HR.out
    · obtain ⟨v', w', hr, h1, h2, h3⟩ := e1 (UInt8.ofNat (un % 128 + 128))
      have hob := or_byte un
      rw [← hob] at hr
      have HT2 : Hid ((pre ++ [UInt8.ofNat (un % 128 + 128)]) ++ numT (un / 128) = T) := by
        rw [Hid, ← HT.out, numT_big hlt, List.append_assoc]
        rfl
      have HO2 := Lib.hid h1
      have HU2 : Hid (un / 128 < 18446744073709551616) := by rw [Hid]; omega
      clear h1 hO HT e1 hL hG HU hob
      have hn : 128 ≤ un := by omega
      clear hun
      go_wp2
      refine ⟨⟨v', un / 128, _, rfl, ?_, HU2, HT2, HO2, h2, h3⟩, ?_⟩
      · simp
      · simp [intOf]; omega

theorem wrap_u64' (n : Int) : IntKind.u64.wrap n = n % 18446744073709551616 := IntKind.wrap_u64 n
set_option maxHeartbeats 1000000 in
theorem cUnsigned_any (n : Int) (w : World) (h1 : -9223372036854775808 ≤ n) (h2 : n ≤ 9223372036854775807) :
    Calls Try.prog 39 #[.int .i64 n] w fun e w' => e = .returned (.int .u64 (zig n)) ∧ w = w' := by
  by_cases h0 : 0 ≤ n
  · have hz : bits .xor .u64 (n * 2) (n / 9223372036854775808) = (zig n : Int) := by
      have e1 : n * 2 = ((2 * n).toNat : Int) := by omega
      have e2 : n / 9223372036854775808 = ((0 : Nat) : Int) := by omega
      rw [e1, e2, bits_xor_u64_nat _ _ (by omega) (by decide), Nat.xor_zero, zig, if_pos h0]
    have HZ := Lib.hid hz
    clear hz
    go_enter Try.func39, Try.ntmps39
    go_wp2
    go_ret
    exact ⟨by rw [← HZ.out]; rfl, rfl⟩
  · have hz : bits .xor .u64 (IntKind.u64.wrap (IntKind.u64.wrap n * 2)) (IntKind.u64.wrap (n / 9223372036854775808)) = (zig n : Int) := by
      have e1 : IntKind.u64.wrap (IntKind.u64.wrap n * 2) = ((2 * n + 18446744073709551616).toNat : Int) := by rw [wrap_u64', wrap_u64']; omega
      have e2 : IntKind.u64.wrap (n / 9223372036854775808) = ((18446744073709551615 : Nat) : Int) := by rw [wrap_u64']; omega
      rw [e1, e2, bits_xor_u64_nat _ _ (by omega) (by decide), nat_xor_ones (by omega), zig, if_neg h0]
      omega
    have HZ := Lib.hid hz
    clear hz
    go_enter Try.func39, Try.ntmps39
    go_wp2
    go_ret
    exact ⟨by rw [← HZ.out]; rfl, rfl⟩

theorem bits_xor_i64_zero {a : Nat} (h : a < 9223372036854775808) : bits .xor .i64 (a : Int) 0 = (a : Int) := by
  show IntKind.i64.wrap ((BitVec.ofInt 64 (a : Int) ^^^ BitVec.ofInt 64 0).toNat : Int) = _
  have e : BitVec.ofInt 64 0 = 0#64 := rfl
  rw [e, BitVec.xor_zero, BitVec.ofInt_natCast, BitVec.toNat_ofNat, Nat.mod_eq_of_lt (by omega)]
  simp [IntKind.wrap, IntKind.bits, IntKind.signed]
  omega
theorem bits_xor_i64_ones {a : Nat} (h : a < 9223372036854775808) : bits .xor .i64 (a : Int) (-1) = -(a : Int) - 1 := by
  show IntKind.i64.wrap ((BitVec.ofInt 64 (a : Int) ^^^ BitVec.ofInt 64 (-1)).toNat : Int) = _
  have e : BitVec.ofInt 64 (-1) = BitVec.allOnes 64 := by decide
  rw [e, BitVec.xor_allOnes, BitVec.toNat_not, BitVec.ofInt_natCast, BitVec.toNat_ofNat, Nat.mod_eq_of_lt (by omega)]
  simp [IntKind.wrap, IntKind.bits, IntKind.signed]
  omega
theorem and_one (u : Nat) (h : u < 18446744073709551616) : bits .and .u64 (u : Int) 1 = ((u % 2 : Nat) : Int) := by
  have := bits_and_u64_nat u 1 h (by decide)
  rw [Nat.and_one_is_mod] at this
  exact this
set_option maxHeartbeats 1000000 in
theorem cSigned_any (u : Nat) (w : World) (h : u < 18446744073709551616) :
    Calls Try.prog 45 #[.int .u64 u] w fun e w' => e = .returned (.int .i64 (zag u)) ∧ w = w' := by
  have hz : bits .xor .i64 ((u : Int) / 2) (wrap64 (-wrap64 (bits .and .u64 (u : Int) 1))) = zag u := by
    rw [and_one u h]
    have e1 : (u : Int) / 2 = ((u / 2 : Nat) : Int) := by omega
    rw [e1, zag]
    by_cases h2 : u % 2 = 1
    · have e2 : wrap64 (-wrap64 ((u % 2 : Nat) : Int)) = -1 := by rw [h2]; simp [wrap64]
      rw [if_pos h2, e2, bits_xor_i64_ones (by omega)]
    · have h3 : u % 2 = 0 := by omega
      have e2 : wrap64 (-wrap64 ((u % 2 : Nat) : Int)) = 0 := by rw [h3]; simp [wrap64]
      rw [if_neg h2, e2, bits_xor_i64_zero (by omega)]
  have HZ := Lib.hid hz
  clear hz
  go_enter Try.func45, Try.ntmps45
  go_wp2
  go_ret
  exact ⟨by rw [← HZ.out]; rfl, rfl⟩

set_option maxHeartbeats 1000000 in
theorem rUnsigned_any (n : Int) (w : World) (h1 : -9223372036854775808 ≤ n) (h2 : n ≤ 9223372036854775807) :
    Calls Try.prog 43 #[.int .i64 n] w fun e w' => e = .returned (.int .u64 (zig n)) ∧ w = w' := by
  by_cases h0 : 0 ≤ n
  · have HZ : Hid (2 * n = (zig n : Int)) := by rw [Hid, zig, if_pos h0]; omega
    go_enter Try.func43, Try.ntmps43
    go_wp2
    go_ret
    exact ⟨by rw [← HZ.out]; rfl, rfl⟩
  · have HZ : Hid (2 * -(n + 1) + 1 = (zig n : Int)) := by rw [Hid, zig, if_neg h0]; omega
    go_enter Try.func43, Try.ntmps43
    go_wp2
    go_ret
    exact ⟨by rw [← HZ.out]; rfl, rfl⟩

end Go.Proofs.Ytcokkloaljaanaa
