/-
  The law CodecNumbers. (Printed by gen_gg.py.)
-/
import Derived.Test.YtcokkloaljaanaaGE
namespace Go.Proofs.Ytcokkloaljaanaa
open Go.RowKit
attribute [local go_sem ↓ high] app_named

theorem numT_mono (u : Nat) : ∀ v : Nat, u ≤ v → (numT u).length ≤ (numT v).length := by
  induction u using Nat.strongRecOn with
  | _ u ih =>
    intro v h
    by_cases hu : u < 128
    · rw [numT_small hu]
      exact numT_pos v
    · rw [numT_big hu, numT_big (u := v) (by omega)]
      have := ih (u / 128) (by omega) (v / 128) (by omega)
      simp only [List.length_cons]
      omega
theorem zig_pos {a b : Int} (h1 : 0 ≤ a) (h2 : a ≤ b) : zig a ≤ zig b := by
  unfold zig
  rw [if_pos h1, if_pos (by omega)]
  omega
theorem zig_neg {a b : Int} (h1 : a < 0) (h2 : b ≤ a) : zig a ≤ zig b := by
  unfold zig
  rw [if_neg (by omega), if_neg (by omega)]
  omega
theorem intV_enc (a : Int) : (Val.mk 1 a [] []).enc = 1 :: numT (zig a) := by rw [enc_1]; rfl
theorem intV_chk (a : Int) : chkT (.mk 1 a [] []) = 0 := by rfl
theorem intV_fits {a : Int} (h1 : -9223372036854775808 ≤ a) (h2 : a ≤ 9223372036854775807) : (Val.mk 1 a [] []).fits := ⟨⟨h1, h2⟩, ⟨Nat.zero_le _, Nat.zero_le _⟩, trivial⟩
theorem intV_len {a : Int} (h1 : -9223372036854775808 ≤ a) (h2 : a ≤ 9223372036854775807) : 2 ≤ (Val.mk 1 a [] []).enc.length ∧ (Val.mk 1 a [] []).enc.length ≤ 11 := by
  rw [intV_enc, List.length_cons]
  have := numT_pos (zig a)
  have := numT_le (zig_lt h1 h2)
  omega
theorem intV_size {a : Int} (h1 : -9223372036854775808 ≤ a) (h2 : a ≤ 9223372036854775807) (m : Nat) (hm : (Val.mk 1 a [] []).enc.length = m) (w : World) : Calls Try.prog 14 #[.agg #[.int .i64 1, .int .i64 a, .string ⟨#[]⟩, .slice none 0 0]] w fun e w' => e = .returned (.tuple #[.int .i64 m, .int .i64 0]) ∧ Below w.heap.size w w' := by
  have := cSize_any 0 (by decide) (.mk 1 a [] []) (.slice none 0 0) w (valsAt_nil _ _ _) (intV_fits h1 h2) (by have := intV_len h1 h2; omega)
  rw [enc_ok (intV_chk a)] at this
  dsimp only at this
  rw [hm] at this
  exact this
theorem intV_encode {a : Int} (h1 : -9223372036854775808 ≤ a) (h2 : a ≤ 9223372036854775807) (T : Bs) (hT : (Val.mk 1 a [] []).enc = T) (w : World) : Calls Try.prog 12 #[.agg #[.int .i64 1, .int .i64 a, .string ⟨#[]⟩, .slice none 0 0]] w (RetEnc (T, 0) w) := by
  have := cEncode_any 0 (by decide) (.mk 1 a [] []) (.slice none 0 0) w (valsAt_nil _ _ _) (intV_fits h1 h2) (by have := intV_len h1 h2; omega)
  rw [enc_ok (intV_chk a), hT] at this
  exact this
theorem intV_decode {a : Int} (h1 : -9223372036854775808 ≤ a) (h2 : a ≤ 9223372036854775807) (T : Bs) (hT : Hid ((Val.mk 1 a [] []).enc = T)) (V : Value) (w : World) (hV : BsAt w (fun b => b < w.heap.size) V T) : Calls Try.prog 18 #[V] w fun e w' => (∃ A c, e = .returned (.tuple #[.agg #[.int .i64 1, .int .i64 a, .string ⟨#[]⟩, .slice A 0 c], .int .i64 0])) ∧ Below w.heap.size w w' := by
  have hl := intV_len h1 h2
  rw [hT.out] at hl
  refine (cDecode_any T V w hV (by omega)).mono fun e w' hh => ?_
  rw [← hT.out, dec_enc (by rfl) (intV_fits h1 h2) (by simp [Val.depth])] at hh
  obtain ⟨A, c, he, _, hb⟩ := RetDec.open hh
  exact ⟨⟨A, c, he⟩, hb⟩

set_option maxRecDepth 100000 in
set_option maxHeartbeats 8000000 in
theorem lawN_1 (a b : Int) (w : World) (a1 : -9223372036854775808 ≤ a) (a2 : a ≤ 9223372036854775807) (b1 : -9223372036854775808 ≤ b) (b2 : b ≤ 9223372036854775807) (m n : Nat) (T : Bs) (m1 : 2 ≤ m) (m2 : m ≤ 11) (n1 : 2 ≤ n) (n2 : n ≤ 11) (h1 : 0 ≤ a) (h2 : a ≤ b) (h3 : m ≤ n) (hm : Hid ((Val.mk 1 a [] []).enc.length = m)) (hn : Hid ((Val.mk 1 b [] []).enc.length = n)) (hT : Hid ((Val.mk 1 a [] []).enc = T)) (hTm : Hid (T.length = m)) : Calls Try.prog 9 #[.int .i64 a, .int .i64 b] w (fun e w' => e = .returned (.bool true) ∧ Below w.heap.size w w') := by
  have hB := Below.refl w.heap.size w
  go_enter Try.func9, Try.ntmps9
  go_wp2_with fail
  refine (sane_any _).mono ?_
  rintro e w1 ⟨rfl, hb⟩
  have hB := hB.trans (hb.mono hB.size)
  clear hb
  go_wp2_with fail
  refine (rInt_any a _).mono ?_
  rintro e w2 ⟨rfl, hb⟩
  have hB := hB.trans (hb.mono hB.size)
  clear hb
  go_wp2_with fail
  refine (intV_size a1 a2 m hm.out _).mono ?_
  rintro e w3 ⟨rfl, hb⟩
  have hB := hB.trans (hb.mono hB.size)
  clear hb
  go_wp2_with fail
  refine (rInt_any b _).mono ?_
  rintro e w4 ⟨rfl, hb⟩
  have hB := hB.trans (hb.mono hB.size)
  clear hb
  go_wp2_with fail
  refine (intV_size b1 b2 n hn.out _).mono ?_
  rintro e w5 ⟨rfl, hb⟩
  have hB := hB.trans (hb.mono hB.size)
  clear hb
  go_wp2_with fail
  refine (rInt_any a _).mono ?_
  rintro e w6 ⟨rfl, hb⟩
  have hB := hB.trans (hb.mono hB.size)
  clear hb
  go_wp2_with fail
  refine (intV_encode a1 a2 T hT.out _).mono ?_
  intro e w7 hh
  obtain ⟨Ae, ce, rfl, Be, hb⟩ := RetEnc.open hh hTm
  clear hh
  have hB := hB.trans (hb.mono hB.size)
  clear hb
  go_wp2_with fail
  refine (intV_decode a1 a2 T hT _ _ (by_lt Be)).mono ?_
  rintro e w8 ⟨⟨A, c, rfl⟩, hb⟩
  have Be := by_later Be hb
  have hB := hB.trans (hb.mono hB.size)
  clear hb
  go_wp2
  go_ret
  exact ⟨rfl, hB.alloc hB.size _⟩

set_option maxRecDepth 100000 in
set_option maxHeartbeats 8000000 in
theorem lawN_2 (a b : Int) (w : World) (a1 : -9223372036854775808 ≤ a) (a2 : a ≤ 9223372036854775807) (b1 : -9223372036854775808 ≤ b) (b2 : b ≤ 9223372036854775807) (m n : Nat) (T : Bs) (m1 : 2 ≤ m) (m2 : m ≤ 11) (n1 : 2 ≤ n) (n2 : n ≤ 11) (h1 : 0 ≤ a) (h2 : b < a) (hm : Hid ((Val.mk 1 a [] []).enc.length = m)) (hn : Hid ((Val.mk 1 b [] []).enc.length = n)) (hT : Hid ((Val.mk 1 a [] []).enc = T)) (hTm : Hid (T.length = m)) : Calls Try.prog 9 #[.int .i64 a, .int .i64 b] w (fun e w' => e = .returned (.bool true) ∧ Below w.heap.size w w') := by
  have hB := Below.refl w.heap.size w
  go_enter Try.func9, Try.ntmps9
  go_wp2_with fail
  refine (sane_any _).mono ?_
  rintro e w1 ⟨rfl, hb⟩
  have hB := hB.trans (hb.mono hB.size)
  clear hb
  go_wp2_with fail
  refine (rInt_any a _).mono ?_
  rintro e w2 ⟨rfl, hb⟩
  have hB := hB.trans (hb.mono hB.size)
  clear hb
  go_wp2_with fail
  refine (intV_size a1 a2 m hm.out _).mono ?_
  rintro e w3 ⟨rfl, hb⟩
  have hB := hB.trans (hb.mono hB.size)
  clear hb
  go_wp2_with fail
  refine (rInt_any b _).mono ?_
  rintro e w4 ⟨rfl, hb⟩
  have hB := hB.trans (hb.mono hB.size)
  clear hb
  go_wp2_with fail
  refine (intV_size b1 b2 n hn.out _).mono ?_
  rintro e w5 ⟨rfl, hb⟩
  have hB := hB.trans (hb.mono hB.size)
  clear hb
  go_wp2_with fail
  refine (rInt_any a _).mono ?_
  rintro e w6 ⟨rfl, hb⟩
  have hB := hB.trans (hb.mono hB.size)
  clear hb
  go_wp2_with fail
  refine (intV_encode a1 a2 T hT.out _).mono ?_
  intro e w7 hh
  obtain ⟨Ae, ce, rfl, Be, hb⟩ := RetEnc.open hh hTm
  clear hh
  have hB := hB.trans (hb.mono hB.size)
  clear hb
  go_wp2_with fail
  refine (intV_decode a1 a2 T hT _ _ (by_lt Be)).mono ?_
  rintro e w8 ⟨⟨A, c, rfl⟩, hb⟩
  have Be := by_later Be hb
  have hB := hB.trans (hb.mono hB.size)
  clear hb
  go_wp2
  go_ret
  exact ⟨rfl, hB.alloc hB.size _⟩

set_option maxRecDepth 100000 in
set_option maxHeartbeats 8000000 in
theorem lawN_3 (a b : Int) (w : World) (a1 : -9223372036854775808 ≤ a) (a2 : a ≤ 9223372036854775807) (b1 : -9223372036854775808 ≤ b) (b2 : b ≤ 9223372036854775807) (m n : Nat) (T : Bs) (m1 : 2 ≤ m) (m2 : m ≤ 11) (n1 : 2 ≤ n) (n2 : n ≤ 11) (h1 : a < 0) (h2 : b ≤ a) (h3 : m ≤ n) (hm : Hid ((Val.mk 1 a [] []).enc.length = m)) (hn : Hid ((Val.mk 1 b [] []).enc.length = n)) (hT : Hid ((Val.mk 1 a [] []).enc = T)) (hTm : Hid (T.length = m)) : Calls Try.prog 9 #[.int .i64 a, .int .i64 b] w (fun e w' => e = .returned (.bool true) ∧ Below w.heap.size w w') := by
  have hB := Below.refl w.heap.size w
  go_enter Try.func9, Try.ntmps9
  go_wp2_with fail
  refine (sane_any _).mono ?_
  rintro e w1 ⟨rfl, hb⟩
  have hB := hB.trans (hb.mono hB.size)
  clear hb
  go_wp2_with fail
  refine (rInt_any a _).mono ?_
  rintro e w2 ⟨rfl, hb⟩
  have hB := hB.trans (hb.mono hB.size)
  clear hb
  go_wp2_with fail
  refine (intV_size a1 a2 m hm.out _).mono ?_
  rintro e w3 ⟨rfl, hb⟩
  have hB := hB.trans (hb.mono hB.size)
  clear hb
  go_wp2_with fail
  refine (rInt_any b _).mono ?_
  rintro e w4 ⟨rfl, hb⟩
  have hB := hB.trans (hb.mono hB.size)
  clear hb
  go_wp2_with fail
  refine (intV_size b1 b2 n hn.out _).mono ?_
  rintro e w5 ⟨rfl, hb⟩
  have hB := hB.trans (hb.mono hB.size)
  clear hb
  go_wp2_with fail
  refine (rInt_any a _).mono ?_
  rintro e w6 ⟨rfl, hb⟩
  have hB := hB.trans (hb.mono hB.size)
  clear hb
  go_wp2_with fail
  refine (intV_encode a1 a2 T hT.out _).mono ?_
  intro e w7 hh
  obtain ⟨Ae, ce, rfl, Be, hb⟩ := RetEnc.open hh hTm
  clear hh
  have hB := hB.trans (hb.mono hB.size)
  clear hb
  go_wp2_with fail
  refine (intV_decode a1 a2 T hT _ _ (by_lt Be)).mono ?_
  rintro e w8 ⟨⟨A, c, rfl⟩, hb⟩
  have Be := by_later Be hb
  have hB := hB.trans (hb.mono hB.size)
  clear hb
  go_wp2
  go_ret
  exact ⟨rfl, hB.alloc hB.size _⟩

set_option maxRecDepth 100000 in
set_option maxHeartbeats 8000000 in
theorem lawN_4 (a b : Int) (w : World) (a1 : -9223372036854775808 ≤ a) (a2 : a ≤ 9223372036854775807) (b1 : -9223372036854775808 ≤ b) (b2 : b ≤ 9223372036854775807) (m n : Nat) (T : Bs) (m1 : 2 ≤ m) (m2 : m ≤ 11) (n1 : 2 ≤ n) (n2 : n ≤ 11) (h1 : a < 0) (h2 : a < b) (hm : Hid ((Val.mk 1 a [] []).enc.length = m)) (hn : Hid ((Val.mk 1 b [] []).enc.length = n)) (hT : Hid ((Val.mk 1 a [] []).enc = T)) (hTm : Hid (T.length = m)) : Calls Try.prog 9 #[.int .i64 a, .int .i64 b] w (fun e w' => e = .returned (.bool true) ∧ Below w.heap.size w w') := by
  have hB := Below.refl w.heap.size w
  go_enter Try.func9, Try.ntmps9
  go_wp2_with fail
  refine (sane_any _).mono ?_
  rintro e w1 ⟨rfl, hb⟩
  have hB := hB.trans (hb.mono hB.size)
  clear hb
  go_wp2_with fail
  refine (rInt_any a _).mono ?_
  rintro e w2 ⟨rfl, hb⟩
  have hB := hB.trans (hb.mono hB.size)
  clear hb
  go_wp2_with fail
  refine (intV_size a1 a2 m hm.out _).mono ?_
  rintro e w3 ⟨rfl, hb⟩
  have hB := hB.trans (hb.mono hB.size)
  clear hb
  go_wp2_with fail
  refine (rInt_any b _).mono ?_
  rintro e w4 ⟨rfl, hb⟩
  have hB := hB.trans (hb.mono hB.size)
  clear hb
  go_wp2_with fail
  refine (intV_size b1 b2 n hn.out _).mono ?_
  rintro e w5 ⟨rfl, hb⟩
  have hB := hB.trans (hb.mono hB.size)
  clear hb
  go_wp2_with fail
  refine (rInt_any a _).mono ?_
  rintro e w6 ⟨rfl, hb⟩
  have hB := hB.trans (hb.mono hB.size)
  clear hb
  go_wp2_with fail
  refine (intV_encode a1 a2 T hT.out _).mono ?_
  intro e w7 hh
  obtain ⟨Ae, ce, rfl, Be, hb⟩ := RetEnc.open hh hTm
  clear hh
  have hB := hB.trans (hb.mono hB.size)
  clear hb
  go_wp2_with fail
  refine (intV_decode a1 a2 T hT _ _ (by_lt Be)).mono ?_
  rintro e w8 ⟨⟨A, c, rfl⟩, hb⟩
  have Be := by_later Be hb
  have hB := hB.trans (hb.mono hB.size)
  clear hb
  go_wp2
  go_ret
  exact ⟨rfl, hB.alloc hB.size _⟩

theorem law_CodecNumbers (a b : Int) (w : World) (ha : -9223372036854775808 ≤ a ∧ a ≤ 9223372036854775807) (hb : -9223372036854775808 ≤ b ∧ b ≤ 9223372036854775807) : Calls Try.prog 9 #[.int .i64 a, .int .i64 b] w (fun e w' => e = .returned (.bool true) ∧ Below w.heap.size w w') := by
  obtain ⟨a1, a2⟩ := ha
  obtain ⟨b1, b2⟩ := hb
  have la := intV_len a1 a2
  have lb := intV_len b1 b2
  have hmono : zig a ≤ zig b → (Val.mk 1 a [] []).enc.length ≤ (Val.mk 1 b [] []).enc.length := fun h => by
    rw [intV_enc, intV_enc, List.length_cons, List.length_cons]
    have := numT_mono _ _ h
    omega
  rcases Int.lt_or_le a 0 with h | h
  · rcases Int.lt_or_le a b with h2 | h2
    · exact lawN_4 a b w a1 a2 b1 b2 _ _ _ la.1 la.2 lb.1 lb.2 h h2 rfl rfl rfl rfl
    · exact lawN_3 a b w a1 a2 b1 b2 _ _ _ la.1 la.2 lb.1 lb.2 h h2 (hmono (zig_neg h h2)) rfl rfl rfl rfl
  · rcases Int.lt_or_le b a with h2 | h2
    · exact lawN_2 a b w a1 a2 b1 b2 _ _ _ la.1 la.2 lb.1 lb.2 h h2 rfl rfl rfl rfl
    · exact lawN_1 a b w a1 a2 b1 b2 _ _ _ la.1 la.2 lb.1 lb.2 h h2 (hmono (zig_pos h h2)) rfl rfl rfl rfl

end Go.Proofs.Ytcokkloaljaanaa
