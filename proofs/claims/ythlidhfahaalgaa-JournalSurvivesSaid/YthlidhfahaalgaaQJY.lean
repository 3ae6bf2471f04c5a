/-
  Sector of the reference of chapter 5. (Printed by gen_jy.py.) No condition but the lengths.
-/
import Derived.Test.YthlidhfahaalgaaQJV
import Derived.Test.YthlidhfahaalgaaQDZ
namespace Go.Proofs.Ythlidhfahaalgaa
open Go.RowKit
attribute [local go_sem ↓ high] app_named cop_named

set_option maxRecDepth 100000 in
set_option maxHeartbeats 16000000 in
theorem jRSector_0 (g k : Nat) (b : Bs) (A : Option Addr) (m mc : Nat) (S : Nat → Prop) (w : World) (hb0 : Hid (BsAt w S (.slice A m mc) b)) (hm : Hid (b.length = m)) (hm2 : m ≤ 112) (hk : k < 65536) (hg : g < 18446744073709551616) :
    Calls Try.prog 47 #[.int .u64 (g : Int), .int .i64 (k : Int), .bool false, .bool false, .slice A m mc] w (RetOB (encT g k 0 b) w) := by
  have hk2 : IntKind.u64.wrap (k : Int) = (k : Int) := wrap_u64_nat (by omega)
  have HL := Lib.hid (show b.length ≤ 112 by rw [hm.out]; exact hm2)
  have HEM := Lib.hid (show ((UInt8.ofNat m).toNat : Int) = (m : Int) by rw [UInt8.toNat_ofNat']; omega)
  have hnum : ∀ (x q : Nat) (u : World), q ≤ 4 → x < 18446744073709551616 → Calls Try.prog 66 #[.int .u64 (x : Int), .int .i64 (q : Int)] u (RetOB (numeral x q) u) := fun x q u hq hx => (jRNumeral_any x q u hq hx).mono fun e w' h => ⟨_, h.1, h.2.1.out, h.2.2⟩
  have HNUM := Lib.hid hnum
  clear hnum
  have N1 : Calls Try.prog 66 #[.int .u64 (k : Int), .int .i64 2] w (RetOB (numeral k 2) w) := HNUM.out k 2 w (by decide) (by omega)
  go_enter Try.func47, Try.ntmps47
  go_wp2_with fail
  refine N1.mono ?_
  rintro e w1 ⟨V1, rfl, ho1, hb1⟩
  obtain ⟨A1, c1, rfl⟩ := ho1.form'
  rw [numeral_length]
  have hs1 := hb1.size
  -- kind and length appended
  have ha1 := (Below.refl w1.heap.size w1).alloc (Nat.le_refl _) (.cells #[.int .u8 0, .int .u8 (m : Int)] 5)
  have X : Box (w1.alloc (.cells #[.int .u8 0, .int .u8 (m : Int)] 5)) w1.heap.size (byV [0, UInt8.ofNat m]) := by
    have := Box.new w1 (byV [(0 : UInt8), UInt8.ofNat m]) 5
    have e : (byV [(0 : UInt8), UInt8.ofNat m]).toArray = #[.int .u8 0, .int .u8 (m : Int)] := by rw [byV, ← HEM.out]; rfl
    rwa [e] at this
  obtain ⟨V2, w2, hr2, ho2, hg2⟩ := run_appB 35 (ho1.later ha1) (box_all (n := 2) X rfl (by decide)) (by have := ha1.size; omega) (by simp [numeral_length])
  rw [numeral_length] at hr2
  have hb2 := own_below (ho1.later ha1) (by have := ha1.size; omega) hg2
  have hB2 := (hb1.alloc hs1 (.cells #[.int .u8 0, .int .u8 (m : Int)] 5)).trans hb2
  obtain ⟨A2, c2, rfl⟩ := ho2.form'
  have hl2 : (numeral k 2 ++ [(0 : UInt8), UInt8.ofNat m]).length = 4 := by simp [numeral_length]
  rw [hl2] at hr2
  -- the piece
  obtain ⟨V3, w3, hr3, ho3, hg3⟩ := run_appB 35 ho2 (hb0.out.keep (Keeps.of hB2)) hB2.size (by rw [hl2]; have := HL.out; omega)
  rw [hl2] at hr3
  have hb3 := own_below ho2 hB2.size hg3
  have hB3 := hB2.trans hb3
  obtain ⟨A3, c3, rfl⟩ := ho3.form'
  have hl3 : (numeral k 2 ++ [(0 : UInt8), UInt8.ofNat m] ++ b).length = 4 + m := by rw [List.length_append, hl2, hm.out]
  rw [hl3] at hr3
  -- the zeros
  obtain ⟨V4, w4, hr4, ho4, hg4⟩ := run_appZ (m := 112 - m) 35 ho3 hB3.size (by rw [hl3]; omega) (by rw [hl3]; omega)
  have e112 : ((112 - m : Nat) : Int) = 112 - (m : Int) := by omega
  rw [hl3, e112] at hr4
  have hb4 := own_below ho3 hB3.size hg4
  have hB4 := hB3.trans hb4
  have hbody : numeral k 2 ++ [(0 : UInt8), UInt8.ofNat m] ++ b ++ List.replicate (112 - m) 0 = bodyT k 0 b := by
    rw [bodyT, padZ, hm.out]; simp
  rw [hbody] at ho4
  have hl4 := bodyT_length k (0 : UInt8) HL.out
  obtain ⟨A4, c4, hV4⟩ := ho4.form'
  rw [hl4] at hV4
  subst hV4
  have hbs4 := ho4.old (by rw [hl4]; simp [maxLen])
  have hx1 : (4 : Int) + (m : Int) = ((4 + m : Nat) : Int) := by omega
  have N2 : Calls Try.prog 66 #[.int .u64 (g : Int), .int .i64 4] w4 (RetOB (numeral g 4) w4) := HNUM.out g 4 w4 (by decide) hg
  have HB4 := Lib.hid hB4
  have HBS4 := Lib.hid hbs4
  have HBODY := Lib.hid hl4
  clear ho1 ho2 ho3 ho4 hb1 hb2 hb3 hb4 hg2 hg3 hg4 hB2 hB3 hB4 hbs4 hbody hl2 hl3 hl4 e112 X ha1 hx1 N1
  go_wp2_with fail
  refine N2.mono ?_
  rintro e w5 ⟨V5, rfl, ho5, hb5⟩
  obtain ⟨A5, c5, rfl⟩ := ho5.form'
  rw [numeral_length]
  have hbs5 := HBS4.out.more hb5
  have hB5 := HB4.out.trans (hb5.mono HB4.out.size)
  obtain ⟨T, hT⟩ : ∃ T, sumT (bodyT k 0 b) = T := ⟨_, rfl⟩
  have hT2 : T < 4294967296 := by rw [← hT]; exact sumT_lt _
  have hT3 : IntKind.u64.wrap (T : Int) = (T : Int) := wrap_u64_nat (by omega)
  have CK := jChecksum_at hbs5 HBODY.out hT
  have N3 : Calls Try.prog 66 #[.int .u64 (T : Int), .int .i64 4] w5 (RetOB (numeral T 4) w5) := HNUM.out T 4 w5 (by decide) (by omega)
  have HT := Lib.hid hT
  have HBS5 := Lib.hid hbs5
  have HO5 := Lib.hid ho5
  have HB5 := Lib.hid hb5
  have HBB5 := Lib.hid hB5
  clear hT hbs5 ho5 hb5 hB5 hr2 hr3 hr4 N2 hs1
  go_wp2_with fail
  refine CK.mono ?_
  rintro e w5' ⟨rfl, rfl⟩
  go_wp2_with fail
  refine N3.mono ?_
  rintro e w6 ⟨V6, rfl, ho6, hb6⟩
  obtain ⟨A6, c6, rfl⟩ := ho6.form'
  rw [numeral_length]
  rw [numeral_length] at ho6
  have hbs6 : BsAt w6 (fun b => b < w6.heap.size) (.slice A6 4 c6) (numeral T 4) := ho6.old (by simp [maxLen, numeral_length])
  have ho5 := HO5.out.later hb6
  rw [numeral_length] at ho5
  have hs5 := HB5.out.size
  have hs6 := hb6.size
  obtain ⟨V7, w7, hr7, ho7, hg7⟩ := run_appB 35 ho5 hbs6 (by omega) (by simp [numeral_length])
  have hb7 := own_below ho5 (by omega) hg7
  have hB7 := (HBB5.out.trans (hb6.mono HBB5.out.size)).trans (hb7.mono HB4.out.size)
  obtain ⟨A7, c7, hV7⟩ := ho7.form'
  have hl7 : (numeral g 4 ++ numeral T 4).length = 8 := by simp [numeral_length]
  rw [hl7] at hV7
  subst hV7
  have hK7 : Keeps (fun b => b < w4.heap.size) w4 w7 := ((Keeps.of HB5.out).trans (Keeps.from hb6 (fun b h _ => by omega))).trans (Keeps.from hb7 (fun b h _ => h))
  have hbs7 := HBS4.out.keep hK7
  have hs7 := hb7.size
  obtain ⟨V8, w8, hr8, ho8, hg8⟩ := run_appB 35 ho7 hbs7 (by omega) (by rw [hl7, HBODY.out]; omega)
  have hb8 := own_below ho7 (by omega) hg8
  have hB8 := hB7.trans (hb8.mono HB4.out.size)
  obtain ⟨A8, c8, hV8⟩ := ho8.form'
  have hl8 : (numeral g 4 ++ numeral T 4 ++ bodyT k 0 b).length = 124 := by rw [List.length_append, hl7, HBODY.out]
  rw [hl8] at hV8
  subst hV8
  have N4 : Calls Try.prog 66 #[.int .u64 (g : Int), .int .i64 4] w8 (RetOB (numeral g 4) w8) := HNUM.out g 4 w8 (by decide) hg
  have HO8 := Lib.hid ho8
  have HB8 := Lib.hid hB8
  have hs8 := hb8.size
  have HS8 := Lib.hid (show w4.heap.size ≤ w8.heap.size by omega)
  have HL8 := Lib.hid hl8
  clear ho5 ho6 ho7 ho8 hb6 hb7 hb8 hg7 hg8 hB7 hB8 hK7 hbs6 hbs7 hl7 hl8 HO5 HB5 HBS5 CK N3 hs5 hs6 hs7 hs8
  go_wp2_with fail
  refine N4.mono ?_
  rintro e w9 ⟨V9, rfl, ho9, hb9⟩
  obtain ⟨A9, c9, rfl⟩ := ho9.form'
  rw [numeral_length]
  rw [numeral_length] at ho9
  have hbs9 : BsAt w9 (fun b => b < w9.heap.size) (.slice A9 4 c9) (numeral g 4) := ho9.old (by simp [maxLen, numeral_length])
  have ho8 := HO8.out.later hb9
  have hs9 := hb9.size
  obtain ⟨V10, w10, hr10, ho10, hg10⟩ := run_appB 35 ho8 hbs9 (by have := HS8.out; omega) (by rw [HL8.out, numeral_length]; omega)
  have hb10 := own_below ho8 (by have := HS8.out; omega) hg10
  have hB10 := (HB8.out.trans (hb9.mono HB8.out.size)).trans (hb10.mono HB4.out.size)
  have henc : numeral g 4 ++ numeral T 4 ++ bodyT k 0 b ++ numeral g 4 = encT g k 0 b := by rw [encT, HT.out]; simp
  rw [henc] at ho10
  have HEND : Hid (OwnBs w10 w.heap.size V10 (encT g k 0 b) ∧ Below w.heap.size w w10) := Lib.hid ⟨⟨ho10.1, by
    rcases ho10.2 with h | ⟨g', cap, cur, e1, e2, e3⟩
    · exact .inl h
    · exact .inr ⟨g', cap, cur, e1, Nat.le_trans HB4.out.size e2, e3⟩⟩, hB10⟩
  clear ho8 ho9 ho10 hb9 hb10 hg10 hB10 hbs9 henc HO8 HB8 HB4 HBB5 N4
  go_wp2
  go_ret
  exact ⟨_, rfl, HEND.out.1, HEND.out.2⟩
set_option maxRecDepth 100000 in
set_option maxHeartbeats 16000000 in
theorem jRSector_1 (g k : Nat) (b : Bs) (A : Option Addr) (m mc : Nat) (S : Nat → Prop) (w : World) (hb0 : Hid (BsAt w S (.slice A m mc) b)) (hm : Hid (b.length = m)) (hm2 : m ≤ 112) (hk : k < 65536) (hg : g < 18446744073709551616) :
    Calls Try.prog 47 #[.int .u64 (g : Int), .int .i64 (k : Int), .bool true, .bool false, .slice A m mc] w (RetOB (encT g k 1 b) w) := by
  have hk2 : IntKind.u64.wrap (k : Int) = (k : Int) := wrap_u64_nat (by omega)
  have HL := Lib.hid (show b.length ≤ 112 by rw [hm.out]; exact hm2)
  have HEM := Lib.hid (show ((UInt8.ofNat m).toNat : Int) = (m : Int) by rw [UInt8.toNat_ofNat']; omega)
  have hnum : ∀ (x q : Nat) (u : World), q ≤ 4 → x < 18446744073709551616 → Calls Try.prog 66 #[.int .u64 (x : Int), .int .i64 (q : Int)] u (RetOB (numeral x q) u) := fun x q u hq hx => (jRNumeral_any x q u hq hx).mono fun e w' h => ⟨_, h.1, h.2.1.out, h.2.2⟩
  have HNUM := Lib.hid hnum
  clear hnum
  have N1 : Calls Try.prog 66 #[.int .u64 (k : Int), .int .i64 2] w (RetOB (numeral k 2) w) := HNUM.out k 2 w (by decide) (by omega)
  go_enter Try.func47, Try.ntmps47
  go_wp2_with fail
  refine N1.mono ?_
  rintro e w1 ⟨V1, rfl, ho1, hb1⟩
  obtain ⟨A1, c1, rfl⟩ := ho1.form'
  rw [numeral_length]
  have hs1 := hb1.size
  -- kind and length appended
  have ha1 := (Below.refl w1.heap.size w1).alloc (Nat.le_refl _) (.cells #[.int .u8 1, .int .u8 (m : Int)] 5)
  have X : Box (w1.alloc (.cells #[.int .u8 1, .int .u8 (m : Int)] 5)) w1.heap.size (byV [1, UInt8.ofNat m]) := by
    have := Box.new w1 (byV [(1 : UInt8), UInt8.ofNat m]) 5
    have e : (byV [(1 : UInt8), UInt8.ofNat m]).toArray = #[.int .u8 1, .int .u8 (m : Int)] := by rw [byV, ← HEM.out]; rfl
    rwa [e] at this
  obtain ⟨V2, w2, hr2, ho2, hg2⟩ := run_appB 35 (ho1.later ha1) (box_all (n := 2) X rfl (by decide)) (by have := ha1.size; omega) (by simp [numeral_length])
  rw [numeral_length] at hr2
  have hb2 := own_below (ho1.later ha1) (by have := ha1.size; omega) hg2
  have hB2 := (hb1.alloc hs1 (.cells #[.int .u8 1, .int .u8 (m : Int)] 5)).trans hb2
  obtain ⟨A2, c2, rfl⟩ := ho2.form'
  have hl2 : (numeral k 2 ++ [(1 : UInt8), UInt8.ofNat m]).length = 4 := by simp [numeral_length]
  rw [hl2] at hr2
  -- the piece
  obtain ⟨V3, w3, hr3, ho3, hg3⟩ := run_appB 35 ho2 (hb0.out.keep (Keeps.of hB2)) hB2.size (by rw [hl2]; have := HL.out; omega)
  rw [hl2] at hr3
  have hb3 := own_below ho2 hB2.size hg3
  have hB3 := hB2.trans hb3
  obtain ⟨A3, c3, rfl⟩ := ho3.form'
  have hl3 : (numeral k 2 ++ [(1 : UInt8), UInt8.ofNat m] ++ b).length = 4 + m := by rw [List.length_append, hl2, hm.out]
  rw [hl3] at hr3
  -- the zeros
  obtain ⟨V4, w4, hr4, ho4, hg4⟩ := run_appZ (m := 112 - m) 35 ho3 hB3.size (by rw [hl3]; omega) (by rw [hl3]; omega)
  have e112 : ((112 - m : Nat) : Int) = 112 - (m : Int) := by omega
  rw [hl3, e112] at hr4
  have hb4 := own_below ho3 hB3.size hg4
  have hB4 := hB3.trans hb4
  have hbody : numeral k 2 ++ [(1 : UInt8), UInt8.ofNat m] ++ b ++ List.replicate (112 - m) 0 = bodyT k 1 b := by
    rw [bodyT, padZ, hm.out]; simp
  rw [hbody] at ho4
  have hl4 := bodyT_length k (1 : UInt8) HL.out
  obtain ⟨A4, c4, hV4⟩ := ho4.form'
  rw [hl4] at hV4
  subst hV4
  have hbs4 := ho4.old (by rw [hl4]; simp [maxLen])
  have hx1 : (4 : Int) + (m : Int) = ((4 + m : Nat) : Int) := by omega
  have N2 : Calls Try.prog 66 #[.int .u64 (g : Int), .int .i64 4] w4 (RetOB (numeral g 4) w4) := HNUM.out g 4 w4 (by decide) hg
  have HB4 := Lib.hid hB4
  have HBS4 := Lib.hid hbs4
  have HBODY := Lib.hid hl4
  clear ho1 ho2 ho3 ho4 hb1 hb2 hb3 hb4 hg2 hg3 hg4 hB2 hB3 hB4 hbs4 hbody hl2 hl3 hl4 e112 X ha1 hx1 N1
  go_wp2_with fail
  refine N2.mono ?_
  rintro e w5 ⟨V5, rfl, ho5, hb5⟩
  obtain ⟨A5, c5, rfl⟩ := ho5.form'
  rw [numeral_length]
  have hbs5 := HBS4.out.more hb5
  have hB5 := HB4.out.trans (hb5.mono HB4.out.size)
  obtain ⟨T, hT⟩ : ∃ T, sumT (bodyT k 1 b) = T := ⟨_, rfl⟩
  have hT2 : T < 4294967296 := by rw [← hT]; exact sumT_lt _
  have hT3 : IntKind.u64.wrap (T : Int) = (T : Int) := wrap_u64_nat (by omega)
  have CK := jChecksum_at hbs5 HBODY.out hT
  have N3 : Calls Try.prog 66 #[.int .u64 (T : Int), .int .i64 4] w5 (RetOB (numeral T 4) w5) := HNUM.out T 4 w5 (by decide) (by omega)
  have HT := Lib.hid hT
  have HBS5 := Lib.hid hbs5
  have HO5 := Lib.hid ho5
  have HB5 := Lib.hid hb5
  have HBB5 := Lib.hid hB5
  clear hT hbs5 ho5 hb5 hB5 hr2 hr3 hr4 N2 hs1
  go_wp2_with fail
  refine CK.mono ?_
  rintro e w5' ⟨rfl, rfl⟩
  go_wp2_with fail
  refine N3.mono ?_
  rintro e w6 ⟨V6, rfl, ho6, hb6⟩
  obtain ⟨A6, c6, rfl⟩ := ho6.form'
  rw [numeral_length]
  rw [numeral_length] at ho6
  have hbs6 : BsAt w6 (fun b => b < w6.heap.size) (.slice A6 4 c6) (numeral T 4) := ho6.old (by simp [maxLen, numeral_length])
  have ho5 := HO5.out.later hb6
  rw [numeral_length] at ho5
  have hs5 := HB5.out.size
  have hs6 := hb6.size
  obtain ⟨V7, w7, hr7, ho7, hg7⟩ := run_appB 35 ho5 hbs6 (by omega) (by simp [numeral_length])
  have hb7 := own_below ho5 (by omega) hg7
  have hB7 := (HBB5.out.trans (hb6.mono HBB5.out.size)).trans (hb7.mono HB4.out.size)
  obtain ⟨A7, c7, hV7⟩ := ho7.form'
  have hl7 : (numeral g 4 ++ numeral T 4).length = 8 := by simp [numeral_length]
  rw [hl7] at hV7
  subst hV7
  have hK7 : Keeps (fun b => b < w4.heap.size) w4 w7 := ((Keeps.of HB5.out).trans (Keeps.from hb6 (fun b h _ => by omega))).trans (Keeps.from hb7 (fun b h _ => h))
  have hbs7 := HBS4.out.keep hK7
  have hs7 := hb7.size
  obtain ⟨V8, w8, hr8, ho8, hg8⟩ := run_appB 35 ho7 hbs7 (by omega) (by rw [hl7, HBODY.out]; omega)
  have hb8 := own_below ho7 (by omega) hg8
  have hB8 := hB7.trans (hb8.mono HB4.out.size)
  obtain ⟨A8, c8, hV8⟩ := ho8.form'
  have hl8 : (numeral g 4 ++ numeral T 4 ++ bodyT k 1 b).length = 124 := by rw [List.length_append, hl7, HBODY.out]
  rw [hl8] at hV8
  subst hV8
  have N4 : Calls Try.prog 66 #[.int .u64 (g : Int), .int .i64 4] w8 (RetOB (numeral g 4) w8) := HNUM.out g 4 w8 (by decide) hg
  have HO8 := Lib.hid ho8
  have HB8 := Lib.hid hB8
  have hs8 := hb8.size
  have HS8 := Lib.hid (show w4.heap.size ≤ w8.heap.size by omega)
  have HL8 := Lib.hid hl8
  clear ho5 ho6 ho7 ho8 hb6 hb7 hb8 hg7 hg8 hB7 hB8 hK7 hbs6 hbs7 hl7 hl8 HO5 HB5 HBS5 CK N3 hs5 hs6 hs7 hs8
  go_wp2_with fail
  refine N4.mono ?_
  rintro e w9 ⟨V9, rfl, ho9, hb9⟩
  obtain ⟨A9, c9, rfl⟩ := ho9.form'
  rw [numeral_length]
  rw [numeral_length] at ho9
  have hbs9 : BsAt w9 (fun b => b < w9.heap.size) (.slice A9 4 c9) (numeral g 4) := ho9.old (by simp [maxLen, numeral_length])
  have ho8 := HO8.out.later hb9
  have hs9 := hb9.size
  obtain ⟨V10, w10, hr10, ho10, hg10⟩ := run_appB 35 ho8 hbs9 (by have := HS8.out; omega) (by rw [HL8.out, numeral_length]; omega)
  have hb10 := own_below ho8 (by have := HS8.out; omega) hg10
  have hB10 := (HB8.out.trans (hb9.mono HB8.out.size)).trans (hb10.mono HB4.out.size)
  have henc : numeral g 4 ++ numeral T 4 ++ bodyT k 1 b ++ numeral g 4 = encT g k 1 b := by rw [encT, HT.out]; simp
  rw [henc] at ho10
  have HEND : Hid (OwnBs w10 w.heap.size V10 (encT g k 1 b) ∧ Below w.heap.size w w10) := Lib.hid ⟨⟨ho10.1, by
    rcases ho10.2 with h | ⟨g', cap, cur, e1, e2, e3⟩
    · exact .inl h
    · exact .inr ⟨g', cap, cur, e1, Nat.le_trans HB4.out.size e2, e3⟩⟩, hB10⟩
  clear ho8 ho9 ho10 hb9 hb10 hg10 hB10 hbs9 henc HO8 HB8 HB4 HBB5 N4
  go_wp2
  go_ret
  exact ⟨_, rfl, HEND.out.1, HEND.out.2⟩
set_option maxRecDepth 100000 in
set_option maxHeartbeats 16000000 in
theorem jRSector_2 (g k : Nat) (b : Bs) (A : Option Addr) (m mc : Nat) (S : Nat → Prop) (w : World) (hb0 : Hid (BsAt w S (.slice A m mc) b)) (hm : Hid (b.length = m)) (hm2 : m ≤ 112) (hk : k < 65536) (hg : g < 18446744073709551616) :
    Calls Try.prog 47 #[.int .u64 (g : Int), .int .i64 (k : Int), .bool false, .bool true, .slice A m mc] w (RetOB (encT g k 2 b) w) := by
  have hk2 : IntKind.u64.wrap (k : Int) = (k : Int) := wrap_u64_nat (by omega)
  have HL := Lib.hid (show b.length ≤ 112 by rw [hm.out]; exact hm2)
  have HEM := Lib.hid (show ((UInt8.ofNat m).toNat : Int) = (m : Int) by rw [UInt8.toNat_ofNat']; omega)
  have hnum : ∀ (x q : Nat) (u : World), q ≤ 4 → x < 18446744073709551616 → Calls Try.prog 66 #[.int .u64 (x : Int), .int .i64 (q : Int)] u (RetOB (numeral x q) u) := fun x q u hq hx => (jRNumeral_any x q u hq hx).mono fun e w' h => ⟨_, h.1, h.2.1.out, h.2.2⟩
  have HNUM := Lib.hid hnum
  clear hnum
  have N1 : Calls Try.prog 66 #[.int .u64 (k : Int), .int .i64 2] w (RetOB (numeral k 2) w) := HNUM.out k 2 w (by decide) (by omega)
  go_enter Try.func47, Try.ntmps47
  go_wp2_with fail
  refine N1.mono ?_
  rintro e w1 ⟨V1, rfl, ho1, hb1⟩
  obtain ⟨A1, c1, rfl⟩ := ho1.form'
  rw [numeral_length]
  have hs1 := hb1.size
  -- kind and length appended
  have ha1 := (Below.refl w1.heap.size w1).alloc (Nat.le_refl _) (.cells #[.int .u8 2, .int .u8 (m : Int)] 5)
  have X : Box (w1.alloc (.cells #[.int .u8 2, .int .u8 (m : Int)] 5)) w1.heap.size (byV [2, UInt8.ofNat m]) := by
    have := Box.new w1 (byV [(2 : UInt8), UInt8.ofNat m]) 5
    have e : (byV [(2 : UInt8), UInt8.ofNat m]).toArray = #[.int .u8 2, .int .u8 (m : Int)] := by rw [byV, ← HEM.out]; rfl
    rwa [e] at this
  obtain ⟨V2, w2, hr2, ho2, hg2⟩ := run_appB 35 (ho1.later ha1) (box_all (n := 2) X rfl (by decide)) (by have := ha1.size; omega) (by simp [numeral_length])
  rw [numeral_length] at hr2
  have hb2 := own_below (ho1.later ha1) (by have := ha1.size; omega) hg2
  have hB2 := (hb1.alloc hs1 (.cells #[.int .u8 2, .int .u8 (m : Int)] 5)).trans hb2
  obtain ⟨A2, c2, rfl⟩ := ho2.form'
  have hl2 : (numeral k 2 ++ [(2 : UInt8), UInt8.ofNat m]).length = 4 := by simp [numeral_length]
  rw [hl2] at hr2
  -- the piece
  obtain ⟨V3, w3, hr3, ho3, hg3⟩ := run_appB 35 ho2 (hb0.out.keep (Keeps.of hB2)) hB2.size (by rw [hl2]; have := HL.out; omega)
  rw [hl2] at hr3
  have hb3 := own_below ho2 hB2.size hg3
  have hB3 := hB2.trans hb3
  obtain ⟨A3, c3, rfl⟩ := ho3.form'
  have hl3 : (numeral k 2 ++ [(2 : UInt8), UInt8.ofNat m] ++ b).length = 4 + m := by rw [List.length_append, hl2, hm.out]
  rw [hl3] at hr3
  -- the zeros
  obtain ⟨V4, w4, hr4, ho4, hg4⟩ := run_appZ (m := 112 - m) 35 ho3 hB3.size (by rw [hl3]; omega) (by rw [hl3]; omega)
  have e112 : ((112 - m : Nat) : Int) = 112 - (m : Int) := by omega
  rw [hl3, e112] at hr4
  have hb4 := own_below ho3 hB3.size hg4
  have hB4 := hB3.trans hb4
  have hbody : numeral k 2 ++ [(2 : UInt8), UInt8.ofNat m] ++ b ++ List.replicate (112 - m) 0 = bodyT k 2 b := by
    rw [bodyT, padZ, hm.out]; simp
  rw [hbody] at ho4
  have hl4 := bodyT_length k (2 : UInt8) HL.out
  obtain ⟨A4, c4, hV4⟩ := ho4.form'
  rw [hl4] at hV4
  subst hV4
  have hbs4 := ho4.old (by rw [hl4]; simp [maxLen])
  have hx1 : (4 : Int) + (m : Int) = ((4 + m : Nat) : Int) := by omega
  have N2 : Calls Try.prog 66 #[.int .u64 (g : Int), .int .i64 4] w4 (RetOB (numeral g 4) w4) := HNUM.out g 4 w4 (by decide) hg
  have HB4 := Lib.hid hB4
  have HBS4 := Lib.hid hbs4
  have HBODY := Lib.hid hl4
  clear ho1 ho2 ho3 ho4 hb1 hb2 hb3 hb4 hg2 hg3 hg4 hB2 hB3 hB4 hbs4 hbody hl2 hl3 hl4 e112 X ha1 hx1 N1
  go_wp2_with fail
  refine N2.mono ?_
  rintro e w5 ⟨V5, rfl, ho5, hb5⟩
  obtain ⟨A5, c5, rfl⟩ := ho5.form'
  rw [numeral_length]
  have hbs5 := HBS4.out.more hb5
  have hB5 := HB4.out.trans (hb5.mono HB4.out.size)
  obtain ⟨T, hT⟩ : ∃ T, sumT (bodyT k 2 b) = T := ⟨_, rfl⟩
  have hT2 : T < 4294967296 := by rw [← hT]; exact sumT_lt _
  have hT3 : IntKind.u64.wrap (T : Int) = (T : Int) := wrap_u64_nat (by omega)
  have CK := jChecksum_at hbs5 HBODY.out hT
  have N3 : Calls Try.prog 66 #[.int .u64 (T : Int), .int .i64 4] w5 (RetOB (numeral T 4) w5) := HNUM.out T 4 w5 (by decide) (by omega)
  have HT := Lib.hid hT
  have HBS5 := Lib.hid hbs5
  have HO5 := Lib.hid ho5
  have HB5 := Lib.hid hb5
  have HBB5 := Lib.hid hB5
  clear hT hbs5 ho5 hb5 hB5 hr2 hr3 hr4 N2 hs1
  go_wp2_with fail
  refine CK.mono ?_
  rintro e w5' ⟨rfl, rfl⟩
  go_wp2_with fail
  refine N3.mono ?_
  rintro e w6 ⟨V6, rfl, ho6, hb6⟩
  obtain ⟨A6, c6, rfl⟩ := ho6.form'
  rw [numeral_length]
  rw [numeral_length] at ho6
  have hbs6 : BsAt w6 (fun b => b < w6.heap.size) (.slice A6 4 c6) (numeral T 4) := ho6.old (by simp [maxLen, numeral_length])
  have ho5 := HO5.out.later hb6
  rw [numeral_length] at ho5
  have hs5 := HB5.out.size
  have hs6 := hb6.size
  obtain ⟨V7, w7, hr7, ho7, hg7⟩ := run_appB 35 ho5 hbs6 (by omega) (by simp [numeral_length])
  have hb7 := own_below ho5 (by omega) hg7
  have hB7 := (HBB5.out.trans (hb6.mono HBB5.out.size)).trans (hb7.mono HB4.out.size)
  obtain ⟨A7, c7, hV7⟩ := ho7.form'
  have hl7 : (numeral g 4 ++ numeral T 4).length = 8 := by simp [numeral_length]
  rw [hl7] at hV7
  subst hV7
  have hK7 : Keeps (fun b => b < w4.heap.size) w4 w7 := ((Keeps.of HB5.out).trans (Keeps.from hb6 (fun b h _ => by omega))).trans (Keeps.from hb7 (fun b h _ => h))
  have hbs7 := HBS4.out.keep hK7
  have hs7 := hb7.size
  obtain ⟨V8, w8, hr8, ho8, hg8⟩ := run_appB 35 ho7 hbs7 (by omega) (by rw [hl7, HBODY.out]; omega)
  have hb8 := own_below ho7 (by omega) hg8
  have hB8 := hB7.trans (hb8.mono HB4.out.size)
  obtain ⟨A8, c8, hV8⟩ := ho8.form'
  have hl8 : (numeral g 4 ++ numeral T 4 ++ bodyT k 2 b).length = 124 := by rw [List.length_append, hl7, HBODY.out]
  rw [hl8] at hV8
  subst hV8
  have N4 : Calls Try.prog 66 #[.int .u64 (g : Int), .int .i64 4] w8 (RetOB (numeral g 4) w8) := HNUM.out g 4 w8 (by decide) hg
  have HO8 := Lib.hid ho8
  have HB8 := Lib.hid hB8
  have hs8 := hb8.size
  have HS8 := Lib.hid (show w4.heap.size ≤ w8.heap.size by omega)
  have HL8 := Lib.hid hl8
  clear ho5 ho6 ho7 ho8 hb6 hb7 hb8 hg7 hg8 hB7 hB8 hK7 hbs6 hbs7 hl7 hl8 HO5 HB5 HBS5 CK N3 hs5 hs6 hs7 hs8
  go_wp2_with fail
  refine N4.mono ?_
  rintro e w9 ⟨V9, rfl, ho9, hb9⟩
  obtain ⟨A9, c9, rfl⟩ := ho9.form'
  rw [numeral_length]
  rw [numeral_length] at ho9
  have hbs9 : BsAt w9 (fun b => b < w9.heap.size) (.slice A9 4 c9) (numeral g 4) := ho9.old (by simp [maxLen, numeral_length])
  have ho8 := HO8.out.later hb9
  have hs9 := hb9.size
  obtain ⟨V10, w10, hr10, ho10, hg10⟩ := run_appB 35 ho8 hbs9 (by have := HS8.out; omega) (by rw [HL8.out, numeral_length]; omega)
  have hb10 := own_below ho8 (by have := HS8.out; omega) hg10
  have hB10 := (HB8.out.trans (hb9.mono HB8.out.size)).trans (hb10.mono HB4.out.size)
  have henc : numeral g 4 ++ numeral T 4 ++ bodyT k 2 b ++ numeral g 4 = encT g k 2 b := by rw [encT, HT.out]; simp
  rw [henc] at ho10
  have HEND : Hid (OwnBs w10 w.heap.size V10 (encT g k 2 b) ∧ Below w.heap.size w w10) := Lib.hid ⟨⟨ho10.1, by
    rcases ho10.2 with h | ⟨g', cap, cur, e1, e2, e3⟩
    · exact .inl h
    · exact .inr ⟨g', cap, cur, e1, Nat.le_trans HB4.out.size e2, e3⟩⟩, hB10⟩
  clear ho8 ho9 ho10 hb9 hb10 hg10 hB10 hbs9 henc HO8 HB8 HB4 HBB5 N4
  go_wp2
  go_ret
  exact ⟨_, rfl, HEND.out.1, HEND.out.2⟩
set_option maxRecDepth 100000 in
set_option maxHeartbeats 16000000 in
theorem jRSector_3 (g k : Nat) (b : Bs) (A : Option Addr) (m mc : Nat) (S : Nat → Prop) (w : World) (hb0 : Hid (BsAt w S (.slice A m mc) b)) (hm : Hid (b.length = m)) (hm2 : m ≤ 112) (hk : k < 65536) (hg : g < 18446744073709551616) :
    Calls Try.prog 47 #[.int .u64 (g : Int), .int .i64 (k : Int), .bool true, .bool true, .slice A m mc] w (RetOB (encT g k 3 b) w) := by
  have hk2 : IntKind.u64.wrap (k : Int) = (k : Int) := wrap_u64_nat (by omega)
  have HL := Lib.hid (show b.length ≤ 112 by rw [hm.out]; exact hm2)
  have HEM := Lib.hid (show ((UInt8.ofNat m).toNat : Int) = (m : Int) by rw [UInt8.toNat_ofNat']; omega)
  have hnum : ∀ (x q : Nat) (u : World), q ≤ 4 → x < 18446744073709551616 → Calls Try.prog 66 #[.int .u64 (x : Int), .int .i64 (q : Int)] u (RetOB (numeral x q) u) := fun x q u hq hx => (jRNumeral_any x q u hq hx).mono fun e w' h => ⟨_, h.1, h.2.1.out, h.2.2⟩
  have HNUM := Lib.hid hnum
  clear hnum
  have N1 : Calls Try.prog 66 #[.int .u64 (k : Int), .int .i64 2] w (RetOB (numeral k 2) w) := HNUM.out k 2 w (by decide) (by omega)
  go_enter Try.func47, Try.ntmps47
  go_wp2_with fail
  refine N1.mono ?_
  rintro e w1 ⟨V1, rfl, ho1, hb1⟩
  obtain ⟨A1, c1, rfl⟩ := ho1.form'
  rw [numeral_length]
  have hs1 := hb1.size
  -- kind and length appended
  have ha1 := (Below.refl w1.heap.size w1).alloc (Nat.le_refl _) (.cells #[.int .u8 3, .int .u8 (m : Int)] 5)
  have X : Box (w1.alloc (.cells #[.int .u8 3, .int .u8 (m : Int)] 5)) w1.heap.size (byV [3, UInt8.ofNat m]) := by
    have := Box.new w1 (byV [(3 : UInt8), UInt8.ofNat m]) 5
    have e : (byV [(3 : UInt8), UInt8.ofNat m]).toArray = #[.int .u8 3, .int .u8 (m : Int)] := by rw [byV, ← HEM.out]; rfl
    rwa [e] at this
  obtain ⟨V2, w2, hr2, ho2, hg2⟩ := run_appB 35 (ho1.later ha1) (box_all (n := 2) X rfl (by decide)) (by have := ha1.size; omega) (by simp [numeral_length])
  rw [numeral_length] at hr2
  have hb2 := own_below (ho1.later ha1) (by have := ha1.size; omega) hg2
  have hB2 := (hb1.alloc hs1 (.cells #[.int .u8 3, .int .u8 (m : Int)] 5)).trans hb2
  obtain ⟨A2, c2, rfl⟩ := ho2.form'
  have hl2 : (numeral k 2 ++ [(3 : UInt8), UInt8.ofNat m]).length = 4 := by simp [numeral_length]
  rw [hl2] at hr2
  -- the piece
  obtain ⟨V3, w3, hr3, ho3, hg3⟩ := run_appB 35 ho2 (hb0.out.keep (Keeps.of hB2)) hB2.size (by rw [hl2]; have := HL.out; omega)
  rw [hl2] at hr3
  have hb3 := own_below ho2 hB2.size hg3
  have hB3 := hB2.trans hb3
  obtain ⟨A3, c3, rfl⟩ := ho3.form'
  have hl3 : (numeral k 2 ++ [(3 : UInt8), UInt8.ofNat m] ++ b).length = 4 + m := by rw [List.length_append, hl2, hm.out]
  rw [hl3] at hr3
  -- the zeros
  obtain ⟨V4, w4, hr4, ho4, hg4⟩ := run_appZ (m := 112 - m) 35 ho3 hB3.size (by rw [hl3]; omega) (by rw [hl3]; omega)
  have e112 : ((112 - m : Nat) : Int) = 112 - (m : Int) := by omega
  rw [hl3, e112] at hr4
  have hb4 := own_below ho3 hB3.size hg4
  have hB4 := hB3.trans hb4
  have hbody : numeral k 2 ++ [(3 : UInt8), UInt8.ofNat m] ++ b ++ List.replicate (112 - m) 0 = bodyT k 3 b := by
    rw [bodyT, padZ, hm.out]; simp
  rw [hbody] at ho4
  have hl4 := bodyT_length k (3 : UInt8) HL.out
  obtain ⟨A4, c4, hV4⟩ := ho4.form'
  rw [hl4] at hV4
  subst hV4
  have hbs4 := ho4.old (by rw [hl4]; simp [maxLen])
  have hx1 : (4 : Int) + (m : Int) = ((4 + m : Nat) : Int) := by omega
  have N2 : Calls Try.prog 66 #[.int .u64 (g : Int), .int .i64 4] w4 (RetOB (numeral g 4) w4) := HNUM.out g 4 w4 (by decide) hg
  have HB4 := Lib.hid hB4
  have HBS4 := Lib.hid hbs4
  have HBODY := Lib.hid hl4
  clear ho1 ho2 ho3 ho4 hb1 hb2 hb3 hb4 hg2 hg3 hg4 hB2 hB3 hB4 hbs4 hbody hl2 hl3 hl4 e112 X ha1 hx1 N1
  go_wp2_with fail
  refine N2.mono ?_
  rintro e w5 ⟨V5, rfl, ho5, hb5⟩
  obtain ⟨A5, c5, rfl⟩ := ho5.form'
  rw [numeral_length]
  have hbs5 := HBS4.out.more hb5
  have hB5 := HB4.out.trans (hb5.mono HB4.out.size)
  obtain ⟨T, hT⟩ : ∃ T, sumT (bodyT k 3 b) = T := ⟨_, rfl⟩
  have hT2 : T < 4294967296 := by rw [← hT]; exact sumT_lt _
  have hT3 : IntKind.u64.wrap (T : Int) = (T : Int) := wrap_u64_nat (by omega)
  have CK := jChecksum_at hbs5 HBODY.out hT
  have N3 : Calls Try.prog 66 #[.int .u64 (T : Int), .int .i64 4] w5 (RetOB (numeral T 4) w5) := HNUM.out T 4 w5 (by decide) (by omega)
  have HT := Lib.hid hT
  have HBS5 := Lib.hid hbs5
  have HO5 := Lib.hid ho5
  have HB5 := Lib.hid hb5
  have HBB5 := Lib.hid hB5
  clear hT hbs5 ho5 hb5 hB5 hr2 hr3 hr4 N2 hs1
  go_wp2_with fail
  refine CK.mono ?_
  rintro e w5' ⟨rfl, rfl⟩
  go_wp2_with fail
  refine N3.mono ?_
  rintro e w6 ⟨V6, rfl, ho6, hb6⟩
  obtain ⟨A6, c6, rfl⟩ := ho6.form'
  rw [numeral_length]
  rw [numeral_length] at ho6
  have hbs6 : BsAt w6 (fun b => b < w6.heap.size) (.slice A6 4 c6) (numeral T 4) := ho6.old (by simp [maxLen, numeral_length])
  have ho5 := HO5.out.later hb6
  rw [numeral_length] at ho5
  have hs5 := HB5.out.size
  have hs6 := hb6.size
  obtain ⟨V7, w7, hr7, ho7, hg7⟩ := run_appB 35 ho5 hbs6 (by omega) (by simp [numeral_length])
  have hb7 := own_below ho5 (by omega) hg7
  have hB7 := (HBB5.out.trans (hb6.mono HBB5.out.size)).trans (hb7.mono HB4.out.size)
  obtain ⟨A7, c7, hV7⟩ := ho7.form'
  have hl7 : (numeral g 4 ++ numeral T 4).length = 8 := by simp [numeral_length]
  rw [hl7] at hV7
  subst hV7
  have hK7 : Keeps (fun b => b < w4.heap.size) w4 w7 := ((Keeps.of HB5.out).trans (Keeps.from hb6 (fun b h _ => by omega))).trans (Keeps.from hb7 (fun b h _ => h))
  have hbs7 := HBS4.out.keep hK7
  have hs7 := hb7.size
  obtain ⟨V8, w8, hr8, ho8, hg8⟩ := run_appB 35 ho7 hbs7 (by omega) (by rw [hl7, HBODY.out]; omega)
  have hb8 := own_below ho7 (by omega) hg8
  have hB8 := hB7.trans (hb8.mono HB4.out.size)
  obtain ⟨A8, c8, hV8⟩ := ho8.form'
  have hl8 : (numeral g 4 ++ numeral T 4 ++ bodyT k 3 b).length = 124 := by rw [List.length_append, hl7, HBODY.out]
  rw [hl8] at hV8
  subst hV8
  have N4 : Calls Try.prog 66 #[.int .u64 (g : Int), .int .i64 4] w8 (RetOB (numeral g 4) w8) := HNUM.out g 4 w8 (by decide) hg
  have HO8 := Lib.hid ho8
  have HB8 := Lib.hid hB8
  have hs8 := hb8.size
  have HS8 := Lib.hid (show w4.heap.size ≤ w8.heap.size by omega)
  have HL8 := Lib.hid hl8
  clear ho5 ho6 ho7 ho8 hb6 hb7 hb8 hg7 hg8 hB7 hB8 hK7 hbs6 hbs7 hl7 hl8 HO5 HB5 HBS5 CK N3 hs5 hs6 hs7 hs8
  go_wp2_with fail
  refine N4.mono ?_
  rintro e w9 ⟨V9, rfl, ho9, hb9⟩
  obtain ⟨A9, c9, rfl⟩ := ho9.form'
  rw [numeral_length]
  rw [numeral_length] at ho9
  have hbs9 : BsAt w9 (fun b => b < w9.heap.size) (.slice A9 4 c9) (numeral g 4) := ho9.old (by simp [maxLen, numeral_length])
  have ho8 := HO8.out.later hb9
  have hs9 := hb9.size
  obtain ⟨V10, w10, hr10, ho10, hg10⟩ := run_appB 35 ho8 hbs9 (by have := HS8.out; omega) (by rw [HL8.out, numeral_length]; omega)
  have hb10 := own_below ho8 (by have := HS8.out; omega) hg10
  have hB10 := (HB8.out.trans (hb9.mono HB8.out.size)).trans (hb10.mono HB4.out.size)
  have henc : numeral g 4 ++ numeral T 4 ++ bodyT k 3 b ++ numeral g 4 = encT g k 3 b := by rw [encT, HT.out]; simp
  rw [henc] at ho10
  have HEND : Hid (OwnBs w10 w.heap.size V10 (encT g k 3 b) ∧ Below w.heap.size w w10) := Lib.hid ⟨⟨ho10.1, by
    rcases ho10.2 with h | ⟨g', cap, cur, e1, e2, e3⟩
    · exact .inl h
    · exact .inr ⟨g', cap, cur, e1, Nat.le_trans HB4.out.size e2, e3⟩⟩, hB10⟩
  clear ho8 ho9 ho10 hb9 hb10 hg10 hB10 hbs9 henc HO8 HB8 HB4 HBB5 N4
  go_wp2
  go_ret
  exact ⟨_, rfl, HEND.out.1, HEND.out.2⟩

def kindK (b e : Bool) : UInt8 := (if b = true then 1 else 0) + (if e = true then 2 else 0)
theorem jRSector_any (g k : Nat) (bg en : Bool) (b : Bs) (A : Option Addr) (m mc : Nat) (S : Nat → Prop) (w : World) (hb0 : Hid (BsAt w S (.slice A m mc) b)) (hm : Hid (b.length = m)) (hm2 : m ≤ 112) (hk : k < 65536) (hg : g < 18446744073709551616) :
    Calls Try.prog 47 #[.int .u64 (g : Int), .int .i64 (k : Int), .bool bg, .bool en, .slice A m mc] w (RetOB (encT g k (kindK bg en) b) w) := by
  rcases bg with _ | _ <;> rcases en with _ | _
  · exact jRSector_0 g k b A m mc S w hb0 hm hm2 hk hg
  · exact jRSector_2 g k b A m mc S w hb0 hm hm2 hk hg
  · exact jRSector_1 g k b A m mc S w hb0 hm hm2 hk hg
  · exact jRSector_3 g k b A m mc S w hb0 hm hm2 hk hg

end Go.Proofs.Ythlidhfahaalgaa

/-
  What Sync of chapter 5 writes, as plain data. No condition.
-/
namespace Go.Proofs.Ythlidhfahaalgaa
open Go.RowKit

/-- The j-th piece of a record. -/
def piece (b : Bs) (j : Nat) : Bs := (b.drop (112 * j)).take 112
def pieceW (g a : Nat) (b : Bs) (j : Nat) : Wr := ⟨((a + j : Nat) : Int), encT g (a + j) (kindK (decide (j = 0)) (decide (j + 1 = secT b.length))) (piece b j)⟩
/-- The sectors of a record. -/
def recW (g a : Nat) (b : Bs) : List Wr := (List.range (secT b.length)).map (pieceW g a b)
def recsW (g : Nat) : Nat → List Bs → List Wr
  | _, [] => []
  | a, b :: r => recW g a b ++ recsW g (a + secT b.length) r
def Dk.adds (d : Dk) (ws : List Wr) : Dk := ⟨d.sectors, d.pending ++ ws, d.left, d.stopped⟩
theorem piece_length (b : Bs) (j : Nat) : (piece b j).length = min 112 (b.length - 112 * j) := by simp [piece]
theorem piece_le (b : Bs) (j : Nat) : (piece b j).length ≤ 112 := by rw [piece_length]; omega
theorem recW_length (g a : Nat) (b : Bs) : (recW g a b).length = secT b.length := by simp [recW]
theorem usedT_cons (b : Bs) (l : List Bs) : usedT (b :: l) = secT b.length + usedT l := by
  have H : ∀ (n : Nat) (l : List Bs), l.foldl (fun n b => n + secT b.length) n = n + usedT l := by
    intro n l
    induction l generalizing n with
    | nil => rfl
    | cons x l ih => rw [usedT, List.foldl_cons, List.foldl_cons, ih, ih (0 + secT x.length)]; omega
  rw [usedT, List.foldl_cons, H]
  omega
theorem usedT_append (a b : List Bs) : usedT (a ++ b) = usedT a + usedT b := by
  induction a with
  | nil => simp [usedT]
  | cons x a ih => rw [List.cons_append, usedT_cons, usedT_cons, ih]; omega
theorem recsW_length (g a : Nat) (l : List Bs) : (recsW g a l).length = usedT l := by
  induction l generalizing a with
  | nil => rfl
  | cons b l ih => rw [recsW, List.length_append, recW_length, ih, usedT_cons]
theorem recsW_append (g a : Nat) (l r : List Bs) : recsW g a (l ++ r) = recsW g a l ++ recsW g (a + usedT l) r := by
  induction l generalizing a with
  | nil => simp [recsW, usedT]
  | cons b l ih => rw [List.cons_append, recsW, recsW, ih, usedT_cons, List.append_assoc, Nat.add_assoc]
theorem recsW_take_succ {g a : Nat} {l : List Bs} {i : Nat} (hi : i < l.length) : recsW g a (l.take (i + 1)) = recsW g a (l.take i) ++ recW g (a + usedT (l.take i)) l[i] := by
  rw [List.take_succ_eq_append_getElem hi, recsW_append]
  simp [recsW]
theorem recW_take_succ {g a : Nat} {b : Bs} {j : Nat} (hj : j < secT b.length) : (recW g a b).take (j + 1) = (recW g a b).take j ++ [pieceW g a b j] := by
  rw [List.take_succ_eq_append_getElem (by rw [recW_length]; exact hj)]
  simp [recW]
theorem recW_mem {g a : Nat} {b : Bs} {x : Wr} (h : x ∈ recW g a b) : (a : Int) ≤ x.at' ∧ x.at' < ((a + secT b.length : Nat) : Int) ∧ x.data.length = 128 := by
  obtain ⟨j, hj, rfl⟩ := List.mem_map.1 h
  have hj := List.mem_range.1 hj
  exact ⟨by simp only [pieceW]; omega, by simp only [pieceW]; omega, encT_length _ _ _ (piece_le _ _)⟩
theorem recsW_mem {g a : Nat} {l : List Bs} {x : Wr} (h : x ∈ recsW g a l) : (a : Int) ≤ x.at' ∧ x.at' < ((a + usedT l : Nat) : Int) ∧ x.data.length = 128 := by
  induction l generalizing a with
  | nil => cases h
  | cons b l ih =>
    rw [recsW] at h
    have hu := usedT_cons b l
    rcases List.mem_append.1 h with h | h
    · obtain ⟨h1, h2, h3⟩ := recW_mem h
      exact ⟨h1, by omega, h3⟩
    · obtain ⟨h1, h2, h3⟩ := ih h
      exact ⟨by omega, by omega, h3⟩
theorem adds_nil (d : Dk) : d.adds [] = d := by rw [Dk.adds, List.append_nil]
theorem adds_adds (d : Dk) (a b : List Wr) : (d.adds a).adds b = d.adds (a ++ b) := by simp [Dk.adds]
/-- A disk to which sectors are being written. -/
theorem adds_ok {d : Dk} {ws : List Wr} (h : d.okB = true) (hp : d.pending = []) (hl : ws.length ≤ 4096) (hw : ∀ x ∈ ws, 0 ≤ x.at' ∧ x.at' < (d.sectors.length : Int) ∧ x.data.length = 128) : (d.adds ws).okB = true := by
  obtain ⟨h1, h2, h3, h4, h5, h6, h7⟩ := okB_parts h
  refine okB_of h1 h2 ?_ h4 h5 ?_ h7
  · rw [Dk.adds, hp]; simpa using hl
  · rw [Dk.adds, hp]; simpa using hw
/-- One more sector is written. -/
theorem adds_write {d : Dk} {ws : List Wr} {i : Nat} {b : Bs} (h : (d.adds ws).okB = true) (hs : d.stopped = false) (hp : d.pending = []) (hl : ws.length < 4096) (hi : i < d.sectors.length) (hb : b.length = 128) :
    writeT (d.adds ws) (i : Int) b = (d.adds (ws ++ [⟨(i : Int), b⟩]), 0) := by
  rw [write_eq (runs_of h hs) (hasB_of (d := d.adds ws) (by omega) (by simp only [Dk.adds]; omega)) (by omega) (by simp only [Dk.adds, hp, List.nil_append]; omega), Dk.put, padTo_full hb, Dk.adds, Dk.adds, List.append_assoc]

def syncJ (l : Jn) (d : Dk) : Jn × Dk × Int :=
  if l.okB = true then
    (if d.checkT ≠ 0 then (Jn.zero, Dk.zero, d.checkT)
    else if d.stopped = true then (Jn.zero, Dk.zero, 40)
    else if l.many ≠ (d.sectors.length : Int) ∨ d.pending ≠ [] then (Jn.zero, Dk.zero, 1)
    else if recordsT d.sectors ≠ l.records.take l.synced.toNat ∨ 4294967295 < genM d.sectors + 1 then (Jn.zero, Dk.zero, 50)
    else if l.synced = (l.records.length : Int) then (l, d, 0)
    else (fun y : Dk × Int => if y.2 = 0 then (⟨l.records, l.many, (l.records.length : Int)⟩, y.1, 0) else (Jn.zero, y.1, y.2))
      (syncT (d.adds (recsW (genM d.sectors + 1) (usedT (l.records.take l.synced.toNat)) (l.records.drop l.synced.toNat)))))
  else (Jn.zero, Dk.zero, 1)
def RetJD (t : Jn × Dk × Int) (S : Nat → Prop) (w : World) (e : Ending) (w' : World) : Prop := ∃ (A : Option Addr) (n c : Nat) (m : Jn) (Vs Vp : Value) (y : Dk) (er : Int),
  e = .returned (.tuple #[.agg #[.slice A n c, .int .i64 m.many, .int .i64 m.synced], .agg #[Vs, Vp, .int .i64 y.left, .bool y.stopped], .int .i64 er]) ∧ Hid (t = (m, y, er)) ∧ Hid (m.records.length = n) ∧ Hid (RwAt w' (Grow S w) (.slice A n c) m.records) ∧ Hid (DkAt w' (Grow S w) Vs Vp y) ∧ Below w.heap.size w w'

end Go.Proofs.Ythlidhfahaalgaa
