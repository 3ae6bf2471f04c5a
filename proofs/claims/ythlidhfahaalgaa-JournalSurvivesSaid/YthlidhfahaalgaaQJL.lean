/-
  The walk of good of the reference of chapter 5: kinds, the loop, the whole. (Printed by gen_jk.py.)
-/
import Derived.Test.YthlidhfahaalgaaQJK
namespace Go.Proofs.Ythlidhfahaalgaa
open Go.RowKit

set_option maxRecDepth 100000 in
set_option maxHeartbeats 8000000 in
theorem jRGood_5 (s : Bs) (k b off c : Nat) (S : Nat → Prop) (w : World) (h : Hid (BsAt w S (.slice (some ⟨b, off, none⟩) 128 c) s)) (hs : Hid (s.length = 128)) (hk : k < 65536) (h1 : genT s ≠ 0) (h2 : genT s = numT (s.drop 124)) (h3 : numT ((s.drop 4).take 4) = sumT ((s.drop 8).take 116)) (h4 : numT ((s.drop 8).take 2) = k) (hb : kindB (kindT s) (manyT s) = false) (h5 : 3 < kindT s) :
    Calls Try.prog 72 #[.slice (some ⟨b, off, none⟩) 128 c, .int .i64 k] w fun e w' => e = .returned (.bool (goodT s k)) ∧ Below w.heap.size w w' := by
  have hcm : c ≤ maxLen ∧ 128 ≤ c := by
    rcases h.out.1 with e | ⟨_, _, _, e, h1, h2⟩
    · cases e
    · cases e; exact ⟨h2, h1⟩
  have hca := hcm.2
  have hcb := Lib.hid hcm.1
  have hcl : (c : Int) ≤ 9223372036854775807 := by have := hcm.1; simp only [maxLen] at this; omega
  clear hcm
  obtain ⟨_, _, e, hSb, hbz, c10⟩ := h.out.cell (k := 10) (by rw [hs.out]; decide)
  cases e
  obtain ⟨_, _, e, _, _, c11⟩ := h.out.cell (k := 11) (by rw [hs.out]; decide)
  cases e
  have hx : kindT s < 256 := u8_lt _
  have hn255 : manyT s < 256 := u8_lt _
  rw [show (s.getD 10 0).toNat = kindT s from rfl] at c10
  rw [show (s.getD 11 0).toNat = manyT s from rfl] at c11
  have HU := fun j => h.out.keep (Keeps.of (below_drewN (Below.refl w.heap.size w) j))
  have C1 : ∀ j, Calls Try.prog 63 #[.slice (some ⟨b, off, none⟩) 4 c] (w.drewN j) fun e w' => e = .returned (.int .u64 (genT s : Nat)) ∧ w' = w.drewN j := fun j => jNumber_at (by have := (HU j).sub 0 4 c (by omega) (by omega) hcb.out hs.out; rwa [Nat.add_zero, List.drop_zero] at this) (by simp; have := hs.out; omega) (by omega) rfl
  have C2 : ∀ j, Calls Try.prog 63 #[.slice (some ⟨b, off + 124, none⟩) 4 (c - 124)] (w.drewN j) fun e w' => e = .returned (.int .u64 (numT (s.drop 124) : Nat)) ∧ w' = w.drewN j := fun j => jNumber_at (by have := (HU j).sub 124 4 (c - 124) (by omega) (by omega) (by have := hcb.out; omega) hs.out; rwa [List.take_of_length_le (by simp; have := hs.out; omega)] at this) (by simp; have := hs.out; omega) (by omega) rfl
  have C3 : ∀ j, Calls Try.prog 63 #[.slice (some ⟨b, off + 4, none⟩) 4 (c - 4)] (w.drewN j) fun e w' => e = .returned (.int .u64 (numT ((s.drop 4).take 4) : Nat)) ∧ w' = w.drewN j := fun j => jNumber_at ((HU j).sub 4 4 (c - 4) (by omega) (by omega) (by have := hcb.out; omega) hs.out) (by simp; have := hs.out; omega) (by omega) rfl
  have C4 : ∀ j, Calls Try.prog 67 #[.slice (some ⟨b, off + 8, none⟩) 116 (c - 8)] (w.drewN j) fun e w' => e = .returned (.int .u32 (sumT ((s.drop 8).take 116) : Nat)) ∧ w' = w.drewN j := fun j => jChecksum_at ((HU j).sub 8 116 (c - 8) (by omega) (by omega) (by have := hcb.out; omega) hs.out) (by simp; have := hs.out; omega) rfl
  have C5 : ∀ j, Calls Try.prog 63 #[.slice (some ⟨b, off + 8, none⟩) 2 (c - 8)] (w.drewN j) fun e w' => e = .returned (.int .u64 (numT ((s.drop 8).take 2) : Nat)) ∧ w' = w.drewN j := fun j => jNumber_at ((HU j).sub 8 2 (c - 8) (by omega) (by omega) (by have := hcb.out; omega) hs.out) (by simp; have := hs.out; omega) (by omega) rfl
  have q32 : IntKind.u32.wrap ((numT ((s.drop 4).take 4) : Nat) : Int) = ((numT ((s.drop 4).take 4) : Nat) : Int) := wrap_u32_nat (numT_lt4 (by simp; have := hs.out; omega))
  have k64 : IntKind.u64.wrap (k : Int) = (k : Int) := wrap_u64_nat (by omega)
  clear HU
  have HT : goodT s k = false := good_no1 hb
  rw [HT]
  clear HT
  have b1 : ((genT s : Int) == 0) = false := by simp; omega
  have b2 : ((genT s : Int) != (numT (s.drop 124) : Int)) = false := by simp; omega
  have b3 : ((numT ((s.drop 4).take 4) : Int) != (sumT ((s.drop 8).take 116) : Int)) = false := by simp; omega
  have b4 : ((numT ((s.drop 8).take 2) : Int) != (k : Int)) = false := by simp; omega
  clear h1 h2 h3 h4
  clear hb
  clear h hs
  generalize genT s = g at *
  generalize numT (s.drop 124) = t at *
  generalize numT ((s.drop 4).take 4) = q at *
  generalize sumT ((s.drop 8).take 116) = u at *
  generalize numT ((s.drop 8).take 2) = k1 at *
  generalize manyT s = n at *
  generalize kindT s = x at *
  have b5 : decide (3 < (x : Int)) = true := by simp; omega
  go_enter Try.func72, Try.ntmps72
  go_upto_region 2 with fail
  go_quiet (first | (go_at_call 63; first | with_reducible exact Calls.quiet_of_same (C1 _) | with_reducible exact Calls.quiet_of_same (C2 _) | with_reducible exact Calls.quiet_of_same (C3 _) | with_reducible exact Calls.quiet_of_same (C5 _)) | (go_at_call 67; with_reducible exact Calls.quiet_of_same (C4 _)))
  go_wp2
  go_ret
  exact ⟨rfl, below_drewN (Below.refl _ _) _⟩
set_option maxRecDepth 100000 in
set_option maxHeartbeats 8000000 in
theorem jRGood_6 (s : Bs) (k b off c : Nat) (S : Nat → Prop) (w : World) (h : Hid (BsAt w S (.slice (some ⟨b, off, none⟩) 128 c) s)) (hs : Hid (s.length = 128)) (hk : k < 65536) (h1 : genT s ≠ 0) (h2 : genT s = numT (s.drop 124)) (h3 : numT ((s.drop 4).take 4) = sumT ((s.drop 8).take 116)) (h4 : numT ((s.drop 8).take 2) = k) (hb : kindB (kindT s) (manyT s) = false) (h5 : kindT s ≤ 3) (h6 : 112 < manyT s) :
    Calls Try.prog 72 #[.slice (some ⟨b, off, none⟩) 128 c, .int .i64 k] w fun e w' => e = .returned (.bool (goodT s k)) ∧ Below w.heap.size w w' := by
  have hcm : c ≤ maxLen ∧ 128 ≤ c := by
    rcases h.out.1 with e | ⟨_, _, _, e, h1, h2⟩
    · cases e
    · cases e; exact ⟨h2, h1⟩
  have hca := hcm.2
  have hcb := Lib.hid hcm.1
  have hcl : (c : Int) ≤ 9223372036854775807 := by have := hcm.1; simp only [maxLen] at this; omega
  clear hcm
  obtain ⟨_, _, e, hSb, hbz, c10⟩ := h.out.cell (k := 10) (by rw [hs.out]; decide)
  cases e
  obtain ⟨_, _, e, _, _, c11⟩ := h.out.cell (k := 11) (by rw [hs.out]; decide)
  cases e
  have hx : kindT s < 256 := u8_lt _
  have hn255 : manyT s < 256 := u8_lt _
  rw [show (s.getD 10 0).toNat = kindT s from rfl] at c10
  rw [show (s.getD 11 0).toNat = manyT s from rfl] at c11
  have HU := fun j => h.out.keep (Keeps.of (below_drewN (Below.refl w.heap.size w) j))
  have C1 : ∀ j, Calls Try.prog 63 #[.slice (some ⟨b, off, none⟩) 4 c] (w.drewN j) fun e w' => e = .returned (.int .u64 (genT s : Nat)) ∧ w' = w.drewN j := fun j => jNumber_at (by have := (HU j).sub 0 4 c (by omega) (by omega) hcb.out hs.out; rwa [Nat.add_zero, List.drop_zero] at this) (by simp; have := hs.out; omega) (by omega) rfl
  have C2 : ∀ j, Calls Try.prog 63 #[.slice (some ⟨b, off + 124, none⟩) 4 (c - 124)] (w.drewN j) fun e w' => e = .returned (.int .u64 (numT (s.drop 124) : Nat)) ∧ w' = w.drewN j := fun j => jNumber_at (by have := (HU j).sub 124 4 (c - 124) (by omega) (by omega) (by have := hcb.out; omega) hs.out; rwa [List.take_of_length_le (by simp; have := hs.out; omega)] at this) (by simp; have := hs.out; omega) (by omega) rfl
  have C3 : ∀ j, Calls Try.prog 63 #[.slice (some ⟨b, off + 4, none⟩) 4 (c - 4)] (w.drewN j) fun e w' => e = .returned (.int .u64 (numT ((s.drop 4).take 4) : Nat)) ∧ w' = w.drewN j := fun j => jNumber_at ((HU j).sub 4 4 (c - 4) (by omega) (by omega) (by have := hcb.out; omega) hs.out) (by simp; have := hs.out; omega) (by omega) rfl
  have C4 : ∀ j, Calls Try.prog 67 #[.slice (some ⟨b, off + 8, none⟩) 116 (c - 8)] (w.drewN j) fun e w' => e = .returned (.int .u32 (sumT ((s.drop 8).take 116) : Nat)) ∧ w' = w.drewN j := fun j => jChecksum_at ((HU j).sub 8 116 (c - 8) (by omega) (by omega) (by have := hcb.out; omega) hs.out) (by simp; have := hs.out; omega) rfl
  have C5 : ∀ j, Calls Try.prog 63 #[.slice (some ⟨b, off + 8, none⟩) 2 (c - 8)] (w.drewN j) fun e w' => e = .returned (.int .u64 (numT ((s.drop 8).take 2) : Nat)) ∧ w' = w.drewN j := fun j => jNumber_at ((HU j).sub 8 2 (c - 8) (by omega) (by omega) (by have := hcb.out; omega) hs.out) (by simp; have := hs.out; omega) (by omega) rfl
  have q32 : IntKind.u32.wrap ((numT ((s.drop 4).take 4) : Nat) : Int) = ((numT ((s.drop 4).take 4) : Nat) : Int) := wrap_u32_nat (numT_lt4 (by simp; have := hs.out; omega))
  have k64 : IntKind.u64.wrap (k : Int) = (k : Int) := wrap_u64_nat (by omega)
  clear HU
  have HT : goodT s k = false := good_no1 hb
  rw [HT]
  clear HT
  have b1 : ((genT s : Int) == 0) = false := by simp; omega
  have b2 : ((genT s : Int) != (numT (s.drop 124) : Int)) = false := by simp; omega
  have b3 : ((numT ((s.drop 4).take 4) : Int) != (sumT ((s.drop 8).take 116) : Int)) = false := by simp; omega
  have b4 : ((numT ((s.drop 8).take 2) : Int) != (k : Int)) = false := by simp; omega
  clear h1 h2 h3 h4
  clear hb
  clear h hs
  generalize genT s = g at *
  generalize numT (s.drop 124) = t at *
  generalize numT ((s.drop 4).take 4) = q at *
  generalize sumT ((s.drop 8).take 116) = u at *
  generalize numT ((s.drop 8).take 2) = k1 at *
  generalize manyT s = n at *
  generalize kindT s = x at *
  have b5 : decide (3 < (x : Int)) = false := by simp; omega
  have b6 : decide (112 < (n : Int)) = true := by simp; omega
  go_enter Try.func72, Try.ntmps72
  go_upto_region 2 with fail
  go_quiet (first | (go_at_call 63; first | with_reducible exact Calls.quiet_of_same (C1 _) | with_reducible exact Calls.quiet_of_same (C2 _) | with_reducible exact Calls.quiet_of_same (C3 _) | with_reducible exact Calls.quiet_of_same (C5 _)) | (go_at_call 67; with_reducible exact Calls.quiet_of_same (C4 _)))
  go_wp2
  go_ret
  exact ⟨rfl, below_drewN (Below.refl _ _) _⟩
set_option maxRecDepth 100000 in
set_option maxHeartbeats 8000000 in
theorem jRGood_7 (s : Bs) (k b off c : Nat) (S : Nat → Prop) (w : World) (h : Hid (BsAt w S (.slice (some ⟨b, off, none⟩) 128 c) s)) (hs : Hid (s.length = 128)) (hk : k < 65536) (h1 : genT s ≠ 0) (h2 : genT s = numT (s.drop 124)) (h3 : numT ((s.drop 4).take 4) = sumT ((s.drop 8).take 116)) (h4 : numT ((s.drop 8).take 2) = k) (hb : kindB (kindT s) (manyT s) = false) (h5 : kindT s < 2) (h6 : manyT s < 112) :
    Calls Try.prog 72 #[.slice (some ⟨b, off, none⟩) 128 c, .int .i64 k] w fun e w' => e = .returned (.bool (goodT s k)) ∧ Below w.heap.size w w' := by
  have hcm : c ≤ maxLen ∧ 128 ≤ c := by
    rcases h.out.1 with e | ⟨_, _, _, e, h1, h2⟩
    · cases e
    · cases e; exact ⟨h2, h1⟩
  have hca := hcm.2
  have hcb := Lib.hid hcm.1
  have hcl : (c : Int) ≤ 9223372036854775807 := by have := hcm.1; simp only [maxLen] at this; omega
  clear hcm
  obtain ⟨_, _, e, hSb, hbz, c10⟩ := h.out.cell (k := 10) (by rw [hs.out]; decide)
  cases e
  obtain ⟨_, _, e, _, _, c11⟩ := h.out.cell (k := 11) (by rw [hs.out]; decide)
  cases e
  have hx : kindT s < 256 := u8_lt _
  have hn255 : manyT s < 256 := u8_lt _
  rw [show (s.getD 10 0).toNat = kindT s from rfl] at c10
  rw [show (s.getD 11 0).toNat = manyT s from rfl] at c11
  have HU := fun j => h.out.keep (Keeps.of (below_drewN (Below.refl w.heap.size w) j))
  have C1 : ∀ j, Calls Try.prog 63 #[.slice (some ⟨b, off, none⟩) 4 c] (w.drewN j) fun e w' => e = .returned (.int .u64 (genT s : Nat)) ∧ w' = w.drewN j := fun j => jNumber_at (by have := (HU j).sub 0 4 c (by omega) (by omega) hcb.out hs.out; rwa [Nat.add_zero, List.drop_zero] at this) (by simp; have := hs.out; omega) (by omega) rfl
  have C2 : ∀ j, Calls Try.prog 63 #[.slice (some ⟨b, off + 124, none⟩) 4 (c - 124)] (w.drewN j) fun e w' => e = .returned (.int .u64 (numT (s.drop 124) : Nat)) ∧ w' = w.drewN j := fun j => jNumber_at (by have := (HU j).sub 124 4 (c - 124) (by omega) (by omega) (by have := hcb.out; omega) hs.out; rwa [List.take_of_length_le (by simp; have := hs.out; omega)] at this) (by simp; have := hs.out; omega) (by omega) rfl
  have C3 : ∀ j, Calls Try.prog 63 #[.slice (some ⟨b, off + 4, none⟩) 4 (c - 4)] (w.drewN j) fun e w' => e = .returned (.int .u64 (numT ((s.drop 4).take 4) : Nat)) ∧ w' = w.drewN j := fun j => jNumber_at ((HU j).sub 4 4 (c - 4) (by omega) (by omega) (by have := hcb.out; omega) hs.out) (by simp; have := hs.out; omega) (by omega) rfl
  have C4 : ∀ j, Calls Try.prog 67 #[.slice (some ⟨b, off + 8, none⟩) 116 (c - 8)] (w.drewN j) fun e w' => e = .returned (.int .u32 (sumT ((s.drop 8).take 116) : Nat)) ∧ w' = w.drewN j := fun j => jChecksum_at ((HU j).sub 8 116 (c - 8) (by omega) (by omega) (by have := hcb.out; omega) hs.out) (by simp; have := hs.out; omega) rfl
  have C5 : ∀ j, Calls Try.prog 63 #[.slice (some ⟨b, off + 8, none⟩) 2 (c - 8)] (w.drewN j) fun e w' => e = .returned (.int .u64 (numT ((s.drop 8).take 2) : Nat)) ∧ w' = w.drewN j := fun j => jNumber_at ((HU j).sub 8 2 (c - 8) (by omega) (by omega) (by have := hcb.out; omega) hs.out) (by simp; have := hs.out; omega) (by omega) rfl
  have q32 : IntKind.u32.wrap ((numT ((s.drop 4).take 4) : Nat) : Int) = ((numT ((s.drop 4).take 4) : Nat) : Int) := wrap_u32_nat (numT_lt4 (by simp; have := hs.out; omega))
  have k64 : IntKind.u64.wrap (k : Int) = (k : Int) := wrap_u64_nat (by omega)
  clear HU
  have HT : goodT s k = false := good_no1 hb
  rw [HT]
  clear HT
  have b1 : ((genT s : Int) == 0) = false := by simp; omega
  have b2 : ((genT s : Int) != (numT (s.drop 124) : Int)) = false := by simp; omega
  have b3 : ((numT ((s.drop 4).take 4) : Int) != (sumT ((s.drop 8).take 116) : Int)) = false := by simp; omega
  have b4 : ((numT ((s.drop 8).take 2) : Int) != (k : Int)) = false := by simp; omega
  clear h1 h2 h3 h4
  clear hb
  clear h hs
  generalize genT s = g at *
  generalize numT (s.drop 124) = t at *
  generalize numT ((s.drop 4).take 4) = q at *
  generalize sumT ((s.drop 8).take 116) = u at *
  generalize numT ((s.drop 8).take 2) = k1 at *
  generalize manyT s = n at *
  generalize kindT s = x at *
  have b5 : decide (3 < (x : Int)) = false := by simp; omega
  have b6 : decide (112 < (n : Int)) = false := by simp; omega
  have b7 : decide ((x : Int) < 2) = true := by simp; omega
  have b8 : ((n : Int) != 112) = true := by simp; omega
  go_enter Try.func72, Try.ntmps72
  go_upto_region 2 with fail
  go_quiet (first | (go_at_call 63; first | with_reducible exact Calls.quiet_of_same (C1 _) | with_reducible exact Calls.quiet_of_same (C2 _) | with_reducible exact Calls.quiet_of_same (C3 _) | with_reducible exact Calls.quiet_of_same (C5 _)) | (go_at_call 67; with_reducible exact Calls.quiet_of_same (C4 _)))
  go_wp2
  go_ret
  exact ⟨rfl, below_drewN (Below.refl _ _) _⟩
set_option maxRecDepth 100000 in
set_option maxHeartbeats 8000000 in
theorem jRGood_8 (s : Bs) (k b off c : Nat) (S : Nat → Prop) (w : World) (h : Hid (BsAt w S (.slice (some ⟨b, off, none⟩) 128 c) s)) (hs : Hid (s.length = 128)) (hk : k < 65536) (h1 : genT s ≠ 0) (h2 : genT s = numT (s.drop 124)) (h3 : numT ((s.drop 4).take 4) = sumT ((s.drop 8).take 116)) (h4 : numT ((s.drop 8).take 2) = k) (hb : kindB (kindT s) (manyT s) = false) (h5 : kindT s = 2) (h6 : manyT s = 0) :
    Calls Try.prog 72 #[.slice (some ⟨b, off, none⟩) 128 c, .int .i64 k] w fun e w' => e = .returned (.bool (goodT s k)) ∧ Below w.heap.size w w' := by
  have hcm : c ≤ maxLen ∧ 128 ≤ c := by
    rcases h.out.1 with e | ⟨_, _, _, e, h1, h2⟩
    · cases e
    · cases e; exact ⟨h2, h1⟩
  have hca := hcm.2
  have hcb := Lib.hid hcm.1
  have hcl : (c : Int) ≤ 9223372036854775807 := by have := hcm.1; simp only [maxLen] at this; omega
  clear hcm
  obtain ⟨_, _, e, hSb, hbz, c10⟩ := h.out.cell (k := 10) (by rw [hs.out]; decide)
  cases e
  obtain ⟨_, _, e, _, _, c11⟩ := h.out.cell (k := 11) (by rw [hs.out]; decide)
  cases e
  have hx : kindT s < 256 := u8_lt _
  have hn255 : manyT s < 256 := u8_lt _
  rw [show (s.getD 10 0).toNat = kindT s from rfl] at c10
  rw [show (s.getD 11 0).toNat = manyT s from rfl] at c11
  have HU := fun j => h.out.keep (Keeps.of (below_drewN (Below.refl w.heap.size w) j))
  have C1 : ∀ j, Calls Try.prog 63 #[.slice (some ⟨b, off, none⟩) 4 c] (w.drewN j) fun e w' => e = .returned (.int .u64 (genT s : Nat)) ∧ w' = w.drewN j := fun j => jNumber_at (by have := (HU j).sub 0 4 c (by omega) (by omega) hcb.out hs.out; rwa [Nat.add_zero, List.drop_zero] at this) (by simp; have := hs.out; omega) (by omega) rfl
  have C2 : ∀ j, Calls Try.prog 63 #[.slice (some ⟨b, off + 124, none⟩) 4 (c - 124)] (w.drewN j) fun e w' => e = .returned (.int .u64 (numT (s.drop 124) : Nat)) ∧ w' = w.drewN j := fun j => jNumber_at (by have := (HU j).sub 124 4 (c - 124) (by omega) (by omega) (by have := hcb.out; omega) hs.out; rwa [List.take_of_length_le (by simp; have := hs.out; omega)] at this) (by simp; have := hs.out; omega) (by omega) rfl
  have C3 : ∀ j, Calls Try.prog 63 #[.slice (some ⟨b, off + 4, none⟩) 4 (c - 4)] (w.drewN j) fun e w' => e = .returned (.int .u64 (numT ((s.drop 4).take 4) : Nat)) ∧ w' = w.drewN j := fun j => jNumber_at ((HU j).sub 4 4 (c - 4) (by omega) (by omega) (by have := hcb.out; omega) hs.out) (by simp; have := hs.out; omega) (by omega) rfl
  have C4 : ∀ j, Calls Try.prog 67 #[.slice (some ⟨b, off + 8, none⟩) 116 (c - 8)] (w.drewN j) fun e w' => e = .returned (.int .u32 (sumT ((s.drop 8).take 116) : Nat)) ∧ w' = w.drewN j := fun j => jChecksum_at ((HU j).sub 8 116 (c - 8) (by omega) (by omega) (by have := hcb.out; omega) hs.out) (by simp; have := hs.out; omega) rfl
  have C5 : ∀ j, Calls Try.prog 63 #[.slice (some ⟨b, off + 8, none⟩) 2 (c - 8)] (w.drewN j) fun e w' => e = .returned (.int .u64 (numT ((s.drop 8).take 2) : Nat)) ∧ w' = w.drewN j := fun j => jNumber_at ((HU j).sub 8 2 (c - 8) (by omega) (by omega) (by have := hcb.out; omega) hs.out) (by simp; have := hs.out; omega) (by omega) rfl
  have q32 : IntKind.u32.wrap ((numT ((s.drop 4).take 4) : Nat) : Int) = ((numT ((s.drop 4).take 4) : Nat) : Int) := wrap_u32_nat (numT_lt4 (by simp; have := hs.out; omega))
  have k64 : IntKind.u64.wrap (k : Int) = (k : Int) := wrap_u64_nat (by omega)
  clear HU
  have HT : goodT s k = false := good_no1 hb
  rw [HT]
  clear HT
  have b1 : ((genT s : Int) == 0) = false := by simp; omega
  have b2 : ((genT s : Int) != (numT (s.drop 124) : Int)) = false := by simp; omega
  have b3 : ((numT ((s.drop 4).take 4) : Int) != (sumT ((s.drop 8).take 116) : Int)) = false := by simp; omega
  have b4 : ((numT ((s.drop 8).take 2) : Int) != (k : Int)) = false := by simp; omega
  clear h1 h2 h3 h4
  clear hb
  clear h hs
  generalize genT s = g at *
  generalize numT (s.drop 124) = t at *
  generalize numT ((s.drop 4).take 4) = q at *
  generalize sumT ((s.drop 8).take 116) = u at *
  generalize numT ((s.drop 8).take 2) = k1 at *
  generalize manyT s = n at *
  generalize kindT s = x at *
  subst h5 h6
  go_enter Try.func72, Try.ntmps72
  go_upto_region 2 with fail
  go_quiet (first | (go_at_call 63; first | with_reducible exact Calls.quiet_of_same (C1 _) | with_reducible exact Calls.quiet_of_same (C2 _) | with_reducible exact Calls.quiet_of_same (C3 _) | with_reducible exact Calls.quiet_of_same (C5 _)) | (go_at_call 67; with_reducible exact Calls.quiet_of_same (C4 _)))
  go_wp2
  go_ret
  exact ⟨rfl, below_drewN (Below.refl _ _) _⟩
set_option maxRecDepth 100000 in
set_option maxHeartbeats 8000000 in
theorem jRGood_9 (s : Bs) (k b off c : Nat) (S : Nat → Prop) (w : World) (h : Hid (BsAt w S (.slice (some ⟨b, off, none⟩) 128 c) s)) (hs : Hid (s.length = 128)) (hk : k < 65536) (h1 : genT s ≠ 0) (h2 : genT s = numT (s.drop 124)) (h3 : numT ((s.drop 4).take 4) = sumT ((s.drop 8).take 116)) (h4 : numT ((s.drop 8).take 2) = k) (hb : kindB (kindT s) (manyT s) = true) :
    Calls Try.prog 72 #[.slice (some ⟨b, off, none⟩) 128 c, .int .i64 k] w fun e w' => e = .returned (.bool (goodT s k)) ∧ Below w.heap.size w w' := by
  have hcm : c ≤ maxLen ∧ 128 ≤ c := by
    rcases h.out.1 with e | ⟨_, _, _, e, h1, h2⟩
    · cases e
    · cases e; exact ⟨h2, h1⟩
  have hca := hcm.2
  have hcb := Lib.hid hcm.1
  have hcl : (c : Int) ≤ 9223372036854775807 := by have := hcm.1; simp only [maxLen] at this; omega
  clear hcm
  obtain ⟨_, _, e, hSb, hbz, c10⟩ := h.out.cell (k := 10) (by rw [hs.out]; decide)
  cases e
  obtain ⟨_, _, e, _, _, c11⟩ := h.out.cell (k := 11) (by rw [hs.out]; decide)
  cases e
  have hx : kindT s < 256 := u8_lt _
  have hn255 : manyT s < 256 := u8_lt _
  rw [show (s.getD 10 0).toNat = kindT s from rfl] at c10
  rw [show (s.getD 11 0).toNat = manyT s from rfl] at c11
  have HU := fun j => h.out.keep (Keeps.of (below_drewN (Below.refl w.heap.size w) j))
  have C1 : ∀ j, Calls Try.prog 63 #[.slice (some ⟨b, off, none⟩) 4 c] (w.drewN j) fun e w' => e = .returned (.int .u64 (genT s : Nat)) ∧ w' = w.drewN j := fun j => jNumber_at (by have := (HU j).sub 0 4 c (by omega) (by omega) hcb.out hs.out; rwa [Nat.add_zero, List.drop_zero] at this) (by simp; have := hs.out; omega) (by omega) rfl
  have C2 : ∀ j, Calls Try.prog 63 #[.slice (some ⟨b, off + 124, none⟩) 4 (c - 124)] (w.drewN j) fun e w' => e = .returned (.int .u64 (numT (s.drop 124) : Nat)) ∧ w' = w.drewN j := fun j => jNumber_at (by have := (HU j).sub 124 4 (c - 124) (by omega) (by omega) (by have := hcb.out; omega) hs.out; rwa [List.take_of_length_le (by simp; have := hs.out; omega)] at this) (by simp; have := hs.out; omega) (by omega) rfl
  have C3 : ∀ j, Calls Try.prog 63 #[.slice (some ⟨b, off + 4, none⟩) 4 (c - 4)] (w.drewN j) fun e w' => e = .returned (.int .u64 (numT ((s.drop 4).take 4) : Nat)) ∧ w' = w.drewN j := fun j => jNumber_at ((HU j).sub 4 4 (c - 4) (by omega) (by omega) (by have := hcb.out; omega) hs.out) (by simp; have := hs.out; omega) (by omega) rfl
  have C4 : ∀ j, Calls Try.prog 67 #[.slice (some ⟨b, off + 8, none⟩) 116 (c - 8)] (w.drewN j) fun e w' => e = .returned (.int .u32 (sumT ((s.drop 8).take 116) : Nat)) ∧ w' = w.drewN j := fun j => jChecksum_at ((HU j).sub 8 116 (c - 8) (by omega) (by omega) (by have := hcb.out; omega) hs.out) (by simp; have := hs.out; omega) rfl
  have C5 : ∀ j, Calls Try.prog 63 #[.slice (some ⟨b, off + 8, none⟩) 2 (c - 8)] (w.drewN j) fun e w' => e = .returned (.int .u64 (numT ((s.drop 8).take 2) : Nat)) ∧ w' = w.drewN j := fun j => jNumber_at ((HU j).sub 8 2 (c - 8) (by omega) (by omega) (by have := hcb.out; omega) hs.out) (by simp; have := hs.out; omega) (by omega) rfl
  have q32 : IntKind.u32.wrap ((numT ((s.drop 4).take 4) : Nat) : Int) = ((numT ((s.drop 4).take 4) : Nat) : Int) := wrap_u32_nat (numT_lt4 (by simp; have := hs.out; omega))
  have k64 : IntKind.u64.wrap (k : Int) = (k : Int) := wrap_u64_nat (by omega)
  clear HU
  have hn112 : manyT s ≤ 112 := by simp [kindB] at hb; omega
  have HT := good_pad h1 hb h2 h3 h4
  obtain ⟨T, hT⟩ : ∃ T, goodT s k = T := ⟨_, rfl⟩
  rw [hT] at HT ⊢
  have hP := pad_iff hs.out hn112
  have HP : Hid (T = true ↔ ∀ j, manyT s ≤ j → j < 112 → s.getD (12 + j) 0 = 0) := by rw [HT, decide_eq_true_iff]; exact hP
  have hw := kind_ways (kindT s) (manyT s)
  have hq : (kindT s = 0 ∧ manyT s = 112) ∨ (kindT s = 1 ∧ manyT s = 112) ∨ (kindT s = 2 ∧ 0 < manyT s ∧ manyT s ≤ 112) ∨ (kindT s = 3 ∧ manyT s ≤ 112) := by
    rcases hw with ⟨_, q⟩ | ⟨_, _, q⟩ | ⟨_, _, _, q⟩ | ⟨_, _, _, q⟩ | ⟨_, q⟩
    · rw [hb] at q; cases q
    · rw [hb] at q; cases q
    · rw [hb] at q; cases q
    · rw [hb] at q; cases q
    · exact q
  clear hw hP HT hT hb
  have b1 : ((genT s : Int) == 0) = false := by simp; omega
  have b2 : ((genT s : Int) != (numT (s.drop 124) : Int)) = false := by simp; omega
  have b3 : ((numT ((s.drop 4).take 4) : Int) != (sumT ((s.drop 8).take 116) : Int)) = false := by simp; omega
  have b4 : ((numT ((s.drop 8).take 2) : Int) != (k : Int)) = false := by simp; omega
  clear h1 h2 h3 h4
  generalize genT s = g at *
  generalize numT (s.drop 124) = t at *
  generalize numT ((s.drop 4).take 4) = q at *
  generalize sumT ((s.drop 8).take 116) = u at *
  generalize numT ((s.drop 8).take 2) = k1 at *
  have HCc := fun (u : World) (hu : Below w.heap.size w u) (j : Nat) (hj : j < 112) => (h.out.keep (Keeps.of hu)).cell (k := 12 + j) (by rw [hs.out]; omega)
  have HC := Lib.hid HCc
  clear HCc h hs
  generalize manyT s = n at *
  generalize kindT s = x at *
  go_enter Try.func72, Try.ntmps72
  go_upto_region 2 with fail
  go_cut [72] from 11 to 71 (fun s72 wx => s72 = .bool false ∧ Below w.heap.size w wx)
  case first =>
    have h112 : decide (112 < (n : Int)) = false := by simp; omega
    have h0n : x = 2 → ((n : Int) == 0) = false := fun hx => by simp; omega
    have h3n : x = 3 ∨ x = 2 → decide ((x : Int) < 2) = false := fun hx => by simp; omega
    rcases hq with ⟨rfl, rfl⟩ | ⟨rfl, rfl⟩ | ⟨rfl, q1, q2⟩ | ⟨rfl, q1⟩
    all_goals
      first | (have h0 := h0n rfl; clear h0n) | clear h0n
      go_quiet (first | (go_at_call 63; first | with_reducible exact Calls.quiet_of_same (C1 _) | with_reducible exact Calls.quiet_of_same (C2 _) | with_reducible exact Calls.quiet_of_same (C3 _) | with_reducible exact Calls.quiet_of_same (C5 _)) | (go_at_call 67; with_reducible exact Calls.quiet_of_same (C4 _)))
      go_wp2_with fail
      go_meet
      exact ⟨rfl, below_drewN (Below.refl _ _) _⟩
  case rest =>
    obtain ⟨rfl, hB⟩ := hcut
    clear C1 C2 C3 C4 C5 b1 b2 b3 b4 q32 k64 hq
    go_wp2_with fail
    go_loopw [6] (fun i wr => ∃ m : Nat, n ≤ m ∧ m ≤ 112 ∧ i = .int .i64 (12 + m : Nat) ∧ Hid (∀ j, n ≤ j → j < m → s.getD (12 + j) 0 = 0) ∧ Below w.heap.size w wr) (fun i _ => 124 - (intOf i).toNat)
    case atStart => exact ⟨n, by omega, hn112, by first | rfl | simp, fun j h1 h2 => by omega, hB⟩
    case round =>
      clear hB
      obtain ⟨m, hnm, hm, rfl, hz, hB⟩ := hrel
      rcases Nat.lt_or_ge m 112 with hlt | hge
      rotate_left
      · obtain rfl : m = 112 := by omega
        obtain rfl : T = true := HP.out.2 fun j h1 h2 => hz.out j h1 h2
        go_wp2
        go_ret
        exact ⟨rfl, hB⟩
      obtain ⟨_, _, e, _, _, cm⟩ := HC.out _ hB m hlt
      cases e
      have hbz2 := Nat.lt_of_lt_of_le hbz hB.size
      obtain ⟨y, hy⟩ : ∃ y, s.getD (12 + m) 0 = y := ⟨_, rfl⟩
      rw [hy] at cm
      have HY := Lib.hid hy
      clear hy
      have hm124 : ((12 + m : Nat) : Int) < 124 := by omega
      by_cases h0 : y = 0
      · subst h0
        have hz2 : Hid (∀ j, n ≤ j → j < m + 1 → s.getD (12 + j) 0 = 0) := fun j h1 h2 => by
          rcases Nat.lt_or_ge j m with h | h
          · exact hz.out j h1 h
          · obtain rfl : j = m := by omega
            exact HY.out
        have cm : _ = some (Value.int .u8 0) := cm
        go_wp2
        exact ⟨⟨m + 1, by omega, by omega, by go_num, hz2, hB⟩, by simp [intOf] <;> omega⟩
      · obtain rfl : T = false := by
          rcases hT : T with _ | _
          · rfl
          · exact absurd ((HY.out).symm.trans (HP.out.1 hT m hnm hlt)) h0
        have hy0 : ((y.toNat : Int) != 0) = true := by
          simp
          intro h
          exact h0 (UInt8.toNat_inj.1 (by simpa using h))
        go_wp2
        go_ret
        exact ⟨rfl, hB⟩
theorem jRGood_any (s : Bs) (k : Nat) (A : Option Addr) (c : Nat) (S : Nat → Prop) (w : World) (h : Hid (BsAt w S (.slice A 128 c) s)) (hs : Hid (s.length = 128)) (hk : k < 65536) :
    Calls Try.prog 72 #[.slice A 128 c, .int .i64 k] w fun e w' => e = .returned (.bool (goodT s k)) ∧ Below w.heap.size w w' := by
  obtain ⟨b, off, rfl, _⟩ := h.out.cell (k := 10) (by rw [hs.out]; decide)
  by_cases h1 : genT s = 0
  · exact jRGood_1 s k b off c S w h hs hk h1
  by_cases h2 : genT s = numT (s.drop 124)
  rotate_left
  · exact jRGood_2 s k b off c S w h hs hk h1 h2
  by_cases h3 : numT ((s.drop 4).take 4) = sumT ((s.drop 8).take 116)
  rotate_left
  · exact jRGood_3 s k b off c S w h hs hk h1 h2 h3
  by_cases h4 : numT ((s.drop 8).take 2) = k
  rotate_left
  · exact jRGood_4 s k b off c S w h hs hk h1 h2 h3 h4
  rcases hb : kindB (kindT s) (manyT s) with _ | _
  rotate_left
  · exact jRGood_9 s k b off c S w h hs hk h1 h2 h3 h4 hb
  by_cases h5 : 3 < kindT s
  · exact jRGood_5 s k b off c S w h hs hk h1 h2 h3 h4 hb h5
  by_cases h6 : 112 < manyT s
  · exact jRGood_6 s k b off c S w h hs hk h1 h2 h3 h4 hb (by omega) h6
  by_cases h7 : kindT s < 2 ∧ manyT s < 112
  · exact jRGood_7 s k b off c S w h hs hk h1 h2 h3 h4 hb h7.1 h7.2
  have h8 : kindT s = 2 ∧ manyT s = 0 := by
    rcases kind_ways (kindT s) (manyT s) with ⟨q, _⟩ | ⟨_, q, _⟩ | ⟨_, q, r, _⟩ | ⟨_, q, r, _⟩ | ⟨q, _⟩
    · omega
    · omega
    · omega
    · omega
    · rw [hb] at q; cases q
  exact jRGood_8 s k b off c S w h hs hk h1 h2 h3 h4 hb h8.1 h8.2

end Go.Proofs.Ythlidhfahaalgaa

/-
  Records on sectors, as plain data; bytes appended to an own row. No condition.
-/
namespace Go.Proofs.Ythlidhfahaalgaa
open Go.RowKit

/-- The record that begins at the first of these sectors (the first one bears number k), and how many sectors it takes. -/
def recGo (g : Nat) (k : Nat) (first : Bool) : List Bs → Option (Bs × Nat)
  | [] => none
  | s :: r => if goodT s k = true ∧ decide (kindT s % 2 = 1) = first ∧ genT s = g then (if 2 ≤ kindT s then some (dataT s, 1) else (recGo g (k + 1) false r).map fun x => (dataT s ++ x.1, x.2 + 1)) else none
def recsT : Nat → Nat → Nat → List Bs → List Bs
  | 0, _, _, _ => []
  | f + 1, k, last, l => match l with
    | [] => []
    | s :: _ => match recGo (genT s) k true l with
      | none => []
      | some (b, n) => if genT s < last then [] else b :: recsT f (k + n) (genT s) (l.drop n)
/-- The records on a disk's sectors. -/
def recordsT (l : List Bs) : List Bs := recsT (l.length + 1) 0 0 l
theorem recGo_pos {g k : Nat} {first : Bool} {l : List Bs} {b : Bs} {n : Nat} (h : recGo g k first l = some (b, n)) : 1 ≤ n ∧ n ≤ l.length := by
  induction l generalizing k first b n with
  | nil => cases h
  | cons s r ih =>
    rw [recGo] at h
    split at h
    · split at h
      · injection h with h; injection h with h1 h2; subst h2; simp
      · cases hr : recGo g (k + 1) false r with
        | none => rw [hr] at h; cases h
        | some x =>
          obtain ⟨b', n'⟩ := x
          rw [hr] at h
          injection h with h; injection h with h1 h2
          have := ih hr
          subst h2
          simp only [List.length_cons]
          omega
    · cases h
theorem recsT_fuel (f : Nat) : ∀ (f' k last : Nat) (l : List Bs), l.length < f → l.length < f' → recsT f k last l = recsT f' k last l := by
  induction f with
  | zero => intro f' k last l h; omega
  | succ f ih =>
    intro f' k last l h1 h2
    obtain ⟨f', rfl⟩ : ∃ m, f' = m + 1 := ⟨f' - 1, by omega⟩
    rcases l with _ | ⟨s, r⟩
    · rfl
    · unfold recsT
      dsimp only
      cases hr : recGo (genT s) k true (s :: r) with
      | none => rfl
      | some x =>
        obtain ⟨b, n⟩ := x
        have := recGo_pos hr
        dsimp only
        split
        · rfl
        · rw [ih f' _ _ _ (by rw [List.length_drop]; omega) (by rw [List.length_drop]; omega)]
/-- What is left of the records from sector number k on. -/
def leftT (l : List Bs) (k last : Nat) : List Bs := recsT (l.length + 1) k last (l.drop k)
theorem recordsT_left (l : List Bs) : recordsT l = leftT l 0 0 := rfl
theorem leftT_end {l : List Bs} {k last : Nat} (h : l.length ≤ k) : leftT l k last = [] := by
  rw [leftT, List.drop_of_length_le h]; rfl
theorem leftT_none {l : List Bs} {k last : Nat} (hk : k < l.length) (h : recGo (genT l[k]) k true (l.drop k) = none) : leftT l k last = [] := by
  rw [List.drop_eq_getElem_cons hk] at h
  rw [leftT, List.drop_eq_getElem_cons hk, recsT, h]
theorem leftT_old {l : List Bs} {k last : Nat} (hk : k < l.length) (h : genT l[k] < last) : leftT l k last = [] := by
  rw [leftT, List.drop_eq_getElem_cons hk, recsT]
  cases recGo (genT l[k]) k true (l[k] :: l.drop (k + 1)) with
  | none => rfl
  | some x => obtain ⟨b, n⟩ := x; simp only [h, if_true]
theorem leftT_some {l : List Bs} {k last n : Nat} {b : Bs} (hk : k < l.length) (h : recGo (genT l[k]) k true (l.drop k) = some (b, n)) (hl : ¬ genT l[k] < last) : leftT l k last = b :: leftT l (k + n) (genT l[k]) := by
  have hp := recGo_pos h
  have h2 := h
  rw [List.drop_eq_getElem_cons hk] at h2
  rw [leftT, List.drop_eq_getElem_cons hk, recsT, h2]
  dsimp only
  rw [if_neg hl, ← List.drop_eq_getElem_cons hk, List.drop_drop, leftT]
  rw [recsT_fuel l.length (l.length + 1) _ _ _ (by rw [List.length_drop]; omega) (by rw [List.length_drop]; omega)]

/-- Bytes appended to an own row. -/
theorem run_appB {w : World} {base n c : Nat} {A : Option Addr} {S : Nat → Prop} {V : Value} {l b : Bs} (ty : TypeId) (ho : OwnBs w base V l) (hb : BsAt w S (.slice A n c) b) (hbase : base ≤ w.heap.size) (hl : l.length + b.length ≤ 1048576) :
    ∃ V' w', (appF #[35, 35] ty #[V, .slice A n c]).run Try.prog w = .ok V' w' ∧ OwnBs w' base V' (l ++ b) ∧ w.grownBy w' V.ownBlock := by
  obtain ⟨i, E⟩ := elem_by
  have ho' : w.ownsRow base 5 1 V l.length (flat l.length 1 (fun i _ => .int .u8 ((l.getD i 0).toNat : Int))) := by rw [byV_flat]; exact ho
  obtain ⟨V', w', hr, h1, h2⟩ := run_app_own (E := E) ty ho' hb.2.sl hb.1 (fun _ _ _ _ => rfl) (by simp only [maxLen]; omega) (by omega) hbase
  refine ⟨V', w', hr, ?_, h2⟩
  rw [flat_cat _ _ _ (by decide), byV_flat, byV_flat, ← byV_append] at h1
  rw [OwnBs, List.length_append]
  exact h1
theorem ownBs_nil (w : World) (base : Nat) : OwnBs w base (.slice none 0 0) [] := by
  unfold OwnBs
  exact ⟨by simp [byV], .inl ⟨rfl, rfl⟩⟩
/-- Behind such an append all blocks below the row's base lie as they lay. -/
theorem own_below {w w' : World} {base n e : Nat} {V : Value} {xs : List Value} (h : w.ownsRow base e 1 V n xs) (hbase : base ≤ w.heap.size) (hg : w.grownBy w' V.ownBlock) : Below base w w' := by
  refine (Below.refl base w).grown hg hbase fun k hk => ?_
  rcases h.2 with ⟨rfl, _⟩ | ⟨g, cap, cur, rfl, hgb, _⟩
  · cases hk
  · have : g = k := by simpa [Value.ownBlock] using hk
    omega

end Go.Proofs.Ythlidhfahaalgaa
