/-
  The walk of good of the reference of chapter 5. A sector has 128 bytes. (Printed by gen_jk.py.)
-/
import Derived.Test.YthlidhfahaalgaaQKD
import Derived.Deep.CutBlock
namespace Go.Proofs.Ythlidhfahaalgaa
open Go.RowKit

theorem pad_iff {s : Bs} {n : Nat} (hs : s.length = 128) (hn : n ≤ 112) : (s.drop (12 + n)).take (112 - n) = List.replicate (112 - n) 0 ↔ ∀ j, n ≤ j → j < 112 → s.getD (12 + j) 0 = 0 := by
  have hl : ((s.drop (12 + n)).take (112 - n)).length = 112 - n := by simp; omega
  constructor
  · intro h j h1 h2
    have h3 := congrArg (fun l => l.getD (j - n) 0) h
    rw [List.getD_eq_getElem?_getD, List.getElem?_take_of_lt (by omega), List.getElem?_drop, List.getD_eq_getElem?_getD, List.getElem?_replicate, if_pos (by omega), show 12 + n + (j - n) = 12 + j by omega] at h3
    rw [List.getD_eq_getElem?_getD]
    exact h3
  · intro h
    apply List.ext_getElem?
    intro i
    rw [List.getElem?_replicate]
    split
    · rename_i hi
      have := h (n + i) (by omega) (by omega)
      rw [List.getElem?_take_of_lt hi, List.getElem?_drop, show 12 + n + i = 12 + (n + i) by omega]
      rw [List.getD_eq_getElem?_getD, List.getElem?_eq_getElem (by omega)] at this
      rw [List.getElem?_eq_getElem (by omega)]
      exact congrArg some this
    · rw [List.getElem?_eq_none (by omega)]
theorem good_pad {s : Bs} {k : Nat} (h1 : genT s ≠ 0) (h2 : kindB (kindT s) (manyT s) = true) (h3 : genT s = numT (s.drop 124)) (h4 : numT ((s.drop 4).take 4) = sumT ((s.drop 8).take 116)) (h5 : numT ((s.drop 8).take 2) = k) :
    goodT s k = decide ((s.drop (12 + manyT s)).take (112 - manyT s) = List.replicate (112 - manyT s) 0) := by
  unfold goodT
  rw [decide_eq_true h1, h2, decide_eq_true h3, decide_eq_true h4, decide_eq_true h5]
  simp
theorem good_no3 {s : Bs} {k : Nat} (h : genT s ≠ numT (s.drop 124)) : goodT s k = false := by simp [goodT, h]
theorem good_no4 {s : Bs} {k : Nat} (h : numT ((s.drop 4).take 4) ≠ sumT ((s.drop 8).take 116)) : goodT s k = false := by simp [goodT, h]
theorem good_no5 {s : Bs} {k : Nat} (h : numT ((s.drop 8).take 2) ≠ k) : goodT s k = false := by simp [goodT, h]
theorem jNumber_at {l : Bs} {A : Option Addr} {n c T : Nat} {S : Nat → Prop} {w : World} (h : BsAt w S (.slice A n c) l) (hn : l.length = n) (hn4 : n ≤ 4) (hT : numT l = T) : Calls Try.prog 63 #[.slice A n c] w fun e w' => e = .returned (.int .u64 (T : Nat)) ∧ w' = w := by
  subst hn hT
  exact jNumber_any l A c S w (Lib.hid h) hn4
theorem jChecksum_at {l : Bs} {A : Option Addr} {n c T : Nat} {S : Nat → Prop} {w : World} (h : BsAt w S (.slice A n c) l) (hn : l.length = n) (hT : sumT l = T) : Calls Try.prog 67 #[.slice A n c] w fun e w' => e = .returned (.int .u32 (T : Nat)) ∧ w' = w := by
  subst hn hT
  exact jChecksum_any l A c S w (Lib.hid h)

set_option maxRecDepth 100000 in
set_option maxHeartbeats 8000000 in
theorem jRGood_1 (s : Bs) (k b off c : Nat) (S : Nat → Prop) (w : World) (h : Hid (BsAt w S (.slice (some ⟨b, off, none⟩) 128 c) s)) (hs : Hid (s.length = 128)) (hk : k < 65536) (h1 : genT s = 0) :
    Calls Try.prog 72 #[.slice (some ⟨b, off, none⟩) 128 c, .int .i64 k] w fun e w' => e = .returned (.bool (goodT s k)) ∧ Below w.heap.size w w' := by
  have hcm : c ≤ maxLen ∧ 128 ≤ c := by
    rcases h.out.1 with e | ⟨_, _, _, e, h1, h2⟩
    · cases e
    · cases e; exact ⟨h2, h1⟩
  have hca := hcm.2
  have hcb := Lib.hid hcm.1
  have hcl : (c : Int) ≤ 9223372036854775807 := by have := hcm.1; simp only [maxLen] at this; omega
  clear hcm
  obtain ⟨_, _, e, hSb, hbz, c10⟩ := h.out.cell (k := 10) (by rw [hs.out]; decide)
  cases e
  obtain ⟨_, _, e, _, _, c11⟩ := h.out.cell (k := 11) (by rw [hs.out]; decide)
  cases e
  have hx : kindT s < 256 := u8_lt _
  have hn255 : manyT s < 256 := u8_lt _
  rw [show (s.getD 10 0).toNat = kindT s from rfl] at c10
  rw [show (s.getD 11 0).toNat = manyT s from rfl] at c11
  have HU := fun j => h.out.keep (Keeps.of (below_drewN (Below.refl w.heap.size w) j))
  have C1 : ∀ j, Calls Try.prog 63 #[.slice (some ⟨b, off, none⟩) 4 c] (w.drewN j) fun e w' => e = .returned (.int .u64 (genT s : Nat)) ∧ w' = w.drewN j := fun j => jNumber_at (by have := (HU j).sub 0 4 c (by omega) (by omega) hcb.out hs.out; rwa [Nat.add_zero, List.drop_zero] at this) (by simp; have := hs.out; omega) (by omega) rfl
  have C2 : ∀ j, Calls Try.prog 63 #[.slice (some ⟨b, off + 124, none⟩) 4 (c - 124)] (w.drewN j) fun e w' => e = .returned (.int .u64 (numT (s.drop 124) : Nat)) ∧ w' = w.drewN j := fun j => jNumber_at (by have := (HU j).sub 124 4 (c - 124) (by omega) (by omega) (by have := hcb.out; omega) hs.out; rwa [List.take_of_length_le (by simp; have := hs.out; omega)] at this) (by simp; have := hs.out; omega) (by omega) rfl
  have C3 : ∀ j, Calls Try.prog 63 #[.slice (some ⟨b, off + 4, none⟩) 4 (c - 4)] (w.drewN j) fun e w' => e = .returned (.int .u64 (numT ((s.drop 4).take 4) : Nat)) ∧ w' = w.drewN j := fun j => jNumber_at ((HU j).sub 4 4 (c - 4) (by omega) (by omega) (by have := hcb.out; omega) hs.out) (by simp; have := hs.out; omega) (by omega) rfl
  have C4 : ∀ j, Calls Try.prog 67 #[.slice (some ⟨b, off + 8, none⟩) 116 (c - 8)] (w.drewN j) fun e w' => e = .returned (.int .u32 (sumT ((s.drop 8).take 116) : Nat)) ∧ w' = w.drewN j := fun j => jChecksum_at ((HU j).sub 8 116 (c - 8) (by omega) (by omega) (by have := hcb.out; omega) hs.out) (by simp; have := hs.out; omega) rfl
  have C5 : ∀ j, Calls Try.prog 63 #[.slice (some ⟨b, off + 8, none⟩) 2 (c - 8)] (w.drewN j) fun e w' => e = .returned (.int .u64 (numT ((s.drop 8).take 2) : Nat)) ∧ w' = w.drewN j := fun j => jNumber_at ((HU j).sub 8 2 (c - 8) (by omega) (by omega) (by have := hcb.out; omega) hs.out) (by simp; have := hs.out; omega) (by omega) rfl
  have q32 : IntKind.u32.wrap ((numT ((s.drop 4).take 4) : Nat) : Int) = ((numT ((s.drop 4).take 4) : Nat) : Int) := wrap_u32_nat (numT_lt4 (by simp; have := hs.out; omega))
  have k64 : IntKind.u64.wrap (k : Int) = (k : Int) := wrap_u64_nat (by omega)
  clear HU
  have HT : goodT s k = false := good_no2 h1
  rw [HT]
  clear HT
  have b1 : ((genT s : Int) == 0) = true := by simp; omega
  clear h1
  clear h hs
  generalize genT s = g at *
  generalize numT (s.drop 124) = t at *
  generalize numT ((s.drop 4).take 4) = q at *
  generalize sumT ((s.drop 8).take 116) = u at *
  generalize numT ((s.drop 8).take 2) = k1 at *
  generalize manyT s = n at *
  generalize kindT s = x at *
  go_enter Try.func72, Try.ntmps72
  go_upto_region 2 with fail
  go_quiet (first | (go_at_call 63; first | with_reducible exact Calls.quiet_of_same (C1 _) | with_reducible exact Calls.quiet_of_same (C2 _) | with_reducible exact Calls.quiet_of_same (C3 _) | with_reducible exact Calls.quiet_of_same (C5 _)) | (go_at_call 67; with_reducible exact Calls.quiet_of_same (C4 _)))
  go_wp2
  go_ret
  exact ⟨rfl, below_drewN (Below.refl _ _) _⟩
set_option maxRecDepth 100000 in
set_option maxHeartbeats 8000000 in
theorem jRGood_2 (s : Bs) (k b off c : Nat) (S : Nat → Prop) (w : World) (h : Hid (BsAt w S (.slice (some ⟨b, off, none⟩) 128 c) s)) (hs : Hid (s.length = 128)) (hk : k < 65536) (h1 : genT s ≠ 0) (h2 : genT s ≠ numT (s.drop 124)) :
    Calls Try.prog 72 #[.slice (some ⟨b, off, none⟩) 128 c, .int .i64 k] w fun e w' => e = .returned (.bool (goodT s k)) ∧ Below w.heap.size w w' := by
  have hcm : c ≤ maxLen ∧ 128 ≤ c := by
    rcases h.out.1 with e | ⟨_, _, _, e, h1, h2⟩
    · cases e
    · cases e; exact ⟨h2, h1⟩
  have hca := hcm.2
  have hcb := Lib.hid hcm.1
  have hcl : (c : Int) ≤ 9223372036854775807 := by have := hcm.1; simp only [maxLen] at this; omega
  clear hcm
  obtain ⟨_, _, e, hSb, hbz, c10⟩ := h.out.cell (k := 10) (by rw [hs.out]; decide)
  cases e
  obtain ⟨_, _, e, _, _, c11⟩ := h.out.cell (k := 11) (by rw [hs.out]; decide)
  cases e
  have hx : kindT s < 256 := u8_lt _
  have hn255 : manyT s < 256 := u8_lt _
  rw [show (s.getD 10 0).toNat = kindT s from rfl] at c10
  rw [show (s.getD 11 0).toNat = manyT s from rfl] at c11
  have HU := fun j => h.out.keep (Keeps.of (below_drewN (Below.refl w.heap.size w) j))
  have C1 : ∀ j, Calls Try.prog 63 #[.slice (some ⟨b, off, none⟩) 4 c] (w.drewN j) fun e w' => e = .returned (.int .u64 (genT s : Nat)) ∧ w' = w.drewN j := fun j => jNumber_at (by have := (HU j).sub 0 4 c (by omega) (by omega) hcb.out hs.out; rwa [Nat.add_zero, List.drop_zero] at this) (by simp; have := hs.out; omega) (by omega) rfl
  have C2 : ∀ j, Calls Try.prog 63 #[.slice (some ⟨b, off + 124, none⟩) 4 (c - 124)] (w.drewN j) fun e w' => e = .returned (.int .u64 (numT (s.drop 124) : Nat)) ∧ w' = w.drewN j := fun j => jNumber_at (by have := (HU j).sub 124 4 (c - 124) (by omega) (by omega) (by have := hcb.out; omega) hs.out; rwa [List.take_of_length_le (by simp; have := hs.out; omega)] at this) (by simp; have := hs.out; omega) (by omega) rfl
  have C3 : ∀ j, Calls Try.prog 63 #[.slice (some ⟨b, off + 4, none⟩) 4 (c - 4)] (w.drewN j) fun e w' => e = .returned (.int .u64 (numT ((s.drop 4).take 4) : Nat)) ∧ w' = w.drewN j := fun j => jNumber_at ((HU j).sub 4 4 (c - 4) (by omega) (by omega) (by have := hcb.out; omega) hs.out) (by simp; have := hs.out; omega) (by omega) rfl
  have C4 : ∀ j, Calls Try.prog 67 #[.slice (some ⟨b, off + 8, none⟩) 116 (c - 8)] (w.drewN j) fun e w' => e = .returned (.int .u32 (sumT ((s.drop 8).take 116) : Nat)) ∧ w' = w.drewN j := fun j => jChecksum_at ((HU j).sub 8 116 (c - 8) (by omega) (by omega) (by have := hcb.out; omega) hs.out) (by simp; have := hs.out; omega) rfl
  have C5 : ∀ j, Calls Try.prog 63 #[.slice (some ⟨b, off + 8, none⟩) 2 (c - 8)] (w.drewN j) fun e w' => e = .returned (.int .u64 (numT ((s.drop 8).take 2) : Nat)) ∧ w' = w.drewN j := fun j => jNumber_at ((HU j).sub 8 2 (c - 8) (by omega) (by omega) (by have := hcb.out; omega) hs.out) (by simp; have := hs.out; omega) (by omega) rfl
  have q32 : IntKind.u32.wrap ((numT ((s.drop 4).take 4) : Nat) : Int) = ((numT ((s.drop 4).take 4) : Nat) : Int) := wrap_u32_nat (numT_lt4 (by simp; have := hs.out; omega))
  have k64 : IntKind.u64.wrap (k : Int) = (k : Int) := wrap_u64_nat (by omega)
  clear HU
  have HT : goodT s k = false := good_no3 h2
  rw [HT]
  clear HT
  have b1 : ((genT s : Int) == 0) = false := by simp; omega
  have b2 : ((genT s : Int) != (numT (s.drop 124) : Int)) = true := by simp; omega
  clear h1 h2
  clear h hs
  generalize genT s = g at *
  generalize numT (s.drop 124) = t at *
  generalize numT ((s.drop 4).take 4) = q at *
  generalize sumT ((s.drop 8).take 116) = u at *
  generalize numT ((s.drop 8).take 2) = k1 at *
  generalize manyT s = n at *
  generalize kindT s = x at *
  go_enter Try.func72, Try.ntmps72
  go_upto_region 2 with fail
  go_quiet (first | (go_at_call 63; first | with_reducible exact Calls.quiet_of_same (C1 _) | with_reducible exact Calls.quiet_of_same (C2 _) | with_reducible exact Calls.quiet_of_same (C3 _) | with_reducible exact Calls.quiet_of_same (C5 _)) | (go_at_call 67; with_reducible exact Calls.quiet_of_same (C4 _)))
  go_wp2
  go_ret
  exact ⟨rfl, below_drewN (Below.refl _ _) _⟩
set_option maxRecDepth 100000 in
set_option maxHeartbeats 8000000 in
theorem jRGood_3 (s : Bs) (k b off c : Nat) (S : Nat → Prop) (w : World) (h : Hid (BsAt w S (.slice (some ⟨b, off, none⟩) 128 c) s)) (hs : Hid (s.length = 128)) (hk : k < 65536) (h1 : genT s ≠ 0) (h2 : genT s = numT (s.drop 124)) (h3 : numT ((s.drop 4).take 4) ≠ sumT ((s.drop 8).take 116)) :
    Calls Try.prog 72 #[.slice (some ⟨b, off, none⟩) 128 c, .int .i64 k] w fun e w' => e = .returned (.bool (goodT s k)) ∧ Below w.heap.size w w' := by
  have hcm : c ≤ maxLen ∧ 128 ≤ c := by
    rcases h.out.1 with e | ⟨_, _, _, e, h1, h2⟩
    · cases e
    · cases e; exact ⟨h2, h1⟩
  have hca := hcm.2
  have hcb := Lib.hid hcm.1
  have hcl : (c : Int) ≤ 9223372036854775807 := by have := hcm.1; simp only [maxLen] at this; omega
  clear hcm
  obtain ⟨_, _, e, hSb, hbz, c10⟩ := h.out.cell (k := 10) (by rw [hs.out]; decide)
  cases e
  obtain ⟨_, _, e, _, _, c11⟩ := h.out.cell (k := 11) (by rw [hs.out]; decide)
  cases e
  have hx : kindT s < 256 := u8_lt _
  have hn255 : manyT s < 256 := u8_lt _
  rw [show (s.getD 10 0).toNat = kindT s from rfl] at c10
  rw [show (s.getD 11 0).toNat = manyT s from rfl] at c11
  have HU := fun j => h.out.keep (Keeps.of (below_drewN (Below.refl w.heap.size w) j))
  have C1 : ∀ j, Calls Try.prog 63 #[.slice (some ⟨b, off, none⟩) 4 c] (w.drewN j) fun e w' => e = .returned (.int .u64 (genT s : Nat)) ∧ w' = w.drewN j := fun j => jNumber_at (by have := (HU j).sub 0 4 c (by omega) (by omega) hcb.out hs.out; rwa [Nat.add_zero, List.drop_zero] at this) (by simp; have := hs.out; omega) (by omega) rfl
  have C2 : ∀ j, Calls Try.prog 63 #[.slice (some ⟨b, off + 124, none⟩) 4 (c - 124)] (w.drewN j) fun e w' => e = .returned (.int .u64 (numT (s.drop 124) : Nat)) ∧ w' = w.drewN j := fun j => jNumber_at (by have := (HU j).sub 124 4 (c - 124) (by omega) (by omega) (by have := hcb.out; omega) hs.out; rwa [List.take_of_length_le (by simp; have := hs.out; omega)] at this) (by simp; have := hs.out; omega) (by omega) rfl
  have C3 : ∀ j, Calls Try.prog 63 #[.slice (some ⟨b, off + 4, none⟩) 4 (c - 4)] (w.drewN j) fun e w' => e = .returned (.int .u64 (numT ((s.drop 4).take 4) : Nat)) ∧ w' = w.drewN j := fun j => jNumber_at ((HU j).sub 4 4 (c - 4) (by omega) (by omega) (by have := hcb.out; omega) hs.out) (by simp; have := hs.out; omega) (by omega) rfl
  have C4 : ∀ j, Calls Try.prog 67 #[.slice (some ⟨b, off + 8, none⟩) 116 (c - 8)] (w.drewN j) fun e w' => e = .returned (.int .u32 (sumT ((s.drop 8).take 116) : Nat)) ∧ w' = w.drewN j := fun j => jChecksum_at ((HU j).sub 8 116 (c - 8) (by omega) (by omega) (by have := hcb.out; omega) hs.out) (by simp; have := hs.out; omega) rfl
  have C5 : ∀ j, Calls Try.prog 63 #[.slice (some ⟨b, off + 8, none⟩) 2 (c - 8)] (w.drewN j) fun e w' => e = .returned (.int .u64 (numT ((s.drop 8).take 2) : Nat)) ∧ w' = w.drewN j := fun j => jNumber_at ((HU j).sub 8 2 (c - 8) (by omega) (by omega) (by have := hcb.out; omega) hs.out) (by simp; have := hs.out; omega) (by omega) rfl
  have q32 : IntKind.u32.wrap ((numT ((s.drop 4).take 4) : Nat) : Int) = ((numT ((s.drop 4).take 4) : Nat) : Int) := wrap_u32_nat (numT_lt4 (by simp; have := hs.out; omega))
  have k64 : IntKind.u64.wrap (k : Int) = (k : Int) := wrap_u64_nat (by omega)
  clear HU
  have HT : goodT s k = false := good_no4 h3
  rw [HT]
  clear HT
  have b1 : ((genT s : Int) == 0) = false := by simp; omega
  have b2 : ((genT s : Int) != (numT (s.drop 124) : Int)) = false := by simp; omega
  have b3 : ((numT ((s.drop 4).take 4) : Int) != (sumT ((s.drop 8).take 116) : Int)) = true := by simp; omega
  clear h1 h2 h3
  clear h hs
  generalize genT s = g at *
  generalize numT (s.drop 124) = t at *
  generalize numT ((s.drop 4).take 4) = q at *
  generalize sumT ((s.drop 8).take 116) = u at *
  generalize numT ((s.drop 8).take 2) = k1 at *
  generalize manyT s = n at *
  generalize kindT s = x at *
  go_enter Try.func72, Try.ntmps72
  go_upto_region 2 with fail
  go_quiet (first | (go_at_call 63; first | with_reducible exact Calls.quiet_of_same (C1 _) | with_reducible exact Calls.quiet_of_same (C2 _) | with_reducible exact Calls.quiet_of_same (C3 _) | with_reducible exact Calls.quiet_of_same (C5 _)) | (go_at_call 67; with_reducible exact Calls.quiet_of_same (C4 _)))
  go_wp2
  go_ret
  exact ⟨rfl, below_drewN (Below.refl _ _) _⟩
set_option maxRecDepth 100000 in
set_option maxHeartbeats 8000000 in
theorem jRGood_4 (s : Bs) (k b off c : Nat) (S : Nat → Prop) (w : World) (h : Hid (BsAt w S (.slice (some ⟨b, off, none⟩) 128 c) s)) (hs : Hid (s.length = 128)) (hk : k < 65536) (h1 : genT s ≠ 0) (h2 : genT s = numT (s.drop 124)) (h3 : numT ((s.drop 4).take 4) = sumT ((s.drop 8).take 116)) (h4 : numT ((s.drop 8).take 2) ≠ k) :
    Calls Try.prog 72 #[.slice (some ⟨b, off, none⟩) 128 c, .int .i64 k] w fun e w' => e = .returned (.bool (goodT s k)) ∧ Below w.heap.size w w' := by
  have hcm : c ≤ maxLen ∧ 128 ≤ c := by
    rcases h.out.1 with e | ⟨_, _, _, e, h1, h2⟩
    · cases e
    · cases e; exact ⟨h2, h1⟩
  have hca := hcm.2
  have hcb := Lib.hid hcm.1
  have hcl : (c : Int) ≤ 9223372036854775807 := by have := hcm.1; simp only [maxLen] at this; omega
  clear hcm
  obtain ⟨_, _, e, hSb, hbz, c10⟩ := h.out.cell (k := 10) (by rw [hs.out]; decide)
  cases e
  obtain ⟨_, _, e, _, _, c11⟩ := h.out.cell (k := 11) (by rw [hs.out]; decide)
  cases e
  have hx : kindT s < 256 := u8_lt _
  have hn255 : manyT s < 256 := u8_lt _
  rw [show (s.getD 10 0).toNat = kindT s from rfl] at c10
  rw [show (s.getD 11 0).toNat = manyT s from rfl] at c11
  have HU := fun j => h.out.keep (Keeps.of (below_drewN (Below.refl w.heap.size w) j))
  have C1 : ∀ j, Calls Try.prog 63 #[.slice (some ⟨b, off, none⟩) 4 c] (w.drewN j) fun e w' => e = .returned (.int .u64 (genT s : Nat)) ∧ w' = w.drewN j := fun j => jNumber_at (by have := (HU j).sub 0 4 c (by omega) (by omega) hcb.out hs.out; rwa [Nat.add_zero, List.drop_zero] at this) (by simp; have := hs.out; omega) (by omega) rfl
  have C2 : ∀ j, Calls Try.prog 63 #[.slice (some ⟨b, off + 124, none⟩) 4 (c - 124)] (w.drewN j) fun e w' => e = .returned (.int .u64 (numT (s.drop 124) : Nat)) ∧ w' = w.drewN j := fun j => jNumber_at (by have := (HU j).sub 124 4 (c - 124) (by omega) (by omega) (by have := hcb.out; omega) hs.out; rwa [List.take_of_length_le (by simp; have := hs.out; omega)] at this) (by simp; have := hs.out; omega) (by omega) rfl
  have C3 : ∀ j, Calls Try.prog 63 #[.slice (some ⟨b, off + 4, none⟩) 4 (c - 4)] (w.drewN j) fun e w' => e = .returned (.int .u64 (numT ((s.drop 4).take 4) : Nat)) ∧ w' = w.drewN j := fun j => jNumber_at ((HU j).sub 4 4 (c - 4) (by omega) (by omega) (by have := hcb.out; omega) hs.out) (by simp; have := hs.out; omega) (by omega) rfl
  have C4 : ∀ j, Calls Try.prog 67 #[.slice (some ⟨b, off + 8, none⟩) 116 (c - 8)] (w.drewN j) fun e w' => e = .returned (.int .u32 (sumT ((s.drop 8).take 116) : Nat)) ∧ w' = w.drewN j := fun j => jChecksum_at ((HU j).sub 8 116 (c - 8) (by omega) (by omega) (by have := hcb.out; omega) hs.out) (by simp; have := hs.out; omega) rfl
  have C5 : ∀ j, Calls Try.prog 63 #[.slice (some ⟨b, off + 8, none⟩) 2 (c - 8)] (w.drewN j) fun e w' => e = .returned (.int .u64 (numT ((s.drop 8).take 2) : Nat)) ∧ w' = w.drewN j := fun j => jNumber_at ((HU j).sub 8 2 (c - 8) (by omega) (by omega) (by have := hcb.out; omega) hs.out) (by simp; have := hs.out; omega) (by omega) rfl
  have q32 : IntKind.u32.wrap ((numT ((s.drop 4).take 4) : Nat) : Int) = ((numT ((s.drop 4).take 4) : Nat) : Int) := wrap_u32_nat (numT_lt4 (by simp; have := hs.out; omega))
  have k64 : IntKind.u64.wrap (k : Int) = (k : Int) := wrap_u64_nat (by omega)
  clear HU
  have HT : goodT s k = false := good_no5 h4
  rw [HT]
  clear HT
  have b1 : ((genT s : Int) == 0) = false := by simp; omega
  have b2 : ((genT s : Int) != (numT (s.drop 124) : Int)) = false := by simp; omega
  have b3 : ((numT ((s.drop 4).take 4) : Int) != (sumT ((s.drop 8).take 116) : Int)) = false := by simp; omega
  have b4 : ((numT ((s.drop 8).take 2) : Int) != (k : Int)) = true := by simp; omega
  clear h1 h2 h3 h4
  clear h hs
  generalize genT s = g at *
  generalize numT (s.drop 124) = t at *
  generalize numT ((s.drop 4).take 4) = q at *
  generalize sumT ((s.drop 8).take 116) = u at *
  generalize numT ((s.drop 8).take 2) = k1 at *
  generalize manyT s = n at *
  generalize kindT s = x at *
  go_enter Try.func72, Try.ntmps72
  go_upto_region 2 with fail
  go_quiet (first | (go_at_call 63; first | with_reducible exact Calls.quiet_of_same (C1 _) | with_reducible exact Calls.quiet_of_same (C2 _) | with_reducible exact Calls.quiet_of_same (C3 _) | with_reducible exact Calls.quiet_of_same (C5 _)) | (go_at_call 67; with_reducible exact Calls.quiet_of_same (C4 _)))
  go_wp2
  go_ret
  exact ⟨rfl, below_drewN (Below.refl _ _) _⟩

end Go.Proofs.Ythlidhfahaalgaa
