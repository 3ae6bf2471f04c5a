/-
  sane of chapter 4. (Printed by gen_eg.py.)
-/
import Derived.Test.YtdmeogkdoeaemaaEE
import Derived.Test.YtdmeogkdoeaemaaDV
import Derived.Deep.DeepCutAuto
import Derived.Deep.RegionHeld3
namespace Go.Proofs.Ytdmeogkdoeaemaa
open Go.RowKit
attribute [local go_sem ↓ high] app_named cop_named

theorem bs_new1 {w : World} {n a : Nat} {V : Value} {l : Bs} (h : BsAt w (fun b => n ≤ b) V l) (ha : a < n) : Hid (BsAt w (Out [a]) V l) := Lib.hid (h.weak fun b hb _ hc => by
  have hb : n ≤ b := hb
  have := List.mem_singleton.1 hc
  omega)
theorem restart_at {w : World} {L : List Nat} {Vs Vp : Value} {d : Dk} (h : Hid (DkAt w (Out L) Vs Vp d)) : Hid (DkAt w (Out L) Vs (.slice none 0 0) (restartT d)) := Lib.hid ⟨h.out.sectors, wsAt_nil _ _⟩
theorem fld : ∀ w : World, (Instr.field 25 (.agg #[.slice none 0 0, .slice none 0 0, .int .i64 (-1), .bool false]) 2).run Try.prog w = .ok (.int .i64 (-1)) w := fun _ => by rfl
theorem make129 (w : World) : ∃ w', (Instr.makeSlice 35 (.int .i64 129) (.int .i64 129)).run Try.prog w = .ok (.slice (some ⟨w.heap.size, 0, none⟩) 129 129) w' ∧ BsAt w' (fun b => w.heap.size ≤ b) (.slice (some ⟨w.heap.size, 0, none⟩) 129 129) (List.replicate 129 0) ∧ Below w.heap.size w w' := by
  obtain ⟨i, E⟩ := elem_by
  obtain ⟨w', hr, ho, hg⟩ := run_makeSlice_full (P := Try.prog) w w.heap.size 35 5 i (.int .u8 0) 1 E.ht E.hi E.hz E.hsize .i64 .i64 129 (by decide) (by rw [E.hby]; decide) (by simp [maxLen]) (Nat.le_refl _)
  refine ⟨w', hr, ?_, (Below.refl _ _).grown hg (Nat.le_refl _) (fun k hk => by cases hk)⟩
  have e : byV (List.replicate 129 0) = (madeCells (Value.int .u8 0).cells (129 * 1)).toList := by rw [byV, List.map_replicate]; exact made_zeros 129
  have hl : (List.replicate 129 (0 : UInt8)).length = 129 := by rw [List.length_replicate]
  have hO : OwnBs w' w.heap.size (.slice (some ⟨w.heap.size, 0, none⟩) 129 129) (List.replicate 129 0) := by
    unfold OwnBs
    rw [e, hl]
    exact ho
  exact hO.bs (by rw [hl]; simp [maxLen])
set_option maxRecDepth 100000 in
set_option maxHeartbeats 16000000 in
theorem dSane_any (w : World) : Calls Try.prog 10 #[] w fun e w' => e = .returned (.bool true) ∧ Below w.heap.size w w' := by
  have hB := Below.refl w.heap.size w
  have hL := InW.nil w
  go_enter Try.func10, Try.ntmps10
  go_wp2_with fail
  refine (dNew_any 0 (Out []) _).mono ?_
  rintro e w1 hh
  obtain ⟨A0, c0, P0, q0, rfl, D0, hb⟩ := RetDk.is hh hL (Lib.hid sane_new0) (ns := 0) (np := 0) (dl := 0) (ds := false) rfl rfl rfl rfl
  replace hB := hB.trans (hb.mono hB.size)
  replace hL := hL.later hb.size
  clear hb
  go_wp2_with fail
  have hst := (Below.refl w1.heap.size w1).alloc (Nat.le_refl _) (.cells #[.slice A0 0 c0, .slice P0 0 q0, .int .i64 0, .bool false] 25)
  replace D0 := dk_later D0 hst
  replace hL := hL.later hst.size
  replace hB := hB.trans (hst.mono hB.size)
  have B1 := Box.new w1 [.slice A0 0 c0, .slice P0 0 q0, .int .i64 0, .bool false] 25
  have hzB1 : Hid ((w1.alloc (.cells #[.slice A0 0 c0, .slice P0 0 q0, .int .i64 0, .bool false] 25)).heap.size = w1.heap.size + 1) := Lib.hid (by simp)
  clear hst
  generalize w1.alloc (.cells #[.slice A0 0 c0, .slice P0 0 q0, .int .i64 0, .bool false] 25) = w2 at hB hL hzB1 B1 D0 ⊢
  generalize w1.heap.size = B1a at hzB1 B1 ⊢
  refine (dNew_any 2 (Out []) _).mono ?_
  rintro e w3 hh
  obtain ⟨AN, cN, PN, qN, rfl, DN, hb⟩ := RetDk.is hh hL (Lib.hid sane_new) (ns := 2) (np := 0) (dl := (-1)) (ds := false) rfl rfl rfl rfl
  replace B1 := B1.later hb
  replace D0 := dk_later D0 hb
  replace hB := hB.trans (hb.mono hB.size)
  replace hL := hL.later hb.size
  clear hb
  go_wp2_with fail
  have hst := (Below.refl w3.heap.size w3).alloc (Nat.le_refl _) (.cells #[.slice AN 2 cN, .slice PN 0 qN, .int .i64 (-1), .bool false] 25)
  replace B1 := B1.later hst
  replace D0 := dk_later D0 hst
  replace DN := dk_later DN hst
  replace hL := hL.later hst.size
  replace hB := hB.trans (hst.mono hB.size)
  have B3 := Box.new w3 [.slice AN 2 cN, .slice PN 0 qN, .int .i64 (-1), .bool false] 25
  have hzB3 : Hid ((w3.alloc (.cells #[.slice AN 2 cN, .slice PN 0 qN, .int .i64 (-1), .bool false] 25)).heap.size = w3.heap.size + 1) := Lib.hid (by simp)
  clear hst
  generalize w3.alloc (.cells #[.slice AN 2 cN, .slice PN 0 qN, .int .i64 (-1), .bool false] 25) = w4 at hB hL hzB3 B3 B1 D0 DN ⊢
  generalize w3.heap.size = B3a at hzB3 B3 ⊢
  have h7 : Hid (BsAt (w4.alloc (.cells #[.int .u8 7] 5)) (Out []) (.slice (some ⟨w4.heap.size, 0, none⟩) 1 1) [7]) := by
    refine ⟨.inr ⟨_, _, _, rfl, Nat.le_refl _, by simp [maxLen]⟩, _, _, rfl, by simp [maxLen], fun i hi => ⟨_, 0, rfl, (fun h => by cases h), by simp, fun j hj => ?_⟩⟩
    obtain rfl : i = 0 := by simpa using hi
    obtain rfl : j = 0 := by omega
    exact (Box.new w4 [.int .u8 7] 5).cell 0
  have hb := (Below.refl w4.heap.size w4).alloc (Nat.le_refl _) (.cells #[.int .u8 7] 5)
  replace B1 := B1.later hb
  replace B3 := B3.later hb
  replace D0 := dk_later D0 hb
  replace DN := dk_later DN hb
  replace hB := hB.trans (hb.mono hB.size)
  replace hL := hL.later hb.size
  clear hb
  rw [hzB3.out] at h7
  obtain ⟨a7, ha7⟩ : ∃ a, B3a + 1 = a := ⟨_, rfl⟩
  rw [ha7] at h7 ⊢
  clear hzB3
  generalize w4.alloc (.cells #[.int .u8 7] 5) = w5 at hB hL h7 B1 B3 D0 DN ⊢
  clear ha7
  refine (dWrite_at 1 DN ⟨rfl, rfl⟩ h7).mono ?_
  rintro e w6 hh
  obtain ⟨AW, cW, PW, qW, rfl, DW, hb⟩ := RetDk.is hh hL (Lib.hid sane_write) (ns := 2) (np := 1) (dl := (-1)) (ds := false) rfl rfl rfl rfl
  replace B1 := B1.later hb
  replace B3 := B3.later hb
  replace D0 := dk_later D0 hb
  replace DN := dk_later DN hb
  replace hB := hB.trans (hb.mono hB.size)
  replace hL := hL.later hb.size
  clear hb
  clear h7
  go_wp2_with fail
  have hst := (Below.refl w6.heap.size w6).alloc (Nat.le_refl _) (.cells #[.slice AW 2 cW, .slice PW 1 qW, .int .i64 (-1), .bool false] 25)
  replace B1 := B1.later hst
  replace B3 := B3.later hst
  replace D0 := dk_later D0 hst
  replace DN := dk_later DN hst
  replace DW := dk_later DW hst
  replace hL := hL.later hst.size
  replace hB := hB.trans (hst.mono hB.size)
  have B5 := Box.new w6 [.slice AW 2 cW, .slice PW 1 qW, .int .i64 (-1), .bool false] 25
  have hzB5 : Hid ((w6.alloc (.cells #[.slice AW 2 cW, .slice PW 1 qW, .int .i64 (-1), .bool false] 25)).heap.size = w6.heap.size + 1) := Lib.hid (by simp)
  clear hst
  generalize w6.alloc (.cells #[.slice AW 2 cW, .slice PW 1 qW, .int .i64 (-1), .bool false] 25) = w7 at hB hL hzB5 B5 B1 B3 D0 DN DW ⊢
  generalize w6.heap.size = B5a at hzB5 B5 ⊢
  refine (dRead_at 1 DW ⟨rfl, rfl⟩).mono ?_
  rintro e w8 hh
  obtain ⟨Ab, cb, rfl, Rb, hb⟩ := RetBs.is hh hL (Lib.hid sane_read) (n := 128) (by first | exact e7_length | exact eT_length | exact zeros_length)
  replace B1 := B1.later hb
  replace B3 := B3.later hb
  replace B5 := B5.later hb
  replace D0 := dk_later D0 hb
  replace DN := dk_later DN hb
  replace DW := dk_later DW hb
  replace hB := hB.trans (hb.mono hB.size)
  replace hL := hL.later hb.size
  clear hb
  have B3c0 : w8.cell? ⟨B3a, 0, none⟩ = some (.slice AN 2 cN) := B3.cell 0
  have B3c1 : w8.cell? ⟨B3a, 1, none⟩ = some (.slice PN 0 qN) := B3.cell 1
  have B3c2 : w8.cell? ⟨B3a, 2, none⟩ = some (.int .i64 (-1)) := B3.cell 2
  have B3c3 : w8.cell? ⟨B3a, 3, none⟩ = some (.bool false) := B3.cell 3
  have B3z : B3a < w8.heap.size := B3.lt
  go_wp2_with fail
  clear B3c0 B3c1 B3c2 B3c3 B3z
  refine (dRead_at 2 DN ⟨rfl, rfl⟩).mono ?_
  rintro e w9 hh
  obtain ⟨Ai, ci, rfl, Ri, hb⟩ := RetBs.is hh hL (Lib.hid sane_read2) (n := 0) (by rfl)
  replace B1 := B1.later hb
  replace B3 := B3.later hb
  replace B5 := B5.later hb
  replace D0 := dk_later D0 hb
  replace DN := dk_later DN hb
  replace DW := dk_later DW hb
  replace Rb := bs_later Rb hb
  replace hB := hB.trans (hb.mono hB.size)
  replace hL := hL.later hb.size
  clear hb
  clear Ri
  have B3c0 : w9.cell? ⟨B3a, 0, none⟩ = some (.slice AN 2 cN) := B3.cell 0
  have B3c1 : w9.cell? ⟨B3a, 1, none⟩ = some (.slice PN 0 qN) := B3.cell 1
  have B3c2 : w9.cell? ⟨B3a, 2, none⟩ = some (.int .i64 (-1)) := B3.cell 2
  have B3c3 : w9.cell? ⟨B3a, 3, none⟩ = some (.bool false) := B3.cell 3
  have B3z : B3a < w9.heap.size := B3.lt
  go_wp2_with fail
  clear B3c0 B3c1 B3c2 B3c3 B3z
  go_cut [12] (fun s12 wx => s12 = .int .i64 1 ∧ Below w9.heap.size w9 wx)
  case first =>
    obtain ⟨x1, mk1, z1, m1⟩ := make129 w9.drew
    obtain ⟨x2, mk2, z2, m2⟩ := make129 (w9.alloc (.cells #[.slice none 0 0, .slice none 0 0, .int .i64 0, .bool false] 25)).drew
    have m1 : Below w9.heap.size w9 x1 := ((Below.refl w9.heap.size w9).drew).trans m1
    have h0 := (Below.refl w9.heap.size w9).alloc (Nat.le_refl _) (.cells #[.slice none 0 0, .slice none 0 0, .int .i64 0, .bool false] 25)
    have m2o := m2
    replace m2 : Below w9.heap.size w9 x2 := (h0.drew).trans (m2.mono h0.size)
    have m3 := m1.alloc m1.size (.cells #[.slice none 0 0, .slice none 0 0, .int .i64 0, .bool false] 25)
    have mk1 : (Instr.makeSlice 35 (.int .i64 129) (.int .i64 129)).run Try.prog w9.drew = .ok (.slice (some ⟨w9.heap.size, 0, none⟩) 129 129) x1 := mk1
    have mk2 : (Instr.makeSlice 35 (.int .i64 129) (.int .i64 129)).run Try.prog (w9.alloc (.cells #[.slice none 0 0, .slice none 0 0, .int .i64 0, .bool false] 25)).drew = .ok (.slice (some ⟨w9.heap.size + 1, 0, none⟩) 129 129) x2 := by
      have e : (w9.alloc (.cells #[.slice none 0 0, .slice none 0 0, .int .i64 0, .bool false] 25)).drew.heap.size = w9.heap.size + 1 := by show (w9.alloc (.cells #[.slice none 0 0, .slice none 0 0, .int .i64 0, .bool false] 25)).heap.size = _; simp
      rw [e] at mk2
      exact mk2
    have lg : Hid (writeT eN 0 (List.replicate 129 0) = (Dk.zero, 1)) := Lib.hid (sane_long (by rw [List.length_replicate]))
    have C1 : Hid (Calls Try.prog 19 #[.agg #[.slice AN 2 cN, .slice PN 0 qN, .int .i64 (-1), .bool false], .int .i64 0, .slice (some ⟨w9.heap.size, 0, none⟩) 129 129] x1 (RetDk (writeT eN 0 (List.replicate 129 0)) (Out []) x1)) := dWrite_at 0 (dk_later DN m1) ⟨rfl, rfl⟩ (Lib.hid (z1.weak fun _ _ _ h => by cases h))
    have C2 : Hid (Calls Try.prog 19 #[.agg #[.slice AN 2 cN, .slice PN 0 qN, .int .i64 (-1), .bool false], .int .i64 0, .slice (some ⟨w9.heap.size + 1, 0, none⟩) 129 129] x2 (RetDk (writeT eN 0 (List.replicate 129 0)) (Out []) x2)) := dWrite_at 0 (dk_later DN m2) ⟨rfl, rfl⟩ (Lib.hid (by
      have e : (w9.alloc (.cells #[.slice none 0 0, .slice none 0 0, .int .i64 0, .bool false] 25)).drew.heap.size = w9.heap.size + 1 := by show (w9.alloc (.cells #[.slice none 0 0, .slice none 0 0, .int .i64 0, .bool false] 25)).heap.size = _; simp
      rw [e] at z2
      exact z2.weak fun _ _ _ h => by cases h))
    have C3 : Hid (Calls Try.prog 19 #[.agg #[.slice AN 2 cN, .slice PN 0 qN, .int .i64 (-1), .bool false], .int .i64 0, .slice (some ⟨w9.heap.size, 0, none⟩) 129 129] (x1.alloc (.cells #[.slice none 0 0, .slice none 0 0, .int .i64 0, .bool false] 25)) (RetDk (writeT eN 0 (List.replicate 129 0)) (Out []) (x1.alloc (.cells #[.slice none 0 0, .slice none 0 0, .int .i64 0, .bool false] 25)))) := dWrite_at 0 (dk_later DN m3) ⟨rfl, rfl⟩ (bs_later (Lib.hid (z1.weak fun _ _ _ h => by cases h)) ((Below.refl _ _).alloc (Nat.le_refl _) _))
    have X2 := ((Box.new w9 [.slice none 0 0, .slice none 0 0, .int .i64 0, .bool false] 25).drew).later m2o
    have X3 := Box.new x1 [.slice none 0 0, .slice none 0 0, .int .i64 0, .bool false] 25
    clear z1 z2 m2o
    have b0 : w9.cell? ⟨B3a, 0, none⟩ = some (.slice AN 2 cN) := B3.cell 0
    have b1 : w9.cell? ⟨B3a, 1, none⟩ = some (.slice PN 0 qN) := B3.cell 1
    have b2 : w9.cell? ⟨B3a, 2, none⟩ = some (.int .i64 (-1)) := B3.cell 2
    have b3 : w9.cell? ⟨B3a, 3, none⟩ = some (.bool false) := B3.cell 3
    have bz := B3.lt
    have bz1 := Nat.lt_of_lt_of_le bz m1.size
    have bz2 := Nat.lt_of_lt_of_le bz m2.size
    have hS : Hid (∀ E, Below w9.heap.size w9 E → E.cell? ⟨B3a, 0, none⟩ = some (.slice AN 2 cN) ∧ E.cell? ⟨B3a, 1, none⟩ = some (.slice PN 0 qN) ∧ E.cell? ⟨B3a, 2, none⟩ = some (.int .i64 (-1)) ∧ E.cell? ⟨B3a, 3, none⟩ = some (.bool false)) := fun E h => ⟨(h.cell (p := ⟨B3a, 0, none⟩) bz).trans b0, (h.cell (p := ⟨B3a, 1, none⟩) bz).trans b1, (h.cell (p := ⟨B3a, 2, none⟩) bz).trans b2, (h.cell (p := ⟨B3a, 3, none⟩) bz).trans b3⟩
    have m1s := m1.size
    go_region_held3 (fun w' => w'.cell? ⟨B3a, 0, none⟩ = some (.slice AN 2 cN) ∧ w'.cell? ⟨B3a, 1, none⟩ = some (.slice PN 0 qN) ∧ w'.cell? ⟨B3a, 2, none⟩ = some (.int .i64 (-1)) ∧ w'.cell? ⟨B3a, 3, none⟩ = some (.bool false)) ((refine hS.out _ ?_; repeat (first | with_reducible assumption | ((with_reducible refine Below.setCell ?_ ?_ _); rotate_left; first | exact Nat.le_refl _ | assumption | (simp; omega)) | ((with_reducible refine Below.alloc ?_ ?_ _); rotate_left; first | exact Nat.le_refl _ | assumption | (simp; omega)) | with_reducible exact Below.refl _ _ | with_reducible refine Below.drew ?_))) ((go_at_call 19; first | ((with_reducible refine C1.out.mono ?_); rintro e wz hh; obtain ⟨Aj, cj, Pj, qj, rfl, _, hbz⟩ := RetDk.is hh (InW.nil _) lg (ns := 0) (np := 0) (dl := 0) (ds := false) rfl rfl rfl rfl; have hz := m1.trans (hbz.mono m1.size); have hzs := hz.size) | ((with_reducible refine C2.out.mono ?_); rintro e wz hh; obtain ⟨Aj, cj, Pj, qj, rfl, _, hbz⟩ := RetDk.is hh (InW.nil _) lg (ns := 0) (np := 0) (dl := 0) (ds := false) rfl rfl rfl rfl; have hz := m2.trans (hbz.mono m2.size); have hzs := hz.size; have U := X2.later hbz; have U0 : wz.cell? ⟨w9.heap.size, 0, none⟩ = some (.slice none 0 0) := U.cell 0; have U1 : wz.cell? ⟨w9.heap.size, 1, none⟩ = some (.slice none 0 0) := U.cell 1; have U2 : wz.cell? ⟨w9.heap.size, 2, none⟩ = some (.int .i64 0) := U.cell 2; have U3 : wz.cell? ⟨w9.heap.size, 3, none⟩ = some (.bool false) := U.cell 3; have Uf0 := U.free 0; have Uf1 := U.free 1; have Uf2 := U.free 2; have Uf3 := U.free 3; have Uz := U.lt) | ((with_reducible refine C3.out.mono ?_); rintro e wz hh; obtain ⟨Aj, cj, Pj, qj, rfl, _, hbz⟩ := RetDk.is hh (InW.nil _) lg (ns := 0) (np := 0) (dl := 0) (ds := false) rfl rfl rfl rfl; have hz := m3.trans (hbz.mono m3.size); have hzs := hz.size; have U := X3.later hbz; have U0 : wz.cell? ⟨x1.heap.size, 0, none⟩ = some (.slice none 0 0) := U.cell 0; have U1 : wz.cell? ⟨x1.heap.size, 1, none⟩ = some (.slice none 0 0) := U.cell 1; have U2 : wz.cell? ⟨x1.heap.size, 2, none⟩ = some (.int .i64 0) := U.cell 2; have U3 : wz.cell? ⟨x1.heap.size, 3, none⟩ = some (.bool false) := U.cell 3; have Uf0 := U.free 0; have Uf1 := U.free 1; have Uf2 := U.free 2; have Uf3 := U.free 3; have Uz := U.lt)))
    all_goals (go_wp2_with fail; go_meet)
    all_goals (refine ⟨rfl, ?_⟩; repeat (first | with_reducible assumption | ((with_reducible refine Below.setCell ?_ ?_ _); rotate_left; first | exact Nat.le_refl _ | assumption | (simp; omega)) | ((with_reducible refine Below.alloc ?_ ?_ _); rotate_left; first | exact Nat.le_refl _ | assumption | (simp; omega)) | with_reducible exact Below.refl _ _ | with_reducible refine Below.drew ?_))
  case rest =>
    obtain ⟨rfl, hb⟩ := hcut
    replace B1 := B1.later hb
    replace B3 := B3.later hb
    replace B5 := B5.later hb
    replace D0 := dk_later D0 hb
    replace DN := dk_later DN hb
    replace DW := dk_later DW hb
    replace Rb := bs_later Rb hb
    replace hB := hB.trans (hb.mono hB.size)
    replace hL := hL.later hb.size
    clear hb
    have B5c0 : wc.cell? ⟨B5a, 0, none⟩ = some (.slice AW 2 cW) := B5.cell 0
    have B5c1 : wc.cell? ⟨B5a, 1, none⟩ = some (.slice PW 1 qW) := B5.cell 1
    have B5c2 : wc.cell? ⟨B5a, 2, none⟩ = some (.int .i64 (-1)) := B5.cell 2
    have B5c3 : wc.cell? ⟨B5a, 3, none⟩ = some (.bool false) := B5.cell 3
    have B5z : B5a < wc.heap.size := B5.lt
    go_wp2_with fail
    clear B5c0 B5c1 B5c2 B5c3 B5z
    refine (dStop_at 1 DW ⟨rfl, rfl⟩).mono ?_
    rintro e w10 hh
    obtain ⟨AS, cS, PS, qS, rfl, DS, hb⟩ := RetDk.is hh hL (Lib.hid sane_stop) (ns := 2) (np := 1) (dl := 1) (ds := false) rfl rfl rfl rfl
    replace B1 := B1.later hb
    replace B3 := B3.later hb
    replace B5 := B5.later hb
    replace D0 := dk_later D0 hb
    replace DN := dk_later DN hb
    replace DW := dk_later DW hb
    replace Rb := bs_later Rb hb
    replace hB := hB.trans (hb.mono hB.size)
    replace hL := hL.later hb.size
    clear hb
    go_wp2_with fail
    have hst := (Below.refl w10.heap.size w10).alloc (Nat.le_refl _) (.cells #[.slice AS 2 cS, .slice PS 1 qS, .int .i64 1, .bool false] 25)
    have nB1B13 : B1a ≠ w10.heap.size := by have := B1.lt; omega
    have nB3B13 : B3a ≠ w10.heap.size := by have := B3.lt; omega
    have nB5B13 : B5a ≠ w10.heap.size := by have := B5.lt; omega
    have gB13 : w.heap.size ≤ w10.heap.size := hB.size
    replace B1 := B1.later hst
    replace B3 := B3.later hst
    replace B5 := B5.later hst
    replace D0 := dk_more (a := w10.heap.size) (Nat.le_refl _) D0
    replace D0 := dk_later D0 hst
    replace DN := dk_more (a := w10.heap.size) (Nat.le_refl _) DN
    replace DN := dk_later DN hst
    replace DW := dk_more (a := w10.heap.size) (Nat.le_refl _) DW
    replace DW := dk_later DW hst
    replace Rb := bs_more (a := w10.heap.size) (Nat.le_refl _) Rb
    replace Rb := bs_later Rb hst
    replace DS := dk_more (a := w10.heap.size) (Nat.le_refl _) DS
    replace DS := dk_later DS hst
    replace hL := hL.later hst.size
    replace hL := hL.cons (a := w10.heap.size) (by simp)
    replace hB := hB.trans (hst.mono hB.size)
    have B13 := Box.new w10 [.slice AS 2 cS, .slice PS 1 qS, .int .i64 1, .bool false] 25
    have hzB13 : Hid ((w10.alloc (.cells #[.slice AS 2 cS, .slice PS 1 qS, .int .i64 1, .bool false] 25)).heap.size = w10.heap.size + 1) := Lib.hid (by simp)
    clear hst
    generalize w10.alloc (.cells #[.slice AS 2 cS, .slice PS 1 qS, .int .i64 1, .bool false] 25) = w11 at hB hL hzB13 B13 B1 B3 B5 D0 DN DW Rb DS ⊢
    generalize w10.heap.size = B13a at hzB13 B13 nB1B13 nB3B13 nB5B13 gB13 hL D0 DN DW Rb DS ⊢
    clear B1 B3 D0 DN
    go_cut [15] (fun s15 wx => s15 = .int .i64 0 ∧ ∃ (A : Option Addr) (c : Nat) (P : Option Addr) (q : Nat), Box wx B13a [.slice A 2 c, .slice P 2 q, .int .i64 1, .bool false] ∧ Hid (DkAt wx (Out [B13a]) (.slice A 2 c) (.slice P 2 q) eS2) ∧ Box wx B5a [.slice AW 2 cW, .slice PW 1 qW, .int .i64 (-1), .bool false] ∧ Hid (DkAt wx (Out [B13a]) (.slice AW 2 cW) (.slice PW 1 qW) eW) ∧ Hid (BsAt wx (Out [B13a]) (.slice Ab 128 cb) e7) ∧ Below w.heap.size w wx ∧ InW [B13a] wx)
    case first =>
      have D8 : Hid (∀ w, Calls Try.prog 27 #[.int .u8 8] w fun e w' => ∃ g, e = .returned (.slice (some ⟨g, 0, none⟩) 128 128) ∧ OwnBs w' w.heap.size (.slice (some ⟨g, 0, none⟩) 128 128) e8 ∧ Below w.heap.size w w') := fun w => dDouble_any 8 w
      have hb0 : Below w11.heap.size w11 w11.drew := (Below.refl _ _).drew
      have bz := B13.lt
      have B130 : w11.cell? ⟨B13a, 0, none⟩ = some (.slice AS 2 cS) := B13.cell 0
      have B131 : w11.cell? ⟨B13a, 1, none⟩ = some (.slice PS 1 qS) := B13.cell 1
      have B132 : w11.cell? ⟨B13a, 2, none⟩ = some (.int .i64 1) := B13.cell 2
      have B133 : w11.cell? ⟨B13a, 3, none⟩ = some (.bool false) := B13.cell 3
      have B13z := B13.lt
      go_region_with (first | (go_at_call 27; go_must (refine (D8.out _).mono ?_; rintro e wd ⟨gd, rfl, hod, hbd⟩; have hbD : Below w11.heap.size w11 wd := hb0.trans hbd; have hbs : Hid (BsAt wd (Out [B13a]) (.slice (some ⟨gd, 0, none⟩) 128 128) e8) := bs_new1 (n := w11.heap.size) (hod.bs (by rw [e8_length]; simp [maxLen])) bz; have DSd := dk_later DS hbD; have Bd := B13.later hbD; have Bd0 : wd.cell? ⟨B13a, 0, none⟩ = some (.slice AS 2 cS) := Bd.cell 0; have Bd1 : wd.cell? ⟨B13a, 1, none⟩ = some (.slice PS 1 qS) := Bd.cell 1; have Bd2 : wd.cell? ⟨B13a, 2, none⟩ = some (.int .i64 1) := Bd.cell 2; have Bd3 : wd.cell? ⟨B13a, 3, none⟩ = some (.bool false) := Bd.cell 3; have Bdz := Bd.lt; have hLd := hL.later hbD.size; clear hod)) | (go_at_call 19; refine (dWrite_at 0 DSd ⟨rfl, rfl⟩ hbs).mono ?_; rintro e wz hh; obtain ⟨A2, c2, P2, q2, rfl, D2, hbz⟩ := RetDk.is hh hLd (Lib.hid sane_write2) (ns := 2) (np := 2) (dl := 1) (ds := false) rfl rfl rfl rfl; have Bz := Bd.later hbz; have Bz0 : wz.cell? ⟨B13a, 0, none⟩ = some (.slice AS 2 cS) := Bz.cell 0; have Bz1 : wz.cell? ⟨B13a, 1, none⟩ = some (.slice PS 1 qS) := Bz.cell 1; have Bz2 : wz.cell? ⟨B13a, 2, none⟩ = some (.int .i64 1) := Bz.cell 2; have Bz3 : wz.cell? ⟨B13a, 3, none⟩ = some (.bool false) := Bz.cell 3; have Bzf0 := Bz.free 0; have Bzf1 := Bz.free 1; have Bzf2 := Bz.free 2; have Bzf3 := Bz.free 3; have Bzz := Bz.lt))
      all_goals (go_wp2_with fail; go_meet)
      all_goals
        have hbT : Below w11.heap.size w11 wz := hbD.trans (hbz.mono hbD.size)
        have B5z := B5.later hbT
        have DWz := dk_later DW hbT
        have Rbz := bs_later Rb hbT
        have hBz := hB.trans (hbT.mono hB.size)
        have hLz := hLd.later hbz.size
        exact ⟨rfl, A2, c2, P2, q2, ((((Bz.set 0 (.slice A2 2 c2)).set 1 (.slice P2 2 q2)).set 2 (.int .i64 1)).set 3 (.bool false)), (dk_set (a := B13a) (by simp) (dk_set (a := B13a) (by simp) (dk_set (a := B13a) (by simp) (dk_set (a := B13a) (by simp) D2 0 (.slice A2 2 c2)) 1 (.slice P2 2 q2)) 2 (.int .i64 1)) 3 (.bool false)), ((((B5z.other (a := ⟨B13a, 0, none⟩) nB5B13 (.slice A2 2 c2)).other (a := ⟨B13a, 1, none⟩) nB5B13 (.slice P2 2 q2)).other (a := ⟨B13a, 2, none⟩) nB5B13 (.int .i64 1)).other (a := ⟨B13a, 3, none⟩) nB5B13 (.bool false)), (dk_set (a := B13a) (by simp) (dk_set (a := B13a) (by simp) (dk_set (a := B13a) (by simp) (dk_set (a := B13a) (by simp) DWz 0 (.slice A2 2 c2)) 1 (.slice P2 2 q2)) 2 (.int .i64 1)) 3 (.bool false)), (bs_set (a := B13a) (by simp) (bs_set (a := B13a) (by simp) (bs_set (a := B13a) (by simp) (bs_set (a := B13a) (by simp) Rbz 0 (.slice A2 2 c2)) 1 (.slice P2 2 q2)) 2 (.int .i64 1)) 3 (.bool false)), ((((hBz.setCell (p := ⟨B13a, 0, none⟩) gB13 (.slice A2 2 c2)).setCell (p := ⟨B13a, 1, none⟩) gB13 (.slice P2 2 q2)).setCell (p := ⟨B13a, 2, none⟩) gB13 (.int .i64 1)).setCell (p := ⟨B13a, 3, none⟩) gB13 (.bool false)), hLz.later (by simp)⟩
    case rest =>
      clear B13 DS B5 DW Rb hB hL
      obtain ⟨rfl, AT, cT, PT, qT, B13, DT, B5, DW, Rb, hB, hL⟩ := hcut
      have B13c0 : wc.cell? ⟨B13a, 0, none⟩ = some (.slice AT 2 cT) := B13.cell 0
      have B13c1 : wc.cell? ⟨B13a, 1, none⟩ = some (.slice PT 2 qT) := B13.cell 1
      have B13c2 : wc.cell? ⟨B13a, 2, none⟩ = some (.int .i64 1) := B13.cell 2
      have B13c3 : wc.cell? ⟨B13a, 3, none⟩ = some (.bool false) := B13.cell 3
      have B13z : B13a < wc.heap.size := B13.lt
      go_wp2_with fail
      clear B13c0 B13c1 B13c2 B13c3 B13z
      refine (dSync_at DT ⟨rfl, rfl⟩).mono ?_
      rintro e w12 hh
      obtain ⟨AX, cX, PX, qX, rfl, DX, hb⟩ := RetDk.is hh hL (Lib.hid sane_sync) (ns := 2) (np := 0) (dl := 0) (ds := true) rfl rfl rfl rfl
      replace B13 := B13.later hb
      replace B5 := B5.later hb
      replace DT := dk_later DT hb
      replace DW := dk_later DW hb
      replace Rb := bs_later Rb hb
      replace hB := hB.trans (hb.mono hB.size)
      replace hL := hL.later hb.size
      clear hb
      go_wp2_with fail
      have hst := (Below.refl w12.heap.size w12).alloc (Nat.le_refl _) (.cells #[.slice AX 2 cX, .slice PX 0 qX, .int .i64 0, .bool true] 25)
      have nB13B16 : B13a ≠ w12.heap.size := by have := B13.lt; omega
      have nB5B16 : B5a ≠ w12.heap.size := by have := B5.lt; omega
      have gB16 : w.heap.size ≤ w12.heap.size := hB.size
      replace B13 := B13.later hst
      replace B5 := B5.later hst
      replace DT := dk_more (a := w12.heap.size) (Nat.le_refl _) DT
      replace DT := dk_later DT hst
      replace DW := dk_more (a := w12.heap.size) (Nat.le_refl _) DW
      replace DW := dk_later DW hst
      replace Rb := bs_more (a := w12.heap.size) (Nat.le_refl _) Rb
      replace Rb := bs_later Rb hst
      replace DX := dk_more (a := w12.heap.size) (Nat.le_refl _) DX
      replace DX := dk_later DX hst
      replace hL := hL.later hst.size
      replace hL := hL.cons (a := w12.heap.size) (by simp)
      replace hB := hB.trans (hst.mono hB.size)
      have B16 := Box.new w12 [.slice AX 2 cX, .slice PX 0 qX, .int .i64 0, .bool true] 25
      have hzB16 : Hid ((w12.alloc (.cells #[.slice AX 2 cX, .slice PX 0 qX, .int .i64 0, .bool true] 25)).heap.size = w12.heap.size + 1) := Lib.hid (by simp)
      clear hst
      generalize w12.alloc (.cells #[.slice AX 2 cX, .slice PX 0 qX, .int .i64 0, .bool true] 25) = w13 at hB hL hzB16 B16 B13 B5 DT DW Rb DX ⊢
      generalize w12.heap.size = B16a at hzB16 B16 nB13B16 nB5B16 gB16 hL DT DW Rb DX ⊢
      refine (dRestart_eq _ _ _ _ _ _ _).mono ?_
      rintro e w14 ⟨rfl, hb⟩
      replace B13 := B13.later hb
      replace B5 := B5.later hb
      replace B16 := B16.later hb
      replace DT := dk_later DT hb
      replace DW := dk_later DW hb
      replace Rb := bs_later Rb hb
      replace DX := dk_later DX hb
      replace hB := hB.trans (hb.mono hB.size)
      replace hL := hL.later hb.size
      clear hb
      clear B13 DT
      replace DX := restart_at DX
      have B16c0 : w14.cell? ⟨B16a, 0, none⟩ = some (.slice AX 2 cX) := B16.cell 0
      have B16c1 : w14.cell? ⟨B16a, 1, none⟩ = some (.slice PX 0 qX) := B16.cell 1
      have B16c2 : w14.cell? ⟨B16a, 2, none⟩ = some (.int .i64 0) := B16.cell 2
      have B16c3 : w14.cell? ⟨B16a, 3, none⟩ = some (.bool true) := B16.cell 3
      have B16z : B16a < w14.heap.size := B16.lt
      have B16f0 : w14.frozen? ⟨B16a, 0, none⟩ = false := B16.free 0
      have B16f1 : w14.frozen? ⟨B16a, 1, none⟩ = false := B16.free 1
      have B16f2 : w14.frozen? ⟨B16a, 2, none⟩ = false := B16.free 2
      have B16f3 : w14.frozen? ⟨B16a, 3, none⟩ = false := B16.free 3
      go_wp2_with fail
      clear B16c0 B16c1 B16c2 B16c3 B16z
      clear B16f0 B16f1 B16f2 B16f3
      replace DW := (dk_set (a := B16a) (by simp) (dk_set (a := B16a) (by simp) (dk_set (a := B16a) (by simp) (dk_set (a := B16a) (by simp) DW 0 (.slice AX 2 cX)) 1 (.slice none 0 0)) 2 (.int .i64 (-1))) 3 (.bool false))
      replace Rb := (bs_set (a := B16a) (by simp) (bs_set (a := B16a) (by simp) (bs_set (a := B16a) (by simp) (bs_set (a := B16a) (by simp) Rb 0 (.slice AX 2 cX)) 1 (.slice none 0 0)) 2 (.int .i64 (-1))) 3 (.bool false))
      replace DX := (dk_set (a := B16a) (by simp) (dk_set (a := B16a) (by simp) (dk_set (a := B16a) (by simp) (dk_set (a := B16a) (by simp) DX 0 (.slice AX 2 cX)) 1 (.slice none 0 0)) 2 (.int .i64 (-1))) 3 (.bool false))
      replace hB := ((((hB.setCell (p := ⟨B16a, 0, none⟩) gB16 (.slice AX 2 cX)).setCell (p := ⟨B16a, 1, none⟩) gB16 (.slice none 0 0)).setCell (p := ⟨B16a, 2, none⟩) gB16 (.int .i64 (-1))).setCell (p := ⟨B16a, 3, none⟩) gB16 (.bool false))
      replace B5 := ((((B5.other (a := ⟨B16a, 0, none⟩) nB5B16 (.slice AX 2 cX)).other (a := ⟨B16a, 1, none⟩) nB5B16 (.slice none 0 0)).other (a := ⟨B16a, 2, none⟩) nB5B16 (.int .i64 (-1))).other (a := ⟨B16a, 3, none⟩) nB5B16 (.bool false))
      replace B16 := ((((B16.set 0 (.slice AX 2 cX)).set 1 (.slice none 0 0)).set 2 (.int .i64 (-1))).set 3 (.bool false))
      have hLs : InW [B16a, B13a] ((((w14.setCell ⟨B16a, 0, none⟩ (.slice AX 2 cX)).setCell ⟨B16a, 1, none⟩ (.slice none 0 0)).setCell ⟨B16a, 2, none⟩ (.int .i64 (-1))).setCell ⟨B16a, 3, none⟩ (.bool false)) := hL.later (by simp)
      replace hL := hLs
      clear hLs
      generalize ((((w14.setCell ⟨B16a, 0, none⟩ (.slice AX 2 cX)).setCell ⟨B16a, 1, none⟩ (.slice none 0 0)).setCell ⟨B16a, 2, none⟩ (.int .i64 (-1))).setCell ⟨B16a, 3, none⟩ (.bool false)) = w15 at hB hL B5 B16 DW Rb DX ⊢
      refine (dRead_at (d := eX2) 1 DX ⟨rfl, rfl⟩).mono ?_
      rintro e w16 hh
      obtain ⟨Ao, co, rfl, Ro, hb⟩ := RetBs.is hh hL (Lib.hid sane_one) (n := 128) e7_length
      replace B5 := B5.later hb
      replace B16 := B16.later hb
      replace DW := dk_later DW hb
      replace Rb := bs_later Rb hb
      replace DX := dk_later DX hb
      replace hB := hB.trans (hb.mono hB.size)
      replace hL := hL.later hb.size
      clear hb
      have B16c0 : w16.cell? ⟨B16a, 0, none⟩ = some (.slice AX 2 cX) := B16.cell 0
      have B16c1 : w16.cell? ⟨B16a, 1, none⟩ = some (.slice none 0 0) := B16.cell 1
      have B16c2 : w16.cell? ⟨B16a, 2, none⟩ = some (.int .i64 (-1)) := B16.cell 2
      have B16c3 : w16.cell? ⟨B16a, 3, none⟩ = some (.bool false) := B16.cell 3
      have B16z : B16a < w16.heap.size := B16.lt
      go_wp2_with fail
      clear B16c0 B16c1 B16c2 B16c3 B16z
      refine (dRead_at (d := eX2) 0 DX ⟨rfl, rfl⟩).mono ?_
      rintro e w17 hh
      obtain ⟨An, cn, rfl, Rn, hb⟩ := RetBs.is hh hL (Lib.hid sane_none) (n := 128) (by first | exact e7_length | exact eT_length | exact zeros_length)
      replace B5 := B5.later hb
      replace B16 := B16.later hb
      replace DW := dk_later DW hb
      replace Rb := bs_later Rb hb
      replace DX := dk_later DX hb
      replace Ro := bs_later Ro hb
      replace hB := hB.trans (hb.mono hB.size)
      replace hL := hL.later hb.size
      clear hb
      replace DW := restart_at DW
      have B5c0 : w17.cell? ⟨B5a, 0, none⟩ = some (.slice AW 2 cW) := B5.cell 0
      have B5c1 : w17.cell? ⟨B5a, 1, none⟩ = some (.slice PW 1 qW) := B5.cell 1
      have B5c2 : w17.cell? ⟨B5a, 2, none⟩ = some (.int .i64 (-1)) := B5.cell 2
      have B5c3 : w17.cell? ⟨B5a, 3, none⟩ = some (.bool false) := B5.cell 3
      have B5z : B5a < w17.heap.size := B5.lt
      go_wp2_with fail
      clear B5c0 B5c1 B5c2 B5c3 B5z
      refine (dRestart_eq _ _ _ _ _ _ _).mono ?_
      rintro e w18 ⟨rfl, hb⟩
      replace B5 := B5.later hb
      replace B16 := B16.later hb
      replace DW := dk_later DW hb
      replace Rb := bs_later Rb hb
      replace DX := dk_later DX hb
      replace Ro := bs_later Ro hb
      replace Rn := bs_later Rn hb
      replace hB := hB.trans (hb.mono hB.size)
      replace hL := hL.later hb.size
      clear hb
      go_wp2_with fail
      refine (dRead_at (d := restartT eW) 1 DW ⟨rfl, rfl⟩).mono ?_
      rintro e w19 hh
      obtain ⟨Al, cl, rfl, Rl, hb⟩ := RetBs.is hh hL (Lib.hid sane_lost) (n := 128) (by first | exact e7_length | exact eT_length | exact zeros_length)
      replace B5 := B5.later hb
      replace B16 := B16.later hb
      replace DW := dk_later DW hb
      replace Rb := bs_later Rb hb
      replace DX := dk_later DX hb
      replace Ro := bs_later Ro hb
      replace Rn := bs_later Rn hb
      replace hB := hB.trans (hb.mono hB.size)
      replace hL := hL.later hb.size
      clear hb
      obtain ⟨bb, ob, rfl, _, hbz, _⟩ := Rb.out.cell (k := 0) (by rw [e7_length]; decide)
      have vb0 : w19.cell? ⟨bb, ob, none⟩ = some (.int .u8 7) := by
        obtain ⟨bb, oo, e, _, _, hc⟩ := Rb.out.cell (k := 0) (by rw [e7_length]; decide)
        cases e
        rw [e7_0] at hc
        exact hc
      obtain ⟨bo, oo, rfl, _, hoz, _⟩ := Ro.out.cell (k := 0) (by rw [e7_length]; decide)
      have vo0 : w19.cell? ⟨bo, oo, none⟩ = some (.int .u8 7) := by
        obtain ⟨bb, oo, e, _, _, hc⟩ := Ro.out.cell (k := 0) (by rw [e7_length]; decide)
        cases e
        rw [e7_0] at hc
        exact hc
      obtain ⟨bn, on, rfl, _, hnz, _⟩ := Rn.out.cell (k := 0) (by rw [eT_length]; decide)
      have vn0 : w19.cell? ⟨bn, on, none⟩ = some (.int .u8 8) := by
        obtain ⟨bb, oo, e, _, _, hc⟩ := Rn.out.cell (k := 0) (by rw [eT_length]; decide)
        cases e
        rw [eT_0] at hc
        exact hc
      have vn64 : w19.cell? ⟨bn, on + 64, none⟩ = some (.int .u8 0) := by
        obtain ⟨bb, oo, e, _, _, hc⟩ := Rn.out.cell (k := 64) (by rw [eT_length]; decide)
        cases e
        rw [eT_64] at hc
        exact hc
      obtain ⟨bl, ol, rfl, _, hlz, _⟩ := Rl.out.cell (k := 0) (by rw [zeros_length]; decide)
      have vl0 : w19.cell? ⟨bl, ol, none⟩ = some (.int .u8 0) := by
        obtain ⟨bb, oo, e, _, _, hc⟩ := Rl.out.cell (k := 0) (by rw [zeros_length]; decide)
        cases e
        rw [z_0] at hc
        exact hc
      clear Rb Ro Rn Rl
      go_wp2_with fail
      refine (dCheck_is (Lib.hid (dkAt_zero _ (Out []))) ⟨rfl, rfl⟩ (Lib.hid zero_check)).mono ?_
      rintro e w20 ⟨rfl, hb⟩
      replace hB := hB.trans (hb.mono hB.size)
      go_wp2_with fail
      have R0 : Hid (∀ w, Calls Try.prog 17 #[.agg #[.slice none 0 0, .slice none 0 0, .int .i64 0, .bool false]] w fun e w' => e = .returned (.agg #[.slice none 0 0, .slice none 0 0, .int .i64 (-1), .bool false]) ∧ Below w.heap.size w w') := fun w => dRestart_eq _ _ _ _ _ _ w
      refine (R0.out _).mono ?_
      rintro e wl ⟨rfl, hb2⟩
      replace hB := hB.trans (hb2.mono hB.size)
      have hfld := fld
      go_wp2
      go_ret
      exact ⟨rfl, hB⟩

end Go.Proofs.Ytdmeogkdoeaemaa
