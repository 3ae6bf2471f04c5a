/-
  The law DiskStopped. (Printed by gen_ei.py.)
-/
import Derived.Test.YtdmeogkdoeaemaaED
namespace Go.Proofs.Ytdmeogkdoeaemaa
open Go.RowKit
attribute [local go_sem ↓ high] app_named cop_named

theorem stopped_runs {d : Dk} (h : d.stopped = true) : d.runs = false := by rw [runs_eq, h]; simp
theorem stopped_read {d : Dk} (h : d.stopped = true) (i : Int) : readT d i = ([], 40) := by rw [readT, if_neg (by rw [stopped_runs h]; simp)]
theorem stopped_write {d : Dk} (h : d.stopped = true) (i : Int) (b : Bs) : writeT d i b = (Dk.zero, 40) := by rw [writeT, if_neg (by rw [stopped_runs h]; simp)]
theorem stopped_sync {d : Dk} (h : d.stopped = true) : syncT d = (Dk.zero, 40) := by rw [syncT, if_neg (by rw [stopped_runs h]; simp)]
theorem stopped_stop {d : Dk} (h : d.stopped = true) (k : Int) : stopT d k = (Dk.zero, 40) := by rw [stopT, if_neg (by rw [stopped_runs h]; simp)]
set_option maxRecDepth 100000 in
set_option maxHeartbeats 8000000 in
theorem lawT_1 (d : Dk) (As : Option Addr) (ns cs : Nat) (Ap : Option Addr) (np cp : Nat) (dl : Int) (ds : Bool) (w : World) (hD : Hid (DkAt w (Out []) (.slice As ns cs) (.slice Ap np cp) d)) (hd : Hid (DkIs d dl ds)) (hsm : Hid d.small) (i k : Int) (Ab : Option Addr) (nb cb : Nat) (b : Bs) (hb0 : Hid (BsAt w (Out []) (.slice Ab nb cb) b)) (hf : Hid (fewB d = false)) : Calls Try.prog 9 #[.agg #[.slice As ns cs, .slice Ap np cp, .int .i64 dl, .bool ds], .int .i64 i, .int .i64 k, .slice Ab nb cb] w (fun e w' => e = .returned (.bool true) ∧ Below w.heap.size w w') := by
  have hB := Below.refl w.heap.size w
  have hL := InW.nil w
  go_enter Try.func9, Try.ntmps9
  go_wp2_with fail
  have hst := (Below.refl w.heap.size w).alloc (Nat.le_refl _) (.cells #[.slice As ns cs, .slice Ap np cp, .int .i64 dl, .bool ds] 25)
  have hg0 : w.heap.size ≤ w.heap.size := hB.size
  replace hD := dk_more (a := w.heap.size) (Nat.le_refl _) hD
  replace hD := dk_later hD hst
  replace hb0 := bs_more (a := w.heap.size) (Nat.le_refl _) hb0
  replace hb0 := bs_later hb0 hst
  replace hL := hL.later hst.size
  replace hL := hL.cons (a := w.heap.size) (by simp)
  replace hB := hB.trans (hst.mono hB.size)
  have X0 := Box.new w [.slice As ns cs, .slice Ap np cp, .int .i64 dl, .bool ds] 25
  have hzX0 : Hid ((w.alloc (.cells #[.slice As ns cs, .slice Ap np cp, .int .i64 dl, .bool ds] 25)).heap.size = w.heap.size + 1) := Lib.hid (by simp)
  clear hst
  generalize w.alloc (.cells #[.slice As ns cs, .slice Ap np cp, .int .i64 dl, .bool ds] 25) = w1 at hB hL hzX0 X0 hD hb0 ⊢
  generalize hga : w.heap.size = X0a at hzX0 X0 hL hD hb0 ⊢
  have gX0 : w.heap.size ≤ X0a := by rw [← hga]; exact hg0
  clear hg0
  clear hga
  refine (dSane_any _).mono ?_
  rintro e w2 ⟨rfl, hb⟩
  replace X0 := X0.later hb
  replace hD := dk_later hD hb
  replace hb0 := bs_later hb0 hb
  replace hB := hB.trans (hb.mono hB.size)
  replace hL := hL.later hb.size
  clear hb
  clear hzX0
  have X0c0 : w2.cell? ⟨X0a, 0, none⟩ = some (.slice As ns cs) := X0.cell 0
  have X0c1 : w2.cell? ⟨X0a, 1, none⟩ = some (.slice Ap np cp) := X0.cell 1
  have X0c2 : w2.cell? ⟨X0a, 2, none⟩ = some (.int .i64 dl) := X0.cell 2
  have X0c3 : w2.cell? ⟨X0a, 3, none⟩ = some (.bool ds) := X0.cell 3
  have X0z : X0a < w2.heap.size := X0.lt
  go_wp2_with fail
  clear X0c0 X0c1 X0c2 X0c3 X0z
  refine (dFew_is hD hd.out hsm hf).mono ?_
  rintro e w3 ⟨rfl, hb⟩
  replace X0 := X0.later hb
  replace hD := dk_later hD hb
  replace hb0 := bs_later hb0 hb
  replace hB := hB.trans (hb.mono hB.size)
  replace hL := hL.later hb.size
  clear hb
  go_wp2
  go_ret
  exact ⟨rfl, hB⟩

set_option maxRecDepth 100000 in
set_option maxHeartbeats 8000000 in
theorem lawT_2 (d : Dk) (As : Option Addr) (ns cs : Nat) (Ap : Option Addr) (np cp : Nat) (dl : Int) (ds : Bool) (w : World) (hD : Hid (DkAt w (Out []) (.slice As ns cs) (.slice Ap np cp) d)) (hd : Hid (DkIs d dl ds)) (hsm : Hid d.small) (i k : Int) (Ab : Option Addr) (nb cb : Nat) (b : Bs) (hb0 : Hid (BsAt w (Out []) (.slice Ab nb cb) b)) (hf : Hid (fewB d = true)) (hl : 1000 < nb) (hl2 : nb ≤ 9223372036854775807) : Calls Try.prog 9 #[.agg #[.slice As ns cs, .slice Ap np cp, .int .i64 dl, .bool ds], .int .i64 i, .int .i64 k, .slice Ab nb cb] w (fun e w' => e = .returned (.bool true) ∧ Below w.heap.size w w') := by
  have hB := Below.refl w.heap.size w
  have hL := InW.nil w
  go_enter Try.func9, Try.ntmps9
  go_wp2_with fail
  have hst := (Below.refl w.heap.size w).alloc (Nat.le_refl _) (.cells #[.slice As ns cs, .slice Ap np cp, .int .i64 dl, .bool ds] 25)
  have hg0 : w.heap.size ≤ w.heap.size := hB.size
  replace hD := dk_more (a := w.heap.size) (Nat.le_refl _) hD
  replace hD := dk_later hD hst
  replace hb0 := bs_more (a := w.heap.size) (Nat.le_refl _) hb0
  replace hb0 := bs_later hb0 hst
  replace hL := hL.later hst.size
  replace hL := hL.cons (a := w.heap.size) (by simp)
  replace hB := hB.trans (hst.mono hB.size)
  have X0 := Box.new w [.slice As ns cs, .slice Ap np cp, .int .i64 dl, .bool ds] 25
  have hzX0 : Hid ((w.alloc (.cells #[.slice As ns cs, .slice Ap np cp, .int .i64 dl, .bool ds] 25)).heap.size = w.heap.size + 1) := Lib.hid (by simp)
  clear hst
  generalize w.alloc (.cells #[.slice As ns cs, .slice Ap np cp, .int .i64 dl, .bool ds] 25) = w1 at hB hL hzX0 X0 hD hb0 ⊢
  generalize hga : w.heap.size = X0a at hzX0 X0 hL hD hb0 ⊢
  have gX0 : w.heap.size ≤ X0a := by rw [← hga]; exact hg0
  clear hg0
  clear hga
  refine (dSane_any _).mono ?_
  rintro e w2 ⟨rfl, hb⟩
  replace X0 := X0.later hb
  replace hD := dk_later hD hb
  replace hb0 := bs_later hb0 hb
  replace hB := hB.trans (hb.mono hB.size)
  replace hL := hL.later hb.size
  clear hb
  clear hzX0
  have X0c0 : w2.cell? ⟨X0a, 0, none⟩ = some (.slice As ns cs) := X0.cell 0
  have X0c1 : w2.cell? ⟨X0a, 1, none⟩ = some (.slice Ap np cp) := X0.cell 1
  have X0c2 : w2.cell? ⟨X0a, 2, none⟩ = some (.int .i64 dl) := X0.cell 2
  have X0c3 : w2.cell? ⟨X0a, 3, none⟩ = some (.bool ds) := X0.cell 3
  have X0z : X0a < w2.heap.size := X0.lt
  go_wp2_with fail
  clear X0c0 X0c1 X0c2 X0c3 X0z
  refine (dFew_is hD hd.out hsm hf).mono ?_
  rintro e w3 ⟨rfl, hb⟩
  replace X0 := X0.later hb
  replace hD := dk_later hD hb
  replace hb0 := bs_later hb0 hb
  replace hB := hB.trans (hb.mono hB.size)
  replace hL := hL.later hb.size
  clear hb
  go_wp2
  go_ret
  exact ⟨rfl, hB⟩

set_option maxRecDepth 100000 in
set_option maxHeartbeats 16000000 in
theorem lawT_3 (d : Dk) (As : Option Addr) (ns cs : Nat) (Ap : Option Addr) (np cp : Nat) (dl : Int) (ds : Bool) (w : World) (hD : Hid (DkAt w (Out []) (.slice As ns cs) (.slice Ap np cp) d)) (hd : Hid (DkIs d dl ds)) (hsm : Hid d.small) (i k : Int) (Ab : Option Addr) (nb cb : Nat) (b : Bs) (hb0 : Hid (BsAt w (Out []) (.slice Ab nb cb) b)) (hf : Hid (fewB d = true)) (hl : nb ≤ 1000) (hns : Hid (d.sectors.length = ns)) (hns6 : ns ≤ 9223372036854775807) : Calls Try.prog 9 #[.agg #[.slice As ns cs, .slice Ap np cp, .int .i64 dl, .bool ds], .int .i64 i, .int .i64 k, .slice Ab nb cb] w (fun e w' => e = .returned (.bool true) ∧ Below w.heap.size w w') := by
  have hB := Below.refl w.heap.size w
  have hL := InW.nil w
  go_enter Try.func9, Try.ntmps9
  go_wp2_with fail
  have hst := (Below.refl w.heap.size w).alloc (Nat.le_refl _) (.cells #[.slice As ns cs, .slice Ap np cp, .int .i64 dl, .bool ds] 25)
  have hg0 : w.heap.size ≤ w.heap.size := hB.size
  replace hD := dk_more (a := w.heap.size) (Nat.le_refl _) hD
  replace hD := dk_later hD hst
  replace hb0 := bs_more (a := w.heap.size) (Nat.le_refl _) hb0
  replace hb0 := bs_later hb0 hst
  replace hL := hL.later hst.size
  replace hL := hL.cons (a := w.heap.size) (by simp)
  replace hB := hB.trans (hst.mono hB.size)
  have X0 := Box.new w [.slice As ns cs, .slice Ap np cp, .int .i64 dl, .bool ds] 25
  have hzX0 : Hid ((w.alloc (.cells #[.slice As ns cs, .slice Ap np cp, .int .i64 dl, .bool ds] 25)).heap.size = w.heap.size + 1) := Lib.hid (by simp)
  clear hst
  generalize w.alloc (.cells #[.slice As ns cs, .slice Ap np cp, .int .i64 dl, .bool ds] 25) = w1 at hB hL hzX0 X0 hD hb0 ⊢
  generalize hga : w.heap.size = X0a at hzX0 X0 hL hD hb0 ⊢
  have gX0 : w.heap.size ≤ X0a := by rw [← hga]; exact hg0
  clear hg0
  clear hga
  refine (dSane_any _).mono ?_
  rintro e w2 ⟨rfl, hb⟩
  replace X0 := X0.later hb
  replace hD := dk_later hD hb
  replace hb0 := bs_later hb0 hb
  replace hB := hB.trans (hb.mono hB.size)
  replace hL := hL.later hb.size
  clear hb
  clear hzX0
  have X0c0 : w2.cell? ⟨X0a, 0, none⟩ = some (.slice As ns cs) := X0.cell 0
  have X0c1 : w2.cell? ⟨X0a, 1, none⟩ = some (.slice Ap np cp) := X0.cell 1
  have X0c2 : w2.cell? ⟨X0a, 2, none⟩ = some (.int .i64 dl) := X0.cell 2
  have X0c3 : w2.cell? ⟨X0a, 3, none⟩ = some (.bool ds) := X0.cell 3
  have X0z : X0a < w2.heap.size := X0.lt
  go_wp2_with fail
  clear X0c0 X0c1 X0c2 X0c3 X0z
  refine (dFew_is hD hd.out hsm hf).mono ?_
  rintro e w3 ⟨rfl, hb⟩
  replace X0 := X0.later hb
  replace hD := dk_later hD hb
  replace hb0 := bs_later hb0 hb
  replace hB := hB.trans (hb.mono hB.size)
  replace hL := hL.later hb.size
  clear hb
  have X0c0 : w3.cell? ⟨X0a, 0, none⟩ = some (.slice As ns cs) := X0.cell 0
  have X0c1 : w3.cell? ⟨X0a, 1, none⟩ = some (.slice Ap np cp) := X0.cell 1
  have X0c2 : w3.cell? ⟨X0a, 2, none⟩ = some (.int .i64 dl) := X0.cell 2
  have X0c3 : w3.cell? ⟨X0a, 3, none⟩ = some (.bool ds) := X0.cell 3
  have X0z : X0a < w3.heap.size := X0.lt
  go_wp2_with fail
  clear X0c0 X0c1 X0c2 X0c3 X0z
  refine (dRestart_eq _ _ _ _ _ _ _).mono ?_
  rintro e w4 ⟨rfl, hb⟩
  replace X0 := X0.later hb
  replace hD := dk_later hD hb
  replace hb0 := bs_later hb0 hb
  replace hB := hB.trans (hb.mono hB.size)
  replace hL := hL.later hb.size
  clear hb
  have X0c0 : w4.cell? ⟨X0a, 0, none⟩ = some (.slice As ns cs) := X0.cell 0
  have X0c1 : w4.cell? ⟨X0a, 1, none⟩ = some (.slice Ap np cp) := X0.cell 1
  have X0c2 : w4.cell? ⟨X0a, 2, none⟩ = some (.int .i64 dl) := X0.cell 2
  have X0c3 : w4.cell? ⟨X0a, 3, none⟩ = some (.bool ds) := X0.cell 3
  have X0z : X0a < w4.heap.size := X0.lt
  go_wp2_with fail
  clear X0c0 X0c1 X0c2 X0c3 X0z
  have hst := (Below.refl w4.heap.size w4).alloc (Nat.le_refl _) (.cells #[.slice As ns cs, .slice none 0 0, .int .i64 (-1), .bool false] 25)
  have nX0B9 : X0a ≠ w4.heap.size := by have := X0.lt; omega
  replace X0 := X0.later hst
  replace hD := dk_later hD hst
  replace hb0 := bs_later hb0 hst
  replace hL := hL.later hst.size
  replace hB := hB.trans (hst.mono hB.size)
  have B9 := Box.new w4 [.slice As ns cs, .slice none 0 0, .int .i64 (-1), .bool false] 25
  have hzB9 : Hid ((w4.alloc (.cells #[.slice As ns cs, .slice none 0 0, .int .i64 (-1), .bool false] 25)).heap.size = w4.heap.size + 1) := Lib.hid (by simp)
  clear hst
  generalize w4.alloc (.cells #[.slice As ns cs, .slice none 0 0, .int .i64 (-1), .bool false] 25) = w5 at hB hL hzB9 B9 X0 hD hb0 ⊢
  generalize hga : w4.heap.size = B9a at hzB9 B9 nX0B9 ⊢
  clear hga
  refine (dRestart_eq _ _ _ _ _ _ _).mono ?_
  rintro e w6 ⟨rfl, hb⟩
  replace X0 := X0.later hb
  replace B9 := B9.later hb
  replace hD := dk_later hD hb
  replace hb0 := bs_later hb0 hb
  replace hB := hB.trans (hb.mono hB.size)
  replace hL := hL.later hb.size
  clear hb
  clear hzB9
  have X0c0 : w6.cell? ⟨X0a, 0, none⟩ = some (.slice As ns cs) := X0.cell 0
  have X0c1 : w6.cell? ⟨X0a, 1, none⟩ = some (.slice Ap np cp) := X0.cell 1
  have X0c2 : w6.cell? ⟨X0a, 2, none⟩ = some (.int .i64 dl) := X0.cell 2
  have X0c3 : w6.cell? ⟨X0a, 3, none⟩ = some (.bool ds) := X0.cell 3
  have X0z : X0a < w6.heap.size := X0.lt
  have B9c0 : w6.cell? ⟨B9a, 0, none⟩ = some (.slice As ns cs) := B9.cell 0
  have B9c1 : w6.cell? ⟨B9a, 1, none⟩ = some (.slice none 0 0) := B9.cell 1
  have B9c2 : w6.cell? ⟨B9a, 2, none⟩ = some (.int .i64 (-1)) := B9.cell 2
  have B9c3 : w6.cell? ⟨B9a, 3, none⟩ = some (.bool false) := B9.cell 3
  have B9z : B9a < w6.heap.size := B9.lt
  go_wp2_with fail
  clear X0c0 X0c1 X0c2 X0c3 X0z B9c0 B9c1 B9c2 B9c3 B9z
  have hst := (Below.refl w6.heap.size w6).alloc (Nat.le_refl _) (.cells #[.slice As ns cs, .slice none 0 0, .int .i64 (-1), .bool false] 25)
  have nX0B10 : X0a ≠ w6.heap.size := by have := X0.lt; omega
  replace X0 := X0.later hst
  replace B9 := B9.later hst
  replace hD := dk_later hD hst
  replace hb0 := bs_later hb0 hst
  replace hL := hL.later hst.size
  replace hB := hB.trans (hst.mono hB.size)
  have B10 := Box.new w6 [.slice As ns cs, .slice none 0 0, .int .i64 (-1), .bool false] 25
  have hzB10 : Hid ((w6.alloc (.cells #[.slice As ns cs, .slice none 0 0, .int .i64 (-1), .bool false] 25)).heap.size = w6.heap.size + 1) := Lib.hid (by simp)
  clear hst
  generalize w6.alloc (.cells #[.slice As ns cs, .slice none 0 0, .int .i64 (-1), .bool false] 25) = w7 at hB hL hzB10 B10 X0 B9 hD hb0 ⊢
  generalize hga : w6.heap.size = B10a at hzB10 B10 nX0B10 ⊢
  clear hga
  refine (dSame_is (restart_at hD) (restart_at hD) ⟨rfl, rfl⟩ ⟨rfl, rfl⟩ (Lib.hid (sameD_refl _))).mono ?_
  rintro e w8 ⟨rfl, hb⟩
  replace X0 := X0.later hb
  replace B9 := B9.later hb
  replace B10 := B10.later hb
  replace hD := dk_later hD hb
  replace hb0 := bs_later hb0 hb
  replace hB := hB.trans (hb.mono hB.size)
  replace hL := hL.later hb.size
  clear hb
  clear hzB10
  clear B10
  have X0c0 : w8.cell? ⟨X0a, 0, none⟩ = some (.slice As ns cs) := X0.cell 0
  have X0c1 : w8.cell? ⟨X0a, 1, none⟩ = some (.slice Ap np cp) := X0.cell 1
  have X0c2 : w8.cell? ⟨X0a, 2, none⟩ = some (.int .i64 dl) := X0.cell 2
  have X0c3 : w8.cell? ⟨X0a, 3, none⟩ = some (.bool ds) := X0.cell 3
  have X0z : X0a < w8.heap.size := X0.lt
  have B9c0 : w8.cell? ⟨B9a, 0, none⟩ = some (.slice As ns cs) := B9.cell 0
  have B9c1 : w8.cell? ⟨B9a, 1, none⟩ = some (.slice none 0 0) := B9.cell 1
  have B9c2 : w8.cell? ⟨B9a, 2, none⟩ = some (.int .i64 (-1)) := B9.cell 2
  have B9c3 : w8.cell? ⟨B9a, 3, none⟩ = some (.bool false) := B9.cell 3
  have B9z : B9a < w8.heap.size := B9.lt
  go_wp2_with fail
  clear X0c0 X0c1 X0c2 X0c3 X0z B9c0 B9c1 B9c2 B9c3 B9z
  go_loopw [11] (fun i wr => ∃ q : Nat, q ≤ ns ∧ i = .int .i64 q ∧ Box wr X0a [.slice As ns cs, .slice Ap np cp, .int .i64 dl, .bool ds] ∧ Box wr B9a [.slice As ns cs, .slice none 0 0, .int .i64 (-1), .bool false] ∧ Hid (DkAt wr (Out [X0a]) (.slice As ns cs) (.slice Ap np cp) d) ∧ Hid (BsAt wr (Out [X0a]) (.slice Ab nb cb) b) ∧ Below w.heap.size w wr ∧ InW [X0a] wr) (fun i _ => ns - (intOf i).toNat)
  case atStart => exact ⟨0, by omega, rfl, X0, B9, hD, hb0, hB, hL⟩
  case round =>
    clear X0 B9 hD hb0 hB hL
    obtain ⟨q, hq, rfl, X0, B9, hD, hb0, hB, hL⟩ := hrel
    have x0 : wr.cell? ⟨X0a, 0, none⟩ = some (.slice As ns cs) := X0.cell 0
    have y0 : wr.cell? ⟨B9a, 0, none⟩ = some (.slice As ns cs) := B9.cell 0
    have xz := X0.lt
    have yz := B9.lt
    by_cases hlt : q < ns
    · have hqs : q < d.sectors.length := by rw [hns.out]; exact hlt
      obtain ⟨pb, po, V, rfl, hSp, hpz, q0, hV⟩ := hD.out.sectors.row hqs
      have cv := Later.str hV
      obtain ⟨Av, cv', rfl, _⟩ := hV.form
      generalize List.length (d.sectors[q]) = nv at cv q0
      generalize strB (d.sectors[q]) = sv at cv
      clear hV hSp
      have i1 : (0 : Int) ≤ (q : Int) := by omega
      have i2 : (q : Int) < (ns : Int) := by omega
      have j0 : ∀ u : Later wr, u.w.cell? ⟨X0a, 0, none⟩ = some (.slice (some ⟨pb, po, none⟩) ns cs) := Later.cell x0 xz
      have j1 : ∀ u : Later wr, u.w.cell? ⟨B9a, 0, none⟩ = some (.slice (some ⟨pb, po, none⟩) ns cs) := Later.cell y0 yz
      have j2 : ∀ u : Later wr, u.w.cell? ⟨pb, po + q, none⟩ = some (.slice Av nv cv') := Later.cell q0 hpz
      clear q0
      go_wp2_with fail
      refine wp_region_later (by kernel_rfl) (by kernel_rfl) ?_
      repeat (go_big_quiet_step (fail))
      refine wpQuiet_nil ?_
      intro _ hw'
      obtain ⟨yq, hw''⟩ := hw'
      subst hw''
      clear j0 j1 j2 cv x0 y0
      obtain ⟨w3, hz3, hb⟩ : ∃ z, yq.w = z ∧ Below wr.heap.size wr z := ⟨_, rfl, yq.below⟩
      rw [hz3]
      clear hz3 xz yz
      replace X0 := X0.later hb
      replace B9 := B9.later hb
      replace hD := dk_later hD hb
      replace hb0 := bs_later hb0 hb
      replace hB := hB.trans (hb.mono hB.size)
      replace hL := hL.later hb.size
      clear hb
      go_wp2
      exact ⟨⟨q + 1, by omega, by go_num, X0, B9, hD, hb0, hB, hL⟩, by simp [intOf]; omega⟩
    · obtain rfl : ns = q := by omega
      clear x0 y0 xz yz B9
      have X0c0 : wr.cell? ⟨X0a, 0, none⟩ = some (.slice As ns cs) := X0.cell 0
      have X0c1 : wr.cell? ⟨X0a, 1, none⟩ = some (.slice Ap np cp) := X0.cell 1
      have X0c2 : wr.cell? ⟨X0a, 2, none⟩ = some (.int .i64 dl) := X0.cell 2
      have X0c3 : wr.cell? ⟨X0a, 3, none⟩ = some (.bool ds) := X0.cell 3
      have X0z : X0a < wr.heap.size := X0.lt
      have X0f0 : wr.frozen? ⟨X0a, 0, none⟩ = false := X0.free 0
      have X0f1 : wr.frozen? ⟨X0a, 1, none⟩ = false := X0.free 1
      have X0f2 : wr.frozen? ⟨X0a, 2, none⟩ = false := X0.free 2
      have X0f3 : wr.frozen? ⟨X0a, 3, none⟩ = false := X0.free 3
      go_wp2_with fail
      clear X0c0 X0c1 X0c2 X0c3 X0z
      clear X0f0 X0f1 X0f2 X0f3
      replace hD := dk_set (a := X0a) (by simp) hD 3 (.bool true)
      replace hb0 := bs_set (a := X0a) (by simp) hb0 3 (.bool true)
      replace hB := hB.setCell (p := ⟨X0a, 3, none⟩) gX0 (.bool true)
      replace X0 := X0.set 3 (.bool true)
      have hLs : InW [X0a] (wr.setCell ⟨X0a, 3, none⟩ (.bool true)) := hL.later (by simp)
      replace hL := hLs
      clear hLs
      generalize wr.setCell ⟨X0a, 3, none⟩ (.bool true) = wv at hB hL X0 hD hb0 ⊢
      replace hD : Hid (DkAt wv (Out [X0a]) (.slice As ns cs) (.slice Ap np cp) ⟨d.sectors, d.pending, d.left, true⟩) := Lib.hid ⟨hD.out.sectors, hD.out.pending⟩
      have hd2 : Hid (DkIs (⟨d.sectors, d.pending, d.left, true⟩ : Dk) dl true) := Lib.hid ⟨hd.out.left, rfl⟩
      refine (dRead_at i hD hd2.out).mono ?_
      rintro e w10 hh
      obtain ⟨Ar, cr, rfl, _, hb⟩ := RetBs.is hh hL (Lib.hid (stopped_read rfl i)) (n := 0) rfl
      replace X0 := X0.later hb
      replace hD := dk_later hD hb
      replace hb0 := bs_later hb0 hb
      replace hB := hB.trans (hb.mono hB.size)
      replace hL := hL.later hb.size
      clear hb
      have X0c0 : w10.cell? ⟨X0a, 0, none⟩ = some (.slice As ns cs) := X0.cell 0
      have X0c1 : w10.cell? ⟨X0a, 1, none⟩ = some (.slice Ap np cp) := X0.cell 1
      have X0c2 : w10.cell? ⟨X0a, 2, none⟩ = some (.int .i64 dl) := X0.cell 2
      have X0c3 : w10.cell? ⟨X0a, 3, none⟩ = some (.bool true) := X0.cell 3
      have X0z : X0a < w10.heap.size := X0.lt
      go_wp2_with fail
      clear X0c0 X0c1 X0c2 X0c3 X0z
      refine (dWrite_at i hD hd2.out hb0).mono ?_
      rintro e w11 hh
      obtain ⟨AB14, cB14, PB14, qB14, rfl, _, hb⟩ := RetDk.is hh hL (Lib.hid (stopped_write rfl i b)) (ns := 0) (np := 0) (dl := 0) (ds := false) rfl rfl rfl rfl
      replace X0 := X0.later hb
      replace hD := dk_later hD hb
      replace hb0 := bs_later hb0 hb
      replace hB := hB.trans (hb.mono hB.size)
      replace hL := hL.later hb.size
      clear hb
      have X0c0 : w11.cell? ⟨X0a, 0, none⟩ = some (.slice As ns cs) := X0.cell 0
      have X0c1 : w11.cell? ⟨X0a, 1, none⟩ = some (.slice Ap np cp) := X0.cell 1
      have X0c2 : w11.cell? ⟨X0a, 2, none⟩ = some (.int .i64 dl) := X0.cell 2
      have X0c3 : w11.cell? ⟨X0a, 3, none⟩ = some (.bool true) := X0.cell 3
      have X0z : X0a < w11.heap.size := X0.lt
      go_wp2_with fail
      clear X0c0 X0c1 X0c2 X0c3 X0z
      have hst := (Below.refl w11.heap.size w11).alloc (Nat.le_refl _) (.cells #[.slice AB14 0 cB14, .slice PB14 0 qB14, .int .i64 0, .bool false] 25)
      have nX0B14 : X0a ≠ w11.heap.size := by have := X0.lt; omega
      replace X0 := X0.later hst
      replace hD := dk_later hD hst
      replace hb0 := bs_later hb0 hst
      replace hL := hL.later hst.size
      replace hB := hB.trans (hst.mono hB.size)
      have B14 := Box.new w11 [.slice AB14 0 cB14, .slice PB14 0 qB14, .int .i64 0, .bool false] 25
      have hzB14 : Hid ((w11.alloc (.cells #[.slice AB14 0 cB14, .slice PB14 0 qB14, .int .i64 0, .bool false] 25)).heap.size = w11.heap.size + 1) := Lib.hid (by simp)
      clear hst
      generalize w11.alloc (.cells #[.slice AB14 0 cB14, .slice PB14 0 qB14, .int .i64 0, .bool false] 25) = w12 at hB hL hzB14 B14 X0 hD hb0 ⊢
      generalize hga : w11.heap.size = B14a at hzB14 B14 nX0B14 ⊢
      clear hga
      refine (dSync_at hD hd2.out).mono ?_
      rintro e w13 hh
      obtain ⟨AB16, cB16, PB16, qB16, rfl, _, hb⟩ := RetDk.is hh hL (Lib.hid (stopped_sync rfl)) (ns := 0) (np := 0) (dl := 0) (ds := false) rfl rfl rfl rfl
      replace X0 := X0.later hb
      replace B14 := B14.later hb
      replace hD := dk_later hD hb
      replace hb0 := bs_later hb0 hb
      replace hB := hB.trans (hb.mono hB.size)
      replace hL := hL.later hb.size
      clear hb
      have X0c0 : w13.cell? ⟨X0a, 0, none⟩ = some (.slice As ns cs) := X0.cell 0
      have X0c1 : w13.cell? ⟨X0a, 1, none⟩ = some (.slice Ap np cp) := X0.cell 1
      have X0c2 : w13.cell? ⟨X0a, 2, none⟩ = some (.int .i64 dl) := X0.cell 2
      have X0c3 : w13.cell? ⟨X0a, 3, none⟩ = some (.bool true) := X0.cell 3
      have X0z : X0a < w13.heap.size := X0.lt
      go_wp2_with fail
      clear X0c0 X0c1 X0c2 X0c3 X0z
      have hst := (Below.refl w13.heap.size w13).alloc (Nat.le_refl _) (.cells #[.slice AB16 0 cB16, .slice PB16 0 qB16, .int .i64 0, .bool false] 25)
      have nX0B16 : X0a ≠ w13.heap.size := by have := X0.lt; omega
      replace X0 := X0.later hst
      replace B14 := B14.later hst
      replace hD := dk_later hD hst
      replace hb0 := bs_later hb0 hst
      replace hL := hL.later hst.size
      replace hB := hB.trans (hst.mono hB.size)
      have B16 := Box.new w13 [.slice AB16 0 cB16, .slice PB16 0 qB16, .int .i64 0, .bool false] 25
      have hzB16 : Hid ((w13.alloc (.cells #[.slice AB16 0 cB16, .slice PB16 0 qB16, .int .i64 0, .bool false] 25)).heap.size = w13.heap.size + 1) := Lib.hid (by simp)
      clear hst
      generalize w13.alloc (.cells #[.slice AB16 0 cB16, .slice PB16 0 qB16, .int .i64 0, .bool false] 25) = w14 at hB hL hzB16 B16 X0 B14 hD hb0 ⊢
      generalize hga : w13.heap.size = B16a at hzB16 B16 nX0B16 ⊢
      clear hga
      refine (dStop_at k hD hd2.out).mono ?_
      rintro e w15 hh
      obtain ⟨AB18, cB18, PB18, qB18, rfl, _, hb⟩ := RetDk.is hh hL (Lib.hid (stopped_stop rfl k)) (ns := 0) (np := 0) (dl := 0) (ds := false) rfl rfl rfl rfl
      replace X0 := X0.later hb
      replace B14 := B14.later hb
      replace B16 := B16.later hb
      replace hD := dk_later hD hb
      replace hb0 := bs_later hb0 hb
      replace hB := hB.trans (hb.mono hB.size)
      replace hL := hL.later hb.size
      clear hb
      have hst := (Below.refl w15.heap.size w15).alloc (Nat.le_refl _) (.cells #[.slice AB18 0 cB18, .slice PB18 0 qB18, .int .i64 0, .bool false] 25)
      go_wp2
      go_ret
      exact ⟨rfl, hB.trans (hst.mono hB.size)⟩

theorem law_DiskStopped (d : Dk) (Vs Vp : Value) (i k : Int) (b : Bs) (Vb : Value) (w : World) (hD : DkAt w (fun b => b < w.heap.size) Vs Vp d) (hsm : d.small) (hb : BsAt w (fun b => b < w.heap.size) Vb b) :
    Calls Try.prog 9 #[.agg #[Vs, Vp, .int .i64 d.left, .bool d.stopped], .int .i64 i, .int .i64 k, Vb] w fun e w' => e = .returned (.bool true) ∧ Below w.heap.size w w' := by
  obtain ⟨As, cs, rfl, hm1⟩ := hD.sectors.form
  obtain ⟨Ap, cp, rfl, _⟩ := hD.pending.form
  obtain ⟨Ab, cb, rfl, hbm⟩ := hb.form
  unfold maxLen at hbm hm1
  rcases hf : fewB d with _ | _
  · exact lawT_1 d As _ cs Ap _ cp _ _ w (live_out hD) ⟨rfl, rfl⟩ hsm i k Ab _ cb b (live_bs hb) hf
  · by_cases hl : b.length ≤ 1000
    · exact lawT_3 d As _ cs Ap _ cp _ _ w (live_out hD) ⟨rfl, rfl⟩ hsm i k Ab _ cb b (live_bs hb) hf hl rfl (by omega)
    · exact lawT_2 d As _ cs Ap _ cp _ _ w (live_out hD) ⟨rfl, rfl⟩ hsm i k Ab _ cb b (live_bs hb) hf (by omega) (by omega)

end Go.Proofs.Ytdmeogkdoeaemaa
