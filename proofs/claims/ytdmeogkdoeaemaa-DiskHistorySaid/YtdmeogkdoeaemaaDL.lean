/-
  Contract of Sync of disk, the ways without a stop. (Printed by gen_dj.py.)
-/
import Derived.Test.YtdmeogkdoeaemaaDJ
namespace Go.Proofs.Ytdmeogkdoeaemaa
open Go.RowKit
attribute [local go_sem ↓ high] app_named cop_named
attribute [local go_sem ↓] Go.wp_at_zero Go.wp_at_succ

set_option maxRecDepth 100000 in
set_option maxHeartbeats 8000000 in
theorem dSync_3 (d : Dk) (As : Option Addr) (ns cs : Nat) (Ap : Option Addr) (np cp : Nat) (dl : Int) (ds : Bool) (S : Nat → Prop) (w : World) (hD : Hid (DkAt w S (.slice As ns cs) (.slice Ap np cp) d)) (hdl : Hid (d.left = dl)) (hds : Hid (d.stopped = ds)) (hr : Hid (d.runs = true)) (hnp : Hid (d.pending.length = np)) (hns : Hid (d.sectors.length = ns)) (hl : dl < 0) (hs : Hid (syncT d = (⟨perf d.sectors d.pending, [], dl, false⟩, 0))) : Calls Try.prog 23 #[.agg #[.slice As ns cs, .slice Ap np cp, .int .i64 dl, .bool ds]] w (RetDk (syncT d) S w) := by
  have HB0 : Below w.heap.size w ((w.alloc (.cells #[.slice As ns cs, .slice Ap np cp, .int .i64 dl, .bool ds] 25)).alloc (.cells #[.slice none 0 0, .slice none 0 0, .int .i64 0, .bool false] 25)) := (((Below.refl w.heap.size w).alloc (by simp <;> omega) (.cells #[.slice As ns cs, .slice Ap np cp, .int .i64 dl, .bool ds] 25)).alloc (by simp <;> omega) (.cells #[.slice none 0 0, .slice none 0 0, .int .i64 0, .bool false] 25))
  have HD0 := Lib.hid (hD.out.keep (Keeps.of HB0))
  obtain ⟨k1, k2, k3, k4, k5, k6, k7⟩ := okB_parts (runs_ok hr.out).1
  have HIN : Hid (∀ x ∈ d.pending, 0 ≤ x.at' ∧ x.at' < (d.sectors.length : Int)) := fun x hx => ⟨(k6 x hx).1, (k6 x hx).2.1⟩
  have HPL : Hid ((perf d.sectors d.pending).length = ns) := by rw [Hid, perf_length, hns.out]
  have hns4 : d.sectors.length ≤ 1048576 := by omega
  have hns0 : 0 < ns := by rw [← hns.out]; omega
  have hnp4 : np ≤ 4096 := by rw [← hnp.out]; omega
  have hns5 := Lib.hid hns4
  clear k1 k2 k3 k4 k5 k6 k7 hns4
  go_enter Try.func23, Try.ntmps23
  go_wp2_with fail
  refine (dRuns_at hr HD0.out hdl hds).mono ?_
  rintro e w1 ⟨rfl, hb⟩
  have X0 := (((Box.newAt (n := w.heap.size) [.slice As ns cs, .slice Ap np cp, .int .i64 dl, .bool ds] 25 (by simp)).alloc _)).later hb
  have R := ((Box.newAt (n := w.heap.size + 1) [.slice none 0 0, .slice none 0 0, .int .i64 0, .bool false] 25 (by simp))).later hb
  have hB : Below w.heap.size w w1 := ((((Below.refl w.heap.size w).alloc (by simp <;> omega) _).alloc (by simp <;> omega) _)).trans (hb.mono (by simp <;> omega))
  clear hb
  have X0c0 : w1.cell? ⟨w.heap.size, 0, none⟩ = some (.slice As ns cs) := X0.cell 0
  have X0f0 : w1.frozen? ⟨w.heap.size, 0, none⟩ = false := X0.free 0
  have X0c1 : w1.cell? ⟨w.heap.size, 1, none⟩ = some (.slice Ap np cp) := X0.cell 1
  have X0f1 : w1.frozen? ⟨w.heap.size, 1, none⟩ = false := X0.free 1
  have X0c2 : w1.cell? ⟨w.heap.size, 2, none⟩ = some (.int .i64 dl) := X0.cell 2
  have X0f2 : w1.frozen? ⟨w.heap.size, 2, none⟩ = false := X0.free 2
  have X0c3 : w1.cell? ⟨w.heap.size, 3, none⟩ = some (.bool ds) := X0.cell 3
  have X0f3 : w1.frozen? ⟨w.heap.size, 3, none⟩ = false := X0.free 3
  have X0z : w.heap.size < w1.heap.size := X0.lt
  have Rc0 : w1.cell? ⟨w.heap.size + 1, 0, none⟩ = some (.slice none 0 0) := R.cell 0
  have Rf0 : w1.frozen? ⟨w.heap.size + 1, 0, none⟩ = false := R.free 0
  have Rc1 : w1.cell? ⟨w.heap.size + 1, 1, none⟩ = some (.slice none 0 0) := R.cell 1
  have Rf1 : w1.frozen? ⟨w.heap.size + 1, 1, none⟩ = false := R.free 1
  have Rc2 : w1.cell? ⟨w.heap.size + 1, 2, none⟩ = some (.int .i64 0) := R.cell 2
  have Rf2 : w1.frozen? ⟨w.heap.size + 1, 2, none⟩ = false := R.free 2
  have Rc3 : w1.cell? ⟨w.heap.size + 1, 3, none⟩ = some (.bool false) := R.cell 3
  have Rf3 : w1.frozen? ⟨w.heap.size + 1, 3, none⟩ = false := R.free 3
  have Rz : w.heap.size + 1 < w1.heap.size := R.lt
  go_wp2_with fail
  clear X0c0 X0f0 X0c1 X0f1 X0c2 X0f2 X0c3 X0f3 X0z Rc0 Rf0 Rc1 Rf1 Rc2 Rf2 Rc3 Rf3 Rz
  have hR1 : w.heap.size + 1 < w1.heap.size := R.lt
  obtain ⟨wA, hwA⟩ : ∃ wA, w1.drew = wA := ⟨_, rfl⟩
  have hBA : Below w.heap.size w w1.drew := hB.drew
  have CP : Hid (Calls Try.prog 40 #[.slice As ns cs, .slice Ap np cp] w1.drew (RetOwn (perf d.sectors d.pending) (Old S w) w1.drew)) :=
    dPerform_any d.sectors d.pending _ _ (Old S w) _ (hD.out.old.keep (Keeps.of hBA)).sectors (hD.out.old.keep (Keeps.of hBA)).pending hns5.out HIN
  clear hwA hBA
  have x0 : w1.cell? ⟨w.heap.size, 0, none⟩ = some (.slice As ns cs) := X0.cell 0
  have x1 : w1.cell? ⟨w.heap.size, 1, none⟩ = some (.slice Ap np cp) := X0.cell 1
  have x2 : w1.cell? ⟨w.heap.size, 2, none⟩ = some (.int .i64 dl) := X0.cell 2
  have xz : w.heap.size < w1.heap.size := X0.lt
  have rz1 : w.heap.size + 1 < w1.heap.size := R.lt
  go_region_held3 (fun w' => w'.cell? ⟨w.heap.size, 0, none⟩ = some (.slice As ns cs) ∧ w'.cell? ⟨w.heap.size, 1, none⟩ = some (.slice Ap np cp) ∧ w'.cell? ⟨w.heap.size, 2, none⟩ = some (.int .i64 dl)) (first | exact ⟨s0, s1, s2⟩ | (go_keep; done)) ((go_at_call 40; refine CP.out.mono ?_; rintro e w3 ⟨V, rfl, ho, hb⟩; obtain ⟨g, c, rfl, _, hg1, _⟩ := ho.row HPL.out hns0; have X3 := (X0.drew).later hb; have R3 := (R.drew).later hb; have HO := Lib.hid ho; clear ho; have s0 : w3.cell? ⟨w.heap.size, 0, none⟩ = some (.slice As ns cs) := X3.cell 0; have s1 : w3.cell? ⟨w.heap.size, 1, none⟩ = some (.slice Ap np cp) := X3.cell 1; have s2 : w3.cell? ⟨w.heap.size, 2, none⟩ = some (.int .i64 dl) := X3.cell 2; have r0 : w3.cell? ⟨w.heap.size + 1, 0, none⟩ = some (.slice none 0 0) := R3.cell 0; have r1 : w3.cell? ⟨w.heap.size + 1, 1, none⟩ = some (.slice none 0 0) := R3.cell 1; have r2 : w3.cell? ⟨w.heap.size + 1, 2, none⟩ = some (.int .i64 0) := R3.cell 2; have r3 : w3.cell? ⟨w.heap.size + 1, 3, none⟩ = some (.bool false) := R3.cell 3; have rf0 := R3.free 0; have rf1 := R3.free 1; have rf2 := R3.free 2; have rf3 := R3.free 3; have rz := R3.lt))
  clear x0 x1 x2 xz rz1 CP X0 R s0 s1 s2 r0 r1 r2 r3 rf0 rf1 rf2 rf3 rz
  have R4 := ((((R3.set 0 (.slice (some ⟨g, 0, none⟩) ns c)).set 1 (.slice none 0 0)).set 2 (.int .i64 dl)).set 3 (.bool false))
  have hs3 : w1.heap.size ≤ w3.heap.size := hb.size
  have HB3 : Below w.heap.size w w3 := hB.drew.trans (hb.mono hB.drew.size)
  have nK : ∀ W : World, ¬ (Old (fun b => Old (Old S w) w1.drew b ∨ w1.drew.heap.size ≤ b) W) (w.heap.size + 1) := by
    intro W h
    rcases h.1 with h | h
    · have := h.1.2; omega
    · have h : w1.heap.size ≤ w.heap.size + 1 := h
      omega
  have hO4 := HO.out.keepK (w' := ((((w3.setCell ⟨w.heap.size + 1, 0, none⟩ (.slice (some ⟨g, 0, none⟩) ns c)).setCell ⟨w.heap.size + 1, 1, none⟩ (.slice none 0 0)).setCell ⟨w.heap.size + 1, 2, none⟩ (.int .i64 dl)).setCell ⟨w.heap.size + 1, 3, none⟩ (.bool false))) (Keeps.trans (Keeps.trans (Keeps.trans (Keeps.set _ (nK _) _) (Keeps.set _ (nK _) _)) (Keeps.set _ (nK _) _)) (Keeps.set _ (nK _) _))
  have HB4 := (((HB3.setCell (p := ⟨w.heap.size + 1, 0, none⟩) (Nat.le_succ _) (.slice (some ⟨g, 0, none⟩) ns c)).setCell (p := ⟨w.heap.size + 1, 1, none⟩) (Nat.le_succ _) (.slice none 0 0)).setCell (p := ⟨w.heap.size + 1, 2, none⟩) (Nat.le_succ _) (.int .i64 dl)).setCell (p := ⟨w.heap.size + 1, 3, none⟩) (Nat.le_succ _) (.bool false)
  rename_i hheld
  clear hheld X3 R3 HO hb HB3 hB
  generalize ((((w3.setCell ⟨w.heap.size + 1, 0, none⟩ (.slice (some ⟨g, 0, none⟩) ns c)).setCell ⟨w.heap.size + 1, 1, none⟩ (.slice none 0 0)).setCell ⟨w.heap.size + 1, 2, none⟩ (.int .i64 dl)).setCell ⟨w.heap.size + 1, 3, none⟩ (.bool false)) = w4 at R4 hO4 HB4 ⊢
  have HO := Lib.hid hO4
  clear hO4
  have r0 : w4.cell? ⟨w.heap.size + 1, 0, none⟩ = some (.slice (some ⟨g, 0, none⟩) ns c) := R4.cell 0
  have r1 : w4.cell? ⟨w.heap.size + 1, 1, none⟩ = some (.slice none 0 0) := R4.cell 1
  have r2 : w4.cell? ⟨w.heap.size + 1, 2, none⟩ = some (.int .i64 dl) := R4.cell 2
  have r3 : w4.cell? ⟨w.heap.size + 1, 3, none⟩ = some (.bool false) := R4.cell 3
  have rf0 := R4.free 0
  have rf1 := R4.free 1
  have rf2 := R4.free 2
  have rf3 := R4.free 3
  have rz : w.heap.size + 1 < w4.heap.size := R4.lt
  go_wp2
  have ZR := ((((R4.set 0 (.slice (some ⟨g, 0, none⟩) ns c)).set 1 (.slice none 0 0)).set 2 (.int .i64 (dl))).set 3 (.bool false))
  have HB := ((((HB4.setCell (p := ⟨w.heap.size + 1, 0, none⟩) (Nat.le_succ _) (.slice (some ⟨g, 0, none⟩) ns c)).setCell (p := ⟨w.heap.size + 1, 1, none⟩) (Nat.le_succ _) (.slice none 0 0)).setCell (p := ⟨w.heap.size + 1, 2, none⟩) (Nat.le_succ _) (.int .i64 (dl))).setCell (p := ⟨w.heap.size + 1, 3, none⟩) (Nat.le_succ _) (.bool false))
  have hO9 := HO.out.keepK (w' := ((((w4.setCell ⟨w.heap.size + 1, 0, none⟩ (.slice (some ⟨g, 0, none⟩) ns c)).setCell ⟨w.heap.size + 1, 1, none⟩ (.slice none 0 0)).setCell ⟨w.heap.size + 1, 2, none⟩ (.int .i64 (dl))).setCell ⟨w.heap.size + 1, 3, none⟩ (.bool false))) (Keeps.trans (Keeps.trans (Keeps.trans (Keeps.set _ (nK _) _) (Keeps.set _ (nK _) _)) (Keeps.set _ (nK _) _)) (Keeps.set _ (nK _) _))
  clear r0 r1 r2 r3 rf0 rf1 rf2 rf3 rz
  generalize ((((w4.setCell ⟨w.heap.size + 1, 0, none⟩ (.slice (some ⟨g, 0, none⟩) ns c)).setCell ⟨w.heap.size + 1, 1, none⟩ (.slice none 0 0)).setCell ⟨w.heap.size + 1, 2, none⟩ (.int .i64 (dl))).setCell ⟨w.heap.size + 1, 3, none⟩ (.bool false)) = W at ZR HB hO9 ⊢
  have z0 : W.cell? ⟨w.heap.size + 1, 0, none⟩ = some (.slice (some ⟨g, 0, none⟩) ns c) := ZR.cell 0
  have z1 : W.cell? ⟨w.heap.size + 1, 1, none⟩ = some (.slice none 0 0) := ZR.cell 1
  have z2 : W.cell? ⟨w.heap.size + 1, 2, none⟩ = some (.int .i64 (dl)) := ZR.cell 2
  have z3 : W.cell? ⟨w.heap.size + 1, 3, none⟩ = some (.bool false) := ZR.cell 3
  refine bodyPost_ret (v := .tuple #[.agg #[.slice (some ⟨g, 0, none⟩) ns c, .slice none 0 0, .int .i64 (dl), .bool false], .int .i64 0]) (by simp [results, Try.results23, go_sem, z0, z1, z2, z3]) rfl ?_
  refine ⟨_, _, _, 0, rfl, hs, Lib.hid ⟨?_, wsAt_nil _ _⟩, HB⟩
  refine hO9.rows (by rw [HPL.out]; have := hns5.out; rw [hns.out] at this; unfold maxLen; omega) (fun b h _ => .inl h.1.1) (fun b h => .inr ?_)
  have h : w1.heap.size ≤ b := h
  omega

set_option maxRecDepth 100000 in
set_option maxHeartbeats 8000000 in
theorem dSync_4 (d : Dk) (As : Option Addr) (ns cs : Nat) (Ap : Option Addr) (np cp : Nat) (dl : Int) (ds : Bool) (S : Nat → Prop) (w : World) (hD : Hid (DkAt w S (.slice As ns cs) (.slice Ap np cp) d)) (hdl : Hid (d.left = dl)) (hds : Hid (d.stopped = ds)) (hr : Hid (d.runs = true)) (hnp : Hid (d.pending.length = np)) (hns : Hid (d.sectors.length = ns)) (hl : 0 ≤ dl) (hl2 : (np : Int) ≤ dl) (hl3 : dl ≤ 65536) (hs : Hid (syncT d = (⟨perf d.sectors d.pending, [], dl - (np : Int), false⟩, 0))) : Calls Try.prog 23 #[.agg #[.slice As ns cs, .slice Ap np cp, .int .i64 dl, .bool ds]] w (RetDk (syncT d) S w) := by
  have HB0 : Below w.heap.size w ((w.alloc (.cells #[.slice As ns cs, .slice Ap np cp, .int .i64 dl, .bool ds] 25)).alloc (.cells #[.slice none 0 0, .slice none 0 0, .int .i64 0, .bool false] 25)) := (((Below.refl w.heap.size w).alloc (by simp <;> omega) (.cells #[.slice As ns cs, .slice Ap np cp, .int .i64 dl, .bool ds] 25)).alloc (by simp <;> omega) (.cells #[.slice none 0 0, .slice none 0 0, .int .i64 0, .bool false] 25))
  have HD0 := Lib.hid (hD.out.keep (Keeps.of HB0))
  obtain ⟨k1, k2, k3, k4, k5, k6, k7⟩ := okB_parts (runs_ok hr.out).1
  have HIN : Hid (∀ x ∈ d.pending, 0 ≤ x.at' ∧ x.at' < (d.sectors.length : Int)) := fun x hx => ⟨(k6 x hx).1, (k6 x hx).2.1⟩
  have HPL : Hid ((perf d.sectors d.pending).length = ns) := by rw [Hid, perf_length, hns.out]
  have hns4 : d.sectors.length ≤ 1048576 := by omega
  have hns0 : 0 < ns := by rw [← hns.out]; omega
  have hnp4 : np ≤ 4096 := by rw [← hnp.out]; omega
  have hns5 := Lib.hid hns4
  clear k1 k2 k3 k4 k5 k6 k7 hns4
  go_enter Try.func23, Try.ntmps23
  go_wp2_with fail
  refine (dRuns_at hr HD0.out hdl hds).mono ?_
  rintro e w1 ⟨rfl, hb⟩
  have X0 := (((Box.newAt (n := w.heap.size) [.slice As ns cs, .slice Ap np cp, .int .i64 dl, .bool ds] 25 (by simp)).alloc _)).later hb
  have R := ((Box.newAt (n := w.heap.size + 1) [.slice none 0 0, .slice none 0 0, .int .i64 0, .bool false] 25 (by simp))).later hb
  have hB : Below w.heap.size w w1 := ((((Below.refl w.heap.size w).alloc (by simp <;> omega) _).alloc (by simp <;> omega) _)).trans (hb.mono (by simp <;> omega))
  clear hb
  have X0c0 : w1.cell? ⟨w.heap.size, 0, none⟩ = some (.slice As ns cs) := X0.cell 0
  have X0f0 : w1.frozen? ⟨w.heap.size, 0, none⟩ = false := X0.free 0
  have X0c1 : w1.cell? ⟨w.heap.size, 1, none⟩ = some (.slice Ap np cp) := X0.cell 1
  have X0f1 : w1.frozen? ⟨w.heap.size, 1, none⟩ = false := X0.free 1
  have X0c2 : w1.cell? ⟨w.heap.size, 2, none⟩ = some (.int .i64 dl) := X0.cell 2
  have X0f2 : w1.frozen? ⟨w.heap.size, 2, none⟩ = false := X0.free 2
  have X0c3 : w1.cell? ⟨w.heap.size, 3, none⟩ = some (.bool ds) := X0.cell 3
  have X0f3 : w1.frozen? ⟨w.heap.size, 3, none⟩ = false := X0.free 3
  have X0z : w.heap.size < w1.heap.size := X0.lt
  have Rc0 : w1.cell? ⟨w.heap.size + 1, 0, none⟩ = some (.slice none 0 0) := R.cell 0
  have Rf0 : w1.frozen? ⟨w.heap.size + 1, 0, none⟩ = false := R.free 0
  have Rc1 : w1.cell? ⟨w.heap.size + 1, 1, none⟩ = some (.slice none 0 0) := R.cell 1
  have Rf1 : w1.frozen? ⟨w.heap.size + 1, 1, none⟩ = false := R.free 1
  have Rc2 : w1.cell? ⟨w.heap.size + 1, 2, none⟩ = some (.int .i64 0) := R.cell 2
  have Rf2 : w1.frozen? ⟨w.heap.size + 1, 2, none⟩ = false := R.free 2
  have Rc3 : w1.cell? ⟨w.heap.size + 1, 3, none⟩ = some (.bool false) := R.cell 3
  have Rf3 : w1.frozen? ⟨w.heap.size + 1, 3, none⟩ = false := R.free 3
  have Rz : w.heap.size + 1 < w1.heap.size := R.lt
  go_wp2_with fail
  clear X0c0 X0f0 X0c1 X0f1 X0c2 X0f2 X0c3 X0f3 X0z Rc0 Rf0 Rc1 Rf1 Rc2 Rf2 Rc3 Rf3 Rz
  have hR1 : w.heap.size + 1 < w1.heap.size := R.lt
  obtain ⟨wA, hwA⟩ : ∃ wA, w1.drew = wA := ⟨_, rfl⟩
  have hBA : Below w.heap.size w w1.drew := hB.drew
  have CP : Hid (Calls Try.prog 40 #[.slice As ns cs, .slice Ap np cp] w1.drew (RetOwn (perf d.sectors d.pending) (Old S w) w1.drew)) :=
    dPerform_any d.sectors d.pending _ _ (Old S w) _ (hD.out.old.keep (Keeps.of hBA)).sectors (hD.out.old.keep (Keeps.of hBA)).pending hns5.out HIN
  clear hwA hBA
  have x0 : w1.cell? ⟨w.heap.size, 0, none⟩ = some (.slice As ns cs) := X0.cell 0
  have x1 : w1.cell? ⟨w.heap.size, 1, none⟩ = some (.slice Ap np cp) := X0.cell 1
  have x2 : w1.cell? ⟨w.heap.size, 2, none⟩ = some (.int .i64 dl) := X0.cell 2
  have xz : w.heap.size < w1.heap.size := X0.lt
  have rz1 : w.heap.size + 1 < w1.heap.size := R.lt
  go_region_held3 (fun w' => w'.cell? ⟨w.heap.size, 0, none⟩ = some (.slice As ns cs) ∧ w'.cell? ⟨w.heap.size, 1, none⟩ = some (.slice Ap np cp) ∧ w'.cell? ⟨w.heap.size, 2, none⟩ = some (.int .i64 dl)) (first | exact ⟨s0, s1, s2⟩ | (go_keep; done)) ((go_at_call 40; refine CP.out.mono ?_; rintro e w3 ⟨V, rfl, ho, hb⟩; obtain ⟨g, c, rfl, _, hg1, _⟩ := ho.row HPL.out hns0; have X3 := (X0.drew).later hb; have R3 := (R.drew).later hb; have HO := Lib.hid ho; clear ho; have s0 : w3.cell? ⟨w.heap.size, 0, none⟩ = some (.slice As ns cs) := X3.cell 0; have s1 : w3.cell? ⟨w.heap.size, 1, none⟩ = some (.slice Ap np cp) := X3.cell 1; have s2 : w3.cell? ⟨w.heap.size, 2, none⟩ = some (.int .i64 dl) := X3.cell 2; have r0 : w3.cell? ⟨w.heap.size + 1, 0, none⟩ = some (.slice none 0 0) := R3.cell 0; have r1 : w3.cell? ⟨w.heap.size + 1, 1, none⟩ = some (.slice none 0 0) := R3.cell 1; have r2 : w3.cell? ⟨w.heap.size + 1, 2, none⟩ = some (.int .i64 0) := R3.cell 2; have r3 : w3.cell? ⟨w.heap.size + 1, 3, none⟩ = some (.bool false) := R3.cell 3; have rf0 := R3.free 0; have rf1 := R3.free 1; have rf2 := R3.free 2; have rf3 := R3.free 3; have rz := R3.lt))
  clear x0 x1 x2 xz rz1 CP X0 R s0 s1 s2 r0 r1 r2 r3 rf0 rf1 rf2 rf3 rz
  have R4 := ((((R3.set 0 (.slice (some ⟨g, 0, none⟩) ns c)).set 1 (.slice none 0 0)).set 2 (.int .i64 dl)).set 3 (.bool false))
  have hs3 : w1.heap.size ≤ w3.heap.size := hb.size
  have HB3 : Below w.heap.size w w3 := hB.drew.trans (hb.mono hB.drew.size)
  have nK : ∀ W : World, ¬ (Old (fun b => Old (Old S w) w1.drew b ∨ w1.drew.heap.size ≤ b) W) (w.heap.size + 1) := by
    intro W h
    rcases h.1 with h | h
    · have := h.1.2; omega
    · have h : w1.heap.size ≤ w.heap.size + 1 := h
      omega
  have hO4 := HO.out.keepK (w' := ((((w3.setCell ⟨w.heap.size + 1, 0, none⟩ (.slice (some ⟨g, 0, none⟩) ns c)).setCell ⟨w.heap.size + 1, 1, none⟩ (.slice none 0 0)).setCell ⟨w.heap.size + 1, 2, none⟩ (.int .i64 dl)).setCell ⟨w.heap.size + 1, 3, none⟩ (.bool false))) (Keeps.trans (Keeps.trans (Keeps.trans (Keeps.set _ (nK _) _) (Keeps.set _ (nK _) _)) (Keeps.set _ (nK _) _)) (Keeps.set _ (nK _) _))
  have HB4 := (((HB3.setCell (p := ⟨w.heap.size + 1, 0, none⟩) (Nat.le_succ _) (.slice (some ⟨g, 0, none⟩) ns c)).setCell (p := ⟨w.heap.size + 1, 1, none⟩) (Nat.le_succ _) (.slice none 0 0)).setCell (p := ⟨w.heap.size + 1, 2, none⟩) (Nat.le_succ _) (.int .i64 dl)).setCell (p := ⟨w.heap.size + 1, 3, none⟩) (Nat.le_succ _) (.bool false)
  rename_i hheld
  clear hheld X3 R3 HO hb HB3 hB
  generalize ((((w3.setCell ⟨w.heap.size + 1, 0, none⟩ (.slice (some ⟨g, 0, none⟩) ns c)).setCell ⟨w.heap.size + 1, 1, none⟩ (.slice none 0 0)).setCell ⟨w.heap.size + 1, 2, none⟩ (.int .i64 dl)).setCell ⟨w.heap.size + 1, 3, none⟩ (.bool false)) = w4 at R4 hO4 HB4 ⊢
  have HO := Lib.hid hO4
  clear hO4
  have r0 : w4.cell? ⟨w.heap.size + 1, 0, none⟩ = some (.slice (some ⟨g, 0, none⟩) ns c) := R4.cell 0
  have r1 : w4.cell? ⟨w.heap.size + 1, 1, none⟩ = some (.slice none 0 0) := R4.cell 1
  have r2 : w4.cell? ⟨w.heap.size + 1, 2, none⟩ = some (.int .i64 dl) := R4.cell 2
  have r3 : w4.cell? ⟨w.heap.size + 1, 3, none⟩ = some (.bool false) := R4.cell 3
  have rf0 := R4.free 0
  have rf1 := R4.free 1
  have rf2 := R4.free 2
  have rf3 := R4.free 3
  have rz : w.heap.size + 1 < w4.heap.size := R4.lt
  go_wp2
  have ZR := (((((R4.set 2 (.int .i64 (dl - (np : Int)))).set 0 (.slice (some ⟨g, 0, none⟩) ns c)).set 1 (.slice none 0 0)).set 2 (.int .i64 (dl - (np : Int)))).set 3 (.bool false))
  have HB := (((((HB4.setCell (p := ⟨w.heap.size + 1, 2, none⟩) (Nat.le_succ _) (.int .i64 (dl - (np : Int)))).setCell (p := ⟨w.heap.size + 1, 0, none⟩) (Nat.le_succ _) (.slice (some ⟨g, 0, none⟩) ns c)).setCell (p := ⟨w.heap.size + 1, 1, none⟩) (Nat.le_succ _) (.slice none 0 0)).setCell (p := ⟨w.heap.size + 1, 2, none⟩) (Nat.le_succ _) (.int .i64 (dl - (np : Int)))).setCell (p := ⟨w.heap.size + 1, 3, none⟩) (Nat.le_succ _) (.bool false))
  have hO9 := HO.out.keepK (w' := (((((w4.setCell ⟨w.heap.size + 1, 2, none⟩ (.int .i64 (dl - (np : Int)))).setCell ⟨w.heap.size + 1, 0, none⟩ (.slice (some ⟨g, 0, none⟩) ns c)).setCell ⟨w.heap.size + 1, 1, none⟩ (.slice none 0 0)).setCell ⟨w.heap.size + 1, 2, none⟩ (.int .i64 (dl - (np : Int)))).setCell ⟨w.heap.size + 1, 3, none⟩ (.bool false))) (Keeps.trans (Keeps.trans (Keeps.trans (Keeps.trans (Keeps.set _ (nK _) _) (Keeps.set _ (nK _) _)) (Keeps.set _ (nK _) _)) (Keeps.set _ (nK _) _)) (Keeps.set _ (nK _) _))
  clear r0 r1 r2 r3 rf0 rf1 rf2 rf3 rz
  generalize (((((w4.setCell ⟨w.heap.size + 1, 2, none⟩ (.int .i64 (dl - (np : Int)))).setCell ⟨w.heap.size + 1, 0, none⟩ (.slice (some ⟨g, 0, none⟩) ns c)).setCell ⟨w.heap.size + 1, 1, none⟩ (.slice none 0 0)).setCell ⟨w.heap.size + 1, 2, none⟩ (.int .i64 (dl - (np : Int)))).setCell ⟨w.heap.size + 1, 3, none⟩ (.bool false)) = W at ZR HB hO9 ⊢
  have z0 : W.cell? ⟨w.heap.size + 1, 0, none⟩ = some (.slice (some ⟨g, 0, none⟩) ns c) := ZR.cell 0
  have z1 : W.cell? ⟨w.heap.size + 1, 1, none⟩ = some (.slice none 0 0) := ZR.cell 1
  have z2 : W.cell? ⟨w.heap.size + 1, 2, none⟩ = some (.int .i64 (dl - (np : Int))) := ZR.cell 2
  have z3 : W.cell? ⟨w.heap.size + 1, 3, none⟩ = some (.bool false) := ZR.cell 3
  refine bodyPost_ret (v := .tuple #[.agg #[.slice (some ⟨g, 0, none⟩) ns c, .slice none 0 0, .int .i64 (dl - (np : Int)), .bool false], .int .i64 0]) (by simp [results, Try.results23, go_sem, z0, z1, z2, z3]) rfl ?_
  refine ⟨_, _, _, 0, rfl, hs, Lib.hid ⟨?_, wsAt_nil _ _⟩, HB⟩
  refine hO9.rows (by rw [HPL.out]; have := hns5.out; rw [hns.out] at this; unfold maxLen; omega) (fun b h _ => .inl h.1.1) (fun b h => .inr ?_)
  have h : w1.heap.size ≤ b := h
  omega

theorem dSync_any (d : Dk) (Vs Vp : Value) (S : Nat → Prop) (w : World) (hD : DkAt w S Vs Vp d) : Calls Try.prog 23 #[d.v Vs Vp] w (RetDk (syncT d) S w) := by
  obtain ⟨As, cs, rfl, _⟩ := hD.sectors.form
  obtain ⟨Ap, cp, rfl, _⟩ := hD.pending.form
  rcases hr : d.runs with _ | _
  · exact dSync_1 d As _ cs Ap _ cp _ _ S w hD rfl rfl hr (by rw [Hid, syncT, if_neg (by rw [hr]; simp)])
  · by_cases h1 : d.left < 0
    · have ht : tearB d = false := by rw [tearB, decide_eq_false (by omega)]; rfl
      exact dSync_3 d As _ cs Ap _ cp _ _ S w hD rfl rfl hr rfl rfl h1 (by rw [Hid, syncT, if_pos hr, if_neg (by rw [ht]; simp), if_neg (by omega)])
    · by_cases h2 : d.left < (d.pending.length : Int)
      · obtain ⟨j, hj⟩ : ∃ j : Nat, d.left = j := ⟨d.left.toNat, by omega⟩
        have ht : tearB d = true := by rw [tearB, decide_eq_true (by omega), decide_eq_true h2]; rfl
        have := dSync_2 d As _ cs Ap _ cp j _ S w hD hj rfl hr (by omega) rfl rfl (by rw [Hid, syncT, if_pos hr, if_pos ht])
        rw [← hj] at this
        exact this
      · have ht : tearB d = false := by rw [tearB, decide_eq_false h2]; simp
        exact dSync_4 d As _ cs Ap _ cp _ _ S w hD rfl rfl hr rfl rfl (by omega) (by omega) (okB_parts (runs_ok hr).1).2.2.2.2.1 (by rw [Hid, syncT, if_pos hr, if_neg (by rw [ht]; simp), if_pos (by omega)])

end Go.Proofs.Ytdmeogkdoeaemaa
