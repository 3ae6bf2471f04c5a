/-
  Contracts of Stop, Restart of disk. (Printed by gen_dg.py.)
-/
import Derived.Test.YtdmeogkdoeaemaaDF
namespace Go.Proofs.Ytdmeogkdoeaemaa
open Go.RowKit
attribute [local go_sem ↓ high] app_named cop_named

set_option maxRecDepth 100000 in
set_option maxHeartbeats 4000000 in
theorem dStop_1 (d : Dk) (As : Option Addr) (ns cs : Nat) (Ap : Option Addr) (np cp : Nat) (dl : Int) (ds : Bool) (S : Nat → Prop) (w : World) (hD : Hid (DkAt w S (.slice As ns cs) (.slice Ap np cp) d)) (hdl : Hid (d.left = dl)) (hds : Hid (d.stopped = ds)) (k : Int) (hr : Hid (d.runs = false)) (hs : Hid (stopT d k = (Dk.zero, 40))) : Calls Try.prog 25 #[.agg #[.slice As ns cs, .slice Ap np cp, .int .i64 dl, .bool ds], .int .i64 k] w (RetDk (stopT d k) S w) := by
  have HB0 : Below w.heap.size w ((w.alloc (.cells #[.slice As ns cs, .slice Ap np cp, .int .i64 dl, .bool ds] 25)).alloc (.cells #[.slice none 0 0, .slice none 0 0, .int .i64 0, .bool false] 25)) := (((Below.refl w.heap.size w).alloc (by simp <;> omega) (.cells #[.slice As ns cs, .slice Ap np cp, .int .i64 dl, .bool ds] 25)).alloc (by simp <;> omega) (.cells #[.slice none 0 0, .slice none 0 0, .int .i64 0, .bool false] 25))
  have HD0 := Lib.hid (hD.out.keep (Keeps.of HB0))
  go_enter Try.func25, Try.ntmps25
  go_wp2_with fail
  refine (dRuns_at hr HD0.out hdl hds).mono ?_
  rintro e w1 ⟨rfl, hb⟩
  have X0 := (((Box.newAt (n := w.heap.size) [.slice As ns cs, .slice Ap np cp, .int .i64 dl, .bool ds] 25 (by simp)).alloc _)).later hb
  have R := ((Box.newAt (n := w.heap.size + 1) [.slice none 0 0, .slice none 0 0, .int .i64 0, .bool false] 25 (by simp))).later hb
  have hB : Below w.heap.size w w1 := ((((Below.refl w.heap.size w).alloc (by simp <;> omega) _).alloc (by simp <;> omega) _)).trans (hb.mono (by simp <;> omega))
  clear hb
  have Rc0 : w1.cell? ⟨w.heap.size + 1, 0, none⟩ = some (.slice none 0 0) := R.cell 0
  have Rf0 : w1.frozen? ⟨w.heap.size + 1, 0, none⟩ = false := R.free 0
  have Rc1 : w1.cell? ⟨w.heap.size + 1, 1, none⟩ = some (.slice none 0 0) := R.cell 1
  have Rf1 : w1.frozen? ⟨w.heap.size + 1, 1, none⟩ = false := R.free 1
  have Rc2 : w1.cell? ⟨w.heap.size + 1, 2, none⟩ = some (.int .i64 0) := R.cell 2
  have Rf2 : w1.frozen? ⟨w.heap.size + 1, 2, none⟩ = false := R.free 2
  have Rc3 : w1.cell? ⟨w.heap.size + 1, 3, none⟩ = some (.bool false) := R.cell 3
  have Rf3 : w1.frozen? ⟨w.heap.size + 1, 3, none⟩ = false := R.free 3
  have Rz : w.heap.size + 1 < w1.heap.size := R.lt
  go_wp2
  have hY := ((((R.set 0 (.slice none 0 0)).set 1 (.slice none 0 0)).set 2 (.int .i64 0)).set 3 (.bool false))
  have hB := ((((hB.setCell (p := ⟨w.heap.size + 1, 0, none⟩) (by simp <;> omega) (.slice none 0 0)).setCell (p := ⟨w.heap.size + 1, 1, none⟩) (by simp <;> omega) (.slice none 0 0)).setCell (p := ⟨w.heap.size + 1, 2, none⟩) (by simp <;> omega) (.int .i64 0)).setCell (p := ⟨w.heap.size + 1, 3, none⟩) (by simp <;> omega) (.bool false))
  generalize ((((w1.setCell ⟨w.heap.size + 1, 0, none⟩ (.slice none 0 0)).setCell ⟨w.heap.size + 1, 1, none⟩ (.slice none 0 0)).setCell ⟨w.heap.size + 1, 2, none⟩ (.int .i64 0)).setCell ⟨w.heap.size + 1, 3, none⟩ (.bool false)) = W at hY hB ⊢
  have y0 : W.cell? ⟨w.heap.size + 1, 0, none⟩ = some (.slice none 0 0) := hY.cell 0
  have y1 : W.cell? ⟨w.heap.size + 1, 1, none⟩ = some (.slice none 0 0) := hY.cell 1
  have y2 : W.cell? ⟨w.heap.size + 1, 2, none⟩ = some (.int .i64 0) := hY.cell 2
  have y3 : W.cell? ⟨w.heap.size + 1, 3, none⟩ = some (.bool false) := hY.cell 3
  refine bodyPost_ret (v := .tuple #[.agg #[.slice none 0 0, .slice none 0 0, .int .i64 0, .bool false], .int .i64 40]) (by simp [results, Try.results25, go_sem, y0, y1, y2, y3]) rfl ?_
  exact ⟨_, _, Dk.zero, 40, rfl, hs, dkAt_zero _ _, hB⟩

set_option maxRecDepth 100000 in
set_option maxHeartbeats 4000000 in
theorem dStop_2 (d : Dk) (As : Option Addr) (ns cs : Nat) (Ap : Option Addr) (np cp : Nat) (dl : Int) (ds : Bool) (S : Nat → Prop) (w : World) (hD : Hid (DkAt w S (.slice As ns cs) (.slice Ap np cp) d)) (hdl : Hid (d.left = dl)) (hds : Hid (d.stopped = ds)) (k : Int) (hr : Hid (d.runs = true)) (hk : k < 0) (hs : Hid (stopT d k = (Dk.zero, 1))) : Calls Try.prog 25 #[.agg #[.slice As ns cs, .slice Ap np cp, .int .i64 dl, .bool ds], .int .i64 k] w (RetDk (stopT d k) S w) := by
  have HB0 : Below w.heap.size w ((w.alloc (.cells #[.slice As ns cs, .slice Ap np cp, .int .i64 dl, .bool ds] 25)).alloc (.cells #[.slice none 0 0, .slice none 0 0, .int .i64 0, .bool false] 25)) := (((Below.refl w.heap.size w).alloc (by simp <;> omega) (.cells #[.slice As ns cs, .slice Ap np cp, .int .i64 dl, .bool ds] 25)).alloc (by simp <;> omega) (.cells #[.slice none 0 0, .slice none 0 0, .int .i64 0, .bool false] 25))
  have HD0 := Lib.hid (hD.out.keep (Keeps.of HB0))
  go_enter Try.func25, Try.ntmps25
  go_wp2_with fail
  refine (dRuns_at hr HD0.out hdl hds).mono ?_
  rintro e w1 ⟨rfl, hb⟩
  have X0 := (((Box.newAt (n := w.heap.size) [.slice As ns cs, .slice Ap np cp, .int .i64 dl, .bool ds] 25 (by simp)).alloc _)).later hb
  have R := ((Box.newAt (n := w.heap.size + 1) [.slice none 0 0, .slice none 0 0, .int .i64 0, .bool false] 25 (by simp))).later hb
  have hB : Below w.heap.size w w1 := ((((Below.refl w.heap.size w).alloc (by simp <;> omega) _).alloc (by simp <;> omega) _)).trans (hb.mono (by simp <;> omega))
  clear hb
  have Rc0 : w1.cell? ⟨w.heap.size + 1, 0, none⟩ = some (.slice none 0 0) := R.cell 0
  have Rf0 : w1.frozen? ⟨w.heap.size + 1, 0, none⟩ = false := R.free 0
  have Rc1 : w1.cell? ⟨w.heap.size + 1, 1, none⟩ = some (.slice none 0 0) := R.cell 1
  have Rf1 : w1.frozen? ⟨w.heap.size + 1, 1, none⟩ = false := R.free 1
  have Rc2 : w1.cell? ⟨w.heap.size + 1, 2, none⟩ = some (.int .i64 0) := R.cell 2
  have Rf2 : w1.frozen? ⟨w.heap.size + 1, 2, none⟩ = false := R.free 2
  have Rc3 : w1.cell? ⟨w.heap.size + 1, 3, none⟩ = some (.bool false) := R.cell 3
  have Rf3 : w1.frozen? ⟨w.heap.size + 1, 3, none⟩ = false := R.free 3
  have Rz : w.heap.size + 1 < w1.heap.size := R.lt
  go_wp2
  have hY := ((((R.set 0 (.slice none 0 0)).set 1 (.slice none 0 0)).set 2 (.int .i64 0)).set 3 (.bool false))
  have hB := ((((hB.setCell (p := ⟨w.heap.size + 1, 0, none⟩) (by simp <;> omega) (.slice none 0 0)).setCell (p := ⟨w.heap.size + 1, 1, none⟩) (by simp <;> omega) (.slice none 0 0)).setCell (p := ⟨w.heap.size + 1, 2, none⟩) (by simp <;> omega) (.int .i64 0)).setCell (p := ⟨w.heap.size + 1, 3, none⟩) (by simp <;> omega) (.bool false))
  generalize ((((w1.setCell ⟨w.heap.size + 1, 0, none⟩ (.slice none 0 0)).setCell ⟨w.heap.size + 1, 1, none⟩ (.slice none 0 0)).setCell ⟨w.heap.size + 1, 2, none⟩ (.int .i64 0)).setCell ⟨w.heap.size + 1, 3, none⟩ (.bool false)) = W at hY hB ⊢
  have y0 : W.cell? ⟨w.heap.size + 1, 0, none⟩ = some (.slice none 0 0) := hY.cell 0
  have y1 : W.cell? ⟨w.heap.size + 1, 1, none⟩ = some (.slice none 0 0) := hY.cell 1
  have y2 : W.cell? ⟨w.heap.size + 1, 2, none⟩ = some (.int .i64 0) := hY.cell 2
  have y3 : W.cell? ⟨w.heap.size + 1, 3, none⟩ = some (.bool false) := hY.cell 3
  refine bodyPost_ret (v := .tuple #[.agg #[.slice none 0 0, .slice none 0 0, .int .i64 0, .bool false], .int .i64 1]) (by simp [results, Try.results25, go_sem, y0, y1, y2, y3]) rfl ?_
  exact ⟨_, _, Dk.zero, 1, rfl, hs, dkAt_zero _ _, hB⟩

set_option maxRecDepth 100000 in
set_option maxHeartbeats 4000000 in
theorem dStop_3 (d : Dk) (As : Option Addr) (ns cs : Nat) (Ap : Option Addr) (np cp : Nat) (dl : Int) (ds : Bool) (S : Nat → Prop) (w : World) (hD : Hid (DkAt w S (.slice As ns cs) (.slice Ap np cp) d)) (hdl : Hid (d.left = dl)) (hds : Hid (d.stopped = ds)) (k : Int) (hr : Hid (d.runs = true)) (hk0 : 0 ≤ k) (hk : 65536 < k) (hs : Hid (stopT d k = (Dk.zero, 1))) : Calls Try.prog 25 #[.agg #[.slice As ns cs, .slice Ap np cp, .int .i64 dl, .bool ds], .int .i64 k] w (RetDk (stopT d k) S w) := by
  have HB0 : Below w.heap.size w ((w.alloc (.cells #[.slice As ns cs, .slice Ap np cp, .int .i64 dl, .bool ds] 25)).alloc (.cells #[.slice none 0 0, .slice none 0 0, .int .i64 0, .bool false] 25)) := (((Below.refl w.heap.size w).alloc (by simp <;> omega) (.cells #[.slice As ns cs, .slice Ap np cp, .int .i64 dl, .bool ds] 25)).alloc (by simp <;> omega) (.cells #[.slice none 0 0, .slice none 0 0, .int .i64 0, .bool false] 25))
  have HD0 := Lib.hid (hD.out.keep (Keeps.of HB0))
  go_enter Try.func25, Try.ntmps25
  go_wp2_with fail
  refine (dRuns_at hr HD0.out hdl hds).mono ?_
  rintro e w1 ⟨rfl, hb⟩
  have X0 := (((Box.newAt (n := w.heap.size) [.slice As ns cs, .slice Ap np cp, .int .i64 dl, .bool ds] 25 (by simp)).alloc _)).later hb
  have R := ((Box.newAt (n := w.heap.size + 1) [.slice none 0 0, .slice none 0 0, .int .i64 0, .bool false] 25 (by simp))).later hb
  have hB : Below w.heap.size w w1 := ((((Below.refl w.heap.size w).alloc (by simp <;> omega) _).alloc (by simp <;> omega) _)).trans (hb.mono (by simp <;> omega))
  clear hb
  have Rc0 : w1.cell? ⟨w.heap.size + 1, 0, none⟩ = some (.slice none 0 0) := R.cell 0
  have Rf0 : w1.frozen? ⟨w.heap.size + 1, 0, none⟩ = false := R.free 0
  have Rc1 : w1.cell? ⟨w.heap.size + 1, 1, none⟩ = some (.slice none 0 0) := R.cell 1
  have Rf1 : w1.frozen? ⟨w.heap.size + 1, 1, none⟩ = false := R.free 1
  have Rc2 : w1.cell? ⟨w.heap.size + 1, 2, none⟩ = some (.int .i64 0) := R.cell 2
  have Rf2 : w1.frozen? ⟨w.heap.size + 1, 2, none⟩ = false := R.free 2
  have Rc3 : w1.cell? ⟨w.heap.size + 1, 3, none⟩ = some (.bool false) := R.cell 3
  have Rf3 : w1.frozen? ⟨w.heap.size + 1, 3, none⟩ = false := R.free 3
  have Rz : w.heap.size + 1 < w1.heap.size := R.lt
  go_wp2
  have hY := ((((R.set 0 (.slice none 0 0)).set 1 (.slice none 0 0)).set 2 (.int .i64 0)).set 3 (.bool false))
  have hB := ((((hB.setCell (p := ⟨w.heap.size + 1, 0, none⟩) (by simp <;> omega) (.slice none 0 0)).setCell (p := ⟨w.heap.size + 1, 1, none⟩) (by simp <;> omega) (.slice none 0 0)).setCell (p := ⟨w.heap.size + 1, 2, none⟩) (by simp <;> omega) (.int .i64 0)).setCell (p := ⟨w.heap.size + 1, 3, none⟩) (by simp <;> omega) (.bool false))
  generalize ((((w1.setCell ⟨w.heap.size + 1, 0, none⟩ (.slice none 0 0)).setCell ⟨w.heap.size + 1, 1, none⟩ (.slice none 0 0)).setCell ⟨w.heap.size + 1, 2, none⟩ (.int .i64 0)).setCell ⟨w.heap.size + 1, 3, none⟩ (.bool false)) = W at hY hB ⊢
  have y0 : W.cell? ⟨w.heap.size + 1, 0, none⟩ = some (.slice none 0 0) := hY.cell 0
  have y1 : W.cell? ⟨w.heap.size + 1, 1, none⟩ = some (.slice none 0 0) := hY.cell 1
  have y2 : W.cell? ⟨w.heap.size + 1, 2, none⟩ = some (.int .i64 0) := hY.cell 2
  have y3 : W.cell? ⟨w.heap.size + 1, 3, none⟩ = some (.bool false) := hY.cell 3
  refine bodyPost_ret (v := .tuple #[.agg #[.slice none 0 0, .slice none 0 0, .int .i64 0, .bool false], .int .i64 1]) (by simp [results, Try.results25, go_sem, y0, y1, y2, y3]) rfl ?_
  exact ⟨_, _, Dk.zero, 1, rfl, hs, dkAt_zero _ _, hB⟩

set_option maxRecDepth 100000 in
set_option maxHeartbeats 4000000 in
theorem dStop_4 (d : Dk) (As : Option Addr) (ns cs : Nat) (Ap : Option Addr) (np cp : Nat) (dl : Int) (ds : Bool) (S : Nat → Prop) (w : World) (hD : Hid (DkAt w S (.slice As ns cs) (.slice Ap np cp) d)) (hdl : Hid (d.left = dl)) (hds : Hid (d.stopped = ds)) (k : Int) (hr : Hid (d.runs = true)) (hk0 : 0 ≤ k) (hk : k ≤ 65536) (hs : Hid (stopT d k = (⟨d.sectors, d.pending, k, d.stopped⟩, 0))) : Calls Try.prog 25 #[.agg #[.slice As ns cs, .slice Ap np cp, .int .i64 dl, .bool ds], .int .i64 k] w (RetDk (stopT d k) S w) := by
  have HB0 : Below w.heap.size w ((w.alloc (.cells #[.slice As ns cs, .slice Ap np cp, .int .i64 dl, .bool ds] 25)).alloc (.cells #[.slice none 0 0, .slice none 0 0, .int .i64 0, .bool false] 25)) := (((Below.refl w.heap.size w).alloc (by simp <;> omega) (.cells #[.slice As ns cs, .slice Ap np cp, .int .i64 dl, .bool ds] 25)).alloc (by simp <;> omega) (.cells #[.slice none 0 0, .slice none 0 0, .int .i64 0, .bool false] 25))
  have HD0 := Lib.hid (hD.out.keep (Keeps.of HB0))
  go_enter Try.func25, Try.ntmps25
  go_wp2_with fail
  refine (dRuns_at hr HD0.out hdl hds).mono ?_
  rintro e w1 ⟨rfl, hb⟩
  have X0 := (((Box.newAt (n := w.heap.size) [.slice As ns cs, .slice Ap np cp, .int .i64 dl, .bool ds] 25 (by simp)).alloc _)).later hb
  have R := ((Box.newAt (n := w.heap.size + 1) [.slice none 0 0, .slice none 0 0, .int .i64 0, .bool false] 25 (by simp))).later hb
  have hB : Below w.heap.size w w1 := ((((Below.refl w.heap.size w).alloc (by simp <;> omega) _).alloc (by simp <;> omega) _)).trans (hb.mono (by simp <;> omega))
  clear hb
  have X0c0 : w1.cell? ⟨w.heap.size, 0, none⟩ = some (.slice As ns cs) := X0.cell 0
  have X0f0 : w1.frozen? ⟨w.heap.size, 0, none⟩ = false := X0.free 0
  have X0c1 : w1.cell? ⟨w.heap.size, 1, none⟩ = some (.slice Ap np cp) := X0.cell 1
  have X0f1 : w1.frozen? ⟨w.heap.size, 1, none⟩ = false := X0.free 1
  have X0c2 : w1.cell? ⟨w.heap.size, 2, none⟩ = some (.int .i64 dl) := X0.cell 2
  have X0f2 : w1.frozen? ⟨w.heap.size, 2, none⟩ = false := X0.free 2
  have X0c3 : w1.cell? ⟨w.heap.size, 3, none⟩ = some (.bool ds) := X0.cell 3
  have X0f3 : w1.frozen? ⟨w.heap.size, 3, none⟩ = false := X0.free 3
  have X0z : w.heap.size < w1.heap.size := X0.lt
  have Rc0 : w1.cell? ⟨w.heap.size + 1, 0, none⟩ = some (.slice none 0 0) := R.cell 0
  have Rf0 : w1.frozen? ⟨w.heap.size + 1, 0, none⟩ = false := R.free 0
  have Rc1 : w1.cell? ⟨w.heap.size + 1, 1, none⟩ = some (.slice none 0 0) := R.cell 1
  have Rf1 : w1.frozen? ⟨w.heap.size + 1, 1, none⟩ = false := R.free 1
  have Rc2 : w1.cell? ⟨w.heap.size + 1, 2, none⟩ = some (.int .i64 0) := R.cell 2
  have Rf2 : w1.frozen? ⟨w.heap.size + 1, 2, none⟩ = false := R.free 2
  have Rc3 : w1.cell? ⟨w.heap.size + 1, 3, none⟩ = some (.bool false) := R.cell 3
  have Rf3 : w1.frozen? ⟨w.heap.size + 1, 3, none⟩ = false := R.free 3
  have Rz : w.heap.size + 1 < w1.heap.size := R.lt
  go_wp2
  have hne : w.heap.size + 1 ≠ w.heap.size := by omega
  have ZR := (((((R.other (a := ⟨w.heap.size, 2, none⟩) hne (.int .i64 k)).set 0 (.slice As ns cs)).set 1 (.slice Ap np cp)).set 2 (.int .i64 k)).set 3 (.bool ds))
  have HB := (((((hB.setCell (p := ⟨w.heap.size, 2, none⟩) (Nat.le_refl _) (.int .i64 k)).setCell (p := ⟨w.heap.size + 1, 0, none⟩) (Nat.le_succ _) (.slice As ns cs)).setCell (p := ⟨w.heap.size + 1, 1, none⟩) (Nat.le_succ _) (.slice Ap np cp)).setCell (p := ⟨w.heap.size + 1, 2, none⟩) (Nat.le_succ _) (.int .i64 k)).setCell (p := ⟨w.heap.size + 1, 3, none⟩) (Nat.le_succ _) (.bool ds))
  generalize (((((w1.setCell ⟨w.heap.size, 2, none⟩ (.int .i64 k)).setCell ⟨w.heap.size + 1, 0, none⟩ (.slice As ns cs)).setCell ⟨w.heap.size + 1, 1, none⟩ (.slice Ap np cp)).setCell ⟨w.heap.size + 1, 2, none⟩ (.int .i64 k)).setCell ⟨w.heap.size + 1, 3, none⟩ (.bool ds)) = W at ZR HB ⊢
  have z0 : W.cell? ⟨w.heap.size + 1, 0, none⟩ = some (.slice As ns cs) := ZR.cell 0
  have z1 : W.cell? ⟨w.heap.size + 1, 1, none⟩ = some (.slice Ap np cp) := ZR.cell 1
  have z2 : W.cell? ⟨w.heap.size + 1, 2, none⟩ = some (.int .i64 k) := ZR.cell 2
  have z3 : W.cell? ⟨w.heap.size + 1, 3, none⟩ = some (.bool ds) := ZR.cell 3
  refine bodyPost_ret (v := .tuple #[.agg #[.slice As ns cs, .slice Ap np cp, .int .i64 k, .bool ds], .int .i64 0]) (by simp [results, Try.results25, go_sem, z0, z1, z2, z3]) rfl ?_
  exact ⟨_, _, _, 0, by rw [Dk.v, hds.out], hs, Lib.hid ((hD.out.keep (Keeps.of HB)).weak (fun b h _ => .inl h) |> fun h => ⟨h.sectors, h.pending⟩), HB⟩

theorem dStop_any (d : Dk) (Vs Vp : Value) (k : Int) (S : Nat → Prop) (w : World) (hD : DkAt w S Vs Vp d) : Calls Try.prog 25 #[d.v Vs Vp, .int .i64 k] w (RetDk (stopT d k) S w) := by
  obtain ⟨As, cs, rfl, _⟩ := hD.sectors.form
  obtain ⟨Ap, cp, rfl, _⟩ := hD.pending.form
  rcases hr : d.runs with _ | _
  · exact dStop_1 d As _ cs Ap _ cp _ _ S w hD rfl rfl k hr (by rw [Hid, stopT, if_neg (by rw [hr]; simp)])
  · by_cases h1 : k < 0
    · exact dStop_2 d As _ cs Ap _ cp _ _ S w hD rfl rfl k hr h1 (by rw [Hid, stopT, if_pos hr, if_neg (by omega)])
    · by_cases h2 : 65536 < k
      · exact dStop_3 d As _ cs Ap _ cp _ _ S w hD rfl rfl k hr (by omega) h2 (by rw [Hid, stopT, if_pos hr, if_neg (by omega)])
      · exact dStop_4 d As _ cs Ap _ cp _ _ S w hD rfl rfl k hr (by omega) (by omega) (by rw [Hid, stopT, if_pos hr, if_pos (by omega)])
/-- A result that is a disk. -/
def RetD1 (t : Dk) (S : Nat → Prop) (w : World) (e : Ending) (w' : World) : Prop := ∃ (Vs Vp : Value) (m : Dk), e = .returned (m.v Vs Vp) ∧ Hid (t = m) ∧ Hid (DkAt w' (Grow S w) Vs Vp m) ∧ Below w.heap.size w w'
set_option maxRecDepth 100000 in
set_option maxHeartbeats 4000000 in
theorem dRestart_1 (d : Dk) (As : Option Addr) (ns cs : Nat) (Ap : Option Addr) (np cp : Nat) (dl : Int) (ds : Bool) (S : Nat → Prop) (w : World) (hD : Hid (DkAt w S (.slice As ns cs) (.slice Ap np cp) d)) (hdl : Hid (d.left = dl)) (hds : Hid (d.stopped = ds))  : Calls Try.prog 17 #[.agg #[.slice As ns cs, .slice Ap np cp, .int .i64 dl, .bool ds]] w (RetD1 (restartT d) S w) := by
  have HB0 : Below w.heap.size w ((w.alloc (.cells #[.slice As ns cs, .slice Ap np cp, .int .i64 dl, .bool ds] 25)).alloc (.cells #[.slice none 0 0, .slice none 0 0, .int .i64 0, .bool false] 25)) := (((Below.refl w.heap.size w).alloc (by simp <;> omega) (.cells #[.slice As ns cs, .slice Ap np cp, .int .i64 dl, .bool ds] 25)).alloc (by simp <;> omega) (.cells #[.slice none 0 0, .slice none 0 0, .int .i64 0, .bool false] 25))
  have HD0 := Lib.hid (hD.out.keep (Keeps.of HB0))
  clear hdl hds HD0
  go_enter Try.func17, Try.ntmps17
  go_wp2
  have HB : Below w.heap.size w ((w.alloc (.cells #[.slice As ns cs, .slice Ap np cp, .int .i64 dl, .bool ds] 25)).alloc (.cells #[.slice As ns cs, .slice none 0 0, .int .i64 (-1), .bool false] 25)) := (((Below.refl w.heap.size w).alloc (by simp <;> omega) (.cells #[.slice As ns cs, .slice Ap np cp, .int .i64 dl, .bool ds] 25)).alloc (by simp <;> omega) (.cells #[.slice As ns cs, .slice none 0 0, .int .i64 (-1), .bool false] 25))
  refine bodyPost_ret (v := .agg #[.slice As ns cs, .slice none 0 0, .int .i64 (-1), .bool false]) (by simp [results, Try.results17, go_sem]) rfl ?_
  exact ⟨_, _, restartT d, rfl, rfl, Lib.hid ⟨(hD.out.sectors.keep (Keeps.of HB)).weak (fun b h _ => .inl h), wsAt_nil _ _⟩, HB⟩

theorem dRestart_any (d : Dk) (Vs Vp : Value) (S : Nat → Prop) (w : World) (hD : DkAt w S Vs Vp d) : Calls Try.prog 17 #[d.v Vs Vp] w (RetD1 (restartT d) S w) := by
  obtain ⟨As, cs, rfl, _⟩ := hD.sectors.form
  obtain ⟨Ap, cp, rfl, _⟩ := hD.pending.form
  exact dRestart_1 d As _ cs Ap _ cp _ _ S w hD rfl rfl
set_option maxRecDepth 100000 in
set_option maxHeartbeats 4000000 in
theorem dRRestart_1 (d : Dk) (As : Option Addr) (ns cs : Nat) (Ap : Option Addr) (np cp : Nat) (dl : Int) (ds : Bool) (S : Nat → Prop) (w : World) (hD : Hid (DkAt w S (.slice As ns cs) (.slice Ap np cp) d)) (hdl : Hid (d.left = dl)) (hds : Hid (d.stopped = ds))  : Calls Try.prog 18 #[.agg #[.slice As ns cs, .slice Ap np cp, .int .i64 dl, .bool ds]] w (RetD1 (restartT d) S w) := by
  have HB0 : Below w.heap.size w ((w.alloc (.cells #[.slice As ns cs, .slice Ap np cp, .int .i64 dl, .bool ds] 25)).alloc (.cells #[.slice none 0 0, .slice none 0 0, .int .i64 0, .bool false] 25)) := (((Below.refl w.heap.size w).alloc (by simp <;> omega) (.cells #[.slice As ns cs, .slice Ap np cp, .int .i64 dl, .bool ds] 25)).alloc (by simp <;> omega) (.cells #[.slice none 0 0, .slice none 0 0, .int .i64 0, .bool false] 25))
  have HD0 := Lib.hid (hD.out.keep (Keeps.of HB0))
  clear hdl hds HD0
  go_enter Try.func18, Try.ntmps18
  go_wp2
  have HB : Below w.heap.size w ((w.alloc (.cells #[.slice As ns cs, .slice Ap np cp, .int .i64 dl, .bool ds] 25)).alloc (.cells #[.slice As ns cs, .slice none 0 0, .int .i64 (-1), .bool false] 25)) := (((Below.refl w.heap.size w).alloc (by simp <;> omega) (.cells #[.slice As ns cs, .slice Ap np cp, .int .i64 dl, .bool ds] 25)).alloc (by simp <;> omega) (.cells #[.slice As ns cs, .slice none 0 0, .int .i64 (-1), .bool false] 25))
  refine bodyPost_ret (v := .agg #[.slice As ns cs, .slice none 0 0, .int .i64 (-1), .bool false]) (by simp [results, Try.results18, go_sem]) rfl ?_
  exact ⟨_, _, restartT d, rfl, rfl, Lib.hid ⟨(hD.out.sectors.keep (Keeps.of HB)).weak (fun b h _ => .inl h), wsAt_nil _ _⟩, HB⟩

theorem dRRestart_any (d : Dk) (Vs Vp : Value) (S : Nat → Prop) (w : World) (hD : DkAt w S Vs Vp d) : Calls Try.prog 18 #[d.v Vs Vp] w (RetD1 (restartT d) S w) := by
  obtain ⟨As, cs, rfl, _⟩ := hD.sectors.form
  obtain ⟨Ap, cp, rfl, _⟩ := hD.pending.form
  exact dRRestart_1 d As _ cs Ap _ cp _ _ S w hD rfl rfl

end Go.Proofs.Ytdmeogkdoeaemaa
