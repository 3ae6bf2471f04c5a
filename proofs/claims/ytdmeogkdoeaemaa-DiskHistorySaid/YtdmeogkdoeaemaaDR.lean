/-
  Contracts of Stop, Read and Write of the reference of chapter 4. (Printed by gen_dr.py.)
-/
import Derived.Test.YtdmeogkdoeaemaaDQ
namespace Go.Proofs.Ytdmeogkdoeaemaa
open Go.RowKit
attribute [local go_sem ↓ high] app_named cop_named

set_option maxRecDepth 100000 in
set_option maxHeartbeats 4000000 in
theorem dRStop_1 (d : Dk) (As : Option Addr) (ns cs : Nat) (Ap : Option Addr) (np cp : Nat) (dl : Int) (ds : Bool) (S : Nat → Prop) (w : World) (hD : Hid (DkAt w S (.slice As ns cs) (.slice Ap np cp) d)) (hdl : Hid (d.left = dl)) (hds : Hid (d.stopped = ds)) (k : Int) (hc : Hid (d.checkT = 40)) (hs : Hid (stopT d k = (Dk.zero, 40))) : Calls Try.prog 26 #[.agg #[.slice As ns cs, .slice Ap np cp, .int .i64 dl, .bool ds], .int .i64 k] w (RetDk (stopT d k) S w) := by
  have HB0 : Below w.heap.size w ((w.alloc (.cells #[.slice As ns cs, .slice Ap np cp, .int .i64 dl, .bool ds] 25)).alloc (.cells #[.slice none 0 0, .slice none 0 0, .int .i64 0, .bool false] 25)) := (((Below.refl w.heap.size w).alloc (by simp <;> omega) (.cells #[.slice As ns cs, .slice Ap np cp, .int .i64 dl, .bool ds] 25)).alloc (by simp <;> omega) (.cells #[.slice none 0 0, .slice none 0 0, .int .i64 0, .bool false] 25))
  have HD0 := Lib.hid (hD.out.keep (Keeps.of HB0))
  go_enter Try.func26, Try.ntmps26
  go_wp2_with fail
  refine (dRCheck_at hc HD0.out hdl hds).mono ?_
  rintro e w1 ⟨rfl, hb⟩
  have X0 := (((Box.newAt (n := w.heap.size) [.slice As ns cs, .slice Ap np cp, .int .i64 dl, .bool ds] 25 (by simp)).alloc _)).later hb
  have R := ((Box.newAt (n := w.heap.size + 1) [.slice none 0 0, .slice none 0 0, .int .i64 0, .bool false] 25 (by simp))).later hb
  have hB : Below w.heap.size w w1 := ((((Below.refl w.heap.size w).alloc (by simp <;> omega) _).alloc (by simp <;> omega) _)).trans (hb.mono (by simp <;> omega))
  clear hb
  have X0c0 : w1.cell? ⟨w.heap.size, 0, none⟩ = some (.slice As ns cs) := X0.cell 0
  have X0f0 : w1.frozen? ⟨w.heap.size, 0, none⟩ = false := X0.free 0
  have X0c1 : w1.cell? ⟨w.heap.size, 1, none⟩ = some (.slice Ap np cp) := X0.cell 1
  have X0f1 : w1.frozen? ⟨w.heap.size, 1, none⟩ = false := X0.free 1
  have X0c2 : w1.cell? ⟨w.heap.size, 2, none⟩ = some (.int .i64 dl) := X0.cell 2
  have X0f2 : w1.frozen? ⟨w.heap.size, 2, none⟩ = false := X0.free 2
  have X0c3 : w1.cell? ⟨w.heap.size, 3, none⟩ = some (.bool ds) := X0.cell 3
  have X0f3 : w1.frozen? ⟨w.heap.size, 3, none⟩ = false := X0.free 3
  have X0z : w.heap.size < w1.heap.size := X0.lt
  have Rc0 : w1.cell? ⟨w.heap.size + 1, 0, none⟩ = some (.slice none 0 0) := R.cell 0
  have Rf0 : w1.frozen? ⟨w.heap.size + 1, 0, none⟩ = false := R.free 0
  have Rc1 : w1.cell? ⟨w.heap.size + 1, 1, none⟩ = some (.slice none 0 0) := R.cell 1
  have Rf1 : w1.frozen? ⟨w.heap.size + 1, 1, none⟩ = false := R.free 1
  have Rc2 : w1.cell? ⟨w.heap.size + 1, 2, none⟩ = some (.int .i64 0) := R.cell 2
  have Rf2 : w1.frozen? ⟨w.heap.size + 1, 2, none⟩ = false := R.free 2
  have Rc3 : w1.cell? ⟨w.heap.size + 1, 3, none⟩ = some (.bool false) := R.cell 3
  have Rf3 : w1.frozen? ⟨w.heap.size + 1, 3, none⟩ = false := R.free 3
  have Rz : w.heap.size + 1 < w1.heap.size := R.lt
  go_wp2
  have hY := ((((R.set 0 (.slice none 0 0)).set 1 (.slice none 0 0)).set 2 (.int .i64 0)).set 3 (.bool false))
  have hB := ((((hB.setCell (p := ⟨w.heap.size + 1, 0, none⟩) (by simp <;> omega) (.slice none 0 0)).setCell (p := ⟨w.heap.size + 1, 1, none⟩) (by simp <;> omega) (.slice none 0 0)).setCell (p := ⟨w.heap.size + 1, 2, none⟩) (by simp <;> omega) (.int .i64 0)).setCell (p := ⟨w.heap.size + 1, 3, none⟩) (by simp <;> omega) (.bool false))
  generalize ((((w1.setCell ⟨w.heap.size + 1, 0, none⟩ (.slice none 0 0)).setCell ⟨w.heap.size + 1, 1, none⟩ (.slice none 0 0)).setCell ⟨w.heap.size + 1, 2, none⟩ (.int .i64 0)).setCell ⟨w.heap.size + 1, 3, none⟩ (.bool false)) = W at hY hB ⊢
  have y0 : W.cell? ⟨w.heap.size + 1, 0, none⟩ = some (.slice none 0 0) := hY.cell 0
  have y1 : W.cell? ⟨w.heap.size + 1, 1, none⟩ = some (.slice none 0 0) := hY.cell 1
  have y2 : W.cell? ⟨w.heap.size + 1, 2, none⟩ = some (.int .i64 0) := hY.cell 2
  have y3 : W.cell? ⟨w.heap.size + 1, 3, none⟩ = some (.bool false) := hY.cell 3
  refine bodyPost_ret (v := .tuple #[.agg #[.slice none 0 0, .slice none 0 0, .int .i64 0, .bool false], .int .i64 40]) (by simp [results, Try.results26, go_sem, y0, y1, y2, y3]) rfl ?_
  exact ⟨_, _, Dk.zero, 40, rfl, hs, dkAt_zero _ _, hB⟩

set_option maxRecDepth 100000 in
set_option maxHeartbeats 4000000 in
theorem dRStop_2 (d : Dk) (As : Option Addr) (ns cs : Nat) (Ap : Option Addr) (np cp : Nat) (dl : Int) (S : Nat → Prop) (w : World) (hD : Hid (DkAt w S (.slice As ns cs) (.slice Ap np cp) d)) (hdl : Hid (d.left = dl)) (hds : Hid (d.stopped = true)) (k : Int) (hc : Hid (d.checkT = 0)) (hs : Hid (stopT d k = (Dk.zero, 40))) : Calls Try.prog 26 #[.agg #[.slice As ns cs, .slice Ap np cp, .int .i64 dl, .bool true], .int .i64 k] w (RetDk (stopT d k) S w) := by
  have HB0 : Below w.heap.size w ((w.alloc (.cells #[.slice As ns cs, .slice Ap np cp, .int .i64 dl, .bool true] 25)).alloc (.cells #[.slice none 0 0, .slice none 0 0, .int .i64 0, .bool false] 25)) := (((Below.refl w.heap.size w).alloc (by simp <;> omega) (.cells #[.slice As ns cs, .slice Ap np cp, .int .i64 dl, .bool true] 25)).alloc (by simp <;> omega) (.cells #[.slice none 0 0, .slice none 0 0, .int .i64 0, .bool false] 25))
  have HD0 := Lib.hid (hD.out.keep (Keeps.of HB0))
  go_enter Try.func26, Try.ntmps26
  go_wp2_with fail
  refine (dRCheck_at hc HD0.out hdl hds).mono ?_
  rintro e w1 ⟨rfl, hb⟩
  have X0 := (((Box.newAt (n := w.heap.size) [.slice As ns cs, .slice Ap np cp, .int .i64 dl, .bool true] 25 (by simp)).alloc _)).later hb
  have R := ((Box.newAt (n := w.heap.size + 1) [.slice none 0 0, .slice none 0 0, .int .i64 0, .bool false] 25 (by simp))).later hb
  have hB : Below w.heap.size w w1 := ((((Below.refl w.heap.size w).alloc (by simp <;> omega) _).alloc (by simp <;> omega) _)).trans (hb.mono (by simp <;> omega))
  clear hb
  have X0c0 : w1.cell? ⟨w.heap.size, 0, none⟩ = some (.slice As ns cs) := X0.cell 0
  have X0f0 : w1.frozen? ⟨w.heap.size, 0, none⟩ = false := X0.free 0
  have X0c1 : w1.cell? ⟨w.heap.size, 1, none⟩ = some (.slice Ap np cp) := X0.cell 1
  have X0f1 : w1.frozen? ⟨w.heap.size, 1, none⟩ = false := X0.free 1
  have X0c2 : w1.cell? ⟨w.heap.size, 2, none⟩ = some (.int .i64 dl) := X0.cell 2
  have X0f2 : w1.frozen? ⟨w.heap.size, 2, none⟩ = false := X0.free 2
  have X0c3 : w1.cell? ⟨w.heap.size, 3, none⟩ = some (.bool true) := X0.cell 3
  have X0f3 : w1.frozen? ⟨w.heap.size, 3, none⟩ = false := X0.free 3
  have X0z : w.heap.size < w1.heap.size := X0.lt
  have Rc0 : w1.cell? ⟨w.heap.size + 1, 0, none⟩ = some (.slice none 0 0) := R.cell 0
  have Rf0 : w1.frozen? ⟨w.heap.size + 1, 0, none⟩ = false := R.free 0
  have Rc1 : w1.cell? ⟨w.heap.size + 1, 1, none⟩ = some (.slice none 0 0) := R.cell 1
  have Rf1 : w1.frozen? ⟨w.heap.size + 1, 1, none⟩ = false := R.free 1
  have Rc2 : w1.cell? ⟨w.heap.size + 1, 2, none⟩ = some (.int .i64 0) := R.cell 2
  have Rf2 : w1.frozen? ⟨w.heap.size + 1, 2, none⟩ = false := R.free 2
  have Rc3 : w1.cell? ⟨w.heap.size + 1, 3, none⟩ = some (.bool false) := R.cell 3
  have Rf3 : w1.frozen? ⟨w.heap.size + 1, 3, none⟩ = false := R.free 3
  have Rz : w.heap.size + 1 < w1.heap.size := R.lt
  go_wp2
  have hY := ((((R.set 0 (.slice none 0 0)).set 1 (.slice none 0 0)).set 2 (.int .i64 0)).set 3 (.bool false))
  have hB := ((((hB.setCell (p := ⟨w.heap.size + 1, 0, none⟩) (by simp <;> omega) (.slice none 0 0)).setCell (p := ⟨w.heap.size + 1, 1, none⟩) (by simp <;> omega) (.slice none 0 0)).setCell (p := ⟨w.heap.size + 1, 2, none⟩) (by simp <;> omega) (.int .i64 0)).setCell (p := ⟨w.heap.size + 1, 3, none⟩) (by simp <;> omega) (.bool false))
  generalize ((((w1.setCell ⟨w.heap.size + 1, 0, none⟩ (.slice none 0 0)).setCell ⟨w.heap.size + 1, 1, none⟩ (.slice none 0 0)).setCell ⟨w.heap.size + 1, 2, none⟩ (.int .i64 0)).setCell ⟨w.heap.size + 1, 3, none⟩ (.bool false)) = W at hY hB ⊢
  have y0 : W.cell? ⟨w.heap.size + 1, 0, none⟩ = some (.slice none 0 0) := hY.cell 0
  have y1 : W.cell? ⟨w.heap.size + 1, 1, none⟩ = some (.slice none 0 0) := hY.cell 1
  have y2 : W.cell? ⟨w.heap.size + 1, 2, none⟩ = some (.int .i64 0) := hY.cell 2
  have y3 : W.cell? ⟨w.heap.size + 1, 3, none⟩ = some (.bool false) := hY.cell 3
  refine bodyPost_ret (v := .tuple #[.agg #[.slice none 0 0, .slice none 0 0, .int .i64 0, .bool false], .int .i64 40]) (by simp [results, Try.results26, go_sem, y0, y1, y2, y3]) rfl ?_
  exact ⟨_, _, Dk.zero, 40, rfl, hs, dkAt_zero _ _, hB⟩

set_option maxRecDepth 100000 in
set_option maxHeartbeats 4000000 in
theorem dRStop_3 (d : Dk) (As : Option Addr) (ns cs : Nat) (Ap : Option Addr) (np cp : Nat) (dl : Int) (S : Nat → Prop) (w : World) (hD : Hid (DkAt w S (.slice As ns cs) (.slice Ap np cp) d)) (hdl : Hid (d.left = dl)) (hds : Hid (d.stopped = false)) (k : Int) (hc : Hid (d.checkT = 0)) (hk : k < 0) (hs : Hid (stopT d k = (Dk.zero, 1))) : Calls Try.prog 26 #[.agg #[.slice As ns cs, .slice Ap np cp, .int .i64 dl, .bool false], .int .i64 k] w (RetDk (stopT d k) S w) := by
  have HB0 : Below w.heap.size w ((w.alloc (.cells #[.slice As ns cs, .slice Ap np cp, .int .i64 dl, .bool false] 25)).alloc (.cells #[.slice none 0 0, .slice none 0 0, .int .i64 0, .bool false] 25)) := (((Below.refl w.heap.size w).alloc (by simp <;> omega) (.cells #[.slice As ns cs, .slice Ap np cp, .int .i64 dl, .bool false] 25)).alloc (by simp <;> omega) (.cells #[.slice none 0 0, .slice none 0 0, .int .i64 0, .bool false] 25))
  have HD0 := Lib.hid (hD.out.keep (Keeps.of HB0))
  go_enter Try.func26, Try.ntmps26
  go_wp2_with fail
  refine (dRCheck_at hc HD0.out hdl hds).mono ?_
  rintro e w1 ⟨rfl, hb⟩
  have X0 := (((Box.newAt (n := w.heap.size) [.slice As ns cs, .slice Ap np cp, .int .i64 dl, .bool false] 25 (by simp)).alloc _)).later hb
  have R := ((Box.newAt (n := w.heap.size + 1) [.slice none 0 0, .slice none 0 0, .int .i64 0, .bool false] 25 (by simp))).later hb
  have hB : Below w.heap.size w w1 := ((((Below.refl w.heap.size w).alloc (by simp <;> omega) _).alloc (by simp <;> omega) _)).trans (hb.mono (by simp <;> omega))
  clear hb
  have X0c0 : w1.cell? ⟨w.heap.size, 0, none⟩ = some (.slice As ns cs) := X0.cell 0
  have X0f0 : w1.frozen? ⟨w.heap.size, 0, none⟩ = false := X0.free 0
  have X0c1 : w1.cell? ⟨w.heap.size, 1, none⟩ = some (.slice Ap np cp) := X0.cell 1
  have X0f1 : w1.frozen? ⟨w.heap.size, 1, none⟩ = false := X0.free 1
  have X0c2 : w1.cell? ⟨w.heap.size, 2, none⟩ = some (.int .i64 dl) := X0.cell 2
  have X0f2 : w1.frozen? ⟨w.heap.size, 2, none⟩ = false := X0.free 2
  have X0c3 : w1.cell? ⟨w.heap.size, 3, none⟩ = some (.bool false) := X0.cell 3
  have X0f3 : w1.frozen? ⟨w.heap.size, 3, none⟩ = false := X0.free 3
  have X0z : w.heap.size < w1.heap.size := X0.lt
  have Rc0 : w1.cell? ⟨w.heap.size + 1, 0, none⟩ = some (.slice none 0 0) := R.cell 0
  have Rf0 : w1.frozen? ⟨w.heap.size + 1, 0, none⟩ = false := R.free 0
  have Rc1 : w1.cell? ⟨w.heap.size + 1, 1, none⟩ = some (.slice none 0 0) := R.cell 1
  have Rf1 : w1.frozen? ⟨w.heap.size + 1, 1, none⟩ = false := R.free 1
  have Rc2 : w1.cell? ⟨w.heap.size + 1, 2, none⟩ = some (.int .i64 0) := R.cell 2
  have Rf2 : w1.frozen? ⟨w.heap.size + 1, 2, none⟩ = false := R.free 2
  have Rc3 : w1.cell? ⟨w.heap.size + 1, 3, none⟩ = some (.bool false) := R.cell 3
  have Rf3 : w1.frozen? ⟨w.heap.size + 1, 3, none⟩ = false := R.free 3
  have Rz : w.heap.size + 1 < w1.heap.size := R.lt
  go_wp2
  have hY := ((((R.set 0 (.slice none 0 0)).set 1 (.slice none 0 0)).set 2 (.int .i64 0)).set 3 (.bool false))
  have hB := ((((hB.setCell (p := ⟨w.heap.size + 1, 0, none⟩) (by simp <;> omega) (.slice none 0 0)).setCell (p := ⟨w.heap.size + 1, 1, none⟩) (by simp <;> omega) (.slice none 0 0)).setCell (p := ⟨w.heap.size + 1, 2, none⟩) (by simp <;> omega) (.int .i64 0)).setCell (p := ⟨w.heap.size + 1, 3, none⟩) (by simp <;> omega) (.bool false))
  generalize ((((w1.setCell ⟨w.heap.size + 1, 0, none⟩ (.slice none 0 0)).setCell ⟨w.heap.size + 1, 1, none⟩ (.slice none 0 0)).setCell ⟨w.heap.size + 1, 2, none⟩ (.int .i64 0)).setCell ⟨w.heap.size + 1, 3, none⟩ (.bool false)) = W at hY hB ⊢
  have y0 : W.cell? ⟨w.heap.size + 1, 0, none⟩ = some (.slice none 0 0) := hY.cell 0
  have y1 : W.cell? ⟨w.heap.size + 1, 1, none⟩ = some (.slice none 0 0) := hY.cell 1
  have y2 : W.cell? ⟨w.heap.size + 1, 2, none⟩ = some (.int .i64 0) := hY.cell 2
  have y3 : W.cell? ⟨w.heap.size + 1, 3, none⟩ = some (.bool false) := hY.cell 3
  refine bodyPost_ret (v := .tuple #[.agg #[.slice none 0 0, .slice none 0 0, .int .i64 0, .bool false], .int .i64 1]) (by simp [results, Try.results26, go_sem, y0, y1, y2, y3]) rfl ?_
  exact ⟨_, _, Dk.zero, 1, rfl, hs, dkAt_zero _ _, hB⟩

set_option maxRecDepth 100000 in
set_option maxHeartbeats 4000000 in
theorem dRStop_4 (d : Dk) (As : Option Addr) (ns cs : Nat) (Ap : Option Addr) (np cp : Nat) (dl : Int) (S : Nat → Prop) (w : World) (hD : Hid (DkAt w S (.slice As ns cs) (.slice Ap np cp) d)) (hdl : Hid (d.left = dl)) (hds : Hid (d.stopped = false)) (k : Int) (hc : Hid (d.checkT = 0)) (hk0 : 0 ≤ k) (hk : 65536 < k) (hs : Hid (stopT d k = (Dk.zero, 1))) : Calls Try.prog 26 #[.agg #[.slice As ns cs, .slice Ap np cp, .int .i64 dl, .bool false], .int .i64 k] w (RetDk (stopT d k) S w) := by
  have HB0 : Below w.heap.size w ((w.alloc (.cells #[.slice As ns cs, .slice Ap np cp, .int .i64 dl, .bool false] 25)).alloc (.cells #[.slice none 0 0, .slice none 0 0, .int .i64 0, .bool false] 25)) := (((Below.refl w.heap.size w).alloc (by simp <;> omega) (.cells #[.slice As ns cs, .slice Ap np cp, .int .i64 dl, .bool false] 25)).alloc (by simp <;> omega) (.cells #[.slice none 0 0, .slice none 0 0, .int .i64 0, .bool false] 25))
  have HD0 := Lib.hid (hD.out.keep (Keeps.of HB0))
  go_enter Try.func26, Try.ntmps26
  go_wp2_with fail
  refine (dRCheck_at hc HD0.out hdl hds).mono ?_
  rintro e w1 ⟨rfl, hb⟩
  have X0 := (((Box.newAt (n := w.heap.size) [.slice As ns cs, .slice Ap np cp, .int .i64 dl, .bool false] 25 (by simp)).alloc _)).later hb
  have R := ((Box.newAt (n := w.heap.size + 1) [.slice none 0 0, .slice none 0 0, .int .i64 0, .bool false] 25 (by simp))).later hb
  have hB : Below w.heap.size w w1 := ((((Below.refl w.heap.size w).alloc (by simp <;> omega) _).alloc (by simp <;> omega) _)).trans (hb.mono (by simp <;> omega))
  clear hb
  have X0c0 : w1.cell? ⟨w.heap.size, 0, none⟩ = some (.slice As ns cs) := X0.cell 0
  have X0f0 : w1.frozen? ⟨w.heap.size, 0, none⟩ = false := X0.free 0
  have X0c1 : w1.cell? ⟨w.heap.size, 1, none⟩ = some (.slice Ap np cp) := X0.cell 1
  have X0f1 : w1.frozen? ⟨w.heap.size, 1, none⟩ = false := X0.free 1
  have X0c2 : w1.cell? ⟨w.heap.size, 2, none⟩ = some (.int .i64 dl) := X0.cell 2
  have X0f2 : w1.frozen? ⟨w.heap.size, 2, none⟩ = false := X0.free 2
  have X0c3 : w1.cell? ⟨w.heap.size, 3, none⟩ = some (.bool false) := X0.cell 3
  have X0f3 : w1.frozen? ⟨w.heap.size, 3, none⟩ = false := X0.free 3
  have X0z : w.heap.size < w1.heap.size := X0.lt
  have Rc0 : w1.cell? ⟨w.heap.size + 1, 0, none⟩ = some (.slice none 0 0) := R.cell 0
  have Rf0 : w1.frozen? ⟨w.heap.size + 1, 0, none⟩ = false := R.free 0
  have Rc1 : w1.cell? ⟨w.heap.size + 1, 1, none⟩ = some (.slice none 0 0) := R.cell 1
  have Rf1 : w1.frozen? ⟨w.heap.size + 1, 1, none⟩ = false := R.free 1
  have Rc2 : w1.cell? ⟨w.heap.size + 1, 2, none⟩ = some (.int .i64 0) := R.cell 2
  have Rf2 : w1.frozen? ⟨w.heap.size + 1, 2, none⟩ = false := R.free 2
  have Rc3 : w1.cell? ⟨w.heap.size + 1, 3, none⟩ = some (.bool false) := R.cell 3
  have Rf3 : w1.frozen? ⟨w.heap.size + 1, 3, none⟩ = false := R.free 3
  have Rz : w.heap.size + 1 < w1.heap.size := R.lt
  go_wp2
  have hY := ((((R.set 0 (.slice none 0 0)).set 1 (.slice none 0 0)).set 2 (.int .i64 0)).set 3 (.bool false))
  have hB := ((((hB.setCell (p := ⟨w.heap.size + 1, 0, none⟩) (by simp <;> omega) (.slice none 0 0)).setCell (p := ⟨w.heap.size + 1, 1, none⟩) (by simp <;> omega) (.slice none 0 0)).setCell (p := ⟨w.heap.size + 1, 2, none⟩) (by simp <;> omega) (.int .i64 0)).setCell (p := ⟨w.heap.size + 1, 3, none⟩) (by simp <;> omega) (.bool false))
  generalize ((((w1.setCell ⟨w.heap.size + 1, 0, none⟩ (.slice none 0 0)).setCell ⟨w.heap.size + 1, 1, none⟩ (.slice none 0 0)).setCell ⟨w.heap.size + 1, 2, none⟩ (.int .i64 0)).setCell ⟨w.heap.size + 1, 3, none⟩ (.bool false)) = W at hY hB ⊢
  have y0 : W.cell? ⟨w.heap.size + 1, 0, none⟩ = some (.slice none 0 0) := hY.cell 0
  have y1 : W.cell? ⟨w.heap.size + 1, 1, none⟩ = some (.slice none 0 0) := hY.cell 1
  have y2 : W.cell? ⟨w.heap.size + 1, 2, none⟩ = some (.int .i64 0) := hY.cell 2
  have y3 : W.cell? ⟨w.heap.size + 1, 3, none⟩ = some (.bool false) := hY.cell 3
  refine bodyPost_ret (v := .tuple #[.agg #[.slice none 0 0, .slice none 0 0, .int .i64 0, .bool false], .int .i64 1]) (by simp [results, Try.results26, go_sem, y0, y1, y2, y3]) rfl ?_
  exact ⟨_, _, Dk.zero, 1, rfl, hs, dkAt_zero _ _, hB⟩

set_option maxRecDepth 100000 in
set_option maxHeartbeats 4000000 in
theorem dRStop_5 (d : Dk) (As : Option Addr) (ns cs : Nat) (Ap : Option Addr) (np cp : Nat) (dl : Int) (S : Nat → Prop) (w : World) (hD : Hid (DkAt w S (.slice As ns cs) (.slice Ap np cp) d)) (hdl : Hid (d.left = dl)) (hds : Hid (d.stopped = false)) (k : Int) (hc : Hid (d.checkT = 0)) (hk0 : 0 ≤ k) (hk : k ≤ 65536) (hs : Hid (stopT d k = (⟨d.sectors, d.pending, k, d.stopped⟩, 0))) : Calls Try.prog 26 #[.agg #[.slice As ns cs, .slice Ap np cp, .int .i64 dl, .bool false], .int .i64 k] w (RetDk (stopT d k) S w) := by
  have HB0 : Below w.heap.size w ((w.alloc (.cells #[.slice As ns cs, .slice Ap np cp, .int .i64 dl, .bool false] 25)).alloc (.cells #[.slice none 0 0, .slice none 0 0, .int .i64 0, .bool false] 25)) := (((Below.refl w.heap.size w).alloc (by simp <;> omega) (.cells #[.slice As ns cs, .slice Ap np cp, .int .i64 dl, .bool false] 25)).alloc (by simp <;> omega) (.cells #[.slice none 0 0, .slice none 0 0, .int .i64 0, .bool false] 25))
  have HD0 := Lib.hid (hD.out.keep (Keeps.of HB0))
  go_enter Try.func26, Try.ntmps26
  go_wp2_with fail
  refine (dRCheck_at hc HD0.out hdl hds).mono ?_
  rintro e w1 ⟨rfl, hb⟩
  have X0 := (((Box.newAt (n := w.heap.size) [.slice As ns cs, .slice Ap np cp, .int .i64 dl, .bool false] 25 (by simp)).alloc _)).later hb
  have R := ((Box.newAt (n := w.heap.size + 1) [.slice none 0 0, .slice none 0 0, .int .i64 0, .bool false] 25 (by simp))).later hb
  have hB : Below w.heap.size w w1 := ((((Below.refl w.heap.size w).alloc (by simp <;> omega) _).alloc (by simp <;> omega) _)).trans (hb.mono (by simp <;> omega))
  clear hb
  have X0c0 : w1.cell? ⟨w.heap.size, 0, none⟩ = some (.slice As ns cs) := X0.cell 0
  have X0f0 : w1.frozen? ⟨w.heap.size, 0, none⟩ = false := X0.free 0
  have X0c1 : w1.cell? ⟨w.heap.size, 1, none⟩ = some (.slice Ap np cp) := X0.cell 1
  have X0f1 : w1.frozen? ⟨w.heap.size, 1, none⟩ = false := X0.free 1
  have X0c2 : w1.cell? ⟨w.heap.size, 2, none⟩ = some (.int .i64 dl) := X0.cell 2
  have X0f2 : w1.frozen? ⟨w.heap.size, 2, none⟩ = false := X0.free 2
  have X0c3 : w1.cell? ⟨w.heap.size, 3, none⟩ = some (.bool false) := X0.cell 3
  have X0f3 : w1.frozen? ⟨w.heap.size, 3, none⟩ = false := X0.free 3
  have X0z : w.heap.size < w1.heap.size := X0.lt
  have Rc0 : w1.cell? ⟨w.heap.size + 1, 0, none⟩ = some (.slice none 0 0) := R.cell 0
  have Rf0 : w1.frozen? ⟨w.heap.size + 1, 0, none⟩ = false := R.free 0
  have Rc1 : w1.cell? ⟨w.heap.size + 1, 1, none⟩ = some (.slice none 0 0) := R.cell 1
  have Rf1 : w1.frozen? ⟨w.heap.size + 1, 1, none⟩ = false := R.free 1
  have Rc2 : w1.cell? ⟨w.heap.size + 1, 2, none⟩ = some (.int .i64 0) := R.cell 2
  have Rf2 : w1.frozen? ⟨w.heap.size + 1, 2, none⟩ = false := R.free 2
  have Rc3 : w1.cell? ⟨w.heap.size + 1, 3, none⟩ = some (.bool false) := R.cell 3
  have Rf3 : w1.frozen? ⟨w.heap.size + 1, 3, none⟩ = false := R.free 3
  have Rz : w.heap.size + 1 < w1.heap.size := R.lt
  go_wp2
  have hne : w.heap.size + 1 ≠ w.heap.size := by omega
  have ZR := (((((R.other (a := ⟨w.heap.size, 2, none⟩) hne (.int .i64 k)).set 0 (.slice As ns cs)).set 1 (.slice Ap np cp)).set 2 (.int .i64 k)).set 3 (.bool false))
  have HB := (((((hB.setCell (p := ⟨w.heap.size, 2, none⟩) (Nat.le_refl _) (.int .i64 k)).setCell (p := ⟨w.heap.size + 1, 0, none⟩) (Nat.le_succ _) (.slice As ns cs)).setCell (p := ⟨w.heap.size + 1, 1, none⟩) (Nat.le_succ _) (.slice Ap np cp)).setCell (p := ⟨w.heap.size + 1, 2, none⟩) (Nat.le_succ _) (.int .i64 k)).setCell (p := ⟨w.heap.size + 1, 3, none⟩) (Nat.le_succ _) (.bool false))
  generalize (((((w1.setCell ⟨w.heap.size, 2, none⟩ (.int .i64 k)).setCell ⟨w.heap.size + 1, 0, none⟩ (.slice As ns cs)).setCell ⟨w.heap.size + 1, 1, none⟩ (.slice Ap np cp)).setCell ⟨w.heap.size + 1, 2, none⟩ (.int .i64 k)).setCell ⟨w.heap.size + 1, 3, none⟩ (.bool false)) = W at ZR HB ⊢
  have z0 : W.cell? ⟨w.heap.size + 1, 0, none⟩ = some (.slice As ns cs) := ZR.cell 0
  have z1 : W.cell? ⟨w.heap.size + 1, 1, none⟩ = some (.slice Ap np cp) := ZR.cell 1
  have z2 : W.cell? ⟨w.heap.size + 1, 2, none⟩ = some (.int .i64 k) := ZR.cell 2
  have z3 : W.cell? ⟨w.heap.size + 1, 3, none⟩ = some (.bool false) := ZR.cell 3
  refine bodyPost_ret (v := .tuple #[.agg #[.slice As ns cs, .slice Ap np cp, .int .i64 k, .bool false], .int .i64 0]) (by simp [results, Try.results26, go_sem, z0, z1, z2, z3]) rfl ?_
  exact ⟨_, _, _, 0, by rw [Dk.v, hds.out], hs, Lib.hid ((hD.out.keep (Keeps.of HB)).weak (fun b h _ => .inl h) |> fun h => ⟨h.sectors, h.pending⟩), HB⟩

theorem gate_of (d : Dk) : (d.runs = false ∧ d.checkT = 40) ∨ (d.runs = false ∧ d.checkT = 0 ∧ d.stopped = true) ∨ (d.runs = true ∧ d.checkT = 0 ∧ d.stopped = false) := by
  rcases h : d.okB with _ | _
  · exact .inl ⟨by rw [runs_eq, h]; rfl, check_bad h⟩
  · rcases h2 : d.stopped with _ | _
    · exact .inr (.inr ⟨by rw [runs_eq, h, h2]; rfl, check_good h, rfl⟩)
    · exact .inr (.inl ⟨by rw [runs_eq, h, h2]; rfl, check_good h, rfl⟩)
theorem dRStop_any (d : Dk) (Vs Vp : Value) (k : Int) (S : Nat → Prop) (w : World) (hD : DkAt w S Vs Vp d) : Calls Try.prog 26 #[d.v Vs Vp, .int .i64 k] w (RetDk (stopT d k) S w) := by
  obtain ⟨As, cs, rfl, _⟩ := hD.sectors.form
  obtain ⟨Ap, cp, rfl, _⟩ := hD.pending.form
  rcases gate_of d with ⟨hr, hc⟩ | ⟨hr, hc, ht⟩ | ⟨hr, hc, ht⟩
  · exact dRStop_1 d As _ cs Ap _ cp _ _ S w hD rfl rfl k hc (by rw [Hid, stopT, if_neg (by rw [hr]; simp)])
  · have := dRStop_2 d As _ cs Ap _ cp _ S w hD rfl ht k hc (by rw [Hid, stopT, if_neg (by rw [hr]; simp)])
    rw [← ht] at this
    exact this
  · by_cases h1 : k < 0
    · have := dRStop_3 d As _ cs Ap _ cp _ S w hD rfl ht k hc h1 (by rw [Hid, stopT, if_pos hr, if_neg (by omega)])
      rw [← ht] at this
      exact this
    · by_cases h2 : 65536 < k
      · have := dRStop_4 d As _ cs Ap _ cp _ S w hD rfl ht k hc (by omega) h2 (by rw [Hid, stopT, if_pos hr, if_neg (by omega)])
        rw [← ht] at this
        exact this
      · have := dRStop_5 d As _ cs Ap _ cp _ S w hD rfl ht k hc (by omega) (by omega) (by rw [Hid, stopT, if_pos hr, if_pos (by omega)])
        rw [← ht] at this
        exact this

set_option maxRecDepth 100000 in
set_option maxHeartbeats 4000000 in
theorem dRRead_1 (d : Dk) (As : Option Addr) (ns cs : Nat) (Ap : Option Addr) (np cp : Nat) (dl : Int) (ds : Bool) (S : Nat → Prop) (w : World) (hD : Hid (DkAt w S (.slice As ns cs) (.slice Ap np cp) d)) (hdl : Hid (d.left = dl)) (hds : Hid (d.stopped = ds)) (i : Int) (hc : Hid (d.checkT = 40)) (hs : Hid (readT d i = ([], 40))) : Calls Try.prog 22 #[.agg #[.slice As ns cs, .slice Ap np cp, .int .i64 dl, .bool ds], .int .i64 i] w (RetBs (readT d i) S w) := by
  have HB0 : Below w.heap.size w (w.alloc (.cells #[.slice As ns cs, .slice Ap np cp, .int .i64 dl, .bool ds] 25)) := ((Below.refl w.heap.size w).alloc (by simp <;> omega) (.cells #[.slice As ns cs, .slice Ap np cp, .int .i64 dl, .bool ds] 25))
  have HD0 := Lib.hid (hD.out.keep (Keeps.of HB0))
  go_enter Try.func22, Try.ntmps22
  go_wp2_with fail
  refine (dRCheck_at hc HD0.out hdl hds).mono ?_
  rintro e w1 ⟨rfl, hb⟩
  have X0 := ((Box.newAt (n := w.heap.size) [.slice As ns cs, .slice Ap np cp, .int .i64 dl, .bool ds] 25 (by simp))).later hb
  have hB : Below w.heap.size w w1 := (((Below.refl w.heap.size w).alloc (by simp <;> omega) _)).trans (hb.mono (by simp <;> omega))
  clear hb
  have X0c0 : w1.cell? ⟨w.heap.size, 0, none⟩ = some (.slice As ns cs) := X0.cell 0
  have X0f0 : w1.frozen? ⟨w.heap.size, 0, none⟩ = false := X0.free 0
  have X0c1 : w1.cell? ⟨w.heap.size, 1, none⟩ = some (.slice Ap np cp) := X0.cell 1
  have X0f1 : w1.frozen? ⟨w.heap.size, 1, none⟩ = false := X0.free 1
  have X0c2 : w1.cell? ⟨w.heap.size, 2, none⟩ = some (.int .i64 dl) := X0.cell 2
  have X0f2 : w1.frozen? ⟨w.heap.size, 2, none⟩ = false := X0.free 2
  have X0c3 : w1.cell? ⟨w.heap.size, 3, none⟩ = some (.bool ds) := X0.cell 3
  have X0f3 : w1.frozen? ⟨w.heap.size, 3, none⟩ = false := X0.free 3
  have X0z : w.heap.size < w1.heap.size := X0.lt
  go_wp2
  go_ret2
  exact ⟨_, _, _, rfl, hs, bsAt_nil _ _, hB⟩

set_option maxRecDepth 100000 in
set_option maxHeartbeats 4000000 in
theorem dRRead_2 (d : Dk) (As : Option Addr) (ns cs : Nat) (Ap : Option Addr) (np cp : Nat) (dl : Int) (S : Nat → Prop) (w : World) (hD : Hid (DkAt w S (.slice As ns cs) (.slice Ap np cp) d)) (hdl : Hid (d.left = dl)) (hds : Hid (d.stopped = true)) (i : Int) (hc : Hid (d.checkT = 0)) (hs : Hid (readT d i = ([], 40))) : Calls Try.prog 22 #[.agg #[.slice As ns cs, .slice Ap np cp, .int .i64 dl, .bool true], .int .i64 i] w (RetBs (readT d i) S w) := by
  have HB0 : Below w.heap.size w (w.alloc (.cells #[.slice As ns cs, .slice Ap np cp, .int .i64 dl, .bool true] 25)) := ((Below.refl w.heap.size w).alloc (by simp <;> omega) (.cells #[.slice As ns cs, .slice Ap np cp, .int .i64 dl, .bool true] 25))
  have HD0 := Lib.hid (hD.out.keep (Keeps.of HB0))
  go_enter Try.func22, Try.ntmps22
  go_wp2_with fail
  refine (dRCheck_at hc HD0.out hdl hds).mono ?_
  rintro e w1 ⟨rfl, hb⟩
  have X0 := ((Box.newAt (n := w.heap.size) [.slice As ns cs, .slice Ap np cp, .int .i64 dl, .bool true] 25 (by simp))).later hb
  have hB : Below w.heap.size w w1 := (((Below.refl w.heap.size w).alloc (by simp <;> omega) _)).trans (hb.mono (by simp <;> omega))
  clear hb
  have X0c0 : w1.cell? ⟨w.heap.size, 0, none⟩ = some (.slice As ns cs) := X0.cell 0
  have X0f0 : w1.frozen? ⟨w.heap.size, 0, none⟩ = false := X0.free 0
  have X0c1 : w1.cell? ⟨w.heap.size, 1, none⟩ = some (.slice Ap np cp) := X0.cell 1
  have X0f1 : w1.frozen? ⟨w.heap.size, 1, none⟩ = false := X0.free 1
  have X0c2 : w1.cell? ⟨w.heap.size, 2, none⟩ = some (.int .i64 dl) := X0.cell 2
  have X0f2 : w1.frozen? ⟨w.heap.size, 2, none⟩ = false := X0.free 2
  have X0c3 : w1.cell? ⟨w.heap.size, 3, none⟩ = some (.bool true) := X0.cell 3
  have X0f3 : w1.frozen? ⟨w.heap.size, 3, none⟩ = false := X0.free 3
  have X0z : w.heap.size < w1.heap.size := X0.lt
  go_wp2
  go_ret2
  exact ⟨_, _, _, rfl, hs, bsAt_nil _ _, hB⟩

set_option maxRecDepth 100000 in
set_option maxHeartbeats 4000000 in
theorem dRRead_3 (d : Dk) (As : Option Addr) (ns cs : Nat) (Ap : Option Addr) (np cp : Nat) (dl : Int) (S : Nat → Prop) (w : World) (hD : Hid (DkAt w S (.slice As ns cs) (.slice Ap np cp) d)) (hdl : Hid (d.left = dl)) (hds : Hid (d.stopped = false)) (i : Int) (hc : Hid (d.checkT = 0)) (hi : i < 0) (hs : Hid (readT d i = ([], 40))) : Calls Try.prog 22 #[.agg #[.slice As ns cs, .slice Ap np cp, .int .i64 dl, .bool false], .int .i64 i] w (RetBs (readT d i) S w) := by
  have HB0 : Below w.heap.size w (w.alloc (.cells #[.slice As ns cs, .slice Ap np cp, .int .i64 dl, .bool false] 25)) := ((Below.refl w.heap.size w).alloc (by simp <;> omega) (.cells #[.slice As ns cs, .slice Ap np cp, .int .i64 dl, .bool false] 25))
  have HD0 := Lib.hid (hD.out.keep (Keeps.of HB0))
  go_enter Try.func22, Try.ntmps22
  go_wp2_with fail
  refine (dRCheck_at hc HD0.out hdl hds).mono ?_
  rintro e w1 ⟨rfl, hb⟩
  have X0 := ((Box.newAt (n := w.heap.size) [.slice As ns cs, .slice Ap np cp, .int .i64 dl, .bool false] 25 (by simp))).later hb
  have hB : Below w.heap.size w w1 := (((Below.refl w.heap.size w).alloc (by simp <;> omega) _)).trans (hb.mono (by simp <;> omega))
  clear hb
  have X0c0 : w1.cell? ⟨w.heap.size, 0, none⟩ = some (.slice As ns cs) := X0.cell 0
  have X0f0 : w1.frozen? ⟨w.heap.size, 0, none⟩ = false := X0.free 0
  have X0c1 : w1.cell? ⟨w.heap.size, 1, none⟩ = some (.slice Ap np cp) := X0.cell 1
  have X0f1 : w1.frozen? ⟨w.heap.size, 1, none⟩ = false := X0.free 1
  have X0c2 : w1.cell? ⟨w.heap.size, 2, none⟩ = some (.int .i64 dl) := X0.cell 2
  have X0f2 : w1.frozen? ⟨w.heap.size, 2, none⟩ = false := X0.free 2
  have X0c3 : w1.cell? ⟨w.heap.size, 3, none⟩ = some (.bool false) := X0.cell 3
  have X0f3 : w1.frozen? ⟨w.heap.size, 3, none⟩ = false := X0.free 3
  have X0z : w.heap.size < w1.heap.size := X0.lt
  go_wp2
  go_ret2
  exact ⟨_, _, _, rfl, hs, bsAt_nil _ _, hB⟩

set_option maxRecDepth 100000 in
set_option maxHeartbeats 4000000 in
theorem dRRead_4 (d : Dk) (As : Option Addr) (ns cs : Nat) (Ap : Option Addr) (np cp : Nat) (dl : Int) (S : Nat → Prop) (w : World) (hD : Hid (DkAt w S (.slice As ns cs) (.slice Ap np cp) d)) (hdl : Hid (d.left = dl)) (hds : Hid (d.stopped = false)) (i : Int) (hc : Hid (d.checkT = 0)) (hi0 : 0 ≤ i) (hi : (ns : Int) ≤ i) (hs : Hid (readT d i = ([], 40))) : Calls Try.prog 22 #[.agg #[.slice As ns cs, .slice Ap np cp, .int .i64 dl, .bool false], .int .i64 i] w (RetBs (readT d i) S w) := by
  have HB0 : Below w.heap.size w (w.alloc (.cells #[.slice As ns cs, .slice Ap np cp, .int .i64 dl, .bool false] 25)) := ((Below.refl w.heap.size w).alloc (by simp <;> omega) (.cells #[.slice As ns cs, .slice Ap np cp, .int .i64 dl, .bool false] 25))
  have HD0 := Lib.hid (hD.out.keep (Keeps.of HB0))
  go_enter Try.func22, Try.ntmps22
  go_wp2_with fail
  refine (dRCheck_at hc HD0.out hdl hds).mono ?_
  rintro e w1 ⟨rfl, hb⟩
  have X0 := ((Box.newAt (n := w.heap.size) [.slice As ns cs, .slice Ap np cp, .int .i64 dl, .bool false] 25 (by simp))).later hb
  have hB : Below w.heap.size w w1 := (((Below.refl w.heap.size w).alloc (by simp <;> omega) _)).trans (hb.mono (by simp <;> omega))
  clear hb
  have X0c0 : w1.cell? ⟨w.heap.size, 0, none⟩ = some (.slice As ns cs) := X0.cell 0
  have X0f0 : w1.frozen? ⟨w.heap.size, 0, none⟩ = false := X0.free 0
  have X0c1 : w1.cell? ⟨w.heap.size, 1, none⟩ = some (.slice Ap np cp) := X0.cell 1
  have X0f1 : w1.frozen? ⟨w.heap.size, 1, none⟩ = false := X0.free 1
  have X0c2 : w1.cell? ⟨w.heap.size, 2, none⟩ = some (.int .i64 dl) := X0.cell 2
  have X0f2 : w1.frozen? ⟨w.heap.size, 2, none⟩ = false := X0.free 2
  have X0c3 : w1.cell? ⟨w.heap.size, 3, none⟩ = some (.bool false) := X0.cell 3
  have X0f3 : w1.frozen? ⟨w.heap.size, 3, none⟩ = false := X0.free 3
  have X0z : w.heap.size < w1.heap.size := X0.lt
  go_wp2
  go_ret2
  exact ⟨_, _, _, rfl, hs, bsAt_nil _ _, hB⟩

set_option maxRecDepth 100000 in
set_option maxHeartbeats 8000000 in
theorem dRRead_5 (d : Dk) (As : Option Addr) (ns cs : Nat) (Ap : Option Addr) (np cp : Nat) (dl : Int) (S : Nat → Prop) (w : World) (hD : Hid (DkAt w S (.slice As ns cs) (.slice Ap np cp) d)) (hdl : Hid (d.left = dl)) (hds : Hid (d.stopped = false)) (a : Nat) (hc : Hid (d.checkT = 0)) (ha : a < ns) (hns : Hid (d.sectors.length = ns)) (hnp : Hid (d.pending.length = np)) (hnp4 : np ≤ 4096) (hs : Hid (readT d a = (lastW d.pending a (d.sectors.getD a []), 0))) : Calls Try.prog 22 #[.agg #[.slice As ns cs, .slice Ap np cp, .int .i64 dl, .bool false], .int .i64 a] w (RetBs (readT d a) S w) := by
  have HB0 : Below w.heap.size w (w.alloc (.cells #[.slice As ns cs, .slice Ap np cp, .int .i64 dl, .bool false] 25)) := ((Below.refl w.heap.size w).alloc (by simp <;> omega) (.cells #[.slice As ns cs, .slice Ap np cp, .int .i64 dl, .bool false] 25))
  have HD0 := Lib.hid (hD.out.keep (Keeps.of HB0))
  have hal : a < d.sectors.length := by rw [hns.out]; exact ha
  obtain ⟨rb, ro, V, rfl, hSr, hrb, hrc, hV⟩ := hD.out.sectors.row hal
  have eg : d.sectors.getD a [] = d.sectors[a] := by rw [List.getD_eq_getElem?_getD, List.getElem?_eq_getElem hal]; rfl
  rw [← eg] at hV
  obtain ⟨Av, cv, rfl, _⟩ := hV.form
  obtain ⟨s0, hs0⟩ : ∃ s0, d.sectors.getD a [] = s0 := ⟨_, rfl⟩
  rw [hs0] at hV hrc hs
  obtain ⟨nv, hnv⟩ : ∃ nv, s0.length = nv := ⟨_, rfl⟩
  rw [hnv] at hrc hV
  have HV := Lib.hid hV
  have a0 : (0 : Int) ≤ (a : Int) := by omega
  have a1 : (a : Int) < (ns : Int) := by omega
  clear hSr eg hs0 hnv hV hal
  go_enter Try.func22, Try.ntmps22
  go_wp2_with fail
  refine (dRCheck_at hc HD0.out hdl hds).mono ?_
  rintro e w1 ⟨rfl, hb⟩
  have X0 := ((Box.newAt (n := w.heap.size) [.slice (some ⟨rb, ro, none⟩) ns cs, .slice Ap np cp, .int .i64 dl, .bool false] 25 (by simp))).later hb
  have hB : Below w.heap.size w w1 := (((Below.refl w.heap.size w).alloc (by simp <;> omega) _)).trans (hb.mono (by simp <;> omega))
  clear hb
  have q0 := (hB.cell hrb).trans hrc
  have hrW := Nat.lt_of_lt_of_le hrb hB.size
  have X0c0 : w1.cell? ⟨w.heap.size, 0, none⟩ = some (.slice (some ⟨rb, ro, none⟩) ns cs) := X0.cell 0
  have X0f0 : w1.frozen? ⟨w.heap.size, 0, none⟩ = false := X0.free 0
  have X0c1 : w1.cell? ⟨w.heap.size, 1, none⟩ = some (.slice Ap np cp) := X0.cell 1
  have X0f1 : w1.frozen? ⟨w.heap.size, 1, none⟩ = false := X0.free 1
  have X0c2 : w1.cell? ⟨w.heap.size, 2, none⟩ = some (.int .i64 dl) := X0.cell 2
  have X0f2 : w1.frozen? ⟨w.heap.size, 2, none⟩ = false := X0.free 2
  have X0c3 : w1.cell? ⟨w.heap.size, 3, none⟩ = some (.bool false) := X0.cell 3
  have X0f3 : w1.frozen? ⟨w.heap.size, 3, none⟩ = false := X0.free 3
  have X0z : w.heap.size < w1.heap.size := X0.lt
  go_wp2
  clear X0c0 X0f0 X0c1 X0f1 X0c2 X0f2 X0c3 X0f3 X0z q0 hrc
  have HV1 := Lib.hid (HV.out.old.keep (Keeps.of hB))
  go_loopw [6, 7] (fun v i wr => ∃ (k : Nat) (b : Bs) (Ab : Option Addr) (nb cb : Nat), k ≤ np ∧ i = .int .i64 k ∧ v = .slice Ab nb cb ∧ Hid (BsAt wr (Old S w) (.slice Ab nb cb) b) ∧ Hid (b = lastW (d.pending.take k) a s0) ∧ Below w1.heap.size w1 wr) (fun _ i _ => np - (intOf i).toNat)
  case atStart => exact ⟨0, s0, Av, nv, cv, by omega, rfl, rfl, HV1, rfl, Below.refl _ _⟩
  case round =>
    obtain ⟨k, b, Ab, nb, cb, hk, rfl, rfl, hb1, hb2, hb⟩ := hrel
    have X0' := X0.later hb
    have x1 : wr.cell? ⟨w.heap.size, 1, none⟩ = some (.slice Ap np cp) := X0'.cell 1
    have xz := X0'.lt
    by_cases hlt : k < np
    · have hkl : k < d.pending.length := by rw [hnp.out]; exact hlt
      obtain ⟨pb, po, U, rfl, hSp, hpb, q0, q1, hU⟩ := hD.out.old.pending.wr hkl
      have hBr := hB.trans (hb.mono hB.size)
      have q0 := (hBr.cell hpb).trans q0
      have q1 := (hBr.cell hpb).trans q1
      have hU := hU.keep (Keeps.of hBr)
      have hls : Hid (lastW (d.pending.take (k + 1)) a s0 = if (d.pending[k]).at' = a then (d.pending[k]).data else lastW (d.pending.take k) a s0) := by rw [Hid, List.take_succ_eq_append_getElem hkl, lastW_snoc]
      obtain ⟨⟨xa, xd⟩, hx⟩ : ∃ x, d.pending[k] = x := ⟨_, rfl⟩
      rw [hx] at q0 hU hls
      dsimp only at q0 hU hls
      obtain ⟨Au, cu, rfl, _⟩ := hU.form
      obtain ⟨nu, hnu⟩ : ∃ nu, xd.length = nu := ⟨_, rfl⟩
      rw [hnu] at q1 hU
      have HU := Lib.hid hU
      have i0 : (0 : Int) ≤ (k : Int) := by omega
      have i1 : (k : Int) < (np : Int) := by omega
      have hpW := Nat.lt_of_lt_of_le hpb hBr.size
      clear hx hU hnu hSp
      by_cases hm : xa = (a : Int)
      · have hm' : (xa == (a : Int)) = true := by simpa using hm
        have hb2' : Hid (xd = lastW (d.pending.take (k + 1)) a s0) := by rw [Hid, hls.out, if_pos hm]
        clear hm
        go_wp2
        exact ⟨⟨k + 1, xd, Au, nu, cu, by omega, by go_num, rfl, HU, hb2', hb⟩, by simp [intOf]; omega⟩
      · have hm' : (xa == (a : Int)) = false := by simpa using hm
        have hb2' : Hid (b = lastW (d.pending.take (k + 1)) a s0) := by rw [Hid, hls.out, if_neg hm]; exact hb2
        clear hm
        go_wp2
        exact ⟨⟨k + 1, b, Ab, nb, cb, by omega, by go_num, rfl, hb1, hb2', hb⟩, by simp [intOf]; omega⟩
    · obtain rfl : np = k := by omega
      have hf : Hid (b = lastW d.pending a s0) := by
        have := hb2.out
        rw [← hnp.out, List.take_length] at this
        exact this
      have hBr := hB.trans (hb.mono hB.size)
      have hs2 : Hid (readT d a = (b, 0)) := by rw [Hid, hs.out, hf.out]
      clear hf hb2 hs
      go_wp2
      go_ret2
      exact ⟨_, _, _, rfl, hs2, Lib.hid (hb1.out.weak fun b h _ => .inl h.1), hBr⟩

theorem dRRead_any (d : Dk) (Vs Vp : Value) (i : Int) (S : Nat → Prop) (w : World) (hD : DkAt w S Vs Vp d) : Calls Try.prog 22 #[d.v Vs Vp, .int .i64 i] w (RetBs (readT d i) S w) := by
  obtain ⟨As, cs, rfl, _⟩ := hD.sectors.form
  obtain ⟨Ap, cp, rfl, _⟩ := hD.pending.form
  rcases gate_of d with ⟨hr, hc⟩ | ⟨hr, hc, ht⟩ | ⟨hr, hc, ht⟩
  · exact dRRead_1 d As _ cs Ap _ cp _ _ S w hD rfl rfl i hc (by rw [Hid, readT, if_neg (by rw [hr]; simp)])
  · have := dRRead_2 d As _ cs Ap _ cp _ S w hD rfl ht i hc (by rw [Hid, readT, if_neg (by rw [hr]; simp)])
    rw [← ht] at this
    exact this
  · rcases hh : d.hasB i with _ | _
    · have hs : Hid (readT d i = ([], 40)) := by rw [Hid, readT, if_neg (by rw [hh]; simp)]
      by_cases h1 : i < 0
      · have := dRRead_3 d As _ cs Ap _ cp _ S w hD rfl ht i hc h1 hs
        rw [← ht] at this
        exact this
      · have h2 : (d.sectors.length : Int) ≤ i := by
          rw [Dk.hasB, decide_eq_true (show 0 ≤ i by omega), Bool.true_and] at hh
          have := of_decide_eq_false hh
          omega
        have := dRRead_4 d As _ cs Ap _ cp _ S w hD rfl ht i hc (by omega) h2 hs
        rw [← ht] at this
        exact this
    · obtain ⟨h1, h2⟩ := hasB_in hh
      obtain ⟨a, rfl⟩ : ∃ a : Nat, i = a := ⟨i.toNat, by omega⟩
      have := dRRead_5 d As _ cs Ap _ cp _ S w hD rfl ht a hc (by omega) rfl rfl (okB_parts (runs_ok hr).1).2.2.1 (by rw [Hid, readT, if_pos ⟨hr, hh⟩]; rfl)
      rw [← ht] at this
      exact this


end Go.Proofs.Ytdmeogkdoeaemaa
