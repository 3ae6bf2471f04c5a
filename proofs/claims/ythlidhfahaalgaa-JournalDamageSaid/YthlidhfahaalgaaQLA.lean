/-
  Sync of chapter 5, of both: the ways that fail early. (Printed by gen_la.py.)
-/
import Derived.Test.YthlidhfahaalgaaQJY
import Derived.Test.YthlidhfahaalgaaQDZ
import Derived.Deep.CutBlock
namespace Go.Proofs.Ythlidhfahaalgaa
open Go.RowKit
attribute [local go_sem ↓ high] app_named cop_named

set_option maxRecDepth 100000 in
set_option maxHeartbeats 16000000 in
theorem jSync_1 (l : Jn) (A : Option Addr) (n c : Nat) (many sync : Int) (d : Dk) (As : Option Addr) (ns cs : Nat) (Ap : Option Addr) (np cp : Nat) (dl : Int) (ds : Bool) (S : Nat → Prop) (w : World) (h : Hid (RwAt w S (.slice A n c) l.records)) (hn : Hid (l.records.length = n)) (hm : Hid (l.many = many)) (hy : Hid (l.synced = sync)) (hs : Hid (sumB l.records ≤ 4194304)) (_hD : Hid (DkAt w S (.slice As ns cs) (.slice Ap np cp) d)) (_hdl : Hid (d.left = dl)) (_hds : Hid (d.stopped = ds)) (_hns : Hid (d.sectors.length = ns)) (_hnp : Hid (d.pending.length = np)) (hT : Hid (syncJ l d = (Jn.zero, Dk.zero, 1))) (hc : Hid (l.checkT = 1)) : Calls Try.prog 21 #[.agg #[.slice A n c, .int .i64 many, .int .i64 sync], .agg #[.slice As ns cs, .slice Ap np cp, .int .i64 dl, .bool ds]] w (RetJD (syncJ l d) S w) := by
  have HB0 := ((((Below.refl w.heap.size w).alloc (Nat.le_refl _) (.cells #[.slice A n c, .int .i64 many, .int .i64 sync] 29)).alloc (by simp) (.cells #[.slice As ns cs, .slice Ap np cp, .int .i64 dl, .bool ds] 25)).alloc (by simp; omega) (.cells #[.slice none 0 0, .int .i64 0, .int .i64 0] 29)).alloc (by simp; omega) (.cells #[.slice none 0 0, .slice none 0 0, .int .i64 0, .bool false] 25)
  have HC := jCheck_any l A n c many sync S ((((w.alloc (.cells #[.slice A n c, .int .i64 many, .int .i64 sync] 29)).alloc (.cells #[.slice As ns cs, .slice Ap np cp, .int .i64 dl, .bool ds] 25)).alloc (.cells #[.slice none 0 0, .int .i64 0, .int .i64 0] 29)).alloc (.cells #[.slice none 0 0, .slice none 0 0, .int .i64 0, .bool false] 25)) (Lib.hid (h.out.keep (Keeps.of HB0))) hn hm hy hs
  rw [hc.out] at HC
  go_enter Try.func21, Try.ntmps21
  go_wp2_with fail
  refine HC.mono ?_
  rintro e w1 ⟨rfl, hb1⟩
  have XJ := ((((Box.new w [.slice A n c, .int .i64 many, .int .i64 sync] 29).alloc (.cells #[.slice As ns cs, .slice Ap np cp, .int .i64 dl, .bool ds] 25)).alloc (.cells #[.slice none 0 0, .int .i64 0, .int .i64 0] 29)).alloc (.cells #[.slice none 0 0, .slice none 0 0, .int .i64 0, .bool false] 25)).later hb1
  have XD := (((Box.newAt (w := w.alloc (.cells #[.slice A n c, .int .i64 many, .int .i64 sync] 29)) (n := w.heap.size + 1) [.slice As ns cs, .slice Ap np cp, .int .i64 dl, .bool ds] 25 (by simp)).alloc (.cells #[.slice none 0 0, .int .i64 0, .int .i64 0] 29)).alloc (.cells #[.slice none 0 0, .slice none 0 0, .int .i64 0, .bool false] 25)).later hb1
  have RJ := ((Box.newAt (w := (w.alloc (.cells #[.slice A n c, .int .i64 many, .int .i64 sync] 29)).alloc (.cells #[.slice As ns cs, .slice Ap np cp, .int .i64 dl, .bool ds] 25)) (n := w.heap.size + 2) [.slice none 0 0, .int .i64 0, .int .i64 0] 29 (by simp)).alloc (.cells #[.slice none 0 0, .slice none 0 0, .int .i64 0, .bool false] 25)).later hb1
  have RD := (Box.newAt (w := ((w.alloc (.cells #[.slice A n c, .int .i64 many, .int .i64 sync] 29)).alloc (.cells #[.slice As ns cs, .slice Ap np cp, .int .i64 dl, .bool ds] 25)).alloc (.cells #[.slice none 0 0, .int .i64 0, .int .i64 0] 29)) (n := w.heap.size + 3) [.slice none 0 0, .slice none 0 0, .int .i64 0, .bool false] 25 (by simp)).later hb1
  have hB := HB0.trans (hb1.mono HB0.size)
  clear hb1 HB0 HC
  have x0 : w1.cell? ⟨w.heap.size, 0, none⟩ = some (.slice A n c) := XJ.cell 0
  have x1 : w1.cell? ⟨w.heap.size, 1, none⟩ = some (.int .i64 many) := XJ.cell 1
  have x2 : w1.cell? ⟨w.heap.size, 2, none⟩ = some (.int .i64 sync) := XJ.cell 2
  have xz := XJ.lt
  have d0 : w1.cell? ⟨w.heap.size + 1, 0, none⟩ = some (.slice As ns cs) := XD.cell 0
  have d1 : w1.cell? ⟨w.heap.size + 1, 1, none⟩ = some (.slice Ap np cp) := XD.cell 1
  have d2 : w1.cell? ⟨w.heap.size + 1, 2, none⟩ = some (.int .i64 dl) := XD.cell 2
  have d3 : w1.cell? ⟨w.heap.size + 1, 3, none⟩ = some (.bool ds) := XD.cell 3
  have dz := XD.lt
  have r0 : w1.cell? ⟨w.heap.size + 2, 0, none⟩ = some (.slice none 0 0) := RJ.cell 0
  have r1 : w1.cell? ⟨w.heap.size + 2, 1, none⟩ = some (.int .i64 0) := RJ.cell 1
  have r2 : w1.cell? ⟨w.heap.size + 2, 2, none⟩ = some (.int .i64 0) := RJ.cell 2
  have f0 := RJ.free 0
  have f1 := RJ.free 1
  have f2 := RJ.free 2
  have rz := RJ.lt
  have s0 : w1.cell? ⟨w.heap.size + 3, 0, none⟩ = some (.slice none 0 0) := RD.cell 0
  have s1 : w1.cell? ⟨w.heap.size + 3, 1, none⟩ = some (.slice none 0 0) := RD.cell 1
  have s2 : w1.cell? ⟨w.heap.size + 3, 2, none⟩ = some (.int .i64 0) := RD.cell 2
  have s3 : w1.cell? ⟨w.heap.size + 3, 3, none⟩ = some (.bool false) := RD.cell 3
  have g0 := RD.free 0
  have g1 := RD.free 1
  have g2 := RD.free 2
  have g3 := RD.free 3
  have sz := RD.lt
  clear XJ XD
  go_wp2
  clear x0 x1 x2 xz d0 d1 d2 d3 dz r0 r1 r2 f0 f1 f2 rz s0 s1 s2 s3 g0 g1 g2 g3 sz
  have RJ := (((((((RJ).set 0 (.slice none 0 0)).set 1 (.int .i64 0)).set 2 (.int .i64 0)).other (a := ⟨w.heap.size + 3, 0, none⟩) (by simp) (.slice none 0 0)).other (a := ⟨w.heap.size + 3, 1, none⟩) (by simp) (.slice none 0 0)).other (a := ⟨w.heap.size + 3, 2, none⟩) (by simp) (.int .i64 0)).other (a := ⟨w.heap.size + 3, 3, none⟩) (by simp) (.bool false)
  have RD := (((((((RD).other (a := ⟨w.heap.size + 2, 0, none⟩) (by simp) (.slice none 0 0)).other (a := ⟨w.heap.size + 2, 1, none⟩) (by simp) (.int .i64 0)).other (a := ⟨w.heap.size + 2, 2, none⟩) (by simp) (.int .i64 0)).set 0 (.slice none 0 0)).set 1 (.slice none 0 0)).set 2 (.int .i64 0)).set 3 (.bool false)
  have hB := (((((((hB).setCell (p := ⟨w.heap.size + 2, 0, none⟩) (by simp) (.slice none 0 0)).setCell (p := ⟨w.heap.size + 2, 1, none⟩) (by simp) (.int .i64 0)).setCell (p := ⟨w.heap.size + 2, 2, none⟩) (by simp) (.int .i64 0)).setCell (p := ⟨w.heap.size + 3, 0, none⟩) (by simp) (.slice none 0 0)).setCell (p := ⟨w.heap.size + 3, 1, none⟩) (by simp) (.slice none 0 0)).setCell (p := ⟨w.heap.size + 3, 2, none⟩) (by simp) (.int .i64 0)).setCell (p := ⟨w.heap.size + 3, 3, none⟩) (by simp) (.bool false)
  generalize (((((((w1).setCell ⟨w.heap.size + 2, 0, none⟩ (.slice none 0 0)).setCell ⟨w.heap.size + 2, 1, none⟩ (.int .i64 0)).setCell ⟨w.heap.size + 2, 2, none⟩ (.int .i64 0)).setCell ⟨w.heap.size + 3, 0, none⟩ (.slice none 0 0)).setCell ⟨w.heap.size + 3, 1, none⟩ (.slice none 0 0)).setCell ⟨w.heap.size + 3, 2, none⟩ (.int .i64 0)).setCell ⟨w.heap.size + 3, 3, none⟩ (.bool false) = W at RJ RD hB ⊢
  have y0 : W.cell? ⟨w.heap.size + 2, 0, none⟩ = some (.slice none 0 0) := RJ.cell 0
  have y1 : W.cell? ⟨w.heap.size + 2, 1, none⟩ = some (.int .i64 0) := RJ.cell 1
  have y2 : W.cell? ⟨w.heap.size + 2, 2, none⟩ = some (.int .i64 0) := RJ.cell 2
  have z0 : W.cell? ⟨w.heap.size + 3, 0, none⟩ = some (.slice none 0 0) := RD.cell 0
  have z1 : W.cell? ⟨w.heap.size + 3, 1, none⟩ = some (.slice none 0 0) := RD.cell 1
  have z2 : W.cell? ⟨w.heap.size + 3, 2, none⟩ = some (.int .i64 0) := RD.cell 2
  have z3 : W.cell? ⟨w.heap.size + 3, 3, none⟩ = some (.bool false) := RD.cell 3
  refine bodyPost_ret (v := .tuple #[.agg #[.slice none 0 0, .int .i64 0, .int .i64 0], .agg #[.slice none 0 0, .slice none 0 0, .int .i64 0, .bool false], .int .i64 1]) (by simp [results, Try.results21, go_sem, y0, y1, y2, z0, z1, z2, z3]) rfl ?_
  exact ⟨none, 0, 0, Jn.zero, .slice none 0 0, .slice none 0 0, Dk.zero, 1, rfl, hT, rfl, Lib.hid (rwAt_nil _ _), dkAt_zero _ _, hB⟩
set_option maxRecDepth 100000 in
set_option maxHeartbeats 16000000 in
theorem jSync_2 (l : Jn) (A : Option Addr) (n c : Nat) (many sync : Int) (d : Dk) (As : Option Addr) (ns cs : Nat) (Ap : Option Addr) (np cp : Nat) (dl : Int) (ds : Bool) (S : Nat → Prop) (w : World) (h : Hid (RwAt w S (.slice A n c) l.records)) (hn : Hid (l.records.length = n)) (hm : Hid (l.many = many)) (hy : Hid (l.synced = sync)) (hs : Hid (sumB l.records ≤ 4194304)) (hD : Hid (DkAt w S (.slice As ns cs) (.slice Ap np cp) d)) (hdl : Hid (d.left = dl)) (hds : Hid (d.stopped = ds)) (_hns : Hid (d.sectors.length = ns)) (_hnp : Hid (d.pending.length = np)) (hc : Hid (l.checkT = 0)) (er : Int) (hT : Hid (syncJ l d = (Jn.zero, Dk.zero, er))) (hcd : Hid (d.checkT = er)) (he : er ≠ 0) : Calls Try.prog 21 #[.agg #[.slice A n c, .int .i64 many, .int .i64 sync], .agg #[.slice As ns cs, .slice Ap np cp, .int .i64 dl, .bool ds]] w (RetJD (syncJ l d) S w) := by
  have HB0 := ((((Below.refl w.heap.size w).alloc (Nat.le_refl _) (.cells #[.slice A n c, .int .i64 many, .int .i64 sync] 29)).alloc (by simp) (.cells #[.slice As ns cs, .slice Ap np cp, .int .i64 dl, .bool ds] 25)).alloc (by simp; omega) (.cells #[.slice none 0 0, .int .i64 0, .int .i64 0] 29)).alloc (by simp; omega) (.cells #[.slice none 0 0, .slice none 0 0, .int .i64 0, .bool false] 25)
  have HC := jCheck_any l A n c many sync S ((((w.alloc (.cells #[.slice A n c, .int .i64 many, .int .i64 sync] 29)).alloc (.cells #[.slice As ns cs, .slice Ap np cp, .int .i64 dl, .bool ds] 25)).alloc (.cells #[.slice none 0 0, .int .i64 0, .int .i64 0] 29)).alloc (.cells #[.slice none 0 0, .slice none 0 0, .int .i64 0, .bool false] 25)) (Lib.hid (h.out.keep (Keeps.of HB0))) hn hm hy hs
  rw [hc.out] at HC
  go_enter Try.func21, Try.ntmps21
  go_wp2_with fail
  refine HC.mono ?_
  rintro e w1 ⟨rfl, hb1⟩
  have XJ := ((((Box.new w [.slice A n c, .int .i64 many, .int .i64 sync] 29).alloc (.cells #[.slice As ns cs, .slice Ap np cp, .int .i64 dl, .bool ds] 25)).alloc (.cells #[.slice none 0 0, .int .i64 0, .int .i64 0] 29)).alloc (.cells #[.slice none 0 0, .slice none 0 0, .int .i64 0, .bool false] 25)).later hb1
  have XD := (((Box.newAt (w := w.alloc (.cells #[.slice A n c, .int .i64 many, .int .i64 sync] 29)) (n := w.heap.size + 1) [.slice As ns cs, .slice Ap np cp, .int .i64 dl, .bool ds] 25 (by simp)).alloc (.cells #[.slice none 0 0, .int .i64 0, .int .i64 0] 29)).alloc (.cells #[.slice none 0 0, .slice none 0 0, .int .i64 0, .bool false] 25)).later hb1
  have RJ := ((Box.newAt (w := (w.alloc (.cells #[.slice A n c, .int .i64 many, .int .i64 sync] 29)).alloc (.cells #[.slice As ns cs, .slice Ap np cp, .int .i64 dl, .bool ds] 25)) (n := w.heap.size + 2) [.slice none 0 0, .int .i64 0, .int .i64 0] 29 (by simp)).alloc (.cells #[.slice none 0 0, .slice none 0 0, .int .i64 0, .bool false] 25)).later hb1
  have RD := (Box.newAt (w := ((w.alloc (.cells #[.slice A n c, .int .i64 many, .int .i64 sync] 29)).alloc (.cells #[.slice As ns cs, .slice Ap np cp, .int .i64 dl, .bool ds] 25)).alloc (.cells #[.slice none 0 0, .int .i64 0, .int .i64 0] 29)) (n := w.heap.size + 3) [.slice none 0 0, .slice none 0 0, .int .i64 0, .bool false] 25 (by simp)).later hb1
  have hB := HB0.trans (hb1.mono HB0.size)
  clear hb1 HB0 HC
  have x0 : w1.cell? ⟨w.heap.size, 0, none⟩ = some (.slice A n c) := XJ.cell 0
  have x1 : w1.cell? ⟨w.heap.size, 1, none⟩ = some (.int .i64 many) := XJ.cell 1
  have x2 : w1.cell? ⟨w.heap.size, 2, none⟩ = some (.int .i64 sync) := XJ.cell 2
  have xz := XJ.lt
  have d0 : w1.cell? ⟨w.heap.size + 1, 0, none⟩ = some (.slice As ns cs) := XD.cell 0
  have d1 : w1.cell? ⟨w.heap.size + 1, 1, none⟩ = some (.slice Ap np cp) := XD.cell 1
  have d2 : w1.cell? ⟨w.heap.size + 1, 2, none⟩ = some (.int .i64 dl) := XD.cell 2
  have d3 : w1.cell? ⟨w.heap.size + 1, 3, none⟩ = some (.bool ds) := XD.cell 3
  have dz := XD.lt
  have r0 : w1.cell? ⟨w.heap.size + 2, 0, none⟩ = some (.slice none 0 0) := RJ.cell 0
  have r1 : w1.cell? ⟨w.heap.size + 2, 1, none⟩ = some (.int .i64 0) := RJ.cell 1
  have r2 : w1.cell? ⟨w.heap.size + 2, 2, none⟩ = some (.int .i64 0) := RJ.cell 2
  have f0 := RJ.free 0
  have f1 := RJ.free 1
  have f2 := RJ.free 2
  have rz := RJ.lt
  have s0 : w1.cell? ⟨w.heap.size + 3, 0, none⟩ = some (.slice none 0 0) := RD.cell 0
  have s1 : w1.cell? ⟨w.heap.size + 3, 1, none⟩ = some (.slice none 0 0) := RD.cell 1
  have s2 : w1.cell? ⟨w.heap.size + 3, 2, none⟩ = some (.int .i64 0) := RD.cell 2
  have s3 : w1.cell? ⟨w.heap.size + 3, 3, none⟩ = some (.bool false) := RD.cell 3
  have g0 := RD.free 0
  have g1 := RD.free 1
  have g2 := RD.free 2
  have g3 := RD.free 3
  have sz := RD.lt
  have HDC := dCheck_at hcd (hD.out.keep (Keeps.of hB)) hdl.out hds.out
  go_wp2_with fail
  refine HDC.mono ?_
  rintro e w2 ⟨rfl, hb2⟩
  have XJ := XJ.later hb2
  have XD := XD.later hb2
  have RJ := RJ.later hb2
  have RD := RD.later hb2
  have hB := hB.trans (hb2.mono hB.size)
  clear hb2 HDC
  clear x0 x1 x2 xz d0 d1 d2 d3 dz r0 r1 r2 f0 f1 f2 rz s0 s1 s2 s3 g0 g1 g2 g3 sz
  have x0 : w2.cell? ⟨w.heap.size, 0, none⟩ = some (.slice A n c) := XJ.cell 0
  have x1 : w2.cell? ⟨w.heap.size, 1, none⟩ = some (.int .i64 many) := XJ.cell 1
  have x2 : w2.cell? ⟨w.heap.size, 2, none⟩ = some (.int .i64 sync) := XJ.cell 2
  have xz := XJ.lt
  have d0 : w2.cell? ⟨w.heap.size + 1, 0, none⟩ = some (.slice As ns cs) := XD.cell 0
  have d1 : w2.cell? ⟨w.heap.size + 1, 1, none⟩ = some (.slice Ap np cp) := XD.cell 1
  have d2 : w2.cell? ⟨w.heap.size + 1, 2, none⟩ = some (.int .i64 dl) := XD.cell 2
  have d3 : w2.cell? ⟨w.heap.size + 1, 3, none⟩ = some (.bool ds) := XD.cell 3
  have dz := XD.lt
  have r0 : w2.cell? ⟨w.heap.size + 2, 0, none⟩ = some (.slice none 0 0) := RJ.cell 0
  have r1 : w2.cell? ⟨w.heap.size + 2, 1, none⟩ = some (.int .i64 0) := RJ.cell 1
  have r2 : w2.cell? ⟨w.heap.size + 2, 2, none⟩ = some (.int .i64 0) := RJ.cell 2
  have f0 := RJ.free 0
  have f1 := RJ.free 1
  have f2 := RJ.free 2
  have rz := RJ.lt
  have s0 : w2.cell? ⟨w.heap.size + 3, 0, none⟩ = some (.slice none 0 0) := RD.cell 0
  have s1 : w2.cell? ⟨w.heap.size + 3, 1, none⟩ = some (.slice none 0 0) := RD.cell 1
  have s2 : w2.cell? ⟨w.heap.size + 3, 2, none⟩ = some (.int .i64 0) := RD.cell 2
  have s3 : w2.cell? ⟨w.heap.size + 3, 3, none⟩ = some (.bool false) := RD.cell 3
  have g0 := RD.free 0
  have g1 := RD.free 1
  have g2 := RD.free 2
  have g3 := RD.free 3
  have sz := RD.lt
  have e1 : (er != 0) = true := by simp [he]
  have e2 : (er == 0) = false := by simp [he]
  clear XJ XD he
  go_wp2
  clear x0 x1 x2 xz d0 d1 d2 d3 dz r0 r1 r2 f0 f1 f2 rz s0 s1 s2 s3 g0 g1 g2 g3 sz
  have RJ := (((((((RJ).set 0 (.slice none 0 0)).set 1 (.int .i64 0)).set 2 (.int .i64 0)).other (a := ⟨w.heap.size + 3, 0, none⟩) (by simp) (.slice none 0 0)).other (a := ⟨w.heap.size + 3, 1, none⟩) (by simp) (.slice none 0 0)).other (a := ⟨w.heap.size + 3, 2, none⟩) (by simp) (.int .i64 0)).other (a := ⟨w.heap.size + 3, 3, none⟩) (by simp) (.bool false)
  have RD := (((((((RD).other (a := ⟨w.heap.size + 2, 0, none⟩) (by simp) (.slice none 0 0)).other (a := ⟨w.heap.size + 2, 1, none⟩) (by simp) (.int .i64 0)).other (a := ⟨w.heap.size + 2, 2, none⟩) (by simp) (.int .i64 0)).set 0 (.slice none 0 0)).set 1 (.slice none 0 0)).set 2 (.int .i64 0)).set 3 (.bool false)
  have hB := (((((((hB).setCell (p := ⟨w.heap.size + 2, 0, none⟩) (by simp) (.slice none 0 0)).setCell (p := ⟨w.heap.size + 2, 1, none⟩) (by simp) (.int .i64 0)).setCell (p := ⟨w.heap.size + 2, 2, none⟩) (by simp) (.int .i64 0)).setCell (p := ⟨w.heap.size + 3, 0, none⟩) (by simp) (.slice none 0 0)).setCell (p := ⟨w.heap.size + 3, 1, none⟩) (by simp) (.slice none 0 0)).setCell (p := ⟨w.heap.size + 3, 2, none⟩) (by simp) (.int .i64 0)).setCell (p := ⟨w.heap.size + 3, 3, none⟩) (by simp) (.bool false)
  generalize (((((((w2).setCell ⟨w.heap.size + 2, 0, none⟩ (.slice none 0 0)).setCell ⟨w.heap.size + 2, 1, none⟩ (.int .i64 0)).setCell ⟨w.heap.size + 2, 2, none⟩ (.int .i64 0)).setCell ⟨w.heap.size + 3, 0, none⟩ (.slice none 0 0)).setCell ⟨w.heap.size + 3, 1, none⟩ (.slice none 0 0)).setCell ⟨w.heap.size + 3, 2, none⟩ (.int .i64 0)).setCell ⟨w.heap.size + 3, 3, none⟩ (.bool false) = W at RJ RD hB ⊢
  have y0 : W.cell? ⟨w.heap.size + 2, 0, none⟩ = some (.slice none 0 0) := RJ.cell 0
  have y1 : W.cell? ⟨w.heap.size + 2, 1, none⟩ = some (.int .i64 0) := RJ.cell 1
  have y2 : W.cell? ⟨w.heap.size + 2, 2, none⟩ = some (.int .i64 0) := RJ.cell 2
  have z0 : W.cell? ⟨w.heap.size + 3, 0, none⟩ = some (.slice none 0 0) := RD.cell 0
  have z1 : W.cell? ⟨w.heap.size + 3, 1, none⟩ = some (.slice none 0 0) := RD.cell 1
  have z2 : W.cell? ⟨w.heap.size + 3, 2, none⟩ = some (.int .i64 0) := RD.cell 2
  have z3 : W.cell? ⟨w.heap.size + 3, 3, none⟩ = some (.bool false) := RD.cell 3
  refine bodyPost_ret (v := .tuple #[.agg #[.slice none 0 0, .int .i64 0, .int .i64 0], .agg #[.slice none 0 0, .slice none 0 0, .int .i64 0, .bool false], .int .i64 er]) (by simp [results, Try.results21, go_sem, y0, y1, y2, z0, z1, z2, z3]) rfl ?_
  exact ⟨none, 0, 0, Jn.zero, .slice none 0 0, .slice none 0 0, Dk.zero, er, rfl, hT, rfl, Lib.hid (rwAt_nil _ _), dkAt_zero _ _, hB⟩
set_option maxRecDepth 100000 in
set_option maxHeartbeats 16000000 in
theorem jSync_3 (l : Jn) (A : Option Addr) (n c : Nat) (many sync : Int) (d : Dk) (As : Option Addr) (ns cs : Nat) (Ap : Option Addr) (np cp : Nat) (dl : Int) (ds : Bool) (S : Nat → Prop) (w : World) (h : Hid (RwAt w S (.slice A n c) l.records)) (hn : Hid (l.records.length = n)) (hm : Hid (l.many = many)) (hy : Hid (l.synced = sync)) (hs : Hid (sumB l.records ≤ 4194304)) (hD : Hid (DkAt w S (.slice As ns cs) (.slice Ap np cp) d)) (hdl : Hid (d.left = dl)) (hds : Hid (d.stopped = ds)) (_hns : Hid (d.sectors.length = ns)) (_hnp : Hid (d.pending.length = np)) (hc : Hid (l.checkT = 0)) (hcd : Hid (d.checkT = 0)) (hT : Hid (syncJ l d = (Jn.zero, Dk.zero, 1))) (hst : ds = false) (hmn : many ≠ (ns : Int)) : Calls Try.prog 21 #[.agg #[.slice A n c, .int .i64 many, .int .i64 sync], .agg #[.slice As ns cs, .slice Ap np cp, .int .i64 dl, .bool ds]] w (RetJD (syncJ l d) S w) := by
  subst hst
  have HB0 := ((((Below.refl w.heap.size w).alloc (Nat.le_refl _) (.cells #[.slice A n c, .int .i64 many, .int .i64 sync] 29)).alloc (by simp) (.cells #[.slice As ns cs, .slice Ap np cp, .int .i64 dl, .bool false] 25)).alloc (by simp; omega) (.cells #[.slice none 0 0, .int .i64 0, .int .i64 0] 29)).alloc (by simp; omega) (.cells #[.slice none 0 0, .slice none 0 0, .int .i64 0, .bool false] 25)
  have HC := jCheck_any l A n c many sync S ((((w.alloc (.cells #[.slice A n c, .int .i64 many, .int .i64 sync] 29)).alloc (.cells #[.slice As ns cs, .slice Ap np cp, .int .i64 dl, .bool false] 25)).alloc (.cells #[.slice none 0 0, .int .i64 0, .int .i64 0] 29)).alloc (.cells #[.slice none 0 0, .slice none 0 0, .int .i64 0, .bool false] 25)) (Lib.hid (h.out.keep (Keeps.of HB0))) hn hm hy hs
  rw [hc.out] at HC
  go_enter Try.func21, Try.ntmps21
  go_wp2_with fail
  refine HC.mono ?_
  rintro e w1 ⟨rfl, hb1⟩
  have XJ := ((((Box.new w [.slice A n c, .int .i64 many, .int .i64 sync] 29).alloc (.cells #[.slice As ns cs, .slice Ap np cp, .int .i64 dl, .bool false] 25)).alloc (.cells #[.slice none 0 0, .int .i64 0, .int .i64 0] 29)).alloc (.cells #[.slice none 0 0, .slice none 0 0, .int .i64 0, .bool false] 25)).later hb1
  have XD := (((Box.newAt (w := w.alloc (.cells #[.slice A n c, .int .i64 many, .int .i64 sync] 29)) (n := w.heap.size + 1) [.slice As ns cs, .slice Ap np cp, .int .i64 dl, .bool false] 25 (by simp)).alloc (.cells #[.slice none 0 0, .int .i64 0, .int .i64 0] 29)).alloc (.cells #[.slice none 0 0, .slice none 0 0, .int .i64 0, .bool false] 25)).later hb1
  have RJ := ((Box.newAt (w := (w.alloc (.cells #[.slice A n c, .int .i64 many, .int .i64 sync] 29)).alloc (.cells #[.slice As ns cs, .slice Ap np cp, .int .i64 dl, .bool false] 25)) (n := w.heap.size + 2) [.slice none 0 0, .int .i64 0, .int .i64 0] 29 (by simp)).alloc (.cells #[.slice none 0 0, .slice none 0 0, .int .i64 0, .bool false] 25)).later hb1
  have RD := (Box.newAt (w := ((w.alloc (.cells #[.slice A n c, .int .i64 many, .int .i64 sync] 29)).alloc (.cells #[.slice As ns cs, .slice Ap np cp, .int .i64 dl, .bool false] 25)).alloc (.cells #[.slice none 0 0, .int .i64 0, .int .i64 0] 29)) (n := w.heap.size + 3) [.slice none 0 0, .slice none 0 0, .int .i64 0, .bool false] 25 (by simp)).later hb1
  have hB := HB0.trans (hb1.mono HB0.size)
  clear hb1 HB0 HC
  have x0 : w1.cell? ⟨w.heap.size, 0, none⟩ = some (.slice A n c) := XJ.cell 0
  have x1 : w1.cell? ⟨w.heap.size, 1, none⟩ = some (.int .i64 many) := XJ.cell 1
  have x2 : w1.cell? ⟨w.heap.size, 2, none⟩ = some (.int .i64 sync) := XJ.cell 2
  have xz := XJ.lt
  have d0 : w1.cell? ⟨w.heap.size + 1, 0, none⟩ = some (.slice As ns cs) := XD.cell 0
  have d1 : w1.cell? ⟨w.heap.size + 1, 1, none⟩ = some (.slice Ap np cp) := XD.cell 1
  have d2 : w1.cell? ⟨w.heap.size + 1, 2, none⟩ = some (.int .i64 dl) := XD.cell 2
  have d3 : w1.cell? ⟨w.heap.size + 1, 3, none⟩ = some (.bool false) := XD.cell 3
  have dz := XD.lt
  have r0 : w1.cell? ⟨w.heap.size + 2, 0, none⟩ = some (.slice none 0 0) := RJ.cell 0
  have r1 : w1.cell? ⟨w.heap.size + 2, 1, none⟩ = some (.int .i64 0) := RJ.cell 1
  have r2 : w1.cell? ⟨w.heap.size + 2, 2, none⟩ = some (.int .i64 0) := RJ.cell 2
  have f0 := RJ.free 0
  have f1 := RJ.free 1
  have f2 := RJ.free 2
  have rz := RJ.lt
  have s0 : w1.cell? ⟨w.heap.size + 3, 0, none⟩ = some (.slice none 0 0) := RD.cell 0
  have s1 : w1.cell? ⟨w.heap.size + 3, 1, none⟩ = some (.slice none 0 0) := RD.cell 1
  have s2 : w1.cell? ⟨w.heap.size + 3, 2, none⟩ = some (.int .i64 0) := RD.cell 2
  have s3 : w1.cell? ⟨w.heap.size + 3, 3, none⟩ = some (.bool false) := RD.cell 3
  have g0 := RD.free 0
  have g1 := RD.free 1
  have g2 := RD.free 2
  have g3 := RD.free 3
  have sz := RD.lt
  have HDC := dCheck_at hcd (hD.out.keep (Keeps.of hB)) hdl.out hds.out
  go_wp2_with fail
  refine HDC.mono ?_
  rintro e w2 ⟨rfl, hb2⟩
  have XJ := XJ.later hb2
  have XD := XD.later hb2
  have RJ := RJ.later hb2
  have RD := RD.later hb2
  have hB := hB.trans (hb2.mono hB.size)
  clear hb2 HDC
  clear x0 x1 x2 xz d0 d1 d2 d3 dz r0 r1 r2 f0 f1 f2 rz s0 s1 s2 s3 g0 g1 g2 g3 sz
  have x0 : w2.cell? ⟨w.heap.size, 0, none⟩ = some (.slice A n c) := XJ.cell 0
  have x1 : w2.cell? ⟨w.heap.size, 1, none⟩ = some (.int .i64 many) := XJ.cell 1
  have x2 : w2.cell? ⟨w.heap.size, 2, none⟩ = some (.int .i64 sync) := XJ.cell 2
  have xz := XJ.lt
  have d0 : w2.cell? ⟨w.heap.size + 1, 0, none⟩ = some (.slice As ns cs) := XD.cell 0
  have d1 : w2.cell? ⟨w.heap.size + 1, 1, none⟩ = some (.slice Ap np cp) := XD.cell 1
  have d2 : w2.cell? ⟨w.heap.size + 1, 2, none⟩ = some (.int .i64 dl) := XD.cell 2
  have d3 : w2.cell? ⟨w.heap.size + 1, 3, none⟩ = some (.bool false) := XD.cell 3
  have dz := XD.lt
  have r0 : w2.cell? ⟨w.heap.size + 2, 0, none⟩ = some (.slice none 0 0) := RJ.cell 0
  have r1 : w2.cell? ⟨w.heap.size + 2, 1, none⟩ = some (.int .i64 0) := RJ.cell 1
  have r2 : w2.cell? ⟨w.heap.size + 2, 2, none⟩ = some (.int .i64 0) := RJ.cell 2
  have f0 := RJ.free 0
  have f1 := RJ.free 1
  have f2 := RJ.free 2
  have rz := RJ.lt
  have s0 : w2.cell? ⟨w.heap.size + 3, 0, none⟩ = some (.slice none 0 0) := RD.cell 0
  have s1 : w2.cell? ⟨w.heap.size + 3, 1, none⟩ = some (.slice none 0 0) := RD.cell 1
  have s2 : w2.cell? ⟨w.heap.size + 3, 2, none⟩ = some (.int .i64 0) := RD.cell 2
  have s3 : w2.cell? ⟨w.heap.size + 3, 3, none⟩ = some (.bool false) := RD.cell 3
  have g0 := RD.free 0
  have g1 := RD.free 1
  have g2 := RD.free 2
  have g3 := RD.free 3
  have sz := RD.lt
  have e1 : (many != (ns : Int)) = true := by simp [hmn]
  have e2 : (many == (ns : Int)) = false := by simp [hmn]
  clear XJ XD hmn
  go_wp2
  clear x0 x1 x2 xz d0 d1 d2 d3 dz r0 r1 r2 f0 f1 f2 rz s0 s1 s2 s3 g0 g1 g2 g3 sz
  have RJ := (((((((RJ).set 0 (.slice none 0 0)).set 1 (.int .i64 0)).set 2 (.int .i64 0)).other (a := ⟨w.heap.size + 3, 0, none⟩) (by simp) (.slice none 0 0)).other (a := ⟨w.heap.size + 3, 1, none⟩) (by simp) (.slice none 0 0)).other (a := ⟨w.heap.size + 3, 2, none⟩) (by simp) (.int .i64 0)).other (a := ⟨w.heap.size + 3, 3, none⟩) (by simp) (.bool false)
  have RD := (((((((RD).other (a := ⟨w.heap.size + 2, 0, none⟩) (by simp) (.slice none 0 0)).other (a := ⟨w.heap.size + 2, 1, none⟩) (by simp) (.int .i64 0)).other (a := ⟨w.heap.size + 2, 2, none⟩) (by simp) (.int .i64 0)).set 0 (.slice none 0 0)).set 1 (.slice none 0 0)).set 2 (.int .i64 0)).set 3 (.bool false)
  have hB := (((((((hB).setCell (p := ⟨w.heap.size + 2, 0, none⟩) (by simp) (.slice none 0 0)).setCell (p := ⟨w.heap.size + 2, 1, none⟩) (by simp) (.int .i64 0)).setCell (p := ⟨w.heap.size + 2, 2, none⟩) (by simp) (.int .i64 0)).setCell (p := ⟨w.heap.size + 3, 0, none⟩) (by simp) (.slice none 0 0)).setCell (p := ⟨w.heap.size + 3, 1, none⟩) (by simp) (.slice none 0 0)).setCell (p := ⟨w.heap.size + 3, 2, none⟩) (by simp) (.int .i64 0)).setCell (p := ⟨w.heap.size + 3, 3, none⟩) (by simp) (.bool false)
  generalize (((((((w2).setCell ⟨w.heap.size + 2, 0, none⟩ (.slice none 0 0)).setCell ⟨w.heap.size + 2, 1, none⟩ (.int .i64 0)).setCell ⟨w.heap.size + 2, 2, none⟩ (.int .i64 0)).setCell ⟨w.heap.size + 3, 0, none⟩ (.slice none 0 0)).setCell ⟨w.heap.size + 3, 1, none⟩ (.slice none 0 0)).setCell ⟨w.heap.size + 3, 2, none⟩ (.int .i64 0)).setCell ⟨w.heap.size + 3, 3, none⟩ (.bool false) = W at RJ RD hB ⊢
  have y0 : W.cell? ⟨w.heap.size + 2, 0, none⟩ = some (.slice none 0 0) := RJ.cell 0
  have y1 : W.cell? ⟨w.heap.size + 2, 1, none⟩ = some (.int .i64 0) := RJ.cell 1
  have y2 : W.cell? ⟨w.heap.size + 2, 2, none⟩ = some (.int .i64 0) := RJ.cell 2
  have z0 : W.cell? ⟨w.heap.size + 3, 0, none⟩ = some (.slice none 0 0) := RD.cell 0
  have z1 : W.cell? ⟨w.heap.size + 3, 1, none⟩ = some (.slice none 0 0) := RD.cell 1
  have z2 : W.cell? ⟨w.heap.size + 3, 2, none⟩ = some (.int .i64 0) := RD.cell 2
  have z3 : W.cell? ⟨w.heap.size + 3, 3, none⟩ = some (.bool false) := RD.cell 3
  refine bodyPost_ret (v := .tuple #[.agg #[.slice none 0 0, .int .i64 0, .int .i64 0], .agg #[.slice none 0 0, .slice none 0 0, .int .i64 0, .bool false], .int .i64 1]) (by simp [results, Try.results21, go_sem, y0, y1, y2, z0, z1, z2, z3]) rfl ?_
  exact ⟨none, 0, 0, Jn.zero, .slice none 0 0, .slice none 0 0, Dk.zero, 1, rfl, hT, rfl, Lib.hid (rwAt_nil _ _), dkAt_zero _ _, hB⟩
set_option maxRecDepth 100000 in
set_option maxHeartbeats 16000000 in
theorem jRSync_1 (l : Jn) (A : Option Addr) (n c : Nat) (many sync : Int) (d : Dk) (As : Option Addr) (ns cs : Nat) (Ap : Option Addr) (np cp : Nat) (dl : Int) (ds : Bool) (S : Nat → Prop) (w : World) (h : Hid (RwAt w S (.slice A n c) l.records)) (hn : Hid (l.records.length = n)) (hm : Hid (l.many = many)) (hy : Hid (l.synced = sync)) (hs : Hid (sumB l.records ≤ 4194304)) (_hD : Hid (DkAt w S (.slice As ns cs) (.slice Ap np cp) d)) (_hdl : Hid (d.left = dl)) (_hds : Hid (d.stopped = ds)) (_hns : Hid (d.sectors.length = ns)) (_hnp : Hid (d.pending.length = np)) (hT : Hid (syncJ l d = (Jn.zero, Dk.zero, 1))) (hc : Hid (l.checkT = 1)) : Calls Try.prog 22 #[.agg #[.slice A n c, .int .i64 many, .int .i64 sync], .agg #[.slice As ns cs, .slice Ap np cp, .int .i64 dl, .bool ds]] w (RetJD (syncJ l d) S w) := by
  have HB0 := ((((Below.refl w.heap.size w).alloc (Nat.le_refl _) (.cells #[.slice A n c, .int .i64 many, .int .i64 sync] 29)).alloc (by simp) (.cells #[.slice As ns cs, .slice Ap np cp, .int .i64 dl, .bool ds] 25)).alloc (by simp; omega) (.cells #[.slice none 0 0, .int .i64 0, .int .i64 0] 29)).alloc (by simp; omega) (.cells #[.slice none 0 0, .slice none 0 0, .int .i64 0, .bool false] 25)
  have HC := jRCheck_any l A n c many sync S ((((w.alloc (.cells #[.slice A n c, .int .i64 many, .int .i64 sync] 29)).alloc (.cells #[.slice As ns cs, .slice Ap np cp, .int .i64 dl, .bool ds] 25)).alloc (.cells #[.slice none 0 0, .int .i64 0, .int .i64 0] 29)).alloc (.cells #[.slice none 0 0, .slice none 0 0, .int .i64 0, .bool false] 25)) (Lib.hid (h.out.keep (Keeps.of HB0))) hn hm hy hs
  rw [hc.out] at HC
  go_enter Try.func22, Try.ntmps22
  go_wp2_with fail
  refine HC.mono ?_
  rintro e w1 ⟨rfl, hb1⟩
  have XJ := ((((Box.new w [.slice A n c, .int .i64 many, .int .i64 sync] 29).alloc (.cells #[.slice As ns cs, .slice Ap np cp, .int .i64 dl, .bool ds] 25)).alloc (.cells #[.slice none 0 0, .int .i64 0, .int .i64 0] 29)).alloc (.cells #[.slice none 0 0, .slice none 0 0, .int .i64 0, .bool false] 25)).later hb1
  have XD := (((Box.newAt (w := w.alloc (.cells #[.slice A n c, .int .i64 many, .int .i64 sync] 29)) (n := w.heap.size + 1) [.slice As ns cs, .slice Ap np cp, .int .i64 dl, .bool ds] 25 (by simp)).alloc (.cells #[.slice none 0 0, .int .i64 0, .int .i64 0] 29)).alloc (.cells #[.slice none 0 0, .slice none 0 0, .int .i64 0, .bool false] 25)).later hb1
  have RJ := ((Box.newAt (w := (w.alloc (.cells #[.slice A n c, .int .i64 many, .int .i64 sync] 29)).alloc (.cells #[.slice As ns cs, .slice Ap np cp, .int .i64 dl, .bool ds] 25)) (n := w.heap.size + 2) [.slice none 0 0, .int .i64 0, .int .i64 0] 29 (by simp)).alloc (.cells #[.slice none 0 0, .slice none 0 0, .int .i64 0, .bool false] 25)).later hb1
  have RD := (Box.newAt (w := ((w.alloc (.cells #[.slice A n c, .int .i64 many, .int .i64 sync] 29)).alloc (.cells #[.slice As ns cs, .slice Ap np cp, .int .i64 dl, .bool ds] 25)).alloc (.cells #[.slice none 0 0, .int .i64 0, .int .i64 0] 29)) (n := w.heap.size + 3) [.slice none 0 0, .slice none 0 0, .int .i64 0, .bool false] 25 (by simp)).later hb1
  have hB := HB0.trans (hb1.mono HB0.size)
  clear hb1 HB0 HC
  have x0 : w1.cell? ⟨w.heap.size, 0, none⟩ = some (.slice A n c) := XJ.cell 0
  have x1 : w1.cell? ⟨w.heap.size, 1, none⟩ = some (.int .i64 many) := XJ.cell 1
  have x2 : w1.cell? ⟨w.heap.size, 2, none⟩ = some (.int .i64 sync) := XJ.cell 2
  have xz := XJ.lt
  have d0 : w1.cell? ⟨w.heap.size + 1, 0, none⟩ = some (.slice As ns cs) := XD.cell 0
  have d1 : w1.cell? ⟨w.heap.size + 1, 1, none⟩ = some (.slice Ap np cp) := XD.cell 1
  have d2 : w1.cell? ⟨w.heap.size + 1, 2, none⟩ = some (.int .i64 dl) := XD.cell 2
  have d3 : w1.cell? ⟨w.heap.size + 1, 3, none⟩ = some (.bool ds) := XD.cell 3
  have dz := XD.lt
  have r0 : w1.cell? ⟨w.heap.size + 2, 0, none⟩ = some (.slice none 0 0) := RJ.cell 0
  have r1 : w1.cell? ⟨w.heap.size + 2, 1, none⟩ = some (.int .i64 0) := RJ.cell 1
  have r2 : w1.cell? ⟨w.heap.size + 2, 2, none⟩ = some (.int .i64 0) := RJ.cell 2
  have f0 := RJ.free 0
  have f1 := RJ.free 1
  have f2 := RJ.free 2
  have rz := RJ.lt
  have s0 : w1.cell? ⟨w.heap.size + 3, 0, none⟩ = some (.slice none 0 0) := RD.cell 0
  have s1 : w1.cell? ⟨w.heap.size + 3, 1, none⟩ = some (.slice none 0 0) := RD.cell 1
  have s2 : w1.cell? ⟨w.heap.size + 3, 2, none⟩ = some (.int .i64 0) := RD.cell 2
  have s3 : w1.cell? ⟨w.heap.size + 3, 3, none⟩ = some (.bool false) := RD.cell 3
  have g0 := RD.free 0
  have g1 := RD.free 1
  have g2 := RD.free 2
  have g3 := RD.free 3
  have sz := RD.lt
  clear XJ XD
  go_wp2
  clear x0 x1 x2 xz d0 d1 d2 d3 dz r0 r1 r2 f0 f1 f2 rz s0 s1 s2 s3 g0 g1 g2 g3 sz
  have RJ := (((((((RJ).set 0 (.slice none 0 0)).set 1 (.int .i64 0)).set 2 (.int .i64 0)).other (a := ⟨w.heap.size + 3, 0, none⟩) (by simp) (.slice none 0 0)).other (a := ⟨w.heap.size + 3, 1, none⟩) (by simp) (.slice none 0 0)).other (a := ⟨w.heap.size + 3, 2, none⟩) (by simp) (.int .i64 0)).other (a := ⟨w.heap.size + 3, 3, none⟩) (by simp) (.bool false)
  have RD := (((((((RD).other (a := ⟨w.heap.size + 2, 0, none⟩) (by simp) (.slice none 0 0)).other (a := ⟨w.heap.size + 2, 1, none⟩) (by simp) (.int .i64 0)).other (a := ⟨w.heap.size + 2, 2, none⟩) (by simp) (.int .i64 0)).set 0 (.slice none 0 0)).set 1 (.slice none 0 0)).set 2 (.int .i64 0)).set 3 (.bool false)
  have hB := (((((((hB).setCell (p := ⟨w.heap.size + 2, 0, none⟩) (by simp) (.slice none 0 0)).setCell (p := ⟨w.heap.size + 2, 1, none⟩) (by simp) (.int .i64 0)).setCell (p := ⟨w.heap.size + 2, 2, none⟩) (by simp) (.int .i64 0)).setCell (p := ⟨w.heap.size + 3, 0, none⟩) (by simp) (.slice none 0 0)).setCell (p := ⟨w.heap.size + 3, 1, none⟩) (by simp) (.slice none 0 0)).setCell (p := ⟨w.heap.size + 3, 2, none⟩) (by simp) (.int .i64 0)).setCell (p := ⟨w.heap.size + 3, 3, none⟩) (by simp) (.bool false)
  generalize (((((((w1).setCell ⟨w.heap.size + 2, 0, none⟩ (.slice none 0 0)).setCell ⟨w.heap.size + 2, 1, none⟩ (.int .i64 0)).setCell ⟨w.heap.size + 2, 2, none⟩ (.int .i64 0)).setCell ⟨w.heap.size + 3, 0, none⟩ (.slice none 0 0)).setCell ⟨w.heap.size + 3, 1, none⟩ (.slice none 0 0)).setCell ⟨w.heap.size + 3, 2, none⟩ (.int .i64 0)).setCell ⟨w.heap.size + 3, 3, none⟩ (.bool false) = W at RJ RD hB ⊢
  have y0 : W.cell? ⟨w.heap.size + 2, 0, none⟩ = some (.slice none 0 0) := RJ.cell 0
  have y1 : W.cell? ⟨w.heap.size + 2, 1, none⟩ = some (.int .i64 0) := RJ.cell 1
  have y2 : W.cell? ⟨w.heap.size + 2, 2, none⟩ = some (.int .i64 0) := RJ.cell 2
  have z0 : W.cell? ⟨w.heap.size + 3, 0, none⟩ = some (.slice none 0 0) := RD.cell 0
  have z1 : W.cell? ⟨w.heap.size + 3, 1, none⟩ = some (.slice none 0 0) := RD.cell 1
  have z2 : W.cell? ⟨w.heap.size + 3, 2, none⟩ = some (.int .i64 0) := RD.cell 2
  have z3 : W.cell? ⟨w.heap.size + 3, 3, none⟩ = some (.bool false) := RD.cell 3
  refine bodyPost_ret (v := .tuple #[.agg #[.slice none 0 0, .int .i64 0, .int .i64 0], .agg #[.slice none 0 0, .slice none 0 0, .int .i64 0, .bool false], .int .i64 1]) (by simp [results, Try.results22, go_sem, y0, y1, y2, z0, z1, z2, z3]) rfl ?_
  exact ⟨none, 0, 0, Jn.zero, .slice none 0 0, .slice none 0 0, Dk.zero, 1, rfl, hT, rfl, Lib.hid (rwAt_nil _ _), dkAt_zero _ _, hB⟩
set_option maxRecDepth 100000 in
set_option maxHeartbeats 16000000 in
theorem jRSync_2 (l : Jn) (A : Option Addr) (n c : Nat) (many sync : Int) (d : Dk) (As : Option Addr) (ns cs : Nat) (Ap : Option Addr) (np cp : Nat) (dl : Int) (ds : Bool) (S : Nat → Prop) (w : World) (h : Hid (RwAt w S (.slice A n c) l.records)) (hn : Hid (l.records.length = n)) (hm : Hid (l.many = many)) (hy : Hid (l.synced = sync)) (hs : Hid (sumB l.records ≤ 4194304)) (hD : Hid (DkAt w S (.slice As ns cs) (.slice Ap np cp) d)) (hdl : Hid (d.left = dl)) (hds : Hid (d.stopped = ds)) (_hns : Hid (d.sectors.length = ns)) (_hnp : Hid (d.pending.length = np)) (hc : Hid (l.checkT = 0)) (er : Int) (hT : Hid (syncJ l d = (Jn.zero, Dk.zero, er))) (hcd : Hid (d.checkT = er)) (he : er ≠ 0) : Calls Try.prog 22 #[.agg #[.slice A n c, .int .i64 many, .int .i64 sync], .agg #[.slice As ns cs, .slice Ap np cp, .int .i64 dl, .bool ds]] w (RetJD (syncJ l d) S w) := by
  have HB0 := ((((Below.refl w.heap.size w).alloc (Nat.le_refl _) (.cells #[.slice A n c, .int .i64 many, .int .i64 sync] 29)).alloc (by simp) (.cells #[.slice As ns cs, .slice Ap np cp, .int .i64 dl, .bool ds] 25)).alloc (by simp; omega) (.cells #[.slice none 0 0, .int .i64 0, .int .i64 0] 29)).alloc (by simp; omega) (.cells #[.slice none 0 0, .slice none 0 0, .int .i64 0, .bool false] 25)
  have HC := jRCheck_any l A n c many sync S ((((w.alloc (.cells #[.slice A n c, .int .i64 many, .int .i64 sync] 29)).alloc (.cells #[.slice As ns cs, .slice Ap np cp, .int .i64 dl, .bool ds] 25)).alloc (.cells #[.slice none 0 0, .int .i64 0, .int .i64 0] 29)).alloc (.cells #[.slice none 0 0, .slice none 0 0, .int .i64 0, .bool false] 25)) (Lib.hid (h.out.keep (Keeps.of HB0))) hn hm hy hs
  rw [hc.out] at HC
  go_enter Try.func22, Try.ntmps22
  go_wp2_with fail
  refine HC.mono ?_
  rintro e w1 ⟨rfl, hb1⟩
  have XJ := ((((Box.new w [.slice A n c, .int .i64 many, .int .i64 sync] 29).alloc (.cells #[.slice As ns cs, .slice Ap np cp, .int .i64 dl, .bool ds] 25)).alloc (.cells #[.slice none 0 0, .int .i64 0, .int .i64 0] 29)).alloc (.cells #[.slice none 0 0, .slice none 0 0, .int .i64 0, .bool false] 25)).later hb1
  have XD := (((Box.newAt (w := w.alloc (.cells #[.slice A n c, .int .i64 many, .int .i64 sync] 29)) (n := w.heap.size + 1) [.slice As ns cs, .slice Ap np cp, .int .i64 dl, .bool ds] 25 (by simp)).alloc (.cells #[.slice none 0 0, .int .i64 0, .int .i64 0] 29)).alloc (.cells #[.slice none 0 0, .slice none 0 0, .int .i64 0, .bool false] 25)).later hb1
  have RJ := ((Box.newAt (w := (w.alloc (.cells #[.slice A n c, .int .i64 many, .int .i64 sync] 29)).alloc (.cells #[.slice As ns cs, .slice Ap np cp, .int .i64 dl, .bool ds] 25)) (n := w.heap.size + 2) [.slice none 0 0, .int .i64 0, .int .i64 0] 29 (by simp)).alloc (.cells #[.slice none 0 0, .slice none 0 0, .int .i64 0, .bool false] 25)).later hb1
  have RD := (Box.newAt (w := ((w.alloc (.cells #[.slice A n c, .int .i64 many, .int .i64 sync] 29)).alloc (.cells #[.slice As ns cs, .slice Ap np cp, .int .i64 dl, .bool ds] 25)).alloc (.cells #[.slice none 0 0, .int .i64 0, .int .i64 0] 29)) (n := w.heap.size + 3) [.slice none 0 0, .slice none 0 0, .int .i64 0, .bool false] 25 (by simp)).later hb1
  have hB := HB0.trans (hb1.mono HB0.size)
  clear hb1 HB0 HC
  have x0 : w1.cell? ⟨w.heap.size, 0, none⟩ = some (.slice A n c) := XJ.cell 0
  have x1 : w1.cell? ⟨w.heap.size, 1, none⟩ = some (.int .i64 many) := XJ.cell 1
  have x2 : w1.cell? ⟨w.heap.size, 2, none⟩ = some (.int .i64 sync) := XJ.cell 2
  have xz := XJ.lt
  have d0 : w1.cell? ⟨w.heap.size + 1, 0, none⟩ = some (.slice As ns cs) := XD.cell 0
  have d1 : w1.cell? ⟨w.heap.size + 1, 1, none⟩ = some (.slice Ap np cp) := XD.cell 1
  have d2 : w1.cell? ⟨w.heap.size + 1, 2, none⟩ = some (.int .i64 dl) := XD.cell 2
  have d3 : w1.cell? ⟨w.heap.size + 1, 3, none⟩ = some (.bool ds) := XD.cell 3
  have dz := XD.lt
  have r0 : w1.cell? ⟨w.heap.size + 2, 0, none⟩ = some (.slice none 0 0) := RJ.cell 0
  have r1 : w1.cell? ⟨w.heap.size + 2, 1, none⟩ = some (.int .i64 0) := RJ.cell 1
  have r2 : w1.cell? ⟨w.heap.size + 2, 2, none⟩ = some (.int .i64 0) := RJ.cell 2
  have f0 := RJ.free 0
  have f1 := RJ.free 1
  have f2 := RJ.free 2
  have rz := RJ.lt
  have s0 : w1.cell? ⟨w.heap.size + 3, 0, none⟩ = some (.slice none 0 0) := RD.cell 0
  have s1 : w1.cell? ⟨w.heap.size + 3, 1, none⟩ = some (.slice none 0 0) := RD.cell 1
  have s2 : w1.cell? ⟨w.heap.size + 3, 2, none⟩ = some (.int .i64 0) := RD.cell 2
  have s3 : w1.cell? ⟨w.heap.size + 3, 3, none⟩ = some (.bool false) := RD.cell 3
  have g0 := RD.free 0
  have g1 := RD.free 1
  have g2 := RD.free 2
  have g3 := RD.free 3
  have sz := RD.lt
  have HDC := dRCheck_at hcd (hD.out.keep (Keeps.of hB)) hdl hds
  go_wp2_with fail
  refine HDC.mono ?_
  rintro e w2 ⟨rfl, hb2⟩
  have XJ := XJ.later hb2
  have XD := XD.later hb2
  have RJ := RJ.later hb2
  have RD := RD.later hb2
  have hB := hB.trans (hb2.mono hB.size)
  clear hb2 HDC
  clear x0 x1 x2 xz d0 d1 d2 d3 dz r0 r1 r2 f0 f1 f2 rz s0 s1 s2 s3 g0 g1 g2 g3 sz
  have x0 : w2.cell? ⟨w.heap.size, 0, none⟩ = some (.slice A n c) := XJ.cell 0
  have x1 : w2.cell? ⟨w.heap.size, 1, none⟩ = some (.int .i64 many) := XJ.cell 1
  have x2 : w2.cell? ⟨w.heap.size, 2, none⟩ = some (.int .i64 sync) := XJ.cell 2
  have xz := XJ.lt
  have d0 : w2.cell? ⟨w.heap.size + 1, 0, none⟩ = some (.slice As ns cs) := XD.cell 0
  have d1 : w2.cell? ⟨w.heap.size + 1, 1, none⟩ = some (.slice Ap np cp) := XD.cell 1
  have d2 : w2.cell? ⟨w.heap.size + 1, 2, none⟩ = some (.int .i64 dl) := XD.cell 2
  have d3 : w2.cell? ⟨w.heap.size + 1, 3, none⟩ = some (.bool ds) := XD.cell 3
  have dz := XD.lt
  have r0 : w2.cell? ⟨w.heap.size + 2, 0, none⟩ = some (.slice none 0 0) := RJ.cell 0
  have r1 : w2.cell? ⟨w.heap.size + 2, 1, none⟩ = some (.int .i64 0) := RJ.cell 1
  have r2 : w2.cell? ⟨w.heap.size + 2, 2, none⟩ = some (.int .i64 0) := RJ.cell 2
  have f0 := RJ.free 0
  have f1 := RJ.free 1
  have f2 := RJ.free 2
  have rz := RJ.lt
  have s0 : w2.cell? ⟨w.heap.size + 3, 0, none⟩ = some (.slice none 0 0) := RD.cell 0
  have s1 : w2.cell? ⟨w.heap.size + 3, 1, none⟩ = some (.slice none 0 0) := RD.cell 1
  have s2 : w2.cell? ⟨w.heap.size + 3, 2, none⟩ = some (.int .i64 0) := RD.cell 2
  have s3 : w2.cell? ⟨w.heap.size + 3, 3, none⟩ = some (.bool false) := RD.cell 3
  have g0 := RD.free 0
  have g1 := RD.free 1
  have g2 := RD.free 2
  have g3 := RD.free 3
  have sz := RD.lt
  have e1 : (er != 0) = true := by simp [he]
  have e2 : (er == 0) = false := by simp [he]
  clear XJ XD he
  go_wp2
  clear x0 x1 x2 xz d0 d1 d2 d3 dz r0 r1 r2 f0 f1 f2 rz s0 s1 s2 s3 g0 g1 g2 g3 sz
  have RJ := (((((((RJ).set 0 (.slice none 0 0)).set 1 (.int .i64 0)).set 2 (.int .i64 0)).other (a := ⟨w.heap.size + 3, 0, none⟩) (by simp) (.slice none 0 0)).other (a := ⟨w.heap.size + 3, 1, none⟩) (by simp) (.slice none 0 0)).other (a := ⟨w.heap.size + 3, 2, none⟩) (by simp) (.int .i64 0)).other (a := ⟨w.heap.size + 3, 3, none⟩) (by simp) (.bool false)
  have RD := (((((((RD).other (a := ⟨w.heap.size + 2, 0, none⟩) (by simp) (.slice none 0 0)).other (a := ⟨w.heap.size + 2, 1, none⟩) (by simp) (.int .i64 0)).other (a := ⟨w.heap.size + 2, 2, none⟩) (by simp) (.int .i64 0)).set 0 (.slice none 0 0)).set 1 (.slice none 0 0)).set 2 (.int .i64 0)).set 3 (.bool false)
  have hB := (((((((hB).setCell (p := ⟨w.heap.size + 2, 0, none⟩) (by simp) (.slice none 0 0)).setCell (p := ⟨w.heap.size + 2, 1, none⟩) (by simp) (.int .i64 0)).setCell (p := ⟨w.heap.size + 2, 2, none⟩) (by simp) (.int .i64 0)).setCell (p := ⟨w.heap.size + 3, 0, none⟩) (by simp) (.slice none 0 0)).setCell (p := ⟨w.heap.size + 3, 1, none⟩) (by simp) (.slice none 0 0)).setCell (p := ⟨w.heap.size + 3, 2, none⟩) (by simp) (.int .i64 0)).setCell (p := ⟨w.heap.size + 3, 3, none⟩) (by simp) (.bool false)
  generalize (((((((w2).setCell ⟨w.heap.size + 2, 0, none⟩ (.slice none 0 0)).setCell ⟨w.heap.size + 2, 1, none⟩ (.int .i64 0)).setCell ⟨w.heap.size + 2, 2, none⟩ (.int .i64 0)).setCell ⟨w.heap.size + 3, 0, none⟩ (.slice none 0 0)).setCell ⟨w.heap.size + 3, 1, none⟩ (.slice none 0 0)).setCell ⟨w.heap.size + 3, 2, none⟩ (.int .i64 0)).setCell ⟨w.heap.size + 3, 3, none⟩ (.bool false) = W at RJ RD hB ⊢
  have y0 : W.cell? ⟨w.heap.size + 2, 0, none⟩ = some (.slice none 0 0) := RJ.cell 0
  have y1 : W.cell? ⟨w.heap.size + 2, 1, none⟩ = some (.int .i64 0) := RJ.cell 1
  have y2 : W.cell? ⟨w.heap.size + 2, 2, none⟩ = some (.int .i64 0) := RJ.cell 2
  have z0 : W.cell? ⟨w.heap.size + 3, 0, none⟩ = some (.slice none 0 0) := RD.cell 0
  have z1 : W.cell? ⟨w.heap.size + 3, 1, none⟩ = some (.slice none 0 0) := RD.cell 1
  have z2 : W.cell? ⟨w.heap.size + 3, 2, none⟩ = some (.int .i64 0) := RD.cell 2
  have z3 : W.cell? ⟨w.heap.size + 3, 3, none⟩ = some (.bool false) := RD.cell 3
  refine bodyPost_ret (v := .tuple #[.agg #[.slice none 0 0, .int .i64 0, .int .i64 0], .agg #[.slice none 0 0, .slice none 0 0, .int .i64 0, .bool false], .int .i64 er]) (by simp [results, Try.results22, go_sem, y0, y1, y2, z0, z1, z2, z3]) rfl ?_
  exact ⟨none, 0, 0, Jn.zero, .slice none 0 0, .slice none 0 0, Dk.zero, er, rfl, hT, rfl, Lib.hid (rwAt_nil _ _), dkAt_zero _ _, hB⟩
set_option maxRecDepth 100000 in
set_option maxHeartbeats 16000000 in
theorem jRSync_3 (l : Jn) (A : Option Addr) (n c : Nat) (many sync : Int) (d : Dk) (As : Option Addr) (ns cs : Nat) (Ap : Option Addr) (np cp : Nat) (dl : Int) (ds : Bool) (S : Nat → Prop) (w : World) (h : Hid (RwAt w S (.slice A n c) l.records)) (hn : Hid (l.records.length = n)) (hm : Hid (l.many = many)) (hy : Hid (l.synced = sync)) (hs : Hid (sumB l.records ≤ 4194304)) (hD : Hid (DkAt w S (.slice As ns cs) (.slice Ap np cp) d)) (hdl : Hid (d.left = dl)) (hds : Hid (d.stopped = ds)) (_hns : Hid (d.sectors.length = ns)) (_hnp : Hid (d.pending.length = np)) (hc : Hid (l.checkT = 0)) (hcd : Hid (d.checkT = 0)) (hT : Hid (syncJ l d = (Jn.zero, Dk.zero, 40))) (hst : ds = true) : Calls Try.prog 22 #[.agg #[.slice A n c, .int .i64 many, .int .i64 sync], .agg #[.slice As ns cs, .slice Ap np cp, .int .i64 dl, .bool ds]] w (RetJD (syncJ l d) S w) := by
  subst hst
  have HB0 := ((((Below.refl w.heap.size w).alloc (Nat.le_refl _) (.cells #[.slice A n c, .int .i64 many, .int .i64 sync] 29)).alloc (by simp) (.cells #[.slice As ns cs, .slice Ap np cp, .int .i64 dl, .bool true] 25)).alloc (by simp; omega) (.cells #[.slice none 0 0, .int .i64 0, .int .i64 0] 29)).alloc (by simp; omega) (.cells #[.slice none 0 0, .slice none 0 0, .int .i64 0, .bool false] 25)
  have HC := jRCheck_any l A n c many sync S ((((w.alloc (.cells #[.slice A n c, .int .i64 many, .int .i64 sync] 29)).alloc (.cells #[.slice As ns cs, .slice Ap np cp, .int .i64 dl, .bool true] 25)).alloc (.cells #[.slice none 0 0, .int .i64 0, .int .i64 0] 29)).alloc (.cells #[.slice none 0 0, .slice none 0 0, .int .i64 0, .bool false] 25)) (Lib.hid (h.out.keep (Keeps.of HB0))) hn hm hy hs
  rw [hc.out] at HC
  go_enter Try.func22, Try.ntmps22
  go_wp2_with fail
  refine HC.mono ?_
  rintro e w1 ⟨rfl, hb1⟩
  have XJ := ((((Box.new w [.slice A n c, .int .i64 many, .int .i64 sync] 29).alloc (.cells #[.slice As ns cs, .slice Ap np cp, .int .i64 dl, .bool true] 25)).alloc (.cells #[.slice none 0 0, .int .i64 0, .int .i64 0] 29)).alloc (.cells #[.slice none 0 0, .slice none 0 0, .int .i64 0, .bool false] 25)).later hb1
  have XD := (((Box.newAt (w := w.alloc (.cells #[.slice A n c, .int .i64 many, .int .i64 sync] 29)) (n := w.heap.size + 1) [.slice As ns cs, .slice Ap np cp, .int .i64 dl, .bool true] 25 (by simp)).alloc (.cells #[.slice none 0 0, .int .i64 0, .int .i64 0] 29)).alloc (.cells #[.slice none 0 0, .slice none 0 0, .int .i64 0, .bool false] 25)).later hb1
  have RJ := ((Box.newAt (w := (w.alloc (.cells #[.slice A n c, .int .i64 many, .int .i64 sync] 29)).alloc (.cells #[.slice As ns cs, .slice Ap np cp, .int .i64 dl, .bool true] 25)) (n := w.heap.size + 2) [.slice none 0 0, .int .i64 0, .int .i64 0] 29 (by simp)).alloc (.cells #[.slice none 0 0, .slice none 0 0, .int .i64 0, .bool false] 25)).later hb1
  have RD := (Box.newAt (w := ((w.alloc (.cells #[.slice A n c, .int .i64 many, .int .i64 sync] 29)).alloc (.cells #[.slice As ns cs, .slice Ap np cp, .int .i64 dl, .bool true] 25)).alloc (.cells #[.slice none 0 0, .int .i64 0, .int .i64 0] 29)) (n := w.heap.size + 3) [.slice none 0 0, .slice none 0 0, .int .i64 0, .bool false] 25 (by simp)).later hb1
  have hB := HB0.trans (hb1.mono HB0.size)
  clear hb1 HB0 HC
  have x0 : w1.cell? ⟨w.heap.size, 0, none⟩ = some (.slice A n c) := XJ.cell 0
  have x1 : w1.cell? ⟨w.heap.size, 1, none⟩ = some (.int .i64 many) := XJ.cell 1
  have x2 : w1.cell? ⟨w.heap.size, 2, none⟩ = some (.int .i64 sync) := XJ.cell 2
  have xz := XJ.lt
  have d0 : w1.cell? ⟨w.heap.size + 1, 0, none⟩ = some (.slice As ns cs) := XD.cell 0
  have d1 : w1.cell? ⟨w.heap.size + 1, 1, none⟩ = some (.slice Ap np cp) := XD.cell 1
  have d2 : w1.cell? ⟨w.heap.size + 1, 2, none⟩ = some (.int .i64 dl) := XD.cell 2
  have d3 : w1.cell? ⟨w.heap.size + 1, 3, none⟩ = some (.bool true) := XD.cell 3
  have dz := XD.lt
  have r0 : w1.cell? ⟨w.heap.size + 2, 0, none⟩ = some (.slice none 0 0) := RJ.cell 0
  have r1 : w1.cell? ⟨w.heap.size + 2, 1, none⟩ = some (.int .i64 0) := RJ.cell 1
  have r2 : w1.cell? ⟨w.heap.size + 2, 2, none⟩ = some (.int .i64 0) := RJ.cell 2
  have f0 := RJ.free 0
  have f1 := RJ.free 1
  have f2 := RJ.free 2
  have rz := RJ.lt
  have s0 : w1.cell? ⟨w.heap.size + 3, 0, none⟩ = some (.slice none 0 0) := RD.cell 0
  have s1 : w1.cell? ⟨w.heap.size + 3, 1, none⟩ = some (.slice none 0 0) := RD.cell 1
  have s2 : w1.cell? ⟨w.heap.size + 3, 2, none⟩ = some (.int .i64 0) := RD.cell 2
  have s3 : w1.cell? ⟨w.heap.size + 3, 3, none⟩ = some (.bool false) := RD.cell 3
  have g0 := RD.free 0
  have g1 := RD.free 1
  have g2 := RD.free 2
  have g3 := RD.free 3
  have sz := RD.lt
  have HDC := dRCheck_at hcd (hD.out.keep (Keeps.of hB)) hdl hds
  go_wp2_with fail
  refine HDC.mono ?_
  rintro e w2 ⟨rfl, hb2⟩
  have XJ := XJ.later hb2
  have XD := XD.later hb2
  have RJ := RJ.later hb2
  have RD := RD.later hb2
  have hB := hB.trans (hb2.mono hB.size)
  clear hb2 HDC
  clear x0 x1 x2 xz d0 d1 d2 d3 dz r0 r1 r2 f0 f1 f2 rz s0 s1 s2 s3 g0 g1 g2 g3 sz
  have x0 : w2.cell? ⟨w.heap.size, 0, none⟩ = some (.slice A n c) := XJ.cell 0
  have x1 : w2.cell? ⟨w.heap.size, 1, none⟩ = some (.int .i64 many) := XJ.cell 1
  have x2 : w2.cell? ⟨w.heap.size, 2, none⟩ = some (.int .i64 sync) := XJ.cell 2
  have xz := XJ.lt
  have d0 : w2.cell? ⟨w.heap.size + 1, 0, none⟩ = some (.slice As ns cs) := XD.cell 0
  have d1 : w2.cell? ⟨w.heap.size + 1, 1, none⟩ = some (.slice Ap np cp) := XD.cell 1
  have d2 : w2.cell? ⟨w.heap.size + 1, 2, none⟩ = some (.int .i64 dl) := XD.cell 2
  have d3 : w2.cell? ⟨w.heap.size + 1, 3, none⟩ = some (.bool true) := XD.cell 3
  have dz := XD.lt
  have r0 : w2.cell? ⟨w.heap.size + 2, 0, none⟩ = some (.slice none 0 0) := RJ.cell 0
  have r1 : w2.cell? ⟨w.heap.size + 2, 1, none⟩ = some (.int .i64 0) := RJ.cell 1
  have r2 : w2.cell? ⟨w.heap.size + 2, 2, none⟩ = some (.int .i64 0) := RJ.cell 2
  have f0 := RJ.free 0
  have f1 := RJ.free 1
  have f2 := RJ.free 2
  have rz := RJ.lt
  have s0 : w2.cell? ⟨w.heap.size + 3, 0, none⟩ = some (.slice none 0 0) := RD.cell 0
  have s1 : w2.cell? ⟨w.heap.size + 3, 1, none⟩ = some (.slice none 0 0) := RD.cell 1
  have s2 : w2.cell? ⟨w.heap.size + 3, 2, none⟩ = some (.int .i64 0) := RD.cell 2
  have s3 : w2.cell? ⟨w.heap.size + 3, 3, none⟩ = some (.bool false) := RD.cell 3
  have g0 := RD.free 0
  have g1 := RD.free 1
  have g2 := RD.free 2
  have g3 := RD.free 3
  have sz := RD.lt
  clear XJ XD
  go_wp2
  clear x0 x1 x2 xz d0 d1 d2 d3 dz r0 r1 r2 f0 f1 f2 rz s0 s1 s2 s3 g0 g1 g2 g3 sz
  have RJ := (((((((RJ).set 0 (.slice none 0 0)).set 1 (.int .i64 0)).set 2 (.int .i64 0)).other (a := ⟨w.heap.size + 3, 0, none⟩) (by simp) (.slice none 0 0)).other (a := ⟨w.heap.size + 3, 1, none⟩) (by simp) (.slice none 0 0)).other (a := ⟨w.heap.size + 3, 2, none⟩) (by simp) (.int .i64 0)).other (a := ⟨w.heap.size + 3, 3, none⟩) (by simp) (.bool false)
  have RD := (((((((RD).other (a := ⟨w.heap.size + 2, 0, none⟩) (by simp) (.slice none 0 0)).other (a := ⟨w.heap.size + 2, 1, none⟩) (by simp) (.int .i64 0)).other (a := ⟨w.heap.size + 2, 2, none⟩) (by simp) (.int .i64 0)).set 0 (.slice none 0 0)).set 1 (.slice none 0 0)).set 2 (.int .i64 0)).set 3 (.bool false)
  have hB := (((((((hB).setCell (p := ⟨w.heap.size + 2, 0, none⟩) (by simp) (.slice none 0 0)).setCell (p := ⟨w.heap.size + 2, 1, none⟩) (by simp) (.int .i64 0)).setCell (p := ⟨w.heap.size + 2, 2, none⟩) (by simp) (.int .i64 0)).setCell (p := ⟨w.heap.size + 3, 0, none⟩) (by simp) (.slice none 0 0)).setCell (p := ⟨w.heap.size + 3, 1, none⟩) (by simp) (.slice none 0 0)).setCell (p := ⟨w.heap.size + 3, 2, none⟩) (by simp) (.int .i64 0)).setCell (p := ⟨w.heap.size + 3, 3, none⟩) (by simp) (.bool false)
  generalize (((((((w2).setCell ⟨w.heap.size + 2, 0, none⟩ (.slice none 0 0)).setCell ⟨w.heap.size + 2, 1, none⟩ (.int .i64 0)).setCell ⟨w.heap.size + 2, 2, none⟩ (.int .i64 0)).setCell ⟨w.heap.size + 3, 0, none⟩ (.slice none 0 0)).setCell ⟨w.heap.size + 3, 1, none⟩ (.slice none 0 0)).setCell ⟨w.heap.size + 3, 2, none⟩ (.int .i64 0)).setCell ⟨w.heap.size + 3, 3, none⟩ (.bool false) = W at RJ RD hB ⊢
  have y0 : W.cell? ⟨w.heap.size + 2, 0, none⟩ = some (.slice none 0 0) := RJ.cell 0
  have y1 : W.cell? ⟨w.heap.size + 2, 1, none⟩ = some (.int .i64 0) := RJ.cell 1
  have y2 : W.cell? ⟨w.heap.size + 2, 2, none⟩ = some (.int .i64 0) := RJ.cell 2
  have z0 : W.cell? ⟨w.heap.size + 3, 0, none⟩ = some (.slice none 0 0) := RD.cell 0
  have z1 : W.cell? ⟨w.heap.size + 3, 1, none⟩ = some (.slice none 0 0) := RD.cell 1
  have z2 : W.cell? ⟨w.heap.size + 3, 2, none⟩ = some (.int .i64 0) := RD.cell 2
  have z3 : W.cell? ⟨w.heap.size + 3, 3, none⟩ = some (.bool false) := RD.cell 3
  refine bodyPost_ret (v := .tuple #[.agg #[.slice none 0 0, .int .i64 0, .int .i64 0], .agg #[.slice none 0 0, .slice none 0 0, .int .i64 0, .bool false], .int .i64 40]) (by simp [results, Try.results22, go_sem, y0, y1, y2, z0, z1, z2, z3]) rfl ?_
  exact ⟨none, 0, 0, Jn.zero, .slice none 0 0, .slice none 0 0, Dk.zero, 40, rfl, hT, rfl, Lib.hid (rwAt_nil _ _), dkAt_zero _ _, hB⟩
set_option maxRecDepth 100000 in
set_option maxHeartbeats 16000000 in
theorem jRSync_4 (l : Jn) (A : Option Addr) (n c : Nat) (many sync : Int) (d : Dk) (As : Option Addr) (ns cs : Nat) (Ap : Option Addr) (np cp : Nat) (dl : Int) (ds : Bool) (S : Nat → Prop) (w : World) (h : Hid (RwAt w S (.slice A n c) l.records)) (hn : Hid (l.records.length = n)) (hm : Hid (l.many = many)) (hy : Hid (l.synced = sync)) (hs : Hid (sumB l.records ≤ 4194304)) (hD : Hid (DkAt w S (.slice As ns cs) (.slice Ap np cp) d)) (hdl : Hid (d.left = dl)) (hds : Hid (d.stopped = ds)) (_hns : Hid (d.sectors.length = ns)) (_hnp : Hid (d.pending.length = np)) (hc : Hid (l.checkT = 0)) (hcd : Hid (d.checkT = 0)) (hT : Hid (syncJ l d = (Jn.zero, Dk.zero, 1))) (hst : ds = false) (hmn : many ≠ (ns : Int) ∨ 0 < np) : Calls Try.prog 22 #[.agg #[.slice A n c, .int .i64 many, .int .i64 sync], .agg #[.slice As ns cs, .slice Ap np cp, .int .i64 dl, .bool ds]] w (RetJD (syncJ l d) S w) := by
  subst hst
  have HB0 := ((((Below.refl w.heap.size w).alloc (Nat.le_refl _) (.cells #[.slice A n c, .int .i64 many, .int .i64 sync] 29)).alloc (by simp) (.cells #[.slice As ns cs, .slice Ap np cp, .int .i64 dl, .bool false] 25)).alloc (by simp; omega) (.cells #[.slice none 0 0, .int .i64 0, .int .i64 0] 29)).alloc (by simp; omega) (.cells #[.slice none 0 0, .slice none 0 0, .int .i64 0, .bool false] 25)
  have HC := jRCheck_any l A n c many sync S ((((w.alloc (.cells #[.slice A n c, .int .i64 many, .int .i64 sync] 29)).alloc (.cells #[.slice As ns cs, .slice Ap np cp, .int .i64 dl, .bool false] 25)).alloc (.cells #[.slice none 0 0, .int .i64 0, .int .i64 0] 29)).alloc (.cells #[.slice none 0 0, .slice none 0 0, .int .i64 0, .bool false] 25)) (Lib.hid (h.out.keep (Keeps.of HB0))) hn hm hy hs
  rw [hc.out] at HC
  go_enter Try.func22, Try.ntmps22
  go_wp2_with fail
  refine HC.mono ?_
  rintro e w1 ⟨rfl, hb1⟩
  have XJ := ((((Box.new w [.slice A n c, .int .i64 many, .int .i64 sync] 29).alloc (.cells #[.slice As ns cs, .slice Ap np cp, .int .i64 dl, .bool false] 25)).alloc (.cells #[.slice none 0 0, .int .i64 0, .int .i64 0] 29)).alloc (.cells #[.slice none 0 0, .slice none 0 0, .int .i64 0, .bool false] 25)).later hb1
  have XD := (((Box.newAt (w := w.alloc (.cells #[.slice A n c, .int .i64 many, .int .i64 sync] 29)) (n := w.heap.size + 1) [.slice As ns cs, .slice Ap np cp, .int .i64 dl, .bool false] 25 (by simp)).alloc (.cells #[.slice none 0 0, .int .i64 0, .int .i64 0] 29)).alloc (.cells #[.slice none 0 0, .slice none 0 0, .int .i64 0, .bool false] 25)).later hb1
  have RJ := ((Box.newAt (w := (w.alloc (.cells #[.slice A n c, .int .i64 many, .int .i64 sync] 29)).alloc (.cells #[.slice As ns cs, .slice Ap np cp, .int .i64 dl, .bool false] 25)) (n := w.heap.size + 2) [.slice none 0 0, .int .i64 0, .int .i64 0] 29 (by simp)).alloc (.cells #[.slice none 0 0, .slice none 0 0, .int .i64 0, .bool false] 25)).later hb1
  have RD := (Box.newAt (w := ((w.alloc (.cells #[.slice A n c, .int .i64 many, .int .i64 sync] 29)).alloc (.cells #[.slice As ns cs, .slice Ap np cp, .int .i64 dl, .bool false] 25)).alloc (.cells #[.slice none 0 0, .int .i64 0, .int .i64 0] 29)) (n := w.heap.size + 3) [.slice none 0 0, .slice none 0 0, .int .i64 0, .bool false] 25 (by simp)).later hb1
  have hB := HB0.trans (hb1.mono HB0.size)
  clear hb1 HB0 HC
  have x0 : w1.cell? ⟨w.heap.size, 0, none⟩ = some (.slice A n c) := XJ.cell 0
  have x1 : w1.cell? ⟨w.heap.size, 1, none⟩ = some (.int .i64 many) := XJ.cell 1
  have x2 : w1.cell? ⟨w.heap.size, 2, none⟩ = some (.int .i64 sync) := XJ.cell 2
  have xz := XJ.lt
  have d0 : w1.cell? ⟨w.heap.size + 1, 0, none⟩ = some (.slice As ns cs) := XD.cell 0
  have d1 : w1.cell? ⟨w.heap.size + 1, 1, none⟩ = some (.slice Ap np cp) := XD.cell 1
  have d2 : w1.cell? ⟨w.heap.size + 1, 2, none⟩ = some (.int .i64 dl) := XD.cell 2
  have d3 : w1.cell? ⟨w.heap.size + 1, 3, none⟩ = some (.bool false) := XD.cell 3
  have dz := XD.lt
  have r0 : w1.cell? ⟨w.heap.size + 2, 0, none⟩ = some (.slice none 0 0) := RJ.cell 0
  have r1 : w1.cell? ⟨w.heap.size + 2, 1, none⟩ = some (.int .i64 0) := RJ.cell 1
  have r2 : w1.cell? ⟨w.heap.size + 2, 2, none⟩ = some (.int .i64 0) := RJ.cell 2
  have f0 := RJ.free 0
  have f1 := RJ.free 1
  have f2 := RJ.free 2
  have rz := RJ.lt
  have s0 : w1.cell? ⟨w.heap.size + 3, 0, none⟩ = some (.slice none 0 0) := RD.cell 0
  have s1 : w1.cell? ⟨w.heap.size + 3, 1, none⟩ = some (.slice none 0 0) := RD.cell 1
  have s2 : w1.cell? ⟨w.heap.size + 3, 2, none⟩ = some (.int .i64 0) := RD.cell 2
  have s3 : w1.cell? ⟨w.heap.size + 3, 3, none⟩ = some (.bool false) := RD.cell 3
  have g0 := RD.free 0
  have g1 := RD.free 1
  have g2 := RD.free 2
  have g3 := RD.free 3
  have sz := RD.lt
  have HDC := dRCheck_at hcd (hD.out.keep (Keeps.of hB)) hdl hds
  go_wp2_with fail
  refine HDC.mono ?_
  rintro e w2 ⟨rfl, hb2⟩
  have XJ := XJ.later hb2
  have XD := XD.later hb2
  have RJ := RJ.later hb2
  have RD := RD.later hb2
  have hB := hB.trans (hb2.mono hB.size)
  clear hb2 HDC
  clear x0 x1 x2 xz d0 d1 d2 d3 dz r0 r1 r2 f0 f1 f2 rz s0 s1 s2 s3 g0 g1 g2 g3 sz
  have x0 : w2.cell? ⟨w.heap.size, 0, none⟩ = some (.slice A n c) := XJ.cell 0
  have x1 : w2.cell? ⟨w.heap.size, 1, none⟩ = some (.int .i64 many) := XJ.cell 1
  have x2 : w2.cell? ⟨w.heap.size, 2, none⟩ = some (.int .i64 sync) := XJ.cell 2
  have xz := XJ.lt
  have d0 : w2.cell? ⟨w.heap.size + 1, 0, none⟩ = some (.slice As ns cs) := XD.cell 0
  have d1 : w2.cell? ⟨w.heap.size + 1, 1, none⟩ = some (.slice Ap np cp) := XD.cell 1
  have d2 : w2.cell? ⟨w.heap.size + 1, 2, none⟩ = some (.int .i64 dl) := XD.cell 2
  have d3 : w2.cell? ⟨w.heap.size + 1, 3, none⟩ = some (.bool false) := XD.cell 3
  have dz := XD.lt
  have r0 : w2.cell? ⟨w.heap.size + 2, 0, none⟩ = some (.slice none 0 0) := RJ.cell 0
  have r1 : w2.cell? ⟨w.heap.size + 2, 1, none⟩ = some (.int .i64 0) := RJ.cell 1
  have r2 : w2.cell? ⟨w.heap.size + 2, 2, none⟩ = some (.int .i64 0) := RJ.cell 2
  have f0 := RJ.free 0
  have f1 := RJ.free 1
  have f2 := RJ.free 2
  have rz := RJ.lt
  have s0 : w2.cell? ⟨w.heap.size + 3, 0, none⟩ = some (.slice none 0 0) := RD.cell 0
  have s1 : w2.cell? ⟨w.heap.size + 3, 1, none⟩ = some (.slice none 0 0) := RD.cell 1
  have s2 : w2.cell? ⟨w.heap.size + 3, 2, none⟩ = some (.int .i64 0) := RD.cell 2
  have s3 : w2.cell? ⟨w.heap.size + 3, 3, none⟩ = some (.bool false) := RD.cell 3
  have g0 := RD.free 0
  have g1 := RD.free 1
  have g2 := RD.free 2
  have g3 := RD.free 3
  have sz := RD.lt
  clear XJ XD
  by_cases hq : many = (ns : Int)
  · have hp0 : 0 < np := by
      rcases hmn with h | h
      · exact absurd hq h
      · exact h
    subst hq
    have e3 : decide (0 < (np : Int)) = true := by simp; omega
    have e4 : decide (0 < np) = true := by simp; omega
    clear hmn hp0
    go_wp2
    clear x0 x1 x2 xz d0 d1 d2 d3 dz r0 r1 r2 f0 f1 f2 rz s0 s1 s2 s3 g0 g1 g2 g3 sz
    have RJ := (((((((RJ).set 0 (.slice none 0 0)).set 1 (.int .i64 0)).set 2 (.int .i64 0)).other (a := ⟨w.heap.size + 3, 0, none⟩) (by simp) (.slice none 0 0)).other (a := ⟨w.heap.size + 3, 1, none⟩) (by simp) (.slice none 0 0)).other (a := ⟨w.heap.size + 3, 2, none⟩) (by simp) (.int .i64 0)).other (a := ⟨w.heap.size + 3, 3, none⟩) (by simp) (.bool false)
    have RD := (((((((RD).other (a := ⟨w.heap.size + 2, 0, none⟩) (by simp) (.slice none 0 0)).other (a := ⟨w.heap.size + 2, 1, none⟩) (by simp) (.int .i64 0)).other (a := ⟨w.heap.size + 2, 2, none⟩) (by simp) (.int .i64 0)).set 0 (.slice none 0 0)).set 1 (.slice none 0 0)).set 2 (.int .i64 0)).set 3 (.bool false)
    have hB := (((((((hB).setCell (p := ⟨w.heap.size + 2, 0, none⟩) (by simp) (.slice none 0 0)).setCell (p := ⟨w.heap.size + 2, 1, none⟩) (by simp) (.int .i64 0)).setCell (p := ⟨w.heap.size + 2, 2, none⟩) (by simp) (.int .i64 0)).setCell (p := ⟨w.heap.size + 3, 0, none⟩) (by simp) (.slice none 0 0)).setCell (p := ⟨w.heap.size + 3, 1, none⟩) (by simp) (.slice none 0 0)).setCell (p := ⟨w.heap.size + 3, 2, none⟩) (by simp) (.int .i64 0)).setCell (p := ⟨w.heap.size + 3, 3, none⟩) (by simp) (.bool false)
    generalize (((((((w2).setCell ⟨w.heap.size + 2, 0, none⟩ (.slice none 0 0)).setCell ⟨w.heap.size + 2, 1, none⟩ (.int .i64 0)).setCell ⟨w.heap.size + 2, 2, none⟩ (.int .i64 0)).setCell ⟨w.heap.size + 3, 0, none⟩ (.slice none 0 0)).setCell ⟨w.heap.size + 3, 1, none⟩ (.slice none 0 0)).setCell ⟨w.heap.size + 3, 2, none⟩ (.int .i64 0)).setCell ⟨w.heap.size + 3, 3, none⟩ (.bool false) = W at RJ RD hB ⊢
    have y0 : W.cell? ⟨w.heap.size + 2, 0, none⟩ = some (.slice none 0 0) := RJ.cell 0
    have y1 : W.cell? ⟨w.heap.size + 2, 1, none⟩ = some (.int .i64 0) := RJ.cell 1
    have y2 : W.cell? ⟨w.heap.size + 2, 2, none⟩ = some (.int .i64 0) := RJ.cell 2
    have z0 : W.cell? ⟨w.heap.size + 3, 0, none⟩ = some (.slice none 0 0) := RD.cell 0
    have z1 : W.cell? ⟨w.heap.size + 3, 1, none⟩ = some (.slice none 0 0) := RD.cell 1
    have z2 : W.cell? ⟨w.heap.size + 3, 2, none⟩ = some (.int .i64 0) := RD.cell 2
    have z3 : W.cell? ⟨w.heap.size + 3, 3, none⟩ = some (.bool false) := RD.cell 3
    refine bodyPost_ret (v := .tuple #[.agg #[.slice none 0 0, .int .i64 0, .int .i64 0], .agg #[.slice none 0 0, .slice none 0 0, .int .i64 0, .bool false], .int .i64 1]) (by simp [results, Try.results22, go_sem, y0, y1, y2, z0, z1, z2, z3]) rfl ?_
    exact ⟨none, 0, 0, Jn.zero, .slice none 0 0, .slice none 0 0, Dk.zero, 1, rfl, hT, rfl, Lib.hid (rwAt_nil _ _), dkAt_zero _ _, hB⟩
  · have e1 : (many != (ns : Int)) = true := by simp [hq]
    have e2 : (many == (ns : Int)) = false := by simp [hq]
    clear hmn hq
    go_wp2
    clear x0 x1 x2 xz d0 d1 d2 d3 dz r0 r1 r2 f0 f1 f2 rz s0 s1 s2 s3 g0 g1 g2 g3 sz
    have RJ := (((((((RJ).set 0 (.slice none 0 0)).set 1 (.int .i64 0)).set 2 (.int .i64 0)).other (a := ⟨w.heap.size + 3, 0, none⟩) (by simp) (.slice none 0 0)).other (a := ⟨w.heap.size + 3, 1, none⟩) (by simp) (.slice none 0 0)).other (a := ⟨w.heap.size + 3, 2, none⟩) (by simp) (.int .i64 0)).other (a := ⟨w.heap.size + 3, 3, none⟩) (by simp) (.bool false)
    have RD := (((((((RD).other (a := ⟨w.heap.size + 2, 0, none⟩) (by simp) (.slice none 0 0)).other (a := ⟨w.heap.size + 2, 1, none⟩) (by simp) (.int .i64 0)).other (a := ⟨w.heap.size + 2, 2, none⟩) (by simp) (.int .i64 0)).set 0 (.slice none 0 0)).set 1 (.slice none 0 0)).set 2 (.int .i64 0)).set 3 (.bool false)
    have hB := (((((((hB).setCell (p := ⟨w.heap.size + 2, 0, none⟩) (by simp) (.slice none 0 0)).setCell (p := ⟨w.heap.size + 2, 1, none⟩) (by simp) (.int .i64 0)).setCell (p := ⟨w.heap.size + 2, 2, none⟩) (by simp) (.int .i64 0)).setCell (p := ⟨w.heap.size + 3, 0, none⟩) (by simp) (.slice none 0 0)).setCell (p := ⟨w.heap.size + 3, 1, none⟩) (by simp) (.slice none 0 0)).setCell (p := ⟨w.heap.size + 3, 2, none⟩) (by simp) (.int .i64 0)).setCell (p := ⟨w.heap.size + 3, 3, none⟩) (by simp) (.bool false)
    generalize (((((((w2).setCell ⟨w.heap.size + 2, 0, none⟩ (.slice none 0 0)).setCell ⟨w.heap.size + 2, 1, none⟩ (.int .i64 0)).setCell ⟨w.heap.size + 2, 2, none⟩ (.int .i64 0)).setCell ⟨w.heap.size + 3, 0, none⟩ (.slice none 0 0)).setCell ⟨w.heap.size + 3, 1, none⟩ (.slice none 0 0)).setCell ⟨w.heap.size + 3, 2, none⟩ (.int .i64 0)).setCell ⟨w.heap.size + 3, 3, none⟩ (.bool false) = W at RJ RD hB ⊢
    have y0 : W.cell? ⟨w.heap.size + 2, 0, none⟩ = some (.slice none 0 0) := RJ.cell 0
    have y1 : W.cell? ⟨w.heap.size + 2, 1, none⟩ = some (.int .i64 0) := RJ.cell 1
    have y2 : W.cell? ⟨w.heap.size + 2, 2, none⟩ = some (.int .i64 0) := RJ.cell 2
    have z0 : W.cell? ⟨w.heap.size + 3, 0, none⟩ = some (.slice none 0 0) := RD.cell 0
    have z1 : W.cell? ⟨w.heap.size + 3, 1, none⟩ = some (.slice none 0 0) := RD.cell 1
    have z2 : W.cell? ⟨w.heap.size + 3, 2, none⟩ = some (.int .i64 0) := RD.cell 2
    have z3 : W.cell? ⟨w.heap.size + 3, 3, none⟩ = some (.bool false) := RD.cell 3
    refine bodyPost_ret (v := .tuple #[.agg #[.slice none 0 0, .int .i64 0, .int .i64 0], .agg #[.slice none 0 0, .slice none 0 0, .int .i64 0, .bool false], .int .i64 1]) (by simp [results, Try.results22, go_sem, y0, y1, y2, z0, z1, z2, z3]) rfl ?_
    exact ⟨none, 0, 0, Jn.zero, .slice none 0 0, .slice none 0 0, Dk.zero, 1, rfl, hT, rfl, Lib.hid (rwAt_nil _ _), dkAt_zero _ _, hB⟩

end Go.Proofs.Ythlidhfahaalgaa
