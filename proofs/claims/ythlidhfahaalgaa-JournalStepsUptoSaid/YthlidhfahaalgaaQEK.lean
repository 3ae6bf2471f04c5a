/- Contract of Sync of the reference of chapter 4, whole. No condition. -/
import Derived.Test.YthlidhfahaalgaaQDY
import Derived.Test.YthlidhfahaalgaaQDZ
import Derived.Test.YthlidhfahaalgaaQJW
import Derived.Test.YthlidhfahaalgaaQK
import Derived.Deep.CutBlock
set_option linter.unusedVariables false
set_option linter.unusedSimpArgs false
set_option maxRecDepth 100000
set_option maxHeartbeats 16000000
namespace Go.Proofs.Ythlidhfahaalgaa
open Go.RowKit
end Go.Proofs.Ythlidhfahaalgaa
namespace Go.Proofs.Ythlidhfahaalgaa
open Go.RowKit
attribute [local go_sem ↓ high] app_named cop_named
theorem jSync_1 (l : Jn) (A : Option Addr) (n c : Nat) (many sync : Int) (d : Dk) (As : Option Addr) (ns cs : Nat) (Ap : Option Addr) (np cp : Nat) (dl : Int) (ds : Bool) (S : Nat → Prop) (w : World) (h : Hid (RwAt w S (.slice A n c) l.records)) (hn : Hid (l.records.length = n)) (hm : Hid (l.many = many)) (hy : Hid (l.synced = sync)) (hs : Hid (sumB l.records ≤ 4194304)) (_hD : Hid (DkAt w S (.slice As ns cs) (.slice Ap np cp) d)) (_hdl : Hid (d.left = dl)) (_hds : Hid (d.stopped = ds)) (_hns : Hid (d.sectors.length = ns)) (_hnp : Hid (d.pending.length = np)) (hT : Hid (syncJ l d = (Jn.zero, Dk.zero, 1))) (hc : Hid (l.checkT = 1)) : Calls Try.prog 21 #[.agg #[.slice A n c, .int .i64 many, .int .i64 sync], .agg #[.slice As ns cs, .slice Ap np cp, .int .i64 dl, .bool ds]] w (RetJD (syncJ l d) S w) := by
  have HB0 := ((((Below.refl w.heap.size w).alloc (Nat.le_refl _) (.cells #[.slice A n c, .int .i64 many, .int .i64 sync] 29)).alloc (by simp) (.cells #[.slice As ns cs, .slice Ap np cp, .int .i64 dl, .bool ds] 25)).alloc (by simp; omega) (.cells #[.slice none 0 0, .int .i64 0, .int .i64 0] 29)).alloc (by simp; omega) (.cells #[.slice none 0 0, .slice none 0 0, .int .i64 0, .bool false] 25)
  have HC := jCheck_any l A n c many sync S ((((w.alloc (.cells #[.slice A n c, .int .i64 many, .int .i64 sync] 29)).alloc (.cells #[.slice As ns cs, .slice Ap np cp, .int .i64 dl, .bool ds] 25)).alloc (.cells #[.slice none 0 0, .int .i64 0, .int .i64 0] 29)).alloc (.cells #[.slice none 0 0, .slice none 0 0, .int .i64 0, .bool false] 25)) (Lib.hid (h.out.keep (Keeps.of HB0))) hn hm hy hs
  rw [hc.out] at HC
  go_enter Try.func21, Try.ntmps21
  go_wp2_with fail
  refine HC.mono ?_
  rintro e w1 ⟨rfl, hb1⟩
  have XJ := ((((Box.new w [.slice A n c, .int .i64 many, .int .i64 sync] 29).alloc (.cells #[.slice As ns cs, .slice Ap np cp, .int .i64 dl, .bool ds] 25)).alloc (.cells #[.slice none 0 0, .int .i64 0, .int .i64 0] 29)).alloc (.cells #[.slice none 0 0, .slice none 0 0, .int .i64 0, .bool false] 25)).later hb1
  have XD := (((Box.newAt (w := w.alloc (.cells #[.slice A n c, .int .i64 many, .int .i64 sync] 29)) (n := w.heap.size + 1) [.slice As ns cs, .slice Ap np cp, .int .i64 dl, .bool ds] 25 (by simp)).alloc (.cells #[.slice none 0 0, .int .i64 0, .int .i64 0] 29)).alloc (.cells #[.slice none 0 0, .slice none 0 0, .int .i64 0, .bool false] 25)).later hb1
  have RJ := ((Box.newAt (w := (w.alloc (.cells #[.slice A n c, .int .i64 many, .int .i64 sync] 29)).alloc (.cells #[.slice As ns cs, .slice Ap np cp, .int .i64 dl, .bool ds] 25)) (n := w.heap.size + 2) [.slice none 0 0, .int .i64 0, .int .i64 0] 29 (by simp)).alloc (.cells #[.slice none 0 0, .slice none 0 0, .int .i64 0, .bool false] 25)).later hb1
  have RD := (Box.newAt (w := ((w.alloc (.cells #[.slice A n c, .int .i64 many, .int .i64 sync] 29)).alloc (.cells #[.slice As ns cs, .slice Ap np cp, .int .i64 dl, .bool ds] 25)).alloc (.cells #[.slice none 0 0, .int .i64 0, .int .i64 0] 29)) (n := w.heap.size + 3) [.slice none 0 0, .slice none 0 0, .int .i64 0, .bool false] 25 (by simp)).later hb1
  have hB := HB0.trans (hb1.mono HB0.size)
  clear hb1 HB0 HC
  obtain ⟨x0, x1, x2⟩ := XJ.c3
  have xz := XJ.lt
  obtain ⟨d0, d1, d2, d3⟩ := XD.c4
  have dz := XD.lt
  obtain ⟨r0, r1, r2⟩ := RJ.c3
  have f0 := RJ.free 0
  have f1 := RJ.free 1
  have f2 := RJ.free 2
  have rz := RJ.lt
  obtain ⟨s0, s1, s2, s3⟩ := RD.c4
  have g0 := RD.free 0
  have g1 := RD.free 1
  have g2 := RD.free 2
  have g3 := RD.free 3
  have sz := RD.lt
  clear XJ XD
  go_wp2
  clear x0 x1 x2 xz d0 d1 d2 d3 dz r0 r1 r2 f0 f1 f2 rz s0 s1 s2 s3 g0 g1 g2 g3 sz
  have RJ := (((((((RJ).set 0 (.slice none 0 0)).set 1 (.int .i64 0)).set 2 (.int .i64 0)).other (a := ⟨w.heap.size + 3, 0, none⟩) (by simp) (.slice none 0 0)).other (a := ⟨w.heap.size + 3, 1, none⟩) (by simp) (.slice none 0 0)).other (a := ⟨w.heap.size + 3, 2, none⟩) (by simp) (.int .i64 0)).other (a := ⟨w.heap.size + 3, 3, none⟩) (by simp) (.bool false)
  have RD := (((((((RD).other (a := ⟨w.heap.size + 2, 0, none⟩) (by simp) (.slice none 0 0)).other (a := ⟨w.heap.size + 2, 1, none⟩) (by simp) (.int .i64 0)).other (a := ⟨w.heap.size + 2, 2, none⟩) (by simp) (.int .i64 0)).set 0 (.slice none 0 0)).set 1 (.slice none 0 0)).set 2 (.int .i64 0)).set 3 (.bool false)
  have hB := (((((((hB).setCell (p := ⟨w.heap.size + 2, 0, none⟩) (by simp) (.slice none 0 0)).setCell (p := ⟨w.heap.size + 2, 1, none⟩) (by simp) (.int .i64 0)).setCell (p := ⟨w.heap.size + 2, 2, none⟩) (by simp) (.int .i64 0)).setCell (p := ⟨w.heap.size + 3, 0, none⟩) (by simp) (.slice none 0 0)).setCell (p := ⟨w.heap.size + 3, 1, none⟩) (by simp) (.slice none 0 0)).setCell (p := ⟨w.heap.size + 3, 2, none⟩) (by simp) (.int .i64 0)).setCell (p := ⟨w.heap.size + 3, 3, none⟩) (by simp) (.bool false)
  generalize (((((((w1).setCell ⟨w.heap.size + 2, 0, none⟩ (.slice none 0 0)).setCell ⟨w.heap.size + 2, 1, none⟩ (.int .i64 0)).setCell ⟨w.heap.size + 2, 2, none⟩ (.int .i64 0)).setCell ⟨w.heap.size + 3, 0, none⟩ (.slice none 0 0)).setCell ⟨w.heap.size + 3, 1, none⟩ (.slice none 0 0)).setCell ⟨w.heap.size + 3, 2, none⟩ (.int .i64 0)).setCell ⟨w.heap.size + 3, 3, none⟩ (.bool false) = W at RJ RD hB ⊢
  obtain ⟨y0, y1, y2⟩ := RJ.c3
  obtain ⟨z0, z1, z2, z3⟩ := RD.c4
  refine bodyPost_ret (v := .tuple #[.agg #[.slice none 0 0, .int .i64 0, .int .i64 0], .agg #[.slice none 0 0, .slice none 0 0, .int .i64 0, .bool false], .int .i64 1]) (by simp [results, Try.results21, go_sem, y0, y1, y2, z0, z1, z2, z3]) rfl ?_
  exact ⟨none, 0, 0, Jn.zero, .slice none 0 0, .slice none 0 0, Dk.zero, 1, rfl, hT, rfl, Lib.hid (rwAt_nil _ _), dkAt_zero _ _, hB⟩
theorem jSync_2 (l : Jn) (A : Option Addr) (n c : Nat) (many sync : Int) (d : Dk) (As : Option Addr) (ns cs : Nat) (Ap : Option Addr) (np cp : Nat) (dl : Int) (ds : Bool) (S : Nat → Prop) (w : World) (h : Hid (RwAt w S (.slice A n c) l.records)) (hn : Hid (l.records.length = n)) (hm : Hid (l.many = many)) (hy : Hid (l.synced = sync)) (hs : Hid (sumB l.records ≤ 4194304)) (hD : Hid (DkAt w S (.slice As ns cs) (.slice Ap np cp) d)) (hdl : Hid (d.left = dl)) (hds : Hid (d.stopped = ds)) (_hns : Hid (d.sectors.length = ns)) (_hnp : Hid (d.pending.length = np)) (hc : Hid (l.checkT = 0)) (er : Int) (hT : Hid (syncJ l d = (Jn.zero, Dk.zero, er))) (hcd : Hid (d.checkT = er)) (he : er ≠ 0) : Calls Try.prog 21 #[.agg #[.slice A n c, .int .i64 many, .int .i64 sync], .agg #[.slice As ns cs, .slice Ap np cp, .int .i64 dl, .bool ds]] w (RetJD (syncJ l d) S w) := by
  have HB0 := ((((Below.refl w.heap.size w).alloc (Nat.le_refl _) (.cells #[.slice A n c, .int .i64 many, .int .i64 sync] 29)).alloc (by simp) (.cells #[.slice As ns cs, .slice Ap np cp, .int .i64 dl, .bool ds] 25)).alloc (by simp; omega) (.cells #[.slice none 0 0, .int .i64 0, .int .i64 0] 29)).alloc (by simp; omega) (.cells #[.slice none 0 0, .slice none 0 0, .int .i64 0, .bool false] 25)
  have HC := jCheck_any l A n c many sync S ((((w.alloc (.cells #[.slice A n c, .int .i64 many, .int .i64 sync] 29)).alloc (.cells #[.slice As ns cs, .slice Ap np cp, .int .i64 dl, .bool ds] 25)).alloc (.cells #[.slice none 0 0, .int .i64 0, .int .i64 0] 29)).alloc (.cells #[.slice none 0 0, .slice none 0 0, .int .i64 0, .bool false] 25)) (Lib.hid (h.out.keep (Keeps.of HB0))) hn hm hy hs
  rw [hc.out] at HC
  go_enter Try.func21, Try.ntmps21
  go_wp2_with fail
  refine HC.mono ?_
  rintro e w1 ⟨rfl, hb1⟩
  have XJ := ((((Box.new w [.slice A n c, .int .i64 many, .int .i64 sync] 29).alloc (.cells #[.slice As ns cs, .slice Ap np cp, .int .i64 dl, .bool ds] 25)).alloc (.cells #[.slice none 0 0, .int .i64 0, .int .i64 0] 29)).alloc (.cells #[.slice none 0 0, .slice none 0 0, .int .i64 0, .bool false] 25)).later hb1
  have XD := (((Box.newAt (w := w.alloc (.cells #[.slice A n c, .int .i64 many, .int .i64 sync] 29)) (n := w.heap.size + 1) [.slice As ns cs, .slice Ap np cp, .int .i64 dl, .bool ds] 25 (by simp)).alloc (.cells #[.slice none 0 0, .int .i64 0, .int .i64 0] 29)).alloc (.cells #[.slice none 0 0, .slice none 0 0, .int .i64 0, .bool false] 25)).later hb1
  have RJ := ((Box.newAt (w := (w.alloc (.cells #[.slice A n c, .int .i64 many, .int .i64 sync] 29)).alloc (.cells #[.slice As ns cs, .slice Ap np cp, .int .i64 dl, .bool ds] 25)) (n := w.heap.size + 2) [.slice none 0 0, .int .i64 0, .int .i64 0] 29 (by simp)).alloc (.cells #[.slice none 0 0, .slice none 0 0, .int .i64 0, .bool false] 25)).later hb1
  have RD := (Box.newAt (w := ((w.alloc (.cells #[.slice A n c, .int .i64 many, .int .i64 sync] 29)).alloc (.cells #[.slice As ns cs, .slice Ap np cp, .int .i64 dl, .bool ds] 25)).alloc (.cells #[.slice none 0 0, .int .i64 0, .int .i64 0] 29)) (n := w.heap.size + 3) [.slice none 0 0, .slice none 0 0, .int .i64 0, .bool false] 25 (by simp)).later hb1
  have hB := HB0.trans (hb1.mono HB0.size)
  clear hb1 HB0 HC
  obtain ⟨x0, x1, x2⟩ := XJ.c3
  have xz := XJ.lt
  obtain ⟨d0, d1, d2, d3⟩ := XD.c4
  have dz := XD.lt
  obtain ⟨r0, r1, r2⟩ := RJ.c3
  have f0 := RJ.free 0
  have f1 := RJ.free 1
  have f2 := RJ.free 2
  have rz := RJ.lt
  obtain ⟨s0, s1, s2, s3⟩ := RD.c4
  have g0 := RD.free 0
  have g1 := RD.free 1
  have g2 := RD.free 2
  have g3 := RD.free 3
  have sz := RD.lt
  have HDC := dCheck_at hcd (hD.out.keep (Keeps.of hB)) hdl.out hds.out
  go_wp2_with fail
  refine HDC.mono ?_
  rintro e w2 ⟨rfl, hb2⟩
  have XJ := XJ.later hb2
  have XD := XD.later hb2
  have RJ := RJ.later hb2
  have RD := RD.later hb2
  have hB := hB.trans (hb2.mono hB.size)
  clear hb2 HDC
  clear x0 x1 x2 xz d0 d1 d2 d3 dz r0 r1 r2 f0 f1 f2 rz s0 s1 s2 s3 g0 g1 g2 g3 sz
  obtain ⟨x0, x1, x2⟩ := XJ.c3
  have xz := XJ.lt
  obtain ⟨d0, d1, d2, d3⟩ := XD.c4
  have dz := XD.lt
  obtain ⟨r0, r1, r2⟩ := RJ.c3
  have f0 := RJ.free 0
  have f1 := RJ.free 1
  have f2 := RJ.free 2
  have rz := RJ.lt
  obtain ⟨s0, s1, s2, s3⟩ := RD.c4
  have g0 := RD.free 0
  have g1 := RD.free 1
  have g2 := RD.free 2
  have g3 := RD.free 3
  have sz := RD.lt
  have e1 : (er != 0) = true := by simp [he]
  have e2 : (er == 0) = false := by simp [he]
  clear XJ XD he
  go_wp2
  clear x0 x1 x2 xz d0 d1 d2 d3 dz r0 r1 r2 f0 f1 f2 rz s0 s1 s2 s3 g0 g1 g2 g3 sz
  have RJ := (((((((RJ).set 0 (.slice none 0 0)).set 1 (.int .i64 0)).set 2 (.int .i64 0)).other (a := ⟨w.heap.size + 3, 0, none⟩) (by simp) (.slice none 0 0)).other (a := ⟨w.heap.size + 3, 1, none⟩) (by simp) (.slice none 0 0)).other (a := ⟨w.heap.size + 3, 2, none⟩) (by simp) (.int .i64 0)).other (a := ⟨w.heap.size + 3, 3, none⟩) (by simp) (.bool false)
  have RD := (((((((RD).other (a := ⟨w.heap.size + 2, 0, none⟩) (by simp) (.slice none 0 0)).other (a := ⟨w.heap.size + 2, 1, none⟩) (by simp) (.int .i64 0)).other (a := ⟨w.heap.size + 2, 2, none⟩) (by simp) (.int .i64 0)).set 0 (.slice none 0 0)).set 1 (.slice none 0 0)).set 2 (.int .i64 0)).set 3 (.bool false)
  have hB := (((((((hB).setCell (p := ⟨w.heap.size + 2, 0, none⟩) (by simp) (.slice none 0 0)).setCell (p := ⟨w.heap.size + 2, 1, none⟩) (by simp) (.int .i64 0)).setCell (p := ⟨w.heap.size + 2, 2, none⟩) (by simp) (.int .i64 0)).setCell (p := ⟨w.heap.size + 3, 0, none⟩) (by simp) (.slice none 0 0)).setCell (p := ⟨w.heap.size + 3, 1, none⟩) (by simp) (.slice none 0 0)).setCell (p := ⟨w.heap.size + 3, 2, none⟩) (by simp) (.int .i64 0)).setCell (p := ⟨w.heap.size + 3, 3, none⟩) (by simp) (.bool false)
  generalize (((((((w2).setCell ⟨w.heap.size + 2, 0, none⟩ (.slice none 0 0)).setCell ⟨w.heap.size + 2, 1, none⟩ (.int .i64 0)).setCell ⟨w.heap.size + 2, 2, none⟩ (.int .i64 0)).setCell ⟨w.heap.size + 3, 0, none⟩ (.slice none 0 0)).setCell ⟨w.heap.size + 3, 1, none⟩ (.slice none 0 0)).setCell ⟨w.heap.size + 3, 2, none⟩ (.int .i64 0)).setCell ⟨w.heap.size + 3, 3, none⟩ (.bool false) = W at RJ RD hB ⊢
  obtain ⟨y0, y1, y2⟩ := RJ.c3
  obtain ⟨z0, z1, z2, z3⟩ := RD.c4
  refine bodyPost_ret (v := .tuple #[.agg #[.slice none 0 0, .int .i64 0, .int .i64 0], .agg #[.slice none 0 0, .slice none 0 0, .int .i64 0, .bool false], .int .i64 er]) (by simp [results, Try.results21, go_sem, y0, y1, y2, z0, z1, z2, z3]) rfl ?_
  exact ⟨none, 0, 0, Jn.zero, .slice none 0 0, .slice none 0 0, Dk.zero, er, rfl, hT, rfl, Lib.hid (rwAt_nil _ _), dkAt_zero _ _, hB⟩
theorem jSync_3 (l : Jn) (A : Option Addr) (n c : Nat) (many sync : Int) (d : Dk) (As : Option Addr) (ns cs : Nat) (Ap : Option Addr) (np cp : Nat) (dl : Int) (ds : Bool) (S : Nat → Prop) (w : World) (h : Hid (RwAt w S (.slice A n c) l.records)) (hn : Hid (l.records.length = n)) (hm : Hid (l.many = many)) (hy : Hid (l.synced = sync)) (hs : Hid (sumB l.records ≤ 4194304)) (hD : Hid (DkAt w S (.slice As ns cs) (.slice Ap np cp) d)) (hdl : Hid (d.left = dl)) (hds : Hid (d.stopped = ds)) (_hns : Hid (d.sectors.length = ns)) (_hnp : Hid (d.pending.length = np)) (hc : Hid (l.checkT = 0)) (hcd : Hid (d.checkT = 0)) (hT : Hid (syncJ l d = (Jn.zero, Dk.zero, 1))) (hst : ds = false) (hmn : many ≠ (ns : Int)) : Calls Try.prog 21 #[.agg #[.slice A n c, .int .i64 many, .int .i64 sync], .agg #[.slice As ns cs, .slice Ap np cp, .int .i64 dl, .bool ds]] w (RetJD (syncJ l d) S w) := by
  subst hst
  have HB0 := ((((Below.refl w.heap.size w).alloc (Nat.le_refl _) (.cells #[.slice A n c, .int .i64 many, .int .i64 sync] 29)).alloc (by simp) (.cells #[.slice As ns cs, .slice Ap np cp, .int .i64 dl, .bool false] 25)).alloc (by simp; omega) (.cells #[.slice none 0 0, .int .i64 0, .int .i64 0] 29)).alloc (by simp; omega) (.cells #[.slice none 0 0, .slice none 0 0, .int .i64 0, .bool false] 25)
  have HC := jCheck_any l A n c many sync S ((((w.alloc (.cells #[.slice A n c, .int .i64 many, .int .i64 sync] 29)).alloc (.cells #[.slice As ns cs, .slice Ap np cp, .int .i64 dl, .bool false] 25)).alloc (.cells #[.slice none 0 0, .int .i64 0, .int .i64 0] 29)).alloc (.cells #[.slice none 0 0, .slice none 0 0, .int .i64 0, .bool false] 25)) (Lib.hid (h.out.keep (Keeps.of HB0))) hn hm hy hs
  rw [hc.out] at HC
  go_enter Try.func21, Try.ntmps21
  go_wp2_with fail
  refine HC.mono ?_
  rintro e w1 ⟨rfl, hb1⟩
  have XJ := ((((Box.new w [.slice A n c, .int .i64 many, .int .i64 sync] 29).alloc (.cells #[.slice As ns cs, .slice Ap np cp, .int .i64 dl, .bool false] 25)).alloc (.cells #[.slice none 0 0, .int .i64 0, .int .i64 0] 29)).alloc (.cells #[.slice none 0 0, .slice none 0 0, .int .i64 0, .bool false] 25)).later hb1
  have XD := (((Box.newAt (w := w.alloc (.cells #[.slice A n c, .int .i64 many, .int .i64 sync] 29)) (n := w.heap.size + 1) [.slice As ns cs, .slice Ap np cp, .int .i64 dl, .bool false] 25 (by simp)).alloc (.cells #[.slice none 0 0, .int .i64 0, .int .i64 0] 29)).alloc (.cells #[.slice none 0 0, .slice none 0 0, .int .i64 0, .bool false] 25)).later hb1
  have RJ := ((Box.newAt (w := (w.alloc (.cells #[.slice A n c, .int .i64 many, .int .i64 sync] 29)).alloc (.cells #[.slice As ns cs, .slice Ap np cp, .int .i64 dl, .bool false] 25)) (n := w.heap.size + 2) [.slice none 0 0, .int .i64 0, .int .i64 0] 29 (by simp)).alloc (.cells #[.slice none 0 0, .slice none 0 0, .int .i64 0, .bool false] 25)).later hb1
  have RD := (Box.newAt (w := ((w.alloc (.cells #[.slice A n c, .int .i64 many, .int .i64 sync] 29)).alloc (.cells #[.slice As ns cs, .slice Ap np cp, .int .i64 dl, .bool false] 25)).alloc (.cells #[.slice none 0 0, .int .i64 0, .int .i64 0] 29)) (n := w.heap.size + 3) [.slice none 0 0, .slice none 0 0, .int .i64 0, .bool false] 25 (by simp)).later hb1
  have hB := HB0.trans (hb1.mono HB0.size)
  clear hb1 HB0 HC
  obtain ⟨x0, x1, x2⟩ := XJ.c3
  have xz := XJ.lt
  obtain ⟨d0, d1, d2, d3⟩ := XD.c4
  have dz := XD.lt
  obtain ⟨r0, r1, r2⟩ := RJ.c3
  have f0 := RJ.free 0
  have f1 := RJ.free 1
  have f2 := RJ.free 2
  have rz := RJ.lt
  obtain ⟨s0, s1, s2, s3⟩ := RD.c4
  have g0 := RD.free 0
  have g1 := RD.free 1
  have g2 := RD.free 2
  have g3 := RD.free 3
  have sz := RD.lt
  have HDC := dCheck_at hcd (hD.out.keep (Keeps.of hB)) hdl.out hds.out
  go_wp2_with fail
  refine HDC.mono ?_
  rintro e w2 ⟨rfl, hb2⟩
  have XJ := XJ.later hb2
  have XD := XD.later hb2
  have RJ := RJ.later hb2
  have RD := RD.later hb2
  have hB := hB.trans (hb2.mono hB.size)
  clear hb2 HDC
  clear x0 x1 x2 xz d0 d1 d2 d3 dz r0 r1 r2 f0 f1 f2 rz s0 s1 s2 s3 g0 g1 g2 g3 sz
  obtain ⟨x0, x1, x2⟩ := XJ.c3
  have xz := XJ.lt
  obtain ⟨d0, d1, d2, d3⟩ := XD.c4
  have dz := XD.lt
  obtain ⟨r0, r1, r2⟩ := RJ.c3
  have f0 := RJ.free 0
  have f1 := RJ.free 1
  have f2 := RJ.free 2
  have rz := RJ.lt
  obtain ⟨s0, s1, s2, s3⟩ := RD.c4
  have g0 := RD.free 0
  have g1 := RD.free 1
  have g2 := RD.free 2
  have g3 := RD.free 3
  have sz := RD.lt
  have e1 : (many != (ns : Int)) = true := by simp [hmn]
  have e2 : (many == (ns : Int)) = false := by simp [hmn]
  clear XJ XD hmn
  go_wp2
  clear x0 x1 x2 xz d0 d1 d2 d3 dz r0 r1 r2 f0 f1 f2 rz s0 s1 s2 s3 g0 g1 g2 g3 sz
  have RJ := (((((((RJ).set 0 (.slice none 0 0)).set 1 (.int .i64 0)).set 2 (.int .i64 0)).other (a := ⟨w.heap.size + 3, 0, none⟩) (by simp) (.slice none 0 0)).other (a := ⟨w.heap.size + 3, 1, none⟩) (by simp) (.slice none 0 0)).other (a := ⟨w.heap.size + 3, 2, none⟩) (by simp) (.int .i64 0)).other (a := ⟨w.heap.size + 3, 3, none⟩) (by simp) (.bool false)
  have RD := (((((((RD).other (a := ⟨w.heap.size + 2, 0, none⟩) (by simp) (.slice none 0 0)).other (a := ⟨w.heap.size + 2, 1, none⟩) (by simp) (.int .i64 0)).other (a := ⟨w.heap.size + 2, 2, none⟩) (by simp) (.int .i64 0)).set 0 (.slice none 0 0)).set 1 (.slice none 0 0)).set 2 (.int .i64 0)).set 3 (.bool false)
  have hB := (((((((hB).setCell (p := ⟨w.heap.size + 2, 0, none⟩) (by simp) (.slice none 0 0)).setCell (p := ⟨w.heap.size + 2, 1, none⟩) (by simp) (.int .i64 0)).setCell (p := ⟨w.heap.size + 2, 2, none⟩) (by simp) (.int .i64 0)).setCell (p := ⟨w.heap.size + 3, 0, none⟩) (by simp) (.slice none 0 0)).setCell (p := ⟨w.heap.size + 3, 1, none⟩) (by simp) (.slice none 0 0)).setCell (p := ⟨w.heap.size + 3, 2, none⟩) (by simp) (.int .i64 0)).setCell (p := ⟨w.heap.size + 3, 3, none⟩) (by simp) (.bool false)
  generalize (((((((w2).setCell ⟨w.heap.size + 2, 0, none⟩ (.slice none 0 0)).setCell ⟨w.heap.size + 2, 1, none⟩ (.int .i64 0)).setCell ⟨w.heap.size + 2, 2, none⟩ (.int .i64 0)).setCell ⟨w.heap.size + 3, 0, none⟩ (.slice none 0 0)).setCell ⟨w.heap.size + 3, 1, none⟩ (.slice none 0 0)).setCell ⟨w.heap.size + 3, 2, none⟩ (.int .i64 0)).setCell ⟨w.heap.size + 3, 3, none⟩ (.bool false) = W at RJ RD hB ⊢
  obtain ⟨y0, y1, y2⟩ := RJ.c3
  obtain ⟨z0, z1, z2, z3⟩ := RD.c4
  refine bodyPost_ret (v := .tuple #[.agg #[.slice none 0 0, .int .i64 0, .int .i64 0], .agg #[.slice none 0 0, .slice none 0 0, .int .i64 0, .bool false], .int .i64 1]) (by simp [results, Try.results21, go_sem, y0, y1, y2, z0, z1, z2, z3]) rfl ?_
  exact ⟨none, 0, 0, Jn.zero, .slice none 0 0, .slice none 0 0, Dk.zero, 1, rfl, hT, rfl, Lib.hid (rwAt_nil _ _), dkAt_zero _ _, hB⟩
end Go.Proofs.Ythlidhfahaalgaa
namespace Go.Proofs.Ythlidhfahaalgaa
open Go.RowKit
attribute [local go_sem ↓ high] app_named cop_named
theorem RwAt.taken {w : World} {S : Nat → Prop} {A : Option Addr} {n c k : Nat} {l : List Bs} (h : RwAt w S (.slice A n c) l) (hn : l.length = n) (hk : k ≤ n) : RwAt w S (.slice A k c) (l.take k) := by
  obtain ⟨hf, V, ⟨A', c', hv, hm, hs⟩, hb⟩ := h
  cases hv
  refine ⟨?_, V, ⟨A, c, by rw [List.length_take, Nat.min_eq_left (by omega)], by rw [List.length_take]; omega, fun i hi => hs i (by rw [List.length_take] at hi; omega)⟩, fun i x hx => hb i x (by rw [List.getElem?_take] at hx; split at hx; exact hx; cases hx)⟩
  rcases hf with e | ⟨a, n', c', e, h1, h2⟩
  · injection e with e1 e2 e3
    subst e1 e3
    have : k = 0 := by omega
    subst this
    exact .inl rfl
  · injection e with e1 e2 e3
    subst e1 e3
    exact .inr ⟨a, k, c, rfl, by omega, h2⟩
theorem RwAt.droped {w : World} {S : Nat → Prop} {b off n c k : Nat} {l : List Bs} (h : RwAt w S (.slice (some ⟨b, off, none⟩) n c) l) (hn : l.length = n) (hk : k ≤ n) : RwAt w S (.slice (some ⟨b, off + k, none⟩) (n - k) (c - k)) (l.drop k) := by
  obtain ⟨hf, V, ⟨A', c', hv, hm, hs⟩, hb⟩ := h
  cases hv
  have hl : (l.drop k).length = l.length - k := by rw [List.length_drop]
  refine ⟨?_, fun i => V (k + i), ⟨_, c - k, by rw [hl], by rw [hl]; omega, fun i hi => ?_⟩, fun i x hx => hb (k + i) x (by rwa [List.getElem?_drop] at hx)⟩
  · rcases hf with e | ⟨a, n', c', e, h1, h2⟩
    · cases e
    · injection e with e1 e2 e3
      subst e2 e3
      exact .inr ⟨_, _, _, rfl, by omega, by omega⟩
  · rw [hl] at hi
    obtain ⟨b', o', e, h1, h2, h3⟩ := hs (k + i) (by omega)
    cases e
    exact ⟨b, _, rfl, h1, h2, fun j hj => by rw [← h3 j hj]; congr 2; omega⟩
theorem RwAt.caps {w : World} {S : Nat → Prop} {A : Option Addr} {n c : Nat} {l : List Bs} (h : RwAt w S (.slice A n c) l) : n ≤ c ∧ c ≤ 9223372036854775807 ∧ (A = none → n = 0 ∧ c = 0) := by
  rcases h.1 with e | ⟨a, n', c', e, h1, h2⟩
  · injection e with e1 e2 e3
    subst e1 e2 e3
    exact ⟨Nat.le_refl _, by decide, fun _ => ⟨rfl, rfl⟩⟩
  · injection e with e1 e2 e3
    subst e1 e2 e3
    exact ⟨h1, by simpa only [maxLen] using h2, fun h => by cases h⟩
theorem jSync_5 (l : Jn) (A : Option Addr) (n c k : Nat) (d : Dk) (As : Option Addr) (ns cs : Nat) (Ap : Option Addr) (cp : Nat) (dl : Int) (S : Nat → Prop) (w : World) (h : Hid (RwAt w S (.slice A n c) l.records)) (hn : Hid (l.records.length = n)) (hm : Hid (l.many = (ns : Int))) (hy : Hid (l.synced = (k : Int))) (hs : Hid (sumB l.records ≤ 4194304)) (hD : Hid (DkAt w S (.slice As ns cs) (.slice Ap 0 cp) d)) (hdl : Hid (d.left = dl)) (hds : Hid (d.stopped = false)) (hns : Hid (d.sectors.length = ns)) (hnp : Hid (d.pending.length = 0)) (hc : Hid (l.checkT = 0)) (hcd : Hid (d.checkT = 0)) (hfit : Hid (decide (recordsT d.sectors = l.records.take k) = true → genM d.sectors + 1 ≤ 4294967295 → k = n)) : Calls Try.prog 21 #[.agg #[.slice A n c, .int .i64 (ns : Int), .int .i64 (k : Int)], .agg #[.slice As ns cs, .slice Ap 0 cp, .int .i64 dl, .bool false]] w (RetJD (syncJ l d) S w) := by
  have HOK : Hid (l.okB = true) := by
    rcases hh : l.okB with _ | _
    · have := hc.out; rw [Jn.bad hh] at this; cases this
    · rfl
  have h128 : Hid (∀ s ∈ d.sectors, s.length = 128) := Lib.hid (by
    have hok : d.okB = true := by
      rcases h : d.okB with _ | _
      · have := hcd.out; rw [Dk.checkT, h] at this; exact absurd this (by decide)
      · rfl
    exact (okB_parts hok).2.2.2.2.2.2)
  have hns2 : ns ≤ 4096 := by
    have hok : d.okB = true := by
      rcases h : d.okB with _ | _
      · have := hcd.out; rw [Dk.checkT, h] at this; exact absurd this (by decide)
      · rfl
    rw [← hns.out]; exact (okB_parts hok).2.1
  have HD0 := Lib.hid (hD.out.sectors)
  have HB0 := ((((Below.refl w.heap.size w).alloc (Nat.le_refl _) (.cells #[.slice A n c, .int .i64 (ns : Int), .int .i64 (k : Int)] 29)).alloc (by simp) (.cells #[.slice As ns cs, .slice Ap 0 cp, .int .i64 dl, .bool false] 25)).alloc (by simp; omega) (.cells #[.slice none 0 0, .int .i64 0, .int .i64 0] 29)).alloc (by simp; omega) (.cells #[.slice none 0 0, .slice none 0 0, .int .i64 0, .bool false] 25)
  have HC := jCheck_any l A n c (ns : Int) (k : Int) S ((((w.alloc (.cells #[.slice A n c, .int .i64 (ns : Int), .int .i64 (k : Int)] 29)).alloc (.cells #[.slice As ns cs, .slice Ap 0 cp, .int .i64 dl, .bool false] 25)).alloc (.cells #[.slice none 0 0, .int .i64 0, .int .i64 0] 29)).alloc (.cells #[.slice none 0 0, .slice none 0 0, .int .i64 0, .bool false] 25)) (Lib.hid (h.out.keep (Keeps.of HB0))) hn hm hy hs
  rw [hc.out] at HC
  go_enter Try.func21, Try.ntmps21
  go_wp2_with fail
  refine HC.mono ?_
  rintro e w1 ⟨rfl, hb1⟩
  have XJ := ((((Box.new w [.slice A n c, .int .i64 (ns : Int), .int .i64 (k : Int)] 29).alloc (.cells #[.slice As ns cs, .slice Ap 0 cp, .int .i64 dl, .bool false] 25)).alloc (.cells #[.slice none 0 0, .int .i64 0, .int .i64 0] 29)).alloc (.cells #[.slice none 0 0, .slice none 0 0, .int .i64 0, .bool false] 25)).later hb1
  have XD := (((Box.newAt (w := w.alloc (.cells #[.slice A n c, .int .i64 (ns : Int), .int .i64 (k : Int)] 29)) (n := w.heap.size + 1) [.slice As ns cs, .slice Ap 0 cp, .int .i64 dl, .bool false] 25 (by simp)).alloc (.cells #[.slice none 0 0, .int .i64 0, .int .i64 0] 29)).alloc (.cells #[.slice none 0 0, .slice none 0 0, .int .i64 0, .bool false] 25)).later hb1
  have RJ := ((Box.newAt (w := (w.alloc (.cells #[.slice A n c, .int .i64 (ns : Int), .int .i64 (k : Int)] 29)).alloc (.cells #[.slice As ns cs, .slice Ap 0 cp, .int .i64 dl, .bool false] 25)) (n := w.heap.size + 2) [.slice none 0 0, .int .i64 0, .int .i64 0] 29 (by simp)).alloc (.cells #[.slice none 0 0, .slice none 0 0, .int .i64 0, .bool false] 25)).later hb1
  have RD := (Box.newAt (w := ((w.alloc (.cells #[.slice A n c, .int .i64 (ns : Int), .int .i64 (k : Int)] 29)).alloc (.cells #[.slice As ns cs, .slice Ap 0 cp, .int .i64 dl, .bool false] 25)).alloc (.cells #[.slice none 0 0, .int .i64 0, .int .i64 0] 29)) (n := w.heap.size + 3) [.slice none 0 0, .slice none 0 0, .int .i64 0, .bool false] 25 (by simp)).later hb1
  have hB := HB0.trans (hb1.mono HB0.size)
  clear hb1 HB0 HC
  obtain ⟨x0, x1, x2⟩ := XJ.c3
  have xz := XJ.lt
  obtain ⟨d0, d1, d2, d3⟩ := XD.c4
  have dz := XD.lt
  obtain ⟨r0, r1, r2⟩ := RJ.c3
  have f0 := RJ.free 0
  have f1 := RJ.free 1
  have f2 := RJ.free 2
  have rz := RJ.lt
  obtain ⟨s0, s1, s2, s3⟩ := RD.c4
  have g0 := RD.free 0
  have g1 := RD.free 1
  have g2 := RD.free 2
  have g3 := RD.free 3
  have sz := RD.lt
  have HDC := dCheck_at hcd (hD.out.keep (Keeps.of hB)) hdl.out hds.out
  go_wp2_with fail
  refine HDC.mono ?_
  rintro e w2 ⟨rfl, hb2⟩
  have XJ := XJ.later hb2
  have XD := XD.later hb2
  have RJ := RJ.later hb2
  have RD := RD.later hb2
  have hB := hB.trans (hb2.mono hB.size)
  clear hb2 HDC
  clear x0 x1 x2 xz d0 d1 d2 d3 dz r0 r1 r2 f0 f1 f2 rz s0 s1 s2 s3 g0 g1 g2 g3 sz
  obtain ⟨x0, x1, x2⟩ := XJ.c3
  have xz := XJ.lt
  obtain ⟨d0, d1, d2, d3⟩ := XD.c4
  have dz := XD.lt
  obtain ⟨r0, r1, r2⟩ := RJ.c3
  have f0 := RJ.free 0
  have f1 := RJ.free 1
  have f2 := RJ.free 2
  have rz := RJ.lt
  obtain ⟨s0, s1, s2, s3⟩ := RD.c4
  have g0 := RD.free 0
  have g1 := RD.free 1
  have g2 := RD.free 2
  have g3 := RD.free 3
  have sz := RD.lt
  have e1 : ((ns : Int) != (ns : Int)) = false := by simp
  go_wp2_with fail
  refine (jOpen_go d As ns cs Ap 0 cp dl false S w2 (Lib.hid (hD.out.keep (Keeps.of hB))) hdl hds hns hnp hcd rfl rfl h128 hns2).mono ?_
  rintro e w3 ⟨A', n', c', m', er, rfl, ht, hn', hrw, hb3⟩
  obtain ⟨R, hR⟩ : ∃ R, recordsT d.sectors = R := ⟨_, rfl⟩
  have hto := ht.out
  rw [openT, hcd.out, hds.out, List.eq_nil_of_length_eq_zero hnp.out, hns.out, hR] at hto
  simp only [ne_eq, not_true_eq_false, if_false, Bool.false_eq_true] at hto
  obtain ⟨rfl, rfl⟩ := Prod.mk.inj hto
  dsimp only at hn' hrw
  have HRR := Lib.hid hR
  have HN' := hn'
  have hn4 : n' ≤ 4096 := by rw [← hn'.out, ← hR]; have := records_len d.sectors; have := hns.out; omega
  have XJ := XJ.later hb3
  have XD := XD.later hb3
  have RJ := RJ.later hb3
  have RD := RD.later hb3
  have hB := hB.trans (hb3.mono hB.size)
  clear hb3 hto ht hR
  rw [hn'.out]
  clear x0 x1 x2 xz d0 d1 d2 d3 dz r0 r1 r2 f0 f1 f2 rz s0 s1 s2 s3 g0 g1 g2 g3 sz
  obtain ⟨x0, x1, x2⟩ := XJ.c3
  have xz := XJ.lt
  obtain ⟨d0, d1, d2, d3⟩ := XD.c4
  have dz := XD.lt
  obtain ⟨r0, r1, r2⟩ := RJ.c3
  have f0 := RJ.free 0
  have f1 := RJ.free 1
  have f2 := RJ.free 2
  have rz := RJ.lt
  obtain ⟨s0, s1, s2, s3⟩ := RD.c4
  have g0 := RD.free 0
  have g1 := RD.free 1
  have g2 := RD.free 2
  have g3 := RD.free 3
  have sz := RD.lt
  go_wp2_with fail
  clear x0 x1 x2 xz d0 d1 d2 d3 dz r0 r1 r2 f0 f1 f2 rz s0 s1 s2 s3 g0 g1 g2 g3 sz
  have XN := Box.new w3 [.slice A' n' c', .int .i64 (ns : Int), .int .i64 (n' : Int)] 29
  have XJ := XJ.alloc (.cells #[.slice A' n' c', .int .i64 (ns : Int), .int .i64 (n' : Int)] 29)
  have hNB := XD.lt
  have XD := XD.alloc (.cells #[.slice A' n' c', .int .i64 (ns : Int), .int .i64 (n' : Int)] 29)
  have RJ := RJ.alloc (.cells #[.slice A' n' c', .int .i64 (ns : Int), .int .i64 (n' : Int)] 29)
  have hNB := RD.lt
  have RD := RD.alloc (.cells #[.slice A' n' c', .int .i64 (ns : Int), .int .i64 (n' : Int)] 29)
  have hrw := Lib.hid (hrw.out.keep (Keeps.of ((Below.refl w3.heap.size w3).alloc (Nat.le_refl _) (.cells #[.slice A' n' c', .int .i64 (ns : Int), .int .i64 (n' : Int)] 29))))
  have hB := hB.alloc hB.size (.cells #[.slice A' n' c', .int .i64 (ns : Int), .int .i64 (n' : Int)] 29)
  generalize w3.alloc (.cells #[.slice A' n' c', .int .i64 (ns : Int), .int .i64 (n' : Int)] 29) = w4 at XN XJ XD RJ RD hrw hB ⊢
  generalize w3.heap.size = NB at XN hNB hrw ⊢
  obtain ⟨G, hG⟩ : ∃ G, genM d.sectors = G := ⟨_, rfl⟩
  have hG32 : G < 4294967296 := by rw [← hG]; exact genM_lt h128.out
  have HG := Lib.hid hG
  clear hG
  go_loopw [10, 59] (fun s10 s59 wi => ∃ (q g : Nat), q ≤ ns ∧ s59 = .int .i64 (q : Int) ∧ s10 = .int .u64 (g : Int) ∧ Hid (g = genM (d.sectors.take q) + 1) ∧ Below w4.heap.size w4 wi) (fun _ s59 _ => ns - (intOf s59).toNat)
  case atStart => exact ⟨0, 1, by omega, rfl, rfl, rfl, Below.refl _ _⟩
  case round =>
    obtain ⟨q, g, hq, rfl, rfl, hg, hB4⟩ := hrel
    have hBi := hB.trans (hB4.mono hB.size)
    obtain ⟨wi, rfl⟩ : ∃ wi : World, wi = wr := ⟨_, rfl⟩
    rcases Nat.lt_or_ge q ns with hlt | hge
    · have hqL : q < d.sectors.length := by rw [hns.out]; exact hlt
      obtain ⟨lb, lo, bs, os, css, hA, hSl, hzl, hcq, hbq, hcs1, hcs2⟩ := sec_at hD.out.sectors h128.out hqL
      subst hA
      have hsq := h128.out _ (List.getElem_mem hqL)
      have hKi : Keeps S w wi := Keeps.of hBi
      obtain ⟨u, hu⟩ : ∃ g, genT d.sectors[q] = g := ⟨_, rfl⟩
      obtain ⟨t, ht⟩ : ∃ t, tailT d.sectors[q] = t := ⟨_, rfl⟩
      have hu32 : u < 4294967296 := by rw [← hu]; exact genT_lt hsq
      have ht32 : t < 4294967296 := by rw [← ht]; exact tailT_lt hsq
      have hnx : Hid (max g (max (u + 1) (t + 1)) = genM (d.sectors.take (q + 1)) + 1) := by rw [Hid, genM_succ hqL, hg.out, hu, ht]; omega
      have hg32 : g ≤ 4294967296 := by rw [hg.out]; have := genM_lt (l := d.sectors.take q) fun s hs => h128.out s (List.mem_of_mem_take hs); omega
      have C1 := get4_at (hbq.keep hKi) hsq ⟨hcs1, hcs2⟩ hu
      have C2 := getTail_at (hbq.keep hKi) hsq ⟨hcs1, hcs2⟩ ht
      have y1 := hKi.cell hSl hzl hcq
      have j1 : IntKind.u64.wrap ((u : Int) + 1) = (u : Int) + 1 := wrap_u64_nat (a := u + 1) (by omega)
      have j2 : IntKind.u64.wrap ((t : Int) + 1) = (t : Int) + 1 := wrap_u64_nat (a := t + 1) (by omega)
      have i0 : (0 : Int) ≤ (q : Int) := by omega
      have i1 : (q : Int) < (ns : Int) := by omega
      have hcsl : (css : Int) ≤ 9223372036854775807 := by simp only [maxLen] at hcs2; omega
      clear hu ht hsq hbq hcq hg
      go_wp2_with fail
      refine wp_region_later (by kernel_rfl) (by kernel_rfl) ?_
      repeat (go_big_quiet_step ((go_at_call 41; first | with_reducible exact Later.same _ (C1 _) | with_reducible exact Later.same _ (C2 _))))
      refine wpQuiet_nil ?_
      intro _ hw'
      obtain ⟨yq, hw''⟩ := hw'
      subst hw''
      go_wp2
      refine ⟨⟨q + 1, max g (max (u + 1) (t + 1)), by omega, by go_num, ?_, hnx, hB4.trans (yq.below.mono hB4.size)⟩, by simp [intOf] <;> omega⟩
      congr 1
      split <;> split <;> omega
    obtain rfl : ns = q := by omega
    have HGG : Hid (g = genM d.sectors + 1) := by rw [Hid, hg.out, ← hns.out, List.take_length]
    have hg33 : g ≤ 4294967296 := by rw [HGG.out, HG.out]; omega
    have XN := XN.later hB4
    have XJ := XJ.later hB4
    have XD := XD.later hB4
    have RJ := RJ.later hB4
    have RD := RD.later hB4
    have hrw := Lib.hid (hrw.out.keep (Keeps.of hB4))
    replace hB := hBi
    clear hBi hB4 hg hge
    obtain ⟨x0, x1, x2⟩ := XJ.c3
    have xz := XJ.lt
    obtain ⟨d0, d1, d2, d3⟩ := XD.c4
    have dz := XD.lt
    obtain ⟨r0, r1, r2⟩ := RJ.c3
    have f0 := RJ.free 0
    have f1 := RJ.free 1
    have f2 := RJ.free 2
    have rz := RJ.lt
    obtain ⟨s0, s1, s2, s3⟩ := RD.c4
    have g0 := RD.free 0
    have g1 := RD.free 1
    have g2 := RD.free 2
    have g3 := RD.free 3
    have sz := RD.lt
    have n0 : wi.cell? ⟨NB, 0, none⟩ = some (.slice A' n' c') := XN.cell 0
    have nz := XN.lt
    obtain ⟨hnc, hcl, hAn⟩ := h.out.caps
    have hkn : k ≤ n := by
      have := (l.okB_iff.1 HOK.out).2.2.2.1
      rw [hy.out, hn.out] at this
      omega
    have hrec : RwAt wi S (.slice A k c) (l.records.take k) := (h.out.taken hn.out hkn).keep (Keeps.of hB)
    obtain ⟨r, hr⟩ : ∃ r, decide (R = l.records.take k) = r := ⟨_, rfl⟩
    have EQ : ∀ x : Later wi, Calls Try.prog 42 #[.slice A' n' c', .slice A k c, .func (.func 43) #[] #[]] x.w fun e w' => e = .returned (.bool r) ∧ x.w = w' := fun x =>
      (jEqualF_any R (l.records.take k) A' A n' c' k c (Grow S w2) S x.w (Lib.hid (hrw.out.keep (Keeps.of x.below))) (Lib.hid (hrec.keep (Keeps.of x.below))) hn' (Lib.hid (by rw [List.length_take, hn.out]; omega)) (by omega) (by omega) r (Lib.hid hr)).mono fun _ _ h => ⟨h.1, h.2.symm⟩
    have HRQ := Lib.hid hr
    have J0 := Later.cell x0 xz
    have J2 := Later.cell x2 xz
    have J3 := Later.cell n0 nz
    have i0 : (k : Int) ≤ (c : Int) := by omega
    obtain ⟨sv, hsv⟩ : ∃ sv, ((g : Int) / 4294967296 != 0) = sv := ⟨_, rfl⟩
    have hsv2 : ((g : Int) / 4294967296 == 0) = !sv := by rw [← hsv, bne, Bool.not_not]
    have HSV := Lib.hid (show sv = decide (4294967295 < g) by rw [← hsv, Bool.eq_iff_iff]; simp; omega)
    have HAn := Lib.hid hAn
    have HCH := Lib.hid hkn
    clear hr hrec hAn hkn hnc
    have hT50 : r = false ∨ sv = true → Hid (syncJ l d = (Jn.zero, Dk.zero, 50)) := fun hh => by
      rw [Hid, syncJ, if_pos HOK.out, if_neg (by rw [hcd.out]; simp), if_neg (by rw [hds.out]; simp), if_neg (by rw [hm.out, hns.out, List.eq_nil_of_length_eq_zero hnp.out]; simp), if_pos]
      rcases hh with hh | hh
      · left; rw [HRR.out, hy.out]; exact of_decide_eq_false (HRQ.out.trans hh)
      · right; rw [hh] at HSV; have := of_decide_eq_true HSV.out.symm; rw [HGG.out] at this; exact this
    have hT6 : r = true → sv = false → k = n → Hid (syncJ l d = (⟨l.records, (ns : Int), (k : Int)⟩, ⟨d.sectors, d.pending, dl, false⟩, 0)) := fun h1 h2 h3 => by
      have el : l = ⟨l.records, (ns : Int), (k : Int)⟩ := by
        have e1 := hm.out
        have e2 := hy.out
        cases l
        simp only at e1 e2
        rw [e1, e2]
      have ed : d = ⟨d.sectors, d.pending, dl, false⟩ := by
        have e1 := hdl.out
        have e2 := hds.out
        cases d
        simp only at e1 e2
        rw [e1, e2]
      rw [Hid, ← el, ← ed, syncJ, if_pos HOK.out, if_neg (by rw [hcd.out]; simp), if_neg (by rw [hds.out]; simp), if_neg (by rw [hm.out, hns.out, List.eq_nil_of_length_eq_zero hnp.out]; simp), if_neg, if_pos (by rw [hy.out, hn.out, h3])]
      rintro (h | h)
      · rw [HRR.out, hy.out] at h; exact h (of_decide_eq_true (HRQ.out.trans h1))
      · rw [← HGG.out] at h; rw [h2] at HSV; exact of_decide_eq_false HSV.out.symm h
    rw [HRR.out, ← HGG.out] at hfit
    rcases A with _ | a
    · obtain ⟨rfl, rfl⟩ := HAn.out rfl
      obtain rfl : k = 0 := by have := HCH.out; omega
      rcases r with _ | _
      · have hT := hT50 (.inl rfl)
        go_wp2_with fail
        refine wp_region_later (by kernel_rfl) (by kernel_rfl) ?_
        repeat (go_big_quiet_step ((go_at_call 42; exact Later.same _ (EQ _))))
        refine wpQuiet_nil ?_
        intro _ hw'
        obtain ⟨yq, hw''⟩ := hw'
        subst hw''
        have XJ := XJ.later yq.below
        have XD := XD.later yq.below
        have RJ := RJ.later yq.below
        have RD := RD.later yq.below
        have hB := hB.trans (yq.below.mono hB.size)
        obtain ⟨w5, hw5⟩ : ∃ w5, yq.w = w5 := ⟨_, rfl⟩
        rw [hw5] at XJ XD RJ RD hB ⊢
        clear hw5 yq
        clear x0 x1 x2 xz d0 d1 d2 d3 dz r0 r1 r2 f0 f1 f2 rz s0 s1 s2 s3 g0 g1 g2 g3 sz
        clear n0 nz J0 J2 J3 EQ
        obtain ⟨r0, r1, r2⟩ := RJ.c3
        have f0 := RJ.free 0
        have f1 := RJ.free 1
        have f2 := RJ.free 2
        have rz := RJ.lt
        obtain ⟨s0, s1, s2, s3⟩ := RD.c4
        have g0 := RD.free 0
        have g1 := RD.free 1
        have g2 := RD.free 2
        have g3 := RD.free 3
        have sz := RD.lt
        go_wp2
        clear r0 r1 r2 f0 f1 f2 rz s0 s1 s2 s3 g0 g1 g2 g3 sz
        have RJ := (((((((RJ).set 0 (.slice none 0 0)).set 1 (.int .i64 0)).set 2 (.int .i64 0)).other (a := ⟨w.heap.size + 3, 0, none⟩) (by simp) (.slice none 0 0)).other (a := ⟨w.heap.size + 3, 1, none⟩) (by simp) (.slice none 0 0)).other (a := ⟨w.heap.size + 3, 2, none⟩) (by simp) (.int .i64 0)).other (a := ⟨w.heap.size + 3, 3, none⟩) (by simp) (.bool false)
        have RD := (((((((RD).other (a := ⟨w.heap.size + 2, 0, none⟩) (by simp) (.slice none 0 0)).other (a := ⟨w.heap.size + 2, 1, none⟩) (by simp) (.int .i64 0)).other (a := ⟨w.heap.size + 2, 2, none⟩) (by simp) (.int .i64 0)).set 0 (.slice none 0 0)).set 1 (.slice none 0 0)).set 2 (.int .i64 0)).set 3 (.bool false)
        have hB := (((((((hB).setCell (p := ⟨w.heap.size + 2, 0, none⟩) (by simp) (.slice none 0 0)).setCell (p := ⟨w.heap.size + 2, 1, none⟩) (by simp) (.int .i64 0)).setCell (p := ⟨w.heap.size + 2, 2, none⟩) (by simp) (.int .i64 0)).setCell (p := ⟨w.heap.size + 3, 0, none⟩) (by simp) (.slice none 0 0)).setCell (p := ⟨w.heap.size + 3, 1, none⟩) (by simp) (.slice none 0 0)).setCell (p := ⟨w.heap.size + 3, 2, none⟩) (by simp) (.int .i64 0)).setCell (p := ⟨w.heap.size + 3, 3, none⟩) (by simp) (.bool false)
        generalize (((((((w5).setCell ⟨w.heap.size + 2, 0, none⟩ (.slice none 0 0)).setCell ⟨w.heap.size + 2, 1, none⟩ (.int .i64 0)).setCell ⟨w.heap.size + 2, 2, none⟩ (.int .i64 0)).setCell ⟨w.heap.size + 3, 0, none⟩ (.slice none 0 0)).setCell ⟨w.heap.size + 3, 1, none⟩ (.slice none 0 0)).setCell ⟨w.heap.size + 3, 2, none⟩ (.int .i64 0)).setCell ⟨w.heap.size + 3, 3, none⟩ (.bool false) = W at RJ RD hB ⊢
        obtain ⟨y0, y1, y2⟩ := RJ.c3
        obtain ⟨z0, z1, z2, z3⟩ := RD.c4
        refine bodyPost_ret (v := .tuple #[.agg #[.slice none 0 0, .int .i64 0, .int .i64 0], .agg #[.slice none 0 0, .slice none 0 0, .int .i64 0, .bool false], .int .i64 50]) (by simp [results, Try.results21, go_sem, y0, y1, y2, z0, z1, z2, z3]) rfl ?_
        exact ⟨none, 0, 0, Jn.zero, .slice none 0 0, .slice none 0 0, Dk.zero, 50, rfl, hT, rfl, Lib.hid (rwAt_nil _ _), dkAt_zero _ _, hB⟩
      rcases sv with _ | _
      rotate_left
      · have hT := hT50 (.inr rfl)
        go_wp2_with fail
        refine wp_region_later (by kernel_rfl) (by kernel_rfl) ?_
        repeat (go_big_quiet_step ((go_at_call 42; exact Later.same _ (EQ _))))
        refine wpQuiet_nil ?_
        intro _ hw'
        obtain ⟨yq, hw''⟩ := hw'
        subst hw''
        have XJ := XJ.later yq.below
        have XD := XD.later yq.below
        have RJ := RJ.later yq.below
        have RD := RD.later yq.below
        have hB := hB.trans (yq.below.mono hB.size)
        obtain ⟨w5, hw5⟩ : ∃ w5, yq.w = w5 := ⟨_, rfl⟩
        rw [hw5] at XJ XD RJ RD hB ⊢
        clear hw5 yq
        clear x0 x1 x2 xz d0 d1 d2 d3 dz r0 r1 r2 f0 f1 f2 rz s0 s1 s2 s3 g0 g1 g2 g3 sz
        clear n0 nz J0 J2 J3 EQ
        obtain ⟨r0, r1, r2⟩ := RJ.c3
        have f0 := RJ.free 0
        have f1 := RJ.free 1
        have f2 := RJ.free 2
        have rz := RJ.lt
        obtain ⟨s0, s1, s2, s3⟩ := RD.c4
        have g0 := RD.free 0
        have g1 := RD.free 1
        have g2 := RD.free 2
        have g3 := RD.free 3
        have sz := RD.lt
        go_wp2
        clear r0 r1 r2 f0 f1 f2 rz s0 s1 s2 s3 g0 g1 g2 g3 sz
        have RJ := (((((((RJ).set 0 (.slice none 0 0)).set 1 (.int .i64 0)).set 2 (.int .i64 0)).other (a := ⟨w.heap.size + 3, 0, none⟩) (by simp) (.slice none 0 0)).other (a := ⟨w.heap.size + 3, 1, none⟩) (by simp) (.slice none 0 0)).other (a := ⟨w.heap.size + 3, 2, none⟩) (by simp) (.int .i64 0)).other (a := ⟨w.heap.size + 3, 3, none⟩) (by simp) (.bool false)
        have RD := (((((((RD).other (a := ⟨w.heap.size + 2, 0, none⟩) (by simp) (.slice none 0 0)).other (a := ⟨w.heap.size + 2, 1, none⟩) (by simp) (.int .i64 0)).other (a := ⟨w.heap.size + 2, 2, none⟩) (by simp) (.int .i64 0)).set 0 (.slice none 0 0)).set 1 (.slice none 0 0)).set 2 (.int .i64 0)).set 3 (.bool false)
        have hB := (((((((hB).setCell (p := ⟨w.heap.size + 2, 0, none⟩) (by simp) (.slice none 0 0)).setCell (p := ⟨w.heap.size + 2, 1, none⟩) (by simp) (.int .i64 0)).setCell (p := ⟨w.heap.size + 2, 2, none⟩) (by simp) (.int .i64 0)).setCell (p := ⟨w.heap.size + 3, 0, none⟩) (by simp) (.slice none 0 0)).setCell (p := ⟨w.heap.size + 3, 1, none⟩) (by simp) (.slice none 0 0)).setCell (p := ⟨w.heap.size + 3, 2, none⟩) (by simp) (.int .i64 0)).setCell (p := ⟨w.heap.size + 3, 3, none⟩) (by simp) (.bool false)
        generalize (((((((w5).setCell ⟨w.heap.size + 2, 0, none⟩ (.slice none 0 0)).setCell ⟨w.heap.size + 2, 1, none⟩ (.int .i64 0)).setCell ⟨w.heap.size + 2, 2, none⟩ (.int .i64 0)).setCell ⟨w.heap.size + 3, 0, none⟩ (.slice none 0 0)).setCell ⟨w.heap.size + 3, 1, none⟩ (.slice none 0 0)).setCell ⟨w.heap.size + 3, 2, none⟩ (.int .i64 0)).setCell ⟨w.heap.size + 3, 3, none⟩ (.bool false) = W at RJ RD hB ⊢
        obtain ⟨y0, y1, y2⟩ := RJ.c3
        obtain ⟨z0, z1, z2, z3⟩ := RD.c4
        refine bodyPost_ret (v := .tuple #[.agg #[.slice none 0 0, .int .i64 0, .int .i64 0], .agg #[.slice none 0 0, .slice none 0 0, .int .i64 0, .bool false], .int .i64 50]) (by simp [results, Try.results21, go_sem, y0, y1, y2, z0, z1, z2, z3]) rfl ?_
        exact ⟨none, 0, 0, Jn.zero, .slice none 0 0, .slice none 0 0, Dk.zero, 50, rfl, hT, rfl, Lib.hid (rwAt_nil _ _), dkAt_zero _ _, hB⟩
      have hT7 := Lib.hid (hT6 rfl rfl rfl)
      clear hT6
      go_wp2_with fail
      refine wp_region_later (by kernel_rfl) (by kernel_rfl) ?_
      repeat (go_big_quiet_step ((go_at_call 42; exact Later.same _ (EQ _))))
      refine wpQuiet_nil ?_
      intro _ hw'
      obtain ⟨yq, hw''⟩ := hw'
      subst hw''
      have XJ := XJ.later yq.below
      have XD := XD.later yq.below
      have RJ := RJ.later yq.below
      have RD := RD.later yq.below
      have hB := hB.trans (yq.below.mono hB.size)
      obtain ⟨w5, hw5⟩ : ∃ w5, yq.w = w5 := ⟨_, rfl⟩
      rw [hw5] at XJ XD RJ RD hB ⊢
      clear hw5 yq
      clear x0 x1 x2 xz d0 d1 d2 d3 dz r0 r1 r2 f0 f1 f2 rz s0 s1 s2 s3 g0 g1 g2 g3 sz
      clear n0 nz J0 J2 J3 EQ
      obtain ⟨x0, x1, x2⟩ := XJ.c3
      have xz := XJ.lt
      obtain ⟨d0, d1, d2, d3⟩ := XD.c4
      have dz := XD.lt
      obtain ⟨r0, r1, r2⟩ := RJ.c3
      have f0 := RJ.free 0
      have f1 := RJ.free 1
      have f2 := RJ.free 2
      have rz := RJ.lt
      obtain ⟨s0, s1, s2, s3⟩ := RD.c4
      have g0 := RD.free 0
      have g1 := RD.free 1
      have g2 := RD.free 2
      have g3 := RD.free 3
      have sz := RD.lt
      go_wp2_with fail
      go_region
      all_goals
        go_wp2_with fail
        clear x0 x1 x2 xz d0 d1 d2 d3 dz r0 r1 r2 f0 f1 f2 rz s0 s1 s2 s3 g0 g1 g2 g3 sz
        have RJ := ((((((((RJ).set 0 (.slice none 0 0)).set 1 (.int .i64 (ns : Int))).set 2 (.int .i64 0)).other (a := ⟨w.heap.size + 3, 0, none⟩) (by simp) (.slice As ns cs)).other (a := ⟨w.heap.size + 3, 1, none⟩) (by simp) (.slice Ap 0 cp)).other (a := ⟨w.heap.size + 3, 2, none⟩) (by simp) (.int .i64 dl)).other (a := ⟨w.heap.size + 3, 3, none⟩) (by simp) (.bool false)).drew
        have RD := ((((((((RD).other (a := ⟨w.heap.size + 2, 0, none⟩) (by simp) (.slice none 0 0)).other (a := ⟨w.heap.size + 2, 1, none⟩) (by simp) (.int .i64 (ns : Int))).other (a := ⟨w.heap.size + 2, 2, none⟩) (by simp) (.int .i64 0)).set 0 (.slice As ns cs)).set 1 (.slice Ap 0 cp)).set 2 (.int .i64 dl)).set 3 (.bool false)).drew
        have hB := ((((((((hB).setCell (p := ⟨w.heap.size + 2, 0, none⟩) (by simp) (.slice none 0 0)).setCell (p := ⟨w.heap.size + 2, 1, none⟩) (by simp) (.int .i64 (ns : Int))).setCell (p := ⟨w.heap.size + 2, 2, none⟩) (by simp) (.int .i64 0)).setCell (p := ⟨w.heap.size + 3, 0, none⟩) (by simp) (.slice As ns cs)).setCell (p := ⟨w.heap.size + 3, 1, none⟩) (by simp) (.slice Ap 0 cp)).setCell (p := ⟨w.heap.size + 3, 2, none⟩) (by simp) (.int .i64 dl)).setCell (p := ⟨w.heap.size + 3, 3, none⟩) (by simp) (.bool false)).drew
        generalize ((((((((w5).setCell ⟨w.heap.size + 2, 0, none⟩ (.slice none 0 0)).setCell ⟨w.heap.size + 2, 1, none⟩ (.int .i64 (ns : Int))).setCell ⟨w.heap.size + 2, 2, none⟩ (.int .i64 0)).setCell ⟨w.heap.size + 3, 0, none⟩ (.slice As ns cs)).setCell ⟨w.heap.size + 3, 1, none⟩ (.slice Ap 0 cp)).setCell ⟨w.heap.size + 3, 2, none⟩ (.int .i64 dl)).setCell ⟨w.heap.size + 3, 3, none⟩ (.bool false)).drew = W at RJ RD hB ⊢
        obtain ⟨y0, y1, y2⟩ := RJ.c3
        obtain ⟨z0, z1, z2, z3⟩ := RD.c4
        refine bodyPost_ret (v := .tuple #[.agg #[.slice none 0 0, .int .i64 (ns : Int), .int .i64 0], .agg #[.slice As ns cs, .slice Ap 0 cp, .int .i64 dl, .bool false], .int .i64 0]) (by simp [results, Try.results21, go_sem, y0, y1, y2, z0, z1, z2, z3]) rfl ?_
        exact ⟨none, 0, 0, ⟨l.records, (ns : Int), 0⟩, .slice As ns cs, .slice Ap 0 cp, ⟨d.sectors, d.pending, dl, false⟩, 0, rfl, hT7.out, hn, Lib.hid ((h.out.keep (Keeps.of hB)).weak fun b hb _ => .inl hb), Lib.hid ⟨(hD.out.sectors.keep (Keeps.of hB)).weak fun b hb _ => .inl hb, (hD.out.pending.keep (Keeps.of hB)).weak fun b hb _ => .inl hb⟩, hB⟩
    · rcases a with ⟨ab, ao, asp⟩
      rcases r with _ | _
      · have hT := hT50 (.inl rfl)
        go_wp2_with fail
        refine wp_region_later (by kernel_rfl) (by kernel_rfl) ?_
        repeat (go_big_quiet_step ((go_at_call 42; exact Later.same _ (EQ _))))
        refine wpQuiet_nil ?_
        intro _ hw'
        obtain ⟨yq, hw''⟩ := hw'
        subst hw''
        have XJ := XJ.later yq.below
        have XD := XD.later yq.below
        have RJ := RJ.later yq.below
        have RD := RD.later yq.below
        have hB := hB.trans (yq.below.mono hB.size)
        obtain ⟨w5, hw5⟩ : ∃ w5, yq.w = w5 := ⟨_, rfl⟩
        rw [hw5] at XJ XD RJ RD hB ⊢
        clear hw5 yq
        clear x0 x1 x2 xz d0 d1 d2 d3 dz r0 r1 r2 f0 f1 f2 rz s0 s1 s2 s3 g0 g1 g2 g3 sz
        clear n0 nz J0 J2 J3 EQ
        obtain ⟨r0, r1, r2⟩ := RJ.c3
        have f0 := RJ.free 0
        have f1 := RJ.free 1
        have f2 := RJ.free 2
        have rz := RJ.lt
        obtain ⟨s0, s1, s2, s3⟩ := RD.c4
        have g0 := RD.free 0
        have g1 := RD.free 1
        have g2 := RD.free 2
        have g3 := RD.free 3
        have sz := RD.lt
        go_wp2
        clear r0 r1 r2 f0 f1 f2 rz s0 s1 s2 s3 g0 g1 g2 g3 sz
        have RJ := (((((((RJ).set 0 (.slice none 0 0)).set 1 (.int .i64 0)).set 2 (.int .i64 0)).other (a := ⟨w.heap.size + 3, 0, none⟩) (by simp) (.slice none 0 0)).other (a := ⟨w.heap.size + 3, 1, none⟩) (by simp) (.slice none 0 0)).other (a := ⟨w.heap.size + 3, 2, none⟩) (by simp) (.int .i64 0)).other (a := ⟨w.heap.size + 3, 3, none⟩) (by simp) (.bool false)
        have RD := (((((((RD).other (a := ⟨w.heap.size + 2, 0, none⟩) (by simp) (.slice none 0 0)).other (a := ⟨w.heap.size + 2, 1, none⟩) (by simp) (.int .i64 0)).other (a := ⟨w.heap.size + 2, 2, none⟩) (by simp) (.int .i64 0)).set 0 (.slice none 0 0)).set 1 (.slice none 0 0)).set 2 (.int .i64 0)).set 3 (.bool false)
        have hB := (((((((hB).setCell (p := ⟨w.heap.size + 2, 0, none⟩) (by simp) (.slice none 0 0)).setCell (p := ⟨w.heap.size + 2, 1, none⟩) (by simp) (.int .i64 0)).setCell (p := ⟨w.heap.size + 2, 2, none⟩) (by simp) (.int .i64 0)).setCell (p := ⟨w.heap.size + 3, 0, none⟩) (by simp) (.slice none 0 0)).setCell (p := ⟨w.heap.size + 3, 1, none⟩) (by simp) (.slice none 0 0)).setCell (p := ⟨w.heap.size + 3, 2, none⟩) (by simp) (.int .i64 0)).setCell (p := ⟨w.heap.size + 3, 3, none⟩) (by simp) (.bool false)
        generalize (((((((w5).setCell ⟨w.heap.size + 2, 0, none⟩ (.slice none 0 0)).setCell ⟨w.heap.size + 2, 1, none⟩ (.int .i64 0)).setCell ⟨w.heap.size + 2, 2, none⟩ (.int .i64 0)).setCell ⟨w.heap.size + 3, 0, none⟩ (.slice none 0 0)).setCell ⟨w.heap.size + 3, 1, none⟩ (.slice none 0 0)).setCell ⟨w.heap.size + 3, 2, none⟩ (.int .i64 0)).setCell ⟨w.heap.size + 3, 3, none⟩ (.bool false) = W at RJ RD hB ⊢
        obtain ⟨y0, y1, y2⟩ := RJ.c3
        obtain ⟨z0, z1, z2, z3⟩ := RD.c4
        refine bodyPost_ret (v := .tuple #[.agg #[.slice none 0 0, .int .i64 0, .int .i64 0], .agg #[.slice none 0 0, .slice none 0 0, .int .i64 0, .bool false], .int .i64 50]) (by simp [results, Try.results21, go_sem, y0, y1, y2, z0, z1, z2, z3]) rfl ?_
        exact ⟨none, 0, 0, Jn.zero, .slice none 0 0, .slice none 0 0, Dk.zero, 50, rfl, hT, rfl, Lib.hid (rwAt_nil _ _), dkAt_zero _ _, hB⟩
      rcases sv with _ | _
      rotate_left
      · have hT := hT50 (.inr rfl)
        go_wp2_with fail
        refine wp_region_later (by kernel_rfl) (by kernel_rfl) ?_
        repeat (go_big_quiet_step ((go_at_call 42; exact Later.same _ (EQ _))))
        refine wpQuiet_nil ?_
        intro _ hw'
        obtain ⟨yq, hw''⟩ := hw'
        subst hw''
        have XJ := XJ.later yq.below
        have XD := XD.later yq.below
        have RJ := RJ.later yq.below
        have RD := RD.later yq.below
        have hB := hB.trans (yq.below.mono hB.size)
        obtain ⟨w5, hw5⟩ : ∃ w5, yq.w = w5 := ⟨_, rfl⟩
        rw [hw5] at XJ XD RJ RD hB ⊢
        clear hw5 yq
        clear x0 x1 x2 xz d0 d1 d2 d3 dz r0 r1 r2 f0 f1 f2 rz s0 s1 s2 s3 g0 g1 g2 g3 sz
        clear n0 nz J0 J2 J3 EQ
        obtain ⟨r0, r1, r2⟩ := RJ.c3
        have f0 := RJ.free 0
        have f1 := RJ.free 1
        have f2 := RJ.free 2
        have rz := RJ.lt
        obtain ⟨s0, s1, s2, s3⟩ := RD.c4
        have g0 := RD.free 0
        have g1 := RD.free 1
        have g2 := RD.free 2
        have g3 := RD.free 3
        have sz := RD.lt
        go_wp2
        clear r0 r1 r2 f0 f1 f2 rz s0 s1 s2 s3 g0 g1 g2 g3 sz
        have RJ := (((((((RJ).set 0 (.slice none 0 0)).set 1 (.int .i64 0)).set 2 (.int .i64 0)).other (a := ⟨w.heap.size + 3, 0, none⟩) (by simp) (.slice none 0 0)).other (a := ⟨w.heap.size + 3, 1, none⟩) (by simp) (.slice none 0 0)).other (a := ⟨w.heap.size + 3, 2, none⟩) (by simp) (.int .i64 0)).other (a := ⟨w.heap.size + 3, 3, none⟩) (by simp) (.bool false)
        have RD := (((((((RD).other (a := ⟨w.heap.size + 2, 0, none⟩) (by simp) (.slice none 0 0)).other (a := ⟨w.heap.size + 2, 1, none⟩) (by simp) (.int .i64 0)).other (a := ⟨w.heap.size + 2, 2, none⟩) (by simp) (.int .i64 0)).set 0 (.slice none 0 0)).set 1 (.slice none 0 0)).set 2 (.int .i64 0)).set 3 (.bool false)
        have hB := (((((((hB).setCell (p := ⟨w.heap.size + 2, 0, none⟩) (by simp) (.slice none 0 0)).setCell (p := ⟨w.heap.size + 2, 1, none⟩) (by simp) (.int .i64 0)).setCell (p := ⟨w.heap.size + 2, 2, none⟩) (by simp) (.int .i64 0)).setCell (p := ⟨w.heap.size + 3, 0, none⟩) (by simp) (.slice none 0 0)).setCell (p := ⟨w.heap.size + 3, 1, none⟩) (by simp) (.slice none 0 0)).setCell (p := ⟨w.heap.size + 3, 2, none⟩) (by simp) (.int .i64 0)).setCell (p := ⟨w.heap.size + 3, 3, none⟩) (by simp) (.bool false)
        generalize (((((((w5).setCell ⟨w.heap.size + 2, 0, none⟩ (.slice none 0 0)).setCell ⟨w.heap.size + 2, 1, none⟩ (.int .i64 0)).setCell ⟨w.heap.size + 2, 2, none⟩ (.int .i64 0)).setCell ⟨w.heap.size + 3, 0, none⟩ (.slice none 0 0)).setCell ⟨w.heap.size + 3, 1, none⟩ (.slice none 0 0)).setCell ⟨w.heap.size + 3, 2, none⟩ (.int .i64 0)).setCell ⟨w.heap.size + 3, 3, none⟩ (.bool false) = W at RJ RD hB ⊢
        obtain ⟨y0, y1, y2⟩ := RJ.c3
        obtain ⟨z0, z1, z2, z3⟩ := RD.c4
        refine bodyPost_ret (v := .tuple #[.agg #[.slice none 0 0, .int .i64 0, .int .i64 0], .agg #[.slice none 0 0, .slice none 0 0, .int .i64 0, .bool false], .int .i64 50]) (by simp [results, Try.results21, go_sem, y0, y1, y2, z0, z1, z2, z3]) rfl ?_
        exact ⟨none, 0, 0, Jn.zero, .slice none 0 0, .slice none 0 0, Dk.zero, 50, rfl, hT, rfl, Lib.hid (rwAt_nil _ _), dkAt_zero _ _, hB⟩
      obtain rfl : k = n := hfit.out HRQ.out (by have := HSV.out; simp at this; omega)
      have hT7 := Lib.hid (hT6 rfl rfl rfl)
      clear hT6
      go_wp2_with fail
      refine wp_region_later (by kernel_rfl) (by kernel_rfl) ?_
      repeat (go_big_quiet_step ((go_at_call 42; exact Later.same _ (EQ _))))
      refine wpQuiet_nil ?_
      intro _ hw'
      obtain ⟨yq, hw''⟩ := hw'
      subst hw''
      have XJ := XJ.later yq.below
      have XD := XD.later yq.below
      have RJ := RJ.later yq.below
      have RD := RD.later yq.below
      have hB := hB.trans (yq.below.mono hB.size)
      obtain ⟨w5, hw5⟩ : ∃ w5, yq.w = w5 := ⟨_, rfl⟩
      rw [hw5] at XJ XD RJ RD hB ⊢
      clear hw5 yq
      clear x0 x1 x2 xz d0 d1 d2 d3 dz r0 r1 r2 f0 f1 f2 rz s0 s1 s2 s3 g0 g1 g2 g3 sz
      clear n0 nz J0 J2 J3 EQ
      obtain ⟨x0, x1, x2⟩ := XJ.c3
      have xz := XJ.lt
      obtain ⟨d0, d1, d2, d3⟩ := XD.c4
      have dz := XD.lt
      obtain ⟨r0, r1, r2⟩ := RJ.c3
      have f0 := RJ.free 0
      have f1 := RJ.free 1
      have f2 := RJ.free 2
      have rz := RJ.lt
      obtain ⟨s0, s1, s2, s3⟩ := RD.c4
      have g0 := RD.free 0
      have g1 := RD.free 1
      have g2 := RD.free 2
      have g3 := RD.free 3
      have sz := RD.lt
      go_wp2_with fail
      go_region
      all_goals
        go_wp2_with fail
        clear x0 x1 x2 xz d0 d1 d2 d3 dz r0 r1 r2 f0 f1 f2 rz s0 s1 s2 s3 g0 g1 g2 g3 sz
        have RJ := ((((((((RJ).set 0 (.slice (some ⟨ab, ao, asp⟩) k c)).set 1 (.int .i64 (ns : Int))).set 2 (.int .i64 (k : Int))).other (a := ⟨w.heap.size + 3, 0, none⟩) (by simp) (.slice As ns cs)).other (a := ⟨w.heap.size + 3, 1, none⟩) (by simp) (.slice Ap 0 cp)).other (a := ⟨w.heap.size + 3, 2, none⟩) (by simp) (.int .i64 dl)).other (a := ⟨w.heap.size + 3, 3, none⟩) (by simp) (.bool false)).drew
        have RD := ((((((((RD).other (a := ⟨w.heap.size + 2, 0, none⟩) (by simp) (.slice (some ⟨ab, ao, asp⟩) k c)).other (a := ⟨w.heap.size + 2, 1, none⟩) (by simp) (.int .i64 (ns : Int))).other (a := ⟨w.heap.size + 2, 2, none⟩) (by simp) (.int .i64 (k : Int))).set 0 (.slice As ns cs)).set 1 (.slice Ap 0 cp)).set 2 (.int .i64 dl)).set 3 (.bool false)).drew
        have hB := ((((((((hB).setCell (p := ⟨w.heap.size + 2, 0, none⟩) (by simp) (.slice (some ⟨ab, ao, asp⟩) k c)).setCell (p := ⟨w.heap.size + 2, 1, none⟩) (by simp) (.int .i64 (ns : Int))).setCell (p := ⟨w.heap.size + 2, 2, none⟩) (by simp) (.int .i64 (k : Int))).setCell (p := ⟨w.heap.size + 3, 0, none⟩) (by simp) (.slice As ns cs)).setCell (p := ⟨w.heap.size + 3, 1, none⟩) (by simp) (.slice Ap 0 cp)).setCell (p := ⟨w.heap.size + 3, 2, none⟩) (by simp) (.int .i64 dl)).setCell (p := ⟨w.heap.size + 3, 3, none⟩) (by simp) (.bool false)).drew
        generalize ((((((((w5).setCell ⟨w.heap.size + 2, 0, none⟩ (.slice (some ⟨ab, ao, asp⟩) k c)).setCell ⟨w.heap.size + 2, 1, none⟩ (.int .i64 (ns : Int))).setCell ⟨w.heap.size + 2, 2, none⟩ (.int .i64 (k : Int))).setCell ⟨w.heap.size + 3, 0, none⟩ (.slice As ns cs)).setCell ⟨w.heap.size + 3, 1, none⟩ (.slice Ap 0 cp)).setCell ⟨w.heap.size + 3, 2, none⟩ (.int .i64 dl)).setCell ⟨w.heap.size + 3, 3, none⟩ (.bool false)).drew = W at RJ RD hB ⊢
        obtain ⟨y0, y1, y2⟩ := RJ.c3
        obtain ⟨z0, z1, z2, z3⟩ := RD.c4
        refine bodyPost_ret (v := .tuple #[.agg #[.slice (some ⟨ab, ao, asp⟩) k c, .int .i64 (ns : Int), .int .i64 (k : Int)], .agg #[.slice As ns cs, .slice Ap 0 cp, .int .i64 dl, .bool false], .int .i64 0]) (by simp [results, Try.results21, go_sem, y0, y1, y2, z0, z1, z2, z3]) rfl ?_
        exact ⟨(some ⟨ab, ao, asp⟩), k, c, ⟨l.records, (ns : Int), (k : Int)⟩, .slice As ns cs, .slice Ap 0 cp, ⟨d.sectors, d.pending, dl, false⟩, 0, rfl, hT7.out, hn, Lib.hid ((h.out.keep (Keeps.of hB)).weak fun b hb _ => .inl hb), Lib.hid ⟨(hD.out.sectors.keep (Keeps.of hB)).weak fun b hb _ => .inl hb, (hD.out.pending.keep (Keeps.of hB)).weak fun b hb _ => .inl hb⟩, hB⟩
end Go.Proofs.Ythlidhfahaalgaa
