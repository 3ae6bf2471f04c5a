/- Sync of journal where Open fails. (Printed by gen_lc.py.) -/
import Derived.Test.YthlidhfahaalgaaQK
import Derived.Test.YthlidhfahaalgaaQEK
set_option linter.unusedVariables false
set_option linter.unusedSimpArgs false
set_option maxRecDepth 100000
set_option maxHeartbeats 16000000
namespace Go.Proofs.Ythlidhfahaalgaa
open Go.RowKit
attribute [local go_sem ↓ high] app_named cop_named
theorem jSync_4 (l : Jn) (A : Option Addr) (n c : Nat) (many sync : Int) (d : Dk) (As : Option Addr) (ns cs : Nat) (Ap : Option Addr) (np cp : Nat) (dl : Int) (ds : Bool) (S : Nat → Prop) (w : World) (h : Hid (RwAt w S (.slice A n c) l.records)) (hn : Hid (l.records.length = n)) (hm : Hid (l.many = many)) (hy : Hid (l.synced = sync)) (hs : Hid (sumB l.records ≤ 4194304)) (hD : Hid (DkAt w S (.slice As ns cs) (.slice Ap np cp) d)) (hdl : Hid (d.left = dl)) (hds : Hid (d.stopped = ds)) (_hns : Hid (d.sectors.length = ns)) (hnp : Hid (d.pending.length = np)) (hc : Hid (l.checkT = 0)) (hcd : Hid (d.checkT = 0)) (er : Int) (hT : Hid (syncJ l d = (Jn.zero, Dk.zero, er))) (hO : Hid (openT d = (Jn.zero, er))) (hw : (ds = true ∧ er = 40) ∨ (ds = false ∧ many = (ns : Int) ∧ 0 < np ∧ er = 1)) : Calls Try.prog 21 #[.agg #[.slice A n c, .int .i64 many, .int .i64 sync], .agg #[.slice As ns cs, .slice Ap np cp, .int .i64 dl, .bool ds]] w (RetJD (syncJ l d) S w) := by
  rcases hw with ⟨rfl, rfl⟩ | ⟨rfl, hq, hp0, rfl⟩
  · by_cases hq : many = (ns : Int)
    · subst hq
      have HB0 := ((((Below.refl w.heap.size w).alloc (Nat.le_refl _) (.cells #[.slice A n c, .int .i64 (ns : Int), .int .i64 sync] 29)).alloc (by simp) (.cells #[.slice As ns cs, .slice Ap np cp, .int .i64 dl, .bool true] 25)).alloc (by simp; omega) (.cells #[.slice none 0 0, .int .i64 0, .int .i64 0] 29)).alloc (by simp; omega) (.cells #[.slice none 0 0, .slice none 0 0, .int .i64 0, .bool false] 25)
      have HC := jCheck_any l A n c (ns : Int) sync S ((((w.alloc (.cells #[.slice A n c, .int .i64 (ns : Int), .int .i64 sync] 29)).alloc (.cells #[.slice As ns cs, .slice Ap np cp, .int .i64 dl, .bool true] 25)).alloc (.cells #[.slice none 0 0, .int .i64 0, .int .i64 0] 29)).alloc (.cells #[.slice none 0 0, .slice none 0 0, .int .i64 0, .bool false] 25)) (Lib.hid (h.out.keep (Keeps.of HB0))) hn hm hy hs
      rw [hc.out] at HC
      go_enter Try.func21, Try.ntmps21
      go_wp2_with fail
      refine HC.mono ?_
      rintro e w1 ⟨rfl, hb1⟩
      have XJ := ((((Box.new w [.slice A n c, .int .i64 (ns : Int), .int .i64 sync] 29).alloc (.cells #[.slice As ns cs, .slice Ap np cp, .int .i64 dl, .bool true] 25)).alloc (.cells #[.slice none 0 0, .int .i64 0, .int .i64 0] 29)).alloc (.cells #[.slice none 0 0, .slice none 0 0, .int .i64 0, .bool false] 25)).later hb1
      have XD := (((Box.newAt (w := w.alloc (.cells #[.slice A n c, .int .i64 (ns : Int), .int .i64 sync] 29)) (n := w.heap.size + 1) [.slice As ns cs, .slice Ap np cp, .int .i64 dl, .bool true] 25 (by simp)).alloc (.cells #[.slice none 0 0, .int .i64 0, .int .i64 0] 29)).alloc (.cells #[.slice none 0 0, .slice none 0 0, .int .i64 0, .bool false] 25)).later hb1
      have RJ := ((Box.newAt (w := (w.alloc (.cells #[.slice A n c, .int .i64 (ns : Int), .int .i64 sync] 29)).alloc (.cells #[.slice As ns cs, .slice Ap np cp, .int .i64 dl, .bool true] 25)) (n := w.heap.size + 2) [.slice none 0 0, .int .i64 0, .int .i64 0] 29 (by simp)).alloc (.cells #[.slice none 0 0, .slice none 0 0, .int .i64 0, .bool false] 25)).later hb1
      have RD := (Box.newAt (w := ((w.alloc (.cells #[.slice A n c, .int .i64 (ns : Int), .int .i64 sync] 29)).alloc (.cells #[.slice As ns cs, .slice Ap np cp, .int .i64 dl, .bool true] 25)).alloc (.cells #[.slice none 0 0, .int .i64 0, .int .i64 0] 29)) (n := w.heap.size + 3) [.slice none 0 0, .slice none 0 0, .int .i64 0, .bool false] 25 (by simp)).later hb1
      have hB := HB0.trans (hb1.mono HB0.size)
      clear hb1 HB0 HC
      obtain ⟨x0, x1, x2⟩ := XJ.c3
      have xz := XJ.lt
      obtain ⟨d0, d1, d2, d3⟩ := XD.c4
      have dz := XD.lt
      obtain ⟨r0, r1, r2⟩ := RJ.c3
      have f0 := RJ.free 0
      have f1 := RJ.free 1
      have f2 := RJ.free 2
      have rz := RJ.lt
      obtain ⟨s0, s1, s2, s3⟩ := RD.c4
      have g0 := RD.free 0
      have g1 := RD.free 1
      have g2 := RD.free 2
      have g3 := RD.free 3
      have sz := RD.lt
      have HDC := dCheck_at hcd (hD.out.keep (Keeps.of hB)) hdl.out hds.out
      go_wp2_with fail
      refine HDC.mono ?_
      rintro e w2 ⟨rfl, hb2⟩
      have XJ := XJ.later hb2
      have XD := XD.later hb2
      have RJ := RJ.later hb2
      have RD := RD.later hb2
      have hB := hB.trans (hb2.mono hB.size)
      clear hb2 HDC
      clear x0 x1 x2 xz d0 d1 d2 d3 dz r0 r1 r2 f0 f1 f2 rz s0 s1 s2 s3 g0 g1 g2 g3 sz
      obtain ⟨x0, x1, x2⟩ := XJ.c3
      have xz := XJ.lt
      obtain ⟨d0, d1, d2, d3⟩ := XD.c4
      have dz := XD.lt
      obtain ⟨r0, r1, r2⟩ := RJ.c3
      have f0 := RJ.free 0
      have f1 := RJ.free 1
      have f2 := RJ.free 2
      have rz := RJ.lt
      obtain ⟨s0, s1, s2, s3⟩ := RD.c4
      have g0 := RD.free 0
      have g1 := RD.free 1
      have g2 := RD.free 2
      have g3 := RD.free 3
      have sz := RD.lt
      have e1 : ((ns : Int) != (ns : Int)) = false := by simp
      go_wp2_with fail
      refine (jOpen_no d As ns cs Ap np cp dl true 0 40 S w2 (Lib.hid (hD.out.keep (Keeps.of hB))) hdl hds hcd hO (.inr (.inl ⟨rfl, rfl, rfl⟩))).mono ?_
      rintro e w3 ⟨A', n', c', m', er, rfl, ht, hn', hrw, hb3⟩
      have hto := ht.out
      rw [hO.out] at hto
      obtain ⟨rfl, rfl⟩ := Prod.mk.inj hto
      have XJ := XJ.later hb3
      have XD := XD.later hb3
      have RJ := RJ.later hb3
      have RD := RD.later hb3
      have hB := hB.trans (hb3.mono hB.size)
      obtain rfl : n' = 0 := hn'.out.symm
      obtain ⟨_, hcc, hAA⟩ := hrw.out.caps
      clear hb3 hto ht hrw hn' hAA hcc
      clear x0 x1 x2 xz d0 d1 d2 d3 dz r0 r1 r2 f0 f1 f2 rz s0 s1 s2 s3 g0 g1 g2 g3 sz
      obtain ⟨x0, x1, x2⟩ := XJ.c3
      have xz := XJ.lt
      obtain ⟨d0, d1, d2, d3⟩ := XD.c4
      have dz := XD.lt
      obtain ⟨r0, r1, r2⟩ := RJ.c3
      have f0 := RJ.free 0
      have f1 := RJ.free 1
      have f2 := RJ.free 2
      have rz := RJ.lt
      obtain ⟨s0, s1, s2, s3⟩ := RD.c4
      have g0 := RD.free 0
      have g1 := RD.free 1
      have g2 := RD.free 2
      have g3 := RD.free 3
      have sz := RD.lt
      rw [show Jn.zero.many = 0 from rfl, show Jn.zero.synced = 0 from rfl]
      go_wp2_with fail
      clear x0 x1 x2 xz d0 d1 d2 d3 dz r0 r1 r2 f0 f1 f2 rz s0 s1 s2 s3 g0 g1 g2 g3 sz
      have RJ := (((((((RJ).set 0 (.slice none 0 0)).set 1 (.int .i64 0)).set 2 (.int .i64 0)).other (a := ⟨w.heap.size + 3, 0, none⟩) (by simp) (.slice none 0 0)).other (a := ⟨w.heap.size + 3, 1, none⟩) (by simp) (.slice none 0 0)).other (a := ⟨w.heap.size + 3, 2, none⟩) (by simp) (.int .i64 0)).other (a := ⟨w.heap.size + 3, 3, none⟩) (by simp) (.bool false)
      have RD := (((((((RD).other (a := ⟨w.heap.size + 2, 0, none⟩) (by simp) (.slice none 0 0)).other (a := ⟨w.heap.size + 2, 1, none⟩) (by simp) (.int .i64 0)).other (a := ⟨w.heap.size + 2, 2, none⟩) (by simp) (.int .i64 0)).set 0 (.slice none 0 0)).set 1 (.slice none 0 0)).set 2 (.int .i64 0)).set 3 (.bool false)
      have hB := (((((((hB).setCell (p := ⟨w.heap.size + 2, 0, none⟩) (by simp) (.slice none 0 0)).setCell (p := ⟨w.heap.size + 2, 1, none⟩) (by simp) (.int .i64 0)).setCell (p := ⟨w.heap.size + 2, 2, none⟩) (by simp) (.int .i64 0)).setCell (p := ⟨w.heap.size + 3, 0, none⟩) (by simp) (.slice none 0 0)).setCell (p := ⟨w.heap.size + 3, 1, none⟩) (by simp) (.slice none 0 0)).setCell (p := ⟨w.heap.size + 3, 2, none⟩) (by simp) (.int .i64 0)).setCell (p := ⟨w.heap.size + 3, 3, none⟩) (by simp) (.bool false)
      have RJ := RJ.alloc (.cells #[.slice A' 0 c', .int .i64 0, .int .i64 0] 29)
      have RD := RD.alloc (.cells #[.slice A' 0 c', .int .i64 0, .int .i64 0] 29)
      have hB := hB.alloc hB.size (.cells #[.slice A' 0 c', .int .i64 0, .int .i64 0] 29)
      generalize ((((((((w3).setCell ⟨w.heap.size + 2, 0, none⟩ (.slice none 0 0)).setCell ⟨w.heap.size + 2, 1, none⟩ (.int .i64 0)).setCell ⟨w.heap.size + 2, 2, none⟩ (.int .i64 0)).setCell ⟨w.heap.size + 3, 0, none⟩ (.slice none 0 0)).setCell ⟨w.heap.size + 3, 1, none⟩ (.slice none 0 0)).setCell ⟨w.heap.size + 3, 2, none⟩ (.int .i64 0)).setCell ⟨w.heap.size + 3, 3, none⟩ (.bool false)).alloc (.cells #[.slice A' 0 c', .int .i64 0, .int .i64 0] 29) = W at RJ RD hB ⊢
      obtain ⟨y0, y1, y2⟩ := RJ.c3
      obtain ⟨z0, z1, z2, z3⟩ := RD.c4
      refine bodyPost_ret (v := .tuple #[.agg #[.slice none 0 0, .int .i64 0, .int .i64 0], .agg #[.slice none 0 0, .slice none 0 0, .int .i64 0, .bool false], .int .i64 40]) (by simp [results, Try.results21, go_sem, y0, y1, y2, z0, z1, z2, z3]) rfl ?_
      exact ⟨none, 0, 0, Jn.zero, .slice none 0 0, .slice none 0 0, Dk.zero, 40, rfl, hT, rfl, Lib.hid (rwAt_nil _ _), dkAt_zero _ _, hB⟩
    · skip
      have HB0 := ((((Below.refl w.heap.size w).alloc (Nat.le_refl _) (.cells #[.slice A n c, .int .i64 many, .int .i64 sync] 29)).alloc (by simp) (.cells #[.slice As ns cs, .slice Ap np cp, .int .i64 dl, .bool true] 25)).alloc (by simp; omega) (.cells #[.slice none 0 0, .int .i64 0, .int .i64 0] 29)).alloc (by simp; omega) (.cells #[.slice none 0 0, .slice none 0 0, .int .i64 0, .bool false] 25)
      have HC := jCheck_any l A n c many sync S ((((w.alloc (.cells #[.slice A n c, .int .i64 many, .int .i64 sync] 29)).alloc (.cells #[.slice As ns cs, .slice Ap np cp, .int .i64 dl, .bool true] 25)).alloc (.cells #[.slice none 0 0, .int .i64 0, .int .i64 0] 29)).alloc (.cells #[.slice none 0 0, .slice none 0 0, .int .i64 0, .bool false] 25)) (Lib.hid (h.out.keep (Keeps.of HB0))) hn hm hy hs
      rw [hc.out] at HC
      go_enter Try.func21, Try.ntmps21
      go_wp2_with fail
      refine HC.mono ?_
      rintro e w1 ⟨rfl, hb1⟩
      have XJ := ((((Box.new w [.slice A n c, .int .i64 many, .int .i64 sync] 29).alloc (.cells #[.slice As ns cs, .slice Ap np cp, .int .i64 dl, .bool true] 25)).alloc (.cells #[.slice none 0 0, .int .i64 0, .int .i64 0] 29)).alloc (.cells #[.slice none 0 0, .slice none 0 0, .int .i64 0, .bool false] 25)).later hb1
      have XD := (((Box.newAt (w := w.alloc (.cells #[.slice A n c, .int .i64 many, .int .i64 sync] 29)) (n := w.heap.size + 1) [.slice As ns cs, .slice Ap np cp, .int .i64 dl, .bool true] 25 (by simp)).alloc (.cells #[.slice none 0 0, .int .i64 0, .int .i64 0] 29)).alloc (.cells #[.slice none 0 0, .slice none 0 0, .int .i64 0, .bool false] 25)).later hb1
      have RJ := ((Box.newAt (w := (w.alloc (.cells #[.slice A n c, .int .i64 many, .int .i64 sync] 29)).alloc (.cells #[.slice As ns cs, .slice Ap np cp, .int .i64 dl, .bool true] 25)) (n := w.heap.size + 2) [.slice none 0 0, .int .i64 0, .int .i64 0] 29 (by simp)).alloc (.cells #[.slice none 0 0, .slice none 0 0, .int .i64 0, .bool false] 25)).later hb1
      have RD := (Box.newAt (w := ((w.alloc (.cells #[.slice A n c, .int .i64 many, .int .i64 sync] 29)).alloc (.cells #[.slice As ns cs, .slice Ap np cp, .int .i64 dl, .bool true] 25)).alloc (.cells #[.slice none 0 0, .int .i64 0, .int .i64 0] 29)) (n := w.heap.size + 3) [.slice none 0 0, .slice none 0 0, .int .i64 0, .bool false] 25 (by simp)).later hb1
      have hB := HB0.trans (hb1.mono HB0.size)
      clear hb1 HB0 HC
      obtain ⟨x0, x1, x2⟩ := XJ.c3
      have xz := XJ.lt
      obtain ⟨d0, d1, d2, d3⟩ := XD.c4
      have dz := XD.lt
      obtain ⟨r0, r1, r2⟩ := RJ.c3
      have f0 := RJ.free 0
      have f1 := RJ.free 1
      have f2 := RJ.free 2
      have rz := RJ.lt
      obtain ⟨s0, s1, s2, s3⟩ := RD.c4
      have g0 := RD.free 0
      have g1 := RD.free 1
      have g2 := RD.free 2
      have g3 := RD.free 3
      have sz := RD.lt
      have HDC := dCheck_at hcd (hD.out.keep (Keeps.of hB)) hdl.out hds.out
      go_wp2_with fail
      refine HDC.mono ?_
      rintro e w2 ⟨rfl, hb2⟩
      have XJ := XJ.later hb2
      have XD := XD.later hb2
      have RJ := RJ.later hb2
      have RD := RD.later hb2
      have hB := hB.trans (hb2.mono hB.size)
      clear hb2 HDC
      clear x0 x1 x2 xz d0 d1 d2 d3 dz r0 r1 r2 f0 f1 f2 rz s0 s1 s2 s3 g0 g1 g2 g3 sz
      obtain ⟨x0, x1, x2⟩ := XJ.c3
      have xz := XJ.lt
      obtain ⟨d0, d1, d2, d3⟩ := XD.c4
      have dz := XD.lt
      obtain ⟨r0, r1, r2⟩ := RJ.c3
      have f0 := RJ.free 0
      have f1 := RJ.free 1
      have f2 := RJ.free 2
      have rz := RJ.lt
      obtain ⟨s0, s1, s2, s3⟩ := RD.c4
      have g0 := RD.free 0
      have g1 := RD.free 1
      have g2 := RD.free 2
      have g3 := RD.free 3
      have sz := RD.lt
      have e1 : (many != (ns : Int)) = true := by simp [hq]
      have e2 : (many == (ns : Int)) = false := by simp [hq]
      clear hq
      go_wp2_with fail
      refine (jOpen_no d As ns cs Ap np cp dl true 0 40 S w2 (Lib.hid (hD.out.keep (Keeps.of hB))) hdl hds hcd hO (.inr (.inl ⟨rfl, rfl, rfl⟩))).mono ?_
      rintro e w3 ⟨A', n', c', m', er, rfl, ht, hn', hrw, hb3⟩
      have hto := ht.out
      rw [hO.out] at hto
      obtain ⟨rfl, rfl⟩ := Prod.mk.inj hto
      have XJ := XJ.later hb3
      have XD := XD.later hb3
      have RJ := RJ.later hb3
      have RD := RD.later hb3
      have hB := hB.trans (hb3.mono hB.size)
      obtain rfl : n' = 0 := hn'.out.symm
      obtain ⟨_, hcc, hAA⟩ := hrw.out.caps
      clear hb3 hto ht hrw hn' hAA hcc
      clear x0 x1 x2 xz d0 d1 d2 d3 dz r0 r1 r2 f0 f1 f2 rz s0 s1 s2 s3 g0 g1 g2 g3 sz
      obtain ⟨x0, x1, x2⟩ := XJ.c3
      have xz := XJ.lt
      obtain ⟨d0, d1, d2, d3⟩ := XD.c4
      have dz := XD.lt
      obtain ⟨r0, r1, r2⟩ := RJ.c3
      have f0 := RJ.free 0
      have f1 := RJ.free 1
      have f2 := RJ.free 2
      have rz := RJ.lt
      obtain ⟨s0, s1, s2, s3⟩ := RD.c4
      have g0 := RD.free 0
      have g1 := RD.free 1
      have g2 := RD.free 2
      have g3 := RD.free 3
      have sz := RD.lt
      rw [show Jn.zero.many = 0 from rfl, show Jn.zero.synced = 0 from rfl]
      go_wp2_with fail
      clear x0 x1 x2 xz d0 d1 d2 d3 dz r0 r1 r2 f0 f1 f2 rz s0 s1 s2 s3 g0 g1 g2 g3 sz
      have RJ := (((((((RJ).set 0 (.slice none 0 0)).set 1 (.int .i64 0)).set 2 (.int .i64 0)).other (a := ⟨w.heap.size + 3, 0, none⟩) (by simp) (.slice none 0 0)).other (a := ⟨w.heap.size + 3, 1, none⟩) (by simp) (.slice none 0 0)).other (a := ⟨w.heap.size + 3, 2, none⟩) (by simp) (.int .i64 0)).other (a := ⟨w.heap.size + 3, 3, none⟩) (by simp) (.bool false)
      have RD := (((((((RD).other (a := ⟨w.heap.size + 2, 0, none⟩) (by simp) (.slice none 0 0)).other (a := ⟨w.heap.size + 2, 1, none⟩) (by simp) (.int .i64 0)).other (a := ⟨w.heap.size + 2, 2, none⟩) (by simp) (.int .i64 0)).set 0 (.slice none 0 0)).set 1 (.slice none 0 0)).set 2 (.int .i64 0)).set 3 (.bool false)
      have hB := (((((((hB).setCell (p := ⟨w.heap.size + 2, 0, none⟩) (by simp) (.slice none 0 0)).setCell (p := ⟨w.heap.size + 2, 1, none⟩) (by simp) (.int .i64 0)).setCell (p := ⟨w.heap.size + 2, 2, none⟩) (by simp) (.int .i64 0)).setCell (p := ⟨w.heap.size + 3, 0, none⟩) (by simp) (.slice none 0 0)).setCell (p := ⟨w.heap.size + 3, 1, none⟩) (by simp) (.slice none 0 0)).setCell (p := ⟨w.heap.size + 3, 2, none⟩) (by simp) (.int .i64 0)).setCell (p := ⟨w.heap.size + 3, 3, none⟩) (by simp) (.bool false)
      have RJ := RJ.alloc (.cells #[.slice A' 0 c', .int .i64 0, .int .i64 0] 29)
      have RD := RD.alloc (.cells #[.slice A' 0 c', .int .i64 0, .int .i64 0] 29)
      have hB := hB.alloc hB.size (.cells #[.slice A' 0 c', .int .i64 0, .int .i64 0] 29)
      generalize ((((((((w3).setCell ⟨w.heap.size + 2, 0, none⟩ (.slice none 0 0)).setCell ⟨w.heap.size + 2, 1, none⟩ (.int .i64 0)).setCell ⟨w.heap.size + 2, 2, none⟩ (.int .i64 0)).setCell ⟨w.heap.size + 3, 0, none⟩ (.slice none 0 0)).setCell ⟨w.heap.size + 3, 1, none⟩ (.slice none 0 0)).setCell ⟨w.heap.size + 3, 2, none⟩ (.int .i64 0)).setCell ⟨w.heap.size + 3, 3, none⟩ (.bool false)).alloc (.cells #[.slice A' 0 c', .int .i64 0, .int .i64 0] 29) = W at RJ RD hB ⊢
      obtain ⟨y0, y1, y2⟩ := RJ.c3
      obtain ⟨z0, z1, z2, z3⟩ := RD.c4
      refine bodyPost_ret (v := .tuple #[.agg #[.slice none 0 0, .int .i64 0, .int .i64 0], .agg #[.slice none 0 0, .slice none 0 0, .int .i64 0, .bool false], .int .i64 40]) (by simp [results, Try.results21, go_sem, y0, y1, y2, z0, z1, z2, z3]) rfl ?_
      exact ⟨none, 0, 0, Jn.zero, .slice none 0 0, .slice none 0 0, Dk.zero, 40, rfl, hT, rfl, Lib.hid (rwAt_nil _ _), dkAt_zero _ _, hB⟩
  · subst hq
    have HB0 := ((((Below.refl w.heap.size w).alloc (Nat.le_refl _) (.cells #[.slice A n c, .int .i64 (ns : Int), .int .i64 sync] 29)).alloc (by simp) (.cells #[.slice As ns cs, .slice Ap np cp, .int .i64 dl, .bool false] 25)).alloc (by simp; omega) (.cells #[.slice none 0 0, .int .i64 0, .int .i64 0] 29)).alloc (by simp; omega) (.cells #[.slice none 0 0, .slice none 0 0, .int .i64 0, .bool false] 25)
    have HC := jCheck_any l A n c (ns : Int) sync S ((((w.alloc (.cells #[.slice A n c, .int .i64 (ns : Int), .int .i64 sync] 29)).alloc (.cells #[.slice As ns cs, .slice Ap np cp, .int .i64 dl, .bool false] 25)).alloc (.cells #[.slice none 0 0, .int .i64 0, .int .i64 0] 29)).alloc (.cells #[.slice none 0 0, .slice none 0 0, .int .i64 0, .bool false] 25)) (Lib.hid (h.out.keep (Keeps.of HB0))) hn hm hy hs
    rw [hc.out] at HC
    go_enter Try.func21, Try.ntmps21
    go_wp2_with fail
    refine HC.mono ?_
    rintro e w1 ⟨rfl, hb1⟩
    have XJ := ((((Box.new w [.slice A n c, .int .i64 (ns : Int), .int .i64 sync] 29).alloc (.cells #[.slice As ns cs, .slice Ap np cp, .int .i64 dl, .bool false] 25)).alloc (.cells #[.slice none 0 0, .int .i64 0, .int .i64 0] 29)).alloc (.cells #[.slice none 0 0, .slice none 0 0, .int .i64 0, .bool false] 25)).later hb1
    have XD := (((Box.newAt (w := w.alloc (.cells #[.slice A n c, .int .i64 (ns : Int), .int .i64 sync] 29)) (n := w.heap.size + 1) [.slice As ns cs, .slice Ap np cp, .int .i64 dl, .bool false] 25 (by simp)).alloc (.cells #[.slice none 0 0, .int .i64 0, .int .i64 0] 29)).alloc (.cells #[.slice none 0 0, .slice none 0 0, .int .i64 0, .bool false] 25)).later hb1
    have RJ := ((Box.newAt (w := (w.alloc (.cells #[.slice A n c, .int .i64 (ns : Int), .int .i64 sync] 29)).alloc (.cells #[.slice As ns cs, .slice Ap np cp, .int .i64 dl, .bool false] 25)) (n := w.heap.size + 2) [.slice none 0 0, .int .i64 0, .int .i64 0] 29 (by simp)).alloc (.cells #[.slice none 0 0, .slice none 0 0, .int .i64 0, .bool false] 25)).later hb1
    have RD := (Box.newAt (w := ((w.alloc (.cells #[.slice A n c, .int .i64 (ns : Int), .int .i64 sync] 29)).alloc (.cells #[.slice As ns cs, .slice Ap np cp, .int .i64 dl, .bool false] 25)).alloc (.cells #[.slice none 0 0, .int .i64 0, .int .i64 0] 29)) (n := w.heap.size + 3) [.slice none 0 0, .slice none 0 0, .int .i64 0, .bool false] 25 (by simp)).later hb1
    have hB := HB0.trans (hb1.mono HB0.size)
    clear hb1 HB0 HC
    obtain ⟨x0, x1, x2⟩ := XJ.c3
    have xz := XJ.lt
    obtain ⟨d0, d1, d2, d3⟩ := XD.c4
    have dz := XD.lt
    obtain ⟨r0, r1, r2⟩ := RJ.c3
    have f0 := RJ.free 0
    have f1 := RJ.free 1
    have f2 := RJ.free 2
    have rz := RJ.lt
    obtain ⟨s0, s1, s2, s3⟩ := RD.c4
    have g0 := RD.free 0
    have g1 := RD.free 1
    have g2 := RD.free 2
    have g3 := RD.free 3
    have sz := RD.lt
    have HDC := dCheck_at hcd (hD.out.keep (Keeps.of hB)) hdl.out hds.out
    go_wp2_with fail
    refine HDC.mono ?_
    rintro e w2 ⟨rfl, hb2⟩
    have XJ := XJ.later hb2
    have XD := XD.later hb2
    have RJ := RJ.later hb2
    have RD := RD.later hb2
    have hB := hB.trans (hb2.mono hB.size)
    clear hb2 HDC
    clear x0 x1 x2 xz d0 d1 d2 d3 dz r0 r1 r2 f0 f1 f2 rz s0 s1 s2 s3 g0 g1 g2 g3 sz
    obtain ⟨x0, x1, x2⟩ := XJ.c3
    have xz := XJ.lt
    obtain ⟨d0, d1, d2, d3⟩ := XD.c4
    have dz := XD.lt
    obtain ⟨r0, r1, r2⟩ := RJ.c3
    have f0 := RJ.free 0
    have f1 := RJ.free 1
    have f2 := RJ.free 2
    have rz := RJ.lt
    obtain ⟨s0, s1, s2, s3⟩ := RD.c4
    have g0 := RD.free 0
    have g1 := RD.free 1
    have g2 := RD.free 2
    have g3 := RD.free 3
    have sz := RD.lt
    have e1 : ((ns : Int) != (ns : Int)) = false := by simp
    go_wp2_with fail
    refine (jOpen_no d As ns cs Ap np cp dl false 0 1 S w2 (Lib.hid (hD.out.keep (Keeps.of hB))) hdl hds hcd hO (.inr (.inr ⟨rfl, rfl, hp0, rfl⟩))).mono ?_
    rintro e w3 ⟨A', n', c', m', er, rfl, ht, hn', hrw, hb3⟩
    have hto := ht.out
    rw [hO.out] at hto
    obtain ⟨rfl, rfl⟩ := Prod.mk.inj hto
    have XJ := XJ.later hb3
    have XD := XD.later hb3
    have RJ := RJ.later hb3
    have RD := RD.later hb3
    have hB := hB.trans (hb3.mono hB.size)
    obtain rfl : n' = 0 := hn'.out.symm
    obtain ⟨_, hcc, hAA⟩ := hrw.out.caps
    clear hb3 hto ht hrw hn' hAA hcc
    clear x0 x1 x2 xz d0 d1 d2 d3 dz r0 r1 r2 f0 f1 f2 rz s0 s1 s2 s3 g0 g1 g2 g3 sz
    obtain ⟨x0, x1, x2⟩ := XJ.c3
    have xz := XJ.lt
    obtain ⟨d0, d1, d2, d3⟩ := XD.c4
    have dz := XD.lt
    obtain ⟨r0, r1, r2⟩ := RJ.c3
    have f0 := RJ.free 0
    have f1 := RJ.free 1
    have f2 := RJ.free 2
    have rz := RJ.lt
    obtain ⟨s0, s1, s2, s3⟩ := RD.c4
    have g0 := RD.free 0
    have g1 := RD.free 1
    have g2 := RD.free 2
    have g3 := RD.free 3
    have sz := RD.lt
    rw [show Jn.zero.many = 0 from rfl, show Jn.zero.synced = 0 from rfl]
    go_wp2_with fail
    clear x0 x1 x2 xz d0 d1 d2 d3 dz r0 r1 r2 f0 f1 f2 rz s0 s1 s2 s3 g0 g1 g2 g3 sz
    have RJ := (((((((RJ).set 0 (.slice none 0 0)).set 1 (.int .i64 0)).set 2 (.int .i64 0)).other (a := ⟨w.heap.size + 3, 0, none⟩) (by simp) (.slice none 0 0)).other (a := ⟨w.heap.size + 3, 1, none⟩) (by simp) (.slice none 0 0)).other (a := ⟨w.heap.size + 3, 2, none⟩) (by simp) (.int .i64 0)).other (a := ⟨w.heap.size + 3, 3, none⟩) (by simp) (.bool false)
    have RD := (((((((RD).other (a := ⟨w.heap.size + 2, 0, none⟩) (by simp) (.slice none 0 0)).other (a := ⟨w.heap.size + 2, 1, none⟩) (by simp) (.int .i64 0)).other (a := ⟨w.heap.size + 2, 2, none⟩) (by simp) (.int .i64 0)).set 0 (.slice none 0 0)).set 1 (.slice none 0 0)).set 2 (.int .i64 0)).set 3 (.bool false)
    have hB := (((((((hB).setCell (p := ⟨w.heap.size + 2, 0, none⟩) (by simp) (.slice none 0 0)).setCell (p := ⟨w.heap.size + 2, 1, none⟩) (by simp) (.int .i64 0)).setCell (p := ⟨w.heap.size + 2, 2, none⟩) (by simp) (.int .i64 0)).setCell (p := ⟨w.heap.size + 3, 0, none⟩) (by simp) (.slice none 0 0)).setCell (p := ⟨w.heap.size + 3, 1, none⟩) (by simp) (.slice none 0 0)).setCell (p := ⟨w.heap.size + 3, 2, none⟩) (by simp) (.int .i64 0)).setCell (p := ⟨w.heap.size + 3, 3, none⟩) (by simp) (.bool false)
    have RJ := RJ.alloc (.cells #[.slice A' 0 c', .int .i64 0, .int .i64 0] 29)
    have RD := RD.alloc (.cells #[.slice A' 0 c', .int .i64 0, .int .i64 0] 29)
    have hB := hB.alloc hB.size (.cells #[.slice A' 0 c', .int .i64 0, .int .i64 0] 29)
    generalize ((((((((w3).setCell ⟨w.heap.size + 2, 0, none⟩ (.slice none 0 0)).setCell ⟨w.heap.size + 2, 1, none⟩ (.int .i64 0)).setCell ⟨w.heap.size + 2, 2, none⟩ (.int .i64 0)).setCell ⟨w.heap.size + 3, 0, none⟩ (.slice none 0 0)).setCell ⟨w.heap.size + 3, 1, none⟩ (.slice none 0 0)).setCell ⟨w.heap.size + 3, 2, none⟩ (.int .i64 0)).setCell ⟨w.heap.size + 3, 3, none⟩ (.bool false)).alloc (.cells #[.slice A' 0 c', .int .i64 0, .int .i64 0] 29) = W at RJ RD hB ⊢
    obtain ⟨y0, y1, y2⟩ := RJ.c3
    obtain ⟨z0, z1, z2, z3⟩ := RD.c4
    refine bodyPost_ret (v := .tuple #[.agg #[.slice none 0 0, .int .i64 0, .int .i64 0], .agg #[.slice none 0 0, .slice none 0 0, .int .i64 0, .bool false], .int .i64 1]) (by simp [results, Try.results21, go_sem, y0, y1, y2, z0, z1, z2, z3]) rfl ?_
    exact ⟨none, 0, 0, Jn.zero, .slice none 0 0, .slice none 0 0, Dk.zero, 1, rfl, hT, rfl, Lib.hid (rwAt_nil _ _), dkAt_zero _ _, hB⟩
end Go.Proofs.Ythlidhfahaalgaa
