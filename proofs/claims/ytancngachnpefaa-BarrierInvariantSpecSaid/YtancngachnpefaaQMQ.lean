/- Escape of package barrier: the main way. (Printed by gen_mq.py and pp.py.) No condition. -/
import Derived.Test.YtancngachnpefaaQK
import Derived.Test.YtancngachnpefaaQBU
import Derived.Test.YtancngachnpefaaQMI
import Derived.Sort.LoopGhostIn
import Derived.Sort.CutIn
import Derived.StillTailTactics
set_option linter.unusedVariables false
set_option linter.unusedSimpArgs false
set_option maxRecDepth 100000
set_option maxHeartbeats 4000000
namespace Go.Proofs.Ytancngachnpefaa
open Go.RowKit Go.Shelf
attribute [local go_sem] Oper.semAt_some
attribute [local go_sem ↓ high] app_named eq_state
theorem bEsc_2 (p : Pl) (c : List Ln) (A2 : Option Addr) (m2 k2 : Nat) (w : World) (h : Hid (askT p c = 0)) (b0 b1 b2 b3 b4 b5 be se : Int) (hbe : Hid (p.beginT = (⟨b0, b1, b2, b3, b4, b5⟩, be))) (hsf : Hid (p.safeT ⟨b0, b1, b2, b3, b4, b5⟩ = (true, se))) (hv : Hid p.Valid) (hcn : Hid (p.count ≤ 524288)) (hC : Hid (CodeAt w w.heap.size (.slice A2 m2 k2) c)) :
    Calls Try.prog 19 #[p.v, .agg #[.slice A2 m2 k2]] w (RetEsc w (escT p c).1 (escT p c).2.1 0) := by
  refine calls_of_wp_marks Try.func19 rfl ?_
  simp only [Try.ntmps19, List.size_toArray, List.length_cons, List.length_nil, Nat.reduceAdd, Nat.reduceSub, Array.replicate_succ, Array.replicate_zero, List.push_toArray, List.append_toArray, List.nil_append, List.cons_append]
  go_wp2_with fail
  have hB := (((((Below.refl w.heap.size w).alloc (by simp <;> omega) (.cells #[.int .i64 p.top, .int .i64 p.bank, .int .i64 p.siphon, .int .i64 p.start, .int .i64 p.positions, .int .i64 p.rate, .int .i64 p.step, .int .i64 p.pass, .int .i64 p.feed, .int .i64 p.pipe, .int .i64 p.orders, .int .i64 p.age] 23)).alloc (by simp <;> omega) (.cells #[.slice A2 m2 k2] 26)).alloc (by simp <;> omega) (.cells #[.slice none 0 0] 47)).alloc (by simp <;> omega) (.cells #[.bool false] 4)).alloc (by simp <;> omega) (.cells #[.int .i64 0] 33)
  have X2 := ((((Box.newAt (w := w) (n := w.heap.size) [.int .i64 p.top, .int .i64 p.bank, .int .i64 p.siphon, .int .i64 p.start, .int .i64 p.positions, .int .i64 p.rate, .int .i64 p.step, .int .i64 p.pass, .int .i64 p.feed, .int .i64 p.pipe, .int .i64 p.orders, .int .i64 p.age] 23 (by simp)).alloc (.cells #[.slice A2 m2 k2] 26)).alloc (.cells #[.slice none 0 0] 47)).alloc (.cells #[.bool false] 4)).alloc (.cells #[.int .i64 0] 33)
  have X3 := (((Box.newAt (w := (w.alloc (.cells #[.int .i64 p.top, .int .i64 p.bank, .int .i64 p.siphon, .int .i64 p.start, .int .i64 p.positions, .int .i64 p.rate, .int .i64 p.step, .int .i64 p.pass, .int .i64 p.feed, .int .i64 p.pipe, .int .i64 p.orders, .int .i64 p.age] 23))) (n := w.heap.size + 1) [.slice A2 m2 k2] 26 (by simp)).alloc (.cells #[.slice none 0 0] 47)).alloc (.cells #[.bool false] 4)).alloc (.cells #[.int .i64 0] 33)
  have X4 := ((Box.newAt (w := ((w.alloc (.cells #[.int .i64 p.top, .int .i64 p.bank, .int .i64 p.siphon, .int .i64 p.start, .int .i64 p.positions, .int .i64 p.rate, .int .i64 p.step, .int .i64 p.pass, .int .i64 p.feed, .int .i64 p.pipe, .int .i64 p.orders, .int .i64 p.age] 23)).alloc (.cells #[.slice A2 m2 k2] 26))) (n := w.heap.size + 1 + 1) [.slice none 0 0] 47 (by simp)).alloc (.cells #[.bool false] 4)).alloc (.cells #[.int .i64 0] 33)
  have X5 := (Box.newAt (w := (((w.alloc (.cells #[.int .i64 p.top, .int .i64 p.bank, .int .i64 p.siphon, .int .i64 p.start, .int .i64 p.positions, .int .i64 p.rate, .int .i64 p.step, .int .i64 p.pass, .int .i64 p.feed, .int .i64 p.pipe, .int .i64 p.orders, .int .i64 p.age] 23)).alloc (.cells #[.slice A2 m2 k2] 26)).alloc (.cells #[.slice none 0 0] 47))) (n := w.heap.size + 1 + 1 + 1) [.bool false] 4 (by simp)).alloc (.cells #[.int .i64 0] 33)
  have X6 := Box.newAt (w := ((((w.alloc (.cells #[.int .i64 p.top, .int .i64 p.bank, .int .i64 p.siphon, .int .i64 p.start, .int .i64 p.positions, .int .i64 p.rate, .int .i64 p.step, .int .i64 p.pass, .int .i64 p.feed, .int .i64 p.pipe, .int .i64 p.orders, .int .i64 p.age] 23)).alloc (.cells #[.slice A2 m2 k2] 26)).alloc (.cells #[.slice none 0 0] 47)).alloc (.cells #[.bool false] 4))) (n := w.heap.size + 1 + 1 + 1 + 1) [.int .i64 0] 33 (by simp)
  generalize (((((w.alloc (.cells #[.int .i64 p.top, .int .i64 p.bank, .int .i64 p.siphon, .int .i64 p.start, .int .i64 p.positions, .int .i64 p.rate, .int .i64 p.step, .int .i64 p.pass, .int .i64 p.feed, .int .i64 p.pipe, .int .i64 p.orders, .int .i64 p.age] 23)).alloc (.cells #[.slice A2 m2 k2] 26)).alloc (.cells #[.slice none 0 0] 47)).alloc (.cells #[.bool false] 4)).alloc (.cells #[.int .i64 0] 33)) = w0 at X2 X3 X4 X5 X6 hB ⊢
  refine (bOpen_good p c _ _ (Lib.hid (ask_zero h.out).1) (Lib.hid (ask_zero h.out).2) (Lib.hid ((hC.out.below hB).more hB.size))).mono ?_
  rintro e w1 ⟨rfl, hb⟩
  replace X2 := X2.later hb
  replace X3 := X3.later hb
  replace X4 := X4.later hb
  replace X5 := X5.later hb
  replace X6 := X6.later hb
  replace hB := hB.trans (hb.mono hB.size)
  clear hb
  clear X3
  have X6c0 : w1.cell? ⟨w.heap.size + 1 + 1 + 1 + 1, 0, none⟩ = some (.int .i64 0) := X6.cell 0
  have X6f0 : w1.frozen? ⟨w.heap.size + 1 + 1 + 1 + 1, 0, none⟩ = false := X6.free 0
  have X6z : w.heap.size + 1 + 1 + 1 + 1 < w1.heap.size := X6.lt
  go_upto_region 2 with fail
  clear X6c0 X6f0 X6z
  have hb := ((Below.refl w.heap.size w1).setCell (p := ⟨w.heap.size + 1 + 1 + 1 + 1, 0, none⟩) (by simp <;> omega) (.int .i64 0))
  replace hB := hB.trans hb
  clear hb
  replace X2 := X2.other (a := ⟨w.heap.size + 1 + 1 + 1 + 1, 0, none⟩) (by simp <;> omega) (.int .i64 0)
  replace X4 := X4.other (a := ⟨w.heap.size + 1 + 1 + 1 + 1, 0, none⟩) (by simp <;> omega) (.int .i64 0)
  replace X5 := X5.other (a := ⟨w.heap.size + 1 + 1 + 1 + 1, 0, none⟩) (by simp <;> omega) (.int .i64 0)
  replace X6 := X6.set 0 (.int .i64 0)
  simp only [List.set_cons_zero] at X6
  have hG6 : w.heap.size + 1 + 1 + 1 + 1 < w1.heap.size := by simpa using X6.lt
  generalize hsz : w1.setCell ⟨w.heap.size + 1 + 1 + 1 + 1, 0, none⟩ (.int .i64 0) = wx at X2 X4 X5 X6 hB ⊢
  have hsz2 : wx.heap.size = w1.heap.size := by rw [← hsz]; simp
  clear hsz
  have hb := (Below.refl wx.heap.size wx).alloc (Nat.le_refl _) (.cells #[.int .i64 p.top, .int .i64 p.bank, .int .i64 p.siphon, .int .i64 p.start, .int .i64 p.positions, .int .i64 p.rate, .int .i64 p.step, .int .i64 p.pass, .int .i64 p.feed, .int .i64 p.pipe, .int .i64 p.orders, .int .i64 p.age, .slice A2 m2 k2] 83)
  have X7 := Box.newAt (w := wx) (n := w1.heap.size) [.int .i64 p.top, .int .i64 p.bank, .int .i64 p.siphon, .int .i64 p.start, .int .i64 p.positions, .int .i64 p.rate, .int .i64 p.step, .int .i64 p.pass, .int .i64 p.feed, .int .i64 p.pipe, .int .i64 p.orders, .int .i64 p.age, .slice A2 m2 k2] 83 hsz2.symm
  replace X2 := X2.later hb
  replace X4 := X4.later hb
  replace X5 := X5.later hb
  replace X6 := X6.later hb
  replace hB := hB.trans (hb.mono hB.size)
  clear hb
  generalize wx.alloc (.cells #[.int .i64 p.top, .int .i64 p.bank, .int .i64 p.siphon, .int .i64 p.start, .int .i64 p.positions, .int .i64 p.rate, .int .i64 p.step, .int .i64 p.pass, .int .i64 p.feed, .int .i64 p.pipe, .int .i64 p.orders, .int .i64 p.age, .slice A2 m2 k2] 83) = w2 at X2 X4 X5 X6 X7 hB ⊢
  clear hsz2
  generalize w1.heap.size = G at X7 hG6 ⊢
  have X6c0 : w2.cell? ⟨w.heap.size + 1 + 1 + 1 + 1, 0, none⟩ = some (.int .i64 0) := X6.cell 0
  have X6f0 : w2.frozen? ⟨w.heap.size + 1 + 1 + 1 + 1, 0, none⟩ = false := X6.free 0
  have X6z : w.heap.size + 1 + 1 + 1 + 1 < w2.heap.size := X6.lt
  obtain ⟨X2c0, X2f0, X2c1, X2f1, X2c2, X2f2, X2c3, X2f3, X2c4, X2f4, X2c5, X2f5, X2c6, X2f6, X2c7, X2f7, X2c8, X2f8, X2c9, X2f9, X2c10, X2f10, X2c11, X2f11⟩ := X2.f12
  have X2z : w.heap.size < w2.heap.size := X2.lt
  go_wp2_with fail
  clear X6c0 X6f0 X6z
  clear X2c0 X2f0 X2c1 X2f1 X2c2 X2f2 X2c3 X2f3 X2c4 X2f4 X2c5 X2f5 X2c6 X2f6 X2c7 X2f7 X2c8 X2f8 X2c9 X2f9 X2c10 X2f10 X2c11 X2f11 X2z
  refine (begin_is hbe).mono ?_
  rintro e w3 ⟨rfl, hb⟩
  replace X7 := X7.later hb
  replace X4 := X4.later hb
  replace X5 := X5.later hb
  replace X6 := X6.later hb
  replace hB := hB.trans (hb.mono hB.size)
  clear hb
  have hG7 : G < w3.heap.size := X7.lt
  go_upto_region 5 with fail
  have hb := (Below.refl w3.heap.size w3).alloc (Nat.le_refl _) (.cells #[.int .i64 b0, .int .i64 b1, .int .i64 b2, .int .i64 b3, .int .i64 b4, .int .i64 b5] 30)
  have X8 := Box.new w3 [.int .i64 b0, .int .i64 b1, .int .i64 b2, .int .i64 b3, .int .i64 b4, .int .i64 b5] 30
  replace X7 := X7.later hb
  replace X4 := X4.later hb
  replace X5 := X5.later hb
  replace X6 := X6.later hb
  replace hB := hB.trans (hb.mono hB.size)
  clear hb
  generalize w3.alloc (.cells #[.int .i64 b0, .int .i64 b1, .int .i64 b2, .int .i64 b3, .int .i64 b4, .int .i64 b5] 30) = w4 at X4 X5 X6 X7 X8 hB ⊢
  generalize w3.heap.size = B8 at X8 hG7 ⊢
  have X7c0 : w4.cell? ⟨G, 0, none⟩ = some (.int .i64 p.top) := X7.cell 0
  have X7c1 : w4.cell? ⟨G, 1, none⟩ = some (.int .i64 p.bank) := X7.cell 1
  have X7c2 : w4.cell? ⟨G, 2, none⟩ = some (.int .i64 p.siphon) := X7.cell 2
  have X7c3 : w4.cell? ⟨G, 3, none⟩ = some (.int .i64 p.start) := X7.cell 3
  have X7c4 : w4.cell? ⟨G, 4, none⟩ = some (.int .i64 p.positions) := X7.cell 4
  have X7c5 : w4.cell? ⟨G, 5, none⟩ = some (.int .i64 p.rate) := X7.cell 5
  have X7c6 : w4.cell? ⟨G, 6, none⟩ = some (.int .i64 p.step) := X7.cell 6
  have X7c7 : w4.cell? ⟨G, 7, none⟩ = some (.int .i64 p.pass) := X7.cell 7
  have X7c8 : w4.cell? ⟨G, 8, none⟩ = some (.int .i64 p.feed) := X7.cell 8
  have X7c9 : w4.cell? ⟨G, 9, none⟩ = some (.int .i64 p.pipe) := X7.cell 9
  have X7c10 : w4.cell? ⟨G, 10, none⟩ = some (.int .i64 p.orders) := X7.cell 10
  have X7c11 : w4.cell? ⟨G, 11, none⟩ = some (.int .i64 p.age) := X7.cell 11
  have X7c12 : w4.cell? ⟨G, 12, none⟩ = some (.slice A2 m2 k2) := X7.cell 12
  obtain ⟨X8c0, X8c1, X8c2, X8c3, X8c4, X8c5⟩ := X8.c6
  have z7 := X7.lt
  have z8 := X8.lt
  go_wp2_with fail
  clear z7 z8 X7c0 X7c1 X7c2 X7c3 X7c4 X7c5 X7c6 X7c7 X7c8 X7c9 X7c10 X7c11 X7c12 X8c0 X8c1 X8c2 X8c3 X8c4 X8c5
  refine (bSafe_is (p := p) (V := .slice A2 m2 k2) (s := ⟨b0, b1, b2, b3, b4, b5⟩) hsf).mono ?_
  rintro e w5 ⟨rfl, hb⟩
  replace X7 := X7.later hb
  replace X8 := X8.later hb
  replace X4 := X4.later hb
  replace X5 := X5.later hb
  replace X6 := X6.later hb
  replace hB := hB.trans (hb.mono hB.size)
  clear hb
  go_upto_region 7 with fail
  have hX8z : B8 < w5.heap.size := X8.lt
  have hmk : (Instr.makeMap 105 none).run Try.prog w5 = .ok (.map (some w5.heap.size)) (w5.alloc (.map #[] 0)) := rfl
  have hM := cam_none w5
  have hB5 := hB
  have hb := (Below.refl w5.heap.size w5).alloc (Nat.le_refl _) (.map #[] 0)
  have hbw : (⟨b0, b1, b2, b3, b4, b5⟩ : St).Wide := by
    have h1 := (begin_nums (ask_zero h.out).1).out
    rw [hbe.out] at h1
    exact nums_wide h1
  obtain ⟨w6, hput, hM2, hg6, -⟩ := cam_put hM hbw ⟨St.zero, Sh.zero⟩
  replace X4 := X4.later hb
  replace X5 := X5.later hb
  replace X6 := X6.later hb
  replace hB := hB.trans (hb.mono hB.size)
  replace X7 := X7.later hb
  replace X8 := X8.later hb
  clear hb
  generalize w5.alloc (.map #[] 0) = wm at hmk hput hM hg6 X4 X5 X6 X7 X8 hB
  obtain ⟨X8c0, X8c1, X8c2, X8c3, X8c4, X8c5⟩ := X8.c6
  have z8 := X8.lt
  simp only [Wy.v, St.zero, Sh.zero] at hput
  go_upto_region 8 with fail
  clear hmk hput X8c0 X8c1 X8c2 X8c3 X8c4 X8c5 z8
  replace X4 := X4.same (hg6.block _ X4.lt (fun e => hM.notBox X4 (Option.some.inj e)))
  replace X5 := X5.same (hg6.block _ X5.lt (fun e => hM.notBox X5 (Option.some.inj e)))
  replace X6 := X6.same (hg6.block _ X6.lt (fun e => hM.notBox X6 (Option.some.inj e)))
  replace X7 := X7.same (hg6.block _ X7.lt (fun e => hM.notBox X7 (Option.some.inj e)))
  replace X8 := X8.same (hg6.block _ X8.lt (fun e => hM.notBox X8 (Option.some.inj e)))
  have hcs : w.heap.size ≤ w5.heap.size := hB5.size
  have hz8 : B8 < w5.heap.size := hX8z
  replace hB := hB.grown hg6 hB.size (fun k hk => by cases hk; exact hcs)
  clear hM hg6
  have hz6 : w5.heap.size < w6.heap.size := hM2.lt
  have hb := (Below.refl w6.heap.size w6).alloc (Nat.le_refl _) (.cells #[.map (some w5.heap.size)] 105)
  have X10 := Box.new w6 [.map (some w5.heap.size)] 105
  replace hM2 := hM2.later hb
  replace X4 := X4.later hb
  replace X5 := X5.later hb
  replace X6 := X6.later hb
  replace hB := hB.trans (hb.mono hB.size)
  replace X7 := X7.later hb
  replace X8 := X8.later hb
  clear hb
  generalize w6.alloc (.cells #[.map (some w5.heap.size)] 105) = w7 at X4 X5 X6 X7 X8 X10 hM2 hB ⊢
  generalize w6.heap.size = B10 at X10 hz6 ⊢
  clear hX8z
  generalize w5.heap.size = Bc at X10 hM2 hcs hz6 hz8 ⊢
  have hz10 : B10 < w7.heap.size := X10.lt
  obtain ⟨X8c0, X8c1, X8c2, X8c3, X8c4, X8c5⟩ := X8.c6
  have z8 := X8.lt
  go_upto_region 9 with fail
  clear X8c0 X8c1 X8c2 X8c3 X8c4 X8c5 z8
  have hb := ((Below.refl w7.heap.size w7).alloc (Nat.le_refl _) (.cells #[.int .i64 b0, .int .i64 b1, .int .i64 b2, .int .i64 b3, .int .i64 b4, .int .i64 b5] 30)).alloc (by simp) (.cells #[.slice (some ⟨w7.heap.size, 0, none⟩) 1 1] 43)
  have X11 := Box.newAt (w := w7.alloc (.cells #[.int .i64 b0, .int .i64 b1, .int .i64 b2, .int .i64 b3, .int .i64 b4, .int .i64 b5] 30)) (n := w7.heap.size + 1) [.slice (some ⟨w7.heap.size, 0, none⟩) 1 1] 43 (by simp)
  have XR := (Box.new w7 [.int .i64 b0, .int .i64 b1, .int .i64 b2, .int .i64 b3, .int .i64 b4, .int .i64 b5] 30).alloc (.cells #[.slice (some ⟨w7.heap.size, 0, none⟩) 1 1] 43)
  have hQ : Qu ((w7.alloc (.cells #[.int .i64 b0, .int .i64 b1, .int .i64 b2, .int .i64 b3, .int .i64 b4, .int .i64 b5] 30)).alloc (.cells #[.slice (some ⟨w7.heap.size, 0, none⟩) 1 1] 43)) w7.heap.size (.slice (some ⟨w7.heap.size, 0, none⟩) 1 1) [⟨b0, b1, b2, b3, b4, b5⟩] := by
    refine Qu.ofRow ⟨rfl, .inr ⟨w7.heap.size, 1, #[.int .i64 b0, .int .i64 b1, .int .i64 b2, .int .i64 b3, .int .i64 b4, .int .i64 b5], rfl, Nat.le_refl _, ?_, Nat.le_refl _, by simp only [maxLen]; omega, rfl, rfl⟩⟩
    exact (((Below.refl _ _).alloc (Nat.le_refl _) _).block _ (by simp)).trans (World.alloc_heap_new w7 _)
  replace hM2 := hM2.later hb
  replace X4 := X4.later hb
  replace X5 := X5.later hb
  replace X6 := X6.later hb
  replace hB := hB.trans (hb.mono hB.size)
  replace X7 := X7.later hb
  replace X8 := X8.later hb
  replace X10 := X10.later hb
  clear hb
  generalize (w7.alloc (.cells #[.int .i64 b0, .int .i64 b1, .int .i64 b2, .int .i64 b3, .int .i64 b4, .int .i64 b5] 30)).alloc (.cells #[.slice (some ⟨w7.heap.size, 0, none⟩) 1 1] 43) = w8 at X4 X5 X6 X7 X8 X10 X11 XR hM2 hQ hB ⊢
  generalize w7.heap.size = Rb at X11 XR hQ hz10 ⊢
  obtain ⟨fin, hfin⟩ : ∃ fin, escE p c (p.count + 1) (startE p) = fin := ⟨_, rfl⟩
  have hst : startE p = ⟨updS (fun _ => none) ⟨b0, b1, b2, b3, b4, b5⟩ ⟨St.zero, Sh.zero⟩, [⟨b0, b1, b2, b3, b4, b5⟩]⟩ := by
    unfold startE
    rw [hbe.out]
  have hev0 : EvOk p ⟨b0, b1, b2, b3, b4, b5⟩ ⟨updS (fun _ => none) ⟨b0, b1, b2, b3, b4, b5⟩ ⟨St.zero, Sh.zero⟩, [⟨b0, b1, b2, b3, b4, b5⟩]⟩ (p.count + 1) := by
    have h1 := evOk_start hv.out (begin_has hv.out (ask_zero h.out).1)
    rw [hst, hbe.out] at h1
    exact h1
  have HES := Lib.hid hfin
  have HSB : Hid ((p.safeT p.beginT.1).1 = true) := Lib.hid (by rw [hbe.out]; dsimp only; rw [hsf.out])
  rw [hst] at hfin
  have hES0 := Lib.hid hfin
  have hEV0 := Lib.hid hev0
  clear hfin hst hev0
  have hN : EsN w G B8 Bc B10 Rb := ⟨hG6, hG7, hz8, hz6, hz10⟩
  have hEB : EsB w G B8 Bc B10 p (.slice A2 m2 k2) ⟨b0, b1, b2, b3, b4, b5⟩ [] w8 := ⟨hB, X5, X6, X7, X8, X10, fun r hr => by cases hr⟩
  have hED0 : EsD Rb Bc (Rb + 1) (updS (fun _ => none) ⟨b0, b1, b2, b3, b4, b5⟩ ⟨St.zero, Sh.zero⟩) (some ⟨Rb, 0, none⟩) 1 1 [⟨b0, b1, b2, b3, b4, b5⟩] w8 := ⟨X11, hQ, (fun e => Nat.ne_of_lt (Nat.lt_succ_self Rb) (Option.some.inj e)), hM2⟩
  clear X5 X6 X7 X8 X10 X11 XR hM2 hQ hB
  refine wp_loop_ghost_k (fun k a wr => ∃ (u : Nat → Value) (Bo : Nat) (rs : List Nat) (came : St → Option Wy) (op : List St) (A : Option Addr) (n c' : Nat), a = { tmps := #[p.v, .agg #[.slice A2 m2 k2], .pointer (some ⟨w.heap.size, 0, none⟩), .pointer (some ⟨w.heap.size + 1, 0, none⟩), .pointer (some ⟨w.heap.size + 1 + 1, 0, none⟩), .pointer (some ⟨w.heap.size + 1 + 1 + 1, 0, none⟩), .pointer (some ⟨w.heap.size + 1 + 1 + 1 + 1, 0, none⟩), .pointer (some ⟨G, 0, none⟩), .pointer (some ⟨B8, 0, none⟩), .int .i64 be, .pointer (some ⟨B10, 0, none⟩), .pointer (some ⟨Bo, 0, none⟩), u 12, u 13, u 14, u 15, u 16, .tuple #[gmV p (.slice A2 m2 k2), .int .i64 0], .agg #[.int .i64 p.top, .int .i64 p.bank, .int .i64 p.siphon, .int .i64 p.start, .int .i64 p.positions, .int .i64 p.rate, .int .i64 p.step, .int .i64 p.pass, .int .i64 p.feed, .int .i64 p.pipe, .int .i64 p.orders, .int .i64 p.age], .agg #[.slice A2 m2 k2], .tuple #[gmV p (.slice A2 m2 k2), .int .i64 0], gmV p (.slice A2 m2 k2), .int .i64 0, .int .i64 0, .bool false, undef, .tuple #[St.v ⟨b0, b1, b2, b3, b4, b5⟩, .int .i64 be], .agg #[.int .i64 p.top, .int .i64 p.bank, .int .i64 p.siphon, .int .i64 p.start, .int .i64 p.positions, .int .i64 p.rate, .int .i64 p.step, .int .i64 p.pass, .int .i64 p.feed, .int .i64 p.pipe, .int .i64 p.orders, .int .i64 p.age], .tuple #[St.v ⟨b0, b1, b2, b3, b4, b5⟩, .int .i64 be], St.v ⟨b0, b1, b2, b3, b4, b5⟩, .int .i64 be, .agg #[.int .i64 p.top, .int .i64 p.bank, .int .i64 p.siphon, .int .i64 p.start, .int .i64 p.positions, .int .i64 p.rate, .int .i64 p.step, .int .i64 p.pass, .int .i64 p.feed, .int .i64 p.pipe, .int .i64 p.orders, .int .i64 p.age, .slice A2 m2 k2], .agg #[.int .i64 b0, .int .i64 b1, .int .i64 b2, .int .i64 b3, .int .i64 b4, .int .i64 b5], .bool true, .bool false, .map (some Bc), .agg #[.int .i64 b0, .int .i64 b1, .int .i64 b2, .int .i64 b3, .int .i64 b4, .int .i64 b5], wayZ, .map (some Bc), .agg #[.int .i64 b0, .int .i64 b1, .int .i64 b2, .int .i64 b3, .int .i64 b4, .int .i64 b5], .slice (some ⟨Rb, 0, none⟩) 1 1, u 41, u 42, u 43, u 44, u 45, u 46, u 47, u 48, u 49, u 50, u 51, u 52, u 53, u 54, u 55, u 56, u 57, u 58, u 59, u 60, u 61, u 62, u 63, u 64, u 65, u 66, u 67, u 68, u 69, u 70, u 71, u 72, u 73, u 74, u 75, u 76, u 77, u 78, u 79, u 80, u 81, u 82, u 83, u 84, u 85, u 86, u 87, u 88, u 89, u 90], defers := rs.map markD } ∧ Rb < Bo ∧ EsB w G B8 Bc B10 p (.slice A2 m2 k2) ⟨b0, b1, b2, b3, b4, b5⟩ rs wr ∧ EsD Rb Bc Bo came A n c' op wr ∧ Box wr (w.heap.size + 1 + 1) [.slice none 0 0] ∧ Hid rs.Nodup ∧ Hid (∀ q ∈ rs, Rb ≤ q) ∧ Hid (escE p c k ⟨came, op⟩ = fin) ∧ Hid (EvOk p ⟨b0, b1, b2, b3, b4, b5⟩ ⟨came, op⟩ k) ∧ Hid (k ≤ p.count + 1)) (p.count + 1) ?start ?round
  case start => exact ⟨fun _ => undef, Rb + 1, [], _, _, _, _, _, rfl, Nat.lt_succ_self _, hEB, hED0, X4, Lib.hid List.nodup_nil, Lib.hid (fun q hq => by cases hq), hES0, hEV0, Lib.hid (Nat.le_refl _)⟩
  case round =>
    clear hEB hED0 X4 hES0 hEV0
    rintro k a wr ⟨u, Bo, rs, came, op, A, n, c', rfl, hlo, hES, hED, hres, hnd, hrl, hes, hev, hkk⟩ J K hJ hK
    have hJ' : ∀ k a wr, (∃ (Bo : Nat) (rs : List Nat) (came : St → Option Wy) (op : List St) (A : Option Addr) (n c' : Nat), a = { tmps := #[p.v, .agg #[.slice A2 m2 k2], .pointer (some ⟨w.heap.size, 0, none⟩), .pointer (some ⟨w.heap.size + 1, 0, none⟩), .pointer (some ⟨w.heap.size + 1 + 1, 0, none⟩), .pointer (some ⟨w.heap.size + 1 + 1 + 1, 0, none⟩), .pointer (some ⟨w.heap.size + 1 + 1 + 1 + 1, 0, none⟩), .pointer (some ⟨G, 0, none⟩), .pointer (some ⟨B8, 0, none⟩), .int .i64 be, .pointer (some ⟨B10, 0, none⟩), .pointer (some ⟨Bo, 0, none⟩), a.tmps.getD 12 undef, a.tmps.getD 13 undef, a.tmps.getD 14 undef, a.tmps.getD 15 undef, a.tmps.getD 16 undef, .tuple #[gmV p (.slice A2 m2 k2), .int .i64 0], .agg #[.int .i64 p.top, .int .i64 p.bank, .int .i64 p.siphon, .int .i64 p.start, .int .i64 p.positions, .int .i64 p.rate, .int .i64 p.step, .int .i64 p.pass, .int .i64 p.feed, .int .i64 p.pipe, .int .i64 p.orders, .int .i64 p.age], .agg #[.slice A2 m2 k2], .tuple #[gmV p (.slice A2 m2 k2), .int .i64 0], gmV p (.slice A2 m2 k2), .int .i64 0, .int .i64 0, .bool false, undef, .tuple #[St.v ⟨b0, b1, b2, b3, b4, b5⟩, .int .i64 be], .agg #[.int .i64 p.top, .int .i64 p.bank, .int .i64 p.siphon, .int .i64 p.start, .int .i64 p.positions, .int .i64 p.rate, .int .i64 p.step, .int .i64 p.pass, .int .i64 p.feed, .int .i64 p.pipe, .int .i64 p.orders, .int .i64 p.age], .tuple #[St.v ⟨b0, b1, b2, b3, b4, b5⟩, .int .i64 be], St.v ⟨b0, b1, b2, b3, b4, b5⟩, .int .i64 be, .agg #[.int .i64 p.top, .int .i64 p.bank, .int .i64 p.siphon, .int .i64 p.start, .int .i64 p.positions, .int .i64 p.rate, .int .i64 p.step, .int .i64 p.pass, .int .i64 p.feed, .int .i64 p.pipe, .int .i64 p.orders, .int .i64 p.age, .slice A2 m2 k2], .agg #[.int .i64 b0, .int .i64 b1, .int .i64 b2, .int .i64 b3, .int .i64 b4, .int .i64 b5], .bool true, .bool false, .map (some Bc), .agg #[.int .i64 b0, .int .i64 b1, .int .i64 b2, .int .i64 b3, .int .i64 b4, .int .i64 b5], wayZ, .map (some Bc), .agg #[.int .i64 b0, .int .i64 b1, .int .i64 b2, .int .i64 b3, .int .i64 b4, .int .i64 b5], .slice (some ⟨Rb, 0, none⟩) 1 1, a.tmps.getD 41 undef, a.tmps.getD 42 undef, a.tmps.getD 43 undef, a.tmps.getD 44 undef, a.tmps.getD 45 undef, a.tmps.getD 46 undef, a.tmps.getD 47 undef, a.tmps.getD 48 undef, a.tmps.getD 49 undef, a.tmps.getD 50 undef, a.tmps.getD 51 undef, a.tmps.getD 52 undef, a.tmps.getD 53 undef, a.tmps.getD 54 undef, a.tmps.getD 55 undef, a.tmps.getD 56 undef, a.tmps.getD 57 undef, a.tmps.getD 58 undef, a.tmps.getD 59 undef, a.tmps.getD 60 undef, a.tmps.getD 61 undef, a.tmps.getD 62 undef, a.tmps.getD 63 undef, a.tmps.getD 64 undef, a.tmps.getD 65 undef, a.tmps.getD 66 undef, a.tmps.getD 67 undef, a.tmps.getD 68 undef, a.tmps.getD 69 undef, a.tmps.getD 70 undef, a.tmps.getD 71 undef, a.tmps.getD 72 undef, a.tmps.getD 73 undef, a.tmps.getD 74 undef, a.tmps.getD 75 undef, a.tmps.getD 76 undef, a.tmps.getD 77 undef, a.tmps.getD 78 undef, a.tmps.getD 79 undef, a.tmps.getD 80 undef, a.tmps.getD 81 undef, a.tmps.getD 82 undef, a.tmps.getD 83 undef, a.tmps.getD 84 undef, a.tmps.getD 85 undef, a.tmps.getD 86 undef, a.tmps.getD 87 undef, a.tmps.getD 88 undef, a.tmps.getD 89 undef, a.tmps.getD 90 undef], defers := rs.map markD } ∧ Rb < Bo ∧ EsB w G B8 Bc B10 p (.slice A2 m2 k2) ⟨b0, b1, b2, b3, b4, b5⟩ rs wr ∧ EsD Rb Bc Bo came A n c' op wr ∧ Box wr (w.heap.size + 1 + 1) [.slice none 0 0] ∧ Hid rs.Nodup ∧ Hid (∀ q ∈ rs, Rb ≤ q) ∧ Hid (escE p c k ⟨came, op⟩ = fin) ∧ Hid (EvOk p ⟨b0, b1, b2, b3, b4, b5⟩ ⟨came, op⟩ k) ∧ Hid (k ≤ p.count + 1)) → J k a wr := fun k a wr h => hJ k a wr ⟨fun j => a.tmps.getD j undef, h⟩
    have HJ := Lib.hid hJ'
    clear hJ hJ'
    rcases op with _ | ⟨s, r⟩
    · obtain ⟨A', c'', hV⟩ := hED.q.form
      cases hV
      clear HJ hK
      have hfin := esc_end hes.out
      subst hfin
      have Zb := hED.box
      have Zbc0 : wr.cell? ⟨Bo, 0, none⟩ = some (.slice A 0 c') := Zb.cell 0
      have Zbz := Zb.lt
      have X4 := hres
      have X5 := hES.ok
      have X6 := hES.er
      have hB := hES.low
      have X4c0 : wr.cell? ⟨w.heap.size + 1 + 1, 0, none⟩ = some (.slice none 0 0) := X4.cell 0
      have X4f0 : wr.frozen? ⟨w.heap.size + 1 + 1, 0, none⟩ = false := X4.free 0
      have X4z : w.heap.size + 1 + 1 < wr.heap.size := X4.lt
      have X5c0 : wr.cell? ⟨w.heap.size + 1 + 1 + 1, 0, none⟩ = some (.bool false) := X5.cell 0
      have X5f0 : wr.frozen? ⟨w.heap.size + 1 + 1 + 1, 0, none⟩ = false := X5.free 0
      have X5z : w.heap.size + 1 + 1 + 1 < wr.heap.size := X5.lt
      have X6c0 : wr.cell? ⟨w.heap.size + 1 + 1 + 1 + 1, 0, none⟩ = some (.int .i64 0) := X6.cell 0
      have X6f0 : wr.frozen? ⟨w.heap.size + 1 + 1 + 1 + 1, 0, none⟩ = false := X6.free 0
      have X6z : w.heap.size + 1 + 1 + 1 + 1 < wr.heap.size := X6.lt
      go_upto_region 27 with fail
      clear Zbc0 Zbz Zb
      go_wp2
      have hmk := hES.marks
      have hZ : Chg (fun k => k = w.heap.size + 1 + 1 ∨ k = w.heap.size + 1 + 1 + 1 ∨ k = w.heap.size + 1 + 1 + 1 + 1) wr (((wr.setCell ⟨w.heap.size + 1 + 1, 0, none⟩ (.slice none 0 0)).setCell ⟨w.heap.size + 1 + 1 + 1, 0, none⟩ (.bool false)).setCell ⟨w.heap.size + 1 + 1 + 1 + 1, 0, none⟩ (.int .i64 0)) :=
        (((Chg.refl _ wr).cell 0 _ (.inl (.inl rfl))).cell 0 _ (.inl (.inr (.inl rfl)))).cell 0 _ (.inl (.inr (.inr rfl)))
      have Z4 : Box (((wr.setCell ⟨w.heap.size + 1 + 1, 0, none⟩ (.slice none 0 0)).setCell ⟨w.heap.size + 1 + 1 + 1, 0, none⟩ (.bool false)).setCell ⟨w.heap.size + 1 + 1 + 1 + 1, 0, none⟩ (.int .i64 0)) (w.heap.size + 1 + 1) [.slice none 0 0] := ((X4.set 0 (.slice none 0 0)).other (a := ⟨w.heap.size + 1 + 1 + 1, 0, none⟩) (by dsimp only; omega) _).other (a := ⟨w.heap.size + 1 + 1 + 1 + 1, 0, none⟩) (by dsimp only; omega) _
      have Z5 : Box (((wr.setCell ⟨w.heap.size + 1 + 1, 0, none⟩ (.slice none 0 0)).setCell ⟨w.heap.size + 1 + 1 + 1, 0, none⟩ (.bool false)).setCell ⟨w.heap.size + 1 + 1 + 1 + 1, 0, none⟩ (.int .i64 0)) (w.heap.size + 1 + 1 + 1) [.bool false] := ((X5.other (a := ⟨w.heap.size + 1 + 1, 0, none⟩) (by dsimp only; omega) _).set 0 (.bool false)).other (a := ⟨w.heap.size + 1 + 1 + 1 + 1, 0, none⟩) (by dsimp only; omega) _
      have Z6 : Box (((wr.setCell ⟨w.heap.size + 1 + 1, 0, none⟩ (.slice none 0 0)).setCell ⟨w.heap.size + 1 + 1 + 1, 0, none⟩ (.bool false)).setCell ⟨w.heap.size + 1 + 1 + 1 + 1, 0, none⟩ (.int .i64 0)) (w.heap.size + 1 + 1 + 1 + 1) [.int .i64 0] := ((X6.other (a := ⟨w.heap.size + 1 + 1, 0, none⟩) (by dsimp only; omega) _).other (a := ⟨w.heap.size + 1 + 1 + 1, 0, none⟩) (by dsimp only; omega) _).set 0 (.int .i64 0)
      have hmk2 : ∀ q ∈ rs, (((wr.setCell ⟨w.heap.size + 1 + 1, 0, none⟩ (.slice none 0 0)).setCell ⟨w.heap.size + 1 + 1 + 1, 0, none⟩ (.bool false)).setCell ⟨w.heap.size + 1 + 1 + 1 + 1, 0, none⟩ (.int .i64 0)).heap[q]? = some (.deferred (some [])) := fun q hq => by
        have h1 := hmk q hq
        refine (hZ.block q (Array.getElem?_eq_some_iff.1 h1).1 (fun e => ?_)).trans h1
        rcases e with rfl | rfl | rfl
        · exact hES.boxOff X4 hq
        · exact hES.boxOff X5 hq
        · exact hES.boxOff X6 hq
      have hlow := hB.trans (hZ.low hB.size (fun k hk => by omega))
      generalize ((wr.setCell ⟨w.heap.size + 1 + 1, 0, none⟩ (.slice none 0 0)).setCell ⟨w.heap.size + 1 + 1 + 1, 0, none⟩ (.bool false)).setCell ⟨w.heap.size + 1 + 1 + 1 + 1, 0, none⟩ (.int .i64 0) = wz at Z4 Z5 Z6 hmk2 hlow ⊢
      refine leaves_marks (by simp) rs _ hnd.out hmk2 ?_
      intro wg hg
      have c4 : wg.cell? ⟨w.heap.size + 1 + 1, 0, none⟩ = some (.slice none 0 0) := (hg.box hmk2 Z4).cell 0
      have c5 : wg.cell? ⟨w.heap.size + 1 + 1 + 1, 0, none⟩ = some (.bool false) := (hg.box hmk2 Z5).cell 0
      have c6 : wg.cell? ⟨w.heap.size + 1 + 1 + 1 + 1, 0, none⟩ = some (.int .i64 0) := (hg.box hmk2 Z6).cell 0
      refine ⟨_, (by simp [results, Try.results19, go_sem, c4, c5, c6] : _ = Result.ok (Value.tuple #[.slice none 0 0, .bool false, .int .i64 0]) _), ?_⟩
      rw [escT_none h.out HSB.out HES.out]
      exact RetEsc.nil rfl (hlow.trans (hg.low (fun q hq => by have := hrl.out q hq; omega)))
    obtain ⟨k', rfl⟩ : ∃ k', k = k' + 1 := ⟨k - 1, by have := hev.out.bound; dsimp only at this; rw [List.length_cons] at this; omega⟩
    obtain ⟨bq, off, cap, hV, hDq, hltq, hcells, -⟩ := hED.q.head
    cases hV
    have hsm : s ∈ p.states := hev.out.dom _ (hev.out.ops s (List.mem_cons_self ..))
    have HSM := Lib.hid hsm
    clear hsm
    obtain ⟨x0, x1, x2, x3, x4, x5⟩ := s
    have q0 := hcells 0 (by omega)
    have q1 := hcells 1 (by omega)
    have q2 := hcells 2 (by omega)
    have q3 := hcells 3 (by omega)
    have q4 := hcells 4 (by omega)
    have q5 := hcells 5 (by omega)
    simp only [St.cells, Nat.add_zero, List.getElem?_cons_zero, List.getElem?_cons_succ] at q0 q1 q2 q3 q4 q5
    have e0 : (0 : Int) < ((r.length + 1 : Nat) : Int) := by omega
    have Zb := hED.box
    have Zbc0 : wr.cell? ⟨Bo, 0, none⟩ = some (.slice (some ⟨bq, off, none⟩) (r.length + 1) (cap + 1)) := Zb.cell 0
    have Zbz := Zb.lt
    go_upto_region 12 with fail
    clear q0 q1 q2 q3 q4 q5 hcells Zbc0 Zb e0 hltq hDq
    have hb := (Below.refl wr.heap.size wr).alloc (Nat.le_refl _) (.cells #[.int .i64 x0, .int .i64 x1, .int .i64 x2, .int .i64 x3, .int .i64 x4, .int .i64 x5] 30)
    have X12 := Box.new wr [.int .i64 x0, .int .i64 x1, .int .i64 x2, .int .i64 x3, .int .i64 x4, .int .i64 x5] 30
    have hES2 := hES.later hN hb
    have hED2 := hED.later hb
    have hres2 := hres.later hb
    have hqo : ∀ g, quB (.slice (some ⟨bq, off, none⟩) (r.length + 1) (cap + 1)) = some g → g < wr.heap.size := fun g hg => (hED.q.lt hg).2
    have HQO := Lib.hid hqo
    clear hqo hb hES hED hres
    generalize wr.alloc (.cells #[.int .i64 x0, .int .i64 x1, .int .i64 x2, .int .i64 x3, .int .i64 x4, .int .i64 x5] 30) = wp at X12 hES2 hED2 hres2 ⊢
    generalize wr.heap.size = B12 at X12 HQO Zbz ⊢
    have X7 := hES2.game
    have X7c0 : wp.cell? ⟨G, 0, none⟩ = some (.int .i64 p.top) := X7.cell 0
    have X7c1 : wp.cell? ⟨G, 1, none⟩ = some (.int .i64 p.bank) := X7.cell 1
    have X7c2 : wp.cell? ⟨G, 2, none⟩ = some (.int .i64 p.siphon) := X7.cell 2
    have X7c3 : wp.cell? ⟨G, 3, none⟩ = some (.int .i64 p.start) := X7.cell 3
    have X7c4 : wp.cell? ⟨G, 4, none⟩ = some (.int .i64 p.positions) := X7.cell 4
    have X7c5 : wp.cell? ⟨G, 5, none⟩ = some (.int .i64 p.rate) := X7.cell 5
    have X7c6 : wp.cell? ⟨G, 6, none⟩ = some (.int .i64 p.step) := X7.cell 6
    have X7c7 : wp.cell? ⟨G, 7, none⟩ = some (.int .i64 p.pass) := X7.cell 7
    have X7c8 : wp.cell? ⟨G, 8, none⟩ = some (.int .i64 p.feed) := X7.cell 8
    have X7c9 : wp.cell? ⟨G, 9, none⟩ = some (.int .i64 p.pipe) := X7.cell 9
    have X7c10 : wp.cell? ⟨G, 10, none⟩ = some (.int .i64 p.orders) := X7.cell 10
    have X7c11 : wp.cell? ⟨G, 11, none⟩ = some (.int .i64 p.age) := X7.cell 11
    have X7c12 : wp.cell? ⟨G, 12, none⟩ = some (.slice A2 m2 k2) := X7.cell 12
    obtain ⟨X12c0, X12c1, X12c2, X12c3, X12c4, X12c5⟩ := X12.c6
    have X7z := X7.lt
    have X12z := X12.lt
    go_wp2_with fail
    refine (bNext_any p (.slice A2 m2 k2) ⟨x0, x1, x2, x3, x4, x5⟩ _).mono ?_
    rintro e W3 ⟨rfl, hGg, hGs, hb5⟩
    clear X7c0 X7c1 X7c2 X7c3 X7c4 X7c5 X7c6 X7c7 X7c8 X7c9 X7c10 X7c11 X7c12 X12c0 X12c1 X12c2 X12c3 X12c4 X12c5 X7z X7
    have hES3 := hES2.later hN hb5
    have hED3 := hED2.later hb5
    have hres3 := hres2.later hb5
    have X12 := X12.later hb5
    have hBg : B12 < wp.heap.size := X12z
    have hz3 : wp.heap.size + 1 < W3.heap.size := hGs.lt
    clear X12z hb5 hES2 hED2 hres2
    generalize wp.heap.size = Bg at hGg hGs hz3 hBg ⊢
    have hIN : InEN w G B8 Bc B10 Rb Bo B12 Bg W3.heap.size rs := ⟨hN, hlo, Zbz, hBg, hz3, fun q hq => (Array.getElem?_eq_some_iff.1 (hES3.marks q hq)).1⟩
    have hI3 : InE w G B8 Bc B10 Rb Bo B12 W3.heap.size p (.slice A2 m2 k2) ⟨b0, b1, b2, b3, b4, b5⟩ ⟨x0, x1, x2, x3, x4, x5⟩ rs came (some ⟨bq, off, none⟩) (r.length + 1) (cap + 1) (⟨x0, x1, x2, x3, x4, x5⟩ :: r) W3 :=
      ⟨Nat.le_refl _, hES3, hED3, hres3, X12, fun g hg => .inl (HQO.out g hg)⟩
    clear hES3 hED3 hres3 X12 HQO
    go_wp2_with fail
    have hw3 : w.heap.size ≤ W3.heap.size := hI3.st.low.size
    have hI0 : innerE p ⟨x0, x1, x2, x3, x4, x5⟩ [] ⟨came, ⟨x0, x1, x2, x3, x4, x5⟩ :: r⟩ = (⟨came, ⟨x0, x1, x2, x3, x4, x5⟩ :: r⟩, none) := rfl
    have HI0 := Lib.hid hI0
    clear hI0
    refine wpIn_wide.1 (wpIn_rangeO_out (n := 6) rfl (by omega) (gf := 67) (lb := #[.pointer (some ⟨Bg, 0, none⟩), .pointer (some ⟨Bg + 1, 0, none⟩)]) rfl trivial (enters_of Try.func67 (by kernel_rfl) rfl)
      (encs := fun x : Sh × St => #[x.1.v, x.2.v]) (Kpn := fun _ => KeepsC w.heap.size (fun k => ¬ (k = Bg ∨ k = Bg + 1))) (Ow := fun _ => none) (Kp := KeepsC w.heap.size (fun k => ¬ (k = Bg ∨ k = Bg + 1))) rfl (fun k hk => by cases hk) (fun A B C h1 h2 => h1.trans h2) (fun W l o o' hl ho hc => KeepsC.put ho hc (Nat.le_trans hw3 hl) o')
      (next_seqO 5 p c (.slice A2 m2 k2) ⟨x0, x1, x2, x3, x4, x5⟩ hv Bg (Bg + 1) W3 w.heap.size (fun _ k => ¬ (k = Bg ∨ k = Bg + 1)) hw3 (Lib.hid (hC.out.below hI3.st.low)) hGg hGs (fun _ h => h (.inl rfl)) (fun _ h => h (.inr rfl))) (Below.refl _ _) (fun _ => rfl)
      (fun pre A => ∃ came' op' A' n' c', InE w G B8 Bc B10 Rb Bo B12 W3.heap.size p (.slice A2 m2 k2) ⟨b0, b1, b2, b3, b4, b5⟩ ⟨x0, x1, x2, x3, x4, x5⟩ rs came' A' n' c' op' A ∧ Hid (innerE p ⟨x0, x1, x2, x3, x4, x5⟩ pre ⟨came, ⟨x0, x1, x2, x3, x4, x5⟩ :: r⟩ = (⟨came', op'⟩, none)) ∧ Hid (EvOk p ⟨b0, b1, b2, b3, b4, b5⟩ ⟨came', op'⟩ (k' + 1)))
      (fun cc pre A => cc = .ret ∧ RtE w rs (escT p c).1 A ∧ Hid ((escT p c).2.1 = true))
      ?hI ?hIx ?hI2 ?hIx2 ?h0
      (fun pre x a' A => ∃ B13 B14 came' op' A' n' c', W3.heap.size ≤ B13 ∧ B13 < B14 ∧ Box A B13 [.int .i64 x.1.feed, .int .i64 x.1.msg] ∧ Box A B14 [.int .i64 x.2.level, .int .i64 x.2.position, .int .i64 x.2.p0, .int .i64 x.2.p1, .int .i64 x.2.order, .int .i64 x.2.age] ∧ InE w G B8 Bc B10 Rb Bo B12 W3.heap.size p (.slice A2 m2 k2) ⟨b0, b1, b2, b3, b4, b5⟩ ⟨x0, x1, x2, x3, x4, x5⟩ rs came' A' n' c' op' A ∧ Hid (innerE p ⟨x0, x1, x2, x3, x4, x5⟩ pre ⟨came, ⟨x0, x1, x2, x3, x4, x5⟩ :: r⟩ = (⟨came', op'⟩, none)) ∧ Hid (EvOk p ⟨b0, b1, b2, b3, b4, b5⟩ ⟨came', op'⟩ (k' + 1)) ∧ Hid (pre ++ [x] <+: p.nexts c ⟨x0, x1, x2, x3, x4, x5⟩ (p.nf * p.nm)) ∧ a' = { tmps := #[p.v, .agg #[.slice A2 m2 k2], .pointer (some ⟨w.heap.size, 0, none⟩), .pointer (some ⟨w.heap.size + 1, 0, none⟩), .pointer (some ⟨w.heap.size + 1 + 1, 0, none⟩), .pointer (some ⟨w.heap.size + 1 + 1 + 1, 0, none⟩), .pointer (some ⟨w.heap.size + 1 + 1 + 1 + 1, 0, none⟩), .pointer (some ⟨G, 0, none⟩), .pointer (some ⟨B8, 0, none⟩), .int .i64 be, .pointer (some ⟨B10, 0, none⟩), .pointer (some ⟨Bo, 0, none⟩), .pointer (some ⟨B12, 0, none⟩), .pointer (some ⟨B13, 0, none⟩), .pointer (some ⟨B14, 0, none⟩), a'.tmps.getD 15 undef, a'.tmps.getD 16 undef, .tuple #[gmV p (.slice A2 m2 k2), .int .i64 0], .agg #[.int .i64 p.top, .int .i64 p.bank, .int .i64 p.siphon, .int .i64 p.start, .int .i64 p.positions, .int .i64 p.rate, .int .i64 p.step, .int .i64 p.pass, .int .i64 p.feed, .int .i64 p.pipe, .int .i64 p.orders, .int .i64 p.age], .agg #[.slice A2 m2 k2], .tuple #[gmV p (.slice A2 m2 k2), .int .i64 0], gmV p (.slice A2 m2 k2), .int .i64 0, .int .i64 0, .bool false, undef, .tuple #[St.v ⟨b0, b1, b2, b3, b4, b5⟩, .int .i64 be], .agg #[.int .i64 p.top, .int .i64 p.bank, .int .i64 p.siphon, .int .i64 p.start, .int .i64 p.positions, .int .i64 p.rate, .int .i64 p.step, .int .i64 p.pass, .int .i64 p.feed, .int .i64 p.pipe, .int .i64 p.orders, .int .i64 p.age], .tuple #[St.v ⟨b0, b1, b2, b3, b4, b5⟩, .int .i64 be], St.v ⟨b0, b1, b2, b3, b4, b5⟩, .int .i64 be, .agg #[.int .i64 p.top, .int .i64 p.bank, .int .i64 p.siphon, .int .i64 p.start, .int .i64 p.positions, .int .i64 p.rate, .int .i64 p.step, .int .i64 p.pass, .int .i64 p.feed, .int .i64 p.pipe, .int .i64 p.orders, .int .i64 p.age, .slice A2 m2 k2], .agg #[.int .i64 b0, .int .i64 b1, .int .i64 b2, .int .i64 b3, .int .i64 b4, .int .i64 b5], .bool true, .bool false, .map (some Bc), .agg #[.int .i64 b0, .int .i64 b1, .int .i64 b2, .int .i64 b3, .int .i64 b4, .int .i64 b5], wayZ, .map (some Bc), .agg #[.int .i64 b0, .int .i64 b1, .int .i64 b2, .int .i64 b3, .int .i64 b4, .int .i64 b5], .slice (some ⟨Rb, 0, none⟩) 1 1, a'.tmps.getD 41 undef, a'.tmps.getD 42 undef, a'.tmps.getD 43 undef, a'.tmps.getD 44 undef, a'.tmps.getD 45 undef, a'.tmps.getD 46 undef, a'.tmps.getD 47 undef, a'.tmps.getD 48 undef, a'.tmps.getD 49 undef, a'.tmps.getD 50 undef, a'.tmps.getD 51 undef, a'.tmps.getD 52 undef, a'.tmps.getD 53 undef, a'.tmps.getD 54 undef, a'.tmps.getD 55 undef, a'.tmps.getD 56 undef, a'.tmps.getD 57 undef, a'.tmps.getD 58 undef, a'.tmps.getD 59 undef, a'.tmps.getD 60 undef, a'.tmps.getD 61 undef, a'.tmps.getD 62 undef, a'.tmps.getD 63 undef, a'.tmps.getD 64 undef, a'.tmps.getD 65 undef, a'.tmps.getD 66 undef, a'.tmps.getD 67 undef, a'.tmps.getD 68 undef, a'.tmps.getD 69 undef, a'.tmps.getD 70 undef, a'.tmps.getD 71 undef, a'.tmps.getD 72 undef, a'.tmps.getD 73 undef, a'.tmps.getD 74 undef, a'.tmps.getD 75 undef, a'.tmps.getD 76 undef, a'.tmps.getD 77 undef, a'.tmps.getD 78 undef, a'.tmps.getD 79 undef, a'.tmps.getD 80 undef, a'.tmps.getD 81 undef, a'.tmps.getD 82 undef, a'.tmps.getD 83 undef, a'.tmps.getD 84 undef, a'.tmps.getD 85 undef, a'.tmps.getD 86 undef, a'.tmps.getD 87 undef, a'.tmps.getD 88 undef, a'.tmps.getD 89 undef, a'.tmps.getD 90 undef], defers := [] })
      ?hAx ?assign ?body ?done ?stop)
    case hI =>
      rintro pre A l o r2 hl hr ⟨came', op', A', n', c', h1, h2⟩
      exact ⟨came', op', A', n', c', h1.record hIN hl hr rfl, h2⟩
    case hIx =>
      rintro cc pre A l o r2 hl hr ⟨rfl, h1, h2⟩
      exact ⟨rfl, h1.loop hr (Nat.le_trans hw3 hl) o, h2⟩
    case hI2 =>
      rintro pre A B ⟨came', op', A', n', c', h1, h2⟩ hg
      exact ⟨came', op', A', n', c', h1.grownNone hIN hg, h2⟩
    case hIx2 =>
      rintro cc pre A B ⟨rfl, h1, h2⟩ hg
      exact ⟨rfl, h1.later hg, h2⟩
    case h0 =>
      intro A hb _
      exact ⟨came, _, _, _, _, hI3.later hIN hb, HI0, hev⟩
    case hAx =>
      rintro pre x a' A l o o' hl ho hc2 ⟨B13, B14, came', op', A', n', c', h1, h2, h3, h4, h5, h6, h7, h8⟩
      exact ⟨B13, B14, came', op', A', n', c', h1, h2, h3.record ho hc2 _, h4.record ho hc2 _, h5.record hIN hl ho hc2, h6, h7, h8⟩
    case assign =>
      rintro l pre y A K2 ⟨came', op', A', n', c', h1, h2⟩ hT hK2
      obtain ⟨⟨f0, f1⟩, y0, y1, y2, y3, y4, y5⟩ := y
      gi_wp2
      have hb := ((Below.refl A.heap.size A).alloc (Nat.le_refl _) (.cells #[.int .i64 f0, .int .i64 f1] 37)).alloc (by simp) (.cells #[.int .i64 y0, .int .i64 y1, .int .i64 y2, .int .i64 y3, .int .i64 y4, .int .i64 y5] 30)
      have hX13 := (Box.new A [.int .i64 f0, .int .i64 f1] 37).alloc (.cells #[.int .i64 y0, .int .i64 y1, .int .i64 y2, .int .i64 y3, .int .i64 y4, .int .i64 y5] 30)
      have hX14 := Box.newAt (w := A.alloc (.cells #[.int .i64 f0, .int .i64 f1] 37)) (n := A.heap.size + 1) [.int .i64 y0, .int .i64 y1, .int .i64 y2, .int .i64 y3, .int .i64 y4, .int .i64 y5] 30 (by simp)
      refine hK2 _ _ (kfOf hb) (KeepsC.of hb (Nat.le_trans hw3 h1.size)) ?_
      exact ⟨A.heap.size, A.heap.size + 1, came', op', A', n', c', h1.size, Nat.lt_succ_self _, hX13, hX14, h1.later hIN hb, h2.1, h2.2, Lib.hid hT, rfl⟩
    case body =>
      rintro l pre y a' A hl ⟨r0, hr0⟩ ⟨B13, B14, came', op', A', n', c', hz13, hz14, X13, X14, hIA, hin, hevk, hT, ha⟩
      have hvv : ∃ v : Nat → Value, a' = { tmps := #[p.v, .agg #[.slice A2 m2 k2], .pointer (some ⟨w.heap.size, 0, none⟩), .pointer (some ⟨w.heap.size + 1, 0, none⟩), .pointer (some ⟨w.heap.size + 1 + 1, 0, none⟩), .pointer (some ⟨w.heap.size + 1 + 1 + 1, 0, none⟩), .pointer (some ⟨w.heap.size + 1 + 1 + 1 + 1, 0, none⟩), .pointer (some ⟨G, 0, none⟩), .pointer (some ⟨B8, 0, none⟩), .int .i64 be, .pointer (some ⟨B10, 0, none⟩), .pointer (some ⟨Bo, 0, none⟩), .pointer (some ⟨B12, 0, none⟩), .pointer (some ⟨B13, 0, none⟩), .pointer (some ⟨B14, 0, none⟩), v 15, v 16, .tuple #[gmV p (.slice A2 m2 k2), .int .i64 0], .agg #[.int .i64 p.top, .int .i64 p.bank, .int .i64 p.siphon, .int .i64 p.start, .int .i64 p.positions, .int .i64 p.rate, .int .i64 p.step, .int .i64 p.pass, .int .i64 p.feed, .int .i64 p.pipe, .int .i64 p.orders, .int .i64 p.age], .agg #[.slice A2 m2 k2], .tuple #[gmV p (.slice A2 m2 k2), .int .i64 0], gmV p (.slice A2 m2 k2), .int .i64 0, .int .i64 0, .bool false, undef, .tuple #[St.v ⟨b0, b1, b2, b3, b4, b5⟩, .int .i64 be], .agg #[.int .i64 p.top, .int .i64 p.bank, .int .i64 p.siphon, .int .i64 p.start, .int .i64 p.positions, .int .i64 p.rate, .int .i64 p.step, .int .i64 p.pass, .int .i64 p.feed, .int .i64 p.pipe, .int .i64 p.orders, .int .i64 p.age], .tuple #[St.v ⟨b0, b1, b2, b3, b4, b5⟩, .int .i64 be], St.v ⟨b0, b1, b2, b3, b4, b5⟩, .int .i64 be, .agg #[.int .i64 p.top, .int .i64 p.bank, .int .i64 p.siphon, .int .i64 p.start, .int .i64 p.positions, .int .i64 p.rate, .int .i64 p.step, .int .i64 p.pass, .int .i64 p.feed, .int .i64 p.pipe, .int .i64 p.orders, .int .i64 p.age, .slice A2 m2 k2], .agg #[.int .i64 b0, .int .i64 b1, .int .i64 b2, .int .i64 b3, .int .i64 b4, .int .i64 b5], .bool true, .bool false, .map (some Bc), .agg #[.int .i64 b0, .int .i64 b1, .int .i64 b2, .int .i64 b3, .int .i64 b4, .int .i64 b5], wayZ, .map (some Bc), .agg #[.int .i64 b0, .int .i64 b1, .int .i64 b2, .int .i64 b3, .int .i64 b4, .int .i64 b5], .slice (some ⟨Rb, 0, none⟩) 1 1, v 41, v 42, v 43, v 44, v 45, v 46, v 47, v 48, v 49, v 50, v 51, v 52, v 53, v 54, v 55, v 56, v 57, v 58, v 59, v 60, v 61, v 62, v 63, v 64, v 65, v 66, v 67, v 68, v 69, v 70, v 71, v 72, v 73, v 74, v 75, v 76, v 77, v 78, v 79, v 80, v 81, v 82, v 83, v 84, v 85, v 86, v 87, v 88, v 89, v 90], defers := [] } := ⟨fun k => a'.tmps.getD k undef, ha⟩
      obtain ⟨v, rfl⟩ := hvv
      clear ha
      have hym := nexts_mem (pre_mem hT.out)
      have hyh : p.hasB y.2 = true := by rw [hym.2]; exact nextS_has h.out HSM.out hym.1
      have HYM : Hid (y.2 ∈ p.states) := Lib.hid ((states_mem hv.out).2 hyh)
      have hyw : y.2.Wide := has_wide hv.out hyh
      clear hym hyh hI3 HI0
      obtain ⟨⟨f0, f1⟩, y0, y1, y2, y3, y4, y5⟩ := y
      dsimp only at hyw HYM X13 X14
      have hlk := cam_look2 hIA.d.cam hyw
      obtain ⟨d0, d1, d2, d3, d4, d5, d6, d7, hd⟩ := way_form (came' ⟨y0, y1, y2, y3, y4, y5⟩)
      rw [hd] at hlk
      obtain ⟨t, ht⟩ : ∃ t, (came' ⟨y0, y1, y2, y3, y4, y5⟩).isSome = t := ⟨_, rfl⟩
      rw [ht] at hlk
      have HT := Lib.hid ht
      clear ht hd
      have X10 := hIA.st.cam
      have X10c0 : A.cell? ⟨B10, 0, none⟩ = some (.map (some Bc)) := X10.cell 0
      have X10z := X10.lt
      obtain ⟨X14c0, X14c1, X14c2, X14c3, X14c4, X14c5⟩ := X14.c6
      have X14z := X14.lt
      gi_upto_region 16 with fail
      clear hlk X10c0 X10z X10 X14c0 X14c1 X14c2 X14c3 X14c4 X14c5 X14z
      have hb1 := (Below.refl A.heap.size A).alloc (Nat.le_refl _) (.cells #[.int .i64 d0, .int .i64 d1, .int .i64 d2, .int .i64 d3, .int .i64 d4, .int .i64 d5, .int .i64 d6, .int .i64 d7] 104)
      have hIA1 := hIA.later hIN hb1
      have X13 := X13.later hb1
      have X14 := X14.later hb1
      have hch1 : Chg (fun k => k = Bc ∨ k = Bo ∨ quB (.slice A' n' c') = some k) A (A.alloc (.cells #[.int .i64 d0, .int .i64 d1, .int .i64 d2, .int .i64 d3, .int .i64 d4, .int .i64 d5, .int .i64 d6, .int .i64 d7] 104)) := (Chg.refl _ A).below hb1
      clear hb1
      generalize A.alloc (.cells #[.int .i64 d0, .int .i64 d1, .int .i64 d2, .int .i64 d3, .int .i64 d4, .int .i64 d5, .int .i64 d6, .int .i64 d7] 104) = A1 at hIA1 X13 X14 hch1 ⊢
      cases t with
      | true =>
        gi_wp2
        obtain ⟨hkf, hkc⟩ := hIA.keeps hIN hch1
        exact ⟨⟨hkf.size, hkf.same⟩, hkc, came', op', A', n', c', hIA1, Lib.hid (inner_known hin.out HT.out), hevk⟩
      | false =>
        have hsc : (came' ⟨x0, x1, x2, x3, x4, x5⟩).isSome = true := by
          obtain ⟨e, he⟩ := inner_op _ _ _ _ hin.out
          dsimp only at he
          exact hevk.out.ops ⟨x0, x1, x2, x3, x4, x5⟩ (by dsimp only; rw [he]; simp)
        have HSC := Lib.hid hsc
        clear hsc
        obtain ⟨Ah, hput, hI2, hc2, hbox⟩ := hIA1.put hIN hyw ⟨⟨x0, x1, x2, x3, x4, x5⟩, ⟨f0, f1⟩⟩
        simp only [Wy.v] at hput
        have X10 := hIA1.st.cam
        have X10c0 : A1.cell? ⟨B10, 0, none⟩ = some (.map (some Bc)) := X10.cell 0
        have X10z := X10.lt
        have X12 := hIA1.s
        obtain ⟨X14c0, X14c1, X14c2, X14c3, X14c4, X14c5⟩ := X14.c6
        obtain ⟨X12c0, X12c1, X12c2, X12c3, X12c4, X12c5⟩ := X12.c6
        obtain ⟨X13c0, X13c1⟩ := X13.c2
        have X12z := X12.lt
        have X13z := X13.lt
        have X14z := X14.lt
        gi_upto_region 18 with fail
        clear hput X10c0 X10z X10 X14c0 X14c1 X14c2 X14c3 X14c4 X14c5 X14z X12c0 X12c1 X12c2 X12c3 X12c4 X12c5 X12z X13c0 X13c1 X13z X12
        have X14 := hbox _ _ X14
        have hch2 : Chg (fun k => k = Bc ∨ k = Bo ∨ quB (.slice A' n' c') = some k) A Ah := hch1.tr hc2 (fun k hk => .inl (.inl hk))
        clear hbox hIA1 X13 hch1 hc2
        obtain ⟨q, er, hs⟩ : ∃ q er, Hid (p.safeT ⟨y0, y1, y2, y3, y4, y5⟩ = (q, er)) := ⟨_, _, rfl⟩
        have X7 := hI2.st.game
        have X7c0 : Ah.cell? ⟨G, 0, none⟩ = some (.int .i64 p.top) := X7.cell 0
        have X7c1 : Ah.cell? ⟨G, 1, none⟩ = some (.int .i64 p.bank) := X7.cell 1
        have X7c2 : Ah.cell? ⟨G, 2, none⟩ = some (.int .i64 p.siphon) := X7.cell 2
        have X7c3 : Ah.cell? ⟨G, 3, none⟩ = some (.int .i64 p.start) := X7.cell 3
        have X7c4 : Ah.cell? ⟨G, 4, none⟩ = some (.int .i64 p.positions) := X7.cell 4
        have X7c5 : Ah.cell? ⟨G, 5, none⟩ = some (.int .i64 p.rate) := X7.cell 5
        have X7c6 : Ah.cell? ⟨G, 6, none⟩ = some (.int .i64 p.step) := X7.cell 6
        have X7c7 : Ah.cell? ⟨G, 7, none⟩ = some (.int .i64 p.pass) := X7.cell 7
        have X7c8 : Ah.cell? ⟨G, 8, none⟩ = some (.int .i64 p.feed) := X7.cell 8
        have X7c9 : Ah.cell? ⟨G, 9, none⟩ = some (.int .i64 p.pipe) := X7.cell 9
        have X7c10 : Ah.cell? ⟨G, 10, none⟩ = some (.int .i64 p.orders) := X7.cell 10
        have X7c11 : Ah.cell? ⟨G, 11, none⟩ = some (.int .i64 p.age) := X7.cell 11
        have X7c12 : Ah.cell? ⟨G, 12, none⟩ = some (.slice A2 m2 k2) := X7.cell 12
        obtain ⟨X14c0, X14c1, X14c2, X14c3, X14c4, X14c5⟩ := X14.c6
        have X7z := X7.lt
        have X14z := X14.lt
        gi_wp2_with fail
        refine ⟨trivial, ?_⟩
        refine (callsIn_wide.2 (bSafe_is (p := p) (V := .slice A2 m2 k2) (s := ⟨y0, y1, y2, y3, y4, y5⟩) hs)).mono ?_
        rintro e A3 ⟨rfl, hb3⟩
        clear X7c0 X7c1 X7c2 X7c3 X7c4 X7c5 X7c6 X7c7 X7c8 X7c9 X7c10 X7c11 X7c12 X7z X7 X14c0 X14c1 X14c2 X14c3 X14c4 X14c5 X14z
        have hI3 := hI2.later hIN hb3
        have X14 := X14.later hb3
        have hch3 := hch2.below hb3
        clear hI2 hb3 hch2
        have hsz3 := hI3.size
        cases q with
        | true =>
          have hev3 := Lib.hid (hevk.out.put (x := ⟨f0, f1⟩) HYM.out HT.out HSC.out)
          have hin3 := Lib.hid (inner_safe (x := ⟨f0, f1⟩) hin.out HT.out (by rw [hs.out]))
          have hop3 : op'.length ≤ 1048576 := by
            have h1 := hevk.out.bound
            have h2 := hkk.out
            have h3 := hcn.out
            dsimp only at h1
            omega
          have Zb := hI3.d.box
          have Zbc0 : A3.cell? ⟨Bo, 0, none⟩ = some (.slice A' n' c') := Zb.cell 0
          have Zbz2 := Zb.lt
          obtain ⟨X14c0, X14c1, X14c2, X14c3, X14c4, X14c5⟩ := X14.c6
          have X14z := X14.lt
          gi_upto_region 19 with fail
          have hbA := (Below.refl A3.heap.size A3).alloc (Nat.le_refl _) (.cells #[.int .i64 y0, .int .i64 y1, .int .i64 y2, .int .i64 y3, .int .i64 y4, .int .i64 y5] 30)
          have XL := Box.new A3 [.int .i64 y0, .int .i64 y1, .int .i64 y2, .int .i64 y3, .int .i64 y4, .int .i64 y5] 30
          obtain ⟨A4, n4, c4, A5, hr, hB5, hI5, hc5⟩ := (hI3.later hIN hbA).push 43 hIN (y := ⟨y0, y1, y2, y3, y4, y5⟩) XL hop3
          have hch4 := (hch3.below hbA).tr hc5 (fun k hk => .inl (.inr hk))
          have hB5c0 : A5.cell? ⟨Bo, 0, none⟩ = some (.slice A' n' c') := hB5.cell 0
          have hB5f0 : A5.frozen? ⟨Bo, 0, none⟩ = false := hB5.free 0
          have hB5z : Bo < A5.heap.size := hB5.lt
          gi_wp2
          clear hr hB5c0 hB5f0 hB5z Zbc0 Zbz2 X14c0 X14c1 X14c2 X14c3 X14c4 X14c5 X14z
          obtain ⟨hkf, hkc⟩ := hIA.keeps hIN hch4
          exact ⟨⟨hkf.size, hkf.same⟩, hkc, _, _, _, _, _, hI5, hin3, hev3⟩
        | false =>
          have hinb := inner_bad (x := ⟨f0, f1⟩) hin.out HT.out (by rw [hs.out])
          obtain ⟨tl, htl⟩ := hT.out
          have hinn := inner_some _ _ _ hinb tl
          rw [htl] at hinn
          have hfin := esc_found hes.out hinn
          have hescT := escT_some h.out HSB.out (HES.out.trans hfin)
          have hevb := hevk.out.bad (x := ⟨f0, f1⟩) HYM.out HT.out HSC.out
          have hbg := hevk.out.beg
          have hyne : (⟨y0, y1, y2, y3, y4, y5⟩ : St) ≠ ⟨b0, b1, b2, b3, b4, b5⟩ := fun e => by
            have h1 := HT.out
            rw [e] at h1
            dsimp only at hbg
            rw [h1] at hbg
            cases hbg
          clear hinb htl hinn hbg
          rw [hbe.out] at hescT
          obtain ⟨cf, hcf⟩ : ∃ cf, updS came' ⟨y0, y1, y2, y3, y4, y5⟩ ⟨⟨x0, x1, x2, x3, x4, x5⟩, ⟨f0, f1⟩⟩ = cf := ⟨_, rfl⟩
          have hcy : (cf ⟨y0, y1, y2, y3, y4, y5⟩).isSome = true := by rw [← hcf, upd_same]; rfl
          rw [hcf] at hescT hevb hI3
          have hbk := hevb.back hcy
          obtain ⟨full, hfull⟩ : ∃ full, backE cf ⟨b0, b1, b2, b3, b4, b5⟩ (p.count + 1) ⟨y0, y1, y2, y3, y4, y5⟩ = full := ⟨_, rfl⟩
          have hfne : full ≠ [] := fun e => by
            obtain ⟨v9, -, -, h9⟩ := back_step hbk hyne
            rw [hfull, e] at h9
            cases h9
          have hfl : full.length ≤ p.count + 1 := by
            rw [← hfull]
            exact back_len ..
          dsimp only at hescT hbk
          rw [hfull] at hescT
          have HTT := Lib.hid hescT
          have HF := Lib.hid hfull
          have HBK := Lib.hid hbk
          have HFN := Lib.hid hfne
          have HFL := Lib.hid hfl
          have HDM := Lib.hid hevb.dom
          clear hescT hfull hbk hfne hfl hevb hcy hcf hyne hfin tl
          have hdw : Hid (∀ z : St, (cf z).isSome = true → z.Wide) := Lib.hid (fun z hz => states_wide hv.out (HDM.out z hz))
          have R0 := hI3.res
          have E0 := hI3.st
          have C0 := hI3.d.cam
          have hB14 : W3.heap.size ≤ B14 := by omega
          gi_wp2_with fail
          gi_loopg [] (p.count + 1) (fun k wr => ∃ (z : St) (acc : List Sh) (Aa : Option Addr) (na ca : Nat), KeepsFrom W3.heap.size A3 wr ∧ EsB w G B8 Bc B10 p (.slice A2 m2 k2) ⟨b0, b1, b2, b3, b4, b5⟩ rs wr ∧ CamM wr Bc cf ∧ Box wr B14 z.cells ∧ Box wr (w.heap.size + 1 + 1) [.slice Aa na ca] ∧ Hid (OwnSh wr (B14 + 1) (.slice Aa na ca) acc) ∧ Hid (acc ++ backE cf ⟨b0, b1, b2, b3, b4, b5⟩ k z = full) ∧ Hid (BackOk cf ⟨b0, b1, b2, b3, b4, b5⟩ k z))
          case atStart => exact ⟨⟨y0, y1, y2, y3, y4, y5⟩, [], none, 0, 0, KeepsFrom.refl _ _, E0, C0, X14, R0, Lib.hid (ownE_nil _ _ _ _ _), HF, HBK⟩
          case round =>
            clear R0 E0 C0 HBK X14
            obtain ⟨z, acc, Aa, na, ca, hkf, E1, C1, Xz, R1, hown, hacc, hbk⟩ := hrel
            obtain ⟨wo, rfl⟩ : ∃ wo : World, wo = wr := ⟨_, rfl⟩
            obtain ⟨z0, z1, z2, z3, z4, z5⟩ := z
            have X8 := E1.beg
            obtain ⟨Xzc0, Xzc1, Xzc2, Xzc3, Xzc4, Xzc5⟩ := Xz.c6
            obtain ⟨X8c0, X8c1, X8c2, X8c3, X8c4, X8c5⟩ := X8.c6
            have Xzz := Xz.lt
            have X8z := X8.lt
            by_cases hzb : (⟨z0, z1, z2, z3, z4, z5⟩ : St) = ⟨b0, b1, b2, b3, b4, b5⟩
            · have hsm := sameS_true hzb
              have HZB := Lib.hid hzb
              clear hzb
              gi_upto_region 23 with fail
              clear hsm Xzc0 Xzc1 Xzc2 Xzc3 Xzc4 Xzc5 X8c0 X8c1 X8c2 X8c3 X8c4 X8c5 Xzz X8z X8
              have hac : acc = full := by
                have h1 := hacc.out
                rw [HZB.out, back_end, List.append_nil] at h1
                exact h1
              subst hac
              obtain ⟨g, rfl⟩ : ∃ g, Aa = some ⟨g, 0, none⟩ := by
                rcases hown.out.2 with ⟨_, hl0⟩ | ⟨g, cap, cur, hv1, _⟩
                · exact absurd (List.length_eq_zero_iff.1 hl0) HFN.out
                · cases hv1
                  exact ⟨g, rfl⟩
              obtain ⟨hna, hrowf⟩ := own_rowF hown.out
              subst hna
              have hgl := World.ownsRow.lt hown.out g rfl
              obtain ⟨cs, hcs⟩ := hown.out.cells? (g := g) rfl
              have hgm := E1.markOff hcs (fun e => by cases e)
              have hln : acc.length ≤ 1048576 := by
                have h1 := HFL.out
                have h2 := hcn.out
                omega
              clear hacc hbk hown
              have R1c0 : wo.cell? ⟨w.heap.size + 1 + 1, 0, none⟩ = some (.slice (some ⟨g, 0, none⟩) acc.length ca) := R1.cell 0
              have R1z := R1.lt
              gi_wp2_with fail
              refine ⟨trivial, ?_⟩
              refine (callsIn_wide.2 (rev_any g acc.length ca (fun k => acc.getD k Sh.zero) _ (Lib.hid hrowf) hln)).mono ?_
              rintro e wv ⟨⟨v9, rfl⟩, hrv, hgr⟩
              clear R1c0 R1z
              have hcg := Chg.of hgr
              have n1 := hN.g
              have n2 := hN.b8
              have n3 := hN.bc
              have n4 := hN.b10
              have n5 := hN.rb
              have hz9 : Rb ≤ W3.heap.size := by
                have := hIN.bo
                have := hIN.b12
                have := hIN.bg
                have := hIN.z
                omega
              have hRg : Rb ≤ g := by omega
              have E2 := E1.chg hN hcg (fun k hk => by cases hk; exact ⟨.inl hRg, hgm⟩)
              have R2 := hcg.box R1 (fun e => by have := Option.some.inj e; omega)
              have hkf2 : KeepsFrom W3.heap.size A3 wv := hkf.trans (hcg.kf (fun k o hk _ ho => by cases hk; rw [hcs] at ho; cases ho; rfl))
              have X5 := E2.ok
              have X6 := E2.er
              have R2c0 : wv.cell? ⟨w.heap.size + 1 + 1, 0, none⟩ = some (.slice (some ⟨g, 0, none⟩) acc.length ca) := R2.cell 0
              have R2f0 : wv.frozen? ⟨w.heap.size + 1 + 1, 0, none⟩ = false := R2.free 0
              have R2z : w.heap.size + 1 + 1 < wv.heap.size := R2.lt
              have X5c0 : wv.cell? ⟨w.heap.size + 1 + 1 + 1, 0, none⟩ = some (.bool false) := X5.cell 0
              have X5f0 : wv.frozen? ⟨w.heap.size + 1 + 1 + 1, 0, none⟩ = false := X5.free 0
              have X5z : w.heap.size + 1 + 1 + 1 < wv.heap.size := X5.lt
              have X6c0 : wv.cell? ⟨w.heap.size + 1 + 1 + 1 + 1, 0, none⟩ = some (.int .i64 0) := X6.cell 0
              have X6f0 : wv.frozen? ⟨w.heap.size + 1 + 1 + 1 + 1, 0, none⟩ = false := X6.free 0
              have X6z : w.heap.size + 1 + 1 + 1 + 1 < wv.heap.size := X6.lt
              gi_wp2
              clear R2c0 R2f0 R2z X5c0 X5f0 X5z X6c0 X6f0 X6z E1 R1 hkf hcg hgr
              have hZ : Chg (fun k => k = w.heap.size + 1 + 1 ∨ k = w.heap.size + 1 + 1 + 1 ∨ k = w.heap.size + 1 + 1 + 1 + 1) wv (((wv.setCell ⟨w.heap.size + 1 + 1, 0, none⟩ (.slice (some ⟨g, 0, none⟩) acc.length ca)).setCell ⟨w.heap.size + 1 + 1 + 1, 0, none⟩ (.bool true)).setCell ⟨w.heap.size + 1 + 1 + 1 + 1, 0, none⟩ (.int .i64 0)) :=
                (((Chg.refl _ wv).cell 0 _ (.inl (.inl rfl))).cell 0 _ (.inl (.inr (.inl rfl)))).cell 0 _ (.inl (.inr (.inr rfl)))
              have Z4 : Box (((wv.setCell ⟨w.heap.size + 1 + 1, 0, none⟩ (.slice (some ⟨g, 0, none⟩) acc.length ca)).setCell ⟨w.heap.size + 1 + 1 + 1, 0, none⟩ (.bool true)).setCell ⟨w.heap.size + 1 + 1 + 1 + 1, 0, none⟩ (.int .i64 0)) (w.heap.size + 1 + 1) [.slice (some ⟨g, 0, none⟩) acc.length ca] := ((R2.set 0 (.slice (some ⟨g, 0, none⟩) acc.length ca)).other (a := ⟨w.heap.size + 1 + 1 + 1, 0, none⟩) (by dsimp only; omega) _).other (a := ⟨w.heap.size + 1 + 1 + 1 + 1, 0, none⟩) (by dsimp only; omega) _
              have Z5 : Box (((wv.setCell ⟨w.heap.size + 1 + 1, 0, none⟩ (.slice (some ⟨g, 0, none⟩) acc.length ca)).setCell ⟨w.heap.size + 1 + 1 + 1, 0, none⟩ (.bool true)).setCell ⟨w.heap.size + 1 + 1 + 1 + 1, 0, none⟩ (.int .i64 0)) (w.heap.size + 1 + 1 + 1) [.bool true] := ((X5.other (a := ⟨w.heap.size + 1 + 1, 0, none⟩) (by dsimp only; omega) _).set 0 (.bool true)).other (a := ⟨w.heap.size + 1 + 1 + 1 + 1, 0, none⟩) (by dsimp only; omega) _
              have Z6 : Box (((wv.setCell ⟨w.heap.size + 1 + 1, 0, none⟩ (.slice (some ⟨g, 0, none⟩) acc.length ca)).setCell ⟨w.heap.size + 1 + 1 + 1, 0, none⟩ (.bool true)).setCell ⟨w.heap.size + 1 + 1 + 1 + 1, 0, none⟩ (.int .i64 0)) (w.heap.size + 1 + 1 + 1 + 1) [.int .i64 0] := ((X6.other (a := ⟨w.heap.size + 1 + 1, 0, none⟩) (by dsimp only; omega) _).other (a := ⟨w.heap.size + 1 + 1 + 1, 0, none⟩) (by dsimp only; omega) _).set 0 (.int .i64 0)
              have hrv2 := rowF_rev hrv
              have hSh : ShAt (((wv.setCell ⟨w.heap.size + 1 + 1, 0, none⟩ (.slice (some ⟨g, 0, none⟩) acc.length ca)).setCell ⟨w.heap.size + 1 + 1 + 1, 0, none⟩ (.bool true)).setCell ⟨w.heap.size + 1 + 1 + 1 + 1, 0, none⟩ (.int .i64 0)) w.heap.size (.slice (some ⟨g, 0, none⟩) acc.length ca) acc.reverse := by
                refine .inr ⟨g, ca, by rw [List.length_reverse], by omega, by rw [List.length_reverse]; exact hln, ?_⟩
                obtain ⟨xs9, hx9, hx9b⟩ := hrv2
                exact ⟨xs9, hZ.box hx9 (by omega), hx9b⟩
              have hmk2 : ∀ q ∈ rs, (((wv.setCell ⟨w.heap.size + 1 + 1, 0, none⟩ (.slice (some ⟨g, 0, none⟩) acc.length ca)).setCell ⟨w.heap.size + 1 + 1 + 1, 0, none⟩ (.bool true)).setCell ⟨w.heap.size + 1 + 1 + 1 + 1, 0, none⟩ (.int .i64 0)).heap[q]? = some (.deferred (some [])) := fun q hq => by
                have h1 := E2.marks q hq
                have h2 := hrl.out q hq
                exact (hZ.block q (Array.getElem?_eq_some_iff.1 h1).1 (by omega)).trans h1
              have hkf3 : KeepsFrom W3.heap.size A3 (((wv.setCell ⟨w.heap.size + 1 + 1, 0, none⟩ (.slice (some ⟨g, 0, none⟩) acc.length ca)).setCell ⟨w.heap.size + 1 + 1 + 1, 0, none⟩ (.bool true)).setCell ⟨w.heap.size + 1 + 1 + 1 + 1, 0, none⟩ (.int .i64 0)) := hkf2.trans (hZ.kf (fun k o hk hn _ => by omega))
              have hlow := E2.low.trans (hZ.low E2.low.size (fun k hk => by omega))
              obtain ⟨hkf0, -⟩ := hIA.keeps hIN hch3
              have hkf4 := hkf0.trans hkf3
              rw [HTT.out]
              exact ⟨⟨hkf4.size, hkf4.same⟩, rfl, ⟨hlow, ⟨_, _, _, Z4, hSh⟩, Z5, Z6, hmk2⟩, Lib.hid rfl⟩
            · have hsm := sameS_false hzb
              have HZB := Lib.hid hzb
              clear hzb
              gi_upto_region 22 with fail
              clear hsm Xzc0 Xzc1 Xzc2 Xzc3 Xzc4 Xzc5 X8c0 X8c1 X8c2 X8c3 X8c4 X8c5 Xzz X8z X8
              have hgk : 0 < gk := back_pos hbk.out
              obtain ⟨j, rfl⟩ : ∃ j, gk = j + 1 := ⟨gk - 1, by omega⟩
              obtain ⟨⟨⟨v0, v1, v2, v3, v4, v5⟩, ⟨g0, g1⟩⟩, hcz, hbk2, hbe2⟩ := back_step hbk.out HZB.out
              dsimp only at hbk2 hbe2
              have hacc2 : Hid ((acc ++ [(⟨g0, g1⟩ : Sh)]) ++ backE cf ⟨b0, b1, b2, b3, b4, b5⟩ j ⟨v0, v1, v2, v3, v4, v5⟩ = full) := Lib.hid (by
                have h1 := hacc.out
                rw [hbe2] at h1
                rw [List.append_assoc]
                exact h1)
              have HBK2 := Lib.hid hbk2
              have hzw : (⟨z0, z1, z2, z3, z4, z5⟩ : St).Wide := hdw.out _ (by rw [hcz]; rfl)
              have hal : acc.length ≤ 1048576 := by
                have h1 := congrArg List.length hacc.out
                have h2 := HFL.out
                have h3 := hcn.out
                rw [List.length_append] at h1
                omega
              clear hbk2 hbe2 hacc hbk hgk
              have hlkf : ∀ wx, CamM wx Bc cf → (Instr.lookup 105 (.map (some Bc)) (.agg #[.int .i64 z0, .int .i64 z1, .int .i64 z2, .int .i64 z3, .int .i64 z4, .int .i64 z5]) false).run Try.prog wx = .ok (.agg #[.int .i64 v0, .int .i64 v1, .int .i64 v2, .int .i64 v3, .int .i64 v4, .int .i64 v5, .int .i64 g0, .int .i64 g1]) wx := fun wx hwx => by
                have h1 := cam_look hwx hzw
                rw [hcz] at h1
                exact h1
              have HLK := Lib.hid hlkf
              clear hlkf hcz
              have hd := (Below.refl wo.heap.size wo).drew
              have ZA := Xz.later hd
              have ZB := E1.cam.later hd
              have ZC := R1.later hd
              have hownd : OwnSh wo.drew (B14 + 1) (.slice Aa na ca) acc := OwnSh.same hown.out (fun _ _ => rfl)
              obtain ⟨HH, hHH⟩ : ∃ HH : World → Prop, ∀ w', HH w' ↔ (Box w' B14 [.int .i64 z0, .int .i64 z1, .int .i64 z2, .int .i64 z3, .int .i64 z4, .int .i64 z5] ∧ Box w' B10 [.map (some Bc)] ∧ Box w' (w.heap.size + 1 + 1) [.slice Aa na ca]) := ⟨_, fun _ => Iff.rfl⟩
              have hQz : HH wo.drew := (hHH _).2 ⟨ZA, ZB, ZC⟩
              have : Nonempty (HeldW HH) := ⟨⟨_, hQz⟩⟩
              have hgh : ∀ z : HeldW HH, (Box z.w B14 [.int .i64 z0, .int .i64 z1, .int .i64 z2, .int .i64 z3, .int .i64 z4, .int .i64 z5] ∧ Box z.w B10 [.map (some Bc)] ∧ Box z.w (w.heap.size + 1 + 1) [.slice Aa na ca]) := fun z => (hHH _).1 z.h
              have g9 : ∀ z : HeldW HH, z.w.cell? ⟨B10, 0, none⟩ = some (.map (some Bc)) := fun z => (hgh z).2.1.cell 0
              have g10 : ∀ z : HeldW HH, z.w.cell? ⟨w.heap.size + 1 + 1, 0, none⟩ = some (.slice Aa na ca) := fun z => (hgh z).2.2.cell 0
              have k0 : ∀ z : HeldW HH, z.w.cell? ⟨B14, 0, none⟩ = some (.int .i64 z0) := fun z => (hgh z).1.cell 0
              have k1 : ∀ z : HeldW HH, z.w.cell? ⟨B14, 1, none⟩ = some (.int .i64 z1) := fun z => (hgh z).1.cell 1
              have k2 : ∀ z : HeldW HH, z.w.cell? ⟨B14, 2, none⟩ = some (.int .i64 z2) := fun z => (hgh z).1.cell 2
              have k3 : ∀ z : HeldW HH, z.w.cell? ⟨B14, 3, none⟩ = some (.int .i64 z3) := fun z => (hgh z).1.cell 3
              have k4 : ∀ z : HeldW HH, z.w.cell? ⟨B14, 4, none⟩ = some (.int .i64 z4) := fun z => (hgh z).1.cell 4
              have k5 : ∀ z : HeldW HH, z.w.cell? ⟨B14, 5, none⟩ = some (.int .i64 z5) := fun z => (hgh z).1.cell 5
              clear hgh
              refine wpIn_region_upto (C := fun w' => ∃ x : HeldW HH, w' = x.w) 7 [0, 1, 2] (by kernel_rfl) (by kernel_rfl) (HeldW.mk' hQz) (fun _ _ h => h) ?_
              simp only [headOps, List.filterMap_cons, List.filterMap_nil, List.getElem?_toArray, List.getElem?_cons_succ, List.getElem?_cons_zero]
              repeat (first | go_big_quiet_skip | (show wpQuiet _ _ _ _ (_ :: _) _; go_big_quiet_skip) | (show wpQuiet _ _ _ _ (_ :: _) _; go_big_quiet_want; go_big_quiet_op; go_big_quiet_on))
              refine wpQuiet_nil ?_
              clear g9 g10 k0 k1 k2 k3 k4 k5
              have Cd := C1.later hd
              have hbA := (Below.refl wo.drew.heap.size wo.drew).alloc (Nat.le_refl _) (.cells #[.int .i64 g0, .int .i64 g1] 37)
              have XL : Box (wo.drew.alloc (.cells #[.int .i64 g0, .int .i64 g1] 37)) wo.drew.heap.size (Sh.cells ⟨g0, g1⟩) := Box.new wo.drew [.int .i64 g0, .int .i64 g1] 37
              have ZA1 := ZA.later hbA
              have ZB1 := ZB.later hbA
              have ZC1 := ZC.later hbA
              have hQa : HH (wo.drew.alloc (.cells #[.int .i64 g0, .int .i64 g1] 37)) := (hHH _).2 ⟨ZA1, ZB1, ZC1⟩
              have hB14z := ZA1.lt
              have hownA : OwnSh (wo.drew.alloc (.cells #[.int .i64 g0, .int .i64 g1] 37)) (B14 + 1) (.slice Aa na ca) acc := OwnSh.same hownd (fun b hb => hbA.block b (World.ownsRow.lt hownd b hb).2)
              obtain ⟨g', c9, wA, hr, hownB, hgA, hgor⟩ := run_appH 47 (s := ⟨g0, g1⟩) hownA XL (by omega) hal
              have hgB : ∀ b, (Value.slice Aa na ca).ownBlock = some b → B14 + 1 ≤ b := fun b hb => (World.ownsRow.lt hownA b hb).1
              have hgcs : ∀ b, (Value.slice Aa na ca).ownBlock = some b → ∃ cs, (wo.drew.alloc (.cells #[.int .i64 g0, .int .i64 g1] 37)).heap[b]? = some (.cells cs 37 (0, 0)) := fun b hb => hownA.cells? hb
              have n1 := hN.g
              have n2 := hN.b8
              have n3 := hN.bc
              have n4 := hN.b10
              have n5 := hN.rb
              have hz9 : Rb ≤ W3.heap.size := by
                have := hIN.bo
                have := hIN.b12
                have := hIN.bg
                have := hIN.z
                omega
              have hcA : Chg (fun k => B14 + 1 ≤ k ∧ ∃ cs, wo.heap[k]? = some (.cells cs 37 (0, 0))) wo wA := by
                refine (((Chg.refl _ wo).below hd).below hbA).grown hgA (fun k hk => ?_)
                rcases Nat.lt_or_ge k wo.heap.size with h1 | h1
                · obtain ⟨cs, hcs⟩ := hgcs k hk
                  exact .inl ⟨hgB k hk, cs, (hbA.block k h1).symm.trans hcs⟩
                · exact .inr h1
              have ZA2 : Box wA B14 [.int .i64 z0, .int .i64 z1, .int .i64 z2, .int .i64 z3, .int .i64 z4, .int .i64 z5] := hcA.box Xz (by omega)
              have ZB2 : Box wA B10 [.map (some Bc)] := hcA.box E1.cam (by omega)
              have ZC2 : Box wA (w.heap.size + 1 + 1) [.slice Aa na ca] := hcA.box R1 (by omega)
              have hQb : HH wA := (hHH _).2 ⟨ZA2, ZB2, ZC2⟩
              have zc : wA.cell? ⟨w.heap.size + 1 + 1, 0, none⟩ = some (.slice Aa na ca) := ZC2.cell 0
              have zf : wA.frozen? ⟨w.heap.size + 1 + 1, 0, none⟩ = false := ZC2.free 0
              have zz := ZC2.lt
              refine anyG_val (some 83) (n := 4) (i := 3) (v := .agg #[.int .i64 v0, .int .i64 v1, .int .i64 v2, .int .i64 v3, .int .i64 v4, .int .i64 v5, .int .i64 g0, .int .i64 g1]) (w' := wo.drew) (by kernel_rfl) rfl rfl rfl (fun _ => HeldW.mk' hQz) (run_look_op rfl rfl rfl (HLK.out _ Cd)) ?_
              simp only [Act.put, List.setIfInBounds_toArray, List.set_cons_zero, List.set_cons_succ]
              refine anyG_val (some 84) (n := 3) (i := 4) (v := .agg #[.int .i64 g0, .int .i64 g1]) (w' := wo.drew) (by kernel_rfl) rfl rfl rfl (fun _ => HeldW.mk' hQz) (run_field_op rfl rfl (way_sh ⟨v0, v1, v2, v3, v4, v5⟩ ⟨g0, g1⟩ _)) ?_
              simp only [Act.put, List.setIfInBounds_toArray, List.set_cons_zero, List.set_cons_succ]
              refine anyG_val (some 85) (n := 2) (i := 5) (v := .slice (some ⟨wo.drew.heap.size, 0, none⟩) 1 1) (w' := wo.drew.alloc (.cells #[.int .i64 g0, .int .i64 g1] 37)) (by kernel_rfl) rfl rfl rfl (fun _ => HeldW.mk' hQz) (by go_simp) ?_
              simp only [Act.put, List.setIfInBounds_toArray, List.set_cons_zero, List.set_cons_succ]
              refine anyG_val (some 86) (n := 1) (i := 6) (v := .slice (some ⟨g', 0, none⟩) (acc.length + 1) c9) (w' := wA) (by kernel_rfl) rfl rfl rfl (fun _ => HeldW.mk' hQa) (run_app_op (x := .tmp 80) (y := .tmp 85) rfl rfl rfl rfl hr) ?_
              simp only [Act.put, List.setIfInBounds_toArray, List.set_cons_zero, List.set_cons_succ]
              refine anyG_store (n := 0) (i := 7) (w' := wA.setCell ⟨w.heap.size + 1 + 1, 0, none⟩ (.slice (some ⟨g', 0, none⟩) (acc.length + 1) c9)) (by kernel_rfl) rfl rfl rfl (fun _ => HeldW.mk' hQb) (by go_simp) ?_
              refine anyG_done (by kernel_rfl) rfl ?_
              clear zc zf zz
              have hcB : Chg (fun k => k = w.heap.size + 1 + 1 ∨ (B14 + 1 ≤ k ∧ ∃ cs, wo.heap[k]? = some (.cells cs 37 (0, 0)))) wo (wA.setCell ⟨w.heap.size + 1 + 1, 0, none⟩ (.slice (some ⟨g', 0, none⟩) (acc.length + 1) c9)) := (hcA.wider (fun _ hk => .inr hk)).cell 0 _ (.inl (.inl rfl))
              have hB2 : B14 ≠ w.heap.size + 1 + 1 := by omega
              have E3 := E1.chg hN hcB (fun k hk => by
                rcases hk with rfl | ⟨hk, cs, hcs⟩
                · exact ⟨.inr (.inr rfl), E1.boxOff R1⟩
                · exact ⟨.inl (by omega), E1.markOff hcs (fun e => by cases e)⟩)
              have C3 : CamM (wA.setCell ⟨w.heap.size + 1 + 1, 0, none⟩ (.slice (some ⟨g', 0, none⟩) (acc.length + 1) c9)) Bc cf := C1.same (hcB.block Bc C1.lt (by omega))
              have Z3 : Box (wA.setCell ⟨w.heap.size + 1 + 1, 0, none⟩ (.slice (some ⟨g', 0, none⟩) (acc.length + 1) c9)) B14 [.int .i64 z0, .int .i64 z1, .int .i64 z2, .int .i64 z3, .int .i64 z4, .int .i64 z5] := hcB.box Xz (by omega)
              have R3 : Box (wA.setCell ⟨w.heap.size + 1 + 1, 0, none⟩ (.slice (some ⟨g', 0, none⟩) (acc.length + 1) c9)) (w.heap.size + 1 + 1) [.slice (some ⟨g', 0, none⟩) (acc.length + 1) c9] := ZC2.set 0 _
              have hown3 : Hid (OwnSh (wA.setCell ⟨w.heap.size + 1 + 1, 0, none⟩ (.slice (some ⟨g', 0, none⟩) (acc.length + 1) c9)) (B14 + 1) (.slice (some ⟨g', 0, none⟩) (acc.length + 1) c9) (acc ++ [(⟨g0, g1⟩ : Sh)])) := Lib.hid (OwnSh.same hownB (fun b hb => Below.heap_setCell wA ⟨w.heap.size + 1 + 1, 0, none⟩ _ b (fun e => by have := (World.ownsRow.lt hownB b hb).1; dsimp only at e; omega)))
              have hkf3 : KeepsFrom W3.heap.size A3 (wA.setCell ⟨w.heap.size + 1 + 1, 0, none⟩ (.slice (some ⟨g', 0, none⟩) (acc.length + 1) c9)) := hkf.trans (hcB.kf (fun k o hk hn ho => by
                rcases hk with hk | ⟨_, cs, hcs⟩
                · omega
                · rw [hcs] at ho
                  cases ho
                  rfl))
              clear hcA hcB hr hownB hgA hgor hgB hgcs hownA hownd hQz hQa hQb ZA ZB ZC ZA1 ZB1 ZC1 ZA2 ZB2 ZC2 XL Cd hbA hd C1 E1 R1 Xz hown hkf hHH
              generalize wA.setCell ⟨w.heap.size + 1 + 1, 0, none⟩ (.slice (some ⟨g', 0, none⟩) (acc.length + 1) c9) = wB at E3 C3 Z3 R3 hown3 hkf3 ⊢
              have X10 := E3.cam
              have X10c0 : wB.cell? ⟨B10, 0, none⟩ = some (.map (some Bc)) := X10.cell 0
              have X10z := X10.lt
              have hlk2 := HLK.out _ C3
              have hfd := way_st ⟨v0, v1, v2, v3, v4, v5⟩ ⟨g0, g1⟩ wB
              obtain ⟨Z3c0, Z3f0, Z3c1, Z3f1, Z3c2, Z3f2, Z3c3, Z3f3, Z3c4, Z3f4, Z3c5, Z3f5⟩ := Z3.f6
              have Z3z : B14 < wB.heap.size := Z3.lt
              dsimp only [Exit.inBlock, Exit.then]
              gi_wp2
              clear hlk2 hfd Z3c0 Z3c1 Z3c2 Z3c3 Z3c4 Z3c5 Z3f0 Z3f1 Z3f2 Z3f3 Z3f4 Z3f5 Z3z X10c0 X10z
              have hcC : Chg (fun k => k = B14) wB ((((((wB.setCell ⟨B14, 0, none⟩ (.int .i64 v0)).setCell ⟨B14, 1, none⟩ (.int .i64 v1)).setCell ⟨B14, 2, none⟩ (.int .i64 v2)).setCell ⟨B14, 3, none⟩ (.int .i64 v3)).setCell ⟨B14, 4, none⟩ (.int .i64 v4)).setCell ⟨B14, 5, none⟩ (.int .i64 v5)) := ((((((Chg.refl (fun k => k = B14) wB).cell 0 _ (.inl rfl)).cell 1 _ (.inl rfl)).cell 2 _ (.inl rfl)).cell 3 _ (.inl rfl)).cell 4 _ (.inl rfl)).cell 5 _ (.inl rfl)
              have E4 := E3.chg hN hcC (fun k hk => by subst hk; exact ⟨.inl (by omega), E3.boxOff Z3⟩)
              have C4 : CamM ((((((wB.setCell ⟨B14, 0, none⟩ (.int .i64 v0)).setCell ⟨B14, 1, none⟩ (.int .i64 v1)).setCell ⟨B14, 2, none⟩ (.int .i64 v2)).setCell ⟨B14, 3, none⟩ (.int .i64 v3)).setCell ⟨B14, 4, none⟩ (.int .i64 v4)).setCell ⟨B14, 5, none⟩ (.int .i64 v5)) Bc cf := C3.same (hcC.block Bc C3.lt (by omega))
              have Z4 : Box ((((((wB.setCell ⟨B14, 0, none⟩ (.int .i64 v0)).setCell ⟨B14, 1, none⟩ (.int .i64 v1)).setCell ⟨B14, 2, none⟩ (.int .i64 v2)).setCell ⟨B14, 3, none⟩ (.int .i64 v3)).setCell ⟨B14, 4, none⟩ (.int .i64 v4)).setCell ⟨B14, 5, none⟩ (.int .i64 v5)) B14 (St.cells ⟨v0, v1, v2, v3, v4, v5⟩) := (((((Z3.set 0 (.int .i64 v0)).set 1 (.int .i64 v1)).set 2 (.int .i64 v2)).set 3 (.int .i64 v3)).set 4 (.int .i64 v4)).set 5 (.int .i64 v5)
              have R4 := hcC.box R3 (Ne.symm hB2)
              have hown4 : Hid (OwnSh ((((((wB.setCell ⟨B14, 0, none⟩ (.int .i64 v0)).setCell ⟨B14, 1, none⟩ (.int .i64 v1)).setCell ⟨B14, 2, none⟩ (.int .i64 v2)).setCell ⟨B14, 3, none⟩ (.int .i64 v3)).setCell ⟨B14, 4, none⟩ (.int .i64 v4)).setCell ⟨B14, 5, none⟩ (.int .i64 v5)) (B14 + 1) (.slice (some ⟨g', 0, none⟩) (acc.length + 1) c9) (acc ++ [(⟨g0, g1⟩ : Sh)])) := Lib.hid (OwnSh.same hown3.out (fun b hb => hcC.block b (World.ownsRow.lt hown3.out b hb).2 (fun e => by have := (World.ownsRow.lt hown3.out b hb).1; omega)))
              have hkf4 : KeepsFrom W3.heap.size A3 ((((((wB.setCell ⟨B14, 0, none⟩ (.int .i64 v0)).setCell ⟨B14, 1, none⟩ (.int .i64 v1)).setCell ⟨B14, 2, none⟩ (.int .i64 v2)).setCell ⟨B14, 3, none⟩ (.int .i64 v3)).setCell ⟨B14, 4, none⟩ (.int .i64 v4)).setCell ⟨B14, 5, none⟩ (.int .i64 v5)) := hkf3.trans (hcC.kf (fun k o hk hn ho => by
                obtain ⟨ty, hty⟩ := Z3
                rw [hk, hty] at ho
                cases ho
                rfl))
              clear hcC E3 C3 Z3 R3 hown3 hkf3 X10
              gi_roundg j
              case measure => exact Nat.lt_succ_self _
              case rel => exact ⟨⟨v0, v1, v2, v3, v4, v5⟩, acc ++ [(⟨g0, g1⟩ : Sh)], _, _, _, hkf4, E4, C4, Z4, R4, hown4, hacc2, HBK2⟩
    case done =>
      rintro E xs A hE hxs ⟨came', op', A', n', c', hIA, hin, hevk⟩ hmE
      subst hxs
      clear hI3 HI0
      obtain ⟨e, he⟩ := inner_op _ _ _ _ hin.out
      dsimp only at he
      have he2 : op' = ⟨x0, x1, x2, x3, x4, x5⟩ :: (r ++ e) := he
      clear he
      subst he2
      have hes2 := Lib.hid (esc_on hes.out hin.out)
      have hev2 := Lib.hid hevk.out.pop
      dsimp only [List.tail_cons] at hes2
      generalize hre : r ++ e = r2 at hIA hin hevk hes2 hev2
      clear hre hin hevk
      obtain ⟨bq2, off2, cap2, hV, hDq2, hltq2, -, hrest⟩ := hIA.d.q.head
      cases hV
      obtain ⟨Ar, hAr⟩ : ∃ Ar, (if cap2 = 0 then some (⟨bq2, off2, none⟩ : Addr) else some ⟨bq2, off2 + 6, none⟩) = Ar := ⟨_, rfl⟩
      obtain ⟨hqr, hqb⟩ := hrest Ar hAr.symm
      have HAR := Lib.hid hAr
      clear hrest hAr
      have Zb := hIA.d.box
      have Zbc0 : A.cell? ⟨Bo, 0, none⟩ = some (.slice (some ⟨bq2, off2, none⟩) (r2.length + 1) (cap2 + 1)) := Zb.cell 0
      have Zbz2 := Zb.lt
      have hsz := hIA.size
      go_upto_region 10 with fail
      clear Zbc0
      have hb := (Below.refl A.heap.size A).alloc (Nat.le_refl _) (.cells #[.slice (some ⟨bq2, off2, none⟩) (r2.length + 1) (cap2 + 1)] 43)
      have X11 := Box.new A [.slice (some ⟨bq2, off2, none⟩) (r2.length + 1) (cap2 + 1)] 43
      have hIA2 := hIA.later hIN hb
      have hqr2 := hqr.later hb
      have hmE2 := (hb.block E (Array.getElem?_eq_some_iff.1 hmE).1).trans hmE
      have hqlt : ∀ g, quB (.slice Ar r2.length cap2) = some g → g < A.heap.size := fun g hg => (hqr.lt hg).2
      have hElt := (Array.getElem?_eq_some_iff.1 hmE).1
      clear hIA hqr hb hmE
      generalize A.alloc (.cells #[.slice (some ⟨bq2, off2, none⟩) (r2.length + 1) (cap2 + 1)] 43) = Ap at X11 hIA2 hqr2 hmE2 ⊢
      generalize A.heap.size = Bn at X11 hqlt Zbz2 hsz hltq2 hElt ⊢
      have X11c0 : Ap.cell? ⟨Bn, 0, none⟩ = some (.slice (some ⟨bq2, off2, none⟩) (r2.length + 1) (cap2 + 1)) := X11.cell 0
      have X11f0 : Ap.frozen? ⟨Bn, 0, none⟩ = false := X11.free 0
      have X11z : Bn < Ap.heap.size := X11.lt
      have n1 := hN.g
      have n2 := hN.b8
      have n3 := hN.bc
      have n4 := hN.b10
      have n5 := hN.rb
      have hRBn : Rb < Bn := by omega
      have hX9 : Chg (fun k => k = Bn) Ap (Ap.setCell ⟨Bn, 0, none⟩ (.slice Ar r2.length cap2)) := (Chg.refl _ Ap).cell 0 _ (.inl rfl)
      have hE9 := hIA2.st.chg hN hX9 (fun k hk => by subst hk; exact ⟨.inl (Nat.le_of_lt hRBn), hIA2.st.boxOff X11⟩)
      have hEoff : E ∉ rs := fun hq => by have := hIN.rs _ hq; omega
      have hEB9 : EsB w G B8 Bc B10 p (.slice A2 m2 k2) ⟨b0, b1, b2, b3, b4, b5⟩ (E :: rs) (Ap.setCell ⟨Bn, 0, none⟩ (.slice Ar r2.length cap2)) := ⟨hE9.low, hE9.ok, hE9.er, hE9.game, hE9.beg, hE9.cam, fun q hq => by
        rcases List.mem_cons.1 hq with rfl | hq
        · exact (hX9.block q (Array.getElem?_eq_some_iff.1 hmE2).1 (by omega)).trans hmE2
        · exact hE9.marks q hq⟩
      have hED9 : EsD Rb Bc Bn came' Ar r2.length cap2 r2 (Ap.setCell ⟨Bn, 0, none⟩ (.slice Ar r2.length cap2)) :=
        ⟨X11.set 0 _, hqr2.same (fun g hg => Below.heap_setCell Ap ⟨Bn, 0, none⟩ _ g (fun e => by have := hqlt g hg; dsimp only at e; omega)), fun e => by have := hqlt _ e; omega, hIA2.d.cam.set (a := ⟨Bn, 0, none⟩) (by dsimp only; omega) _⟩
      have hres9 : Box (Ap.setCell ⟨Bn, 0, none⟩ (.slice Ar r2.length cap2)) (w.heap.size + 1 + 1) [.slice none 0 0] := hIA2.res.other (a := ⟨Bn, 0, none⟩) (by dsimp only; omega) _
      have hnd9 : Hid (E :: rs).Nodup := Lib.hid (List.nodup_cons.2 ⟨hEoff, hnd.out⟩)
      have hrl9 : Hid (∀ q ∈ E :: rs, Rb ≤ q) := Lib.hid (fun q hq => by
        rcases List.mem_cons.1 hq with rfl | hq
        · have := hIN.bo
          have := hIN.b12
          have := hIN.bg
          have := hIN.z
          omega
        · exact hrl.out q hq)
      clear n1 n2 n3 n4 n5 hX9 hE9 hEoff hIA2 hqr2 hmE2 hqlt hqb hDq2 hltq2 Zb
      by_cases hcap : cap2 = 0
      · subst hcap
        have hA : (some ⟨bq2, off2, none⟩ : Option Addr) = Ar := by rw [← HAR.out, if_pos rfl]
        clear HAR
        subst hA
        go_wp2
        refine Handed.intro k' (Nat.lt_succ_self _) (HJ.out _ _ _ ?_)
        exact ⟨Bn, E :: rs, came', r2, _, _, _, rfl, hRBn, hEB9, hED9, hres9, hnd9, hrl9, hes2, hev2, Lib.hid (Nat.le_of_succ_le hkk.out)⟩
      · have hA : (some ⟨bq2, off2 + 6, none⟩ : Option Addr) = Ar := by rw [← HAR.out, if_neg hcap]
        clear HAR
        subst hA
        go_wp2
        refine Handed.intro k' (Nat.lt_succ_self _) (HJ.out _ _ _ ?_)
        exact ⟨Bn, E :: rs, came', r2, _, _, _, rfl, hRBn, hEB9, hED9, hres9, hnd9, hrl9, hes2, hev2, Lib.hid (Nat.le_of_succ_le hkk.out)⟩
    case stop =>
      rintro E cc pre A hE hSp ⟨rfl, hR, hok⟩ hmE
      refine wpIn_wide.2 ?_
      go_wp2
      have hnd2 : (E :: rs).Nodup := List.nodup_cons.2 ⟨fun hq => by have := hIN.rs _ hq; omega, hnd.out⟩
      have hm2 : ∀ q ∈ E :: rs, A.heap[q]? = some (.deferred (some [])) := fun q hq => by
        rcases List.mem_cons.1 hq with rfl | hq
        · exact hmE
        · exact hR.marks q hq
      refine leaves_marks (by simp) (E :: rs) _ hnd2 hm2 ?_
      intro wg hg
      obtain ⟨A9, n9, c9, hX9, hS9⟩ := hR.res
      have c4 : wg.cell? ⟨w.heap.size + 1 + 1, 0, none⟩ = some (.slice A9 n9 c9) := (hg.box hm2 hX9).cell 0
      have c5 : wg.cell? ⟨w.heap.size + 1 + 1 + 1, 0, none⟩ = some (.bool true) := (hg.box hm2 hR.ok).cell 0
      have c6 : wg.cell? ⟨w.heap.size + 1 + 1 + 1 + 1, 0, none⟩ = some (.int .i64 0) := (hg.box hm2 hR.er).cell 0
      refine ⟨_, (by simp [results, Try.results19, go_sem, c4, c5, c6] : _ = Result.ok (Value.tuple #[.slice A9 n9 c9, .bool true, .int .i64 0]) _), ?_⟩
      rw [hok.out]
      exact ⟨A9, n9, c9, rfl, hS9.same (fun _ _ hx => hg.box hm2 hx), hR.low.trans (hg.low (fun q hq => by
        rcases List.mem_cons.1 hq with rfl | hq
        · omega
        · have := hrl.out q hq
          have := hN.g
          have := hN.b8
          have := hN.bc
          have := hN.b10
          have := hN.rb
          omega))⟩
end Go.Proofs.Ytancngachnpefaa
