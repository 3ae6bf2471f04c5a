/- Lose and Repeat of orders. (Printed by gen_rq.py and pp.py.) No condition. -/
import Derived.Test.YtmbifmmkccghfaaQRM
import Derived.Test.YtmbifmmkccghfaaQRK
import Derived.Test.YtmbifmmkccghfaaQGP
set_option linter.unusedVariables false
set_option linter.unusedSimpArgs false
namespace Go.Proofs.Ytmbifmmkccghfaa
open Go.RowKit Go.Shelf
attribute [local go_sem] Oper.semAt_some

def RetN (t : Net × Int) (w : World) (e : Ending) (w' : World) : Prop := ∃ Aq nq cq Aa na ca m er, e = .returned (.tuple #[.agg #[.slice Aq nq cq, .slice Aa na ca], .int .i64 er]) ∧ Hid (t = (m, er)) ∧ Hid (NetAt w' w'.heap.size (.slice Aq nq cq) (.slice Aa na ca) m) ∧ Below w.heap.size w w'
theorem Sl.setSB {w : World} {B size n : Nat} {g : Nat → Nat → Value} {v : Value} (h : Sl w B size n g v) (hs : 0 < size) (hi : ∀ i, i < n → ∃ z, g i 0 = .bool z) {x : Nat} (hx : SlBox w x) (j : Nat) (u : Value) : Sl (w.setCell ⟨x, j, none⟩ u) B size n g v := by
  obtain ⟨A, c, hv, hm, h1⟩ := h
  obtain ⟨xs, hx, hxs⟩ := hx
  refine ⟨A, c, hv, hm, fun i hin => ?_⟩
  obtain ⟨b, off, ha, hb, h3⟩ := h1 i hin
  have hne : b ≠ x := by
    rintro rfl
    have h4 := h3 0 hs
    rw [hx.cell] at h4
    obtain ⟨z, e⟩ := hi i hin
    rw [e] at h4
    obtain ⟨A', k', c', e'⟩ := hxs _ (List.mem_of_getElem? h4)
    cases e'
  exact ⟨b, off, ha, hb, fun q hq => by rw [World.cell?_of_block (w := w) (Below.heap_setCell w ⟨x, j, none⟩ u b hne)]; exact h3 q hq⟩
theorem BxAt.setS {w : World} {B : Nat} {Vq Va Vs Vh Vf : Value} {b : Bx} (h : BxAt w B Vq Va Vs Vh Vf b) {x : Nat} (hx : SlBox w x) (j : Nat) (u : Value) : BxAt (w.setCell ⟨x, j, none⟩ u) B Vq Va Vs Vh Vf b :=
  ⟨h.net.setS hx j u, ⟨h.sent.1, Sl.setS h.sent.2 (by decide) (fun i _ => ⟨_, _, rfl⟩) hx j u⟩, ⟨h.heard.1, Sl.setS h.heard.2 (by decide) (fun i _ => ⟨_, _, rfl⟩) hx j u⟩, ⟨h.fresh.1, Sl.setSB h.fresh.2 (by decide) (fun i _ => ⟨_, rfl⟩) hx j u⟩⟩
theorem BxAt.set5 {w : World} {B : Nat} {Vq Va Vs Vh Vf : Value} {b : Bx} (h : BxAt w B Vq Va Vs Vh Vf b) {x : Nat} (hx : SlBox w x) (A0 A1 A2 A3 A4 : Option Addr) (n0 c0 n1 c1 n2 c2 n3 c3 n4 c4 : Nat) :
    BxAt (((((w.setCell ⟨x, 0, none⟩ (.slice A0 n0 c0)).setCell ⟨x, 1, none⟩ (.slice A1 n1 c1)).setCell ⟨x, 2, none⟩ (.slice A2 n2 c2)).setCell ⟨x, 3, none⟩ (.slice A3 n3 c3)).setCell ⟨x, 4, none⟩ (.slice A4 n4 c4)) B Vq Va Vs Vh Vf b := by
  have x1 := hx.set 0 A0 n0 c0
  have x2 := x1.set 1 A1 n1 c1
  have x3 := x2.set 2 A2 n2 c2
  exact ((((h.setS hx 0 _).setS x1 1 _).setS x2 2 _).setS x3 3 _).setS (x3.set 3 _ _ _) 4 _
theorem BxAt.forms5 {w : World} {B : Nat} {Vq Va Vs Vh Vf : Value} {b : Bx} (h : BxAt w B Vq Va Vs Vh Vf b) : ∃ Aq nq cq Aa na ca As ns cs Ah n ch Af nf cf, Vq = .slice Aq nq cq ∧ Va = .slice Aa na ca ∧ Vs = .slice As ns cs ∧ Vh = .slice Ah n ch ∧ Vf = .slice Af nf cf := by
  obtain ⟨Aq, cq, Aa, ca, As, cs, Ah, ch, Af, cf, h1, h2, h3, h4, h5, _⟩ := h.forms
  exact ⟨_, _, _, _, _, _, _, _, _, _, _, _, _, _, _, h1, h2, h3, h4, h5⟩
set_option maxRecDepth 100000 in
set_option maxHeartbeats 4000000 in
theorem qLose_any (m0 : Net) (i : Int) (Aq Aa : Option Addr) (nq cq na ca : Nat) (w : World) (hN : Hid (NetAt w w.heap.size (.slice Aq nq cq) (.slice Aa na ca) m0)) :
    Calls Try.prog 50 #[.agg #[.slice Aq nq cq, .slice Aa na ca], .int .i64 i] w (RetN (Go.Proofs.Ytmbifmmkccghfaa.loseT m0 i) w) := by
  go_enter Try.func50, Try.ntmps50
  have hB := ((Below.refl w.heap.size w).alloc (Nat.le_refl _) (.cells #[.slice Aq nq cq, .slice Aa na ca] 82)).alloc (by simp) (.cells #[.slice none 0 0, .slice none 0 0] 25)
  have X2 := (Box.new w [.slice Aq nq cq, .slice Aa na ca] 82).alloc (.cells #[.slice none 0 0, .slice none 0 0] 25)
  have X4 := Box.newAt (w := w.alloc (.cells #[.slice Aq nq cq, .slice Aa na ca] 82)) (n := w.heap.size + 1) [.slice none 0 0, .slice none 0 0] 25 (by simp)
  go_upto_region 1 with fail
  generalize (w.alloc (.cells #[.slice Aq nq cq, .slice Aa na ca] 82)).alloc (.cells #[.slice none 0 0, .slice none 0 0] 25) = w1 at hB X2 X4 ⊢
  have z1 := X2.lt
  have X2c0 : w1.cell? ⟨w.heap.size, 0, none⟩ = some (.slice Aq nq cq) := X2.cell 0
  have X2c1 : w1.cell? ⟨w.heap.size, 1, none⟩ = some (.slice Aa na ca) := X2.cell 1
  have HN := Lib.hid (hN.out.later hB)
  go_wp2_with fail
  refine (nLose_is m0 i HN).mono ?_
  rintro e w3 ⟨Vq, Va, m, er, rfl, hT2, hN2, hb⟩
  obtain ⟨Aq2, nq2, cq2, Aa2, na2, ca2, rfl, rfl⟩ := hN2.out.form
  have HM := hN2.out.at hb.size
  have hB := hB.trans (hb.mono hB.size)
  have X4 := X4.later hb
  clear hb z1 X2c0 X2c1 hN2 HN
  have X4c0 : w3.cell? ⟨w.heap.size + 1, 0, none⟩ = some (.slice none 0 0) := X4.cell 0
  have X4f0 : w3.frozen? ⟨w.heap.size + 1, 0, none⟩ = false := X4.free 0
  have X4c1 : w3.cell? ⟨w.heap.size + 1, 1, none⟩ = some (.slice none 0 0) := X4.cell 1
  have X4f1 : w3.frozen? ⟨w.heap.size + 1, 1, none⟩ = false := X4.free 1
  have X4z : w.heap.size + 1 < w3.heap.size := X4.lt
  go_wp2
  obtain ⟨HM2, -⟩ := HM.set2 (SlBox.of X4 (by simp)) Aq2 Aa2 nq2 cq2 na2 ca2
  have Y4 := ((X4.set 0 (.slice Aq2 nq2 cq2)).set 1 (.slice Aa2 na2 ca2))
  have hB := ((hB.setCell (p := ⟨w.heap.size + 1, 0, none⟩) (by simp <;> omega) (.slice Aq2 nq2 cq2)).setCell (p := ⟨w.heap.size + 1, 1, none⟩) (by simp <;> omega) (.slice Aa2 na2 ca2))
  have hsz : w3.heap.size ≤ ((w3.setCell ⟨w.heap.size + 1, 0, none⟩ (.slice Aq2 nq2 cq2)).setCell ⟨w.heap.size + 1, 1, none⟩ (.slice Aa2 na2 ca2)).heap.size := by simp
  clear X4c0 X4c1 X4f0 X4f1 X4z
  generalize ((w3.setCell ⟨w.heap.size + 1, 0, none⟩ (.slice Aq2 nq2 cq2)).setCell ⟨w.heap.size + 1, 1, none⟩ (.slice Aa2 na2 ca2)) = W6 at Y4 hB HM2 hsz ⊢
  simp only [List.set_cons_zero, List.set_cons_succ] at Y4
  have Y4c0 : W6.cell? ⟨w.heap.size + 1, 0, none⟩ = some (.slice Aq2 nq2 cq2) := Y4.cell 0
  have Y4c1 : W6.cell? ⟨w.heap.size + 1, 1, none⟩ = some (.slice Aa2 na2 ca2) := Y4.cell 1
  refine bodyPost_ret (v := .tuple #[.agg #[.slice Aq2 nq2 cq2, .slice Aa2 na2 ca2], .int .i64 er]) (by simp [results, Try.results50, go_sem, Y4c0, Y4c1]) rfl ?_
  exact ⟨_, _, _, _, _, _, m, er, rfl, hT2, Lib.hid (HM2.more hsz), hB⟩
set_option maxRecDepth 100000 in
set_option maxHeartbeats 4000000 in
theorem qRepeat_any (m0 : Net) (i : Int) (Aq Aa : Option Addr) (nq cq na ca : Nat) (w : World) (hN : Hid (NetAt w w.heap.size (.slice Aq nq cq) (.slice Aa na ca) m0)) :
    Calls Try.prog 45 #[.agg #[.slice Aq nq cq, .slice Aa na ca], .int .i64 i] w (RetN (Go.Proofs.Ytmbifmmkccghfaa.repeatT m0 i) w) := by
  go_enter Try.func45, Try.ntmps45
  have hB := ((Below.refl w.heap.size w).alloc (Nat.le_refl _) (.cells #[.slice Aq nq cq, .slice Aa na ca] 82)).alloc (by simp) (.cells #[.slice none 0 0, .slice none 0 0] 25)
  have X2 := (Box.new w [.slice Aq nq cq, .slice Aa na ca] 82).alloc (.cells #[.slice none 0 0, .slice none 0 0] 25)
  have X4 := Box.newAt (w := w.alloc (.cells #[.slice Aq nq cq, .slice Aa na ca] 82)) (n := w.heap.size + 1) [.slice none 0 0, .slice none 0 0] 25 (by simp)
  go_upto_region 1 with fail
  generalize (w.alloc (.cells #[.slice Aq nq cq, .slice Aa na ca] 82)).alloc (.cells #[.slice none 0 0, .slice none 0 0] 25) = w1 at hB X2 X4 ⊢
  have z1 := X2.lt
  have X2c0 : w1.cell? ⟨w.heap.size, 0, none⟩ = some (.slice Aq nq cq) := X2.cell 0
  have X2c1 : w1.cell? ⟨w.heap.size, 1, none⟩ = some (.slice Aa na ca) := X2.cell 1
  have HN := Lib.hid (hN.out.later hB)
  go_wp2_with fail
  refine (nRepeat_is m0 i HN).mono ?_
  rintro e w3 ⟨Vq, Va, m, er, rfl, hT2, hN2, hb⟩
  obtain ⟨Aq2, nq2, cq2, Aa2, na2, ca2, rfl, rfl⟩ := hN2.out.form
  have HM := hN2.out.at hb.size
  have hB := hB.trans (hb.mono hB.size)
  have X4 := X4.later hb
  clear hb z1 X2c0 X2c1 hN2 HN
  have X4c0 : w3.cell? ⟨w.heap.size + 1, 0, none⟩ = some (.slice none 0 0) := X4.cell 0
  have X4f0 : w3.frozen? ⟨w.heap.size + 1, 0, none⟩ = false := X4.free 0
  have X4c1 : w3.cell? ⟨w.heap.size + 1, 1, none⟩ = some (.slice none 0 0) := X4.cell 1
  have X4f1 : w3.frozen? ⟨w.heap.size + 1, 1, none⟩ = false := X4.free 1
  have X4z : w.heap.size + 1 < w3.heap.size := X4.lt
  go_wp2
  obtain ⟨HM2, -⟩ := HM.set2 (SlBox.of X4 (by simp)) Aq2 Aa2 nq2 cq2 na2 ca2
  have Y4 := ((X4.set 0 (.slice Aq2 nq2 cq2)).set 1 (.slice Aa2 na2 ca2))
  have hB := ((hB.setCell (p := ⟨w.heap.size + 1, 0, none⟩) (by simp <;> omega) (.slice Aq2 nq2 cq2)).setCell (p := ⟨w.heap.size + 1, 1, none⟩) (by simp <;> omega) (.slice Aa2 na2 ca2))
  have hsz : w3.heap.size ≤ ((w3.setCell ⟨w.heap.size + 1, 0, none⟩ (.slice Aq2 nq2 cq2)).setCell ⟨w.heap.size + 1, 1, none⟩ (.slice Aa2 na2 ca2)).heap.size := by simp
  clear X4c0 X4c1 X4f0 X4f1 X4z
  generalize ((w3.setCell ⟨w.heap.size + 1, 0, none⟩ (.slice Aq2 nq2 cq2)).setCell ⟨w.heap.size + 1, 1, none⟩ (.slice Aa2 na2 ca2)) = W6 at Y4 hB HM2 hsz ⊢
  simp only [List.set_cons_zero, List.set_cons_succ] at Y4
  have Y4c0 : W6.cell? ⟨w.heap.size + 1, 0, none⟩ = some (.slice Aq2 nq2 cq2) := Y4.cell 0
  have Y4c1 : W6.cell? ⟨w.heap.size + 1, 1, none⟩ = some (.slice Aa2 na2 ca2) := Y4.cell 1
  refine bodyPost_ret (v := .tuple #[.agg #[.slice Aq2 nq2 cq2, .slice Aa2 na2 ca2], .int .i64 er]) (by simp [results, Try.results45, go_sem, Y4c0, Y4c1]) rfl ?_
  exact ⟨_, _, _, _, _, _, m, er, rfl, hT2, Lib.hid (HM2.more hsz), hB⟩
set_option maxRecDepth 100000 in
set_option maxHeartbeats 4000000 in
theorem oDoLose_any (b : Bx) (i : Int) (Aq Aa As Ah Af : Option Addr) (nq cq na ca ns cs n ch nf cf : Nat) (w : World) (hx : Hid (BxAt w w.heap.size (.slice Aq nq cq) (.slice Aa na ca) (.slice As ns cs) (.slice Ah n ch) (.slice Af nf cf) b)) {T : Bx × Int} (hT : Hid (b.loseT i = T)) :
    Calls Try.prog 44 #[.agg #[.slice Aq nq cq, .slice Aa na ca, .slice As ns cs, .slice Ah n ch, .slice Af nf cf], .int .i64 i, .func (.func 50) #[] #[]] w (RetBx T.1 #[.int .i64 T.2] w) := by
  go_enter Try.func44, Try.ntmps44
  have hB := ((Below.refl w.heap.size w).alloc (Nat.le_refl _) (.cells #[.slice Aq nq cq, .slice Aa na ca, .slice As ns cs, .slice Ah n ch, .slice Af nf cf] 30)).alloc (by simp) (.cells #[.slice none 0 0, .slice none 0 0, .slice none 0 0, .slice none 0 0, .slice none 0 0] 30)
  have X2 := (Box.new w [.slice Aq nq cq, .slice Aa na ca, .slice As ns cs, .slice Ah n ch, .slice Af nf cf] 30).alloc (.cells #[.slice none 0 0, .slice none 0 0, .slice none 0 0, .slice none 0 0, .slice none 0 0] 30)
  have X4 := Box.newAt (w := w.alloc (.cells #[.slice Aq nq cq, .slice Aa na ca, .slice As ns cs, .slice Ah n ch, .slice Af nf cf] 30)) (n := w.heap.size + 1) [.slice none 0 0, .slice none 0 0, .slice none 0 0, .slice none 0 0, .slice none 0 0] 30 (by simp)
  go_upto_region 1 with fail
  generalize (w.alloc (.cells #[.slice Aq nq cq, .slice Aa na ca, .slice As ns cs, .slice Ah n ch, .slice Af nf cf] 30)).alloc (.cells #[.slice none 0 0, .slice none 0 0, .slice none 0 0, .slice none 0 0, .slice none 0 0] 30) = w1 at hB X2 X4 ⊢
  have z1 := X2.lt
  have X2c0 : w1.cell? ⟨w.heap.size, 0, none⟩ = some (.slice Aq nq cq) := X2.cell 0
  have X2c1 : w1.cell? ⟨w.heap.size, 1, none⟩ = some (.slice Aa na ca) := X2.cell 1
  have X2c2 : w1.cell? ⟨w.heap.size, 2, none⟩ = some (.slice As ns cs) := X2.cell 2
  have X2c3 : w1.cell? ⟨w.heap.size, 3, none⟩ = some (.slice Ah n ch) := X2.cell 3
  have X2c4 : w1.cell? ⟨w.heap.size, 4, none⟩ = some (.slice Af nf cf) := X2.cell 4
  obtain ⟨c, hc⟩ : ∃ c, Hid (b.checkT = c) := ⟨_, Lib.hid rfl⟩
  go_wp2_with fail
  refine (oCheck_is hc (hx.out.later hB)).mono ?_
  rintro e w2 ⟨rfl, hb⟩
  have hB := hB.trans (hb.mono hB.size)
  have X2 := X2.later hb
  have X4 := X4.later hb
  clear hb z1 X2c0 X2c1 X2c2 X2c3 X2c4
  by_cases h0 : c = 0
  rotate_left
  · have d0 : (c != 0) = true := by simp [h0]
    obtain rfl : T = (Bx.zero, c) := by rw [← hT.out]; exact do_bad hc.out h0
    have X4c0 : w2.cell? ⟨w.heap.size + 1, 0, none⟩ = some (.slice none 0 0) := X4.cell 0
    have X4f0 : w2.frozen? ⟨w.heap.size + 1, 0, none⟩ = false := X4.free 0
    have X4c1 : w2.cell? ⟨w.heap.size + 1, 1, none⟩ = some (.slice none 0 0) := X4.cell 1
    have X4f1 : w2.frozen? ⟨w.heap.size + 1, 1, none⟩ = false := X4.free 1
    have X4c2 : w2.cell? ⟨w.heap.size + 1, 2, none⟩ = some (.slice none 0 0) := X4.cell 2
    have X4f2 : w2.frozen? ⟨w.heap.size + 1, 2, none⟩ = false := X4.free 2
    have X4c3 : w2.cell? ⟨w.heap.size + 1, 3, none⟩ = some (.slice none 0 0) := X4.cell 3
    have X4f3 : w2.frozen? ⟨w.heap.size + 1, 3, none⟩ = false := X4.free 3
    have X4c4 : w2.cell? ⟨w.heap.size + 1, 4, none⟩ = some (.slice none 0 0) := X4.cell 4
    have X4f4 : w2.frozen? ⟨w.heap.size + 1, 4, none⟩ = false := X4.free 4
    have X4z : w.heap.size + 1 < w2.heap.size := X4.lt
    have Y4 := (((((X4.set 0 (.slice none 0 0)).set 1 (.slice none 0 0)).set 2 (.slice none 0 0)).set 3 (.slice none 0 0)).set 4 (.slice none 0 0))
    have hB2 := (((((hB.setCell (p := ⟨w.heap.size + 1, 0, none⟩) (by simp <;> omega) (.slice none 0 0)).setCell (p := ⟨w.heap.size + 1, 1, none⟩) (by simp <;> omega) (.slice none 0 0)).setCell (p := ⟨w.heap.size + 1, 2, none⟩) (by simp <;> omega) (.slice none 0 0)).setCell (p := ⟨w.heap.size + 1, 3, none⟩) (by simp <;> omega) (.slice none 0 0)).setCell (p := ⟨w.heap.size + 1, 4, none⟩) (by simp <;> omega) (.slice none 0 0))
    go_wp2
    clear X4c0 X4c1 X4c2 X4c3 X4c4 X4f0 X4f1 X4f2 X4f3 X4f4 X4z
    generalize (((((w2.setCell ⟨w.heap.size + 1, 0, none⟩ (.slice none 0 0)).setCell ⟨w.heap.size + 1, 1, none⟩ (.slice none 0 0)).setCell ⟨w.heap.size + 1, 2, none⟩ (.slice none 0 0)).setCell ⟨w.heap.size + 1, 3, none⟩ (.slice none 0 0)).setCell ⟨w.heap.size + 1, 4, none⟩ (.slice none 0 0)) = W8 at Y4 hB2 ⊢
    simp only [List.set_cons_zero, List.set_cons_succ] at Y4
    have Y4c0 : W8.cell? ⟨w.heap.size + 1, 0, none⟩ = some (.slice none 0 0) := Y4.cell 0
    have Y4c1 : W8.cell? ⟨w.heap.size + 1, 1, none⟩ = some (.slice none 0 0) := Y4.cell 1
    have Y4c2 : W8.cell? ⟨w.heap.size + 1, 2, none⟩ = some (.slice none 0 0) := Y4.cell 2
    have Y4c3 : W8.cell? ⟨w.heap.size + 1, 3, none⟩ = some (.slice none 0 0) := Y4.cell 3
    have Y4c4 : W8.cell? ⟨w.heap.size + 1, 4, none⟩ = some (.slice none 0 0) := Y4.cell 4
    refine bodyPost_ret (v := .tuple #[.agg #[.slice none 0 0, .slice none 0 0, .slice none 0 0, .slice none 0 0, .slice none 0 0], .int .i64 c]) (by simp [results, Try.results44, go_sem, Y4c0, Y4c1, Y4c2, Y4c3, Y4c4]) rfl ?_
    exact ⟨_, _, _, _, _, rfl, bxAt_zero _ _, hB2⟩
  subst h0
  have HOK := Lib.hid (check_ok hc.out)
  have z1 := X2.lt
  have X2c0 : w2.cell? ⟨w.heap.size, 0, none⟩ = some (.slice Aq nq cq) := X2.cell 0
  have X2c1 : w2.cell? ⟨w.heap.size, 1, none⟩ = some (.slice Aa na ca) := X2.cell 1
  have X2c2 : w2.cell? ⟨w.heap.size, 2, none⟩ = some (.slice As ns cs) := X2.cell 2
  have X2c3 : w2.cell? ⟨w.heap.size, 3, none⟩ = some (.slice Ah n ch) := X2.cell 3
  have X2c4 : w2.cell? ⟨w.heap.size, 4, none⟩ = some (.slice Af nf cf) := X2.cell 4
  have HN := Lib.hid (hx.out.net.later hB)
  go_wp2_with fail
  refine (qLose_any b.net i _ _ _ _ _ _ _ HN).mono ?_
  rintro e w3 ⟨Aq2, nq2, cq2, Aa2, na2, ca2, m, er, rfl, hT2, HM, hb⟩
  have hB := hB.trans (hb.mono hB.size)
  have X2 := X2.later hb
  have X4 := X4.later hb
  clear hb z1 X2c0 X2c1 X2c2 X2c3 X2c4 HN
  go_upto_region 5 with fail
  have X7 := Box.new w3 [.slice Aq2 nq2 cq2, .slice Aa2 na2 ca2] 25
  have hal := (Below.refl w3.heap.size w3).alloc (Nat.le_refl _) (.cells #[.slice Aq2 nq2 cq2, .slice Aa2 na2 ca2] 25)
  have z2 := X2.lt
  have z4 := X4.lt
  have X2 := X2.later hal
  have X4 := X4.later hal
  have hB := hB.trans (hal.mono hB.size)
  have HM1 := HM.out.below hal
  have hDz := hal.size
  clear hal HM
  generalize w3.alloc (.cells #[.slice Aq2 nq2 cq2, .slice Aa2 na2 ca2] 25) = W3 at X7 X2 X4 hB HM1 hDz ⊢
  generalize w3.heap.size = D at X7 HM1 hDz z2 z4 ⊢
  have hsn := do_net (b := b) (m := m) (er := er) HOK.out hT2.out
  by_cases he : er = 0
  rotate_left
  · have d6 : (er != 0) = true := by simp [he]
    obtain rfl : T = (Bx.zero, er) := by rw [← hT.out]; exact hsn.trans (if_neg he)
    have X4c0 : W3.cell? ⟨w.heap.size + 1, 0, none⟩ = some (.slice none 0 0) := X4.cell 0
    have X4f0 : W3.frozen? ⟨w.heap.size + 1, 0, none⟩ = false := X4.free 0
    have X4c1 : W3.cell? ⟨w.heap.size + 1, 1, none⟩ = some (.slice none 0 0) := X4.cell 1
    have X4f1 : W3.frozen? ⟨w.heap.size + 1, 1, none⟩ = false := X4.free 1
    have X4c2 : W3.cell? ⟨w.heap.size + 1, 2, none⟩ = some (.slice none 0 0) := X4.cell 2
    have X4f2 : W3.frozen? ⟨w.heap.size + 1, 2, none⟩ = false := X4.free 2
    have X4c3 : W3.cell? ⟨w.heap.size + 1, 3, none⟩ = some (.slice none 0 0) := X4.cell 3
    have X4f3 : W3.frozen? ⟨w.heap.size + 1, 3, none⟩ = false := X4.free 3
    have X4c4 : W3.cell? ⟨w.heap.size + 1, 4, none⟩ = some (.slice none 0 0) := X4.cell 4
    have X4f4 : W3.frozen? ⟨w.heap.size + 1, 4, none⟩ = false := X4.free 4
    have X4z : w.heap.size + 1 < W3.heap.size := X4.lt
    have Y4 := (((((X4.set 0 (.slice none 0 0)).set 1 (.slice none 0 0)).set 2 (.slice none 0 0)).set 3 (.slice none 0 0)).set 4 (.slice none 0 0))
    have hB2 := (((((hB.setCell (p := ⟨w.heap.size + 1, 0, none⟩) (by simp <;> omega) (.slice none 0 0)).setCell (p := ⟨w.heap.size + 1, 1, none⟩) (by simp <;> omega) (.slice none 0 0)).setCell (p := ⟨w.heap.size + 1, 2, none⟩) (by simp <;> omega) (.slice none 0 0)).setCell (p := ⟨w.heap.size + 1, 3, none⟩) (by simp <;> omega) (.slice none 0 0)).setCell (p := ⟨w.heap.size + 1, 4, none⟩) (by simp <;> omega) (.slice none 0 0))
    go_wp2
    clear X4c0 X4c1 X4c2 X4c3 X4c4 X4f0 X4f1 X4f2 X4f3 X4f4 X4z
    generalize (((((W3.setCell ⟨w.heap.size + 1, 0, none⟩ (.slice none 0 0)).setCell ⟨w.heap.size + 1, 1, none⟩ (.slice none 0 0)).setCell ⟨w.heap.size + 1, 2, none⟩ (.slice none 0 0)).setCell ⟨w.heap.size + 1, 3, none⟩ (.slice none 0 0)).setCell ⟨w.heap.size + 1, 4, none⟩ (.slice none 0 0)) = W8 at Y4 hB2 ⊢
    simp only [List.set_cons_zero, List.set_cons_succ] at Y4
    have Y4c0 : W8.cell? ⟨w.heap.size + 1, 0, none⟩ = some (.slice none 0 0) := Y4.cell 0
    have Y4c1 : W8.cell? ⟨w.heap.size + 1, 1, none⟩ = some (.slice none 0 0) := Y4.cell 1
    have Y4c2 : W8.cell? ⟨w.heap.size + 1, 2, none⟩ = some (.slice none 0 0) := Y4.cell 2
    have Y4c3 : W8.cell? ⟨w.heap.size + 1, 3, none⟩ = some (.slice none 0 0) := Y4.cell 3
    have Y4c4 : W8.cell? ⟨w.heap.size + 1, 4, none⟩ = some (.slice none 0 0) := Y4.cell 4
    refine bodyPost_ret (v := .tuple #[.agg #[.slice none 0 0, .slice none 0 0, .slice none 0 0, .slice none 0 0, .slice none 0 0], .int .i64 er]) (by simp [results, Try.results44, go_sem, Y4c0, Y4c1, Y4c2, Y4c3, Y4c4]) rfl ?_
    exact ⟨_, _, _, _, _, rfl, bxAt_zero _ _, hB2⟩
  subst he
  obtain rfl : T = (⟨m, b.sent, b.heard, b.fresh⟩, 0) := by rw [← hT.out]; exact hsn.trans (if_pos rfl)
  clear hsn
  have X2c0 : W3.cell? ⟨w.heap.size, 0, none⟩ = some (.slice Aq nq cq) := X2.cell 0
  have X2f0 : W3.frozen? ⟨w.heap.size, 0, none⟩ = false := X2.free 0
  have X2c1 : W3.cell? ⟨w.heap.size, 1, none⟩ = some (.slice Aa na ca) := X2.cell 1
  have X2f1 : W3.frozen? ⟨w.heap.size, 1, none⟩ = false := X2.free 1
  have X2c2 : W3.cell? ⟨w.heap.size, 2, none⟩ = some (.slice As ns cs) := X2.cell 2
  have X2f2 : W3.frozen? ⟨w.heap.size, 2, none⟩ = false := X2.free 2
  have X2c3 : W3.cell? ⟨w.heap.size, 3, none⟩ = some (.slice Ah n ch) := X2.cell 3
  have X2f3 : W3.frozen? ⟨w.heap.size, 3, none⟩ = false := X2.free 3
  have X2c4 : W3.cell? ⟨w.heap.size, 4, none⟩ = some (.slice Af nf cf) := X2.cell 4
  have X2f4 : W3.frozen? ⟨w.heap.size, 4, none⟩ = false := X2.free 4
  have X2z : w.heap.size < W3.heap.size := X2.lt
  have X7c0 : W3.cell? ⟨D, 0, none⟩ = some (.slice Aq2 nq2 cq2) := X7.cell 0
  have X7c1 : W3.cell? ⟨D, 1, none⟩ = some (.slice Aa2 na2 ca2) := X7.cell 1
  have z7 := X7.lt
  go_upto_region 8 with fail
  clear X2c0 X2c1 X2c2 X2c3 X2c4 X2f0 X2f1 X2f2 X2f3 X2f4 X2z X7c0 X7c1 z7
  obtain ⟨HM2, -⟩ := HM1.set2 (SlBox.of X2 (by simp)) Aq2 Aa2 nq2 cq2 na2 ca2
  have X2 := (X2.set 0 (.slice Aq2 nq2 cq2)).set 1 (.slice Aa2 na2 ca2)
  have X4 := (X4.other (a := ⟨w.heap.size, 0, none⟩) (by simp <;> omega) (.slice Aq2 nq2 cq2)).other (a := ⟨w.heap.size, 1, none⟩) (by simp <;> omega) (.slice Aa2 na2 ca2)
  have hB := (hB.setCell (p := ⟨w.heap.size, 0, none⟩) (by simp) (.slice Aq2 nq2 cq2)).setCell (p := ⟨w.heap.size, 1, none⟩) (by simp) (.slice Aa2 na2 ca2)
  have hsz2 : D ≤ ((W3.setCell ⟨w.heap.size, 0, none⟩ (.slice Aq2 nq2 cq2)).setCell ⟨w.heap.size, 1, none⟩ (.slice Aa2 na2 ca2)).heap.size := by simp; exact hDz
  generalize (W3.setCell ⟨w.heap.size, 0, none⟩ (.slice Aq2 nq2 cq2)).setCell ⟨w.heap.size, 1, none⟩ (.slice Aa2 na2 ca2) = W4 at X2 X4 hB HM2 hsz2 ⊢
  simp only [List.set_cons_zero, List.set_cons_succ] at X2
  have X2c0 : W4.cell? ⟨w.heap.size, 0, none⟩ = some (.slice Aq2 nq2 cq2) := X2.cell 0
  have X2c1 : W4.cell? ⟨w.heap.size, 1, none⟩ = some (.slice Aa2 na2 ca2) := X2.cell 1
  have X2c2 : W4.cell? ⟨w.heap.size, 2, none⟩ = some (.slice As ns cs) := X2.cell 2
  have X2c3 : W4.cell? ⟨w.heap.size, 3, none⟩ = some (.slice Ah n ch) := X2.cell 3
  have X2c4 : W4.cell? ⟨w.heap.size, 4, none⟩ = some (.slice Af nf cf) := X2.cell 4
  have z1 := X2.lt
  have X4c0 : W4.cell? ⟨w.heap.size + 1, 0, none⟩ = some (.slice none 0 0) := X4.cell 0
  have X4f0 : W4.frozen? ⟨w.heap.size + 1, 0, none⟩ = false := X4.free 0
  have X4c1 : W4.cell? ⟨w.heap.size + 1, 1, none⟩ = some (.slice none 0 0) := X4.cell 1
  have X4f1 : W4.frozen? ⟨w.heap.size + 1, 1, none⟩ = false := X4.free 1
  have X4c2 : W4.cell? ⟨w.heap.size + 1, 2, none⟩ = some (.slice none 0 0) := X4.cell 2
  have X4f2 : W4.frozen? ⟨w.heap.size + 1, 2, none⟩ = false := X4.free 2
  have X4c3 : W4.cell? ⟨w.heap.size + 1, 3, none⟩ = some (.slice none 0 0) := X4.cell 3
  have X4f3 : W4.frozen? ⟨w.heap.size + 1, 3, none⟩ = false := X4.free 3
  have X4c4 : W4.cell? ⟨w.heap.size + 1, 4, none⟩ = some (.slice none 0 0) := X4.cell 4
  have X4f4 : W4.frozen? ⟨w.heap.size + 1, 4, none⟩ = false := X4.free 4
  have X4z : w.heap.size + 1 < W4.heap.size := X4.lt
  go_wp2
  have HM3 := HM2.set5 (SlBox.of X4 (by simp)) Aq2 Aa2 As Ah Af nq2 cq2 na2 ca2 ns cs n ch nf cf
  have Y4 := (((((X4.set 0 (.slice Aq2 nq2 cq2)).set 1 (.slice Aa2 na2 ca2)).set 2 (.slice As ns cs)).set 3 (.slice Ah n ch)).set 4 (.slice Af nf cf))
  have hB := (((((hB.setCell (p := ⟨w.heap.size + 1, 0, none⟩) (by simp <;> omega) (.slice Aq2 nq2 cq2)).setCell (p := ⟨w.heap.size + 1, 1, none⟩) (by simp <;> omega) (.slice Aa2 na2 ca2)).setCell (p := ⟨w.heap.size + 1, 2, none⟩) (by simp <;> omega) (.slice As ns cs)).setCell (p := ⟨w.heap.size + 1, 3, none⟩) (by simp <;> omega) (.slice Ah n ch)).setCell (p := ⟨w.heap.size + 1, 4, none⟩) (by simp <;> omega) (.slice Af nf cf))
  have hsz3 : D ≤ (((((W4.setCell ⟨w.heap.size + 1, 0, none⟩ (.slice Aq2 nq2 cq2)).setCell ⟨w.heap.size + 1, 1, none⟩ (.slice Aa2 na2 ca2)).setCell ⟨w.heap.size + 1, 2, none⟩ (.slice As ns cs)).setCell ⟨w.heap.size + 1, 3, none⟩ (.slice Ah n ch)).setCell ⟨w.heap.size + 1, 4, none⟩ (.slice Af nf cf)).heap.size := by simp; exact hsz2
  clear X2c0 X2c1 X2c2 X2c3 X2c4 X4c0 X4c1 X4c2 X4c3 X4c4 X4f0 X4f1 X4f2 X4f3 X4f4 X4z
  generalize (((((W4.setCell ⟨w.heap.size + 1, 0, none⟩ (.slice Aq2 nq2 cq2)).setCell ⟨w.heap.size + 1, 1, none⟩ (.slice Aa2 na2 ca2)).setCell ⟨w.heap.size + 1, 2, none⟩ (.slice As ns cs)).setCell ⟨w.heap.size + 1, 3, none⟩ (.slice Ah n ch)).setCell ⟨w.heap.size + 1, 4, none⟩ (.slice Af nf cf)) = W6 at Y4 hB HM3 hsz3 ⊢
  simp only [List.set_cons_zero, List.set_cons_succ] at Y4
  have Y4c0 : W6.cell? ⟨w.heap.size + 1, 0, none⟩ = some (.slice Aq2 nq2 cq2) := Y4.cell 0
  have Y4c1 : W6.cell? ⟨w.heap.size + 1, 1, none⟩ = some (.slice Aa2 na2 ca2) := Y4.cell 1
  have Y4c2 : W6.cell? ⟨w.heap.size + 1, 2, none⟩ = some (.slice As ns cs) := Y4.cell 2
  have Y4c3 : W6.cell? ⟨w.heap.size + 1, 3, none⟩ = some (.slice Ah n ch) := Y4.cell 3
  have Y4c4 : W6.cell? ⟨w.heap.size + 1, 4, none⟩ = some (.slice Af nf cf) := Y4.cell 4
  have hX := hx.out.later hB
  refine bodyPost_ret (v := .tuple #[.agg #[.slice Aq2 nq2 cq2, .slice Aa2 na2 ca2, .slice As ns cs, .slice Ah n ch, .slice Af nf cf], .int .i64 0]) (by simp [results, Try.results44, go_sem, Y4c0, Y4c1, Y4c2, Y4c3, Y4c4]) rfl ?_
  exact ⟨_, _, _, _, _, rfl, ⟨HM3.more hsz3, hX.sent, hX.heard, hX.fresh⟩, hB⟩
set_option maxRecDepth 100000 in
set_option maxHeartbeats 4000000 in
theorem oDoRepeat_any (b : Bx) (i : Int) (Aq Aa As Ah Af : Option Addr) (nq cq na ca ns cs n ch nf cf : Nat) (w : World) (hx : Hid (BxAt w w.heap.size (.slice Aq nq cq) (.slice Aa na ca) (.slice As ns cs) (.slice Ah n ch) (.slice Af nf cf) b)) {T : Bx × Int} (hT : Hid (b.repeatT i = T)) :
    Calls Try.prog 44 #[.agg #[.slice Aq nq cq, .slice Aa na ca, .slice As ns cs, .slice Ah n ch, .slice Af nf cf], .int .i64 i, .func (.func 45) #[] #[]] w (RetBx T.1 #[.int .i64 T.2] w) := by
  go_enter Try.func44, Try.ntmps44
  have hB := ((Below.refl w.heap.size w).alloc (Nat.le_refl _) (.cells #[.slice Aq nq cq, .slice Aa na ca, .slice As ns cs, .slice Ah n ch, .slice Af nf cf] 30)).alloc (by simp) (.cells #[.slice none 0 0, .slice none 0 0, .slice none 0 0, .slice none 0 0, .slice none 0 0] 30)
  have X2 := (Box.new w [.slice Aq nq cq, .slice Aa na ca, .slice As ns cs, .slice Ah n ch, .slice Af nf cf] 30).alloc (.cells #[.slice none 0 0, .slice none 0 0, .slice none 0 0, .slice none 0 0, .slice none 0 0] 30)
  have X4 := Box.newAt (w := w.alloc (.cells #[.slice Aq nq cq, .slice Aa na ca, .slice As ns cs, .slice Ah n ch, .slice Af nf cf] 30)) (n := w.heap.size + 1) [.slice none 0 0, .slice none 0 0, .slice none 0 0, .slice none 0 0, .slice none 0 0] 30 (by simp)
  go_upto_region 1 with fail
  generalize (w.alloc (.cells #[.slice Aq nq cq, .slice Aa na ca, .slice As ns cs, .slice Ah n ch, .slice Af nf cf] 30)).alloc (.cells #[.slice none 0 0, .slice none 0 0, .slice none 0 0, .slice none 0 0, .slice none 0 0] 30) = w1 at hB X2 X4 ⊢
  have z1 := X2.lt
  have X2c0 : w1.cell? ⟨w.heap.size, 0, none⟩ = some (.slice Aq nq cq) := X2.cell 0
  have X2c1 : w1.cell? ⟨w.heap.size, 1, none⟩ = some (.slice Aa na ca) := X2.cell 1
  have X2c2 : w1.cell? ⟨w.heap.size, 2, none⟩ = some (.slice As ns cs) := X2.cell 2
  have X2c3 : w1.cell? ⟨w.heap.size, 3, none⟩ = some (.slice Ah n ch) := X2.cell 3
  have X2c4 : w1.cell? ⟨w.heap.size, 4, none⟩ = some (.slice Af nf cf) := X2.cell 4
  obtain ⟨c, hc⟩ : ∃ c, Hid (b.checkT = c) := ⟨_, Lib.hid rfl⟩
  go_wp2_with fail
  refine (oCheck_is hc (hx.out.later hB)).mono ?_
  rintro e w2 ⟨rfl, hb⟩
  have hB := hB.trans (hb.mono hB.size)
  have X2 := X2.later hb
  have X4 := X4.later hb
  clear hb z1 X2c0 X2c1 X2c2 X2c3 X2c4
  by_cases h0 : c = 0
  rotate_left
  · have d0 : (c != 0) = true := by simp [h0]
    obtain rfl : T = (Bx.zero, c) := by rw [← hT.out]; exact do_bad hc.out h0
    have X4c0 : w2.cell? ⟨w.heap.size + 1, 0, none⟩ = some (.slice none 0 0) := X4.cell 0
    have X4f0 : w2.frozen? ⟨w.heap.size + 1, 0, none⟩ = false := X4.free 0
    have X4c1 : w2.cell? ⟨w.heap.size + 1, 1, none⟩ = some (.slice none 0 0) := X4.cell 1
    have X4f1 : w2.frozen? ⟨w.heap.size + 1, 1, none⟩ = false := X4.free 1
    have X4c2 : w2.cell? ⟨w.heap.size + 1, 2, none⟩ = some (.slice none 0 0) := X4.cell 2
    have X4f2 : w2.frozen? ⟨w.heap.size + 1, 2, none⟩ = false := X4.free 2
    have X4c3 : w2.cell? ⟨w.heap.size + 1, 3, none⟩ = some (.slice none 0 0) := X4.cell 3
    have X4f3 : w2.frozen? ⟨w.heap.size + 1, 3, none⟩ = false := X4.free 3
    have X4c4 : w2.cell? ⟨w.heap.size + 1, 4, none⟩ = some (.slice none 0 0) := X4.cell 4
    have X4f4 : w2.frozen? ⟨w.heap.size + 1, 4, none⟩ = false := X4.free 4
    have X4z : w.heap.size + 1 < w2.heap.size := X4.lt
    have Y4 := (((((X4.set 0 (.slice none 0 0)).set 1 (.slice none 0 0)).set 2 (.slice none 0 0)).set 3 (.slice none 0 0)).set 4 (.slice none 0 0))
    have hB2 := (((((hB.setCell (p := ⟨w.heap.size + 1, 0, none⟩) (by simp <;> omega) (.slice none 0 0)).setCell (p := ⟨w.heap.size + 1, 1, none⟩) (by simp <;> omega) (.slice none 0 0)).setCell (p := ⟨w.heap.size + 1, 2, none⟩) (by simp <;> omega) (.slice none 0 0)).setCell (p := ⟨w.heap.size + 1, 3, none⟩) (by simp <;> omega) (.slice none 0 0)).setCell (p := ⟨w.heap.size + 1, 4, none⟩) (by simp <;> omega) (.slice none 0 0))
    go_wp2
    clear X4c0 X4c1 X4c2 X4c3 X4c4 X4f0 X4f1 X4f2 X4f3 X4f4 X4z
    generalize (((((w2.setCell ⟨w.heap.size + 1, 0, none⟩ (.slice none 0 0)).setCell ⟨w.heap.size + 1, 1, none⟩ (.slice none 0 0)).setCell ⟨w.heap.size + 1, 2, none⟩ (.slice none 0 0)).setCell ⟨w.heap.size + 1, 3, none⟩ (.slice none 0 0)).setCell ⟨w.heap.size + 1, 4, none⟩ (.slice none 0 0)) = W8 at Y4 hB2 ⊢
    simp only [List.set_cons_zero, List.set_cons_succ] at Y4
    have Y4c0 : W8.cell? ⟨w.heap.size + 1, 0, none⟩ = some (.slice none 0 0) := Y4.cell 0
    have Y4c1 : W8.cell? ⟨w.heap.size + 1, 1, none⟩ = some (.slice none 0 0) := Y4.cell 1
    have Y4c2 : W8.cell? ⟨w.heap.size + 1, 2, none⟩ = some (.slice none 0 0) := Y4.cell 2
    have Y4c3 : W8.cell? ⟨w.heap.size + 1, 3, none⟩ = some (.slice none 0 0) := Y4.cell 3
    have Y4c4 : W8.cell? ⟨w.heap.size + 1, 4, none⟩ = some (.slice none 0 0) := Y4.cell 4
    refine bodyPost_ret (v := .tuple #[.agg #[.slice none 0 0, .slice none 0 0, .slice none 0 0, .slice none 0 0, .slice none 0 0], .int .i64 c]) (by simp [results, Try.results44, go_sem, Y4c0, Y4c1, Y4c2, Y4c3, Y4c4]) rfl ?_
    exact ⟨_, _, _, _, _, rfl, bxAt_zero _ _, hB2⟩
  subst h0
  have HOK := Lib.hid (check_ok hc.out)
  have z1 := X2.lt
  have X2c0 : w2.cell? ⟨w.heap.size, 0, none⟩ = some (.slice Aq nq cq) := X2.cell 0
  have X2c1 : w2.cell? ⟨w.heap.size, 1, none⟩ = some (.slice Aa na ca) := X2.cell 1
  have X2c2 : w2.cell? ⟨w.heap.size, 2, none⟩ = some (.slice As ns cs) := X2.cell 2
  have X2c3 : w2.cell? ⟨w.heap.size, 3, none⟩ = some (.slice Ah n ch) := X2.cell 3
  have X2c4 : w2.cell? ⟨w.heap.size, 4, none⟩ = some (.slice Af nf cf) := X2.cell 4
  have HN := Lib.hid (hx.out.net.later hB)
  go_wp2_with fail
  refine (qRepeat_any b.net i _ _ _ _ _ _ _ HN).mono ?_
  rintro e w3 ⟨Aq2, nq2, cq2, Aa2, na2, ca2, m, er, rfl, hT2, HM, hb⟩
  have hB := hB.trans (hb.mono hB.size)
  have X2 := X2.later hb
  have X4 := X4.later hb
  clear hb z1 X2c0 X2c1 X2c2 X2c3 X2c4 HN
  go_upto_region 5 with fail
  have X7 := Box.new w3 [.slice Aq2 nq2 cq2, .slice Aa2 na2 ca2] 25
  have hal := (Below.refl w3.heap.size w3).alloc (Nat.le_refl _) (.cells #[.slice Aq2 nq2 cq2, .slice Aa2 na2 ca2] 25)
  have z2 := X2.lt
  have z4 := X4.lt
  have X2 := X2.later hal
  have X4 := X4.later hal
  have hB := hB.trans (hal.mono hB.size)
  have HM1 := HM.out.below hal
  have hDz := hal.size
  clear hal HM
  generalize w3.alloc (.cells #[.slice Aq2 nq2 cq2, .slice Aa2 na2 ca2] 25) = W3 at X7 X2 X4 hB HM1 hDz ⊢
  generalize w3.heap.size = D at X7 HM1 hDz z2 z4 ⊢
  have hsn := do_net (b := b) (m := m) (er := er) HOK.out hT2.out
  by_cases he : er = 0
  rotate_left
  · have d6 : (er != 0) = true := by simp [he]
    obtain rfl : T = (Bx.zero, er) := by rw [← hT.out]; exact hsn.trans (if_neg he)
    have X4c0 : W3.cell? ⟨w.heap.size + 1, 0, none⟩ = some (.slice none 0 0) := X4.cell 0
    have X4f0 : W3.frozen? ⟨w.heap.size + 1, 0, none⟩ = false := X4.free 0
    have X4c1 : W3.cell? ⟨w.heap.size + 1, 1, none⟩ = some (.slice none 0 0) := X4.cell 1
    have X4f1 : W3.frozen? ⟨w.heap.size + 1, 1, none⟩ = false := X4.free 1
    have X4c2 : W3.cell? ⟨w.heap.size + 1, 2, none⟩ = some (.slice none 0 0) := X4.cell 2
    have X4f2 : W3.frozen? ⟨w.heap.size + 1, 2, none⟩ = false := X4.free 2
    have X4c3 : W3.cell? ⟨w.heap.size + 1, 3, none⟩ = some (.slice none 0 0) := X4.cell 3
    have X4f3 : W3.frozen? ⟨w.heap.size + 1, 3, none⟩ = false := X4.free 3
    have X4c4 : W3.cell? ⟨w.heap.size + 1, 4, none⟩ = some (.slice none 0 0) := X4.cell 4
    have X4f4 : W3.frozen? ⟨w.heap.size + 1, 4, none⟩ = false := X4.free 4
    have X4z : w.heap.size + 1 < W3.heap.size := X4.lt
    have Y4 := (((((X4.set 0 (.slice none 0 0)).set 1 (.slice none 0 0)).set 2 (.slice none 0 0)).set 3 (.slice none 0 0)).set 4 (.slice none 0 0))
    have hB2 := (((((hB.setCell (p := ⟨w.heap.size + 1, 0, none⟩) (by simp <;> omega) (.slice none 0 0)).setCell (p := ⟨w.heap.size + 1, 1, none⟩) (by simp <;> omega) (.slice none 0 0)).setCell (p := ⟨w.heap.size + 1, 2, none⟩) (by simp <;> omega) (.slice none 0 0)).setCell (p := ⟨w.heap.size + 1, 3, none⟩) (by simp <;> omega) (.slice none 0 0)).setCell (p := ⟨w.heap.size + 1, 4, none⟩) (by simp <;> omega) (.slice none 0 0))
    go_wp2
    clear X4c0 X4c1 X4c2 X4c3 X4c4 X4f0 X4f1 X4f2 X4f3 X4f4 X4z
    generalize (((((W3.setCell ⟨w.heap.size + 1, 0, none⟩ (.slice none 0 0)).setCell ⟨w.heap.size + 1, 1, none⟩ (.slice none 0 0)).setCell ⟨w.heap.size + 1, 2, none⟩ (.slice none 0 0)).setCell ⟨w.heap.size + 1, 3, none⟩ (.slice none 0 0)).setCell ⟨w.heap.size + 1, 4, none⟩ (.slice none 0 0)) = W8 at Y4 hB2 ⊢
    simp only [List.set_cons_zero, List.set_cons_succ] at Y4
    have Y4c0 : W8.cell? ⟨w.heap.size + 1, 0, none⟩ = some (.slice none 0 0) := Y4.cell 0
    have Y4c1 : W8.cell? ⟨w.heap.size + 1, 1, none⟩ = some (.slice none 0 0) := Y4.cell 1
    have Y4c2 : W8.cell? ⟨w.heap.size + 1, 2, none⟩ = some (.slice none 0 0) := Y4.cell 2
    have Y4c3 : W8.cell? ⟨w.heap.size + 1, 3, none⟩ = some (.slice none 0 0) := Y4.cell 3
    have Y4c4 : W8.cell? ⟨w.heap.size + 1, 4, none⟩ = some (.slice none 0 0) := Y4.cell 4
    refine bodyPost_ret (v := .tuple #[.agg #[.slice none 0 0, .slice none 0 0, .slice none 0 0, .slice none 0 0, .slice none 0 0], .int .i64 er]) (by simp [results, Try.results44, go_sem, Y4c0, Y4c1, Y4c2, Y4c3, Y4c4]) rfl ?_
    exact ⟨_, _, _, _, _, rfl, bxAt_zero _ _, hB2⟩
  subst he
  obtain rfl : T = (⟨m, b.sent, b.heard, b.fresh⟩, 0) := by rw [← hT.out]; exact hsn.trans (if_pos rfl)
  clear hsn
  have X2c0 : W3.cell? ⟨w.heap.size, 0, none⟩ = some (.slice Aq nq cq) := X2.cell 0
  have X2f0 : W3.frozen? ⟨w.heap.size, 0, none⟩ = false := X2.free 0
  have X2c1 : W3.cell? ⟨w.heap.size, 1, none⟩ = some (.slice Aa na ca) := X2.cell 1
  have X2f1 : W3.frozen? ⟨w.heap.size, 1, none⟩ = false := X2.free 1
  have X2c2 : W3.cell? ⟨w.heap.size, 2, none⟩ = some (.slice As ns cs) := X2.cell 2
  have X2f2 : W3.frozen? ⟨w.heap.size, 2, none⟩ = false := X2.free 2
  have X2c3 : W3.cell? ⟨w.heap.size, 3, none⟩ = some (.slice Ah n ch) := X2.cell 3
  have X2f3 : W3.frozen? ⟨w.heap.size, 3, none⟩ = false := X2.free 3
  have X2c4 : W3.cell? ⟨w.heap.size, 4, none⟩ = some (.slice Af nf cf) := X2.cell 4
  have X2f4 : W3.frozen? ⟨w.heap.size, 4, none⟩ = false := X2.free 4
  have X2z : w.heap.size < W3.heap.size := X2.lt
  have X7c0 : W3.cell? ⟨D, 0, none⟩ = some (.slice Aq2 nq2 cq2) := X7.cell 0
  have X7c1 : W3.cell? ⟨D, 1, none⟩ = some (.slice Aa2 na2 ca2) := X7.cell 1
  have z7 := X7.lt
  go_upto_region 8 with fail
  clear X2c0 X2c1 X2c2 X2c3 X2c4 X2f0 X2f1 X2f2 X2f3 X2f4 X2z X7c0 X7c1 z7
  obtain ⟨HM2, -⟩ := HM1.set2 (SlBox.of X2 (by simp)) Aq2 Aa2 nq2 cq2 na2 ca2
  have X2 := (X2.set 0 (.slice Aq2 nq2 cq2)).set 1 (.slice Aa2 na2 ca2)
  have X4 := (X4.other (a := ⟨w.heap.size, 0, none⟩) (by simp <;> omega) (.slice Aq2 nq2 cq2)).other (a := ⟨w.heap.size, 1, none⟩) (by simp <;> omega) (.slice Aa2 na2 ca2)
  have hB := (hB.setCell (p := ⟨w.heap.size, 0, none⟩) (by simp) (.slice Aq2 nq2 cq2)).setCell (p := ⟨w.heap.size, 1, none⟩) (by simp) (.slice Aa2 na2 ca2)
  have hsz2 : D ≤ ((W3.setCell ⟨w.heap.size, 0, none⟩ (.slice Aq2 nq2 cq2)).setCell ⟨w.heap.size, 1, none⟩ (.slice Aa2 na2 ca2)).heap.size := by simp; exact hDz
  generalize (W3.setCell ⟨w.heap.size, 0, none⟩ (.slice Aq2 nq2 cq2)).setCell ⟨w.heap.size, 1, none⟩ (.slice Aa2 na2 ca2) = W4 at X2 X4 hB HM2 hsz2 ⊢
  simp only [List.set_cons_zero, List.set_cons_succ] at X2
  have X2c0 : W4.cell? ⟨w.heap.size, 0, none⟩ = some (.slice Aq2 nq2 cq2) := X2.cell 0
  have X2c1 : W4.cell? ⟨w.heap.size, 1, none⟩ = some (.slice Aa2 na2 ca2) := X2.cell 1
  have X2c2 : W4.cell? ⟨w.heap.size, 2, none⟩ = some (.slice As ns cs) := X2.cell 2
  have X2c3 : W4.cell? ⟨w.heap.size, 3, none⟩ = some (.slice Ah n ch) := X2.cell 3
  have X2c4 : W4.cell? ⟨w.heap.size, 4, none⟩ = some (.slice Af nf cf) := X2.cell 4
  have z1 := X2.lt
  have X4c0 : W4.cell? ⟨w.heap.size + 1, 0, none⟩ = some (.slice none 0 0) := X4.cell 0
  have X4f0 : W4.frozen? ⟨w.heap.size + 1, 0, none⟩ = false := X4.free 0
  have X4c1 : W4.cell? ⟨w.heap.size + 1, 1, none⟩ = some (.slice none 0 0) := X4.cell 1
  have X4f1 : W4.frozen? ⟨w.heap.size + 1, 1, none⟩ = false := X4.free 1
  have X4c2 : W4.cell? ⟨w.heap.size + 1, 2, none⟩ = some (.slice none 0 0) := X4.cell 2
  have X4f2 : W4.frozen? ⟨w.heap.size + 1, 2, none⟩ = false := X4.free 2
  have X4c3 : W4.cell? ⟨w.heap.size + 1, 3, none⟩ = some (.slice none 0 0) := X4.cell 3
  have X4f3 : W4.frozen? ⟨w.heap.size + 1, 3, none⟩ = false := X4.free 3
  have X4c4 : W4.cell? ⟨w.heap.size + 1, 4, none⟩ = some (.slice none 0 0) := X4.cell 4
  have X4f4 : W4.frozen? ⟨w.heap.size + 1, 4, none⟩ = false := X4.free 4
  have X4z : w.heap.size + 1 < W4.heap.size := X4.lt
  go_wp2
  have HM3 := HM2.set5 (SlBox.of X4 (by simp)) Aq2 Aa2 As Ah Af nq2 cq2 na2 ca2 ns cs n ch nf cf
  have Y4 := (((((X4.set 0 (.slice Aq2 nq2 cq2)).set 1 (.slice Aa2 na2 ca2)).set 2 (.slice As ns cs)).set 3 (.slice Ah n ch)).set 4 (.slice Af nf cf))
  have hB := (((((hB.setCell (p := ⟨w.heap.size + 1, 0, none⟩) (by simp <;> omega) (.slice Aq2 nq2 cq2)).setCell (p := ⟨w.heap.size + 1, 1, none⟩) (by simp <;> omega) (.slice Aa2 na2 ca2)).setCell (p := ⟨w.heap.size + 1, 2, none⟩) (by simp <;> omega) (.slice As ns cs)).setCell (p := ⟨w.heap.size + 1, 3, none⟩) (by simp <;> omega) (.slice Ah n ch)).setCell (p := ⟨w.heap.size + 1, 4, none⟩) (by simp <;> omega) (.slice Af nf cf))
  have hsz3 : D ≤ (((((W4.setCell ⟨w.heap.size + 1, 0, none⟩ (.slice Aq2 nq2 cq2)).setCell ⟨w.heap.size + 1, 1, none⟩ (.slice Aa2 na2 ca2)).setCell ⟨w.heap.size + 1, 2, none⟩ (.slice As ns cs)).setCell ⟨w.heap.size + 1, 3, none⟩ (.slice Ah n ch)).setCell ⟨w.heap.size + 1, 4, none⟩ (.slice Af nf cf)).heap.size := by simp; exact hsz2
  clear X2c0 X2c1 X2c2 X2c3 X2c4 X4c0 X4c1 X4c2 X4c3 X4c4 X4f0 X4f1 X4f2 X4f3 X4f4 X4z
  generalize (((((W4.setCell ⟨w.heap.size + 1, 0, none⟩ (.slice Aq2 nq2 cq2)).setCell ⟨w.heap.size + 1, 1, none⟩ (.slice Aa2 na2 ca2)).setCell ⟨w.heap.size + 1, 2, none⟩ (.slice As ns cs)).setCell ⟨w.heap.size + 1, 3, none⟩ (.slice Ah n ch)).setCell ⟨w.heap.size + 1, 4, none⟩ (.slice Af nf cf)) = W6 at Y4 hB HM3 hsz3 ⊢
  simp only [List.set_cons_zero, List.set_cons_succ] at Y4
  have Y4c0 : W6.cell? ⟨w.heap.size + 1, 0, none⟩ = some (.slice Aq2 nq2 cq2) := Y4.cell 0
  have Y4c1 : W6.cell? ⟨w.heap.size + 1, 1, none⟩ = some (.slice Aa2 na2 ca2) := Y4.cell 1
  have Y4c2 : W6.cell? ⟨w.heap.size + 1, 2, none⟩ = some (.slice As ns cs) := Y4.cell 2
  have Y4c3 : W6.cell? ⟨w.heap.size + 1, 3, none⟩ = some (.slice Ah n ch) := Y4.cell 3
  have Y4c4 : W6.cell? ⟨w.heap.size + 1, 4, none⟩ = some (.slice Af nf cf) := Y4.cell 4
  have hX := hx.out.later hB
  refine bodyPost_ret (v := .tuple #[.agg #[.slice Aq2 nq2 cq2, .slice Aa2 na2 ca2, .slice As ns cs, .slice Ah n ch, .slice Af nf cf], .int .i64 0]) (by simp [results, Try.results44, go_sem, Y4c0, Y4c1, Y4c2, Y4c3, Y4c4]) rfl ?_
  exact ⟨_, _, _, _, _, rfl, ⟨HM3.more hsz3, hX.sent, hX.heard, hX.fresh⟩, hB⟩
set_option maxRecDepth 100000 in
set_option maxHeartbeats 4000000 in
theorem oLose_any (b : Bx) (i : Int) (Aq Aa As Ah Af : Option Addr) (nq cq na ca ns cs n ch nf cf : Nat) (w : World) (hx : Hid (BxAt w w.heap.size (.slice Aq nq cq) (.slice Aa na ca) (.slice As ns cs) (.slice Ah n ch) (.slice Af nf cf) b)) {T : Bx × Int} (hT : Hid (b.loseT i = T)) :
    Calls Try.prog 25 #[.agg #[.slice Aq nq cq, .slice Aa na ca, .slice As ns cs, .slice Ah n ch, .slice Af nf cf], .int .i64 i] w (RetBx T.1 #[.int .i64 T.2] w) := by
  go_enter Try.func25, Try.ntmps25
  have hB := ((Below.refl w.heap.size w).alloc (Nat.le_refl _) (.cells #[.slice Aq nq cq, .slice Aa na ca, .slice As ns cs, .slice Ah n ch, .slice Af nf cf] 30)).alloc (by simp) (.cells #[.slice none 0 0, .slice none 0 0, .slice none 0 0, .slice none 0 0, .slice none 0 0] 30)
  have X2 := (Box.new w [.slice Aq nq cq, .slice Aa na ca, .slice As ns cs, .slice Ah n ch, .slice Af nf cf] 30).alloc (.cells #[.slice none 0 0, .slice none 0 0, .slice none 0 0, .slice none 0 0, .slice none 0 0] 30)
  have X4 := Box.newAt (w := w.alloc (.cells #[.slice Aq nq cq, .slice Aa na ca, .slice As ns cs, .slice Ah n ch, .slice Af nf cf] 30)) (n := w.heap.size + 1) [.slice none 0 0, .slice none 0 0, .slice none 0 0, .slice none 0 0, .slice none 0 0] 30 (by simp)
  go_upto_region 1 with fail
  generalize (w.alloc (.cells #[.slice Aq nq cq, .slice Aa na ca, .slice As ns cs, .slice Ah n ch, .slice Af nf cf] 30)).alloc (.cells #[.slice none 0 0, .slice none 0 0, .slice none 0 0, .slice none 0 0, .slice none 0 0] 30) = w1 at hB X2 X4 ⊢
  have z1 := X2.lt
  have X2c0 : w1.cell? ⟨w.heap.size, 0, none⟩ = some (.slice Aq nq cq) := X2.cell 0
  have X2c1 : w1.cell? ⟨w.heap.size, 1, none⟩ = some (.slice Aa na ca) := X2.cell 1
  have X2c2 : w1.cell? ⟨w.heap.size, 2, none⟩ = some (.slice As ns cs) := X2.cell 2
  have X2c3 : w1.cell? ⟨w.heap.size, 3, none⟩ = some (.slice Ah n ch) := X2.cell 3
  have X2c4 : w1.cell? ⟨w.heap.size, 4, none⟩ = some (.slice Af nf cf) := X2.cell 4
  go_wp2_with fail
  refine (oDoLose_any b i _ _ _ _ _ _ _ _ _ _ _ _ _ _ _ _ (Lib.hid (hx.out.later hB)) hT).mono ?_
  rintro e w3 ⟨Vq, Va, Vs, Vh, Vf, rfl, hX, hb⟩
  obtain ⟨Aq2, nq2, cq2, Aa2, na2, ca2, As2, ns2, cs2, Ah2, n2, ch2, Af2, nf2, cf2, rfl, rfl, rfl, rfl, rfl⟩ := hX.forms5
  have hB := hB.trans (hb.mono hB.size)
  have X4 := X4.later hb
  clear hb z1 X2c0 X2c1 X2c2 X2c3 X2c4 X2
  have X4c0 : w3.cell? ⟨w.heap.size + 1, 0, none⟩ = some (.slice none 0 0) := X4.cell 0
  have X4f0 : w3.frozen? ⟨w.heap.size + 1, 0, none⟩ = false := X4.free 0
  have X4c1 : w3.cell? ⟨w.heap.size + 1, 1, none⟩ = some (.slice none 0 0) := X4.cell 1
  have X4f1 : w3.frozen? ⟨w.heap.size + 1, 1, none⟩ = false := X4.free 1
  have X4c2 : w3.cell? ⟨w.heap.size + 1, 2, none⟩ = some (.slice none 0 0) := X4.cell 2
  have X4f2 : w3.frozen? ⟨w.heap.size + 1, 2, none⟩ = false := X4.free 2
  have X4c3 : w3.cell? ⟨w.heap.size + 1, 3, none⟩ = some (.slice none 0 0) := X4.cell 3
  have X4f3 : w3.frozen? ⟨w.heap.size + 1, 3, none⟩ = false := X4.free 3
  have X4c4 : w3.cell? ⟨w.heap.size + 1, 4, none⟩ = some (.slice none 0 0) := X4.cell 4
  have X4f4 : w3.frozen? ⟨w.heap.size + 1, 4, none⟩ = false := X4.free 4
  have X4z : w.heap.size + 1 < w3.heap.size := X4.lt
  go_wp2
  have HX := hX.set5 (SlBox.of X4 (by simp)) Aq2 Aa2 As2 Ah2 Af2 nq2 cq2 na2 ca2 ns2 cs2 n2 ch2 nf2 cf2
  have Y4 := (((((X4.set 0 (.slice Aq2 nq2 cq2)).set 1 (.slice Aa2 na2 ca2)).set 2 (.slice As2 ns2 cs2)).set 3 (.slice Ah2 n2 ch2)).set 4 (.slice Af2 nf2 cf2))
  have hB := (((((hB.setCell (p := ⟨w.heap.size + 1, 0, none⟩) (by simp <;> omega) (.slice Aq2 nq2 cq2)).setCell (p := ⟨w.heap.size + 1, 1, none⟩) (by simp <;> omega) (.slice Aa2 na2 ca2)).setCell (p := ⟨w.heap.size + 1, 2, none⟩) (by simp <;> omega) (.slice As2 ns2 cs2)).setCell (p := ⟨w.heap.size + 1, 3, none⟩) (by simp <;> omega) (.slice Ah2 n2 ch2)).setCell (p := ⟨w.heap.size + 1, 4, none⟩) (by simp <;> omega) (.slice Af2 nf2 cf2))
  have hsz : w3.heap.size ≤ (((((w3.setCell ⟨w.heap.size + 1, 0, none⟩ (.slice Aq2 nq2 cq2)).setCell ⟨w.heap.size + 1, 1, none⟩ (.slice Aa2 na2 ca2)).setCell ⟨w.heap.size + 1, 2, none⟩ (.slice As2 ns2 cs2)).setCell ⟨w.heap.size + 1, 3, none⟩ (.slice Ah2 n2 ch2)).setCell ⟨w.heap.size + 1, 4, none⟩ (.slice Af2 nf2 cf2)).heap.size := by simp
  clear X4c0 X4c1 X4c2 X4c3 X4c4 X4f0 X4f1 X4f2 X4f3 X4f4 X4z
  generalize (((((w3.setCell ⟨w.heap.size + 1, 0, none⟩ (.slice Aq2 nq2 cq2)).setCell ⟨w.heap.size + 1, 1, none⟩ (.slice Aa2 na2 ca2)).setCell ⟨w.heap.size + 1, 2, none⟩ (.slice As2 ns2 cs2)).setCell ⟨w.heap.size + 1, 3, none⟩ (.slice Ah2 n2 ch2)).setCell ⟨w.heap.size + 1, 4, none⟩ (.slice Af2 nf2 cf2)) = W6 at Y4 hB HX hsz ⊢
  simp only [List.set_cons_zero, List.set_cons_succ] at Y4
  have Y4c0 : W6.cell? ⟨w.heap.size + 1, 0, none⟩ = some (.slice Aq2 nq2 cq2) := Y4.cell 0
  have Y4c1 : W6.cell? ⟨w.heap.size + 1, 1, none⟩ = some (.slice Aa2 na2 ca2) := Y4.cell 1
  have Y4c2 : W6.cell? ⟨w.heap.size + 1, 2, none⟩ = some (.slice As2 ns2 cs2) := Y4.cell 2
  have Y4c3 : W6.cell? ⟨w.heap.size + 1, 3, none⟩ = some (.slice Ah2 n2 ch2) := Y4.cell 3
  have Y4c4 : W6.cell? ⟨w.heap.size + 1, 4, none⟩ = some (.slice Af2 nf2 cf2) := Y4.cell 4
  refine bodyPost_ret (v := .tuple #[.agg #[.slice Aq2 nq2 cq2, .slice Aa2 na2 ca2, .slice As2 ns2 cs2, .slice Ah2 n2 ch2, .slice Af2 nf2 cf2], .int .i64 T.2]) (by simp [results, Try.results25, go_sem, Y4c0, Y4c1, Y4c2, Y4c3, Y4c4]) rfl ?_
  exact ⟨_, _, _, _, _, rfl, HX.more hsz, hB⟩
set_option maxRecDepth 100000 in
set_option maxHeartbeats 4000000 in
theorem oRepeat_any (b : Bx) (i : Int) (Aq Aa As Ah Af : Option Addr) (nq cq na ca ns cs n ch nf cf : Nat) (w : World) (hx : Hid (BxAt w w.heap.size (.slice Aq nq cq) (.slice Aa na ca) (.slice As ns cs) (.slice Ah n ch) (.slice Af nf cf) b)) {T : Bx × Int} (hT : Hid (b.repeatT i = T)) :
    Calls Try.prog 21 #[.agg #[.slice Aq nq cq, .slice Aa na ca, .slice As ns cs, .slice Ah n ch, .slice Af nf cf], .int .i64 i] w (RetBx T.1 #[.int .i64 T.2] w) := by
  go_enter Try.func21, Try.ntmps21
  have hB := ((Below.refl w.heap.size w).alloc (Nat.le_refl _) (.cells #[.slice Aq nq cq, .slice Aa na ca, .slice As ns cs, .slice Ah n ch, .slice Af nf cf] 30)).alloc (by simp) (.cells #[.slice none 0 0, .slice none 0 0, .slice none 0 0, .slice none 0 0, .slice none 0 0] 30)
  have X2 := (Box.new w [.slice Aq nq cq, .slice Aa na ca, .slice As ns cs, .slice Ah n ch, .slice Af nf cf] 30).alloc (.cells #[.slice none 0 0, .slice none 0 0, .slice none 0 0, .slice none 0 0, .slice none 0 0] 30)
  have X4 := Box.newAt (w := w.alloc (.cells #[.slice Aq nq cq, .slice Aa na ca, .slice As ns cs, .slice Ah n ch, .slice Af nf cf] 30)) (n := w.heap.size + 1) [.slice none 0 0, .slice none 0 0, .slice none 0 0, .slice none 0 0, .slice none 0 0] 30 (by simp)
  go_upto_region 1 with fail
  generalize (w.alloc (.cells #[.slice Aq nq cq, .slice Aa na ca, .slice As ns cs, .slice Ah n ch, .slice Af nf cf] 30)).alloc (.cells #[.slice none 0 0, .slice none 0 0, .slice none 0 0, .slice none 0 0, .slice none 0 0] 30) = w1 at hB X2 X4 ⊢
  have z1 := X2.lt
  have X2c0 : w1.cell? ⟨w.heap.size, 0, none⟩ = some (.slice Aq nq cq) := X2.cell 0
  have X2c1 : w1.cell? ⟨w.heap.size, 1, none⟩ = some (.slice Aa na ca) := X2.cell 1
  have X2c2 : w1.cell? ⟨w.heap.size, 2, none⟩ = some (.slice As ns cs) := X2.cell 2
  have X2c3 : w1.cell? ⟨w.heap.size, 3, none⟩ = some (.slice Ah n ch) := X2.cell 3
  have X2c4 : w1.cell? ⟨w.heap.size, 4, none⟩ = some (.slice Af nf cf) := X2.cell 4
  go_wp2_with fail
  refine (oDoRepeat_any b i _ _ _ _ _ _ _ _ _ _ _ _ _ _ _ _ (Lib.hid (hx.out.later hB)) hT).mono ?_
  rintro e w3 ⟨Vq, Va, Vs, Vh, Vf, rfl, hX, hb⟩
  obtain ⟨Aq2, nq2, cq2, Aa2, na2, ca2, As2, ns2, cs2, Ah2, n2, ch2, Af2, nf2, cf2, rfl, rfl, rfl, rfl, rfl⟩ := hX.forms5
  have hB := hB.trans (hb.mono hB.size)
  have X4 := X4.later hb
  clear hb z1 X2c0 X2c1 X2c2 X2c3 X2c4 X2
  have X4c0 : w3.cell? ⟨w.heap.size + 1, 0, none⟩ = some (.slice none 0 0) := X4.cell 0
  have X4f0 : w3.frozen? ⟨w.heap.size + 1, 0, none⟩ = false := X4.free 0
  have X4c1 : w3.cell? ⟨w.heap.size + 1, 1, none⟩ = some (.slice none 0 0) := X4.cell 1
  have X4f1 : w3.frozen? ⟨w.heap.size + 1, 1, none⟩ = false := X4.free 1
  have X4c2 : w3.cell? ⟨w.heap.size + 1, 2, none⟩ = some (.slice none 0 0) := X4.cell 2
  have X4f2 : w3.frozen? ⟨w.heap.size + 1, 2, none⟩ = false := X4.free 2
  have X4c3 : w3.cell? ⟨w.heap.size + 1, 3, none⟩ = some (.slice none 0 0) := X4.cell 3
  have X4f3 : w3.frozen? ⟨w.heap.size + 1, 3, none⟩ = false := X4.free 3
  have X4c4 : w3.cell? ⟨w.heap.size + 1, 4, none⟩ = some (.slice none 0 0) := X4.cell 4
  have X4f4 : w3.frozen? ⟨w.heap.size + 1, 4, none⟩ = false := X4.free 4
  have X4z : w.heap.size + 1 < w3.heap.size := X4.lt
  go_wp2
  have HX := hX.set5 (SlBox.of X4 (by simp)) Aq2 Aa2 As2 Ah2 Af2 nq2 cq2 na2 ca2 ns2 cs2 n2 ch2 nf2 cf2
  have Y4 := (((((X4.set 0 (.slice Aq2 nq2 cq2)).set 1 (.slice Aa2 na2 ca2)).set 2 (.slice As2 ns2 cs2)).set 3 (.slice Ah2 n2 ch2)).set 4 (.slice Af2 nf2 cf2))
  have hB := (((((hB.setCell (p := ⟨w.heap.size + 1, 0, none⟩) (by simp <;> omega) (.slice Aq2 nq2 cq2)).setCell (p := ⟨w.heap.size + 1, 1, none⟩) (by simp <;> omega) (.slice Aa2 na2 ca2)).setCell (p := ⟨w.heap.size + 1, 2, none⟩) (by simp <;> omega) (.slice As2 ns2 cs2)).setCell (p := ⟨w.heap.size + 1, 3, none⟩) (by simp <;> omega) (.slice Ah2 n2 ch2)).setCell (p := ⟨w.heap.size + 1, 4, none⟩) (by simp <;> omega) (.slice Af2 nf2 cf2))
  have hsz : w3.heap.size ≤ (((((w3.setCell ⟨w.heap.size + 1, 0, none⟩ (.slice Aq2 nq2 cq2)).setCell ⟨w.heap.size + 1, 1, none⟩ (.slice Aa2 na2 ca2)).setCell ⟨w.heap.size + 1, 2, none⟩ (.slice As2 ns2 cs2)).setCell ⟨w.heap.size + 1, 3, none⟩ (.slice Ah2 n2 ch2)).setCell ⟨w.heap.size + 1, 4, none⟩ (.slice Af2 nf2 cf2)).heap.size := by simp
  clear X4c0 X4c1 X4c2 X4c3 X4c4 X4f0 X4f1 X4f2 X4f3 X4f4 X4z
  generalize (((((w3.setCell ⟨w.heap.size + 1, 0, none⟩ (.slice Aq2 nq2 cq2)).setCell ⟨w.heap.size + 1, 1, none⟩ (.slice Aa2 na2 ca2)).setCell ⟨w.heap.size + 1, 2, none⟩ (.slice As2 ns2 cs2)).setCell ⟨w.heap.size + 1, 3, none⟩ (.slice Ah2 n2 ch2)).setCell ⟨w.heap.size + 1, 4, none⟩ (.slice Af2 nf2 cf2)) = W6 at Y4 hB HX hsz ⊢
  simp only [List.set_cons_zero, List.set_cons_succ] at Y4
  have Y4c0 : W6.cell? ⟨w.heap.size + 1, 0, none⟩ = some (.slice Aq2 nq2 cq2) := Y4.cell 0
  have Y4c1 : W6.cell? ⟨w.heap.size + 1, 1, none⟩ = some (.slice Aa2 na2 ca2) := Y4.cell 1
  have Y4c2 : W6.cell? ⟨w.heap.size + 1, 2, none⟩ = some (.slice As2 ns2 cs2) := Y4.cell 2
  have Y4c3 : W6.cell? ⟨w.heap.size + 1, 3, none⟩ = some (.slice Ah2 n2 ch2) := Y4.cell 3
  have Y4c4 : W6.cell? ⟨w.heap.size + 1, 4, none⟩ = some (.slice Af2 nf2 cf2) := Y4.cell 4
  refine bodyPost_ret (v := .tuple #[.agg #[.slice Aq2 nq2 cq2, .slice Aa2 na2 ca2, .slice As2 ns2 cs2, .slice Ah2 n2 ch2, .slice Af2 nf2 cf2], .int .i64 T.2]) (by simp [results, Try.results21, go_sem, Y4c0, Y4c1, Y4c2, Y4c3, Y4c4]) rfl ?_
  exact ⟨_, _, _, _, _, rfl, HX.more hsz, hB⟩
end Go.Proofs.Ytmbifmmkccghfaa

/-
  hear. (Printed by gen_ro.py and pp.py.) No condition.
-/
namespace Go.Proofs.Ytmbifmmkccghfaa
open Go.RowKit Go.Shelf
attribute [local go_sem] Oper.semAt_some
attribute [local go_sem ↓ high] app_named cop_named

theorem copy_row1 {α : Type} (enc : α → Value) (h1 : ∀ x, (enc x).oneCell' = true) {t e : TypeId} (ht : Try.prog.underlying t = some (.slice e)) (hs : (Try.prog.info? e).map (·.size) = some 1) (ty : TypeId) {w : World} {g n c : Nat} {A : Option Addr} {l : List α} {d : α} {xs : List Value} (hl : l.length = n)
    (hx : Sl w w.heap.size 1 n (fun i _ => enc (l.getD i d)) (.slice A n c)) (X : Box w g xs) (hxs : xs.length = n) :
    ∃ w', (copF #[t, t] ty #[.slice (some ⟨g, 0, none⟩) n n, .slice A n c]).run Try.prog w = .ok (.int .i64 (n : Int)) w' ∧ Box w' g (l.map enc) ∧ (∀ b ys, b ≠ g → Box w b ys → Box w' b ys) ∧ Below g w w' := by
  have hmin : Nat.min n n = n := Nat.min_self n
  unfold copF
  rcases Nat.eq_zero_or_pos n with h0 | h0
  · subst h0
    obtain rfl : l = [] := List.eq_nil_of_length_eq_zero hl
    obtain rfl : xs = [] := List.eq_nil_of_length_eq_zero hxs
    exact ⟨w, run_copy_noneS w _ _ ty e _ _ _ _ _ _ ht (by rw [hs]; rfl) hmin, X, fun _ _ _ h => h, Below.refl _ _⟩
  · obtain ⟨ab, ao, rfl, _, _⟩ := hx.one h0
    obtain ⟨tt, ht2⟩ := X
    have hr := run_copy_rowS w t t ty e g n n ⟨ab, ao, none⟩ n c 1 _ tt (l.map enc) hmin ht hs ht2 (by simp [hl]) (fun j v hv => by
      have hj : j < l.length := by have := (List.getElem?_eq_some_iff.1 hv).1; simpa using this
      obtain ⟨b', o', e', _, hc⟩ := hx.one (k := j) (by omega)
      cases e'
      rw [add_at, hc]
      rw [List.getElem?_map, List.getElem?_eq_getElem hj] at hv
      rw [gd_at hj]
      exact hv) (by simp [hl, hxs]) (fun v hv => by
      obtain ⟨x, _, rfl⟩ := List.mem_map.1 hv
      exact h1 x)
    refine ⟨_, hr, ⟨tt, ?_⟩, fun b ys hb ⟨t2, h2⟩ => ⟨t2, (setRow_other w g b _ hb).trans h2⟩, ⟨rfl, rfl, rfl, by simp [World.setRow], fun b hb => setRow_other w g b _ (by omega)⟩⟩
    rw [World.setRow, Array.getElem?_modify, if_pos rfl, ht2]
    simp [hl, hxs]
def RetHear (t : Bx) (w : World) (e : Ending) (w' : World) : Prop := ∃ Aq nq cq Aa na ca As ns cs Ah n ch Af nf cf, e = .returned (.agg #[.slice Aq nq cq, .slice Aa na ca, .slice As ns cs, .slice Ah n ch, .slice Af nf cf]) ∧ BxAt w' w'.heap.size (.slice Aq nq cq) (.slice Aa na ca) (.slice As ns cs) (.slice Ah n ch) (.slice Af nf cf) t ∧ Below w.heap.size w w'
set_option maxRecDepth 100000 in
set_option maxHeartbeats 4000000 in
theorem oHear_any (b : Bx) (g : Nat) (v : Int) (Aq Aa As Ah Af : Option Addr) (nq cq na ca ns cs n ch cf : Nat) (w : World) (hx : Hid (BxAt w w.heap.size (.slice Aq nq cq) (.slice Aa na ca) (.slice As ns cs) (.slice Ah n ch) (.slice Af n cf) b)) (hn : Hid (b.heard.length = n)) (hnf : Hid (b.fresh.length = n)) (hn8 : n ≤ 8) (hg : g < n) (hv : -1 ≤ v ∧ v ≤ 4096)
    {T : Bx} (hT : Hid (⟨b.net, b.sent, b.heard.set g (v + 1), b.fresh.set g true⟩ = T)) :
    Calls Try.prog 48 #[.agg #[.slice Aq nq cq, .slice Aa na ca, .slice As ns cs, .slice Ah n ch, .slice Af n cf], .int .i64 (g : Int), .int .i64 v] w (RetHear T w) := by
  go_enter Try.func48, Try.ntmps48
  have hB := ((Below.refl w.heap.size w).alloc (Nat.le_refl _) (.cells #[.slice Aq nq cq, .slice Aa na ca, .slice As ns cs, .slice Ah n ch, .slice Af n cf] 30)).alloc (by simp) (.cells #[.slice none 0 0, .slice none 0 0, .slice none 0 0, .slice none 0 0, .slice none 0 0] 30)
  have X1 := (Box.new w [.slice Aq nq cq, .slice Aa na ca, .slice As ns cs, .slice Ah n ch, .slice Af n cf] 30).alloc (.cells #[.slice none 0 0, .slice none 0 0, .slice none 0 0, .slice none 0 0, .slice none 0 0] 30)
  have X6 := Box.newAt (w := w.alloc (.cells #[.slice Aq nq cq, .slice Aa na ca, .slice As ns cs, .slice Ah n ch, .slice Af n cf] 30)) (n := w.heap.size + 1) [.slice none 0 0, .slice none 0 0, .slice none 0 0, .slice none 0 0, .slice none 0 0] 30 (by simp)
  go_upto_region 1 with fail
  generalize (w.alloc (.cells #[.slice Aq nq cq, .slice Aa na ca, .slice As ns cs, .slice Ah n ch, .slice Af n cf] 30)).alloc (.cells #[.slice none 0 0, .slice none 0 0, .slice none 0 0, .slice none 0 0, .slice none 0 0] 30) = W at hB X1 X6 ⊢
  have z1 := X1.lt
  have z6 := X6.lt
  go_cut [7, 8] (fun s7 s8 wx => Below W.heap.size W wx ∧ ∃ gH gF, s7 = .slice (some ⟨gH, 0, none⟩) n n ∧ s8 = .slice (some ⟨gF, 0, none⟩) n n ∧ W.heap.size ≤ gH ∧ W.heap.size ≤ gF ∧ gH ≠ gF ∧ Box wx gH (List.replicate n (Value.int .i64 0)) ∧ Box wx gF (List.replicate n (Value.bool false)))
  case first =>
    have hd := (Below.refl W.heap.size W).drew
    have u3 : ∀ z : Later W, z.w.cell? ⟨w.heap.size, 3, none⟩ = some (.slice Ah n ch) := Later.cell (X1.cell 3) z1
    have u4 : ∀ z : Later W, z.w.cell? ⟨w.heap.size, 4, none⟩ = some (.slice Af n cf) := Later.cell (X1.cell 4) z1
    refine wp_region_headsM (C := fun w' => ∃ x : Later W, w' = x.w) [0, 1, 2, 4, 5, 6] (by kernel_rfl) (by kernel_rfl) (Later.mk' hd) (fun _ _ h => h) ?_
    simp only [headOps, List.filterMap_cons, List.filterMap_nil, List.getElem?_toArray, List.getElem?_cons_succ, List.getElem?_cons_zero]
    repeat (first | go_big_quiet_skip | (show wpQuiet _ _ _ _ (_ :: _) _; go_big_quiet_skip) | (show wpQuiet _ _ _ _ (_ :: _) _; go_big_quiet_want; go_big_quiet_op; go_big_quiet_on))
    refine wpQuiet_nil ?_
    clear u3 u4
    generalize W.drew = W0 at hd ⊢
    refine anyC_twoW (n := 4) (i := 3) (j := 7) (by kernel_rfl) (Later.mk' hd) ?_ ?_
    · have hmk := oMakeI n (by omega) W0
      refine wpOp_valD (some 12) (v := .slice (some ⟨W0.heap.size, 0, none⟩) n n) (w' := W0.alloc (.cells (List.replicate n (Value.int .i64 0)).toArray 3)) (by rfl) rfl rfl ?_ ?_
      · go_simp
      simp only [Act.put, List.setIfInBounds_toArray, List.set_cons_zero, List.set_cons_succ]
      clear hmk
      have hb := (Below.refl W0.heap.size W0).alloc (Nat.le_refl _) (.cells (List.replicate n (Value.int .i64 0)).toArray 3)
      have XH := Box.new W0 (List.replicate n (Value.int .i64 0)) 3
      have hgH := hd.size
      have hd := hd.trans (hb.mono hd.size)
      clear hb
      generalize W0.alloc (.cells (List.replicate n (Value.int .i64 0)).toArray 3) = W1 at hd XH ⊢
      generalize W0.heap.size = gH at XH hgH  ⊢
      refine anyC_heads (by kernel_rfl) 2 W1 (Later.mk' hd) [8] _ _ (by kernel_rfl) ?_
      simp only [headOps, List.filterMap_cons, List.filterMap_nil, List.getElem?_toArray, List.getElem?_cons_succ, List.getElem?_cons_zero]
      repeat (first | go_big_quiet_skip | (show wpQuiet _ _ _ _ (_ :: _) _; go_big_quiet_skip) | (show wpQuiet _ _ _ _ (_ :: _) _; go_big_quiet_want; go_big_quiet_op; go_big_quiet_on))
      refine wpQuiet_nil ?_
      refine anyC_oneW (n := 2) (i := 7) (by kernel_rfl) (Later.mk' hd) ?_
      have hmk := oMakeB n (by omega) W1
      refine wpOp_valD (some 16) (v := .slice (some ⟨W1.heap.size, 0, none⟩) n n) (w' := W1.alloc (.cells (List.replicate n (Value.bool false)).toArray 4)) (by rfl) rfl rfl ?_ ?_
      · go_simp
      simp only [Act.put, List.setIfInBounds_toArray, List.set_cons_zero, List.set_cons_succ]
      clear hmk
      have hb := (Below.refl W1.heap.size W1).alloc (Nat.le_refl _) (.cells (List.replicate n (Value.bool false)).toArray 4)
      have XF := Box.new W1 (List.replicate n (Value.bool false)) 4
      have hgF := hd.size
      have hd := hd.trans (hb.mono hd.size)
      have hne := XH.lt
      have XH := XH.later hb
      clear hb
      generalize W1.alloc (.cells (List.replicate n (Value.bool false)).toArray 4) = W2 at hd XH XF ⊢
      generalize W1.heap.size = gF at XF hgF hne ⊢
      refine anyC_valD (some 8) (n := 0) (i := 9) (v := .slice (some ⟨gF, 0, none⟩) n n) (w' := W2) (by kernel_rfl) rfl rfl rfl (Later.mk' hd) (by first | rfl | go_simp) ?_
      simp only [Act.put, List.setIfInBounds_toArray, List.set_cons_zero, List.set_cons_succ]
      refine anyC_done (by kernel_rfl) (Later.mk' hd) ?_
      go_wp2_with fail
      go_meet
      exact ⟨hd, gH, gF, rfl, rfl, hgH, hgF, by omega, XH, XF⟩
    · have hmk := oMakeB n (by omega) W0
      refine wpOp_valD (some 16) (v := .slice (some ⟨W0.heap.size, 0, none⟩) n n) (w' := W0.alloc (.cells (List.replicate n (Value.bool false)).toArray 4)) (by rfl) rfl rfl ?_ ?_
      · go_simp
      simp only [Act.put, List.setIfInBounds_toArray, List.set_cons_zero, List.set_cons_succ]
      clear hmk
      have hb := (Below.refl W0.heap.size W0).alloc (Nat.le_refl _) (.cells (List.replicate n (Value.bool false)).toArray 4)
      have XF := Box.new W0 (List.replicate n (Value.bool false)) 4
      have hgF := hd.size
      have hd := hd.trans (hb.mono hd.size)
      clear hb
      generalize W0.alloc (.cells (List.replicate n (Value.bool false)).toArray 4) = W1 at hd XF ⊢
      generalize W0.heap.size = gF at XF hgF  ⊢
      refine anyC_oneW (n := 3) (i := 3) (by kernel_rfl) (Later.mk' hd) ?_
      have hmk := oMakeI n (by omega) W1
      refine wpOp_valD (some 12) (v := .slice (some ⟨W1.heap.size, 0, none⟩) n n) (w' := W1.alloc (.cells (List.replicate n (Value.int .i64 0)).toArray 3)) (by rfl) rfl rfl ?_ ?_
      · go_simp
      simp only [Act.put, List.setIfInBounds_toArray, List.set_cons_zero, List.set_cons_succ]
      clear hmk
      have hb := (Below.refl W1.heap.size W1).alloc (Nat.le_refl _) (.cells (List.replicate n (Value.int .i64 0)).toArray 3)
      have XH := Box.new W1 (List.replicate n (Value.int .i64 0)) 3
      have hgH := hd.size
      have hd := hd.trans (hb.mono hd.size)
      have hne := XF.lt
      have XF := XF.later hb
      clear hb
      generalize W1.alloc (.cells (List.replicate n (Value.int .i64 0)).toArray 3) = W2 at hd XH XF ⊢
      generalize W1.heap.size = gH at XH hgH hne ⊢
      refine anyC_valD (some 7) (n := 1) (i := 8) (v := .slice (some ⟨gH, 0, none⟩) n n) (w' := W2) (by kernel_rfl) rfl rfl rfl (Later.mk' hd) (by first | rfl | go_simp) ?_
      simp only [Act.put, List.setIfInBounds_toArray, List.set_cons_zero, List.set_cons_succ]
      refine anyC_valD (some 8) (n := 0) (i := 9) (v := .slice (some ⟨gF, 0, none⟩) n n) (w' := W2) (by kernel_rfl) rfl rfl rfl (Later.mk' hd) (by first | rfl | go_simp) ?_
      simp only [Act.put, List.setIfInBounds_toArray, List.set_cons_zero, List.set_cons_succ]
      refine anyC_done (by kernel_rfl) (Later.mk' hd) ?_
      go_wp2_with fail
      go_meet
      exact ⟨hd, gH, gF, rfl, rfl, hgH, hgF, by omega, XH, XF⟩
  case rest =>
    obtain ⟨hb, gH, gF, rfl, rfl, hgH, hgF, hne, XH, XF⟩ := hcut
    have hB := hB.trans (hb.mono hB.size)
    have X1 := X1.later hb
    have X6 := X6.later hb
    have hsI : (Try.prog.info? 3).map (·.size) = some 1 := by kernel_rfl
    have hsB : (Try.prog.info? 4).map (·.size) = some 1 := by kernel_rfl
    have HH := hx.out.heard.later hB
    obtain ⟨W2, hc1, XH, hk1, hb1⟩ := copy_row1 (Value.int .i64) (fun _ => rfl) Try.underlying27 hsI 3 hn.out (hn.out ▸ HH.2) XH (by simp)
    clear HH
    have X1a := hk1 _ _ (by omega) X1
    have X6 := hk1 _ _ (by omega) X6
    have XF := hk1 _ _ (by omega) XF
    have hBa := hB.trans (hb1.mono (by have := hB.size; omega))
    have HF := hx.out.fresh.later hBa
    obtain ⟨W3, hc2, XF, hk2, hb2⟩ := copy_row1 Value.bool (fun _ => rfl) Try.underlying28 hsB 3 hnf.out (hnf.out ▸ HF.2) XF (by simp)
    clear HF
    have X1b := hk2 _ _ (by omega) X1a
    have X6 := hk2 _ _ (by omega) X6
    have XH := hk2 _ _ (by omega) XH
    have hB := hBa.trans (hb2.mono (by have := hB.size; omega))
    have x13 : wc.cell? ⟨w.heap.size, 3, none⟩ = some (.slice Ah n ch) := X1.cell 3
    have x14 : W2.cell? ⟨w.heap.size, 4, none⟩ = some (.slice Af n cf) := X1a.cell 4
    have y1 := X1.lt
    have y2 := X1a.lt
    clear hk1 hk2 hb1 hb2 hb
    go_upto_region 4 with fail
    clear hc1 hc2 x13 x14 y1 y2 X1 X1a
    have hgi : (g : Int) < (n : Int) := by omega
    have hgz : (0 : Int) ≤ (g : Int) := by omega
    have hwv : wrap64 (v + 1) = v + 1 := by unfold wrap64; omega
    have hwv2 : IntKind.i64.wrap (v + 1) = v + 1 := wrapO (by omega) (by omega)
    have hgl : g < b.heard.length := by rw [hn.out]; exact hg
    have hgl2 : g < b.fresh.length := by rw [hnf.out]; exact hg
    have k0 : W3.cell? ⟨gH, g, none⟩ = some (.int .i64 b.heard[g]) := by rw [XH.cell]; simp [hgl]
    have k1 : W3.cell? ⟨gF, g, none⟩ = some (.bool b.fresh[g]) := by rw [XF.cell]; simp [hgl2]
    have f0 := XH.free g
    have f1 := XF.free g
    have zH := XH.lt
    have zF := XF.lt
    have hne2 : gF ≠ gH := fun h => hne h.symm
    go_upto_region 5 with fail
    clear k0 k1 f0 f1 hgi hgz hwv hwv2
    have XH := (XH.set g (.int .i64 (v + 1))).other (a := ⟨gF, g, none⟩) (by simp <;> omega) (.bool true)
    have XF := (XF.other (a := ⟨gH, g, none⟩) (by simp <;> omega) (.int .i64 (v + 1))).set g (.bool true)
    have X1 := (X1b.other (a := ⟨gH, g, none⟩) (by simp <;> omega) (.int .i64 (v + 1))).other (a := ⟨gF, g, none⟩) (by simp <;> omega) (.bool true)
    have X6 := (X6.other (a := ⟨gH, g, none⟩) (by simp <;> omega) (.int .i64 (v + 1))).other (a := ⟨gF, g, none⟩) (by simp <;> omega) (.bool true)
    have hB := (hB.setCell (p := ⟨gH, g, none⟩) (by simp <;> omega) (.int .i64 (v + 1))).setCell (p := ⟨gF, g, none⟩) (by simp <;> omega) (.bool true)
    generalize (W3.setCell ⟨gH, g, none⟩ (.int .i64 (v + 1))).setCell ⟨gF, g, none⟩ (.bool true) = W4 at XH XF X1 X6 hB ⊢
    have e1 : (b.heard.map (Value.int .i64)).set g (.int .i64 (v + 1)) = (b.heard.set g (v + 1)).map (Value.int .i64) := List.map_set.symm
    have e2 : (b.fresh.map Value.bool).set g (.bool true) = (b.fresh.set g true).map Value.bool := List.map_set.symm
    rw [e1] at XH
    rw [e2] at XF
    clear e1 e2 X1b
    have X1c0 : W4.cell? ⟨w.heap.size, 0, none⟩ = some (.slice Aq nq cq) := X1.cell 0
    have X1f0 : W4.frozen? ⟨w.heap.size, 0, none⟩ = false := X1.free 0
    have X1c1 : W4.cell? ⟨w.heap.size, 1, none⟩ = some (.slice Aa na ca) := X1.cell 1
    have X1f1 : W4.frozen? ⟨w.heap.size, 1, none⟩ = false := X1.free 1
    have X1c2 : W4.cell? ⟨w.heap.size, 2, none⟩ = some (.slice As ns cs) := X1.cell 2
    have X1f2 : W4.frozen? ⟨w.heap.size, 2, none⟩ = false := X1.free 2
    have X1c3 : W4.cell? ⟨w.heap.size, 3, none⟩ = some (.slice Ah n ch) := X1.cell 3
    have X1f3 : W4.frozen? ⟨w.heap.size, 3, none⟩ = false := X1.free 3
    have X1c4 : W4.cell? ⟨w.heap.size, 4, none⟩ = some (.slice Af n cf) := X1.cell 4
    have X1f4 : W4.frozen? ⟨w.heap.size, 4, none⟩ = false := X1.free 4
    have X1z : w.heap.size < W4.heap.size := X1.lt
    go_upto_region 6 with fail
    clear X1c0 X1c1 X1c2 X1c3 X1c4 X1f0 X1f1 X1f2 X1f3 X1f4 X1z
    have XH := (XH.other (a := ⟨w.heap.size, 3, none⟩) (by simp <;> omega) (.slice (some ⟨gH, 0, none⟩) n n)).other (a := ⟨w.heap.size, 4, none⟩) (by simp <;> omega) (.slice (some ⟨gF, 0, none⟩) n n)
    have XF := (XF.other (a := ⟨w.heap.size, 3, none⟩) (by simp <;> omega) (.slice (some ⟨gH, 0, none⟩) n n)).other (a := ⟨w.heap.size, 4, none⟩) (by simp <;> omega) (.slice (some ⟨gF, 0, none⟩) n n)
    have X1 := (X1.set 3 (.slice (some ⟨gH, 0, none⟩) n n)).set 4 (.slice (some ⟨gF, 0, none⟩) n n)
    have X6 := (X6.other (a := ⟨w.heap.size, 3, none⟩) (by simp <;> omega) (.slice (some ⟨gH, 0, none⟩) n n)).other (a := ⟨w.heap.size, 4, none⟩) (by simp <;> omega) (.slice (some ⟨gF, 0, none⟩) n n)
    have hB := (hB.setCell (p := ⟨w.heap.size, 3, none⟩) (by simp) (.slice (some ⟨gH, 0, none⟩) n n)).setCell (p := ⟨w.heap.size, 4, none⟩) (by simp) (.slice (some ⟨gF, 0, none⟩) n n)
    generalize (W4.setCell ⟨w.heap.size, 3, none⟩ (.slice (some ⟨gH, 0, none⟩) n n)).setCell ⟨w.heap.size, 4, none⟩ (.slice (some ⟨gF, 0, none⟩) n n) = W5 at XH XF X1 X6 hB ⊢
    simp only [List.set_cons_zero, List.set_cons_succ] at X1
    have X1c0 : W5.cell? ⟨w.heap.size, 0, none⟩ = some (.slice Aq nq cq) := X1.cell 0
    have X1c1 : W5.cell? ⟨w.heap.size, 1, none⟩ = some (.slice Aa na ca) := X1.cell 1
    have X1c2 : W5.cell? ⟨w.heap.size, 2, none⟩ = some (.slice As ns cs) := X1.cell 2
    have X1c3 : W5.cell? ⟨w.heap.size, 3, none⟩ = some (.slice (some ⟨gH, 0, none⟩) n n) := X1.cell 3
    have X1c4 : W5.cell? ⟨w.heap.size, 4, none⟩ = some (.slice (some ⟨gF, 0, none⟩) n n) := X1.cell 4
    have z1 := X1.lt
    have X6c0 : W5.cell? ⟨w.heap.size + 1, 0, none⟩ = some (.slice none 0 0) := X6.cell 0
    have X6f0 : W5.frozen? ⟨w.heap.size + 1, 0, none⟩ = false := X6.free 0
    have X6c1 : W5.cell? ⟨w.heap.size + 1, 1, none⟩ = some (.slice none 0 0) := X6.cell 1
    have X6f1 : W5.frozen? ⟨w.heap.size + 1, 1, none⟩ = false := X6.free 1
    have X6c2 : W5.cell? ⟨w.heap.size + 1, 2, none⟩ = some (.slice none 0 0) := X6.cell 2
    have X6f2 : W5.frozen? ⟨w.heap.size + 1, 2, none⟩ = false := X6.free 2
    have X6c3 : W5.cell? ⟨w.heap.size + 1, 3, none⟩ = some (.slice none 0 0) := X6.cell 3
    have X6f3 : W5.frozen? ⟨w.heap.size + 1, 3, none⟩ = false := X6.free 3
    have X6c4 : W5.cell? ⟨w.heap.size + 1, 4, none⟩ = some (.slice none 0 0) := X6.cell 4
    have X6f4 : W5.frozen? ⟨w.heap.size + 1, 4, none⟩ = false := X6.free 4
    have X6z : w.heap.size + 1 < W5.heap.size := X6.lt
    go_wp2
    have XH := (((((XH.other (a := ⟨w.heap.size + 1, 0, none⟩) (by simp <;> omega) (.slice Aq nq cq)).other (a := ⟨w.heap.size + 1, 1, none⟩) (by simp <;> omega) (.slice Aa na ca)).other (a := ⟨w.heap.size + 1, 2, none⟩) (by simp <;> omega) (.slice As ns cs)).other (a := ⟨w.heap.size + 1, 3, none⟩) (by simp <;> omega) (.slice (some ⟨gH, 0, none⟩) n n)).other (a := ⟨w.heap.size + 1, 4, none⟩) (by simp <;> omega) (.slice (some ⟨gF, 0, none⟩) n n))
    have XF := (((((XF.other (a := ⟨w.heap.size + 1, 0, none⟩) (by simp <;> omega) (.slice Aq nq cq)).other (a := ⟨w.heap.size + 1, 1, none⟩) (by simp <;> omega) (.slice Aa na ca)).other (a := ⟨w.heap.size + 1, 2, none⟩) (by simp <;> omega) (.slice As ns cs)).other (a := ⟨w.heap.size + 1, 3, none⟩) (by simp <;> omega) (.slice (some ⟨gH, 0, none⟩) n n)).other (a := ⟨w.heap.size + 1, 4, none⟩) (by simp <;> omega) (.slice (some ⟨gF, 0, none⟩) n n))
    have Y6 := (((((X6.set 0 (.slice Aq nq cq)).set 1 (.slice Aa na ca)).set 2 (.slice As ns cs)).set 3 (.slice (some ⟨gH, 0, none⟩) n n)).set 4 (.slice (some ⟨gF, 0, none⟩) n n))
    have hB := (((((hB.setCell (p := ⟨w.heap.size + 1, 0, none⟩) (by simp <;> omega) (.slice Aq nq cq)).setCell (p := ⟨w.heap.size + 1, 1, none⟩) (by simp <;> omega) (.slice Aa na ca)).setCell (p := ⟨w.heap.size + 1, 2, none⟩) (by simp <;> omega) (.slice As ns cs)).setCell (p := ⟨w.heap.size + 1, 3, none⟩) (by simp <;> omega) (.slice (some ⟨gH, 0, none⟩) n n)).setCell (p := ⟨w.heap.size + 1, 4, none⟩) (by simp <;> omega) (.slice (some ⟨gF, 0, none⟩) n n))
    clear X1c0 X1c1 X1c2 X1c3 X1c4 X6c0 X6c1 X6c2 X6c3 X6c4 X6f0 X6f1 X6f2 X6f3 X6f4 X6z
    generalize (((((W5.setCell ⟨w.heap.size + 1, 0, none⟩ (.slice Aq nq cq)).setCell ⟨w.heap.size + 1, 1, none⟩ (.slice Aa na ca)).setCell ⟨w.heap.size + 1, 2, none⟩ (.slice As ns cs)).setCell ⟨w.heap.size + 1, 3, none⟩ (.slice (some ⟨gH, 0, none⟩) n n)).setCell ⟨w.heap.size + 1, 4, none⟩ (.slice (some ⟨gF, 0, none⟩) n n)) = W6 at XH XF Y6 hB ⊢
    simp only [List.set_cons_zero, List.set_cons_succ] at Y6
    have Y6c0 : W6.cell? ⟨w.heap.size + 1, 0, none⟩ = some (.slice Aq nq cq) := Y6.cell 0
    have Y6c1 : W6.cell? ⟨w.heap.size + 1, 1, none⟩ = some (.slice Aa na ca) := Y6.cell 1
    have Y6c2 : W6.cell? ⟨w.heap.size + 1, 2, none⟩ = some (.slice As ns cs) := Y6.cell 2
    have Y6c3 : W6.cell? ⟨w.heap.size + 1, 3, none⟩ = some (.slice (some ⟨gH, 0, none⟩) n n) := Y6.cell 3
    have Y6c4 : W6.cell? ⟨w.heap.size + 1, 4, none⟩ = some (.slice (some ⟨gF, 0, none⟩) n n) := Y6.cell 4
    have hX := hx.out.later hB
    have hH := box_hd XH (by rw [List.length_set, hn.out]; unfold maxLen; omega)
    have hF := box_fr XF (by rw [List.length_set, hnf.out]; unfold maxLen; omega)
    rw [List.length_set, hn.out] at hH
    rw [List.length_set, hnf.out] at hF
    obtain rfl := hT.out
    refine bodyPost_ret (v := .agg #[.slice Aq nq cq, .slice Aa na ca, .slice As ns cs, .slice (some ⟨gH, 0, none⟩) n n, .slice (some ⟨gF, 0, none⟩) n n]) (by simp [results, Try.results48, go_sem, Y6c0, Y6c1, Y6c2, Y6c3, Y6c4]) rfl ?_
    exact ⟨_, _, _, _, _, _, _, _, _, _, _, _, _, _, _, rfl, ⟨hX.net, hX.sent, hH, hF⟩, hB⟩
end Go.Proofs.Ytmbifmmkccghfaa

/-
  Plain facts on Deliver of orders. No condition.
-/
namespace Go.Proofs.Ytmbifmmkccghfaa
open Go.RowKit

theorem net_delivered {n : Net} {i : Int} {p : Pk} {m : Net} (h : Go.Proofs.Ytmbifmmkccghfaa.deliverT n i = (p, m, 0)) : p = Pk.zero ∨ p ∈ n.queue := by
  unfold Go.Proofs.Ytmbifmmkccghfaa.deliverT at h
  split at h
  · simp only [Prod.mk.injEq] at h
    obtain ⟨h1, -, -⟩ := h
    split at h1
    · exact .inl h1.symm
    · subst h1
      unfold Net.pk
      rw [List.getD_eq_getElem?_getD]
      rcases hq : n.queue[i.toNat]? with _ | x
      · exact .inl rfl
      · exact .inr (List.mem_of_getElem? hq)
  · next h0 =>
    simp only [Prod.mk.injEq] at h
    exact absurd h.2.2 h0
theorem pk_facts {b : Bx} {p : Pk} (hs : b.sentB = true) (h : b.pkB p = true) (hl : p.data.length ≤ maxLen) (h4 : b.sent.length ≤ 4096) :
    p.data.length ≤ 32 ∧ ∃ g : Nat, p.dst = (g : Int) + 1 ∧ g < b.heard.length ∧ p.src = 0 ∧ 0 ≤ numberT p.data ∧ numberT p.data < (b.sent.length : Int) ∧ ∃ o, readT p.data = some (numberT p.data, o) := by
  unfold Bx.pkB at h
  rcases hr : readT p.data with _ | ⟨n, o⟩
  · rw [hr] at h
    cases h
  rw [hr] at h
  obtain ⟨h1, h2, h3, h5, h6⟩ := of_decide_eq_true h
  have hnum := number_read hr h1
  obtain ⟨g1, g2, g3⟩ := read_inv hl hr
  obtain ⟨⟨k1, k2⟩, _, _⟩ := sent_at hs h1 h2
  refine ⟨by rw [g1]; exact msg_len g2 g3, (b.at n).1.toNat, by omega, by omega, h3, by omega, by omega, o, by rw [hnum]⟩
theorem deliver_bad {b : Bx} {i c : Int} (h : b.checkT = c) (h0 : c ≠ 0) : b.deliverT i = (Bx.zero, false, c) := by
  unfold Bx.checkT at h
  unfold Bx.deliverT
  by_cases hk : b.okB = true
  · rw [if_pos hk] at h
    exact absurd h.symm h0
  · rw [if_neg hk] at h ⊢
    rw [h]
theorem deliver_net {b : Bx} {i er : Int} {p : Pk} {m : Net} (h : b.okB = true) (hr : Go.Proofs.Ytmbifmmkccghfaa.deliverT b.net i = (p, m, er)) : b.deliverT i = if er = 0 then ((b.hear p m).1, (b.hear p m).2, 0) else (Bx.zero, false, er) := by rw [Bx.deliverT, if_pos h, hr]
theorem deliver_ok {b : Bx} {i : Int} {p : Pk} {m : Net} (h : b.okB = true) (hr : Go.Proofs.Ytmbifmmkccghfaa.deliverT b.net i = (p, m, 0)) (hl : p.data.length ≤ maxLen) :
    p.data.length ≤ 32 ∧ ((p.dst = 0 ∧ p.src = 0 ∧ p.data = []) ∨ ∃ g : Nat, p.dst = (g : Int) + 1 ∧ g < b.heard.length ∧ p.src = 0 ∧ 0 ≤ numberT p.data ∧ numberT p.data < (b.sent.length : Int) ∧ ∃ o, readT p.data = some (numberT p.data, o)) := by
  obtain ⟨hl1, hs, -, -, hq⟩ := okB_parts h
  have h4 := (of_decide_eq_true hl1).2.2
  rcases net_delivered hr with rfl | hm
  · exact ⟨Nat.zero_le _, .inl ⟨rfl, rfl, rfl⟩⟩
  · obtain ⟨e1, e2⟩ := pk_facts hs (hq p hm) hl h4
    exact ⟨e1, .inr e2⟩
theorem hear_none {b : Bx} {p : Pk} {m : Net} (h : ¬ (0 < p.dst ∧ b.h (p.dst - 1).toNat ≤ numberT p.data)) : b.hear p m = (⟨m, b.sent, b.heard, b.fresh⟩, false) := if_neg h
theorem hear_some {b : Bx} {p : Pk} {m : Net} {g : Nat} (hd : p.dst = (g : Int) + 1) (h : b.h g ≤ numberT p.data) : b.hear p m = (⟨m, b.sent, b.heard.set g (numberT p.data + 1), b.fresh.set g true⟩, true) := by
  have e : (p.dst - 1).toNat = g := by omega
  rw [Bx.hear, e, if_pos ⟨by omega, h⟩]
theorem hear_no {b : Bx} {p : Pk} {m : Net} {g : Nat} (hd : p.dst = (g : Int) + 1) (h : ¬ b.h g ≤ numberT p.data) : b.hear p m = (⟨m, b.sent, b.heard, b.fresh⟩, false) := by
  have e : (p.dst - 1).toNat = g := by omega
  exact hear_none (fun k => h (by rw [e] at k; exact k.2))
def RetDlv (T : Bx × Bool × Int) (w : World) (e : Ending) (w' : World) : Prop := ∃ Vq Va Vs Vh Vf, e = .returned (.tuple #[.agg #[Vq, Va, Vs, Vh, Vf], .bool T.2.1, .int .i64 T.2.2]) ∧ BxAt w' w'.heap.size Vq Va Vs Vh Vf T.1 ∧ Below w.heap.size w w'
end Go.Proofs.Ytmbifmmkccghfaa
