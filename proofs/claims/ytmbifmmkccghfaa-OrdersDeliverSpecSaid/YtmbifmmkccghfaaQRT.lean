/- Deliver of orders. (Printed by gen_rt.py and pp.py.) No condition. -/
import Derived.Test.YtmbifmmkccghfaaQRQ
import Derived.Test.YtmbifmmkccghfaaQGP
import Derived.Test.YtmbifmmkccghfaaQRI
import Derived.Test.YtmbifmmkccghfaaQKG
import Derived.Test.YtmbifmmkccghfaaQRM
import Derived.Test.YtmbifmmkccghfaaQNS
import Derived.Test.YtmbifmmkccghfaaQRF
import Derived.Test.YtmbifmmkccghfaaQRK
set_option linter.unusedVariables false
set_option linter.unusedSimpArgs false
namespace Go.Proofs.Ytmbifmmkccghfaa
open Go.RowKit Go.Shelf
attribute [local go_sem] Oper.semAt_some

set_option maxRecDepth 100000 in
set_option maxHeartbeats 4000000 in
theorem oDeliver_any (b : Bx) (i : Int) (Aq Aa As Ah Af : Option Addr) (nq cq na ca ns cs n ch nf cf : Nat) (w : World) (hx : Hid (BxAt w w.heap.size (.slice Aq nq cq) (.slice Aa na ca) (.slice As ns cs) (.slice Ah n ch) (.slice Af nf cf) b)) (hns : Hid (b.sent.length = ns)) (hn : Hid (b.heard.length = n)) (hnf : Hid (b.fresh.length = nf)) {T : Bx × Bool × Int} (hT : Hid (b.deliverT i = T)) :
    Calls Try.prog 23 #[.agg #[.slice Aq nq cq, .slice Aa na ca, .slice As ns cs, .slice Ah n ch, .slice Af nf cf], .int .i64 i] w (RetDlv T w) := by
  go_enter Try.func23, Try.ntmps23
  have hB := ((Below.refl w.heap.size w).alloc (Nat.le_refl _) (.cells #[.slice Aq nq cq, .slice Aa na ca, .slice As ns cs, .slice Ah n ch, .slice Af nf cf] 30)).alloc (by simp) (.cells #[.slice none 0 0, .slice none 0 0, .slice none 0 0, .slice none 0 0, .slice none 0 0] 30)
  have X2 := (Box.new w [.slice Aq nq cq, .slice Aa na ca, .slice As ns cs, .slice Ah n ch, .slice Af nf cf] 30).alloc (.cells #[.slice none 0 0, .slice none 0 0, .slice none 0 0, .slice none 0 0, .slice none 0 0] 30)
  have X4 := Box.newAt (w := w.alloc (.cells #[.slice Aq nq cq, .slice Aa na ca, .slice As ns cs, .slice Ah n ch, .slice Af nf cf] 30)) (n := w.heap.size + 1) [.slice none 0 0, .slice none 0 0, .slice none 0 0, .slice none 0 0, .slice none 0 0] 30 (by simp)
  go_upto_region 1 with fail
  generalize (w.alloc (.cells #[.slice Aq nq cq, .slice Aa na ca, .slice As ns cs, .slice Ah n ch, .slice Af nf cf] 30)).alloc (.cells #[.slice none 0 0, .slice none 0 0, .slice none 0 0, .slice none 0 0, .slice none 0 0] 30) = w1 at hB X2 X4 ⊢
  have z1 := X2.lt
  have X2c0 : w1.cell? ⟨w.heap.size, 0, none⟩ = some (.slice Aq nq cq) := X2.cell 0
  have X2c1 : w1.cell? ⟨w.heap.size, 1, none⟩ = some (.slice Aa na ca) := X2.cell 1
  have X2c2 : w1.cell? ⟨w.heap.size, 2, none⟩ = some (.slice As ns cs) := X2.cell 2
  have X2c3 : w1.cell? ⟨w.heap.size, 3, none⟩ = some (.slice Ah n ch) := X2.cell 3
  have X2c4 : w1.cell? ⟨w.heap.size, 4, none⟩ = some (.slice Af nf cf) := X2.cell 4
  obtain ⟨c, hc⟩ : ∃ c, Hid (b.checkT = c) := ⟨_, Lib.hid rfl⟩
  go_wp2_with fail
  refine (oCheck_is hc (hx.out.later hB)).mono ?_
  rintro e w2 ⟨rfl, hb⟩
  have hB := hB.trans (hb.mono hB.size)
  have X2 := X2.later hb
  have X4 := X4.later hb
  clear hb z1 X2c0 X2c1 X2c2 X2c3 X2c4
  by_cases h0 : c = 0
  rotate_left
  · have d0 : (c != 0) = true := by simp [h0]
    obtain rfl : T = (Bx.zero, false, c) := by rw [← hT.out]; exact deliver_bad hc.out h0
    have X4c0 : w2.cell? ⟨w.heap.size + 1, 0, none⟩ = some (.slice none 0 0) := X4.cell 0
    have X4f0 : w2.frozen? ⟨w.heap.size + 1, 0, none⟩ = false := X4.free 0
    have X4c1 : w2.cell? ⟨w.heap.size + 1, 1, none⟩ = some (.slice none 0 0) := X4.cell 1
    have X4f1 : w2.frozen? ⟨w.heap.size + 1, 1, none⟩ = false := X4.free 1
    have X4c2 : w2.cell? ⟨w.heap.size + 1, 2, none⟩ = some (.slice none 0 0) := X4.cell 2
    have X4f2 : w2.frozen? ⟨w.heap.size + 1, 2, none⟩ = false := X4.free 2
    have X4c3 : w2.cell? ⟨w.heap.size + 1, 3, none⟩ = some (.slice none 0 0) := X4.cell 3
    have X4f3 : w2.frozen? ⟨w.heap.size + 1, 3, none⟩ = false := X4.free 3
    have X4c4 : w2.cell? ⟨w.heap.size + 1, 4, none⟩ = some (.slice none 0 0) := X4.cell 4
    have X4f4 : w2.frozen? ⟨w.heap.size + 1, 4, none⟩ = false := X4.free 4
    have X4z : w.heap.size + 1 < w2.heap.size := X4.lt
    have Y4 := (((((X4.set 0 (.slice none 0 0)).set 1 (.slice none 0 0)).set 2 (.slice none 0 0)).set 3 (.slice none 0 0)).set 4 (.slice none 0 0))
    have hB2 := (((((hB.setCell (p := ⟨w.heap.size + 1, 0, none⟩) (by simp <;> omega) (.slice none 0 0)).setCell (p := ⟨w.heap.size + 1, 1, none⟩) (by simp <;> omega) (.slice none 0 0)).setCell (p := ⟨w.heap.size + 1, 2, none⟩) (by simp <;> omega) (.slice none 0 0)).setCell (p := ⟨w.heap.size + 1, 3, none⟩) (by simp <;> omega) (.slice none 0 0)).setCell (p := ⟨w.heap.size + 1, 4, none⟩) (by simp <;> omega) (.slice none 0 0))
    go_wp2
    clear X4c0 X4c1 X4c2 X4c3 X4c4 X4f0 X4f1 X4f2 X4f3 X4f4 X4z
    generalize (((((w2.setCell ⟨w.heap.size + 1, 0, none⟩ (.slice none 0 0)).setCell ⟨w.heap.size + 1, 1, none⟩ (.slice none 0 0)).setCell ⟨w.heap.size + 1, 2, none⟩ (.slice none 0 0)).setCell ⟨w.heap.size + 1, 3, none⟩ (.slice none 0 0)).setCell ⟨w.heap.size + 1, 4, none⟩ (.slice none 0 0)) = W8 at Y4 hB2 ⊢
    simp only [List.set_cons_zero, List.set_cons_succ] at Y4
    have Y4c0 : W8.cell? ⟨w.heap.size + 1, 0, none⟩ = some (.slice none 0 0) := Y4.cell 0
    have Y4c1 : W8.cell? ⟨w.heap.size + 1, 1, none⟩ = some (.slice none 0 0) := Y4.cell 1
    have Y4c2 : W8.cell? ⟨w.heap.size + 1, 2, none⟩ = some (.slice none 0 0) := Y4.cell 2
    have Y4c3 : W8.cell? ⟨w.heap.size + 1, 3, none⟩ = some (.slice none 0 0) := Y4.cell 3
    have Y4c4 : W8.cell? ⟨w.heap.size + 1, 4, none⟩ = some (.slice none 0 0) := Y4.cell 4
    refine bodyPost_ret (v := .tuple #[.agg #[.slice none 0 0, .slice none 0 0, .slice none 0 0, .slice none 0 0, .slice none 0 0], .bool false, .int .i64 c]) (by simp [results, Try.results23, go_sem, Y4c0, Y4c1, Y4c2, Y4c3, Y4c4]) rfl ?_
    exact ⟨_, _, _, _, _, rfl, bxAt_zero _ _, hB2⟩
  subst h0
  have hok := check_ok hc.out
  have HOK := Lib.hid hok
  obtain ⟨hl1, -, hga, -, -⟩ := okB_parts hok
  have HGA := Lib.hid hga
  have hl1 := of_decide_eq_true hl1
  rw [hn.out, hns.out, hnf.out] at hl1
  obtain ⟨⟨hn1, hn8⟩, hl2', hn4⟩ := hl1
  obtain rfl : nf = n := hl2'
  obtain ⟨n, rfl⟩ : ∃ q, q = nf := ⟨_, rfl⟩
  clear hok hga
  have z1 := X2.lt
  have X2c0 : w2.cell? ⟨w.heap.size, 0, none⟩ = some (.slice Aq nq cq) := X2.cell 0
  have X2c1 : w2.cell? ⟨w.heap.size, 1, none⟩ = some (.slice Aa na ca) := X2.cell 1
  have X2c2 : w2.cell? ⟨w.heap.size, 2, none⟩ = some (.slice As ns cs) := X2.cell 2
  have X2c3 : w2.cell? ⟨w.heap.size, 3, none⟩ = some (.slice Ah n ch) := X2.cell 3
  have X2c4 : w2.cell? ⟨w.heap.size, 4, none⟩ = some (.slice Af n cf) := X2.cell 4
  have HN := Lib.hid (hx.out.net.later hB)
  go_wp2_with fail
  refine (nDeliver_is b.net i HN).mono ?_
  rintro e w3 ⟨V, p, Vq, Va, m, er, rfl, hT2, hD2, hN2, hb⟩
  obtain ⟨Aq2, nq2, cq2, Aa2, na2, ca2, rfl, rfl⟩ := hN2.out.form
  obtain ⟨Ad, cd, rfl, hdl⟩ := hD2.out.form
  have HM := hN2.out.at hb.size
  have HD := hD2.out.more hb.size
  have hB := hB.trans (hb.mono hB.size)
  have X2 := X2.later hb
  have X4 := X4.later hb
  clear hb z1 X2c0 X2c1 X2c2 X2c3 X2c4 hN2 HN hD2
  go_upto_region 5 with fail
  have hal := ((Below.refl w3.heap.size w3).alloc (Nat.le_refl _) (.cells #[.int .i64 p.src, .int .i64 p.dst, .slice Ad p.data.length cd] 51)).alloc (by simp) (.cells #[.slice Aq2 nq2 cq2, .slice Aa2 na2 ca2] 25)
  have X7 := (Box.new w3 [.int .i64 p.src, .int .i64 p.dst, .slice Ad p.data.length cd] 51).alloc (.cells #[.slice Aq2 nq2 cq2, .slice Aa2 na2 ca2] 25)
  have X8 := Box.newAt (w := w3.alloc (.cells #[.int .i64 p.src, .int .i64 p.dst, .slice Ad p.data.length cd] 51)) (n := w3.heap.size + 1) [.slice Aq2 nq2 cq2, .slice Aa2 na2 ca2] 25 (by simp)
  have z2 := X2.lt
  have z4 := X4.lt
  have X2 := X2.later hal
  have X4 := X4.later hal
  have hB := hB.trans (hal.mono hB.size)
  have HM1 := HM.below hal
  have HD1 := BytesAt.below HD hal
  have hDz := hal.size
  clear hal HM HD
  generalize (w3.alloc (.cells #[.int .i64 p.src, .int .i64 p.dst, .slice Ad p.data.length cd] 51)).alloc (.cells #[.slice Aq2 nq2 cq2, .slice Aa2 na2 ca2] 25) = W3 at X7 X8 X2 X4 hB HM1 HD1 hDz ⊢
  generalize w3.heap.size = D at X7 X8 HM1 HD1 hDz z2 z4 ⊢
  have hsn := deliver_net (b := b) (p := p) (m := m) (er := er) HOK.out hT2.out
  by_cases he : er = 0
  rotate_left
  · have d6 : (er != 0) = true := by simp [he]
    obtain rfl : T = (Bx.zero, false, er) := by rw [← hT.out]; exact hsn.trans (if_neg he)
    have X4c0 : W3.cell? ⟨w.heap.size + 1, 0, none⟩ = some (.slice none 0 0) := X4.cell 0
    have X4f0 : W3.frozen? ⟨w.heap.size + 1, 0, none⟩ = false := X4.free 0
    have X4c1 : W3.cell? ⟨w.heap.size + 1, 1, none⟩ = some (.slice none 0 0) := X4.cell 1
    have X4f1 : W3.frozen? ⟨w.heap.size + 1, 1, none⟩ = false := X4.free 1
    have X4c2 : W3.cell? ⟨w.heap.size + 1, 2, none⟩ = some (.slice none 0 0) := X4.cell 2
    have X4f2 : W3.frozen? ⟨w.heap.size + 1, 2, none⟩ = false := X4.free 2
    have X4c3 : W3.cell? ⟨w.heap.size + 1, 3, none⟩ = some (.slice none 0 0) := X4.cell 3
    have X4f3 : W3.frozen? ⟨w.heap.size + 1, 3, none⟩ = false := X4.free 3
    have X4c4 : W3.cell? ⟨w.heap.size + 1, 4, none⟩ = some (.slice none 0 0) := X4.cell 4
    have X4f4 : W3.frozen? ⟨w.heap.size + 1, 4, none⟩ = false := X4.free 4
    have X4z : w.heap.size + 1 < W3.heap.size := X4.lt
    have Y4 := (((((X4.set 0 (.slice none 0 0)).set 1 (.slice none 0 0)).set 2 (.slice none 0 0)).set 3 (.slice none 0 0)).set 4 (.slice none 0 0))
    have hB2 := (((((hB.setCell (p := ⟨w.heap.size + 1, 0, none⟩) (by simp <;> omega) (.slice none 0 0)).setCell (p := ⟨w.heap.size + 1, 1, none⟩) (by simp <;> omega) (.slice none 0 0)).setCell (p := ⟨w.heap.size + 1, 2, none⟩) (by simp <;> omega) (.slice none 0 0)).setCell (p := ⟨w.heap.size + 1, 3, none⟩) (by simp <;> omega) (.slice none 0 0)).setCell (p := ⟨w.heap.size + 1, 4, none⟩) (by simp <;> omega) (.slice none 0 0))
    go_wp2
    clear X4c0 X4c1 X4c2 X4c3 X4c4 X4f0 X4f1 X4f2 X4f3 X4f4 X4z
    generalize (((((W3.setCell ⟨w.heap.size + 1, 0, none⟩ (.slice none 0 0)).setCell ⟨w.heap.size + 1, 1, none⟩ (.slice none 0 0)).setCell ⟨w.heap.size + 1, 2, none⟩ (.slice none 0 0)).setCell ⟨w.heap.size + 1, 3, none⟩ (.slice none 0 0)).setCell ⟨w.heap.size + 1, 4, none⟩ (.slice none 0 0)) = W8 at Y4 hB2 ⊢
    simp only [List.set_cons_zero, List.set_cons_succ] at Y4
    have Y4c0 : W8.cell? ⟨w.heap.size + 1, 0, none⟩ = some (.slice none 0 0) := Y4.cell 0
    have Y4c1 : W8.cell? ⟨w.heap.size + 1, 1, none⟩ = some (.slice none 0 0) := Y4.cell 1
    have Y4c2 : W8.cell? ⟨w.heap.size + 1, 2, none⟩ = some (.slice none 0 0) := Y4.cell 2
    have Y4c3 : W8.cell? ⟨w.heap.size + 1, 3, none⟩ = some (.slice none 0 0) := Y4.cell 3
    have Y4c4 : W8.cell? ⟨w.heap.size + 1, 4, none⟩ = some (.slice none 0 0) := Y4.cell 4
    refine bodyPost_ret (v := .tuple #[.agg #[.slice none 0 0, .slice none 0 0, .slice none 0 0, .slice none 0 0, .slice none 0 0], .bool false, .int .i64 er]) (by simp [results, Try.results23, go_sem, Y4c0, Y4c1, Y4c2, Y4c3, Y4c4]) rfl ?_
    exact ⟨_, _, _, _, _, rfl, bxAt_zero _ _, hB2⟩
  subst he
  have hTh : T = ((b.hear p m).1, (b.hear p m).2, 0) := by rw [← hT.out]; exact hsn.trans (if_pos rfl)
  have HTH := Lib.hid hTh
  obtain ⟨hd32, hpk⟩ := deliver_ok HOK.out hT2.out hdl
  have HPK := Lib.hid hpk
  clear hsn hTh hpk
  have X2c0 : W3.cell? ⟨w.heap.size, 0, none⟩ = some (.slice Aq nq cq) := X2.cell 0
  have X2f0 : W3.frozen? ⟨w.heap.size, 0, none⟩ = false := X2.free 0
  have X2c1 : W3.cell? ⟨w.heap.size, 1, none⟩ = some (.slice Aa na ca) := X2.cell 1
  have X2f1 : W3.frozen? ⟨w.heap.size, 1, none⟩ = false := X2.free 1
  have X2c2 : W3.cell? ⟨w.heap.size, 2, none⟩ = some (.slice As ns cs) := X2.cell 2
  have X2f2 : W3.frozen? ⟨w.heap.size, 2, none⟩ = false := X2.free 2
  have X2c3 : W3.cell? ⟨w.heap.size, 3, none⟩ = some (.slice Ah n ch) := X2.cell 3
  have X2f3 : W3.frozen? ⟨w.heap.size, 3, none⟩ = false := X2.free 3
  have X2c4 : W3.cell? ⟨w.heap.size, 4, none⟩ = some (.slice Af n cf) := X2.cell 4
  have X2f4 : W3.frozen? ⟨w.heap.size, 4, none⟩ = false := X2.free 4
  have X2z : w.heap.size < W3.heap.size := X2.lt
  have X8c0 : W3.cell? ⟨D + 1, 0, none⟩ = some (.slice Aq2 nq2 cq2) := X8.cell 0
  have X8c1 : W3.cell? ⟨D + 1, 1, none⟩ = some (.slice Aa2 na2 ca2) := X8.cell 1
  have z8 := X8.lt
  go_upto_region 8 with fail
  clear X2c0 X2c1 X2c2 X2c3 X2c4 X2f0 X2f1 X2f2 X2f3 X2f4 X2z X8c0 X8c1 z8
  obtain ⟨HM2, -⟩ := HM1.set2 (SlBox.of X2 (by simp)) Aq2 Aa2 nq2 cq2 na2 ca2
  have HD2 := (HD1.setS (SlBox.of X2 (by simp)) 0 (.slice Aq2 nq2 cq2)).setS ((SlBox.of X2 (by simp)).set 0 Aq2 nq2 cq2) 1 (.slice Aa2 na2 ca2)
  have X2 := (X2.set 0 (.slice Aq2 nq2 cq2)).set 1 (.slice Aa2 na2 ca2)
  have X4 := (X4.other (a := ⟨w.heap.size, 0, none⟩) (by simp <;> omega) (.slice Aq2 nq2 cq2)).other (a := ⟨w.heap.size, 1, none⟩) (by simp <;> omega) (.slice Aa2 na2 ca2)
  have X7 := (X7.other (a := ⟨w.heap.size, 0, none⟩) (by simp <;> omega) (.slice Aq2 nq2 cq2)).other (a := ⟨w.heap.size, 1, none⟩) (by simp <;> omega) (.slice Aa2 na2 ca2)
  have hB := (hB.setCell (p := ⟨w.heap.size, 0, none⟩) (by simp) (.slice Aq2 nq2 cq2)).setCell (p := ⟨w.heap.size, 1, none⟩) (by simp) (.slice Aa2 na2 ca2)
  have hsz2 : D ≤ ((W3.setCell ⟨w.heap.size, 0, none⟩ (.slice Aq2 nq2 cq2)).setCell ⟨w.heap.size, 1, none⟩ (.slice Aa2 na2 ca2)).heap.size := by simp; omega
  clear X8
  generalize (W3.setCell ⟨w.heap.size, 0, none⟩ (.slice Aq2 nq2 cq2)).setCell ⟨w.heap.size, 1, none⟩ (.slice Aa2 na2 ca2) = W4 at X2 X4 X7 hB HM2 HD2 hsz2 ⊢
  simp only [List.set_cons_zero, List.set_cons_succ] at X2
  have hX := hx.out.later hB
  have HX : BxAt W4 W4.heap.size (.slice Aq2 nq2 cq2) (.slice Aa2 na2 ca2) (.slice As ns cs) (.slice Ah n ch) (.slice Af n cf) ⟨m, b.sent, b.heard, b.fresh⟩ := ⟨HM2.more hsz2, hX.sent, hX.heard, hX.fresh⟩
  clear hX
  obtain ⟨u, hu⟩ : ∃ u, Hid (numberT p.data = u) := ⟨_, Lib.hid rfl⟩
  have x72 : W4.cell? ⟨D, 2, none⟩ = some (.slice Ad p.data.length cd) := X7.cell 2
  have z7 := X7.lt
  go_wp2_with fail
  refine (oNumber_is hu (HD2.more hsz2) (by omega)).mono ?_
  rintro e W5 ⟨rfl, hb⟩
  have hB := hB.trans (hb.mono hB.size)
  have HX := HX.later hb
  have X2 := X2.later hb
  have X4 := X4.later hb
  have X7 := X7.later hb
  clear hb x72 z7 HM2 HD2 hsz2 z2 z4
  have x71 : W5.cell? ⟨D, 1, none⟩ = some (.int .i64 p.dst) := X7.cell 1
  have z7 := X7.lt
  rcases HPK.out with ⟨hp1, hp2, hp3⟩ | ⟨g, hp1, hgn, hp2, hp3, hp4, -⟩
  · obtain rfl : T = (⟨m, b.sent, b.heard, b.fresh⟩, false, 0) := by rw [HTH.out, hear_none (fun h => by rw [hp1] at h; omega)]
    have d7 : decide ((0 : Int) < p.dst) = false := by rw [hp1]; decide
    have X2c0 : W5.cell? ⟨w.heap.size, 0, none⟩ = some (.slice Aq2 nq2 cq2) := X2.cell 0
    have X2c1 : W5.cell? ⟨w.heap.size, 1, none⟩ = some (.slice Aa2 na2 ca2) := X2.cell 1
    have X2c2 : W5.cell? ⟨w.heap.size, 2, none⟩ = some (.slice As ns cs) := X2.cell 2
    have X2c3 : W5.cell? ⟨w.heap.size, 3, none⟩ = some (.slice Ah n ch) := X2.cell 3
    have X2c4 : W5.cell? ⟨w.heap.size, 4, none⟩ = some (.slice Af n cf) := X2.cell 4
    have z1 := X2.lt
    have X4c0 : W5.cell? ⟨w.heap.size + 1, 0, none⟩ = some (.slice none 0 0) := X4.cell 0
    have X4f0 : W5.frozen? ⟨w.heap.size + 1, 0, none⟩ = false := X4.free 0
    have X4c1 : W5.cell? ⟨w.heap.size + 1, 1, none⟩ = some (.slice none 0 0) := X4.cell 1
    have X4f1 : W5.frozen? ⟨w.heap.size + 1, 1, none⟩ = false := X4.free 1
    have X4c2 : W5.cell? ⟨w.heap.size + 1, 2, none⟩ = some (.slice none 0 0) := X4.cell 2
    have X4f2 : W5.frozen? ⟨w.heap.size + 1, 2, none⟩ = false := X4.free 2
    have X4c3 : W5.cell? ⟨w.heap.size + 1, 3, none⟩ = some (.slice none 0 0) := X4.cell 3
    have X4f3 : W5.frozen? ⟨w.heap.size + 1, 3, none⟩ = false := X4.free 3
    have X4c4 : W5.cell? ⟨w.heap.size + 1, 4, none⟩ = some (.slice none 0 0) := X4.cell 4
    have X4f4 : W5.frozen? ⟨w.heap.size + 1, 4, none⟩ = false := X4.free 4
    have X4z : w.heap.size + 1 < W5.heap.size := X4.lt
    go_wp2
    have HX5 := HX.set5 (SlBox.of X4 (by simp)) Aq2 Aa2 As Ah Af nq2 cq2 na2 ca2 ns cs n ch n cf
    have Y4 := (((((X4.set 0 (.slice Aq2 nq2 cq2)).set 1 (.slice Aa2 na2 ca2)).set 2 (.slice As ns cs)).set 3 (.slice Ah n ch)).set 4 (.slice Af n cf))
    have hB := (((((hB.setCell (p := ⟨w.heap.size + 1, 0, none⟩) (by simp <;> omega) (.slice Aq2 nq2 cq2)).setCell (p := ⟨w.heap.size + 1, 1, none⟩) (by simp <;> omega) (.slice Aa2 na2 ca2)).setCell (p := ⟨w.heap.size + 1, 2, none⟩) (by simp <;> omega) (.slice As ns cs)).setCell (p := ⟨w.heap.size + 1, 3, none⟩) (by simp <;> omega) (.slice Ah n ch)).setCell (p := ⟨w.heap.size + 1, 4, none⟩) (by simp <;> omega) (.slice Af n cf))
    have hsz : W5.heap.size ≤ (((((W5.setCell ⟨w.heap.size + 1, 0, none⟩ (.slice Aq2 nq2 cq2)).setCell ⟨w.heap.size + 1, 1, none⟩ (.slice Aa2 na2 ca2)).setCell ⟨w.heap.size + 1, 2, none⟩ (.slice As ns cs)).setCell ⟨w.heap.size + 1, 3, none⟩ (.slice Ah n ch)).setCell ⟨w.heap.size + 1, 4, none⟩ (.slice Af n cf)).heap.size := by simp
    clear X2c0 X2c1 X2c2 X2c3 X2c4 X4c0 X4c1 X4c2 X4c3 X4c4 X4f0 X4f1 X4f2 X4f3 X4f4 X4z
    generalize (((((W5.setCell ⟨w.heap.size + 1, 0, none⟩ (.slice Aq2 nq2 cq2)).setCell ⟨w.heap.size + 1, 1, none⟩ (.slice Aa2 na2 ca2)).setCell ⟨w.heap.size + 1, 2, none⟩ (.slice As ns cs)).setCell ⟨w.heap.size + 1, 3, none⟩ (.slice Ah n ch)).setCell ⟨w.heap.size + 1, 4, none⟩ (.slice Af n cf)) = W9 at Y4 hB HX5 hsz ⊢
    simp only [List.set_cons_zero, List.set_cons_succ] at Y4
    have Y4c0 : W9.cell? ⟨w.heap.size + 1, 0, none⟩ = some (.slice Aq2 nq2 cq2) := Y4.cell 0
    have Y4c1 : W9.cell? ⟨w.heap.size + 1, 1, none⟩ = some (.slice Aa2 na2 ca2) := Y4.cell 1
    have Y4c2 : W9.cell? ⟨w.heap.size + 1, 2, none⟩ = some (.slice As ns cs) := Y4.cell 2
    have Y4c3 : W9.cell? ⟨w.heap.size + 1, 3, none⟩ = some (.slice Ah n ch) := Y4.cell 3
    have Y4c4 : W9.cell? ⟨w.heap.size + 1, 4, none⟩ = some (.slice Af n cf) := Y4.cell 4
    refine bodyPost_ret (v := .tuple #[.agg #[.slice Aq2 nq2 cq2, .slice Aa2 na2 ca2, .slice As ns cs, .slice Ah n ch, .slice Af n cf], .bool false, .int .i64 0]) (by simp [results, Try.results23, go_sem, Y4c0, Y4c1, Y4c2, Y4c3, Y4c4]) rfl ?_
    exact ⟨_, _, _, _, _, rfl, HX5.more hsz, hB⟩
  have d7 : decide ((0 : Int) < p.dst) = true := decide_eq_true (by omega)
  rw [hu.out, hns.out] at hp4
  rw [hu.out] at hp3
  have hgn2 : g < n := by rw [← hn.out]; exact hgn
  obtain ⟨bh, oh, rfl, hbh, ck⟩ := hx.out.heard.2.one (k := g) (by rw [hn.out]; exact hgn2)
  replace ck : W5.cell? ⟨bh, oh + g, none⟩ = some (.int .i64 (b.h g)) := (hB.cell hbh).trans ck
  have hbz := Nat.lt_of_lt_of_le hbh hB.size
  have x23 : W5.cell? ⟨w.heap.size, 3, none⟩ = some (.slice (some ⟨bh, oh, none⟩) n ch) := X2.cell 3
  have z1 := X2.lt
  have hsub : p.dst - 1 = (g : Int) := by omega
  have hw1 : wrap64 (p.dst - 1) = (g : Int) := by rw [hsub]; unfold wrap64; omega
  have hw2 : IntKind.i64.wrap (p.dst - 1) = (g : Int) := by rw [hsub]; exact wrapO (by omega) (by omega)
  have hgi : (g : Int) < (n : Int) := by omega
  have HSUB := Lib.hid hsub
  have HP1 := Lib.hid hp1
  have HHS := Lib.hid (fun h : b.h g ≤ u => hear_some (b := b) (p := p) (m := m) HP1.out (by rw [hu.out]; exact h))
  have HHN := Lib.hid (fun h : ¬ b.h g ≤ u => hear_no (b := b) (p := p) (m := m) HP1.out (by rw [hu.out]; exact h))
  clear hsub hp1
  obtain ⟨hg9, hhg⟩ : ∃ q, Hid (b.h g = q) := ⟨_, Lib.hid rfl⟩
  rw [hhg.out] at ck HHS HHN
  by_cases hle : hg9 ≤ u
  rotate_left
  · obtain rfl : T = (⟨m, b.sent, b.heard, b.fresh⟩, false, 0) := by rw [HTH.out, HHN.out hle]
    have d8 : decide (hg9 ≤ u) = false := decide_eq_false hle
    have X2c0 : W5.cell? ⟨w.heap.size, 0, none⟩ = some (.slice Aq2 nq2 cq2) := X2.cell 0
    have X2c1 : W5.cell? ⟨w.heap.size, 1, none⟩ = some (.slice Aa2 na2 ca2) := X2.cell 1
    have X2c2 : W5.cell? ⟨w.heap.size, 2, none⟩ = some (.slice As ns cs) := X2.cell 2
    have X2c3 : W5.cell? ⟨w.heap.size, 3, none⟩ = some (.slice (some ⟨bh, oh, none⟩) n ch) := X2.cell 3
    have X2c4 : W5.cell? ⟨w.heap.size, 4, none⟩ = some (.slice Af n cf) := X2.cell 4
    have z1 := X2.lt
    have X4c0 : W5.cell? ⟨w.heap.size + 1, 0, none⟩ = some (.slice none 0 0) := X4.cell 0
    have X4f0 : W5.frozen? ⟨w.heap.size + 1, 0, none⟩ = false := X4.free 0
    have X4c1 : W5.cell? ⟨w.heap.size + 1, 1, none⟩ = some (.slice none 0 0) := X4.cell 1
    have X4f1 : W5.frozen? ⟨w.heap.size + 1, 1, none⟩ = false := X4.free 1
    have X4c2 : W5.cell? ⟨w.heap.size + 1, 2, none⟩ = some (.slice none 0 0) := X4.cell 2
    have X4f2 : W5.frozen? ⟨w.heap.size + 1, 2, none⟩ = false := X4.free 2
    have X4c3 : W5.cell? ⟨w.heap.size + 1, 3, none⟩ = some (.slice none 0 0) := X4.cell 3
    have X4f3 : W5.frozen? ⟨w.heap.size + 1, 3, none⟩ = false := X4.free 3
    have X4c4 : W5.cell? ⟨w.heap.size + 1, 4, none⟩ = some (.slice none 0 0) := X4.cell 4
    have X4f4 : W5.frozen? ⟨w.heap.size + 1, 4, none⟩ = false := X4.free 4
    have X4z : w.heap.size + 1 < W5.heap.size := X4.lt
    go_wp2
    have HX5 := HX.set5 (SlBox.of X4 (by simp)) Aq2 Aa2 As (some ⟨bh, oh, none⟩) Af nq2 cq2 na2 ca2 ns cs n ch n cf
    have Y4 := (((((X4.set 0 (.slice Aq2 nq2 cq2)).set 1 (.slice Aa2 na2 ca2)).set 2 (.slice As ns cs)).set 3 (.slice (some ⟨bh, oh, none⟩) n ch)).set 4 (.slice Af n cf))
    have hB := (((((hB.setCell (p := ⟨w.heap.size + 1, 0, none⟩) (by simp <;> omega) (.slice Aq2 nq2 cq2)).setCell (p := ⟨w.heap.size + 1, 1, none⟩) (by simp <;> omega) (.slice Aa2 na2 ca2)).setCell (p := ⟨w.heap.size + 1, 2, none⟩) (by simp <;> omega) (.slice As ns cs)).setCell (p := ⟨w.heap.size + 1, 3, none⟩) (by simp <;> omega) (.slice (some ⟨bh, oh, none⟩) n ch)).setCell (p := ⟨w.heap.size + 1, 4, none⟩) (by simp <;> omega) (.slice Af n cf))
    have hsz : W5.heap.size ≤ (((((W5.setCell ⟨w.heap.size + 1, 0, none⟩ (.slice Aq2 nq2 cq2)).setCell ⟨w.heap.size + 1, 1, none⟩ (.slice Aa2 na2 ca2)).setCell ⟨w.heap.size + 1, 2, none⟩ (.slice As ns cs)).setCell ⟨w.heap.size + 1, 3, none⟩ (.slice (some ⟨bh, oh, none⟩) n ch)).setCell ⟨w.heap.size + 1, 4, none⟩ (.slice Af n cf)).heap.size := by simp
    clear X2c0 X2c1 X2c2 X2c3 X2c4 X4c0 X4c1 X4c2 X4c3 X4c4 X4f0 X4f1 X4f2 X4f3 X4f4 X4z
    generalize (((((W5.setCell ⟨w.heap.size + 1, 0, none⟩ (.slice Aq2 nq2 cq2)).setCell ⟨w.heap.size + 1, 1, none⟩ (.slice Aa2 na2 ca2)).setCell ⟨w.heap.size + 1, 2, none⟩ (.slice As ns cs)).setCell ⟨w.heap.size + 1, 3, none⟩ (.slice (some ⟨bh, oh, none⟩) n ch)).setCell ⟨w.heap.size + 1, 4, none⟩ (.slice Af n cf)) = W9 at Y4 hB HX5 hsz ⊢
    simp only [List.set_cons_zero, List.set_cons_succ] at Y4
    have Y4c0 : W9.cell? ⟨w.heap.size + 1, 0, none⟩ = some (.slice Aq2 nq2 cq2) := Y4.cell 0
    have Y4c1 : W9.cell? ⟨w.heap.size + 1, 1, none⟩ = some (.slice Aa2 na2 ca2) := Y4.cell 1
    have Y4c2 : W9.cell? ⟨w.heap.size + 1, 2, none⟩ = some (.slice As ns cs) := Y4.cell 2
    have Y4c3 : W9.cell? ⟨w.heap.size + 1, 3, none⟩ = some (.slice (some ⟨bh, oh, none⟩) n ch) := Y4.cell 3
    have Y4c4 : W9.cell? ⟨w.heap.size + 1, 4, none⟩ = some (.slice Af n cf) := Y4.cell 4
    refine bodyPost_ret (v := .tuple #[.agg #[.slice Aq2 nq2 cq2, .slice Aa2 na2 ca2, .slice As ns cs, .slice (some ⟨bh, oh, none⟩) n ch, .slice Af n cf], .bool false, .int .i64 0]) (by simp [results, Try.results23, go_sem, Y4c0, Y4c1, Y4c2, Y4c3, Y4c4]) rfl ?_
    exact ⟨_, _, _, _, _, rfl, HX5.more hsz, hB⟩
  have d8 : decide (hg9 ≤ u) = true := decide_eq_true hle
  obtain rfl : T = (⟨m, b.sent, b.heard.set g (u + 1), b.fresh.set g true⟩, true, 0) := by rw [HTH.out, HHS.out hle, hu.out]
  go_upto_region 10 with fail
  have X2c0 : W5.cell? ⟨w.heap.size, 0, none⟩ = some (.slice Aq2 nq2 cq2) := X2.cell 0
  have X2c1 : W5.cell? ⟨w.heap.size, 1, none⟩ = some (.slice Aa2 na2 ca2) := X2.cell 1
  have X2c2 : W5.cell? ⟨w.heap.size, 2, none⟩ = some (.slice As ns cs) := X2.cell 2
  have X2c3 : W5.cell? ⟨w.heap.size, 3, none⟩ = some (.slice (some ⟨bh, oh, none⟩) n ch) := X2.cell 3
  have X2c4 : W5.cell? ⟨w.heap.size, 4, none⟩ = some (.slice Af n cf) := X2.cell 4
  go_wp2_with fail
  refine (oHear_any ⟨m, b.sent, b.heard, b.fresh⟩ g u _ _ _ _ _ _ _ _ _ _ _ _ _ _ W5 (Lib.hid HX) hn hnf hn8 hgn2 (by omega) (Lib.hid rfl)).mono ?_
  rintro e W6 ⟨Aq3, nq3, cq3, Aa3, na3, ca3, As3, ns3, cs3, Ah3, n3, ch3, Af3, nf3, cf3, rfl, HX6, hb⟩
  have hB := hB.trans (hb.mono hB.size)
  have X4 := X4.later hb
  clear hb X2c0 X2c1 X2c2 X2c3 X2c4 ck x23 x71 z7 z1 X2 X7 HX
  have X4c0 : W6.cell? ⟨w.heap.size + 1, 0, none⟩ = some (.slice none 0 0) := X4.cell 0
  have X4f0 : W6.frozen? ⟨w.heap.size + 1, 0, none⟩ = false := X4.free 0
  have X4c1 : W6.cell? ⟨w.heap.size + 1, 1, none⟩ = some (.slice none 0 0) := X4.cell 1
  have X4f1 : W6.frozen? ⟨w.heap.size + 1, 1, none⟩ = false := X4.free 1
  have X4c2 : W6.cell? ⟨w.heap.size + 1, 2, none⟩ = some (.slice none 0 0) := X4.cell 2
  have X4f2 : W6.frozen? ⟨w.heap.size + 1, 2, none⟩ = false := X4.free 2
  have X4c3 : W6.cell? ⟨w.heap.size + 1, 3, none⟩ = some (.slice none 0 0) := X4.cell 3
  have X4f3 : W6.frozen? ⟨w.heap.size + 1, 3, none⟩ = false := X4.free 3
  have X4c4 : W6.cell? ⟨w.heap.size + 1, 4, none⟩ = some (.slice none 0 0) := X4.cell 4
  have X4f4 : W6.frozen? ⟨w.heap.size + 1, 4, none⟩ = false := X4.free 4
  have X4z : w.heap.size + 1 < W6.heap.size := X4.lt
  go_wp2
  have HX5 := HX6.set5 (SlBox.of X4 (by simp)) Aq3 Aa3 As3 Ah3 Af3 nq3 cq3 na3 ca3 ns3 cs3 n3 ch3 nf3 cf3
  have Y4 := (((((X4.set 0 (.slice Aq3 nq3 cq3)).set 1 (.slice Aa3 na3 ca3)).set 2 (.slice As3 ns3 cs3)).set 3 (.slice Ah3 n3 ch3)).set 4 (.slice Af3 nf3 cf3))
  have hB := (((((hB.setCell (p := ⟨w.heap.size + 1, 0, none⟩) (by simp <;> omega) (.slice Aq3 nq3 cq3)).setCell (p := ⟨w.heap.size + 1, 1, none⟩) (by simp <;> omega) (.slice Aa3 na3 ca3)).setCell (p := ⟨w.heap.size + 1, 2, none⟩) (by simp <;> omega) (.slice As3 ns3 cs3)).setCell (p := ⟨w.heap.size + 1, 3, none⟩) (by simp <;> omega) (.slice Ah3 n3 ch3)).setCell (p := ⟨w.heap.size + 1, 4, none⟩) (by simp <;> omega) (.slice Af3 nf3 cf3))
  have hsz : W6.heap.size ≤ (((((W6.setCell ⟨w.heap.size + 1, 0, none⟩ (.slice Aq3 nq3 cq3)).setCell ⟨w.heap.size + 1, 1, none⟩ (.slice Aa3 na3 ca3)).setCell ⟨w.heap.size + 1, 2, none⟩ (.slice As3 ns3 cs3)).setCell ⟨w.heap.size + 1, 3, none⟩ (.slice Ah3 n3 ch3)).setCell ⟨w.heap.size + 1, 4, none⟩ (.slice Af3 nf3 cf3)).heap.size := by simp
  clear X4c0 X4c1 X4c2 X4c3 X4c4 X4f0 X4f1 X4f2 X4f3 X4f4 X4z
  generalize (((((W6.setCell ⟨w.heap.size + 1, 0, none⟩ (.slice Aq3 nq3 cq3)).setCell ⟨w.heap.size + 1, 1, none⟩ (.slice Aa3 na3 ca3)).setCell ⟨w.heap.size + 1, 2, none⟩ (.slice As3 ns3 cs3)).setCell ⟨w.heap.size + 1, 3, none⟩ (.slice Ah3 n3 ch3)).setCell ⟨w.heap.size + 1, 4, none⟩ (.slice Af3 nf3 cf3)) = W9 at Y4 hB HX5 hsz ⊢
  simp only [List.set_cons_zero, List.set_cons_succ] at Y4
  have Y4c0 : W9.cell? ⟨w.heap.size + 1, 0, none⟩ = some (.slice Aq3 nq3 cq3) := Y4.cell 0
  have Y4c1 : W9.cell? ⟨w.heap.size + 1, 1, none⟩ = some (.slice Aa3 na3 ca3) := Y4.cell 1
  have Y4c2 : W9.cell? ⟨w.heap.size + 1, 2, none⟩ = some (.slice As3 ns3 cs3) := Y4.cell 2
  have Y4c3 : W9.cell? ⟨w.heap.size + 1, 3, none⟩ = some (.slice Ah3 n3 ch3) := Y4.cell 3
  have Y4c4 : W9.cell? ⟨w.heap.size + 1, 4, none⟩ = some (.slice Af3 nf3 cf3) := Y4.cell 4
  refine bodyPost_ret (v := .tuple #[.agg #[.slice Aq3 nq3 cq3, .slice Aa3 na3 ca3, .slice As3 ns3 cs3, .slice Ah3 n3 ch3, .slice Af3 nf3 cf3], .bool true, .int .i64 0]) (by simp [results, Try.results23, go_sem, Y4c0, Y4c1, Y4c2, Y4c3, Y4c4]) rfl ?_
  exact ⟨_, _, _, _, _, rfl, HX5.more hsz, hB⟩
end Go.Proofs.Ytmbifmmkccghfaa

/-
  Rows of one cell an element, copied by append and stored into. No condition.
-/
namespace Go.Proofs.Ytmbifmmkccghfaa
open Go.RowKit

theorem oElemB : ∃ i, Elem 28 4 i (.bool false) 1 1 := by
  obtain ⟨i, h1, h2, h3, h4⟩ := info_parts (show (Try.prog.info? 4).map (fun i => (i.zero, i.size, i.bytes)) = some (some (.bool false), 1, 1) by kernel_rfl)
  exact ⟨i, Try.underlying28, h1, h2, h3, h4, by decide, by decide⟩
abbrev OwnX {α : Type} (enc : α → Value) (w : World) (base e : Nat) (V : Value) (l : List α) : Prop := OwnE (fun x => [enc x]) 1 w base e V l
theorem ownX_empty {α : Type} (enc : α → Value) (w : World) (e : Nat) : OwnX enc (w.alloc (.cells #[] e)) w.heap.size e (.slice (some ⟨w.heap.size, 0, none⟩) 0 0) [] :=
  ⟨by simp, .inr ⟨w.heap.size, 0, #[], rfl, Nat.le_refl _, World.alloc_heap_new w _, Nat.le_refl _, Nat.zero_le _, by simp, by simp⟩⟩
theorem flat_row1 {α : Type} (enc : α → Value) (d : α) (l : List α) : flat l.length 1 (fun i _ => enc (l.getD i d)) = l.flatMap fun x => [enc x] := by
  rw [flat_one]
  apply List.ext_getElem?
  intro j
  have e : l.flatMap (fun x => [enc x]) = l.map enc := by
    induction l with
    | nil => rfl
    | cons x l ih => simp [List.flatMap_cons, ih]
  rw [e, List.getElem?_map, List.getElem?_map]
  rcases Nat.lt_or_ge j l.length with hj | hj
  · rw [List.getElem?_range hj, List.getElem?_eq_getElem hj]
    simp [hj]
  · rw [List.getElem?_eq_none (by simpa using hj), List.getElem?_eq_none hj]
    rfl
theorem app_row1 {α : Type} {enc : α → Value} {d : α} (h1 : ∀ x, (enc x).oneCell' = true) {t e : TypeId} {i : TypeInfo} {z : Value} {bytes : Nat} (E : Elem t e i z 1 bytes) (hby : bytes ≤ 1000) (ty : TypeId) {w : World} {base k : Nat} {V X : Value} {l : List α} (hl : l.length = k) (hk : k ≤ 4096) (hk0 : 0 < k)
    (ho : OwnX enc w base e V []) (hx : SlF X ∧ Sl w w.heap.size 1 k (fun i _ => enc (l.getD i d)) X) (hb : base ≤ w.heap.size) :
    ∃ g c w', (appF #[t, t] ty #[V, X]).run Try.prog w = .ok (.slice (some ⟨g, 0, none⟩) k c) w' ∧ OwnX enc w' base e (.slice (some ⟨g, 0, none⟩) k c) l ∧ w.grownBy w' V.ownBlock := by
  subst hl
  obtain ⟨V', w', hr, h2, h3⟩ := run_app_own E ty (n := 0) (g := fun _ _ => undef) ho hx.2 hx.1 (fun k j _ hj => h1 _) (by unfold maxLen; omega) (by have := Nat.mul_le_mul_left (0 + l.length) hby; omega) hb
  rw [cat_zero, Nat.zero_add, flat_row1] at h2
  have h5 := h2.2
  rcases h5 with ⟨_, h6⟩ | ⟨g', cap, cur, hv, _⟩
  · omega
  · subst hv
    exact ⟨g', cap, w', hr, h2, h3⟩
theorem OwnX.put {α : Type} {enc : α → Value} {w : World} {base e g k c : Nat} {l : List α} (h : OwnX enc w base e (.slice (some ⟨g, 0, none⟩) k c) l) (hl : l.length = k) (j : Nat) (x : α) :
    OwnX enc (w.setCell ⟨g, j, none⟩ (enc x)) base e (.slice (some ⟨g, 0, none⟩) k c) (l.set j x) := by
  have e1 : ∀ l : List α, l.flatMap (fun x => [enc x]) = l.map enc := fun l => by
    induction l with
    | nil => rfl
    | cons x l ih => simp [List.flatMap_cons, ih]
  subst hl
  have := own_set (i := j) h (enc x)
  unfold OwnX OwnE
  rw [e1, List.length_set, List.map_set, ← e1]
  exact this
theorem OwnX.cellAt {α : Type} {enc : α → Value} {w : World} {base e g k c : Nat} {l : List α} (h : OwnX enc w base e (.slice (some ⟨g, 0, none⟩) k c) l) (hl : l.length = k) {j : Nat} (hj : j < k) :
    base ≤ g ∧ g < w.heap.size ∧ (∃ u, w.cell? ⟨g, j, none⟩ = some u) ∧ w.frozen? ⟨g, j, none⟩ = false := by
  subst hl
  obtain ⟨h1, h2, h3, h4⟩ := own_cell h
  have e1 : ∀ l : List α, l.flatMap (fun x => [enc x]) = l.map enc := fun l => by
    induction l with
    | nil => rfl
    | cons x l ih => simp [List.flatMap_cons, ih]
  refine ⟨h1, h2, ⟨enc l[j], ?_⟩, h4 j⟩
  rw [h3 j hj, e1]
  simp [hj]
theorem OwnX.fr {w : World} {base : Nat} {V : Value} {l : List Bool} (h : OwnX Value.bool w base 4 V l) (hl : l.length ≤ maxLen) : FrAt w w.heap.size V l := by
  refine ⟨ownE_cap h, ?_⟩
  obtain ⟨A, c, hv, hc⟩ := OwnE.sl h (fun _ => rfl)
  refine ⟨A, c, hv, hl, fun k hk => ?_⟩
  obtain ⟨b, rfl, _, hb, h2⟩ := hc k hk
  refine ⟨b, 0, rfl, hb, fun j hj => ?_⟩
  obtain rfl : j = 0 := by omega
  rw [Nat.zero_add, h2 0 (by omega)]
  simp [hk]
end Go.Proofs.Ytmbifmmkccghfaa

/-
  Deliver of the reference. (Printed by gen_ru.py and pp.py.) No condition.
-/
namespace Go.Proofs.Ytmbifmmkccghfaa
open Go.RowKit Go.Shelf
attribute [local go_sem] Oper.semAt_some
attribute [local go_sem ↓ high] app_named

set_option maxRecDepth 100000 in
set_option maxHeartbeats 4000000 in
theorem oRDeliver_any (b : Bx) (i : Int) (Aq Aa As Ah Af : Option Addr) (nq cq na ca ns cs n ch nf cf : Nat) (w : World) (hx : Hid (BxAt w w.heap.size (.slice Aq nq cq) (.slice Aa na ca) (.slice As ns cs) (.slice Ah n ch) (.slice Af nf cf) b)) (hns : Hid (b.sent.length = ns)) (hn : Hid (b.heard.length = n)) (hnf : Hid (b.fresh.length = nf)) {T : Bx × Bool × Int} (hT : Hid (b.deliverT i = T)) :
    Calls Try.prog 24 #[.agg #[.slice Aq nq cq, .slice Aa na ca, .slice As ns cs, .slice Ah n ch, .slice Af nf cf], .int .i64 i] w (RetDlv T w) := by
  go_enter Try.func24, Try.ntmps24
  have hB := ((Below.refl w.heap.size w).alloc (Nat.le_refl _) (.cells #[.slice Aq nq cq, .slice Aa na ca, .slice As ns cs, .slice Ah n ch, .slice Af nf cf] 30)).alloc (by simp) (.cells #[.slice none 0 0, .slice none 0 0, .slice none 0 0, .slice none 0 0, .slice none 0 0] 30)
  have X2 := (Box.new w [.slice Aq nq cq, .slice Aa na ca, .slice As ns cs, .slice Ah n ch, .slice Af nf cf] 30).alloc (.cells #[.slice none 0 0, .slice none 0 0, .slice none 0 0, .slice none 0 0, .slice none 0 0] 30)
  have X4 := Box.newAt (w := w.alloc (.cells #[.slice Aq nq cq, .slice Aa na ca, .slice As ns cs, .slice Ah n ch, .slice Af nf cf] 30)) (n := w.heap.size + 1) [.slice none 0 0, .slice none 0 0, .slice none 0 0, .slice none 0 0, .slice none 0 0] 30 (by simp)
  go_upto_region 1 with fail
  generalize (w.alloc (.cells #[.slice Aq nq cq, .slice Aa na ca, .slice As ns cs, .slice Ah n ch, .slice Af nf cf] 30)).alloc (.cells #[.slice none 0 0, .slice none 0 0, .slice none 0 0, .slice none 0 0, .slice none 0 0] 30) = w1 at hB X2 X4 ⊢
  have z1 := X2.lt
  have X2c0 : w1.cell? ⟨w.heap.size, 0, none⟩ = some (.slice Aq nq cq) := X2.cell 0
  have X2c1 : w1.cell? ⟨w.heap.size, 1, none⟩ = some (.slice Aa na ca) := X2.cell 1
  have X2c2 : w1.cell? ⟨w.heap.size, 2, none⟩ = some (.slice As ns cs) := X2.cell 2
  have X2c3 : w1.cell? ⟨w.heap.size, 3, none⟩ = some (.slice Ah n ch) := X2.cell 3
  have X2c4 : w1.cell? ⟨w.heap.size, 4, none⟩ = some (.slice Af nf cf) := X2.cell 4
  obtain ⟨c, hc⟩ : ∃ c, Hid (b.checkT = c) := ⟨_, Lib.hid rfl⟩
  go_wp2_with fail
  refine (oRCheck_is hc (hx.out.later hB)).mono ?_
  rintro e w2 ⟨rfl, hb⟩
  have hB := hB.trans (hb.mono hB.size)
  have X2 := X2.later hb
  have X4 := X4.later hb
  clear hb z1 X2c0 X2c1 X2c2 X2c3 X2c4
  by_cases h0 : c = 0
  rotate_left
  · have d0 : (c != 0) = true := by simp [h0]
    obtain rfl : T = (Bx.zero, false, c) := by rw [← hT.out]; exact deliver_bad hc.out h0
    have X4c0 : w2.cell? ⟨w.heap.size + 1, 0, none⟩ = some (.slice none 0 0) := X4.cell 0
    have X4f0 : w2.frozen? ⟨w.heap.size + 1, 0, none⟩ = false := X4.free 0
    have X4c1 : w2.cell? ⟨w.heap.size + 1, 1, none⟩ = some (.slice none 0 0) := X4.cell 1
    have X4f1 : w2.frozen? ⟨w.heap.size + 1, 1, none⟩ = false := X4.free 1
    have X4c2 : w2.cell? ⟨w.heap.size + 1, 2, none⟩ = some (.slice none 0 0) := X4.cell 2
    have X4f2 : w2.frozen? ⟨w.heap.size + 1, 2, none⟩ = false := X4.free 2
    have X4c3 : w2.cell? ⟨w.heap.size + 1, 3, none⟩ = some (.slice none 0 0) := X4.cell 3
    have X4f3 : w2.frozen? ⟨w.heap.size + 1, 3, none⟩ = false := X4.free 3
    have X4c4 : w2.cell? ⟨w.heap.size + 1, 4, none⟩ = some (.slice none 0 0) := X4.cell 4
    have X4f4 : w2.frozen? ⟨w.heap.size + 1, 4, none⟩ = false := X4.free 4
    have X4z : w.heap.size + 1 < w2.heap.size := X4.lt
    have Y4 := (((((X4.set 0 (.slice none 0 0)).set 1 (.slice none 0 0)).set 2 (.slice none 0 0)).set 3 (.slice none 0 0)).set 4 (.slice none 0 0))
    have hB2 := (((((hB.setCell (p := ⟨w.heap.size + 1, 0, none⟩) (by simp <;> omega) (.slice none 0 0)).setCell (p := ⟨w.heap.size + 1, 1, none⟩) (by simp <;> omega) (.slice none 0 0)).setCell (p := ⟨w.heap.size + 1, 2, none⟩) (by simp <;> omega) (.slice none 0 0)).setCell (p := ⟨w.heap.size + 1, 3, none⟩) (by simp <;> omega) (.slice none 0 0)).setCell (p := ⟨w.heap.size + 1, 4, none⟩) (by simp <;> omega) (.slice none 0 0))
    go_wp2
    clear X4c0 X4c1 X4c2 X4c3 X4c4 X4f0 X4f1 X4f2 X4f3 X4f4 X4z
    generalize (((((w2.setCell ⟨w.heap.size + 1, 0, none⟩ (.slice none 0 0)).setCell ⟨w.heap.size + 1, 1, none⟩ (.slice none 0 0)).setCell ⟨w.heap.size + 1, 2, none⟩ (.slice none 0 0)).setCell ⟨w.heap.size + 1, 3, none⟩ (.slice none 0 0)).setCell ⟨w.heap.size + 1, 4, none⟩ (.slice none 0 0)) = W8 at Y4 hB2 ⊢
    simp only [List.set_cons_zero, List.set_cons_succ] at Y4
    have Y4c0 : W8.cell? ⟨w.heap.size + 1, 0, none⟩ = some (.slice none 0 0) := Y4.cell 0
    have Y4c1 : W8.cell? ⟨w.heap.size + 1, 1, none⟩ = some (.slice none 0 0) := Y4.cell 1
    have Y4c2 : W8.cell? ⟨w.heap.size + 1, 2, none⟩ = some (.slice none 0 0) := Y4.cell 2
    have Y4c3 : W8.cell? ⟨w.heap.size + 1, 3, none⟩ = some (.slice none 0 0) := Y4.cell 3
    have Y4c4 : W8.cell? ⟨w.heap.size + 1, 4, none⟩ = some (.slice none 0 0) := Y4.cell 4
    refine bodyPost_ret (v := .tuple #[.agg #[.slice none 0 0, .slice none 0 0, .slice none 0 0, .slice none 0 0, .slice none 0 0], .bool false, .int .i64 c]) (by simp [results, Try.results24, go_sem, Y4c0, Y4c1, Y4c2, Y4c3, Y4c4]) rfl ?_
    exact ⟨_, _, _, _, _, rfl, bxAt_zero _ _, hB2⟩
  subst h0
  have hok := check_ok hc.out
  have HOK := Lib.hid hok
  obtain ⟨hl1, -, hga, -, -⟩ := okB_parts hok
  have HGA := Lib.hid hga
  have hl1 := of_decide_eq_true hl1
  rw [hn.out, hns.out, hnf.out] at hl1
  obtain ⟨⟨hn1, hn8⟩, hl2', hn4⟩ := hl1
  obtain rfl : nf = n := hl2'
  obtain ⟨n, rfl⟩ : ∃ q, q = nf := ⟨_, rfl⟩
  clear hok hga
  have z1 := X2.lt
  have X2c0 : w2.cell? ⟨w.heap.size, 0, none⟩ = some (.slice Aq nq cq) := X2.cell 0
  have X2c1 : w2.cell? ⟨w.heap.size, 1, none⟩ = some (.slice Aa na ca) := X2.cell 1
  have X2c2 : w2.cell? ⟨w.heap.size, 2, none⟩ = some (.slice As ns cs) := X2.cell 2
  have X2c3 : w2.cell? ⟨w.heap.size, 3, none⟩ = some (.slice Ah n ch) := X2.cell 3
  have X2c4 : w2.cell? ⟨w.heap.size, 4, none⟩ = some (.slice Af n cf) := X2.cell 4
  have HN := Lib.hid (hx.out.net.later hB)
  go_wp2_with fail
  refine (nRDeliver_is b.net i HN).mono ?_
  rintro e w3 ⟨V, p, Vq, Va, m, er, rfl, hT2, hD2, hN2, hb⟩
  obtain ⟨Aq2, nq2, cq2, Aa2, na2, ca2, rfl, rfl⟩ := hN2.out.form
  obtain ⟨Ad, cd, rfl, hdl⟩ := hD2.out.form
  have HM := hN2.out.at hb.size
  have HD := hD2.out.more hb.size
  have hB := hB.trans (hb.mono hB.size)
  have X2 := X2.later hb
  have X4 := X4.later hb
  clear hb z1 X2c0 X2c1 X2c2 X2c3 X2c4 hN2 HN hD2
  go_upto_region 5 with fail
  have hal := ((Below.refl w3.heap.size w3).alloc (Nat.le_refl _) (.cells #[.int .i64 p.src, .int .i64 p.dst, .slice Ad p.data.length cd] 51)).alloc (by simp) (.cells #[.slice Aq2 nq2 cq2, .slice Aa2 na2 ca2] 25)
  have X7 := (Box.new w3 [.int .i64 p.src, .int .i64 p.dst, .slice Ad p.data.length cd] 51).alloc (.cells #[.slice Aq2 nq2 cq2, .slice Aa2 na2 ca2] 25)
  have X8 := Box.newAt (w := w3.alloc (.cells #[.int .i64 p.src, .int .i64 p.dst, .slice Ad p.data.length cd] 51)) (n := w3.heap.size + 1) [.slice Aq2 nq2 cq2, .slice Aa2 na2 ca2] 25 (by simp)
  have z2 := X2.lt
  have z4 := X4.lt
  have X2 := X2.later hal
  have X4 := X4.later hal
  have hB := hB.trans (hal.mono hB.size)
  have HM1 := HM.below hal
  have HD1 := BytesAt.below HD hal
  have hDz := hal.size
  clear hal HM HD
  generalize (w3.alloc (.cells #[.int .i64 p.src, .int .i64 p.dst, .slice Ad p.data.length cd] 51)).alloc (.cells #[.slice Aq2 nq2 cq2, .slice Aa2 na2 ca2] 25) = W3 at X7 X8 X2 X4 hB HM1 HD1 hDz ⊢
  generalize w3.heap.size = D at X7 X8 HM1 HD1 hDz z2 z4 ⊢
  have hsn := deliver_net (b := b) (p := p) (m := m) (er := er) HOK.out hT2.out
  by_cases he : er = 0
  rotate_left
  · have d6 : (er != 0) = true := by simp [he]
    obtain rfl : T = (Bx.zero, false, er) := by rw [← hT.out]; exact hsn.trans (if_neg he)
    have X4c0 : W3.cell? ⟨w.heap.size + 1, 0, none⟩ = some (.slice none 0 0) := X4.cell 0
    have X4f0 : W3.frozen? ⟨w.heap.size + 1, 0, none⟩ = false := X4.free 0
    have X4c1 : W3.cell? ⟨w.heap.size + 1, 1, none⟩ = some (.slice none 0 0) := X4.cell 1
    have X4f1 : W3.frozen? ⟨w.heap.size + 1, 1, none⟩ = false := X4.free 1
    have X4c2 : W3.cell? ⟨w.heap.size + 1, 2, none⟩ = some (.slice none 0 0) := X4.cell 2
    have X4f2 : W3.frozen? ⟨w.heap.size + 1, 2, none⟩ = false := X4.free 2
    have X4c3 : W3.cell? ⟨w.heap.size + 1, 3, none⟩ = some (.slice none 0 0) := X4.cell 3
    have X4f3 : W3.frozen? ⟨w.heap.size + 1, 3, none⟩ = false := X4.free 3
    have X4c4 : W3.cell? ⟨w.heap.size + 1, 4, none⟩ = some (.slice none 0 0) := X4.cell 4
    have X4f4 : W3.frozen? ⟨w.heap.size + 1, 4, none⟩ = false := X4.free 4
    have X4z : w.heap.size + 1 < W3.heap.size := X4.lt
    have Y4 := (((((X4.set 0 (.slice none 0 0)).set 1 (.slice none 0 0)).set 2 (.slice none 0 0)).set 3 (.slice none 0 0)).set 4 (.slice none 0 0))
    have hB2 := (((((hB.setCell (p := ⟨w.heap.size + 1, 0, none⟩) (by simp <;> omega) (.slice none 0 0)).setCell (p := ⟨w.heap.size + 1, 1, none⟩) (by simp <;> omega) (.slice none 0 0)).setCell (p := ⟨w.heap.size + 1, 2, none⟩) (by simp <;> omega) (.slice none 0 0)).setCell (p := ⟨w.heap.size + 1, 3, none⟩) (by simp <;> omega) (.slice none 0 0)).setCell (p := ⟨w.heap.size + 1, 4, none⟩) (by simp <;> omega) (.slice none 0 0))
    go_wp2
    clear X4c0 X4c1 X4c2 X4c3 X4c4 X4f0 X4f1 X4f2 X4f3 X4f4 X4z
    generalize (((((W3.setCell ⟨w.heap.size + 1, 0, none⟩ (.slice none 0 0)).setCell ⟨w.heap.size + 1, 1, none⟩ (.slice none 0 0)).setCell ⟨w.heap.size + 1, 2, none⟩ (.slice none 0 0)).setCell ⟨w.heap.size + 1, 3, none⟩ (.slice none 0 0)).setCell ⟨w.heap.size + 1, 4, none⟩ (.slice none 0 0)) = W8 at Y4 hB2 ⊢
    simp only [List.set_cons_zero, List.set_cons_succ] at Y4
    have Y4c0 : W8.cell? ⟨w.heap.size + 1, 0, none⟩ = some (.slice none 0 0) := Y4.cell 0
    have Y4c1 : W8.cell? ⟨w.heap.size + 1, 1, none⟩ = some (.slice none 0 0) := Y4.cell 1
    have Y4c2 : W8.cell? ⟨w.heap.size + 1, 2, none⟩ = some (.slice none 0 0) := Y4.cell 2
    have Y4c3 : W8.cell? ⟨w.heap.size + 1, 3, none⟩ = some (.slice none 0 0) := Y4.cell 3
    have Y4c4 : W8.cell? ⟨w.heap.size + 1, 4, none⟩ = some (.slice none 0 0) := Y4.cell 4
    refine bodyPost_ret (v := .tuple #[.agg #[.slice none 0 0, .slice none 0 0, .slice none 0 0, .slice none 0 0, .slice none 0 0], .bool false, .int .i64 er]) (by simp [results, Try.results24, go_sem, Y4c0, Y4c1, Y4c2, Y4c3, Y4c4]) rfl ?_
    exact ⟨_, _, _, _, _, rfl, bxAt_zero _ _, hB2⟩
  subst he
  have hTh : T = ((b.hear p m).1, (b.hear p m).2, 0) := by rw [← hT.out]; exact hsn.trans (if_pos rfl)
  have HTH := Lib.hid hTh
  obtain ⟨hd32, hpk⟩ := deliver_ok HOK.out hT2.out hdl
  have HPK := Lib.hid hpk
  clear hsn hTh hpk
  have X2c0 : W3.cell? ⟨w.heap.size, 0, none⟩ = some (.slice Aq nq cq) := X2.cell 0
  have X2f0 : W3.frozen? ⟨w.heap.size, 0, none⟩ = false := X2.free 0
  have X2c1 : W3.cell? ⟨w.heap.size, 1, none⟩ = some (.slice Aa na ca) := X2.cell 1
  have X2f1 : W3.frozen? ⟨w.heap.size, 1, none⟩ = false := X2.free 1
  have X2c2 : W3.cell? ⟨w.heap.size, 2, none⟩ = some (.slice As ns cs) := X2.cell 2
  have X2f2 : W3.frozen? ⟨w.heap.size, 2, none⟩ = false := X2.free 2
  have X2c3 : W3.cell? ⟨w.heap.size, 3, none⟩ = some (.slice Ah n ch) := X2.cell 3
  have X2f3 : W3.frozen? ⟨w.heap.size, 3, none⟩ = false := X2.free 3
  have X2c4 : W3.cell? ⟨w.heap.size, 4, none⟩ = some (.slice Af n cf) := X2.cell 4
  have X2f4 : W3.frozen? ⟨w.heap.size, 4, none⟩ = false := X2.free 4
  have X2z : w.heap.size < W3.heap.size := X2.lt
  have X8c0 : W3.cell? ⟨D + 1, 0, none⟩ = some (.slice Aq2 nq2 cq2) := X8.cell 0
  have X8c1 : W3.cell? ⟨D + 1, 1, none⟩ = some (.slice Aa2 na2 ca2) := X8.cell 1
  have z8 := X8.lt
  go_upto_region 8 with fail
  clear X2c0 X2c1 X2c2 X2c3 X2c4 X2f0 X2f1 X2f2 X2f3 X2f4 X2z X8c0 X8c1 z8
  obtain ⟨HM2, -⟩ := HM1.set2 (SlBox.of X2 (by simp)) Aq2 Aa2 nq2 cq2 na2 ca2
  have HD2 := (HD1.setS (SlBox.of X2 (by simp)) 0 (.slice Aq2 nq2 cq2)).setS ((SlBox.of X2 (by simp)).set 0 Aq2 nq2 cq2) 1 (.slice Aa2 na2 ca2)
  have X2 := (X2.set 0 (.slice Aq2 nq2 cq2)).set 1 (.slice Aa2 na2 ca2)
  have X4 := (X4.other (a := ⟨w.heap.size, 0, none⟩) (by simp <;> omega) (.slice Aq2 nq2 cq2)).other (a := ⟨w.heap.size, 1, none⟩) (by simp <;> omega) (.slice Aa2 na2 ca2)
  have X7 := (X7.other (a := ⟨w.heap.size, 0, none⟩) (by simp <;> omega) (.slice Aq2 nq2 cq2)).other (a := ⟨w.heap.size, 1, none⟩) (by simp <;> omega) (.slice Aa2 na2 ca2)
  have hB := (hB.setCell (p := ⟨w.heap.size, 0, none⟩) (by simp) (.slice Aq2 nq2 cq2)).setCell (p := ⟨w.heap.size, 1, none⟩) (by simp) (.slice Aa2 na2 ca2)
  have hsz2 : D ≤ ((W3.setCell ⟨w.heap.size, 0, none⟩ (.slice Aq2 nq2 cq2)).setCell ⟨w.heap.size, 1, none⟩ (.slice Aa2 na2 ca2)).heap.size := by simp; omega
  clear X8
  generalize (W3.setCell ⟨w.heap.size, 0, none⟩ (.slice Aq2 nq2 cq2)).setCell ⟨w.heap.size, 1, none⟩ (.slice Aa2 na2 ca2) = W4 at X2 X4 X7 hB HM2 HD2 hsz2 ⊢
  simp only [List.set_cons_zero, List.set_cons_succ] at X2
  have hX := hx.out.later hB
  have HX : BxAt W4 W4.heap.size (.slice Aq2 nq2 cq2) (.slice Aa2 na2 ca2) (.slice As ns cs) (.slice Ah n ch) (.slice Af n cf) ⟨m, b.sent, b.heard, b.fresh⟩ := ⟨HM2.more hsz2, hX.sent, hX.heard, hX.fresh⟩
  clear hX
  have x70 : W4.cell? ⟨D, 0, none⟩ = some (.int .i64 p.src) := X7.cell 0
  have x71 : W4.cell? ⟨D, 1, none⟩ = some (.int .i64 p.dst) := X7.cell 1
  have x72 : W4.cell? ⟨D, 2, none⟩ = some (.slice Ad p.data.length cd) := X7.cell 2
  have z7 := X7.lt
  rcases HPK.out with ⟨hp1, hp2, hp3⟩ | ⟨g, hp1, hgn, hp2, hp3, hp4, o, hrd⟩
  · obtain rfl : T = (⟨m, b.sent, b.heard, b.fresh⟩, false, 0) := by rw [HTH.out, hear_none (fun h => by rw [hp1] at h; omega)]
    have d7 : (p.src == p.dst) = true := by rw [hp1, hp2]; rfl
    have X2c0 : W4.cell? ⟨w.heap.size, 0, none⟩ = some (.slice Aq2 nq2 cq2) := X2.cell 0
    have X2c1 : W4.cell? ⟨w.heap.size, 1, none⟩ = some (.slice Aa2 na2 ca2) := X2.cell 1
    have X2c2 : W4.cell? ⟨w.heap.size, 2, none⟩ = some (.slice As ns cs) := X2.cell 2
    have X2c3 : W4.cell? ⟨w.heap.size, 3, none⟩ = some (.slice Ah n ch) := X2.cell 3
    have X2c4 : W4.cell? ⟨w.heap.size, 4, none⟩ = some (.slice Af n cf) := X2.cell 4
    have z1 := X2.lt
    have X4c0 : W4.cell? ⟨w.heap.size + 1, 0, none⟩ = some (.slice none 0 0) := X4.cell 0
    have X4f0 : W4.frozen? ⟨w.heap.size + 1, 0, none⟩ = false := X4.free 0
    have X4c1 : W4.cell? ⟨w.heap.size + 1, 1, none⟩ = some (.slice none 0 0) := X4.cell 1
    have X4f1 : W4.frozen? ⟨w.heap.size + 1, 1, none⟩ = false := X4.free 1
    have X4c2 : W4.cell? ⟨w.heap.size + 1, 2, none⟩ = some (.slice none 0 0) := X4.cell 2
    have X4f2 : W4.frozen? ⟨w.heap.size + 1, 2, none⟩ = false := X4.free 2
    have X4c3 : W4.cell? ⟨w.heap.size + 1, 3, none⟩ = some (.slice none 0 0) := X4.cell 3
    have X4f3 : W4.frozen? ⟨w.heap.size + 1, 3, none⟩ = false := X4.free 3
    have X4c4 : W4.cell? ⟨w.heap.size + 1, 4, none⟩ = some (.slice none 0 0) := X4.cell 4
    have X4f4 : W4.frozen? ⟨w.heap.size + 1, 4, none⟩ = false := X4.free 4
    have X4z : w.heap.size + 1 < W4.heap.size := X4.lt
    go_wp2
    have HX5 := HX.set5 (SlBox.of X4 (by simp)) Aq2 Aa2 As Ah Af nq2 cq2 na2 ca2 ns cs n ch n cf
    have Y4 := (((((X4.set 0 (.slice Aq2 nq2 cq2)).set 1 (.slice Aa2 na2 ca2)).set 2 (.slice As ns cs)).set 3 (.slice Ah n ch)).set 4 (.slice Af n cf))
    have hB := (((((hB.setCell (p := ⟨w.heap.size + 1, 0, none⟩) (by simp <;> omega) (.slice Aq2 nq2 cq2)).setCell (p := ⟨w.heap.size + 1, 1, none⟩) (by simp <;> omega) (.slice Aa2 na2 ca2)).setCell (p := ⟨w.heap.size + 1, 2, none⟩) (by simp <;> omega) (.slice As ns cs)).setCell (p := ⟨w.heap.size + 1, 3, none⟩) (by simp <;> omega) (.slice Ah n ch)).setCell (p := ⟨w.heap.size + 1, 4, none⟩) (by simp <;> omega) (.slice Af n cf))
    have hsz : W4.heap.size ≤ (((((W4.setCell ⟨w.heap.size + 1, 0, none⟩ (.slice Aq2 nq2 cq2)).setCell ⟨w.heap.size + 1, 1, none⟩ (.slice Aa2 na2 ca2)).setCell ⟨w.heap.size + 1, 2, none⟩ (.slice As ns cs)).setCell ⟨w.heap.size + 1, 3, none⟩ (.slice Ah n ch)).setCell ⟨w.heap.size + 1, 4, none⟩ (.slice Af n cf)).heap.size := by simp
    clear X2c0 X2c1 X2c2 X2c3 X2c4 X4c0 X4c1 X4c2 X4c3 X4c4 X4f0 X4f1 X4f2 X4f3 X4f4 X4z
    generalize (((((W4.setCell ⟨w.heap.size + 1, 0, none⟩ (.slice Aq2 nq2 cq2)).setCell ⟨w.heap.size + 1, 1, none⟩ (.slice Aa2 na2 ca2)).setCell ⟨w.heap.size + 1, 2, none⟩ (.slice As ns cs)).setCell ⟨w.heap.size + 1, 3, none⟩ (.slice Ah n ch)).setCell ⟨w.heap.size + 1, 4, none⟩ (.slice Af n cf)) = W9 at Y4 hB HX5 hsz ⊢
    simp only [List.set_cons_zero, List.set_cons_succ] at Y4
    have Y4c0 : W9.cell? ⟨w.heap.size + 1, 0, none⟩ = some (.slice Aq2 nq2 cq2) := Y4.cell 0
    have Y4c1 : W9.cell? ⟨w.heap.size + 1, 1, none⟩ = some (.slice Aa2 na2 ca2) := Y4.cell 1
    have Y4c2 : W9.cell? ⟨w.heap.size + 1, 2, none⟩ = some (.slice As ns cs) := Y4.cell 2
    have Y4c3 : W9.cell? ⟨w.heap.size + 1, 3, none⟩ = some (.slice Ah n ch) := Y4.cell 3
    have Y4c4 : W9.cell? ⟨w.heap.size + 1, 4, none⟩ = some (.slice Af n cf) := Y4.cell 4
    refine bodyPost_ret (v := .tuple #[.agg #[.slice Aq2 nq2 cq2, .slice Aa2 na2 ca2, .slice As ns cs, .slice Ah n ch, .slice Af n cf], .bool false, .int .i64 0]) (by simp [results, Try.results24, go_sem, Y4c0, Y4c1, Y4c2, Y4c3, Y4c4]) rfl ?_
    exact ⟨_, _, _, _, _, rfl, HX5.more hsz, hB⟩
  have d7 : (p.src == p.dst) = false := by simp; omega
  obtain ⟨u, hu⟩ : ∃ u, Hid (numberT p.data = u) := ⟨_, Lib.hid rfl⟩
  rw [hu.out] at hrd
  have HRD := Lib.hid hrd
  clear hrd
  go_wp2_with fail
  refine (rRead_is HRD (HD2.more hsz2) (by omega)).mono ?_
  rintro e W5 ⟨rfl, hb⟩
  have hB := hB.trans (hb.mono hB.size)
  have HX := HX.later hb
  have X2 := X2.later hb
  have X4 := X4.later hb
  have X7 := X7.later hb
  clear hb x70 x71 x72 z7 HM2 HD2 hsz2 z2 z4 d7
  have x71 : W5.cell? ⟨D, 1, none⟩ = some (.int .i64 p.dst) := X7.cell 1
  have z7 := X7.lt
  have hrv : readV (some (u, o)) = .tuple #[.int .i64 u, .int .i64 o, .bool true] := rfl
  rw [hrv]
  rw [hu.out, hns.out] at hp4
  rw [hu.out] at hp3
  have hgn2 : g < n := by rw [← hn.out]; exact hgn
  obtain ⟨bh, oh, rfl, hbh, ck⟩ := hx.out.heard.2.one (k := g) (by rw [hn.out]; exact hgn2)
  replace ck : W5.cell? ⟨bh, oh + g, none⟩ = some (.int .i64 (b.h g)) := (hB.cell hbh).trans ck
  have hbz := Nat.lt_of_lt_of_le hbh hB.size
  have x23 : W5.cell? ⟨w.heap.size, 3, none⟩ = some (.slice (some ⟨bh, oh, none⟩) n ch) := X2.cell 3
  have z1 := X2.lt
  have hsub : p.dst - 1 = (g : Int) := by omega
  have hw1 : wrap64 (p.dst - 1) = (g : Int) := by rw [hsub]; unfold wrap64; omega
  have hw2 : IntKind.i64.wrap (p.dst - 1) = (g : Int) := by rw [hsub]; exact wrapO (by omega) (by omega)
  have hgi : (g : Int) < (n : Int) := by omega
  have HSUB := Lib.hid hsub
  have HP1 := Lib.hid hp1
  have HHS := Lib.hid (fun h : b.h g ≤ u => hear_some (b := b) (p := p) (m := m) HP1.out (by rw [hu.out]; exact h))
  have HHN := Lib.hid (fun h : ¬ b.h g ≤ u => hear_no (b := b) (p := p) (m := m) HP1.out (by rw [hu.out]; exact h))
  clear hsub hp1
  obtain ⟨hg9, hhg⟩ : ∃ q, Hid (b.h g = q) := ⟨_, Lib.hid rfl⟩
  rw [hhg.out] at ck HHS HHN
  have hw3 : wrap64 (u + 1) = u + 1 := by unfold wrap64; omega
  have hw4 : IntKind.i64.wrap (u + 1) = u + 1 := wrapO (by omega) (by omega)
  by_cases hle : hg9 ≤ u
  rotate_left
  · obtain rfl : T = (⟨m, b.sent, b.heard, b.fresh⟩, false, 0) := by rw [HTH.out, HHN.out hle]
    have d8 : decide (u + 1 ≤ hg9) = true := decide_eq_true (by omega)
    have X2c0 : W5.cell? ⟨w.heap.size, 0, none⟩ = some (.slice Aq2 nq2 cq2) := X2.cell 0
    have X2c1 : W5.cell? ⟨w.heap.size, 1, none⟩ = some (.slice Aa2 na2 ca2) := X2.cell 1
    have X2c2 : W5.cell? ⟨w.heap.size, 2, none⟩ = some (.slice As ns cs) := X2.cell 2
    have X2c3 : W5.cell? ⟨w.heap.size, 3, none⟩ = some (.slice (some ⟨bh, oh, none⟩) n ch) := X2.cell 3
    have X2c4 : W5.cell? ⟨w.heap.size, 4, none⟩ = some (.slice Af n cf) := X2.cell 4
    have z1 := X2.lt
    have X4c0 : W5.cell? ⟨w.heap.size + 1, 0, none⟩ = some (.slice none 0 0) := X4.cell 0
    have X4f0 : W5.frozen? ⟨w.heap.size + 1, 0, none⟩ = false := X4.free 0
    have X4c1 : W5.cell? ⟨w.heap.size + 1, 1, none⟩ = some (.slice none 0 0) := X4.cell 1
    have X4f1 : W5.frozen? ⟨w.heap.size + 1, 1, none⟩ = false := X4.free 1
    have X4c2 : W5.cell? ⟨w.heap.size + 1, 2, none⟩ = some (.slice none 0 0) := X4.cell 2
    have X4f2 : W5.frozen? ⟨w.heap.size + 1, 2, none⟩ = false := X4.free 2
    have X4c3 : W5.cell? ⟨w.heap.size + 1, 3, none⟩ = some (.slice none 0 0) := X4.cell 3
    have X4f3 : W5.frozen? ⟨w.heap.size + 1, 3, none⟩ = false := X4.free 3
    have X4c4 : W5.cell? ⟨w.heap.size + 1, 4, none⟩ = some (.slice none 0 0) := X4.cell 4
    have X4f4 : W5.frozen? ⟨w.heap.size + 1, 4, none⟩ = false := X4.free 4
    have X4z : w.heap.size + 1 < W5.heap.size := X4.lt
    go_wp2
    have HX5 := HX.set5 (SlBox.of X4 (by simp)) Aq2 Aa2 As (some ⟨bh, oh, none⟩) Af nq2 cq2 na2 ca2 ns cs n ch n cf
    have Y4 := (((((X4.set 0 (.slice Aq2 nq2 cq2)).set 1 (.slice Aa2 na2 ca2)).set 2 (.slice As ns cs)).set 3 (.slice (some ⟨bh, oh, none⟩) n ch)).set 4 (.slice Af n cf))
    have hB := (((((hB.setCell (p := ⟨w.heap.size + 1, 0, none⟩) (by simp <;> omega) (.slice Aq2 nq2 cq2)).setCell (p := ⟨w.heap.size + 1, 1, none⟩) (by simp <;> omega) (.slice Aa2 na2 ca2)).setCell (p := ⟨w.heap.size + 1, 2, none⟩) (by simp <;> omega) (.slice As ns cs)).setCell (p := ⟨w.heap.size + 1, 3, none⟩) (by simp <;> omega) (.slice (some ⟨bh, oh, none⟩) n ch)).setCell (p := ⟨w.heap.size + 1, 4, none⟩) (by simp <;> omega) (.slice Af n cf))
    have hsz : W5.heap.size ≤ (((((W5.setCell ⟨w.heap.size + 1, 0, none⟩ (.slice Aq2 nq2 cq2)).setCell ⟨w.heap.size + 1, 1, none⟩ (.slice Aa2 na2 ca2)).setCell ⟨w.heap.size + 1, 2, none⟩ (.slice As ns cs)).setCell ⟨w.heap.size + 1, 3, none⟩ (.slice (some ⟨bh, oh, none⟩) n ch)).setCell ⟨w.heap.size + 1, 4, none⟩ (.slice Af n cf)).heap.size := by simp
    clear X2c0 X2c1 X2c2 X2c3 X2c4 X4c0 X4c1 X4c2 X4c3 X4c4 X4f0 X4f1 X4f2 X4f3 X4f4 X4z
    generalize (((((W5.setCell ⟨w.heap.size + 1, 0, none⟩ (.slice Aq2 nq2 cq2)).setCell ⟨w.heap.size + 1, 1, none⟩ (.slice Aa2 na2 ca2)).setCell ⟨w.heap.size + 1, 2, none⟩ (.slice As ns cs)).setCell ⟨w.heap.size + 1, 3, none⟩ (.slice (some ⟨bh, oh, none⟩) n ch)).setCell ⟨w.heap.size + 1, 4, none⟩ (.slice Af n cf)) = W9 at Y4 hB HX5 hsz ⊢
    simp only [List.set_cons_zero, List.set_cons_succ] at Y4
    have Y4c0 : W9.cell? ⟨w.heap.size + 1, 0, none⟩ = some (.slice Aq2 nq2 cq2) := Y4.cell 0
    have Y4c1 : W9.cell? ⟨w.heap.size + 1, 1, none⟩ = some (.slice Aa2 na2 ca2) := Y4.cell 1
    have Y4c2 : W9.cell? ⟨w.heap.size + 1, 2, none⟩ = some (.slice As ns cs) := Y4.cell 2
    have Y4c3 : W9.cell? ⟨w.heap.size + 1, 3, none⟩ = some (.slice (some ⟨bh, oh, none⟩) n ch) := Y4.cell 3
    have Y4c4 : W9.cell? ⟨w.heap.size + 1, 4, none⟩ = some (.slice Af n cf) := Y4.cell 4
    refine bodyPost_ret (v := .tuple #[.agg #[.slice Aq2 nq2 cq2, .slice Aa2 na2 ca2, .slice As ns cs, .slice (some ⟨bh, oh, none⟩) n ch, .slice Af n cf], .bool false, .int .i64 0]) (by simp [results, Try.results24, go_sem, Y4c0, Y4c1, Y4c2, Y4c3, Y4c4]) rfl ?_
    exact ⟨_, _, _, _, _, rfl, HX5.more hsz, hB⟩
  have d8 : decide (u + 1 ≤ hg9) = false := decide_eq_false (by omega)
  obtain rfl : T = (⟨m, b.sent, b.heard.set g (u + 1), b.fresh.set g true⟩, true, 0) := by rw [HTH.out, HHS.out hle, hu.out]
  go_upto_region 14 with fail
  clear x71 z7 X7 ck x23 z1
  obtain ⟨i9, E9⟩ := oElemI
  have z2 := X2.lt
  have z4 := X4.lt
  have hal := (Below.refl W5.heap.size W5).alloc (Nat.le_refl _) (.cells #[] 3)
  have X2a := X2.later hal
  have X4a := X4.later hal
  have HH := HX.heard.later hal
  have hO0 := ownX_empty (Value.int .i64) W5 3
  obtain ⟨g1, c1, W6, hr, hO, hgr⟩ := app_row1 (fun _ => rfl) E9 (by omega) 27 hn.out (by omega) (by omega) hO0 ⟨HH.1, hn.out ▸ HH.2⟩ hal.size
  have hgn0 := OwnE.grown hO0 hgr (Nat.le_refl _) hal hal.size
  have X2b := box_grown hO0 hgr X2a (by omega)
  have X4b := box_grown hO0 hgr X4a (by omega)
  have HXb := HX.below hgn0
  have hBb := hB.trans (hgn0.mono hB.size)
  have x23a : (W5.alloc (.cells #[] 3)).cell? ⟨w.heap.size, 3, none⟩ = some (.slice (some ⟨bh, oh, none⟩) n ch) := X2a.cell 3
  have x23b : W6.cell? ⟨w.heap.size, 3, none⟩ = some (.slice (some ⟨bh, oh, none⟩) n ch) := X2b.cell 3
  have x23f := X2b.free 3
  have y2a := X2a.lt
  have y2b := X2b.lt
  have hs6 := hgn0.size
  clear hal hgn0 hgr hO0 HH
  go_upto_region 15 with fail
  clear hr x23a x23b x23f y2a
  have X2 := X2b.set 3 (.slice (some ⟨g1, 0, none⟩) n c1)
  have X4 := X4b.other (a := ⟨w.heap.size, 3, none⟩) (by simp <;> omega) (.slice (some ⟨g1, 0, none⟩) n c1)
  have HX := HXb.setS (SlBox.of X2b (by simp)) 3 (.slice (some ⟨g1, 0, none⟩) n c1)
  have HO := OwnE.set hO (a := ⟨w.heap.size, 3, none⟩) (by simp <;> omega) (.slice (some ⟨g1, 0, none⟩) n c1)
  have hB := hBb.setCell (p := ⟨w.heap.size, 3, none⟩) (by simp) (.slice (some ⟨g1, 0, none⟩) n c1)
  have hs7 : W5.heap.size ≤ (W6.setCell ⟨w.heap.size, 3, none⟩ (.slice (some ⟨g1, 0, none⟩) n c1)).heap.size := by simp; omega
  clear X2a X4a X2b X4b HXb hO hBb y2b hs6
  generalize W6.setCell ⟨w.heap.size, 3, none⟩ (.slice (some ⟨g1, 0, none⟩) n c1) = W7 at X2 X4 HX HO hB hs7 ⊢
  simp only [List.set_cons_zero, List.set_cons_succ] at X2
  generalize W5.heap.size = D5 at HX HO hs7 z2 z4
  obtain ⟨hga, hgb, ⟨uu, huu⟩, hff⟩ := OwnX.cellAt HO hn.out hgn2
  have x23 : W7.cell? ⟨w.heap.size, 3, none⟩ = some (.slice (some ⟨g1, 0, none⟩) n c1) := X2.cell 3
  have z2' := X2.lt
  go_upto_region 16 with fail
  clear huu hff x23 z2'
  have HO := OwnX.put HO hn.out g (u + 1)
  have X2 := X2.other (a := ⟨g1, g, none⟩) (by simp <;> omega) (.int .i64 (u + 1))
  have X4 := X4.other (a := ⟨g1, g, none⟩) (by simp <;> omega) (.int .i64 (u + 1))
  have HX := HX.below ((Below.refl D5 W7).setCell (p := ⟨g1, g, none⟩) hga (.int .i64 (u + 1)))
  have hB := hB.setCell (p := ⟨g1, g, none⟩) (by simp <;> omega) (.int .i64 (u + 1))
  have hs8 : D5 ≤ (W7.setCell ⟨g1, g, none⟩ (.int .i64 (u + 1))).heap.size := by simp; omega
  have hg8 : g1 < (W7.setCell ⟨g1, g, none⟩ (.int .i64 (u + 1))).heap.size := by simp; omega
  clear hgb hs7
  generalize W7.setCell ⟨g1, g, none⟩ (.int .i64 (u + 1)) = W8 at X2 X4 HX HO hB hs8 hg8 ⊢
  obtain ⟨i8, E8⟩ := oElemB
  have hal := (Below.refl W8.heap.size W8).alloc (Nat.le_refl _) (.cells #[] 4)
  have X2a := X2.later hal
  have X4a := X4.later hal
  have HH := (HX.fresh.more hs8).later hal
  have hO0 := ownX_empty Value.bool W8 4
  obtain ⟨g2, c2, W9, hr, hO, hgr⟩ := app_row1 (fun _ => rfl) E8 (by omega) 28 hnf.out (by omega) (by omega) hO0 ⟨HH.1, hnf.out ▸ HH.2⟩ hal.size
  have hgn0 := OwnE.grown hO0 hgr (Nat.le_refl _) hal hal.size
  have X2b := box_grown hO0 hgr X2a (by omega)
  have X4b := box_grown hO0 hgr X4a (by omega)
  have HXb := HX.below (hgn0.mono hs8)
  have HOb := World.ownsRow.kept (OwnE.later HO hal) hgr (.inr (by simp [Value.ownBlock]; omega))
  have hBb := hB.trans (hgn0.mono hB.size)
  have x24a : (W8.alloc (.cells #[] 4)).cell? ⟨w.heap.size, 4, none⟩ = some (.slice Af n cf) := X2a.cell 4
  have x24b : W9.cell? ⟨w.heap.size, 4, none⟩ = some (.slice Af n cf) := X2b.cell 4
  have x24f := X2b.free 4
  have y2a := X2a.lt
  have y2b := X2b.lt
  have hs9 := hgn0.size
  clear hal hgn0 hgr hO0 HH
  go_upto_region 17 with fail
  clear hr x24a x24b x24f y2a
  have X2 := X2b.set 4 (.slice (some ⟨g2, 0, none⟩) n c2)
  have X4 := X4b.other (a := ⟨w.heap.size, 4, none⟩) (by simp <;> omega) (.slice (some ⟨g2, 0, none⟩) n c2)
  have HX := HXb.setS (SlBox.of X2b (by simp)) 4 (.slice (some ⟨g2, 0, none⟩) n c2)
  have HO : OwnX (Value.int .i64) _ D5 3 (.slice (some ⟨g1, 0, none⟩) n c1) (b.heard.set g (u + 1)) := OwnE.set (enc := fun x => [Value.int .i64 x]) HOb (a := ⟨w.heap.size, 4, none⟩) (by simp <;> omega) (.slice (some ⟨g2, 0, none⟩) n c2)
  have HF := OwnE.set hO (a := ⟨w.heap.size, 4, none⟩) (by simp <;> omega) (.slice (some ⟨g2, 0, none⟩) n c2)
  have hB := hBb.setCell (p := ⟨w.heap.size, 4, none⟩) (by simp) (.slice (some ⟨g2, 0, none⟩) n c2)
  have hs10 : W8.heap.size ≤ (W9.setCell ⟨w.heap.size, 4, none⟩ (.slice (some ⟨g2, 0, none⟩) n c2)).heap.size := by simp; omega
  clear X2a X4a X2b X4b HXb hO HOb hBb y2b hs9
  generalize W9.setCell ⟨w.heap.size, 4, none⟩ (.slice (some ⟨g2, 0, none⟩) n c2) = W10 at X2 X4 HX HO HF hB hs10 ⊢
  simp only [List.set_cons_zero, List.set_cons_succ] at X2
  generalize W8.heap.size = D8 at HF hs8 hg8 hs10
  obtain ⟨hga, hgb, ⟨uu, huu⟩, hff⟩ := OwnX.cellAt HF hnf.out hgn2
  have x24 : W10.cell? ⟨w.heap.size, 4, none⟩ = some (.slice (some ⟨g2, 0, none⟩) n c2) := X2.cell 4
  have z2' := X2.lt
  go_upto_region 18 with fail
  clear huu hff x24 z2'
  have HF := OwnX.put HF hnf.out g true
  have HO : OwnX (Value.int .i64) (W10.setCell ⟨g2, g, none⟩ (.bool true)) D5 3 (.slice (some ⟨g1, 0, none⟩) n c1) (b.heard.set g (u + 1)) := World.ownsRow.kept HO (row := some g2) ⟨rfl, rfl, rfl, by simp, fun i _ hi => Below.heap_setCell W10 ⟨g2, g, none⟩ (.bool true) i (fun e => hi (by rw [e]))⟩ (.inr (by simp [Value.ownBlock]; omega))
  have X2 := X2.other (a := ⟨g2, g, none⟩) (by simp <;> omega) (.bool true)
  have X4 := X4.other (a := ⟨g2, g, none⟩) (by simp <;> omega) (.bool true)
  have HX := HX.below ((Below.refl D5 W10).setCell (p := ⟨g2, g, none⟩) (by simp <;> omega) (.bool true))
  have hB := hB.setCell (p := ⟨g2, g, none⟩) (by simp <;> omega) (.bool true)
  have hs11 : D5 ≤ (W10.setCell ⟨g2, g, none⟩ (.bool true)).heap.size := by simp; omega
  generalize W10.setCell ⟨g2, g, none⟩ (.bool true) = W11 at X2 X4 HX HO HF hB hs11 ⊢
  have X2c0 : W11.cell? ⟨w.heap.size, 0, none⟩ = some (.slice Aq2 nq2 cq2) := X2.cell 0
  have X2c1 : W11.cell? ⟨w.heap.size, 1, none⟩ = some (.slice Aa2 na2 ca2) := X2.cell 1
  have X2c2 : W11.cell? ⟨w.heap.size, 2, none⟩ = some (.slice As ns cs) := X2.cell 2
  have X2c3 : W11.cell? ⟨w.heap.size, 3, none⟩ = some (.slice (some ⟨g1, 0, none⟩) n c1) := X2.cell 3
  have X2c4 : W11.cell? ⟨w.heap.size, 4, none⟩ = some (.slice (some ⟨g2, 0, none⟩) n c2) := X2.cell 4
  have z1 := X2.lt
  have X4c0 : W11.cell? ⟨w.heap.size + 1, 0, none⟩ = some (.slice none 0 0) := X4.cell 0
  have X4f0 : W11.frozen? ⟨w.heap.size + 1, 0, none⟩ = false := X4.free 0
  have X4c1 : W11.cell? ⟨w.heap.size + 1, 1, none⟩ = some (.slice none 0 0) := X4.cell 1
  have X4f1 : W11.frozen? ⟨w.heap.size + 1, 1, none⟩ = false := X4.free 1
  have X4c2 : W11.cell? ⟨w.heap.size + 1, 2, none⟩ = some (.slice none 0 0) := X4.cell 2
  have X4f2 : W11.frozen? ⟨w.heap.size + 1, 2, none⟩ = false := X4.free 2
  have X4c3 : W11.cell? ⟨w.heap.size + 1, 3, none⟩ = some (.slice none 0 0) := X4.cell 3
  have X4f3 : W11.frozen? ⟨w.heap.size + 1, 3, none⟩ = false := X4.free 3
  have X4c4 : W11.cell? ⟨w.heap.size + 1, 4, none⟩ = some (.slice none 0 0) := X4.cell 4
  have X4f4 : W11.frozen? ⟨w.heap.size + 1, 4, none⟩ = false := X4.free 4
  have X4z : w.heap.size + 1 < W11.heap.size := X4.lt
  go_wp2
  have HX5 := HX.set5 (SlBox.of X4 (by simp)) Aq2 Aa2 As (some ⟨g1, 0, none⟩) (some ⟨g2, 0, none⟩) nq2 cq2 na2 ca2 ns cs n c1 n c2
  have HO : OwnHd _ D5 (.slice (some ⟨g1, 0, none⟩) n c1) (b.heard.set g (u + 1)) := (((((HO.set (a := ⟨w.heap.size + 1, 0, none⟩) (by simp <;> omega) (.slice Aq2 nq2 cq2)).set (a := ⟨w.heap.size + 1, 1, none⟩) (by simp <;> omega) (.slice Aa2 na2 ca2)).set (a := ⟨w.heap.size + 1, 2, none⟩) (by simp <;> omega) (.slice As ns cs)).set (a := ⟨w.heap.size + 1, 3, none⟩) (by simp <;> omega) (.slice (some ⟨g1, 0, none⟩) n c1)).set (a := ⟨w.heap.size + 1, 4, none⟩) (by simp <;> omega) (.slice (some ⟨g2, 0, none⟩) n c2))
  have HF := (((((HF.set (a := ⟨w.heap.size + 1, 0, none⟩) (by simp <;> omega) (.slice Aq2 nq2 cq2)).set (a := ⟨w.heap.size + 1, 1, none⟩) (by simp <;> omega) (.slice Aa2 na2 ca2)).set (a := ⟨w.heap.size + 1, 2, none⟩) (by simp <;> omega) (.slice As ns cs)).set (a := ⟨w.heap.size + 1, 3, none⟩) (by simp <;> omega) (.slice (some ⟨g1, 0, none⟩) n c1)).set (a := ⟨w.heap.size + 1, 4, none⟩) (by simp <;> omega) (.slice (some ⟨g2, 0, none⟩) n c2))
  have Y4 := (((((X4.set 0 (.slice Aq2 nq2 cq2)).set 1 (.slice Aa2 na2 ca2)).set 2 (.slice As ns cs)).set 3 (.slice (some ⟨g1, 0, none⟩) n c1)).set 4 (.slice (some ⟨g2, 0, none⟩) n c2))
  have hB := (((((hB.setCell (p := ⟨w.heap.size + 1, 0, none⟩) (by simp <;> omega) (.slice Aq2 nq2 cq2)).setCell (p := ⟨w.heap.size + 1, 1, none⟩) (by simp <;> omega) (.slice Aa2 na2 ca2)).setCell (p := ⟨w.heap.size + 1, 2, none⟩) (by simp <;> omega) (.slice As ns cs)).setCell (p := ⟨w.heap.size + 1, 3, none⟩) (by simp <;> omega) (.slice (some ⟨g1, 0, none⟩) n c1)).setCell (p := ⟨w.heap.size + 1, 4, none⟩) (by simp <;> omega) (.slice (some ⟨g2, 0, none⟩) n c2))
  have hsz : D5 ≤ (((((W11.setCell ⟨w.heap.size + 1, 0, none⟩ (.slice Aq2 nq2 cq2)).setCell ⟨w.heap.size + 1, 1, none⟩ (.slice Aa2 na2 ca2)).setCell ⟨w.heap.size + 1, 2, none⟩ (.slice As ns cs)).setCell ⟨w.heap.size + 1, 3, none⟩ (.slice (some ⟨g1, 0, none⟩) n c1)).setCell ⟨w.heap.size + 1, 4, none⟩ (.slice (some ⟨g2, 0, none⟩) n c2)).heap.size := by simp; omega
  clear X2c0 X2c1 X2c2 X2c3 X2c4 X4c0 X4c1 X4c2 X4c3 X4c4 X4f0 X4f1 X4f2 X4f3 X4f4 X4z
  generalize (((((W11.setCell ⟨w.heap.size + 1, 0, none⟩ (.slice Aq2 nq2 cq2)).setCell ⟨w.heap.size + 1, 1, none⟩ (.slice Aa2 na2 ca2)).setCell ⟨w.heap.size + 1, 2, none⟩ (.slice As ns cs)).setCell ⟨w.heap.size + 1, 3, none⟩ (.slice (some ⟨g1, 0, none⟩) n c1)).setCell ⟨w.heap.size + 1, 4, none⟩ (.slice (some ⟨g2, 0, none⟩) n c2)) = W12 at Y4 hB HX5 HO HF hsz ⊢
  simp only [List.set_cons_zero, List.set_cons_succ] at Y4
  have Y4c0 : W12.cell? ⟨w.heap.size + 1, 0, none⟩ = some (.slice Aq2 nq2 cq2) := Y4.cell 0
  have Y4c1 : W12.cell? ⟨w.heap.size + 1, 1, none⟩ = some (.slice Aa2 na2 ca2) := Y4.cell 1
  have Y4c2 : W12.cell? ⟨w.heap.size + 1, 2, none⟩ = some (.slice As ns cs) := Y4.cell 2
  have Y4c3 : W12.cell? ⟨w.heap.size + 1, 3, none⟩ = some (.slice (some ⟨g1, 0, none⟩) n c1) := Y4.cell 3
  have Y4c4 : W12.cell? ⟨w.heap.size + 1, 4, none⟩ = some (.slice (some ⟨g2, 0, none⟩) n c2) := Y4.cell 4
  have hH := OwnHd.hd HO (by rw [List.length_set, hn.out]; unfold maxLen; omega)
  have hF := OwnX.fr HF (by rw [List.length_set, hnf.out]; unfold maxLen; omega)
  refine bodyPost_ret (v := .tuple #[.agg #[.slice Aq2 nq2 cq2, .slice Aa2 na2 ca2, .slice As ns cs, .slice (some ⟨g1, 0, none⟩) n c1, .slice (some ⟨g2, 0, none⟩) n c2], .bool true, .int .i64 0]) (by simp [results, Try.results24, go_sem, Y4c0, Y4c1, Y4c2, Y4c3, Y4c4]) rfl ?_
  exact ⟨_, _, _, _, _, rfl, ⟨HX5.net.more hsz, HX5.sent.more hsz, hH, hF⟩, hB⟩
end Go.Proofs.Ytmbifmmkccghfaa

/-
  Drawn regions in which stores follow one another at the end: the readers are taken first. No condition.
-/
namespace Go.Proofs.Ytmbifmmkccghfaa
open Go.RowKit
section
variable {P : Program} {ops : Array Oper} {md : Region.Mode} {N : Act → World → Prop} {C : World → Prop}
end
end Go.Proofs.Ytmbifmmkccghfaa

/-
  Contract of Tick of the reference. (Printed by gen_rj.py and pp.py.) No condition.
-/
namespace Go.Proofs.Ytmbifmmkccghfaa
open Go.RowKit Go.Shelf
attribute [local go_sem] Oper.semAt_some
attribute [local go_sem ↓ high] app_named

end Go.Proofs.Ytmbifmmkccghfaa

/-
  Send of the reference. (Printed by gen_rm.py and pp.py.) No condition.
-/
namespace Go.Proofs.Ytmbifmmkccghfaa
open Go.RowKit Go.Shelf
attribute [local go_sem] Oper.semAt_some
attribute [local go_sem ↓ high] app_named cop_named

end Go.Proofs.Ytmbifmmkccghfaa

/-
  Chapter 34's contracts, as the laws' walks take them. (Printed by gen_sc.py.) No condition.
-/
namespace Go.Proofs.Ytmbifmmkccghfaa
open Go.RowKit

theorem BxAt.lens {w : World} {B : Nat} {Aq : Option Addr} {nq cq : Nat} {Aa : Option Addr} {na ca : Nat} {As : Option Addr} {ns cs : Nat} {Ah : Option Addr} {nh ch : Nat} {Af : Option Addr} {nf cf : Nat} {b : Bx} (h : BxAt w B (.slice Aq nq cq) (.slice Aa na ca) (.slice As ns cs) (.slice Ah nh ch) (.slice Af nf cf) b) : b.net.queue.length = nq ∧ b.net.apart.length = na ∧ b.sent.length = ns ∧ b.heard.length = nh ∧ b.fresh.length = nf ∧ nq ≤ 9223372036854775807 ∧ na ≤ 9223372036854775807 ∧ ns ≤ 9223372036854775807 ∧ nh ≤ 9223372036854775807 ∧ nf ≤ 9223372036854775807 := by
  obtain ⟨_, _, h1, m1⟩ := h.net.queue.form
  obtain ⟨_, _, h2, m2⟩ := h.net.apart.form
  obtain ⟨_, _, h3, m3⟩ := h.sent.form
  obtain ⟨_, _, h4, m4⟩ := h.heard.2.form3
  obtain ⟨_, _, h5, m5⟩ := h.fresh.2.form3
  cases h1; cases h2; cases h3; cases h4; cases h5
  unfold maxLen at m1 m2 m3 m4 m5
  exact ⟨rfl, rfl, rfl, rfl, rfl, by omega, by omega, by omega, by omega, by omega⟩
theorem RetBx.sl {t : Bx} {rest : Array Value} {w w' : World} {e : Ending} (h : RetBx t rest w e w') : ∃ Aq nq cq Aa na ca As ns cs Ah nh ch Af nf cf, e = .returned (.tuple (#[.agg #[.slice Aq nq cq, .slice Aa na ca, .slice As ns cs, .slice Ah nh ch, .slice Af nf cf]] ++ rest)) ∧ Hid (BxAt w' w'.heap.size (.slice Aq nq cq) (.slice Aa na ca) (.slice As ns cs) (.slice Ah nh ch) (.slice Af nf cf) t) ∧ Below w.heap.size w w' := by
  obtain ⟨Vq, Va, Vs, Vh, Vf, he, hX, hb⟩ := h
  obtain ⟨Aq, nq, cq, Aa, na, ca, As, ns, cs, Ah, nh, ch, Af, nf, cf, rfl, rfl, rfl, rfl, rfl⟩ := hX.forms5
  exact ⟨Aq, nq, cq, Aa, na, ca, As, ns, cs, Ah, nh, ch, Af, nf, cf, he, Lib.hid hX, hb⟩
theorem RetDlv.sl {t : Bx × Bool × Int} {w w' : World} {e : Ending} (h : RetDlv t w e w') : ∃ Aq nq cq Aa na ca As ns cs Ah nh ch Af nf cf, e = .returned (.tuple #[.agg #[.slice Aq nq cq, .slice Aa na ca, .slice As ns cs, .slice Ah nh ch, .slice Af nf cf], .bool t.2.1, .int .i64 t.2.2]) ∧ Hid (BxAt w' w'.heap.size (.slice Aq nq cq) (.slice Aa na ca) (.slice As ns cs) (.slice Ah nh ch) (.slice Af nf cf) t.1) ∧ Below w.heap.size w w' := by
  obtain ⟨Vq, Va, Vs, Vh, Vf, he, hX, hb⟩ := h
  obtain ⟨Aq, nq, cq, Aa, na, ca, As, ns, cs, Ah, nh, ch, Af, nf, cf, rfl, rfl, rfl, rfl, rfl⟩ := hX.forms5
  exact ⟨Aq, nq, cq, Aa, na, ca, As, ns, cs, Ah, nh, ch, Af, nf, cf, he, Lib.hid hX, hb⟩
theorem RetTick.sl {t : Bx × List Int × Int} {w w' : World} {e : Ending} (h : RetTick t w e w') : ∃ Aq nq cq Aa na ca As ns cs Ah nh ch Af nf cf Al nl cl, e = .returned (.tuple #[.agg #[.slice Aq nq cq, .slice Aa na ca, .slice As ns cs, .slice Ah nh ch, .slice Af nf cf], .slice Al nl cl, .int .i64 t.2.2]) ∧ Hid (BxAt w' w'.heap.size (.slice Aq nq cq) (.slice Aa na ca) (.slice As ns cs) (.slice Ah nh ch) (.slice Af nf cf) t.1) ∧ Hid (HdAt w' w'.heap.size (.slice Al nl cl) t.2.1) ∧ Below w.heap.size w w' := by
  obtain ⟨Vq, Va, Vs, Vh, Vf, Vl, he, hX, hL, hb⟩ := h
  obtain ⟨Aq, nq, cq, Aa, na, ca, As, ns, cs, Ah, nh, ch, Af, nf, cf, rfl, rfl, rfl, rfl, rfl⟩ := hX.forms5
  obtain ⟨Al, cl, rfl, _⟩ := hL.2.form3
  exact ⟨Aq, nq, cq, Aa, na, ca, As, ns, cs, Ah, nh, ch, Af, nf, cf, Al, _, cl, he, Lib.hid hX, Lib.hid hL, hb⟩
theorem HdAt.len {w : World} {B : Nat} {A : Option Addr} {n c : Nat} {l : List Int} (h : HdAt w B (.slice A n c) l) : l.length = n ∧ n ≤ 9223372036854775807 := by
  obtain ⟨_, _, h1, m1⟩ := h.2.form3
  cases h1
  unfold maxLen at m1
  exact ⟨rfl, by omega⟩
theorem hid_bx {w w' : World} {Vq Va Vs Vh Vf : Value} {b : Bx} (h : Hid (BxAt w w.heap.size Vq Va Vs Vh Vf b)) (hb : Below w.heap.size w w') : Hid (BxAt w' w'.heap.size Vq Va Vs Vh Vf b) := h.out.later hb
theorem hid_hd {w w' : World} {V : Value} {l : List Int} (h : Hid (HdAt w w.heap.size V l)) (hb : Below w.heap.size w w') : Hid (HdAt w' w'.heap.size V l) := h.out.later hb
theorem bx_set {w : World} {Vq Va Vs Vh Vf : Value} {b : Bx} (h : Hid (BxAt w w.heap.size Vq Va Vs Vh Vf b)) {x : Nat} {Bq : Option Addr} {mq dq : Nat} {Ba : Option Addr} {ma da : Nat} {Bs : Option Addr} {ms ds : Nat} {Bh : Option Addr} {mh dh : Nat} {Bf : Option Addr} {mf df : Nat} (hx : Box w x [.slice Bq mq dq, .slice Ba ma da, .slice Bs ms ds, .slice Bh mh dh, .slice Bf mf df]) {Aq : Option Addr} {nq cq : Nat} {Aa : Option Addr} {na ca : Nat} {As : Option Addr} {ns cs : Nat} {Ah : Option Addr} {nh ch : Nat} {Af : Option Addr} {nf cf : Nat} :
    Hid (BxAt (((((w.setCell ⟨x, 0, none⟩ (.slice Aq nq cq)).setCell ⟨x, 1, none⟩ (.slice Aa na ca)).setCell ⟨x, 2, none⟩ (.slice As ns cs)).setCell ⟨x, 3, none⟩ (.slice Ah nh ch)).setCell ⟨x, 4, none⟩ (.slice Af nf cf)) (((((w.setCell ⟨x, 0, none⟩ (.slice Aq nq cq)).setCell ⟨x, 1, none⟩ (.slice Aa na ca)).setCell ⟨x, 2, none⟩ (.slice As ns cs)).setCell ⟨x, 3, none⟩ (.slice Ah nh ch)).setCell ⟨x, 4, none⟩ (.slice Af nf cf)).heap.size Vq Va Vs Vh Vf b) := by
  have h2 := h.out.set5 (SlBox.of hx (by simp)) Aq Aa As Ah Af nq cq na ca ns cs nh ch nf cf
  simp only [World.size_setCell]
  exact Lib.hid h2
theorem oSend_is (b : Bx) (g o : Int) {Aq : Option Addr} {nq cq : Nat} {Aa : Option Addr} {na ca : Nat} {As : Option Addr} {ns cs : Nat} {Ah : Option Addr} {nh ch : Nat} {Af : Option Addr} {nf cf : Nat} {w : World} (hx : Hid (BxAt w w.heap.size (.slice Aq nq cq) (.slice Aa na ca) (.slice As ns cs) (.slice Ah nh ch) (.slice Af nf cf) b)) {T : Bx × Int} (hT : Hid (b.sendT g o = T)) :
    Calls Try.prog 12 #[.agg #[.slice Aq nq cq, .slice Aa na ca, .slice As ns cs, .slice Ah nh ch, .slice Af nf cf], .int .i64 g, .int .i64 o] w (RetBx T.1 #[.int .i64 T.2] w) := by
  obtain ⟨l1, l2, l3, l4, l5, m1, m2, m3, m4, m5⟩ := hx.out.lens
  exact oSend_any b g o Aq Aa As Ah Af nq cq na ca ns cs nh ch nf cf w hx (Lib.hid l3) (Lib.hid l4) hT
theorem oLose_is (b : Bx) (i : Int) {Aq : Option Addr} {nq cq : Nat} {Aa : Option Addr} {na ca : Nat} {As : Option Addr} {ns cs : Nat} {Ah : Option Addr} {nh ch : Nat} {Af : Option Addr} {nf cf : Nat} {w : World} (hx : Hid (BxAt w w.heap.size (.slice Aq nq cq) (.slice Aa na ca) (.slice As ns cs) (.slice Ah nh ch) (.slice Af nf cf) b)) {T : Bx × Int} (hT : Hid (b.loseT i = T)) :
    Calls Try.prog 25 #[.agg #[.slice Aq nq cq, .slice Aa na ca, .slice As ns cs, .slice Ah nh ch, .slice Af nf cf], .int .i64 i] w (RetBx T.1 #[.int .i64 T.2] w) := by
  obtain ⟨l1, l2, l3, l4, l5, m1, m2, m3, m4, m5⟩ := hx.out.lens
  exact oLose_any b i Aq Aa As Ah Af nq cq na ca ns cs nh ch nf cf w hx  hT
theorem oRLose_is (b : Bx) (i : Int) {Aq : Option Addr} {nq cq : Nat} {Aa : Option Addr} {na ca : Nat} {As : Option Addr} {ns cs : Nat} {Ah : Option Addr} {nh ch : Nat} {Af : Option Addr} {nf cf : Nat} {w : World} (hx : Hid (BxAt w w.heap.size (.slice Aq nq cq) (.slice Aa na ca) (.slice As ns cs) (.slice Ah nh ch) (.slice Af nf cf) b)) {T : Bx × Int} (hT : Hid (b.loseT i = T)) :
    Calls Try.prog 26 #[.agg #[.slice Aq nq cq, .slice Aa na ca, .slice As ns cs, .slice Ah nh ch, .slice Af nf cf], .int .i64 i] w (RetBx T.1 #[.int .i64 T.2] w) := by
  obtain ⟨l1, l2, l3, l4, l5, m1, m2, m3, m4, m5⟩ := hx.out.lens
  exact oRLose_any b i Aq Aa As Ah Af nq cq na ca ns cs nh ch nf cf w hx  hT
theorem oRepeat_is (b : Bx) (i : Int) {Aq : Option Addr} {nq cq : Nat} {Aa : Option Addr} {na ca : Nat} {As : Option Addr} {ns cs : Nat} {Ah : Option Addr} {nh ch : Nat} {Af : Option Addr} {nf cf : Nat} {w : World} (hx : Hid (BxAt w w.heap.size (.slice Aq nq cq) (.slice Aa na ca) (.slice As ns cs) (.slice Ah nh ch) (.slice Af nf cf) b)) {T : Bx × Int} (hT : Hid (b.repeatT i = T)) :
    Calls Try.prog 21 #[.agg #[.slice Aq nq cq, .slice Aa na ca, .slice As ns cs, .slice Ah nh ch, .slice Af nf cf], .int .i64 i] w (RetBx T.1 #[.int .i64 T.2] w) := by
  obtain ⟨l1, l2, l3, l4, l5, m1, m2, m3, m4, m5⟩ := hx.out.lens
  exact oRepeat_any b i Aq Aa As Ah Af nq cq na ca ns cs nh ch nf cf w hx  hT
theorem oRRepeat_is (b : Bx) (i : Int) {Aq : Option Addr} {nq cq : Nat} {Aa : Option Addr} {na ca : Nat} {As : Option Addr} {ns cs : Nat} {Ah : Option Addr} {nh ch : Nat} {Af : Option Addr} {nf cf : Nat} {w : World} (hx : Hid (BxAt w w.heap.size (.slice Aq nq cq) (.slice Aa na ca) (.slice As ns cs) (.slice Ah nh ch) (.slice Af nf cf) b)) {T : Bx × Int} (hT : Hid (b.repeatT i = T)) :
    Calls Try.prog 27 #[.agg #[.slice Aq nq cq, .slice Aa na ca, .slice As ns cs, .slice Ah nh ch, .slice Af nf cf], .int .i64 i] w (RetBx T.1 #[.int .i64 T.2] w) := by
  obtain ⟨l1, l2, l3, l4, l5, m1, m2, m3, m4, m5⟩ := hx.out.lens
  exact oRRepeat_any b i Aq Aa As Ah Af nq cq na ca ns cs nh ch nf cf w hx  hT
theorem oDeliver_is (b : Bx) (i : Int) {Aq : Option Addr} {nq cq : Nat} {Aa : Option Addr} {na ca : Nat} {As : Option Addr} {ns cs : Nat} {Ah : Option Addr} {nh ch : Nat} {Af : Option Addr} {nf cf : Nat} {w : World} (hx : Hid (BxAt w w.heap.size (.slice Aq nq cq) (.slice Aa na ca) (.slice As ns cs) (.slice Ah nh ch) (.slice Af nf cf) b)) {T : Bx × Bool × Int} (hT : Hid (b.deliverT i = T)) :
    Calls Try.prog 23 #[.agg #[.slice Aq nq cq, .slice Aa na ca, .slice As ns cs, .slice Ah nh ch, .slice Af nf cf], .int .i64 i] w (RetDlv T w) := by
  obtain ⟨l1, l2, l3, l4, l5, m1, m2, m3, m4, m5⟩ := hx.out.lens
  exact oDeliver_any b i Aq Aa As Ah Af nq cq na ca ns cs nh ch nf cf w hx (Lib.hid l3) (Lib.hid l4) (Lib.hid l5) hT
theorem oRDeliver_is (b : Bx) (i : Int) {Aq : Option Addr} {nq cq : Nat} {Aa : Option Addr} {na ca : Nat} {As : Option Addr} {ns cs : Nat} {Ah : Option Addr} {nh ch : Nat} {Af : Option Addr} {nf cf : Nat} {w : World} (hx : Hid (BxAt w w.heap.size (.slice Aq nq cq) (.slice Aa na ca) (.slice As ns cs) (.slice Ah nh ch) (.slice Af nf cf) b)) {T : Bx × Bool × Int} (hT : Hid (b.deliverT i = T)) :
    Calls Try.prog 24 #[.agg #[.slice Aq nq cq, .slice Aa na ca, .slice As ns cs, .slice Ah nh ch, .slice Af nf cf], .int .i64 i] w (RetDlv T w) := by
  obtain ⟨l1, l2, l3, l4, l5, m1, m2, m3, m4, m5⟩ := hx.out.lens
  exact oRDeliver_any b i Aq Aa As Ah Af nq cq na ca ns cs nh ch nf cf w hx (Lib.hid l3) (Lib.hid l4) (Lib.hid l5) hT
theorem oTick_is (b : Bx)  {Aq : Option Addr} {nq cq : Nat} {Aa : Option Addr} {na ca : Nat} {As : Option Addr} {ns cs : Nat} {Ah : Option Addr} {nh ch : Nat} {Af : Option Addr} {nf cf : Nat} {w : World} (hx : Hid (BxAt w w.heap.size (.slice Aq nq cq) (.slice Aa na ca) (.slice As ns cs) (.slice Ah nh ch) (.slice Af nf cf) b)) {T : Bx × List Int × Int} (hT : Hid (b.tickT = T)) :
    Calls Try.prog 17 #[.agg #[.slice Aq nq cq, .slice Aa na ca, .slice As ns cs, .slice Ah nh ch, .slice Af nf cf]] w (RetTick T w) := by
  obtain ⟨l1, l2, l3, l4, l5, m1, m2, m3, m4, m5⟩ := hx.out.lens
  exact oTick_any b  Aq Aa As Ah Af nq cq na ca ns cs nh ch nf cf w hx (Lib.hid l3) (Lib.hid l4) (Lib.hid l5) hT
theorem oRFew_is (b : Bx)  {Aq : Option Addr} {nq cq : Nat} {Aa : Option Addr} {na ca : Nat} {As : Option Addr} {ns cs : Nat} {Ah : Option Addr} {nh ch : Nat} {Af : Option Addr} {nf cf : Nat} {w : World} (hx : Hid (BxAt w w.heap.size (.slice Aq nq cq) (.slice Aa na ca) (.slice As ns cs) (.slice Ah nh ch) (.slice Af nf cf) b)) {T : Bool} (hT : Hid (b.fewB = T)) :
    Calls Try.prog 9 #[.agg #[.slice Aq nq cq, .slice Aa na ca, .slice As ns cs, .slice Ah nh ch, .slice Af nf cf]] w (fun e w' => e = .returned (.bool T) ∧ Below w.heap.size w w') := by
  obtain ⟨l1, l2, l3, l4, l5, m1, m2, m3, m4, m5⟩ := hx.out.lens
  exact oRFew_any b  Aq Aa As Ah Af nq cq na ca ns cs nh ch nf cf w hx (Lib.hid l1) (Lib.hid l3) (Lib.hid l4) (Lib.hid l5) hT
theorem oSame_is (b : Bx) {Aq : Option Addr} {nq cq : Nat} {Aa : Option Addr} {na ca : Nat} {As : Option Addr} {ns cs : Nat} {Ah : Option Addr} {nh ch : Nat} {Af : Option Addr} {nf cf : Nat} {Bq : Option Addr} {mq dq : Nat} {Ba : Option Addr} {ma da : Nat} {Bs : Option Addr} {ms ds : Nat} {Bh : Option Addr} {mh dh : Nat} {Bf : Option Addr} {mf df : Nat} {w : World} (hx : Hid (BxAt w w.heap.size (.slice Aq nq cq) (.slice Aa na ca) (.slice As ns cs) (.slice Ah nh ch) (.slice Af nf cf) b)) (hy : Hid (BxAt w w.heap.size (.slice Bq mq dq) (.slice Ba ma da) (.slice Bs ms ds) (.slice Bh mh dh) (.slice Bf mf df) b)) :
    Calls Try.prog 14 #[.agg #[.slice Aq nq cq, .slice Aa na ca, .slice As ns cs, .slice Ah nh ch, .slice Af nf cf], .agg #[.slice Bq mq dq, .slice Ba ma da, .slice Bs ms ds, .slice Bh mh dh, .slice Bf mf df]] w fun e w' => e = .returned (.bool true) ∧ Below w.heap.size w w' := by
  obtain ⟨l1, l2, l3, l4, l5, -⟩ := hx.out.lens
  obtain ⟨k1, k2, k3, k4, k5, -⟩ := hy.out.lens
  obtain rfl : nq = mq := l1.symm.trans k1
  obtain rfl : na = ma := l2.symm.trans k2
  obtain rfl : ns = ms := l3.symm.trans k3
  obtain rfl : nh = mh := l4.symm.trans k4
  obtain rfl : nf = mf := l5.symm.trans k5
  exact oSame_eq b Aq Aa As Ah Af Bq Ba Bs Bh Bf nq cq dq na ca da ns cs ds nh ch dh nf cf df w hx hy (Lib.hid l3) (Lib.hid l4) (Lib.hid l5)
theorem rSameInts_is {A1 A2 : Option Addr} {n1 c1 n2 c2 : Nat} {l m : List Int} {w : World} (h1 : Hid (HdAt w w.heap.size (.slice A1 n1 c1) l)) (h2 : Hid (HdAt w w.heap.size (.slice A2 n2 c2) m)) {T : Bool} (hT : Hid (decide (l = m) = T)) :
    Calls Try.prog 19 #[.slice A1 n1 c1, .slice A2 n2 c2] w fun e w' => e = .returned (.bool T) ∧ Below w.heap.size w w' :=
  rSameInts_any A1 A2 n1 c1 n2 c2 l m w h1 h2 (Lib.hid h1.out.len.1) (Lib.hid h2.out.len.1) h1.out.len.2 h2.out.len.2 hT
end Go.Proofs.Ytmbifmmkccghfaa
