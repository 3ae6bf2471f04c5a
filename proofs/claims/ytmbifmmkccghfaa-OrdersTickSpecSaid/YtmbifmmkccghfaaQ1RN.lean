/- Send of the reference. (Printed by gen_rm.py and pp.py.) No condition. -/
import Derived.Test.YtmbifmmkccghfaaQ1RL
import Derived.Test.YtmbifmmkccghfaaQ1GP
import Derived.Test.YtmbifmmkccghfaaQ1NR
import Derived.Test.YtmbifmmkccghfaaQ1RF
import Derived.Test.YtmbifmmkccghfaaQ1RS
import Derived.Test.YtmbifmmkccghfaaQ1RK
set_option linter.unusedVariables false
set_option linter.unusedSimpArgs false
namespace Go.Proofs.Ytmbifmmkccghfaa
open Go.RowKit Go.Shelf
attribute [local go_sem] Oper.semAt_some
attribute [local go_sem ↓ high] app_named cop_named

set_option maxRecDepth 100000 in
set_option maxHeartbeats 4000000 in
theorem oRSend_any (b : Bx) (g o : Int) (Aq Aa As Ah Af : Option Addr) (nq cq na ca ns cs n ch nf cf : Nat) (w : World) (hx : Hid (BxAt w w.heap.size (.slice Aq nq cq) (.slice Aa na ca) (.slice As ns cs) (.slice Ah n ch) (.slice Af nf cf) b)) (hns : Hid (b.sent.length = ns)) (hn : Hid (b.heard.length = n)) {T : Bx × Int} (hT : Hid (b.sendT g o = T)) :
    Calls Try.prog 13 #[.agg #[.slice Aq nq cq, .slice Aa na ca, .slice As ns cs, .slice Ah n ch, .slice Af nf cf], .int .i64 g, .int .i64 o] w (RetBx T.1 #[.int .i64 T.2] w) := by
  go_enter Try.func13, Try.ntmps13
  have hB := ((Below.refl w.heap.size w).alloc (Nat.le_refl _) (.cells #[.slice Aq nq cq, .slice Aa na ca, .slice As ns cs, .slice Ah n ch, .slice Af nf cf] 30)).alloc (by simp) (.cells #[.slice none 0 0, .slice none 0 0, .slice none 0 0, .slice none 0 0, .slice none 0 0] 30)
  have X1 := (Box.new w [.slice Aq nq cq, .slice Aa na ca, .slice As ns cs, .slice Ah n ch, .slice Af nf cf] 30).alloc (.cells #[.slice none 0 0, .slice none 0 0, .slice none 0 0, .slice none 0 0, .slice none 0 0] 30)
  have X6 := Box.newAt (w := w.alloc (.cells #[.slice Aq nq cq, .slice Aa na ca, .slice As ns cs, .slice Ah n ch, .slice Af nf cf] 30)) (n := w.heap.size + 1) [.slice none 0 0, .slice none 0 0, .slice none 0 0, .slice none 0 0, .slice none 0 0] 30 (by simp)
  go_upto_region 1 with fail
  generalize (w.alloc (.cells #[.slice Aq nq cq, .slice Aa na ca, .slice As ns cs, .slice Ah n ch, .slice Af nf cf] 30)).alloc (.cells #[.slice none 0 0, .slice none 0 0, .slice none 0 0, .slice none 0 0, .slice none 0 0] 30) = w1 at hB X1 X6 ⊢
  have z1 := X1.lt
  have X1c0 : w1.cell? ⟨w.heap.size, 0, none⟩ = some (.slice Aq nq cq) := X1.cell 0
  have X1c1 : w1.cell? ⟨w.heap.size, 1, none⟩ = some (.slice Aa na ca) := X1.cell 1
  have X1c2 : w1.cell? ⟨w.heap.size, 2, none⟩ = some (.slice As ns cs) := X1.cell 2
  have X1c3 : w1.cell? ⟨w.heap.size, 3, none⟩ = some (.slice Ah n ch) := X1.cell 3
  have X1c4 : w1.cell? ⟨w.heap.size, 4, none⟩ = some (.slice Af nf cf) := X1.cell 4
  obtain ⟨c, hc⟩ : ∃ c, Hid (b.checkT = c) := ⟨_, Lib.hid rfl⟩
  go_wp2_with fail
  refine (oRCheck_is hc (hx.out.later hB)).mono ?_
  rintro e w2 ⟨rfl, hb⟩
  have hB := hB.trans (hb.mono hB.size)
  have X1 := X1.later hb
  have X6 := X6.later hb
  clear hb z1 X1c0 X1c1 X1c2 X1c3 X1c4
  by_cases h0 : c = 0
  rotate_left
  · have d0 : (c != 0) = true := by simp [h0]
    obtain rfl := (send_bad hc.out h0).symm.trans hT.out
    have X6c0 : w2.cell? ⟨w.heap.size + 1, 0, none⟩ = some (.slice none 0 0) := X6.cell 0
    have X6f0 : w2.frozen? ⟨w.heap.size + 1, 0, none⟩ = false := X6.free 0
    have X6c1 : w2.cell? ⟨w.heap.size + 1, 1, none⟩ = some (.slice none 0 0) := X6.cell 1
    have X6f1 : w2.frozen? ⟨w.heap.size + 1, 1, none⟩ = false := X6.free 1
    have X6c2 : w2.cell? ⟨w.heap.size + 1, 2, none⟩ = some (.slice none 0 0) := X6.cell 2
    have X6f2 : w2.frozen? ⟨w.heap.size + 1, 2, none⟩ = false := X6.free 2
    have X6c3 : w2.cell? ⟨w.heap.size + 1, 3, none⟩ = some (.slice none 0 0) := X6.cell 3
    have X6f3 : w2.frozen? ⟨w.heap.size + 1, 3, none⟩ = false := X6.free 3
    have X6c4 : w2.cell? ⟨w.heap.size + 1, 4, none⟩ = some (.slice none 0 0) := X6.cell 4
    have X6f4 : w2.frozen? ⟨w.heap.size + 1, 4, none⟩ = false := X6.free 4
    have X6z : w.heap.size + 1 < w2.heap.size := X6.lt
    have Y6 := (((((X6.set 0 (.slice none 0 0)).set 1 (.slice none 0 0)).set 2 (.slice none 0 0)).set 3 (.slice none 0 0)).set 4 (.slice none 0 0))
    have hB2 := (((((hB.setCell (p := ⟨w.heap.size + 1, 0, none⟩) (by simp <;> omega) (.slice none 0 0)).setCell (p := ⟨w.heap.size + 1, 1, none⟩) (by simp <;> omega) (.slice none 0 0)).setCell (p := ⟨w.heap.size + 1, 2, none⟩) (by simp <;> omega) (.slice none 0 0)).setCell (p := ⟨w.heap.size + 1, 3, none⟩) (by simp <;> omega) (.slice none 0 0)).setCell (p := ⟨w.heap.size + 1, 4, none⟩) (by simp <;> omega) (.slice none 0 0))
    go_wp2
    clear X6c0 X6c1 X6c2 X6c3 X6c4 X6f0 X6f1 X6f2 X6f3 X6f4 X6z
    generalize (((((w2.setCell ⟨w.heap.size + 1, 0, none⟩ (.slice none 0 0)).setCell ⟨w.heap.size + 1, 1, none⟩ (.slice none 0 0)).setCell ⟨w.heap.size + 1, 2, none⟩ (.slice none 0 0)).setCell ⟨w.heap.size + 1, 3, none⟩ (.slice none 0 0)).setCell ⟨w.heap.size + 1, 4, none⟩ (.slice none 0 0)) = W8 at Y6 hB2 ⊢
    simp only [List.set_cons_zero, List.set_cons_succ] at Y6
    have Y6c0 : W8.cell? ⟨w.heap.size + 1, 0, none⟩ = some (.slice none 0 0) := Y6.cell 0
    have Y6c1 : W8.cell? ⟨w.heap.size + 1, 1, none⟩ = some (.slice none 0 0) := Y6.cell 1
    have Y6c2 : W8.cell? ⟨w.heap.size + 1, 2, none⟩ = some (.slice none 0 0) := Y6.cell 2
    have Y6c3 : W8.cell? ⟨w.heap.size + 1, 3, none⟩ = some (.slice none 0 0) := Y6.cell 3
    have Y6c4 : W8.cell? ⟨w.heap.size + 1, 4, none⟩ = some (.slice none 0 0) := Y6.cell 4
    refine bodyPost_ret (v := .tuple #[.agg #[.slice none 0 0, .slice none 0 0, .slice none 0 0, .slice none 0 0, .slice none 0 0], .int .i64 c]) (by simp [results, Try.results13, go_sem, Y6c0, Y6c1, Y6c2, Y6c3, Y6c4]) rfl ?_
    exact ⟨_, _, _, _, _, rfl, bxAt_zero _ _, hB2⟩
  subst h0
  have hok := check_ok hc.out
  have HOK := Lib.hid hok
  obtain ⟨hl1, -, -, -, -⟩ := okB_parts hok
  have hl1 := of_decide_eq_true hl1
  rw [hn.out, hns.out] at hl1
  obtain ⟨⟨hn1, hn8⟩, -, hn4⟩ := hl1
  clear hok
  have z1 := X1.lt
  have X1c3 : w2.cell? ⟨w.heap.size, 3, none⟩ = some (.slice Ah n ch) := X1.cell 3
  by_cases hin : (0 ≤ g ∧ g < (n : Int)) ∧ (0 ≤ o ∧ o ≤ 7)
  rotate_left
  · obtain rfl : T = (Bx.zero, 1) := by rw [← hT.out]; exact send_out HOK.out (by rw [hn.out]; exact hin)
    by_cases g1 : g < 0
    · have d1 : decide (g < 0) = true := decide_eq_true g1
      have X6c0 : w2.cell? ⟨w.heap.size + 1, 0, none⟩ = some (.slice none 0 0) := X6.cell 0
      have X6f0 : w2.frozen? ⟨w.heap.size + 1, 0, none⟩ = false := X6.free 0
      have X6c1 : w2.cell? ⟨w.heap.size + 1, 1, none⟩ = some (.slice none 0 0) := X6.cell 1
      have X6f1 : w2.frozen? ⟨w.heap.size + 1, 1, none⟩ = false := X6.free 1
      have X6c2 : w2.cell? ⟨w.heap.size + 1, 2, none⟩ = some (.slice none 0 0) := X6.cell 2
      have X6f2 : w2.frozen? ⟨w.heap.size + 1, 2, none⟩ = false := X6.free 2
      have X6c3 : w2.cell? ⟨w.heap.size + 1, 3, none⟩ = some (.slice none 0 0) := X6.cell 3
      have X6f3 : w2.frozen? ⟨w.heap.size + 1, 3, none⟩ = false := X6.free 3
      have X6c4 : w2.cell? ⟨w.heap.size + 1, 4, none⟩ = some (.slice none 0 0) := X6.cell 4
      have X6f4 : w2.frozen? ⟨w.heap.size + 1, 4, none⟩ = false := X6.free 4
      have X6z : w.heap.size + 1 < w2.heap.size := X6.lt
      have Y6 := (((((X6.set 0 (.slice none 0 0)).set 1 (.slice none 0 0)).set 2 (.slice none 0 0)).set 3 (.slice none 0 0)).set 4 (.slice none 0 0))
      have hB2 := (((((hB.setCell (p := ⟨w.heap.size + 1, 0, none⟩) (by simp <;> omega) (.slice none 0 0)).setCell (p := ⟨w.heap.size + 1, 1, none⟩) (by simp <;> omega) (.slice none 0 0)).setCell (p := ⟨w.heap.size + 1, 2, none⟩) (by simp <;> omega) (.slice none 0 0)).setCell (p := ⟨w.heap.size + 1, 3, none⟩) (by simp <;> omega) (.slice none 0 0)).setCell (p := ⟨w.heap.size + 1, 4, none⟩) (by simp <;> omega) (.slice none 0 0))
      go_wp2
      clear X6c0 X6c1 X6c2 X6c3 X6c4 X6f0 X6f1 X6f2 X6f3 X6f4 X6z
      generalize (((((w2.setCell ⟨w.heap.size + 1, 0, none⟩ (.slice none 0 0)).setCell ⟨w.heap.size + 1, 1, none⟩ (.slice none 0 0)).setCell ⟨w.heap.size + 1, 2, none⟩ (.slice none 0 0)).setCell ⟨w.heap.size + 1, 3, none⟩ (.slice none 0 0)).setCell ⟨w.heap.size + 1, 4, none⟩ (.slice none 0 0)) = W8 at Y6 hB2 ⊢
      simp only [List.set_cons_zero, List.set_cons_succ] at Y6
      have Y6c0 : W8.cell? ⟨w.heap.size + 1, 0, none⟩ = some (.slice none 0 0) := Y6.cell 0
      have Y6c1 : W8.cell? ⟨w.heap.size + 1, 1, none⟩ = some (.slice none 0 0) := Y6.cell 1
      have Y6c2 : W8.cell? ⟨w.heap.size + 1, 2, none⟩ = some (.slice none 0 0) := Y6.cell 2
      have Y6c3 : W8.cell? ⟨w.heap.size + 1, 3, none⟩ = some (.slice none 0 0) := Y6.cell 3
      have Y6c4 : W8.cell? ⟨w.heap.size + 1, 4, none⟩ = some (.slice none 0 0) := Y6.cell 4
      refine bodyPost_ret (v := .tuple #[.agg #[.slice none 0 0, .slice none 0 0, .slice none 0 0, .slice none 0 0, .slice none 0 0], .int .i64 1]) (by simp [results, Try.results13, go_sem, Y6c0, Y6c1, Y6c2, Y6c3, Y6c4]) rfl ?_
      exact ⟨_, _, _, _, _, rfl, bxAt_zero _ _, hB2⟩
    have d1 : decide (g < 0) = false := decide_eq_false g1
    by_cases g2 : (n : Int) ≤ g
    · have d2 : decide ((n : Int) ≤ g) = true := decide_eq_true g2
      have X6c0 : w2.cell? ⟨w.heap.size + 1, 0, none⟩ = some (.slice none 0 0) := X6.cell 0
      have X6f0 : w2.frozen? ⟨w.heap.size + 1, 0, none⟩ = false := X6.free 0
      have X6c1 : w2.cell? ⟨w.heap.size + 1, 1, none⟩ = some (.slice none 0 0) := X6.cell 1
      have X6f1 : w2.frozen? ⟨w.heap.size + 1, 1, none⟩ = false := X6.free 1
      have X6c2 : w2.cell? ⟨w.heap.size + 1, 2, none⟩ = some (.slice none 0 0) := X6.cell 2
      have X6f2 : w2.frozen? ⟨w.heap.size + 1, 2, none⟩ = false := X6.free 2
      have X6c3 : w2.cell? ⟨w.heap.size + 1, 3, none⟩ = some (.slice none 0 0) := X6.cell 3
      have X6f3 : w2.frozen? ⟨w.heap.size + 1, 3, none⟩ = false := X6.free 3
      have X6c4 : w2.cell? ⟨w.heap.size + 1, 4, none⟩ = some (.slice none 0 0) := X6.cell 4
      have X6f4 : w2.frozen? ⟨w.heap.size + 1, 4, none⟩ = false := X6.free 4
      have X6z : w.heap.size + 1 < w2.heap.size := X6.lt
      have Y6 := (((((X6.set 0 (.slice none 0 0)).set 1 (.slice none 0 0)).set 2 (.slice none 0 0)).set 3 (.slice none 0 0)).set 4 (.slice none 0 0))
      have hB2 := (((((hB.setCell (p := ⟨w.heap.size + 1, 0, none⟩) (by simp <;> omega) (.slice none 0 0)).setCell (p := ⟨w.heap.size + 1, 1, none⟩) (by simp <;> omega) (.slice none 0 0)).setCell (p := ⟨w.heap.size + 1, 2, none⟩) (by simp <;> omega) (.slice none 0 0)).setCell (p := ⟨w.heap.size + 1, 3, none⟩) (by simp <;> omega) (.slice none 0 0)).setCell (p := ⟨w.heap.size + 1, 4, none⟩) (by simp <;> omega) (.slice none 0 0))
      go_wp2
      clear X6c0 X6c1 X6c2 X6c3 X6c4 X6f0 X6f1 X6f2 X6f3 X6f4 X6z
      generalize (((((w2.setCell ⟨w.heap.size + 1, 0, none⟩ (.slice none 0 0)).setCell ⟨w.heap.size + 1, 1, none⟩ (.slice none 0 0)).setCell ⟨w.heap.size + 1, 2, none⟩ (.slice none 0 0)).setCell ⟨w.heap.size + 1, 3, none⟩ (.slice none 0 0)).setCell ⟨w.heap.size + 1, 4, none⟩ (.slice none 0 0)) = W8 at Y6 hB2 ⊢
      simp only [List.set_cons_zero, List.set_cons_succ] at Y6
      have Y6c0 : W8.cell? ⟨w.heap.size + 1, 0, none⟩ = some (.slice none 0 0) := Y6.cell 0
      have Y6c1 : W8.cell? ⟨w.heap.size + 1, 1, none⟩ = some (.slice none 0 0) := Y6.cell 1
      have Y6c2 : W8.cell? ⟨w.heap.size + 1, 2, none⟩ = some (.slice none 0 0) := Y6.cell 2
      have Y6c3 : W8.cell? ⟨w.heap.size + 1, 3, none⟩ = some (.slice none 0 0) := Y6.cell 3
      have Y6c4 : W8.cell? ⟨w.heap.size + 1, 4, none⟩ = some (.slice none 0 0) := Y6.cell 4
      refine bodyPost_ret (v := .tuple #[.agg #[.slice none 0 0, .slice none 0 0, .slice none 0 0, .slice none 0 0, .slice none 0 0], .int .i64 1]) (by simp [results, Try.results13, go_sem, Y6c0, Y6c1, Y6c2, Y6c3, Y6c4]) rfl ?_
      exact ⟨_, _, _, _, _, rfl, bxAt_zero _ _, hB2⟩
    have d2 : decide ((n : Int) ≤ g) = false := decide_eq_false g2
    by_cases g3 : o < 0
    · have d3 : decide (o < 0) = true := decide_eq_true g3
      have X6c0 : w2.cell? ⟨w.heap.size + 1, 0, none⟩ = some (.slice none 0 0) := X6.cell 0
      have X6f0 : w2.frozen? ⟨w.heap.size + 1, 0, none⟩ = false := X6.free 0
      have X6c1 : w2.cell? ⟨w.heap.size + 1, 1, none⟩ = some (.slice none 0 0) := X6.cell 1
      have X6f1 : w2.frozen? ⟨w.heap.size + 1, 1, none⟩ = false := X6.free 1
      have X6c2 : w2.cell? ⟨w.heap.size + 1, 2, none⟩ = some (.slice none 0 0) := X6.cell 2
      have X6f2 : w2.frozen? ⟨w.heap.size + 1, 2, none⟩ = false := X6.free 2
      have X6c3 : w2.cell? ⟨w.heap.size + 1, 3, none⟩ = some (.slice none 0 0) := X6.cell 3
      have X6f3 : w2.frozen? ⟨w.heap.size + 1, 3, none⟩ = false := X6.free 3
      have X6c4 : w2.cell? ⟨w.heap.size + 1, 4, none⟩ = some (.slice none 0 0) := X6.cell 4
      have X6f4 : w2.frozen? ⟨w.heap.size + 1, 4, none⟩ = false := X6.free 4
      have X6z : w.heap.size + 1 < w2.heap.size := X6.lt
      have Y6 := (((((X6.set 0 (.slice none 0 0)).set 1 (.slice none 0 0)).set 2 (.slice none 0 0)).set 3 (.slice none 0 0)).set 4 (.slice none 0 0))
      have hB2 := (((((hB.setCell (p := ⟨w.heap.size + 1, 0, none⟩) (by simp <;> omega) (.slice none 0 0)).setCell (p := ⟨w.heap.size + 1, 1, none⟩) (by simp <;> omega) (.slice none 0 0)).setCell (p := ⟨w.heap.size + 1, 2, none⟩) (by simp <;> omega) (.slice none 0 0)).setCell (p := ⟨w.heap.size + 1, 3, none⟩) (by simp <;> omega) (.slice none 0 0)).setCell (p := ⟨w.heap.size + 1, 4, none⟩) (by simp <;> omega) (.slice none 0 0))
      go_wp2
      clear X6c0 X6c1 X6c2 X6c3 X6c4 X6f0 X6f1 X6f2 X6f3 X6f4 X6z
      generalize (((((w2.setCell ⟨w.heap.size + 1, 0, none⟩ (.slice none 0 0)).setCell ⟨w.heap.size + 1, 1, none⟩ (.slice none 0 0)).setCell ⟨w.heap.size + 1, 2, none⟩ (.slice none 0 0)).setCell ⟨w.heap.size + 1, 3, none⟩ (.slice none 0 0)).setCell ⟨w.heap.size + 1, 4, none⟩ (.slice none 0 0)) = W8 at Y6 hB2 ⊢
      simp only [List.set_cons_zero, List.set_cons_succ] at Y6
      have Y6c0 : W8.cell? ⟨w.heap.size + 1, 0, none⟩ = some (.slice none 0 0) := Y6.cell 0
      have Y6c1 : W8.cell? ⟨w.heap.size + 1, 1, none⟩ = some (.slice none 0 0) := Y6.cell 1
      have Y6c2 : W8.cell? ⟨w.heap.size + 1, 2, none⟩ = some (.slice none 0 0) := Y6.cell 2
      have Y6c3 : W8.cell? ⟨w.heap.size + 1, 3, none⟩ = some (.slice none 0 0) := Y6.cell 3
      have Y6c4 : W8.cell? ⟨w.heap.size + 1, 4, none⟩ = some (.slice none 0 0) := Y6.cell 4
      refine bodyPost_ret (v := .tuple #[.agg #[.slice none 0 0, .slice none 0 0, .slice none 0 0, .slice none 0 0, .slice none 0 0], .int .i64 1]) (by simp [results, Try.results13, go_sem, Y6c0, Y6c1, Y6c2, Y6c3, Y6c4]) rfl ?_
      exact ⟨_, _, _, _, _, rfl, bxAt_zero _ _, hB2⟩
    have d3 : decide (o < 0) = false := decide_eq_false g3
    have d4 : decide ((7 : Int) < o) = true := decide_eq_true (by omega)
    have X6c0 : w2.cell? ⟨w.heap.size + 1, 0, none⟩ = some (.slice none 0 0) := X6.cell 0
    have X6f0 : w2.frozen? ⟨w.heap.size + 1, 0, none⟩ = false := X6.free 0
    have X6c1 : w2.cell? ⟨w.heap.size + 1, 1, none⟩ = some (.slice none 0 0) := X6.cell 1
    have X6f1 : w2.frozen? ⟨w.heap.size + 1, 1, none⟩ = false := X6.free 1
    have X6c2 : w2.cell? ⟨w.heap.size + 1, 2, none⟩ = some (.slice none 0 0) := X6.cell 2
    have X6f2 : w2.frozen? ⟨w.heap.size + 1, 2, none⟩ = false := X6.free 2
    have X6c3 : w2.cell? ⟨w.heap.size + 1, 3, none⟩ = some (.slice none 0 0) := X6.cell 3
    have X6f3 : w2.frozen? ⟨w.heap.size + 1, 3, none⟩ = false := X6.free 3
    have X6c4 : w2.cell? ⟨w.heap.size + 1, 4, none⟩ = some (.slice none 0 0) := X6.cell 4
    have X6f4 : w2.frozen? ⟨w.heap.size + 1, 4, none⟩ = false := X6.free 4
    have X6z : w.heap.size + 1 < w2.heap.size := X6.lt
    have Y6 := (((((X6.set 0 (.slice none 0 0)).set 1 (.slice none 0 0)).set 2 (.slice none 0 0)).set 3 (.slice none 0 0)).set 4 (.slice none 0 0))
    have hB2 := (((((hB.setCell (p := ⟨w.heap.size + 1, 0, none⟩) (by simp <;> omega) (.slice none 0 0)).setCell (p := ⟨w.heap.size + 1, 1, none⟩) (by simp <;> omega) (.slice none 0 0)).setCell (p := ⟨w.heap.size + 1, 2, none⟩) (by simp <;> omega) (.slice none 0 0)).setCell (p := ⟨w.heap.size + 1, 3, none⟩) (by simp <;> omega) (.slice none 0 0)).setCell (p := ⟨w.heap.size + 1, 4, none⟩) (by simp <;> omega) (.slice none 0 0))
    go_wp2
    clear X6c0 X6c1 X6c2 X6c3 X6c4 X6f0 X6f1 X6f2 X6f3 X6f4 X6z
    generalize (((((w2.setCell ⟨w.heap.size + 1, 0, none⟩ (.slice none 0 0)).setCell ⟨w.heap.size + 1, 1, none⟩ (.slice none 0 0)).setCell ⟨w.heap.size + 1, 2, none⟩ (.slice none 0 0)).setCell ⟨w.heap.size + 1, 3, none⟩ (.slice none 0 0)).setCell ⟨w.heap.size + 1, 4, none⟩ (.slice none 0 0)) = W8 at Y6 hB2 ⊢
    simp only [List.set_cons_zero, List.set_cons_succ] at Y6
    have Y6c0 : W8.cell? ⟨w.heap.size + 1, 0, none⟩ = some (.slice none 0 0) := Y6.cell 0
    have Y6c1 : W8.cell? ⟨w.heap.size + 1, 1, none⟩ = some (.slice none 0 0) := Y6.cell 1
    have Y6c2 : W8.cell? ⟨w.heap.size + 1, 2, none⟩ = some (.slice none 0 0) := Y6.cell 2
    have Y6c3 : W8.cell? ⟨w.heap.size + 1, 3, none⟩ = some (.slice none 0 0) := Y6.cell 3
    have Y6c4 : W8.cell? ⟨w.heap.size + 1, 4, none⟩ = some (.slice none 0 0) := Y6.cell 4
    refine bodyPost_ret (v := .tuple #[.agg #[.slice none 0 0, .slice none 0 0, .slice none 0 0, .slice none 0 0, .slice none 0 0], .int .i64 1]) (by simp [results, Try.results13, go_sem, Y6c0, Y6c1, Y6c2, Y6c3, Y6c4]) rfl ?_
    exact ⟨_, _, _, _, _, rfl, bxAt_zero _ _, hB2⟩
  have d1 : decide (g < 0) = false := decide_eq_false (by omega)
  have d2 : decide ((n : Int) ≤ g) = false := decide_eq_false (by omega)
  have d3 : decide (o < 0) = false := decide_eq_false (by omega)
  have d4 : decide ((7 : Int) < o) = false := decide_eq_false (by omega)
  have X1c2 : w2.cell? ⟨w.heap.size, 2, none⟩ = some (.slice As ns cs) := X1.cell 2
  have hin' : (0 ≤ g ∧ g < (b.heard.length : Int)) ∧ (0 ≤ o ∧ o ≤ 7) := by rw [hn.out]; exact hin
  have HIN := Lib.hid hin'
  have HI := Lib.hid hin
  clear hin hin'
  by_cases h4 : ns = 4096
  · obtain rfl : T = (Bx.zero, 2) := by rw [← hT.out]; exact send_full HOK.out HIN.out (by rw [hns.out]; exact h4)
    subst h4
    have d5 : (((4096 : Nat) : Int) == 4096) = true := by decide
    have X6c0 : w2.cell? ⟨w.heap.size + 1, 0, none⟩ = some (.slice none 0 0) := X6.cell 0
    have X6f0 : w2.frozen? ⟨w.heap.size + 1, 0, none⟩ = false := X6.free 0
    have X6c1 : w2.cell? ⟨w.heap.size + 1, 1, none⟩ = some (.slice none 0 0) := X6.cell 1
    have X6f1 : w2.frozen? ⟨w.heap.size + 1, 1, none⟩ = false := X6.free 1
    have X6c2 : w2.cell? ⟨w.heap.size + 1, 2, none⟩ = some (.slice none 0 0) := X6.cell 2
    have X6f2 : w2.frozen? ⟨w.heap.size + 1, 2, none⟩ = false := X6.free 2
    have X6c3 : w2.cell? ⟨w.heap.size + 1, 3, none⟩ = some (.slice none 0 0) := X6.cell 3
    have X6f3 : w2.frozen? ⟨w.heap.size + 1, 3, none⟩ = false := X6.free 3
    have X6c4 : w2.cell? ⟨w.heap.size + 1, 4, none⟩ = some (.slice none 0 0) := X6.cell 4
    have X6f4 : w2.frozen? ⟨w.heap.size + 1, 4, none⟩ = false := X6.free 4
    have X6z : w.heap.size + 1 < w2.heap.size := X6.lt
    have Y6 := (((((X6.set 0 (.slice none 0 0)).set 1 (.slice none 0 0)).set 2 (.slice none 0 0)).set 3 (.slice none 0 0)).set 4 (.slice none 0 0))
    have hB2 := (((((hB.setCell (p := ⟨w.heap.size + 1, 0, none⟩) (by simp <;> omega) (.slice none 0 0)).setCell (p := ⟨w.heap.size + 1, 1, none⟩) (by simp <;> omega) (.slice none 0 0)).setCell (p := ⟨w.heap.size + 1, 2, none⟩) (by simp <;> omega) (.slice none 0 0)).setCell (p := ⟨w.heap.size + 1, 3, none⟩) (by simp <;> omega) (.slice none 0 0)).setCell (p := ⟨w.heap.size + 1, 4, none⟩) (by simp <;> omega) (.slice none 0 0))
    go_wp2
    clear X6c0 X6c1 X6c2 X6c3 X6c4 X6f0 X6f1 X6f2 X6f3 X6f4 X6z
    generalize (((((w2.setCell ⟨w.heap.size + 1, 0, none⟩ (.slice none 0 0)).setCell ⟨w.heap.size + 1, 1, none⟩ (.slice none 0 0)).setCell ⟨w.heap.size + 1, 2, none⟩ (.slice none 0 0)).setCell ⟨w.heap.size + 1, 3, none⟩ (.slice none 0 0)).setCell ⟨w.heap.size + 1, 4, none⟩ (.slice none 0 0)) = W8 at Y6 hB2 ⊢
    simp only [List.set_cons_zero, List.set_cons_succ] at Y6
    have Y6c0 : W8.cell? ⟨w.heap.size + 1, 0, none⟩ = some (.slice none 0 0) := Y6.cell 0
    have Y6c1 : W8.cell? ⟨w.heap.size + 1, 1, none⟩ = some (.slice none 0 0) := Y6.cell 1
    have Y6c2 : W8.cell? ⟨w.heap.size + 1, 2, none⟩ = some (.slice none 0 0) := Y6.cell 2
    have Y6c3 : W8.cell? ⟨w.heap.size + 1, 3, none⟩ = some (.slice none 0 0) := Y6.cell 3
    have Y6c4 : W8.cell? ⟨w.heap.size + 1, 4, none⟩ = some (.slice none 0 0) := Y6.cell 4
    refine bodyPost_ret (v := .tuple #[.agg #[.slice none 0 0, .slice none 0 0, .slice none 0 0, .slice none 0 0, .slice none 0 0], .int .i64 2]) (by simp [results, Try.results13, go_sem, Y6c0, Y6c1, Y6c2, Y6c3, Y6c4]) rfl ?_
    exact ⟨_, _, _, _, _, rfl, bxAt_zero _ _, hB2⟩
  have d5 : ((ns : Int) == 4096) = false := by simp; omega
  go_upto_region 8 with fail
  clear d1 d2 d3 d4 d5 X1c2 X1c3
  obtain ⟨W, hWw⟩ : ∃ W, w2 = W := ⟨_, rfl⟩
  rw [hWw] at hB X1 X6 z1 ⊢
  clear hWw
  obtain ⟨tx, htx⟩ : ∃ tx, Hid (msgB (ns : Int) o = tx) := ⟨_, Lib.hid rfl⟩
  have hi1 : I64 (ns : Int) := ⟨by omega, by omega⟩
  have hi2 : I64 o := by have := HI.out; exact ⟨by omega, by omega⟩
  have HW3 := Lib.hid (wrap64_next (by omega : ns ≤ 4096))
  have HW4 := Lib.hid (wrapI_next (by omega : ns ≤ 4096))
  have htl : tx.length ≤ 32 := by rw [← htx.out]; exact msg_len hi1 hi2
  have hwg : wrap64 (g + 1) = g + 1 := by have := HI.out; unfold wrap64; omega
  have hwg2 : IntKind.i64.wrap (g + 1) = g + 1 := by have := HI.out; rw [IntKind.wrap_i64]; omega
  go_cut [9, 8] (fun s9 s7 wx => Below W.heap.size W wx ∧ ∃ G Aq2 nq2 cq2 Aa2 na2 ca2 m er, s9 = .pointer (some ⟨G, 0, none⟩) ∧ s7 = .int .i64 er ∧ W.heap.size ≤ G ∧ Box wx G [.slice Aq2 nq2 cq2, .slice Aa2 na2 ca2] ∧ Hid (Go.Proofs.Ytmbifmmkccghfaa.sendT b.net ⟨0, g + 1, tx⟩ = (m, er)) ∧ Hid (NetAt wx wx.heap.size (.slice Aq2 nq2 cq2) (.slice Aa2 na2 ca2) m))
  case first =>
    have hd := (Below.refl W.heap.size W).drew
    have u0 : ∀ z : Later W, z.w.cell? ⟨w.heap.size, 0, none⟩ = some (.slice Aq nq cq) := Later.cell (X1.cell 0) z1
    have u1 : ∀ z : Later W, z.w.cell? ⟨w.heap.size, 1, none⟩ = some (.slice Aa na ca) := Later.cell (X1.cell 1) z1
    have u2 : ∀ z : Later W, z.w.cell? ⟨w.heap.size, 2, none⟩ = some (.slice As ns cs) := Later.cell (X1.cell 2) z1
    have HN := Lib.hid ((hx.out.net.later hB).later hd)
    refine wp_region_headsM (C := fun w' => ∃ x : Later W, w' = x.w) [0, 1, 2, 3, 4, 5, 6, 7] (by kernel_rfl) (by kernel_rfl) (Later.mk' hd) (fun _ _ h => h) ?_
    simp only [headOps, List.filterMap_cons, List.filterMap_nil, List.getElem?_toArray, List.getElem?_cons_succ, List.getElem?_cons_zero]
    repeat (first | go_big_quiet_skip | (show wpQuiet _ _ _ _ (_ :: _) _; go_big_quiet_skip) | (show wpQuiet _ _ _ _ (_ :: _) _; go_big_quiet_want; go_big_quiet_op; go_big_quiet_on))
    refine wpQuiet_nil ?_
    clear u0 u1 u2
    generalize W.drew = W0 at hd HN ⊢
    refine anyC_twoW (n := 9) (i := 8) (j := 14) (by kernel_rfl) (Later.mk' hd) ?_ ?_
    · refine wpOp_callD (some 48) (by rfl) rfl rfl ?_ ((rMessage_is hi1 hi2 htx W0).mono ?_)
      · go_simp
      rintro e W1 ⟨Vd, rfl, hV, hb⟩
      obtain ⟨Avd, cvd, rfl, -⟩ := hV.out.form
      refine ⟨_, rfl, ?_⟩
      simp only [Act.put, List.setIfInBounds_toArray, List.set_cons_zero, List.set_cons_succ]
      have HN := Lib.hid (HN.out.later hb)
      have HD := Lib.hid (bytes_of hV.out)
      have hd := hd.trans (hb.mono hd.size)
      clear hb hV
      refine anyC_heads (by kernel_rfl) 7 W1 (Later.mk' hd) [9] _ _ (by kernel_rfl) ?_
      simp only [headOps, List.filterMap_cons, List.filterMap_nil, List.getElem?_toArray, List.getElem?_cons_succ, List.getElem?_cons_zero]
      repeat (first | go_big_quiet_skip | (show wpQuiet _ _ _ _ (_ :: _) _; go_big_quiet_skip) | (show wpQuiet _ _ _ _ (_ :: _) _; go_big_quiet_want; go_big_quiet_op; go_big_quiet_on))
      refine wpQuiet_nil ?_
      refine anyC_twoW (n := 7) (i := 10) (j := 14) (by kernel_rfl) (Later.mk' hd) ?_ ?_
      · refine wpOp_callD (some 50) (by rfl) rfl rfl ?_ ((nRSend_is b.net ⟨0, g + 1, tx⟩ HN HD).mono ?_)
        · go_simp
        rintro e W2 ⟨Vq, Va, m, er, rfl, hT2, hN2, hb⟩
        refine ⟨_, rfl, ?_⟩
        simp only [Act.put, List.setIfInBounds_toArray, List.set_cons_zero, List.set_cons_succ]
        obtain ⟨Aq2, nq2, cq2, Aa2, na2, ca2, rfl, rfl⟩ := hN2.out.form
        have HM := Lib.hid (hN2.out.at hb.size)
        have hd := hd.trans (hb.mono hd.size)
        clear hb hN2
        refine anyC_heads (by kernel_rfl) 3 W2 (Later.mk' hd) [11, 12, 13] _ _ (by kernel_rfl) ?_
        simp only [headOps, List.filterMap_cons, List.filterMap_nil, List.getElem?_toArray, List.getElem?_cons_succ, List.getElem?_cons_zero]
        repeat (first | go_big_quiet_skip | (show wpQuiet _ _ _ _ (_ :: _) _; go_big_quiet_skip) | (show wpQuiet _ _ _ _ (_ :: _) _; go_big_quiet_want; go_big_quiet_op; go_big_quiet_on))
        refine wpQuiet_nil ?_
        refine anyC_oneW (n := 3) (i := 14) (by kernel_rfl) (Later.mk' hd) ?_
        refine wpOp_valD (some 9) (v := .pointer (some ⟨W2.heap.size, 0, none⟩)) (w' := W2.alloc (.cells #[.slice none 0 0, .slice none 0 0] 25)) (by rfl) rfl rfl ?_ ?_
        · go_simp
        simp only [Act.put, List.setIfInBounds_toArray, List.set_cons_zero, List.set_cons_succ]
        have hb := (Below.refl W2.heap.size W2).alloc (Nat.le_refl _) (.cells #[.slice none 0 0, .slice none 0 0] 25)
        have X9 := Box.new W2 [.slice none 0 0, .slice none 0 0] 25
        have hg9 := hd.size
        have HM := Lib.hid (HM.out.later hb)
        have hd := hd.trans (hb.mono hd.size)
        clear hb
        generalize W2.alloc (.cells #[.slice none 0 0, .slice none 0 0] 25) = W3 at hd X9 HM ⊢
        generalize W2.heap.size = G at X9 hg9 ⊢
        have X9c0 : W3.cell? ⟨G, 0, none⟩ = some (.slice none 0 0) := X9.cell 0
        have X9f0 : W3.frozen? ⟨G, 0, none⟩ = false := X9.free 0
        have X9c1 : W3.cell? ⟨G, 1, none⟩ = some (.slice none 0 0) := X9.cell 1
        have X9f1 : W3.frozen? ⟨G, 1, none⟩ = false := X9.free 1
        have X9z : G < W3.heap.size := X9.lt
        refine anyC_storeN (w' := ((W3.setCell ⟨G, 0, none⟩ (.slice Aq2 nq2 cq2)).setCell ⟨G, 1, none⟩ (.slice Aa2 na2 ca2))) (n := 1) (i := 15) (by kernel_rfl) rfl rfl rfl (Later.mk' hd) ?_ ?_
        · go_simp
        have Y9 := ((X9.set 0 (.slice Aq2 nq2 cq2)).set 1 (.slice Aa2 na2 ca2))
        have hd2 := ((hd.setCell (p := ⟨G, 0, none⟩) (by simp <;> omega) (.slice Aq2 nq2 cq2)).setCell (p := ⟨G, 1, none⟩) (by simp <;> omega) (.slice Aa2 na2 ca2))
        have HM2 := net_setO (B1 := Aq2) (l1 := nq2) (d1 := cq2) (B2 := Aa2) (l2 := na2) (d2 := ca2) HM X9
        clear X9c0 X9c1 X9f0 X9f1 X9z
        generalize ((W3.setCell ⟨G, 0, none⟩ (.slice Aq2 nq2 cq2)).setCell ⟨G, 1, none⟩ (.slice Aa2 na2 ca2)) = W9 at Y9 hd2 HM2 ⊢
        simp only [List.set_cons_zero, List.set_cons_succ] at Y9
        refine anyC_valD (some 8) (n := 0) (i := 16) (v := .int .i64 er) (w' := W9) (by kernel_rfl) rfl rfl rfl (Later.mk' hd2) (by first | rfl | go_simp) ?_
        simp only [Act.put, List.setIfInBounds_toArray, List.set_cons_zero, List.set_cons_succ]
        refine anyC_done (by kernel_rfl) (Later.mk' hd2) ?_
        go_wp2_with fail
        go_meet
        exact ⟨hd2, G, _, _, _, _, _, _, m, er, rfl, rfl, hg9, Y9, hT2, HM2⟩
      · refine wpOp_valD (some 9) (v := .pointer (some ⟨W1.heap.size, 0, none⟩)) (w' := W1.alloc (.cells #[.slice none 0 0, .slice none 0 0] 25)) (by rfl) rfl rfl ?_ ?_
        · go_simp
        simp only [Act.put, List.setIfInBounds_toArray, List.set_cons_zero, List.set_cons_succ]
        have hb := (Below.refl W1.heap.size W1).alloc (Nat.le_refl _) (.cells #[.slice none 0 0, .slice none 0 0] 25)
        have X9 := Box.new W1 [.slice none 0 0, .slice none 0 0] 25
        have hg9 := hd.size
        have HN := Lib.hid (HN.out.later hb)
        have HD := Lib.hid (HD.out.later hb)
        have hd := hd.trans (hb.mono hd.size)
        clear hb
        generalize W1.alloc (.cells #[.slice none 0 0, .slice none 0 0] 25) = W2 at hd X9 HD HN ⊢
        generalize W1.heap.size = G at X9 hg9 ⊢
        refine anyC_oneW (n := 6) (i := 10) (by kernel_rfl) (Later.mk' hd) ?_
        refine wpOp_callD (some 50) (by rfl) rfl rfl ?_ ((nRSend_is b.net ⟨0, g + 1, tx⟩ HN HD).mono ?_)
        · go_simp
        rintro e W3 ⟨Vq, Va, m, er, rfl, hT2, hN2, hb⟩
        refine ⟨_, rfl, ?_⟩
        simp only [Act.put, List.setIfInBounds_toArray, List.set_cons_zero, List.set_cons_succ]
        obtain ⟨Aq2, nq2, cq2, Aa2, na2, ca2, rfl, rfl⟩ := hN2.out.form
        have X9 := X9.later hb
        have HM := Lib.hid (hN2.out.at hb.size)
        have hd := hd.trans (hb.mono hd.size)
        clear hb hN2
        refine anyC_heads (by kernel_rfl) 2 W3 (Later.mk' hd) [11, 12, 13] _ _ (by kernel_rfl) ?_
        simp only [headOps, List.filterMap_cons, List.filterMap_nil, List.getElem?_toArray, List.getElem?_cons_succ, List.getElem?_cons_zero]
        repeat (first | go_big_quiet_skip | (show wpQuiet _ _ _ _ (_ :: _) _; go_big_quiet_skip) | (show wpQuiet _ _ _ _ (_ :: _) _; go_big_quiet_want; go_big_quiet_op; go_big_quiet_on))
        refine wpQuiet_nil ?_
        have X9c0 : W3.cell? ⟨G, 0, none⟩ = some (.slice none 0 0) := X9.cell 0
        have X9f0 : W3.frozen? ⟨G, 0, none⟩ = false := X9.free 0
        have X9c1 : W3.cell? ⟨G, 1, none⟩ = some (.slice none 0 0) := X9.cell 1
        have X9f1 : W3.frozen? ⟨G, 1, none⟩ = false := X9.free 1
        have X9z : G < W3.heap.size := X9.lt
        refine anyC_storeN (w' := ((W3.setCell ⟨G, 0, none⟩ (.slice Aq2 nq2 cq2)).setCell ⟨G, 1, none⟩ (.slice Aa2 na2 ca2))) (n := 1) (i := 15) (by kernel_rfl) rfl rfl rfl (Later.mk' hd) ?_ ?_
        · go_simp
        have Y9 := ((X9.set 0 (.slice Aq2 nq2 cq2)).set 1 (.slice Aa2 na2 ca2))
        have hd2 := ((hd.setCell (p := ⟨G, 0, none⟩) (by simp <;> omega) (.slice Aq2 nq2 cq2)).setCell (p := ⟨G, 1, none⟩) (by simp <;> omega) (.slice Aa2 na2 ca2))
        have HM2 := net_setO (B1 := Aq2) (l1 := nq2) (d1 := cq2) (B2 := Aa2) (l2 := na2) (d2 := ca2) HM X9
        clear X9c0 X9c1 X9f0 X9f1 X9z
        generalize ((W3.setCell ⟨G, 0, none⟩ (.slice Aq2 nq2 cq2)).setCell ⟨G, 1, none⟩ (.slice Aa2 na2 ca2)) = W9 at Y9 hd2 HM2 ⊢
        simp only [List.set_cons_zero, List.set_cons_succ] at Y9
        refine anyC_valD (some 8) (n := 0) (i := 16) (v := .int .i64 er) (w' := W9) (by kernel_rfl) rfl rfl rfl (Later.mk' hd2) (by first | rfl | go_simp) ?_
        simp only [Act.put, List.setIfInBounds_toArray, List.set_cons_zero, List.set_cons_succ]
        refine anyC_done (by kernel_rfl) (Later.mk' hd2) ?_
        go_wp2_with fail
        go_meet
        exact ⟨hd2, G, _, _, _, _, _, _, m, er, rfl, rfl, hg9, Y9, hT2, HM2⟩
    · refine wpOp_valD (some 9) (v := .pointer (some ⟨W0.heap.size, 0, none⟩)) (w' := W0.alloc (.cells #[.slice none 0 0, .slice none 0 0] 25)) (by rfl) rfl rfl ?_ ?_
      · go_simp
      simp only [Act.put, List.setIfInBounds_toArray, List.set_cons_zero, List.set_cons_succ]
      have hb := (Below.refl W0.heap.size W0).alloc (Nat.le_refl _) (.cells #[.slice none 0 0, .slice none 0 0] 25)
      have X9 := Box.new W0 [.slice none 0 0, .slice none 0 0] 25
      have hg9 := hd.size
      have HN := Lib.hid (HN.out.later hb)
      have hd := hd.trans (hb.mono hd.size)
      clear hb
      generalize W0.alloc (.cells #[.slice none 0 0, .slice none 0 0] 25) = W1 at hd X9 HN ⊢
      generalize W0.heap.size = G at X9 hg9 ⊢
      refine anyC_oneW (n := 8) (i := 8) (by kernel_rfl) (Later.mk' hd) ?_
      refine wpOp_callD (some 48) (by rfl) rfl rfl ?_ ((rMessage_is hi1 hi2 htx W1).mono ?_)
      · go_simp
      rintro e W2 ⟨Vd, rfl, hV, hb⟩
      obtain ⟨Avd, cvd, rfl, -⟩ := hV.out.form
      refine ⟨_, rfl, ?_⟩
      simp only [Act.put, List.setIfInBounds_toArray, List.set_cons_zero, List.set_cons_succ]
      have HN := Lib.hid (HN.out.later hb)
      have X9 := X9.later hb
      have HD := Lib.hid (bytes_of hV.out)
      have hd := hd.trans (hb.mono hd.size)
      clear hb hV
      refine anyC_heads (by kernel_rfl) 6 W2 (Later.mk' hd) [9] _ _ (by kernel_rfl) ?_
      simp only [headOps, List.filterMap_cons, List.filterMap_nil, List.getElem?_toArray, List.getElem?_cons_succ, List.getElem?_cons_zero]
      repeat (first | go_big_quiet_skip | (show wpQuiet _ _ _ _ (_ :: _) _; go_big_quiet_skip) | (show wpQuiet _ _ _ _ (_ :: _) _; go_big_quiet_want; go_big_quiet_op; go_big_quiet_on))
      refine wpQuiet_nil ?_
      refine anyC_oneW (n := 6) (i := 10) (by kernel_rfl) (Later.mk' hd) ?_
      refine wpOp_callD (some 50) (by rfl) rfl rfl ?_ ((nRSend_is b.net ⟨0, g + 1, tx⟩ HN HD).mono ?_)
      · go_simp
      rintro e W3 ⟨Vq, Va, m, er, rfl, hT2, hN2, hb⟩
      refine ⟨_, rfl, ?_⟩
      simp only [Act.put, List.setIfInBounds_toArray, List.set_cons_zero, List.set_cons_succ]
      obtain ⟨Aq2, nq2, cq2, Aa2, na2, ca2, rfl, rfl⟩ := hN2.out.form
      have X9 := X9.later hb
      have HM := Lib.hid (hN2.out.at hb.size)
      have hd := hd.trans (hb.mono hd.size)
      clear hb hN2
      refine anyC_heads (by kernel_rfl) 2 W3 (Later.mk' hd) [11, 12, 13] _ _ (by kernel_rfl) ?_
      simp only [headOps, List.filterMap_cons, List.filterMap_nil, List.getElem?_toArray, List.getElem?_cons_succ, List.getElem?_cons_zero]
      repeat (first | go_big_quiet_skip | (show wpQuiet _ _ _ _ (_ :: _) _; go_big_quiet_skip) | (show wpQuiet _ _ _ _ (_ :: _) _; go_big_quiet_want; go_big_quiet_op; go_big_quiet_on))
      refine wpQuiet_nil ?_
      have X9c0 : W3.cell? ⟨G, 0, none⟩ = some (.slice none 0 0) := X9.cell 0
      have X9f0 : W3.frozen? ⟨G, 0, none⟩ = false := X9.free 0
      have X9c1 : W3.cell? ⟨G, 1, none⟩ = some (.slice none 0 0) := X9.cell 1
      have X9f1 : W3.frozen? ⟨G, 1, none⟩ = false := X9.free 1
      have X9z : G < W3.heap.size := X9.lt
      refine anyC_storeN (w' := ((W3.setCell ⟨G, 0, none⟩ (.slice Aq2 nq2 cq2)).setCell ⟨G, 1, none⟩ (.slice Aa2 na2 ca2))) (n := 1) (i := 15) (by kernel_rfl) rfl rfl rfl (Later.mk' hd) ?_ ?_
      · go_simp
      have Y9 := ((X9.set 0 (.slice Aq2 nq2 cq2)).set 1 (.slice Aa2 na2 ca2))
      have hd2 := ((hd.setCell (p := ⟨G, 0, none⟩) (by simp <;> omega) (.slice Aq2 nq2 cq2)).setCell (p := ⟨G, 1, none⟩) (by simp <;> omega) (.slice Aa2 na2 ca2))
      have HM2 := net_setO (B1 := Aq2) (l1 := nq2) (d1 := cq2) (B2 := Aa2) (l2 := na2) (d2 := ca2) HM X9
      clear X9c0 X9c1 X9f0 X9f1 X9z
      generalize ((W3.setCell ⟨G, 0, none⟩ (.slice Aq2 nq2 cq2)).setCell ⟨G, 1, none⟩ (.slice Aa2 na2 ca2)) = W9 at Y9 hd2 HM2 ⊢
      simp only [List.set_cons_zero, List.set_cons_succ] at Y9
      refine anyC_valD (some 8) (n := 0) (i := 16) (v := .int .i64 er) (w' := W9) (by kernel_rfl) rfl rfl rfl (Later.mk' hd2) (by first | rfl | go_simp) ?_
      simp only [Act.put, List.setIfInBounds_toArray, List.set_cons_zero, List.set_cons_succ]
      refine anyC_done (by kernel_rfl) (Later.mk' hd2) ?_
      go_wp2_with fail
      go_meet
      exact ⟨hd2, G, _, _, _, _, _, _, m, er, rfl, rfl, hg9, Y9, hT2, HM2⟩
  case rest =>
    obtain ⟨hb, G, Aq2, nq2, cq2, Aa2, na2, ca2, m, er, rfl, rfl, hG, X9, hT2, HM⟩ := hcut
    have z6 := X6.lt
    have hB := hB.trans (hb.mono hB.size)
    have X1 := X1.later hb
    have X6 := X6.later hb
    have hsn := send_net (m := m) (er := er) HOK.out HIN.out (by rw [hns.out]; exact h4) (by rw [hns.out, htx.out]; exact hT2.out)
    rw [hT.out] at hsn
    by_cases he : er = 0
    rotate_left
    · have d6 : (er != 0) = true := by simp [he]
      obtain rfl : T = (Bx.zero, er) := by rw [hsn, if_neg he]
      have X6c0 : wc.cell? ⟨w.heap.size + 1, 0, none⟩ = some (.slice none 0 0) := X6.cell 0
      have X6f0 : wc.frozen? ⟨w.heap.size + 1, 0, none⟩ = false := X6.free 0
      have X6c1 : wc.cell? ⟨w.heap.size + 1, 1, none⟩ = some (.slice none 0 0) := X6.cell 1
      have X6f1 : wc.frozen? ⟨w.heap.size + 1, 1, none⟩ = false := X6.free 1
      have X6c2 : wc.cell? ⟨w.heap.size + 1, 2, none⟩ = some (.slice none 0 0) := X6.cell 2
      have X6f2 : wc.frozen? ⟨w.heap.size + 1, 2, none⟩ = false := X6.free 2
      have X6c3 : wc.cell? ⟨w.heap.size + 1, 3, none⟩ = some (.slice none 0 0) := X6.cell 3
      have X6f3 : wc.frozen? ⟨w.heap.size + 1, 3, none⟩ = false := X6.free 3
      have X6c4 : wc.cell? ⟨w.heap.size + 1, 4, none⟩ = some (.slice none 0 0) := X6.cell 4
      have X6f4 : wc.frozen? ⟨w.heap.size + 1, 4, none⟩ = false := X6.free 4
      have X6z : w.heap.size + 1 < wc.heap.size := X6.lt
      have Y6 := (((((X6.set 0 (.slice none 0 0)).set 1 (.slice none 0 0)).set 2 (.slice none 0 0)).set 3 (.slice none 0 0)).set 4 (.slice none 0 0))
      have hB2 := (((((hB.setCell (p := ⟨w.heap.size + 1, 0, none⟩) (by simp <;> omega) (.slice none 0 0)).setCell (p := ⟨w.heap.size + 1, 1, none⟩) (by simp <;> omega) (.slice none 0 0)).setCell (p := ⟨w.heap.size + 1, 2, none⟩) (by simp <;> omega) (.slice none 0 0)).setCell (p := ⟨w.heap.size + 1, 3, none⟩) (by simp <;> omega) (.slice none 0 0)).setCell (p := ⟨w.heap.size + 1, 4, none⟩) (by simp <;> omega) (.slice none 0 0))
      go_wp2
      clear X6c0 X6c1 X6c2 X6c3 X6c4 X6f0 X6f1 X6f2 X6f3 X6f4 X6z
      generalize (((((wc.setCell ⟨w.heap.size + 1, 0, none⟩ (.slice none 0 0)).setCell ⟨w.heap.size + 1, 1, none⟩ (.slice none 0 0)).setCell ⟨w.heap.size + 1, 2, none⟩ (.slice none 0 0)).setCell ⟨w.heap.size + 1, 3, none⟩ (.slice none 0 0)).setCell ⟨w.heap.size + 1, 4, none⟩ (.slice none 0 0)) = W8 at Y6 hB2 ⊢
      simp only [List.set_cons_zero, List.set_cons_succ] at Y6
      have Y6c0 : W8.cell? ⟨w.heap.size + 1, 0, none⟩ = some (.slice none 0 0) := Y6.cell 0
      have Y6c1 : W8.cell? ⟨w.heap.size + 1, 1, none⟩ = some (.slice none 0 0) := Y6.cell 1
      have Y6c2 : W8.cell? ⟨w.heap.size + 1, 2, none⟩ = some (.slice none 0 0) := Y6.cell 2
      have Y6c3 : W8.cell? ⟨w.heap.size + 1, 3, none⟩ = some (.slice none 0 0) := Y6.cell 3
      have Y6c4 : W8.cell? ⟨w.heap.size + 1, 4, none⟩ = some (.slice none 0 0) := Y6.cell 4
      refine bodyPost_ret (v := .tuple #[.agg #[.slice none 0 0, .slice none 0 0, .slice none 0 0, .slice none 0 0, .slice none 0 0], .int .i64 er]) (by simp [results, Try.results13, go_sem, Y6c0, Y6c1, Y6c2, Y6c3, Y6c4]) rfl ?_
      exact ⟨_, _, _, _, _, rfl, bxAt_zero _ _, hB2⟩
    subst he
    obtain rfl : T = (⟨m, b.sent ++ [(g, o)], b.heard, b.fresh⟩, 0) := by rw [hsn, if_pos rfl]
    clear hsn
    have hzb := hb.size
    have X1c0 : wc.cell? ⟨w.heap.size, 0, none⟩ = some (.slice Aq nq cq) := X1.cell 0
    have X1f0 : wc.frozen? ⟨w.heap.size, 0, none⟩ = false := X1.free 0
    have X1c1 : wc.cell? ⟨w.heap.size, 1, none⟩ = some (.slice Aa na ca) := X1.cell 1
    have X1f1 : wc.frozen? ⟨w.heap.size, 1, none⟩ = false := X1.free 1
    have X1c2 : wc.cell? ⟨w.heap.size, 2, none⟩ = some (.slice As ns cs) := X1.cell 2
    have X1f2 : wc.frozen? ⟨w.heap.size, 2, none⟩ = false := X1.free 2
    have X1c3 : wc.cell? ⟨w.heap.size, 3, none⟩ = some (.slice Ah n ch) := X1.cell 3
    have X1f3 : wc.frozen? ⟨w.heap.size, 3, none⟩ = false := X1.free 3
    have X1c4 : wc.cell? ⟨w.heap.size, 4, none⟩ = some (.slice Af nf cf) := X1.cell 4
    have X1f4 : wc.frozen? ⟨w.heap.size, 4, none⟩ = false := X1.free 4
    have X1z : w.heap.size < wc.heap.size := X1.lt
    have X9c0 : wc.cell? ⟨G, 0, none⟩ = some (.slice Aq2 nq2 cq2) := X9.cell 0
    have X9c1 : wc.cell? ⟨G, 1, none⟩ = some (.slice Aa2 na2 ca2) := X9.cell 1
    have zG := X9.lt
    go_upto_region 12 with fail
    clear X1c0 X1c1 X1c2 X1c3 X1c4 X1f0 X1f1 X1f2 X1f3 X1f4 X9c0 X9c1
    obtain ⟨HM2, S1⟩ := HM.out.set2 (SlBox.of X1 (by simp)) Aq2 Aa2 nq2 cq2 na2 ca2
    have X1 := (X1.set 0 (.slice Aq2 nq2 cq2)).set 1 (.slice Aa2 na2 ca2)
    have X6 := (X6.other (a := ⟨w.heap.size, 0, none⟩) (by simp <;> omega) (.slice Aq2 nq2 cq2)).other (a := ⟨w.heap.size, 1, none⟩) (by simp <;> omega) (.slice Aa2 na2 ca2)
    have hB := (hB.setCell (p := ⟨w.heap.size, 0, none⟩) (by simp) (.slice Aq2 nq2 cq2)).setCell (p := ⟨w.heap.size, 1, none⟩) (by simp) (.slice Aa2 na2 ca2)
    have hsz2 : ((wc.setCell ⟨w.heap.size, 0, none⟩ (.slice Aq2 nq2 cq2)).setCell ⟨w.heap.size, 1, none⟩ (.slice Aa2 na2 ca2)).heap.size = wc.heap.size := by simp
    generalize (wc.setCell ⟨w.heap.size, 0, none⟩ (.slice Aq2 nq2 cq2)).setCell ⟨w.heap.size, 1, none⟩ (.slice Aa2 na2 ca2) = W2 at X1 X6 HM2 S1 hB hsz2 ⊢
    simp only [List.set_cons_zero, List.set_cons_succ] at X1
    clear X9 S1
    have hzl1 := X1.lt
    have hzl6 := X6.lt
    have hal := (Below.refl W2.heap.size W2).alloc (Nat.le_refl _) (.cells #[] 48)
    have hza := hal.size
    have X1a := X1.later hal
    have X6a := X6.later hal
    have hBa := hB.trans (hal.mono hB.size)
    obtain ⟨V1, W4, hr1, hO1, hg1⟩ := app_lks 26 hns.out (by omega) (ownM_empty W2) (hx.out.sent.later hBa) hza
    have hx12 : (W2.alloc (.cells #[] 48)).cell? ⟨w.heap.size, 2, none⟩ = some (.slice As ns cs) := X1a.cell 2
    have hx1z := X1a.lt
    have hO0 := ownM_empty W2
    have X1b := box_grown hO0 hg1 X1a (by omega)
    have X6b := box_grown hO0 hg1 X6a (by omega)
    have hBb := OwnE.grown hO0 hg1 (by have := hB.size; omega) hBa (by have := hB.size; omega)
    have hLb := OwnE.grown hO0 hg1 (Nat.le_refl _) hal hza
    have hzb2 : W2.heap.size ≤ W4.heap.size := by have := hg1.size; omega
    obtain ⟨i9, E9⟩ := oElemM
    have hbS := (Below.refl W4.heap.size W4).alloc (Nat.le_refl _) (.cells #[.int .i64 g, .int .i64 o] 48)
    have XN := Box.new W4 [.int .i64 g, .int .i64 o] 48
    have hO3 := hO1.later hbS
    have hzS := hbS.size
    obtain ⟨g2, c2, W5, hr2, hO4, hg2⟩ := run_appE E9 (fun _ => rfl) oneM (by omega) (g, o) 26 hO3 XN (by omega) (by rw [hns.out]; omega)
    rw [hns.out] at hr2 hO4
    have X1c := box_grown hO3 hg2 (X1b.later hbS) (by omega)
    have X6c := box_grown hO3 hg2 (X6b.later hbS) (by omega)
    have hBc := OwnE.grown hO3 hg2 (by have := hB.size; omega) (hBb.trans (hbS.mono (by have := hB.size; omega))) (by have := hB.size; omega)
    have hLc := OwnE.grown hO3 hg2 (Nat.le_refl _) (hLb.trans (hbS.mono hzb2)) (by omega)
    have HM3 := (hsz2 ▸ HM2 : NetAt W2 W2.heap.size _ _ _).below hLc
    have HO := Lib.hid hO4
    have x12 : W5.cell? ⟨w.heap.size, 2, none⟩ = some (.slice As ns cs) := X1c.cell 2
    have x1f : W5.frozen? ⟨w.heap.size, 2, none⟩ = false := X1c.free 2
    have x1z := X1c.lt
    have hsz3 : W2.heap.size ≤ W5.heap.size := hLc.size
    clear hO4 hO3 hO1 hO0 hg1 hg2 hLb hLc hbS XN hal X1a X6a X1b X6b hBa hBb HM2 hsz2
    go_upto_region 13 with fail
    clear hr1 hr2 hx12 x12 x1f x1z hx1z
    have HM4 := HM3.setS (SlBox.of X1c (by simp)) 2 (.slice (some ⟨g2, 0, none⟩) (ns + 1) c2)
    have X1 := X1c.set 2 (.slice (some ⟨g2, 0, none⟩) (ns + 1) c2)
    have X6 := X6c.other (a := ⟨w.heap.size, 2, none⟩) (by simp <;> omega) (.slice (some ⟨g2, 0, none⟩) (ns + 1) c2)
    have hB := hBc.setCell (p := ⟨w.heap.size, 2, none⟩) (by simp) (.slice (some ⟨g2, 0, none⟩) (ns + 1) c2)
    have HO := Lib.hid (HO.out.set (a := ⟨w.heap.size, 2, none⟩) (by simp <;> omega) (.slice (some ⟨g2, 0, none⟩) (ns + 1) c2))
    have hsz4 : W2.heap.size ≤ (W5.setCell ⟨w.heap.size, 2, none⟩ (.slice (some ⟨g2, 0, none⟩) (ns + 1) c2)).heap.size := by simp; omega
    generalize W5.setCell ⟨w.heap.size, 2, none⟩ (.slice (some ⟨g2, 0, none⟩) (ns + 1) c2) = W5' at X1 X6 HM4 hB HO hsz4 ⊢
    simp only [List.set_cons_zero, List.set_cons_succ] at X1
    obtain ⟨gM, hgM⟩ : ∃ gM, W2.heap.size = gM := ⟨_, rfl⟩
    rw [hgM] at HM4 hsz4
    have HO : Hid (OwnHm W5' W2.heap.size (.slice (some ⟨g2, 0, none⟩) (ns + 1) c2) (b.sent ++ [(g, o)])) := HO
    have X1c0 : W5'.cell? ⟨w.heap.size, 0, none⟩ = some (.slice Aq2 nq2 cq2) := X1.cell 0
    have X1c1 : W5'.cell? ⟨w.heap.size, 1, none⟩ = some (.slice Aa2 na2 ca2) := X1.cell 1
    have X1c2 : W5'.cell? ⟨w.heap.size, 2, none⟩ = some (.slice (some ⟨g2, 0, none⟩) (ns + 1) c2) := X1.cell 2
    have X1c3 : W5'.cell? ⟨w.heap.size, 3, none⟩ = some (.slice Ah n ch) := X1.cell 3
    have X1c4 : W5'.cell? ⟨w.heap.size, 4, none⟩ = some (.slice Af nf cf) := X1.cell 4
    have z1 := X1.lt
    have X6c0 : W5'.cell? ⟨w.heap.size + 1, 0, none⟩ = some (.slice none 0 0) := X6.cell 0
    have X6f0 : W5'.frozen? ⟨w.heap.size + 1, 0, none⟩ = false := X6.free 0
    have X6c1 : W5'.cell? ⟨w.heap.size + 1, 1, none⟩ = some (.slice none 0 0) := X6.cell 1
    have X6f1 : W5'.frozen? ⟨w.heap.size + 1, 1, none⟩ = false := X6.free 1
    have X6c2 : W5'.cell? ⟨w.heap.size + 1, 2, none⟩ = some (.slice none 0 0) := X6.cell 2
    have X6f2 : W5'.frozen? ⟨w.heap.size + 1, 2, none⟩ = false := X6.free 2
    have X6c3 : W5'.cell? ⟨w.heap.size + 1, 3, none⟩ = some (.slice none 0 0) := X6.cell 3
    have X6f3 : W5'.frozen? ⟨w.heap.size + 1, 3, none⟩ = false := X6.free 3
    have X6c4 : W5'.cell? ⟨w.heap.size + 1, 4, none⟩ = some (.slice none 0 0) := X6.cell 4
    have X6f4 : W5'.frozen? ⟨w.heap.size + 1, 4, none⟩ = false := X6.free 4
    have X6z : w.heap.size + 1 < W5'.heap.size := X6.lt
    go_wp2
    have HM5 := HM4.set5 (SlBox.of X6 (by simp)) Aq2 Aa2 (some ⟨g2, 0, none⟩) Ah Af nq2 cq2 na2 ca2 (ns + 1) c2 n ch nf cf
    have HO := Lib.hid (((((HO.out.set (a := ⟨w.heap.size + 1, 0, none⟩) (by simp <;> omega) (.slice Aq2 nq2 cq2)).set (a := ⟨w.heap.size + 1, 1, none⟩) (by simp <;> omega) (.slice Aa2 na2 ca2)).set (a := ⟨w.heap.size + 1, 2, none⟩) (by simp <;> omega) (.slice (some ⟨g2, 0, none⟩) (ns + 1) c2)).set (a := ⟨w.heap.size + 1, 3, none⟩) (by simp <;> omega) (.slice Ah n ch)).set (a := ⟨w.heap.size + 1, 4, none⟩) (by simp <;> omega) (.slice Af nf cf))
    have Y6 := (((((X6.set 0 (.slice Aq2 nq2 cq2)).set 1 (.slice Aa2 na2 ca2)).set 2 (.slice (some ⟨g2, 0, none⟩) (ns + 1) c2)).set 3 (.slice Ah n ch)).set 4 (.slice Af nf cf))
    have hB := (((((hB.setCell (p := ⟨w.heap.size + 1, 0, none⟩) (by simp <;> omega) (.slice Aq2 nq2 cq2)).setCell (p := ⟨w.heap.size + 1, 1, none⟩) (by simp <;> omega) (.slice Aa2 na2 ca2)).setCell (p := ⟨w.heap.size + 1, 2, none⟩) (by simp <;> omega) (.slice (some ⟨g2, 0, none⟩) (ns + 1) c2)).setCell (p := ⟨w.heap.size + 1, 3, none⟩) (by simp <;> omega) (.slice Ah n ch)).setCell (p := ⟨w.heap.size + 1, 4, none⟩) (by simp <;> omega) (.slice Af nf cf))
    have hsz5 : gM ≤ (((((W5'.setCell ⟨w.heap.size + 1, 0, none⟩ (.slice Aq2 nq2 cq2)).setCell ⟨w.heap.size + 1, 1, none⟩ (.slice Aa2 na2 ca2)).setCell ⟨w.heap.size + 1, 2, none⟩ (.slice (some ⟨g2, 0, none⟩) (ns + 1) c2)).setCell ⟨w.heap.size + 1, 3, none⟩ (.slice Ah n ch)).setCell ⟨w.heap.size + 1, 4, none⟩ (.slice Af nf cf)).heap.size := by simp; omega
    clear X1c0 X1c1 X1c2 X1c3 X1c4 X6c0 X6c1 X6c2 X6c3 X6c4 X6f0 X6f1 X6f2 X6f3 X6f4 X6z
    generalize (((((W5'.setCell ⟨w.heap.size + 1, 0, none⟩ (.slice Aq2 nq2 cq2)).setCell ⟨w.heap.size + 1, 1, none⟩ (.slice Aa2 na2 ca2)).setCell ⟨w.heap.size + 1, 2, none⟩ (.slice (some ⟨g2, 0, none⟩) (ns + 1) c2)).setCell ⟨w.heap.size + 1, 3, none⟩ (.slice Ah n ch)).setCell ⟨w.heap.size + 1, 4, none⟩ (.slice Af nf cf)) = W6 at HO Y6 HM5 hB hsz5 ⊢
    simp only [List.set_cons_zero, List.set_cons_succ] at Y6
    have Y6c0 : W6.cell? ⟨w.heap.size + 1, 0, none⟩ = some (.slice Aq2 nq2 cq2) := Y6.cell 0
    have Y6c1 : W6.cell? ⟨w.heap.size + 1, 1, none⟩ = some (.slice Aa2 na2 ca2) := Y6.cell 1
    have Y6c2 : W6.cell? ⟨w.heap.size + 1, 2, none⟩ = some (.slice (some ⟨g2, 0, none⟩) (ns + 1) c2) := Y6.cell 2
    have Y6c3 : W6.cell? ⟨w.heap.size + 1, 3, none⟩ = some (.slice Ah n ch) := Y6.cell 3
    have Y6c4 : W6.cell? ⟨w.heap.size + 1, 4, none⟩ = some (.slice Af nf cf) := Y6.cell 4
    have hX := hx.out.later hB
    have hS := OwnE.lks HO.out (by rw [List.length_append, hns.out]; simp [maxLen]; omega)
    refine bodyPost_ret (v := .tuple #[.agg #[.slice Aq2 nq2 cq2, .slice Aa2 na2 ca2, .slice (some ⟨g2, 0, none⟩) (ns + 1) c2, .slice Ah n ch, .slice Af nf cf], .int .i64 0]) (by simp [results, Try.results13, go_sem, Y6c0, Y6c1, Y6c2, Y6c3, Y6c4]) rfl ?_
    exact ⟨_, _, _, _, _, rfl, ⟨HM5.more hsz5, hS, hX.heard, hX.fresh⟩, hB⟩
end Go.Proofs.Ytmbifmmkccghfaa

/-
  Chapter 34's contracts, as the laws' walks take them. (Printed by gen_sc.py.) No condition.
-/
namespace Go.Proofs.Ytmbifmmkccghfaa
open Go.RowKit

theorem BxAt.lens {w : World} {B : Nat} {Aq : Option Addr} {nq cq : Nat} {Aa : Option Addr} {na ca : Nat} {As : Option Addr} {ns cs : Nat} {Ah : Option Addr} {nh ch : Nat} {Af : Option Addr} {nf cf : Nat} {b : Bx} (h : BxAt w B (.slice Aq nq cq) (.slice Aa na ca) (.slice As ns cs) (.slice Ah nh ch) (.slice Af nf cf) b) : b.net.queue.length = nq ∧ b.net.apart.length = na ∧ b.sent.length = ns ∧ b.heard.length = nh ∧ b.fresh.length = nf ∧ nq ≤ 9223372036854775807 ∧ na ≤ 9223372036854775807 ∧ ns ≤ 9223372036854775807 ∧ nh ≤ 9223372036854775807 ∧ nf ≤ 9223372036854775807 := by
  obtain ⟨_, _, h1, m1⟩ := h.net.queue.form
  obtain ⟨_, _, h2, m2⟩ := h.net.apart.form
  obtain ⟨_, _, h3, m3⟩ := h.sent.form
  obtain ⟨_, _, h4, m4⟩ := h.heard.2.form3
  obtain ⟨_, _, h5, m5⟩ := h.fresh.2.form3
  cases h1; cases h2; cases h3; cases h4; cases h5
  unfold maxLen at m1 m2 m3 m4 m5
  exact ⟨rfl, rfl, rfl, rfl, rfl, by omega, by omega, by omega, by omega, by omega⟩
theorem RetBx.sl {t : Bx} {rest : Array Value} {w w' : World} {e : Ending} (h : RetBx t rest w e w') : ∃ Aq nq cq Aa na ca As ns cs Ah nh ch Af nf cf, e = .returned (.tuple (#[.agg #[.slice Aq nq cq, .slice Aa na ca, .slice As ns cs, .slice Ah nh ch, .slice Af nf cf]] ++ rest)) ∧ Hid (BxAt w' w'.heap.size (.slice Aq nq cq) (.slice Aa na ca) (.slice As ns cs) (.slice Ah nh ch) (.slice Af nf cf) t) ∧ Below w.heap.size w w' := by
  obtain ⟨Vq, Va, Vs, Vh, Vf, he, hX, hb⟩ := h
  obtain ⟨Aq, nq, cq, Aa, na, ca, As, ns, cs, Ah, nh, ch, Af, nf, cf, rfl, rfl, rfl, rfl, rfl⟩ := hX.forms5
  exact ⟨Aq, nq, cq, Aa, na, ca, As, ns, cs, Ah, nh, ch, Af, nf, cf, he, Lib.hid hX, hb⟩
theorem RetDlv.sl {t : Bx × Bool × Int} {w w' : World} {e : Ending} (h : RetDlv t w e w') : ∃ Aq nq cq Aa na ca As ns cs Ah nh ch Af nf cf, e = .returned (.tuple #[.agg #[.slice Aq nq cq, .slice Aa na ca, .slice As ns cs, .slice Ah nh ch, .slice Af nf cf], .bool t.2.1, .int .i64 t.2.2]) ∧ Hid (BxAt w' w'.heap.size (.slice Aq nq cq) (.slice Aa na ca) (.slice As ns cs) (.slice Ah nh ch) (.slice Af nf cf) t.1) ∧ Below w.heap.size w w' := by
  obtain ⟨Vq, Va, Vs, Vh, Vf, he, hX, hb⟩ := h
  obtain ⟨Aq, nq, cq, Aa, na, ca, As, ns, cs, Ah, nh, ch, Af, nf, cf, rfl, rfl, rfl, rfl, rfl⟩ := hX.forms5
  exact ⟨Aq, nq, cq, Aa, na, ca, As, ns, cs, Ah, nh, ch, Af, nf, cf, he, Lib.hid hX, hb⟩
theorem RetTick.sl {t : Bx × List Int × Int} {w w' : World} {e : Ending} (h : RetTick t w e w') : ∃ Aq nq cq Aa na ca As ns cs Ah nh ch Af nf cf Al nl cl, e = .returned (.tuple #[.agg #[.slice Aq nq cq, .slice Aa na ca, .slice As ns cs, .slice Ah nh ch, .slice Af nf cf], .slice Al nl cl, .int .i64 t.2.2]) ∧ Hid (BxAt w' w'.heap.size (.slice Aq nq cq) (.slice Aa na ca) (.slice As ns cs) (.slice Ah nh ch) (.slice Af nf cf) t.1) ∧ Hid (HdAt w' w'.heap.size (.slice Al nl cl) t.2.1) ∧ Below w.heap.size w w' := by
  obtain ⟨Vq, Va, Vs, Vh, Vf, Vl, he, hX, hL, hb⟩ := h
  obtain ⟨Aq, nq, cq, Aa, na, ca, As, ns, cs, Ah, nh, ch, Af, nf, cf, rfl, rfl, rfl, rfl, rfl⟩ := hX.forms5
  obtain ⟨Al, cl, rfl, _⟩ := hL.2.form3
  exact ⟨Aq, nq, cq, Aa, na, ca, As, ns, cs, Ah, nh, ch, Af, nf, cf, Al, _, cl, he, Lib.hid hX, Lib.hid hL, hb⟩
theorem HdAt.len {w : World} {B : Nat} {A : Option Addr} {n c : Nat} {l : List Int} (h : HdAt w B (.slice A n c) l) : l.length = n ∧ n ≤ 9223372036854775807 := by
  obtain ⟨_, _, h1, m1⟩ := h.2.form3
  cases h1
  unfold maxLen at m1
  exact ⟨rfl, by omega⟩
theorem hid_bx {w w' : World} {Vq Va Vs Vh Vf : Value} {b : Bx} (h : Hid (BxAt w w.heap.size Vq Va Vs Vh Vf b)) (hb : Below w.heap.size w w') : Hid (BxAt w' w'.heap.size Vq Va Vs Vh Vf b) := h.out.later hb
theorem hid_hd {w w' : World} {V : Value} {l : List Int} (h : Hid (HdAt w w.heap.size V l)) (hb : Below w.heap.size w w') : Hid (HdAt w' w'.heap.size V l) := h.out.later hb
theorem bx_set {w : World} {Vq Va Vs Vh Vf : Value} {b : Bx} (h : Hid (BxAt w w.heap.size Vq Va Vs Vh Vf b)) {x : Nat} {Bq : Option Addr} {mq dq : Nat} {Ba : Option Addr} {ma da : Nat} {Bs : Option Addr} {ms ds : Nat} {Bh : Option Addr} {mh dh : Nat} {Bf : Option Addr} {mf df : Nat} (hx : Box w x [.slice Bq mq dq, .slice Ba ma da, .slice Bs ms ds, .slice Bh mh dh, .slice Bf mf df]) {Aq : Option Addr} {nq cq : Nat} {Aa : Option Addr} {na ca : Nat} {As : Option Addr} {ns cs : Nat} {Ah : Option Addr} {nh ch : Nat} {Af : Option Addr} {nf cf : Nat} :
    Hid (BxAt (((((w.setCell ⟨x, 0, none⟩ (.slice Aq nq cq)).setCell ⟨x, 1, none⟩ (.slice Aa na ca)).setCell ⟨x, 2, none⟩ (.slice As ns cs)).setCell ⟨x, 3, none⟩ (.slice Ah nh ch)).setCell ⟨x, 4, none⟩ (.slice Af nf cf)) (((((w.setCell ⟨x, 0, none⟩ (.slice Aq nq cq)).setCell ⟨x, 1, none⟩ (.slice Aa na ca)).setCell ⟨x, 2, none⟩ (.slice As ns cs)).setCell ⟨x, 3, none⟩ (.slice Ah nh ch)).setCell ⟨x, 4, none⟩ (.slice Af nf cf)).heap.size Vq Va Vs Vh Vf b) := by
  have h2 := h.out.set5 (SlBox.of hx (by simp)) Aq Aa As Ah Af nq cq na ca ns cs nh ch nf cf
  simp only [World.size_setCell]
  exact Lib.hid h2
theorem oSend_is (b : Bx) (g o : Int) {Aq : Option Addr} {nq cq : Nat} {Aa : Option Addr} {na ca : Nat} {As : Option Addr} {ns cs : Nat} {Ah : Option Addr} {nh ch : Nat} {Af : Option Addr} {nf cf : Nat} {w : World} (hx : Hid (BxAt w w.heap.size (.slice Aq nq cq) (.slice Aa na ca) (.slice As ns cs) (.slice Ah nh ch) (.slice Af nf cf) b)) {T : Bx × Int} (hT : Hid (b.sendT g o = T)) :
    Calls Try.prog 12 #[.agg #[.slice Aq nq cq, .slice Aa na ca, .slice As ns cs, .slice Ah nh ch, .slice Af nf cf], .int .i64 g, .int .i64 o] w (RetBx T.1 #[.int .i64 T.2] w) := by
  obtain ⟨l1, l2, l3, l4, l5, m1, m2, m3, m4, m5⟩ := hx.out.lens
  exact oSend_any b g o Aq Aa As Ah Af nq cq na ca ns cs nh ch nf cf w hx (Lib.hid l3) (Lib.hid l4) hT
theorem oRSend_is (b : Bx) (g o : Int) {Aq : Option Addr} {nq cq : Nat} {Aa : Option Addr} {na ca : Nat} {As : Option Addr} {ns cs : Nat} {Ah : Option Addr} {nh ch : Nat} {Af : Option Addr} {nf cf : Nat} {w : World} (hx : Hid (BxAt w w.heap.size (.slice Aq nq cq) (.slice Aa na ca) (.slice As ns cs) (.slice Ah nh ch) (.slice Af nf cf) b)) {T : Bx × Int} (hT : Hid (b.sendT g o = T)) :
    Calls Try.prog 13 #[.agg #[.slice Aq nq cq, .slice Aa na ca, .slice As ns cs, .slice Ah nh ch, .slice Af nf cf], .int .i64 g, .int .i64 o] w (RetBx T.1 #[.int .i64 T.2] w) := by
  obtain ⟨l1, l2, l3, l4, l5, m1, m2, m3, m4, m5⟩ := hx.out.lens
  exact oRSend_any b g o Aq Aa As Ah Af nq cq na ca ns cs nh ch nf cf w hx (Lib.hid l3) (Lib.hid l4) hT
theorem oDeliver_is (b : Bx) (i : Int) {Aq : Option Addr} {nq cq : Nat} {Aa : Option Addr} {na ca : Nat} {As : Option Addr} {ns cs : Nat} {Ah : Option Addr} {nh ch : Nat} {Af : Option Addr} {nf cf : Nat} {w : World} (hx : Hid (BxAt w w.heap.size (.slice Aq nq cq) (.slice Aa na ca) (.slice As ns cs) (.slice Ah nh ch) (.slice Af nf cf) b)) {T : Bx × Bool × Int} (hT : Hid (b.deliverT i = T)) :
    Calls Try.prog 23 #[.agg #[.slice Aq nq cq, .slice Aa na ca, .slice As ns cs, .slice Ah nh ch, .slice Af nf cf], .int .i64 i] w (RetDlv T w) := by
  obtain ⟨l1, l2, l3, l4, l5, m1, m2, m3, m4, m5⟩ := hx.out.lens
  exact oDeliver_any b i Aq Aa As Ah Af nq cq na ca ns cs nh ch nf cf w hx (Lib.hid l3) (Lib.hid l4) (Lib.hid l5) hT
theorem oTick_is (b : Bx)  {Aq : Option Addr} {nq cq : Nat} {Aa : Option Addr} {na ca : Nat} {As : Option Addr} {ns cs : Nat} {Ah : Option Addr} {nh ch : Nat} {Af : Option Addr} {nf cf : Nat} {w : World} (hx : Hid (BxAt w w.heap.size (.slice Aq nq cq) (.slice Aa na ca) (.slice As ns cs) (.slice Ah nh ch) (.slice Af nf cf) b)) {T : Bx × List Int × Int} (hT : Hid (b.tickT = T)) :
    Calls Try.prog 17 #[.agg #[.slice Aq nq cq, .slice Aa na ca, .slice As ns cs, .slice Ah nh ch, .slice Af nf cf]] w (RetTick T w) := by
  obtain ⟨l1, l2, l3, l4, l5, m1, m2, m3, m4, m5⟩ := hx.out.lens
  exact oTick_any b  Aq Aa As Ah Af nq cq na ca ns cs nh ch nf cf w hx (Lib.hid l3) (Lib.hid l4) (Lib.hid l5) hT
theorem oRTick_is (b : Bx)  {Aq : Option Addr} {nq cq : Nat} {Aa : Option Addr} {na ca : Nat} {As : Option Addr} {ns cs : Nat} {Ah : Option Addr} {nh ch : Nat} {Af : Option Addr} {nf cf : Nat} {w : World} (hx : Hid (BxAt w w.heap.size (.slice Aq nq cq) (.slice Aa na ca) (.slice As ns cs) (.slice Ah nh ch) (.slice Af nf cf) b)) {T : Bx × List Int × Int} (hT : Hid (b.tickT = T)) :
    Calls Try.prog 18 #[.agg #[.slice Aq nq cq, .slice Aa na ca, .slice As ns cs, .slice Ah nh ch, .slice Af nf cf]] w (RetTick T w) := by
  obtain ⟨l1, l2, l3, l4, l5, m1, m2, m3, m4, m5⟩ := hx.out.lens
  exact oRTick_any b  Aq Aa As Ah Af nq cq na ca ns cs nh ch nf cf w hx (Lib.hid l3) (Lib.hid l4) (Lib.hid l5) hT
theorem oRFew_is (b : Bx)  {Aq : Option Addr} {nq cq : Nat} {Aa : Option Addr} {na ca : Nat} {As : Option Addr} {ns cs : Nat} {Ah : Option Addr} {nh ch : Nat} {Af : Option Addr} {nf cf : Nat} {w : World} (hx : Hid (BxAt w w.heap.size (.slice Aq nq cq) (.slice Aa na ca) (.slice As ns cs) (.slice Ah nh ch) (.slice Af nf cf) b)) {T : Bool} (hT : Hid (b.fewB = T)) :
    Calls Try.prog 9 #[.agg #[.slice Aq nq cq, .slice Aa na ca, .slice As ns cs, .slice Ah nh ch, .slice Af nf cf]] w (fun e w' => e = .returned (.bool T) ∧ Below w.heap.size w w') := by
  obtain ⟨l1, l2, l3, l4, l5, m1, m2, m3, m4, m5⟩ := hx.out.lens
  exact oRFew_any b  Aq Aa As Ah Af nq cq na ca ns cs nh ch nf cf w hx (Lib.hid l1) (Lib.hid l3) (Lib.hid l4) (Lib.hid l5) hT
theorem oSame_is (b : Bx) {Aq : Option Addr} {nq cq : Nat} {Aa : Option Addr} {na ca : Nat} {As : Option Addr} {ns cs : Nat} {Ah : Option Addr} {nh ch : Nat} {Af : Option Addr} {nf cf : Nat} {Bq : Option Addr} {mq dq : Nat} {Ba : Option Addr} {ma da : Nat} {Bs : Option Addr} {ms ds : Nat} {Bh : Option Addr} {mh dh : Nat} {Bf : Option Addr} {mf df : Nat} {w : World} (hx : Hid (BxAt w w.heap.size (.slice Aq nq cq) (.slice Aa na ca) (.slice As ns cs) (.slice Ah nh ch) (.slice Af nf cf) b)) (hy : Hid (BxAt w w.heap.size (.slice Bq mq dq) (.slice Ba ma da) (.slice Bs ms ds) (.slice Bh mh dh) (.slice Bf mf df) b)) :
    Calls Try.prog 14 #[.agg #[.slice Aq nq cq, .slice Aa na ca, .slice As ns cs, .slice Ah nh ch, .slice Af nf cf], .agg #[.slice Bq mq dq, .slice Ba ma da, .slice Bs ms ds, .slice Bh mh dh, .slice Bf mf df]] w fun e w' => e = .returned (.bool true) ∧ Below w.heap.size w w' := by
  obtain ⟨l1, l2, l3, l4, l5, -⟩ := hx.out.lens
  obtain ⟨k1, k2, k3, k4, k5, -⟩ := hy.out.lens
  obtain rfl : nq = mq := l1.symm.trans k1
  obtain rfl : na = ma := l2.symm.trans k2
  obtain rfl : ns = ms := l3.symm.trans k3
  obtain rfl : nh = mh := l4.symm.trans k4
  obtain rfl : nf = mf := l5.symm.trans k5
  exact oSame_eq b Aq Aa As Ah Af Bq Ba Bs Bh Bf nq cq dq na ca da ns cs ds nh ch dh nf cf df w hx hy (Lib.hid l3) (Lib.hid l4) (Lib.hid l5)
theorem rSameInts_is {A1 A2 : Option Addr} {n1 c1 n2 c2 : Nat} {l m : List Int} {w : World} (h1 : Hid (HdAt w w.heap.size (.slice A1 n1 c1) l)) (h2 : Hid (HdAt w w.heap.size (.slice A2 n2 c2) m)) {T : Bool} (hT : Hid (decide (l = m) = T)) :
    Calls Try.prog 19 #[.slice A1 n1 c1, .slice A2 n2 c2] w fun e w' => e = .returned (.bool T) ∧ Below w.heap.size w w' :=
  rSameInts_any A1 A2 n1 c1 n2 c2 l m w h1 h2 (Lib.hid h1.out.len.1) (Lib.hid h2.out.len.1) h1.out.len.2 h2.out.len.2 hT
end Go.Proofs.Ytmbifmmkccghfaa

/-
  The examples of chapter 34 hold. (Printed by gen_sd.py.) No condition.
-/
namespace Go.Proofs.Ytmbifmmkccghfaa
open Go.RowKit

theorem RetBx.sl1 {t : Bx} {r : Value} {w w' : World} {e : Ending} (h : RetBx t #[r] w e w') : ∃ Aq nq cq Aa na ca As ns cs Ah nh ch Af nf cf, e = .returned (.tuple #[.agg #[.slice Aq nq cq, .slice Aa na ca, .slice As ns cs, .slice Ah nh ch, .slice Af nf cf], r]) ∧ Hid (BxAt w' w'.heap.size (.slice Aq nq cq) (.slice Aa na ca) (.slice As ns cs) (.slice Ah nh ch) (.slice Af nf cf) t) ∧ Below w.heap.size w w' := h.sl
def oxA : Bx := ⟨Net.zero, [], [0, 0], [false, false]⟩
def oxX : Bx := ⟨⟨[⟨0, 2, msgB 0 5⟩], []⟩, [(1, 5)], [0, 0], [false, false]⟩
def oxY : Bx := ⟨⟨[⟨0, 2, msgB 0 5⟩, ⟨0, 2, msgB 1 3⟩], []⟩, [(1, 5), (1, 3)], [0, 0], [false, false]⟩
def oxD : Bx := ⟨⟨[⟨0, 2, msgB 0 5⟩], []⟩, [(1, 5), (1, 3)], [0, 2], [false, true]⟩
def oxE : Bx := ⟨⟨[], []⟩, [(1, 5), (1, 3)], [0, 2], [false, true]⟩
def oxT : Bx := ⟨⟨[], []⟩, [(1, 5), (1, 3)], [0, 2], [false, false]⟩
theorem oe1 : newB 2 = (oxA, 0) := by kernel_rfl
theorem oe2 : newB 9 = (Bx.zero, 1) := by kernel_rfl
theorem oe3 : oxA.sendT 2 0 = (Bx.zero, 1) := by kernel_rfl
theorem oe4 : oxA.sendT 0 8 = (Bx.zero, 1) := by kernel_rfl
theorem oe5 : oxA.deliverT 0 = (Bx.zero, false, 1) := by kernel_rfl
theorem oe6 : oxA.checkT = 0 := by kernel_rfl
theorem oe7 : Bx.zero.checkT = 340 := by kernel_rfl
theorem oe8 : oxA.sendT 1 5 = (oxX, 0) := by kernel_rfl
theorem oe9 : oxX.sendT 1 3 = (oxY, 0) := by kernel_rfl
theorem oe10 : oxY.deliverT 1 = (oxD, true, 0) := by kernel_rfl
theorem oe11 : oxD.deliverT 0 = (oxE, false, 0) := by kernel_rfl
theorem oe12 : oxE.tickT = (oxT, [-1, 3], 0) := by kernel_rfl
theorem oe13 : oxT.tickT = (oxT, [-1, -1], 0) := by kernel_rfl
set_option maxRecDepth 100000 in
set_option maxHeartbeats 4000000 in
theorem oSane_any (w : World) : Calls Try.prog 8 #[] w fun e w' => e = .returned (.bool true) ∧ Below w.heap.size w w' := by
  have hB := Below.refl w.heap.size w
  go_enter Try.func8, Try.ntmps8
  go_wp2_with fail
  refine (oNew_any 2 _ (T := (oxA, 0)) (Lib.hid oe1)).mono ?_
  rintro e w1 hh
  obtain ⟨Aq1, nq1, cq1, Aa1, na1, ca1, As1, ns1, cs1, Ah1, nh1, ch1, Af1, nf1, cf1, rfl, hX1, hb⟩ := hh.sl1
  have hB := hB.trans (hb.mono hB.size)
  clear hb
  go_wp2_with fail
  have hst := ((Below.refl w1.heap.size w1).alloc (by simp <;> omega) (.cells #[.slice Aq1 nq1 cq1, .slice Aa1 na1 ca1, .slice As1 ns1 cs1, .slice Ah1 nh1 ch1, .slice Af1 nf1 cf1] 30))
  have hBo := hB
  have hX1 := hid_bx hX1 hst
  have hB := hB.trans (hst.mono hB.size)
  have X1 := (Box.newAt (w := w1) (n := w1.heap.size) [.slice Aq1 nq1 cq1, .slice Aa1 na1 ca1, .slice As1 ns1 cs1, .slice Ah1 nh1 ch1, .slice Af1 nf1 cf1] 30 (by simp))
  clear hst
  generalize (w1.alloc (.cells #[.slice Aq1 nq1 cq1, .slice Aa1 na1 ca1, .slice As1 ns1 cs1, .slice Ah1 nh1 ch1, .slice Af1 nf1 cf1] 30)) = w2 at hB  X1 hX1 ⊢
  generalize w1.heap.size = X1a at X1 ⊢
  refine (oNew_any 9 _ (T := (Bx.zero, 1)) (Lib.hid oe2)).mono ?_
  rintro e w3 hh
  obtain ⟨Aq2, nq2, cq2, Aa2, na2, ca2, As2, ns2, cs2, Ah2, nh2, ch2, Af2, nf2, cf2, rfl, hX2, hb⟩ := hh.sl1
  have X1 := X1.later hb
  have hX1 := hid_bx hX1 hb
  have hB := hB.trans (hb.mono hB.size)
  clear hb
  have X1c0 : w3.cell? ⟨X1a, 0, none⟩ = some (.slice Aq1 nq1 cq1) := X1.cell 0
  have X1c1 : w3.cell? ⟨X1a, 1, none⟩ = some (.slice Aa1 na1 ca1) := X1.cell 1
  have X1c2 : w3.cell? ⟨X1a, 2, none⟩ = some (.slice As1 ns1 cs1) := X1.cell 2
  have X1c3 : w3.cell? ⟨X1a, 3, none⟩ = some (.slice Ah1 nh1 ch1) := X1.cell 3
  have X1c4 : w3.cell? ⟨X1a, 4, none⟩ = some (.slice Af1 nf1 cf1) := X1.cell 4
  have X1z : X1a < w3.heap.size := X1.lt
  go_wp2_with fail
  clear X1c0 X1c1 X1c2 X1c3 X1c4 X1z
  have hst := ((Below.refl w3.heap.size w3).alloc (by simp <;> omega) (.cells #[.slice Aq2 nq2 cq2, .slice Aa2 na2 ca2, .slice As2 ns2 cs2, .slice Ah2 nh2 ch2, .slice Af2 nf2 cf2] 30))
  have hBo := hB
  have X1o := X1
  have X1 := X1.later hst
  have hX1 := hid_bx hX1 hst
  have hB := hB.trans (hst.mono hB.size)
  have X2 := (Box.newAt (w := w3) (n := w3.heap.size) [.slice Aq2 nq2 cq2, .slice Aa2 na2 ca2, .slice As2 ns2 cs2, .slice Ah2 nh2 ch2, .slice Af2 nf2 cf2] 30 (by simp))
  clear hst
  generalize (w3.alloc (.cells #[.slice Aq2 nq2 cq2, .slice Aa2 na2 ca2, .slice As2 ns2 cs2, .slice Ah2 nh2 ch2, .slice Af2 nf2 cf2] 30)) = w4 at hB X1 X2 hX1 ⊢
  generalize w3.heap.size = X2a at X2 ⊢
  refine (oSend_is oxA 2 0 hX1 (T := (Bx.zero, 1)) (Lib.hid oe3)).mono ?_
  rintro e w5 hh
  obtain ⟨Aq3, nq3, cq3, Aa3, na3, ca3, As3, ns3, cs3, Ah3, nh3, ch3, Af3, nf3, cf3, rfl, hX3, hb⟩ := hh.sl1
  have X1 := X1.later hb
  have X2 := X2.later hb
  have hX1 := hid_bx hX1 hb
  have hB := hB.trans (hb.mono hB.size)
  clear hb
  clear X2
  have X1c0 : w5.cell? ⟨X1a, 0, none⟩ = some (.slice Aq1 nq1 cq1) := X1.cell 0
  have X1c1 : w5.cell? ⟨X1a, 1, none⟩ = some (.slice Aa1 na1 ca1) := X1.cell 1
  have X1c2 : w5.cell? ⟨X1a, 2, none⟩ = some (.slice As1 ns1 cs1) := X1.cell 2
  have X1c3 : w5.cell? ⟨X1a, 3, none⟩ = some (.slice Ah1 nh1 ch1) := X1.cell 3
  have X1c4 : w5.cell? ⟨X1a, 4, none⟩ = some (.slice Af1 nf1 cf1) := X1.cell 4
  have X1z : X1a < w5.heap.size := X1.lt
  go_wp2_with fail
  clear X1c0 X1c1 X1c2 X1c3 X1c4 X1z
  have hst := ((Below.refl w5.heap.size w5).alloc (by simp <;> omega) (.cells #[.slice Aq3 nq3 cq3, .slice Aa3 na3 ca3, .slice As3 ns3 cs3, .slice Ah3 nh3 ch3, .slice Af3 nf3 cf3] 30))
  have hBo := hB
  have X1o := X1
  have X1 := X1.later hst
  have hX1 := hid_bx hX1 hst
  have hB := hB.trans (hst.mono hB.size)
  have X3 := (Box.newAt (w := w5) (n := w5.heap.size) [.slice Aq3 nq3 cq3, .slice Aa3 na3 ca3, .slice As3 ns3 cs3, .slice Ah3 nh3 ch3, .slice Af3 nf3 cf3] 30 (by simp))
  clear hst
  generalize (w5.alloc (.cells #[.slice Aq3 nq3 cq3, .slice Aa3 na3 ca3, .slice As3 ns3 cs3, .slice Ah3 nh3 ch3, .slice Af3 nf3 cf3] 30)) = w6 at hB X1 X3 hX1 ⊢
  generalize w5.heap.size = X3a at X3 ⊢
  refine (oSend_is oxA 0 8 hX1 (T := (Bx.zero, 1)) (Lib.hid oe4)).mono ?_
  rintro e w7 hh
  obtain ⟨Aq4, nq4, cq4, Aa4, na4, ca4, As4, ns4, cs4, Ah4, nh4, ch4, Af4, nf4, cf4, rfl, hX4, hb⟩ := hh.sl1
  have X1 := X1.later hb
  have X3 := X3.later hb
  have hX1 := hid_bx hX1 hb
  have hB := hB.trans (hb.mono hB.size)
  clear hb
  clear X3
  have X1c0 : w7.cell? ⟨X1a, 0, none⟩ = some (.slice Aq1 nq1 cq1) := X1.cell 0
  have X1c1 : w7.cell? ⟨X1a, 1, none⟩ = some (.slice Aa1 na1 ca1) := X1.cell 1
  have X1c2 : w7.cell? ⟨X1a, 2, none⟩ = some (.slice As1 ns1 cs1) := X1.cell 2
  have X1c3 : w7.cell? ⟨X1a, 3, none⟩ = some (.slice Ah1 nh1 ch1) := X1.cell 3
  have X1c4 : w7.cell? ⟨X1a, 4, none⟩ = some (.slice Af1 nf1 cf1) := X1.cell 4
  have X1z : X1a < w7.heap.size := X1.lt
  go_wp2_with fail
  clear X1c0 X1c1 X1c2 X1c3 X1c4 X1z
  have hst := ((Below.refl w7.heap.size w7).alloc (by simp <;> omega) (.cells #[.slice Aq4 nq4 cq4, .slice Aa4 na4 ca4, .slice As4 ns4 cs4, .slice Ah4 nh4 ch4, .slice Af4 nf4 cf4] 30))
  have hBo := hB
  have X1o := X1
  have X1 := X1.later hst
  have hX1 := hid_bx hX1 hst
  have hB := hB.trans (hst.mono hB.size)
  have X4 := (Box.newAt (w := w7) (n := w7.heap.size) [.slice Aq4 nq4 cq4, .slice Aa4 na4 ca4, .slice As4 ns4 cs4, .slice Ah4 nh4 ch4, .slice Af4 nf4 cf4] 30 (by simp))
  clear hst
  generalize (w7.alloc (.cells #[.slice Aq4 nq4 cq4, .slice Aa4 na4 ca4, .slice As4 ns4 cs4, .slice Ah4 nh4 ch4, .slice Af4 nf4 cf4] 30)) = w8 at hB X1 X4 hX1 ⊢
  generalize w7.heap.size = X4a at X4 ⊢
  refine (oDeliver_is oxA 0 hX1 (T := (Bx.zero, false, 1)) (Lib.hid oe5)).mono ?_
  rintro e w9 hh
  obtain ⟨Aq5, nq5, cq5, Aa5, na5, ca5, As5, ns5, cs5, Ah5, nh5, ch5, Af5, nf5, cf5, rfl, hX5, hb⟩ := hh.sl
  have X1 := X1.later hb
  have X4 := X4.later hb
  have hX1 := hid_bx hX1 hb
  have hB := hB.trans (hb.mono hB.size)
  clear hb
  clear X4
  have X1c0 : w9.cell? ⟨X1a, 0, none⟩ = some (.slice Aq1 nq1 cq1) := X1.cell 0
  have X1c1 : w9.cell? ⟨X1a, 1, none⟩ = some (.slice Aa1 na1 ca1) := X1.cell 1
  have X1c2 : w9.cell? ⟨X1a, 2, none⟩ = some (.slice As1 ns1 cs1) := X1.cell 2
  have X1c3 : w9.cell? ⟨X1a, 3, none⟩ = some (.slice Ah1 nh1 ch1) := X1.cell 3
  have X1c4 : w9.cell? ⟨X1a, 4, none⟩ = some (.slice Af1 nf1 cf1) := X1.cell 4
  have X1z : X1a < w9.heap.size := X1.lt
  go_wp2_with fail
  clear X1c0 X1c1 X1c2 X1c3 X1c4 X1z
  have hst := ((Below.refl w9.heap.size w9).alloc (by simp <;> omega) (.cells #[.slice Aq5 nq5 cq5, .slice Aa5 na5 ca5, .slice As5 ns5 cs5, .slice Ah5 nh5 ch5, .slice Af5 nf5 cf5] 30))
  have hBo := hB
  have X1o := X1
  have X1 := X1.later hst
  have hX1 := hid_bx hX1 hst
  have hB := hB.trans (hst.mono hB.size)
  have X5 := (Box.newAt (w := w9) (n := w9.heap.size) [.slice Aq5 nq5 cq5, .slice Aa5 na5 ca5, .slice As5 ns5 cs5, .slice Ah5 nh5 ch5, .slice Af5 nf5 cf5] 30 (by simp))
  clear hst
  generalize (w9.alloc (.cells #[.slice Aq5 nq5 cq5, .slice Aa5 na5 ca5, .slice As5 ns5 cs5, .slice Ah5 nh5 ch5, .slice Af5 nf5 cf5] 30)) = w10 at hB X1 X5 hX1 ⊢
  generalize w9.heap.size = X5a at X5 ⊢
  refine (oCheck_is (Lib.hid oe6) hX1.out).mono ?_
  rintro e w11 ⟨rfl, hb⟩
  have X1 := X1.later hb
  have X5 := X5.later hb
  have hX1 := hid_bx hX1 hb
  have hB := hB.trans (hb.mono hB.size)
  clear hb
  clear X5
  have X1c0 : w11.cell? ⟨X1a, 0, none⟩ = some (.slice Aq1 nq1 cq1) := X1.cell 0
  have X1c1 : w11.cell? ⟨X1a, 1, none⟩ = some (.slice Aa1 na1 ca1) := X1.cell 1
  have X1c2 : w11.cell? ⟨X1a, 2, none⟩ = some (.slice As1 ns1 cs1) := X1.cell 2
  have X1c3 : w11.cell? ⟨X1a, 3, none⟩ = some (.slice Ah1 nh1 ch1) := X1.cell 3
  have X1c4 : w11.cell? ⟨X1a, 4, none⟩ = some (.slice Af1 nf1 cf1) := X1.cell 4
  have X1z : X1a < w11.heap.size := X1.lt
  go_wp2_with fail
  clear X1c0 X1c1 X1c2 X1c3 X1c4 X1z
  refine (oCheck_is (Lib.hid oe7) (bxAt_zero _ _)).mono ?_
  rintro e w12 ⟨rfl, hb⟩
  have X1 := X1.later hb
  have hX1 := hid_bx hX1 hb
  have hB := hB.trans (hb.mono hB.size)
  clear hb
  have X1c0 : w12.cell? ⟨X1a, 0, none⟩ = some (.slice Aq1 nq1 cq1) := X1.cell 0
  have X1c1 : w12.cell? ⟨X1a, 1, none⟩ = some (.slice Aa1 na1 ca1) := X1.cell 1
  have X1c2 : w12.cell? ⟨X1a, 2, none⟩ = some (.slice As1 ns1 cs1) := X1.cell 2
  have X1c3 : w12.cell? ⟨X1a, 3, none⟩ = some (.slice Ah1 nh1 ch1) := X1.cell 3
  have X1c4 : w12.cell? ⟨X1a, 4, none⟩ = some (.slice Af1 nf1 cf1) := X1.cell 4
  have X1z : X1a < w12.heap.size := X1.lt
  go_wp2_with fail
  clear X1c0 X1c1 X1c2 X1c3 X1c4 X1z
  refine (oSend_is oxA 1 5 hX1 (T := (oxX, 0)) (Lib.hid oe8)).mono ?_
  rintro e w13 hh
  obtain ⟨Aq6, nq6, cq6, Aa6, na6, ca6, As6, ns6, cs6, Ah6, nh6, ch6, Af6, nf6, cf6, rfl, hX6, hb⟩ := hh.sl1
  have X1 := X1.later hb
  have hX1 := hid_bx hX1 hb
  have hB := hB.trans (hb.mono hB.size)
  clear hb
  clear X1 hX1
  go_wp2_with fail
  have hst := ((Below.refl w13.heap.size w13).alloc (by simp <;> omega) (.cells #[.slice Aq6 nq6 cq6, .slice Aa6 na6 ca6, .slice As6 ns6 cs6, .slice Ah6 nh6 ch6, .slice Af6 nf6 cf6] 30))
  have hBo := hB
  have hX6 := hid_bx hX6 hst
  have hB := hB.trans (hst.mono hB.size)
  have X6 := (Box.newAt (w := w13) (n := w13.heap.size) [.slice Aq6 nq6 cq6, .slice Aa6 na6 ca6, .slice As6 ns6 cs6, .slice Ah6 nh6 ch6, .slice Af6 nf6 cf6] 30 (by simp))
  clear hst
  generalize (w13.alloc (.cells #[.slice Aq6 nq6 cq6, .slice Aa6 na6 ca6, .slice As6 ns6 cs6, .slice Ah6 nh6 ch6, .slice Af6 nf6 cf6] 30)) = w14 at hB  X6 hX6 ⊢
  generalize w13.heap.size = X6a at X6 ⊢
  refine (oSend_is oxX 1 3 hX6 (T := (oxY, 0)) (Lib.hid oe9)).mono ?_
  rintro e w15 hh
  obtain ⟨Aq7, nq7, cq7, Aa7, na7, ca7, As7, ns7, cs7, Ah7, nh7, ch7, Af7, nf7, cf7, rfl, hX7, hb⟩ := hh.sl1
  have X6 := X6.later hb
  have hX6 := hid_bx hX6 hb
  have hB := hB.trans (hb.mono hB.size)
  clear hb
  clear X6 hX6
  go_wp2_with fail
  have hst := ((Below.refl w15.heap.size w15).alloc (by simp <;> omega) (.cells #[.slice Aq7 nq7 cq7, .slice Aa7 na7 ca7, .slice As7 ns7 cs7, .slice Ah7 nh7 ch7, .slice Af7 nf7 cf7] 30))
  have hBo := hB
  have hX7 := hid_bx hX7 hst
  have hB := hB.trans (hst.mono hB.size)
  have X7 := (Box.newAt (w := w15) (n := w15.heap.size) [.slice Aq7 nq7 cq7, .slice Aa7 na7 ca7, .slice As7 ns7 cs7, .slice Ah7 nh7 ch7, .slice Af7 nf7 cf7] 30 (by simp))
  have gX7 : w.heap.size ≤ w15.heap.size := by have := hBo.size; omega
  clear hst
  generalize (w15.alloc (.cells #[.slice Aq7 nq7 cq7, .slice Aa7 na7 ca7, .slice As7 ns7 cs7, .slice Ah7 nh7 ch7, .slice Af7 nf7 cf7] 30)) = w16 at hB  X7 hX7 ⊢
  generalize w15.heap.size = X7a at X7 gX7 ⊢
  refine (oDeliver_is oxY 1 hX7 (T := (oxD, true, 0)) (Lib.hid oe10)).mono ?_
  rintro e w17 hh
  obtain ⟨Aq8, nq8, cq8, Aa8, na8, ca8, As8, ns8, cs8, Ah8, nh8, ch8, Af8, nf8, cf8, rfl, hX8, hb⟩ := hh.sl
  have X7 := X7.later hb
  have hX7 := hid_bx hX7 hb
  have hB := hB.trans (hb.mono hB.size)
  clear hb
  clear hX7
  have X7f0 : w17.frozen? ⟨X7a, 0, none⟩ = false := X7.free 0
  have X7f1 : w17.frozen? ⟨X7a, 1, none⟩ = false := X7.free 1
  have X7f2 : w17.frozen? ⟨X7a, 2, none⟩ = false := X7.free 2
  have X7f3 : w17.frozen? ⟨X7a, 3, none⟩ = false := X7.free 3
  have X7f4 : w17.frozen? ⟨X7a, 4, none⟩ = false := X7.free 4
  have X7c0 : w17.cell? ⟨X7a, 0, none⟩ = some (.slice Aq7 nq7 cq7) := X7.cell 0
  have X7c1 : w17.cell? ⟨X7a, 1, none⟩ = some (.slice Aa7 na7 ca7) := X7.cell 1
  have X7c2 : w17.cell? ⟨X7a, 2, none⟩ = some (.slice As7 ns7 cs7) := X7.cell 2
  have X7c3 : w17.cell? ⟨X7a, 3, none⟩ = some (.slice Ah7 nh7 ch7) := X7.cell 3
  have X7c4 : w17.cell? ⟨X7a, 4, none⟩ = some (.slice Af7 nf7 cf7) := X7.cell 4
  have X7z : X7a < w17.heap.size := X7.lt
  go_wp2_with fail
  clear X7c0 X7f0 X7c1 X7f1 X7c2 X7f2 X7c3 X7f3 X7c4 X7f4 X7z
  have hX8 := bx_set (Aq := Aq8) (nq := nq8) (cq := cq8) (Aa := Aa8) (na := na8) (ca := ca8) (As := As8) (ns := ns8) (cs := cs8) (Ah := Ah8) (nh := nh8) (ch := ch8) (Af := Af8) (nf := nf8) (cf := cf8) hX8 X7
  have hB := (((((hB.setCell (p := ⟨X7a, 0, none⟩) gX7 (.slice Aq8 nq8 cq8)).setCell (p := ⟨X7a, 1, none⟩) gX7 (.slice Aa8 na8 ca8)).setCell (p := ⟨X7a, 2, none⟩) gX7 (.slice As8 ns8 cs8)).setCell (p := ⟨X7a, 3, none⟩) gX7 (.slice Ah8 nh8 ch8)).setCell (p := ⟨X7a, 4, none⟩) gX7 (.slice Af8 nf8 cf8))
  have X7 := (((((X7.set 0 (.slice Aq8 nq8 cq8)).set 1 (.slice Aa8 na8 ca8)).set 2 (.slice As8 ns8 cs8)).set 3 (.slice Ah8 nh8 ch8)).set 4 (.slice Af8 nf8 cf8))
  simp only [List.set_cons_zero, List.set_cons_succ] at X7
  generalize (((((w17.setCell ⟨X7a, 0, none⟩ (.slice Aq8 nq8 cq8)).setCell ⟨X7a, 1, none⟩ (.slice Aa8 na8 ca8)).setCell ⟨X7a, 2, none⟩ (.slice As8 ns8 cs8)).setCell ⟨X7a, 3, none⟩ (.slice Ah8 nh8 ch8)).setCell ⟨X7a, 4, none⟩ (.slice Af8 nf8 cf8)) = w18 at hB X7 hX8 ⊢
  refine (oDeliver_is oxD 0 hX8 (T := (oxE, false, 0)) (Lib.hid oe11)).mono ?_
  rintro e w19 hh
  obtain ⟨Aq9, nq9, cq9, Aa9, na9, ca9, As9, ns9, cs9, Ah9, nh9, ch9, Af9, nf9, cf9, rfl, hX9, hb⟩ := hh.sl
  have X7 := X7.later hb
  have hX8 := hid_bx hX8 hb
  have hB := hB.trans (hb.mono hB.size)
  clear hb
  clear hX8
  have X7f0 : w19.frozen? ⟨X7a, 0, none⟩ = false := X7.free 0
  have X7f1 : w19.frozen? ⟨X7a, 1, none⟩ = false := X7.free 1
  have X7f2 : w19.frozen? ⟨X7a, 2, none⟩ = false := X7.free 2
  have X7f3 : w19.frozen? ⟨X7a, 3, none⟩ = false := X7.free 3
  have X7f4 : w19.frozen? ⟨X7a, 4, none⟩ = false := X7.free 4
  have X7c0 : w19.cell? ⟨X7a, 0, none⟩ = some (.slice Aq8 nq8 cq8) := X7.cell 0
  have X7c1 : w19.cell? ⟨X7a, 1, none⟩ = some (.slice Aa8 na8 ca8) := X7.cell 1
  have X7c2 : w19.cell? ⟨X7a, 2, none⟩ = some (.slice As8 ns8 cs8) := X7.cell 2
  have X7c3 : w19.cell? ⟨X7a, 3, none⟩ = some (.slice Ah8 nh8 ch8) := X7.cell 3
  have X7c4 : w19.cell? ⟨X7a, 4, none⟩ = some (.slice Af8 nf8 cf8) := X7.cell 4
  have X7z : X7a < w19.heap.size := X7.lt
  go_wp2_with fail
  clear X7c0 X7f0 X7c1 X7f1 X7c2 X7f2 X7c3 X7f3 X7c4 X7f4 X7z
  have hX9 := bx_set (Aq := Aq9) (nq := nq9) (cq := cq9) (Aa := Aa9) (na := na9) (ca := ca9) (As := As9) (ns := ns9) (cs := cs9) (Ah := Ah9) (nh := nh9) (ch := ch9) (Af := Af9) (nf := nf9) (cf := cf9) hX9 X7
  have hB := (((((hB.setCell (p := ⟨X7a, 0, none⟩) gX7 (.slice Aq9 nq9 cq9)).setCell (p := ⟨X7a, 1, none⟩) gX7 (.slice Aa9 na9 ca9)).setCell (p := ⟨X7a, 2, none⟩) gX7 (.slice As9 ns9 cs9)).setCell (p := ⟨X7a, 3, none⟩) gX7 (.slice Ah9 nh9 ch9)).setCell (p := ⟨X7a, 4, none⟩) gX7 (.slice Af9 nf9 cf9))
  have X7 := (((((X7.set 0 (.slice Aq9 nq9 cq9)).set 1 (.slice Aa9 na9 ca9)).set 2 (.slice As9 ns9 cs9)).set 3 (.slice Ah9 nh9 ch9)).set 4 (.slice Af9 nf9 cf9))
  simp only [List.set_cons_zero, List.set_cons_succ] at X7
  generalize (((((w19.setCell ⟨X7a, 0, none⟩ (.slice Aq9 nq9 cq9)).setCell ⟨X7a, 1, none⟩ (.slice Aa9 na9 ca9)).setCell ⟨X7a, 2, none⟩ (.slice As9 ns9 cs9)).setCell ⟨X7a, 3, none⟩ (.slice Ah9 nh9 ch9)).setCell ⟨X7a, 4, none⟩ (.slice Af9 nf9 cf9)) = w20 at hB X7 hX9 ⊢
  refine (oTick_is oxE hX9 (T := (oxT, [-1, 3], 0)) (Lib.hid oe12)).mono ?_
  rintro e w21 hh
  obtain ⟨Aq10, nq10, cq10, Aa10, na10, ca10, As10, ns10, cs10, Ah10, nh10, ch10, Af10, nf10, cf10, Al10, nl10, cl10, rfl, hX10, hL10, hb⟩ := hh.sl
  have X7 := X7.later hb
  have hX9 := hid_bx hX9 hb
  have hB := hB.trans (hb.mono hB.size)
  clear hb
  clear X7 hX9
  go_wp2_with fail
  have hst := ((Below.refl w21.heap.size w21).alloc (by simp <;> omega) (.cells #[.slice Aq10 nq10 cq10, .slice Aa10 na10 ca10, .slice As10 ns10 cs10, .slice Ah10 nh10 ch10, .slice Af10 nf10 cf10] 30))
  have hBo := hB
  have hX10 := hid_bx hX10 hst
  have hL10 := hid_hd hL10 hst
  have hB := hB.trans (hst.mono hB.size)
  have X10 := (Box.newAt (w := w21) (n := w21.heap.size) [.slice Aq10 nq10 cq10, .slice Aa10 na10 ca10, .slice As10 ns10 cs10, .slice Ah10 nh10 ch10, .slice Af10 nf10 cf10] 30 (by simp))
  clear hst
  generalize (w21.alloc (.cells #[.slice Aq10 nq10 cq10, .slice Aa10 na10 ca10, .slice As10 ns10 cs10, .slice Ah10 nh10 ch10, .slice Af10 nf10 cf10] 30)) = w22 at hB  X10 hX10 hL10 ⊢
  generalize w21.heap.size = X10a at X10 ⊢
  refine (oTick_is oxT hX10 (T := (oxT, [-1, -1], 0)) (Lib.hid oe13)).mono ?_
  rintro e w23 hh
  obtain ⟨Aq11, nq11, cq11, Aa11, na11, ca11, As11, ns11, cs11, Ah11, nh11, ch11, Af11, nf11, cf11, Al11, nl11, cl11, rfl, hX11, hL11, hb⟩ := hh.sl
  have X10 := X10.later hb
  have hX10 := hid_bx hX10 hb
  have hL10 := hid_hd hL10 hb
  have hB := hB.trans (hb.mono hB.size)
  clear hb
  clear X10 hX10
  go_wp2_with fail
  have hst := (((Below.refl w23.heap.size w23).alloc (by simp <;> omega) (.cells #[.slice Aq11 nq11 cq11, .slice Aa11 na11 ca11, .slice As11 ns11 cs11, .slice Ah11 nh11 ch11, .slice Af11 nf11 cf11] 30)).alloc (by simp <;> omega) (.cells #[.int .i64 (-1), .int .i64 3] 3))
  have hBo := hB
  have hL10 := hid_hd hL10 hst
  have hL11 := hid_hd hL11 hst
  have hB := hB.trans (hst.mono hB.size)
  have X11 := ((Box.newAt (w := w23) (n := w23.heap.size) [.slice Aq11 nq11 cq11, .slice Aa11 na11 ca11, .slice As11 ns11 cs11, .slice Ah11 nh11 ch11, .slice Af11 nf11 cf11] 30 (by simp)).alloc (.cells #[.int .i64 (-1), .int .i64 3] 3))
  have B12 := (Box.newAt (w := (w23.alloc (.cells #[.slice Aq11 nq11 cq11, .slice Aa11 na11 ca11, .slice As11 ns11 cs11, .slice Ah11 nh11 ch11, .slice Af11 nf11 cf11] 30))) (n := w23.heap.size + 1) [.int .i64 (-1), .int .i64 3] 3 (by simp))
  clear hst
  generalize ((w23.alloc (.cells #[.slice Aq11 nq11 cq11, .slice Aa11 na11 ca11, .slice As11 ns11 cs11, .slice Ah11 nh11 ch11, .slice Af11 nf11 cf11] 30)).alloc (.cells #[.int .i64 (-1), .int .i64 3] 3)) = w24 at hB  X11 B12 hL10 hL11 ⊢
  generalize w23.heap.size + 1 = B12a at X11 B12 ⊢
  generalize w23.heap.size = X11a at X11 B12 ⊢
  refine (rSameInts_is hL10 (Lib.hid (box_hd (l := [-1, 3]) B12 (by simp [maxLen]))) (T := true) (Lib.hid (by decide))).mono ?_
  rintro e w25 ⟨rfl, hb⟩
  have X11 := X11.later hb
  have B12 := B12.later hb
  have hL10 := hid_hd hL10 hb
  have hL11 := hid_hd hL11 hb
  have hB := hB.trans (hb.mono hB.size)
  clear hb
  clear B12 X11
  go_wp2_with fail
  have hst := ((Below.refl w25.heap.size w25).alloc (by simp <;> omega) (.cells #[.int .i64 (-1), .int .i64 (-1)] 3))
  have hBo := hB
  have hL10 := hid_hd hL10 hst
  have hL11 := hid_hd hL11 hst
  have hB := hB.trans (hst.mono hB.size)
  have B13 := (Box.newAt (w := w25) (n := w25.heap.size) [.int .i64 (-1), .int .i64 (-1)] 3 (by simp))
  clear hst
  generalize (w25.alloc (.cells #[.int .i64 (-1), .int .i64 (-1)] 3)) = w26 at hB  B13 hL10 hL11 ⊢
  generalize w25.heap.size = B13a at B13 ⊢
  refine (rSameInts_is hL11 (Lib.hid (box_hd (l := [-1, -1]) B13 (by simp [maxLen]))) (T := true) (Lib.hid (by decide))).mono ?_
  rintro e w27 ⟨rfl, hb⟩
  have B13 := B13.later hb
  have hL10 := hid_hd hL10 hb
  have hL11 := hid_hd hL11 hb
  have hB := hB.trans (hb.mono hB.size)
  clear hb
  go_wp2
  go_ret
  exact ⟨by first | rfl | simp, hB⟩
end Go.Proofs.Ytmbifmmkccghfaa
