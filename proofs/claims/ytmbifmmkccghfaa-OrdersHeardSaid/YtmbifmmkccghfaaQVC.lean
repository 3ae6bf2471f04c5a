/- Send of orders: where the slices of the result lie. (Printed by mkw.py and pp.py.) No condition. -/
import Derived.Test.YtmbifmmkccghfaaQVB
import Derived.Test.YtmbifmmkccghfaaQRL
set_option linter.unusedVariables false
set_option linter.unusedSimpArgs false
namespace Go.Proofs.Ytmbifmmkccghfaa
open Go.RowKit Go.Shelf
attribute [local go_sem] Oper.semAt_some
attribute [local go_sem ↓ high] app_named cop_named
set_option maxRecDepth 100000 in
set_option maxHeartbeats 4000000 in
theorem oSendV_any (b : Bx) (g o : Int) (Aq Aa As Ah Af : Option Addr) (nq cq na ca ns cs n ch nf cf : Nat) (w : World) (hx : Hid (BxAt w w.heap.size (.slice Aq nq cq) (.slice Aa na ca) (.slice As ns cs) (.slice Ah n ch) (.slice Af nf cf) b)) (hns : Hid (b.sent.length = ns)) (hn : Hid (b.heard.length = n)) {T : Bx × Int} (hT : Hid (b.sendT g o = T)) :
    Calls Try.prog 12 #[.agg #[.slice Aq nq cq, .slice Aa na ca, .slice As ns cs, .slice Ah n ch, .slice Af nf cf], .int .i64 g, .int .i64 o] w (RetBxV T.1 #[.int .i64 T.2] (.slice Aa na ca) (.slice As ns cs) (.slice Ah n ch) w) := by
  go_enter Try.func12, Try.ntmps12
  have hB := ((Below.refl w.heap.size w).alloc (Nat.le_refl _) (.cells #[.slice Aq nq cq, .slice Aa na ca, .slice As ns cs, .slice Ah n ch, .slice Af nf cf] 30)).alloc (by simp) (.cells #[.slice none 0 0, .slice none 0 0, .slice none 0 0, .slice none 0 0, .slice none 0 0] 30)
  have X1 := (Box.new w [.slice Aq nq cq, .slice Aa na ca, .slice As ns cs, .slice Ah n ch, .slice Af nf cf] 30).alloc (.cells #[.slice none 0 0, .slice none 0 0, .slice none 0 0, .slice none 0 0, .slice none 0 0] 30)
  have X6 := Box.newAt (w := w.alloc (.cells #[.slice Aq nq cq, .slice Aa na ca, .slice As ns cs, .slice Ah n ch, .slice Af nf cf] 30)) (n := w.heap.size + 1) [.slice none 0 0, .slice none 0 0, .slice none 0 0, .slice none 0 0, .slice none 0 0] 30 (by simp)
  go_upto_region 1 with fail
  generalize (w.alloc (.cells #[.slice Aq nq cq, .slice Aa na ca, .slice As ns cs, .slice Ah n ch, .slice Af nf cf] 30)).alloc (.cells #[.slice none 0 0, .slice none 0 0, .slice none 0 0, .slice none 0 0, .slice none 0 0] 30) = w1 at hB X1 X6 ⊢
  have z1 := X1.lt
  have X1c0 : w1.cell? ⟨w.heap.size, 0, none⟩ = some (.slice Aq nq cq) := X1.cell 0
  have X1c1 : w1.cell? ⟨w.heap.size, 1, none⟩ = some (.slice Aa na ca) := X1.cell 1
  have X1c2 : w1.cell? ⟨w.heap.size, 2, none⟩ = some (.slice As ns cs) := X1.cell 2
  have X1c3 : w1.cell? ⟨w.heap.size, 3, none⟩ = some (.slice Ah n ch) := X1.cell 3
  have X1c4 : w1.cell? ⟨w.heap.size, 4, none⟩ = some (.slice Af nf cf) := X1.cell 4
  obtain ⟨c, hc⟩ : ∃ c, Hid (b.checkT = c) := ⟨_, Lib.hid rfl⟩
  go_wp2_with fail
  refine (oCheck_is hc (hx.out.later hB)).mono ?_
  rintro e w2 ⟨rfl, hb⟩
  have hB := hB.trans (hb.mono hB.size)
  have X1 := X1.later hb
  have X6 := X6.later hb
  clear hb z1 X1c0 X1c1 X1c2 X1c3 X1c4
  by_cases h0 : c = 0
  rotate_left
  · have d0 : (c != 0) = true := by simp [h0]
    obtain rfl := (send_bad hc.out h0).symm.trans hT.out
    have X6c0 : w2.cell? ⟨w.heap.size + 1, 0, none⟩ = some (.slice none 0 0) := X6.cell 0
    have X6f0 : w2.frozen? ⟨w.heap.size + 1, 0, none⟩ = false := X6.free 0
    have X6c1 : w2.cell? ⟨w.heap.size + 1, 1, none⟩ = some (.slice none 0 0) := X6.cell 1
    have X6f1 : w2.frozen? ⟨w.heap.size + 1, 1, none⟩ = false := X6.free 1
    have X6c2 : w2.cell? ⟨w.heap.size + 1, 2, none⟩ = some (.slice none 0 0) := X6.cell 2
    have X6f2 : w2.frozen? ⟨w.heap.size + 1, 2, none⟩ = false := X6.free 2
    have X6c3 : w2.cell? ⟨w.heap.size + 1, 3, none⟩ = some (.slice none 0 0) := X6.cell 3
    have X6f3 : w2.frozen? ⟨w.heap.size + 1, 3, none⟩ = false := X6.free 3
    have X6c4 : w2.cell? ⟨w.heap.size + 1, 4, none⟩ = some (.slice none 0 0) := X6.cell 4
    have X6f4 : w2.frozen? ⟨w.heap.size + 1, 4, none⟩ = false := X6.free 4
    have X6z : w.heap.size + 1 < w2.heap.size := X6.lt
    have Y6 := (((((X6.set 0 (.slice none 0 0)).set 1 (.slice none 0 0)).set 2 (.slice none 0 0)).set 3 (.slice none 0 0)).set 4 (.slice none 0 0))
    have hB2 := (((((hB.setCell (p := ⟨w.heap.size + 1, 0, none⟩) (by simp <;> omega) (.slice none 0 0)).setCell (p := ⟨w.heap.size + 1, 1, none⟩) (by simp <;> omega) (.slice none 0 0)).setCell (p := ⟨w.heap.size + 1, 2, none⟩) (by simp <;> omega) (.slice none 0 0)).setCell (p := ⟨w.heap.size + 1, 3, none⟩) (by simp <;> omega) (.slice none 0 0)).setCell (p := ⟨w.heap.size + 1, 4, none⟩) (by simp <;> omega) (.slice none 0 0))
    go_wp2
    clear X6c0 X6c1 X6c2 X6c3 X6c4 X6f0 X6f1 X6f2 X6f3 X6f4 X6z
    generalize (((((w2.setCell ⟨w.heap.size + 1, 0, none⟩ (.slice none 0 0)).setCell ⟨w.heap.size + 1, 1, none⟩ (.slice none 0 0)).setCell ⟨w.heap.size + 1, 2, none⟩ (.slice none 0 0)).setCell ⟨w.heap.size + 1, 3, none⟩ (.slice none 0 0)).setCell ⟨w.heap.size + 1, 4, none⟩ (.slice none 0 0)) = W8 at Y6 hB2 ⊢
    simp only [List.set_cons_zero, List.set_cons_succ] at Y6
    have Y6c0 : W8.cell? ⟨w.heap.size + 1, 0, none⟩ = some (.slice none 0 0) := Y6.cell 0
    have Y6c1 : W8.cell? ⟨w.heap.size + 1, 1, none⟩ = some (.slice none 0 0) := Y6.cell 1
    have Y6c2 : W8.cell? ⟨w.heap.size + 1, 2, none⟩ = some (.slice none 0 0) := Y6.cell 2
    have Y6c3 : W8.cell? ⟨w.heap.size + 1, 3, none⟩ = some (.slice none 0 0) := Y6.cell 3
    have Y6c4 : W8.cell? ⟨w.heap.size + 1, 4, none⟩ = some (.slice none 0 0) := Y6.cell 4
    refine bodyPost_ret (v := .tuple #[.agg #[.slice none 0 0, .slice none 0 0, .slice none 0 0, .slice none 0 0, .slice none 0 0], .int .i64 c]) (by simp [results, Try.results12, go_sem, Y6c0, Y6c1, Y6c2, Y6c3, Y6c4]) rfl ?_
    exact ⟨_, _, _, _, _, rfl, bxAt_zero _ _, hB2, Nw3.zero _ _ _ _⟩
  subst h0
  have hok := check_ok hc.out
  have HOK := Lib.hid hok
  obtain ⟨hl1, -, -, -, -⟩ := okB_parts hok
  have hl1 := of_decide_eq_true hl1
  rw [hn.out, hns.out] at hl1
  obtain ⟨⟨hn1, hn8⟩, -, hn4⟩ := hl1
  clear hok
  have z1 := X1.lt
  have X1c3 : w2.cell? ⟨w.heap.size, 3, none⟩ = some (.slice Ah n ch) := X1.cell 3
  by_cases hin : (0 ≤ g ∧ g < (n : Int)) ∧ (0 ≤ o ∧ o ≤ 7)
  rotate_left
  · obtain rfl : T = (Bx.zero, 1) := by rw [← hT.out]; exact send_out HOK.out (by rw [hn.out]; exact hin)
    by_cases g1 : g < 0
    · have d1 : decide (g < 0) = true := decide_eq_true g1
      have X6c0 : w2.cell? ⟨w.heap.size + 1, 0, none⟩ = some (.slice none 0 0) := X6.cell 0
      have X6f0 : w2.frozen? ⟨w.heap.size + 1, 0, none⟩ = false := X6.free 0
      have X6c1 : w2.cell? ⟨w.heap.size + 1, 1, none⟩ = some (.slice none 0 0) := X6.cell 1
      have X6f1 : w2.frozen? ⟨w.heap.size + 1, 1, none⟩ = false := X6.free 1
      have X6c2 : w2.cell? ⟨w.heap.size + 1, 2, none⟩ = some (.slice none 0 0) := X6.cell 2
      have X6f2 : w2.frozen? ⟨w.heap.size + 1, 2, none⟩ = false := X6.free 2
      have X6c3 : w2.cell? ⟨w.heap.size + 1, 3, none⟩ = some (.slice none 0 0) := X6.cell 3
      have X6f3 : w2.frozen? ⟨w.heap.size + 1, 3, none⟩ = false := X6.free 3
      have X6c4 : w2.cell? ⟨w.heap.size + 1, 4, none⟩ = some (.slice none 0 0) := X6.cell 4
      have X6f4 : w2.frozen? ⟨w.heap.size + 1, 4, none⟩ = false := X6.free 4
      have X6z : w.heap.size + 1 < w2.heap.size := X6.lt
      have Y6 := (((((X6.set 0 (.slice none 0 0)).set 1 (.slice none 0 0)).set 2 (.slice none 0 0)).set 3 (.slice none 0 0)).set 4 (.slice none 0 0))
      have hB2 := (((((hB.setCell (p := ⟨w.heap.size + 1, 0, none⟩) (by simp <;> omega) (.slice none 0 0)).setCell (p := ⟨w.heap.size + 1, 1, none⟩) (by simp <;> omega) (.slice none 0 0)).setCell (p := ⟨w.heap.size + 1, 2, none⟩) (by simp <;> omega) (.slice none 0 0)).setCell (p := ⟨w.heap.size + 1, 3, none⟩) (by simp <;> omega) (.slice none 0 0)).setCell (p := ⟨w.heap.size + 1, 4, none⟩) (by simp <;> omega) (.slice none 0 0))
      go_wp2
      clear X6c0 X6c1 X6c2 X6c3 X6c4 X6f0 X6f1 X6f2 X6f3 X6f4 X6z
      generalize (((((w2.setCell ⟨w.heap.size + 1, 0, none⟩ (.slice none 0 0)).setCell ⟨w.heap.size + 1, 1, none⟩ (.slice none 0 0)).setCell ⟨w.heap.size + 1, 2, none⟩ (.slice none 0 0)).setCell ⟨w.heap.size + 1, 3, none⟩ (.slice none 0 0)).setCell ⟨w.heap.size + 1, 4, none⟩ (.slice none 0 0)) = W8 at Y6 hB2 ⊢
      simp only [List.set_cons_zero, List.set_cons_succ] at Y6
      have Y6c0 : W8.cell? ⟨w.heap.size + 1, 0, none⟩ = some (.slice none 0 0) := Y6.cell 0
      have Y6c1 : W8.cell? ⟨w.heap.size + 1, 1, none⟩ = some (.slice none 0 0) := Y6.cell 1
      have Y6c2 : W8.cell? ⟨w.heap.size + 1, 2, none⟩ = some (.slice none 0 0) := Y6.cell 2
      have Y6c3 : W8.cell? ⟨w.heap.size + 1, 3, none⟩ = some (.slice none 0 0) := Y6.cell 3
      have Y6c4 : W8.cell? ⟨w.heap.size + 1, 4, none⟩ = some (.slice none 0 0) := Y6.cell 4
      refine bodyPost_ret (v := .tuple #[.agg #[.slice none 0 0, .slice none 0 0, .slice none 0 0, .slice none 0 0, .slice none 0 0], .int .i64 1]) (by simp [results, Try.results12, go_sem, Y6c0, Y6c1, Y6c2, Y6c3, Y6c4]) rfl ?_
      exact ⟨_, _, _, _, _, rfl, bxAt_zero _ _, hB2, Nw3.zero _ _ _ _⟩
    have d1 : decide (g < 0) = false := decide_eq_false g1
    by_cases g2 : (n : Int) ≤ g
    · have d2 : decide ((n : Int) ≤ g) = true := decide_eq_true g2
      have X6c0 : w2.cell? ⟨w.heap.size + 1, 0, none⟩ = some (.slice none 0 0) := X6.cell 0
      have X6f0 : w2.frozen? ⟨w.heap.size + 1, 0, none⟩ = false := X6.free 0
      have X6c1 : w2.cell? ⟨w.heap.size + 1, 1, none⟩ = some (.slice none 0 0) := X6.cell 1
      have X6f1 : w2.frozen? ⟨w.heap.size + 1, 1, none⟩ = false := X6.free 1
      have X6c2 : w2.cell? ⟨w.heap.size + 1, 2, none⟩ = some (.slice none 0 0) := X6.cell 2
      have X6f2 : w2.frozen? ⟨w.heap.size + 1, 2, none⟩ = false := X6.free 2
      have X6c3 : w2.cell? ⟨w.heap.size + 1, 3, none⟩ = some (.slice none 0 0) := X6.cell 3
      have X6f3 : w2.frozen? ⟨w.heap.size + 1, 3, none⟩ = false := X6.free 3
      have X6c4 : w2.cell? ⟨w.heap.size + 1, 4, none⟩ = some (.slice none 0 0) := X6.cell 4
      have X6f4 : w2.frozen? ⟨w.heap.size + 1, 4, none⟩ = false := X6.free 4
      have X6z : w.heap.size + 1 < w2.heap.size := X6.lt
      have Y6 := (((((X6.set 0 (.slice none 0 0)).set 1 (.slice none 0 0)).set 2 (.slice none 0 0)).set 3 (.slice none 0 0)).set 4 (.slice none 0 0))
      have hB2 := (((((hB.setCell (p := ⟨w.heap.size + 1, 0, none⟩) (by simp <;> omega) (.slice none 0 0)).setCell (p := ⟨w.heap.size + 1, 1, none⟩) (by simp <;> omega) (.slice none 0 0)).setCell (p := ⟨w.heap.size + 1, 2, none⟩) (by simp <;> omega) (.slice none 0 0)).setCell (p := ⟨w.heap.size + 1, 3, none⟩) (by simp <;> omega) (.slice none 0 0)).setCell (p := ⟨w.heap.size + 1, 4, none⟩) (by simp <;> omega) (.slice none 0 0))
      go_wp2
      clear X6c0 X6c1 X6c2 X6c3 X6c4 X6f0 X6f1 X6f2 X6f3 X6f4 X6z
      generalize (((((w2.setCell ⟨w.heap.size + 1, 0, none⟩ (.slice none 0 0)).setCell ⟨w.heap.size + 1, 1, none⟩ (.slice none 0 0)).setCell ⟨w.heap.size + 1, 2, none⟩ (.slice none 0 0)).setCell ⟨w.heap.size + 1, 3, none⟩ (.slice none 0 0)).setCell ⟨w.heap.size + 1, 4, none⟩ (.slice none 0 0)) = W8 at Y6 hB2 ⊢
      simp only [List.set_cons_zero, List.set_cons_succ] at Y6
      have Y6c0 : W8.cell? ⟨w.heap.size + 1, 0, none⟩ = some (.slice none 0 0) := Y6.cell 0
      have Y6c1 : W8.cell? ⟨w.heap.size + 1, 1, none⟩ = some (.slice none 0 0) := Y6.cell 1
      have Y6c2 : W8.cell? ⟨w.heap.size + 1, 2, none⟩ = some (.slice none 0 0) := Y6.cell 2
      have Y6c3 : W8.cell? ⟨w.heap.size + 1, 3, none⟩ = some (.slice none 0 0) := Y6.cell 3
      have Y6c4 : W8.cell? ⟨w.heap.size + 1, 4, none⟩ = some (.slice none 0 0) := Y6.cell 4
      refine bodyPost_ret (v := .tuple #[.agg #[.slice none 0 0, .slice none 0 0, .slice none 0 0, .slice none 0 0, .slice none 0 0], .int .i64 1]) (by simp [results, Try.results12, go_sem, Y6c0, Y6c1, Y6c2, Y6c3, Y6c4]) rfl ?_
      exact ⟨_, _, _, _, _, rfl, bxAt_zero _ _, hB2, Nw3.zero _ _ _ _⟩
    have d2 : decide ((n : Int) ≤ g) = false := decide_eq_false g2
    by_cases g3 : o < 0
    · have d3 : decide (o < 0) = true := decide_eq_true g3
      have X6c0 : w2.cell? ⟨w.heap.size + 1, 0, none⟩ = some (.slice none 0 0) := X6.cell 0
      have X6f0 : w2.frozen? ⟨w.heap.size + 1, 0, none⟩ = false := X6.free 0
      have X6c1 : w2.cell? ⟨w.heap.size + 1, 1, none⟩ = some (.slice none 0 0) := X6.cell 1
      have X6f1 : w2.frozen? ⟨w.heap.size + 1, 1, none⟩ = false := X6.free 1
      have X6c2 : w2.cell? ⟨w.heap.size + 1, 2, none⟩ = some (.slice none 0 0) := X6.cell 2
      have X6f2 : w2.frozen? ⟨w.heap.size + 1, 2, none⟩ = false := X6.free 2
      have X6c3 : w2.cell? ⟨w.heap.size + 1, 3, none⟩ = some (.slice none 0 0) := X6.cell 3
      have X6f3 : w2.frozen? ⟨w.heap.size + 1, 3, none⟩ = false := X6.free 3
      have X6c4 : w2.cell? ⟨w.heap.size + 1, 4, none⟩ = some (.slice none 0 0) := X6.cell 4
      have X6f4 : w2.frozen? ⟨w.heap.size + 1, 4, none⟩ = false := X6.free 4
      have X6z : w.heap.size + 1 < w2.heap.size := X6.lt
      have Y6 := (((((X6.set 0 (.slice none 0 0)).set 1 (.slice none 0 0)).set 2 (.slice none 0 0)).set 3 (.slice none 0 0)).set 4 (.slice none 0 0))
      have hB2 := (((((hB.setCell (p := ⟨w.heap.size + 1, 0, none⟩) (by simp <;> omega) (.slice none 0 0)).setCell (p := ⟨w.heap.size + 1, 1, none⟩) (by simp <;> omega) (.slice none 0 0)).setCell (p := ⟨w.heap.size + 1, 2, none⟩) (by simp <;> omega) (.slice none 0 0)).setCell (p := ⟨w.heap.size + 1, 3, none⟩) (by simp <;> omega) (.slice none 0 0)).setCell (p := ⟨w.heap.size + 1, 4, none⟩) (by simp <;> omega) (.slice none 0 0))
      go_wp2
      clear X6c0 X6c1 X6c2 X6c3 X6c4 X6f0 X6f1 X6f2 X6f3 X6f4 X6z
      generalize (((((w2.setCell ⟨w.heap.size + 1, 0, none⟩ (.slice none 0 0)).setCell ⟨w.heap.size + 1, 1, none⟩ (.slice none 0 0)).setCell ⟨w.heap.size + 1, 2, none⟩ (.slice none 0 0)).setCell ⟨w.heap.size + 1, 3, none⟩ (.slice none 0 0)).setCell ⟨w.heap.size + 1, 4, none⟩ (.slice none 0 0)) = W8 at Y6 hB2 ⊢
      simp only [List.set_cons_zero, List.set_cons_succ] at Y6
      have Y6c0 : W8.cell? ⟨w.heap.size + 1, 0, none⟩ = some (.slice none 0 0) := Y6.cell 0
      have Y6c1 : W8.cell? ⟨w.heap.size + 1, 1, none⟩ = some (.slice none 0 0) := Y6.cell 1
      have Y6c2 : W8.cell? ⟨w.heap.size + 1, 2, none⟩ = some (.slice none 0 0) := Y6.cell 2
      have Y6c3 : W8.cell? ⟨w.heap.size + 1, 3, none⟩ = some (.slice none 0 0) := Y6.cell 3
      have Y6c4 : W8.cell? ⟨w.heap.size + 1, 4, none⟩ = some (.slice none 0 0) := Y6.cell 4
      refine bodyPost_ret (v := .tuple #[.agg #[.slice none 0 0, .slice none 0 0, .slice none 0 0, .slice none 0 0, .slice none 0 0], .int .i64 1]) (by simp [results, Try.results12, go_sem, Y6c0, Y6c1, Y6c2, Y6c3, Y6c4]) rfl ?_
      exact ⟨_, _, _, _, _, rfl, bxAt_zero _ _, hB2, Nw3.zero _ _ _ _⟩
    have d3 : decide (o < 0) = false := decide_eq_false g3
    have d4 : decide ((7 : Int) < o) = true := decide_eq_true (by omega)
    have X6c0 : w2.cell? ⟨w.heap.size + 1, 0, none⟩ = some (.slice none 0 0) := X6.cell 0
    have X6f0 : w2.frozen? ⟨w.heap.size + 1, 0, none⟩ = false := X6.free 0
    have X6c1 : w2.cell? ⟨w.heap.size + 1, 1, none⟩ = some (.slice none 0 0) := X6.cell 1
    have X6f1 : w2.frozen? ⟨w.heap.size + 1, 1, none⟩ = false := X6.free 1
    have X6c2 : w2.cell? ⟨w.heap.size + 1, 2, none⟩ = some (.slice none 0 0) := X6.cell 2
    have X6f2 : w2.frozen? ⟨w.heap.size + 1, 2, none⟩ = false := X6.free 2
    have X6c3 : w2.cell? ⟨w.heap.size + 1, 3, none⟩ = some (.slice none 0 0) := X6.cell 3
    have X6f3 : w2.frozen? ⟨w.heap.size + 1, 3, none⟩ = false := X6.free 3
    have X6c4 : w2.cell? ⟨w.heap.size + 1, 4, none⟩ = some (.slice none 0 0) := X6.cell 4
    have X6f4 : w2.frozen? ⟨w.heap.size + 1, 4, none⟩ = false := X6.free 4
    have X6z : w.heap.size + 1 < w2.heap.size := X6.lt
    have Y6 := (((((X6.set 0 (.slice none 0 0)).set 1 (.slice none 0 0)).set 2 (.slice none 0 0)).set 3 (.slice none 0 0)).set 4 (.slice none 0 0))
    have hB2 := (((((hB.setCell (p := ⟨w.heap.size + 1, 0, none⟩) (by simp <;> omega) (.slice none 0 0)).setCell (p := ⟨w.heap.size + 1, 1, none⟩) (by simp <;> omega) (.slice none 0 0)).setCell (p := ⟨w.heap.size + 1, 2, none⟩) (by simp <;> omega) (.slice none 0 0)).setCell (p := ⟨w.heap.size + 1, 3, none⟩) (by simp <;> omega) (.slice none 0 0)).setCell (p := ⟨w.heap.size + 1, 4, none⟩) (by simp <;> omega) (.slice none 0 0))
    go_wp2
    clear X6c0 X6c1 X6c2 X6c3 X6c4 X6f0 X6f1 X6f2 X6f3 X6f4 X6z
    generalize (((((w2.setCell ⟨w.heap.size + 1, 0, none⟩ (.slice none 0 0)).setCell ⟨w.heap.size + 1, 1, none⟩ (.slice none 0 0)).setCell ⟨w.heap.size + 1, 2, none⟩ (.slice none 0 0)).setCell ⟨w.heap.size + 1, 3, none⟩ (.slice none 0 0)).setCell ⟨w.heap.size + 1, 4, none⟩ (.slice none 0 0)) = W8 at Y6 hB2 ⊢
    simp only [List.set_cons_zero, List.set_cons_succ] at Y6
    have Y6c0 : W8.cell? ⟨w.heap.size + 1, 0, none⟩ = some (.slice none 0 0) := Y6.cell 0
    have Y6c1 : W8.cell? ⟨w.heap.size + 1, 1, none⟩ = some (.slice none 0 0) := Y6.cell 1
    have Y6c2 : W8.cell? ⟨w.heap.size + 1, 2, none⟩ = some (.slice none 0 0) := Y6.cell 2
    have Y6c3 : W8.cell? ⟨w.heap.size + 1, 3, none⟩ = some (.slice none 0 0) := Y6.cell 3
    have Y6c4 : W8.cell? ⟨w.heap.size + 1, 4, none⟩ = some (.slice none 0 0) := Y6.cell 4
    refine bodyPost_ret (v := .tuple #[.agg #[.slice none 0 0, .slice none 0 0, .slice none 0 0, .slice none 0 0, .slice none 0 0], .int .i64 1]) (by simp [results, Try.results12, go_sem, Y6c0, Y6c1, Y6c2, Y6c3, Y6c4]) rfl ?_
    exact ⟨_, _, _, _, _, rfl, bxAt_zero _ _, hB2, Nw3.zero _ _ _ _⟩
  have d1 : decide (g < 0) = false := decide_eq_false (by omega)
  have d2 : decide ((n : Int) ≤ g) = false := decide_eq_false (by omega)
  have d3 : decide (o < 0) = false := decide_eq_false (by omega)
  have d4 : decide ((7 : Int) < o) = false := decide_eq_false (by omega)
  have X1c2 : w2.cell? ⟨w.heap.size, 2, none⟩ = some (.slice As ns cs) := X1.cell 2
  have hin' : (0 ≤ g ∧ g < (b.heard.length : Int)) ∧ (0 ≤ o ∧ o ≤ 7) := by rw [hn.out]; exact hin
  have HIN := Lib.hid hin'
  have HI := Lib.hid hin
  clear hin hin'
  by_cases h4 : ns = 4096
  · obtain rfl : T = (Bx.zero, 2) := by rw [← hT.out]; exact send_full HOK.out HIN.out (by rw [hns.out]; exact h4)
    subst h4
    have d5 : (((4096 : Nat) : Int) == 4096) = true := by decide
    have X6c0 : w2.cell? ⟨w.heap.size + 1, 0, none⟩ = some (.slice none 0 0) := X6.cell 0
    have X6f0 : w2.frozen? ⟨w.heap.size + 1, 0, none⟩ = false := X6.free 0
    have X6c1 : w2.cell? ⟨w.heap.size + 1, 1, none⟩ = some (.slice none 0 0) := X6.cell 1
    have X6f1 : w2.frozen? ⟨w.heap.size + 1, 1, none⟩ = false := X6.free 1
    have X6c2 : w2.cell? ⟨w.heap.size + 1, 2, none⟩ = some (.slice none 0 0) := X6.cell 2
    have X6f2 : w2.frozen? ⟨w.heap.size + 1, 2, none⟩ = false := X6.free 2
    have X6c3 : w2.cell? ⟨w.heap.size + 1, 3, none⟩ = some (.slice none 0 0) := X6.cell 3
    have X6f3 : w2.frozen? ⟨w.heap.size + 1, 3, none⟩ = false := X6.free 3
    have X6c4 : w2.cell? ⟨w.heap.size + 1, 4, none⟩ = some (.slice none 0 0) := X6.cell 4
    have X6f4 : w2.frozen? ⟨w.heap.size + 1, 4, none⟩ = false := X6.free 4
    have X6z : w.heap.size + 1 < w2.heap.size := X6.lt
    have Y6 := (((((X6.set 0 (.slice none 0 0)).set 1 (.slice none 0 0)).set 2 (.slice none 0 0)).set 3 (.slice none 0 0)).set 4 (.slice none 0 0))
    have hB2 := (((((hB.setCell (p := ⟨w.heap.size + 1, 0, none⟩) (by simp <;> omega) (.slice none 0 0)).setCell (p := ⟨w.heap.size + 1, 1, none⟩) (by simp <;> omega) (.slice none 0 0)).setCell (p := ⟨w.heap.size + 1, 2, none⟩) (by simp <;> omega) (.slice none 0 0)).setCell (p := ⟨w.heap.size + 1, 3, none⟩) (by simp <;> omega) (.slice none 0 0)).setCell (p := ⟨w.heap.size + 1, 4, none⟩) (by simp <;> omega) (.slice none 0 0))
    go_wp2
    clear X6c0 X6c1 X6c2 X6c3 X6c4 X6f0 X6f1 X6f2 X6f3 X6f4 X6z
    generalize (((((w2.setCell ⟨w.heap.size + 1, 0, none⟩ (.slice none 0 0)).setCell ⟨w.heap.size + 1, 1, none⟩ (.slice none 0 0)).setCell ⟨w.heap.size + 1, 2, none⟩ (.slice none 0 0)).setCell ⟨w.heap.size + 1, 3, none⟩ (.slice none 0 0)).setCell ⟨w.heap.size + 1, 4, none⟩ (.slice none 0 0)) = W8 at Y6 hB2 ⊢
    simp only [List.set_cons_zero, List.set_cons_succ] at Y6
    have Y6c0 : W8.cell? ⟨w.heap.size + 1, 0, none⟩ = some (.slice none 0 0) := Y6.cell 0
    have Y6c1 : W8.cell? ⟨w.heap.size + 1, 1, none⟩ = some (.slice none 0 0) := Y6.cell 1
    have Y6c2 : W8.cell? ⟨w.heap.size + 1, 2, none⟩ = some (.slice none 0 0) := Y6.cell 2
    have Y6c3 : W8.cell? ⟨w.heap.size + 1, 3, none⟩ = some (.slice none 0 0) := Y6.cell 3
    have Y6c4 : W8.cell? ⟨w.heap.size + 1, 4, none⟩ = some (.slice none 0 0) := Y6.cell 4
    refine bodyPost_ret (v := .tuple #[.agg #[.slice none 0 0, .slice none 0 0, .slice none 0 0, .slice none 0 0, .slice none 0 0], .int .i64 2]) (by simp [results, Try.results12, go_sem, Y6c0, Y6c1, Y6c2, Y6c3, Y6c4]) rfl ?_
    exact ⟨_, _, _, _, _, rfl, bxAt_zero _ _, hB2, Nw3.zero _ _ _ _⟩
  have d5 : ((ns : Int) == 4096) = false := by simp; omega
  go_upto_region 9 with fail
  clear d1 d2 d3 d4 d5 X1c2 X1c3
  obtain ⟨W, hWw⟩ : ∃ W, w2 = W := ⟨_, rfl⟩
  rw [hWw] at hB X1 X6 z1 ⊢
  clear hWw
  obtain ⟨tx, htx⟩ : ∃ tx, Hid (msgB (ns : Int) o = tx) := ⟨_, Lib.hid rfl⟩
  have hi1 : I64 (ns : Int) := ⟨by omega, by omega⟩
  have hi2 : I64 o := by have := HI.out; exact ⟨by omega, by omega⟩
  have HW3 := Lib.hid (wrap64_next (by omega : ns ≤ 4096))
  have HW4 := Lib.hid (wrapI_next (by omega : ns ≤ 4096))
  have htl : tx.length ≤ 32 := by rw [← htx.out]; exact msg_len hi1 hi2
  have hwg : wrap64 (g + 1) = g + 1 := by have := HI.out; unfold wrap64; omega
  have hwg2 : IntKind.i64.wrap (g + 1) = g + 1 := by have := HI.out; rw [IntKind.wrap_i64]; omega
  go_cut [9, 7] (fun s9 s7 wx => Below W.heap.size W wx ∧ ∃ G Aq2 nq2 cq2 Aa2 na2 ca2 m er, s9 = .pointer (some ⟨G, 0, none⟩) ∧ s7 = .int .i64 er ∧ W.heap.size ≤ G ∧ Box wx G [.slice Aq2 nq2 cq2, .slice Aa2 na2 ca2] ∧ Hid (Go.Proofs.Ytmbifmmkccghfaa.sendT b.net ⟨0, g + 1, tx⟩ = (m, er)) ∧ Hid (NetAt wx wx.heap.size (.slice Aq2 nq2 cq2) (.slice Aa2 na2 ca2) m) ∧ NwV (.slice Aa na ca) (.slice Aa2 na2 ca2))
  case first =>
    have hd := (Below.refl W.heap.size W).drew
    have u0 : ∀ z : Later W, z.w.cell? ⟨w.heap.size, 0, none⟩ = some (.slice Aq nq cq) := Later.cell (X1.cell 0) z1
    have u1 : ∀ z : Later W, z.w.cell? ⟨w.heap.size, 1, none⟩ = some (.slice Aa na ca) := Later.cell (X1.cell 1) z1
    have u2 : ∀ z : Later W, z.w.cell? ⟨w.heap.size, 2, none⟩ = some (.slice As ns cs) := Later.cell (X1.cell 2) z1
    have HN := Lib.hid ((hx.out.net.later hB).later hd)
    refine wp_region_heads (C := fun w' => ∃ x : Later W, w' = x.w) [0, 1, 2, 3, 4, 5] (by kernel_rfl) (by kernel_rfl) (Later.mk' hd) (fun _ _ h => h) ?_
    simp only [headOps, List.filterMap_cons, List.filterMap_nil, List.getElem?_toArray, List.getElem?_cons_succ, List.getElem?_cons_zero]
    repeat (first | go_big_quiet_skip | (show wpQuiet _ _ _ _ (_ :: _) _; go_big_quiet_skip) | (show wpQuiet _ _ _ _ (_ :: _) _; go_big_quiet_want; go_big_quiet_op; go_big_quiet_on))
    refine wpQuiet_nil ?_
    clear u0 u1 u2
    generalize W.drew = W0 at hd HN ⊢
    refine anyC_twoW (n := 10) (i := 6) (j := 13) (by kernel_rfl) (Later.mk' hd) ?_ ?_
    · refine wpOp_callD (some 48) (by rfl) rfl rfl ?_ ((oMessage_is hi1 hi2 htx W0).mono ?_)
      · go_simp
      rintro e W1 ⟨rfl, hb⟩
      refine ⟨_, rfl, ?_⟩
      simp only [Act.put, List.setIfInBounds_toArray, List.set_cons_zero, List.set_cons_succ]
      have HN := Lib.hid (HN.out.later hb)
      have hd := hd.trans (hb.mono hd.size)
      clear hb
      refine anyC_twoW (n := 9) (i := 7) (j := 13) (by kernel_rfl) (Later.mk' hd) ?_ ?_
      · obtain ⟨cd, W2, hr, hV, hb⟩ := conv_bytes W1 tx (by unfold maxLen; omega)
        refine wpOp_valD (some 49) (v := .slice (some ⟨W1.heap.size, 0, none⟩) tx.length cd) (w' := W2) (by rfl) rfl rfl ?_ ?_
        · first | exact hr | go_simp
        simp only [Act.put, List.setIfInBounds_toArray, List.set_cons_zero, List.set_cons_succ]
        have HN := Lib.hid (HN.out.later hb)
        have HD := Lib.hid (bytes_of hV)
        have hd := hd.trans (hb.mono hd.size)
        clear hb hV hr
        refine anyC_heads (by kernel_rfl) 7 W2 (Later.mk' hd) [8] _ _ (by kernel_rfl) ?_
        simp only [headOps, List.filterMap_cons, List.filterMap_nil, List.getElem?_toArray, List.getElem?_cons_succ, List.getElem?_cons_zero]
        repeat (first | go_big_quiet_skip | (show wpQuiet _ _ _ _ (_ :: _) _; go_big_quiet_skip) | (show wpQuiet _ _ _ _ (_ :: _) _; go_big_quiet_want; go_big_quiet_op; go_big_quiet_on))
        refine wpQuiet_nil ?_
        refine anyC_twoW (n := 7) (i := 9) (j := 13) (by kernel_rfl) (Later.mk' hd) ?_ ?_
        · refine wpOp_callD (some 51) (by rfl) rfl rfl ?_ ((nSendV_is b.net ⟨0, g + 1, tx⟩ HN HD).mono ?_)
          · go_simp
          rintro e W3 ⟨Vq, Va, m, er, rfl, hT2, hN2, hb, hv⟩
          refine ⟨_, rfl, ?_⟩
          simp only [Act.put, List.setIfInBounds_toArray, List.set_cons_zero, List.set_cons_succ]
          obtain ⟨Aq2, nq2, cq2, Aa2, na2, ca2, rfl, rfl⟩ := hN2.out.form
          have HM := Lib.hid (hN2.out.at hb.size)
          have hd := hd.trans (hb.mono hd.size)
          clear hb hN2
          refine anyC_heads (by kernel_rfl) 3 W3 (Later.mk' hd) [10, 11, 12] _ _ (by kernel_rfl) ?_
          simp only [headOps, List.filterMap_cons, List.filterMap_nil, List.getElem?_toArray, List.getElem?_cons_succ, List.getElem?_cons_zero]
          repeat (first | go_big_quiet_skip | (show wpQuiet _ _ _ _ (_ :: _) _; go_big_quiet_skip) | (show wpQuiet _ _ _ _ (_ :: _) _; go_big_quiet_want; go_big_quiet_op; go_big_quiet_on))
          refine wpQuiet_nil ?_
          refine anyC_oneW (n := 3) (i := 13) (by kernel_rfl) (Later.mk' hd) ?_
          refine wpOp_valD (some 9) (v := .pointer (some ⟨W3.heap.size, 0, none⟩)) (w' := W3.alloc (.cells #[.slice none 0 0, .slice none 0 0] 25)) (by rfl) rfl rfl ?_ ?_
          · go_simp
          simp only [Act.put, List.setIfInBounds_toArray, List.set_cons_zero, List.set_cons_succ]
          have hb := (Below.refl W3.heap.size W3).alloc (Nat.le_refl _) (.cells #[.slice none 0 0, .slice none 0 0] 25)
          have X9 := Box.new W3 [.slice none 0 0, .slice none 0 0] 25
          have hg9 := hd.size
          have HM := Lib.hid (HM.out.later hb)
          have hd := hd.trans (hb.mono hd.size)
          clear hb
          generalize W3.alloc (.cells #[.slice none 0 0, .slice none 0 0] 25) = W4 at hd X9 HM ⊢
          generalize W3.heap.size = G at X9 hg9 ⊢
          have X9c0 : W4.cell? ⟨G, 0, none⟩ = some (.slice none 0 0) := X9.cell 0
          have X9f0 : W4.frozen? ⟨G, 0, none⟩ = false := X9.free 0
          have X9c1 : W4.cell? ⟨G, 1, none⟩ = some (.slice none 0 0) := X9.cell 1
          have X9f1 : W4.frozen? ⟨G, 1, none⟩ = false := X9.free 1
          have X9z : G < W4.heap.size := X9.lt
          refine anyC_storeN (w' := ((W4.setCell ⟨G, 0, none⟩ (.slice Aq2 nq2 cq2)).setCell ⟨G, 1, none⟩ (.slice Aa2 na2 ca2))) (n := 1) (i := 14) (by kernel_rfl) rfl rfl rfl (Later.mk' hd) ?_ ?_
          · go_simp
          have Y9 := ((X9.set 0 (.slice Aq2 nq2 cq2)).set 1 (.slice Aa2 na2 ca2))
          have hd2 := ((hd.setCell (p := ⟨G, 0, none⟩) (by simp <;> omega) (.slice Aq2 nq2 cq2)).setCell (p := ⟨G, 1, none⟩) (by simp <;> omega) (.slice Aa2 na2 ca2))
          have HM2 := net_setO (B1 := Aq2) (l1 := nq2) (d1 := cq2) (B2 := Aa2) (l2 := na2) (d2 := ca2) HM X9
          clear X9c0 X9c1 X9f0 X9f1 X9z
          generalize ((W4.setCell ⟨G, 0, none⟩ (.slice Aq2 nq2 cq2)).setCell ⟨G, 1, none⟩ (.slice Aa2 na2 ca2)) = W9 at Y9 hd2 HM2 ⊢
          simp only [List.set_cons_zero, List.set_cons_succ] at Y9
          refine anyC_valD (some 7) (n := 0) (i := 15) (v := .int .i64 er) (w' := W9) (by kernel_rfl) rfl rfl rfl (Later.mk' hd2) (by first | rfl | go_simp) ?_
          simp only [Act.put, List.setIfInBounds_toArray, List.set_cons_zero, List.set_cons_succ]
          refine anyC_done (by kernel_rfl) (Later.mk' hd2) ?_
          go_wp2_with fail
          go_meet
          exact ⟨hd2, G, _, _, _, _, _, _, m, er, rfl, rfl, hg9, Y9, hT2, HM2, hv⟩
        · refine wpOp_valD (some 9) (v := .pointer (some ⟨W2.heap.size, 0, none⟩)) (w' := W2.alloc (.cells #[.slice none 0 0, .slice none 0 0] 25)) (by rfl) rfl rfl ?_ ?_
          · go_simp
          simp only [Act.put, List.setIfInBounds_toArray, List.set_cons_zero, List.set_cons_succ]
          have hb := (Below.refl W2.heap.size W2).alloc (Nat.le_refl _) (.cells #[.slice none 0 0, .slice none 0 0] 25)
          have X9 := Box.new W2 [.slice none 0 0, .slice none 0 0] 25
          have hg9 := hd.size
          have HN := Lib.hid (HN.out.later hb)
          have HD := Lib.hid (HD.out.later hb)
          have hd := hd.trans (hb.mono hd.size)
          clear hb
          generalize W2.alloc (.cells #[.slice none 0 0, .slice none 0 0] 25) = W3 at hd X9 HD HN ⊢
          generalize W2.heap.size = G at X9 hg9 ⊢
          refine anyC_oneW (n := 6) (i := 9) (by kernel_rfl) (Later.mk' hd) ?_
          refine wpOp_callD (some 51) (by rfl) rfl rfl ?_ ((nSendV_is b.net ⟨0, g + 1, tx⟩ HN HD).mono ?_)
          · go_simp
          rintro e W4 ⟨Vq, Va, m, er, rfl, hT2, hN2, hb, hv⟩
          refine ⟨_, rfl, ?_⟩
          simp only [Act.put, List.setIfInBounds_toArray, List.set_cons_zero, List.set_cons_succ]
          obtain ⟨Aq2, nq2, cq2, Aa2, na2, ca2, rfl, rfl⟩ := hN2.out.form
          have X9 := X9.later hb
          have HM := Lib.hid (hN2.out.at hb.size)
          have hd := hd.trans (hb.mono hd.size)
          clear hb hN2
          refine anyC_heads (by kernel_rfl) 2 W4 (Later.mk' hd) [10, 11, 12] _ _ (by kernel_rfl) ?_
          simp only [headOps, List.filterMap_cons, List.filterMap_nil, List.getElem?_toArray, List.getElem?_cons_succ, List.getElem?_cons_zero]
          repeat (first | go_big_quiet_skip | (show wpQuiet _ _ _ _ (_ :: _) _; go_big_quiet_skip) | (show wpQuiet _ _ _ _ (_ :: _) _; go_big_quiet_want; go_big_quiet_op; go_big_quiet_on))
          refine wpQuiet_nil ?_
          have X9c0 : W4.cell? ⟨G, 0, none⟩ = some (.slice none 0 0) := X9.cell 0
          have X9f0 : W4.frozen? ⟨G, 0, none⟩ = false := X9.free 0
          have X9c1 : W4.cell? ⟨G, 1, none⟩ = some (.slice none 0 0) := X9.cell 1
          have X9f1 : W4.frozen? ⟨G, 1, none⟩ = false := X9.free 1
          have X9z : G < W4.heap.size := X9.lt
          refine anyC_storeN (w' := ((W4.setCell ⟨G, 0, none⟩ (.slice Aq2 nq2 cq2)).setCell ⟨G, 1, none⟩ (.slice Aa2 na2 ca2))) (n := 1) (i := 14) (by kernel_rfl) rfl rfl rfl (Later.mk' hd) ?_ ?_
          · go_simp
          have Y9 := ((X9.set 0 (.slice Aq2 nq2 cq2)).set 1 (.slice Aa2 na2 ca2))
          have hd2 := ((hd.setCell (p := ⟨G, 0, none⟩) (by simp <;> omega) (.slice Aq2 nq2 cq2)).setCell (p := ⟨G, 1, none⟩) (by simp <;> omega) (.slice Aa2 na2 ca2))
          have HM2 := net_setO (B1 := Aq2) (l1 := nq2) (d1 := cq2) (B2 := Aa2) (l2 := na2) (d2 := ca2) HM X9
          clear X9c0 X9c1 X9f0 X9f1 X9z
          generalize ((W4.setCell ⟨G, 0, none⟩ (.slice Aq2 nq2 cq2)).setCell ⟨G, 1, none⟩ (.slice Aa2 na2 ca2)) = W9 at Y9 hd2 HM2 ⊢
          simp only [List.set_cons_zero, List.set_cons_succ] at Y9
          refine anyC_valD (some 7) (n := 0) (i := 15) (v := .int .i64 er) (w' := W9) (by kernel_rfl) rfl rfl rfl (Later.mk' hd2) (by first | rfl | go_simp) ?_
          simp only [Act.put, List.setIfInBounds_toArray, List.set_cons_zero, List.set_cons_succ]
          refine anyC_done (by kernel_rfl) (Later.mk' hd2) ?_
          go_wp2_with fail
          go_meet
          exact ⟨hd2, G, _, _, _, _, _, _, m, er, rfl, rfl, hg9, Y9, hT2, HM2, hv⟩
      · refine wpOp_valD (some 9) (v := .pointer (some ⟨W1.heap.size, 0, none⟩)) (w' := W1.alloc (.cells #[.slice none 0 0, .slice none 0 0] 25)) (by rfl) rfl rfl ?_ ?_
        · go_simp
        simp only [Act.put, List.setIfInBounds_toArray, List.set_cons_zero, List.set_cons_succ]
        have hb := (Below.refl W1.heap.size W1).alloc (Nat.le_refl _) (.cells #[.slice none 0 0, .slice none 0 0] 25)
        have X9 := Box.new W1 [.slice none 0 0, .slice none 0 0] 25
        have hg9 := hd.size
        have HN := Lib.hid (HN.out.later hb)
        have hd := hd.trans (hb.mono hd.size)
        clear hb
        generalize W1.alloc (.cells #[.slice none 0 0, .slice none 0 0] 25) = W2 at hd X9 HN ⊢
        generalize W1.heap.size = G at X9 hg9 ⊢
        refine anyC_oneW (n := 8) (i := 7) (by kernel_rfl) (Later.mk' hd) ?_
        obtain ⟨cd, W3, hr, hV, hb⟩ := conv_bytes W2 tx (by unfold maxLen; omega)
        refine wpOp_valD (some 49) (v := .slice (some ⟨W2.heap.size, 0, none⟩) tx.length cd) (w' := W3) (by rfl) rfl rfl ?_ ?_
        · first | exact hr | go_simp
        simp only [Act.put, List.setIfInBounds_toArray, List.set_cons_zero, List.set_cons_succ]
        have HN := Lib.hid (HN.out.later hb)
        have X9 := X9.later hb
        have HD := Lib.hid (bytes_of hV)
        have hd := hd.trans (hb.mono hd.size)
        clear hb hV hr
        refine anyC_heads (by kernel_rfl) 6 W3 (Later.mk' hd) [8] _ _ (by kernel_rfl) ?_
        simp only [headOps, List.filterMap_cons, List.filterMap_nil, List.getElem?_toArray, List.getElem?_cons_succ, List.getElem?_cons_zero]
        repeat (first | go_big_quiet_skip | (show wpQuiet _ _ _ _ (_ :: _) _; go_big_quiet_skip) | (show wpQuiet _ _ _ _ (_ :: _) _; go_big_quiet_want; go_big_quiet_op; go_big_quiet_on))
        refine wpQuiet_nil ?_
        refine anyC_oneW (n := 6) (i := 9) (by kernel_rfl) (Later.mk' hd) ?_
        refine wpOp_callD (some 51) (by rfl) rfl rfl ?_ ((nSendV_is b.net ⟨0, g + 1, tx⟩ HN HD).mono ?_)
        · go_simp
        rintro e W4 ⟨Vq, Va, m, er, rfl, hT2, hN2, hb, hv⟩
        refine ⟨_, rfl, ?_⟩
        simp only [Act.put, List.setIfInBounds_toArray, List.set_cons_zero, List.set_cons_succ]
        obtain ⟨Aq2, nq2, cq2, Aa2, na2, ca2, rfl, rfl⟩ := hN2.out.form
        have X9 := X9.later hb
        have HM := Lib.hid (hN2.out.at hb.size)
        have hd := hd.trans (hb.mono hd.size)
        clear hb hN2
        refine anyC_heads (by kernel_rfl) 2 W4 (Later.mk' hd) [10, 11, 12] _ _ (by kernel_rfl) ?_
        simp only [headOps, List.filterMap_cons, List.filterMap_nil, List.getElem?_toArray, List.getElem?_cons_succ, List.getElem?_cons_zero]
        repeat (first | go_big_quiet_skip | (show wpQuiet _ _ _ _ (_ :: _) _; go_big_quiet_skip) | (show wpQuiet _ _ _ _ (_ :: _) _; go_big_quiet_want; go_big_quiet_op; go_big_quiet_on))
        refine wpQuiet_nil ?_
        have X9c0 : W4.cell? ⟨G, 0, none⟩ = some (.slice none 0 0) := X9.cell 0
        have X9f0 : W4.frozen? ⟨G, 0, none⟩ = false := X9.free 0
        have X9c1 : W4.cell? ⟨G, 1, none⟩ = some (.slice none 0 0) := X9.cell 1
        have X9f1 : W4.frozen? ⟨G, 1, none⟩ = false := X9.free 1
        have X9z : G < W4.heap.size := X9.lt
        refine anyC_storeN (w' := ((W4.setCell ⟨G, 0, none⟩ (.slice Aq2 nq2 cq2)).setCell ⟨G, 1, none⟩ (.slice Aa2 na2 ca2))) (n := 1) (i := 14) (by kernel_rfl) rfl rfl rfl (Later.mk' hd) ?_ ?_
        · go_simp
        have Y9 := ((X9.set 0 (.slice Aq2 nq2 cq2)).set 1 (.slice Aa2 na2 ca2))
        have hd2 := ((hd.setCell (p := ⟨G, 0, none⟩) (by simp <;> omega) (.slice Aq2 nq2 cq2)).setCell (p := ⟨G, 1, none⟩) (by simp <;> omega) (.slice Aa2 na2 ca2))
        have HM2 := net_setO (B1 := Aq2) (l1 := nq2) (d1 := cq2) (B2 := Aa2) (l2 := na2) (d2 := ca2) HM X9
        clear X9c0 X9c1 X9f0 X9f1 X9z
        generalize ((W4.setCell ⟨G, 0, none⟩ (.slice Aq2 nq2 cq2)).setCell ⟨G, 1, none⟩ (.slice Aa2 na2 ca2)) = W9 at Y9 hd2 HM2 ⊢
        simp only [List.set_cons_zero, List.set_cons_succ] at Y9
        refine anyC_valD (some 7) (n := 0) (i := 15) (v := .int .i64 er) (w' := W9) (by kernel_rfl) rfl rfl rfl (Later.mk' hd2) (by first | rfl | go_simp) ?_
        simp only [Act.put, List.setIfInBounds_toArray, List.set_cons_zero, List.set_cons_succ]
        refine anyC_done (by kernel_rfl) (Later.mk' hd2) ?_
        go_wp2_with fail
        go_meet
        exact ⟨hd2, G, _, _, _, _, _, _, m, er, rfl, rfl, hg9, Y9, hT2, HM2, hv⟩
    · refine wpOp_valD (some 9) (v := .pointer (some ⟨W0.heap.size, 0, none⟩)) (w' := W0.alloc (.cells #[.slice none 0 0, .slice none 0 0] 25)) (by rfl) rfl rfl ?_ ?_
      · go_simp
      simp only [Act.put, List.setIfInBounds_toArray, List.set_cons_zero, List.set_cons_succ]
      have hb := (Below.refl W0.heap.size W0).alloc (Nat.le_refl _) (.cells #[.slice none 0 0, .slice none 0 0] 25)
      have X9 := Box.new W0 [.slice none 0 0, .slice none 0 0] 25
      have hg9 := hd.size
      have HN := Lib.hid (HN.out.later hb)
      have hd := hd.trans (hb.mono hd.size)
      clear hb
      generalize W0.alloc (.cells #[.slice none 0 0, .slice none 0 0] 25) = W1 at hd X9 HN ⊢
      generalize W0.heap.size = G at X9 hg9 ⊢
      refine anyC_oneW (n := 9) (i := 6) (by kernel_rfl) (Later.mk' hd) ?_
      refine wpOp_callD (some 48) (by rfl) rfl rfl ?_ ((oMessage_is hi1 hi2 htx W1).mono ?_)
      · go_simp
      rintro e W2 ⟨rfl, hb⟩
      refine ⟨_, rfl, ?_⟩
      simp only [Act.put, List.setIfInBounds_toArray, List.set_cons_zero, List.set_cons_succ]
      have HN := Lib.hid (HN.out.later hb)
      have X9 := X9.later hb
      have hd := hd.trans (hb.mono hd.size)
      clear hb
      refine anyC_oneW (n := 8) (i := 7) (by kernel_rfl) (Later.mk' hd) ?_
      obtain ⟨cd, W3, hr, hV, hb⟩ := conv_bytes W2 tx (by unfold maxLen; omega)
      refine wpOp_valD (some 49) (v := .slice (some ⟨W2.heap.size, 0, none⟩) tx.length cd) (w' := W3) (by rfl) rfl rfl ?_ ?_
      · first | exact hr | go_simp
      simp only [Act.put, List.setIfInBounds_toArray, List.set_cons_zero, List.set_cons_succ]
      have HN := Lib.hid (HN.out.later hb)
      have X9 := X9.later hb
      have HD := Lib.hid (bytes_of hV)
      have hd := hd.trans (hb.mono hd.size)
      clear hb hV hr
      refine anyC_heads (by kernel_rfl) 6 W3 (Later.mk' hd) [8] _ _ (by kernel_rfl) ?_
      simp only [headOps, List.filterMap_cons, List.filterMap_nil, List.getElem?_toArray, List.getElem?_cons_succ, List.getElem?_cons_zero]
      repeat (first | go_big_quiet_skip | (show wpQuiet _ _ _ _ (_ :: _) _; go_big_quiet_skip) | (show wpQuiet _ _ _ _ (_ :: _) _; go_big_quiet_want; go_big_quiet_op; go_big_quiet_on))
      refine wpQuiet_nil ?_
      refine anyC_oneW (n := 6) (i := 9) (by kernel_rfl) (Later.mk' hd) ?_
      refine wpOp_callD (some 51) (by rfl) rfl rfl ?_ ((nSendV_is b.net ⟨0, g + 1, tx⟩ HN HD).mono ?_)
      · go_simp
      rintro e W4 ⟨Vq, Va, m, er, rfl, hT2, hN2, hb, hv⟩
      refine ⟨_, rfl, ?_⟩
      simp only [Act.put, List.setIfInBounds_toArray, List.set_cons_zero, List.set_cons_succ]
      obtain ⟨Aq2, nq2, cq2, Aa2, na2, ca2, rfl, rfl⟩ := hN2.out.form
      have X9 := X9.later hb
      have HM := Lib.hid (hN2.out.at hb.size)
      have hd := hd.trans (hb.mono hd.size)
      clear hb hN2
      refine anyC_heads (by kernel_rfl) 2 W4 (Later.mk' hd) [10, 11, 12] _ _ (by kernel_rfl) ?_
      simp only [headOps, List.filterMap_cons, List.filterMap_nil, List.getElem?_toArray, List.getElem?_cons_succ, List.getElem?_cons_zero]
      repeat (first | go_big_quiet_skip | (show wpQuiet _ _ _ _ (_ :: _) _; go_big_quiet_skip) | (show wpQuiet _ _ _ _ (_ :: _) _; go_big_quiet_want; go_big_quiet_op; go_big_quiet_on))
      refine wpQuiet_nil ?_
      have X9c0 : W4.cell? ⟨G, 0, none⟩ = some (.slice none 0 0) := X9.cell 0
      have X9f0 : W4.frozen? ⟨G, 0, none⟩ = false := X9.free 0
      have X9c1 : W4.cell? ⟨G, 1, none⟩ = some (.slice none 0 0) := X9.cell 1
      have X9f1 : W4.frozen? ⟨G, 1, none⟩ = false := X9.free 1
      have X9z : G < W4.heap.size := X9.lt
      refine anyC_storeN (w' := ((W4.setCell ⟨G, 0, none⟩ (.slice Aq2 nq2 cq2)).setCell ⟨G, 1, none⟩ (.slice Aa2 na2 ca2))) (n := 1) (i := 14) (by kernel_rfl) rfl rfl rfl (Later.mk' hd) ?_ ?_
      · go_simp
      have Y9 := ((X9.set 0 (.slice Aq2 nq2 cq2)).set 1 (.slice Aa2 na2 ca2))
      have hd2 := ((hd.setCell (p := ⟨G, 0, none⟩) (by simp <;> omega) (.slice Aq2 nq2 cq2)).setCell (p := ⟨G, 1, none⟩) (by simp <;> omega) (.slice Aa2 na2 ca2))
      have HM2 := net_setO (B1 := Aq2) (l1 := nq2) (d1 := cq2) (B2 := Aa2) (l2 := na2) (d2 := ca2) HM X9
      clear X9c0 X9c1 X9f0 X9f1 X9z
      generalize ((W4.setCell ⟨G, 0, none⟩ (.slice Aq2 nq2 cq2)).setCell ⟨G, 1, none⟩ (.slice Aa2 na2 ca2)) = W9 at Y9 hd2 HM2 ⊢
      simp only [List.set_cons_zero, List.set_cons_succ] at Y9
      refine anyC_valD (some 7) (n := 0) (i := 15) (v := .int .i64 er) (w' := W9) (by kernel_rfl) rfl rfl rfl (Later.mk' hd2) (by first | rfl | go_simp) ?_
      simp only [Act.put, List.setIfInBounds_toArray, List.set_cons_zero, List.set_cons_succ]
      refine anyC_done (by kernel_rfl) (Later.mk' hd2) ?_
      go_wp2_with fail
      go_meet
      exact ⟨hd2, G, _, _, _, _, _, _, m, er, rfl, rfl, hg9, Y9, hT2, HM2, hv⟩
  case rest =>
    obtain ⟨hb, G, Aq2, nq2, cq2, Aa2, na2, ca2, m, er, rfl, rfl, hG, X9, hT2, HM, hv⟩ := hcut
    have z6 := X6.lt
    have hB := hB.trans (hb.mono hB.size)
    have X1 := X1.later hb
    have X6 := X6.later hb
    have hsn := send_net (m := m) (er := er) HOK.out HIN.out (by rw [hns.out]; exact h4) (by rw [hns.out, htx.out]; exact hT2.out)
    rw [hT.out] at hsn
    by_cases he : er = 0
    rotate_left
    · have d6 : (er != 0) = true := by simp [he]
      obtain rfl : T = (Bx.zero, er) := by rw [hsn, if_neg he]
      have X6c0 : wc.cell? ⟨w.heap.size + 1, 0, none⟩ = some (.slice none 0 0) := X6.cell 0
      have X6f0 : wc.frozen? ⟨w.heap.size + 1, 0, none⟩ = false := X6.free 0
      have X6c1 : wc.cell? ⟨w.heap.size + 1, 1, none⟩ = some (.slice none 0 0) := X6.cell 1
      have X6f1 : wc.frozen? ⟨w.heap.size + 1, 1, none⟩ = false := X6.free 1
      have X6c2 : wc.cell? ⟨w.heap.size + 1, 2, none⟩ = some (.slice none 0 0) := X6.cell 2
      have X6f2 : wc.frozen? ⟨w.heap.size + 1, 2, none⟩ = false := X6.free 2
      have X6c3 : wc.cell? ⟨w.heap.size + 1, 3, none⟩ = some (.slice none 0 0) := X6.cell 3
      have X6f3 : wc.frozen? ⟨w.heap.size + 1, 3, none⟩ = false := X6.free 3
      have X6c4 : wc.cell? ⟨w.heap.size + 1, 4, none⟩ = some (.slice none 0 0) := X6.cell 4
      have X6f4 : wc.frozen? ⟨w.heap.size + 1, 4, none⟩ = false := X6.free 4
      have X6z : w.heap.size + 1 < wc.heap.size := X6.lt
      have Y6 := (((((X6.set 0 (.slice none 0 0)).set 1 (.slice none 0 0)).set 2 (.slice none 0 0)).set 3 (.slice none 0 0)).set 4 (.slice none 0 0))
      have hB2 := (((((hB.setCell (p := ⟨w.heap.size + 1, 0, none⟩) (by simp <;> omega) (.slice none 0 0)).setCell (p := ⟨w.heap.size + 1, 1, none⟩) (by simp <;> omega) (.slice none 0 0)).setCell (p := ⟨w.heap.size + 1, 2, none⟩) (by simp <;> omega) (.slice none 0 0)).setCell (p := ⟨w.heap.size + 1, 3, none⟩) (by simp <;> omega) (.slice none 0 0)).setCell (p := ⟨w.heap.size + 1, 4, none⟩) (by simp <;> omega) (.slice none 0 0))
      go_wp2
      clear X6c0 X6c1 X6c2 X6c3 X6c4 X6f0 X6f1 X6f2 X6f3 X6f4 X6z
      generalize (((((wc.setCell ⟨w.heap.size + 1, 0, none⟩ (.slice none 0 0)).setCell ⟨w.heap.size + 1, 1, none⟩ (.slice none 0 0)).setCell ⟨w.heap.size + 1, 2, none⟩ (.slice none 0 0)).setCell ⟨w.heap.size + 1, 3, none⟩ (.slice none 0 0)).setCell ⟨w.heap.size + 1, 4, none⟩ (.slice none 0 0)) = W8 at Y6 hB2 ⊢
      simp only [List.set_cons_zero, List.set_cons_succ] at Y6
      have Y6c0 : W8.cell? ⟨w.heap.size + 1, 0, none⟩ = some (.slice none 0 0) := Y6.cell 0
      have Y6c1 : W8.cell? ⟨w.heap.size + 1, 1, none⟩ = some (.slice none 0 0) := Y6.cell 1
      have Y6c2 : W8.cell? ⟨w.heap.size + 1, 2, none⟩ = some (.slice none 0 0) := Y6.cell 2
      have Y6c3 : W8.cell? ⟨w.heap.size + 1, 3, none⟩ = some (.slice none 0 0) := Y6.cell 3
      have Y6c4 : W8.cell? ⟨w.heap.size + 1, 4, none⟩ = some (.slice none 0 0) := Y6.cell 4
      refine bodyPost_ret (v := .tuple #[.agg #[.slice none 0 0, .slice none 0 0, .slice none 0 0, .slice none 0 0, .slice none 0 0], .int .i64 er]) (by simp [results, Try.results12, go_sem, Y6c0, Y6c1, Y6c2, Y6c3, Y6c4]) rfl ?_
      exact ⟨_, _, _, _, _, rfl, bxAt_zero _ _, hB2, Nw3.zero _ _ _ _⟩
    subst he
    obtain rfl : T = (⟨m, b.sent ++ [(g, o)], b.heard, b.fresh⟩, 0) := by rw [hsn, if_pos rfl]
    clear hsn
    have hzb := hb.size
    have hmk := oMakeM (ns + 1) (by omega) wc
    rw [show ((ns + 1 : Nat) : Int) = (ns : Int) + 1 by omega] at hmk
    have hw3 := HW3.out
    have hw4 := HW4.out
    have hal := (Below.refl wc.heap.size wc).alloc (Nat.le_refl _) (.cells (List.replicate ((ns + 1) * 2) (Value.int .i64 0)).toArray 48)
    have XM := Box.new wc (List.replicate ((ns + 1) * 2) (Value.int .i64 0)) 48
    have X1 := X1.later hal
    have X6 := X6.later hal
    have zG := X9.lt
    have X9 := X9.later hal
    have hB := hB.trans (hal.mono hB.size)
    have HM2 := HM.out.below hal
    have HS := Lib.hid (hx.out.sent.later hB)
    have hza := hal.size
    clear hal
    generalize wc.alloc (.cells (List.replicate ((ns + 1) * 2) (Value.int .i64 0)).toArray 48) = W2 at hmk XM X1 X6 X9 hB HM2 HS hza
    go_upto_region 13 with fail
    clear hmk
    generalize wc.heap.size = gM at XM HM2 zG hzb hza ⊢
    obtain ⟨W3, hcp, XM, hb3⟩ := copy_lks 3 hns.out HS.out XM
    have x12 : W2.cell? ⟨w.heap.size, 2, none⟩ = some (.slice As ns cs) := X1.cell 2
    go_upto_region 14 with fail
    clear hcp x12
    obtain ⟨r0, r1⟩ := lkL_room hns.out (.int .i64 0) (.int .i64 0)
    have k0 : W3.cell? ⟨gM, ns * 2, none⟩ = some (.int .i64 0) := (XM.cell _).trans r0
    have k1 : W3.cell? ⟨gM, ns * 2 + 1, none⟩ = some (.int .i64 0) := (XM.cell _).trans r1
    have f0 := XM.free (ns * 2)
    have f1 := XM.free (ns * 2 + 1)
    have zM := XM.lt
    have hidx : (ns : Int) < (ns : Int) + 1 := by omega
    have hidx2 : (ns : Int) < ((ns + 1 : Nat) : Int) := by omega
    go_upto_region 15 with fail
    clear k0 k1 f0 f1 hidx hidx2 r0 r1
    have XM := (XM.set (ns * 2) (.int .i64 g)).set (ns * 2 + 1) (.int .i64 o)
    rw [lkL_last hns.out] at XM
    have X1 := ((X1.under hb3 (by omega)).other (a := ⟨gM, ns * 2, none⟩) (by simp <;> omega) (.int .i64 g)).other (a := ⟨gM, ns * 2 + 1, none⟩) (by simp <;> omega) (.int .i64 o)
    have X6 := ((X6.under hb3 (by omega)).other (a := ⟨gM, ns * 2, none⟩) (by simp <;> omega) (.int .i64 g)).other (a := ⟨gM, ns * 2 + 1, none⟩) (by simp <;> omega) (.int .i64 o)
    have X9 := ((X9.under hb3 zG).other (a := ⟨gM, ns * 2, none⟩) (by simp <;> omega) (.int .i64 g)).other (a := ⟨gM, ns * 2 + 1, none⟩) (by simp <;> omega) (.int .i64 o)
    have HM3 := ((HM2.below hb3).below ((Below.refl gM W3).setCell (p := ⟨gM, ns * 2, none⟩) (Nat.le_refl _) (.int .i64 g))).below ((Below.refl gM _).setCell (p := ⟨gM, ns * 2 + 1, none⟩) (Nat.le_refl _) (.int .i64 o))
    have hB := ((hB.trans (hb3.mono (by omega))).setCell (p := ⟨gM, ns * 2, none⟩) (by simp <;> omega) (.int .i64 g)).setCell (p := ⟨gM, ns * 2 + 1, none⟩) (by simp <;> omega) (.int .i64 o)
    have hsz3 : gM ≤ ((W3.setCell ⟨gM, ns * 2, none⟩ (.int .i64 g)).setCell ⟨gM, ns * 2 + 1, none⟩ (.int .i64 o)).heap.size := by simp; omega
    generalize (W3.setCell ⟨gM, ns * 2, none⟩ (.int .i64 g)).setCell ⟨gM, ns * 2 + 1, none⟩ (.int .i64 o) = W4 at XM X1 X6 X9 HM3 hB hsz3 ⊢
    have X1c0 : W4.cell? ⟨w.heap.size, 0, none⟩ = some (.slice Aq nq cq) := X1.cell 0
    have X1f0 : W4.frozen? ⟨w.heap.size, 0, none⟩ = false := X1.free 0
    have X1c1 : W4.cell? ⟨w.heap.size, 1, none⟩ = some (.slice Aa na ca) := X1.cell 1
    have X1f1 : W4.frozen? ⟨w.heap.size, 1, none⟩ = false := X1.free 1
    have X1c2 : W4.cell? ⟨w.heap.size, 2, none⟩ = some (.slice As ns cs) := X1.cell 2
    have X1f2 : W4.frozen? ⟨w.heap.size, 2, none⟩ = false := X1.free 2
    have X1c3 : W4.cell? ⟨w.heap.size, 3, none⟩ = some (.slice Ah n ch) := X1.cell 3
    have X1f3 : W4.frozen? ⟨w.heap.size, 3, none⟩ = false := X1.free 3
    have X1c4 : W4.cell? ⟨w.heap.size, 4, none⟩ = some (.slice Af nf cf) := X1.cell 4
    have X1f4 : W4.frozen? ⟨w.heap.size, 4, none⟩ = false := X1.free 4
    have X1z : w.heap.size < W4.heap.size := X1.lt
    have X9c0 : W4.cell? ⟨G, 0, none⟩ = some (.slice Aq2 nq2 cq2) := X9.cell 0
    have X9c1 : W4.cell? ⟨G, 1, none⟩ = some (.slice Aa2 na2 ca2) := X9.cell 1
    have z9 := X9.lt
    go_upto_region 16 with fail
    clear X1c0 X1c1 X1c2 X1c3 X1c4 X1f0 X1f1 X1f2 X1f3 X1f4 X1z X9c0 X9c1 z9
    obtain ⟨HM4, S1⟩ := HM3.set2 (SlBox.of X1 (by simp)) Aq2 Aa2 nq2 cq2 na2 ca2
    have HM4 := HM4.setS S1 2 (.slice (some ⟨gM, 0, none⟩) (ns + 1) (ns + 1))
    have XM := ((XM.other (a := ⟨w.heap.size, 0, none⟩) (by simp <;> omega) (.slice Aq2 nq2 cq2)).other (a := ⟨w.heap.size, 1, none⟩) (by simp <;> omega) (.slice Aa2 na2 ca2)).other (a := ⟨w.heap.size, 2, none⟩) (by simp <;> omega) (.slice (some ⟨gM, 0, none⟩) (ns + 1) (ns + 1))
    have X1 := ((X1.set 0 (.slice Aq2 nq2 cq2)).set 1 (.slice Aa2 na2 ca2)).set 2 (.slice (some ⟨gM, 0, none⟩) (ns + 1) (ns + 1))
    have X6 := ((X6.other (a := ⟨w.heap.size, 0, none⟩) (by simp <;> omega) (.slice Aq2 nq2 cq2)).other (a := ⟨w.heap.size, 1, none⟩) (by simp <;> omega) (.slice Aa2 na2 ca2)).other (a := ⟨w.heap.size, 2, none⟩) (by simp <;> omega) (.slice (some ⟨gM, 0, none⟩) (ns + 1) (ns + 1))
    have hB := ((hB.setCell (p := ⟨w.heap.size, 0, none⟩) (by simp) (.slice Aq2 nq2 cq2)).setCell (p := ⟨w.heap.size, 1, none⟩) (by simp) (.slice Aa2 na2 ca2)).setCell (p := ⟨w.heap.size, 2, none⟩) (by simp) (.slice (some ⟨gM, 0, none⟩) (ns + 1) (ns + 1))
    have hsz4 : gM ≤ (((W4.setCell ⟨w.heap.size, 0, none⟩ (.slice Aq2 nq2 cq2)).setCell ⟨w.heap.size, 1, none⟩ (.slice Aa2 na2 ca2)).setCell ⟨w.heap.size, 2, none⟩ (.slice (some ⟨gM, 0, none⟩) (ns + 1) (ns + 1))).heap.size := by simp; omega
    generalize ((W4.setCell ⟨w.heap.size, 0, none⟩ (.slice Aq2 nq2 cq2)).setCell ⟨w.heap.size, 1, none⟩ (.slice Aa2 na2 ca2)).setCell ⟨w.heap.size, 2, none⟩ (.slice (some ⟨gM, 0, none⟩) (ns + 1) (ns + 1)) = W5 at XM X1 X6 HM4 hB hsz4 ⊢
    simp only [List.set_cons_zero, List.set_cons_succ] at X1
    clear S1 X9 HM3 HM2
    have X1c0 : W5.cell? ⟨w.heap.size, 0, none⟩ = some (.slice Aq2 nq2 cq2) := X1.cell 0
    have X1c1 : W5.cell? ⟨w.heap.size, 1, none⟩ = some (.slice Aa2 na2 ca2) := X1.cell 1
    have X1c2 : W5.cell? ⟨w.heap.size, 2, none⟩ = some (.slice (some ⟨gM, 0, none⟩) (ns + 1) (ns + 1)) := X1.cell 2
    have X1c3 : W5.cell? ⟨w.heap.size, 3, none⟩ = some (.slice Ah n ch) := X1.cell 3
    have X1c4 : W5.cell? ⟨w.heap.size, 4, none⟩ = some (.slice Af nf cf) := X1.cell 4
    have z1 := X1.lt
    have X6c0 : W5.cell? ⟨w.heap.size + 1, 0, none⟩ = some (.slice none 0 0) := X6.cell 0
    have X6f0 : W5.frozen? ⟨w.heap.size + 1, 0, none⟩ = false := X6.free 0
    have X6c1 : W5.cell? ⟨w.heap.size + 1, 1, none⟩ = some (.slice none 0 0) := X6.cell 1
    have X6f1 : W5.frozen? ⟨w.heap.size + 1, 1, none⟩ = false := X6.free 1
    have X6c2 : W5.cell? ⟨w.heap.size + 1, 2, none⟩ = some (.slice none 0 0) := X6.cell 2
    have X6f2 : W5.frozen? ⟨w.heap.size + 1, 2, none⟩ = false := X6.free 2
    have X6c3 : W5.cell? ⟨w.heap.size + 1, 3, none⟩ = some (.slice none 0 0) := X6.cell 3
    have X6f3 : W5.frozen? ⟨w.heap.size + 1, 3, none⟩ = false := X6.free 3
    have X6c4 : W5.cell? ⟨w.heap.size + 1, 4, none⟩ = some (.slice none 0 0) := X6.cell 4
    have X6f4 : W5.frozen? ⟨w.heap.size + 1, 4, none⟩ = false := X6.free 4
    have X6z : w.heap.size + 1 < W5.heap.size := X6.lt
    go_wp2
    have HM5 := HM4.set5 (SlBox.of X6 (by simp)) Aq2 Aa2 (some ⟨gM, 0, none⟩) Ah Af nq2 cq2 na2 ca2 (ns + 1) (ns + 1) n ch nf cf
    have XM := (((((XM.other (a := ⟨w.heap.size + 1, 0, none⟩) (by simp <;> omega) (.slice Aq2 nq2 cq2)).other (a := ⟨w.heap.size + 1, 1, none⟩) (by simp <;> omega) (.slice Aa2 na2 ca2)).other (a := ⟨w.heap.size + 1, 2, none⟩) (by simp <;> omega) (.slice (some ⟨gM, 0, none⟩) (ns + 1) (ns + 1))).other (a := ⟨w.heap.size + 1, 3, none⟩) (by simp <;> omega) (.slice Ah n ch)).other (a := ⟨w.heap.size + 1, 4, none⟩) (by simp <;> omega) (.slice Af nf cf))
    have Y6 := (((((X6.set 0 (.slice Aq2 nq2 cq2)).set 1 (.slice Aa2 na2 ca2)).set 2 (.slice (some ⟨gM, 0, none⟩) (ns + 1) (ns + 1))).set 3 (.slice Ah n ch)).set 4 (.slice Af nf cf))
    have hB := (((((hB.setCell (p := ⟨w.heap.size + 1, 0, none⟩) (by simp <;> omega) (.slice Aq2 nq2 cq2)).setCell (p := ⟨w.heap.size + 1, 1, none⟩) (by simp <;> omega) (.slice Aa2 na2 ca2)).setCell (p := ⟨w.heap.size + 1, 2, none⟩) (by simp <;> omega) (.slice (some ⟨gM, 0, none⟩) (ns + 1) (ns + 1))).setCell (p := ⟨w.heap.size + 1, 3, none⟩) (by simp <;> omega) (.slice Ah n ch)).setCell (p := ⟨w.heap.size + 1, 4, none⟩) (by simp <;> omega) (.slice Af nf cf))
    have hsz5 : gM ≤ (((((W5.setCell ⟨w.heap.size + 1, 0, none⟩ (.slice Aq2 nq2 cq2)).setCell ⟨w.heap.size + 1, 1, none⟩ (.slice Aa2 na2 ca2)).setCell ⟨w.heap.size + 1, 2, none⟩ (.slice (some ⟨gM, 0, none⟩) (ns + 1) (ns + 1))).setCell ⟨w.heap.size + 1, 3, none⟩ (.slice Ah n ch)).setCell ⟨w.heap.size + 1, 4, none⟩ (.slice Af nf cf)).heap.size := by simp; omega
    clear X1c0 X1c1 X1c2 X1c3 X1c4 X6c0 X6c1 X6c2 X6c3 X6c4 X6f0 X6f1 X6f2 X6f3 X6f4 X6z
    generalize (((((W5.setCell ⟨w.heap.size + 1, 0, none⟩ (.slice Aq2 nq2 cq2)).setCell ⟨w.heap.size + 1, 1, none⟩ (.slice Aa2 na2 ca2)).setCell ⟨w.heap.size + 1, 2, none⟩ (.slice (some ⟨gM, 0, none⟩) (ns + 1) (ns + 1))).setCell ⟨w.heap.size + 1, 3, none⟩ (.slice Ah n ch)).setCell ⟨w.heap.size + 1, 4, none⟩ (.slice Af nf cf)) = W6 at XM Y6 HM5 hB hsz5 ⊢
    simp only [List.set_cons_zero, List.set_cons_succ] at Y6
    have Y6c0 : W6.cell? ⟨w.heap.size + 1, 0, none⟩ = some (.slice Aq2 nq2 cq2) := Y6.cell 0
    have Y6c1 : W6.cell? ⟨w.heap.size + 1, 1, none⟩ = some (.slice Aa2 na2 ca2) := Y6.cell 1
    have Y6c2 : W6.cell? ⟨w.heap.size + 1, 2, none⟩ = some (.slice (some ⟨gM, 0, none⟩) (ns + 1) (ns + 1)) := Y6.cell 2
    have Y6c3 : W6.cell? ⟨w.heap.size + 1, 3, none⟩ = some (.slice Ah n ch) := Y6.cell 3
    have Y6c4 : W6.cell? ⟨w.heap.size + 1, 4, none⟩ = some (.slice Af nf cf) := Y6.cell 4
    have hX := hx.out.later hB
    have hS := lks_box XM (by rw [List.length_append, hns.out]; simp [maxLen]; omega)
    rw [List.length_append, hns.out] at hS
    refine bodyPost_ret (v := .tuple #[.agg #[.slice Aq2 nq2 cq2, .slice Aa2 na2 ca2, .slice (some ⟨gM, 0, none⟩) (ns + 1) (ns + 1), .slice Ah n ch, .slice Af nf cf], .int .i64 0]) (by simp [results, Try.results12, go_sem, Y6c0, Y6c1, Y6c2, Y6c3, Y6c4]) rfl ?_
    exact ⟨_, _, _, _, _, rfl, ⟨HM5.more hsz5, hS, hX.heard, hX.fresh⟩, hB, ⟨hv.b _, .inr (.inr ⟨_, _, _, _, rfl, by omega⟩), .inl rfl⟩⟩
end Go.Proofs.Ytmbifmmkccghfaa
