/- The example of the law's file of chapter 35: its parts. (Printed by pp.py.) No condition. -/
import Derived.Test.YtcjcjkomcolgeaaQKD
import Derived.Test.YtcjcjkomcolgeaaQDB
set_option linter.unusedVariables false
set_option linter.unusedSimpArgs false
namespace Go.Proofs.Ytcjcjkomcolgeaa
open Go.RowKit

def LitPls (w : World) (b : Nat) (v : Value) (p q : Pl) : Prop := v = .slice (some ⟨b, 0, none⟩) 2 2 ∧ Box w b (p.cells ++ q.cells)
def LitCode (w : World) (v : Value) (hg most low : Int) : Prop := ∃ bl c1 c2, v = .slice (some ⟨bl, 0, none⟩) 3 3 ∧ Box w bl [.slice (some ⟨c1, 0, none⟩) 1 1, .int .i64 most, .slice (some ⟨c2, 0, none⟩) 1 1, .int .i64 0, .slice none 0 0, .int .i64 1] ∧ Box w c1 [.int .i64 0, .int .i64 5, .int .i64 hg] ∧ Box w c2 [.int .i64 0, .int .i64 1, .int .i64 low]
def LitCodes (w : World) (v : Value) : Prop := ∃ b V1 V2, v = .slice (some ⟨b, 0, none⟩) 2 2 ∧ Box w b [V1, V2] ∧ LitCode w V1 5 2 3 ∧ LitCode w V2 7 3 5
def LitBar (w : World) (v : Value) (bank siphon : Int) : Prop := ∃ b, v = .slice (some ⟨b, 0, none⟩) 2 2 ∧ Box w b [.int .i64 1, .int .i64 0, .int .i64 0, .int .i64 0, .int .i64 0, .int .i64 bank, .int .i64 (-1), .int .i64 0, .int .i64 0, .int .i64 0, .int .i64 0, .int .i64 (-siphon)]
def LitBars (w : World) (v : Value) : Prop := ∃ b V1 V2, v = .slice (some ⟨b, 0, none⟩) 2 2 ∧ Box w b [V1, V2] ∧ LitBar w V1 7 1 ∧ LitBar w V2 9 2
section
variable {w w' : World} {v : Value}
theorem LitPls.later {b : Nat} {p q : Pl} (h : LitPls w b v p q) (hb : Below w.heap.size w w') : LitPls w' b v p q := ⟨h.1, h.2.later hb⟩
theorem LitCode.later {hg most low : Int} (h : LitCode w v hg most low) (hb : Below w.heap.size w w') : LitCode w' v hg most low := by
  obtain ⟨bl, c1, c2, hv, h1, h2, h3⟩ := h
  exact ⟨bl, c1, c2, hv, h1.later hb, h2.later hb, h3.later hb⟩
theorem LitCodes.later (h : LitCodes w v) (hb : Below w.heap.size w w') : LitCodes w' v := by
  obtain ⟨b, V1, V2, hv, h1, h2, h3⟩ := h
  exact ⟨b, V1, V2, hv, h1.later hb, h2.later hb, h3.later hb⟩
theorem LitBar.later {bank siphon : Int} (h : LitBar w v bank siphon) (hb : Below w.heap.size w w') : LitBar w' v bank siphon := by
  obtain ⟨b, hv, h1⟩ := h
  exact ⟨b, hv, h1.later hb⟩
theorem LitBars.later (h : LitBars w v) (hb : Below w.heap.size w w') : LitBars w' v := by
  obtain ⟨b, V1, V2, hv, h1, h2, h3⟩ := h
  exact ⟨b, V1, V2, hv, h1.later hb, h2.later hb, h3.later hb⟩
theorem Box.ne {b c : Nat} {xs ys : List Value} (h : Box w b xs) (k : Box w c ys) (hl : xs.length ≠ ys.length) : b ≠ c := by
  rintro rfl
  obtain ⟨t, ht⟩ := h
  obtain ⟨u, hu⟩ := k
  rw [ht] at hu
  simp only [Option.some.injEq, Obj.cells.injEq, Array.mk.injEq] at hu
  exact hl (by rw [hu.1])
theorem LitCode.set {hg most low : Int} {b : Nat} {xs : List Value} (h : LitCode w v hg most low) (hx : Box w b xs) (hl : xs.length = 24) (o : Nat) (u : Value) : LitCode (w.setCell ⟨b, o, none⟩ u) v hg most low := by
  obtain ⟨bl, c1, c2, hv, h1, h2, h3⟩ := h
  exact ⟨bl, c1, c2, hv, h1.other (a := ⟨b, o, none⟩) (h1.ne hx (by rw [hl]; simp)) u, h2.other (a := ⟨b, o, none⟩) (h2.ne hx (by rw [hl]; simp)) u, h3.other (a := ⟨b, o, none⟩) (h3.ne hx (by rw [hl]; simp)) u⟩
theorem LitCodes.set {b : Nat} {xs : List Value} (h : LitCodes w v) (hx : Box w b xs) (hl : xs.length = 24) (o : Nat) (u : Value) : LitCodes (w.setCell ⟨b, o, none⟩ u) v := by
  obtain ⟨c, V1, V2, hv, h1, h2, h3⟩ := h
  exact ⟨c, V1, V2, hv, h1.other (a := ⟨b, o, none⟩) (h1.ne hx (by rw [hl]; simp)) u, h2.set hx hl o u, h3.set hx hl o u⟩
theorem LitBar.set {bank siphon : Int} {b : Nat} {xs : List Value} (h : LitBar w v bank siphon) (hx : Box w b xs) (hl : xs.length = 24) (o : Nat) (u : Value) : LitBar (w.setCell ⟨b, o, none⟩ u) v bank siphon := by
  obtain ⟨c, hv, h1⟩ := h
  exact ⟨c, hv, h1.other (a := ⟨b, o, none⟩) (h1.ne hx (by rw [hl]; simp)) u⟩
theorem LitBars.set {b : Nat} {xs : List Value} (h : LitBars w v) (hx : Box w b xs) (hl : xs.length = 24) (o : Nat) (u : Value) : LitBars (w.setCell ⟨b, o, none⟩ u) v := by
  obtain ⟨c, V1, V2, hv, h1, h2, h3⟩ := h
  exact ⟨c, V1, V2, hv, h1.other (a := ⟨b, o, none⟩) (h1.ne hx (by rw [hl]; simp)) u, h2.set hx hl o u, h3.set hx hl o u⟩
end
def upP (start : Int) : Pl := ⟨9, 7, 1, start, 2, 1, 2, 2, 2, 0, 0, 0⟩
def downP (feed : Int) : Pl := ⟨12, 9, 2, 5, 3, 1, 3, 3, feed, 0, 1, 0⟩
def litC (hg most low : Int) : List Ln := [⟨[⟨0, 5, hg⟩], most⟩, ⟨[⟨0, 1, low⟩], 0⟩, ⟨[], 1⟩]
def litB (bank siphon : Int) : List Iq := [⟨1, 0, 0, 0, 0, bank⟩, ⟨-1, 0, 0, 0, 0, -siphon⟩]
def smallC (start feed : Int) : Cs := ⟨[upP start, downP feed], [litC 5 2 3, litC 7 3 5], [litB 7 1, litB 9 2]⟩
theorem LitPls.at {w : World} {b : Nat} {v : Value} {p q : Pl} (h : LitPls w b v p q) : PlsAt w w.heap.size v [p, q] := by
  obtain ⟨rfl, hx⟩ := h
  refine ⟨_, _, rfl, by simp [maxLen], fun i hi => ⟨b, 0, rfl, hx.lt, fun j hj => ?_⟩⟩
  rw [hx.cell]
  have hi : i = 0 ∨ i = 1 := by simp at hi; omega
  have hj : j = 0 ∨ j = 1 ∨ j = 2 ∨ j = 3 ∨ j = 4 ∨ j = 5 ∨ j = 6 ∨ j = 7 ∨ j = 8 ∨ j = 9 ∨ j = 10 ∨ j = 11 := by omega
  rcases hi with rfl | rfl <;> rcases hj with rfl | rfl | rfl | rfl | rfl | rfl | rfl | rfl | rfl | rfl | rfl | rfl <;> rfl
theorem LitCode.at {w : World} {v : Value} {hg most low : Int} (h : LitCode w v hg most low) : CodeAt w w.heap.size v (litC hg most low) := by
  obtain ⟨bl, c1, c2, rfl, h1, h2, h3⟩ := h
  refine ⟨fun i => if i = 0 then .slice (some ⟨c1, 0, none⟩) 1 1 else if i = 1 then .slice (some ⟨c2, 0, none⟩) 1 1 else .slice none 0 0, ⟨_, _, rfl, by simp [maxLen, litC], fun i hi => ⟨bl, 0, rfl, h1.lt, fun j hj => ?_⟩⟩, fun i l hl => ?_⟩
  · rw [h1.cell]
    have hi : i = 0 ∨ i = 1 ∨ i = 2 := by simp [litC] at hi; omega
    have hj : j = 0 ∨ j = 1 := by omega
    rcases hi with rfl | rfl | rfl <;> rcases hj with rfl | rfl <;> rfl
  · rcases i with _ | _ | _ | i
    · cases hl
      refine ⟨_, _, rfl, by simp [maxLen], fun i hi => ⟨c1, 0, rfl, h2.lt, fun j hj => ?_⟩⟩
      rw [h2.cell]
      obtain rfl : i = 0 := by simp at hi; omega
      rcases (show j = 0 ∨ j = 1 ∨ j = 2 by omega) with rfl | rfl | rfl <;> rfl
    · cases hl
      refine ⟨_, _, rfl, by simp [maxLen], fun i hi => ⟨c2, 0, rfl, h3.lt, fun j hj => ?_⟩⟩
      rw [h3.cell]
      obtain rfl : i = 0 := by simp at hi; omega
      rcases (show j = 0 ∨ j = 1 ∨ j = 2 by omega) with rfl | rfl | rfl <;> rfl
    · cases hl
      exact ⟨none, 0, rfl, by simp [maxLen], fun i hi => absurd hi (Nat.not_lt_zero _)⟩
    · cases hl
theorem LitCodes.at {w : World} {v : Value} (h : LitCodes w v) : CodesAt w w.heap.size v [litC 5 2 3, litC 7 3 5] := by
  obtain ⟨b, V1, V2, rfl, h1, h2, h3⟩ := h
  refine ⟨fun i => if i = 0 then V1 else V2, ⟨_, _, rfl, by simp [maxLen], fun i hi => ⟨b, 0, rfl, h1.lt, fun j hj => ?_⟩⟩, fun i c hc => ?_⟩
  · rw [h1.cell]
    obtain rfl : j = 0 := by omega
    rcases (show i = 0 ∨ i = 1 by simp at hi; omega) with rfl | rfl <;> rfl
  · rcases i with _ | _ | i
    · cases hc; exact h2.at
    · cases hc; exact h3.at
    · cases hc
theorem LitBar.at {w : World} {v : Value} {bank siphon : Int} (h : LitBar w v bank siphon) : BarAt w w.heap.size v (litB bank siphon) := by
  obtain ⟨b, rfl, h1⟩ := h
  refine ⟨_, _, rfl, by simp [maxLen, litB], fun i hi => ⟨b, 0, rfl, h1.lt, fun j hj => ?_⟩⟩
  rw [h1.cell]
  have hi : i = 0 ∨ i = 1 := by simp [litB] at hi; omega
  rcases hi with rfl | rfl <;> rcases (show j = 0 ∨ j = 1 ∨ j = 2 ∨ j = 3 ∨ j = 4 ∨ j = 5 by omega) with rfl | rfl | rfl | rfl | rfl | rfl <;> rfl
theorem LitBars.at {w : World} {v : Value} (h : LitBars w v) : BarsAt w w.heap.size v [litB 7 1, litB 9 2] := by
  obtain ⟨b, V1, V2, rfl, h1, h2, h3⟩ := h
  refine ⟨fun i => if i = 0 then V1 else V2, ⟨_, _, rfl, by simp [maxLen], fun i hi => ⟨b, 0, rfl, h1.lt, fun j hj => ?_⟩⟩, fun i c hc => ?_⟩
  · rw [h1.cell]
    obtain rfl : j = 0 := by omega
    rcases (show i = 0 ∨ i = 1 by simp at hi; omega) with rfl | rfl <;> rfl
  · rcases i with _ | _ | i
    · cases hc; exact h2.at
    · cases hc; exact h3.at
    · cases hc
set_option maxRecDepth 100000 in
set_option maxHeartbeats 2000000 in
theorem lLine_any (s : Int) (A : Option Addr) (n c : Nat) (w : World) : Calls Try.prog 57 #[.int .i64 s, .slice A n c] w fun e w' => e = .returned (.agg #[.slice A n c, .int .i64 s]) ∧ Below w.heap.size w w' := by
  go_enter Try.func57, Try.ntmps57
  go_upto_region 1 with fail
  have X0 := Box.new w [.slice none 0 0, .int .i64 0] 104
  have hB := (Below.refl w.heap.size w).alloc (Nat.le_refl _) (.cells #[.slice none 0 0, .int .i64 0] 104)
  generalize w.alloc (.cells #[.slice none 0 0, .int .i64 0] 104) = w1 at X0 hB ⊢
  have X0c0 : w1.cell? ⟨w.heap.size, 0, none⟩ = some (.slice none 0 0) := X0.cell 0
  have X0f0 : w1.frozen? ⟨w.heap.size, 0, none⟩ = false := X0.free 0
  have X0c1 : w1.cell? ⟨w.heap.size, 1, none⟩ = some (.int .i64 0) := X0.cell 1
  have X0f1 : w1.frozen? ⟨w.heap.size, 1, none⟩ = false := X0.free 1
  have X0z : w.heap.size < w1.heap.size := X0.lt
  go_wp2
  have Z := ((X0.set 0 (.slice A n c)).set 1 (.int .i64 s))
  have hB := ((hB.setCell (p := ⟨w.heap.size, 0, none⟩) (by simp <;> omega) (.slice A n c)).setCell (p := ⟨w.heap.size, 1, none⟩) (by simp <;> omega) (.int .i64 s))
  generalize ((w1.setCell ⟨w.heap.size, 0, none⟩ (.slice A n c)).setCell ⟨w.heap.size, 1, none⟩ (.int .i64 s)) = w2 at Z hB ⊢
  have d0 : w2.cell? ⟨w.heap.size, 0, none⟩ = some (.slice A n c) := Z.cell 0
  have d1 : w2.cell? ⟨w.heap.size, 1, none⟩ = some (.int .i64 s) := Z.cell 1
  refine bodyPost_ret (v := .agg #[.slice A n c, .int .i64 s]) (by simp [results, Try.results57, go_sem, d0, d1]) rfl ?_
  exact ⟨rfl, hB⟩
set_option maxRecDepth 100000 in
set_option maxHeartbeats 4000000 in
theorem lCode_any (hg most low : Int) (w : World) : Calls Try.prog 56 #[.int .i64 hg, .int .i64 most, .int .i64 low] w fun e w' => ∃ V, e = .returned (.agg #[V]) ∧ LitCode w' V hg most low ∧ Below w.heap.size w w' := by
  go_enter Try.func56, Try.ntmps56
  go_wp2_with fail
  have X0 := (Box.new w [.slice none 0 0] 63).alloc (.cells #[.int .i64 0, .int .i64 5, .int .i64 hg] 106)
  have X1 := Box.newAt (w := w.alloc (.cells #[.slice none 0 0] 63)) (n := w.heap.size + 1) [.int .i64 0, .int .i64 5, .int .i64 hg] 106 (by simp)
  have hB := ((Below.refl w.heap.size w).alloc (Nat.le_refl _) (.cells #[.slice none 0 0] 63)).alloc (by simp) (.cells #[.int .i64 0, .int .i64 5, .int .i64 hg] 106)
  generalize (w.alloc (.cells #[.slice none 0 0] 63)).alloc (.cells #[.int .i64 0, .int .i64 5, .int .i64 hg] 106) = wa at X0 X1 hB ⊢
  refine (lLine_any most (some ⟨w.heap.size + 1, 0, none⟩) 1 1 wa).mono ?_
  rintro e w1 ⟨rfl, hb⟩
  have X0 := X0.later hb
  have X1 := X1.later hb
  have hB := hB.trans (hb.mono hB.size)
  clear hb
  go_wp2_with fail
  have hC : w.heap.size < w1.heap.size := X0.lt
  have X0 := X0.alloc (.cells #[.int .i64 0, .int .i64 1, .int .i64 low] 106)
  have X1 := X1.alloc (.cells #[.int .i64 0, .int .i64 1, .int .i64 low] 106)
  have X2 := Box.new w1 [.int .i64 0, .int .i64 1, .int .i64 low] 106
  have hB := hB.alloc hB.size (.cells #[.int .i64 0, .int .i64 1, .int .i64 low] 106)
  generalize w1.alloc (.cells #[.int .i64 0, .int .i64 1, .int .i64 low] 106) = wb at X0 X1 X2 hB ⊢
  generalize w1.heap.size = C2 at X2 hC ⊢
  refine (lLine_any 0 (some ⟨C2, 0, none⟩) 1 1 wb).mono ?_
  rintro e w2 ⟨rfl, hb⟩
  have X0 := X0.later hb
  have X1 := X1.later hb
  have X2 := X2.later hb
  have hB := hB.trans (hb.mono hB.size)
  clear hb
  go_wp2_with fail
  refine (lLine_any 1 none 0 0 w2).mono ?_
  rintro e w3 ⟨rfl, hb⟩
  have X0 := X0.later hb
  have X1 := X1.later hb
  have X2 := X2.later hb
  have hB := hB.trans (hb.mono hB.size)
  clear hb
  have X0c0 : w3.cell? ⟨w.heap.size, 0, none⟩ = some (.slice none 0 0) := X0.cell 0
  have X0f0 : w3.frozen? ⟨w.heap.size, 0, none⟩ = false := X0.free 0
  have X0z : w.heap.size < w3.heap.size := X0.lt
  go_wp2
  have hC2 : w.heap.size < C2 := hC
  have XL := Box.newAt (w := w3.setCell ⟨w.heap.size, 0, none⟩ (.slice (some ⟨w3.heap.size, 0, none⟩) 3 3)) (n := w3.heap.size) [.slice (some ⟨w.heap.size + 1, 0, none⟩) 1 1, .int .i64 most, .slice (some ⟨C2, 0, none⟩) 1 1, .int .i64 0, .slice none 0 0, .int .i64 1] 104 (by simp)
  have Z := (X0.set 0 (.slice (some ⟨w3.heap.size, 0, none⟩) 3 3)).alloc (.cells #[.slice (some ⟨w.heap.size + 1, 0, none⟩) 1 1, .int .i64 most, .slice (some ⟨C2, 0, none⟩) 1 1, .int .i64 0, .slice none 0 0, .int .i64 1] 104)
  have X1 := (X1.other (a := ⟨w.heap.size, 0, none⟩) (by dsimp only; omega) (.slice (some ⟨w3.heap.size, 0, none⟩) 3 3)).alloc (.cells #[.slice (some ⟨w.heap.size + 1, 0, none⟩) 1 1, .int .i64 most, .slice (some ⟨C2, 0, none⟩) 1 1, .int .i64 0, .slice none 0 0, .int .i64 1] 104)
  have X2 := (X2.other (a := ⟨w.heap.size, 0, none⟩) (by dsimp only; omega) (.slice (some ⟨w3.heap.size, 0, none⟩) 3 3)).alloc (.cells #[.slice (some ⟨w.heap.size + 1, 0, none⟩) 1 1, .int .i64 most, .slice (some ⟨C2, 0, none⟩) 1 1, .int .i64 0, .slice none 0 0, .int .i64 1] 104)
  have hB := (hB.setCell (p := ⟨w.heap.size, 0, none⟩) (Nat.le_refl _) (.slice (some ⟨w3.heap.size, 0, none⟩) 3 3)).alloc (by simpa using hB.size) (.cells #[.slice (some ⟨w.heap.size + 1, 0, none⟩) 1 1, .int .i64 most, .slice (some ⟨C2, 0, none⟩) 1 1, .int .i64 0, .slice none 0 0, .int .i64 1] 104)
  generalize (w3.setCell ⟨w.heap.size, 0, none⟩ (.slice (some ⟨w3.heap.size, 0, none⟩) 3 3)).alloc (.cells #[.slice (some ⟨w.heap.size + 1, 0, none⟩) 1 1, .int .i64 most, .slice (some ⟨C2, 0, none⟩) 1 1, .int .i64 0, .slice none 0 0, .int .i64 1] 104) = wz at XL Z X1 X2 hB ⊢
  have d0 : wz.cell? ⟨w.heap.size, 0, none⟩ = some (.slice (some ⟨w3.heap.size, 0, none⟩) 3 3) := Z.cell 0
  refine bodyPost_ret (v := .agg #[.slice (some ⟨w3.heap.size, 0, none⟩) 3 3]) (by simp [results, Try.results56, go_sem, d0]) rfl ?_
  exact ⟨_, rfl, ⟨w3.heap.size, w.heap.size + 1, C2, rfl, XL, X1, X2⟩, hB⟩
set_option maxRecDepth 100000 in
set_option maxHeartbeats 4000000 in
theorem lBar_any (p : Pl) (hb0 : -1000000 ≤ p.siphon ∧ p.siphon ≤ 1000000) (w : World) : Calls Try.prog 58 #[p.v] w fun e w' => ∃ V, e = .returned V ∧ LitBar w' V p.bank p.siphon ∧ Below w.heap.size w w' := by
  have hw : wrap64 (-p.siphon) = -p.siphon := by unfold wrap64; omega
  go_enter Try.func58, Try.ntmps58
  go_upto_region 1 with fail
  have X1 := Box.new w [.int .i64 p.top, .int .i64 p.bank, .int .i64 p.siphon, .int .i64 p.start, .int .i64 p.positions, .int .i64 p.rate, .int .i64 p.step, .int .i64 p.pass, .int .i64 p.feed, .int .i64 p.pipe, .int .i64 p.orders, .int .i64 p.age] 55
  have hB := (Below.refl w.heap.size w).alloc (Nat.le_refl _) (.cells #[.int .i64 p.top, .int .i64 p.bank, .int .i64 p.siphon, .int .i64 p.start, .int .i64 p.positions, .int .i64 p.rate, .int .i64 p.step, .int .i64 p.pass, .int .i64 p.feed, .int .i64 p.pipe, .int .i64 p.orders, .int .i64 p.age] 55)
  generalize w.alloc (.cells #[.int .i64 p.top, .int .i64 p.bank, .int .i64 p.siphon, .int .i64 p.start, .int .i64 p.positions, .int .i64 p.rate, .int .i64 p.step, .int .i64 p.pass, .int .i64 p.feed, .int .i64 p.pipe, .int .i64 p.orders, .int .i64 p.age] 55) = w1 at X1 hB ⊢
  have x1 : w1.cell? ⟨w.heap.size, 1, none⟩ = some (.int .i64 p.bank) := X1.cell 1
  have x2 : w1.cell? ⟨w.heap.size, 2, none⟩ = some (.int .i64 p.siphon) := X1.cell 2
  have z1 := X1.lt
  go_wp2
  go_ret
  exact ⟨_, rfl, ⟨_, rfl, Box.new w1 _ 114⟩, hB.alloc hB.size _⟩
end Go.Proofs.Ytcjcjkomcolgeaa

/-
  The example of the law's file of chapter 35. (Printed by pp.py.) No condition.
-/
namespace Go.Proofs.Ytcjcjkomcolgeaa
open Go.RowKit

def dstsB (l : List Oper) (z d : Nat) : Bool := (List.range z).all fun i => match l.toArray[i]? with | some o => decide (o.dst = some (i + d)) && decide (o.guard = none) | none => false
theorem dsts_of {l : List Oper} {z d : Nat} (h : dstsB l z d = true) : ∀ i, i < z → ∃ o, l.toArray[i]? = some o ∧ o.dst = some (i + d) ∧ o.guard = none := by
  intro i hi
  have h1 := List.all_eq_true.1 h i (List.mem_range.2 hi)
  cases ho : l.toArray[i]? with
  | none => rw [ho] at h1; cases h1
  | some o =>
    rw [ho] at h1
    simp only [Bool.and_eq_true, decide_eq_true_eq] at h1
    exact ⟨o, rfl, h1.1, h1.2⟩
theorem wp_value {P : Program} {o : Oper} {a : Act} {w w' : World} {v : Value} {K : Act → World → Prop} {Q : Exit → Act → World → Prop} (hr : (execOp a.eval o).run P w = .ok (.value v) w') (h : K (a.put o.dst v) w') : Oper.wp P o a w K Q := by
  unfold Oper.wp
  rw [hr]
  exact h
theorem wp_enter {P : Program} {o : Oper} {a : Act} {w : World} {f : FuncId} {args : Array Value} {K : Act → World → Prop} {Q : Exit → Act → World → Prop} (hr : (execOp a.eval o).run P w = .ok (.enter f args) w) (h : Calls P f args w fun e w' => ∃ v, e = .returned v ∧ K (a.put o.dst v) w') : Oper.wp P o a w K Q := by
  unfold Oper.wp
  rw [hr]
  exact Calls.mono h fun e w' ⟨v, he, hk⟩ => by subst he; exact hk
def GoodL (ys : List Value) : Prop := ys.length ≠ 3 ∨ ∃ n l, ys = .int .i64 n :: l
section
variable {w w' : World} {v : Value} (hk : ∀ c ys, GoodL ys → Box w c ys → Box w' c ys)
include hk
theorem LitPls.keep {b : Nat} {p q : Pl} (h : LitPls w b v p q) : LitPls w' b v p q := ⟨h.1, hk _ _ (.inl (by simp)) h.2⟩
theorem LitCode.keep {hg most low : Int} (h : LitCode w v hg most low) : LitCode w' v hg most low := by
  obtain ⟨bl, c1, c2, hv, h1, h2, h3⟩ := h
  exact ⟨bl, c1, c2, hv, hk _ _ (.inl (by simp)) h1, hk _ _ (.inr ⟨_, _, rfl⟩) h2, hk _ _ (.inr ⟨_, _, rfl⟩) h3⟩
theorem LitCodes.keep (h : LitCodes w v) : LitCodes w' v := by
  obtain ⟨b, V1, V2, hv, h1, h2, h3⟩ := h
  exact ⟨b, V1, V2, hv, hk _ _ (.inl (by simp)) h1, h2.keep hk, h3.keep hk⟩
theorem LitBar.keep {bank siphon : Int} (h : LitBar w v bank siphon) : LitBar w' v bank siphon := by
  obtain ⟨b, hv, h1⟩ := h
  exact ⟨b, hv, hk _ _ (.inl (by simp)) h1⟩
theorem LitBars.keep (h : LitBars w v) : LitBars w' v := by
  obtain ⟨b, V1, V2, hv, h1, h2, h3⟩ := h
  exact ⟨b, V1, V2, hv, hk _ _ (.inl (by simp)) h1, h2.keep hk, h3.keep hk⟩
end
theorem gd {a : Act} {k : Nat} {v : Value} (h : a.tmps.getD k undef = v) : a.tmps[k]?.getD undef = v := by rw [← h, Array.getD_eq_getD_getElem?]
theorem wpOp_store {P : Program} {ops : Array Oper} {Q : Exit → Act → World → Prop} {i : Nat} {o : Oper} {a : Act} {w w' : World} {K : Act → World → Prop} (ho : ops[i]? = some o) (hg : o.guard = none) (hd : o.dst = none) (hr : (execOp a.eval o).run P w = .ok .skip w') (h : K a w') : wpOp P ops Q i K a w := by
  unfold wpOp
  have hw : Region.wanted o (yielded ops a.tmps) = true := by unfold Region.wanted; rw [hg]
  simp only [ho, hw, if_true]
  refine .inl ?_
  unfold Oper.wp
  rw [hr]
  show K (a.put o.dst undef) w'
  rw [hd]
  exact h
def smT (B0 : Nat) : Nat → Nat → Nat → Value → World → Prop
  | 0, _, _, v, _ => v = (upP 3).v
  | 1, _, _, v, _ => v = (downP 2).v
  | 2, lo, _, v, w => ∃ b, lo ≤ b ∧ LitPls w b v (upP 3) (downP 2)
  | 3, _, _, v, _ => v = .func (.func 56) #[] #[]
  | 4, _, _, v, w => ∃ V, v = .agg #[V] ∧ LitCode w V 5 2 3
  | 5, _, _, v, _ => v = .func (.func 56) #[] #[]
  | 6, _, _, v, w => ∃ V, v = .agg #[V] ∧ LitCode w V 7 3 5
  | 7, _, _, v, w => LitCodes w v
  | 8, _, _, v, _ => v = .func (.func 58) #[] #[]
  | 9, _, _, v, _ => v = (upP 3).v
  | 10, _, _, v, w => LitBar w v 7 1
  | 11, _, _, v, _ => v = .func (.func 58) #[] #[]
  | 12, _, _, v, _ => v = (downP 2).v
  | 13, _, _, v, w => LitBar w v 9 2
  | 14, _, _, v, w => LitBars w v
  | _, _, _, v, w => ∃ b Vp Vc Vb, v = .agg #[Vp, Vc, Vb] ∧ B0 ≤ b ∧ LitPls w b Vp (upP 3) (downP 2) ∧ LitCodes w Vc ∧ LitBars w Vb
theorem smT_later {B0 : Nat} : ∀ (i lo hi : Nat) (v : Value) (w w' : World), smT B0 i lo hi v w → hi ≤ w.heap.size → Below w.heap.size w w' → smT B0 i lo hi v w'
  | 0, _, _, _, _, _, h, _, _ | 1, _, _, _, _, _, h, _, _ | 3, _, _, _, _, _, h, _, _ | 5, _, _, _, _, _, h, _, _ | 8, _, _, _, _, _, h, _, _ | 9, _, _, _, _, _, h, _, _ | 11, _, _, _, _, _, h, _, _ | 12, _, _, _, _, _, h, _, _ => h
  | 2, _, _, _, _, _, ⟨b, h1, h2⟩, _, hb => ⟨b, h1, h2.later hb⟩
  | 4, _, _, _, _, _, ⟨V, h1, h2⟩, _, hb => ⟨V, h1, h2.later hb⟩
  | 6, _, _, _, _, _, ⟨V, h1, h2⟩, _, hb => ⟨V, h1, h2.later hb⟩
  | 7, _, _, _, _, _, h, _, hb => LitCodes.later h hb
  | 10, _, _, _, _, _, h, _, hb => LitBar.later h hb
  | 13, _, _, _, _, _, h, _, hb => LitBar.later h hb
  | 14, _, _, _, _, _, h, _, hb => LitBars.later h hb
  | _ + 15, _, _, _, _, _, ⟨b, Vp, Vc, Vb, h1, h2, h3, h4, h5⟩, _, hb => ⟨b, Vp, Vc, Vb, h1, h2, h3.later hb, h4.later hb, h5.later hb⟩
set_option maxRecDepth 100000 in
set_option maxHeartbeats 4000000 in
theorem lSmall_any (w : World) : Calls Try.prog 26 #[] w fun e w' => ∃ b Vp Vc Vb, e = .returned (.agg #[Vp, Vc, Vb]) ∧ w.heap.size ≤ b ∧ LitPls w' b Vp (upP 3) (downP 2) ∧ LitCodes w' Vc ∧ LitBars w' Vb ∧ Below w.heap.size w w' := by
  go_enter Try.func26, Try.ntmps26
  go_upto_region 5 with fail
  have XR := ((Box.new w [.slice none 0 0, .slice none 0 0, .slice none 0 0] 26).alloc (.cells #[.int .i64 9, .int .i64 7, .int .i64 1, .int .i64 3, .int .i64 2, .int .i64 1, .int .i64 2, .int .i64 2, .int .i64 2, .int .i64 0, .int .i64 0, .int .i64 0] 55)).alloc (.cells #[.int .i64 12, .int .i64 9, .int .i64 2, .int .i64 5, .int .i64 3, .int .i64 1, .int .i64 3, .int .i64 3, .int .i64 2, .int .i64 0, .int .i64 1, .int .i64 0] 55)
  have XU := (Box.newAt (w := w.alloc (.cells #[.slice none 0 0, .slice none 0 0, .slice none 0 0] 26)) (n := w.heap.size + 1) [.int .i64 9, .int .i64 7, .int .i64 1, .int .i64 3, .int .i64 2, .int .i64 1, .int .i64 2, .int .i64 2, .int .i64 2, .int .i64 0, .int .i64 0, .int .i64 0] 55 (by simp)).alloc (.cells #[.int .i64 12, .int .i64 9, .int .i64 2, .int .i64 5, .int .i64 3, .int .i64 1, .int .i64 3, .int .i64 3, .int .i64 2, .int .i64 0, .int .i64 1, .int .i64 0] 55)
  have XD := Box.newAt (w := (w.alloc (.cells #[.slice none 0 0, .slice none 0 0, .slice none 0 0] 26)).alloc (.cells #[.int .i64 9, .int .i64 7, .int .i64 1, .int .i64 3, .int .i64 2, .int .i64 1, .int .i64 2, .int .i64 2, .int .i64 2, .int .i64 0, .int .i64 0, .int .i64 0] 55)) (n := w.heap.size + 1 + 1) [.int .i64 12, .int .i64 9, .int .i64 2, .int .i64 5, .int .i64 3, .int .i64 1, .int .i64 3, .int .i64 3, .int .i64 2, .int .i64 0, .int .i64 1, .int .i64 0] 55 (by simp)
  have hB := (((Below.refl w.heap.size w).alloc (Nat.le_refl _) (.cells #[.slice none 0 0, .slice none 0 0, .slice none 0 0] 26)).alloc (by simp) (.cells #[.int .i64 9, .int .i64 7, .int .i64 1, .int .i64 3, .int .i64 2, .int .i64 1, .int .i64 2, .int .i64 2, .int .i64 2, .int .i64 0, .int .i64 0, .int .i64 0] 55)).alloc (by simp <;> omega) (.cells #[.int .i64 12, .int .i64 9, .int .i64 2, .int .i64 5, .int .i64 3, .int .i64 1, .int .i64 3, .int .i64 3, .int .i64 2, .int .i64 0, .int .i64 1, .int .i64 0] 55)
  generalize ((w.alloc (.cells #[.slice none 0 0, .slice none 0 0, .slice none 0 0] 26)).alloc (.cells #[.int .i64 9, .int .i64 7, .int .i64 1, .int .i64 3, .int .i64 2, .int .i64 1, .int .i64 2, .int .i64 2, .int .i64 2, .int .i64 0, .int .i64 0, .int .i64 0] 55)).alloc (.cells #[.int .i64 12, .int .i64 9, .int .i64 2, .int .i64 5, .int .i64 3, .int .i64 1, .int .i64 3, .int .i64 3, .int .i64 2, .int .i64 0, .int .i64 1, .int .i64 0] 55) = W at XR XU XD hB ⊢
  refine wp_region_own 16 (fun i => i + 7) (smT w.heap.size) (by kernel_rfl) rfl (dsts_of (by kernel_rfl)) (fun i j _ _ h => Nat.add_right_cancel h) (fun i hi => by simp; omega) (by kernel_rfl) (by kernel_rfl) smT_later ?hop ?hlast
  case hop =>
    rintro i o listed a z lo hi hi16 ho hO hall
    have hlow := hO.low
    have XU := XU.drew.later hlow
    have XD := XD.drew.later hlow
    have XUc0 : z.cell? ⟨w.heap.size + 1, 0, none⟩ = some (.int .i64 9) := XU.cell 0
    have XUc1 : z.cell? ⟨w.heap.size + 1, 1, none⟩ = some (.int .i64 7) := XU.cell 1
    have XUc2 : z.cell? ⟨w.heap.size + 1, 2, none⟩ = some (.int .i64 1) := XU.cell 2
    have XUc3 : z.cell? ⟨w.heap.size + 1, 3, none⟩ = some (.int .i64 3) := XU.cell 3
    have XUc4 : z.cell? ⟨w.heap.size + 1, 4, none⟩ = some (.int .i64 2) := XU.cell 4
    have XUc5 : z.cell? ⟨w.heap.size + 1, 5, none⟩ = some (.int .i64 1) := XU.cell 5
    have XUc6 : z.cell? ⟨w.heap.size + 1, 6, none⟩ = some (.int .i64 2) := XU.cell 6
    have XUc7 : z.cell? ⟨w.heap.size + 1, 7, none⟩ = some (.int .i64 2) := XU.cell 7
    have XUc8 : z.cell? ⟨w.heap.size + 1, 8, none⟩ = some (.int .i64 2) := XU.cell 8
    have XUc9 : z.cell? ⟨w.heap.size + 1, 9, none⟩ = some (.int .i64 0) := XU.cell 9
    have XUc10 : z.cell? ⟨w.heap.size + 1, 10, none⟩ = some (.int .i64 0) := XU.cell 10
    have XUc11 : z.cell? ⟨w.heap.size + 1, 11, none⟩ = some (.int .i64 0) := XU.cell 11
    have XDc0 : z.cell? ⟨w.heap.size + 1 + 1, 0, none⟩ = some (.int .i64 12) := XD.cell 0
    have XDc1 : z.cell? ⟨w.heap.size + 1 + 1, 1, none⟩ = some (.int .i64 9) := XD.cell 1
    have XDc2 : z.cell? ⟨w.heap.size + 1 + 1, 2, none⟩ = some (.int .i64 2) := XD.cell 2
    have XDc3 : z.cell? ⟨w.heap.size + 1 + 1, 3, none⟩ = some (.int .i64 5) := XD.cell 3
    have XDc4 : z.cell? ⟨w.heap.size + 1 + 1, 4, none⟩ = some (.int .i64 3) := XD.cell 4
    have XDc5 : z.cell? ⟨w.heap.size + 1 + 1, 5, none⟩ = some (.int .i64 1) := XD.cell 5
    have XDc6 : z.cell? ⟨w.heap.size + 1 + 1, 6, none⟩ = some (.int .i64 3) := XD.cell 6
    have XDc7 : z.cell? ⟨w.heap.size + 1 + 1, 7, none⟩ = some (.int .i64 3) := XD.cell 7
    have XDc8 : z.cell? ⟨w.heap.size + 1 + 1, 8, none⟩ = some (.int .i64 2) := XD.cell 8
    have XDc9 : z.cell? ⟨w.heap.size + 1 + 1, 9, none⟩ = some (.int .i64 0) := XD.cell 9
    have XDc10 : z.cell? ⟨w.heap.size + 1 + 1, 10, none⟩ = some (.int .i64 1) := XD.cell 10
    have XDc11 : z.cell? ⟨w.heap.size + 1 + 1, 11, none⟩ = some (.int .i64 0) := XD.cell 11
    have zu := XU.lt
    have zd := XD.lt
    have s1 : a.tmps.getD 1 undef = .pointer (some ⟨w.heap.size + 1, 0, none⟩) := hO.old 1 (fun j _ _ e => by omega)
    have s2 : a.tmps.getD 2 undef = .pointer (some ⟨w.heap.size + 1 + 1, 0, none⟩) := hO.old 2 (fun j _ _ e => by omega)
    have s3 : a.tmps.getD 3 undef = .func (.func 56) #[] #[] := hO.old 3 (fun j _ _ e => by omega)
    have s4 : a.tmps.getD 4 undef = .func (.func 58) #[] #[] := hO.old 4 (fun j _ _ e => by omega)
    have hsz : w.heap.size ≤ W.drew.heap.size := hB.size
    clear XU XD
    rcases i with _ | _ | _ | _ | _ | _ | _ | _ | _ | _ | _ | _ | _ | _ | _ | _ | i
    · simp only [List.getElem?_toArray, List.getElem?_cons_succ, List.getElem?_cons_zero, Option.some.injEq] at ho
      subst ho
      refine wp_value (v := .agg #[.int .i64 9, .int .i64 7, .int .i64 1, .int .i64 3, .int .i64 2, .int .i64 1, .int .i64 2, .int .i64 2, .int .i64 2, .int .i64 0, .int .i64 0, .int .i64 0]) (w' := z) ?_ ⟨_, rfl, Below.refl _ _, rfl⟩
      simp only [execOp, Act.eval, s1]
      go_simp
    · simp only [List.getElem?_toArray, List.getElem?_cons_succ, List.getElem?_cons_zero, Option.some.injEq] at ho
      subst ho
      refine wp_value (v := .agg #[.int .i64 12, .int .i64 9, .int .i64 2, .int .i64 5, .int .i64 3, .int .i64 1, .int .i64 3, .int .i64 3, .int .i64 2, .int .i64 0, .int .i64 1, .int .i64 0]) (w' := z) ?_ ⟨_, rfl, Below.refl _ _, rfl⟩
      simp only [execOp, Act.eval, s2]
      go_simp
    · simp only [List.getElem?_toArray, List.getElem?_cons_succ, List.getElem?_cons_zero, Option.some.injEq] at ho
      subst ho
      have d0 : listed.getD 0 false = true := hall ⟨0, .data⟩ (by simp) rfl
      have e0 : smT w.heap.size 0 _ _ (a.tmps.getD 7 undef) z := (hO.has 0 (by omega) d0).2.2.2
      dsimp only [smT] at e0
      have d1 : listed.getD 1 false = true := hall ⟨1, .data⟩ (by simp) rfl
      have e1 : smT w.heap.size 1 _ _ (a.tmps.getD 8 undef) z := (hO.has 1 (by omega) d1).2.2.2
      dsimp only [smT] at e1
      refine wp_value (v := .slice (some ⟨z.heap.size, 0, none⟩) 2 2) (w' := z.alloc (.cells #[.int .i64 9, .int .i64 7, .int .i64 1, .int .i64 3, .int .i64 2, .int .i64 1, .int .i64 2, .int .i64 2, .int .i64 2, .int .i64 0, .int .i64 0, .int .i64 0, .int .i64 12, .int .i64 9, .int .i64 2, .int .i64 5, .int .i64 3, .int .i64 1, .int .i64 3, .int .i64 3, .int .i64 2, .int .i64 0, .int .i64 1, .int .i64 0] 55)) ?_ ⟨_, rfl, (Below.refl _ _).alloc (Nat.le_refl _) _, z.heap.size, Nat.le_refl _, rfl, Box.new z _ _⟩
      have f0 := gd e0
      have f1 := gd e1
      dsimp only [upP, downP] at f0 f1
      simp only [execOp, Act.eval]
      go_simp
    · simp only [List.getElem?_toArray, List.getElem?_cons_succ, List.getElem?_cons_zero, Option.some.injEq] at ho
      subst ho
      refine wp_value (v := .func (.func 56) #[] #[]) (w' := z) ?_ ⟨_, rfl, Below.refl _ _, rfl⟩
      simp only [execOp, Act.eval]
      rw [s3]
      go_simp
    · simp only [List.getElem?_toArray, List.getElem?_cons_succ, List.getElem?_cons_zero, Option.some.injEq] at ho
      subst ho
      have d3 : listed.getD 3 false = true := hall ⟨3, .data⟩ (by simp) rfl
      have e3 : smT w.heap.size 3 _ _ (a.tmps.getD 10 undef) z := (hO.has 3 (by omega) d3).2.2.2
      dsimp only [smT] at e3
      refine wp_enter (f := 56) (args := #[.int .i64 5, .int .i64 2, .int .i64 3]) ?_ ((lCode_any 5 2 3 z).mono ?_)
      · have f1 := gd e3
        simp only [execOp, resolve, Act.eval]
        go_simp
      rintro e z2 ⟨V, rfl, hV, hb⟩
      exact ⟨_, rfl, _, rfl, hb, V, rfl, hV⟩
    · simp only [List.getElem?_toArray, List.getElem?_cons_succ, List.getElem?_cons_zero, Option.some.injEq] at ho
      subst ho
      refine wp_value (v := .func (.func 56) #[] #[]) (w' := z) ?_ ⟨_, rfl, Below.refl _ _, rfl⟩
      simp only [execOp, Act.eval]
      rw [s3]
      go_simp
    · simp only [List.getElem?_toArray, List.getElem?_cons_succ, List.getElem?_cons_zero, Option.some.injEq] at ho
      subst ho
      have d5 : listed.getD 5 false = true := hall ⟨5, .data⟩ (by simp) rfl
      have e5 : smT w.heap.size 5 _ _ (a.tmps.getD 12 undef) z := (hO.has 5 (by omega) d5).2.2.2
      dsimp only [smT] at e5
      refine wp_enter (f := 56) (args := #[.int .i64 7, .int .i64 3, .int .i64 5]) ?_ ((lCode_any 7 3 5 z).mono ?_)
      · have f1 := gd e5
        simp only [execOp, resolve, Act.eval]
        go_simp
      rintro e z2 ⟨V, rfl, hV, hb⟩
      exact ⟨_, rfl, _, rfl, hb, V, rfl, hV⟩
    · simp only [List.getElem?_toArray, List.getElem?_cons_succ, List.getElem?_cons_zero, Option.some.injEq] at ho
      subst ho
      have d4 : listed.getD 4 false = true := hall ⟨4, .data⟩ (by simp) rfl
      have e4 : smT w.heap.size 4 _ _ (a.tmps.getD 11 undef) z := (hO.has 4 (by omega) d4).2.2.2
      dsimp only [smT] at e4
      have d6 : listed.getD 6 false = true := hall ⟨6, .data⟩ (by simp) rfl
      have e6 : smT w.heap.size 6 _ _ (a.tmps.getD 13 undef) z := (hO.has 6 (by omega) d6).2.2.2
      dsimp only [smT] at e6
      obtain ⟨V1, e4, k4⟩ := e4
      obtain ⟨V2, e6, k6⟩ := e6
      have ⟨b1, _, _, hv1, _⟩ := k4
      have ⟨b2, _, _, hv2, _⟩ := k6
      subst hv1
      subst hv2
      refine wp_value (v := .slice (some ⟨z.heap.size, 0, none⟩) 2 2) (w' := z.alloc (.cells #[.slice (some ⟨b1, 0, none⟩) 3 3, .slice (some ⟨b2, 0, none⟩) 3 3] 63)) ?_ ⟨_, rfl, (Below.refl _ _).alloc (Nat.le_refl _) _, z.heap.size, _, _, rfl, Box.new z _ _, k4.later ((Below.refl _ _).alloc (Nat.le_refl _) _), k6.later ((Below.refl _ _).alloc (Nat.le_refl _) _)⟩
      have f4 := gd e4
      have f6 := gd e6
      simp only [execOp, Act.eval]
      go_simp
    · simp only [List.getElem?_toArray, List.getElem?_cons_succ, List.getElem?_cons_zero, Option.some.injEq] at ho
      subst ho
      refine wp_value (v := .func (.func 58) #[] #[]) (w' := z) ?_ ⟨_, rfl, Below.refl _ _, rfl⟩
      simp only [execOp, Act.eval]
      rw [s4]
      go_simp
    · simp only [List.getElem?_toArray, List.getElem?_cons_succ, List.getElem?_cons_zero, Option.some.injEq] at ho
      subst ho
      refine wp_value (v := .agg #[.int .i64 9, .int .i64 7, .int .i64 1, .int .i64 3, .int .i64 2, .int .i64 1, .int .i64 2, .int .i64 2, .int .i64 2, .int .i64 0, .int .i64 0, .int .i64 0]) (w' := z) ?_ ⟨_, rfl, Below.refl _ _, rfl⟩
      simp only [execOp, Act.eval, s1]
      go_simp
    · simp only [List.getElem?_toArray, List.getElem?_cons_succ, List.getElem?_cons_zero, Option.some.injEq] at ho
      subst ho
      have d8 : listed.getD 8 false = true := hall ⟨8, .data⟩ (by simp) rfl
      have e8 : smT w.heap.size 8 _ _ (a.tmps.getD 15 undef) z := (hO.has 8 (by omega) d8).2.2.2
      dsimp only [smT] at e8
      have d9 : listed.getD 9 false = true := hall ⟨9, .data⟩ (by simp) rfl
      have e9 : smT w.heap.size 9 _ _ (a.tmps.getD 16 undef) z := (hO.has 9 (by omega) d9).2.2.2
      dsimp only [smT] at e9
      refine wp_enter (f := 58) (args := #[(upP 3).v]) ?_ ((lBar_any (upP 3) (by decide) z).mono ?_)
      · have f1 := gd e8
        have f2 := gd e9
        dsimp only [upP, downP] at f2
        simp only [execOp, resolve, Act.eval]
        go_simp
        decide
      rintro e z2 ⟨V, rfl, hV, hb⟩
      exact ⟨_, rfl, _, rfl, hb, hV⟩
    · simp only [List.getElem?_toArray, List.getElem?_cons_succ, List.getElem?_cons_zero, Option.some.injEq] at ho
      subst ho
      refine wp_value (v := .func (.func 58) #[] #[]) (w' := z) ?_ ⟨_, rfl, Below.refl _ _, rfl⟩
      simp only [execOp, Act.eval]
      rw [s4]
      go_simp
    · simp only [List.getElem?_toArray, List.getElem?_cons_succ, List.getElem?_cons_zero, Option.some.injEq] at ho
      subst ho
      refine wp_value (v := .agg #[.int .i64 12, .int .i64 9, .int .i64 2, .int .i64 5, .int .i64 3, .int .i64 1, .int .i64 3, .int .i64 3, .int .i64 2, .int .i64 0, .int .i64 1, .int .i64 0]) (w' := z) ?_ ⟨_, rfl, Below.refl _ _, rfl⟩
      simp only [execOp, Act.eval, s2]
      go_simp
    · simp only [List.getElem?_toArray, List.getElem?_cons_succ, List.getElem?_cons_zero, Option.some.injEq] at ho
      subst ho
      have d11 : listed.getD 11 false = true := hall ⟨11, .data⟩ (by simp) rfl
      have e11 : smT w.heap.size 11 _ _ (a.tmps.getD 18 undef) z := (hO.has 11 (by omega) d11).2.2.2
      dsimp only [smT] at e11
      have d12 : listed.getD 12 false = true := hall ⟨12, .data⟩ (by simp) rfl
      have e12 : smT w.heap.size 12 _ _ (a.tmps.getD 19 undef) z := (hO.has 12 (by omega) d12).2.2.2
      dsimp only [smT] at e12
      refine wp_enter (f := 58) (args := #[(downP 2).v]) ?_ ((lBar_any (downP 2) (by decide) z).mono ?_)
      · have f1 := gd e11
        have f2 := gd e12
        dsimp only [upP, downP] at f2
        simp only [execOp, resolve, Act.eval]
        go_simp
        decide
      rintro e z2 ⟨V, rfl, hV, hb⟩
      exact ⟨_, rfl, _, rfl, hb, hV⟩
    · simp only [List.getElem?_toArray, List.getElem?_cons_succ, List.getElem?_cons_zero, Option.some.injEq] at ho
      subst ho
      have d10 : listed.getD 10 false = true := hall ⟨10, .data⟩ (by simp) rfl
      have e10 : smT w.heap.size 10 _ _ (a.tmps.getD 17 undef) z := (hO.has 10 (by omega) d10).2.2.2
      dsimp only [smT] at e10
      have d13 : listed.getD 13 false = true := hall ⟨13, .data⟩ (by simp) rfl
      have e13 : smT w.heap.size 13 _ _ (a.tmps.getD 20 undef) z := (hO.has 13 (by omega) d13).2.2.2
      dsimp only [smT] at e13
      have ⟨b1, hv1, _⟩ := e10
      have ⟨b2, hv2, _⟩ := e13
      rw [hv1] at e10
      rw [hv2] at e13
      refine wp_value (v := .slice (some ⟨z.heap.size, 0, none⟩) 2 2) (w' := z.alloc (.cells #[.slice (some ⟨b1, 0, none⟩) 2 2, .slice (some ⟨b2, 0, none⟩) 2 2] 57)) ?_ ⟨_, rfl, (Below.refl _ _).alloc (Nat.le_refl _) _, z.heap.size, _, _, rfl, Box.new z _ _, LitBar.later e10 ((Below.refl _ _).alloc (Nat.le_refl _) _), LitBar.later e13 ((Below.refl _ _).alloc (Nat.le_refl _) _)⟩
      have f1 := gd hv1
      have f2 := gd hv2
      simp only [execOp, Act.eval]
      go_simp
    · simp only [List.getElem?_toArray, List.getElem?_cons_succ, List.getElem?_cons_zero, Option.some.injEq] at ho
      subst ho
      have d2 : listed.getD 2 false = true := hall ⟨2, .data⟩ (by simp) rfl
      have e2 : smT w.heap.size 2 _ _ (a.tmps.getD 9 undef) z := (hO.has 2 (by omega) d2).2.2.2
      dsimp only [smT] at e2
      have d7 : listed.getD 7 false = true := hall ⟨7, .data⟩ (by simp) rfl
      have e7 : smT w.heap.size 7 _ _ (a.tmps.getD 14 undef) z := (hO.has 7 (by omega) d7).2.2.2
      dsimp only [smT] at e7
      have d14 : listed.getD 14 false = true := hall ⟨14, .data⟩ (by simp) rfl
      have e14 : smT w.heap.size 14 _ _ (a.tmps.getD 21 undef) z := (hO.has 14 (by omega) d14).2.2.2
      dsimp only [smT] at e14
      have hlo := (hO.has 2 (by omega) d2).1
      obtain ⟨b, hb, k2⟩ := e2
      have hvp := k2.1
      have ⟨bc, _, _, hvc, _⟩ := e7
      have ⟨bb, _, _, hvb, _⟩ := e14
      rw [hvp] at k2
      rw [hvc] at e7
      rw [hvb] at e14
      refine wp_value (v := .agg #[.slice (some ⟨b, 0, none⟩) 2 2, .slice (some ⟨bc, 0, none⟩) 2 2, .slice (some ⟨bb, 0, none⟩) 2 2]) (w' := z) ?_ ⟨_, rfl, Below.refl _ _, b, _, _, _, rfl, by omega, k2, e7, e14⟩
      have f1 := gd hvp
      have f2 := gd hvc
      have f3 := gd hvb
      simp only [execOp, Act.eval]
      go_simp
    · omega
  case hlast =>
    rintro o listed a z lo hi ho hO hall
    have ho2 := ho
    simp only [List.getElem?_toArray, List.getElem?_cons_succ, List.getElem?_cons_zero, Option.some.injEq] at ho
    subst ho
    have e15 : smT w.heap.size 15 _ _ (a.tmps.getD 22 undef) z := (hO.has 15 (by omega) (hall 15 (by omega))).2.2.2
    obtain ⟨b, Vp, Vc, Vb, e15, hbz, k1, k2, k3⟩ := e15
    have s0 : a.tmps.getD 0 undef = .pointer (some ⟨w.heap.size, 0, none⟩) := hO.old 0 (fun j _ _ e => by omega)
    have XR := XR.drew.later hO.low
    have XRc0 : z.cell? ⟨w.heap.size, 0, none⟩ = some (.slice none 0 0) := XR.cell 0
    have XRf0 : z.frozen? ⟨w.heap.size, 0, none⟩ = false := XR.free 0
    have XRc1 : z.cell? ⟨w.heap.size, 1, none⟩ = some (.slice none 0 0) := XR.cell 1
    have XRf1 : z.frozen? ⟨w.heap.size, 1, none⟩ = false := XR.free 1
    have XRc2 : z.cell? ⟨w.heap.size, 2, none⟩ = some (.slice none 0 0) := XR.cell 2
    have XRf2 : z.frozen? ⟨w.heap.size, 2, none⟩ = false := XR.free 2
    have XRz : w.heap.size < z.heap.size := XR.lt
    have hvp := k1.1
    have ⟨bc, _, _, hvc, _⟩ := k2
    have ⟨bb, _, _, hvb, _⟩ := k3
    subst hvp
    subst hvc
    subst hvb
    have f0 := gd s0
    have f22 := gd e15
    refine wpOp_store (w' := (((z.setCell ⟨w.heap.size, 0, none⟩ (.slice (some ⟨b, 0, none⟩) 2 2)).setCell ⟨w.heap.size, 1, none⟩ (.slice (some ⟨bc, 0, none⟩) 2 2)).setCell ⟨w.heap.size, 2, none⟩ (.slice (some ⟨bb, 0, none⟩) 2 2))) rfl rfl rfl ?_ ?_
    · simp only [execOp, Act.eval]
      go_simp
    have Z := (((XR.set 0 (.slice (some ⟨b, 0, none⟩) 2 2)).set 1 (.slice (some ⟨bc, 0, none⟩) 2 2)).set 2 (.slice (some ⟨bb, 0, none⟩) 2 2))
    have hW := hB.drew.trans (hO.low.mono hB.drew.size)
    have hB3 := (((hW.setCell (p := ⟨w.heap.size, 0, none⟩) (by simp <;> omega) (.slice (some ⟨b, 0, none⟩) 2 2)).setCell (p := ⟨w.heap.size, 1, none⟩) (by simp <;> omega) (.slice (some ⟨bc, 0, none⟩) 2 2)).setCell (p := ⟨w.heap.size, 2, none⟩) (by simp <;> omega) (.slice (some ⟨bb, 0, none⟩) 2 2))
    have hk : ∀ c ys, GoodL ys → Box z c ys → Box ((((z.setCell ⟨w.heap.size, 0, none⟩ (.slice (some ⟨b, 0, none⟩) 2 2)).setCell ⟨w.heap.size, 1, none⟩ (.slice (some ⟨bc, 0, none⟩) 2 2)).setCell ⟨w.heap.size, 2, none⟩ (.slice (some ⟨bb, 0, none⟩) 2 2))) c ys := by
      intro c ys hg hc
      have hne : c ≠ w.heap.size := by
        rintro rfl
        obtain ⟨t1, h1⟩ := hc
        obtain ⟨t2, h2⟩ := XR
        rw [h1] at h2
        simp only [Option.some.injEq, Obj.cells.injEq, Array.mk.injEq] at h2
        obtain ⟨rfl, -⟩ := h2
        rcases hg with h3 | ⟨n, l, h3⟩
        · exact h3 rfl
        · cases h3
      exact ((hc.other (a := ⟨w.heap.size, 0, none⟩) hne _).other (a := ⟨w.heap.size, 1, none⟩) hne _).other (a := ⟨w.heap.size, 2, none⟩) hne _
    have k1 := k1.keep hk
    have k2 := k2.keep hk
    have k3 := k3.keep hk
    clear hk
    generalize (((z.setCell ⟨w.heap.size, 0, none⟩ (.slice (some ⟨b, 0, none⟩) 2 2)).setCell ⟨w.heap.size, 1, none⟩ (.slice (some ⟨bc, 0, none⟩) 2 2)).setCell ⟨w.heap.size, 2, none⟩ (.slice (some ⟨bb, 0, none⟩) 2 2)) = wz at Z hB3 k1 k2 k3 ⊢
    have Zc0 : wz.cell? ⟨w.heap.size, 0, none⟩ = some (.slice (some ⟨b, 0, none⟩) 2 2) := Z.cell 0
    have Zc1 : wz.cell? ⟨w.heap.size, 1, none⟩ = some (.slice (some ⟨bc, 0, none⟩) 2 2) := Z.cell 1
    have Zc2 : wz.cell? ⟨w.heap.size, 2, none⟩ = some (.slice (some ⟨bb, 0, none⟩) 2 2) := Z.cell 2
    go_wp2
    refine bodyPost_ret (v := .agg #[.slice (some ⟨b, 0, none⟩) 2 2, .slice (some ⟨bc, 0, none⟩) 2 2, .slice (some ⟨bb, 0, none⟩) 2 2]) (by simp [results, Try.results26, go_sem, f0, Zc0, Zc1, Zc2]) hO.defers ?_
    exact ⟨b, _, _, _, rfl, hbz, k1, k2, k3, hB3⟩
end Go.Proofs.Ytcjcjkomcolgeaa
