/- Lose, Repeat, Tick of orders: where the slices of the result lie. (Printed by mkw.py and pp.py.) No condition. -/
import Derived.Test.YtmbifmmkccghfaaQVA
import Derived.Test.YtmbifmmkccghfaaQRL
import Derived.Test.YtmbifmmkccghfaaQRI
set_option linter.unusedVariables false
set_option linter.unusedSimpArgs false
namespace Go.Proofs.Ytmbifmmkccghfaa
open Go.RowKit Go.Shelf
def NwB (B : Nat) (V V' : Value) : Prop := V' = V ∨ V' = .slice none 0 0 ∨ ∃ b o n c, V' = .slice (some ⟨b, o, none⟩) n c ∧ B ≤ b
theorem NwV.b {V V' : Value} (h : NwV V V') (B : Nat) : NwB B V V' := h.elim .inl fun h => .inr (.inl h)
theorem NwB.mono {B B' : Nat} {V V' : Value} (h : NwB B' V V') (hB : B ≤ B') : NwB B V V' := by
  rcases h with h | h | ⟨b, o, n, c, h, h2⟩
  · exact .inl h
  · exact .inr (.inl h)
  · exact .inr (.inr ⟨b, o, n, c, h, Nat.le_trans hB h2⟩)
theorem NwB.trans {B : Nat} {V V' V'' : Value} (h : NwB B V V') (h2 : NwB B V' V'') : NwB B V V'' := by
  rcases h2 with rfl | h2 | h2
  · exact h
  · exact .inr (.inl h2)
  · exact .inr (.inr h2)
def Nw3 (B : Nat) (Va Vs Vh Va' Vs' Vh' : Value) : Prop := NwB B Va Va' ∧ NwB B Vs Vs' ∧ NwB B Vh Vh'
theorem Nw3.zero (B : Nat) (Va Vs Vh : Value) : Nw3 B Va Vs Vh (.slice none 0 0) (.slice none 0 0) (.slice none 0 0) := ⟨.inr (.inl rfl), .inr (.inl rfl), .inr (.inl rfl)⟩
theorem Nw3.mono {B B' : Nat} {Va Vs Vh Va' Vs' Vh' : Value} (h : Nw3 B' Va Vs Vh Va' Vs' Vh') (hB : B ≤ B') : Nw3 B Va Vs Vh Va' Vs' Vh' := ⟨h.1.mono hB, h.2.1.mono hB, h.2.2.mono hB⟩
theorem Nw3.trans {B : Nat} {Va Vs Vh Va' Vs' Vh' Va'' Vs'' Vh'' : Value} (h : Nw3 B Va Vs Vh Va' Vs' Vh') (h2 : Nw3 B Va' Vs' Vh' Va'' Vs'' Vh'') : Nw3 B Va Vs Vh Va'' Vs'' Vh'' := ⟨h.1.trans h2.1, h.2.1.trans h2.2.1, h.2.2.trans h2.2.2⟩
def RetBxV (t : Bx) (rest : Array Value) (Va0 Vs0 Vh0 : Value) (w : World) (e : Ending) (w' : World) : Prop := ∃ Vq Va Vs Vh Vf, e = .returned (.tuple (#[.agg #[Vq, Va, Vs, Vh, Vf]] ++ rest)) ∧ BxAt w' w'.heap.size Vq Va Vs Vh Vf t ∧ Below w.heap.size w w' ∧ Nw3 w.heap.size Va0 Vs0 Vh0 Va Vs Vh
def RetNV (t : Net × Int) (V0 : Value) (w : World) (e : Ending) (w' : World) : Prop := ∃ Aq nq cq Aa na ca m er, e = .returned (.tuple #[.agg #[.slice Aq nq cq, .slice Aa na ca], .int .i64 er]) ∧ Hid (t = (m, er)) ∧ Hid (NetAt w' w'.heap.size (.slice Aq nq cq) (.slice Aa na ca) m) ∧ Below w.heap.size w w' ∧ NwV V0 (.slice Aa na ca)
def RetTickV (t : Bx × List Int × Int) (Va0 Vs0 Vh0 : Value) (w : World) (e : Ending) (w' : World) : Prop := ∃ Vq Va Vs Vh Vf Vl, e = .returned (.tuple #[.agg #[Vq, Va, Vs, Vh, Vf], Vl, .int .i64 t.2.2]) ∧ BxAt w' w'.heap.size Vq Va Vs Vh Vf t.1 ∧ HdAt w' w'.heap.size Vl t.2.1 ∧ Below w.heap.size w w' ∧ Nw3 w.heap.size Va0 Vs0 Vh0 Va Vs Vh
def RetDlvV (T : Bx × Bool × Int) (Va0 Vs0 Vh0 : Value) (w : World) (e : Ending) (w' : World) : Prop := ∃ Vq Va Vs Vh Vf, e = .returned (.tuple #[.agg #[Vq, Va, Vs, Vh, Vf], .bool T.2.1, .int .i64 T.2.2]) ∧ BxAt w' w'.heap.size Vq Va Vs Vh Vf T.1 ∧ Below w.heap.size w w' ∧ Nw3 w.heap.size Va0 Vs0 Vh0 Va Vs Vh
def RetHearV (t : Bx) (Va0 Vs0 Vh0 : Value) (w : World) (e : Ending) (w' : World) : Prop := ∃ Aq nq cq Aa na ca As ns cs Ah n ch Af nf cf, e = .returned (.agg #[.slice Aq nq cq, .slice Aa na ca, .slice As ns cs, .slice Ah n ch, .slice Af nf cf]) ∧ BxAt w' w'.heap.size (.slice Aq nq cq) (.slice Aa na ca) (.slice As ns cs) (.slice Ah n ch) (.slice Af nf cf) t ∧ Below w.heap.size w w' ∧ Nw3 w.heap.size Va0 Vs0 Vh0 (.slice Aa na ca) (.slice As ns cs) (.slice Ah n ch)
section
attribute [local go_sem] Oper.semAt_some
set_option maxRecDepth 100000 in
set_option maxHeartbeats 4000000 in
theorem qLoseV_any (m0 : Net) (i : Int) (Aq Aa : Option Addr) (nq cq na ca : Nat) (w : World) (hN : Hid (NetAt w w.heap.size (.slice Aq nq cq) (.slice Aa na ca) m0)) :
    Calls Try.prog 50 #[.agg #[.slice Aq nq cq, .slice Aa na ca], .int .i64 i] w (RetNV (Go.Proofs.Ytmbifmmkccghfaa.loseT m0 i) (.slice Aa na ca) w) := by
  go_enter Try.func50, Try.ntmps50
  have hB := ((Below.refl w.heap.size w).alloc (Nat.le_refl _) (.cells #[.slice Aq nq cq, .slice Aa na ca] 82)).alloc (by simp) (.cells #[.slice none 0 0, .slice none 0 0] 25)
  have X2 := (Box.new w [.slice Aq nq cq, .slice Aa na ca] 82).alloc (.cells #[.slice none 0 0, .slice none 0 0] 25)
  have X4 := Box.newAt (w := w.alloc (.cells #[.slice Aq nq cq, .slice Aa na ca] 82)) (n := w.heap.size + 1) [.slice none 0 0, .slice none 0 0] 25 (by simp)
  go_upto_region 1 with fail
  generalize (w.alloc (.cells #[.slice Aq nq cq, .slice Aa na ca] 82)).alloc (.cells #[.slice none 0 0, .slice none 0 0] 25) = w1 at hB X2 X4 ⊢
  have z1 := X2.lt
  have X2c0 : w1.cell? ⟨w.heap.size, 0, none⟩ = some (.slice Aq nq cq) := X2.cell 0
  have X2c1 : w1.cell? ⟨w.heap.size, 1, none⟩ = some (.slice Aa na ca) := X2.cell 1
  have HN := Lib.hid (hN.out.later hB)
  go_wp2_with fail
  refine (nLoseV_is m0 i HN).mono ?_
  rintro e w3 ⟨Vq, Va, m, er, rfl, hT2, hN2, hb, hv⟩
  obtain ⟨Aq2, nq2, cq2, Aa2, na2, ca2, rfl, rfl⟩ := hN2.out.form
  have HM := hN2.out.at hb.size
  have hB := hB.trans (hb.mono hB.size)
  have X4 := X4.later hb
  clear hb z1 X2c0 X2c1 hN2 HN
  have X4c0 : w3.cell? ⟨w.heap.size + 1, 0, none⟩ = some (.slice none 0 0) := X4.cell 0
  have X4f0 : w3.frozen? ⟨w.heap.size + 1, 0, none⟩ = false := X4.free 0
  have X4c1 : w3.cell? ⟨w.heap.size + 1, 1, none⟩ = some (.slice none 0 0) := X4.cell 1
  have X4f1 : w3.frozen? ⟨w.heap.size + 1, 1, none⟩ = false := X4.free 1
  have X4z : w.heap.size + 1 < w3.heap.size := X4.lt
  go_wp2
  obtain ⟨HM2, -⟩ := HM.set2 (SlBox.of X4 (by simp)) Aq2 Aa2 nq2 cq2 na2 ca2
  have Y4 := ((X4.set 0 (.slice Aq2 nq2 cq2)).set 1 (.slice Aa2 na2 ca2))
  have hB := ((hB.setCell (p := ⟨w.heap.size + 1, 0, none⟩) (by simp <;> omega) (.slice Aq2 nq2 cq2)).setCell (p := ⟨w.heap.size + 1, 1, none⟩) (by simp <;> omega) (.slice Aa2 na2 ca2))
  have hsz : w3.heap.size ≤ ((w3.setCell ⟨w.heap.size + 1, 0, none⟩ (.slice Aq2 nq2 cq2)).setCell ⟨w.heap.size + 1, 1, none⟩ (.slice Aa2 na2 ca2)).heap.size := by simp
  clear X4c0 X4c1 X4f0 X4f1 X4z
  generalize ((w3.setCell ⟨w.heap.size + 1, 0, none⟩ (.slice Aq2 nq2 cq2)).setCell ⟨w.heap.size + 1, 1, none⟩ (.slice Aa2 na2 ca2)) = W6 at Y4 hB HM2 hsz ⊢
  simp only [List.set_cons_zero, List.set_cons_succ] at Y4
  have Y4c0 : W6.cell? ⟨w.heap.size + 1, 0, none⟩ = some (.slice Aq2 nq2 cq2) := Y4.cell 0
  have Y4c1 : W6.cell? ⟨w.heap.size + 1, 1, none⟩ = some (.slice Aa2 na2 ca2) := Y4.cell 1
  refine bodyPost_ret (v := .tuple #[.agg #[.slice Aq2 nq2 cq2, .slice Aa2 na2 ca2], .int .i64 er]) (by simp [results, Try.results50, go_sem, Y4c0, Y4c1]) rfl ?_
  exact ⟨_, _, _, _, _, _, m, er, rfl, hT2, Lib.hid (HM2.more hsz), hB, hv⟩
set_option maxRecDepth 100000 in
set_option maxHeartbeats 4000000 in
theorem qRepeatV_any (m0 : Net) (i : Int) (Aq Aa : Option Addr) (nq cq na ca : Nat) (w : World) (hN : Hid (NetAt w w.heap.size (.slice Aq nq cq) (.slice Aa na ca) m0)) :
    Calls Try.prog 45 #[.agg #[.slice Aq nq cq, .slice Aa na ca], .int .i64 i] w (RetNV (Go.Proofs.Ytmbifmmkccghfaa.repeatT m0 i) (.slice Aa na ca) w) := by
  go_enter Try.func45, Try.ntmps45
  have hB := ((Below.refl w.heap.size w).alloc (Nat.le_refl _) (.cells #[.slice Aq nq cq, .slice Aa na ca] 82)).alloc (by simp) (.cells #[.slice none 0 0, .slice none 0 0] 25)
  have X2 := (Box.new w [.slice Aq nq cq, .slice Aa na ca] 82).alloc (.cells #[.slice none 0 0, .slice none 0 0] 25)
  have X4 := Box.newAt (w := w.alloc (.cells #[.slice Aq nq cq, .slice Aa na ca] 82)) (n := w.heap.size + 1) [.slice none 0 0, .slice none 0 0] 25 (by simp)
  go_upto_region 1 with fail
  generalize (w.alloc (.cells #[.slice Aq nq cq, .slice Aa na ca] 82)).alloc (.cells #[.slice none 0 0, .slice none 0 0] 25) = w1 at hB X2 X4 ⊢
  have z1 := X2.lt
  have X2c0 : w1.cell? ⟨w.heap.size, 0, none⟩ = some (.slice Aq nq cq) := X2.cell 0
  have X2c1 : w1.cell? ⟨w.heap.size, 1, none⟩ = some (.slice Aa na ca) := X2.cell 1
  have HN := Lib.hid (hN.out.later hB)
  go_wp2_with fail
  refine (nRepeatV_is m0 i HN).mono ?_
  rintro e w3 ⟨Vq, Va, m, er, rfl, hT2, hN2, hb, hv⟩
  obtain ⟨Aq2, nq2, cq2, Aa2, na2, ca2, rfl, rfl⟩ := hN2.out.form
  have HM := hN2.out.at hb.size
  have hB := hB.trans (hb.mono hB.size)
  have X4 := X4.later hb
  clear hb z1 X2c0 X2c1 hN2 HN
  have X4c0 : w3.cell? ⟨w.heap.size + 1, 0, none⟩ = some (.slice none 0 0) := X4.cell 0
  have X4f0 : w3.frozen? ⟨w.heap.size + 1, 0, none⟩ = false := X4.free 0
  have X4c1 : w3.cell? ⟨w.heap.size + 1, 1, none⟩ = some (.slice none 0 0) := X4.cell 1
  have X4f1 : w3.frozen? ⟨w.heap.size + 1, 1, none⟩ = false := X4.free 1
  have X4z : w.heap.size + 1 < w3.heap.size := X4.lt
  go_wp2
  obtain ⟨HM2, -⟩ := HM.set2 (SlBox.of X4 (by simp)) Aq2 Aa2 nq2 cq2 na2 ca2
  have Y4 := ((X4.set 0 (.slice Aq2 nq2 cq2)).set 1 (.slice Aa2 na2 ca2))
  have hB := ((hB.setCell (p := ⟨w.heap.size + 1, 0, none⟩) (by simp <;> omega) (.slice Aq2 nq2 cq2)).setCell (p := ⟨w.heap.size + 1, 1, none⟩) (by simp <;> omega) (.slice Aa2 na2 ca2))
  have hsz : w3.heap.size ≤ ((w3.setCell ⟨w.heap.size + 1, 0, none⟩ (.slice Aq2 nq2 cq2)).setCell ⟨w.heap.size + 1, 1, none⟩ (.slice Aa2 na2 ca2)).heap.size := by simp
  clear X4c0 X4c1 X4f0 X4f1 X4z
  generalize ((w3.setCell ⟨w.heap.size + 1, 0, none⟩ (.slice Aq2 nq2 cq2)).setCell ⟨w.heap.size + 1, 1, none⟩ (.slice Aa2 na2 ca2)) = W6 at Y4 hB HM2 hsz ⊢
  simp only [List.set_cons_zero, List.set_cons_succ] at Y4
  have Y4c0 : W6.cell? ⟨w.heap.size + 1, 0, none⟩ = some (.slice Aq2 nq2 cq2) := Y4.cell 0
  have Y4c1 : W6.cell? ⟨w.heap.size + 1, 1, none⟩ = some (.slice Aa2 na2 ca2) := Y4.cell 1
  refine bodyPost_ret (v := .tuple #[.agg #[.slice Aq2 nq2 cq2, .slice Aa2 na2 ca2], .int .i64 er]) (by simp [results, Try.results45, go_sem, Y4c0, Y4c1]) rfl ?_
  exact ⟨_, _, _, _, _, _, m, er, rfl, hT2, Lib.hid (HM2.more hsz), hB, hv⟩
set_option maxRecDepth 100000 in
set_option maxHeartbeats 4000000 in
theorem oDoLoseV_any (b : Bx) (i : Int) (Aq Aa As Ah Af : Option Addr) (nq cq na ca ns cs n ch nf cf : Nat) (w : World) (hx : Hid (BxAt w w.heap.size (.slice Aq nq cq) (.slice Aa na ca) (.slice As ns cs) (.slice Ah n ch) (.slice Af nf cf) b)) {T : Bx × Int} (hT : Hid (b.loseT i = T)) :
    Calls Try.prog 44 #[.agg #[.slice Aq nq cq, .slice Aa na ca, .slice As ns cs, .slice Ah n ch, .slice Af nf cf], .int .i64 i, .func (.func 50) #[] #[]] w (RetBxV T.1 #[.int .i64 T.2] (.slice Aa na ca) (.slice As ns cs) (.slice Ah n ch) w) := by
  go_enter Try.func44, Try.ntmps44
  have hB := ((Below.refl w.heap.size w).alloc (Nat.le_refl _) (.cells #[.slice Aq nq cq, .slice Aa na ca, .slice As ns cs, .slice Ah n ch, .slice Af nf cf] 30)).alloc (by simp) (.cells #[.slice none 0 0, .slice none 0 0, .slice none 0 0, .slice none 0 0, .slice none 0 0] 30)
  have X2 := (Box.new w [.slice Aq nq cq, .slice Aa na ca, .slice As ns cs, .slice Ah n ch, .slice Af nf cf] 30).alloc (.cells #[.slice none 0 0, .slice none 0 0, .slice none 0 0, .slice none 0 0, .slice none 0 0] 30)
  have X4 := Box.newAt (w := w.alloc (.cells #[.slice Aq nq cq, .slice Aa na ca, .slice As ns cs, .slice Ah n ch, .slice Af nf cf] 30)) (n := w.heap.size + 1) [.slice none 0 0, .slice none 0 0, .slice none 0 0, .slice none 0 0, .slice none 0 0] 30 (by simp)
  go_upto_region 1 with fail
  generalize (w.alloc (.cells #[.slice Aq nq cq, .slice Aa na ca, .slice As ns cs, .slice Ah n ch, .slice Af nf cf] 30)).alloc (.cells #[.slice none 0 0, .slice none 0 0, .slice none 0 0, .slice none 0 0, .slice none 0 0] 30) = w1 at hB X2 X4 ⊢
  have z1 := X2.lt
  have X2c0 : w1.cell? ⟨w.heap.size, 0, none⟩ = some (.slice Aq nq cq) := X2.cell 0
  have X2c1 : w1.cell? ⟨w.heap.size, 1, none⟩ = some (.slice Aa na ca) := X2.cell 1
  have X2c2 : w1.cell? ⟨w.heap.size, 2, none⟩ = some (.slice As ns cs) := X2.cell 2
  have X2c3 : w1.cell? ⟨w.heap.size, 3, none⟩ = some (.slice Ah n ch) := X2.cell 3
  have X2c4 : w1.cell? ⟨w.heap.size, 4, none⟩ = some (.slice Af nf cf) := X2.cell 4
  obtain ⟨c, hc⟩ : ∃ c, Hid (b.checkT = c) := ⟨_, Lib.hid rfl⟩
  go_wp2_with fail
  refine (oCheck_is hc (hx.out.later hB)).mono ?_
  rintro e w2 ⟨rfl, hb⟩
  have hB := hB.trans (hb.mono hB.size)
  have X2 := X2.later hb
  have X4 := X4.later hb
  clear hb z1 X2c0 X2c1 X2c2 X2c3 X2c4
  by_cases h0 : c = 0
  rotate_left
  · have d0 : (c != 0) = true := by simp [h0]
    obtain rfl : T = (Bx.zero, c) := by rw [← hT.out]; exact do_bad hc.out h0
    have X4c0 : w2.cell? ⟨w.heap.size + 1, 0, none⟩ = some (.slice none 0 0) := X4.cell 0
    have X4f0 : w2.frozen? ⟨w.heap.size + 1, 0, none⟩ = false := X4.free 0
    have X4c1 : w2.cell? ⟨w.heap.size + 1, 1, none⟩ = some (.slice none 0 0) := X4.cell 1
    have X4f1 : w2.frozen? ⟨w.heap.size + 1, 1, none⟩ = false := X4.free 1
    have X4c2 : w2.cell? ⟨w.heap.size + 1, 2, none⟩ = some (.slice none 0 0) := X4.cell 2
    have X4f2 : w2.frozen? ⟨w.heap.size + 1, 2, none⟩ = false := X4.free 2
    have X4c3 : w2.cell? ⟨w.heap.size + 1, 3, none⟩ = some (.slice none 0 0) := X4.cell 3
    have X4f3 : w2.frozen? ⟨w.heap.size + 1, 3, none⟩ = false := X4.free 3
    have X4c4 : w2.cell? ⟨w.heap.size + 1, 4, none⟩ = some (.slice none 0 0) := X4.cell 4
    have X4f4 : w2.frozen? ⟨w.heap.size + 1, 4, none⟩ = false := X4.free 4
    have X4z : w.heap.size + 1 < w2.heap.size := X4.lt
    have Y4 := (((((X4.set 0 (.slice none 0 0)).set 1 (.slice none 0 0)).set 2 (.slice none 0 0)).set 3 (.slice none 0 0)).set 4 (.slice none 0 0))
    have hB2 := (((((hB.setCell (p := ⟨w.heap.size + 1, 0, none⟩) (by simp <;> omega) (.slice none 0 0)).setCell (p := ⟨w.heap.size + 1, 1, none⟩) (by simp <;> omega) (.slice none 0 0)).setCell (p := ⟨w.heap.size + 1, 2, none⟩) (by simp <;> omega) (.slice none 0 0)).setCell (p := ⟨w.heap.size + 1, 3, none⟩) (by simp <;> omega) (.slice none 0 0)).setCell (p := ⟨w.heap.size + 1, 4, none⟩) (by simp <;> omega) (.slice none 0 0))
    go_wp2
    clear X4c0 X4c1 X4c2 X4c3 X4c4 X4f0 X4f1 X4f2 X4f3 X4f4 X4z
    generalize (((((w2.setCell ⟨w.heap.size + 1, 0, none⟩ (.slice none 0 0)).setCell ⟨w.heap.size + 1, 1, none⟩ (.slice none 0 0)).setCell ⟨w.heap.size + 1, 2, none⟩ (.slice none 0 0)).setCell ⟨w.heap.size + 1, 3, none⟩ (.slice none 0 0)).setCell ⟨w.heap.size + 1, 4, none⟩ (.slice none 0 0)) = W8 at Y4 hB2 ⊢
    simp only [List.set_cons_zero, List.set_cons_succ] at Y4
    have Y4c0 : W8.cell? ⟨w.heap.size + 1, 0, none⟩ = some (.slice none 0 0) := Y4.cell 0
    have Y4c1 : W8.cell? ⟨w.heap.size + 1, 1, none⟩ = some (.slice none 0 0) := Y4.cell 1
    have Y4c2 : W8.cell? ⟨w.heap.size + 1, 2, none⟩ = some (.slice none 0 0) := Y4.cell 2
    have Y4c3 : W8.cell? ⟨w.heap.size + 1, 3, none⟩ = some (.slice none 0 0) := Y4.cell 3
    have Y4c4 : W8.cell? ⟨w.heap.size + 1, 4, none⟩ = some (.slice none 0 0) := Y4.cell 4
    refine bodyPost_ret (v := .tuple #[.agg #[.slice none 0 0, .slice none 0 0, .slice none 0 0, .slice none 0 0, .slice none 0 0], .int .i64 c]) (by simp [results, Try.results44, go_sem, Y4c0, Y4c1, Y4c2, Y4c3, Y4c4]) rfl ?_
    exact ⟨_, _, _, _, _, rfl, bxAt_zero _ _, hB2, Nw3.zero _ _ _ _⟩
  subst h0
  have HOK := Lib.hid (check_ok hc.out)
  have z1 := X2.lt
  have X2c0 : w2.cell? ⟨w.heap.size, 0, none⟩ = some (.slice Aq nq cq) := X2.cell 0
  have X2c1 : w2.cell? ⟨w.heap.size, 1, none⟩ = some (.slice Aa na ca) := X2.cell 1
  have X2c2 : w2.cell? ⟨w.heap.size, 2, none⟩ = some (.slice As ns cs) := X2.cell 2
  have X2c3 : w2.cell? ⟨w.heap.size, 3, none⟩ = some (.slice Ah n ch) := X2.cell 3
  have X2c4 : w2.cell? ⟨w.heap.size, 4, none⟩ = some (.slice Af nf cf) := X2.cell 4
  have HN := Lib.hid (hx.out.net.later hB)
  go_wp2_with fail
  refine (qLoseV_any b.net i _ _ _ _ _ _ _ HN).mono ?_
  rintro e w3 ⟨Aq2, nq2, cq2, Aa2, na2, ca2, m, er, rfl, hT2, HM, hb, hv⟩
  have hB := hB.trans (hb.mono hB.size)
  have X2 := X2.later hb
  have X4 := X4.later hb
  clear hb z1 X2c0 X2c1 X2c2 X2c3 X2c4 HN
  go_upto_region 5 with fail
  have X7 := Box.new w3 [.slice Aq2 nq2 cq2, .slice Aa2 na2 ca2] 25
  have hal := (Below.refl w3.heap.size w3).alloc (Nat.le_refl _) (.cells #[.slice Aq2 nq2 cq2, .slice Aa2 na2 ca2] 25)
  have z2 := X2.lt
  have z4 := X4.lt
  have X2 := X2.later hal
  have X4 := X4.later hal
  have hB := hB.trans (hal.mono hB.size)
  have HM1 := HM.out.below hal
  have hDz := hal.size
  clear hal HM
  generalize w3.alloc (.cells #[.slice Aq2 nq2 cq2, .slice Aa2 na2 ca2] 25) = W3 at X7 X2 X4 hB HM1 hDz ⊢
  generalize w3.heap.size = D at X7 HM1 hDz z2 z4 ⊢
  have hsn := do_net (b := b) (m := m) (er := er) HOK.out hT2.out
  by_cases he : er = 0
  rotate_left
  · have d6 : (er != 0) = true := by simp [he]
    obtain rfl : T = (Bx.zero, er) := by rw [← hT.out]; exact hsn.trans (if_neg he)
    have X4c0 : W3.cell? ⟨w.heap.size + 1, 0, none⟩ = some (.slice none 0 0) := X4.cell 0
    have X4f0 : W3.frozen? ⟨w.heap.size + 1, 0, none⟩ = false := X4.free 0
    have X4c1 : W3.cell? ⟨w.heap.size + 1, 1, none⟩ = some (.slice none 0 0) := X4.cell 1
    have X4f1 : W3.frozen? ⟨w.heap.size + 1, 1, none⟩ = false := X4.free 1
    have X4c2 : W3.cell? ⟨w.heap.size + 1, 2, none⟩ = some (.slice none 0 0) := X4.cell 2
    have X4f2 : W3.frozen? ⟨w.heap.size + 1, 2, none⟩ = false := X4.free 2
    have X4c3 : W3.cell? ⟨w.heap.size + 1, 3, none⟩ = some (.slice none 0 0) := X4.cell 3
    have X4f3 : W3.frozen? ⟨w.heap.size + 1, 3, none⟩ = false := X4.free 3
    have X4c4 : W3.cell? ⟨w.heap.size + 1, 4, none⟩ = some (.slice none 0 0) := X4.cell 4
    have X4f4 : W3.frozen? ⟨w.heap.size + 1, 4, none⟩ = false := X4.free 4
    have X4z : w.heap.size + 1 < W3.heap.size := X4.lt
    have Y4 := (((((X4.set 0 (.slice none 0 0)).set 1 (.slice none 0 0)).set 2 (.slice none 0 0)).set 3 (.slice none 0 0)).set 4 (.slice none 0 0))
    have hB2 := (((((hB.setCell (p := ⟨w.heap.size + 1, 0, none⟩) (by simp <;> omega) (.slice none 0 0)).setCell (p := ⟨w.heap.size + 1, 1, none⟩) (by simp <;> omega) (.slice none 0 0)).setCell (p := ⟨w.heap.size + 1, 2, none⟩) (by simp <;> omega) (.slice none 0 0)).setCell (p := ⟨w.heap.size + 1, 3, none⟩) (by simp <;> omega) (.slice none 0 0)).setCell (p := ⟨w.heap.size + 1, 4, none⟩) (by simp <;> omega) (.slice none 0 0))
    go_wp2
    clear X4c0 X4c1 X4c2 X4c3 X4c4 X4f0 X4f1 X4f2 X4f3 X4f4 X4z
    generalize (((((W3.setCell ⟨w.heap.size + 1, 0, none⟩ (.slice none 0 0)).setCell ⟨w.heap.size + 1, 1, none⟩ (.slice none 0 0)).setCell ⟨w.heap.size + 1, 2, none⟩ (.slice none 0 0)).setCell ⟨w.heap.size + 1, 3, none⟩ (.slice none 0 0)).setCell ⟨w.heap.size + 1, 4, none⟩ (.slice none 0 0)) = W8 at Y4 hB2 ⊢
    simp only [List.set_cons_zero, List.set_cons_succ] at Y4
    have Y4c0 : W8.cell? ⟨w.heap.size + 1, 0, none⟩ = some (.slice none 0 0) := Y4.cell 0
    have Y4c1 : W8.cell? ⟨w.heap.size + 1, 1, none⟩ = some (.slice none 0 0) := Y4.cell 1
    have Y4c2 : W8.cell? ⟨w.heap.size + 1, 2, none⟩ = some (.slice none 0 0) := Y4.cell 2
    have Y4c3 : W8.cell? ⟨w.heap.size + 1, 3, none⟩ = some (.slice none 0 0) := Y4.cell 3
    have Y4c4 : W8.cell? ⟨w.heap.size + 1, 4, none⟩ = some (.slice none 0 0) := Y4.cell 4
    refine bodyPost_ret (v := .tuple #[.agg #[.slice none 0 0, .slice none 0 0, .slice none 0 0, .slice none 0 0, .slice none 0 0], .int .i64 er]) (by simp [results, Try.results44, go_sem, Y4c0, Y4c1, Y4c2, Y4c3, Y4c4]) rfl ?_
    exact ⟨_, _, _, _, _, rfl, bxAt_zero _ _, hB2, Nw3.zero _ _ _ _⟩
  subst he
  obtain rfl : T = (⟨m, b.sent, b.heard, b.fresh⟩, 0) := by rw [← hT.out]; exact hsn.trans (if_pos rfl)
  clear hsn
  have X2c0 : W3.cell? ⟨w.heap.size, 0, none⟩ = some (.slice Aq nq cq) := X2.cell 0
  have X2f0 : W3.frozen? ⟨w.heap.size, 0, none⟩ = false := X2.free 0
  have X2c1 : W3.cell? ⟨w.heap.size, 1, none⟩ = some (.slice Aa na ca) := X2.cell 1
  have X2f1 : W3.frozen? ⟨w.heap.size, 1, none⟩ = false := X2.free 1
  have X2c2 : W3.cell? ⟨w.heap.size, 2, none⟩ = some (.slice As ns cs) := X2.cell 2
  have X2f2 : W3.frozen? ⟨w.heap.size, 2, none⟩ = false := X2.free 2
  have X2c3 : W3.cell? ⟨w.heap.size, 3, none⟩ = some (.slice Ah n ch) := X2.cell 3
  have X2f3 : W3.frozen? ⟨w.heap.size, 3, none⟩ = false := X2.free 3
  have X2c4 : W3.cell? ⟨w.heap.size, 4, none⟩ = some (.slice Af nf cf) := X2.cell 4
  have X2f4 : W3.frozen? ⟨w.heap.size, 4, none⟩ = false := X2.free 4
  have X2z : w.heap.size < W3.heap.size := X2.lt
  have X7c0 : W3.cell? ⟨D, 0, none⟩ = some (.slice Aq2 nq2 cq2) := X7.cell 0
  have X7c1 : W3.cell? ⟨D, 1, none⟩ = some (.slice Aa2 na2 ca2) := X7.cell 1
  have z7 := X7.lt
  go_upto_region 8 with fail
  clear X2c0 X2c1 X2c2 X2c3 X2c4 X2f0 X2f1 X2f2 X2f3 X2f4 X2z X7c0 X7c1 z7
  obtain ⟨HM2, -⟩ := HM1.set2 (SlBox.of X2 (by simp)) Aq2 Aa2 nq2 cq2 na2 ca2
  have X2 := (X2.set 0 (.slice Aq2 nq2 cq2)).set 1 (.slice Aa2 na2 ca2)
  have X4 := (X4.other (a := ⟨w.heap.size, 0, none⟩) (by simp <;> omega) (.slice Aq2 nq2 cq2)).other (a := ⟨w.heap.size, 1, none⟩) (by simp <;> omega) (.slice Aa2 na2 ca2)
  have hB := (hB.setCell (p := ⟨w.heap.size, 0, none⟩) (by simp) (.slice Aq2 nq2 cq2)).setCell (p := ⟨w.heap.size, 1, none⟩) (by simp) (.slice Aa2 na2 ca2)
  have hsz2 : D ≤ ((W3.setCell ⟨w.heap.size, 0, none⟩ (.slice Aq2 nq2 cq2)).setCell ⟨w.heap.size, 1, none⟩ (.slice Aa2 na2 ca2)).heap.size := by simp; exact hDz
  generalize (W3.setCell ⟨w.heap.size, 0, none⟩ (.slice Aq2 nq2 cq2)).setCell ⟨w.heap.size, 1, none⟩ (.slice Aa2 na2 ca2) = W4 at X2 X4 hB HM2 hsz2 ⊢
  simp only [List.set_cons_zero, List.set_cons_succ] at X2
  have X2c0 : W4.cell? ⟨w.heap.size, 0, none⟩ = some (.slice Aq2 nq2 cq2) := X2.cell 0
  have X2c1 : W4.cell? ⟨w.heap.size, 1, none⟩ = some (.slice Aa2 na2 ca2) := X2.cell 1
  have X2c2 : W4.cell? ⟨w.heap.size, 2, none⟩ = some (.slice As ns cs) := X2.cell 2
  have X2c3 : W4.cell? ⟨w.heap.size, 3, none⟩ = some (.slice Ah n ch) := X2.cell 3
  have X2c4 : W4.cell? ⟨w.heap.size, 4, none⟩ = some (.slice Af nf cf) := X2.cell 4
  have z1 := X2.lt
  have X4c0 : W4.cell? ⟨w.heap.size + 1, 0, none⟩ = some (.slice none 0 0) := X4.cell 0
  have X4f0 : W4.frozen? ⟨w.heap.size + 1, 0, none⟩ = false := X4.free 0
  have X4c1 : W4.cell? ⟨w.heap.size + 1, 1, none⟩ = some (.slice none 0 0) := X4.cell 1
  have X4f1 : W4.frozen? ⟨w.heap.size + 1, 1, none⟩ = false := X4.free 1
  have X4c2 : W4.cell? ⟨w.heap.size + 1, 2, none⟩ = some (.slice none 0 0) := X4.cell 2
  have X4f2 : W4.frozen? ⟨w.heap.size + 1, 2, none⟩ = false := X4.free 2
  have X4c3 : W4.cell? ⟨w.heap.size + 1, 3, none⟩ = some (.slice none 0 0) := X4.cell 3
  have X4f3 : W4.frozen? ⟨w.heap.size + 1, 3, none⟩ = false := X4.free 3
  have X4c4 : W4.cell? ⟨w.heap.size + 1, 4, none⟩ = some (.slice none 0 0) := X4.cell 4
  have X4f4 : W4.frozen? ⟨w.heap.size + 1, 4, none⟩ = false := X4.free 4
  have X4z : w.heap.size + 1 < W4.heap.size := X4.lt
  go_wp2
  have HM3 := HM2.set5 (SlBox.of X4 (by simp)) Aq2 Aa2 As Ah Af nq2 cq2 na2 ca2 ns cs n ch nf cf
  have Y4 := (((((X4.set 0 (.slice Aq2 nq2 cq2)).set 1 (.slice Aa2 na2 ca2)).set 2 (.slice As ns cs)).set 3 (.slice Ah n ch)).set 4 (.slice Af nf cf))
  have hB := (((((hB.setCell (p := ⟨w.heap.size + 1, 0, none⟩) (by simp <;> omega) (.slice Aq2 nq2 cq2)).setCell (p := ⟨w.heap.size + 1, 1, none⟩) (by simp <;> omega) (.slice Aa2 na2 ca2)).setCell (p := ⟨w.heap.size + 1, 2, none⟩) (by simp <;> omega) (.slice As ns cs)).setCell (p := ⟨w.heap.size + 1, 3, none⟩) (by simp <;> omega) (.slice Ah n ch)).setCell (p := ⟨w.heap.size + 1, 4, none⟩) (by simp <;> omega) (.slice Af nf cf))
  have hsz3 : D ≤ (((((W4.setCell ⟨w.heap.size + 1, 0, none⟩ (.slice Aq2 nq2 cq2)).setCell ⟨w.heap.size + 1, 1, none⟩ (.slice Aa2 na2 ca2)).setCell ⟨w.heap.size + 1, 2, none⟩ (.slice As ns cs)).setCell ⟨w.heap.size + 1, 3, none⟩ (.slice Ah n ch)).setCell ⟨w.heap.size + 1, 4, none⟩ (.slice Af nf cf)).heap.size := by simp; exact hsz2
  clear X2c0 X2c1 X2c2 X2c3 X2c4 X4c0 X4c1 X4c2 X4c3 X4c4 X4f0 X4f1 X4f2 X4f3 X4f4 X4z
  generalize (((((W4.setCell ⟨w.heap.size + 1, 0, none⟩ (.slice Aq2 nq2 cq2)).setCell ⟨w.heap.size + 1, 1, none⟩ (.slice Aa2 na2 ca2)).setCell ⟨w.heap.size + 1, 2, none⟩ (.slice As ns cs)).setCell ⟨w.heap.size + 1, 3, none⟩ (.slice Ah n ch)).setCell ⟨w.heap.size + 1, 4, none⟩ (.slice Af nf cf)) = W6 at Y4 hB HM3 hsz3 ⊢
  simp only [List.set_cons_zero, List.set_cons_succ] at Y4
  have Y4c0 : W6.cell? ⟨w.heap.size + 1, 0, none⟩ = some (.slice Aq2 nq2 cq2) := Y4.cell 0
  have Y4c1 : W6.cell? ⟨w.heap.size + 1, 1, none⟩ = some (.slice Aa2 na2 ca2) := Y4.cell 1
  have Y4c2 : W6.cell? ⟨w.heap.size + 1, 2, none⟩ = some (.slice As ns cs) := Y4.cell 2
  have Y4c3 : W6.cell? ⟨w.heap.size + 1, 3, none⟩ = some (.slice Ah n ch) := Y4.cell 3
  have Y4c4 : W6.cell? ⟨w.heap.size + 1, 4, none⟩ = some (.slice Af nf cf) := Y4.cell 4
  have hX := hx.out.later hB
  refine bodyPost_ret (v := .tuple #[.agg #[.slice Aq2 nq2 cq2, .slice Aa2 na2 ca2, .slice As ns cs, .slice Ah n ch, .slice Af nf cf], .int .i64 0]) (by simp [results, Try.results44, go_sem, Y4c0, Y4c1, Y4c2, Y4c3, Y4c4]) rfl ?_
  exact ⟨_, _, _, _, _, rfl, ⟨HM3.more hsz3, hX.sent, hX.heard, hX.fresh⟩, hB, ⟨hv.b _, .inl rfl, .inl rfl⟩⟩
set_option maxRecDepth 100000 in
set_option maxHeartbeats 4000000 in
theorem oDoRepeatV_any (b : Bx) (i : Int) (Aq Aa As Ah Af : Option Addr) (nq cq na ca ns cs n ch nf cf : Nat) (w : World) (hx : Hid (BxAt w w.heap.size (.slice Aq nq cq) (.slice Aa na ca) (.slice As ns cs) (.slice Ah n ch) (.slice Af nf cf) b)) {T : Bx × Int} (hT : Hid (b.repeatT i = T)) :
    Calls Try.prog 44 #[.agg #[.slice Aq nq cq, .slice Aa na ca, .slice As ns cs, .slice Ah n ch, .slice Af nf cf], .int .i64 i, .func (.func 45) #[] #[]] w (RetBxV T.1 #[.int .i64 T.2] (.slice Aa na ca) (.slice As ns cs) (.slice Ah n ch) w) := by
  go_enter Try.func44, Try.ntmps44
  have hB := ((Below.refl w.heap.size w).alloc (Nat.le_refl _) (.cells #[.slice Aq nq cq, .slice Aa na ca, .slice As ns cs, .slice Ah n ch, .slice Af nf cf] 30)).alloc (by simp) (.cells #[.slice none 0 0, .slice none 0 0, .slice none 0 0, .slice none 0 0, .slice none 0 0] 30)
  have X2 := (Box.new w [.slice Aq nq cq, .slice Aa na ca, .slice As ns cs, .slice Ah n ch, .slice Af nf cf] 30).alloc (.cells #[.slice none 0 0, .slice none 0 0, .slice none 0 0, .slice none 0 0, .slice none 0 0] 30)
  have X4 := Box.newAt (w := w.alloc (.cells #[.slice Aq nq cq, .slice Aa na ca, .slice As ns cs, .slice Ah n ch, .slice Af nf cf] 30)) (n := w.heap.size + 1) [.slice none 0 0, .slice none 0 0, .slice none 0 0, .slice none 0 0, .slice none 0 0] 30 (by simp)
  go_upto_region 1 with fail
  generalize (w.alloc (.cells #[.slice Aq nq cq, .slice Aa na ca, .slice As ns cs, .slice Ah n ch, .slice Af nf cf] 30)).alloc (.cells #[.slice none 0 0, .slice none 0 0, .slice none 0 0, .slice none 0 0, .slice none 0 0] 30) = w1 at hB X2 X4 ⊢
  have z1 := X2.lt
  have X2c0 : w1.cell? ⟨w.heap.size, 0, none⟩ = some (.slice Aq nq cq) := X2.cell 0
  have X2c1 : w1.cell? ⟨w.heap.size, 1, none⟩ = some (.slice Aa na ca) := X2.cell 1
  have X2c2 : w1.cell? ⟨w.heap.size, 2, none⟩ = some (.slice As ns cs) := X2.cell 2
  have X2c3 : w1.cell? ⟨w.heap.size, 3, none⟩ = some (.slice Ah n ch) := X2.cell 3
  have X2c4 : w1.cell? ⟨w.heap.size, 4, none⟩ = some (.slice Af nf cf) := X2.cell 4
  obtain ⟨c, hc⟩ : ∃ c, Hid (b.checkT = c) := ⟨_, Lib.hid rfl⟩
  go_wp2_with fail
  refine (oCheck_is hc (hx.out.later hB)).mono ?_
  rintro e w2 ⟨rfl, hb⟩
  have hB := hB.trans (hb.mono hB.size)
  have X2 := X2.later hb
  have X4 := X4.later hb
  clear hb z1 X2c0 X2c1 X2c2 X2c3 X2c4
  by_cases h0 : c = 0
  rotate_left
  · have d0 : (c != 0) = true := by simp [h0]
    obtain rfl : T = (Bx.zero, c) := by rw [← hT.out]; exact do_bad hc.out h0
    have X4c0 : w2.cell? ⟨w.heap.size + 1, 0, none⟩ = some (.slice none 0 0) := X4.cell 0
    have X4f0 : w2.frozen? ⟨w.heap.size + 1, 0, none⟩ = false := X4.free 0
    have X4c1 : w2.cell? ⟨w.heap.size + 1, 1, none⟩ = some (.slice none 0 0) := X4.cell 1
    have X4f1 : w2.frozen? ⟨w.heap.size + 1, 1, none⟩ = false := X4.free 1
    have X4c2 : w2.cell? ⟨w.heap.size + 1, 2, none⟩ = some (.slice none 0 0) := X4.cell 2
    have X4f2 : w2.frozen? ⟨w.heap.size + 1, 2, none⟩ = false := X4.free 2
    have X4c3 : w2.cell? ⟨w.heap.size + 1, 3, none⟩ = some (.slice none 0 0) := X4.cell 3
    have X4f3 : w2.frozen? ⟨w.heap.size + 1, 3, none⟩ = false := X4.free 3
    have X4c4 : w2.cell? ⟨w.heap.size + 1, 4, none⟩ = some (.slice none 0 0) := X4.cell 4
    have X4f4 : w2.frozen? ⟨w.heap.size + 1, 4, none⟩ = false := X4.free 4
    have X4z : w.heap.size + 1 < w2.heap.size := X4.lt
    have Y4 := (((((X4.set 0 (.slice none 0 0)).set 1 (.slice none 0 0)).set 2 (.slice none 0 0)).set 3 (.slice none 0 0)).set 4 (.slice none 0 0))
    have hB2 := (((((hB.setCell (p := ⟨w.heap.size + 1, 0, none⟩) (by simp <;> omega) (.slice none 0 0)).setCell (p := ⟨w.heap.size + 1, 1, none⟩) (by simp <;> omega) (.slice none 0 0)).setCell (p := ⟨w.heap.size + 1, 2, none⟩) (by simp <;> omega) (.slice none 0 0)).setCell (p := ⟨w.heap.size + 1, 3, none⟩) (by simp <;> omega) (.slice none 0 0)).setCell (p := ⟨w.heap.size + 1, 4, none⟩) (by simp <;> omega) (.slice none 0 0))
    go_wp2
    clear X4c0 X4c1 X4c2 X4c3 X4c4 X4f0 X4f1 X4f2 X4f3 X4f4 X4z
    generalize (((((w2.setCell ⟨w.heap.size + 1, 0, none⟩ (.slice none 0 0)).setCell ⟨w.heap.size + 1, 1, none⟩ (.slice none 0 0)).setCell ⟨w.heap.size + 1, 2, none⟩ (.slice none 0 0)).setCell ⟨w.heap.size + 1, 3, none⟩ (.slice none 0 0)).setCell ⟨w.heap.size + 1, 4, none⟩ (.slice none 0 0)) = W8 at Y4 hB2 ⊢
    simp only [List.set_cons_zero, List.set_cons_succ] at Y4
    have Y4c0 : W8.cell? ⟨w.heap.size + 1, 0, none⟩ = some (.slice none 0 0) := Y4.cell 0
    have Y4c1 : W8.cell? ⟨w.heap.size + 1, 1, none⟩ = some (.slice none 0 0) := Y4.cell 1
    have Y4c2 : W8.cell? ⟨w.heap.size + 1, 2, none⟩ = some (.slice none 0 0) := Y4.cell 2
    have Y4c3 : W8.cell? ⟨w.heap.size + 1, 3, none⟩ = some (.slice none 0 0) := Y4.cell 3
    have Y4c4 : W8.cell? ⟨w.heap.size + 1, 4, none⟩ = some (.slice none 0 0) := Y4.cell 4
    refine bodyPost_ret (v := .tuple #[.agg #[.slice none 0 0, .slice none 0 0, .slice none 0 0, .slice none 0 0, .slice none 0 0], .int .i64 c]) (by simp [results, Try.results44, go_sem, Y4c0, Y4c1, Y4c2, Y4c3, Y4c4]) rfl ?_
    exact ⟨_, _, _, _, _, rfl, bxAt_zero _ _, hB2, Nw3.zero _ _ _ _⟩
  subst h0
  have HOK := Lib.hid (check_ok hc.out)
  have z1 := X2.lt
  have X2c0 : w2.cell? ⟨w.heap.size, 0, none⟩ = some (.slice Aq nq cq) := X2.cell 0
  have X2c1 : w2.cell? ⟨w.heap.size, 1, none⟩ = some (.slice Aa na ca) := X2.cell 1
  have X2c2 : w2.cell? ⟨w.heap.size, 2, none⟩ = some (.slice As ns cs) := X2.cell 2
  have X2c3 : w2.cell? ⟨w.heap.size, 3, none⟩ = some (.slice Ah n ch) := X2.cell 3
  have X2c4 : w2.cell? ⟨w.heap.size, 4, none⟩ = some (.slice Af nf cf) := X2.cell 4
  have HN := Lib.hid (hx.out.net.later hB)
  go_wp2_with fail
  refine (qRepeatV_any b.net i _ _ _ _ _ _ _ HN).mono ?_
  rintro e w3 ⟨Aq2, nq2, cq2, Aa2, na2, ca2, m, er, rfl, hT2, HM, hb, hv⟩
  have hB := hB.trans (hb.mono hB.size)
  have X2 := X2.later hb
  have X4 := X4.later hb
  clear hb z1 X2c0 X2c1 X2c2 X2c3 X2c4 HN
  go_upto_region 5 with fail
  have X7 := Box.new w3 [.slice Aq2 nq2 cq2, .slice Aa2 na2 ca2] 25
  have hal := (Below.refl w3.heap.size w3).alloc (Nat.le_refl _) (.cells #[.slice Aq2 nq2 cq2, .slice Aa2 na2 ca2] 25)
  have z2 := X2.lt
  have z4 := X4.lt
  have X2 := X2.later hal
  have X4 := X4.later hal
  have hB := hB.trans (hal.mono hB.size)
  have HM1 := HM.out.below hal
  have hDz := hal.size
  clear hal HM
  generalize w3.alloc (.cells #[.slice Aq2 nq2 cq2, .slice Aa2 na2 ca2] 25) = W3 at X7 X2 X4 hB HM1 hDz ⊢
  generalize w3.heap.size = D at X7 HM1 hDz z2 z4 ⊢
  have hsn := do_net (b := b) (m := m) (er := er) HOK.out hT2.out
  by_cases he : er = 0
  rotate_left
  · have d6 : (er != 0) = true := by simp [he]
    obtain rfl : T = (Bx.zero, er) := by rw [← hT.out]; exact hsn.trans (if_neg he)
    have X4c0 : W3.cell? ⟨w.heap.size + 1, 0, none⟩ = some (.slice none 0 0) := X4.cell 0
    have X4f0 : W3.frozen? ⟨w.heap.size + 1, 0, none⟩ = false := X4.free 0
    have X4c1 : W3.cell? ⟨w.heap.size + 1, 1, none⟩ = some (.slice none 0 0) := X4.cell 1
    have X4f1 : W3.frozen? ⟨w.heap.size + 1, 1, none⟩ = false := X4.free 1
    have X4c2 : W3.cell? ⟨w.heap.size + 1, 2, none⟩ = some (.slice none 0 0) := X4.cell 2
    have X4f2 : W3.frozen? ⟨w.heap.size + 1, 2, none⟩ = false := X4.free 2
    have X4c3 : W3.cell? ⟨w.heap.size + 1, 3, none⟩ = some (.slice none 0 0) := X4.cell 3
    have X4f3 : W3.frozen? ⟨w.heap.size + 1, 3, none⟩ = false := X4.free 3
    have X4c4 : W3.cell? ⟨w.heap.size + 1, 4, none⟩ = some (.slice none 0 0) := X4.cell 4
    have X4f4 : W3.frozen? ⟨w.heap.size + 1, 4, none⟩ = false := X4.free 4
    have X4z : w.heap.size + 1 < W3.heap.size := X4.lt
    have Y4 := (((((X4.set 0 (.slice none 0 0)).set 1 (.slice none 0 0)).set 2 (.slice none 0 0)).set 3 (.slice none 0 0)).set 4 (.slice none 0 0))
    have hB2 := (((((hB.setCell (p := ⟨w.heap.size + 1, 0, none⟩) (by simp <;> omega) (.slice none 0 0)).setCell (p := ⟨w.heap.size + 1, 1, none⟩) (by simp <;> omega) (.slice none 0 0)).setCell (p := ⟨w.heap.size + 1, 2, none⟩) (by simp <;> omega) (.slice none 0 0)).setCell (p := ⟨w.heap.size + 1, 3, none⟩) (by simp <;> omega) (.slice none 0 0)).setCell (p := ⟨w.heap.size + 1, 4, none⟩) (by simp <;> omega) (.slice none 0 0))
    go_wp2
    clear X4c0 X4c1 X4c2 X4c3 X4c4 X4f0 X4f1 X4f2 X4f3 X4f4 X4z
    generalize (((((W3.setCell ⟨w.heap.size + 1, 0, none⟩ (.slice none 0 0)).setCell ⟨w.heap.size + 1, 1, none⟩ (.slice none 0 0)).setCell ⟨w.heap.size + 1, 2, none⟩ (.slice none 0 0)).setCell ⟨w.heap.size + 1, 3, none⟩ (.slice none 0 0)).setCell ⟨w.heap.size + 1, 4, none⟩ (.slice none 0 0)) = W8 at Y4 hB2 ⊢
    simp only [List.set_cons_zero, List.set_cons_succ] at Y4
    have Y4c0 : W8.cell? ⟨w.heap.size + 1, 0, none⟩ = some (.slice none 0 0) := Y4.cell 0
    have Y4c1 : W8.cell? ⟨w.heap.size + 1, 1, none⟩ = some (.slice none 0 0) := Y4.cell 1
    have Y4c2 : W8.cell? ⟨w.heap.size + 1, 2, none⟩ = some (.slice none 0 0) := Y4.cell 2
    have Y4c3 : W8.cell? ⟨w.heap.size + 1, 3, none⟩ = some (.slice none 0 0) := Y4.cell 3
    have Y4c4 : W8.cell? ⟨w.heap.size + 1, 4, none⟩ = some (.slice none 0 0) := Y4.cell 4
    refine bodyPost_ret (v := .tuple #[.agg #[.slice none 0 0, .slice none 0 0, .slice none 0 0, .slice none 0 0, .slice none 0 0], .int .i64 er]) (by simp [results, Try.results44, go_sem, Y4c0, Y4c1, Y4c2, Y4c3, Y4c4]) rfl ?_
    exact ⟨_, _, _, _, _, rfl, bxAt_zero _ _, hB2, Nw3.zero _ _ _ _⟩
  subst he
  obtain rfl : T = (⟨m, b.sent, b.heard, b.fresh⟩, 0) := by rw [← hT.out]; exact hsn.trans (if_pos rfl)
  clear hsn
  have X2c0 : W3.cell? ⟨w.heap.size, 0, none⟩ = some (.slice Aq nq cq) := X2.cell 0
  have X2f0 : W3.frozen? ⟨w.heap.size, 0, none⟩ = false := X2.free 0
  have X2c1 : W3.cell? ⟨w.heap.size, 1, none⟩ = some (.slice Aa na ca) := X2.cell 1
  have X2f1 : W3.frozen? ⟨w.heap.size, 1, none⟩ = false := X2.free 1
  have X2c2 : W3.cell? ⟨w.heap.size, 2, none⟩ = some (.slice As ns cs) := X2.cell 2
  have X2f2 : W3.frozen? ⟨w.heap.size, 2, none⟩ = false := X2.free 2
  have X2c3 : W3.cell? ⟨w.heap.size, 3, none⟩ = some (.slice Ah n ch) := X2.cell 3
  have X2f3 : W3.frozen? ⟨w.heap.size, 3, none⟩ = false := X2.free 3
  have X2c4 : W3.cell? ⟨w.heap.size, 4, none⟩ = some (.slice Af nf cf) := X2.cell 4
  have X2f4 : W3.frozen? ⟨w.heap.size, 4, none⟩ = false := X2.free 4
  have X2z : w.heap.size < W3.heap.size := X2.lt
  have X7c0 : W3.cell? ⟨D, 0, none⟩ = some (.slice Aq2 nq2 cq2) := X7.cell 0
  have X7c1 : W3.cell? ⟨D, 1, none⟩ = some (.slice Aa2 na2 ca2) := X7.cell 1
  have z7 := X7.lt
  go_upto_region 8 with fail
  clear X2c0 X2c1 X2c2 X2c3 X2c4 X2f0 X2f1 X2f2 X2f3 X2f4 X2z X7c0 X7c1 z7
  obtain ⟨HM2, -⟩ := HM1.set2 (SlBox.of X2 (by simp)) Aq2 Aa2 nq2 cq2 na2 ca2
  have X2 := (X2.set 0 (.slice Aq2 nq2 cq2)).set 1 (.slice Aa2 na2 ca2)
  have X4 := (X4.other (a := ⟨w.heap.size, 0, none⟩) (by simp <;> omega) (.slice Aq2 nq2 cq2)).other (a := ⟨w.heap.size, 1, none⟩) (by simp <;> omega) (.slice Aa2 na2 ca2)
  have hB := (hB.setCell (p := ⟨w.heap.size, 0, none⟩) (by simp) (.slice Aq2 nq2 cq2)).setCell (p := ⟨w.heap.size, 1, none⟩) (by simp) (.slice Aa2 na2 ca2)
  have hsz2 : D ≤ ((W3.setCell ⟨w.heap.size, 0, none⟩ (.slice Aq2 nq2 cq2)).setCell ⟨w.heap.size, 1, none⟩ (.slice Aa2 na2 ca2)).heap.size := by simp; exact hDz
  generalize (W3.setCell ⟨w.heap.size, 0, none⟩ (.slice Aq2 nq2 cq2)).setCell ⟨w.heap.size, 1, none⟩ (.slice Aa2 na2 ca2) = W4 at X2 X4 hB HM2 hsz2 ⊢
  simp only [List.set_cons_zero, List.set_cons_succ] at X2
  have X2c0 : W4.cell? ⟨w.heap.size, 0, none⟩ = some (.slice Aq2 nq2 cq2) := X2.cell 0
  have X2c1 : W4.cell? ⟨w.heap.size, 1, none⟩ = some (.slice Aa2 na2 ca2) := X2.cell 1
  have X2c2 : W4.cell? ⟨w.heap.size, 2, none⟩ = some (.slice As ns cs) := X2.cell 2
  have X2c3 : W4.cell? ⟨w.heap.size, 3, none⟩ = some (.slice Ah n ch) := X2.cell 3
  have X2c4 : W4.cell? ⟨w.heap.size, 4, none⟩ = some (.slice Af nf cf) := X2.cell 4
  have z1 := X2.lt
  have X4c0 : W4.cell? ⟨w.heap.size + 1, 0, none⟩ = some (.slice none 0 0) := X4.cell 0
  have X4f0 : W4.frozen? ⟨w.heap.size + 1, 0, none⟩ = false := X4.free 0
  have X4c1 : W4.cell? ⟨w.heap.size + 1, 1, none⟩ = some (.slice none 0 0) := X4.cell 1
  have X4f1 : W4.frozen? ⟨w.heap.size + 1, 1, none⟩ = false := X4.free 1
  have X4c2 : W4.cell? ⟨w.heap.size + 1, 2, none⟩ = some (.slice none 0 0) := X4.cell 2
  have X4f2 : W4.frozen? ⟨w.heap.size + 1, 2, none⟩ = false := X4.free 2
  have X4c3 : W4.cell? ⟨w.heap.size + 1, 3, none⟩ = some (.slice none 0 0) := X4.cell 3
  have X4f3 : W4.frozen? ⟨w.heap.size + 1, 3, none⟩ = false := X4.free 3
  have X4c4 : W4.cell? ⟨w.heap.size + 1, 4, none⟩ = some (.slice none 0 0) := X4.cell 4
  have X4f4 : W4.frozen? ⟨w.heap.size + 1, 4, none⟩ = false := X4.free 4
  have X4z : w.heap.size + 1 < W4.heap.size := X4.lt
  go_wp2
  have HM3 := HM2.set5 (SlBox.of X4 (by simp)) Aq2 Aa2 As Ah Af nq2 cq2 na2 ca2 ns cs n ch nf cf
  have Y4 := (((((X4.set 0 (.slice Aq2 nq2 cq2)).set 1 (.slice Aa2 na2 ca2)).set 2 (.slice As ns cs)).set 3 (.slice Ah n ch)).set 4 (.slice Af nf cf))
  have hB := (((((hB.setCell (p := ⟨w.heap.size + 1, 0, none⟩) (by simp <;> omega) (.slice Aq2 nq2 cq2)).setCell (p := ⟨w.heap.size + 1, 1, none⟩) (by simp <;> omega) (.slice Aa2 na2 ca2)).setCell (p := ⟨w.heap.size + 1, 2, none⟩) (by simp <;> omega) (.slice As ns cs)).setCell (p := ⟨w.heap.size + 1, 3, none⟩) (by simp <;> omega) (.slice Ah n ch)).setCell (p := ⟨w.heap.size + 1, 4, none⟩) (by simp <;> omega) (.slice Af nf cf))
  have hsz3 : D ≤ (((((W4.setCell ⟨w.heap.size + 1, 0, none⟩ (.slice Aq2 nq2 cq2)).setCell ⟨w.heap.size + 1, 1, none⟩ (.slice Aa2 na2 ca2)).setCell ⟨w.heap.size + 1, 2, none⟩ (.slice As ns cs)).setCell ⟨w.heap.size + 1, 3, none⟩ (.slice Ah n ch)).setCell ⟨w.heap.size + 1, 4, none⟩ (.slice Af nf cf)).heap.size := by simp; exact hsz2
  clear X2c0 X2c1 X2c2 X2c3 X2c4 X4c0 X4c1 X4c2 X4c3 X4c4 X4f0 X4f1 X4f2 X4f3 X4f4 X4z
  generalize (((((W4.setCell ⟨w.heap.size + 1, 0, none⟩ (.slice Aq2 nq2 cq2)).setCell ⟨w.heap.size + 1, 1, none⟩ (.slice Aa2 na2 ca2)).setCell ⟨w.heap.size + 1, 2, none⟩ (.slice As ns cs)).setCell ⟨w.heap.size + 1, 3, none⟩ (.slice Ah n ch)).setCell ⟨w.heap.size + 1, 4, none⟩ (.slice Af nf cf)) = W6 at Y4 hB HM3 hsz3 ⊢
  simp only [List.set_cons_zero, List.set_cons_succ] at Y4
  have Y4c0 : W6.cell? ⟨w.heap.size + 1, 0, none⟩ = some (.slice Aq2 nq2 cq2) := Y4.cell 0
  have Y4c1 : W6.cell? ⟨w.heap.size + 1, 1, none⟩ = some (.slice Aa2 na2 ca2) := Y4.cell 1
  have Y4c2 : W6.cell? ⟨w.heap.size + 1, 2, none⟩ = some (.slice As ns cs) := Y4.cell 2
  have Y4c3 : W6.cell? ⟨w.heap.size + 1, 3, none⟩ = some (.slice Ah n ch) := Y4.cell 3
  have Y4c4 : W6.cell? ⟨w.heap.size + 1, 4, none⟩ = some (.slice Af nf cf) := Y4.cell 4
  have hX := hx.out.later hB
  refine bodyPost_ret (v := .tuple #[.agg #[.slice Aq2 nq2 cq2, .slice Aa2 na2 ca2, .slice As ns cs, .slice Ah n ch, .slice Af nf cf], .int .i64 0]) (by simp [results, Try.results44, go_sem, Y4c0, Y4c1, Y4c2, Y4c3, Y4c4]) rfl ?_
  exact ⟨_, _, _, _, _, rfl, ⟨HM3.more hsz3, hX.sent, hX.heard, hX.fresh⟩, hB, ⟨hv.b _, .inl rfl, .inl rfl⟩⟩
set_option maxRecDepth 100000 in
set_option maxHeartbeats 4000000 in
theorem oLoseV_any (b : Bx) (i : Int) (Aq Aa As Ah Af : Option Addr) (nq cq na ca ns cs n ch nf cf : Nat) (w : World) (hx : Hid (BxAt w w.heap.size (.slice Aq nq cq) (.slice Aa na ca) (.slice As ns cs) (.slice Ah n ch) (.slice Af nf cf) b)) {T : Bx × Int} (hT : Hid (b.loseT i = T)) :
    Calls Try.prog 25 #[.agg #[.slice Aq nq cq, .slice Aa na ca, .slice As ns cs, .slice Ah n ch, .slice Af nf cf], .int .i64 i] w (RetBxV T.1 #[.int .i64 T.2] (.slice Aa na ca) (.slice As ns cs) (.slice Ah n ch) w) := by
  go_enter Try.func25, Try.ntmps25
  have hB := ((Below.refl w.heap.size w).alloc (Nat.le_refl _) (.cells #[.slice Aq nq cq, .slice Aa na ca, .slice As ns cs, .slice Ah n ch, .slice Af nf cf] 30)).alloc (by simp) (.cells #[.slice none 0 0, .slice none 0 0, .slice none 0 0, .slice none 0 0, .slice none 0 0] 30)
  have X2 := (Box.new w [.slice Aq nq cq, .slice Aa na ca, .slice As ns cs, .slice Ah n ch, .slice Af nf cf] 30).alloc (.cells #[.slice none 0 0, .slice none 0 0, .slice none 0 0, .slice none 0 0, .slice none 0 0] 30)
  have X4 := Box.newAt (w := w.alloc (.cells #[.slice Aq nq cq, .slice Aa na ca, .slice As ns cs, .slice Ah n ch, .slice Af nf cf] 30)) (n := w.heap.size + 1) [.slice none 0 0, .slice none 0 0, .slice none 0 0, .slice none 0 0, .slice none 0 0] 30 (by simp)
  go_upto_region 1 with fail
  generalize (w.alloc (.cells #[.slice Aq nq cq, .slice Aa na ca, .slice As ns cs, .slice Ah n ch, .slice Af nf cf] 30)).alloc (.cells #[.slice none 0 0, .slice none 0 0, .slice none 0 0, .slice none 0 0, .slice none 0 0] 30) = w1 at hB X2 X4 ⊢
  have z1 := X2.lt
  have X2c0 : w1.cell? ⟨w.heap.size, 0, none⟩ = some (.slice Aq nq cq) := X2.cell 0
  have X2c1 : w1.cell? ⟨w.heap.size, 1, none⟩ = some (.slice Aa na ca) := X2.cell 1
  have X2c2 : w1.cell? ⟨w.heap.size, 2, none⟩ = some (.slice As ns cs) := X2.cell 2
  have X2c3 : w1.cell? ⟨w.heap.size, 3, none⟩ = some (.slice Ah n ch) := X2.cell 3
  have X2c4 : w1.cell? ⟨w.heap.size, 4, none⟩ = some (.slice Af nf cf) := X2.cell 4
  go_wp2_with fail
  refine (oDoLoseV_any b i _ _ _ _ _ _ _ _ _ _ _ _ _ _ _ _ (Lib.hid (hx.out.later hB)) hT).mono ?_
  rintro e w3 ⟨Vq, Va, Vs, Vh, Vf, rfl, hX, hb, h3⟩
  have h3 := h3.mono hB.size
  obtain ⟨Aq2, nq2, cq2, Aa2, na2, ca2, As2, ns2, cs2, Ah2, n2, ch2, Af2, nf2, cf2, rfl, rfl, rfl, rfl, rfl⟩ := hX.forms5
  have hB := hB.trans (hb.mono hB.size)
  have X4 := X4.later hb
  clear hb z1 X2c0 X2c1 X2c2 X2c3 X2c4 X2
  have X4c0 : w3.cell? ⟨w.heap.size + 1, 0, none⟩ = some (.slice none 0 0) := X4.cell 0
  have X4f0 : w3.frozen? ⟨w.heap.size + 1, 0, none⟩ = false := X4.free 0
  have X4c1 : w3.cell? ⟨w.heap.size + 1, 1, none⟩ = some (.slice none 0 0) := X4.cell 1
  have X4f1 : w3.frozen? ⟨w.heap.size + 1, 1, none⟩ = false := X4.free 1
  have X4c2 : w3.cell? ⟨w.heap.size + 1, 2, none⟩ = some (.slice none 0 0) := X4.cell 2
  have X4f2 : w3.frozen? ⟨w.heap.size + 1, 2, none⟩ = false := X4.free 2
  have X4c3 : w3.cell? ⟨w.heap.size + 1, 3, none⟩ = some (.slice none 0 0) := X4.cell 3
  have X4f3 : w3.frozen? ⟨w.heap.size + 1, 3, none⟩ = false := X4.free 3
  have X4c4 : w3.cell? ⟨w.heap.size + 1, 4, none⟩ = some (.slice none 0 0) := X4.cell 4
  have X4f4 : w3.frozen? ⟨w.heap.size + 1, 4, none⟩ = false := X4.free 4
  have X4z : w.heap.size + 1 < w3.heap.size := X4.lt
  go_wp2
  have HX := hX.set5 (SlBox.of X4 (by simp)) Aq2 Aa2 As2 Ah2 Af2 nq2 cq2 na2 ca2 ns2 cs2 n2 ch2 nf2 cf2
  have Y4 := (((((X4.set 0 (.slice Aq2 nq2 cq2)).set 1 (.slice Aa2 na2 ca2)).set 2 (.slice As2 ns2 cs2)).set 3 (.slice Ah2 n2 ch2)).set 4 (.slice Af2 nf2 cf2))
  have hB := (((((hB.setCell (p := ⟨w.heap.size + 1, 0, none⟩) (by simp <;> omega) (.slice Aq2 nq2 cq2)).setCell (p := ⟨w.heap.size + 1, 1, none⟩) (by simp <;> omega) (.slice Aa2 na2 ca2)).setCell (p := ⟨w.heap.size + 1, 2, none⟩) (by simp <;> omega) (.slice As2 ns2 cs2)).setCell (p := ⟨w.heap.size + 1, 3, none⟩) (by simp <;> omega) (.slice Ah2 n2 ch2)).setCell (p := ⟨w.heap.size + 1, 4, none⟩) (by simp <;> omega) (.slice Af2 nf2 cf2))
  have hsz : w3.heap.size ≤ (((((w3.setCell ⟨w.heap.size + 1, 0, none⟩ (.slice Aq2 nq2 cq2)).setCell ⟨w.heap.size + 1, 1, none⟩ (.slice Aa2 na2 ca2)).setCell ⟨w.heap.size + 1, 2, none⟩ (.slice As2 ns2 cs2)).setCell ⟨w.heap.size + 1, 3, none⟩ (.slice Ah2 n2 ch2)).setCell ⟨w.heap.size + 1, 4, none⟩ (.slice Af2 nf2 cf2)).heap.size := by simp
  clear X4c0 X4c1 X4c2 X4c3 X4c4 X4f0 X4f1 X4f2 X4f3 X4f4 X4z
  generalize (((((w3.setCell ⟨w.heap.size + 1, 0, none⟩ (.slice Aq2 nq2 cq2)).setCell ⟨w.heap.size + 1, 1, none⟩ (.slice Aa2 na2 ca2)).setCell ⟨w.heap.size + 1, 2, none⟩ (.slice As2 ns2 cs2)).setCell ⟨w.heap.size + 1, 3, none⟩ (.slice Ah2 n2 ch2)).setCell ⟨w.heap.size + 1, 4, none⟩ (.slice Af2 nf2 cf2)) = W6 at Y4 hB HX hsz ⊢
  simp only [List.set_cons_zero, List.set_cons_succ] at Y4
  have Y4c0 : W6.cell? ⟨w.heap.size + 1, 0, none⟩ = some (.slice Aq2 nq2 cq2) := Y4.cell 0
  have Y4c1 : W6.cell? ⟨w.heap.size + 1, 1, none⟩ = some (.slice Aa2 na2 ca2) := Y4.cell 1
  have Y4c2 : W6.cell? ⟨w.heap.size + 1, 2, none⟩ = some (.slice As2 ns2 cs2) := Y4.cell 2
  have Y4c3 : W6.cell? ⟨w.heap.size + 1, 3, none⟩ = some (.slice Ah2 n2 ch2) := Y4.cell 3
  have Y4c4 : W6.cell? ⟨w.heap.size + 1, 4, none⟩ = some (.slice Af2 nf2 cf2) := Y4.cell 4
  refine bodyPost_ret (v := .tuple #[.agg #[.slice Aq2 nq2 cq2, .slice Aa2 na2 ca2, .slice As2 ns2 cs2, .slice Ah2 n2 ch2, .slice Af2 nf2 cf2], .int .i64 T.2]) (by simp [results, Try.results25, go_sem, Y4c0, Y4c1, Y4c2, Y4c3, Y4c4]) rfl ?_
  exact ⟨_, _, _, _, _, rfl, HX.more hsz, hB, h3⟩
set_option maxRecDepth 100000 in
set_option maxHeartbeats 4000000 in
theorem oRepeatV_any (b : Bx) (i : Int) (Aq Aa As Ah Af : Option Addr) (nq cq na ca ns cs n ch nf cf : Nat) (w : World) (hx : Hid (BxAt w w.heap.size (.slice Aq nq cq) (.slice Aa na ca) (.slice As ns cs) (.slice Ah n ch) (.slice Af nf cf) b)) {T : Bx × Int} (hT : Hid (b.repeatT i = T)) :
    Calls Try.prog 21 #[.agg #[.slice Aq nq cq, .slice Aa na ca, .slice As ns cs, .slice Ah n ch, .slice Af nf cf], .int .i64 i] w (RetBxV T.1 #[.int .i64 T.2] (.slice Aa na ca) (.slice As ns cs) (.slice Ah n ch) w) := by
  go_enter Try.func21, Try.ntmps21
  have hB := ((Below.refl w.heap.size w).alloc (Nat.le_refl _) (.cells #[.slice Aq nq cq, .slice Aa na ca, .slice As ns cs, .slice Ah n ch, .slice Af nf cf] 30)).alloc (by simp) (.cells #[.slice none 0 0, .slice none 0 0, .slice none 0 0, .slice none 0 0, .slice none 0 0] 30)
  have X2 := (Box.new w [.slice Aq nq cq, .slice Aa na ca, .slice As ns cs, .slice Ah n ch, .slice Af nf cf] 30).alloc (.cells #[.slice none 0 0, .slice none 0 0, .slice none 0 0, .slice none 0 0, .slice none 0 0] 30)
  have X4 := Box.newAt (w := w.alloc (.cells #[.slice Aq nq cq, .slice Aa na ca, .slice As ns cs, .slice Ah n ch, .slice Af nf cf] 30)) (n := w.heap.size + 1) [.slice none 0 0, .slice none 0 0, .slice none 0 0, .slice none 0 0, .slice none 0 0] 30 (by simp)
  go_upto_region 1 with fail
  generalize (w.alloc (.cells #[.slice Aq nq cq, .slice Aa na ca, .slice As ns cs, .slice Ah n ch, .slice Af nf cf] 30)).alloc (.cells #[.slice none 0 0, .slice none 0 0, .slice none 0 0, .slice none 0 0, .slice none 0 0] 30) = w1 at hB X2 X4 ⊢
  have z1 := X2.lt
  have X2c0 : w1.cell? ⟨w.heap.size, 0, none⟩ = some (.slice Aq nq cq) := X2.cell 0
  have X2c1 : w1.cell? ⟨w.heap.size, 1, none⟩ = some (.slice Aa na ca) := X2.cell 1
  have X2c2 : w1.cell? ⟨w.heap.size, 2, none⟩ = some (.slice As ns cs) := X2.cell 2
  have X2c3 : w1.cell? ⟨w.heap.size, 3, none⟩ = some (.slice Ah n ch) := X2.cell 3
  have X2c4 : w1.cell? ⟨w.heap.size, 4, none⟩ = some (.slice Af nf cf) := X2.cell 4
  go_wp2_with fail
  refine (oDoRepeatV_any b i _ _ _ _ _ _ _ _ _ _ _ _ _ _ _ _ (Lib.hid (hx.out.later hB)) hT).mono ?_
  rintro e w3 ⟨Vq, Va, Vs, Vh, Vf, rfl, hX, hb, h3⟩
  have h3 := h3.mono hB.size
  obtain ⟨Aq2, nq2, cq2, Aa2, na2, ca2, As2, ns2, cs2, Ah2, n2, ch2, Af2, nf2, cf2, rfl, rfl, rfl, rfl, rfl⟩ := hX.forms5
  have hB := hB.trans (hb.mono hB.size)
  have X4 := X4.later hb
  clear hb z1 X2c0 X2c1 X2c2 X2c3 X2c4 X2
  have X4c0 : w3.cell? ⟨w.heap.size + 1, 0, none⟩ = some (.slice none 0 0) := X4.cell 0
  have X4f0 : w3.frozen? ⟨w.heap.size + 1, 0, none⟩ = false := X4.free 0
  have X4c1 : w3.cell? ⟨w.heap.size + 1, 1, none⟩ = some (.slice none 0 0) := X4.cell 1
  have X4f1 : w3.frozen? ⟨w.heap.size + 1, 1, none⟩ = false := X4.free 1
  have X4c2 : w3.cell? ⟨w.heap.size + 1, 2, none⟩ = some (.slice none 0 0) := X4.cell 2
  have X4f2 : w3.frozen? ⟨w.heap.size + 1, 2, none⟩ = false := X4.free 2
  have X4c3 : w3.cell? ⟨w.heap.size + 1, 3, none⟩ = some (.slice none 0 0) := X4.cell 3
  have X4f3 : w3.frozen? ⟨w.heap.size + 1, 3, none⟩ = false := X4.free 3
  have X4c4 : w3.cell? ⟨w.heap.size + 1, 4, none⟩ = some (.slice none 0 0) := X4.cell 4
  have X4f4 : w3.frozen? ⟨w.heap.size + 1, 4, none⟩ = false := X4.free 4
  have X4z : w.heap.size + 1 < w3.heap.size := X4.lt
  go_wp2
  have HX := hX.set5 (SlBox.of X4 (by simp)) Aq2 Aa2 As2 Ah2 Af2 nq2 cq2 na2 ca2 ns2 cs2 n2 ch2 nf2 cf2
  have Y4 := (((((X4.set 0 (.slice Aq2 nq2 cq2)).set 1 (.slice Aa2 na2 ca2)).set 2 (.slice As2 ns2 cs2)).set 3 (.slice Ah2 n2 ch2)).set 4 (.slice Af2 nf2 cf2))
  have hB := (((((hB.setCell (p := ⟨w.heap.size + 1, 0, none⟩) (by simp <;> omega) (.slice Aq2 nq2 cq2)).setCell (p := ⟨w.heap.size + 1, 1, none⟩) (by simp <;> omega) (.slice Aa2 na2 ca2)).setCell (p := ⟨w.heap.size + 1, 2, none⟩) (by simp <;> omega) (.slice As2 ns2 cs2)).setCell (p := ⟨w.heap.size + 1, 3, none⟩) (by simp <;> omega) (.slice Ah2 n2 ch2)).setCell (p := ⟨w.heap.size + 1, 4, none⟩) (by simp <;> omega) (.slice Af2 nf2 cf2))
  have hsz : w3.heap.size ≤ (((((w3.setCell ⟨w.heap.size + 1, 0, none⟩ (.slice Aq2 nq2 cq2)).setCell ⟨w.heap.size + 1, 1, none⟩ (.slice Aa2 na2 ca2)).setCell ⟨w.heap.size + 1, 2, none⟩ (.slice As2 ns2 cs2)).setCell ⟨w.heap.size + 1, 3, none⟩ (.slice Ah2 n2 ch2)).setCell ⟨w.heap.size + 1, 4, none⟩ (.slice Af2 nf2 cf2)).heap.size := by simp
  clear X4c0 X4c1 X4c2 X4c3 X4c4 X4f0 X4f1 X4f2 X4f3 X4f4 X4z
  generalize (((((w3.setCell ⟨w.heap.size + 1, 0, none⟩ (.slice Aq2 nq2 cq2)).setCell ⟨w.heap.size + 1, 1, none⟩ (.slice Aa2 na2 ca2)).setCell ⟨w.heap.size + 1, 2, none⟩ (.slice As2 ns2 cs2)).setCell ⟨w.heap.size + 1, 3, none⟩ (.slice Ah2 n2 ch2)).setCell ⟨w.heap.size + 1, 4, none⟩ (.slice Af2 nf2 cf2)) = W6 at Y4 hB HX hsz ⊢
  simp only [List.set_cons_zero, List.set_cons_succ] at Y4
  have Y4c0 : W6.cell? ⟨w.heap.size + 1, 0, none⟩ = some (.slice Aq2 nq2 cq2) := Y4.cell 0
  have Y4c1 : W6.cell? ⟨w.heap.size + 1, 1, none⟩ = some (.slice Aa2 na2 ca2) := Y4.cell 1
  have Y4c2 : W6.cell? ⟨w.heap.size + 1, 2, none⟩ = some (.slice As2 ns2 cs2) := Y4.cell 2
  have Y4c3 : W6.cell? ⟨w.heap.size + 1, 3, none⟩ = some (.slice Ah2 n2 ch2) := Y4.cell 3
  have Y4c4 : W6.cell? ⟨w.heap.size + 1, 4, none⟩ = some (.slice Af2 nf2 cf2) := Y4.cell 4
  refine bodyPost_ret (v := .tuple #[.agg #[.slice Aq2 nq2 cq2, .slice Aa2 na2 ca2, .slice As2 ns2 cs2, .slice Ah2 n2 ch2, .slice Af2 nf2 cf2], .int .i64 T.2]) (by simp [results, Try.results21, go_sem, Y4c0, Y4c1, Y4c2, Y4c3, Y4c4]) rfl ?_
  exact ⟨_, _, _, _, _, rfl, HX.more hsz, hB, h3⟩
end
section
attribute [local go_sem] Oper.semAt_some
attribute [local go_sem ↓ high] app_named
set_option maxRecDepth 100000 in
set_option maxHeartbeats 4000000 in
theorem oTickV_any (b : Bx) (Aq Aa As Ah Af : Option Addr) (nq cq na ca ns cs n ch nf cf : Nat) (w : World) (hx : Hid (BxAt w w.heap.size (.slice Aq nq cq) (.slice Aa na ca) (.slice As ns cs) (.slice Ah n ch) (.slice Af nf cf) b)) (hns : Hid (b.sent.length = ns)) (hn : Hid (b.heard.length = n)) (hnf : Hid (b.fresh.length = nf)) {T : Bx × List Int × Int} (hT : Hid (b.tickT = T)) :
    Calls Try.prog 17 #[.agg #[.slice Aq nq cq, .slice Aa na ca, .slice As ns cs, .slice Ah n ch, .slice Af nf cf]] w (RetTickV T (.slice Aa na ca) (.slice As ns cs) (.slice Ah n ch) w) := by
  refine calls_of_wp_marksN Try.func17 rfl ?_
  simp only [Try.ntmps17, List.size_toArray, List.length_cons, List.length_nil, Nat.reduceAdd, Nat.reduceSub, Array.replicate_succ, Array.replicate_zero, List.push_toArray, List.append_toArray, List.nil_append, List.cons_append]
  have hB := (((Below.refl w.heap.size w).alloc (Nat.le_refl _) (.cells #[.slice Aq nq cq, .slice Aa na ca, .slice As ns cs, .slice Ah n ch, .slice Af nf cf] 30)).alloc (by simp) (.cells #[.slice none 0 0, .slice none 0 0, .slice none 0 0, .slice none 0 0, .slice none 0 0] 30)).alloc (by simp <;> omega) (.cells #[.slice none 0 0] 27)
  have X1 := ((Box.new w [.slice Aq nq cq, .slice Aa na ca, .slice As ns cs, .slice Ah n ch, .slice Af nf cf] 30).alloc (.cells #[.slice none 0 0, .slice none 0 0, .slice none 0 0, .slice none 0 0, .slice none 0 0] 30)).alloc (.cells #[.slice none 0 0] 27)
  have X2 := (Box.newAt (w := w.alloc (.cells #[.slice Aq nq cq, .slice Aa na ca, .slice As ns cs, .slice Ah n ch, .slice Af nf cf] 30)) (n := w.heap.size + 1) [.slice none 0 0, .slice none 0 0, .slice none 0 0, .slice none 0 0, .slice none 0 0] 30 (by simp)).alloc (.cells #[.slice none 0 0] 27)
  have X3 := Box.newAt (w := (w.alloc (.cells #[.slice Aq nq cq, .slice Aa na ca, .slice As ns cs, .slice Ah n ch, .slice Af nf cf] 30)).alloc (.cells #[.slice none 0 0, .slice none 0 0, .slice none 0 0, .slice none 0 0, .slice none 0 0] 30)) (n := w.heap.size + 1 + 1) [.slice none 0 0] 27 (by simp)
  go_upto_region 1 with fail
  generalize ((w.alloc (.cells #[.slice Aq nq cq, .slice Aa na ca, .slice As ns cs, .slice Ah n ch, .slice Af nf cf] 30)).alloc (.cells #[.slice none 0 0, .slice none 0 0, .slice none 0 0, .slice none 0 0, .slice none 0 0] 30)).alloc (.cells #[.slice none 0 0] 27) = w1 at hB X1 X2 X3 ⊢
  have z1 := X1.lt
  have X1c0 : w1.cell? ⟨w.heap.size, 0, none⟩ = some (.slice Aq nq cq) := X1.cell 0
  have X1c1 : w1.cell? ⟨w.heap.size, 1, none⟩ = some (.slice Aa na ca) := X1.cell 1
  have X1c2 : w1.cell? ⟨w.heap.size, 2, none⟩ = some (.slice As ns cs) := X1.cell 2
  have X1c3 : w1.cell? ⟨w.heap.size, 3, none⟩ = some (.slice Ah n ch) := X1.cell 3
  have X1c4 : w1.cell? ⟨w.heap.size, 4, none⟩ = some (.slice Af nf cf) := X1.cell 4
  obtain ⟨c, hc⟩ : ∃ c, Hid (b.checkT = c) := ⟨_, Lib.hid rfl⟩
  go_wp2_with fail
  refine (oCheck_is hc (hx.out.later hB)).mono ?_
  rintro e w2 ⟨rfl, hb⟩
  have hB := hB.trans (hb.mono hB.size)
  have X1 := X1.later hb
  have X2 := X2.later hb
  have X3 := X3.later hb
  clear hb z1 X1c0 X1c1 X1c2 X1c3 X1c4
  by_cases h0 : c = 0
  rotate_left
  · have d0 : (c != 0) = true := by simp [h0]
    obtain rfl := (tick_no hc.out h0).symm.trans hT.out
    have X2c0 : w2.cell? ⟨w.heap.size + 1, 0, none⟩ = some (.slice none 0 0) := X2.cell 0
    have X2f0 : w2.frozen? ⟨w.heap.size + 1, 0, none⟩ = false := X2.free 0
    have X2c1 : w2.cell? ⟨w.heap.size + 1, 1, none⟩ = some (.slice none 0 0) := X2.cell 1
    have X2f1 : w2.frozen? ⟨w.heap.size + 1, 1, none⟩ = false := X2.free 1
    have X2c2 : w2.cell? ⟨w.heap.size + 1, 2, none⟩ = some (.slice none 0 0) := X2.cell 2
    have X2f2 : w2.frozen? ⟨w.heap.size + 1, 2, none⟩ = false := X2.free 2
    have X2c3 : w2.cell? ⟨w.heap.size + 1, 3, none⟩ = some (.slice none 0 0) := X2.cell 3
    have X2f3 : w2.frozen? ⟨w.heap.size + 1, 3, none⟩ = false := X2.free 3
    have X2c4 : w2.cell? ⟨w.heap.size + 1, 4, none⟩ = some (.slice none 0 0) := X2.cell 4
    have X2f4 : w2.frozen? ⟨w.heap.size + 1, 4, none⟩ = false := X2.free 4
    have X2z : w.heap.size + 1 < w2.heap.size := X2.lt
    have X3c0 : w2.cell? ⟨w.heap.size + 1 + 1, 0, none⟩ = some (.slice none 0 0) := X3.cell 0
    have X3f0 : w2.frozen? ⟨w.heap.size + 1 + 1, 0, none⟩ = false := X3.free 0
    have X3z : w.heap.size + 1 + 1 < w2.heap.size := X3.lt
    have Y2 := ((((((X2.set 0 (.slice none 0 0)).set 1 (.slice none 0 0)).set 2 (.slice none 0 0)).set 3 (.slice none 0 0)).set 4 (.slice none 0 0))).other (a := ⟨w.heap.size + 1 + 1, 0, none⟩) (by simp) (.slice none 0 0)
    have Y3 := ((((((X3.other (a := ⟨w.heap.size + 1, 0, none⟩) (by simp <;> omega) (.slice none 0 0)).other (a := ⟨w.heap.size + 1, 1, none⟩) (by simp <;> omega) (.slice none 0 0)).other (a := ⟨w.heap.size + 1, 2, none⟩) (by simp <;> omega) (.slice none 0 0)).other (a := ⟨w.heap.size + 1, 3, none⟩) (by simp <;> omega) (.slice none 0 0)).other (a := ⟨w.heap.size + 1, 4, none⟩) (by simp <;> omega) (.slice none 0 0))).set 0 (.slice none 0 0)
    have hB2 := ((((((hB.setCell (p := ⟨w.heap.size + 1, 0, none⟩) (by simp <;> omega) (.slice none 0 0)).setCell (p := ⟨w.heap.size + 1, 1, none⟩) (by simp <;> omega) (.slice none 0 0)).setCell (p := ⟨w.heap.size + 1, 2, none⟩) (by simp <;> omega) (.slice none 0 0)).setCell (p := ⟨w.heap.size + 1, 3, none⟩) (by simp <;> omega) (.slice none 0 0)).setCell (p := ⟨w.heap.size + 1, 4, none⟩) (by simp <;> omega) (.slice none 0 0))).setCell (p := ⟨w.heap.size + 1 + 1, 0, none⟩) (by simp <;> omega) (.slice none 0 0)
    go_wp2
    clear X2c0 X2c1 X2c2 X2c3 X2c4 X2f0 X2f1 X2f2 X2f3 X2f4 X2z X3c0 X3f0 X3z
    generalize ((((((w2.setCell ⟨w.heap.size + 1, 0, none⟩ (.slice none 0 0)).setCell ⟨w.heap.size + 1, 1, none⟩ (.slice none 0 0)).setCell ⟨w.heap.size + 1, 2, none⟩ (.slice none 0 0)).setCell ⟨w.heap.size + 1, 3, none⟩ (.slice none 0 0)).setCell ⟨w.heap.size + 1, 4, none⟩ (.slice none 0 0))).setCell ⟨w.heap.size + 1 + 1, 0, none⟩ (.slice none 0 0) = W at Y2 Y3 hB2 ⊢
    have y0 := Y2.cell 0
    have y1 := Y2.cell 1
    have y2 := Y2.cell 2
    have y3 := Y2.cell 3
    have y4 := Y2.cell 4
    have y5 := Y3.cell 0
    refine ⟨_, (by simp [results, Try.results17, go_sem, y0, y1, y2, y3, y4, y5] : _ = Result.ok (.tuple #[.agg #[.slice none 0 0, .slice none 0 0, .slice none 0 0, .slice none 0 0, .slice none 0 0], .slice none 0 0, .int .i64 c]) _), ?_⟩
    exact ⟨_, _, _, _, _, _, rfl, bxAt_zero _ _, hdAt_nil _ _, hB2, Nw3.zero _ _ _ _⟩
  subst h0
  have hok := check_ok hc.out
  obtain ⟨hl1, hl2, hl3, -, -⟩ := okB_parts hok
  have HG := Lib.hid hl3
  have hl1 := of_decide_eq_true hl1
  rw [hn.out, hns.out, hnf.out] at hl1
  have HS := Lib.hid hl2
  have HOK := Lib.hid hok
  obtain ⟨⟨hn1, hn8⟩, hl2', hn4⟩ := hl1
  obtain rfl : nf = n := hl2'
  clear hok hl2 hl3
  have z1 := X1.lt
  have X1c0 : w2.cell? ⟨w.heap.size, 0, none⟩ = some (.slice Aq nq cq) := X1.cell 0
  have X1c1 : w2.cell? ⟨w.heap.size, 1, none⟩ = some (.slice Aa na ca) := X1.cell 1
  have X1c2 : w2.cell? ⟨w.heap.size, 2, none⟩ = some (.slice As ns cs) := X1.cell 2
  have X1c3 : w2.cell? ⟨w.heap.size, 3, none⟩ = some (.slice Ah nf ch) := X1.cell 3
  have X1c4 : w2.cell? ⟨w.heap.size, 4, none⟩ = some (.slice Af nf cf) := X1.cell 4
  go_wp2_with fail
  refine (oGates_any (.slice Aq nq cq) (.slice Aa na ca) (.slice As ns cs) (.slice Ah nf ch) (.slice Af nf cf) w2).mono ?_
  rintro e w3 ⟨rfl, Xg, hb⟩
  have hz3 := X3.lt
  have X1 := X1.later hb
  have X2 := X2.later hb
  have X3 := X3.later hb
  have hs1 := hB.size
  have hB := hB.trans (hb.mono hB.size)
  have hXg := Xg.lt
  clear hb z1 X1c0 X1c1 X1c2 X1c3 X1c4
  generalize w2.heap.size = Bg at Xg hs1 hXg hz3 ⊢
  go_wp2_with fail
  have hsz := hB.size
  have hX1 := X1.lt
  have hX2 := X2.lt
  have HB := hx.out.heard.below hB
  have hbd : ∀ k, k < nf → (0 ≤ b.h k ∧ b.h k ≤ (ns : Int)) := fun k hk => by
    have h9 := HG.out k (by rw [hn.out]; exact hk)
    unfold Bx.gateB at h9
    split at h9
    · omega
    · have h8 := of_decide_eq_true h9
      rw [hns.out] at h8
      omega
  have HBD := Lib.hid hbd
  obtain ⟨i9, E9⟩ := oElemI
  refine wpIn_wide.1 (wpIn_rangeN_out (n := 6) rfl (by omega) (gf := 65) (lb := #[.pointer (some ⟨Bg, 0, none⟩)]) rfl trivial (enters_of Try.func65 (by kernel_rfl) rfl)
    (Kp := fun A B => KeepsC w.heap.size (fun x => x = w.heap.size + 1 + 1 ∨ w3.heap.size ≤ x) A B)
    (fun A B C h1 h2 => h1.trans h2)
    (fun W l o o' hl ho hc => KeepsC.put ho hc (by omega) _)
    (oGates_seq 5 b nf ch Ah (.slice Aq nq cq) (.slice Aa na ca) (.slice As ns cs) (.slice Af nf cf) Bg w3 w.heap.size (fun x => x = w.heap.size + 1 + 1 ∨ w3.heap.size ≤ x) hn.out hn8 HB Xg (by omega) hsz (fun j hj => by have := hbd j hj; omega) _ (fun _ _ h => h)) (Below.refl _ _) (fun _ => rfl)
    (fun pre W => w3.heap.size ≤ W.heap.size ∧ Below w.heap.size w W ∧ Box W w.heap.size [.slice Aq nq cq, .slice Aa na ca, .slice As ns cs, .slice Ah nf ch, .slice Af nf cf] ∧ Box W (w.heap.size + 1) [.slice none 0 0, .slice none 0 0, .slice none 0 0, .slice none 0 0, .slice none 0 0] ∧ ∃ V, Box W (w.heap.size + 1 + 1) [V] ∧ Hid (OwnHd W w3.heap.size V (pre.map b.orderB)))
    (fun cc pre W => False)
    ?hI ?hIx ?h0
    (fun pre q a' W => w3.heap.size ≤ W.heap.size ∧ q < nf ∧ pre = List.range q ∧ Below w.heap.size w W ∧ Box W w.heap.size [.slice Aq nq cq, .slice Aa na ca, .slice As ns cs, .slice Ah nf ch, .slice Af nf cf] ∧ Box W (w.heap.size + 1) [.slice none 0 0, .slice none 0 0, .slice none 0 0, .slice none 0 0, .slice none 0 0] ∧ (∃ V, Box W (w.heap.size + 1 + 1) [V] ∧ Hid (OwnHd W w3.heap.size V ((List.range q).map b.orderB))) ∧ a' = { tmps := #[.agg #[.slice Aq nq cq, .slice Aa na ca, .slice As ns cs, .slice Ah nf ch, .slice Af nf cf], .pointer (some ⟨w.heap.size, 0, none⟩), .pointer (some ⟨w.heap.size + 1, 0, none⟩), .pointer (some ⟨w.heap.size + 1 + 1, 0, none⟩), .int .i64 0, .int .i64 (q : Int), .int .i64 (b.h q - 1), undef, .agg #[.slice Aq nq cq, .slice Aa na ca, .slice As ns cs, .slice Ah nf ch, .slice Af nf cf], .int .i64 0, .int .i64 0, .bool false, undef, undef, .agg #[.slice Aq nq cq, .slice Aa na ca, .slice As ns cs, .slice Ah nf ch, .slice Af nf cf], .func (.func 65) #[] #[.pointer (some ⟨Bg, 0, none⟩)], .int .i64 (q : Int), .int .i64 (b.h q - 1), undef, undef, undef, undef, undef, undef, undef, undef, undef, undef, undef, undef, undef, undef, undef, undef, undef, undef, undef, undef, undef, undef], defers := [] })
    ?hAx ?assign ?body ?done ?stop)
  case hI =>
    rintro pre A l o r hl ho ⟨h1, h2, h3, h4, V, h5, h6⟩
    exact ⟨by simpa using h1, h2.trans (below_put3 (by omega) _), h3.record ho rfl _, h4.record ho rfl _, V, h5.record ho rfl _, Lib.hid (h6.out.record ho rfl _)⟩
  case hIx =>
    rintro cc pre A l o r hl ho h
    exact h
  case h0 =>
    intro W hb
    exact ⟨hb.size, hB.trans (hb.mono hsz), X1.under hb hX1, X2.under hb hX2, _, X3.under hb (by omega), Lib.hid (ownE_nil _ _ _ _ _)⟩
  case hAx =>
    rintro pre q a' A l o o' hl ho hc ⟨h1, h2, h3, h4, h5, h6, ⟨V, h7, h8⟩, rfl⟩
    exact ⟨by simpa using h1, h2, h3, h4.trans (below_put3 (by omega) _), h5.record ho hc _, h6.record ho hc _, ⟨V, h7.record ho hc _, Lib.hid (h8.out.record ho hc _)⟩, rfl⟩
  case assign =>
    rintro l pre q W K ⟨h1, h2, h3, h4, h5⟩ ⟨rfl, hqn⟩ hK
    gi_wp2
    exact hK _ _ (KeepsFrom.ofBelow (Below.refl _ _)) (KeepsC.refl _ _ _) ⟨h1, hqn, by trivial, h2, h3, h4, h5, rfl⟩
  case body =>
    rintro l pre q a' W hl ⟨r0, hr0⟩ ⟨hsW, hqn, rfl, hBW, X1W, X2W, ⟨V, X3W, hO⟩, rfl⟩
    have hu := HBD.out q hqn
    have hq2 : q < b.heard.length := by rw [hn.out]; exact hqn
    have hga := HG.out q hq2
    have hob : b.orderB q = if b.f q = true then (b.at (b.h q - 1)).2 else -1 := rfl
    have hgb : b.gateB q = if b.h q = 0 then !b.f q else decide (0 ≤ b.h q ∧ b.h q ≤ (b.sent.length : Int) ∧ (b.at (b.h q - 1)).1 = (q : Int)) := rfl
    rw [hgb] at hga
    clear hgb
    obtain ⟨bf, off, rfl, hbf, cf0⟩ := hx.out.fresh.2.one (k := q) (by rw [hnf.out]; exact hqn)
    replace cf0 : W.cell? ⟨bf, off + q, none⟩ = some (.bool (b.f q)) := (hBW.cell hbf).trans cf0
    have hfz := Nat.lt_of_lt_of_le hbf hBW.size
    have z1 := X1W.lt
    have z3 := X3W.lt
    have w12 : W.cell? ⟨w.heap.size, 2, none⟩ = some (.slice As ns cs) := X1W.cell 2
    have w14 : W.cell? ⟨w.heap.size, 4, none⟩ = some (.slice (some ⟨bf, off, none⟩) nf cf) := X1W.cell 4
    have HLQ := Lib.hid (show ((List.range q).map b.orderB).length = q by simp)
    obtain ⟨ov, hov⟩ : ∃ ov, b.orderB q = ov := ⟨_, rfl⟩
    have HRQ := Lib.hid (show (List.range q ++ [q]).map b.orderB = (List.range q).map b.orderB ++ [ov] by rw [List.map_append, List.map_cons, List.map_nil, hov])
    rw [hov] at hob
    clear hov
    have hbS := (Below.refl W.heap.size W).alloc (Nat.le_refl _) (.cells #[.int .i64 ov] 3)
    have hzS := hbS.size
    have XN := Box.new W [.int .i64 ov] 3
    have hO3 := hO.out.later hbS
    obtain ⟨g', c', w', hr, hO4, hgr⟩ := run_appE E9 (fun _ => rfl) oOneI (by omega) ov 27 hO3 XN (by omega) (by rw [HLQ.out]; omega)
    rw [HLQ.out] at hO4 hr
    have hB2 := OwnE.grown hO3 hgr (by omega) (hBW.trans (hbS.mono hBW.size)) (by have := hBW.size; omega)
    have X12 := box_grown hO3 hgr (X1W.later hbS) (by omega)
    have X22 := box_grown hO3 hgr (X2W.later hbS) (by omega)
    have X32 := box_grown hO3 hgr (X3W.later hbS) (by omega)
    have kf := ((KeepsFrom.ofBelow hbS).trans (OwnE.kfGrown hO3 hgr w3.heap.size)).trans (KeepsFrom.ofBox (i := 0) X32 (.slice (some ⟨g', 0, none⟩) (q + 1) c'))
    have kc := (KeepsC.of (R := (fun x => x = w.heap.size + 1 + 1 ∨ w3.heap.size ≤ x)) hbS (show w.heap.size ≤ W.heap.size by omega)).trans ((OwnE.kcGrown hO3 hgr (by omega) (by omega) (fun b h => .inr h)).trans (KeepsC.set w' (a := ⟨w.heap.size + 1 + 1, 0, none⟩) (by simp <;> omega) (.inl rfl) (.slice (some ⟨g', 0, none⟩) (q + 1) c')))
    have hsz2 : w3.heap.size ≤ w'.heap.size := by have := hgr.size; omega
    have Y3 := X32.set 0 (.slice (some ⟨g', 0, none⟩) (q + 1) c')
    have Y1 := X12.other (a := ⟨w.heap.size + 1 + 1, 0, none⟩) (by simp <;> omega) (.slice (some ⟨g', 0, none⟩) (q + 1) c')
    have Y2 := X22.other (a := ⟨w.heap.size + 1 + 1, 0, none⟩) (by simp <;> omega) (.slice (some ⟨g', 0, none⟩) (q + 1) c')
    have hB3 := hB2.setCell (p := ⟨w.heap.size + 1 + 1, 0, none⟩) (by simp <;> omega) (.slice (some ⟨g', 0, none⟩) (q + 1) c')
    have HO := Lib.hid (OwnE.set hO4 (a := ⟨w.heap.size + 1 + 1, 0, none⟩) (by simp <;> omega) (.slice (some ⟨g', 0, none⟩) (q + 1) c'))
    have x30 : (W.alloc (.cells #[.int .i64 ov] 3)).cell? ⟨w.heap.size + 1 + 1, 0, none⟩ = some V := (X3W.later hbS).cell 0
    have x3w : W.cell? ⟨w.heap.size + 1 + 1, 0, none⟩ = some V := X3W.cell 0
    have x32 : w'.cell? ⟨w.heap.size + 1 + 1, 0, none⟩ = some V := X32.cell 0
    have x3f : w'.frozen? ⟨w.heap.size + 1 + 1, 0, none⟩ = false := X32.free 0
    have x3z := X32.lt
    clear hO4 hgr hO3 hbS XN hB2 X12 X22 X32 hO
    have FIN : KeepsFrom w3.heap.size W (w'.setCell ⟨w.heap.size + 1 + 1, 0, none⟩ (.slice (some ⟨g', 0, none⟩) (q + 1) c')) ∧ KeepsC w.heap.size (fun x => x = w.heap.size + 1 + 1 ∨ w3.heap.size ≤ x) W (w'.setCell ⟨w.heap.size + 1 + 1, 0, none⟩ (.slice (some ⟨g', 0, none⟩) (q + 1) c')) ∧ w3.heap.size ≤ (w'.setCell ⟨w.heap.size + 1 + 1, 0, none⟩ (.slice (some ⟨g', 0, none⟩) (q + 1) c')).heap.size ∧ Below w.heap.size w (w'.setCell ⟨w.heap.size + 1 + 1, 0, none⟩ (.slice (some ⟨g', 0, none⟩) (q + 1) c')) ∧ Box (w'.setCell ⟨w.heap.size + 1 + 1, 0, none⟩ (.slice (some ⟨g', 0, none⟩) (q + 1) c')) w.heap.size [.slice Aq nq cq, .slice Aa na ca, .slice As ns cs, .slice Ah nf ch, .slice (some ⟨bf, off, none⟩) nf cf] ∧ Box (w'.setCell ⟨w.heap.size + 1 + 1, 0, none⟩ (.slice (some ⟨g', 0, none⟩) (q + 1) c')) (w.heap.size + 1) [.slice none 0 0, .slice none 0 0, .slice none 0 0, .slice none 0 0, .slice none 0 0] ∧ ∃ V, Box (w'.setCell ⟨w.heap.size + 1 + 1, 0, none⟩ (.slice (some ⟨g', 0, none⟩) (q + 1) c')) (w.heap.size + 1 + 1) [V] ∧ Hid (OwnHd (w'.setCell ⟨w.heap.size + 1 + 1, 0, none⟩ (.slice (some ⟨g', 0, none⟩) (q + 1) c')) w3.heap.size V ((List.range q ++ [q]).map b.orderB)) :=
      ⟨kf, kc, by simpa using hsz2, hB3, Y1, Y2, _, Y3, Lib.hid (by rw [HRQ.out]; exact HO.out)⟩
    have FIN := Lib.hid FIN
    clear kf kc hsz2 Y3 Y1 Y2 hB3 HO
    generalize b.f q = f at cf0 hob hga
    cases f with
    | false =>
      obtain rfl : ov = -1 := by rw [hob]; simp
      clear hob hga
      gi_wp2
      exact FIN.out
    | true =>
      have h1 : ¬ b.h q = 0 := fun h => by rw [if_pos h] at hga; cases hga
      rw [if_neg h1] at hga
      have h2 := of_decide_eq_true hga
      obtain ⟨j0, hj0⟩ : ∃ j0 : Nat, b.h q - 1 = (j0 : Int) := ⟨(b.h q - 1).toNat, by omega⟩
      have hjk : j0 < ns := by omega
      obtain ⟨bs, os, rfl, hbs, hc⟩ := hx.out.sent.lk (by rw [hns.out]; omega)
      have s1 := (hBW.cell hbs).trans (hc j0 (by rw [hns.out]; exact hjk)).2
      have hsz3 := Nat.lt_of_lt_of_le hbs hBW.size
      rw [if_pos rfl, hj0, Bx.at, Int.toNat_natCast] at hob
      rw [← hob] at s1
      rw [hj0]
      clear hc hga h2 h1 hob hj0 hu
      have p2 : (j0 : Int) < (ns : Int) := by omega
      gi_wp2
      exact FIN.out
  case done =>
    rintro Ed xs W hEd rfl ⟨h1, h2, h3, h4, V, h5, h6⟩ hK
    have hEz := Array.getElem?_eq_some_iff.1 hK |>.1
    have hlr : (List.range nf).map b.orderB = (List.range b.heard.length).map b.orderB := by rw [hn.out]
    rw [hlr] at h6
    have hV := h6.out.hd (by rw [List.length_map, List.length_range, hn.out]; unfold maxLen; omega)
    obtain ⟨Av, cv, rfl, -⟩ := hV.2.form3
    have hll : ((List.range b.heard.length).map b.orderB).length = nf := by rw [List.length_map, List.length_range, hn.out]
    have HLL := Lib.hid hll
    rw [hll] at h5 h6 hV
    have hmk := oMakeB nf (by omega) W
    have hbS := (Below.refl W.heap.size W).alloc (Nat.le_refl _) (.cells (List.replicate nf (Value.bool false)).toArray 4)
    have XN := Box.new W (List.replicate nf (Value.bool false)) 4
    have Z1 := h3.later hbS
    have Z2 := h4.later hbS
    have Z3 := h5.later hbS
    have hK2 : (W.alloc (.cells (List.replicate nf (Value.bool false)).toArray 4)).heap[Ed]? = some (.deferred (some [])) := (hbS.block Ed (by omega)).trans hK
    have hV2 := hV.later hbS
    have hB2 := h2.trans (hbS.mono h2.size)
    have h3c0 : W.cell? ⟨w.heap.size, 0, none⟩ = some (.slice Aq nq cq) := h3.cell 0
    have h3c1 : W.cell? ⟨w.heap.size, 1, none⟩ = some (.slice Aa na ca) := h3.cell 1
    have h3c2 : W.cell? ⟨w.heap.size, 2, none⟩ = some (.slice As ns cs) := h3.cell 2
    have h3c3 : W.cell? ⟨w.heap.size, 3, none⟩ = some (.slice Ah nf ch) := h3.cell 3
    have h3c4 : W.cell? ⟨w.heap.size, 4, none⟩ = some (.slice Af nf cf) := h3.cell 4
    generalize hW2 : W.alloc (.cells (List.replicate nf (Value.bool false)).toArray 4) = W2 at hmk XN Z1 Z2 Z3 hK2 hV2 hB2
    have hW2 := Lib.hid hW2
    have Z1c0 : W2.cell? ⟨w.heap.size, 0, none⟩ = some (.slice Aq nq cq) := Z1.cell 0
    have Z1f0 : W2.frozen? ⟨w.heap.size, 0, none⟩ = false := Z1.free 0
    have Z1c1 : W2.cell? ⟨w.heap.size, 1, none⟩ = some (.slice Aa na ca) := Z1.cell 1
    have Z1f1 : W2.frozen? ⟨w.heap.size, 1, none⟩ = false := Z1.free 1
    have Z1c2 : W2.cell? ⟨w.heap.size, 2, none⟩ = some (.slice As ns cs) := Z1.cell 2
    have Z1f2 : W2.frozen? ⟨w.heap.size, 2, none⟩ = false := Z1.free 2
    have Z1c3 : W2.cell? ⟨w.heap.size, 3, none⟩ = some (.slice Ah nf ch) := Z1.cell 3
    have Z1f3 : W2.frozen? ⟨w.heap.size, 3, none⟩ = false := Z1.free 3
    have Z1c4 : W2.cell? ⟨w.heap.size, 4, none⟩ = some (.slice Af nf cf) := Z1.cell 4
    have Z1f4 : W2.frozen? ⟨w.heap.size, 4, none⟩ = false := Z1.free 4
    have Z1z : w.heap.size < W2.heap.size := Z1.lt
    go_upto_region 12 with fail
    have Y1 := Z1.set 4 (.slice (some ⟨W.heap.size, 0, none⟩) nf nf)
    have Y2 := Z2.other (a := ⟨w.heap.size, 4, none⟩) (by simp) (.slice (some ⟨W.heap.size, 0, none⟩) nf nf)
    have Y3 := Z3.other (a := ⟨w.heap.size, 4, none⟩) (by simp <;> omega) (.slice (some ⟨W.heap.size, 0, none⟩) nf nf)
    have YN := XN.other (a := ⟨w.heap.size, 4, none⟩) (by simp <;> omega) (.slice (some ⟨W.heap.size, 0, none⟩) nf nf)
    have hB3 := hB2.setCell (p := ⟨w.heap.size, 4, none⟩) (by simp) (.slice (some ⟨W.heap.size, 0, none⟩) nf nf)
    have hK3 := (Below.heap_setCell W2 ⟨w.heap.size, 4, none⟩ (.slice (some ⟨W.heap.size, 0, none⟩) nf nf) Ed (by dsimp only; omega)).trans hK2
    have HO3 := Lib.hid ((h6.out.later (hW2.out ▸ hbS)).set (a := ⟨w.heap.size, 4, none⟩) (by simp <;> omega) (.slice (some ⟨W.heap.size, 0, none⟩) nf nf))
    clear Z1c0 Z1c1 Z1c2 Z1c3 Z1c4 Z1f0 Z1f1 Z1f2 Z1f3 Z1f4 Z1z h3c0 h3c1 h3c2 h3c3 h3c4 hmk
    have hsW2 : W.heap.size < W2.heap.size := by rw [← hW2.out]; simp
    have hsW3 : (W2.setCell ⟨w.heap.size, 4, none⟩ (.slice (some ⟨W.heap.size, 0, none⟩) nf nf)).heap.size = W2.heap.size := by simp
    generalize W2.setCell ⟨w.heap.size, 4, none⟩ (.slice (some ⟨W.heap.size, 0, none⟩) nf nf) = W4 at Y1 Y2 Y3 YN hB3 hK3 HO3 hsW3 ⊢
    simp only [List.set_cons_zero, List.set_cons_succ] at Y1
    have Y1c0 : W4.cell? ⟨w.heap.size, 0, none⟩ = some (.slice Aq nq cq) := Y1.cell 0
    have Y1f0 : W4.frozen? ⟨w.heap.size, 0, none⟩ = false := Y1.free 0
    have Y1c1 : W4.cell? ⟨w.heap.size, 1, none⟩ = some (.slice Aa na ca) := Y1.cell 1
    have Y1f1 : W4.frozen? ⟨w.heap.size, 1, none⟩ = false := Y1.free 1
    have Y1c2 : W4.cell? ⟨w.heap.size, 2, none⟩ = some (.slice As ns cs) := Y1.cell 2
    have Y1f2 : W4.frozen? ⟨w.heap.size, 2, none⟩ = false := Y1.free 2
    have Y1c3 : W4.cell? ⟨w.heap.size, 3, none⟩ = some (.slice Ah nf ch) := Y1.cell 3
    have Y1f3 : W4.frozen? ⟨w.heap.size, 3, none⟩ = false := Y1.free 3
    have Y1c4 : W4.cell? ⟨w.heap.size, 4, none⟩ = some (.slice (some ⟨W.heap.size, 0, none⟩) nf nf) := Y1.cell 4
    have Y1f4 : W4.frozen? ⟨w.heap.size, 4, none⟩ = false := Y1.free 4
    have Y1z : w.heap.size < W4.heap.size := Y1.lt
    have Y2c0 : W4.cell? ⟨w.heap.size + 1, 0, none⟩ = some (.slice none 0 0) := Y2.cell 0
    have Y2f0 : W4.frozen? ⟨w.heap.size + 1, 0, none⟩ = false := Y2.free 0
    have Y2c1 : W4.cell? ⟨w.heap.size + 1, 1, none⟩ = some (.slice none 0 0) := Y2.cell 1
    have Y2f1 : W4.frozen? ⟨w.heap.size + 1, 1, none⟩ = false := Y2.free 1
    have Y2c2 : W4.cell? ⟨w.heap.size + 1, 2, none⟩ = some (.slice none 0 0) := Y2.cell 2
    have Y2f2 : W4.frozen? ⟨w.heap.size + 1, 2, none⟩ = false := Y2.free 2
    have Y2c3 : W4.cell? ⟨w.heap.size + 1, 3, none⟩ = some (.slice none 0 0) := Y2.cell 3
    have Y2f3 : W4.frozen? ⟨w.heap.size + 1, 3, none⟩ = false := Y2.free 3
    have Y2c4 : W4.cell? ⟨w.heap.size + 1, 4, none⟩ = some (.slice none 0 0) := Y2.cell 4
    have Y2f4 : W4.frozen? ⟨w.heap.size + 1, 4, none⟩ = false := Y2.free 4
    have Y2z : w.heap.size + 1 < W4.heap.size := Y2.lt
    have Y3c0 : W4.cell? ⟨w.heap.size + 1 + 1, 0, none⟩ = some (.slice Av nf cv) := Y3.cell 0
    have Y3f0 : W4.frozen? ⟨w.heap.size + 1 + 1, 0, none⟩ = false := Y3.free 0
    have Y3z : w.heap.size + 1 + 1 < W4.heap.size := Y3.lt
    go_region
    have V2 := (((((((Y2.set 0 (.slice Aq nq cq)).set 1 (.slice Aa na ca)).set 2 (.slice As ns cs)).set 3 (.slice Ah nf ch)).set 4 (.slice (some ⟨W.heap.size, 0, none⟩) nf nf))).other (a := ⟨w.heap.size + 1 + 1, 0, none⟩) (by simp) (.slice Av nf cv)).drew
    have V3 := (((((((Y3.other (a := ⟨w.heap.size + 1, 0, none⟩) (by simp <;> omega) (.slice Aq nq cq)).other (a := ⟨w.heap.size + 1, 1, none⟩) (by simp <;> omega) (.slice Aa na ca)).other (a := ⟨w.heap.size + 1, 2, none⟩) (by simp <;> omega) (.slice As ns cs)).other (a := ⟨w.heap.size + 1, 3, none⟩) (by simp <;> omega) (.slice Ah nf ch)).other (a := ⟨w.heap.size + 1, 4, none⟩) (by simp <;> omega) (.slice (some ⟨W.heap.size, 0, none⟩) nf nf))).set 0 (.slice Av nf cv)).drew
    have VN := (((((((YN.other (a := ⟨w.heap.size + 1, 0, none⟩) (by simp <;> omega) (.slice Aq nq cq)).other (a := ⟨w.heap.size + 1, 1, none⟩) (by simp <;> omega) (.slice Aa na ca)).other (a := ⟨w.heap.size + 1, 2, none⟩) (by simp <;> omega) (.slice As ns cs)).other (a := ⟨w.heap.size + 1, 3, none⟩) (by simp <;> omega) (.slice Ah nf ch)).other (a := ⟨w.heap.size + 1, 4, none⟩) (by simp <;> omega) (.slice (some ⟨W.heap.size, 0, none⟩) nf nf))).other (a := ⟨w.heap.size + 1 + 1, 0, none⟩) (by simp <;> omega) (.slice Av nf cv)).drew
    have hB4 := (((((((hB3.setCell (p := ⟨w.heap.size + 1, 0, none⟩) (by simp <;> omega) (.slice Aq nq cq)).setCell (p := ⟨w.heap.size + 1, 1, none⟩) (by simp <;> omega) (.slice Aa na ca)).setCell (p := ⟨w.heap.size + 1, 2, none⟩) (by simp <;> omega) (.slice As ns cs)).setCell (p := ⟨w.heap.size + 1, 3, none⟩) (by simp <;> omega) (.slice Ah nf ch)).setCell (p := ⟨w.heap.size + 1, 4, none⟩) (by simp <;> omega) (.slice (some ⟨W.heap.size, 0, none⟩) nf nf))).setCell (p := ⟨w.heap.size + 1 + 1, 0, none⟩) (by simp <;> omega) (.slice Av nf cv)).drew
    have HO4 := Lib.hid ((((((((HO3.out.set (a := ⟨w.heap.size + 1, 0, none⟩) (by simp <;> omega) (.slice Aq nq cq)).set (a := ⟨w.heap.size + 1, 1, none⟩) (by simp <;> omega) (.slice Aa na ca)).set (a := ⟨w.heap.size + 1, 2, none⟩) (by simp <;> omega) (.slice As ns cs)).set (a := ⟨w.heap.size + 1, 3, none⟩) (by simp <;> omega) (.slice Ah nf ch)).set (a := ⟨w.heap.size + 1, 4, none⟩) (by simp <;> omega) (.slice (some ⟨W.heap.size, 0, none⟩) nf nf))).set (a := ⟨w.heap.size + 1 + 1, 0, none⟩) (by simp <;> omega) (.slice Av nf cv)).drew)
    have hK4 : ((((((W4.setCell ⟨w.heap.size + 1, 0, none⟩ (.slice Aq nq cq)).setCell ⟨w.heap.size + 1, 1, none⟩ (.slice Aa na ca)).setCell ⟨w.heap.size + 1, 2, none⟩ (.slice As ns cs)).setCell ⟨w.heap.size + 1, 3, none⟩ (.slice Ah nf ch)).setCell ⟨w.heap.size + 1, 4, none⟩ (.slice (some ⟨W.heap.size, 0, none⟩) nf nf)).setCell ⟨w.heap.size + 1 + 1, 0, none⟩ (.slice Av nf cv)).drew.heap[Ed]? = some (.deferred (some [])) := by
      refine (Below.heap_setCell _ ⟨w.heap.size + 1 + 1, 0, none⟩ _ Ed (by dsimp only; omega)).trans ?_
      refine (Below.heap_setCell _ ⟨w.heap.size + 1, 4, none⟩ _ Ed (by dsimp only; omega)).trans ?_
      refine (Below.heap_setCell _ ⟨w.heap.size + 1, 3, none⟩ _ Ed (by dsimp only; omega)).trans ?_
      refine (Below.heap_setCell _ ⟨w.heap.size + 1, 2, none⟩ _ Ed (by dsimp only; omega)).trans ?_
      refine (Below.heap_setCell _ ⟨w.heap.size + 1, 1, none⟩ _ Ed (by dsimp only; omega)).trans ?_
      exact (Below.heap_setCell _ ⟨w.heap.size + 1, 0, none⟩ _ Ed (by dsimp only; omega)).trans hK3
    clear Y1c0 Y1c1 Y1c2 Y1c3 Y1c4 Y1f0 Y1f1 Y1f2 Y1f3 Y1f4 Y1z Y2c0 Y2c1 Y2c2 Y2c3 Y2c4 Y2f0 Y2f1 Y2f2 Y2f3 Y2f4 Y2z Y3c0 Y3f0 Y3z
    generalize ((((((W4.setCell ⟨w.heap.size + 1, 0, none⟩ (.slice Aq nq cq)).setCell ⟨w.heap.size + 1, 1, none⟩ (.slice Aa na ca)).setCell ⟨w.heap.size + 1, 2, none⟩ (.slice As ns cs)).setCell ⟨w.heap.size + 1, 3, none⟩ (.slice Ah nf ch)).setCell ⟨w.heap.size + 1, 4, none⟩ (.slice (some ⟨W.heap.size, 0, none⟩) nf nf)).setCell ⟨w.heap.size + 1 + 1, 0, none⟩ (.slice Av nf cv)).drew = W9 at V2 V3 VN hB4 HO4 hK4 ⊢
    simp only [List.set_cons_zero, List.set_cons_succ] at V2 V3
    go_wp2
    have U2 := V2.record hK4 rfl (.deferred none)
    have U3 := V3.record hK4 rfl (.deferred none)
    have UN := VN.record hK4 rfl (.deferred none)
    have HO5 := HO4.out.record hK4 rfl (.deferred none)
    have hB5 := hB4.trans (below_put3 (l := Ed) (by omega) (.deferred none))
    refine ⟨by simp, .inl ⟨_, _, rfl, run_takeDeferred hK4, ?_⟩⟩
    generalize W9.putObj Ed (.deferred none) = W10 at U2 U3 UN HO5 hB5 ⊢
    have y0 := U2.cell 0
    have y1 := U2.cell 1
    have y2 := U2.cell 2
    have y3 := U2.cell 3
    have y4 := U2.cell 4
    have y5 := U3.cell 0
    have hX := hx.out.later hB5
    have hHd := OwnHd.hd HO5 (by rw [HLL.out]; unfold maxLen; omega)
    have hFr := box_fr (l := List.replicate nf false) (by rw [List.map_replicate]; exact UN) (by rw [List.length_replicate]; unfold maxLen; omega)
    rw [List.length_replicate] at hFr
    obtain rfl := (tick_yes HOK.out).symm.trans hT.out
    refine ⟨_, (by simp [results, Try.results17, go_sem, y0, y1, y2, y3, y4, y5] : _ = Result.ok (.tuple #[.agg #[.slice Aq nq cq, .slice Aa na ca, .slice As ns cs, .slice Ah nf ch, .slice (some ⟨W.heap.size, 0, none⟩) nf nf], .slice Av nf cv, .int .i64 0]) _), ?_⟩
    refine ⟨_, _, _, _, _, _, rfl, ⟨hX.net, hX.sent, hX.heard, ?_⟩, hHd, hB5, ⟨.inl rfl, .inl rfl, .inl rfl⟩⟩
    show FrAt _ _ _ (List.replicate b.heard.length false)
    rw [hn.out]
    exact hFr
  case stop =>
    rintro D c pre W hD - h
    exact h.elim
end
end Go.Proofs.Ytmbifmmkccghfaa
