/- Check of the reference of chapter 33. (Printed by gen_bu.py.) No condition. -/
import Derived.Test.YtancngachnpefaaQBT
import Derived.Test.YtancngachnpefaaQME
import Derived.Test.YtancngachnpefaaQS
import Derived.ChangeKeysEq
import Derived.Test.YtancngachnpefaaQMI
set_option linter.unusedVariables false
set_option linter.unusedSimpArgs false
set_option maxRecDepth 100000
namespace Go.Proofs.Ytancngachnpefaa
open Go.RowKit
theorem ownSt_cells {w : World} {base n c : Nat} {A : Option Addr} {l : List St} (h : OwnSt w base (.slice A n c) l) {k : Nat} (hk : k < l.length) :
    ∃ g, A = some ⟨g, 0, none⟩ ∧ base ≤ g ∧ g < w.heap.size ∧ w.cell? ⟨g, k * 6, none⟩ = some (.int .i64 (l[k]).level) ∧ w.cell? ⟨g, k * 6 + 1, none⟩ = some (.int .i64 (l[k]).position) ∧ w.cell? ⟨g, k * 6 + 2, none⟩ = some (.int .i64 (l[k]).p0) ∧ w.cell? ⟨g, k * 6 + 3, none⟩ = some (.int .i64 (l[k]).p1) ∧ w.cell? ⟨g, k * 6 + 4, none⟩ = some (.int .i64 (l[k]).order) ∧ w.cell? ⟨g, k * 6 + 5, none⟩ = some (.int .i64 (l[k]).age) := by
  obtain ⟨A', c', e, h1⟩ := h.sl (fun _ => rfl)
  cases e
  obtain ⟨g, rfl, hb, hg, h2⟩ := h1 k hk
  exact ⟨g, rfl, hb, hg, h2 0 (by omega), h2 1 (by omega), h2 2 (by omega), h2 3 (by omega), h2 4 (by omega), h2 5 (by omega)⟩
theorem ownSh_cells {w : World} {base n c : Nat} {A : Option Addr} {l : List Sh} (h : OwnSh w base (.slice A n c) l) {k : Nat} (hk : k < l.length) :
    ∃ g, A = some ⟨g, 0, none⟩ ∧ base ≤ g ∧ g < w.heap.size ∧ w.cell? ⟨g, k * 2, none⟩ = some (.int .i64 (l[k]).feed) ∧ w.cell? ⟨g, k * 2 + 1, none⟩ = some (.int .i64 (l[k]).msg) := by
  obtain ⟨A', c', e, h1⟩ := h.sl (fun _ => rfl)
  cases e
  obtain ⟨g, rfl, hb, hg, h2⟩ := h1 k hk
  exact ⟨g, rfl, hb, hg, h2 0 (by omega), h2 1 (by omega)⟩
theorem ownE_form {α : Type} {enc : α → List Value} {size : Nat} {w : World} {base e : Nat} {v : Value} {l : List α} (h : OwnE enc size w base e v l) (hs : ∀ x, (enc x).length = size) : ∃ A c, v = .slice A l.length c := by
  obtain ⟨A, c, e, _⟩ := h.sl hs
  exact ⟨A, c, e⟩
end Go.Proofs.Ytancngachnpefaa
namespace Go.Proofs.Ytancngachnpefaa
open Go.RowKit
theorem info_int : (Try.prog.info? 3).map (fun i => i.size) = some 1 := by kernel_rfl
theorem eq_pipe (d : Nat) (a b c e : Int) (w : World) : (Op.equalIn (d + 2) 28 (.agg #[.int .i64 a, .int .i64 b]) (.agg #[.int .i64 c, .int .i64 e])).run Try.prog w = .ok (decide (a = c) && decide (b = e)) w := by
  have hin := info_int
  cases hi : Try.prog.info? 3 with
  | none => rw [hi] at hin; cases hin
  | some i =>
    rw [run_equalIn_array w (d + 1) _ _ Try.underlying28 hi]
    have hc : Try.prog.cellsOf 3 = 1 := by kernel_rfl
    have hr : List.range 2 = [0, 1] := rfl
    rw [hc, hr]
    simp [Op.eqItems, part, go_sem]
    by_cases h1 : a = c <;> by_cases h2 : b = e <;> simp [h1, h2]
attribute [go_sem] eq_pipe
end Go.Proofs.Ytancngachnpefaa
namespace Go.Proofs.Ytancngachnpefaa
open Go.RowKit Go.Shelf
def sameS (a b : St) : Bool := decide (a = b)
theorem sameS_true {a b : St} (h : a = b) : sameS a b = true := decide_eq_true h
theorem sameS_false {a b : St} (h : a ≠ b) : sameS a b = false := decide_eq_false h
theorem eq_shock (a b c d : Int) (w : World) : (Op.equalIn 10000 37 (.agg #[.int .i64 a, .int .i64 b]) (.agg #[.int .i64 c, .int .i64 d])).run Try.prog w = .ok (decide (a = c) && decide (b = d)) w := by
  have hS : Try.prog.underlying 37 = some (.struct (Try.prog.fieldsOf 37)) := by kernel_rfl
  have hp : Try.prog.stoodInHeld 37 = false := by kernel_rfl
  rw [show (10000 : Nat) = 9999 + 1 from rfl, run_equalIn_agg w 9999 37 _ _ hS hp]
  simp only [Program.fieldsOf, Try.underlying37]
  by_cases h0 : a = c
  · by_cases h1 : b = d
    · go_simp
    · go_simp
  · go_simp
theorem eq_state (z0 z1 z2 z3 z4 z5 b0 b1 b2 b3 b4 b5 : Int) (w : World) : (Op.equalIn 10000 30 (.agg #[.int .i64 z0, .int .i64 z1, .int .i64 z2, .int .i64 z3, .int .i64 z4, .int .i64 z5]) (.agg #[.int .i64 b0, .int .i64 b1, .int .i64 b2, .int .i64 b3, .int .i64 b4, .int .i64 b5])).run Try.prog w = .ok (sameS ⟨z0, z1, z2, z3, z4, z5⟩ ⟨b0, b1, b2, b3, b4, b5⟩) w := by
  have hS : Try.prog.underlying 30 = some (.struct (Try.prog.fieldsOf 30)) := by kernel_rfl
  have hp : Try.prog.stoodInHeld 30 = false := by kernel_rfl
  have hq : sameS ⟨z0, z1, z2, z3, z4, z5⟩ ⟨b0, b1, b2, b3, b4, b5⟩ = (decide (z0 = b0) && (decide (z1 = b1) && (decide (z2 = b2) && (decide (z3 = b3) && (decide (z4 = b4) && decide (z5 = b5)))))) := by
    unfold sameS
    rw [Bool.eq_iff_iff]
    simp
  rw [hq, show (10000 : Nat) = 9999 + 1 from rfl, run_equalIn_agg w 9999 30 _ _ hS hp]
  simp only [Program.fieldsOf, Try.underlying30]
  clear hq
  by_cases h0 : z0 = b0
  · by_cases h1 : z1 = b1
    · by_cases h2 : z2 = b2
      · by_cases h3 : z3 = b3
        · by_cases h4 : z4 = b4
          · by_cases h5 : z5 = b5
            · go_simp
            · go_simp
          · go_simp
        · go_simp
      · go_simp
    · go_simp
  · go_simp
structure Chg (X : Nat → Prop) (A B : World) : Prop where
  os : B.os = A.os
  tape : B.tape = A.tape
  output : B.output = A.output
  size : A.heap.size ≤ B.heap.size
  block : ∀ k, k < A.heap.size → ¬ X k → B.heap[k]? = A.heap[k]?
section
variable {X Y : Nat → Prop} {A B C : World}
theorem Chg.refl (X : Nat → Prop) (A : World) : Chg X A A := ⟨rfl, rfl, rfl, Nat.le_refl _, fun _ _ _ => rfl⟩
theorem Chg.grown {row : Option Nat} (h : Chg X A B) (hg : B.grownBy C row) (hr : ∀ k, row = some k → X k ∨ A.heap.size ≤ k) : Chg X A C :=
  ⟨hg.os.trans h.os, hg.tape.trans h.tape, hg.output.trans h.output, Nat.le_trans h.size hg.size, fun k hk hx => (hg.block k (Nat.lt_of_lt_of_le hk h.size) (fun e => by
    rcases hr k e.symm with h1 | h1
    · exact hx h1
    · omega)).trans (h.block k hk hx)⟩
theorem Chg.below (h : Chg X A B) (hb : Below B.heap.size B C) : Chg X A C := h.grown (row := none) (grown_below hb) (fun _ e => by cases e)
theorem Chg.cell (h : Chg X A B) {b : Nat} (i : Nat) (v : Value) (hx : X b ∨ A.heap.size ≤ b) : Chg X A (B.setCell ⟨b, i, none⟩ v) := h.grown (grown_cell (grown_refl B _) v) (fun k hk => by cases hk; exact hx)
theorem Chg.drew (h : Chg X A B) : Chg X A B.drew := ⟨h.os, h.tape, h.output, h.size, h.block⟩
theorem Chg.wider (h : Chg X A B) (hx : ∀ k, X k → Y k) : Chg Y A B := ⟨h.os, h.tape, h.output, h.size, fun k hk hy => h.block k hk (fun e => hy (hx k e))⟩
theorem Chg.tr (h : Chg X A B) (k : Chg Y B C) (hY : ∀ b, Y b → X b ∨ A.heap.size ≤ b) : Chg X A C :=
  ⟨k.os.trans h.os, k.tape.trans h.tape, k.output.trans h.output, Nat.le_trans h.size k.size, fun b hb hx => (k.block b (Nat.lt_of_lt_of_le hb h.size) (fun e => by
    rcases hY b e with h1 | h1
    · exact hx h1
    · omega)).trans (h.block b hb hx)⟩
theorem Chg.box (h : Chg X A B) {b : Nat} {xs : List Value} (hx : Box A b xs) (hX : ¬ X b) : Box B b xs := hx.same (h.block b hx.lt hX)
theorem Chg.put {l : Nat} {o o' : Obj} (h : A.heap[l]? = some o) : Chg (fun k => k = l) A (A.putObj l o') := (Chg.refl _ A).grown (grown_put (o' := o') h) (fun k hk => by cases hk; exact .inl rfl)
theorem Chg.of {row : Option Nat} (hg : A.grownBy B row) : Chg (fun k => row = some k) A B := (Chg.refl _ A).grown hg (fun _ hk => .inl hk)
theorem Chg.kf (h : Chg X A B) {n : Nat} (hX : ∀ k o, X k → n ≤ k → A.heap[k]? = some o → o.isCells = true) : KeepsFrom n A B :=
  ⟨h.size, fun k o hk ho hc => (h.block k (Array.getElem?_eq_some_iff.1 ho).1 (fun e => by rw [hX k o e hk ho] at hc; cases hc)).trans ho⟩
theorem Chg.kc (h : Chg X A B) {D : Nat} {R : Nat → Prop} (hD : D ≤ A.heap.size) (hX : ∀ k, X k → D ≤ k) (hR : ∀ b, ¬ R b → ¬ X b) : KeepsC D R A B :=
  ⟨⟨h.os, h.tape, h.output, h.size, fun k hk => h.block k (by omega) (fun e => by have := hX k e; omega)⟩, fun b o hr ho _ => (h.block b (Array.getElem?_eq_some_iff.1 ho).1 (hR b hr)).trans ho⟩
theorem Chg.low (h : Chg X A B) {n : Nat} (hn : n ≤ A.heap.size) (hX : ∀ k, X k → n ≤ k) : Below n A B := ⟨h.os, h.tape, h.output, h.size, fun k hk => h.block k (by omega) (fun e => by have := hX k e; omega)⟩
end
structure EsN (w : World) (G B8 Bc B10 Rb : Nat) : Prop where
  g : w.heap.size + 1 + 1 + 1 + 1 < G
  b8 : G < B8
  bc : B8 < Bc
  b10 : Bc < B10
  rb : B10 < Rb
structure EsB (w : World) (G B8 Bc B10 : Nat) (p : Pl) (V : Value) (b : St) (rs : List Nat) (W : World) : Prop where
  low : Below w.heap.size w W
  ok : Box W (w.heap.size + 1 + 1 + 1) [.bool false]
  er : Box W (w.heap.size + 1 + 1 + 1 + 1) [.int .i64 0]
  game : Box W G (gmL p V)
  beg : Box W B8 b.cells
  cam : Box W B10 [.map (some Bc)]
  marks : ∀ r ∈ rs, W.heap[r]? = some (.deferred (some []))
section
variable {w A B : World} {G B8 Bc B10 Rb Bo n c : Nat} {p : Pl} {V : Value} {b : St} {rs : List Nat} {X : Nat → Prop} {Ad : Option Addr} {came : St → Option Wy} {op : List St}
theorem EsB.chg (h : EsB w G B8 Bc B10 p V b rs A) (hn : EsN w G B8 Bc B10 Rb) (hc : Chg X A B) (hX : ∀ k, X k → (Rb ≤ k ∨ k = Bc ∨ k = w.heap.size + 1 + 1) ∧ k ∉ rs) : EsB w G B8 Bc B10 p V b rs B := by
  obtain ⟨n1, n2, n3, n4, n5⟩ := hn
  have hk : ∀ k, X k → Rb ≤ k ∨ k = Bc ∨ k = w.heap.size + 1 + 1 := fun k hk => (hX k hk).1
  refine ⟨h.low.trans (hc.low h.low.size (fun k e => by have := hk k e; omega)), hc.box h.ok (fun e => by have := hk _ e; omega), hc.box h.er (fun e => by have := hk _ e; omega), hc.box h.game (fun e => by have := hk _ e; omega), hc.box h.beg (fun e => by have := hk _ e; omega), hc.box h.cam (fun e => by have := hk _ e; omega), fun r hr => ?_⟩
  have h1 := h.marks r hr
  exact (hc.block r (Array.getElem?_eq_some_iff.1 h1).1 (fun e => (hX r e).2 hr)).trans h1
theorem EsB.later (h : EsB w G B8 Bc B10 p V b rs A) (hn : EsN w G B8 Bc B10 Rb) (hb : Below A.heap.size A B) : EsB w G B8 Bc B10 p V b rs B := h.chg hn ((Chg.refl (fun _ => False) A).below hb) (fun _ e => e.elim)
theorem EsB.markOff (h : EsB w G B8 Bc B10 p V b rs A) {k : Nat} {o : Obj} (ho : A.heap[k]? = some o) (hne : o ≠ .deferred (some [])) : k ∉ rs := fun hr => by
  have := h.marks k hr
  rw [ho] at this
  exact hne (Option.some.inj this)
theorem EsB.boxOff (h : EsB w G B8 Bc B10 p V b rs A) {k : Nat} {xs : List Value} (hx : Box A k xs) : k ∉ rs := by
  obtain ⟨t, ht⟩ := hx
  exact h.markOff ht (fun e => by cases e)
structure EsD (Rb Bc Bo : Nat) (came : St → Option Wy) (A : Option Addr) (n c : Nat) (op : List St) (W : World) : Prop where
  box : Box W Bo [.slice A n c]
  q : Qu W Rb (.slice A n c) op
  off : quB (.slice A n c) ≠ some Bo
  cam : CamM W Bc came
theorem EsD.chg (h : EsD Rb Bc Bo came Ad n c op A) (hc : Chg X A B) (h1 : ¬ X Bo) (h2 : ¬ X Bc) (h3 : ∀ k, quB (.slice Ad n c) = some k → ¬ X k) : EsD Rb Bc Bo came Ad n c op B :=
  ⟨hc.box h.box h1, h.q.same (fun k hk => hc.block k (h.q.lt hk).2 (h3 k hk)), h.off, h.cam.same (hc.block Bc h.cam.lt h2)⟩
theorem EsD.later (h : EsD Rb Bc Bo came Ad n c op A) (hb : Below A.heap.size A B) : EsD Rb Bc Bo came Ad n c op B := h.chg ((Chg.refl (fun _ => False) A).below hb) id id (fun _ _ e => e)
theorem EsD.neBc (h : EsD Rb Bc Bo came Ad n c op A) : Bo ≠ Bc := h.cam.notBox h.box
theorem EsD.quBc (h : EsD Rb Bc Bo came Ad n c op A) : quB (.slice Ad n c) ≠ some Bc := fun e => by
  obtain ⟨es, cl, hb⟩ := h.cam.block
  exact h.q.cellsOnly e hb rfl
theorem EsD.record (h : EsD Rb Bc Bo came Ad n c op A) {l : Nat} {o o' : Obj} (ho : A.heap[l]? = some o) (hcs : o.isCells = false) (hl : Rb ≤ l) (hb : Bc < Rb) : EsD Rb Bc Bo came Ad n c op (A.putObj l o') := by
  refine h.chg (Chg.put ho) (fun e => ?_) (fun e => by omega) (fun k hk e => ?_)
  · obtain ⟨t, ht⟩ := h.box
    rw [e, ho] at ht
    cases ht
    cases hcs
  · cases e
    exact h.q.cellsOnly hk ho hcs
theorem EsD.put (h : EsD Rb Bc Bo came Ad n c op A) {y : St} (hy : y.Wide) (x : Wy) :
    ∃ B, (Instr.mapUpdate 105 (.map (some Bc)) y.v x.v).run Try.prog A = .ok () B ∧ EsD Rb Bc Bo (updS came y x) Ad n c op B ∧ A.grownBy B (some Bc) := by
  obtain ⟨B, h1, h2, h3, _⟩ := cam_put h.cam hy x
  exact ⟨B, h1, ⟨h.box.same (h3.block _ h.box.lt (fun e => h.neBc (Option.some.inj e))), h.q.kept h3 (fun k hk e => h.quBc (hk.trans e.symm)), h.off, h2⟩, h3⟩
theorem EsD.push (ty : TypeId) (h : EsD Rb Bc Bo came Ad n c op A) {g : Nat} {s : St} (hx : Box A g s.cells) (hRb : Rb ≤ A.heap.size) (hl : op.length ≤ 1048576) :
    ∃ (A4 : Option Addr) (n4 c4 : Nat) (B : World), (appF #[43, 43] ty #[.slice Ad n c, .slice (some ⟨g, 0, none⟩) 1 1]).run Try.prog A = .ok (.slice A4 n4 c4) B ∧ Box B Bo [.slice Ad n c] ∧
      EsD Rb Bc Bo came A4 n4 c4 (op ++ [s]) (B.setCell ⟨Bo, 0, none⟩ (.slice A4 n4 c4)) ∧ (∀ k, quB (.slice A4 n4 c4) = some k → quB (.slice Ad n c) = some k ∨ A.heap.size ≤ k) ∧
      Chg (fun k => k = Bo ∨ quB (.slice Ad n c) = some k) A (B.setCell ⟨Bo, 0, none⟩ (.slice A4 n4 c4)) := by
  obtain ⟨A4, c4, B, hr, hq4, hg4, hor⟩ := h.q.app ty hx hRb hl
  have hBo := h.box.lt
  have hnew : ∀ k, quB (.slice A4 (op.length + 1) c4) = some k → quB (.slice Ad n c) = some k ∨ A.heap.size ≤ k := fun k hk => by
    rcases hor with ho | ⟨k', ho, hge⟩
    · exact .inl (by rw [← ho]; exact hk)
    · rw [ho] at hk
      cases hk
      exact .inr hge
  have hB1 : Box B Bo [.slice Ad n c] := h.box.same (hg4.block _ hBo (fun e => h.off e.symm))
  have hoff : quB (.slice A4 (op.length + 1) c4) ≠ some Bo := fun e => by
    rcases hnew _ e with h1 | h1
    · exact h.off h1
    · omega
  have hgC : B.grownBy (B.setCell ⟨Bo, 0, none⟩ (.slice A4 (op.length + 1) c4)) (some Bo) := grown_cell (grown_refl _ _) _
  have hcB : CamM B Bc came := h.cam.kept hg4 (fun e => h.quBc e.symm)
  refine ⟨A4, _, c4, B, hr, hB1, ⟨hB1.set 0 _, hq4.kept hgC (fun k hk e => by cases e; exact hoff hk), hoff, hcB.kept hgC (fun e => h.neBc (Option.some.inj e).symm)⟩, hnew, ?_⟩
  exact ((Chg.refl _ A).grown hg4 (fun k hk => .inl (.inr hk))).grown hgC (fun k hk => by cases hk; exact .inl (.inl rfl))
end
structure InE (w : World) (G B8 Bc B10 Rb Bo B12 Z : Nat) (p : Pl) (V : Value) (b s : St) (rs : List Nat) (came : St → Option Wy) (Ad : Option Addr) (n c : Nat) (op : List St) (A : World) : Prop where
  size : Z ≤ A.heap.size
  st : EsB w G B8 Bc B10 p V b rs A
  d : EsD Rb Bc Bo came Ad n c op A
  res : Box A (w.heap.size + 1 + 1) [.slice none 0 0]
  s : Box A B12 s.cells
  off : ∀ g, quB (.slice Ad n c) = some g → g < B12 ∨ Z ≤ g
structure InEN (w : World) (G B8 Bc B10 Rb Bo B12 Bg Z : Nat) (rs : List Nat) : Prop where
  n : EsN w G B8 Bc B10 Rb
  bo : Rb < Bo
  b12 : Bo < B12
  bg : B12 < Bg
  z : Bg + 1 < Z
  rs : ∀ r ∈ rs, r < Z
section
variable {w A B : World} {G B8 Bc B10 Rb Bo B12 Bg Z n c : Nat} {p : Pl} {V : Value} {b s : St} {rs : List Nat} {X : Nat → Prop} {Ad : Option Addr} {came : St → Option Wy} {op : List St}
theorem InE.later (h : InE w G B8 Bc B10 Rb Bo B12 Z p V b s rs came Ad n c op A) (hn : InEN w G B8 Bc B10 Rb Bo B12 Bg Z rs) (hb : Below A.heap.size A B) : InE w G B8 Bc B10 Rb Bo B12 Z p V b s rs came Ad n c op B :=
  ⟨Nat.le_trans h.size hb.size, h.st.later hn.n hb, h.d.later hb, h.res.later hb, h.s.later hb, h.off⟩
theorem InE.record (h : InE w G B8 Bc B10 Rb Bo B12 Z p V b s rs came Ad n c op A) (hn : InEN w G B8 Bc B10 Rb Bo B12 Bg Z rs) {l : Nat} {o o' : Obj} (hl : Z ≤ l) (ho : A.heap[l]? = some o) (hcs : o.isCells = false) : InE w G B8 Bc B10 Rb Bo B12 Z p V b s rs came Ad n c op (A.putObj l o') := by
  obtain ⟨⟨n1, n2, n3, n4, n5⟩, n6, n7, n8, n9, n10⟩ := hn
  refine ⟨by simpa using h.size, h.st.chg ⟨n1, n2, n3, n4, n5⟩ (Chg.put ho) (fun k hk => ?_), h.d.record ho hcs (by omega) (by omega), h.res.record ho hcs _, h.s.record ho hcs _, h.off⟩
  subst hk
  exact ⟨.inl (by omega), fun hr => by have := n10 _ hr; omega⟩
theorem InE.put (h : InE w G B8 Bc B10 Rb Bo B12 Z p V b s rs came Ad n c op A) (hn : InEN w G B8 Bc B10 Rb Bo B12 Bg Z rs) {y : St} (hy : y.Wide) (x : Wy) :
    ∃ B, (Instr.mapUpdate 105 (.map (some Bc)) y.v x.v).run Try.prog A = .ok () B ∧ InE w G B8 Bc B10 Rb Bo B12 Z p V b s rs (updS came y x) Ad n c op B ∧ Chg (fun k => k = Bc) A B ∧ ∀ k xs, Box A k xs → Box B k xs := by
  obtain ⟨B, h1, h2, h3⟩ := h.d.put hy x
  obtain ⟨⟨n1, n2, n3, n4, n5⟩, n6, n7, n8, n9, n10⟩ := hn
  have hc : Chg (fun k => k = Bc) A B := (Chg.refl _ A).grown h3 (fun k hk => by cases hk; exact .inl rfl)
  obtain ⟨es, cl, hm⟩ := h.d.cam.block
  refine ⟨B, h1, ⟨Nat.le_trans h.size h3.size, h.st.chg ⟨n1, n2, n3, n4, n5⟩ hc (fun k hk => ?_), h2, hc.box h.res (by omega), hc.box h.s (by omega), h.off⟩, hc, fun k xs hx => hc.box hx (h.d.cam.notBox hx)⟩
  subst hk
  exact ⟨.inr (.inl rfl), h.st.markOff hm (fun e => by cases e)⟩
theorem InE.push (ty : TypeId) (h : InE w G B8 Bc B10 Rb Bo B12 Z p V b s rs came Ad n c op A) (hn : InEN w G B8 Bc B10 Rb Bo B12 Bg Z rs) {g : Nat} {y : St} (hx : Box A g y.cells) (hl : op.length ≤ 1048576) :
    ∃ (A4 : Option Addr) (n4 c4 : Nat) (B : World), (appF #[43, 43] ty #[.slice Ad n c, .slice (some ⟨g, 0, none⟩) 1 1]).run Try.prog A = .ok (.slice A4 n4 c4) B ∧ Box B Bo [.slice Ad n c] ∧
      InE w G B8 Bc B10 Rb Bo B12 Z p V b s rs came A4 n4 c4 (op ++ [y]) (B.setCell ⟨Bo, 0, none⟩ (.slice A4 n4 c4)) ∧ Chg (fun k => k = Bo ∨ quB (.slice Ad n c) = some k) A (B.setCell ⟨Bo, 0, none⟩ (.slice A4 n4 c4)) := by
  obtain ⟨⟨n1, n2, n3, n4, n5⟩, n6, n7, n8, n9, n10⟩ := hn
  have hsz := h.size
  obtain ⟨A4, m4, c4, B, hr, hB, hD, hnew, hc⟩ := h.d.push ty hx (by omega) hl
  refine ⟨A4, m4, c4, B, hr, hB, ⟨Nat.le_trans h.size hc.size, h.st.chg ⟨n1, n2, n3, n4, n5⟩ hc (fun k hk => ?_), hD, hc.box h.res (fun e => ?_), hc.box h.s (fun e => ?_), fun k hk => ?_⟩, hc⟩
  · rcases hk with rfl | hk
    · exact ⟨.inl (by omega), h.st.boxOff h.d.box⟩
    · obtain ⟨cs, hcs⟩ := h.d.q.cells? hk
      exact ⟨.inl (h.d.q.lt hk).1, h.st.markOff hcs (fun e => by cases e)⟩
  · rcases e with e | e
    · omega
    · have := (h.d.q.lt e).1
      omega
  · rcases e with e | e
    · omega
    · have := h.off _ e
      omega
  · rcases hnew k hk with h1 | h1
    · exact h.off k h1
    · exact .inr (by omega)
theorem InE.keeps (h : InE w G B8 Bc B10 Rb Bo B12 Z p V b s rs came Ad n c op A) (hn : InEN w G B8 Bc B10 Rb Bo B12 Bg Z rs) (hc : Chg (fun k => k = Bc ∨ k = Bo ∨ quB (.slice Ad n c) = some k) A B) : KeepsFrom Z A B ∧ KeepsC w.heap.size (fun k => ¬ (k = Bg ∨ k = Bg + 1)) A B := by
  obtain ⟨⟨n1, n2, n3, n4, n5⟩, n6, n7, n8, n9, n10⟩ := hn
  refine ⟨hc.kf (fun k o hk hZ ho => ?_), hc.kc h.st.low.size (fun k hk => ?_) (fun k hk e => ?_)⟩
  · rcases hk with hk | hk | hk
    · omega
    · omega
    · obtain ⟨cs, hcs⟩ := h.d.q.cells? hk
      rw [hcs] at ho
      cases ho
      rfl
  · rcases hk with hk | hk | hk
    · omega
    · omega
    · have := (h.d.q.lt hk).1
      omega
  · have hk' : k = Bg ∨ k = Bg + 1 := Classical.not_not.1 hk
    rcases e with e | e | e
    · omega
    · omega
    · have := h.off k e
      omega
end
theorem run_appH {w : World} {D g : Nat} {V : Value} {l : List Sh} {s : Sh} (ty : TypeId) (ho : OwnSh w D V l) (hx : Box w g s.cells) (hD : D ≤ w.heap.size) (hl : l.length ≤ 1048576) :
    ∃ g' c' w', (appF #[47, 47] ty #[V, .slice (some ⟨g, 0, none⟩) 1 1]).run Try.prog w = .ok (.slice (some ⟨g', 0, none⟩) (l.length + 1) c') w' ∧ OwnSh w' D (.slice (some ⟨g', 0, none⟩) (l.length + 1) c') (l ++ [s]) ∧ w.grownBy w' V.ownBlock ∧ (V.ownBlock = some g' ∨ g' = w.heap.size) := by
  obtain ⟨i, E⟩ := elem_shock
  obtain ⟨v', w', hr, h3, h2, _, h5⟩ := run_append_own_at (P := Try.prog) w D 47 ty 37 i _ 2 16 E.ht E.hi E.hz E.hsize E.hby E.hzs E.hsz _ _ _ ho ⟨g, 0, none⟩ 1 1 s.cells rfl (fun j u hu => by
      rw [add_at, Nat.zero_add, hx.cell j]
      exact hu)
    (fun u hu => by
      simp only [Sh.cells, List.mem_cons, List.not_mem_nil, or_false] at hu
      rcases hu with rfl | rfl <;> rfl) (by simp only [maxLen]; omega) (by omega) hD
  have h6 := h3.2
  rcases h6 with ⟨_, h6⟩ | ⟨g', cap, cur, hv, _⟩
  · omega
  · subst hv
    refine ⟨g', cap, w', hr, ?_, h2, ?_⟩
    · show OwnE _ _ _ _ _ _ _
      rw [OwnE, List.length_append, List.flatMap_append]
      simpa using h3
    · rcases h5 with h5 | h5
      · exact .inl h5.symm
      · exact .inr (Option.some.inj h5)
theorem OwnSh.cells? {w : World} {D : Nat} {V : Value} {l : List Sh} (h : OwnSh w D V l) {g : Nat} (hg : V.ownBlock = some g) : ∃ cs, w.heap[g]? = some (.cells cs 37 (0, 0)) := by
  rcases h.2 with ⟨rfl, _⟩ | ⟨b, cap, cur, hv, _, hh, _⟩
  · cases hg
  · rw [hv] at hg
    cases hg
    exact ⟨cur, hh⟩
theorem OwnSh.low {w : World} {D D' : Nat} {V : Value} {l : List Sh} (h : OwnSh w D V l) (hD : D' ≤ D) : OwnSh w D' V l :=
  ⟨h.1, h.2.imp id fun ⟨g, cap, cur, hv, hg, rest⟩ => ⟨g, cap, cur, hv, Nat.le_trans hD hg, rest⟩⟩
theorem OwnSh.same {w w' : World} {D : Nat} {V : Value} {l : List Sh} (h : OwnSh w D V l) (hb : ∀ b, V.ownBlock = some b → w'.heap[b]? = w.heap[b]?) : OwnSh w' D V l :=
  ⟨h.1, h.2.imp id fun ⟨g, cap, cur, hv, hD, hh, rest⟩ => ⟨g, cap, cur, hv, hD, (hb g (by rw [hv]; rfl)).trans hh, rest⟩⟩
def ShAt (w : World) (D : Nat) (V : Value) (l : List Sh) : Prop :=
  (V = .slice none 0 0 ∧ l = []) ∨ ∃ g c, V = .slice (some ⟨g, 0, none⟩) l.length c ∧ D ≤ g ∧ l.length ≤ 1048576 ∧ RowF w g l.length (fun k => l.getD k Sh.zero)
theorem own_rowF {w : World} {D g n c : Nat} {l : List Sh} (h : OwnSh w D (.slice (some ⟨g, 0, none⟩) n c) l) : n = l.length ∧ RowF w g l.length (fun k => l.getD k Sh.zero) := by
  rcases h.2 with ⟨hv, _⟩ | ⟨g', cap, cur, hv, _, hh, _⟩
  · cases hv
  · cases hv
    have hx : Box w g cur.toList := ⟨_, by simpa using hh⟩
    refine ⟨rfl, cur.toList, hx, fun k hk => ?_⟩
    obtain ⟨g2, hg2, _, _, h1, h2⟩ := ownSh_cells h hk
    cases hg2
    rw [← hx.cell, ← hx.cell, h1, h2]
    dsimp only
    rw [List.getD_eq_getElem?_getD, List.getElem?_eq_getElem hk]
    exact ⟨rfl, rfl⟩
theorem rowF_rev {w : World} {g : Nat} {l : List Sh} (h : RowF w g l.length (fun t => l.getD (l.length - 1 - t) Sh.zero)) : RowF w g l.reverse.length (fun k => l.reverse.getD k Sh.zero) := by
  rw [List.length_reverse]
  refine h.fn (fun k hk => ?_)
  rw [List.getD_eq_getElem?_getD, List.getD_eq_getElem?_getD, List.getElem?_reverse hk]
def RetEsc (w : World) (l : List Sh) (ok : Bool) (er : Int) (e : Ending) (w' : World) : Prop :=
  ∃ A n c, e = .returned (.tuple #[.slice A n c, .bool ok, .int .i64 er]) ∧ ShAt w' w.heap.size (.slice A n c) l ∧ Below w.heap.size w w'
theorem RetEsc.nil {w w' : World} {ok : Bool} {er : Int} {e : Ending} (h : e = .returned (.tuple #[.slice none 0 0, .bool ok, .int .i64 er])) (hb : Below w.heap.size w w') : RetEsc w [] ok er e w' := ⟨none, 0, 0, h, .inl ⟨rfl, rfl⟩, hb⟩
theorem ShAt.same {w w' : World} {D : Nat} {V : Value} {l : List Sh} (h : ShAt w D V l) (hb : ∀ g xs, Box w g xs → Box w' g xs) : ShAt w' D V l := by
  rcases h with h | ⟨g, c, h1, h2, h3, xs, h4, h5⟩
  · exact .inl h
  · exact .inr ⟨g, c, h1, h2, h3, xs, hb g xs h4, h5⟩
theorem run_look_op {o : Oper} {ev : Operand → Value} {t : TypeId} {m k : Operand} {b : Bool} {vm vk v : Value} {w : World} (ho : o.op = .lookup t m k b) (hm : ev m = vm) (hk : ev k = vk) (h : (Instr.lookup t vm vk b).run Try.prog w = .ok v w) : (execOp ev o).run Try.prog w = .ok (.value v) w := by
  subst hm hk
  simp [execOp, ho, h, Result.andThen]
theorem run_field_op {o : Oper} {ev : Operand → Value} {t : TypeId} {x : Operand} {i : Nat} {vx v : Value} {w : World} (ho : o.op = .field t x i) (hx : ev x = vx) (h : (Instr.field t vx i).run Try.prog w = .ok v w) : (execOp ev o).run Try.prog w = .ok (.value v) w := by
  subst hx
  simp [execOp, ho, h, Result.andThen]
theorem way_sh (s : St) (x : Sh) (w : World) : (Instr.field 104 (.agg #[.int .i64 s.level, .int .i64 s.position, .int .i64 s.p0, .int .i64 s.p1, .int .i64 s.order, .int .i64 s.age, .int .i64 x.feed, .int .i64 x.msg]) 1).run Try.prog w = .ok (.agg #[.int .i64 x.feed, .int .i64 x.msg]) w := by kernel_rfl
theorem way_st (s : St) (x : Sh) (w : World) : (Instr.field 104 (.agg #[.int .i64 s.level, .int .i64 s.position, .int .i64 s.p0, .int .i64 s.p1, .int .i64 s.order, .int .i64 s.age, .int .i64 x.feed, .int .i64 x.msg]) 0).run Try.prog w = .ok (.agg #[.int .i64 s.level, .int .i64 s.position, .int .i64 s.p0, .int .i64 s.p1, .int .i64 s.order, .int .i64 s.age]) w := by kernel_rfl
theorem way_form (o : Option Wy) : ∃ d0 d1 d2 d3 d4 d5 d6 d7 : Int, (o.map Wy.v).getD wayZ = .agg #[.int .i64 d0, .int .i64 d1, .int .i64 d2, .int .i64 d3, .int .i64 d4, .int .i64 d5, .int .i64 d6, .int .i64 d7] := by
  cases o with
  | none => exact ⟨0, 0, 0, 0, 0, 0, 0, 0, rfl⟩
  | some x => exact ⟨_, _, _, _, _, _, _, _, rfl⟩
structure RtE (w : World) (rs : List Nat) (l : List Sh) (A : World) : Prop where
  low : Below w.heap.size w A
  res : ∃ A' n c, Box A (w.heap.size + 1 + 1) [.slice A' n c] ∧ ShAt A w.heap.size (.slice A' n c) l
  ok : Box A (w.heap.size + 1 + 1 + 1) [.bool true]
  er : Box A (w.heap.size + 1 + 1 + 1 + 1) [.int .i64 0]
  marks : ∀ r ∈ rs, A.heap[r]? = some (.deferred (some []))
theorem RtE.same {w A B : World} {rs : List Nat} {l : List Sh} (h : RtE w rs l A) (hl : Below w.heap.size A B) (hb : ∀ g xs, Box A g xs → Box B g xs) (hm : ∀ r ∈ rs, B.heap[r]? = A.heap[r]?) : RtE w rs l B := by
  obtain ⟨A', n, c, h1, h2⟩ := h.res
  exact ⟨h.low.trans hl, ⟨A', n, c, hb _ _ h1, h2.same hb⟩, hb _ _ h.ok, hb _ _ h.er, fun r hr => (hm r hr).trans (h.marks r hr)⟩
theorem RtE.loop {w A : World} {rs : List Nat} {l : List Sh} (h : RtE w rs l A) {k : Nat} {r : Loop} (ho : A.heap[k]? = some (.loop r)) (hk : w.heap.size ≤ k) (o' : Obj) : RtE w rs l (A.putObj k o') :=
  h.same (below_put3 hk o') (fun _ _ hx => hx.record ho rfl o') (fun q hq => World.putObj_heap_other (fun e => by
    have := h.marks q hq
    rw [e, ho] at this
    cases this))
theorem RtE.later {w A B : World} {rs : List Nat} {l : List Sh} (h : RtE w rs l A) (hg : A.grownBy B none) : RtE w rs l B :=
  h.same ⟨hg.os, hg.tape, hg.output, hg.size, fun k hk => hg.block k (Nat.lt_of_lt_of_le hk h.low.size) (fun e => by cases e)⟩ (fun _ _ hx => hx.same (hg.block _ hx.lt (fun e => by cases e))) (fun q hq => hg.block q (Array.getElem?_eq_some_iff.1 (h.marks q hq)).1 (fun e => by cases e))
theorem InE.grownNone {w A B : World} {G B8 Bc B10 Rb Bo B12 Bg Z n c : Nat} {p : Pl} {V : Value} {b s : St} {rs : List Nat} {Ad : Option Addr} {came : St → Option Wy} {op : List St} (h : InE w G B8 Bc B10 Rb Bo B12 Z p V b s rs came Ad n c op A) (hn : InEN w G B8 Bc B10 Rb Bo B12 Bg Z rs) (hg : A.grownBy B none) : InE w G B8 Bc B10 Rb Bo B12 Z p V b s rs came Ad n c op B :=
  h.later hn ⟨hg.os, hg.tape, hg.output, hg.size, fun k hk => hg.block k hk (fun e => by cases e)⟩
end Go.Proofs.Ytancngachnpefaa
