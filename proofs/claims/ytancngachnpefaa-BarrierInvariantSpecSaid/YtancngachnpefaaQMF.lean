/- Invariant of package barrier: the way that ends early. (Printed by pp.py.) No condition. -/
import Derived.Test.YtancngachnpefaaQME
import Derived.Test.YtancngachnpefaaQBP
import Derived.Test.YtancngachnpefaaQK
import Derived.Deep.Quiet
import Derived.RangeFuncNested
import Derived.OwnWalkIn
set_option linter.unusedVariables false
set_option linter.unusedSimpArgs false
set_option maxRecDepth 100000
set_option maxHeartbeats 4000000
namespace Go.Proofs.Ytancngachnpefaa
open Go.RowKit Go.Shelf
attribute [local go_sem] Oper.semAt_some
theorem bInv_0 (p : Pl) (c : List Ln) (A2 : Option Addr) (m2 k2 : Nat) (w : World) (er : Int) (h : Hid (askT p c = er)) (h0 : Hid (er ≠ 0)) (hC : Hid (CodeAt w w.heap.size (.slice A2 m2 k2) c)) :
    Calls Try.prog 16 #[p.v, .agg #[.slice A2 m2 k2]] w fun e w' => e = .returned (.tuple #[.slice none 0 0, .bool false, .int .i64 er]) ∧ Below w.heap.size w w' := by
  have hd : (er != 0) = true := by simp [h0.out]
  refine calls_of_wp_marks Try.func16 rfl ?_
  simp only [Try.ntmps16, List.size_toArray, List.length_cons, List.length_nil, Nat.reduceAdd, Nat.reduceSub, Array.replicate_succ, Array.replicate_zero, List.push_toArray, List.append_toArray, List.nil_append, List.cons_append]
  go_wp2_with fail
  have hB := (((Below.refl w.heap.size w).alloc (by simp <;> omega) (.cells #[.int .i64 p.top, .int .i64 p.bank, .int .i64 p.siphon, .int .i64 p.start, .int .i64 p.positions, .int .i64 p.rate, .int .i64 p.step, .int .i64 p.pass, .int .i64 p.feed, .int .i64 p.pipe, .int .i64 p.orders, .int .i64 p.age] 23)).alloc (by simp <;> omega) (.cells #[.slice A2 m2 k2] 26)).alloc (by simp <;> omega) (.cells #[.slice none 0 0] 43)
  have X4 := Box.newAt (w := (w.alloc (.cells #[.int .i64 p.top, .int .i64 p.bank, .int .i64 p.siphon, .int .i64 p.start, .int .i64 p.positions, .int .i64 p.rate, .int .i64 p.step, .int .i64 p.pass, .int .i64 p.feed, .int .i64 p.pipe, .int .i64 p.orders, .int .i64 p.age] 23)).alloc (.cells #[.slice A2 m2 k2] 26)) (n := w.heap.size + 1 + 1) [.slice none 0 0] 43 (by simp)
  generalize ((w.alloc (.cells #[.int .i64 p.top, .int .i64 p.bank, .int .i64 p.siphon, .int .i64 p.start, .int .i64 p.positions, .int .i64 p.rate, .int .i64 p.step, .int .i64 p.pass, .int .i64 p.feed, .int .i64 p.pipe, .int .i64 p.orders, .int .i64 p.age] 23)).alloc (.cells #[.slice A2 m2 k2] 26)).alloc (.cells #[.slice none 0 0] 43) = w0 at X4 hB ⊢
  refine (bOpen_bad h h0 (Lib.hid ((hC.out.below hB).more hB.size))).mono ?_
  rintro e w1 ⟨rfl, hb⟩
  have X4 := X4.later hb
  have hB := hB.trans (hb.mono hB.size)
  clear hb
  simp only [Pl.zero0]
  go_upto_region 2 with fail
  have X4 := X4.alloc (.cells #[.int .i64 0, .int .i64 0, .int .i64 0, .int .i64 0, .int .i64 0, .int .i64 0, .int .i64 0, .int .i64 0, .int .i64 0, .int .i64 0, .int .i64 0, .int .i64 0, .slice none 0 0] 83)
  have hB := hB.alloc hB.size (.cells #[.int .i64 0, .int .i64 0, .int .i64 0, .int .i64 0, .int .i64 0, .int .i64 0, .int .i64 0, .int .i64 0, .int .i64 0, .int .i64 0, .int .i64 0, .int .i64 0, .slice none 0 0] 83)
  generalize w1.alloc (.cells #[.int .i64 0, .int .i64 0, .int .i64 0, .int .i64 0, .int .i64 0, .int .i64 0, .int .i64 0, .int .i64 0, .int .i64 0, .int .i64 0, .int .i64 0, .int .i64 0, .slice none 0 0] 83) = w2 at X4 hB ⊢
  have X4c0 : w2.cell? ⟨w.heap.size + 1 + 1, 0, none⟩ = some (.slice none 0 0) := X4.cell 0
  have X4f0 : w2.frozen? ⟨w.heap.size + 1 + 1, 0, none⟩ = false := X4.free 0
  have X4z : w.heap.size + 1 + 1 < w2.heap.size := X4.lt
  go_wp2
  have Y := (X4.set 0 (.slice none 0 0))
  have hB := (hB.setCell (p := ⟨w.heap.size + 1 + 1, 0, none⟩) (by simp <;> omega) (.slice none 0 0))
  generalize (w2.setCell ⟨w.heap.size + 1 + 1, 0, none⟩ (.slice none 0 0)) = W at Y hB ⊢
  have Yc0 : W.cell? ⟨w.heap.size + 1 + 1, 0, none⟩ = some (.slice none 0 0) := Y.cell 0
  refine ⟨_, (by simp [results, Try.results16, go_sem, Yc0] : _ = Result.ok (Value.tuple #[.slice none 0 0, .bool false, .int .i64 er]) _), ?_⟩
  exact ⟨rfl, hB⟩
end Go.Proofs.Ytancngachnpefaa
namespace Go.Proofs.Ytancngachnpefaa
open Go.RowKit Go.Shelf
structure Did (X : Nat → Prop) (D : Nat) (A B : World) : Prop where
  os : B.os = A.os
  tape : B.tape = A.tape
  output : B.output = A.output
  size : A.heap.size ≤ B.heap.size
  low : ∀ k, k < D → ¬ X k → k < A.heap.size → B.heap[k]? = A.heap[k]?
  high : ∀ k o, ¬ X k → A.heap[k]? = some o → o.isCells = false → B.heap[k]? = some o
section
variable {X : Nat → Prop} {D : Nat} {A B C : World}
theorem Did.refl (X : Nat → Prop) (D : Nat) (A : World) : Did X D A A := ⟨rfl, rfl, rfl, Nat.le_refl _, fun _ _ _ _ => rfl, fun _ _ _ h _ => h⟩
theorem Did.grown {row : Option Nat} (h : Did X D A B) (hg : B.grownBy C row) (hr : ∀ k, row = some k → X k ∨ A.heap.size ≤ k ∨ (D ≤ k ∧ ∃ cs t f, B.heap[k]? = some (.cells cs t f))) : Did X D A C := by
  refine ⟨hg.os.trans h.os, hg.tape.trans h.tape, hg.output.trans h.output, Nat.le_trans h.size hg.size, fun k hk hx hlt => ?_, fun k o hx ho hc => ?_⟩
  · refine (hg.block k (Nat.lt_of_lt_of_le hlt h.size) (fun e => ?_)).trans (h.low k hk hx hlt)
    rcases hr k e.symm with h1 | h1 | ⟨h1, _⟩
    · exact hx h1
    · omega
    · omega
  · have hB := h.high k o hx ho hc
    have hlt := (Array.getElem?_eq_some_iff.1 ho).1
    refine (hg.block k (Array.getElem?_eq_some_iff.1 hB).1 (fun e => ?_)).trans hB
    rcases hr k e.symm with h1 | h1 | ⟨_, cs, t, f, h1⟩
    · exact hx h1
    · omega
    · rw [hB] at h1
      cases h1
      cases hc
theorem Did.below (h : Did X D A B) (hb : Below B.heap.size B C) : Did X D A C := h.grown (row := none) (grown_below hb) (fun _ e => by cases e)
theorem Did.turn2 {m : Nat} {row : Option Nat} (h : Did X D A B) (ht : Turn2 B C m row) (hm : X m ∨ A.heap.size ≤ m) (hr : ∀ k, row = some k → D ≤ k ∧ ∃ cs t f, B.heap[k]? = some (.cells cs t f)) : Did X D A C := by
  refine ⟨ht.os.trans h.os, ht.tape.trans h.tape, ht.output.trans h.output, Nat.le_trans h.size ht.size, fun k hk hx hlt => ?_, fun k o hx ho hc => ?_⟩
  · refine (ht.block k (Nat.lt_of_lt_of_le hlt h.size) (fun e => ?_) (fun e => ?_)).trans (h.low k hk hx hlt)
    · rcases hm with hm | hm
      · exact hx (e ▸ hm)
      · omega
    · have := (hr k e.symm).1
      omega
  · have hB := h.high k o hx ho hc
    have hlt := (Array.getElem?_eq_some_iff.1 ho).1
    refine (ht.block k (Array.getElem?_eq_some_iff.1 hB).1 (fun e => ?_) (fun e => ?_)).trans hB
    · rcases hm with hm | hm
      · exact hx (e ▸ hm)
      · omega
    · obtain ⟨_, cs, t, f, h1⟩ := hr k e.symm
      rw [hB] at h1
      cases h1
      cases hc
theorem Did.box (h : Did X D A B) {b : Nat} {xs : List Value} (hx : Box A b xs) (hb : b < D) (hX : ¬ X b) : Box B b xs := hx.same (h.low b hb hX hx.lt)
theorem Did.kf (h : Did X D A B) {n : Nat} (hX : ∀ k, X k → k < n) : KeepsFrom n A B := ⟨h.size, fun k o hk ho hc => h.high k o (fun hx => by have := hX k hx; omega) ho hc⟩
theorem Did.kc (h : Did X D A B) {D0 : Nat} {R : Nat → Prop} (hD : D0 ≤ D) (hA : D0 ≤ A.heap.size) (hX : ∀ k, X k → D0 ≤ k) (hR : ∀ b, ¬ R b → b < D ∧ ¬ X b) : KeepsC D0 R A B :=
  ⟨⟨h.os, h.tape, h.output, h.size, fun k hk => h.low k (by omega) (fun hx => by have := hX k hx; omega) (by omega)⟩, fun b o hr ho _ => (h.low b (hR b hr).1 (hR b hr).2 (Array.getElem?_eq_some_iff.1 ho).1).trans ho⟩
end
theorem grown_put {A : World} {l : Nat} {o o' : Obj} (_h : A.heap[l]? = some o) : A.grownBy (A.putObj l o') (some l) := ⟨rfl, rfl, rfl, by simp, fun k _ hk => World.putObj_heap_other (fun e => hk (by rw [e]))⟩
def xI (b : Nat) (k : Nat) : Prop := k = b ∨ k = b + 1 ∨ k = b + 1 + 1 + 1 + 1
structure IvB (w : World) (G b : Nat) (p : Pl) (V : Value) (W : World) : Prop where
  low : Below w.heap.size w W
  pl : Box W w.heap.size [.int .i64 p.top, .int .i64 p.bank, .int .i64 p.siphon, .int .i64 p.start, .int .i64 p.positions, .int .i64 p.rate, .int .i64 p.step, .int .i64 p.pass, .int .i64 p.feed, .int .i64 p.pipe, .int .i64 p.orders, .int .i64 p.age]
  res : Box W (w.heap.size + 1 + 1) [.slice none 0 0]
  game : Box W G (gmL p V)
  fm : Box W (b + 1 + 1) [.map (some b)]
  lost : Box W (b + 1 + 1 + 1) [.map (some (b + 1))]
structure IvN (w : World) (G b D : Nat) : Prop where
  hg : w.heap.size + 1 + 1 < G
  hb : G < b
  hd : b + 1 + 1 + 1 + 1 < D
theorem IvB.grown {w A B : World} {G b : Nat} {p : Pl} {V : Value} {row : Option Nat} (h : IvB w G b p V A) (hg : A.grownBy B row) (hr : ∀ k, row = some k → w.heap.size ≤ k ∧ k ≠ w.heap.size ∧ k ≠ w.heap.size + 1 + 1 ∧ k ≠ G ∧ k ≠ b + 1 + 1 ∧ k ≠ b + 1 + 1 + 1) : IvB w G b p V B := by
  have hn : ∀ k, (k = w.heap.size ∨ k = w.heap.size + 1 + 1 ∨ k = G ∨ k = b + 1 + 1 ∨ k = b + 1 + 1 + 1) → some k ≠ row := fun k hk e => by
    obtain ⟨_, h2, h3, h4, h5, h6⟩ := hr k e.symm
    rcases hk with h | h | h | h | h
    · exact h2 h
    · exact h3 h
    · exact h4 h
    · exact h5 h
    · exact h6 h
  refine ⟨h.low.grown hg h.low.size (fun k hk => (hr k hk).1), h.pl.same (hg.block _ h.pl.lt (hn _ (.inl rfl))), h.res.same (hg.block _ h.res.lt (hn _ (.inr (.inl rfl)))), h.game.same (hg.block _ h.game.lt (hn _ (.inr (.inr (.inl rfl))))), h.fm.same (hg.block _ h.fm.lt (hn _ (.inr (.inr (.inr (.inl rfl)))))), h.lost.same (hg.block _ h.lost.lt (hn _ (.inr (.inr (.inr (.inr rfl))))))⟩
theorem IvB.later {w A B : World} {G b : Nat} {p : Pl} {V : Value} (h : IvB w G b p V A) (hb : Below A.heap.size A B) : IvB w G b p V B := h.grown (row := none) (grown_below hb) (fun _ e => by cases e)
theorem IvB.did {w A B : World} {G b D : Nat} {p : Pl} {V : Value} (h : IvB w G b p V A) (hn : IvN w G b D) (hd : Did (xI b) D A B) : IvB w G b p V B := by
  obtain ⟨n1, n2, n3⟩ := hn
  have hs := h.low.size
  refine ⟨⟨hd.os.trans h.low.os, hd.tape.trans h.low.tape, hd.output.trans h.low.output, Nat.le_trans h.low.size hd.size, fun k hk => (hd.low k (by omega) (by unfold xI; omega) (by omega)).trans (h.low.block k hk)⟩, hd.box h.pl (by omega) (by unfold xI; omega), hd.box h.res (by omega) (by unfold xI; omega), hd.box h.game (by omega) (by unfold xI; omega), hd.box h.fm (by omega) (by unfold xI; omega), hd.box h.lost (by omega) (by unfold xI; omega)⟩
abbrev LostM (w : World) (B : Nat) (f : St → Bool) : Prop := MapS w B (fun x => if f x = true then some (.bool true) else none)
structure IvD (D b : Nat) (a : Iv) (A : Option Addr) (n c : Nat) (W : World) : Prop where
  box : Box W (b + 1 + 1 + 1 + 1) [.slice A n c]
  op : Qu W D (.slice A n c) a.op
  fr : RowsS W D b (fun k => quB (.slice A n c) = some k) a.fr
  lost : LostM W (b + 1) a.lost
theorem IvD.grown {D b : Nat} {a : Iv} {A : Option Addr} {n c : Nat} {W W' : World} {row : Option Nat} (h : IvD D b a A n c W) (hg : W.grownBy W' row) (hr : ∀ k, row = some k → k ≠ b ∧ k ≠ b + 1 ∧ k ≠ b + 1 + 1 + 1 + 1 ∧ (k < D ∨ ∃ o, W.heap[k]? = some o ∧ o.isCells = false)) : IvD D b a A n c W' := by
  refine ⟨h.box.same (hg.block _ h.box.lt (fun e => (hr _ e.symm).2.2.1 rfl)), h.op.kept hg (fun k hk e => ?_), h.fr.kept hg (fun e => (hr _ e).1 rfl) (fun k hk => .inr (hr k hk).2.2.2), h.lost.kept hg (fun e => (hr _ e.symm).2.1 rfl)⟩
  rcases (hr k e).2.2.2 with h1 | ⟨o, h1, h2⟩
  · have := (h.op.lt hk).1
    omega
  · exact h.op.cellsOnly hk h1 h2
theorem IvD.later {D b : Nat} {a : Iv} {A : Option Addr} {n c : Nat} {W W' : World} (h : IvD D b a A n c W) (hb : Below W.heap.size W W') : IvD D b a A n c W' := h.grown (row := none) (grown_below hb) (fun _ e => by cases e)
theorem IvD.grow {D b : Nat} {a : Iv} {A : Option Addr} {n c : Nat} {W : World} (ty : TypeId) (h : IvD D b a A n c W) {g : Nat} {s : St} (hx : Box W g s.cells) (hDW : D ≤ W.heap.size) (hbD : b + 1 + 1 + 1 + 1 < D) (hl : a.op.length ≤ 1048576) (hs : s.Wide) :
    ∃ (A4 : Option Addr) (n4 c4 : Nat) (wA wB : World), (appF #[43, 43] ty #[.slice A n c, .slice (some ⟨g, 0, none⟩) 1 1]).run Try.prog W = .ok (.slice A4 n4 c4) wA ∧
      (Instr.mapUpdate 56 (.map (some (b + 1))) s.v (.bool true)).run Try.prog wA = .ok () wB ∧ IvD D b ⟨a.fr, updB a.lost s, a.op ++ [s]⟩ A4 n4 c4 (wB.setCell ⟨b + 1 + 1 + 1 + 1, 0, none⟩ (.slice A4 n4 c4)) ∧
      (∀ No : Nat → Prop, RowsS W D b No a.fr → (∀ k, quB (.slice A n c) = some k → No k) → RowsS (wB.setCell ⟨b + 1 + 1 + 1 + 1, 0, none⟩ (.slice A4 n4 c4)) D b No a.fr) ∧
      (∀ k, quB (.slice A4 n4 c4) = some k → quB (.slice A n c) = some k ∨ W.heap.size ≤ k) ∧ (∀ v l, Row W D v l → (∀ k, v.ownBlock = some k → quB (.slice A n c) ≠ some k) → Row (wB.setCell ⟨b + 1 + 1 + 1 + 1, 0, none⟩ (.slice A4 n4 c4)) D v l) ∧
      (∀ W0, Did (xI b) D W0 W → Did (xI b) D W0 (wB.setCell ⟨b + 1 + 1 + 1 + 1, 0, none⟩ (.slice A4 n4 c4))) ∧
      (∀ x xs, Box W x xs → quB (.slice A n c) ≠ some x → Box wA x xs ∧ Box wB x xs ∧ (x ≠ b + 1 + 1 + 1 + 1 → Box (wB.setCell ⟨b + 1 + 1 + 1 + 1, 0, none⟩ (.slice A4 n4 c4)) x xs)) := by
  obtain ⟨A4, c4, wA, hr, hq4, hg4, hor⟩ := h.op.app ty hx hDW hl
  have hB1 : quB (.slice A n c) ≠ some (b + 1) := fun e => by
    obtain ⟨es, cl, hb⟩ := h.lost.block
    exact h.op.cellsOnly e hb rfl
  have hB0 : quB (.slice A n c) ≠ some b := fun e => by
    have := (h.op.lt e).1
    omega
  have hB4 : quB (.slice A n c) ≠ some (b + 1 + 1 + 1 + 1) := fun e => by
    have := (h.op.lt e).1
    omega
  have hlA : LostM wA (b + 1) a.lost := h.lost.kept hg4 (fun e => hB1 e.symm)
  obtain ⟨wB, hrB, hmB, hgB, hsB⟩ := hlA.put Try.underlying56 hs (.bool true)
  rw [updB_some] at hmB
  have hgC : wB.grownBy (wB.setCell ⟨b + 1 + 1 + 1 + 1, 0, none⟩ (.slice A4 (a.op.length + 1) c4)) (some (b + 1 + 1 + 1 + 1)) := grown_cell (grown_refl _ _) _
  have hrows : ∀ No : Nat → Prop, RowsS W D b No a.fr → (∀ k, quB (.slice A n c) = some k → No k) → RowsS (wB.setCell ⟨b + 1 + 1 + 1 + 1, 0, none⟩ (.slice A4 (a.op.length + 1) c4)) D b No a.fr := fun No hR hNo =>
    ((hR.kept hg4 hB0 (fun k hk => .inl (hNo k hk))).kept hgB (fun e => by have := Option.some.inj e; omega) (fun k hk => by cases hk; exact .inr (.inl (by omega)))).kept hgC (fun e => by have := Option.some.inj e; omega) (fun k hk => by cases hk; exact .inr (.inl hbD))
  have hnew : ∀ k, quB (.slice A4 (a.op.length + 1) c4) = some k → quB (.slice A n c) = some k ∨ W.heap.size ≤ k := fun k hk => by
    rcases hor with ho | ⟨k', ho, hge⟩
    · exact .inl (by rw [← ho]; exact hk)
    · rw [ho] at hk
      cases hk
      exact .inr hge
  have hrowk : ∀ v l, Row W D v l → (∀ k, v.ownBlock = some k → quB (.slice A n c) ≠ some k) → Row (wB.setCell ⟨b + 1 + 1 + 1 + 1, 0, none⟩ (.slice A4 (a.op.length + 1) c4)) D v l := fun v l hv hne => by
    have k1 := hv.kept hg4 hne
    have k2 := k1.kept hgB (fun k hk e => by cases e; have := (k1.lt hk).1; omega)
    exact k2.kept hgC (fun k hk e => by cases e; have := (k2.lt hk).1; omega)
  refine ⟨A4, _, c4, wA, wB, hr, hrB, ⟨?_, ?_, ?_, ?_⟩, hrows, hnew, hrowk, ?_, ?_⟩
  · have X := h.box.same (hg4.block _ h.box.lt (fun e => hB4 e.symm))
    have X := X.same (hgB.block _ X.lt (fun e => by have := Option.some.inj e; omega))
    exact X.set 0 _
  · exact (hq4.kept hgB (fun k hk e => by cases e; have := (hq4.lt hk).1; omega)).kept hgC (fun k hk e => by cases e; have := (hq4.lt hk).1; omega)
  · refine (hrows (fun k => quB (.slice A n c) = some k ∨ quB (.slice A4 (a.op.length + 1) c4) = some k) (h.fr.no (fun k hk => ?_)) (fun k hk => .inl hk)).no (fun k hk => .inl (.inr hk))
    rcases hk with hk | hk
    · exact .inl hk
    · rcases hor with ho | ⟨k', ho, hge⟩
      · exact .inl (by rw [← ho]; exact hk)
      · rw [ho] at hk
        cases hk
        exact .inr hge
  · exact hmB.kept hgC (fun e => by have := Option.some.inj e; omega)
  · intro W0 hd
    have hd1 := hd.grown hg4 (fun k hk => .inr (.inr ⟨(h.op.lt hk).1, by obtain ⟨cs, hcs⟩ := h.op.cells? hk; exact ⟨cs, _, _, hcs⟩⟩))
    have hd2 := hd1.grown hgB (fun k hk => by cases hk; exact .inl (.inr (.inl rfl)))
    exact hd2.grown hgC (fun k hk => by cases hk; exact .inl (.inr (.inr rfl)))
  · intro x xs hX hne
    have X1 := hX.same (hg4.block _ hX.lt (fun e => hne e.symm))
    have X2 := X1.same (hgB.block _ X1.lt (fun e => hmB.notBox (X1.same (hgB.block _ X1.lt (fun e2 => by
      cases e2
      exact hlA.notBox X1 rfl))) (Option.some.inj e)))
    exact ⟨X1, X2, fun h4 => X2.same (hgC.block _ X2.lt (fun e => h4 (Option.some.inj e)))⟩
theorem has_wide {p : Pl} (hv : p.Valid) {s : St} (h : p.hasB s = true) : s.Wide := by
  obtain ⟨h1, h2, h3, h4, h5, h6⟩ := small6 hv (Pl.hasB_bd h)
  exact ⟨⟨by omega, by omega⟩, ⟨by omega, by omega⟩, ⟨by omega, by omega⟩, ⟨by omega, by omega⟩, ⟨by omega, by omega⟩, ⟨by omega, by omega⟩⟩
theorem states_wide {p : Pl} (hv : p.Valid) {s : St} (h : s ∈ p.states) : s.Wide := has_wide hv (states_has hv h)
theorem nums_wide {s : St} (h : s.numsB = true) : s.Wide := by
  simp only [St.numsB, Bool.and_eq_true, inI, decide_eq_true_eq] at h
  obtain ⟨h0, h1, h2, h3, h4, h5⟩ := h
  exact ⟨⟨by omega, by omega⟩, ⟨by omega, by omega⟩, ⟨by omega, by omega⟩, ⟨by omega, by omega⟩, ⟨by omega, by omega⟩, ⟨by omega, by omega⟩⟩
def RetInv (w : World) (l : List St) (ok : Bool) (er : Int) (e : Ending) (w' : World) : Prop :=
  ∃ A n c, e = .returned (.tuple #[.slice A n c, .bool ok, .int .i64 er]) ∧ Row w' w.heap.size (.slice A n c) l ∧ Below w.heap.size w w'
theorem Row.low {w : World} {D D' : Nat} {V : Value} {l : List St} (h : Row w D V l) (hD : D' ≤ D) : Row w D' V l :=
  ⟨h.1, h.2.imp id fun ⟨g, cap, cur, hv, hg, rest⟩ => ⟨g, cap, cur, hv, Nat.le_trans hD hg, rest⟩⟩
theorem states_len (p : Pl) : p.states.length = p.count := by simp [Pl.states]
theorem pre_len {α : Type} {l pre : List α} {x : α} (h : pre ++ [x] <+: l) : pre.length + 1 ≤ l.length := by
  have := h.length_le
  simpa using this
theorem addN_t {s y : St} {a : (St → List St) × (St → Bool)} (h : a.2 y = true) : addN s a y = a := if_pos h
theorem addN_f {s y : St} {a : (St → List St) × (St → Bool)} (h : a.2 y = false) : addN s a y = (updF a.1 y (a.1 y ++ [s]), updB a.2 y) := if_neg (by rw [h]; decide)
theorem IvD.pop {D b : Nat} {fr : St → List St} {lost : St → Bool} {y : St} {r : List St} {A A' : Option Addr} {n c n' c' : Nat} {W : World} (h : IvD D b ⟨fr, lost, y :: r⟩ A n c W) (hbD : b + 1 + 1 + 1 + 1 < D) (hq : Qu W D (.slice A' n' c') r) (hqb : ∀ k, quB (.slice A' n' c') = some k → quB (.slice A n c) = some k) :
    IvD D b ⟨fr, lost, r⟩ A' n' c' (W.setCell ⟨b + 1 + 1 + 1 + 1, 0, none⟩ (.slice A' n' c')) := by
  have hgC : W.grownBy (W.setCell ⟨b + 1 + 1 + 1 + 1, 0, none⟩ (.slice A' n' c')) (some (b + 1 + 1 + 1 + 1)) := grown_cell (grown_refl _ _) _
  exact ⟨h.box.set 0 _, hq.kept hgC (fun k hk e => by cases e; have := (hq.lt hk).1; omega), (h.fr.kept hgC (fun e => by have := Option.some.inj e; omega) (fun k hk => by cases hk; exact .inr (.inl hbD))).no (fun k hk => .inl (hqb k hk)), h.lost.kept hgC (fun e => by have := Option.some.inj e; omega)⟩
theorem markI_t {s : St} {a : (St → Bool) × List St} (h : a.1 s = true) : markI a s = a := if_pos h
theorem markI_f {s : St} {a : (St → Bool) × List St} (h : a.1 s = false) : markI a s = (updB a.1 s, a.2 ++ [s]) := if_neg (by rw [h]; decide)
structure OutI (w : World) (b D E : Nat) (p : Pl) (lost : St → Bool) (l : List St) (A : Option Addr) (n c : Nat) (W : World) : Prop where
  low : Below w.heap.size w W
  pl : Box W w.heap.size [.int .i64 p.top, .int .i64 p.bank, .int .i64 p.siphon, .int .i64 p.start, .int .i64 p.positions, .int .i64 p.rate, .int .i64 p.step, .int .i64 p.pass, .int .i64 p.feed, .int .i64 p.pipe, .int .i64 p.orders, .int .i64 p.age]
  res : Box W (w.heap.size + 1 + 1) [.slice A n c]
  row : Row W D (.slice A n c) l
  lostP : Box W (b + 1 + 1 + 1) [.map (some (b + 1))]
  lost : LostM W (b + 1) lost
  mark : W.heap[E]? = some (.deferred (some []))
theorem OutI.grown {w : World} {b D E : Nat} {p : Pl} {lost : St → Bool} {l : List St} {A : Option Addr} {n c : Nat} {W W' : World} {row : Option Nat} (h : OutI w b D E p lost l A n c W) (hg : W.grownBy W' row) (hr : ∀ k, row = some k → w.heap.size + 1 + 1 < k ∧ b + 1 + 1 + 1 < k ∧ k ≠ E ∧ (k < D ∨ ∃ o, W.heap[k]? = some o ∧ o.isCells = false)) : OutI w b D E p lost l A n c W' := by
  refine ⟨h.low.grown hg h.low.size (fun k hk => by have := (hr k hk).1; omega), h.pl.same (hg.block _ h.pl.lt (fun e => by have := (hr _ e.symm).1; omega)), h.res.same (hg.block _ h.res.lt (fun e => by have := (hr _ e.symm).1; omega)), h.row.kept hg (fun k hk e => ?_), h.lostP.same (hg.block _ h.lostP.lt (fun e => by have := (hr _ e.symm).2.1; omega)), h.lost.kept hg (fun e => by have := (hr _ e.symm).2.1; omega), (hg.block _ (Array.getElem?_eq_some_iff.1 h.mark).1 (fun e => (hr _ e.symm).2.2.1 rfl)).trans h.mark⟩
  rcases (hr k e).2.2.2 with h1 | ⟨o, h1, h2⟩
  · have := (h.row.lt hk).1
    omega
  · exact h.row.cellsOnly hk h1 h2
theorem OutI.later {w : World} {b D E : Nat} {p : Pl} {lost : St → Bool} {l : List St} {A : Option Addr} {n c : Nat} {W W' : World} (h : OutI w b D E p lost l A n c W) (hb : Below W.heap.size W W') : OutI w b D E p lost l A n c W' := h.grown (row := none) (grown_below hb) (fun _ e => by cases e)
theorem OutI.push {w : World} {b D E : Nat} {p : Pl} {lost : St → Bool} {l : List St} {A : Option Addr} {n c : Nat} {W : World} (ty : TypeId) (h : OutI w b D E p lost l A n c W) {g : Nat} {s : St} (hx : Box W g s.cells) (hDW : D ≤ W.heap.size) (hl : l.length ≤ 1048576) (h1 : w.heap.size + 1 + 1 < D) (h2 : b + 1 + 1 + 1 < D) (h3 : E ≠ w.heap.size + 1 + 1) (h4 : w.heap.size + 1 + 1 < b + 1 + 1 + 1) :
    ∃ (g' c' : Nat) (W2 : World), (appF #[43, 43] ty #[.slice A n c, .slice (some ⟨g, 0, none⟩) 1 1]).run Try.prog W = .ok (.slice (some ⟨g', 0, none⟩) (l.length + 1) c') W2 ∧ Box W2 (w.heap.size + 1 + 1) [.slice A n c] ∧
      OutI w b D E p lost (l ++ [s]) (some ⟨g', 0, none⟩) (l.length + 1) c' (W2.setCell ⟨w.heap.size + 1 + 1, 0, none⟩ (.slice (some ⟨g', 0, none⟩) (l.length + 1) c')) ∧
      (∀ W0, Did (fun k => k = w.heap.size + 1 + 1) D W0 W → Did (fun k => k = w.heap.size + 1 + 1) D W0 (W2.setCell ⟨w.heap.size + 1 + 1, 0, none⟩ (.slice (some ⟨g', 0, none⟩) (l.length + 1) c'))) := by
  obtain ⟨g', c', W2, hr, hrow2, hg2, hor⟩ := run_appS ty h.row hx hDW hl
  have hne : ∀ k, k < D → (Value.slice A n c).ownBlock ≠ some k := fun k hk e => by
    have := (h.row.lt e).1
    omega
  have hE : (Value.slice A n c).ownBlock ≠ some E := fun e => h.row.cellsOnly e h.mark rfl
  have hB : (Value.slice A n c).ownBlock ≠ some (b + 1) := hne _ (by omega)
  have hk : ∀ {y : Nat} {xs : List Value}, Box W y xs → y < D → Box W2 y xs := fun hX hy => hX.same (hg2.block _ hX.lt (fun e => hne _ hy e.symm))
  have hgC : W2.grownBy (W2.setCell ⟨w.heap.size + 1 + 1, 0, none⟩ (.slice (some ⟨g', 0, none⟩) (l.length + 1) c')) (some (w.heap.size + 1 + 1)) := grown_cell (grown_refl _ _) _
  have hres := hk h.res h1
  have hlow := h.low.grown hg2 h.low.size (fun k hk => by have := (h.row.lt hk).1; omega)
  have hmark := (hg2.block _ (Array.getElem?_eq_some_iff.1 h.mark).1 (fun e => hE e.symm)).trans h.mark
  refine ⟨g', c', W2, hr, hres, ⟨hlow.grown hgC hlow.size (fun k hk => by cases hk; omega), ?_, hres.set 0 _, hrow2.set (by dsimp only; omega) _, ?_, ?_, ?_⟩, ?_⟩
  · have X := hk h.pl (by omega)
    exact X.same (hgC.block _ X.lt (fun e => by have := Option.some.inj e; omega))
  · have X := hk h.lostP h2
    exact X.same (hgC.block _ X.lt (fun e => by have := Option.some.inj e; omega))
  · exact (h.lost.kept hg2 (fun e => hB e.symm)).set (fun e => (h.lost.kept hg2 (fun e => hB e.symm)).notBox hres e) _
  · exact (hgC.block _ (Array.getElem?_eq_some_iff.1 hmark).1 (fun e => h3 (Option.some.inj e))).trans hmark
  · intro W0 hd
    exact (hd.grown hg2 (fun k hk => .inr (.inr ⟨(h.row.lt hk).1, by obtain ⟨cs, hcs⟩ := h.row.cells? hk; exact ⟨cs, _, _, hcs⟩⟩))).grown hgC (fun k hk => by cases hk; exact .inl rfl)
def foldI (s : St) (fr : St → List St) (pre : List (Sh × St)) : (St → List St) × (St → Bool) := (pre.map (·.2)).foldl (addN s) (fr, fun _ => false)
theorem foldI_snoc (s : St) (fr : St → List St) (pre : List (Sh × St)) (y : Sh × St) : foldI s fr (pre ++ [y]) = addN s (foldI s fr pre) y.2 := by
  rw [foldI, List.map_append, List.foldl_append]
  rfl
structure InI (b : Nat) (p : Pl) (V : Value) (D : Nat) (W : World) (B11 B12 Sn Bg z3 : Nat) (x : St) (A4 : Option Addr) (n4 c4 : Nat) (op : List St) (lost : St → Bool) (fr : St → List St) (sn : St → Bool) (A : World) : Prop where
  size : z3 ≤ A.heap.size
  did : Did (xI b) D W A
  s : Box A B11 x.cells
  seenP : Box A B12 [.map (some Sn)]
  gm : Box A Bg (gmL p V)
  st : Box A (Bg + 1) x.cells
  q : Box A (b + 1 + 1 + 1 + 1) [.slice A4 n4 c4]
  op : Qu A D (.slice A4 n4 c4) op
  lost : LostM A (b + 1) lost
  seen : LostM A Sn sn
  rows : RowsS A D b (fun g => quB (.slice A4 n4 c4) = some g ∨ (B11 ≤ g ∧ g < z3)) fr
structure InN (b D : Nat) (W : World) (B11 B12 Sn Bg z3 : Nat) : Prop where
  hb : b + 1 + 1 + 1 + 1 < B11
  hd : b + 1 + 1 + 1 + 1 < D
  hw : W.heap.size ≤ Sn
  hs : B11 < Sn
  hp : Sn < B12
  hg : B12 < Bg
  hz : Bg + 1 < z3
theorem InI.grown {b : Nat} {p : Pl} {V : Value} {D : Nat} {W : World} {B11 B12 Sn Bg z3 : Nat} {x : St} {A4 : Option Addr} {n4 c4 : Nat} {op : List St} {lost : St → Bool} {fr : St → List St} {sn : St → Bool} {A B : World} {row : Option Nat} (h : InI b p V D W B11 B12 Sn Bg z3 x A4 n4 c4 op lost fr sn A) (hn : InN b D W B11 B12 Sn Bg z3) (hg : A.grownBy B row) (hr : ∀ k, row = some k → z3 ≤ k ∧ ∃ o, A.heap[k]? = some o ∧ o.isCells = false) : InI b p V D W B11 B12 Sn Bg z3 x A4 n4 c4 op lost fr sn B := by
  obtain ⟨n1, n2, n3, n4', n5, n6, n7⟩ := hn
  have hk : ∀ {y : Nat} {xs : List Value}, Box A y xs → y < z3 → Box B y xs := fun hX hy => hX.same (hg.block _ hX.lt (fun e => by have := (hr _ e.symm).1; omega))
  refine ⟨Nat.le_trans h.size hg.size, h.did.grown hg (fun k hk => .inr (.inl (by have := (hr k hk).1; omega))), hk h.s (by omega), hk h.seenP (by omega), hk h.gm (by omega), hk h.st n7, hk h.q (by omega), h.op.kept hg (fun k hk e => ?_), h.lost.kept hg (fun e => by have := (hr _ e.symm).1; omega), h.seen.kept hg (fun e => by have := (hr _ e.symm).1; omega), h.rows.kept hg (fun e => by have := (hr _ e).1; omega) (fun k hk => .inr (.inr (hr k hk).2))⟩
  obtain ⟨_, o, h1, h2⟩ := hr k e
  exact h.op.cellsOnly hk h1 h2
theorem InI.later {b : Nat} {p : Pl} {V : Value} {D : Nat} {W : World} {B11 B12 Sn Bg z3 : Nat} {x : St} {A4 : Option Addr} {n4 c4 : Nat} {op : List St} {lost : St → Bool} {fr : St → List St} {sn : St → Bool} {A B : World} (h : InI b p V D W B11 B12 Sn Bg z3 x A4 n4 c4 op lost fr sn A) (hn : InN b D W B11 B12 Sn Bg z3) (hb : Below A.heap.size A B) : InI b p V D W B11 B12 Sn Bg z3 x A4 n4 c4 op lost fr sn B := h.grown hn (row := none) (grown_below hb) (fun _ e => by cases e)
theorem zero_bool (w : World) : (zeroValue 4).run Try.prog w = .ok (.bool false) w := by kernel_rfl
theorem zero_states (w : World) : (zeroValue 43).run Try.prog w = .ok (.slice none 0 0) w := by kernel_rfl
theorem lost_look {w : World} {B : Nat} {f : St → Bool} {s : St} (h : LostM w B f) (hs : s.Wide) : (Instr.lookup 56 (.map (some B)) s.v false).run Try.prog w = .ok (.bool (f s)) w := by
  have := h.look Try.underlying56 (zero_bool w) hs
  cases hf : f s <;> simp [hf] at this <;> exact this
theorem foldI_len {s : St} {fr : St → List St} (pre : List (Sh × St)) (y : St) : ((foldI s fr pre).1 y).length ≤ (fr y).length + 1 := by
  unfold foldI
  exact (add_len (s := s) (fr0 := fr) _ (fr, fun _ => false) (fun _ => ⟨Nat.le_succ _, fun _ => Nat.le_refl _⟩) y).1
theorem InI.push {w : World} {G b : Nat} {p : Pl} {V : Value} {D : Nat} {W : World} {B11 B12 Sn Bg z3 : Nat} {x0 x1 x2 x3 x4 x5 y0 y1 y2 y3 y4 y5 : Int} {A4 : Option Addr} {n4 c4 : Nat} {op : List St} {lost : St → Bool} {fr : St → List St} {sn : St → Bool} {A : World} (ty : TypeId)
    (h : InI b p V D W B11 B12 Sn Bg z3 ⟨x0, x1, x2, x3, x4, x5⟩ A4 n4 c4 op lost fr sn A) (hn : InN b D W B11 B12 Sn Bg z3) (hN : IvN w G b D) (hDz : D ≤ z3) (hy : (⟨y0, y1, y2, y3, y4, y5⟩ : St).Wide) (hl : (fr ⟨y0, y1, y2, y3, y4, y5⟩).length ≤ 1048576) :
    ∃ (A1 w1 : World) (st : Nat) (A0 : Option Addr) (n0 c0 : Nat) (w2 : World) (A5 : Option Addr) (n5 c5 : Nat) (w3 : World), (Instr.mapUpdate 56 (.map (some Sn)) (.agg #[.int .i64 y0, .int .i64 y1, .int .i64 y2, .int .i64 y3, .int .i64 y4, .int .i64 y5]) (.bool true)).run Try.prog A = .ok () A1 ∧
      (Instr.mapEntry 97 (.map (some b)) (.agg #[.int .i64 y0, .int .i64 y1, .int .i64 y2, .int .i64 y3, .int .i64 y4, .int .i64 y5])).run Try.prog (A1.alloc (.cells #[.int .i64 x0, .int .i64 x1, .int .i64 x2, .int .i64 x3, .int .i64 x4, .int .i64 x5] 30)) = .ok (.tuple #[.slice A0 n0 c0, .int .i64 st]) w1 ∧
      (appF #[43, 43] ty #[.slice A0 n0 c0, .slice (some ⟨A1.heap.size, 0, none⟩) 1 1]).run Try.prog w1 = .ok (.slice A5 n5 c5) w2 ∧
      (Instr.entryStore 97 (.map (some b)) (.int .i64 st) (.slice A5 n5 c5)).run Try.prog w2 = .ok () w3 ∧ (∀ k xs, Box A k xs → Box A1 k xs) ∧
      InI b p V D W B11 B12 Sn Bg z3 ⟨x0, x1, x2, x3, x4, x5⟩ A4 n4 c4 op lost (updF fr ⟨y0, y1, y2, y3, y4, y5⟩ (fr ⟨y0, y1, y2, y3, y4, y5⟩ ++ [⟨x0, x1, x2, x3, x4, x5⟩])) (updB sn ⟨y0, y1, y2, y3, y4, y5⟩) w3 ∧ KeepsFrom z3 A w3 ∧ KeepsC w.heap.size (fun k => ¬ (k = Bg ∨ k = Bg + 1)) A w3 := by
  obtain ⟨m1, m2, m3⟩ := hN
  obtain ⟨n1, n2, n3, n4', n5', n6, n7⟩ := hn
  obtain ⟨A1, hr1, hm1, hg1, hs1⟩ := h.seen.put Try.underlying56 hy (.bool true)
  rw [updB_some] at hm1
  obtain ⟨esn, csn, hsb⟩ := h.seen.block
  have hbox : ∀ k xs, Box A k xs → Box A1 k xs := fun k xs hX => hX.same (hg1.block _ hX.lt (fun e => h.seen.notBox hX (Option.some.inj e)))
  have hbx := (Below.refl A1.heap.size A1).alloc (Nat.le_refl _) (.cells #[.int .i64 x0, .int .i64 x1, .int .i64 x2, .int .i64 x3, .int .i64 x4, .int .i64 x5] 30)
  have XL := Box.new A1 [.int .i64 x0, .int .i64 x1, .int .i64 x2, .int .i64 x3, .int .i64 x4, .int .i64 x5] 30
  have hrows1 := h.rows.kept hg1 (fun e => by have := Option.some.inj e; omega) (fun k hk => by cases hk; exact .inr (.inr ⟨_, hsb, rfl⟩))
  have hrows2 := hrows1.later hbx
  have hz := h.size
  have hz2 : A.heap.size ≤ (A1.alloc (.cells #[.int .i64 x0, .int .i64 x1, .int .i64 x2, .int .i64 x3, .int .i64 x4, .int .i64 x5] 30)).heap.size := by simp; omega
  obtain ⟨w1, st, A0, n0, c0, w2, A5, n5, c5, w3, hr2, hr3, hr4, hrows3, row, hT, hrow⟩ := hrows2.push ty (s := ⟨x0, x1, x2, x3, x4, x5⟩) hy XL (by omega) hl (fun k hk => by
    rcases hk with hk | ⟨_, hk⟩
    · have := (h.op.lt hk).2
      omega
    · omega) (zero_states _)
  refine ⟨A1, w1, st, A0, n0, c0, w2, A5, n5, c5, w3, hr1, hr2, hr3, hr4, hbox, ?_, ?_, ?_⟩
  all_goals
    have hblk : ∀ k, k < A.heap.size → k ≠ Sn → k ≠ b → some k ≠ row → w3.heap[k]? = A.heap[k]? := fun k hk h1 h2 h3 => (hT.block k (Nat.lt_of_lt_of_le hk hz2) h2 h3).trans ((hbx.block k (by omega)).trans (hg1.block k hk (fun e => h1 (Option.some.inj e))))
    have hrow2 : ∀ k, row = some k → D ≤ k ∧ quB (.slice A4 n4 c4) ≠ some k ∧ ¬ (B11 ≤ k ∧ k < z3) ∧ ∃ cs t f, (A1.alloc (.cells #[.int .i64 x0, .int .i64 x1, .int .i64 x2, .int .i64 x3, .int .i64 x4, .int .i64 x5] 30)).heap[k]? = some (.cells cs t f) := fun k hk => by
      obtain ⟨k1, k2, cs, k3⟩ := hrow k hk
      exact ⟨k1, fun e => k2 (.inl e), fun e => k2 (.inr e), cs, _, _, k3⟩
  · have hk : ∀ {y : Nat} {xs : List Value}, Box A y xs → (y < D ∨ (B11 ≤ y ∧ y < z3)) → Box w3 y xs := fun {y xs} hX hy => by
      refine hX.same (hblk _ hX.lt (fun e => h.seen.notBox hX e) (fun e => ?_) (fun e => ?_))
      · obtain ⟨V, hV⟩ := h.rows
        exact hV.map.notBox hX e
      · obtain ⟨k1, _, k3, _⟩ := hrow2 _ e.symm
        rcases hy with hy | hy
        · omega
        · exact k3 hy
    refine ⟨Nat.le_trans hz (Nat.le_trans hz2 hT.size), ?_, hk h.s (.inr ⟨by omega, by omega⟩), hk h.seenP (.inr ⟨by omega, by omega⟩), hk h.gm (.inr ⟨by omega, by omega⟩), hk h.st (.inr ⟨by omega, n7⟩), hk h.q (.inl n2), ?_, ?_, ?_, hrows3⟩
    · exact ((h.did.grown hg1 (fun k hk => by cases hk; exact .inr (.inl n3))).below hbx).turn2 hT (.inl (.inl rfl)) (fun k hk => ⟨(hrow2 k hk).1, (hrow2 k hk).2.2.2⟩)
    · have q1 := h.op.kept hg1 (fun k hk e => by cases e; exact h.op.cellsOnly hk hsb rfl)
      have q2 := q1.later hbx
      refine q2.same (fun k hk => hT.block k (q2.lt hk).2 (fun e => by have := (q2.lt hk).1; omega) (fun e => (hrow2 k e.symm).2.1 hk))
    · have l1 := (h.lost.kept hg1 (fun e => by have := Option.some.inj e; omega)).later hbx
      refine l1.same (hT.block _ l1.lt (by omega) (fun e => ?_))
      obtain ⟨_, _, _, cs, t, f, k4⟩ := hrow2 _ e.symm
      obtain ⟨es, c, k5⟩ := l1.block
      rw [k5] at k4
      cases k4
    · have l1 := hm1.later hbx
      refine l1.same (hT.block _ l1.lt (by omega) (fun e => ?_))
      obtain ⟨_, _, _, cs, t, f, k4⟩ := hrow2 _ e.symm
      obtain ⟨es, c, k5⟩ := l1.block
      rw [k5] at k4
      cases k4
  · have hd : Did (fun k => k = Sn ∨ k = b) 0 A w3 := (((Did.refl _ 0 A).grown hg1 (fun k hk => by cases hk; exact .inl (.inl rfl))).below hbx).turn2 hT (.inl (.inr rfl)) (fun k hk => ⟨Nat.zero_le _, (hrow2 k hk).2.2.2⟩)
    exact hd.kf (fun k hk => by rcases hk with rfl | rfl <;> omega)
  · have hd : Did (fun k => k = Sn ∨ k = b) w.heap.size A w3 := (((Did.refl _ w.heap.size A).grown hg1 (fun k hk => by cases hk; exact .inl (.inl rfl))).below hbx).turn2 hT (.inl (.inr rfl)) (fun k hk => ⟨by have := (hrow2 k hk).1; omega, (hrow2 k hk).2.2.2⟩)
    refine ⟨⟨hd.os, hd.tape, hd.output, hd.size, fun k hk => hd.low k hk (by omega) (by omega)⟩, fun k o hk ho _ => ?_⟩
    have hk' : k = Bg ∨ k = Bg + 1 := Classical.not_not.1 hk
    refine (hblk k (Array.getElem?_eq_some_iff.1 ho).1 (by omega) (by omega) (fun e => ?_)).trans ho
    exact (hrow2 _ e.symm).2.2.1 ⟨by omega, by omega⟩
theorem run_put_op {o : Oper} {ev : Operand → Value} {t : TypeId} {m k x : Operand} {vm vk vx : Value} {w w' : World} (ho : o.op = .mapUpdate t m k x) (hm : ev m = vm) (hk : ev k = vk) (hx : ev x = vx) (h : (Instr.mapUpdate t vm vk vx).run Try.prog w = .ok () w') : (execOp ev o).run Try.prog w = .ok .skip w' := by
  subst hm hk hx
  simp [execOp, ho, h, Result.andThen]
end Go.Proofs.Ytancngachnpefaa
namespace Go.Proofs.Ytancngachnpefaa
open Go.RowKit
def Nrm (N : Act → World → Prop) : Exit → Act → World → Prop
  | .normal, a, w => N a w
  | _, _, _ => False
theorem nrm_out (N : Act → World → Prop) : ¬ LetsOut (Nrm N) := fun ⟨_, _, h⟩ => h
section
variable {P : Program} {ops : Array Oper} {md : Region.Mode} {N : Act → World → Prop} {C : World → Prop}
theorem wpOp_go {Q : Exit → Act → World → Prop} {j : Nat} {o : Oper} (hj : ops[j]? = some o) {K K' : Act → World → Prop} {a b : Act} {w : World} (hr : execOp b.eval o = execOp a.eval o)
    (hw : Region.wanted o (yielded ops b.tmps) = Region.wanted o (yielded ops a.tmps)) (hd : b.defers = a.defers) (h : wpOp P ops (Nrm N) j K b w)
    (hK : ∀ u D w', K (Act.put { b with defers := D } o.dst u) w' → K' (Act.put { a with defers := D } o.dst u) w') : wpOp P ops Q j K' a w := by
  have H : ∀ u w', K (b.put o.dst u) w' → K' (a.put o.dst u) w' := fun u w' hk => by
    have := hK u a.defers w'
    rw [← hd] at this
    rw [hd] at this
    have e : ({ b with defers := a.defers } : Act) = b := by rw [← hd]
    rw [e] at this
    exact this hk
  unfold wpOp at h ⊢
  simp only [hj, hw] at h ⊢
  split
  · rename_i hw
    simp only [hw, if_true] at h
    rcases h with h | h
    · refine .inl ?_
      unfold Oper.wp at h ⊢
      rw [hr] at h
      generalize (execOp a.eval o).run P w = r at h ⊢
      rcases r with ⟨n, w'⟩ | ⟨x, w'⟩
      · have HD : ∀ d, K (Act.put { b with defers := d :: b.defers } o.dst undef) w' → K' (Act.put { a with defers := d :: a.defers } o.dst undef) w' := fun d hk => by
          rw [hd] at hk
          exact hK undef (d :: a.defers) w' hk
        cases n
        all_goals first
          | exact H _ _ h
          | exact False.elim h
          | exact HD _ h
          | (refine Calls.mono h fun e w'' he => ?_; cases e <;> first | exact H _ _ he | exact he.elim | exact (nrm_out N he).elim)
          | exact Rows.mono h fun u w'' he => H _ _ he
      · cases x <;> exact False.elim h
    · exact (nrm_out N h.2).elim
  · rename_i hw
    simp only [hw] at h
    exact H _ _ h
def anyC (P : Program) (md : Region.Mode) (ops : Array Oper) (N : Act → World → Prop) (C : World → Prop) : Nat → Array Bool → Act → World → Prop
  | 0, listed, a, w => C w ∧ Region.ready md ops listed = [] ∧ N a w
  | n + 1, listed, a, w => C w ∧ (Region.ready md ops listed = [] → N a w) ∧ ∀ i ∈ Region.ready md ops listed, wpOp P ops (Nrm N) i (anyC P md ops N C n (listed.setIfInBounds i true)) a w
theorem anyC_world : ∀ {n : Nat} {listed : Array Bool} {a : Act} {w : World}, anyC P md ops N C n listed a w → C w
  | 0, _, _, _, h => h.1
  | _ + 1, _, _, _, h => h.1
theorem anyC_any {Q : Exit → Act → World → Prop} (hN : ∀ a w, N a w → Q .normal a w) : ∀ {n : Nat} {listed : Array Bool} {a : Act} {w : World}, anyC P md ops N C n listed a w → wpAny P md ops Q n listed a w
  | 0, _, _, _, h => ⟨h.2.1, hN _ _ h.2.2⟩
  | n + 1, listed, a, w, h => ⟨fun h0 => hN _ _ (h.2.1 h0), fun i hi => by
      obtain ⟨_, o, ho, _⟩ := mem_ready.1 hi
      exact wpOp_go ho rfl rfl rfl (h.2.2 i hi) fun _ _ _ hk => anyC_any hN hk⟩
def YieldsC (P : Program) (ops : Array Oper) (C : World → Prop) (o : Oper) (v : Value) (a : Act) : Prop :=
  (Region.wanted o (yielded ops a.tmps) = true ∧ ∀ w, C w → (execOp a.eval o).run P w = .ok (.value v) w) ∨ (Region.wanted o (yielded ops a.tmps) = false ∧ v = undef)
theorem YieldsC.wpOp {Q : Exit → Act → World → Prop} {i : Nat} {o : Oper} {v : Value} {a : Act} {w : World} (hi : ops[i]? = some o) (h : YieldsC P ops C o v a) (hC : C w) {K : Act → World → Prop} (hK : K (a.put o.dst v) w) : wpOp P ops Q i K a w := by
  unfold Go.wpOp
  rcases h with ⟨h1, h2⟩ | ⟨h1, rfl⟩
  · simp only [hi, h1, if_true]
    exact .inl (by unfold Oper.wp; rw [h2 w hC]; exact hK)
  · simp only [hi, h1, Bool.false_eq_true, if_false]
    exact hK
theorem anyC_first {i : Nat} {oi : Oper} {v : Value} (hi : ops[i]? = some oi) (hsel : ∀ (j : Nat) (o : Oper) cs b, ops[j]? = some o → o.op ≠ .select cs b) :
    ∀ (n : Nat) (listed : Array Bool) (a : Act) (w : World),
      (∀ j oj, ops[j]? = some oj → j ≠ i → listed.getD j true = false → (∀ e ∈ oj.after, Region.binds md e = true → e.on ≠ i) → oi.apart ops oj = true) →
      i ∈ Region.ready md ops listed → YieldsC P ops C oi v a →
      anyC P md ops N C n (listed.setIfInBounds i true) (a.put oi.dst v) w → anyC P md ops N C (n + 1) listed a w
  | n, listed, a, w, hfree, hr, hy, H => by
    have hC := anyC_world H
    refine ⟨hC, fun h => (by rw [h] at hr; cases hr), fun j hj => ?_⟩
    by_cases hji : j = i
    · subst hji; exact hy.wpOp hi hC H
    · have hjr := ready_mono (i := i) hj hji
      match n, H with
      | 0, H =>
        rw [H.2.1] at hjr
        cases hjr
      | n + 1, H =>
        obtain ⟨hjun, oj, hoj, hall⟩ := mem_ready.1 hj
        have hiun := (mem_ready.1 hr).1
        have hnot : ∀ e ∈ oj.after, Region.binds md e = true → e.on ≠ i := fun e he hb heq => by
          have h1 := hall e he hb
          rw [heq] at h1
          rcases Nat.lt_or_ge i listed.size with h' | h'
          · simp [h'] at hiun h1; rw [hiun] at h1; cases h1
          · simp [Array.getElem?_eq_none h'] at h1
        obtain ⟨h1, h2, h3⟩ := Oper.apart_spec (hfree j oj hoj hji hjun hnot)
        refine wpOp_go hoj (execOp_put oj (fun cs b => hsel j oj cs b hoj) a oi.dst v h1) (wanted_put oj a oi.dst v h1) (by cases oi.dst <;> rfl) (H.2.2 j hjr) fun u D w' hk => ?_
        refine anyC_first (v := v) hi hsel n _ _ _ (fun k ok hk hki hun hno => hfree k ok hk hki ?_ hno) (ready_mono hr (Ne.symm hji)) ?_ ?_
        · by_cases hjk : j = k
          · subst hjk; exact hjun
          · rw [getD_set_ne true hjk] at hun; exact hun
        · have e1 : execOp (Act.put { a with defers := D } oj.dst u).eval oi = execOp a.eval oi := execOp_put oi (fun cs b => hsel i oi cs b hi) { a with defers := D } oj.dst u h3
          have e2 := wanted_put oi { a with defers := D } oj.dst u h3
          rcases hy with ⟨y1, y2⟩ | ⟨y1, y2⟩
          · exact .inl ⟨e2.trans y1, fun w hw => by rw [e1]; exact y2 w hw⟩
          · exact .inr ⟨e2.trans y1, y2⟩
        · rw [Array.setIfInBounds_comm _ _ hji]
          have e3 : ({ a.put oi.dst v with defers := D } : Act) = Act.put { a with defers := D } oi.dst v := by cases oi.dst <;> rfl
          rw [e3, Act.put_comm _ v u h2] at hk
          exact hk
def valOp : Op → Bool
  | .move _ => true
  | .assign _ => true
  | .load _ _ => true
  | .build _ _ => true
  | .binOp _ _ _ _ _ => true
  | .fieldAddr _ _ _ => true
  | .indexAddr _ _ _ => true
  | .slice _ _ _ _ _ => true
  | .convert _ _ _ => true
  | .unOp _ _ _ => true
  | .pick _ _ _ => true
  | .extract _ _ => true
  | _ => false
theorem value_only {s : Sem Value} {w w' : World} {n : Next} (h : (do pure (Next.value (← s)) : Sem Next).run P w = .ok n w') : ∃ u, n = .value u := by
  rw [Sem.run_bind] at h
  generalize s.run P w = r at h
  rcases r with ⟨x, w1⟩ | ⟨x, w1⟩
  · simp only [Result.andThen_ok, Sem.run_pure, Result.ok.injEq] at h
    exact ⟨x, h.1.symm⟩
  · cases h
theorem pick_only {s : Sem Bool} {x y : Value} {w w' : World} {n : Next} (h : (do pure (Next.value (if (← s) then x else y)) : Sem Next).run P w = .ok n w') : ∃ u, n = .value u := by
  rw [Sem.run_bind] at h
  generalize s.run P w = r at h
  rcases r with ⟨b, w1⟩ | ⟨b, w1⟩
  · simp only [Result.andThen_ok, Sem.run_pure, Result.ok.injEq] at h
    exact ⟨_, h.1.symm⟩
  · cases h
theorem valOp_value {o : Oper} (ho : valOp o.op = true) {ρ : Operand → Value} {w w' : World} {n : Next} (h : (execOp ρ o).run P w = .ok n w') : ∃ u, n = .value u := by
  obtain ⟨dst, op, type, pos, after, guard⟩ := o
  cases op <;> first | (cases ho; done) | exact value_only h | exact pick_only h | (simp only [execOp, Sem.run_pure, Result.ok.injEq] at h; exact ⟨_, h.1.symm⟩)
theorem yieldsC_of {o : Oper} (ho : valOp o.op = true) {a : Act} {v : Value} (hw : Region.wanted o (yielded ops a.tmps) = true) (h : ∀ w, C w → o.quietAt P a C w v) : YieldsC P ops C o v a := by
  refine .inl ⟨hw, fun w hC => ?_⟩
  have h1 := h w hC
  unfold Oper.quietAt at h1
  generalize hr : (execOp a.eval o).run P w = r at h1 ⊢
  rcases r with ⟨n, w'⟩ | ⟨x, w'⟩
  · obtain ⟨u, rfl⟩ := valOp_value ho hr
    obtain ⟨rfl, rfl⟩ := h1
    rfl
  · cases h1
def headsB (md : Region.Mode) (ops : Array Oper) : List Nat → Array Bool → Bool
  | [], _ => true
  | k :: ks, listed => (Region.ready md ops listed).contains k && (Region.free md ops listed k && ((match ops[k]? with | some o => valOp o.op | none => false) && headsB md ops ks (listed.setIfInBounds k true)))
def headsL : List Nat → Array Bool → Array Bool
  | [], listed => listed
  | k :: ks, listed => headsL ks (listed.setIfInBounds k true)
def headOps (ops : Array Oper) (ks : List Nat) : List Oper := ks.filterMap fun k => ops[k]?
theorem anyC_heads (hs : Region.noSelect ops = true) (n : Nat) (w : World) (hC : C w) : ∀ (ks : List Nat) (listed : Array Bool) (a : Act),
    headsB md ops ks listed = true → wpQuiet P ops C (fun a' => anyC P md ops N C n (headsL ks listed) a' w) (headOps ops ks) a → anyC P md ops N C (n + ks.length) listed a w
  | [], _, _, _, h => h
  | k :: ks, listed, a, hB, h => by
    cases h0 : ops[k]? with
    | none => simp [headsB, h0] at hB
    | some o =>
    simp only [headsB, Bool.and_eq_true, h0] at hB
    obtain ⟨hr, hf, hv, hB⟩ := hB
    rw [headOps, List.filterMap_cons, h0] at h
    unfold wpQuiet at h
    by_cases hw : Region.wanted o (yielded ops a.tmps) = true
    · rw [if_pos hw] at h
      obtain ⟨v, h1, h2⟩ := h
      exact anyC_first h0 (Region.noSelect_spec hs) (n + ks.length) listed a w (Region.free_spec h0 hf) (by simpa using hr) (yieldsC_of hv hw h1) (anyC_heads hs n w hC ks _ _ hB h2)
    · rw [if_neg hw] at h
      exact anyC_first h0 (Region.noSelect_spec hs) (n + ks.length) listed a w (Region.free_spec h0 hf) (by simpa using hr) (.inr ⟨by simpa using hw, rfl⟩) (anyC_heads hs n w hC ks _ _ hB h)
theorem anyC_step {n i : Nat} {o : Oper} {listed : Array Bool} {a : Act} {w : World} (hr : Region.ready md ops listed = [i]) (hi : ops[i]? = some o) (hw : Region.wanted o (yielded ops a.tmps) = true) (hC : C w)
    (h : ∀ K : Act → World → Prop, (∀ a' w', anyC P md ops N C n (listed.setIfInBounds i true) a' w' → K a' w') → Oper.wp P o a w K (Nrm N)) : anyC P md ops N C (n + 1) listed a w := by
  refine ⟨hC, fun h0 => (by rw [h0] at hr; cases hr), fun j hj => ?_⟩
  rw [hr] at hj
  obtain rfl : j = i := by simpa using hj
  unfold wpOp
  simp only [hi, hw, if_true]
  exact .inl (h _ fun _ _ hk => hk)
theorem anyC_call {n i : Nat} {o : Oper} {f : FuncId} {args : Array Value} {listed : Array Bool} {a : Act} {w : World} (hr : Region.ready md ops listed = [i]) (hi : ops[i]? = some o) (hw : Region.wanted o (yielded ops a.tmps) = true) (hC : C w)
    (hrun : (execOp a.eval o).run P w = .ok (.enter f args) w) (h : Calls P f args w fun e w' => ∃ v, e = .returned v ∧ anyC P md ops N C n (listed.setIfInBounds i true) (a.put o.dst v) w') : anyC P md ops N C (n + 1) listed a w :=
  anyC_step hr hi hw hC fun K hK => by
    unfold Oper.wp
    rw [hrun]
    exact Calls.mono h fun e w' ⟨v, he, hk⟩ => by subst he; exact hK _ _ hk
theorem anyC_val {n i : Nat} {o : Oper} {v : Value} {listed : Array Bool} {a : Act} {w w' : World} (hr : Region.ready md ops listed = [i]) (hi : ops[i]? = some o) (hw : Region.wanted o (yielded ops a.tmps) = true) (hC : C w)
    (hrun : (execOp a.eval o).run P w = .ok (.value v) w') (h : anyC P md ops N C n (listed.setIfInBounds i true) (a.put o.dst v) w') : anyC P md ops N C (n + 1) listed a w :=
  anyC_step hr hi hw hC fun K hK => by
    unfold Oper.wp
    rw [hrun]
    exact hK _ _ h
theorem anyC_done {listed : Array Bool} {a : Act} {w : World} (hr : Region.ready md ops listed = []) (hC : C w) (h : N a w) : anyC P md ops N C 0 listed a w := ⟨hC, hr, h⟩
end
theorem wp_region_heads {P : Program} {N : Act → World → Prop} {C : World → Prop} {Q : Exit → Act → World → Prop} {id : Nat} {a : Act} {w : World} {l : List Oper} (ks : List Nat) (hm : P.follows .mixedOrders = true)
    (hB : (Region.noSelect l.toArray && (decide (ks.length ≤ l.length) && headsB .any l.toArray ks (Array.replicate l.length false))) = true) (hC : C w.drew) (hN : ∀ a w, N a w → Q .normal a w)
    (h : wpQuiet P l.toArray C (fun a' => anyC P .any l.toArray N C (l.length - ks.length) (headsL ks (Array.replicate l.length false)) a' w.drew) (headOps l.toArray ks) a) : (Code.region id l.toArray true).wp P Q a w := by
  simp only [Bool.and_eq_true, decide_eq_true_eq] at hB
  obtain ⟨hs, hn, hB⟩ := hB
  refine wp_region_any hm (anyC_any (C := C) hN ?_)
  have := anyC_heads (P := P) (md := .any) (N := N) hs (l.length - ks.length) w.drew hC ks (Array.replicate l.length false) a hB h
  rw [show l.length - ks.length + ks.length = l.length by omega] at this
  rw [List.size_toArray]
  exact this
end Go.Proofs.Ytancngachnpefaa
namespace Go.Proofs.Ytancngachnpefaa
open Go.RowKit
section
variable {P : Program} {ops : Array Oper} {md : Region.Mode} {N : Act → World → Prop} {C : World → Prop}
theorem wpOp_call {i : Nat} {o : Oper} {f : FuncId} {args : Array Value} {a : Act} {w : World} {K : Act → World → Prop} (hi : ops[i]? = some o) (hw : Region.wanted o (yielded ops a.tmps) = true)
    (hrun : (execOp a.eval o).run P w = .ok (.enter f args) w) (h : Calls P f args w fun e w' => ∃ v, e = .returned v ∧ K (a.put o.dst v) w') : wpOp P ops (Nrm N) i K a w := by
  unfold wpOp
  simp only [hi, hw, if_true]
  refine .inl ?_
  unfold Oper.wp
  rw [hrun]
  exact Calls.mono h fun e w' ⟨v, he, hk⟩ => by subst he; exact hk
theorem wpOp_val {i : Nat} {o : Oper} {v : Value} {a : Act} {w w' : World} {K : Act → World → Prop} (hi : ops[i]? = some o) (hw : Region.wanted o (yielded ops a.tmps) = true)
    (hrun : (execOp a.eval o).run P w = .ok (.value v) w') (h : K (a.put o.dst v) w') : wpOp P ops (Nrm N) i K a w := by
  unfold wpOp
  simp only [hi, hw, if_true]
  refine .inl ?_
  unfold Oper.wp
  rw [hrun]
  exact h
theorem anyC_store {n i : Nat} {o : Oper} {listed : Array Bool} {a : Act} {w w' : World} (hr : Region.ready md ops listed = [i]) (hi : ops[i]? = some o) (hw : Region.wanted o (yielded ops a.tmps) = true) (hC : C w)
    (hrun : (execOp a.eval o).run P w = .ok .skip w') (h : anyC P md ops N C n (listed.setIfInBounds i true) (a.put o.dst undef) w') : anyC P md ops N C (n + 1) listed a w :=
  anyC_step hr hi hw hC fun K hK => by
    unfold Oper.wp
    rw [hrun]
    exact hK _ _ h
theorem wpOp_callD {i : Nat} {o : Oper} {f : FuncId} {args : Array Value} {a : Act} {w : World} {K : Act → World → Prop} (d : Option Tmp) (hi : ops[i]? = some o) (hd : o.dst = d) (hw : Region.wanted o (yielded ops a.tmps) = true)
    (hrun : (execOp a.eval o).run P w = .ok (.enter f args) w) (h : Calls P f args w fun e w' => ∃ v, e = .returned v ∧ K (a.put d v) w') : wpOp P ops (Nrm N) i K a w := by
  subst hd
  exact wpOp_call hi hw hrun h
theorem wpOp_valD {i : Nat} {o : Oper} {v : Value} {a : Act} {w w' : World} {K : Act → World → Prop} (d : Option Tmp) (hi : ops[i]? = some o) (hd : o.dst = d) (hw : Region.wanted o (yielded ops a.tmps) = true)
    (hrun : (execOp a.eval o).run P w = .ok (.value v) w') (h : K (a.put d v) w') : wpOp P ops (Nrm N) i K a w := by
  subst hd
  exact wpOp_val hi hw hrun h
theorem anyC_callD {n i : Nat} {o : Oper} {f : FuncId} {args : Array Value} {listed : Array Bool} {a : Act} {w : World} (d : Option Tmp) (hr : Region.ready md ops listed = [i]) (hi : ops[i]? = some o) (hd : o.dst = d) (hw : Region.wanted o (yielded ops a.tmps) = true) (hC : C w)
    (hrun : (execOp a.eval o).run P w = .ok (.enter f args) w) (h : Calls P f args w fun e w' => ∃ v, e = .returned v ∧ anyC P md ops N C n (listed.setIfInBounds i true) (a.put d v) w') : anyC P md ops N C (n + 1) listed a w := by
  subst hd
  exact anyC_call hr hi hw hC hrun h
theorem anyC_valD {n i : Nat} {o : Oper} {v : Value} {listed : Array Bool} {a : Act} {w w' : World} (d : Option Tmp) (hr : Region.ready md ops listed = [i]) (hi : ops[i]? = some o) (hd : o.dst = d) (hw : Region.wanted o (yielded ops a.tmps) = true) (hC : C w)
    (hrun : (execOp a.eval o).run P w = .ok (.value v) w') (h : anyC P md ops N C n (listed.setIfInBounds i true) (a.put d v) w') : anyC P md ops N C (n + 1) listed a w := by
  subst hd
  exact anyC_val hr hi hw hC hrun h
theorem anyC_storeN {n i : Nat} {o : Oper} {listed : Array Bool} {a : Act} {w w' : World} (hr : Region.ready md ops listed = [i]) (hi : ops[i]? = some o) (hd : o.dst = none) (hw : Region.wanted o (yielded ops a.tmps) = true) (hC : C w)
    (hrun : (execOp a.eval o).run P w = .ok .skip w') (h : anyC P md ops N C n (listed.setIfInBounds i true) a w') : anyC P md ops N C (n + 1) listed a w := by
  refine anyC_store hr hi hw hC hrun ?_
  rw [hd]
  exact h
end
end Go.Proofs.Ytancngachnpefaa
namespace Go.Proofs.Ytancngachnpefaa
open Go.RowKit
set_option linter.unusedVariables false
section
variable {P : Program} {ops : Array Oper} {md : Region.Mode} {N : Act → World → Prop} {C : World → Prop} {l₀ m : Nat}
theorem rowsIn_round {row : String} {args : Array Value} {w : World} {R : Value → World → Prop} (h : Rows P row args w R) : RowsIn (Fence.wide.inRound l₀) m P row args w R :=
  fun c cs _ => let ⟨v, w', r, s⟩ := h c cs; ⟨v, w', r, stepsIn_wide.2 s⟩
def noDef (o : Oper) : Bool :=
  match o.op with | .defer _ => false | _ => true
theorem noDef_ne {o : Oper} (h : noDef o = true) : ∀ c, o.op ≠ .defer c := by
  intro c hc
  simp [noDef, hc] at h
theorem wpOpIn_round {Q : Exit → Act → World → Prop} {i : Nat} {K K' : Act → World → Prop} {a : Act} {w : World} (hd : ∀ o, ops[i]? = some o → noDef o = true) (h : wpOp P ops (Nrm N) i K a w) (hK : ∀ a w, K a w → K' a w) : wpOpIn (Fence.wide.inRound l₀) m P ops Q i K' a w := by
  unfold wpOp at h
  unfold wpOpIn
  split at h
  · rename_i h0
    simp only [h0]
    exact hK _ _ h
  · rename_i o h0
    simp only [h0]
    split at h
    · rename_i hw
      simp only [hw, if_true]
      rcases h with h | h
      · unfold Oper.wpIn
        refine ⟨fun _ _ => trivial, ?_⟩
        have e0 : Oper.semAt (Fence.wide.inRound l₀).round a.eval o = execOp a.eval o := Oper.semAt_plain _ _ _ (noDef_ne (hd o h0))
        rw [e0]
        unfold Oper.wp at h
        generalize (execOp a.eval o).run P w = r at h ⊢
        rcases r with ⟨n, w'⟩ | ⟨x, w'⟩
        · cases n
          all_goals first
            | exact hK _ _ h
            | exact False.elim h
            | (refine ⟨fun hd => (by cases hd), callsIn_wide.2 (Calls.mono h fun e w'' he => ?_)⟩; cases e <;> first | exact hK _ _ he | exact he.elim | exact (nrm_out N he).elim)
            | exact ⟨fun hd => (by cases hd), rowsIn_round (Rows.mono h fun u w'' he => hK _ _ he)⟩
        · cases x <;> exact False.elim h
      · exact (nrm_out N h.2).elim
    · rename_i hw
      simp only [hw]
      exact ⟨fun _ _ => trivial, hK _ _ h⟩
end
def valN : Op → Bool
  | .nilCheck _ => true
  | o => valOp o
theorem onlyV_bind {P : Program} {α : Type} {s : Sem α} {f : α → Sem Next} (hf : ∀ x w n w', (f x).run P w = .ok n w' → ∃ u, n = .value u) (w : World) (n : Next) (w' : World) (h : (s >>= f).run P w = .ok n w') : ∃ u, n = .value u := by
  rw [Sem.run_bind] at h
  generalize s.run P w = r at h
  rcases r with ⟨x, w1⟩ | ⟨x, w1⟩
  · exact hf _ _ _ _ h
  · cases h
theorem onlyV_pure {P : Program} (v : Value) (w : World) (n : Next) (w' : World) (h : (pure (Next.value v) : Sem Next).run P w = .ok n w') : ∃ u, n = .value u := by
  simp only [Sem.run_pure, Result.ok.injEq] at h
  exact ⟨_, h.1.symm⟩
theorem onlyV_nil {P : Program} {x : Operand} {d : Option Tmp} {t : TypeId} {pos : String} {af : Array Edge} {g : Option (Nat × Bool)} {ρ : Operand → Value} {w w' : World} {n : Next} (h : (execOp ρ ⟨d, .nilCheck x, t, pos, af, g⟩).run P w = .ok n w') : ∃ u, n = .value u := by
  unfold execOp at h
  dsimp only at h
  split at h
  · cases h
  · cases h
  · cases h
  · split at h
    · cases h
    · refine onlyV_bind (fun x w n w' h => onlyV_bind (fun b w n w' h => ?_) w n w' h) w n w' h
      split at h
      · exact onlyV_bind (fun _ => onlyV_pure _) _ _ _ h
      · first | exact onlyV_pure _ _ _ _ h | exact onlyV_bind (fun _ => onlyV_pure _) _ _ _ h
    · exact onlyV_pure _ _ _ _ h
  · exact onlyV_pure _ _ _ _ h
theorem valN_value {P : Program} {o : Oper} (ho : valN o.op = true) {ρ : Operand → Value} {w w' : World} {n : Next} (h : (execOp ρ o).run P w = .ok n w') : ∃ u, n = .value u := by
  by_cases hv : valOp o.op = true
  · exact valOp_value hv h
  · obtain ⟨dst, op, type, pos, after, guard⟩ := o
    cases op <;> first | (exact absurd ho hv) | exact onlyV_nil h
theorem yieldsN_of {P : Program} {ops : Array Oper} {C : World → Prop} {o : Oper} (ho : valN o.op = true) {a : Act} {v : Value} (hw : Region.wanted o (yielded ops a.tmps) = true) (h : ∀ w, C w → o.quietAt P a C w v) : YieldsC P ops C o v a := by
  refine .inl ⟨hw, fun w hC => ?_⟩
  have h1 := h w hC
  unfold Oper.quietAt at h1
  generalize hr : (execOp a.eval o).run P w = r at h1 ⊢
  rcases r with ⟨n, w'⟩ | ⟨x, w'⟩
  · obtain ⟨u, rfl⟩ := valN_value ho hr
    obtain ⟨rfl, rfl⟩ := h1
    rfl
  · cases h1
def headsN (md : Region.Mode) (ops : Array Oper) : List Nat → Array Bool → Bool
  | [], _ => true
  | k :: ks, listed => (Region.ready md ops listed).contains k && (Region.free md ops listed k && ((match ops[k]? with | some o => valN o.op | none => false) && headsN md ops ks (listed.setIfInBounds k true)))
end Go.Proofs.Ytancngachnpefaa
