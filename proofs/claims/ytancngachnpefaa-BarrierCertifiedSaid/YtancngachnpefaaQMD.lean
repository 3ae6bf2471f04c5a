/- Append onto a queue of states; a map of rows of states. No condition. -/
import Derived.Test.YtancngachnpefaaQBS
set_option linter.unusedVariables false
set_option linter.unusedSimpArgs false
namespace Go.Proofs.Ytancngachnpefaa
open Go.RowKit
section
variable {w w' : World} {D g : Nat} {V : Value} {l : List St} {s : St}
theorem len_st : ∀ l : List St, (l.flatMap St.cells).length = l.length * 6
  | [] => rfl
  | x :: l => by
    rw [List.flatMap_cons, List.length_append, len_st l, List.length_cons]
    simp only [St.cells, List.length_cons, List.length_nil]
    omega
theorem grown_any {row : Option Nat} (h : w.grownBy w' none) : w.grownBy w' row := ⟨h.os, h.tape, h.output, h.size, fun k hk _ => h.block k hk (by simp)⟩
theorem Qu.app (ty : TypeId) (h : Qu w D V l) (hx : Box w g s.cells) (hD : D ≤ w.heap.size) (hl : l.length ≤ 1048576) :
    ∃ A c w', (appF #[43, 43] ty #[V, .slice (some ⟨g, 0, none⟩) 1 1]).run Try.prog w = .ok (.slice A (l.length + 1) c) w' ∧ Qu w' D (.slice A (l.length + 1) c) (l ++ [s]) ∧ w.grownBy w' (quB V) ∧ (quB (.slice A (l.length + 1) c) = quB V ∨ ∃ k, quB (.slice A (l.length + 1) c) = some k ∧ w.heap.size ≤ k) := by
  obtain ⟨i, E⟩ := elem_state
  have hlen1 : (l ++ [s]).length = l.length + 1 := by simp
  -- the arm that grows
  have grows : ∀ (a : Addr) (c : Nat), V = .slice (some a) l.length c → c < l.length + 1 → (∀ j u, (l.flatMap St.cells)[j]? = some u → w.cell? (a.add j) = some u) →
      ∃ A c w', (appF #[43, 43] ty #[V, .slice (some ⟨g, 0, none⟩) 1 1]).run Try.prog w = .ok (.slice A (l.length + 1) c) w' ∧ Qu w' D (.slice A (l.length + 1) c) (l ++ [s]) ∧ w.grownBy w' (quB V) ∧ (quB (.slice A (l.length + 1) c) = quB V ∨ ∃ k, quB (.slice A (l.length + 1) c) = some k ∧ w.heap.size ≤ k) := by
    rintro a c rfl hc holds
    obtain ⟨v', w', hr, h3, h2⟩ := run_append_arg_grows (P := Try.prog) w 43 ty 30 i _ 6 48 E.ht E.hi E.hz E.hsize E.hby E.hzs E.hsz a l.length c (l.flatMap St.cells) (len_st l) holds ⟨g, 0, none⟩ 1 1 s.cells rfl (one_box hx) (by omega) (by simp only [maxLen]; omega) (by omega)
    rcases h3.2 with ⟨_, h6⟩ | ⟨g', cap', cur, hv, hge, hh, hle, hrest⟩
    · omega
    subst hv
    have hrow : Row w' D (.slice (some ⟨g', 0, none⟩) (l.length + 1) cap') (l ++ [s]) := by
      show OwnE _ _ _ _ _ _ _
      rw [OwnE, hlen1, List.flatMap_append]
      refine ⟨by simpa using h3.1, .inr ⟨g', cap', cur, rfl, Nat.le_trans hD hge, hh, hle, ?_⟩⟩
      simpa using hrest
    have hq := Qu.ofRow hrow
    refine ⟨_, _, w', hr, hq, grown_any h2, ?_⟩
    cases cap' with
    | zero => omega
    | succ cap' => exact .inr ⟨g', rfl, hge⟩
  rcases h with ⟨A, rfl, rfl⟩ | ⟨b, pre, cap, rfl, h⟩
  · cases A with
    | none =>
      obtain ⟨g', c', w', hr, h1, h2, h3⟩ := run_appS ty (ownE_nil St.cells 6 w D 30) hx hD (by simp)
      refine ⟨_, _, w', hr, Qu.ofRow h1, h2, ?_⟩
      have hg : g' = w.heap.size := h3.resolve_left (fun e => by cases e)
      subst hg
      cases c' with
      | zero => exact .inl rfl
      | succ c' => exact .inr ⟨_, rfl, Nat.le_refl _⟩
    | some a => exact grows a 0 rfl (by omega) (fun j u hu => by simp at hu)
  · by_cases hroom : l.length + 1 ≤ cap + 1
    · rcases h.2 with ⟨hv, _⟩ | ⟨b', cap', cur, hv, hDb, hh, hle, hcm, hcs, htk⟩
      · cases hv
      cases hv
      have hpl : (pre ++ l).length = pre.length + l.length := List.length_append
      have hcell : ∀ j, j < cur.size → (w.cell? ⟨b, j, none⟩).isSome = true := fun j hj => by
        simp [World.cell?, hh, hj]
      have hfree : ∀ j, w.frozen? ⟨b, j, none⟩ = false := fun j => by
        simp [World.frozen?, hh]
      have hr := run_append_room_cells (P := Try.prog) w 43 ty 30 i E.ht E.hi b (pre.length * 6) l.length (cap + 1) ⟨g, 0, none⟩ 1 1 s.cells (by rw [E.hsize]; rfl) (one_box hx) (one_st s) hroom
        (fun j hj => by rw [E.hsize]; exact hcell _ (by rw [hcs]; simp only [St.cells, List.length_cons, List.length_nil] at hj; omega)) (fun j hj => hfree _)
      have hr2 := run_append_room_cells (P := Try.prog) w 43 ty 30 i E.ht E.hi b 0 (pre ++ l).length (pre.length + (cap + 1)) ⟨g, 0, none⟩ 1 1 s.cells (by rw [E.hsize]; rfl) (one_box hx) (one_st s) (by omega)
        (fun j hj => by rw [E.hsize]; exact hcell _ (by rw [hcs]; simp only [St.cells, List.length_cons, List.length_nil] at hj; omega)) (fun j hj => hfree _)
      have hr3 := run_append_room (P := Try.prog) w 43 ty 30 i E.ht E.hi b (pre ++ l).length (pre.length + (cap + 1)) cur hh ⟨g, 0, none⟩ 1 1 s.cells (by rw [E.hsize]; rfl) (one_box hx) (one_st s) (by omega) (by rw [hcs, E.hsize]; simp only [St.cells, List.length_cons, List.length_nil]; omega)
      have hw := hr2.symm.trans hr3
      simp only [Result.ok.injEq, true_and] at hw
      rw [E.hsize] at hr
      rw [Nat.zero_add, E.hsize, hpl, Nat.add_mul] at hw
      rw [hw] at hr
      refine ⟨_, _, _, hr, .inr ⟨b, pre, cap, by rw [hlen1], ?_⟩, ⟨rfl, rfl, rfl, by simp, fun k _ hk => setRow_other w b k _ (fun e => hk (by simp [quB, e]))⟩, .inl rfl⟩
      have e1 : pre ++ (l ++ [s]) = (pre ++ l) ++ [s] := by simp
      have hlen : ((pre ++ l ++ [s]).flatMap St.cells).length = (pre ++ l ++ [s]).length * 6 := len_st _
      show OwnE _ _ _ _ _ _ _
      rw [e1]
      refine ⟨hlen, .inr ⟨b, _, _, rfl, hDb, setRow_heap w b cur _ _ _ hh, by rw [List.length_append, hpl]; simp; omega, hcm, ?_, ?_⟩⟩
      · simp only [List.size_toArray, List.length_append, List.length_take, List.length_drop, Array.length_toList]
        simp only [St.cells, List.length_cons, List.length_nil]
        omega
      · have e2 : ((pre ++ l ++ [s]).flatMap St.cells) = (pre ++ l).flatMap St.cells ++ s.cells := by simp
        rw [e2]
        have htk2 : List.take (pre.length * 6 + l.length * 6) cur.toList = (pre ++ l).flatMap St.cells := by rw [← htk, hpl, Nat.add_mul]
        rw [htk2]
        have e3 : (pre ++ l ++ [s]).length * 6 = ((pre ++ l).flatMap St.cells ++ s.cells).length := by rw [← e2, hlen]
        rw [e3]
        exact List.take_left
    · refine grows _ _ rfl (by omega) (fun j u hu => ?_)
      have hc := World.ownsRow.cells h (g := b) rfl (pre.length * 6 + j) u (by
        rw [List.flatMap_append, List.getElem?_append_right (by rw [len_st]; omega), len_st]
        rw [show pre.length * 6 + j - pre.length * 6 = j by omega]
        exact hu)
      rw [add_at] at hc ⊢
      rw [Nat.zero_add] at hc
      exact hc
end
def updF (fr : St → List St) (y : St) (l : List St) : St → List St := fun x => if x = y then l else fr x
structure RowsV (w : World) (D B : Nat) (No : Nat → Prop) (fr : St → List St) (V : St → Option Value) : Prop where
  map : MapS w B V
  row : ∀ y v, V y = some v → Row w D v (fr y)
  none : ∀ y, V y = none → fr y = []
  apart : ∀ y y' v v' g, V y = some v → V y' = some v' → v.ownBlock = some g → v'.ownBlock = some g → y = y'
  off : ∀ y v g, V y = some v → v.ownBlock = some g → ¬ No g
def RowsS (w : World) (D B : Nat) (No : Nat → Prop) (fr : St → List St) : Prop := ∃ V, RowsV w D B No fr V
section
variable {w w' : World} {D B : Nat} {No : Nat → Prop} {fr : St → List St}
theorem RowsS.made (w : World) (D : Nat) (No : Nat → Prop) : RowsS (w.alloc (.map #[] 0)) D w.heap.size No (fun _ => []) :=
  ⟨fun _ => none, MapS.made w, (fun _ _ h => by cases h), (fun _ _ => rfl), (fun _ _ _ _ _ h => by cases h), (fun _ _ _ h => by cases h)⟩
theorem RowsV.kept {V : St → Option Value} {row : Option Nat} (h : RowsV w D B No fr V) (hg : w.grownBy w' row) (hB : row ≠ some B) (hr : ∀ g, row = some g → No g ∨ g < D ∨ ∃ o, w.heap[g]? = some o ∧ o.isCells = false) : RowsV w' D B No fr V :=
  ⟨h.map.kept hg (fun e => hB e.symm), fun y v hv => (h.row y v hv).kept hg (fun b hb e => by
    rcases hr b e with h1 | h1 | ⟨o, h1, h2⟩
    · exact h.off y v b hv hb h1
    · have := (h.row y v hv).lt hb
      omega
    · exact (h.row y v hv).cellsOnly hb h1 h2), h.none, h.apart, h.off⟩
theorem RowsS.kept {row : Option Nat} (h : RowsS w D B No fr) (hg : w.grownBy w' row) (hB : row ≠ some B) (hr : ∀ g, row = some g → No g ∨ g < D ∨ ∃ o, w.heap[g]? = some o ∧ o.isCells = false) : RowsS w' D B No fr := h.imp fun _ h => h.kept hg hB hr
theorem RowsS.later (h : RowsS w D B No fr) (hb : Below w.heap.size w w') : RowsS w' D B No fr := h.kept (row := none) ⟨hb.os, hb.tape, hb.output, hb.size, fun i hi _ => hb.block i hi⟩ (fun e => by cases e) (fun _ e => by cases e)
theorem RowsS.lt (h : RowsS w D B No fr) : B < w.heap.size := by
  obtain ⟨V, h⟩ := h
  exact h.map.lt
theorem RowsS.no {No' : Nat → Prop} (h : RowsS w D B No fr) (hn : ∀ g, No' g → No g ∨ w.heap.size ≤ g) : RowsS w D B No' fr := by
  obtain ⟨V, h⟩ := h
  refine ⟨V, h.map, h.row, h.none, h.apart, fun y v g hv hg e => ?_⟩
  rcases hn g e with h1 | h1
  · exact h.off y v g hv hg h1
  · have := (h.row y v hv).lt hg
    omega
theorem RowsS.look {y : St} (h : RowsS w D B No fr) (hy : y.Wide) (hz : (zeroValue 43).run Try.prog w = .ok (.slice none 0 0) w) :
    ∃ v, (Instr.lookup 97 (.map (some B)) y.v false).run Try.prog w = .ok v w ∧ Row w D v (fr y) ∧ ∀ k, v.ownBlock = some k → ¬ No k := by
  obtain ⟨V, h⟩ := h
  refine ⟨_, h.map.look Try.underlying97 hz hy, ?_⟩
  cases hv : V y with
  | none =>
    rw [h.none y hv]
    exact ⟨ownE_nil _ _ _ _ _, fun k hk => by cases hk⟩
  | some v => exact ⟨h.row y v hv, fun k hk => h.off y v k hv hk⟩
structure Turn2 (w w' : World) (B : Nat) (row : Option Nat) : Prop where
  os : w'.os = w.os
  tape : w'.tape = w.tape
  output : w'.output = w.output
  size : w.heap.size ≤ w'.heap.size
  block : ∀ k, k < w.heap.size → k ≠ B → some k ≠ row → w'.heap[k]? = w.heap[k]?
theorem RowsS.push {y s : St} {g : Nat} (ty : TypeId) (h : RowsS w D B No fr) (hy : y.Wide) (hx : Box w g s.cells) (hD : D ≤ w.heap.size) (hl : (fr y).length ≤ 1048576) (hNo : ∀ k, No k → k < w.heap.size)
    (hz : (zeroValue 43).run Try.prog w = .ok (.slice none 0 0) w) :
    ∃ (w1 : World) (st : Nat) (A0 : Option Addr) (n0 c0 : Nat) (w2 : World) (A1 : Option Addr) (n1 c1 : Nat) (w3 : World), (Instr.mapEntry 97 (.map (some B)) y.v).run Try.prog w = .ok (.tuple #[.slice A0 n0 c0, goInt st]) w1 ∧
      (appF #[43, 43] ty #[.slice A0 n0 c0, .slice (some ⟨g, 0, none⟩) 1 1]).run Try.prog w1 = .ok (.slice A1 n1 c1) w2 ∧
      (Instr.entryStore 97 (.map (some B)) (goInt st) (.slice A1 n1 c1)).run Try.prog w2 = .ok () w3 ∧ RowsS w3 D B No (updF fr y (fr y ++ [s])) ∧
      ∃ row, Turn2 w w3 B row ∧ ∀ k, row = some k → D ≤ k ∧ ¬ No k ∧ ∃ cs, w.heap[k]? = some (.cells cs 30 (0, 0)) := by
  obtain ⟨V, h⟩ := h
  obtain ⟨w1, st, hr1, hm1, hst1, hg1, hs1⟩ := h.map.entry Try.underlying97 hz hy
  obtain ⟨v0, hv0⟩ : ∃ v0, (V y).getD (.slice none 0 0) = v0 := ⟨_, rfl⟩
  rw [hv0] at hr1 hm1
  have hrow0 : Row w D v0 (fr y) := by
    rw [← hv0]
    cases hv : V y with
    | none =>
      rw [h.none y hv]
      exact ownE_nil _ _ _ _ _
    | some v => exact h.row y v hv
  have hoff0 : ∀ k, v0.ownBlock = some k → ¬ No k ∧ ∀ y' v', y' ≠ y → V y' = some v' → v'.ownBlock ≠ some k := by
    rw [← hv0]
    cases hv : V y with
    | none => exact fun k hk => by cases hk
    | some v => exact fun k hk => ⟨h.off y v k hv hk, fun y' v' hne hv' hk' => hne (h.apart y' y v' v k hv' hv hk' hk)⟩
  have hBrow : ∀ y' v' k, V y' = some v' → v'.ownBlock = some k → k ≠ B := fun y' v' k hv hk e => by
    subst e
    obtain ⟨es, c, hb⟩ := h.map.block
    exact (h.row y' v' hv).notMap hk hb
  have hB0 : ∀ k, v0.ownBlock = some k → k ≠ B := fun k hk e => by
    subst e
    obtain ⟨es, c, hb⟩ := h.map.block
    exact hrow0.notMap hk hb
  have hx1 : Box w1 g s.cells := by
    obtain ⟨t, ht⟩ := hx
    exact ⟨t, (hg1.block g (Array.getElem?_eq_some_iff.1 ht).1 (fun e => h.map.notBox ⟨t, ht⟩ (Option.some.inj e))).trans ht⟩
  have hrow1 : Row w1 D v0 (fr y) := hrow0.kept hg1 (fun b hb e => hB0 b hb (Option.some.inj e).symm)
  obtain ⟨g', c', w2, hr2, hrow2, hg2, hor⟩ := run_appS ty hrow1 hx1 (by rw [hs1]; exact hD) hl
  have hm2 : MapS w2 B (updS V y v0) := hm1.kept hg2 (fun e => hB0 B e.symm rfl)
  have hst2 : StampS w2 B y st := hst1.same (hg2.block B hm1.lt (fun e => hB0 B e.symm rfl))
  obtain ⟨w3, hr3, hm3, hg3, hs3⟩ := hm2.entryPut (t := 97) hst2 (.slice (some ⟨g', 0, none⟩) ((fr y).length + 1) c')
  rw [updS_twice] at hm3
  obtain ⟨A0, c0, rfl⟩ := hrow0.form
  have hg'lt : g' < w2.heap.size := (hrow2.lt rfl).2
  have hg'B : g' ≠ B := fun e => by
    subst e
    obtain ⟨es, c, hb⟩ := hm2.block
    exact hrow2.notMap rfl hb
  have hrow3 : Row w3 D (.slice (some ⟨g', 0, none⟩) ((fr y).length + 1) c') (fr y ++ [s]) := hrow2.kept hg3 (fun b hb e => by cases hb; exact hg'B (Option.some.inj e).symm)
  refine ⟨w1, st, A0, _, c0, w2, _, _, c', w3, hr1, hr2, hr3, ⟨_, hm3, ?_, ?_, ?_, ?_⟩, (Value.slice A0 (fr y).length c0).ownBlock, ⟨(hg3.os.trans hg2.os).trans hg1.os, (hg3.tape.trans hg2.tape).trans hg1.tape, (hg3.output.trans hg2.output).trans hg1.output, Nat.le_trans hg1.size (Nat.le_trans hg2.size hg3.size), fun k hk hkB hkr => ?_⟩, fun k hk => ⟨(hrow0.lt hk).1, (hoff0 k hk).1, hrow0.cells? hk⟩⟩
  · intro y' v' hv'
    unfold updS at hv'
    unfold updF
    split at hv'
    · rename_i e
      cases hv'
      rw [if_pos e]
      exact hrow3
    · rename_i e
      rw [if_neg e]
      have hr := h.row y' v' hv'
      have k1 := hr.kept hg1 (fun b hb e2 => hBrow y' v' b hv' hb (Option.some.inj e2).symm)
      have k2 := k1.kept hg2 (fun b hb e2 => (hoff0 b e2).2 y' v' e hv' hb)
      exact k2.kept hg3 (fun b hb e2 => hBrow y' v' b hv' hb (Option.some.inj e2).symm)
  · intro y' hv'
    unfold updS at hv'
    unfold updF
    split at hv'
    · cases hv'
    · rename_i e
      rw [if_neg e]
      exact h.none y' hv'
  · have hnew : ∀ y' v', y' ≠ y → V y' = some v' → v'.ownBlock ≠ some g' := fun y' v' hne hv' hk => by
      rcases hor with ho | ho
      · exact (hoff0 g' ho).2 y' v' hne hv' hk
      · have := ((h.row y' v' hv').lt hk).2
        omega
    intro y1 y2 v1 v2 k hv1 hv2 hk1 hk2
    unfold updS at hv1 hv2
    split at hv1
    · rename_i e1
      cases hv1
      cases hk1
      split at hv2
      · rename_i e2
        rw [e1, e2]
      · rename_i e2
        exact absurd hk2 (hnew y2 v2 e2 hv2)
    · rename_i e1
      split at hv2
      · cases hv2
        cases hk2
        exact absurd hk1 (hnew y1 v1 e1 hv1)
      · exact h.apart y1 y2 v1 v2 k hv1 hv2 hk1 hk2
  · intro y' v' k hv' hk
    unfold updS at hv'
    split at hv'
    · cases hv'
      cases hk
      rcases hor with ho | ho
      · exact (hoff0 g' ho).1
      · intro e
        have := hNo g' e
        omega
    · exact h.off y' v' k hv' hk
  · have e1 := hg1.block k hk (fun e => hkB (Option.some.inj e))
    have e2 := hg2.block k (by rw [hs1]; exact hk) hkr
    have e3 := hg3.block k (Nat.lt_of_lt_of_le (by rw [hs1]; exact hk) hg2.size) (fun e => hkB (Option.some.inj e))
    exact e3.trans (e2.trans e1)
end
end Go.Proofs.Ytancngachnpefaa
namespace Go.Proofs.Ytancngachnpefaa
open Go.RowKit
def updB (f : St → Bool) (s : St) : St → Bool := fun x => decide (x = s) || f x
theorem updB_some {f : St → Bool} (s : St) (v : Value) : updS (fun x => if f x = true then some v else none) s v = fun x => if updB f s x = true then some v else none := by
  funext x
  unfold updS updB
  by_cases h : x = s
  · simp [h]
  · simp [h]
def addN (s : St) (a : (St → List St) × (St → Bool)) (y : St) : (St → List St) × (St → Bool) := if a.2 y = true then a else (updF a.1 y (a.1 y ++ [s]), updB a.2 y)
structure Iv where
  fr : St → List St
  lost : St → Bool
  op : List St
def Pl.foll (p : Pl) (c : List Ln) (s : St) : List St := (p.nexts c s (p.nf * p.nm)).map (·.2)
def stepI (p : Pl) (c : List Ln) (a : Iv) (s : St) : Iv :=
  ⟨((p.foll c s).foldl (addN s) (a.fr, fun _ => false)).1, if (p.safeT s).1 = true then a.lost else updB a.lost s, if (p.safeT s).1 = true then a.op else a.op ++ [s]⟩
def ivZero : Iv := ⟨fun _ => [], fun _ => false, []⟩
def sweepI (p : Pl) (c : List Ln) (l : List St) : Iv := l.foldl (stepI p c) ivZero
theorem sweep_snoc (p : Pl) (c : List Ln) (l : List St) (s : St) : sweepI p c (l ++ [s]) = stepI p c (sweepI p c l) s := by rw [sweepI, List.foldl_append]; rfl
def markI (a : (St → Bool) × List St) (s : St) : (St → Bool) × List St := if a.1 s = true then a else (updB a.1 s, a.2 ++ [s])
def bfsI (fr : St → List St) : Nat → (St → Bool) → List St → (St → Bool)
  | 0, lost, _ => lost
  | _ + 1, lost, [] => lost
  | n + 1, lost, y :: r => bfsI fr n ((fr y).foldl markI (lost, r)).1 ((fr y).foldl markI (lost, r)).2
def lostI (p : Pl) (c : List Ln) : St → Bool := bfsI (sweepI p c p.states).fr (p.count + p.count) (sweepI p c p.states).lost (sweepI p c p.states).op
theorem bfs_nil (fr : St → List St) (n : Nat) (lost : St → Bool) : bfsI fr n lost [] = lost := by cases n <;> rfl
def invT (p : Pl) (c : List Ln) : List St × Bool × Int := if askT p c = 0 then (p.states.filter (fun s => !lostI p c s), !lostI p c p.beginT.1, 0) else ([], false, askT p c)
def leftI (l : List St) (lost : St → Bool) : Nat := l.countP fun s => !lost s
theorem countP_lt {α : Type} {f g : α → Bool} (hfg : ∀ x, g x = true → f x = true) {s : α} (hs1 : f s = true) (hs2 : g s = false) : ∀ l : List α, s ∈ l → l.countP g + 1 ≤ l.countP f
  | [], h => by cases h
  | x :: l, h => by
    have hle : l.countP g ≤ l.countP f := List.countP_mono_left (fun x _ h => hfg x h)
    rw [List.countP_cons, List.countP_cons]
    rcases List.mem_cons.1 h with rfl | h
    · rw [hs1, hs2]
      simp
      exact hle
    · have ih := countP_lt hfg hs1 hs2 l h
      cases hg : g x with
      | true => rw [hfg x hg]; simp; omega
      | false => cases f x <;> simp <;> omega
theorem mark_left {l : List St} {a : (St → Bool) × List St} {s : St} (hs : s ∈ l) : (markI a s).2.length + leftI l (markI a s).1 ≤ a.2.length + leftI l a.1 := by
  unfold markI
  split
  · exact Nat.le_refl _
  · rename_i h
    have h0 : a.1 s = false := by simpa using h
    have := countP_lt (f := fun x => !a.1 x) (g := fun x => !(updB a.1 s) x) (fun x hx => by
      unfold updB at hx
      simp at hx
      simpa using hx.2) (s := s) (by simp [h0]) (by simp [updB]) l hs
    show (a.2 ++ [s]).length + leftI l (updB a.1 s) ≤ _
    unfold leftI
    rw [List.length_append, List.length_singleton]
    omega
theorem marks_left {l : List St} : ∀ (ss : List St) (a : (St → Bool) × List St), (∀ s ∈ ss, s ∈ l) → (ss.foldl markI a).2.length + leftI l (ss.foldl markI a).1 ≤ a.2.length + leftI l a.1
  | [], _, _ => Nat.le_refl _
  | s :: ss, a, h => by
    rw [List.foldl_cons]
    exact Nat.le_trans (marks_left ss _ (fun x hx => h x (List.mem_cons_of_mem _ hx))) (mark_left (h s (List.mem_cons_self ..)))
theorem add_mem {l : List St} {s : St} (hs : s ∈ l) : ∀ (ys : List St) (a : (St → List St) × (St → Bool)), (∀ y, ∀ x ∈ a.1 y, x ∈ l) → ∀ y, ∀ x ∈ (ys.foldl (addN s) a).1 y, x ∈ l
  | [], _, h => h
  | z :: ys, a, h => by
    rw [List.foldl_cons]
    refine add_mem hs ys _ ?_
    unfold addN
    split
    · exact h
    · intro y x hx
      dsimp only [updF] at hx
      split at hx
      · rcases List.mem_append.1 hx with hx | hx
        · exact h _ x hx
        · rw [List.mem_singleton.1 hx]
          exact hs
      · exact h y x hx
theorem step_mem {p : Pl} {c : List Ln} {l : List St} : ∀ (m : List St) (a : Iv), (∀ y, ∀ x ∈ a.fr y, x ∈ l) → (∀ s ∈ m, s ∈ l) → ∀ y, ∀ x ∈ (m.foldl (stepI p c) a).fr y, x ∈ l
  | [], _, h, _ => h
  | s :: m, a, h, hm => by
    rw [List.foldl_cons]
    exact step_mem m _ (add_mem (hm s (List.mem_cons_self ..)) _ _ h) (fun x hx => hm x (List.mem_cons_of_mem _ hx))
theorem sweep_mem (p : Pl) (c : List Ln) (l : List St) : ∀ y, ∀ x ∈ (sweepI p c l).fr y, x ∈ l := step_mem l ivZero (fun y x hx => by cases hx) (fun _ h => h)
theorem add_len {s : St} {fr0 : St → List St} : ∀ (ys : List St) (a : (St → List St) × (St → Bool)), (∀ y, (a.1 y).length ≤ (fr0 y).length + 1 ∧ (a.2 y = false → (a.1 y).length ≤ (fr0 y).length)) → ∀ y, ((ys.foldl (addN s) a).1 y).length ≤ (fr0 y).length + 1 ∧ ((ys.foldl (addN s) a).2 y = false → ((ys.foldl (addN s) a).1 y).length ≤ (fr0 y).length)
  | [], _, h => h
  | z :: ys, a, h => by
    rw [List.foldl_cons]
    refine add_len ys _ ?_
    unfold addN
    split
    · exact h
    · rename_i h0
      intro y
      dsimp only [updF, updB]
      by_cases hy : y = z
      · subst hy
        rw [if_pos rfl]
        have := (h y).2 (by simpa using h0)
        simp
        omega
      · rw [if_neg hy]
        simp [hy]
        exact ⟨(h y).1, (h y).2⟩
theorem step_len {p : Pl} {c : List Ln} : ∀ (m : List St) (a : Iv) (n : Nat), (∀ y, (a.fr y).length ≤ n) → ∀ y, ((m.foldl (stepI p c) a).fr y).length ≤ n + m.length
  | [], _, n, h => h
  | s :: m, a, n, h => by
    rw [List.foldl_cons, List.length_cons]
    intro y
    have := step_len (p := p) (c := c) m (stepI p c a s) (n + 1) (fun y => Nat.le_trans (add_len (s := s) (fr0 := a.fr) (p.foll c s) (a.fr, fun _ => false) (fun y => ⟨Nat.le_succ _, fun _ => Nat.le_refl _⟩) y).1 (Nat.succ_le_succ (h y))) y
    omega
theorem sweep_len (p : Pl) (c : List Ln) (l : List St) (y : St) : ((sweepI p c l).fr y).length ≤ l.length := by
  have := step_len (p := p) (c := c) l ivZero 0 (fun y => Nat.le_refl _) y
  rw [Nat.zero_add] at this
  exact this
theorem sweep_op : ∀ (p : Pl) (c : List Ln) (m : List St) (a : Iv), ((m.foldl (stepI p c) a).op).length ≤ a.op.length + m.length
  | _, _, [], _ => Nat.le_refl _
  | p, c, s :: m, a => by
    rw [List.foldl_cons, List.length_cons]
    have := sweep_op p c m (stepI p c a s)
    have h2 : (stepI p c a s).op.length ≤ a.op.length + 1 := by
      unfold stepI
      dsimp only
      split
      · omega
      · simp
    omega
theorem step_opmem {p : Pl} {c : List Ln} {l : List St} : ∀ (m : List St) (a : Iv), (∀ x ∈ a.op, x ∈ l) → (∀ s ∈ m, s ∈ l) → ∀ x ∈ (m.foldl (stepI p c) a).op, x ∈ l
  | [], _, h, _ => h
  | s :: m, a, h, hm => by
    rw [List.foldl_cons]
    refine step_opmem m _ ?_ (fun x hx => hm x (List.mem_cons_of_mem _ hx))
    unfold stepI
    dsimp only
    split
    · exact h
    · intro x hx
      rcases List.mem_append.1 hx with hx | hx
      · exact h x hx
      · rw [List.mem_singleton.1 hx]
        exact hm s (List.mem_cons_self ..)
theorem marks_mem {l : List St} : ∀ (ss : List St) (a : (St → Bool) × List St), (∀ x ∈ a.2, x ∈ l) → (∀ s ∈ ss, s ∈ l) → ∀ x ∈ (ss.foldl markI a).2, x ∈ l
  | [], _, h, _ => h
  | s :: ss, a, h, hm => by
    rw [List.foldl_cons]
    refine marks_mem ss _ ?_ (fun x hx => hm x (List.mem_cons_of_mem _ hx))
    unfold markI
    split
    · exact h
    · intro x hx
      rcases List.mem_append.1 hx with hx | hx
      · exact h x hx
      · rw [List.mem_singleton.1 hx]
        exact hm s (List.mem_cons_self ..)
end Go.Proofs.Ytancngachnpefaa
