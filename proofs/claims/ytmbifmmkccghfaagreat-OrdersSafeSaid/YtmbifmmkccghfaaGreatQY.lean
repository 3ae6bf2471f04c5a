/- Arguments of chapter 32's laws opened: a plant, a state, a shock. (Printed by gen_y.py.) -/
import Derived.Test.YtmbifmmkccghfaaGreatQK
import Derived.WalkKit
import Derived.ProofKit
import Derived.OpenShut
import Derived.ChangeOld
import Derived.Below
import Derived.Lib.SmallJoins
import Derived.Deep.Slices
import Derived.Deep.Fields
import Derived.ChangeSame
import Derived.Test.YtmbifmmkccghfaaGreatQUC
import Derived.Test.YtmbifmmkccghfaaGreatQUD
set_option linter.unusedVariables false
set_option linter.unusedSimpArgs false
set_option maxRecDepth 100000
namespace Go.Proofs.YtmbifmmkccghfaaGreat
open Go.ChangeShapes Go.WideShapes Go.ChangeAt Go.RowKit Go.Joins
theorem cell_intG {H : Type} {enc : TypeId × Value → H} {P : Program} {w : World} {base : Nat} {spare : Nat → Bool} {held : Bool} {t : TypeId} {k : IntKind} {n : Nat} {v : Value} {y : DataW H × List MemPlace}
    (ht : P.underlying t = some (.int k)) (h : DataW.trod enc P w base spare held n t [v] = some y) : ∃ x : Int, v = .int k x ∧ (Lit.int k x).wf = true := by
  obtain ⟨x, hx, _, hw⟩ := DataW.trod_int ht h
  exact ⟨x, by simpa using hx, hw⟩
section
variable {H : Type} {enc : TypeId × Value → H} {w : World} {base : Nat} {spare : Nat → Bool} {held : Bool}
theorem open_plant {r : Reach} {b0 : Nat} {v : Value} {d : DataW H} {p : List MemPlace} (hv : Value.okWide Tryz.prog w r b0 23 v) (h : DataW.Trod enc Tryz.prog w base spare held 23 v d p) : ∃ a : Pl, v = a.v := by
  obtain ⟨cs, rfl, hsz⟩ := okWide_struct Tryz.underlying23 hv
  obtain ⟨l⟩ := cs
  have hC : Tryz.prog.cellsOf 23 = 12 := by kernel_rfl
  match l, hsz.trans hC with
  | [c0, c1, c2, c3, c4, c5, c6, c7, c8, c9, c10, c11], _ =>
    obtain ⟨fuel, hf⟩ := h
    obtain ⟨xs, n, _, hx, _, hlen, hg⟩ := DataW.trod_struct Tryz.underlying23 hf
    have k1 : Tryz.prog.cellsOf 3 = 1 := by kernel_rfl
    match xs, hlen with
    | [y0, y1, y2, y3, y4, y5, y6, y7, y8, y9, y10, y11], _ =>
      obtain ⟨a0, rfl, _⟩ := cell_intG Tryz.underlying3 (show DataW.trod enc Tryz.prog w base spare held n 3 [c0] = some y0 by simpa [Value.cells, k1] using hg 0 _ rfl)
      obtain ⟨a1, rfl, _⟩ := cell_intG Tryz.underlying3 (show DataW.trod enc Tryz.prog w base spare held n 3 [c1] = some y1 by simpa [Value.cells, k1] using hg 1 _ rfl)
      obtain ⟨a2, rfl, _⟩ := cell_intG Tryz.underlying3 (show DataW.trod enc Tryz.prog w base spare held n 3 [c2] = some y2 by simpa [Value.cells, k1] using hg 2 _ rfl)
      obtain ⟨a3, rfl, _⟩ := cell_intG Tryz.underlying3 (show DataW.trod enc Tryz.prog w base spare held n 3 [c3] = some y3 by simpa [Value.cells, k1] using hg 3 _ rfl)
      obtain ⟨a4, rfl, _⟩ := cell_intG Tryz.underlying3 (show DataW.trod enc Tryz.prog w base spare held n 3 [c4] = some y4 by simpa [Value.cells, k1] using hg 4 _ rfl)
      obtain ⟨a5, rfl, _⟩ := cell_intG Tryz.underlying3 (show DataW.trod enc Tryz.prog w base spare held n 3 [c5] = some y5 by simpa [Value.cells, k1] using hg 5 _ rfl)
      obtain ⟨a6, rfl, _⟩ := cell_intG Tryz.underlying3 (show DataW.trod enc Tryz.prog w base spare held n 3 [c6] = some y6 by simpa [Value.cells, k1] using hg 6 _ rfl)
      obtain ⟨a7, rfl, _⟩ := cell_intG Tryz.underlying3 (show DataW.trod enc Tryz.prog w base spare held n 3 [c7] = some y7 by simpa [Value.cells, k1] using hg 7 _ rfl)
      obtain ⟨a8, rfl, _⟩ := cell_intG Tryz.underlying3 (show DataW.trod enc Tryz.prog w base spare held n 3 [c8] = some y8 by simpa [Value.cells, k1] using hg 8 _ rfl)
      obtain ⟨a9, rfl, _⟩ := cell_intG Tryz.underlying3 (show DataW.trod enc Tryz.prog w base spare held n 3 [c9] = some y9 by simpa [Value.cells, k1] using hg 9 _ rfl)
      obtain ⟨a10, rfl, _⟩ := cell_intG Tryz.underlying3 (show DataW.trod enc Tryz.prog w base spare held n 3 [c10] = some y10 by simpa [Value.cells, k1] using hg 10 _ rfl)
      obtain ⟨a11, rfl, _⟩ := cell_intG Tryz.underlying3 (show DataW.trod enc Tryz.prog w base spare held n 3 [c11] = some y11 by simpa [Value.cells, k1] using hg 11 _ rfl)
      exact ⟨⟨a0, a1, a2, a3, a4, a5, a6, a7, a8, a9, a10, a11⟩, rfl⟩
end
end Go.Proofs.YtmbifmmkccghfaaGreat
namespace Go.Proofs.YtmbifmmkccghfaaGreat
open Go.ChangeShapes Go.WideShapes Go.ChangeAt Go.RowKit Go.Joins Go.Deep
section
variable {H : Type} {enc : TypeId × Value → H} {P : Program} {w : World} {base : Nat} {spare : Nat → Bool} {held : Bool}
theorem open_slice_fieldsG {t e : TypeId} {fs : Array Field} {fuel : Nat} {cs : List Value} {x : DataW H × List MemPlace} (ht : P.underlying t = some (.slice e)) (he : P.underlying e = some (.struct fs))
    (hone : oneCellFields P fs = true) (hC : P.cellsOf e = fs.size) (h : DataW.trod enc P w base spare held fuel t cs = some x) :
    (cs = [.slice none 0 0] ∧ x = (.nil, [])) ∨
    ∃ (a : Addr) (len cap m : Nat) (D : Nat → DataW H) (Pl : Nat → List MemPlace), cs = [.slice (some a) len cap] ∧ base ≤ a.block ∧ len ≤ cap ∧ cap ≤ maxLen ∧ m = (if spare a.block then cap else len) ∧
      x = (.slice ((List.range len).map D) ((List.range (m - len)).map fun j => D (len + j)), MemPlace.row a (m * fs.size) ++ (List.range m).flatMap Pl) ∧
      ∀ i, i < m → ∃ (ys : List (DataW H × List MemPlace)) (n : Nat), D i = .agg (ys.map (·.1)) ∧ Pl i = ys.flatMap (·.2) ∧ ys.length = fs.size ∧
        ∀ (j : Nat) (f : Field), fs[j]? = some f → ∃ (v : Value) (y : DataW H × List MemPlace), w.cell? (a.add (i * fs.size + j)) = some v ∧ ys[j]? = some y ∧ DataW.trod enc P w base spare held n f.type [v] = some y := by
  rcases open_slice ht h with h0 | ⟨a, len, cap, m, n, D, Pl, hcs, hb, hl, hm, hmm, hx, hi⟩
  · exact .inl h0
  · refine .inr ⟨a, len, cap, m, D, Pl, hcs, hb, hl, hm, hmm, by rw [hC] at hx; exact hx, fun i him => ?_⟩
    obtain ⟨cs', hc, ht'⟩ := hi i him
    rw [hC] at hc
    obtain ⟨ys, n', hn', hy, hlen, hyl, hf⟩ := DataW.trod_struct he ht'
    obtain ⟨_, hcl, hat⟩ := World.cells?_some hc
    simp only [Prod.mk.injEq] at hy
    refine ⟨ys, n', hy.1, hy.2, hyl, fun j f hj => ?_⟩
    obtain ⟨ho, hk⟩ := hone_of hone j f hj
    have hjl : j < fs.size := (Array.getElem?_eq_some_iff.1 hj).1
    have hcell := hat j hjl
    have hv : cs'[j]? = some (cs'[j]'(by omega)) := List.getElem?_eq_getElem (by omega)
    have h1 := hf j f hj
    rw [ho, hk] at h1
    have hone' : (cs'.drop j).take 1 = [cs'[j]'(by omega)] := by
      rw [List.drop_eq_getElem_cons (by omega)]
      rfl
    rw [hone'] at h1
    have hys : ys[j]? = some (ys[j]'(by omega)) := List.getElem?_eq_getElem (by omega)
    refine ⟨_, _, ?_, hys, h1.trans hys⟩
    rw [← Go.Deep.add_add, hcell, hv]
end
theorem exists_listG {α : Type} (P : Nat → α → Prop) : ∀ n, (∀ i, i < n → ∃ a, P i a) → ∃ l : List α, l.length = n ∧ ∀ i a, l[i]? = some a → P i a
  | 0, _ => ⟨[], rfl, fun i a h => by simp at h⟩
  | n + 1, h => by
    obtain ⟨l, hl, hp⟩ := exists_listG P n (fun i hi => h i (by omega))
    obtain ⟨a, ha⟩ := h n (by omega)
    refine ⟨l ++ [a], by simp [hl], fun i b hb => ?_⟩
    rcases Nat.lt_trichotomy i n with hi | rfl | hi
    · rw [List.getElem?_append_left (by omega)] at hb
      exact hp i b hb
    · rw [List.getElem?_append_right (by omega), hl] at hb
      simp at hb
      subst hb
      exact ha
    · rw [List.getElem?_eq_none (by simp; omega)] at hb
      cases hb
theorem add_flat (b off n : Nat) : (⟨b, off, none⟩ : Addr).add n = ⟨b, off + n, none⟩ := by
  unfold Addr.add
  split
  · rename_i h; rw [h]; rfl
  · rfl
theorem spot_noneG {w : World} {a : Addr} {v : Value} (h : w.cell? a = some v) : a.spot = none := by
  unfold World.cell? at h
  split at h
  · split at h
    · cases h
    · rename_i hs
      cases hq : a.spot with
      | none => rfl
      | some q => rw [hq] at hs; exact absurd rfl hs
  · cases h
section
variable {H : Type} {enc : TypeId × Value → H} {w : World} {base : Nat} {spare : Nat → Bool} {held : Bool}
theorem open_conds {n : Nat} {v : Value} {y : DataW H × List MemPlace} (h : DataW.trod enc Tryz.prog w base spare held n 71 [v] = some y) : ∃ cs : List Cn, CondsAt w w.heap.size v cs := by
  rcases open_slice_fieldsG Tryz.underlying71 Tryz.underlying139 (by kernel_rfl) (by kernel_rfl) h with ⟨h0, _⟩ | ⟨a, len, cap, m, D, Pl, h0, hb, hl, hc, hm, _, hf⟩
  · obtain rfl : v = .slice none 0 0 := by simpa using h0
    exact ⟨[], none, 0, rfl, Nat.zero_le _, fun i hi => by simp at hi⟩
  · obtain rfl : v = .slice (some a) len cap := by simpa using h0
    have hlm : len ≤ m := by rw [hm]; split <;> omega
    obtain ⟨cs, hcs, hp⟩ := exists_listG (fun i (c : Cn) => w.cell? (a.add (i * 3 + 0)) = some (.int .i64 c.var) ∧ w.cell? (a.add (i * 3 + 1)) = some (.int .i64 c.op) ∧ w.cell? (a.add (i * 3 + 2)) = some (.int .i64 c.n)) len (fun i hi => by
      obtain ⟨ys, k, _, _, _, hj⟩ := hf i (by omega)
      obtain ⟨v0, y0, e0, _, t0⟩ := hj 0 _ rfl
      obtain ⟨v1, y1, e1, _, t1⟩ := hj 1 _ rfl
      obtain ⟨v2, y2, e2, _, t2⟩ := hj 2 _ rfl
      obtain ⟨x0, rfl, _⟩ := cell_intG Tryz.underlying3 t0
      obtain ⟨x1, rfl, _⟩ := cell_intG Tryz.underlying3 t1
      obtain ⟨x2, rfl, _⟩ := cell_intG Tryz.underlying3 t2
      exact ⟨⟨x0, x1, x2⟩, e0, e1, e2⟩)
    refine ⟨cs, some a, cap, by rw [hcs], by omega, fun i hi => ?_⟩
    have hs : a.spot = none := by
      obtain ⟨q0, _, _⟩ := hp 0 _ (List.getElem?_eq_getElem (by omega))
      exact spot_noneG q0
    obtain ⟨b, off, sp⟩ := a
    obtain rfl : sp = none := hs
    obtain ⟨q0, q1, q2⟩ := hp i _ (List.getElem?_eq_getElem hi)
    rw [add_flat] at q0 q1 q2
    refine ⟨b, off, rfl, World.block_lt_of_cell? _ _ q0, fun j hj => ?_⟩
    dsimp only
    rw [List.getElem?_eq_getElem hi]
    rcases (show j = 0 ∨ j = 1 ∨ j = 2 by omega) with rfl | rfl | rfl
    · exact q0
    · exact q1
    · exact q2
theorem open_lines {n : Nat} {v : Value} {y : DataW H × List MemPlace} (h : DataW.trod enc Tryz.prog w base spare held n 24 [v] = some y) : ∃ code : List Ln, CodeAt w w.heap.size v code := by
  rcases open_slice_fieldsG Tryz.underlying24 Tryz.underlying73 (by kernel_rfl) (by kernel_rfl) h with ⟨h0, _⟩ | ⟨a, len, cap, m, D, Pl, h0, hb, hl, hc, hm, _, hf⟩
  · obtain rfl : v = .slice none 0 0 := by simpa using h0
    exact ⟨[], fun _ => undef, ⟨none, 0, rfl, Nat.zero_le _, fun i hi => by simp at hi⟩, fun i l hl => by simp at hl⟩
  · obtain rfl : v = .slice (some a) len cap := by simpa using h0
    have hlm : len ≤ m := by rw [hm]; split <;> omega
    obtain ⟨ls, hcs, hp⟩ := exists_listG (fun i (l : Value × Ln) => w.cell? (a.add (i * 2 + 0)) = some l.1 ∧ w.cell? (a.add (i * 2 + 1)) = some (.int .i64 l.2.set) ∧ CondsAt w w.heap.size l.1 l.2.conds) len (fun i hi => by
      obtain ⟨ys, k, _, _, _, hj⟩ := hf i (by omega)
      obtain ⟨v0, y0, e0, _, t0⟩ := hj 0 _ rfl
      obtain ⟨v1, y1, e1, _, t1⟩ := hj 1 _ rfl
      obtain ⟨x1, rfl, _⟩ := cell_intG Tryz.underlying3 t1
      obtain ⟨cs, hcs⟩ := open_conds t0
      exact ⟨(v0, ⟨cs, x1⟩), e0, e1, hcs⟩)
    refine ⟨ls.map (·.2), fun i => match ls[i]? with | some l => l.1 | none => undef, ⟨some a, cap, by simp [hcs], by simp; omega, fun i hi => ?_⟩, fun i l hl => ?_⟩
    · have hi : i < ls.length := by simpa using hi
      have hs : a.spot = none := by
        obtain ⟨q0, _, _⟩ := hp 0 _ (List.getElem?_eq_getElem (by omega))
        exact spot_noneG q0
      obtain ⟨b, off, sp⟩ := a
      obtain rfl : sp = none := hs
      obtain ⟨q0, q1, q2⟩ := hp i _ (List.getElem?_eq_getElem hi)
      rw [add_flat] at q0 q1
      refine ⟨b, off, rfl, World.block_lt_of_cell? _ _ q0, fun j hj => ?_⟩
      dsimp only
      rw [List.getElem?_map, List.getElem?_eq_getElem hi]
      rcases (show j = 0 ∨ j = 1 by omega) with rfl | rfl
      · exact q0
      · exact q1
    · rw [List.getElem?_map] at hl
      cases hq : ls[i]? with
      | none => rw [hq] at hl; cases hl
      | some q =>
        rw [hq] at hl
        obtain rfl : q.2 = l := by simpa using hl
        dsimp only
        rw [hq]
        exact (hp i q hq).2.2
theorem open_code {r : Reach} {b0 : Nat} {v : Value} {d : DataW H} {p : List MemPlace} (hv : Value.okWide Tryz.prog w r b0 26 v) (h : DataW.Trod enc Tryz.prog w base spare held 26 v d p) : ∃ (V : Value) (code : List Ln), v = .agg #[V] ∧ CodeAt w w.heap.size V code := by
  obtain ⟨cs, rfl, hsz⟩ := okWide_struct Tryz.underlying26 hv
  obtain ⟨l⟩ := cs
  have hC : Tryz.prog.cellsOf 26 = 1 := by kernel_rfl
  match l, hsz.trans hC with
  | [c0], _ =>
    obtain ⟨fuel, hf⟩ := h
    obtain ⟨xs, n, _, hx, _, hlen, hg⟩ := DataW.trod_struct Tryz.underlying26 hf
    have k1 : Tryz.prog.cellsOf 24 = 1 := by kernel_rfl
    match xs, hlen with
    | [y0], _ =>
      obtain ⟨code, hc⟩ := open_lines (show DataW.trod enc Tryz.prog w base spare held n 24 [c0] = some y0 by simpa [Value.cells, k1] using hg 0 _ rfl)
      exact ⟨c0, code, rfl, hc⟩
end
end Go.Proofs.YtmbifmmkccghfaaGreat
namespace Go.Proofs.YtmbifmmkccghfaaGreat
open Go.ChangeShapes Go.WideShapes Go.ChangeAt Go.RowKit Go.Joins Go.Deep
section
variable {H : Type} {enc : TypeId × Value → H} {w : World} {base : Nat} {spare : Nat → Bool} {held : Bool}
theorem open_bar {n : Nat} {v : Value} {y : DataW H × List MemPlace} (h : DataW.trod enc Tryz.prog w base spare held n 27 [v] = some y) : ∃ b : List Iq, BarAt w w.heap.size v b := by
  rcases open_slice_fields Tryz.underlying27 Tryz.underlying120 (by kernel_rfl) (by kernel_rfl) h with ⟨h0, _⟩ | ⟨a, len, cap, m, D, Pl, h0, hb, hl, hc, hm, _, hf⟩
  · obtain rfl : v = .slice none 0 0 := by simpa using h0
    exact ⟨[], none, 0, rfl, Nat.zero_le _, fun i hi => by simp at hi⟩
  · obtain rfl : v = .slice (some a) len cap := by simpa using h0
    have hlm : len ≤ m := by rw [hm]; split <;> omega
    obtain ⟨cs, hcs, hp⟩ := exists_list (fun i (p : Iq) => ∀ j, j < 6 → w.cell? (a.add (i * 6 + j)) = some (iqCell p j)) len (fun i hi => by
      obtain ⟨ys, k, _, _, _, hj⟩ := hf i (by omega)
      obtain ⟨v0, y0, e0, _, t0⟩ := hj 0 _ rfl
      obtain ⟨v1, y1, e1, _, t1⟩ := hj 1 _ rfl
      obtain ⟨v2, y2, e2, _, t2⟩ := hj 2 _ rfl
      obtain ⟨v3, y3, e3, _, t3⟩ := hj 3 _ rfl
      obtain ⟨v4, y4, e4, _, t4⟩ := hj 4 _ rfl
      obtain ⟨v5, y5, e5, _, t5⟩ := hj 5 _ rfl
      obtain ⟨x0, rfl, _⟩ := cell_int Tryz.underlying3 t0
      obtain ⟨x1, rfl, _⟩ := cell_int Tryz.underlying3 t1
      obtain ⟨x2, rfl, _⟩ := cell_int Tryz.underlying3 t2
      obtain ⟨x3, rfl, _⟩ := cell_int Tryz.underlying3 t3
      obtain ⟨x4, rfl, _⟩ := cell_int Tryz.underlying3 t4
      obtain ⟨x5, rfl, _⟩ := cell_int Tryz.underlying3 t5
      refine ⟨⟨x0, x1, x2, x3, x4, x5⟩, fun j hj => ?_⟩
      rcases (show j = 0 ∨ j = 1 ∨ j = 2 ∨ j = 3 ∨ j = 4 ∨ j = 5 by omega) with rfl | rfl | rfl | rfl | rfl | rfl <;> assumption)
    refine ⟨cs, some a, cap, by rw [hcs], by omega, fun i hi => ?_⟩
    have hs : a.spot = none := spot_none (hp 0 _ (List.getElem?_eq_getElem (by omega)) 0 (by omega))
    obtain ⟨b, off, sp⟩ := a
    obtain rfl : sp = none := hs
    have q := hp i _ (List.getElem?_eq_getElem hi)
    refine ⟨b, off, rfl, ?_, fun j hj => ?_⟩
    · have q0 := q 0 (by omega)
      rw [add_flat] at q0
      exact World.block_lt_of_cell? _ _ q0
    · have qj := q j hj
      rw [add_flat] at qj
      dsimp only
      rw [List.getD_eq_getElem?_getD (l := cs), List.getElem?_eq_getElem hi]
      exact qj
theorem open_ineqs {r : Reach} {b0 : Nat} {v : Value} {d : DataW H} {p : List MemPlace} (hv : Value.okWide Tryz.prog w r b0 27 v) (h : DataW.Trod enc Tryz.prog w base spare held 27 v d p) : ∃ l : List Iq, BarAt w w.heap.size v l := by
  obtain ⟨A, len0, cap0, rfl⟩ := okWide_slice Tryz.underlying27 hv
  obtain ⟨n, h⟩ := h
  exact open_bar (show DataW.trod enc Tryz.prog w base spare held n 27 [.slice A len0 cap0] = some (d, p) from h)
end
end Go.Proofs.YtmbifmmkccghfaaGreat
