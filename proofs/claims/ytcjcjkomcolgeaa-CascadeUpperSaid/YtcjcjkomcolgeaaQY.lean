/- Arguments of chapter 32's laws opened: a plant, a state, a shock. (Printed by gen_y.py.) -/
import Derived.Test.YtcjcjkomcolgeaaQG
import Derived.WalkKit
import Derived.ProofKit
import Derived.OpenShut
import Derived.ChangeOld
import Derived.Below
import Derived.Lib.SmallJoins
import Derived.Deep.Slices
import Derived.Deep.Fields
import Derived.ChangeSame
import Derived.Test.YtcjcjkomcolgeaaQDI
set_option linter.unusedVariables false
set_option linter.unusedSimpArgs false
namespace Go.Proofs.Ytcjcjkomcolgeaa
open Go.ChangeShapes Go.WideShapes Go.ChangeAt Go.RowKit Go.Joins

theorem cell_int {H : Type} {enc : TypeId × Value → H} {P : Program} {w : World} {base : Nat} {spare : Nat → Bool} {held : Bool} {t : TypeId} {k : IntKind} {n : Nat} {v : Value} {y : DataW H × List MemPlace}
    (ht : P.underlying t = some (.int k)) (h : DataW.trod enc P w base spare held n t [v] = some y) : ∃ x : Int, v = .int k x ∧ (Lit.int k x).wf = true := by
  obtain ⟨x, hx, _, hw⟩ := DataW.trod_int ht h
  exact ⟨x, by simpa using hx, hw⟩
section
variable {H : Type} {enc : TypeId × Value → H} {w : World} {base : Nat} {spare : Nat → Bool} {held : Bool}
end
end Go.Proofs.Ytcjcjkomcolgeaa

/-
  Arguments of chapter 32's laws opened: a gate program (a struct of one slice of lines, each with a slice of conditions). No condition.
  The theorem open_slice_fields stands in the kit's howto/extra-structs.md, to be copied.
-/
namespace Go.Proofs.Ytcjcjkomcolgeaa
open Go.ChangeShapes Go.WideShapes Go.ChangeAt Go.RowKit Go.Joins Go.Deep

section
variable {H : Type} {enc : TypeId × Value → H} {P : Program} {w : World} {base : Nat} {spare : Nat → Bool} {held : Bool}
theorem open_slice_fields {t e : TypeId} {fs : Array Field} {fuel : Nat} {cs : List Value} {x : DataW H × List MemPlace} (ht : P.underlying t = some (.slice e)) (he : P.underlying e = some (.struct fs))
    (hone : oneCellFields P fs = true) (hC : P.cellsOf e = fs.size) (h : DataW.trod enc P w base spare held fuel t cs = some x) :
    (cs = [.slice none 0 0] ∧ x = (.nil, [])) ∨
    ∃ (a : Addr) (len cap m : Nat) (D : Nat → DataW H) (Pl : Nat → List MemPlace), cs = [.slice (some a) len cap] ∧ base ≤ a.block ∧ len ≤ cap ∧ cap ≤ maxLen ∧ m = (if spare a.block then cap else len) ∧
      x = (.slice ((List.range len).map D) ((List.range (m - len)).map fun j => D (len + j)), MemPlace.row a (m * fs.size) ++ (List.range m).flatMap Pl) ∧
      ∀ i, i < m → ∃ (ys : List (DataW H × List MemPlace)) (n : Nat), D i = .agg (ys.map (·.1)) ∧ Pl i = ys.flatMap (·.2) ∧ ys.length = fs.size ∧
        ∀ (j : Nat) (f : Field), fs[j]? = some f → ∃ (v : Value) (y : DataW H × List MemPlace), w.cell? (a.add (i * fs.size + j)) = some v ∧ ys[j]? = some y ∧ DataW.trod enc P w base spare held n f.type [v] = some y := by
  rcases open_slice ht h with h0 | ⟨a, len, cap, m, n, D, Pl, hcs, hb, hl, hm, hmm, hx, hi⟩
  · exact .inl h0
  · refine .inr ⟨a, len, cap, m, D, Pl, hcs, hb, hl, hm, hmm, by rw [hC] at hx; exact hx, fun i him => ?_⟩
    obtain ⟨cs', hc, ht'⟩ := hi i him
    rw [hC] at hc
    obtain ⟨ys, n', hn', hy, hlen, hyl, hf⟩ := DataW.trod_struct he ht'
    obtain ⟨_, hcl, hat⟩ := World.cells?_some hc
    simp only [Prod.mk.injEq] at hy
    refine ⟨ys, n', hy.1, hy.2, hyl, fun j f hj => ?_⟩
    obtain ⟨ho, hk⟩ := hone_of hone j f hj
    have hjl : j < fs.size := (Array.getElem?_eq_some_iff.1 hj).1
    have hcell := hat j hjl
    have hv : cs'[j]? = some (cs'[j]'(by omega)) := List.getElem?_eq_getElem (by omega)
    have h1 := hf j f hj
    rw [ho, hk] at h1
    have hone' : (cs'.drop j).take 1 = [cs'[j]'(by omega)] := by
      rw [List.drop_eq_getElem_cons (by omega)]
      rfl
    rw [hone'] at h1
    have hys : ys[j]? = some (ys[j]'(by omega)) := List.getElem?_eq_getElem (by omega)
    refine ⟨_, _, ?_, hys, h1.trans hys⟩
    rw [← Go.Deep.add_add, hcell, hv]
end

theorem exists_list {α : Type} (P : Nat → α → Prop) : ∀ n, (∀ i, i < n → ∃ a, P i a) → ∃ l : List α, l.length = n ∧ ∀ i a, l[i]? = some a → P i a
  | 0, _ => ⟨[], rfl, fun i a h => by simp at h⟩
  | n + 1, h => by
    obtain ⟨l, hl, hp⟩ := exists_list P n (fun i hi => h i (by omega))
    obtain ⟨a, ha⟩ := h n (by omega)
    refine ⟨l ++ [a], by simp [hl], fun i b hb => ?_⟩
    rcases Nat.lt_trichotomy i n with hi | rfl | hi
    · rw [List.getElem?_append_left (by omega)] at hb
      exact hp i b hb
    · rw [List.getElem?_append_right (by omega), hl] at hb
      simp at hb
      subst hb
      exact ha
    · rw [List.getElem?_eq_none (by simp; omega)] at hb
      cases hb
theorem add_flat (b off n : Nat) : (⟨b, off, none⟩ : Addr).add n = ⟨b, off + n, none⟩ := by
  unfold Addr.add
  split
  · rename_i h; rw [h]; rfl
  · rfl
theorem spot_none {w : World} {a : Addr} {v : Value} (h : w.cell? a = some v) : a.spot = none := by
  unfold World.cell? at h
  split at h
  · split at h
    · cases h
    · rename_i hs
      cases hq : a.spot with
      | none => rfl
      | some q => rw [hq] at hs; exact absurd rfl hs
  · cases h

section
variable {H : Type} {enc : TypeId × Value → H} {w : World} {base : Nat} {spare : Nat → Bool} {held : Bool}
theorem open_conds {n : Nat} {v : Value} {y : DataW H × List MemPlace} (h : DataW.trod enc Try.prog w base spare held n 102 [v] = some y) : ∃ cs : List Cn, CondsAt w w.heap.size v cs := by
  rcases open_slice_fields Try.underlying102 Try.underlying106 (by kernel_rfl) (by kernel_rfl) h with ⟨h0, _⟩ | ⟨a, len, cap, m, D, Pl, h0, hb, hl, hc, hm, _, hf⟩
  · obtain rfl : v = .slice none 0 0 := by simpa using h0
    exact ⟨[], none, 0, rfl, Nat.zero_le _, fun i hi => by simp at hi⟩
  · obtain rfl : v = .slice (some a) len cap := by simpa using h0
    have hlm : len ≤ m := by rw [hm]; split <;> omega
    obtain ⟨cs, hcs, hp⟩ := exists_list (fun i (c : Cn) => w.cell? (a.add (i * 3 + 0)) = some (.int .i64 c.var) ∧ w.cell? (a.add (i * 3 + 1)) = some (.int .i64 c.op) ∧ w.cell? (a.add (i * 3 + 2)) = some (.int .i64 c.n)) len (fun i hi => by
      obtain ⟨ys, k, _, _, _, hj⟩ := hf i (by omega)
      obtain ⟨v0, y0, e0, _, t0⟩ := hj 0 _ rfl
      obtain ⟨v1, y1, e1, _, t1⟩ := hj 1 _ rfl
      obtain ⟨v2, y2, e2, _, t2⟩ := hj 2 _ rfl
      obtain ⟨x0, rfl, _⟩ := cell_int Try.underlying3 t0
      obtain ⟨x1, rfl, _⟩ := cell_int Try.underlying3 t1
      obtain ⟨x2, rfl, _⟩ := cell_int Try.underlying3 t2
      exact ⟨⟨x0, x1, x2⟩, e0, e1, e2⟩)
    refine ⟨cs, some a, cap, by rw [hcs], by omega, fun i hi => ?_⟩
    have hs : a.spot = none := by
      obtain ⟨q0, _, _⟩ := hp 0 _ (List.getElem?_eq_getElem (by omega))
      exact spot_none q0
    obtain ⟨b, off, sp⟩ := a
    obtain rfl : sp = none := hs
    obtain ⟨q0, q1, q2⟩ := hp i _ (List.getElem?_eq_getElem hi)
    rw [add_flat] at q0 q1 q2
    refine ⟨b, off, rfl, World.block_lt_of_cell? _ _ q0, fun j hj => ?_⟩
    dsimp only
    rw [List.getElem?_eq_getElem hi]
    rcases (show j = 0 ∨ j = 1 ∨ j = 2 by omega) with rfl | rfl | rfl
    · exact q0
    · exact q1
    · exact q2
theorem open_lines {n : Nat} {v : Value} {y : DataW H × List MemPlace} (h : DataW.trod enc Try.prog w base spare held n 61 [v] = some y) : ∃ code : List Ln, CodeAt w w.heap.size v code := by
  rcases open_slice_fields Try.underlying61 Try.underlying104 (by kernel_rfl) (by kernel_rfl) h with ⟨h0, _⟩ | ⟨a, len, cap, m, D, Pl, h0, hb, hl, hc, hm, _, hf⟩
  · obtain rfl : v = .slice none 0 0 := by simpa using h0
    exact ⟨[], fun _ => undef, ⟨none, 0, rfl, Nat.zero_le _, fun i hi => by simp at hi⟩, fun i l hl => by simp at hl⟩
  · obtain rfl : v = .slice (some a) len cap := by simpa using h0
    have hlm : len ≤ m := by rw [hm]; split <;> omega
    obtain ⟨ls, hcs, hp⟩ := exists_list (fun i (l : Value × Ln) => w.cell? (a.add (i * 2 + 0)) = some l.1 ∧ w.cell? (a.add (i * 2 + 1)) = some (.int .i64 l.2.set) ∧ CondsAt w w.heap.size l.1 l.2.conds) len (fun i hi => by
      obtain ⟨ys, k, _, _, _, hj⟩ := hf i (by omega)
      obtain ⟨v0, y0, e0, _, t0⟩ := hj 0 _ rfl
      obtain ⟨v1, y1, e1, _, t1⟩ := hj 1 _ rfl
      obtain ⟨x1, rfl, _⟩ := cell_int Try.underlying3 t1
      obtain ⟨cs, hcs⟩ := open_conds t0
      exact ⟨(v0, ⟨cs, x1⟩), e0, e1, hcs⟩)
    refine ⟨ls.map (·.2), fun i => match ls[i]? with | some l => l.1 | none => undef, ⟨some a, cap, by simp [hcs], by simp; omega, fun i hi => ?_⟩, fun i l hl => ?_⟩
    · have hi : i < ls.length := by simpa using hi
      have hs : a.spot = none := by
        obtain ⟨q0, _, _⟩ := hp 0 _ (List.getElem?_eq_getElem (by omega))
        exact spot_none q0
      obtain ⟨b, off, sp⟩ := a
      obtain rfl : sp = none := hs
      obtain ⟨q0, q1, q2⟩ := hp i _ (List.getElem?_eq_getElem hi)
      rw [add_flat] at q0 q1
      refine ⟨b, off, rfl, World.block_lt_of_cell? _ _ q0, fun j hj => ?_⟩
      dsimp only
      rw [List.getElem?_map, List.getElem?_eq_getElem hi]
      rcases (show j = 0 ∨ j = 1 by omega) with rfl | rfl
      · exact q0
      · exact q1
    · rw [List.getElem?_map] at hl
      cases hq : ls[i]? with
      | none => rw [hq] at hl; cases hl
      | some q =>
        rw [hq] at hl
        obtain rfl : q.2 = l := by simpa using hl
        dsimp only
        rw [hq]
        exact (hp i q hq).2.2
end
end Go.Proofs.Ytcjcjkomcolgeaa

/-
  Arguments of chapter 35's laws opened: a cascade, a list of steps. No condition.
-/
namespace Go.Proofs.Ytcjcjkomcolgeaa
open Go.ChangeShapes Go.WideShapes Go.ChangeAt Go.RowKit Go.Joins Go.Deep

section
variable {H : Type} {enc : TypeId × Value → H} {w : World} {base : Nat} {spare : Nat → Bool} {held : Bool}
theorem open_pls {n : Nat} {v : Value} {y : DataW H × List MemPlace} (h : DataW.trod enc Try.prog w base spare held n 22 [v] = some y) : ∃ ps : List Pl, PlsAt w w.heap.size v ps := by
  rcases open_slice_fields Try.underlying22 Try.underlying55 (by kernel_rfl) (by kernel_rfl) h with ⟨h0, _⟩ | ⟨a, len, cap, m, D, Pl, h0, hb, hl, hc, hm, _, hf⟩
  · obtain rfl : v = .slice none 0 0 := by simpa using h0
    exact ⟨[], none, 0, rfl, Nat.zero_le _, fun i hi => by simp at hi⟩
  · obtain rfl : v = .slice (some a) len cap := by simpa using h0
    have hlm : len ≤ m := by rw [hm]; split <;> omega
    obtain ⟨cs, hcs, hp⟩ := exists_list (fun i (p : _root_.Go.Proofs.Ytcjcjkomcolgeaa.Pl) => ∀ j, j < 12 → w.cell? (a.add (i * 12 + j)) = some ((p.cells).getD j undef)) len (fun i hi => by
      obtain ⟨ys, k, _, _, _, hj⟩ := hf i (by omega)
      obtain ⟨v0, y0, e0, _, t0⟩ := hj 0 _ rfl
      obtain ⟨v1, y1, e1, _, t1⟩ := hj 1 _ rfl
      obtain ⟨v2, y2, e2, _, t2⟩ := hj 2 _ rfl
      obtain ⟨v3, y3, e3, _, t3⟩ := hj 3 _ rfl
      obtain ⟨v4, y4, e4, _, t4⟩ := hj 4 _ rfl
      obtain ⟨v5, y5, e5, _, t5⟩ := hj 5 _ rfl
      obtain ⟨v6, y6, e6, _, t6⟩ := hj 6 _ rfl
      obtain ⟨v7, y7, e7, _, t7⟩ := hj 7 _ rfl
      obtain ⟨v8, y8, e8, _, t8⟩ := hj 8 _ rfl
      obtain ⟨v9, y9, e9, _, t9⟩ := hj 9 _ rfl
      obtain ⟨v10, y10, e10, _, t10⟩ := hj 10 _ rfl
      obtain ⟨v11, y11, e11, _, t11⟩ := hj 11 _ rfl
      obtain ⟨x0, rfl, _⟩ := cell_int Try.underlying3 t0
      obtain ⟨x1, rfl, _⟩ := cell_int Try.underlying3 t1
      obtain ⟨x2, rfl, _⟩ := cell_int Try.underlying3 t2
      obtain ⟨x3, rfl, _⟩ := cell_int Try.underlying3 t3
      obtain ⟨x4, rfl, _⟩ := cell_int Try.underlying3 t4
      obtain ⟨x5, rfl, _⟩ := cell_int Try.underlying3 t5
      obtain ⟨x6, rfl, _⟩ := cell_int Try.underlying3 t6
      obtain ⟨x7, rfl, _⟩ := cell_int Try.underlying3 t7
      obtain ⟨x8, rfl, _⟩ := cell_int Try.underlying3 t8
      obtain ⟨x9, rfl, _⟩ := cell_int Try.underlying3 t9
      obtain ⟨x10, rfl, _⟩ := cell_int Try.underlying3 t10
      obtain ⟨x11, rfl, _⟩ := cell_int Try.underlying3 t11
      refine ⟨⟨x0, x1, x2, x3, x4, x5, x6, x7, x8, x9, x10, x11⟩, fun j hj => ?_⟩
      rcases (show j = 0 ∨ j = 1 ∨ j = 2 ∨ j = 3 ∨ j = 4 ∨ j = 5 ∨ j = 6 ∨ j = 7 ∨ j = 8 ∨ j = 9 ∨ j = 10 ∨ j = 11 by omega) with rfl | rfl | rfl | rfl | rfl | rfl | rfl | rfl | rfl | rfl | rfl | rfl <;> assumption)
    refine ⟨cs, some a, cap, by rw [hcs], by omega, fun i hi => ?_⟩
    have hs : a.spot = none := spot_none (hp 0 _ (List.getElem?_eq_getElem (by omega)) 0 (by omega))
    obtain ⟨b, off, sp⟩ := a
    obtain rfl : sp = none := hs
    have q := hp i _ (List.getElem?_eq_getElem hi)
    refine ⟨b, off, rfl, ?_, fun j hj => ?_⟩
    · have q0 := q 0 (by omega)
      rw [add_flat] at q0
      exact World.block_lt_of_cell? _ _ q0
    · have qj := q j hj
      rw [add_flat] at qj
      dsimp only [plCell]
      rw [List.getD_eq_getElem?_getD (l := cs), List.getElem?_eq_getElem hi]
      exact qj
theorem open_codes {n : Nat} {v : Value} {y : DataW H × List MemPlace} (h : DataW.trod enc Try.prog w base spare held n 23 [v] = some y) : ∃ cs : List (List Ln), CodesAt w w.heap.size v cs := by
  rcases open_slice_fields Try.underlying23 Try.underlying63 (by kernel_rfl) (by kernel_rfl) h with ⟨h0, _⟩ | ⟨a, len, cap, m, D, Pl, h0, hb, hl, hc, hm, _, hf⟩
  · obtain rfl : v = .slice none 0 0 := by simpa using h0
    exact ⟨[], fun _ => undef, ⟨none, 0, rfl, Nat.zero_le _, fun i hi => by simp at hi⟩, fun i l hl => by simp at hl⟩
  · obtain rfl : v = .slice (some a) len cap := by simpa using h0
    have hlm : len ≤ m := by rw [hm]; split <;> omega
    obtain ⟨ls, hcs, hp⟩ := exists_list (fun i (l : Value × List Ln) => w.cell? (a.add (i * 1 + 0)) = some l.1 ∧ CodeAt w w.heap.size l.1 l.2) len (fun i hi => by
      obtain ⟨ys, k, _, _, _, hj⟩ := hf i (by omega)
      obtain ⟨v0, y0, e0, _, t0⟩ := hj 0 _ rfl
      obtain ⟨c, hc⟩ := open_lines t0
      exact ⟨(v0, c), e0, hc⟩)
    refine ⟨ls.map (·.2), fun i => match ls[i]? with | some l => l.1 | none => undef, ⟨some a, cap, by simp [hcs], by simp; omega, fun i hi => ?_⟩, fun i l hl => ?_⟩
    · have hi : i < ls.length := by simpa using hi
      have hs : a.spot = none := spot_none (hp 0 _ (List.getElem?_eq_getElem (by omega))).1
      obtain ⟨b, off, sp⟩ := a
      obtain rfl : sp = none := hs
      obtain ⟨q0, q1⟩ := hp i _ (List.getElem?_eq_getElem hi)
      rw [add_flat] at q0
      refine ⟨b, off, rfl, World.block_lt_of_cell? _ _ q0, fun j hj => ?_⟩
      obtain rfl : j = 0 := by omega
      dsimp only
      rw [List.getElem?_eq_getElem hi]
      exact q0
    · rw [List.getElem?_map] at hl
      cases hq : ls[i]? with
      | none => rw [hq] at hl; cases hl
      | some q =>
        rw [hq] at hl
        obtain rfl : q.2 = l := by simpa using hl
        dsimp only
        rw [hq]
        exact (hp i q hq).2
theorem open_bar {n : Nat} {v : Value} {y : DataW H × List MemPlace} (h : DataW.trod enc Try.prog w base spare held n 57 [v] = some y) : ∃ b : List Iq, BarAt w w.heap.size v b := by
  rcases open_slice_fields Try.underlying57 Try.underlying114 (by kernel_rfl) (by kernel_rfl) h with ⟨h0, _⟩ | ⟨a, len, cap, m, D, Pl, h0, hb, hl, hc, hm, _, hf⟩
  · obtain rfl : v = .slice none 0 0 := by simpa using h0
    exact ⟨[], none, 0, rfl, Nat.zero_le _, fun i hi => by simp at hi⟩
  · obtain rfl : v = .slice (some a) len cap := by simpa using h0
    have hlm : len ≤ m := by rw [hm]; split <;> omega
    obtain ⟨cs, hcs, hp⟩ := exists_list (fun i (p : Iq) => ∀ j, j < 6 → w.cell? (a.add (i * 6 + j)) = some (iqCell p j)) len (fun i hi => by
      obtain ⟨ys, k, _, _, _, hj⟩ := hf i (by omega)
      obtain ⟨v0, y0, e0, _, t0⟩ := hj 0 _ rfl
      obtain ⟨v1, y1, e1, _, t1⟩ := hj 1 _ rfl
      obtain ⟨v2, y2, e2, _, t2⟩ := hj 2 _ rfl
      obtain ⟨v3, y3, e3, _, t3⟩ := hj 3 _ rfl
      obtain ⟨v4, y4, e4, _, t4⟩ := hj 4 _ rfl
      obtain ⟨v5, y5, e5, _, t5⟩ := hj 5 _ rfl
      obtain ⟨x0, rfl, _⟩ := cell_int Try.underlying3 t0
      obtain ⟨x1, rfl, _⟩ := cell_int Try.underlying3 t1
      obtain ⟨x2, rfl, _⟩ := cell_int Try.underlying3 t2
      obtain ⟨x3, rfl, _⟩ := cell_int Try.underlying3 t3
      obtain ⟨x4, rfl, _⟩ := cell_int Try.underlying3 t4
      obtain ⟨x5, rfl, _⟩ := cell_int Try.underlying3 t5
      refine ⟨⟨x0, x1, x2, x3, x4, x5⟩, fun j hj => ?_⟩
      rcases (show j = 0 ∨ j = 1 ∨ j = 2 ∨ j = 3 ∨ j = 4 ∨ j = 5 by omega) with rfl | rfl | rfl | rfl | rfl | rfl <;> assumption)
    refine ⟨cs, some a, cap, by rw [hcs], by omega, fun i hi => ?_⟩
    have hs : a.spot = none := spot_none (hp 0 _ (List.getElem?_eq_getElem (by omega)) 0 (by omega))
    obtain ⟨b, off, sp⟩ := a
    obtain rfl : sp = none := hs
    have q := hp i _ (List.getElem?_eq_getElem hi)
    refine ⟨b, off, rfl, ?_, fun j hj => ?_⟩
    · have q0 := q 0 (by omega)
      rw [add_flat] at q0
      exact World.block_lt_of_cell? _ _ q0
    · have qj := q j hj
      rw [add_flat] at qj
      dsimp only
      rw [List.getD_eq_getElem?_getD (l := cs), List.getElem?_eq_getElem hi]
      exact qj
theorem open_bars {n : Nat} {v : Value} {y : DataW H × List MemPlace} (h : DataW.trod enc Try.prog w base spare held n 24 [v] = some y) : ∃ bs : List (List Iq), BarsAt w w.heap.size v bs := by
  rcases open_slice1 Try.underlying24 (by kernel_rfl) h with ⟨h0, _⟩ | ⟨a, len, cap, m, k, V, D, Pl, h0, hb, hl, hc, hm, _, hf⟩
  · obtain rfl : v = .slice none 0 0 := by simpa using h0
    exact ⟨[], fun _ => undef, ⟨none, 0, rfl, Nat.zero_le _, fun i hi => by simp at hi⟩, fun i l hl => by simp at hl⟩
  · obtain rfl : v = .slice (some a) len cap := by simpa using h0
    have hlm : len ≤ m := by rw [hm]; split <;> omega
    obtain ⟨ls, hcs, hp⟩ := exists_list (fun i (l : Value × List Iq) => w.cell? (a.add i) = some l.1 ∧ BarAt w w.heap.size l.1 l.2) len (fun i hi => by
      obtain ⟨e0, t0⟩ := hf i (by omega)
      obtain ⟨c, hc⟩ := open_bar t0
      exact ⟨(V i, c), e0, hc⟩)
    refine ⟨ls.map (·.2), fun i => match ls[i]? with | some l => l.1 | none => undef, ⟨some a, cap, by simp [hcs], by simp; omega, fun i hi => ?_⟩, fun i l hl => ?_⟩
    · have hi : i < ls.length := by simpa using hi
      have hs : a.spot = none := spot_none (hp 0 _ (List.getElem?_eq_getElem (by omega))).1
      obtain ⟨b, off, sp⟩ := a
      obtain rfl : sp = none := hs
      obtain ⟨q0, q1⟩ := hp i _ (List.getElem?_eq_getElem hi)
      rw [add_flat] at q0
      refine ⟨b, off, rfl, World.block_lt_of_cell? _ _ q0, fun j hj => ?_⟩
      obtain rfl : j = 0 := by omega
      dsimp only
      rw [List.getElem?_eq_getElem hi, Nat.mul_one, Nat.add_zero]
      exact q0
    · rw [List.getElem?_map] at hl
      cases hq : ls[i]? with
      | none => rw [hq] at hl; cases hl
      | some q =>
        rw [hq] at hl
        obtain rfl : q.2 = l := by simpa using hl
        dsimp only
        rw [hq]
        exact (hp i q hq).2
end
end Go.Proofs.Ytcjcjkomcolgeaa

/-
  Arguments of chapter 35's laws opened: lists of steps. No condition.
-/
namespace Go.Proofs.Ytcjcjkomcolgeaa
open Go.ChangeShapes Go.WideShapes Go.ChangeAt Go.RowKit Go.Joins Go.Deep

section
variable {H : Type} {enc : TypeId × Value → H} {w : World} {base : Nat} {spare : Nat → Bool} {held : Bool}
end
end Go.Proofs.Ytcjcjkomcolgeaa
