/- Arguments that are slices of structs, opened; small words for it. No condition. The theorem open_slice_fields stands in the kit's howto/extra-structs.md, to be copied. -/
import Derived.Test.YtmbifmmkccghfaaQ2K
import Derived.WalkKit
import Derived.ProofKit
import Derived.OpenShut
import Derived.ChangeOld
import Derived.Below
import Derived.Lib.SmallJoins
import Derived.Deep.Slices
import Derived.Deep.Fields
import Derived.ChangeSame
import Derived.Test.YtmbifmmkccghfaaQ2KG
set_option linter.unusedVariables false
set_option linter.unusedSimpArgs false
namespace Go.Proofs.Ytmbifmmkccghfaa
open Go.ChangeShapes Go.WideShapes Go.ChangeAt Go.RowKit Go.Joins Go.Deep

theorem cell_int {H : Type} {enc : TypeId × Value → H} {P : Program} {w : World} {base : Nat} {spare : Nat → Bool} {held : Bool} {t : TypeId} {k : IntKind} {n : Nat} {v : Value} {y : DataW H × List MemPlace}
    (ht : P.underlying t = some (.int k)) (h : DataW.trod enc P w base spare held n t [v] = some y) : ∃ x : Int, v = .int k x ∧ (Lit.int k x).wf = true := by
  obtain ⟨x, hx, _, hw⟩ := DataW.trod_int ht h
  exact ⟨x, by simpa using hx, hw⟩
section
variable {H : Type} {enc : TypeId × Value → H} {P : Program} {w : World} {base : Nat} {spare : Nat → Bool} {held : Bool}
theorem open_slice_fields {t e : TypeId} {fs : Array Field} {fuel : Nat} {cs : List Value} {x : DataW H × List MemPlace} (ht : P.underlying t = some (.slice e)) (he : P.underlying e = some (.struct fs))
    (hone : oneCellFields P fs = true) (hC : P.cellsOf e = fs.size) (h : DataW.trod enc P w base spare held fuel t cs = some x) :
    (cs = [.slice none 0 0] ∧ x = (.nil, [])) ∨
    ∃ (a : Addr) (len cap m : Nat) (D : Nat → DataW H) (Pl : Nat → List MemPlace), cs = [.slice (some a) len cap] ∧ base ≤ a.block ∧ len ≤ cap ∧ cap ≤ maxLen ∧ m = (if spare a.block then cap else len) ∧
      x = (.slice ((List.range len).map D) ((List.range (m - len)).map fun j => D (len + j)), MemPlace.row a (m * fs.size) ++ (List.range m).flatMap Pl) ∧
      ∀ i, i < m → ∃ (ys : List (DataW H × List MemPlace)) (n : Nat), D i = .agg (ys.map (·.1)) ∧ Pl i = ys.flatMap (·.2) ∧ ys.length = fs.size ∧
        ∀ (j : Nat) (f : Field), fs[j]? = some f → ∃ (v : Value) (y : DataW H × List MemPlace), w.cell? (a.add (i * fs.size + j)) = some v ∧ ys[j]? = some y ∧ DataW.trod enc P w base spare held n f.type [v] = some y := by
  rcases open_slice ht h with h0 | ⟨a, len, cap, m, n, D, Pl, hcs, hb, hl, hm, hmm, hx, hi⟩
  · exact .inl h0
  · refine .inr ⟨a, len, cap, m, D, Pl, hcs, hb, hl, hm, hmm, by rw [hC] at hx; exact hx, fun i him => ?_⟩
    obtain ⟨cs', hc, ht'⟩ := hi i him
    rw [hC] at hc
    obtain ⟨ys, n', hn', hy, hlen, hyl, hf⟩ := DataW.trod_struct he ht'
    obtain ⟨_, hcl, hat⟩ := World.cells?_some hc
    simp only [Prod.mk.injEq] at hy
    refine ⟨ys, n', hy.1, hy.2, hyl, fun j f hj => ?_⟩
    obtain ⟨ho, hk⟩ := hone_of hone j f hj
    have hjl : j < fs.size := (Array.getElem?_eq_some_iff.1 hj).1
    have hcell := hat j hjl
    have hv : cs'[j]? = some (cs'[j]'(by omega)) := List.getElem?_eq_getElem (by omega)
    have h1 := hf j f hj
    rw [ho, hk] at h1
    have hone' : (cs'.drop j).take 1 = [cs'[j]'(by omega)] := by
      rw [List.drop_eq_getElem_cons (by omega)]
      rfl
    rw [hone'] at h1
    have hys : ys[j]? = some (ys[j]'(by omega)) := List.getElem?_eq_getElem (by omega)
    refine ⟨_, _, ?_, hys, h1.trans hys⟩
    rw [← Go.Deep.add_add, hcell, hv]
end

theorem exists_list {α : Type} (P : Nat → α → Prop) : ∀ n, (∀ i, i < n → ∃ a, P i a) → ∃ l : List α, l.length = n ∧ ∀ i a, l[i]? = some a → P i a
  | 0, _ => ⟨[], rfl, fun i a h => by simp at h⟩
  | n + 1, h => by
    obtain ⟨l, hl, hp⟩ := exists_list P n (fun i hi => h i (by omega))
    obtain ⟨a, ha⟩ := h n (by omega)
    refine ⟨l ++ [a], by simp [hl], fun i b hb => ?_⟩
    rcases Nat.lt_trichotomy i n with hi | rfl | hi
    · rw [List.getElem?_append_left (by omega)] at hb
      exact hp i b hb
    · rw [List.getElem?_append_right (by omega), hl] at hb
      simp at hb
      subst hb
      exact ha
    · rw [List.getElem?_eq_none (by simp; omega)] at hb
      cases hb
theorem spot_none {w : World} {a : Addr} {v : Value} (h : w.cell? a = some v) : a.spot = none := by
  unfold World.cell? at h
  split at h
  · split at h
    · cases h
    · rename_i hs
      cases hq : a.spot with
      | none => rfl
      | some q => rw [hq] at hs; exact absurd rfl hs
  · cases h
theorem trod_bytes {H : Type} {enc : TypeId × Value → H} {w : World} {base : Nat} {spare : Nat → Bool} {held : Bool} {t e : TypeId} {n : Nat} {v : Value} {y : DataW H × List MemPlace} (ht : Try.prog.underlying t = some (.slice e)) (he : Try.prog.underlying e = some (.int .u8)) (hc : Try.prog.cellsOf e = 1)
    (h : DataW.trod enc Try.prog w base spare held n t [v] = some y) : SlF v ∧ ∃ l : List UInt8, Sl w w.heap.size 1 l.length (fun i _ => .int .u8 ((l.getD i 0).toNat : Int)) v := by
  rcases open_slice1 ht hc h with ⟨h0, _⟩ | ⟨a, len, cap, m, k, V, D, Pl, h0, hb, hl, hcm, hm, _, hf⟩
  · obtain rfl : v = .slice none 0 0 := by simpa using h0
    exact ⟨.inl rfl, [], none, 0, rfl, Nat.zero_le _, fun i hi => by simp at hi⟩
  · obtain rfl : v = .slice (some a) len cap := by simpa using h0
    have hlm : len ≤ m := by rw [hm]; split <;> omega
    refine ⟨.inr ⟨a, len, cap, rfl, hl, hcm⟩, ?_⟩
    obtain ⟨l, hll, hp⟩ := exists_list (fun i (x : UInt8) => w.cell? (a.add i) = some (.int .u8 (x.toNat : Int))) len (fun i hi => by
      obtain ⟨e0, t0⟩ := hf i (by omega)
      obtain ⟨x, hx, hw⟩ := cell_int he t0
      obtain ⟨h1, h2⟩ := bounds_u8 hw
      refine ⟨UInt8.ofNat x.toNat, ?_⟩
      rw [e0, hx]
      simp
      omega)
    refine ⟨l, some a, cap, by rw [hll], by omega, fun i hi => ?_⟩
    have hs : a.spot = none := spot_none (hp 0 _ (List.getElem?_eq_getElem (by omega)))
    obtain ⟨b, off, sp⟩ := a
    obtain rfl : sp = none := hs
    have q := hp i _ (List.getElem?_eq_getElem hi)
    rw [add_at] at q
    refine ⟨b, off, rfl, World.block_lt_of_cell? _ _ q, fun j hj => ?_⟩
    obtain rfl : j = 0 := by omega
    dsimp only
    rw [Nat.mul_one, Nat.add_zero, List.getD_eq_getElem?_getD, List.getElem?_eq_getElem hi]
    exact q

end Go.Proofs.Ytmbifmmkccghfaa

/-
  Arguments of chapter 6's laws opened: packets, nets. No condition.
-/
namespace Go.Proofs.Ytmbifmmkccghfaa
open Go.ChangeShapes Go.WideShapes Go.ChangeAt Go.RowKit Go.Joins Go.Deep

section
variable {H : Type} {enc : TypeId × Value → H} {w : World} {base : Nat} {spare : Nat → Bool} {held : Bool}
set_option maxRecDepth 100000 in
theorem trod_data {n : Nat} {v : Value} {y : DataW H × List MemPlace} (h : DataW.trod enc Try.prog w base spare held n 43 [v] = some y) : ∃ l, BytesAt w w.heap.size v l :=
  have h9 := trod_bytes Try.underlying43 Try.underlying5 (by kernel_rfl) h
  h9.2.elim fun l hl => ⟨l, h9.1, hl⟩
set_option maxRecDepth 100000 in
theorem trod_packets {n : Nat} {v : Value} {y : DataW H × List MemPlace} (h : DataW.trod enc Try.prog w base spare held n 22 [v] = some y) : ∃ q : List Pk, PksAt w w.heap.size v q := by
  rcases open_slice_fields Try.underlying22 Try.underlying51 (by kernel_rfl) (by kernel_rfl) h with ⟨h0, _⟩ | ⟨a, len, cap, m, D, Pl, h0, hb, hl, hc, hm, _, hf⟩
  · obtain rfl : v = .slice none 0 0 := by simpa using h0
    exact ⟨[], pksAt_nil _ _⟩
  · obtain rfl : v = .slice (some a) len cap := by simpa using h0
    have hlm : len ≤ m := by rw [hm]; split <;> omega
    obtain ⟨ls, hcs, hp⟩ := exists_list (fun i (l : Value × Pk) => w.cell? (a.add (i * 3 + 0)) = some (.int .i64 l.2.src) ∧ w.cell? (a.add (i * 3 + 1)) = some (.int .i64 l.2.dst) ∧ w.cell? (a.add (i * 3 + 2)) = some l.1 ∧ BytesAt w w.heap.size l.1 l.2.data) len (fun i hi => by
      obtain ⟨ys, k, _, _, _, hj⟩ := hf i (by omega)
      obtain ⟨v0, y0, e0, _, t0⟩ := hj 0 _ rfl
      obtain ⟨v1, y1, e1, _, t1⟩ := hj 1 _ rfl
      obtain ⟨v2, y2, e2, _, t2⟩ := hj 2 _ rfl
      obtain ⟨x0, rfl, _⟩ := cell_int Try.underlying3 t0
      obtain ⟨x1, rfl, _⟩ := cell_int Try.underlying3 t1
      obtain ⟨l, hl⟩ := trod_data t2
      exact ⟨(v2, ⟨x0, x1, l⟩), e0, e1, e2, hl⟩)
    refine ⟨ls.map (·.2), .inr ⟨a, len, cap, rfl, hl, hc⟩, fun i => (ls[i]?.map (·.1)).getD undef, ⟨some a, cap, by simp [hcs], by simp; omega, fun i hi => ?_⟩, fun i l hl => ?_⟩
    · have hi : i < ls.length := by simpa using hi
      have hs : a.spot = none := by
        obtain ⟨q0, _⟩ := hp 0 _ (List.getElem?_eq_getElem (by omega))
        exact spot_none q0
      obtain ⟨b, off, sp⟩ := a
      obtain rfl : sp = none := hs
      obtain ⟨q0, q1, q2, _⟩ := hp i _ (List.getElem?_eq_getElem hi)
      rw [add_at] at q0 q1 q2
      refine ⟨b, off, rfl, World.block_lt_of_cell? _ _ q0, fun j hj => ?_⟩
      dsimp only [pkCells]
      rw [List.getD_eq_getElem?_getD, List.getElem?_map, List.getElem?_eq_getElem hi]
      rcases (show j = 0 ∨ j = 1 ∨ j = 2 by omega) with rfl | rfl | rfl
      · exact q0
      · exact q1
      · exact q2
    · rw [List.getElem?_map] at hl
      cases hq : ls[i]? with
      | none => rw [hq] at hl; cases hl
      | some q =>
        rw [hq] at hl
        cases hl
        obtain ⟨_, _, _, q3⟩ := hp i q hq
        dsimp only
        rw [hq]
        exact q3
set_option maxRecDepth 100000 in
theorem trod_links {n : Nat} {v : Value} {y : DataW H × List MemPlace} (h : DataW.trod enc Try.prog w base spare held n 23 [v] = some y) : ∃ l : List (Int × Int), LksAt w w.heap.size v l := by
  rcases open_slice Try.underlying23 h with ⟨h0, _⟩ | ⟨a, len, cap, m, k, D, Pl, h0, hb, hl, hc, hm, _, hf⟩
  · obtain rfl : v = .slice none 0 0 := by simpa using h0
    exact ⟨[], lksAt_nil _ _⟩
  · obtain rfl : v = .slice (some a) len cap := by simpa using h0
    have hlm : len ≤ m := by rw [hm]; split <;> omega
    have k2 : Try.prog.cellsOf 49 = 2 := by kernel_rfl
    rw [k2] at hf
    have k1 : Try.prog.cellsOf 3 = 1 := by kernel_rfl
    obtain ⟨ls, hcs, hp⟩ := exists_list (fun i (l : Int × Int) => w.cell? (a.add (i * 2 + 0)) = some (.int .i64 l.1) ∧ w.cell? (a.add (i * 2 + 1)) = some (.int .i64 l.2)) len (fun i hi => by
      obtain ⟨cs, h1, h2⟩ := hf i (by omega)
      obtain ⟨_, hcl, hat⟩ := World.cells?_some h1
      match cs, hcl with
      | [c0, c1], _ =>
        have q0 := hat 0 (by omega)
        have q1 := hat 1 (by omega)
        obtain ⟨zs, m, _, _, _, hzl, hgz⟩ := DataW.trod_array Try.underlying49 h2
        match zs, hzl with
        | [z0, z1], _ =>
          obtain ⟨x0, rfl, _⟩ := cell_int Try.underlying3 (show DataW.trod enc Try.prog w base spare held m 3 [c0] = some z0 by simpa [k1] using hgz 0 (by omega))
          obtain ⟨x1, rfl, _⟩ := cell_int Try.underlying3 (show DataW.trod enc Try.prog w base spare held m 3 [c1] = some z1 by simpa [k1] using hgz 1 (by omega))
          refine ⟨(x0, x1), ?_, ?_⟩
          · rw [← Go.Deep.add_add, q0]; rfl
          · rw [← Go.Deep.add_add, q1]; rfl)
    refine ⟨ls, .inr ⟨a, len, cap, rfl, hl, hc⟩, some a, cap, by rw [hcs], by omega, fun i hi => ?_⟩
    have hs : a.spot = none := by
      obtain ⟨q0, _⟩ := hp 0 _ (List.getElem?_eq_getElem (by omega))
      exact spot_none q0
    obtain ⟨b, off, sp⟩ := a
    obtain rfl : sp = none := hs
    obtain ⟨q0, q1⟩ := hp i _ (List.getElem?_eq_getElem hi)
    rw [add_at] at q0 q1
    refine ⟨b, off, rfl, World.block_lt_of_cell? _ _ q0, fun j hj => ?_⟩
    dsimp only [lkCells]
    rw [List.getD_eq_getElem?_getD, List.getElem?_eq_getElem hi]
    rcases (show j = 0 ∨ j = 1 by omega) with rfl | rfl
    · exact q0
    · exact q1
set_option maxRecDepth 100000 in
theorem open_data {r : Reach} {b0 : Nat} {v : Value} {d : DataW H} {p : List MemPlace} (hv : Value.okWide Try.prog w r b0 43 v) (h : DataW.Trod enc Try.prog w base spare held 43 v d p) : ∃ l, BytesAt w w.heap.size v l := by
  obtain ⟨A, len0, cap0, rfl⟩ := okWide_slice Try.underlying43 hv
  obtain ⟨n, h⟩ := h
  exact trod_data (show DataW.trod enc Try.prog w base spare held n 43 [.slice A len0 cap0] = some (d, p) from h)
end
end Go.Proofs.Ytmbifmmkccghfaa

/-
  Arguments of chapter 34's laws opened: boxes. No condition.
-/
namespace Go.Proofs.Ytmbifmmkccghfaa
open Go.ChangeShapes Go.WideShapes Go.ChangeAt Go.RowKit Go.Joins Go.Deep

section
variable {H : Type} {enc : TypeId × Value → H} {w : World} {base : Nat} {spare : Nat → Bool} {held : Bool}
set_option maxRecDepth 100000 in
theorem trod_heard {n : Nat} {v : Value} {y : DataW H × List MemPlace} (h : DataW.trod enc Try.prog w base spare held n 27 [v] = some y) : ∃ l : List Int, HdAt w w.heap.size v l := by
  rcases open_slice1 Try.underlying27 (by kernel_rfl) h with ⟨h0, _⟩ | ⟨a, len, cap, m, k, V, D, Pl, h0, hb, hl, hc, hm, _, hf⟩
  · obtain rfl : v = .slice none 0 0 := by simpa using h0
    exact ⟨[], .inl rfl, none, 0, rfl, Nat.zero_le _, fun i hi => by simp at hi⟩
  · obtain rfl : v = .slice (some a) len cap := by simpa using h0
    have hlm : len ≤ m := by rw [hm]; split <;> omega
    obtain ⟨l, hll, hp⟩ := exists_list (fun i (x : Int) => w.cell? (a.add i) = some (.int .i64 x)) len (fun i hi => by
      obtain ⟨e0, t0⟩ := hf i (by omega)
      obtain ⟨x, hx, _⟩ := cell_int Try.underlying3 t0
      exact ⟨x, by rw [e0, hx]⟩)
    refine ⟨l, .inr ⟨a, len, cap, rfl, hl, hc⟩, some a, cap, by rw [hll], by omega, fun i hi => ?_⟩
    have hs : a.spot = none := spot_none (hp 0 _ (List.getElem?_eq_getElem (by omega)))
    obtain ⟨b, off, sp⟩ := a
    obtain rfl : sp = none := hs
    have q := hp i _ (List.getElem?_eq_getElem hi)
    rw [add_at] at q
    refine ⟨b, off, rfl, World.block_lt_of_cell? _ _ q, fun j hj => ?_⟩
    obtain rfl : j = 0 := by omega
    dsimp only
    rw [Nat.mul_one, Nat.add_zero, List.getD_eq_getElem?_getD, List.getElem?_eq_getElem hi]
    exact q
set_option maxRecDepth 100000 in
theorem trod_fresh {n : Nat} {v : Value} {y : DataW H × List MemPlace} (h : DataW.trod enc Try.prog w base spare held n 28 [v] = some y) : ∃ l : List Bool, FrAt w w.heap.size v l := by
  rcases open_slice1 Try.underlying28 (by kernel_rfl) h with ⟨h0, _⟩ | ⟨a, len, cap, m, k, V, D, Pl, h0, hb, hl, hc, hm, _, hf⟩
  · obtain rfl : v = .slice none 0 0 := by simpa using h0
    exact ⟨[], .inl rfl, none, 0, rfl, Nat.zero_le _, fun i hi => by simp at hi⟩
  · obtain rfl : v = .slice (some a) len cap := by simpa using h0
    have hlm : len ≤ m := by rw [hm]; split <;> omega
    obtain ⟨l, hll, hp⟩ := exists_list (fun i (x : Bool) => w.cell? (a.add i) = some (.bool x)) len (fun i hi => by
      obtain ⟨e0, t0⟩ := hf i (by omega)
      obtain ⟨x, hx, _⟩ := DataW.trod_bool Try.underlying4 t0
      have hx : V i = .bool x := by simpa using hx
      exact ⟨x, by rw [e0, hx]⟩)
    refine ⟨l, .inr ⟨a, len, cap, rfl, hl, hc⟩, some a, cap, by rw [hll], by omega, fun i hi => ?_⟩
    have hs : a.spot = none := spot_none (hp 0 _ (List.getElem?_eq_getElem (by omega)))
    obtain ⟨b, off, sp⟩ := a
    obtain rfl : sp = none := hs
    have q := hp i _ (List.getElem?_eq_getElem hi)
    rw [add_at] at q
    refine ⟨b, off, rfl, World.block_lt_of_cell? _ _ q, fun j hj => ?_⟩
    obtain rfl : j = 0 := by omega
    dsimp only
    rw [Nat.mul_one, Nat.add_zero, List.getD_eq_getElem?_getD, List.getElem?_eq_getElem hi]
    exact q
set_option maxRecDepth 100000 in
theorem trod_msgs {n : Nat} {v : Value} {y : DataW H × List MemPlace} (h : DataW.trod enc Try.prog w base spare held n 26 [v] = some y) : ∃ q : List (Int × Int), LksAt w w.heap.size v q := by
  rcases open_slice_fields Try.underlying26 Try.underlying48 (by kernel_rfl) (by kernel_rfl) h with ⟨h0, _⟩ | ⟨a, len, cap, m, D, Pl, h0, hb, hl, hc, hm, _, hf⟩
  · obtain rfl : v = .slice none 0 0 := by simpa using h0
    exact ⟨[], lksAt_nil _ _⟩
  · obtain rfl : v = .slice (some a) len cap := by simpa using h0
    have hlm : len ≤ m := by rw [hm]; split <;> omega
    obtain ⟨ls, hcs, hp⟩ := exists_list (fun i (l : Int × Int) => w.cell? (a.add (i * 2 + 0)) = some (.int .i64 l.1) ∧ w.cell? (a.add (i * 2 + 1)) = some (.int .i64 l.2)) len (fun i hi => by
      obtain ⟨ys, k, _, _, _, hj⟩ := hf i (by omega)
      obtain ⟨v0, y0, e0, _, t0⟩ := hj 0 _ rfl
      obtain ⟨v1, y1, e1, _, t1⟩ := hj 1 _ rfl
      obtain ⟨x0, rfl, _⟩ := cell_int Try.underlying3 t0
      obtain ⟨x1, rfl, _⟩ := cell_int Try.underlying3 t1
      exact ⟨(x0, x1), e0, e1⟩)
    refine ⟨ls, .inr ⟨a, len, cap, rfl, hl, hc⟩, some a, cap, by rw [hcs], by omega, fun i hi => ?_⟩
    have hs : a.spot = none := by
      obtain ⟨q0, _⟩ := hp 0 _ (List.getElem?_eq_getElem (by omega))
      exact spot_none q0
    obtain ⟨b, off, sp⟩ := a
    obtain rfl : sp = none := hs
    obtain ⟨q0, q1⟩ := hp i _ (List.getElem?_eq_getElem hi)
    rw [add_at] at q0 q1
    refine ⟨b, off, rfl, World.block_lt_of_cell? _ _ q0, fun j hj => ?_⟩
    dsimp only [lkCells]
    rw [List.getD_eq_getElem?_getD, List.getElem?_eq_getElem hi]
    rcases (show j = 0 ∨ j = 1 by omega) with rfl | rfl
    · exact q0
    · exact q1
set_option maxRecDepth 100000 in
theorem open_box {r : Reach} {b0 : Nat} {v : Value} {d : DataW H} {p : List MemPlace} (hv : Value.okWide Try.prog w r b0 30 v) (h : DataW.Trod enc Try.prog w base spare held 30 v d p) : ∃ (b : Bx) (Vq Va Vs Vh Vf : Value), v = .agg #[Vq, Va, Vs, Vh, Vf] ∧ BxAt w w.heap.size Vq Va Vs Vh Vf b := by
  obtain ⟨cs, rfl, hsz⟩ := okWide_struct Try.underlying30 hv
  obtain ⟨l⟩ := cs
  have hC : Try.prog.cellsOf 30 = 5 := by kernel_rfl
  match l, hsz.trans hC with
  | [c0, c1, c2, c3, c4], _ =>
    obtain ⟨fuel, hf⟩ := h
    obtain ⟨xs, n, _, hx, _, hlen, hg⟩ := DataW.trod_struct Try.underlying30 hf
    have k0 : Try.prog.cellsOf 25 = 2 := by kernel_rfl
    have k1 : Try.prog.cellsOf 22 = 1 := by kernel_rfl
    have k2 : Try.prog.cellsOf 23 = 1 := by kernel_rfl
    have k3 : Try.prog.cellsOf 26 = 1 := by kernel_rfl
    have k4 : Try.prog.cellsOf 27 = 1 := by kernel_rfl
    have k5 : Try.prog.cellsOf 28 = 1 := by kernel_rfl
    match xs, hlen with
    | [y0, y1, y2, y3], _ =>
      obtain ⟨ys, n', _, hy, _, hlen', hg'⟩ := DataW.trod_struct Try.underlying25 (show DataW.trod enc Try.prog w base spare held n 25 [c0, c1] = some y0 by simpa [Value.cells, k0, k3, k4, k5] using hg 0 _ rfl)
      obtain ⟨s, hs⟩ := trod_msgs (show DataW.trod enc Try.prog w base spare held n 26 [c2] = some y1 by simpa [Value.cells, k0, k3, k4, k5] using hg 1 _ rfl)
      obtain ⟨hd, hh⟩ := trod_heard (show DataW.trod enc Try.prog w base spare held n 27 [c3] = some y2 by simpa [Value.cells, k0, k3, k4, k5] using hg 2 _ rfl)
      obtain ⟨fr, hfr⟩ := trod_fresh (show DataW.trod enc Try.prog w base spare held n 28 [c4] = some y3 by simpa [Value.cells, k0, k3, k4, k5] using hg 3 _ rfl)
      match ys, hlen' with
      | [z0, z1], _ =>
        obtain ⟨q, hq⟩ := trod_packets (show DataW.trod enc Try.prog w base spare held n' 22 [c0] = some z0 by simpa [Value.cells, k1, k2] using hg' 0 _ rfl)
        obtain ⟨l, hl⟩ := trod_links (show DataW.trod enc Try.prog w base spare held n' 23 [c1] = some z1 by simpa [Value.cells, k1, k2] using hg' 1 _ rfl)
        exact ⟨⟨⟨q, l⟩, s, hd, fr⟩, c0, c1, c2, c3, c4, rfl, ⟨⟨hq, hl⟩, hs, hh, hfr⟩⟩
end
end Go.Proofs.Ytmbifmmkccghfaa
