/- Arguments that are slices of structs, opened; small words for it. No condition. The theorem open_slice_fields stands in the kit's howto/extra-structs.md, to be copied. -/
import Derived.Test.YthlidhfahaalgaaQK
import Derived.WalkKit
import Derived.ProofKit
import Derived.OpenShut
import Derived.ChangeOld
import Derived.Below
import Derived.Lib.SmallJoins
import Derived.Deep.Slices
import Derived.Deep.Fields
import Derived.ChangeSame
import Derived.Test.YthlidhfahaalgaaQJM
import Derived.SizedLaws
import Derived.Test.YthlidhfahaalgaaQJB
import Derived.Test.YthlidhfahaalgaaRows
set_option linter.unusedVariables false
set_option linter.unusedSimpArgs false
namespace Go.Proofs.Ythlidhfahaalgaa
open Go.ChangeShapes Go.WideShapes Go.ChangeAt Go.RowKit Go.Joins Go.Deep
theorem cell_int {H : Type} {enc : TypeId × Value → H} {P : Program} {w : World} {base : Nat} {spare : Nat → Bool} {held : Bool} {t : TypeId} {k : IntKind} {n : Nat} {v : Value} {y : DataW H × List MemPlace}
    (ht : P.underlying t = some (.int k)) (h : DataW.trod enc P w base spare held n t [v] = some y) : ∃ x : Int, v = .int k x ∧ (Lit.int k x).wf = true := by
  obtain ⟨x, hx, _, hw⟩ := DataW.trod_int ht h
  exact ⟨x, by simpa using hx, hw⟩
section
variable {H : Type} {enc : TypeId × Value → H} {P : Program} {w : World} {base : Nat} {spare : Nat → Bool} {held : Bool}
theorem open_slice_fields {t e : TypeId} {fs : Array Field} {fuel : Nat} {cs : List Value} {x : DataW H × List MemPlace} (ht : P.underlying t = some (.slice e)) (he : P.underlying e = some (.struct fs))
    (hone : oneCellFields P fs = true) (hC : P.cellsOf e = fs.size) (h : DataW.trod enc P w base spare held fuel t cs = some x) :
    (cs = [.slice none 0 0] ∧ x = (.nil, [])) ∨
    ∃ (a : Addr) (len cap m : Nat) (D : Nat → DataW H) (Pl : Nat → List MemPlace), cs = [.slice (some a) len cap] ∧ base ≤ a.block ∧ len ≤ cap ∧ cap ≤ maxLen ∧ m = (if spare a.block then cap else len) ∧
      x = (.slice ((List.range len).map D) ((List.range (m - len)).map fun j => D (len + j)), MemPlace.row a (m * fs.size) ++ (List.range m).flatMap Pl) ∧
      ∀ i, i < m → ∃ (ys : List (DataW H × List MemPlace)) (n : Nat), D i = .agg (ys.map (·.1)) ∧ Pl i = ys.flatMap (·.2) ∧ ys.length = fs.size ∧
        ∀ (j : Nat) (f : Field), fs[j]? = some f → ∃ (v : Value) (y : DataW H × List MemPlace), w.cell? (a.add (i * fs.size + j)) = some v ∧ ys[j]? = some y ∧ DataW.trod enc P w base spare held n f.type [v] = some y := by
  rcases open_slice ht h with h0 | ⟨a, len, cap, m, n, D, Pl, hcs, hb, hl, hm, hmm, hx, hi⟩
  · exact .inl h0
  · refine .inr ⟨a, len, cap, m, D, Pl, hcs, hb, hl, hm, hmm, by rw [hC] at hx; exact hx, fun i him => ?_⟩
    obtain ⟨cs', hc, ht'⟩ := hi i him
    rw [hC] at hc
    obtain ⟨ys, n', hn', hy, hlen, hyl, hf⟩ := DataW.trod_struct he ht'
    obtain ⟨_, hcl, hat⟩ := World.cells?_some hc
    simp only [Prod.mk.injEq] at hy
    refine ⟨ys, n', hy.1, hy.2, hyl, fun j f hj => ?_⟩
    obtain ⟨ho, hk⟩ := hone_of hone j f hj
    have hjl : j < fs.size := (Array.getElem?_eq_some_iff.1 hj).1
    have hcell := hat j hjl
    have hv : cs'[j]? = some (cs'[j]'(by omega)) := List.getElem?_eq_getElem (by omega)
    have h1 := hf j f hj
    rw [ho, hk] at h1
    have hone' : (cs'.drop j).take 1 = [cs'[j]'(by omega)] := by
      rw [List.drop_eq_getElem_cons (by omega)]
      rfl
    rw [hone'] at h1
    have hys : ys[j]? = some (ys[j]'(by omega)) := List.getElem?_eq_getElem (by omega)
    refine ⟨_, _, ?_, hys, h1.trans hys⟩
    rw [← Go.Deep.add_add, hcell, hv]
end
theorem exists_list {α : Type} (P : Nat → α → Prop) : ∀ n, (∀ i, i < n → ∃ a, P i a) → ∃ l : List α, l.length = n ∧ ∀ i a, l[i]? = some a → P i a
  | 0, _ => ⟨[], rfl, fun i a h => by simp at h⟩
  | n + 1, h => by
    obtain ⟨l, hl, hp⟩ := exists_list P n (fun i hi => h i (by omega))
    obtain ⟨a, ha⟩ := h n (by omega)
    refine ⟨l ++ [a], by simp [hl], fun i b hb => ?_⟩
    rcases Nat.lt_trichotomy i n with hi | rfl | hi
    · rw [List.getElem?_append_left (by omega)] at hb
      exact hp i b hb
    · rw [List.getElem?_append_right (by omega), hl] at hb
      simp at hb
      subst hb
      exact ha
    · rw [List.getElem?_eq_none (by simp; omega)] at hb
      cases hb
theorem spot_none {w : World} {a : Addr} {v : Value} (h : w.cell? a = some v) : a.spot = none := by
  unfold World.cell? at h
  split at h
  · split at h
    · cases h
    · rename_i hs
      cases hq : a.spot with
      | none => rfl
      | some q => rw [hq] at hs; exact absurd rfl hs
  · cases h
theorem trod_bytes {H : Type} {enc : TypeId × Value → H} {w : World} {base : Nat} {spare : Nat → Bool} {held : Bool} {t e : TypeId} {n : Nat} {v : Value} {y : DataW H × List MemPlace} (ht : Try.prog.underlying t = some (.slice e)) (he : Try.prog.underlying e = some (.int .u8)) (hc : Try.prog.cellsOf e = 1)
    (h : DataW.trod enc Try.prog w base spare held n t [v] = some y) : SlF v ∧ ∃ l : List UInt8, Sl w w.heap.size 1 l.length (fun i _ => .int .u8 ((l.getD i 0).toNat : Int)) v := by
  rcases open_slice1 ht hc h with ⟨h0, _⟩ | ⟨a, len, cap, m, k, V, D, Pl, h0, hb, hl, hcm, hm, _, hf⟩
  · obtain rfl : v = .slice none 0 0 := by simpa using h0
    exact ⟨.inl rfl, [], none, 0, rfl, Nat.zero_le _, fun i hi => by simp at hi⟩
  · obtain rfl : v = .slice (some a) len cap := by simpa using h0
    have hlm : len ≤ m := by rw [hm]; split <;> omega
    refine ⟨.inr ⟨a, len, cap, rfl, hl, hcm⟩, ?_⟩
    obtain ⟨l, hll, hp⟩ := exists_list (fun i (x : UInt8) => w.cell? (a.add i) = some (.int .u8 (x.toNat : Int))) len (fun i hi => by
      obtain ⟨e0, t0⟩ := hf i (by omega)
      obtain ⟨x, hx, hw⟩ := cell_int he t0
      obtain ⟨h1, h2⟩ := bounds_u8 hw
      refine ⟨UInt8.ofNat x.toNat, ?_⟩
      rw [e0, hx]
      simp
      omega)
    refine ⟨l, some a, cap, by rw [hll], by omega, fun i hi => ?_⟩
    have hs : a.spot = none := spot_none (hp 0 _ (List.getElem?_eq_getElem (by omega)))
    obtain ⟨b, off, sp⟩ := a
    obtain rfl : sp = none := hs
    have q := hp i _ (List.getElem?_eq_getElem hi)
    rw [add_at] at q
    refine ⟨b, off, rfl, World.block_lt_of_cell? _ _ q, fun j hj => ?_⟩
    obtain rfl : j = 0 := by omega
    dsimp only
    rw [Nat.mul_one, Nat.add_zero, List.getD_eq_getElem?_getD, List.getElem?_eq_getElem hi]
    exact q
end Go.Proofs.Ythlidhfahaalgaa
namespace Go.Proofs.Ythlidhfahaalgaa
open Go.ChangeShapes Go.WideShapes Go.ChangeAt Go.RowKit Go.Joins Go.Deep
abbrev Live (w : World) : Nat → Prop := fun b => b < w.heap.size
section
variable {H : Type} {enc : TypeId × Value → H} {w : World} {base : Nat} {spare : Nat → Bool} {held : Bool}
end
end Go.Proofs.Ythlidhfahaalgaa
namespace Go.Proofs.Ythlidhfahaalgaa
open Go.ChangeShapes Go.WideShapes Go.ChangeAt Go.RowKit Go.Joins Go.Deep
section
variable {H : Type} {enc : TypeId × Value → H} {w : World} {base : Nat} {spare : Nat → Bool} {held : Bool}
theorem bulk_pos (d : DataW H) : 1 ≤ Rows.uptoBulk d := by
  cases d with
  | lit l => cases l <;> simp [Rows.uptoBulk]
  | _ => simp [Rows.uptoBulk]
theorem bulk_count (l : List (DataW H)) : l.length ≤ Rows.uptoBulkAll l := by
  induction l with
  | nil => simp [Rows.uptoBulkAll]
  | cons x r ih => have := bulk_pos x; simp only [Rows.uptoBulkAll, List.length_cons]; omega
theorem bulk_by {n : Nat} {v : Value} {y : DataW H × List MemPlace} (h : DataW.trod enc Try.prog w base spare held n 35 [v] = some y) : ∃ l : Bs, BsAt w (Live w) v l ∧ l.length + 1 ≤ Rows.uptoBulk y.1 := by
  obtain ⟨hf, l, hs⟩ := trod_bytes Try.underlying35 Try.underlying5 (by kernel_rfl) h
  refine ⟨l, ⟨hf, hs.slp (Nat.le_refl _)⟩, ?_⟩
  rcases open_slice1 Try.underlying35 (by kernel_rfl) h with ⟨h0, hx⟩ | ⟨a, len, cap, m, k, V, D, Pl, h0, hb, hl, hcm, hm, hx, _⟩
  · obtain rfl : v = .slice none 0 0 := by simpa using h0
    have := hs.none_zero.2
    subst hx
    simp [Rows.uptoBulk, this]
  · obtain rfl : v = .slice (some a) len cap := by simpa using h0
    have hl2 : len = l.length := (hs.src (by decide)).1
    subst hx
    have := bulk_count ((List.range len).map D)
    simp only [List.length_map, List.length_range] at this
    simp only [Rows.uptoBulk]
    omega
theorem sumB_map (ls : List Bs) : sumB ls = (ls.map fun x => x.length + 1).sum := by
  induction ls with
  | nil => rfl
  | cons x l ih => simp only [sumB, List.foldr_cons, List.map_cons, List.sum_cons] at ih ⊢; omega
theorem sum_range (ls : List Bs) : (ls.map fun x => x.length + 1).sum ≤ ((List.range ls.length).map fun i => (ls.getD i []).length + 1).sum := by
  have : ls.map (fun x => x.length + 1) = (List.range ls.length).map fun i => (ls.getD i []).length + 1 := by
    refine List.ext_getElem (by simp) fun i h1 h2 => ?_
    simp only [List.length_map] at h1
    simp [h1]
  rw [this]
  exact Nat.le_refl _
theorem bulk_rows {n : Nat} {v : Value} {y : DataW H × List MemPlace} (h : DataW.trod enc Try.prog w base spare held n 22 [v] = some y) : ∃ l : List Bs, RwAt w (Live w) v l ∧ sumB l + 1 ≤ Rows.uptoBulk y.1 := by
  rcases open_slice1 Try.underlying22 (by kernel_rfl) h with ⟨h0, hx⟩ | ⟨a, len, cap, m, k, V, D, Pl, h0, hb, hl, hcm, hm, hx, hf⟩
  · obtain rfl : v = .slice none 0 0 := by simpa using h0
    subst hx
    exact ⟨[], rwAt_nil _ _, by simp [Rows.uptoBulk, sumB]⟩
  · obtain rfl : v = .slice (some a) len cap := by simpa using h0
    have hlm : len ≤ m := by rw [hm]; split <;> omega
    obtain ⟨ls, hcs, hp⟩ := exists_list (fun i (l : Bs) => w.cell? (a.add i) = some (V i) ∧ BsAt w (Live w) (V i) l ∧ l.length + 1 ≤ Rows.uptoBulk (D i)) len (fun i hi => by
      obtain ⟨e0, t0⟩ := hf i (by omega)
      obtain ⟨l, hl, hfit⟩ := bulk_by t0
      exact ⟨l, e0, hl, hfit⟩)
    refine ⟨ls, ⟨.inr ⟨a, len, cap, rfl, hl, hcm⟩, V, ⟨some a, cap, by rw [hcs], by omega, fun i hi => ?_⟩, fun i x hx => (hp i x hx).2.1⟩, ?_⟩
    · have hs : a.spot = none := by
        obtain ⟨q0, _⟩ := hp 0 _ (List.getElem?_eq_getElem (by omega))
        exact spot_none q0
      obtain ⟨b, off, sp⟩ := a
      obtain rfl : sp = none := hs
      obtain ⟨q0, _⟩ := hp i _ (List.getElem?_eq_getElem hi)
      rw [add_at] at q0
      refine ⟨b, off, rfl, World.block_lt_of_cell? _ _ q0, World.block_lt_of_cell? _ _ q0, fun j hj => ?_⟩
      obtain rfl : j = 0 := by omega
      rw [Nat.mul_one, Nat.add_zero]
      exact q0
    · subst hx
      have h1 := sum_range ls
      rw [← sumB_map, hcs] at h1
      have h2 : ∀ (q : List Nat), (∀ i ∈ q, i < len) → (q.map fun i => (ls.getD i []).length + 1).sum ≤ Rows.uptoBulkAll (q.map D) := by
        intro q
        induction q with
        | nil => intro _; simp [Rows.uptoBulkAll]
        | cons x q ih =>
          intro hq
          have hx := hq x List.mem_cons_self
          have h3 := (hp x _ (List.getElem?_eq_getElem (by omega))).2.2
          have h4 := ih fun i hi => hq i (List.mem_cons_of_mem _ hi)
          have e : ls.getD x [] = ls[x]'(by omega) := by rw [List.getD_eq_getElem?_getD, List.getElem?_eq_getElem]; rfl
          simp only [List.map_cons, List.sum_cons, Rows.uptoBulkAll]
          rw [e]
          omega
      have h3 := h2 (List.range len) fun i hi => List.mem_range.1 hi
      simp only [Rows.uptoBulk]
      omega
theorem open_rows {r : Reach} {b0 : Nat} {v : Value} {d : DataW H} {p : List MemPlace} (hv : Value.okWide Try.prog w r b0 22 v) (h : DataW.Trod enc Try.prog w base spare held 22 v d p) : ∃ l, RwAt w (Live w) v l ∧ sumB l + 1 ≤ Rows.uptoBulk d := by
  obtain ⟨A, len0, cap0, rfl⟩ := okWide_slice Try.underlying22 hv
  obtain ⟨n, h⟩ := h
  exact bulk_rows (show DataW.trod enc Try.prog w base spare held n 22 [.slice A len0 cap0] = some (d, p) from h)
end
end Go.Proofs.Ythlidhfahaalgaa
