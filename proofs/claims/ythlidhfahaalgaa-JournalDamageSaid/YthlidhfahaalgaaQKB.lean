/-
  Arguments that are slices of structs, opened; small words for it. No condition.
  The theorem open_slice_fields stands in the kit's howto/extra-structs.md, to be copied.
-/
import Derived.Test.YthlidhfahaalgaaQK
import Derived.WalkKit
import Derived.ProofKit
import Derived.OpenShut
import Derived.ChangeOld
import Derived.Below
import Derived.Lib.SmallJoins
import Derived.Deep.Slices
import Derived.Deep.Fields
import Derived.ChangeSame
import Derived.Test.YthlidhfahaalgaaQDV
import Derived.SizedLaws
namespace Go.Proofs.Ythlidhfahaalgaa
open Go.ChangeShapes Go.WideShapes Go.ChangeAt Go.RowKit Go.Joins Go.Deep

theorem cell_int {H : Type} {enc : TypeId × Value → H} {P : Program} {w : World} {base : Nat} {spare : Nat → Bool} {held : Bool} {t : TypeId} {k : IntKind} {n : Nat} {v : Value} {y : DataW H × List MemPlace}
    (ht : P.underlying t = some (.int k)) (h : DataW.trod enc P w base spare held n t [v] = some y) : ∃ x : Int, v = .int k x ∧ (Lit.int k x).wf = true := by
  obtain ⟨x, hx, _, hw⟩ := DataW.trod_int ht h
  exact ⟨x, by simpa using hx, hw⟩
section
variable {H : Type} {enc : TypeId × Value → H} {P : Program} {w : World} {base : Nat} {spare : Nat → Bool} {held : Bool}
theorem open_slice_fields {t e : TypeId} {fs : Array Field} {fuel : Nat} {cs : List Value} {x : DataW H × List MemPlace} (ht : P.underlying t = some (.slice e)) (he : P.underlying e = some (.struct fs))
    (hone : oneCellFields P fs = true) (hC : P.cellsOf e = fs.size) (h : DataW.trod enc P w base spare held fuel t cs = some x) :
    (cs = [.slice none 0 0] ∧ x = (.nil, [])) ∨
    ∃ (a : Addr) (len cap m : Nat) (D : Nat → DataW H) (Pl : Nat → List MemPlace), cs = [.slice (some a) len cap] ∧ base ≤ a.block ∧ len ≤ cap ∧ cap ≤ maxLen ∧ m = (if spare a.block then cap else len) ∧
      x = (.slice ((List.range len).map D) ((List.range (m - len)).map fun j => D (len + j)), MemPlace.row a (m * fs.size) ++ (List.range m).flatMap Pl) ∧
      ∀ i, i < m → ∃ (ys : List (DataW H × List MemPlace)) (n : Nat), D i = .agg (ys.map (·.1)) ∧ Pl i = ys.flatMap (·.2) ∧ ys.length = fs.size ∧
        ∀ (j : Nat) (f : Field), fs[j]? = some f → ∃ (v : Value) (y : DataW H × List MemPlace), w.cell? (a.add (i * fs.size + j)) = some v ∧ ys[j]? = some y ∧ DataW.trod enc P w base spare held n f.type [v] = some y := by
  rcases open_slice ht h with h0 | ⟨a, len, cap, m, n, D, Pl, hcs, hb, hl, hm, hmm, hx, hi⟩
  · exact .inl h0
  · refine .inr ⟨a, len, cap, m, D, Pl, hcs, hb, hl, hm, hmm, by rw [hC] at hx; exact hx, fun i him => ?_⟩
    obtain ⟨cs', hc, ht'⟩ := hi i him
    rw [hC] at hc
    obtain ⟨ys, n', hn', hy, hlen, hyl, hf⟩ := DataW.trod_struct he ht'
    obtain ⟨_, hcl, hat⟩ := World.cells?_some hc
    simp only [Prod.mk.injEq] at hy
    refine ⟨ys, n', hy.1, hy.2, hyl, fun j f hj => ?_⟩
    obtain ⟨ho, hk⟩ := hone_of hone j f hj
    have hjl : j < fs.size := (Array.getElem?_eq_some_iff.1 hj).1
    have hcell := hat j hjl
    have hv : cs'[j]? = some (cs'[j]'(by omega)) := List.getElem?_eq_getElem (by omega)
    have h1 := hf j f hj
    rw [ho, hk] at h1
    have hone' : (cs'.drop j).take 1 = [cs'[j]'(by omega)] := by
      rw [List.drop_eq_getElem_cons (by omega)]
      rfl
    rw [hone'] at h1
    have hys : ys[j]? = some (ys[j]'(by omega)) := List.getElem?_eq_getElem (by omega)
    refine ⟨_, _, ?_, hys, h1.trans hys⟩
    rw [← Go.Deep.add_add, hcell, hv]
end

theorem exists_list {α : Type} (P : Nat → α → Prop) : ∀ n, (∀ i, i < n → ∃ a, P i a) → ∃ l : List α, l.length = n ∧ ∀ i a, l[i]? = some a → P i a
  | 0, _ => ⟨[], rfl, fun i a h => by simp at h⟩
  | n + 1, h => by
    obtain ⟨l, hl, hp⟩ := exists_list P n (fun i hi => h i (by omega))
    obtain ⟨a, ha⟩ := h n (by omega)
    refine ⟨l ++ [a], by simp [hl], fun i b hb => ?_⟩
    rcases Nat.lt_trichotomy i n with hi | rfl | hi
    · rw [List.getElem?_append_left (by omega)] at hb
      exact hp i b hb
    · rw [List.getElem?_append_right (by omega), hl] at hb
      simp at hb
      subst hb
      exact ha
    · rw [List.getElem?_eq_none (by simp; omega)] at hb
      cases hb
theorem spot_none {w : World} {a : Addr} {v : Value} (h : w.cell? a = some v) : a.spot = none := by
  unfold World.cell? at h
  split at h
  · split at h
    · cases h
    · rename_i hs
      cases hq : a.spot with
      | none => rfl
      | some q => rw [hq] at hs; exact absurd rfl hs
  · cases h
/-- A slice of bytes is read. -/
theorem trod_bytes {H : Type} {enc : TypeId × Value → H} {w : World} {base : Nat} {spare : Nat → Bool} {held : Bool} {t e : TypeId} {n : Nat} {v : Value} {y : DataW H × List MemPlace} (ht : Try.prog.underlying t = some (.slice e)) (he : Try.prog.underlying e = some (.int .u8)) (hc : Try.prog.cellsOf e = 1)
    (h : DataW.trod enc Try.prog w base spare held n t [v] = some y) : SlF v ∧ ∃ l : List UInt8, Sl w w.heap.size 1 l.length (fun i _ => .int .u8 ((l.getD i 0).toNat : Int)) v := by
  rcases open_slice1 ht hc h with ⟨h0, _⟩ | ⟨a, len, cap, m, k, V, D, Pl, h0, hb, hl, hcm, hm, _, hf⟩
  · obtain rfl : v = .slice none 0 0 := by simpa using h0
    exact ⟨.inl rfl, [], none, 0, rfl, Nat.zero_le _, fun i hi => by simp at hi⟩
  · obtain rfl : v = .slice (some a) len cap := by simpa using h0
    have hlm : len ≤ m := by rw [hm]; split <;> omega
    refine ⟨.inr ⟨a, len, cap, rfl, hl, hcm⟩, ?_⟩
    obtain ⟨l, hll, hp⟩ := exists_list (fun i (x : UInt8) => w.cell? (a.add i) = some (.int .u8 (x.toNat : Int))) len (fun i hi => by
      obtain ⟨e0, t0⟩ := hf i (by omega)
      obtain ⟨x, hx, hw⟩ := cell_int he t0
      obtain ⟨h1, h2⟩ := bounds_u8 hw
      refine ⟨UInt8.ofNat x.toNat, ?_⟩
      rw [e0, hx]
      simp
      omega)
    refine ⟨l, some a, cap, by rw [hll], by omega, fun i hi => ?_⟩
    have hs : a.spot = none := spot_none (hp 0 _ (List.getElem?_eq_getElem (by omega)))
    obtain ⟨b, off, sp⟩ := a
    obtain rfl : sp = none := hs
    have q := hp i _ (List.getElem?_eq_getElem hi)
    rw [add_at] at q
    refine ⟨b, off, rfl, World.block_lt_of_cell? _ _ q, fun j hj => ?_⟩
    obtain rfl : j = 0 := by omega
    dsimp only
    rw [Nat.mul_one, Nat.add_zero, List.getD_eq_getElem?_getD, List.getElem?_eq_getElem hi]
    exact q

end Go.Proofs.Ythlidhfahaalgaa

/-
  Arguments of chapter 4's laws opened: bytes, rows, writes, disks. No condition.
-/
namespace Go.Proofs.Ythlidhfahaalgaa
open Go.ChangeShapes Go.WideShapes Go.ChangeAt Go.RowKit Go.Joins Go.Deep

abbrev Live (w : World) : Nat → Prop := fun b => b < w.heap.size
section
variable {H : Type} {enc : TypeId × Value → H} {w : World} {base : Nat} {spare : Nat → Bool} {held : Bool}
/-- No slice of the datum weighs more than the reach. -/
def Fits (t : TypeId) (d : DataW H) : Prop := ∀ k ∈ d.weights Try.prog t, k ≤ reachBytes
theorem weights_all {e : TypeId} {d : DataW H} {l : List (DataW H)} (h : d ∈ l) {k : Nat} (hk : k ∈ d.weights Try.prog e) : k ∈ DataW.weightsAll Try.prog e l := by
  induction l with
  | nil => cases h
  | cons x l ih =>
    rw [DataW.weightsAll, List.mem_append]
    rcases List.mem_cons.1 h with rfl | h
    · exact .inl hk
    · exact .inr (ih h)
theorem fits_elem {t e : TypeId} {el sp : List (DataW H)} (hu : Try.prog.underlying t = some (.slice e)) (hf : Fits t (.slice el sp)) {d : DataW H} (hd : d ∈ el) : Fits e d := by
  intro k hk
  refine hf k ?_
  rw [DataW.weights, hu]
  exact List.mem_cons_of_mem _ (List.mem_append_left _ (weights_all hd hk))
theorem fits_len {t e : TypeId} {el sp : List (DataW H)} (hu : Try.prog.underlying t = some (.slice e)) (hf : Fits t (.slice el sp)) : (el.length + sp.length) * Try.prog.bytesOf e ≤ reachBytes := by
  refine hf _ ?_
  rw [DataW.weights, hu]
  exact List.mem_cons_self
theorem fits_field {t : TypeId} {fs : Array Field} {parts : List (DataW H)} (hu : Try.prog.underlying t = some (.struct fs)) (hf : Fits t (.agg parts)) {j : Nat} {f : Field} {d : DataW H} (hj : fs[j]? = some f) (hd : parts[j]? = some d) : Fits f.type d := by
  intro k hk
  refine hf k ?_
  rw [DataW.weights, hu]
  exact DataW.weights_mem_each (j := j) (by rw [List.getElem?_map, Array.getElem?_toList, hj]; rfl) hd k hk
theorem bytes_u8 : Try.prog.bytesOf 5 = 1 := by kernel_rfl
theorem trod_by {n : Nat} {v : Value} {y : DataW H × List MemPlace} (h : DataW.trod enc Try.prog w base spare held n 35 [v] = some y) : ∃ l : Bs, BsAt w (Live w) v l ∧ (Fits 35 y.1 → l.length ≤ reachBytes) := by
  obtain ⟨hf, l, hs⟩ := trod_bytes Try.underlying35 Try.underlying5 (by kernel_rfl) h
  refine ⟨l, ⟨hf, hs.slp (Nat.le_refl _)⟩, fun hfit => ?_⟩
  rcases open_slice1 Try.underlying35 (by kernel_rfl) h with ⟨h0, _⟩ | ⟨a, len, cap, m, k, V, D, Pl, h0, hb, hl, hcm, hm, hx, _⟩
  · obtain rfl : v = .slice none 0 0 := by simpa using h0
    have := hs.none_zero.2
    omega
  · obtain rfl : v = .slice (some a) len cap := by simpa using h0
    have hl2 : len = l.length := (hs.src (by decide)).1
    subst hx
    have := fits_len Try.underlying35 hfit
    rw [bytes_u8, Nat.mul_one] at this
    simp only [List.length_map, List.length_range] at this
    omega
theorem trod_rows {n : Nat} {v : Value} {y : DataW H × List MemPlace} (h : DataW.trod enc Try.prog w base spare held n 22 [v] = some y) : ∃ l : List Bs, RwAt w (Live w) v l ∧ (Fits 22 y.1 → ∀ x ∈ l, x.length ≤ reachBytes) := by
  rcases open_slice1 Try.underlying22 (by kernel_rfl) h with ⟨h0, _⟩ | ⟨a, len, cap, m, k, V, D, Pl, h0, hb, hl, hcm, hm, hx, hf⟩
  · obtain rfl : v = .slice none 0 0 := by simpa using h0
    exact ⟨[], rwAt_nil _ _, fun _ x hx => by cases hx⟩
  · obtain rfl : v = .slice (some a) len cap := by simpa using h0
    have hlm : len ≤ m := by rw [hm]; split <;> omega
    obtain ⟨ls, hcs, hp⟩ := exists_list (fun i (l : Bs) => w.cell? (a.add i) = some (V i) ∧ BsAt w (Live w) (V i) l ∧ (Fits 35 (D i) → l.length ≤ reachBytes)) len (fun i hi => by
      obtain ⟨e0, t0⟩ := hf i (by omega)
      obtain ⟨l, hl, hfit⟩ := trod_by t0
      exact ⟨l, e0, hl, hfit⟩)
    refine ⟨ls, ⟨.inr ⟨a, len, cap, rfl, hl, hcm⟩, V, ⟨some a, cap, by rw [hcs], by omega, fun i hi => ?_⟩, fun i x hx => (hp i x hx).2.1⟩, fun hfit x hx' => ?_⟩
    · have hs : a.spot = none := by
        obtain ⟨q0, _⟩ := hp 0 _ (List.getElem?_eq_getElem (by omega))
        exact spot_none q0
      obtain ⟨b, off, sp⟩ := a
      obtain rfl : sp = none := hs
      obtain ⟨q0, _⟩ := hp i _ (List.getElem?_eq_getElem hi)
      rw [add_at] at q0
      refine ⟨b, off, rfl, World.block_lt_of_cell? _ _ q0, World.block_lt_of_cell? _ _ q0, fun j hj => ?_⟩
      obtain rfl : j = 0 := by omega
      rw [Nat.mul_one, Nat.add_zero]
      exact q0
    · obtain ⟨i, hi, rfl⟩ := List.getElem_of_mem hx'
      refine (hp i _ (List.getElem?_eq_getElem hi)).2.2 ?_
      subst hx
      exact fits_elem Try.underlying22 hfit (List.mem_map.2 ⟨i, List.mem_range.2 (by omega), rfl⟩)
theorem trod_wrs {n : Nat} {v : Value} {y : DataW H × List MemPlace} (h : DataW.trod enc Try.prog w base spare held n 23 [v] = some y) : ∃ q : List Wr, WsAt w (Live w) v q ∧ (Fits 23 y.1 → ∀ x ∈ q, x.data.length ≤ reachBytes) := by
  rcases open_slice_fields Try.underlying23 Try.underlying76 (by kernel_rfl) (by kernel_rfl) h with ⟨h0, _⟩ | ⟨a, len, cap, m, D, Pl, h0, hb, hl, hc, hm, hx, hf⟩
  · obtain rfl : v = .slice none 0 0 := by simpa using h0
    exact ⟨[], wsAt_nil _ _, fun _ x hx => by cases hx⟩
  · obtain rfl : v = .slice (some a) len cap := by simpa using h0
    have hlm : len ≤ m := by rw [hm]; split <;> omega
    obtain ⟨ls, hcs, hp⟩ := exists_list (fun i (l : Value × Wr) => w.cell? (a.add (i * 2 + 0)) = some (.int .i64 l.2.at') ∧ w.cell? (a.add (i * 2 + 1)) = some l.1 ∧ BsAt w (Live w) l.1 l.2.data ∧ (Fits 76 (D i) → l.2.data.length ≤ reachBytes)) len (fun i hi => by
      obtain ⟨ys, k, hD, _, _, hj⟩ := hf i (by omega)
      obtain ⟨v0, y0, e0, _, t0⟩ := hj 0 _ rfl
      obtain ⟨v1, y1, e1, g1, t1⟩ := hj 1 _ rfl
      obtain ⟨x0, rfl, _⟩ := cell_int Try.underlying3 t0
      obtain ⟨l, hl, hfit⟩ := trod_by t1
      refine ⟨(v1, ⟨x0, l⟩), e0, e1, hl, fun hF => hfit ?_⟩
      rw [hD] at hF
      exact fits_field Try.underlying76 hF (j := 1) rfl (by rw [List.getElem?_map, g1]; rfl))
    refine ⟨ls.map (·.2), ⟨.inr ⟨a, len, cap, rfl, hl, hc⟩, fun i => (ls[i]?.map (·.1)).getD undef, ⟨some a, cap, by simp [hcs], by simp; omega, fun i hi => ?_⟩, fun i l hl => ?_⟩, fun hfit x hx' => ?_⟩
    · have hi : i < ls.length := by simpa using hi
      have hs : a.spot = none := by
        obtain ⟨q0, _⟩ := hp 0 _ (List.getElem?_eq_getElem (by omega))
        exact spot_none q0
      obtain ⟨b, off, sp⟩ := a
      obtain rfl : sp = none := hs
      obtain ⟨q0, q1, _⟩ := hp i _ (List.getElem?_eq_getElem hi)
      rw [add_at] at q0 q1
      refine ⟨b, off, rfl, World.block_lt_of_cell? _ _ q0, World.block_lt_of_cell? _ _ q0, fun j hj => ?_⟩
      dsimp only [wrCells]
      rw [List.getD_eq_getElem?_getD, List.getElem?_map, List.getElem?_eq_getElem hi]
      rcases (show j = 0 ∨ j = 1 by omega) with rfl | rfl
      · exact q0
      · exact q1
    · rw [List.getElem?_map] at hl
      cases hq : ls[i]? with
      | none => rw [hq] at hl; cases hl
      | some q =>
        rw [hq] at hl
        cases hl
        obtain ⟨_, _, q3, _⟩ := hp i q hq
        dsimp only
        rw [hq]
        exact q3
    · obtain ⟨l, hl2, rfl⟩ := List.mem_map.1 hx'
      obtain ⟨i, hi, rfl⟩ := List.getElem_of_mem hl2
      refine (hp i _ (List.getElem?_eq_getElem hi)).2.2.2 ?_
      subst hx
      exact fits_elem Try.underlying23 hfit (List.mem_map.2 ⟨i, List.mem_range.2 (by omega), rfl⟩)
theorem cell_bool {n : Nat} {v : Value} {y : DataW H × List MemPlace} (h : DataW.trod enc Try.prog w base spare held n 4 [v] = some y) : ∃ b, v = .bool b := by
  obtain ⟨b, hb, _⟩ := DataW.trod_bool Try.underlying4 h
  exact ⟨b, by simpa using hb⟩
theorem open_disk {r : Reach} {b0 : Nat} {v : Value} {d : DataW H} {p : List MemPlace} (hv : Value.okWide Try.prog w r b0 25 v) (h : DataW.Trod enc Try.prog w base spare held 25 v d p) (hfit : Fits 25 d) : ∃ (m : Dk) (Vs Vp : Value), v = .agg #[Vs, Vp, .int .i64 m.left, .bool m.stopped] ∧ DkAt w (Live w) Vs Vp m ∧ m.small := by
  obtain ⟨cs, rfl, hsz⟩ := okWide_struct Try.underlying25 hv
  obtain ⟨l⟩ := cs
  have hC : Try.prog.cellsOf 25 = 4 := by kernel_rfl
  match l, hsz.trans hC with
  | [c0, c1, c2, c3], _ =>
    obtain ⟨fuel, hf⟩ := h
    obtain ⟨xs, n, _, hx, _, hlen, hg⟩ := DataW.trod_struct Try.underlying25 hf
    have k1 : Try.prog.cellsOf 22 = 1 := by kernel_rfl
    have k2 : Try.prog.cellsOf 23 = 1 := by kernel_rfl
    have k3 : Try.prog.cellsOf 3 = 1 := by kernel_rfl
    have k4 : Try.prog.cellsOf 4 = 1 := by kernel_rfl
    match xs, hlen with
    | [y0, y1, y2, y3], _ =>
      obtain ⟨q, hq, fq⟩ := trod_rows (show DataW.trod enc Try.prog w base spare held n 22 [c0] = some y0 by simpa [Value.cells, k1] using hg 0 _ rfl)
      obtain ⟨l, hl, fl⟩ := trod_wrs (show DataW.trod enc Try.prog w base spare held n 23 [c1] = some y1 by simpa [Value.cells, k2] using hg 1 _ rfl)
      obtain ⟨x2, rfl, _⟩ := cell_int Try.underlying3 (show DataW.trod enc Try.prog w base spare held n 3 [c2] = some y2 by simpa [Value.cells, k3] using hg 2 _ rfl)
      obtain ⟨x3, rfl⟩ := cell_bool (show DataW.trod enc Try.prog w base spare held n 4 [c3] = some y3 by simpa [Value.cells, k4] using hg 3 _ rfl)
      have hd : d = .agg ([y0, y1, y2, y3].map (·.1)) := by simpa using congrArg (·.1) hx
      subst hd
      have e : reachBytes = 140737488351232 := rfl
      exact ⟨⟨q, l, x2, x3⟩, c0, c1, rfl, ⟨hq, hl⟩, by rw [← e]; exact fq (fits_field Try.underlying25 hfit (j := 0) rfl rfl), by rw [← e]; exact fl (fits_field Try.underlying25 hfit (j := 1) rfl rfl)⟩
theorem open_by {r : Reach} {b0 : Nat} {v : Value} {d : DataW H} {p : List MemPlace} (hv : Value.okWide Try.prog w r b0 35 v) (h : DataW.Trod enc Try.prog w base spare held 35 v d p) : ∃ l, BsAt w (Live w) v l := by
  obtain ⟨A, len0, cap0, rfl⟩ := okWide_slice Try.underlying35 hv
  obtain ⟨n, h⟩ := h
  obtain ⟨l, hl, _⟩ := trod_by (show DataW.trod enc Try.prog w base spare held n 35 [.slice A len0 cap0] = some (d, p) from h)
  exact ⟨l, hl⟩
end
end Go.Proofs.Ythlidhfahaalgaa
