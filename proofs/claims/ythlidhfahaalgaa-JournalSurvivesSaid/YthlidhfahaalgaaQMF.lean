/-
  Arguments of chapter 5's laws opened: journals and bytes, with their bulk; disks. No condition.
-/
import Derived.Test.YthlidhfahaalgaaQKB
import Derived.Test.YthlidhfahaalgaaQJB
import Derived.Test.YthlidhfahaalgaaRows
namespace Go.Proofs.Ythlidhfahaalgaa
open Go.ChangeShapes Go.WideShapes Go.ChangeAt Go.RowKit Go.Joins Go.Deep

section
variable {H : Type} {enc : TypeId × Value → H} {w : World} {base : Nat} {spare : Nat → Bool} {held : Bool}
theorem bulk_pos (d : DataW H) : 1 ≤ Rows.uptoBulk d := by
  cases d with
  | lit l => cases l <;> simp [Rows.uptoBulk]
  | _ => simp [Rows.uptoBulk]
theorem bulk_map (D : Nat → DataW H) (f : Nat → Nat) (h : ∀ i, f i ≤ Rows.uptoBulk (D i)) (l : List Nat) : (l.map f).sum ≤ Rows.uptoBulkAll (l.map D) := by
  induction l with
  | nil => simp [Rows.uptoBulkAll]
  | cons x l ih =>
    have := h x
    simp only [List.map_cons, List.sum_cons, Rows.uptoBulkAll]
    omega
theorem bulk_count (l : List (DataW H)) : l.length ≤ Rows.uptoBulkAll l := by
  induction l with
  | nil => simp [Rows.uptoBulkAll]
  | cons x r ih => have := bulk_pos x; simp only [Rows.uptoBulkAll, List.length_cons]; omega
theorem bulk_part {d : DataW H} {l : List (DataW H)} (h : d ∈ l) : Rows.uptoBulk d ≤ Rows.uptoBulkAll l := by
  induction l with
  | nil => cases h
  | cons x r ih =>
    simp only [Rows.uptoBulkAll]
    rcases List.mem_cons.1 h with rfl | h
    · omega
    · have := ih h; omega
theorem bulk_by {n : Nat} {v : Value} {y : DataW H × List MemPlace} (h : DataW.trod enc Try.prog w base spare held n 35 [v] = some y) : ∃ l : Bs, BsAt w (Live w) v l ∧ l.length + 1 ≤ Rows.uptoBulk y.1 := by
  obtain ⟨hf, l, hs⟩ := trod_bytes Try.underlying35 Try.underlying5 (by kernel_rfl) h
  refine ⟨l, ⟨hf, hs.slp (Nat.le_refl _)⟩, ?_⟩
  rcases open_slice1 Try.underlying35 (by kernel_rfl) h with ⟨h0, hx⟩ | ⟨a, len, cap, m, k, V, D, Pl, h0, hb, hl, hcm, hm, hx, _⟩
  · obtain rfl : v = .slice none 0 0 := by simpa using h0
    have := hs.none_zero.2
    subst hx
    simp [Rows.uptoBulk, this]
  · obtain rfl : v = .slice (some a) len cap := by simpa using h0
    have hl2 : len = l.length := (hs.src (by decide)).1
    subst hx
    have := bulk_count ((List.range len).map D)
    simp only [List.length_map, List.length_range] at this
    simp only [Rows.uptoBulk]
    omega
theorem sumB_map (ls : List Bs) : sumB ls = (ls.map fun x => x.length + 1).sum := by
  induction ls with
  | nil => rfl
  | cons x l ih => simp only [sumB, List.foldr_cons, List.map_cons, List.sum_cons] at ih ⊢; omega
theorem sum_range (ls : List Bs) : (ls.map fun x => x.length + 1).sum ≤ ((List.range ls.length).map fun i => (ls.getD i []).length + 1).sum := by
  have : ls.map (fun x => x.length + 1) = (List.range ls.length).map fun i => (ls.getD i []).length + 1 := by
    refine List.ext_getElem (by simp) fun i h1 h2 => ?_
    simp only [List.length_map] at h1
    simp [h1]
  rw [this]
  exact Nat.le_refl _
theorem bulk_rows {n : Nat} {v : Value} {y : DataW H × List MemPlace} (h : DataW.trod enc Try.prog w base spare held n 22 [v] = some y) : ∃ l : List Bs, RwAt w (Live w) v l ∧ sumB l + 1 ≤ Rows.uptoBulk y.1 := by
  rcases open_slice1 Try.underlying22 (by kernel_rfl) h with ⟨h0, hx⟩ | ⟨a, len, cap, m, k, V, D, Pl, h0, hb, hl, hcm, hm, hx, hf⟩
  · obtain rfl : v = .slice none 0 0 := by simpa using h0
    subst hx
    exact ⟨[], rwAt_nil _ _, by simp [Rows.uptoBulk, sumB]⟩
  · obtain rfl : v = .slice (some a) len cap := by simpa using h0
    have hlm : len ≤ m := by rw [hm]; split <;> omega
    obtain ⟨ls, hcs, hp⟩ := exists_list (fun i (l : Bs) => w.cell? (a.add i) = some (V i) ∧ BsAt w (Live w) (V i) l ∧ l.length + 1 ≤ Rows.uptoBulk (D i)) len (fun i hi => by
      obtain ⟨e0, t0⟩ := hf i (by omega)
      obtain ⟨l, hl, hfit⟩ := bulk_by t0
      exact ⟨l, e0, hl, hfit⟩)
    refine ⟨ls, ⟨.inr ⟨a, len, cap, rfl, hl, hcm⟩, V, ⟨some a, cap, by rw [hcs], by omega, fun i hi => ?_⟩, fun i x hx => (hp i x hx).2.1⟩, ?_⟩
    · have hs : a.spot = none := by
        obtain ⟨q0, _⟩ := hp 0 _ (List.getElem?_eq_getElem (by omega))
        exact spot_none q0
      obtain ⟨b, off, sp⟩ := a
      obtain rfl : sp = none := hs
      obtain ⟨q0, _⟩ := hp i _ (List.getElem?_eq_getElem hi)
      rw [add_at] at q0
      refine ⟨b, off, rfl, World.block_lt_of_cell? _ _ q0, World.block_lt_of_cell? _ _ q0, fun j hj => ?_⟩
      obtain rfl : j = 0 := by omega
      rw [Nat.mul_one, Nat.add_zero]
      exact q0
    · subst hx
      have h1 := sum_range ls
      rw [← sumB_map, hcs] at h1
      have h2 : ∀ (q : List Nat), (∀ i ∈ q, i < len) → (q.map fun i => (ls.getD i []).length + 1).sum ≤ Rows.uptoBulkAll (q.map D) := by
        intro q
        induction q with
        | nil => intro _; simp [Rows.uptoBulkAll]
        | cons x q ih =>
          intro hq
          have hx := hq x List.mem_cons_self
          have h3 := (hp x _ (List.getElem?_eq_getElem (by omega))).2.2
          have h4 := ih fun i hi => hq i (List.mem_cons_of_mem _ hi)
          have e : ls.getD x [] = ls[x]'(by omega) := by rw [List.getD_eq_getElem?_getD, List.getElem?_eq_getElem]; rfl
          simp only [List.map_cons, List.sum_cons, Rows.uptoBulkAll]
          rw [e]
          omega
      have h3 := h2 (List.range len) fun i hi => List.mem_range.1 hi
      simp only [Rows.uptoBulk]
      omega
theorem bulk_agg (parts : List (DataW H)) : Rows.uptoBulk (.agg parts) = Rows.uptoBulkAll parts + 1 := by simp [Rows.uptoBulk]
theorem open_journal {r : Reach} {b0 : Nat} {v : Value} {d : DataW H} {p : List MemPlace} (hv : Value.okWide Try.prog w r b0 29 v) (h : DataW.Trod enc Try.prog w base spare held 29 v d p) : ∃ (m : Jn) (V : Value), v = .agg #[V, .int .i64 m.many, .int .i64 m.synced] ∧ RwAt w (Live w) V m.records ∧ sumB m.records + 1 ≤ Rows.uptoBulk d := by
  obtain ⟨cs, rfl, hsz⟩ := okWide_struct Try.underlying29 hv
  obtain ⟨l⟩ := cs
  have hC : Try.prog.cellsOf 29 = 3 := by kernel_rfl
  match l, hsz.trans hC with
  | [c0, c1, c2], _ =>
    obtain ⟨fuel, hf⟩ := h
    obtain ⟨xs, n, _, hx, _, hlen, hg⟩ := DataW.trod_struct Try.underlying29 hf
    have k1 : Try.prog.cellsOf 22 = 1 := by kernel_rfl
    have k3 : Try.prog.cellsOf 3 = 1 := by kernel_rfl
    match xs, hlen with
    | [y0, y1, y2], _ =>
      obtain ⟨q, hq, fq⟩ := bulk_rows (show DataW.trod enc Try.prog w base spare held n 22 [c0] = some y0 by simpa [Value.cells, k1] using hg 0 _ rfl)
      obtain ⟨x1, rfl, _⟩ := cell_int Try.underlying3 (show DataW.trod enc Try.prog w base spare held n 3 [c1] = some y1 by simpa [Value.cells, k3] using hg 1 _ rfl)
      obtain ⟨x2, rfl, _⟩ := cell_int Try.underlying3 (show DataW.trod enc Try.prog w base spare held n 3 [c2] = some y2 by simpa [Value.cells, k3] using hg 2 _ rfl)
      have hd : d = .agg ([y0, y1, y2].map (·.1)) := by simpa using congrArg (·.1) hx
      subst hd
      refine ⟨⟨q, x1, x2⟩, c0, rfl, hq, ?_⟩
      have hp := bulk_part (d := y0.1) (l := [y0, y1, y2].map (·.1)) (by simp)
      have ha := bulk_agg ([y0, y1, y2].map (·.1))
      show sumB q + 1 ≤ _
      omega
theorem open_rows {r : Reach} {b0 : Nat} {v : Value} {d : DataW H} {p : List MemPlace} (hv : Value.okWide Try.prog w r b0 22 v) (h : DataW.Trod enc Try.prog w base spare held 22 v d p) : ∃ l, RwAt w (Live w) v l ∧ sumB l + 1 ≤ Rows.uptoBulk d := by
  obtain ⟨A, len0, cap0, rfl⟩ := okWide_slice Try.underlying22 hv
  obtain ⟨n, h⟩ := h
  exact bulk_rows (show DataW.trod enc Try.prog w base spare held n 22 [.slice A len0 cap0] = some (d, p) from h)
theorem open_by2 {r : Reach} {b0 : Nat} {v : Value} {d : DataW H} {p : List MemPlace} (hv : Value.okWide Try.prog w r b0 35 v) (h : DataW.Trod enc Try.prog w base spare held 35 v d p) : ∃ l, BsAt w (Live w) v l ∧ l.length + 1 ≤ Rows.uptoBulk d := by
  obtain ⟨A, len0, cap0, rfl⟩ := okWide_slice Try.underlying35 hv
  obtain ⟨n, h⟩ := h
  exact bulk_by (show DataW.trod enc Try.prog w base spare held n 35 [.slice A len0 cap0] = some (d, p) from h)
theorem open_disk0 {r : Reach} {b0 : Nat} {v : Value} {d : DataW H} {p : List MemPlace} (hv : Value.okWide Try.prog w r b0 25 v) (h : DataW.Trod enc Try.prog w base spare held 25 v d p) : ∃ (m : Dk) (Vs Vp : Value), v = .agg #[Vs, Vp, .int .i64 m.left, .bool m.stopped] ∧ DkAt w (Live w) Vs Vp m := by
  obtain ⟨cs, rfl, hsz⟩ := okWide_struct Try.underlying25 hv
  obtain ⟨l⟩ := cs
  have hC : Try.prog.cellsOf 25 = 4 := by kernel_rfl
  match l, hsz.trans hC with
  | [c0, c1, c2, c3], _ =>
    obtain ⟨fuel, hf⟩ := h
    obtain ⟨xs, n, _, hx, _, hlen, hg⟩ := DataW.trod_struct Try.underlying25 hf
    have k1 : Try.prog.cellsOf 22 = 1 := by kernel_rfl
    have k2 : Try.prog.cellsOf 23 = 1 := by kernel_rfl
    have k3 : Try.prog.cellsOf 3 = 1 := by kernel_rfl
    have k4 : Try.prog.cellsOf 4 = 1 := by kernel_rfl
    match xs, hlen with
    | [y0, y1, y2, y3], _ =>
      obtain ⟨q, hq, _⟩ := trod_rows (show DataW.trod enc Try.prog w base spare held n 22 [c0] = some y0 by simpa [Value.cells, k1] using hg 0 _ rfl)
      obtain ⟨l, hl, _⟩ := trod_wrs (show DataW.trod enc Try.prog w base spare held n 23 [c1] = some y1 by simpa [Value.cells, k2] using hg 1 _ rfl)
      obtain ⟨x2, rfl, _⟩ := cell_int Try.underlying3 (show DataW.trod enc Try.prog w base spare held n 3 [c2] = some y2 by simpa [Value.cells, k3] using hg 2 _ rfl)
      obtain ⟨x3, rfl⟩ := cell_bool (show DataW.trod enc Try.prog w base spare held n 4 [c3] = some y3 by simpa [Value.cells, k4] using hg 3 _ rfl)
      exact ⟨⟨q, l, x2, x3⟩, c0, c1, rfl, hq, hl⟩
end
end Go.Proofs.Ythlidhfahaalgaa
