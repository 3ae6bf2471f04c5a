/-
  Arguments of the laws of chapter 1 opened: values, slices of values, bytes. No condition.
-/
import Derived.Test.YtcokkloaljaanaaGA
import Derived.Test.YtcokkloaljaanaaKB
namespace Go.Proofs.Ytcokkloaljaanaa
open Go.ChangeShapes Go.WideShapes Go.ChangeAt Go.RowKit Go.Joins Go.Deep

section
variable {H : Type} {enc : TypeId × Value → H} {w : World} {base : Nat} {spare : Nat → Bool} {held : Bool}
theorem open_elem {P : Program} {e : TypeId} {fs : Array Field} {n : Nat} {cs' : List Value} {x : DataW H × List MemPlace} {A : Addr} (he : P.underlying e = some (.struct fs))
    (hone : oneCellFields P fs = true) (hC : P.cellsOf e = fs.size) (hc : w.cells? base A (P.cellsOf e) = some cs') (ht' : DataW.trod enc P w base spare held n e cs' = some x) :
    ∃ n', n = n' + 1 ∧ ∀ (j : Nat) (f : Field), fs[j]? = some f → ∃ (v : Value) (y : DataW H × List MemPlace), w.cell? (A.add j) = some v ∧ DataW.trod enc P w base spare held n' f.type [v] = some y := by
  rw [hC] at hc
  obtain ⟨ys, n', hn', hy, hlen, hyl, hf⟩ := DataW.trod_struct he ht'
  obtain ⟨_, hcl, hat⟩ := World.cells?_some hc
  refine ⟨n', hn', fun j f hj => ?_⟩
  obtain ⟨ho, hk⟩ := hone_of hone j f hj
  have hjl : j < fs.size := (Array.getElem?_eq_some_iff.1 hj).1
  have hcell := hat j hjl
  have hv : cs'[j]? = some (cs'[j]'(by omega)) := List.getElem?_eq_getElem (by omega)
  have h1 := hf j f hj
  rw [ho, hk] at h1
  have hone' : (cs'.drop j).take 1 = [cs'[j]'(by omega)] := by
    rw [List.drop_eq_getElem_cons (by omega)]
    rfl
  rw [hone'] at h1
  have hys : ys[j]? = some (ys[j]'(by omega)) := List.getElem?_eq_getElem (by omega)
  exact ⟨_, _, hcell.trans hv, h1.trans hys⟩

theorem strB_of (s : ByteArray) : strB s.data.toList = s := by rw [strB]
theorem trod_vals (fuel : Nat) : ∀ {v : Value} {y : DataW H × List MemPlace}, DataW.trod enc Try.prog w base spare held fuel 22 [v] = some y → ∃ (l : List Val) (d : Nat), ValsAt w w.heap.size d v l ∧ fitsL l := by
  induction fuel using Nat.strongRecOn with
  | _ fuel ih =>
    intro v y h
    rcases DataW.trod_slice Try.underlying22 h with ⟨h0, _⟩ | ⟨a, len, cap, elems, rest, n, hn, h0, _, hb, hl, hcm, hlen, hel, _, _⟩
    · obtain rfl : v = .slice none 0 0 := by simpa using h0
      exact ⟨[], 0, valsAt_nil _ _ _, trivial⟩
    · obtain rfl : v = .slice (some a) len cap := by simpa using h0
      have hC : Try.prog.cellsOf 24 = 4 := by kernel_rfl
      obtain ⟨ls, hcs, hp⟩ := exists_list (fun i (l : Val × Value × Nat) => w.cell? ((a.add (i * 4)).add 0) = some (.int .i64 l.1.kind) ∧ w.cell? ((a.add (i * 4)).add 1) = some (.int .i64 l.1.num) ∧ w.cell? ((a.add (i * 4)).add 2) = some (.string (strB l.1.str)) ∧ w.cell? ((a.add (i * 4)).add 3) = some l.2.1 ∧ ValsAt w w.heap.size l.2.2 l.2.1 l.1.elems ∧ l.1.fits) len (fun i hi => by
        have he := hel i hi
        have hi2 : elems[i]? = some (elems[i]'(by omega)) := List.getElem?_eq_getElem (by omega)
        rw [hi2] at he
        rcases hc : w.cells? base (a.add (i * Try.prog.cellsOf 24)) (Try.prog.cellsOf 24) with _ | cs'
        · rw [hc] at he; cases he
        · rw [hc, Option.bind_some] at he
          obtain ⟨n', hn', hj⟩ := open_elem Try.underlying24 (by kernel_rfl) (by kernel_rfl) hc he
          obtain ⟨v0, y0, e0, t0⟩ := hj 0 _ rfl
          obtain ⟨v1, y1, e1, t1⟩ := hj 1 _ rfl
          obtain ⟨v2, y2, e2, t2⟩ := hj 2 _ rfl
          obtain ⟨v3, y3, e3, t3⟩ := hj 3 _ rfl
          obtain ⟨x0, rfl, w0⟩ := cell_int Try.underlying3 t0
          obtain ⟨x1, rfl, w1⟩ := cell_int Try.underlying3 t1
          obtain ⟨s, hs, _, hsl⟩ := DataW.trod_string Try.underlying9 t2
          obtain rfl : v2 = .string s := by simpa using hs
          obtain ⟨l, d, hl, hf⟩ := ih n' (by omega) t3
          obtain ⟨A3, c3, hv3, hm3⟩ := hl.form
          rw [hC] at e0 e1 e2 e3
          have hw := bounds_i64 w1
          exact ⟨(.mk x0 x1 s.data.toList l, v3, d), e0, e1, by rw [Val.str, strB_of]; exact e2, e3, hl, hw, ⟨hsl, hm3⟩, hf⟩)
      have hfm : ∀ x ∈ ls.map (·.1), x.fits := fun x hx => by
        obtain ⟨q, hq, rfl⟩ := List.mem_map.1 hx
        obtain ⟨i, hi, rfl⟩ := List.getElem_of_mem hq
        exact (hp i _ (List.getElem?_eq_getElem hi)).2.2.2.2.2
      refine ⟨ls.map (·.1), nestL (ls.map (·.1)) + 1, ⟨.inr ⟨a, len, cap, rfl, hl, hcm⟩, fun i => (ls[i]?.map (·.2.1)).getD undef, ⟨some a, cap, by simp [hcs], by simp; omega, fun i hi => ?_⟩, fun i x hx => ?_⟩, fitsL_of hfm⟩
      · have hi : i < ls.length := by simpa using hi
        have hs : a.spot = none := by
          obtain ⟨q0, _⟩ := hp 0 _ (List.getElem?_eq_getElem (by omega))
          have := spot_none q0
          exact this
        obtain ⟨b, off, sp⟩ := a
        obtain rfl : sp = none := hs
        obtain ⟨q0, q1, q2, q3, _⟩ := hp i _ (List.getElem?_eq_getElem hi)
        rw [add_at, add_at] at q0 q1 q2 q3
        refine ⟨b, off, rfl, World.block_lt_of_cell? _ _ q0, fun j hj => ?_⟩
        rw [← Nat.add_assoc]
        have eg : (ls.map (·.1)).getD i Val.zero = (ls[i]).1 := by simp [List.getD_eq_getElem?_getD, List.getElem?_eq_getElem hi]
        have ev : (ls[i]?.map (·.2.1)).getD undef = (ls[i]).2.1 := by simp [List.getElem?_eq_getElem hi]
        unfold valCells
        rcases (show j = 0 ∨ j = 1 ∨ j = 2 ∨ j = 3 by omega) with rfl | rfl | rfl | rfl
        · rw [if_pos rfl, eg]; exact q0
        · rw [if_neg (by decide), if_pos rfl, eg]; exact q1
        · rw [if_neg (by decide), if_neg (by decide), if_pos rfl, eg]; exact q2
        · rw [if_neg (by decide), if_neg (by decide), if_neg (by decide)]; exact q3.trans (congrArg some ev.symm)
      · have hxm := List.mem_of_getElem? hx
        rw [List.getElem?_map] at hx
        cases hq : ls[i]? with
        | none => rw [hq] at hx; cases hx
        | some q =>
          rw [hq] at hx
          cases hx
          dsimp only
          rw [hq]
          have h5 := (hp i q hq).2.2.2.2.1
          refine h5.fit ?_
          have h6 : q.1.nest + 1 ≤ nestL (ls.map (·.1)) := nest_mem hxm
          rw [Val.nest_elems] at h6
          exact Nat.le_of_succ_le h6
theorem open_vals {r : Reach} {b0 : Nat} {v : Value} {d : DataW H} {p : List MemPlace} (hv : Value.okWide Try.prog w r b0 22 v) (h : DataW.Trod enc Try.prog w base spare held 22 v d p) : ∃ (l : List Val) (d : Nat), ValsAt w w.heap.size d v l ∧ fitsL l := by
  obtain ⟨A, len0, cap0, rfl⟩ := okWide_slice Try.underlying22 hv
  obtain ⟨n, h⟩ := h
  exact trod_vals n (show DataW.trod enc Try.prog w base spare held n 22 [.slice A len0 cap0] = some (d, p) from h)
theorem open_bytes {r : Reach} {b0 : Nat} {v : Value} {d : DataW H} {p : List MemPlace} (hv : Value.okWide Try.prog w r b0 27 v) (h : DataW.Trod enc Try.prog w base spare held 27 v d p) : ∃ l : Bs, BsAt w (fun b => b < w.heap.size) v l := by
  obtain ⟨A, len0, cap0, rfl⟩ := okWide_slice Try.underlying27 hv
  obtain ⟨n, h⟩ := h
  obtain ⟨hf, l, hs⟩ := trod_bytes Try.underlying27 Try.underlying5 (by kernel_rfl) (show DataW.trod enc Try.prog w base spare held n 27 [.slice A len0 cap0] = some (d, p) from h)
  exact ⟨l, hf, hs.slp (Nat.le_refl _)⟩
theorem open_value {r : Reach} {b0 : Nat} {v : Value} {d : DataW H} {p : List MemPlace} (hv : Value.okWide Try.prog w r b0 24 v) (h : DataW.Trod enc Try.prog w base spare held 24 v d p) : ∃ (x : Val) (L : Value) (d : Nat), v = .agg #[.int .i64 x.kind, .int .i64 x.num, .string (strB x.str), L] ∧ ValsAt w w.heap.size d L x.elems ∧ x.fits := by
  obtain ⟨cs, rfl, hsz⟩ := okWide_struct Try.underlying24 hv
  obtain ⟨l⟩ := cs
  have hC : Try.prog.cellsOf 24 = 4 := by kernel_rfl
  match l, hsz.trans hC with
  | [c0, c1, c2, c3], _ =>
    obtain ⟨fuel, hf⟩ := h
    obtain ⟨xs, n, _, hx, _, hlen, hg⟩ := DataW.trod_struct Try.underlying24 hf
    have k1 : Try.prog.cellsOf 3 = 1 := by kernel_rfl
    have k2 : Try.prog.cellsOf 9 = 1 := by kernel_rfl
    have k3 : Try.prog.cellsOf 22 = 1 := by kernel_rfl
    match xs, hlen with
    | [y0, y1, y2, y3], _ =>
      obtain ⟨x0, rfl, w0⟩ := cell_int Try.underlying3 (show DataW.trod enc Try.prog w base spare held n 3 [c0] = some y0 by simpa [Value.cells, k1] using hg 0 _ rfl)
      obtain ⟨x1, rfl, w1⟩ := cell_int Try.underlying3 (show DataW.trod enc Try.prog w base spare held n 3 [c1] = some y1 by simpa [Value.cells, k1] using hg 1 _ rfl)
      obtain ⟨s, hs, _, hsl⟩ := DataW.trod_string Try.underlying9 (show DataW.trod enc Try.prog w base spare held n 9 [c2] = some y2 by simpa [Value.cells, k2] using hg 2 _ rfl)
      obtain rfl : c2 = .string s := by simpa using hs
      obtain ⟨q, dq, hq, hfq⟩ := trod_vals n (show DataW.trod enc Try.prog w base spare held n 22 [c3] = some y3 by simpa [Value.cells, k3] using hg 3 _ rfl)
      obtain ⟨_, _, _, hm⟩ := hq.form
      exact ⟨.mk x0 x1 s.data.toList q, c3, dq, by rw [Val.str, strB_of]; rfl, hq, bounds_i64 w1, ⟨hsl, hm⟩, hfq⟩
end
end Go.Proofs.Ytcokkloaljaanaa
