/-
  slices.Clone over sectors, writes and bytes; rows of the call's own. No condition.
-/
import Derived.Test.YtdmeogkdoeaemaaDC
namespace Go.Proofs.Ytdmeogkdoeaemaa
open Go.RowKit
attribute [local go_sem ↓ high] app_named

theorem Box.keep {w w' : World} {b D : Nat} {xs : List Value} (h : Box w b xs) (hb : b < D) (hB : Below D w w') : Box w' b xs := h.same (hB.block b hb)
theorem info_by : (Try.prog.info? 5).map (fun i => (i.zero, i.size, i.bytes)) = some (some (.int .u8 0), 1, 1) := by kernel_rfl
theorem elem_by : ∃ i, Elem 35 5 i (.int .u8 0) 1 1 := by
  obtain ⟨i, hi, h0, h1, h2⟩ := info_parts info_by
  exact ⟨i, Try.underlying35, hi, h0, h1, h2, rfl, by decide⟩
theorem info_rw : (Try.prog.info? 35).map (fun i => (i.zero, i.size, i.bytes)) = some (some (.slice none 0 0), 1, 24) := by kernel_rfl
theorem elem_rw : ∃ i, Elem 22 35 i (.slice none 0 0) 1 24 := by
  obtain ⟨i, hi, h0, h1, h2⟩ := info_parts info_rw
  exact ⟨i, Try.underlying22, hi, h0, h1, h2, rfl, by decide⟩
theorem info_wr : (Try.prog.info? 54).map (fun i => (i.zero, i.size, i.bytes)) = some (some (.agg #[.int .i64 0, .slice none 0 0]), 2, 32) := by kernel_rfl
theorem elem_wr : ∃ i, Elem 23 54 i (.agg #[.int .i64 0, .slice none 0 0]) 2 32 := by
  obtain ⟨i, hi, h0, h1, h2⟩ := info_parts info_wr
  exact ⟨i, Try.underlying23, hi, h0, h1, h2, rfl, by decide⟩

theorem run_clone {t e : TypeId} {i : TypeInfo} {z : Value} {size bytes : Nat} (E : Elem t e i z size bytes) {w : World} {S : Nat → Prop} {n c : Nat} {A : Option Addr} {g : Nat → Nat → Value} (hv : SlP w S size n g (.slice A n c)) (hf : SlF (.slice A n c))
    (h1 : ∀ k j, k < n → j < size → (g k j).oneCell' = true) (hbytes : n * bytes ≤ 140737488355328) :
    ∃ v' w', (appF #[t, t] t #[.slice (some ⟨w.heap.size, 0, none⟩) 0 0, .slice A n c]).run Try.prog (w.alloc (.cells #[] e)) = .ok v' w' ∧ w'.ownsRow w.heap.size e size v' n (flat n size g) ∧ Below w.heap.size w w' := by
  have hb := (Below.refl w.heap.size w).alloc (Nat.le_refl _) (.cells #[] e)
  have hown : (w.alloc (.cells #[] e)).ownsRow w.heap.size e size (.slice (some ⟨w.heap.size, 0, none⟩) 0 0) 0 (flat 0 size g) := by
    refine ⟨by simp [flat], .inr ⟨w.heap.size, 0, #[], rfl, Nat.le_refl _, ?_, Nat.le_refl _, Nat.zero_le _, by simp, by simp [flat]⟩⟩
    show (w.heap.push _)[w.heap.size]? = _
    simp
  have hm : n ≤ maxLen := by
    obtain ⟨_, _, e1, hm⟩ := hv.form
    exact hm
  obtain ⟨v', w', hr, ho, hg⟩ := run_app_own E t hown (hv.keep (Keeps.of hb)).sl hf h1 (by omega) (by rw [Nat.zero_add]; exact hbytes) hb.size
  rw [Nat.zero_add] at ho
  refine ⟨v', w', hr, ?_, hb.grown hg hb.size (fun k hk => ?_)⟩
  · rw [flat_congr' E.hsz (h := g) (fun i j _ _ => by rw [cat, if_neg (by omega), Nat.sub_zero])] at ho
    exact ho
  · cases hk
    exact Nat.le_refl _

/-- v is a slice of byte slices that owns its row; their bytes lie in blocks of the kind S. -/
def OwnRw (w : World) (base : Nat) (S : Nat → Prop) (v : Value) (l : List Bs) : Prop :=
  ∃ xs : List Value, w.ownsRow base 35 1 v l.length xs ∧ ∀ (i : Nat) (x : Bs) (u : Value), l[i]? = some x → xs[i]? = some u → BsAt w S u x
theorem OwnRw.keep {w w' : World} {base : Nat} {S : Nat → Prop} {v : Value} {l : List Bs} (h : OwnRw w base S v l) (hb : Below w.heap.size w w') : OwnRw w' base S v l := by
  obtain ⟨xs, h1, h2⟩ := h
  refine ⟨xs, ?_, fun i x u hx hu => (h2 i x u hx hu).keep (Keeps.of hb)⟩
  obtain ⟨hl, h1⟩ := h1
  refine ⟨hl, ?_⟩
  rcases h1 with h1 | ⟨g, cap, cur, hv, hbg, hg, hr⟩
  · exact .inl h1
  · exact .inr ⟨g, cap, cur, hv, hbg, (hb.block g (Array.getElem?_eq_some_iff.1 hg).1).trans hg, hr⟩
theorem OwnRw.rows {w : World} {base : Nat} {S S' : Nat → Prop} {v : Value} {l : List Bs} (h : OwnRw w base S v l) (hm : l.length ≤ maxLen) (h1 : ∀ b, S b → b < w.heap.size → S' b) (h2 : ∀ b, base ≤ b → S' b) : RwAt w S' v l := by
  obtain ⟨xs, ho, hb⟩ := h
  have hl : xs.length = l.length := by simpa using ho.1
  have ho' : w.ownsRow base 35 1 v l.length (flat l.length 1 (fun i _ => xs.getD i undef)) := by
    rw [flat_one]
    have : (List.range l.length).map (fun i => xs.getD i undef) = xs := by
      apply List.ext_getElem?
      intro i
      rcases Nat.lt_or_ge i l.length with hi | hi
      · simp [hi, hl]
      · simp [hi, hl]
    rw [this]
    exact ho
  obtain ⟨s, f⟩ := own_slp ho' hm
  refine ⟨f, fun i => xs.getD i undef, s.weak fun b hb _ => h2 b hb, fun i x hx => ?_⟩
  have hi : i < xs.length := by rw [hl]; exact (List.getElem?_eq_some_iff.1 hx).1
  have hu : xs[i]? = some xs[i] := List.getElem?_eq_getElem hi
  have := (hb i x _ hx hu).weak h1
  show BsAt w S' (xs.getD i undef) x
  rw [List.getD_eq_getElem?_getD, hu]
  exact this
theorem OwnRw.keepK {w w' : World} {base : Nat} {S : Nat → Prop} {v : Value} {l : List Bs} (h : OwnRw w base S v l) (hk : Keeps (Old (fun b => S b ∨ base ≤ b) w) w w') : OwnRw w' base S v l := by
  obtain ⟨xs, h1, h2⟩ := h
  refine ⟨xs, ?_, fun i x u hx hu => ?_⟩
  · obtain ⟨hl, h1⟩ := h1
    refine ⟨hl, ?_⟩
    rcases h1 with h1 | ⟨g, cap, cur, hv, hbg, hg, hr⟩
    · exact .inl h1
    · have hlt := (Array.getElem?_eq_some_iff.1 hg).1
      exact .inr ⟨g, cap, cur, hv, hbg, (hk.2 g ⟨.inr hbg, hlt⟩ hlt).trans hg, hr⟩
  · have hu' : BsAt w (Old (fun b => S b ∨ base ≤ b) w) u x := (h2 i x u hx hu).weak fun b hb hl => ⟨.inl hb, hl⟩
    obtain ⟨hf, hs⟩ := hu'.keep hk
    obtain ⟨A, c, e1, e2, e3⟩ := (h2 i x u hx hu).2
    obtain ⟨_, A', c', e1', _, e3'⟩ := hu'.keep hk
    refine ⟨hf, A, c, e1, e2, fun k hk' => ?_⟩
    obtain ⟨b, off, hA, hS, hbl, _⟩ := e3 k hk'
    obtain ⟨b', off', hA', _, hbl', hc'⟩ := e3' k hk'
    have : A = A' := by rw [e1] at e1'; injection e1'
    subst this
    rw [hA] at hA'
    cases hA'
    exact ⟨b, off, hA, hS, hbl', hc'⟩
theorem OwnRw.weak {w : World} {base : Nat} {S S' : Nat → Prop} {v : Value} {l : List Bs} (h : OwnRw w base S v l) (h1 : ∀ b, S b → b < w.heap.size → S' b) : OwnRw w base S' v l := by
  obtain ⟨xs, ho, hb⟩ := h
  exact ⟨xs, ho, fun i x u hx hu => (hb i x u hx hu).weak h1⟩
theorem OwnRw.row {w : World} {base n : Nat} {S : Nat → Prop} {v : Value} {l : List Bs} (h : OwnRw w base S v l) (hn : l.length = n) (h0 : 0 < n) : ∃ g c, v = .slice (some ⟨g, 0, none⟩) n c ∧ n ≤ c ∧ base ≤ g ∧ g < w.heap.size ∧ (∀ i, i < n → ∃ u, w.cell? ⟨g, i, none⟩ = some u ∧ BsAt w S u (l.getD i [])) ∧ ∀ i, w.frozen? ⟨g, i, none⟩ = false := by
  subst hn
  obtain ⟨xs, ho, hb⟩ := h
  have hl : xs.length = l.length := by simpa using ho.1
  obtain ⟨g, c, rfl, hc⟩ : ∃ g c, v = .slice (some ⟨g, 0, none⟩) l.length c ∧ l.length ≤ c := by
    rcases ho.2 with ⟨_, h1⟩ | ⟨g, cap, cur, hv, _, _, hc, _⟩
    · omega
    · exact ⟨g, cap, hv, hc⟩
  obtain ⟨h1, h2, h3, h4⟩ := own_cell ho
  refine ⟨g, c, rfl, hc, h1, h2, fun i hi => ?_, h4⟩
  have hu : xs[i]? = some (xs[i]'(by omega)) := List.getElem?_eq_getElem (by omega)
  have hx : l[i]? = some (l[i]'hi) := List.getElem?_eq_getElem hi
  refine ⟨_, (h3 i hi).trans hu, ?_⟩
  have := hb i _ _ hx hu
  rw [List.getD_eq_getElem?_getD, hx]
  exact this
theorem OwnRw.set {w : World} {base g n c i : Nat} {S : Nat → Prop} {l : List Bs} {x : Bs} {u : Value} (h : OwnRw w base S (.slice (some ⟨g, 0, none⟩) n c) l) (hS : ¬ S g) (hi : i < n) (hn : l.length = n) (hu : BsAt w S u x) :
    OwnRw (w.setCell ⟨g, i, none⟩ u) base S (.slice (some ⟨g, 0, none⟩) n c) (l.set i x) := by
  subst hn
  obtain ⟨xs, ho, hb⟩ := h
  have hk : Keeps S w (w.setCell ⟨g, i, none⟩ u) := Keeps.set w (a := ⟨g, i, none⟩) hS u
  refine ⟨xs.set i u, ?_, fun j y v hy hv => ?_⟩
  · rw [List.length_set]
    exact own_set ho u
  · rw [List.getElem?_set] at hy hv
    by_cases hij : i = j
    · subst hij
      have hl : xs.length = l.length := by simpa using ho.1
      rw [if_pos rfl, if_pos hi] at hy
      rw [if_pos rfl, if_pos (by omega)] at hv
      cases hy
      cases hv
      exact hu.keep hk
    · rw [if_neg hij] at hy hv
      exact (hb j y v hy hv).keep hk

theorem bsAt_one {w : World} {S : Nat → Prop} {V : Value} {l : Bs} (h : BsAt w S V l) : V.oneCell' = true := by
  obtain ⟨A, c, rfl, _⟩ := h.form
  rfl
theorem WsAt.take {w : World} {S : Nat → Prop} {b off n c j : Nat} {l : List Wr} (h : WsAt w S (.slice (some ⟨b, off, none⟩) n c) l) (hj : j ≤ n) : WsAt w S (.slice (some ⟨b, off, none⟩) j j) (l.take j) := by
  obtain ⟨hf, V, hs, hb⟩ := h
  have hn : n = l.length := by
    obtain ⟨_, _, hv, _⟩ := hs
    cases hv
    rfl
  subst hn
  have hm : l.length ≤ maxLen := by
    obtain ⟨_, _, _, hm, _⟩ := hs
    exact hm
  have hl : (l.take j).length = j := by rw [List.length_take]; omega
  refine ⟨.inr ⟨_, _, _, rfl, Nat.le_refl _, by omega⟩, V, ?_, fun i x hx => ?_⟩
  · rw [hl]
    refine ((hs.part 0 j j (by omega)).congr fun i k hi hk => ?_) |> fun h => by simpa using h
    simp only [Nat.zero_add, wrCells, List.getD_eq_getElem?_getD, List.getElem?_take, if_pos hi]
  · have hi : i < j := by
      have := (List.getElem?_eq_some_iff.1 hx).1
      omega
    rw [List.getElem?_take, if_pos hi] at hx
    exact hb i x hx
theorem DkAt.old {w : World} {S : Nat → Prop} {Vs Vp : Value} {d : Dk} (h : DkAt w S Vs Vp d) : DkAt w (Old S w) Vs Vp d := h.weak fun _ hb hl => ⟨hb, hl⟩
def RetOwn (l : List Bs) (S : Nat → Prop) (w : World) (e : Ending) (w' : World) : Prop := ∃ V, e = .returned V ∧ OwnRw w' w.heap.size (Old S w) V l ∧ Below w.heap.size w w'
theorem SlP.old {w : World} {S : Nat → Prop} {size n : Nat} {g : Nat → Nat → Value} {v : Value} (h : SlP w S size n g v) : SlP w (Old S w) size n g v := h.weak fun _ hb hl => ⟨hb, hl⟩
theorem BsAt.old {w : World} {S : Nat → Prop} {v : Value} {l : Bs} (h : BsAt w S v l) : BsAt w (Old S w) v l := h.weak fun _ hb hl => ⟨hb, hl⟩
theorem dCloneS_any (l : List Bs) (V : Value) (S : Nat → Prop) (w : World) (h : RwAt w S V l) (hn : l.length ≤ 1048576) : Calls Try.prog 46 #[V] w (RetOwn l S w) := by
  obtain ⟨hf, g, hs, hb⟩ := h
  obtain ⟨A, c, rfl, hm⟩ := hs.form
  obtain ⟨i, E⟩ := elem_rw
  have H : A ≠ none → ∃ v' w', (appF #[22, 22] 22 #[.slice (some ⟨w.heap.size, 0, none⟩) 0 0, .slice A l.length c]).run Try.prog (w.alloc (.cells #[] 35)) = .ok v' w' ∧ OwnRw w' w.heap.size (Old S w) v' l ∧ Below w.heap.size w w' := by
    intro _
    obtain ⟨v', w', hr, ho, hbel⟩ := run_clone E hs hf (fun k j hk _ => bsAt_one (hb k _ (List.getElem?_eq_getElem hk))) (by omega)
    refine ⟨v', w', hr, ⟨_, ho, fun j x u hx hu => ?_⟩, hbel⟩
    have hj := (List.getElem?_eq_some_iff.1 hx).1
    rw [flat_one, List.getElem?_map, List.getElem?_range hj] at hu
    cases hu
    exact ((hb j x hx).old).keep (Keeps.of hbel)
  rcases A with _ | A
  · obtain ⟨h0, _⟩ := hs.sl.none_zero
    have hlen := hs.sl.none_zero.2
    obtain rfl : l = [] := List.eq_nil_of_length_eq_zero hlen
    have hz : c = 0 := by
      rcases hf with h | ⟨a, n, c', h, _⟩
      · injection h
      · injection h with h; cases h
    subst hz
    clear H h0 hlen hf
    have he : ∀ w : World, (binOp .eql 22 (.slice none 0 0) (.slice none 0 0)).run Try.prog w = .ok (.bool true) w := fun _ => rfl
    have hres : RetOwn [] S w (.returned (.slice none 0 0)) w := ⟨_, rfl, ⟨[], ⟨rfl, .inl ⟨rfl, rfl⟩⟩, fun i x u hx _ => by simp at hx⟩, Below.refl _ _⟩
    have HR := Lib.hid hres
    show Calls Try.prog _ #[.slice none 0 0] w _
    clear hres hs hb hn hm
    go_enter Try.func46, Try.ntmps46
    go_wp2
    go_ret
    exact HR.out
  · obtain ⟨v', w', hr, ho, hbel⟩ := H (by simp)
    have HR : Hid (RetOwn l S w (.returned v') w') := ⟨_, rfl, ho, hbel⟩
    clear H hf hs hb ho hbel
    unfold maxLen at hm
    generalize l.length = n at hr hm hn ⊢
    have he : ∀ w : World, (binOp .eql 22 (.slice (some A) n c) (.slice none 0 0)).run Try.prog w = .ok (.bool false) w := fun _ => rfl
    go_enter Try.func46, Try.ntmps46
    go_wp2
    go_ret
    exact HR.out

/-- A clone of writes. -/
def RetWs (l : List Wr) (S : Nat → Prop) (w : World) (e : Ending) (w' : World) : Prop := ∃ V, e = .returned V ∧ WsAt w' (Grow S w) V l ∧ Below w.heap.size w w'
theorem wr_one {w : World} {S : Nat → Prop} {l : List Wr} {V : Nat → Value} (h : ∀ (i : Nat) (x : Wr), l[i]? = some x → BsAt w S (V i) x.data) {i j : Nat} (hi : i < l.length) : (wrCells l V i j).oneCell' = true := by
  unfold wrCells
  split
  · rfl
  · exact bsAt_one (h i _ (List.getElem?_eq_getElem hi))
theorem dCloneW_any (l : List Wr) (V : Value) (S : Nat → Prop) (w : World) (h : WsAt w S V l) (hn : l.length ≤ 1048576) : Calls Try.prog 38 #[V] w (RetWs l S w) := by
  obtain ⟨hf, g, hs, hb⟩ := h
  obtain ⟨A, c, rfl, hm⟩ := hs.form
  obtain ⟨i, E⟩ := elem_wr
  have H : A ≠ none → ∃ v' w', (appF #[23, 23] 23 #[.slice (some ⟨w.heap.size, 0, none⟩) 0 0, .slice A l.length c]).run Try.prog (w.alloc (.cells #[] 54)) = .ok v' w' ∧ WsAt w' (Grow S w) v' l ∧ Below w.heap.size w w' := by
    intro _
    obtain ⟨v', w', hr, ho, hbel⟩ := run_clone E hs hf (fun k j hk _ => wr_one hb hk) (by omega)
    obtain ⟨s, f⟩ := own_slp ho hm
    exact ⟨v', w', hr, ⟨f, g, s.weak fun _ h _ => .inr h, fun j x hx => ((hb j x hx).keep (Keeps.of hbel)).weak fun _ h _ => .inl h⟩, hbel⟩
  rcases A with _ | A
  · have hlen := hs.sl.none_zero.2
    obtain rfl : l = [] := List.eq_nil_of_length_eq_zero hlen
    have hz : c = 0 := by
      rcases hf with h | ⟨a, n, c', h, _⟩
      · injection h
      · injection h with h; cases h
    subst hz
    have he : ∀ w : World, (binOp .eql 23 (.slice none 0 0) (.slice none 0 0)).run Try.prog w = .ok (.bool true) w := fun _ => rfl
    have HR : Hid (RetWs [] S w (.returned (.slice none 0 0)) w) := ⟨_, rfl, wsAt_nil _ _, Below.refl _ _⟩
    show Calls Try.prog _ #[.slice none 0 0] w _
    clear hs hb hn hm H hlen hf
    go_enter Try.func38, Try.ntmps38
    go_wp2
    go_ret
    exact HR.out
  · obtain ⟨v', w', hr, ho, hbel⟩ := H (by simp)
    have HR : Hid (RetWs l S w (.returned v') w') := ⟨_, rfl, ho, hbel⟩
    clear H hf hs hb ho hbel
    unfold maxLen at hm
    generalize l.length = n at hr hm hn ⊢
    have he : ∀ w : World, (binOp .eql 23 (.slice (some A) n c) (.slice none 0 0)).run Try.prog w = .ok (.bool false) w := fun _ => rfl
    go_enter Try.func38, Try.ntmps38
    go_wp2
    go_ret
    exact HR.out
/-- The cells of bytes. -/
def byV (l : Bs) : List Value := l.map fun c => .int .u8 (c.toNat : Int)
theorem byV_length (l : Bs) : (byV l).length = l.length := by simp [byV]
theorem byV_append (l m : Bs) : byV (l ++ m) = byV l ++ byV m := by simp [byV]
theorem byV_flat (l : Bs) : flat l.length 1 (fun i _ => .int .u8 ((l.getD i 0).toNat : Int)) = byV l := by
  rw [flat_one]
  apply List.ext_getElem?
  intro i
  rcases Nat.lt_or_ge i l.length with hi | hi
  · simp [byV, hi]
  · simp [byV, hi]
theorem byV_range {l : Bs} {k : Nat} (h : k ≤ l.length) : (List.range k).map (fun i => Value.int .u8 ((l.getD i 0).toNat : Int)) = byV (l.take k) := by
  apply List.ext_getElem?
  intro i
  rcases Nat.lt_or_ge i k with hi | hi
  · have : i < l.length := by omega
    simp [byV, hi, this]
  · rw [List.getElem?_eq_none (by simp; omega), List.getElem?_eq_none (by simp [byV]; omega)]
/-- A row of bytes of the call's own. -/
def OwnBs (w : World) (base : Nat) (v : Value) (l : Bs) : Prop := w.ownsRow base 5 1 v l.length (byV l)
theorem OwnBs.bs {w : World} {base : Nat} {v : Value} {l : Bs} (h : OwnBs w base v l) (hm : l.length ≤ maxLen) : BsAt w (fun b => base ≤ b) v l := by
  unfold OwnBs at h
  rw [← byV_flat] at h
  obtain ⟨s, f⟩ := own_slp h hm
  exact ⟨f, s⟩
theorem OwnBs.form {w : World} {base : Nat} {v : Value} {l : Bs} (h : OwnBs w base v l) (h0 : 0 < l.length) : ∃ g c, v = .slice (some ⟨g, 0, none⟩) l.length c ∧ base ≤ g ∧ g < w.heap.size ∧ l.length ≤ c ∧ c ≤ maxLen := by
  rcases h.2 with ⟨_, h1⟩ | ⟨g, cap, cur, hv, hb, hg, hc, hcm, _⟩
  · omega
  · exact ⟨g, cap, hv, hb, (Array.getElem?_eq_some_iff.1 hg).1, hc, hcm⟩
theorem OwnBs.own {w : World} {base n c : Nat} {A : Option Addr} {l : Bs} (h : OwnBs w base (.slice A n c) l) (hl : l.length = n) (k : Nat) (hk : k < n) : ∃ b off, A = some ⟨b, off, none⟩ ∧ base ≤ b ∧ b < w.heap.size ∧ ∀ j, j < 1 → w.cell? ⟨b, off + (k * 1 + j), none⟩ = some (.int .u8 ((l.getD k 0).toNat : Int)) := by
  unfold OwnBs at h
  rw [hl, show byV l = flat n 1 (fun i _ => .int .u8 ((l.getD i 0).toNat : Int)) by rw [← hl, byV_flat]] at h
  rcases h.2 with ⟨h1, _⟩ | ⟨g, cap, cur, hv, hb, hg, hc, hcm, hs, hx⟩
  · injection h1 with _ h2; omega
  · cases hv
    have hlt : g < w.heap.size := (Array.getElem?_eq_some_iff.1 hg).1
    have hcell := h.cells (g := g) rfl
    refine ⟨g, 0, rfl, hb, hlt, fun j hj => ?_⟩
    have := hcell _ _ (flat_at (fun i _ => .int .u8 ((l.getD i 0).toNat : Int)) hk hj)
    rw [add_at] at this
    exact this
def RetOB (l : Bs) (w : World) (e : Ending) (w' : World) : Prop := ∃ V, e = .returned V ∧ OwnBs w' w.heap.size V l ∧ Below w.heap.size w w'
theorem dCloneB_any (l : Bs) (V : Value) (S : Nat → Prop) (w : World) (h : BsAt w S V l) (hn : l.length ≤ 1048576) (h0 : 0 < l.length) : Calls Try.prog 41 #[V] w (RetOB l w) := by
  obtain ⟨hf, hs⟩ := h
  obtain ⟨A, c, rfl, hm⟩ := hs.form
  obtain ⟨i, E⟩ := elem_by
  obtain ⟨v', w', hr, ho, hbel⟩ := run_clone E hs hf (fun k j hk _ => rfl) (by omega)
  have HR : Hid (RetOB l w (.returned v') w') := ⟨_, rfl, by unfold OwnBs; rw [← byV_flat]; exact ho, hbel⟩
  rcases A with _ | A
  · have := hs.sl.none_zero.2
    omega
  · clear hf hs ho hbel
    unfold maxLen at hm
    generalize l.length = n at hr hm hn ⊢
    have he : ∀ w : World, (binOp .eql 35 (.slice (some A) n c) (.slice none 0 0)).run Try.prog w = .ok (.bool false) w := fun _ => rfl
    go_enter Try.func41, Try.ntmps41
    go_wp2
    go_ret
    exact HR.out

theorem made_zeros (n : Nat) : List.replicate n (Value.int .u8 ((0 : UInt8).toNat : Int)) = (madeCells (Value.int .u8 0).cells (n * 1)).toList := by
  rw [madeCells]
  apply List.ext_getElem?
  intro i
  rcases Nat.lt_or_ge i n with hi | hi
  · simp [hi, Value.cells, Nat.mod_one]
  · simp [hi]
/-- A made slice of bytes. -/
theorem make_bs (w : World) : ∃ w', (Instr.makeSlice 35 (.int .i64 128) (.int .i64 128)).run Try.prog w = .ok (.slice (some ⟨w.heap.size, 0, none⟩) 128 128) w' ∧ OwnBs w' w.heap.size (.slice (some ⟨w.heap.size, 0, none⟩) 128 128) zeros ∧ Below w.heap.size w w' := by
  obtain ⟨i, E⟩ := elem_by
  obtain ⟨w', hr, ho, hg⟩ := run_makeSlice_full (P := Try.prog) w w.heap.size 35 5 i (.int .u8 0) 1 E.ht E.hi E.hz E.hsize .i64 .i64 128 (by decide) (by rw [E.hby]; decide) (by simp [maxLen]) (Nat.le_refl _)
  refine ⟨w', hr, ?_, (Below.refl _ _).grown hg (Nat.le_refl _) (fun k hk => by cases hk)⟩
  have e : byV zeros = (madeCells (Value.int .u8 0).cells (128 * 1)).toList := by rw [byV, zeros, List.map_replicate]; exact made_zeros 128
  have e2 : zeros.length = 128 := by simp [zeros]
  unfold OwnBs
  rw [e, e2]
  exact ho
theorem zeros_length : zeros.length = 128 := by simp [zeros]
theorem byV_drop (l : Bs) (k : Nat) : (byV l).drop k = byV (l.drop k) := by simp [byV]
/-- Bytes copied into the head of a row of the call's own. -/
theorem run_copB {w : World} {base g n c d dc m mc : Nat} {A : Option Addr} {S : Nat → Prop} {l b : Bs} (ty : TypeId) (ho : OwnBs w base (.slice (some ⟨g, 0, none⟩) n c) l) (hn : l.length = n) (hd : d ≤ n) (hx : BsAt w S (.slice A m mc) b) (hm : b.length = m) :
    ∃ w', (copF #[35, 35] ty #[.slice (some ⟨g, 0, none⟩) d dc, .slice A m mc]).run Try.prog w = .ok (goInt (Nat.min m d)) w' ∧ OwnBs w' base (.slice (some ⟨g, 0, none⟩) n c) (b.take (Nat.min m d) ++ l.drop (Nat.min m d)) ∧ w.grownBy w' (some g) := by
  obtain ⟨i, E⟩ := elem_by
  subst hn hm
  obtain ⟨w', hr, ho', hg⟩ := own_copy E ty ho hd hx.2.sl (fun k _ => rfl)
  refine ⟨w', hr, ?_, hg⟩
  have h1 : Nat.min b.length d ≤ b.length := Nat.min_le_left _ _
  have h2 : Nat.min b.length d ≤ d := Nat.min_le_right _ _
  rw [byV_range h1, byV_drop, ← byV_append] at ho'
  unfold OwnBs
  have e : (b.take (Nat.min b.length d) ++ l.drop (Nat.min b.length d)).length = l.length := by
    rw [List.length_append, List.length_take, List.length_drop]; omega
  rw [e]
  exact ho'
theorem dClipW_any (l : List Wr) (A : Option Addr) (n c : Nat) (S : Nat → Prop) (w : World) (h : WsAt w S (.slice A n c) l) : Calls Try.prog 37 #[.slice A n c] w fun e w' => e = .returned (.slice A n n) ∧ Hid (WsAt w S (.slice A n n) l) ∧ w = w' := by
  obtain ⟨hf, g, ⟨A', c', hv, hm, hs⟩, hb⟩ := h
  cases hv
  have key : SlF (.slice A l.length l.length) → Hid (WsAt w S (.slice A l.length l.length) l) := fun h => ⟨h, g, ⟨A, l.length, rfl, hm, hs⟩, hb⟩
  rcases hf with h | ⟨a, n', c', h, hnc, hcm⟩
  · obtain ⟨rfl, hl, rfl⟩ : A = none ∧ l.length = 0 ∧ c = 0 := by simpa using h
    have K := key (.inl (by rw [hl]))
    clear key hs hb hm
    rw [hl] at K ⊢
    go_enter Try.func37, Try.ntmps37
    go_wp2
    go_ret
    exact ⟨rfl, K, rfl⟩
  · obtain ⟨rfl, hl, rfl⟩ : A = some a ∧ l.length = n' ∧ c = c' := by simpa using h
    have K := key (.inr ⟨a, _, _, rfl, Nat.le_refl _, by omega⟩)
    clear key hs hb hm
    unfold maxLen at hcm
    rw [hl] at K ⊢
    have h1 : (n' : Int) ≤ (c : Int) := by omega
    clear hl h hnc
    go_enter Try.func37, Try.ntmps37
    go_wp2
    go_ret
    exact ⟨rfl, K, rfl⟩

end Go.Proofs.Ytdmeogkdoeaemaa
