/- slices.Clone over sectors, writes and bytes; rows of the call's own. No condition. -/
import Derived.Test.YthlidhfahaalgaaQDG
set_option linter.unusedVariables false
set_option linter.unusedSimpArgs false
namespace Go.Proofs.Ythlidhfahaalgaa
open Go.RowKit
attribute [local go_sem ↓ high] app_named

theorem Box.keep {w w' : World} {b D : Nat} {xs : List Value} (h : Box w b xs) (hb : b < D) (hB : Below D w w') : Box w' b xs := h.same (hB.block b hb)
theorem info_by : (Try.prog.info? 5).map (fun i => (i.zero, i.size, i.bytes)) = some (some (.int .u8 0), 1, 1) := by kernel_rfl
theorem elem_by : ∃ i, Elem 35 5 i (.int .u8 0) 1 1 := by
  obtain ⟨i, hi, h0, h1, h2⟩ := info_parts info_by
  exact ⟨i, Try.underlying35, hi, h0, h1, h2, rfl, by decide⟩
theorem info_rw : (Try.prog.info? 35).map (fun i => (i.zero, i.size, i.bytes)) = some (some (.slice none 0 0), 1, 24) := by kernel_rfl
theorem elem_rw : ∃ i, Elem 22 35 i (.slice none 0 0) 1 24 := by
  obtain ⟨i, hi, h0, h1, h2⟩ := info_parts info_rw
  exact ⟨i, Try.underlying22, hi, h0, h1, h2, rfl, by decide⟩
theorem info_wr : (Try.prog.info? 76).map (fun i => (i.zero, i.size, i.bytes)) = some (some (.agg #[.int .i64 0, .slice none 0 0]), 2, 32) := by kernel_rfl
theorem elem_wr : ∃ i, Elem 23 76 i (.agg #[.int .i64 0, .slice none 0 0]) 2 32 := by
  obtain ⟨i, hi, h0, h1, h2⟩ := info_parts info_wr
  exact ⟨i, Try.underlying23, hi, h0, h1, h2, rfl, by decide⟩

theorem run_clone {t e : TypeId} {i : TypeInfo} {z : Value} {size bytes : Nat} (E : Elem t e i z size bytes) {w : World} {S : Nat → Prop} {n c : Nat} {A : Option Addr} {g : Nat → Nat → Value} (hv : SlP w S size n g (.slice A n c)) (hf : SlF (.slice A n c))
    (h1 : ∀ k j, k < n → j < size → (g k j).oneCell' = true) (hbytes : n * bytes ≤ 140737488355328) :
    ∃ v' w', (appF #[t, t] t #[.slice (some ⟨w.heap.size, 0, none⟩) 0 0, .slice A n c]).run Try.prog (w.alloc (.cells #[] e)) = .ok v' w' ∧ w'.ownsRow w.heap.size e size v' n (flat n size g) ∧ Below w.heap.size w w' := by
  have hb := (Below.refl w.heap.size w).alloc (Nat.le_refl _) (.cells #[] e)
  have hown : (w.alloc (.cells #[] e)).ownsRow w.heap.size e size (.slice (some ⟨w.heap.size, 0, none⟩) 0 0) 0 (flat 0 size g) := by
    refine ⟨by simp [flat], .inr ⟨w.heap.size, 0, #[], rfl, Nat.le_refl _, ?_, Nat.le_refl _, Nat.zero_le _, by simp, by simp [flat]⟩⟩
    show (w.heap.push _)[w.heap.size]? = _
    simp
  have hm : n ≤ maxLen := by
    obtain ⟨_, _, e1, hm⟩ := hv.form
    exact hm
  obtain ⟨v', w', hr, ho, hg⟩ := run_app_own E t hown (hv.keep (Keeps.of hb)).sl hf h1 (by omega) (by rw [Nat.zero_add]; exact hbytes) hb.size
  rw [Nat.zero_add] at ho
  refine ⟨v', w', hr, ?_, hb.grown hg hb.size (fun k hk => ?_)⟩
  · rw [flat_congr' E.hsz (h := g) (fun i j _ _ => by rw [cat, if_neg (by omega), Nat.sub_zero])] at ho
    exact ho
  · cases hk
    exact Nat.le_refl _

/-- v is a slice of byte slices that owns its row; their bytes lie in blocks of the kind S. -/
def OwnRw (w : World) (base : Nat) (S : Nat → Prop) (v : Value) (l : List Bs) : Prop :=
  ∃ xs : List Value, w.ownsRow base 35 1 v l.length xs ∧ ∀ (i : Nat) (x : Bs) (u : Value), l[i]? = some x → xs[i]? = some u → BsAt w S u x
theorem OwnRw.keep {w w' : World} {base : Nat} {S : Nat → Prop} {v : Value} {l : List Bs} (h : OwnRw w base S v l) (hb : Below w.heap.size w w') : OwnRw w' base S v l := by
  obtain ⟨xs, h1, h2⟩ := h
  refine ⟨xs, ?_, fun i x u hx hu => (h2 i x u hx hu).keep (Keeps.of hb)⟩
  obtain ⟨hl, h1⟩ := h1
  refine ⟨hl, ?_⟩
  rcases h1 with h1 | ⟨g, cap, cur, hv, hbg, hg, hr⟩
  · exact .inl h1
  · exact .inr ⟨g, cap, cur, hv, hbg, (hb.block g (Array.getElem?_eq_some_iff.1 hg).1).trans hg, hr⟩
theorem OwnRw.rows {w : World} {base : Nat} {S S' : Nat → Prop} {v : Value} {l : List Bs} (h : OwnRw w base S v l) (hm : l.length ≤ maxLen) (h1 : ∀ b, S b → b < w.heap.size → S' b) (h2 : ∀ b, base ≤ b → S' b) : RwAt w S' v l := by
  obtain ⟨xs, ho, hb⟩ := h
  have hl : xs.length = l.length := by simpa using ho.1
  have ho' : w.ownsRow base 35 1 v l.length (flat l.length 1 (fun i _ => xs.getD i undef)) := by
    rw [flat_one]
    have : (List.range l.length).map (fun i => xs.getD i undef) = xs := by
      apply List.ext_getElem?
      intro i
      rcases Nat.lt_or_ge i l.length with hi | hi
      · simp [hi, hl]
      · simp [hi, hl]
    rw [this]
    exact ho
  obtain ⟨s, f⟩ := own_slp ho' hm
  refine ⟨f, fun i => xs.getD i undef, s.weak fun b hb _ => h2 b hb, fun i x hx => ?_⟩
  have hi : i < xs.length := by rw [hl]; exact (List.getElem?_eq_some_iff.1 hx).1
  have hu : xs[i]? = some xs[i] := List.getElem?_eq_getElem hi
  have := (hb i x _ hx hu).weak h1
  show BsAt w S' (xs.getD i undef) x
  rw [List.getD_eq_getElem?_getD, hu]
  exact this
theorem OwnRw.keepK {w w' : World} {base : Nat} {S : Nat → Prop} {v : Value} {l : List Bs} (h : OwnRw w base S v l) (hk : Keeps (Old (fun b => S b ∨ base ≤ b) w) w w') : OwnRw w' base S v l := by
  obtain ⟨xs, h1, h2⟩ := h
  refine ⟨xs, ?_, fun i x u hx hu => ?_⟩
  · obtain ⟨hl, h1⟩ := h1
    refine ⟨hl, ?_⟩
    rcases h1 with h1 | ⟨g, cap, cur, hv, hbg, hg, hr⟩
    · exact .inl h1
    · have hlt := (Array.getElem?_eq_some_iff.1 hg).1
      exact .inr ⟨g, cap, cur, hv, hbg, (hk.2 g ⟨.inr hbg, hlt⟩ hlt).trans hg, hr⟩
  · have hu' : BsAt w (Old (fun b => S b ∨ base ≤ b) w) u x := (h2 i x u hx hu).weak fun b hb hl => ⟨.inl hb, hl⟩
    obtain ⟨hf, hs⟩ := hu'.keep hk
    obtain ⟨A, c, e1, e2, e3⟩ := (h2 i x u hx hu).2
    obtain ⟨_, A', c', e1', _, e3'⟩ := hu'.keep hk
    refine ⟨hf, A, c, e1, e2, fun k hk' => ?_⟩
    obtain ⟨b, off, hA, hS, hbl, _⟩ := e3 k hk'
    obtain ⟨b', off', hA', _, hbl', hc'⟩ := e3' k hk'
    have : A = A' := by rw [e1] at e1'; injection e1'
    subst this
    rw [hA] at hA'
    cases hA'
    exact ⟨b, off, hA, hS, hbl', hc'⟩
theorem OwnRw.weak {w : World} {base : Nat} {S S' : Nat → Prop} {v : Value} {l : List Bs} (h : OwnRw w base S v l) (h1 : ∀ b, S b → b < w.heap.size → S' b) : OwnRw w base S' v l := by
  obtain ⟨xs, ho, hb⟩ := h
  exact ⟨xs, ho, fun i x u hx hu => (hb i x u hx hu).weak h1⟩
theorem OwnRw.row {w : World} {base n : Nat} {S : Nat → Prop} {v : Value} {l : List Bs} (h : OwnRw w base S v l) (hn : l.length = n) (h0 : 0 < n) : ∃ g c, v = .slice (some ⟨g, 0, none⟩) n c ∧ n ≤ c ∧ base ≤ g ∧ g < w.heap.size ∧ (∀ i, i < n → ∃ u, w.cell? ⟨g, i, none⟩ = some u ∧ BsAt w S u (l.getD i [])) ∧ ∀ i, w.frozen? ⟨g, i, none⟩ = false := by
  subst hn
  obtain ⟨xs, ho, hb⟩ := h
  have hl : xs.length = l.length := by simpa using ho.1
  obtain ⟨g, c, rfl, hc⟩ : ∃ g c, v = .slice (some ⟨g, 0, none⟩) l.length c ∧ l.length ≤ c := by
    rcases ho.2 with ⟨_, h1⟩ | ⟨g, cap, cur, hv, _, _, hc, _⟩
    · omega
    · exact ⟨g, cap, hv, hc⟩
  obtain ⟨h1, h2, h3, h4⟩ := own_cell ho
  refine ⟨g, c, rfl, hc, h1, h2, fun i hi => ?_, h4⟩
  have hu : xs[i]? = some (xs[i]'(by omega)) := List.getElem?_eq_getElem (by omega)
  have hx : l[i]? = some (l[i]'hi) := List.getElem?_eq_getElem hi
  refine ⟨_, (h3 i hi).trans hu, ?_⟩
  have := hb i _ _ hx hu
  rw [List.getD_eq_getElem?_getD, hx]
  exact this
theorem OwnRw.set {w : World} {base g n c i : Nat} {S : Nat → Prop} {l : List Bs} {x : Bs} {u : Value} (h : OwnRw w base S (.slice (some ⟨g, 0, none⟩) n c) l) (hS : ¬ S g) (hi : i < n) (hn : l.length = n) (hu : BsAt w S u x) :
    OwnRw (w.setCell ⟨g, i, none⟩ u) base S (.slice (some ⟨g, 0, none⟩) n c) (l.set i x) := by
  subst hn
  obtain ⟨xs, ho, hb⟩ := h
  have hk : Keeps S w (w.setCell ⟨g, i, none⟩ u) := Keeps.set w (a := ⟨g, i, none⟩) hS u
  refine ⟨xs.set i u, ?_, fun j y v hy hv => ?_⟩
  · rw [List.length_set]
    exact own_set ho u
  · rw [List.getElem?_set] at hy hv
    by_cases hij : i = j
    · subst hij
      have hl : xs.length = l.length := by simpa using ho.1
      rw [if_pos rfl, if_pos hi] at hy
      rw [if_pos rfl, if_pos (by omega)] at hv
      cases hy
      cases hv
      exact hu.keep hk
    · rw [if_neg hij] at hy hv
      exact (hb j y v hy hv).keep hk

theorem bsAt_one {w : World} {S : Nat → Prop} {V : Value} {l : Bs} (h : BsAt w S V l) : V.oneCell' = true := by
  obtain ⟨A, c, rfl, _⟩ := h.form
  rfl
theorem WsAt.take {w : World} {S : Nat → Prop} {b off n c j : Nat} {l : List Wr} (h : WsAt w S (.slice (some ⟨b, off, none⟩) n c) l) (hj : j ≤ n) : WsAt w S (.slice (some ⟨b, off, none⟩) j j) (l.take j) := by
  obtain ⟨hf, V, hs, hb⟩ := h
  have hn : n = l.length := by
    obtain ⟨_, _, hv, _⟩ := hs
    cases hv
    rfl
  subst hn
  have hm : l.length ≤ maxLen := by
    obtain ⟨_, _, _, hm, _⟩ := hs
    exact hm
  have hl : (l.take j).length = j := by rw [List.length_take]; omega
  refine ⟨.inr ⟨_, _, _, rfl, Nat.le_refl _, by omega⟩, V, ?_, fun i x hx => ?_⟩
  · rw [hl]
    refine ((hs.part 0 j j (by omega)).congr fun i k hi hk => ?_) |> fun h => by simpa using h
    simp only [Nat.zero_add, wrCells, List.getD_eq_getElem?_getD, List.getElem?_take, if_pos hi]
  · have hi : i < j := by
      have := (List.getElem?_eq_some_iff.1 hx).1
      omega
    rw [List.getElem?_take, if_pos hi] at hx
    exact hb i x hx
theorem DkAt.old {w : World} {S : Nat → Prop} {Vs Vp : Value} {d : Dk} (h : DkAt w S Vs Vp d) : DkAt w (Old S w) Vs Vp d := h.weak fun _ hb hl => ⟨hb, hl⟩
def RetOwn (l : List Bs) (S : Nat → Prop) (w : World) (e : Ending) (w' : World) : Prop := ∃ V, e = .returned V ∧ OwnRw w' w.heap.size (Old S w) V l ∧ Below w.heap.size w w'
theorem SlP.old {w : World} {S : Nat → Prop} {size n : Nat} {g : Nat → Nat → Value} {v : Value} (h : SlP w S size n g v) : SlP w (Old S w) size n g v := h.weak fun _ hb hl => ⟨hb, hl⟩
theorem BsAt.old {w : World} {S : Nat → Prop} {v : Value} {l : Bs} (h : BsAt w S v l) : BsAt w (Old S w) v l := h.weak fun _ hb hl => ⟨hb, hl⟩
set_option maxRecDepth 100000 in
theorem dCloneS_any (l : List Bs) (V : Value) (S : Nat → Prop) (w : World) (h : RwAt w S V l) (hn : l.length ≤ 1048576) : Calls Try.prog 69 #[V] w (RetOwn l S w) := by
  obtain ⟨hf, g, hs, hb⟩ := h
  obtain ⟨A, c, rfl, hm⟩ := hs.form
  obtain ⟨i, E⟩ := elem_rw
  have H : A ≠ none → ∃ v' w', (appF #[22, 22] 22 #[.slice (some ⟨w.heap.size, 0, none⟩) 0 0, .slice A l.length c]).run Try.prog (w.alloc (.cells #[] 35)) = .ok v' w' ∧ OwnRw w' w.heap.size (Old S w) v' l ∧ Below w.heap.size w w' := by
    intro _
    obtain ⟨v', w', hr, ho, hbel⟩ := run_clone E hs hf (fun k j hk _ => bsAt_one (hb k _ (List.getElem?_eq_getElem hk))) (by omega)
    refine ⟨v', w', hr, ⟨_, ho, fun j x u hx hu => ?_⟩, hbel⟩
    have hj := (List.getElem?_eq_some_iff.1 hx).1
    rw [flat_one, List.getElem?_map, List.getElem?_range hj] at hu
    cases hu
    exact ((hb j x hx).old).keep (Keeps.of hbel)
  rcases A with _ | A
  · obtain ⟨h0, _⟩ := hs.sl.none_zero
    have hlen := hs.sl.none_zero.2
    obtain rfl : l = [] := List.eq_nil_of_length_eq_zero hlen
    have hz : c = 0 := by
      rcases hf with h | ⟨a, n, c', h, _⟩
      · injection h
      · injection h with h; cases h
    subst hz
    clear H h0 hlen hf
    have he : ∀ w : World, (binOp .eql 22 (.slice none 0 0) (.slice none 0 0)).run Try.prog w = .ok (.bool true) w := fun _ => rfl
    have hres : RetOwn [] S w (.returned (.slice none 0 0)) w := ⟨_, rfl, ⟨[], ⟨rfl, .inl ⟨rfl, rfl⟩⟩, fun i x u hx _ => by simp at hx⟩, Below.refl _ _⟩
    have HR := Lib.hid hres
    show Calls Try.prog _ #[.slice none 0 0] w _
    clear hres hs hb hn hm
    go_enter Try.func69, Try.ntmps69
    go_wp2
    go_ret
    exact HR.out
  · obtain ⟨v', w', hr, ho, hbel⟩ := H (by simp)
    have HR : Hid (RetOwn l S w (.returned v') w') := ⟨_, rfl, ho, hbel⟩
    clear H hf hs hb ho hbel
    unfold maxLen at hm
    generalize l.length = n at hr hm hn ⊢
    have he : ∀ w : World, (binOp .eql 22 (.slice (some A) n c) (.slice none 0 0)).run Try.prog w = .ok (.bool false) w := fun _ => rfl
    go_enter Try.func69, Try.ntmps69
    go_wp2
    go_ret
    exact HR.out

/-- A clone of writes. -/
def RetWs (l : List Wr) (S : Nat → Prop) (w : World) (e : Ending) (w' : World) : Prop := ∃ V, e = .returned V ∧ WsAt w' (Grow S w) V l ∧ Below w.heap.size w w'
theorem wr_one {w : World} {S : Nat → Prop} {l : List Wr} {V : Nat → Value} (h : ∀ (i : Nat) (x : Wr), l[i]? = some x → BsAt w S (V i) x.data) {i j : Nat} (hi : i < l.length) : (wrCells l V i j).oneCell' = true := by
  unfold wrCells
  split
  · rfl
  · exact bsAt_one (h i _ (List.getElem?_eq_getElem hi))
set_option maxRecDepth 100000 in
theorem dCloneW_any (l : List Wr) (V : Value) (S : Nat → Prop) (w : World) (h : WsAt w S V l) (hn : l.length ≤ 1048576) : Calls Try.prog 53 #[V] w (RetWs l S w) := by
  obtain ⟨hf, g, hs, hb⟩ := h
  obtain ⟨A, c, rfl, hm⟩ := hs.form
  obtain ⟨i, E⟩ := elem_wr
  have H : A ≠ none → ∃ v' w', (appF #[23, 23] 23 #[.slice (some ⟨w.heap.size, 0, none⟩) 0 0, .slice A l.length c]).run Try.prog (w.alloc (.cells #[] 76)) = .ok v' w' ∧ WsAt w' (Grow S w) v' l ∧ Below w.heap.size w w' := by
    intro _
    obtain ⟨v', w', hr, ho, hbel⟩ := run_clone E hs hf (fun k j hk _ => wr_one hb hk) (by omega)
    obtain ⟨s, f⟩ := own_slp ho hm
    exact ⟨v', w', hr, ⟨f, g, s.weak fun _ h _ => .inr h, fun j x hx => ((hb j x hx).keep (Keeps.of hbel)).weak fun _ h _ => .inl h⟩, hbel⟩
  rcases A with _ | A
  · have hlen := hs.sl.none_zero.2
    obtain rfl : l = [] := List.eq_nil_of_length_eq_zero hlen
    have hz : c = 0 := by
      rcases hf with h | ⟨a, n, c', h, _⟩
      · injection h
      · injection h with h; cases h
    subst hz
    have he : ∀ w : World, (binOp .eql 23 (.slice none 0 0) (.slice none 0 0)).run Try.prog w = .ok (.bool true) w := fun _ => rfl
    have HR : Hid (RetWs [] S w (.returned (.slice none 0 0)) w) := ⟨_, rfl, wsAt_nil _ _, Below.refl _ _⟩
    show Calls Try.prog _ #[.slice none 0 0] w _
    clear hs hb hn hm H hlen hf
    go_enter Try.func53, Try.ntmps53
    go_wp2
    go_ret
    exact HR.out
  · obtain ⟨v', w', hr, ho, hbel⟩ := H (by simp)
    have HR : Hid (RetWs l S w (.returned v') w') := ⟨_, rfl, ho, hbel⟩
    clear H hf hs hb ho hbel
    unfold maxLen at hm
    generalize l.length = n at hr hm hn ⊢
    have he : ∀ w : World, (binOp .eql 23 (.slice (some A) n c) (.slice none 0 0)).run Try.prog w = .ok (.bool false) w := fun _ => rfl
    go_enter Try.func53, Try.ntmps53
    go_wp2
    go_ret
    exact HR.out
/-- The cells of bytes. -/
def byV (l : Bs) : List Value := l.map fun c => .int .u8 (c.toNat : Int)
theorem byV_length (l : Bs) : (byV l).length = l.length := by simp [byV]
theorem byV_append (l m : Bs) : byV (l ++ m) = byV l ++ byV m := by simp [byV]
theorem byV_flat (l : Bs) : flat l.length 1 (fun i _ => .int .u8 ((l.getD i 0).toNat : Int)) = byV l := by
  rw [flat_one]
  apply List.ext_getElem?
  intro i
  rcases Nat.lt_or_ge i l.length with hi | hi
  · simp [byV, hi]
  · simp [byV, hi]
theorem byV_range {l : Bs} {k : Nat} (h : k ≤ l.length) : (List.range k).map (fun i => Value.int .u8 ((l.getD i 0).toNat : Int)) = byV (l.take k) := by
  apply List.ext_getElem?
  intro i
  rcases Nat.lt_or_ge i k with hi | hi
  · have : i < l.length := by omega
    simp [byV, hi, this]
  · rw [List.getElem?_eq_none (by simp; omega), List.getElem?_eq_none (by simp [byV]; omega)]
/-- A row of bytes of the call's own. -/
def OwnBs (w : World) (base : Nat) (v : Value) (l : Bs) : Prop := w.ownsRow base 5 1 v l.length (byV l)
theorem OwnBs.bs {w : World} {base : Nat} {v : Value} {l : Bs} (h : OwnBs w base v l) (hm : l.length ≤ maxLen) : BsAt w (fun b => base ≤ b) v l := by
  unfold OwnBs at h
  rw [← byV_flat] at h
  obtain ⟨s, f⟩ := own_slp h hm
  exact ⟨f, s⟩
theorem OwnBs.form {w : World} {base : Nat} {v : Value} {l : Bs} (h : OwnBs w base v l) (h0 : 0 < l.length) : ∃ g c, v = .slice (some ⟨g, 0, none⟩) l.length c ∧ base ≤ g ∧ g < w.heap.size ∧ l.length ≤ c ∧ c ≤ maxLen := by
  rcases h.2 with ⟨_, h1⟩ | ⟨g, cap, cur, hv, hb, hg, hc, hcm, _⟩
  · omega
  · exact ⟨g, cap, hv, hb, (Array.getElem?_eq_some_iff.1 hg).1, hc, hcm⟩
theorem OwnBs.own {w : World} {base n c : Nat} {A : Option Addr} {l : Bs} (h : OwnBs w base (.slice A n c) l) (hl : l.length = n) (k : Nat) (hk : k < n) : ∃ b off, A = some ⟨b, off, none⟩ ∧ base ≤ b ∧ b < w.heap.size ∧ ∀ j, j < 1 → w.cell? ⟨b, off + (k * 1 + j), none⟩ = some (.int .u8 ((l.getD k 0).toNat : Int)) := by
  unfold OwnBs at h
  rw [hl, show byV l = flat n 1 (fun i _ => .int .u8 ((l.getD i 0).toNat : Int)) by rw [← hl, byV_flat]] at h
  rcases h.2 with ⟨h1, _⟩ | ⟨g, cap, cur, hv, hb, hg, hc, hcm, hs, hx⟩
  · injection h1 with _ h2; omega
  · cases hv
    have hlt : g < w.heap.size := (Array.getElem?_eq_some_iff.1 hg).1
    have hcell := h.cells (g := g) rfl
    refine ⟨g, 0, rfl, hb, hlt, fun j hj => ?_⟩
    have := hcell _ _ (flat_at (fun i _ => .int .u8 ((l.getD i 0).toNat : Int)) hk hj)
    rw [add_at] at this
    exact this
def RetOB (l : Bs) (w : World) (e : Ending) (w' : World) : Prop := ∃ V, e = .returned V ∧ OwnBs w' w.heap.size V l ∧ Below w.heap.size w w'
set_option maxRecDepth 100000 in
theorem dCloneB_any (l : Bs) (V : Value) (S : Nat → Prop) (w : World) (h : BsAt w S V l) (hn : l.length ≤ 1048576) (h0 : 0 < l.length) : Calls Try.prog 38 #[V] w (RetOB l w) := by
  obtain ⟨hf, hs⟩ := h
  obtain ⟨A, c, rfl, hm⟩ := hs.form
  obtain ⟨i, E⟩ := elem_by
  obtain ⟨v', w', hr, ho, hbel⟩ := run_clone E hs hf (fun k j hk _ => rfl) (by omega)
  have HR : Hid (RetOB l w (.returned v') w') := ⟨_, rfl, by unfold OwnBs; rw [← byV_flat]; exact ho, hbel⟩
  rcases A with _ | A
  · have := hs.sl.none_zero.2
    omega
  · clear hf hs ho hbel
    unfold maxLen at hm
    generalize l.length = n at hr hm hn ⊢
    have he : ∀ w : World, (binOp .eql 35 (.slice (some A) n c) (.slice none 0 0)).run Try.prog w = .ok (.bool false) w := fun _ => rfl
    go_enter Try.func38, Try.ntmps38
    go_wp2
    go_ret
    exact HR.out

theorem made_zeros (n : Nat) : List.replicate n (Value.int .u8 ((0 : UInt8).toNat : Int)) = (madeCells (Value.int .u8 0).cells (n * 1)).toList := by
  rw [madeCells]
  apply List.ext_getElem?
  intro i
  rcases Nat.lt_or_ge i n with hi | hi
  · simp [hi, Value.cells, Nat.mod_one]
  · simp [hi]
/-- A made slice of bytes. -/
theorem make_bs (w : World) : ∃ w', (Instr.makeSlice 35 (.int .i64 128) (.int .i64 128)).run Try.prog w = .ok (.slice (some ⟨w.heap.size, 0, none⟩) 128 128) w' ∧ OwnBs w' w.heap.size (.slice (some ⟨w.heap.size, 0, none⟩) 128 128) zeros ∧ Below w.heap.size w w' := by
  obtain ⟨i, E⟩ := elem_by
  obtain ⟨w', hr, ho, hg⟩ := run_makeSlice_full (P := Try.prog) w w.heap.size 35 5 i (.int .u8 0) 1 E.ht E.hi E.hz E.hsize .i64 .i64 128 (by decide) (by rw [E.hby]; decide) (by simp [maxLen]) (Nat.le_refl _)
  refine ⟨w', hr, ?_, (Below.refl _ _).grown hg (Nat.le_refl _) (fun k hk => by cases hk)⟩
  have e : byV zeros = (madeCells (Value.int .u8 0).cells (128 * 1)).toList := by rw [byV, zeros, List.map_replicate]; exact made_zeros 128
  have e2 : zeros.length = 128 := by simp [zeros]
  unfold OwnBs
  rw [e, e2]
  exact ho
theorem zeros_length : zeros.length = 128 := by simp [zeros]
theorem byV_drop (l : Bs) (k : Nat) : (byV l).drop k = byV (l.drop k) := by simp [byV]
/-- Bytes copied into the head of a row of the call's own. -/
theorem run_copB {w : World} {base g n c d dc m mc : Nat} {A : Option Addr} {S : Nat → Prop} {l b : Bs} (ty : TypeId) (ho : OwnBs w base (.slice (some ⟨g, 0, none⟩) n c) l) (hn : l.length = n) (hd : d ≤ n) (hx : BsAt w S (.slice A m mc) b) (hm : b.length = m) :
    ∃ w', (copF #[35, 35] ty #[.slice (some ⟨g, 0, none⟩) d dc, .slice A m mc]).run Try.prog w = .ok (goInt (Nat.min m d)) w' ∧ OwnBs w' base (.slice (some ⟨g, 0, none⟩) n c) (b.take (Nat.min m d) ++ l.drop (Nat.min m d)) ∧ w.grownBy w' (some g) := by
  obtain ⟨i, E⟩ := elem_by
  subst hn hm
  obtain ⟨w', hr, ho', hg⟩ := own_copy E ty ho hd hx.2.sl (fun k _ => rfl)
  refine ⟨w', hr, ?_, hg⟩
  have h1 : Nat.min b.length d ≤ b.length := Nat.min_le_left _ _
  have h2 : Nat.min b.length d ≤ d := Nat.min_le_right _ _
  rw [byV_range h1, byV_drop, ← byV_append] at ho'
  unfold OwnBs
  have e : (b.take (Nat.min b.length d) ++ l.drop (Nat.min b.length d)).length = l.length := by
    rw [List.length_append, List.length_take, List.length_drop]; omega
  rw [e]
  exact ho'
theorem dClipW_any (l : List Wr) (A : Option Addr) (n c : Nat) (S : Nat → Prop) (w : World) (h : WsAt w S (.slice A n c) l) : Calls Try.prog 52 #[.slice A n c] w fun e w' => e = .returned (.slice A n n) ∧ Hid (WsAt w S (.slice A n n) l) ∧ w = w' := by
  obtain ⟨hf, g, ⟨A', c', hv, hm, hs⟩, hb⟩ := h
  cases hv
  have key : SlF (.slice A l.length l.length) → Hid (WsAt w S (.slice A l.length l.length) l) := fun h => ⟨h, g, ⟨A, l.length, rfl, hm, hs⟩, hb⟩
  rcases hf with h | ⟨a, n', c', h, hnc, hcm⟩
  · obtain ⟨rfl, hl, rfl⟩ : A = none ∧ l.length = 0 ∧ c = 0 := by simpa using h
    have K := key (.inl (by rw [hl]))
    clear key hs hb hm
    rw [hl] at K ⊢
    go_enter Try.func52, Try.ntmps52
    go_wp2
    go_ret
    exact ⟨rfl, K, rfl⟩
  · obtain ⟨rfl, hl, rfl⟩ : A = some a ∧ l.length = n' ∧ c = c' := by simpa using h
    have K := key (.inr ⟨a, _, _, rfl, Nat.le_refl _, by omega⟩)
    clear key hs hb hm
    unfold maxLen at hcm
    rw [hl] at K ⊢
    have h1 : (n' : Int) ≤ (c : Int) := by omega
    clear hl h hnc
    go_enter Try.func52, Try.ntmps52
    go_wp2
    go_ret
    exact ⟨rfl, K, rfl⟩

end Go.Proofs.Ythlidhfahaalgaa

/-
  perform: the sectors after some writes. No condition.
-/
namespace Go.Proofs.Ythlidhfahaalgaa
open Go.RowKit

theorem perf_take {s : List Bs} {l : List Wr} {k : Nat} (hk : k < l.length) : perf s (l.take (k + 1)) = (perf s (l.take k)).set (l[k]).at'.toNat (l[k]).data := by
  rw [List.take_succ_eq_append_getElem hk, perf_snoc]
theorem perf_len {s : List Bs} {l : List Wr} (hs : ∀ x ∈ s, x.length = 128) (hl : ∀ x ∈ l, x.data.length = 128) : ∀ x ∈ perf s l, x.length = 128 := by
  induction l generalizing s with
  | nil => exact hs
  | cons y l ih =>
    rw [perf_cons]
    refine ih (fun x hx => ?_) (fun x hx => hl x (List.mem_cons_of_mem _ hx))
    rcases List.mem_or_eq_of_mem_set hx with h | h
    · exact hs x h
    · rw [h]; exact hl y List.mem_cons_self
set_option maxRecDepth 100000 in
set_option maxHeartbeats 4000000 in
theorem dPerform_any (s : List Bs) (l : List Wr) (Vs Vl : Value) (S : Nat → Prop) (w : World) (hs : RwAt w S Vs s) (hl : WsAt w S Vl l) (hn : s.length ≤ 1048576) (hin : Hid (∀ x ∈ l, 0 ≤ x.at' ∧ x.at' < (s.length : Int))) :
    Calls Try.prog 54 #[Vs, Vl] w (RetOwn (perf s l) S w) := by
  obtain ⟨A, c, rfl, hm⟩ := hl.form
  unfold maxLen at hm
  obtain ⟨m, hmm⟩ : ∃ m, l.length = m := ⟨_, rfl⟩
  obtain ⟨n, hnn⟩ : ∃ n, s.length = n := ⟨_, rfl⟩
  rw [hmm] at hm hl ⊢
  have HM := Lib.hid hmm
  have HN := Lib.hid hnn
  have HL := Lib.hid hl
  have C := Lib.hid (dCloneS_any s Vs S w hs hn)
  clear hs hl hmm hnn hn
  go_enter Try.func54, Try.ntmps54
  go_wp2_with fail
  refine C.out.mono ?_
  rintro e w1 ⟨V, rfl, ho, hb⟩
  clear C
  go_wp2_with fail
  go_loopw [12] (fun i wr => ∃ k : Nat, k ≤ m ∧ i = .int .i64 k ∧ OwnRw wr w.heap.size (Old S w) V (perf s (l.take k)) ∧ Below w.heap.size w wr) (fun i _ => m - (intOf i).toNat)
  case atStart => exact ⟨0, by omega, rfl, ho, hb⟩
  case round =>
    clear ho hb
    obtain ⟨k, hk, rfl, ho, hb⟩ := hrel
    by_cases hlt : k < m
    · have hkl : k < l.length := by rw [HM.out]; exact hlt
      obtain ⟨b, off, U, rfl, hS, hbw, q0, q1, hU⟩ := HL.out.wr hkl
      obtain ⟨hi1, hi2⟩ := hin.out _ (List.getElem_mem hkl)
      rw [HN.out] at hi2
      have q0 := (hb.cell hbw).trans q0
      have q1 := (hb.cell hbw).trans q1
      have hU := hU.old.keep (Keeps.of hb)
      have hpt := perf_take (s := s) hkl
      obtain ⟨⟨xa, xd⟩, hx⟩ : ∃ x, l[k] = x := ⟨_, rfl⟩
      rw [hx] at q0 hU hi1 hi2 hpt
      dsimp only at q0 hU hi1 hi2 hpt
      obtain ⟨Au, cu, rfl, _⟩ := hU.form
      obtain ⟨ul, hul⟩ : ∃ ul, xd.length = ul := ⟨_, rfl⟩
      rw [hul] at q1 hU
      clear hul
      obtain ⟨j, rfl⟩ : ∃ j : Nat, xa = j := ⟨xa.toNat, by omega⟩
      have HPT := Lib.hid hpt
      have HU := Lib.hid hU
      have hj : j < n := by omega
      clear hx hpt hU hi1
      have hpl : Hid ((perf s (l.take k)).length = n) := by rw [Hid, perf_length, HN.out]
      have ho2 := ho.keep ((Below.refl wr.heap.size wr).alloc (Nat.le_refl _) (.cells #[.int .i64 j, .slice Au ul cu] 76))
      obtain ⟨g, cc, rfl, hnc, hbg, hgw, hgc, hgf⟩ := ho2.row hpl.out (by omega)
      obtain ⟨u, hu, _⟩ := hgc j hj
      have hf := hgf j
      have HO := Lib.hid ho2
      have hjc : (j : Int) < (cc : Int) := by omega
      have hbA := hb.alloc hb.size (.cells #[.int .i64 j, .slice Au ul cu] 76)
      have HU2 := Lib.hid (HU.out.keep (Keeps.of ((Below.refl wr.heap.size wr).alloc (Nat.le_refl _) (.cells #[.int .i64 j, .slice Au ul cu] 76))))
      clear ho ho2 hgc hgf HU
      go_wp2
      refine ⟨⟨k + 1, by omega, by go_num, ?_, hbA.setCell (p := ⟨g, j, none⟩) hbg _⟩, by simp [intOf]; omega⟩
      rw [HPT.out, Int.toNat_natCast]
      exact HO.out.set (fun h => by have := h.2; omega) hj hpl.out HU2.out
    · obtain rfl : k = m := by omega
      have hfin : Hid (l.take k = l) := by rw [Hid, List.take_of_length_le (by rw [HM.out]; omega)]
      rw [hfin.out] at ho
      have HO := Lib.hid ho
      clear ho
      go_wp2
      go_ret
      exact ⟨_, rfl, HO.out, hb⟩

end Go.Proofs.Ythlidhfahaalgaa

/-
  Contract of Write of disk. (Printed by gen_df.py.)
-/
namespace Go.Proofs.Ythlidhfahaalgaa
open Go.RowKit
attribute [local go_sem ↓ high] app_named cop_named

/-- A result that is a disk and an error. -/
def RetDk (t : Dk × Int) (S : Nat → Prop) (w : World) (e : Ending) (w' : World) : Prop := ∃ (Vs Vp : Value) (m : Dk) (er : Int), e = .returned (.tuple #[m.v Vs Vp, .int .i64 er]) ∧ Hid (t = (m, er)) ∧ Hid (DkAt w' (Grow S w) Vs Vp m) ∧ Below w.heap.size w w'
theorem dRuns_at {d : Dk} {Vs Vp : Value} {S : Nat → Prop} {w : World} {l : Int} {s r : Bool} (hr : Hid (d.runs = r)) (hD : DkAt w S Vs Vp d) (hl : Hid (d.left = l)) (hs : Hid (d.stopped = s)) :
    Calls Try.prog 50 #[.agg #[Vs, Vp, .int .i64 l, .bool s]] w fun e w' => e = .returned (.bool r) ∧ Below w.heap.size w w' := by
  have := dRuns_any d Vs Vp S w hD
  rw [hr.out] at this
  rw [← hl.out, ← hs.out]
  exact this
theorem dHas_at {d : Dk} {Vs Vp : Value} {S : Nat → Prop} {w : World} {l i : Int} {s r : Bool} (hr : Hid (d.hasB i = r)) (hD : DkAt w S Vs Vp d) (hl : Hid (d.left = l)) (hs : Hid (d.stopped = s)) :
    Calls Try.prog 51 #[.agg #[Vs, Vp, .int .i64 l, .bool s], .int .i64 i] w fun e w' => e = .returned (.bool r) ∧ Below w.heap.size w w' := by
  have := dHas_any d Vs Vp i S w hD
  rw [hr.out] at this
  rw [← hl.out, ← hs.out]
  exact this

/-- One more write is appended to a slice without room. -/
theorem run_appW (l : List Wr) (x : Wr) {w : World} {S U : Nat → Prop} {A : Option Addr} {n bb : Nat} {V : Value} (h : WsAt w S (.slice A n n) l) (hn : l.length = n) (hX : Box w bb [.int .i64 x.at', V]) (hV : BsAt w U V x.data) (hm : n ≤ 1048576) :
    ∃ v' w', (appF #[23, 23] 23 #[.slice A n n, .slice (some ⟨bb, 0, none⟩) 1 1]).run Try.prog w = .ok v' w' ∧ WsAt w' (fun b => (Grow S w) b ∨ U b) v' (l ++ [x]) ∧ Below w.heap.size w w' := by
  obtain ⟨i, E⟩ := elem_wr
  obtain ⟨hf, g, hs, hb⟩ := h
  subst hn
  have hx : Sl w w.heap.size 2 1 (wrCells [x] fun _ => V) (.slice (some ⟨bb, 0, none⟩) 1 1) := by
    refine ⟨_, _, rfl, by simp [maxLen], fun i hi => ⟨bb, 0, rfl, hX.lt, fun j hj => ?_⟩⟩
    obtain rfl : i = 0 := by omega
    rcases (show j = 0 ∨ j = 1 by omega) with rfl | rfl
    · exact hX.cell 0
    · exact hX.cell 1
  have hone : ∀ k j, k < 1 → j < 2 → (wrCells [x] (fun _ => V) k j).oneCell' = true := by
    intro k j hk _
    obtain rfl : k = 0 := by omega
    unfold wrCells
    split
    · rfl
    · exact bsAt_one hV
  obtain ⟨v', w', hr, hs', hf', hbel⟩ := run_app_p E 23 hs hf hx (.inr ⟨_, _, _, rfl, Nat.le_refl _, by simp [maxLen]⟩) hone (.inl (by omega)) (by simp only [maxLen]; omega) (by omega)
  refine ⟨v', w', hr, ⟨hf', fun i => if i < l.length then g i else V, ?_, fun j y hy => ?_⟩, hbel⟩
  · rw [List.length_append]
    refine (hs'.weak (fun b hb _ => .inl hb)).congr fun i j hi hj => ?_
    unfold cat wrCells
    by_cases h : i < l.length
    · simp only [if_pos h, List.getD_eq_getElem?_getD, List.getElem?_append_left h]
    · obtain rfl : i = l.length := by omega
      simp
  · by_cases h : j < l.length
    · rw [List.getElem?_append_left h] at hy
      simp only [if_pos h]
      exact ((hb j y hy).keep (Keeps.of hbel)).weak fun b hb _ => .inl (.inl hb)
    · rw [List.getElem?_append_right (by omega)] at hy
      have hj : j - l.length = 0 := by
        rcases Nat.eq_zero_or_pos (j - l.length) with h0 | h0
        · exact h0
        · rw [List.getElem?_eq_none (by simp; omega)] at hy; cases hy
      rw [hj] at hy
      obtain rfl : x = y := by simpa using hy
      simp only [if_neg h]
      exact (hV.keep (Keeps.of hbel)).weak fun b hb _ => .inr hb

set_option maxRecDepth 100000 in
set_option maxHeartbeats 4000000 in
theorem dWrite_1 (d : Dk) (As : Option Addr) (ns cs : Nat) (Ap : Option Addr) (np cp : Nat) (dl : Int) (ds : Bool) (S : Nat → Prop) (w : World) (hD : Hid (DkAt w S (.slice As ns cs) (.slice Ap np cp) d)) (hdl : Hid (d.left = dl)) (hds : Hid (d.stopped = ds)) (i : Int) (Ab : Option Addr) (nb cb : Nat) (b : Bs) (hr : Hid (d.runs = false)) (hs : Hid (writeT d i b = (Dk.zero, 40))) : Calls Try.prog 26 #[.agg #[.slice As ns cs, .slice Ap np cp, .int .i64 dl, .bool ds], .int .i64 i, .slice Ab nb cb] w (RetDk (writeT d i b) S w) := by
  have HB0 : Below w.heap.size w ((w.alloc (.cells #[.slice As ns cs, .slice Ap np cp, .int .i64 dl, .bool ds] 25)).alloc (.cells #[.slice none 0 0, .slice none 0 0, .int .i64 0, .bool false] 25)) := (((Below.refl w.heap.size w).alloc (by simp <;> omega) (.cells #[.slice As ns cs, .slice Ap np cp, .int .i64 dl, .bool ds] 25)).alloc (by simp <;> omega) (.cells #[.slice none 0 0, .slice none 0 0, .int .i64 0, .bool false] 25))
  have HD0 := Lib.hid (hD.out.keep (Keeps.of HB0))
  go_enter Try.func26, Try.ntmps26
  go_wp2_with fail
  refine (dRuns_at hr HD0.out hdl hds).mono ?_
  rintro e w1 ⟨rfl, hb⟩
  have X0 := (((Box.newAt (n := w.heap.size) [.slice As ns cs, .slice Ap np cp, .int .i64 dl, .bool ds] 25 (by simp)).alloc _)).later hb
  have R := ((Box.newAt (n := w.heap.size + 1) [.slice none 0 0, .slice none 0 0, .int .i64 0, .bool false] 25 (by simp))).later hb
  have hB : Below w.heap.size w w1 := ((((Below.refl w.heap.size w).alloc (by simp <;> omega) _).alloc (by simp <;> omega) _)).trans (hb.mono (by simp <;> omega))
  clear hb
  have Rc0 : w1.cell? ⟨w.heap.size + 1, 0, none⟩ = some (.slice none 0 0) := R.cell 0
  have Rf0 : w1.frozen? ⟨w.heap.size + 1, 0, none⟩ = false := R.free 0
  have Rc1 : w1.cell? ⟨w.heap.size + 1, 1, none⟩ = some (.slice none 0 0) := R.cell 1
  have Rf1 : w1.frozen? ⟨w.heap.size + 1, 1, none⟩ = false := R.free 1
  have Rc2 : w1.cell? ⟨w.heap.size + 1, 2, none⟩ = some (.int .i64 0) := R.cell 2
  have Rf2 : w1.frozen? ⟨w.heap.size + 1, 2, none⟩ = false := R.free 2
  have Rc3 : w1.cell? ⟨w.heap.size + 1, 3, none⟩ = some (.bool false) := R.cell 3
  have Rf3 : w1.frozen? ⟨w.heap.size + 1, 3, none⟩ = false := R.free 3
  have Rz : w.heap.size + 1 < w1.heap.size := R.lt
  go_wp2
  have hY := ((((R.set 0 (.slice none 0 0)).set 1 (.slice none 0 0)).set 2 (.int .i64 0)).set 3 (.bool false))
  have hB := ((((hB.setCell (p := ⟨w.heap.size + 1, 0, none⟩) (by simp <;> omega) (.slice none 0 0)).setCell (p := ⟨w.heap.size + 1, 1, none⟩) (by simp <;> omega) (.slice none 0 0)).setCell (p := ⟨w.heap.size + 1, 2, none⟩) (by simp <;> omega) (.int .i64 0)).setCell (p := ⟨w.heap.size + 1, 3, none⟩) (by simp <;> omega) (.bool false))
  generalize ((((w1.setCell ⟨w.heap.size + 1, 0, none⟩ (.slice none 0 0)).setCell ⟨w.heap.size + 1, 1, none⟩ (.slice none 0 0)).setCell ⟨w.heap.size + 1, 2, none⟩ (.int .i64 0)).setCell ⟨w.heap.size + 1, 3, none⟩ (.bool false)) = W at hY hB ⊢
  have y0 : W.cell? ⟨w.heap.size + 1, 0, none⟩ = some (.slice none 0 0) := hY.cell 0
  have y1 : W.cell? ⟨w.heap.size + 1, 1, none⟩ = some (.slice none 0 0) := hY.cell 1
  have y2 : W.cell? ⟨w.heap.size + 1, 2, none⟩ = some (.int .i64 0) := hY.cell 2
  have y3 : W.cell? ⟨w.heap.size + 1, 3, none⟩ = some (.bool false) := hY.cell 3
  refine bodyPost_ret (v := .tuple #[.agg #[.slice none 0 0, .slice none 0 0, .int .i64 0, .bool false], .int .i64 40]) (by simp [results, Try.results26, go_sem, y0, y1, y2, y3]) rfl ?_
  exact ⟨_, _, Dk.zero, 40, rfl, hs, dkAt_zero _ _, hB⟩

set_option maxRecDepth 100000 in
set_option maxHeartbeats 4000000 in
theorem dWrite_2 (d : Dk) (As : Option Addr) (ns cs : Nat) (Ap : Option Addr) (np cp : Nat) (dl : Int) (ds : Bool) (S : Nat → Prop) (w : World) (hD : Hid (DkAt w S (.slice As ns cs) (.slice Ap np cp) d)) (hdl : Hid (d.left = dl)) (hds : Hid (d.stopped = ds)) (i : Int) (Ab : Option Addr) (nb cb : Nat) (b : Bs) (hr : Hid (d.runs = true)) (hh : Hid (d.hasB i = false)) (hs : Hid (writeT d i b = (Dk.zero, 40))) : Calls Try.prog 26 #[.agg #[.slice As ns cs, .slice Ap np cp, .int .i64 dl, .bool ds], .int .i64 i, .slice Ab nb cb] w (RetDk (writeT d i b) S w) := by
  have HB0 : Below w.heap.size w ((w.alloc (.cells #[.slice As ns cs, .slice Ap np cp, .int .i64 dl, .bool ds] 25)).alloc (.cells #[.slice none 0 0, .slice none 0 0, .int .i64 0, .bool false] 25)) := (((Below.refl w.heap.size w).alloc (by simp <;> omega) (.cells #[.slice As ns cs, .slice Ap np cp, .int .i64 dl, .bool ds] 25)).alloc (by simp <;> omega) (.cells #[.slice none 0 0, .slice none 0 0, .int .i64 0, .bool false] 25))
  have HD0 := Lib.hid (hD.out.keep (Keeps.of HB0))
  go_enter Try.func26, Try.ntmps26
  go_wp2_with fail
  refine (dRuns_at hr HD0.out hdl hds).mono ?_
  rintro e w1 ⟨rfl, hb⟩
  have X0 := (((Box.newAt (n := w.heap.size) [.slice As ns cs, .slice Ap np cp, .int .i64 dl, .bool ds] 25 (by simp)).alloc _)).later hb
  have R := ((Box.newAt (n := w.heap.size + 1) [.slice none 0 0, .slice none 0 0, .int .i64 0, .bool false] 25 (by simp))).later hb
  have hB : Below w.heap.size w w1 := ((((Below.refl w.heap.size w).alloc (by simp <;> omega) _).alloc (by simp <;> omega) _)).trans (hb.mono (by simp <;> omega))
  clear hb
  have X0c0 : w1.cell? ⟨w.heap.size, 0, none⟩ = some (.slice As ns cs) := X0.cell 0
  have X0f0 : w1.frozen? ⟨w.heap.size, 0, none⟩ = false := X0.free 0
  have X0c1 : w1.cell? ⟨w.heap.size, 1, none⟩ = some (.slice Ap np cp) := X0.cell 1
  have X0f1 : w1.frozen? ⟨w.heap.size, 1, none⟩ = false := X0.free 1
  have X0c2 : w1.cell? ⟨w.heap.size, 2, none⟩ = some (.int .i64 dl) := X0.cell 2
  have X0f2 : w1.frozen? ⟨w.heap.size, 2, none⟩ = false := X0.free 2
  have X0c3 : w1.cell? ⟨w.heap.size, 3, none⟩ = some (.bool ds) := X0.cell 3
  have X0f3 : w1.frozen? ⟨w.heap.size, 3, none⟩ = false := X0.free 3
  have X0z : w.heap.size < w1.heap.size := X0.lt
  go_wp2_with fail
  refine (dHas_at hh (hD.out.keep (Keeps.of hB)) hdl hds).mono ?_
  rintro e w2 ⟨rfl, hb⟩
  clear X0c0 X0f0 X0c1 X0f1 X0c2 X0f2 X0c3 X0f3 X0z
  have X0 := X0.later hb
  have R := R.later hb
  have hB := hB.trans (hb.mono hB.size)
  clear hb
  have Rc0 : w2.cell? ⟨w.heap.size + 1, 0, none⟩ = some (.slice none 0 0) := R.cell 0
  have Rf0 : w2.frozen? ⟨w.heap.size + 1, 0, none⟩ = false := R.free 0
  have Rc1 : w2.cell? ⟨w.heap.size + 1, 1, none⟩ = some (.slice none 0 0) := R.cell 1
  have Rf1 : w2.frozen? ⟨w.heap.size + 1, 1, none⟩ = false := R.free 1
  have Rc2 : w2.cell? ⟨w.heap.size + 1, 2, none⟩ = some (.int .i64 0) := R.cell 2
  have Rf2 : w2.frozen? ⟨w.heap.size + 1, 2, none⟩ = false := R.free 2
  have Rc3 : w2.cell? ⟨w.heap.size + 1, 3, none⟩ = some (.bool false) := R.cell 3
  have Rf3 : w2.frozen? ⟨w.heap.size + 1, 3, none⟩ = false := R.free 3
  have Rz : w.heap.size + 1 < w2.heap.size := R.lt
  go_wp2
  have hY := ((((R.set 0 (.slice none 0 0)).set 1 (.slice none 0 0)).set 2 (.int .i64 0)).set 3 (.bool false))
  have hB := ((((hB.setCell (p := ⟨w.heap.size + 1, 0, none⟩) (by simp <;> omega) (.slice none 0 0)).setCell (p := ⟨w.heap.size + 1, 1, none⟩) (by simp <;> omega) (.slice none 0 0)).setCell (p := ⟨w.heap.size + 1, 2, none⟩) (by simp <;> omega) (.int .i64 0)).setCell (p := ⟨w.heap.size + 1, 3, none⟩) (by simp <;> omega) (.bool false))
  generalize ((((w2.setCell ⟨w.heap.size + 1, 0, none⟩ (.slice none 0 0)).setCell ⟨w.heap.size + 1, 1, none⟩ (.slice none 0 0)).setCell ⟨w.heap.size + 1, 2, none⟩ (.int .i64 0)).setCell ⟨w.heap.size + 1, 3, none⟩ (.bool false)) = W at hY hB ⊢
  have y0 : W.cell? ⟨w.heap.size + 1, 0, none⟩ = some (.slice none 0 0) := hY.cell 0
  have y1 : W.cell? ⟨w.heap.size + 1, 1, none⟩ = some (.slice none 0 0) := hY.cell 1
  have y2 : W.cell? ⟨w.heap.size + 1, 2, none⟩ = some (.int .i64 0) := hY.cell 2
  have y3 : W.cell? ⟨w.heap.size + 1, 3, none⟩ = some (.bool false) := hY.cell 3
  refine bodyPost_ret (v := .tuple #[.agg #[.slice none 0 0, .slice none 0 0, .int .i64 0, .bool false], .int .i64 40]) (by simp [results, Try.results26, go_sem, y0, y1, y2, y3]) rfl ?_
  exact ⟨_, _, Dk.zero, 40, rfl, hs, dkAt_zero _ _, hB⟩

set_option maxRecDepth 100000 in
set_option maxHeartbeats 4000000 in
theorem dWrite_3 (d : Dk) (As : Option Addr) (ns cs : Nat) (Ap : Option Addr) (np cp : Nat) (dl : Int) (ds : Bool) (S : Nat → Prop) (w : World) (hD : Hid (DkAt w S (.slice As ns cs) (.slice Ap np cp) d)) (hdl : Hid (d.left = dl)) (hds : Hid (d.stopped = ds)) (i : Int) (Ab : Option Addr) (nb cb : Nat) (b : Bs) (hr : Hid (d.runs = true)) (hh : Hid (d.hasB i = true)) (hl : 128 < nb) (hnb : nb ≤ 9223372036854775807) (hs : Hid (writeT d i b = (Dk.zero, 1))) : Calls Try.prog 26 #[.agg #[.slice As ns cs, .slice Ap np cp, .int .i64 dl, .bool ds], .int .i64 i, .slice Ab nb cb] w (RetDk (writeT d i b) S w) := by
  have HB0 : Below w.heap.size w ((w.alloc (.cells #[.slice As ns cs, .slice Ap np cp, .int .i64 dl, .bool ds] 25)).alloc (.cells #[.slice none 0 0, .slice none 0 0, .int .i64 0, .bool false] 25)) := (((Below.refl w.heap.size w).alloc (by simp <;> omega) (.cells #[.slice As ns cs, .slice Ap np cp, .int .i64 dl, .bool ds] 25)).alloc (by simp <;> omega) (.cells #[.slice none 0 0, .slice none 0 0, .int .i64 0, .bool false] 25))
  have HD0 := Lib.hid (hD.out.keep (Keeps.of HB0))
  go_enter Try.func26, Try.ntmps26
  go_wp2_with fail
  refine (dRuns_at hr HD0.out hdl hds).mono ?_
  rintro e w1 ⟨rfl, hb⟩
  have X0 := (((Box.newAt (n := w.heap.size) [.slice As ns cs, .slice Ap np cp, .int .i64 dl, .bool ds] 25 (by simp)).alloc _)).later hb
  have R := ((Box.newAt (n := w.heap.size + 1) [.slice none 0 0, .slice none 0 0, .int .i64 0, .bool false] 25 (by simp))).later hb
  have hB : Below w.heap.size w w1 := ((((Below.refl w.heap.size w).alloc (by simp <;> omega) _).alloc (by simp <;> omega) _)).trans (hb.mono (by simp <;> omega))
  clear hb
  have X0c0 : w1.cell? ⟨w.heap.size, 0, none⟩ = some (.slice As ns cs) := X0.cell 0
  have X0f0 : w1.frozen? ⟨w.heap.size, 0, none⟩ = false := X0.free 0
  have X0c1 : w1.cell? ⟨w.heap.size, 1, none⟩ = some (.slice Ap np cp) := X0.cell 1
  have X0f1 : w1.frozen? ⟨w.heap.size, 1, none⟩ = false := X0.free 1
  have X0c2 : w1.cell? ⟨w.heap.size, 2, none⟩ = some (.int .i64 dl) := X0.cell 2
  have X0f2 : w1.frozen? ⟨w.heap.size, 2, none⟩ = false := X0.free 2
  have X0c3 : w1.cell? ⟨w.heap.size, 3, none⟩ = some (.bool ds) := X0.cell 3
  have X0f3 : w1.frozen? ⟨w.heap.size, 3, none⟩ = false := X0.free 3
  have X0z : w.heap.size < w1.heap.size := X0.lt
  go_wp2_with fail
  refine (dHas_at hh (hD.out.keep (Keeps.of hB)) hdl hds).mono ?_
  rintro e w2 ⟨rfl, hb⟩
  clear X0c0 X0f0 X0c1 X0f1 X0c2 X0f2 X0c3 X0f3 X0z
  have X0 := X0.later hb
  have R := R.later hb
  have hB := hB.trans (hb.mono hB.size)
  clear hb
  have Rc0 : w2.cell? ⟨w.heap.size + 1, 0, none⟩ = some (.slice none 0 0) := R.cell 0
  have Rf0 : w2.frozen? ⟨w.heap.size + 1, 0, none⟩ = false := R.free 0
  have Rc1 : w2.cell? ⟨w.heap.size + 1, 1, none⟩ = some (.slice none 0 0) := R.cell 1
  have Rf1 : w2.frozen? ⟨w.heap.size + 1, 1, none⟩ = false := R.free 1
  have Rc2 : w2.cell? ⟨w.heap.size + 1, 2, none⟩ = some (.int .i64 0) := R.cell 2
  have Rf2 : w2.frozen? ⟨w.heap.size + 1, 2, none⟩ = false := R.free 2
  have Rc3 : w2.cell? ⟨w.heap.size + 1, 3, none⟩ = some (.bool false) := R.cell 3
  have Rf3 : w2.frozen? ⟨w.heap.size + 1, 3, none⟩ = false := R.free 3
  have Rz : w.heap.size + 1 < w2.heap.size := R.lt
  go_wp2
  have hY := ((((R.set 0 (.slice none 0 0)).set 1 (.slice none 0 0)).set 2 (.int .i64 0)).set 3 (.bool false))
  have hB := ((((hB.setCell (p := ⟨w.heap.size + 1, 0, none⟩) (by simp <;> omega) (.slice none 0 0)).setCell (p := ⟨w.heap.size + 1, 1, none⟩) (by simp <;> omega) (.slice none 0 0)).setCell (p := ⟨w.heap.size + 1, 2, none⟩) (by simp <;> omega) (.int .i64 0)).setCell (p := ⟨w.heap.size + 1, 3, none⟩) (by simp <;> omega) (.bool false))
  generalize ((((w2.setCell ⟨w.heap.size + 1, 0, none⟩ (.slice none 0 0)).setCell ⟨w.heap.size + 1, 1, none⟩ (.slice none 0 0)).setCell ⟨w.heap.size + 1, 2, none⟩ (.int .i64 0)).setCell ⟨w.heap.size + 1, 3, none⟩ (.bool false)) = W at hY hB ⊢
  have y0 : W.cell? ⟨w.heap.size + 1, 0, none⟩ = some (.slice none 0 0) := hY.cell 0
  have y1 : W.cell? ⟨w.heap.size + 1, 1, none⟩ = some (.slice none 0 0) := hY.cell 1
  have y2 : W.cell? ⟨w.heap.size + 1, 2, none⟩ = some (.int .i64 0) := hY.cell 2
  have y3 : W.cell? ⟨w.heap.size + 1, 3, none⟩ = some (.bool false) := hY.cell 3
  refine bodyPost_ret (v := .tuple #[.agg #[.slice none 0 0, .slice none 0 0, .int .i64 0, .bool false], .int .i64 1]) (by simp [results, Try.results26, go_sem, y0, y1, y2, y3]) rfl ?_
  exact ⟨_, _, Dk.zero, 1, rfl, hs, dkAt_zero _ _, hB⟩

set_option maxRecDepth 100000 in
set_option maxHeartbeats 4000000 in
theorem dWrite_4 (d : Dk) (As : Option Addr) (ns cs : Nat) (Ap : Option Addr) (np cp : Nat) (dl : Int) (ds : Bool) (S : Nat → Prop) (w : World) (hD : Hid (DkAt w S (.slice As ns cs) (.slice Ap np cp) d)) (hdl : Hid (d.left = dl)) (hds : Hid (d.stopped = ds)) (i : Int) (Ab : Option Addr) (nb cb : Nat) (b : Bs) (hr : Hid (d.runs = true)) (hh : Hid (d.hasB i = true)) (hl : nb ≤ 128) (hp : (np == 4096) = true) (hs : Hid (writeT d i b = (Dk.zero, 2))) : Calls Try.prog 26 #[.agg #[.slice As ns cs, .slice Ap np cp, .int .i64 dl, .bool ds], .int .i64 i, .slice Ab nb cb] w (RetDk (writeT d i b) S w) := by
  have HB0 : Below w.heap.size w ((w.alloc (.cells #[.slice As ns cs, .slice Ap np cp, .int .i64 dl, .bool ds] 25)).alloc (.cells #[.slice none 0 0, .slice none 0 0, .int .i64 0, .bool false] 25)) := (((Below.refl w.heap.size w).alloc (by simp <;> omega) (.cells #[.slice As ns cs, .slice Ap np cp, .int .i64 dl, .bool ds] 25)).alloc (by simp <;> omega) (.cells #[.slice none 0 0, .slice none 0 0, .int .i64 0, .bool false] 25))
  have HD0 := Lib.hid (hD.out.keep (Keeps.of HB0))
  go_enter Try.func26, Try.ntmps26
  go_wp2_with fail
  refine (dRuns_at hr HD0.out hdl hds).mono ?_
  rintro e w1 ⟨rfl, hb⟩
  have X0 := (((Box.newAt (n := w.heap.size) [.slice As ns cs, .slice Ap np cp, .int .i64 dl, .bool ds] 25 (by simp)).alloc _)).later hb
  have R := ((Box.newAt (n := w.heap.size + 1) [.slice none 0 0, .slice none 0 0, .int .i64 0, .bool false] 25 (by simp))).later hb
  have hB : Below w.heap.size w w1 := ((((Below.refl w.heap.size w).alloc (by simp <;> omega) _).alloc (by simp <;> omega) _)).trans (hb.mono (by simp <;> omega))
  clear hb
  have X0c0 : w1.cell? ⟨w.heap.size, 0, none⟩ = some (.slice As ns cs) := X0.cell 0
  have X0f0 : w1.frozen? ⟨w.heap.size, 0, none⟩ = false := X0.free 0
  have X0c1 : w1.cell? ⟨w.heap.size, 1, none⟩ = some (.slice Ap np cp) := X0.cell 1
  have X0f1 : w1.frozen? ⟨w.heap.size, 1, none⟩ = false := X0.free 1
  have X0c2 : w1.cell? ⟨w.heap.size, 2, none⟩ = some (.int .i64 dl) := X0.cell 2
  have X0f2 : w1.frozen? ⟨w.heap.size, 2, none⟩ = false := X0.free 2
  have X0c3 : w1.cell? ⟨w.heap.size, 3, none⟩ = some (.bool ds) := X0.cell 3
  have X0f3 : w1.frozen? ⟨w.heap.size, 3, none⟩ = false := X0.free 3
  have X0z : w.heap.size < w1.heap.size := X0.lt
  go_wp2_with fail
  refine (dHas_at hh (hD.out.keep (Keeps.of hB)) hdl hds).mono ?_
  rintro e w2 ⟨rfl, hb⟩
  clear X0c0 X0f0 X0c1 X0f1 X0c2 X0f2 X0c3 X0f3 X0z
  have X0 := X0.later hb
  have R := R.later hb
  have hB := hB.trans (hb.mono hB.size)
  clear hb
  have X0c0 : w2.cell? ⟨w.heap.size, 0, none⟩ = some (.slice As ns cs) := X0.cell 0
  have X0f0 : w2.frozen? ⟨w.heap.size, 0, none⟩ = false := X0.free 0
  have X0c1 : w2.cell? ⟨w.heap.size, 1, none⟩ = some (.slice Ap np cp) := X0.cell 1
  have X0f1 : w2.frozen? ⟨w.heap.size, 1, none⟩ = false := X0.free 1
  have X0c2 : w2.cell? ⟨w.heap.size, 2, none⟩ = some (.int .i64 dl) := X0.cell 2
  have X0f2 : w2.frozen? ⟨w.heap.size, 2, none⟩ = false := X0.free 2
  have X0c3 : w2.cell? ⟨w.heap.size, 3, none⟩ = some (.bool ds) := X0.cell 3
  have X0f3 : w2.frozen? ⟨w.heap.size, 3, none⟩ = false := X0.free 3
  have X0z : w.heap.size < w2.heap.size := X0.lt
  have Rc0 : w2.cell? ⟨w.heap.size + 1, 0, none⟩ = some (.slice none 0 0) := R.cell 0
  have Rf0 : w2.frozen? ⟨w.heap.size + 1, 0, none⟩ = false := R.free 0
  have Rc1 : w2.cell? ⟨w.heap.size + 1, 1, none⟩ = some (.slice none 0 0) := R.cell 1
  have Rf1 : w2.frozen? ⟨w.heap.size + 1, 1, none⟩ = false := R.free 1
  have Rc2 : w2.cell? ⟨w.heap.size + 1, 2, none⟩ = some (.int .i64 0) := R.cell 2
  have Rf2 : w2.frozen? ⟨w.heap.size + 1, 2, none⟩ = false := R.free 2
  have Rc3 : w2.cell? ⟨w.heap.size + 1, 3, none⟩ = some (.bool false) := R.cell 3
  have Rf3 : w2.frozen? ⟨w.heap.size + 1, 3, none⟩ = false := R.free 3
  have Rz : w.heap.size + 1 < w2.heap.size := R.lt
  go_wp2
  have hY := ((((R.set 0 (.slice none 0 0)).set 1 (.slice none 0 0)).set 2 (.int .i64 0)).set 3 (.bool false))
  have hB := ((((hB.setCell (p := ⟨w.heap.size + 1, 0, none⟩) (by simp <;> omega) (.slice none 0 0)).setCell (p := ⟨w.heap.size + 1, 1, none⟩) (by simp <;> omega) (.slice none 0 0)).setCell (p := ⟨w.heap.size + 1, 2, none⟩) (by simp <;> omega) (.int .i64 0)).setCell (p := ⟨w.heap.size + 1, 3, none⟩) (by simp <;> omega) (.bool false))
  generalize ((((w2.setCell ⟨w.heap.size + 1, 0, none⟩ (.slice none 0 0)).setCell ⟨w.heap.size + 1, 1, none⟩ (.slice none 0 0)).setCell ⟨w.heap.size + 1, 2, none⟩ (.int .i64 0)).setCell ⟨w.heap.size + 1, 3, none⟩ (.bool false)) = W at hY hB ⊢
  have y0 : W.cell? ⟨w.heap.size + 1, 0, none⟩ = some (.slice none 0 0) := hY.cell 0
  have y1 : W.cell? ⟨w.heap.size + 1, 1, none⟩ = some (.slice none 0 0) := hY.cell 1
  have y2 : W.cell? ⟨w.heap.size + 1, 2, none⟩ = some (.int .i64 0) := hY.cell 2
  have y3 : W.cell? ⟨w.heap.size + 1, 3, none⟩ = some (.bool false) := hY.cell 3
  refine bodyPost_ret (v := .tuple #[.agg #[.slice none 0 0, .slice none 0 0, .int .i64 0, .bool false], .int .i64 2]) (by simp [results, Try.results26, go_sem, y0, y1, y2, y3]) rfl ?_
  exact ⟨_, _, Dk.zero, 2, rfl, hs, dkAt_zero _ _, hB⟩

set_option maxRecDepth 100000 in
set_option maxHeartbeats 4000000 in
theorem dWrite_5 (d : Dk) (As : Option Addr) (ns cs : Nat) (Ap : Option Addr) (np cp : Nat) (dl : Int) (ds : Bool) (S : Nat → Prop) (w : World) (hD : Hid (DkAt w S (.slice As ns cs) (.slice Ap np cp) d)) (hdl : Hid (d.left = dl)) (hds : Hid (d.stopped = ds)) (i : Int) (Ab : Option Addr) (nb cb : Nat) (b : Bs) (hr : Hid (d.runs = true)) (hh : Hid (d.hasB i = true)) (hl : nb ≤ 128) (hp : (np == 4096) = false) (hnp : Hid (np ≤ 4096)) (hpl : Hid (d.pending.length = np)) (hbl : Hid (b.length = nb)) (hb : Hid (BsAt w S (.slice Ab nb cb) b)) (hs : Hid (writeT d i b = (⟨d.sectors, d.pending ++ [⟨i, padTo b⟩], d.left, d.stopped⟩, 0))) : Calls Try.prog 26 #[.agg #[.slice As ns cs, .slice Ap np cp, .int .i64 dl, .bool ds], .int .i64 i, .slice Ab nb cb] w (RetDk (writeT d i b) S w) := by
  have HB0 : Below w.heap.size w ((w.alloc (.cells #[.slice As ns cs, .slice Ap np cp, .int .i64 dl, .bool ds] 25)).alloc (.cells #[.slice none 0 0, .slice none 0 0, .int .i64 0, .bool false] 25)) := (((Below.refl w.heap.size w).alloc (by simp <;> omega) (.cells #[.slice As ns cs, .slice Ap np cp, .int .i64 dl, .bool ds] 25)).alloc (by simp <;> omega) (.cells #[.slice none 0 0, .slice none 0 0, .int .i64 0, .bool false] 25))
  have HD0 := Lib.hid (hD.out.keep (Keeps.of HB0))
  go_enter Try.func26, Try.ntmps26
  go_wp2_with fail
  refine (dRuns_at hr HD0.out hdl hds).mono ?_
  rintro e w1 ⟨rfl, hb⟩
  have X0 := (((Box.newAt (n := w.heap.size) [.slice As ns cs, .slice Ap np cp, .int .i64 dl, .bool ds] 25 (by simp)).alloc _)).later hb
  have R := ((Box.newAt (n := w.heap.size + 1) [.slice none 0 0, .slice none 0 0, .int .i64 0, .bool false] 25 (by simp))).later hb
  have hB : Below w.heap.size w w1 := ((((Below.refl w.heap.size w).alloc (by simp <;> omega) _).alloc (by simp <;> omega) _)).trans (hb.mono (by simp <;> omega))
  clear hb
  have X0c0 : w1.cell? ⟨w.heap.size, 0, none⟩ = some (.slice As ns cs) := X0.cell 0
  have X0f0 : w1.frozen? ⟨w.heap.size, 0, none⟩ = false := X0.free 0
  have X0c1 : w1.cell? ⟨w.heap.size, 1, none⟩ = some (.slice Ap np cp) := X0.cell 1
  have X0f1 : w1.frozen? ⟨w.heap.size, 1, none⟩ = false := X0.free 1
  have X0c2 : w1.cell? ⟨w.heap.size, 2, none⟩ = some (.int .i64 dl) := X0.cell 2
  have X0f2 : w1.frozen? ⟨w.heap.size, 2, none⟩ = false := X0.free 2
  have X0c3 : w1.cell? ⟨w.heap.size, 3, none⟩ = some (.bool ds) := X0.cell 3
  have X0f3 : w1.frozen? ⟨w.heap.size, 3, none⟩ = false := X0.free 3
  have X0z : w.heap.size < w1.heap.size := X0.lt
  go_wp2_with fail
  refine (dHas_at hh (hD.out.keep (Keeps.of hB)) hdl hds).mono ?_
  rintro e w2 ⟨rfl, hb⟩
  clear X0c0 X0f0 X0c1 X0f1 X0c2 X0f2 X0c3 X0f3 X0z
  have X0 := X0.later hb
  have R := R.later hb
  have hB := hB.trans (hb.mono hB.size)
  clear hb
  obtain ⟨w3, hmk, ho3, hb3⟩ := make_bs w2
  obtain ⟨w4, hcp0, ho4, hg4⟩ := run_copB (S := S) 3 ho3 zeros_length (Nat.le_refl 128) (((hb.out.keep (Keeps.of hB)).keep (Keeps.of hb3))) hbl.out
  obtain ⟨g, hg⟩ : ∃ g, w2.heap.size = g := ⟨_, rfl⟩
  have hb4 : Below w2.heap.size w2 w4 := hb3.grown hg4 hb3.size (fun k hk => by cases hk; exact Nat.le_refl _)
  have hcp : (copF #[35, 35] 3 #[.slice (some ⟨w2.heap.size, 0, none⟩) 128 128, .slice Ab nb cb]).run Try.prog w3 = .ok (goInt (Nat.min nb 128)) w4 := hcp0
  have hpad : b.take (Nat.min nb 128) ++ zeros.drop (Nat.min nb 128) = padTo b := by
    rw [show Nat.min nb 128 = nb from Nat.min_eq_left hl, List.take_of_length_le (Nat.le_of_eq hbl.out), padTo, hbl.out]
    rw [zeros, List.drop_replicate]
  rw [hpad] at ho4
  have HO4 := Lib.hid ho4
  have X4 := X0.later hb4
  have R4 := R.later hb4
  have hB4 := hB.trans (hb4.mono hB.size)
  clear hcp0 ho3 ho4 hg4 hpad hb3
  rw [hg] at hmk hcp HO4 hb4
  have X0c0 : w2.cell? ⟨w.heap.size, 0, none⟩ = some (.slice As ns cs) := X0.cell 0
  have X0f0 : w2.frozen? ⟨w.heap.size, 0, none⟩ = false := X0.free 0
  have X0c1 : w2.cell? ⟨w.heap.size, 1, none⟩ = some (.slice Ap np cp) := X0.cell 1
  have X0f1 : w2.frozen? ⟨w.heap.size, 1, none⟩ = false := X0.free 1
  have X0c2 : w2.cell? ⟨w.heap.size, 2, none⟩ = some (.int .i64 dl) := X0.cell 2
  have X0f2 : w2.frozen? ⟨w.heap.size, 2, none⟩ = false := X0.free 2
  have X0c3 : w2.cell? ⟨w.heap.size, 3, none⟩ = some (.bool ds) := X0.cell 3
  have X0f3 : w2.frozen? ⟨w.heap.size, 3, none⟩ = false := X0.free 3
  have X0z : w.heap.size < w2.heap.size := X0.lt
  have y1 : w4.cell? ⟨w.heap.size, 1, none⟩ = some (.slice Ap np cp) := X4.cell 1
  have yz : w.heap.size < w4.heap.size := X4.lt
  go_wp2_with fail
  clear X0c0 X0f0 X0c1 X0f1 X0c2 X0f2 X0c3 X0f3 X0z y1 yz hmk hcp
  refine (dCloneW_any d.pending _ (Old S w) _ (hD.out.old.keep (Keeps.of hB4)).pending (by rw [hpl.out]; have := hnp.out; omega)).mono ?_
  rintro e w5 ⟨V, rfl, hV, hb5⟩
  obtain ⟨Av, cv, rfl, _⟩ := hV.form
  rw [hpl.out] at hV
  have X5 := X4.later hb5
  have R5 := R4.later hb5
  have hB5 := hB4.trans (hb5.mono hB4.size)
  have hO5 : BsAt w5 (fun k => g ≤ k) (.slice (some ⟨g, 0, none⟩) 128 128) (padTo b) := by
    have hlen : (padTo b).length = 128 := by rw [padTo, List.length_append, List.length_replicate, hbl.out]; omega
    exact (HO4.out.bs (by rw [hlen]; simp [maxLen])).keep (Keeps.of hb5)
  have HO5 := Lib.hid hO5
  have HV := Lib.hid hV
  have hg4 : w.heap.size + 1 < g := by rw [← hg]; exact R.lt
  have hw4 : w.heap.size + 1 < w4.heap.size := R4.lt
  clear hb5 hV hO5 X4 R4 hB4 HO4 hb4 X0 R hB
  rw [hpl.out]
  go_wp2_with fail
  refine (dClipW_any d.pending _ _ _ _ _ HV.out).mono ?_
  rintro e w6 ⟨rfl, hV, rfl⟩
  clear HV
  have hbA := (Below.refl w5.heap.size w5).alloc (Nat.le_refl _) (.cells #[.int .i64 i, .slice (some ⟨g, 0, none⟩) 128 128] 76)
  have BX := Box.new w5 [.int .i64 i, .slice (some ⟨g, 0, none⟩) 128 128] 76
  obtain ⟨v', w7, hr0, hW, hb7⟩ := run_appW d.pending ⟨i, padTo b⟩ (hV.out.keep (Keeps.of hbA)) hpl.out BX ((HO5.out.keep (Keeps.of hbA))) (by have := hnp.out; omega)
  obtain ⟨A7, c7, rfl, _⟩ := hW.form
  have hr : (appF #[23, 23] 23 #[.slice Av np np, .slice (some ⟨w5.heap.size, 0, none⟩) 1 1]).run Try.prog (w5.alloc (.cells #[.int .i64 i, .slice (some ⟨g, 0, none⟩) 128 128] 76)) = .ok _ w7 := hr0
  clear hr0
  have hlen : Hid ((d.pending ++ [(⟨i, padTo b⟩ : Wr)]).length = np + 1) := by rw [Hid, List.length_append, hpl.out]; rfl
  rw [hlen.out] at hr hW
  have HW := Lib.hid hW
  have hb75 := hbA.trans (hb7.mono hbA.size)
  have X7 := X5.later hb75
  have R7 := R5.later hb75
  have hB7 := hB5.trans (hb75.mono hB5.size)
  have X5z := R5.lt
  clear hV hW hbA BX hb7 hb75 X5 R5 hB5
  have y0 : w7.cell? ⟨w.heap.size, 0, none⟩ = some (.slice As ns cs) := X7.cell 0
  have y1 : w7.cell? ⟨w.heap.size, 1, none⟩ = some (.slice Ap np cp) := X7.cell 1
  have y2 : w7.cell? ⟨w.heap.size, 2, none⟩ = some (.int .i64 dl) := X7.cell 2
  have y3 : w7.cell? ⟨w.heap.size, 3, none⟩ = some (.bool ds) := X7.cell 3
  have yf := X7.free 1
  have yz : w.heap.size < w7.heap.size := X7.lt
  have r0 : w7.cell? ⟨w.heap.size + 1, 0, none⟩ = some (.slice none 0 0) := R7.cell 0
  have r1 : w7.cell? ⟨w.heap.size + 1, 1, none⟩ = some (.slice none 0 0) := R7.cell 1
  have r2 : w7.cell? ⟨w.heap.size + 1, 2, none⟩ = some (.int .i64 0) := R7.cell 2
  have r3 : w7.cell? ⟨w.heap.size + 1, 3, none⟩ = some (.bool false) := R7.cell 3
  have f0 := R7.free 0
  have f1 := R7.free 1
  have f2 := R7.free 2
  have f3 := R7.free 3
  have rz : w.heap.size + 1 < w7.heap.size := R7.lt
  go_wp2
  have hne : w.heap.size + 1 ≠ w.heap.size := by omega
  have hs5 : w.heap.size + 1 < (w5.alloc (.cells #[.int .i64 i, .slice (some ⟨g, 0, none⟩) 128 128] 76)).heap.size := by have := X5z; simp; omega
  have ZR := ((((R7.other (a := ⟨w.heap.size, 1, none⟩) hne (.slice A7 (np + 1) c7)).set 0 (.slice As ns cs)).set 1 (.slice A7 (np + 1) c7)).set 2 (.int .i64 dl)).set 3 (.bool ds)
  have HB := ((((hB7.setCell (p := ⟨w.heap.size, 1, none⟩) (Nat.le_refl _) (.slice A7 (np + 1) c7)).setCell (p := ⟨w.heap.size + 1, 0, none⟩) (Nat.le_succ _) (.slice As ns cs)).setCell (p := ⟨w.heap.size + 1, 1, none⟩) (Nat.le_succ _) (.slice A7 (np + 1) c7)).setCell (p := ⟨w.heap.size + 1, 2, none⟩) (Nat.le_succ _) (.int .i64 dl)).setCell (p := ⟨w.heap.size + 1, 3, none⟩) (Nat.le_succ _) (.bool ds)
  have n1 : ∀ x, (x = w.heap.size ∨ x = w.heap.size + 1) → ¬ ((Grow (Grow (Old S w) w4) (w5.alloc (.cells #[.int .i64 i, .slice (some ⟨g, 0, none⟩) 128 128] 76))) x ∨ g ≤ x) := by
    intro x hx h
    rcases h with ((⟨_, h⟩ | h) | h) | h <;> omega
  have HK : Keeps (fun x => (Grow (Grow (Old S w) w4) (w5.alloc (.cells #[.int .i64 i, .slice (some ⟨g, 0, none⟩) 128 128] 76))) x ∨ g ≤ x) w7 (((((w7.setCell ⟨w.heap.size, 1, none⟩ (.slice A7 (np + 1) c7)).setCell ⟨w.heap.size + 1, 0, none⟩ (.slice As ns cs)).setCell ⟨w.heap.size + 1, 1, none⟩ (.slice A7 (np + 1) c7)).setCell ⟨w.heap.size + 1, 2, none⟩ (.int .i64 dl)).setCell ⟨w.heap.size + 1, 3, none⟩ (.bool ds)) :=
    Keeps.trans (Keeps.trans (Keeps.trans (Keeps.trans (Keeps.set _ (n1 _ (.inl rfl)) _) (Keeps.set _ (n1 _ (.inr rfl)) _)) (Keeps.set _ (n1 _ (.inr rfl)) _)) (Keeps.set _ (n1 _ (.inr rfl)) _)) (Keeps.set _ (n1 _ (.inr rfl)) _)
  have HP := HW.out.keep HK
  generalize ((((w7.setCell ⟨w.heap.size, 1, none⟩ (.slice A7 (np + 1) c7)).setCell ⟨w.heap.size + 1, 0, none⟩ (.slice As ns cs)).setCell ⟨w.heap.size + 1, 1, none⟩ (.slice A7 (np + 1) c7)).setCell ⟨w.heap.size + 1, 2, none⟩ (.int .i64 dl)).setCell ⟨w.heap.size + 1, 3, none⟩ (.bool ds) = W at ZR HB HP ⊢
  have z0 : W.cell? ⟨w.heap.size + 1, 0, none⟩ = some (.slice As ns cs) := ZR.cell 0
  have z1 : W.cell? ⟨w.heap.size + 1, 1, none⟩ = some (.slice A7 (np + 1) c7) := ZR.cell 1
  have z2 : W.cell? ⟨w.heap.size + 1, 2, none⟩ = some (.int .i64 dl) := ZR.cell 2
  have z3 : W.cell? ⟨w.heap.size + 1, 3, none⟩ = some (.bool ds) := ZR.cell 3
  refine bodyPost_ret (v := .tuple #[.agg #[.slice As ns cs, .slice A7 (np + 1) c7, .int .i64 dl, .bool ds], .int .i64 0]) (by simp [results, Try.results26, go_sem, z0, z1, z2, z3]) rfl ?_
  refine ⟨_, _, _, 0, by rw [Dk.v, hdl.out, hds.out], hs, Lib.hid ⟨(hD.out.sectors.keep (Keeps.of HB)).weak (fun b h _ => .inl h), HP.weak (fun b h _ => ?_)⟩, HB⟩
  rcases h with ((⟨h, _⟩ | h) | h) | h
  · exact .inl h
  · exact .inr (by omega)
  · exact .inr (by omega)
  · exact .inr (by omega)

theorem dWrite_any (d : Dk) (Vs Vp : Value) (i : Int) (Vb : Value) (b : Bs) (S : Nat → Prop) (w : World) (hD : DkAt w S Vs Vp d) (hb : BsAt w S Vb b) : Calls Try.prog 26 #[d.v Vs Vp, .int .i64 i, Vb] w (RetDk (writeT d i b) S w) := by
  obtain ⟨As, cs, rfl, _⟩ := hD.sectors.form
  obtain ⟨Ap, cp, rfl, _⟩ := hD.pending.form
  obtain ⟨Ab, cb, rfl, hbm⟩ := hb.form
  rcases hr : d.runs with _ | _
  · exact dWrite_1 d As _ cs Ap _ cp _ _ S w hD rfl rfl i Ab _ cb b hr (by rw [Hid, writeT, if_neg (by rw [hr]; simp)])
  · rcases hh : d.hasB i with _ | _
    · exact dWrite_2 d As _ cs Ap _ cp _ _ S w hD rfl rfl i Ab _ cb b hr hh (by rw [Hid, writeT, if_neg (by rw [hh]; simp)])
    · by_cases hl : b.length ≤ 128
      · by_cases hp : d.pending.length = 4096
        · exact dWrite_4 d As _ cs Ap _ cp _ _ S w hD rfl rfl i Ab _ cb b hr hh hl (by simp [hp]) (by rw [Hid, writeT, if_pos ⟨hr, hh⟩, if_pos hl, if_pos hp])
        · exact dWrite_5 d As _ cs Ap _ cp _ _ S w hD rfl rfl i Ab _ cb b hr hh hl (by simp [hp]) (okB_parts (runs_ok hr).1).2.2.1 rfl rfl hb (by rw [Hid, writeT, if_pos ⟨hr, hh⟩, if_pos hl, if_neg hp])
      · exact dWrite_3 d As _ cs Ap _ cp _ _ S w hD rfl rfl i Ab _ cb b hr hh (by omega) (by simpa [maxLen] using hbm) (by rw [Hid, writeT, if_pos ⟨hr, hh⟩, if_neg hl])

end Go.Proofs.Ythlidhfahaalgaa

/-
  Contracts of Stop, Restart of disk. (Printed by gen_dg.py.)
-/
namespace Go.Proofs.Ythlidhfahaalgaa
open Go.RowKit
attribute [local go_sem ↓ high] app_named cop_named

set_option maxRecDepth 100000 in
set_option maxHeartbeats 4000000 in
theorem dStop_1 (d : Dk) (As : Option Addr) (ns cs : Nat) (Ap : Option Addr) (np cp : Nat) (dl : Int) (ds : Bool) (S : Nat → Prop) (w : World) (hD : Hid (DkAt w S (.slice As ns cs) (.slice Ap np cp) d)) (hdl : Hid (d.left = dl)) (hds : Hid (d.stopped = ds)) (k : Int) (hr : Hid (d.runs = false)) (hs : Hid (stopT d k = (Dk.zero, 40))) : Calls Try.prog 29 #[.agg #[.slice As ns cs, .slice Ap np cp, .int .i64 dl, .bool ds], .int .i64 k] w (RetDk (stopT d k) S w) := by
  have HB0 : Below w.heap.size w ((w.alloc (.cells #[.slice As ns cs, .slice Ap np cp, .int .i64 dl, .bool ds] 25)).alloc (.cells #[.slice none 0 0, .slice none 0 0, .int .i64 0, .bool false] 25)) := (((Below.refl w.heap.size w).alloc (by simp <;> omega) (.cells #[.slice As ns cs, .slice Ap np cp, .int .i64 dl, .bool ds] 25)).alloc (by simp <;> omega) (.cells #[.slice none 0 0, .slice none 0 0, .int .i64 0, .bool false] 25))
  have HD0 := Lib.hid (hD.out.keep (Keeps.of HB0))
  go_enter Try.func29, Try.ntmps29
  go_wp2_with fail
  refine (dRuns_at hr HD0.out hdl hds).mono ?_
  rintro e w1 ⟨rfl, hb⟩
  have X0 := (((Box.newAt (n := w.heap.size) [.slice As ns cs, .slice Ap np cp, .int .i64 dl, .bool ds] 25 (by simp)).alloc _)).later hb
  have R := ((Box.newAt (n := w.heap.size + 1) [.slice none 0 0, .slice none 0 0, .int .i64 0, .bool false] 25 (by simp))).later hb
  have hB : Below w.heap.size w w1 := ((((Below.refl w.heap.size w).alloc (by simp <;> omega) _).alloc (by simp <;> omega) _)).trans (hb.mono (by simp <;> omega))
  clear hb
  have Rc0 : w1.cell? ⟨w.heap.size + 1, 0, none⟩ = some (.slice none 0 0) := R.cell 0
  have Rf0 : w1.frozen? ⟨w.heap.size + 1, 0, none⟩ = false := R.free 0
  have Rc1 : w1.cell? ⟨w.heap.size + 1, 1, none⟩ = some (.slice none 0 0) := R.cell 1
  have Rf1 : w1.frozen? ⟨w.heap.size + 1, 1, none⟩ = false := R.free 1
  have Rc2 : w1.cell? ⟨w.heap.size + 1, 2, none⟩ = some (.int .i64 0) := R.cell 2
  have Rf2 : w1.frozen? ⟨w.heap.size + 1, 2, none⟩ = false := R.free 2
  have Rc3 : w1.cell? ⟨w.heap.size + 1, 3, none⟩ = some (.bool false) := R.cell 3
  have Rf3 : w1.frozen? ⟨w.heap.size + 1, 3, none⟩ = false := R.free 3
  have Rz : w.heap.size + 1 < w1.heap.size := R.lt
  go_wp2
  have hY := ((((R.set 0 (.slice none 0 0)).set 1 (.slice none 0 0)).set 2 (.int .i64 0)).set 3 (.bool false))
  have hB := ((((hB.setCell (p := ⟨w.heap.size + 1, 0, none⟩) (by simp <;> omega) (.slice none 0 0)).setCell (p := ⟨w.heap.size + 1, 1, none⟩) (by simp <;> omega) (.slice none 0 0)).setCell (p := ⟨w.heap.size + 1, 2, none⟩) (by simp <;> omega) (.int .i64 0)).setCell (p := ⟨w.heap.size + 1, 3, none⟩) (by simp <;> omega) (.bool false))
  generalize ((((w1.setCell ⟨w.heap.size + 1, 0, none⟩ (.slice none 0 0)).setCell ⟨w.heap.size + 1, 1, none⟩ (.slice none 0 0)).setCell ⟨w.heap.size + 1, 2, none⟩ (.int .i64 0)).setCell ⟨w.heap.size + 1, 3, none⟩ (.bool false)) = W at hY hB ⊢
  have y0 : W.cell? ⟨w.heap.size + 1, 0, none⟩ = some (.slice none 0 0) := hY.cell 0
  have y1 : W.cell? ⟨w.heap.size + 1, 1, none⟩ = some (.slice none 0 0) := hY.cell 1
  have y2 : W.cell? ⟨w.heap.size + 1, 2, none⟩ = some (.int .i64 0) := hY.cell 2
  have y3 : W.cell? ⟨w.heap.size + 1, 3, none⟩ = some (.bool false) := hY.cell 3
  refine bodyPost_ret (v := .tuple #[.agg #[.slice none 0 0, .slice none 0 0, .int .i64 0, .bool false], .int .i64 40]) (by simp [results, Try.results29, go_sem, y0, y1, y2, y3]) rfl ?_
  exact ⟨_, _, Dk.zero, 40, rfl, hs, dkAt_zero _ _, hB⟩

set_option maxRecDepth 100000 in
set_option maxHeartbeats 4000000 in
theorem dStop_2 (d : Dk) (As : Option Addr) (ns cs : Nat) (Ap : Option Addr) (np cp : Nat) (dl : Int) (ds : Bool) (S : Nat → Prop) (w : World) (hD : Hid (DkAt w S (.slice As ns cs) (.slice Ap np cp) d)) (hdl : Hid (d.left = dl)) (hds : Hid (d.stopped = ds)) (k : Int) (hr : Hid (d.runs = true)) (hk : k < 0) (hs : Hid (stopT d k = (Dk.zero, 1))) : Calls Try.prog 29 #[.agg #[.slice As ns cs, .slice Ap np cp, .int .i64 dl, .bool ds], .int .i64 k] w (RetDk (stopT d k) S w) := by
  have HB0 : Below w.heap.size w ((w.alloc (.cells #[.slice As ns cs, .slice Ap np cp, .int .i64 dl, .bool ds] 25)).alloc (.cells #[.slice none 0 0, .slice none 0 0, .int .i64 0, .bool false] 25)) := (((Below.refl w.heap.size w).alloc (by simp <;> omega) (.cells #[.slice As ns cs, .slice Ap np cp, .int .i64 dl, .bool ds] 25)).alloc (by simp <;> omega) (.cells #[.slice none 0 0, .slice none 0 0, .int .i64 0, .bool false] 25))
  have HD0 := Lib.hid (hD.out.keep (Keeps.of HB0))
  go_enter Try.func29, Try.ntmps29
  go_wp2_with fail
  refine (dRuns_at hr HD0.out hdl hds).mono ?_
  rintro e w1 ⟨rfl, hb⟩
  have X0 := (((Box.newAt (n := w.heap.size) [.slice As ns cs, .slice Ap np cp, .int .i64 dl, .bool ds] 25 (by simp)).alloc _)).later hb
  have R := ((Box.newAt (n := w.heap.size + 1) [.slice none 0 0, .slice none 0 0, .int .i64 0, .bool false] 25 (by simp))).later hb
  have hB : Below w.heap.size w w1 := ((((Below.refl w.heap.size w).alloc (by simp <;> omega) _).alloc (by simp <;> omega) _)).trans (hb.mono (by simp <;> omega))
  clear hb
  have Rc0 : w1.cell? ⟨w.heap.size + 1, 0, none⟩ = some (.slice none 0 0) := R.cell 0
  have Rf0 : w1.frozen? ⟨w.heap.size + 1, 0, none⟩ = false := R.free 0
  have Rc1 : w1.cell? ⟨w.heap.size + 1, 1, none⟩ = some (.slice none 0 0) := R.cell 1
  have Rf1 : w1.frozen? ⟨w.heap.size + 1, 1, none⟩ = false := R.free 1
  have Rc2 : w1.cell? ⟨w.heap.size + 1, 2, none⟩ = some (.int .i64 0) := R.cell 2
  have Rf2 : w1.frozen? ⟨w.heap.size + 1, 2, none⟩ = false := R.free 2
  have Rc3 : w1.cell? ⟨w.heap.size + 1, 3, none⟩ = some (.bool false) := R.cell 3
  have Rf3 : w1.frozen? ⟨w.heap.size + 1, 3, none⟩ = false := R.free 3
  have Rz : w.heap.size + 1 < w1.heap.size := R.lt
  go_wp2
  have hY := ((((R.set 0 (.slice none 0 0)).set 1 (.slice none 0 0)).set 2 (.int .i64 0)).set 3 (.bool false))
  have hB := ((((hB.setCell (p := ⟨w.heap.size + 1, 0, none⟩) (by simp <;> omega) (.slice none 0 0)).setCell (p := ⟨w.heap.size + 1, 1, none⟩) (by simp <;> omega) (.slice none 0 0)).setCell (p := ⟨w.heap.size + 1, 2, none⟩) (by simp <;> omega) (.int .i64 0)).setCell (p := ⟨w.heap.size + 1, 3, none⟩) (by simp <;> omega) (.bool false))
  generalize ((((w1.setCell ⟨w.heap.size + 1, 0, none⟩ (.slice none 0 0)).setCell ⟨w.heap.size + 1, 1, none⟩ (.slice none 0 0)).setCell ⟨w.heap.size + 1, 2, none⟩ (.int .i64 0)).setCell ⟨w.heap.size + 1, 3, none⟩ (.bool false)) = W at hY hB ⊢
  have y0 : W.cell? ⟨w.heap.size + 1, 0, none⟩ = some (.slice none 0 0) := hY.cell 0
  have y1 : W.cell? ⟨w.heap.size + 1, 1, none⟩ = some (.slice none 0 0) := hY.cell 1
  have y2 : W.cell? ⟨w.heap.size + 1, 2, none⟩ = some (.int .i64 0) := hY.cell 2
  have y3 : W.cell? ⟨w.heap.size + 1, 3, none⟩ = some (.bool false) := hY.cell 3
  refine bodyPost_ret (v := .tuple #[.agg #[.slice none 0 0, .slice none 0 0, .int .i64 0, .bool false], .int .i64 1]) (by simp [results, Try.results29, go_sem, y0, y1, y2, y3]) rfl ?_
  exact ⟨_, _, Dk.zero, 1, rfl, hs, dkAt_zero _ _, hB⟩

set_option maxRecDepth 100000 in
set_option maxHeartbeats 4000000 in
theorem dStop_3 (d : Dk) (As : Option Addr) (ns cs : Nat) (Ap : Option Addr) (np cp : Nat) (dl : Int) (ds : Bool) (S : Nat → Prop) (w : World) (hD : Hid (DkAt w S (.slice As ns cs) (.slice Ap np cp) d)) (hdl : Hid (d.left = dl)) (hds : Hid (d.stopped = ds)) (k : Int) (hr : Hid (d.runs = true)) (hk0 : 0 ≤ k) (hk : 65536 < k) (hs : Hid (stopT d k = (Dk.zero, 1))) : Calls Try.prog 29 #[.agg #[.slice As ns cs, .slice Ap np cp, .int .i64 dl, .bool ds], .int .i64 k] w (RetDk (stopT d k) S w) := by
  have HB0 : Below w.heap.size w ((w.alloc (.cells #[.slice As ns cs, .slice Ap np cp, .int .i64 dl, .bool ds] 25)).alloc (.cells #[.slice none 0 0, .slice none 0 0, .int .i64 0, .bool false] 25)) := (((Below.refl w.heap.size w).alloc (by simp <;> omega) (.cells #[.slice As ns cs, .slice Ap np cp, .int .i64 dl, .bool ds] 25)).alloc (by simp <;> omega) (.cells #[.slice none 0 0, .slice none 0 0, .int .i64 0, .bool false] 25))
  have HD0 := Lib.hid (hD.out.keep (Keeps.of HB0))
  go_enter Try.func29, Try.ntmps29
  go_wp2_with fail
  refine (dRuns_at hr HD0.out hdl hds).mono ?_
  rintro e w1 ⟨rfl, hb⟩
  have X0 := (((Box.newAt (n := w.heap.size) [.slice As ns cs, .slice Ap np cp, .int .i64 dl, .bool ds] 25 (by simp)).alloc _)).later hb
  have R := ((Box.newAt (n := w.heap.size + 1) [.slice none 0 0, .slice none 0 0, .int .i64 0, .bool false] 25 (by simp))).later hb
  have hB : Below w.heap.size w w1 := ((((Below.refl w.heap.size w).alloc (by simp <;> omega) _).alloc (by simp <;> omega) _)).trans (hb.mono (by simp <;> omega))
  clear hb
  have Rc0 : w1.cell? ⟨w.heap.size + 1, 0, none⟩ = some (.slice none 0 0) := R.cell 0
  have Rf0 : w1.frozen? ⟨w.heap.size + 1, 0, none⟩ = false := R.free 0
  have Rc1 : w1.cell? ⟨w.heap.size + 1, 1, none⟩ = some (.slice none 0 0) := R.cell 1
  have Rf1 : w1.frozen? ⟨w.heap.size + 1, 1, none⟩ = false := R.free 1
  have Rc2 : w1.cell? ⟨w.heap.size + 1, 2, none⟩ = some (.int .i64 0) := R.cell 2
  have Rf2 : w1.frozen? ⟨w.heap.size + 1, 2, none⟩ = false := R.free 2
  have Rc3 : w1.cell? ⟨w.heap.size + 1, 3, none⟩ = some (.bool false) := R.cell 3
  have Rf3 : w1.frozen? ⟨w.heap.size + 1, 3, none⟩ = false := R.free 3
  have Rz : w.heap.size + 1 < w1.heap.size := R.lt
  go_wp2
  have hY := ((((R.set 0 (.slice none 0 0)).set 1 (.slice none 0 0)).set 2 (.int .i64 0)).set 3 (.bool false))
  have hB := ((((hB.setCell (p := ⟨w.heap.size + 1, 0, none⟩) (by simp <;> omega) (.slice none 0 0)).setCell (p := ⟨w.heap.size + 1, 1, none⟩) (by simp <;> omega) (.slice none 0 0)).setCell (p := ⟨w.heap.size + 1, 2, none⟩) (by simp <;> omega) (.int .i64 0)).setCell (p := ⟨w.heap.size + 1, 3, none⟩) (by simp <;> omega) (.bool false))
  generalize ((((w1.setCell ⟨w.heap.size + 1, 0, none⟩ (.slice none 0 0)).setCell ⟨w.heap.size + 1, 1, none⟩ (.slice none 0 0)).setCell ⟨w.heap.size + 1, 2, none⟩ (.int .i64 0)).setCell ⟨w.heap.size + 1, 3, none⟩ (.bool false)) = W at hY hB ⊢
  have y0 : W.cell? ⟨w.heap.size + 1, 0, none⟩ = some (.slice none 0 0) := hY.cell 0
  have y1 : W.cell? ⟨w.heap.size + 1, 1, none⟩ = some (.slice none 0 0) := hY.cell 1
  have y2 : W.cell? ⟨w.heap.size + 1, 2, none⟩ = some (.int .i64 0) := hY.cell 2
  have y3 : W.cell? ⟨w.heap.size + 1, 3, none⟩ = some (.bool false) := hY.cell 3
  refine bodyPost_ret (v := .tuple #[.agg #[.slice none 0 0, .slice none 0 0, .int .i64 0, .bool false], .int .i64 1]) (by simp [results, Try.results29, go_sem, y0, y1, y2, y3]) rfl ?_
  exact ⟨_, _, Dk.zero, 1, rfl, hs, dkAt_zero _ _, hB⟩

set_option maxRecDepth 100000 in
set_option maxHeartbeats 4000000 in
theorem dStop_4 (d : Dk) (As : Option Addr) (ns cs : Nat) (Ap : Option Addr) (np cp : Nat) (dl : Int) (ds : Bool) (S : Nat → Prop) (w : World) (hD : Hid (DkAt w S (.slice As ns cs) (.slice Ap np cp) d)) (hdl : Hid (d.left = dl)) (hds : Hid (d.stopped = ds)) (k : Int) (hr : Hid (d.runs = true)) (hk0 : 0 ≤ k) (hk : k ≤ 65536) (hs : Hid (stopT d k = (⟨d.sectors, d.pending, k, d.stopped⟩, 0))) : Calls Try.prog 29 #[.agg #[.slice As ns cs, .slice Ap np cp, .int .i64 dl, .bool ds], .int .i64 k] w (RetDk (stopT d k) S w) := by
  have HB0 : Below w.heap.size w ((w.alloc (.cells #[.slice As ns cs, .slice Ap np cp, .int .i64 dl, .bool ds] 25)).alloc (.cells #[.slice none 0 0, .slice none 0 0, .int .i64 0, .bool false] 25)) := (((Below.refl w.heap.size w).alloc (by simp <;> omega) (.cells #[.slice As ns cs, .slice Ap np cp, .int .i64 dl, .bool ds] 25)).alloc (by simp <;> omega) (.cells #[.slice none 0 0, .slice none 0 0, .int .i64 0, .bool false] 25))
  have HD0 := Lib.hid (hD.out.keep (Keeps.of HB0))
  go_enter Try.func29, Try.ntmps29
  go_wp2_with fail
  refine (dRuns_at hr HD0.out hdl hds).mono ?_
  rintro e w1 ⟨rfl, hb⟩
  have X0 := (((Box.newAt (n := w.heap.size) [.slice As ns cs, .slice Ap np cp, .int .i64 dl, .bool ds] 25 (by simp)).alloc _)).later hb
  have R := ((Box.newAt (n := w.heap.size + 1) [.slice none 0 0, .slice none 0 0, .int .i64 0, .bool false] 25 (by simp))).later hb
  have hB : Below w.heap.size w w1 := ((((Below.refl w.heap.size w).alloc (by simp <;> omega) _).alloc (by simp <;> omega) _)).trans (hb.mono (by simp <;> omega))
  clear hb
  have X0c0 : w1.cell? ⟨w.heap.size, 0, none⟩ = some (.slice As ns cs) := X0.cell 0
  have X0f0 : w1.frozen? ⟨w.heap.size, 0, none⟩ = false := X0.free 0
  have X0c1 : w1.cell? ⟨w.heap.size, 1, none⟩ = some (.slice Ap np cp) := X0.cell 1
  have X0f1 : w1.frozen? ⟨w.heap.size, 1, none⟩ = false := X0.free 1
  have X0c2 : w1.cell? ⟨w.heap.size, 2, none⟩ = some (.int .i64 dl) := X0.cell 2
  have X0f2 : w1.frozen? ⟨w.heap.size, 2, none⟩ = false := X0.free 2
  have X0c3 : w1.cell? ⟨w.heap.size, 3, none⟩ = some (.bool ds) := X0.cell 3
  have X0f3 : w1.frozen? ⟨w.heap.size, 3, none⟩ = false := X0.free 3
  have X0z : w.heap.size < w1.heap.size := X0.lt
  have Rc0 : w1.cell? ⟨w.heap.size + 1, 0, none⟩ = some (.slice none 0 0) := R.cell 0
  have Rf0 : w1.frozen? ⟨w.heap.size + 1, 0, none⟩ = false := R.free 0
  have Rc1 : w1.cell? ⟨w.heap.size + 1, 1, none⟩ = some (.slice none 0 0) := R.cell 1
  have Rf1 : w1.frozen? ⟨w.heap.size + 1, 1, none⟩ = false := R.free 1
  have Rc2 : w1.cell? ⟨w.heap.size + 1, 2, none⟩ = some (.int .i64 0) := R.cell 2
  have Rf2 : w1.frozen? ⟨w.heap.size + 1, 2, none⟩ = false := R.free 2
  have Rc3 : w1.cell? ⟨w.heap.size + 1, 3, none⟩ = some (.bool false) := R.cell 3
  have Rf3 : w1.frozen? ⟨w.heap.size + 1, 3, none⟩ = false := R.free 3
  have Rz : w.heap.size + 1 < w1.heap.size := R.lt
  go_wp2
  have hne : w.heap.size + 1 ≠ w.heap.size := by omega
  have ZR := (((((R.other (a := ⟨w.heap.size, 2, none⟩) hne (.int .i64 k)).set 0 (.slice As ns cs)).set 1 (.slice Ap np cp)).set 2 (.int .i64 k)).set 3 (.bool ds))
  have HB := (((((hB.setCell (p := ⟨w.heap.size, 2, none⟩) (Nat.le_refl _) (.int .i64 k)).setCell (p := ⟨w.heap.size + 1, 0, none⟩) (Nat.le_succ _) (.slice As ns cs)).setCell (p := ⟨w.heap.size + 1, 1, none⟩) (Nat.le_succ _) (.slice Ap np cp)).setCell (p := ⟨w.heap.size + 1, 2, none⟩) (Nat.le_succ _) (.int .i64 k)).setCell (p := ⟨w.heap.size + 1, 3, none⟩) (Nat.le_succ _) (.bool ds))
  generalize (((((w1.setCell ⟨w.heap.size, 2, none⟩ (.int .i64 k)).setCell ⟨w.heap.size + 1, 0, none⟩ (.slice As ns cs)).setCell ⟨w.heap.size + 1, 1, none⟩ (.slice Ap np cp)).setCell ⟨w.heap.size + 1, 2, none⟩ (.int .i64 k)).setCell ⟨w.heap.size + 1, 3, none⟩ (.bool ds)) = W at ZR HB ⊢
  have z0 : W.cell? ⟨w.heap.size + 1, 0, none⟩ = some (.slice As ns cs) := ZR.cell 0
  have z1 : W.cell? ⟨w.heap.size + 1, 1, none⟩ = some (.slice Ap np cp) := ZR.cell 1
  have z2 : W.cell? ⟨w.heap.size + 1, 2, none⟩ = some (.int .i64 k) := ZR.cell 2
  have z3 : W.cell? ⟨w.heap.size + 1, 3, none⟩ = some (.bool ds) := ZR.cell 3
  refine bodyPost_ret (v := .tuple #[.agg #[.slice As ns cs, .slice Ap np cp, .int .i64 k, .bool ds], .int .i64 0]) (by simp [results, Try.results29, go_sem, z0, z1, z2, z3]) rfl ?_
  exact ⟨_, _, _, 0, by rw [Dk.v, hds.out], hs, Lib.hid ((hD.out.keep (Keeps.of HB)).weak (fun b h _ => .inl h) |> fun h => ⟨h.sectors, h.pending⟩), HB⟩

theorem dStop_any (d : Dk) (Vs Vp : Value) (k : Int) (S : Nat → Prop) (w : World) (hD : DkAt w S Vs Vp d) : Calls Try.prog 29 #[d.v Vs Vp, .int .i64 k] w (RetDk (stopT d k) S w) := by
  obtain ⟨As, cs, rfl, _⟩ := hD.sectors.form
  obtain ⟨Ap, cp, rfl, _⟩ := hD.pending.form
  rcases hr : d.runs with _ | _
  · exact dStop_1 d As _ cs Ap _ cp _ _ S w hD rfl rfl k hr (by rw [Hid, stopT, if_neg (by rw [hr]; simp)])
  · by_cases h1 : k < 0
    · exact dStop_2 d As _ cs Ap _ cp _ _ S w hD rfl rfl k hr h1 (by rw [Hid, stopT, if_pos hr, if_neg (by omega)])
    · by_cases h2 : 65536 < k
      · exact dStop_3 d As _ cs Ap _ cp _ _ S w hD rfl rfl k hr (by omega) h2 (by rw [Hid, stopT, if_pos hr, if_neg (by omega)])
      · exact dStop_4 d As _ cs Ap _ cp _ _ S w hD rfl rfl k hr (by omega) (by omega) (by rw [Hid, stopT, if_pos hr, if_pos (by omega)])
/-- A result that is a disk. -/
def RetD1 (t : Dk) (S : Nat → Prop) (w : World) (e : Ending) (w' : World) : Prop := ∃ (Vs Vp : Value) (m : Dk), e = .returned (m.v Vs Vp) ∧ Hid (t = m) ∧ Hid (DkAt w' (Grow S w) Vs Vp m) ∧ Below w.heap.size w w'
set_option maxRecDepth 100000 in
set_option maxHeartbeats 4000000 in
theorem dRestart_1 (d : Dk) (As : Option Addr) (ns cs : Nat) (Ap : Option Addr) (np cp : Nat) (dl : Int) (ds : Bool) (S : Nat → Prop) (w : World) (hD : Hid (DkAt w S (.slice As ns cs) (.slice Ap np cp) d)) (hdl : Hid (d.left = dl)) (hds : Hid (d.stopped = ds))  : Calls Try.prog 30 #[.agg #[.slice As ns cs, .slice Ap np cp, .int .i64 dl, .bool ds]] w (RetD1 (restartT d) S w) := by
  have HB0 : Below w.heap.size w ((w.alloc (.cells #[.slice As ns cs, .slice Ap np cp, .int .i64 dl, .bool ds] 25)).alloc (.cells #[.slice none 0 0, .slice none 0 0, .int .i64 0, .bool false] 25)) := (((Below.refl w.heap.size w).alloc (by simp <;> omega) (.cells #[.slice As ns cs, .slice Ap np cp, .int .i64 dl, .bool ds] 25)).alloc (by simp <;> omega) (.cells #[.slice none 0 0, .slice none 0 0, .int .i64 0, .bool false] 25))
  have HD0 := Lib.hid (hD.out.keep (Keeps.of HB0))
  clear hdl hds HD0
  go_enter Try.func30, Try.ntmps30
  go_wp2
  have HB : Below w.heap.size w ((w.alloc (.cells #[.slice As ns cs, .slice Ap np cp, .int .i64 dl, .bool ds] 25)).alloc (.cells #[.slice As ns cs, .slice none 0 0, .int .i64 (-1), .bool false] 25)) := (((Below.refl w.heap.size w).alloc (by simp <;> omega) (.cells #[.slice As ns cs, .slice Ap np cp, .int .i64 dl, .bool ds] 25)).alloc (by simp <;> omega) (.cells #[.slice As ns cs, .slice none 0 0, .int .i64 (-1), .bool false] 25))
  refine bodyPost_ret (v := .agg #[.slice As ns cs, .slice none 0 0, .int .i64 (-1), .bool false]) (by simp [results, Try.results30, go_sem]) rfl ?_
  exact ⟨_, _, restartT d, rfl, rfl, Lib.hid ⟨(hD.out.sectors.keep (Keeps.of HB)).weak (fun b h _ => .inl h), wsAt_nil _ _⟩, HB⟩

theorem dRestart_any (d : Dk) (Vs Vp : Value) (S : Nat → Prop) (w : World) (hD : DkAt w S Vs Vp d) : Calls Try.prog 30 #[d.v Vs Vp] w (RetD1 (restartT d) S w) := by
  obtain ⟨As, cs, rfl, _⟩ := hD.sectors.form
  obtain ⟨Ap, cp, rfl, _⟩ := hD.pending.form
  exact dRestart_1 d As _ cs Ap _ cp _ _ S w hD rfl rfl
end Go.Proofs.Ythlidhfahaalgaa
