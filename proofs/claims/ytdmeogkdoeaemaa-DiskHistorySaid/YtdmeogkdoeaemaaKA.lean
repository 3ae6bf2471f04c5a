/-
  append on slices that are read as lists of elements. No condition.
-/
import Derived.Test.YtdmeogkdoeaemaaK
import Derived.Deep.AppendLies
import Derived.Laws.AppendOwnNone
import Derived.ArgAppend
import Derived.OwnWalk
namespace Go.Proofs.Ytdmeogkdoeaemaa
open Go.RowKit

theorem add_at (b off n : Nat) : (⟨b, off, none⟩ : Addr).add n = ⟨b, off + n, none⟩ := by
  unfold Addr.add
  split
  · rename_i h; rw [h]; rfl
  · rfl
/-- What a slice's value looks like. -/
def SlF (v : Value) : Prop := v = .slice none 0 0 ∨ ∃ a n c, v = .slice (some a) n c ∧ n ≤ c ∧ c ≤ maxLen
/-- The cells of n elements of size cells each. -/
def flat (n size : Nat) (g : Nat → Nat → Value) : List Value := (List.range (n * size)).map fun j => g (j / size) (j % size)
theorem flat_length (n size : Nat) (g : Nat → Nat → Value) : (flat n size g).length = n * size := by simp [flat]
theorem flat_at {n size : Nat} (g : Nat → Nat → Value) {i j : Nat} (hi : i < n) (hj : j < size) : (flat n size g)[i * size + j]? = some (g i j) := by
  have hlt : i * size + j < n * size := Nat.lt_of_lt_of_le (by rw [Nat.add_mul]; omega : i * size + j < (i + 1) * size) (Nat.mul_le_mul_right size hi)
  have e1 : (i * size + j) / size = i := by
    rw [Nat.mul_comm, Nat.mul_add_div (by omega), Nat.div_eq_of_lt hj, Nat.add_zero]
  have e2 : (i * size + j) % size = j := by
    rw [Nat.mul_comm, Nat.mul_add_mod, Nat.mod_eq_of_lt hj]
  rw [List.getElem?_eq_getElem (by rw [flat_length]; exact hlt)]
  simp [flat, e1, e2]
theorem flat_mem {n size : Nat} {g : Nat → Nat → Value} (hs : 0 < size) {u : Value} (h : u ∈ flat n size g) : ∃ i j, i < n ∧ j < size ∧ u = g i j := by
  obtain ⟨j, hj, rfl⟩ := List.mem_map.1 h
  have hj := List.mem_range.1 hj
  exact ⟨j / size, j % size, (Nat.div_lt_iff_lt_mul hs).2 hj, Nat.mod_lt _ hs, rfl⟩
/-- The elements of one list behind another's. -/
def cat (n : Nat) (g h : Nat → Nat → Value) : Nat → Nat → Value := fun i j => if i < n then g i j else h (i - n) j
theorem flat_cat (n m size : Nat) (hs : 0 < size) (g h : Nat → Nat → Value) : flat (n + m) size (cat n g h) = flat n size g ++ flat m size h := by
  apply List.ext_getElem?
  intro k
  rcases Nat.lt_or_ge k (n * size) with hk | hk
  · have hi : k / size < n := (Nat.div_lt_iff_lt_mul hs).2 hk
    have hj := Nat.mod_lt k hs
    have e : k / size * size + k % size = k := by rw [Nat.mul_comm]; exact Nat.div_add_mod k size
    have a1 := flat_at (n := n + m) (cat n g h) (i := k / size) (by omega) hj
    have a2 := flat_at (n := n) g hi hj
    rw [e] at a1 a2
    rw [a1, List.getElem?_append_left (by rw [flat_length]; exact hk), a2, cat, if_pos hi]
  · rw [List.getElem?_append_right (by rw [flat_length]; exact hk), flat_length]
    rcases Nat.lt_or_ge k ((n + m) * size) with hk2 | hk2
    · obtain ⟨r, rfl⟩ : ∃ r, k = n * size + r := ⟨k - n * size, by omega⟩
      rw [Nat.add_mul] at hk2
      have hr : r < m * size := by omega
      have hi : r / size < m := (Nat.div_lt_iff_lt_mul hs).2 hr
      have hj := Nat.mod_lt r hs
      have e : r / size * size + r % size = r := by rw [Nat.mul_comm]; exact Nat.div_add_mod r size
      have e2 : n * size + r - n * size = r := by omega
      generalize r / size = q at hi e
      generalize r % size = s at hj e
      have a1 := flat_at (n := n + m) (cat n g h) (i := n + q) (by omega) hj
      have a2 := flat_at (n := m) h hi hj
      rw [Nat.add_mul, Nat.add_assoc, e] at a1
      rw [e] at a2
      rw [a1, e2, a2, cat, if_neg (by omega), show n + q - n = q by omega]
    · rw [List.getElem?_eq_none (by rw [flat_length]; exact hk2), List.getElem?_eq_none (by rw [flat_length]; rw [Nat.add_mul] at hk2; omega)]

/-- The cells that a slice's elements lie in. -/
theorem Sl.src {w : World} {B size n n' c : Nat} {g : Nat → Nat → Value} {a : Addr} (hs : 0 < size) (h : Sl w B size n g (.slice (some a) n' c)) : n' = n ∧ n ≤ maxLen ∧ ∀ j u, (flat n size g)[j]? = some u → w.cell? (a.add j) = some u := by
  obtain ⟨A', c', hv, hm, h1⟩ := h
  cases hv
  refine ⟨rfl, hm, fun j u hu => ?_⟩
  have hj : j < n * size := by rw [← flat_length n size g]; exact (List.getElem?_eq_some_iff.1 hu).1
  have hi : j / size < n := (Nat.div_lt_iff_lt_mul hs).2 hj
  have hr := Nat.mod_lt j hs
  have e : j / size * size + j % size = j := by rw [Nat.mul_comm]; exact Nat.div_add_mod j size
  have a2 := flat_at g hi hr
  rw [e, hu] at a2
  cases a2
  obtain ⟨b, off, e1, _, h3⟩ := h1 _ hi
  cases e1
  have := h3 _ hr
  rw [e] at this
  rw [add_at]
  exact this
theorem Sl.none_zero {w : World} {B size n n' c : Nat} {g : Nat → Nat → Value} (h : Sl w B size n g (.slice none n' c)) : n' = n ∧ n = 0 := by
  obtain ⟨A', c', hv, hm, h1⟩ := h
  cases hv
  rcases Nat.eq_zero_or_pos n with h0 | h0
  · exact ⟨rfl, h0⟩
  · obtain ⟨b, off, e1, _⟩ := h1 0 h0
    cases e1
/-- A slice whose elements lie in blocks below D, or in blocks from base on. -/
def Sl2 (w : World) (D base size n : Nat) (g : Nat → Nat → Value) (v : Value) : Prop :=
  ∃ A c, v = .slice A n c ∧ n ≤ maxLen ∧ ∀ i, i < n → ∃ b off, A = some ⟨b, off, none⟩ ∧ (b < D ∨ base ≤ b) ∧ b < w.heap.size ∧ ∀ j, j < size → w.cell? ⟨b, off + (i * size + j), none⟩ = some (g i j)
theorem Sl2.sl {w : World} {D base size n : Nat} {g : Nat → Nat → Value} {v : Value} (h : Sl2 w D base size n g v) : Sl w w.heap.size size n g v := by
  obtain ⟨A, c, hv, hm, h1⟩ := h
  refine ⟨A, c, hv, hm, fun i hi => ?_⟩
  obtain ⟨b, off, ha, _, hb, h3⟩ := h1 i hi
  exact ⟨b, off, ha, hb, h3⟩
theorem Sl.sl2 {w : World} {D base size n : Nat} {g : Nat → Nat → Value} {v : Value} (h : Sl w D size n g v) (hD : D ≤ w.heap.size) : Sl2 w D base size n g v := by
  obtain ⟨A, c, hv, hm, h1⟩ := h
  refine ⟨A, c, hv, hm, fun i hi => ?_⟩
  obtain ⟨b, off, ha, hb, h3⟩ := h1 i hi
  exact ⟨b, off, ha, .inl hb, by omega, h3⟩
theorem Sl2.keep {w w' : World} {D base size n : Nat} {g : Nat → Nat → Value} {v : Value} (h : Sl2 w D base size n g v) (hs : w.heap.size ≤ w'.heap.size) (hk : ∀ b, (b < D ∨ base ≤ b) → b < w.heap.size → w'.heap[b]? = w.heap[b]?) : Sl2 w' D base size n g v := by
  obtain ⟨A, c, hv, hm, h1⟩ := h
  refine ⟨A, c, hv, hm, fun i hi => ?_⟩
  obtain ⟨b, off, ha, hb, hl, h3⟩ := h1 i hi
  exact ⟨b, off, ha, hb, by omega, fun j hj => by rw [World.cell?_of_block (w := w) (hk b hb hl)]; exact h3 j hj⟩
theorem Sl2.set {w : World} {D base size n : Nat} {g : Nat → Nat → Value} {v : Value} (h : Sl2 w D base size n g v) {a : Addr} (h1 : D ≤ a.block) (h2 : a.block < base) (u : Value) : Sl2 (w.setCell a u) D base size n g v :=
  h.keep (by simp) fun b hb _ => Below.heap_setCell w a u b (by omega)
theorem Sl2.later {w w' : World} {D base size n : Nat} {g : Nat → Nat → Value} {v : Value} (h : Sl2 w D base size n g v) (hb : Below w.heap.size w w') : Sl2 w' D base size n g v :=
  h.keep hb.size fun b _ hl => hb.block b hl
/-- What a row that the call owns holds. -/
theorem own_sl2 {w : World} {D base e size n : Nat} {g : Nat → Nat → Value} {v : Value} (h : w.ownsRow base e size v n (flat n size g)) (hn : n ≤ maxLen) : Sl2 w D base size n g v ∧ SlF v := by
  rcases h.2 with ⟨rfl, rfl⟩ | ⟨b, cap, cur, rfl, hb, hg, hc, hcm, _, _⟩
  · exact ⟨⟨none, 0, rfl, hn, fun i hi => by omega⟩, .inl rfl⟩
  · have hlt : b < w.heap.size := (Array.getElem?_eq_some_iff.1 hg).1
    have hcell := h.cells (g := b) rfl
    refine ⟨⟨some ⟨b, 0, none⟩, cap, rfl, hn, fun i hi => ⟨b, 0, rfl, .inr hb, hlt, fun j hj => ?_⟩⟩, .inr ⟨_, _, _, rfl, hc, hcm⟩⟩
    have := hcell _ _ (flat_at g hi hj)
    rw [add_at] at this
    exact this
theorem own_sl {w : World} {base e size n : Nat} {g : Nat → Nat → Value} {v : Value} (h : w.ownsRow base e size v n (flat n size g)) (hn : n ≤ maxLen) : Sl w w.heap.size size n g v ∧ SlF v :=
  ⟨(own_sl2 (D := 0) h hn).1.sl, (own_sl2 (D := 0) h hn).2⟩

section
variable {t e : TypeId} {i : TypeInfo} {z : Value} {size bytes : Nat}
/-- The facts on an element type. -/
structure Elem (t e : TypeId) (i : TypeInfo) (z : Value) (size bytes : Nat) : Prop where
  ht : Try.prog.underlying t = some (.slice e)
  hi : Try.prog.info? e = some i
  hz : i.zero = some z
  hsize : i.size = size
  hby : i.bytes = bytes
  hzs : z.cells.size = size
  hsz : 0 < size

/-- append onto a row of the call's own. -/
theorem run_app_own (E : Elem t e i z size bytes) (ty : TypeId) {w : World} {base n m : Nat} {g h : Nat → Nat → Value} {v x : Value} (hown : w.ownsRow base e size v n (flat n size g)) (hx : Sl w w.heap.size size m h x) (hxf : SlF x)
    (h1 : ∀ k j, k < m → j < size → (h k j).oneCell' = true) (h63 : n + m ≤ maxLen) (hbytes : (n + m) * bytes ≤ 140737488355328) (hbase : base ≤ w.heap.size) :
    ∃ v' w', (Builtin.append_ #[t, t] ty #[v, x]).run Try.prog w = .ok v' w' ∧ w'.ownsRow base e size v' (n + m) (flat (n + m) size (cat n g h)) ∧ w.grownBy w' v.ownBlock := by
  rcases hxf with rfl | ⟨a, k, c, rfl, _, _⟩
  · obtain ⟨h0, rfl⟩ := hx.none_zero
    refine ⟨v, w, run_append_owned_none (P := Try.prog) (w := w) base t ty e i size E.ht E.hi v n _ hown, ?_, ⟨rfl, rfl, rfl, Nat.le_refl _, fun _ _ _ => rfl⟩⟩
    rw [flat_cat n 0 size E.hsz, show flat 0 size h = [] by simp [flat], List.append_nil]
    exact hown
  · obtain ⟨rfl, hm, hsrc⟩ := hx.src E.hsz
    obtain ⟨v', w', hr, ho, hg, _, _⟩ := run_append_own_at (P := Try.prog) (w := w) base t ty e i z size bytes E.ht E.hi E.hz E.hsize E.hby E.hzs E.hsz v n _ hown a k c (flat k size h) (flat_length _ _ _) hsrc
      (fun u hu => by obtain ⟨p, q, hp, hq, rfl⟩ := flat_mem E.hsz hu; exact h1 p q hp hq) h63 hbytes hbase
    rw [← flat_cat n k size E.hsz] at ho
    exact ⟨v', w', hr, ho, hg⟩
/-- append where there is no room, or nothing to append: whatever slice. -/
theorem run_app (E : Elem t e i z size bytes) (ty : TypeId) {w : World} {D n m cap : Nat} {A : Option Addr} {g h : Nat → Nat → Value} {x : Value} (hv : Sl w D size n g (.slice A n cap)) (hD : D ≤ w.heap.size) (hvf : SlF (.slice A n cap)) (hx : Sl w w.heap.size size m h x) (hxf : SlF x)
    (h1 : ∀ k j, k < m → j < size → (h k j).oneCell' = true) (hcap : cap < n + m ∨ m = 0) (h63 : n + m ≤ maxLen) (hbytes : (n + m) * bytes ≤ 140737488355328) :
    ∃ v' w', (Builtin.append_ #[t, t] ty #[.slice A n cap, x]).run Try.prog w = .ok v' w' ∧ Sl2 w' D w.heap.size size (n + m) (cat n g h) v' ∧ SlF v' ∧ Below w.heap.size w w' := by
  have hsame : m = 0 → Sl2 w D w.heap.size size (n + m) (cat n g h) (.slice A n cap) := by
    rintro rfl
    obtain ⟨A', c', e1, hm', h3⟩ := hv
    cases e1
    refine ⟨A, cap, rfl, hm', fun k hk => ?_⟩
    obtain ⟨b, off, rfl, hb, h4⟩ := h3 k hk
    exact ⟨b, off, rfl, .inl hb, by omega, fun j hj => by rw [cat, if_pos (show k < n from hk)]; exact h4 j hj⟩
  rcases hvf with h0 | ⟨a, n', c', h0, hnc, hcm⟩
  · obtain ⟨rfl, rfl, rfl⟩ : A = none ∧ n = 0 ∧ cap = 0 := by simpa using h0
    have hown : w.ownsRow w.heap.size e size (.slice none 0 0) 0 (flat 0 size g) := ⟨by simp [flat], .inl ⟨rfl, rfl⟩⟩
    obtain ⟨v', w', hr, ho, hg⟩ := run_app_own E ty hown hx hxf h1 h63 hbytes (Nat.le_refl _)
    obtain ⟨s1, s2⟩ := own_sl2 (D := D) ho h63
    exact ⟨v', w', hr, s1, s2, (Below.refl _ _).grown hg (Nat.le_refl _) (fun k hk => by cases hk)⟩
  · obtain ⟨rfl, rfl, rfl⟩ : A = some a ∧ n = n' ∧ cap = c' := by simpa using h0
    obtain ⟨_, hnm, hold⟩ := hv.src E.hsz
    rcases hxf with rfl | ⟨ax, k, c, rfl, _, _⟩
    · obtain ⟨_, rfl⟩ := hx.none_zero
      refine ⟨_, w, ?_, hsame rfl, .inr ⟨a, n, cap, rfl, hnc, hcm⟩, Below.refl _ _⟩
      simp [Builtin.append_, run_underlying E.ht, sizeOf, typeInfo, E.hi, Builtin.lenOf, hnc, Builtin.firstCells, storeCells]
    · obtain ⟨rfl, hm, hsrc⟩ := hx.src E.hsz
      have hone : ∀ u ∈ flat k size h, u.oneCell' = true := fun u hu => by obtain ⟨p, q, hp, hq, rfl⟩ := flat_mem E.hsz hu; exact h1 p q hp hq
      rcases hcap with hcap | rfl
      · obtain ⟨v', w', hr, ho, hg⟩ := run_append_arg_grows (P := Try.prog) w (ty := ty) t e i z size bytes E.ht E.hi E.hz E.hsize E.hby E.hzs E.hsz a n cap (flat n size g) (flat_length _ _ _) hold ax k c (flat k size h) (flat_length _ _ _) hsrc hcap h63 hbytes
        rw [← flat_cat n k size E.hsz] at ho
        obtain ⟨s1, s2⟩ := own_sl2 (D := D) ho h63
        exact ⟨v', w', hr, s1, s2, (Below.refl _ _).grown hg (Nat.le_refl _) (fun k hk => by cases hk)⟩
      · refine ⟨_, w, ?_, hsame rfl, .inr ⟨a, n, cap, rfl, hnc, hcm⟩, Below.refl _ _⟩
        have hl : (loadCells ax 0).run Try.prog w = .ok #[] w := by simpa using run_loadCells_list (P := Try.prog) w ax [] (fun j v hj => by simp at hj)
        simp [Builtin.append_, run_underlying E.ht, sizeOf, typeInfo, E.hi, Builtin.lenOf, hnc, Builtin.firstCells, storeCells, hl]
end

/-- An append whose run is known, at a step of a region that draws its order. -/
theorem step_app {w w' : World} {ops : Array Oper} {o : Oper} {a : Act} {K : Act → World → Prop} {Q : Exit → Act → World → Prop} {E : Prop} {v' : Value} (hgd : o.guard = none) (s x : Operand) (t : TypeId)
    (ho : o.op = .call { callee := .builtin .append, args := #[s, x], argTypes := #[t, t] }) (v u : Value) (hs : a.eval s = v) (hx : a.eval x = u)
    (hrun : (Builtin.append_ #[t, t] o.type #[v, u]).run Try.prog w = .ok v' w') (h : K (a.put o.dst v') w') :
    if Region.wanted o (yielded ops a.tmps) = true then Oper.wp Try.prog o a w K Q else E := by
  have hw : Region.wanted o (yielded ops a.tmps) = true := by simp [Region.wanted, hgd]
  rw [if_pos hw]
  unfold Oper.wp execOp
  simp only [ho, resolve, invoke, builtin, Sem.run_bind, Sem.run_pure, Result.andThen_ok, List.map_toArray, List.map_cons, List.map_nil, hs, hx, hrun]
  exact h
/-- The same at the list of a plain region's operations. -/
theorem list_app {w w' : World} {ops : Array Oper} {rest : List Oper} {o : Oper} {a : Act} {Q : Exit → Act → World → Prop} {v' : Value} (hgd : o.guard = none) (s x : Operand) (t : TypeId)
    (ho : o.op = .call { callee := .builtin .append, args := #[s, x], argTypes := #[t, t] }) (v u : Value) (hs : a.eval s = v) (hx : a.eval x = u)
    (hrun : (Builtin.append_ #[t, t] o.type #[v, u]).run Try.prog w = .ok v' w') (h : wpList Try.prog ops Q rest (a.put o.dst v') w') : wpList Try.prog ops Q (o :: rest) a w := by
  refine wpList_plain hgd fun K hK => ?_
  unfold Oper.wp execOp
  simp only [ho, resolve, invoke, builtin, Sem.run_bind, Sem.run_pure, Result.andThen_ok, List.map_toArray, List.map_cons, List.map_nil, hs, hx, hrun]
  exact hK _ _ h

/-- append behind a name, so that the walk leaves it to a fact at hand: lay 'attribute [local go_sem ↓ high] app_named', and the fact '(appF #[t, t] ty #[v, u]).run Try.prog w = .ok v' w''. -/
noncomputable def appF (ats : Array TypeId) (ty : TypeId) (args : Array Value) : Sem Value := Builtin.append_ ats ty args
theorem app_named {ats : Array TypeId} {ty : TypeId} {cs : Array Bool} {args : Array Value} : builtin .append ats ty cs args = (do pure (.value (← appF ats ty args))) := rfl

end Go.Proofs.Ytdmeogkdoeaemaa
