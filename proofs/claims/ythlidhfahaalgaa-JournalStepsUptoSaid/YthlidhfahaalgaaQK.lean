/- Small lemmas on worlds and slices. No condition. -/
import Derived.Test.YthlidhfahaalgaaProg
import Derived.WalkKit
import Derived.WalkSpells
import Derived.WalkLawsBesides
import Derived.Lib.Hide
import Derived.BigQuiet
import Derived.Deep.AppendLies
import Derived.Laws.AppendOwnNone
import Derived.ArgAppend
import Derived.OwnWalk
import Derived.Laws.CopyRow
import Derived.Laws.IdiomCopy
set_option linter.unusedVariables false
set_option linter.unusedSimpArgs false
namespace Go.Proofs.Ythlidhfahaalgaa
open Go.RowKit
def Box (w : World) (b : Nat) (xs : List Value) : Prop := ∃ t, w.heap[b]? = some (.cells xs.toArray t (0, 0))
theorem Box.new (w : World) (xs : List Value) (t : TypeId) : Box (w.alloc (.cells xs.toArray t)) w.heap.size xs := ⟨t, by show (w.heap.push _)[w.heap.size]? = _; simp⟩
theorem Box.newAt {w : World} {n : Nat} (xs : List Value) (t : TypeId) (h : n = w.heap.size) : Box (w.alloc (.cells xs.toArray t)) n xs := h ▸ Box.new w xs t
theorem Box.lt {w : World} {b : Nat} {xs : List Value} (h : Box w b xs) : b < w.heap.size := (Array.getElem?_eq_some_iff.1 h.choose_spec).1
theorem Box.alloc {w : World} {b : Nat} {xs : List Value} (h : Box w b xs) (o : Obj) : Box (w.alloc o) b xs := by
  obtain ⟨t, ht⟩ := h
  exact ⟨t, (Below.heap_alloc w o b (Array.getElem?_eq_some_iff.1 ht).1).trans ht⟩
theorem Box.drew {w : World} {b : Nat} {xs : List Value} (h : Box w b xs) : Box w.drew b xs := h
theorem Box.drewN {w : World} {b : Nat} {xs : List Value} (h : Box w b xs) (n : Nat) : Box (w.drewN n) b xs := h
theorem Box.later {w w' : World} {b : Nat} {xs : List Value} (h : Box w b xs) (hB : Below w.heap.size w w') : Box w' b xs := by
  obtain ⟨t, ht⟩ := h
  exact ⟨t, (hB.block b (Array.getElem?_eq_some_iff.1 ht).1).trans ht⟩
theorem Box.other {w : World} {b : Nat} {xs : List Value} (h : Box w b xs) {a : Addr} (ha : b ≠ a.block) (v : Value) : Box (w.setCell a v) b xs := by
  obtain ⟨t, ht⟩ := h
  exact ⟨t, (Below.heap_setCell w a v b ha).trans ht⟩
theorem Box.set {w : World} {b : Nat} {xs : List Value} (h : Box w b xs) (i : Nat) (v : Value) : Box (w.setCell ⟨b, i, none⟩ v) b (xs.set i v) := by
  obtain ⟨t, ht⟩ := h
  refine ⟨t, ?_⟩
  show (w.heap.modify b _)[b]? = _
  rw [Array.getElem?_modify, if_pos rfl, ht]
  simp
theorem Box.cell {w : World} {b : Nat} {xs : List Value} (h : Box w b xs) (i : Nat) : w.cell? ⟨b, i, none⟩ = xs[i]? := by
  obtain ⟨t, ht⟩ := h
  simp [World.cell?, ht]
theorem Box.free {w : World} {b : Nat} {xs : List Value} (h : Box w b xs) (i : Nat) : w.frozen? ⟨b, i, none⟩ = false := by
  obtain ⟨t, ht⟩ := h
  simp [World.frozen?, ht]
theorem Box.same {w w' : World} {b : Nat} {xs : List Value} (h : Box w b xs) (hB : w'.heap[b]? = w.heap[b]?) : Box w' b xs := by
  obtain ⟨t, ht⟩ := h
  exact ⟨t, hB.trans ht⟩
def Later (W : World) : Type := { w : World // Below W.heap.size W w }
instance (W : World) : Nonempty (Later W) := ⟨⟨W, Below.refl _ _⟩⟩
def Later.w {W : World} (x : Later W) : World := x.val
theorem Later.below {W : World} (x : Later W) : Below W.heap.size W x.w := x.property
theorem Later.mk' {W w : World} (h : Below W.heap.size W w) : ∃ x : Later W, w = x.w := ⟨⟨w, h⟩, rfl⟩
theorem Later.cell {W : World} {a : Addr} {v : Value} (h : W.cell? a = some v) (hb : a.block < W.heap.size) (x : Later W) : x.w.cell? a = some v := (x.below.cell hb).trans h
theorem Later.box {W : World} {b : Nat} {xs : List Value} (h : Box W b xs) (x : Later W) : Box x.w b xs := h.later x.below
theorem Later.call {P : Program} {f : FuncId} {args : Array Value} {W : World} {v : Value} (x : Later W)
    (h : Calls P f args x.w fun e w' => e = .returned v ∧ Below x.w.heap.size x.w w') : Calls P f args x.w fun e w'' => e = .returned v ∧ ∃ y : Later W, w'' = y.w :=
  h.mono fun _ _ ⟨he, hB⟩ => ⟨he, Later.mk' (x.below.trans (hB.mono x.below.size))⟩
theorem Later.same {P : Program} {f : FuncId} {args : Array Value} {W : World} {v : Value} (x : Later W)
    (h : Calls P f args x.w fun e w' => e = .returned v ∧ x.w = w') : Calls P f args x.w fun e w'' => e = .returned v ∧ ∃ y : Later W, w'' = y.w :=
  h.mono fun _ _ ⟨he, hB⟩ => ⟨he, x, hB.symm⟩
theorem wp_region_later {P : Program} {id : Nat} {Q : Exit → Act → World → Prop} {a : Act} {W : World} {l : List Oper} (hm : P.follows .mixedOrders = true) (hB : Region.lexB .any l.toArray = true)
    (h : wpQuiet P l.toArray (fun w' => ∃ x : Later W, w' = x.w) (fun a' => ∀ w', (∃ x : Later W, w' = x.w) → Q .normal a' w') l a) : (Code.region id l.toArray true).wp P Q a W :=
  wp_region_quiet (C := fun w' => ∃ x : Later W, w' = x.w) hm hB (Later.mk' ((Below.refl _ _).drew)) (by simpa using h)
def Sl (w : World) (B size n : Nat) (g : Nat → Nat → Value) (v : Value) : Prop :=
  ∃ A c, v = .slice A n c ∧ n ≤ maxLen ∧ ∀ i, i < n → ∃ b off, A = some ⟨b, off, none⟩ ∧ b < B ∧ ∀ j, j < size → w.cell? ⟨b, off + (i * size + j), none⟩ = some (g i j)
theorem Sl.below {w w' : World} {B size n : Nat} {g : Nat → Nat → Value} {v : Value} (h : Sl w B size n g v) (hb : Below B w w') : Sl w' B size n g v := by
  obtain ⟨A, c, rfl, hn, h⟩ := h
  refine ⟨A, c, rfl, hn, fun i hi => ?_⟩
  obtain ⟨b, off, h1, h2, h3⟩ := h i hi
  exact ⟨b, off, h1, h2, fun j hj => (hb.cell h2).trans (h3 j hj)⟩
theorem Sl.more {w : World} {B B' size n : Nat} {g : Nat → Nat → Value} {v : Value} (h : Sl w B size n g v) (hb : B ≤ B') : Sl w B' size n g v := by
  obtain ⟨A, c, rfl, hn, h⟩ := h
  refine ⟨A, c, rfl, hn, fun i hi => ?_⟩
  obtain ⟨b, off, h1, h2, h3⟩ := h i hi
  exact ⟨b, off, h1, by omega, h3⟩
theorem Sl.later {w w' : World} {size n : Nat} {g : Nat → Nat → Value} {v : Value} (h : Sl w w.heap.size size n g v) (hb : Below w.heap.size w w') : Sl w' w'.heap.size size n g v :=
  (h.below hb).more hb.size
end Go.Proofs.Ythlidhfahaalgaa
namespace Go.Proofs.Ythlidhfahaalgaa
open Go.RowKit
theorem add_at (b off n : Nat) : (⟨b, off, none⟩ : Addr).add n = ⟨b, off + n, none⟩ := by
  unfold Addr.add
  split
  · rename_i h; rw [h]; rfl
  · rfl
def SlF (v : Value) : Prop := v = .slice none 0 0 ∨ ∃ a n c, v = .slice (some a) n c ∧ n ≤ c ∧ c ≤ maxLen
def flat (n size : Nat) (g : Nat → Nat → Value) : List Value := (List.range (n * size)).map fun j => g (j / size) (j % size)
theorem flat_length (n size : Nat) (g : Nat → Nat → Value) : (flat n size g).length = n * size := by simp [flat]
theorem flat_at {n size : Nat} (g : Nat → Nat → Value) {i j : Nat} (hi : i < n) (hj : j < size) : (flat n size g)[i * size + j]? = some (g i j) := by
  have hlt : i * size + j < n * size := Nat.lt_of_lt_of_le (by rw [Nat.add_mul]; omega : i * size + j < (i + 1) * size) (Nat.mul_le_mul_right size hi)
  have e1 : (i * size + j) / size = i := by
    rw [Nat.mul_comm, Nat.mul_add_div (by omega), Nat.div_eq_of_lt hj, Nat.add_zero]
  have e2 : (i * size + j) % size = j := by
    rw [Nat.mul_comm, Nat.mul_add_mod, Nat.mod_eq_of_lt hj]
  rw [List.getElem?_eq_getElem (by rw [flat_length]; exact hlt)]
  simp [flat, e1, e2]
theorem flat_mem {n size : Nat} {g : Nat → Nat → Value} (hs : 0 < size) {u : Value} (h : u ∈ flat n size g) : ∃ i j, i < n ∧ j < size ∧ u = g i j := by
  obtain ⟨j, hj, rfl⟩ := List.mem_map.1 h
  have hj := List.mem_range.1 hj
  exact ⟨j / size, j % size, (Nat.div_lt_iff_lt_mul hs).2 hj, Nat.mod_lt _ hs, rfl⟩
def cat (n : Nat) (g h : Nat → Nat → Value) : Nat → Nat → Value := fun i j => if i < n then g i j else h (i - n) j
theorem flat_cat (n m size : Nat) (hs : 0 < size) (g h : Nat → Nat → Value) : flat (n + m) size (cat n g h) = flat n size g ++ flat m size h := by
  apply List.ext_getElem?
  intro k
  rcases Nat.lt_or_ge k (n * size) with hk | hk
  · have hi : k / size < n := (Nat.div_lt_iff_lt_mul hs).2 hk
    have hj := Nat.mod_lt k hs
    have e : k / size * size + k % size = k := by rw [Nat.mul_comm]; exact Nat.div_add_mod k size
    have a1 := flat_at (n := n + m) (cat n g h) (i := k / size) (by omega) hj
    have a2 := flat_at (n := n) g hi hj
    rw [e] at a1 a2
    rw [a1, List.getElem?_append_left (by rw [flat_length]; exact hk), a2, cat, if_pos hi]
  · rw [List.getElem?_append_right (by rw [flat_length]; exact hk), flat_length]
    rcases Nat.lt_or_ge k ((n + m) * size) with hk2 | hk2
    · obtain ⟨r, rfl⟩ : ∃ r, k = n * size + r := ⟨k - n * size, by omega⟩
      rw [Nat.add_mul] at hk2
      have hr : r < m * size := by omega
      have hi : r / size < m := (Nat.div_lt_iff_lt_mul hs).2 hr
      have hj := Nat.mod_lt r hs
      have e : r / size * size + r % size = r := by rw [Nat.mul_comm]; exact Nat.div_add_mod r size
      have e2 : n * size + r - n * size = r := by omega
      generalize r / size = q at hi e
      generalize r % size = s at hj e
      have a1 := flat_at (n := n + m) (cat n g h) (i := n + q) (by omega) hj
      have a2 := flat_at (n := m) h hi hj
      rw [Nat.add_mul, Nat.add_assoc, e] at a1
      rw [e] at a2
      rw [a1, e2, a2, cat, if_neg (by omega), show n + q - n = q by omega]
    · rw [List.getElem?_eq_none (by rw [flat_length]; exact hk2), List.getElem?_eq_none (by rw [flat_length]; rw [Nat.add_mul] at hk2; omega)]
theorem Sl.src {w : World} {B size n n' c : Nat} {g : Nat → Nat → Value} {a : Addr} (hs : 0 < size) (h : Sl w B size n g (.slice (some a) n' c)) : n' = n ∧ n ≤ maxLen ∧ ∀ j u, (flat n size g)[j]? = some u → w.cell? (a.add j) = some u := by
  obtain ⟨A', c', hv, hm, h1⟩ := h
  cases hv
  refine ⟨rfl, hm, fun j u hu => ?_⟩
  have hj : j < n * size := by rw [← flat_length n size g]; exact (List.getElem?_eq_some_iff.1 hu).1
  have hi : j / size < n := (Nat.div_lt_iff_lt_mul hs).2 hj
  have hr := Nat.mod_lt j hs
  have e : j / size * size + j % size = j := by rw [Nat.mul_comm]; exact Nat.div_add_mod j size
  have a2 := flat_at g hi hr
  rw [e, hu] at a2
  cases a2
  obtain ⟨b, off, e1, _, h3⟩ := h1 _ hi
  cases e1
  have := h3 _ hr
  rw [e] at this
  rw [add_at]
  exact this
theorem Sl.none_zero {w : World} {B size n n' c : Nat} {g : Nat → Nat → Value} (h : Sl w B size n g (.slice none n' c)) : n' = n ∧ n = 0 := by
  obtain ⟨A', c', hv, hm, h1⟩ := h
  cases hv
  rcases Nat.eq_zero_or_pos n with h0 | h0
  · exact ⟨rfl, h0⟩
  · obtain ⟨b, off, e1, _⟩ := h1 0 h0
    cases e1
def Sl2 (w : World) (D base size n : Nat) (g : Nat → Nat → Value) (v : Value) : Prop :=
  ∃ A c, v = .slice A n c ∧ n ≤ maxLen ∧ ∀ i, i < n → ∃ b off, A = some ⟨b, off, none⟩ ∧ (b < D ∨ base ≤ b) ∧ b < w.heap.size ∧ ∀ j, j < size → w.cell? ⟨b, off + (i * size + j), none⟩ = some (g i j)
theorem Sl2.sl {w : World} {D base size n : Nat} {g : Nat → Nat → Value} {v : Value} (h : Sl2 w D base size n g v) : Sl w w.heap.size size n g v := by
  obtain ⟨A, c, hv, hm, h1⟩ := h
  refine ⟨A, c, hv, hm, fun i hi => ?_⟩
  obtain ⟨b, off, ha, _, hb, h3⟩ := h1 i hi
  exact ⟨b, off, ha, hb, h3⟩
theorem Sl2.keep {w w' : World} {D base size n : Nat} {g : Nat → Nat → Value} {v : Value} (h : Sl2 w D base size n g v) (hs : w.heap.size ≤ w'.heap.size) (hk : ∀ b, (b < D ∨ base ≤ b) → b < w.heap.size → w'.heap[b]? = w.heap[b]?) : Sl2 w' D base size n g v := by
  obtain ⟨A, c, hv, hm, h1⟩ := h
  refine ⟨A, c, hv, hm, fun i hi => ?_⟩
  obtain ⟨b, off, ha, hb, hl, h3⟩ := h1 i hi
  exact ⟨b, off, ha, hb, by omega, fun j hj => by rw [World.cell?_of_block (w := w) (hk b hb hl)]; exact h3 j hj⟩
theorem Sl2.set {w : World} {D base size n : Nat} {g : Nat → Nat → Value} {v : Value} (h : Sl2 w D base size n g v) {a : Addr} (h1 : D ≤ a.block) (h2 : a.block < base) (u : Value) : Sl2 (w.setCell a u) D base size n g v :=
  h.keep (by simp) fun b hb _ => Below.heap_setCell w a u b (by omega)
theorem Sl2.later {w w' : World} {D base size n : Nat} {g : Nat → Nat → Value} {v : Value} (h : Sl2 w D base size n g v) (hb : Below w.heap.size w w') : Sl2 w' D base size n g v :=
  h.keep hb.size fun b _ hl => hb.block b hl
theorem own_sl2 {w : World} {D base e size n : Nat} {g : Nat → Nat → Value} {v : Value} (h : w.ownsRow base e size v n (flat n size g)) (hn : n ≤ maxLen) : Sl2 w D base size n g v ∧ SlF v := by
  rcases h.2 with ⟨rfl, rfl⟩ | ⟨b, cap, cur, rfl, hb, hg, hc, hcm, _, _⟩
  · exact ⟨⟨none, 0, rfl, hn, fun i hi => by omega⟩, .inl rfl⟩
  · have hlt : b < w.heap.size := (Array.getElem?_eq_some_iff.1 hg).1
    have hcell := h.cells (g := b) rfl
    refine ⟨⟨some ⟨b, 0, none⟩, cap, rfl, hn, fun i hi => ⟨b, 0, rfl, .inr hb, hlt, fun j hj => ?_⟩⟩, .inr ⟨_, _, _, rfl, hc, hcm⟩⟩
    have := hcell _ _ (flat_at g hi hj)
    rw [add_at] at this
    exact this
section
variable {t e : TypeId} {i : TypeInfo} {z : Value} {size bytes : Nat}
structure Elem (t e : TypeId) (i : TypeInfo) (z : Value) (size bytes : Nat) : Prop where
  ht : Try.prog.underlying t = some (.slice e)
  hi : Try.prog.info? e = some i
  hz : i.zero = some z
  hsize : i.size = size
  hby : i.bytes = bytes
  hzs : z.cells.size = size
  hsz : 0 < size
theorem run_app_own (E : Elem t e i z size bytes) (ty : TypeId) {w : World} {base n m : Nat} {g h : Nat → Nat → Value} {v x : Value} (hown : w.ownsRow base e size v n (flat n size g)) (hx : Sl w w.heap.size size m h x) (hxf : SlF x)
    (h1 : ∀ k j, k < m → j < size → (h k j).oneCell' = true) (h63 : n + m ≤ maxLen) (hbytes : (n + m) * bytes ≤ 140737488355328) (hbase : base ≤ w.heap.size) :
    ∃ v' w', (Builtin.append_ #[t, t] ty #[v, x]).run Try.prog w = .ok v' w' ∧ w'.ownsRow base e size v' (n + m) (flat (n + m) size (cat n g h)) ∧ w.grownBy w' v.ownBlock := by
  rcases hxf with rfl | ⟨a, k, c, rfl, _, _⟩
  · obtain ⟨h0, rfl⟩ := hx.none_zero
    refine ⟨v, w, run_append_owned_none (P := Try.prog) (w := w) base t ty e i size E.ht E.hi v n _ hown, ?_, ⟨rfl, rfl, rfl, Nat.le_refl _, fun _ _ _ => rfl⟩⟩
    rw [flat_cat n 0 size E.hsz, show flat 0 size h = [] by simp [flat], List.append_nil]
    exact hown
  · obtain ⟨rfl, hm, hsrc⟩ := hx.src E.hsz
    obtain ⟨v', w', hr, ho, hg, _, _⟩ := run_append_own_at (P := Try.prog) (w := w) base t ty e i z size bytes E.ht E.hi E.hz E.hsize E.hby E.hzs E.hsz v n _ hown a k c (flat k size h) (flat_length _ _ _) hsrc
      (fun u hu => by obtain ⟨p, q, hp, hq, rfl⟩ := flat_mem E.hsz hu; exact h1 p q hp hq) h63 hbytes hbase
    rw [← flat_cat n k size E.hsz] at ho
    exact ⟨v', w', hr, ho, hg⟩
end
noncomputable def appF (ats : Array TypeId) (ty : TypeId) (args : Array Value) : Sem Value := Builtin.append_ ats ty args
theorem app_named {ats : Array TypeId} {ty : TypeId} {cs : Array Bool} {args : Array Value} : builtin .append ats ty cs args = (do pure (.value (← appF ats ty args))) := rfl
end Go.Proofs.Ythlidhfahaalgaa
namespace Go.Proofs.Ythlidhfahaalgaa
open Go.RowKit
section
variable {w : World} {b : Nat} {l : List Value}
theorem Box.c2 {v0 v1 : Value} (h : Box w b (v0 :: v1 :: l)) : w.cell? ⟨b, 0, none⟩ = some v0 ∧ w.cell? ⟨b, 1, none⟩ = some v1 := ⟨h.cell 0, h.cell 1⟩
theorem Box.f2 {v0 v1 : Value} (h : Box w b (v0 :: v1 :: l)) : w.cell? ⟨b, 0, none⟩ = some v0 ∧ w.frozen? ⟨b, 0, none⟩ = false ∧ w.cell? ⟨b, 1, none⟩ = some v1 ∧ w.frozen? ⟨b, 1, none⟩ = false := ⟨h.cell 0, h.free 0, h.cell 1, h.free 1⟩
theorem Box.c3 {v0 v1 v2 : Value} (h : Box w b (v0 :: v1 :: v2 :: l)) : w.cell? ⟨b, 0, none⟩ = some v0 ∧ w.cell? ⟨b, 1, none⟩ = some v1 ∧ w.cell? ⟨b, 2, none⟩ = some v2 := ⟨h.cell 0, h.cell 1, h.cell 2⟩
theorem Box.f3 {v0 v1 v2 : Value} (h : Box w b (v0 :: v1 :: v2 :: l)) : w.cell? ⟨b, 0, none⟩ = some v0 ∧ w.frozen? ⟨b, 0, none⟩ = false ∧ w.cell? ⟨b, 1, none⟩ = some v1 ∧ w.frozen? ⟨b, 1, none⟩ = false ∧ w.cell? ⟨b, 2, none⟩ = some v2 ∧ w.frozen? ⟨b, 2, none⟩ = false := ⟨h.cell 0, h.free 0, h.cell 1, h.free 1, h.cell 2, h.free 2⟩
theorem Box.c4 {v0 v1 v2 v3 : Value} (h : Box w b (v0 :: v1 :: v2 :: v3 :: l)) : w.cell? ⟨b, 0, none⟩ = some v0 ∧ w.cell? ⟨b, 1, none⟩ = some v1 ∧ w.cell? ⟨b, 2, none⟩ = some v2 ∧ w.cell? ⟨b, 3, none⟩ = some v3 := ⟨h.cell 0, h.cell 1, h.cell 2, h.cell 3⟩
theorem Box.f4 {v0 v1 v2 v3 : Value} (h : Box w b (v0 :: v1 :: v2 :: v3 :: l)) : w.cell? ⟨b, 0, none⟩ = some v0 ∧ w.frozen? ⟨b, 0, none⟩ = false ∧ w.cell? ⟨b, 1, none⟩ = some v1 ∧ w.frozen? ⟨b, 1, none⟩ = false ∧ w.cell? ⟨b, 2, none⟩ = some v2 ∧ w.frozen? ⟨b, 2, none⟩ = false ∧ w.cell? ⟨b, 3, none⟩ = some v3 ∧ w.frozen? ⟨b, 3, none⟩ = false := ⟨h.cell 0, h.free 0, h.cell 1, h.free 1, h.cell 2, h.free 2, h.cell 3, h.free 3⟩
theorem Box.c5 {v0 v1 v2 v3 v4 : Value} (h : Box w b (v0 :: v1 :: v2 :: v3 :: v4 :: l)) : w.cell? ⟨b, 0, none⟩ = some v0 ∧ w.cell? ⟨b, 1, none⟩ = some v1 ∧ w.cell? ⟨b, 2, none⟩ = some v2 ∧ w.cell? ⟨b, 3, none⟩ = some v3 ∧ w.cell? ⟨b, 4, none⟩ = some v4 := ⟨h.cell 0, h.cell 1, h.cell 2, h.cell 3, h.cell 4⟩
theorem Box.f5 {v0 v1 v2 v3 v4 : Value} (h : Box w b (v0 :: v1 :: v2 :: v3 :: v4 :: l)) : w.cell? ⟨b, 0, none⟩ = some v0 ∧ w.frozen? ⟨b, 0, none⟩ = false ∧ w.cell? ⟨b, 1, none⟩ = some v1 ∧ w.frozen? ⟨b, 1, none⟩ = false ∧ w.cell? ⟨b, 2, none⟩ = some v2 ∧ w.frozen? ⟨b, 2, none⟩ = false ∧ w.cell? ⟨b, 3, none⟩ = some v3 ∧ w.frozen? ⟨b, 3, none⟩ = false ∧ w.cell? ⟨b, 4, none⟩ = some v4 ∧ w.frozen? ⟨b, 4, none⟩ = false := ⟨h.cell 0, h.free 0, h.cell 1, h.free 1, h.cell 2, h.free 2, h.cell 3, h.free 3, h.cell 4, h.free 4⟩
theorem Box.c6 {v0 v1 v2 v3 v4 v5 : Value} (h : Box w b (v0 :: v1 :: v2 :: v3 :: v4 :: v5 :: l)) : w.cell? ⟨b, 0, none⟩ = some v0 ∧ w.cell? ⟨b, 1, none⟩ = some v1 ∧ w.cell? ⟨b, 2, none⟩ = some v2 ∧ w.cell? ⟨b, 3, none⟩ = some v3 ∧ w.cell? ⟨b, 4, none⟩ = some v4 ∧ w.cell? ⟨b, 5, none⟩ = some v5 := ⟨h.cell 0, h.cell 1, h.cell 2, h.cell 3, h.cell 4, h.cell 5⟩
theorem Box.f6 {v0 v1 v2 v3 v4 v5 : Value} (h : Box w b (v0 :: v1 :: v2 :: v3 :: v4 :: v5 :: l)) : w.cell? ⟨b, 0, none⟩ = some v0 ∧ w.frozen? ⟨b, 0, none⟩ = false ∧ w.cell? ⟨b, 1, none⟩ = some v1 ∧ w.frozen? ⟨b, 1, none⟩ = false ∧ w.cell? ⟨b, 2, none⟩ = some v2 ∧ w.frozen? ⟨b, 2, none⟩ = false ∧ w.cell? ⟨b, 3, none⟩ = some v3 ∧ w.frozen? ⟨b, 3, none⟩ = false ∧ w.cell? ⟨b, 4, none⟩ = some v4 ∧ w.frozen? ⟨b, 4, none⟩ = false ∧ w.cell? ⟨b, 5, none⟩ = some v5 ∧ w.frozen? ⟨b, 5, none⟩ = false := ⟨h.cell 0, h.free 0, h.cell 1, h.free 1, h.cell 2, h.free 2, h.cell 3, h.free 3, h.cell 4, h.free 4, h.cell 5, h.free 5⟩
theorem Box.c7 {v0 v1 v2 v3 v4 v5 v6 : Value} (h : Box w b (v0 :: v1 :: v2 :: v3 :: v4 :: v5 :: v6 :: l)) : w.cell? ⟨b, 0, none⟩ = some v0 ∧ w.cell? ⟨b, 1, none⟩ = some v1 ∧ w.cell? ⟨b, 2, none⟩ = some v2 ∧ w.cell? ⟨b, 3, none⟩ = some v3 ∧ w.cell? ⟨b, 4, none⟩ = some v4 ∧ w.cell? ⟨b, 5, none⟩ = some v5 ∧ w.cell? ⟨b, 6, none⟩ = some v6 := ⟨h.cell 0, h.cell 1, h.cell 2, h.cell 3, h.cell 4, h.cell 5, h.cell 6⟩
theorem Box.f7 {v0 v1 v2 v3 v4 v5 v6 : Value} (h : Box w b (v0 :: v1 :: v2 :: v3 :: v4 :: v5 :: v6 :: l)) : w.cell? ⟨b, 0, none⟩ = some v0 ∧ w.frozen? ⟨b, 0, none⟩ = false ∧ w.cell? ⟨b, 1, none⟩ = some v1 ∧ w.frozen? ⟨b, 1, none⟩ = false ∧ w.cell? ⟨b, 2, none⟩ = some v2 ∧ w.frozen? ⟨b, 2, none⟩ = false ∧ w.cell? ⟨b, 3, none⟩ = some v3 ∧ w.frozen? ⟨b, 3, none⟩ = false ∧ w.cell? ⟨b, 4, none⟩ = some v4 ∧ w.frozen? ⟨b, 4, none⟩ = false ∧ w.cell? ⟨b, 5, none⟩ = some v5 ∧ w.frozen? ⟨b, 5, none⟩ = false ∧ w.cell? ⟨b, 6, none⟩ = some v6 ∧ w.frozen? ⟨b, 6, none⟩ = false := ⟨h.cell 0, h.free 0, h.cell 1, h.free 1, h.cell 2, h.free 2, h.cell 3, h.free 3, h.cell 4, h.free 4, h.cell 5, h.free 5, h.cell 6, h.free 6⟩
theorem Box.c8 {v0 v1 v2 v3 v4 v5 v6 v7 : Value} (h : Box w b (v0 :: v1 :: v2 :: v3 :: v4 :: v5 :: v6 :: v7 :: l)) : w.cell? ⟨b, 0, none⟩ = some v0 ∧ w.cell? ⟨b, 1, none⟩ = some v1 ∧ w.cell? ⟨b, 2, none⟩ = some v2 ∧ w.cell? ⟨b, 3, none⟩ = some v3 ∧ w.cell? ⟨b, 4, none⟩ = some v4 ∧ w.cell? ⟨b, 5, none⟩ = some v5 ∧ w.cell? ⟨b, 6, none⟩ = some v6 ∧ w.cell? ⟨b, 7, none⟩ = some v7 := ⟨h.cell 0, h.cell 1, h.cell 2, h.cell 3, h.cell 4, h.cell 5, h.cell 6, h.cell 7⟩
theorem Box.f8 {v0 v1 v2 v3 v4 v5 v6 v7 : Value} (h : Box w b (v0 :: v1 :: v2 :: v3 :: v4 :: v5 :: v6 :: v7 :: l)) : w.cell? ⟨b, 0, none⟩ = some v0 ∧ w.frozen? ⟨b, 0, none⟩ = false ∧ w.cell? ⟨b, 1, none⟩ = some v1 ∧ w.frozen? ⟨b, 1, none⟩ = false ∧ w.cell? ⟨b, 2, none⟩ = some v2 ∧ w.frozen? ⟨b, 2, none⟩ = false ∧ w.cell? ⟨b, 3, none⟩ = some v3 ∧ w.frozen? ⟨b, 3, none⟩ = false ∧ w.cell? ⟨b, 4, none⟩ = some v4 ∧ w.frozen? ⟨b, 4, none⟩ = false ∧ w.cell? ⟨b, 5, none⟩ = some v5 ∧ w.frozen? ⟨b, 5, none⟩ = false ∧ w.cell? ⟨b, 6, none⟩ = some v6 ∧ w.frozen? ⟨b, 6, none⟩ = false ∧ w.cell? ⟨b, 7, none⟩ = some v7 ∧ w.frozen? ⟨b, 7, none⟩ = false := ⟨h.cell 0, h.free 0, h.cell 1, h.free 1, h.cell 2, h.free 2, h.cell 3, h.free 3, h.cell 4, h.free 4, h.cell 5, h.free 5, h.cell 6, h.free 6, h.cell 7, h.free 7⟩
theorem Box.c9 {v0 v1 v2 v3 v4 v5 v6 v7 v8 : Value} (h : Box w b (v0 :: v1 :: v2 :: v3 :: v4 :: v5 :: v6 :: v7 :: v8 :: l)) : w.cell? ⟨b, 0, none⟩ = some v0 ∧ w.cell? ⟨b, 1, none⟩ = some v1 ∧ w.cell? ⟨b, 2, none⟩ = some v2 ∧ w.cell? ⟨b, 3, none⟩ = some v3 ∧ w.cell? ⟨b, 4, none⟩ = some v4 ∧ w.cell? ⟨b, 5, none⟩ = some v5 ∧ w.cell? ⟨b, 6, none⟩ = some v6 ∧ w.cell? ⟨b, 7, none⟩ = some v7 ∧ w.cell? ⟨b, 8, none⟩ = some v8 := ⟨h.cell 0, h.cell 1, h.cell 2, h.cell 3, h.cell 4, h.cell 5, h.cell 6, h.cell 7, h.cell 8⟩
theorem Box.f9 {v0 v1 v2 v3 v4 v5 v6 v7 v8 : Value} (h : Box w b (v0 :: v1 :: v2 :: v3 :: v4 :: v5 :: v6 :: v7 :: v8 :: l)) : w.cell? ⟨b, 0, none⟩ = some v0 ∧ w.frozen? ⟨b, 0, none⟩ = false ∧ w.cell? ⟨b, 1, none⟩ = some v1 ∧ w.frozen? ⟨b, 1, none⟩ = false ∧ w.cell? ⟨b, 2, none⟩ = some v2 ∧ w.frozen? ⟨b, 2, none⟩ = false ∧ w.cell? ⟨b, 3, none⟩ = some v3 ∧ w.frozen? ⟨b, 3, none⟩ = false ∧ w.cell? ⟨b, 4, none⟩ = some v4 ∧ w.frozen? ⟨b, 4, none⟩ = false ∧ w.cell? ⟨b, 5, none⟩ = some v5 ∧ w.frozen? ⟨b, 5, none⟩ = false ∧ w.cell? ⟨b, 6, none⟩ = some v6 ∧ w.frozen? ⟨b, 6, none⟩ = false ∧ w.cell? ⟨b, 7, none⟩ = some v7 ∧ w.frozen? ⟨b, 7, none⟩ = false ∧ w.cell? ⟨b, 8, none⟩ = some v8 ∧ w.frozen? ⟨b, 8, none⟩ = false := ⟨h.cell 0, h.free 0, h.cell 1, h.free 1, h.cell 2, h.free 2, h.cell 3, h.free 3, h.cell 4, h.free 4, h.cell 5, h.free 5, h.cell 6, h.free 6, h.cell 7, h.free 7, h.cell 8, h.free 8⟩
theorem Box.c10 {v0 v1 v2 v3 v4 v5 v6 v7 v8 v9 : Value} (h : Box w b (v0 :: v1 :: v2 :: v3 :: v4 :: v5 :: v6 :: v7 :: v8 :: v9 :: l)) : w.cell? ⟨b, 0, none⟩ = some v0 ∧ w.cell? ⟨b, 1, none⟩ = some v1 ∧ w.cell? ⟨b, 2, none⟩ = some v2 ∧ w.cell? ⟨b, 3, none⟩ = some v3 ∧ w.cell? ⟨b, 4, none⟩ = some v4 ∧ w.cell? ⟨b, 5, none⟩ = some v5 ∧ w.cell? ⟨b, 6, none⟩ = some v6 ∧ w.cell? ⟨b, 7, none⟩ = some v7 ∧ w.cell? ⟨b, 8, none⟩ = some v8 ∧ w.cell? ⟨b, 9, none⟩ = some v9 := ⟨h.cell 0, h.cell 1, h.cell 2, h.cell 3, h.cell 4, h.cell 5, h.cell 6, h.cell 7, h.cell 8, h.cell 9⟩
theorem Box.f10 {v0 v1 v2 v3 v4 v5 v6 v7 v8 v9 : Value} (h : Box w b (v0 :: v1 :: v2 :: v3 :: v4 :: v5 :: v6 :: v7 :: v8 :: v9 :: l)) : w.cell? ⟨b, 0, none⟩ = some v0 ∧ w.frozen? ⟨b, 0, none⟩ = false ∧ w.cell? ⟨b, 1, none⟩ = some v1 ∧ w.frozen? ⟨b, 1, none⟩ = false ∧ w.cell? ⟨b, 2, none⟩ = some v2 ∧ w.frozen? ⟨b, 2, none⟩ = false ∧ w.cell? ⟨b, 3, none⟩ = some v3 ∧ w.frozen? ⟨b, 3, none⟩ = false ∧ w.cell? ⟨b, 4, none⟩ = some v4 ∧ w.frozen? ⟨b, 4, none⟩ = false ∧ w.cell? ⟨b, 5, none⟩ = some v5 ∧ w.frozen? ⟨b, 5, none⟩ = false ∧ w.cell? ⟨b, 6, none⟩ = some v6 ∧ w.frozen? ⟨b, 6, none⟩ = false ∧ w.cell? ⟨b, 7, none⟩ = some v7 ∧ w.frozen? ⟨b, 7, none⟩ = false ∧ w.cell? ⟨b, 8, none⟩ = some v8 ∧ w.frozen? ⟨b, 8, none⟩ = false ∧ w.cell? ⟨b, 9, none⟩ = some v9 ∧ w.frozen? ⟨b, 9, none⟩ = false := ⟨h.cell 0, h.free 0, h.cell 1, h.free 1, h.cell 2, h.free 2, h.cell 3, h.free 3, h.cell 4, h.free 4, h.cell 5, h.free 5, h.cell 6, h.free 6, h.cell 7, h.free 7, h.cell 8, h.free 8, h.cell 9, h.free 9⟩
theorem Box.c11 {v0 v1 v2 v3 v4 v5 v6 v7 v8 v9 v10 : Value} (h : Box w b (v0 :: v1 :: v2 :: v3 :: v4 :: v5 :: v6 :: v7 :: v8 :: v9 :: v10 :: l)) : w.cell? ⟨b, 0, none⟩ = some v0 ∧ w.cell? ⟨b, 1, none⟩ = some v1 ∧ w.cell? ⟨b, 2, none⟩ = some v2 ∧ w.cell? ⟨b, 3, none⟩ = some v3 ∧ w.cell? ⟨b, 4, none⟩ = some v4 ∧ w.cell? ⟨b, 5, none⟩ = some v5 ∧ w.cell? ⟨b, 6, none⟩ = some v6 ∧ w.cell? ⟨b, 7, none⟩ = some v7 ∧ w.cell? ⟨b, 8, none⟩ = some v8 ∧ w.cell? ⟨b, 9, none⟩ = some v9 ∧ w.cell? ⟨b, 10, none⟩ = some v10 := ⟨h.cell 0, h.cell 1, h.cell 2, h.cell 3, h.cell 4, h.cell 5, h.cell 6, h.cell 7, h.cell 8, h.cell 9, h.cell 10⟩
theorem Box.f11 {v0 v1 v2 v3 v4 v5 v6 v7 v8 v9 v10 : Value} (h : Box w b (v0 :: v1 :: v2 :: v3 :: v4 :: v5 :: v6 :: v7 :: v8 :: v9 :: v10 :: l)) : w.cell? ⟨b, 0, none⟩ = some v0 ∧ w.frozen? ⟨b, 0, none⟩ = false ∧ w.cell? ⟨b, 1, none⟩ = some v1 ∧ w.frozen? ⟨b, 1, none⟩ = false ∧ w.cell? ⟨b, 2, none⟩ = some v2 ∧ w.frozen? ⟨b, 2, none⟩ = false ∧ w.cell? ⟨b, 3, none⟩ = some v3 ∧ w.frozen? ⟨b, 3, none⟩ = false ∧ w.cell? ⟨b, 4, none⟩ = some v4 ∧ w.frozen? ⟨b, 4, none⟩ = false ∧ w.cell? ⟨b, 5, none⟩ = some v5 ∧ w.frozen? ⟨b, 5, none⟩ = false ∧ w.cell? ⟨b, 6, none⟩ = some v6 ∧ w.frozen? ⟨b, 6, none⟩ = false ∧ w.cell? ⟨b, 7, none⟩ = some v7 ∧ w.frozen? ⟨b, 7, none⟩ = false ∧ w.cell? ⟨b, 8, none⟩ = some v8 ∧ w.frozen? ⟨b, 8, none⟩ = false ∧ w.cell? ⟨b, 9, none⟩ = some v9 ∧ w.frozen? ⟨b, 9, none⟩ = false ∧ w.cell? ⟨b, 10, none⟩ = some v10 ∧ w.frozen? ⟨b, 10, none⟩ = false := ⟨h.cell 0, h.free 0, h.cell 1, h.free 1, h.cell 2, h.free 2, h.cell 3, h.free 3, h.cell 4, h.free 4, h.cell 5, h.free 5, h.cell 6, h.free 6, h.cell 7, h.free 7, h.cell 8, h.free 8, h.cell 9, h.free 9, h.cell 10, h.free 10⟩
theorem Box.c12 {v0 v1 v2 v3 v4 v5 v6 v7 v8 v9 v10 v11 : Value} (h : Box w b (v0 :: v1 :: v2 :: v3 :: v4 :: v5 :: v6 :: v7 :: v8 :: v9 :: v10 :: v11 :: l)) : w.cell? ⟨b, 0, none⟩ = some v0 ∧ w.cell? ⟨b, 1, none⟩ = some v1 ∧ w.cell? ⟨b, 2, none⟩ = some v2 ∧ w.cell? ⟨b, 3, none⟩ = some v3 ∧ w.cell? ⟨b, 4, none⟩ = some v4 ∧ w.cell? ⟨b, 5, none⟩ = some v5 ∧ w.cell? ⟨b, 6, none⟩ = some v6 ∧ w.cell? ⟨b, 7, none⟩ = some v7 ∧ w.cell? ⟨b, 8, none⟩ = some v8 ∧ w.cell? ⟨b, 9, none⟩ = some v9 ∧ w.cell? ⟨b, 10, none⟩ = some v10 ∧ w.cell? ⟨b, 11, none⟩ = some v11 := ⟨h.cell 0, h.cell 1, h.cell 2, h.cell 3, h.cell 4, h.cell 5, h.cell 6, h.cell 7, h.cell 8, h.cell 9, h.cell 10, h.cell 11⟩
theorem Box.f12 {v0 v1 v2 v3 v4 v5 v6 v7 v8 v9 v10 v11 : Value} (h : Box w b (v0 :: v1 :: v2 :: v3 :: v4 :: v5 :: v6 :: v7 :: v8 :: v9 :: v10 :: v11 :: l)) : w.cell? ⟨b, 0, none⟩ = some v0 ∧ w.frozen? ⟨b, 0, none⟩ = false ∧ w.cell? ⟨b, 1, none⟩ = some v1 ∧ w.frozen? ⟨b, 1, none⟩ = false ∧ w.cell? ⟨b, 2, none⟩ = some v2 ∧ w.frozen? ⟨b, 2, none⟩ = false ∧ w.cell? ⟨b, 3, none⟩ = some v3 ∧ w.frozen? ⟨b, 3, none⟩ = false ∧ w.cell? ⟨b, 4, none⟩ = some v4 ∧ w.frozen? ⟨b, 4, none⟩ = false ∧ w.cell? ⟨b, 5, none⟩ = some v5 ∧ w.frozen? ⟨b, 5, none⟩ = false ∧ w.cell? ⟨b, 6, none⟩ = some v6 ∧ w.frozen? ⟨b, 6, none⟩ = false ∧ w.cell? ⟨b, 7, none⟩ = some v7 ∧ w.frozen? ⟨b, 7, none⟩ = false ∧ w.cell? ⟨b, 8, none⟩ = some v8 ∧ w.frozen? ⟨b, 8, none⟩ = false ∧ w.cell? ⟨b, 9, none⟩ = some v9 ∧ w.frozen? ⟨b, 9, none⟩ = false ∧ w.cell? ⟨b, 10, none⟩ = some v10 ∧ w.frozen? ⟨b, 10, none⟩ = false ∧ w.cell? ⟨b, 11, none⟩ = some v11 ∧ w.frozen? ⟨b, 11, none⟩ = false := ⟨h.cell 0, h.free 0, h.cell 1, h.free 1, h.cell 2, h.free 2, h.cell 3, h.free 3, h.cell 4, h.free 4, h.cell 5, h.free 5, h.cell 6, h.free 6, h.cell 7, h.free 7, h.cell 8, h.free 8, h.cell 9, h.free 9, h.cell 10, h.free 10, h.cell 11, h.free 11⟩
end
end Go.Proofs.Ythlidhfahaalgaa
namespace Go.Proofs.Ythlidhfahaalgaa
open Go.RowKit
def SlP (w : World) (S : Nat → Prop) (size n : Nat) (g : Nat → Nat → Value) (v : Value) : Prop :=
  ∃ A c, v = .slice A n c ∧ n ≤ maxLen ∧ ∀ i, i < n → ∃ b off, A = some ⟨b, off, none⟩ ∧ S b ∧ b < w.heap.size ∧ ∀ j, j < size → w.cell? ⟨b, off + (i * size + j), none⟩ = some (g i j)
def Keeps (S : Nat → Prop) (w w' : World) : Prop := w.heap.size ≤ w'.heap.size ∧ ∀ b, S b → b < w.heap.size → w'.heap[b]? = w.heap[b]?
def Grow (S : Nat → Prop) (w : World) : Nat → Prop := fun b => S b ∨ w.heap.size ≤ b
theorem Keeps.of {S : Nat → Prop} {w w' : World} (h : Below w.heap.size w w') : Keeps S w w' := ⟨h.size, fun b _ hb => h.block b hb⟩
theorem Keeps.refl (S : Nat → Prop) (w : World) : Keeps S w w := ⟨Nat.le_refl _, fun _ _ _ => rfl⟩
theorem Keeps.trans {S : Nat → Prop} {w w' w'' : World} (h : Keeps S w w') (k : Keeps S w' w'') : Keeps S w w'' :=
  ⟨Nat.le_trans h.1 k.1, fun b hS hb => (k.2 b hS (Nat.lt_of_lt_of_le hb h.1)).trans (h.2 b hS hb)⟩
theorem Keeps.set {S : Nat → Prop} (w : World) {a : Addr} (h : ¬ S a.block) (u : Value) : Keeps S w (w.setCell a u) :=
  ⟨by simp, fun b hS _ => Below.heap_setCell w a u b (fun e => h (e ▸ hS))⟩
theorem Keeps.row {S : Nat → Prop} (w : World) {g : Nat} (h : ¬ S g) (cs : Array Value) : Keeps S w (w.setRow g cs) :=
  ⟨by simp [World.setRow], fun b hS _ => setRow_other w g b cs (fun e => h (e ▸ hS))⟩
theorem Keeps.from {S : Nat → Prop} {B : Nat} {w w' : World} (h : Below B w w') (hS : ∀ b, S b → b < w.heap.size → b < B) : Keeps S w w' :=
  ⟨h.size, fun b hb hl => h.block b (hS b hb hl)⟩
theorem Keeps.grown {S : Nat → Prop} {w w' : World} {row : Option Nat} (h : w.grownBy w' row) (hr : ∀ k, row = some k → ¬ S k) : Keeps S w w' := by
  refine ⟨h.size, fun b hS hl => h.block b hl (fun e => ?_)⟩
  exact hr b e.symm hS
theorem SlP.keep {w w' : World} {S : Nat → Prop} {size n : Nat} {g : Nat → Nat → Value} {v : Value} (h : SlP w S size n g v) (hk : Keeps S w w') : SlP w' S size n g v := by
  obtain ⟨A, c, hv, hm, h1⟩ := h
  refine ⟨A, c, hv, hm, fun i hi => ?_⟩
  obtain ⟨b, off, ha, hb, hl, h3⟩ := h1 i hi
  exact ⟨b, off, ha, hb, Nat.lt_of_lt_of_le hl hk.1, fun j hj => by rw [World.cell?_of_block (w := w) (hk.2 b hb hl)]; exact h3 j hj⟩
theorem SlP.weak {w : World} {S S' : Nat → Prop} {size n : Nat} {g : Nat → Nat → Value} {v : Value} (h : SlP w S size n g v) (hk : ∀ b, S b → b < w.heap.size → S' b) : SlP w S' size n g v := by
  obtain ⟨A, c, hv, hm, h1⟩ := h
  refine ⟨A, c, hv, hm, fun i hi => ?_⟩
  obtain ⟨b, off, ha, hb, hl, h3⟩ := h1 i hi
  exact ⟨b, off, ha, hk b hb hl, hl, h3⟩
theorem SlP.sl {w : World} {S : Nat → Prop} {size n : Nat} {g : Nat → Nat → Value} {v : Value} (h : SlP w S size n g v) : Sl w w.heap.size size n g v := by
  obtain ⟨A, c, hv, hm, h1⟩ := h
  refine ⟨A, c, hv, hm, fun i hi => ?_⟩
  obtain ⟨b, off, ha, _, hb, h3⟩ := h1 i hi
  exact ⟨b, off, ha, hb, h3⟩
theorem Sl.slp {w : World} {B size n : Nat} {g : Nat → Nat → Value} {v : Value} (h : Sl w B size n g v) (hB : B ≤ w.heap.size) : SlP w (fun b => b < B) size n g v := by
  obtain ⟨A, c, hv, hm, h1⟩ := h
  refine ⟨A, c, hv, hm, fun i hi => ?_⟩
  obtain ⟨b, off, ha, hb, h3⟩ := h1 i hi
  exact ⟨b, off, ha, hb, Nat.lt_of_lt_of_le hb hB, h3⟩
theorem SlP.congr {w : World} {S : Nat → Prop} {size n : Nat} {g h : Nat → Nat → Value} {v : Value} (hs : SlP w S size n g v) (he : ∀ i j, i < n → j < size → g i j = h i j) : SlP w S size n h v := by
  obtain ⟨A, c, hv, hm, h1⟩ := hs
  refine ⟨A, c, hv, hm, fun i hi => ?_⟩
  obtain ⟨b, off, ha, hb, hl, h3⟩ := h1 i hi
  exact ⟨b, off, ha, hb, hl, fun j hj => by rw [h3 j hj, he i j hi hj]⟩
theorem SlP.form {w : World} {S : Nat → Prop} {size n : Nat} {g : Nat → Nat → Value} {v : Value} (h : SlP w S size n g v) : ∃ A c, v = .slice A n c ∧ n ≤ maxLen := by
  obtain ⟨A, c, hv, hm, _⟩ := h
  exact ⟨A, c, hv, hm⟩
theorem slP_nil (w : World) (S : Nat → Prop) (size : Nat) (g : Nat → Nat → Value) : SlP w S size 0 g (.slice none 0 0) := ⟨none, 0, rfl, Nat.zero_le _, fun i hi => by omega⟩
theorem own_slp {w : World} {base e size n : Nat} {g : Nat → Nat → Value} {v : Value} (h : w.ownsRow base e size v n (flat n size g)) (hn : n ≤ maxLen) : SlP w (fun b => base ≤ b) size n g v ∧ SlF v := by
  obtain ⟨⟨A, c, hv, hm, h1⟩, hf⟩ := own_sl2 (D := 0) h hn
  refine ⟨⟨A, c, hv, hm, fun i hi => ?_⟩, hf⟩
  obtain ⟨b, off, ha, hb, hl, h3⟩ := h1 i hi
  exact ⟨b, off, ha, by omega, hl, h3⟩
theorem SlP.part {w : World} {S : Nat → Prop} {size n c : Nat} {g : Nat → Nat → Value} {b off : Nat} (h : SlP w S size n g (.slice (some ⟨b, off, none⟩) n c)) (i m c' : Nat) (him : i + m ≤ n) : SlP w S size m (fun k j => g (i + k) j) (.slice (some ⟨b, off + i * size, none⟩) m c') := by
  obtain ⟨A, c0, hv, hm, h1⟩ := h
  cases hv
  refine ⟨_, _, rfl, by omega, fun k hk => ?_⟩
  obtain ⟨b', off', ha, hb, hl, h3⟩ := h1 (i + k) (by omega)
  cases ha
  exact ⟨b, _, rfl, hb, hl, fun j hj => by rw [← h3 j hj]; congr 2; rw [Nat.add_mul]; omega⟩
section
variable {t e : TypeId} {i : TypeInfo} {z : Value} {size bytes : Nat}
theorem run_app_p (E : Elem t e i z size bytes) (ty : TypeId) {w : World} {S : Nat → Prop} {n m cap : Nat} {A : Option Addr} {g h : Nat → Nat → Value} {x : Value} (hv : SlP w S size n g (.slice A n cap)) (hvf : SlF (.slice A n cap)) (hx : Sl w w.heap.size size m h x) (hxf : SlF x)
    (h1 : ∀ k j, k < m → j < size → (h k j).oneCell' = true) (hcap : cap < n + m ∨ m = 0) (h63 : n + m ≤ maxLen) (hbytes : (n + m) * bytes ≤ 140737488355328) :
    ∃ v' w', (Builtin.append_ #[t, t] ty #[.slice A n cap, x]).run Try.prog w = .ok v' w' ∧ SlP w' (Grow S w) size (n + m) (cat n g h) v' ∧ SlF v' ∧ Below w.heap.size w w' := by
  rcases hcap with hcap | rfl
  · rcases Nat.eq_zero_or_pos m with rfl | hm0
    · have : n ≤ cap := by
        rcases hvf with h0 | ⟨a, n', c', h0, hnc, _⟩
        · injection h0 with _ h1 h2; omega
        · injection h0 with _ h1 h2; omega
      omega
    · rcases hvf with h0 | ⟨a, n', c', h0, hnc, hcm⟩
      · obtain ⟨rfl, rfl, rfl⟩ : A = none ∧ n = 0 ∧ cap = 0 := by simpa using h0
        have hown : w.ownsRow w.heap.size e size (.slice none 0 0) 0 (flat 0 size g) := ⟨by simp [flat], .inl ⟨rfl, rfl⟩⟩
        obtain ⟨v', w', hr, ho, hg⟩ := run_app_own E ty hown hx hxf h1 h63 hbytes (Nat.le_refl _)
        obtain ⟨s1, s2⟩ := own_slp ho h63
        exact ⟨v', w', hr, s1.weak (fun b hb _ => .inr hb), s2, (Below.refl _ _).grown hg (Nat.le_refl _) (fun k hk => by cases hk)⟩
      · obtain ⟨rfl, rfl, rfl⟩ : A = some a ∧ n = n' ∧ cap = c' := by simpa using h0
        obtain ⟨_, hnm, hold⟩ := hv.sl.src E.hsz
        rcases hxf with rfl | ⟨ax, k, c, rfl, _, _⟩
        · obtain ⟨_, rfl⟩ := hx.none_zero
          omega
        · obtain ⟨rfl, hm, hsrc⟩ := hx.src E.hsz
          have hone : ∀ u ∈ flat k size h, u.oneCell' = true := fun u hu => by obtain ⟨p, q, hp, hq, rfl⟩ := flat_mem E.hsz hu; exact h1 p q hp hq
          obtain ⟨v', w', hr, ho, hg⟩ := run_append_arg_grows (P := Try.prog) w (ty := ty) t e i z size bytes E.ht E.hi E.hz E.hsize E.hby E.hzs E.hsz a n cap (flat n size g) (flat_length _ _ _) hold ax k c (flat k size h) (flat_length _ _ _) hsrc hcap h63 hbytes
          rw [← flat_cat n k size E.hsz] at ho
          obtain ⟨s1, s2⟩ := own_slp ho h63
          exact ⟨v', w', hr, s1.weak (fun b hb _ => .inr hb), s2, (Below.refl _ _).grown hg (Nat.le_refl _) (fun k hk => by cases hk)⟩
  · have key : SlP w (Grow S w) size (n + 0) (cat n g h) (.slice A n cap) := by
      refine ((hv.weak (fun b hb _ => .inl hb)) : SlP w (Grow S w) size n g _).congr fun i j hi _ => ?_
      rw [cat, if_pos hi]
    refine ⟨_, w, ?_, key, hvf, Below.refl _ _⟩
    rcases hvf with h0 | ⟨a, n', c', h0, hnc, hcm⟩
    · obtain ⟨rfl, rfl, rfl⟩ : A = none ∧ n = 0 ∧ cap = 0 := by simpa using h0
      rcases hxf with rfl | ⟨ax, k, c, rfl, _, _⟩
      · simp [Builtin.append_, run_underlying E.ht, sizeOf, typeInfo, E.hi, Builtin.lenOf, Builtin.firstCells]
      · obtain ⟨rfl, hm, hsrc⟩ := hx.src E.hsz
        have hl : (loadCells ax 0).run Try.prog w = .ok #[] w := by simpa using run_loadCells_list (P := Try.prog) w ax [] (fun j v hj => by simp at hj)
        simp [Builtin.append_, run_underlying E.ht, sizeOf, typeInfo, E.hi, Builtin.lenOf, Builtin.firstCells, hl]
    · obtain ⟨rfl, rfl, rfl⟩ : A = some a ∧ n = n' ∧ cap = c' := by simpa using h0
      rcases hxf with rfl | ⟨ax, k, c, rfl, _, _⟩
      · simp [Builtin.append_, run_underlying E.ht, sizeOf, typeInfo, E.hi, Builtin.lenOf, hnc, Builtin.firstCells, storeCells]
      · obtain ⟨rfl, hm, hsrc⟩ := hx.src E.hsz
        have hl : (loadCells ax 0).run Try.prog w = .ok #[] w := by simpa using run_loadCells_list (P := Try.prog) w ax [] (fun j v hj => by simp at hj)
        simp [Builtin.append_, run_underlying E.ht, sizeOf, typeInfo, E.hi, Builtin.lenOf, hnc, Builtin.firstCells, storeCells, hl]
end
theorem flat_congr' {n size : Nat} {g h : Nat → Nat → Value} (hs : 0 < size) (he : ∀ i j, i < n → j < size → g i j = h i j) : flat n size g = flat n size h := by
  apply List.map_congr_left
  intro j hj
  have hj := List.mem_range.1 hj
  exact he _ _ ((Nat.div_lt_iff_lt_mul hs).2 hj) (Nat.mod_lt _ hs)
theorem flat_one (n : Nat) (V : Nat → Value) : flat n 1 (fun i _ => V i) = (List.range n).map V := by simp [flat]
def Old (S : Nat → Prop) (w : World) : Nat → Prop := fun b => S b ∧ b < w.heap.size
theorem own_set {w : World} {base e g i n c : Nat} {xs : List Value} (h : w.ownsRow base e 1 (.slice (some ⟨g, 0, none⟩) n c) n xs) (u : Value) :
    (w.setCell ⟨g, i, none⟩ u).ownsRow base e 1 (.slice (some ⟨g, 0, none⟩) n c) n (xs.set i u) := by
  obtain ⟨hl, h⟩ := h
  rcases h with ⟨h1, _⟩ | ⟨g', cap, cur, hv, hb, hg, hc, hcm, hs, hx⟩
  · cases h1
  · cases hv
    refine ⟨by simpa using hl, .inr ⟨g, c, cur.setIfInBounds i u, rfl, hb, ?_, hc, hcm, by simpa using hs, ?_⟩⟩
    · show (w.heap.modify g _)[g]? = _
      rw [Array.getElem?_modify, if_pos rfl, hg]
      simp
    · rw [← hx, Array.toList_setIfInBounds, Nat.mul_one, List.take_set]
theorem own_cell {w : World} {base e g n c : Nat} {xs : List Value} (h : w.ownsRow base e 1 (.slice (some ⟨g, 0, none⟩) n c) n xs) :
    base ≤ g ∧ g < w.heap.size ∧ (∀ i, i < n → w.cell? ⟨g, i, none⟩ = xs[i]?) ∧ ∀ i, w.frozen? ⟨g, i, none⟩ = false := by
  obtain ⟨hl, h⟩ := h
  rcases h with ⟨h1, _⟩ | ⟨g', cap, cur, hv, hb, hg, hc, hcm, hs, hx⟩
  · cases h1
  · cases hv
    refine ⟨hb, (Array.getElem?_eq_some_iff.1 hg).1, fun i hi => ?_, fun i => by simp [World.frozen?, hg]⟩
    rw [← hx, List.getElem?_take, if_pos (by omega)]
    simp [World.cell?, hg]
noncomputable def copF (ats : Array TypeId) (ty : TypeId) (args : Array Value) : Sem Value := Builtin.copy_ ats ty args
theorem cop_named {ats : Array TypeId} {ty : TypeId} {cs : Array Bool} {args : Array Value} : builtin .copy ats ty cs args = (do pure (.value (← copF ats ty args))) := rfl
theorem own_copy {t e : TypeId} {i : TypeInfo} {z : Value} {bytes : Nat} (E : Elem t e i z 1 bytes) (ty : TypeId) {w : World} {base ee g n c d dc m mc : Nat} {A : Option Addr} {xs : List Value} {h : Nat → Nat → Value} (ho : w.ownsRow base ee 1 (.slice (some ⟨g, 0, none⟩) n c) n xs) (hd : d ≤ n)
    (hx : Sl w w.heap.size 1 m h (.slice A m mc)) (h1 : ∀ k, k < m → (h k 0).oneCell' = true) :
    ∃ w', (copF #[t, t] ty #[.slice (some ⟨g, 0, none⟩) d dc, .slice A m mc]).run Try.prog w = .ok (goInt (Nat.min m d)) w' ∧ w'.ownsRow base ee 1 (.slice (some ⟨g, 0, none⟩) n c) n ((List.range (Nat.min m d)).map (fun k => h k 0) ++ xs.drop (Nat.min m d)) ∧ w.grownBy w' (some g) := by
  have hu := E.ht
  have hs : (Try.prog.info? e).map (·.size) = some 1 := by rw [E.hi]; simp [E.hsize]
  obtain ⟨hl, ho'⟩ := ho
  rcases ho' with ⟨h0, _⟩ | ⟨g', cap, cur, hv, hb, hg, hc, hcm, hsz, hxs⟩
  · cases h0
  · cases hv
    obtain ⟨k, hk⟩ : ∃ k, Nat.min m d = k := ⟨_, rfl⟩
    have hkm : k ≤ m := by rw [← hk]; exact Nat.min_le_left _ _
    have hkd : k ≤ d := by rw [← hk]; exact Nat.min_le_right _ _
    rw [hk]
    rcases Nat.eq_zero_or_pos k with rfl | hk0
    · refine ⟨w, ?_, ?_, ⟨rfl, rfl, rfl, Nat.le_refl _, fun _ _ _ => rfl⟩⟩
      · exact run_copy_none (P := Try.prog) w t t ty e _ _ d dc m mc hu hs hk
      · simpa using ⟨hl, .inr ⟨g, c, cur, rfl, hb, hg, hc, hcm, hsz, hxs⟩⟩
    · obtain ⟨a, rfl⟩ : ∃ a, A = some a := by
        rcases A with _ | a
        · have := hx.none_zero; omega
        · exact ⟨a, rfl⟩
      obtain ⟨_, _, hsrc⟩ := hx.src (by decide)
      have hlen : ((List.range k).map (fun k => h k 0)).length = k := by simp
      have hcs : ∀ j v, ((List.range k).map (fun k => h k 0))[j]? = some v → w.cell? (a.add j) = some v := by
        intro j v hj
        have hjk : j < k := by rw [← hlen]; exact (List.getElem?_eq_some_iff.1 hj).1
        rw [List.getElem?_map, List.getElem?_range hjk] at hj
        cases hj
        refine hsrc j _ ?_
        have := flat_at (n := m) (size := 1) h (i := j) (j := 0) (by omega) (by decide)
        simpa using this
      have hrun := run_copy_row (P := Try.prog) w t t ty e g 0 d dc a m mc cur ee ((List.range k).map (fun k => h k 0)) hu hs hg (by rw [hlen, hk]) hcs (by rw [hlen, hsz]; omega) (fun v hv => by
        obtain ⟨j, hj, rfl⟩ := List.mem_map.1 hv
        exact h1 j (by have := List.mem_range.1 hj; omega))
      rw [hlen] at hrun
      refine ⟨_, hrun, ⟨?_, .inr ⟨g, c, _, rfl, hb, setRow_heap w g _ _ _ _ hg, hc, hcm, ?_, ?_⟩⟩, ⟨rfl, rfl, rfl, by simp [World.setRow], fun b _ hne => setRow_other w g b _ (fun e => hne (by rw [e]))⟩⟩
      · simp [hl]; omega
      · simp [hsz]; omega
      · simp only [List.take_zero, List.nil_append, Nat.zero_add, Nat.mul_one]
        rw [← hxs, Nat.mul_one, List.take_append, hlen, List.take_of_length_le (by rw [hlen]; omega), List.drop_take]
end Go.Proofs.Ythlidhfahaalgaa
namespace Go.Proofs.Ythlidhfahaalgaa
open Go.RowKit
abbrev Bs := List UInt8
structure Wr where
  at' : Int
  data : Bs
structure Dk where
  sectors : List Bs
  pending : List Wr
  left : Int
  stopped : Bool
def BsAt (w : World) (S : Nat → Prop) (v : Value) (l : Bs) : Prop := SlF v ∧ SlP w S 1 l.length (fun i _ => .int .u8 ((l.getD i 0).toNat : Int)) v
theorem BsAt.keep {w w' : World} {S : Nat → Prop} {v : Value} {l : Bs} (h : BsAt w S v l) (hk : Keeps S w w') : BsAt w' S v l := ⟨h.1, h.2.keep hk⟩
theorem BsAt.weak {w : World} {S S' : Nat → Prop} {v : Value} {l : Bs} (h : BsAt w S v l) (hk : ∀ b, S b → b < w.heap.size → S' b) : BsAt w S' v l := ⟨h.1, h.2.weak hk⟩
theorem BsAt.form {w : World} {S : Nat → Prop} {v : Value} {l : Bs} (h : BsAt w S v l) : ∃ A c, v = .slice A l.length c ∧ l.length ≤ maxLen := h.2.form
theorem BsAt.cell {w : World} {S : Nat → Prop} {A : Option Addr} {n c : Nat} {l : Bs} (h : BsAt w S (.slice A n c) l) {k : Nat} (hk : k < l.length) :
    ∃ b off, A = some ⟨b, off, none⟩ ∧ S b ∧ b < w.heap.size ∧ w.cell? ⟨b, off + k, none⟩ = some (.int .u8 ((l.getD k 0).toNat : Int)) := by
  obtain ⟨_, A', c', hv, _, h1⟩ := h
  cases hv
  obtain ⟨b, off, rfl, hS, hb, h3⟩ := h1 k hk
  have := h3 0 (by omega)
  rw [Nat.mul_one, Nat.add_zero] at this
  exact ⟨b, off, rfl, hS, hb, this⟩
def RwAt (w : World) (S : Nat → Prop) (v : Value) (l : List Bs) : Prop :=
  SlF v ∧ ∃ V : Nat → Value, SlP w S 1 l.length (fun i _ => V i) v ∧ ∀ (i : Nat) (x : Bs), l[i]? = some x → BsAt w S (V i) x
theorem RwAt.keep {w w' : World} {S : Nat → Prop} {v : Value} {l : List Bs} (h : RwAt w S v l) (hk : Keeps S w w') : RwAt w' S v l := by
  obtain ⟨h0, V, h1, h2⟩ := h
  exact ⟨h0, V, h1.keep hk, fun i x hx => (h2 i x hx).keep hk⟩
theorem RwAt.weak {w : World} {S S' : Nat → Prop} {v : Value} {l : List Bs} (h : RwAt w S v l) (hk : ∀ b, S b → b < w.heap.size → S' b) : RwAt w S' v l := by
  obtain ⟨h0, V, h1, h2⟩ := h
  exact ⟨h0, V, h1.weak hk, fun i x hx => (h2 i x hx).weak hk⟩
theorem RwAt.form {w : World} {S : Nat → Prop} {v : Value} {l : List Bs} (h : RwAt w S v l) : ∃ A c, v = .slice A l.length c ∧ l.length ≤ maxLen := by
  obtain ⟨_, V, h1, _⟩ := h
  exact h1.form
theorem rwAt_nil (w : World) (S : Nat → Prop) : RwAt w S (.slice none 0 0) [] := ⟨.inl rfl, fun _ => undef, slP_nil w S 1 _, fun i x hx => by simp at hx⟩
theorem RwAt.row {w : World} {S : Nat → Prop} {A : Option Addr} {n c : Nat} {l : List Bs} (h : RwAt w S (.slice A n c) l) {k : Nat} (hk : k < l.length) :
    ∃ b off V, A = some ⟨b, off, none⟩ ∧ S b ∧ b < w.heap.size ∧ w.cell? ⟨b, off + k, none⟩ = some V ∧ BsAt w S V l[k] := by
  obtain ⟨_, V, ⟨A', c', hv, _, h1⟩, h2⟩ := h
  cases hv
  obtain ⟨b, off, rfl, hS, hb, h3⟩ := h1 k hk
  have := h3 0 (by omega)
  rw [Nat.mul_one, Nat.add_zero] at this
  exact ⟨b, off, V k, rfl, hS, hb, this, h2 k _ (List.getElem?_eq_getElem hk)⟩
def Wr.zero : Wr := ⟨0, []⟩
def wrCells (l : List Wr) (V : Nat → Value) (i j : Nat) : Value := if j = 0 then .int .i64 (l.getD i Wr.zero).at' else V i
def WsAt (w : World) (S : Nat → Prop) (v : Value) (l : List Wr) : Prop :=
  SlF v ∧ ∃ V : Nat → Value, SlP w S 2 l.length (wrCells l V) v ∧ ∀ (i : Nat) (x : Wr), l[i]? = some x → BsAt w S (V i) x.data
theorem WsAt.keep {w w' : World} {S : Nat → Prop} {v : Value} {l : List Wr} (h : WsAt w S v l) (hk : Keeps S w w') : WsAt w' S v l := by
  obtain ⟨h0, V, h1, h2⟩ := h
  exact ⟨h0, V, h1.keep hk, fun i x hx => (h2 i x hx).keep hk⟩
theorem WsAt.weak {w : World} {S S' : Nat → Prop} {v : Value} {l : List Wr} (h : WsAt w S v l) (hk : ∀ b, S b → b < w.heap.size → S' b) : WsAt w S' v l := by
  obtain ⟨h0, V, h1, h2⟩ := h
  exact ⟨h0, V, h1.weak hk, fun i x hx => (h2 i x hx).weak hk⟩
theorem WsAt.form {w : World} {S : Nat → Prop} {v : Value} {l : List Wr} (h : WsAt w S v l) : ∃ A c, v = .slice A l.length c ∧ l.length ≤ maxLen := by
  obtain ⟨_, V, h1, _⟩ := h
  exact h1.form
theorem wsAt_nil (w : World) (S : Nat → Prop) : WsAt w S (.slice none 0 0) [] := ⟨.inl rfl, fun _ => undef, slP_nil w S 2 _, fun i x hx => by simp at hx⟩
theorem WsAt.wr {w : World} {S : Nat → Prop} {A : Option Addr} {n c : Nat} {l : List Wr} (h : WsAt w S (.slice A n c) l) {k : Nat} (hk : k < l.length) :
    ∃ b off V, A = some ⟨b, off, none⟩ ∧ S b ∧ b < w.heap.size ∧ w.cell? ⟨b, off + k * 2, none⟩ = some (.int .i64 (l[k]).at') ∧ w.cell? ⟨b, off + k * 2 + 1, none⟩ = some V ∧ BsAt w S V (l[k]).data := by
  obtain ⟨_, V, ⟨A', c', hv, _, h1⟩, h2⟩ := h
  cases hv
  obtain ⟨b, off, rfl, hS, hb, h3⟩ := h1 k hk
  have e : l[k]? = some l[k] := List.getElem?_eq_getElem hk
  have eg : l.getD k Wr.zero = l[k] := by rw [List.getD_eq_getElem?_getD, e]; rfl
  have c0 := h3 0 (by omega)
  have c1 := h3 1 (by omega)
  simp only [wrCells, eg] at c0 c1
  exact ⟨b, off, V k, rfl, hS, hb, c0, by rw [Nat.add_assoc]; exact c1, h2 k _ e⟩
structure DkAt (w : World) (S : Nat → Prop) (Vs Vp : Value) (d : Dk) : Prop where
  sectors : RwAt w S Vs d.sectors
  pending : WsAt w S Vp d.pending
theorem DkAt.keep {w w' : World} {S : Nat → Prop} {Vs Vp : Value} {d : Dk} (h : DkAt w S Vs Vp d) (hk : Keeps S w w') : DkAt w' S Vs Vp d := ⟨h.sectors.keep hk, h.pending.keep hk⟩
theorem DkAt.weak {w : World} {S S' : Nat → Prop} {Vs Vp : Value} {d : Dk} (h : DkAt w S Vs Vp d) (hk : ∀ b, S b → b < w.heap.size → S' b) : DkAt w S' Vs Vp d := ⟨h.sectors.weak hk, h.pending.weak hk⟩
def Dk.zero : Dk := ⟨[], [], 0, false⟩
theorem dkAt_zero (w : World) (S : Nat → Prop) : DkAt w S (.slice none 0 0) (.slice none 0 0) Dk.zero := ⟨rwAt_nil w S, wsAt_nil w S⟩
def secB (b : Bs) : Bool := decide (b.length = 128)
def wrB (n : Nat) (x : Wr) : Bool := decide (0 ≤ x.at' ∧ x.at' < (n : Int)) && secB x.data
def boundsB (d : Dk) : Bool := decide (1 ≤ d.sectors.length) && (decide (d.sectors.length ≤ 4096) && (decide (d.pending.length ≤ 4096) && (decide (-1 ≤ d.left) && decide (d.left ≤ 65536))))
def Dk.okB (d : Dk) : Bool := boundsB d && (d.pending.all (wrB d.sectors.length) && d.sectors.all secB)
def Dk.checkT (d : Dk) : Int := if d.okB = true then 0 else 40
def Dk.runs (d : Dk) : Bool := d.okB && !d.stopped
def Dk.hasB (d : Dk) (i : Int) : Bool := decide (0 ≤ i) && decide (i < (d.sectors.length : Int))
def zeros : Bs := List.replicate 128 0
def newT (k : Int) : Dk × Int := if 1 ≤ k ∧ k ≤ 4096 then (⟨List.replicate k.toNat zeros, [], -1, false⟩, 0) else (Dk.zero, 1)
def padTo (b : Bs) : Bs := b ++ List.replicate (128 - b.length) 0
def writeT (d : Dk) (i : Int) (b : Bs) : Dk × Int :=
  if d.runs = true ∧ d.hasB i = true then (if b.length ≤ 128 then (if d.pending.length = 4096 then (Dk.zero, 2) else (⟨d.sectors, d.pending ++ [⟨i, padTo b⟩], d.left, d.stopped⟩, 0)) else (Dk.zero, 1)) else (Dk.zero, 40)
def perf (s : List Bs) (l : List Wr) : List Bs := l.foldl (fun s x => s.set x.at'.toNat x.data) s
def tearB (d : Dk) : Bool := decide (0 ≤ d.left) && decide (d.left < (d.pending.length : Int))
def tornS (d : Dk) : List Bs :=
  let x := d.pending.getD d.left.toNat Wr.zero
  let s := perf d.sectors (d.pending.take d.left.toNat)
  s.set x.at'.toNat (x.data.take 64 ++ (s.getD x.at'.toNat []).drop 64)
def syncT (d : Dk) : Dk × Int :=
  if d.runs = true then (if tearB d = true then (⟨tornS d, [], 0, true⟩, 40) else (⟨perf d.sectors d.pending, [], if 0 ≤ d.left then d.left - (d.pending.length : Int) else d.left, false⟩, 0)) else (Dk.zero, 40)
def sameD (a b : Dk) : Bool := decide (a.sectors = b.sectors) && (decide (a.pending.map (fun x => (x.at', x.data)) = b.pending.map (fun x => (x.at', x.data))) && (decide (a.left = b.left) && decide (a.stopped = b.stopped)))
def sumB (l : List Bs) : Nat := l.foldr (fun x n => x.length + 1 + n) 0
theorem okB_parts {d : Dk} (h : d.okB = true) : 1 ≤ d.sectors.length ∧ d.sectors.length ≤ 4096 ∧ d.pending.length ≤ 4096 ∧ -1 ≤ d.left ∧ d.left ≤ 65536 ∧ (∀ x ∈ d.pending, 0 ≤ x.at' ∧ x.at' < (d.sectors.length : Int) ∧ x.data.length = 128) ∧ ∀ x ∈ d.sectors, x.length = 128 := by
  simp only [Dk.okB, boundsB, wrB, secB, Bool.and_eq_true, decide_eq_true_eq, List.all_eq_true] at h
  obtain ⟨⟨h1, h2, h3, h4, h5⟩, h6, h7⟩ := h
  exact ⟨h1, h2, h3, h4, h5, fun x hx => ⟨(h6 x hx).1.1, (h6 x hx).1.2, (h6 x hx).2⟩, h7⟩
theorem runs_ok {d : Dk} (h : d.runs = true) : d.okB = true ∧ d.stopped = false := by
  simpa [Dk.runs] using h
theorem perf_length (s : List Bs) (l : List Wr) : (perf s l).length = s.length := by
  induction l generalizing s with
  | nil => rfl
  | cons x l ih => rw [perf, List.foldl_cons]; exact (ih _).trans (List.length_set)
theorem perf_snoc (s : List Bs) (l : List Wr) (x : Wr) : perf s (l ++ [x]) = (perf s l).set x.at'.toNat x.data := by
  rw [perf, List.foldl_append]; rfl
theorem perf_cons (s : List Bs) (l : List Wr) (x : Wr) : perf s (x :: l) = perf (s.set x.at'.toNat x.data) l := rfl
theorem wr_eq {a b : Wr} : a = b ↔ (a.at', a.data) = (b.at', b.data) := by
  cases a; cases b; simp
theorem sameD_eq {a b : Dk} : sameD a b = true ↔ a = b := by
  have hm : ∀ l m : List Wr, l.map (fun x => (x.at', x.data)) = m.map (fun x => (x.at', x.data)) ↔ l = m := by
    intro l m
    constructor
    · intro h
      exact List.map_inj_right (fun x y hxy => wr_eq.2 hxy) |>.1 h
    · rintro rfl; rfl
  obtain ⟨a1, a2, a3, a4⟩ := a
  obtain ⟨b1, b2, b3, b4⟩ := b
  simp only [sameD, Bool.and_eq_true, decide_eq_true_eq, hm, Dk.mk.injEq]
theorem sameD_refl (a : Dk) : sameD a a = true := sameD_eq.2 rfl
end Go.Proofs.Ythlidhfahaalgaa
