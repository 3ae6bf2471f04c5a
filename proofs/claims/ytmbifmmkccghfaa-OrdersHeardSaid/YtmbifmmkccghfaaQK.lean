/- Small lemmas on worlds and slices. No condition. -/
import Derived.Test.YtmbifmmkccghfaaProg
import Derived.WalkKit
import Derived.WalkSpells
import Derived.WalkLawsBesides
import Derived.Lib.Hide
import Derived.BigQuiet
import Derived.Deep.AppendLies
import Derived.Laws.AppendOwnNone
import Derived.ArgAppend
import Derived.OwnWalk
import Derived.Lib.MinMax
import Derived.RegionTactic
import Derived.BigRegion
import Derived.Laws.EntriesVeiled
set_option linter.unusedVariables false
set_option linter.unusedSimpArgs false
namespace Go.Proofs.Ytmbifmmkccghfaa
open Go.RowKit

def Box (w : World) (b : Nat) (xs : List Value) : Prop := ∃ t, w.heap[b]? = some (.cells xs.toArray t (0, 0))
theorem Box.new (w : World) (xs : List Value) (t : TypeId) : Box (w.alloc (.cells xs.toArray t)) w.heap.size xs := ⟨t, by show (w.heap.push _)[w.heap.size]? = _; simp⟩
theorem Box.newAt {w : World} {n : Nat} (xs : List Value) (t : TypeId) (h : n = w.heap.size) : Box (w.alloc (.cells xs.toArray t)) n xs := h ▸ Box.new w xs t
theorem Box.lt {w : World} {b : Nat} {xs : List Value} (h : Box w b xs) : b < w.heap.size := (Array.getElem?_eq_some_iff.1 h.choose_spec).1
theorem Box.alloc {w : World} {b : Nat} {xs : List Value} (h : Box w b xs) (o : Obj) : Box (w.alloc o) b xs := by
  obtain ⟨t, ht⟩ := h
  exact ⟨t, (Below.heap_alloc w o b (Array.getElem?_eq_some_iff.1 ht).1).trans ht⟩
theorem Box.drew {w : World} {b : Nat} {xs : List Value} (h : Box w b xs) : Box w.drew b xs := h
theorem Box.drewN {w : World} {b : Nat} {xs : List Value} (h : Box w b xs) (n : Nat) : Box (w.drewN n) b xs := h
theorem Box.later {w w' : World} {b : Nat} {xs : List Value} (h : Box w b xs) (hB : Below w.heap.size w w') : Box w' b xs := by
  obtain ⟨t, ht⟩ := h
  exact ⟨t, (hB.block b (Array.getElem?_eq_some_iff.1 ht).1).trans ht⟩
theorem Box.other {w : World} {b : Nat} {xs : List Value} (h : Box w b xs) {a : Addr} (ha : b ≠ a.block) (v : Value) : Box (w.setCell a v) b xs := by
  obtain ⟨t, ht⟩ := h
  exact ⟨t, (Below.heap_setCell w a v b ha).trans ht⟩
theorem Box.set {w : World} {b : Nat} {xs : List Value} (h : Box w b xs) (i : Nat) (v : Value) : Box (w.setCell ⟨b, i, none⟩ v) b (xs.set i v) := by
  obtain ⟨t, ht⟩ := h
  refine ⟨t, ?_⟩
  show (w.heap.modify b _)[b]? = _
  rw [Array.getElem?_modify, if_pos rfl, ht]
  simp
theorem Box.cell {w : World} {b : Nat} {xs : List Value} (h : Box w b xs) (i : Nat) : w.cell? ⟨b, i, none⟩ = xs[i]? := by
  obtain ⟨t, ht⟩ := h
  simp [World.cell?, ht]
theorem Box.free {w : World} {b : Nat} {xs : List Value} (h : Box w b xs) (i : Nat) : w.frozen? ⟨b, i, none⟩ = false := by
  obtain ⟨t, ht⟩ := h
  simp [World.frozen?, ht]
theorem Box.same {w w' : World} {b : Nat} {xs : List Value} (h : Box w b xs) (hB : w'.heap[b]? = w.heap[b]?) : Box w' b xs := by
  obtain ⟨t, ht⟩ := h
  exact ⟨t, hB.trans ht⟩
def Later (W : World) : Type := { w : World // Below W.heap.size W w }
instance (W : World) : Nonempty (Later W) := ⟨⟨W, Below.refl _ _⟩⟩
def Later.w {W : World} (x : Later W) : World := x.val
theorem Later.below {W : World} (x : Later W) : Below W.heap.size W x.w := x.property
theorem Later.mk' {W w : World} (h : Below W.heap.size W w) : ∃ x : Later W, w = x.w := ⟨⟨w, h⟩, rfl⟩
theorem Later.cell {W : World} {a : Addr} {v : Value} (h : W.cell? a = some v) (hb : a.block < W.heap.size) (x : Later W) : x.w.cell? a = some v := (x.below.cell hb).trans h
theorem Later.box {W : World} {b : Nat} {xs : List Value} (h : Box W b xs) (x : Later W) : Box x.w b xs := h.later x.below

theorem Later.call {P : Program} {f : FuncId} {args : Array Value} {W : World} {v : Value} (x : Later W)
    (h : Calls P f args x.w fun e w' => e = .returned v ∧ Below x.w.heap.size x.w w') : Calls P f args x.w fun e w'' => e = .returned v ∧ ∃ y : Later W, w'' = y.w :=
  h.mono fun _ _ ⟨he, hB⟩ => ⟨he, Later.mk' (x.below.trans (hB.mono x.below.size))⟩
theorem Later.same {P : Program} {f : FuncId} {args : Array Value} {W : World} {v : Value} (x : Later W)
    (h : Calls P f args x.w fun e w' => e = .returned v ∧ x.w = w') : Calls P f args x.w fun e w'' => e = .returned v ∧ ∃ y : Later W, w'' = y.w :=
  h.mono fun _ _ ⟨he, hB⟩ => ⟨he, x, hB.symm⟩

theorem wp_region_later {P : Program} {id : Nat} {Q : Exit → Act → World → Prop} {a : Act} {W : World} {l : List Oper} (hm : P.follows .mixedOrders = true) (hB : Region.lexB .any l.toArray = true)
    (h : wpQuiet P l.toArray (fun w' => ∃ x : Later W, w' = x.w) (fun a' => ∀ w', (∃ x : Later W, w' = x.w) → Q .normal a' w') l a) : (Code.region id l.toArray true).wp P Q a W :=
  wp_region_quiet (C := fun w' => ∃ x : Later W, w' = x.w) hm hB (Later.mk' ((Below.refl _ _).drew)) (by simpa using h)

def Sl (w : World) (B size n : Nat) (g : Nat → Nat → Value) (v : Value) : Prop :=
  ∃ A c, v = .slice A n c ∧ n ≤ maxLen ∧ ∀ i, i < n → ∃ b off, A = some ⟨b, off, none⟩ ∧ b < B ∧ ∀ j, j < size → w.cell? ⟨b, off + (i * size + j), none⟩ = some (g i j)
theorem Sl.below {w w' : World} {B size n : Nat} {g : Nat → Nat → Value} {v : Value} (h : Sl w B size n g v) (hb : Below B w w') : Sl w' B size n g v := by
  obtain ⟨A, c, rfl, hn, h⟩ := h
  refine ⟨A, c, rfl, hn, fun i hi => ?_⟩
  obtain ⟨b, off, h1, h2, h3⟩ := h i hi
  exact ⟨b, off, h1, h2, fun j hj => (hb.cell h2).trans (h3 j hj)⟩
theorem Sl.more {w : World} {B B' size n : Nat} {g : Nat → Nat → Value} {v : Value} (h : Sl w B size n g v) (hb : B ≤ B') : Sl w B' size n g v := by
  obtain ⟨A, c, rfl, hn, h⟩ := h
  refine ⟨A, c, rfl, hn, fun i hi => ?_⟩
  obtain ⟨b, off, h1, h2, h3⟩ := h i hi
  exact ⟨b, off, h1, by omega, h3⟩
theorem Sl.later {w w' : World} {size n : Nat} {g : Nat → Nat → Value} {v : Value} (h : Sl w w.heap.size size n g v) (hb : Below w.heap.size w w') : Sl w' w'.heap.size size n g v :=
  (h.below hb).more hb.size

end Go.Proofs.Ytmbifmmkccghfaa

/-
  append on slices that are read as lists of elements. No condition.
-/
namespace Go.Proofs.Ytmbifmmkccghfaa
open Go.RowKit

theorem add_at (b off n : Nat) : (⟨b, off, none⟩ : Addr).add n = ⟨b, off + n, none⟩ := by
  unfold Addr.add
  split
  · rename_i h; rw [h]; rfl
  · rfl
def SlF (v : Value) : Prop := v = .slice none 0 0 ∨ ∃ a n c, v = .slice (some a) n c ∧ n ≤ c ∧ c ≤ maxLen
def flat (n size : Nat) (g : Nat → Nat → Value) : List Value := (List.range (n * size)).map fun j => g (j / size) (j % size)
theorem flat_length (n size : Nat) (g : Nat → Nat → Value) : (flat n size g).length = n * size := by simp [flat]
theorem flat_at {n size : Nat} (g : Nat → Nat → Value) {i j : Nat} (hi : i < n) (hj : j < size) : (flat n size g)[i * size + j]? = some (g i j) := by
  have hlt : i * size + j < n * size := Nat.lt_of_lt_of_le (by rw [Nat.add_mul]; omega : i * size + j < (i + 1) * size) (Nat.mul_le_mul_right size hi)
  have e1 : (i * size + j) / size = i := by
    rw [Nat.mul_comm, Nat.mul_add_div (by omega), Nat.div_eq_of_lt hj, Nat.add_zero]
  have e2 : (i * size + j) % size = j := by
    rw [Nat.mul_comm, Nat.mul_add_mod, Nat.mod_eq_of_lt hj]
  rw [List.getElem?_eq_getElem (by rw [flat_length]; exact hlt)]
  simp [flat, e1, e2]
theorem flat_mem {n size : Nat} {g : Nat → Nat → Value} (hs : 0 < size) {u : Value} (h : u ∈ flat n size g) : ∃ i j, i < n ∧ j < size ∧ u = g i j := by
  obtain ⟨j, hj, rfl⟩ := List.mem_map.1 h
  have hj := List.mem_range.1 hj
  exact ⟨j / size, j % size, (Nat.div_lt_iff_lt_mul hs).2 hj, Nat.mod_lt _ hs, rfl⟩
def cat (n : Nat) (g h : Nat → Nat → Value) : Nat → Nat → Value := fun i j => if i < n then g i j else h (i - n) j
theorem flat_cat (n m size : Nat) (hs : 0 < size) (g h : Nat → Nat → Value) : flat (n + m) size (cat n g h) = flat n size g ++ flat m size h := by
  apply List.ext_getElem?
  intro k
  rcases Nat.lt_or_ge k (n * size) with hk | hk
  · have hi : k / size < n := (Nat.div_lt_iff_lt_mul hs).2 hk
    have hj := Nat.mod_lt k hs
    have e : k / size * size + k % size = k := by rw [Nat.mul_comm]; exact Nat.div_add_mod k size
    have a1 := flat_at (n := n + m) (cat n g h) (i := k / size) (by omega) hj
    have a2 := flat_at (n := n) g hi hj
    rw [e] at a1 a2
    rw [a1, List.getElem?_append_left (by rw [flat_length]; exact hk), a2, cat, if_pos hi]
  · rw [List.getElem?_append_right (by rw [flat_length]; exact hk), flat_length]
    rcases Nat.lt_or_ge k ((n + m) * size) with hk2 | hk2
    · obtain ⟨r, rfl⟩ : ∃ r, k = n * size + r := ⟨k - n * size, by omega⟩
      rw [Nat.add_mul] at hk2
      have hr : r < m * size := by omega
      have hi : r / size < m := (Nat.div_lt_iff_lt_mul hs).2 hr
      have hj := Nat.mod_lt r hs
      have e : r / size * size + r % size = r := by rw [Nat.mul_comm]; exact Nat.div_add_mod r size
      have e2 : n * size + r - n * size = r := by omega
      generalize r / size = q at hi e
      generalize r % size = s at hj e
      have a1 := flat_at (n := n + m) (cat n g h) (i := n + q) (by omega) hj
      have a2 := flat_at (n := m) h hi hj
      rw [Nat.add_mul, Nat.add_assoc, e] at a1
      rw [e] at a2
      rw [a1, e2, a2, cat, if_neg (by omega), show n + q - n = q by omega]
    · rw [List.getElem?_eq_none (by rw [flat_length]; exact hk2), List.getElem?_eq_none (by rw [flat_length]; rw [Nat.add_mul] at hk2; omega)]

theorem Sl.src {w : World} {B size n n' c : Nat} {g : Nat → Nat → Value} {a : Addr} (hs : 0 < size) (h : Sl w B size n g (.slice (some a) n' c)) : n' = n ∧ n ≤ maxLen ∧ ∀ j u, (flat n size g)[j]? = some u → w.cell? (a.add j) = some u := by
  obtain ⟨A', c', hv, hm, h1⟩ := h
  cases hv
  refine ⟨rfl, hm, fun j u hu => ?_⟩
  have hj : j < n * size := by rw [← flat_length n size g]; exact (List.getElem?_eq_some_iff.1 hu).1
  have hi : j / size < n := (Nat.div_lt_iff_lt_mul hs).2 hj
  have hr := Nat.mod_lt j hs
  have e : j / size * size + j % size = j := by rw [Nat.mul_comm]; exact Nat.div_add_mod j size
  have a2 := flat_at g hi hr
  rw [e, hu] at a2
  cases a2
  obtain ⟨b, off, e1, _, h3⟩ := h1 _ hi
  cases e1
  have := h3 _ hr
  rw [e] at this
  rw [add_at]
  exact this
theorem Sl.none_zero {w : World} {B size n n' c : Nat} {g : Nat → Nat → Value} (h : Sl w B size n g (.slice none n' c)) : n' = n ∧ n = 0 := by
  obtain ⟨A', c', hv, hm, h1⟩ := h
  cases hv
  rcases Nat.eq_zero_or_pos n with h0 | h0
  · exact ⟨rfl, h0⟩
  · obtain ⟨b, off, e1, _⟩ := h1 0 h0
    cases e1
def Sl2 (w : World) (D base size n : Nat) (g : Nat → Nat → Value) (v : Value) : Prop :=
  ∃ A c, v = .slice A n c ∧ n ≤ maxLen ∧ ∀ i, i < n → ∃ b off, A = some ⟨b, off, none⟩ ∧ (b < D ∨ base ≤ b) ∧ b < w.heap.size ∧ ∀ j, j < size → w.cell? ⟨b, off + (i * size + j), none⟩ = some (g i j)
theorem Sl2.sl {w : World} {D base size n : Nat} {g : Nat → Nat → Value} {v : Value} (h : Sl2 w D base size n g v) : Sl w w.heap.size size n g v := by
  obtain ⟨A, c, hv, hm, h1⟩ := h
  refine ⟨A, c, hv, hm, fun i hi => ?_⟩
  obtain ⟨b, off, ha, _, hb, h3⟩ := h1 i hi
  exact ⟨b, off, ha, hb, h3⟩
theorem Sl.sl2 {w : World} {D base size n : Nat} {g : Nat → Nat → Value} {v : Value} (h : Sl w D size n g v) (hD : D ≤ w.heap.size) : Sl2 w D base size n g v := by
  obtain ⟨A, c, hv, hm, h1⟩ := h
  refine ⟨A, c, hv, hm, fun i hi => ?_⟩
  obtain ⟨b, off, ha, hb, h3⟩ := h1 i hi
  exact ⟨b, off, ha, .inl hb, by omega, h3⟩
theorem Sl2.keep {w w' : World} {D base size n : Nat} {g : Nat → Nat → Value} {v : Value} (h : Sl2 w D base size n g v) (hs : w.heap.size ≤ w'.heap.size) (hk : ∀ b, (b < D ∨ base ≤ b) → b < w.heap.size → w'.heap[b]? = w.heap[b]?) : Sl2 w' D base size n g v := by
  obtain ⟨A, c, hv, hm, h1⟩ := h
  refine ⟨A, c, hv, hm, fun i hi => ?_⟩
  obtain ⟨b, off, ha, hb, hl, h3⟩ := h1 i hi
  exact ⟨b, off, ha, hb, by omega, fun j hj => by rw [World.cell?_of_block (w := w) (hk b hb hl)]; exact h3 j hj⟩
theorem Sl2.set {w : World} {D base size n : Nat} {g : Nat → Nat → Value} {v : Value} (h : Sl2 w D base size n g v) {a : Addr} (h1 : D ≤ a.block) (h2 : a.block < base) (u : Value) : Sl2 (w.setCell a u) D base size n g v :=
  h.keep (by simp) fun b hb _ => Below.heap_setCell w a u b (by omega)
theorem Sl2.later {w w' : World} {D base size n : Nat} {g : Nat → Nat → Value} {v : Value} (h : Sl2 w D base size n g v) (hb : Below w.heap.size w w') : Sl2 w' D base size n g v :=
  h.keep hb.size fun b _ hl => hb.block b hl
theorem own_sl2 {w : World} {D base e size n : Nat} {g : Nat → Nat → Value} {v : Value} (h : w.ownsRow base e size v n (flat n size g)) (hn : n ≤ maxLen) : Sl2 w D base size n g v ∧ SlF v := by
  rcases h.2 with ⟨rfl, rfl⟩ | ⟨b, cap, cur, rfl, hb, hg, hc, hcm, _, _⟩
  · exact ⟨⟨none, 0, rfl, hn, fun i hi => by omega⟩, .inl rfl⟩
  · have hlt : b < w.heap.size := (Array.getElem?_eq_some_iff.1 hg).1
    have hcell := h.cells (g := b) rfl
    refine ⟨⟨some ⟨b, 0, none⟩, cap, rfl, hn, fun i hi => ⟨b, 0, rfl, .inr hb, hlt, fun j hj => ?_⟩⟩, .inr ⟨_, _, _, rfl, hc, hcm⟩⟩
    have := hcell _ _ (flat_at g hi hj)
    rw [add_at] at this
    exact this
theorem own_sl {w : World} {base e size n : Nat} {g : Nat → Nat → Value} {v : Value} (h : w.ownsRow base e size v n (flat n size g)) (hn : n ≤ maxLen) : Sl w w.heap.size size n g v ∧ SlF v :=
  ⟨(own_sl2 (D := 0) h hn).1.sl, (own_sl2 (D := 0) h hn).2⟩

section
variable {t e : TypeId} {i : TypeInfo} {z : Value} {size bytes : Nat}
structure Elem (t e : TypeId) (i : TypeInfo) (z : Value) (size bytes : Nat) : Prop where
  ht : Try.prog.underlying t = some (.slice e)
  hi : Try.prog.info? e = some i
  hz : i.zero = some z
  hsize : i.size = size
  hby : i.bytes = bytes
  hzs : z.cells.size = size
  hsz : 0 < size

theorem run_app_own (E : Elem t e i z size bytes) (ty : TypeId) {w : World} {base n m : Nat} {g h : Nat → Nat → Value} {v x : Value} (hown : w.ownsRow base e size v n (flat n size g)) (hx : Sl w w.heap.size size m h x) (hxf : SlF x)
    (h1 : ∀ k j, k < m → j < size → (h k j).oneCell' = true) (h63 : n + m ≤ maxLen) (hbytes : (n + m) * bytes ≤ 140737488355328) (hbase : base ≤ w.heap.size) :
    ∃ v' w', (Builtin.append_ #[t, t] ty #[v, x]).run Try.prog w = .ok v' w' ∧ w'.ownsRow base e size v' (n + m) (flat (n + m) size (cat n g h)) ∧ w.grownBy w' v.ownBlock := by
  rcases hxf with rfl | ⟨a, k, c, rfl, _, _⟩
  · obtain ⟨h0, rfl⟩ := hx.none_zero
    refine ⟨v, w, run_append_owned_none (P := Try.prog) (w := w) base t ty e i size E.ht E.hi v n _ hown, ?_, ⟨rfl, rfl, rfl, Nat.le_refl _, fun _ _ _ => rfl⟩⟩
    rw [flat_cat n 0 size E.hsz, show flat 0 size h = [] by simp [flat], List.append_nil]
    exact hown
  · obtain ⟨rfl, hm, hsrc⟩ := hx.src E.hsz
    obtain ⟨v', w', hr, ho, hg, _, _⟩ := run_append_own_at (P := Try.prog) (w := w) base t ty e i z size bytes E.ht E.hi E.hz E.hsize E.hby E.hzs E.hsz v n _ hown a k c (flat k size h) (flat_length _ _ _) hsrc
      (fun u hu => by obtain ⟨p, q, hp, hq, rfl⟩ := flat_mem E.hsz hu; exact h1 p q hp hq) h63 hbytes hbase
    rw [← flat_cat n k size E.hsz] at ho
    exact ⟨v', w', hr, ho, hg⟩
theorem run_app (E : Elem t e i z size bytes) (ty : TypeId) {w : World} {D n m cap : Nat} {A : Option Addr} {g h : Nat → Nat → Value} {x : Value} (hv : Sl w D size n g (.slice A n cap)) (hD : D ≤ w.heap.size) (hvf : SlF (.slice A n cap)) (hx : Sl w w.heap.size size m h x) (hxf : SlF x)
    (h1 : ∀ k j, k < m → j < size → (h k j).oneCell' = true) (hcap : cap < n + m ∨ m = 0) (h63 : n + m ≤ maxLen) (hbytes : (n + m) * bytes ≤ 140737488355328) :
    ∃ v' w', (Builtin.append_ #[t, t] ty #[.slice A n cap, x]).run Try.prog w = .ok v' w' ∧ Sl2 w' D w.heap.size size (n + m) (cat n g h) v' ∧ SlF v' ∧ Below w.heap.size w w' := by
  have hsame : m = 0 → Sl2 w D w.heap.size size (n + m) (cat n g h) (.slice A n cap) := by
    rintro rfl
    obtain ⟨A', c', e1, hm', h3⟩ := hv
    cases e1
    refine ⟨A, cap, rfl, hm', fun k hk => ?_⟩
    obtain ⟨b, off, rfl, hb, h4⟩ := h3 k hk
    exact ⟨b, off, rfl, .inl hb, by omega, fun j hj => by rw [cat, if_pos (show k < n from hk)]; exact h4 j hj⟩
  rcases hvf with h0 | ⟨a, n', c', h0, hnc, hcm⟩
  · obtain ⟨rfl, rfl, rfl⟩ : A = none ∧ n = 0 ∧ cap = 0 := by simpa using h0
    have hown : w.ownsRow w.heap.size e size (.slice none 0 0) 0 (flat 0 size g) := ⟨by simp [flat], .inl ⟨rfl, rfl⟩⟩
    obtain ⟨v', w', hr, ho, hg⟩ := run_app_own E ty hown hx hxf h1 h63 hbytes (Nat.le_refl _)
    obtain ⟨s1, s2⟩ := own_sl2 (D := D) ho h63
    exact ⟨v', w', hr, s1, s2, (Below.refl _ _).grown hg (Nat.le_refl _) (fun k hk => by cases hk)⟩
  · obtain ⟨rfl, rfl, rfl⟩ : A = some a ∧ n = n' ∧ cap = c' := by simpa using h0
    obtain ⟨_, hnm, hold⟩ := hv.src E.hsz
    rcases hxf with rfl | ⟨ax, k, c, rfl, _, _⟩
    · obtain ⟨_, rfl⟩ := hx.none_zero
      refine ⟨_, w, ?_, hsame rfl, .inr ⟨a, n, cap, rfl, hnc, hcm⟩, Below.refl _ _⟩
      simp [Builtin.append_, run_underlying E.ht, sizeOf, typeInfo, E.hi, Builtin.lenOf, hnc, Builtin.firstCells, storeCells]
    · obtain ⟨rfl, hm, hsrc⟩ := hx.src E.hsz
      have hone : ∀ u ∈ flat k size h, u.oneCell' = true := fun u hu => by obtain ⟨p, q, hp, hq, rfl⟩ := flat_mem E.hsz hu; exact h1 p q hp hq
      rcases hcap with hcap | rfl
      · obtain ⟨v', w', hr, ho, hg⟩ := run_append_arg_grows (P := Try.prog) w (ty := ty) t e i z size bytes E.ht E.hi E.hz E.hsize E.hby E.hzs E.hsz a n cap (flat n size g) (flat_length _ _ _) hold ax k c (flat k size h) (flat_length _ _ _) hsrc hcap h63 hbytes
        rw [← flat_cat n k size E.hsz] at ho
        obtain ⟨s1, s2⟩ := own_sl2 (D := D) ho h63
        exact ⟨v', w', hr, s1, s2, (Below.refl _ _).grown hg (Nat.le_refl _) (fun k hk => by cases hk)⟩
      · refine ⟨_, w, ?_, hsame rfl, .inr ⟨a, n, cap, rfl, hnc, hcm⟩, Below.refl _ _⟩
        have hl : (loadCells ax 0).run Try.prog w = .ok #[] w := by simpa using run_loadCells_list (P := Try.prog) w ax [] (fun j v hj => by simp at hj)
        simp [Builtin.append_, run_underlying E.ht, sizeOf, typeInfo, E.hi, Builtin.lenOf, hnc, Builtin.firstCells, storeCells, hl]
end

theorem step_app {w w' : World} {ops : Array Oper} {o : Oper} {a : Act} {K : Act → World → Prop} {Q : Exit → Act → World → Prop} {E : Prop} {v' : Value} (hgd : o.guard = none) (s x : Operand) (t : TypeId)
    (ho : o.op = .call { callee := .builtin .append, args := #[s, x], argTypes := #[t, t] }) (v u : Value) (hs : a.eval s = v) (hx : a.eval x = u)
    (hrun : (Builtin.append_ #[t, t] o.type #[v, u]).run Try.prog w = .ok v' w') (h : K (a.put o.dst v') w') :
    if Region.wanted o (yielded ops a.tmps) = true then Oper.wp Try.prog o a w K Q else E := by
  have hw : Region.wanted o (yielded ops a.tmps) = true := by simp [Region.wanted, hgd]
  rw [if_pos hw]
  unfold Oper.wp execOp
  simp only [ho, resolve, invoke, builtin, Sem.run_bind, Sem.run_pure, Result.andThen_ok, List.map_toArray, List.map_cons, List.map_nil, hs, hx, hrun]
  exact h
noncomputable def appF (ats : Array TypeId) (ty : TypeId) (args : Array Value) : Sem Value := Builtin.append_ ats ty args
theorem app_named {ats : Array TypeId} {ty : TypeId} {cs : Array Bool} {args : Array Value} : builtin .append ats ty cs args = (do pure (.value (← appF ats ty args))) := rfl

end Go.Proofs.Ytmbifmmkccghfaa

/-
  Packets, links and nets as plain data, and what the functions of chapter 6 compute. No condition.
-/
namespace Go.Proofs.Ytmbifmmkccghfaa
open Go.RowKit

structure Pk where
  (src dst : Int)
  data : List UInt8
structure Net where
  queue : List Pk
  apart : List (Int × Int)

def BytesAt (w : World) (B : Nat) (v : Value) (l : List UInt8) : Prop := SlF v ∧ Sl w B 1 l.length (fun i _ => .int .u8 ((l.getD i 0).toNat : Int)) v
theorem BytesAt.below {w w' : World} {B : Nat} {v : Value} {l : List UInt8} (h : BytesAt w B v l) (hb : Below B w w') : BytesAt w' B v l := ⟨h.1, Sl.below h.2 hb⟩
theorem BytesAt.more {w : World} {B B' : Nat} {v : Value} {l : List UInt8} (h : BytesAt w B v l) (hb : B ≤ B') : BytesAt w B' v l := ⟨h.1, Sl.more h.2 hb⟩
theorem BytesAt.later {w w' : World} {v : Value} {l : List UInt8} (h : BytesAt w w.heap.size v l) (hb : Below w.heap.size w w') : BytesAt w' w'.heap.size v l := (h.below hb).more hb.size
theorem BytesAt.form {w : World} {B : Nat} {v : Value} {l : List UInt8} (h : BytesAt w B v l) : ∃ A c, v = .slice A l.length c ∧ l.length ≤ maxLen := by
  obtain ⟨A, c, hv, hn, _⟩ := h.2
  exact ⟨A, c, hv, hn⟩
theorem bytesAt_nil (w : World) (B : Nat) : BytesAt w B (.slice none 0 0) [] := ⟨.inl rfl, none, 0, rfl, Nat.zero_le _, fun i hi => by simp at hi⟩

def pkCells (q : List Pk) (V : Nat → Value) (i j : Nat) : Value := if j = 0 then .int .i64 (q.getD i ⟨0, 0, []⟩).src else if j = 1 then .int .i64 (q.getD i ⟨0, 0, []⟩).dst else V i
def PksAt (w : World) (B : Nat) (v : Value) (q : List Pk) : Prop :=
  SlF v ∧ ∃ V : Nat → Value, Sl w B 3 q.length (pkCells q V) v ∧ ∀ (i : Nat) (p : Pk), q[i]? = some p → BytesAt w B (V i) p.data
theorem PksAt.below {w w' : World} {B : Nat} {v : Value} {q : List Pk} (h : PksAt w B v q) (hb : Below B w w') : PksAt w' B v q := by
  obtain ⟨h0, V, h1, h2⟩ := h
  exact ⟨h0, V, h1.below hb, fun i l hl => (h2 i l hl).below hb⟩
theorem PksAt.more {w : World} {B B' : Nat} {v : Value} {q : List Pk} (h : PksAt w B v q) (hb : B ≤ B') : PksAt w B' v q := by
  obtain ⟨h0, V, h1, h2⟩ := h
  exact ⟨h0, V, h1.more hb, fun i l hl => (h2 i l hl).more hb⟩
theorem PksAt.later {w w' : World} {v : Value} {q : List Pk} (h : PksAt w w.heap.size v q) (hb : Below w.heap.size w w') : PksAt w' w'.heap.size v q := (h.below hb).more hb.size
theorem PksAt.form {w : World} {B : Nat} {v : Value} {q : List Pk} (h : PksAt w B v q) : ∃ A c, v = .slice A q.length c ∧ q.length ≤ maxLen := by
  obtain ⟨_, V, ⟨A, c, hv, hn, _⟩, _⟩ := h
  exact ⟨A, c, hv, hn⟩
theorem pksAt_nil (w : World) (B : Nat) : PksAt w B (.slice none 0 0) [] := ⟨.inl rfl, fun _ => undef, ⟨none, 0, rfl, Nat.zero_le _, fun i hi => by simp at hi⟩, fun i l hl => by simp at hl⟩
theorem PksAt.pk {w : World} {B : Nat} {A : Option Addr} {n c : Nat} {q : List Pk} (h : PksAt w B (.slice A n c) q) {k : Nat} (hk : k < q.length) :
    ∃ b off V, A = some ⟨b, off, none⟩ ∧ b < B ∧ w.cell? ⟨b, off + k * 3, none⟩ = some (.int .i64 (q[k]).src) ∧ w.cell? ⟨b, off + k * 3 + 1, none⟩ = some (.int .i64 (q[k]).dst) ∧ w.cell? ⟨b, off + k * 3 + 2, none⟩ = some V ∧ BytesAt w B V (q[k]).data := by
  obtain ⟨_, V, ⟨A', c', hv, _, h1⟩, h2⟩ := h
  cases hv
  obtain ⟨b, off, rfl, hb, h3⟩ := h1 k hk
  have e : q[k]? = some q[k] := List.getElem?_eq_getElem hk
  have eg : q.getD k ⟨0, 0, []⟩ = q[k] := by rw [List.getD_eq_getElem?_getD, e]; rfl
  have c0 := h3 0 (by omega)
  have c1 := h3 1 (by omega)
  have c2 := h3 2 (by omega)
  simp only [pkCells, eg] at c0 c1 c2
  exact ⟨b, off, V k, rfl, hb, c0, by rw [Nat.add_assoc]; exact c1, by rw [Nat.add_assoc]; exact c2, h2 k _ e⟩

def lkCells (l : List (Int × Int)) (i j : Nat) : Value := if j = 0 then .int .i64 (l.getD i (0, 0)).1 else .int .i64 (l.getD i (0, 0)).2
def LksAt (w : World) (B : Nat) (v : Value) (l : List (Int × Int)) : Prop := SlF v ∧ Sl w B 2 l.length (lkCells l) v
theorem LksAt.below {w w' : World} {B : Nat} {v : Value} {l : List (Int × Int)} (h : LksAt w B v l) (hb : Below B w w') : LksAt w' B v l := ⟨h.1, h.2.below hb⟩
theorem LksAt.more {w : World} {B B' : Nat} {v : Value} {l : List (Int × Int)} (h : LksAt w B v l) (hb : B ≤ B') : LksAt w B' v l := ⟨h.1, h.2.more hb⟩
theorem LksAt.later {w w' : World} {v : Value} {l : List (Int × Int)} (h : LksAt w w.heap.size v l) (hb : Below w.heap.size w w') : LksAt w' w'.heap.size v l := (h.below hb).more hb.size
theorem LksAt.form {w : World} {B : Nat} {v : Value} {l : List (Int × Int)} (h : LksAt w B v l) : ∃ A c, v = .slice A l.length c ∧ l.length ≤ maxLen := by
  obtain ⟨_, A, c, hv, hn, _⟩ := h
  exact ⟨A, c, hv, hn⟩
theorem lksAt_nil (w : World) (B : Nat) : LksAt w B (.slice none 0 0) [] := ⟨.inl rfl, none, 0, rfl, Nat.zero_le _, fun i hi => by simp at hi⟩
theorem LksAt.lk {w : World} {B : Nat} {A : Option Addr} {n c : Nat} {l : List (Int × Int)} (h : LksAt w B (.slice A n c) l) (hn : 0 < l.length) :
    ∃ b off, A = some ⟨b, off, none⟩ ∧ b < B ∧ ∀ k, k < l.length → w.cell? ⟨b, off + k * 2, none⟩ = some (.int .i64 (l.getD k (0, 0)).1) ∧ w.cell? ⟨b, off + k * 2 + 1, none⟩ = some (.int .i64 (l.getD k (0, 0)).2) := by
  obtain ⟨_, A', c', hv, _, h1⟩ := h
  cases hv
  obtain ⟨b, off, rfl, hb, _⟩ := h1 0 hn
  refine ⟨b, off, rfl, hb, fun k hk => ?_⟩
  obtain ⟨b', off', e', _, h3⟩ := h1 k hk
  cases e'
  exact ⟨h3 0 (by omega), by rw [Nat.add_assoc]; exact h3 1 (by omega)⟩

structure NetAt (w : World) (B : Nat) (Vq Va : Value) (n : Net) : Prop where
  queue : PksAt w B Vq n.queue
  apart : LksAt w B Va n.apart
theorem NetAt.below {w w' : World} {B : Nat} {Vq Va : Value} {n : Net} (h : NetAt w B Vq Va n) (hb : Below B w w') : NetAt w' B Vq Va n := ⟨h.queue.below hb, h.apart.below hb⟩
theorem NetAt.more {w : World} {B B' : Nat} {Vq Va : Value} {n : Net} (h : NetAt w B Vq Va n) (hb : B ≤ B') : NetAt w B' Vq Va n := ⟨h.queue.more hb, h.apart.more hb⟩
theorem NetAt.later {w w' : World} {Vq Va : Value} {n : Net} (h : NetAt w w.heap.size Vq Va n) (hb : Below w.heap.size w w') : NetAt w' w'.heap.size Vq Va n := (h.below hb).more hb.size
def Net.zero : Net := ⟨[], []⟩
theorem netAt_zero (w : World) (B : Nat) : NetAt w B (.slice none 0 0) (.slice none 0 0) Net.zero := ⟨pksAt_nil w B, lksAt_nil w B⟩

def linkB (a b : Int) : Bool := decide (0 ≤ a ∧ a < b ∧ b < 24)
def Pk.okB (p : Pk) : Bool := linkB (min p.src p.dst) (max p.src p.dst) && decide (p.data.length ≤ 1048576)
def cmpI (x y : Int) : Int := if x < y then -1 else if y < x then 1 else 0
def cmpP (x y : Int × Int) : Int := if cmpI x.1 y.1 ≠ 0 then cmpI x.1 y.1 else cmpI x.2 y.2
def okAt (l : List (Int × Int)) (i : Nat) : Bool := linkB (l.getD i (0, 0)).1 (l.getD i (0, 0)).2 && (decide (i = 0) || decide (cmpP (l.getD (i - 1) (0, 0)) (l.getD i (0, 0)) < 0))
def apartB (l : List (Int × Int)) : Bool := (List.range l.length).all (okAt l)
def Net.okB (n : Net) : Bool := decide (n.queue.length ≤ 4096) && (n.queue.all Pk.okB && apartB n.apart)
def Net.checkT (n : Net) : Int := if n.okB = true then 0 else 60
def sendT (n : Net) (p : Pk) : Net × Int := if n.okB = true ∧ p.okB = true then (if n.queue.length = 4096 then (Net.zero, 2) else (⟨n.queue ++ [p], n.apart⟩, 0)) else (Net.zero, 60)
def askTN (n : Net) (i : Int) : Int := if n.okB = true then (if 0 ≤ i ∧ i < (n.queue.length : Int) then 0 else 1) else 60
def Net.without (n : Net) (i : Nat) : Net := ⟨n.queue.take i ++ n.queue.drop (i + 1), n.apart⟩
def Pk.zero : Pk := ⟨0, 0, []⟩
def Net.pk (n : Net) (i : Int) : Pk := n.queue.getD i.toNat Pk.zero
def cutB (l : List (Int × Int)) (a b : Int) : Bool := l.any fun x => decide (x.1 = min a b) && decide (x.2 = max a b)
def deliverT (n : Net) (i : Int) : Pk × Net × Int := if askTN n i = 0 then ((if cutB n.apart (n.pk i).src (n.pk i).dst = true then Pk.zero else n.pk i), n.without i.toNat, 0) else (Pk.zero, Net.zero, askTN n i)
def loseT (n : Net) (i : Int) : Net × Int := if askTN n i = 0 then (n.without i.toNat, 0) else (Net.zero, askTN n i)
def repeatT (n : Net) (i : Int) : Net × Int := if askTN n i = 0 then sendT n (n.pk i) else (Net.zero, askTN n i)
def allLinks : List (Int × Int) := (List.range 24).flatMap fun a => (List.range (24 - (a + 1))).map fun k => ((a : Int), ((a + 1 + k : Nat) : Int))
def keptB (l : List (Int × Int)) (a b : Int) (on : Bool) (x : Int × Int) : Bool := if x = (min a b, max a b) then on else decide (x ∈ l)
def cutT (n : Net) (a b : Int) (on : Bool) : Net × Int := if n.okB = true then (if linkB (min a b) (max a b) = true then (⟨n.queue, allLinks.filter (keptB n.apart a b on)⟩, 0) else (Net.zero, 1)) else (Net.zero, 60)
end Go.Proofs.Ytmbifmmkccghfaa

/-
  Contracts of the small functions of chapter 6. No condition.
-/
namespace Go.Proofs.Ytmbifmmkccghfaa
open Go.RowKit

abbrev Pk.v (p : Pk) (V : Value) : Value := .agg #[.int .i64 p.src, .int .i64 p.dst, V]
abbrev pairV (a b : Int) : Value := .agg #[.int .i64 a, .int .i64 b]

theorem nBetween_any (a b : Int) (w : World) : Calls Try.prog 72 #[.int .i64 a, .int .i64 b] w fun e w' => e = .returned (pairV (min a b) (max a b)) ∧ Below w.heap.size w w' := by
  go_enter Try.func72, Try.ntmps72
  go_wp2
  refine bodyPost_ret (v := pairV (min a b) (max a b)) (by simp [results, Try.results72, go_sem]) rfl ?_
  exact ⟨rfl, (Below.refl _ _).alloc (Nat.le_refl _) _⟩
theorem nValid_any (a b : Int) (w : World) : Calls Try.prog 61 #[pairV a b] w fun e w' => e = .returned (.bool (linkB a b)) ∧ Below w.heap.size w w' := by
  go_enter Try.func61, Try.ntmps61
  go_wp2
  all_goals
    go_ret
    refine ⟨?_, (Below.refl _ _).alloc (Nat.le_refl _) _⟩
    simp_all [linkB] <;> omega
theorem nIsNaN_any (n : Int) (w : World) : Calls Try.prog 100 #[.int .i64 n] w fun e w' => e = .returned (.bool false) ∧ w = w' := by
  go_enter Try.func100, Try.ntmps100
  go_wp2
  go_ret
  exact ⟨rfl, rfl⟩
theorem nCmp_any (a b : Int) (w : World) : Calls Try.prog 82 #[.int .i64 a, .int .i64 b] w fun e w' => e = .returned (.int .i64 (cmpI a b)) ∧ w = w' := by
  go_enter Try.func82, Try.ntmps82
  go_wp2_with (go_at_call 100; refine (nIsNaN_any _ _).mono ?_; rintro e w' ⟨rfl, rfl⟩)
  all_goals
    go_ret
    refine ⟨?_, rfl⟩
    unfold cmpI
    first
      | (rw [if_pos (by assumption)]; rfl)
      | (rw [if_neg (by omega), if_pos (by assumption)]; rfl)
      | (rw [if_neg (by omega), if_neg (by omega)]; rfl)

set_option maxHeartbeats 1000000 in
theorem nPacket_any (p : Pk) (V : Value) (w : World) (hV : BytesAt w w.heap.size V p.data) : Calls Try.prog 54 #[p.v V] w fun e w' => e = .returned (.bool p.okB) ∧ Below w.heap.size w w' := by
  obtain ⟨A, c, rfl, hm⟩ := hV.form
  unfold maxLen at hm
  obtain ⟨n, hn⟩ : ∃ n, p.data.length = n := ⟨_, rfl⟩
  have hp : p.okB = (linkB (min p.src p.dst) (max p.src p.dst) && decide ((n : Int) ≤ 1048576)) := by
    rw [Pk.okB, hn, show decide (n ≤ 1048576) = decide ((n : Int) ≤ 1048576) from decide_eq_decide.2 (by omega)]
  rw [hn] at hm hV ⊢
  rw [hp]
  clear hp hn hV
  obtain ⟨q, hq⟩ : ∃ q, linkB (min p.src p.dst) (max p.src p.dst) = q := ⟨_, rfl⟩
  rw [hq]
  have hq := Lib.hid hq
  go_enter Try.func54, Try.ntmps54
  go_wp2_with fail
  refine (nBetween_any _ _ _).mono ?_
  rintro e w1 ⟨rfl, hb⟩
  have X := (Box.new w [.int .i64 p.src, .int .i64 p.dst, .slice A n c] 51).later hb
  have hB := ((Below.refl w.heap.size w).alloc (Nat.le_refl _) (.cells #[.int .i64 p.src, .int .i64 p.dst, .slice A n c] 51)).trans (hb.mono (by simp))
  clear hb
  go_wp2_with fail
  refine (((nValid_any _ _ _).mono fun _ _ ⟨he, hb⟩ => ⟨by rw [he, hq.out], hb⟩) : Calls Try.prog 61 #[pairV (min p.src p.dst) (max p.src p.dst)] _ fun e w' => e = .returned (.bool q) ∧ Below _ _ w').mono ?_
  rintro e w2 ⟨rfl, hb⟩
  have X := X.later hb
  have hB := hB.trans (hb.mono hB.size)
  clear hb
  have x2 : w2.cell? ⟨w.heap.size, 2, none⟩ = some (.slice A n c) := X.cell 2
  have xz := X.lt
  rcases q with _ | _
  all_goals
    go_wp2
    go_ret
    exact ⟨rfl, hB⟩

theorem nPacket1_any (p : Pk) (V : Value) (w : World) (hV : BytesAt w w.heap.size V p.data) : Calls Try.prog 60 #[p.v V] w fun e w' => e = .returned (.bool (!p.okB)) ∧ Below w.heap.size w w' := by
  obtain ⟨q, hq⟩ : ∃ q, p.okB = q := ⟨_, rfl⟩
  rw [hq]
  have hq := Lib.hid hq
  have hb0 := (Below.refl w.heap.size w).alloc (Nat.le_refl _) (.cells #[.int .i64 p.src, .int .i64 p.dst, V] 51)
  have hV2 := Lib.hid (hV.later hb0)
  clear hV
  go_enter Try.func60, Try.ntmps60
  go_wp2_with fail
  refine (((nPacket_any p V _ hV2.out).mono fun _ _ ⟨he, hb⟩ => ⟨by rw [he, hq.out], hb⟩) : Calls Try.prog 54 #[p.v V] _ fun e w' => e = .returned (.bool q) ∧ Below _ _ w').mono ?_
  rintro e w2 ⟨rfl, hb⟩
  go_wp2
  go_ret
  exact ⟨rfl, hb0.trans (hb.mono hb0.size)⟩

end Go.Proofs.Ytmbifmmkccghfaa

/-
  Contracts of chapter 6: slices.ContainsFunc over packets, slices.Compare, the reference's test of a packet. No condition.
-/
namespace Go.Proofs.Ytmbifmmkccghfaa
open Go.RowKit

def IxRes (b : Bool) (w : World) (e : Ending) (w' : World) : Prop := ∃ z : Int, e = .returned (.int .i64 z) ∧ Hid ((b = true ∧ 0 ≤ z) ∨ (b = false ∧ z < 0)) ∧ Below w.heap.size w w'
theorem allTake {α : Type} (l : List α) (f : α → Bool) {k : Nat} (hk : k < l.length) : (l.take (k + 1)).all f = ((l.take k).all f && f l[k]) := by
  rw [List.take_succ_eq_append_getElem hk, List.all_append]
  simp
theorem allBad {α : Type} {l : List α} {f : α → Bool} {k : Nat} (hk : k < l.length) (h : f l[k] = false) : l.all f = false := by
  rw [List.all_eq_false]
  exact ⟨l[k], List.getElem_mem hk, by simp [h]⟩

set_option maxRecDepth 100000 in
set_option maxHeartbeats 2000000 in
theorem nIndexFunc_any (q : List Pk) (v : Value) (w : World) (hQ : PksAt w w.heap.size v q) :
    Calls Try.prog 81 #[v, .func (.func 60) #[] #[]] w (IxRes (!q.all Pk.okB) w) := by
  obtain ⟨A, c, rfl, hm⟩ := hQ.form
  unfold maxLen at hm
  obtain ⟨n, hnn⟩ : ∃ n, q.length = n := ⟨_, rfl⟩
  rw [hnn] at hm hQ ⊢
  have HN := Lib.hid hnn
  have HQ := Lib.hid hQ
  clear hnn hQ
  go_enter Try.func81, Try.ntmps81
  go_wp2_with fail
  go_loopw [8] (fun i wr => ∃ j : Nat, j ≤ n ∧ i = .int .i64 j ∧ Below w.heap.size w wr ∧ Hid ((q.take j).all Pk.okB = true)) (fun i _ => n - (intOf i).toNat)
  case atStart => exact ⟨0, by omega, rfl, Below.refl _ _, rfl⟩
  case round =>
    obtain ⟨j, hj, rfl, hb, hall⟩ := hrel
    by_cases hlt : j < n
    · have hjl : j < q.length := by rw [HN.out]; exact hlt
      obtain ⟨b, off, V, rfl, hbw, q0, q1, q2, hV⟩ := HQ.out.pk hjl
      have q0 := (hb.cell hbw).trans q0
      have q1 := (hb.cell hbw).trans q1
      have q2 := (hb.cell hbw).trans q2
      have hV2 := Lib.hid ((hV.below hb).more hb.size)
      have htk := allTake q Pk.okB hjl
      have hbad := allBad (f := Pk.okB) hjl
      obtain ⟨y, hy⟩ : ∃ y, q[j] = y := ⟨_, rfl⟩
      rw [hy] at q0 q1 hV2 htk hbad
      rw [hall.out, Bool.true_and] at htk
      have htk := Lib.hid htk
      have hbad := Lib.hid hbad
      clear hy hV
      go_wp2_with fail
      refine (nPacket1_any y V _ hV2.out).mono ?_
      rintro e w1 ⟨rfl, hb1⟩
      have hb2 := hb.trans (hb1.mono hb.size)
      rcases hh : y.okB with _ | _
      · have hF := Lib.hid (hbad.out hh)
        go_wp2
        go_ret
        exact ⟨_, rfl, .inl ⟨by rw [hF.out]; rfl, by omega⟩, hb2⟩
      · go_wp2
        refine ⟨⟨j + 1, by omega, by go_num, hb2, ?_⟩, by simp [intOf]; omega⟩
        rw [Hid, htk.out]
        exact hh
    · obtain rfl : j = n := by omega
      have hF : Hid (q.all Pk.okB = true) := by
        have := hall.out
        rw [← HN.out, List.take_length] at this
        exact this
      go_wp2
      go_ret
      exact ⟨_, rfl, .inr ⟨by rw [hF.out]; rfl, by omega⟩, hb⟩

theorem nContainsFunc_any (q : List Pk) (v : Value) (w : World) (hQ : PksAt w w.heap.size v q) :
    Calls Try.prog 59 #[v, .func (.func 60) #[] #[]] w fun e w' => e = .returned (.bool (!q.all Pk.okB)) ∧ Below w.heap.size w w' := by
  obtain ⟨t, ht⟩ : ∃ t, (!q.all Pk.okB) = t := ⟨_, rfl⟩
  have hI := nIndexFunc_any q v w hQ
  rw [ht] at hI ⊢
  have HI := Lib.hid hI
  clear hI ht hQ
  go_enter Try.func59, Try.ntmps59
  go_wp2_with fail
  refine HI.out.mono ?_
  rintro e w1 ⟨z, rfl, hz, hb1⟩
  rcases hz.out with ⟨rfl, h0⟩ | ⟨rfl, h0⟩
  · have _hd : decide (0 ≤ z) = true := decide_eq_true h0
    go_wp2
    go_ret
    exact ⟨rfl, hb1⟩
  · have _hd : decide (0 ≤ z) = false := decide_eq_false (by omega)
    go_wp2
    go_ret
    exact ⟨rfl, hb1⟩

set_option maxHeartbeats 1000000 in
theorem nCompare_any (x y : Int × Int) (b1 o1 c1 b2 o2 c2 : Nat) (w : World) (h1 : w.cell? ⟨b1, o1, none⟩ = some (.int .i64 x.1)) (h2 : w.cell? ⟨b1, o1 + 1, none⟩ = some (.int .i64 x.2)) (h3 : w.cell? ⟨b2, o2, none⟩ = some (.int .i64 y.1)) (h4 : w.cell? ⟨b2, o2 + 1, none⟩ = some (.int .i64 y.2)) :
    Calls Try.prog 62 #[.slice (some ⟨b1, o1, none⟩) 2 c1, .slice (some ⟨b2, o2, none⟩) 2 c2] w fun e w' => e = .returned (.int .i64 (cmpP x y)) ∧ w = w' := by
  have H : Hid (∀ k, k < 2 → w.cell? ⟨b1, o1 + k, none⟩ = some (.int .i64 (if k = 0 then x.1 else x.2)) ∧ w.cell? ⟨b2, o2 + k, none⟩ = some (.int .i64 (if k = 0 then y.1 else y.2))) := by
    intro k hk
    rcases (show k = 0 ∨ k = 1 by omega) with rfl | rfl
    · exact ⟨h1, h3⟩
    · exact ⟨h2, h4⟩
  clear h1 h2 h3 h4
  go_enter Try.func62, Try.ntmps62
  go_wp2_with fail
  go_loop [11] (fun i => ∃ k : Nat, k ≤ 2 ∧ i = .int .i64 k ∧ Hid (0 < k → cmpI x.1 y.1 = 0) ∧ Hid (1 < k → cmpI x.2 y.2 = 0)) (fun i => 2 - (intOf i).toNat)
  case atStart => exact ⟨0, by omega, rfl, fun h => absurd h (by omega), fun h => absurd h (by omega)⟩
  case round =>
    obtain ⟨k, hk, rfl, e1, e2⟩ := hrel
    by_cases hlt : k < 2
    · obtain ⟨q1, q2⟩ := H.out k hlt
      obtain ⟨c, hc⟩ : ∃ c, cmpI (if k = 0 then x.1 else x.2) (if k = 0 then y.1 else y.2) = c := ⟨_, rfl⟩
      have HC := Lib.hid hc
      have S : ∀ w, Calls Try.prog 82 #[.int .i64 (if k = 0 then x.1 else x.2), .int .i64 (if k = 0 then y.1 else y.2)] w fun e w' => e = .returned (.int .i64 c) ∧ w = w' := fun w => by rw [← hc]; exact nCmp_any _ _ w
      have S := Lib.hid S
      clear hc
      obtain ⟨u, hu⟩ : ∃ u, (if k = 0 then x.1 else x.2) = u := ⟨_, rfl⟩
      obtain ⟨v, hv⟩ : ∃ v, (if k = 0 then y.1 else y.2) = v := ⟨_, rfl⟩
      rw [hu, hv] at S HC
      rw [hu] at q1
      rw [hv] at q2
      have HU := Lib.hid hu
      have HV := Lib.hid hv
      clear hu hv
      by_cases h0 : c = 0
      · subst h0
        go_wp2_with (go_at_call 82; refine (S.out _).mono ?_; rintro e w' ⟨rfl, rfl⟩)
        refine ⟨⟨k + 1, by omega, by go_num, fun _ => ?_, fun h => ?_⟩, by simp [intOf]; omega⟩
        · rcases (show k = 0 ∨ k = 1 by omega) with rfl | rfl
          · have := HC.out; rw [← HU.out, ← HV.out] at this; simpa using this
          · exact e1.out (by omega)
        · obtain rfl : k = 1 := by omega
          have := HC.out; rw [← HU.out, ← HV.out] at this; simpa using this
      · have _h1 : (c != 0) = true := by simp [h0]
        go_wp2_with (go_at_call 82; refine (S.out _).mono ?_; rintro e w' ⟨rfl, rfl⟩)
        go_ret
        refine ⟨?_, rfl⟩
        have hc := HC.out
        rw [← HU.out, ← HV.out] at hc
        rcases (show k = 0 ∨ k = 1 by omega) with rfl | rfl
        · have hc : cmpI x.1 y.1 = c := by simpa using hc
          rw [cmpP, hc, if_pos h0]
          rfl
        · have hc : cmpI x.2 y.2 = c := by simpa using hc
          rw [cmpP, e1.out (by omega), if_neg (by simp), hc]
          rfl
    · obtain rfl : k = 2 := by omega
      go_wp2
      go_ret
      refine ⟨?_, rfl⟩
      rw [cmpP, e1.out (by omega), if_neg (by simp), e2.out (by omega)]
      rfl

end Go.Proofs.Ytmbifmmkccghfaa

/-
  Contracts of Check of network and of its reference. No condition.
-/
namespace Go.Proofs.Ytmbifmmkccghfaa
open Go.RowKit

theorem nValid_at {a b : Int} {q : Bool} (h : Hid (linkB a b = q)) (w : World) : Calls Try.prog 61 #[pairV a b] w fun e w' => e = .returned (.bool q) ∧ Below w.heap.size w w' :=
  (nValid_any a b w).mono fun _ _ ⟨he, hb⟩ => ⟨by rw [he, h.out], hb⟩
theorem nContainsFunc_at {q : List Pk} {v : Value} {w : World} {t : Bool} (h : Hid (q.all Pk.okB = t)) (hQ : PksAt w w.heap.size v q) :
    Calls Try.prog 59 #[v, .func (.func 60) #[] #[]] w fun e w' => e = .returned (.bool (!t)) ∧ Below w.heap.size w w' :=
  (nContainsFunc_any q v w hQ).mono fun _ _ ⟨he, hb⟩ => ⟨by rw [he, h.out], hb⟩
theorem rangeAll (f : Nat → Bool) (k : Nat) : (List.range (k + 1)).all f = ((List.range k).all f && f k) := by
  rw [List.range_succ, List.all_append]
  simp
theorem rangeBad {f : Nat → Bool} {n k : Nat} (hk : k < n) (h : f k = false) : (List.range n).all f = false := by
  rw [List.all_eq_false]
  exact ⟨k, List.mem_range.2 hk, by simp [h]⟩
theorem Net.okB_eq (n : Net) : n.okB = (decide (n.queue.length ≤ 4096) && (n.queue.all Pk.okB && apartB n.apart)) := rfl
theorem check_bad {n : Net} (h : n.okB = false) : n.checkT = 60 := by rw [Net.checkT, h]; rfl
theorem check_good {n : Net} (h : n.okB = true) : n.checkT = 0 := by rw [Net.checkT, h]; rfl

set_option maxRecDepth 100000 in
set_option maxHeartbeats 4000000 in
theorem nCheck_any (n : Net) (Vq Va : Value) (w : World) (hN : NetAt w w.heap.size Vq Va n) :
    Calls Try.prog 38 #[.agg #[Vq, Va]] w fun e w' => e = .returned (.int .i64 n.checkT) ∧ Below w.heap.size w w' := by
  obtain ⟨Aq, cq, rfl, hmq⟩ := hN.queue.form
  obtain ⟨Aa, ca, rfl, hma⟩ := hN.apart.form
  unfold maxLen at hmq hma
  obtain ⟨nq, hnq⟩ : ∃ k, n.queue.length = k := ⟨_, rfl⟩
  obtain ⟨na, hna⟩ : ∃ k, n.apart.length = k := ⟨_, rfl⟩
  rw [hnq] at hmq
  rw [hna] at hma
  rw [hnq, hna] at hN ⊢
  have HQ := Lib.hid hnq
  have HA := Lib.hid hna
  have HN := Lib.hid hN
  clear hnq hna hN
  by_cases hl : nq ≤ 4096
  · rcases hq : n.queue.all Pk.okB with _ | _
    · have hf : n.checkT = 60 := check_bad (by rw [Net.okB_eq, hq]; simp)
      rw [hf]
      have Hq := Lib.hid hq
      clear hf hq
      have hb0 := (Below.refl w.heap.size w).alloc (Nat.le_refl _) (.cells #[.slice Aq nq cq, .slice Aa na ca] 25)
      have HN1 := Lib.hid (HN.out.later hb0)
      go_enter Try.func38, Try.ntmps38
      go_wp2_with fail
      refine (nContainsFunc_at Hq HN1.out.queue).mono ?_
      rintro e w1 ⟨rfl, hb⟩
      go_wp2
      go_ret
      exact ⟨rfl, hb0.trans (hb.mono hb0.size)⟩
    · have Hq := Lib.hid hq
      clear hq
      have hb0 := (Below.refl w.heap.size w).alloc (Nat.le_refl _) (.cells #[.slice Aq nq cq, .slice Aa na ca] 25)
      have HN1 := Lib.hid (HN.out.later hb0)
      go_enter Try.func38, Try.ntmps38
      go_wp2_with fail
      refine (nContainsFunc_at Hq HN1.out.queue).mono ?_
      rintro e W ⟨rfl, hb⟩
      have X := (Box.new w [.slice Aq nq cq, .slice Aa na ca] 25).later hb
      have HL := Lib.hid (HN1.out.later hb).apart
      have hB := hb0.trans (hb.mono hb0.size)
      clear hb HN1 hb0
      have x1 : W.cell? ⟨w.heap.size, 1, none⟩ = some (.slice Aa na ca) := X.cell 1
      have xz := X.lt
      go_wp2_with fail
      clear x1 xz
      go_loopw [17] (fun i wr => ∃ k : Nat, k ≤ na ∧ i = .int .i64 k ∧ Below W.heap.size W wr ∧ Hid ((List.range k).all (okAt n.apart) = true)) (fun i _ => na - (intOf i).toNat)
      case atStart => exact ⟨0, by omega, rfl, Below.refl _ _, rfl⟩
      case round =>
        obtain ⟨k, hk, rfl, hb, hall⟩ := hrel
        have X' := X.later hb
        by_cases hlt : k < na
        · obtain ⟨b, off, rfl, hbw, hcs⟩ := HL.out.lk (by rw [HA.out]; omega)
          obtain ⟨g0, g1⟩ := hcs k (by rw [HA.out]; omega)
          have htk := rangeAll (okAt n.apart) k
          have hbad := rangeBad (f := okAt n.apart) (show k < n.apart.length by rw [HA.out]; exact hlt)
          have hok : okAt n.apart k = (linkB (n.apart.getD k (0, 0)).1 (n.apart.getD k (0, 0)).2 && (decide (k = 0) || decide (cmpP (n.apart.getD (k - 1) (0, 0)) (n.apart.getD k (0, 0)) < 0))) := rfl
          have hprev : 0 < k → W.cell? ⟨b, off + (k - 1) * 2, none⟩ = some (.int .i64 (n.apart.getD (k - 1) (0, 0)).1) ∧ W.cell? ⟨b, off + (k - 1) * 2 + 1, none⟩ = some (.int .i64 (n.apart.getD (k - 1) (0, 0)).2) := fun _ => hcs (k - 1) (by rw [HA.out]; omega)
          obtain ⟨p, hp⟩ : ∃ p, n.apart.getD (k - 1) (0, 0) = p := ⟨_, rfl⟩
          obtain ⟨l, hl'⟩ : ∃ l, n.apart.getD k (0, 0) = l := ⟨_, rfl⟩
          rw [hp, hl'] at hok
          rw [hl'] at g0 g1
          rw [hp] at hprev
          rw [hall.out, Bool.true_and] at htk
          have HPREV := Lib.hid hprev
          have HTK := Lib.hid htk
          have HBAD := Lib.hid hbad
          have HOK := Lib.hid hok
          have HB : Hid (okAt n.apart k = false → n.checkT = 60) := fun h => check_bad (by rw [Net.okB_eq, apartB, HBAD.out h]; simp)
          clear hprev htk hbad hok hp hl' hcs
          have g0 := (hb.cell hbw).trans g0
          have g1 := (hb.cell hbw).trans g1
          go_wp2_with fail
          have Y := Box.new wr [.int .i64 l.1, .int .i64 l.2] 49
          have hb2 := hb.alloc hb.size (.cells #[.int .i64 l.1, .int .i64 l.2] 49)
          have X2 := X'.alloc (.cells #[.int .i64 l.1, .int .i64 l.2] 49)
          generalize wr.alloc (.cells #[.int .i64 l.1, .int .i64 l.2] 49) = W2 at Y hb2 X2 ⊢
          clear g0 g1 X'
          generalize wr.heap.size = D at Y ⊢
          have y0 : ∀ z : Later W2, z.w.cell? ⟨D, 0, none⟩ = some (.int .i64 l.1) := Later.cell (Y.cell 0) Y.lt
          have y1 : ∀ z : Later W2, z.w.cell? ⟨D, 1, none⟩ = some (.int .i64 l.2) := Later.cell (Y.cell 1) Y.lt
          rcases hv : linkB l.1 l.2 with _ | _
          · have HV := Lib.hid hv
            clear hv
            refine wp_region_later (by kernel_rfl) (by kernel_rfl) ?_
            repeat (go_big_quiet_step ((go_at_call 61; exact Later.call _ (nValid_at HV _))))
            refine wpQuiet_nil ?_
            intro _ hw'
            obtain ⟨yq, hw''⟩ := hw'
            subst hw''
            clear y0 y1
            go_wp2
            go_ret
            exact ⟨by rw [HB.out (by rw [HOK.out, HV.out]; rfl)]; rfl, hB.trans ((hb2.trans (yq.below.mono hb2.size)).mono hB.size)⟩
          · have HV := Lib.hid hv
            clear hv
            by_cases hk0 : k = 0
            · subst hk0
              refine wp_region_later (by kernel_rfl) (by kernel_rfl) ?_
              repeat (go_big_quiet_step ((go_at_call 61; exact Later.call _ (nValid_at HV _))))
              refine wpQuiet_nil ?_
              intro _ hw'
              obtain ⟨yq, hw''⟩ := hw'
              subst hw''
              clear y0 y1
              go_wp2
              refine ⟨⟨0 + 1, by omega, by go_num, hb2.trans (yq.below.mono hb2.size), ?_⟩, by simp [intOf]; omega⟩
              rw [Hid, HTK.out, HOK.out, HV.out]
              rfl
            · obtain ⟨p0, p1⟩ := HPREV.out (by omega)
              have c0 : ∀ z : Later W2, z.w.cell? ⟨b, off + (k - 1) * 2, none⟩ = some (.int .i64 p.1) := Later.cell ((hb2.cell hbw).trans p0) (Nat.lt_of_lt_of_le hbw hb2.size)
              have c1 : ∀ z : Later W2, z.w.cell? ⟨b, off + (k - 1) * 2 + 1, none⟩ = some (.int .i64 p.2) := Later.cell ((hb2.cell hbw).trans p1) (Nat.lt_of_lt_of_le hbw hb2.size)
              have c2 : ∀ z : Later W2, z.w.cell? ⟨w.heap.size, 1, none⟩ = some (.slice (some ⟨b, off, none⟩) na ca) := Later.cell (X2.cell 1) X2.lt
              have CMP : Hid (∀ z : Later W2, Calls Try.prog 62 #[.slice (some ⟨b, off + (k - 1) * 2, none⟩) 2 2, .slice (some ⟨D, 0, none⟩) 2 2] z.w fun e w' => e = .returned (.int .i64 (cmpP p l)) ∧ z.w = w') := fun z => nCompare_any p l _ _ _ _ _ _ _ (c0 z) (c1 z) (y0 z) (y1 z)
              have kp : decide (0 < k) = true := decide_eq_true (by omega)
              have k0 : (0 : Int) ≤ (k : Int) - 1 := by omega
              have k1 : (k : Int) - 1 < (na : Int) := by omega
              have k2 : ((k : Int) - 1).toNat = k - 1 := by omega
              have k3 : IntKind.i64.wrap ((k : Int) - 1) = (k : Int) - 1 := IntWalk.i64_in _ (by omega)
              refine wp_region_later (by kernel_rfl) (by kernel_rfl) ?_
              repeat (go_big_quiet_step ((first | (go_at_call 61; exact Later.call _ (nValid_at HV _)) | (go_at_call 62; exact Later.same _ (CMP.out _)))))
              refine wpQuiet_nil ?_
              intro _ hw'
              obtain ⟨yq, hw''⟩ := hw'
              subst hw''
              clear y0 y1 c0 c1 c2 CMP k0 k1 k2 k3
              by_cases hc : cmpP p l < 0
              · go_wp2
                refine ⟨⟨k + 1, by omega, by go_num, hb2.trans (yq.below.mono hb2.size), ?_⟩, by simp [intOf]; omega⟩
                rw [Hid, HTK.out, HOK.out, HV.out, decide_eq_true hc]
                simp
              · go_wp2
                go_ret
                exact ⟨by rw [HB.out (by rw [HOK.out, HV.out, decide_eq_false (show ¬ cmpP p l < 0 by omega), decide_eq_false hk0]; rfl)]; rfl, hB.trans ((hb2.trans (yq.below.mono hb2.size)).mono hB.size)⟩
        · obtain rfl : k = na := by omega
          have hF : n.checkT = 0 := check_good (by rw [Net.okB_eq, Hq.out, apartB, HA.out, hall.out, decide_eq_true (by rw [HQ.out]; exact hl)]; rfl)
          have HF := Lib.hid hF
          clear hF
          go_wp2
          go_ret
          exact ⟨by rw [HF.out]; rfl, hB.trans (hb.mono hB.size)⟩
  · have hf : n.checkT = 60 := check_bad (by rw [Net.okB_eq, decide_eq_false (by rw [HQ.out]; exact hl)]; rfl)
    rw [hf]
    clear hf
    go_enter Try.func38, Try.ntmps38
    go_wp2
    go_ret
    exact ⟨rfl, (Below.refl _ _).alloc (Nat.le_refl _) _⟩

end Go.Proofs.Ytmbifmmkccghfaa

/-
  Contract of Check of the reference of chapter 6. No condition.
-/
namespace Go.Proofs.Ytmbifmmkccghfaa
open Go.RowKit

end Go.Proofs.Ytmbifmmkccghfaa
