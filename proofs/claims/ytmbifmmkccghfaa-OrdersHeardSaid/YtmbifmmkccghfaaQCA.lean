/- Values of chapter 1 as plain data, and what the functions compute. No condition. -/
import Derived.Test.YtmbifmmkccghfaaQK
import Derived.Laws.CopyRow
import Derived.Laws.IdiomCopy
import Derived.Laws.BytesArg
import Derived.Lib.AppendStr
import Derived.Maps.AppendAt
import Derived.Laws.Bits64
import Derived.Laws.Bits64b
import Derived.Lib.MinMax
set_option linter.unusedVariables false
set_option linter.unusedSimpArgs false
namespace Go.Proofs.Ytmbifmmkccghfaa
open Go.RowKit

inductive Val where
  | mk (kind num : Int) (str : List UInt8) (elems : List Val)
def Val.kind : Val → Int | .mk k _ _ _ => k
def Val.num : Val → Int | .mk _ n _ _ => n
def Val.str : Val → List UInt8 | .mk _ _ s _ => s
def Val.elems : Val → List Val | .mk _ _ _ l => l
def Val.zero : Val := .mk 0 0 [] []

mutual
/-- Is a value well-formed? -/
def Val.okB : Val → Bool
  | .mk k n s l => if k = 1 then s.isEmpty && l.isEmpty else if k = 2 then decide (n = 0) && l.isEmpty else if k = 3 then decide (n = 0) && (s.isEmpty && okL l) else false
def okL : List Val → Bool
  | [] => true
  | x :: l => x.okB && okL l
end
mutual
/-- The depth of a value. -/
def Val.depth : Val → Nat
  | .mk k _ _ l => if k = 3 then depthL l + 1 else 0
def depthL : List Val → Nat
  | [] => 0
  | x :: l => max x.depth (depthL l)
end
mutual
/-- How far slices are nested in a value. -/
def Val.nest : Val → Nat
  | .mk _ _ _ l => nestL l
def nestL : List Val → Nat
  | [] => 0
  | x :: l => max (x.nest + 1) (nestL l)
end
theorem okL_all (l : List Val) : okL l = l.all Val.okB := by
  induction l with
  | nil => rfl
  | cons x l ih => rw [okL, List.all_cons, ih]
theorem okL_append (l m : List Val) : okL (l ++ m) = (okL l && okL m) := by rw [okL_all, okL_all, okL_all, List.all_append]
theorem depthL_append (l m : List Val) : depthL (l ++ m) = max (depthL l) (depthL m) := by
  induction l with
  | nil => rw [List.nil_append, depthL, Nat.max_eq_right (Nat.zero_le _)]
  | cons x l ih => rw [List.cons_append, depthL, depthL, ih, Nat.max_assoc]
theorem nest_mem {x : Val} {l : List Val} (h : x ∈ l) : x.nest + 1 ≤ nestL l := by
  induction l with
  | nil => cases h
  | cons y l ih =>
    rw [nestL]
    rcases List.mem_cons.1 h with rfl | h
    · exact Nat.le_max_left _ _
    · exact Nat.le_trans (ih h) (Nat.le_max_right _ _)
theorem Val.nest_elems (x : Val) : x.nest = nestL x.elems := by cases x; rw [Val.nest]; rfl
mutual
theorem Val.depth_nest : ∀ x : Val, x.depth ≤ x.nest + 1
  | .mk k n s l => by
    have := depthL_nest l
    rw [Val.depth, Val.nest]
    split <;> omega
theorem depthL_nest : ∀ l : List Val, depthL l ≤ nestL l
  | [] => by rw [depthL]; exact Nat.zero_le _
  | x :: l => by
    have h1 := Val.depth_nest x
    have h2 := depthL_nest l
    rw [depthL, nestL]
    omega
end

def strB (l : List UInt8) : ByteArray := ⟨l.toArray⟩
theorem strB_toList (l : List UInt8) : (strB l).toList = l := by rw [ByteArray.toList_eq]; rfl
abbrev Val.v (x : Val) (L : Value) : Value := .agg #[.int .i64 x.kind, .int .i64 x.num, .string (strB x.str), L]
def valCells (l : List Val) (V : Nat → Value) (i j : Nat) : Value :=
  if j = 0 then .int .i64 (l.getD i Val.zero).kind else if j = 1 then .int .i64 (l.getD i Val.zero).num else if j = 2 then .string (strB (l.getD i Val.zero).str) else V i
def ValsAt (w : World) (B : Nat) : Nat → Value → List Val → Prop
  | 0, L, l => SlF L ∧ l = [] ∧ Sl w B 4 0 (valCells [] fun _ => undef) L
  | d + 1, L, l => SlF L ∧ ∃ V : Nat → Value, Sl w B 4 l.length (valCells l V) L ∧ ∀ (i : Nat) (x : Val), l[i]? = some x → ValsAt w B d (V i) x.elems
theorem ValsAt.below {w w' : World} {B : Nat} (hb : Below B w w') : ∀ {d : Nat} {L : Value} {l : List Val}, ValsAt w B d L l → ValsAt w' B d L l
  | 0, _, _, h => ⟨h.1, h.2.1, h.2.2.below hb⟩
  | _ + 1, _, _, ⟨f, V, s, b⟩ => ⟨f, V, s.below hb, fun i x hx => (b i x hx).below hb⟩
theorem ValsAt.more {w : World} {B B' : Nat} (hb : B ≤ B') : ∀ {d : Nat} {L : Value} {l : List Val}, ValsAt w B d L l → ValsAt w B' d L l
  | 0, _, _, h => ⟨h.1, h.2.1, h.2.2.more hb⟩
  | _ + 1, _, _, ⟨f, V, s, b⟩ => ⟨f, V, s.more hb, fun i x hx => (b i x hx).more hb⟩
theorem ValsAt.later {w w' : World} {d : Nat} {L : Value} {l : List Val} (h : ValsAt w w.heap.size d L l) (hb : Below w.heap.size w w') : ValsAt w' w'.heap.size d L l := (h.below hb).more hb.size
theorem ValsAt.form {w : World} {B d : Nat} {L : Value} {l : List Val} (h : ValsAt w B d L l) : ∃ A c, L = .slice A l.length c ∧ l.length ≤ maxLen := by
  cases d with
  | zero =>
    obtain ⟨_, rfl, A, c, hv, hm, _⟩ := h
    exact ⟨A, c, hv, hm⟩
  | succ d =>
    obtain ⟨_, V, ⟨A, c, hv, hm, _⟩, _⟩ := h
    exact ⟨A, c, hv, hm⟩
theorem valsAt_nil (w : World) (B d : Nat) : ValsAt w B d (.slice none 0 0) [] := by
  cases d with
  | zero => exact ⟨.inl rfl, rfl, none, 0, rfl, Nat.zero_le _, fun i hi => by omega⟩
  | succ d => exact ⟨.inl rfl, fun _ => undef, ⟨none, 0, rfl, Nat.zero_le _, fun i hi => by simp at hi⟩, fun i x hx => by simp at hx⟩
theorem ValsAt.elem {w : World} {B d n c : Nat} {A : Option Addr} {l : List Val} (h : ValsAt w B d (.slice A n c) l) {k : Nat} (hk : k < l.length) :
    ∃ d' b off V, d = d' + 1 ∧ A = some ⟨b, off, none⟩ ∧ b < B ∧ w.cell? ⟨b, off + k * 4, none⟩ = some (.int .i64 (l[k]).kind) ∧ w.cell? ⟨b, off + k * 4 + 1, none⟩ = some (.int .i64 (l[k]).num) ∧ w.cell? ⟨b, off + k * 4 + 2, none⟩ = some (.string (strB (l[k]).str)) ∧ w.cell? ⟨b, off + k * 4 + 3, none⟩ = some V ∧ ValsAt w B d' V (l[k]).elems := by
  cases d with
  | zero =>
    obtain ⟨_, rfl, _⟩ := h
    simp at hk
  | succ d =>
    obtain ⟨_, V, ⟨A', c', hv, _, h1⟩, h2⟩ := h
    cases hv
    obtain ⟨b, off, rfl, hb, h3⟩ := h1 k hk
    have e : l[k]? = some l[k] := List.getElem?_eq_getElem hk
    have eg : l.getD k Val.zero = l[k] := by rw [List.getD_eq_getElem?_getD, e]; rfl
    have c0 := h3 0 (by omega)
    have c1 := h3 1 (by omega)
    have c2 := h3 2 (by omega)
    have c3 := h3 3 (by omega)
    simp only [valCells, eg] at c0 c1 c2 c3
    exact ⟨d, b, off, V k, rfl, rfl, hb, c0, by rw [Nat.add_assoc]; exact c1, by rw [Nat.add_assoc]; exact c2, by rw [Nat.add_assoc]; exact c3, h2 k _ e⟩

theorem nestL_le {l : List Val} {m : Nat} (h : ∀ x ∈ l, x.nest + 1 ≤ m) : nestL l ≤ m := by
  induction l with
  | nil => exact Nat.zero_le _
  | cons x l ih =>
    rw [nestL]
    exact Nat.max_le.2 ⟨h x List.mem_cons_self, ih fun y hy => h y (List.mem_cons_of_mem _ hy)⟩
theorem ValsAt.nest {w : World} {B : Nat} : ∀ {d : Nat} {L : Value} {l : List Val}, ValsAt w B d L l → nestL l ≤ d
  | 0, _, _, ⟨_, h, _⟩ => by subst h; exact Nat.zero_le _
  | d + 1, _, l, ⟨_, V, _, b⟩ => nestL_le fun x hx => by
    obtain ⟨i, hi, rfl⟩ := List.getElem_of_mem hx
    have := (b i _ (List.getElem?_eq_getElem hi)).nest
    rw [← Val.nest_elems] at this
    omega
theorem depthL_le {l : List Val} {m : Nat} (h : ∀ x ∈ l, x.depth ≤ m) : depthL l ≤ m := by
  induction l with
  | nil => exact Nat.zero_le _
  | cons x l ih =>
    rw [depthL]
    exact Nat.max_le.2 ⟨h x List.mem_cons_self, ih fun y hy => h y (List.mem_cons_of_mem _ hy)⟩
theorem ValsAt.depths {w : World} {B d : Nat} {L : Value} {l : List Val} (h : ValsAt w B d L l) (k : Nat) : depthL (l.take k) ≤ d := depthL_le fun x hx => by
  have h1 := nest_mem (List.mem_of_mem_take hx)
  have h2 := h.nest
  have h3 := x.depth_nest
  omega
theorem okL_snoc (l : List Val) (x : Val) : okL (l ++ [x]) = (okL l && x.okB) := by rw [okL_append, okL, okL, Bool.and_true]
theorem depthL_snoc (l : List Val) (x : Val) : depthL (l ++ [x]) = max (depthL l) x.depth := by rw [depthL_append, depthL, depthL, Nat.max_zero]
theorem okL_take {l : List Val} {k : Nat} (h : okL (l.take k) = false) : okL l = false := by
  rcases h2 : okL l with _ | _
  · rfl
  · have e := okL_append (l.take k) (l.drop k)
    rw [List.take_append_drop, h2, h, Bool.false_and] at e
    exact absurd e (by decide)

end Go.Proofs.Ytmbifmmkccghfaa

/-
  Slices whose elements lie in blocks of a given kind; append, clone and stores over them. No condition.
-/
namespace Go.Proofs.Ytmbifmmkccghfaa
open Go.RowKit

def SlP (w : World) (S : Nat → Prop) (size n : Nat) (g : Nat → Nat → Value) (v : Value) : Prop :=
  ∃ A c, v = .slice A n c ∧ n ≤ maxLen ∧ ∀ i, i < n → ∃ b off, A = some ⟨b, off, none⟩ ∧ S b ∧ b < w.heap.size ∧ ∀ j, j < size → w.cell? ⟨b, off + (i * size + j), none⟩ = some (g i j)
def Keeps (S : Nat → Prop) (w w' : World) : Prop := w.heap.size ≤ w'.heap.size ∧ ∀ b, S b → b < w.heap.size → w'.heap[b]? = w.heap[b]?
theorem Keeps.of {S : Nat → Prop} {w w' : World} (h : Below w.heap.size w w') : Keeps S w w' := ⟨h.size, fun b _ hb => h.block b hb⟩
theorem Keeps.refl (S : Nat → Prop) (w : World) : Keeps S w w := ⟨Nat.le_refl _, fun _ _ _ => rfl⟩
theorem Keeps.trans {S : Nat → Prop} {w w' w'' : World} (h : Keeps S w w') (k : Keeps S w' w'') : Keeps S w w'' :=
  ⟨Nat.le_trans h.1 k.1, fun b hS hb => (k.2 b hS (Nat.lt_of_lt_of_le hb h.1)).trans (h.2 b hS hb)⟩
theorem Keeps.set {S : Nat → Prop} (w : World) {a : Addr} (h : ¬ S a.block) (u : Value) : Keeps S w (w.setCell a u) :=
  ⟨by simp, fun b hS _ => Below.heap_setCell w a u b (fun e => h (e ▸ hS))⟩
theorem Keeps.row {S : Nat → Prop} (w : World) {g : Nat} (h : ¬ S g) (cs : Array Value) : Keeps S w (w.setRow g cs) :=
  ⟨by simp [World.setRow], fun b hS _ => setRow_other w g b cs (fun e => h (e ▸ hS))⟩
theorem Keeps.from {S : Nat → Prop} {B : Nat} {w w' : World} (h : Below B w w') (hS : ∀ b, S b → b < w.heap.size → b < B) : Keeps S w w' :=
  ⟨h.size, fun b hb hl => h.block b (hS b hb hl)⟩
theorem Keeps.grown {S : Nat → Prop} {w w' : World} {row : Option Nat} (h : w.grownBy w' row) (hr : ∀ k, row = some k → ¬ S k) : Keeps S w w' := by
  refine ⟨h.size, fun b hS hl => h.block b hl (fun e => ?_)⟩
  exact hr b e.symm hS

theorem SlP.keep {w w' : World} {S : Nat → Prop} {size n : Nat} {g : Nat → Nat → Value} {v : Value} (h : SlP w S size n g v) (hk : Keeps S w w') : SlP w' S size n g v := by
  obtain ⟨A, c, hv, hm, h1⟩ := h
  refine ⟨A, c, hv, hm, fun i hi => ?_⟩
  obtain ⟨b, off, ha, hb, hl, h3⟩ := h1 i hi
  exact ⟨b, off, ha, hb, Nat.lt_of_lt_of_le hl hk.1, fun j hj => by rw [World.cell?_of_block (w := w) (hk.2 b hb hl)]; exact h3 j hj⟩
theorem SlP.weak {w : World} {S S' : Nat → Prop} {size n : Nat} {g : Nat → Nat → Value} {v : Value} (h : SlP w S size n g v) (hk : ∀ b, S b → b < w.heap.size → S' b) : SlP w S' size n g v := by
  obtain ⟨A, c, hv, hm, h1⟩ := h
  refine ⟨A, c, hv, hm, fun i hi => ?_⟩
  obtain ⟨b, off, ha, hb, hl, h3⟩ := h1 i hi
  exact ⟨b, off, ha, hk b hb hl, hl, h3⟩
theorem SlP.sl {w : World} {S : Nat → Prop} {size n : Nat} {g : Nat → Nat → Value} {v : Value} (h : SlP w S size n g v) : Sl w w.heap.size size n g v := by
  obtain ⟨A, c, hv, hm, h1⟩ := h
  refine ⟨A, c, hv, hm, fun i hi => ?_⟩
  obtain ⟨b, off, ha, _, hb, h3⟩ := h1 i hi
  exact ⟨b, off, ha, hb, h3⟩
theorem SlP.congr {w : World} {S : Nat → Prop} {size n : Nat} {g h : Nat → Nat → Value} {v : Value} (hs : SlP w S size n g v) (he : ∀ i j, i < n → j < size → g i j = h i j) : SlP w S size n h v := by
  obtain ⟨A, c, hv, hm, h1⟩ := hs
  refine ⟨A, c, hv, hm, fun i hi => ?_⟩
  obtain ⟨b, off, ha, hb, hl, h3⟩ := h1 i hi
  exact ⟨b, off, ha, hb, hl, fun j hj => by rw [h3 j hj, he i j hi hj]⟩
theorem SlP.form {w : World} {S : Nat → Prop} {size n : Nat} {g : Nat → Nat → Value} {v : Value} (h : SlP w S size n g v) : ∃ A c, v = .slice A n c ∧ n ≤ maxLen := by
  obtain ⟨A, c, hv, hm, _⟩ := h
  exact ⟨A, c, hv, hm⟩
theorem slP_nil (w : World) (S : Nat → Prop) (size : Nat) (g : Nat → Nat → Value) : SlP w S size 0 g (.slice none 0 0) := ⟨none, 0, rfl, Nat.zero_le _, fun i hi => by omega⟩
theorem own_slp {w : World} {base e size n : Nat} {g : Nat → Nat → Value} {v : Value} (h : w.ownsRow base e size v n (flat n size g)) (hn : n ≤ maxLen) : SlP w (fun b => base ≤ b) size n g v ∧ SlF v := by
  obtain ⟨⟨A, c, hv, hm, h1⟩, hf⟩ := own_sl2 (D := 0) h hn
  refine ⟨⟨A, c, hv, hm, fun i hi => ?_⟩, hf⟩
  obtain ⟨b, off, ha, hb, hl, h3⟩ := h1 i hi
  exact ⟨b, off, ha, by omega, hl, h3⟩
theorem SlP.part {w : World} {S : Nat → Prop} {size n c : Nat} {g : Nat → Nat → Value} {b off : Nat} (h : SlP w S size n g (.slice (some ⟨b, off, none⟩) n c)) (i m c' : Nat) (him : i + m ≤ n) : SlP w S size m (fun k j => g (i + k) j) (.slice (some ⟨b, off + i * size, none⟩) m c') := by
  obtain ⟨A, c0, hv, hm, h1⟩ := h
  cases hv
  refine ⟨_, _, rfl, by omega, fun k hk => ?_⟩
  obtain ⟨b', off', ha, hb, hl, h3⟩ := h1 (i + k) (by omega)
  cases ha
  exact ⟨b, _, rfl, hb, hl, fun j hj => by rw [← h3 j hj]; congr 2; rw [Nat.add_mul]; omega⟩

section
variable {t e : TypeId} {i : TypeInfo} {z : Value} {size bytes : Nat}
end

theorem flat_congr' {n size : Nat} {g h : Nat → Nat → Value} (hs : 0 < size) (he : ∀ i j, i < n → j < size → g i j = h i j) : flat n size g = flat n size h := by
  apply List.map_congr_left
  intro j hj
  have hj := List.mem_range.1 hj
  exact he _ _ ((Nat.div_lt_iff_lt_mul hs).2 hj) (Nat.mod_lt _ hs)
theorem flat_one (n : Nat) (V : Nat → Value) : flat n 1 (fun i _ => V i) = (List.range n).map V := by simp [flat]
theorem own_set {w : World} {base e g i n c : Nat} {xs : List Value} (h : w.ownsRow base e 1 (.slice (some ⟨g, 0, none⟩) n c) n xs) (u : Value) :
    (w.setCell ⟨g, i, none⟩ u).ownsRow base e 1 (.slice (some ⟨g, 0, none⟩) n c) n (xs.set i u) := by
  obtain ⟨hl, h⟩ := h
  rcases h with ⟨h1, _⟩ | ⟨g', cap, cur, hv, hb, hg, hc, hcm, hs, hx⟩
  · cases h1
  · cases hv
    refine ⟨by simpa using hl, .inr ⟨g, c, cur.setIfInBounds i u, rfl, hb, ?_, hc, hcm, by simpa using hs, ?_⟩⟩
    · show (w.heap.modify g _)[g]? = _
      rw [Array.getElem?_modify, if_pos rfl, hg]
      simp
    · rw [← hx, Array.toList_setIfInBounds, Nat.mul_one, List.take_set]
noncomputable def copF (ats : Array TypeId) (ty : TypeId) (args : Array Value) : Sem Value := Builtin.copy_ ats ty args
theorem cop_named {ats : Array TypeId} {ty : TypeId} {cs : Array Bool} {args : Array Value} : builtin .copy ats ty cs args = (do pure (.value (← copF ats ty args))) := rfl

end Go.Proofs.Ytmbifmmkccghfaa

/-
  Slices of bytes as data; append onto a row of bytes that the call owns. No condition.
-/
namespace Go.Proofs.Ytmbifmmkccghfaa
open Go.RowKit

abbrev Bs := List UInt8
def BsAt (w : World) (S : Nat → Prop) (v : Value) (l : Bs) : Prop := SlF v ∧ SlP w S 1 l.length (fun i _ => .int .u8 ((l.getD i 0).toNat : Int)) v
theorem BsAt.keep {w w' : World} {S : Nat → Prop} {v : Value} {l : Bs} (h : BsAt w S v l) (hk : Keeps S w w') : BsAt w' S v l := ⟨h.1, h.2.keep hk⟩
theorem BsAt.weak {w : World} {S S' : Nat → Prop} {v : Value} {l : Bs} (h : BsAt w S v l) (hk : ∀ b, S b → b < w.heap.size → S' b) : BsAt w S' v l := ⟨h.1, h.2.weak hk⟩
theorem BsAt.form {w : World} {S : Nat → Prop} {v : Value} {l : Bs} (h : BsAt w S v l) : ∃ A c, v = .slice A l.length c ∧ l.length ≤ maxLen := h.2.form
theorem bsAt_nil (w : World) (S : Nat → Prop) : BsAt w S (.slice none 0 0) [] := ⟨.inl rfl, slP_nil w S 1 _⟩
theorem BsAt.cell {w : World} {S : Nat → Prop} {A : Option Addr} {n c : Nat} {l : Bs} (h : BsAt w S (.slice A n c) l) {k : Nat} (hk : k < l.length) :
    ∃ b off, A = some ⟨b, off, none⟩ ∧ S b ∧ b < w.heap.size ∧ w.cell? ⟨b, off + k, none⟩ = some (.int .u8 ((l.getD k 0).toNat : Int)) := by
  obtain ⟨_, A', c', hv, _, h1⟩ := h
  cases hv
  obtain ⟨b, off, rfl, hS, hb, h3⟩ := h1 k hk
  have := h3 0 (by omega)
  rw [Nat.mul_one, Nat.add_zero] at this
  exact ⟨b, off, rfl, hS, hb, this⟩

theorem Box.keep {w w' : World} {b D : Nat} {xs : List Value} (h : Box w b xs) (hb : b < D) (hB : Below D w w') : Box w' b xs := h.same (hB.block b hb)
theorem info_by : (Try.prog.info? 5).map (fun i => (i.zero, i.size, i.bytes)) = some (some (.int .u8 0), 1, 1) := by kernel_rfl
theorem elem_by : ∃ i, Elem 43 5 i (.int .u8 0) 1 1 := by
  obtain ⟨i, hi, h0, h1, h2⟩ := info_parts info_by
  exact ⟨i, Try.underlying43, hi, h0, h1, h2, rfl, by decide⟩
def byV (l : Bs) : List Value := l.map fun c => .int .u8 (c.toNat : Int)
theorem byV_length (l : Bs) : (byV l).length = l.length := by simp [byV]
theorem byV_append (l m : Bs) : byV (l ++ m) = byV l ++ byV m := by simp [byV]
theorem byV_flat (l : Bs) : flat l.length 1 (fun i _ => .int .u8 ((l.getD i 0).toNat : Int)) = byV l := by
  rw [flat_one]
  apply List.ext_getElem?
  intro i
  rcases Nat.lt_or_ge i l.length with hi | hi
  · simp [byV, hi]
  · simp [byV, hi]
def OwnBs (w : World) (base : Nat) (v : Value) (l : Bs) : Prop := w.ownsRow base 5 1 v l.length (byV l)
theorem OwnBs.bs {w : World} {base : Nat} {v : Value} {l : Bs} (h : OwnBs w base v l) (hm : l.length ≤ maxLen) : BsAt w (fun b => base ≤ b) v l := by
  unfold OwnBs at h
  rw [← byV_flat] at h
  obtain ⟨s, f⟩ := own_slp h hm
  exact ⟨f, s⟩
theorem OwnBs.form {w : World} {base : Nat} {v : Value} {l : Bs} (h : OwnBs w base v l) (h0 : 0 < l.length) : ∃ g c, v = .slice (some ⟨g, 0, none⟩) l.length c ∧ base ≤ g ∧ g < w.heap.size ∧ l.length ≤ c ∧ c ≤ maxLen := by
  rcases h.2 with ⟨_, h1⟩ | ⟨g, cap, cur, hv, hb, hg, hc, hcm, _⟩
  · omega
  · exact ⟨g, cap, hv, hb, (Array.getElem?_eq_some_iff.1 hg).1, hc, hcm⟩
theorem OwnBs.own {w : World} {base n c : Nat} {A : Option Addr} {l : Bs} (h : OwnBs w base (.slice A n c) l) (hl : l.length = n) (k : Nat) (hk : k < n) : ∃ b off, A = some ⟨b, off, none⟩ ∧ base ≤ b ∧ b < w.heap.size ∧ ∀ j, j < 1 → w.cell? ⟨b, off + (k * 1 + j), none⟩ = some (.int .u8 ((l.getD k 0).toNat : Int)) := by
  unfold OwnBs at h
  rw [hl, show byV l = flat n 1 (fun i _ => .int .u8 ((l.getD i 0).toNat : Int)) by rw [← hl, byV_flat]] at h
  rcases h.2 with ⟨h1, _⟩ | ⟨g, cap, cur, hv, hb, hg, hc, hcm, hs, hx⟩
  · injection h1 with _ h2; omega
  · cases hv
    have hlt : g < w.heap.size := (Array.getElem?_eq_some_iff.1 hg).1
    have hcell := h.cells (g := g) rfl
    refine ⟨g, 0, rfl, hb, hlt, fun j hj => ?_⟩
    have := hcell _ _ (flat_at (fun i _ => .int .u8 ((l.getD i 0).toNat : Int)) hk hj)
    rw [add_at] at this
    exact this
theorem strOfNums_bytes (l : Bs) : strOfNums (l.map fun x => (x.toNat : Int)) = strB l := by
  unfold strOfNums strB
  congr 1
  simp [List.map_map, Function.comp_def]
theorem BsAt.str {w : World} {S : Nat → Prop} {v : Value} {l : Bs} (h : BsAt w S v l) : (convert 43 9 v).run Try.prog w = .ok (.string (strB l)) w := by
  obtain ⟨_, A, c, rfl, hn, h1⟩ := h
  rcases A with _ | a
  · have hl : l = [] := by
      rcases l with _ | ⟨x, l⟩
      · rfl
      · obtain ⟨b, off, e, _⟩ := h1 0 (by simp)
        cases e
    subst hl
    rw [run_convert_bytes_nil w _ _ Try.underlying43 Try.underlying5 _ _ _ Try.underlying9]
    rfl
  · rcases Nat.eq_zero_or_pos l.length with h0 | h0
    · have hl : l = [] := List.eq_nil_of_length_eq_zero h0
      subst hl
      have hl : (loadCells a 0).run Try.prog w = .ok (([] : List Int).map (Value.int .u8)).toArray w := by simpa using run_loadCells_list (P := Try.prog) w a [] (fun j v hj => by simp at hj)
      rw [run_convert_bytes_string w _ _ _ _ _ _ Try.underlying43 Try.underlying5 Try.underlying9, List.length_nil, run_bytesToString w a 0 c [] hl]
      rfl
    · obtain ⟨b, off, e, _⟩ := h1 0 h0
      cases e
      rw [run_convert_bytes_arg w _ _ Try.underlying43 Try.underlying5 b off l.length c (l.map fun x => (x.toNat : Int)) (by simp) (fun i hi => ?_) _ Try.underlying9, strOfNums_bytes]
      obtain ⟨b', off', e', _, _, h3⟩ := h1 i hi
      cases e'
      have := h3 0 (by omega)
      rw [Nat.mul_one, Nat.add_zero] at this
      rw [this]
      simp [List.getD_eq_getElem?_getD, List.getElem?_eq_getElem hi]
theorem BsAt.row {w : World} {S : Nat → Prop} {A : Option Addr} {n c : Nat} {l : Bs} (h : BsAt w S (.slice A n c) l) (h0 : 0 < n) : ∃ b off, A = some ⟨b, off, none⟩ ∧ n ≤ c ∧ c ≤ maxLen ∧ S b ∧ b < w.heap.size := by
  obtain ⟨hf, A', c', hv, _, h1⟩ := h
  cases hv
  obtain ⟨b, off, rfl, hS, hb, _⟩ := h1 0 h0
  rcases hf with h2 | ⟨a, n', c'', h2, h3, h4⟩
  · cases h2
  · injection h2 with _ e1 e2
    exact ⟨b, off, rfl, by omega, by omega, hS, hb⟩
theorem OwnBs.form' {w : World} {base : Nat} {v : Value} {l : Bs} (h : OwnBs w base v l) : ∃ A c, v = .slice A l.length c := by
  rcases h.2 with ⟨h1, h2⟩ | ⟨g, cap, cur, hv, _⟩
  · exact ⟨none, 0, by rw [h1, h2]⟩
  · exact ⟨_, _, hv⟩

theorem strCells_byV (l : Bs) : Lib.strCells (strB l) = byV l := rfl
def Lies (w : World) (v V : Value) : Prop := V.ownBlock = v.ownBlock ∨ ∃ g, V.ownBlock = some g ∧ w.heap.size ≤ g
def RetApp (l : Bs) (base : Nat) (v : Value) (w : World) (e : Ending) (w' : World) : Prop := ∃ V, e = .returned V ∧ OwnBs w' base V l ∧ w.grownBy w' v.ownBlock ∧ Lies w v V
theorem grownBy_refl (w : World) (r : Option Nat) : w.grownBy w r := ⟨rfl, rfl, rfl, Nat.le_refl _, fun _ _ _ => rfl⟩
theorem grownBy_trans {w w1 w2 : World} {v V : Value} (h1 : w.grownBy w1 v.ownBlock) (hl : Lies w v V) (h2 : w1.grownBy w2 V.ownBlock) : w.grownBy w2 v.ownBlock := by
  refine ⟨h2.os.trans h1.os, h2.tape.trans h1.tape, h2.output.trans h1.output, Nat.le_trans h1.size h2.size, fun k hk hne => ?_⟩
  refine (h2.block k (Nat.lt_of_lt_of_le hk h1.size) fun e => ?_).trans (h1.block k hk hne)
  rcases hl with hl | ⟨g, hl, hg⟩
  · exact hne (e.trans hl)
  · rw [hl] at e
    cases e
    omega
theorem Lies.refl (w : World) (v : Value) : Lies w v v := .inl rfl
theorem Lies.trans {w w1 : World} {v V V2 : Value} (h1 : Lies w v V) (hs : w.heap.size ≤ w1.heap.size) (h2 : Lies w1 V V2) : Lies w v V2 := by
  rcases h2 with h2 | ⟨g, h2, hg⟩
  · rcases h1 with h1 | ⟨g, h1, hg⟩
    · exact .inl (h2.trans h1)
    · exact .inr ⟨g, h2.trans h1, hg⟩
  · exact .inr ⟨g, h2, by omega⟩
theorem grownBy_below {w w1 w2 : World} {v : Value} (h1 : Below w.heap.size w w1) (h2 : w1.grownBy w2 v.ownBlock) : w.grownBy w2 v.ownBlock :=
  ⟨h2.os.trans h1.os, h2.tape.trans h1.tape, h2.output.trans h1.output, Nat.le_trans h1.size h2.size, fun k hk hne => (h2.block k (Nat.lt_of_lt_of_le hk h1.size) hne).trans (h1.block k hk)⟩
theorem Lies.below {w w1 : World} {v V : Value} (h1 : Below w.heap.size w w1) (h : Lies w1 v V) : Lies w v V := by
  rcases h with h | ⟨g, h, hg⟩
  · exact .inl h
  · exact .inr ⟨g, h, Nat.le_trans h1.size hg⟩
theorem OwnBs.lt {w : World} {base : Nat} {v : Value} {l : Bs} (h : OwnBs w base v l) {k : Nat} (hk : v.ownBlock = some k) : base ≤ k ∧ k < w.heap.size := World.ownsRow.lt h k hk
theorem OwnBs.below {w w1 : World} {base : Nat} {v : Value} {l : Bs} (h : OwnBs w base v l) (hb : Below w.heap.size w w1) : OwnBs w1 base v l := by
  obtain ⟨hl, h⟩ := h
  refine ⟨hl, ?_⟩
  rcases h with h | ⟨g, cap, cur, hv, hbg, hg, hr⟩
  · exact .inl h
  · exact .inr ⟨g, cap, cur, hv, hbg, (hb.block g (Array.getElem?_eq_some_iff.1 hg).1).trans hg, hr⟩
theorem Box.grown {w w' : World} {b : Nat} {xs : List Value} {v : Value} (h : Box w b xs) (hg : w.grownBy w' v.ownBlock) (hne : some b ≠ v.ownBlock) : Box w' b xs := h.same (hg.block b h.lt hne)
theorem below_grown {B : Nat} {a w w' : World} {base : Nat} {v : Value} {l : Bs} (h : Below B a w) (ho : OwnBs w base v l) (hB : B ≤ base) (hbs : B ≤ w.heap.size) (hg : w.grownBy w' v.ownBlock) : Below B a w' :=
  h.grown hg hbs fun k hk => Nat.le_trans hB (ho.lt hk).1

theorem nilOwn (w : World) (base : Nat) : OwnBs w base (.slice none 0 0) [] := ⟨rfl, .inl ⟨rfl, rfl⟩⟩
theorem app_one {w : World} {base bb : Nat} {v : Value} {l : Bs} (x : UInt8) (ho : OwnBs w base v l) (hX : Box w bb [.int .u8 (x.toNat : Int)]) (hbase : base ≤ w.heap.size) (hl : l.length ≤ 1000000000) :
    ∃ v' w', (appF #[43, 43] 43 #[v, .slice (some ⟨bb, 0, none⟩) 1 1]).run Try.prog w = .ok v' w' ∧ OwnBs w' base v' (l ++ [x]) ∧ w.grownBy w' v.ownBlock ∧ Lies w v v' := by
  obtain ⟨i, E⟩ := elem_by
  obtain ⟨v', w', hr, ho2, hg, _, hlies⟩ := run_append_own_at (P := Try.prog) w base 43 43 5 i (.int .u8 0) 1 1 E.ht E.hi E.hz E.hsize E.hby E.hzs E.hsz v l.length (byV l) ho ⟨bb, 0, none⟩ 1 1 [.int .u8 (x.toNat : Int)] rfl
    (fun j u hu => by
      rcases j with _ | j
      · cases hu
        exact hX.cell 0
      · cases hu)
    (fun u hu => by
      rw [List.mem_singleton] at hu
      subst hu
      rfl) (by simp only [maxLen]; omega) (by omega) hbase
  refine ⟨v', w', hr, ?_, hg, hlies.imp id fun h => ⟨_, h, Nat.le_refl _⟩⟩
  unfold OwnBs
  rw [List.length_append, byV_append]
  exact ho2
theorem app_bytes {w : World} {base : Nat} {v x : Value} {S : Nat → Prop} {l y : Bs} (ho : OwnBs w base v l) (hy : BsAt w S x y) (hbase : base ≤ w.heap.size) (hl : l.length + y.length ≤ 1000000000) :
    ∃ v' w', (appF #[43, 43] 43 #[v, x]).run Try.prog w = .ok v' w' ∧ OwnBs w' base v' (l ++ y) ∧ w.grownBy w' v.ownBlock ∧ Lies w v v' := by
  obtain ⟨i, E⟩ := elem_by
  obtain ⟨hf, hs⟩ := hy
  rcases hf with rfl | ⟨a, k, c, rfl, _, _⟩
  · have hl0 := hs.sl.none_zero.2
    obtain rfl : y = [] := List.eq_nil_of_length_eq_zero hl0
    exact ⟨v, w, run_append_owned_none (P := Try.prog) (w := w) base 43 43 5 i 1 E.ht E.hi v l.length _ ho, by rw [List.append_nil]; exact ho, grownBy_refl _ _, .inl rfl⟩
  · obtain ⟨rfl, hm, hsrc⟩ := hs.sl.src E.hsz
    rw [byV_flat] at hsrc
    obtain ⟨v', w', hr, ho2, hg, _, hlies⟩ := run_append_own_at (P := Try.prog) w base 43 43 5 i (.int .u8 0) 1 1 E.ht E.hi E.hz E.hsize E.hby E.hzs E.hsz v l.length (byV l) ho a y.length c (byV y) (by rw [byV_length, Nat.mul_one]) hsrc
      (fun u hu => by obtain ⟨b, _, rfl⟩ := List.mem_map.1 hu; rfl) (by simp only [maxLen]; omega) (by omega) hbase
    refine ⟨v', w', hr, ?_, hg, hlies.imp id fun h => ⟨_, h, Nat.le_refl _⟩⟩
    unfold OwnBs
    rw [List.length_append, byV_append]
    exact ho2
theorem app_str {w : World} {base : Nat} {v : Value} {l s : Bs} (ho : OwnBs w base v l) (hbase : base ≤ w.heap.size) (hl : l.length + s.length ≤ 1000000000) :
    ∃ v' w', (appF #[43, 9] 43 #[v, .string (strB s)]).run Try.prog w = .ok v' w' ∧ OwnBs w' base v' (l ++ s) ∧ w.grownBy w' v.ownBlock ∧ Lies w v v' := by
  obtain ⟨i, E⟩ := elem_by
  have hsz : (strB s).size = s.length := rfl
  obtain ⟨v', w', hr, ho2, hg, _⟩ := Lib.run_append_own_string (P := Try.prog) w base 43 9 43 5 i E.ht Try.underlying9 E.hi E.hz E.hsize E.hby v l.length (byV l) ho (strB s) (by rw [hsz]; simp only [maxLen]; omega) (by rw [hsz]; omega) hbase
  rw [hsz, strCells_byV, ← byV_append] at ho2
  refine ⟨v', w', hr, ?_, hg, ?_⟩
  · unfold OwnBs
    rw [List.length_append]
    exact ho2
  · rcases ho.2 with ⟨rfl, h0⟩ | ⟨g, cap, cur, rfl, hbg, hgg, hnc, hcm, hcs, htake⟩
    · rcases Nat.eq_zero_or_pos s.length with h1 | h1
      · obtain rfl : s = [] := List.eq_nil_of_length_eq_zero h1
        obtain rfl : l = [] := List.eq_nil_of_length_eq_zero h0
        rcases ho2.2 with ⟨rfl, _⟩ | ⟨g, cap, cur, rfl, hbg, hgg, _⟩
        · exact .inl rfl
        · refine .inr ⟨g, rfl, ?_⟩
          rcases Nat.lt_or_ge g w.heap.size with hlt | hge
          · exfalso
            have hf := Lib.run_firstCells_string (P := Try.prog) w 1 (strB [])
            have hr2 : (appF #[43, 9] 43 #[.slice none 0 0, .string (strB [])]).run Try.prog w = .ok (.slice none 0 0) w := by
              have hz : (strB []).size = 0 := rfl
              rw [hz] at hf
              simp [appF, Builtin.append_, run_underlying Try.underlying43, run_underlying Try.underlying9, sizeOf, typeInfo, E.hi, E.hsize, Builtin.lenOf, hz, hf]
            have := hr.symm.trans hr2
            injection this with h3
            cases h3
          · exact hge
      · have hr2 := run_append_nil_string (P := Try.prog) w 43 9 43 5 i (.int .u8 0) E.ht Try.underlying9 E.hi E.hz (strB s) (by rw [hsz]; exact h1) (by rw [hsz]; omega) (by rw [hsz, E.hby]; omega)
        have := hr.symm.trans hr2
        injection this with h3
        rw [h3]
        exact .inr ⟨_, rfl, Nat.le_refl _⟩
    · have hcs' : cur.size = cap := by simpa using hcs
      by_cases hroom : l.length + (strB s).size ≤ cap
      · have hr2 := Lib.run_append_room_string (P := Try.prog) w 43 9 43 5 i E.ht Try.underlying9 E.hi E.hsize g l.length cap cur hgg (strB s) hroom (by omega)
        have := hr.symm.trans hr2
        injection this with h3
        rw [h3]
        exact .inl rfl
      · have hr2 := Lib.run_append_grow_string (P := Try.prog) w 43 9 43 5 i (.int .u8 0) E.ht Try.underlying9 E.hi E.hz ⟨g, 0, none⟩ l.length cap (byV l) (by rw [E.hsize, byV_length, Nat.mul_one]) (World.ownsRow.cells ho (g := g) rfl) (strB s) (by omega) (by rw [hsz]; omega) (by rw [E.hby]; exact growslice_fits (by omega) (by rw [hsz]; omega))
        have := hr.symm.trans hr2
        injection this with h3
        rw [h3]
        exact .inr ⟨_, rfl, Nat.le_refl _⟩

end Go.Proofs.Ytmbifmmkccghfaa

/-
  Numerals as data, and the facts on bits that their functions need. No condition.
-/
namespace Go.Proofs.Ytmbifmmkccghfaa
open Go.RowKit

def numT (u : Nat) : Bs := if u < 128 then [UInt8.ofNat u] else UInt8.ofNat (u % 128 + 128) :: numT (u / 128)
decreasing_by omega
theorem numT_small {u : Nat} (h : u < 128) : numT u = [UInt8.ofNat u] := by rw [numT, if_pos h]
theorem numT_big {u : Nat} (h : ¬ u < 128) : numT u = UInt8.ofNat (u % 128 + 128) :: numT (u / 128) := by rw [numT, if_neg h]
theorem numT_len (k : Nat) : ∀ u : Nat, u < 128 ^ k → 0 < k → (numT u).length ≤ k := by
  induction k with
  | zero => intro u _ h; omega
  | succ k ih =>
    intro u hu _
    by_cases h : u < 128
    · rw [numT_small h]; simp
    · rw [numT_big h, List.length_cons]
      rw [Nat.pow_succ] at hu
      have h2 : u / 128 < 128 ^ k := by omega
      have hk : 0 < k := by
        rcases Nat.eq_zero_or_pos k with rfl | hk
        · simp at h2; omega
        · exact hk
      have := ih _ h2 hk
      omega
theorem numT_le {u : Nat} (h : u < 18446744073709551616) : (numT u).length ≤ 10 := numT_len 10 u (by omega) (by decide)
theorem u8_nat {n : Nat} (h : n < 256) : ((UInt8.ofNat n).toNat : Int) = (n : Int) := by
  have : (UInt8.ofNat n).toNat = n := by simp; omega
  rw [this]
theorem or_128 : ∀ n : Fin 256, bits .or .u8 (n.val : Int) 128 = ((n.val % 128 + 128 : Nat) : Int) := by decide +kernel
theorem or_byte (u : Nat) : bits .or .u8 ((u : Int) % 256) 128 = ((UInt8.ofNat (u % 128 + 128)).toNat : Int) := by
  rw [u8_nat (by omega)]
  have h := or_128 ⟨u % 256, by omega⟩
  have e1 : ((u % 256 : Nat) : Int) = (u : Int) % 256 := by omega
  have e2 : u % 256 % 128 + 128 = u % 128 + 128 := by omega
  dsimp only at h
  rw [e1, e2] at h
  exact h

def zig (n : Int) : Nat := if 0 ≤ n then (2 * n).toNat else (-2 * n - 1).toNat
def zag (u : Nat) : Int := if u % 2 = 1 then -((u / 2 : Nat) : Int) - 1 else ((u / 2 : Nat) : Int)
theorem zig_lt {n : Int} (h1 : -9223372036854775808 ≤ n) (h2 : n ≤ 9223372036854775807) : zig n < 18446744073709551616 := by
  unfold zig; split <;> omega
theorem zag_zig (n : Int) : zag (zig n) = n := by
  unfold zig zag
  split
  · rw [if_neg (by omega)]; omega
  · rw [if_pos (by omega)]; omega
theorem zig_zag (u : Nat) : zig (zag u) = u := by
  unfold zig zag
  by_cases h : u % 2 = 1
  · rw [if_pos h, if_neg (by omega)]; omega
  · rw [if_neg h, if_pos (by omega)]; omega
theorem zag_range {u : Nat} (h : u < 18446744073709551616) : -9223372036854775808 ≤ zag u ∧ zag u ≤ 9223372036854775807 := by
  unfold zag; split <;> omega
theorem nat_xor_ones {a : Nat} (h : a < 18446744073709551616) : a ^^^ 18446744073709551615 = 18446744073709551615 - a := by
  have e : BitVec.ofNat 64 a ^^^ BitVec.allOnes 64 = ~~~ (BitVec.ofNat 64 a) := BitVec.xor_allOnes
  have e2 := congrArg BitVec.toNat e
  rw [BitVec.toNat_xor, BitVec.toNat_not, BitVec.toNat_ofNat, BitVec.toNat_allOnes, Nat.mod_eq_of_lt (by omega)] at e2
  exact e2

end Go.Proofs.Ytmbifmmkccghfaa

/-
  Contracts of numeral, unsigned and signed of codec, and of unsigned of the reference. No condition.
-/
namespace Go.Proofs.Ytmbifmmkccghfaa
open Go.RowKit
attribute [local go_sem ↓ high] app_named

set_option maxRecDepth 100000 in
set_option maxHeartbeats 2000000 in
theorem cNumeral_any (u : Nat) (hu : u < 18446744073709551616) (base : Nat) (v : Value) (l : Bs) (w : World) (ho : OwnBs w base v l) (hbase : base ≤ w.heap.size) (hl : l.length ≤ 100000000) :
    Calls Try.prog 96 #[v, .int .u64 u] w (RetApp (l ++ numT u) base v w) := by
  have hlen := numT_le hu
  have HU := Lib.hid hu
  have hO := Lib.hid ho
  have hG := grownBy_refl w v.ownBlock
  have hL := Lies.refl w v
  have HL := Lib.hid hl
  have hlen2 : (l ++ numT u).length ≤ 100000010 := by rw [List.length_append]; omega
  obtain ⟨T, hT⟩ : ∃ T, l ++ numT u = T := ⟨_, rfl⟩
  rw [hT] at hlen2 ⊢
  have HT := Lib.hid hT
  clear hT hl ho hlen hu
  go_enter Try.func96, Try.ntmps96
  go_wp2
  go_loopw [0, 1] (fun b x wr => ∃ (V : Value) (un : Nat) (pre : Bs), b = V ∧ x = .int .u64 un ∧ Hid (un < 18446744073709551616) ∧ Hid (pre ++ numT un = T) ∧ Hid (OwnBs wr base V pre) ∧ w.grownBy wr v.ownBlock ∧ Lies w v V) (fun _ x _ => (intOf x).toNat)
  case atStart => exact ⟨v, u, l, rfl, rfl, HU, HT, hO, hG, hL⟩
  case round =>
    clear hO hG hL HU HL HT
    obtain ⟨V, un, pre, hVe, rfl, HU, HT, hO, hG, hL⟩ := hrel
    replace hVe := hVe.symm
    subst hVe
    have hpl : pre.length ≤ 100000010 := by
      have := congrArg List.length HT.out
      rw [List.length_append] at this
      omega
    have hbw := Nat.le_trans hbase hG.size
    have hun := HU.out
    have e1 : ∀ x : UInt8, ∃ v' w', (appF #[43, 43] 43 #[V, .slice (some ⟨wr.heap.size, 0, none⟩) 1 1]).run Try.prog (wr.alloc (.cells #[.int .u8 (x.toNat : Int)] 5)) = .ok v' w' ∧ OwnBs w' base v' (pre ++ [x]) ∧ w.grownBy w' v.ownBlock ∧ Lies w v v' := by
      intro x
      have hst := (Below.refl wr.heap.size wr).alloc (Nat.le_refl _) (.cells #[.int .u8 (x.toNat : Int)] 5)
      obtain ⟨v', w', hr, h1, h2, h3⟩ := app_one x (hO.out.below hst) (Box.new wr [.int .u8 (x.toNat : Int)] 5) (Nat.le_trans hbw hst.size) (by omega)
      exact ⟨v', w', hr, h1, grownBy_trans hG hL (grownBy_below hst h2), hL.trans hG.size (h3.below hst)⟩
    by_cases hlt : un < 128
    · obtain ⟨v', w', hr, h1, h2, h3⟩ := e1 (UInt8.ofNat un)
      rw [u8_nat (by omega)] at hr
      have HR : Hid (RetApp T base v w (.returned v') w') := ⟨v', rfl, by rw [← HT.out, numT_small hlt]; exact h1, h2, h3⟩
      clear h1 h2 h3 hO HT e1 hL hG HU hun hpl
      go_wp2
      go_ret
      exact HR.out
    · obtain ⟨v', w', hr, h1, h2, h3⟩ := e1 (UInt8.ofNat (un % 128 + 128))
      have hob := or_byte un
      rw [← hob] at hr
      have HT2 : Hid ((pre ++ [UInt8.ofNat (un % 128 + 128)]) ++ numT (un / 128) = T) := by
        rw [Hid, ← HT.out, numT_big hlt, List.append_assoc]
        rfl
      have HO2 := Lib.hid h1
      have HU2 : Hid (un / 128 < 18446744073709551616) := by rw [Hid]; omega
      clear h1 hO HT e1 hL hG HU hob
      have hn : 128 ≤ un := by omega
      clear hun
      go_wp2
      refine ⟨⟨v', un / 128, _, rfl, ?_, HU2, HT2, HO2, h2, h3⟩, ?_⟩
      · simp
      · simp [intOf]; omega

theorem wrap_u64' (n : Int) : IntKind.u64.wrap n = n % 18446744073709551616 := IntKind.wrap_u64 n
set_option maxHeartbeats 1000000 in
theorem cUnsigned_any (n : Int) (w : World) (h1 : -9223372036854775808 ≤ n) (h2 : n ≤ 9223372036854775807) :
    Calls Try.prog 97 #[.int .i64 n] w fun e w' => e = .returned (.int .u64 (zig n)) ∧ w = w' := by
  by_cases h0 : 0 ≤ n
  · have hz : bits .xor .u64 (n * 2) (n / 9223372036854775808) = (zig n : Int) := by
      have e1 : n * 2 = ((2 * n).toNat : Int) := by omega
      have e2 : n / 9223372036854775808 = ((0 : Nat) : Int) := by omega
      rw [e1, e2, bits_xor_u64_nat _ _ (by omega) (by decide), Nat.xor_zero, zig, if_pos h0]
    have HZ := Lib.hid hz
    clear hz
    go_enter Try.func97, Try.ntmps97
    go_wp2
    go_ret
    exact ⟨by rw [← HZ.out]; rfl, rfl⟩
  · have hz : bits .xor .u64 (IntKind.u64.wrap (IntKind.u64.wrap n * 2)) (IntKind.u64.wrap (n / 9223372036854775808)) = (zig n : Int) := by
      have e1 : IntKind.u64.wrap (IntKind.u64.wrap n * 2) = ((2 * n + 18446744073709551616).toNat : Int) := by rw [wrap_u64', wrap_u64']; omega
      have e2 : IntKind.u64.wrap (n / 9223372036854775808) = ((18446744073709551615 : Nat) : Int) := by rw [wrap_u64']; omega
      rw [e1, e2, bits_xor_u64_nat _ _ (by omega) (by decide), nat_xor_ones (by omega), zig, if_neg h0]
      omega
    have HZ := Lib.hid hz
    clear hz
    go_enter Try.func97, Try.ntmps97
    go_wp2
    go_ret
    exact ⟨by rw [← HZ.out]; rfl, rfl⟩

theorem bits_xor_i64_zero {a : Nat} (h : a < 9223372036854775808) : bits .xor .i64 (a : Int) 0 = (a : Int) := by
  show IntKind.i64.wrap ((BitVec.ofInt 64 (a : Int) ^^^ BitVec.ofInt 64 0).toNat : Int) = _
  have e : BitVec.ofInt 64 0 = 0#64 := rfl
  rw [e, BitVec.xor_zero, BitVec.ofInt_natCast, BitVec.toNat_ofNat, Nat.mod_eq_of_lt (by omega)]
  simp [IntKind.wrap, IntKind.bits, IntKind.signed]
  omega
theorem bits_xor_i64_ones {a : Nat} (h : a < 9223372036854775808) : bits .xor .i64 (a : Int) (-1) = -(a : Int) - 1 := by
  show IntKind.i64.wrap ((BitVec.ofInt 64 (a : Int) ^^^ BitVec.ofInt 64 (-1)).toNat : Int) = _
  have e : BitVec.ofInt 64 (-1) = BitVec.allOnes 64 := by decide
  rw [e, BitVec.xor_allOnes, BitVec.toNat_not, BitVec.ofInt_natCast, BitVec.toNat_ofNat, Nat.mod_eq_of_lt (by omega)]
  simp [IntKind.wrap, IntKind.bits, IntKind.signed]
  omega
theorem and_one (u : Nat) (h : u < 18446744073709551616) : bits .and .u64 (u : Int) 1 = ((u % 2 : Nat) : Int) := by
  have := bits_and_u64_nat u 1 h (by decide)
  rw [Nat.and_one_is_mod] at this
  exact this
set_option maxHeartbeats 1000000 in
theorem cSigned_any (u : Nat) (w : World) (h : u < 18446744073709551616) :
    Calls Try.prog 102 #[.int .u64 u] w fun e w' => e = .returned (.int .i64 (zag u)) ∧ w = w' := by
  have hz : bits .xor .i64 ((u : Int) / 2) (wrap64 (-wrap64 (bits .and .u64 (u : Int) 1))) = zag u := by
    rw [and_one u h]
    have e1 : (u : Int) / 2 = ((u / 2 : Nat) : Int) := by omega
    rw [e1, zag]
    by_cases h2 : u % 2 = 1
    · have e2 : wrap64 (-wrap64 ((u % 2 : Nat) : Int)) = -1 := by rw [h2]; simp [wrap64]
      rw [if_pos h2, e2, bits_xor_i64_ones (by omega)]
    · have h3 : u % 2 = 0 := by omega
      have e2 : wrap64 (-wrap64 ((u % 2 : Nat) : Int)) = 0 := by rw [h3]; simp [wrap64]
      rw [if_neg h2, e2, bits_xor_i64_zero (by omega)]
  have HZ := Lib.hid hz
  clear hz
  go_enter Try.func102, Try.ntmps102
  go_wp2
  go_ret
  exact ⟨by rw [← HZ.out]; rfl, rfl⟩

set_option maxHeartbeats 1000000 in
theorem rUnsigned_any (n : Int) (w : World) (h1 : -9223372036854775808 ≤ n) (h2 : n ≤ 9223372036854775807) :
    Calls Try.prog 91 #[.int .i64 n] w fun e w' => e = .returned (.int .u64 (zig n)) ∧ w = w' := by
  by_cases h0 : 0 ≤ n
  · have HZ : Hid (2 * n = (zig n : Int)) := by rw [Hid, zig, if_pos h0]; omega
    go_enter Try.func91, Try.ntmps91
    go_wp2
    go_ret
    exact ⟨by rw [← HZ.out]; rfl, rfl⟩
  · have HZ : Hid (2 * -(n + 1) + 1 = (zig n : Int)) := by rw [Hid, zig, if_neg h0]; omega
    go_enter Try.func91, Try.ntmps91
    go_wp2
    go_ret
    exact ⟨by rw [← HZ.out]; rfl, rfl⟩

end Go.Proofs.Ytmbifmmkccghfaa

/-
  Contracts of formed and Check of codec. No condition.
-/
namespace Go.Proofs.Ytmbifmmkccghfaa
open Go.RowKit

def formT (x : Val) : Int × Bool := if x.okB = true then ((x.depth : Int), true) else (0, false)

theorem isEmpty_iff {s : List UInt8} : s.isEmpty = decide (s = []) := by cases s <;> rfl
theorem len_isEmpty {l : List Val} : l.isEmpty = decide (l.length = 0) := by cases l <;> rfl

set_option maxRecDepth 100000 in
set_option maxHeartbeats 2000000 in
theorem cFormed_other (k n : Int) (s : List UInt8) (A : Option Addr) (m c : Nat) (w : World) (h : k < 1 ∨ 3 < k) :
    Calls Try.prog 94 #[.agg #[.int .i64 k, .int .i64 n, .string (strB s), .slice A m c]] w fun e w' => e = .returned (.tuple #[.int .i64 0, .bool false]) ∧ Below w.heap.size w w' := by
  have hs := strB_toList s
  generalize strB s = b at *
  rcases h with h | h
  all_goals
    go_enter Try.func94, Try.ntmps94
    go_wp2
    all_goals first
      | omega
      | (go_ret2
         exact ⟨rfl, ((Below.refl _ _).alloc (Nat.le_refl _) _).alloc (by simp) _⟩)

set_option maxRecDepth 100000 in
set_option maxHeartbeats 2000000 in
theorem cFormed_1 (n : Int) (s : List UInt8) (A : Option Addr) (m c : Nat) (w : World) (hm : m ≤ 9223372036854775807) :
    Calls Try.prog 94 #[.agg #[.int .i64 1, .int .i64 n, .string (strB s), .slice A m c]] w fun e w' => e = .returned (.tuple #[.int .i64 0, .bool (decide (s = []) && decide (m = 0))]) ∧ Below w.heap.size w w' := by
  have hs := strB_toList s
  generalize strB s = b at *
  subst hs
  by_cases h1 : b.toList = []
  · by_cases h2 : m = 0
    · subst h2
      rw [h1]
      go_enter Try.func94, Try.ntmps94
      go_wp2
      all_goals
        go_ret2
        exact ⟨by simp, ((Below.refl _ _).alloc (Nat.le_refl _) _).alloc (by simp) _⟩
    · have e : (decide (b.toList = []) && decide (m = 0)) = false := by simp [h2]
      rw [e]
      have h3 : ((m : Int) == 0) = false := by simp; omega
      go_enter Try.func94, Try.ntmps94
      go_wp2
      all_goals
        go_ret2
        exact ⟨by simp, ((Below.refl _ _).alloc (Nat.le_refl _) _).alloc (by simp) _⟩
  · have e : (decide (b.toList = []) && decide (m = 0)) = false := by simp [h1]
    rw [e]
    clear e
    go_enter Try.func94, Try.ntmps94
    go_wp2
    all_goals
      go_ret2
      exact ⟨by simp, ((Below.refl _ _).alloc (Nat.le_refl _) _).alloc (by simp) _⟩

set_option maxRecDepth 100000 in
set_option maxHeartbeats 2000000 in
theorem cFormed_2 (n : Int) (s : List UInt8) (A : Option Addr) (m c : Nat) (w : World) (hm : m ≤ 9223372036854775807) :
    Calls Try.prog 94 #[.agg #[.int .i64 2, .int .i64 n, .string (strB s), .slice A m c]] w fun e w' => e = .returned (.tuple #[.int .i64 0, .bool (decide (n = 0) && decide (m = 0))]) ∧ Below w.heap.size w w' := by
  generalize strB s = b at *
  by_cases h1 : n = 0
  · subst h1
    by_cases h2 : m = 0
    · subst h2
      go_enter Try.func94, Try.ntmps94
      go_wp2
      all_goals
        go_ret2
        exact ⟨by simp, ((Below.refl _ _).alloc (Nat.le_refl _) _).alloc (by simp) _⟩
    · have e : (decide ((0 : Int) = 0) && decide (m = 0)) = false := by simp [h2]
      rw [e]
      have h3 : ((m : Int) == 0) = false := by simp; omega
      go_enter Try.func94, Try.ntmps94
      go_wp2
      all_goals
        go_ret2
        exact ⟨by simp, ((Below.refl _ _).alloc (Nat.le_refl _) _).alloc (by simp) _⟩
  · have e : (decide (n = 0) && decide (m = 0)) = false := by simp [h1]
    rw [e]
    clear e
    go_enter Try.func94, Try.ntmps94
    go_wp2
    all_goals
      go_ret2
      exact ⟨by simp, ((Below.refl _ _).alloc (Nat.le_refl _) _).alloc (by simp) _⟩

set_option maxRecDepth 100000 in
set_option maxHeartbeats 2000000 in
theorem cFormed_3no (n : Int) (s : List UInt8) (A : Option Addr) (m c : Nat) (w : World) (h : Hid (n ≠ 0 ∨ s ≠ [])) :
    Calls Try.prog 94 #[.agg #[.int .i64 3, .int .i64 n, .string (strB s), .slice A m c]] w fun e w' => e = .returned (.tuple #[.int .i64 0, .bool false]) ∧ Below w.heap.size w w' := by
  have hs := strB_toList s
  generalize strB s = b at *
  subst hs
  by_cases h1 : n = 0
  · have h2 : b.toList.isEmpty = false := by
      rcases h.out with h | h
      · exact absurd h1 h
      · cases hb : b.toList with
        | nil => exact absurd hb h
        | cons => rfl
    subst h1
    clear h
    go_enter Try.func94, Try.ntmps94
    go_wp2
    all_goals
      go_ret2
      exact ⟨rfl, ((Below.refl _ _).alloc (Nat.le_refl _) _).alloc (by simp) _⟩
  · clear h
    go_enter Try.func94, Try.ntmps94
    go_wp2
    all_goals
      go_ret2
      exact ⟨rfl, ((Below.refl _ _).alloc (Nat.le_refl _) _).alloc (by simp) _⟩


end Go.Proofs.Ytmbifmmkccghfaa
