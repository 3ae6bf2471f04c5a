/-
  Values of chapter 1 as plain data, and what the functions compute. No condition.
-/
import Derived.Test.YtcokkloaljaanaaKA
namespace Go.Proofs.Ytcokkloaljaanaa
open Go.RowKit

inductive Val where
  | mk (kind num : Int) (str : List UInt8) (elems : List Val)
def Val.kind : Val → Int | .mk k _ _ _ => k
def Val.num : Val → Int | .mk _ n _ _ => n
def Val.str : Val → List UInt8 | .mk _ _ s _ => s
def Val.elems : Val → List Val | .mk _ _ _ l => l
def Val.zero : Val := .mk 0 0 [] []

mutual
/-- Is a value well-formed? -/
def Val.okB : Val → Bool
  | .mk k n s l => if k = 1 then s.isEmpty && l.isEmpty else if k = 2 then decide (n = 0) && l.isEmpty else if k = 3 then decide (n = 0) && (s.isEmpty && okL l) else false
def okL : List Val → Bool
  | [] => true
  | x :: l => x.okB && okL l
end
mutual
/-- The depth of a value. -/
def Val.depth : Val → Nat
  | .mk k _ _ l => if k = 3 then depthL l + 1 else 0
def depthL : List Val → Nat
  | [] => 0
  | x :: l => max x.depth (depthL l)
end
mutual
/-- How far slices are nested in a value. -/
def Val.nest : Val → Nat
  | .mk _ _ _ l => nestL l
def nestL : List Val → Nat
  | [] => 0
  | x :: l => max (x.nest + 1) (nestL l)
end
theorem okL_all (l : List Val) : okL l = l.all Val.okB := by
  induction l with
  | nil => rfl
  | cons x l ih => rw [okL, List.all_cons, ih]
theorem okL_append (l m : List Val) : okL (l ++ m) = (okL l && okL m) := by rw [okL_all, okL_all, okL_all, List.all_append]
theorem depthL_append (l m : List Val) : depthL (l ++ m) = max (depthL l) (depthL m) := by
  induction l with
  | nil => rw [List.nil_append, depthL, Nat.max_eq_right (Nat.zero_le _)]
  | cons x l ih => rw [List.cons_append, depthL, depthL, ih, Nat.max_assoc]
theorem nest_mem {x : Val} {l : List Val} (h : x ∈ l) : x.nest + 1 ≤ nestL l := by
  induction l with
  | nil => cases h
  | cons y l ih =>
    rw [nestL]
    rcases List.mem_cons.1 h with rfl | h
    · exact Nat.le_max_left _ _
    · exact Nat.le_trans (ih h) (Nat.le_max_right _ _)
theorem Val.nest_elems (x : Val) : x.nest = nestL x.elems := by cases x; rw [Val.nest]; rfl
mutual
theorem Val.depth_nest : ∀ x : Val, x.depth ≤ x.nest + 1
  | .mk k n s l => by
    have := depthL_nest l
    rw [Val.depth, Val.nest]
    split <;> omega
theorem depthL_nest : ∀ l : List Val, depthL l ≤ nestL l
  | [] => by rw [depthL]; exact Nat.zero_le _
  | x :: l => by
    have h1 := Val.depth_nest x
    have h2 := depthL_nest l
    rw [depthL, nestL]
    omega
end

def strB (l : List UInt8) : ByteArray := ⟨l.toArray⟩
theorem strB_toList (l : List UInt8) : (strB l).toList = l := by rw [ByteArray.toList_eq]; rfl
/-- The value as the model has it, its elements in the slice L. -/
abbrev Val.v (x : Val) (L : Value) : Value := .agg #[.int .i64 x.kind, .int .i64 x.num, .string (strB x.str), L]
def valCells (l : List Val) (V : Nat → Value) (i j : Nat) : Value :=
  if j = 0 then .int .i64 (l.getD i Val.zero).kind else if j = 1 then .int .i64 (l.getD i Val.zero).num else if j = 2 then .string (strB (l.getD i Val.zero).str) else V i
/-- L is a slice of the values l, at most d deep. -/
def ValsAt (w : World) (B : Nat) : Nat → Value → List Val → Prop
  | 0, L, l => SlF L ∧ l = [] ∧ Sl w B 4 0 (valCells [] fun _ => undef) L
  | d + 1, L, l => SlF L ∧ ∃ V : Nat → Value, Sl w B 4 l.length (valCells l V) L ∧ ∀ (i : Nat) (x : Val), l[i]? = some x → ValsAt w B d (V i) x.elems
theorem ValsAt.below {w w' : World} {B : Nat} (hb : Below B w w') : ∀ {d : Nat} {L : Value} {l : List Val}, ValsAt w B d L l → ValsAt w' B d L l
  | 0, _, _, h => ⟨h.1, h.2.1, h.2.2.below hb⟩
  | _ + 1, _, _, ⟨f, V, s, b⟩ => ⟨f, V, s.below hb, fun i x hx => (b i x hx).below hb⟩
theorem ValsAt.more {w : World} {B B' : Nat} (hb : B ≤ B') : ∀ {d : Nat} {L : Value} {l : List Val}, ValsAt w B d L l → ValsAt w B' d L l
  | 0, _, _, h => ⟨h.1, h.2.1, h.2.2.more hb⟩
  | _ + 1, _, _, ⟨f, V, s, b⟩ => ⟨f, V, s.more hb, fun i x hx => (b i x hx).more hb⟩
theorem ValsAt.later {w w' : World} {d : Nat} {L : Value} {l : List Val} (h : ValsAt w w.heap.size d L l) (hb : Below w.heap.size w w') : ValsAt w' w'.heap.size d L l := (h.below hb).more hb.size
theorem ValsAt.form {w : World} {B d : Nat} {L : Value} {l : List Val} (h : ValsAt w B d L l) : ∃ A c, L = .slice A l.length c ∧ l.length ≤ maxLen := by
  cases d with
  | zero =>
    obtain ⟨_, rfl, A, c, hv, hm, _⟩ := h
    exact ⟨A, c, hv, hm⟩
  | succ d =>
    obtain ⟨_, V, ⟨A, c, hv, hm, _⟩, _⟩ := h
    exact ⟨A, c, hv, hm⟩
theorem valsAt_nil (w : World) (B d : Nat) : ValsAt w B d (.slice none 0 0) [] := by
  cases d with
  | zero => exact ⟨.inl rfl, rfl, none, 0, rfl, Nat.zero_le _, fun i hi => by omega⟩
  | succ d => exact ⟨.inl rfl, fun _ => undef, ⟨none, 0, rfl, Nat.zero_le _, fun i hi => by simp at hi⟩, fun i x hx => by simp at hx⟩
/-- The fuel may be whatever suffices. -/
theorem ValsAt.fit {w : World} {B : Nat} : ∀ {d e : Nat} {L : Value} {l : List Val}, ValsAt w B d L l → nestL l ≤ e → ValsAt w B e L l
  | 0, 0, _, _, h, _ => h
  | 0, e + 1, _, _, ⟨f, h0, s⟩, _ => by
    subst h0
    exact ⟨f, fun _ => undef, s, fun i x hx => by simp at hx⟩
  | d + 1, 0, _, l, ⟨f, V, s, b⟩, hn => by
    match l, hn with
    | [], _ =>
      refine ⟨f, rfl, ?_⟩
      obtain ⟨A, c, hv, hm, _⟩ := s
      exact ⟨A, c, hv, hm, fun i hi => by omega⟩
    | x :: l, hn => rw [nestL] at hn; omega
  | d + 1, e + 1, _, l, ⟨f, V, s, b⟩, hn => ⟨f, V, s, fun i x hx => (b i x hx).fit (by have := nest_mem (List.mem_of_getElem? hx); rw [← Val.nest_elems]; omega)⟩
/-- An element is read. -/
theorem ValsAt.elem {w : World} {B d n c : Nat} {A : Option Addr} {l : List Val} (h : ValsAt w B d (.slice A n c) l) {k : Nat} (hk : k < l.length) :
    ∃ d' b off V, d = d' + 1 ∧ A = some ⟨b, off, none⟩ ∧ b < B ∧ w.cell? ⟨b, off + k * 4, none⟩ = some (.int .i64 (l[k]).kind) ∧ w.cell? ⟨b, off + k * 4 + 1, none⟩ = some (.int .i64 (l[k]).num) ∧ w.cell? ⟨b, off + k * 4 + 2, none⟩ = some (.string (strB (l[k]).str)) ∧ w.cell? ⟨b, off + k * 4 + 3, none⟩ = some V ∧ ValsAt w B d' V (l[k]).elems := by
  cases d with
  | zero =>
    obtain ⟨_, rfl, _⟩ := h
    simp at hk
  | succ d =>
    obtain ⟨_, V, ⟨A', c', hv, _, h1⟩, h2⟩ := h
    cases hv
    obtain ⟨b, off, rfl, hb, h3⟩ := h1 k hk
    have e : l[k]? = some l[k] := List.getElem?_eq_getElem hk
    have eg : l.getD k Val.zero = l[k] := by rw [List.getD_eq_getElem?_getD, e]; rfl
    have c0 := h3 0 (by omega)
    have c1 := h3 1 (by omega)
    have c2 := h3 2 (by omega)
    have c3 := h3 3 (by omega)
    simp only [valCells, eg] at c0 c1 c2 c3
    exact ⟨d, b, off, V k, rfl, rfl, hb, c0, by rw [Nat.add_assoc]; exact c1, by rw [Nat.add_assoc]; exact c2, by rw [Nat.add_assoc]; exact c3, h2 k _ e⟩

theorem nestL_le {l : List Val} {m : Nat} (h : ∀ x ∈ l, x.nest + 1 ≤ m) : nestL l ≤ m := by
  induction l with
  | nil => exact Nat.zero_le _
  | cons x l ih =>
    rw [nestL]
    exact Nat.max_le.2 ⟨h x List.mem_cons_self, ih fun y hy => h y (List.mem_cons_of_mem _ hy)⟩
theorem ValsAt.nest {w : World} {B : Nat} : ∀ {d : Nat} {L : Value} {l : List Val}, ValsAt w B d L l → nestL l ≤ d
  | 0, _, _, ⟨_, h, _⟩ => by subst h; exact Nat.zero_le _
  | d + 1, _, l, ⟨_, V, _, b⟩ => nestL_le fun x hx => by
    obtain ⟨i, hi, rfl⟩ := List.getElem_of_mem hx
    have := (b i _ (List.getElem?_eq_getElem hi)).nest
    rw [← Val.nest_elems] at this
    omega
theorem depthL_le {l : List Val} {m : Nat} (h : ∀ x ∈ l, x.depth ≤ m) : depthL l ≤ m := by
  induction l with
  | nil => exact Nat.zero_le _
  | cons x l ih =>
    rw [depthL]
    exact Nat.max_le.2 ⟨h x List.mem_cons_self, ih fun y hy => h y (List.mem_cons_of_mem _ hy)⟩
theorem ValsAt.depths {w : World} {B d : Nat} {L : Value} {l : List Val} (h : ValsAt w B d L l) (k : Nat) : depthL (l.take k) ≤ d := depthL_le fun x hx => by
  have h1 := nest_mem (List.mem_of_mem_take hx)
  have h2 := h.nest
  have h3 := x.depth_nest
  omega
/-- An element's parts, all at once. -/
theorem okL_snoc (l : List Val) (x : Val) : okL (l ++ [x]) = (okL l && x.okB) := by rw [okL_append, okL, okL, Bool.and_true]
theorem depthL_snoc (l : List Val) (x : Val) : depthL (l ++ [x]) = max (depthL l) x.depth := by rw [depthL_append, depthL, depthL, Nat.max_zero]
theorem okL_take {l : List Val} {k : Nat} (h : okL (l.take k) = false) : okL l = false := by
  rcases h2 : okL l with _ | _
  · rfl
  · have e := okL_append (l.take k) (l.drop k)
    rw [List.take_append_drop, h2, h, Bool.false_and] at e
    exact absurd e (by decide)

end Go.Proofs.Ytcokkloaljaanaa
