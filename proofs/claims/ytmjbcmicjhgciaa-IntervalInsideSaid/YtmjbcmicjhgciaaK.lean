/-
  Small lemmas on worlds, and what the functions of chapter 13 compute, in plain Lean. No condition.
-/
import Derived.Test.YtmjbcmicjhgciaaProg
import Derived.WalkKit
import Derived.WalkSpells
import Derived.WalkLawsBesides
import Derived.Lib.Hide
namespace Go.Proofs.Ytmjbcmicjhgciaa
open Go.RowKit

theorem bcell {W w1 : World} (hb : Below W.heap.size W w1) : (∀ b o, b < W.heap.size → w1.cell? ⟨b, o, none⟩ = W.cell? ⟨b, o, none⟩) ∧ (∀ b o, b < W.heap.size → w1.frozen? ⟨b, o, none⟩ = W.frozen? ⟨b, o, none⟩) :=
  ⟨fun b o h => hb.cell (p := ⟨b, o, none⟩) h, fun b o h => hb.frozen (p := ⟨b, o, none⟩) h⟩

/-- BLOCK b HOLDS THE CELLS xs, none of them frozen. -/
def Box (w : World) (b : Nat) (xs : List Value) : Prop := ∃ t, w.heap[b]? = some (.cells xs.toArray t (0, 0))
theorem Box.new (w : World) (xs : List Value) (t : TypeId) : Box (w.alloc (.cells xs.toArray t)) w.heap.size xs := ⟨t, by show (w.heap.push _)[w.heap.size]? = _; simp⟩
theorem Box.newAt {w : World} {n : Nat} (xs : List Value) (t : TypeId) (h : n = w.heap.size) : Box (w.alloc (.cells xs.toArray t)) n xs := h ▸ Box.new w xs t
theorem Box.lt {w : World} {b : Nat} {xs : List Value} (h : Box w b xs) : b < w.heap.size := (Array.getElem?_eq_some_iff.1 h.choose_spec).1
theorem Box.alloc {w : World} {b : Nat} {xs : List Value} (h : Box w b xs) (o : Obj) : Box (w.alloc o) b xs := by
  obtain ⟨t, ht⟩ := h
  exact ⟨t, (Below.heap_alloc w o b (Array.getElem?_eq_some_iff.1 ht).1).trans ht⟩
theorem Box.drew {w : World} {b : Nat} {xs : List Value} (h : Box w b xs) : Box w.drew b xs := h
theorem Box.later {w w' : World} {b : Nat} {xs : List Value} (h : Box w b xs) (hB : Below w.heap.size w w') : Box w' b xs := by
  obtain ⟨t, ht⟩ := h
  exact ⟨t, (hB.block b (Array.getElem?_eq_some_iff.1 ht).1).trans ht⟩
theorem Box.other {w : World} {b : Nat} {xs : List Value} (h : Box w b xs) {a : Addr} (ha : b ≠ a.block) (v : Value) : Box (w.setCell a v) b xs := by
  obtain ⟨t, ht⟩ := h
  exact ⟨t, (Below.heap_setCell w a v b ha).trans ht⟩
theorem Box.set {w : World} {b : Nat} {xs : List Value} (h : Box w b xs) (i : Nat) (v : Value) : Box (w.setCell ⟨b, i, none⟩ v) b (xs.set i v) := by
  obtain ⟨t, ht⟩ := h
  refine ⟨t, ?_⟩
  show (w.heap.modify b _)[b]? = _
  rw [Array.getElem?_modify, if_pos rfl, ht]
  simp
theorem Box.cell {w : World} {b : Nat} {xs : List Value} (h : Box w b xs) (i : Nat) : w.cell? ⟨b, i, none⟩ = xs[i]? := by
  obtain ⟨t, ht⟩ := h
  simp [World.cell?, ht]
theorem Box.free {w : World} {b : Nat} {xs : List Value} (h : Box w b xs) (i : Nat) : w.frozen? ⟨b, i, none⟩ = false := by
  obtain ⟨t, ht⟩ := h
  simp [World.frozen?, ht]
theorem Box.one {w : World} {b : Nat} {x : Value} (h : Box w b [x]) : w.cell? ⟨b, 0, none⟩ = some x ∧ w.frozen? ⟨b, 0, none⟩ = false := ⟨h.cell 0, h.free 0⟩
theorem Box.two {w : World} {b : Nat} {x y : Value} (h : Box w b [x, y]) : (w.cell? ⟨b, 0, none⟩ = some x ∧ w.cell? ⟨b, 1, none⟩ = some y) ∧ w.frozen? ⟨b, 0, none⟩ = false ∧ w.frozen? ⟨b, 1, none⟩ = false :=
  ⟨⟨h.cell 0, h.cell 1⟩, h.free 0, h.free 1⟩

abbrev rng (lo hi : Int) : Value := .agg #[.int .i64 lo, .int .i64 hi]

/-- Is the interval from lo to hi valid? -/
def okR (lo hi : Int) : Bool := decide (-1099511627776 ≤ lo) && decide (lo ≤ hi) && decide (hi ≤ 1099511627776)
theorem okR_bd {lo hi : Int} (h : okR lo hi = true) : -1099511627776 ≤ lo ∧ lo ≤ hi ∧ hi ≤ 1099511627776 := by
  simp [okR] at h; omega
theorem okR_mk {lo hi : Int} (h : -1099511627776 ≤ lo ∧ lo ≤ hi ∧ hi ≤ 1099511627776) : okR lo hi = true := by
  simp [okR]; omega
theorem okR_no {lo hi : Int} (h : ¬ (-1099511627776 ≤ lo ∧ lo ≤ hi ∧ hi ≤ 1099511627776)) : okR lo hi = false := by
  simp [okR]; omega
theorem okR_and {a b c d : Int} (h : (okR a b && okR c d) = true) : (-1099511627776 ≤ a ∧ a ≤ b ∧ b ≤ 1099511627776) ∧ -1099511627776 ≤ c ∧ c ≤ d ∧ d ≤ 1099511627776 := by
  rw [Bool.and_eq_true] at h; exact ⟨okR_bd h.1, okR_bd h.2⟩

def loL (f : Int) (xs : List Int) : Int := xs.foldl (fun a x => if x < a then x else a) f
def hiL (f : Int) (xs : List Int) : Int := xs.foldl (fun a x => if a < x then x else a) f
theorem loL_take (f : Int) (xs : List Int) (k : Nat) (h : k < xs.length) : loL f (xs.take (k + 1)) = if xs[k] < loL f (xs.take k) then xs[k] else loL f (xs.take k) := by
  rw [List.take_succ_eq_append_getElem h]; simp only [loL, List.foldl_append, List.foldl_cons, List.foldl_nil]; rfl
theorem hiL_take (f : Int) (xs : List Int) (k : Nat) (h : k < xs.length) : hiL f (xs.take (k + 1)) = if hiL f (xs.take k) < xs[k] then xs[k] else hiL f (xs.take k) := by
  rw [List.take_succ_eq_append_getElem h]; simp only [hiL, List.foldl_append, List.foldl_cons, List.foldl_nil]; rfl

/-- An interval and an error: the interval if it is valid. -/
def cutT (lo hi : Int) : Int × Int × Int := if okR lo hi = true then (lo, hi, 0) else (0, 0, 2)
/-- What 'hull' hands back. -/
def hullT (f : Int) (xs : List Int) : Int × Int × Int := cutT (loL f xs) (hiL f xs)

theorem hull1 {f x : Int} (h : f ≤ x) : hullT f [x] = cutT f x := by
  simp only [hullT, loL, hiL, List.foldl_cons, List.foldl_nil]
  rw [if_neg (by omega)]
  by_cases e : f < x
  · rw [if_pos e]
  · rw [if_neg e]; congr 1; omega

/-- A result that is an interval and an error. -/
def Ret (t : Int × Int × Int) (w : World) (e : Ending) (w' : World) : Prop :=
  ∃ lo hi er : Int, e = .returned (.tuple #[rng lo hi, .int .i64 er]) ∧ Hid (t = (lo, hi, er)) ∧ Below w.heap.size w w'
/-- A result that is one bool. -/
def RetB (t : Bool) (w : World) (e : Ending) (w' : World) : Prop :=
  ∃ b : Bool, e = .returned (.bool b) ∧ Hid (t = b) ∧ Below w.heap.size w w'
/-- A result that is one number. -/
def RetI (t : Int) (w : World) (e : Ending) (w' : World) : Prop :=
  ∃ n : Int, e = .returned (.int .i64 n) ∧ Hid (t = n) ∧ Below w.heap.size w w'

/-- A result that is an interval, a bool and an error. -/
def RetM (t : Int × Int × Bool × Int) (w : World) (e : Ending) (w' : World) : Prop :=
  ∃ (lo hi : Int) (ok : Bool) (er : Int), e = .returned (.tuple #[rng lo hi, .bool ok, .int .i64 er]) ∧ Hid (t = (lo, hi, ok, er)) ∧ Below w.heap.size w w'
/-- A result that is a bool and an error. -/
def RetO (t : Bool × Int) (w : World) (e : Ending) (w' : World) : Prop :=
  ∃ (ok : Bool) (er : Int), e = .returned (.tuple #[.bool ok, .int .i64 er]) ∧ Hid (t = (ok, er)) ∧ Below w.heap.size w w'

def addT (a b c d : Int) : Int × Int × Int := if (okR a b && okR c d) = true then cutT (a + c) (b + d) else (0, 0, 130)
def subT (a b c d : Int) : Int × Int × Int := if (okR a b && okR c d) = true then cutT (a - d) (b - c) else (0, 0, 130)
def hul2T (a b c d : Int) : Int × Int × Int := if (okR a b && okR c d) = true then (min a c, max b d, 0) else (0, 0, 130)
theorem hull3 {a b c d : Int} (h : -1099511627776 ≤ a ∧ a ≤ b ∧ b ≤ 1099511627776) (h' : -1099511627776 ≤ c ∧ c ≤ d ∧ d ≤ 1099511627776) : hullT a [b, c, d] = (min a c, max b d, 0) := by
  have e1 : loL a [b, c, d] = min a c := by
    simp only [loL, List.foldl_cons, List.foldl_nil]
    repeat' split
    all_goals omega
  have e2 : hiL a [b, c, d] = max b d := by
    simp only [hiL, List.foldl_cons, List.foldl_nil]
    repeat' split
    all_goals omega
  rw [hullT, cutT, e1, e2, if_pos (okR_mk (by omega))]
def meetT (a b c d : Int) : Int × Int × Bool × Int :=
  if (okR a b && okR c d) = true then (if max a c ≤ min b d then (max a c, min b d, true, 0) else (0, 0, false, 0)) else (0, 0, false, 130)
theorem meet_yes {a b c d lo hi : Int} (h : (okR a b && okR c d) = true) (h' : max a c ≤ min b d ∧ lo = max a c ∧ hi = min b d) : Hid (meetT a b c d = (lo, hi, true, 0)) := by
  obtain ⟨h1, rfl, rfl⟩ := h'
  rw [Hid, meetT, if_pos h, if_pos h1]
theorem meet_no {a b c d : Int} (h : (okR a b && okR c d) = true) (h' : ¬ max a c ≤ min b d) : Hid (meetT a b c d = (0, 0, false, 0)) := by
  rw [Hid, meetT, if_pos h, if_neg h']
theorem hul2_yes {a b c d lo hi : Int} (h : okR a b = true) (h' : okR c d = true) (e : lo = min a c ∧ hi = max b d) : Hid (hul2T a b c d = (lo, hi, 0)) := by
  obtain ⟨rfl, rfl⟩ := e
  simp [Hid, hul2T, h, h']
def absI (x : Int) : Int := max x (0 - x)
theorem absI_nat (x : Int) : absI x = (x.natAbs : Int) := by unfold absI; omega
/-- Is the product of two numbers from -2^40 to 2^40? -/
def fitB (x y : Int) : Bool := decide (-1099511627776 ≤ x * y ∧ x * y ≤ 1099511627776)
theorem absI_pos {x m : Int} (h : absI x = m) (hx : (x == 0) = false) : 1 ≤ m := by
  have : x ≠ 0 := by simpa using hx
  unfold absI at h; omega
theorem fit_abs (x y : Int) : fitB x y = decide (absI x * absI y ≤ 1099511627776) := by
  have h : absI x * absI y = ((x * y).natAbs : Int) := by rw [absI_nat, absI_nat, Int.natAbs_mul, Int.natCast_mul]
  rw [h, fitB, decide_eq_decide]; omega
theorem fit_div {x y n m : Int} (hn : absI y = n) (hm : absI x = m) (h1 : 1 ≤ m) : Hid (fitB x y = decide (n ≤ 1099511627776 / m)) := by
  rw [Hid, fit_abs, hn, hm, decide_eq_decide, Int.le_ediv_iff_mul_le (by omega), Int.mul_comm]
def fit4 (a b c d : Int) : Bool := fitB a c && fitB a d && fitB b c && fitB b d
def mulT (a b c d : Int) : Int × Int × Int :=
  if (okR a b && okR c d) = true then (if fit4 a b c d = true then (min (min (min (a * c) (a * d)) (b * c)) (b * d), max (max (max (a * c) (a * d)) (b * c)) (b * d), 0) else (0, 0, 2)) else (0, 0, 130)
theorem fitB_bd {x y : Int} (h : fitB x y = true) : -1099511627776 ≤ x * y ∧ x * y ≤ 1099511627776 := by simpa [fitB] using h
theorem mul_no {a b c d : Int} (h : (okR a b && okR c d) = true) (h' : fit4 a b c d = false) : Hid (mulT a b c d = (0, 0, 2)) := by
  simp only [Hid, mulT, h, h']; rfl
theorem mul_yes {a b c d : Int} (h : (okR a b && okR c d) = true) (h' : fit4 a b c d = true) :
    Hid (mulT a b c d = (min (min (min (a * c) (a * d)) (b * c)) (b * d), max (max (max (a * c) (a * d)) (b * c)) (b * d), 0)) := by
  simp only [Hid, mulT, h, h']; rfl
def insT (a b c d : Int) : Bool × Int := if (okR a b && okR c d) = true then (decide (c ≤ a ∧ b ≤ d), 0) else (false, 130)
def chkT (a b : Int) : Int := if okR a b = true then 0 else 130

end Go.Proofs.Ytmjbcmicjhgciaa
