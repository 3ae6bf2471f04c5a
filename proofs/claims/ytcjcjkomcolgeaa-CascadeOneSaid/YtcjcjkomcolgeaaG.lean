/-
  Plants, states, shocks and gate programs as plain data, and what the functions of chapters 31 and 32 compute. No condition.
-/
import Derived.Test.YtcjcjkomcolgeaaK
namespace Go.Proofs.Ytcjcjkomcolgeaa
open Go.RowKit

structure Pl where
  (top bank siphon start positions rate step pass feed pipe orders age : Int)
structure St where
  (level position p0 p1 order age : Int)
structure Sh where
  (feed msg : Int)
structure Cn where
  (var op n : Int)
structure Ln where
  conds : List Cn
  set : Int

abbrev Pl.cells (p : Pl) : List Value := [.int .i64 p.top, .int .i64 p.bank, .int .i64 p.siphon, .int .i64 p.start, .int .i64 p.positions, .int .i64 p.rate, .int .i64 p.step, .int .i64 p.pass, .int .i64 p.feed, .int .i64 p.pipe, .int .i64 p.orders, .int .i64 p.age]
abbrev Pl.v (p : Pl) : Value := .agg #[.int .i64 p.top, .int .i64 p.bank, .int .i64 p.siphon, .int .i64 p.start, .int .i64 p.positions, .int .i64 p.rate, .int .i64 p.step, .int .i64 p.pass, .int .i64 p.feed, .int .i64 p.pipe, .int .i64 p.orders, .int .i64 p.age]
abbrev St.cells (s : St) : List Value := [.int .i64 s.level, .int .i64 s.position, .int .i64 s.p0, .int .i64 s.p1, .int .i64 s.order, .int .i64 s.age]
abbrev St.v (s : St) : Value := .agg #[.int .i64 s.level, .int .i64 s.position, .int .i64 s.p0, .int .i64 s.p1, .int .i64 s.order, .int .i64 s.age]
abbrev Sh.v (x : Sh) : Value := .agg #[.int .i64 x.feed, .int .i64 x.msg]

/-- v is a slice of conditions. -/
def CondsAt (w : World) (B : Nat) (v : Value) (cs : List Cn) : Prop :=
  Sl w B 3 cs.length (fun i j => match cs[i]? with | some c => (if j = 0 then .int .i64 c.var else if j = 1 then .int .i64 c.op else .int .i64 c.n) | none => undef) v
/-- v is a slice of lines. -/
def CodeAt (w : World) (B : Nat) (v : Value) (code : List Ln) : Prop :=
  ∃ V : Nat → Value, Sl w B 2 code.length (fun i j => match code[i]? with | some l => (if j = 0 then V i else .int .i64 l.set) | none => undef) v ∧
    ∀ (i : Nat) (l : Ln), code[i]? = some l → CondsAt w B (V i) l.conds
theorem CondsAt.below {w w' : World} {B : Nat} {v : Value} {cs : List Cn} (h : CondsAt w B v cs) (hb : Below B w w') : CondsAt w' B v cs := Sl.below h hb
theorem CondsAt.more {w : World} {B B' : Nat} {v : Value} {cs : List Cn} (h : CondsAt w B v cs) (hb : B ≤ B') : CondsAt w B' v cs := Sl.more h hb
theorem CodeAt.below {w w' : World} {B : Nat} {v : Value} {code : List Ln} (h : CodeAt w B v code) (hb : Below B w w') : CodeAt w' B v code := by
  obtain ⟨V, h1, h2⟩ := h
  exact ⟨V, h1.below hb, fun i l hl => (h2 i l hl).below hb⟩
theorem CodeAt.more {w : World} {B B' : Nat} {v : Value} {code : List Ln} (h : CodeAt w B v code) (hb : B ≤ B') : CodeAt w B' v code := by
  obtain ⟨V, h1, h2⟩ := h
  exact ⟨V, h1.more hb, fun i l hl => (h2 i l hl).more hb⟩
theorem CodeAt.later {w w' : World} {v : Value} {code : List Ln} (h : CodeAt w w.heap.size v code) (hb : Below w.heap.size w w') : CodeAt w' w'.heap.size v code := (h.below hb).more hb.size
/-- A line is read: the cells. -/
theorem CodeAt.line {w : World} {B : Nat} {A : Option Addr} {n c : Nat} {code : List Ln} (h : CodeAt w B (.slice A n c) code) {k : Nat} (hk : k < code.length) :
    ∃ b off V, A = some ⟨b, off, none⟩ ∧ b < B ∧ w.cell? ⟨b, off + k * 2, none⟩ = some V ∧ w.cell? ⟨b, off + k * 2 + 1, none⟩ = some (.int .i64 (code[k]).set) ∧ CondsAt w B V (code[k]).conds := by
  obtain ⟨V, ⟨A', c', hv, _, h1⟩, h2⟩ := h
  cases hv
  obtain ⟨b, off, rfl, hb, h3⟩ := h1 k hk
  have e : code[k]? = some code[k] := List.getElem?_eq_getElem hk
  have c0 := h3 0 (by omega)
  have c1 := h3 1 (by omega)
  simp only [e] at c0 c1
  exact ⟨b, off, V k, rfl, hb, c0, by rw [Nat.add_assoc]; exact c1, h2 k _ e⟩
theorem CodeAt.form {w : World} {B : Nat} {v : Value} {code : List Ln} (h : CodeAt w B v code) : ∃ A c, v = .slice A code.length c ∧ code.length ≤ maxLen := by
  obtain ⟨V, ⟨A, c, hv, hn, _⟩, _⟩ := h
  exact ⟨A, c, hv, hn⟩
theorem CondsAt.form {w : World} {B : Nat} {v : Value} {cs : List Cn} (h : CondsAt w B v cs) : ∃ A c, v = .slice A cs.length c ∧ cs.length ≤ maxLen := by
  obtain ⟨A, c, hv, hn, _⟩ := h
  exact ⟨A, c, hv, hn⟩
theorem CondsAt.cond {w : World} {B : Nat} {A : Option Addr} {n c : Nat} {cs : List Cn} (h : CondsAt w B (.slice A n c) cs) {k : Nat} (hk : k < cs.length) :
    ∃ b off, A = some ⟨b, off, none⟩ ∧ b < B ∧ w.cell? ⟨b, off + k * 3, none⟩ = some (.int .i64 (cs[k]).var) ∧ w.cell? ⟨b, off + k * 3 + 1, none⟩ = some (.int .i64 (cs[k]).op) ∧ w.cell? ⟨b, off + k * 3 + 2, none⟩ = some (.int .i64 (cs[k]).n) := by
  obtain ⟨A', c', hv, _, h1⟩ := h
  cases hv
  obtain ⟨b, off, rfl, hb, h3⟩ := h1 k hk
  have e : cs[k]? = some cs[k] := List.getElem?_eq_getElem hk
  have c0 := h3 0 (by omega)
  have c1 := h3 1 (by omega)
  have c2 := h3 2 (by omega)
  simp only [e] at c0 c1 c2
  exact ⟨b, off, rfl, hb, c0, by rw [Nat.add_assoc]; exact c1, by rw [Nat.add_assoc]; exact c2⟩

def inI (n lo hi : Int) : Bool := decide (lo ≤ n ∧ n ≤ hi)
theorem inI_yes {n lo hi : Int} (h : inI n lo hi = true) : lo ≤ n ∧ n ≤ hi := of_decide_eq_true h
theorem inI_no {n lo hi : Int} (h : inI n lo hi = false) : ¬ (lo ≤ n ∧ n ≤ hi) := of_decide_eq_false h

structure Pl.Valid (p : Pl) : Prop where
  top : 1 ≤ p.top ∧ p.top ≤ 63
  bank : 0 ≤ p.bank ∧ p.bank ≤ p.top - 1
  siphon : 0 ≤ p.siphon ∧ p.siphon ≤ p.bank
  start : 0 ≤ p.start ∧ p.start ≤ p.top
  positions : 1 ≤ p.positions ∧ p.positions ≤ 15
  rate : 1 ≤ p.rate ∧ p.rate ≤ 15
  step : 1 ≤ p.step ∧ p.step ≤ 15
  pass : 0 ≤ p.pass ∧ p.pass ≤ 1048576
  feed : 0 ≤ p.feed ∧ p.feed ≤ 15
  pipe : 0 ≤ p.pipe ∧ p.pipe ≤ 2
  orders : 0 ≤ p.orders ∧ p.orders ≤ 7
  age : 0 ≤ p.age ∧ p.age ≤ 7
instance (p : Pl) : Decidable p.Valid := decidable_of_iff
  ((1 ≤ p.top ∧ p.top ≤ 63) ∧ (0 ≤ p.bank ∧ p.bank ≤ p.top - 1) ∧ (0 ≤ p.siphon ∧ p.siphon ≤ p.bank) ∧ (0 ≤ p.start ∧ p.start ≤ p.top) ∧ (1 ≤ p.positions ∧ p.positions ≤ 15) ∧ (1 ≤ p.rate ∧ p.rate ≤ 15) ∧ (1 ≤ p.step ∧ p.step ≤ 15) ∧ (0 ≤ p.pass ∧ p.pass ≤ 1048576) ∧ (0 ≤ p.feed ∧ p.feed ≤ 15) ∧ (0 ≤ p.pipe ∧ p.pipe ≤ 2) ∧ (0 ≤ p.orders ∧ p.orders ≤ 7) ∧ (0 ≤ p.age ∧ p.age ≤ 7))
  ⟨fun ⟨a, b, c, d, e, f, g, h, i, j, k, l⟩ => ⟨a, b, c, d, e, f, g, h, i, j, k, l⟩, fun ⟨a, b, c, d, e, f, g, h, i, j, k, l⟩ => ⟨a, b, c, d, e, f, g, h, i, j, k, l⟩⟩
def Pl.validB (p : Pl) : Bool := decide p.Valid
/-- The twelve bounds, in order. -/
def Pl.bounds (p : Pl) : List (Int × Int × Int) :=
  [(p.top, 1, 63), (p.bank, 0, p.top - 1), (p.siphon, 0, p.bank), (p.start, 0, p.top), (p.positions, 1, 15), (p.rate, 1, 15), (p.step, 1, 15), (p.pass, 0, 1048576), (p.feed, 0, 15), (p.pipe, 0, 2), (p.orders, 0, 7), (p.age, 0, 7)]
def Pl.sizeI (p : Pl) : Int := (p.top + 1) * (p.positions + 1) * (p.orders + 1) * (p.age + 1)
def Pl.countI (p : Pl) : Int := if p.pipe = 0 then p.sizeI else if p.pipe = 1 then p.sizeI * (p.feed + 1) else p.sizeI * (p.feed + 1) * (p.feed + 1)
def Pl.checkT (p : Pl) : Int := if p.validB = true then (if 4096 < p.countI then 2 else 0) else 320
def Pl.countT (p : Pl) : Int × Int := if p.checkT = 0 then (p.countI, 0) else (0, p.checkT)
def St.zero : St := ⟨0, 0, 0, 0, 0, 0⟩
def Pl.beginT (p : Pl) : St × Int := if p.checkT = 0 then (⟨p.start, 0, 0, 0, 0, p.age⟩, 0) else (St.zero, p.checkT)
def Pl.hasB (p : Pl) (s : St) : Bool :=
  inI s.level 0 p.top && (inI s.position 0 p.positions && (inI s.p0 0 (if 0 < p.pipe then p.feed else 0) && (inI s.p1 0 (if 1 < p.pipe then p.feed else 0) && (inI s.order 0 p.orders && inI s.age 0 p.age))))
def Pl.goodB (p : Pl) (s : St) : Bool := decide (p.siphon ≤ s.level ∧ s.level ≤ p.bank ∧ p.rate * s.position ≤ p.pass)
def Pl.safeT (p : Pl) (s : St) : Bool × Int := if p.checkT = 0 then (if p.hasB s = true then (p.goodB s, 0) else (false, 320)) else (false, p.checkT)

/-- Gate programs. -/
def Cn.okB (c : Cn) : Bool := decide ((0 ≤ c.var ∧ c.var ≤ 4) ∧ (1 ≤ c.op ∧ c.op ≤ 5) ∧ (0 ≤ c.n ∧ c.n ≤ 1099511627776))
def Ln.okB (l : Ln) : Bool := decide (l.conds.length ≤ 4) && (decide (0 ≤ l.set ∧ l.set ≤ 1099511627776) && l.conds.all Cn.okB)
def gateB (code : List Ln) : Bool := decide (code.length ≤ 64) && code.all Ln.okB
def gateT (code : List Ln) : Int := if gateB code = true then 0 else 310
/-- What the variables are: level, position, order, age, feed. -/
structure Vr where
  (v0 v1 v2 v3 v4 : Int)
abbrev Vr.v (r : Vr) : Value := .agg #[.int .i64 r.v0, .int .i64 r.v1, .int .i64 r.v2, .int .i64 r.v3, .int .i64 r.v4]
def Vr.at (r : Vr) (i : Int) : Int := if i = 0 then r.v0 else if i = 1 then r.v1 else if i = 2 then r.v2 else if i = 3 then r.v3 else r.v4
def Cn.holdsB (c : Cn) (x : Int) : Bool := if c.op = 1 then decide (x < c.n) else if c.op = 2 then decide (x ≤ c.n) else if c.op = 3 then decide (x = c.n) else if c.op = 4 then decide (c.n ≤ x) else decide (c.n < x)
def Ln.holdsB (l : Ln) (r : Vr) : Bool := l.conds.all fun c => c.holdsB (r.at c.var)
def firstT (code : List Ln) (r : Vr) : Int × Bool := match code.find? (·.holdsB r) with | some l => (l.set, true) | none => (0, false)
def runT (code : List Ln) (r : Vr) : Int × Bool × Int := if gateB code = true then ((firstT code r).1, (firstT code r).2, 0) else (0, false, 310)

/-- An hour. -/
def heardT (p : Pl) (s : St) (x : Sh) : Int × Int := if 0 ≤ x.msg then (x.msg, 0) else (s.order, min (s.age + 1) p.age)
def fedT (p : Pl) (s : St) (x : Sh) : Int × Int × Int := if p.pipe = 0 then (x.feed, s.p1, 0) else if p.pipe = 1 then (s.p0, x.feed, 0) else (s.p0, s.p1, x.feed)
def varsT (p : Pl) (s : St) (x : Sh) : Vr := ⟨s.level, s.position, (heardT p s x).1, (heardT p s x).2, (fedT p s x).1⟩
def movedT (p : Pl) (code : List Ln) (s : St) (x : Sh) : Int :=
  if (firstT code (varsT p s x)).2 = true then max (s.position - p.step) (min (s.position + p.step) (min (firstT code (varsT p s x)).1 p.positions)) else s.position
def outT (p : Pl) (code : List Ln) (s : St) (x : Sh) : Int := min (s.level + (fedT p s x).1) (p.rate * movedT p code s x)
def stepT (p : Pl) (code : List Ln) (s : St) (x : Sh) : St :=
  ⟨min p.top (s.level + (fedT p s x).1 - outT p code s x), movedT p code s x, (fedT p s x).2.1, (fedT p s x).2.2, (heardT p s x).1, (heardT p s x).2⟩
def chosenB (p : Pl) (x : Sh) : Bool := inI x.feed 0 p.feed && inI x.msg (-1) p.orders
def nextT (p : Pl) (code : List Ln) (s : St) (x : Sh) : St × Int × Int :=
  if p.checkT = 0 then (if gateT code = 0 then (if p.hasB s = true then (if chosenB p x = true then (stepT p code s x, outT p code s x, 0) else (St.zero, 0, 1)) else (St.zero, 0, 320)) else (St.zero, 0, gateT code)) else (St.zero, 0, p.checkT)

theorem Pl.valid_of {p : Pl} (h : p.validB = true) : p.Valid := of_decide_eq_true h
theorem Pl.check_zero {p : Pl} (h : p.checkT = 0) : p.Valid ∧ p.countI ≤ 4096 := by
  unfold Pl.checkT at h
  split at h
  · rename_i hv
    split at h
    · omega
    · exact ⟨Pl.valid_of hv, by omega⟩
  · omega
theorem Pl.bounds_all (p : Pl) : p.validB = p.bounds.all fun t => inI t.1 t.2.1 t.2.2 := by
  rw [Bool.eq_iff_iff]
  simp only [Pl.validB, Pl.bounds, inI, List.all_cons, List.all_nil, Bool.and_true, Bool.and_eq_true, decide_eq_true_eq]
  exact ⟨fun ⟨a, b, c, d, e, f, g, h, i, j, k, l⟩ => ⟨a, b, c, d, e, f, g, h, i, j, k, l⟩, fun ⟨a, b, c, d, e, f, g, h, i, j, k, l⟩ => ⟨a, b, c, d, e, f, g, h, i, j, k, l⟩⟩
/-- A product of the sizes stays small. -/
theorem mul_le4 {a b A B : Int} (ha : 0 ≤ a ∧ a ≤ A) (hb : 0 ≤ b ∧ b ≤ B) : 0 ≤ a * b ∧ a * b ≤ A * B := by
  constructor
  · exact Int.mul_nonneg ha.1 hb.1
  · exact Int.mul_le_mul ha.2 hb.2 hb.1 (by omega)
theorem Pl.sizes {p : Pl} (h : p.Valid) : (0 ≤ (p.top + 1) * (p.positions + 1) ∧ (p.top + 1) * (p.positions + 1) ≤ 1024) ∧ (0 ≤ (p.top + 1) * (p.positions + 1) * (p.orders + 1) ∧ (p.top + 1) * (p.positions + 1) * (p.orders + 1) ≤ 8192) ∧
    (0 ≤ p.sizeI ∧ p.sizeI ≤ 65536) ∧ (0 ≤ p.sizeI * (p.feed + 1) ∧ p.sizeI * (p.feed + 1) ≤ 1048576) ∧ 0 ≤ p.sizeI * (p.feed + 1) * (p.feed + 1) ∧ p.sizeI * (p.feed + 1) * (p.feed + 1) ≤ 16777216 := by
  obtain ⟨h1, _, _, _, h2, _, _, _, h3, _, h4, h5⟩ := h
  have a1 := mul_le4 (a := p.top + 1) (b := p.positions + 1) (A := 64) (B := 16) (by omega) (by omega)
  have a2 := mul_le4 (b := p.orders + 1) (B := 8) a1 (by omega)
  have a3 := mul_le4 (b := p.age + 1) (B := 8) a2 (by omega)
  have a4 := mul_le4 (b := p.feed + 1) (B := 16) a3 (by omega)
  have a5 := mul_le4 (b := p.feed + 1) (B := 16) a4 (by omega)
  unfold Pl.sizeI
  exact ⟨by omega, by omega, by omega, by omega, by omega⟩

end Go.Proofs.Ytcjcjkomcolgeaa
