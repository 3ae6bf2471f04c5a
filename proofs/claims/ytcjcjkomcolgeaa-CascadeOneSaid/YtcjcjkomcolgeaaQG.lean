/- Plants, states, shocks and gate programs as plain data, and what the functions of chapters 31 and 32 compute. No condition. -/
import Derived.Test.YtcjcjkomcolgeaaQK
set_option linter.unusedVariables false
set_option linter.unusedSimpArgs false
namespace Go.Proofs.Ytcjcjkomcolgeaa
open Go.RowKit

structure Pl where
  (top bank siphon start positions rate step pass feed pipe orders age : Int)
structure St where
  (level position p0 p1 order age : Int)
structure Sh where
  (feed msg : Int)
structure Cn where
  (var op n : Int)
structure Ln where
  conds : List Cn
  set : Int

abbrev Pl.cells (p : Pl) : List Value := [.int .i64 p.top, .int .i64 p.bank, .int .i64 p.siphon, .int .i64 p.start, .int .i64 p.positions, .int .i64 p.rate, .int .i64 p.step, .int .i64 p.pass, .int .i64 p.feed, .int .i64 p.pipe, .int .i64 p.orders, .int .i64 p.age]
abbrev Pl.v (p : Pl) : Value := .agg #[.int .i64 p.top, .int .i64 p.bank, .int .i64 p.siphon, .int .i64 p.start, .int .i64 p.positions, .int .i64 p.rate, .int .i64 p.step, .int .i64 p.pass, .int .i64 p.feed, .int .i64 p.pipe, .int .i64 p.orders, .int .i64 p.age]
abbrev St.cells (s : St) : List Value := [.int .i64 s.level, .int .i64 s.position, .int .i64 s.p0, .int .i64 s.p1, .int .i64 s.order, .int .i64 s.age]
abbrev St.v (s : St) : Value := .agg #[.int .i64 s.level, .int .i64 s.position, .int .i64 s.p0, .int .i64 s.p1, .int .i64 s.order, .int .i64 s.age]
abbrev Sh.v (x : Sh) : Value := .agg #[.int .i64 x.feed, .int .i64 x.msg]

def CondsAt (w : World) (B : Nat) (v : Value) (cs : List Cn) : Prop :=
  Sl w B 3 cs.length (fun i j => match cs[i]? with | some c => (if j = 0 then .int .i64 c.var else if j = 1 then .int .i64 c.op else .int .i64 c.n) | none => undef) v
def CodeAt (w : World) (B : Nat) (v : Value) (code : List Ln) : Prop :=
  ∃ V : Nat → Value, Sl w B 2 code.length (fun i j => match code[i]? with | some l => (if j = 0 then V i else .int .i64 l.set) | none => undef) v ∧
    ∀ (i : Nat) (l : Ln), code[i]? = some l → CondsAt w B (V i) l.conds
theorem CondsAt.below {w w' : World} {B : Nat} {v : Value} {cs : List Cn} (h : CondsAt w B v cs) (hb : Below B w w') : CondsAt w' B v cs := Sl.below h hb
theorem CondsAt.more {w : World} {B B' : Nat} {v : Value} {cs : List Cn} (h : CondsAt w B v cs) (hb : B ≤ B') : CondsAt w B' v cs := Sl.more h hb
theorem CodeAt.below {w w' : World} {B : Nat} {v : Value} {code : List Ln} (h : CodeAt w B v code) (hb : Below B w w') : CodeAt w' B v code := by
  obtain ⟨V, h1, h2⟩ := h
  exact ⟨V, h1.below hb, fun i l hl => (h2 i l hl).below hb⟩
theorem CodeAt.more {w : World} {B B' : Nat} {v : Value} {code : List Ln} (h : CodeAt w B v code) (hb : B ≤ B') : CodeAt w B' v code := by
  obtain ⟨V, h1, h2⟩ := h
  exact ⟨V, h1.more hb, fun i l hl => (h2 i l hl).more hb⟩
theorem CodeAt.later {w w' : World} {v : Value} {code : List Ln} (h : CodeAt w w.heap.size v code) (hb : Below w.heap.size w w') : CodeAt w' w'.heap.size v code := (h.below hb).more hb.size
theorem CodeAt.line {w : World} {B : Nat} {A : Option Addr} {n c : Nat} {code : List Ln} (h : CodeAt w B (.slice A n c) code) {k : Nat} (hk : k < code.length) :
    ∃ b off V, A = some ⟨b, off, none⟩ ∧ b < B ∧ w.cell? ⟨b, off + k * 2, none⟩ = some V ∧ w.cell? ⟨b, off + k * 2 + 1, none⟩ = some (.int .i64 (code[k]).set) ∧ CondsAt w B V (code[k]).conds := by
  obtain ⟨V, ⟨A', c', hv, _, h1⟩, h2⟩ := h
  cases hv
  obtain ⟨b, off, rfl, hb, h3⟩ := h1 k hk
  have e : code[k]? = some code[k] := List.getElem?_eq_getElem hk
  have c0 := h3 0 (by omega)
  have c1 := h3 1 (by omega)
  simp only [e] at c0 c1
  exact ⟨b, off, V k, rfl, hb, c0, by rw [Nat.add_assoc]; exact c1, h2 k _ e⟩
theorem CodeAt.form {w : World} {B : Nat} {v : Value} {code : List Ln} (h : CodeAt w B v code) : ∃ A c, v = .slice A code.length c ∧ code.length ≤ maxLen := by
  obtain ⟨V, ⟨A, c, hv, hn, _⟩, _⟩ := h
  exact ⟨A, c, hv, hn⟩
theorem CondsAt.form {w : World} {B : Nat} {v : Value} {cs : List Cn} (h : CondsAt w B v cs) : ∃ A c, v = .slice A cs.length c ∧ cs.length ≤ maxLen := by
  obtain ⟨A, c, hv, hn, _⟩ := h
  exact ⟨A, c, hv, hn⟩
theorem CondsAt.cond {w : World} {B : Nat} {A : Option Addr} {n c : Nat} {cs : List Cn} (h : CondsAt w B (.slice A n c) cs) {k : Nat} (hk : k < cs.length) :
    ∃ b off, A = some ⟨b, off, none⟩ ∧ b < B ∧ w.cell? ⟨b, off + k * 3, none⟩ = some (.int .i64 (cs[k]).var) ∧ w.cell? ⟨b, off + k * 3 + 1, none⟩ = some (.int .i64 (cs[k]).op) ∧ w.cell? ⟨b, off + k * 3 + 2, none⟩ = some (.int .i64 (cs[k]).n) := by
  obtain ⟨A', c', hv, _, h1⟩ := h
  cases hv
  obtain ⟨b, off, rfl, hb, h3⟩ := h1 k hk
  have e : cs[k]? = some cs[k] := List.getElem?_eq_getElem hk
  have c0 := h3 0 (by omega)
  have c1 := h3 1 (by omega)
  have c2 := h3 2 (by omega)
  simp only [e] at c0 c1 c2
  exact ⟨b, off, rfl, hb, c0, by rw [Nat.add_assoc]; exact c1, by rw [Nat.add_assoc]; exact c2⟩

def inI (n lo hi : Int) : Bool := decide (lo ≤ n ∧ n ≤ hi)
theorem inI_yes {n lo hi : Int} (h : inI n lo hi = true) : lo ≤ n ∧ n ≤ hi := of_decide_eq_true h
theorem inI_no {n lo hi : Int} (h : inI n lo hi = false) : ¬ (lo ≤ n ∧ n ≤ hi) := of_decide_eq_false h

structure Pl.Valid (p : Pl) : Prop where
  top : 1 ≤ p.top ∧ p.top ≤ 63
  bank : 0 ≤ p.bank ∧ p.bank ≤ p.top - 1
  siphon : 0 ≤ p.siphon ∧ p.siphon ≤ p.bank
  start : 0 ≤ p.start ∧ p.start ≤ p.top
  positions : 1 ≤ p.positions ∧ p.positions ≤ 15
  rate : 1 ≤ p.rate ∧ p.rate ≤ 15
  step : 1 ≤ p.step ∧ p.step ≤ 15
  pass : 0 ≤ p.pass ∧ p.pass ≤ 1048576
  feed : 0 ≤ p.feed ∧ p.feed ≤ 15
  pipe : 0 ≤ p.pipe ∧ p.pipe ≤ 2
  orders : 0 ≤ p.orders ∧ p.orders ≤ 7
  age : 0 ≤ p.age ∧ p.age ≤ 7
instance (p : Pl) : Decidable p.Valid := decidable_of_iff
  ((1 ≤ p.top ∧ p.top ≤ 63) ∧ (0 ≤ p.bank ∧ p.bank ≤ p.top - 1) ∧ (0 ≤ p.siphon ∧ p.siphon ≤ p.bank) ∧ (0 ≤ p.start ∧ p.start ≤ p.top) ∧ (1 ≤ p.positions ∧ p.positions ≤ 15) ∧ (1 ≤ p.rate ∧ p.rate ≤ 15) ∧ (1 ≤ p.step ∧ p.step ≤ 15) ∧ (0 ≤ p.pass ∧ p.pass ≤ 1048576) ∧ (0 ≤ p.feed ∧ p.feed ≤ 15) ∧ (0 ≤ p.pipe ∧ p.pipe ≤ 2) ∧ (0 ≤ p.orders ∧ p.orders ≤ 7) ∧ (0 ≤ p.age ∧ p.age ≤ 7))
  ⟨fun ⟨a, b, c, d, e, f, g, h, i, j, k, l⟩ => ⟨a, b, c, d, e, f, g, h, i, j, k, l⟩, fun ⟨a, b, c, d, e, f, g, h, i, j, k, l⟩ => ⟨a, b, c, d, e, f, g, h, i, j, k, l⟩⟩
def Pl.validB (p : Pl) : Bool := decide p.Valid
def Pl.bounds (p : Pl) : List (Int × Int × Int) :=
  [(p.top, 1, 63), (p.bank, 0, p.top - 1), (p.siphon, 0, p.bank), (p.start, 0, p.top), (p.positions, 1, 15), (p.rate, 1, 15), (p.step, 1, 15), (p.pass, 0, 1048576), (p.feed, 0, 15), (p.pipe, 0, 2), (p.orders, 0, 7), (p.age, 0, 7)]
def Pl.sizeI (p : Pl) : Int := (p.top + 1) * (p.positions + 1) * (p.orders + 1) * (p.age + 1)
def Pl.countI (p : Pl) : Int := if p.pipe = 0 then p.sizeI else if p.pipe = 1 then p.sizeI * (p.feed + 1) else p.sizeI * (p.feed + 1) * (p.feed + 1)
def Pl.checkT (p : Pl) : Int := if p.validB = true then (if 4096 < p.countI then 2 else 0) else 320
def Pl.countT (p : Pl) : Int × Int := if p.checkT = 0 then (p.countI, 0) else (0, p.checkT)
def St.zero : St := ⟨0, 0, 0, 0, 0, 0⟩
def Pl.beginT (p : Pl) : St × Int := if p.checkT = 0 then (⟨p.start, 0, 0, 0, 0, p.age⟩, 0) else (St.zero, p.checkT)
def Pl.hasB (p : Pl) (s : St) : Bool :=
  inI s.level 0 p.top && (inI s.position 0 p.positions && (inI s.p0 0 (if 0 < p.pipe then p.feed else 0) && (inI s.p1 0 (if 1 < p.pipe then p.feed else 0) && (inI s.order 0 p.orders && inI s.age 0 p.age))))
def Pl.goodB (p : Pl) (s : St) : Bool := decide (p.siphon ≤ s.level ∧ s.level ≤ p.bank ∧ p.rate * s.position ≤ p.pass)
def Pl.safeT (p : Pl) (s : St) : Bool × Int := if p.checkT = 0 then (if p.hasB s = true then (p.goodB s, 0) else (false, 320)) else (false, p.checkT)

def Cn.okB (c : Cn) : Bool := decide ((0 ≤ c.var ∧ c.var ≤ 4) ∧ (1 ≤ c.op ∧ c.op ≤ 5) ∧ (0 ≤ c.n ∧ c.n ≤ 1099511627776))
def Ln.okB (l : Ln) : Bool := decide (l.conds.length ≤ 4) && (decide (0 ≤ l.set ∧ l.set ≤ 1099511627776) && l.conds.all Cn.okB)
def gateB (code : List Ln) : Bool := decide (code.length ≤ 64) && code.all Ln.okB
def gateT (code : List Ln) : Int := if gateB code = true then 0 else 310
structure Vr where
  (v0 v1 v2 v3 v4 : Int)
abbrev Vr.v (r : Vr) : Value := .agg #[.int .i64 r.v0, .int .i64 r.v1, .int .i64 r.v2, .int .i64 r.v3, .int .i64 r.v4]
def Vr.at (r : Vr) (i : Int) : Int := if i = 0 then r.v0 else if i = 1 then r.v1 else if i = 2 then r.v2 else if i = 3 then r.v3 else r.v4
def Cn.holdsB (c : Cn) (x : Int) : Bool := if c.op = 1 then decide (x < c.n) else if c.op = 2 then decide (x ≤ c.n) else if c.op = 3 then decide (x = c.n) else if c.op = 4 then decide (c.n ≤ x) else decide (c.n < x)
def Ln.holdsB (l : Ln) (r : Vr) : Bool := l.conds.all fun c => c.holdsB (r.at c.var)
def firstT (code : List Ln) (r : Vr) : Int × Bool := match code.find? (·.holdsB r) with | some l => (l.set, true) | none => (0, false)
def runT (code : List Ln) (r : Vr) : Int × Bool × Int := if gateB code = true then ((firstT code r).1, (firstT code r).2, 0) else (0, false, 310)

def heardT (p : Pl) (s : St) (x : Sh) : Int × Int := if 0 ≤ x.msg then (x.msg, 0) else (s.order, min (s.age + 1) p.age)
def fedT (p : Pl) (s : St) (x : Sh) : Int × Int × Int := if p.pipe = 0 then (x.feed, s.p1, 0) else if p.pipe = 1 then (s.p0, x.feed, 0) else (s.p0, s.p1, x.feed)
def varsT (p : Pl) (s : St) (x : Sh) : Vr := ⟨s.level, s.position, (heardT p s x).1, (heardT p s x).2, (fedT p s x).1⟩
def movedT (p : Pl) (code : List Ln) (s : St) (x : Sh) : Int :=
  if (firstT code (varsT p s x)).2 = true then max (s.position - p.step) (min (s.position + p.step) (min (firstT code (varsT p s x)).1 p.positions)) else s.position
def outT (p : Pl) (code : List Ln) (s : St) (x : Sh) : Int := min (s.level + (fedT p s x).1) (p.rate * movedT p code s x)
def stepT (p : Pl) (code : List Ln) (s : St) (x : Sh) : St :=
  ⟨min p.top (s.level + (fedT p s x).1 - outT p code s x), movedT p code s x, (fedT p s x).2.1, (fedT p s x).2.2, (heardT p s x).1, (heardT p s x).2⟩
def chosenB (p : Pl) (x : Sh) : Bool := inI x.feed 0 p.feed && inI x.msg (-1) p.orders
def nextT (p : Pl) (code : List Ln) (s : St) (x : Sh) : St × Int × Int :=
  if p.checkT = 0 then (if gateT code = 0 then (if p.hasB s = true then (if chosenB p x = true then (stepT p code s x, outT p code s x, 0) else (St.zero, 0, 1)) else (St.zero, 0, 320)) else (St.zero, 0, gateT code)) else (St.zero, 0, p.checkT)

theorem Pl.valid_of {p : Pl} (h : p.validB = true) : p.Valid := of_decide_eq_true h
theorem Pl.check_zero {p : Pl} (h : p.checkT = 0) : p.Valid ∧ p.countI ≤ 4096 := by
  unfold Pl.checkT at h
  split at h
  · rename_i hv
    split at h
    · omega
    · exact ⟨Pl.valid_of hv, by omega⟩
  · omega
theorem Pl.bounds_all (p : Pl) : p.validB = p.bounds.all fun t => inI t.1 t.2.1 t.2.2 := by
  rw [Bool.eq_iff_iff]
  simp only [Pl.validB, Pl.bounds, inI, List.all_cons, List.all_nil, Bool.and_true, Bool.and_eq_true, decide_eq_true_eq]
  exact ⟨fun ⟨a, b, c, d, e, f, g, h, i, j, k, l⟩ => ⟨a, b, c, d, e, f, g, h, i, j, k, l⟩, fun ⟨a, b, c, d, e, f, g, h, i, j, k, l⟩ => ⟨a, b, c, d, e, f, g, h, i, j, k, l⟩⟩
theorem mul_le4 {a b A B : Int} (ha : 0 ≤ a ∧ a ≤ A) (hb : 0 ≤ b ∧ b ≤ B) : 0 ≤ a * b ∧ a * b ≤ A * B := by
  constructor
  · exact Int.mul_nonneg ha.1 hb.1
  · exact Int.mul_le_mul ha.2 hb.2 hb.1 (by omega)
theorem Pl.sizes {p : Pl} (h : p.Valid) : (0 ≤ (p.top + 1) * (p.positions + 1) ∧ (p.top + 1) * (p.positions + 1) ≤ 1024) ∧ (0 ≤ (p.top + 1) * (p.positions + 1) * (p.orders + 1) ∧ (p.top + 1) * (p.positions + 1) * (p.orders + 1) ≤ 8192) ∧
    (0 ≤ p.sizeI ∧ p.sizeI ≤ 65536) ∧ (0 ≤ p.sizeI * (p.feed + 1) ∧ p.sizeI * (p.feed + 1) ≤ 1048576) ∧ 0 ≤ p.sizeI * (p.feed + 1) * (p.feed + 1) ∧ p.sizeI * (p.feed + 1) * (p.feed + 1) ≤ 16777216 := by
  obtain ⟨h1, _, _, _, h2, _, _, _, h3, _, h4, h5⟩ := h
  have a1 := mul_le4 (a := p.top + 1) (b := p.positions + 1) (A := 64) (B := 16) (by omega) (by omega)
  have a2 := mul_le4 (b := p.orders + 1) (B := 8) a1 (by omega)
  have a3 := mul_le4 (b := p.age + 1) (B := 8) a2 (by omega)
  have a4 := mul_le4 (b := p.feed + 1) (B := 16) a3 (by omega)
  have a5 := mul_le4 (b := p.feed + 1) (B := 16) a4 (by omega)
  unfold Pl.sizeI
  exact ⟨by omega, by omega, by omega, by omega, by omega⟩

end Go.Proofs.Ytcjcjkomcolgeaa

/-
  Barriers as plain data, and what the functions of chapter 33 compute: Holds, Check. No condition.
-/
namespace Go.Proofs.Ytcjcjkomcolgeaa
open Go.RowKit

structure Iq where
  (level position pipe order age most : Int)
structure Fw where
  kind : Int
  st : St
  sh : Sh
def Sh.zero : Sh := ⟨0, 0⟩
def Fw.zero : Fw := ⟨0, St.zero, Sh.zero⟩
abbrev Iq.v (x : Iq) : Value := .agg #[.int .i64 x.level, .int .i64 x.position, .int .i64 x.pipe, .int .i64 x.order, .int .i64 x.age, .int .i64 x.most]
abbrev Iq.cells (x : Iq) : List Value := [.int .i64 x.level, .int .i64 x.position, .int .i64 x.pipe, .int .i64 x.order, .int .i64 x.age, .int .i64 x.most]
def iqCell (x : Iq) (j : Nat) : Value := .int .i64 (if j = 0 then x.level else if j = 1 then x.position else if j = 2 then x.pipe else if j = 3 then x.order else if j = 4 then x.age else x.most)
def Iq.zero : Iq := ⟨0, 0, 0, 0, 0, 0⟩
def BarAt (w : World) (B : Nat) (v : Value) (b : List Iq) : Prop := Sl w B 6 b.length (fun i j => iqCell (b.getD i Iq.zero) j) v
theorem BarAt.below {w w' : World} {B : Nat} {v : Value} {b : List Iq} (h : BarAt w B v b) (hb : Below B w w') : BarAt w' B v b := Sl.below h hb
theorem BarAt.more {w : World} {B B' : Nat} {v : Value} {b : List Iq} (h : BarAt w B v b) (hb : B ≤ B') : BarAt w B' v b := Sl.more h hb
theorem BarAt.later {w w' : World} {v : Value} {b : List Iq} (h : BarAt w w.heap.size v b) (hb : Below w.heap.size w w') : BarAt w' w'.heap.size v b := (h.below hb).more hb.size
theorem BarAt.form {w : World} {B : Nat} {v : Value} {b : List Iq} (h : BarAt w B v b) : ∃ A c, v = .slice A b.length c ∧ b.length ≤ maxLen := by
  obtain ⟨A, c, hv, hn, _⟩ := h
  exact ⟨A, c, hv, hn⟩
theorem BarAt.ineq {w : World} {B : Nat} {A : Option Addr} {n c : Nat} {b : List Iq} (h : BarAt w B (.slice A n c) b) {k : Nat} (hk : k < b.length) :
    ∃ g off, A = some ⟨g, off, none⟩ ∧ g < B ∧ w.cell? ⟨g, off + k * 6, none⟩ = some (.int .i64 (b[k]).level) ∧ w.cell? ⟨g, off + k * 6 + 1, none⟩ = some (.int .i64 (b[k]).position) ∧ w.cell? ⟨g, off + k * 6 + 2, none⟩ = some (.int .i64 (b[k]).pipe) ∧ w.cell? ⟨g, off + k * 6 + 3, none⟩ = some (.int .i64 (b[k]).order) ∧ w.cell? ⟨g, off + k * 6 + 4, none⟩ = some (.int .i64 (b[k]).age) ∧ w.cell? ⟨g, off + k * 6 + 5, none⟩ = some (.int .i64 (b[k]).most) := by
  obtain ⟨A', c', hv, _, h1⟩ := h
  cases hv
  obtain ⟨g, off, rfl, hb, h3⟩ := h1 k hk
  have e : b.getD k Iq.zero = b[k] := by rw [List.getD_eq_getElem?_getD, List.getElem?_eq_getElem hk]; rfl
  have c0 := h3 0 (by omega)
  have c1 := h3 1 (by omega)
  have c2 := h3 2 (by omega)
  have c3 := h3 3 (by omega)
  have c4 := h3 4 (by omega)
  have c5 := h3 5 (by omega)
  simp only [e] at c0 c1 c2 c3 c4 c5
  exact ⟨g, off, rfl, hb, c0, by rw [Nat.add_assoc]; exact c1, by rw [Nat.add_assoc]; exact c2, by rw [Nat.add_assoc]; exact c3, by rw [Nat.add_assoc]; exact c4, by rw [Nat.add_assoc]; exact c5⟩

def Iq.okB (x : Iq) : Bool := inI x.level (-1048576) 1048576 && (inI x.position (-1048576) 1048576 && (inI x.pipe (-1048576) 1048576 && (inI x.order (-1048576) 1048576 && (inI x.age (-1048576) 1048576 && inI x.most (-1048576) 1048576))))
def barT (b : List Iq) : Int := if b.length ≤ 16 then (if b.all Iq.okB = true then 0 else 330) else 2
def Iq.sum (x : Iq) (s : St) : Int := x.level * s.level + x.position * s.position + x.pipe * (s.p0 + s.p1) + x.order * s.order + x.age * s.age
def inB (b : List Iq) (s : St) : Bool := b.all fun x => decide (x.sum s ≤ x.most)
def St.numsB (s : St) : Bool := inI s.level 0 1048576 && (inI s.position 0 1048576 && (inI s.p0 0 1048576 && (inI s.p1 0 1048576 && (inI s.order 0 1048576 && inI s.age 0 1048576))))
def holdsT (b : List Iq) (s : St) : Bool × Int := if barT b = 0 then (if s.numsB = true then (inB b s, 0) else (false, 1)) else (false, barT b)
def Pl.n0 (p : Pl) : Nat := (p.positions + 1).toNat
def Pl.nx (p : Pl) : Nat := if p.pipe = 0 then 1 else (p.feed + 1).toNat
def Pl.ny (p : Pl) : Nat := if p.pipe = 2 then (p.feed + 1).toNat else 1
def Pl.no (p : Pl) : Nat := (p.orders + 1).toNat
def Pl.na (p : Pl) : Nat := (p.age + 1).toNat
def Pl.count (p : Pl) : Nat := (p.top + 1).toNat * (p.n0 * (p.nx * (p.ny * (p.no * p.na))))
def Pl.stAt (p : Pl) (k : Nat) : St :=
  ⟨(k / (p.n0 * (p.nx * (p.ny * (p.no * p.na)))) : Nat), (k / (p.nx * (p.ny * (p.no * p.na))) % p.n0 : Nat), (k / (p.ny * (p.no * p.na)) % p.nx : Nat), (k / (p.no * p.na) % p.ny : Nat), (k / p.na % p.no : Nat), (k % p.na : Nat)⟩
def Pl.states (p : Pl) : List St := (List.range p.count).map p.stAt
def Pl.nm (p : Pl) : Nat := (p.orders + 2).toNat
def Pl.shAt (p : Pl) (k : Nat) : Sh := ⟨(k / p.nm : Nat), ((k % p.nm : Nat) : Int) - 1⟩
def Pl.shocks (p : Pl) : List Sh := (List.range ((p.feed + 1).toNat * p.nm)).map p.shAt
def Pl.safeB (p : Pl) (s : St) : Bool := (p.safeT s).1
def flawAt (p : Pl) (c : List Ln) (b : List Iq) (s : St) : Option Fw :=
  if inB b s = true then (if p.safeB s = true then (p.shocks.find? fun x => !inB b (nextT p c s x).1).map (fun x => ⟨3, s, x⟩) else some ⟨2, s, Sh.zero⟩) else none
def askT (p : Pl) (c : List Ln) : Int := if p.checkT = 0 then gateT c else p.checkT
def certT (p : Pl) (c : List Ln) (b : List Iq) : Bool × Fw × Int :=
  if askT p c = 0 then (if barT b = 0 then (if inB b p.beginT.1 = true then (match p.states.findSome? (flawAt p c b) with
    | some f => (false, f, 0)
    | none => (true, Fw.zero, 0)) else (false, ⟨1, p.beginT.1, Sh.zero⟩, 0)) else (false, Fw.zero, barT b)) else (false, Fw.zero, askT p c)
/-! The sums that decide whether a state is in fit into an int. -/
theorem mul_bd {a b A B : Int} (ha : -A ≤ a ∧ a ≤ A) (hb : -B ≤ b ∧ b ≤ B) : -(A * B) ≤ a * b ∧ a * b ≤ A * B := by
  have h1 : a.natAbs ≤ A.natAbs := by omega
  have h2 : b.natAbs ≤ B.natAbs := by omega
  have h3 : (a * b).natAbs ≤ A.natAbs * B.natAbs := by rw [Int.natAbs_mul]; exact Nat.mul_le_mul h1 h2
  have h4 : ((A.natAbs * B.natAbs : Nat) : Int) = A * B := by
    rw [Int.natCast_mul, Int.natAbs_of_nonneg (by omega), Int.natAbs_of_nonneg (by omega)]
  omega
end Go.Proofs.Ytcjcjkomcolgeaa

/-
  Barriers: the states are those that a plant has; what a certificate says. Plain facts. No condition.
-/
namespace Go.Proofs.Ytcjcjkomcolgeaa
open Go.RowKit

theorem inI_in {n lo hi : Int} (h : lo ≤ n ∧ n ≤ hi) : inI n lo hi = true := decide_eq_true h
theorem digits {n m : Nat} {k : Nat} (hm : 0 < m) : k / m < n ↔ k < n * m := Nat.div_lt_iff_lt_mul hm
section
variable {p : Pl}
theorem Pl.Valid.ns (hv : p.Valid) : 0 < p.n0 ∧ 0 < p.nx ∧ 0 < p.ny ∧ 0 < p.no ∧ 0 < p.na := by
  have h1 := hv.positions
  have h2 := hv.feed
  have h3 := hv.orders
  have h4 := hv.age
  refine ⟨?_, ?_, ?_, ?_, ?_⟩
  · unfold Pl.n0; omega
  · unfold Pl.nx; split <;> omega
  · unfold Pl.ny; split <;> omega
  · unfold Pl.no; omega
  · unfold Pl.na; omega
theorem Pl.Valid.maxes (hv : p.Valid) : ((p.nx : Int) - 1 = if 0 < p.pipe then p.feed else 0) ∧ ((p.ny : Int) - 1 = if 1 < p.pipe then p.feed else 0) := by
  have h2 := hv.feed
  have h3 := hv.pipe
  unfold Pl.nx Pl.ny
  constructor
  · split <;> split <;> omega
  · split <;> split <;> omega
theorem stAt_has (hv : p.Valid) {k : Nat} (hk : k < p.count) : p.hasB (p.stAt k) = true := by
  obtain ⟨a, b, c, d, e⟩ := hv.ns
  obtain ⟨m1, m2⟩ := hv.maxes
  have h1 := hv.positions
  have h2 := hv.top
  have h3 := hv.orders
  have h4 := hv.age
  have hM : 0 < p.n0 * (p.nx * (p.ny * (p.no * p.na))) := by
    refine Nat.mul_pos a (Nat.mul_pos b (Nat.mul_pos c (Nat.mul_pos d e)))
  have t0 : k / (p.n0 * (p.nx * (p.ny * (p.no * p.na)))) < (p.top + 1).toNat := (digits hM).2 hk
  have t1 := Nat.mod_lt (k / (p.nx * (p.ny * (p.no * p.na)))) a
  have t2 := Nat.mod_lt (k / (p.ny * (p.no * p.na))) b
  have t3 := Nat.mod_lt (k / (p.no * p.na)) c
  have t4 := Nat.mod_lt (k / p.na) d
  have t5 := Nat.mod_lt k e
  have e0 : (p.n0 : Int) = p.positions + 1 := by unfold Pl.n0; omega
  have e1 : (p.no : Int) = p.orders + 1 := by unfold Pl.no; omega
  have e2 : (p.na : Int) = p.age + 1 := by unfold Pl.na; omega
  rw [Pl.hasB, ← m1, ← m2]
  unfold Pl.stAt
  dsimp only
  generalize k / (p.n0 * (p.nx * (p.ny * (p.no * p.na)))) = q0 at t0 ⊢
  generalize k / (p.nx * (p.ny * (p.no * p.na))) % p.n0 = q1 at t1 ⊢
  generalize k / (p.ny * (p.no * p.na)) % p.nx = q2 at t2 ⊢
  generalize k / (p.no * p.na) % p.ny = q3 at t3 ⊢
  generalize k / p.na % p.no = q4 at t4 ⊢
  generalize k % p.na = q5 at t5 ⊢
  clear hM hk
  rw [inI_in (by omega), inI_in (by omega), inI_in (by omega), inI_in (by omega), inI_in (by omega), inI_in (by omega)]
  rfl
theorem states_has (hv : p.Valid) {s : St} (h : s ∈ p.states) : p.hasB s = true := by
  obtain ⟨k, hk, rfl⟩ := List.mem_map.1 h
  exact stAt_has hv (List.mem_range.1 hk)
theorem div_step {q n r : Nat} (hr : r < n) : (q * n + r) / n = q ∧ (q * n + r) % n = r := by
  constructor
  · rw [Nat.add_comm, Nat.add_mul_div_right _ _ (by omega), Nat.div_eq_of_lt hr, Nat.zero_add]
  · rw [Nat.add_comm, Nat.add_mul_mod_self_right, Nat.mod_eq_of_lt hr]
theorem shocks_mem (hv : p.Valid) {x : Sh} : x ∈ p.shocks ↔ chosenB p x = true := by
  have h2 := hv.feed
  have h3 := hv.orders
  have em : (p.nm : Int) = p.orders + 2 := by unfold Pl.nm; omega
  have hm : 0 < p.nm := by omega
  constructor
  · intro h
    obtain ⟨k, hk, rfl⟩ := List.mem_map.1 h
    have hk := List.mem_range.1 hk
    have t0 := (digits hm).2 hk
    have t1 := Nat.mod_lt k hm
    rw [chosenB]
    unfold Pl.shAt
    dsimp only
    generalize k / p.nm = q0 at t0 ⊢
    generalize k % p.nm = q1 at t1 ⊢
    rw [inI_in (by omega), inI_in (by omega)]
    rfl
  · intro h
    simp only [chosenB, Bool.and_eq_true, inI, decide_eq_true_eq] at h
    obtain ⟨d1, r1⟩ := div_step (q := x.feed.toNat) (n := p.nm) (r := (x.msg + 1).toNat) (by omega)
    refine List.mem_map.2 ⟨x.feed.toNat * p.nm + (x.msg + 1).toNat, List.mem_range.2 ((digits hm).1 (by rw [d1]; omega)), ?_⟩
    unfold Pl.shAt
    rw [d1, r1]
    obtain ⟨f, m⟩ := x
    dsimp only at h ⊢
    congr 1 <;> omega
end
structure Cert (p : Pl) (c : List Ln) (b : List Iq) : Prop where
  begin : inB b p.beginT.1 = true
  safe : ∀ s ∈ p.states, inB b s = true → p.safeB s = true
  stay : ∀ s ∈ p.states, inB b s = true → ∀ x ∈ p.shocks, inB b (nextT p c s x).1 = true
theorem flaw_none {p : Pl} {c : List Ln} {b : List Iq} {s : St} : flawAt p c b s = none ↔ (inB b s = true → p.safeB s = true ∧ ∀ x ∈ p.shocks, inB b (nextT p c s x).1 = true) := by
  unfold flawAt
  by_cases h1 : inB b s = true
  · rw [if_pos h1]
    by_cases h2 : p.safeB s = true
    · rw [if_pos h2]
      simp only [Option.map_eq_none_iff, List.find?_eq_none]
      simp [h1, h2]
    · rw [if_neg h2]
      simp [h1, h2]
  · rw [if_neg h1]
    simp [h1]
end Go.Proofs.Ytcjcjkomcolgeaa

/-
  Barriers: a lesser feed, an inequality that follows from the others, what a flaw says. Plain facts. No condition.
-/
namespace Go.Proofs.Ytcjcjkomcolgeaa
open Go.RowKit

def Pl.fed (p : Pl) (f : Int) : Pl := ⟨p.top, p.bank, p.siphon, p.start, p.positions, p.rate, p.step, p.pass, f, p.pipe, p.orders, p.age⟩
theorem ask_zero {p : Pl} {c : List Ln} (h : askT p c = 0) : p.checkT = 0 ∧ gateT c = 0 := by
  unfold askT at h
  split at h
  · exact ⟨by assumption, h⟩
  · rename_i h2; exact absurd h h2
structure Said (p : Pl) (c : List Ln) (b : List Iq) (f : Fw) : Prop where
  is : (f.kind = 1 ∧ inB b f.st = false ∧ f.st = p.beginT.1 ∧ f.sh = Sh.zero) ∨ (f.kind = 2 ∧ p.hasB f.st = true ∧ inB b f.st = true ∧ p.safeB f.st = false ∧ f.sh = Sh.zero) ∨
    (f.kind = 3 ∧ p.hasB f.st = true ∧ inB b f.st = true ∧ p.safeB f.st = true ∧ chosenB p f.sh = true ∧ inB b (nextT p c f.st f.sh).1 = false)
end Go.Proofs.Ytcjcjkomcolgeaa

/-
  Cascades as plain data, and what Check and Certified of chapter 35 compute. No condition.
-/
namespace Go.Proofs.Ytcjcjkomcolgeaa
open Go.RowKit

structure Cs where
  plants : List Pl
  codes : List (List Ln)
  bars : List (List Iq)
def Pl.zero : Pl := ⟨0, 0, 0, 0, 0, 0, 0, 0, 0, 0, 0, 0⟩
def plCell (p : Pl) (j : Nat) : Value := (p.cells).getD j undef
def PlsAt (w : World) (B : Nat) (v : Value) (l : List Pl) : Prop := Sl w B 12 l.length (fun i j => plCell (l.getD i Pl.zero) j) v
def CodesAt (w : World) (B : Nat) (v : Value) (l : List (List Ln)) : Prop := ∃ V : Nat → Value, Sl w B 1 l.length (fun i _ => V i) v ∧ ∀ (i : Nat) (c : List Ln), l[i]? = some c → CodeAt w B (V i) c
def BarsAt (w : World) (B : Nat) (v : Value) (l : List (List Iq)) : Prop := ∃ V : Nat → Value, Sl w B 1 l.length (fun i _ => V i) v ∧ ∀ (i : Nat) (b : List Iq), l[i]? = some b → BarAt w B (V i) b
structure CsAt (w : World) (B : Nat) (Vp Vc Vb : Value) (x : Cs) : Prop where
  plants : PlsAt w B Vp x.plants
  codes : CodesAt w B Vc x.codes
  bars : BarsAt w B Vb x.bars
section
variable {w w' : World} {B B' : Nat} {v Vp Vc Vb : Value}
theorem PlsAt.below {l : List Pl} (h : PlsAt w B v l) (hb : Below B w w') : PlsAt w' B v l := Sl.below h hb
theorem PlsAt.more {l : List Pl} (h : PlsAt w B v l) (hb : B ≤ B') : PlsAt w B' v l := Sl.more h hb
theorem CodesAt.below {l : List (List Ln)} (h : CodesAt w B v l) (hb : Below B w w') : CodesAt w' B v l := by
  obtain ⟨V, h1, h2⟩ := h
  exact ⟨V, h1.below hb, fun i c hc => (h2 i c hc).below hb⟩
theorem CodesAt.more {l : List (List Ln)} (h : CodesAt w B v l) (hb : B ≤ B') : CodesAt w B' v l := by
  obtain ⟨V, h1, h2⟩ := h
  exact ⟨V, h1.more hb, fun i c hc => (h2 i c hc).more hb⟩
theorem BarsAt.below {l : List (List Iq)} (h : BarsAt w B v l) (hb : Below B w w') : BarsAt w' B v l := by
  obtain ⟨V, h1, h2⟩ := h
  exact ⟨V, h1.below hb, fun i c hc => (h2 i c hc).below hb⟩
theorem BarsAt.more {l : List (List Iq)} (h : BarsAt w B v l) (hb : B ≤ B') : BarsAt w B' v l := by
  obtain ⟨V, h1, h2⟩ := h
  exact ⟨V, h1.more hb, fun i c hc => (h2 i c hc).more hb⟩
theorem CsAt.later {x : Cs} (h : CsAt w w.heap.size Vp Vc Vb x) (hb : Below w.heap.size w w') : CsAt w' w'.heap.size Vp Vc Vb x :=
  ⟨(h.plants.below hb).more hb.size, (h.codes.below hb).more hb.size, (h.bars.below hb).more hb.size⟩
theorem PlsAt.plant {A : Option Addr} {n c : Nat} {l : List Pl} (h : PlsAt w B (.slice A n c) l) {k : Nat} (hk : k < l.length) :
    ∃ b off, A = some ⟨b, off, none⟩ ∧ b < B ∧ ∀ j, j < 12 → w.cell? ⟨b, off + (k * 12 + j), none⟩ = some (((l[k]).cells).getD j undef) := by
  obtain ⟨A', c', hv, _, h1⟩ := h
  cases hv
  obtain ⟨b, off, rfl, hb, h3⟩ := h1 k hk
  have e : l.getD k Pl.zero = l[k] := by rw [List.getD_eq_getElem?_getD, List.getElem?_eq_getElem hk]; rfl
  refine ⟨b, off, rfl, hb, fun j hj => ?_⟩
  have := h3 j hj
  simp only [plCell, e] at this
  exact this
theorem CodesAt.code {A : Option Addr} {n c : Nat} {l : List (List Ln)} (h : CodesAt w B (.slice A n c) l) {k : Nat} (hk : k < l.length) :
    ∃ b off V, A = some ⟨b, off, none⟩ ∧ b < B ∧ w.cell? ⟨b, off + k, none⟩ = some V ∧ CodeAt w B V l[k] := by
  obtain ⟨V, ⟨A', c', hv, _, h1⟩, h2⟩ := h
  cases hv
  obtain ⟨b, off, rfl, hb, h3⟩ := h1 k hk
  have := h3 0 (by omega)
  rw [Nat.mul_one, Nat.add_zero] at this
  exact ⟨b, off, V k, rfl, hb, this, h2 k _ (List.getElem?_eq_getElem hk)⟩
theorem BarsAt.bar {A : Option Addr} {n c : Nat} {l : List (List Iq)} (h : BarsAt w B (.slice A n c) l) {k : Nat} (hk : k < l.length) :
    ∃ b off V, A = some ⟨b, off, none⟩ ∧ b < B ∧ w.cell? ⟨b, off + k, none⟩ = some V ∧ BarAt w B V l[k] := by
  obtain ⟨V, ⟨A', c', hv, _, h1⟩, h2⟩ := h
  cases hv
  obtain ⟨b, off, rfl, hb, h3⟩ := h1 k hk
  have := h3 0 (by omega)
  rw [Nat.mul_one, Nat.add_zero] at this
  exact ⟨b, off, V k, rfl, hb, this, h2 k _ (List.getElem?_eq_getElem hk)⟩
end
def Cs.gateT (x : Cs) (i : Nat) : Int :=
  if (x.plants.getD i Pl.zero).checkT = 0 then (if _root_.Go.Proofs.Ytcjcjkomcolgeaa.gateT (x.codes.getD i []) = 0 then barT (x.bars.getD i []) else _root_.Go.Proofs.Ytcjcjkomcolgeaa.gateT (x.codes.getD i [])) else (x.plants.getD i Pl.zero).checkT
def firstErr (f : Nat → Int) : List Nat → Int
  | [] => 0
  | i :: l => if f i = 0 then firstErr f l else f i
def Cs.checkT (x : Cs) : Int :=
  if x.plants.length ≤ 8 then (if x.plants.length = 0 ∨ x.codes.length ≠ x.plants.length ∨ x.bars.length ≠ x.plants.length then 350 else firstErr x.gateT (List.range x.plants.length)) else 2
def Cs.certB (x : Cs) (i : Nat) : Bool :=
  (certT (x.plants.getD i Pl.zero) (x.codes.getD i []) (x.bars.getD i [])).1 && decide (i = 0 ∨ (x.plants.getD (i - 1) Pl.zero).rate * (x.plants.getD (i - 1) Pl.zero).positions ≤ (x.plants.getD i Pl.zero).feed)
def Cs.certT (x : Cs) : Bool × Int × Int :=
  if x.checkT = 0 then (match (List.range x.plants.length).find? (fun i => !x.certB i) with
    | some i => (false, (i : Int), 0)
    | none => (true, 0, 0)) else (false, 0, x.checkT)
end Go.Proofs.Ytcjcjkomcolgeaa
