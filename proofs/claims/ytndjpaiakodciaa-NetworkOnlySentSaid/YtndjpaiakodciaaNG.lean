/-
  Packets, links and nets as plain data, and what the functions of chapter 6 compute. No condition.
-/
import Derived.Test.YtndjpaiakodciaaKA
namespace Go.Proofs.Ytndjpaiakodciaa
open Go.RowKit

structure Pk where
  (src dst : Int)
  data : List UInt8
structure Net where
  queue : List Pk
  apart : List (Int × Int)

/-- v is a slice of the bytes l. -/
def BytesAt (w : World) (B : Nat) (v : Value) (l : List UInt8) : Prop := Sl w B 1 l.length (fun i _ => .int .u8 ((l.getD i 0).toNat : Int)) v
theorem BytesAt.below {w w' : World} {B : Nat} {v : Value} {l : List UInt8} (h : BytesAt w B v l) (hb : Below B w w') : BytesAt w' B v l := Sl.below h hb
theorem BytesAt.more {w : World} {B B' : Nat} {v : Value} {l : List UInt8} (h : BytesAt w B v l) (hb : B ≤ B') : BytesAt w B' v l := Sl.more h hb
theorem BytesAt.later {w w' : World} {v : Value} {l : List UInt8} (h : BytesAt w w.heap.size v l) (hb : Below w.heap.size w w') : BytesAt w' w'.heap.size v l := (h.below hb).more hb.size
theorem BytesAt.form {w : World} {B : Nat} {v : Value} {l : List UInt8} (h : BytesAt w B v l) : ∃ A c, v = .slice A l.length c ∧ l.length ≤ maxLen := by
  obtain ⟨A, c, hv, hn, _⟩ := h
  exact ⟨A, c, hv, hn⟩
theorem bytesAt_nil (w : World) (B : Nat) : BytesAt w B (.slice none 0 0) [] := ⟨none, 0, rfl, Nat.zero_le _, fun i hi => by simp at hi⟩

def pkCells (q : List Pk) (V : Nat → Value) (i j : Nat) : Value := if j = 0 then .int .i64 (q.getD i ⟨0, 0, []⟩).src else if j = 1 then .int .i64 (q.getD i ⟨0, 0, []⟩).dst else V i
/-- v is a slice of the packets q. -/
def PksAt (w : World) (B : Nat) (v : Value) (q : List Pk) : Prop :=
  SlF v ∧ ∃ V : Nat → Value, Sl w B 3 q.length (pkCells q V) v ∧ ∀ (i : Nat) (p : Pk), q[i]? = some p → BytesAt w B (V i) p.data
theorem PksAt.below {w w' : World} {B : Nat} {v : Value} {q : List Pk} (h : PksAt w B v q) (hb : Below B w w') : PksAt w' B v q := by
  obtain ⟨h0, V, h1, h2⟩ := h
  exact ⟨h0, V, h1.below hb, fun i l hl => (h2 i l hl).below hb⟩
theorem PksAt.more {w : World} {B B' : Nat} {v : Value} {q : List Pk} (h : PksAt w B v q) (hb : B ≤ B') : PksAt w B' v q := by
  obtain ⟨h0, V, h1, h2⟩ := h
  exact ⟨h0, V, h1.more hb, fun i l hl => (h2 i l hl).more hb⟩
theorem PksAt.later {w w' : World} {v : Value} {q : List Pk} (h : PksAt w w.heap.size v q) (hb : Below w.heap.size w w') : PksAt w' w'.heap.size v q := (h.below hb).more hb.size
theorem PksAt.form {w : World} {B : Nat} {v : Value} {q : List Pk} (h : PksAt w B v q) : ∃ A c, v = .slice A q.length c ∧ q.length ≤ maxLen := by
  obtain ⟨_, V, ⟨A, c, hv, hn, _⟩, _⟩ := h
  exact ⟨A, c, hv, hn⟩
theorem pksAt_nil (w : World) (B : Nat) : PksAt w B (.slice none 0 0) [] := ⟨.inl rfl, fun _ => undef, ⟨none, 0, rfl, Nat.zero_le _, fun i hi => by simp at hi⟩, fun i l hl => by simp at hl⟩
/-- A packet is read. -/
theorem PksAt.pk {w : World} {B : Nat} {A : Option Addr} {n c : Nat} {q : List Pk} (h : PksAt w B (.slice A n c) q) {k : Nat} (hk : k < q.length) :
    ∃ b off V, A = some ⟨b, off, none⟩ ∧ b < B ∧ w.cell? ⟨b, off + k * 3, none⟩ = some (.int .i64 (q[k]).src) ∧ w.cell? ⟨b, off + k * 3 + 1, none⟩ = some (.int .i64 (q[k]).dst) ∧ w.cell? ⟨b, off + k * 3 + 2, none⟩ = some V ∧ BytesAt w B V (q[k]).data := by
  obtain ⟨_, V, ⟨A', c', hv, _, h1⟩, h2⟩ := h
  cases hv
  obtain ⟨b, off, rfl, hb, h3⟩ := h1 k hk
  have e : q[k]? = some q[k] := List.getElem?_eq_getElem hk
  have eg : q.getD k ⟨0, 0, []⟩ = q[k] := by rw [List.getD_eq_getElem?_getD, e]; rfl
  have c0 := h3 0 (by omega)
  have c1 := h3 1 (by omega)
  have c2 := h3 2 (by omega)
  simp only [pkCells, eg] at c0 c1 c2
  exact ⟨b, off, V k, rfl, hb, c0, by rw [Nat.add_assoc]; exact c1, by rw [Nat.add_assoc]; exact c2, h2 k _ e⟩

/-- v is a slice of pairs. -/
def lkCells (l : List (Int × Int)) (i j : Nat) : Value := if j = 0 then .int .i64 (l.getD i (0, 0)).1 else .int .i64 (l.getD i (0, 0)).2
def LksAt (w : World) (B : Nat) (v : Value) (l : List (Int × Int)) : Prop := SlF v ∧ Sl w B 2 l.length (lkCells l) v
theorem LksAt.below {w w' : World} {B : Nat} {v : Value} {l : List (Int × Int)} (h : LksAt w B v l) (hb : Below B w w') : LksAt w' B v l := ⟨h.1, h.2.below hb⟩
theorem LksAt.more {w : World} {B B' : Nat} {v : Value} {l : List (Int × Int)} (h : LksAt w B v l) (hb : B ≤ B') : LksAt w B' v l := ⟨h.1, h.2.more hb⟩
theorem LksAt.later {w w' : World} {v : Value} {l : List (Int × Int)} (h : LksAt w w.heap.size v l) (hb : Below w.heap.size w w') : LksAt w' w'.heap.size v l := (h.below hb).more hb.size
theorem LksAt.form {w : World} {B : Nat} {v : Value} {l : List (Int × Int)} (h : LksAt w B v l) : ∃ A c, v = .slice A l.length c ∧ l.length ≤ maxLen := by
  obtain ⟨_, A, c, hv, hn, _⟩ := h
  exact ⟨A, c, hv, hn⟩
theorem lksAt_nil (w : World) (B : Nat) : LksAt w B (.slice none 0 0) [] := ⟨.inl rfl, none, 0, rfl, Nat.zero_le _, fun i hi => by simp at hi⟩
theorem LksAt.lk {w : World} {B : Nat} {A : Option Addr} {n c : Nat} {l : List (Int × Int)} (h : LksAt w B (.slice A n c) l) (hn : 0 < l.length) :
    ∃ b off, A = some ⟨b, off, none⟩ ∧ b < B ∧ ∀ k, k < l.length → w.cell? ⟨b, off + k * 2, none⟩ = some (.int .i64 (l.getD k (0, 0)).1) ∧ w.cell? ⟨b, off + k * 2 + 1, none⟩ = some (.int .i64 (l.getD k (0, 0)).2) := by
  obtain ⟨_, A', c', hv, _, h1⟩ := h
  cases hv
  obtain ⟨b, off, rfl, hb, _⟩ := h1 0 hn
  refine ⟨b, off, rfl, hb, fun k hk => ?_⟩
  obtain ⟨b', off', e', _, h3⟩ := h1 k hk
  cases e'
  exact ⟨h3 0 (by omega), by rw [Nat.add_assoc]; exact h3 1 (by omega)⟩

/-- The two slices of a net. -/
structure NetAt (w : World) (B : Nat) (Vq Va : Value) (n : Net) : Prop where
  queue : PksAt w B Vq n.queue
  apart : LksAt w B Va n.apart
theorem NetAt.below {w w' : World} {B : Nat} {Vq Va : Value} {n : Net} (h : NetAt w B Vq Va n) (hb : Below B w w') : NetAt w' B Vq Va n := ⟨h.queue.below hb, h.apart.below hb⟩
theorem NetAt.more {w : World} {B B' : Nat} {Vq Va : Value} {n : Net} (h : NetAt w B Vq Va n) (hb : B ≤ B') : NetAt w B' Vq Va n := ⟨h.queue.more hb, h.apart.more hb⟩
theorem NetAt.later {w w' : World} {Vq Va : Value} {n : Net} (h : NetAt w w.heap.size Vq Va n) (hb : Below w.heap.size w w') : NetAt w' w'.heap.size Vq Va n := (h.below hb).more hb.size
def Net.zero : Net := ⟨[], []⟩
theorem netAt_zero (w : World) (B : Nat) : NetAt w B (.slice none 0 0) (.slice none 0 0) Net.zero := ⟨pksAt_nil w B, lksAt_nil w B⟩

/-- What the functions compute. -/
def siteB (n : Int) : Bool := decide (0 ≤ n ∧ n < 24)
def linkB (a b : Int) : Bool := decide (0 ≤ a ∧ a < b ∧ b < 24)
def Pk.okB (p : Pk) : Bool := linkB (min p.src p.dst) (max p.src p.dst) && decide (p.data.length ≤ 1048576)
def cmpI (x y : Int) : Int := if x < y then -1 else if y < x then 1 else 0
def cmpP (x y : Int × Int) : Int := if cmpI x.1 y.1 ≠ 0 then cmpI x.1 y.1 else cmpI x.2 y.2
def okAt (l : List (Int × Int)) (i : Nat) : Bool := linkB (l.getD i (0, 0)).1 (l.getD i (0, 0)).2 && (decide (i = 0) || decide (cmpP (l.getD (i - 1) (0, 0)) (l.getD i (0, 0)) < 0))
def apartB (l : List (Int × Int)) : Bool := (List.range l.length).all (okAt l)
def Net.okB (n : Net) : Bool := decide (n.queue.length ≤ 4096) && (n.queue.all Pk.okB && apartB n.apart)
def Net.checkT (n : Net) : Int := if n.okB = true then 0 else 60
def sendT (n : Net) (p : Pk) : Net × Int := if n.okB = true ∧ p.okB = true then (if n.queue.length = 4096 then (Net.zero, 2) else (⟨n.queue ++ [p], n.apart⟩, 0)) else (Net.zero, 60)
def askT (n : Net) (i : Int) : Int := if n.okB = true then (if 0 ≤ i ∧ i < (n.queue.length : Int) then 0 else 1) else 60
def Net.without (n : Net) (i : Nat) : Net := ⟨n.queue.take i ++ n.queue.drop (i + 1), n.apart⟩
def Pk.zero : Pk := ⟨0, 0, []⟩
def Net.pk (n : Net) (i : Int) : Pk := n.queue.getD i.toNat Pk.zero
def cutB (l : List (Int × Int)) (a b : Int) : Bool := l.any fun x => decide (x.1 = min a b) && decide (x.2 = max a b)
def deliverT (n : Net) (i : Int) : Pk × Net × Int := if askT n i = 0 then ((if cutB n.apart (n.pk i).src (n.pk i).dst = true then Pk.zero else n.pk i), n.without i.toNat, 0) else (Pk.zero, Net.zero, askT n i)
def loseT (n : Net) (i : Int) : Net × Int := if askT n i = 0 then (n.without i.toNat, 0) else (Net.zero, askT n i)
def repeatT (n : Net) (i : Int) : Net × Int := if askT n i = 0 then sendT n (n.pk i) else (Net.zero, askT n i)
/-- All links, in order. -/
def allLinks : List (Int × Int) := (List.range 24).flatMap fun a => (List.range (24 - (a + 1))).map fun k => ((a : Int), ((a + 1 + k : Nat) : Int))
def keptB (l : List (Int × Int)) (a b : Int) (on : Bool) (x : Int × Int) : Bool := if x = (min a b, max a b) then on else decide (x ∈ l)
def cutT (n : Net) (a b : Int) (on : Bool) : Net × Int := if n.okB = true then (if linkB (min a b) (max a b) = true then (⟨n.queue, allLinks.filter (keptB n.apart a b on)⟩, 0) else (Net.zero, 1)) else (Net.zero, 60)
def fewN (n : Net) : Bool := decide (n.queue.length ≤ 40) && decide (n.apart.length ≤ 40)
def samePk (a b : Pk) : Bool := decide (a.src = b.src) && (decide (a.dst = b.dst) && decide (a.data = b.data))
def sameNet (a b : Net) : Bool := decide (a.queue.length = b.queue.length) && (decide (a.apart.length = b.apart.length) && ((List.range a.queue.length).all (fun i => samePk (a.queue.getD i Pk.zero) (b.queue.getD i Pk.zero)) && (List.range a.apart.length).all (fun i => decide (a.apart.getD i (0, 0) = b.apart.getD i (0, 0)))))

theorem link_ok {a b : Int} (h : linkB a b = true) : 0 ≤ a ∧ a < b ∧ b < 24 := of_decide_eq_true h
theorem link_no {a b : Int} (h : linkB a b = false) : ¬ (0 ≤ a ∧ a < b ∧ b < 24) := of_decide_eq_false h
/-- The reference's form of a packet's test. -/
theorem Pk.okB_ref (p : Pk) : p.okB = (siteB p.src && (siteB p.dst && (decide (p.src ≠ p.dst) && decide (p.data.length ≤ 1048576)))) := by
  rw [Bool.eq_iff_iff]
  simp only [Pk.okB, linkB, siteB, Bool.and_eq_true, decide_eq_true_eq]
  omega
theorem samePk_refl (a : Pk) : samePk a a = true := by simp [samePk]
theorem samePk_eq {a b : Pk} : samePk a b = true ↔ a = b := by
  obtain ⟨a1, a2, a3⟩ := a
  obtain ⟨b1, b2, b3⟩ := b
  simp [samePk]
theorem sameNet_refl (a : Net) : sameNet a a = true := by simp [sameNet, samePk_refl]

end Go.Proofs.Ytndjpaiakodciaa
