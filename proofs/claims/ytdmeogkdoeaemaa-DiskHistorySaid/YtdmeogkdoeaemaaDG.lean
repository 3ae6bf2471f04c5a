/-
  Disks as plain data, and what the functions of chapter 4 compute. No condition.
-/
import Derived.Test.YtdmeogkdoeaemaaKC
namespace Go.Proofs.Ytdmeogkdoeaemaa
open Go.RowKit

abbrev Bs := List UInt8
structure Wr where
  at' : Int
  data : Bs
structure Dk where
  sectors : List Bs
  pending : List Wr
  left : Int
  stopped : Bool

/-- v is a slice of the bytes l. -/
def BsAt (w : World) (S : Nat → Prop) (v : Value) (l : Bs) : Prop := SlF v ∧ SlP w S 1 l.length (fun i _ => .int .u8 ((l.getD i 0).toNat : Int)) v
theorem BsAt.keep {w w' : World} {S : Nat → Prop} {v : Value} {l : Bs} (h : BsAt w S v l) (hk : Keeps S w w') : BsAt w' S v l := ⟨h.1, h.2.keep hk⟩
theorem BsAt.weak {w : World} {S S' : Nat → Prop} {v : Value} {l : Bs} (h : BsAt w S v l) (hk : ∀ b, S b → b < w.heap.size → S' b) : BsAt w S' v l := ⟨h.1, h.2.weak hk⟩
theorem BsAt.form {w : World} {S : Nat → Prop} {v : Value} {l : Bs} (h : BsAt w S v l) : ∃ A c, v = .slice A l.length c ∧ l.length ≤ maxLen := h.2.form
theorem bsAt_nil (w : World) (S : Nat → Prop) : BsAt w S (.slice none 0 0) [] := ⟨.inl rfl, slP_nil w S 1 _⟩
theorem BsAt.cell {w : World} {S : Nat → Prop} {A : Option Addr} {n c : Nat} {l : Bs} (h : BsAt w S (.slice A n c) l) {k : Nat} (hk : k < l.length) :
    ∃ b off, A = some ⟨b, off, none⟩ ∧ S b ∧ b < w.heap.size ∧ w.cell? ⟨b, off + k, none⟩ = some (.int .u8 ((l.getD k 0).toNat : Int)) := by
  obtain ⟨_, A', c', hv, _, h1⟩ := h
  cases hv
  obtain ⟨b, off, rfl, hS, hb, h3⟩ := h1 k hk
  have := h3 0 (by omega)
  rw [Nat.mul_one, Nat.add_zero] at this
  exact ⟨b, off, rfl, hS, hb, this⟩

/-- v is a slice of the byte slices l. -/
def RwAt (w : World) (S : Nat → Prop) (v : Value) (l : List Bs) : Prop :=
  SlF v ∧ ∃ V : Nat → Value, SlP w S 1 l.length (fun i _ => V i) v ∧ ∀ (i : Nat) (x : Bs), l[i]? = some x → BsAt w S (V i) x
theorem RwAt.keep {w w' : World} {S : Nat → Prop} {v : Value} {l : List Bs} (h : RwAt w S v l) (hk : Keeps S w w') : RwAt w' S v l := by
  obtain ⟨h0, V, h1, h2⟩ := h
  exact ⟨h0, V, h1.keep hk, fun i x hx => (h2 i x hx).keep hk⟩
theorem RwAt.weak {w : World} {S S' : Nat → Prop} {v : Value} {l : List Bs} (h : RwAt w S v l) (hk : ∀ b, S b → b < w.heap.size → S' b) : RwAt w S' v l := by
  obtain ⟨h0, V, h1, h2⟩ := h
  exact ⟨h0, V, h1.weak hk, fun i x hx => (h2 i x hx).weak hk⟩
theorem RwAt.form {w : World} {S : Nat → Prop} {v : Value} {l : List Bs} (h : RwAt w S v l) : ∃ A c, v = .slice A l.length c ∧ l.length ≤ maxLen := by
  obtain ⟨_, V, h1, _⟩ := h
  exact h1.form
theorem rwAt_nil (w : World) (S : Nat → Prop) : RwAt w S (.slice none 0 0) [] := ⟨.inl rfl, fun _ => undef, slP_nil w S 1 _, fun i x hx => by simp at hx⟩
theorem RwAt.row {w : World} {S : Nat → Prop} {A : Option Addr} {n c : Nat} {l : List Bs} (h : RwAt w S (.slice A n c) l) {k : Nat} (hk : k < l.length) :
    ∃ b off V, A = some ⟨b, off, none⟩ ∧ S b ∧ b < w.heap.size ∧ w.cell? ⟨b, off + k, none⟩ = some V ∧ BsAt w S V l[k] := by
  obtain ⟨_, V, ⟨A', c', hv, _, h1⟩, h2⟩ := h
  cases hv
  obtain ⟨b, off, rfl, hS, hb, h3⟩ := h1 k hk
  have := h3 0 (by omega)
  rw [Nat.mul_one, Nat.add_zero] at this
  exact ⟨b, off, V k, rfl, hS, hb, this, h2 k _ (List.getElem?_eq_getElem hk)⟩

def Wr.zero : Wr := ⟨0, []⟩
def wrCells (l : List Wr) (V : Nat → Value) (i j : Nat) : Value := if j = 0 then .int .i64 (l.getD i Wr.zero).at' else V i
/-- v is a slice of the writes l. -/
def WsAt (w : World) (S : Nat → Prop) (v : Value) (l : List Wr) : Prop :=
  SlF v ∧ ∃ V : Nat → Value, SlP w S 2 l.length (wrCells l V) v ∧ ∀ (i : Nat) (x : Wr), l[i]? = some x → BsAt w S (V i) x.data
theorem WsAt.keep {w w' : World} {S : Nat → Prop} {v : Value} {l : List Wr} (h : WsAt w S v l) (hk : Keeps S w w') : WsAt w' S v l := by
  obtain ⟨h0, V, h1, h2⟩ := h
  exact ⟨h0, V, h1.keep hk, fun i x hx => (h2 i x hx).keep hk⟩
theorem WsAt.weak {w : World} {S S' : Nat → Prop} {v : Value} {l : List Wr} (h : WsAt w S v l) (hk : ∀ b, S b → b < w.heap.size → S' b) : WsAt w S' v l := by
  obtain ⟨h0, V, h1, h2⟩ := h
  exact ⟨h0, V, h1.weak hk, fun i x hx => (h2 i x hx).weak hk⟩
theorem WsAt.form {w : World} {S : Nat → Prop} {v : Value} {l : List Wr} (h : WsAt w S v l) : ∃ A c, v = .slice A l.length c ∧ l.length ≤ maxLen := by
  obtain ⟨_, V, h1, _⟩ := h
  exact h1.form
theorem wsAt_nil (w : World) (S : Nat → Prop) : WsAt w S (.slice none 0 0) [] := ⟨.inl rfl, fun _ => undef, slP_nil w S 2 _, fun i x hx => by simp at hx⟩
theorem WsAt.wr {w : World} {S : Nat → Prop} {A : Option Addr} {n c : Nat} {l : List Wr} (h : WsAt w S (.slice A n c) l) {k : Nat} (hk : k < l.length) :
    ∃ b off V, A = some ⟨b, off, none⟩ ∧ S b ∧ b < w.heap.size ∧ w.cell? ⟨b, off + k * 2, none⟩ = some (.int .i64 (l[k]).at') ∧ w.cell? ⟨b, off + k * 2 + 1, none⟩ = some V ∧ BsAt w S V (l[k]).data := by
  obtain ⟨_, V, ⟨A', c', hv, _, h1⟩, h2⟩ := h
  cases hv
  obtain ⟨b, off, rfl, hS, hb, h3⟩ := h1 k hk
  have e : l[k]? = some l[k] := List.getElem?_eq_getElem hk
  have eg : l.getD k Wr.zero = l[k] := by rw [List.getD_eq_getElem?_getD, e]; rfl
  have c0 := h3 0 (by omega)
  have c1 := h3 1 (by omega)
  simp only [wrCells, eg] at c0 c1
  exact ⟨b, off, V k, rfl, hS, hb, c0, by rw [Nat.add_assoc]; exact c1, h2 k _ e⟩

/-- The two slices of a disk. -/
structure DkAt (w : World) (S : Nat → Prop) (Vs Vp : Value) (d : Dk) : Prop where
  sectors : RwAt w S Vs d.sectors
  pending : WsAt w S Vp d.pending
theorem DkAt.keep {w w' : World} {S : Nat → Prop} {Vs Vp : Value} {d : Dk} (h : DkAt w S Vs Vp d) (hk : Keeps S w w') : DkAt w' S Vs Vp d := ⟨h.sectors.keep hk, h.pending.keep hk⟩
theorem DkAt.weak {w : World} {S S' : Nat → Prop} {Vs Vp : Value} {d : Dk} (h : DkAt w S Vs Vp d) (hk : ∀ b, S b → b < w.heap.size → S' b) : DkAt w S' Vs Vp d := ⟨h.sectors.weak hk, h.pending.weak hk⟩
def Dk.zero : Dk := ⟨[], [], 0, false⟩
theorem dkAt_zero (w : World) (S : Nat → Prop) : DkAt w S (.slice none 0 0) (.slice none 0 0) Dk.zero := ⟨rwAt_nil w S, wsAt_nil w S⟩

/-- What the functions compute. -/
def secB (b : Bs) : Bool := decide (b.length = 128)
def wrB (n : Nat) (x : Wr) : Bool := decide (0 ≤ x.at' ∧ x.at' < (n : Int)) && secB x.data
def boundsB (d : Dk) : Bool := decide (1 ≤ d.sectors.length) && (decide (d.sectors.length ≤ 4096) && (decide (d.pending.length ≤ 4096) && (decide (-1 ≤ d.left) && decide (d.left ≤ 65536))))
def Dk.okB (d : Dk) : Bool := boundsB d && (d.pending.all (wrB d.sectors.length) && d.sectors.all secB)
def Dk.checkT (d : Dk) : Int := if d.okB = true then 0 else 40
def Dk.runs (d : Dk) : Bool := d.okB && !d.stopped
def Dk.hasB (d : Dk) (i : Int) : Bool := decide (0 ≤ i) && decide (i < (d.sectors.length : Int))
def zeros : Bs := List.replicate 128 0
def newT (k : Int) : Dk × Int := if 1 ≤ k ∧ k ≤ 4096 then (⟨List.replicate k.toNat zeros, [], -1, false⟩, 0) else (Dk.zero, 1)
def lastW (l : List Wr) (i : Int) (b : Bs) : Bs := l.foldl (fun b x => if x.at' = i then x.data else b) b
def readT (d : Dk) (i : Int) : Bs × Int := if d.runs = true ∧ d.hasB i = true then (lastW d.pending i (d.sectors.getD i.toNat []), 0) else ([], 40)
def padTo (b : Bs) : Bs := b ++ List.replicate (128 - b.length) 0
def writeT (d : Dk) (i : Int) (b : Bs) : Dk × Int :=
  if d.runs = true ∧ d.hasB i = true then (if b.length ≤ 128 then (if d.pending.length = 4096 then (Dk.zero, 2) else (⟨d.sectors, d.pending ++ [⟨i, padTo b⟩], d.left, d.stopped⟩, 0)) else (Dk.zero, 1)) else (Dk.zero, 40)
def perf (s : List Bs) (l : List Wr) : List Bs := l.foldl (fun s x => s.set x.at'.toNat x.data) s
def tearB (d : Dk) : Bool := decide (0 ≤ d.left) && decide (d.left < (d.pending.length : Int))
def tornS (d : Dk) : List Bs :=
  let x := d.pending.getD d.left.toNat Wr.zero
  let s := perf d.sectors (d.pending.take d.left.toNat)
  s.set x.at'.toNat (x.data.take 64 ++ (s.getD x.at'.toNat []).drop 64)
def syncT (d : Dk) : Dk × Int :=
  if d.runs = true then (if tearB d = true then (⟨tornS d, [], 0, true⟩, 40) else (⟨perf d.sectors d.pending, [], if 0 ≤ d.left then d.left - (d.pending.length : Int) else d.left, false⟩, 0)) else (Dk.zero, 40)
def stopT (d : Dk) (k : Int) : Dk × Int := if d.runs = true then (if 0 ≤ k ∧ k ≤ 65536 then (⟨d.sectors, d.pending, k, d.stopped⟩, 0) else (Dk.zero, 1)) else (Dk.zero, 40)
def restartT (d : Dk) : Dk := ⟨d.sectors, [], -1, false⟩
def sameD (a b : Dk) : Bool := decide (a.sectors = b.sectors) && (decide (a.pending.map (fun x => (x.at', x.data)) = b.pending.map (fun x => (x.at', x.data))) && (decide (a.left = b.left) && decide (a.stopped = b.stopped)))
def sumB (l : List Bs) : Nat := l.foldr (fun x n => x.length + 1 + n) 0
def sumW (l : List Wr) : Nat := l.foldr (fun x n => x.data.length + 1 + n) 0
def fewB (d : Dk) : Bool := decide (sumB d.sectors + sumW d.pending ≤ 9000)

theorem okB_parts {d : Dk} (h : d.okB = true) : 1 ≤ d.sectors.length ∧ d.sectors.length ≤ 4096 ∧ d.pending.length ≤ 4096 ∧ -1 ≤ d.left ∧ d.left ≤ 65536 ∧ (∀ x ∈ d.pending, 0 ≤ x.at' ∧ x.at' < (d.sectors.length : Int) ∧ x.data.length = 128) ∧ ∀ x ∈ d.sectors, x.length = 128 := by
  simp only [Dk.okB, boundsB, wrB, secB, Bool.and_eq_true, decide_eq_true_eq, List.all_eq_true] at h
  obtain ⟨⟨h1, h2, h3, h4, h5⟩, h6, h7⟩ := h
  exact ⟨h1, h2, h3, h4, h5, fun x hx => ⟨(h6 x hx).1.1, (h6 x hx).1.2, (h6 x hx).2⟩, h7⟩
theorem runs_ok {d : Dk} (h : d.runs = true) : d.okB = true ∧ d.stopped = false := by
  simpa [Dk.runs] using h
theorem hasB_in {d : Dk} {i : Int} (h : d.hasB i = true) : 0 ≤ i ∧ i < (d.sectors.length : Int) := by
  simpa [Dk.hasB] using h
theorem perf_length (s : List Bs) (l : List Wr) : (perf s l).length = s.length := by
  induction l generalizing s with
  | nil => rfl
  | cons x l ih => rw [perf, List.foldl_cons]; exact (ih _).trans (List.length_set)
theorem perf_snoc (s : List Bs) (l : List Wr) (x : Wr) : perf s (l ++ [x]) = (perf s l).set x.at'.toNat x.data := by
  rw [perf, List.foldl_append]; rfl
theorem perf_cons (s : List Bs) (l : List Wr) (x : Wr) : perf s (x :: l) = perf (s.set x.at'.toNat x.data) l := rfl
theorem lastW_snoc (l : List Wr) (i : Int) (b : Bs) (x : Wr) : lastW (l ++ [x]) i b = if x.at' = i then x.data else lastW l i b := by
  rw [lastW, List.foldl_append]; rfl
theorem wr_eq {a b : Wr} : a = b ↔ (a.at', a.data) = (b.at', b.data) := by
  cases a; cases b; simp
theorem sameD_eq {a b : Dk} : sameD a b = true ↔ a = b := by
  have hm : ∀ l m : List Wr, l.map (fun x => (x.at', x.data)) = m.map (fun x => (x.at', x.data)) ↔ l = m := by
    intro l m
    constructor
    · intro h
      exact List.map_inj_right (fun x y hxy => wr_eq.2 hxy) |>.1 h
    · rintro rfl; rfl
  obtain ⟨a1, a2, a3, a4⟩ := a
  obtain ⟨b1, b2, b3, b4⟩ := b
  simp only [sameD, Bool.and_eq_true, decide_eq_true_eq, hm, Dk.mk.injEq]
theorem sameD_refl (a : Dk) : sameD a a = true := sameD_eq.2 rfl

end Go.Proofs.Ytdmeogkdoeaemaa
