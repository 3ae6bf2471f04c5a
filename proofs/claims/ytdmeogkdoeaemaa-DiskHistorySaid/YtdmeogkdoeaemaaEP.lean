/-
  The acts of DiskTogether and DiskHistory: as data, and their opening. No condition.
-/
import Derived.Test.YtdmeogkdoeaemaaEA
namespace Go.Proofs.Ytdmeogkdoeaemaa
open Go.ChangeShapes Go.WideShapes Go.ChangeAt Go.RowKit Go.Joins Go.Deep

/-- An act. -/
structure Ac where
  sync : Bool
  at' : UInt8
  byte : UInt8
def Ac.zero : Ac := ⟨false, 0, 0⟩
def acCell (x : Ac) (j : Nat) : Value := if j = 0 then .bool x.sync else if j = 1 then .int .u8 (x.at'.toNat : Int) else .int .u8 (x.byte.toNat : Int)
/-- v is a slice of the acts l. -/
def AcsAt (w : World) (S : Nat → Prop) (v : Value) (l : List Ac) : Prop := SlF v ∧ SlP w S 3 l.length (fun i j => acCell (l.getD i Ac.zero) j) v
theorem AcsAt.keep {w w' : World} {S : Nat → Prop} {v : Value} {l : List Ac} (h : AcsAt w S v l) (hk : Keeps S w w') : AcsAt w' S v l := ⟨h.1, h.2.keep hk⟩
theorem AcsAt.weak {w : World} {S S' : Nat → Prop} {v : Value} {l : List Ac} (h : AcsAt w S v l) (hk : ∀ b, S b → b < w.heap.size → S' b) : AcsAt w S' v l := ⟨h.1, h.2.weak hk⟩
theorem AcsAt.form {w : World} {S : Nat → Prop} {v : Value} {l : List Ac} (h : AcsAt w S v l) : ∃ A c, v = .slice A l.length c ∧ l.length ≤ maxLen := h.2.form
theorem acsAt_nil (w : World) (S : Nat → Prop) : AcsAt w S (.slice none 0 0) [] := ⟨.inl rfl, slP_nil w S 3 _⟩
theorem AcsAt.cell {w : World} {S : Nat → Prop} {A : Option Addr} {n c : Nat} {l : List Ac} (h : AcsAt w S (.slice A n c) l) {k : Nat} (hk : k < l.length) :
    ∃ b off, A = some ⟨b, off, none⟩ ∧ S b ∧ b < w.heap.size ∧ w.cell? ⟨b, off + k * 3, none⟩ = some (.bool (l[k]).sync) ∧ w.cell? ⟨b, off + k * 3 + 1, none⟩ = some (.int .u8 ((l[k]).at'.toNat : Int)) ∧ w.cell? ⟨b, off + k * 3 + 2, none⟩ = some (.int .u8 ((l[k]).byte.toNat : Int)) := by
  obtain ⟨_, A', c', hv, _, h1⟩ := h
  cases hv
  obtain ⟨b, off, rfl, hS, hb, h3⟩ := h1 k hk
  have e : l.getD k Ac.zero = l[k] := by rw [List.getD_eq_getElem?_getD, List.getElem?_eq_getElem hk]; rfl
  dsimp only at h3
  rw [e] at h3
  exact ⟨b, off, rfl, hS, hb, by simpa [acCell] using h3 0 (by omega), by simpa [acCell, Nat.add_assoc] using h3 1 (by omega), by simpa [acCell, Nat.add_assoc] using h3 2 (by omega)⟩
theorem u8_is {x : Int} (h : (Lit.int .u8 x).wf = true) : ∃ c : UInt8, x = (c.toNat : Int) := by
  obtain ⟨h1, h2⟩ := bounds_u8 h
  refine ⟨UInt8.ofNat x.toNat, ?_⟩
  rw [UInt8.toNat_ofNat']
  omega
section
variable {H : Type} {enc : TypeId × Value → H} {w : World} {base : Nat} {spare : Nat → Bool} {held : Bool}
theorem trod_acs {n : Nat} {v : Value} {y : DataW H × List MemPlace} (h : DataW.trod enc Try.prog w base spare held n 43 [v] = some y) : ∃ q : List Ac, AcsAt w (Live w) v q := by
  rcases open_slice_fields Try.underlying43 Try.underlying46 (by kernel_rfl) (by kernel_rfl) h with ⟨h0, _⟩ | ⟨a, len, cap, m, D, Pl, h0, hb, hl, hc, hm, hx, hf⟩
  · obtain rfl : v = .slice none 0 0 := by simpa using h0
    exact ⟨[], acsAt_nil _ _⟩
  · obtain rfl : v = .slice (some a) len cap := by simpa using h0
    have hlm : len ≤ m := by rw [hm]; split <;> omega
    obtain ⟨ls, hcs, hp⟩ := exists_list (fun i (l : Ac) => w.cell? (a.add (i * 3 + 0)) = some (.bool l.sync) ∧ w.cell? (a.add (i * 3 + 1)) = some (.int .u8 (l.at'.toNat : Int)) ∧ w.cell? (a.add (i * 3 + 2)) = some (.int .u8 (l.byte.toNat : Int))) len (fun i hi => by
      obtain ⟨ys, k, hD, _, _, hj⟩ := hf i (by omega)
      obtain ⟨v0, y0, e0, _, t0⟩ := hj 0 _ rfl
      obtain ⟨v1, y1, e1, _, t1⟩ := hj 1 _ rfl
      obtain ⟨v2, y2, e2, _, t2⟩ := hj 2 _ rfl
      obtain ⟨b0, rfl⟩ := cell_bool t0
      obtain ⟨x1, rfl, w1⟩ := cell_int Try.underlying5 t1
      obtain ⟨x2, rfl, w2⟩ := cell_int Try.underlying5 t2
      obtain ⟨c1, rfl⟩ := u8_is w1
      obtain ⟨c2, rfl⟩ := u8_is w2
      exact ⟨⟨b0, c1, c2⟩, e0, e1, e2⟩)
    refine ⟨ls, .inr ⟨a, len, cap, rfl, hl, hc⟩, some a, cap, by simp [hcs], by rw [hcs]; omega, fun i hi => ?_⟩
    have hs : a.spot = none := by
      obtain ⟨q0, _⟩ := hp 0 _ (List.getElem?_eq_getElem (by omega))
      exact spot_none q0
    obtain ⟨b, off, sp⟩ := a
    obtain rfl : sp = none := hs
    obtain ⟨q0, q1, q2⟩ := hp i _ (List.getElem?_eq_getElem hi)
    rw [add_at] at q0 q1 q2
    refine ⟨b, off, rfl, World.block_lt_of_cell? _ _ q0, World.block_lt_of_cell? _ _ q0, fun j hj => ?_⟩
    dsimp only
    rw [List.getD_eq_getElem?_getD, List.getElem?_eq_getElem hi]
    rcases (show j = 0 ∨ j = 1 ∨ j = 2 by omega) with rfl | rfl | rfl
    · exact q0
    · exact q1
    · exact q2
theorem open_acs {r : Reach} {b0 : Nat} {v : Value} {d : DataW H} {p : List MemPlace} (hv : Value.okWide Try.prog w r b0 43 v) (h : DataW.Trod enc Try.prog w base spare held 43 v d p) : ∃ l, AcsAt w (Live w) v l := by
  obtain ⟨A, len0, cap0, rfl⟩ := okWide_slice Try.underlying43 hv
  obtain ⟨n, h⟩ := h
  exact trod_acs (show DataW.trod enc Try.prog w base spare held n 43 [.slice A len0 cap0] = some (d, p) from h)
end
end Go.Proofs.Ytdmeogkdoeaemaa
