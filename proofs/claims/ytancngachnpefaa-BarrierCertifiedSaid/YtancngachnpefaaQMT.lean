/- Arguments of the barrier laws opened: a barrier. No condition. -/
import Derived.Test.YtancngachnpefaaQNA
import Derived.Test.YtancngachnpefaaQNF
import Derived.Test.YtancngachnpefaaQK
import Derived.Test.YtancngachnpefaaQS
import Derived.Test.YtancngachnpefaaQNC
set_option linter.unusedVariables false
set_option linter.unusedSimpArgs false
set_option maxRecDepth 100000
namespace Go.Proofs.Ytancngachnpefaa
open Go.ChangeShapes Go.WideShapes Go.ChangeAt Go.RowKit Go.Joins Go.Deep
section
variable {H : Type} {enc : TypeId × Value → H} {w : World} {base : Nat} {spare : Nat → Bool} {held : Bool}
theorem open_bar {n : Nat} {v : Value} {y : DataW H × List MemPlace} (h : DataW.trod enc Try.prog w base spare held n 27 [v] = some y) : ∃ b : List Iq, BarAt w w.heap.size v b := by
  rcases open_slice_fields Try.underlying27 Try.underlying71 (by kernel_rfl) (by kernel_rfl) h with ⟨h0, _⟩ | ⟨a, len, cap, m, D, Pl, h0, hb, hl, hc, hm, _, hf⟩
  · obtain rfl : v = .slice none 0 0 := by simpa using h0
    exact ⟨[], none, 0, rfl, Nat.zero_le _, fun i hi => by simp at hi⟩
  · obtain rfl : v = .slice (some a) len cap := by simpa using h0
    have hlm : len ≤ m := by rw [hm]; split <;> omega
    obtain ⟨cs, hcs, hp⟩ := exists_list (fun i (p : Iq) => ∀ j, j < 6 → w.cell? (a.add (i * 6 + j)) = some (iqCell p j)) len (fun i hi => by
      obtain ⟨ys, k, _, _, _, hj⟩ := hf i (by omega)
      obtain ⟨v0, y0, e0, _, t0⟩ := hj 0 _ rfl
      obtain ⟨v1, y1, e1, _, t1⟩ := hj 1 _ rfl
      obtain ⟨v2, y2, e2, _, t2⟩ := hj 2 _ rfl
      obtain ⟨v3, y3, e3, _, t3⟩ := hj 3 _ rfl
      obtain ⟨v4, y4, e4, _, t4⟩ := hj 4 _ rfl
      obtain ⟨v5, y5, e5, _, t5⟩ := hj 5 _ rfl
      obtain ⟨x0, rfl, _⟩ := cell_int Try.underlying3 t0
      obtain ⟨x1, rfl, _⟩ := cell_int Try.underlying3 t1
      obtain ⟨x2, rfl, _⟩ := cell_int Try.underlying3 t2
      obtain ⟨x3, rfl, _⟩ := cell_int Try.underlying3 t3
      obtain ⟨x4, rfl, _⟩ := cell_int Try.underlying3 t4
      obtain ⟨x5, rfl, _⟩ := cell_int Try.underlying3 t5
      refine ⟨⟨x0, x1, x2, x3, x4, x5⟩, fun j hj => ?_⟩
      rcases (show j = 0 ∨ j = 1 ∨ j = 2 ∨ j = 3 ∨ j = 4 ∨ j = 5 by omega) with rfl | rfl | rfl | rfl | rfl | rfl <;> assumption)
    refine ⟨cs, some a, cap, by rw [hcs], by omega, fun i hi => ?_⟩
    have hs : a.spot = none := spot_none (hp 0 _ (List.getElem?_eq_getElem (by omega)) 0 (by omega))
    obtain ⟨b, off, sp⟩ := a
    obtain rfl : sp = none := hs
    have q := hp i _ (List.getElem?_eq_getElem hi)
    refine ⟨b, off, rfl, ?_, fun j hj => ?_⟩
    · have q0 := q 0 (by omega)
      rw [add_flat] at q0
      exact World.block_lt_of_cell? _ _ q0
    · have qj := q j hj
      rw [add_flat] at qj
      dsimp only
      rw [List.getD_eq_getElem?_getD (l := cs), List.getElem?_eq_getElem hi]
      exact qj
theorem open_ineqs {r : Reach} {b0 : Nat} {v : Value} {d : DataW H} {p : List MemPlace} (hv : Value.okWide Try.prog w r b0 27 v) (h : DataW.Trod enc Try.prog w base spare held 27 v d p) : ∃ l : List Iq, BarAt w w.heap.size v l := by
  obtain ⟨A, len0, cap0, rfl⟩ := okWide_slice Try.underlying27 hv
  obtain ⟨n, h⟩ := h
  exact open_bar (show DataW.trod enc Try.prog w base spare held n 27 [.slice A len0 cap0] = some (d, p) from h)
end
end Go.Proofs.Ytancngachnpefaa
namespace Go.Proofs.Ytancngachnpefaa
open Go.ChangeShapes Go.WideShapes Go.ChangeAt Go.RowKit Go.Joins Go.Deep
section
variable {H : Type} {enc : TypeId × Value → H} {w : World} {base : Nat} {spare : Nat → Bool} {held : Bool}
theorem open_ineqs_f {r : Reach} {b0 : Nat} {v : Value} {d : DataW H} {p : List MemPlace} (hv : Value.okWide Try.prog w r b0 27 v) (h : DataW.Trod enc Try.prog w base spare held 27 v d p) : ∃ l : List Iq, BarAt w w.heap.size v l ∧ SlF v := by
  obtain ⟨l, hl⟩ := open_ineqs hv h
  refine ⟨l, hl, ?_⟩
  obtain ⟨A, len0, cap0, rfl⟩ := okWide_slice Try.underlying27 hv
  obtain ⟨n, h⟩ := h
  have h : DataW.trod enc Try.prog w base spare held n 27 [.slice A len0 cap0] = some (d, p) := h
  rcases open_slice_fields Try.underlying27 Try.underlying71 (by kernel_rfl) (by kernel_rfl) h with ⟨h0, _⟩ | ⟨a, len, cap, m, D, Pl, h0, hb, hl, hc, hm, _, hf⟩
  · have e : Value.slice A len0 cap0 = .slice none 0 0 := by simpa using h0
    exact .inl e
  · have e : Value.slice A len0 cap0 = .slice (some a) len cap := by simpa using h0
    exact .inr ⟨a, len, cap, e, hl, hc⟩
end
end Go.Proofs.Ytancngachnpefaa
namespace Go.Proofs.Ytancngachnpefaa
open Go.RowKit
theorem count_int {p : Pl} (hv : p.Valid) : (p.count : Int) = p.countI := by
  have h1 := hv.positions
  have h2 := hv.top
  have h3 := hv.orders
  have h4 := hv.age
  have h5 := hv.feed
  have h6 := hv.pipe
  have e0 : ((p.top + 1).toNat : Int) = p.top + 1 := by omega
  have e1 : (p.n0 : Int) = p.positions + 1 := by unfold Pl.n0; omega
  have e2 : (p.no : Int) = p.orders + 1 := by unfold Pl.no; omega
  have e3 : (p.na : Int) = p.age + 1 := by unfold Pl.na; omega
  rw [Pl.count, Int.natCast_mul, Int.natCast_mul, Int.natCast_mul, Int.natCast_mul, Int.natCast_mul, e0, e1, e2, e3]
  unfold Pl.countI Pl.sizeI Pl.nx Pl.ny
  rcases (show p.pipe = 0 ∨ p.pipe = 1 ∨ p.pipe = 2 by omega) with e | e | e
  · rw [e]
    simp [Int.mul_assoc]
  · have e5 : ((p.feed + 1).toNat : Int) = p.feed + 1 := by omega
    rw [e]
    simp [e5, Int.mul_assoc, Int.mul_comm, Int.mul_left_comm]
  · have e5 : ((p.feed + 1).toNat : Int) = p.feed + 1 := by omega
    rw [e]
    simp [e5, Int.mul_assoc, Int.mul_comm, Int.mul_left_comm]
theorem count_le {p : Pl} (h : p.checkT = 0) : p.count ≤ 4096 := by
  obtain ⟨hv, h1⟩ := Pl.check_zero h
  have h2 := count_int hv
  unfold Pl.checkT at h
  split at h
  · split at h
    · cases h
    · omega
  · cases h
end Go.Proofs.Ytancngachnpefaa
namespace Go.Proofs.Ytancngachnpefaa
open Go.RowKit
section
variable {w : World} {B bb ob n c k m c' : Nat} {b : List Iq}
theorem bar_at (h : BarAt w B (.slice (some ⟨bb, ob, none⟩) n c) b) {i : Nat} (hi : i < n) : n = b.length ∧ bb < B ∧ ∀ j, j < 6 → w.cell? ⟨bb, ob + (i * 6 + j), none⟩ = some (iqCell (b.getD i Iq.zero) j) := by
  obtain ⟨A, c, hv, hn, h⟩ := h
  cases hv
  obtain ⟨b', off, hA, hb, hc⟩ := h i hi
  cases hA
  exact ⟨rfl, hb, fun j hj => hc j hj⟩
theorem bar_len (h : BarAt w B (.slice (some ⟨bb, ob, none⟩) n c) b) : n = b.length ∧ n ≤ maxLen := by
  obtain ⟨A, c, hv, hn, h⟩ := h
  cases hv
  exact ⟨rfl, hn⟩
theorem bar_take (h : BarAt w B (.slice (some ⟨bb, ob, none⟩) n c) b) (hk : k ≤ n) : BarAt w B (.slice (some ⟨bb, ob, none⟩) k c') (b.take k) := by
  obtain ⟨hn, hm⟩ := bar_len h
  have hl : (b.take k).length = k := by rw [List.length_take]; omega
  refine ⟨some ⟨bb, ob, none⟩, c', by rw [hl], by rw [hl]; omega, fun i hi => ?_⟩
  rw [hl] at hi
  obtain ⟨_, h1, h2⟩ := bar_at h (show i < n by omega)
  refine ⟨bb, ob, rfl, h1, fun j hj => (h2 j hj).trans ?_⟩
  dsimp only
  rw [List.getD_eq_getElem?_getD, List.getD_eq_getElem?_getD, List.getElem?_take_of_lt hi]
theorem bar_drop (h : BarAt w B (.slice (some ⟨bb, ob, none⟩) n c) b) (hk : k ≤ n) (hm : m = n - k) : BarAt w B (.slice (some ⟨bb, ob + k * 6, none⟩) m c') (b.drop k) := by
  subst hm
  obtain ⟨hn, hm⟩ := bar_len h
  have hl : (b.drop k).length = n - k := by rw [List.length_drop]; omega
  refine ⟨some ⟨bb, ob + k * 6, none⟩, c', by rw [hl], by rw [hl]; omega, fun i hi => ?_⟩
  rw [hl] at hi
  obtain ⟨_, h1, h2⟩ := bar_at h (show k + i < n by omega)
  refine ⟨bb, ob + k * 6, rfl, h1, fun j hj => ?_⟩
  have h3 := h2 j hj
  dsimp only
  rw [List.getD_eq_getElem?_getD, List.getElem?_drop, ← List.getD_eq_getElem?_getD, ← h3]
  rw [show ob + k * 6 + (i * 6 + j) = ob + ((k + i) * 6 + j) by rw [Nat.add_mul]; omega]
theorem bar_none (A : Option Addr) (c : Nat) : BarAt w B (.slice A 0 c) [] := ⟨A, c, rfl, Nat.zero_le _, fun i hi => by simp at hi⟩
theorem bar_one (h : BarAt w B (.slice (some ⟨bb, ob, none⟩) n c) b) (hk : k < b.length) : BarAt w B (.slice (some ⟨bb, ob + k * 6, none⟩) 1 c') [b[k]] := by
  obtain ⟨hn, hm⟩ := bar_len h
  have h1 := bar_drop (k := k) (m := n - k) (c' := c') h (by omega) rfl
  have h2 := bar_take (k := 1) (c' := c') h1 (by omega)
  rw [List.drop_eq_getElem_cons hk, List.take_succ_cons, List.take_zero] at h2
  exact h2
end
end Go.Proofs.Ytancngachnpefaa
