/- Contract of Sync of the reference of chapter 4. (Printed by gen_dx.py.) -/
import Derived.Test.YthlidhfahaalgaaQJM
import Derived.Deep.DeepCutAuto
import Derived.Deep.RegionHeld3
set_option linter.unusedVariables false
set_option linter.unusedSimpArgs false
namespace Go.Proofs.Ythlidhfahaalgaa
open Go.RowKit
attribute [local go_sem ↓ high] app_named cop_named
theorem BsAt.take {w : World} {S : Nat → Prop} {b off n c k : Nat} {l : Bs} (h : BsAt w S (.slice (some ⟨b, off, none⟩) n c) l) (hk : k ≤ n) (hc : n ≤ c ∧ c ≤ maxLen) : BsAt w S (.slice (some ⟨b, off, none⟩) k c) (l.take k) := by
  obtain ⟨_, hs⟩ := h
  have hn : n = l.length := by
    obtain ⟨_, _, hv, _⟩ := hs
    cases hv
    rfl
  subst hn
  have hl : (l.take k).length = k := by rw [List.length_take]; omega
  refine ⟨.inr ⟨_, _, _, rfl, by omega, hc.2⟩, ?_⟩
  rw [hl]
  refine ((hs.part 0 k c (by omega)).congr fun i j hi _ => ?_) |> fun h => by simpa using h
  simp only [Nat.zero_add, List.getD_eq_getElem?_getD, List.getElem?_take, if_pos hi]
theorem BsAt.drop {w : World} {S : Nat → Prop} {b off n c k : Nat} {l : Bs} (h : BsAt w S (.slice (some ⟨b, off, none⟩) n c) l) (hk : k ≤ n) (hc : n ≤ c ∧ c ≤ maxLen) : BsAt w S (.slice (some ⟨b, off + k, none⟩) (n - k) (c - k)) (l.drop k) := by
  obtain ⟨_, hs⟩ := h
  have hn : n = l.length := by
    obtain ⟨_, _, hv, _⟩ := hs
    cases hv
    rfl
  subst hn
  refine ⟨.inr ⟨_, _, _, rfl, by omega, by omega⟩, ?_⟩
  rw [List.length_drop]
  refine ((hs.part k (l.length - k) (c - k) (by omega)).congr fun i j hi _ => ?_) |> fun h => by simpa using h
  simp only [List.getD_eq_getElem?_getD, List.getElem?_drop]
theorem BsAt.row {w : World} {S : Nat → Prop} {A : Option Addr} {n c : Nat} {l : Bs} (h : BsAt w S (.slice A n c) l) (h0 : 0 < n) : ∃ b off, A = some ⟨b, off, none⟩ ∧ n ≤ c ∧ c ≤ maxLen ∧ S b ∧ b < w.heap.size := by
  obtain ⟨hf, A', c', hv, _, h1⟩ := h
  cases hv
  obtain ⟨b, off, rfl, hS, hb, _⟩ := h1 0 h0
  rcases hf with h2 | ⟨a, n', c'', h2, h3, h4⟩
  · cases h2
  · injection h2 with _ e1 e2
    exact ⟨b, off, rfl, by omega, by omega, hS, hb⟩
theorem OwnRw.other {w : World} {base g n c x o : Nat} {S : Nat → Prop} {l : List Bs} (h : OwnRw w base S (.slice (some ⟨g, 0, none⟩) n c) l) (hS : ¬ S x) (hx : g ≠ x) (u : Value) : OwnRw (w.setCell ⟨x, o, none⟩ u) base S (.slice (some ⟨g, 0, none⟩) n c) l := by
  obtain ⟨xs, ho, hb⟩ := h
  refine ⟨xs, ?_, fun i y v hy hv => (hb i y v hy hv).keep (Keeps.set w (a := ⟨x, o, none⟩) hS u)⟩
  obtain ⟨hl, ho⟩ := ho
  refine ⟨hl, ?_⟩
  rcases ho with ⟨h1, _⟩ | ⟨g', cap, cur, hv, hbg, hg, hr⟩
  · cases h1
  · cases hv
    exact .inr ⟨g, c, cur, rfl, hbg, (Below.heap_setCell w ⟨x, o, none⟩ u g hx).trans hg, hr⟩
end Go.Proofs.Ythlidhfahaalgaa
