/-
  The iterator slices.Backward over writes. No condition.
-/
import Derived.RangeFuncNested
import Derived.RangeFuncBound
import Derived.RangeFuncCalls
import Derived.RangeFuncLeaves
import Derived.RangeFuncBox
import Derived.Shelf.Abstract
import Derived.Shelf.RegionOpen
import Derived.OwnWalkIn
import Derived.TacticsInMore
import Derived.LoopNIn
import Derived.LoopIn
import Derived.Maps.AppendAt
import Derived.Test.YtdmeogkdoeaemaaDO
namespace Go.Proofs.Ytdmeogkdoeaemaa
open Go.RowKit Go.Shelf
attribute [local go_sem] Oper.semAt_some

theorem dBackward_any (A : Option Addr) (n c : Nat) (w : World) : Calls Try.prog 39 #[.slice A n c] w fun e w' =>
    e = .returned (.func (.func 45) #[] #[.pointer (some ⟨w.heap.size, 0, none⟩)]) ∧ Box w' w.heap.size [.slice A n c] ∧ Below w.heap.size w w' := by
  have hmf : ∀ (fn : Fn) (first cap : Array Value) (w : World), (Instr.makeFunc fn first cap).run Try.prog w = .ok (.func fn first cap) w := fun _ _ _ _ => rfl
  go_enter Try.func39, Try.ntmps39
  go_wp2
  go_ret
  exact ⟨rfl, Box.new w [.slice A n c] _, (Below.refl _ _).alloc (Nat.le_refl _) _⟩

/-- An element as the iterator hands it on: its place, its slice (address, length, capacity), its number. -/
abbrev WEl := Nat × (Option Addr × Nat × Nat) × Int
/-- The p-th element handed on. -/
def WRel (l : List Wr) (w : World) (S : Nat → Prop) (p : Nat) (x : WEl) : Prop := p < l.length ∧ x.1 = l.length - 1 - p ∧ x.2.2 = (l.getD x.1 Wr.zero).at' ∧ BsAt w S (.slice x.2.1.1 x.2.1.2.1 x.2.1.2.2) (l.getD x.1 Wr.zero).data
def WPre (l : List Wr) (w : World) (S : Nat → Prop) (pre : List WEl) : Prop := ∀ p x, pre[p]? = some x → WRel l w S p x
theorem WPre.snoc {l : List Wr} {w : World} {S : Nat → Prop} {pre : List WEl} {x : WEl} (h : WPre l w S pre) (hx : WRel l w S pre.length x) : WPre l w S (pre ++ [x]) := by
  intro p y hy
  rcases Nat.lt_or_ge p pre.length with hp | hp
  · rw [List.getElem?_append_left hp] at hy
    exact h p y hy
  · rw [List.getElem?_append_right hp] at hy
    have h0 : p - pre.length = 0 := by
      rcases Nat.eq_zero_or_pos (p - pre.length) with h0 | h0
      · exact h0
      · rw [List.getElem?_eq_none (by simp; omega)] at hy; cases hy
    rw [h0] at hy
    obtain rfl : x = y := by simpa using hy
    obtain rfl : p = pre.length := by omega
    exact hx
/-- No write matches. -/
theorem lastW_none {l : List Wr} {i : Int} {b : Bs} (h : ∀ x ∈ l, x.at' ≠ i) : lastW l i b = b := by
  induction l generalizing b with
  | nil => rfl
  | cons y l ih =>
    rw [lastW, List.foldl_cons, if_neg (h y List.mem_cons_self)]
    exact ih fun x hx => h x (List.mem_cons_of_mem _ hx)
theorem lastW_at {l : List Wr} {i : Int} {b : Bs} {k : Nat} (hk : k < l.length) (h1 : (l.getD k Wr.zero).at' = i) (h2 : ∀ j, k < j → j < l.length → (l.getD j Wr.zero).at' ≠ i) : lastW l i b = (l.getD k Wr.zero).data := by
  have e : l = l.take k ++ (l[k] :: l.drop (k + 1)) := by rw [List.getElem_cons_drop, List.take_append_drop]
  have eg : l.getD k Wr.zero = l[k] := by rw [List.getD_eq_getElem?_getD, List.getElem?_eq_getElem hk]; rfl
  rw [eg] at h1 ⊢
  rw [show lastW l i b = lastW (l.take k ++ (l[k] :: l.drop (k + 1))) i b from congrArg (fun z => lastW z i b) e, lastW, List.foldl_append, List.foldl_cons, if_pos h1]
  refine lastW_none fun x hx => ?_
  obtain ⟨j, hj, rfl⟩ := List.getElem_of_mem hx
  have hj2 : k + 1 + j < l.length := by rw [List.length_drop] at hj; omega
  rw [List.getElem_drop]
  have := h2 (k + 1 + j) (by omega) hj2
  rwa [List.getD_eq_getElem?_getD, List.getElem?_eq_getElem hj2] at this
theorem pre_none {l : List Wr} {w : World} {S : Nat → Prop} {pre : List WEl} {i : Int} {b : Bs} (h : WPre l w S pre) (hl : pre.length = l.length) (hne : ∀ x ∈ pre, x.2.2 ≠ i) : lastW l i b = b := by
  refine lastW_none fun x hx => ?_
  obtain ⟨j, hj, rfl⟩ := List.getElem_of_mem hx
  have hp : l.length - 1 - j < pre.length := by omega
  obtain ⟨_, h1, h2, _⟩ := h _ _ (List.getElem?_eq_getElem hp)
  have h3 := hne _ (List.getElem_mem hp)
  have e : l.length - 1 - (l.length - 1 - j) = j := by omega
  rw [h2, h1, e, List.getD_eq_getElem?_getD, List.getElem?_eq_getElem hj] at h3
  exact h3
theorem pre_hit {l : List Wr} {w : World} {S : Nat → Prop} {pre : List WEl} {x : WEl} {i : Int} {b : Bs} (h : WPre l w S (pre ++ [x])) (hne : ∀ x ∈ pre, x.2.2 ≠ i) (hx : x.2.2 = i) :
    BsAt w S (.slice x.2.1.1 x.2.1.2.1 x.2.1.2.2) (lastW l i b) := by
  obtain ⟨hp, h1, h2, h3⟩ := h pre.length x (by rw [List.getElem?_append_right (Nat.le_refl _), Nat.sub_self]; rfl)
  rw [lastW_at (k := x.1) (by omega) (by rw [← h2]; exact hx) (fun j hj hjl => ?_)]
  · exact h3
  · have hq : l.length - 1 - j < pre.length := by omega
    obtain ⟨_, g1, g2, _⟩ := h (l.length - 1 - j) pre[l.length - 1 - j] (by rw [List.getElem?_append_left hq]; exact List.getElem?_eq_getElem hq)
    have := hne _ (List.getElem_mem hq)
    have e : l.length - 1 - (l.length - 1 - j) = j := by omega
    rw [g2, g1, e] at this
    exact this

set_option maxRecDepth 100000 in
set_option maxHeartbeats 2000000 in
theorem back_stops (n N : Nat) (l : List Wr) (A : Option Addr) (c : Nat) (Bc : Nat) (S : Nat → Prop) (w : World) (hL : Hid (WsAt w S (.slice A l.length c) l)) (hc : Box w Bc [.slice A l.length c]) (hN : l.length ≤ N) :
    SeqStopsK Fence.wide n Try.prog 45 #[.pointer (some ⟨Bc, 0, none⟩)] (fun x : WEl => #[.int .i64 x.1, .agg #[.int .i64 x.2.2, .slice x.2.1.1 x.2.1.2.1 x.2.1.2.2]]) (Below w.heap.size)
      (fun xs => xs.length = l.length ∧ WPre l w S xs) (fun pre => WPre l w S pre) N w := fun lb J Jx W hW hJ hJx hY h0 => by
  obtain ⟨m, hmm⟩ : ∃ m, l.length = m := ⟨_, rfl⟩
  have hm64 : m ≤ 9223372036854775807 := by
    obtain ⟨_, _, _, hm⟩ := hL.out.form
    unfold maxLen at hm
    omega
  rw [hmm] at hc hN
  have HM := Lib.hid hmm
  have HY := Lib.hid hY
  have HJ := Lib.hid hJ
  have HJx := Lib.hid hJx
  rw [hmm] at hL
  clear hmm hY hJ hJx
  refine callsIn_of_wp Try.func45 rfl trivial ?_ rfl
  simp only [Try.ntmps45, List.size_toArray, List.length_cons, List.length_nil, Nat.reduceAdd, Nat.reduceSub, Array.replicate_succ, Array.replicate_zero, List.push_toArray, List.append_toArray, List.nil_append, List.cons_append]
  have x0 : W.cell? ⟨Bc, 0, none⟩ = some (.slice A m c) := (hc.later hW).cell 0
  have im : (0 : Int) ≤ (m : Int) := by omega
  gi_wp2_with fail
  clear x0
  gi_loopw [3] (fun i wr => ∃ (k : Nat) (pre : List WEl), k ≤ m ∧ i = .int .i64 ((k : Int) - 1) ∧ Below w.heap.size w wr ∧ J pre wr ∧ Hid (WPre l w S pre ∧ pre.length + k = m)) (fun i _ => ((intOf i) + 1).toNat)
  case atStart => exact ⟨m, [], Nat.le_refl _, rfl, hW, h0, fun p x hx => by simp at hx, by simp⟩
  case round =>
    obtain ⟨k, pre, hk, rfl, hb, hJ0, hpre⟩ := hrel
    rcases k with _ | k
    · have hz : ((0 : Nat) : Int) - 1 = -1 := by omega
      rw [hz]
      gi_wp2
      go_end0
      refine ⟨⟨_, rfl⟩, .inl ⟨pre, ⟨?_, hpre.out.1⟩, hJ0⟩⟩
      rw [HM.out]
      have := hpre.out.2
      omega
    · have hz : ((k + 1 : Nat) : Int) - 1 = (k : Int) := by omega
      rw [hz]
      have hkl : k < l.length := by rw [HM.out]; omega
      obtain ⟨b, off, V, rfl, hS, hbw, p0, p1, hV'⟩ := hL.out.wr hkl
      obtain ⟨A', c', rfl, hm⟩ := hV'.form
      have p0 := (hb.cell hbw).trans p0
      have p1 := (hb.cell hbw).trans p1
      have eg : l.getD k Wr.zero = l[k] := by rw [List.getD_eq_getElem?_getD, List.getElem?_eq_getElem hkl]; rfl
      have hrel : Hid (WRel l w S pre.length (k, (A', (l[k]).data.length, c'), (l[k]).at')) := by
        have := hpre.out.2
        refine ⟨by rw [HM.out]; omega, ?_, ?_, ?_⟩
        · rw [HM.out]; show k = _; omega
        · show (l[k]).at' = (l.getD k Wr.zero).at'; rw [eg]
        · show BsAt w S (.slice A' (l[k]).data.length c') (l.getD k Wr.zero).data
          rw [eg]; exact hV'
      have hcb := (hc.later hb).cell 0
      have x0 : wr.cell? ⟨Bc, 0, none⟩ = some (.slice (some ⟨b, off, none⟩) m c) := hcb
      have i0 : (0 : Int) ≤ (k : Int) := by omega
      have i1 : (k : Int) < (m : Int) := by omega
      obtain ⟨nl, hnl⟩ : ∃ nl, (l[k]).data.length = nl := ⟨_, rfl⟩
      obtain ⟨xa, hxa⟩ : ∃ xa, (l[k]).at' = xa := ⟨_, rfl⟩
      rw [hnl] at p1 hrel
      rw [hxa] at p0 hrel
      clear hV' hm hnl hxa eg hcb
      obtain ⟨f0, t0, a0, c0, hy0, hR0⟩ := HY.out pre (k, (A', nl, c'), xa) wr hJ0 (by have := hpre.out.2; omega)
      dsimp only at hy0
      have hpre' := Lib.hid (hpre.out.1.snoc hrel.out)
      gi_wp2_with fail
      refine ⟨(fun h => by cases h), hR0.mono ?_⟩
      rintro e W2 (⟨rfl, hJ3, hK⟩ | ⟨rfl, hx⟩)
      · gi_wp2
        refine ⟨⟨k, _, by omega, rfl, hb.trans hK, hJ3, hpre'.out, by have := hpre.out.2; simp; omega⟩, by simp [intOf] <;> omega⟩
      · gi_wp2
        refine bodyPost_ret (results_none rfl _ _ _) rfl ?_
        exact ⟨⟨_, rfl⟩, .inr ⟨_, hpre'.out, hx⟩⟩

end Go.Proofs.Ytdmeogkdoeaemaa
