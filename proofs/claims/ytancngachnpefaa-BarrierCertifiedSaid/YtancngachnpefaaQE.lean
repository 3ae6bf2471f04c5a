/- Contracts of belongs and Belongs. (Printed by gen_e.py.) -/
import Derived.Test.YtancngachnpefaaQK
import Derived.Deep.CutBlock
import Derived.Deep.DeepCutAuto
set_option linter.unusedVariables false
set_option linter.unusedSimpArgs false
set_option maxRecDepth 100000
set_option maxHeartbeats 2000000
namespace Go.Proofs.Ytancngachnpefaa
open Go.RowKit
def pairs (p : Pl) (s : St) (m0 m1 : Int) : List (Int × Int) := [(s.level, p.top), (s.position, p.positions), (s.p0, m0), (s.p1, m1), (s.order, p.orders), (s.age, p.age)]
theorem ixS (p : Pl) (s : St) (m0 m1 : Int) (k : Nat) (hk : k < 6) (w : World) :
    (Instr.index 129 (.agg #[.int .i64 s.level, .int .i64 p.top, .int .i64 s.position, .int .i64 p.positions, .int .i64 s.p0, .int .i64 m0, .int .i64 s.p1, .int .i64 m1, .int .i64 s.order, .int .i64 p.orders, .int .i64 s.age, .int .i64 p.age]) (.int .i64 (k : Int))).run Try.prog w =
      .ok (.agg #[.int .i64 ((pairs p s m0 m1).getD k (0, 0)).1, .int .i64 ((pairs p s m0 m1).getD k (0, 0)).2]) w := by
  rcases (show k = 0 ∨ k = 1 ∨ k = 2 ∨ k = 3 ∨ k = 4 ∨ k = 5 by omega) with rfl | rfl | rfl | rfl | rfl | rfl
  all_goals kernel_rfl
def pairsB (l : List (Int × Int)) : Bool := l.all fun t => inI t.1 0 t.2
theorem pairs_take {l : List (Int × Int)} {k : Nat} (hk : k < l.length) : pairsB (l.take (k + 1)) = (pairsB (l.take k) && inI (l.getD k (0, 0)).1 0 (l.getD k (0, 0)).2) := by
  unfold pairsB
  rw [List.take_succ_eq_append_getElem hk, List.all_append]
  simp [List.getD_eq_getElem?_getD, List.getElem?_eq_getElem hk]
theorem pairs_bad {l : List (Int × Int)} {k : Nat} (hk : k < l.length) (h : inI (l.getD k (0, 0)).1 0 (l.getD k (0, 0)).2 = false) : pairsB l = false := by
  have : l.getD k (0, 0) ∈ l := by simp [List.getD_eq_getElem?_getD, List.getElem?_eq_getElem hk]
  unfold pairsB
  rw [List.all_eq_false]
  exact ⟨_, this, by rw [h]; decide⟩
theorem Pl.hasB_pairs (p : Pl) (s : St) : p.hasB s = pairsB (pairs p s (if 0 < p.pipe then p.feed else 0) (if 1 < p.pipe then p.feed else 0)) := by
  simp [Pl.hasB, pairsB, pairs]
theorem belongs_0 (p : Pl) (s : St) (w : World) (hp : p.pipe = 0) : Calls Try.prog 54 #[p.v, s.v] w fun e w' => e = .returned (.bool (pairsB (pairs p s 0 0))) ∧ Below w.heap.size w w' := by
  go_enter Try.func54, Try.ntmps54
  go_wp2_with fail
  refine wp_loop_rounds 1 ?_
  rw [rounds_succ]; go_wp2_with fail
  go_loopw [53] (fun i wr => ∃ k : Nat, k ≤ 6 ∧ i = .int .i64 k ∧ Below w.heap.size w wr ∧ Hid (pairsB ((pairs p s 0 0).take k) = true)) (fun i _ => (6 - intOf i).toNat)
  case atStart => exact ⟨0, by omega, rfl, by repeat (first | exact Below.refl _ _ | refine Below.alloc ?_ (by simp <;> omega) _), rfl⟩
  case round =>
    obtain ⟨k, hk, rfl, hb, hall⟩ := hrel
    by_cases hlt : k < 6
    · obtain ⟨⟨x, hi⟩, ht⟩ : ∃ t, (pairs p s 0 0).getD k (0, 0) = t := ⟨_, rfl⟩
      have hix := ixS p s 0 0 k hlt
      have hbad := pairs_bad (l := pairs p s 0 0) (k := k) hlt
      have htk := pairs_take (l := pairs p s 0 0) (k := k) hlt
      rw [ht] at hix hbad htk
      rw [hall.out, Bool.true_and] at htk
      have hbad := Lib.hid hbad
      have htk := Lib.hid htk
      clear ht
      go_wp2
      case roundEnd =>
        have h1 : 0 ≤ x ∧ x ≤ hi := by assumption
        refine ⟨⟨k + 1, by omega, by go_num, hb.alloc hb.size _, ?_⟩, by simp [intOf]; omega⟩
        rw [Hid, htk.out]
        exact decide_eq_true h1
      all_goals
        go_ret
        refine ⟨?_, hb.alloc hb.size _⟩
        rw [hbad.out (decide_eq_false (by omega))]
        rfl
    · obtain rfl : k = 6 := by omega
      go_wp2
      go_ret
      refine ⟨?_, hb⟩
      rw [show pairsB (pairs p s 0 0) = true from hall.out]
      rfl
theorem belongs_1 (p : Pl) (s : St) (w : World) (hp : p.pipe = 1) : Calls Try.prog 54 #[p.v, s.v] w fun e w' => e = .returned (.bool (pairsB (pairs p s p.feed 0))) ∧ Below w.heap.size w w' := by
  go_enter Try.func54, Try.ntmps54
  go_wp2_with fail
  refine wp_loop_rounds 2 ?_
  rw [rounds_succ]; go_wp2_with fail; rw [rounds_succ]; go_wp2_with fail
  go_loopw [53] (fun i wr => ∃ k : Nat, k ≤ 6 ∧ i = .int .i64 k ∧ Below w.heap.size w wr ∧ Hid (pairsB ((pairs p s p.feed 0).take k) = true)) (fun i _ => (6 - intOf i).toNat)
  case atStart => exact ⟨0, by omega, rfl, by repeat (first | exact Below.refl _ _ | refine Below.alloc ?_ (by simp <;> omega) _), rfl⟩
  case round =>
    obtain ⟨k, hk, rfl, hb, hall⟩ := hrel
    by_cases hlt : k < 6
    · obtain ⟨⟨x, hi⟩, ht⟩ : ∃ t, (pairs p s p.feed 0).getD k (0, 0) = t := ⟨_, rfl⟩
      have hix := ixS p s p.feed 0 k hlt
      have hbad := pairs_bad (l := pairs p s p.feed 0) (k := k) hlt
      have htk := pairs_take (l := pairs p s p.feed 0) (k := k) hlt
      rw [ht] at hix hbad htk
      rw [hall.out, Bool.true_and] at htk
      have hbad := Lib.hid hbad
      have htk := Lib.hid htk
      clear ht
      go_wp2
      case roundEnd =>
        have h1 : 0 ≤ x ∧ x ≤ hi := by assumption
        refine ⟨⟨k + 1, by omega, by go_num, hb.alloc hb.size _, ?_⟩, by simp [intOf]; omega⟩
        rw [Hid, htk.out]
        exact decide_eq_true h1
      all_goals
        go_ret
        refine ⟨?_, hb.alloc hb.size _⟩
        rw [hbad.out (decide_eq_false (by omega))]
        rfl
    · obtain rfl : k = 6 := by omega
      go_wp2
      go_ret
      refine ⟨?_, hb⟩
      rw [show pairsB (pairs p s p.feed 0) = true from hall.out]
      rfl
theorem belongs_2 (p : Pl) (s : St) (w : World) (hp : p.pipe = 2) : Calls Try.prog 54 #[p.v, s.v] w fun e w' => e = .returned (.bool (pairsB (pairs p s p.feed p.feed))) ∧ Below w.heap.size w w' := by
  go_enter Try.func54, Try.ntmps54
  go_wp2_with fail
  refine wp_loop_rounds 3 ?_
  rw [rounds_succ]; go_wp2_with fail; rw [rounds_succ]; go_wp2_with fail; rw [rounds_succ]; go_wp2_with fail
  go_loopw [53] (fun i wr => ∃ k : Nat, k ≤ 6 ∧ i = .int .i64 k ∧ Below w.heap.size w wr ∧ Hid (pairsB ((pairs p s p.feed p.feed).take k) = true)) (fun i _ => (6 - intOf i).toNat)
  case atStart => exact ⟨0, by omega, rfl, by repeat (first | exact Below.refl _ _ | refine Below.alloc ?_ (by simp <;> omega) _), rfl⟩
  case round =>
    obtain ⟨k, hk, rfl, hb, hall⟩ := hrel
    by_cases hlt : k < 6
    · obtain ⟨⟨x, hi⟩, ht⟩ : ∃ t, (pairs p s p.feed p.feed).getD k (0, 0) = t := ⟨_, rfl⟩
      have hix := ixS p s p.feed p.feed k hlt
      have hbad := pairs_bad (l := pairs p s p.feed p.feed) (k := k) hlt
      have htk := pairs_take (l := pairs p s p.feed p.feed) (k := k) hlt
      rw [ht] at hix hbad htk
      rw [hall.out, Bool.true_and] at htk
      have hbad := Lib.hid hbad
      have htk := Lib.hid htk
      clear ht
      go_wp2
      case roundEnd =>
        have h1 : 0 ≤ x ∧ x ≤ hi := by assumption
        refine ⟨⟨k + 1, by omega, by go_num, hb.alloc hb.size _, ?_⟩, by simp [intOf]; omega⟩
        rw [Hid, htk.out]
        exact decide_eq_true h1
      all_goals
        go_ret
        refine ⟨?_, hb.alloc hb.size _⟩
        rw [hbad.out (decide_eq_false (by omega))]
        rfl
    · obtain rfl : k = 6 := by omega
      go_wp2
      go_ret
      refine ⟨?_, hb⟩
      rw [show pairsB (pairs p s p.feed p.feed) = true from hall.out]
      rfl
theorem belongs_any (p : Pl) (s : St) (w : World) (hv : 0 ≤ p.pipe ∧ p.pipe ≤ 2) : Calls Try.prog 54 #[p.v, s.v] w fun e w' => e = .returned (.bool (p.hasB s)) ∧ Below w.heap.size w w' := by
  rw [Pl.hasB_pairs]
  rcases (show p.pipe = 0 ∨ p.pipe = 1 ∨ p.pipe = 2 by omega) with h | h | h
  · rw [if_neg (by omega), if_neg (by omega)]; exact belongs_0 p s w h
  · rw [if_pos (by omega), if_neg (by omega)]; exact belongs_1 p s w h
  · rw [if_pos (by omega), if_pos (by omega)]; exact belongs_2 p s w h
end Go.Proofs.Ytancngachnpefaa
