/- Contracts of belongs and Belongs. (Printed by gen_e.py.) -/
import Derived.Test.YtmbifmmkccghfaaGreatQK
import Derived.Deep.CutBlock
import Derived.Deep.DeepCutAuto
import Derived.Lib.MinMax
set_option linter.unusedVariables false
set_option linter.unusedSimpArgs false
set_option maxRecDepth 100000
set_option maxHeartbeats 4000000
namespace Go.Proofs.YtmbifmmkccghfaaGreat
open Go.RowKit
def pairs (p : Pl) (s : St) (m0 m1 : Int) : List (Int × Int) := [(s.level, p.top), (s.position, p.positions), (s.p0, m0), (s.p1, m1), (s.order, p.orders), (s.age, p.age)]
theorem ixS (p : Pl) (s : St) (m0 m1 : Int) (k : Nat) (hk : k < 6) (w : World) :
    (Instr.index 140 (.agg #[.int .i64 s.level, .int .i64 p.top, .int .i64 s.position, .int .i64 p.positions, .int .i64 s.p0, .int .i64 m0, .int .i64 s.p1, .int .i64 m1, .int .i64 s.order, .int .i64 p.orders, .int .i64 s.age, .int .i64 p.age]) (.int .i64 (k : Int))).run Tryz.prog w =
      .ok (.agg #[.int .i64 ((pairs p s m0 m1).getD k (0, 0)).1, .int .i64 ((pairs p s m0 m1).getD k (0, 0)).2]) w := by
  rcases (show k = 0 ∨ k = 1 ∨ k = 2 ∨ k = 3 ∨ k = 4 ∨ k = 5 by omega) with rfl | rfl | rfl | rfl | rfl | rfl
  all_goals kernel_rfl
def pairsB (l : List (Int × Int)) : Bool := l.all fun t => inI t.1 0 t.2
theorem pairs_take {l : List (Int × Int)} {k : Nat} (hk : k < l.length) : pairsB (l.take (k + 1)) = (pairsB (l.take k) && inI (l.getD k (0, 0)).1 0 (l.getD k (0, 0)).2) := by
  unfold pairsB
  rw [List.take_succ_eq_append_getElem hk, List.all_append]
  simp [List.getD_eq_getElem?_getD, List.getElem?_eq_getElem hk]
theorem pairs_bad {l : List (Int × Int)} {k : Nat} (hk : k < l.length) (h : inI (l.getD k (0, 0)).1 0 (l.getD k (0, 0)).2 = false) : pairsB l = false := by
  have : l.getD k (0, 0) ∈ l := by simp [List.getD_eq_getElem?_getD, List.getElem?_eq_getElem hk]
  unfold pairsB
  rw [List.all_eq_false]
  exact ⟨_, this, by rw [h]; decide⟩
theorem Pl.hasB_pairs (p : Pl) (s : St) : p.hasB s = pairsB (pairs p s (if 0 < p.pipe then p.feed else 0) (if 1 < p.pipe then p.feed else 0)) := by
  simp [Pl.hasB, pairsB, pairs]
theorem belongs_0 (p : Pl) (s : St) (w : World) (hp : p.pipe = 0) : Calls Tryz.prog 33 #[p.v, s.v] w fun e w' => e = .returned (.bool (pairsB (pairs p s 0 0))) ∧ Below w.heap.size w w' := by
  go_enter Tryz.func33, Tryz.ntmps33
  go_wp2_with fail
  refine wp_loop_rounds 1 ?_
  rw [rounds_succ]; go_wp2_with fail
  go_loopw [53] (fun i wr => ∃ k : Nat, k ≤ 6 ∧ i = .int .i64 k ∧ Below w.heap.size w wr ∧ Hid (pairsB ((pairs p s 0 0).take k) = true)) (fun i _ => (6 - intOf i).toNat)
  case atStart => exact ⟨0, by omega, rfl, by repeat (first | exact Below.refl _ _ | refine Below.alloc ?_ (by simp <;> omega) _), rfl⟩
  case round =>
    obtain ⟨k, hk, rfl, hb, hall⟩ := hrel
    by_cases hlt : k < 6
    · obtain ⟨⟨x, hi⟩, ht⟩ : ∃ t, (pairs p s 0 0).getD k (0, 0) = t := ⟨_, rfl⟩
      have hix := ixS p s 0 0 k hlt
      have hbad := pairs_bad (l := pairs p s 0 0) (k := k) hlt
      have htk := pairs_take (l := pairs p s 0 0) (k := k) hlt
      rw [ht] at hix hbad htk
      rw [hall.out, Bool.true_and] at htk
      have hbad := Lib.hid hbad
      have htk := Lib.hid htk
      clear ht
      go_wp2
      case roundEnd =>
        have h1 : 0 ≤ x ∧ x ≤ hi := by assumption
        refine ⟨⟨k + 1, by omega, by go_num, hb.alloc hb.size _, ?_⟩, by simp [intOf]; omega⟩
        rw [Hid, htk.out]
        exact decide_eq_true h1
      all_goals
        go_ret
        refine ⟨?_, hb.alloc hb.size _⟩
        rw [hbad.out (decide_eq_false (by omega))]
        rfl
    · obtain rfl : k = 6 := by omega
      go_wp2
      go_ret
      refine ⟨?_, hb⟩
      rw [show pairsB (pairs p s 0 0) = true from hall.out]
      rfl
theorem belongs_1 (p : Pl) (s : St) (w : World) (hp : p.pipe = 1) : Calls Tryz.prog 33 #[p.v, s.v] w fun e w' => e = .returned (.bool (pairsB (pairs p s p.feed 0))) ∧ Below w.heap.size w w' := by
  go_enter Tryz.func33, Tryz.ntmps33
  go_wp2_with fail
  refine wp_loop_rounds 2 ?_
  rw [rounds_succ]; go_wp2_with fail; rw [rounds_succ]; go_wp2_with fail
  go_loopw [53] (fun i wr => ∃ k : Nat, k ≤ 6 ∧ i = .int .i64 k ∧ Below w.heap.size w wr ∧ Hid (pairsB ((pairs p s p.feed 0).take k) = true)) (fun i _ => (6 - intOf i).toNat)
  case atStart => exact ⟨0, by omega, rfl, by repeat (first | exact Below.refl _ _ | refine Below.alloc ?_ (by simp <;> omega) _), rfl⟩
  case round =>
    obtain ⟨k, hk, rfl, hb, hall⟩ := hrel
    by_cases hlt : k < 6
    · obtain ⟨⟨x, hi⟩, ht⟩ : ∃ t, (pairs p s p.feed 0).getD k (0, 0) = t := ⟨_, rfl⟩
      have hix := ixS p s p.feed 0 k hlt
      have hbad := pairs_bad (l := pairs p s p.feed 0) (k := k) hlt
      have htk := pairs_take (l := pairs p s p.feed 0) (k := k) hlt
      rw [ht] at hix hbad htk
      rw [hall.out, Bool.true_and] at htk
      have hbad := Lib.hid hbad
      have htk := Lib.hid htk
      clear ht
      go_wp2
      case roundEnd =>
        have h1 : 0 ≤ x ∧ x ≤ hi := by assumption
        refine ⟨⟨k + 1, by omega, by go_num, hb.alloc hb.size _, ?_⟩, by simp [intOf]; omega⟩
        rw [Hid, htk.out]
        exact decide_eq_true h1
      all_goals
        go_ret
        refine ⟨?_, hb.alloc hb.size _⟩
        rw [hbad.out (decide_eq_false (by omega))]
        rfl
    · obtain rfl : k = 6 := by omega
      go_wp2
      go_ret
      refine ⟨?_, hb⟩
      rw [show pairsB (pairs p s p.feed 0) = true from hall.out]
      rfl
theorem belongs_2 (p : Pl) (s : St) (w : World) (hp : p.pipe = 2) : Calls Tryz.prog 33 #[p.v, s.v] w fun e w' => e = .returned (.bool (pairsB (pairs p s p.feed p.feed))) ∧ Below w.heap.size w w' := by
  go_enter Tryz.func33, Tryz.ntmps33
  go_wp2_with fail
  refine wp_loop_rounds 3 ?_
  rw [rounds_succ]; go_wp2_with fail; rw [rounds_succ]; go_wp2_with fail; rw [rounds_succ]; go_wp2_with fail
  go_loopw [53] (fun i wr => ∃ k : Nat, k ≤ 6 ∧ i = .int .i64 k ∧ Below w.heap.size w wr ∧ Hid (pairsB ((pairs p s p.feed p.feed).take k) = true)) (fun i _ => (6 - intOf i).toNat)
  case atStart => exact ⟨0, by omega, rfl, by repeat (first | exact Below.refl _ _ | refine Below.alloc ?_ (by simp <;> omega) _), rfl⟩
  case round =>
    obtain ⟨k, hk, rfl, hb, hall⟩ := hrel
    by_cases hlt : k < 6
    · obtain ⟨⟨x, hi⟩, ht⟩ : ∃ t, (pairs p s p.feed p.feed).getD k (0, 0) = t := ⟨_, rfl⟩
      have hix := ixS p s p.feed p.feed k hlt
      have hbad := pairs_bad (l := pairs p s p.feed p.feed) (k := k) hlt
      have htk := pairs_take (l := pairs p s p.feed p.feed) (k := k) hlt
      rw [ht] at hix hbad htk
      rw [hall.out, Bool.true_and] at htk
      have hbad := Lib.hid hbad
      have htk := Lib.hid htk
      clear ht
      go_wp2
      case roundEnd =>
        have h1 : 0 ≤ x ∧ x ≤ hi := by assumption
        refine ⟨⟨k + 1, by omega, by go_num, hb.alloc hb.size _, ?_⟩, by simp [intOf]; omega⟩
        rw [Hid, htk.out]
        exact decide_eq_true h1
      all_goals
        go_ret
        refine ⟨?_, hb.alloc hb.size _⟩
        rw [hbad.out (decide_eq_false (by omega))]
        rfl
    · obtain rfl : k = 6 := by omega
      go_wp2
      go_ret
      refine ⟨?_, hb⟩
      rw [show pairsB (pairs p s p.feed p.feed) = true from hall.out]
      rfl
theorem belongs_any (p : Pl) (s : St) (w : World) (hv : 0 ≤ p.pipe ∧ p.pipe ≤ 2) : Calls Tryz.prog 33 #[p.v, s.v] w fun e w' => e = .returned (.bool (p.hasB s)) ∧ Below w.heap.size w w' := by
  rw [Pl.hasB_pairs]
  rcases (show p.pipe = 0 ∨ p.pipe = 1 ∨ p.pipe = 2 by omega) with h | h | h
  · rw [if_neg (by omega), if_neg (by omega)]; exact belongs_0 p s w h
  · rw [if_pos (by omega), if_neg (by omega)]; exact belongs_1 p s w h
  · rw [if_pos (by omega), if_pos (by omega)]; exact belongs_2 p s w h
end Go.Proofs.YtmbifmmkccghfaaGreat
namespace Go.Proofs.YtmbifmmkccghfaaGreat
open Go.RowKit
theorem check_low (p : Pl) (w : World) (h : p.top < 1 ∨ 63 < p.top) : Calls Tryz.prog 27 #[p.v] w fun e w' => e = .returned (.int .i64 320) ∧ Below w.heap.size w w' := by
  obtain ⟨m, hm⟩ : ∃ m, IntKind.i64.wrap (p.top - 1) = m := ⟨_, rfl⟩
  have hix := ixP0 p m
  rcases h with h | h
  all_goals
    go_enter Tryz.func27, Tryz.ntmps27
    go_wp2_with fail
    refine wp_loop_rounds 1 ?_
    rw [rounds_succ]
    go_wp2
    go_ret
    exact ⟨rfl, ((Below.refl _ _).alloc (Nat.le_refl _) _).alloc (by simp) _⟩
theorem check_mid (p : Pl) (w : World) (h1 : 1 ≤ p.top) (h2 : p.top ≤ 63) : Calls Tryz.prog 27 #[p.v] w fun e w' => e = .returned (.int .i64 p.checkT) ∧ Below w.heap.size w w' := by
  go_enter Tryz.func27, Tryz.ntmps27
  go_wp2_with fail
  have X := Box.new w p.cells 23
  have hB : Below w.heap.size w (w.alloc (.cells #[.int .i64 p.top, .int .i64 p.bank, .int .i64 p.siphon, .int .i64 p.start, .int .i64 p.positions, .int .i64 p.rate, .int .i64 p.step, .int .i64 p.pass, .int .i64 p.feed, .int .i64 p.pipe, .int .i64 p.orders, .int .i64 p.age] 23)) := (Below.refl _ _).alloc (Nat.le_refl _) _
  generalize w.alloc (.cells #[.int .i64 p.top, .int .i64 p.bank, .int .i64 p.siphon, .int .i64 p.start, .int .i64 p.positions, .int .i64 p.rate, .int .i64 p.step, .int .i64 p.pass, .int .i64 p.feed, .int .i64 p.pipe, .int .i64 p.orders, .int .i64 p.age] 23) = W at X hB ⊢
  go_loopw [49] (fun i wr => ∃ k : Nat, k ≤ 12 ∧ i = .int .i64 k ∧ Below W.heap.size W wr ∧ Hid (((p.bounds.take k).all fun t => inI t.1 t.2.1 t.2.2) = true)) (fun i _ => (12 - intOf i).toNat)
  case atStart => exact ⟨0, by omega, rfl, Below.refl _ _, rfl⟩
  case round =>
    obtain ⟨k, hk, rfl, hb, hall⟩ := hrel
    by_cases hlt : k < 12
    · obtain ⟨⟨x, lo, hi⟩, ht⟩ : ∃ t, p.bounds.getD k (0, 0, 0) = t := ⟨_, rfl⟩
      have hix := ixP p k hlt
      have hbad := Pl.bounds_bad (p := p) hlt
      have htk := p.bounds_take k hlt
      rw [ht] at hix hbad htk
      rw [hall.out, Bool.true_and] at htk
      have hbad := Lib.hid hbad
      have htk := Lib.hid htk
      clear ht
      go_wp2
      case roundEnd =>
        have h1 : lo ≤ x ∧ x ≤ hi := by assumption
        refine ⟨⟨k + 1, by omega, by go_num, hb.alloc hb.size _, ?_⟩, by simp [intOf]; omega⟩
        rw [Hid, htk.out]
        exact decide_eq_true h1
      all_goals
        go_ret
        refine ⟨?_, (hB.trans (hb.mono hB.size)).alloc (by have := hB.size; have := hb.size; omega) _⟩
        rw [Pl.check_bad (hbad.out (decide_eq_false (by omega)))]
        rfl
    · obtain rfl : k = 12 := by omega
      have hv : p.validB = true := by rw [Pl.bounds_all]; exact hall.out
      have X' := X.later hb
      obtain ⟨c0, c1, c2, c3, c4, c5, c6, c7, c8, c9, c10, c11⟩ := X'.c12
      have hcz : Hid (p.checkT = if 4096 < p.countI then 2 else 0) := by rw [Hid, Pl.checkT, if_pos hv]
      have HV := Lib.hid (Pl.valid_of hv)
      clear hv
      go_wp2_with fail
      refine (count_any p HV _).mono ?_
      rintro e w2 ⟨rfl, hb2⟩
      by_cases hc : 4096 < p.countI
      · go_wp2
        go_ret
        exact ⟨by rw [hcz.out, if_pos hc]; rfl, hB.trans ((hb.trans (hb2.mono hb.size)).mono hB.size)⟩
      · go_wp2
        go_ret
        exact ⟨by rw [hcz.out, if_neg (by omega)]; rfl, hB.trans ((hb.trans (hb2.mono hb.size)).mono hB.size)⟩
theorem check_any (p : Pl) (w : World) : Calls Tryz.prog 27 #[p.v] w fun e w' => e = .returned (.int .i64 p.checkT) ∧ Below w.heap.size w w' := by
  by_cases h : p.top < 1 ∨ 63 < p.top
  · rw [Pl.check_bad (Pl.invalid_top h)]
    exact check_low p w h
  · exact check_mid p w (by omega) (by omega)
end Go.Proofs.YtmbifmmkccghfaaGreat
namespace Go.Proofs.YtmbifmmkccghfaaGreat
open Go.RowKit
def RetS (t : St × Int) (w : World) (e : Ending) (w' : World) : Prop := ∃ (s : St) (er : Int), e = .returned (.tuple #[s.v, .int .i64 er]) ∧ Hid (t = (s, er)) ∧ Below w.heap.size w w'
def RetN (t : Int × Int) (w : World) (e : Ending) (w' : World) : Prop := ∃ n er : Int, e = .returned (.tuple #[.int .i64 n, .int .i64 er]) ∧ Hid (t = (n, er)) ∧ Below w.heap.size w w'
def RetO (t : Bool × Int) (w : World) (e : Ending) (w' : World) : Prop := ∃ (ok : Bool) (er : Int), e = .returned (.tuple #[.bool ok, .int .i64 er]) ∧ Hid (t = (ok, er)) ∧ Below w.heap.size w w'
theorem check_at {p : Pl} {c : Int} (h : Hid (p.checkT = c)) (w : World) : Calls Tryz.prog 27 #[p.v] w fun e w' => e = .returned (.int .i64 c) ∧ Below w.heap.size w w' :=
  (check_any p w).mono fun _ _ ⟨he, hb⟩ => ⟨by rw [he, h.out], hb⟩
theorem rcheck_at {p : Pl} {c : Int} (h : Hid (p.checkT = c)) (w : World) : Calls Tryz.prog 18 #[p.v] w fun e w' => e = .returned (.int .i64 c) ∧ Below w.heap.size w w' :=
  (rcheck_any p w).mono fun _ _ ⟨he, hb⟩ => ⟨by rw [he, h.out], hb⟩
theorem Begin_no (p : Pl) (c : Int) (h : Hid (p.checkT = c)) (_h1 : (c == 0) = false) (_h2 : (c != 0) = true) (w : World) : Calls Tryz.prog 8 #[p.v] w fun e w' => e = .returned (.tuple #[St.zero.v, .int .i64 c]) ∧ Below w.heap.size w w' := by
  go_enter Tryz.func8, Tryz.ntmps8
  go_wp2_with fail
  refine (check_at h _).mono ?_
  rintro e w1 ⟨rfl, hb⟩
  have X0 := (((Box.newAt (n := w.heap.size) [.int .i64 p.top, .int .i64 p.bank, .int .i64 p.siphon, .int .i64 p.start, .int .i64 p.positions, .int .i64 p.rate, .int .i64 p.step, .int .i64 p.pass, .int .i64 p.feed, .int .i64 p.pipe, .int .i64 p.orders, .int .i64 p.age] 23 (by simp)).alloc _)).later hb
  have X1 := ((Box.newAt (n := w.heap.size + 1) [.int .i64 0, .int .i64 0, .int .i64 0, .int .i64 0, .int .i64 0, .int .i64 0] 33 (by simp))).later hb
  have hB : Below w.heap.size w w1 := ((((Below.refl w.heap.size w).alloc (by simp <;> omega) _).alloc (by simp <;> omega) _)).trans (hb.mono (by simp <;> omega))
  clear hb
  obtain ⟨X1c0, X1f0, X1c1, X1f1, X1c2, X1f2, X1c3, X1f3, X1c4, X1f4, X1c5, X1f5⟩ := X1.f6
  have X1z : w.heap.size + 1 < w1.heap.size := X1.lt
  have hle : w.heap.size ≤ w.heap.size + 1 := by omega
  go_wp2
  have hY := ((((((X1.set 0 (.int .i64 0)).set 1 (.int .i64 0)).set 2 (.int .i64 0)).set 3 (.int .i64 0)).set 4 (.int .i64 0)).set 5 (.int .i64 0))
  have hB := ((((((hB.setCell (p := ⟨w.heap.size + 1, 0, none⟩) (by simp) (.int .i64 0)).setCell (p := ⟨w.heap.size + 1, 1, none⟩) (by simp) (.int .i64 0)).setCell (p := ⟨w.heap.size + 1, 2, none⟩) (by simp) (.int .i64 0)).setCell (p := ⟨w.heap.size + 1, 3, none⟩) (by simp) (.int .i64 0)).setCell (p := ⟨w.heap.size + 1, 4, none⟩) (by simp) (.int .i64 0)).setCell (p := ⟨w.heap.size + 1, 5, none⟩) (by simp) (.int .i64 0))
  generalize ((((((w1.setCell ⟨w.heap.size + 1, 0, none⟩ (.int .i64 0)).setCell ⟨w.heap.size + 1, 1, none⟩ (.int .i64 0)).setCell ⟨w.heap.size + 1, 2, none⟩ (.int .i64 0)).setCell ⟨w.heap.size + 1, 3, none⟩ (.int .i64 0)).setCell ⟨w.heap.size + 1, 4, none⟩ (.int .i64 0)).setCell ⟨w.heap.size + 1, 5, none⟩ (.int .i64 0)) = W at hY hB ⊢
  obtain ⟨y0, y1, y2, y3, y4, y5⟩ := hY.c6
  refine bodyPost_ret (v := .tuple #[St.zero.v, .int .i64 c]) (by simp [results, Tryz.results8, go_sem, y0, y1, y2, y3, y4, y5, St.zero]) rfl ?_
  exact ⟨rfl, hB⟩
theorem Begin_yes (p : Pl) (h : Hid (p.checkT = 0)) (w : World) : Calls Tryz.prog 8 #[p.v] w fun e w' => e = .returned (.tuple #[(St.mk p.start 0 0 0 0 p.age).v, .int .i64 0]) ∧ Below w.heap.size w w' := by
  go_enter Tryz.func8, Tryz.ntmps8
  go_wp2_with fail
  refine (check_at h _).mono ?_
  rintro e w1 ⟨rfl, hb⟩
  have X0 := (((Box.newAt (n := w.heap.size) [.int .i64 p.top, .int .i64 p.bank, .int .i64 p.siphon, .int .i64 p.start, .int .i64 p.positions, .int .i64 p.rate, .int .i64 p.step, .int .i64 p.pass, .int .i64 p.feed, .int .i64 p.pipe, .int .i64 p.orders, .int .i64 p.age] 23 (by simp)).alloc _)).later hb
  have X1 := ((Box.newAt (n := w.heap.size + 1) [.int .i64 0, .int .i64 0, .int .i64 0, .int .i64 0, .int .i64 0, .int .i64 0] 33 (by simp))).later hb
  have hB : Below w.heap.size w w1 := ((((Below.refl w.heap.size w).alloc (by simp <;> omega) _).alloc (by simp <;> omega) _)).trans (hb.mono (by simp <;> omega))
  clear hb
  obtain ⟨X0c0, X0f0, X0c1, X0f1, X0c2, X0f2, X0c3, X0f3, X0c4, X0f4, X0c5, X0f5, X0c6, X0f6, X0c7, X0f7, X0c8, X0f8, X0c9, X0f9, X0c10, X0f10, X0c11, X0f11⟩ := X0.f12
  have X0z : w.heap.size < w1.heap.size := X0.lt
  obtain ⟨X1c0, X1f0, X1c1, X1f1, X1c2, X1f2, X1c3, X1f3, X1c4, X1f4, X1c5, X1f5⟩ := X1.f6
  have X1z : w.heap.size + 1 < w1.heap.size := X1.lt
  go_wp2
  have hY := ((((((X1.set 0 (.int .i64 p.start)).set 1 (.int .i64 0)).set 2 (.int .i64 0)).set 3 (.int .i64 0)).set 4 (.int .i64 0)).set 5 (.int .i64 p.age))
  have hB := ((((((hB.setCell (p := ⟨w.heap.size + 1, 0, none⟩) (by simp) (.int .i64 p.start)).setCell (p := ⟨w.heap.size + 1, 1, none⟩) (by simp) (.int .i64 0)).setCell (p := ⟨w.heap.size + 1, 2, none⟩) (by simp) (.int .i64 0)).setCell (p := ⟨w.heap.size + 1, 3, none⟩) (by simp) (.int .i64 0)).setCell (p := ⟨w.heap.size + 1, 4, none⟩) (by simp) (.int .i64 0)).setCell (p := ⟨w.heap.size + 1, 5, none⟩) (by simp) (.int .i64 p.age))
  generalize ((((((w1.setCell ⟨w.heap.size + 1, 0, none⟩ (.int .i64 p.start)).setCell ⟨w.heap.size + 1, 1, none⟩ (.int .i64 0)).setCell ⟨w.heap.size + 1, 2, none⟩ (.int .i64 0)).setCell ⟨w.heap.size + 1, 3, none⟩ (.int .i64 0)).setCell ⟨w.heap.size + 1, 4, none⟩ (.int .i64 0)).setCell ⟨w.heap.size + 1, 5, none⟩ (.int .i64 p.age)) = W at hY hB ⊢
  obtain ⟨y0, y1, y2, y3, y4, y5⟩ := hY.c6
  refine bodyPost_ret (v := .tuple #[(St.mk p.start 0 0 0 0 p.age).v, .int .i64 0]) (by simp [results, Tryz.results8, go_sem, y0, y1, y2, y3, y4, y5]) rfl ?_
  exact ⟨rfl, hB⟩
theorem Begin_any (p : Pl) (w : World) : Calls Tryz.prog 8 #[p.v] w (RetS p.beginT w) := by
  by_cases h : p.checkT = 0
  · exact (Begin_yes p h w).mono fun _ _ ⟨he, hb⟩ => ⟨_, _, he, by rw [Hid, Pl.beginT, if_pos h], hb⟩
  · exact (Begin_no p _ rfl (by simp [h]) (by simp [h]) w).mono fun _ _ ⟨he, hb⟩ => ⟨_, _, he, by rw [Hid, Pl.beginT, if_neg h], hb⟩
theorem rCount_no (p : Pl) (c : Int) (h : Hid (p.checkT = c)) (_h1 : (c == 0) = false) (_h2 : (c != 0) = true) (w : World) : Calls Tryz.prog 19 #[p.v] w fun e w' => e = .returned (.tuple #[.int .i64 0, .int .i64 c]) ∧ Below w.heap.size w w' := by
  go_enter Tryz.func19, Tryz.ntmps19
  go_wp2_with fail
  refine (rcheck_at h _).mono ?_
  rintro e w1 ⟨rfl, hb⟩
  have X0 := ((Box.newAt (n := w.heap.size) [.int .i64 p.top, .int .i64 p.bank, .int .i64 p.siphon, .int .i64 p.start, .int .i64 p.positions, .int .i64 p.rate, .int .i64 p.step, .int .i64 p.pass, .int .i64 p.feed, .int .i64 p.pipe, .int .i64 p.orders, .int .i64 p.age] 23 (by simp))).later hb
  have hB : Below w.heap.size w w1 := (((Below.refl w.heap.size w).alloc (by simp <;> omega) _)).trans (hb.mono (by simp <;> omega))
  clear hb
  go_wp2
  go_ret2
  exact ⟨rfl, hB⟩
theorem rCount_yes (p : Pl) (h : Hid (p.checkT = 0)) (hv : Hid p.Valid) (w : World) : Calls Tryz.prog 19 #[p.v] w fun e w' => e = .returned (.tuple #[.int .i64 p.countI, .int .i64 0]) ∧ Below w.heap.size w w' := by
  go_enter Tryz.func19, Tryz.ntmps19
  go_wp2_with fail
  refine (rcheck_at h _).mono ?_
  rintro e w1 ⟨rfl, hb⟩
  have X0 := ((Box.newAt (n := w.heap.size) [.int .i64 p.top, .int .i64 p.bank, .int .i64 p.siphon, .int .i64 p.start, .int .i64 p.positions, .int .i64 p.rate, .int .i64 p.step, .int .i64 p.pass, .int .i64 p.feed, .int .i64 p.pipe, .int .i64 p.orders, .int .i64 p.age] 23 (by simp))).later hb
  have hB : Below w.heap.size w w1 := (((Below.refl w.heap.size w).alloc (by simp <;> omega) _)).trans (hb.mono (by simp <;> omega))
  clear hb
  obtain ⟨X0c0, X0f0, X0c1, X0f1, X0c2, X0f2, X0c3, X0f3, X0c4, X0f4, X0c5, X0f5, X0c6, X0f6, X0c7, X0f7, X0c8, X0f8, X0c9, X0f9, X0c10, X0f10, X0c11, X0f11⟩ := X0.f12
  have X0z : w.heap.size < w1.heap.size := X0.lt
  go_wp2_with fail
  refine (rcount_any p hv _).mono ?_
  rintro e w2 ⟨rfl, hb⟩
  clear X0c0 X0f0 X0c1 X0f1 X0c2 X0f2 X0c3 X0f3 X0c4 X0f4 X0c5 X0f5 X0c6 X0f6 X0c7 X0f7 X0c8 X0f8 X0c9 X0f9 X0c10 X0f10 X0c11 X0f11 X0z
  have X0 := X0.later hb
  have hB := hB.trans (hb.mono hB.size)
  clear hb
  go_wp2
  go_ret2
  exact ⟨rfl, hB⟩
theorem rCount_any (p : Pl) (w : World) : Calls Tryz.prog 19 #[p.v] w (RetN p.countT w) := by
  by_cases h : p.checkT = 0
  · exact (rCount_yes p h (Pl.check_zero h).1 w).mono fun _ _ ⟨he, hb⟩ => ⟨_, _, he, by rw [Hid, Pl.countT, if_pos h], hb⟩
  · exact (rCount_no p _ rfl (by simp [h]) (by simp [h]) w).mono fun _ _ ⟨he, hb⟩ => ⟨_, _, he, by rw [Hid, Pl.countT, if_neg h], hb⟩
end Go.Proofs.YtmbifmmkccghfaaGreat
namespace Go.Proofs.YtmbifmmkccghfaaGreat
open Go.RowKit
theorem Pl.hasB_bd {p : Pl} {s : St} (h : p.hasB s = true) : (0 ≤ s.level ∧ s.level ≤ p.top) ∧ (0 ≤ s.position ∧ s.position ≤ p.positions) ∧ (0 ≤ s.p0 ∧ s.p0 ≤ if 0 < p.pipe then p.feed else 0) ∧ (0 ≤ s.p1 ∧ s.p1 ≤ if 1 < p.pipe then p.feed else 0) ∧ (0 ≤ s.order ∧ s.order ≤ p.orders) ∧ 0 ≤ s.age ∧ s.age ≤ p.age := by
  simp only [Pl.hasB, Bool.and_eq_true] at h
  obtain ⟨h1, h2, h3, h4, h5, h6⟩ := h
  exact ⟨inI_yes h1, inI_yes h2, inI_yes h3, inI_yes h4, inI_yes h5, inI_yes h6⟩
theorem rate_wrap {p : Pl} {s : St} (hv : p.Valid) (h : p.hasB s = true) : IntKind.i64.wrap (p.rate * s.position) = p.rate * s.position := by
  obtain ⟨_, h2, _⟩ := Pl.hasB_bd h
  have h3 := hv.rate
  have h4 := hv.positions
  have := mul_le4 (a := p.rate) (b := s.position) (A := 15) (B := 15) (by omega) (by omega)
  exact wrap_id (by omega) (by omega)
theorem Safe_no (p : Pl) (s : St) (c : Int) (h : Hid (p.checkT = c)) (_h1 : (c == 0) = false) (_h2 : (c != 0) = true) (w : World) : Calls Tryz.prog 12 #[p.v, s.v] w fun e w' => e = .returned (.tuple #[.bool false, .int .i64 c]) ∧ Below w.heap.size w w' := by
  go_enter Tryz.func12, Tryz.ntmps12
  go_wp2_with fail
  refine (check_at h _).mono ?_
  rintro e w1 ⟨rfl, hb⟩
  have X0 := (((Box.newAt (n := w.heap.size) [.int .i64 p.top, .int .i64 p.bank, .int .i64 p.siphon, .int .i64 p.start, .int .i64 p.positions, .int .i64 p.rate, .int .i64 p.step, .int .i64 p.pass, .int .i64 p.feed, .int .i64 p.pipe, .int .i64 p.orders, .int .i64 p.age] 23 (by simp)).alloc _)).later hb
  have X1 := ((Box.newAt (n := w.heap.size + 1) [.int .i64 s.level, .int .i64 s.position, .int .i64 s.p0, .int .i64 s.p1, .int .i64 s.order, .int .i64 s.age] 33 (by simp))).later hb
  have hB : Below w.heap.size w w1 := ((((Below.refl w.heap.size w).alloc (by simp <;> omega) _).alloc (by simp <;> omega) _)).trans (hb.mono (by simp <;> omega))
  clear hb
  go_wp2
  go_ret2
  exact ⟨rfl, hB⟩
theorem Safe_out (p : Pl) (s : St) (h : Hid (p.checkT = 0)) (hp : Hid (0 ≤ p.pipe ∧ p.pipe ≤ 2)) (hh : Hid (p.hasB s = false)) (w : World) : Calls Tryz.prog 12 #[p.v, s.v] w fun e w' => e = .returned (.tuple #[.bool false, .int .i64 320]) ∧ Below w.heap.size w w' := by
  go_enter Tryz.func12, Tryz.ntmps12
  go_wp2_with fail
  refine (check_at h _).mono ?_
  rintro e w1 ⟨rfl, hb⟩
  have X0 := (((Box.newAt (n := w.heap.size) [.int .i64 p.top, .int .i64 p.bank, .int .i64 p.siphon, .int .i64 p.start, .int .i64 p.positions, .int .i64 p.rate, .int .i64 p.step, .int .i64 p.pass, .int .i64 p.feed, .int .i64 p.pipe, .int .i64 p.orders, .int .i64 p.age] 23 (by simp)).alloc _)).later hb
  have X1 := ((Box.newAt (n := w.heap.size + 1) [.int .i64 s.level, .int .i64 s.position, .int .i64 s.p0, .int .i64 s.p1, .int .i64 s.order, .int .i64 s.age] 33 (by simp))).later hb
  have hB : Below w.heap.size w w1 := ((((Below.refl w.heap.size w).alloc (by simp <;> omega) _).alloc (by simp <;> omega) _)).trans (hb.mono (by simp <;> omega))
  clear hb
  obtain ⟨X0c0, X0f0, X0c1, X0f1, X0c2, X0f2, X0c3, X0f3, X0c4, X0f4, X0c5, X0f5, X0c6, X0f6, X0c7, X0f7, X0c8, X0f8, X0c9, X0f9, X0c10, X0f10, X0c11, X0f11⟩ := X0.f12
  have X0z : w.heap.size < w1.heap.size := X0.lt
  obtain ⟨X1c0, X1f0, X1c1, X1f1, X1c2, X1f2, X1c3, X1f3, X1c4, X1f4, X1c5, X1f5⟩ := X1.f6
  have X1z : w.heap.size + 1 < w1.heap.size := X1.lt
  go_wp2_with fail
  refine (((belongs_any p s _ hp.out).mono fun _ _ ⟨he, hb⟩ => ⟨by rw [he, hh.out], hb⟩ : Calls Tryz.prog 33 #[p.v, s.v] _ fun e w' => e = .returned (.bool false) ∧ Below _ _ w')).mono ?_
  rintro e w2 ⟨rfl, hb⟩
  clear X0c0 X0f0 X0c1 X0f1 X0c2 X0f2 X0c3 X0f3 X0c4 X0f4 X0c5 X0f5 X0c6 X0f6 X0c7 X0f7 X0c8 X0f8 X0c9 X0f9 X0c10 X0f10 X0c11 X0f11 X0z X1c0 X1f0 X1c1 X1f1 X1c2 X1f2 X1c3 X1f3 X1c4 X1f4 X1c5 X1f5 X1z
  have X0 := X0.later hb
  have X1 := X1.later hb
  have hB := hB.trans (hb.mono hB.size)
  clear hb
  go_wp2
  go_ret2
  exact ⟨rfl, hB⟩
theorem Safe_in0 (p : Pl) (s : St) (h : Hid (p.checkT = 0)) (hv : Hid p.Valid) (hh : Hid (p.hasB s = true)) (_k1 : s.level < p.siphon) (w : World) : Calls Tryz.prog 12 #[p.v, s.v] w fun e w' => e = .returned (.tuple #[.bool false, .int .i64 0]) ∧ Below w.heap.size w w' := by
  go_enter Tryz.func12, Tryz.ntmps12
  go_wp2_with fail
  refine (check_at h _).mono ?_
  rintro e w1 ⟨rfl, hb⟩
  have X0 := (((Box.newAt (n := w.heap.size) [.int .i64 p.top, .int .i64 p.bank, .int .i64 p.siphon, .int .i64 p.start, .int .i64 p.positions, .int .i64 p.rate, .int .i64 p.step, .int .i64 p.pass, .int .i64 p.feed, .int .i64 p.pipe, .int .i64 p.orders, .int .i64 p.age] 23 (by simp)).alloc _)).later hb
  have X1 := ((Box.newAt (n := w.heap.size + 1) [.int .i64 s.level, .int .i64 s.position, .int .i64 s.p0, .int .i64 s.p1, .int .i64 s.order, .int .i64 s.age] 33 (by simp))).later hb
  have hB : Below w.heap.size w w1 := ((((Below.refl w.heap.size w).alloc (by simp <;> omega) _).alloc (by simp <;> omega) _)).trans (hb.mono (by simp <;> omega))
  clear hb
  obtain ⟨X0c0, X0f0, X0c1, X0f1, X0c2, X0f2, X0c3, X0f3, X0c4, X0f4, X0c5, X0f5, X0c6, X0f6, X0c7, X0f7, X0c8, X0f8, X0c9, X0f9, X0c10, X0f10, X0c11, X0f11⟩ := X0.f12
  have X0z : w.heap.size < w1.heap.size := X0.lt
  obtain ⟨X1c0, X1f0, X1c1, X1f1, X1c2, X1f2, X1c3, X1f3, X1c4, X1f4, X1c5, X1f5⟩ := X1.f6
  have X1z : w.heap.size + 1 < w1.heap.size := X1.lt
  go_wp2_with fail
  refine (((belongs_any p s _ hv.out.pipe).mono fun _ _ ⟨he, hb⟩ => ⟨by rw [he, hh.out], hb⟩ : Calls Tryz.prog 33 #[p.v, s.v] _ fun e w' => e = .returned (.bool true) ∧ Below _ _ w')).mono ?_
  rintro e w2 ⟨rfl, hb⟩
  clear X0c0 X0f0 X0c1 X0f1 X0c2 X0f2 X0c3 X0f3 X0c4 X0f4 X0c5 X0f5 X0c6 X0f6 X0c7 X0f7 X0c8 X0f8 X0c9 X0f9 X0c10 X0f10 X0c11 X0f11 X0z X1c0 X1f0 X1c1 X1f1 X1c2 X1f2 X1c3 X1f3 X1c4 X1f4 X1c5 X1f5 X1z
  have X0 := X0.later hb
  have X1 := X1.later hb
  have hB := hB.trans (hb.mono hB.size)
  clear hb
  obtain ⟨X0c0, X0f0, X0c1, X0f1, X0c2, X0f2, X0c3, X0f3, X0c4, X0f4, X0c5, X0f5, X0c6, X0f6, X0c7, X0f7, X0c8, X0f8, X0c9, X0f9, X0c10, X0f10, X0c11, X0f11⟩ := X0.f12
  have X0z : w.heap.size < w2.heap.size := X0.lt
  obtain ⟨X1c0, X1f0, X1c1, X1f1, X1c2, X1f2, X1c3, X1f3, X1c4, X1f4, X1c5, X1f5⟩ := X1.f6
  have X1z : w.heap.size + 1 < w2.heap.size := X1.lt
  have m := rate_wrap hv.out hh.out
  go_wp2
  go_ret2
  exact ⟨rfl, hB⟩
theorem Safe_in1 (p : Pl) (s : St) (h : Hid (p.checkT = 0)) (hv : Hid p.Valid) (hh : Hid (p.hasB s = true)) (_k1 : p.siphon ≤ s.level) (_k2 : p.bank < s.level) (w : World) : Calls Tryz.prog 12 #[p.v, s.v] w fun e w' => e = .returned (.tuple #[.bool false, .int .i64 0]) ∧ Below w.heap.size w w' := by
  go_enter Tryz.func12, Tryz.ntmps12
  go_wp2_with fail
  refine (check_at h _).mono ?_
  rintro e w1 ⟨rfl, hb⟩
  have X0 := (((Box.newAt (n := w.heap.size) [.int .i64 p.top, .int .i64 p.bank, .int .i64 p.siphon, .int .i64 p.start, .int .i64 p.positions, .int .i64 p.rate, .int .i64 p.step, .int .i64 p.pass, .int .i64 p.feed, .int .i64 p.pipe, .int .i64 p.orders, .int .i64 p.age] 23 (by simp)).alloc _)).later hb
  have X1 := ((Box.newAt (n := w.heap.size + 1) [.int .i64 s.level, .int .i64 s.position, .int .i64 s.p0, .int .i64 s.p1, .int .i64 s.order, .int .i64 s.age] 33 (by simp))).later hb
  have hB : Below w.heap.size w w1 := ((((Below.refl w.heap.size w).alloc (by simp <;> omega) _).alloc (by simp <;> omega) _)).trans (hb.mono (by simp <;> omega))
  clear hb
  obtain ⟨X0c0, X0f0, X0c1, X0f1, X0c2, X0f2, X0c3, X0f3, X0c4, X0f4, X0c5, X0f5, X0c6, X0f6, X0c7, X0f7, X0c8, X0f8, X0c9, X0f9, X0c10, X0f10, X0c11, X0f11⟩ := X0.f12
  have X0z : w.heap.size < w1.heap.size := X0.lt
  obtain ⟨X1c0, X1f0, X1c1, X1f1, X1c2, X1f2, X1c3, X1f3, X1c4, X1f4, X1c5, X1f5⟩ := X1.f6
  have X1z : w.heap.size + 1 < w1.heap.size := X1.lt
  go_wp2_with fail
  refine (((belongs_any p s _ hv.out.pipe).mono fun _ _ ⟨he, hb⟩ => ⟨by rw [he, hh.out], hb⟩ : Calls Tryz.prog 33 #[p.v, s.v] _ fun e w' => e = .returned (.bool true) ∧ Below _ _ w')).mono ?_
  rintro e w2 ⟨rfl, hb⟩
  clear X0c0 X0f0 X0c1 X0f1 X0c2 X0f2 X0c3 X0f3 X0c4 X0f4 X0c5 X0f5 X0c6 X0f6 X0c7 X0f7 X0c8 X0f8 X0c9 X0f9 X0c10 X0f10 X0c11 X0f11 X0z X1c0 X1f0 X1c1 X1f1 X1c2 X1f2 X1c3 X1f3 X1c4 X1f4 X1c5 X1f5 X1z
  have X0 := X0.later hb
  have X1 := X1.later hb
  have hB := hB.trans (hb.mono hB.size)
  clear hb
  obtain ⟨X0c0, X0f0, X0c1, X0f1, X0c2, X0f2, X0c3, X0f3, X0c4, X0f4, X0c5, X0f5, X0c6, X0f6, X0c7, X0f7, X0c8, X0f8, X0c9, X0f9, X0c10, X0f10, X0c11, X0f11⟩ := X0.f12
  have X0z : w.heap.size < w2.heap.size := X0.lt
  obtain ⟨X1c0, X1f0, X1c1, X1f1, X1c2, X1f2, X1c3, X1f3, X1c4, X1f4, X1c5, X1f5⟩ := X1.f6
  have X1z : w.heap.size + 1 < w2.heap.size := X1.lt
  have m := rate_wrap hv.out hh.out
  go_wp2
  go_ret2
  exact ⟨rfl, hB⟩
theorem Safe_in2 (p : Pl) (s : St) (h : Hid (p.checkT = 0)) (hv : Hid p.Valid) (hh : Hid (p.hasB s = true)) (_k1 : p.siphon ≤ s.level) (_k2 : s.level ≤ p.bank) (w : World) : Calls Tryz.prog 12 #[p.v, s.v] w fun e w' => e = .returned (.tuple #[.bool (decide (p.rate * s.position ≤ p.pass)), .int .i64 0]) ∧ Below w.heap.size w w' := by
  go_enter Tryz.func12, Tryz.ntmps12
  go_wp2_with fail
  refine (check_at h _).mono ?_
  rintro e w1 ⟨rfl, hb⟩
  have X0 := (((Box.newAt (n := w.heap.size) [.int .i64 p.top, .int .i64 p.bank, .int .i64 p.siphon, .int .i64 p.start, .int .i64 p.positions, .int .i64 p.rate, .int .i64 p.step, .int .i64 p.pass, .int .i64 p.feed, .int .i64 p.pipe, .int .i64 p.orders, .int .i64 p.age] 23 (by simp)).alloc _)).later hb
  have X1 := ((Box.newAt (n := w.heap.size + 1) [.int .i64 s.level, .int .i64 s.position, .int .i64 s.p0, .int .i64 s.p1, .int .i64 s.order, .int .i64 s.age] 33 (by simp))).later hb
  have hB : Below w.heap.size w w1 := ((((Below.refl w.heap.size w).alloc (by simp <;> omega) _).alloc (by simp <;> omega) _)).trans (hb.mono (by simp <;> omega))
  clear hb
  obtain ⟨X0c0, X0f0, X0c1, X0f1, X0c2, X0f2, X0c3, X0f3, X0c4, X0f4, X0c5, X0f5, X0c6, X0f6, X0c7, X0f7, X0c8, X0f8, X0c9, X0f9, X0c10, X0f10, X0c11, X0f11⟩ := X0.f12
  have X0z : w.heap.size < w1.heap.size := X0.lt
  obtain ⟨X1c0, X1f0, X1c1, X1f1, X1c2, X1f2, X1c3, X1f3, X1c4, X1f4, X1c5, X1f5⟩ := X1.f6
  have X1z : w.heap.size + 1 < w1.heap.size := X1.lt
  go_wp2_with fail
  refine (((belongs_any p s _ hv.out.pipe).mono fun _ _ ⟨he, hb⟩ => ⟨by rw [he, hh.out], hb⟩ : Calls Tryz.prog 33 #[p.v, s.v] _ fun e w' => e = .returned (.bool true) ∧ Below _ _ w')).mono ?_
  rintro e w2 ⟨rfl, hb⟩
  clear X0c0 X0f0 X0c1 X0f1 X0c2 X0f2 X0c3 X0f3 X0c4 X0f4 X0c5 X0f5 X0c6 X0f6 X0c7 X0f7 X0c8 X0f8 X0c9 X0f9 X0c10 X0f10 X0c11 X0f11 X0z X1c0 X1f0 X1c1 X1f1 X1c2 X1f2 X1c3 X1f3 X1c4 X1f4 X1c5 X1f5 X1z
  have X0 := X0.later hb
  have X1 := X1.later hb
  have hB := hB.trans (hb.mono hB.size)
  clear hb
  obtain ⟨X0c0, X0f0, X0c1, X0f1, X0c2, X0f2, X0c3, X0f3, X0c4, X0f4, X0c5, X0f5, X0c6, X0f6, X0c7, X0f7, X0c8, X0f8, X0c9, X0f9, X0c10, X0f10, X0c11, X0f11⟩ := X0.f12
  have X0z : w.heap.size < w2.heap.size := X0.lt
  obtain ⟨X1c0, X1f0, X1c1, X1f1, X1c2, X1f2, X1c3, X1f3, X1c4, X1f4, X1c5, X1f5⟩ := X1.f6
  have X1z : w.heap.size + 1 < w2.heap.size := X1.lt
  have m := rate_wrap hv.out hh.out
  go_wp2
  go_ret2
  exact ⟨rfl, hB⟩
theorem Safe_any (p : Pl) (s : St) (w : World) : Calls Tryz.prog 12 #[p.v, s.v] w (RetO (p.safeT s) w) := by
  by_cases h : p.checkT = 0
  · have hv := (Pl.check_zero h).1
    rcases hh : p.hasB s with _ | _
    · exact (Safe_out p s h hv.pipe hh w).mono fun _ _ ⟨he, hb⟩ => ⟨_, _, he, by rw [Hid, Pl.safeT, if_pos h, if_neg (by rw [hh]; decide)], hb⟩
    · by_cases h1 : p.siphon ≤ s.level
      · by_cases h2 : s.level ≤ p.bank
        · exact (Safe_in2 p s h hv hh h1 h2 w).mono fun _ _ ⟨he, hb⟩ => ⟨_, _, he, by
            rw [Hid, Pl.safeT, if_pos h, if_pos hh, Pl.goodB, Prod.mk.injEq, decide_eq_decide]
            exact ⟨by omega, rfl⟩, hb⟩
        · exact (Safe_in1 p s h hv hh h1 (by omega) w).mono fun _ _ ⟨he, hb⟩ => ⟨_, _, he, by
            rw [Hid, Pl.safeT, if_pos h, if_pos hh, Pl.goodB, decide_eq_false (by omega)], hb⟩
      · exact (Safe_in0 p s h hv hh (by omega) w).mono fun _ _ ⟨he, hb⟩ => ⟨_, _, he, by
          rw [Hid, Pl.safeT, if_pos h, if_pos hh, Pl.goodB, decide_eq_false (by omega)], hb⟩
  · exact (Safe_no p s _ rfl (by simp [h]) (by simp [h]) w).mono fun _ _ ⟨he, hb⟩ => ⟨_, _, he, by rw [Hid, Pl.safeT, if_neg h], hb⟩
end Go.Proofs.YtmbifmmkccghfaaGreat
namespace Go.Proofs.YtmbifmmkccghfaaGreat
open Go.RowKit
theorem gwithin_any (n lo hi : Int) (w : World) : Calls Tryz.prog 59 #[.int .i64 n, .int .i64 lo, .int .i64 hi] w fun e w' => e = .returned (.bool (inI n lo hi)) ∧ w = w' := by
  by_cases h1 : lo ≤ n
  · by_cases h2 : n ≤ hi
    · go_enter Tryz.func59, Tryz.ntmps59
      go_wp2
      go_ret
      exact ⟨by rw [inI, decide_eq_true ⟨h1, h2⟩]; rfl, rfl⟩
    · go_enter Tryz.func59, Tryz.ntmps59
      go_wp2
      go_ret
      exact ⟨by rw [inI, decide_eq_false (by omega)]; rfl, rfl⟩
  · go_enter Tryz.func59, Tryz.ntmps59
    go_wp2
    go_ret
    exact ⟨by rw [inI, decide_eq_false (by omega)]; rfl, rfl⟩
theorem all_take {α : Type} (l : List α) (f : α → Bool) {k : Nat} (hk : k < l.length) : (l.take (k + 1)).all f = ((l.take k).all f && f l[k]) := by
  rw [List.take_succ_eq_append_getElem hk, List.all_append]
  simp
theorem all_bad {α : Type} {l : List α} {f : α → Bool} {k : Nat} (hk : k < l.length) (h : f l[k] = false) : l.all f = false := by
  rw [List.all_eq_false]
  exact ⟨_, List.getElem_mem hk, by rw [h]; decide⟩
theorem gcheck_small (code : List Ln) (A : Option Addr) (c : Nat) (w : World) (hC : CodeAt w w.heap.size (.slice A code.length c) code) (hn : code.length ≤ 64) :
    Calls Tryz.prog 32 #[.agg #[.slice A code.length c]] w fun e w' => e = .returned (.int .i64 (gateT code)) ∧ Below w.heap.size w w' := by
  obtain ⟨n, hnn⟩ : ∃ n, code.length = n := ⟨_, rfl⟩
  rw [hnn] at hn hC ⊢
  have HC := Lib.hid hC
  have HN := Lib.hid hnn
  clear hC hnn
  go_enter Tryz.func32, Tryz.ntmps32
  go_wp2_with fail
  go_loopw [15] (fun i wr => ∃ k : Nat, k ≤ n ∧ i = .int .i64 k ∧ Below w.heap.size w wr ∧ Hid ((code.take k).all Ln.okB = true)) (fun i _ => n - (intOf i).toNat)
  case atStart => exact ⟨0, by omega, rfl, by repeat (first | exact Below.refl _ _ | refine Below.alloc ?_ (by simp <;> omega) _), rfl⟩
  case round =>
    obtain ⟨k, hk, rfl, hb, hall⟩ := hrel
    by_cases hlt : k < n
    · have hkl : k < code.length := by rw [HN.out]; exact hlt
      obtain ⟨b, off, V, rfl, hbw, p0, p1, hV⟩ := HC.out.line hkl
      have p0 := (hb.cell hbw).trans p0
      have p1 := (hb.cell hbw).trans p1
      obtain ⟨A', c', rfl, hm⟩ := hV.form
      obtain ⟨l, hl⟩ : ∃ l, code[k] = l := ⟨_, rfl⟩
      rw [hl] at p0 p1 hV hm
      have hbad := all_bad (f := Ln.okB) hkl
      have htk := all_take code Ln.okB hkl
      rw [hl] at hbad htk
      rw [hall.out, Bool.true_and] at htk
      have hbad := Lib.hid hbad
      have htk := Lib.hid htk
      clear hl
      obtain ⟨m, hmm⟩ : ∃ m, l.conds.length = m := ⟨_, rfl⟩
      rw [hmm] at p0 hV hm
      unfold maxLen at hm
      have HM := Lib.hid hmm
      clear hmm
      have HV := Lib.hid hV
      clear hV
      rcases hs : inI l.set 0 1099511627776 with _ | _
      · go_wp2_with (go_at_call 59; refine (gwithin_any _ _ _ _).mono ?_; rintro e w' ⟨rfl, rfl⟩)
        all_goals
          go_ret
          refine ⟨?_, hb.alloc hb.size _⟩
          have : l.okB = false := by
            have h1 := inI_no hs
            simp only [Ln.okB, Bool.and_eq_false_iff, decide_eq_false_iff_not]
            exact .inr (.inl h1)
          rw [gateT, gateB, hbad.out this, Bool.and_false]
          rfl
      · by_cases h4 : m ≤ 4
        · go_wp2_with (go_at_call 59; refine (gwithin_any _ _ _ _).mono ?_; rintro e w' ⟨rfl, rfl⟩)
          go_loopw [33] (fun i wr => ∃ j : Nat, j ≤ m ∧ i = .int .i64 j ∧ Below w.heap.size w wr ∧ Hid ((l.conds.take j).all Cn.okB = true)) (fun i _ => m - (intOf i).toNat)
          case atStart => exact ⟨0, by omega, rfl, hb.alloc hb.size _, rfl⟩
          case round =>
            obtain ⟨j, hj, rfl, hb2, hall2⟩ := hrel
            by_cases hlt2 : j < m
            · have hjl : j < l.conds.length := by rw [HM.out]; exact hlt2
              obtain ⟨b', off', rfl, hbw', q0, q1, q2⟩ := (HV.out.below hb2).cond hjl
              obtain ⟨y, hy⟩ : ∃ y, l.conds[j] = y := ⟨_, rfl⟩
              rw [hy] at q0 q1 q2
              have hbad2 := all_bad (f := Cn.okB) hjl
              have htk2 := all_take l.conds Cn.okB hjl
              rw [hy] at hbad2 htk2
              rw [hall2.out, Bool.true_and] at htk2
              have hbad2 := Lib.hid hbad2
              have htk2 := Lib.hid htk2
              clear hy
              rcases g0 : inI y.var 0 4 with _ | _
              all_goals rcases g1 : inI y.op 1 5 with _ | _
              all_goals rcases g2 : inI y.n 0 1099511627776 with _ | _
              all_goals go_wp2_with (go_at_call 59; refine (gwithin_any _ _ _ _).mono ?_; rintro e w' ⟨rfl, rfl⟩)
              all_goals first
                | (refine ⟨⟨j + 1, by omega, by go_num, hb2.alloc hb2.size _, ?_⟩, by simp [intOf]; omega⟩
                   rw [Hid, htk2.out, Cn.okB]
                   exact decide_eq_true ⟨inI_yes g0, inI_yes g1, inI_yes g2⟩)
                | (go_ret
                   refine ⟨?_, hb2.alloc hb2.size _⟩
                   have h1 : y.okB = false := by
                     rw [Cn.okB, decide_eq_false_iff_not]
                     first | exact fun h => inI_no g0 h.1 | exact fun h => inI_no g1 h.2.1 | exact fun h => inI_no g2 h.2.2
                   have : l.okB = false := by
                     rw [Ln.okB, hbad2.out h1, Bool.and_false, Bool.and_false]
                   rw [gateT, gateB, hbad.out this, Bool.and_false]
                   rfl)
            · obtain rfl : j = m := by omega
              go_wp2
              refine ⟨⟨k + 1, by omega, by go_num, hb2, ?_⟩, by simp [intOf]; omega⟩
              rw [Hid, htk.out, Ln.okB, decide_eq_true (show l.conds.length ≤ 4 by rw [HM.out]; exact h4), decide_eq_true (inI_yes hs)]
              have := hall2.out
              rw [← HM.out, List.take_length] at this
              rw [this]
              rfl
        · go_wp2_with (go_at_call 59; refine (gwithin_any _ _ _ _).mono ?_; rintro e w' ⟨rfl, rfl⟩)
          go_ret
          refine ⟨?_, hb.alloc hb.size _⟩
          have : l.okB = false := by
            simp only [Ln.okB, Bool.and_eq_false_iff, decide_eq_false_iff_not]
            exact .inl (by rw [HM.out]; omega)
          rw [gateT, gateB, hbad.out this, Bool.and_false]
          rfl
    · obtain rfl : k = n := by omega
      go_wp2
      go_ret
      refine ⟨?_, hb⟩
      have h1 : code.all Ln.okB = true := by rw [← hall.out, ← HN.out, List.take_length]
      rw [gateT, gateB, h1, decide_eq_true (show code.length ≤ 64 by rw [HN.out]; exact hn)]
      rfl
theorem gcheck_long (code : List Ln) (A : Option Addr) (c : Nat) (w : World) (hn : 64 < code.length) (hm : code.length ≤ 9223372036854775807) :
    Calls Tryz.prog 32 #[.agg #[.slice A code.length c]] w fun e w' => e = .returned (.int .i64 310) ∧ Below w.heap.size w w' := by
  obtain ⟨n, hnn⟩ : ∃ n, code.length = n := ⟨_, rfl⟩
  rw [hnn] at hn hm ⊢
  clear hnn
  go_enter Tryz.func32, Tryz.ntmps32
  go_wp2
  go_ret
  exact ⟨rfl, (Below.refl _ _).alloc (Nat.le_refl _) _⟩
theorem gcheck_any (code : List Ln) (v : Value) (w : World) (hC : CodeAt w w.heap.size v code) :
    Calls Tryz.prog 32 #[.agg #[v]] w fun e w' => e = .returned (.int .i64 (gateT code)) ∧ Below w.heap.size w w' := by
  obtain ⟨A, c, rfl, hm⟩ := hC.form
  by_cases h : code.length ≤ 64
  · exact gcheck_small code A c w hC h
  · have : gateT code = 310 := by rw [gateT, gateB, decide_eq_false h]; rfl
    rw [this]
    exact gcheck_long code A c w (by omega) hm
end Go.Proofs.YtmbifmmkccghfaaGreat
namespace Go.Proofs.YtmbifmmkccghfaaGreat
open Go.RowKit
abbrev Cn.v (c : Cn) : Value := .agg #[.int .i64 c.var, .int .i64 c.op, .int .i64 c.n]
end Go.Proofs.YtmbifmmkccghfaaGreat
namespace Go.Proofs.YtmbifmmkccghfaaGreat
open Go.RowKit
theorem gate_ok {code : List Ln} (h : gateB code = true) {k : Nat} (hk : k < code.length) {j : Nat} (hj : j < (code[k]).conds.length) : (0 ≤ ((code[k]).conds[j]).var ∧ ((code[k]).conds[j]).var ≤ 4) ∧ 1 ≤ ((code[k]).conds[j]).op ∧ ((code[k]).conds[j]).op ≤ 5 := by
  simp only [gateB, Bool.and_eq_true, List.all_eq_true] at h
  have h1 := h.2 _ (List.getElem_mem hk)
  simp only [Ln.okB, Bool.and_eq_true, List.all_eq_true] at h1
  have h2 := of_decide_eq_true (h1.2.2 _ (List.getElem_mem hj))
  exact ⟨h2.1, h2.2.1⟩
theorem gate_small {code : List Ln} (h : gateB code = true) : code.length ≤ 64 ∧ ∀ k (hk : k < code.length), (code[k]).conds.length ≤ 4 := by
  simp only [gateB, Bool.and_eq_true, List.all_eq_true] at h
  refine ⟨of_decide_eq_true h.1, fun k hk => ?_⟩
  have h1 := h.2 _ (List.getElem_mem hk)
  simp only [Ln.okB, Bool.and_eq_true] at h1
  exact of_decide_eq_true h1.1
theorem first_none {code : List Ln} {r : Vr} (h : code.all (fun l => !l.holdsB r) = true) : firstT code r = (0, false) := by
  unfold firstT
  rw [List.find?_eq_none.2 (fun x hx => by have := (List.all_eq_true.1 h) x hx; simpa using this)]
theorem Vr.at_cell (r : Vr) (i : Nat) (hi : i < 5) : ([.int .i64 r.v0, .int .i64 r.v1, .int .i64 r.v2, .int .i64 r.v3, .int .i64 r.v4] : List Value)[i]? = some (.int .i64 (r.at (i : Int))) := by
  rcases (show i = 0 ∨ i = 1 ∨ i = 2 ∨ i = 3 ∨ i = 4 by omega) with rfl | rfl | rfl | rfl | rfl <;> rfl
end Go.Proofs.YtmbifmmkccghfaaGreat
namespace Go.Proofs.YtmbifmmkccghfaaGreat
open Go.RowKit
structure Small (p : Pl) (s : St) (x : Sh) : Prop where
  top : 1 ≤ p.top ∧ p.top ≤ 63
  positions : 1 ≤ p.positions ∧ p.positions ≤ 15
  rate : 1 ≤ p.rate ∧ p.rate ≤ 15
  step : 1 ≤ p.step ∧ p.step ≤ 15
  age : 0 ≤ p.age ∧ p.age ≤ 7
  level : 0 ≤ s.level ∧ s.level ≤ 63
  position : 0 ≤ s.position ∧ s.position ≤ p.positions
  p0 : 0 ≤ s.p0 ∧ s.p0 ≤ 15
  p1 : 0 ≤ s.p1 ∧ s.p1 ≤ 15
  sage : 0 ≤ s.age ∧ s.age ≤ 7
  feed : 0 ≤ x.feed ∧ x.feed ≤ 15
end Go.Proofs.YtmbifmmkccghfaaGreat
namespace Go.Proofs.YtmbifmmkccghfaaGreat
open Go.RowKit
theorem firstT_bd {code : List Ln} {r : Vr} (h : gateB code = true) : 0 ≤ (firstT code r).1 ∧ (firstT code r).1 ≤ 1099511627776 := by
  unfold firstT
  split
  · rename_i l hl
    have hm := List.mem_of_find?_eq_some hl
    simp only [gateB, Bool.and_eq_true, List.all_eq_true] at h
    have h1 := h.2 _ hm
    simp only [Ln.okB, Bool.and_eq_true] at h1
    exact of_decide_eq_true h1.2.1
  · exact ⟨Int.le_refl _, by decide⟩
theorem small_of {p : Pl} {s : St} {x : Sh} (hv : p.Valid) (hs : p.hasB s = true) (hc : chosenB p x = true) : Small p s x := by
  obtain ⟨h1, h2, h3, h4, h5, h6⟩ := Pl.hasB_bd hs
  simp only [chosenB, Bool.and_eq_true] at hc
  have c1 := inI_yes hc.1
  obtain ⟨k1, k2, k3, k4, k5, k6, k7, k8, k9, k10, k11, k12⟩ := hv
  refine ⟨k1, k5, k6, k7, k12, by omega, h2, ⟨h3.1, ?_⟩, ⟨h4.1, ?_⟩, by omega, by omega⟩
  · have := h3.2; split at this <;> omega
  · have := h4.2; split at this <;> omega
end Go.Proofs.YtmbifmmkccghfaaGreat
