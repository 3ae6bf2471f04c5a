/-
  The contract of the iterator products of package interval, and of Mul. No condition.
-/
import Derived.RangeFuncNested
import Derived.RangeFuncBound
import Derived.RangeFuncCalls
import Derived.RangeFuncLeaves
import Derived.RangeFuncBox
import Derived.Shelf.Abstract
import Derived.Shelf.RegionOpen
import Derived.OwnWalkIn
import Derived.TacticsInMore
import Derived.LoopNIn
import Derived.LoopIn
import Derived.Maps.AppendAt
import Derived.Test.YtmjbcmicjhgciaaM
namespace Go.Proofs.Ytmjbcmicjhgciaa
open Go.RowKit Go.Shelf
attribute [local go_sem] Oper.semAt_some

/-- Two blocks lie as they lay. -/
def KeepsTwo (A B : Nat) (W W' : World) : Prop := W'.heap[A]? = W.heap[A]? ∧ W'.heap[B]? = W.heap[B]?
theorem KeepsTwo.t {A B : Nat} {X Y Z : World} (h : KeepsTwo A B X Y) (k : KeepsTwo A B Y Z) : KeepsTwo A B X Z := ⟨k.1.trans h.1, k.2.trans h.2⟩
theorem KeepsTwo.b {A B : Nat} {w : World} (hA : A < w.heap.size) (hB : B < w.heap.size) (W : World) (l : Nat) (o o' : Obj) (hl : w.heap.size ≤ l) (_ : W.heap[l]? = some o) (_ : o.isCells = false) (_ : o.isWalk = false) : KeepsTwo A B W (W.putObj l o') :=
  ⟨World.putObj_heap_other (by omega), World.putObj_heap_other (by omega)⟩
theorem Box.same {w w' : World} {b : Nat} {xs : List Value} (h : Box w b xs) (hB : w'.heap[b]? = w.heap[b]?) : Box w' b xs := by
  obtain ⟨t, ht⟩ := h
  exact ⟨t, hB.trans ht⟩

/-- The products that come, up to the first one beyond the limits. -/
def plist : List (Int × Int) → List (Int × Bool)
  | [] => []
  | (x, y) :: r => if fitB x y = true then (x * y, true) :: plist r else [(0, false)]

theorem ix0 (x y : Int) (w : World) : (Instr.index 71 (.agg #[.int .i64 x, .int .i64 y]) (.int .i64 0)).run Try.prog w = .ok (.int .i64 x) w := by kernel_rfl
theorem ix1 (x y : Int) (w : World) : (Instr.index 71 (.agg #[.int .i64 x, .int .i64 y]) (.int .i64 1)).run Try.prog w = .ok (.int .i64 y) w := by kernel_rfl
set_option maxRecDepth 100000 in
set_option maxHeartbeats 2000000 in
theorem prod_stops (n : Nat) (A B : Nat) (a b c d : Int) (w : World) (hab : -1099511627776 ≤ a ∧ a ≤ b ∧ b ≤ 1099511627776) (hcd : -1099511627776 ≤ c ∧ c ≤ d ∧ d ≤ 1099511627776)
    (hA : Box w A [.int .i64 a, .int .i64 b]) (hB : Box w B [.int .i64 c, .int .i64 d]) :
    SeqStopsK Fence.wide n Try.prog 52 #[.pointer (some ⟨A, 0, none⟩), .pointer (some ⟨B, 0, none⟩)] (fun p : Int × Bool => #[.int .i64 p.1, .bool p.2]) (KeepsTwo A B)
      (fun xs => xs = plist [(a, c), (a, d), (b, c), (b, d)]) (fun pre => pre <+: plist [(a, c), (a, d), (b, c), (b, d)]) 4 w := fun l J Jx W hW hJ hJx hY h0 => by
  obtain ⟨b1, b2, b3⟩ := hab
  obtain ⟨b4, b5, b6⟩ := hcd
  have hA0 := hA.later hW
  have hB0 := hB.later hW
  clear hA hB
  obtain ⟨⟨p0, p1⟩, _, _⟩ := hA0.two
  obtain ⟨⟨q0, q1⟩, _, _⟩ := hB0.two
  have i0 := ix0 a b
  have i1 := ix1 a b
  have j0 := ix0 c d
  have j1 := ix1 c d
  refine callsIn_of_wp Try.func52 rfl trivial ?_ rfl
  simp only [Try.ntmps52, List.size_toArray, List.length_cons, List.length_nil, Nat.reduceAdd, Nat.reduceSub, Array.replicate_succ, Array.replicate_zero, List.push_toArray, List.append_toArray, List.nil_append, List.cons_append]
  gi_wp2
  refine wpIn_loop_rounds 3 ?_
  rw [roundsIn_succ]
  gi_wp2
  refine wpIn_loop_rounds 3 ?_
  rw [roundsIn_succ]
  gi_wp2_with fail
  refine ⟨trivial, (fun h => by cases h), ?_⟩
  refine (callsIn_wide.2 (size_any a _ (by omega))).mono ?_
  rintro e w' ⟨m0, rfl, hm0, rfl⟩
  gi_wp2_with fail
  refine ⟨trivial, (fun h => by cases h), ?_⟩
  refine (callsIn_wide.2 (size_any c _ (by omega))).mono ?_
  rintro e w' ⟨k0, rfl, hk0, rfl⟩
  gi_wp2_with fail
  refine ⟨trivial, (fun h => by cases h), ?_⟩
  refine (callsIn_wide.2 (Mul64_hl m0 k0 (by have := hm0.out; omega) (by have := hk0.out; omega) _)).mono ?_
  rintro e w' ⟨hi0, lo0, rfl, hh0, rfl⟩
  rcases fit_words hm0.out hk0.out hh0.out with ⟨hf0, rfl, hl0⟩ | ⟨hf0, rfl, hl0⟩ | ⟨hf0, hl0⟩
  · have hF0 := Lib.hid hf0
    clear hf0
    obtain ⟨l0, u0⟩ := fitB_bd hF0.out
    obtain ⟨f0, t0, a0, c0, hy0, hR0⟩ := hY [] (a * c, true) W h0 (by simp)
    dsimp only at hy0
    gi_wp2
    refine ⟨(fun h => by cases h), hR0.mono ?_⟩
    rintro e W1 (⟨rfl, hJ1, hK0⟩ | ⟨rfl, hx0⟩)
    · have hA1 := hA0.same hK0.1
      have hB1 := hB0.same hK0.2
      clear hy0 hR0
      obtain ⟨⟨p0, p1⟩, _, _⟩ := hA1.two
      obtain ⟨⟨q0, q1⟩, _, _⟩ := hB1.two
      gi_wp2_with fail
      rw [roundsIn_succ]
      gi_wp2_with fail
      refine ⟨trivial, (fun h => by cases h), ?_⟩
      refine (callsIn_wide.2 (size_any a _ (by omega))).mono ?_
      rintro e w' ⟨m1, rfl, hm1, rfl⟩
      gi_wp2_with fail
      refine ⟨trivial, (fun h => by cases h), ?_⟩
      refine (callsIn_wide.2 (size_any d _ (by omega))).mono ?_
      rintro e w' ⟨k1, rfl, hk1, rfl⟩
      gi_wp2_with fail
      refine ⟨trivial, (fun h => by cases h), ?_⟩
      refine (callsIn_wide.2 (Mul64_hl m1 k1 (by have := hm1.out; omega) (by have := hk1.out; omega) _)).mono ?_
      rintro e w' ⟨hi1, lo1, rfl, hh1, rfl⟩
      rcases fit_words hm1.out hk1.out hh1.out with ⟨hf1, rfl, hl1⟩ | ⟨hf1, rfl, hl1⟩ | ⟨hf1, hl1⟩
      · have hF1 := Lib.hid hf1
        clear hf1
        obtain ⟨l1, u1⟩ := fitB_bd hF1.out
        obtain ⟨f1, t1, a1, c1, hy1, hR1⟩ := hY [(a * c, true)] (a * d, true) W1 hJ1 (by simp)
        dsimp only at hy1
        gi_wp2
        refine ⟨(fun h => by cases h), hR1.mono ?_⟩
        rintro e W2 (⟨rfl, hJ2, hK1⟩ | ⟨rfl, hx1⟩)
        · have hA2 := hA1.same hK1.1
          have hB2 := hB1.same hK1.2
          clear hy1 hR1
          obtain ⟨⟨p0, p1⟩, _, _⟩ := hA2.two
          obtain ⟨⟨q0, q1⟩, _, _⟩ := hB2.two
          gi_wp2_with fail
          rw [roundsIn_succ]
          gi_wp2_with fail
          rw [roundsIn_succ]
          gi_wp2_with fail
          refine wpIn_loop_rounds 3 ?_
          rw [roundsIn_succ]
          gi_wp2_with fail
          refine ⟨trivial, (fun h => by cases h), ?_⟩
          refine (callsIn_wide.2 (size_any b _ (by omega))).mono ?_
          rintro e w' ⟨m2, rfl, hm2, rfl⟩
          gi_wp2_with fail
          refine ⟨trivial, (fun h => by cases h), ?_⟩
          refine (callsIn_wide.2 (size_any c _ (by omega))).mono ?_
          rintro e w' ⟨k2, rfl, hk2, rfl⟩
          gi_wp2_with fail
          refine ⟨trivial, (fun h => by cases h), ?_⟩
          refine (callsIn_wide.2 (Mul64_hl m2 k2 (by have := hm2.out; omega) (by have := hk2.out; omega) _)).mono ?_
          rintro e w' ⟨hi2, lo2, rfl, hh2, rfl⟩
          rcases fit_words hm2.out hk2.out hh2.out with ⟨hf2, rfl, hl2⟩ | ⟨hf2, rfl, hl2⟩ | ⟨hf2, hl2⟩
          · have hF2 := Lib.hid hf2
            clear hf2
            obtain ⟨l2, u2⟩ := fitB_bd hF2.out
            obtain ⟨f2, t2, a2, c2, hy2, hR2⟩ := hY [(a * c, true), (a * d, true)] (b * c, true) W2 hJ2 (by simp)
            dsimp only at hy2
            gi_wp2
            refine ⟨(fun h => by cases h), hR2.mono ?_⟩
            rintro e W3 (⟨rfl, hJ3, hK2⟩ | ⟨rfl, hx2⟩)
            · have hA3 := hA2.same hK2.1
              have hB3 := hB2.same hK2.2
              clear hy2 hR2
              obtain ⟨⟨p0, p1⟩, _, _⟩ := hA3.two
              obtain ⟨⟨q0, q1⟩, _, _⟩ := hB3.two
              gi_wp2_with fail
              rw [roundsIn_succ]
              gi_wp2_with fail
              refine ⟨trivial, (fun h => by cases h), ?_⟩
              refine (callsIn_wide.2 (size_any b _ (by omega))).mono ?_
              rintro e w' ⟨m3, rfl, hm3, rfl⟩
              gi_wp2_with fail
              refine ⟨trivial, (fun h => by cases h), ?_⟩
              refine (callsIn_wide.2 (size_any d _ (by omega))).mono ?_
              rintro e w' ⟨k3, rfl, hk3, rfl⟩
              gi_wp2_with fail
              refine ⟨trivial, (fun h => by cases h), ?_⟩
              refine (callsIn_wide.2 (Mul64_hl m3 k3 (by have := hm3.out; omega) (by have := hk3.out; omega) _)).mono ?_
              rintro e w' ⟨hi3, lo3, rfl, hh3, rfl⟩
              rcases fit_words hm3.out hk3.out hh3.out with ⟨hf3, rfl, hl3⟩ | ⟨hf3, rfl, hl3⟩ | ⟨hf3, hl3⟩
              · have hF3 := Lib.hid hf3
                clear hf3
                obtain ⟨l3, u3⟩ := fitB_bd hF3.out
                obtain ⟨f3, t3, a3, c3, hy3, hR3⟩ := hY [(a * c, true), (a * d, true), (b * c, true)] (b * d, true) W3 hJ3 (by simp)
                dsimp only at hy3
                gi_wp2
                refine ⟨(fun h => by cases h), hR3.mono ?_⟩
                rintro e W4 (⟨rfl, hJ4, hK3⟩ | ⟨rfl, hx3⟩)
                · have hA4 := hA3.same hK3.1
                  have hB4 := hB3.same hK3.2
                  clear hy3 hR3
                  gi_wp2_with fail
                  rw [roundsIn_succ]
                  gi_wp2_with fail
                  rw [roundsIn_succ]
                  gi_wp2_with fail
                  go_end0
                  exact ⟨⟨_, rfl⟩, .inl ⟨_, by simp [plist, hF0.out, hF1.out, hF2.out, hF3.out], hJ4⟩⟩
                · gi_wp2
                  refine bodyPost_ret (results_none rfl _ _ _) rfl ?_
                  exact ⟨⟨_, rfl⟩, .inr ⟨_, by simp [plist, hF0.out, hF1.out, hF2.out, hF3.out], hx3⟩⟩
              · obtain ⟨f3, t3, a3, c3, hy3, hR3⟩ := hY [(a * c, true), (a * d, true), (b * c, true)] (0, false) W3 hJ3 (by simp)
                have hG := Lib.hid hf3
                clear hf3
                dsimp only at hy3
                gi_wp2
                refine ⟨(fun h => by cases h), hR3.mono ?_⟩
                rintro e W4 (⟨rfl, hJ4, hK3⟩ | ⟨rfl, hx3⟩)
                · gi_wp2
                  refine bodyPost_ret (results_none rfl _ _ _) rfl ?_
                  exact ⟨⟨_, rfl⟩, .inl ⟨_, by simp [plist, hF0.out, hF1.out, hF2.out, hG.out], hJ4⟩⟩
                · gi_wp2
                  refine bodyPost_ret (results_none rfl _ _ _) rfl ?_
                  exact ⟨⟨_, rfl⟩, .inr ⟨_, by simp [plist, hF0.out, hF1.out, hF2.out, hG.out], hx3⟩⟩
              · obtain ⟨f3, t3, a3, c3, hy3, hR3⟩ := hY [(a * c, true), (a * d, true), (b * c, true)] (0, false) W3 hJ3 (by simp)
                have hG := Lib.hid hf3
                clear hf3
                dsimp only at hy3
                gi_wp2
                refine ⟨(fun h => by cases h), hR3.mono ?_⟩
                rintro e W4 (⟨rfl, hJ4, hK3⟩ | ⟨rfl, hx3⟩)
                · gi_wp2
                  refine bodyPost_ret (results_none rfl _ _ _) rfl ?_
                  exact ⟨⟨_, rfl⟩, .inl ⟨_, by simp [plist, hF0.out, hF1.out, hF2.out, hG.out], hJ4⟩⟩
                · gi_wp2
                  refine bodyPost_ret (results_none rfl _ _ _) rfl ?_
                  exact ⟨⟨_, rfl⟩, .inr ⟨_, by simp [plist, hF0.out, hF1.out, hF2.out, hG.out], hx3⟩⟩
            · gi_wp2
              refine bodyPost_ret (results_none rfl _ _ _) rfl ?_
              exact ⟨⟨_, rfl⟩, .inr ⟨_, by simp [plist, hF0.out, hF1.out, hF2.out], hx2⟩⟩
          · obtain ⟨f2, t2, a2, c2, hy2, hR2⟩ := hY [(a * c, true), (a * d, true)] (0, false) W2 hJ2 (by simp)
            have hG := Lib.hid hf2
            clear hf2
            dsimp only at hy2
            gi_wp2
            refine ⟨(fun h => by cases h), hR2.mono ?_⟩
            rintro e W3 (⟨rfl, hJ3, hK2⟩ | ⟨rfl, hx2⟩)
            · gi_wp2
              refine bodyPost_ret (results_none rfl _ _ _) rfl ?_
              exact ⟨⟨_, rfl⟩, .inl ⟨_, by simp [plist, hF0.out, hF1.out, hG.out], hJ3⟩⟩
            · gi_wp2
              refine bodyPost_ret (results_none rfl _ _ _) rfl ?_
              exact ⟨⟨_, rfl⟩, .inr ⟨_, by simp [plist, hF0.out, hF1.out, hG.out], hx2⟩⟩
          · obtain ⟨f2, t2, a2, c2, hy2, hR2⟩ := hY [(a * c, true), (a * d, true)] (0, false) W2 hJ2 (by simp)
            have hG := Lib.hid hf2
            clear hf2
            dsimp only at hy2
            gi_wp2
            refine ⟨(fun h => by cases h), hR2.mono ?_⟩
            rintro e W3 (⟨rfl, hJ3, hK2⟩ | ⟨rfl, hx2⟩)
            · gi_wp2
              refine bodyPost_ret (results_none rfl _ _ _) rfl ?_
              exact ⟨⟨_, rfl⟩, .inl ⟨_, by simp [plist, hF0.out, hF1.out, hG.out], hJ3⟩⟩
            · gi_wp2
              refine bodyPost_ret (results_none rfl _ _ _) rfl ?_
              exact ⟨⟨_, rfl⟩, .inr ⟨_, by simp [plist, hF0.out, hF1.out, hG.out], hx2⟩⟩
        · gi_wp2
          refine bodyPost_ret (results_none rfl _ _ _) rfl ?_
          exact ⟨⟨_, rfl⟩, .inr ⟨_, by simp [plist, hF0.out, hF1.out], hx1⟩⟩
      · obtain ⟨f1, t1, a1, c1, hy1, hR1⟩ := hY [(a * c, true)] (0, false) W1 hJ1 (by simp)
        have hG := Lib.hid hf1
        clear hf1
        dsimp only at hy1
        gi_wp2
        refine ⟨(fun h => by cases h), hR1.mono ?_⟩
        rintro e W2 (⟨rfl, hJ2, hK1⟩ | ⟨rfl, hx1⟩)
        · gi_wp2
          refine bodyPost_ret (results_none rfl _ _ _) rfl ?_
          exact ⟨⟨_, rfl⟩, .inl ⟨_, by simp [plist, hF0.out, hG.out], hJ2⟩⟩
        · gi_wp2
          refine bodyPost_ret (results_none rfl _ _ _) rfl ?_
          exact ⟨⟨_, rfl⟩, .inr ⟨_, by simp [plist, hF0.out, hG.out], hx1⟩⟩
      · obtain ⟨f1, t1, a1, c1, hy1, hR1⟩ := hY [(a * c, true)] (0, false) W1 hJ1 (by simp)
        have hG := Lib.hid hf1
        clear hf1
        dsimp only at hy1
        gi_wp2
        refine ⟨(fun h => by cases h), hR1.mono ?_⟩
        rintro e W2 (⟨rfl, hJ2, hK1⟩ | ⟨rfl, hx1⟩)
        · gi_wp2
          refine bodyPost_ret (results_none rfl _ _ _) rfl ?_
          exact ⟨⟨_, rfl⟩, .inl ⟨_, by simp [plist, hF0.out, hG.out], hJ2⟩⟩
        · gi_wp2
          refine bodyPost_ret (results_none rfl _ _ _) rfl ?_
          exact ⟨⟨_, rfl⟩, .inr ⟨_, by simp [plist, hF0.out, hG.out], hx1⟩⟩
    · gi_wp2
      refine bodyPost_ret (results_none rfl _ _ _) rfl ?_
      exact ⟨⟨_, rfl⟩, .inr ⟨_, by simp [plist, hF0.out], hx0⟩⟩
  · obtain ⟨f0, t0, a0, c0, hy0, hR0⟩ := hY [] (0, false) W h0 (by simp)
    have hG := Lib.hid hf0
    clear hf0
    dsimp only at hy0
    gi_wp2
    refine ⟨(fun h => by cases h), hR0.mono ?_⟩
    rintro e W1 (⟨rfl, hJ1, hK0⟩ | ⟨rfl, hx0⟩)
    · gi_wp2
      refine bodyPost_ret (results_none rfl _ _ _) rfl ?_
      exact ⟨⟨_, rfl⟩, .inl ⟨_, by simp [plist, hG.out], hJ1⟩⟩
    · gi_wp2
      refine bodyPost_ret (results_none rfl _ _ _) rfl ?_
      exact ⟨⟨_, rfl⟩, .inr ⟨_, by simp [plist, hG.out], hx0⟩⟩
  · obtain ⟨f0, t0, a0, c0, hy0, hR0⟩ := hY [] (0, false) W h0 (by simp)
    have hG := Lib.hid hf0
    clear hf0
    dsimp only at hy0
    gi_wp2
    refine ⟨(fun h => by cases h), hR0.mono ?_⟩
    rintro e W1 (⟨rfl, hJ1, hK0⟩ | ⟨rfl, hx0⟩)
    · gi_wp2
      refine bodyPost_ret (results_none rfl _ _ _) rfl ?_
      exact ⟨⟨_, rfl⟩, .inl ⟨_, by simp [plist, hG.out], hJ1⟩⟩
    · gi_wp2
      refine bodyPost_ret (results_none rfl _ _ _) rfl ?_
      exact ⟨⟨_, rfl⟩, .inr ⟨_, by simp [plist, hG.out], hx0⟩⟩

end Go.Proofs.Ytmjbcmicjhgciaa
