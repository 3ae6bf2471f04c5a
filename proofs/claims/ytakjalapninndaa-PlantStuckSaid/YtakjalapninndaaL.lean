/-
  Contracts of compare, its closures, and of the closure that asks a condition. No condition.
-/
import Derived.Test.YtakjalapninndaaJ
import Derived.Laws.EntriesVeiled
namespace Go.Proofs.Ytakjalapninndaa
open Go.RowKit

theorem cmp1 (a b : Int) (w : World) : Calls Try.prog 48 #[.int .i64 a, .int .i64 b] w fun e w' => e = .returned (.bool (decide (a < b))) ∧ w = w' := by
  go_enter Try.func48, Try.ntmps48
  go_wp2
  go_ret
  exact ⟨rfl, rfl⟩
theorem cmp2 (a b : Int) (w : World) : Calls Try.prog 49 #[.int .i64 a, .int .i64 b] w fun e w' => e = .returned (.bool (decide (a ≤ b))) ∧ w = w' := by
  go_enter Try.func49, Try.ntmps49
  go_wp2
  go_ret
  exact ⟨rfl, rfl⟩
theorem cmp3 (a b : Int) (w : World) : Calls Try.prog 50 #[.int .i64 a, .int .i64 b] w fun e w' => e = .returned (.bool (a == b)) ∧ w = w' := by
  go_enter Try.func50, Try.ntmps50
  go_wp2
  go_ret
  exact ⟨rfl, rfl⟩
theorem cmp4 (a b : Int) (w : World) : Calls Try.prog 51 #[.int .i64 a, .int .i64 b] w fun e w' => e = .returned (.bool (decide (b ≤ a))) ∧ w = w' := by
  go_enter Try.func51, Try.ntmps51
  go_wp2
  go_ret
  exact ⟨rfl, rfl⟩
theorem cmp5 (a b : Int) (w : World) : Calls Try.prog 52 #[.int .i64 a, .int .i64 b] w fun e w' => e = .returned (.bool (decide (b < a))) ∧ w = w' := by
  go_enter Try.func52, Try.ntmps52
  go_wp2
  go_ret
  exact ⟨rfl, rfl⟩

abbrev Ops : List Value := [.nilFunc, .func (.func 48) #[] #[], .func (.func 49) #[] #[], .func (.func 50) #[] #[], .func (.func 51) #[] #[], .func (.func 52) #[] #[]]
abbrev Vr.cells (r : Vr) : List Value := [.int .i64 r.v0, .int .i64 r.v1, .int .i64 r.v2, .int .i64 r.v3, .int .i64 r.v4]

theorem compare_any (w : World) : Calls Try.prog 44 #[] w fun e w' => e = .returned (.agg #[.nilFunc, .func (.func 48) #[] #[], .func (.func 49) #[] #[], .func (.func 50) #[] #[], .func (.func 51) #[] #[], .func (.func 52) #[] #[]]) ∧ Below w.heap.size w w' := by
  go_enter Try.func44, Try.ntmps44
  go_wp2
  have Y := Box.new w Ops 81
  have hB := (Below.refl w.heap.size w).alloc (Nat.le_refl _) (.cells #[.nilFunc, .func (.func 48) #[] #[], .func (.func 49) #[] #[], .func (.func 50) #[] #[], .func (.func 51) #[] #[], .func (.func 52) #[] #[]] 81)
  generalize w.alloc (.cells #[.nilFunc, .func (.func 48) #[] #[], .func (.func 49) #[] #[], .func (.func 50) #[] #[], .func (.func 51) #[] #[], .func (.func 52) #[] #[]] 81) = W at Y hB ⊢
  have y0 : W.cell? ⟨w.heap.size, 0, none⟩ = some .nilFunc := Y.cell 0
  have y1 : W.cell? ⟨w.heap.size, 1, none⟩ = some (.func (.func 48) #[] #[]) := Y.cell 1
  have y2 : W.cell? ⟨w.heap.size, 2, none⟩ = some (.func (.func 49) #[] #[]) := Y.cell 2
  have y3 : W.cell? ⟨w.heap.size, 3, none⟩ = some (.func (.func 50) #[] #[]) := Y.cell 3
  have y4 : W.cell? ⟨w.heap.size, 4, none⟩ = some (.func (.func 51) #[] #[]) := Y.cell 4
  have y5 : W.cell? ⟨w.heap.size, 5, none⟩ = some (.func (.func 52) #[] #[]) := Y.cell 5
  refine bodyPost_ret (v := .agg #[.nilFunc, .func (.func 48) #[] #[], .func (.func 49) #[] #[], .func (.func 50) #[] #[], .func (.func 51) #[] #[], .func (.func 52) #[] #[]]) (by simp [results, Try.results44, go_sem, y0, y1, y2, y3, y4, y5]) rfl ?_
  exact ⟨rfl, hB⟩

set_option maxHeartbeats 2000000 in
theorem ask_any (c : Cn) (r : Vr) (Bo Bv : Nat) (w : World) (hc : (0 ≤ c.var ∧ c.var ≤ 4) ∧ 1 ≤ c.op ∧ c.op ≤ 5) (hO : Box w Bo Ops) (hV : Box w Bv r.cells) :
    Calls Try.prog 47 #[c.v, .pointer (some ⟨Bo, 0, none⟩), .pointer (some ⟨Bv, 0, none⟩)] w fun e w' => e = .returned (.bool (!c.holdsB (r.at c.var))) ∧ Below w.heap.size w w' := by
  obtain ⟨yv, yo, yn⟩ := c
  dsimp only at hc
  obtain ⟨⟨v1, v2⟩, o1, o2⟩ := hc
  obtain ⟨vi, rfl⟩ := Int.eq_ofNat_of_zero_le v1
  rcases (show yo = 1 ∨ yo = 2 ∨ yo = 3 ∨ yo = 4 ∨ yo = 5 by omega) with rfl | rfl | rfl | rfl | rfl
  · go_enter Try.func47, Try.ntmps47
    go_wp2_with fail
    have Y := Box.new w [.int .i64 (vi : Int), .int .i64 1, .int .i64 yn] 55
    have hb3 := (Below.refl w.heap.size w).alloc (Nat.le_refl _) (.cells #[.int .i64 (vi : Int), .int .i64 1, .int .i64 yn] 55)
    have hO := hO.alloc (.cells #[.int .i64 (vi : Int), .int .i64 1, .int .i64 yn] 55)
    have hV := hV.alloc (.cells #[.int .i64 (vi : Int), .int .i64 1, .int .i64 yn] 55)
    generalize w.alloc (.cells #[.int .i64 (vi : Int), .int .i64 1, .int .i64 yn] 55) = W3 at Y hb3 hO hV ⊢
    have c0 : ∀ z : Later W3, z.w.cell? ⟨w.heap.size, 0, none⟩ = some (.int .i64 (vi : Int)) := Later.cell (Y.cell 0) Y.lt
    have c1 : ∀ z : Later W3, z.w.cell? ⟨w.heap.size, 1, none⟩ = some (.int .i64 1) := Later.cell (Y.cell 1) Y.lt
    have c2 : ∀ z : Later W3, z.w.cell? ⟨w.heap.size, 2, none⟩ = some (.int .i64 yn) := Later.cell (Y.cell 2) Y.lt
    have c3 : ∀ z : Later W3, z.w.cell? ⟨Bv, vi, none⟩ = some (.int .i64 (r.at (vi : Int))) := Later.cell ((hV.cell vi).trans (r.at_cell vi (by omega))) hV.lt
    have c4 : ∀ z : Later W3, z.w.cell? ⟨Bo, 1, none⟩ = some (.func (.func 48) #[] #[]) := Later.cell (hO.cell 1) hO.lt
    refine wp_region_later (by kernel_rfl) (by kernel_rfl) ?_
    repeat (go_big_quiet_step ((go_at_call 48; exact Later.same _ (cmp1 _ _ _))))
    refine wpQuiet_nil ?_
    intro _ hw'
    obtain ⟨yq, hw''⟩ := hw'
    subst hw''
    clear c0 c1 c2 c3 c4
    go_wp2
    go_ret
    exact ⟨by simp [Cn.holdsB], hb3.trans (yq.below.mono hb3.size)⟩
  · go_enter Try.func47, Try.ntmps47
    go_wp2_with fail
    have Y := Box.new w [.int .i64 (vi : Int), .int .i64 2, .int .i64 yn] 55
    have hb3 := (Below.refl w.heap.size w).alloc (Nat.le_refl _) (.cells #[.int .i64 (vi : Int), .int .i64 2, .int .i64 yn] 55)
    have hO := hO.alloc (.cells #[.int .i64 (vi : Int), .int .i64 2, .int .i64 yn] 55)
    have hV := hV.alloc (.cells #[.int .i64 (vi : Int), .int .i64 2, .int .i64 yn] 55)
    generalize w.alloc (.cells #[.int .i64 (vi : Int), .int .i64 2, .int .i64 yn] 55) = W3 at Y hb3 hO hV ⊢
    have c0 : ∀ z : Later W3, z.w.cell? ⟨w.heap.size, 0, none⟩ = some (.int .i64 (vi : Int)) := Later.cell (Y.cell 0) Y.lt
    have c1 : ∀ z : Later W3, z.w.cell? ⟨w.heap.size, 1, none⟩ = some (.int .i64 2) := Later.cell (Y.cell 1) Y.lt
    have c2 : ∀ z : Later W3, z.w.cell? ⟨w.heap.size, 2, none⟩ = some (.int .i64 yn) := Later.cell (Y.cell 2) Y.lt
    have c3 : ∀ z : Later W3, z.w.cell? ⟨Bv, vi, none⟩ = some (.int .i64 (r.at (vi : Int))) := Later.cell ((hV.cell vi).trans (r.at_cell vi (by omega))) hV.lt
    have c4 : ∀ z : Later W3, z.w.cell? ⟨Bo, 2, none⟩ = some (.func (.func 49) #[] #[]) := Later.cell (hO.cell 2) hO.lt
    refine wp_region_later (by kernel_rfl) (by kernel_rfl) ?_
    repeat (go_big_quiet_step ((go_at_call 49; exact Later.same _ (cmp2 _ _ _))))
    refine wpQuiet_nil ?_
    intro _ hw'
    obtain ⟨yq, hw''⟩ := hw'
    subst hw''
    clear c0 c1 c2 c3 c4
    go_wp2
    go_ret
    exact ⟨by simp [Cn.holdsB], hb3.trans (yq.below.mono hb3.size)⟩
  · go_enter Try.func47, Try.ntmps47
    go_wp2_with fail
    have Y := Box.new w [.int .i64 (vi : Int), .int .i64 3, .int .i64 yn] 55
    have hb3 := (Below.refl w.heap.size w).alloc (Nat.le_refl _) (.cells #[.int .i64 (vi : Int), .int .i64 3, .int .i64 yn] 55)
    have hO := hO.alloc (.cells #[.int .i64 (vi : Int), .int .i64 3, .int .i64 yn] 55)
    have hV := hV.alloc (.cells #[.int .i64 (vi : Int), .int .i64 3, .int .i64 yn] 55)
    generalize w.alloc (.cells #[.int .i64 (vi : Int), .int .i64 3, .int .i64 yn] 55) = W3 at Y hb3 hO hV ⊢
    have c0 : ∀ z : Later W3, z.w.cell? ⟨w.heap.size, 0, none⟩ = some (.int .i64 (vi : Int)) := Later.cell (Y.cell 0) Y.lt
    have c1 : ∀ z : Later W3, z.w.cell? ⟨w.heap.size, 1, none⟩ = some (.int .i64 3) := Later.cell (Y.cell 1) Y.lt
    have c2 : ∀ z : Later W3, z.w.cell? ⟨w.heap.size, 2, none⟩ = some (.int .i64 yn) := Later.cell (Y.cell 2) Y.lt
    have c3 : ∀ z : Later W3, z.w.cell? ⟨Bv, vi, none⟩ = some (.int .i64 (r.at (vi : Int))) := Later.cell ((hV.cell vi).trans (r.at_cell vi (by omega))) hV.lt
    have c4 : ∀ z : Later W3, z.w.cell? ⟨Bo, 3, none⟩ = some (.func (.func 50) #[] #[]) := Later.cell (hO.cell 3) hO.lt
    refine wp_region_later (by kernel_rfl) (by kernel_rfl) ?_
    repeat (go_big_quiet_step ((go_at_call 50; exact Later.same _ (cmp3 _ _ _))))
    refine wpQuiet_nil ?_
    intro _ hw'
    obtain ⟨yq, hw''⟩ := hw'
    subst hw''
    clear c0 c1 c2 c3 c4
    go_wp2
    go_ret
    have hq : Cn.holdsB ⟨(vi : Int), 3, yn⟩ (r.at (vi : Int)) = (r.at (vi : Int) == yn) := by
      rw [Bool.eq_iff_iff]
      simp [Cn.holdsB]
    exact ⟨by rw [hq]; rfl, hb3.trans (yq.below.mono hb3.size)⟩
  · go_enter Try.func47, Try.ntmps47
    go_wp2_with fail
    have Y := Box.new w [.int .i64 (vi : Int), .int .i64 4, .int .i64 yn] 55
    have hb3 := (Below.refl w.heap.size w).alloc (Nat.le_refl _) (.cells #[.int .i64 (vi : Int), .int .i64 4, .int .i64 yn] 55)
    have hO := hO.alloc (.cells #[.int .i64 (vi : Int), .int .i64 4, .int .i64 yn] 55)
    have hV := hV.alloc (.cells #[.int .i64 (vi : Int), .int .i64 4, .int .i64 yn] 55)
    generalize w.alloc (.cells #[.int .i64 (vi : Int), .int .i64 4, .int .i64 yn] 55) = W3 at Y hb3 hO hV ⊢
    have c0 : ∀ z : Later W3, z.w.cell? ⟨w.heap.size, 0, none⟩ = some (.int .i64 (vi : Int)) := Later.cell (Y.cell 0) Y.lt
    have c1 : ∀ z : Later W3, z.w.cell? ⟨w.heap.size, 1, none⟩ = some (.int .i64 4) := Later.cell (Y.cell 1) Y.lt
    have c2 : ∀ z : Later W3, z.w.cell? ⟨w.heap.size, 2, none⟩ = some (.int .i64 yn) := Later.cell (Y.cell 2) Y.lt
    have c3 : ∀ z : Later W3, z.w.cell? ⟨Bv, vi, none⟩ = some (.int .i64 (r.at (vi : Int))) := Later.cell ((hV.cell vi).trans (r.at_cell vi (by omega))) hV.lt
    have c4 : ∀ z : Later W3, z.w.cell? ⟨Bo, 4, none⟩ = some (.func (.func 51) #[] #[]) := Later.cell (hO.cell 4) hO.lt
    refine wp_region_later (by kernel_rfl) (by kernel_rfl) ?_
    repeat (go_big_quiet_step ((go_at_call 51; exact Later.same _ (cmp4 _ _ _))))
    refine wpQuiet_nil ?_
    intro _ hw'
    obtain ⟨yq, hw''⟩ := hw'
    subst hw''
    clear c0 c1 c2 c3 c4
    go_wp2
    go_ret
    exact ⟨by simp [Cn.holdsB], hb3.trans (yq.below.mono hb3.size)⟩
  · go_enter Try.func47, Try.ntmps47
    go_wp2_with fail
    have Y := Box.new w [.int .i64 (vi : Int), .int .i64 5, .int .i64 yn] 55
    have hb3 := (Below.refl w.heap.size w).alloc (Nat.le_refl _) (.cells #[.int .i64 (vi : Int), .int .i64 5, .int .i64 yn] 55)
    have hO := hO.alloc (.cells #[.int .i64 (vi : Int), .int .i64 5, .int .i64 yn] 55)
    have hV := hV.alloc (.cells #[.int .i64 (vi : Int), .int .i64 5, .int .i64 yn] 55)
    generalize w.alloc (.cells #[.int .i64 (vi : Int), .int .i64 5, .int .i64 yn] 55) = W3 at Y hb3 hO hV ⊢
    have c0 : ∀ z : Later W3, z.w.cell? ⟨w.heap.size, 0, none⟩ = some (.int .i64 (vi : Int)) := Later.cell (Y.cell 0) Y.lt
    have c1 : ∀ z : Later W3, z.w.cell? ⟨w.heap.size, 1, none⟩ = some (.int .i64 5) := Later.cell (Y.cell 1) Y.lt
    have c2 : ∀ z : Later W3, z.w.cell? ⟨w.heap.size, 2, none⟩ = some (.int .i64 yn) := Later.cell (Y.cell 2) Y.lt
    have c3 : ∀ z : Later W3, z.w.cell? ⟨Bv, vi, none⟩ = some (.int .i64 (r.at (vi : Int))) := Later.cell ((hV.cell vi).trans (r.at_cell vi (by omega))) hV.lt
    have c4 : ∀ z : Later W3, z.w.cell? ⟨Bo, 5, none⟩ = some (.func (.func 52) #[] #[]) := Later.cell (hO.cell 5) hO.lt
    refine wp_region_later (by kernel_rfl) (by kernel_rfl) ?_
    repeat (go_big_quiet_step ((go_at_call 52; exact Later.same _ (cmp5 _ _ _))))
    refine wpQuiet_nil ?_
    intro _ hw'
    obtain ⟨yq, hw''⟩ := hw'
    subst hw''
    clear c0 c1 c2 c3 c4
    go_wp2
    go_ret
    exact ⟨by simp [Cn.holdsB], hb3.trans (yq.below.mono hb3.size)⟩


/-- The first condition that does not hold, by its place. -/
def failsAt (cs : List Cn) (r : Vr) : Int := match cs.findIdx? (fun c => !c.holdsB (r.at c.var)) with | some i => (i : Int) | none => -1
theorem fails_some {cs : List Cn} {r : Vr} {j : Nat} (hj : j < cs.length) (h : (cs.take j).all (fun c => c.holdsB (r.at c.var)) = true) (hh : (cs[j]).holdsB (r.at (cs[j]).var) = false) : failsAt cs r = (j : Int) := by
  unfold failsAt
  have : cs.findIdx? (fun c => !c.holdsB (r.at c.var)) = some j := by
    rw [List.findIdx?_eq_some_iff_getElem]
    refine ⟨hj, by rw [hh]; rfl, fun i hi => ?_⟩
    have h1 : cs[i] ∈ cs.take j := List.mem_take_iff_getElem.2 ⟨i, by omega, rfl⟩
    have := (List.all_eq_true.1 h) _ h1
    simp [this]
  rw [this]
theorem fails_none {cs : List Cn} {r : Vr} (h : cs.all (fun c => c.holdsB (r.at c.var)) = true) : failsAt cs r = -1 := by
  unfold failsAt
  have : cs.findIdx? (fun c => !c.holdsB (r.at c.var)) = none := by
    rw [List.findIdx?_eq_none_iff]
    intro x hx
    have := (List.all_eq_true.1 h) x hx
    simp [this]
  rw [this]
def condsOk (cs : List Cn) : Prop := ∀ j (hj : j < cs.length), (0 ≤ (cs[j]).var ∧ (cs[j]).var ≤ 4) ∧ 1 ≤ (cs[j]).op ∧ (cs[j]).op ≤ 5

set_option maxRecDepth 100000 in
set_option maxHeartbeats 2000000 in
theorem index_any (cs : List Cn) (A : Option Addr) (c : Nat) (r : Vr) (Bo Bv : Nat) (w : World) (hC : CondsAt w w.heap.size (.slice A cs.length c) cs) (hok : Hid (condsOk cs)) (hO : Box w Bo Ops) (hV : Box w Bv r.cells) :
    Calls Try.prog 53 #[.slice A cs.length c, .func (.func 47) #[] #[.pointer (some ⟨Bo, 0, none⟩), .pointer (some ⟨Bv, 0, none⟩)]] w fun e w' => e = .returned (.int .i64 (failsAt cs r)) ∧ Below w.heap.size w w' := by
  obtain ⟨_, _, hv, hm⟩ := hC.form
  unfold maxLen at hm
  clear hv
  obtain ⟨n, hnn⟩ : ∃ n, cs.length = n := ⟨_, rfl⟩
  rw [hnn] at hm hC ⊢
  have HN := Lib.hid hnn
  have HC := Lib.hid hC
  clear hnn hC
  go_enter Try.func53, Try.ntmps53
  go_wp2_with fail
  go_loopw [8] (fun i wr => ∃ j : Nat, j ≤ n ∧ i = .int .i64 j ∧ Below w.heap.size w wr ∧ Hid ((cs.take j).all (fun y => y.holdsB (r.at y.var)) = true)) (fun i _ => n - (intOf i).toNat)
  case atStart => exact ⟨0, by omega, rfl, Below.refl _ _, rfl⟩
  case round =>
    obtain ⟨j, hj, rfl, hb, hall⟩ := hrel
    by_cases hlt : j < n
    · have hjl : j < cs.length := by rw [HN.out]; exact hlt
      obtain ⟨b, off, rfl, hbw, q0, q1, q2⟩ := HC.out.cond hjl
      have q0 := (hb.cell hbw).trans q0
      have q1 := (hb.cell hbw).trans q1
      have q2 := (hb.cell hbw).trans q2
      have hk := hok.out j hjl
      have htk := all_take cs (fun y => y.holdsB (r.at y.var)) hjl
      have hfs := fails_some (r := r) hjl hall.out
      obtain ⟨y, hy⟩ : ∃ y, cs[j] = y := ⟨_, rfl⟩
      rw [hy] at q0 q1 q2 hk htk hfs
      rw [hall.out, Bool.true_and] at htk
      have htk := Lib.hid htk
      have hfs := Lib.hid hfs
      have hk := Lib.hid hk
      clear hy
      go_wp2_with fail
      refine (ask_any y r Bo Bv _ hk.out (hO.later hb) (hV.later hb)).mono ?_
      rintro e w1 ⟨rfl, hb1⟩
      have hb2 := hb.trans (hb1.mono hb.size)
      rcases hh : y.holdsB (r.at y.var) with _ | _
      · have hF := Lib.hid (hfs.out hh)
        go_wp2
        go_ret
        exact ⟨by rw [hF.out]; rfl, hb2⟩
      · go_wp2
        refine ⟨⟨j + 1, by omega, by go_num, hb2, ?_⟩, by simp [intOf]; omega⟩
        rw [Hid, htk.out]
        exact hh
    · obtain rfl : j = n := by omega
      have hF : Hid (failsAt cs r = -1) := by
        have := hall.out
        rw [← HN.out, List.take_length] at this
        exact fails_none this
      go_wp2
      go_ret
      exact ⟨by rw [hF.out]; rfl, hb⟩

theorem contains_any (cs : List Cn) (v : Value) (r : Vr) (Bo Bv : Nat) (w : World) (hC : CondsAt w w.heap.size v cs) (hok : Hid (condsOk cs)) (hO : Box w Bo Ops) (hV : Box w Bv r.cells) :
    Calls Try.prog 46 #[v, .func (.func 47) #[] #[.pointer (some ⟨Bo, 0, none⟩), .pointer (some ⟨Bv, 0, none⟩)]] w fun e w' => e = .returned (.bool (!cs.all fun c => c.holdsB (r.at c.var))) ∧ Below w.heap.size w w' := by
  obtain ⟨A, c, rfl, hm⟩ := hC.form
  have hF : failsAt cs r = -1 ∧ cs.all (fun c => c.holdsB (r.at c.var)) = true ∨ 0 ≤ failsAt cs r ∧ cs.all (fun c => c.holdsB (r.at c.var)) = false := by
    rcases ha : cs.all (fun c => c.holdsB (r.at c.var)) with _ | _
    · refine .inr ⟨?_, rfl⟩
      unfold failsAt
      rcases hf : cs.findIdx? (fun c => !c.holdsB (r.at c.var)) with _ | i
      · rw [List.findIdx?_eq_none_iff] at hf
        rw [List.all_eq_false] at ha
        obtain ⟨x, hx, hn⟩ := ha
        have := hf x hx
        simp at this
        exact absurd this hn
      · rw [hf]; exact Int.natCast_nonneg i
    · exact .inl ⟨fails_none ha, rfl⟩
  obtain ⟨z, hz⟩ : ∃ z, failsAt cs r = z := ⟨_, rfl⟩
  obtain ⟨q, hq⟩ : ∃ q, (cs.all fun c => c.holdsB (r.at c.var)) = q := ⟨_, rfl⟩
  rw [hz, hq] at hF
  rw [hq]
  have HZ := Lib.hid hz
  have hI := index_any cs A c r Bo Bv w hC hok hO hV
  rw [hz] at hI
  have HI := Lib.hid hI
  clear hz hq hI hC hm
  rcases hF with ⟨rfl, rfl⟩ | ⟨h0, rfl⟩
  · go_enter Try.func46, Try.ntmps46
    go_wp2_with fail
    refine HI.out.mono ?_
    rintro e w1 ⟨rfl, hb1⟩
    go_wp2
    go_ret
    exact ⟨rfl, hb1⟩
  · go_enter Try.func46, Try.ntmps46
    go_wp2_with fail
    refine HI.out.mono ?_
    rintro e w1 ⟨rfl, hb1⟩
    go_wp2
    go_ret
    exact ⟨rfl, hb1⟩

end Go.Proofs.Ytakjalapninndaa
