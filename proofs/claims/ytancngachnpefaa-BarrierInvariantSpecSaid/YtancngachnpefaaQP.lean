/- Contract of Step of acequiaref32, joined. (Printed by gen_o.py.) -/
import Derived.Test.YtancngachnpefaaQO
import Derived.Test.YtancngachnpefaaQK
import Derived.Test.YtancngachnpefaaQI
import Derived.Laws.EntriesVeiled
import Derived.RangeFuncNested
import Derived.RangeFuncBound
import Derived.RangeFuncCalls
import Derived.RangeFuncLeaves
import Derived.RangeFuncBox
import Derived.Shelf.Abstract
import Derived.Shelf.RegionOpen
import Derived.OwnWalkIn
import Derived.TacticsInMore
import Derived.LoopNIn
import Derived.LoopIn
import Derived.Maps.AppendAt
import Derived.Test.YtancngachnpefaaQH
import Derived.Deep.RegionHeld3
import Derived.StillTailTactics
set_option linter.unusedVariables false
set_option linter.unusedSimpArgs false
set_option maxRecDepth 100000
set_option maxHeartbeats 2000000
namespace Go.Proofs.Ytancngachnpefaa
open Go.RowKit
theorem firstT_bd {code : List Ln} {r : Vr} (h : gateB code = true) : 0 ≤ (firstT code r).1 ∧ (firstT code r).1 ≤ 1099511627776 := by
  unfold firstT
  split
  · rename_i l hl
    have hm := List.mem_of_find?_eq_some hl
    simp only [gateB, Bool.and_eq_true, List.all_eq_true] at h
    have h1 := h.2 _ hm
    simp only [Ln.okB, Bool.and_eq_true] at h1
    exact of_decide_eq_true h1.2.1
  · exact ⟨Int.le_refl _, by decide⟩
theorem small_of {p : Pl} {s : St} {x : Sh} (hv : p.Valid) (hs : p.hasB s = true) (hc : chosenB p x = true) : Small p s x := by
  obtain ⟨h1, h2, h3, h4, h5, h6⟩ := Pl.hasB_bd hs
  simp only [chosenB, Bool.and_eq_true] at hc
  have c1 := inI_yes hc.1
  obtain ⟨k1, k2, k3, k4, k5, k6, k7, k8, k9, k10, k11, k12⟩ := hv
  refine ⟨k1, k5, k6, k7, k12, by omega, h2, ⟨h3.1, ?_⟩, ⟨h4.1, ?_⟩, by omega, by omega⟩
  · have := h3.2; split at this <;> omega
  · have := h4.2; split at this <;> omega
theorem pipe_zero {p : Pl} {s : St} (hs : p.hasB s = true) (hp : p.pipe = 0) : s.p0 = 0 ∧ s.p1 = 0 := by
  obtain ⟨_, _, h3, h4, _⟩ := Pl.hasB_bd hs
  rw [hp] at h3 h4
  simp at h3 h4
  omega
theorem rstep_any (p : Pl) (code : List Ln) (V : Value) (s : St) (x : Sh) (w : World) (hC : CodeAt w w.heap.size V code) (hv : p.Valid) (hs : p.hasB s = true) (hc : chosenB p x = true) (hg : gateB code = true) :
    Calls Try.prog 79 #[p.v, .agg #[V], s.v, x.v] w fun e w' => e = .returned (.tuple #[(stepT p code s x).v, .int .i64 (outT p code s x)]) ∧ Below w.heap.size w w' := by
  have S := small_of hv hs hc
  have hgd := firstT_bd (r := varsT p s x) hg
  obtain ⟨g, ok, hF⟩ : ∃ g ok, firstT code (varsT p s x) = (g, ok) := ⟨_, _, rfl⟩
  have hR : runT code (varsT p s x) = (g, ok, 0) := by rw [runT, if_pos hg, hF]
  rw [hF] at hgd
  dsimp only at hgd
  have hpi := hv.pipe
  by_cases hm : 0 ≤ x.msg
  · rcases (show p.pipe = 0 ∨ p.pipe = 1 ∨ p.pipe = 2 by omega) with hp | hp | hp
    · have e : varsT p s x = ⟨s.level, s.position, x.msg, 0, x.feed⟩ := by simp [varsT, heardT, fedT, hp, hm]
      rw [e] at hR
      obtain ⟨q0, q1⟩ := pipe_zero hs hp
      rcases ok with _ | _
      · exact (rstep_100 p code V s x w hC S g hp hm hR hgd).mono fun _ _ ⟨he, hb⟩ => ⟨by rw [he]; simp [stepT, outT, movedT, hF, fedT, heardT, hp, hm, q0, q1], hb⟩
      · exact (rstep_101 p code V s x w hC S g hp hm hR hgd).mono fun _ _ ⟨he, hb⟩ => ⟨by rw [he]; simp [stepT, outT, movedT, hF, fedT, heardT, hp, hm, q0, q1], hb⟩
    · have e : varsT p s x = ⟨s.level, s.position, x.msg, 0, s.p0⟩ := by simp [varsT, heardT, fedT, hp, hm]
      rw [e] at hR
      rcases ok with _ | _
      · exact (rstep_110 p code V s x w hC S g hp hm hR hgd).mono fun _ _ ⟨he, hb⟩ => ⟨by rw [he]; simp [stepT, outT, movedT, hF, fedT, heardT, hp, hm], hb⟩
      · exact (rstep_111 p code V s x w hC S g hp hm hR hgd).mono fun _ _ ⟨he, hb⟩ => ⟨by rw [he]; simp [stepT, outT, movedT, hF, fedT, heardT, hp, hm], hb⟩
    · have e : varsT p s x = ⟨s.level, s.position, x.msg, 0, s.p0⟩ := by simp [varsT, heardT, fedT, hp, hm]
      rw [e] at hR
      rcases ok with _ | _
      · exact (rstep_120 p code V s x w hC S g hp hm hR hgd).mono fun _ _ ⟨he, hb⟩ => ⟨by rw [he]; simp [stepT, outT, movedT, hF, fedT, heardT, hp, hm], hb⟩
      · exact (rstep_121 p code V s x w hC S g hp hm hR hgd).mono fun _ _ ⟨he, hb⟩ => ⟨by rw [he]; simp [stepT, outT, movedT, hF, fedT, heardT, hp, hm], hb⟩
  · rcases (show p.pipe = 0 ∨ p.pipe = 1 ∨ p.pipe = 2 by omega) with hp | hp | hp
    · have e : varsT p s x = ⟨s.level, s.position, s.order, min (s.age + 1) p.age, x.feed⟩ := by simp [varsT, heardT, fedT, hp, hm]
      rw [e] at hR
      obtain ⟨q0, q1⟩ := pipe_zero hs hp
      rcases ok with _ | _
      · exact (rstep_000 p code V s x w hC S g hp (by omega) hR hgd).mono fun _ _ ⟨he, hb⟩ => ⟨by rw [he]; simp [stepT, outT, movedT, hF, fedT, heardT, hp, hm, q0, q1], hb⟩
      · exact (rstep_001 p code V s x w hC S g hp (by omega) hR hgd).mono fun _ _ ⟨he, hb⟩ => ⟨by rw [he]; simp [stepT, outT, movedT, hF, fedT, heardT, hp, hm, q0, q1], hb⟩
    · have e : varsT p s x = ⟨s.level, s.position, s.order, min (s.age + 1) p.age, s.p0⟩ := by simp [varsT, heardT, fedT, hp, hm]
      rw [e] at hR
      rcases ok with _ | _
      · exact (rstep_010 p code V s x w hC S g hp (by omega) hR hgd).mono fun _ _ ⟨he, hb⟩ => ⟨by rw [he]; simp [stepT, outT, movedT, hF, fedT, heardT, hp, hm], hb⟩
      · exact (rstep_011 p code V s x w hC S g hp (by omega) hR hgd).mono fun _ _ ⟨he, hb⟩ => ⟨by rw [he]; simp [stepT, outT, movedT, hF, fedT, heardT, hp, hm], hb⟩
    · have e : varsT p s x = ⟨s.level, s.position, s.order, min (s.age + 1) p.age, s.p0⟩ := by simp [varsT, heardT, fedT, hp, hm]
      rw [e] at hR
      rcases ok with _ | _
      · exact (rstep_020 p code V s x w hC S g hp (by omega) hR hgd).mono fun _ _ ⟨he, hb⟩ => ⟨by rw [he]; simp [stepT, outT, movedT, hF, fedT, heardT, hp, hm], hb⟩
      · exact (rstep_021 p code V s x w hC S g hp (by omega) hR hgd).mono fun _ _ ⟨he, hb⟩ => ⟨by rw [he]; simp [stepT, outT, movedT, hF, fedT, heardT, hp, hm], hb⟩
end Go.Proofs.Ytancngachnpefaa
namespace Go.Proofs.Ytancngachnpefaa
open Go.RowKit
theorem cmp1 (a b : Int) (w : World) : Calls Try.prog 87 #[.int .i64 a, .int .i64 b] w fun e w' => e = .returned (.bool (decide (a < b))) ∧ w = w' := by
  go_enter Try.func87, Try.ntmps87
  go_wp2
  go_ret
  exact ⟨rfl, rfl⟩
theorem cmp2 (a b : Int) (w : World) : Calls Try.prog 88 #[.int .i64 a, .int .i64 b] w fun e w' => e = .returned (.bool (decide (a ≤ b))) ∧ w = w' := by
  go_enter Try.func88, Try.ntmps88
  go_wp2
  go_ret
  exact ⟨rfl, rfl⟩
theorem cmp3 (a b : Int) (w : World) : Calls Try.prog 89 #[.int .i64 a, .int .i64 b] w fun e w' => e = .returned (.bool (a == b)) ∧ w = w' := by
  go_enter Try.func89, Try.ntmps89
  go_wp2
  go_ret
  exact ⟨rfl, rfl⟩
theorem cmp4 (a b : Int) (w : World) : Calls Try.prog 90 #[.int .i64 a, .int .i64 b] w fun e w' => e = .returned (.bool (decide (b ≤ a))) ∧ w = w' := by
  go_enter Try.func90, Try.ntmps90
  go_wp2
  go_ret
  exact ⟨rfl, rfl⟩
theorem cmp5 (a b : Int) (w : World) : Calls Try.prog 91 #[.int .i64 a, .int .i64 b] w fun e w' => e = .returned (.bool (decide (b < a))) ∧ w = w' := by
  go_enter Try.func91, Try.ntmps91
  go_wp2
  go_ret
  exact ⟨rfl, rfl⟩
abbrev Ops : List Value := [.nilFunc, .func (.func 87) #[] #[], .func (.func 88) #[] #[], .func (.func 89) #[] #[], .func (.func 90) #[] #[], .func (.func 91) #[] #[]]
abbrev Vr.cells (r : Vr) : List Value := [.int .i64 r.v0, .int .i64 r.v1, .int .i64 r.v2, .int .i64 r.v3, .int .i64 r.v4]
theorem compare_any (w : World) : Calls Try.prog 82 #[] w fun e w' => e = .returned (.agg #[.nilFunc, .func (.func 87) #[] #[], .func (.func 88) #[] #[], .func (.func 89) #[] #[], .func (.func 90) #[] #[], .func (.func 91) #[] #[]]) ∧ Below w.heap.size w w' := by
  go_enter Try.func82, Try.ntmps82
  go_wp2
  have Y := Box.new w Ops 142
  have hB := (Below.refl w.heap.size w).alloc (Nat.le_refl _) (.cells #[.nilFunc, .func (.func 87) #[] #[], .func (.func 88) #[] #[], .func (.func 89) #[] #[], .func (.func 90) #[] #[], .func (.func 91) #[] #[]] 142)
  generalize w.alloc (.cells #[.nilFunc, .func (.func 87) #[] #[], .func (.func 88) #[] #[], .func (.func 89) #[] #[], .func (.func 90) #[] #[], .func (.func 91) #[] #[]] 142) = W at Y hB ⊢
  obtain ⟨y0, y1, y2, y3, y4, y5⟩ := Y.c6
  refine bodyPost_ret (v := .agg #[.nilFunc, .func (.func 87) #[] #[], .func (.func 88) #[] #[], .func (.func 89) #[] #[], .func (.func 90) #[] #[], .func (.func 91) #[] #[]]) (by simp [results, Try.results82, go_sem, y0, y1, y2, y3, y4, y5]) rfl ?_
  exact ⟨rfl, hB⟩
theorem ask_any (c : Cn) (r : Vr) (Bo Bv : Nat) (w : World) (hc : (0 ≤ c.var ∧ c.var ≤ 4) ∧ 1 ≤ c.op ∧ c.op ≤ 5) (hO : Box w Bo Ops) (hV : Box w Bv r.cells) :
    Calls Try.prog 85 #[c.v, .pointer (some ⟨Bo, 0, none⟩), .pointer (some ⟨Bv, 0, none⟩)] w fun e w' => e = .returned (.bool (!c.holdsB (r.at c.var))) ∧ Below w.heap.size w w' := by
  obtain ⟨yv, yo, yn⟩ := c
  dsimp only at hc
  obtain ⟨⟨v1, v2⟩, o1, o2⟩ := hc
  obtain ⟨vi, rfl⟩ := Int.eq_ofNat_of_zero_le v1
  rcases (show yo = 1 ∨ yo = 2 ∨ yo = 3 ∨ yo = 4 ∨ yo = 5 by omega) with rfl | rfl | rfl | rfl | rfl
  · go_enter Try.func85, Try.ntmps85
    go_wp2_with fail
    have Y := Box.new w [.int .i64 (vi : Int), .int .i64 1, .int .i64 yn] 122
    have hb3 := (Below.refl w.heap.size w).alloc (Nat.le_refl _) (.cells #[.int .i64 (vi : Int), .int .i64 1, .int .i64 yn] 122)
    have hO := hO.alloc (.cells #[.int .i64 (vi : Int), .int .i64 1, .int .i64 yn] 122)
    have hV := hV.alloc (.cells #[.int .i64 (vi : Int), .int .i64 1, .int .i64 yn] 122)
    generalize w.alloc (.cells #[.int .i64 (vi : Int), .int .i64 1, .int .i64 yn] 122) = W3 at Y hb3 hO hV ⊢
    have c0 : ∀ z : Later W3, z.w.cell? ⟨w.heap.size, 0, none⟩ = some (.int .i64 (vi : Int)) := Later.cell (Y.cell 0) Y.lt
    have c1 : ∀ z : Later W3, z.w.cell? ⟨w.heap.size, 1, none⟩ = some (.int .i64 1) := Later.cell (Y.cell 1) Y.lt
    have c2 : ∀ z : Later W3, z.w.cell? ⟨w.heap.size, 2, none⟩ = some (.int .i64 yn) := Later.cell (Y.cell 2) Y.lt
    have c3 : ∀ z : Later W3, z.w.cell? ⟨Bv, vi, none⟩ = some (.int .i64 (r.at (vi : Int))) := Later.cell ((hV.cell vi).trans (r.at_cell vi (by omega))) hV.lt
    have c4 : ∀ z : Later W3, z.w.cell? ⟨Bo, 1, none⟩ = some (.func (.func 87) #[] #[]) := Later.cell (hO.cell 1) hO.lt
    refine wp_region_later (by kernel_rfl) (by kernel_rfl) ?_
    repeat (go_big_quiet_step ((go_at_call 87; exact Later.same _ (cmp1 _ _ _))))
    refine wpQuiet_nil ?_
    intro _ hw'
    obtain ⟨yq, hw''⟩ := hw'
    subst hw''
    clear c0 c1 c2 c3 c4
    go_wp2
    go_ret
    exact ⟨by simp [Cn.holdsB], hb3.trans (yq.below.mono hb3.size)⟩
  · go_enter Try.func85, Try.ntmps85
    go_wp2_with fail
    have Y := Box.new w [.int .i64 (vi : Int), .int .i64 2, .int .i64 yn] 122
    have hb3 := (Below.refl w.heap.size w).alloc (Nat.le_refl _) (.cells #[.int .i64 (vi : Int), .int .i64 2, .int .i64 yn] 122)
    have hO := hO.alloc (.cells #[.int .i64 (vi : Int), .int .i64 2, .int .i64 yn] 122)
    have hV := hV.alloc (.cells #[.int .i64 (vi : Int), .int .i64 2, .int .i64 yn] 122)
    generalize w.alloc (.cells #[.int .i64 (vi : Int), .int .i64 2, .int .i64 yn] 122) = W3 at Y hb3 hO hV ⊢
    have c0 : ∀ z : Later W3, z.w.cell? ⟨w.heap.size, 0, none⟩ = some (.int .i64 (vi : Int)) := Later.cell (Y.cell 0) Y.lt
    have c1 : ∀ z : Later W3, z.w.cell? ⟨w.heap.size, 1, none⟩ = some (.int .i64 2) := Later.cell (Y.cell 1) Y.lt
    have c2 : ∀ z : Later W3, z.w.cell? ⟨w.heap.size, 2, none⟩ = some (.int .i64 yn) := Later.cell (Y.cell 2) Y.lt
    have c3 : ∀ z : Later W3, z.w.cell? ⟨Bv, vi, none⟩ = some (.int .i64 (r.at (vi : Int))) := Later.cell ((hV.cell vi).trans (r.at_cell vi (by omega))) hV.lt
    have c4 : ∀ z : Later W3, z.w.cell? ⟨Bo, 2, none⟩ = some (.func (.func 88) #[] #[]) := Later.cell (hO.cell 2) hO.lt
    refine wp_region_later (by kernel_rfl) (by kernel_rfl) ?_
    repeat (go_big_quiet_step ((go_at_call 88; exact Later.same _ (cmp2 _ _ _))))
    refine wpQuiet_nil ?_
    intro _ hw'
    obtain ⟨yq, hw''⟩ := hw'
    subst hw''
    clear c0 c1 c2 c3 c4
    go_wp2
    go_ret
    exact ⟨by simp [Cn.holdsB], hb3.trans (yq.below.mono hb3.size)⟩
  · go_enter Try.func85, Try.ntmps85
    go_wp2_with fail
    have Y := Box.new w [.int .i64 (vi : Int), .int .i64 3, .int .i64 yn] 122
    have hb3 := (Below.refl w.heap.size w).alloc (Nat.le_refl _) (.cells #[.int .i64 (vi : Int), .int .i64 3, .int .i64 yn] 122)
    have hO := hO.alloc (.cells #[.int .i64 (vi : Int), .int .i64 3, .int .i64 yn] 122)
    have hV := hV.alloc (.cells #[.int .i64 (vi : Int), .int .i64 3, .int .i64 yn] 122)
    generalize w.alloc (.cells #[.int .i64 (vi : Int), .int .i64 3, .int .i64 yn] 122) = W3 at Y hb3 hO hV ⊢
    have c0 : ∀ z : Later W3, z.w.cell? ⟨w.heap.size, 0, none⟩ = some (.int .i64 (vi : Int)) := Later.cell (Y.cell 0) Y.lt
    have c1 : ∀ z : Later W3, z.w.cell? ⟨w.heap.size, 1, none⟩ = some (.int .i64 3) := Later.cell (Y.cell 1) Y.lt
    have c2 : ∀ z : Later W3, z.w.cell? ⟨w.heap.size, 2, none⟩ = some (.int .i64 yn) := Later.cell (Y.cell 2) Y.lt
    have c3 : ∀ z : Later W3, z.w.cell? ⟨Bv, vi, none⟩ = some (.int .i64 (r.at (vi : Int))) := Later.cell ((hV.cell vi).trans (r.at_cell vi (by omega))) hV.lt
    have c4 : ∀ z : Later W3, z.w.cell? ⟨Bo, 3, none⟩ = some (.func (.func 89) #[] #[]) := Later.cell (hO.cell 3) hO.lt
    refine wp_region_later (by kernel_rfl) (by kernel_rfl) ?_
    repeat (go_big_quiet_step ((go_at_call 89; exact Later.same _ (cmp3 _ _ _))))
    refine wpQuiet_nil ?_
    intro _ hw'
    obtain ⟨yq, hw''⟩ := hw'
    subst hw''
    clear c0 c1 c2 c3 c4
    go_wp2
    go_ret
    have hq : Cn.holdsB ⟨(vi : Int), 3, yn⟩ (r.at (vi : Int)) = (r.at (vi : Int) == yn) := by
      rw [Bool.eq_iff_iff]
      simp [Cn.holdsB]
    exact ⟨by rw [hq]; rfl, hb3.trans (yq.below.mono hb3.size)⟩
  · go_enter Try.func85, Try.ntmps85
    go_wp2_with fail
    have Y := Box.new w [.int .i64 (vi : Int), .int .i64 4, .int .i64 yn] 122
    have hb3 := (Below.refl w.heap.size w).alloc (Nat.le_refl _) (.cells #[.int .i64 (vi : Int), .int .i64 4, .int .i64 yn] 122)
    have hO := hO.alloc (.cells #[.int .i64 (vi : Int), .int .i64 4, .int .i64 yn] 122)
    have hV := hV.alloc (.cells #[.int .i64 (vi : Int), .int .i64 4, .int .i64 yn] 122)
    generalize w.alloc (.cells #[.int .i64 (vi : Int), .int .i64 4, .int .i64 yn] 122) = W3 at Y hb3 hO hV ⊢
    have c0 : ∀ z : Later W3, z.w.cell? ⟨w.heap.size, 0, none⟩ = some (.int .i64 (vi : Int)) := Later.cell (Y.cell 0) Y.lt
    have c1 : ∀ z : Later W3, z.w.cell? ⟨w.heap.size, 1, none⟩ = some (.int .i64 4) := Later.cell (Y.cell 1) Y.lt
    have c2 : ∀ z : Later W3, z.w.cell? ⟨w.heap.size, 2, none⟩ = some (.int .i64 yn) := Later.cell (Y.cell 2) Y.lt
    have c3 : ∀ z : Later W3, z.w.cell? ⟨Bv, vi, none⟩ = some (.int .i64 (r.at (vi : Int))) := Later.cell ((hV.cell vi).trans (r.at_cell vi (by omega))) hV.lt
    have c4 : ∀ z : Later W3, z.w.cell? ⟨Bo, 4, none⟩ = some (.func (.func 90) #[] #[]) := Later.cell (hO.cell 4) hO.lt
    refine wp_region_later (by kernel_rfl) (by kernel_rfl) ?_
    repeat (go_big_quiet_step ((go_at_call 90; exact Later.same _ (cmp4 _ _ _))))
    refine wpQuiet_nil ?_
    intro _ hw'
    obtain ⟨yq, hw''⟩ := hw'
    subst hw''
    clear c0 c1 c2 c3 c4
    go_wp2
    go_ret
    exact ⟨by simp [Cn.holdsB], hb3.trans (yq.below.mono hb3.size)⟩
  · go_enter Try.func85, Try.ntmps85
    go_wp2_with fail
    have Y := Box.new w [.int .i64 (vi : Int), .int .i64 5, .int .i64 yn] 122
    have hb3 := (Below.refl w.heap.size w).alloc (Nat.le_refl _) (.cells #[.int .i64 (vi : Int), .int .i64 5, .int .i64 yn] 122)
    have hO := hO.alloc (.cells #[.int .i64 (vi : Int), .int .i64 5, .int .i64 yn] 122)
    have hV := hV.alloc (.cells #[.int .i64 (vi : Int), .int .i64 5, .int .i64 yn] 122)
    generalize w.alloc (.cells #[.int .i64 (vi : Int), .int .i64 5, .int .i64 yn] 122) = W3 at Y hb3 hO hV ⊢
    have c0 : ∀ z : Later W3, z.w.cell? ⟨w.heap.size, 0, none⟩ = some (.int .i64 (vi : Int)) := Later.cell (Y.cell 0) Y.lt
    have c1 : ∀ z : Later W3, z.w.cell? ⟨w.heap.size, 1, none⟩ = some (.int .i64 5) := Later.cell (Y.cell 1) Y.lt
    have c2 : ∀ z : Later W3, z.w.cell? ⟨w.heap.size, 2, none⟩ = some (.int .i64 yn) := Later.cell (Y.cell 2) Y.lt
    have c3 : ∀ z : Later W3, z.w.cell? ⟨Bv, vi, none⟩ = some (.int .i64 (r.at (vi : Int))) := Later.cell ((hV.cell vi).trans (r.at_cell vi (by omega))) hV.lt
    have c4 : ∀ z : Later W3, z.w.cell? ⟨Bo, 5, none⟩ = some (.func (.func 91) #[] #[]) := Later.cell (hO.cell 5) hO.lt
    refine wp_region_later (by kernel_rfl) (by kernel_rfl) ?_
    repeat (go_big_quiet_step ((go_at_call 91; exact Later.same _ (cmp5 _ _ _))))
    refine wpQuiet_nil ?_
    intro _ hw'
    obtain ⟨yq, hw''⟩ := hw'
    subst hw''
    clear c0 c1 c2 c3 c4
    go_wp2
    go_ret
    exact ⟨by simp [Cn.holdsB], hb3.trans (yq.below.mono hb3.size)⟩
def failsAt (cs : List Cn) (r : Vr) : Int := match cs.findIdx? (fun c => !c.holdsB (r.at c.var)) with | some i => (i : Int) | none => -1
theorem fails_some {cs : List Cn} {r : Vr} {j : Nat} (hj : j < cs.length) (h : (cs.take j).all (fun c => c.holdsB (r.at c.var)) = true) (hh : (cs[j]).holdsB (r.at (cs[j]).var) = false) : failsAt cs r = (j : Int) := by
  unfold failsAt
  have : cs.findIdx? (fun c => !c.holdsB (r.at c.var)) = some j := by
    rw [List.findIdx?_eq_some_iff_getElem]
    refine ⟨hj, by rw [hh]; rfl, fun i hi => ?_⟩
    have h1 : cs[i] ∈ cs.take j := List.mem_take_iff_getElem.2 ⟨i, by omega, rfl⟩
    have := (List.all_eq_true.1 h) _ h1
    simp [this]
  rw [this]
theorem fails_none {cs : List Cn} {r : Vr} (h : cs.all (fun c => c.holdsB (r.at c.var)) = true) : failsAt cs r = -1 := by
  unfold failsAt
  have : cs.findIdx? (fun c => !c.holdsB (r.at c.var)) = none := by
    rw [List.findIdx?_eq_none_iff]
    intro x hx
    have := (List.all_eq_true.1 h) x hx
    simp [this]
  rw [this]
def condsOk (cs : List Cn) : Prop := ∀ j (hj : j < cs.length), (0 ≤ (cs[j]).var ∧ (cs[j]).var ≤ 4) ∧ 1 ≤ (cs[j]).op ∧ (cs[j]).op ≤ 5
theorem index_any (cs : List Cn) (A : Option Addr) (c : Nat) (r : Vr) (Bo Bv : Nat) (w : World) (hC : CondsAt w w.heap.size (.slice A cs.length c) cs) (hok : Hid (condsOk cs)) (hO : Box w Bo Ops) (hV : Box w Bv r.cells) :
    Calls Try.prog 92 #[.slice A cs.length c, .func (.func 85) #[] #[.pointer (some ⟨Bo, 0, none⟩), .pointer (some ⟨Bv, 0, none⟩)]] w fun e w' => e = .returned (.int .i64 (failsAt cs r)) ∧ Below w.heap.size w w' := by
  obtain ⟨_, _, hv, hm⟩ := hC.form
  unfold maxLen at hm
  clear hv
  obtain ⟨n, hnn⟩ : ∃ n, cs.length = n := ⟨_, rfl⟩
  rw [hnn] at hm hC ⊢
  have HN := Lib.hid hnn
  have HC := Lib.hid hC
  clear hnn hC
  go_enter Try.func92, Try.ntmps92
  go_wp2_with fail
  go_loopw [8] (fun i wr => ∃ j : Nat, j ≤ n ∧ i = .int .i64 j ∧ Below w.heap.size w wr ∧ Hid ((cs.take j).all (fun y => y.holdsB (r.at y.var)) = true)) (fun i _ => n - (intOf i).toNat)
  case atStart => exact ⟨0, by omega, rfl, Below.refl _ _, rfl⟩
  case round =>
    obtain ⟨j, hj, rfl, hb, hall⟩ := hrel
    by_cases hlt : j < n
    · have hjl : j < cs.length := by rw [HN.out]; exact hlt
      obtain ⟨b, off, rfl, hbw, q0, q1, q2⟩ := HC.out.cond hjl
      have q0 := (hb.cell hbw).trans q0
      have q1 := (hb.cell hbw).trans q1
      have q2 := (hb.cell hbw).trans q2
      have hk := hok.out j hjl
      have htk := all_take cs (fun y => y.holdsB (r.at y.var)) hjl
      have hfs := fails_some (r := r) hjl hall.out
      obtain ⟨y, hy⟩ : ∃ y, cs[j] = y := ⟨_, rfl⟩
      rw [hy] at q0 q1 q2 hk htk hfs
      rw [hall.out, Bool.true_and] at htk
      have htk := Lib.hid htk
      have hfs := Lib.hid hfs
      have hk := Lib.hid hk
      clear hy
      go_wp2_with fail
      refine (ask_any y r Bo Bv _ hk.out (hO.later hb) (hV.later hb)).mono ?_
      rintro e w1 ⟨rfl, hb1⟩
      have hb2 := hb.trans (hb1.mono hb.size)
      rcases hh : y.holdsB (r.at y.var) with _ | _
      · have hF := Lib.hid (hfs.out hh)
        go_wp2
        go_ret
        exact ⟨by rw [hF.out]; rfl, hb2⟩
      · go_wp2
        refine ⟨⟨j + 1, by omega, by go_num, hb2, ?_⟩, by simp [intOf]; omega⟩
        rw [Hid, htk.out]
        exact hh
    · obtain rfl : j = n := by omega
      have hF : Hid (failsAt cs r = -1) := by
        have := hall.out
        rw [← HN.out, List.take_length] at this
        exact fails_none this
      go_wp2
      go_ret
      exact ⟨by rw [hF.out]; rfl, hb⟩
theorem contains_any (cs : List Cn) (v : Value) (r : Vr) (Bo Bv : Nat) (w : World) (hC : CondsAt w w.heap.size v cs) (hok : Hid (condsOk cs)) (hO : Box w Bo Ops) (hV : Box w Bv r.cells) :
    Calls Try.prog 84 #[v, .func (.func 85) #[] #[.pointer (some ⟨Bo, 0, none⟩), .pointer (some ⟨Bv, 0, none⟩)]] w fun e w' => e = .returned (.bool (!cs.all fun c => c.holdsB (r.at c.var))) ∧ Below w.heap.size w w' := by
  obtain ⟨A, c, rfl, hm⟩ := hC.form
  have hF : failsAt cs r = -1 ∧ cs.all (fun c => c.holdsB (r.at c.var)) = true ∨ 0 ≤ failsAt cs r ∧ cs.all (fun c => c.holdsB (r.at c.var)) = false := by
    rcases ha : cs.all (fun c => c.holdsB (r.at c.var)) with _ | _
    · refine .inr ⟨?_, rfl⟩
      unfold failsAt
      rcases hf : cs.findIdx? (fun c => !c.holdsB (r.at c.var)) with _ | i
      · rw [List.findIdx?_eq_none_iff] at hf
        rw [List.all_eq_false] at ha
        obtain ⟨x, hx, hn⟩ := ha
        have := hf x hx
        simp at this
        exact absurd this hn
      · rw [hf]; exact Int.natCast_nonneg i
    · exact .inl ⟨fails_none ha, rfl⟩
  obtain ⟨z, hz⟩ : ∃ z, failsAt cs r = z := ⟨_, rfl⟩
  obtain ⟨q, hq⟩ : ∃ q, (cs.all fun c => c.holdsB (r.at c.var)) = q := ⟨_, rfl⟩
  rw [hz, hq] at hF
  rw [hq]
  have HZ := Lib.hid hz
  have hI := index_any cs A c r Bo Bv w hC hok hO hV
  rw [hz] at hI
  have HI := Lib.hid hI
  clear hz hq hI hC hm
  rcases hF with ⟨rfl, rfl⟩ | ⟨h0, rfl⟩
  · go_enter Try.func84, Try.ntmps84
    go_wp2_with fail
    refine HI.out.mono ?_
    rintro e w1 ⟨rfl, hb1⟩
    go_wp2
    go_ret
    exact ⟨rfl, hb1⟩
  · go_enter Try.func84, Try.ntmps84
    go_wp2_with fail
    refine HI.out.mono ?_
    rintro e w1 ⟨rfl, hb1⟩
    go_wp2
    go_ret
    exact ⟨rfl, hb1⟩
end Go.Proofs.Ytancngachnpefaa
namespace Go.Proofs.Ytancngachnpefaa
open Go.RowKit Go.Shelf
attribute [local go_sem] Oper.semAt_some
theorem holding_any (v : Value) (r : Vr) (w : World) : Calls Try.prog 80 #[.agg #[v], r.v] w fun e w' =>
    ∃ Bo : Nat, e = .returned (.func (.func 83) #[] #[.pointer (some ⟨w.heap.size, 0, none⟩), .pointer (some ⟨Bo, 0, none⟩), .pointer (some ⟨w.heap.size + 1, 0, none⟩)]) ∧
      Box w' w.heap.size [v] ∧ Box w' Bo Ops ∧ Box w' (w.heap.size + 1) r.cells ∧ w.heap.size ≤ Bo ∧ Below w.heap.size w w' := by
  have hmf : ∀ (fn : Fn) (first cap : Array Value) (w : World), (Instr.makeFunc fn first cap).run Try.prog w = .ok (.func fn first cap) w := fun _ _ _ _ => rfl
  go_enter Try.func80, Try.ntmps80
  go_wp2_with fail
  refine (compare_any _).mono ?_
  rintro e w1 ⟨rfl, hb⟩
  have X0 := ((Box.new w [v] 26).alloc _).later hb
  have X1 := (Box.newAt (w := w.alloc (.cells #[v] 26)) (n := w.heap.size + 1) r.cells 132 (by simp)).later hb
  have hB := (((Below.refl w.heap.size w).alloc (by simp <;> omega) _).alloc (by simp <;> omega) _).trans (hb.mono (by simp <;> omega))
  clear hb
  go_wp2
  have Y := Box.new w1 Ops 142
  have X0 := X0.alloc (.cells Ops.toArray 142)
  have X1 := X1.alloc (.cells Ops.toArray 142)
  have hs := hB.size
  have hB := hB.alloc hB.size (.cells Ops.toArray 142)
  go_ret
  exact ⟨w1.heap.size, rfl, X0, Y, X1, hs, hB⟩
def heldL (code : List Ln) (r : Vr) : List Int := (code.filter (·.holdsB r)).map (·.set)
theorem heldL_take (code : List Ln) (r : Vr) {k : Nat} (hk : k < code.length) : heldL (code.take (k + 1)) r = heldL (code.take k) r ++ (if (code[k]).holdsB r = true then [(code[k]).set] else []) := by
  rw [List.take_succ_eq_append_getElem hk]
  unfold heldL
  rw [List.filter_append, List.map_append]
  congr 1
  by_cases h : (code[k]).holdsB r = true <;> simp [h]
theorem heldL_prefix (code : List Ln) (r : Vr) (k : Nat) : heldL (code.take k) r <+: heldL code r := by
  unfold heldL
  conv => rhs; rw [← List.take_append_drop k code, List.filter_append, List.map_append]
  exact List.prefix_append _ _
theorem grown_none {a w : World} (h : Below a.heap.size a w) : a.grownBy w none := ⟨h.os, h.tape, h.output, h.size, fun i hi _ => h.block i hi⟩
theorem abides_below {β : Type} {B : Nat} {J : β → World → Prop} (h : AbidesFrom B J) {s : β} {W W' : World} (hs : J s W) (hb : Below W.heap.size W W') : J s W' := h s W W' none hs (grown_none hb) (fun r e => by cases e)
theorem hold_stops (n N : Nat) (code : List Ln) (A : Option Addr) (c : Nat) (r : Vr) (Bc Bo Bv : Nat) (w : World) (hC : CodeAt w w.heap.size (.slice A code.length c) code) (hg : Hid (gateB code = true))
    (hc : Box w Bc [.slice A code.length c]) (hO : Box w Bo Ops) (hV : Box w Bv r.cells) (hN : code.length ≤ N) :
    SeqStopsK Fence.wide n Try.prog 83 #[.pointer (some ⟨Bc, 0, none⟩), .pointer (some ⟨Bo, 0, none⟩), .pointer (some ⟨Bv, 0, none⟩)] (fun x : (Option Addr × Nat × Nat) × Int => #[.agg #[.slice x.1.1 x.1.2.1 x.1.2.2, .int .i64 x.2]]) (Below w.heap.size)
      (fun xs => xs.map (·.2) = heldL code r) (fun pre => pre.map (·.2) <+: heldL code r) N w := fun l J Jx W hW hJ hJx hY h0 => by
  have hmf : ∀ (fn : Fn) (first cap : Array Value) (w : World), (Instr.makeFunc fn first cap).run Try.prog w = .ok (.func fn first cap) w := fun _ _ _ _ => rfl
  obtain ⟨m, hmm⟩ : ∃ m, code.length = m := ⟨_, rfl⟩
  have hm4 := (gate_small hg.out).1
  rw [hmm] at hC hc hN hm4
  have HM := Lib.hid hmm
  have HC := Lib.hid hC
  have HY := Lib.hid hY
  have HJ := Lib.hid hJ
  have HJx := Lib.hid hJx
  clear hmm hC hY hJ hJx
  refine callsIn_of_wp Try.func83 rfl trivial ?_ rfl
  simp only [Try.ntmps83, List.size_toArray, List.length_cons, List.length_nil, Nat.reduceAdd, Nat.reduceSub, Array.replicate_succ, Array.replicate_zero, List.push_toArray, List.append_toArray, List.nil_append, List.cons_append]
  have x0 : W.cell? ⟨Bc, 0, none⟩ = some (.slice A m c) := (hc.later hW).cell 0
  gi_wp2_with fail
  clear x0
  gi_loopw [11] (fun i wr => ∃ (k : Nat) (pre : List ((Option Addr × Nat × Nat) × Int)), k ≤ m ∧ i = .int .i64 k ∧ Below w.heap.size w wr ∧ J pre wr ∧ Hid (pre.map (·.2) = heldL (code.take k) r ∧ pre.length ≤ k)) (fun i _ => m - (intOf i).toNat)
  case atStart => exact ⟨0, [], by omega, rfl, hW, h0, rfl, Nat.le_refl _⟩
  case round =>
    obtain ⟨k, pre, hk, rfl, hb, hJ0, hpre⟩ := hrel
    by_cases hlt : k < m
    · have hkl : k < code.length := by rw [HM.out]; exact hlt
      obtain ⟨b, off, V, rfl, hbw, p0, p1, hV'⟩ := HC.out.line hkl
      obtain ⟨A', c', rfl, hm⟩ := hV'.form
      have hokc : condsOk (code[k]).conds := fun j hj => gate_ok hg.out hkl hj
      have htk := heldL_take code r hkl
      obtain ⟨l1, hl⟩ : ∃ l1, code[k] = l1 := ⟨_, rfl⟩
      rw [hl] at p0 p1 hV' hm hokc htk
      have htk := Lib.hid htk
      have hokc := Lib.hid hokc
      clear hl
      obtain ⟨m', hmm⟩ : ∃ m', l1.conds.length = m' := ⟨_, rfl⟩
      rw [hmm] at p0 hV' hm
      have HV := Lib.hid hV'
      clear hV' hmm
      have p0 := (hb.cell hbw).trans p0
      have p1 := (hb.cell hbw).trans p1
      gi_wp2_with fail
      refine ⟨trivial, (fun h => by cases h), ?_⟩
      have hb1 := hb.alloc hb.size (.cells #[.slice A' m' c', .int .i64 l1.set] 74)
      have Y := Box.new wr [.slice A' m' c', .int .i64 l1.set] 74
      have hO1 := hO.later hb1
      have hV1 := hV.later hb1
      have hJ1 := abides_below HJ.out hJ0 ((Below.refl _ wr).alloc (Nat.le_refl _) (.cells #[.slice A' m' c', .int .i64 l1.set] 74))
      have hC1 := (HV.out.below hb1).more hb1.size
      refine (callsIn_wide.2 (contains_any l1.conds (.slice A' m' c') r Bo Bv _ hC1 hokc hO1 hV1)).mono ?_
      rintro e W1 ⟨rfl, hb2⟩
      have hb3 := hb1.trans (hb2.mono hb1.size)
      have hJ2 := abides_below HJ.out hJ1 hb2
      have Y := Y.later hb2
      clear hb1 hb2 hJ1 hO1 hV1 p0 p1 hC1
      generalize wr.heap.size = D at Y ⊢
      obtain ⟨y0, y1⟩ := Y.c2
      rcases hh : (l1.conds.all fun c => c.holdsB (r.at c.var)) with _ | _
      · gi_wp2
        refine ⟨fun _ h => (by cases h), ?_⟩
        gi_wp2
        refine ⟨⟨k + 1, pre, by omega, by go_num, hb3, hJ2, ?_, by have := hpre.out.2; omega⟩, by simp [intOf]; omega⟩
        rw [htk.out, if_neg (by rw [Ln.holdsB, hh]; decide), List.append_nil]
        exact hpre.out.1
      · obtain ⟨f0, t0, a0, c0, hy0, hR0⟩ := HY.out pre ((A', m', c'), l1.set) W1 hJ2 (by have := hpre.out.2; omega)
        dsimp only at hy0
        have hpre' : (pre ++ [((A', m', c'), l1.set)]).map (·.2) = heldL (code.take (k + 1)) r := by
          rw [htk.out, if_pos (show l1.holdsB r = true from hh), List.map_append, hpre.out.1]; rfl
        have hpre' := Lib.hid hpre'
        gi_wp2_with fail
        refine ⟨(fun h => by cases h), hR0.mono ?_⟩
        rintro e W2 (⟨rfl, hJ3, hK⟩ | ⟨rfl, hx⟩)
        · gi_wp2
          refine ⟨⟨k + 1, _, by omega, by go_num, hb3.trans hK, hJ3, hpre'.out, by have := hpre.out.2; simp; omega⟩, by simp [intOf]; omega⟩
        · gi_wp2
          refine bodyPost_ret (results_none rfl _ _ _) rfl ?_
          refine ⟨⟨_, rfl⟩, .inr ⟨_, ?_, hx⟩⟩
          show List.map _ _ <+: _
          rw [hpre'.out]
          exact heldL_prefix code r (k + 1)
    · obtain rfl : k = m := by omega
      gi_wp2
      go_end0
      refine ⟨⟨_, rfl⟩, .inl ⟨pre, ?_, hJ0⟩⟩
      show List.map _ _ = _
      rw [hpre.out.1, ← HM.out, List.take_length]
end Go.Proofs.Ytancngachnpefaa
namespace Go.Proofs.Ytancngachnpefaa
open Go.RowKit Go.Shelf
attribute [local go_sem] Oper.semAt_some
theorem gcheck_at {code : List Ln} {v : Value} {w : World} {c : Int} (h : Hid (gateT code = c)) (hC : CodeAt w w.heap.size v code) : Calls Try.prog 56 #[.agg #[v]] w fun e w' => e = .returned (.int .i64 c) ∧ Below w.heap.size w w' :=
  (gcheck_any code v w hC).mono fun _ _ ⟨he, hb⟩ => ⟨by rw [he, h.out], hb⟩
theorem box_own {β : Type} (b : Nat) (xs : List Value) : Own (fun (_ : β) W => Box W b xs) := by
  rintro s X Y row ⟨t, ht⟩ hg hrow
  refine ⟨t, (hg.block b (Array.getElem?_eq_some_iff.1 ht).1 (fun e => ?_)).trans ht⟩
  obtain ⟨o, ho, hc⟩ := hrow b e.symm
  rw [ht] at ho; cases ho; cases hc
theorem Box.put {w : World} {b l : Nat} {xs : List Value} (h : Box w b xs) (hne : b ≠ l) (o : Obj) : Box (w.putObj l o) b xs := by
  obtain ⟨t, ht⟩ := h
  exact ⟨t, (World.putObj_heap_other hne).trans ht⟩
theorem below_put {B D : Nat} {w w' : World} (h : Below B w w') (hD : B ≤ D) (o : Obj) : Below B w (w'.putObj D o) :=
  ⟨h.os, h.tape, h.output, by simpa using h.size, fun k hk => (World.putObj_heap_other (by omega)).trans (h.block k hk)⟩
theorem calls_of_wp_marks {P : Program} {f : FuncId} {fn : Func} {c : Code} {args : Array Value} {w : World} {R : Ending → World → Prop} (hf : P.funcs[f]? = some fn) (hb : fn.body = some c)
    (h : c.wp P (bodyPostM Fence.wide 6 P fn R) { tmps := args ++ Array.replicate (fn.ntmps - args.size) undef, defers := [] } w) : Calls P f args w R :=
  callsIn_wide.1 (callsIn_of_wp_marks (n := 6) hf hb trivial (wpIn_wide.2 h) rfl)
theorem firstT_held {code : List Ln} {r : Vr} (h : heldL code r = []) : firstT code r = (0, false) := by
  refine first_none (List.all_eq_true.2 fun x hx => ?_)
  simp only [heldL, List.map_eq_nil_iff, List.filter_eq_nil_iff] at h
  simpa using h x hx
theorem firstT_head {code : List Ln} {r : Vr} {s : Int} (h : [s] <+: heldL code r) : firstT code r = (s, true) := by
  unfold firstT
  unfold heldL at h
  obtain ⟨t, ht⟩ := h
  rw [← List.head?_filter]
  rcases hf : code.filter (·.holdsB r) with _ | ⟨l, ls⟩
  · rw [hf] at ht; simp at ht
  · rw [hf] at ht
    simp only [List.map_cons, List.cons_append, List.nil_append, List.cons.injEq] at ht
    rw [hf, List.head?_cons, ht.1]
theorem run_bad (code : List Ln) (v : Value) (r : Vr) (w : World) (hC : Hid (CodeAt w w.heap.size v code)) (h : Hid (gateT code = 310)) :
    Calls Try.prog 72 #[.agg #[v], r.v] w fun e w' => e = .returned (.tuple #[.int .i64 0, .bool false, .int .i64 310]) ∧ Below w.heap.size w w' := by
  refine calls_of_wp_marks Try.func72 rfl ?_
  simp only [Try.ntmps72, List.size_toArray, List.length_cons, List.length_nil, Nat.reduceAdd, Nat.reduceSub, Array.replicate_succ, Array.replicate_zero, List.push_toArray, List.append_toArray, List.nil_append, List.cons_append]
  go_wp2_with fail
  have hB : Below w.heap.size w (((((w.alloc (.cells #[v] 26)).alloc (.cells #[.int .i64 r.v0, .int .i64 r.v1, .int .i64 r.v2, .int .i64 r.v3, .int .i64 r.v4] 132)).alloc (.cells #[.int .i64 0] 3)).alloc (.cells #[.bool false] 4)).alloc (.cells #[.int .i64 0] 33)) :=
    (((((Below.refl _ _).alloc (Nat.le_refl _) _).alloc (by simp) _).alloc (by simp; omega) _).alloc (by simp; omega) _).alloc (by simp; omega) _
  refine (gcheck_at h (hC.out.later hB)).mono ?_
  rintro e w1 ⟨rfl, hb⟩
  have X2 := (((Box.newAt (n := w.heap.size + 1 + 1) [.int .i64 0] 3 (by simp)).alloc _).alloc _).later hb
  have X3 := ((Box.newAt (n := w.heap.size + 1 + 1 + 1) [.bool false] 4 (by simp)).alloc _).later hb
  have X4 := (Box.newAt (n := w.heap.size + 1 + 1 + 1 + 1) [.int .i64 0] 33 (by simp)).later hb
  have hB := hB.trans (hb.mono hB.size)
  clear hb
  have c2 := X2.cell 0
  have f2 := X2.free 0
  have z2 := X2.lt
  have c3 := X3.cell 0
  have f3 := X3.free 0
  have z3 := X3.lt
  have c4 := X4.cell 0
  have f4 := X4.free 0
  have z4 := X4.lt
  simp only [List.getElem?_cons_zero] at c2 c3 c4
  go_wp2_with fail
  have Y4 := X4.set 0 (.int .i64 310)
  have hB5 := hB.setCell (p := ⟨w.heap.size + 1 + 1 + 1 + 1, 0, none⟩) (by simp <;> omega) (.int .i64 310)
  have Y3 := X3.other (a := ⟨w.heap.size + 1 + 1 + 1 + 1, 0, none⟩) (by simp <;> omega) (.int .i64 310)
  have Y2 := X2.other (a := ⟨w.heap.size + 1 + 1 + 1 + 1, 0, none⟩) (by simp <;> omega) (.int .i64 310)
  generalize w1.setCell ⟨w.heap.size + 1 + 1 + 1 + 1, 0, none⟩ (.int .i64 310) = W2 at Y2 Y3 Y4 hB5 ⊢
  clear c2 f2 z2 c3 f3 z3 c4 f4 z4 X2 X3 X4 hB
  have c2 := Y2.cell 0
  have f2 := Y2.free 0
  have z2 := Y2.lt
  have c3 := Y3.cell 0
  have f3 := Y3.free 0
  have z3 := Y3.lt
  have c4 := Y4.cell 0
  have f4 := Y4.free 0
  have z4 := Y4.lt
  simp only [List.getElem?_cons_zero, List.set_cons_zero] at c2 c3 c4
  go_region
  have Z2 := Y2.set 0 (.int .i64 0)
  have Z3 := (Y3.other (a := ⟨w.heap.size + 1 + 1, 0, none⟩) (by simp <;> omega) (.int .i64 0)).set 0 (.bool false)
  have Z4 := ((Y4.other (a := ⟨w.heap.size + 1 + 1, 0, none⟩) (by simp <;> omega) (.int .i64 0)).other (a := ⟨w.heap.size + 1 + 1 + 1, 0, none⟩) (by simp <;> omega) (.bool false)).set 0 (.int .i64 310)
  have Z2 := (Z2.other (a := ⟨w.heap.size + 1 + 1 + 1, 0, none⟩) (by simp <;> omega) (.bool false)).other (a := ⟨w.heap.size + 1 + 1 + 1 + 1, 0, none⟩) (by simp <;> omega) (.int .i64 310)
  have Z3 := Z3.other (a := ⟨w.heap.size + 1 + 1 + 1 + 1, 0, none⟩) (by simp <;> omega) (.int .i64 310)
  go_wp2
  have Z4 := Z4.cell 0
  have Z3 := Z3.cell 0
  have Z2 := Z2.cell 0
  simp only [List.getElem?_cons_zero, List.set_cons_zero] at Z2 Z3 Z4
  refine ⟨_, (by simp [results, Try.results72, go_sem, Z2, Z3, Z4] : _ = Result.ok (.tuple #[.int .i64 0, .bool false, .int .i64 310]) _), ?_⟩
  exact ⟨rfl, ((hB5.setCell (p := ⟨w.heap.size + 1 + 1, 0, none⟩) (by simp <;> omega) _).setCell (p := ⟨w.heap.size + 1 + 1 + 1, 0, none⟩) (by simp <;> omega) _).setCell (p := ⟨w.heap.size + 1 + 1 + 1 + 1, 0, none⟩) (by simp <;> omega) _ |>.drew⟩
theorem run_good (code : List Ln) (A : Option Addr) (c : Nat) (r : Vr) (w : World) (hC : Hid (CodeAt w w.heap.size (.slice A code.length c) code)) (h : Hid (gateT code = 0)) (hg : Hid (gateB code = true)) :
    Calls Try.prog 72 #[.agg #[.slice A code.length c], r.v] w fun e w' => e = .returned (.tuple #[.int .i64 (firstT code r).1, .bool (firstT code r).2, .int .i64 0]) ∧ Below w.heap.size w w' := by
  refine calls_of_wp_marks Try.func72 rfl ?_
  simp only [Try.ntmps72, List.size_toArray, List.length_cons, List.length_nil, Nat.reduceAdd, Nat.reduceSub, Array.replicate_succ, Array.replicate_zero, List.push_toArray, List.append_toArray, List.nil_append, List.cons_append]
  have hN := (gate_small hg.out).1
  obtain ⟨V, hV⟩ : ∃ V, Value.slice A code.length c = V := ⟨_, rfl⟩
  have hVe := Lib.hid hV
  rw [hV] at hC ⊢
  clear hV
  go_wp2_with fail
  have hB : Below w.heap.size w (((((w.alloc (.cells #[V] 26)).alloc (.cells #[.int .i64 r.v0, .int .i64 r.v1, .int .i64 r.v2, .int .i64 r.v3, .int .i64 r.v4] 132)).alloc (.cells #[.int .i64 0] 3)).alloc (.cells #[.bool false] 4)).alloc (.cells #[.int .i64 0] 33)) :=
    (((((Below.refl _ _).alloc (Nat.le_refl _) _).alloc (by simp) _).alloc (by simp; omega) _).alloc (by simp; omega) _).alloc (by simp; omega) _
  refine (gcheck_at h (hC.out.later hB)).mono ?_
  rintro e w1 ⟨rfl, hb⟩
  have X0 := (((((Box.newAt (n := w.heap.size) [V] 26 (by simp)).alloc _).alloc _).alloc _).alloc _).later hb
  have X1 := ((((Box.newAt (n := w.heap.size + 1) [.int .i64 r.v0, .int .i64 r.v1, .int .i64 r.v2, .int .i64 r.v3, .int .i64 r.v4] 132 (by simp)).alloc _).alloc _).alloc _).later hb
  have X2 := (((Box.newAt (n := w.heap.size + 1 + 1) [.int .i64 0] 3 (by simp)).alloc _).alloc _).later hb
  have X3 := ((Box.newAt (n := w.heap.size + 1 + 1 + 1) [.bool false] 4 (by simp)).alloc _).later hb
  have X4 := (Box.newAt (n := w.heap.size + 1 + 1 + 1 + 1) [.int .i64 0] 33 (by simp)).later hb
  have hB := hB.trans (hb.mono hB.size)
  clear hb
  have c0 : w1.cell? ⟨w.heap.size, 0, none⟩ = some V := X0.cell 0
  obtain ⟨x0, x1, x2, x3, x4⟩ := X1.c5
  have c4 : w1.cell? ⟨w.heap.size + 1 + 1 + 1 + 1, 0, none⟩ = some (.int .i64 0) := X4.cell 0
  have f4 := X4.free 0
  have z4 := X4.lt
  go_wp2_with fail
  have Y4 := X4.set 0 (.int .i64 0)
  have hB := hB.setCell (p := ⟨w.heap.size + 1 + 1 + 1 + 1, 0, none⟩) (by simp <;> omega) (.int .i64 0)
  have Y3 := X3.other (a := ⟨w.heap.size + 1 + 1 + 1 + 1, 0, none⟩) (by simp <;> omega) (.int .i64 0)
  have Y2 := X2.other (a := ⟨w.heap.size + 1 + 1 + 1 + 1, 0, none⟩) (by simp <;> omega) (.int .i64 0)
  clear c0 x0 x1 x2 x3 x4 c4 f4 z4 X0 X1 X2 X3 X4
  generalize w1.setCell ⟨w.heap.size + 1 + 1 + 1 + 1, 0, none⟩ (.int .i64 0) = W2 at Y2 Y3 Y4 hB ⊢
  refine (holding_any _ r _).mono ?_
  rintro e W0 ⟨Bo, rfl, P0, PO, P1, hBo, hb⟩
  have X2 := Y2.later hb
  have X3 := Y3.later hb
  have X4 := Y4.later hb
  have hlt := Lib.hid Y4.lt
  have hs := hB.size
  have hB := hB.trans (hb.mono hs)
  have hC' := (hC.out.below hB).more hB.size
  have HW := Lib.hid hb.size
  generalize W2.heap.size = D0 at *
  clear hb hC Y2 Y3 Y4
  simp only [List.set_cons_zero] at X4
  go_wp2_with fail
  refine wpIn_wide.1 (wpIn_rangeFunc_ownH (n := 6) rfl (by omega) (gf := 83) (lb := #[.pointer (some ⟨D0, 0, none⟩), .pointer (some ⟨Bo, 0, none⟩), .pointer (some ⟨D0 + 1, 0, none⟩)]) rfl trivial (enters_of Try.func83 (by kernel_rfl) rfl)
    (hold_stops 5 64 code A c r D0 Bo (D0 + 1) W0 (hVe.out ▸ hC') hg (hVe.out ▸ P0) PO P1 hN) belowK_t (belowK_b (Nat.le_refl _)) (Below.refl _ _) (fun _ => rfl)
    (fun pre W => pre = [] ∧ Box W (w.heap.size + 1 + 1) [.int .i64 0] ∧ Box W (w.heap.size + 1 + 1 + 1) [.bool false] ∧ Box W (w.heap.size + 1 + 1 + 1 + 1) [.int .i64 0] ∧ Below w.heap.size w W ∧ W0.heap.size ≤ W.heap.size)
    (fun cc pre W => cc = .ret ∧ ∃ (U : Option Addr × Nat × Nat) (s : Int), pre = [(U, s)] ∧ Box W (w.heap.size + 1 + 1) [.int .i64 s] ∧ Box W (w.heap.size + 1 + 1 + 1) [.bool true] ∧ Box W (w.heap.size + 1 + 1 + 1 + 1) [.int .i64 0] ∧ Below w.heap.size w W)
    ?hI ?hIx ?h0
    (fun x a' W => ∃ D, W0.heap.size ≤ D ∧ Box W D [.slice x.1.1 x.1.2.1 x.1.2.2, .int .i64 x.2] ∧ a' = { tmps := #[.agg #[V], r.v, .pointer (some ⟨w.heap.size, 0, none⟩), .pointer (some ⟨w.heap.size + 1, 0, none⟩), .pointer (some ⟨w.heap.size + 1 + 1, 0, none⟩), .pointer (some ⟨w.heap.size + 1 + 1 + 1, 0, none⟩), .pointer (some ⟨w.heap.size + 1 + 1 + 1 + 1, 0, none⟩), .pointer (some ⟨D, 0, none⟩), .agg #[V], .int .i64 0, .int .i64 0, .bool false, undef, .agg #[V], r.v, .func (.func 83) #[] #[.pointer (some ⟨D0, 0, none⟩), .pointer (some ⟨Bo, 0, none⟩), .pointer (some ⟨D0 + 1, 0, none⟩)], .agg #[.slice x.1.1 x.1.2.1 x.1.2.2, .int .i64 x.2], undef, undef], defers := [] })
    ?hAx ?assign ?body ?done ?stop)
  case hI =>
    exact OwnFrom.and (fun _ _ _ _ hs _ _ => hs) (OwnFrom.and ((box_own _ _).from _) (OwnFrom.and ((box_own _ _).from _) (OwnFrom.and ((box_own _ _).from _) (OwnFrom.and (ownFrom_below (Nat.le_refl _) hB.size) (fun _ _ _ _ hs hg _ => Nat.le_trans hs hg.size)))))
  case hIx =>
    rintro cc pre X Y row ⟨rfl, U, s, rfl, b2, b3, b4, hb⟩ hg hr
    have hr' : ∀ k, row = some k → ∃ o : Obj, X.heap[k]? = some o ∧ o.isCells = false := fun k e => (hr k e).2
    exact ⟨rfl, U, s, rfl, box_own (β := Unit) _ _ () X Y row b2 hg hr', box_own (β := Unit) _ _ () X Y row b3 hg hr', box_own (β := Unit) _ _ () X Y row b4 hg hr',
      (ownFrom_below (β := Unit) (Nat.le_refl _) hB.size) () X Y row hb hg hr⟩
  case h0 => exact ⟨rfl, X2, X3, X4, hB, Nat.le_refl _⟩
  case hAx =>
    rintro x a' _ X Y row ⟨D, hD, hb, rfl⟩ hg hr
    exact ⟨D, hD, box_own (β := Unit) _ _ () X Y row hb hg (fun k e => (hr k e).2), rfl⟩
  case assign =>
    rintro l pre x W K ⟨rfl, b2, b3, b4, hb, hle⟩ hK
    gi_wp2
    exact hK _ _ ((KeepsOthers.alloc _ _).from _) ((Below.refl _ W).alloc hle _) ⟨trivial, b2.alloc _, b3.alloc _, b4.alloc _, hb.alloc hb.size _, by simp; omega⟩ ⟨W.heap.size, hle, Box.new W [.slice x.1.1 x.1.2.1 x.1.2.2, .int .i64 x.2] _, rfl⟩
  case body =>
    rintro l pre x a' W hl _ ⟨rfl, b2, b3, b4, hb, hle⟩ ⟨D, hD, bD, rfl⟩ hlen
    have d1 : W.cell? ⟨D, 1, none⟩ = some (.int .i64 x.2) := bD.cell 1
    have c2 := b2.cell 0
    have f2 := b2.free 0
    have z2 := b2.lt
    have c3 := b3.cell 0
    have f3 := b3.free 0
    have z3 := b3.lt
    have c4 := b4.cell 0
    have f4 := b4.free 0
    have z4 := b4.lt
    simp only [List.getElem?_cons_zero] at c2 c3 c4
    gi_wp2
    refine ⟨(((KeepsOthers.setCell _ _ _).trans (KeepsOthers.setCell _ _ _)).trans (KeepsOthers.setCell _ _ _)).from _, rfl, x.1, x.2, by simp,
      ((b2.set 0 _).other (by simp <;> omega) _).other (by simp <;> omega) _, ((b3.other (by simp <;> omega) _).set 0 _).other (by simp <;> omega) _, ((b4.other (by simp <;> omega) _).other (by simp <;> omega) _).set 0 _,
      ((hb.setCell (by simp <;> omega) _).setCell (by simp <;> omega) _).setCell (by simp <;> omega) _⟩
  case done =>
    rintro D xs W hD hS ⟨rfl, b2, b3, b4, hb, hle⟩ hK
    have hF := Lib.hid (firstT_held (by simpa using hS.symm))
    have hlt := hlt.out
    have hWle := HW.out
    have c2 := b2.cell 0
    have f2 := b2.free 0
    have z2 := b2.lt
    have c3 := b3.cell 0
    have f3 := b3.free 0
    have z3 := b3.lt
    have c4 := b4.cell 0
    have f4 := b4.free 0
    have z4 := b4.lt
    simp only [List.getElem?_cons_zero] at c2 c3 c4
    clear hS
    go_wp2
    have hKf := ((Below.heap_setCell _ ⟨w.heap.size + 1 + 1 + 1 + 1, 0, none⟩ (.int .i64 0) D (by simp <;> omega)).trans ((Below.heap_setCell _ ⟨w.heap.size + 1 + 1 + 1, 0, none⟩ (.bool false) D (by simp <;> omega)).trans ((Below.heap_setCell W ⟨w.heap.size + 1 + 1, 0, none⟩ (.int .i64 0) D (by simp <;> omega)).trans hK)))
    refine ⟨by simp, .inl ⟨_, _, rfl, run_takeDeferred hKf, ?_⟩⟩
    have e2 := ((((b2.set 0 (.int .i64 0)).other (a := ⟨w.heap.size + 1 + 1 + 1, 0, none⟩) (by simp <;> omega) (.bool false)).other (a := ⟨w.heap.size + 1 + 1 + 1 + 1, 0, none⟩) (by simp <;> omega) (.int .i64 0)).put (l := D) (by omega) (.deferred none)).cell 0
    have e3 := ((((b3.other (a := ⟨w.heap.size + 1 + 1, 0, none⟩) (by simp <;> omega) (.int .i64 0)).set 0 (.bool false)).other (a := ⟨w.heap.size + 1 + 1 + 1 + 1, 0, none⟩) (by simp <;> omega) (.int .i64 0)).put (l := D) (by omega) (.deferred none)).cell 0
    have e4 := ((((b4.other (a := ⟨w.heap.size + 1 + 1, 0, none⟩) (by simp <;> omega) (.int .i64 0)).other (a := ⟨w.heap.size + 1 + 1 + 1, 0, none⟩) (by simp <;> omega) (.bool false)).set 0 (.int .i64 0)).put (l := D) (by omega) (.deferred none)).cell 0
    simp only [List.getElem?_cons_zero, List.set_cons_zero] at e2 e3 e4
    refine ⟨_, (by simp [results, Try.results72, go_sem, e2, e3, e4] : _ = Result.ok (.tuple #[.int .i64 0, .bool false, .int .i64 0]) _), ?_⟩
    refine ⟨by rw [hF.out], below_put (((hb.setCell (by simp <;> omega) _).setCell (by simp <;> omega) _).setCell (by simp <;> omega) _) (Nat.le_trans hB.size hD) _⟩
  case stop =>
    rintro D cc pre W hD hpre ⟨rfl, U, s, rfl, b2, b3, b4, hb⟩ hK
    have hF := Lib.hid (firstT_head (by simpa using hpre))
    have hlt := hlt.out
    have hWle := HW.out
    refine wpIn_wide.2 ?_
    clear hpre
    go_wp2
    refine ⟨by simp, .inl ⟨_, _, rfl, run_takeDeferred hK, ?_⟩⟩
    have e2 := (b2.put (l := D) (by omega) (.deferred none)).cell 0
    have e3 := (b3.put (l := D) (by omega) (.deferred none)).cell 0
    have e4 := (b4.put (l := D) (by omega) (.deferred none)).cell 0
    simp only [List.getElem?_cons_zero] at e2 e3 e4
    refine ⟨_, (by simp [results, Try.results72, go_sem, e2, e3, e4] : _ = Result.ok (.tuple #[.int .i64 s, .bool true, .int .i64 0]) _), ?_⟩
    exact ⟨by rw [hF.out], below_put hb (Nat.le_trans hB.size hD) _⟩
theorem run_any (code : List Ln) (v : Value) (r : Vr) (w : World) (hC : CodeAt w w.heap.size v code) :
    Calls Try.prog 72 #[.agg #[v], r.v] w fun e w' => e = .returned (.tuple #[.int .i64 (runT code r).1, .bool (runT code r).2.1, .int .i64 (runT code r).2.2]) ∧ Below w.heap.size w w' := by
  rcases h : gateB code with _ | _
  · have e : runT code r = (0, false, 310) := by rw [runT, if_neg (by rw [h]; decide)]
    rw [e]
    exact run_bad code v r w hC (by rw [Hid, gateT, if_neg (by rw [h]; decide)])
  · have e : runT code r = ((firstT code r).1, (firstT code r).2, 0) := by rw [runT, if_pos h]
    rw [e]
    obtain ⟨A, c, rfl, _⟩ := hC.form
    exact run_good code A c r w hC (by rw [Hid, gateT, if_pos h]) h
end Go.Proofs.Ytancngachnpefaa
