/- sane of the law's file of chapter 35. (Printed by gen_ec.py.) No condition. -/
import Derived.Test.YtcjcjkomcolgeaaQDI
import Derived.Test.YtcjcjkomcolgeaaQDV
import Derived.Test.YtcjcjkomcolgeaaQDD
import Derived.Test.YtcjcjkomcolgeaaQDM
set_option linter.unusedVariables false
set_option linter.unusedSimpArgs false
namespace Go.Proofs.Ytcjcjkomcolgeaa
open Go.RowKit

theorem stepsAt_nil {w : World} : StepsAt w w.heap.size (.slice none 0 0) [] := ⟨fun _ => undef, fun _ => undef, ⟨none, 0, rfl, by simp [maxLen], fun i hi => absurd hi (Nat.not_lt_zero _)⟩, fun i s h => by cases h⟩
theorem stepsAt_row {w : World} {b m k : Nat} {n : Nat} (hn : n ≤ 2) {f a1 a2 : Int} {q1 q2 : Bool} (hx : Box w b (List.replicate n [Value.int .i64 f, .slice (some ⟨m, 0, none⟩) 2 2, .slice (some ⟨k, 0, none⟩) 2 2]).flatten) (hm : Box w m [.int .i64 a1, .int .i64 a2]) (hk : Box w k [.bool q1, .bool q2]) :
    StepsAt w w.heap.size (.slice (some ⟨b, 0, none⟩) n n) (List.replicate n ⟨f, [a1, a2], [q1, q2]⟩) := by
  refine ⟨fun _ => .slice (some ⟨m, 0, none⟩) 2 2, fun _ => .slice (some ⟨k, 0, none⟩) 2 2, ⟨_, n, by rw [List.length_replicate], by rw [List.length_replicate]; simp only [maxLen]; omega, fun i hi => ⟨b, 0, rfl, hx.lt, fun j hj => ?_⟩⟩, fun i s hs => ?_⟩
  · rw [List.length_replicate] at hi
    rw [hx.cell]
    have hn : n = 1 ∨ n = 2 := by omega
    rcases hn with rfl | rfl
    · obtain rfl : i = 0 := by omega
      rcases (show j = 0 ∨ j = 1 ∨ j = 2 by omega) with rfl | rfl | rfl <;> rfl
    · rcases (show i = 0 ∨ i = 1 by omega) with rfl | rfl <;> rcases (show j = 0 ∨ j = 1 ∨ j = 2 by omega) with rfl | rfl | rfl <;> rfl
  · have : s = ⟨f, [a1, a2], [q1, q2]⟩ := List.eq_of_mem_replicate (List.mem_of_getElem? hs)
    subst this
    refine ⟨⟨_, _, rfl, by simp [maxLen], fun i hi => ⟨m, 0, rfl, hm.lt, fun j hj => ?_⟩⟩, ⟨_, _, rfl, by simp [maxLen], fun i hi => ⟨k, 0, rfl, hk.lt, fun j hj => ?_⟩⟩⟩
    · rw [hm.cell]
      obtain rfl : j = 0 := by omega
      rcases (show i = 0 ∨ i = 1 by simp at hi; omega) with rfl | rfl <;> rfl
    · rw [hk.cell]
      obtain rfl : j = 0 := by omega
      rcases (show i = 0 ∨ i = 1 by simp at hi; omega) with rfl | rfl <;> rfl
theorem stsAt_two {w : World} {b : Nat} {s t : St} (hx : Box w b (s.cells ++ t.cells)) : StsAt w w.heap.size (.slice (some ⟨b, 0, none⟩) 2 2) [s, t] := by
  refine ⟨_, _, rfl, by simp [maxLen], fun i hi => ⟨b, 0, rfl, hx.lt, fun j hj => ?_⟩⟩
  rw [hx.cell]
  rcases (show i = 0 ∨ i = 1 by simp at hi; omega) with rfl | rfl <;> rcases (show j = 0 ∨ j = 1 ∨ j = 2 ∨ j = 3 ∨ j = 4 ∨ j = 5 by omega) with rfl | rfl | rfl | rfl | rfl | rfl <;> rfl
theorem cs_empty {w : World} : CsAt w w.heap.size (.slice none 0 0) (.slice none 0 0) (.slice none 0 0) ⟨[], [], []⟩ :=
  ⟨⟨none, 0, rfl, by simp [maxLen], fun i hi => absurd hi (Nat.not_lt_zero _)⟩, ⟨fun _ => undef, ⟨none, 0, rfl, by simp [maxLen], fun i hi => absurd hi (Nat.not_lt_zero _)⟩, fun i c h => by cases h⟩, ⟨fun _ => undef, ⟨none, 0, rfl, by simp [maxLen], fun i hi => absurd hi (Nat.not_lt_zero _)⟩, fun i c h => by cases h⟩⟩
theorem LitPls.to {w w' : World} {v : Value} {b N : Nat} {p q : Pl} (h : LitPls w b v p q) (hb : Below N w w') (hl : w.heap.size ≤ N) : LitPls w' b v p q := h.later (hb.mono hl)
set_option maxRecDepth 100000 in
set_option maxHeartbeats 40000000 in
theorem lSane_any (w : World) : Calls Try.prog 8 #[] w fun e w' => e = .returned (.bool true) ∧ Below w.heap.size w w' := by
  go_enter Try.func8, Try.ntmps8
  have hB := Below.refl w.heap.size w
  go_wp2_with fail
  refine (lSmall_any w).mono ?_
  rintro e w1 ⟨b1, Vp1, Vc1, Vb1, rfl, hlo1, k1, c1, r1, hb⟩
  have hB := hB.trans (hb.mono hB.size)
  clear hb
  have hv1 := k1.1
  subst hv1
  have ⟨bc1, _, _, hv1, _⟩ := c1
  subst hv1
  have ⟨bb1, _, _, hv1, _⟩ := r1
  subst hv1
  go_upto_region 2 with fail
  have hb := (Below.refl w1.heap.size w1).alloc (Nat.le_refl _) (.cells #[.slice (some ⟨b1, 0, none⟩) 2 2, .slice (some ⟨bc1, 0, none⟩) 2 2, .slice (some ⟨bb1, 0, none⟩) 2 2] 26)
  have hB := hB.trans (hb.mono hB.size)
  have k1 := k1.later hb
  have c1 := c1.later hb
  have r1 := r1.later hb
  have X1 := Box.new w1 [.slice (some ⟨b1, 0, none⟩) 2 2, .slice (some ⟨bc1, 0, none⟩) 2 2, .slice (some ⟨bb1, 0, none⟩) 2 2] 26
  clear hb
  generalize w1.alloc (.cells #[.slice (some ⟨b1, 0, none⟩) 2 2, .slice (some ⟨bc1, 0, none⟩) 2 2, .slice (some ⟨bb1, 0, none⟩) 2 2] 26) = w2 at hB k1 c1 r1 X1 ⊢
  generalize w1.heap.size = B1 at X1 ⊢
  have X1c0 : w2.cell? ⟨B1, 0, none⟩ = some (.slice (some ⟨b1, 0, none⟩) 2 2) := X1.cell 0
  have X1c1 : w2.cell? ⟨B1, 1, none⟩ = some (.slice (some ⟨bc1, 0, none⟩) 2 2) := X1.cell 1
  have X1c2 : w2.cell? ⟨B1, 2, none⟩ = some (.slice (some ⟨bb1, 0, none⟩) 2 2) := X1.cell 2
  have X1zz := X1.lt
  go_wp2_with fail
  refine (mCertified_is (x := smallC 3 2) (w := w2) (Lib.hid sm_cert) ⟨k1.at, c1.at, r1.at⟩).mono ?_
  rintro e w3 ⟨rfl, hb⟩
  have hB := hB.trans (hb.mono hB.size)
  have k1 := k1.later hb
  have c1 := c1.later hb
  have r1 := r1.later hb
  have X1 := X1.later hb
  clear hb
  clear X1c0 X1c1 X1c2 X1zz
  have X1c0 : w3.cell? ⟨B1, 0, none⟩ = some (.slice (some ⟨b1, 0, none⟩) 2 2) := X1.cell 0
  have X1c1 : w3.cell? ⟨B1, 1, none⟩ = some (.slice (some ⟨bc1, 0, none⟩) 2 2) := X1.cell 1
  have X1c2 : w3.cell? ⟨B1, 2, none⟩ = some (.slice (some ⟨bb1, 0, none⟩) 2 2) := X1.cell 2
  have X1zz := X1.lt
  go_wp2_with fail
  refine (mPlay_is (x := smallC 3 2) (l := []) (w := w3) (Lib.hid sm_start) ⟨k1.at, c1.at, r1.at⟩ stepsAt_nil).mono ?_
  rintro e w4 ⟨A5, n5, rfl, -, S5, hb⟩
  have hB := hB.trans (hb.mono hB.size)
  have k1 := k1.later hb
  have c1 := c1.later hb
  have r1 := r1.later hb
  have X1 := X1.later hb
  clear hb
  clear X1c0 X1c1 X1c2 X1zz
  go_upto_region 5 with fail
  have hb := ((((Below.refl w4.heap.size w4).alloc (by simp <;> omega) (.cells #[.int .i64 (-1), .int .i64 1] 3)).alloc (by simp <;> omega) (.cells #[.bool false, .bool true] 4)).alloc (by simp <;> omega) (.cells #[.int .i64 2, .slice (some ⟨w4.heap.size, 0, none⟩) 2 2, .slice (some ⟨w4.heap.size + 1, 0, none⟩) 2 2] 44))
  have hB := hB.trans (hb.mono hB.size)
  have k1 := k1.later hb
  have c1 := c1.later hb
  have r1 := r1.later hb
  have X1 := X1.later hb
  have S5 := (S5.below hb).more hb.size
  have XM := ((Box.newAt (w := w4) (n := w4.heap.size) [.int .i64 (-1), .int .i64 1] 3 (by simp)).alloc (.cells #[.bool false, .bool true] 4)).alloc (.cells #[.int .i64 2, .slice (some ⟨w4.heap.size, 0, none⟩) 2 2, .slice (some ⟨w4.heap.size + 1, 0, none⟩) 2 2] 44)
  have XK := (Box.newAt (w := (w4.alloc (.cells #[.int .i64 (-1), .int .i64 1] 3))) (n := w4.heap.size + 1) [.bool false, .bool true] 4 (by simp)).alloc (.cells #[.int .i64 2, .slice (some ⟨w4.heap.size, 0, none⟩) 2 2, .slice (some ⟨w4.heap.size + 1, 0, none⟩) 2 2] 44)
  have X8 := Box.newAt (w := ((w4.alloc (.cells #[.int .i64 (-1), .int .i64 1] 3)).alloc (.cells #[.bool false, .bool true] 4))) (n := w4.heap.size + 1 + 1) [.int .i64 2, .slice (some ⟨w4.heap.size, 0, none⟩) 2 2, .slice (some ⟨w4.heap.size + 1, 0, none⟩) 2 2] 44 (by simp)
  clear hb
  generalize (((w4.alloc (.cells #[.int .i64 (-1), .int .i64 1] 3)).alloc (.cells #[.bool false, .bool true] 4)).alloc (.cells #[.int .i64 2, .slice (some ⟨w4.heap.size, 0, none⟩) 2 2, .slice (some ⟨w4.heap.size + 1, 0, none⟩) 2 2] 44)) = w5 at hB k1 c1 r1 X1 S5 XM XK X8 ⊢
  generalize hq2 : w4.heap.size + 1 + 1 = B8 at XM XK X8 ⊢
  clear hq2
  generalize hq1 : w4.heap.size + 1 = K8 at XM XK X8 ⊢
  clear hq1
  generalize hq0 : w4.heap.size = M8 at XM XK X8 ⊢
  clear hq0
  have X1c0 : w5.cell? ⟨B1, 0, none⟩ = some (.slice (some ⟨b1, 0, none⟩) 2 2) := X1.cell 0
  have X1c1 : w5.cell? ⟨B1, 1, none⟩ = some (.slice (some ⟨bc1, 0, none⟩) 2 2) := X1.cell 1
  have X1c2 : w5.cell? ⟨B1, 2, none⟩ = some (.slice (some ⟨bb1, 0, none⟩) 2 2) := X1.cell 2
  have X1zz := X1.lt
  have X8c0 : w5.cell? ⟨B8, 0, none⟩ = some (.int .i64 2) := X8.cell 0
  have X8c1 : w5.cell? ⟨B8, 1, none⟩ = some (.slice (some ⟨M8, 0, none⟩) 2 2) := X8.cell 1
  have X8c2 : w5.cell? ⟨B8, 2, none⟩ = some (.slice (some ⟨K8, 0, none⟩) 2 2) := X8.cell 2
  have X8zz := X8.lt
  go_wp2_with fail
  clear X1c0 X1c1 X1c2 X1zz
  clear X8c0 X8c1 X8c2 X8zz
  have hb := (Below.refl w5.heap.size w5).alloc (Nat.le_refl _) (.cells #[.int .i64 2, .slice (some ⟨M8, 0, none⟩) 2 2, .slice (some ⟨K8, 0, none⟩) 2 2, .int .i64 2, .slice (some ⟨M8, 0, none⟩) 2 2, .slice (some ⟨K8, 0, none⟩) 2 2] 44)
  have hB := hB.trans (hb.mono hB.size)
  have k1 := k1.later hb
  have c1 := c1.later hb
  have r1 := r1.later hb
  have X1 := X1.later hb
  have S5 := (S5.below hb).more hb.size
  have XM := XM.later hb
  have XK := XK.later hb
  have X8 := X8.later hb
  have X37 := Box.new w5 [.int .i64 2, .slice (some ⟨M8, 0, none⟩) 2 2, .slice (some ⟨K8, 0, none⟩) 2 2, .int .i64 2, .slice (some ⟨M8, 0, none⟩) 2 2, .slice (some ⟨K8, 0, none⟩) 2 2] 44
  clear hb
  generalize w5.alloc (.cells #[.int .i64 2, .slice (some ⟨M8, 0, none⟩) 2 2, .slice (some ⟨K8, 0, none⟩) 2 2, .int .i64 2, .slice (some ⟨M8, 0, none⟩) 2 2, .slice (some ⟨K8, 0, none⟩) 2 2] 44) = w6 at hB k1 c1 r1 X1 S5 XM XK X8 X37 ⊢
  generalize w5.heap.size = B37 at X37 ⊢
  refine (mPlay_is (x := smallC 3 2) (l := [openS, openS]) (w := w6) (Lib.hid sm_two) ⟨k1.at, c1.at, r1.at⟩ (stepsAt_row (n := 2) (by omega) X37 XM XK)).mono ?_
  rintro e w7 ⟨A9, n9, rfl, -, S9, hb⟩
  have hB := hB.trans (hb.mono hB.size)
  have k1 := k1.later hb
  have c1 := c1.later hb
  have r1 := r1.later hb
  have X1 := X1.later hb
  have S5 := (S5.below hb).more hb.size
  have XM := XM.later hb
  have XK := XK.later hb
  have X8 := X8.later hb
  have X37 := X37.later hb
  clear hb
  have X1c0 : w7.cell? ⟨B1, 0, none⟩ = some (.slice (some ⟨b1, 0, none⟩) 2 2) := X1.cell 0
  have X1c1 : w7.cell? ⟨B1, 1, none⟩ = some (.slice (some ⟨bc1, 0, none⟩) 2 2) := X1.cell 1
  have X1c2 : w7.cell? ⟨B1, 2, none⟩ = some (.slice (some ⟨bb1, 0, none⟩) 2 2) := X1.cell 2
  have X1zz := X1.lt
  go_wp2_with fail
  refine (mCheck_is (x := smallC 3 2) (w := w7) (Lib.hid sm_check) ⟨k1.at, c1.at, r1.at⟩).mono ?_
  rintro e w8 ⟨rfl, hb⟩
  have hB := hB.trans (hb.mono hB.size)
  have k1 := k1.later hb
  have c1 := c1.later hb
  have r1 := r1.later hb
  have X1 := X1.later hb
  have S5 := (S5.below hb).more hb.size
  have XM := XM.later hb
  have XK := XK.later hb
  have X8 := X8.later hb
  have S9 := (S9.below hb).more hb.size
  clear hb
  clear X1c0 X1c1 X1c2 X1zz
  go_wp2_with fail
  refine (mCheck_is (w := w8) (Lib.hid sm_empty) cs_empty).mono ?_
  rintro e w9 ⟨rfl, hb⟩
  have hB := hB.trans (hb.mono hB.size)
  have k1 := k1.later hb
  have c1 := c1.later hb
  have r1 := r1.later hb
  have X1 := X1.later hb
  have S5 := (S5.below hb).more hb.size
  have XM := XM.later hb
  have XK := XK.later hb
  have X8 := X8.later hb
  have S9 := (S9.below hb).more hb.size
  clear hb
  go_wp2_with fail
  have hb := (Below.refl w9.heap.size w9).alloc (Nat.le_refl _) (.cells #[.int .i64 3, .int .i64 0, .int .i64 0, .int .i64 0, .int .i64 0, .int .i64 0, .int .i64 5, .int .i64 0, .int .i64 0, .int .i64 0, .int .i64 0, .int .i64 0] 51)
  have hB := hB.trans (hb.mono hB.size)
  have k1 := k1.later hb
  have c1 := c1.later hb
  have r1 := r1.later hb
  have X1 := X1.later hb
  have S5 := (S5.below hb).more hb.size
  have XM := XM.later hb
  have XK := XK.later hb
  have X8 := X8.later hb
  have S9 := (S9.below hb).more hb.size
  have X81 := Box.new w9 [.int .i64 3, .int .i64 0, .int .i64 0, .int .i64 0, .int .i64 0, .int .i64 0, .int .i64 5, .int .i64 0, .int .i64 0, .int .i64 0, .int .i64 0, .int .i64 0] 51
  clear hb
  generalize w9.alloc (.cells #[.int .i64 3, .int .i64 0, .int .i64 0, .int .i64 0, .int .i64 0, .int .i64 0, .int .i64 5, .int .i64 0, .int .i64 0, .int .i64 0, .int .i64 0, .int .i64 0] 51) = w10 at hB k1 c1 r1 X1 S5 XM XK X8 S9 X81 ⊢
  generalize w9.heap.size = B81 at X81 ⊢
  refine (rSame_refl _ _ _ w10 S5 (stsAt_two (s := ⟨3, 0, 0, 0, 0, 0⟩) (t := ⟨5, 0, 0, 0, 0, 0⟩) X81)).mono ?_
  rintro e w11 ⟨rfl, hb⟩
  have hB := hB.trans (hb.mono hB.size)
  have k1 := k1.later hb
  have c1 := c1.later hb
  have r1 := r1.later hb
  have X1 := X1.later hb
  have S5 := (S5.below hb).more hb.size
  have XM := XM.later hb
  have XK := XK.later hb
  have X8 := X8.later hb
  have S9 := (S9.below hb).more hb.size
  have X81 := X81.later hb
  clear hb
  go_wp2_with fail
  have hb := (Below.refl w11.heap.size w11).alloc (Nat.le_refl _) (.cells #[.int .i64 5, .int .i64 1, .int .i64 0, .int .i64 0, .int .i64 0, .int .i64 0, .int .i64 7, .int .i64 0, .int .i64 0, .int .i64 0, .int .i64 1, .int .i64 0] 51)
  have hB := hB.trans (hb.mono hB.size)
  have k1 := k1.later hb
  have c1 := c1.later hb
  have r1 := r1.later hb
  have X1 := X1.later hb
  have S5 := (S5.below hb).more hb.size
  have XM := XM.later hb
  have XK := XK.later hb
  have X8 := X8.later hb
  have S9 := (S9.below hb).more hb.size
  have X88 := Box.new w11 [.int .i64 5, .int .i64 1, .int .i64 0, .int .i64 0, .int .i64 0, .int .i64 0, .int .i64 7, .int .i64 0, .int .i64 0, .int .i64 0, .int .i64 1, .int .i64 0] 51
  clear hb
  generalize w11.alloc (.cells #[.int .i64 5, .int .i64 1, .int .i64 0, .int .i64 0, .int .i64 0, .int .i64 0, .int .i64 7, .int .i64 0, .int .i64 0, .int .i64 0, .int .i64 1, .int .i64 0] 51) = w12 at hB k1 c1 r1 X1 S5 XM XK X8 S9 X88 ⊢
  generalize w11.heap.size = B88 at X88 ⊢
  refine (rSame_refl _ _ _ w12 S9 (stsAt_two (s := ⟨5, 1, 0, 0, 0, 0⟩) (t := ⟨7, 0, 0, 0, 1, 0⟩) X88)).mono ?_
  rintro e w13 ⟨rfl, hb⟩
  have hB := hB.trans (hb.mono hB.size)
  have k1 := k1.later hb
  have c1 := c1.later hb
  have r1 := r1.later hb
  have X1 := X1.later hb
  have S5 := (S5.below hb).more hb.size
  have XM := XM.later hb
  have XK := XK.later hb
  have X8 := X8.later hb
  have S9 := (S9.below hb).more hb.size
  have X88 := X88.later hb
  clear hb
  clear S5 S9
  go_wp2_with fail
  have hs13 := hB.size
  have k1o := k1
  have c1o := c1
  have r1o := r1
  have X1o := X1
  have XMo := XM
  have XKo := XK
  have X8o := X8
  clear k1 c1 r1 X1 XM XK X8
  have hY := Below.refl w13.heap.size w13
  have hs2 : w13.heap.size ≤ w13.heap.size := Nat.le_refl _
  refine (lSmall_any w13).mono ?_
  rintro e w14 ⟨b2, Vp2, Vc2, Vb2, rfl, hlo2, k2, c2, r2, hb⟩
  have hB := hB.trans (hb.mono hB.size)
  have hY := hY.trans (hb.mono hY.size)
  clear hb
  have hv2 := k2.1
  subst hv2
  have ⟨bc2, _, _, hv2, _⟩ := c2
  subst hv2
  have ⟨bb2, _, _, hv2, _⟩ := r2
  subst hv2
  have hY02 := hlo2
  go_upto_region 11 with fail
  have hb := (Below.refl w14.heap.size w14).alloc (Nat.le_refl _) (.cells #[.slice (some ⟨b2, 0, none⟩) 2 2, .slice (some ⟨bc2, 0, none⟩) 2 2, .slice (some ⟨bb2, 0, none⟩) 2 2] 26)
  have hB := hB.trans (hb.mono hB.size)
  have hY := hY.trans (hb.mono hY.size)
  have k2 := k2.later hb
  have c2 := c2.later hb
  have r2 := r2.later hb
  have X12 := Box.new w14 [.slice (some ⟨b2, 0, none⟩) 2 2, .slice (some ⟨bc2, 0, none⟩) 2 2, .slice (some ⟨bb2, 0, none⟩) 2 2] 26
  clear hb
  generalize w14.alloc (.cells #[.slice (some ⟨b2, 0, none⟩) 2 2, .slice (some ⟨bc2, 0, none⟩) 2 2, .slice (some ⟨bb2, 0, none⟩) 2 2] 26) = w15 at hB hY k2 c2 r2 X12 ⊢
  generalize w14.heap.size = B12 at X12 ⊢
  have X12c0 : w15.cell? ⟨B12, 0, none⟩ = some (.slice (some ⟨b2, 0, none⟩) 2 2) := X12.cell 0
  have X12c1 : w15.cell? ⟨B12, 1, none⟩ = some (.slice (some ⟨bc2, 0, none⟩) 2 2) := X12.cell 1
  have X12c2 : w15.cell? ⟨B12, 2, none⟩ = some (.slice (some ⟨bb2, 0, none⟩) 2 2) := X12.cell 2
  have X12zz := X12.lt
  have p20 : w15.cell? ⟨b2, 20, none⟩ = some (.int .i64 2) := k2.2.cell 20
  have f20 := k2.2.free 20
  have z20 := k2.2.lt
  go_upto_region 12 with fail
  clear p20 f20 z20
  clear X12c0 X12c1 X12c2 X12zz
  have hne2 := X12.ne k2.2 (by simp)
  have hlY2 : w13.heap.size ≤ b2 := by have := hY02; omega
  have hY := (hY.setCell (p := ⟨b2, 20, none⟩) hlY2 (.int .i64 1))
  have hB := (hB.setCell (p := ⟨b2, 20, none⟩) (Nat.le_trans hs13 hlY2) (.int .i64 1))
  have X12 := (X12.other (a := ⟨b2, 20, none⟩) hne2 (.int .i64 1))
  have c2 := (c2.set k2.2 (by simp) 20 (.int .i64 1))
  have r2 := (r2.set k2.2 (by simp) 20 (.int .i64 1))
  have kx2 := (k2.2.set 20 (.int .i64 1))
  generalize w15.setCell ⟨b2, 20, none⟩ (.int .i64 1) = w16 at hY hB X12 c2 r2 kx2 ⊢
  have k2 : LitPls w16 b2 (.slice (some ⟨b2, 0, none⟩) 2 2) (upP 3) (downP 1) := ⟨rfl, kx2⟩
  clear kx2
  have X12c0 : w16.cell? ⟨B12, 0, none⟩ = some (.slice (some ⟨b2, 0, none⟩) 2 2) := X12.cell 0
  have X12c1 : w16.cell? ⟨B12, 1, none⟩ = some (.slice (some ⟨bc2, 0, none⟩) 2 2) := X12.cell 1
  have X12c2 : w16.cell? ⟨B12, 2, none⟩ = some (.slice (some ⟨bb2, 0, none⟩) 2 2) := X12.cell 2
  have X12zz := X12.lt
  go_wp2_with fail
  refine (mCertified_is (x := smallC 3 1) (w := w16) (Lib.hid sm_less) ⟨k2.at, c2.at, r2.at⟩).mono ?_
  rintro e w17 ⟨rfl, hb⟩
  have hB := hB.trans (hb.mono hB.size)
  have hY := hY.trans (hb.mono hY.size)
  have k2 := k2.later hb
  have c2 := c2.later hb
  have r2 := r2.later hb
  have X12 := X12.later hb
  clear hb
  clear X12c0 X12c1 X12c2 X12zz
  clear k2 c2 r2 X12
  go_wp2_with fail
  have hYs := hY.size
  refine (lSmall_any w17).mono ?_
  rintro e w18 ⟨b3, Vp3, Vc3, Vb3, rfl, hlo3, k3, c3, r3, hb⟩
  have hB := hB.trans (hb.mono hB.size)
  have hY := hY.trans (hb.mono hY.size)
  clear hb
  have hv3 := k3.1
  subst hv3
  have ⟨bc3, _, _, hv3, _⟩ := c3
  subst hv3
  have ⟨bb3, _, _, hv3, _⟩ := r3
  subst hv3
  have hY03 : w13.heap.size ≤ b3 := Nat.le_trans hYs hlo3
  go_upto_region 14 with fail
  have hb := (Below.refl w18.heap.size w18).alloc (Nat.le_refl _) (.cells #[.slice (some ⟨b3, 0, none⟩) 2 2, .slice (some ⟨bc3, 0, none⟩) 2 2, .slice (some ⟨bb3, 0, none⟩) 2 2] 26)
  have hB := hB.trans (hb.mono hB.size)
  have hY := hY.trans (hb.mono hY.size)
  have k3 := k3.later hb
  have c3 := c3.later hb
  have r3 := r3.later hb
  have X13 := Box.new w18 [.slice (some ⟨b3, 0, none⟩) 2 2, .slice (some ⟨bc3, 0, none⟩) 2 2, .slice (some ⟨bb3, 0, none⟩) 2 2] 26
  clear hb
  generalize w18.alloc (.cells #[.slice (some ⟨b3, 0, none⟩) 2 2, .slice (some ⟨bc3, 0, none⟩) 2 2, .slice (some ⟨bb3, 0, none⟩) 2 2] 26) = w19 at hB hY k3 c3 r3 X13 ⊢
  generalize w18.heap.size = B13 at X13 ⊢
  have X13c0 : w19.cell? ⟨B13, 0, none⟩ = some (.slice (some ⟨b3, 0, none⟩) 2 2) := X13.cell 0
  have X13c1 : w19.cell? ⟨B13, 1, none⟩ = some (.slice (some ⟨bc3, 0, none⟩) 2 2) := X13.cell 1
  have X13c2 : w19.cell? ⟨B13, 2, none⟩ = some (.slice (some ⟨bb3, 0, none⟩) 2 2) := X13.cell 2
  have X13zz := X13.lt
  have p20 : w19.cell? ⟨b3, 20, none⟩ = some (.int .i64 2) := k3.2.cell 20
  have f20 := k3.2.free 20
  have p3 : w19.cell? ⟨b3, 3, none⟩ = some (.int .i64 3) := k3.2.cell 3
  have f3 := k3.2.free 3
  have z20 := k3.2.lt
  go_region
  clear p20 f20 p3 f3 z20
  clear X13c0 X13c1 X13c2 X13zz
  have hne3 := X13.ne k3.2 (by simp)
  have hlY3 : w13.heap.size ≤ b3 := by have := hY03; omega
  have hY := ((hY.setCell (p := ⟨b3, 3, none⟩) hlY3 (.int .i64 8)).setCell (p := ⟨b3, 20, none⟩) hlY3 (.int .i64 1)).drew
  have hB := ((hB.setCell (p := ⟨b3, 3, none⟩) (Nat.le_trans hs13 hlY3) (.int .i64 8)).setCell (p := ⟨b3, 20, none⟩) (Nat.le_trans hs13 hlY3) (.int .i64 1)).drew
  have X13 := ((X13.other (a := ⟨b3, 3, none⟩) hne3 (.int .i64 8)).other (a := ⟨b3, 20, none⟩) hne3 (.int .i64 1)).drew
  have c3 := (((c3.set k3.2 (by simp) 3 (.int .i64 8)).set (k3.2.set 3 (.int .i64 8)) (by simp) 20 (.int .i64 1)).later ((Below.refl _ _).drew))
  have r3 := (((r3.set k3.2 (by simp) 3 (.int .i64 8)).set (k3.2.set 3 (.int .i64 8)) (by simp) 20 (.int .i64 1)).later ((Below.refl _ _).drew))
  have kx3 := ((k3.2.set 3 (.int .i64 8)).set 20 (.int .i64 1)).drew
  generalize ((w19.setCell ⟨b3, 3, none⟩ (.int .i64 8)).setCell ⟨b3, 20, none⟩ (.int .i64 1)).drew = w20 at hY hB X13 c3 r3 kx3 ⊢
  have k3 : LitPls w20 b3 (.slice (some ⟨b3, 0, none⟩) 2 2) (upP 8) (downP 1) := ⟨rfl, kx3⟩
  clear kx3
  have X13c0 : w20.cell? ⟨B13, 0, none⟩ = some (.slice (some ⟨b3, 0, none⟩) 2 2) := X13.cell 0
  have X13c1 : w20.cell? ⟨B13, 1, none⟩ = some (.slice (some ⟨bc3, 0, none⟩) 2 2) := X13.cell 1
  have X13c2 : w20.cell? ⟨B13, 2, none⟩ = some (.slice (some ⟨bb3, 0, none⟩) 2 2) := X13.cell 2
  have X13zz := X13.lt
  go_wp2_with fail
  refine (mPlay_is (x := smallC 8 1) (l := []) (w := w20) (Lib.hid sm_bad) ⟨k3.at, c3.at, r3.at⟩ stepsAt_nil).mono ?_
  rintro e w21 ⟨A15, n15, rfl, -, -, hb⟩
  have hB := hB.trans (hb.mono hB.size)
  have hY := hY.trans (hb.mono hY.size)
  have k3 := k3.later hb
  have c3 := c3.later hb
  have r3 := r3.later hb
  have X13 := X13.later hb
  clear hb
  clear X13c0 X13c1 X13c2 X13zz
  have X8 := X8o.later hY
  have XM := XMo.later hY
  have XK := XKo.later hY
  have X1 := X1o.later hY
  have k1 := k1o.later hY
  have c1 := c1o.later hY
  have r1 := r1o.later hY
  have X13c0 : w21.cell? ⟨B13, 0, none⟩ = some (.slice (some ⟨b3, 0, none⟩) 2 2) := X13.cell 0
  have X13c1 : w21.cell? ⟨B13, 1, none⟩ = some (.slice (some ⟨bc3, 0, none⟩) 2 2) := X13.cell 1
  have X13c2 : w21.cell? ⟨B13, 2, none⟩ = some (.slice (some ⟨bb3, 0, none⟩) 2 2) := X13.cell 2
  have X13zz := X13.lt
  have X8c0 : w21.cell? ⟨B8, 0, none⟩ = some (.int .i64 2) := X8.cell 0
  have X8c1 : w21.cell? ⟨B8, 1, none⟩ = some (.slice (some ⟨M8, 0, none⟩) 2 2) := X8.cell 1
  have X8c2 : w21.cell? ⟨B8, 2, none⟩ = some (.slice (some ⟨K8, 0, none⟩) 2 2) := X8.cell 2
  have X8zz := X8.lt
  go_wp2_with fail
  clear X13c0 X13c1 X13c2 X13zz
  clear X8c0 X8c1 X8c2 X8zz
  have hb := (Below.refl w21.heap.size w21).alloc (Nat.le_refl _) (.cells #[.int .i64 2, .slice (some ⟨M8, 0, none⟩) 2 2, .slice (some ⟨K8, 0, none⟩) 2 2] 44)
  have hB := hB.trans (hb.mono hB.size)
  have hY := hY.trans (hb.mono hY.size)
  have k3 := k3.later hb
  have c3 := c3.later hb
  have r3 := r3.later hb
  have X13 := X13.later hb
  have X8 := X8.later hb
  have XM := XM.later hb
  have XK := XK.later hb
  have X1 := X1.later hb
  have k1 := k1.later hb
  have c1 := c1.later hb
  have r1 := r1.later hb
  have X121 := Box.new w21 [.int .i64 2, .slice (some ⟨M8, 0, none⟩) 2 2, .slice (some ⟨K8, 0, none⟩) 2 2] 44
  clear hb
  generalize w21.alloc (.cells #[.int .i64 2, .slice (some ⟨M8, 0, none⟩) 2 2, .slice (some ⟨K8, 0, none⟩) 2 2] 44) = w22 at hB hY k3 c3 r3 X13 X8 XM XK X1 k1 c1 r1 X121 ⊢
  generalize w21.heap.size = B121 at X121 ⊢
  refine (mPlay_is (x := smallC 8 1) (l := [openS]) (w := w22) (Lib.hid sm_fed) ⟨k3.at, c3.at, r3.at⟩ (stepsAt_row (n := 1) (by omega) X121 XM XK)).mono ?_
  rintro e w23 ⟨A16, n16, rfl, -, -, hb⟩
  have hB := hB.trans (hb.mono hB.size)
  have hY := hY.trans (hb.mono hY.size)
  have k3 := k3.later hb
  have c3 := c3.later hb
  have r3 := r3.later hb
  have X13 := X13.later hb
  have X8 := X8.later hb
  have XM := XM.later hb
  have XK := XK.later hb
  have X1 := X1.later hb
  have k1 := k1.later hb
  have c1 := c1.later hb
  have r1 := r1.later hb
  have X121 := X121.later hb
  clear hb
  have X1c0 : w23.cell? ⟨B1, 0, none⟩ = some (.slice (some ⟨b1, 0, none⟩) 2 2) := X1.cell 0
  have X1c1 : w23.cell? ⟨B1, 1, none⟩ = some (.slice (some ⟨bc1, 0, none⟩) 2 2) := X1.cell 1
  have X1c2 : w23.cell? ⟨B1, 2, none⟩ = some (.slice (some ⟨bb1, 0, none⟩) 2 2) := X1.cell 2
  have X1zz := X1.lt
  go_wp2_with fail
  clear X1c0 X1c1 X1c2 X1zz
  have hb := ((((Below.refl w23.heap.size w23).alloc (by simp <;> omega) (.cells #[.int .i64 (-1), .int .i64 (-1)] 3)).alloc (by simp <;> omega) (.cells #[.bool false, .bool false] 4)).alloc (by simp <;> omega) (.cells #[.int .i64 3, .slice (some ⟨w23.heap.size, 0, none⟩) 2 2, .slice (some ⟨w23.heap.size + 1, 0, none⟩) 2 2] 44))
  have hB := hB.trans (hb.mono hB.size)
  have hY := hY.trans (hb.mono hY.size)
  have X1 := X1.later hb
  have k1 := k1.later hb
  have c1 := c1.later hb
  have r1 := r1.later hb
  have XM7 := ((Box.newAt (w := w23) (n := w23.heap.size) [.int .i64 (-1), .int .i64 (-1)] 3 (by simp)).alloc (.cells #[.bool false, .bool false] 4)).alloc (.cells #[.int .i64 3, .slice (some ⟨w23.heap.size, 0, none⟩) 2 2, .slice (some ⟨w23.heap.size + 1, 0, none⟩) 2 2] 44)
  have XK7 := (Box.newAt (w := (w23.alloc (.cells #[.int .i64 (-1), .int .i64 (-1)] 3))) (n := w23.heap.size + 1) [.bool false, .bool false] 4 (by simp)).alloc (.cells #[.int .i64 3, .slice (some ⟨w23.heap.size, 0, none⟩) 2 2, .slice (some ⟨w23.heap.size + 1, 0, none⟩) 2 2] 44)
  have X131 := Box.newAt (w := ((w23.alloc (.cells #[.int .i64 (-1), .int .i64 (-1)] 3)).alloc (.cells #[.bool false, .bool false] 4))) (n := w23.heap.size + 1 + 1) [.int .i64 3, .slice (some ⟨w23.heap.size, 0, none⟩) 2 2, .slice (some ⟨w23.heap.size + 1, 0, none⟩) 2 2] 44 (by simp)
  clear hb
  generalize (((w23.alloc (.cells #[.int .i64 (-1), .int .i64 (-1)] 3)).alloc (.cells #[.bool false, .bool false] 4)).alloc (.cells #[.int .i64 3, .slice (some ⟨w23.heap.size, 0, none⟩) 2 2, .slice (some ⟨w23.heap.size + 1, 0, none⟩) 2 2] 44)) = w24 at hB hY X1 k1 c1 r1 XM7 XK7 X131 ⊢
  generalize hq2 : w23.heap.size + 1 + 1 = B131 at XM7 XK7 X131 ⊢
  clear hq2
  generalize hq1 : w23.heap.size + 1 = K7 at XM7 XK7 X131 ⊢
  clear hq1
  generalize hq0 : w23.heap.size = M7 at XM7 XK7 X131 ⊢
  clear hq0
  refine (mPlay_is (x := smallC 3 2) (l := [tooS]) (w := w24) (Lib.hid sm_arg) ⟨k1.at, c1.at, r1.at⟩ (stepsAt_row (n := 1) (by omega) X131 XM7 XK7)).mono ?_
  rintro e w25 ⟨A17, n17, rfl, -, -, hb⟩
  have hB := hB.trans (hb.mono hB.size)
  have hY := hY.trans (hb.mono hY.size)
  have X1 := X1.later hb
  have k1 := k1.later hb
  have c1 := c1.later hb
  have r1 := r1.later hb
  have XM7 := XM7.later hb
  have XK7 := XK7.later hb
  have X131 := X131.later hb
  clear hb
  go_wp2
  go_ret
  exact ⟨rfl, hB⟩
end Go.Proofs.Ytcjcjkomcolgeaa
