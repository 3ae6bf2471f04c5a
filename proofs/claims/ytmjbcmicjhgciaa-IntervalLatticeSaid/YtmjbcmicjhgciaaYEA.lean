/-
  IntervalLattice: the walk. (Printed by gen_lattice.py.)
-/
import Derived.Test.YtmjbcmicjhgciaaZG
import Derived.Test.YtmjbcmicjhgciaaZT
import Derived.Test.YtmjbcmicjhgciaaZS
import Derived.BigQuiet
import Derived.Deep.DeepCutAuto
import Derived.Deep.CutBlock
namespace Go.Proofs.Ytmjbcmicjhgciaa
open Go.RowKit

set_option maxRecDepth 100000 in
set_option maxHeartbeats 4000000 in
theorem lat_no (a b c d p q x : Int) (w : World) (H1 : Hid (meetT a b c d = (0, 0, false, 130))) (H2 : Hid (hul2T a b c d = (0, 0, 130))) : Calls Try.prog 11 #[rng a b, rng c d, rng p q, .int .i64 x] w fun e w' => e = .returned (.bool true) ∧ Below w.heap.size w w' := by
  go_enter Try.func11, Try.ntmps11
  go_wp2_with fail
  refine (sane_any _).mono ?_
  rintro e w1 ⟨rfl, hb⟩
  have X0 := ((((Box.newAt (n := w.heap.size) [.int .i64 a, .int .i64 b] 23 (by simp)).alloc _).alloc _)).later hb
  have X1 := (((Box.newAt (n := w.heap.size + 1) [.int .i64 c, .int .i64 d] 23 (by simp)).alloc _)).later hb
  have X2 := ((Box.newAt (n := w.heap.size + 1 + 1) [.int .i64 p, .int .i64 q] 23 (by simp))).later hb
  have hB : Below w.heap.size w w1 := (((((Below.refl w.heap.size w).alloc (by simp <;> omega) _).alloc (by simp <;> omega) _).alloc (by simp <;> omega) _)).trans (hb.mono (by simp <;> omega))
  clear hb
  have X0c0 : w1.cell? ⟨w.heap.size, 0, none⟩ = some (.int .i64 a) := X0.cell 0
  have X0f0 : w1.frozen? ⟨w.heap.size, 0, none⟩ = false := X0.free 0
  have X0c1 : w1.cell? ⟨w.heap.size, 1, none⟩ = some (.int .i64 b) := X0.cell 1
  have X0f1 : w1.frozen? ⟨w.heap.size, 1, none⟩ = false := X0.free 1
  have X0z : w.heap.size < w1.heap.size := X0.lt
  have X1c0 : w1.cell? ⟨w.heap.size + 1, 0, none⟩ = some (.int .i64 c) := X1.cell 0
  have X1f0 : w1.frozen? ⟨w.heap.size + 1, 0, none⟩ = false := X1.free 0
  have X1c1 : w1.cell? ⟨w.heap.size + 1, 1, none⟩ = some (.int .i64 d) := X1.cell 1
  have X1f1 : w1.frozen? ⟨w.heap.size + 1, 1, none⟩ = false := X1.free 1
  have X1z : w.heap.size + 1 < w1.heap.size := X1.lt
  go_wp2_with fail
  refine ((Meet_any a b c d _).mono fun _ _ => RetM.const H1.out).mono ?_
  rintro e w2 ⟨rfl, hb⟩
  clear X0c0 X0f0 X0c1 X0f1 X0z X1c0 X1f0 X1c1 X1f1 X1z
  have X0 := X0.later hb
  have X1 := X1.later hb
  have X2 := X2.later hb
  have hB := hB.trans (hb.mono hB.size)
  clear hb
  have X0c0 : w2.cell? ⟨w.heap.size, 0, none⟩ = some (.int .i64 a) := X0.cell 0
  have X0f0 : w2.frozen? ⟨w.heap.size, 0, none⟩ = false := X0.free 0
  have X0c1 : w2.cell? ⟨w.heap.size, 1, none⟩ = some (.int .i64 b) := X0.cell 1
  have X0f1 : w2.frozen? ⟨w.heap.size, 1, none⟩ = false := X0.free 1
  have X0z : w.heap.size < w2.heap.size := X0.lt
  have X1c0 : w2.cell? ⟨w.heap.size + 1, 0, none⟩ = some (.int .i64 c) := X1.cell 0
  have X1f0 : w2.frozen? ⟨w.heap.size + 1, 0, none⟩ = false := X1.free 0
  have X1c1 : w2.cell? ⟨w.heap.size + 1, 1, none⟩ = some (.int .i64 d) := X1.cell 1
  have X1f1 : w2.frozen? ⟨w.heap.size + 1, 1, none⟩ = false := X1.free 1
  have X1z : w.heap.size + 1 < w2.heap.size := X1.lt
  go_wp2_with fail
  refine ((Hull_any a b c d _).mono fun _ _ => Ret.at H2).mono ?_
  rintro e w3 ⟨rfl, hb⟩
  clear X0c0 X0f0 X0c1 X0f1 X0z X1c0 X1f0 X1c1 X1f1 X1z
  have X3 := ((Box.newAt (w := w2) (n := w2.heap.size) [.int .i64 0, .int .i64 0] 23 (by simp))).later hb
  have X0 := ((X0.alloc (.cells #[.int .i64 0, .int .i64 0] 23))).later hb
  have X1 := ((X1.alloc (.cells #[.int .i64 0, .int .i64 0] 23))).later hb
  have X2 := ((X2.alloc (.cells #[.int .i64 0, .int .i64 0] 23))).later hb
  have hB := (hB.alloc hB.size (.cells #[.int .i64 0, .int .i64 0] 23)).trans (hb.mono (by have := hB.size; simp; omega))
  clear hb
  have X3c0 : w3.cell? ⟨w2.heap.size, 0, none⟩ = some (.int .i64 0) := X3.cell 0
  have X3f0 : w3.frozen? ⟨w2.heap.size, 0, none⟩ = false := X3.free 0
  have X3c1 : w3.cell? ⟨w2.heap.size, 1, none⟩ = some (.int .i64 0) := X3.cell 1
  have X3f1 : w3.frozen? ⟨w2.heap.size, 1, none⟩ = false := X3.free 1
  have X3z : w2.heap.size < w3.heap.size := X3.lt
  go_wp2
  go_ret
  exact ⟨rfl, (hB.alloc hB.size _)⟩

set_option maxRecDepth 100000 in
set_option maxHeartbeats 4000000 in
theorem lat_ok_bad (a b c d p q x u v lo hi : Int) (w : World) (H1 : Hid (meetT a b c d = (lo, hi, true, 0))) (H2 : Hid (hul2T a b c d = (u, v, 0))) (_k1 : lo ≤ hi) (_k2 : decide (hi < lo) = false) (C : Hid ((holB lo hi x = true ∧ holB a b x = true ∧ holB c d x = true) ∨ (holB lo hi x = false ∧ holB a b x = false) ∨ (holB lo hi x = false ∧ holB a b x = true ∧ holB c d x = false))) (H3 : Hid (insT a b u v = (true, 0))) (H4 : Hid (insT c d u v = (true, 0))) (I1 : Hid (insT a b p q = (false, 130))) (I2 : Hid (insT c d p q = (false, 130))) (I3 : Hid (insT u v p q = (false, 130)))  : Calls Try.prog 11 #[rng a b, rng c d, rng p q, .int .i64 x] w fun e w' => e = .returned (.bool true) ∧ Below w.heap.size w w' := by
  go_enter Try.func11, Try.ntmps11
  go_wp2_with fail
  refine (sane_any _).mono ?_
  rintro e w1 ⟨rfl, hb⟩
  have X0 := ((((Box.newAt (n := w.heap.size) [.int .i64 a, .int .i64 b] 23 (by simp)).alloc _).alloc _)).later hb
  have X1 := (((Box.newAt (n := w.heap.size + 1) [.int .i64 c, .int .i64 d] 23 (by simp)).alloc _)).later hb
  have X2 := ((Box.newAt (n := w.heap.size + 1 + 1) [.int .i64 p, .int .i64 q] 23 (by simp))).later hb
  have hB : Below w.heap.size w w1 := (((((Below.refl w.heap.size w).alloc (by simp <;> omega) _).alloc (by simp <;> omega) _).alloc (by simp <;> omega) _)).trans (hb.mono (by simp <;> omega))
  clear hb
  have X0c0 : w1.cell? ⟨w.heap.size, 0, none⟩ = some (.int .i64 a) := X0.cell 0
  have X0f0 : w1.frozen? ⟨w.heap.size, 0, none⟩ = false := X0.free 0
  have X0c1 : w1.cell? ⟨w.heap.size, 1, none⟩ = some (.int .i64 b) := X0.cell 1
  have X0f1 : w1.frozen? ⟨w.heap.size, 1, none⟩ = false := X0.free 1
  have X0z : w.heap.size < w1.heap.size := X0.lt
  have X1c0 : w1.cell? ⟨w.heap.size + 1, 0, none⟩ = some (.int .i64 c) := X1.cell 0
  have X1f0 : w1.frozen? ⟨w.heap.size + 1, 0, none⟩ = false := X1.free 0
  have X1c1 : w1.cell? ⟨w.heap.size + 1, 1, none⟩ = some (.int .i64 d) := X1.cell 1
  have X1f1 : w1.frozen? ⟨w.heap.size + 1, 1, none⟩ = false := X1.free 1
  have X1z : w.heap.size + 1 < w1.heap.size := X1.lt
  go_wp2_with fail
  refine ((Meet_any a b c d _).mono fun _ _ => RetM.const H1.out).mono ?_
  rintro e w2 ⟨rfl, hb⟩
  clear X0c0 X0f0 X0c1 X0f1 X0z X1c0 X1f0 X1c1 X1f1 X1z
  have X0 := X0.later hb
  have X1 := X1.later hb
  have X2 := X2.later hb
  have hB := hB.trans (hb.mono hB.size)
  clear hb
  have X0c0 : w2.cell? ⟨w.heap.size, 0, none⟩ = some (.int .i64 a) := X0.cell 0
  have X0f0 : w2.frozen? ⟨w.heap.size, 0, none⟩ = false := X0.free 0
  have X0c1 : w2.cell? ⟨w.heap.size, 1, none⟩ = some (.int .i64 b) := X0.cell 1
  have X0f1 : w2.frozen? ⟨w.heap.size, 1, none⟩ = false := X0.free 1
  have X0z : w.heap.size < w2.heap.size := X0.lt
  have X1c0 : w2.cell? ⟨w.heap.size + 1, 0, none⟩ = some (.int .i64 c) := X1.cell 0
  have X1f0 : w2.frozen? ⟨w.heap.size + 1, 0, none⟩ = false := X1.free 0
  have X1c1 : w2.cell? ⟨w.heap.size + 1, 1, none⟩ = some (.int .i64 d) := X1.cell 1
  have X1f1 : w2.frozen? ⟨w.heap.size + 1, 1, none⟩ = false := X1.free 1
  have X1z : w.heap.size + 1 < w2.heap.size := X1.lt
  go_wp2_with fail
  refine ((Hull_any a b c d _).mono fun _ _ => Ret.at H2).mono ?_
  rintro e w3 ⟨rfl, hb⟩
  clear X0c0 X0f0 X0c1 X0f1 X0z X1c0 X1f0 X1c1 X1f1 X1z
  have X3 := ((Box.newAt (w := w2) (n := w2.heap.size) [.int .i64 lo, .int .i64 hi] 23 (by simp))).later hb
  have X0 := ((X0.alloc (.cells #[.int .i64 lo, .int .i64 hi] 23))).later hb
  have X1 := ((X1.alloc (.cells #[.int .i64 lo, .int .i64 hi] 23))).later hb
  have X2 := ((X2.alloc (.cells #[.int .i64 lo, .int .i64 hi] 23))).later hb
  have hB := (hB.alloc hB.size (.cells #[.int .i64 lo, .int .i64 hi] 23)).trans (hb.mono (by have := hB.size; simp; omega))
  clear hb
  have X3c0 : w3.cell? ⟨w2.heap.size, 0, none⟩ = some (.int .i64 lo) := X3.cell 0
  have X3f0 : w3.frozen? ⟨w2.heap.size, 0, none⟩ = false := X3.free 0
  have X3c1 : w3.cell? ⟨w2.heap.size, 1, none⟩ = some (.int .i64 hi) := X3.cell 1
  have X3f1 : w3.frozen? ⟨w2.heap.size, 1, none⟩ = false := X3.free 1
  have X3z : w2.heap.size < w3.heap.size := X3.lt
  go_upto_region 7 with fail
  clear X3c0 X3f0 X3c1 X3f1 X3z
  have X0 := (X0.alloc (.cells #[.int .i64 u, .int .i64 v] 23))
  have X1 := (X1.alloc (.cells #[.int .i64 u, .int .i64 v] 23))
  have X2 := (X2.alloc (.cells #[.int .i64 u, .int .i64 v] 23))
  have X3 := (X3.alloc (.cells #[.int .i64 u, .int .i64 v] 23))
  have X4 := (Box.newAt (w := w3) (n := w3.heap.size) [.int .i64 u, .int .i64 v] 23 (by simp))
  have hB := (hB.alloc hB.size (.cells #[.int .i64 u, .int .i64 v] 23))
  generalize (w3.alloc (.cells #[.int .i64 u, .int .i64 v] 23)) = w4 at hB X0 X1 X2 X3 X4 ⊢
  go_cut [95] (fun s wx => s = .bool false ∧ Below w4.heap.size w4 wx)
  case first =>
    rcases C.out with ⟨h1, h2, h3⟩ | ⟨h1, h2⟩ | ⟨h1, h2, h3⟩
    · skip
      have H1 := Lib.hid h1
      have H2 := Lib.hid h2
      have H3 := Lib.hid h3
      clear h1 h2 h3
      have hW : Below w4.heap.size w4 w4 := Below.refl _ _
      have X0l0 : ∀ y : Later w4, y.w.cell? ⟨w.heap.size, 0, none⟩ = some (.int .i64 a) := Later.cell (X0.cell 0) X0.lt
      have X0l1 : ∀ y : Later w4, y.w.cell? ⟨w.heap.size, 1, none⟩ = some (.int .i64 b) := Later.cell (X0.cell 1) X0.lt
      have X1l0 : ∀ y : Later w4, y.w.cell? ⟨w.heap.size + 1, 0, none⟩ = some (.int .i64 c) := Later.cell (X1.cell 0) X1.lt
      have X1l1 : ∀ y : Later w4, y.w.cell? ⟨w.heap.size + 1, 1, none⟩ = some (.int .i64 d) := Later.cell (X1.cell 1) X1.lt
      have X3l0 : ∀ y : Later w4, y.w.cell? ⟨w2.heap.size, 0, none⟩ = some (.int .i64 lo) := Later.cell (X3.cell 0) X3.lt
      have X3l1 : ∀ y : Later w4, y.w.cell? ⟨w2.heap.size, 1, none⟩ = some (.int .i64 hi) := Later.cell (X3.cell 1) X3.lt
      refine wp_region_later (by kernel_rfl) (by kernel_rfl) ?_
      repeat (go_big_quiet_step ((first | (go_at_call 33; with_reducible exact Later.call _ (holds_at H1.out _)) | (go_at_call 33; with_reducible exact Later.call _ (holds_at H2.out _)) | (go_at_call 33; with_reducible exact Later.call _ (holds_at H3.out _)))))
      refine wpQuiet_nil ?_
      intro _ hw'
      obtain ⟨yq, hw''⟩ := hw'
      subst hw''
      clear X0l0 X0l1 X1l0 X1l1 X3l0 X3l1
      obtain ⟨w5, hb⟩ : ∃ z, z = yq.w ∧ Below w4.heap.size w4 z := ⟨_, rfl, yq.below⟩
      obtain ⟨hz, hb⟩ := hb
      rw [← hz]
      clear hz
      have hX := hb
      have X0 := X0.later hb
      have X1 := X1.later hb
      have X2 := X2.later hb
      have X3 := X3.later hb
      have X4 := X4.later hb
      have hB := hB.trans (hb.mono hB.size)
      clear hb
      go_wp2_with fail
      go_meet
      exact ⟨rfl, hX⟩
    · skip
      have H1 := Lib.hid h1
      have H2 := Lib.hid h2
      clear h1 h2
      have hW : Below w4.heap.size w4 w4 := Below.refl _ _
      have X0l0 : ∀ y : Later w4, y.w.cell? ⟨w.heap.size, 0, none⟩ = some (.int .i64 a) := Later.cell (X0.cell 0) X0.lt
      have X0l1 : ∀ y : Later w4, y.w.cell? ⟨w.heap.size, 1, none⟩ = some (.int .i64 b) := Later.cell (X0.cell 1) X0.lt
      have X1l0 : ∀ y : Later w4, y.w.cell? ⟨w.heap.size + 1, 0, none⟩ = some (.int .i64 c) := Later.cell (X1.cell 0) X1.lt
      have X1l1 : ∀ y : Later w4, y.w.cell? ⟨w.heap.size + 1, 1, none⟩ = some (.int .i64 d) := Later.cell (X1.cell 1) X1.lt
      have X3l0 : ∀ y : Later w4, y.w.cell? ⟨w2.heap.size, 0, none⟩ = some (.int .i64 lo) := Later.cell (X3.cell 0) X3.lt
      have X3l1 : ∀ y : Later w4, y.w.cell? ⟨w2.heap.size, 1, none⟩ = some (.int .i64 hi) := Later.cell (X3.cell 1) X3.lt
      refine wp_region_later (by kernel_rfl) (by kernel_rfl) ?_
      repeat (go_big_quiet_step ((first | (go_at_call 33; with_reducible exact Later.call _ (holds_at H1.out _)) | (go_at_call 33; with_reducible exact Later.call _ (holds_at H2.out _)))))
      refine wpQuiet_nil ?_
      intro _ hw'
      obtain ⟨yq, hw''⟩ := hw'
      subst hw''
      clear X0l0 X0l1 X1l0 X1l1 X3l0 X3l1
      obtain ⟨w5, hb⟩ : ∃ z, z = yq.w ∧ Below w4.heap.size w4 z := ⟨_, rfl, yq.below⟩
      obtain ⟨hz, hb⟩ := hb
      rw [← hz]
      clear hz
      have hX := hb
      have X0 := X0.later hb
      have X1 := X1.later hb
      have X2 := X2.later hb
      have X3 := X3.later hb
      have X4 := X4.later hb
      have hB := hB.trans (hb.mono hB.size)
      clear hb
      go_wp2_with fail
      go_meet
      exact ⟨rfl, hX⟩
    · skip
      have H1 := Lib.hid h1
      have H2 := Lib.hid h2
      have H3 := Lib.hid h3
      clear h1 h2 h3
      have hW : Below w4.heap.size w4 w4 := Below.refl _ _
      have X0l0 : ∀ y : Later w4, y.w.cell? ⟨w.heap.size, 0, none⟩ = some (.int .i64 a) := Later.cell (X0.cell 0) X0.lt
      have X0l1 : ∀ y : Later w4, y.w.cell? ⟨w.heap.size, 1, none⟩ = some (.int .i64 b) := Later.cell (X0.cell 1) X0.lt
      have X1l0 : ∀ y : Later w4, y.w.cell? ⟨w.heap.size + 1, 0, none⟩ = some (.int .i64 c) := Later.cell (X1.cell 0) X1.lt
      have X1l1 : ∀ y : Later w4, y.w.cell? ⟨w.heap.size + 1, 1, none⟩ = some (.int .i64 d) := Later.cell (X1.cell 1) X1.lt
      have X3l0 : ∀ y : Later w4, y.w.cell? ⟨w2.heap.size, 0, none⟩ = some (.int .i64 lo) := Later.cell (X3.cell 0) X3.lt
      have X3l1 : ∀ y : Later w4, y.w.cell? ⟨w2.heap.size, 1, none⟩ = some (.int .i64 hi) := Later.cell (X3.cell 1) X3.lt
      refine wp_region_later (by kernel_rfl) (by kernel_rfl) ?_
      repeat (go_big_quiet_step ((first | (go_at_call 33; with_reducible exact Later.call _ (holds_at H1.out _)) | (go_at_call 33; with_reducible exact Later.call _ (holds_at H2.out _)) | (go_at_call 33; with_reducible exact Later.call _ (holds_at H3.out _)))))
      refine wpQuiet_nil ?_
      intro _ hw'
      obtain ⟨yq, hw''⟩ := hw'
      subst hw''
      clear X0l0 X0l1 X1l0 X1l1 X3l0 X3l1
      obtain ⟨w5, hb⟩ : ∃ z, z = yq.w ∧ Below w4.heap.size w4 z := ⟨_, rfl, yq.below⟩
      obtain ⟨hz, hb⟩ := hb
      rw [← hz]
      clear hz
      have hX := hb
      have X0 := X0.later hb
      have X1 := X1.later hb
      have X2 := X2.later hb
      have X3 := X3.later hb
      have X4 := X4.later hb
      have hB := hB.trans (hb.mono hB.size)
      clear hb
      go_wp2_with fail
      go_meet
      exact ⟨rfl, hX⟩
  case rest =>
    obtain ⟨rfl, hb⟩ := hcut
    have X0 := X0.later hb
    have X1 := X1.later hb
    have X2 := X2.later hb
    have X3 := X3.later hb
    have X4 := X4.later hb
    have hB := hB.trans (hb.mono hB.size)
    clear hb C
    have X0c0 : wc.cell? ⟨w.heap.size, 0, none⟩ = some (.int .i64 a) := X0.cell 0
    have X0f0 : wc.frozen? ⟨w.heap.size, 0, none⟩ = false := X0.free 0
    have X0c1 : wc.cell? ⟨w.heap.size, 1, none⟩ = some (.int .i64 b) := X0.cell 1
    have X0f1 : wc.frozen? ⟨w.heap.size, 1, none⟩ = false := X0.free 1
    have X0z : w.heap.size < wc.heap.size := X0.lt
    have X4c0 : wc.cell? ⟨w3.heap.size, 0, none⟩ = some (.int .i64 u) := X4.cell 0
    have X4f0 : wc.frozen? ⟨w3.heap.size, 0, none⟩ = false := X4.free 0
    have X4c1 : wc.cell? ⟨w3.heap.size, 1, none⟩ = some (.int .i64 v) := X4.cell 1
    have X4f1 : wc.frozen? ⟨w3.heap.size, 1, none⟩ = false := X4.free 1
    have X4z : w3.heap.size < wc.heap.size := X4.lt
    go_wp2_with fail
    refine ((Inside_any a b u v _).mono fun _ _ => RetO.at H3).mono ?_
    rintro e w25 ⟨rfl, hb⟩
    clear X0c0 X0f0 X0c1 X0f1 X0z X4c0 X4f0 X4c1 X4f1 X4z
    have X0 := X0.later hb
    have X1 := X1.later hb
    have X2 := X2.later hb
    have X3 := X3.later hb
    have X4 := X4.later hb
    have hB := hB.trans (hb.mono hB.size)
    clear hb
    have X1c0 : w25.cell? ⟨w.heap.size + 1, 0, none⟩ = some (.int .i64 c) := X1.cell 0
    have X1f0 : w25.frozen? ⟨w.heap.size + 1, 0, none⟩ = false := X1.free 0
    have X1c1 : w25.cell? ⟨w.heap.size + 1, 1, none⟩ = some (.int .i64 d) := X1.cell 1
    have X1f1 : w25.frozen? ⟨w.heap.size + 1, 1, none⟩ = false := X1.free 1
    have X1z : w.heap.size + 1 < w25.heap.size := X1.lt
    have X4c0 : w25.cell? ⟨w3.heap.size, 0, none⟩ = some (.int .i64 u) := X4.cell 0
    have X4f0 : w25.frozen? ⟨w3.heap.size, 0, none⟩ = false := X4.free 0
    have X4c1 : w25.cell? ⟨w3.heap.size, 1, none⟩ = some (.int .i64 v) := X4.cell 1
    have X4f1 : w25.frozen? ⟨w3.heap.size, 1, none⟩ = false := X4.free 1
    have X4z : w3.heap.size < w25.heap.size := X4.lt
    go_wp2_with fail
    refine ((Inside_any c d u v _).mono fun _ _ => RetO.at H4).mono ?_
    rintro e w26 ⟨rfl, hb⟩
    clear X1c0 X1f0 X1c1 X1f1 X1z X4c0 X4f0 X4c1 X4f1 X4z
    have X0 := X0.later hb
    have X1 := X1.later hb
    have X2 := X2.later hb
    have X3 := X3.later hb
    have X4 := X4.later hb
    have hB := hB.trans (hb.mono hB.size)
    clear hb
    have X0c0 : w26.cell? ⟨w.heap.size, 0, none⟩ = some (.int .i64 a) := X0.cell 0
    have X0f0 : w26.frozen? ⟨w.heap.size, 0, none⟩ = false := X0.free 0
    have X0c1 : w26.cell? ⟨w.heap.size, 1, none⟩ = some (.int .i64 b) := X0.cell 1
    have X0f1 : w26.frozen? ⟨w.heap.size, 1, none⟩ = false := X0.free 1
    have X0z : w.heap.size < w26.heap.size := X0.lt
    have X2c0 : w26.cell? ⟨w.heap.size + 1 + 1, 0, none⟩ = some (.int .i64 p) := X2.cell 0
    have X2f0 : w26.frozen? ⟨w.heap.size + 1 + 1, 0, none⟩ = false := X2.free 0
    have X2c1 : w26.cell? ⟨w.heap.size + 1 + 1, 1, none⟩ = some (.int .i64 q) := X2.cell 1
    have X2f1 : w26.frozen? ⟨w.heap.size + 1 + 1, 1, none⟩ = false := X2.free 1
    have X2z : w.heap.size + 1 + 1 < w26.heap.size := X2.lt
    go_wp2_with fail
    refine ((Inside_any a b p q _).mono fun _ _ => RetO.at I1).mono ?_
    rintro e w27 ⟨rfl, hb⟩
    clear X0c0 X0f0 X0c1 X0f1 X0z X2c0 X2f0 X2c1 X2f1 X2z
    have X0 := X0.later hb
    have X1 := X1.later hb
    have X2 := X2.later hb
    have X3 := X3.later hb
    have X4 := X4.later hb
    have hB := hB.trans (hb.mono hB.size)
    clear hb
    have X1c0 : w27.cell? ⟨w.heap.size + 1, 0, none⟩ = some (.int .i64 c) := X1.cell 0
    have X1f0 : w27.frozen? ⟨w.heap.size + 1, 0, none⟩ = false := X1.free 0
    have X1c1 : w27.cell? ⟨w.heap.size + 1, 1, none⟩ = some (.int .i64 d) := X1.cell 1
    have X1f1 : w27.frozen? ⟨w.heap.size + 1, 1, none⟩ = false := X1.free 1
    have X1z : w.heap.size + 1 < w27.heap.size := X1.lt
    have X2c0 : w27.cell? ⟨w.heap.size + 1 + 1, 0, none⟩ = some (.int .i64 p) := X2.cell 0
    have X2f0 : w27.frozen? ⟨w.heap.size + 1 + 1, 0, none⟩ = false := X2.free 0
    have X2c1 : w27.cell? ⟨w.heap.size + 1 + 1, 1, none⟩ = some (.int .i64 q) := X2.cell 1
    have X2f1 : w27.frozen? ⟨w.heap.size + 1 + 1, 1, none⟩ = false := X2.free 1
    have X2z : w.heap.size + 1 + 1 < w27.heap.size := X2.lt
    go_wp2_with fail
    refine ((Inside_any c d p q _).mono fun _ _ => RetO.at I2).mono ?_
    rintro e w28 ⟨rfl, hb⟩
    clear X1c0 X1f0 X1c1 X1f1 X1z X2c0 X2f0 X2c1 X2f1 X2z
    have X0 := X0.later hb
    have X1 := X1.later hb
    have X2 := X2.later hb
    have X3 := X3.later hb
    have X4 := X4.later hb
    have hB := hB.trans (hb.mono hB.size)
    clear hb
    have X4c0 : w28.cell? ⟨w3.heap.size, 0, none⟩ = some (.int .i64 u) := X4.cell 0
    have X4f0 : w28.frozen? ⟨w3.heap.size, 0, none⟩ = false := X4.free 0
    have X4c1 : w28.cell? ⟨w3.heap.size, 1, none⟩ = some (.int .i64 v) := X4.cell 1
    have X4f1 : w28.frozen? ⟨w3.heap.size, 1, none⟩ = false := X4.free 1
    have X4z : w3.heap.size < w28.heap.size := X4.lt
    have X2c0 : w28.cell? ⟨w.heap.size + 1 + 1, 0, none⟩ = some (.int .i64 p) := X2.cell 0
    have X2f0 : w28.frozen? ⟨w.heap.size + 1 + 1, 0, none⟩ = false := X2.free 0
    have X2c1 : w28.cell? ⟨w.heap.size + 1 + 1, 1, none⟩ = some (.int .i64 q) := X2.cell 1
    have X2f1 : w28.frozen? ⟨w.heap.size + 1 + 1, 1, none⟩ = false := X2.free 1
    have X2z : w.heap.size + 1 + 1 < w28.heap.size := X2.lt
    go_wp2_with fail
    refine ((Inside_any u v p q _).mono fun _ _ => RetO.at I3).mono ?_
    rintro e w29 ⟨rfl, hb⟩
    clear X4c0 X4f0 X4c1 X4f1 X4z X2c0 X2f0 X2c1 X2f1 X2z
    have X0 := X0.later hb
    have X1 := X1.later hb
    have X2 := X2.later hb
    have X3 := X3.later hb
    have X4 := X4.later hb
    have hB := hB.trans (hb.mono hB.size)
    clear hb
    go_wp2
    go_ret
    exact ⟨rfl, hB⟩

set_option maxRecDepth 100000 in
set_option maxHeartbeats 4000000 in
theorem lat_ok_f (a b c d p q x u v lo hi : Int) (w : World) (Q : Bool) (H1 : Hid (meetT a b c d = (lo, hi, true, 0))) (H2 : Hid (hul2T a b c d = (u, v, 0))) (_k1 : lo ≤ hi) (_k2 : decide (hi < lo) = false) (C : Hid ((holB lo hi x = true ∧ holB a b x = true ∧ holB c d x = true) ∨ (holB lo hi x = false ∧ holB a b x = false) ∨ (holB lo hi x = false ∧ holB a b x = true ∧ holB c d x = false))) (H3 : Hid (insT a b u v = (true, 0))) (H4 : Hid (insT c d u v = (true, 0))) (I1 : Hid (insT a b p q = (false, 0))) (I2 : Hid (insT c d p q = (Q, 0))) (I3 : Hid (insT u v p q = (false, 0)))  : Calls Try.prog 11 #[rng a b, rng c d, rng p q, .int .i64 x] w fun e w' => e = .returned (.bool true) ∧ Below w.heap.size w w' := by
  go_enter Try.func11, Try.ntmps11
  go_wp2_with fail
  refine (sane_any _).mono ?_
  rintro e w1 ⟨rfl, hb⟩
  have X0 := ((((Box.newAt (n := w.heap.size) [.int .i64 a, .int .i64 b] 23 (by simp)).alloc _).alloc _)).later hb
  have X1 := (((Box.newAt (n := w.heap.size + 1) [.int .i64 c, .int .i64 d] 23 (by simp)).alloc _)).later hb
  have X2 := ((Box.newAt (n := w.heap.size + 1 + 1) [.int .i64 p, .int .i64 q] 23 (by simp))).later hb
  have hB : Below w.heap.size w w1 := (((((Below.refl w.heap.size w).alloc (by simp <;> omega) _).alloc (by simp <;> omega) _).alloc (by simp <;> omega) _)).trans (hb.mono (by simp <;> omega))
  clear hb
  have X0c0 : w1.cell? ⟨w.heap.size, 0, none⟩ = some (.int .i64 a) := X0.cell 0
  have X0f0 : w1.frozen? ⟨w.heap.size, 0, none⟩ = false := X0.free 0
  have X0c1 : w1.cell? ⟨w.heap.size, 1, none⟩ = some (.int .i64 b) := X0.cell 1
  have X0f1 : w1.frozen? ⟨w.heap.size, 1, none⟩ = false := X0.free 1
  have X0z : w.heap.size < w1.heap.size := X0.lt
  have X1c0 : w1.cell? ⟨w.heap.size + 1, 0, none⟩ = some (.int .i64 c) := X1.cell 0
  have X1f0 : w1.frozen? ⟨w.heap.size + 1, 0, none⟩ = false := X1.free 0
  have X1c1 : w1.cell? ⟨w.heap.size + 1, 1, none⟩ = some (.int .i64 d) := X1.cell 1
  have X1f1 : w1.frozen? ⟨w.heap.size + 1, 1, none⟩ = false := X1.free 1
  have X1z : w.heap.size + 1 < w1.heap.size := X1.lt
  go_wp2_with fail
  refine ((Meet_any a b c d _).mono fun _ _ => RetM.const H1.out).mono ?_
  rintro e w2 ⟨rfl, hb⟩
  clear X0c0 X0f0 X0c1 X0f1 X0z X1c0 X1f0 X1c1 X1f1 X1z
  have X0 := X0.later hb
  have X1 := X1.later hb
  have X2 := X2.later hb
  have hB := hB.trans (hb.mono hB.size)
  clear hb
  have X0c0 : w2.cell? ⟨w.heap.size, 0, none⟩ = some (.int .i64 a) := X0.cell 0
  have X0f0 : w2.frozen? ⟨w.heap.size, 0, none⟩ = false := X0.free 0
  have X0c1 : w2.cell? ⟨w.heap.size, 1, none⟩ = some (.int .i64 b) := X0.cell 1
  have X0f1 : w2.frozen? ⟨w.heap.size, 1, none⟩ = false := X0.free 1
  have X0z : w.heap.size < w2.heap.size := X0.lt
  have X1c0 : w2.cell? ⟨w.heap.size + 1, 0, none⟩ = some (.int .i64 c) := X1.cell 0
  have X1f0 : w2.frozen? ⟨w.heap.size + 1, 0, none⟩ = false := X1.free 0
  have X1c1 : w2.cell? ⟨w.heap.size + 1, 1, none⟩ = some (.int .i64 d) := X1.cell 1
  have X1f1 : w2.frozen? ⟨w.heap.size + 1, 1, none⟩ = false := X1.free 1
  have X1z : w.heap.size + 1 < w2.heap.size := X1.lt
  go_wp2_with fail
  refine ((Hull_any a b c d _).mono fun _ _ => Ret.at H2).mono ?_
  rintro e w3 ⟨rfl, hb⟩
  clear X0c0 X0f0 X0c1 X0f1 X0z X1c0 X1f0 X1c1 X1f1 X1z
  have X3 := ((Box.newAt (w := w2) (n := w2.heap.size) [.int .i64 lo, .int .i64 hi] 23 (by simp))).later hb
  have X0 := ((X0.alloc (.cells #[.int .i64 lo, .int .i64 hi] 23))).later hb
  have X1 := ((X1.alloc (.cells #[.int .i64 lo, .int .i64 hi] 23))).later hb
  have X2 := ((X2.alloc (.cells #[.int .i64 lo, .int .i64 hi] 23))).later hb
  have hB := (hB.alloc hB.size (.cells #[.int .i64 lo, .int .i64 hi] 23)).trans (hb.mono (by have := hB.size; simp; omega))
  clear hb
  have X3c0 : w3.cell? ⟨w2.heap.size, 0, none⟩ = some (.int .i64 lo) := X3.cell 0
  have X3f0 : w3.frozen? ⟨w2.heap.size, 0, none⟩ = false := X3.free 0
  have X3c1 : w3.cell? ⟨w2.heap.size, 1, none⟩ = some (.int .i64 hi) := X3.cell 1
  have X3f1 : w3.frozen? ⟨w2.heap.size, 1, none⟩ = false := X3.free 1
  have X3z : w2.heap.size < w3.heap.size := X3.lt
  go_upto_region 7 with fail
  clear X3c0 X3f0 X3c1 X3f1 X3z
  have X0 := (X0.alloc (.cells #[.int .i64 u, .int .i64 v] 23))
  have X1 := (X1.alloc (.cells #[.int .i64 u, .int .i64 v] 23))
  have X2 := (X2.alloc (.cells #[.int .i64 u, .int .i64 v] 23))
  have X3 := (X3.alloc (.cells #[.int .i64 u, .int .i64 v] 23))
  have X4 := (Box.newAt (w := w3) (n := w3.heap.size) [.int .i64 u, .int .i64 v] 23 (by simp))
  have hB := (hB.alloc hB.size (.cells #[.int .i64 u, .int .i64 v] 23))
  generalize (w3.alloc (.cells #[.int .i64 u, .int .i64 v] 23)) = w4 at hB X0 X1 X2 X3 X4 ⊢
  go_cut [95] (fun s wx => s = .bool false ∧ Below w4.heap.size w4 wx)
  case first =>
    rcases C.out with ⟨h1, h2, h3⟩ | ⟨h1, h2⟩ | ⟨h1, h2, h3⟩
    · skip
      have H1 := Lib.hid h1
      have H2 := Lib.hid h2
      have H3 := Lib.hid h3
      clear h1 h2 h3
      have hW : Below w4.heap.size w4 w4 := Below.refl _ _
      have X0l0 : ∀ y : Later w4, y.w.cell? ⟨w.heap.size, 0, none⟩ = some (.int .i64 a) := Later.cell (X0.cell 0) X0.lt
      have X0l1 : ∀ y : Later w4, y.w.cell? ⟨w.heap.size, 1, none⟩ = some (.int .i64 b) := Later.cell (X0.cell 1) X0.lt
      have X1l0 : ∀ y : Later w4, y.w.cell? ⟨w.heap.size + 1, 0, none⟩ = some (.int .i64 c) := Later.cell (X1.cell 0) X1.lt
      have X1l1 : ∀ y : Later w4, y.w.cell? ⟨w.heap.size + 1, 1, none⟩ = some (.int .i64 d) := Later.cell (X1.cell 1) X1.lt
      have X3l0 : ∀ y : Later w4, y.w.cell? ⟨w2.heap.size, 0, none⟩ = some (.int .i64 lo) := Later.cell (X3.cell 0) X3.lt
      have X3l1 : ∀ y : Later w4, y.w.cell? ⟨w2.heap.size, 1, none⟩ = some (.int .i64 hi) := Later.cell (X3.cell 1) X3.lt
      refine wp_region_later (by kernel_rfl) (by kernel_rfl) ?_
      repeat (go_big_quiet_step ((first | (go_at_call 33; with_reducible exact Later.call _ (holds_at H1.out _)) | (go_at_call 33; with_reducible exact Later.call _ (holds_at H2.out _)) | (go_at_call 33; with_reducible exact Later.call _ (holds_at H3.out _)))))
      refine wpQuiet_nil ?_
      intro _ hw'
      obtain ⟨yq, hw''⟩ := hw'
      subst hw''
      clear X0l0 X0l1 X1l0 X1l1 X3l0 X3l1
      obtain ⟨w5, hb⟩ : ∃ z, z = yq.w ∧ Below w4.heap.size w4 z := ⟨_, rfl, yq.below⟩
      obtain ⟨hz, hb⟩ := hb
      rw [← hz]
      clear hz
      have hX := hb
      have X0 := X0.later hb
      have X1 := X1.later hb
      have X2 := X2.later hb
      have X3 := X3.later hb
      have X4 := X4.later hb
      have hB := hB.trans (hb.mono hB.size)
      clear hb
      go_wp2_with fail
      go_meet
      exact ⟨rfl, hX⟩
    · skip
      have H1 := Lib.hid h1
      have H2 := Lib.hid h2
      clear h1 h2
      have hW : Below w4.heap.size w4 w4 := Below.refl _ _
      have X0l0 : ∀ y : Later w4, y.w.cell? ⟨w.heap.size, 0, none⟩ = some (.int .i64 a) := Later.cell (X0.cell 0) X0.lt
      have X0l1 : ∀ y : Later w4, y.w.cell? ⟨w.heap.size, 1, none⟩ = some (.int .i64 b) := Later.cell (X0.cell 1) X0.lt
      have X1l0 : ∀ y : Later w4, y.w.cell? ⟨w.heap.size + 1, 0, none⟩ = some (.int .i64 c) := Later.cell (X1.cell 0) X1.lt
      have X1l1 : ∀ y : Later w4, y.w.cell? ⟨w.heap.size + 1, 1, none⟩ = some (.int .i64 d) := Later.cell (X1.cell 1) X1.lt
      have X3l0 : ∀ y : Later w4, y.w.cell? ⟨w2.heap.size, 0, none⟩ = some (.int .i64 lo) := Later.cell (X3.cell 0) X3.lt
      have X3l1 : ∀ y : Later w4, y.w.cell? ⟨w2.heap.size, 1, none⟩ = some (.int .i64 hi) := Later.cell (X3.cell 1) X3.lt
      refine wp_region_later (by kernel_rfl) (by kernel_rfl) ?_
      repeat (go_big_quiet_step ((first | (go_at_call 33; with_reducible exact Later.call _ (holds_at H1.out _)) | (go_at_call 33; with_reducible exact Later.call _ (holds_at H2.out _)))))
      refine wpQuiet_nil ?_
      intro _ hw'
      obtain ⟨yq, hw''⟩ := hw'
      subst hw''
      clear X0l0 X0l1 X1l0 X1l1 X3l0 X3l1
      obtain ⟨w5, hb⟩ : ∃ z, z = yq.w ∧ Below w4.heap.size w4 z := ⟨_, rfl, yq.below⟩
      obtain ⟨hz, hb⟩ := hb
      rw [← hz]
      clear hz
      have hX := hb
      have X0 := X0.later hb
      have X1 := X1.later hb
      have X2 := X2.later hb
      have X3 := X3.later hb
      have X4 := X4.later hb
      have hB := hB.trans (hb.mono hB.size)
      clear hb
      go_wp2_with fail
      go_meet
      exact ⟨rfl, hX⟩
    · skip
      have H1 := Lib.hid h1
      have H2 := Lib.hid h2
      have H3 := Lib.hid h3
      clear h1 h2 h3
      have hW : Below w4.heap.size w4 w4 := Below.refl _ _
      have X0l0 : ∀ y : Later w4, y.w.cell? ⟨w.heap.size, 0, none⟩ = some (.int .i64 a) := Later.cell (X0.cell 0) X0.lt
      have X0l1 : ∀ y : Later w4, y.w.cell? ⟨w.heap.size, 1, none⟩ = some (.int .i64 b) := Later.cell (X0.cell 1) X0.lt
      have X1l0 : ∀ y : Later w4, y.w.cell? ⟨w.heap.size + 1, 0, none⟩ = some (.int .i64 c) := Later.cell (X1.cell 0) X1.lt
      have X1l1 : ∀ y : Later w4, y.w.cell? ⟨w.heap.size + 1, 1, none⟩ = some (.int .i64 d) := Later.cell (X1.cell 1) X1.lt
      have X3l0 : ∀ y : Later w4, y.w.cell? ⟨w2.heap.size, 0, none⟩ = some (.int .i64 lo) := Later.cell (X3.cell 0) X3.lt
      have X3l1 : ∀ y : Later w4, y.w.cell? ⟨w2.heap.size, 1, none⟩ = some (.int .i64 hi) := Later.cell (X3.cell 1) X3.lt
      refine wp_region_later (by kernel_rfl) (by kernel_rfl) ?_
      repeat (go_big_quiet_step ((first | (go_at_call 33; with_reducible exact Later.call _ (holds_at H1.out _)) | (go_at_call 33; with_reducible exact Later.call _ (holds_at H2.out _)) | (go_at_call 33; with_reducible exact Later.call _ (holds_at H3.out _)))))
      refine wpQuiet_nil ?_
      intro _ hw'
      obtain ⟨yq, hw''⟩ := hw'
      subst hw''
      clear X0l0 X0l1 X1l0 X1l1 X3l0 X3l1
      obtain ⟨w5, hb⟩ : ∃ z, z = yq.w ∧ Below w4.heap.size w4 z := ⟨_, rfl, yq.below⟩
      obtain ⟨hz, hb⟩ := hb
      rw [← hz]
      clear hz
      have hX := hb
      have X0 := X0.later hb
      have X1 := X1.later hb
      have X2 := X2.later hb
      have X3 := X3.later hb
      have X4 := X4.later hb
      have hB := hB.trans (hb.mono hB.size)
      clear hb
      go_wp2_with fail
      go_meet
      exact ⟨rfl, hX⟩
  case rest =>
    obtain ⟨rfl, hb⟩ := hcut
    have X0 := X0.later hb
    have X1 := X1.later hb
    have X2 := X2.later hb
    have X3 := X3.later hb
    have X4 := X4.later hb
    have hB := hB.trans (hb.mono hB.size)
    clear hb C
    have X0c0 : wc.cell? ⟨w.heap.size, 0, none⟩ = some (.int .i64 a) := X0.cell 0
    have X0f0 : wc.frozen? ⟨w.heap.size, 0, none⟩ = false := X0.free 0
    have X0c1 : wc.cell? ⟨w.heap.size, 1, none⟩ = some (.int .i64 b) := X0.cell 1
    have X0f1 : wc.frozen? ⟨w.heap.size, 1, none⟩ = false := X0.free 1
    have X0z : w.heap.size < wc.heap.size := X0.lt
    have X4c0 : wc.cell? ⟨w3.heap.size, 0, none⟩ = some (.int .i64 u) := X4.cell 0
    have X4f0 : wc.frozen? ⟨w3.heap.size, 0, none⟩ = false := X4.free 0
    have X4c1 : wc.cell? ⟨w3.heap.size, 1, none⟩ = some (.int .i64 v) := X4.cell 1
    have X4f1 : wc.frozen? ⟨w3.heap.size, 1, none⟩ = false := X4.free 1
    have X4z : w3.heap.size < wc.heap.size := X4.lt
    go_wp2_with fail
    refine ((Inside_any a b u v _).mono fun _ _ => RetO.at H3).mono ?_
    rintro e w25 ⟨rfl, hb⟩
    clear X0c0 X0f0 X0c1 X0f1 X0z X4c0 X4f0 X4c1 X4f1 X4z
    have X0 := X0.later hb
    have X1 := X1.later hb
    have X2 := X2.later hb
    have X3 := X3.later hb
    have X4 := X4.later hb
    have hB := hB.trans (hb.mono hB.size)
    clear hb
    have X1c0 : w25.cell? ⟨w.heap.size + 1, 0, none⟩ = some (.int .i64 c) := X1.cell 0
    have X1f0 : w25.frozen? ⟨w.heap.size + 1, 0, none⟩ = false := X1.free 0
    have X1c1 : w25.cell? ⟨w.heap.size + 1, 1, none⟩ = some (.int .i64 d) := X1.cell 1
    have X1f1 : w25.frozen? ⟨w.heap.size + 1, 1, none⟩ = false := X1.free 1
    have X1z : w.heap.size + 1 < w25.heap.size := X1.lt
    have X4c0 : w25.cell? ⟨w3.heap.size, 0, none⟩ = some (.int .i64 u) := X4.cell 0
    have X4f0 : w25.frozen? ⟨w3.heap.size, 0, none⟩ = false := X4.free 0
    have X4c1 : w25.cell? ⟨w3.heap.size, 1, none⟩ = some (.int .i64 v) := X4.cell 1
    have X4f1 : w25.frozen? ⟨w3.heap.size, 1, none⟩ = false := X4.free 1
    have X4z : w3.heap.size < w25.heap.size := X4.lt
    go_wp2_with fail
    refine ((Inside_any c d u v _).mono fun _ _ => RetO.at H4).mono ?_
    rintro e w26 ⟨rfl, hb⟩
    clear X1c0 X1f0 X1c1 X1f1 X1z X4c0 X4f0 X4c1 X4f1 X4z
    have X0 := X0.later hb
    have X1 := X1.later hb
    have X2 := X2.later hb
    have X3 := X3.later hb
    have X4 := X4.later hb
    have hB := hB.trans (hb.mono hB.size)
    clear hb
    have X0c0 : w26.cell? ⟨w.heap.size, 0, none⟩ = some (.int .i64 a) := X0.cell 0
    have X0f0 : w26.frozen? ⟨w.heap.size, 0, none⟩ = false := X0.free 0
    have X0c1 : w26.cell? ⟨w.heap.size, 1, none⟩ = some (.int .i64 b) := X0.cell 1
    have X0f1 : w26.frozen? ⟨w.heap.size, 1, none⟩ = false := X0.free 1
    have X0z : w.heap.size < w26.heap.size := X0.lt
    have X2c0 : w26.cell? ⟨w.heap.size + 1 + 1, 0, none⟩ = some (.int .i64 p) := X2.cell 0
    have X2f0 : w26.frozen? ⟨w.heap.size + 1 + 1, 0, none⟩ = false := X2.free 0
    have X2c1 : w26.cell? ⟨w.heap.size + 1 + 1, 1, none⟩ = some (.int .i64 q) := X2.cell 1
    have X2f1 : w26.frozen? ⟨w.heap.size + 1 + 1, 1, none⟩ = false := X2.free 1
    have X2z : w.heap.size + 1 + 1 < w26.heap.size := X2.lt
    go_wp2_with fail
    refine ((Inside_any a b p q _).mono fun _ _ => RetO.at I1).mono ?_
    rintro e w27 ⟨rfl, hb⟩
    clear X0c0 X0f0 X0c1 X0f1 X0z X2c0 X2f0 X2c1 X2f1 X2z
    have X0 := X0.later hb
    have X1 := X1.later hb
    have X2 := X2.later hb
    have X3 := X3.later hb
    have X4 := X4.later hb
    have hB := hB.trans (hb.mono hB.size)
    clear hb
    have X1c0 : w27.cell? ⟨w.heap.size + 1, 0, none⟩ = some (.int .i64 c) := X1.cell 0
    have X1f0 : w27.frozen? ⟨w.heap.size + 1, 0, none⟩ = false := X1.free 0
    have X1c1 : w27.cell? ⟨w.heap.size + 1, 1, none⟩ = some (.int .i64 d) := X1.cell 1
    have X1f1 : w27.frozen? ⟨w.heap.size + 1, 1, none⟩ = false := X1.free 1
    have X1z : w.heap.size + 1 < w27.heap.size := X1.lt
    have X2c0 : w27.cell? ⟨w.heap.size + 1 + 1, 0, none⟩ = some (.int .i64 p) := X2.cell 0
    have X2f0 : w27.frozen? ⟨w.heap.size + 1 + 1, 0, none⟩ = false := X2.free 0
    have X2c1 : w27.cell? ⟨w.heap.size + 1 + 1, 1, none⟩ = some (.int .i64 q) := X2.cell 1
    have X2f1 : w27.frozen? ⟨w.heap.size + 1 + 1, 1, none⟩ = false := X2.free 1
    have X2z : w.heap.size + 1 + 1 < w27.heap.size := X2.lt
    go_wp2_with fail
    refine ((Inside_any c d p q _).mono fun _ _ => RetO.at I2).mono ?_
    rintro e w28 ⟨rfl, hb⟩
    clear X1c0 X1f0 X1c1 X1f1 X1z X2c0 X2f0 X2c1 X2f1 X2z
    have X0 := X0.later hb
    have X1 := X1.later hb
    have X2 := X2.later hb
    have X3 := X3.later hb
    have X4 := X4.later hb
    have hB := hB.trans (hb.mono hB.size)
    clear hb
    have X4c0 : w28.cell? ⟨w3.heap.size, 0, none⟩ = some (.int .i64 u) := X4.cell 0
    have X4f0 : w28.frozen? ⟨w3.heap.size, 0, none⟩ = false := X4.free 0
    have X4c1 : w28.cell? ⟨w3.heap.size, 1, none⟩ = some (.int .i64 v) := X4.cell 1
    have X4f1 : w28.frozen? ⟨w3.heap.size, 1, none⟩ = false := X4.free 1
    have X4z : w3.heap.size < w28.heap.size := X4.lt
    have X2c0 : w28.cell? ⟨w.heap.size + 1 + 1, 0, none⟩ = some (.int .i64 p) := X2.cell 0
    have X2f0 : w28.frozen? ⟨w.heap.size + 1 + 1, 0, none⟩ = false := X2.free 0
    have X2c1 : w28.cell? ⟨w.heap.size + 1 + 1, 1, none⟩ = some (.int .i64 q) := X2.cell 1
    have X2f1 : w28.frozen? ⟨w.heap.size + 1 + 1, 1, none⟩ = false := X2.free 1
    have X2z : w.heap.size + 1 + 1 < w28.heap.size := X2.lt
    go_wp2_with fail
    refine ((Inside_any u v p q _).mono fun _ _ => RetO.at I3).mono ?_
    rintro e w29 ⟨rfl, hb⟩
    clear X4c0 X4f0 X4c1 X4f1 X4z X2c0 X2f0 X2c1 X2f1 X2z
    have X0 := X0.later hb
    have X1 := X1.later hb
    have X2 := X2.later hb
    have X3 := X3.later hb
    have X4 := X4.later hb
    have hB := hB.trans (hb.mono hB.size)
    clear hb
    go_wp2
    go_ret
    exact ⟨rfl, hB⟩

end Go.Proofs.Ytmjbcmicjhgciaa
