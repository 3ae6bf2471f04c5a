/- The law CascadePlaySpec. (Printed by pp.py.) No condition. -/
import Derived.Test.YtcjcjkomcolgeaaQEC
import Derived.Test.YtcjcjkomcolgeaaQED
import Derived.Test.YtcjcjkomcolgeaaQDY
set_option linter.unusedVariables false
set_option linter.unusedSimpArgs false
namespace Go.Proofs.Ytcjcjkomcolgeaa
open Go.RowKit

set_option maxRecDepth 100000 in
set_option maxHeartbeats 4000000 in
theorem law_CascadePlaySpec (x : Cs) (Vp Vc Vb : Value) (l : List Sp) (Vl : Value) (w : World) (hx : CsAt w w.heap.size Vp Vc Vb x) (hl : StepsAt w w.heap.size Vl l) : Calls Try.prog 4 #[.agg #[Vp, Vc, Vb], Vl] w fun e w' => e = .returned (.bool true) ∧ Below w.heap.size w w' := by
  obtain ⟨Ap, kp, rfl, -⟩ := hx.plants.form
  obtain ⟨Ac, kc, rfl, -⟩ := hx.codes.form
  obtain ⟨Ab, kb, rfl, -⟩ := hx.bars.form
  obtain ⟨Al, kl, rfl, -⟩ := hl.form
  obtain ⟨n, hn⟩ : ∃ n, x.plants.length = n := ⟨_, rfl⟩
  obtain ⟨nc, hnc⟩ : ∃ n, x.codes.length = n := ⟨_, rfl⟩
  obtain ⟨nb, hnb⟩ : ∃ n, x.bars.length = n := ⟨_, rfl⟩
  obtain ⟨m, hm⟩ : ∃ n, l.length = n := ⟨_, rfl⟩
  rw [hn, hnc, hnb] at hx ⊢
  rw [hm] at hl ⊢
  have HX := Lib.hid hx
  have HL := Lib.hid hl
  clear hn hnc hnb hx hm hl
  have hB := (Below.refl w.heap.size w).alloc (Nat.le_refl _) (.cells #[.slice Ap n kp, .slice Ac nc kc, .slice Ab nb kb] 26)
  have X1 := Box.new w [.slice Ap n kp, .slice Ac nc kc, .slice Ab nb kb] 26
  go_enter Try.func4, Try.ntmps4
  go_wp2_with fail
  have HX := Lib.hid (HX.out.later hB)
  have HL := Lib.hid ((HL.out.below hB).more hB.size)
  generalize w.alloc (.cells #[.slice Ap n kp, .slice Ac nc kc, .slice Ab nb kb] 26) = w1 at hB X1 HX HL ⊢
  refine (lSane_any w1).mono ?_
  rintro e w2 ⟨rfl, hb⟩
  have hB := hB.trans (hb.mono hB.size)
  have X1 := X1.later hb
  have HX := Lib.hid (HX.out.later hb)
  have HL := Lib.hid ((HL.out.below hb).more hb.size)
  clear hb
  have z1 := X1.lt
  have X1c0 : w2.cell? ⟨w.heap.size, 0, none⟩ = some (.slice Ap n kp) := X1.cell 0
  have X1c1 : w2.cell? ⟨w.heap.size, 1, none⟩ = some (.slice Ac nc kc) := X1.cell 1
  have X1c2 : w2.cell? ⟨w.heap.size, 2, none⟩ = some (.slice Ab nb kb) := X1.cell 2
  go_wp2_with fail
  refine (rCsFew_at HX.out).mono ?_
  rintro e w3 ⟨t, rfl, hb⟩
  have hB := hB.trans (hb.mono hB.size)
  have X1 := X1.later hb
  have HX := Lib.hid (HX.out.later hb)
  have HL := Lib.hid ((HL.out.below hb).more hb.size)
  clear hb z1 X1c0 X1c1 X1c2
  cases t with
  | false =>
    go_wp2
    go_ret
    exact ⟨rfl, hB⟩
  | true =>
    obtain ⟨t, ht⟩ : ∃ t, Hid (fewSteps l = t) := ⟨_, Lib.hid rfl⟩
    go_wp2_with fail
    refine (rFewSteps_is l _ w3 t ht HL.out).mono ?_
    rintro e w4 ⟨rfl, hb⟩
    have hB := hB.trans (hb.mono hB.size)
    have X1 := X1.later hb
    have HX := Lib.hid (HX.out.later hb)
    have HL := Lib.hid ((HL.out.below hb).more hb.size)
    clear hb
    cases t with
    | false =>
      go_wp2
      go_ret
      exact ⟨rfl, hB⟩
    | true =>
      obtain ⟨r, hT⟩ : ∃ r, Hid (x.playT l = r) := ⟨_, Lib.hid rfl⟩
      have z1 := X1.lt
      have X1c0 : w4.cell? ⟨w.heap.size, 0, none⟩ = some (.slice Ap n kp) := X1.cell 0
      have X1c1 : w4.cell? ⟨w.heap.size, 1, none⟩ = some (.slice Ac nc kc) := X1.cell 1
      have X1c2 : w4.cell? ⟨w.heap.size, 2, none⟩ = some (.slice Ab nb kb) := X1.cell 2
      go_wp2_with fail
      refine (mPlay_is hT HX.out HL.out).mono ?_
      rintro e w5 ⟨A1, k1, rfl, -, hS1, hb⟩
      have hB := hB.trans (hb.mono hB.size)
      have X1 := X1.later hb
      have HX := Lib.hid (HX.out.later hb)
      have HL := Lib.hid ((HL.out.below hb).more hb.size)
      clear hb z1 X1c0 X1c1 X1c2
      have z1 := X1.lt
      have X1c0 : w5.cell? ⟨w.heap.size, 0, none⟩ = some (.slice Ap n kp) := X1.cell 0
      have X1c1 : w5.cell? ⟨w.heap.size, 1, none⟩ = some (.slice Ac nc kc) := X1.cell 1
      have X1c2 : w5.cell? ⟨w.heap.size, 2, none⟩ = some (.slice Ab nb kb) := X1.cell 2
      go_wp2_with fail
      refine (rPlay_is hT HX.out HL.out).mono ?_
      rintro e w6 ⟨A2, k2, rfl, -, hS2, hb⟩
      have hB := hB.trans (hb.mono hB.size)
      have hS1 := (hS1.below hb).more hb.size
      clear hb z1 X1c0 X1c1 X1c2
      have h3 : (r.2.1 == r.2.1) = true := by simp
      have h4 : (r.2.2 == r.2.2) = true := by simp
      go_wp2_with fail
      refine (rSame_refl r.1 _ _ w6 hS1 hS2).mono ?_
      rintro e w7 ⟨rfl, hb⟩
      have hB := hB.trans (hb.mono hB.size)
      go_wp2
      go_ret
      exact ⟨rfl, hB⟩
end Go.Proofs.Ytcjcjkomcolgeaa
