/-
  Contract of IsCut of the reference. No condition.
-/
import Derived.Test.YtndjpaiakodciaaNL
namespace Go.Proofs.Ytndjpaiakodciaa
open Go.RowKit

theorem beq_flip (a b : Int) : (a == b) = decide (b = a) := Bool.eq_iff_iff.2 ⟨fun h => decide_eq_true (beq_iff_eq.1 h).symm, fun h => beq_iff_eq.2 (of_decide_eq_true h).symm⟩

set_option maxRecDepth 100000 in
set_option maxHeartbeats 2000000 in
theorem nIsCut_any (n : Net) (Vq Va : Value) (x y : Int) (w : World) (D : Nat) (hDw : D ≤ w.heap.size) (hN : NetAt w D Vq Va n) :
    Calls Try.prog 40 #[.agg #[Vq, Va], .int .i64 x, .int .i64 y] w fun e w' => e = .returned (.bool (cutB n.apart x y)) ∧ Below w.heap.size w w' := by
  obtain ⟨Aq, cq, rfl, hmq⟩ := hN.queue.form
  obtain ⟨A, c, rfl, hm⟩ := hN.apart.form
  have hL := hN.apart
  rw [cutB_has]
  obtain ⟨l, hl⟩ : ∃ l, n.apart = l := ⟨_, rfl⟩
  obtain ⟨nq, hnq⟩ : ∃ nq, n.queue.length = nq := ⟨_, rfl⟩
  rw [hl] at hm hL ⊢
  rw [hnq]
  unfold maxLen at hm
  obtain ⟨k, hnn⟩ : ∃ k, l.length = k := ⟨_, rfl⟩
  rw [hnn] at hm hL ⊢
  have HN := Lib.hid hnn
  have HL := Lib.hid hL
  clear hnn hL hN hl hnq hmq
  have hX := Box.new w [.slice Aq nq cq, .slice A k c] 25
  have hB0 := (Below.refl w.heap.size w).alloc (Nat.le_refl _) (.cells #[.slice Aq nq cq, .slice A k c] 25)
  go_enter Try.func40, Try.ntmps40
  go_wp2_with fail
  generalize w.alloc (.cells #[.slice Aq nq cq, .slice A k c] 25) = W at hX hB0 ⊢
  go_loopw [7] (fun i wr => ∃ j : Nat, j ≤ k ∧ i = .int .i64 j ∧ Below w.heap.size w wr ∧ Box wr w.heap.size [.slice Aq nq cq, .slice A k c] ∧ Hid (hasB (l.take j) (min x y) (max x y) = false)) (fun i _ => k - (intOf i).toNat)
  case atStart => exact ⟨0, by omega, rfl, hB0, hX, rfl⟩
  case round =>
    obtain ⟨j, hj, rfl, hb, hY, hno⟩ := hrel
    have x0 : wr.cell? ⟨w.heap.size, 0, none⟩ = some (.slice Aq nq cq) := hY.cell 0
    have x1 : wr.cell? ⟨w.heap.size, 1, none⟩ = some (.slice A k c) := hY.cell 1
    have xz := hY.lt
    by_cases hlt : j < k
    · have hjl : j < l.length := by rw [HN.out]; exact hlt
      obtain ⟨b, off, rfl, hbw, hall⟩ := HL.out.lk (by omega)
      have hbv := Nat.lt_of_lt_of_le hbw hDw
      obtain ⟨q0, q1⟩ := hall j hjl
      have q0 := (hb.cell hbv).trans q0
      have q1 := (hb.cell hbv).trans q1
      have htk := hasTake l (min x y) (max x y) hjl
      have hgd := hasGood (a := min x y) (b := max x y) hjl
      obtain ⟨⟨z1, z2⟩, hz⟩ : ∃ z, l.getD j (0, 0) = z := ⟨_, rfl⟩
      rw [hz] at q0 q1 htk hgd
      dsimp only at q0 q1 htk hgd
      clear hall hz
      rw [hno.out, Bool.false_or] at htk
      have HT := Lib.hid htk
      have HG := Lib.hid hgd
      clear htk hgd
      have hbz : b < wr.heap.size := Nat.lt_of_lt_of_le hbv hb.size
      obtain ⟨m1, hm1⟩ : ∃ m1, min x y = m1 := ⟨_, rfl⟩
      obtain ⟨m2, hm2⟩ : ∃ m2, max x y = m2 := ⟨_, rfl⟩
      rw [hm1, hm2] at HT HG
      obtain ⟨t1, ht1⟩ : ∃ t1, decide (m1 = z1) = t1 := ⟨_, rfl⟩
      obtain ⟨t2, ht2⟩ : ∃ t2, decide (m2 = z2) = t2 := ⟨_, rfl⟩
      rw [ht1, ht2] at HT HG
      have u1 : (z1 == min x y) = t1 := by rw [hm1, ← ht1]; exact beq_flip _ _
      have u2 : (z2 == max x y) = t2 := by rw [hm2, ← ht2]; exact beq_flip _ _
      have hM := Lib.hid (And.intro hm1 hm2)
      clear hm1 hm2 ht1 ht2
      rcases t1 with _ | _
      · go_wp2
        refine ⟨⟨j + 1, by omega, by go_num, hb, hY, ?_⟩, by simp [intOf]; omega⟩
        rw [hM.out.1, hM.out.2]; exact HT
      · rcases t2 with _ | _
        · go_wp2
          refine ⟨⟨j + 1, by omega, by go_num, hb, hY, ?_⟩, by simp [intOf]; omega⟩
          rw [hM.out.1, hM.out.2]; exact HT
        · have hG := Lib.hid (HG.out rfl)
          go_wp2
          go_ret
          exact ⟨by rw [hM.out.1, hM.out.2, hG.out]; rfl, hb⟩
    · obtain rfl : j = k := by omega
      have hF : Hid (hasB l (min x y) (max x y) = false) := by
        have := hno.out
        rw [← HN.out, List.take_length] at this
        exact this
      go_wp2
      go_ret
      exact ⟨by rw [hF.out]; rfl, hb⟩

end Go.Proofs.Ytndjpaiakodciaa
