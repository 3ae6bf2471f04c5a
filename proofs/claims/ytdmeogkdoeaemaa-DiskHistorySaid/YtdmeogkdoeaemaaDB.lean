/-
  slices.ContainsFunc over writes and over sectors. No condition.
-/
import Derived.Test.YtdmeogkdoeaemaaDA
namespace Go.Proofs.Ytdmeogkdoeaemaa
open Go.RowKit

/-- The index of something, or -1. -/
def IxRes (b : Bool) (w : World) (e : Ending) (w' : World) : Prop := ∃ z : Int, e = .returned (.int .i64 z) ∧ Hid ((b = true ∧ 0 ≤ z) ∨ (b = false ∧ z < 0)) ∧ Below w.heap.size w w'
theorem allTake {α : Type} (l : List α) (f : α → Bool) {k : Nat} (hk : k < l.length) : (l.take (k + 1)).all f = ((l.take k).all f && f l[k]) := by
  rw [List.take_succ_eq_append_getElem hk, List.all_append]
  simp
theorem allBad {α : Type} {l : List α} {f : α → Bool} {k : Nat} (hk : k < l.length) (h : f l[k] = false) : l.all f = false := by
  rw [List.all_eq_false]
  exact ⟨l[k], List.getElem_mem hk, by simp [h]⟩
set_option maxRecDepth 100000 in
set_option maxHeartbeats 2000000 in
theorem dIxW_any (q : List Wr) (v : Value) (S : Nat → Prop) (w : World) (hQ : WsAt w S v q) (n cb : Nat) (hc : w.cell? ⟨cb, 0, none⟩ = some (.int .i64 n)) (hcw : cb < w.heap.size) :
    Calls Try.prog 43 #[v, .func (.func 30) #[] #[.pointer (some ⟨cb, 0, none⟩)]] w (IxRes (!q.all (wrB n)) w) := by
  obtain ⟨A, c, rfl, hm⟩ := hQ.form
  unfold maxLen at hm
  obtain ⟨m, hnn⟩ : ∃ m, q.length = m := ⟨_, rfl⟩
  rw [hnn] at hm hQ ⊢
  have HN := Lib.hid hnn
  have HQ := Lib.hid hQ
  clear hnn hQ
  go_enter Try.func43, Try.ntmps43
  go_wp2_with fail
  go_loopw [8] (fun i wr => ∃ j : Nat, j ≤ m ∧ i = .int .i64 j ∧ Below w.heap.size w wr ∧ Hid ((q.take j).all (wrB n) = true)) (fun i _ => m - (intOf i).toNat)
  case atStart => exact ⟨0, by omega, rfl, Below.refl _ _, rfl⟩
  case round =>
    obtain ⟨j, hj, rfl, hb, hall⟩ := hrel
    by_cases hlt : j < m
    · have hjl : j < q.length := by rw [HN.out]; exact hlt
      obtain ⟨b, off, V, rfl, hS, hbw, q0, q1, hV⟩ := HQ.out.wr hjl
      have q0 := (hb.cell hbw).trans q0
      have q1 := (hb.cell hbw).trans q1
      have hV2 := Lib.hid (hV.keep (Keeps.of hb))
      have htk := allTake q (wrB n) hjl
      have hbad := allBad (f := wrB n) hjl
      obtain ⟨y, hy⟩ : ∃ y, q[j] = y := ⟨_, rfl⟩
      rw [hy] at q0 hV2 htk hbad
      rw [hall.out, Bool.true_and] at htk
      have htk := Lib.hid htk
      have hbad := Lib.hid hbad
      clear hy hV
      have hc2 := (hb.cell (p := ⟨cb, 0, none⟩) hcw).trans hc
      have hcw2 := Nat.lt_of_lt_of_le hcw hb.size
      go_wp2_with fail
      refine (dWrite1_any y n cb V S _ hV2.out hc2 hcw2).mono ?_
      rintro e w1 ⟨rfl, hb1⟩
      have hb2 := hb.trans (hb1.mono hb.size)
      rcases hh : (wrB n) y with _ | _
      · have hF := Lib.hid (hbad.out hh)
        go_wp2
        go_ret
        exact ⟨_, rfl, .inl ⟨by rw [hF.out]; rfl, by omega⟩, hb2⟩
      · go_wp2
        refine ⟨⟨j + 1, by omega, by go_num, hb2, ?_⟩, by simp [intOf]; omega⟩
        rw [Hid, htk.out]
        exact hh
    · obtain rfl : j = m := by omega
      have hF : Hid (q.all (wrB n) = true) := by
        have := hall.out
        rw [← HN.out, List.take_length] at this
        exact this
      go_wp2
      go_ret
      exact ⟨_, rfl, .inr ⟨by rw [hF.out]; rfl, by omega⟩, hb⟩
theorem dCfW_any (q : List Wr) (v : Value) (S : Nat → Prop) (w : World) (t : Bool) (n cb : Nat) (hc : w.cell? ⟨cb, 0, none⟩ = some (.int .i64 n)) (hcw : cb < w.heap.size) (ht : Hid ((!q.all (wrB n)) = t)) (hQ : WsAt w S v q) :
    Calls Try.prog 32 #[v, .func (.func 30) #[] #[.pointer (some ⟨cb, 0, none⟩)]] w fun e w' => e = .returned (.bool t) ∧ Below w.heap.size w w' := by
  have hI := dIxW_any q v S w hQ n cb hc hcw
  rw [ht.out] at hI
  have HI := Lib.hid hI
  clear hI ht hQ
  go_enter Try.func32, Try.ntmps32
  go_wp2_with fail
  refine HI.out.mono ?_
  rintro e w1 ⟨z, rfl, hz, hb1⟩
  rcases hz.out with ⟨rfl, h0⟩ | ⟨rfl, h0⟩
  · have _hd : decide (0 ≤ z) = true := decide_eq_true h0
    go_wp2
    go_ret
    exact ⟨rfl, hb1⟩
  · have _hd : decide (0 ≤ z) = false := decide_eq_false (by omega)
    go_wp2
    go_ret
    exact ⟨rfl, hb1⟩
set_option maxRecDepth 100000 in
set_option maxHeartbeats 2000000 in
theorem dIxS_any (q : List Bs) (v : Value) (S : Nat → Prop) (w : World) (hQ : RwAt w S v q) :
    Calls Try.prog 44 #[v, .func (.func 34) #[] #[]] w (IxRes (!q.all (secB)) w) := by
  obtain ⟨A, c, rfl, hm⟩ := hQ.form
  unfold maxLen at hm
  obtain ⟨m, hnn⟩ : ∃ m, q.length = m := ⟨_, rfl⟩
  rw [hnn] at hm hQ ⊢
  have HN := Lib.hid hnn
  have HQ := Lib.hid hQ
  clear hnn hQ
  go_enter Try.func44, Try.ntmps44
  go_wp2_with fail
  go_loopw [8] (fun i wr => ∃ j : Nat, j ≤ m ∧ i = .int .i64 j ∧ Below w.heap.size w wr ∧ Hid ((q.take j).all (secB) = true)) (fun i _ => m - (intOf i).toNat)
  case atStart => exact ⟨0, by omega, rfl, Below.refl _ _, rfl⟩
  case round =>
    obtain ⟨j, hj, rfl, hb, hall⟩ := hrel
    by_cases hlt : j < m
    · have hjl : j < q.length := by rw [HN.out]; exact hlt
      obtain ⟨b, off, V, rfl, hS, hbw, q0, hV⟩ := HQ.out.row hjl
      have q0 := (hb.cell hbw).trans q0
      have hV2 := Lib.hid (hV.keep (Keeps.of hb))
      have htk := allTake q (secB) hjl
      have hbad := allBad (f := secB) hjl
      obtain ⟨y, hy⟩ : ∃ y, q[j] = y := ⟨_, rfl⟩
      rw [hy] at hV2 htk hbad
      rw [hall.out, Bool.true_and] at htk
      have htk := Lib.hid htk
      have hbad := Lib.hid hbad
      clear hy hV

      go_wp2_with fail
      refine (dSector2_any y V S _ hV2.out).mono ?_
      rintro e w1 ⟨rfl, hb1⟩
      subst hb1
      have hb2 := hb
      rcases hh : (secB) y with _ | _
      · have hF := Lib.hid (hbad.out hh)
        go_wp2
        go_ret
        exact ⟨_, rfl, .inl ⟨by rw [hF.out]; rfl, by omega⟩, hb2⟩
      · go_wp2
        refine ⟨⟨j + 1, by omega, by go_num, hb2, ?_⟩, by simp [intOf]; omega⟩
        rw [Hid, htk.out]
        exact hh
    · obtain rfl : j = m := by omega
      have hF : Hid (q.all (secB) = true) := by
        have := hall.out
        rw [← HN.out, List.take_length] at this
        exact this
      go_wp2
      go_ret
      exact ⟨_, rfl, .inr ⟨by rw [hF.out]; rfl, by omega⟩, hb⟩
theorem dCfS_any (q : List Bs) (v : Value) (S : Nat → Prop) (w : World) (t : Bool) (ht : Hid ((!q.all (secB)) = t)) (hQ : RwAt w S v q) :
    Calls Try.prog 33 #[v, .func (.func 34) #[] #[]] w fun e w' => e = .returned (.bool t) ∧ Below w.heap.size w w' := by
  have hI := dIxS_any q v S w hQ
  rw [ht.out] at hI
  have HI := Lib.hid hI
  clear hI ht hQ
  go_enter Try.func33, Try.ntmps33
  go_wp2_with fail
  refine HI.out.mono ?_
  rintro e w1 ⟨z, rfl, hz, hb1⟩
  rcases hz.out with ⟨rfl, h0⟩ | ⟨rfl, h0⟩
  · have _hd : decide (0 ≤ z) = true := decide_eq_true h0
    go_wp2
    go_ret
    exact ⟨rfl, hb1⟩
  · have _hd : decide (0 ≤ z) = false := decide_eq_false (by omega)
    go_wp2
    go_ret
    exact ⟨rfl, hb1⟩

end Go.Proofs.Ytdmeogkdoeaemaa
