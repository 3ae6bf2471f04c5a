/-
  Contracts of chapter 6: slices.ContainsFunc over packets, slices.Compare, the reference's test of a packet. No condition.
-/
import Derived.Test.YtndjpaiakodciaaNA
namespace Go.Proofs.Ytndjpaiakodciaa
open Go.RowKit

/-- The index of something, or -1. -/
def IxRes (b : Bool) (w : World) (e : Ending) (w' : World) : Prop := ∃ z : Int, e = .returned (.int .i64 z) ∧ Hid ((b = true ∧ 0 ≤ z) ∨ (b = false ∧ z < 0)) ∧ Below w.heap.size w w'
theorem allTake {α : Type} (l : List α) (f : α → Bool) {k : Nat} (hk : k < l.length) : (l.take (k + 1)).all f = ((l.take k).all f && f l[k]) := by
  rw [List.take_succ_eq_append_getElem hk, List.all_append]
  simp
theorem allBad {α : Type} {l : List α} {f : α → Bool} {k : Nat} (hk : k < l.length) (h : f l[k] = false) : l.all f = false := by
  rw [List.all_eq_false]
  exact ⟨l[k], List.getElem_mem hk, by simp [h]⟩

set_option maxRecDepth 100000 in
set_option maxHeartbeats 2000000 in
theorem nIndexFunc_any (q : List Pk) (v : Value) (w : World) (hQ : PksAt w w.heap.size v q) :
    Calls Try.prog 43 #[v, .func (.func 31) #[] #[]] w (IxRes (!q.all Pk.okB) w) := by
  obtain ⟨A, c, rfl, hm⟩ := hQ.form
  unfold maxLen at hm
  obtain ⟨n, hnn⟩ : ∃ n, q.length = n := ⟨_, rfl⟩
  rw [hnn] at hm hQ ⊢
  have HN := Lib.hid hnn
  have HQ := Lib.hid hQ
  clear hnn hQ
  go_enter Try.func43, Try.ntmps43
  go_wp2_with fail
  go_loopw [8] (fun i wr => ∃ j : Nat, j ≤ n ∧ i = .int .i64 j ∧ Below w.heap.size w wr ∧ Hid ((q.take j).all Pk.okB = true)) (fun i _ => n - (intOf i).toNat)
  case atStart => exact ⟨0, by omega, rfl, Below.refl _ _, rfl⟩
  case round =>
    obtain ⟨j, hj, rfl, hb, hall⟩ := hrel
    by_cases hlt : j < n
    · have hjl : j < q.length := by rw [HN.out]; exact hlt
      obtain ⟨b, off, V, rfl, hbw, q0, q1, q2, hV⟩ := HQ.out.pk hjl
      have q0 := (hb.cell hbw).trans q0
      have q1 := (hb.cell hbw).trans q1
      have q2 := (hb.cell hbw).trans q2
      have hV2 := Lib.hid ((hV.below hb).more hb.size)
      have htk := allTake q Pk.okB hjl
      have hbad := allBad (f := Pk.okB) hjl
      obtain ⟨y, hy⟩ : ∃ y, q[j] = y := ⟨_, rfl⟩
      rw [hy] at q0 q1 hV2 htk hbad
      rw [hall.out, Bool.true_and] at htk
      have htk := Lib.hid htk
      have hbad := Lib.hid hbad
      clear hy hV
      go_wp2_with fail
      refine (nPacket1_any y V _ hV2.out).mono ?_
      rintro e w1 ⟨rfl, hb1⟩
      have hb2 := hb.trans (hb1.mono hb.size)
      rcases hh : y.okB with _ | _
      · have hF := Lib.hid (hbad.out hh)
        go_wp2
        go_ret
        exact ⟨_, rfl, .inl ⟨by rw [hF.out]; rfl, by omega⟩, hb2⟩
      · go_wp2
        refine ⟨⟨j + 1, by omega, by go_num, hb2, ?_⟩, by simp [intOf]; omega⟩
        rw [Hid, htk.out]
        exact hh
    · obtain rfl : j = n := by omega
      have hF : Hid (q.all Pk.okB = true) := by
        have := hall.out
        rw [← HN.out, List.take_length] at this
        exact this
      go_wp2
      go_ret
      exact ⟨_, rfl, .inr ⟨by rw [hF.out]; rfl, by omega⟩, hb⟩

theorem nContainsFunc_any (q : List Pk) (v : Value) (w : World) (hQ : PksAt w w.heap.size v q) :
    Calls Try.prog 30 #[v, .func (.func 31) #[] #[]] w fun e w' => e = .returned (.bool (!q.all Pk.okB)) ∧ Below w.heap.size w w' := by
  obtain ⟨t, ht⟩ : ∃ t, (!q.all Pk.okB) = t := ⟨_, rfl⟩
  have hI := nIndexFunc_any q v w hQ
  rw [ht] at hI ⊢
  have HI := Lib.hid hI
  clear hI ht hQ
  go_enter Try.func30, Try.ntmps30
  go_wp2_with fail
  refine HI.out.mono ?_
  rintro e w1 ⟨z, rfl, hz, hb1⟩
  rcases hz.out with ⟨rfl, h0⟩ | ⟨rfl, h0⟩
  · have _hd : decide (0 ≤ z) = true := decide_eq_true h0
    go_wp2
    go_ret
    exact ⟨rfl, hb1⟩
  · have _hd : decide (0 ≤ z) = false := decide_eq_false (by omega)
    go_wp2
    go_ret
    exact ⟨rfl, hb1⟩

set_option maxHeartbeats 1000000 in
theorem nRPacket_any (p : Pk) (V : Value) (w : World) (hV : BytesAt w w.heap.size V p.data) : Calls Try.prog 29 #[p.v V] w fun e w' => e = .returned (.bool p.okB) ∧ Below w.heap.size w w' := by
  obtain ⟨A, c, rfl, hm⟩ := hV.form
  unfold maxLen at hm
  obtain ⟨n, hn⟩ : ∃ n, p.data.length = n := ⟨_, rfl⟩
  have hp : p.okB = (siteB p.src && (siteB p.dst && (decide (p.src ≠ p.dst) && decide ((n : Int) ≤ 1048576)))) := by
    rw [Pk.okB_ref, hn, show decide (n ≤ 1048576) = decide ((n : Int) ≤ 1048576) from decide_eq_decide.2 (by omega)]
  rw [hn] at hm hV ⊢
  rw [hp]
  clear hp hn hV
  have S1 : ∀ w, Calls Try.prog 34 #[.int .i64 p.src] w fun e w' => e = .returned (.bool (siteB p.src)) ∧ w = w' := fun w => nSite_any _ w
  have S2 : ∀ w, Calls Try.prog 34 #[.int .i64 p.dst] w fun e w' => e = .returned (.bool (siteB p.dst)) ∧ w = w' := fun w => nSite_any _ w
  obtain ⟨q1, hq1⟩ : ∃ q, siteB p.src = q := ⟨_, rfl⟩
  obtain ⟨q2, hq2⟩ : ∃ q, siteB p.dst = q := ⟨_, rfl⟩
  rw [hq1] at S1
  rw [hq2] at S2
  rw [hq1, hq2]
  have S1 := Lib.hid S1
  have S2 := Lib.hid S2
  clear hq1 hq2
  rcases q1 with _ | _ <;> rcases q2 with _ | _
  all_goals
    go_enter Try.func29, Try.ntmps29
    go_wp2_with (first | (go_at_call 34; with_reducible refine (S1.out _).mono ?_; rintro e w' ⟨rfl, rfl⟩) | (go_at_call 34; with_reducible refine (S2.out _).mono ?_; rintro e w' ⟨rfl, rfl⟩))
    all_goals
      go_ret
      refine ⟨?_, (Below.refl _ _).alloc (Nat.le_refl _) _⟩
      first | rfl | simp_all

set_option maxHeartbeats 1000000 in
theorem nCompare_any (x y : Int × Int) (b1 o1 c1 b2 o2 c2 : Nat) (w : World) (h1 : w.cell? ⟨b1, o1, none⟩ = some (.int .i64 x.1)) (h2 : w.cell? ⟨b1, o1 + 1, none⟩ = some (.int .i64 x.2)) (h3 : w.cell? ⟨b2, o2, none⟩ = some (.int .i64 y.1)) (h4 : w.cell? ⟨b2, o2 + 1, none⟩ = some (.int .i64 y.2)) :
    Calls Try.prog 33 #[.slice (some ⟨b1, o1, none⟩) 2 c1, .slice (some ⟨b2, o2, none⟩) 2 c2] w fun e w' => e = .returned (.int .i64 (cmpP x y)) ∧ w = w' := by
  have H : Hid (∀ k, k < 2 → w.cell? ⟨b1, o1 + k, none⟩ = some (.int .i64 (if k = 0 then x.1 else x.2)) ∧ w.cell? ⟨b2, o2 + k, none⟩ = some (.int .i64 (if k = 0 then y.1 else y.2))) := by
    intro k hk
    rcases (show k = 0 ∨ k = 1 by omega) with rfl | rfl
    · exact ⟨h1, h3⟩
    · exact ⟨h2, h4⟩
  clear h1 h2 h3 h4
  go_enter Try.func33, Try.ntmps33
  go_wp2_with fail
  go_loop [11] (fun i => ∃ k : Nat, k ≤ 2 ∧ i = .int .i64 k ∧ Hid (0 < k → cmpI x.1 y.1 = 0) ∧ Hid (1 < k → cmpI x.2 y.2 = 0)) (fun i => 2 - (intOf i).toNat)
  case atStart => exact ⟨0, by omega, rfl, fun h => absurd h (by omega), fun h => absurd h (by omega)⟩
  case round =>
    obtain ⟨k, hk, rfl, e1, e2⟩ := hrel
    by_cases hlt : k < 2
    · obtain ⟨q1, q2⟩ := H.out k hlt
      obtain ⟨c, hc⟩ : ∃ c, cmpI (if k = 0 then x.1 else x.2) (if k = 0 then y.1 else y.2) = c := ⟨_, rfl⟩
      have HC := Lib.hid hc
      have S : ∀ w, Calls Try.prog 44 #[.int .i64 (if k = 0 then x.1 else x.2), .int .i64 (if k = 0 then y.1 else y.2)] w fun e w' => e = .returned (.int .i64 c) ∧ w = w' := fun w => by rw [← hc]; exact nCmp_any _ _ w
      have S := Lib.hid S
      clear hc
      obtain ⟨u, hu⟩ : ∃ u, (if k = 0 then x.1 else x.2) = u := ⟨_, rfl⟩
      obtain ⟨v, hv⟩ : ∃ v, (if k = 0 then y.1 else y.2) = v := ⟨_, rfl⟩
      rw [hu, hv] at S HC
      rw [hu] at q1
      rw [hv] at q2
      have HU := Lib.hid hu
      have HV := Lib.hid hv
      clear hu hv
      by_cases h0 : c = 0
      · subst h0
        go_wp2_with (go_at_call 44; refine (S.out _).mono ?_; rintro e w' ⟨rfl, rfl⟩)
        refine ⟨⟨k + 1, by omega, by go_num, fun _ => ?_, fun h => ?_⟩, by simp [intOf]; omega⟩
        · rcases (show k = 0 ∨ k = 1 by omega) with rfl | rfl
          · have := HC.out; rw [← HU.out, ← HV.out] at this; simpa using this
          · exact e1.out (by omega)
        · obtain rfl : k = 1 := by omega
          have := HC.out; rw [← HU.out, ← HV.out] at this; simpa using this
      · have _h1 : (c != 0) = true := by simp [h0]
        go_wp2_with (go_at_call 44; refine (S.out _).mono ?_; rintro e w' ⟨rfl, rfl⟩)
        go_ret
        refine ⟨?_, rfl⟩
        have hc := HC.out
        rw [← HU.out, ← HV.out] at hc
        rcases (show k = 0 ∨ k = 1 by omega) with rfl | rfl
        · have hc : cmpI x.1 y.1 = c := by simpa using hc
          rw [cmpP, hc, if_pos h0]
          rfl
        · have hc : cmpI x.2 y.2 = c := by simpa using hc
          rw [cmpP, e1.out (by omega), if_neg (by simp), hc]
          rfl
    · obtain rfl : k = 2 := by omega
      go_wp2
      go_ret
      refine ⟨?_, rfl⟩
      rw [cmpP, e1.out (by omega), if_neg (by simp), e2.out (by omega)]
      rfl

end Go.Proofs.Ytndjpaiakodciaa
