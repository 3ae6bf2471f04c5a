/- play and possible of the law's file of chapter 33. (Printed by gen_nl.py and pp.py.) No condition. -/
import Derived.Test.YtancngachnpefaaQMI
import Derived.Test.YtancngachnpefaaQMQ
import Derived.Test.YtancngachnpefaaQBU
import Derived.Test.YtancngachnpefaaQBP
import Derived.Test.YtancngachnpefaaQK
import Derived.Test.YtancngachnpefaaQBB
set_option linter.unusedVariables false
set_option linter.unusedSimpArgs false
set_option maxRecDepth 100000
set_option maxHeartbeats 4000000
namespace Go.Proofs.Ytancngachnpefaa
open Go.RowKit Go.Shelf
attribute [local go_sem] Oper.semAt_some
def ShRd (w : World) (V : Value) (l : List Sh) : Prop := ∃ A c, V = .slice A l.length c ∧ l.length ≤ 1048576 ∧ ∀ (k : Nat) (hk : k < l.length), ∃ g, A = some ⟨g, 0, none⟩ ∧ g < w.heap.size ∧ w.cell? ⟨g, k * 2, none⟩ = some (.int .i64 l[k].feed) ∧ w.cell? ⟨g, k * 2 + 1, none⟩ = some (.int .i64 l[k].msg)
theorem ShRd.later {w w' : World} {V : Value} {l : List Sh} (h : ShRd w V l) (hb : Below w.heap.size w w') : ShRd w' V l := by
  obtain ⟨A, c, h1, h2, h3⟩ := h
  refine ⟨A, c, h1, h2, fun k hk => ?_⟩
  obtain ⟨g, e1, e2, e3, e4⟩ := h3 k hk
  exact ⟨g, e1, Nat.lt_of_lt_of_le e2 hb.size, (hb.cell e2).trans e3, (hb.cell e2).trans e4⟩
theorem ShAt.rd {w : World} {D : Nat} {V : Value} {l : List Sh} (h : ShAt w D V l) : ShRd w V l := by
  rcases h with ⟨rfl, rfl⟩ | ⟨g, c, rfl, _, h2, h3⟩
  · exact ⟨none, 0, rfl, Nat.zero_le _, fun k hk => by simp at hk⟩
  · refine ⟨_, _, rfl, h2, fun k hk => ⟨g, rfl, h3.lt, ?_, ?_⟩⟩
    · have := (h3.cell hk).1
      rw [List.getD_eq_getElem?_getD, List.getElem?_eq_getElem hk] at this
      exact this
    · have := (h3.cell hk).2
      rw [List.getD_eq_getElem?_getD, List.getElem?_eq_getElem hk] at this
      exact this
theorem OwnSh.rd {w : World} {D : Nat} {V : Value} {l : List Sh} (h : OwnSh w D V l) (hl : l.length ≤ 1048576) : ShRd w V l := by
  obtain ⟨A, c, rfl⟩ := ownE_form h (fun _ => rfl)
  refine ⟨A, c, rfl, hl, fun k hk => ?_⟩
  obtain ⟨g, rfl, _, h1, h2, h3⟩ := ownSh_cells h hk
  exact ⟨g, rfl, h1, h2, h3⟩
end Go.Proofs.Ytancngachnpefaa
namespace Go.Proofs.Ytancngachnpefaa
open Go.RowKit
attribute [local go_sem] Oper.semAt_some
attribute [local go_sem ↓ high] eq_state eq_shock
def StRd (w : World) (V : Value) (l : List St) : Prop := ∃ A c, V = .slice A l.length c ∧ l.length ≤ 1048576 ∧ ∀ (k : Nat) (hk : k < l.length), ∃ g, A = some ⟨g, 0, none⟩ ∧ g < w.heap.size ∧ w.cell? ⟨g, k * 6, none⟩ = some (.int .i64 l[k].level) ∧ w.cell? ⟨g, k * 6 + 1, none⟩ = some (.int .i64 l[k].position) ∧ w.cell? ⟨g, k * 6 + 2, none⟩ = some (.int .i64 l[k].p0) ∧ w.cell? ⟨g, k * 6 + 3, none⟩ = some (.int .i64 l[k].p1) ∧ w.cell? ⟨g, k * 6 + 4, none⟩ = some (.int .i64 l[k].order) ∧ w.cell? ⟨g, k * 6 + 5, none⟩ = some (.int .i64 l[k].age)
theorem StRd.later {w w' : World} {V : Value} {l : List St} (h : StRd w V l) (hb : Below w.heap.size w w') : StRd w' V l := by
  obtain ⟨A, c, h1, h2, h3⟩ := h
  refine ⟨A, c, h1, h2, fun k hk => ?_⟩
  obtain ⟨g, e1, e2, q0, q1, q2, q3, q4, q5⟩ := h3 k hk
  exact ⟨g, e1, Nat.lt_of_lt_of_le e2 hb.size, (hb.cell e2).trans q0, (hb.cell e2).trans q1, (hb.cell e2).trans q2, (hb.cell e2).trans q3, (hb.cell e2).trans q4, (hb.cell e2).trans q5⟩
theorem OwnSt.rd {w : World} {D : Nat} {V : Value} {l : List St} (h : OwnSt w D V l) (hl : l.length ≤ 1048576) : StRd w V l := by
  obtain ⟨A, c, rfl⟩ := ownE_form h (fun _ => rfl)
  refine ⟨A, c, rfl, hl, fun k hk => ?_⟩
  obtain ⟨g, rfl, _, h1, h2⟩ := ownSt_cells h hk
  exact ⟨g, rfl, h1, h2⟩
theorem rbSameStates_is (V1 V2 : Value) (l : List St) (w : World) (h1 : StRd w V1 l) (h2 : StRd w V2 l) : Calls Try.prog 18 #[V1, V2] w fun e w' => e = .returned (.bool true) ∧ Below w.heap.size w w' := by
  obtain ⟨A1, c1, rfl, hl, k1⟩ := h1
  obtain ⟨A2, c2, rfl, _, k2⟩ := h2
  have K1 := Lib.hid k1
  have K2 := Lib.hid k2
  obtain ⟨n, hn⟩ : ∃ n, l.length = n := ⟨_, rfl⟩
  rw [hn] at hl ⊢
  have HN := Lib.hid hn
  clear k1 k2 hn
  go_enter Try.func18, Try.ntmps18
  go_wp2_with fail
  go_loopw [5] (fun i wr => ∃ j : Nat, j ≤ n ∧ i = .int .i64 j ∧ Below w.heap.size w wr) (fun i _ => n - (intOf i).toNat)
  case atStart => exact ⟨0, Nat.zero_le _, rfl, Below.refl _ _⟩
  case round =>
    obtain ⟨j, hj, rfl, hb⟩ := hrel
    obtain ⟨wo, rfl⟩ : ∃ wo : World, wo = wr := ⟨_, rfl⟩
    rcases Nat.lt_or_ge j n with hlt | hge
    rotate_left
    · obtain rfl : j = n := by omega
      have e0 : ¬ (j : Int) < (j : Int) := by omega
      go_wp2
      go_ret
      exact ⟨rfl, hb⟩
    have e0 : (j : Int) < (n : Int) := by omega
    have hjl : j < l.length := by rw [HN.out]; exact hlt
    obtain ⟨g1, hA1, hg1, c0, c1, c2, c3, c4, c5⟩ := K1.out j hjl
    obtain ⟨g2, hA2, hg2, d0, d1, d2, d3, d4, d5⟩ := K2.out j hjl
    subst hA1 hA2
    generalize l[j] = s at c0 c1 c2 c3 c4 c5 d0 d1 d2 d3 d4 d5
    obtain ⟨s0, s1, s2, s3, s4, s5⟩ := s
    dsimp only at c0 c1 c2 c3 c4 c5 d0 d1 d2 d3 d4 d5
    have c0 := (hb.cell hg1).trans c0
    have d0 := (hb.cell hg2).trans d0
    have c1 := (hb.cell hg1).trans c1
    have d1 := (hb.cell hg2).trans d1
    have c2 := (hb.cell hg1).trans c2
    have d2 := (hb.cell hg2).trans d2
    have c3 := (hb.cell hg1).trans c3
    have d3 := (hb.cell hg2).trans d3
    have c4 := (hb.cell hg1).trans c4
    have d4 := (hb.cell hg2).trans d4
    have c5 := (hb.cell hg1).trans c5
    have d5 := (hb.cell hg2).trans d5
    have z1 := Nat.lt_of_lt_of_le hg1 hb.size
    have z2 := Nat.lt_of_lt_of_le hg2 hb.size
    have hd := (Below.refl wo.heap.size wo).drew
    have c0z : ∀ q : Later wo, q.w.cell? ⟨g1, j * 6, none⟩ = some (.int .i64 s0) := Later.cell c0 z1
    have d0z : ∀ q : Later wo, q.w.cell? ⟨g2, j * 6, none⟩ = some (.int .i64 s0) := Later.cell d0 z2
    have c1z : ∀ q : Later wo, q.w.cell? ⟨g1, j * 6 + 1, none⟩ = some (.int .i64 s1) := Later.cell c1 z1
    have d1z : ∀ q : Later wo, q.w.cell? ⟨g2, j * 6 + 1, none⟩ = some (.int .i64 s1) := Later.cell d1 z2
    have c2z : ∀ q : Later wo, q.w.cell? ⟨g1, j * 6 + 2, none⟩ = some (.int .i64 s2) := Later.cell c2 z1
    have d2z : ∀ q : Later wo, q.w.cell? ⟨g2, j * 6 + 2, none⟩ = some (.int .i64 s2) := Later.cell d2 z2
    have c3z : ∀ q : Later wo, q.w.cell? ⟨g1, j * 6 + 3, none⟩ = some (.int .i64 s3) := Later.cell c3 z1
    have d3z : ∀ q : Later wo, q.w.cell? ⟨g2, j * 6 + 3, none⟩ = some (.int .i64 s3) := Later.cell d3 z2
    have c4z : ∀ q : Later wo, q.w.cell? ⟨g1, j * 6 + 4, none⟩ = some (.int .i64 s4) := Later.cell c4 z1
    have d4z : ∀ q : Later wo, q.w.cell? ⟨g2, j * 6 + 4, none⟩ = some (.int .i64 s4) := Later.cell d4 z2
    have c5z : ∀ q : Later wo, q.w.cell? ⟨g1, j * 6 + 5, none⟩ = some (.int .i64 s5) := Later.cell c5 z1
    have d5z : ∀ q : Later wo, q.w.cell? ⟨g2, j * 6 + 5, none⟩ = some (.int .i64 s5) := Later.cell d5 z2
    have hsm : sameS ⟨s0, s1, s2, s3, s4, s5⟩ ⟨s0, s1, s2, s3, s4, s5⟩ = true := sameS_true rfl
    clear c0 d0 c1 d1 c2 d2 c3 d3 c4 d4 c5 d5 hjl
    go_upto_region 6 with fail
    refine wp_region_heads (C := fun w' => ∃ x : Later wo, w' = x.w) [0, 1, 2, 3, 4, 5, 6, 7, 8] (by kernel_rfl) (by kernel_rfl) (Later.mk' hd) (fun _ _ h => h) ?_
    simp only [headOps, List.filterMap_cons, List.filterMap_nil, List.getElem?_toArray, List.getElem?_cons_succ, List.getElem?_cons_zero]
    repeat (first | go_big_quiet_skip | (show wpQuiet _ _ _ _ (_ :: _) _; go_big_quiet_skip) | (show wpQuiet _ _ _ _ (_ :: _) _; go_big_quiet_want; go_big_quiet_op; go_big_quiet_on))
    refine wpQuiet_nil ?_
    clear c0z d0z c1z d1z c2z d2z c3z d3z c4z d4z c5z d5z
    refine anyC_done (by kernel_rfl) (Later.mk' hd) ?_
    go_wp2
    exact ⟨⟨j + 1, Nat.succ_le_of_lt hlt, by go_num, hb.trans (hd.mono hb.size)⟩, by simp [intOf]; omega⟩
theorem rbSameShocks_is (V1 V2 : Value) (l : List Sh) (w : World) (h1 : ShRd w V1 l) (h2 : ShRd w V2 l) : Calls Try.prog 21 #[V1, V2] w fun e w' => e = .returned (.bool true) ∧ Below w.heap.size w w' := by
  obtain ⟨A1, c1, rfl, hl, k1⟩ := h1
  obtain ⟨A2, c2, rfl, _, k2⟩ := h2
  have K1 := Lib.hid k1
  have K2 := Lib.hid k2
  obtain ⟨n, hn⟩ : ∃ n, l.length = n := ⟨_, rfl⟩
  rw [hn] at hl ⊢
  have HN := Lib.hid hn
  clear k1 k2 hn
  go_enter Try.func21, Try.ntmps21
  go_wp2_with fail
  go_loopw [5] (fun i wr => ∃ j : Nat, j ≤ n ∧ i = .int .i64 j ∧ Below w.heap.size w wr) (fun i _ => n - (intOf i).toNat)
  case atStart => exact ⟨0, Nat.zero_le _, rfl, Below.refl _ _⟩
  case round =>
    obtain ⟨j, hj, rfl, hb⟩ := hrel
    obtain ⟨wo, rfl⟩ : ∃ wo : World, wo = wr := ⟨_, rfl⟩
    rcases Nat.lt_or_ge j n with hlt | hge
    rotate_left
    · obtain rfl : j = n := by omega
      have e0 : ¬ (j : Int) < (j : Int) := by omega
      go_wp2
      go_ret
      exact ⟨rfl, hb⟩
    have e0 : (j : Int) < (n : Int) := by omega
    have hjl : j < l.length := by rw [HN.out]; exact hlt
    obtain ⟨g1, hA1, hg1, c0, c1⟩ := K1.out j hjl
    obtain ⟨g2, hA2, hg2, d0, d1⟩ := K2.out j hjl
    subst hA1 hA2
    generalize l[j] = s at c0 c1 d0 d1
    obtain ⟨s0, s1⟩ := s
    dsimp only at c0 c1 d0 d1
    have c0 := (hb.cell hg1).trans c0
    have d0 := (hb.cell hg2).trans d0
    have c1 := (hb.cell hg1).trans c1
    have d1 := (hb.cell hg2).trans d1
    have z1 := Nat.lt_of_lt_of_le hg1 hb.size
    have z2 := Nat.lt_of_lt_of_le hg2 hb.size
    have hd := (Below.refl wo.heap.size wo).drew
    have c0z : ∀ q : Later wo, q.w.cell? ⟨g1, j * 2, none⟩ = some (.int .i64 s0) := Later.cell c0 z1
    have d0z : ∀ q : Later wo, q.w.cell? ⟨g2, j * 2, none⟩ = some (.int .i64 s0) := Later.cell d0 z2
    have c1z : ∀ q : Later wo, q.w.cell? ⟨g1, j * 2 + 1, none⟩ = some (.int .i64 s1) := Later.cell c1 z1
    have d1z : ∀ q : Later wo, q.w.cell? ⟨g2, j * 2 + 1, none⟩ = some (.int .i64 s1) := Later.cell d1 z2
    clear c0 d0 c1 d1 hjl
    go_upto_region 6 with fail
    refine wp_region_heads (C := fun w' => ∃ x : Later wo, w' = x.w) [0, 1, 2, 3, 4, 5, 6, 7, 8] (by kernel_rfl) (by kernel_rfl) (Later.mk' hd) (fun _ _ h => h) ?_
    simp only [headOps, List.filterMap_cons, List.filterMap_nil, List.getElem?_toArray, List.getElem?_cons_succ, List.getElem?_cons_zero]
    repeat (first | go_big_quiet_skip | (show wpQuiet _ _ _ _ (_ :: _) _; go_big_quiet_skip) | (show wpQuiet _ _ _ _ (_ :: _) _; go_big_quiet_want; go_big_quiet_op; go_big_quiet_on))
    refine wpQuiet_nil ?_
    clear c0z d0z c1z d1z
    refine anyC_done (by kernel_rfl) (Later.mk' hd) ?_
    go_wp2
    exact ⟨⟨j + 1, Nat.succ_le_of_lt hlt, by go_num, hb.trans (hd.mono hb.size)⟩, by simp [intOf]; omega⟩
end Go.Proofs.Ytancngachnpefaa
namespace Go.Proofs.Ytancngachnpefaa
open Go.RowKit
attribute [local go_sem] Oper.semAt_some
theorem rbStays_is (gr gs n cr m cs : Nat) (f : Nat → Nat) (bs : List Bool) (w : World) (hr : ∀ k, k < n → w.cell? ⟨gr, k, none⟩ = some (.int .i64 (f k : Nat))) (hgr : gr < w.heap.size) (hf : ∀ k, k < n → f k < m) (hs : Box w gs (bs.map Value.bool)) (hm : bs.length = m) (hm2 : m ≤ 1048576) (hn : n ≤ 1048576) {q : Bool} (hq : Hid ((List.range n).all (fun k => bs.getD (f k) false) = q)) :
    Calls Try.prog 50 #[.slice (some ⟨gr, 0, none⟩) n cr, .slice (some ⟨gs, 0, none⟩) m cs] w fun e w' => e = .returned (.bool q) ∧ Below w.heap.size w w' := by
  have HR := Lib.hid hr
  have HF := Lib.hid hf
  have HM := Lib.hid hm
  clear hr hf hm
  go_enter Try.func50, Try.ntmps50
  go_wp2_with fail
  go_loopw [5] (fun i wr => ∃ j : Nat, j ≤ n ∧ i = .int .i64 j ∧ Below w.heap.size w wr ∧ Hid (∀ k, k < j → bs.getD (f k) false = true)) (fun i _ => n - (intOf i).toNat)
  case atStart => exact ⟨0, Nat.zero_le _, rfl, Below.refl _ _, Lib.hid (fun k hk => absurd hk (Nat.not_lt_zero k))⟩
  case round =>
    obtain ⟨j, hj, rfl, hb, hall⟩ := hrel
    obtain ⟨wo, rfl⟩ : ∃ wo : World, wo = wr := ⟨_, rfl⟩
    rcases Nat.lt_or_ge j n with hlt | hge
    rotate_left
    · obtain rfl : j = n := by omega
      have e0 : ¬ (j : Int) < (j : Int) := by omega
      have hqt : q = true := by
        rw [← hq.out, List.all_eq_true]
        exact fun k hk => hall.out k (List.mem_range.1 hk)
      subst hqt
      go_wp2
      go_ret
      exact ⟨rfl, hb⟩
    have e0 : (j : Int) < (n : Int) := by omega
    have c0 := (hb.cell hgr).trans (HR.out j hlt)
    have hfj := HF.out j hlt
    obtain ⟨t, ht⟩ : ∃ t, bs.getD (f j) false = t := ⟨_, rfl⟩
    have c1 : wo.cell? ⟨gs, f j, none⟩ = some (.bool t) := by
      have h9 := (hs.later hb).cell (f j)
      rw [h9, List.getElem?_map, ← ht, List.getD_eq_getElem?_getD, List.getElem?_eq_getElem (by rw [HM.out]; exact hfj)]
      rfl
    have z1 := Nat.lt_of_lt_of_le hgr hb.size
    have z2 := (hs.later hb).lt
    have e1 : ((f j : Nat) : Int) < (m : Int) := by omega
    have HT := Lib.hid ht
    clear ht
    obtain ⟨fj, hj0⟩ : ∃ fj, f j = fj := ⟨_, rfl⟩
    rw [hj0] at c0 c1 e1 hfj HT
    have HFJ := Lib.hid hj0
    clear hj0
    cases t with
    | true =>
      go_wp2
      exact ⟨⟨j + 1, Nat.succ_le_of_lt hlt, by go_num, hb, Lib.hid (fun k hk => by
        rcases Nat.lt_or_ge k j with h9 | h9
        · exact hall.out k h9
        · have h10 : k = j := by omega
          rw [h10, HFJ.out]
          exact HT.out)⟩, by simp [intOf]; omega⟩
    | false =>
      have hqf : q = false := by
        rw [← hq.out, List.all_eq_false]
        exact ⟨j, List.mem_range.2 hlt, by rw [HFJ.out, HT.out]; decide⟩
      subst hqf
      go_wp2
      go_ret
      exact ⟨rfl, hb⟩
end Go.Proofs.Ytancngachnpefaa
namespace Go.Proofs.Ytancngachnpefaa
open Go.RowKit
end Go.Proofs.Ytancngachnpefaa
namespace Go.Proofs.Ytancngachnpefaa
open Go.RowKit
theorem bCert_is {p : Pl} {c : List Ln} {b : List Iq} {V U : Value} {w : World} {t : Bool} {f : Fw} {er : Int} (h : Hid (certT p c b = (t, f, er))) (hC : CodeAt w w.heap.size V c) (hQ : BarAt w w.heap.size U b) :
    Calls Try.prog 14 #[p.v, .agg #[V], U] w fun e w' => e = .returned (.tuple #[.bool t, f.v, .int .i64 er]) ∧ Below w.heap.size w w' := by
  have h := h.out
  obtain ⟨A1, k, rfl, _⟩ := hQ.form
  obtain ⟨A2, k2, rfl, _⟩ := hC.form
  unfold certT at h
  by_cases h0 : askT p c = 0
  · rw [if_pos h0] at h
    by_cases hb : barT b = 0
    · rw [if_pos hb] at h
      obtain ⟨b0, b1, b2, b3, b4, b5, be, hbe⟩ : ∃ b0 b1 b2 b3 b4 b5 be, Hid (p.beginT = (⟨b0, b1, b2, b3, b4, b5⟩, be)) := ⟨_, _, _, _, _, _, _, rfl⟩
      by_cases hi : inB b p.beginT.1 = true
      · rw [if_pos hi] at h
        have hv := (Pl.check_zero (ask_zero h0).1).1
        rcases hf : p.states.findSome? (flawAt p c b) with _ | f'
        · rw [hf] at h
          simp only [Prod.mk.injEq] at h
          obtain ⟨rfl, rfl, rfl⟩ := h
          exact bCert_3 p c b A1 A2 _ k _ k2 w h0 hb hi hv b0 b1 b2 b3 b4 b5 be hbe true Fw.zero (by rw [Hid, hf]; rfl) (fun _ => rfl) hC hQ
        · rw [hf] at h
          simp only [Prod.mk.injEq] at h
          obtain ⟨rfl, rfl, rfl⟩ := h
          exact bCert_3 p c b A1 A2 _ k _ k2 w h0 hb hi hv b0 b1 b2 b3 b4 b5 be hbe false f' (by rw [Hid, hf]; rfl) (fun e => by cases e) hC hQ
      · rw [if_neg hi] at h
        simp only [Prod.mk.injEq] at h
        obtain ⟨rfl, rfl, rfl⟩ := h
        have hq : p.beginT.1 = ⟨b0, b1, b2, b3, b4, b5⟩ := congrArg Prod.fst hbe.out
        rw [hq]
        exact bCert_2 p c b A1 A2 _ k _ k2 w h0 hb (by rw [Hid]; exact Bool.eq_false_iff.2 hi) b0 b1 b2 b3 b4 b5 be hbe hC hQ
    · rw [if_neg hb] at h
      simp only [Prod.mk.injEq] at h
      obtain ⟨rfl, rfl, h2⟩ := h
      exact bCert_1 p c b A1 A2 _ k _ k2 w er h0 h2 (by rw [← h2]; exact hb) hC hQ
  · rw [if_neg h0] at h
    simp only [Prod.mk.injEq] at h
    obtain ⟨rfl, rfl, h2⟩ := h
    exact bCert_0 p c b A1 A2 _ k _ k2 w er h2 (by rw [← h2]; exact h0) hC hQ
end Go.Proofs.Ytancngachnpefaa
namespace Go.Proofs.Ytancngachnpefaa
open Go.RowKit
end Go.Proofs.Ytancngachnpefaa
namespace Go.Proofs.Ytancngachnpefaa
open Go.RowKit
attribute [local go_sem] Oper.semAt_some
theorem m0_bd {p : Pl} (hv : p.Valid) : 0 ≤ p.m0 ∧ p.m0 ≤ 15 ∧ 0 ≤ p.m1 ∧ p.m1 ≤ 15 := by
  have h := hv.feed
  unfold Pl.m0 Pl.m1
  refine ⟨?_, ?_, ?_, ?_⟩ <;> split <;> omega
theorem idx_int {p : Pl} (hv : p.Valid) {s : St} (h : p.hasB s = true) : (p.idx s : Int) = ((((s.level * (p.positions + 1) + s.position) * (p.m0 + 1) + s.p0) * (p.m1 + 1) + s.p1) * (p.orders + 1) + s.order) * (p.age + 1) + s.age ∧ 0 ≤ s.level ∧ s.level ≤ 63 ∧ 0 ≤ s.position ∧ s.position ≤ 15 ∧ 0 ≤ s.p0 ∧ s.p0 ≤ 15 ∧ 0 ≤ s.p1 ∧ s.p1 ≤ 15 ∧ 0 ≤ s.order ∧ s.order ≤ 7 ∧ 0 ≤ s.age ∧ s.age ≤ 7 := by
  obtain ⟨m1, m2⟩ := hv.maxes
  simp only [Pl.hasB, Bool.and_eq_true, inI, decide_eq_true_eq, ← m1, ← m2] at h
  obtain ⟨l0, l1, l2, l3, l4, l5⟩ := h
  have h1 := hv.positions
  have h2 := hv.top
  have h3 := hv.orders
  have h4 := hv.age
  obtain ⟨b0, b1, b2, b3⟩ := m0_bd hv
  have e0 : (p.n0 : Int) = p.positions + 1 := by unfold Pl.n0; omega
  have e1 : (p.no : Int) = p.orders + 1 := by unfold Pl.no; omega
  have e2 : (p.na : Int) = p.age + 1 := by unfold Pl.na; omega
  have e3 : (p.nx : Int) = p.m0 + 1 := by unfold Pl.m0; omega
  have e4 : (p.ny : Int) = p.m1 + 1 := by unfold Pl.m1; omega
  have t0 : ((s.level.toNat : Nat) : Int) = s.level := by omega
  have t1 : ((s.position.toNat : Nat) : Int) = s.position := by omega
  have t2 : ((s.p0.toNat : Nat) : Int) = s.p0 := by omega
  have t3 : ((s.p1.toNat : Nat) : Int) = s.p1 := by omega
  have t4 : ((s.order.toNat : Nat) : Int) = s.order := by omega
  have t5 : ((s.age.toNat : Nat) : Int) = s.age := by omega
  refine ⟨?_, by omega, by omega, by omega, by omega, by omega, by omega, by omega, by omega, by omega, by omega, by omega, by omega⟩
  unfold Pl.idx
  simp only [Int.natCast_add, Int.natCast_mul, t0, t1, t2, t3, t4, t5, e0, e1, e2, e3, e4]
theorem wraps {x : Int} (h : -4611686018427387904 ≤ x ∧ x ≤ 4611686018427387904) : wrap64 x = x ∧ IntKind.i64.wrap x = x := by
  constructor
  · unfold wrap64; omega
  · rw [IntKind.wrap_i64]; omega
theorem idx_bd {n P x B : Int} (h0 : 0 ≤ n ∧ n ≤ B) (hP : 0 ≤ P ∧ P ≤ 15) (hx : 0 ≤ x ∧ x ≤ 15) : 0 ≤ n * (P + 1) ∧ n * (P + 1) ≤ B * 16 ∧ 0 ≤ n * (P + 1) + x ∧ n * (P + 1) + x ≤ B * 16 + 15 := by
  have h1 : 0 ≤ n * (P + 1) := Int.mul_nonneg h0.1 (by omega)
  have h2 : n * (P + 1) ≤ B * 16 := Int.mul_le_mul h0.2 (by omega) (by omega) (by omega)
  omega
theorem rbIndex_is {p : Pl} {s : St} (hv : Hid p.Valid) (h : Hid (p.hasB s = true)) (w : World) : Calls Try.prog 51 #[p.v, s.v] w fun e w' => e = .returned (.int .i64 (p.idx s : Nat)) ∧ Below w.heap.size w w' := by
  obtain ⟨hi, l0, l1, l2, l3, l4, l5, l6, l7, l8, l9, l10, l11⟩ := idx_int hv.out h.out
  have hp1 := hv.out.positions
  have hp2 := hv.out.orders
  have hp3 := hv.out.age
  have hpp := hv.out.pipe
  obtain ⟨b0, b1, b2, b3⟩ := m0_bd hv.out
  rw [hi]
  obtain ⟨s0, s1, s2, s3, s4, s5⟩ := s
  dsimp only at l0 l1 l2 l3 l4 l5 l6 l7 l8 l9 l10 l11 ⊢
  clear hi h
  obtain ⟨M0, hM0⟩ : ∃ M0, p.m0 = M0 := ⟨_, rfl⟩
  obtain ⟨M1, hM1⟩ : ∃ M1, p.m1 = M1 := ⟨_, rfl⟩
  have HM0 := Lib.hid hM0
  have HM1 := Lib.hid hM1
  rw [hM0] at b0 b1
  rw [hM1] at b2 b3
  rw [hM0, hM1]
  clear hM0 hM1
  go_enter Try.func51, Try.ntmps51
  go_wp2_with fail
  have hB := ((Below.refl w.heap.size w).alloc (by simp <;> omega) (.cells #[.int .i64 p.top, .int .i64 p.bank, .int .i64 p.siphon, .int .i64 p.start, .int .i64 p.positions, .int .i64 p.rate, .int .i64 p.step, .int .i64 p.pass, .int .i64 p.feed, .int .i64 p.pipe, .int .i64 p.orders, .int .i64 p.age] 23)).alloc (by simp <;> omega) (.cells #[.int .i64 s0, .int .i64 s1, .int .i64 s2, .int .i64 s3, .int .i64 s4, .int .i64 s5] 30)
  have X2 := (Box.newAt (w := w) (n := w.heap.size) [.int .i64 p.top, .int .i64 p.bank, .int .i64 p.siphon, .int .i64 p.start, .int .i64 p.positions, .int .i64 p.rate, .int .i64 p.step, .int .i64 p.pass, .int .i64 p.feed, .int .i64 p.pipe, .int .i64 p.orders, .int .i64 p.age] 23 rfl).alloc (.cells #[.int .i64 s0, .int .i64 s1, .int .i64 s2, .int .i64 s3, .int .i64 s4, .int .i64 s5] 30)
  have X3 := Box.newAt (w := w.alloc (.cells #[.int .i64 p.top, .int .i64 p.bank, .int .i64 p.siphon, .int .i64 p.start, .int .i64 p.positions, .int .i64 p.rate, .int .i64 p.step, .int .i64 p.pass, .int .i64 p.feed, .int .i64 p.pipe, .int .i64 p.orders, .int .i64 p.age] 23)) (n := w.heap.size + 1) [.int .i64 s0, .int .i64 s1, .int .i64 s2, .int .i64 s3, .int .i64 s4, .int .i64 s5] 30 (by simp)
  generalize (w.alloc (.cells #[.int .i64 p.top, .int .i64 p.bank, .int .i64 p.siphon, .int .i64 p.start, .int .i64 p.positions, .int .i64 p.rate, .int .i64 p.step, .int .i64 p.pass, .int .i64 p.feed, .int .i64 p.pipe, .int .i64 p.orders, .int .i64 p.age] 23)).alloc (.cells #[.int .i64 s0, .int .i64 s1, .int .i64 s2, .int .i64 s3, .int .i64 s4, .int .i64 s5] 30) = w0 at X2 X3 hB ⊢
  refine (rbPipes_is hpp).mono ?_
  rintro e w1 ⟨rfl, hb⟩
  rw [HM0.out, HM1.out]
  replace X2 := X2.later hb
  replace X3 := X3.later hb
  replace hB := hB.trans (hb.mono hB.size)
  clear hb
  have c4 : w1.cell? ⟨w.heap.size, 4, none⟩ = some (.int .i64 p.positions) := X2.cell 4
  have c10 : w1.cell? ⟨w.heap.size, 10, none⟩ = some (.int .i64 p.orders) := X2.cell 10
  have c11 : w1.cell? ⟨w.heap.size, 11, none⟩ = some (.int .i64 p.age) := X2.cell 11
  obtain ⟨X3c0, X3c1, X3c2, X3c3, X3c4, X3c5⟩ := X3.c6
  have z2 := X2.lt
  have z3 := X3.lt
  go_upto_region 3 with fail
  obtain ⟨g00, g01, g02, g03⟩ := idx_bd (n := s0) (P := p.positions) (x := s1) (B := 63) ⟨l0, l1⟩ ⟨by omega, by omega⟩ ⟨by omega, by omega⟩
  have w0a := (wraps (x := p.positions + 1) (by omega)).1
  have w0b := (wraps (x := p.positions + 1) (by omega)).2
  have w0c := (wraps (x := s0 * (p.positions + 1)) (by omega)).1
  have w0d := (wraps (x := s0 * (p.positions + 1)) (by omega)).2
  have w0e := (wraps (x := s0 * (p.positions + 1) + s1) (by omega)).1
  have w0f := (wraps (x := s0 * (p.positions + 1) + s1) (by omega)).2
  go_upto_region 4 with fail
  clear w0a w0b w0c w0d w0e w0f g00 g01
  obtain ⟨n1, hn0⟩ : ∃ n1, s0 * (p.positions + 1) + s1 = n1 := ⟨_, rfl⟩
  rw [hn0] at g02 g03 ⊢
  have E0 := Lib.hid hn0
  clear hn0
  obtain ⟨g10, g11, g12, g13⟩ := idx_bd (n := n1) (P := M0) (x := s2) (B := 1023) ⟨g02, g03⟩ ⟨b0, b1⟩ ⟨by omega, by omega⟩
  have w1a := (wraps (x := M0 + 1) (by omega)).1
  have w1b := (wraps (x := M0 + 1) (by omega)).2
  have w1c := (wraps (x := n1 * (M0 + 1)) (by omega)).1
  have w1d := (wraps (x := n1 * (M0 + 1)) (by omega)).2
  have w1e := (wraps (x := n1 * (M0 + 1) + s2) (by omega)).1
  have w1f := (wraps (x := n1 * (M0 + 1) + s2) (by omega)).2
  go_upto_region 5 with fail
  clear w1a w1b w1c w1d w1e w1f g10 g11
  obtain ⟨n2, hn1⟩ : ∃ n2, n1 * (M0 + 1) + s2 = n2 := ⟨_, rfl⟩
  rw [hn1] at g12 g13 ⊢
  have E1 := Lib.hid hn1
  clear hn1
  obtain ⟨g20, g21, g22, g23⟩ := idx_bd (n := n2) (P := M1) (x := s3) (B := 16383) ⟨g12, g13⟩ ⟨b2, b3⟩ ⟨by omega, by omega⟩
  have w2a := (wraps (x := M1 + 1) (by omega)).1
  have w2b := (wraps (x := M1 + 1) (by omega)).2
  have w2c := (wraps (x := n2 * (M1 + 1)) (by omega)).1
  have w2d := (wraps (x := n2 * (M1 + 1)) (by omega)).2
  have w2e := (wraps (x := n2 * (M1 + 1) + s3) (by omega)).1
  have w2f := (wraps (x := n2 * (M1 + 1) + s3) (by omega)).2
  go_upto_region 6 with fail
  clear w2a w2b w2c w2d w2e w2f g20 g21
  obtain ⟨n3, hn2⟩ : ∃ n3, n2 * (M1 + 1) + s3 = n3 := ⟨_, rfl⟩
  rw [hn2] at g22 g23 ⊢
  have E2 := Lib.hid hn2
  clear hn2
  obtain ⟨g30, g31, g32, g33⟩ := idx_bd (n := n3) (P := p.orders) (x := s4) (B := 262143) ⟨g22, g23⟩ ⟨by omega, by omega⟩ ⟨by omega, by omega⟩
  have w3a := (wraps (x := p.orders + 1) (by omega)).1
  have w3b := (wraps (x := p.orders + 1) (by omega)).2
  have w3c := (wraps (x := n3 * (p.orders + 1)) (by omega)).1
  have w3d := (wraps (x := n3 * (p.orders + 1)) (by omega)).2
  have w3e := (wraps (x := n3 * (p.orders + 1) + s4) (by omega)).1
  have w3f := (wraps (x := n3 * (p.orders + 1) + s4) (by omega)).2
  go_upto_region 7 with fail
  clear w3a w3b w3c w3d w3e w3f g30 g31
  obtain ⟨n4, hn3⟩ : ∃ n4, n3 * (p.orders + 1) + s4 = n4 := ⟨_, rfl⟩
  rw [hn3] at g32 g33 ⊢
  have E3 := Lib.hid hn3
  clear hn3
  obtain ⟨g40, g41, g42, g43⟩ := idx_bd (n := n4) (P := p.age) (x := s5) (B := 4194303) ⟨g32, g33⟩ ⟨by omega, by omega⟩ ⟨by omega, by omega⟩
  have w4a := (wraps (x := p.age + 1) (by omega)).1
  have w4b := (wraps (x := p.age + 1) (by omega)).2
  have w4c := (wraps (x := n4 * (p.age + 1)) (by omega)).1
  have w4d := (wraps (x := n4 * (p.age + 1)) (by omega)).2
  have w4e := (wraps (x := n4 * (p.age + 1) + s5) (by omega)).1
  have w4f := (wraps (x := n4 * (p.age + 1) + s5) (by omega)).2
  go_wp2
  go_ret
  exact ⟨by rw [← E3.out, ← E2.out, ← E1.out, ← E0.out]; rfl, hB⟩
end Go.Proofs.Ytancngachnpefaa
namespace Go.Proofs.Ytancngachnpefaa
open Go.RowKit
theorem count_int {p : Pl} (hv : p.Valid) : (p.count : Int) = p.countI := by
  have h1 := hv.positions
  have h2 := hv.top
  have h3 := hv.orders
  have h4 := hv.age
  have h5 := hv.feed
  have h6 := hv.pipe
  have e0 : ((p.top + 1).toNat : Int) = p.top + 1 := by omega
  have e1 : (p.n0 : Int) = p.positions + 1 := by unfold Pl.n0; omega
  have e2 : (p.no : Int) = p.orders + 1 := by unfold Pl.no; omega
  have e3 : (p.na : Int) = p.age + 1 := by unfold Pl.na; omega
  rw [Pl.count, Int.natCast_mul, Int.natCast_mul, Int.natCast_mul, Int.natCast_mul, Int.natCast_mul, e0, e1, e2, e3]
  unfold Pl.countI Pl.sizeI Pl.nx Pl.ny
  rcases (show p.pipe = 0 ∨ p.pipe = 1 ∨ p.pipe = 2 by omega) with e | e | e
  · rw [e]
    simp [Int.mul_assoc]
  · have e5 : ((p.feed + 1).toNat : Int) = p.feed + 1 := by omega
    rw [e]
    simp [e5, Int.mul_assoc, Int.mul_comm, Int.mul_left_comm]
  · have e5 : ((p.feed + 1).toNat : Int) = p.feed + 1 := by omega
    rw [e]
    simp [e5, Int.mul_assoc, Int.mul_comm, Int.mul_left_comm]
theorem count_le {p : Pl} (h : p.checkT = 0) : p.count ≤ 4096 := by
  obtain ⟨hv, h1⟩ := Pl.check_zero h
  have h2 := count_int hv
  unfold Pl.checkT at h
  split at h
  · split at h
    · cases h
    · omega
  · cases h
end Go.Proofs.Ytancngachnpefaa
