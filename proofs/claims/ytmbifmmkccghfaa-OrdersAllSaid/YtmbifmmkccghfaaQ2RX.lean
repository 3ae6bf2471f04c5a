/- Few of orders. (Printed by gen_rx.py and pp.py.) No condition. -/
import Derived.Test.YtmbifmmkccghfaaQ2RB
import Derived.Test.YtmbifmmkccghfaaQ2NS
set_option linter.unusedVariables false
set_option linter.unusedSimpArgs false
namespace Go.Proofs.Ytmbifmmkccghfaa
open Go.RowKit Go.Shelf
attribute [local go_sem] Oper.semAt_some

set_option maxRecDepth 100000 in
set_option maxHeartbeats 4000000 in
theorem oRFew_any (b : Bx) (Aq Aa As Ah Af : Option Addr) (nq cq na ca ns cs n ch nf cf : Nat) (w : World) (hx : Hid (BxAt w w.heap.size (.slice Aq nq cq) (.slice Aa na ca) (.slice As ns cs) (.slice Ah n ch) (.slice Af nf cf) b)) (hq : Hid (b.net.queue.length = nq)) (hns : Hid (b.sent.length = ns)) (hn : Hid (b.heard.length = n)) (hnf : Hid (b.fresh.length = nf)) {T : Bool} (hT : Hid (b.fewB = T)) :
    Calls Try.prog 9 #[.agg #[.slice Aq nq cq, .slice Aa na ca, .slice As ns cs, .slice Ah n ch, .slice Af nf cf]] w fun e w' => e = .returned (.bool T) ∧ Below w.heap.size w w' := by
  go_enter Try.func9, Try.ntmps9
  have hB := (Below.refl w.heap.size w).alloc (Nat.le_refl _) (.cells #[.slice Aq nq cq, .slice Aa na ca, .slice As ns cs, .slice Ah n ch, .slice Af nf cf] 30)
  have X1 := Box.new w [.slice Aq nq cq, .slice Aa na ca, .slice As ns cs, .slice Ah n ch, .slice Af nf cf] 30
  go_upto_region 1 with fail
  generalize w.alloc (.cells #[.slice Aq nq cq, .slice Aa na ca, .slice As ns cs, .slice Ah n ch, .slice Af nf cf] 30) = w1 at hB X1 ⊢
  have z1 := X1.lt
  have X1c0 : w1.cell? ⟨w.heap.size, 0, none⟩ = some (.slice Aq nq cq) := X1.cell 0
  have X1c1 : w1.cell? ⟨w.heap.size, 1, none⟩ = some (.slice Aa na ca) := X1.cell 1
  have X1c2 : w1.cell? ⟨w.heap.size, 2, none⟩ = some (.slice As ns cs) := X1.cell 2
  have X1c3 : w1.cell? ⟨w.heap.size, 3, none⟩ = some (.slice Ah n ch) := X1.cell 3
  have X1c4 : w1.cell? ⟨w.heap.size, 4, none⟩ = some (.slice Af nf cf) := X1.cell 4
  obtain ⟨f, hf⟩ : ∃ f, Hid (fewN b.net = f) := ⟨_, Lib.hid rfl⟩
  go_wp2_with fail
  refine (nFew_at hf (hx.out.net.later hB)).mono ?_
  rintro e w2 ⟨rfl, hb⟩
  have hB := hB.trans (hb.mono hB.size)
  have X1 := X1.later hb
  clear hb z1 X1c0 X1c1 X1c2 X1c3 X1c4
  have hTe := hT.out
  unfold Bx.fewB at hTe
  rw [hf.out, hn.out, hnf.out, hns.out] at hTe
  have HTE := Lib.hid hTe
  clear hTe
  have z1 := X1.lt
  have X1c0 : w2.cell? ⟨w.heap.size, 0, none⟩ = some (.slice Aq nq cq) := X1.cell 0
  have X1c1 : w2.cell? ⟨w.heap.size, 1, none⟩ = some (.slice Aa na ca) := X1.cell 1
  have X1c2 : w2.cell? ⟨w.heap.size, 2, none⟩ = some (.slice As ns cs) := X1.cell 2
  have X1c3 : w2.cell? ⟨w.heap.size, 3, none⟩ = some (.slice Ah n ch) := X1.cell 3
  have X1c4 : w2.cell? ⟨w.heap.size, 4, none⟩ = some (.slice Af nf cf) := X1.cell 4
  cases f with
  | false =>
    obtain rfl : T = false := by rw [← HTE.out]; rfl
    go_wp2
    go_ret
    exact ⟨rfl, hB⟩
  | true =>
    have m1 : nq ≤ 40 := by
      have h9 := hf.out
      rw [fewN, Bool.and_eq_true] at h9
      rw [← hq.out]
      exact of_decide_eq_true h9.1
    by_cases h1 : n ≤ 20
    rotate_left
    · have d1 : decide ((20 : Int) < (n : Int)) = true := decide_eq_true (by omega)
      obtain rfl : T = false := by rw [← HTE.out]; simp [h1]
      go_wp2
      go_ret
      exact ⟨rfl, hB⟩
    have d1 : decide ((20 : Int) < (n : Int)) = false := decide_eq_false (by omega)
    by_cases h2 : nf ≤ 20
    rotate_left
    · have d2 : decide ((20 : Int) < (nf : Int)) = true := decide_eq_true (by omega)
      obtain rfl : T = false := by rw [← HTE.out]; simp [h2]
      go_wp2
      go_ret
      exact ⟨rfl, hB⟩
    have d2 : decide ((20 : Int) < (nf : Int)) = false := decide_eq_false (by omega)
    by_cases h3 : ns ≤ 100 ∨ (4096 ≤ ns ∧ ns ≤ 5000)
    rotate_left
    · obtain rfl : T = false := by
        rw [← HTE.out]
        have e1 : decide (ns ≤ 100) = false := decide_eq_false (by omega)
        have e2 : (decide (4096 ≤ ns) && decide (ns ≤ 5000)) = false := by simp; omega
        rw [e1, e2]
        simp
      have d3 : decide ((100 : Int) < (ns : Int)) = true := decide_eq_true (by omega)
      by_cases h4 : ns < 4096
      · have d4 : decide ((ns : Int) < 4096) = true := decide_eq_true (by omega)
        go_wp2
        go_ret
        exact ⟨rfl, hB⟩
      have d4 : decide ((ns : Int) < 4096) = false := decide_eq_false (by omega)
      have d5 : decide ((5000 : Int) < (ns : Int)) = true := decide_eq_true (by omega)
      go_wp2
      go_ret
      exact ⟨rfl, hB⟩
    go_upto_region 2 with fail
    obtain ⟨W, hW⟩ : ∃ W, w2 = W := ⟨_, rfl⟩
    rw [hW] at hB X1 z1 X1c0 X1c1 X1c2 X1c3 X1c4 ⊢
    clear hW
    go_cut [39] (fun s39 wx => s39 = .bool false ∧ Below W.heap.size W wx)
    case first =>
      rcases Nat.lt_or_ge 100 ns with h9 | h9
      · have d3 : decide ((100 : Int) < (ns : Int)) = true := decide_eq_true (by omega)
        have d4 : decide ((ns : Int) < 4096) = false := decide_eq_false (by omega)
        have d5 : decide ((5000 : Int) < (ns : Int)) = false := decide_eq_false (by omega)
        go_wp2_with fail
        go_meet
        exact ⟨rfl, Below.refl _ _⟩
      · have d3 : decide ((100 : Int) < (ns : Int)) = false := decide_eq_false (by omega)
        go_wp2_with fail
        go_meet
        exact ⟨rfl, Below.refl _ _⟩
    case rest =>
      obtain ⟨rfl, hb⟩ := hcut
      have hB := hB.trans (hb.mono hB.size)
      have X1 := X1.later hb
      clear hb z1 X1c0 X1c1 X1c2 X1c3 X1c4
      have HALL : Hid ((b.net.queue.all fun p => decide (p.data.length ≤ 100)) = T) := by
        refine Lib.hid ?_
        rw [← HTE.out]
        have e1 : decide (n ≤ 20) = true := decide_eq_true h1
        have e2 : decide (nf ≤ 20) = true := decide_eq_true h2
        have e3 : (decide (ns ≤ 100) || (decide (4096 ≤ ns) && decide (ns ≤ 5000))) = true := by
          rcases h3 with h9 | ⟨h9, h8⟩
          · simp [h9]
          · simp [h9, h8]
        rw [e1, e2, e3]
        simp
      clear HTE d1 d2
      go_upto_region 5 with fail
      go_loopw [4] (fun i wr => ∃ k : Nat, k ≤ nq ∧ i = .int .i64 k ∧ Below w.heap.size w wr ∧ Box wr w.heap.size [.slice Aq nq cq, .slice Aa na ca, .slice As ns cs, .slice Ah n ch, .slice Af nf cf] ∧ Hid (∀ j (hj : j < b.net.queue.length), j < k → b.net.queue[j].data.length ≤ 100)) (fun i _ => nq - (intOf i).toNat)
      case atStart => exact ⟨0, by omega, rfl, hB, X1, Lib.hid (fun j _ hj => by omega)⟩
      case round =>
        clear hB X1
        obtain ⟨k, hk, rfl, hB, X1, hall⟩ := hrel
        obtain ⟨wo, rfl⟩ : ∃ wo : World, wo = wr := ⟨_, rfl⟩
        have z1 := X1.lt
        have c0 : wo.cell? ⟨w.heap.size, 0, none⟩ = some (.slice Aq nq cq) := X1.cell 0
        rcases Nat.lt_or_ge k nq with hlt | hge
        rotate_left
        · obtain rfl : nq = k := by omega
          have hlm : ¬ ((nq : Int) < (nq : Int)) := by omega
          obtain rfl : T = true := by
            rw [← HALL.out]
            refine List.all_eq_true.2 fun p hp => ?_
            obtain ⟨j, hj, rfl⟩ := List.getElem_of_mem hp
            exact decide_eq_true (hall.out j hj (by rw [← hq.out]; exact hj))
          go_wp2
          go_ret
          exact ⟨rfl, hB⟩
        have hlm : (k : Int) < (nq : Int) := by omega
        have hkl : k < b.net.queue.length := by rw [hq.out]; exact hlt
        obtain ⟨bq, oq, V, rfl, hbq, q0, q1, q2, hV⟩ := hx.out.net.queue.pk hkl
        obtain ⟨Ad, cd, rfl, -⟩ := hV.form
        have q2 := (hB.cell hbq).trans q2
        have hqz := Nat.lt_of_lt_of_le hbq hB.size
        clear q0 q1 hV
        have hbad : ¬ b.net.queue[k].data.length ≤ 100 → T = false := fun h => by
          rw [← HALL.out]
          exact Bool.eq_false_iff.2 fun h9 => h (of_decide_eq_true (List.all_eq_true.1 h9 _ (List.getElem_mem hkl)))
        have hgood : b.net.queue[k].data.length ≤ 100 → ∀ j (hj : j < b.net.queue.length), j < k + 1 → b.net.queue[j].data.length ≤ 100 := fun h j hj h7 => by
          rcases Nat.lt_or_ge j k with h9 | h9
          · exact hall.out j hj h9
          · obtain rfl : j = k := by omega
            exact h
        generalize b.net.queue[k].data.length = u at q2 hbad hgood
        have HBAD := Lib.hid hbad
        have HG := Lib.hid hgood
        clear hbad hgood hall
        by_cases hu : u ≤ 100
        · have hg := Lib.hid (HG.out hu)
          have d6 : decide ((100 : Int) < (u : Int)) = false := decide_eq_false (by omega)
          go_wp2
          exact ⟨⟨k + 1, by omega, by go_num, hB, X1, hg⟩, by simp [intOf]; omega⟩
        · obtain rfl : T = false := HBAD.out hu
          have d6 : decide ((100 : Int) < (u : Int)) = true := decide_eq_true (by omega)
          go_wp2
          go_ret
          exact ⟨rfl, hB⟩
end Go.Proofs.Ytmbifmmkccghfaa

/-
  SameInts of the reference. (Printed by pp.py.) No condition.
-/
namespace Go.Proofs.Ytmbifmmkccghfaa
open Go.RowKit Go.Shelf
attribute [local go_sem] Oper.semAt_some

theorem ints_eq {l m : List Int} {n : Nat} (e1 : l.length = n) (e2 : m.length = n) (h : ∀ j, j < n → l.getD j 0 = m.getD j 0) : l = m := by
  apply List.ext_getElem (by omega)
  intro j h1 h2
  have := h j (by omega)
  rw [gd_at h1, gd_at h2] at this
  exact this
set_option maxRecDepth 100000 in
set_option maxHeartbeats 4000000 in
theorem rSameInts_any (A1 A2 : Option Addr) (n1 c1 n2 c2 : Nat) (l m : List Int) (w : World) (h1 : Hid (HdAt w w.heap.size (.slice A1 n1 c1) l)) (h2 : Hid (HdAt w w.heap.size (.slice A2 n2 c2) m)) (e1 : Hid (l.length = n1)) (e2 : Hid (m.length = n2)) (m1 : n1 ≤ 9223372036854775807) (m2 : n2 ≤ 9223372036854775807) {T : Bool} (hT : Hid (decide (l = m) = T)) :
    Calls Try.prog 19 #[.slice A1 n1 c1, .slice A2 n2 c2] w fun e w' => e = .returned (.bool T) ∧ Below w.heap.size w w' := by
  go_enter Try.func19, Try.ntmps19
  have hB := Below.refl w.heap.size w
  by_cases hne : n1 = n2
  rotate_left
  · have d0 : ((n1 : Int) != (n2 : Int)) = true := by simp; omega
    obtain rfl : T = false := by rw [← hT.out]; exact decide_eq_false (fun h => hne (by rw [← e1.out, ← e2.out, h]))
    go_wp2
    go_ret
    exact ⟨rfl, hB⟩
  subst hne
  have d0 : ((n1 : Int) != (n1 : Int)) = false := by simp
  go_upto_region 4 with fail
  clear d0
  go_loopw [5] (fun i wr => ∃ k : Nat, k ≤ n1 ∧ i = .int .i64 k ∧ Below w.heap.size w wr ∧ Hid (∀ j, j < k → l.getD j 0 = m.getD j 0)) (fun i _ => n1 - (intOf i).toNat)
  case atStart => exact ⟨0, by omega, rfl, hB, Lib.hid (fun j hj => by omega)⟩
  case round =>
    clear hB
    obtain ⟨k, hk, rfl, hB, hall⟩ := hrel
    obtain ⟨wo, rfl⟩ : ∃ wo : World, wo = wr := ⟨_, rfl⟩
    rcases Nat.lt_or_ge k n1 with hlt | hge
    rotate_left
    · obtain rfl : n1 = k := by omega
      have hlm : ¬ ((n1 : Int) < (n1 : Int)) := by omega
      obtain rfl : T = true := by rw [← hT.out]; exact decide_eq_true (ints_eq e1.out e2.out hall.out)
      go_wp2
      go_ret
      exact ⟨rfl, hB⟩
    have hlm : (k : Int) < (n1 : Int) := by omega
    obtain ⟨b1, o1, rfl, hb1, k1⟩ := h1.out.2.one (k := k) (by rw [e1.out]; exact hlt)
    obtain ⟨b2, o2, rfl, hb2, k2⟩ := h2.out.2.one (k := k) (by rw [e2.out]; exact hlt)
    have k1 := (hB.cell hb1).trans k1
    have k2 := (hB.cell hb2).trans k2
    have z1 := Nat.lt_of_lt_of_le hb1 hB.size
    have z2 := Nat.lt_of_lt_of_le hb2 hB.size
    have hbad : l.getD k 0 ≠ m.getD k 0 → T = false := fun h => by rw [← hT.out]; exact decide_eq_false (fun h9 => h (by rw [h9]))
    have hgood : l.getD k 0 = m.getD k 0 → ∀ j, j < k + 1 → l.getD j 0 = m.getD j 0 := fun h j hj => by
      rcases Nat.lt_or_ge j k with h9 | h9
      · exact hall.out j h9
      · obtain rfl : j = k := by omega
        exact h
    generalize l.getD k 0 = u at k1 hbad hgood
    generalize m.getD k 0 = v at k2 hbad hgood
    have HBAD := Lib.hid hbad
    have HG := Lib.hid hgood
    clear hbad hgood hall
    by_cases huv : u = v
    · subst huv
      have hg := Lib.hid (HG.out rfl)
      have d1 : (u != u) = false := by simp
      go_upto_region 6 with fail
      go_region
      go_wp2
      exact ⟨⟨k + 1, by omega, by go_num, hB.drew, hg⟩, by simp [intOf]; omega⟩
    · obtain rfl : T = false := HBAD.out huv
      have d1 : (u != v) = true := by simp [huv]
      go_upto_region 6 with fail
      go_region
      go_wp2
      go_ret
      exact ⟨rfl, hB.drew⟩
end Go.Proofs.Ytmbifmmkccghfaa

/-
  Same of orders, at two equal boxes. (Printed by gen_se.py and pp.py.) No condition.
-/
namespace Go.Proofs.Ytmbifmmkccghfaa
open Go.RowKit Go.Shelf
attribute [local go_sem] Oper.semAt_some

end Go.Proofs.Ytmbifmmkccghfaa
