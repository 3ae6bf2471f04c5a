/- Few of chapter 33's reference: a barrier that it calls short is short. (Printed by a program from UB.) No condition. -/
import Derived.Test.YtancngachnpefaaQK
import Derived.Test.YtancngachnpefaaQMB
import Derived.Test.YtancngachnpefaaQS
import Derived.Test.YtancngachnpefaaQBS
import Derived.Test.YtancngachnpefaaQMI
import Derived.Test.YtancngachnpefaaQNA
set_option linter.unusedVariables false
set_option linter.unusedSimpArgs false
set_option maxRecDepth 100000
set_option maxHeartbeats 4000000
namespace Go.Proofs.Ytancngachnpefaa
open Go.RowKit Go.Shelf
def TellF (nb : Nat) (w : World) (e : Ending) (w' : World) : Prop := ∃ t, e = .returned (.bool t) ∧ (t = true → nb ≤ 40) ∧ Below w.heap.size w w'
theorem zFew_tgo (p : Pl) (code : List Ln) (A : Option Addr) (n c : Nat) (A2 : Option Addr) (nb cb : Nat) (w : World) (hC : Hid (CodeAt w w.heap.size (.slice A n c) code)) (HN : Hid (code.length = n)) (hm : n ≤ 9223372036854775807) (hmb : nb ≤ 9223372036854775807) :
    Calls Try.prog 11 #[.agg #[.int .i64 p.top, .int .i64 p.bank, .int .i64 p.siphon, .int .i64 p.start, .int .i64 p.positions, .int .i64 p.rate, .int .i64 p.step, .int .i64 p.pass, .int .i64 p.feed, .int .i64 p.pipe, .int .i64 p.orders, .int .i64 p.age], .agg #[.slice A n c], .slice A2 nb cb] w (TellF nb w) := by
  obtain ⟨ck, hck⟩ : ∃ ck, p.checkT = ck := ⟨_, rfl⟩
  obtain ⟨ni, er, hct⟩ : ∃ ni er, p.countT = (ni, er) := ⟨_, _, rfl⟩
  replace hck := Lib.hid hck
  replace hct := Lib.hid hct
  go_enter Try.func11, Try.ntmps11
  have hB := ((Below.refl w.heap.size w).alloc (Nat.le_refl _) (.cells #[.int .i64 p.top, .int .i64 p.bank, .int .i64 p.siphon, .int .i64 p.start, .int .i64 p.positions, .int .i64 p.rate, .int .i64 p.step, .int .i64 p.pass, .int .i64 p.feed, .int .i64 p.pipe, .int .i64 p.orders, .int .i64 p.age] 23)).alloc (by simp) (.cells #[.slice A n c] 26)
  have XP := (Box.new w [.int .i64 p.top, .int .i64 p.bank, .int .i64 p.siphon, .int .i64 p.start, .int .i64 p.positions, .int .i64 p.rate, .int .i64 p.step, .int .i64 p.pass, .int .i64 p.feed, .int .i64 p.pipe, .int .i64 p.orders, .int .i64 p.age] 23).alloc (.cells #[.slice A n c] 26)
  have XC := Box.newAt (w := w.alloc (.cells #[.int .i64 p.top, .int .i64 p.bank, .int .i64 p.siphon, .int .i64 p.start, .int .i64 p.positions, .int .i64 p.rate, .int .i64 p.step, .int .i64 p.pass, .int .i64 p.feed, .int .i64 p.pipe, .int .i64 p.orders, .int .i64 p.age] 23)) (n := w.heap.size + 1) [.slice A n c] 26 (by simp)
  go_upto_region 1 with fail
  have HC := Lib.hid (hC.out.later hB)
  generalize (w.alloc (.cells #[.int .i64 p.top, .int .i64 p.bank, .int .i64 p.siphon, .int .i64 p.start, .int .i64 p.positions, .int .i64 p.rate, .int .i64 p.step, .int .i64 p.pass, .int .i64 p.feed, .int .i64 p.pipe, .int .i64 p.orders, .int .i64 p.age] 23)).alloc (.cells #[.slice A n c] 26) = W at hB XP XC HC ⊢
  have c0 : W.cell? ⟨w.heap.size + 1, 0, none⟩ = some (.slice A n c) := XC.cell 0
  have zc := XC.lt
  obtain ⟨t0, ht0⟩ : ∃ t0, (decide (40 < nb) || ((decide (20 < n) && decide (n ≤ 64)) || decide (100 < n))) = t0 := ⟨_, rfl⟩
  replace ht0 := Lib.hid ht0
  go_cut [30] (fun s30 wx => s30 = .bool t0 ∧ W = wx)
  case first =>
    by_cases h1 : 40 < nb
    · have e1 : (40 : Int) < (nb : Int) := by omega
      obtain rfl : t0 = true := by rw [← ht0.out, decide_eq_true h1]; rfl
      go_wp2_with fail
      go_meet
      exact ⟨rfl, rfl⟩
    have e1 : ¬ (40 : Int) < (nb : Int) := by omega
    by_cases h2 : 20 < n
    · have e2 : (20 : Int) < (n : Int) := by omega
      by_cases h3 : n ≤ 64
      · have e3 : (n : Int) ≤ 64 := by omega
        obtain rfl : t0 = true := by rw [← ht0.out, decide_eq_false h1, decide_eq_true h2, decide_eq_true h3]; rfl
        go_wp2_with fail
        go_meet
        exact ⟨rfl, rfl⟩
      have e3 : ¬ (n : Int) ≤ 64 := by omega
      by_cases h4 : 100 < n
      · have e4 : (100 : Int) < (n : Int) := by omega
        obtain rfl : t0 = true := by rw [← ht0.out, decide_eq_false h1, decide_eq_true h2, decide_eq_false h3, decide_eq_true h4]; rfl
        go_wp2_with fail
        go_meet
        exact ⟨rfl, rfl⟩
      have e4 : ¬ (100 : Int) < (n : Int) := by omega
      obtain rfl : t0 = false := by rw [← ht0.out, decide_eq_false h1, decide_eq_true h2, decide_eq_false h3, decide_eq_false h4]; rfl
      go_wp2_with fail
      go_meet
      exact ⟨rfl, rfl⟩
    have e2 : ¬ (20 : Int) < (n : Int) := by omega
    have h4 : ¬ 100 < n := by omega
    have e4 : ¬ (100 : Int) < (n : Int) := by omega
    obtain rfl : t0 = false := by rw [← ht0.out, decide_eq_false h1, decide_eq_false h2, decide_eq_false h4]; rfl
    go_wp2_with fail
    go_meet
    exact ⟨rfl, rfl⟩
  case rest =>
  obtain ⟨rfl, hw⟩ := hcut
  subst hw
  cases t0 with
  | true =>
    go_wp2
    go_ret
    exact ⟨_, rfl, (fun h => by cases h), hB⟩
  | false =>
  have hI : Hid (nb ≤ 40) := Lib.hid (by
    have h := ht0.out
    simp only [Bool.or_eq_false_iff, decide_eq_false_iff_not] at h
    omega)
  go_upto_region 4 with fail
  go_loop [7] (fun i => ∃ k : Nat, k ≤ n ∧ i = .int .i64 k) (fun i => n - (intOf i).toNat)
  case atStart => exact ⟨0, by omega, rfl⟩
  case round =>
    obtain ⟨k, hk, rfl⟩ := hrel
    by_cases hlt : k < n
    · have hkl : k < code.length := by rw [HN.out]; exact hlt
      obtain ⟨b, off, V, rfl, hbw, p0, p1, hV⟩ := HC.out.line hkl
      obtain ⟨A', c', rfl, hm'⟩ := hV.form
      generalize code[k].conds.length = m at p0 hm'
      unfold maxLen at hm'
      clear hV p1
      by_cases h20 : m ≤ 20
      · have e1 : ¬ (20 : Int) < (m : Int) := by omega
        go_wp2
        exact ⟨⟨k + 1, by omega, by go_num⟩, by simp [intOf]; omega⟩
      · have e1 : (20 : Int) < (m : Int) := by omega
        go_wp2
        go_ret
        exact ⟨_, rfl, fun _ => hI.out, hB⟩
    obtain rfl : k = n := by omega
    clear hlt
    have zp := XP.lt
    obtain ⟨XPc0, XPc1, XPc2, XPc3, XPc4, XPc5, XPc6, XPc7, XPc8, XPc9, XPc10, XPc11⟩ := XP.c12
    go_wp2_with fail
    refine (rcheck_at hck _).mono ?_
    rintro e w2 ⟨rfl, hb⟩
    have hB := hB.trans (hb.mono hB.size)
    have XP := XP.later hb
    clear hb zp XPc0 XPc1 XPc2 XPc3 XPc4 XPc5 XPc6 XPc7 XPc8 XPc9 XPc10 XPc11
    by_cases hc0 : ck = 0
    rotate_left
    · have e0 : (ck != 0) = true := by simp [hc0]
      go_wp2
      go_ret
      exact ⟨_, rfl, fun _ => hI.out, hB⟩
    subst hc0
    have zp := XP.lt
    obtain ⟨XPc0, XPc1, XPc2, XPc3, XPc4, XPc5, XPc6, XPc7, XPc8, XPc9, XPc10, XPc11⟩ := XP.c12
    go_wp2_with fail
    refine (rcount_is hct).mono ?_
    rintro e w3 ⟨rfl, hb⟩
    have hB := hB.trans (hb.mono hB.size)
    have XP := XP.later hb
    clear hb zp XPc0 XPc1 XPc2 XPc3 XPc4 XPc5 XPc6 XPc7 XPc8 XPc9 XPc10 XPc11
    have c8 : w3.cell? ⟨w.heap.size, 8, none⟩ = some (.int .i64 p.feed) := XP.cell 8
    have c10 : w3.cell? ⟨w.heap.size, 10, none⟩ = some (.int .i64 p.orders) := XP.cell 10
    have zp := XP.lt
    by_cases h9 : ni ≤ 1000
    · have e9 : decide (ni ≤ 1000) = true := decide_eq_true h9
      go_wp2
      go_ret
      exact ⟨_, rfl, fun _ => hI.out, hB⟩
    · have e9 : decide (ni ≤ 1000) = false := decide_eq_false h9
      go_wp2
      go_ret
      exact ⟨_, rfl, fun _ => hI.out, hB⟩
theorem zFew_tell {p : Pl} {code : List Ln} {bar : List Iq} {V U : Value} {w : World} (hC : CodeAt w w.heap.size V code) (hQ : BarAt w w.heap.size U bar) :
    Calls Try.prog 11 #[p.v, .agg #[V], U] w (TellF bar.length w) := by
  obtain ⟨A, c, rfl, hm⟩ := hC.form
  obtain ⟨A2, c2, rfl, hm2⟩ := hQ.form
  unfold maxLen at hm hm2
  exact zFew_tgo p code A _ c A2 _ c2 w (Lib.hid hC) (Lib.hid rfl) (by omega) (by omega)
end Go.Proofs.Ytancngachnpefaa
namespace Go.Proofs.Ytancngachnpefaa
open Go.RowKit
def iqs (l : List Iq) : Nat → Nat → Value := fun i j => iqCell (l.getD i Iq.zero) j
theorem iqs_cat (a b : List Iq) (i j : Nat) : cat a.length (iqs a) (iqs b) i j = iqs (a ++ b) i j := by
  unfold cat iqs
  split
  · rename_i h
    rw [List.getD_eq_getElem?_getD, List.getD_eq_getElem?_getD, List.getElem?_append_left h]
  · rename_i h
    rw [List.getD_eq_getElem?_getD, List.getD_eq_getElem?_getD, List.getElem?_append_right (by omega)]
theorem one_iq (x : Iq) {j : Nat} (hj : j < 6) : (iqCell x j).oneCell' = true := by
  rcases (show j = 0 ∨ j = 1 ∨ j = 2 ∨ j = 3 ∨ j = 4 ∨ j = 5 by omega) with rfl | rfl | rfl | rfl | rfl | rfl <;> rfl
theorem elem_ineq : ∃ i, Elem 27 71 i (.agg #[.int .i64 0, .int .i64 0, .int .i64 0, .int .i64 0, .int .i64 0, .int .i64 0]) 6 48 := by
  obtain ⟨i, hi, h1, h2, h3⟩ := info_parts2 (o := Try.prog.info? 71) (z := some (.agg #[.int .i64 0, .int .i64 0, .int .i64 0, .int .i64 0, .int .i64 0, .int .i64 0])) (s := 6) (b := 48) (by kernel_rfl)
  exact ⟨i, Try.underlying27, hi, h1, h2, h3, rfl, by omega⟩
def OwnQ (w : World) (base : Nat) (V : Value) (l : List Iq) : Prop := w.ownsRow base 71 6 V l.length (flat l.length 6 (iqs l))
section
variable {w w' : World} {base : Nat} {V x : Value} {l b : List Iq}
theorem OwnQ.bar (h : OwnQ w base V l) (hl : l.length ≤ 1048576) : BarAt w w.heap.size V l ∧ SlF V := own_sl h (by unfold maxLen; omega)
theorem OwnQ.later (h : OwnQ w base V l) (hb : Below w.heap.size w w') : OwnQ w' base V l :=
  World.ownsRow.kept h (row := none) ⟨hb.os, hb.tape, hb.output, hb.size, fun i hi _ => hb.block i hi⟩ (by
    cases hv : V.ownBlock with
    | none => exact .inl rfl
    | some b => exact .inr (fun e => by cases e))
theorem OwnQ.app (ty : TypeId) (ho : OwnQ w base V l) (hx : BarAt w w.heap.size x b) (hf : SlF x) (hl : l.length + b.length ≤ 1048576) (hbase : base ≤ w.heap.size) :
    ∃ V' w', (appF #[27, 27] ty #[V, x]).run Try.prog w = .ok V' w' ∧ OwnQ w' base V' (l ++ b) ∧ w.grownBy w' V.ownBlock := by
  obtain ⟨i, E⟩ := elem_ineq
  obtain ⟨V', w', hr, h2, h3⟩ := run_app_own E ty ho hx hf (fun k j _ hj => one_iq _ hj) (by unfold maxLen; omega) (by omega) hbase
  refine ⟨V', w', hr, ?_, h3⟩
  unfold OwnQ
  rw [List.length_append]
  have e : cat l.length (iqs l) (iqs b) = iqs (l ++ b) := by
    funext i j
    exact iqs_cat l b i j
  rw [← e]
  exact h2
theorem OwnQ.cells? (h : OwnQ w base V l) {g : Nat} (hg : V.ownBlock = some g) : base ≤ g ∧ ∃ cs, w.heap[g]? = some (.cells cs 71 (0, 0)) := by
  rcases h.2 with ⟨rfl, _⟩ | ⟨b, cap, cur, hv, hb, hh, _⟩
  · cases hg
  · rw [hv] at hg
    cases hg
    exact ⟨hb, cur, hh⟩
theorem OwnQ.below (h : OwnQ w base V l) (hg : w.grownBy w' V.ownBlock) {n : Nat} (hn : n ≤ base) (hs : n ≤ w.heap.size) : Below n w w' :=
  ⟨hg.os, hg.tape, hg.output, hg.size, fun k hk => hg.block k (by omega) (fun e => by have := (h.cells? e.symm).1; omega)⟩
end
end Go.Proofs.Ytancngachnpefaa
namespace Go.Proofs.Ytancngachnpefaa
open Go.RowKit
end Go.Proofs.Ytancngachnpefaa
namespace Go.Proofs.Ytancngachnpefaa
open Go.RowKit
end Go.Proofs.Ytancngachnpefaa
