/- Few of chapter 33's reference: it answers. (Printed by pp.py.) No condition. -/
import Derived.Test.YtancngachnpefaaQK
import Derived.Test.YtancngachnpefaaQMB
import Derived.Test.YtancngachnpefaaQS
import Derived.Test.YtancngachnpefaaQMI
import Derived.Test.YtancngachnpefaaQMQ
import Derived.Test.YtancngachnpefaaQBB
set_option linter.unusedVariables false
set_option linter.unusedSimpArgs false
set_option maxRecDepth 100000
set_option maxHeartbeats 4000000
namespace Go.Proofs.Ytancngachnpefaa
open Go.RowKit Go.Shelf
theorem zFew_go (p : Pl) (code : List Ln) (A : Option Addr) (n c : Nat) (A2 : Option Addr) (nb cb : Nat) (w : World) (hC : Hid (CodeAt w w.heap.size (.slice A n c) code)) (HN : Hid (code.length = n)) (hm : n ≤ 9223372036854775807) (hmb : nb ≤ 9223372036854775807) :
    Calls Try.prog 11 #[.agg #[.int .i64 p.top, .int .i64 p.bank, .int .i64 p.siphon, .int .i64 p.start, .int .i64 p.positions, .int .i64 p.rate, .int .i64 p.step, .int .i64 p.pass, .int .i64 p.feed, .int .i64 p.pipe, .int .i64 p.orders, .int .i64 p.age], .agg #[.slice A n c], .slice A2 nb cb] w fun e w' => ∃ t, e = .returned (.bool t) ∧ Below w.heap.size w w' := by
  obtain ⟨ck, hck⟩ : ∃ ck, p.checkT = ck := ⟨_, rfl⟩
  obtain ⟨ni, er, hct⟩ : ∃ ni er, p.countT = (ni, er) := ⟨_, _, rfl⟩
  replace hck := Lib.hid hck
  replace hct := Lib.hid hct
  go_enter Try.func11, Try.ntmps11
  have hB := ((Below.refl w.heap.size w).alloc (Nat.le_refl _) (.cells #[.int .i64 p.top, .int .i64 p.bank, .int .i64 p.siphon, .int .i64 p.start, .int .i64 p.positions, .int .i64 p.rate, .int .i64 p.step, .int .i64 p.pass, .int .i64 p.feed, .int .i64 p.pipe, .int .i64 p.orders, .int .i64 p.age] 23)).alloc (by simp) (.cells #[.slice A n c] 26)
  have XP := (Box.new w [.int .i64 p.top, .int .i64 p.bank, .int .i64 p.siphon, .int .i64 p.start, .int .i64 p.positions, .int .i64 p.rate, .int .i64 p.step, .int .i64 p.pass, .int .i64 p.feed, .int .i64 p.pipe, .int .i64 p.orders, .int .i64 p.age] 23).alloc (.cells #[.slice A n c] 26)
  have XC := Box.newAt (w := w.alloc (.cells #[.int .i64 p.top, .int .i64 p.bank, .int .i64 p.siphon, .int .i64 p.start, .int .i64 p.positions, .int .i64 p.rate, .int .i64 p.step, .int .i64 p.pass, .int .i64 p.feed, .int .i64 p.pipe, .int .i64 p.orders, .int .i64 p.age] 23)) (n := w.heap.size + 1) [.slice A n c] 26 (by simp)
  go_upto_region 1 with fail
  have HC := Lib.hid (hC.out.later hB)
  generalize (w.alloc (.cells #[.int .i64 p.top, .int .i64 p.bank, .int .i64 p.siphon, .int .i64 p.start, .int .i64 p.positions, .int .i64 p.rate, .int .i64 p.step, .int .i64 p.pass, .int .i64 p.feed, .int .i64 p.pipe, .int .i64 p.orders, .int .i64 p.age] 23)).alloc (.cells #[.slice A n c] 26) = W at hB XP XC HC ⊢
  have c0 : W.cell? ⟨w.heap.size + 1, 0, none⟩ = some (.slice A n c) := XC.cell 0
  have zc := XC.lt
  obtain ⟨t0, ht0⟩ : ∃ t0, (decide (40 < nb) || ((decide (20 < n) && decide (n ≤ 64)) || decide (100 < n))) = t0 := ⟨_, rfl⟩
  replace ht0 := Lib.hid ht0
  go_cut [30] (fun s30 wx => s30 = .bool t0 ∧ W = wx)
  case first =>
    by_cases h1 : 40 < nb
    · have e1 : (40 : Int) < (nb : Int) := by omega
      obtain rfl : t0 = true := by rw [← ht0.out, decide_eq_true h1]; rfl
      go_wp2_with fail
      go_meet
      exact ⟨rfl, rfl⟩
    have e1 : ¬ (40 : Int) < (nb : Int) := by omega
    by_cases h2 : 20 < n
    · have e2 : (20 : Int) < (n : Int) := by omega
      by_cases h3 : n ≤ 64
      · have e3 : (n : Int) ≤ 64 := by omega
        obtain rfl : t0 = true := by rw [← ht0.out, decide_eq_false h1, decide_eq_true h2, decide_eq_true h3]; rfl
        go_wp2_with fail
        go_meet
        exact ⟨rfl, rfl⟩
      have e3 : ¬ (n : Int) ≤ 64 := by omega
      by_cases h4 : 100 < n
      · have e4 : (100 : Int) < (n : Int) := by omega
        obtain rfl : t0 = true := by rw [← ht0.out, decide_eq_false h1, decide_eq_true h2, decide_eq_false h3, decide_eq_true h4]; rfl
        go_wp2_with fail
        go_meet
        exact ⟨rfl, rfl⟩
      have e4 : ¬ (100 : Int) < (n : Int) := by omega
      obtain rfl : t0 = false := by rw [← ht0.out, decide_eq_false h1, decide_eq_true h2, decide_eq_false h3, decide_eq_false h4]; rfl
      go_wp2_with fail
      go_meet
      exact ⟨rfl, rfl⟩
    have e2 : ¬ (20 : Int) < (n : Int) := by omega
    have h4 : ¬ 100 < n := by omega
    have e4 : ¬ (100 : Int) < (n : Int) := by omega
    obtain rfl : t0 = false := by rw [← ht0.out, decide_eq_false h1, decide_eq_false h2, decide_eq_false h4]; rfl
    go_wp2_with fail
    go_meet
    exact ⟨rfl, rfl⟩
  case rest =>
  obtain ⟨rfl, hw⟩ := hcut
  subst hw
  cases t0 with
  | true =>
    go_wp2
    go_ret
    first | exact ⟨_, rfl, hB⟩ | exact ⟨.inl rfl, hB⟩
  | false =>
  go_upto_region 4 with fail
  go_loop [7] (fun i => ∃ k : Nat, k ≤ n ∧ i = .int .i64 k) (fun i => n - (intOf i).toNat)
  case atStart => exact ⟨0, by omega, rfl⟩
  case round =>
    obtain ⟨k, hk, rfl⟩ := hrel
    by_cases hlt : k < n
    · have hkl : k < code.length := by rw [HN.out]; exact hlt
      obtain ⟨b, off, V, rfl, hbw, p0, p1, hV⟩ := HC.out.line hkl
      obtain ⟨A', c', rfl, hm'⟩ := hV.form
      generalize code[k].conds.length = m at p0 hm'
      unfold maxLen at hm'
      clear hV p1
      by_cases h20 : m ≤ 20
      · have e1 : ¬ (20 : Int) < (m : Int) := by omega
        go_wp2
        exact ⟨⟨k + 1, by omega, by go_num⟩, by simp [intOf]; omega⟩
      · have e1 : (20 : Int) < (m : Int) := by omega
        go_wp2
        go_ret
        first | exact ⟨_, rfl, hB⟩ | exact ⟨.inl rfl, hB⟩
    obtain rfl : k = n := by omega
    clear hlt
    have zp := XP.lt
    obtain ⟨XPc0, XPc1, XPc2, XPc3, XPc4, XPc5, XPc6, XPc7, XPc8, XPc9, XPc10, XPc11⟩ := XP.c12
    go_wp2_with fail
    refine (rcheck_at hck _).mono ?_
    rintro e w2 ⟨rfl, hb⟩
    have hB := hB.trans (hb.mono hB.size)
    have XP := XP.later hb
    clear hb zp XPc0 XPc1 XPc2 XPc3 XPc4 XPc5 XPc6 XPc7 XPc8 XPc9 XPc10 XPc11
    by_cases hc0 : ck = 0
    rotate_left
    · have e0 : (ck != 0) = true := by simp [hc0]
      go_wp2
      go_ret
      first | exact ⟨_, rfl, hB⟩ | exact ⟨.inl rfl, hB⟩
    subst hc0
    have zp := XP.lt
    obtain ⟨XPc0, XPc1, XPc2, XPc3, XPc4, XPc5, XPc6, XPc7, XPc8, XPc9, XPc10, XPc11⟩ := XP.c12
    go_wp2_with fail
    refine (rcount_is hct).mono ?_
    rintro e w3 ⟨rfl, hb⟩
    have hB := hB.trans (hb.mono hB.size)
    have XP := XP.later hb
    clear hb zp XPc0 XPc1 XPc2 XPc3 XPc4 XPc5 XPc6 XPc7 XPc8 XPc9 XPc10 XPc11
    have c8 : w3.cell? ⟨w.heap.size, 8, none⟩ = some (.int .i64 p.feed) := XP.cell 8
    have c10 : w3.cell? ⟨w.heap.size, 10, none⟩ = some (.int .i64 p.orders) := XP.cell 10
    have zp := XP.lt
    by_cases h9 : ni ≤ 1000
    · have e9 : decide (ni ≤ 1000) = true := decide_eq_true h9
      go_wp2
      go_ret
      first | exact ⟨_, rfl, hB⟩ | exact ⟨.inl rfl, hB⟩
    · have e9 : decide (ni ≤ 1000) = false := decide_eq_false h9
      go_wp2
      go_ret
      first | exact ⟨_, rfl, hB⟩ | exact ⟨.inl rfl, hB⟩
theorem zFew_is {p : Pl} {code : List Ln} {bar : List Iq} {V U : Value} {w : World} (hC : CodeAt w w.heap.size V code) (hQ : BarAt w w.heap.size U bar) :
    Calls Try.prog 11 #[p.v, .agg #[V], U] w fun e w' => ∃ t, e = .returned (.bool t) ∧ Below w.heap.size w w' := by
  obtain ⟨A, c, rfl, hm⟩ := hC.form
  obtain ⟨A2, c2, rfl, hm2⟩ := hQ.form
  unfold maxLen at hm hm2
  exact zFew_go p code A _ c A2 _ c2 w (Lib.hid hC) (Lib.hid rfl) (by omega) (by omega)
end Go.Proofs.Ytancngachnpefaa
namespace Go.Proofs.Ytancngachnpefaa
open Go.RowKit
def poolP : Pl := ⟨4, 3, 1, 2, 1, 1, 1, 1, 1, 0, 0, 0⟩
def valveC (v o : Int) : List Ln := [⟨[⟨v, o, 3⟩], 1⟩, ⟨[], 0⟩]
def safeQ : List Iq := [⟨-1, 0, 0, 0, 0, -2⟩, ⟨1, 0, 0, 0, 0, 3⟩]
theorem pool_count : poolP.count = 10 := by decide +kernel
theorem pool_ask : askT poolP (valveC 0 4) = 0 := by decide +kernel
theorem pool_inv : ((poolP.states.filter (fun s => !lostI poolP (valveC 0 4) s)).length, !lostI poolP (valveC 0 4) poolP.beginT.1) = (6, true) := by decide +kernel
def St.same (a b : St) : Bool := decide (a = b)
def Sh.same (a b : Sh) : Bool := decide (a.feed = b.feed ∧ a.msg = b.msg)
theorem pool_esc : (match escT poolP [] with | ([a, b], ok, er) => a.same ⟨1, -1⟩ && (b.same ⟨1, -1⟩ && (ok && decide (er = 0))) | _ => false) = true := by decide +kernel
theorem pool_cert : (match certT poolP (valveC 0 4) safeQ with | (ok, f, er) => ok && (decide (f.kind = 0) && (f.st.same St.zero && (f.sh.same Sh.zero && decide (er = 0))))) = true := by decide +kernel
theorem pool_cert2 : (match certT poolP (valveC 0 4) [⟨0, 0, 0, 0, 0, -1⟩] with | (ok, f, er) => !ok && (decide (f.kind = 1) && (f.st.same ⟨2, 0, 0, 0, 0, 0⟩ && (f.sh.same Sh.zero && decide (er = 0))))) = true := by decide +kernel
theorem pool_holds : holdsT safeQ ⟨2, 0, 0, 0, 0, 0⟩ = (true, 0) ∧ holdsT safeQ ⟨4, 0, 0, 0, 0, 0⟩ = (false, 0) ∧ (holdsT [⟨0, 0, 0, 0, 0, 1048577⟩] ⟨2, 0, 0, 0, 0, 0⟩) = (false, 330) := by decide +kernel
end Go.Proofs.Ytancngachnpefaa
namespace Go.Proofs.Ytancngachnpefaa
open Go.RowKit
theorem barAt_two {w : World} {b : Nat} {x y : Iq} (hx : Box w b (x.cells ++ y.cells)) : BarAt w w.heap.size (.slice (some ⟨b, 0, none⟩) 2 2) [x, y] := by
  refine ⟨_, _, rfl, by simp [maxLen], fun i hi => ⟨b, 0, rfl, hx.lt, fun j hj => ?_⟩⟩
  rw [hx.cell]
  rcases (show i = 0 ∨ i = 1 by simp at hi; omega) with rfl | rfl <;> rcases (show j = 0 ∨ j = 1 ∨ j = 2 ∨ j = 3 ∨ j = 4 ∨ j = 5 by omega) with rfl | rfl | rfl | rfl | rfl | rfl <;> rfl
theorem barAt_one {w : World} {b : Nat} {x : Iq} (hx : Box w b x.cells) : BarAt w w.heap.size (.slice (some ⟨b, 0, none⟩) 1 1) [x] := by
  refine ⟨_, _, rfl, by simp [maxLen], fun i hi => ⟨b, 0, rfl, hx.lt, fun j hj => ?_⟩⟩
  rw [hx.cell]
  rcases (show i = 0 by simp at hi; omega) with rfl
  rcases (show j = 0 ∨ j = 1 ∨ j = 2 ∨ j = 3 ∨ j = 4 ∨ j = 5 by omega) with rfl | rfl | rfl | rfl | rfl | rfl <;> rfl
theorem codeAt_valve {w : World} {b c : Nat} {v o : Int} (hb : Box w b [.slice (some ⟨c, 0, none⟩) 1 1, .int .i64 1, .slice none 0 0, .int .i64 0]) (hc : Box w c [.int .i64 v, .int .i64 o, .int .i64 3]) : CodeAt w w.heap.size (.slice (some ⟨b, 0, none⟩) 2 2) (valveC v o) := by
  refine ⟨fun i => if i = 0 then .slice (some ⟨c, 0, none⟩) 1 1 else .slice none 0 0, ⟨_, _, rfl, by simp [maxLen, valveC], fun i hi => ⟨b, 0, rfl, hb.lt, fun j hj => ?_⟩⟩, fun i l hl => ?_⟩
  · rw [hb.cell]
    rcases (show i = 0 ∨ i = 1 by simp [valveC] at hi; omega) with rfl | rfl <;> rcases (show j = 0 ∨ j = 1 by omega) with rfl | rfl <;> rfl
  · have hi := (List.getElem?_eq_some_iff.1 hl).1
    rcases (show i = 0 ∨ i = 1 by simp [valveC] at hi; omega) with rfl | rfl
    · cases hl
      refine ⟨_, _, rfl, by simp [maxLen], fun i hi => ⟨c, 0, rfl, hc.lt, fun j hj => ?_⟩⟩
      rw [hc.cell]
      rcases (show i = 0 by simp at hi; omega) with rfl
      rcases (show j = 0 ∨ j = 1 ∨ j = 2 by omega) with rfl | rfl | rfl <;> rfl
    · cases hl
      exact ⟨none, 0, rfl, by simp, fun i hi => by simp at hi⟩
theorem bPool_any (w : World) : Calls Try.prog 30 #[] w fun e w' => e = .returned poolP.v ∧ Below w.heap.size w w' := by
  go_enter Try.func30, Try.ntmps30
  go_wp2
  have X := Box.new w [.int .i64 4, .int .i64 3, .int .i64 1, .int .i64 2, .int .i64 1, .int .i64 1, .int .i64 1, .int .i64 1, .int .i64 1, .int .i64 0, .int .i64 0, .int .i64 0] 23
  have hb := (Below.refl w.heap.size w).alloc (Nat.le_refl _) (.cells #[.int .i64 4, .int .i64 3, .int .i64 1, .int .i64 2, .int .i64 1, .int .i64 1, .int .i64 1, .int .i64 1, .int .i64 1, .int .i64 0, .int .i64 0, .int .i64 0] 23)
  generalize w.alloc (.cells #[.int .i64 4, .int .i64 3, .int .i64 1, .int .i64 2, .int .i64 1, .int .i64 1, .int .i64 1, .int .i64 1, .int .i64 1, .int .i64 0, .int .i64 0, .int .i64 0] 23) = w1 at X hb ⊢
  obtain ⟨Xc0, Xc1, Xc2, Xc3, Xc4, Xc5, Xc6, Xc7, Xc8, Xc9, Xc10, Xc11⟩ := X.c12
  refine bodyPost_ret (v := poolP.v) (by simp [results, Try.results30, go_sem, Xc0, Xc1, Xc2, Xc3, Xc4, Xc5, Xc6, Xc7, Xc8, Xc9, Xc10, Xc11, poolP]) rfl ?_
  exact ⟨rfl, hb⟩
theorem bLevels_any (w : World) : Calls Try.prog 29 #[] w fun e w' => e = .returned (.slice (some ⟨w.heap.size, 0, none⟩) 2 2) ∧ BarAt w' w'.heap.size (.slice (some ⟨w.heap.size, 0, none⟩) 2 2) safeQ ∧ Below w.heap.size w w' := by
  go_enter Try.func29, Try.ntmps29
  go_wp2
  have X := Box.new w [.int .i64 (-1), .int .i64 0, .int .i64 0, .int .i64 0, .int .i64 0, .int .i64 (-2), .int .i64 1, .int .i64 0, .int .i64 0, .int .i64 0, .int .i64 0, .int .i64 3] 71
  have hb := (Below.refl w.heap.size w).alloc (Nat.le_refl _) (.cells #[.int .i64 (-1), .int .i64 0, .int .i64 0, .int .i64 0, .int .i64 0, .int .i64 (-2), .int .i64 1, .int .i64 0, .int .i64 0, .int .i64 0, .int .i64 0, .int .i64 3] 71)
  refine bodyPost_ret (v := .slice (some ⟨w.heap.size, 0, none⟩) 2 2) (by simp [results, Try.results29, go_sem]) rfl ?_
  exact ⟨rfl, barAt_two (x := ⟨-1, 0, 0, 0, 0, -2⟩) (y := ⟨1, 0, 0, 0, 0, 3⟩) X, hb⟩
theorem bValve_any (w : World) : Calls Try.prog 31 #[] w fun e w' => ∃ b, e = .returned (.agg #[.slice (some ⟨b, 0, none⟩) 2 2]) ∧ CodeAt w' w'.heap.size (.slice (some ⟨b, 0, none⟩) 2 2) (valveC 0 4) ∧ Below w.heap.size w w' := by
  go_enter Try.func31, Try.ntmps31
  go_wp2
  have hb := (((Below.refl w.heap.size w).alloc (by simp <;> omega) (.cells #[.slice (some ⟨w.heap.size + 1 + 1, 0, none⟩) 2 2] 26)).alloc (by simp <;> omega) (.cells #[.int .i64 0, .int .i64 4, .int .i64 3] 122)).alloc (by simp <;> omega) (.cells #[.slice (some ⟨w.heap.size + 1, 0, none⟩) 1 1, .int .i64 1, .slice none 0 0, .int .i64 0] 74)
  have X0 := ((Box.newAt (w := w) (n := w.heap.size) [.slice (some ⟨w.heap.size + 1 + 1, 0, none⟩) 2 2] 26 rfl).alloc (.cells #[.int .i64 0, .int .i64 4, .int .i64 3] 122)).alloc (.cells #[.slice (some ⟨w.heap.size + 1, 0, none⟩) 1 1, .int .i64 1, .slice none 0 0, .int .i64 0] 74)
  have X1 := (Box.newAt (w := w.alloc (.cells #[.slice (some ⟨w.heap.size + 1 + 1, 0, none⟩) 2 2] 26)) (n := w.heap.size + 1) [.int .i64 0, .int .i64 4, .int .i64 3] 122 (by simp)).alloc (.cells #[.slice (some ⟨w.heap.size + 1, 0, none⟩) 1 1, .int .i64 1, .slice none 0 0, .int .i64 0] 74)
  have X2 := Box.newAt (w := (w.alloc (.cells #[.slice (some ⟨w.heap.size + 1 + 1, 0, none⟩) 2 2] 26)).alloc (.cells #[.int .i64 0, .int .i64 4, .int .i64 3] 122)) (n := w.heap.size + 1 + 1) [.slice (some ⟨w.heap.size + 1, 0, none⟩) 1 1, .int .i64 1, .slice none 0 0, .int .i64 0] 74 (by simp)
  generalize ((w.alloc (.cells #[.slice (some ⟨w.heap.size + 1 + 1, 0, none⟩) 2 2] 26)).alloc (.cells #[.int .i64 0, .int .i64 4, .int .i64 3] 122)).alloc (.cells #[.slice (some ⟨w.heap.size + 1, 0, none⟩) 1 1, .int .i64 1, .slice none 0 0, .int .i64 0] 74) = w1 at X0 X1 X2 hb ⊢
  have X0c0 : w1.cell? ⟨w.heap.size, 0, none⟩ = some (.slice (some ⟨w.heap.size + 1 + 1, 0, none⟩) 2 2) := X0.cell 0
  refine bodyPost_ret (v := .agg #[.slice (some ⟨w.heap.size + 1 + 1, 0, none⟩) 2 2]) (by simp [results, Try.results31, go_sem, X0c0]) rfl ?_
  exact ⟨_, rfl, codeAt_valve X2 X1, hb⟩
theorem bEsc_any (p : Pl) (c : List Ln) (A2 : Option Addr) (m2 k2 : Nat) (w : World) (hcn : Hid (askT p c = 0 → p.count ≤ 524288)) (hC : Hid (CodeAt w w.heap.size (.slice A2 m2 k2) c)) :
    Calls Try.prog 19 #[p.v, .agg #[.slice A2 m2 k2]] w (RetEsc w (escT p c).1 (escT p c).2.1 (escT p c).2.2) := by
  by_cases h : askT p c = 0
  · obtain ⟨hv, _⟩ := Pl.check_zero (ask_zero h).1
    obtain ⟨⟨⟨b0, b1, b2, b3, b4, b5⟩, be⟩, hbe⟩ : ∃ t, p.beginT = t := ⟨_, rfl⟩
    obtain ⟨⟨sf, se⟩, hsf⟩ : ∃ t, p.safeT ⟨b0, b1, b2, b3, b4, b5⟩ = t := ⟨_, rfl⟩
    have hs1 : (p.safeT p.beginT.1).1 = sf := by rw [hbe]; dsimp only; rw [hsf]
    cases sf with
    | true =>
      have h1 := bEsc_2 p c A2 m2 k2 w (Lib.hid h) b0 b1 b2 b3 b4 b5 be se (Lib.hid hbe) (Lib.hid hsf) (Lib.hid hv) (Lib.hid (hcn.out h)) hC
      have h2 : (escT p c).2.2 = 0 := by
        rw [escT, if_pos h, if_pos hs1]
        split <;> rfl
      rw [h2]
      exact h1
    | false =>
      rw [escT_unsafe h hs1]
      exact (bEsc_1 p c A2 m2 k2 w (Lib.hid h) b0 b1 b2 b3 b4 b5 be se (Lib.hid hbe) (Lib.hid hsf) hC).mono fun e w' hh => RetEsc.nil hh.1 hh.2
  · rw [escT_err h]
    exact (bEsc_0 p c A2 m2 k2 w _ (Lib.hid rfl) (Lib.hid h) hC).mono fun e w' hh => RetEsc.nil hh.1 hh.2
theorem bInv_any (p : Pl) (c : List Ln) (A2 : Option Addr) (m2 k2 : Nat) (w : World) (hcn : Hid (askT p c = 0 → p.count ≤ 524288)) (hC : Hid (CodeAt w w.heap.size (.slice A2 m2 k2) c)) :
    Calls Try.prog 16 #[p.v, .agg #[.slice A2 m2 k2]] w (RetInv w (invT p c).1 (invT p c).2.1 (invT p c).2.2) := by
  by_cases h : askT p c = 0
  · obtain ⟨hv, _⟩ := Pl.check_zero (ask_zero h).1
    rw [invT, if_pos h]
    exact bInv_1 p c A2 m2 k2 w (Lib.hid h) (Lib.hid hv) (Lib.hid (hcn.out h)) hC
  · rw [invT, if_neg h]
    exact (bInv_0 p c A2 m2 k2 w _ (Lib.hid rfl) (Lib.hid h) hC).mono fun e w' hh => ⟨none, 0, 0, hh.1, ownE_nil _ _ _ _ _, hh.2⟩
end Go.Proofs.Ytancngachnpefaa
