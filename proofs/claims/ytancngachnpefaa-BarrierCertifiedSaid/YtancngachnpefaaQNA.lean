/- The examples' plant, code and barrier of the law's file of chapter 33. (Printed by pp.py.) No condition. -/
import Derived.Test.YtancngachnpefaaQK
import Derived.Test.YtancngachnpefaaQMI
import Derived.Test.YtancngachnpefaaQMQ
import Derived.Test.YtancngachnpefaaQBC
import Derived.Test.YtancngachnpefaaQBP
set_option linter.unusedVariables false
set_option linter.unusedSimpArgs false
set_option maxRecDepth 100000
namespace Go.Proofs.Ytancngachnpefaa
open Go.RowKit
theorem barAt_two {w : World} {b : Nat} {x y : Iq} (hx : Box w b (x.cells ++ y.cells)) : BarAt w w.heap.size (.slice (some ⟨b, 0, none⟩) 2 2) [x, y] := by
  refine ⟨_, _, rfl, by simp [maxLen], fun i hi => ⟨b, 0, rfl, hx.lt, fun j hj => ?_⟩⟩
  rw [hx.cell]
  rcases (show i = 0 ∨ i = 1 by simp at hi; omega) with rfl | rfl <;> rcases (show j = 0 ∨ j = 1 ∨ j = 2 ∨ j = 3 ∨ j = 4 ∨ j = 5 by omega) with rfl | rfl | rfl | rfl | rfl | rfl <;> rfl
theorem barAt_one {w : World} {b : Nat} {x : Iq} (hx : Box w b x.cells) : BarAt w w.heap.size (.slice (some ⟨b, 0, none⟩) 1 1) [x] := by
  refine ⟨_, _, rfl, by simp [maxLen], fun i hi => ⟨b, 0, rfl, hx.lt, fun j hj => ?_⟩⟩
  rw [hx.cell]
  rcases (show i = 0 by simp at hi; omega) with rfl
  rcases (show j = 0 ∨ j = 1 ∨ j = 2 ∨ j = 3 ∨ j = 4 ∨ j = 5 by omega) with rfl | rfl | rfl | rfl | rfl | rfl <;> rfl
theorem codeAt_valve {w : World} {b c : Nat} {v o : Int} (hb : Box w b [.slice (some ⟨c, 0, none⟩) 1 1, .int .i64 1, .slice none 0 0, .int .i64 0]) (hc : Box w c [.int .i64 v, .int .i64 o, .int .i64 3]) : CodeAt w w.heap.size (.slice (some ⟨b, 0, none⟩) 2 2) (valveC v o) := by
  refine ⟨fun i => if i = 0 then .slice (some ⟨c, 0, none⟩) 1 1 else .slice none 0 0, ⟨_, _, rfl, by simp [maxLen, valveC], fun i hi => ⟨b, 0, rfl, hb.lt, fun j hj => ?_⟩⟩, fun i l hl => ?_⟩
  · rw [hb.cell]
    rcases (show i = 0 ∨ i = 1 by simp [valveC] at hi; omega) with rfl | rfl <;> rcases (show j = 0 ∨ j = 1 by omega) with rfl | rfl <;> rfl
  · have hi := (List.getElem?_eq_some_iff.1 hl).1
    rcases (show i = 0 ∨ i = 1 by simp [valveC] at hi; omega) with rfl | rfl
    · cases hl
      refine ⟨_, _, rfl, by simp [maxLen], fun i hi => ⟨c, 0, rfl, hc.lt, fun j hj => ?_⟩⟩
      rw [hc.cell]
      rcases (show i = 0 by simp at hi; omega) with rfl
      rcases (show j = 0 ∨ j = 1 ∨ j = 2 by omega) with rfl | rfl | rfl <;> rfl
    · cases hl
      exact ⟨none, 0, rfl, by simp, fun i hi => by simp at hi⟩
theorem bPool_any (w : World) : Calls Try.prog 30 #[] w fun e w' => e = .returned poolP.v ∧ Below w.heap.size w w' := by
  go_enter Try.func30, Try.ntmps30
  go_wp2
  have X := Box.new w [.int .i64 4, .int .i64 3, .int .i64 1, .int .i64 2, .int .i64 1, .int .i64 1, .int .i64 1, .int .i64 1, .int .i64 1, .int .i64 0, .int .i64 0, .int .i64 0] 23
  have hb := (Below.refl w.heap.size w).alloc (Nat.le_refl _) (.cells #[.int .i64 4, .int .i64 3, .int .i64 1, .int .i64 2, .int .i64 1, .int .i64 1, .int .i64 1, .int .i64 1, .int .i64 1, .int .i64 0, .int .i64 0, .int .i64 0] 23)
  generalize w.alloc (.cells #[.int .i64 4, .int .i64 3, .int .i64 1, .int .i64 2, .int .i64 1, .int .i64 1, .int .i64 1, .int .i64 1, .int .i64 1, .int .i64 0, .int .i64 0, .int .i64 0] 23) = w1 at X hb ⊢
  obtain ⟨Xc0, Xc1, Xc2, Xc3, Xc4, Xc5, Xc6, Xc7, Xc8, Xc9, Xc10, Xc11⟩ := X.c12
  refine bodyPost_ret (v := poolP.v) (by simp [results, Try.results30, go_sem, Xc0, Xc1, Xc2, Xc3, Xc4, Xc5, Xc6, Xc7, Xc8, Xc9, Xc10, Xc11, poolP]) rfl ?_
  exact ⟨rfl, hb⟩
theorem bLevels_any (w : World) : Calls Try.prog 29 #[] w fun e w' => e = .returned (.slice (some ⟨w.heap.size, 0, none⟩) 2 2) ∧ BarAt w' w'.heap.size (.slice (some ⟨w.heap.size, 0, none⟩) 2 2) safeQ ∧ Below w.heap.size w w' := by
  go_enter Try.func29, Try.ntmps29
  go_wp2
  have X := Box.new w [.int .i64 (-1), .int .i64 0, .int .i64 0, .int .i64 0, .int .i64 0, .int .i64 (-2), .int .i64 1, .int .i64 0, .int .i64 0, .int .i64 0, .int .i64 0, .int .i64 3] 71
  have hb := (Below.refl w.heap.size w).alloc (Nat.le_refl _) (.cells #[.int .i64 (-1), .int .i64 0, .int .i64 0, .int .i64 0, .int .i64 0, .int .i64 (-2), .int .i64 1, .int .i64 0, .int .i64 0, .int .i64 0, .int .i64 0, .int .i64 3] 71)
  refine bodyPost_ret (v := .slice (some ⟨w.heap.size, 0, none⟩) 2 2) (by simp [results, Try.results29, go_sem]) rfl ?_
  exact ⟨rfl, barAt_two (x := ⟨-1, 0, 0, 0, 0, -2⟩) (y := ⟨1, 0, 0, 0, 0, 3⟩) X, hb⟩
theorem bValve_any (w : World) : Calls Try.prog 31 #[] w fun e w' => ∃ b, e = .returned (.agg #[.slice (some ⟨b, 0, none⟩) 2 2]) ∧ CodeAt w' w'.heap.size (.slice (some ⟨b, 0, none⟩) 2 2) (valveC 0 4) ∧ Below w.heap.size w w' := by
  go_enter Try.func31, Try.ntmps31
  go_wp2
  have hb := (((Below.refl w.heap.size w).alloc (by simp <;> omega) (.cells #[.slice (some ⟨w.heap.size + 1 + 1, 0, none⟩) 2 2] 26)).alloc (by simp <;> omega) (.cells #[.int .i64 0, .int .i64 4, .int .i64 3] 122)).alloc (by simp <;> omega) (.cells #[.slice (some ⟨w.heap.size + 1, 0, none⟩) 1 1, .int .i64 1, .slice none 0 0, .int .i64 0] 74)
  have X0 := ((Box.newAt (w := w) (n := w.heap.size) [.slice (some ⟨w.heap.size + 1 + 1, 0, none⟩) 2 2] 26 rfl).alloc (.cells #[.int .i64 0, .int .i64 4, .int .i64 3] 122)).alloc (.cells #[.slice (some ⟨w.heap.size + 1, 0, none⟩) 1 1, .int .i64 1, .slice none 0 0, .int .i64 0] 74)
  have X1 := (Box.newAt (w := w.alloc (.cells #[.slice (some ⟨w.heap.size + 1 + 1, 0, none⟩) 2 2] 26)) (n := w.heap.size + 1) [.int .i64 0, .int .i64 4, .int .i64 3] 122 (by simp)).alloc (.cells #[.slice (some ⟨w.heap.size + 1, 0, none⟩) 1 1, .int .i64 1, .slice none 0 0, .int .i64 0] 74)
  have X2 := Box.newAt (w := (w.alloc (.cells #[.slice (some ⟨w.heap.size + 1 + 1, 0, none⟩) 2 2] 26)).alloc (.cells #[.int .i64 0, .int .i64 4, .int .i64 3] 122)) (n := w.heap.size + 1 + 1) [.slice (some ⟨w.heap.size + 1, 0, none⟩) 1 1, .int .i64 1, .slice none 0 0, .int .i64 0] 74 (by simp)
  generalize ((w.alloc (.cells #[.slice (some ⟨w.heap.size + 1 + 1, 0, none⟩) 2 2] 26)).alloc (.cells #[.int .i64 0, .int .i64 4, .int .i64 3] 122)).alloc (.cells #[.slice (some ⟨w.heap.size + 1, 0, none⟩) 1 1, .int .i64 1, .slice none 0 0, .int .i64 0] 74) = w1 at X0 X1 X2 hb ⊢
  have X0c0 : w1.cell? ⟨w.heap.size, 0, none⟩ = some (.slice (some ⟨w.heap.size + 1 + 1, 0, none⟩) 2 2) := X0.cell 0
  refine bodyPost_ret (v := .agg #[.slice (some ⟨w.heap.size + 1 + 1, 0, none⟩) 2 2]) (by simp [results, Try.results31, go_sem, X0c0]) rfl ?_
  exact ⟨_, rfl, codeAt_valve X2 X1, hb⟩
theorem bEsc_any (p : Pl) (c : List Ln) (A2 : Option Addr) (m2 k2 : Nat) (w : World) (hcn : Hid (askT p c = 0 → p.count ≤ 524288)) (hC : Hid (CodeAt w w.heap.size (.slice A2 m2 k2) c)) :
    Calls Try.prog 19 #[p.v, .agg #[.slice A2 m2 k2]] w (RetEsc w (escT p c).1 (escT p c).2.1 (escT p c).2.2) := by
  by_cases h : askT p c = 0
  · obtain ⟨hv, _⟩ := Pl.check_zero (ask_zero h).1
    obtain ⟨⟨⟨b0, b1, b2, b3, b4, b5⟩, be⟩, hbe⟩ : ∃ t, p.beginT = t := ⟨_, rfl⟩
    obtain ⟨⟨sf, se⟩, hsf⟩ : ∃ t, p.safeT ⟨b0, b1, b2, b3, b4, b5⟩ = t := ⟨_, rfl⟩
    have hs1 : (p.safeT p.beginT.1).1 = sf := by rw [hbe]; dsimp only; rw [hsf]
    cases sf with
    | true =>
      have h1 := bEsc_2 p c A2 m2 k2 w (Lib.hid h) b0 b1 b2 b3 b4 b5 be se (Lib.hid hbe) (Lib.hid hsf) (Lib.hid hv) (Lib.hid (hcn.out h)) hC
      have h2 : (escT p c).2.2 = 0 := by
        rw [escT, if_pos h, if_pos hs1]
        split <;> rfl
      rw [h2]
      exact h1
    | false =>
      rw [escT_unsafe h hs1]
      exact (bEsc_1 p c A2 m2 k2 w (Lib.hid h) b0 b1 b2 b3 b4 b5 be se (Lib.hid hbe) (Lib.hid hsf) hC).mono fun e w' hh => RetEsc.nil hh.1 hh.2
  · rw [escT_err h]
    exact (bEsc_0 p c A2 m2 k2 w _ (Lib.hid rfl) (Lib.hid h) hC).mono fun e w' hh => RetEsc.nil hh.1 hh.2
theorem bInv_any (p : Pl) (c : List Ln) (A2 : Option Addr) (m2 k2 : Nat) (w : World) (hcn : Hid (askT p c = 0 → p.count ≤ 524288)) (hC : Hid (CodeAt w w.heap.size (.slice A2 m2 k2) c)) :
    Calls Try.prog 16 #[p.v, .agg #[.slice A2 m2 k2]] w (RetInv w (invT p c).1 (invT p c).2.1 (invT p c).2.2) := by
  by_cases h : askT p c = 0
  · obtain ⟨hv, _⟩ := Pl.check_zero (ask_zero h).1
    rw [invT, if_pos h]
    exact bInv_1 p c A2 m2 k2 w (Lib.hid h) (Lib.hid hv) (Lib.hid (hcn.out h)) hC
  · rw [invT, if_neg h]
    exact (bInv_0 p c A2 m2 k2 w _ (Lib.hid rfl) (Lib.hid h) hC).mono fun e w' hh => ⟨none, 0, 0, hh.1, ownE_nil _ _ _ _ _, hh.2⟩
end Go.Proofs.Ytancngachnpefaa
namespace Go.Proofs.Ytancngachnpefaa
open Go.RowKit
theorem bCert_is {p : Pl} {c : List Ln} {b : List Iq} {V U : Value} {w : World} {t : Bool} {f : Fw} {er : Int} (h : Hid (certT p c b = (t, f, er))) (hC : CodeAt w w.heap.size V c) (hQ : BarAt w w.heap.size U b) :
    Calls Try.prog 14 #[p.v, .agg #[V], U] w fun e w' => e = .returned (.tuple #[.bool t, f.v, .int .i64 er]) ∧ Below w.heap.size w w' := by
  have h := h.out
  obtain ⟨A1, k, rfl, _⟩ := hQ.form
  obtain ⟨A2, k2, rfl, _⟩ := hC.form
  unfold certT at h
  by_cases h0 : askT p c = 0
  · rw [if_pos h0] at h
    by_cases hb : barT b = 0
    · rw [if_pos hb] at h
      obtain ⟨b0, b1, b2, b3, b4, b5, be, hbe⟩ : ∃ b0 b1 b2 b3 b4 b5 be, Hid (p.beginT = (⟨b0, b1, b2, b3, b4, b5⟩, be)) := ⟨_, _, _, _, _, _, _, rfl⟩
      by_cases hi : inB b p.beginT.1 = true
      · rw [if_pos hi] at h
        have hv := (Pl.check_zero (ask_zero h0).1).1
        rcases hf : p.states.findSome? (flawAt p c b) with _ | f'
        · rw [hf] at h
          simp only [Prod.mk.injEq] at h
          obtain ⟨rfl, rfl, rfl⟩ := h
          exact bCert_3 p c b A1 A2 _ k _ k2 w h0 hb hi hv b0 b1 b2 b3 b4 b5 be hbe true Fw.zero (by rw [Hid, hf]; rfl) (fun _ => rfl) hC hQ
        · rw [hf] at h
          simp only [Prod.mk.injEq] at h
          obtain ⟨rfl, rfl, rfl⟩ := h
          exact bCert_3 p c b A1 A2 _ k _ k2 w h0 hb hi hv b0 b1 b2 b3 b4 b5 be hbe false f' (by rw [Hid, hf]; rfl) (fun e => by cases e) hC hQ
      · rw [if_neg hi] at h
        simp only [Prod.mk.injEq] at h
        obtain ⟨rfl, rfl, rfl⟩ := h
        have hq : p.beginT.1 = ⟨b0, b1, b2, b3, b4, b5⟩ := congrArg Prod.fst hbe.out
        rw [hq]
        exact bCert_2 p c b A1 A2 _ k _ k2 w h0 hb (by rw [Hid]; exact Bool.eq_false_iff.2 hi) b0 b1 b2 b3 b4 b5 be hbe hC hQ
    · rw [if_neg hb] at h
      simp only [Prod.mk.injEq] at h
      obtain ⟨rfl, rfl, h2⟩ := h
      exact bCert_1 p c b A1 A2 _ k _ k2 w er h0 h2 (by rw [← h2]; exact hb) hC hQ
  · rw [if_neg h0] at h
    simp only [Prod.mk.injEq] at h
    obtain ⟨rfl, rfl, h2⟩ := h
    exact bCert_0 p c b A1 A2 _ k _ k2 w er h2 (by rw [← h2]; exact h0) hC hQ
end Go.Proofs.Ytancngachnpefaa
