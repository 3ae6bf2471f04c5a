/- BarrierInvariantSpec. (Printed by gen_oc.py and pp.py.) No condition. -/
import Derived.Test.YtancngachnpefaaQK
import Derived.Test.YtancngachnpefaaQOB
import Derived.Test.YtancngachnpefaaQUB
import Derived.Test.YtancngachnpefaaQNB
import Derived.Test.YtancngachnpefaaQNL
import Derived.Test.YtancngachnpefaaQBB
import Derived.Test.YtancngachnpefaaQBU
import Derived.WalkKit
import Derived.ProofKit
import Derived.OpenShut
import Derived.ChangeOld
import Derived.Below
import Derived.Lib.SmallJoins
import Derived.Deep.Slices
import Derived.Deep.Fields
import Derived.ChangeSame
set_option linter.unusedVariables false
set_option linter.unusedSimpArgs false
set_option maxRecDepth 100000
set_option maxHeartbeats 8000000
namespace Go.Proofs.Ytancngachnpefaa
open Go.RowKit Go.Shelf
attribute [local go_sem] Oper.semAt_some
theorem stRd_nil (w : World) : StRd w (.slice none 0 0) [] := ⟨none, 0, rfl, Nat.zero_le _, fun k hk => absurd hk (Nat.not_lt_zero k)⟩
theorem shRd_nil (w : World) : ShRd w (.slice none 0 0) [] := ⟨none, 0, rfl, Nat.zero_le _, fun k hk => absurd hk (Nat.not_lt_zero k)⟩
def RetSI (w : World) (t : List St × Bool × Int) (e : Ending) (w' : World) : Prop := ∃ A k, e = .returned (.tuple #[.slice A t.1.length k, .bool t.2.1, .int .i64 t.2.2]) ∧ StRd w' (.slice A t.1.length k) t.1 ∧ Below w.heap.size w w'
def RetSE (w : World) (t : List Sh × Bool × Int) (e : Ending) (w' : World) : Prop := ∃ A k, e = .returned (.tuple #[.slice A t.1.length k, .bool t.2.1, .int .i64 t.2.2]) ∧ ShRd w' (.slice A t.1.length k) t.1 ∧ Below w.heap.size w w'
section
variable {p : Pl} {c : List Ln} {w : World} {A2 : Option Addr} {m2 k2 : Nat}
theorem inv_len (p : Pl) (c : List Ln) : (invT p c).1.length ≤ 1048576 := by
  by_cases h : askT p c = 0
  · rw [invT, if_pos h]
    have h1 := List.length_filter_le (fun s => !lostI p c s) p.states
    have h2 := count_le (ask_zero h).1
    rw [states_len] at h1
    exact Nat.le_trans h1 (by omega)
  · rw [invT, if_neg h]
    exact Nat.zero_le _
theorem sInv_is (hC : Hid (CodeAt w w.heap.size (.slice A2 m2 k2) c)) : Calls Try.prog 16 #[p.v, .agg #[.slice A2 m2 k2]] w (RetSI w (invT p c)) := by
  refine (bInv_any p c A2 m2 k2 w (Lib.hid (fun h => by have := count_le (ask_zero h).1; omega)) hC).mono ?_
  rintro e w' ⟨A, n, k, rfl, h1, h2⟩
  have h3 := OwnSt.rd h1 (inv_len p c)
  obtain ⟨A', k', e1, h4⟩ := h3
  injection e1 with e2 e3 e4
  subst e2 e3 e4
  exact ⟨_, _, rfl, ⟨_, _, rfl, h4⟩, h2⟩
theorem sEsc_is (hC : Hid (CodeAt w w.heap.size (.slice A2 m2 k2) c)) : Calls Try.prog 19 #[p.v, .agg #[.slice A2 m2 k2]] w (RetSE w (escT p c)) := by
  refine (bEsc_any p c A2 m2 k2 w (Lib.hid (fun h => by have := count_le (ask_zero h).1; omega)) hC).mono ?_
  rintro e w' ⟨A, n, k, rfl, h1, h2⟩
  have h3 := ShAt.rd h1
  obtain ⟨A', k', e1, h4⟩ := h3
  injection e1 with e2 e3 e4
  subst e2 e3 e4
  exact ⟨_, _, rfl, ⟨_, _, rfl, h4⟩, h2⟩
theorem zInv_is (hC : Hid (CodeAt w w.heap.size (.slice A2 m2 k2) c)) : Calls Try.prog 17 #[p.v, .agg #[.slice A2 m2 k2]] w (RetSI w (invT p c)) := by
  by_cases h : askT p c = 0
  · obtain ⟨⟨⟨b0, b1, b2, b3, b4, b5⟩, be⟩, hbe⟩ : ∃ t, p.beginT = t := ⟨_, rfl⟩
    refine (rbInv_1 p c A2 m2 k2 w (Lib.hid h) b0 b1 b2 b3 b4 b5 be (Lib.hid hbe) hC).mono ?_
    rintro e w' ⟨V, rfl, ⟨A, k, rfl, h1⟩, h2⟩
    rw [invT, if_pos h]
    exact ⟨A, k, rfl, ⟨A, k, rfl, h1⟩, h2⟩
  · rw [invT, if_neg h]
    exact (rbInv_0 p c A2 m2 k2 w _ (Lib.hid rfl) (Lib.hid h) hC).mono fun e w' hh => ⟨none, 0, hh.1, stRd_nil _, hh.2⟩
theorem zEsc_is (hC : Hid (CodeAt w w.heap.size (.slice A2 m2 k2) c)) : Calls Try.prog 20 #[p.v, .agg #[.slice A2 m2 k2]] w (RetSE w (escT p c)) := by
  by_cases h : askT p c = 0
  · obtain ⟨⟨⟨b0, b1, b2, b3, b4, b5⟩, be⟩, hbe⟩ : ∃ t, p.beginT = t := ⟨_, rfl⟩
    have h2 : (p.safeT p.beginT.1).1 = p.safeB ⟨b0, b1, b2, b3, b4, b5⟩ := by rw [hbe]; rfl
    cases hs : p.safeB ⟨b0, b1, b2, b3, b4, b5⟩ with
    | true =>
      have h3 : (escT p c).2.2 = 0 := by
        rw [escT, if_pos h, if_pos (h2.trans hs)]
        split <;> rfl
      refine (rbEsc_2 p c A2 m2 k2 w (Lib.hid h) b0 b1 b2 b3 b4 b5 be (Lib.hid hbe) (Lib.hid hs) hC).mono ?_
      rintro e w' ⟨V, rfl, ⟨A, k, rfl, h1⟩, h2⟩
      exact ⟨A, k, by rw [h3], ⟨A, k, rfl, h1⟩, h2⟩
    | false =>
      rw [escT_unsafe h (h2.trans hs)]
      exact (rbEsc_1 p c A2 m2 k2 w (Lib.hid h) b0 b1 b2 b3 b4 b5 be (Lib.hid hbe) (Lib.hid hs) hC).mono fun e w' hh => ⟨none, 0, hh.1, shRd_nil _, hh.2⟩
  · rw [escT_err h]
    exact (rbEsc_0 p c A2 m2 k2 w _ (Lib.hid rfl) (Lib.hid h) hC).mono fun e w' hh => ⟨none, 0, hh.1, shRd_nil _, hh.2⟩
end
theorem bar_nil1 (w : World) (B : Nat) : BarAt w B (.slice none 0 0) [] := ⟨none, 0, rfl, Nat.zero_le _, fun i hi => by simp at hi⟩
theorem law_BarrierInvariantSpec (p : Pl) (c : List Ln) (V : Value) (w : World) (hC : CodeAt w w.heap.size V c) :
    Calls Try.prog 4 #[p.v, .agg #[V]] w fun e w' => e = .returned (.bool true) ∧ Below w.heap.size w w' := by
  obtain ⟨A, cp, rfl, hm⟩ := hC.form
  obtain ⟨n, hn⟩ : ∃ n, c.length = n := ⟨_, rfl⟩
  rw [hn] at hC
  rw [hn]
  have HC := Lib.hid hC
  clear hC hm hn
  go_enter Try.func4, Try.ntmps4
  go_wp2_with fail
  have hB := ((Below.refl w.heap.size w).alloc (by simp <;> omega) (.cells #[.int .i64 p.top, .int .i64 p.bank, .int .i64 p.siphon, .int .i64 p.start, .int .i64 p.positions, .int .i64 p.rate, .int .i64 p.step, .int .i64 p.pass, .int .i64 p.feed, .int .i64 p.pipe, .int .i64 p.orders, .int .i64 p.age] 23)).alloc (by simp <;> omega) (.cells #[.slice A n cp] 26)
  have X3 := (Box.newAt (w := w) (n := w.heap.size) [.int .i64 p.top, .int .i64 p.bank, .int .i64 p.siphon, .int .i64 p.start, .int .i64 p.positions, .int .i64 p.rate, .int .i64 p.step, .int .i64 p.pass, .int .i64 p.feed, .int .i64 p.pipe, .int .i64 p.orders, .int .i64 p.age] 23 rfl).alloc (.cells #[.slice A n cp] 26)
  have X4 := Box.newAt (w := w.alloc (.cells #[.int .i64 p.top, .int .i64 p.bank, .int .i64 p.siphon, .int .i64 p.start, .int .i64 p.positions, .int .i64 p.rate, .int .i64 p.step, .int .i64 p.pass, .int .i64 p.feed, .int .i64 p.pipe, .int .i64 p.orders, .int .i64 p.age] 23)) (n := w.heap.size + 1) [.slice A n cp] 26 (by simp)
  generalize (w.alloc (.cells #[.int .i64 p.top, .int .i64 p.bank, .int .i64 p.siphon, .int .i64 p.start, .int .i64 p.positions, .int .i64 p.rate, .int .i64 p.step, .int .i64 p.pass, .int .i64 p.feed, .int .i64 p.pipe, .int .i64 p.orders, .int .i64 p.age] 23)).alloc (.cells #[.slice A n cp] 26) = w0 at X3 X4 hB ⊢
  refine (bSane_any _).mono ?_
  rintro e w1 ⟨rfl, hb⟩
  replace X3 := X3.later hb
  replace X4 := X4.later hb
  replace hB := hB.trans (hb.mono hB.size)
  clear hb
  obtain ⟨X3c0, X3c1, X3c2, X3c3, X3c4, X3c5, X3c6, X3c7, X3c8, X3c9, X3c10, X3c11⟩ := X3.c12
  have X3z := X3.lt
  have X4c0 : w1.cell? ⟨w.heap.size + 1, 0, none⟩ = some (.slice A n cp) := X4.cell 0
  have X4z := X4.lt
  go_wp2_with fail
  clear X3c0 X3c1 X3c2 X3c3 X3c4 X3c5 X3c6 X3c7 X3c8 X3c9 X3c10 X3c11 X3z X4c0 X4z
  refine (zFew_is (HC.out.later hB) (bar_nil1 _ _)).mono ?_
  rintro e w2 hF
  obtain ⟨t, rfl, hb⟩ := hF
  replace X3 := X3.later hb
  replace X4 := X4.later hb
  replace hB := hB.trans (hb.mono hB.size)
  clear hb
  cases t with
  | false =>
    go_wp2
    go_ret
    exact ⟨rfl, hB⟩
  | true =>
  obtain ⟨⟨li, oi, ei⟩, hi⟩ : ∃ t, invT p c = t := ⟨_, rfl⟩
  obtain ⟨⟨le, oe, ee⟩, he⟩ : ∃ t, escT p c = t := ⟨_, rfl⟩
  have HI := Lib.hid hi
  have HE := Lib.hid he
  clear hi he
  have hz := sInv_is (p := p) (Lib.hid ((HC.out.below hB).more hB.size))
  rw [HI.out] at hz
  obtain ⟨X3c0, X3c1, X3c2, X3c3, X3c4, X3c5, X3c6, X3c7, X3c8, X3c9, X3c10, X3c11⟩ := X3.c12
  have X3z := X3.lt
  have X4c0 : w2.cell? ⟨w.heap.size + 1, 0, none⟩ = some (.slice A n cp) := X4.cell 0
  have X4z := X4.lt
  go_wp2_with fail
  clear X3c0 X3c1 X3c2 X3c3 X3c4 X3c5 X3c6 X3c7 X3c8 X3c9 X3c10 X3c11 X3z X4c0 X4z
  refine hz.mono ?_
  clear hz
  rintro e w3 ⟨A5, k5, rfl, h5, hb⟩
  replace X3 := X3.later hb
  replace X4 := X4.later hb
  replace hB := hB.trans (hb.mono hB.size)
  clear hb
  have H5 := Lib.hid h5
  clear h5
  dsimp only
  have hz := zInv_is (p := p) (Lib.hid ((HC.out.below hB).more hB.size))
  rw [HI.out] at hz
  obtain ⟨X3c0, X3c1, X3c2, X3c3, X3c4, X3c5, X3c6, X3c7, X3c8, X3c9, X3c10, X3c11⟩ := X3.c12
  have X3z := X3.lt
  have X4c0 : w3.cell? ⟨w.heap.size + 1, 0, none⟩ = some (.slice A n cp) := X4.cell 0
  have X4z := X4.lt
  go_wp2_with fail
  clear X3c0 X3c1 X3c2 X3c3 X3c4 X3c5 X3c6 X3c7 X3c8 X3c9 X3c10 X3c11 X3z X4c0 X4z
  refine hz.mono ?_
  clear hz
  rintro e w4 ⟨A8, k8, rfl, h8, hb⟩
  replace X3 := X3.later hb
  replace X4 := X4.later hb
  replace hB := hB.trans (hb.mono hB.size)
  replace H5 := Lib.hid (H5.out.later hb)
  have H8 := Lib.hid h8
  clear hb h8
  dsimp only
  obtain ⟨n5, hn5⟩ : ∃ n5, li.length = n5 := ⟨_, rfl⟩
  rw [hn5] at H5 H8
  simp only [hn5]
  clear hn5
  go_wp2_with fail
  refine (rbSameStates_is _ _ li w4 H5.out H8.out).mono ?_
  rintro e w5 ⟨rfl, hb⟩
  replace X3 := X3.later hb
  replace X4 := X4.later hb
  replace hB := hB.trans (hb.mono hB.size)
  clear hb H5 H8
  have hbb : (oi != oi) = false := by cases oi <;> rfl
  go_upto_region 9 with fail
  clear hbb
  have hz := sEsc_is (p := p) (Lib.hid ((HC.out.below hB).more hB.size))
  rw [HE.out] at hz
  obtain ⟨X3c0, X3c1, X3c2, X3c3, X3c4, X3c5, X3c6, X3c7, X3c8, X3c9, X3c10, X3c11⟩ := X3.c12
  have X3z := X3.lt
  have X4c0 : w5.cell? ⟨w.heap.size + 1, 0, none⟩ = some (.slice A n cp) := X4.cell 0
  have X4z := X4.lt
  go_wp2_with fail
  clear X3c0 X3c1 X3c2 X3c3 X3c4 X3c5 X3c6 X3c7 X3c8 X3c9 X3c10 X3c11 X3z X4c0 X4z
  refine hz.mono ?_
  clear hz
  rintro e w6 ⟨A11, k11, rfl, h11, hb⟩
  replace X3 := X3.later hb
  replace X4 := X4.later hb
  replace hB := hB.trans (hb.mono hB.size)
  clear hb
  have H11 := Lib.hid h11
  clear h11
  dsimp only
  have hz := zEsc_is (p := p) (Lib.hid ((HC.out.below hB).more hB.size))
  rw [HE.out] at hz
  obtain ⟨X3c0, X3c1, X3c2, X3c3, X3c4, X3c5, X3c6, X3c7, X3c8, X3c9, X3c10, X3c11⟩ := X3.c12
  have X3z := X3.lt
  have X4c0 : w6.cell? ⟨w.heap.size + 1, 0, none⟩ = some (.slice A n cp) := X4.cell 0
  have X4z := X4.lt
  go_wp2_with fail
  clear X3c0 X3c1 X3c2 X3c3 X3c4 X3c5 X3c6 X3c7 X3c8 X3c9 X3c10 X3c11 X3z X4c0 X4z
  refine hz.mono ?_
  clear hz
  rintro e w7 ⟨A12, k12, rfl, h12, hb⟩
  replace X3 := X3.later hb
  replace X4 := X4.later hb
  replace hB := hB.trans (hb.mono hB.size)
  replace H11 := Lib.hid (H11.out.later hb)
  have H12 := Lib.hid h12
  clear hb h12
  dsimp only
  obtain ⟨n11, hn11⟩ : ∃ n11, le.length = n11 := ⟨_, rfl⟩
  rw [hn11] at H11 H12
  simp only [hn11]
  clear hn11
  go_wp2_with fail
  refine (rbSameShocks_is _ _ le w7 H11.out H12.out).mono ?_
  rintro e w8 ⟨rfl, hb⟩
  replace X3 := X3.later hb
  replace X4 := X4.later hb
  replace hB := hB.trans (hb.mono hB.size)
  clear hb H11 H12
  have hbb : (oe == oe) = true := by cases oe <;> rfl
  go_wp2
  go_ret
  exact ⟨rfl, hB⟩
end Go.Proofs.Ytancngachnpefaa
namespace Go.Proofs.Ytancngachnpefaa
open Go.ChangeShapes Go.WideShapes Go.ChangeAt Go.RowKit Go.Joins
theorem cell_int {H : Type} {enc : TypeId × Value → H} {P : Program} {w : World} {base : Nat} {spare : Nat → Bool} {held : Bool} {t : TypeId} {k : IntKind} {n : Nat} {v : Value} {y : DataW H × List MemPlace}
    (ht : P.underlying t = some (.int k)) (h : DataW.trod enc P w base spare held n t [v] = some y) : ∃ x : Int, v = .int k x ∧ (Lit.int k x).wf = true := by
  obtain ⟨x, hx, _, hw⟩ := DataW.trod_int ht h
  exact ⟨x, by simpa using hx, hw⟩
section
variable {H : Type} {enc : TypeId × Value → H} {w : World} {base : Nat} {spare : Nat → Bool} {held : Bool}
theorem open_plant {r : Reach} {b0 : Nat} {v : Value} {d : DataW H} {p : List MemPlace} (hv : Value.okWide Try.prog w r b0 23 v) (h : DataW.Trod enc Try.prog w base spare held 23 v d p) : ∃ a : Pl, v = a.v := by
  obtain ⟨cs, rfl, hsz⟩ := okWide_struct Try.underlying23 hv
  obtain ⟨l⟩ := cs
  have hC : Try.prog.cellsOf 23 = 12 := by kernel_rfl
  match l, hsz.trans hC with
  | [c0, c1, c2, c3, c4, c5, c6, c7, c8, c9, c10, c11], _ =>
    obtain ⟨fuel, hf⟩ := h
    obtain ⟨xs, n, _, hx, _, hlen, hg⟩ := DataW.trod_struct Try.underlying23 hf
    have k1 : Try.prog.cellsOf 3 = 1 := by kernel_rfl
    match xs, hlen with
    | [y0, y1, y2, y3, y4, y5, y6, y7, y8, y9, y10, y11], _ =>
      obtain ⟨a0, rfl, _⟩ := cell_int Try.underlying3 (show DataW.trod enc Try.prog w base spare held n 3 [c0] = some y0 by simpa [Value.cells, k1] using hg 0 _ rfl)
      obtain ⟨a1, rfl, _⟩ := cell_int Try.underlying3 (show DataW.trod enc Try.prog w base spare held n 3 [c1] = some y1 by simpa [Value.cells, k1] using hg 1 _ rfl)
      obtain ⟨a2, rfl, _⟩ := cell_int Try.underlying3 (show DataW.trod enc Try.prog w base spare held n 3 [c2] = some y2 by simpa [Value.cells, k1] using hg 2 _ rfl)
      obtain ⟨a3, rfl, _⟩ := cell_int Try.underlying3 (show DataW.trod enc Try.prog w base spare held n 3 [c3] = some y3 by simpa [Value.cells, k1] using hg 3 _ rfl)
      obtain ⟨a4, rfl, _⟩ := cell_int Try.underlying3 (show DataW.trod enc Try.prog w base spare held n 3 [c4] = some y4 by simpa [Value.cells, k1] using hg 4 _ rfl)
      obtain ⟨a5, rfl, _⟩ := cell_int Try.underlying3 (show DataW.trod enc Try.prog w base spare held n 3 [c5] = some y5 by simpa [Value.cells, k1] using hg 5 _ rfl)
      obtain ⟨a6, rfl, _⟩ := cell_int Try.underlying3 (show DataW.trod enc Try.prog w base spare held n 3 [c6] = some y6 by simpa [Value.cells, k1] using hg 6 _ rfl)
      obtain ⟨a7, rfl, _⟩ := cell_int Try.underlying3 (show DataW.trod enc Try.prog w base spare held n 3 [c7] = some y7 by simpa [Value.cells, k1] using hg 7 _ rfl)
      obtain ⟨a8, rfl, _⟩ := cell_int Try.underlying3 (show DataW.trod enc Try.prog w base spare held n 3 [c8] = some y8 by simpa [Value.cells, k1] using hg 8 _ rfl)
      obtain ⟨a9, rfl, _⟩ := cell_int Try.underlying3 (show DataW.trod enc Try.prog w base spare held n 3 [c9] = some y9 by simpa [Value.cells, k1] using hg 9 _ rfl)
      obtain ⟨a10, rfl, _⟩ := cell_int Try.underlying3 (show DataW.trod enc Try.prog w base spare held n 3 [c10] = some y10 by simpa [Value.cells, k1] using hg 10 _ rfl)
      obtain ⟨a11, rfl, _⟩ := cell_int Try.underlying3 (show DataW.trod enc Try.prog w base spare held n 3 [c11] = some y11 by simpa [Value.cells, k1] using hg 11 _ rfl)
      exact ⟨⟨a0, a1, a2, a3, a4, a5, a6, a7, a8, a9, a10, a11⟩, rfl⟩
end
end Go.Proofs.Ytancngachnpefaa
namespace Go.Proofs.Ytancngachnpefaa
open Go.ChangeShapes Go.WideShapes Go.ChangeAt Go.RowKit Go.Joins Go.Deep
section
variable {H : Type} {enc : TypeId × Value → H} {P : Program} {w : World} {base : Nat} {spare : Nat → Bool} {held : Bool}
theorem open_slice_fields {t e : TypeId} {fs : Array Field} {fuel : Nat} {cs : List Value} {x : DataW H × List MemPlace} (ht : P.underlying t = some (.slice e)) (he : P.underlying e = some (.struct fs))
    (hone : oneCellFields P fs = true) (hC : P.cellsOf e = fs.size) (h : DataW.trod enc P w base spare held fuel t cs = some x) :
    (cs = [.slice none 0 0] ∧ x = (.nil, [])) ∨
    ∃ (a : Addr) (len cap m : Nat) (D : Nat → DataW H) (Pl : Nat → List MemPlace), cs = [.slice (some a) len cap] ∧ base ≤ a.block ∧ len ≤ cap ∧ cap ≤ maxLen ∧ m = (if spare a.block then cap else len) ∧
      x = (.slice ((List.range len).map D) ((List.range (m - len)).map fun j => D (len + j)), MemPlace.row a (m * fs.size) ++ (List.range m).flatMap Pl) ∧
      ∀ i, i < m → ∃ (ys : List (DataW H × List MemPlace)) (n : Nat), D i = .agg (ys.map (·.1)) ∧ Pl i = ys.flatMap (·.2) ∧ ys.length = fs.size ∧
        ∀ (j : Nat) (f : Field), fs[j]? = some f → ∃ (v : Value) (y : DataW H × List MemPlace), w.cell? (a.add (i * fs.size + j)) = some v ∧ ys[j]? = some y ∧ DataW.trod enc P w base spare held n f.type [v] = some y := by
  rcases open_slice ht h with h0 | ⟨a, len, cap, m, n, D, Pl, hcs, hb, hl, hm, hmm, hx, hi⟩
  · exact .inl h0
  · refine .inr ⟨a, len, cap, m, D, Pl, hcs, hb, hl, hm, hmm, by rw [hC] at hx; exact hx, fun i him => ?_⟩
    obtain ⟨cs', hc, ht'⟩ := hi i him
    rw [hC] at hc
    obtain ⟨ys, n', hn', hy, hlen, hyl, hf⟩ := DataW.trod_struct he ht'
    obtain ⟨_, hcl, hat⟩ := World.cells?_some hc
    simp only [Prod.mk.injEq] at hy
    refine ⟨ys, n', hy.1, hy.2, hyl, fun j f hj => ?_⟩
    obtain ⟨ho, hk⟩ := hone_of hone j f hj
    have hjl : j < fs.size := (Array.getElem?_eq_some_iff.1 hj).1
    have hcell := hat j hjl
    have hv : cs'[j]? = some (cs'[j]'(by omega)) := List.getElem?_eq_getElem (by omega)
    have h1 := hf j f hj
    rw [ho, hk] at h1
    have hone' : (cs'.drop j).take 1 = [cs'[j]'(by omega)] := by
      rw [List.drop_eq_getElem_cons (by omega)]
      rfl
    rw [hone'] at h1
    have hys : ys[j]? = some (ys[j]'(by omega)) := List.getElem?_eq_getElem (by omega)
    refine ⟨_, _, ?_, hys, h1.trans hys⟩
    rw [← Go.Deep.add_add, hcell, hv]
end
theorem exists_list {α : Type} (P : Nat → α → Prop) : ∀ n, (∀ i, i < n → ∃ a, P i a) → ∃ l : List α, l.length = n ∧ ∀ i a, l[i]? = some a → P i a
  | 0, _ => ⟨[], rfl, fun i a h => by simp at h⟩
  | n + 1, h => by
    obtain ⟨l, hl, hp⟩ := exists_list P n (fun i hi => h i (by omega))
    obtain ⟨a, ha⟩ := h n (by omega)
    refine ⟨l ++ [a], by simp [hl], fun i b hb => ?_⟩
    rcases Nat.lt_trichotomy i n with hi | rfl | hi
    · rw [List.getElem?_append_left (by omega)] at hb
      exact hp i b hb
    · rw [List.getElem?_append_right (by omega), hl] at hb
      simp at hb
      subst hb
      exact ha
    · rw [List.getElem?_eq_none (by simp; omega)] at hb
      cases hb
theorem add_flat (b off n : Nat) : (⟨b, off, none⟩ : Addr).add n = ⟨b, off + n, none⟩ := by
  unfold Addr.add
  split
  · rename_i h; rw [h]; rfl
  · rfl
theorem spot_none {w : World} {a : Addr} {v : Value} (h : w.cell? a = some v) : a.spot = none := by
  unfold World.cell? at h
  split at h
  · split at h
    · cases h
    · rename_i hs
      cases hq : a.spot with
      | none => rfl
      | some q => rw [hq] at hs; exact absurd rfl hs
  · cases h
section
variable {H : Type} {enc : TypeId × Value → H} {w : World} {base : Nat} {spare : Nat → Bool} {held : Bool}
theorem open_conds {n : Nat} {v : Value} {y : DataW H × List MemPlace} (h : DataW.trod enc Try.prog w base spare held n 72 [v] = some y) : ∃ cs : List Cn, CondsAt w w.heap.size v cs := by
  rcases open_slice_fields Try.underlying72 Try.underlying122 (by kernel_rfl) (by kernel_rfl) h with ⟨h0, _⟩ | ⟨a, len, cap, m, D, Pl, h0, hb, hl, hc, hm, _, hf⟩
  · obtain rfl : v = .slice none 0 0 := by simpa using h0
    exact ⟨[], none, 0, rfl, Nat.zero_le _, fun i hi => by simp at hi⟩
  · obtain rfl : v = .slice (some a) len cap := by simpa using h0
    have hlm : len ≤ m := by rw [hm]; split <;> omega
    obtain ⟨cs, hcs, hp⟩ := exists_list (fun i (c : Cn) => w.cell? (a.add (i * 3 + 0)) = some (.int .i64 c.var) ∧ w.cell? (a.add (i * 3 + 1)) = some (.int .i64 c.op) ∧ w.cell? (a.add (i * 3 + 2)) = some (.int .i64 c.n)) len (fun i hi => by
      obtain ⟨ys, k, _, _, _, hj⟩ := hf i (by omega)
      obtain ⟨v0, y0, e0, _, t0⟩ := hj 0 _ rfl
      obtain ⟨v1, y1, e1, _, t1⟩ := hj 1 _ rfl
      obtain ⟨v2, y2, e2, _, t2⟩ := hj 2 _ rfl
      obtain ⟨x0, rfl, _⟩ := cell_int Try.underlying3 t0
      obtain ⟨x1, rfl, _⟩ := cell_int Try.underlying3 t1
      obtain ⟨x2, rfl, _⟩ := cell_int Try.underlying3 t2
      exact ⟨⟨x0, x1, x2⟩, e0, e1, e2⟩)
    refine ⟨cs, some a, cap, by rw [hcs], by omega, fun i hi => ?_⟩
    have hs : a.spot = none := by
      obtain ⟨q0, _, _⟩ := hp 0 _ (List.getElem?_eq_getElem (by omega))
      exact spot_none q0
    obtain ⟨b, off, sp⟩ := a
    obtain rfl : sp = none := hs
    obtain ⟨q0, q1, q2⟩ := hp i _ (List.getElem?_eq_getElem hi)
    rw [add_flat] at q0 q1 q2
    refine ⟨b, off, rfl, World.block_lt_of_cell? _ _ q0, fun j hj => ?_⟩
    dsimp only
    rw [List.getElem?_eq_getElem hi]
    rcases (show j = 0 ∨ j = 1 ∨ j = 2 by omega) with rfl | rfl | rfl
    · exact q0
    · exact q1
    · exact q2
theorem open_lines {n : Nat} {v : Value} {y : DataW H × List MemPlace} (h : DataW.trod enc Try.prog w base spare held n 24 [v] = some y) : ∃ code : List Ln, CodeAt w w.heap.size v code := by
  rcases open_slice_fields Try.underlying24 Try.underlying74 (by kernel_rfl) (by kernel_rfl) h with ⟨h0, _⟩ | ⟨a, len, cap, m, D, Pl, h0, hb, hl, hc, hm, _, hf⟩
  · obtain rfl : v = .slice none 0 0 := by simpa using h0
    exact ⟨[], fun _ => undef, ⟨none, 0, rfl, Nat.zero_le _, fun i hi => by simp at hi⟩, fun i l hl => by simp at hl⟩
  · obtain rfl : v = .slice (some a) len cap := by simpa using h0
    have hlm : len ≤ m := by rw [hm]; split <;> omega
    obtain ⟨ls, hcs, hp⟩ := exists_list (fun i (l : Value × Ln) => w.cell? (a.add (i * 2 + 0)) = some l.1 ∧ w.cell? (a.add (i * 2 + 1)) = some (.int .i64 l.2.set) ∧ CondsAt w w.heap.size l.1 l.2.conds) len (fun i hi => by
      obtain ⟨ys, k, _, _, _, hj⟩ := hf i (by omega)
      obtain ⟨v0, y0, e0, _, t0⟩ := hj 0 _ rfl
      obtain ⟨v1, y1, e1, _, t1⟩ := hj 1 _ rfl
      obtain ⟨x1, rfl, _⟩ := cell_int Try.underlying3 t1
      obtain ⟨cs, hcs⟩ := open_conds t0
      exact ⟨(v0, ⟨cs, x1⟩), e0, e1, hcs⟩)
    refine ⟨ls.map (·.2), fun i => match ls[i]? with | some l => l.1 | none => undef, ⟨some a, cap, by simp [hcs], by simp; omega, fun i hi => ?_⟩, fun i l hl => ?_⟩
    · have hi : i < ls.length := by simpa using hi
      have hs : a.spot = none := by
        obtain ⟨q0, _, _⟩ := hp 0 _ (List.getElem?_eq_getElem (by omega))
        exact spot_none q0
      obtain ⟨b, off, sp⟩ := a
      obtain rfl : sp = none := hs
      obtain ⟨q0, q1, q2⟩ := hp i _ (List.getElem?_eq_getElem hi)
      rw [add_flat] at q0 q1
      refine ⟨b, off, rfl, World.block_lt_of_cell? _ _ q0, fun j hj => ?_⟩
      dsimp only
      rw [List.getElem?_map, List.getElem?_eq_getElem hi]
      rcases (show j = 0 ∨ j = 1 by omega) with rfl | rfl
      · exact q0
      · exact q1
    · rw [List.getElem?_map] at hl
      cases hq : ls[i]? with
      | none => rw [hq] at hl; cases hl
      | some q =>
        rw [hq] at hl
        obtain rfl : q.2 = l := by simpa using hl
        dsimp only
        rw [hq]
        exact (hp i q hq).2.2
theorem open_code {r : Reach} {b0 : Nat} {v : Value} {d : DataW H} {p : List MemPlace} (hv : Value.okWide Try.prog w r b0 26 v) (h : DataW.Trod enc Try.prog w base spare held 26 v d p) : ∃ (V : Value) (code : List Ln), v = .agg #[V] ∧ CodeAt w w.heap.size V code := by
  obtain ⟨cs, rfl, hsz⟩ := okWide_struct Try.underlying26 hv
  obtain ⟨l⟩ := cs
  have hC : Try.prog.cellsOf 26 = 1 := by kernel_rfl
  match l, hsz.trans hC with
  | [c0], _ =>
    obtain ⟨fuel, hf⟩ := h
    obtain ⟨xs, n, _, hx, _, hlen, hg⟩ := DataW.trod_struct Try.underlying26 hf
    have k1 : Try.prog.cellsOf 24 = 1 := by kernel_rfl
    match xs, hlen with
    | [y0], _ =>
      obtain ⟨code, hc⟩ := open_lines (show DataW.trod enc Try.prog w base spare held n 24 [c0] = some y0 by simpa [Value.cells, k1] using hg 0 _ rfl)
      exact ⟨c0, code, rfl, hc⟩
end
end Go.Proofs.Ytancngachnpefaa
namespace Go.Proofs.Ytancngachnpefaa
open Go.ChangeShapes Go.WideShapes Go.ChangeAt Go.RowKit Go.Joins Go.Deep
section
variable {H : Type} {enc : TypeId × Value → H} {w : World} {base : Nat} {spare : Nat → Bool} {held : Bool}
end
end Go.Proofs.Ytancngachnpefaa
