/- BarrierSpec. (Printed by pp.py.) No condition. -/
import Derived.Test.YtancngachnpefaaQK
import Derived.Test.YtancngachnpefaaQNB
import Derived.Test.YtancngachnpefaaQBV
import Derived.Test.YtancngachnpefaaQBB
import Derived.Test.YtancngachnpefaaQBU
import Derived.WalkKit
import Derived.ProofKit
import Derived.OpenShut
import Derived.ChangeOld
import Derived.Below
import Derived.Lib.SmallJoins
import Derived.Deep.Slices
import Derived.Deep.Fields
import Derived.ChangeSame
import Derived.Test.YtancngachnpefaaQNA
set_option linter.unusedVariables false
set_option linter.unusedSimpArgs false
set_option maxRecDepth 100000
set_option maxHeartbeats 8000000
namespace Go.Proofs.Ytancngachnpefaa
open Go.RowKit Go.Shelf
attribute [local go_sem] Oper.semAt_some
theorem law_BarrierSpec (p : Pl) (c : List Ln) (V : Value) (bar : List Iq) (U : Value) (s : St) (w : World) (hC : CodeAt w w.heap.size V c) (hQ : BarAt w w.heap.size U bar) :
    Calls Try.prog 3 #[p.v, .agg #[V], U, s.v] w fun e w' => e = .returned (.bool true) ∧ Below w.heap.size w w' := by
  obtain ⟨A, cp, rfl, hm⟩ := hC.form
  obtain ⟨Ab, cb, rfl, hmb⟩ := hQ.form
  obtain ⟨n, hn⟩ : ∃ n, c.length = n := ⟨_, rfl⟩
  obtain ⟨nb, hnb⟩ : ∃ nb, bar.length = nb := ⟨_, rfl⟩
  rw [hn] at hC
  rw [hnb] at hQ
  rw [hn, hnb]
  have HC := Lib.hid hC
  have HQ := Lib.hid hQ
  clear hC hQ hm hmb hn hnb
  go_enter Try.func3, Try.ntmps3
  go_wp2_with fail
  have hB := (((Below.refl w.heap.size w).alloc (by simp <;> omega) (.cells #[.int .i64 p.top, .int .i64 p.bank, .int .i64 p.siphon, .int .i64 p.start, .int .i64 p.positions, .int .i64 p.rate, .int .i64 p.step, .int .i64 p.pass, .int .i64 p.feed, .int .i64 p.pipe, .int .i64 p.orders, .int .i64 p.age] 23)).alloc (by simp <;> omega) (.cells #[.slice A n cp] 26)).alloc (by simp <;> omega) (.cells #[.int .i64 s.level, .int .i64 s.position, .int .i64 s.p0, .int .i64 s.p1, .int .i64 s.order, .int .i64 s.age] 30)
  have X4 := ((Box.newAt (w := w) (n := w.heap.size) [.int .i64 p.top, .int .i64 p.bank, .int .i64 p.siphon, .int .i64 p.start, .int .i64 p.positions, .int .i64 p.rate, .int .i64 p.step, .int .i64 p.pass, .int .i64 p.feed, .int .i64 p.pipe, .int .i64 p.orders, .int .i64 p.age] 23 rfl).alloc (.cells #[.slice A n cp] 26)).alloc (.cells #[.int .i64 s.level, .int .i64 s.position, .int .i64 s.p0, .int .i64 s.p1, .int .i64 s.order, .int .i64 s.age] 30)
  have X5 := (Box.newAt (w := w.alloc (.cells #[.int .i64 p.top, .int .i64 p.bank, .int .i64 p.siphon, .int .i64 p.start, .int .i64 p.positions, .int .i64 p.rate, .int .i64 p.step, .int .i64 p.pass, .int .i64 p.feed, .int .i64 p.pipe, .int .i64 p.orders, .int .i64 p.age] 23)) (n := w.heap.size + 1) [.slice A n cp] 26 (by simp)).alloc (.cells #[.int .i64 s.level, .int .i64 s.position, .int .i64 s.p0, .int .i64 s.p1, .int .i64 s.order, .int .i64 s.age] 30)
  have X7 := Box.newAt (w := (w.alloc (.cells #[.int .i64 p.top, .int .i64 p.bank, .int .i64 p.siphon, .int .i64 p.start, .int .i64 p.positions, .int .i64 p.rate, .int .i64 p.step, .int .i64 p.pass, .int .i64 p.feed, .int .i64 p.pipe, .int .i64 p.orders, .int .i64 p.age] 23)).alloc (.cells #[.slice A n cp] 26)) (n := w.heap.size + 1 + 1) [.int .i64 s.level, .int .i64 s.position, .int .i64 s.p0, .int .i64 s.p1, .int .i64 s.order, .int .i64 s.age] 30 (by simp)
  generalize ((w.alloc (.cells #[.int .i64 p.top, .int .i64 p.bank, .int .i64 p.siphon, .int .i64 p.start, .int .i64 p.positions, .int .i64 p.rate, .int .i64 p.step, .int .i64 p.pass, .int .i64 p.feed, .int .i64 p.pipe, .int .i64 p.orders, .int .i64 p.age] 23)).alloc (.cells #[.slice A n cp] 26)).alloc (.cells #[.int .i64 s.level, .int .i64 s.position, .int .i64 s.p0, .int .i64 s.p1, .int .i64 s.order, .int .i64 s.age] 30) = w0 at X4 X5 X7 hB ⊢
  refine (bSane_any _).mono ?_
  rintro e w1 ⟨rfl, hb⟩
  replace X4 := X4.later hb
  replace X5 := X5.later hb
  replace X7 := X7.later hb
  replace hB := hB.trans (hb.mono hB.size)
  clear hb
  obtain ⟨X4c0, X4f0, X4c1, X4f1, X4c2, X4f2, X4c3, X4f3, X4c4, X4f4, X4c5, X4f5, X4c6, X4f6, X4c7, X4f7, X4c8, X4f8, X4c9, X4f9, X4c10, X4f10, X4c11, X4f11⟩ := X4.f12
  have X4z : w.heap.size < w1.heap.size := X4.lt
  have X5c0 : w1.cell? ⟨w.heap.size + 1, 0, none⟩ = some (.slice A n cp) := X5.cell 0
  have X5f0 : w1.frozen? ⟨w.heap.size + 1, 0, none⟩ = false := X5.free 0
  have X5z : w.heap.size + 1 < w1.heap.size := X5.lt
  go_wp2_with fail
  clear X4c0 X4f0 X4c1 X4f1 X4c2 X4f2 X4c3 X4f3 X4c4 X4f4 X4c5 X4f5 X4c6 X4f6 X4c7 X4f7 X4c8 X4f8 X4c9 X4f9 X4c10 X4f10 X4c11 X4f11 X4z
  clear X5c0 X5f0 X5z
  refine (zFew_is (HC.out.later hB) (HQ.out.later hB)).mono ?_
  rintro e w2 hh
  obtain ⟨t, rfl, hb⟩ := hh
  replace X4 := X4.later hb
  replace X5 := X5.later hb
  replace X7 := X7.later hb
  replace hB := hB.trans (hb.mono hB.size)
  clear hb
  cases t with
  | false =>
    go_wp2
    go_ret
    exact ⟨rfl, hB⟩
  | true =>
  obtain ⟨hh1, he, hhe⟩ : ∃ a b, Hid (holdsT bar s = (a, b)) := ⟨_, _, rfl⟩
  obtain ⟨ct, cf, ce, hce⟩ : ∃ a b d, Hid (certT p c bar = (a, b, d)) := ⟨_, _, _, rfl⟩
  obtain ⟨X7c0, X7f0, X7c1, X7f1, X7c2, X7f2, X7c3, X7f3, X7c4, X7f4, X7c5, X7f5⟩ := X7.f6
  have X7z : w.heap.size + 1 + 1 < w2.heap.size := X7.lt
  go_wp2_with fail
  clear X7c0 X7f0 X7c1 X7f1 X7c2 X7f2 X7c3 X7f3 X7c4 X7f4 X7c5 X7f5 X7z
  refine (bHolds_is hhe (HQ.out.later hB)).mono ?_
  rintro e w3 ⟨rfl, hb⟩
  replace X4 := X4.later hb
  replace X5 := X5.later hb
  replace X7 := X7.later hb
  replace hB := hB.trans (hb.mono hB.size)
  clear hb
  obtain ⟨X7c0, X7f0, X7c1, X7f1, X7c2, X7f2, X7c3, X7f3, X7c4, X7f4, X7c5, X7f5⟩ := X7.f6
  have X7z : w.heap.size + 1 + 1 < w3.heap.size := X7.lt
  go_wp2_with fail
  clear X7c0 X7f0 X7c1 X7f1 X7c2 X7f2 X7c3 X7f3 X7c4 X7f4 X7c5 X7f5 X7z
  refine (rbHolds_is hhe (HQ.out.later hB)).mono ?_
  rintro e w4 ⟨rfl, hb⟩
  replace X4 := X4.later hb
  replace X5 := X5.later hb
  replace hB := hB.trans (hb.mono hB.size)
  clear hb X7
  obtain ⟨X4c0, X4f0, X4c1, X4f1, X4c2, X4f2, X4c3, X4f3, X4c4, X4f4, X4c5, X4f5, X4c6, X4f6, X4c7, X4f7, X4c8, X4f8, X4c9, X4f9, X4c10, X4f10, X4c11, X4f11⟩ := X4.f12
  have X4z : w.heap.size < w4.heap.size := X4.lt
  have X5c0 : w4.cell? ⟨w.heap.size + 1, 0, none⟩ = some (.slice A n cp) := X5.cell 0
  have X5f0 : w4.frozen? ⟨w.heap.size + 1, 0, none⟩ = false := X5.free 0
  have X5z : w.heap.size + 1 < w4.heap.size := X5.lt
  go_wp2_with fail
  clear X4c0 X4f0 X4c1 X4f1 X4c2 X4f2 X4c3 X4f3 X4c4 X4f4 X4c5 X4f5 X4c6 X4f6 X4c7 X4f7 X4c8 X4f8 X4c9 X4f9 X4c10 X4f10 X4c11 X4f11 X4z
  clear X5c0 X5f0 X5z
  refine (bCert_is hce (HC.out.later hB) (HQ.out.later hB)).mono ?_
  rintro e w5 ⟨rfl, hb⟩
  replace X4 := X4.later hb
  replace X5 := X5.later hb
  replace hB := hB.trans (hb.mono hB.size)
  clear hb
  obtain ⟨fk, ⟨g0, g1, g2, g3, g4, g5⟩, ⟨f0, f1⟩⟩ := cf
  have hz5 : w.heap.size + 1 < w5.heap.size := X5.lt
  go_upto_region 8 with fail
  have hb := (Below.refl w5.heap.size w5).alloc (Nat.le_refl _) (.cells #[.int .i64 fk, .int .i64 g0, .int .i64 g1, .int .i64 g2, .int .i64 g3, .int .i64 g4, .int .i64 g5, .int .i64 f0, .int .i64 f1] 39)
  have X14 := Box.new w5 [.int .i64 fk, .int .i64 g0, .int .i64 g1, .int .i64 g2, .int .i64 g3, .int .i64 g4, .int .i64 g5, .int .i64 f0, .int .i64 f1] 39
  replace X4 := X4.later hb
  replace X5 := X5.later hb
  replace hB := hB.trans (hb.mono hB.size)
  clear hb
  generalize w5.alloc (.cells #[.int .i64 fk, .int .i64 g0, .int .i64 g1, .int .i64 g2, .int .i64 g3, .int .i64 g4, .int .i64 g5, .int .i64 f0, .int .i64 f1] 39) = w6 at X4 X5 X14 hB ⊢
  generalize w5.heap.size = B14 at X14 hz5 ⊢
  obtain ⟨X4c0, X4f0, X4c1, X4f1, X4c2, X4f2, X4c3, X4f3, X4c4, X4f4, X4c5, X4f5, X4c6, X4f6, X4c7, X4f7, X4c8, X4f8, X4c9, X4f9, X4c10, X4f10, X4c11, X4f11⟩ := X4.f12
  have X4z : w.heap.size < w6.heap.size := X4.lt
  have X5c0 : w6.cell? ⟨w.heap.size + 1, 0, none⟩ = some (.slice A n cp) := X5.cell 0
  have X5f0 : w6.frozen? ⟨w.heap.size + 1, 0, none⟩ = false := X5.free 0
  have X5z : w.heap.size + 1 < w6.heap.size := X5.lt
  go_wp2_with fail
  clear X4c0 X4f0 X4c1 X4f1 X4c2 X4f2 X4c3 X4f3 X4c4 X4f4 X4c5 X4f5 X4c6 X4f6 X4c7 X4f7 X4c8 X4f8 X4c9 X4f9 X4c10 X4f10 X4c11 X4f11 X4z
  clear X5c0 X5f0 X5z
  refine (rbCert_is hce (HC.out.later hB) (HQ.out.later hB)).mono ?_
  rintro e w7 ⟨rfl, hb⟩
  replace X14 := X14.later hb
  replace hB := hB.trans (hb.mono hB.size)
  clear hb X4 X5
  have hz14 : B14 < w7.heap.size := X14.lt
  go_upto_region 9 with fail
  have hb := (Below.refl w7.heap.size w7).alloc (Nat.le_refl _) (.cells #[.int .i64 fk, .int .i64 g0, .int .i64 g1, .int .i64 g2, .int .i64 g3, .int .i64 g4, .int .i64 g5, .int .i64 f0, .int .i64 f1] 39)
  have X17 := Box.new w7 [.int .i64 fk, .int .i64 g0, .int .i64 g1, .int .i64 g2, .int .i64 g3, .int .i64 g4, .int .i64 g5, .int .i64 f0, .int .i64 f1] 39
  replace X14 := X14.later hb
  replace hB := hB.trans (hb.mono hB.size)
  clear hb
  generalize w7.alloc (.cells #[.int .i64 fk, .int .i64 g0, .int .i64 g1, .int .i64 g2, .int .i64 g3, .int .i64 g4, .int .i64 g5, .int .i64 f0, .int .i64 f1] 39) = w8 at X14 X17 hB ⊢
  generalize w7.heap.size = B17 at X17 hz14 ⊢
  obtain ⟨X14c0, X14c1, X14c2, X14c3, X14c4, X14c5, X14c6, X14c7, X14c8⟩ := X14.c9
  obtain ⟨X17c0, X17c1, X17c2, X17c3, X17c4, X17c5, X17c6, X17c7, X17c8⟩ := X17.c9
  have z1 := X14.lt
  have z2 := X17.lt
  go_wp2
  go_ret
  exact ⟨by simp, hB⟩
end Go.Proofs.Ytancngachnpefaa
namespace Go.Proofs.Ytancngachnpefaa
open Go.ChangeShapes Go.WideShapes Go.ChangeAt Go.RowKit Go.Joins
theorem cell_int {H : Type} {enc : TypeId × Value → H} {P : Program} {w : World} {base : Nat} {spare : Nat → Bool} {held : Bool} {t : TypeId} {k : IntKind} {n : Nat} {v : Value} {y : DataW H × List MemPlace}
    (ht : P.underlying t = some (.int k)) (h : DataW.trod enc P w base spare held n t [v] = some y) : ∃ x : Int, v = .int k x ∧ (Lit.int k x).wf = true := by
  obtain ⟨x, hx, _, hw⟩ := DataW.trod_int ht h
  exact ⟨x, by simpa using hx, hw⟩
section
variable {H : Type} {enc : TypeId × Value → H} {w : World} {base : Nat} {spare : Nat → Bool} {held : Bool}
theorem open_plant {r : Reach} {b0 : Nat} {v : Value} {d : DataW H} {p : List MemPlace} (hv : Value.okWide Try.prog w r b0 23 v) (h : DataW.Trod enc Try.prog w base spare held 23 v d p) : ∃ a : Pl, v = a.v := by
  obtain ⟨cs, rfl, hsz⟩ := okWide_struct Try.underlying23 hv
  obtain ⟨l⟩ := cs
  have hC : Try.prog.cellsOf 23 = 12 := by kernel_rfl
  match l, hsz.trans hC with
  | [c0, c1, c2, c3, c4, c5, c6, c7, c8, c9, c10, c11], _ =>
    obtain ⟨fuel, hf⟩ := h
    obtain ⟨xs, n, _, hx, _, hlen, hg⟩ := DataW.trod_struct Try.underlying23 hf
    have k1 : Try.prog.cellsOf 3 = 1 := by kernel_rfl
    match xs, hlen with
    | [y0, y1, y2, y3, y4, y5, y6, y7, y8, y9, y10, y11], _ =>
      obtain ⟨a0, rfl, _⟩ := cell_int Try.underlying3 (show DataW.trod enc Try.prog w base spare held n 3 [c0] = some y0 by simpa [Value.cells, k1] using hg 0 _ rfl)
      obtain ⟨a1, rfl, _⟩ := cell_int Try.underlying3 (show DataW.trod enc Try.prog w base spare held n 3 [c1] = some y1 by simpa [Value.cells, k1] using hg 1 _ rfl)
      obtain ⟨a2, rfl, _⟩ := cell_int Try.underlying3 (show DataW.trod enc Try.prog w base spare held n 3 [c2] = some y2 by simpa [Value.cells, k1] using hg 2 _ rfl)
      obtain ⟨a3, rfl, _⟩ := cell_int Try.underlying3 (show DataW.trod enc Try.prog w base spare held n 3 [c3] = some y3 by simpa [Value.cells, k1] using hg 3 _ rfl)
      obtain ⟨a4, rfl, _⟩ := cell_int Try.underlying3 (show DataW.trod enc Try.prog w base spare held n 3 [c4] = some y4 by simpa [Value.cells, k1] using hg 4 _ rfl)
      obtain ⟨a5, rfl, _⟩ := cell_int Try.underlying3 (show DataW.trod enc Try.prog w base spare held n 3 [c5] = some y5 by simpa [Value.cells, k1] using hg 5 _ rfl)
      obtain ⟨a6, rfl, _⟩ := cell_int Try.underlying3 (show DataW.trod enc Try.prog w base spare held n 3 [c6] = some y6 by simpa [Value.cells, k1] using hg 6 _ rfl)
      obtain ⟨a7, rfl, _⟩ := cell_int Try.underlying3 (show DataW.trod enc Try.prog w base spare held n 3 [c7] = some y7 by simpa [Value.cells, k1] using hg 7 _ rfl)
      obtain ⟨a8, rfl, _⟩ := cell_int Try.underlying3 (show DataW.trod enc Try.prog w base spare held n 3 [c8] = some y8 by simpa [Value.cells, k1] using hg 8 _ rfl)
      obtain ⟨a9, rfl, _⟩ := cell_int Try.underlying3 (show DataW.trod enc Try.prog w base spare held n 3 [c9] = some y9 by simpa [Value.cells, k1] using hg 9 _ rfl)
      obtain ⟨a10, rfl, _⟩ := cell_int Try.underlying3 (show DataW.trod enc Try.prog w base spare held n 3 [c10] = some y10 by simpa [Value.cells, k1] using hg 10 _ rfl)
      obtain ⟨a11, rfl, _⟩ := cell_int Try.underlying3 (show DataW.trod enc Try.prog w base spare held n 3 [c11] = some y11 by simpa [Value.cells, k1] using hg 11 _ rfl)
      exact ⟨⟨a0, a1, a2, a3, a4, a5, a6, a7, a8, a9, a10, a11⟩, rfl⟩
theorem open_state {r : Reach} {b0 : Nat} {v : Value} {d : DataW H} {p : List MemPlace} (hv : Value.okWide Try.prog w r b0 30 v) (h : DataW.Trod enc Try.prog w base spare held 30 v d p) : ∃ a : St, v = a.v := by
  obtain ⟨cs, rfl, hsz⟩ := okWide_struct Try.underlying30 hv
  obtain ⟨l⟩ := cs
  have hC : Try.prog.cellsOf 30 = 6 := by kernel_rfl
  match l, hsz.trans hC with
  | [c0, c1, c2, c3, c4, c5], _ =>
    obtain ⟨fuel, hf⟩ := h
    obtain ⟨xs, n, _, hx, _, hlen, hg⟩ := DataW.trod_struct Try.underlying30 hf
    have k1 : Try.prog.cellsOf 3 = 1 := by kernel_rfl
    match xs, hlen with
    | [y0, y1, y2, y3, y4], _ =>
      obtain ⟨a0, rfl, _⟩ := cell_int Try.underlying3 (show DataW.trod enc Try.prog w base spare held n 3 [c0] = some y0 by simpa [Value.cells, k1] using hg 0 _ rfl)
      obtain ⟨a1, rfl, _⟩ := cell_int Try.underlying3 (show DataW.trod enc Try.prog w base spare held n 3 [c1] = some y1 by simpa [Value.cells, k1] using hg 1 _ rfl)
      have k2 : Try.prog.cellsOf 28 = 2 := by kernel_rfl
      obtain ⟨zs, m, _, _, _, hzl, hgz⟩ := DataW.trod_array Try.underlying28 (show DataW.trod enc Try.prog w base spare held n 28 [c2, c3] = some y2 by simpa [Value.cells, k2] using hg 2 _ rfl)
      match zs, hzl with
      | [z0, z1], _ =>
      obtain ⟨a2, rfl, _⟩ := cell_int Try.underlying3 (show DataW.trod enc Try.prog w base spare held m 3 [c2] = some z0 by simpa [k1] using hgz 0 (by decide))
      obtain ⟨a3, rfl, _⟩ := cell_int Try.underlying3 (show DataW.trod enc Try.prog w base spare held m 3 [c3] = some z1 by simpa [k1] using hgz 1 (by decide))
      obtain ⟨a4, rfl, _⟩ := cell_int Try.underlying3 (show DataW.trod enc Try.prog w base spare held n 3 [c4] = some y3 by simpa [Value.cells, k1] using hg 3 _ rfl)
      obtain ⟨a5, rfl, _⟩ := cell_int Try.underlying3 (show DataW.trod enc Try.prog w base spare held n 3 [c5] = some y4 by simpa [Value.cells, k1] using hg 4 _ rfl)
      exact ⟨⟨a0, a1, a2, a3, a4, a5⟩, rfl⟩
end
end Go.Proofs.Ytancngachnpefaa
namespace Go.Proofs.Ytancngachnpefaa
open Go.ChangeShapes Go.WideShapes Go.ChangeAt Go.RowKit Go.Joins Go.Deep
section
variable {H : Type} {enc : TypeId × Value → H} {P : Program} {w : World} {base : Nat} {spare : Nat → Bool} {held : Bool}
theorem open_slice_fields {t e : TypeId} {fs : Array Field} {fuel : Nat} {cs : List Value} {x : DataW H × List MemPlace} (ht : P.underlying t = some (.slice e)) (he : P.underlying e = some (.struct fs))
    (hone : oneCellFields P fs = true) (hC : P.cellsOf e = fs.size) (h : DataW.trod enc P w base spare held fuel t cs = some x) :
    (cs = [.slice none 0 0] ∧ x = (.nil, [])) ∨
    ∃ (a : Addr) (len cap m : Nat) (D : Nat → DataW H) (Pl : Nat → List MemPlace), cs = [.slice (some a) len cap] ∧ base ≤ a.block ∧ len ≤ cap ∧ cap ≤ maxLen ∧ m = (if spare a.block then cap else len) ∧
      x = (.slice ((List.range len).map D) ((List.range (m - len)).map fun j => D (len + j)), MemPlace.row a (m * fs.size) ++ (List.range m).flatMap Pl) ∧
      ∀ i, i < m → ∃ (ys : List (DataW H × List MemPlace)) (n : Nat), D i = .agg (ys.map (·.1)) ∧ Pl i = ys.flatMap (·.2) ∧ ys.length = fs.size ∧
        ∀ (j : Nat) (f : Field), fs[j]? = some f → ∃ (v : Value) (y : DataW H × List MemPlace), w.cell? (a.add (i * fs.size + j)) = some v ∧ ys[j]? = some y ∧ DataW.trod enc P w base spare held n f.type [v] = some y := by
  rcases open_slice ht h with h0 | ⟨a, len, cap, m, n, D, Pl, hcs, hb, hl, hm, hmm, hx, hi⟩
  · exact .inl h0
  · refine .inr ⟨a, len, cap, m, D, Pl, hcs, hb, hl, hm, hmm, by rw [hC] at hx; exact hx, fun i him => ?_⟩
    obtain ⟨cs', hc, ht'⟩ := hi i him
    rw [hC] at hc
    obtain ⟨ys, n', hn', hy, hlen, hyl, hf⟩ := DataW.trod_struct he ht'
    obtain ⟨_, hcl, hat⟩ := World.cells?_some hc
    simp only [Prod.mk.injEq] at hy
    refine ⟨ys, n', hy.1, hy.2, hyl, fun j f hj => ?_⟩
    obtain ⟨ho, hk⟩ := hone_of hone j f hj
    have hjl : j < fs.size := (Array.getElem?_eq_some_iff.1 hj).1
    have hcell := hat j hjl
    have hv : cs'[j]? = some (cs'[j]'(by omega)) := List.getElem?_eq_getElem (by omega)
    have h1 := hf j f hj
    rw [ho, hk] at h1
    have hone' : (cs'.drop j).take 1 = [cs'[j]'(by omega)] := by
      rw [List.drop_eq_getElem_cons (by omega)]
      rfl
    rw [hone'] at h1
    have hys : ys[j]? = some (ys[j]'(by omega)) := List.getElem?_eq_getElem (by omega)
    refine ⟨_, _, ?_, hys, h1.trans hys⟩
    rw [← Go.Deep.add_add, hcell, hv]
end
theorem exists_list {α : Type} (P : Nat → α → Prop) : ∀ n, (∀ i, i < n → ∃ a, P i a) → ∃ l : List α, l.length = n ∧ ∀ i a, l[i]? = some a → P i a
  | 0, _ => ⟨[], rfl, fun i a h => by simp at h⟩
  | n + 1, h => by
    obtain ⟨l, hl, hp⟩ := exists_list P n (fun i hi => h i (by omega))
    obtain ⟨a, ha⟩ := h n (by omega)
    refine ⟨l ++ [a], by simp [hl], fun i b hb => ?_⟩
    rcases Nat.lt_trichotomy i n with hi | rfl | hi
    · rw [List.getElem?_append_left (by omega)] at hb
      exact hp i b hb
    · rw [List.getElem?_append_right (by omega), hl] at hb
      simp at hb
      subst hb
      exact ha
    · rw [List.getElem?_eq_none (by simp; omega)] at hb
      cases hb
theorem add_flat (b off n : Nat) : (⟨b, off, none⟩ : Addr).add n = ⟨b, off + n, none⟩ := by
  unfold Addr.add
  split
  · rename_i h; rw [h]; rfl
  · rfl
theorem spot_none {w : World} {a : Addr} {v : Value} (h : w.cell? a = some v) : a.spot = none := by
  unfold World.cell? at h
  split at h
  · split at h
    · cases h
    · rename_i hs
      cases hq : a.spot with
      | none => rfl
      | some q => rw [hq] at hs; exact absurd rfl hs
  · cases h
section
variable {H : Type} {enc : TypeId × Value → H} {w : World} {base : Nat} {spare : Nat → Bool} {held : Bool}
theorem open_conds {n : Nat} {v : Value} {y : DataW H × List MemPlace} (h : DataW.trod enc Try.prog w base spare held n 72 [v] = some y) : ∃ cs : List Cn, CondsAt w w.heap.size v cs := by
  rcases open_slice_fields Try.underlying72 Try.underlying122 (by kernel_rfl) (by kernel_rfl) h with ⟨h0, _⟩ | ⟨a, len, cap, m, D, Pl, h0, hb, hl, hc, hm, _, hf⟩
  · obtain rfl : v = .slice none 0 0 := by simpa using h0
    exact ⟨[], none, 0, rfl, Nat.zero_le _, fun i hi => by simp at hi⟩
  · obtain rfl : v = .slice (some a) len cap := by simpa using h0
    have hlm : len ≤ m := by rw [hm]; split <;> omega
    obtain ⟨cs, hcs, hp⟩ := exists_list (fun i (c : Cn) => w.cell? (a.add (i * 3 + 0)) = some (.int .i64 c.var) ∧ w.cell? (a.add (i * 3 + 1)) = some (.int .i64 c.op) ∧ w.cell? (a.add (i * 3 + 2)) = some (.int .i64 c.n)) len (fun i hi => by
      obtain ⟨ys, k, _, _, _, hj⟩ := hf i (by omega)
      obtain ⟨v0, y0, e0, _, t0⟩ := hj 0 _ rfl
      obtain ⟨v1, y1, e1, _, t1⟩ := hj 1 _ rfl
      obtain ⟨v2, y2, e2, _, t2⟩ := hj 2 _ rfl
      obtain ⟨x0, rfl, _⟩ := cell_int Try.underlying3 t0
      obtain ⟨x1, rfl, _⟩ := cell_int Try.underlying3 t1
      obtain ⟨x2, rfl, _⟩ := cell_int Try.underlying3 t2
      exact ⟨⟨x0, x1, x2⟩, e0, e1, e2⟩)
    refine ⟨cs, some a, cap, by rw [hcs], by omega, fun i hi => ?_⟩
    have hs : a.spot = none := by
      obtain ⟨q0, _, _⟩ := hp 0 _ (List.getElem?_eq_getElem (by omega))
      exact spot_none q0
    obtain ⟨b, off, sp⟩ := a
    obtain rfl : sp = none := hs
    obtain ⟨q0, q1, q2⟩ := hp i _ (List.getElem?_eq_getElem hi)
    rw [add_flat] at q0 q1 q2
    refine ⟨b, off, rfl, World.block_lt_of_cell? _ _ q0, fun j hj => ?_⟩
    dsimp only
    rw [List.getElem?_eq_getElem hi]
    rcases (show j = 0 ∨ j = 1 ∨ j = 2 by omega) with rfl | rfl | rfl
    · exact q0
    · exact q1
    · exact q2
theorem open_lines {n : Nat} {v : Value} {y : DataW H × List MemPlace} (h : DataW.trod enc Try.prog w base spare held n 24 [v] = some y) : ∃ code : List Ln, CodeAt w w.heap.size v code := by
  rcases open_slice_fields Try.underlying24 Try.underlying74 (by kernel_rfl) (by kernel_rfl) h with ⟨h0, _⟩ | ⟨a, len, cap, m, D, Pl, h0, hb, hl, hc, hm, _, hf⟩
  · obtain rfl : v = .slice none 0 0 := by simpa using h0
    exact ⟨[], fun _ => undef, ⟨none, 0, rfl, Nat.zero_le _, fun i hi => by simp at hi⟩, fun i l hl => by simp at hl⟩
  · obtain rfl : v = .slice (some a) len cap := by simpa using h0
    have hlm : len ≤ m := by rw [hm]; split <;> omega
    obtain ⟨ls, hcs, hp⟩ := exists_list (fun i (l : Value × Ln) => w.cell? (a.add (i * 2 + 0)) = some l.1 ∧ w.cell? (a.add (i * 2 + 1)) = some (.int .i64 l.2.set) ∧ CondsAt w w.heap.size l.1 l.2.conds) len (fun i hi => by
      obtain ⟨ys, k, _, _, _, hj⟩ := hf i (by omega)
      obtain ⟨v0, y0, e0, _, t0⟩ := hj 0 _ rfl
      obtain ⟨v1, y1, e1, _, t1⟩ := hj 1 _ rfl
      obtain ⟨x1, rfl, _⟩ := cell_int Try.underlying3 t1
      obtain ⟨cs, hcs⟩ := open_conds t0
      exact ⟨(v0, ⟨cs, x1⟩), e0, e1, hcs⟩)
    refine ⟨ls.map (·.2), fun i => match ls[i]? with | some l => l.1 | none => undef, ⟨some a, cap, by simp [hcs], by simp; omega, fun i hi => ?_⟩, fun i l hl => ?_⟩
    · have hi : i < ls.length := by simpa using hi
      have hs : a.spot = none := by
        obtain ⟨q0, _, _⟩ := hp 0 _ (List.getElem?_eq_getElem (by omega))
        exact spot_none q0
      obtain ⟨b, off, sp⟩ := a
      obtain rfl : sp = none := hs
      obtain ⟨q0, q1, q2⟩ := hp i _ (List.getElem?_eq_getElem hi)
      rw [add_flat] at q0 q1
      refine ⟨b, off, rfl, World.block_lt_of_cell? _ _ q0, fun j hj => ?_⟩
      dsimp only
      rw [List.getElem?_map, List.getElem?_eq_getElem hi]
      rcases (show j = 0 ∨ j = 1 by omega) with rfl | rfl
      · exact q0
      · exact q1
    · rw [List.getElem?_map] at hl
      cases hq : ls[i]? with
      | none => rw [hq] at hl; cases hl
      | some q =>
        rw [hq] at hl
        obtain rfl : q.2 = l := by simpa using hl
        dsimp only
        rw [hq]
        exact (hp i q hq).2.2
theorem open_code {r : Reach} {b0 : Nat} {v : Value} {d : DataW H} {p : List MemPlace} (hv : Value.okWide Try.prog w r b0 26 v) (h : DataW.Trod enc Try.prog w base spare held 26 v d p) : ∃ (V : Value) (code : List Ln), v = .agg #[V] ∧ CodeAt w w.heap.size V code := by
  obtain ⟨cs, rfl, hsz⟩ := okWide_struct Try.underlying26 hv
  obtain ⟨l⟩ := cs
  have hC : Try.prog.cellsOf 26 = 1 := by kernel_rfl
  match l, hsz.trans hC with
  | [c0], _ =>
    obtain ⟨fuel, hf⟩ := h
    obtain ⟨xs, n, _, hx, _, hlen, hg⟩ := DataW.trod_struct Try.underlying26 hf
    have k1 : Try.prog.cellsOf 24 = 1 := by kernel_rfl
    match xs, hlen with
    | [y0], _ =>
      obtain ⟨code, hc⟩ := open_lines (show DataW.trod enc Try.prog w base spare held n 24 [c0] = some y0 by simpa [Value.cells, k1] using hg 0 _ rfl)
      exact ⟨c0, code, rfl, hc⟩
end
end Go.Proofs.Ytancngachnpefaa
namespace Go.Proofs.Ytancngachnpefaa
open Go.ChangeShapes Go.WideShapes Go.ChangeAt Go.RowKit Go.Joins Go.Deep
section
variable {H : Type} {enc : TypeId × Value → H} {w : World} {base : Nat} {spare : Nat → Bool} {held : Bool}
theorem open_bar {n : Nat} {v : Value} {y : DataW H × List MemPlace} (h : DataW.trod enc Try.prog w base spare held n 27 [v] = some y) : ∃ b : List Iq, BarAt w w.heap.size v b := by
  rcases open_slice_fields Try.underlying27 Try.underlying71 (by kernel_rfl) (by kernel_rfl) h with ⟨h0, _⟩ | ⟨a, len, cap, m, D, Pl, h0, hb, hl, hc, hm, _, hf⟩
  · obtain rfl : v = .slice none 0 0 := by simpa using h0
    exact ⟨[], none, 0, rfl, Nat.zero_le _, fun i hi => by simp at hi⟩
  · obtain rfl : v = .slice (some a) len cap := by simpa using h0
    have hlm : len ≤ m := by rw [hm]; split <;> omega
    obtain ⟨cs, hcs, hp⟩ := exists_list (fun i (p : Iq) => ∀ j, j < 6 → w.cell? (a.add (i * 6 + j)) = some (iqCell p j)) len (fun i hi => by
      obtain ⟨ys, k, _, _, _, hj⟩ := hf i (by omega)
      obtain ⟨v0, y0, e0, _, t0⟩ := hj 0 _ rfl
      obtain ⟨v1, y1, e1, _, t1⟩ := hj 1 _ rfl
      obtain ⟨v2, y2, e2, _, t2⟩ := hj 2 _ rfl
      obtain ⟨v3, y3, e3, _, t3⟩ := hj 3 _ rfl
      obtain ⟨v4, y4, e4, _, t4⟩ := hj 4 _ rfl
      obtain ⟨v5, y5, e5, _, t5⟩ := hj 5 _ rfl
      obtain ⟨x0, rfl, _⟩ := cell_int Try.underlying3 t0
      obtain ⟨x1, rfl, _⟩ := cell_int Try.underlying3 t1
      obtain ⟨x2, rfl, _⟩ := cell_int Try.underlying3 t2
      obtain ⟨x3, rfl, _⟩ := cell_int Try.underlying3 t3
      obtain ⟨x4, rfl, _⟩ := cell_int Try.underlying3 t4
      obtain ⟨x5, rfl, _⟩ := cell_int Try.underlying3 t5
      refine ⟨⟨x0, x1, x2, x3, x4, x5⟩, fun j hj => ?_⟩
      rcases (show j = 0 ∨ j = 1 ∨ j = 2 ∨ j = 3 ∨ j = 4 ∨ j = 5 by omega) with rfl | rfl | rfl | rfl | rfl | rfl <;> assumption)
    refine ⟨cs, some a, cap, by rw [hcs], by omega, fun i hi => ?_⟩
    have hs : a.spot = none := spot_none (hp 0 _ (List.getElem?_eq_getElem (by omega)) 0 (by omega))
    obtain ⟨b, off, sp⟩ := a
    obtain rfl : sp = none := hs
    have q := hp i _ (List.getElem?_eq_getElem hi)
    refine ⟨b, off, rfl, ?_, fun j hj => ?_⟩
    · have q0 := q 0 (by omega)
      rw [add_flat] at q0
      exact World.block_lt_of_cell? _ _ q0
    · have qj := q j hj
      rw [add_flat] at qj
      dsimp only
      rw [List.getD_eq_getElem?_getD (l := cs), List.getElem?_eq_getElem hi]
      exact qj
theorem open_ineqs {r : Reach} {b0 : Nat} {v : Value} {d : DataW H} {p : List MemPlace} (hv : Value.okWide Try.prog w r b0 27 v) (h : DataW.Trod enc Try.prog w base spare held 27 v d p) : ∃ l : List Iq, BarAt w w.heap.size v l := by
  obtain ⟨A, len0, cap0, rfl⟩ := okWide_slice Try.underlying27 hv
  obtain ⟨n, h⟩ := h
  exact open_bar (show DataW.trod enc Try.prog w base spare held n 27 [.slice A len0 cap0] = some (d, p) from h)
end
end Go.Proofs.Ytancngachnpefaa
namespace Go.Proofs.Ytancngachnpefaa
open Go.RowKit Go.Shelf
attribute [local go_sem] Oper.semAt_some
theorem cert_zero {p : Pl} {c : List Ln} {b : List Iq} {t : Bool} {f : Fw} {er : Int} (h : certT p c b = (t, f, er)) (hh : er ≠ 0 ∨ t = true) : f = Fw.zero := by
  unfold certT at h
  split at h
  · split at h
    · split at h
      · split at h
        · cases h
          rcases hh with h | h
          · exact absurd rfl h
          · cases h
        · cases h
          rfl
      · cases h
        rcases hh with h | h
        · exact absurd rfl h
        · cases h
    · cases h
      rfl
  · cases h
    rfl
theorem holds_of {b : List Iq} {s : St} (h3 : barT b = 0) (hs : s.numsB = true) : holdsT b s = (inB b s, 0) := by
  rw [holdsT, if_pos h3, if_pos hs]
theorem law_BarrierFlaw (p : Pl) (c : List Ln) (V : Value) (bar : List Iq) (U : Value) (w : World) (hC : CodeAt w w.heap.size V c) (hQ : BarAt w w.heap.size U bar) :
    Calls Try.prog 7 #[p.v, .agg #[V], U] w fun e w' => e = .returned (.bool true) ∧ Below w.heap.size w w' := by
  obtain ⟨A, cp, rfl, hm⟩ := hC.form
  obtain ⟨Ab, cb, rfl, hmb⟩ := hQ.form
  obtain ⟨n, hn⟩ : ∃ n, c.length = n := ⟨_, rfl⟩
  obtain ⟨nb, hnb⟩ : ∃ nb, bar.length = nb := ⟨_, rfl⟩
  rw [hn] at hC
  rw [hnb] at hQ
  rw [hn, hnb]
  have HC := Lib.hid hC
  have HQ := Lib.hid hQ
  clear hC hQ hm hmb hn hnb
  go_enter Try.func7, Try.ntmps7
  go_wp2_with fail
  have hB := ((Below.refl w.heap.size w).alloc (by simp <;> omega) (.cells #[.int .i64 p.top, .int .i64 p.bank, .int .i64 p.siphon, .int .i64 p.start, .int .i64 p.positions, .int .i64 p.rate, .int .i64 p.step, .int .i64 p.pass, .int .i64 p.feed, .int .i64 p.pipe, .int .i64 p.orders, .int .i64 p.age] 23)).alloc (by simp <;> omega) (.cells #[.slice A n cp] 26)
  have X3 := (Box.newAt (w := w) (n := w.heap.size) [.int .i64 p.top, .int .i64 p.bank, .int .i64 p.siphon, .int .i64 p.start, .int .i64 p.positions, .int .i64 p.rate, .int .i64 p.step, .int .i64 p.pass, .int .i64 p.feed, .int .i64 p.pipe, .int .i64 p.orders, .int .i64 p.age] 23 rfl).alloc (.cells #[.slice A n cp] 26)
  have X4 := Box.newAt (w := w.alloc (.cells #[.int .i64 p.top, .int .i64 p.bank, .int .i64 p.siphon, .int .i64 p.start, .int .i64 p.positions, .int .i64 p.rate, .int .i64 p.step, .int .i64 p.pass, .int .i64 p.feed, .int .i64 p.pipe, .int .i64 p.orders, .int .i64 p.age] 23)) (n := w.heap.size + 1) [.slice A n cp] 26 (by simp)
  generalize (w.alloc (.cells #[.int .i64 p.top, .int .i64 p.bank, .int .i64 p.siphon, .int .i64 p.start, .int .i64 p.positions, .int .i64 p.rate, .int .i64 p.step, .int .i64 p.pass, .int .i64 p.feed, .int .i64 p.pipe, .int .i64 p.orders, .int .i64 p.age] 23)).alloc (.cells #[.slice A n cp] 26) = w0 at X3 X4 hB ⊢
  refine (bSane_any _).mono ?_
  rintro e w1 ⟨rfl, hb⟩
  replace X3 := X3.later hb
  replace X4 := X4.later hb
  replace hB := hB.trans (hb.mono hB.size)
  clear hb
  obtain ⟨X3c0, X3f0, X3c1, X3f1, X3c2, X3f2, X3c3, X3f3, X3c4, X3f4, X3c5, X3f5, X3c6, X3f6, X3c7, X3f7, X3c8, X3f8, X3c9, X3f9, X3c10, X3f10, X3c11, X3f11⟩ := X3.f12
  have X3z : w.heap.size < w1.heap.size := X3.lt
  have X4c0 : w1.cell? ⟨w.heap.size + 1, 0, none⟩ = some (.slice A n cp) := X4.cell 0
  have X4f0 : w1.frozen? ⟨w.heap.size + 1, 0, none⟩ = false := X4.free 0
  have X4z : w.heap.size + 1 < w1.heap.size := X4.lt
  go_wp2_with fail
  clear X3c0 X3f0 X3c1 X3f1 X3c2 X3f2 X3c3 X3f3 X3c4 X3f4 X3c5 X3f5 X3c6 X3f6 X3c7 X3f7 X3c8 X3f8 X3c9 X3f9 X3c10 X3f10 X3c11 X3f11 X3z
  clear X4c0 X4f0 X4z
  refine (zFew_is (HC.out.later hB) (HQ.out.later hB)).mono ?_
  rintro e w2 ⟨t, rfl, hb⟩
  replace X3 := X3.later hb
  replace X4 := X4.later hb
  replace hB := hB.trans (hb.mono hB.size)
  clear hb
  cases t with
  | false =>
    go_wp2
    go_ret
    exact ⟨rfl, hB⟩
  | true =>
  obtain ⟨ct, cf, ce, hce⟩ : ∃ a b d, Hid (certT p c bar = (a, b, d)) := ⟨_, _, _, rfl⟩
  obtain ⟨X3c0, X3f0, X3c1, X3f1, X3c2, X3f2, X3c3, X3f3, X3c4, X3f4, X3c5, X3f5, X3c6, X3f6, X3c7, X3f7, X3c8, X3f8, X3c9, X3f9, X3c10, X3f10, X3c11, X3f11⟩ := X3.f12
  have X3z : w.heap.size < w2.heap.size := X3.lt
  have X4c0 : w2.cell? ⟨w.heap.size + 1, 0, none⟩ = some (.slice A n cp) := X4.cell 0
  have X4f0 : w2.frozen? ⟨w.heap.size + 1, 0, none⟩ = false := X4.free 0
  have X4z : w.heap.size + 1 < w2.heap.size := X4.lt
  go_wp2_with fail
  clear X3c0 X3f0 X3c1 X3f1 X3c2 X3f2 X3c3 X3f3 X3c4 X3f4 X3c5 X3f5 X3c6 X3f6 X3c7 X3f7 X3c8 X3f8 X3c9 X3f9 X3c10 X3f10 X3c11 X3f11 X3z
  clear X4c0 X4f0 X4z
  refine (bCert_is hce (HC.out.later hB) (HQ.out.later hB)).mono ?_
  rintro e w5 ⟨rfl, hb⟩
  replace X3 := X3.later hb
  replace X4 := X4.later hb
  replace hB := hB.trans (hb.mono hB.size)
  clear hb
  have hz5 : w.heap.size + 1 < w5.heap.size := X4.lt
  by_cases hw : ce ≠ 0 ∨ ct = true
  · have hz := cert_zero hce.out hw
    subst hz
    go_upto_region 6 with fail
    simp only [Fw.zero, St.zero, Sh.zero]
    have hb := (Below.refl w5.heap.size w5).alloc (Nat.le_refl _) (.cells #[.int .i64 0, .int .i64 0, .int .i64 0, .int .i64 0, .int .i64 0, .int .i64 0, .int .i64 0, .int .i64 0, .int .i64 0] 39)
    have X8 := Box.new w5 [.int .i64 0, .int .i64 0, .int .i64 0, .int .i64 0, .int .i64 0, .int .i64 0, .int .i64 0, .int .i64 0, .int .i64 0] 39
    replace hB := hB.trans (hb.mono hB.size)
    clear hb X3 X4
    generalize w5.alloc (.cells #[.int .i64 0, .int .i64 0, .int .i64 0, .int .i64 0, .int .i64 0, .int .i64 0, .int .i64 0, .int .i64 0, .int .i64 0] 39) = w6 at X8 hB ⊢
    generalize w5.heap.size = B8 at X8 hz5 ⊢
    obtain ⟨X8c0, X8c1, X8c2, X8c3, X8c4, X8c5, X8c6, X8c7, X8c8⟩ := X8.c9
    have z1 := X8.lt
    by_cases h0 : ce = 0
    · obtain rfl : ct = true := hw.resolve_left (fun h => h h0)
      subst h0
      go_wp2
      go_ret
      exact ⟨by simp, hB⟩
    · have e0 : (ce != 0) = true := by simp [h0]
      have H0 := Lib.hid h0
      clear h0 hw
      go_wp2
      go_ret
      exact ⟨by simp, hB⟩
  have h0 : ce = 0 := by
    rcases Decidable.em (ce = 0) with h | h
    · exact h
    · exact absurd (.inl h) hw
  have h1 : ct = false := by
    cases ct with
    | false => rfl
    | true => exact absurd (.inr rfl) hw
  subst h0 h1
  clear hw
  have hce1 := hce.out
  have HS : Hid (Said p c bar cf) := Lib.hid (by
    have h9 := flaw_said (p := p) (c := c) (b := bar) (by rw [hce1]) (by rw [hce1])
    rw [hce1] at h9
    exact h9)
  obtain ⟨a1, a2⟩ := cert_err0.1 (show (certT p c bar).2.2 = 0 by rw [hce1])
  have HA1 := Lib.hid a1
  have HA2 := Lib.hid a2
  have HV := Lib.hid (Pl.check_zero (ask_zero a1).1).1
  have HK := Lib.hid (ask_zero a1).1
  clear hce1 a1 a2
  obtain ⟨fk, ⟨g0, g1, g2, g3, g4, g5⟩, ⟨f0, f1⟩⟩ := cf
  have hst : p.hasB ⟨g0, g1, g2, g3, g4, g5⟩ = true := by
    rcases HS.out.is with ⟨_, _, h, _⟩ | ⟨_, h, _⟩ | ⟨_, h, _⟩
    · rw [show (⟨g0, g1, g2, g3, g4, g5⟩ : St) = p.beginT.1 from h]
      exact begin_has HV.out HK.out
    · exact h
    · exact h
  have HH := Lib.hid hst
  have hsf : Hid (p.safeT ⟨g0, g1, g2, g3, g4, g5⟩ = (p.goodB ⟨g0, g1, g2, g3, g4, g5⟩, 0)) := Lib.hid (safe_in HK.out hst)
  have hho : Hid (holdsT bar ⟨g0, g1, g2, g3, g4, g5⟩ = (inB bar ⟨g0, g1, g2, g3, g4, g5⟩, 0)) := Lib.hid (holds_of HA2.out (has_nums HV.out hst))
  clear hst
  obtain ⟨q, hq⟩ : ∃ q, inB bar ⟨g0, g1, g2, g3, g4, g5⟩ = q := ⟨_, rfl⟩
  obtain ⟨gd, hgd⟩ : ∃ gd, p.goodB ⟨g0, g1, g2, g3, g4, g5⟩ = gd := ⟨_, rfl⟩
  rw [hq] at hho
  rw [hgd] at hsf
  have HQ1 := Lib.hid hq
  have HG1 := Lib.hid hgd
  clear hq hgd
  obtain ⟨be, hbe⟩ : ∃ be, p.beginT = be := ⟨_, rfl⟩
  obtain ⟨⟨d0, d1, d2, d3, d4, d5⟩, ee⟩ := be
  have hee : ee = 0 := by
    have h9 := congrArg Prod.snd hbe
    rw [Pl.beginT, if_pos HK.out] at h9
    exact h9.symm
  subst hee
  have HBE := Lib.hid hbe
  clear hbe
  go_upto_region 6 with fail
  have hb := (Below.refl w5.heap.size w5).alloc (Nat.le_refl _) (.cells #[.int .i64 fk, .int .i64 g0, .int .i64 g1, .int .i64 g2, .int .i64 g3, .int .i64 g4, .int .i64 g5, .int .i64 f0, .int .i64 f1] 39)
  have X8 := Box.new w5 [.int .i64 fk, .int .i64 g0, .int .i64 g1, .int .i64 g2, .int .i64 g3, .int .i64 g4, .int .i64 g5, .int .i64 f0, .int .i64 f1] 39
  replace X3 := X3.later hb
  replace X4 := X4.later hb
  replace hB := hB.trans (hb.mono hB.size)
  clear hb
  generalize w5.alloc (.cells #[.int .i64 fk, .int .i64 g0, .int .i64 g1, .int .i64 g2, .int .i64 g3, .int .i64 g4, .int .i64 g5, .int .i64 f0, .int .i64 f1] 39) = w6 at X3 X4 X8 hB ⊢
  generalize w5.heap.size = B8 at X8 hz5 ⊢
  obtain ⟨X3c0, X3f0, X3c1, X3f1, X3c2, X3f2, X3c3, X3f3, X3c4, X3f4, X3c5, X3f5, X3c6, X3f6, X3c7, X3f7, X3c8, X3f8, X3c9, X3f9, X3c10, X3f10, X3c11, X3f11⟩ := X3.f12
  have X3z : w.heap.size < w6.heap.size := X3.lt
  go_wp2_with fail
  clear X3c0 X3f0 X3c1 X3f1 X3c2 X3f2 X3c3 X3f3 X3c4 X3f4 X3c5 X3f5 X3c6 X3f6 X3c7 X3f7 X3c8 X3f8 X3c9 X3f9 X3c10 X3f10 X3c11 X3f11 X3z
  refine (begin_is HBE).mono ?_
  rintro e w7 ⟨rfl, hb⟩
  replace X8 := X8.later hb
  replace X3 := X3.later hb
  replace X4 := X4.later hb
  replace hB := hB.trans (hb.mono hB.size)
  clear hb
  have hz8 : B8 < w7.heap.size := X8.lt
  go_upto_region 9 with fail
  have hb := (Below.refl w7.heap.size w7).alloc (Nat.le_refl _) (.cells #[.int .i64 d0, .int .i64 d1, .int .i64 d2, .int .i64 d3, .int .i64 d4, .int .i64 d5] 30)
  have X10 := Box.new w7 [.int .i64 d0, .int .i64 d1, .int .i64 d2, .int .i64 d3, .int .i64 d4, .int .i64 d5] 30
  replace X8 := X8.later hb
  replace X3 := X3.later hb
  replace X4 := X4.later hb
  replace hB := hB.trans (hb.mono hB.size)
  clear hb
  generalize w7.alloc (.cells #[.int .i64 d0, .int .i64 d1, .int .i64 d2, .int .i64 d3, .int .i64 d4, .int .i64 d5] 30) = w8 at X3 X4 X8 X10 hB ⊢
  generalize w7.heap.size = B10 at X10 hz8 ⊢
  obtain ⟨X8c0, X8c1, X8c2, X8c3, X8c4, X8c5, X8c6, X8c7, X8c8⟩ := X8.c9
  have z1 := X8.lt
  go_wp2_with fail
  refine (bHolds_is hho (HQ.out.later hB)).mono ?_
  rintro e w9 ⟨rfl, hb⟩
  replace X8 := X8.later hb
  replace X10 := X10.later hb
  replace X3 := X3.later hb
  replace X4 := X4.later hb
  replace hB := hB.trans (hb.mono hB.size)
  clear hb
  clear X8c0 X8c1 X8c2 X8c3 X8c4 X8c5 X8c6 X8c7 X8c8 z1
  obtain ⟨X8c0, X8c1, X8c2, X8c3, X8c4, X8c5, X8c6, X8c7, X8c8⟩ := X8.c9
  have z1 := X8.lt
  obtain ⟨X3c0, X3f0, X3c1, X3f1, X3c2, X3f2, X3c3, X3f3, X3c4, X3f4, X3c5, X3f5, X3c6, X3f6, X3c7, X3f7, X3c8, X3f8, X3c9, X3f9, X3c10, X3f10, X3c11, X3f11⟩ := X3.f12
  have X3z : w.heap.size < w9.heap.size := X3.lt
  go_wp2_with fail
  clear X3c0 X3f0 X3c1 X3f1 X3c2 X3f2 X3c3 X3f3 X3c4 X3f4 X3c5 X3f5 X3c6 X3f6 X3c7 X3f7 X3c8 X3f8 X3c9 X3f9 X3c10 X3f10 X3c11 X3f11 X3z
  refine (safe_is hsf).mono ?_
  rintro e wa ⟨rfl, hb⟩
  replace X8 := X8.later hb
  replace X10 := X10.later hb
  replace X3 := X3.later hb
  replace X4 := X4.later hb
  replace hB := hB.trans (hb.mono hB.size)
  clear hb
  clear X8c0 X8c1 X8c2 X8c3 X8c4 X8c5 X8c6 X8c7 X8c8 z1
  obtain ⟨X8c0, X8c1, X8c2, X8c3, X8c4, X8c5, X8c6, X8c7, X8c8⟩ := X8.c9
  have z1 := X8.lt
  obtain ⟨X10c0, X10c1, X10c2, X10c3, X10c4, X10c5⟩ := X10.c6
  have z2 := X10.lt
  rcases HS.out.is with ⟨k1, k2, k3, k4⟩ | ⟨k1, k2, k3, k4, k5⟩ | ⟨k1, k2, k3, k4, k5, k6⟩
  · have hq : q = false := by rw [← HQ1.out]; exact k2
    have k3' : (⟨g0, g1, g2, g3, g4, g5⟩ : St) = ⟨d0, d1, d2, d3, d4, d5⟩ := by rw [show (⟨g0, g1, g2, g3, g4, g5⟩ : St) = p.beginT.1 from k3, HBE.out]
    simp only [St.mk.injEq] at k3'
    obtain ⟨rfl, rfl, rfl, rfl, rfl, rfl⟩ := k3'
    dsimp only at k1
    simp only [Sh.zero, Sh.mk.injEq] at k4
    obtain ⟨rfl, rfl⟩ := k4
    subst hq k1
    clear k2 k3
    go_wp2
    go_ret
    exact ⟨by simp, hB⟩
  · have hq : q = true := by rw [← HQ1.out]; exact k3
    have hg : gd = false := by
      rw [← HG1.out]
      have h9 := k4
      rw [Pl.safeB, safe_in HK.out k2] at h9
      exact h9
    dsimp only at k1
    simp only [Sh.zero, Sh.mk.injEq] at k5
    obtain ⟨rfl, rfl⟩ := k5
    subst hq hg k1
    clear k2 k3 k4
    go_wp2
    go_ret
    exact ⟨by simp, hB⟩
  · have hq : q = true := by rw [← HQ1.out]; exact k3
    have hg : gd = true := by
      rw [← HG1.out]
      have h9 := k4
      rw [Pl.safeB, safe_in HK.out k2] at h9
      exact h9
    dsimp only at k1
    subst hq hg k1
    have hnx := next_in (c := c) HK.out (ask_zero HA1.out).2 k2 k5
    obtain ⟨⟨y0, y1, y2, y3, y4, y5⟩, hy⟩ : ∃ y, stepT p c ⟨g0, g1, g2, g3, g4, g5⟩ ⟨f0, f1⟩ = y := ⟨_, rfl⟩
    obtain ⟨oo, hoo⟩ : ∃ oo, outT p c ⟨g0, g1, g2, g3, g4, g5⟩ ⟨f0, f1⟩ = oo := ⟨_, rfl⟩
    rw [hy, hoo] at hnx
    have HNX := Lib.hid hnx
    have hyh : p.hasB ⟨y0, y1, y2, y3, y4, y5⟩ = true := by
      have h9 := nextS_has HA1.out ((states_mem HV.out).2 k2) ((shocks_mem HV.out).2 k5)
      rw [hnx] at h9
      exact h9
    have hyo : Hid (holdsT bar ⟨y0, y1, y2, y3, y4, y5⟩ = (false, 0)) := Lib.hid (by
      rw [holds_of HA2.out (has_nums HV.out hyh)]
      have h9 := k6
      rw [hnx] at h9
      dsimp only at h9
      rw [h9])
    simp only [chosenB, Bool.and_eq_true] at k5
    have b1 := inI_yes k5.1
    have b2 := inI_yes k5.2
    have c1 : (0 : Int) ≤ f0 := b1.1
    have c2 : f0 ≤ p.feed := b1.2
    have c3 : (-1 : Int) ≤ f1 := b2.1
    have c4 : f1 ≤ p.orders := b2.2
    clear k2 k3 k4 k5 k6 hnx hy hoo hyh b1 b2
    obtain ⟨X3c0, X3f0, X3c1, X3f1, X3c2, X3f2, X3c3, X3f3, X3c4, X3f4, X3c5, X3f5, X3c6, X3f6, X3c7, X3f7, X3c8, X3f8, X3c9, X3f9, X3c10, X3f10, X3c11, X3f11⟩ := X3.f12
    have X3z : w.heap.size < wa.heap.size := X3.lt
    have X4c0 : wa.cell? ⟨w.heap.size + 1, 0, none⟩ = some (.slice A n cp) := X4.cell 0
    have X4f0 : wa.frozen? ⟨w.heap.size + 1, 0, none⟩ = false := X4.free 0
    have X4z : w.heap.size + 1 < wa.heap.size := X4.lt
    go_wp2_with fail
    clear X3c0 X3f0 X3c1 X3f1 X3c2 X3f2 X3c3 X3f3 X3c4 X3f4 X3c5 X3f5 X3c6 X3f6 X3c7 X3f7 X3c8 X3f8 X3c9 X3f9 X3c10 X3f10 X3c11 X3f11 X3z
    clear X4c0 X4f0 X4z
    refine (next_is (x := ⟨f0, f1⟩) HNX (HC.out.later hB)).mono ?_
    rintro e wb ⟨rfl, hb⟩
    clear X8c0 X8c1 X8c2 X8c3 X8c4 X8c5 X8c6 X8c7 X8c8 z1 X10c0 X10c1 X10c2 X10c3 X10c4 X10c5 z2
    replace X8 := X8.later hb
    replace X3 := X3.later hb
    replace X4 := X4.later hb
    replace hB := hB.trans (hb.mono hB.size)
    clear hb
    have hz9 : B8 < wb.heap.size := X8.lt
    have hz0 : w.heap.size + 1 < wb.heap.size := X4.lt
    go_upto_region 20 with fail
    have hb := (Below.refl wb.heap.size wb).alloc (Nat.le_refl _) (.cells #[.int .i64 y0, .int .i64 y1, .int .i64 y2, .int .i64 y3, .int .i64 y4, .int .i64 y5] 30)
    have X16 := Box.new wb [.int .i64 y0, .int .i64 y1, .int .i64 y2, .int .i64 y3, .int .i64 y4, .int .i64 y5] 30
    replace X8 := X8.later hb
    replace X3 := X3.later hb
    replace X4 := X4.later hb
    replace hB := hB.trans (hb.mono hB.size)
    clear hb
    generalize wb.alloc (.cells #[.int .i64 y0, .int .i64 y1, .int .i64 y2, .int .i64 y3, .int .i64 y4, .int .i64 y5] 30) = wc at X3 X4 X8 X16 hB ⊢
    generalize wb.heap.size = B16 at X16 hz9 hz0 ⊢
    obtain ⟨X16c0, X16c1, X16c2, X16c3, X16c4, X16c5⟩ := X16.c6
    have z3 := X16.lt
    go_wp2_with fail
    clear X16c0 X16c1 X16c2 X16c3 X16c4 X16c5 z3
    refine (bHolds_is hyo (HQ.out.later hB)).mono ?_
    rintro e wd ⟨rfl, hb⟩
    replace X8 := X8.later hb
    replace X3 := X3.later hb
    replace X4 := X4.later hb
    replace hB := hB.trans (hb.mono hB.size)
    clear hb
    obtain ⟨X8c0, X8c1, X8c2, X8c3, X8c4, X8c5, X8c6, X8c7, X8c8⟩ := X8.c9
    have z1 := X8.lt
    obtain ⟨X3c0, X3f0, X3c1, X3f1, X3c2, X3f2, X3c3, X3f3, X3c4, X3f4, X3c5, X3f5, X3c6, X3f6, X3c7, X3f7, X3c8, X3f8, X3c9, X3f9, X3c10, X3f10, X3c11, X3f11⟩ := X3.f12
    have X3z : w.heap.size < wd.heap.size := X3.lt
    go_wp2
    go_ret
    exact ⟨by simp [c1, c2, c3, c4], hB⟩
end Go.Proofs.Ytancngachnpefaa
