/- Contracts of Next of plant and of acequiaref32: the way that goes on. (Printed by gen_r.py.) -/
import Derived.Test.YtancngachnpefaaQK
import Derived.Test.YtancngachnpefaaQR
import Derived.Laws.EntriesVeiled
import Derived.RangeFuncNested
import Derived.RangeFuncBound
import Derived.RangeFuncCalls
import Derived.RangeFuncLeaves
import Derived.RangeFuncBox
import Derived.Shelf.Abstract
import Derived.Shelf.RegionOpen
import Derived.OwnWalkIn
import Derived.TacticsInMore
import Derived.LoopNIn
import Derived.LoopIn
set_option linter.unusedVariables false
set_option linter.unusedSimpArgs false
set_option maxRecDepth 100000
set_option maxHeartbeats 4000000
namespace Go.Proofs.Ytancngachnpefaa
open Go.RowKit
theorem rstep_at {p : Pl} {code : List Ln} {V : Value} {s : St} {x : Sh} {w : World} {t : St} {o : Int} (hC : CodeAt w w.heap.size V code) (hv : Hid p.Valid) (hs : Hid (p.hasB s = true)) (hc : Hid (chosenB p x = true)) (hg : Hid (gateB code = true)) (ht : Hid (stepT p code s x = t ∧ outT p code s x = o)) :
    Calls Try.prog 79 #[p.v, .agg #[V], s.v, x.v] w fun e w' => e = .returned (.tuple #[t.v, .int .i64 o]) ∧ Below w.heap.size w w' :=
  (rstep_any p code V s x w hC hv.out hs.out hc.out hg.out).mono fun _ _ ⟨he, hb⟩ => ⟨by rw [he, ht.out.1, ht.out.2], hb⟩
theorem rnext_good (p : Pl) (code : List Ln) (V : Value) (s : St) (x : Sh) (w : World) (hC : Hid (CodeAt w w.heap.size V code)) (h : Hid (p.checkT = 0)) (hg : Hid (gateT code = 0)) (hgb : Hid (gateB code = true)) (hv : Hid p.Valid) (hh : Hid (p.hasB s = true)) (hc : Hid (chosenB p x = true)) (t : St) (o : Int) (ht : Hid (stepT p code s x = t ∧ outT p code s x = o)) :
    Calls Try.prog 70 #[p.v, .agg #[V], s.v, x.v] w fun e w' => e = .returned (.tuple #[t.v, .int .i64 o, .int .i64 0]) ∧ Below w.heap.size w w' := by
  go_enter Try.func70, Try.ntmps70
  go_wp2_with fail
  refine (rcheck_at h _).mono ?_
  rintro e w1 ⟨rfl, hb⟩
  have X0 := ((((((Box.newAt (n := w.heap.size) [.int .i64 p.top, .int .i64 p.bank, .int .i64 p.siphon, .int .i64 p.start, .int .i64 p.positions, .int .i64 p.rate, .int .i64 p.step, .int .i64 p.pass, .int .i64 p.feed, .int .i64 p.pipe, .int .i64 p.orders, .int .i64 p.age] 23 (by simp)).alloc _).alloc _).alloc _).alloc _)).later hb
  have X1 := (((((Box.newAt (n := w.heap.size + 1) [V] 26 (by simp)).alloc _).alloc _).alloc _)).later hb
  have X2 := ((((Box.newAt (n := w.heap.size + 1 + 1) [.int .i64 s.level, .int .i64 s.position, .int .i64 s.p0, .int .i64 s.p1, .int .i64 s.order, .int .i64 s.age] 30 (by simp)).alloc _).alloc _)).later hb
  have X3 := (((Box.newAt (n := w.heap.size + 1 + 1 + 1) [.int .i64 x.feed, .int .i64 x.msg] 37 (by simp)).alloc _)).later hb
  have X4 := ((Box.newAt (n := w.heap.size + 1 + 1 + 1 + 1) [.int .i64 0, .int .i64 0, .int .i64 0, .int .i64 0, .int .i64 0, .int .i64 0] 30 (by simp))).later hb
  have hB : Below w.heap.size w w1 := (((((((Below.refl w.heap.size w).alloc (by simp <;> omega) _).alloc (by simp <;> omega) _).alloc (by simp <;> omega) _).alloc (by simp <;> omega) _).alloc (by simp <;> omega) _)).trans (hb.mono (by simp <;> omega))
  clear hb
  have X1c0 : w1.cell? ⟨w.heap.size + 1, 0, none⟩ = some (V) := X1.cell 0
  have X1f0 : w1.frozen? ⟨w.heap.size + 1, 0, none⟩ = false := X1.free 0
  have X1z : w.heap.size + 1 < w1.heap.size := X1.lt
  go_wp2_with fail
  refine (rgcheck_at hg ((hC.out.below hB).more hB.size)).mono ?_
  rintro e w2 ⟨rfl, hb⟩
  clear X1c0 X1f0 X1z
  have X0 := X0.later hb
  have X1 := X1.later hb
  have X2 := X2.later hb
  have X3 := X3.later hb
  have X4 := X4.later hb
  have hB := hB.trans (hb.mono hB.size)
  clear hb
  obtain ⟨X0c0, X0f0, X0c1, X0f1, X0c2, X0f2, X0c3, X0f3, X0c4, X0f4, X0c5, X0f5, X0c6, X0f6, X0c7, X0f7, X0c8, X0f8, X0c9, X0f9, X0c10, X0f10, X0c11, X0f11⟩ := X0.f12
  have X0z : w.heap.size < w2.heap.size := X0.lt
  obtain ⟨X2c0, X2f0, X2c1, X2f1, X2c2, X2f2, X2c3, X2f3, X2c4, X2f4, X2c5, X2f5⟩ := X2.f6
  have X2z : w.heap.size + 1 + 1 < w2.heap.size := X2.lt
  go_wp2_with fail
  refine (rbelongs_at hv.out.pipe hh _).mono ?_
  rintro e w3 ⟨rfl, hb⟩
  clear X0c0 X0f0 X0c1 X0f1 X0c2 X0f2 X0c3 X0f3 X0c4 X0f4 X0c5 X0f5 X0c6 X0f6 X0c7 X0f7 X0c8 X0f8 X0c9 X0f9 X0c10 X0f10 X0c11 X0f11 X0z X2c0 X2f0 X2c1 X2f1 X2c2 X2f2 X2c3 X2f3 X2c4 X2f4 X2c5 X2f5 X2z
  have X0 := X0.later hb
  have X1 := X1.later hb
  have X2 := X2.later hb
  have X3 := X3.later hb
  have X4 := X4.later hb
  have hB := hB.trans (hb.mono hB.size)
  clear hb
  obtain ⟨X0c0, X0f0, X0c1, X0f1, X0c2, X0f2, X0c3, X0f3, X0c4, X0f4, X0c5, X0f5, X0c6, X0f6, X0c7, X0f7, X0c8, X0f8, X0c9, X0f9, X0c10, X0f10, X0c11, X0f11⟩ := X0.f12
  have X0z : w.heap.size < w3.heap.size := X0.lt
  obtain ⟨X3c0, X3f0, X3c1, X3f1⟩ := X3.f2
  have X3z : w.heap.size + 1 + 1 + 1 < w3.heap.size := X3.lt
  go_wp2_with fail
  refine (rchosen_at hc _).mono ?_
  rintro e w4 ⟨rfl, hb⟩
  clear X0c0 X0f0 X0c1 X0f1 X0c2 X0f2 X0c3 X0f3 X0c4 X0f4 X0c5 X0f5 X0c6 X0f6 X0c7 X0f7 X0c8 X0f8 X0c9 X0f9 X0c10 X0f10 X0c11 X0f11 X0z X3c0 X3f0 X3c1 X3f1 X3z
  have X0 := X0.later hb
  have X1 := X1.later hb
  have X2 := X2.later hb
  have X3 := X3.later hb
  have X4 := X4.later hb
  have hB := hB.trans (hb.mono hB.size)
  clear hb
  obtain ⟨X0c0, X0f0, X0c1, X0f1, X0c2, X0f2, X0c3, X0f3, X0c4, X0f4, X0c5, X0f5, X0c6, X0f6, X0c7, X0f7, X0c8, X0f8, X0c9, X0f9, X0c10, X0f10, X0c11, X0f11⟩ := X0.f12
  have X0z : w.heap.size < w4.heap.size := X0.lt
  have X1c0 : w4.cell? ⟨w.heap.size + 1, 0, none⟩ = some (V) := X1.cell 0
  have X1f0 : w4.frozen? ⟨w.heap.size + 1, 0, none⟩ = false := X1.free 0
  have X1z : w.heap.size + 1 < w4.heap.size := X1.lt
  obtain ⟨X2c0, X2f0, X2c1, X2f1, X2c2, X2f2, X2c3, X2f3, X2c4, X2f4, X2c5, X2f5⟩ := X2.f6
  have X2z : w.heap.size + 1 + 1 < w4.heap.size := X2.lt
  obtain ⟨X3c0, X3f0, X3c1, X3f1⟩ := X3.f2
  have X3z : w.heap.size + 1 + 1 + 1 < w4.heap.size := X3.lt
  go_wp2_with fail
  refine (rstep_at ((hC.out.below hB).more hB.size) hv hh hc hgb ht).mono ?_
  rintro e w5 ⟨rfl, hb⟩
  clear X0c0 X0f0 X0c1 X0f1 X0c2 X0f2 X0c3 X0f3 X0c4 X0f4 X0c5 X0f5 X0c6 X0f6 X0c7 X0f7 X0c8 X0f8 X0c9 X0f9 X0c10 X0f10 X0c11 X0f11 X0z X1c0 X1f0 X1z X2c0 X2f0 X2c1 X2f1 X2c2 X2f2 X2c3 X2f3 X2c4 X2f4 X2c5 X2f5 X2z X3c0 X3f0 X3c1 X3f1 X3z
  have X0 := X0.later hb
  have X1 := X1.later hb
  have X2 := X2.later hb
  have X3 := X3.later hb
  have X4 := X4.later hb
  have hB := hB.trans (hb.mono hB.size)
  clear hb
  obtain ⟨X4c0, X4f0, X4c1, X4f1, X4c2, X4f2, X4c3, X4f3, X4c4, X4f4, X4c5, X4f5⟩ := X4.f6
  have X4z : w.heap.size + 1 + 1 + 1 + 1 < w5.heap.size := X4.lt
  go_wp2
  have hY := ((((((X4.set 0 (.int .i64 t.level)).set 1 (.int .i64 t.position)).set 2 (.int .i64 t.p0)).set 3 (.int .i64 t.p1)).set 4 (.int .i64 t.order)).set 5 (.int .i64 t.age))
  have hB := ((((((hB.setCell (p := ⟨w.heap.size + 1 + 1 + 1 + 1, 0, none⟩) (by simp <;> omega) (.int .i64 t.level)).setCell (p := ⟨w.heap.size + 1 + 1 + 1 + 1, 1, none⟩) (by simp <;> omega) (.int .i64 t.position)).setCell (p := ⟨w.heap.size + 1 + 1 + 1 + 1, 2, none⟩) (by simp <;> omega) (.int .i64 t.p0)).setCell (p := ⟨w.heap.size + 1 + 1 + 1 + 1, 3, none⟩) (by simp <;> omega) (.int .i64 t.p1)).setCell (p := ⟨w.heap.size + 1 + 1 + 1 + 1, 4, none⟩) (by simp <;> omega) (.int .i64 t.order)).setCell (p := ⟨w.heap.size + 1 + 1 + 1 + 1, 5, none⟩) (by simp <;> omega) (.int .i64 t.age))
  generalize ((((((w5.setCell ⟨w.heap.size + 1 + 1 + 1 + 1, 0, none⟩ (.int .i64 t.level)).setCell ⟨w.heap.size + 1 + 1 + 1 + 1, 1, none⟩ (.int .i64 t.position)).setCell ⟨w.heap.size + 1 + 1 + 1 + 1, 2, none⟩ (.int .i64 t.p0)).setCell ⟨w.heap.size + 1 + 1 + 1 + 1, 3, none⟩ (.int .i64 t.p1)).setCell ⟨w.heap.size + 1 + 1 + 1 + 1, 4, none⟩ (.int .i64 t.order)).setCell ⟨w.heap.size + 1 + 1 + 1 + 1, 5, none⟩ (.int .i64 t.age)) = W at hY hB ⊢
  have hY := hY.alloc (.cells #[.int .i64 t.level, .int .i64 t.position, .int .i64 t.p0, .int .i64 t.p1, .int .i64 t.order, .int .i64 t.age] 30)
  have hB := hB.alloc hB.size (.cells #[.int .i64 t.level, .int .i64 t.position, .int .i64 t.p0, .int .i64 t.p1, .int .i64 t.order, .int .i64 t.age] 30)
  generalize W.alloc (.cells #[.int .i64 t.level, .int .i64 t.position, .int .i64 t.p0, .int .i64 t.p1, .int .i64 t.order, .int .i64 t.age] 30) = W2 at hY hB ⊢
  obtain ⟨y0, y1, y2, y3, y4, y5⟩ := hY.c6
  refine bodyPost_ret (v := .tuple #[t.v, .int .i64 o, .int .i64 0]) (by simp [results, Try.results70, go_sem, y0, y1, y2, y3, y4, y5]) rfl ?_
  exact ⟨rfl, hB⟩
theorem hear_at {p : Pl} {V : Value} {s : St} {x : Sh} {f o od ag : Int} {b : Nat} {w : World} (hX : Box w b (hourL p V s x f o)) (ha : 0 ≤ s.age ∧ s.age ≤ 7) (hH : Hid (heardT p s x = (od, ag))) :
    Calls Try.prog 57 #[.pointer (some ⟨b, 0, none⟩)] w fun e w' => e = .returned (.tuple #[]) ∧ Box w' b (hourL p V ⟨s.level, s.position, s.p0, s.p1, od, ag⟩ x f o) ∧ Aside b w w' := by
  have := hear_any p V s x f o b w hX ha
  rw [hH.out] at this
  exact this
theorem feed_at {p : Pl} {V : Value} {s : St} {x : Sh} {f o g q0 q1 : Int} {b : Nat} {w : World} (hX : Box w b (hourL p V s x f o)) (hp : 0 ≤ p.pipe ∧ p.pipe ≤ 2) (hH : Hid (fedT p s x = (g, q0, q1))) :
    Calls Try.prog 58 #[.pointer (some ⟨b, 0, none⟩)] w fun e w' => e = .returned (.tuple #[]) ∧ Box w' b (hourL p V ⟨s.level, s.position, q0, q1, s.order, s.age⟩ x g o) ∧ Aside b w w' := by
  have := feed_any p V s x f o b w hX hp
  rw [hH.out] at this
  exact this
def movedM (p : Pl) (s : St) (g : Int) (ok : Bool) : Int := if ok = true then s.position + max (-p.step) (min p.step (min g p.positions - s.position)) else s.position
theorem set_at {p : Pl} {V : Value} {s : St} {x : Sh} {f o : Int} {b : Nat} {w : World} (hX : Box w b (hourL p V s x f o)) {code : List Ln} {g M : Int} {ok : Bool} (hC : Hid (CodeAt w w.heap.size V code)) (hR : Hid (runT code ⟨s.level, s.position, s.order, s.age, f⟩ = (g, ok, 0))) (hg : 0 ≤ g ∧ g ≤ 1099511627776)
    (hp : 0 ≤ s.position ∧ s.position ≤ p.positions) (hq : 1 ≤ p.positions ∧ p.positions ≤ 15) (hs : 1 ≤ p.step ∧ p.step ≤ 15) (hM : Hid (movedM p s g ok = M)) :
    Calls Try.prog 59 #[.pointer (some ⟨b, 0, none⟩)] w fun e w' => e = .returned (.tuple #[]) ∧ Box w' b (hourL p V ⟨s.level, M, s.p0, s.p1, s.order, s.age⟩ x f o) ∧ Aside b w w' := by
  have hM := hM.out
  subst hM
  cases ok
  · exact set_no p V s x f o b w hX code g hC hR hg hp hq hs
  · exact set_yes p V s x f o b w hX code g hC hR hg hp hq hs
theorem next_good (p : Pl) (code : List Ln) (V : Value) (s : St) (x : Sh) (w : World) (hC : Hid (CodeAt w w.heap.size V code)) (h : Hid (p.checkT = 0)) (hg : Hid (gateT code = 0)) (hv : Hid p.Valid) (hh : Hid (p.hasB s = true)) (_k1 : 0 ≤ x.feed) (_k2 : x.feed ≤ p.feed) (_k3 : -1 ≤ x.msg) (_k4 : x.msg ≤ p.orders)
    (S : Hid (Small p s x)) (od ag f q0 q1 g M : Int) (ok : Bool) (hH : Hid (heardT p s x = (od, ag))) (hF : Hid (fedT p s x = (f, q0, q1))) (hR : Hid (runT code ⟨s.level, s.position, od, ag, f⟩ = (g, ok, 0))) (hgb : Hid (0 ≤ g ∧ g ≤ 1099511627776)) (hM : Hid (movedM p s g ok = M)) (hf : Hid (0 ≤ f ∧ f ≤ 15)) (hM1 : Hid (0 ≤ p.rate * M ∧ p.rate * M ≤ 225)) :
    Calls Try.prog 28 #[p.v, .agg #[V], s.v, x.v] w fun e w' => e = .returned (.tuple #[.agg #[.int .i64 (min p.top (s.level + f - min (s.level + f) (p.rate * M))), .int .i64 M, .int .i64 q0, .int .i64 q1, .int .i64 od, .int .i64 ag], .int .i64 (min (s.level + f) (p.rate * M)), .int .i64 0]) ∧ Below w.heap.size w w' := by
  go_enter Try.func28, Try.ntmps28
  go_wp2_with fail
  refine (check_at h _).mono ?_
  rintro e w1 ⟨rfl, hb⟩
  have X0 := ((((((Box.newAt (n := w.heap.size) [.int .i64 p.top, .int .i64 p.bank, .int .i64 p.siphon, .int .i64 p.start, .int .i64 p.positions, .int .i64 p.rate, .int .i64 p.step, .int .i64 p.pass, .int .i64 p.feed, .int .i64 p.pipe, .int .i64 p.orders, .int .i64 p.age] 23 (by simp)).alloc _).alloc _).alloc _).alloc _)).later hb
  have X1 := (((((Box.newAt (n := w.heap.size + 1) [V] 26 (by simp)).alloc _).alloc _).alloc _)).later hb
  have X2 := ((((Box.newAt (n := w.heap.size + 1 + 1) [.int .i64 s.level, .int .i64 s.position, .int .i64 s.p0, .int .i64 s.p1, .int .i64 s.order, .int .i64 s.age] 30 (by simp)).alloc _).alloc _)).later hb
  have X3 := (((Box.newAt (n := w.heap.size + 1 + 1 + 1) [.int .i64 x.feed, .int .i64 x.msg] 37 (by simp)).alloc _)).later hb
  have X4 := ((Box.newAt (n := w.heap.size + 1 + 1 + 1 + 1) [.int .i64 0, .int .i64 0, .int .i64 0, .int .i64 0, .int .i64 0, .int .i64 0] 30 (by simp))).later hb
  have hB : Below w.heap.size w w1 := (((((((Below.refl w.heap.size w).alloc (by simp <;> omega) _).alloc (by simp <;> omega) _).alloc (by simp <;> omega) _).alloc (by simp <;> omega) _).alloc (by simp <;> omega) _)).trans (hb.mono (by simp <;> omega))
  clear hb
  have X1c0 : w1.cell? ⟨w.heap.size + 1, 0, none⟩ = some (V) := X1.cell 0
  have X1f0 : w1.frozen? ⟨w.heap.size + 1, 0, none⟩ = false := X1.free 0
  have X1z : w.heap.size + 1 < w1.heap.size := X1.lt
  go_wp2_with fail
  refine (gcheck_at hg ((hC.out.below hB).more hB.size)).mono ?_
  rintro e w2 ⟨rfl, hb⟩
  clear X1c0 X1f0 X1z
  have X0 := X0.later hb
  have X1 := X1.later hb
  have X2 := X2.later hb
  have X3 := X3.later hb
  have X4 := X4.later hb
  have hB := hB.trans (hb.mono hB.size)
  clear hb
  obtain ⟨X0c0, X0f0, X0c1, X0f1, X0c2, X0f2, X0c3, X0f3, X0c4, X0f4, X0c5, X0f5, X0c6, X0f6, X0c7, X0f7, X0c8, X0f8, X0c9, X0f9, X0c10, X0f10, X0c11, X0f11⟩ := X0.f12
  have X0z : w.heap.size < w2.heap.size := X0.lt
  obtain ⟨X2c0, X2f0, X2c1, X2f1, X2c2, X2f2, X2c3, X2f3, X2c4, X2f4, X2c5, X2f5⟩ := X2.f6
  have X2z : w.heap.size + 1 + 1 < w2.heap.size := X2.lt
  go_wp2_with fail
  refine (belongs_at hv.out.pipe hh _).mono ?_
  rintro e w3 ⟨rfl, hb⟩
  clear X0c0 X0f0 X0c1 X0f1 X0c2 X0f2 X0c3 X0f3 X0c4 X0f4 X0c5 X0f5 X0c6 X0f6 X0c7 X0f7 X0c8 X0f8 X0c9 X0f9 X0c10 X0f10 X0c11 X0f11 X0z X2c0 X2f0 X2c1 X2f1 X2c2 X2f2 X2c3 X2f3 X2c4 X2f4 X2c5 X2f5 X2z
  have X0 := X0.later hb
  have X1 := X1.later hb
  have X2 := X2.later hb
  have X3 := X3.later hb
  have X4 := X4.later hb
  have hB := hB.trans (hb.mono hB.size)
  clear hb
  obtain ⟨X0c0, X0f0, X0c1, X0f1, X0c2, X0f2, X0c3, X0f3, X0c4, X0f4, X0c5, X0f5, X0c6, X0f6, X0c7, X0f7, X0c8, X0f8, X0c9, X0f9, X0c10, X0f10, X0c11, X0f11⟩ := X0.f12
  have X0z : w.heap.size < w3.heap.size := X0.lt
  have X1c0 : w3.cell? ⟨w.heap.size + 1, 0, none⟩ = some (V) := X1.cell 0
  have X1f0 : w3.frozen? ⟨w.heap.size + 1, 0, none⟩ = false := X1.free 0
  have X1z : w.heap.size + 1 < w3.heap.size := X1.lt
  obtain ⟨X2c0, X2f0, X2c1, X2f1, X2c2, X2f2, X2c3, X2f3, X2c4, X2f4, X2c5, X2f5⟩ := X2.f6
  have X2z : w.heap.size + 1 + 1 < w3.heap.size := X2.lt
  obtain ⟨X3c0, X3f0, X3c1, X3f1⟩ := X3.f2
  have X3z : w.heap.size + 1 + 1 + 1 < w3.heap.size := X3.lt
  obtain ⟨X4c0, X4f0, X4c1, X4f1, X4c2, X4f2, X4c3, X4f3, X4c4, X4f4, X4c5, X4f5⟩ := X4.f6
  have X4z : w.heap.size + 1 + 1 + 1 + 1 < w3.heap.size := X4.lt
  go_wp2_with fail
  clear X0c0 X0f0 X0c1 X0f1 X0c2 X0f2 X0c3 X0f3 X0c4 X0f4 X0c5 X0f5 X0c6 X0f6 X0c7 X0f7 X0c8 X0f8 X0c9 X0f9 X0c10 X0f10 X0c11 X0f11 X0z X1c0 X1f0 X1z X2c0 X2f0 X2c1 X2f1 X2c2 X2f2 X2c3 X2f3 X2c4 X2f4 X2c5 X2f5 X2z X3c0 X3f0 X3c1 X3f1 X3z X4c0 X4f0 X4c1 X4f1 X4c2 X4f2 X4c3 X4f3 X4c4 X4f4 X4c5 X4f5 X4z
  clear X0 X1 X2 X3
  have hlt := X4.lt
  have hX : Box ((w3.alloc (.cells #[.int .i64 s.level, .int .i64 s.position, .int .i64 s.p0, .int .i64 s.p1, .int .i64 s.order, .int .i64 s.age, .int .i64 p.top, .int .i64 p.bank, .int .i64 p.siphon, .int .i64 p.start, .int .i64 p.positions, .int .i64 p.rate, .int .i64 p.step, .int .i64 p.pass, .int .i64 p.feed, .int .i64 p.pipe, .int .i64 p.orders, .int .i64 p.age, V, .int .i64 x.feed, .int .i64 x.msg, .int .i64 0, .int .i64 0] 119)).alloc (.cells #[.func (.func 57) #[.pointer (some ⟨w3.heap.size, 0, none⟩)] #[], .func (.func 58) #[.pointer (some ⟨w3.heap.size, 0, none⟩)] #[], .func (.func 59) #[.pointer (some ⟨w3.heap.size, 0, none⟩)] #[], .func (.func 60) #[.pointer (some ⟨w3.heap.size, 0, none⟩)] #[]] 1)) w3.heap.size (hourL p V s x 0 0) := (Box.new w3 (hourL p V s x 0 0) 119).alloc _
  have hN := Box.newAt (w := w3.alloc (.cells #[.int .i64 s.level, .int .i64 s.position, .int .i64 s.p0, .int .i64 s.p1, .int .i64 s.order, .int .i64 s.age, .int .i64 p.top, .int .i64 p.bank, .int .i64 p.siphon, .int .i64 p.start, .int .i64 p.positions, .int .i64 p.rate, .int .i64 p.step, .int .i64 p.pass, .int .i64 p.feed, .int .i64 p.pipe, .int .i64 p.orders, .int .i64 p.age, V, .int .i64 x.feed, .int .i64 x.msg, .int .i64 0, .int .i64 0] 119)) (n := w3.heap.size + 1) [.func (.func 57) #[.pointer (some ⟨w3.heap.size, 0, none⟩)] #[], .func (.func 58) #[.pointer (some ⟨w3.heap.size, 0, none⟩)] #[], .func (.func 59) #[.pointer (some ⟨w3.heap.size, 0, none⟩)] #[], .func (.func 60) #[.pointer (some ⟨w3.heap.size, 0, none⟩)] #[]] 1 (by simp)
  have X4 := (X4.alloc (.cells #[.int .i64 s.level, .int .i64 s.position, .int .i64 s.p0, .int .i64 s.p1, .int .i64 s.order, .int .i64 s.age, .int .i64 p.top, .int .i64 p.bank, .int .i64 p.siphon, .int .i64 p.start, .int .i64 p.positions, .int .i64 p.rate, .int .i64 p.step, .int .i64 p.pass, .int .i64 p.feed, .int .i64 p.pipe, .int .i64 p.orders, .int .i64 p.age, V, .int .i64 x.feed, .int .i64 x.msg, .int .i64 0, .int .i64 0] 119)).alloc (.cells #[.func (.func 57) #[.pointer (some ⟨w3.heap.size, 0, none⟩)] #[], .func (.func 58) #[.pointer (some ⟨w3.heap.size, 0, none⟩)] #[], .func (.func 59) #[.pointer (some ⟨w3.heap.size, 0, none⟩)] #[], .func (.func 60) #[.pointer (some ⟨w3.heap.size, 0, none⟩)] #[]] 1)
  have hD := Lib.hid hB.size
  have hB := (hB.alloc hB.size (.cells #[.int .i64 s.level, .int .i64 s.position, .int .i64 s.p0, .int .i64 s.p1, .int .i64 s.order, .int .i64 s.age, .int .i64 p.top, .int .i64 p.bank, .int .i64 p.siphon, .int .i64 p.start, .int .i64 p.positions, .int .i64 p.rate, .int .i64 p.step, .int .i64 p.pass, .int .i64 p.feed, .int .i64 p.pipe, .int .i64 p.orders, .int .i64 p.age, V, .int .i64 x.feed, .int .i64 x.msg, .int .i64 0, .int .i64 0] 119)).alloc (by have := hB.size; simp; omega) (.cells #[.func (.func 57) #[.pointer (some ⟨w3.heap.size, 0, none⟩)] #[], .func (.func 58) #[.pointer (some ⟨w3.heap.size, 0, none⟩)] #[], .func (.func 59) #[.pointer (some ⟨w3.heap.size, 0, none⟩)] #[], .func (.func 60) #[.pointer (some ⟨w3.heap.size, 0, none⟩)] #[]] 1)
  generalize (w3.alloc (.cells #[.int .i64 s.level, .int .i64 s.position, .int .i64 s.p0, .int .i64 s.p1, .int .i64 s.order, .int .i64 s.age, .int .i64 p.top, .int .i64 p.bank, .int .i64 p.siphon, .int .i64 p.start, .int .i64 p.positions, .int .i64 p.rate, .int .i64 p.step, .int .i64 p.pass, .int .i64 p.feed, .int .i64 p.pipe, .int .i64 p.orders, .int .i64 p.age, V, .int .i64 x.feed, .int .i64 x.msg, .int .i64 0, .int .i64 0] 119)).alloc (.cells #[.func (.func 57) #[.pointer (some ⟨w3.heap.size, 0, none⟩)] #[], .func (.func 58) #[.pointer (some ⟨w3.heap.size, 0, none⟩)] #[], .func (.func 59) #[.pointer (some ⟨w3.heap.size, 0, none⟩)] #[], .func (.func 60) #[.pointer (some ⟨w3.heap.size, 0, none⟩)] #[]] 1) = W at hX hN X4 hB ⊢
  generalize w3.heap.size = D at hX hN hD hlt ⊢
  refine wp_loop_rounds 5 ?_
  rw [rounds_succ]
  have hS := Lib.hid S.out.sage
  have n0 : W.cell? ⟨D + 1, 0, none⟩ = some _ := hN.cell 0
  have z0 := hN.lt
  go_wp2_with fail
  have zz := hX.lt
  refine (hear_at hX hS.out hH).mono ?_
  rintro e w4 ⟨rfl, hX, hA⟩
  clear n0 z0
  have hN := hN.aside hA (by omega)
  have X4 := X4.aside hA (by omega)
  have hB := hB.trans (hA.below hD.out zz)
  clear hA zz
  have n1 : w4.cell? ⟨D + 1, 1, none⟩ = some _ := hN.cell 1
  have z1 := hN.lt
  go_wp2_with fail
  rw [rounds_succ]
  go_wp2_with fail
  have zz := hX.lt
  refine (feed_at hX hv.out.pipe hF).mono ?_
  rintro e w5 ⟨rfl, hX, hA⟩
  clear n1 z1
  have hN := hN.aside hA (by omega)
  have X4 := X4.aside hA (by omega)
  have hB := hB.trans (hA.below hD.out zz)
  clear hA zz
  have n2 : w5.cell? ⟨D + 1, 2, none⟩ = some _ := hN.cell 2
  have z2 := hN.lt
  go_wp2_with fail
  rw [rounds_succ]
  go_wp2_with fail
  have zz := hX.lt
  refine (set_at hX (hC.out.below hB |>.more hB.size) hR hgb.out S.out.position S.out.positions S.out.step hM).mono ?_
  rintro e w6 ⟨rfl, hX, hA⟩
  clear n2 z2
  have hN := hN.aside hA (by omega)
  have X4 := X4.aside hA (by omega)
  have hB := hB.trans (hA.below hD.out zz)
  clear hA zz
  have n3 : w6.cell? ⟨D + 1, 3, none⟩ = some _ := hN.cell 3
  have z3 := hN.lt
  go_wp2_with fail
  rw [rounds_succ]
  go_wp2_with fail
  have zz := hX.lt
  refine (pass_any p V _ x _ _ D _ hX S.out.level hf.out hM1.out).mono ?_
  rintro e w7 ⟨rfl, hX, hA⟩
  clear n3 z3
  have hN := hN.aside hA (by omega)
  have X4 := X4.aside hA (by omega)
  have hB := hB.trans (hA.below hD.out zz)
  clear hA zz
  have n4 : w7.cell? ⟨D + 1, 3, none⟩ = some _ := hN.cell 3
  have z4 := hN.lt
  go_wp2_with fail
  rw [rounds_succ]
  go_wp2_with fail
  clear n4 z4 hN
  obtain ⟨d0, d1, d2, d3, d4, d5⟩ := hX.c6
  have d22 : w7.cell? ⟨D, 22, none⟩ = some (.int .i64 (min (s.level + f) (p.rate * M))) := hX.cell 22
  obtain ⟨r0, rf0, r1, rf1, r2, rf2, r3, rf3, r4, rf4, r5, rf5⟩ := X4.f6
  have rz := X4.lt
  have hne : D ≠ w.heap.size + 1 + 1 + 1 + 1 := by omega
  go_region
  go_wp2
  have hY := ((((((X4.set 0 (.int .i64 (min p.top (s.level + f - min (s.level + f) (p.rate * M))))).set 1 (.int .i64 (M))).set 2 (.int .i64 (q0))).set 3 (.int .i64 (q1))).set 4 (.int .i64 (od))).set 5 (.int .i64 (ag)))
  have hB := ((((((hB.setCell (p := ⟨w.heap.size + 1 + 1 + 1 + 1, 0, none⟩) (by simp <;> omega) (.int .i64 (min p.top (s.level + f - min (s.level + f) (p.rate * M))))).setCell (p := ⟨w.heap.size + 1 + 1 + 1 + 1, 1, none⟩) (by simp <;> omega) (.int .i64 (M))).setCell (p := ⟨w.heap.size + 1 + 1 + 1 + 1, 2, none⟩) (by simp <;> omega) (.int .i64 (q0))).setCell (p := ⟨w.heap.size + 1 + 1 + 1 + 1, 3, none⟩) (by simp <;> omega) (.int .i64 (q1))).setCell (p := ⟨w.heap.size + 1 + 1 + 1 + 1, 4, none⟩) (by simp <;> omega) (.int .i64 (od))).setCell (p := ⟨w.heap.size + 1 + 1 + 1 + 1, 5, none⟩) (by simp <;> omega) (.int .i64 (ag)))
  generalize ((((((w7.setCell ⟨w.heap.size + 1 + 1 + 1 + 1, 0, none⟩ (.int .i64 (min p.top (s.level + f - min (s.level + f) (p.rate * M))))).setCell ⟨w.heap.size + 1 + 1 + 1 + 1, 1, none⟩ (.int .i64 (M))).setCell ⟨w.heap.size + 1 + 1 + 1 + 1, 2, none⟩ (.int .i64 (q0))).setCell ⟨w.heap.size + 1 + 1 + 1 + 1, 3, none⟩ (.int .i64 (q1))).setCell ⟨w.heap.size + 1 + 1 + 1 + 1, 4, none⟩ (.int .i64 (od))).setCell ⟨w.heap.size + 1 + 1 + 1 + 1, 5, none⟩ (.int .i64 (ag))) = W2 at hY hB ⊢
  obtain ⟨y0, y1, y2, y3, y4, y5⟩ := hY.c6
  refine bodyPost_ret (v := .tuple #[.agg #[.int .i64 (min p.top (s.level + f - min (s.level + f) (p.rate * M))), .int .i64 M, .int .i64 q0, .int .i64 q1, .int .i64 od, .int .i64 ag], .int .i64 (min (s.level + f) (p.rate * M)), .int .i64 0]) (by simp [results, Try.results28, go_sem, y0, y1, y2, y3, y4, y5]) rfl ?_
  exact ⟨rfl, hB.drew⟩
end Go.Proofs.Ytancngachnpefaa
namespace Go.Proofs.Ytancngachnpefaa
open Go.RowKit
def RetX (t : St × Int × Int) (w : World) (e : Ending) (w' : World) : Prop := ∃ (s : St) (o er : Int), e = .returned (.tuple #[s.v, .int .i64 o, .int .i64 er]) ∧ Hid (t = (s, o, er)) ∧ Below w.heap.size w w'
theorem gateT_two (code : List Ln) : (gateT code = 0 ∧ gateB code = true) ∨ gateT code = 310 := by
  unfold gateT
  split
  · exact .inl ⟨rfl, by assumption⟩
  · exact .inr rfl
theorem movedM_is (p : Pl) (code : List Ln) (s : St) (x : Sh) (hp : 0 ≤ s.position ∧ s.position ≤ p.positions) (hs : 1 ≤ p.step) : movedM p s (firstT code (varsT p s x)).1 (firstT code (varsT p s x)).2 = movedT p code s x := by
  unfold movedM movedT
  split <;> omega
theorem moved_bd {p : Pl} {code : List Ln} {s : St} {x : Sh} (S : Small p s x) (hg : 0 ≤ (firstT code (varsT p s x)).1) : 0 ≤ movedT p code s x ∧ movedT p code s x ≤ 15 := by
  obtain ⟨_, h1, _, h2, _, _, h3, _⟩ := S
  unfold movedT
  split <;> omega
theorem next_any (p : Pl) (code : List Ln) (V : Value) (s : St) (x : Sh) (w : World) (hC : CodeAt w w.heap.size V code) :
    Calls Try.prog 28 #[p.v, .agg #[V], s.v, x.v] w (RetX (nextT p code s x) w) := by
  by_cases h : p.checkT = 0
  · obtain ⟨hv, _⟩ := Pl.check_zero h
    rcases gateT_two code with ⟨hg, hgb⟩ | hg
    · rcases hh : p.hasB s with _ | _
      · have e : nextT p code s x = (St.zero, 0, 320) := by rw [nextT, if_pos h, if_pos hg, if_neg (by rw [hh]; decide)]
        rw [e]
        exact (next_has p code V s x w hC h hg hv.pipe hh).mono fun _ _ ⟨he, hb⟩ => ⟨St.zero, 0, 320, he, rfl, hb⟩
      · rcases hc : chosenB p x with _ | _
        · have e : nextT p code s x = (St.zero, 0, 1) := by rw [nextT, if_pos h, if_pos hg, if_pos hh, if_neg (by rw [hc]; decide)]
          rw [e]
          have hc' : ¬ ((0 ≤ x.feed ∧ x.feed ≤ p.feed) ∧ -1 ≤ x.msg ∧ x.msg ≤ p.orders) := by
            intro hk
            rw [chosenB, inI, inI, decide_eq_true hk.1, decide_eq_true hk.2] at hc
            cases hc
          by_cases k1 : 0 ≤ x.feed
          · by_cases k2 : x.feed ≤ p.feed
            · by_cases k3 : -1 ≤ x.msg
              · exact (next_chosen3 p code V s x w hC h hg hv.pipe hh k1 k2 k3 (by omega)).mono fun _ _ ⟨he, hb⟩ => ⟨St.zero, 0, 1, he, rfl, hb⟩
              · exact (next_chosen2 p code V s x w hC h hg hv.pipe hh k1 k2 (by omega)).mono fun _ _ ⟨he, hb⟩ => ⟨St.zero, 0, 1, he, rfl, hb⟩
            · exact (next_chosen1 p code V s x w hC h hg hv.pipe hh k1 (by omega)).mono fun _ _ ⟨he, hb⟩ => ⟨St.zero, 0, 1, he, rfl, hb⟩
          · exact (next_chosen0 p code V s x w hC h hg hv.pipe hh (by omega)).mono fun _ _ ⟨he, hb⟩ => ⟨St.zero, 0, 1, he, rfl, hb⟩
        · have e : nextT p code s x = (stepT p code s x, outT p code s x, 0) := by rw [nextT, if_pos h, if_pos hg, if_pos hh, if_pos hc]
          rw [e]
          have S := small_of hv hh hc
          have hgd := firstT_bd (r := varsT p s x) hgb
          have hMb := moved_bd S hgd.1
          have hM := movedM_is p code s x S.position S.step.1
          have hrm := mul_le4 (a := p.rate) (b := movedT p code s x) (A := 15) (B := 15) (by have := S.rate; omega) hMb
          have hck := hc
          simp only [chosenB, Bool.and_eq_true] at hck
          have c1 := inI_yes hck.1
          have c2 := inI_yes hck.2
          have hf : 0 ≤ (fedT p s x).1 ∧ (fedT p s x).1 ≤ 15 := by
            have := S.feed
            have := S.p0
            unfold fedT
            split
            · omega
            · split <;> omega
          have hR : runT code (varsT p s x) = ((firstT code (varsT p s x)).1, (firstT code (varsT p s x)).2, 0) := by rw [runT, if_pos hgb]
          refine (next_good p code V s x w hC h hg hv hh c1.1 c1.2 c2.1 c2.2 S (heardT p s x).1 (heardT p s x).2 (fedT p s x).1 (fedT p s x).2.1 (fedT p s x).2.2 (firstT code (varsT p s x)).1 (movedT p code s x) (firstT code (varsT p s x)).2 rfl rfl hR hgd hM hf (by rw [Hid]; exact ⟨hrm.1, by omega⟩)).mono ?_
          rintro _ _ ⟨he, hb⟩
          exact ⟨stepT p code s x, outT p code s x, 0, he, rfl, hb⟩
    · have e : nextT p code s x = (St.zero, 0, 310) := by rw [nextT, if_pos h, if_neg (by omega), hg]
      rw [e]
      exact (next_gate p code V s x w hC h hg).mono fun _ _ ⟨he, hb⟩ => ⟨St.zero, 0, 310, he, rfl, hb⟩
  · have e : nextT p code s x = (St.zero, 0, p.checkT) := by rw [nextT, if_neg h]
    rw [e]
    exact (next_check p code V s x w hC p.checkT rfl (by simp [h]) (by simp [h])).mono fun _ _ ⟨he, hb⟩ => ⟨St.zero, 0, p.checkT, he, rfl, hb⟩
theorem rnext_any (p : Pl) (code : List Ln) (V : Value) (s : St) (x : Sh) (w : World) (hC : CodeAt w w.heap.size V code) :
    Calls Try.prog 70 #[p.v, .agg #[V], s.v, x.v] w (RetX (nextT p code s x) w) := by
  by_cases h : p.checkT = 0
  · obtain ⟨hv, _⟩ := Pl.check_zero h
    rcases gateT_two code with ⟨hg, hgb⟩ | hg
    · rcases hh : p.hasB s with _ | _
      · have e : nextT p code s x = (St.zero, 0, 320) := by rw [nextT, if_pos h, if_pos hg, if_neg (by rw [hh]; decide)]
        rw [e]
        exact (rnext_has p code V s x w hC h hg hv.pipe hh).mono fun _ _ ⟨he, hb⟩ => ⟨St.zero, 0, 320, he, rfl, hb⟩
      · rcases hc : chosenB p x with _ | _
        · have e : nextT p code s x = (St.zero, 0, 1) := by rw [nextT, if_pos h, if_pos hg, if_pos hh, if_neg (by rw [hc]; decide)]
          rw [e]
          exact (rnext_chosen p code V s x w hC h hg hv.pipe hh hc).mono fun _ _ ⟨he, hb⟩ => ⟨St.zero, 0, 1, he, rfl, hb⟩
        · have e : nextT p code s x = (stepT p code s x, outT p code s x, 0) := by rw [nextT, if_pos h, if_pos hg, if_pos hh, if_pos hc]
          rw [e]
          exact (rnext_good p code V s x w hC h hg hgb hv hh hc _ _ ⟨rfl, rfl⟩).mono fun _ _ ⟨he, hb⟩ => ⟨_, _, 0, he, rfl, hb⟩
    · have e : nextT p code s x = (St.zero, 0, 310) := by rw [nextT, if_pos h, if_neg (by omega), hg]
      rw [e]
      exact (rnext_gate p code V s x w hC h hg).mono fun _ _ ⟨he, hb⟩ => ⟨St.zero, 0, 310, he, rfl, hb⟩
  · have e : nextT p code s x = (St.zero, 0, p.checkT) := by rw [nextT, if_neg h]
    rw [e]
    exact (rnext_check p code V s x w hC p.checkT rfl (by simp [h]) (by simp [h])).mono fun _ _ ⟨he, hb⟩ => ⟨St.zero, 0, p.checkT, he, rfl, hb⟩
theorem next_is {p : Pl} {code : List Ln} {V : Value} {s : St} {x : Sh} {w : World} {t : St} {o er : Int} (h : Hid (nextT p code s x = (t, o, er))) (hC : CodeAt w w.heap.size V code) :
    Calls Try.prog 28 #[p.v, .agg #[V], s.v, x.v] w fun e w' => e = .returned (.tuple #[t.v, .int .i64 o, .int .i64 er]) ∧ Below w.heap.size w w' :=
  (next_any p code V s x w hC).mono fun _ _ ⟨a, b, c, he, hq, hb⟩ => by
    have := hq.out.symm.trans h.out
    simp only [Prod.mk.injEq] at this
    obtain ⟨rfl, rfl, rfl⟩ := this
    exact ⟨he, hb⟩
theorem rnext_is {p : Pl} {code : List Ln} {V : Value} {s : St} {x : Sh} {w : World} {t : St} {o er : Int} (h : Hid (nextT p code s x = (t, o, er))) (hC : CodeAt w w.heap.size V code) :
    Calls Try.prog 70 #[p.v, .agg #[V], s.v, x.v] w fun e w' => e = .returned (.tuple #[t.v, .int .i64 o, .int .i64 er]) ∧ Below w.heap.size w w' :=
  (rnext_any p code V s x w hC).mono fun _ _ ⟨a, b, c, he, hq, hb⟩ => by
    have := hq.out.symm.trans h.out
    simp only [Prod.mk.injEq] at this
    obtain ⟨rfl, rfl, rfl⟩ := this
    exact ⟨he, hb⟩
theorem rcount_is {p : Pl} {w : World} {n er : Int} (h : Hid (p.countT = (n, er))) : Calls Try.prog 33 #[p.v] w fun e w' => e = .returned (.tuple #[.int .i64 n, .int .i64 er]) ∧ Below w.heap.size w w' :=
  (rCount_any p w).mono fun _ _ ⟨a, b, he, hq, hb⟩ => by
    have := hq.out.symm.trans h.out
    simp only [Prod.mk.injEq] at this
    obtain ⟨rfl, rfl⟩ := this
    exact ⟨he, hb⟩
theorem begin_is {p : Pl} {w : World} {t : St} {er : Int} (h : Hid (p.beginT = (t, er))) : Calls Try.prog 27 #[p.v] w fun e w' => e = .returned (.tuple #[t.v, .int .i64 er]) ∧ Below w.heap.size w w' :=
  (Begin_any p w).mono fun _ _ ⟨a, b, he, hq, hb⟩ => by
    have := hq.out.symm.trans h.out
    simp only [Prod.mk.injEq] at this
    obtain ⟨rfl, rfl⟩ := this
    exact ⟨he, hb⟩
theorem rbegin_is {p : Pl} {w : World} {t : St} {er : Int} (h : Hid (p.beginT = (t, er))) : Calls Try.prog 45 #[p.v] w fun e w' => e = .returned (.tuple #[t.v, .int .i64 er]) ∧ Below w.heap.size w w' :=
  (rBegin_any p w).mono fun _ _ ⟨a, b, he, hq, hb⟩ => by
    have := hq.out.symm.trans h.out
    simp only [Prod.mk.injEq] at this
    obtain ⟨rfl, rfl⟩ := this
    exact ⟨he, hb⟩
theorem safe_is {p : Pl} {s : St} {w : World} {q : Bool} {er : Int} (h : Hid (p.safeT s = (q, er))) : Calls Try.prog 24 #[p.v, s.v] w fun e w' => e = .returned (.tuple #[.bool q, .int .i64 er]) ∧ Below w.heap.size w w' :=
  (Safe_any p s w).mono fun _ _ ⟨a, b, he, hq, hb⟩ => by
    have := hq.out.symm.trans h.out
    simp only [Prod.mk.injEq] at this
    obtain ⟨rfl, rfl⟩ := this
    exact ⟨he, hb⟩
theorem rsafe_is {p : Pl} {s : St} {w : World} {q : Bool} {er : Int} (h : Hid (p.safeT s = (q, er))) : Calls Try.prog 69 #[p.v, s.v] w fun e w' => e = .returned (.tuple #[.bool q, .int .i64 er]) ∧ Below w.heap.size w w' :=
  (rSafe_any p s w).mono fun _ _ ⟨a, b, he, hq, hb⟩ => by
    have := hq.out.symm.trans h.out
    simp only [Prod.mk.injEq] at this
    obtain ⟨rfl, rfl⟩ := this
    exact ⟨he, hb⟩
end Go.Proofs.Ytancngachnpefaa
namespace Go.Proofs.Ytancngachnpefaa
open Go.RowKit Go.Shelf
structure KeepsC (D : Nat) (R : Nat → Prop) (A B : World) : Prop where
  low : Below D A B
  cells : ∀ b o, ¬ R b → A.heap[b]? = some o → o.isCells = true → B.heap[b]? = some o
section
variable {D : Nat} {R : Nat → Prop} {A B C : World}
theorem KeepsC.refl (D : Nat) (R : Nat → Prop) (A : World) : KeepsC D R A A := ⟨Below.refl _ _, fun _ _ _ h _ => h⟩
theorem KeepsC.trans (h : KeepsC D R A B) (k : KeepsC D R B C) : KeepsC D R A C := ⟨h.low.trans k.low, fun b o hr ho hc => k.cells b o hr (h.cells b o hr ho hc) hc⟩
theorem KeepsC.wider {R' : Nat → Prop} (h : KeepsC D R A B) (hR : ∀ b, R b → R' b) : KeepsC D R' A B := ⟨h.low, fun b o hr => h.cells b o (fun e => hr (hR b e))⟩
theorem KeepsC.of (h : Below A.heap.size A B) (hD : D ≤ A.heap.size) : KeepsC D R A B := ⟨h.mono hD, fun b _ _ ho _ => (h.block b (Array.getElem?_eq_some_iff.1 ho).1).trans ho⟩
theorem KeepsC.set (W : World) {a : Addr} (hD : D ≤ a.block) (hR : R a.block) (v : Value) : KeepsC D R W (W.setCell a v) :=
  ⟨(Below.refl _ _).setCell hD v, fun b _ hr ho _ => (Below.heap_setCell W a v b (fun e => hr (e ▸ hR))).trans ho⟩
theorem KeepsC.put {W : World} {l : Nat} {o : Obj} (hl : W.heap[l]? = some o) (hc : o.isCells = false) (hD : D ≤ l) (o' : Obj) : KeepsC D R W (W.putObj l o') :=
  ⟨⟨rfl, rfl, rfl, by simp, fun k hk => World.putObj_heap_other (by omega)⟩, fun b o2 _ ho h2 => (World.putObj_heap_other (fun e => by rw [e, hl] at ho; cases ho; rw [hc] at h2; cases h2)).trans ho⟩
theorem KeepsC.box (h : KeepsC D R A B) {b : Nat} {xs : List Value} (hx : Box A b xs) (hr : ¬ R b) : Box B b xs := by
  obtain ⟨t, ht⟩ := hx
  exact ⟨t, h.cells b _ hr ht rfl⟩
theorem Box.under {b n : Nat} {xs : List Value} (h : Box A b xs) (hb : Below n A B) (hl : b < n) : Box B b xs := h.same (hb.block _ hl)
theorem Box.record {b l : Nat} {xs : List Value} {o : Obj} (h : Box A b xs) (hl : A.heap[l]? = some o) (hc : o.isCells = false) (o' : Obj) : Box (A.putObj l o') b xs := by
  obtain ⟨t, ht⟩ := h
  refine ⟨t, (World.putObj_heap_other (fun e => ?_)).trans ht⟩
  rw [e, hl] at ht
  cases ht
  cases hc
theorem KeepsC.size (h : KeepsC D R A B) : A.heap.size ≤ B.heap.size := h.low.size
end
def SeqB {α : Type} (F : Fence) (n : Nat) (P : Program) (g : Nat) (lb : Array Value) (encs : α → Array Value) (Kp : World → World → Prop) (S Sp : List α → Prop) (T : List α → α → Prop) (w : World) : Prop :=
  ∀ (l : Nat) (J Jx : List α → World → Prop) (W : World), Below w.heap.size w W → (∀ s A B, J s A → Below W.heap.size A B → J s B) → (∀ s A B, Jx s A → Below W.heap.size A B → Jx s B) →
    (∀ pre x W1, J pre W1 → T pre x → YieldAt F (n - 1) P l (encs x) W1 fun e W' =>
      (e = .returned (.bool true) ∧ J (pre ++ [x]) W' ∧ Kp W1 W') ∨ (e = .returned (.bool false) ∧ Jx (pre ++ [x]) W')) →
    J [] W →
    CallsIn F n P g (#[.func (.yield l) #[] #[]] ++ lb) W fun e W' => (∃ v, e = .returned v) ∧ ((∃ xs, S xs ∧ J xs W') ∨ (∃ pre, Sp pre ∧ Jx pre W'))
theorem yieldAt_round {α : Type} {F : Fence} {n : Nat} {P : Program} {B l D' : Nat} {D : Nat} {R : Nat → Prop} (hB : B ≤ l) (hD : D ≤ B) {fn : FuncId} {tmps : Array Value} {ps : Array Tmp} {assign body : Code} (hfn : F.fn fn)
    {I : List α → World → Prop} {Ix : Code → List α → World → Prop} {xs : List α} {vs : Array Value} {Ax : Act → World → Prop} {W : World} {rec : LoopState → Option Code → Loop}
    (hrec : rec = fun st pe => { state := st, pending := pe, fn, tmps, params := ps, assign, body, defers := D' })
    (hI : ∀ A o, I xs A → I xs (A.putObj l o)) (hIx : ∀ c A o, Ix c xs A → Ix c xs (A.putObj l o)) (hvs : vs.size = ps.size)
    (hl : W.heap[l]? = some (.loop (rec .ready none)))
    (hassign : ∀ K : Act → World → Prop, (∀ a' W', KeepsFrom B W W' → KeepsC D R W W' → Ax a' W' → K a' W') → assign.wpIn (F.inRound l) n P (Exit.then K (fun _ _ _ => False)) { tmps := (ps.zip vs).foldl (fun t (p, v) => t.setIfInBounds p v) tmps, defers := [] } W)
    (hbody : ∀ a' A, Ax a' A → A.heap[l]? = some (.loop (rec .ready none)) → body.wpIn (F.inRound l) n P (ownPostG B (KeepsC D R) I Ix xs (A.putObj l (.loop { rec .ready none with state := .busy }))) a' (A.putObj l (.loop { rec .ready none with state := .busy }))) :
    YieldAt F n P l vs W fun e W' => (e = .returned (.bool true) ∧ (I xs W' ∧ W'.heap[l]? = some (.loop (rec .ready none)) ∧ ∀ k o, B ≤ k → k ≠ l → W.heap[k]? = some o → o.isCells = false → W'.heap[k]? = some o) ∧ KeepsC D R W W') ∨
      (e = .returned (.bool false) ∧ ∃ c, Ix c xs W' ∧ W'.heap[l]? = some (.loop (rec .done (some c))) ∧ ∀ k o, B ≤ k → k ≠ l → W.heap[k]? = some o → o.isCells = false → W'.heap[k]? = some o) := by
  have hy := run_yield (P := P) (args := vs) hl (by rw [hrec]; exact hvs)
  rw [hrec] at hy
  refine ⟨fn, _, assign, body, hy, roundIn_of_wpIn hfn (hassign _ ?_)⟩
  intro a' Wa hkf hkc hax
  have hla := hkf.same _ _ hB hl rfl
  have hlt : l < Wa.heap.size := (Array.getElem?_eq_some_iff.1 hla).1
  refine ⟨_, run_beginRound hla (by rw [hrec]), wpIn_mono (hbody a' Wa hax hla) ?_⟩
  have hl2 : (Wa.putObj l (.loop { rec .ready none with state := .busy })).heap[l]? = some (.loop { rec .ready none with state := .busy }) := World.putObj_heap_same hlt
  have hk2 : KeepsC D R W (Wa.putObj l (.loop { rec .ready none with state := .busy })) := hkc.trans (KeepsC.put hla rfl (by omega) _)
  have fin : ∀ (jump : Option Code) (W3 : World), KeepsFrom B (Wa.putObj l (.loop { rec .ready none with state := .busy })) W3 →
      (Instr.endRound l jump).run P W3 = .ok (.bool jump.isNone) (W3.putObj l (.loop (rec (if jump.isNone then .ready else .done) jump))) ∧
      W3.heap[l]? = some (.loop { rec .ready none with state := .busy }) ∧
      (W3.putObj l (.loop (rec (if jump.isNone then .ready else .done) jump))).heap[l]? = some (.loop (rec (if jump.isNone then .ready else .done) jump)) ∧
      (∀ k o, B ≤ k → k ≠ l → W.heap[k]? = some o → o.isCells = false → (W3.putObj l (.loop (rec (if jump.isNone then .ready else .done) jump))).heap[k]? = some o) := by
    intro jump W3 hk3
    have hl3 := hk3.same _ _ hB hl2 rfl
    have he := run_endRound (P := P) jump hl3
    rw [hrec] at he ⊢
    refine ⟨he, by rw [hrec] at hl3; exact hl3, World.putObj_heap_same (Array.getElem?_eq_some_iff.1 hl3).1, fun k o hk hkl ho hc => ?_⟩
    refine (World.putObj_heap_other hkl).trans (hk3.same k o hk ?_ hc)
    exact (World.putObj_heap_other hkl).trans (hkf.same k o hk ho hc)
  rintro e a3 W3 hp
  cases e with
  | normal =>
    obtain ⟨hk3, hkp3, hi3⟩ := hp
    obtain ⟨hr, hl3, hl4, hk4⟩ := fin none W3 hk3
    exact ⟨_, _, hr, .inl ⟨rfl, ⟨hI _ _ hi3, hl4, hk4⟩, hk2.trans (hkp3.trans (KeepsC.put hl3 rfl (by omega) _))⟩⟩
  | ret =>
    obtain ⟨hk3, hi3⟩ := hp
    obtain ⟨hr, hl3, hl4, hk4⟩ := fin (some .ret) W3 hk3
    exact ⟨_, _, hr, .inr ⟨rfl, .ret, hIx _ _ _ hi3, hl4, hk4⟩⟩
  | exit id =>
    obtain ⟨hk3, hi3⟩ := hp
    obtain ⟨hr, hl3, hl4, hk4⟩ := fin (some (.exit id)) W3 hk3
    exact ⟨_, _, hr, .inr ⟨rfl, .exit id, hIx _ _ _ hi3, hl4, hk4⟩⟩
  | goto t =>
    obtain ⟨hk3, hi3⟩ := hp
    obtain ⟨hr, hl3, hl4, hk4⟩ := fin (some (.goto t)) W3 hk3
    exact ⟨_, _, hr, .inr ⟨rfl, .goto t, hIx _ _ _ hi3, hl4, hk4⟩⟩
  | panic ch => exact hp.elim
  | outgrown => exact hp.elim
theorem below_put3 {n : Nat} {A : World} {l : Nat} (hl : n ≤ l) (o : Obj) : Below n A (A.putObj l o) := ⟨rfl, rfl, rfl, by simp, fun k hk => World.putObj_heap_other (by omega)⟩
theorem wpIn_range_out {α : Type} {F : Fence} {n : Nat} {P : Program} {g : Operand} {ps : Array Tmp} {assign body : Code} {Q : Exit → Act → World → Prop} {a : Act} {w : World}
    (hro : F.round = none) (h1 : 1 ≤ n) {gf : Nat} {lb : Array Value} (hg : a.eval g = .func (.func gf) #[] lb) (hFg : F.fn gf) (eg : ∀ args w, (callFunc gf args).run P w = .ok (.enter gf args) w)
    {encs : α → Array Value} {D : Nat} {R : Nat → Prop} {S Sp : List α → Prop} {T : List α → α → Prop} {w0 : World} (hseq : SeqB F (n - 1) P gf lb encs (KeepsC D R) S Sp T w0) (hb0 : Below w0.heap.size w0 w) (hD : D ≤ w.heap.size) (hps : ∀ x, (encs x).size = ps.size)
    (I : List α → World → Prop) (Ix : Code → List α → World → Prop) (hI : ∀ s A B, I s A → Below w.heap.size A B → I s B) (hIx : ∀ c s A B, Ix c s A → Below w.heap.size A B → Ix c s B) (h0 : I [] w)
    (Ax : List α → α → Act → World → Prop) (hAx : ∀ pre x a' A l o o', w.heap.size ≤ l → A.heap[l]? = some o → o.isCells = false → Ax pre x a' A → Ax pre x a' (A.putObj l o'))
    (hassign : ∀ (l : Nat) (pre : List α) (x : α) (W : World) (K : Act → World → Prop), I pre W → T pre x → (∀ a' W', KeepsFrom w.heap.size W W' → KeepsC D R W W' → Ax pre x a' W' → K a' W') →
      assign.wpIn (F.inRound l) (n - 1 - 1) P (Exit.then K (fun _ _ _ => False)) { tmps := (ps.zip (encs x)).foldl (fun t (p, v) => t.setIfInBounds p v) a.tmps, defers := [] } W)
    (hbody : ∀ (l : Nat) (pre : List α) (x : α) (a' : Act) (W : World), w.heap.size ≤ l → (∃ r, W.heap[l]? = some (.loop r)) → Ax pre x a' W → body.wpIn (F.inRound l) (n - 1 - 1) P (ownPostG w.heap.size (KeepsC D R) I Ix (pre ++ [x]) W) a' W)
    (hdone : ∀ (E : Nat) (xs : List α) (W : World), w.heap.size ≤ E → S xs → I xs W → W.heap[E]? = some (.deferred (some [])) → Q .normal { a with defers := { target := .collected E, args := #[] } :: a.defers } W)
    (hstop : ∀ (E : Nat) (c : Code) (pre : List α) (W : World), w.heap.size ≤ E → Sp pre → Ix c pre W → W.heap[E]? = some (.deferred (some [])) → c.wpIn F n P Q { a with defers := { target := .collected E, args := #[] } :: a.defers } W) :
    (Code.rangeFunc g ps assign body).wpIn F n P Q a w := by
  refine wpIn_rangeFunc ?_
  intro fn hfn
  rw [hro]
  obtain ⟨rec, hrec⟩ : ∃ rec : LoopState → Option Code → Loop, rec = fun st pe => { state := st, pending := pe, fn, tmps := a.tmps, params := ps, assign, body, defers := w.heap.size } := ⟨_, rfl⟩
  obtain ⟨W1, hW1⟩ : ∃ W1, (w.alloc (.deferred (some []))).alloc (.loop (rec .ready none)) = W1 := ⟨_, rfl⟩
  have hL1 : W1.heap[w.heap.size + 1]? = some (.loop (rec .ready none)) := by
    rw [← hW1]; have := World.alloc_heap_new (w.alloc (.deferred (some []))) (.loop (rec .ready none)); rwa [World.size_alloc] at this
  have hK1 : W1.heap[w.heap.size]? = some (.deferred (some [])) := by
    rw [← hW1]; exact (Below.heap_alloc _ _ _ (by simp)).trans (World.alloc_heap_new w _)
  have hb1 : Below w.heap.size w W1 := by
    rw [← hW1]; exact ((Below.refl _ w).alloc (Nat.le_refl _) _).alloc (by simp) _
  have hs1 : w.heap.size + 1 < W1.heap.size := (Array.getElem?_eq_some_iff.1 hL1).1
  refine ⟨w.heap.size + 1, [{ target := .collected w.heap.size, args := #[] }], W1, { target := .fn (.func gf) lb, args := #[.func (.yield (w.heap.size + 1)) #[] #[]] }, W1, gf,
    #[.func (.yield (w.heap.size + 1)) #[] #[]] ++ lb, W1, ?_, ?_, ?_, ?_, fun _ => h1, ?_⟩
  · rw [← hW1, hrec]; exact run_enterLoop_outer _ _ _ _ _
  · simp only [resolve, hg]
    simp [go_sem]
  · intro f' hf'; simp [Target.leads] at hf'; subst hf'; exact hFg
  · simp [invoke, go_sem, eg]
  · refine (hseq (w.heap.size + 1)
      (fun pre W => I pre W ∧ W.heap[w.heap.size + 1]? = some (.loop (rec .ready none)) ∧ W.heap[w.heap.size]? = some (.deferred (some [])))
      (fun pre W => ∃ c, Ix c pre W ∧ W.heap[w.heap.size + 1]? = some (.loop (rec .done (some c))) ∧ W.heap[w.heap.size]? = some (.deferred (some [])))
      W1 (hb0.trans (hb1.mono hb0.size)) ?_ ?_ ?_ ⟨hI _ _ _ h0 hb1, hL1, hK1⟩).mono ?_
    · rintro s A B ⟨h1, h2, h3⟩ hb
      exact ⟨hI _ _ _ h1 (hb.mono hb1.size), (hb.block _ hs1).trans h2, (hb.block _ (by omega)).trans h3⟩
    · rintro s A B ⟨c, h1, h2, h3⟩ hb
      exact ⟨c, hIx _ _ _ _ h1 (hb.mono hb1.size), (hb.block _ hs1).trans h2, (hb.block _ (by omega)).trans h3⟩
    · rintro pre x W ⟨hi, hl, hk⟩ hlen
      refine (yieldAt_round (Ax := Ax pre x) (I := I) (Ix := Ix) (xs := pre ++ [x]) (D' := w.heap.size) (Nat.le_succ _) hD hfn hrec (fun A o h => hI _ _ _ h (below_put3 (Nat.le_succ _) o)) (fun c A o h => hIx _ _ _ _ h (below_put3 (Nat.le_succ _) o)) (hps x) hl
        (fun K hK => hassign _ pre x W K hi hlen hK) (fun a' A hax hla => hbody _ pre x a' _ (Nat.le_succ _) ⟨_, World.putObj_heap_same (Array.getElem?_eq_some_iff.1 hla).1⟩ (hAx _ _ _ _ _ _ _ (Nat.le_succ _) hla rfl hax))).mono ?_
      rintro e W' (⟨rfl, ⟨h1, h2, h3⟩, h4⟩ | ⟨rfl, c, h1, h2, h3⟩)
      · exact .inl ⟨rfl, ⟨h1, h2, h3 _ _ (Nat.le_refl _) (by omega) hk rfl⟩, h4⟩
      · exact .inr ⟨rfl, c, h1, h2, h3 _ _ (Nat.le_refl _) (by omega) hk rfl⟩
    · rintro e W2 ⟨⟨v, rfl⟩, (⟨xs, hS, hi, hl, hk⟩ | ⟨pre, hSp, c, hi, hl, hk⟩)⟩
      · exact ⟨none, _, by have := run_endLoop (P := P) hl (by rw [hrec]; simp); rw [hrec] at this; exact this, hdone _ xs _ (Nat.le_refl _) hS (hI _ _ _ hi (below_put3 (Nat.le_succ _) _)) ((World.putObj_heap_other (by omega)).trans hk)⟩
      · exact ⟨some c, _, by have := run_endLoop (P := P) hl (by rw [hrec]; simp); rw [hrec] at this; exact this, hstop _ c pre _ (Nat.le_refl _) hSp (hIx _ _ _ _ hi (below_put3 (Nat.le_succ _) _)) ((World.putObj_heap_other (by omega)).trans hk)⟩
theorem wpIn_range_in {α : Type} {F : Fence} {n : Nat} {P : Program} {g : Operand} {ps : Array Tmp} {assign body : Code} {Q : Exit → Act → World → Prop} {a : Act} {w : World}
    {l₀ : Nat} {r₀ : Loop} (hro : F.round = some l₀) (hl₀ : w.heap[l₀]? = some (.loop r₀)) (h1 : 1 ≤ n) {gf : Nat} {lb : Array Value} (hg : a.eval g = .func (.func gf) #[] lb) (hFg : F.fn gf) (eg : ∀ args w, (callFunc gf args).run P w = .ok (.enter gf args) w)
    {encs : α → Array Value} {D : Nat} {R : Nat → Prop} {S Sp : List α → Prop} {T : List α → α → Prop} {w0 : World} (hseq : SeqB F (n - 1) P gf lb encs (KeepsC D R) S Sp T w0) (hb0 : Below w0.heap.size w0 w) (hD : D ≤ w.heap.size) (hps : ∀ x, (encs x).size = ps.size)
    (I : List α → World → Prop) (Ix : Code → List α → World → Prop) (hI : ∀ s A B, I s A → Below w.heap.size A B → I s B) (hIx : ∀ c s A B, Ix c s A → Below w.heap.size A B → Ix c s B) (h0 : I [] w)
    (Ax : List α → α → Act → World → Prop) (hAx : ∀ pre x a' A l o o', w.heap.size ≤ l → A.heap[l]? = some o → o.isCells = false → Ax pre x a' A → Ax pre x a' (A.putObj l o'))
    (hassign : ∀ (l : Nat) (pre : List α) (x : α) (W : World) (K : Act → World → Prop), I pre W → T pre x → (∀ a' W', KeepsFrom w.heap.size W W' → KeepsC D R W W' → Ax pre x a' W' → K a' W') →
      assign.wpIn (F.inRound l) (n - 1 - 1) P (Exit.then K (fun _ _ _ => False)) { tmps := (ps.zip (encs x)).foldl (fun t (p, v) => t.setIfInBounds p v) a.tmps, defers := [] } W)
    (hbody : ∀ (l : Nat) (pre : List α) (x : α) (a' : Act) (W : World), w.heap.size ≤ l → (∃ r, W.heap[l]? = some (.loop r)) → Ax pre x a' W → body.wpIn (F.inRound l) (n - 1 - 1) P (ownPostG w.heap.size (KeepsC D R) I Ix (pre ++ [x]) W) a' W)
    (hdone : ∀ (xs : List α) (W : World), S xs → I xs W → Q .normal a W)
    (hstop : ∀ (c : Code) (pre : List α) (W : World), Sp pre → Ix c pre W → c.wpIn F n P Q a W) :
    (Code.rangeFunc g ps assign body).wpIn F n P Q a w := by
  refine wpIn_rangeFunc ?_
  intro fn hfn
  rw [hro]
  obtain ⟨rec, hrec⟩ : ∃ rec : LoopState → Option Code → Loop, rec = fun st pe => { state := st, pending := pe, fn, tmps := a.tmps, params := ps, assign, body, defers := r₀.defers } := ⟨_, rfl⟩
  obtain ⟨W1, hW1⟩ : ∃ W1, w.alloc (.loop (rec .ready none)) = W1 := ⟨_, rfl⟩
  have hL1 : W1.heap[w.heap.size]? = some (.loop (rec .ready none)) := by rw [← hW1]; exact World.alloc_heap_new w _
  have hb1 : Below w.heap.size w W1 := by rw [← hW1]; exact (Below.refl _ w).alloc (Nat.le_refl _) _
  have hs1 : w.heap.size < W1.heap.size := (Array.getElem?_eq_some_iff.1 hL1).1
  refine ⟨w.heap.size, [], W1, { target := .fn (.func gf) lb, args := #[.func (.yield w.heap.size) #[] #[]] }, W1, gf,
    #[.func (.yield w.heap.size) #[] #[]] ++ lb, W1, ?_, ?_, ?_, ?_, fun _ => h1, ?_⟩
  · rw [← hW1, hrec]; exact run_enterLoop_inner hl₀ _ _ _ _ _
  · simp only [resolve, hg]
    simp [go_sem]
  · intro f' hf'; simp [Target.leads] at hf'; subst hf'; exact hFg
  · simp [invoke, go_sem, eg]
  · refine (hseq w.heap.size
      (fun pre W => I pre W ∧ W.heap[w.heap.size]? = some (.loop (rec .ready none)))
      (fun pre W => ∃ c, Ix c pre W ∧ W.heap[w.heap.size]? = some (.loop (rec .done (some c))))
      W1 (hb0.trans (hb1.mono hb0.size)) ?_ ?_ ?_ ⟨hI _ _ _ h0 hb1, hL1⟩).mono ?_
    · rintro s A B ⟨h1, h2⟩ hb
      exact ⟨hI _ _ _ h1 (hb.mono hb1.size), (hb.block _ hs1).trans h2⟩
    · rintro s A B ⟨c, h1, h2⟩ hb
      exact ⟨c, hIx _ _ _ _ h1 (hb.mono hb1.size), (hb.block _ hs1).trans h2⟩
    · rintro pre x W ⟨hi, hl⟩ hlen
      refine (yieldAt_round (Ax := Ax pre x) (I := I) (Ix := Ix) (xs := pre ++ [x]) (D' := r₀.defers) (Nat.le_refl _) hD hfn hrec (fun A o h => hI _ _ _ h (below_put3 (Nat.le_refl _) o)) (fun c A o h => hIx _ _ _ _ h (below_put3 (Nat.le_refl _) o)) (hps x) hl
        (fun K hK => hassign _ pre x W K hi hlen hK) (fun a' A hax hla => hbody _ pre x a' _ (Nat.le_refl _) ⟨_, World.putObj_heap_same (Array.getElem?_eq_some_iff.1 hla).1⟩ (hAx _ _ _ _ _ _ _ (Nat.le_refl _) hla rfl hax))).mono ?_
      rintro e W' (⟨rfl, ⟨h1, h2, _⟩, h4⟩ | ⟨rfl, c, h1, h2, _⟩)
      · exact .inl ⟨rfl, ⟨h1, h2⟩, h4⟩
      · exact .inr ⟨rfl, c, h1, h2⟩
    · rintro e W2 ⟨⟨v, rfl⟩, (⟨xs, hS, hi, hl⟩ | ⟨pre, hSp, c, hi, hl⟩)⟩
      · exact ⟨none, _, by have := run_endLoop (P := P) hl (by rw [hrec]; simp); rw [hrec] at this; exact this, hdone xs _ hS (hI _ _ _ hi (below_put3 (Nat.le_refl _) _))⟩
      · exact ⟨some c, _, by have := run_endLoop (P := P) hl (by rw [hrec]; simp); rw [hrec] at this; exact this, hstop c pre _ hSp (hIx _ _ _ _ hi (below_put3 (Nat.le_refl _) _))⟩
end Go.Proofs.Ytancngachnpefaa
namespace Go.Proofs.Ytancngachnpefaa
open Go.RowKit
structure Iq where
  (level position pipe order age most : Int)
structure Fw where
  kind : Int
  st : St
  sh : Sh
def Sh.zero : Sh := ⟨0, 0⟩
def Fw.zero : Fw := ⟨0, St.zero, Sh.zero⟩
abbrev Iq.v (x : Iq) : Value := .agg #[.int .i64 x.level, .int .i64 x.position, .int .i64 x.pipe, .int .i64 x.order, .int .i64 x.age, .int .i64 x.most]
abbrev Iq.cells (x : Iq) : List Value := [.int .i64 x.level, .int .i64 x.position, .int .i64 x.pipe, .int .i64 x.order, .int .i64 x.age, .int .i64 x.most]
def iqCell (x : Iq) (j : Nat) : Value := .int .i64 (if j = 0 then x.level else if j = 1 then x.position else if j = 2 then x.pipe else if j = 3 then x.order else if j = 4 then x.age else x.most)
def Iq.zero : Iq := ⟨0, 0, 0, 0, 0, 0⟩
def BarAt (w : World) (B : Nat) (v : Value) (b : List Iq) : Prop := Sl w B 6 b.length (fun i j => iqCell (b.getD i Iq.zero) j) v
theorem BarAt.below {w w' : World} {B : Nat} {v : Value} {b : List Iq} (h : BarAt w B v b) (hb : Below B w w') : BarAt w' B v b := Sl.below h hb
theorem BarAt.more {w : World} {B B' : Nat} {v : Value} {b : List Iq} (h : BarAt w B v b) (hb : B ≤ B') : BarAt w B' v b := Sl.more h hb
theorem BarAt.later {w w' : World} {v : Value} {b : List Iq} (h : BarAt w w.heap.size v b) (hb : Below w.heap.size w w') : BarAt w' w'.heap.size v b := (h.below hb).more hb.size
theorem BarAt.form {w : World} {B : Nat} {v : Value} {b : List Iq} (h : BarAt w B v b) : ∃ A c, v = .slice A b.length c ∧ b.length ≤ maxLen := by
  obtain ⟨A, c, hv, hn, _⟩ := h
  exact ⟨A, c, hv, hn⟩
theorem BarAt.ineq {w : World} {B : Nat} {A : Option Addr} {n c : Nat} {b : List Iq} (h : BarAt w B (.slice A n c) b) {k : Nat} (hk : k < b.length) :
    ∃ g off, A = some ⟨g, off, none⟩ ∧ g < B ∧ w.cell? ⟨g, off + k * 6, none⟩ = some (.int .i64 (b[k]).level) ∧ w.cell? ⟨g, off + k * 6 + 1, none⟩ = some (.int .i64 (b[k]).position) ∧ w.cell? ⟨g, off + k * 6 + 2, none⟩ = some (.int .i64 (b[k]).pipe) ∧ w.cell? ⟨g, off + k * 6 + 3, none⟩ = some (.int .i64 (b[k]).order) ∧ w.cell? ⟨g, off + k * 6 + 4, none⟩ = some (.int .i64 (b[k]).age) ∧ w.cell? ⟨g, off + k * 6 + 5, none⟩ = some (.int .i64 (b[k]).most) := by
  obtain ⟨A', c', hv, _, h1⟩ := h
  cases hv
  obtain ⟨g, off, rfl, hb, h3⟩ := h1 k hk
  have e : b.getD k Iq.zero = b[k] := by rw [List.getD_eq_getElem?_getD, List.getElem?_eq_getElem hk]; rfl
  have c0 := h3 0 (by omega)
  have c1 := h3 1 (by omega)
  have c2 := h3 2 (by omega)
  have c3 := h3 3 (by omega)
  have c4 := h3 4 (by omega)
  have c5 := h3 5 (by omega)
  simp only [e] at c0 c1 c2 c3 c4 c5
  exact ⟨g, off, rfl, hb, c0, by rw [Nat.add_assoc]; exact c1, by rw [Nat.add_assoc]; exact c2, by rw [Nat.add_assoc]; exact c3, by rw [Nat.add_assoc]; exact c4, by rw [Nat.add_assoc]; exact c5⟩
def Iq.okB (x : Iq) : Bool := inI x.level (-1048576) 1048576 && (inI x.position (-1048576) 1048576 && (inI x.pipe (-1048576) 1048576 && (inI x.order (-1048576) 1048576 && (inI x.age (-1048576) 1048576 && inI x.most (-1048576) 1048576))))
def barT (b : List Iq) : Int := if b.length ≤ 16 then (if b.all Iq.okB = true then 0 else 330) else 2
def Iq.sum (x : Iq) (s : St) : Int := x.level * s.level + x.position * s.position + x.pipe * (s.p0 + s.p1) + x.order * s.order + x.age * s.age
def inB (b : List Iq) (s : St) : Bool := b.all fun x => decide (x.sum s ≤ x.most)
def St.numsB (s : St) : Bool := inI s.level 0 1048576 && (inI s.position 0 1048576 && (inI s.p0 0 1048576 && (inI s.p1 0 1048576 && (inI s.order 0 1048576 && inI s.age 0 1048576))))
def holdsT (b : List Iq) (s : St) : Bool × Int := if barT b = 0 then (if s.numsB = true then (inB b s, 0) else (false, 1)) else (false, barT b)
def Pl.n0 (p : Pl) : Nat := (p.positions + 1).toNat
def Pl.nx (p : Pl) : Nat := if p.pipe = 0 then 1 else (p.feed + 1).toNat
def Pl.ny (p : Pl) : Nat := if p.pipe = 2 then (p.feed + 1).toNat else 1
def Pl.no (p : Pl) : Nat := (p.orders + 1).toNat
def Pl.na (p : Pl) : Nat := (p.age + 1).toNat
def Pl.count (p : Pl) : Nat := (p.top + 1).toNat * (p.n0 * (p.nx * (p.ny * (p.no * p.na))))
def Pl.stAt (p : Pl) (k : Nat) : St :=
  ⟨(k / (p.n0 * (p.nx * (p.ny * (p.no * p.na)))) : Nat), (k / (p.nx * (p.ny * (p.no * p.na))) % p.n0 : Nat), (k / (p.ny * (p.no * p.na)) % p.nx : Nat), (k / (p.no * p.na) % p.ny : Nat), (k / p.na % p.no : Nat), (k % p.na : Nat)⟩
def Pl.states (p : Pl) : List St := (List.range p.count).map p.stAt
def Pl.nm (p : Pl) : Nat := (p.orders + 2).toNat
def Pl.shAt (p : Pl) (k : Nat) : Sh := ⟨(k / p.nm : Nat), ((k % p.nm : Nat) : Int) - 1⟩
def Pl.shocks (p : Pl) : List Sh := (List.range ((p.feed + 1).toNat * p.nm)).map p.shAt
def Pl.safeB (p : Pl) (s : St) : Bool := (p.safeT s).1
def flawAt (p : Pl) (c : List Ln) (b : List Iq) (s : St) : Option Fw :=
  if inB b s = true then (if p.safeB s = true then (p.shocks.find? fun x => !inB b (nextT p c s x).1).map (fun x => ⟨3, s, x⟩) else some ⟨2, s, Sh.zero⟩) else none
def askT (p : Pl) (c : List Ln) : Int := if p.checkT = 0 then gateT c else p.checkT
def certT (p : Pl) (c : List Ln) (b : List Iq) : Bool × Fw × Int :=
  if askT p c = 0 then (if barT b = 0 then (if inB b p.beginT.1 = true then (match p.states.findSome? (flawAt p c b) with
    | some f => (false, f, 0)
    | none => (true, Fw.zero, 0)) else (false, ⟨1, p.beginT.1, Sh.zero⟩, 0)) else (false, Fw.zero, barT b)) else (false, Fw.zero, askT p c)
/-! The sums that decide whether a state is in fit into an int. -/
theorem mul_bd {a b A B : Int} (ha : -A ≤ a ∧ a ≤ A) (hb : -B ≤ b ∧ b ≤ B) : -(A * B) ≤ a * b ∧ a * b ≤ A * B := by
  have h1 : a.natAbs ≤ A.natAbs := by omega
  have h2 : b.natAbs ≤ B.natAbs := by omega
  have h3 : (a * b).natAbs ≤ A.natAbs * B.natAbs := by rw [Int.natAbs_mul]; exact Nat.mul_le_mul h1 h2
  have h4 : ((A.natAbs * B.natAbs : Nat) : Int) = A * B := by
    rw [Int.natCast_mul, Int.natAbs_of_nonneg (by omega), Int.natAbs_of_nonneg (by omega)]
  omega
end Go.Proofs.Ytancngachnpefaa
