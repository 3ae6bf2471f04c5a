/- Contracts of Next of plant and of acequiaref32: the way that goes on. (Printed by gen_r.py.) -/
import Derived.Test.YtcjcjkomcolgeaaQR
import Derived.Laws.EntriesVeiled
set_option linter.unusedVariables false
set_option linter.unusedSimpArgs false
namespace Go.Proofs.Ytcjcjkomcolgeaa
open Go.RowKit

theorem hear_at {p : Pl} {V : Value} {s : St} {x : Sh} {f o od ag : Int} {b : Nat} {w : World} (hX : Box w b (hourL p V s x f o)) (ha : 0 ≤ s.age ∧ s.age ≤ 7) (hH : Hid (heardT p s x = (od, ag))) :
    Calls Try.prog 52 #[.pointer (some ⟨b, 0, none⟩)] w fun e w' => e = .returned (.tuple #[]) ∧ Box w' b (hourL p V ⟨s.level, s.position, s.p0, s.p1, od, ag⟩ x f o) ∧ Aside b w w' := by
  have := hear_any p V s x f o b w hX ha
  rw [hH.out] at this
  exact this
theorem feed_at {p : Pl} {V : Value} {s : St} {x : Sh} {f o g q0 q1 : Int} {b : Nat} {w : World} (hX : Box w b (hourL p V s x f o)) (hp : 0 ≤ p.pipe ∧ p.pipe ≤ 2) (hH : Hid (fedT p s x = (g, q0, q1))) :
    Calls Try.prog 53 #[.pointer (some ⟨b, 0, none⟩)] w fun e w' => e = .returned (.tuple #[]) ∧ Box w' b (hourL p V ⟨s.level, s.position, q0, q1, s.order, s.age⟩ x g o) ∧ Aside b w w' := by
  have := feed_any p V s x f o b w hX hp
  rw [hH.out] at this
  exact this
def movedM (p : Pl) (s : St) (g : Int) (ok : Bool) : Int := if ok = true then s.position + max (-p.step) (min p.step (min g p.positions - s.position)) else s.position
theorem set_at {p : Pl} {V : Value} {s : St} {x : Sh} {f o : Int} {b : Nat} {w : World} (hX : Box w b (hourL p V s x f o)) {code : List Ln} {g M : Int} {ok : Bool} (hC : Hid (CodeAt w w.heap.size V code)) (hR : Hid (runT code ⟨s.level, s.position, s.order, s.age, f⟩ = (g, ok, 0))) (hg : 0 ≤ g ∧ g ≤ 1099511627776)
    (hp : 0 ≤ s.position ∧ s.position ≤ p.positions) (hq : 1 ≤ p.positions ∧ p.positions ≤ 15) (hs : 1 ≤ p.step ∧ p.step ≤ 15) (hM : Hid (movedM p s g ok = M)) :
    Calls Try.prog 54 #[.pointer (some ⟨b, 0, none⟩)] w fun e w' => e = .returned (.tuple #[]) ∧ Box w' b (hourL p V ⟨s.level, M, s.p0, s.p1, s.order, s.age⟩ x f o) ∧ Aside b w w' := by
  have hM := hM.out
  subst hM
  cases ok
  · exact set_no p V s x f o b w hX code g hC hR hg hp hq hs
  · exact set_yes p V s x f o b w hX code g hC hR hg hp hq hs

set_option maxRecDepth 100000 in
set_option maxHeartbeats 4000000 in
theorem next_good (p : Pl) (code : List Ln) (V : Value) (s : St) (x : Sh) (w : World) (hC : Hid (CodeAt w w.heap.size V code)) (h : Hid (p.checkT = 0)) (hg : Hid (gateT code = 0)) (hv : Hid p.Valid) (hh : Hid (p.hasB s = true)) (_k1 : 0 ≤ x.feed) (_k2 : x.feed ≤ p.feed) (_k3 : -1 ≤ x.msg) (_k4 : x.msg ≤ p.orders)
    (S : Hid (Small p s x)) (od ag f q0 q1 g M : Int) (ok : Bool) (hH : Hid (heardT p s x = (od, ag))) (hF : Hid (fedT p s x = (f, q0, q1))) (hR : Hid (runT code ⟨s.level, s.position, od, ag, f⟩ = (g, ok, 0))) (hgb : Hid (0 ≤ g ∧ g ≤ 1099511627776)) (hM : Hid (movedM p s g ok = M)) (hf : Hid (0 ≤ f ∧ f ≤ 15)) (hM1 : Hid (0 ≤ p.rate * M ∧ p.rate * M ≤ 225)) :
    Calls Try.prog 25 #[p.v, .agg #[V], s.v, x.v] w fun e w' => e = .returned (.tuple #[.agg #[.int .i64 (min p.top (s.level + f - min (s.level + f) (p.rate * M))), .int .i64 M, .int .i64 q0, .int .i64 q1, .int .i64 od, .int .i64 ag], .int .i64 (min (s.level + f) (p.rate * M)), .int .i64 0]) ∧ Below w.heap.size w w' := by
  go_enter Try.func25, Try.ntmps25
  go_wp2_with fail
  refine (check_at h _).mono ?_
  rintro e w1 ⟨rfl, hb⟩
  have X0 := ((((((Box.newAt (n := w.heap.size) [.int .i64 p.top, .int .i64 p.bank, .int .i64 p.siphon, .int .i64 p.start, .int .i64 p.positions, .int .i64 p.rate, .int .i64 p.step, .int .i64 p.pass, .int .i64 p.feed, .int .i64 p.pipe, .int .i64 p.orders, .int .i64 p.age] 55 (by simp)).alloc _).alloc _).alloc _).alloc _)).later hb
  have X1 := (((((Box.newAt (n := w.heap.size + 1) [V] 63 (by simp)).alloc _).alloc _).alloc _)).later hb
  have X2 := ((((Box.newAt (n := w.heap.size + 1 + 1) [.int .i64 s.level, .int .i64 s.position, .int .i64 s.p0, .int .i64 s.p1, .int .i64 s.order, .int .i64 s.age] 51 (by simp)).alloc _).alloc _)).later hb
  have X3 := (((Box.newAt (n := w.heap.size + 1 + 1 + 1) [.int .i64 x.feed, .int .i64 x.msg] 71 (by simp)).alloc _)).later hb
  have X4 := ((Box.newAt (n := w.heap.size + 1 + 1 + 1 + 1) [.int .i64 0, .int .i64 0, .int .i64 0, .int .i64 0, .int .i64 0, .int .i64 0] 51 (by simp))).later hb
  have hB : Below w.heap.size w w1 := (((((((Below.refl w.heap.size w).alloc (by simp <;> omega) _).alloc (by simp <;> omega) _).alloc (by simp <;> omega) _).alloc (by simp <;> omega) _).alloc (by simp <;> omega) _)).trans (hb.mono (by simp <;> omega))
  clear hb
  have X1c0 : w1.cell? ⟨w.heap.size + 1, 0, none⟩ = some (V) := X1.cell 0
  have X1f0 : w1.frozen? ⟨w.heap.size + 1, 0, none⟩ = false := X1.free 0
  have X1z : w.heap.size + 1 < w1.heap.size := X1.lt
  go_wp2_with fail
  refine (gcheck_at hg ((hC.out.below hB).more hB.size)).mono ?_
  rintro e w2 ⟨rfl, hb⟩
  clear X1c0 X1f0 X1z
  have X0 := X0.later hb
  have X1 := X1.later hb
  have X2 := X2.later hb
  have X3 := X3.later hb
  have X4 := X4.later hb
  have hB := hB.trans (hb.mono hB.size)
  clear hb
  have X0c0 : w2.cell? ⟨w.heap.size, 0, none⟩ = some (.int .i64 p.top) := X0.cell 0
  have X0f0 : w2.frozen? ⟨w.heap.size, 0, none⟩ = false := X0.free 0
  have X0c1 : w2.cell? ⟨w.heap.size, 1, none⟩ = some (.int .i64 p.bank) := X0.cell 1
  have X0f1 : w2.frozen? ⟨w.heap.size, 1, none⟩ = false := X0.free 1
  have X0c2 : w2.cell? ⟨w.heap.size, 2, none⟩ = some (.int .i64 p.siphon) := X0.cell 2
  have X0f2 : w2.frozen? ⟨w.heap.size, 2, none⟩ = false := X0.free 2
  have X0c3 : w2.cell? ⟨w.heap.size, 3, none⟩ = some (.int .i64 p.start) := X0.cell 3
  have X0f3 : w2.frozen? ⟨w.heap.size, 3, none⟩ = false := X0.free 3
  have X0c4 : w2.cell? ⟨w.heap.size, 4, none⟩ = some (.int .i64 p.positions) := X0.cell 4
  have X0f4 : w2.frozen? ⟨w.heap.size, 4, none⟩ = false := X0.free 4
  have X0c5 : w2.cell? ⟨w.heap.size, 5, none⟩ = some (.int .i64 p.rate) := X0.cell 5
  have X0f5 : w2.frozen? ⟨w.heap.size, 5, none⟩ = false := X0.free 5
  have X0c6 : w2.cell? ⟨w.heap.size, 6, none⟩ = some (.int .i64 p.step) := X0.cell 6
  have X0f6 : w2.frozen? ⟨w.heap.size, 6, none⟩ = false := X0.free 6
  have X0c7 : w2.cell? ⟨w.heap.size, 7, none⟩ = some (.int .i64 p.pass) := X0.cell 7
  have X0f7 : w2.frozen? ⟨w.heap.size, 7, none⟩ = false := X0.free 7
  have X0c8 : w2.cell? ⟨w.heap.size, 8, none⟩ = some (.int .i64 p.feed) := X0.cell 8
  have X0f8 : w2.frozen? ⟨w.heap.size, 8, none⟩ = false := X0.free 8
  have X0c9 : w2.cell? ⟨w.heap.size, 9, none⟩ = some (.int .i64 p.pipe) := X0.cell 9
  have X0f9 : w2.frozen? ⟨w.heap.size, 9, none⟩ = false := X0.free 9
  have X0c10 : w2.cell? ⟨w.heap.size, 10, none⟩ = some (.int .i64 p.orders) := X0.cell 10
  have X0f10 : w2.frozen? ⟨w.heap.size, 10, none⟩ = false := X0.free 10
  have X0c11 : w2.cell? ⟨w.heap.size, 11, none⟩ = some (.int .i64 p.age) := X0.cell 11
  have X0f11 : w2.frozen? ⟨w.heap.size, 11, none⟩ = false := X0.free 11
  have X0z : w.heap.size < w2.heap.size := X0.lt
  have X2c0 : w2.cell? ⟨w.heap.size + 1 + 1, 0, none⟩ = some (.int .i64 s.level) := X2.cell 0
  have X2f0 : w2.frozen? ⟨w.heap.size + 1 + 1, 0, none⟩ = false := X2.free 0
  have X2c1 : w2.cell? ⟨w.heap.size + 1 + 1, 1, none⟩ = some (.int .i64 s.position) := X2.cell 1
  have X2f1 : w2.frozen? ⟨w.heap.size + 1 + 1, 1, none⟩ = false := X2.free 1
  have X2c2 : w2.cell? ⟨w.heap.size + 1 + 1, 2, none⟩ = some (.int .i64 s.p0) := X2.cell 2
  have X2f2 : w2.frozen? ⟨w.heap.size + 1 + 1, 2, none⟩ = false := X2.free 2
  have X2c3 : w2.cell? ⟨w.heap.size + 1 + 1, 3, none⟩ = some (.int .i64 s.p1) := X2.cell 3
  have X2f3 : w2.frozen? ⟨w.heap.size + 1 + 1, 3, none⟩ = false := X2.free 3
  have X2c4 : w2.cell? ⟨w.heap.size + 1 + 1, 4, none⟩ = some (.int .i64 s.order) := X2.cell 4
  have X2f4 : w2.frozen? ⟨w.heap.size + 1 + 1, 4, none⟩ = false := X2.free 4
  have X2c5 : w2.cell? ⟨w.heap.size + 1 + 1, 5, none⟩ = some (.int .i64 s.age) := X2.cell 5
  have X2f5 : w2.frozen? ⟨w.heap.size + 1 + 1, 5, none⟩ = false := X2.free 5
  have X2z : w.heap.size + 1 + 1 < w2.heap.size := X2.lt
  go_wp2_with fail
  refine (belongs_at hv.out.pipe hh _).mono ?_
  rintro e w3 ⟨rfl, hb⟩
  clear X0c0 X0f0 X0c1 X0f1 X0c2 X0f2 X0c3 X0f3 X0c4 X0f4 X0c5 X0f5 X0c6 X0f6 X0c7 X0f7 X0c8 X0f8 X0c9 X0f9 X0c10 X0f10 X0c11 X0f11 X0z X2c0 X2f0 X2c1 X2f1 X2c2 X2f2 X2c3 X2f3 X2c4 X2f4 X2c5 X2f5 X2z
  have X0 := X0.later hb
  have X1 := X1.later hb
  have X2 := X2.later hb
  have X3 := X3.later hb
  have X4 := X4.later hb
  have hB := hB.trans (hb.mono hB.size)
  clear hb
  have X0c0 : w3.cell? ⟨w.heap.size, 0, none⟩ = some (.int .i64 p.top) := X0.cell 0
  have X0f0 : w3.frozen? ⟨w.heap.size, 0, none⟩ = false := X0.free 0
  have X0c1 : w3.cell? ⟨w.heap.size, 1, none⟩ = some (.int .i64 p.bank) := X0.cell 1
  have X0f1 : w3.frozen? ⟨w.heap.size, 1, none⟩ = false := X0.free 1
  have X0c2 : w3.cell? ⟨w.heap.size, 2, none⟩ = some (.int .i64 p.siphon) := X0.cell 2
  have X0f2 : w3.frozen? ⟨w.heap.size, 2, none⟩ = false := X0.free 2
  have X0c3 : w3.cell? ⟨w.heap.size, 3, none⟩ = some (.int .i64 p.start) := X0.cell 3
  have X0f3 : w3.frozen? ⟨w.heap.size, 3, none⟩ = false := X0.free 3
  have X0c4 : w3.cell? ⟨w.heap.size, 4, none⟩ = some (.int .i64 p.positions) := X0.cell 4
  have X0f4 : w3.frozen? ⟨w.heap.size, 4, none⟩ = false := X0.free 4
  have X0c5 : w3.cell? ⟨w.heap.size, 5, none⟩ = some (.int .i64 p.rate) := X0.cell 5
  have X0f5 : w3.frozen? ⟨w.heap.size, 5, none⟩ = false := X0.free 5
  have X0c6 : w3.cell? ⟨w.heap.size, 6, none⟩ = some (.int .i64 p.step) := X0.cell 6
  have X0f6 : w3.frozen? ⟨w.heap.size, 6, none⟩ = false := X0.free 6
  have X0c7 : w3.cell? ⟨w.heap.size, 7, none⟩ = some (.int .i64 p.pass) := X0.cell 7
  have X0f7 : w3.frozen? ⟨w.heap.size, 7, none⟩ = false := X0.free 7
  have X0c8 : w3.cell? ⟨w.heap.size, 8, none⟩ = some (.int .i64 p.feed) := X0.cell 8
  have X0f8 : w3.frozen? ⟨w.heap.size, 8, none⟩ = false := X0.free 8
  have X0c9 : w3.cell? ⟨w.heap.size, 9, none⟩ = some (.int .i64 p.pipe) := X0.cell 9
  have X0f9 : w3.frozen? ⟨w.heap.size, 9, none⟩ = false := X0.free 9
  have X0c10 : w3.cell? ⟨w.heap.size, 10, none⟩ = some (.int .i64 p.orders) := X0.cell 10
  have X0f10 : w3.frozen? ⟨w.heap.size, 10, none⟩ = false := X0.free 10
  have X0c11 : w3.cell? ⟨w.heap.size, 11, none⟩ = some (.int .i64 p.age) := X0.cell 11
  have X0f11 : w3.frozen? ⟨w.heap.size, 11, none⟩ = false := X0.free 11
  have X0z : w.heap.size < w3.heap.size := X0.lt
  have X1c0 : w3.cell? ⟨w.heap.size + 1, 0, none⟩ = some (V) := X1.cell 0
  have X1f0 : w3.frozen? ⟨w.heap.size + 1, 0, none⟩ = false := X1.free 0
  have X1z : w.heap.size + 1 < w3.heap.size := X1.lt
  have X2c0 : w3.cell? ⟨w.heap.size + 1 + 1, 0, none⟩ = some (.int .i64 s.level) := X2.cell 0
  have X2f0 : w3.frozen? ⟨w.heap.size + 1 + 1, 0, none⟩ = false := X2.free 0
  have X2c1 : w3.cell? ⟨w.heap.size + 1 + 1, 1, none⟩ = some (.int .i64 s.position) := X2.cell 1
  have X2f1 : w3.frozen? ⟨w.heap.size + 1 + 1, 1, none⟩ = false := X2.free 1
  have X2c2 : w3.cell? ⟨w.heap.size + 1 + 1, 2, none⟩ = some (.int .i64 s.p0) := X2.cell 2
  have X2f2 : w3.frozen? ⟨w.heap.size + 1 + 1, 2, none⟩ = false := X2.free 2
  have X2c3 : w3.cell? ⟨w.heap.size + 1 + 1, 3, none⟩ = some (.int .i64 s.p1) := X2.cell 3
  have X2f3 : w3.frozen? ⟨w.heap.size + 1 + 1, 3, none⟩ = false := X2.free 3
  have X2c4 : w3.cell? ⟨w.heap.size + 1 + 1, 4, none⟩ = some (.int .i64 s.order) := X2.cell 4
  have X2f4 : w3.frozen? ⟨w.heap.size + 1 + 1, 4, none⟩ = false := X2.free 4
  have X2c5 : w3.cell? ⟨w.heap.size + 1 + 1, 5, none⟩ = some (.int .i64 s.age) := X2.cell 5
  have X2f5 : w3.frozen? ⟨w.heap.size + 1 + 1, 5, none⟩ = false := X2.free 5
  have X2z : w.heap.size + 1 + 1 < w3.heap.size := X2.lt
  have X3c0 : w3.cell? ⟨w.heap.size + 1 + 1 + 1, 0, none⟩ = some (.int .i64 x.feed) := X3.cell 0
  have X3f0 : w3.frozen? ⟨w.heap.size + 1 + 1 + 1, 0, none⟩ = false := X3.free 0
  have X3c1 : w3.cell? ⟨w.heap.size + 1 + 1 + 1, 1, none⟩ = some (.int .i64 x.msg) := X3.cell 1
  have X3f1 : w3.frozen? ⟨w.heap.size + 1 + 1 + 1, 1, none⟩ = false := X3.free 1
  have X3z : w.heap.size + 1 + 1 + 1 < w3.heap.size := X3.lt
  have X4c0 : w3.cell? ⟨w.heap.size + 1 + 1 + 1 + 1, 0, none⟩ = some (.int .i64 0) := X4.cell 0
  have X4f0 : w3.frozen? ⟨w.heap.size + 1 + 1 + 1 + 1, 0, none⟩ = false := X4.free 0
  have X4c1 : w3.cell? ⟨w.heap.size + 1 + 1 + 1 + 1, 1, none⟩ = some (.int .i64 0) := X4.cell 1
  have X4f1 : w3.frozen? ⟨w.heap.size + 1 + 1 + 1 + 1, 1, none⟩ = false := X4.free 1
  have X4c2 : w3.cell? ⟨w.heap.size + 1 + 1 + 1 + 1, 2, none⟩ = some (.int .i64 0) := X4.cell 2
  have X4f2 : w3.frozen? ⟨w.heap.size + 1 + 1 + 1 + 1, 2, none⟩ = false := X4.free 2
  have X4c3 : w3.cell? ⟨w.heap.size + 1 + 1 + 1 + 1, 3, none⟩ = some (.int .i64 0) := X4.cell 3
  have X4f3 : w3.frozen? ⟨w.heap.size + 1 + 1 + 1 + 1, 3, none⟩ = false := X4.free 3
  have X4c4 : w3.cell? ⟨w.heap.size + 1 + 1 + 1 + 1, 4, none⟩ = some (.int .i64 0) := X4.cell 4
  have X4f4 : w3.frozen? ⟨w.heap.size + 1 + 1 + 1 + 1, 4, none⟩ = false := X4.free 4
  have X4c5 : w3.cell? ⟨w.heap.size + 1 + 1 + 1 + 1, 5, none⟩ = some (.int .i64 0) := X4.cell 5
  have X4f5 : w3.frozen? ⟨w.heap.size + 1 + 1 + 1 + 1, 5, none⟩ = false := X4.free 5
  have X4z : w.heap.size + 1 + 1 + 1 + 1 < w3.heap.size := X4.lt
  go_wp2_with fail
  clear X0c0 X0f0 X0c1 X0f1 X0c2 X0f2 X0c3 X0f3 X0c4 X0f4 X0c5 X0f5 X0c6 X0f6 X0c7 X0f7 X0c8 X0f8 X0c9 X0f9 X0c10 X0f10 X0c11 X0f11 X0z X1c0 X1f0 X1z X2c0 X2f0 X2c1 X2f1 X2c2 X2f2 X2c3 X2f3 X2c4 X2f4 X2c5 X2f5 X2z X3c0 X3f0 X3c1 X3f1 X3z X4c0 X4f0 X4c1 X4f1 X4c2 X4f2 X4c3 X4f3 X4c4 X4f4 X4c5 X4f5 X4z
  clear X0 X1 X2 X3
  have hlt := X4.lt
  have hX : Box ((w3.alloc (.cells #[.int .i64 s.level, .int .i64 s.position, .int .i64 s.p0, .int .i64 s.p1, .int .i64 s.order, .int .i64 s.age, .int .i64 p.top, .int .i64 p.bank, .int .i64 p.siphon, .int .i64 p.start, .int .i64 p.positions, .int .i64 p.rate, .int .i64 p.step, .int .i64 p.pass, .int .i64 p.feed, .int .i64 p.pipe, .int .i64 p.orders, .int .i64 p.age, V, .int .i64 x.feed, .int .i64 x.msg, .int .i64 0, .int .i64 0] 109)).alloc (.cells #[.func (.func 52) #[.pointer (some ⟨w3.heap.size, 0, none⟩)] #[], .func (.func 53) #[.pointer (some ⟨w3.heap.size, 0, none⟩)] #[], .func (.func 54) #[.pointer (some ⟨w3.heap.size, 0, none⟩)] #[], .func (.func 55) #[.pointer (some ⟨w3.heap.size, 0, none⟩)] #[]] 1)) w3.heap.size (hourL p V s x 0 0) := (Box.new w3 (hourL p V s x 0 0) 109).alloc _
  have hN := Box.newAt (w := w3.alloc (.cells #[.int .i64 s.level, .int .i64 s.position, .int .i64 s.p0, .int .i64 s.p1, .int .i64 s.order, .int .i64 s.age, .int .i64 p.top, .int .i64 p.bank, .int .i64 p.siphon, .int .i64 p.start, .int .i64 p.positions, .int .i64 p.rate, .int .i64 p.step, .int .i64 p.pass, .int .i64 p.feed, .int .i64 p.pipe, .int .i64 p.orders, .int .i64 p.age, V, .int .i64 x.feed, .int .i64 x.msg, .int .i64 0, .int .i64 0] 109)) (n := w3.heap.size + 1) [.func (.func 52) #[.pointer (some ⟨w3.heap.size, 0, none⟩)] #[], .func (.func 53) #[.pointer (some ⟨w3.heap.size, 0, none⟩)] #[], .func (.func 54) #[.pointer (some ⟨w3.heap.size, 0, none⟩)] #[], .func (.func 55) #[.pointer (some ⟨w3.heap.size, 0, none⟩)] #[]] 1 (by simp)
  have X4 := (X4.alloc (.cells #[.int .i64 s.level, .int .i64 s.position, .int .i64 s.p0, .int .i64 s.p1, .int .i64 s.order, .int .i64 s.age, .int .i64 p.top, .int .i64 p.bank, .int .i64 p.siphon, .int .i64 p.start, .int .i64 p.positions, .int .i64 p.rate, .int .i64 p.step, .int .i64 p.pass, .int .i64 p.feed, .int .i64 p.pipe, .int .i64 p.orders, .int .i64 p.age, V, .int .i64 x.feed, .int .i64 x.msg, .int .i64 0, .int .i64 0] 109)).alloc (.cells #[.func (.func 52) #[.pointer (some ⟨w3.heap.size, 0, none⟩)] #[], .func (.func 53) #[.pointer (some ⟨w3.heap.size, 0, none⟩)] #[], .func (.func 54) #[.pointer (some ⟨w3.heap.size, 0, none⟩)] #[], .func (.func 55) #[.pointer (some ⟨w3.heap.size, 0, none⟩)] #[]] 1)
  have hD := Lib.hid hB.size
  have hB := (hB.alloc hB.size (.cells #[.int .i64 s.level, .int .i64 s.position, .int .i64 s.p0, .int .i64 s.p1, .int .i64 s.order, .int .i64 s.age, .int .i64 p.top, .int .i64 p.bank, .int .i64 p.siphon, .int .i64 p.start, .int .i64 p.positions, .int .i64 p.rate, .int .i64 p.step, .int .i64 p.pass, .int .i64 p.feed, .int .i64 p.pipe, .int .i64 p.orders, .int .i64 p.age, V, .int .i64 x.feed, .int .i64 x.msg, .int .i64 0, .int .i64 0] 109)).alloc (by have := hB.size; simp; omega) (.cells #[.func (.func 52) #[.pointer (some ⟨w3.heap.size, 0, none⟩)] #[], .func (.func 53) #[.pointer (some ⟨w3.heap.size, 0, none⟩)] #[], .func (.func 54) #[.pointer (some ⟨w3.heap.size, 0, none⟩)] #[], .func (.func 55) #[.pointer (some ⟨w3.heap.size, 0, none⟩)] #[]] 1)
  generalize (w3.alloc (.cells #[.int .i64 s.level, .int .i64 s.position, .int .i64 s.p0, .int .i64 s.p1, .int .i64 s.order, .int .i64 s.age, .int .i64 p.top, .int .i64 p.bank, .int .i64 p.siphon, .int .i64 p.start, .int .i64 p.positions, .int .i64 p.rate, .int .i64 p.step, .int .i64 p.pass, .int .i64 p.feed, .int .i64 p.pipe, .int .i64 p.orders, .int .i64 p.age, V, .int .i64 x.feed, .int .i64 x.msg, .int .i64 0, .int .i64 0] 109)).alloc (.cells #[.func (.func 52) #[.pointer (some ⟨w3.heap.size, 0, none⟩)] #[], .func (.func 53) #[.pointer (some ⟨w3.heap.size, 0, none⟩)] #[], .func (.func 54) #[.pointer (some ⟨w3.heap.size, 0, none⟩)] #[], .func (.func 55) #[.pointer (some ⟨w3.heap.size, 0, none⟩)] #[]] 1) = W at hX hN X4 hB ⊢
  generalize w3.heap.size = D at hX hN hD hlt ⊢
  refine wp_loop_rounds 5 ?_
  rw [rounds_succ]
  have hS := Lib.hid S.out.sage
  have n0 : W.cell? ⟨D + 1, 0, none⟩ = some _ := hN.cell 0
  have z0 := hN.lt
  go_wp2_with fail
  have zz := hX.lt
  refine (hear_at hX hS.out hH).mono ?_
  rintro e w4 ⟨rfl, hX, hA⟩
  clear n0 z0
  have hN := hN.aside hA (by omega)
  have X4 := X4.aside hA (by omega)
  have hB := hB.trans (hA.below hD.out zz)
  clear hA zz
  have n1 : w4.cell? ⟨D + 1, 1, none⟩ = some _ := hN.cell 1
  have z1 := hN.lt
  go_wp2_with fail
  rw [rounds_succ]
  go_wp2_with fail
  have zz := hX.lt
  refine (feed_at hX hv.out.pipe hF).mono ?_
  rintro e w5 ⟨rfl, hX, hA⟩
  clear n1 z1
  have hN := hN.aside hA (by omega)
  have X4 := X4.aside hA (by omega)
  have hB := hB.trans (hA.below hD.out zz)
  clear hA zz
  have n2 : w5.cell? ⟨D + 1, 2, none⟩ = some _ := hN.cell 2
  have z2 := hN.lt
  go_wp2_with fail
  rw [rounds_succ]
  go_wp2_with fail
  have zz := hX.lt
  refine (set_at hX (hC.out.below hB |>.more hB.size) hR hgb.out S.out.position S.out.positions S.out.step hM).mono ?_
  rintro e w6 ⟨rfl, hX, hA⟩
  clear n2 z2
  have hN := hN.aside hA (by omega)
  have X4 := X4.aside hA (by omega)
  have hB := hB.trans (hA.below hD.out zz)
  clear hA zz
  have n3 : w6.cell? ⟨D + 1, 3, none⟩ = some _ := hN.cell 3
  have z3 := hN.lt
  go_wp2_with fail
  rw [rounds_succ]
  go_wp2_with fail
  have zz := hX.lt
  refine (pass_any p V _ x _ _ D _ hX S.out.level hf.out hM1.out).mono ?_
  rintro e w7 ⟨rfl, hX, hA⟩
  clear n3 z3
  have hN := hN.aside hA (by omega)
  have X4 := X4.aside hA (by omega)
  have hB := hB.trans (hA.below hD.out zz)
  clear hA zz
  have n4 : w7.cell? ⟨D + 1, 3, none⟩ = some _ := hN.cell 3
  have z4 := hN.lt
  go_wp2_with fail
  rw [rounds_succ]
  go_wp2_with fail
  clear n4 z4 hN
  have d0 : w7.cell? ⟨D, 0, none⟩ = some (.int .i64 (min p.top (s.level + f - min (s.level + f) (p.rate * M)))) := hX.cell 0
  have d1 : w7.cell? ⟨D, 1, none⟩ = some (.int .i64 (M)) := hX.cell 1
  have d2 : w7.cell? ⟨D, 2, none⟩ = some (.int .i64 (q0)) := hX.cell 2
  have d3 : w7.cell? ⟨D, 3, none⟩ = some (.int .i64 (q1)) := hX.cell 3
  have d4 : w7.cell? ⟨D, 4, none⟩ = some (.int .i64 (od)) := hX.cell 4
  have d5 : w7.cell? ⟨D, 5, none⟩ = some (.int .i64 (ag)) := hX.cell 5
  have d22 : w7.cell? ⟨D, 22, none⟩ = some (.int .i64 (min (s.level + f) (p.rate * M))) := hX.cell 22
  have r0 : w7.cell? ⟨w.heap.size + 1 + 1 + 1 + 1, 0, none⟩ = some (.int .i64 0) := X4.cell 0
  have rf0 : w7.frozen? ⟨w.heap.size + 1 + 1 + 1 + 1, 0, none⟩ = false := X4.free 0
  have r1 : w7.cell? ⟨w.heap.size + 1 + 1 + 1 + 1, 1, none⟩ = some (.int .i64 0) := X4.cell 1
  have rf1 : w7.frozen? ⟨w.heap.size + 1 + 1 + 1 + 1, 1, none⟩ = false := X4.free 1
  have r2 : w7.cell? ⟨w.heap.size + 1 + 1 + 1 + 1, 2, none⟩ = some (.int .i64 0) := X4.cell 2
  have rf2 : w7.frozen? ⟨w.heap.size + 1 + 1 + 1 + 1, 2, none⟩ = false := X4.free 2
  have r3 : w7.cell? ⟨w.heap.size + 1 + 1 + 1 + 1, 3, none⟩ = some (.int .i64 0) := X4.cell 3
  have rf3 : w7.frozen? ⟨w.heap.size + 1 + 1 + 1 + 1, 3, none⟩ = false := X4.free 3
  have r4 : w7.cell? ⟨w.heap.size + 1 + 1 + 1 + 1, 4, none⟩ = some (.int .i64 0) := X4.cell 4
  have rf4 : w7.frozen? ⟨w.heap.size + 1 + 1 + 1 + 1, 4, none⟩ = false := X4.free 4
  have r5 : w7.cell? ⟨w.heap.size + 1 + 1 + 1 + 1, 5, none⟩ = some (.int .i64 0) := X4.cell 5
  have rf5 : w7.frozen? ⟨w.heap.size + 1 + 1 + 1 + 1, 5, none⟩ = false := X4.free 5
  have rz := X4.lt
  have hne : D ≠ w.heap.size + 1 + 1 + 1 + 1 := by omega
  go_region
  go_wp2
  have hY := ((((((X4.set 0 (.int .i64 (min p.top (s.level + f - min (s.level + f) (p.rate * M))))).set 1 (.int .i64 (M))).set 2 (.int .i64 (q0))).set 3 (.int .i64 (q1))).set 4 (.int .i64 (od))).set 5 (.int .i64 (ag)))
  have hB := ((((((hB.setCell (p := ⟨w.heap.size + 1 + 1 + 1 + 1, 0, none⟩) (by simp <;> omega) (.int .i64 (min p.top (s.level + f - min (s.level + f) (p.rate * M))))).setCell (p := ⟨w.heap.size + 1 + 1 + 1 + 1, 1, none⟩) (by simp <;> omega) (.int .i64 (M))).setCell (p := ⟨w.heap.size + 1 + 1 + 1 + 1, 2, none⟩) (by simp <;> omega) (.int .i64 (q0))).setCell (p := ⟨w.heap.size + 1 + 1 + 1 + 1, 3, none⟩) (by simp <;> omega) (.int .i64 (q1))).setCell (p := ⟨w.heap.size + 1 + 1 + 1 + 1, 4, none⟩) (by simp <;> omega) (.int .i64 (od))).setCell (p := ⟨w.heap.size + 1 + 1 + 1 + 1, 5, none⟩) (by simp <;> omega) (.int .i64 (ag)))
  generalize ((((((w7.setCell ⟨w.heap.size + 1 + 1 + 1 + 1, 0, none⟩ (.int .i64 (min p.top (s.level + f - min (s.level + f) (p.rate * M))))).setCell ⟨w.heap.size + 1 + 1 + 1 + 1, 1, none⟩ (.int .i64 (M))).setCell ⟨w.heap.size + 1 + 1 + 1 + 1, 2, none⟩ (.int .i64 (q0))).setCell ⟨w.heap.size + 1 + 1 + 1 + 1, 3, none⟩ (.int .i64 (q1))).setCell ⟨w.heap.size + 1 + 1 + 1 + 1, 4, none⟩ (.int .i64 (od))).setCell ⟨w.heap.size + 1 + 1 + 1 + 1, 5, none⟩ (.int .i64 (ag))) = W2 at hY hB ⊢
  have y0 : W2.cell? ⟨w.heap.size + 1 + 1 + 1 + 1, 0, none⟩ = some (.int .i64 (min p.top (s.level + f - min (s.level + f) (p.rate * M)))) := hY.cell 0
  have y1 : W2.cell? ⟨w.heap.size + 1 + 1 + 1 + 1, 1, none⟩ = some (.int .i64 (M)) := hY.cell 1
  have y2 : W2.cell? ⟨w.heap.size + 1 + 1 + 1 + 1, 2, none⟩ = some (.int .i64 (q0)) := hY.cell 2
  have y3 : W2.cell? ⟨w.heap.size + 1 + 1 + 1 + 1, 3, none⟩ = some (.int .i64 (q1)) := hY.cell 3
  have y4 : W2.cell? ⟨w.heap.size + 1 + 1 + 1 + 1, 4, none⟩ = some (.int .i64 (od)) := hY.cell 4
  have y5 : W2.cell? ⟨w.heap.size + 1 + 1 + 1 + 1, 5, none⟩ = some (.int .i64 (ag)) := hY.cell 5
  refine bodyPost_ret (v := .tuple #[.agg #[.int .i64 (min p.top (s.level + f - min (s.level + f) (p.rate * M))), .int .i64 M, .int .i64 q0, .int .i64 q1, .int .i64 od, .int .i64 ag], .int .i64 (min (s.level + f) (p.rate * M)), .int .i64 0]) (by simp [results, Try.results25, go_sem, y0, y1, y2, y3, y4, y5]) rfl ?_
  exact ⟨rfl, hB.drew⟩

end Go.Proofs.Ytcjcjkomcolgeaa
