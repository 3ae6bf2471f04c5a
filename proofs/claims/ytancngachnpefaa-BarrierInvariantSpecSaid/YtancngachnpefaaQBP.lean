/- Check of package barrier: the loops. (Printed by gen_bo.py.) No condition. -/
import Derived.Test.YtancngachnpefaaQK
import Derived.Test.YtancngachnpefaaQME
import Derived.Test.YtancngachnpefaaQMB
import Derived.Deep.RegionHeld3
import Derived.StillTailTactics
set_option linter.unusedVariables false
set_option linter.unusedSimpArgs false
set_option maxRecDepth 100000
set_option maxHeartbeats 4000000
namespace Go.Proofs.Ytancngachnpefaa
open Go.RowKit Go.Shelf
attribute [local go_sem] Oper.semAt_some
theorem KeepsC.under {D n : Nat} {R : Nat → Prop} {W A B : World} (h : KeepsC D R W A) (hb : Below n A B) (hn : W.heap.size ≤ n) (hD : D ≤ n) : KeepsC D R W B :=
  ⟨h.low.trans (hb.mono hD), fun b o hr ho hc => (hb.block b (by have := (Array.getElem?_eq_some_iff.1 ho).1; omega)).trans (h.cells b o hr ho hc)⟩
theorem kfUnder {D n : Nat} {W A B : World} (h : KeepsFrom D W A) (hb : Below n A B) (hn : W.heap.size ≤ n) : KeepsFrom D W B :=
  ⟨Nat.le_trans h.size hb.size, fun b o hk ho hc => (hb.block b (by have := (Array.getElem?_eq_some_iff.1 ho).1; omega)).trans (h.same b o hk ho hc)⟩
theorem kfOf {D : Nat} {A B : World} (h : Below A.heap.size A B) : KeepsFrom D A B := ⟨h.size, fun b _ _ ho _ => (h.block b (Array.getElem?_eq_some_iff.1 ho).1).trans ho⟩
theorem kfCell {D : Nat} {A : World} {a : Addr} (h : a.block < D) (v : Value) : KeepsFrom D A (A.setCell a v) := ⟨by simp, fun b _ hk ho _ => (Below.heap_setCell A a v b (by omega)).trans ho⟩
structure Lp (w : World) (G : Nat) (p : Pl) (U V : Value) (W : World) : Prop where
  low : Below w.heap.size w W
  bar : Box W (w.heap.size + 1 + 1) [U]
  game : Box W G (gmL p V)
  ok : Box W (w.heap.size + 1 + 1 + 1) [.bool true]
  flaw : Box W (w.heap.size + 1 + 1 + 1 + 1) [.int .i64 0, .int .i64 0, .int .i64 0, .int .i64 0, .int .i64 0, .int .i64 0, .int .i64 0, .int .i64 0, .int .i64 0]
theorem Lp.under {w A B : World} {G n : Nat} {p : Pl} {U V : Value} (h : Lp w G p U V A) (hb : Below n A B) (hn : w.heap.size + 1 + 1 + 1 + 1 < n) (hG : G < n) : Lp w G p U V B :=
  ⟨h.low.trans (hb.mono (by omega)), h.bar.under hb (by omega), h.game.under hb hG, h.ok.under hb (by omega), h.flaw.under hb hn⟩
theorem Lp.record {w A : World} {G l : Nat} {p : Pl} {U V : Value} {o : Obj} (h : Lp w G p U V A) (hl : A.heap[l]? = some o) (hc : o.isCells = false) (hw : w.heap.size ≤ l) (o' : Obj) : Lp w G p U V (A.putObj l o') :=
  ⟨h.low.trans (below_put3 hw _), h.bar.record hl hc _, h.game.record hl hc _, h.ok.record hl hc _, h.flaw.record hl hc _⟩
abbrev okR (w : World) (b : Nat) : Prop := b = w.heap.size + 1 + 1 + 1 ∨ b = w.heap.size + 1 + 1 + 1 + 1
theorem bCert_3 (p : Pl) (c : List Ln) (b : List Iq) (A1 A2 : Option Addr) (m k m2 k2 : Nat) (w : World) (h : Hid (askT p c = 0)) (hb1 : Hid (barT b = 0)) (hin : Hid (inB b p.beginT.1 = true)) (hv : Hid p.Valid) (b0 b1 b2 b3 b4 b5 be : Int) (hbe : Hid (p.beginT = (⟨b0, b1, b2, b3, b4, b5⟩, be))) (t : Bool) (f : Fw) (hT : Hid (p.states.findSome? (flawAt p c b) = if t = true then none else some f)) (hf : t = true → f = Fw.zero) (hC : Hid (CodeAt w w.heap.size (.slice A2 m2 k2) c)) (_hQ : Hid (BarAt w w.heap.size (.slice A1 m k) b)) :
    Calls Try.prog 14 #[p.v, .agg #[.slice A2 m2 k2], .slice A1 m k] w fun e w' => e = .returned (.tuple #[.bool t, f.v, .int .i64 0]) ∧ Below w.heap.size w w' := by
  refine calls_of_wp_marks Try.func14 rfl ?_
  simp only [Try.ntmps14, List.size_toArray, List.length_cons, List.length_nil, Nat.reduceAdd, Nat.reduceSub, Array.replicate_succ, Array.replicate_zero, List.push_toArray, List.append_toArray, List.nil_append, List.cons_append]
  go_wp2_with fail
  have hB := (((((Below.refl w.heap.size w).alloc (by simp <;> omega) (.cells #[.int .i64 p.top, .int .i64 p.bank, .int .i64 p.siphon, .int .i64 p.start, .int .i64 p.positions, .int .i64 p.rate, .int .i64 p.step, .int .i64 p.pass, .int .i64 p.feed, .int .i64 p.pipe, .int .i64 p.orders, .int .i64 p.age] 23)).alloc (by simp <;> omega) (.cells #[.slice A2 m2 k2] 26)).alloc (by simp <;> omega) (.cells #[.slice A1 m k] 27)).alloc (by simp <;> omega) (.cells #[.bool false] 4)).alloc (by simp <;> omega) (.cells #[.int .i64 0, .int .i64 0, .int .i64 0, .int .i64 0, .int .i64 0, .int .i64 0, .int .i64 0, .int .i64 0, .int .i64 0] 39)
  have X3 := ((((Box.newAt (w := w) (n := w.heap.size) [.int .i64 p.top, .int .i64 p.bank, .int .i64 p.siphon, .int .i64 p.start, .int .i64 p.positions, .int .i64 p.rate, .int .i64 p.step, .int .i64 p.pass, .int .i64 p.feed, .int .i64 p.pipe, .int .i64 p.orders, .int .i64 p.age] 23 (by simp)).alloc (.cells #[.slice A2 m2 k2] 26)).alloc (.cells #[.slice A1 m k] 27)).alloc (.cells #[.bool false] 4)).alloc (.cells #[.int .i64 0, .int .i64 0, .int .i64 0, .int .i64 0, .int .i64 0, .int .i64 0, .int .i64 0, .int .i64 0, .int .i64 0] 39)
  have X4 := (((Box.newAt (w := (w.alloc (.cells #[.int .i64 p.top, .int .i64 p.bank, .int .i64 p.siphon, .int .i64 p.start, .int .i64 p.positions, .int .i64 p.rate, .int .i64 p.step, .int .i64 p.pass, .int .i64 p.feed, .int .i64 p.pipe, .int .i64 p.orders, .int .i64 p.age] 23))) (n := w.heap.size + 1) [.slice A2 m2 k2] 26 (by simp)).alloc (.cells #[.slice A1 m k] 27)).alloc (.cells #[.bool false] 4)).alloc (.cells #[.int .i64 0, .int .i64 0, .int .i64 0, .int .i64 0, .int .i64 0, .int .i64 0, .int .i64 0, .int .i64 0, .int .i64 0] 39)
  have X5 := ((Box.newAt (w := ((w.alloc (.cells #[.int .i64 p.top, .int .i64 p.bank, .int .i64 p.siphon, .int .i64 p.start, .int .i64 p.positions, .int .i64 p.rate, .int .i64 p.step, .int .i64 p.pass, .int .i64 p.feed, .int .i64 p.pipe, .int .i64 p.orders, .int .i64 p.age] 23)).alloc (.cells #[.slice A2 m2 k2] 26))) (n := w.heap.size + 1 + 1) [.slice A1 m k] 27 (by simp)).alloc (.cells #[.bool false] 4)).alloc (.cells #[.int .i64 0, .int .i64 0, .int .i64 0, .int .i64 0, .int .i64 0, .int .i64 0, .int .i64 0, .int .i64 0, .int .i64 0] 39)
  have X6 := (Box.newAt (w := (((w.alloc (.cells #[.int .i64 p.top, .int .i64 p.bank, .int .i64 p.siphon, .int .i64 p.start, .int .i64 p.positions, .int .i64 p.rate, .int .i64 p.step, .int .i64 p.pass, .int .i64 p.feed, .int .i64 p.pipe, .int .i64 p.orders, .int .i64 p.age] 23)).alloc (.cells #[.slice A2 m2 k2] 26)).alloc (.cells #[.slice A1 m k] 27))) (n := w.heap.size + 1 + 1 + 1) [.bool false] 4 (by simp)).alloc (.cells #[.int .i64 0, .int .i64 0, .int .i64 0, .int .i64 0, .int .i64 0, .int .i64 0, .int .i64 0, .int .i64 0, .int .i64 0] 39)
  have X7 := Box.newAt (w := ((((w.alloc (.cells #[.int .i64 p.top, .int .i64 p.bank, .int .i64 p.siphon, .int .i64 p.start, .int .i64 p.positions, .int .i64 p.rate, .int .i64 p.step, .int .i64 p.pass, .int .i64 p.feed, .int .i64 p.pipe, .int .i64 p.orders, .int .i64 p.age] 23)).alloc (.cells #[.slice A2 m2 k2] 26)).alloc (.cells #[.slice A1 m k] 27)).alloc (.cells #[.bool false] 4))) (n := w.heap.size + 1 + 1 + 1 + 1) [.int .i64 0, .int .i64 0, .int .i64 0, .int .i64 0, .int .i64 0, .int .i64 0, .int .i64 0, .int .i64 0, .int .i64 0] 39 (by simp)
  generalize (((((w.alloc (.cells #[.int .i64 p.top, .int .i64 p.bank, .int .i64 p.siphon, .int .i64 p.start, .int .i64 p.positions, .int .i64 p.rate, .int .i64 p.step, .int .i64 p.pass, .int .i64 p.feed, .int .i64 p.pipe, .int .i64 p.orders, .int .i64 p.age] 23)).alloc (.cells #[.slice A2 m2 k2] 26)).alloc (.cells #[.slice A1 m k] 27)).alloc (.cells #[.bool false] 4)).alloc (.cells #[.int .i64 0, .int .i64 0, .int .i64 0, .int .i64 0, .int .i64 0, .int .i64 0, .int .i64 0, .int .i64 0, .int .i64 0] 39)) = w0 at X3 X4 X5 X6 X7 hB ⊢
  obtain ⟨X3c0, X3f0, X3c1, X3f1, X3c2, X3f2, X3c3, X3f3, X3c4, X3f4, X3c5, X3f5, X3c6, X3f6, X3c7, X3f7, X3c8, X3f8, X3c9, X3f9, X3c10, X3f10, X3c11, X3f11⟩ := X3.f12
  have X3z : w.heap.size < w0.heap.size := X3.lt
  have X4c0 : w0.cell? ⟨w.heap.size + 1, 0, none⟩ = some (.slice A2 m2 k2) := X4.cell 0
  have X4f0 : w0.frozen? ⟨w.heap.size + 1, 0, none⟩ = false := X4.free 0
  have X4z : w.heap.size + 1 < w0.heap.size := X4.lt
  go_step3
  go_wp2_with fail
  refine (bOpen_good p c _ _ (Lib.hid (ask_zero h.out).1) (Lib.hid (ask_zero h.out).2) (Lib.hid (hC.out.later hB))).mono ?_
  rintro e w1 ⟨rfl, hb⟩
  have X3 := X3.later hb
  have X4 := X4.later hb
  have X5 := X5.later hb
  have X6 := X6.later hb
  have X7 := X7.later hb
  have hB := hB.trans (hb.mono hB.size)
  clear X3c0 X3c1 X3c2 X3c3 X3c4 X3c5 X3c6 X3c7 X3c8 X3c9 X3c10 X3c11 X3f0 X3f1 X3f2 X3f3 X3f4 X3f5 X3f6 X3f7 X3f8 X3f9 X3f10 X3f11 X3z X4c0 X4f0 X4z
  clear hb
  go_upto_region 2 with fail
  have X9 := Box.new w1 [.int .i64 p.top, .int .i64 p.bank, .int .i64 p.siphon, .int .i64 p.start, .int .i64 p.positions, .int .i64 p.rate, .int .i64 p.step, .int .i64 p.pass, .int .i64 p.feed, .int .i64 p.pipe, .int .i64 p.orders, .int .i64 p.age, .slice A2 m2 k2] 83
  have X3lt := X3.lt
  have X4lt := X4.lt
  have X5lt := X5.lt
  have X6lt := X6.lt
  have X7lt := X7.lt
  have X3 := X3.alloc (.cells #[.int .i64 p.top, .int .i64 p.bank, .int .i64 p.siphon, .int .i64 p.start, .int .i64 p.positions, .int .i64 p.rate, .int .i64 p.step, .int .i64 p.pass, .int .i64 p.feed, .int .i64 p.pipe, .int .i64 p.orders, .int .i64 p.age, .slice A2 m2 k2] 83)
  have X4 := X4.alloc (.cells #[.int .i64 p.top, .int .i64 p.bank, .int .i64 p.siphon, .int .i64 p.start, .int .i64 p.positions, .int .i64 p.rate, .int .i64 p.step, .int .i64 p.pass, .int .i64 p.feed, .int .i64 p.pipe, .int .i64 p.orders, .int .i64 p.age, .slice A2 m2 k2] 83)
  have X5 := X5.alloc (.cells #[.int .i64 p.top, .int .i64 p.bank, .int .i64 p.siphon, .int .i64 p.start, .int .i64 p.positions, .int .i64 p.rate, .int .i64 p.step, .int .i64 p.pass, .int .i64 p.feed, .int .i64 p.pipe, .int .i64 p.orders, .int .i64 p.age, .slice A2 m2 k2] 83)
  have X6 := X6.alloc (.cells #[.int .i64 p.top, .int .i64 p.bank, .int .i64 p.siphon, .int .i64 p.start, .int .i64 p.positions, .int .i64 p.rate, .int .i64 p.step, .int .i64 p.pass, .int .i64 p.feed, .int .i64 p.pipe, .int .i64 p.orders, .int .i64 p.age, .slice A2 m2 k2] 83)
  have X7 := X7.alloc (.cells #[.int .i64 p.top, .int .i64 p.bank, .int .i64 p.siphon, .int .i64 p.start, .int .i64 p.positions, .int .i64 p.rate, .int .i64 p.step, .int .i64 p.pass, .int .i64 p.feed, .int .i64 p.pipe, .int .i64 p.orders, .int .i64 p.age, .slice A2 m2 k2] 83)
  have hB := hB.alloc hB.size (.cells #[.int .i64 p.top, .int .i64 p.bank, .int .i64 p.siphon, .int .i64 p.start, .int .i64 p.positions, .int .i64 p.rate, .int .i64 p.step, .int .i64 p.pass, .int .i64 p.feed, .int .i64 p.pipe, .int .i64 p.orders, .int .i64 p.age, .slice A2 m2 k2] 83)
  generalize hgG : w1.heap.size = G at X9 X3 X3lt X4 X4lt X5 X5lt X6 X6lt X7 X7lt ⊢
  generalize w1.alloc (.cells #[.int .i64 p.top, .int .i64 p.bank, .int .i64 p.siphon, .int .i64 p.start, .int .i64 p.positions, .int .i64 p.rate, .int .i64 p.step, .int .i64 p.pass, .int .i64 p.feed, .int .i64 p.pipe, .int .i64 p.orders, .int .i64 p.age, .slice A2 m2 k2] 83) = w2 at X9 X3 X3lt X4 X4lt X5 X5lt X6 X6lt X7 X7lt hB ⊢
  have _hGH : w.heap.size < G := X3lt
  have _hG1 : w.heap.size + 1 < G := X4lt
  have _hG2 : w.heap.size + 1 + 1 < G := X5lt
  have _hG3 : w.heap.size + 1 + 1 + 1 < G := X6lt
  have _hG4 : w.heap.size + 1 + 1 + 1 + 1 < G := X7lt
  clear X3lt X4lt X5lt X6lt X7lt
  have X5c0 : w2.cell? ⟨w.heap.size + 1 + 1, 0, none⟩ = some (.slice A1 m k) := X5.cell 0
  have X5f0 : w2.frozen? ⟨w.heap.size + 1 + 1, 0, none⟩ = false := X5.free 0
  have X5z : w.heap.size + 1 + 1 < w2.heap.size := X5.lt
  go_wp2_with fail
  refine (bCheck_any b _ _ 0 hb1 ((_hQ.out.below hB).more hB.size)).mono ?_
  rintro e w3 ⟨rfl, hb⟩
  have X3 := X3.later hb
  have X4 := X4.later hb
  have X5 := X5.later hb
  have X6 := X6.later hb
  have X7 := X7.later hb
  have X9 := X9.later hb
  have hB := hB.trans (hb.mono hB.size)
  clear X5c0 X5f0 X5z
  clear hb
  obtain ⟨X3c0, X3f0, X3c1, X3f1, X3c2, X3f2, X3c3, X3f3, X3c4, X3f4, X3c5, X3f5, X3c6, X3f6, X3c7, X3f7, X3c8, X3f8, X3c9, X3f9, X3c10, X3f10, X3c11, X3f11⟩ := X3.f12
  have X3z : w.heap.size < w3.heap.size := X3.lt
  go_wp2_with fail
  have hBE := Lib.hid (congrArg Prod.fst hbe.out)
  dsimp only at hBE
  refine (begin_is hbe).mono ?_
  rintro e w4 ⟨rfl, hb⟩
  have X3 := X3.later hb
  have X4 := X4.later hb
  have X5 := X5.later hb
  have X6 := X6.later hb
  have X7 := X7.later hb
  have X9 := X9.later hb
  have hB := hB.trans (hb.mono hB.size)
  clear X3c0 X3c1 X3c2 X3c3 X3c4 X3c5 X3c6 X3c7 X3c8 X3c9 X3c10 X3c11 X3f0 X3f1 X3f2 X3f3 X3f4 X3f5 X3f6 X3f7 X3f8 X3f9 X3f10 X3f11 X3z
  clear hb
  go_upto_region 8 with fail
  have X10 := Box.new w4 [.int .i64 b0, .int .i64 b1, .int .i64 b2, .int .i64 b3, .int .i64 b4, .int .i64 b5] 30
  have X3lt := X3.lt
  have X4lt := X4.lt
  have X5lt := X5.lt
  have X6lt := X6.lt
  have X7lt := X7.lt
  have X9lt := X9.lt
  have X3 := X3.alloc (.cells #[.int .i64 b0, .int .i64 b1, .int .i64 b2, .int .i64 b3, .int .i64 b4, .int .i64 b5] 30)
  have X4 := X4.alloc (.cells #[.int .i64 b0, .int .i64 b1, .int .i64 b2, .int .i64 b3, .int .i64 b4, .int .i64 b5] 30)
  have X5 := X5.alloc (.cells #[.int .i64 b0, .int .i64 b1, .int .i64 b2, .int .i64 b3, .int .i64 b4, .int .i64 b5] 30)
  have X6 := X6.alloc (.cells #[.int .i64 b0, .int .i64 b1, .int .i64 b2, .int .i64 b3, .int .i64 b4, .int .i64 b5] 30)
  have X7 := X7.alloc (.cells #[.int .i64 b0, .int .i64 b1, .int .i64 b2, .int .i64 b3, .int .i64 b4, .int .i64 b5] 30)
  have X9 := X9.alloc (.cells #[.int .i64 b0, .int .i64 b1, .int .i64 b2, .int .i64 b3, .int .i64 b4, .int .i64 b5] 30)
  have hB := hB.alloc hB.size (.cells #[.int .i64 b0, .int .i64 b1, .int .i64 b2, .int .i64 b3, .int .i64 b4, .int .i64 b5] 30)
  generalize hgE : w4.heap.size = E at X10 X3 X3lt X4 X4lt X5 X5lt X6 X6lt X7 X7lt X9 X9lt ⊢
  generalize w4.alloc (.cells #[.int .i64 b0, .int .i64 b1, .int .i64 b2, .int .i64 b3, .int .i64 b4, .int .i64 b5] 30) = w5 at X10 X3 X3lt X4 X4lt X5 X5lt X6 X6lt X7 X7lt X9 X9lt hB ⊢
  have _hEH : w.heap.size < E := X3lt
  have _hE1 : w.heap.size + 1 < E := X4lt
  have _hE2 : w.heap.size + 1 + 1 < E := X5lt
  have _hE3 : w.heap.size + 1 + 1 + 1 < E := X6lt
  have _hE4 : w.heap.size + 1 + 1 + 1 + 1 < E := X7lt
  clear X3lt X4lt X5lt X6lt X7lt X9lt
  have X5c0 : w5.cell? ⟨w.heap.size + 1 + 1, 0, none⟩ = some (.slice A1 m k) := X5.cell 0
  have X5f0 : w5.frozen? ⟨w.heap.size + 1 + 1, 0, none⟩ = false := X5.free 0
  have X5z : w.heap.size + 1 + 1 < w5.heap.size := X5.lt
  obtain ⟨X10c0, X10f0, X10c1, X10f1, X10c2, X10f2, X10c3, X10f3, X10c4, X10f4, X10c5, X10f5⟩ := X10.f6
  have X10z : E < w5.heap.size := X10.lt
  go_wp2_with fail
  refine (bIn_any b ⟨b0, b1, b2, b3, b4, b5⟩ _ _ true (by rw [← hBE.out]; exact hin) ((_hQ.out.below hB).more hB.size) (Lib.hid (barT_ok hb1.out)) (by rw [← hBE.out]; exact begin_nums (ask_zero h.out).1)).mono ?_
  rintro e w6 ⟨rfl, hb⟩
  have X3 := X3.later hb
  have X4 := X4.later hb
  have X5 := X5.later hb
  have X6 := X6.later hb
  have X7 := X7.later hb
  have X9 := X9.later hb
  have X10 := X10.later hb
  have hB := hB.trans (hb.mono hB.size)
  clear X5c0 X5f0 X5z X10c0 X10c1 X10c2 X10c3 X10c4 X10c5 X10f0 X10f1 X10f2 X10f3 X10f4 X10f5 X10z
  clear hb
  have X6c0 : w6.cell? ⟨w.heap.size + 1 + 1 + 1, 0, none⟩ = some (.bool false) := X6.cell 0
  have X6f0 : w6.frozen? ⟨w.heap.size + 1 + 1 + 1, 0, none⟩ = false := X6.free 0
  have X6z : w.heap.size + 1 + 1 + 1 < w6.heap.size := X6.lt
  go_upto_region 11 with fail
  have X6 := X6.set 0 (.bool true)
  have X3 := X3.other (a := ⟨w.heap.size + 1 + 1 + 1, 0, none⟩) (by simp <;> omega) (.bool true)
  have X4 := X4.other (a := ⟨w.heap.size + 1 + 1 + 1, 0, none⟩) (by simp <;> omega) (.bool true)
  have X5 := X5.other (a := ⟨w.heap.size + 1 + 1 + 1, 0, none⟩) (by simp <;> omega) (.bool true)
  have X7 := X7.other (a := ⟨w.heap.size + 1 + 1 + 1, 0, none⟩) (by simp <;> omega) (.bool true)
  have X9 := X9.other (a := ⟨w.heap.size + 1 + 1 + 1, 0, none⟩) (by simp <;> omega) (.bool true)
  have X10 := X10.other (a := ⟨w.heap.size + 1 + 1 + 1, 0, none⟩) (by simp <;> omega) (.bool true)
  have hB := (hB.setCell (p := ⟨w.heap.size + 1 + 1 + 1, 0, none⟩) (by simp <;> omega) (.bool true))
  clear X6c0 X6f0 X6z
  generalize (w6.setCell ⟨w.heap.size + 1 + 1 + 1, 0, none⟩ (.bool true)) = u0 at X3 X4 X5 X6 X7 X9 X10 hB ⊢
  have X9c0 : u0.cell? ⟨G, 0, none⟩ = some (.int .i64 p.top) := X9.cell 0
  have X9f0 : u0.frozen? ⟨G, 0, none⟩ = false := X9.free 0
  have X9c1 : u0.cell? ⟨G, 1, none⟩ = some (.int .i64 p.bank) := X9.cell 1
  have X9f1 : u0.frozen? ⟨G, 1, none⟩ = false := X9.free 1
  have X9c2 : u0.cell? ⟨G, 2, none⟩ = some (.int .i64 p.siphon) := X9.cell 2
  have X9f2 : u0.frozen? ⟨G, 2, none⟩ = false := X9.free 2
  have X9c3 : u0.cell? ⟨G, 3, none⟩ = some (.int .i64 p.start) := X9.cell 3
  have X9f3 : u0.frozen? ⟨G, 3, none⟩ = false := X9.free 3
  have X9c4 : u0.cell? ⟨G, 4, none⟩ = some (.int .i64 p.positions) := X9.cell 4
  have X9f4 : u0.frozen? ⟨G, 4, none⟩ = false := X9.free 4
  have X9c5 : u0.cell? ⟨G, 5, none⟩ = some (.int .i64 p.rate) := X9.cell 5
  have X9f5 : u0.frozen? ⟨G, 5, none⟩ = false := X9.free 5
  have X9c6 : u0.cell? ⟨G, 6, none⟩ = some (.int .i64 p.step) := X9.cell 6
  have X9f6 : u0.frozen? ⟨G, 6, none⟩ = false := X9.free 6
  have X9c7 : u0.cell? ⟨G, 7, none⟩ = some (.int .i64 p.pass) := X9.cell 7
  have X9f7 : u0.frozen? ⟨G, 7, none⟩ = false := X9.free 7
  have X9c8 : u0.cell? ⟨G, 8, none⟩ = some (.int .i64 p.feed) := X9.cell 8
  have X9f8 : u0.frozen? ⟨G, 8, none⟩ = false := X9.free 8
  have X9c9 : u0.cell? ⟨G, 9, none⟩ = some (.int .i64 p.pipe) := X9.cell 9
  have X9f9 : u0.frozen? ⟨G, 9, none⟩ = false := X9.free 9
  have X9c10 : u0.cell? ⟨G, 10, none⟩ = some (.int .i64 p.orders) := X9.cell 10
  have X9f10 : u0.frozen? ⟨G, 10, none⟩ = false := X9.free 10
  have X9c11 : u0.cell? ⟨G, 11, none⟩ = some (.int .i64 p.age) := X9.cell 11
  have X9f11 : u0.frozen? ⟨G, 11, none⟩ = false := X9.free 11
  have X9c12 : u0.cell? ⟨G, 12, none⟩ = some (.slice A2 m2 k2) := X9.cell 12
  have X9f12 : u0.frozen? ⟨G, 12, none⟩ = false := X9.free 12
  have X9z : G < u0.heap.size := X9.lt
  go_wp2_with fail
  go_step3
  go_wp2_with fail
  have hu4 := X7.lt
  refine (bStates_any p _ _ hv.out.pipe).mono ?_
  rintro e w10 ⟨rfl, hM, hb⟩
  have X3 := X3.later hb
  have X4 := X4.later hb
  have X5 := X5.later hb
  have X6 := X6.later hb
  have X7 := X7.later hb
  have X9 := X9.later hb
  have X10 := X10.later hb
  have hB := hB.trans (hb.mono hB.size)
  clear X9c0 X9c1 X9c2 X9c3 X9c4 X9c5 X9c6 X9c7 X9c8 X9c9 X9c10 X9c11 X9c12 X9f0 X9f1 X9f2 X9f3 X9f4 X9f5 X9f6 X9f7 X9f8 X9f9 X9f10 X9f11 X9f12 X9z
  clear hb
  go_wp2_with fail
  have hz4 := X7.lt
  have hzG := X9.lt
  have hL0 : Lp w G p (.slice A1 m k) (.slice A2 m2 k2) w10 := ⟨hB, X5, X9, X6, X7⟩
  have hRm : ¬ okR w (u0.heap.size + 1) := by unfold okR; omega
  have hRG : ¬ okR w G := by unfold okR; omega
  clear X3 X4 X5 X6 X7 X9 X10 hB hBE hbe
  generalize u0.heap.size + 1 = Bm at hM hRm ⊢
  have hPost : ∀ (l : List St), (∀ s ∈ l, flawAt p c b s = none) → ∀ s, flawAt p c b s = none → ∀ y ∈ l ++ [s], flawAt p c b y = none := by
    intro l h1 s h2 y hy
    rcases List.mem_append.1 hy with h | h
    · exact h1 y h
    · rw [List.mem_singleton.1 h]; exact h2
  have HPost := Lib.hid hPost
  clear hPost
  refine wpIn_wide.1 (wpIn_range_out (n := 6) rfl (by omega) (gf := 66) (lb := #[.pointer (some ⟨Bm, 0, none⟩)]) rfl trivial (enters_of Try.func66 (by kernel_rfl) rfl)
    (states_seq 5 p hv Bm w10 w.heap.size (okR w) hM hRm (Lib.hid (fun b hb => by rcases hb with rfl | rfl <;> omega))) (Below.refl _ _) (by omega) (fun _ => rfl)
    (fun pre W => w10.heap.size ≤ W.heap.size ∧ Lp w G p (.slice A1 m k) (.slice A2 m2 k2) W ∧ Hid (∀ s ∈ pre, flawAt p c b s = none))
    (fun cc pre W => cc = .exit 0 ∧ Below w.heap.size w W ∧ Box W (w.heap.size + 1 + 1 + 1) [.bool false] ∧ ∃ (pre' : List St) (x : St) (f' : Fw), pre = pre' ++ [x] ∧ Hid (∀ s ∈ pre', flawAt p c b s = none) ∧ Hid (flawAt p c b x = some f') ∧ Box W (w.heap.size + 1 + 1 + 1 + 1) f'.cells)
    ?hI ?hIx ?h0
    (fun pre x a' W => ∃ B12, w10.heap.size ≤ B12 ∧ Box W B12 x.cells ∧ Lp w G p (.slice A1 m k) (.slice A2 m2 k2) W ∧ Hid (∀ s ∈ pre, flawAt p c b s = none) ∧ Hid (pre ++ [x] <+: p.states) ∧ a' = { tmps := #[p.v, .agg #[.slice A2 m2 k2], .slice A1 m k, .pointer (some ⟨w.heap.size, 0, none⟩), .pointer (some ⟨w.heap.size + 1, 0, none⟩), .pointer (some ⟨w.heap.size + 1 + 1, 0, none⟩), .pointer (some ⟨w.heap.size + 1 + 1 + 1, 0, none⟩), .pointer (some ⟨w.heap.size + 1 + 1 + 1 + 1, 0, none⟩), .int .i64 0, .pointer (some ⟨G, 0, none⟩), .pointer (some ⟨E, 0, none⟩), .int .i64 be, .pointer (some ⟨B12, 0, none⟩), undef, undef, .tuple #[gmV p (.slice A2 m2 k2), .int .i64 0], .agg #[.int .i64 p.top, .int .i64 p.bank, .int .i64 p.siphon, .int .i64 p.start, .int .i64 p.positions, .int .i64 p.rate, .int .i64 p.step, .int .i64 p.pass, .int .i64 p.feed, .int .i64 p.pipe, .int .i64 p.orders, .int .i64 p.age], .agg #[.slice A2 m2 k2], .tuple #[gmV p (.slice A2 m2 k2), .int .i64 0], gmV p (.slice A2 m2 k2), .int .i64 0, .int .i64 0, .bool false, undef, undef, .slice A1 m k, .int .i64 0, .int .i64 0, .bool false, undef, undef, .tuple #[.agg #[.int .i64 b0, .int .i64 b1, .int .i64 b2, .int .i64 b3, .int .i64 b4, .int .i64 b5], .int .i64 be], .agg #[.int .i64 p.top, .int .i64 p.bank, .int .i64 p.siphon, .int .i64 p.start, .int .i64 p.positions, .int .i64 p.rate, .int .i64 p.step, .int .i64 p.pass, .int .i64 p.feed, .int .i64 p.pipe, .int .i64 p.orders, .int .i64 p.age], .tuple #[.agg #[.int .i64 b0, .int .i64 b1, .int .i64 b2, .int .i64 b3, .int .i64 b4, .int .i64 b5], .int .i64 be], .agg #[.int .i64 b0, .int .i64 b1, .int .i64 b2, .int .i64 b3, .int .i64 b4, .int .i64 b5], .int .i64 be, .slice A1 m k, .agg #[.int .i64 b0, .int .i64 b1, .int .i64 b2, .int .i64 b3, .int .i64 b4, .int .i64 b5], .bool true, .bool false, undef, undef, gmV p (.slice A2 m2 k2), .func (.func 66) #[] #[.pointer (some ⟨Bm, 0, none⟩)], .agg #[.int .i64 x.level, .int .i64 x.position, .int .i64 x.p0, .int .i64 x.p1, .int .i64 x.order, .int .i64 x.age], undef, undef, undef, undef, undef, undef, undef, undef, undef, undef, undef, undef, undef, undef, undef, undef, undef, undef, undef, undef, undef, undef, undef, undef], defers := [] })
    ?hAx ?assign ?body ?done ?stop)
  case hI => exact fun pre A B h hb => ⟨Nat.le_trans h.1 hb.size, h.2.1.under hb hz4 hzG, h.2.2⟩
  case hIx =>
    rintro cc pre A B ⟨rfl, h1, h2, pre', x, f', h3, h4, h5, h6⟩ hb
    exact ⟨rfl, h1.trans (hb.mono (by omega)), h2.under hb (by omega), pre', x, f', h3, h4, h5, h6.under hb hz4⟩
  case h0 => exact ⟨Nat.le_refl _, hL0, Lib.hid (fun s hs => by cases hs)⟩
  case hAx =>
    rintro pre x a' A l o o' hl ho hc ⟨B12, h1, h2, h3, h4, h5, rfl⟩
    exact ⟨B12, h1, h2.record ho hc _, h3.record ho hc (by omega) _, h4, h5, rfl⟩
  case assign =>
    rintro l pre x W K ⟨h0, h1, h2⟩ hT hK
    have hs := h1.low.size
    have hwz := h1.flaw.lt
    have hgz := h1.game.lt
    obtain ⟨x0, x1, x2, x3, x4, x5⟩ := x
    gi_wp2
    have hb := (Below.refl W.heap.size W).alloc (Nat.le_refl _) (.cells #[.int .i64 x0, .int .i64 x1, .int .i64 x2, .int .i64 x3, .int .i64 x4, .int .i64 x5] 30)
    exact hK _ _ (kfOf hb) (KeepsC.of hb hs) ⟨W.heap.size, h0, Box.new W [.int .i64 x0, .int .i64 x1, .int .i64 x2, .int .i64 x3, .int .i64 x4, .int .i64 x5] 30, h1.under hb hwz hgz, h2, Lib.hid hT, rfl⟩
  case body =>
    rintro l pre x a' W hl ⟨r0, hr0⟩ ⟨B12, hB12, bX, hL, hN, hT1, rfl⟩
    have hxs := Lib.hid (pre_mem hT1.out)
    have hxn := states_nums hv.out hxs.out
    obtain ⟨x0, x1, x2, x3, x4, x5⟩ := x
    have hwz := hL.flaw.lt
    have hgz := hL.game.lt
    have hxz := bX.lt
    have hR12 : ¬ okR w B12 := by unfold okR; omega
    have hlt0 : l < W.heap.size := (Array.getElem?_eq_some_iff.1 hr0).1
    have bU := hL.bar
    have bUc0 : W.cell? ⟨w.heap.size + 1 + 1, 0, none⟩ = some (.slice A1 m k) := bU.cell 0
    obtain ⟨bXc0, bXc1, bXc2, bXc3, bXc4, bXc5⟩ := bX.c6
    obtain ⟨ti, hti⟩ : ∃ ti, inB b ⟨x0, x1, x2, x3, x4, x5⟩ = ti := ⟨_, rfl⟩
    have HTI := Lib.hid hti
    clear hti
    gi_wp2_with fail
    refine ⟨trivial, ?_⟩
    refine (callsIn_wide.2 (bIn_any b ⟨x0, x1, x2, x3, x4, x5⟩ _ _ ti HTI ((_hQ.out.below hL.low).more hL.low.size) (Lib.hid (barT_ok hb1.out)) hxn)).mono ?_
    rintro e W1 ⟨rfl, hb1'⟩
    clear bUc0 bXc0 bXc1 bXc2 bXc3 bXc4 bXc5 bU
    have hL1 := hL.under hb1' hwz hgz
    have bX1 := bX.under hb1' hxz
    cases ti with
    | false =>
      have hpn := HPost.out pre hN.out _ (flaw_out (p := p) (c := c) HTI.out)
      gi_wp2
      exact ⟨kfOf hb1', KeepsC.of hb1' hL.low.size, by have := hb1'.size; omega, hL1, Lib.hid hpn⟩
    | true =>
      have hgz1 := hL1.game.lt
      have hxz1 := bX1.lt
      have bG := hL1.game
      have bGc0 : W1.cell? ⟨G, 0, none⟩ = some (.int .i64 p.top) := bG.cell 0
      have bGc1 : W1.cell? ⟨G, 1, none⟩ = some (.int .i64 p.bank) := bG.cell 1
      have bGc2 : W1.cell? ⟨G, 2, none⟩ = some (.int .i64 p.siphon) := bG.cell 2
      have bGc3 : W1.cell? ⟨G, 3, none⟩ = some (.int .i64 p.start) := bG.cell 3
      have bGc4 : W1.cell? ⟨G, 4, none⟩ = some (.int .i64 p.positions) := bG.cell 4
      have bGc5 : W1.cell? ⟨G, 5, none⟩ = some (.int .i64 p.rate) := bG.cell 5
      have bGc6 : W1.cell? ⟨G, 6, none⟩ = some (.int .i64 p.step) := bG.cell 6
      have bGc7 : W1.cell? ⟨G, 7, none⟩ = some (.int .i64 p.pass) := bG.cell 7
      have bGc8 : W1.cell? ⟨G, 8, none⟩ = some (.int .i64 p.feed) := bG.cell 8
      have bGc9 : W1.cell? ⟨G, 9, none⟩ = some (.int .i64 p.pipe) := bG.cell 9
      have bGc10 : W1.cell? ⟨G, 10, none⟩ = some (.int .i64 p.orders) := bG.cell 10
      have bGc11 : W1.cell? ⟨G, 11, none⟩ = some (.int .i64 p.age) := bG.cell 11
      have bGc12 : W1.cell? ⟨G, 12, none⟩ = some (.slice A2 m2 k2) := bG.cell 12
      obtain ⟨bX1c0, bX1c1, bX1c2, bX1c3, bX1c4, bX1c5⟩ := bX1.c6
      obtain ⟨q, er, hs⟩ : ∃ q er, Hid (p.safeT ⟨x0, x1, x2, x3, x4, x5⟩ = (q, er)) := ⟨_, _, rfl⟩
      gi_wp2_with fail
      refine ⟨trivial, ?_⟩
      refine (callsIn_wide.2 (bSafe_is (p := p) (V := .slice A2 m2 k2) (s := ⟨x0, x1, x2, x3, x4, x5⟩) hs)).mono ?_
      rintro e W2 ⟨rfl, hb2⟩
      have hb2 := hb1'.trans (hb2.mono hb1'.size)
      clear bGc0 bGc1 bGc2 bGc3 bGc4 bGc5 bGc6 bGc7 bGc8 bGc9 bGc10 bGc11 bGc12 bX1c0 bX1c1 bX1c2 bX1c3 bX1c4 bX1c5 bG hL1 bX1 hgz1 hxz1 hb1'
      have hL2 := hL.under hb2 hwz hgz
      have bX2 := bX.under hb2 hxz
      have hwz2 := hL2.flaw.lt
      have hgz2 := hL2.game.lt
      have hxz2 := bX2.lt
      have hsb : Hid (p.safeB ⟨x0, x1, x2, x3, x4, x5⟩ = q) := Lib.hid (congrArg Prod.fst hs.out)
      cases q with
      | false =>
        have bO := hL2.ok
        have bF := hL2.flaw
        obtain ⟨bX2c0, bX2c1, bX2c2, bX2c3, bX2c4, bX2c5⟩ := bX2.c6
        have bOc0 : W2.cell? ⟨w.heap.size + 1 + 1 + 1, 0, none⟩ = some (.bool true) := bO.cell 0
        have bOf0 : W2.frozen? ⟨w.heap.size + 1 + 1 + 1, 0, none⟩ = false := bO.free 0
        have bOz : w.heap.size + 1 + 1 + 1 < W2.heap.size := bO.lt
        obtain ⟨bFc0, bFf0, bFc1, bFf1, bFc2, bFf2, bFc3, bFf3, bFc4, bFf4, bFc5, bFf5, bFc6, bFf6, bFc7, bFf7, bFc8, bFf8⟩ := bF.f9
        have bFz : w.heap.size + 1 + 1 + 1 + 1 < W2.heap.size := bF.lt
        gi_wp2
        gi_region
        all_goals
          have Z6 := bO.set 0 (.bool false)
          have Z7 := (bF.other (a := ⟨w.heap.size + 1 + 1 + 1, 0, none⟩) (by simp <;> omega) (.bool false))
          have Z7 := (((((((((Z7.set 0 (.int .i64 2)).set 1 (.int .i64 x0)).set 2 (.int .i64 x1)).set 3 (.int .i64 x2)).set 4 (.int .i64 x3)).set 5 (.int .i64 x4)).set 6 (.int .i64 x5)).set 7 (.int .i64 0)).set 8 (.int .i64 0))
          have Z6 := (((((((((Z6.other (a := ⟨w.heap.size + 1 + 1 + 1 + 1, 0, none⟩) (by simp <;> omega) (.int .i64 2)).other (a := ⟨w.heap.size + 1 + 1 + 1 + 1, 1, none⟩) (by simp <;> omega) (.int .i64 x0)).other (a := ⟨w.heap.size + 1 + 1 + 1 + 1, 2, none⟩) (by simp <;> omega) (.int .i64 x1)).other (a := ⟨w.heap.size + 1 + 1 + 1 + 1, 3, none⟩) (by simp <;> omega) (.int .i64 x2)).other (a := ⟨w.heap.size + 1 + 1 + 1 + 1, 4, none⟩) (by simp <;> omega) (.int .i64 x3)).other (a := ⟨w.heap.size + 1 + 1 + 1 + 1, 5, none⟩) (by simp <;> omega) (.int .i64 x4)).other (a := ⟨w.heap.size + 1 + 1 + 1 + 1, 6, none⟩) (by simp <;> omega) (.int .i64 x5)).other (a := ⟨w.heap.size + 1 + 1 + 1 + 1, 7, none⟩) (by simp <;> omega) (.int .i64 0)).other (a := ⟨w.heap.size + 1 + 1 + 1 + 1, 8, none⟩) (by simp <;> omega) (.int .i64 0))
          have hB3 := hL2.low
          have hB3 := (hB3.setCell (p := ⟨w.heap.size + 1 + 1 + 1, 0, none⟩) (by simp <;> omega) (.bool false))
          have hB3 := (((((((((hB3.setCell (p := ⟨w.heap.size + 1 + 1 + 1 + 1, 0, none⟩) (by simp <;> omega) (.int .i64 2)).setCell (p := ⟨w.heap.size + 1 + 1 + 1 + 1, 1, none⟩) (by simp <;> omega) (.int .i64 x0)).setCell (p := ⟨w.heap.size + 1 + 1 + 1 + 1, 2, none⟩) (by simp <;> omega) (.int .i64 x1)).setCell (p := ⟨w.heap.size + 1 + 1 + 1 + 1, 3, none⟩) (by simp <;> omega) (.int .i64 x2)).setCell (p := ⟨w.heap.size + 1 + 1 + 1 + 1, 4, none⟩) (by simp <;> omega) (.int .i64 x3)).setCell (p := ⟨w.heap.size + 1 + 1 + 1 + 1, 5, none⟩) (by simp <;> omega) (.int .i64 x4)).setCell (p := ⟨w.heap.size + 1 + 1 + 1 + 1, 6, none⟩) (by simp <;> omega) (.int .i64 x5)).setCell (p := ⟨w.heap.size + 1 + 1 + 1 + 1, 7, none⟩) (by simp <;> omega) (.int .i64 0)).setCell (p := ⟨w.heap.size + 1 + 1 + 1 + 1, 8, none⟩) (by simp <;> omega) (.int .i64 0))
          have hKF := (kfOf (D := w10.heap.size) hb2).trans (kfCell (D := w10.heap.size) (A := W2) (a := ⟨w.heap.size + 1 + 1 + 1, 0, none⟩) (by dsimp only; omega) (.bool false))
          have hKF := hKF.trans (kfCell (D := w10.heap.size) (a := ⟨w.heap.size + 1 + 1 + 1 + 1, 0, none⟩) (by dsimp only; omega) (.int .i64 2))
          have hKF := hKF.trans (kfCell (D := w10.heap.size) (a := ⟨w.heap.size + 1 + 1 + 1 + 1, 1, none⟩) (by dsimp only; omega) (.int .i64 x0))
          have hKF := hKF.trans (kfCell (D := w10.heap.size) (a := ⟨w.heap.size + 1 + 1 + 1 + 1, 2, none⟩) (by dsimp only; omega) (.int .i64 x1))
          have hKF := hKF.trans (kfCell (D := w10.heap.size) (a := ⟨w.heap.size + 1 + 1 + 1 + 1, 3, none⟩) (by dsimp only; omega) (.int .i64 x2))
          have hKF := hKF.trans (kfCell (D := w10.heap.size) (a := ⟨w.heap.size + 1 + 1 + 1 + 1, 4, none⟩) (by dsimp only; omega) (.int .i64 x3))
          have hKF := hKF.trans (kfCell (D := w10.heap.size) (a := ⟨w.heap.size + 1 + 1 + 1 + 1, 5, none⟩) (by dsimp only; omega) (.int .i64 x4))
          have hKF := hKF.trans (kfCell (D := w10.heap.size) (a := ⟨w.heap.size + 1 + 1 + 1 + 1, 6, none⟩) (by dsimp only; omega) (.int .i64 x5))
          have hKF := hKF.trans (kfCell (D := w10.heap.size) (a := ⟨w.heap.size + 1 + 1 + 1 + 1, 7, none⟩) (by dsimp only; omega) (.int .i64 0))
          have hKF := hKF.trans (kfCell (D := w10.heap.size) (a := ⟨w.heap.size + 1 + 1 + 1 + 1, 8, none⟩) (by dsimp only; omega) (.int .i64 0))
          generalize ((((((((((W2.setCell ⟨w.heap.size + 1 + 1 + 1, 0, none⟩ (.bool false)).setCell ⟨w.heap.size + 1 + 1 + 1 + 1, 0, none⟩ (.int .i64 2)).setCell ⟨w.heap.size + 1 + 1 + 1 + 1, 1, none⟩ (.int .i64 x0)).setCell ⟨w.heap.size + 1 + 1 + 1 + 1, 2, none⟩ (.int .i64 x1)).setCell ⟨w.heap.size + 1 + 1 + 1 + 1, 3, none⟩ (.int .i64 x2)).setCell ⟨w.heap.size + 1 + 1 + 1 + 1, 4, none⟩ (.int .i64 x3)).setCell ⟨w.heap.size + 1 + 1 + 1 + 1, 5, none⟩ (.int .i64 x4)).setCell ⟨w.heap.size + 1 + 1 + 1 + 1, 6, none⟩ (.int .i64 x5)).setCell ⟨w.heap.size + 1 + 1 + 1 + 1, 7, none⟩ (.int .i64 0)).setCell ⟨w.heap.size + 1 + 1 + 1 + 1, 8, none⟩ (.int .i64 0)) = W9 at Z6 Z7 hB3 hKF ⊢
          gi_wp2
          exact ⟨⟨hKF.size, hKF.same⟩, rfl, hB3.drew, Z6.drew, pre, _, ⟨2, ⟨x0, x1, x2, x3, x4, x5⟩, Sh.zero⟩, rfl, hN, Lib.hid (flaw_unsafe HTI.out hsb.out), Z7.drew⟩
      | true =>
        have bG := hL2.game
        have bGc0 : W2.cell? ⟨G, 0, none⟩ = some (.int .i64 p.top) := bG.cell 0
        have bGc1 : W2.cell? ⟨G, 1, none⟩ = some (.int .i64 p.bank) := bG.cell 1
        have bGc2 : W2.cell? ⟨G, 2, none⟩ = some (.int .i64 p.siphon) := bG.cell 2
        have bGc3 : W2.cell? ⟨G, 3, none⟩ = some (.int .i64 p.start) := bG.cell 3
        have bGc4 : W2.cell? ⟨G, 4, none⟩ = some (.int .i64 p.positions) := bG.cell 4
        have bGc5 : W2.cell? ⟨G, 5, none⟩ = some (.int .i64 p.rate) := bG.cell 5
        have bGc6 : W2.cell? ⟨G, 6, none⟩ = some (.int .i64 p.step) := bG.cell 6
        have bGc7 : W2.cell? ⟨G, 7, none⟩ = some (.int .i64 p.pass) := bG.cell 7
        have bGc8 : W2.cell? ⟨G, 8, none⟩ = some (.int .i64 p.feed) := bG.cell 8
        have bGc9 : W2.cell? ⟨G, 9, none⟩ = some (.int .i64 p.pipe) := bG.cell 9
        have bGc10 : W2.cell? ⟨G, 10, none⟩ = some (.int .i64 p.orders) := bG.cell 10
        have bGc11 : W2.cell? ⟨G, 11, none⟩ = some (.int .i64 p.age) := bG.cell 11
        have bGc12 : W2.cell? ⟨G, 12, none⟩ = some (.slice A2 m2 k2) := bG.cell 12
        obtain ⟨bX2c0, bX2c1, bX2c2, bX2c3, bX2c4, bX2c5⟩ := bX2.c6
        gi_wp2_with fail
        refine ⟨trivial, ?_⟩
        refine (callsIn_wide.2 (bNext_any p (.slice A2 m2 k2) ⟨x0, x1, x2, x3, x4, x5⟩ _)).mono ?_
        rintro e W3 ⟨rfl, hGg, hGs, hb3⟩
        have hb3 := hb2.trans (hb3.mono hb2.size)
        clear bGc0 bGc1 bGc2 bGc3 bGc4 bGc5 bGc6 bGc7 bGc8 bGc9 bGc10 bGc11 bGc12 bX2c0 bX2c1 bX2c2 bX2c3 bX2c4 bX2c5 bG hgz2 hxz2 bX2 hL2
        have hW23 := hb2.size
        have hL3 := hL.under hb3 hwz hgz
        have bX3 := bX.under hb3 hxz
        have hwz3 := hL3.flaw.lt
        have hgz3 := hL3.game.lt
        have hxz3 := bX3.lt
        have hs3 := hb3.size
        have hKF3 : KeepsFrom w10.heap.size W W3 := kfOf hb3
        have hKC3 : KeepsC w.heap.size (okR w) W W3 := KeepsC.of hb3 hL.low.size
        have hr3 := (hb3.block l hlt0).trans hr0
        have hsz3 := hL3.low.size
        have hDg1 : ¬ okR w W2.heap.size := by unfold okR; omega
        have hDg2 : ¬ okR w (W2.heap.size + 1) := by unfold okR; omega
        have HSB := hsb
        generalize W2.heap.size = Dg at hGg hGs hDg1 hDg2 ⊢
        gi_wp2_with fail
        refine (wpIn_range_in (F := Fence.wide.inRound l) (n := 4) (l₀ := l) rfl hr3 (by omega) (gf := 67) (lb := #[.pointer (some ⟨Dg, 0, none⟩), .pointer (some ⟨Dg + 1, 0, none⟩)]) rfl trivial (enters_of Try.func67 (by kernel_rfl) rfl)
        (next_seq 3 p c (.slice A2 m2 k2) ⟨x0, x1, x2, x3, x4, x5⟩ hv Dg (Dg + 1) W3 w.heap.size (okR w) hsz3 (Lib.hid (hC.out.below hL3.low)) hGg hGs hDg1 hDg2 (Lib.hid (fun b hb => by rcases hb with rfl | rfl <;> omega))) (Below.refl _ _) hsz3 (fun _ => rfl)
        (fun pre2 A => Lp w G p (.slice A1 m k) (.slice A2 m2 k2) A ∧ W3.heap.size ≤ A.heap.size ∧ KeepsFrom w10.heap.size W A ∧ KeepsC w.heap.size (okR w) W A ∧ Box A B12 [.int .i64 x0, .int .i64 x1, .int .i64 x2, .int .i64 x3, .int .i64 x4, .int .i64 x5] ∧ Hid (∀ y ∈ pre2, inB b y.2 = true))
        (fun cc pre2 A => cc = .exit 0 ∧ Below w.heap.size w A ∧ KeepsFrom w10.heap.size W A ∧ Box A (w.heap.size + 1 + 1 + 1) [.bool false] ∧ ∃ f' : Fw, Hid (flawAt p c b ⟨x0, x1, x2, x3, x4, x5⟩ = some f') ∧ Box A (w.heap.size + 1 + 1 + 1 + 1) f'.cells)
        ?hI2 ?hIx2 ?h02
        (fun pre2 y a' A => ∃ B13 B14, W3.heap.size ≤ B13 ∧ W3.heap.size ≤ B14 ∧ Box A B13 [.int .i64 y.1.feed, .int .i64 y.1.msg] ∧ Box A B14 [.int .i64 y.2.level, .int .i64 y.2.position, .int .i64 y.2.p0, .int .i64 y.2.p1, .int .i64 y.2.order, .int .i64 y.2.age] ∧ Lp w G p (.slice A1 m k) (.slice A2 m2 k2) A ∧ KeepsFrom w10.heap.size W A ∧ KeepsC w.heap.size (okR w) W A ∧ Box A B12 [.int .i64 x0, .int .i64 x1, .int .i64 x2, .int .i64 x3, .int .i64 x4, .int .i64 x5] ∧ Hid (∀ y ∈ pre2, inB b y.2 = true) ∧ Hid (pre2 ++ [y] <+: p.nexts c ⟨x0, x1, x2, x3, x4, x5⟩ (p.nf * p.nm)) ∧ a' = { tmps := #[p.v, .agg #[.slice A2 m2 k2], .slice A1 m k, .pointer (some ⟨w.heap.size, 0, none⟩), .pointer (some ⟨w.heap.size + 1, 0, none⟩), .pointer (some ⟨w.heap.size + 1 + 1, 0, none⟩), .pointer (some ⟨w.heap.size + 1 + 1 + 1, 0, none⟩), .pointer (some ⟨w.heap.size + 1 + 1 + 1 + 1, 0, none⟩), .int .i64 0, .pointer (some ⟨G, 0, none⟩), .pointer (some ⟨E, 0, none⟩), .int .i64 be, .pointer (some ⟨B12, 0, none⟩), .pointer (some ⟨B13, 0, none⟩), .pointer (some ⟨B14, 0, none⟩), .tuple #[gmV p (.slice A2 m2 k2), .int .i64 0], .agg #[.int .i64 p.top, .int .i64 p.bank, .int .i64 p.siphon, .int .i64 p.start, .int .i64 p.positions, .int .i64 p.rate, .int .i64 p.step, .int .i64 p.pass, .int .i64 p.feed, .int .i64 p.pipe, .int .i64 p.orders, .int .i64 p.age], .agg #[.slice A2 m2 k2], .tuple #[gmV p (.slice A2 m2 k2), .int .i64 0], gmV p (.slice A2 m2 k2), .int .i64 0, .int .i64 0, .bool false, undef, undef, .slice A1 m k, .int .i64 0, .int .i64 0, .bool false, undef, undef, .tuple #[.agg #[.int .i64 b0, .int .i64 b1, .int .i64 b2, .int .i64 b3, .int .i64 b4, .int .i64 b5], .int .i64 be], .agg #[.int .i64 p.top, .int .i64 p.bank, .int .i64 p.siphon, .int .i64 p.start, .int .i64 p.positions, .int .i64 p.rate, .int .i64 p.step, .int .i64 p.pass, .int .i64 p.feed, .int .i64 p.pipe, .int .i64 p.orders, .int .i64 p.age], .tuple #[.agg #[.int .i64 b0, .int .i64 b1, .int .i64 b2, .int .i64 b3, .int .i64 b4, .int .i64 b5], .int .i64 be], .agg #[.int .i64 b0, .int .i64 b1, .int .i64 b2, .int .i64 b3, .int .i64 b4, .int .i64 b5], .int .i64 be, .slice A1 m k, .agg #[.int .i64 b0, .int .i64 b1, .int .i64 b2, .int .i64 b3, .int .i64 b4, .int .i64 b5], .bool true, .bool false, undef, undef, gmV p (.slice A2 m2 k2), .func (.func 66) #[] #[.pointer (some ⟨Bm, 0, none⟩)], .agg #[.int .i64 x0, .int .i64 x1, .int .i64 x2, .int .i64 x3, .int .i64 x4, .int .i64 x5], .slice A1 m k, .agg #[.int .i64 x0, .int .i64 x1, .int .i64 x2, .int .i64 x3, .int .i64 x4, .int .i64 x5], .bool true, .bool false, gmV p (.slice A2 m2 k2), .agg #[.int .i64 x0, .int .i64 x1, .int .i64 x2, .int .i64 x3, .int .i64 x4, .int .i64 x5], .bool true, .bool false, undef, undef, gmV p (.slice A2 m2 k2), .agg #[.int .i64 x0, .int .i64 x1, .int .i64 x2, .int .i64 x3, .int .i64 x4, .int .i64 x5], .func (.func 67) #[] #[.pointer (some ⟨Dg, 0, none⟩), .pointer (some ⟨Dg + 1, 0, none⟩)], .agg #[.int .i64 y.1.feed, .int .i64 y.1.msg], .agg #[.int .i64 y.2.level, .int .i64 y.2.position, .int .i64 y.2.p0, .int .i64 y.2.p1, .int .i64 y.2.order, .int .i64 y.2.age], undef, undef, undef, undef, undef, undef, undef, undef, undef], defers := [] })
        ?hAx2 ?assign2 ?body2 ?done2 ?stop2)
        case hI2 => exact fun pre2 A B h hb => ⟨h.1.under hb hwz3 hgz3, Nat.le_trans h.2.1 hb.size, kfUnder h.2.2.1 hb hs3, h.2.2.2.1.under hb hs3 hsz3, h.2.2.2.2.1.under hb hxz3, h.2.2.2.2.2⟩
        case hIx2 =>
          rintro cc pre2 A B ⟨rfl, h1, h2, h3, f', h5, h6⟩ hb
          exact ⟨rfl, h1.trans (hb.mono hsz3), kfUnder h2 hb hs3, h3.under hb (by omega), f', h5, h6.under hb hwz3⟩
        case h02 => exact ⟨hL3, Nat.le_refl _, hKF3, hKC3, bX3, Lib.hid (fun y hy => by cases hy)⟩
        case hAx2 =>
          rintro pre2 y a' A l2 o o' hl2 ho hc2 ⟨B13, B14, h1, h2, h3, h4, h5, h6, h7, h8, h9, h10, rfl⟩
          exact ⟨B13, B14, h1, h2, h3.record ho hc2 _, h4.record ho hc2 _, h5.record ho hc2 (by omega) _, kfUnder h6 (below_put3 (n := W3.heap.size) hl2 _) hs3, h7.under (below_put3 (n := W3.heap.size) hl2 _) hs3 hsz3, h8.record ho hc2 _, h9, h10, rfl⟩
        case assign2 =>
          rintro l2 pre2 y A K ⟨h1, h2, h3, h4, h5, h6⟩ hT2 hK
          have hs := h1.low.size
          have hwzA := h1.flaw.lt
          have hgzA := h1.game.lt
          have hxzA := h5.lt
          have hsA := Nat.le_trans hs3 h2
          obtain ⟨⟨f0, f1⟩, y0, y1, y2, y3, y4, y5⟩ := y
          gi_wp2
          have hbs := (Below.refl A.heap.size A).alloc (Nat.le_refl _) (.cells #[.int .i64 f0, .int .i64 f1] 37)
          have hbt := hbs.alloc hbs.size (.cells #[.int .i64 y0, .int .i64 y1, .int .i64 y2, .int .i64 y3, .int .i64 y4, .int .i64 y5] 30)
          refine hK _ _ (kfOf hbt) (KeepsC.of hbt hs) ⟨A.heap.size, A.heap.size + 1, h2, by omega, (Box.new A [.int .i64 f0, .int .i64 f1] 37).alloc _, Box.newAt [.int .i64 y0, .int .i64 y1, .int .i64 y2, .int .i64 y3, .int .i64 y4, .int .i64 y5] 30 (by simp), h1.under hbt hwzA hgzA, kfUnder h3 hbt hsA, h4.under hbt hsA hs, h5.under hbt hxzA, h6, Lib.hid hT2, rfl⟩
        case body2 =>
          rintro l2 pre2 y a' Aa hl2 ⟨r2, hr2⟩ ⟨B13, B14, h13, h14, bS, bY, hLA, hKFA, hKCA, bXA, hNA, hTA, rfl⟩
          have hyn := nexts_nums h.out hxs.out (pre_mem hTA.out)
          obtain ⟨⟨f0, f1⟩, y0, y1, y2, y3, y4, y5⟩ := y
          have hwzA := hLA.flaw.lt
          have hgzA := hLA.game.lt
          have hxzA := bXA.lt
          have hyzA := bY.lt
          have hSzA := bS.lt
          have bU := hLA.bar
          have bUc0 : Aa.cell? ⟨w.heap.size + 1 + 1, 0, none⟩ = some (.slice A1 m k) := bU.cell 0
          obtain ⟨bYc0, bYc1, bYc2, bYc3, bYc4, bYc5⟩ := bY.c6
          obtain ⟨ti, hti⟩ : ∃ ti, inB b ⟨y0, y1, y2, y3, y4, y5⟩ = ti := ⟨_, rfl⟩
          have HTJ := Lib.hid hti
          clear hti
          gi_wp2_with fail
          refine ⟨trivial, ?_⟩
          refine (callsIn_wide.2 (bIn_any b ⟨y0, y1, y2, y3, y4, y5⟩ _ _ ti HTJ ((_hQ.out.below hLA.low).more hLA.low.size) (Lib.hid (barT_ok hb1.out)) hyn)).mono ?_
          rintro e Ab ⟨rfl, hb4⟩
          clear bUc0 bYc0 bYc1 bYc2 bYc3 bYc4 bYc5 bU
          have hW3A := hKFA.size
          have hLB := hLA.under hb4 hwzA hgzA
          have bXB := bXA.under hb4 hxzA
          have bSB := bS.under hb4 hSzA
          have hzB := hb4.size
          cases ti with
          | true =>
            gi_wp2
            refine ⟨kfOf hb4, KeepsC.of hb4 hLA.low.size, hLB, by omega, kfUnder hKFA hb4 hW3A, hKCA.under hb4 hW3A hLA.low.size, bXB, Lib.hid (fun z hz => ?_)⟩
            rcases List.mem_append.1 hz with h | h
            · exact hNA.out z h
            · rw [List.mem_singleton.1 h]; exact HTJ.out
          | false =>
            have hwzB := hLB.flaw.lt
            have hgzB := hLB.game.lt
            have hxzB := bXB.lt
            have hSzB := bSB.lt
            have bO := hLB.ok
            have bF := hLB.flaw
            obtain ⟨bXBc0, bXBc1, bXBc2, bXBc3, bXBc4, bXBc5⟩ := bXB.c6
            obtain ⟨bSBc0, bSBc1⟩ := bSB.c2
            have bOc0 : Ab.cell? ⟨w.heap.size + 1 + 1 + 1, 0, none⟩ = some (.bool true) := bO.cell 0
            have bOf0 : Ab.frozen? ⟨w.heap.size + 1 + 1 + 1, 0, none⟩ = false := bO.free 0
            have bOz : w.heap.size + 1 + 1 + 1 < Ab.heap.size := bO.lt
            obtain ⟨bFc0, bFf0, bFc1, bFf1, bFc2, bFf2, bFc3, bFf3, bFc4, bFf4, bFc5, bFf5, bFc6, bFf6, bFc7, bFf7, bFc8, bFf8⟩ := bF.f9
            have bFz : w.heap.size + 1 + 1 + 1 + 1 < Ab.heap.size := bF.lt
            gi_wp2
            gi_region
            all_goals
              have Z6 := bO.set 0 (.bool false)
              have Z7 := (bF.other (a := ⟨w.heap.size + 1 + 1 + 1, 0, none⟩) (by simp <;> omega) (.bool false))
              have Z7 := (((((((((Z7.set 0 (.int .i64 3)).set 1 (.int .i64 x0)).set 2 (.int .i64 x1)).set 3 (.int .i64 x2)).set 4 (.int .i64 x3)).set 5 (.int .i64 x4)).set 6 (.int .i64 x5)).set 7 (.int .i64 f0)).set 8 (.int .i64 f1))
              have Z6 := (((((((((Z6.other (a := ⟨w.heap.size + 1 + 1 + 1 + 1, 0, none⟩) (by simp <;> omega) (.int .i64 3)).other (a := ⟨w.heap.size + 1 + 1 + 1 + 1, 1, none⟩) (by simp <;> omega) (.int .i64 x0)).other (a := ⟨w.heap.size + 1 + 1 + 1 + 1, 2, none⟩) (by simp <;> omega) (.int .i64 x1)).other (a := ⟨w.heap.size + 1 + 1 + 1 + 1, 3, none⟩) (by simp <;> omega) (.int .i64 x2)).other (a := ⟨w.heap.size + 1 + 1 + 1 + 1, 4, none⟩) (by simp <;> omega) (.int .i64 x3)).other (a := ⟨w.heap.size + 1 + 1 + 1 + 1, 5, none⟩) (by simp <;> omega) (.int .i64 x4)).other (a := ⟨w.heap.size + 1 + 1 + 1 + 1, 6, none⟩) (by simp <;> omega) (.int .i64 x5)).other (a := ⟨w.heap.size + 1 + 1 + 1 + 1, 7, none⟩) (by simp <;> omega) (.int .i64 f0)).other (a := ⟨w.heap.size + 1 + 1 + 1 + 1, 8, none⟩) (by simp <;> omega) (.int .i64 f1))
              have hB3 := hLB.low
              have hB3 := (hB3.setCell (p := ⟨w.heap.size + 1 + 1 + 1, 0, none⟩) (by simp <;> omega) (.bool false))
              have hB3 := (((((((((hB3.setCell (p := ⟨w.heap.size + 1 + 1 + 1 + 1, 0, none⟩) (by simp <;> omega) (.int .i64 3)).setCell (p := ⟨w.heap.size + 1 + 1 + 1 + 1, 1, none⟩) (by simp <;> omega) (.int .i64 x0)).setCell (p := ⟨w.heap.size + 1 + 1 + 1 + 1, 2, none⟩) (by simp <;> omega) (.int .i64 x1)).setCell (p := ⟨w.heap.size + 1 + 1 + 1 + 1, 3, none⟩) (by simp <;> omega) (.int .i64 x2)).setCell (p := ⟨w.heap.size + 1 + 1 + 1 + 1, 4, none⟩) (by simp <;> omega) (.int .i64 x3)).setCell (p := ⟨w.heap.size + 1 + 1 + 1 + 1, 5, none⟩) (by simp <;> omega) (.int .i64 x4)).setCell (p := ⟨w.heap.size + 1 + 1 + 1 + 1, 6, none⟩) (by simp <;> omega) (.int .i64 x5)).setCell (p := ⟨w.heap.size + 1 + 1 + 1 + 1, 7, none⟩) (by simp <;> omega) (.int .i64 f0)).setCell (p := ⟨w.heap.size + 1 + 1 + 1 + 1, 8, none⟩) (by simp <;> omega) (.int .i64 f1))
              have hKF := (kfUnder hKFA hb4 hW3A).trans (kfCell (D := w10.heap.size) (A := Ab) (a := ⟨w.heap.size + 1 + 1 + 1, 0, none⟩) (by dsimp only; omega) (.bool false))
              have hKF := hKF.trans (kfCell (D := w10.heap.size) (a := ⟨w.heap.size + 1 + 1 + 1 + 1, 0, none⟩) (by dsimp only; omega) (.int .i64 3))
              have hKF := hKF.trans (kfCell (D := w10.heap.size) (a := ⟨w.heap.size + 1 + 1 + 1 + 1, 1, none⟩) (by dsimp only; omega) (.int .i64 x0))
              have hKF := hKF.trans (kfCell (D := w10.heap.size) (a := ⟨w.heap.size + 1 + 1 + 1 + 1, 2, none⟩) (by dsimp only; omega) (.int .i64 x1))
              have hKF := hKF.trans (kfCell (D := w10.heap.size) (a := ⟨w.heap.size + 1 + 1 + 1 + 1, 3, none⟩) (by dsimp only; omega) (.int .i64 x2))
              have hKF := hKF.trans (kfCell (D := w10.heap.size) (a := ⟨w.heap.size + 1 + 1 + 1 + 1, 4, none⟩) (by dsimp only; omega) (.int .i64 x3))
              have hKF := hKF.trans (kfCell (D := w10.heap.size) (a := ⟨w.heap.size + 1 + 1 + 1 + 1, 5, none⟩) (by dsimp only; omega) (.int .i64 x4))
              have hKF := hKF.trans (kfCell (D := w10.heap.size) (a := ⟨w.heap.size + 1 + 1 + 1 + 1, 6, none⟩) (by dsimp only; omega) (.int .i64 x5))
              have hKF := hKF.trans (kfCell (D := w10.heap.size) (a := ⟨w.heap.size + 1 + 1 + 1 + 1, 7, none⟩) (by dsimp only; omega) (.int .i64 f0))
              have hKF := hKF.trans (kfCell (D := w10.heap.size) (a := ⟨w.heap.size + 1 + 1 + 1 + 1, 8, none⟩) (by dsimp only; omega) (.int .i64 f1))
              have hKG := (kfOf (D := W3.heap.size) hb4).trans (kfCell (D := W3.heap.size) (A := Ab) (a := ⟨w.heap.size + 1 + 1 + 1, 0, none⟩) (by dsimp only; omega) (.bool false))
              have hKG := hKG.trans (kfCell (D := W3.heap.size) (a := ⟨w.heap.size + 1 + 1 + 1 + 1, 0, none⟩) (by dsimp only; omega) (.int .i64 3))
              have hKG := hKG.trans (kfCell (D := W3.heap.size) (a := ⟨w.heap.size + 1 + 1 + 1 + 1, 1, none⟩) (by dsimp only; omega) (.int .i64 x0))
              have hKG := hKG.trans (kfCell (D := W3.heap.size) (a := ⟨w.heap.size + 1 + 1 + 1 + 1, 2, none⟩) (by dsimp only; omega) (.int .i64 x1))
              have hKG := hKG.trans (kfCell (D := W3.heap.size) (a := ⟨w.heap.size + 1 + 1 + 1 + 1, 3, none⟩) (by dsimp only; omega) (.int .i64 x2))
              have hKG := hKG.trans (kfCell (D := W3.heap.size) (a := ⟨w.heap.size + 1 + 1 + 1 + 1, 4, none⟩) (by dsimp only; omega) (.int .i64 x3))
              have hKG := hKG.trans (kfCell (D := W3.heap.size) (a := ⟨w.heap.size + 1 + 1 + 1 + 1, 5, none⟩) (by dsimp only; omega) (.int .i64 x4))
              have hKG := hKG.trans (kfCell (D := W3.heap.size) (a := ⟨w.heap.size + 1 + 1 + 1 + 1, 6, none⟩) (by dsimp only; omega) (.int .i64 x5))
              have hKG := hKG.trans (kfCell (D := W3.heap.size) (a := ⟨w.heap.size + 1 + 1 + 1 + 1, 7, none⟩) (by dsimp only; omega) (.int .i64 f0))
              have hKG := hKG.trans (kfCell (D := W3.heap.size) (a := ⟨w.heap.size + 1 + 1 + 1 + 1, 8, none⟩) (by dsimp only; omega) (.int .i64 f1))
              generalize ((((((((((Ab.setCell ⟨w.heap.size + 1 + 1 + 1, 0, none⟩ (.bool false)).setCell ⟨w.heap.size + 1 + 1 + 1 + 1, 0, none⟩ (.int .i64 3)).setCell ⟨w.heap.size + 1 + 1 + 1 + 1, 1, none⟩ (.int .i64 x0)).setCell ⟨w.heap.size + 1 + 1 + 1 + 1, 2, none⟩ (.int .i64 x1)).setCell ⟨w.heap.size + 1 + 1 + 1 + 1, 3, none⟩ (.int .i64 x2)).setCell ⟨w.heap.size + 1 + 1 + 1 + 1, 4, none⟩ (.int .i64 x3)).setCell ⟨w.heap.size + 1 + 1 + 1 + 1, 5, none⟩ (.int .i64 x4)).setCell ⟨w.heap.size + 1 + 1 + 1 + 1, 6, none⟩ (.int .i64 x5)).setCell ⟨w.heap.size + 1 + 1 + 1 + 1, 7, none⟩ (.int .i64 f0)).setCell ⟨w.heap.size + 1 + 1 + 1 + 1, 8, none⟩ (.int .i64 f1)) = W9 at Z6 Z7 hB3 hKF hKG ⊢
              gi_wp2
              exact ⟨⟨hKG.size, hKG.same⟩, rfl, hB3.drew, ⟨hKF.size, hKF.same⟩, Z6.drew, ⟨3, ⟨x0, x1, x2, x3, x4, x5⟩, ⟨f0, f1⟩⟩, Lib.hid (flaw_leaves HTI.out HSB.out hTA.out hNA.out HTJ.out), Z7.drew⟩
        case done2 =>
          rintro xs A hxs ⟨h1, h2, h3, h4, h5, h6⟩
          have hpn := HPost.out pre hN.out _ (flaw_stays (p := p) (c := c) (by rw [← hxs]; exact h6.out) HTI.out HSB.out)
          gi_wp2
          exact ⟨h3, h4, by omega, h1, Lib.hid hpn⟩
        case stop2 =>
          rintro cc pre2 A hpre2 ⟨rfl, h1, h2, h3, f', h5, h6⟩
          gi_wp2
          exact ⟨h2, rfl, h1, h3, pre, _, f', rfl, hN, h5, h6⟩
  case done =>
    rintro Ed xs W hEd hxs ⟨hw, hL, hN⟩ hK
    have hnone : p.states.findSome? (flawAt p c b) = none := List.findSome?_eq_none_iff.2 (by rw [← hxs]; exact hN.out)
    have ht : t = true := by
      cases t with
      | true => rfl
      | false => have := hT.out; rw [hnone] at this; cases this
    obtain rfl := hf ht
    subst ht
    have bO := hL.ok
    have bF := hL.flaw
    have hlow := hL.low
    clear hnone hT hf
    have hEz := Array.getElem?_eq_some_iff.1 hK |>.1
    have bOc0 : W.cell? ⟨w.heap.size + 1 + 1 + 1, 0, none⟩ = some (.bool true) := bO.cell 0
    have bOf0 : W.frozen? ⟨w.heap.size + 1 + 1 + 1, 0, none⟩ = false := bO.free 0
    have bOz : w.heap.size + 1 + 1 + 1 < W.heap.size := bO.lt
    obtain ⟨bFc0, bFf0, bFc1, bFf1, bFc2, bFf2, bFc3, bFf3, bFc4, bFf4, bFc5, bFf5, bFc6, bFf6, bFc7, bFf7, bFc8, bFf8⟩ := bF.f9
    have bFz : w.heap.size + 1 + 1 + 1 + 1 < W.heap.size := bF.lt
    go_wp2
    go_region
    all_goals
      have Z6 := bO.set 0 (.bool true)
      have Z7 := (bF.other (a := ⟨w.heap.size + 1 + 1 + 1, 0, none⟩) (by simp <;> omega) (.bool true))
      have Z7 := (((((((((Z7.set 0 (.int .i64 0)).set 1 (.int .i64 0)).set 2 (.int .i64 0)).set 3 (.int .i64 0)).set 4 (.int .i64 0)).set 5 (.int .i64 0)).set 6 (.int .i64 0)).set 7 (.int .i64 0)).set 8 (.int .i64 0))
      have Z6 := (((((((((Z6.other (a := ⟨w.heap.size + 1 + 1 + 1 + 1, 0, none⟩) (by simp <;> omega) (.int .i64 0)).other (a := ⟨w.heap.size + 1 + 1 + 1 + 1, 1, none⟩) (by simp <;> omega) (.int .i64 0)).other (a := ⟨w.heap.size + 1 + 1 + 1 + 1, 2, none⟩) (by simp <;> omega) (.int .i64 0)).other (a := ⟨w.heap.size + 1 + 1 + 1 + 1, 3, none⟩) (by simp <;> omega) (.int .i64 0)).other (a := ⟨w.heap.size + 1 + 1 + 1 + 1, 4, none⟩) (by simp <;> omega) (.int .i64 0)).other (a := ⟨w.heap.size + 1 + 1 + 1 + 1, 5, none⟩) (by simp <;> omega) (.int .i64 0)).other (a := ⟨w.heap.size + 1 + 1 + 1 + 1, 6, none⟩) (by simp <;> omega) (.int .i64 0)).other (a := ⟨w.heap.size + 1 + 1 + 1 + 1, 7, none⟩) (by simp <;> omega) (.int .i64 0)).other (a := ⟨w.heap.size + 1 + 1 + 1 + 1, 8, none⟩) (by simp <;> omega) (.int .i64 0))
      have hB3 := hlow
      have hB3 := (hB3.setCell (p := ⟨w.heap.size + 1 + 1 + 1, 0, none⟩) (by simp <;> omega) (.bool true))
      have hB3 := (((((((((hB3.setCell (p := ⟨w.heap.size + 1 + 1 + 1 + 1, 0, none⟩) (by simp <;> omega) (.int .i64 0)).setCell (p := ⟨w.heap.size + 1 + 1 + 1 + 1, 1, none⟩) (by simp <;> omega) (.int .i64 0)).setCell (p := ⟨w.heap.size + 1 + 1 + 1 + 1, 2, none⟩) (by simp <;> omega) (.int .i64 0)).setCell (p := ⟨w.heap.size + 1 + 1 + 1 + 1, 3, none⟩) (by simp <;> omega) (.int .i64 0)).setCell (p := ⟨w.heap.size + 1 + 1 + 1 + 1, 4, none⟩) (by simp <;> omega) (.int .i64 0)).setCell (p := ⟨w.heap.size + 1 + 1 + 1 + 1, 5, none⟩) (by simp <;> omega) (.int .i64 0)).setCell (p := ⟨w.heap.size + 1 + 1 + 1 + 1, 6, none⟩) (by simp <;> omega) (.int .i64 0)).setCell (p := ⟨w.heap.size + 1 + 1 + 1 + 1, 7, none⟩) (by simp <;> omega) (.int .i64 0)).setCell (p := ⟨w.heap.size + 1 + 1 + 1 + 1, 8, none⟩) (by simp <;> omega) (.int .i64 0))
      have hKF := kfCell (D := w10.heap.size) (A := W) (a := ⟨w.heap.size + 1 + 1 + 1, 0, none⟩) (by dsimp only; omega) (.bool true)
      have hKF := hKF.trans (kfCell (D := w10.heap.size) (a := ⟨w.heap.size + 1 + 1 + 1 + 1, 0, none⟩) (by dsimp only; omega) (.int .i64 0))
      have hKF := hKF.trans (kfCell (D := w10.heap.size) (a := ⟨w.heap.size + 1 + 1 + 1 + 1, 1, none⟩) (by dsimp only; omega) (.int .i64 0))
      have hKF := hKF.trans (kfCell (D := w10.heap.size) (a := ⟨w.heap.size + 1 + 1 + 1 + 1, 2, none⟩) (by dsimp only; omega) (.int .i64 0))
      have hKF := hKF.trans (kfCell (D := w10.heap.size) (a := ⟨w.heap.size + 1 + 1 + 1 + 1, 3, none⟩) (by dsimp only; omega) (.int .i64 0))
      have hKF := hKF.trans (kfCell (D := w10.heap.size) (a := ⟨w.heap.size + 1 + 1 + 1 + 1, 4, none⟩) (by dsimp only; omega) (.int .i64 0))
      have hKF := hKF.trans (kfCell (D := w10.heap.size) (a := ⟨w.heap.size + 1 + 1 + 1 + 1, 5, none⟩) (by dsimp only; omega) (.int .i64 0))
      have hKF := hKF.trans (kfCell (D := w10.heap.size) (a := ⟨w.heap.size + 1 + 1 + 1 + 1, 6, none⟩) (by dsimp only; omega) (.int .i64 0))
      have hKF := hKF.trans (kfCell (D := w10.heap.size) (a := ⟨w.heap.size + 1 + 1 + 1 + 1, 7, none⟩) (by dsimp only; omega) (.int .i64 0))
      have hKF := hKF.trans (kfCell (D := w10.heap.size) (a := ⟨w.heap.size + 1 + 1 + 1 + 1, 8, none⟩) (by dsimp only; omega) (.int .i64 0))
      have hK9 := hKF.same _ _ hEd hK rfl
      go_wp2
      rw [Exit.noGoto_ret]
      generalize ((((((((((W.setCell ⟨w.heap.size + 1 + 1 + 1, 0, none⟩ (.bool true)).setCell ⟨w.heap.size + 1 + 1 + 1 + 1, 0, none⟩ (.int .i64 0)).setCell ⟨w.heap.size + 1 + 1 + 1 + 1, 1, none⟩ (.int .i64 0)).setCell ⟨w.heap.size + 1 + 1 + 1 + 1, 2, none⟩ (.int .i64 0)).setCell ⟨w.heap.size + 1 + 1 + 1 + 1, 3, none⟩ (.int .i64 0)).setCell ⟨w.heap.size + 1 + 1 + 1 + 1, 4, none⟩ (.int .i64 0)).setCell ⟨w.heap.size + 1 + 1 + 1 + 1, 5, none⟩ (.int .i64 0)).setCell ⟨w.heap.size + 1 + 1 + 1 + 1, 6, none⟩ (.int .i64 0)).setCell ⟨w.heap.size + 1 + 1 + 1 + 1, 7, none⟩ (.int .i64 0)).setCell ⟨w.heap.size + 1 + 1 + 1 + 1, 8, none⟩ (.int .i64 0)) = W9 at Z6 Z7 hB3 hK9 ⊢
      refine ⟨by simp, .inl ⟨_, _, rfl, run_takeDeferred hK9, ?_⟩⟩
      have Z6 := Z6.drew.record hK9 rfl (.deferred none)
      have Z7 := Z7.drew.record hK9 rfl (.deferred none)
      have hB3 := hB3.drew.trans (below_put3 (n := w.heap.size) (l := Ed) (by omega) (.deferred none))
      generalize W9.drew.putObj Ed (.deferred none) = W8 at Z6 Z7 hB3 ⊢
      have Z6c0 : W8.cell? ⟨w.heap.size + 1 + 1 + 1, 0, none⟩ = some (.bool true) := Z6.cell 0
      obtain ⟨Z7c0, Z7c1, Z7c2, Z7c3, Z7c4, Z7c5, Z7c6, Z7c7, Z7c8⟩ := Z7.c9
      refine ⟨_, (by simp [results, Try.results14, go_sem, Z6c0, Z7c0, Z7c1, Z7c2, Z7c3, Z7c4, Z7c5, Z7c6, Z7c7, Z7c8, Fw.zero, St.zero, Sh.zero] : _ = Result.ok (Value.tuple #[.bool true, Fw.zero.v, .int .i64 0]) _), ?_⟩
      exact ⟨rfl, hB3⟩
  case stop =>
    rintro Ed cc pre W hEd hpre ⟨rfl, hlow, bO, pre', x, f', rfl, hN, hx, bF⟩ hK
    have hsome := findSome_pre hpre hN.out hx.out
    have ht : t = false := by
      cases t with
      | false => rfl
      | true => have := hT.out; rw [hsome] at this; cases this
    subst ht
    obtain rfl : f' = f := by have := hT.out; rw [hsome] at this; injection this
    obtain ⟨g0, ⟨y0, y1, y2, y3, y4, y5⟩, ⟨f0, f1⟩⟩ := f'
    clear hsome hT hf hx
    refine wpIn_wide.2 ?_
    have hEz := Array.getElem?_eq_some_iff.1 hK |>.1
    have bOc0 : W.cell? ⟨w.heap.size + 1 + 1 + 1, 0, none⟩ = some (.bool false) := bO.cell 0
    have bOf0 : W.frozen? ⟨w.heap.size + 1 + 1 + 1, 0, none⟩ = false := bO.free 0
    have bOz : w.heap.size + 1 + 1 + 1 < W.heap.size := bO.lt
    obtain ⟨bFc0, bFf0, bFc1, bFf1, bFc2, bFf2, bFc3, bFf3, bFc4, bFf4, bFc5, bFf5, bFc6, bFf6, bFc7, bFf7, bFc8, bFf8⟩ := bF.f9
    have bFz : w.heap.size + 1 + 1 + 1 + 1 < W.heap.size := bF.lt
    go_wp2
    go_region
    all_goals
      have Z6 := bO.set 0 (.bool false)
      have Z7 := (bF.other (a := ⟨w.heap.size + 1 + 1 + 1, 0, none⟩) (by simp <;> omega) (.bool false))
      have Z7 := (((((((((Z7.set 0 (.int .i64 g0)).set 1 (.int .i64 y0)).set 2 (.int .i64 y1)).set 3 (.int .i64 y2)).set 4 (.int .i64 y3)).set 5 (.int .i64 y4)).set 6 (.int .i64 y5)).set 7 (.int .i64 f0)).set 8 (.int .i64 f1))
      have Z6 := (((((((((Z6.other (a := ⟨w.heap.size + 1 + 1 + 1 + 1, 0, none⟩) (by simp <;> omega) (.int .i64 g0)).other (a := ⟨w.heap.size + 1 + 1 + 1 + 1, 1, none⟩) (by simp <;> omega) (.int .i64 y0)).other (a := ⟨w.heap.size + 1 + 1 + 1 + 1, 2, none⟩) (by simp <;> omega) (.int .i64 y1)).other (a := ⟨w.heap.size + 1 + 1 + 1 + 1, 3, none⟩) (by simp <;> omega) (.int .i64 y2)).other (a := ⟨w.heap.size + 1 + 1 + 1 + 1, 4, none⟩) (by simp <;> omega) (.int .i64 y3)).other (a := ⟨w.heap.size + 1 + 1 + 1 + 1, 5, none⟩) (by simp <;> omega) (.int .i64 y4)).other (a := ⟨w.heap.size + 1 + 1 + 1 + 1, 6, none⟩) (by simp <;> omega) (.int .i64 y5)).other (a := ⟨w.heap.size + 1 + 1 + 1 + 1, 7, none⟩) (by simp <;> omega) (.int .i64 f0)).other (a := ⟨w.heap.size + 1 + 1 + 1 + 1, 8, none⟩) (by simp <;> omega) (.int .i64 f1))
      have hB3 := hlow
      have hB3 := (hB3.setCell (p := ⟨w.heap.size + 1 + 1 + 1, 0, none⟩) (by simp <;> omega) (.bool false))
      have hB3 := (((((((((hB3.setCell (p := ⟨w.heap.size + 1 + 1 + 1 + 1, 0, none⟩) (by simp <;> omega) (.int .i64 g0)).setCell (p := ⟨w.heap.size + 1 + 1 + 1 + 1, 1, none⟩) (by simp <;> omega) (.int .i64 y0)).setCell (p := ⟨w.heap.size + 1 + 1 + 1 + 1, 2, none⟩) (by simp <;> omega) (.int .i64 y1)).setCell (p := ⟨w.heap.size + 1 + 1 + 1 + 1, 3, none⟩) (by simp <;> omega) (.int .i64 y2)).setCell (p := ⟨w.heap.size + 1 + 1 + 1 + 1, 4, none⟩) (by simp <;> omega) (.int .i64 y3)).setCell (p := ⟨w.heap.size + 1 + 1 + 1 + 1, 5, none⟩) (by simp <;> omega) (.int .i64 y4)).setCell (p := ⟨w.heap.size + 1 + 1 + 1 + 1, 6, none⟩) (by simp <;> omega) (.int .i64 y5)).setCell (p := ⟨w.heap.size + 1 + 1 + 1 + 1, 7, none⟩) (by simp <;> omega) (.int .i64 f0)).setCell (p := ⟨w.heap.size + 1 + 1 + 1 + 1, 8, none⟩) (by simp <;> omega) (.int .i64 f1))
      have hKF := kfCell (D := w10.heap.size) (A := W) (a := ⟨w.heap.size + 1 + 1 + 1, 0, none⟩) (by dsimp only; omega) (.bool false)
      have hKF := hKF.trans (kfCell (D := w10.heap.size) (a := ⟨w.heap.size + 1 + 1 + 1 + 1, 0, none⟩) (by dsimp only; omega) (.int .i64 g0))
      have hKF := hKF.trans (kfCell (D := w10.heap.size) (a := ⟨w.heap.size + 1 + 1 + 1 + 1, 1, none⟩) (by dsimp only; omega) (.int .i64 y0))
      have hKF := hKF.trans (kfCell (D := w10.heap.size) (a := ⟨w.heap.size + 1 + 1 + 1 + 1, 2, none⟩) (by dsimp only; omega) (.int .i64 y1))
      have hKF := hKF.trans (kfCell (D := w10.heap.size) (a := ⟨w.heap.size + 1 + 1 + 1 + 1, 3, none⟩) (by dsimp only; omega) (.int .i64 y2))
      have hKF := hKF.trans (kfCell (D := w10.heap.size) (a := ⟨w.heap.size + 1 + 1 + 1 + 1, 4, none⟩) (by dsimp only; omega) (.int .i64 y3))
      have hKF := hKF.trans (kfCell (D := w10.heap.size) (a := ⟨w.heap.size + 1 + 1 + 1 + 1, 5, none⟩) (by dsimp only; omega) (.int .i64 y4))
      have hKF := hKF.trans (kfCell (D := w10.heap.size) (a := ⟨w.heap.size + 1 + 1 + 1 + 1, 6, none⟩) (by dsimp only; omega) (.int .i64 y5))
      have hKF := hKF.trans (kfCell (D := w10.heap.size) (a := ⟨w.heap.size + 1 + 1 + 1 + 1, 7, none⟩) (by dsimp only; omega) (.int .i64 f0))
      have hKF := hKF.trans (kfCell (D := w10.heap.size) (a := ⟨w.heap.size + 1 + 1 + 1 + 1, 8, none⟩) (by dsimp only; omega) (.int .i64 f1))
      have hK9 := hKF.same _ _ hEd hK rfl
      go_wp2
      rw [Exit.noGoto_ret]
      generalize ((((((((((W.setCell ⟨w.heap.size + 1 + 1 + 1, 0, none⟩ (.bool false)).setCell ⟨w.heap.size + 1 + 1 + 1 + 1, 0, none⟩ (.int .i64 g0)).setCell ⟨w.heap.size + 1 + 1 + 1 + 1, 1, none⟩ (.int .i64 y0)).setCell ⟨w.heap.size + 1 + 1 + 1 + 1, 2, none⟩ (.int .i64 y1)).setCell ⟨w.heap.size + 1 + 1 + 1 + 1, 3, none⟩ (.int .i64 y2)).setCell ⟨w.heap.size + 1 + 1 + 1 + 1, 4, none⟩ (.int .i64 y3)).setCell ⟨w.heap.size + 1 + 1 + 1 + 1, 5, none⟩ (.int .i64 y4)).setCell ⟨w.heap.size + 1 + 1 + 1 + 1, 6, none⟩ (.int .i64 y5)).setCell ⟨w.heap.size + 1 + 1 + 1 + 1, 7, none⟩ (.int .i64 f0)).setCell ⟨w.heap.size + 1 + 1 + 1 + 1, 8, none⟩ (.int .i64 f1)) = W9 at Z6 Z7 hB3 hK9 ⊢
      refine ⟨by simp, .inl ⟨_, _, rfl, run_takeDeferred hK9, ?_⟩⟩
      have Z6 := Z6.drew.record hK9 rfl (.deferred none)
      have Z7 := Z7.drew.record hK9 rfl (.deferred none)
      have hB3 := hB3.drew.trans (below_put3 (n := w.heap.size) (l := Ed) (by omega) (.deferred none))
      generalize W9.drew.putObj Ed (.deferred none) = W8 at Z6 Z7 hB3 ⊢
      have Z6c0 : W8.cell? ⟨w.heap.size + 1 + 1 + 1, 0, none⟩ = some (.bool false) := Z6.cell 0
      obtain ⟨Z7c0, Z7c1, Z7c2, Z7c3, Z7c4, Z7c5, Z7c6, Z7c7, Z7c8⟩ := Z7.c9
      refine ⟨_, (by simp [results, Try.results14, go_sem, Z6c0, Z7c0, Z7c1, Z7c2, Z7c3, Z7c4, Z7c5, Z7c6, Z7c7, Z7c8] : _ = Result.ok (Value.tuple #[.bool false, (Fw.mk g0 ⟨y0, y1, y2, y3, y4, y5⟩ ⟨f0, f1⟩).v, .int .i64 0]) _), ?_⟩
      exact ⟨rfl, hB3⟩
end Go.Proofs.Ytancngachnpefaa
