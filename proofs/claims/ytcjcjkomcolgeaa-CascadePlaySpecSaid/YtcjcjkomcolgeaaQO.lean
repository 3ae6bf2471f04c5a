/- Contract of Step of acequiaref32. (Printed by gen_o.py.) -/
import Derived.Test.YtcjcjkomcolgeaaQF
import Derived.Test.YtcjcjkomcolgeaaQJ
import Derived.Lib.MinMax
set_option linter.unusedVariables false
set_option linter.unusedSimpArgs false
namespace Go.Proofs.Ytcjcjkomcolgeaa
open Go.RowKit

theorem rrun_at {code : List Ln} {V : Value} {r : Vr} {w : World} {g : Int} {ok : Bool} (hR : Hid (runT code r = (g, ok, 0))) (hC : CodeAt w w.heap.size V code) :
    Calls Try.prog 94 #[.agg #[V], .agg #[.int .i64 r.v0, .int .i64 r.v1, .int .i64 r.v2, .int .i64 r.v3, .int .i64 r.v4]] w fun e w' => e = .returned (.tuple #[.int .i64 g, .bool ok, .int .i64 0]) ∧ Below w.heap.size w w' :=
  (rrun_any code V r w hC).mono fun _ _ ⟨he, hb⟩ => ⟨by rw [he, hR.out], hb⟩

structure Small (p : Pl) (s : St) (x : Sh) : Prop where
  top : 1 ≤ p.top ∧ p.top ≤ 63
  positions : 1 ≤ p.positions ∧ p.positions ≤ 15
  rate : 1 ≤ p.rate ∧ p.rate ≤ 15
  step : 1 ≤ p.step ∧ p.step ≤ 15
  age : 0 ≤ p.age ∧ p.age ≤ 7
  level : 0 ≤ s.level ∧ s.level ≤ 63
  position : 0 ≤ s.position ∧ s.position ≤ p.positions
  p0 : 0 ≤ s.p0 ∧ s.p0 ≤ 15
  p1 : 0 ≤ s.p1 ∧ s.p1 ≤ 15
  sage : 0 ≤ s.age ∧ s.age ≤ 7
  feed : 0 ≤ x.feed ∧ x.feed ≤ 15

set_option maxRecDepth 100000 in
set_option maxHeartbeats 2000000 in
theorem rstep_000 (p : Pl) (code : List Ln) (V : Value) (s : St) (x : Sh) (w : World) (hC : Hid (CodeAt w w.heap.size V code)) (S : Small p s x) (g : Int)
    (hp : p.pipe = 0) (hm : x.msg < 0) (hR : Hid (runT code ⟨s.level, s.position, s.order, min (s.age + 1) p.age, x.feed⟩ = (g, false, 0))) (hg : 0 ≤ g ∧ g ≤ 1099511627776) :
    Calls Try.prog 90 #[p.v, .agg #[V], s.v, x.v] w fun e w' => e = .returned (.tuple #[.agg #[.int .i64 (min p.top (s.level + x.feed - min (s.level + x.feed) (p.rate * s.position))), .int .i64 s.position, .int .i64 s.p0, .int .i64 s.p1, .int .i64 s.order, .int .i64 (min (s.age + 1) p.age)], .int .i64 (min (s.level + x.feed) (p.rate * s.position))]) ∧ Below w.heap.size w w' := by
  obtain ⟨⟨_, _⟩, ⟨_, _⟩, ⟨_, _⟩, ⟨_, _⟩, ⟨_, _⟩, ⟨_, _⟩, ⟨_, _⟩, ⟨_, _⟩, ⟨_, _⟩, ⟨_, _⟩, ⟨_, _⟩⟩ := S
  obtain ⟨_, _⟩ := hg
  have hM2 := mul_le4 (a := p.rate) (b := s.position) (A := 15) (B := 15) (by omega) (by omega)
  obtain ⟨_, _⟩ := hM2
  go_enter Try.func90, Try.ntmps90
  go_wp2_with fail
  have hB : Below w.heap.size w ((((((w.alloc (.cells #[.int .i64 p.top, .int .i64 p.bank, .int .i64 p.siphon, .int .i64 p.start, .int .i64 p.positions, .int .i64 p.rate, .int .i64 p.step, .int .i64 p.pass, .int .i64 p.feed, .int .i64 0, .int .i64 p.orders, .int .i64 p.age] 55)).alloc (.cells #[V] 63)).alloc (.cells #[.int .i64 s.level, .int .i64 s.position, .int .i64 s.p0, .int .i64 s.p1, .int .i64 s.order, .int .i64 s.age] 51)).alloc (.cells #[.int .i64 x.feed, .int .i64 x.msg] 71)).alloc (.cells #[.int .i64 0, .int .i64 0, .int .i64 0, .int .i64 0, .int .i64 0, .int .i64 0] 51)).alloc (.cells #[.int .i64 s.level, .int .i64 s.position, .int .i64 s.p0, .int .i64 s.p1, .int .i64 s.order, .int .i64 (min (s.age + 1) p.age)] 51)) := ((((((Below.refl _ _).alloc (by simp <;> omega) _).alloc (by simp <;> omega) _).alloc (by simp <;> omega) _).alloc (by simp <;> omega) _).alloc (by simp <;> omega) _).alloc (by simp <;> omega) _
  refine (rrun_at (r := ⟨s.level, s.position, s.order, min (s.age + 1) p.age, x.feed⟩) hR (hC.out.later hB)).mono ?_
  rintro e w1 ⟨rfl, hb⟩
  have P := (((((((Box.newAt (n := w.heap.size) [.int .i64 p.top, .int .i64 p.bank, .int .i64 p.siphon, .int .i64 p.start, .int .i64 p.positions, .int .i64 p.rate, .int .i64 p.step, .int .i64 p.pass, .int .i64 p.feed, .int .i64 0, .int .i64 p.orders, .int .i64 p.age] 55 (by simp)).alloc _).alloc _).alloc _).alloc _).alloc _)).later hb
  have S := (((((Box.newAt (n := w.heap.size + 1 + 1) [.int .i64 s.level, .int .i64 s.position, .int .i64 s.p0, .int .i64 s.p1, .int .i64 s.order, .int .i64 s.age] 51 (by simp)).alloc _).alloc _).alloc _)).later hb
  have R := (((Box.newAt (n := w.heap.size + 1 + 1 + 1 + 1) [.int .i64 0, .int .i64 0, .int .i64 0, .int .i64 0, .int .i64 0, .int .i64 0] 51 (by simp)).alloc _)).later hb
  have N := ((Box.newAt (n := w.heap.size + 1 + 1 + 1 + 1 + 1) [.int .i64 s.level, .int .i64 s.position, .int .i64 s.p0, .int .i64 s.p1, .int .i64 s.order, .int .i64 (min (s.age + 1) p.age)] 51 (by simp))).later hb
  have hB := hB.trans (hb.mono hB.size)
  clear hb
  have Pc0 : w1.cell? ⟨w.heap.size, 0, none⟩ = some (.int .i64 (p.top)) := P.cell 0
  have Pc1 : w1.cell? ⟨w.heap.size, 1, none⟩ = some (.int .i64 (p.bank)) := P.cell 1
  have Pc2 : w1.cell? ⟨w.heap.size, 2, none⟩ = some (.int .i64 (p.siphon)) := P.cell 2
  have Pc3 : w1.cell? ⟨w.heap.size, 3, none⟩ = some (.int .i64 (p.start)) := P.cell 3
  have Pc4 : w1.cell? ⟨w.heap.size, 4, none⟩ = some (.int .i64 (p.positions)) := P.cell 4
  have Pc5 : w1.cell? ⟨w.heap.size, 5, none⟩ = some (.int .i64 (p.rate)) := P.cell 5
  have Pc6 : w1.cell? ⟨w.heap.size, 6, none⟩ = some (.int .i64 (p.step)) := P.cell 6
  have Pc7 : w1.cell? ⟨w.heap.size, 7, none⟩ = some (.int .i64 (p.pass)) := P.cell 7
  have Pc8 : w1.cell? ⟨w.heap.size, 8, none⟩ = some (.int .i64 (p.feed)) := P.cell 8
  have Pc9 : w1.cell? ⟨w.heap.size, 9, none⟩ = some (.int .i64 (0)) := P.cell 9
  have Pc10 : w1.cell? ⟨w.heap.size, 10, none⟩ = some (.int .i64 (p.orders)) := P.cell 10
  have Pc11 : w1.cell? ⟨w.heap.size, 11, none⟩ = some (.int .i64 (p.age)) := P.cell 11
  have Sc0 : w1.cell? ⟨w.heap.size + 1 + 1, 0, none⟩ = some (.int .i64 (s.level)) := S.cell 0
  have Sc1 : w1.cell? ⟨w.heap.size + 1 + 1, 1, none⟩ = some (.int .i64 (s.position)) := S.cell 1
  have Sc2 : w1.cell? ⟨w.heap.size + 1 + 1, 2, none⟩ = some (.int .i64 (s.p0)) := S.cell 2
  have Sc3 : w1.cell? ⟨w.heap.size + 1 + 1, 3, none⟩ = some (.int .i64 (s.p1)) := S.cell 3
  have Sc4 : w1.cell? ⟨w.heap.size + 1 + 1, 4, none⟩ = some (.int .i64 (s.order)) := S.cell 4
  have Sc5 : w1.cell? ⟨w.heap.size + 1 + 1, 5, none⟩ = some (.int .i64 (s.age)) := S.cell 5
  have Rc0 : w1.cell? ⟨w.heap.size + 1 + 1 + 1 + 1, 0, none⟩ = some (.int .i64 (0)) := R.cell 0
  have Rf0 : w1.frozen? ⟨w.heap.size + 1 + 1 + 1 + 1, 0, none⟩ = false := R.free 0
  have Rc1 : w1.cell? ⟨w.heap.size + 1 + 1 + 1 + 1, 1, none⟩ = some (.int .i64 (0)) := R.cell 1
  have Rf1 : w1.frozen? ⟨w.heap.size + 1 + 1 + 1 + 1, 1, none⟩ = false := R.free 1
  have Rc2 : w1.cell? ⟨w.heap.size + 1 + 1 + 1 + 1, 2, none⟩ = some (.int .i64 (0)) := R.cell 2
  have Rf2 : w1.frozen? ⟨w.heap.size + 1 + 1 + 1 + 1, 2, none⟩ = false := R.free 2
  have Rc3 : w1.cell? ⟨w.heap.size + 1 + 1 + 1 + 1, 3, none⟩ = some (.int .i64 (0)) := R.cell 3
  have Rf3 : w1.frozen? ⟨w.heap.size + 1 + 1 + 1 + 1, 3, none⟩ = false := R.free 3
  have Rc4 : w1.cell? ⟨w.heap.size + 1 + 1 + 1 + 1, 4, none⟩ = some (.int .i64 (0)) := R.cell 4
  have Rf4 : w1.frozen? ⟨w.heap.size + 1 + 1 + 1 + 1, 4, none⟩ = false := R.free 4
  have Rc5 : w1.cell? ⟨w.heap.size + 1 + 1 + 1 + 1, 5, none⟩ = some (.int .i64 (0)) := R.cell 5
  have Rf5 : w1.frozen? ⟨w.heap.size + 1 + 1 + 1 + 1, 5, none⟩ = false := R.free 5
  have Rz : w.heap.size + 1 + 1 + 1 + 1 < w1.heap.size := R.lt
  have Nc0 : w1.cell? ⟨w.heap.size + 1 + 1 + 1 + 1 + 1, 0, none⟩ = some (.int .i64 (s.level)) := N.cell 0
  have Nf0 : w1.frozen? ⟨w.heap.size + 1 + 1 + 1 + 1 + 1, 0, none⟩ = false := N.free 0
  have Nc1 : w1.cell? ⟨w.heap.size + 1 + 1 + 1 + 1 + 1, 1, none⟩ = some (.int .i64 (s.position)) := N.cell 1
  have Nf1 : w1.frozen? ⟨w.heap.size + 1 + 1 + 1 + 1 + 1, 1, none⟩ = false := N.free 1
  have Nc2 : w1.cell? ⟨w.heap.size + 1 + 1 + 1 + 1 + 1, 2, none⟩ = some (.int .i64 (s.p0)) := N.cell 2
  have Nf2 : w1.frozen? ⟨w.heap.size + 1 + 1 + 1 + 1 + 1, 2, none⟩ = false := N.free 2
  have Nc3 : w1.cell? ⟨w.heap.size + 1 + 1 + 1 + 1 + 1, 3, none⟩ = some (.int .i64 (s.p1)) := N.cell 3
  have Nf3 : w1.frozen? ⟨w.heap.size + 1 + 1 + 1 + 1 + 1, 3, none⟩ = false := N.free 3
  have Nc4 : w1.cell? ⟨w.heap.size + 1 + 1 + 1 + 1 + 1, 4, none⟩ = some (.int .i64 (s.order)) := N.cell 4
  have Nf4 : w1.frozen? ⟨w.heap.size + 1 + 1 + 1 + 1 + 1, 4, none⟩ = false := N.free 4
  have Nc5 : w1.cell? ⟨w.heap.size + 1 + 1 + 1 + 1 + 1, 5, none⟩ = some (.int .i64 (min (s.age + 1) p.age)) := N.cell 5
  have Nf5 : w1.frozen? ⟨w.heap.size + 1 + 1 + 1 + 1 + 1, 5, none⟩ = false := N.free 5
  have Nz : w.heap.size + 1 + 1 + 1 + 1 + 1 < w1.heap.size := N.lt
  go_wp2_with fail
  have hY := (((((((R.other (a := ⟨w.heap.size + 1 + 1 + 1 + 1 + 1, 0, none⟩) (by simp <;> omega) (.int .i64 (min p.top (s.level + x.feed - min (s.level + x.feed) (p.rate * s.position))))).set 0 (.int .i64 (min p.top (s.level + x.feed - min (s.level + x.feed) (p.rate * s.position))))).set 1 (.int .i64 (s.position))).set 2 (.int .i64 (s.p0))).set 3 (.int .i64 (s.p1))).set 4 (.int .i64 (s.order))).set 5 (.int .i64 (min (s.age + 1) p.age)))
  have hB := (((((((hB.setCell (p := ⟨w.heap.size + 1 + 1 + 1 + 1 + 1, 0, none⟩) (by simp <;> omega) (.int .i64 (min p.top (s.level + x.feed - min (s.level + x.feed) (p.rate * s.position))))).setCell (p := ⟨w.heap.size + 1 + 1 + 1 + 1, 0, none⟩) (by simp <;> omega) (.int .i64 (min p.top (s.level + x.feed - min (s.level + x.feed) (p.rate * s.position))))).setCell (p := ⟨w.heap.size + 1 + 1 + 1 + 1, 1, none⟩) (by simp <;> omega) (.int .i64 (s.position))).setCell (p := ⟨w.heap.size + 1 + 1 + 1 + 1, 2, none⟩) (by simp <;> omega) (.int .i64 (s.p0))).setCell (p := ⟨w.heap.size + 1 + 1 + 1 + 1, 3, none⟩) (by simp <;> omega) (.int .i64 (s.p1))).setCell (p := ⟨w.heap.size + 1 + 1 + 1 + 1, 4, none⟩) (by simp <;> omega) (.int .i64 (s.order))).setCell (p := ⟨w.heap.size + 1 + 1 + 1 + 1, 5, none⟩) (by simp <;> omega) (.int .i64 (min (s.age + 1) p.age)))
  generalize (((((((w1.setCell ⟨w.heap.size + 1 + 1 + 1 + 1 + 1, 0, none⟩ (.int .i64 (min p.top (s.level + x.feed - min (s.level + x.feed) (p.rate * s.position))))).setCell ⟨w.heap.size + 1 + 1 + 1 + 1, 0, none⟩ (.int .i64 (min p.top (s.level + x.feed - min (s.level + x.feed) (p.rate * s.position))))).setCell ⟨w.heap.size + 1 + 1 + 1 + 1, 1, none⟩ (.int .i64 (s.position))).setCell ⟨w.heap.size + 1 + 1 + 1 + 1, 2, none⟩ (.int .i64 (s.p0))).setCell ⟨w.heap.size + 1 + 1 + 1 + 1, 3, none⟩ (.int .i64 (s.p1))).setCell ⟨w.heap.size + 1 + 1 + 1 + 1, 4, none⟩ (.int .i64 (s.order))).setCell ⟨w.heap.size + 1 + 1 + 1 + 1, 5, none⟩ (.int .i64 (min (s.age + 1) p.age))) = W at hY hB ⊢
  have y0 : W.cell? ⟨w.heap.size + 1 + 1 + 1 + 1, 0, none⟩ = some (.int .i64 (min p.top (s.level + x.feed - min (s.level + x.feed) (p.rate * s.position)))) := hY.cell 0
  have y1 : W.cell? ⟨w.heap.size + 1 + 1 + 1 + 1, 1, none⟩ = some (.int .i64 (s.position)) := hY.cell 1
  have y2 : W.cell? ⟨w.heap.size + 1 + 1 + 1 + 1, 2, none⟩ = some (.int .i64 (s.p0)) := hY.cell 2
  have y3 : W.cell? ⟨w.heap.size + 1 + 1 + 1 + 1, 3, none⟩ = some (.int .i64 (s.p1)) := hY.cell 3
  have y4 : W.cell? ⟨w.heap.size + 1 + 1 + 1 + 1, 4, none⟩ = some (.int .i64 (s.order)) := hY.cell 4
  have y5 : W.cell? ⟨w.heap.size + 1 + 1 + 1 + 1, 5, none⟩ = some (.int .i64 (min (s.age + 1) p.age)) := hY.cell 5
  clear Pc0 Sc0 hY
  refine bodyPost_ret (v := .tuple #[.agg #[.int .i64 (min p.top (s.level + x.feed - min (s.level + x.feed) (p.rate * s.position))), .int .i64 s.position, .int .i64 s.p0, .int .i64 s.p1, .int .i64 s.order, .int .i64 (min (s.age + 1) p.age)], .int .i64 (min (s.level + x.feed) (p.rate * s.position))]) (by simp [results, Try.results90, go_sem, y0, y1, y2, y3, y4, y5]) rfl ?_
  exact ⟨rfl, hB⟩

set_option maxRecDepth 100000 in
set_option maxHeartbeats 2000000 in
theorem rstep_001 (p : Pl) (code : List Ln) (V : Value) (s : St) (x : Sh) (w : World) (hC : Hid (CodeAt w w.heap.size V code)) (S : Small p s x) (g : Int)
    (hp : p.pipe = 0) (hm : x.msg < 0) (hR : Hid (runT code ⟨s.level, s.position, s.order, min (s.age + 1) p.age, x.feed⟩ = (g, true, 0))) (hg : 0 ≤ g ∧ g ≤ 1099511627776) :
    Calls Try.prog 90 #[p.v, .agg #[V], s.v, x.v] w fun e w' => e = .returned (.tuple #[.agg #[.int .i64 (min p.top (s.level + x.feed - min (s.level + x.feed) (p.rate * (max (s.position - p.step) (min (s.position + p.step) (min g p.positions)))))), .int .i64 (max (s.position - p.step) (min (s.position + p.step) (min g p.positions))), .int .i64 s.p0, .int .i64 s.p1, .int .i64 s.order, .int .i64 (min (s.age + 1) p.age)], .int .i64 (min (s.level + x.feed) (p.rate * (max (s.position - p.step) (min (s.position + p.step) (min g p.positions)))))]) ∧ Below w.heap.size w w' := by
  obtain ⟨⟨_, _⟩, ⟨_, _⟩, ⟨_, _⟩, ⟨_, _⟩, ⟨_, _⟩, ⟨_, _⟩, ⟨_, _⟩, ⟨_, _⟩, ⟨_, _⟩, ⟨_, _⟩, ⟨_, _⟩⟩ := S
  obtain ⟨_, _⟩ := hg
  have hM2 := mul_le4 (a := p.rate) (b := max (s.position - p.step) (min (s.position + p.step) (min g p.positions))) (A := 15) (B := 15) (by omega) (by omega)
  obtain ⟨_, _⟩ := hM2
  go_enter Try.func90, Try.ntmps90
  go_wp2_with fail
  have hB : Below w.heap.size w ((((((w.alloc (.cells #[.int .i64 p.top, .int .i64 p.bank, .int .i64 p.siphon, .int .i64 p.start, .int .i64 p.positions, .int .i64 p.rate, .int .i64 p.step, .int .i64 p.pass, .int .i64 p.feed, .int .i64 0, .int .i64 p.orders, .int .i64 p.age] 55)).alloc (.cells #[V] 63)).alloc (.cells #[.int .i64 s.level, .int .i64 s.position, .int .i64 s.p0, .int .i64 s.p1, .int .i64 s.order, .int .i64 s.age] 51)).alloc (.cells #[.int .i64 x.feed, .int .i64 x.msg] 71)).alloc (.cells #[.int .i64 0, .int .i64 0, .int .i64 0, .int .i64 0, .int .i64 0, .int .i64 0] 51)).alloc (.cells #[.int .i64 s.level, .int .i64 s.position, .int .i64 s.p0, .int .i64 s.p1, .int .i64 s.order, .int .i64 (min (s.age + 1) p.age)] 51)) := ((((((Below.refl _ _).alloc (by simp <;> omega) _).alloc (by simp <;> omega) _).alloc (by simp <;> omega) _).alloc (by simp <;> omega) _).alloc (by simp <;> omega) _).alloc (by simp <;> omega) _
  refine (rrun_at (r := ⟨s.level, s.position, s.order, min (s.age + 1) p.age, x.feed⟩) hR (hC.out.later hB)).mono ?_
  rintro e w1 ⟨rfl, hb⟩
  have P := (((((((Box.newAt (n := w.heap.size) [.int .i64 p.top, .int .i64 p.bank, .int .i64 p.siphon, .int .i64 p.start, .int .i64 p.positions, .int .i64 p.rate, .int .i64 p.step, .int .i64 p.pass, .int .i64 p.feed, .int .i64 0, .int .i64 p.orders, .int .i64 p.age] 55 (by simp)).alloc _).alloc _).alloc _).alloc _).alloc _)).later hb
  have S := (((((Box.newAt (n := w.heap.size + 1 + 1) [.int .i64 s.level, .int .i64 s.position, .int .i64 s.p0, .int .i64 s.p1, .int .i64 s.order, .int .i64 s.age] 51 (by simp)).alloc _).alloc _).alloc _)).later hb
  have R := (((Box.newAt (n := w.heap.size + 1 + 1 + 1 + 1) [.int .i64 0, .int .i64 0, .int .i64 0, .int .i64 0, .int .i64 0, .int .i64 0] 51 (by simp)).alloc _)).later hb
  have N := ((Box.newAt (n := w.heap.size + 1 + 1 + 1 + 1 + 1) [.int .i64 s.level, .int .i64 s.position, .int .i64 s.p0, .int .i64 s.p1, .int .i64 s.order, .int .i64 (min (s.age + 1) p.age)] 51 (by simp))).later hb
  have hB := hB.trans (hb.mono hB.size)
  clear hb
  have Pc0 : w1.cell? ⟨w.heap.size, 0, none⟩ = some (.int .i64 (p.top)) := P.cell 0
  have Pc1 : w1.cell? ⟨w.heap.size, 1, none⟩ = some (.int .i64 (p.bank)) := P.cell 1
  have Pc2 : w1.cell? ⟨w.heap.size, 2, none⟩ = some (.int .i64 (p.siphon)) := P.cell 2
  have Pc3 : w1.cell? ⟨w.heap.size, 3, none⟩ = some (.int .i64 (p.start)) := P.cell 3
  have Pc4 : w1.cell? ⟨w.heap.size, 4, none⟩ = some (.int .i64 (p.positions)) := P.cell 4
  have Pc5 : w1.cell? ⟨w.heap.size, 5, none⟩ = some (.int .i64 (p.rate)) := P.cell 5
  have Pc6 : w1.cell? ⟨w.heap.size, 6, none⟩ = some (.int .i64 (p.step)) := P.cell 6
  have Pc7 : w1.cell? ⟨w.heap.size, 7, none⟩ = some (.int .i64 (p.pass)) := P.cell 7
  have Pc8 : w1.cell? ⟨w.heap.size, 8, none⟩ = some (.int .i64 (p.feed)) := P.cell 8
  have Pc9 : w1.cell? ⟨w.heap.size, 9, none⟩ = some (.int .i64 (0)) := P.cell 9
  have Pc10 : w1.cell? ⟨w.heap.size, 10, none⟩ = some (.int .i64 (p.orders)) := P.cell 10
  have Pc11 : w1.cell? ⟨w.heap.size, 11, none⟩ = some (.int .i64 (p.age)) := P.cell 11
  have Sc0 : w1.cell? ⟨w.heap.size + 1 + 1, 0, none⟩ = some (.int .i64 (s.level)) := S.cell 0
  have Sc1 : w1.cell? ⟨w.heap.size + 1 + 1, 1, none⟩ = some (.int .i64 (s.position)) := S.cell 1
  have Sc2 : w1.cell? ⟨w.heap.size + 1 + 1, 2, none⟩ = some (.int .i64 (s.p0)) := S.cell 2
  have Sc3 : w1.cell? ⟨w.heap.size + 1 + 1, 3, none⟩ = some (.int .i64 (s.p1)) := S.cell 3
  have Sc4 : w1.cell? ⟨w.heap.size + 1 + 1, 4, none⟩ = some (.int .i64 (s.order)) := S.cell 4
  have Sc5 : w1.cell? ⟨w.heap.size + 1 + 1, 5, none⟩ = some (.int .i64 (s.age)) := S.cell 5
  have Rc0 : w1.cell? ⟨w.heap.size + 1 + 1 + 1 + 1, 0, none⟩ = some (.int .i64 (0)) := R.cell 0
  have Rf0 : w1.frozen? ⟨w.heap.size + 1 + 1 + 1 + 1, 0, none⟩ = false := R.free 0
  have Rc1 : w1.cell? ⟨w.heap.size + 1 + 1 + 1 + 1, 1, none⟩ = some (.int .i64 (0)) := R.cell 1
  have Rf1 : w1.frozen? ⟨w.heap.size + 1 + 1 + 1 + 1, 1, none⟩ = false := R.free 1
  have Rc2 : w1.cell? ⟨w.heap.size + 1 + 1 + 1 + 1, 2, none⟩ = some (.int .i64 (0)) := R.cell 2
  have Rf2 : w1.frozen? ⟨w.heap.size + 1 + 1 + 1 + 1, 2, none⟩ = false := R.free 2
  have Rc3 : w1.cell? ⟨w.heap.size + 1 + 1 + 1 + 1, 3, none⟩ = some (.int .i64 (0)) := R.cell 3
  have Rf3 : w1.frozen? ⟨w.heap.size + 1 + 1 + 1 + 1, 3, none⟩ = false := R.free 3
  have Rc4 : w1.cell? ⟨w.heap.size + 1 + 1 + 1 + 1, 4, none⟩ = some (.int .i64 (0)) := R.cell 4
  have Rf4 : w1.frozen? ⟨w.heap.size + 1 + 1 + 1 + 1, 4, none⟩ = false := R.free 4
  have Rc5 : w1.cell? ⟨w.heap.size + 1 + 1 + 1 + 1, 5, none⟩ = some (.int .i64 (0)) := R.cell 5
  have Rf5 : w1.frozen? ⟨w.heap.size + 1 + 1 + 1 + 1, 5, none⟩ = false := R.free 5
  have Rz : w.heap.size + 1 + 1 + 1 + 1 < w1.heap.size := R.lt
  have Nc0 : w1.cell? ⟨w.heap.size + 1 + 1 + 1 + 1 + 1, 0, none⟩ = some (.int .i64 (s.level)) := N.cell 0
  have Nf0 : w1.frozen? ⟨w.heap.size + 1 + 1 + 1 + 1 + 1, 0, none⟩ = false := N.free 0
  have Nc1 : w1.cell? ⟨w.heap.size + 1 + 1 + 1 + 1 + 1, 1, none⟩ = some (.int .i64 (s.position)) := N.cell 1
  have Nf1 : w1.frozen? ⟨w.heap.size + 1 + 1 + 1 + 1 + 1, 1, none⟩ = false := N.free 1
  have Nc2 : w1.cell? ⟨w.heap.size + 1 + 1 + 1 + 1 + 1, 2, none⟩ = some (.int .i64 (s.p0)) := N.cell 2
  have Nf2 : w1.frozen? ⟨w.heap.size + 1 + 1 + 1 + 1 + 1, 2, none⟩ = false := N.free 2
  have Nc3 : w1.cell? ⟨w.heap.size + 1 + 1 + 1 + 1 + 1, 3, none⟩ = some (.int .i64 (s.p1)) := N.cell 3
  have Nf3 : w1.frozen? ⟨w.heap.size + 1 + 1 + 1 + 1 + 1, 3, none⟩ = false := N.free 3
  have Nc4 : w1.cell? ⟨w.heap.size + 1 + 1 + 1 + 1 + 1, 4, none⟩ = some (.int .i64 (s.order)) := N.cell 4
  have Nf4 : w1.frozen? ⟨w.heap.size + 1 + 1 + 1 + 1 + 1, 4, none⟩ = false := N.free 4
  have Nc5 : w1.cell? ⟨w.heap.size + 1 + 1 + 1 + 1 + 1, 5, none⟩ = some (.int .i64 (min (s.age + 1) p.age)) := N.cell 5
  have Nf5 : w1.frozen? ⟨w.heap.size + 1 + 1 + 1 + 1 + 1, 5, none⟩ = false := N.free 5
  have Nz : w.heap.size + 1 + 1 + 1 + 1 + 1 < w1.heap.size := N.lt
  go_wp2_with fail
  have hY := ((((((((R.other (a := ⟨w.heap.size + 1 + 1 + 1 + 1 + 1, 1, none⟩) (by simp <;> omega) (.int .i64 (max (s.position - p.step) (min (s.position + p.step) (min g p.positions))))).other (a := ⟨w.heap.size + 1 + 1 + 1 + 1 + 1, 0, none⟩) (by simp <;> omega) (.int .i64 (min p.top (s.level + x.feed - min (s.level + x.feed) (p.rate * (max (s.position - p.step) (min (s.position + p.step) (min g p.positions)))))))).set 0 (.int .i64 (min p.top (s.level + x.feed - min (s.level + x.feed) (p.rate * (max (s.position - p.step) (min (s.position + p.step) (min g p.positions)))))))).set 1 (.int .i64 (max (s.position - p.step) (min (s.position + p.step) (min g p.positions))))).set 2 (.int .i64 (s.p0))).set 3 (.int .i64 (s.p1))).set 4 (.int .i64 (s.order))).set 5 (.int .i64 (min (s.age + 1) p.age)))
  have hB := ((((((((hB.setCell (p := ⟨w.heap.size + 1 + 1 + 1 + 1 + 1, 1, none⟩) (by simp <;> omega) (.int .i64 (max (s.position - p.step) (min (s.position + p.step) (min g p.positions))))).setCell (p := ⟨w.heap.size + 1 + 1 + 1 + 1 + 1, 0, none⟩) (by simp <;> omega) (.int .i64 (min p.top (s.level + x.feed - min (s.level + x.feed) (p.rate * (max (s.position - p.step) (min (s.position + p.step) (min g p.positions)))))))).setCell (p := ⟨w.heap.size + 1 + 1 + 1 + 1, 0, none⟩) (by simp <;> omega) (.int .i64 (min p.top (s.level + x.feed - min (s.level + x.feed) (p.rate * (max (s.position - p.step) (min (s.position + p.step) (min g p.positions)))))))).setCell (p := ⟨w.heap.size + 1 + 1 + 1 + 1, 1, none⟩) (by simp <;> omega) (.int .i64 (max (s.position - p.step) (min (s.position + p.step) (min g p.positions))))).setCell (p := ⟨w.heap.size + 1 + 1 + 1 + 1, 2, none⟩) (by simp <;> omega) (.int .i64 (s.p0))).setCell (p := ⟨w.heap.size + 1 + 1 + 1 + 1, 3, none⟩) (by simp <;> omega) (.int .i64 (s.p1))).setCell (p := ⟨w.heap.size + 1 + 1 + 1 + 1, 4, none⟩) (by simp <;> omega) (.int .i64 (s.order))).setCell (p := ⟨w.heap.size + 1 + 1 + 1 + 1, 5, none⟩) (by simp <;> omega) (.int .i64 (min (s.age + 1) p.age)))
  generalize ((((((((w1.setCell ⟨w.heap.size + 1 + 1 + 1 + 1 + 1, 1, none⟩ (.int .i64 (max (s.position - p.step) (min (s.position + p.step) (min g p.positions))))).setCell ⟨w.heap.size + 1 + 1 + 1 + 1 + 1, 0, none⟩ (.int .i64 (min p.top (s.level + x.feed - min (s.level + x.feed) (p.rate * (max (s.position - p.step) (min (s.position + p.step) (min g p.positions)))))))).setCell ⟨w.heap.size + 1 + 1 + 1 + 1, 0, none⟩ (.int .i64 (min p.top (s.level + x.feed - min (s.level + x.feed) (p.rate * (max (s.position - p.step) (min (s.position + p.step) (min g p.positions)))))))).setCell ⟨w.heap.size + 1 + 1 + 1 + 1, 1, none⟩ (.int .i64 (max (s.position - p.step) (min (s.position + p.step) (min g p.positions))))).setCell ⟨w.heap.size + 1 + 1 + 1 + 1, 2, none⟩ (.int .i64 (s.p0))).setCell ⟨w.heap.size + 1 + 1 + 1 + 1, 3, none⟩ (.int .i64 (s.p1))).setCell ⟨w.heap.size + 1 + 1 + 1 + 1, 4, none⟩ (.int .i64 (s.order))).setCell ⟨w.heap.size + 1 + 1 + 1 + 1, 5, none⟩ (.int .i64 (min (s.age + 1) p.age))) = W at hY hB ⊢
  have y0 : W.cell? ⟨w.heap.size + 1 + 1 + 1 + 1, 0, none⟩ = some (.int .i64 (min p.top (s.level + x.feed - min (s.level + x.feed) (p.rate * (max (s.position - p.step) (min (s.position + p.step) (min g p.positions))))))) := hY.cell 0
  have y1 : W.cell? ⟨w.heap.size + 1 + 1 + 1 + 1, 1, none⟩ = some (.int .i64 (max (s.position - p.step) (min (s.position + p.step) (min g p.positions)))) := hY.cell 1
  have y2 : W.cell? ⟨w.heap.size + 1 + 1 + 1 + 1, 2, none⟩ = some (.int .i64 (s.p0)) := hY.cell 2
  have y3 : W.cell? ⟨w.heap.size + 1 + 1 + 1 + 1, 3, none⟩ = some (.int .i64 (s.p1)) := hY.cell 3
  have y4 : W.cell? ⟨w.heap.size + 1 + 1 + 1 + 1, 4, none⟩ = some (.int .i64 (s.order)) := hY.cell 4
  have y5 : W.cell? ⟨w.heap.size + 1 + 1 + 1 + 1, 5, none⟩ = some (.int .i64 (min (s.age + 1) p.age)) := hY.cell 5
  clear Pc0 Sc0 hY
  refine bodyPost_ret (v := .tuple #[.agg #[.int .i64 (min p.top (s.level + x.feed - min (s.level + x.feed) (p.rate * (max (s.position - p.step) (min (s.position + p.step) (min g p.positions)))))), .int .i64 (max (s.position - p.step) (min (s.position + p.step) (min g p.positions))), .int .i64 s.p0, .int .i64 s.p1, .int .i64 s.order, .int .i64 (min (s.age + 1) p.age)], .int .i64 (min (s.level + x.feed) (p.rate * (max (s.position - p.step) (min (s.position + p.step) (min g p.positions)))))]) (by simp [results, Try.results90, go_sem, y0, y1, y2, y3, y4, y5]) rfl ?_
  exact ⟨rfl, hB⟩

set_option maxRecDepth 100000 in
set_option maxHeartbeats 2000000 in
theorem rstep_010 (p : Pl) (code : List Ln) (V : Value) (s : St) (x : Sh) (w : World) (hC : Hid (CodeAt w w.heap.size V code)) (S : Small p s x) (g : Int)
    (hp : p.pipe = 1) (hm : x.msg < 0) (hR : Hid (runT code ⟨s.level, s.position, s.order, min (s.age + 1) p.age, s.p0⟩ = (g, false, 0))) (hg : 0 ≤ g ∧ g ≤ 1099511627776) :
    Calls Try.prog 90 #[p.v, .agg #[V], s.v, x.v] w fun e w' => e = .returned (.tuple #[.agg #[.int .i64 (min p.top (s.level + s.p0 - min (s.level + s.p0) (p.rate * s.position))), .int .i64 s.position, .int .i64 x.feed, .int .i64 0, .int .i64 s.order, .int .i64 (min (s.age + 1) p.age)], .int .i64 (min (s.level + s.p0) (p.rate * s.position))]) ∧ Below w.heap.size w w' := by
  obtain ⟨⟨_, _⟩, ⟨_, _⟩, ⟨_, _⟩, ⟨_, _⟩, ⟨_, _⟩, ⟨_, _⟩, ⟨_, _⟩, ⟨_, _⟩, ⟨_, _⟩, ⟨_, _⟩, ⟨_, _⟩⟩ := S
  obtain ⟨_, _⟩ := hg
  have hM2 := mul_le4 (a := p.rate) (b := s.position) (A := 15) (B := 15) (by omega) (by omega)
  obtain ⟨_, _⟩ := hM2
  go_enter Try.func90, Try.ntmps90
  go_wp2_with fail
  have hB : Below w.heap.size w ((((((w.alloc (.cells #[.int .i64 p.top, .int .i64 p.bank, .int .i64 p.siphon, .int .i64 p.start, .int .i64 p.positions, .int .i64 p.rate, .int .i64 p.step, .int .i64 p.pass, .int .i64 p.feed, .int .i64 1, .int .i64 p.orders, .int .i64 p.age] 55)).alloc (.cells #[V] 63)).alloc (.cells #[.int .i64 s.level, .int .i64 s.position, .int .i64 s.p0, .int .i64 s.p1, .int .i64 s.order, .int .i64 s.age] 51)).alloc (.cells #[.int .i64 x.feed, .int .i64 x.msg] 71)).alloc (.cells #[.int .i64 0, .int .i64 0, .int .i64 0, .int .i64 0, .int .i64 0, .int .i64 0] 51)).alloc (.cells #[.int .i64 s.level, .int .i64 s.position, .int .i64 x.feed, .int .i64 0, .int .i64 s.order, .int .i64 (min (s.age + 1) p.age)] 51)) := ((((((Below.refl _ _).alloc (by simp <;> omega) _).alloc (by simp <;> omega) _).alloc (by simp <;> omega) _).alloc (by simp <;> omega) _).alloc (by simp <;> omega) _).alloc (by simp <;> omega) _
  refine (rrun_at (r := ⟨s.level, s.position, s.order, min (s.age + 1) p.age, s.p0⟩) hR (hC.out.later hB)).mono ?_
  rintro e w1 ⟨rfl, hb⟩
  have P := (((((((Box.newAt (n := w.heap.size) [.int .i64 p.top, .int .i64 p.bank, .int .i64 p.siphon, .int .i64 p.start, .int .i64 p.positions, .int .i64 p.rate, .int .i64 p.step, .int .i64 p.pass, .int .i64 p.feed, .int .i64 1, .int .i64 p.orders, .int .i64 p.age] 55 (by simp)).alloc _).alloc _).alloc _).alloc _).alloc _)).later hb
  have S := (((((Box.newAt (n := w.heap.size + 1 + 1) [.int .i64 s.level, .int .i64 s.position, .int .i64 s.p0, .int .i64 s.p1, .int .i64 s.order, .int .i64 s.age] 51 (by simp)).alloc _).alloc _).alloc _)).later hb
  have R := (((Box.newAt (n := w.heap.size + 1 + 1 + 1 + 1) [.int .i64 0, .int .i64 0, .int .i64 0, .int .i64 0, .int .i64 0, .int .i64 0] 51 (by simp)).alloc _)).later hb
  have N := ((Box.newAt (n := w.heap.size + 1 + 1 + 1 + 1 + 1) [.int .i64 s.level, .int .i64 s.position, .int .i64 x.feed, .int .i64 0, .int .i64 s.order, .int .i64 (min (s.age + 1) p.age)] 51 (by simp))).later hb
  have hB := hB.trans (hb.mono hB.size)
  clear hb
  have Pc0 : w1.cell? ⟨w.heap.size, 0, none⟩ = some (.int .i64 (p.top)) := P.cell 0
  have Pc1 : w1.cell? ⟨w.heap.size, 1, none⟩ = some (.int .i64 (p.bank)) := P.cell 1
  have Pc2 : w1.cell? ⟨w.heap.size, 2, none⟩ = some (.int .i64 (p.siphon)) := P.cell 2
  have Pc3 : w1.cell? ⟨w.heap.size, 3, none⟩ = some (.int .i64 (p.start)) := P.cell 3
  have Pc4 : w1.cell? ⟨w.heap.size, 4, none⟩ = some (.int .i64 (p.positions)) := P.cell 4
  have Pc5 : w1.cell? ⟨w.heap.size, 5, none⟩ = some (.int .i64 (p.rate)) := P.cell 5
  have Pc6 : w1.cell? ⟨w.heap.size, 6, none⟩ = some (.int .i64 (p.step)) := P.cell 6
  have Pc7 : w1.cell? ⟨w.heap.size, 7, none⟩ = some (.int .i64 (p.pass)) := P.cell 7
  have Pc8 : w1.cell? ⟨w.heap.size, 8, none⟩ = some (.int .i64 (p.feed)) := P.cell 8
  have Pc9 : w1.cell? ⟨w.heap.size, 9, none⟩ = some (.int .i64 (1)) := P.cell 9
  have Pc10 : w1.cell? ⟨w.heap.size, 10, none⟩ = some (.int .i64 (p.orders)) := P.cell 10
  have Pc11 : w1.cell? ⟨w.heap.size, 11, none⟩ = some (.int .i64 (p.age)) := P.cell 11
  have Sc0 : w1.cell? ⟨w.heap.size + 1 + 1, 0, none⟩ = some (.int .i64 (s.level)) := S.cell 0
  have Sc1 : w1.cell? ⟨w.heap.size + 1 + 1, 1, none⟩ = some (.int .i64 (s.position)) := S.cell 1
  have Sc2 : w1.cell? ⟨w.heap.size + 1 + 1, 2, none⟩ = some (.int .i64 (s.p0)) := S.cell 2
  have Sc3 : w1.cell? ⟨w.heap.size + 1 + 1, 3, none⟩ = some (.int .i64 (s.p1)) := S.cell 3
  have Sc4 : w1.cell? ⟨w.heap.size + 1 + 1, 4, none⟩ = some (.int .i64 (s.order)) := S.cell 4
  have Sc5 : w1.cell? ⟨w.heap.size + 1 + 1, 5, none⟩ = some (.int .i64 (s.age)) := S.cell 5
  have Rc0 : w1.cell? ⟨w.heap.size + 1 + 1 + 1 + 1, 0, none⟩ = some (.int .i64 (0)) := R.cell 0
  have Rf0 : w1.frozen? ⟨w.heap.size + 1 + 1 + 1 + 1, 0, none⟩ = false := R.free 0
  have Rc1 : w1.cell? ⟨w.heap.size + 1 + 1 + 1 + 1, 1, none⟩ = some (.int .i64 (0)) := R.cell 1
  have Rf1 : w1.frozen? ⟨w.heap.size + 1 + 1 + 1 + 1, 1, none⟩ = false := R.free 1
  have Rc2 : w1.cell? ⟨w.heap.size + 1 + 1 + 1 + 1, 2, none⟩ = some (.int .i64 (0)) := R.cell 2
  have Rf2 : w1.frozen? ⟨w.heap.size + 1 + 1 + 1 + 1, 2, none⟩ = false := R.free 2
  have Rc3 : w1.cell? ⟨w.heap.size + 1 + 1 + 1 + 1, 3, none⟩ = some (.int .i64 (0)) := R.cell 3
  have Rf3 : w1.frozen? ⟨w.heap.size + 1 + 1 + 1 + 1, 3, none⟩ = false := R.free 3
  have Rc4 : w1.cell? ⟨w.heap.size + 1 + 1 + 1 + 1, 4, none⟩ = some (.int .i64 (0)) := R.cell 4
  have Rf4 : w1.frozen? ⟨w.heap.size + 1 + 1 + 1 + 1, 4, none⟩ = false := R.free 4
  have Rc5 : w1.cell? ⟨w.heap.size + 1 + 1 + 1 + 1, 5, none⟩ = some (.int .i64 (0)) := R.cell 5
  have Rf5 : w1.frozen? ⟨w.heap.size + 1 + 1 + 1 + 1, 5, none⟩ = false := R.free 5
  have Rz : w.heap.size + 1 + 1 + 1 + 1 < w1.heap.size := R.lt
  have Nc0 : w1.cell? ⟨w.heap.size + 1 + 1 + 1 + 1 + 1, 0, none⟩ = some (.int .i64 (s.level)) := N.cell 0
  have Nf0 : w1.frozen? ⟨w.heap.size + 1 + 1 + 1 + 1 + 1, 0, none⟩ = false := N.free 0
  have Nc1 : w1.cell? ⟨w.heap.size + 1 + 1 + 1 + 1 + 1, 1, none⟩ = some (.int .i64 (s.position)) := N.cell 1
  have Nf1 : w1.frozen? ⟨w.heap.size + 1 + 1 + 1 + 1 + 1, 1, none⟩ = false := N.free 1
  have Nc2 : w1.cell? ⟨w.heap.size + 1 + 1 + 1 + 1 + 1, 2, none⟩ = some (.int .i64 (x.feed)) := N.cell 2
  have Nf2 : w1.frozen? ⟨w.heap.size + 1 + 1 + 1 + 1 + 1, 2, none⟩ = false := N.free 2
  have Nc3 : w1.cell? ⟨w.heap.size + 1 + 1 + 1 + 1 + 1, 3, none⟩ = some (.int .i64 (0)) := N.cell 3
  have Nf3 : w1.frozen? ⟨w.heap.size + 1 + 1 + 1 + 1 + 1, 3, none⟩ = false := N.free 3
  have Nc4 : w1.cell? ⟨w.heap.size + 1 + 1 + 1 + 1 + 1, 4, none⟩ = some (.int .i64 (s.order)) := N.cell 4
  have Nf4 : w1.frozen? ⟨w.heap.size + 1 + 1 + 1 + 1 + 1, 4, none⟩ = false := N.free 4
  have Nc5 : w1.cell? ⟨w.heap.size + 1 + 1 + 1 + 1 + 1, 5, none⟩ = some (.int .i64 (min (s.age + 1) p.age)) := N.cell 5
  have Nf5 : w1.frozen? ⟨w.heap.size + 1 + 1 + 1 + 1 + 1, 5, none⟩ = false := N.free 5
  have Nz : w.heap.size + 1 + 1 + 1 + 1 + 1 < w1.heap.size := N.lt
  go_wp2_with fail
  have hY := (((((((R.other (a := ⟨w.heap.size + 1 + 1 + 1 + 1 + 1, 0, none⟩) (by simp <;> omega) (.int .i64 (min p.top (s.level + s.p0 - min (s.level + s.p0) (p.rate * s.position))))).set 0 (.int .i64 (min p.top (s.level + s.p0 - min (s.level + s.p0) (p.rate * s.position))))).set 1 (.int .i64 (s.position))).set 2 (.int .i64 (x.feed))).set 3 (.int .i64 (0))).set 4 (.int .i64 (s.order))).set 5 (.int .i64 (min (s.age + 1) p.age)))
  have hB := (((((((hB.setCell (p := ⟨w.heap.size + 1 + 1 + 1 + 1 + 1, 0, none⟩) (by simp <;> omega) (.int .i64 (min p.top (s.level + s.p0 - min (s.level + s.p0) (p.rate * s.position))))).setCell (p := ⟨w.heap.size + 1 + 1 + 1 + 1, 0, none⟩) (by simp <;> omega) (.int .i64 (min p.top (s.level + s.p0 - min (s.level + s.p0) (p.rate * s.position))))).setCell (p := ⟨w.heap.size + 1 + 1 + 1 + 1, 1, none⟩) (by simp <;> omega) (.int .i64 (s.position))).setCell (p := ⟨w.heap.size + 1 + 1 + 1 + 1, 2, none⟩) (by simp <;> omega) (.int .i64 (x.feed))).setCell (p := ⟨w.heap.size + 1 + 1 + 1 + 1, 3, none⟩) (by simp <;> omega) (.int .i64 (0))).setCell (p := ⟨w.heap.size + 1 + 1 + 1 + 1, 4, none⟩) (by simp <;> omega) (.int .i64 (s.order))).setCell (p := ⟨w.heap.size + 1 + 1 + 1 + 1, 5, none⟩) (by simp <;> omega) (.int .i64 (min (s.age + 1) p.age)))
  generalize (((((((w1.setCell ⟨w.heap.size + 1 + 1 + 1 + 1 + 1, 0, none⟩ (.int .i64 (min p.top (s.level + s.p0 - min (s.level + s.p0) (p.rate * s.position))))).setCell ⟨w.heap.size + 1 + 1 + 1 + 1, 0, none⟩ (.int .i64 (min p.top (s.level + s.p0 - min (s.level + s.p0) (p.rate * s.position))))).setCell ⟨w.heap.size + 1 + 1 + 1 + 1, 1, none⟩ (.int .i64 (s.position))).setCell ⟨w.heap.size + 1 + 1 + 1 + 1, 2, none⟩ (.int .i64 (x.feed))).setCell ⟨w.heap.size + 1 + 1 + 1 + 1, 3, none⟩ (.int .i64 (0))).setCell ⟨w.heap.size + 1 + 1 + 1 + 1, 4, none⟩ (.int .i64 (s.order))).setCell ⟨w.heap.size + 1 + 1 + 1 + 1, 5, none⟩ (.int .i64 (min (s.age + 1) p.age))) = W at hY hB ⊢
  have y0 : W.cell? ⟨w.heap.size + 1 + 1 + 1 + 1, 0, none⟩ = some (.int .i64 (min p.top (s.level + s.p0 - min (s.level + s.p0) (p.rate * s.position)))) := hY.cell 0
  have y1 : W.cell? ⟨w.heap.size + 1 + 1 + 1 + 1, 1, none⟩ = some (.int .i64 (s.position)) := hY.cell 1
  have y2 : W.cell? ⟨w.heap.size + 1 + 1 + 1 + 1, 2, none⟩ = some (.int .i64 (x.feed)) := hY.cell 2
  have y3 : W.cell? ⟨w.heap.size + 1 + 1 + 1 + 1, 3, none⟩ = some (.int .i64 (0)) := hY.cell 3
  have y4 : W.cell? ⟨w.heap.size + 1 + 1 + 1 + 1, 4, none⟩ = some (.int .i64 (s.order)) := hY.cell 4
  have y5 : W.cell? ⟨w.heap.size + 1 + 1 + 1 + 1, 5, none⟩ = some (.int .i64 (min (s.age + 1) p.age)) := hY.cell 5
  clear Pc0 Sc0 hY
  refine bodyPost_ret (v := .tuple #[.agg #[.int .i64 (min p.top (s.level + s.p0 - min (s.level + s.p0) (p.rate * s.position))), .int .i64 s.position, .int .i64 x.feed, .int .i64 0, .int .i64 s.order, .int .i64 (min (s.age + 1) p.age)], .int .i64 (min (s.level + s.p0) (p.rate * s.position))]) (by simp [results, Try.results90, go_sem, y0, y1, y2, y3, y4, y5]) rfl ?_
  exact ⟨rfl, hB⟩

set_option maxRecDepth 100000 in
set_option maxHeartbeats 2000000 in
theorem rstep_011 (p : Pl) (code : List Ln) (V : Value) (s : St) (x : Sh) (w : World) (hC : Hid (CodeAt w w.heap.size V code)) (S : Small p s x) (g : Int)
    (hp : p.pipe = 1) (hm : x.msg < 0) (hR : Hid (runT code ⟨s.level, s.position, s.order, min (s.age + 1) p.age, s.p0⟩ = (g, true, 0))) (hg : 0 ≤ g ∧ g ≤ 1099511627776) :
    Calls Try.prog 90 #[p.v, .agg #[V], s.v, x.v] w fun e w' => e = .returned (.tuple #[.agg #[.int .i64 (min p.top (s.level + s.p0 - min (s.level + s.p0) (p.rate * (max (s.position - p.step) (min (s.position + p.step) (min g p.positions)))))), .int .i64 (max (s.position - p.step) (min (s.position + p.step) (min g p.positions))), .int .i64 x.feed, .int .i64 0, .int .i64 s.order, .int .i64 (min (s.age + 1) p.age)], .int .i64 (min (s.level + s.p0) (p.rate * (max (s.position - p.step) (min (s.position + p.step) (min g p.positions)))))]) ∧ Below w.heap.size w w' := by
  obtain ⟨⟨_, _⟩, ⟨_, _⟩, ⟨_, _⟩, ⟨_, _⟩, ⟨_, _⟩, ⟨_, _⟩, ⟨_, _⟩, ⟨_, _⟩, ⟨_, _⟩, ⟨_, _⟩, ⟨_, _⟩⟩ := S
  obtain ⟨_, _⟩ := hg
  have hM2 := mul_le4 (a := p.rate) (b := max (s.position - p.step) (min (s.position + p.step) (min g p.positions))) (A := 15) (B := 15) (by omega) (by omega)
  obtain ⟨_, _⟩ := hM2
  go_enter Try.func90, Try.ntmps90
  go_wp2_with fail
  have hB : Below w.heap.size w ((((((w.alloc (.cells #[.int .i64 p.top, .int .i64 p.bank, .int .i64 p.siphon, .int .i64 p.start, .int .i64 p.positions, .int .i64 p.rate, .int .i64 p.step, .int .i64 p.pass, .int .i64 p.feed, .int .i64 1, .int .i64 p.orders, .int .i64 p.age] 55)).alloc (.cells #[V] 63)).alloc (.cells #[.int .i64 s.level, .int .i64 s.position, .int .i64 s.p0, .int .i64 s.p1, .int .i64 s.order, .int .i64 s.age] 51)).alloc (.cells #[.int .i64 x.feed, .int .i64 x.msg] 71)).alloc (.cells #[.int .i64 0, .int .i64 0, .int .i64 0, .int .i64 0, .int .i64 0, .int .i64 0] 51)).alloc (.cells #[.int .i64 s.level, .int .i64 s.position, .int .i64 x.feed, .int .i64 0, .int .i64 s.order, .int .i64 (min (s.age + 1) p.age)] 51)) := ((((((Below.refl _ _).alloc (by simp <;> omega) _).alloc (by simp <;> omega) _).alloc (by simp <;> omega) _).alloc (by simp <;> omega) _).alloc (by simp <;> omega) _).alloc (by simp <;> omega) _
  refine (rrun_at (r := ⟨s.level, s.position, s.order, min (s.age + 1) p.age, s.p0⟩) hR (hC.out.later hB)).mono ?_
  rintro e w1 ⟨rfl, hb⟩
  have P := (((((((Box.newAt (n := w.heap.size) [.int .i64 p.top, .int .i64 p.bank, .int .i64 p.siphon, .int .i64 p.start, .int .i64 p.positions, .int .i64 p.rate, .int .i64 p.step, .int .i64 p.pass, .int .i64 p.feed, .int .i64 1, .int .i64 p.orders, .int .i64 p.age] 55 (by simp)).alloc _).alloc _).alloc _).alloc _).alloc _)).later hb
  have S := (((((Box.newAt (n := w.heap.size + 1 + 1) [.int .i64 s.level, .int .i64 s.position, .int .i64 s.p0, .int .i64 s.p1, .int .i64 s.order, .int .i64 s.age] 51 (by simp)).alloc _).alloc _).alloc _)).later hb
  have R := (((Box.newAt (n := w.heap.size + 1 + 1 + 1 + 1) [.int .i64 0, .int .i64 0, .int .i64 0, .int .i64 0, .int .i64 0, .int .i64 0] 51 (by simp)).alloc _)).later hb
  have N := ((Box.newAt (n := w.heap.size + 1 + 1 + 1 + 1 + 1) [.int .i64 s.level, .int .i64 s.position, .int .i64 x.feed, .int .i64 0, .int .i64 s.order, .int .i64 (min (s.age + 1) p.age)] 51 (by simp))).later hb
  have hB := hB.trans (hb.mono hB.size)
  clear hb
  have Pc0 : w1.cell? ⟨w.heap.size, 0, none⟩ = some (.int .i64 (p.top)) := P.cell 0
  have Pc1 : w1.cell? ⟨w.heap.size, 1, none⟩ = some (.int .i64 (p.bank)) := P.cell 1
  have Pc2 : w1.cell? ⟨w.heap.size, 2, none⟩ = some (.int .i64 (p.siphon)) := P.cell 2
  have Pc3 : w1.cell? ⟨w.heap.size, 3, none⟩ = some (.int .i64 (p.start)) := P.cell 3
  have Pc4 : w1.cell? ⟨w.heap.size, 4, none⟩ = some (.int .i64 (p.positions)) := P.cell 4
  have Pc5 : w1.cell? ⟨w.heap.size, 5, none⟩ = some (.int .i64 (p.rate)) := P.cell 5
  have Pc6 : w1.cell? ⟨w.heap.size, 6, none⟩ = some (.int .i64 (p.step)) := P.cell 6
  have Pc7 : w1.cell? ⟨w.heap.size, 7, none⟩ = some (.int .i64 (p.pass)) := P.cell 7
  have Pc8 : w1.cell? ⟨w.heap.size, 8, none⟩ = some (.int .i64 (p.feed)) := P.cell 8
  have Pc9 : w1.cell? ⟨w.heap.size, 9, none⟩ = some (.int .i64 (1)) := P.cell 9
  have Pc10 : w1.cell? ⟨w.heap.size, 10, none⟩ = some (.int .i64 (p.orders)) := P.cell 10
  have Pc11 : w1.cell? ⟨w.heap.size, 11, none⟩ = some (.int .i64 (p.age)) := P.cell 11
  have Sc0 : w1.cell? ⟨w.heap.size + 1 + 1, 0, none⟩ = some (.int .i64 (s.level)) := S.cell 0
  have Sc1 : w1.cell? ⟨w.heap.size + 1 + 1, 1, none⟩ = some (.int .i64 (s.position)) := S.cell 1
  have Sc2 : w1.cell? ⟨w.heap.size + 1 + 1, 2, none⟩ = some (.int .i64 (s.p0)) := S.cell 2
  have Sc3 : w1.cell? ⟨w.heap.size + 1 + 1, 3, none⟩ = some (.int .i64 (s.p1)) := S.cell 3
  have Sc4 : w1.cell? ⟨w.heap.size + 1 + 1, 4, none⟩ = some (.int .i64 (s.order)) := S.cell 4
  have Sc5 : w1.cell? ⟨w.heap.size + 1 + 1, 5, none⟩ = some (.int .i64 (s.age)) := S.cell 5
  have Rc0 : w1.cell? ⟨w.heap.size + 1 + 1 + 1 + 1, 0, none⟩ = some (.int .i64 (0)) := R.cell 0
  have Rf0 : w1.frozen? ⟨w.heap.size + 1 + 1 + 1 + 1, 0, none⟩ = false := R.free 0
  have Rc1 : w1.cell? ⟨w.heap.size + 1 + 1 + 1 + 1, 1, none⟩ = some (.int .i64 (0)) := R.cell 1
  have Rf1 : w1.frozen? ⟨w.heap.size + 1 + 1 + 1 + 1, 1, none⟩ = false := R.free 1
  have Rc2 : w1.cell? ⟨w.heap.size + 1 + 1 + 1 + 1, 2, none⟩ = some (.int .i64 (0)) := R.cell 2
  have Rf2 : w1.frozen? ⟨w.heap.size + 1 + 1 + 1 + 1, 2, none⟩ = false := R.free 2
  have Rc3 : w1.cell? ⟨w.heap.size + 1 + 1 + 1 + 1, 3, none⟩ = some (.int .i64 (0)) := R.cell 3
  have Rf3 : w1.frozen? ⟨w.heap.size + 1 + 1 + 1 + 1, 3, none⟩ = false := R.free 3
  have Rc4 : w1.cell? ⟨w.heap.size + 1 + 1 + 1 + 1, 4, none⟩ = some (.int .i64 (0)) := R.cell 4
  have Rf4 : w1.frozen? ⟨w.heap.size + 1 + 1 + 1 + 1, 4, none⟩ = false := R.free 4
  have Rc5 : w1.cell? ⟨w.heap.size + 1 + 1 + 1 + 1, 5, none⟩ = some (.int .i64 (0)) := R.cell 5
  have Rf5 : w1.frozen? ⟨w.heap.size + 1 + 1 + 1 + 1, 5, none⟩ = false := R.free 5
  have Rz : w.heap.size + 1 + 1 + 1 + 1 < w1.heap.size := R.lt
  have Nc0 : w1.cell? ⟨w.heap.size + 1 + 1 + 1 + 1 + 1, 0, none⟩ = some (.int .i64 (s.level)) := N.cell 0
  have Nf0 : w1.frozen? ⟨w.heap.size + 1 + 1 + 1 + 1 + 1, 0, none⟩ = false := N.free 0
  have Nc1 : w1.cell? ⟨w.heap.size + 1 + 1 + 1 + 1 + 1, 1, none⟩ = some (.int .i64 (s.position)) := N.cell 1
  have Nf1 : w1.frozen? ⟨w.heap.size + 1 + 1 + 1 + 1 + 1, 1, none⟩ = false := N.free 1
  have Nc2 : w1.cell? ⟨w.heap.size + 1 + 1 + 1 + 1 + 1, 2, none⟩ = some (.int .i64 (x.feed)) := N.cell 2
  have Nf2 : w1.frozen? ⟨w.heap.size + 1 + 1 + 1 + 1 + 1, 2, none⟩ = false := N.free 2
  have Nc3 : w1.cell? ⟨w.heap.size + 1 + 1 + 1 + 1 + 1, 3, none⟩ = some (.int .i64 (0)) := N.cell 3
  have Nf3 : w1.frozen? ⟨w.heap.size + 1 + 1 + 1 + 1 + 1, 3, none⟩ = false := N.free 3
  have Nc4 : w1.cell? ⟨w.heap.size + 1 + 1 + 1 + 1 + 1, 4, none⟩ = some (.int .i64 (s.order)) := N.cell 4
  have Nf4 : w1.frozen? ⟨w.heap.size + 1 + 1 + 1 + 1 + 1, 4, none⟩ = false := N.free 4
  have Nc5 : w1.cell? ⟨w.heap.size + 1 + 1 + 1 + 1 + 1, 5, none⟩ = some (.int .i64 (min (s.age + 1) p.age)) := N.cell 5
  have Nf5 : w1.frozen? ⟨w.heap.size + 1 + 1 + 1 + 1 + 1, 5, none⟩ = false := N.free 5
  have Nz : w.heap.size + 1 + 1 + 1 + 1 + 1 < w1.heap.size := N.lt
  go_wp2_with fail
  have hY := ((((((((R.other (a := ⟨w.heap.size + 1 + 1 + 1 + 1 + 1, 1, none⟩) (by simp <;> omega) (.int .i64 (max (s.position - p.step) (min (s.position + p.step) (min g p.positions))))).other (a := ⟨w.heap.size + 1 + 1 + 1 + 1 + 1, 0, none⟩) (by simp <;> omega) (.int .i64 (min p.top (s.level + s.p0 - min (s.level + s.p0) (p.rate * (max (s.position - p.step) (min (s.position + p.step) (min g p.positions)))))))).set 0 (.int .i64 (min p.top (s.level + s.p0 - min (s.level + s.p0) (p.rate * (max (s.position - p.step) (min (s.position + p.step) (min g p.positions)))))))).set 1 (.int .i64 (max (s.position - p.step) (min (s.position + p.step) (min g p.positions))))).set 2 (.int .i64 (x.feed))).set 3 (.int .i64 (0))).set 4 (.int .i64 (s.order))).set 5 (.int .i64 (min (s.age + 1) p.age)))
  have hB := ((((((((hB.setCell (p := ⟨w.heap.size + 1 + 1 + 1 + 1 + 1, 1, none⟩) (by simp <;> omega) (.int .i64 (max (s.position - p.step) (min (s.position + p.step) (min g p.positions))))).setCell (p := ⟨w.heap.size + 1 + 1 + 1 + 1 + 1, 0, none⟩) (by simp <;> omega) (.int .i64 (min p.top (s.level + s.p0 - min (s.level + s.p0) (p.rate * (max (s.position - p.step) (min (s.position + p.step) (min g p.positions)))))))).setCell (p := ⟨w.heap.size + 1 + 1 + 1 + 1, 0, none⟩) (by simp <;> omega) (.int .i64 (min p.top (s.level + s.p0 - min (s.level + s.p0) (p.rate * (max (s.position - p.step) (min (s.position + p.step) (min g p.positions)))))))).setCell (p := ⟨w.heap.size + 1 + 1 + 1 + 1, 1, none⟩) (by simp <;> omega) (.int .i64 (max (s.position - p.step) (min (s.position + p.step) (min g p.positions))))).setCell (p := ⟨w.heap.size + 1 + 1 + 1 + 1, 2, none⟩) (by simp <;> omega) (.int .i64 (x.feed))).setCell (p := ⟨w.heap.size + 1 + 1 + 1 + 1, 3, none⟩) (by simp <;> omega) (.int .i64 (0))).setCell (p := ⟨w.heap.size + 1 + 1 + 1 + 1, 4, none⟩) (by simp <;> omega) (.int .i64 (s.order))).setCell (p := ⟨w.heap.size + 1 + 1 + 1 + 1, 5, none⟩) (by simp <;> omega) (.int .i64 (min (s.age + 1) p.age)))
  generalize ((((((((w1.setCell ⟨w.heap.size + 1 + 1 + 1 + 1 + 1, 1, none⟩ (.int .i64 (max (s.position - p.step) (min (s.position + p.step) (min g p.positions))))).setCell ⟨w.heap.size + 1 + 1 + 1 + 1 + 1, 0, none⟩ (.int .i64 (min p.top (s.level + s.p0 - min (s.level + s.p0) (p.rate * (max (s.position - p.step) (min (s.position + p.step) (min g p.positions)))))))).setCell ⟨w.heap.size + 1 + 1 + 1 + 1, 0, none⟩ (.int .i64 (min p.top (s.level + s.p0 - min (s.level + s.p0) (p.rate * (max (s.position - p.step) (min (s.position + p.step) (min g p.positions)))))))).setCell ⟨w.heap.size + 1 + 1 + 1 + 1, 1, none⟩ (.int .i64 (max (s.position - p.step) (min (s.position + p.step) (min g p.positions))))).setCell ⟨w.heap.size + 1 + 1 + 1 + 1, 2, none⟩ (.int .i64 (x.feed))).setCell ⟨w.heap.size + 1 + 1 + 1 + 1, 3, none⟩ (.int .i64 (0))).setCell ⟨w.heap.size + 1 + 1 + 1 + 1, 4, none⟩ (.int .i64 (s.order))).setCell ⟨w.heap.size + 1 + 1 + 1 + 1, 5, none⟩ (.int .i64 (min (s.age + 1) p.age))) = W at hY hB ⊢
  have y0 : W.cell? ⟨w.heap.size + 1 + 1 + 1 + 1, 0, none⟩ = some (.int .i64 (min p.top (s.level + s.p0 - min (s.level + s.p0) (p.rate * (max (s.position - p.step) (min (s.position + p.step) (min g p.positions))))))) := hY.cell 0
  have y1 : W.cell? ⟨w.heap.size + 1 + 1 + 1 + 1, 1, none⟩ = some (.int .i64 (max (s.position - p.step) (min (s.position + p.step) (min g p.positions)))) := hY.cell 1
  have y2 : W.cell? ⟨w.heap.size + 1 + 1 + 1 + 1, 2, none⟩ = some (.int .i64 (x.feed)) := hY.cell 2
  have y3 : W.cell? ⟨w.heap.size + 1 + 1 + 1 + 1, 3, none⟩ = some (.int .i64 (0)) := hY.cell 3
  have y4 : W.cell? ⟨w.heap.size + 1 + 1 + 1 + 1, 4, none⟩ = some (.int .i64 (s.order)) := hY.cell 4
  have y5 : W.cell? ⟨w.heap.size + 1 + 1 + 1 + 1, 5, none⟩ = some (.int .i64 (min (s.age + 1) p.age)) := hY.cell 5
  clear Pc0 Sc0 hY
  refine bodyPost_ret (v := .tuple #[.agg #[.int .i64 (min p.top (s.level + s.p0 - min (s.level + s.p0) (p.rate * (max (s.position - p.step) (min (s.position + p.step) (min g p.positions)))))), .int .i64 (max (s.position - p.step) (min (s.position + p.step) (min g p.positions))), .int .i64 x.feed, .int .i64 0, .int .i64 s.order, .int .i64 (min (s.age + 1) p.age)], .int .i64 (min (s.level + s.p0) (p.rate * (max (s.position - p.step) (min (s.position + p.step) (min g p.positions)))))]) (by simp [results, Try.results90, go_sem, y0, y1, y2, y3, y4, y5]) rfl ?_
  exact ⟨rfl, hB⟩

set_option maxRecDepth 100000 in
set_option maxHeartbeats 2000000 in
theorem rstep_020 (p : Pl) (code : List Ln) (V : Value) (s : St) (x : Sh) (w : World) (hC : Hid (CodeAt w w.heap.size V code)) (S : Small p s x) (g : Int)
    (hp : p.pipe = 2) (hm : x.msg < 0) (hR : Hid (runT code ⟨s.level, s.position, s.order, min (s.age + 1) p.age, s.p0⟩ = (g, false, 0))) (hg : 0 ≤ g ∧ g ≤ 1099511627776) :
    Calls Try.prog 90 #[p.v, .agg #[V], s.v, x.v] w fun e w' => e = .returned (.tuple #[.agg #[.int .i64 (min p.top (s.level + s.p0 - min (s.level + s.p0) (p.rate * s.position))), .int .i64 s.position, .int .i64 s.p1, .int .i64 x.feed, .int .i64 s.order, .int .i64 (min (s.age + 1) p.age)], .int .i64 (min (s.level + s.p0) (p.rate * s.position))]) ∧ Below w.heap.size w w' := by
  obtain ⟨⟨_, _⟩, ⟨_, _⟩, ⟨_, _⟩, ⟨_, _⟩, ⟨_, _⟩, ⟨_, _⟩, ⟨_, _⟩, ⟨_, _⟩, ⟨_, _⟩, ⟨_, _⟩, ⟨_, _⟩⟩ := S
  obtain ⟨_, _⟩ := hg
  have hM2 := mul_le4 (a := p.rate) (b := s.position) (A := 15) (B := 15) (by omega) (by omega)
  obtain ⟨_, _⟩ := hM2
  go_enter Try.func90, Try.ntmps90
  go_wp2_with fail
  have hB : Below w.heap.size w ((((((w.alloc (.cells #[.int .i64 p.top, .int .i64 p.bank, .int .i64 p.siphon, .int .i64 p.start, .int .i64 p.positions, .int .i64 p.rate, .int .i64 p.step, .int .i64 p.pass, .int .i64 p.feed, .int .i64 2, .int .i64 p.orders, .int .i64 p.age] 55)).alloc (.cells #[V] 63)).alloc (.cells #[.int .i64 s.level, .int .i64 s.position, .int .i64 s.p0, .int .i64 s.p1, .int .i64 s.order, .int .i64 s.age] 51)).alloc (.cells #[.int .i64 x.feed, .int .i64 x.msg] 71)).alloc (.cells #[.int .i64 0, .int .i64 0, .int .i64 0, .int .i64 0, .int .i64 0, .int .i64 0] 51)).alloc (.cells #[.int .i64 s.level, .int .i64 s.position, .int .i64 s.p1, .int .i64 x.feed, .int .i64 s.order, .int .i64 (min (s.age + 1) p.age)] 51)) := ((((((Below.refl _ _).alloc (by simp <;> omega) _).alloc (by simp <;> omega) _).alloc (by simp <;> omega) _).alloc (by simp <;> omega) _).alloc (by simp <;> omega) _).alloc (by simp <;> omega) _
  refine (rrun_at (r := ⟨s.level, s.position, s.order, min (s.age + 1) p.age, s.p0⟩) hR (hC.out.later hB)).mono ?_
  rintro e w1 ⟨rfl, hb⟩
  have P := (((((((Box.newAt (n := w.heap.size) [.int .i64 p.top, .int .i64 p.bank, .int .i64 p.siphon, .int .i64 p.start, .int .i64 p.positions, .int .i64 p.rate, .int .i64 p.step, .int .i64 p.pass, .int .i64 p.feed, .int .i64 2, .int .i64 p.orders, .int .i64 p.age] 55 (by simp)).alloc _).alloc _).alloc _).alloc _).alloc _)).later hb
  have S := (((((Box.newAt (n := w.heap.size + 1 + 1) [.int .i64 s.level, .int .i64 s.position, .int .i64 s.p0, .int .i64 s.p1, .int .i64 s.order, .int .i64 s.age] 51 (by simp)).alloc _).alloc _).alloc _)).later hb
  have R := (((Box.newAt (n := w.heap.size + 1 + 1 + 1 + 1) [.int .i64 0, .int .i64 0, .int .i64 0, .int .i64 0, .int .i64 0, .int .i64 0] 51 (by simp)).alloc _)).later hb
  have N := ((Box.newAt (n := w.heap.size + 1 + 1 + 1 + 1 + 1) [.int .i64 s.level, .int .i64 s.position, .int .i64 s.p1, .int .i64 x.feed, .int .i64 s.order, .int .i64 (min (s.age + 1) p.age)] 51 (by simp))).later hb
  have hB := hB.trans (hb.mono hB.size)
  clear hb
  have Pc0 : w1.cell? ⟨w.heap.size, 0, none⟩ = some (.int .i64 (p.top)) := P.cell 0
  have Pc1 : w1.cell? ⟨w.heap.size, 1, none⟩ = some (.int .i64 (p.bank)) := P.cell 1
  have Pc2 : w1.cell? ⟨w.heap.size, 2, none⟩ = some (.int .i64 (p.siphon)) := P.cell 2
  have Pc3 : w1.cell? ⟨w.heap.size, 3, none⟩ = some (.int .i64 (p.start)) := P.cell 3
  have Pc4 : w1.cell? ⟨w.heap.size, 4, none⟩ = some (.int .i64 (p.positions)) := P.cell 4
  have Pc5 : w1.cell? ⟨w.heap.size, 5, none⟩ = some (.int .i64 (p.rate)) := P.cell 5
  have Pc6 : w1.cell? ⟨w.heap.size, 6, none⟩ = some (.int .i64 (p.step)) := P.cell 6
  have Pc7 : w1.cell? ⟨w.heap.size, 7, none⟩ = some (.int .i64 (p.pass)) := P.cell 7
  have Pc8 : w1.cell? ⟨w.heap.size, 8, none⟩ = some (.int .i64 (p.feed)) := P.cell 8
  have Pc9 : w1.cell? ⟨w.heap.size, 9, none⟩ = some (.int .i64 (2)) := P.cell 9
  have Pc10 : w1.cell? ⟨w.heap.size, 10, none⟩ = some (.int .i64 (p.orders)) := P.cell 10
  have Pc11 : w1.cell? ⟨w.heap.size, 11, none⟩ = some (.int .i64 (p.age)) := P.cell 11
  have Sc0 : w1.cell? ⟨w.heap.size + 1 + 1, 0, none⟩ = some (.int .i64 (s.level)) := S.cell 0
  have Sc1 : w1.cell? ⟨w.heap.size + 1 + 1, 1, none⟩ = some (.int .i64 (s.position)) := S.cell 1
  have Sc2 : w1.cell? ⟨w.heap.size + 1 + 1, 2, none⟩ = some (.int .i64 (s.p0)) := S.cell 2
  have Sc3 : w1.cell? ⟨w.heap.size + 1 + 1, 3, none⟩ = some (.int .i64 (s.p1)) := S.cell 3
  have Sc4 : w1.cell? ⟨w.heap.size + 1 + 1, 4, none⟩ = some (.int .i64 (s.order)) := S.cell 4
  have Sc5 : w1.cell? ⟨w.heap.size + 1 + 1, 5, none⟩ = some (.int .i64 (s.age)) := S.cell 5
  have Rc0 : w1.cell? ⟨w.heap.size + 1 + 1 + 1 + 1, 0, none⟩ = some (.int .i64 (0)) := R.cell 0
  have Rf0 : w1.frozen? ⟨w.heap.size + 1 + 1 + 1 + 1, 0, none⟩ = false := R.free 0
  have Rc1 : w1.cell? ⟨w.heap.size + 1 + 1 + 1 + 1, 1, none⟩ = some (.int .i64 (0)) := R.cell 1
  have Rf1 : w1.frozen? ⟨w.heap.size + 1 + 1 + 1 + 1, 1, none⟩ = false := R.free 1
  have Rc2 : w1.cell? ⟨w.heap.size + 1 + 1 + 1 + 1, 2, none⟩ = some (.int .i64 (0)) := R.cell 2
  have Rf2 : w1.frozen? ⟨w.heap.size + 1 + 1 + 1 + 1, 2, none⟩ = false := R.free 2
  have Rc3 : w1.cell? ⟨w.heap.size + 1 + 1 + 1 + 1, 3, none⟩ = some (.int .i64 (0)) := R.cell 3
  have Rf3 : w1.frozen? ⟨w.heap.size + 1 + 1 + 1 + 1, 3, none⟩ = false := R.free 3
  have Rc4 : w1.cell? ⟨w.heap.size + 1 + 1 + 1 + 1, 4, none⟩ = some (.int .i64 (0)) := R.cell 4
  have Rf4 : w1.frozen? ⟨w.heap.size + 1 + 1 + 1 + 1, 4, none⟩ = false := R.free 4
  have Rc5 : w1.cell? ⟨w.heap.size + 1 + 1 + 1 + 1, 5, none⟩ = some (.int .i64 (0)) := R.cell 5
  have Rf5 : w1.frozen? ⟨w.heap.size + 1 + 1 + 1 + 1, 5, none⟩ = false := R.free 5
  have Rz : w.heap.size + 1 + 1 + 1 + 1 < w1.heap.size := R.lt
  have Nc0 : w1.cell? ⟨w.heap.size + 1 + 1 + 1 + 1 + 1, 0, none⟩ = some (.int .i64 (s.level)) := N.cell 0
  have Nf0 : w1.frozen? ⟨w.heap.size + 1 + 1 + 1 + 1 + 1, 0, none⟩ = false := N.free 0
  have Nc1 : w1.cell? ⟨w.heap.size + 1 + 1 + 1 + 1 + 1, 1, none⟩ = some (.int .i64 (s.position)) := N.cell 1
  have Nf1 : w1.frozen? ⟨w.heap.size + 1 + 1 + 1 + 1 + 1, 1, none⟩ = false := N.free 1
  have Nc2 : w1.cell? ⟨w.heap.size + 1 + 1 + 1 + 1 + 1, 2, none⟩ = some (.int .i64 (s.p1)) := N.cell 2
  have Nf2 : w1.frozen? ⟨w.heap.size + 1 + 1 + 1 + 1 + 1, 2, none⟩ = false := N.free 2
  have Nc3 : w1.cell? ⟨w.heap.size + 1 + 1 + 1 + 1 + 1, 3, none⟩ = some (.int .i64 (x.feed)) := N.cell 3
  have Nf3 : w1.frozen? ⟨w.heap.size + 1 + 1 + 1 + 1 + 1, 3, none⟩ = false := N.free 3
  have Nc4 : w1.cell? ⟨w.heap.size + 1 + 1 + 1 + 1 + 1, 4, none⟩ = some (.int .i64 (s.order)) := N.cell 4
  have Nf4 : w1.frozen? ⟨w.heap.size + 1 + 1 + 1 + 1 + 1, 4, none⟩ = false := N.free 4
  have Nc5 : w1.cell? ⟨w.heap.size + 1 + 1 + 1 + 1 + 1, 5, none⟩ = some (.int .i64 (min (s.age + 1) p.age)) := N.cell 5
  have Nf5 : w1.frozen? ⟨w.heap.size + 1 + 1 + 1 + 1 + 1, 5, none⟩ = false := N.free 5
  have Nz : w.heap.size + 1 + 1 + 1 + 1 + 1 < w1.heap.size := N.lt
  go_wp2_with fail
  have hY := (((((((R.other (a := ⟨w.heap.size + 1 + 1 + 1 + 1 + 1, 0, none⟩) (by simp <;> omega) (.int .i64 (min p.top (s.level + s.p0 - min (s.level + s.p0) (p.rate * s.position))))).set 0 (.int .i64 (min p.top (s.level + s.p0 - min (s.level + s.p0) (p.rate * s.position))))).set 1 (.int .i64 (s.position))).set 2 (.int .i64 (s.p1))).set 3 (.int .i64 (x.feed))).set 4 (.int .i64 (s.order))).set 5 (.int .i64 (min (s.age + 1) p.age)))
  have hB := (((((((hB.setCell (p := ⟨w.heap.size + 1 + 1 + 1 + 1 + 1, 0, none⟩) (by simp <;> omega) (.int .i64 (min p.top (s.level + s.p0 - min (s.level + s.p0) (p.rate * s.position))))).setCell (p := ⟨w.heap.size + 1 + 1 + 1 + 1, 0, none⟩) (by simp <;> omega) (.int .i64 (min p.top (s.level + s.p0 - min (s.level + s.p0) (p.rate * s.position))))).setCell (p := ⟨w.heap.size + 1 + 1 + 1 + 1, 1, none⟩) (by simp <;> omega) (.int .i64 (s.position))).setCell (p := ⟨w.heap.size + 1 + 1 + 1 + 1, 2, none⟩) (by simp <;> omega) (.int .i64 (s.p1))).setCell (p := ⟨w.heap.size + 1 + 1 + 1 + 1, 3, none⟩) (by simp <;> omega) (.int .i64 (x.feed))).setCell (p := ⟨w.heap.size + 1 + 1 + 1 + 1, 4, none⟩) (by simp <;> omega) (.int .i64 (s.order))).setCell (p := ⟨w.heap.size + 1 + 1 + 1 + 1, 5, none⟩) (by simp <;> omega) (.int .i64 (min (s.age + 1) p.age)))
  generalize (((((((w1.setCell ⟨w.heap.size + 1 + 1 + 1 + 1 + 1, 0, none⟩ (.int .i64 (min p.top (s.level + s.p0 - min (s.level + s.p0) (p.rate * s.position))))).setCell ⟨w.heap.size + 1 + 1 + 1 + 1, 0, none⟩ (.int .i64 (min p.top (s.level + s.p0 - min (s.level + s.p0) (p.rate * s.position))))).setCell ⟨w.heap.size + 1 + 1 + 1 + 1, 1, none⟩ (.int .i64 (s.position))).setCell ⟨w.heap.size + 1 + 1 + 1 + 1, 2, none⟩ (.int .i64 (s.p1))).setCell ⟨w.heap.size + 1 + 1 + 1 + 1, 3, none⟩ (.int .i64 (x.feed))).setCell ⟨w.heap.size + 1 + 1 + 1 + 1, 4, none⟩ (.int .i64 (s.order))).setCell ⟨w.heap.size + 1 + 1 + 1 + 1, 5, none⟩ (.int .i64 (min (s.age + 1) p.age))) = W at hY hB ⊢
  have y0 : W.cell? ⟨w.heap.size + 1 + 1 + 1 + 1, 0, none⟩ = some (.int .i64 (min p.top (s.level + s.p0 - min (s.level + s.p0) (p.rate * s.position)))) := hY.cell 0
  have y1 : W.cell? ⟨w.heap.size + 1 + 1 + 1 + 1, 1, none⟩ = some (.int .i64 (s.position)) := hY.cell 1
  have y2 : W.cell? ⟨w.heap.size + 1 + 1 + 1 + 1, 2, none⟩ = some (.int .i64 (s.p1)) := hY.cell 2
  have y3 : W.cell? ⟨w.heap.size + 1 + 1 + 1 + 1, 3, none⟩ = some (.int .i64 (x.feed)) := hY.cell 3
  have y4 : W.cell? ⟨w.heap.size + 1 + 1 + 1 + 1, 4, none⟩ = some (.int .i64 (s.order)) := hY.cell 4
  have y5 : W.cell? ⟨w.heap.size + 1 + 1 + 1 + 1, 5, none⟩ = some (.int .i64 (min (s.age + 1) p.age)) := hY.cell 5
  clear Pc0 Sc0 hY
  refine bodyPost_ret (v := .tuple #[.agg #[.int .i64 (min p.top (s.level + s.p0 - min (s.level + s.p0) (p.rate * s.position))), .int .i64 s.position, .int .i64 s.p1, .int .i64 x.feed, .int .i64 s.order, .int .i64 (min (s.age + 1) p.age)], .int .i64 (min (s.level + s.p0) (p.rate * s.position))]) (by simp [results, Try.results90, go_sem, y0, y1, y2, y3, y4, y5]) rfl ?_
  exact ⟨rfl, hB⟩

set_option maxRecDepth 100000 in
set_option maxHeartbeats 2000000 in
theorem rstep_021 (p : Pl) (code : List Ln) (V : Value) (s : St) (x : Sh) (w : World) (hC : Hid (CodeAt w w.heap.size V code)) (S : Small p s x) (g : Int)
    (hp : p.pipe = 2) (hm : x.msg < 0) (hR : Hid (runT code ⟨s.level, s.position, s.order, min (s.age + 1) p.age, s.p0⟩ = (g, true, 0))) (hg : 0 ≤ g ∧ g ≤ 1099511627776) :
    Calls Try.prog 90 #[p.v, .agg #[V], s.v, x.v] w fun e w' => e = .returned (.tuple #[.agg #[.int .i64 (min p.top (s.level + s.p0 - min (s.level + s.p0) (p.rate * (max (s.position - p.step) (min (s.position + p.step) (min g p.positions)))))), .int .i64 (max (s.position - p.step) (min (s.position + p.step) (min g p.positions))), .int .i64 s.p1, .int .i64 x.feed, .int .i64 s.order, .int .i64 (min (s.age + 1) p.age)], .int .i64 (min (s.level + s.p0) (p.rate * (max (s.position - p.step) (min (s.position + p.step) (min g p.positions)))))]) ∧ Below w.heap.size w w' := by
  obtain ⟨⟨_, _⟩, ⟨_, _⟩, ⟨_, _⟩, ⟨_, _⟩, ⟨_, _⟩, ⟨_, _⟩, ⟨_, _⟩, ⟨_, _⟩, ⟨_, _⟩, ⟨_, _⟩, ⟨_, _⟩⟩ := S
  obtain ⟨_, _⟩ := hg
  have hM2 := mul_le4 (a := p.rate) (b := max (s.position - p.step) (min (s.position + p.step) (min g p.positions))) (A := 15) (B := 15) (by omega) (by omega)
  obtain ⟨_, _⟩ := hM2
  go_enter Try.func90, Try.ntmps90
  go_wp2_with fail
  have hB : Below w.heap.size w ((((((w.alloc (.cells #[.int .i64 p.top, .int .i64 p.bank, .int .i64 p.siphon, .int .i64 p.start, .int .i64 p.positions, .int .i64 p.rate, .int .i64 p.step, .int .i64 p.pass, .int .i64 p.feed, .int .i64 2, .int .i64 p.orders, .int .i64 p.age] 55)).alloc (.cells #[V] 63)).alloc (.cells #[.int .i64 s.level, .int .i64 s.position, .int .i64 s.p0, .int .i64 s.p1, .int .i64 s.order, .int .i64 s.age] 51)).alloc (.cells #[.int .i64 x.feed, .int .i64 x.msg] 71)).alloc (.cells #[.int .i64 0, .int .i64 0, .int .i64 0, .int .i64 0, .int .i64 0, .int .i64 0] 51)).alloc (.cells #[.int .i64 s.level, .int .i64 s.position, .int .i64 s.p1, .int .i64 x.feed, .int .i64 s.order, .int .i64 (min (s.age + 1) p.age)] 51)) := ((((((Below.refl _ _).alloc (by simp <;> omega) _).alloc (by simp <;> omega) _).alloc (by simp <;> omega) _).alloc (by simp <;> omega) _).alloc (by simp <;> omega) _).alloc (by simp <;> omega) _
  refine (rrun_at (r := ⟨s.level, s.position, s.order, min (s.age + 1) p.age, s.p0⟩) hR (hC.out.later hB)).mono ?_
  rintro e w1 ⟨rfl, hb⟩
  have P := (((((((Box.newAt (n := w.heap.size) [.int .i64 p.top, .int .i64 p.bank, .int .i64 p.siphon, .int .i64 p.start, .int .i64 p.positions, .int .i64 p.rate, .int .i64 p.step, .int .i64 p.pass, .int .i64 p.feed, .int .i64 2, .int .i64 p.orders, .int .i64 p.age] 55 (by simp)).alloc _).alloc _).alloc _).alloc _).alloc _)).later hb
  have S := (((((Box.newAt (n := w.heap.size + 1 + 1) [.int .i64 s.level, .int .i64 s.position, .int .i64 s.p0, .int .i64 s.p1, .int .i64 s.order, .int .i64 s.age] 51 (by simp)).alloc _).alloc _).alloc _)).later hb
  have R := (((Box.newAt (n := w.heap.size + 1 + 1 + 1 + 1) [.int .i64 0, .int .i64 0, .int .i64 0, .int .i64 0, .int .i64 0, .int .i64 0] 51 (by simp)).alloc _)).later hb
  have N := ((Box.newAt (n := w.heap.size + 1 + 1 + 1 + 1 + 1) [.int .i64 s.level, .int .i64 s.position, .int .i64 s.p1, .int .i64 x.feed, .int .i64 s.order, .int .i64 (min (s.age + 1) p.age)] 51 (by simp))).later hb
  have hB := hB.trans (hb.mono hB.size)
  clear hb
  have Pc0 : w1.cell? ⟨w.heap.size, 0, none⟩ = some (.int .i64 (p.top)) := P.cell 0
  have Pc1 : w1.cell? ⟨w.heap.size, 1, none⟩ = some (.int .i64 (p.bank)) := P.cell 1
  have Pc2 : w1.cell? ⟨w.heap.size, 2, none⟩ = some (.int .i64 (p.siphon)) := P.cell 2
  have Pc3 : w1.cell? ⟨w.heap.size, 3, none⟩ = some (.int .i64 (p.start)) := P.cell 3
  have Pc4 : w1.cell? ⟨w.heap.size, 4, none⟩ = some (.int .i64 (p.positions)) := P.cell 4
  have Pc5 : w1.cell? ⟨w.heap.size, 5, none⟩ = some (.int .i64 (p.rate)) := P.cell 5
  have Pc6 : w1.cell? ⟨w.heap.size, 6, none⟩ = some (.int .i64 (p.step)) := P.cell 6
  have Pc7 : w1.cell? ⟨w.heap.size, 7, none⟩ = some (.int .i64 (p.pass)) := P.cell 7
  have Pc8 : w1.cell? ⟨w.heap.size, 8, none⟩ = some (.int .i64 (p.feed)) := P.cell 8
  have Pc9 : w1.cell? ⟨w.heap.size, 9, none⟩ = some (.int .i64 (2)) := P.cell 9
  have Pc10 : w1.cell? ⟨w.heap.size, 10, none⟩ = some (.int .i64 (p.orders)) := P.cell 10
  have Pc11 : w1.cell? ⟨w.heap.size, 11, none⟩ = some (.int .i64 (p.age)) := P.cell 11
  have Sc0 : w1.cell? ⟨w.heap.size + 1 + 1, 0, none⟩ = some (.int .i64 (s.level)) := S.cell 0
  have Sc1 : w1.cell? ⟨w.heap.size + 1 + 1, 1, none⟩ = some (.int .i64 (s.position)) := S.cell 1
  have Sc2 : w1.cell? ⟨w.heap.size + 1 + 1, 2, none⟩ = some (.int .i64 (s.p0)) := S.cell 2
  have Sc3 : w1.cell? ⟨w.heap.size + 1 + 1, 3, none⟩ = some (.int .i64 (s.p1)) := S.cell 3
  have Sc4 : w1.cell? ⟨w.heap.size + 1 + 1, 4, none⟩ = some (.int .i64 (s.order)) := S.cell 4
  have Sc5 : w1.cell? ⟨w.heap.size + 1 + 1, 5, none⟩ = some (.int .i64 (s.age)) := S.cell 5
  have Rc0 : w1.cell? ⟨w.heap.size + 1 + 1 + 1 + 1, 0, none⟩ = some (.int .i64 (0)) := R.cell 0
  have Rf0 : w1.frozen? ⟨w.heap.size + 1 + 1 + 1 + 1, 0, none⟩ = false := R.free 0
  have Rc1 : w1.cell? ⟨w.heap.size + 1 + 1 + 1 + 1, 1, none⟩ = some (.int .i64 (0)) := R.cell 1
  have Rf1 : w1.frozen? ⟨w.heap.size + 1 + 1 + 1 + 1, 1, none⟩ = false := R.free 1
  have Rc2 : w1.cell? ⟨w.heap.size + 1 + 1 + 1 + 1, 2, none⟩ = some (.int .i64 (0)) := R.cell 2
  have Rf2 : w1.frozen? ⟨w.heap.size + 1 + 1 + 1 + 1, 2, none⟩ = false := R.free 2
  have Rc3 : w1.cell? ⟨w.heap.size + 1 + 1 + 1 + 1, 3, none⟩ = some (.int .i64 (0)) := R.cell 3
  have Rf3 : w1.frozen? ⟨w.heap.size + 1 + 1 + 1 + 1, 3, none⟩ = false := R.free 3
  have Rc4 : w1.cell? ⟨w.heap.size + 1 + 1 + 1 + 1, 4, none⟩ = some (.int .i64 (0)) := R.cell 4
  have Rf4 : w1.frozen? ⟨w.heap.size + 1 + 1 + 1 + 1, 4, none⟩ = false := R.free 4
  have Rc5 : w1.cell? ⟨w.heap.size + 1 + 1 + 1 + 1, 5, none⟩ = some (.int .i64 (0)) := R.cell 5
  have Rf5 : w1.frozen? ⟨w.heap.size + 1 + 1 + 1 + 1, 5, none⟩ = false := R.free 5
  have Rz : w.heap.size + 1 + 1 + 1 + 1 < w1.heap.size := R.lt
  have Nc0 : w1.cell? ⟨w.heap.size + 1 + 1 + 1 + 1 + 1, 0, none⟩ = some (.int .i64 (s.level)) := N.cell 0
  have Nf0 : w1.frozen? ⟨w.heap.size + 1 + 1 + 1 + 1 + 1, 0, none⟩ = false := N.free 0
  have Nc1 : w1.cell? ⟨w.heap.size + 1 + 1 + 1 + 1 + 1, 1, none⟩ = some (.int .i64 (s.position)) := N.cell 1
  have Nf1 : w1.frozen? ⟨w.heap.size + 1 + 1 + 1 + 1 + 1, 1, none⟩ = false := N.free 1
  have Nc2 : w1.cell? ⟨w.heap.size + 1 + 1 + 1 + 1 + 1, 2, none⟩ = some (.int .i64 (s.p1)) := N.cell 2
  have Nf2 : w1.frozen? ⟨w.heap.size + 1 + 1 + 1 + 1 + 1, 2, none⟩ = false := N.free 2
  have Nc3 : w1.cell? ⟨w.heap.size + 1 + 1 + 1 + 1 + 1, 3, none⟩ = some (.int .i64 (x.feed)) := N.cell 3
  have Nf3 : w1.frozen? ⟨w.heap.size + 1 + 1 + 1 + 1 + 1, 3, none⟩ = false := N.free 3
  have Nc4 : w1.cell? ⟨w.heap.size + 1 + 1 + 1 + 1 + 1, 4, none⟩ = some (.int .i64 (s.order)) := N.cell 4
  have Nf4 : w1.frozen? ⟨w.heap.size + 1 + 1 + 1 + 1 + 1, 4, none⟩ = false := N.free 4
  have Nc5 : w1.cell? ⟨w.heap.size + 1 + 1 + 1 + 1 + 1, 5, none⟩ = some (.int .i64 (min (s.age + 1) p.age)) := N.cell 5
  have Nf5 : w1.frozen? ⟨w.heap.size + 1 + 1 + 1 + 1 + 1, 5, none⟩ = false := N.free 5
  have Nz : w.heap.size + 1 + 1 + 1 + 1 + 1 < w1.heap.size := N.lt
  go_wp2_with fail
  have hY := ((((((((R.other (a := ⟨w.heap.size + 1 + 1 + 1 + 1 + 1, 1, none⟩) (by simp <;> omega) (.int .i64 (max (s.position - p.step) (min (s.position + p.step) (min g p.positions))))).other (a := ⟨w.heap.size + 1 + 1 + 1 + 1 + 1, 0, none⟩) (by simp <;> omega) (.int .i64 (min p.top (s.level + s.p0 - min (s.level + s.p0) (p.rate * (max (s.position - p.step) (min (s.position + p.step) (min g p.positions)))))))).set 0 (.int .i64 (min p.top (s.level + s.p0 - min (s.level + s.p0) (p.rate * (max (s.position - p.step) (min (s.position + p.step) (min g p.positions)))))))).set 1 (.int .i64 (max (s.position - p.step) (min (s.position + p.step) (min g p.positions))))).set 2 (.int .i64 (s.p1))).set 3 (.int .i64 (x.feed))).set 4 (.int .i64 (s.order))).set 5 (.int .i64 (min (s.age + 1) p.age)))
  have hB := ((((((((hB.setCell (p := ⟨w.heap.size + 1 + 1 + 1 + 1 + 1, 1, none⟩) (by simp <;> omega) (.int .i64 (max (s.position - p.step) (min (s.position + p.step) (min g p.positions))))).setCell (p := ⟨w.heap.size + 1 + 1 + 1 + 1 + 1, 0, none⟩) (by simp <;> omega) (.int .i64 (min p.top (s.level + s.p0 - min (s.level + s.p0) (p.rate * (max (s.position - p.step) (min (s.position + p.step) (min g p.positions)))))))).setCell (p := ⟨w.heap.size + 1 + 1 + 1 + 1, 0, none⟩) (by simp <;> omega) (.int .i64 (min p.top (s.level + s.p0 - min (s.level + s.p0) (p.rate * (max (s.position - p.step) (min (s.position + p.step) (min g p.positions)))))))).setCell (p := ⟨w.heap.size + 1 + 1 + 1 + 1, 1, none⟩) (by simp <;> omega) (.int .i64 (max (s.position - p.step) (min (s.position + p.step) (min g p.positions))))).setCell (p := ⟨w.heap.size + 1 + 1 + 1 + 1, 2, none⟩) (by simp <;> omega) (.int .i64 (s.p1))).setCell (p := ⟨w.heap.size + 1 + 1 + 1 + 1, 3, none⟩) (by simp <;> omega) (.int .i64 (x.feed))).setCell (p := ⟨w.heap.size + 1 + 1 + 1 + 1, 4, none⟩) (by simp <;> omega) (.int .i64 (s.order))).setCell (p := ⟨w.heap.size + 1 + 1 + 1 + 1, 5, none⟩) (by simp <;> omega) (.int .i64 (min (s.age + 1) p.age)))
  generalize ((((((((w1.setCell ⟨w.heap.size + 1 + 1 + 1 + 1 + 1, 1, none⟩ (.int .i64 (max (s.position - p.step) (min (s.position + p.step) (min g p.positions))))).setCell ⟨w.heap.size + 1 + 1 + 1 + 1 + 1, 0, none⟩ (.int .i64 (min p.top (s.level + s.p0 - min (s.level + s.p0) (p.rate * (max (s.position - p.step) (min (s.position + p.step) (min g p.positions)))))))).setCell ⟨w.heap.size + 1 + 1 + 1 + 1, 0, none⟩ (.int .i64 (min p.top (s.level + s.p0 - min (s.level + s.p0) (p.rate * (max (s.position - p.step) (min (s.position + p.step) (min g p.positions)))))))).setCell ⟨w.heap.size + 1 + 1 + 1 + 1, 1, none⟩ (.int .i64 (max (s.position - p.step) (min (s.position + p.step) (min g p.positions))))).setCell ⟨w.heap.size + 1 + 1 + 1 + 1, 2, none⟩ (.int .i64 (s.p1))).setCell ⟨w.heap.size + 1 + 1 + 1 + 1, 3, none⟩ (.int .i64 (x.feed))).setCell ⟨w.heap.size + 1 + 1 + 1 + 1, 4, none⟩ (.int .i64 (s.order))).setCell ⟨w.heap.size + 1 + 1 + 1 + 1, 5, none⟩ (.int .i64 (min (s.age + 1) p.age))) = W at hY hB ⊢
  have y0 : W.cell? ⟨w.heap.size + 1 + 1 + 1 + 1, 0, none⟩ = some (.int .i64 (min p.top (s.level + s.p0 - min (s.level + s.p0) (p.rate * (max (s.position - p.step) (min (s.position + p.step) (min g p.positions))))))) := hY.cell 0
  have y1 : W.cell? ⟨w.heap.size + 1 + 1 + 1 + 1, 1, none⟩ = some (.int .i64 (max (s.position - p.step) (min (s.position + p.step) (min g p.positions)))) := hY.cell 1
  have y2 : W.cell? ⟨w.heap.size + 1 + 1 + 1 + 1, 2, none⟩ = some (.int .i64 (s.p1)) := hY.cell 2
  have y3 : W.cell? ⟨w.heap.size + 1 + 1 + 1 + 1, 3, none⟩ = some (.int .i64 (x.feed)) := hY.cell 3
  have y4 : W.cell? ⟨w.heap.size + 1 + 1 + 1 + 1, 4, none⟩ = some (.int .i64 (s.order)) := hY.cell 4
  have y5 : W.cell? ⟨w.heap.size + 1 + 1 + 1 + 1, 5, none⟩ = some (.int .i64 (min (s.age + 1) p.age)) := hY.cell 5
  clear Pc0 Sc0 hY
  refine bodyPost_ret (v := .tuple #[.agg #[.int .i64 (min p.top (s.level + s.p0 - min (s.level + s.p0) (p.rate * (max (s.position - p.step) (min (s.position + p.step) (min g p.positions)))))), .int .i64 (max (s.position - p.step) (min (s.position + p.step) (min g p.positions))), .int .i64 s.p1, .int .i64 x.feed, .int .i64 s.order, .int .i64 (min (s.age + 1) p.age)], .int .i64 (min (s.level + s.p0) (p.rate * (max (s.position - p.step) (min (s.position + p.step) (min g p.positions)))))]) (by simp [results, Try.results90, go_sem, y0, y1, y2, y3, y4, y5]) rfl ?_
  exact ⟨rfl, hB⟩

set_option maxRecDepth 100000 in
set_option maxHeartbeats 2000000 in
theorem rstep_100 (p : Pl) (code : List Ln) (V : Value) (s : St) (x : Sh) (w : World) (hC : Hid (CodeAt w w.heap.size V code)) (S : Small p s x) (g : Int)
    (hp : p.pipe = 0) (hm : 0 ≤ x.msg) (hR : Hid (runT code ⟨s.level, s.position, x.msg, 0, x.feed⟩ = (g, false, 0))) (hg : 0 ≤ g ∧ g ≤ 1099511627776) :
    Calls Try.prog 90 #[p.v, .agg #[V], s.v, x.v] w fun e w' => e = .returned (.tuple #[.agg #[.int .i64 (min p.top (s.level + x.feed - min (s.level + x.feed) (p.rate * s.position))), .int .i64 s.position, .int .i64 s.p0, .int .i64 s.p1, .int .i64 x.msg, .int .i64 0], .int .i64 (min (s.level + x.feed) (p.rate * s.position))]) ∧ Below w.heap.size w w' := by
  obtain ⟨⟨_, _⟩, ⟨_, _⟩, ⟨_, _⟩, ⟨_, _⟩, ⟨_, _⟩, ⟨_, _⟩, ⟨_, _⟩, ⟨_, _⟩, ⟨_, _⟩, ⟨_, _⟩, ⟨_, _⟩⟩ := S
  obtain ⟨_, _⟩ := hg
  have hM2 := mul_le4 (a := p.rate) (b := s.position) (A := 15) (B := 15) (by omega) (by omega)
  obtain ⟨_, _⟩ := hM2
  go_enter Try.func90, Try.ntmps90
  go_wp2_with fail
  have hB : Below w.heap.size w ((((((w.alloc (.cells #[.int .i64 p.top, .int .i64 p.bank, .int .i64 p.siphon, .int .i64 p.start, .int .i64 p.positions, .int .i64 p.rate, .int .i64 p.step, .int .i64 p.pass, .int .i64 p.feed, .int .i64 0, .int .i64 p.orders, .int .i64 p.age] 55)).alloc (.cells #[V] 63)).alloc (.cells #[.int .i64 s.level, .int .i64 s.position, .int .i64 s.p0, .int .i64 s.p1, .int .i64 s.order, .int .i64 s.age] 51)).alloc (.cells #[.int .i64 x.feed, .int .i64 x.msg] 71)).alloc (.cells #[.int .i64 0, .int .i64 0, .int .i64 0, .int .i64 0, .int .i64 0, .int .i64 0] 51)).alloc (.cells #[.int .i64 s.level, .int .i64 s.position, .int .i64 s.p0, .int .i64 s.p1, .int .i64 x.msg, .int .i64 0] 51)) := ((((((Below.refl _ _).alloc (by simp <;> omega) _).alloc (by simp <;> omega) _).alloc (by simp <;> omega) _).alloc (by simp <;> omega) _).alloc (by simp <;> omega) _).alloc (by simp <;> omega) _
  refine (rrun_at (r := ⟨s.level, s.position, x.msg, 0, x.feed⟩) hR (hC.out.later hB)).mono ?_
  rintro e w1 ⟨rfl, hb⟩
  have P := (((((((Box.newAt (n := w.heap.size) [.int .i64 p.top, .int .i64 p.bank, .int .i64 p.siphon, .int .i64 p.start, .int .i64 p.positions, .int .i64 p.rate, .int .i64 p.step, .int .i64 p.pass, .int .i64 p.feed, .int .i64 0, .int .i64 p.orders, .int .i64 p.age] 55 (by simp)).alloc _).alloc _).alloc _).alloc _).alloc _)).later hb
  have S := (((((Box.newAt (n := w.heap.size + 1 + 1) [.int .i64 s.level, .int .i64 s.position, .int .i64 s.p0, .int .i64 s.p1, .int .i64 s.order, .int .i64 s.age] 51 (by simp)).alloc _).alloc _).alloc _)).later hb
  have R := (((Box.newAt (n := w.heap.size + 1 + 1 + 1 + 1) [.int .i64 0, .int .i64 0, .int .i64 0, .int .i64 0, .int .i64 0, .int .i64 0] 51 (by simp)).alloc _)).later hb
  have N := ((Box.newAt (n := w.heap.size + 1 + 1 + 1 + 1 + 1) [.int .i64 s.level, .int .i64 s.position, .int .i64 s.p0, .int .i64 s.p1, .int .i64 x.msg, .int .i64 0] 51 (by simp))).later hb
  have hB := hB.trans (hb.mono hB.size)
  clear hb
  have Pc0 : w1.cell? ⟨w.heap.size, 0, none⟩ = some (.int .i64 (p.top)) := P.cell 0
  have Pc1 : w1.cell? ⟨w.heap.size, 1, none⟩ = some (.int .i64 (p.bank)) := P.cell 1
  have Pc2 : w1.cell? ⟨w.heap.size, 2, none⟩ = some (.int .i64 (p.siphon)) := P.cell 2
  have Pc3 : w1.cell? ⟨w.heap.size, 3, none⟩ = some (.int .i64 (p.start)) := P.cell 3
  have Pc4 : w1.cell? ⟨w.heap.size, 4, none⟩ = some (.int .i64 (p.positions)) := P.cell 4
  have Pc5 : w1.cell? ⟨w.heap.size, 5, none⟩ = some (.int .i64 (p.rate)) := P.cell 5
  have Pc6 : w1.cell? ⟨w.heap.size, 6, none⟩ = some (.int .i64 (p.step)) := P.cell 6
  have Pc7 : w1.cell? ⟨w.heap.size, 7, none⟩ = some (.int .i64 (p.pass)) := P.cell 7
  have Pc8 : w1.cell? ⟨w.heap.size, 8, none⟩ = some (.int .i64 (p.feed)) := P.cell 8
  have Pc9 : w1.cell? ⟨w.heap.size, 9, none⟩ = some (.int .i64 (0)) := P.cell 9
  have Pc10 : w1.cell? ⟨w.heap.size, 10, none⟩ = some (.int .i64 (p.orders)) := P.cell 10
  have Pc11 : w1.cell? ⟨w.heap.size, 11, none⟩ = some (.int .i64 (p.age)) := P.cell 11
  have Sc0 : w1.cell? ⟨w.heap.size + 1 + 1, 0, none⟩ = some (.int .i64 (s.level)) := S.cell 0
  have Sc1 : w1.cell? ⟨w.heap.size + 1 + 1, 1, none⟩ = some (.int .i64 (s.position)) := S.cell 1
  have Sc2 : w1.cell? ⟨w.heap.size + 1 + 1, 2, none⟩ = some (.int .i64 (s.p0)) := S.cell 2
  have Sc3 : w1.cell? ⟨w.heap.size + 1 + 1, 3, none⟩ = some (.int .i64 (s.p1)) := S.cell 3
  have Sc4 : w1.cell? ⟨w.heap.size + 1 + 1, 4, none⟩ = some (.int .i64 (s.order)) := S.cell 4
  have Sc5 : w1.cell? ⟨w.heap.size + 1 + 1, 5, none⟩ = some (.int .i64 (s.age)) := S.cell 5
  have Rc0 : w1.cell? ⟨w.heap.size + 1 + 1 + 1 + 1, 0, none⟩ = some (.int .i64 (0)) := R.cell 0
  have Rf0 : w1.frozen? ⟨w.heap.size + 1 + 1 + 1 + 1, 0, none⟩ = false := R.free 0
  have Rc1 : w1.cell? ⟨w.heap.size + 1 + 1 + 1 + 1, 1, none⟩ = some (.int .i64 (0)) := R.cell 1
  have Rf1 : w1.frozen? ⟨w.heap.size + 1 + 1 + 1 + 1, 1, none⟩ = false := R.free 1
  have Rc2 : w1.cell? ⟨w.heap.size + 1 + 1 + 1 + 1, 2, none⟩ = some (.int .i64 (0)) := R.cell 2
  have Rf2 : w1.frozen? ⟨w.heap.size + 1 + 1 + 1 + 1, 2, none⟩ = false := R.free 2
  have Rc3 : w1.cell? ⟨w.heap.size + 1 + 1 + 1 + 1, 3, none⟩ = some (.int .i64 (0)) := R.cell 3
  have Rf3 : w1.frozen? ⟨w.heap.size + 1 + 1 + 1 + 1, 3, none⟩ = false := R.free 3
  have Rc4 : w1.cell? ⟨w.heap.size + 1 + 1 + 1 + 1, 4, none⟩ = some (.int .i64 (0)) := R.cell 4
  have Rf4 : w1.frozen? ⟨w.heap.size + 1 + 1 + 1 + 1, 4, none⟩ = false := R.free 4
  have Rc5 : w1.cell? ⟨w.heap.size + 1 + 1 + 1 + 1, 5, none⟩ = some (.int .i64 (0)) := R.cell 5
  have Rf5 : w1.frozen? ⟨w.heap.size + 1 + 1 + 1 + 1, 5, none⟩ = false := R.free 5
  have Rz : w.heap.size + 1 + 1 + 1 + 1 < w1.heap.size := R.lt
  have Nc0 : w1.cell? ⟨w.heap.size + 1 + 1 + 1 + 1 + 1, 0, none⟩ = some (.int .i64 (s.level)) := N.cell 0
  have Nf0 : w1.frozen? ⟨w.heap.size + 1 + 1 + 1 + 1 + 1, 0, none⟩ = false := N.free 0
  have Nc1 : w1.cell? ⟨w.heap.size + 1 + 1 + 1 + 1 + 1, 1, none⟩ = some (.int .i64 (s.position)) := N.cell 1
  have Nf1 : w1.frozen? ⟨w.heap.size + 1 + 1 + 1 + 1 + 1, 1, none⟩ = false := N.free 1
  have Nc2 : w1.cell? ⟨w.heap.size + 1 + 1 + 1 + 1 + 1, 2, none⟩ = some (.int .i64 (s.p0)) := N.cell 2
  have Nf2 : w1.frozen? ⟨w.heap.size + 1 + 1 + 1 + 1 + 1, 2, none⟩ = false := N.free 2
  have Nc3 : w1.cell? ⟨w.heap.size + 1 + 1 + 1 + 1 + 1, 3, none⟩ = some (.int .i64 (s.p1)) := N.cell 3
  have Nf3 : w1.frozen? ⟨w.heap.size + 1 + 1 + 1 + 1 + 1, 3, none⟩ = false := N.free 3
  have Nc4 : w1.cell? ⟨w.heap.size + 1 + 1 + 1 + 1 + 1, 4, none⟩ = some (.int .i64 (x.msg)) := N.cell 4
  have Nf4 : w1.frozen? ⟨w.heap.size + 1 + 1 + 1 + 1 + 1, 4, none⟩ = false := N.free 4
  have Nc5 : w1.cell? ⟨w.heap.size + 1 + 1 + 1 + 1 + 1, 5, none⟩ = some (.int .i64 (0)) := N.cell 5
  have Nf5 : w1.frozen? ⟨w.heap.size + 1 + 1 + 1 + 1 + 1, 5, none⟩ = false := N.free 5
  have Nz : w.heap.size + 1 + 1 + 1 + 1 + 1 < w1.heap.size := N.lt
  go_wp2_with fail
  have hY := (((((((R.other (a := ⟨w.heap.size + 1 + 1 + 1 + 1 + 1, 0, none⟩) (by simp <;> omega) (.int .i64 (min p.top (s.level + x.feed - min (s.level + x.feed) (p.rate * s.position))))).set 0 (.int .i64 (min p.top (s.level + x.feed - min (s.level + x.feed) (p.rate * s.position))))).set 1 (.int .i64 (s.position))).set 2 (.int .i64 (s.p0))).set 3 (.int .i64 (s.p1))).set 4 (.int .i64 (x.msg))).set 5 (.int .i64 (0)))
  have hB := (((((((hB.setCell (p := ⟨w.heap.size + 1 + 1 + 1 + 1 + 1, 0, none⟩) (by simp <;> omega) (.int .i64 (min p.top (s.level + x.feed - min (s.level + x.feed) (p.rate * s.position))))).setCell (p := ⟨w.heap.size + 1 + 1 + 1 + 1, 0, none⟩) (by simp <;> omega) (.int .i64 (min p.top (s.level + x.feed - min (s.level + x.feed) (p.rate * s.position))))).setCell (p := ⟨w.heap.size + 1 + 1 + 1 + 1, 1, none⟩) (by simp <;> omega) (.int .i64 (s.position))).setCell (p := ⟨w.heap.size + 1 + 1 + 1 + 1, 2, none⟩) (by simp <;> omega) (.int .i64 (s.p0))).setCell (p := ⟨w.heap.size + 1 + 1 + 1 + 1, 3, none⟩) (by simp <;> omega) (.int .i64 (s.p1))).setCell (p := ⟨w.heap.size + 1 + 1 + 1 + 1, 4, none⟩) (by simp <;> omega) (.int .i64 (x.msg))).setCell (p := ⟨w.heap.size + 1 + 1 + 1 + 1, 5, none⟩) (by simp <;> omega) (.int .i64 (0)))
  generalize (((((((w1.setCell ⟨w.heap.size + 1 + 1 + 1 + 1 + 1, 0, none⟩ (.int .i64 (min p.top (s.level + x.feed - min (s.level + x.feed) (p.rate * s.position))))).setCell ⟨w.heap.size + 1 + 1 + 1 + 1, 0, none⟩ (.int .i64 (min p.top (s.level + x.feed - min (s.level + x.feed) (p.rate * s.position))))).setCell ⟨w.heap.size + 1 + 1 + 1 + 1, 1, none⟩ (.int .i64 (s.position))).setCell ⟨w.heap.size + 1 + 1 + 1 + 1, 2, none⟩ (.int .i64 (s.p0))).setCell ⟨w.heap.size + 1 + 1 + 1 + 1, 3, none⟩ (.int .i64 (s.p1))).setCell ⟨w.heap.size + 1 + 1 + 1 + 1, 4, none⟩ (.int .i64 (x.msg))).setCell ⟨w.heap.size + 1 + 1 + 1 + 1, 5, none⟩ (.int .i64 (0))) = W at hY hB ⊢
  have y0 : W.cell? ⟨w.heap.size + 1 + 1 + 1 + 1, 0, none⟩ = some (.int .i64 (min p.top (s.level + x.feed - min (s.level + x.feed) (p.rate * s.position)))) := hY.cell 0
  have y1 : W.cell? ⟨w.heap.size + 1 + 1 + 1 + 1, 1, none⟩ = some (.int .i64 (s.position)) := hY.cell 1
  have y2 : W.cell? ⟨w.heap.size + 1 + 1 + 1 + 1, 2, none⟩ = some (.int .i64 (s.p0)) := hY.cell 2
  have y3 : W.cell? ⟨w.heap.size + 1 + 1 + 1 + 1, 3, none⟩ = some (.int .i64 (s.p1)) := hY.cell 3
  have y4 : W.cell? ⟨w.heap.size + 1 + 1 + 1 + 1, 4, none⟩ = some (.int .i64 (x.msg)) := hY.cell 4
  have y5 : W.cell? ⟨w.heap.size + 1 + 1 + 1 + 1, 5, none⟩ = some (.int .i64 (0)) := hY.cell 5
  clear Pc0 Sc0 hY
  refine bodyPost_ret (v := .tuple #[.agg #[.int .i64 (min p.top (s.level + x.feed - min (s.level + x.feed) (p.rate * s.position))), .int .i64 s.position, .int .i64 s.p0, .int .i64 s.p1, .int .i64 x.msg, .int .i64 0], .int .i64 (min (s.level + x.feed) (p.rate * s.position))]) (by simp [results, Try.results90, go_sem, y0, y1, y2, y3, y4, y5]) rfl ?_
  exact ⟨rfl, hB⟩

set_option maxRecDepth 100000 in
set_option maxHeartbeats 2000000 in
theorem rstep_101 (p : Pl) (code : List Ln) (V : Value) (s : St) (x : Sh) (w : World) (hC : Hid (CodeAt w w.heap.size V code)) (S : Small p s x) (g : Int)
    (hp : p.pipe = 0) (hm : 0 ≤ x.msg) (hR : Hid (runT code ⟨s.level, s.position, x.msg, 0, x.feed⟩ = (g, true, 0))) (hg : 0 ≤ g ∧ g ≤ 1099511627776) :
    Calls Try.prog 90 #[p.v, .agg #[V], s.v, x.v] w fun e w' => e = .returned (.tuple #[.agg #[.int .i64 (min p.top (s.level + x.feed - min (s.level + x.feed) (p.rate * (max (s.position - p.step) (min (s.position + p.step) (min g p.positions)))))), .int .i64 (max (s.position - p.step) (min (s.position + p.step) (min g p.positions))), .int .i64 s.p0, .int .i64 s.p1, .int .i64 x.msg, .int .i64 0], .int .i64 (min (s.level + x.feed) (p.rate * (max (s.position - p.step) (min (s.position + p.step) (min g p.positions)))))]) ∧ Below w.heap.size w w' := by
  obtain ⟨⟨_, _⟩, ⟨_, _⟩, ⟨_, _⟩, ⟨_, _⟩, ⟨_, _⟩, ⟨_, _⟩, ⟨_, _⟩, ⟨_, _⟩, ⟨_, _⟩, ⟨_, _⟩, ⟨_, _⟩⟩ := S
  obtain ⟨_, _⟩ := hg
  have hM2 := mul_le4 (a := p.rate) (b := max (s.position - p.step) (min (s.position + p.step) (min g p.positions))) (A := 15) (B := 15) (by omega) (by omega)
  obtain ⟨_, _⟩ := hM2
  go_enter Try.func90, Try.ntmps90
  go_wp2_with fail
  have hB : Below w.heap.size w ((((((w.alloc (.cells #[.int .i64 p.top, .int .i64 p.bank, .int .i64 p.siphon, .int .i64 p.start, .int .i64 p.positions, .int .i64 p.rate, .int .i64 p.step, .int .i64 p.pass, .int .i64 p.feed, .int .i64 0, .int .i64 p.orders, .int .i64 p.age] 55)).alloc (.cells #[V] 63)).alloc (.cells #[.int .i64 s.level, .int .i64 s.position, .int .i64 s.p0, .int .i64 s.p1, .int .i64 s.order, .int .i64 s.age] 51)).alloc (.cells #[.int .i64 x.feed, .int .i64 x.msg] 71)).alloc (.cells #[.int .i64 0, .int .i64 0, .int .i64 0, .int .i64 0, .int .i64 0, .int .i64 0] 51)).alloc (.cells #[.int .i64 s.level, .int .i64 s.position, .int .i64 s.p0, .int .i64 s.p1, .int .i64 x.msg, .int .i64 0] 51)) := ((((((Below.refl _ _).alloc (by simp <;> omega) _).alloc (by simp <;> omega) _).alloc (by simp <;> omega) _).alloc (by simp <;> omega) _).alloc (by simp <;> omega) _).alloc (by simp <;> omega) _
  refine (rrun_at (r := ⟨s.level, s.position, x.msg, 0, x.feed⟩) hR (hC.out.later hB)).mono ?_
  rintro e w1 ⟨rfl, hb⟩
  have P := (((((((Box.newAt (n := w.heap.size) [.int .i64 p.top, .int .i64 p.bank, .int .i64 p.siphon, .int .i64 p.start, .int .i64 p.positions, .int .i64 p.rate, .int .i64 p.step, .int .i64 p.pass, .int .i64 p.feed, .int .i64 0, .int .i64 p.orders, .int .i64 p.age] 55 (by simp)).alloc _).alloc _).alloc _).alloc _).alloc _)).later hb
  have S := (((((Box.newAt (n := w.heap.size + 1 + 1) [.int .i64 s.level, .int .i64 s.position, .int .i64 s.p0, .int .i64 s.p1, .int .i64 s.order, .int .i64 s.age] 51 (by simp)).alloc _).alloc _).alloc _)).later hb
  have R := (((Box.newAt (n := w.heap.size + 1 + 1 + 1 + 1) [.int .i64 0, .int .i64 0, .int .i64 0, .int .i64 0, .int .i64 0, .int .i64 0] 51 (by simp)).alloc _)).later hb
  have N := ((Box.newAt (n := w.heap.size + 1 + 1 + 1 + 1 + 1) [.int .i64 s.level, .int .i64 s.position, .int .i64 s.p0, .int .i64 s.p1, .int .i64 x.msg, .int .i64 0] 51 (by simp))).later hb
  have hB := hB.trans (hb.mono hB.size)
  clear hb
  have Pc0 : w1.cell? ⟨w.heap.size, 0, none⟩ = some (.int .i64 (p.top)) := P.cell 0
  have Pc1 : w1.cell? ⟨w.heap.size, 1, none⟩ = some (.int .i64 (p.bank)) := P.cell 1
  have Pc2 : w1.cell? ⟨w.heap.size, 2, none⟩ = some (.int .i64 (p.siphon)) := P.cell 2
  have Pc3 : w1.cell? ⟨w.heap.size, 3, none⟩ = some (.int .i64 (p.start)) := P.cell 3
  have Pc4 : w1.cell? ⟨w.heap.size, 4, none⟩ = some (.int .i64 (p.positions)) := P.cell 4
  have Pc5 : w1.cell? ⟨w.heap.size, 5, none⟩ = some (.int .i64 (p.rate)) := P.cell 5
  have Pc6 : w1.cell? ⟨w.heap.size, 6, none⟩ = some (.int .i64 (p.step)) := P.cell 6
  have Pc7 : w1.cell? ⟨w.heap.size, 7, none⟩ = some (.int .i64 (p.pass)) := P.cell 7
  have Pc8 : w1.cell? ⟨w.heap.size, 8, none⟩ = some (.int .i64 (p.feed)) := P.cell 8
  have Pc9 : w1.cell? ⟨w.heap.size, 9, none⟩ = some (.int .i64 (0)) := P.cell 9
  have Pc10 : w1.cell? ⟨w.heap.size, 10, none⟩ = some (.int .i64 (p.orders)) := P.cell 10
  have Pc11 : w1.cell? ⟨w.heap.size, 11, none⟩ = some (.int .i64 (p.age)) := P.cell 11
  have Sc0 : w1.cell? ⟨w.heap.size + 1 + 1, 0, none⟩ = some (.int .i64 (s.level)) := S.cell 0
  have Sc1 : w1.cell? ⟨w.heap.size + 1 + 1, 1, none⟩ = some (.int .i64 (s.position)) := S.cell 1
  have Sc2 : w1.cell? ⟨w.heap.size + 1 + 1, 2, none⟩ = some (.int .i64 (s.p0)) := S.cell 2
  have Sc3 : w1.cell? ⟨w.heap.size + 1 + 1, 3, none⟩ = some (.int .i64 (s.p1)) := S.cell 3
  have Sc4 : w1.cell? ⟨w.heap.size + 1 + 1, 4, none⟩ = some (.int .i64 (s.order)) := S.cell 4
  have Sc5 : w1.cell? ⟨w.heap.size + 1 + 1, 5, none⟩ = some (.int .i64 (s.age)) := S.cell 5
  have Rc0 : w1.cell? ⟨w.heap.size + 1 + 1 + 1 + 1, 0, none⟩ = some (.int .i64 (0)) := R.cell 0
  have Rf0 : w1.frozen? ⟨w.heap.size + 1 + 1 + 1 + 1, 0, none⟩ = false := R.free 0
  have Rc1 : w1.cell? ⟨w.heap.size + 1 + 1 + 1 + 1, 1, none⟩ = some (.int .i64 (0)) := R.cell 1
  have Rf1 : w1.frozen? ⟨w.heap.size + 1 + 1 + 1 + 1, 1, none⟩ = false := R.free 1
  have Rc2 : w1.cell? ⟨w.heap.size + 1 + 1 + 1 + 1, 2, none⟩ = some (.int .i64 (0)) := R.cell 2
  have Rf2 : w1.frozen? ⟨w.heap.size + 1 + 1 + 1 + 1, 2, none⟩ = false := R.free 2
  have Rc3 : w1.cell? ⟨w.heap.size + 1 + 1 + 1 + 1, 3, none⟩ = some (.int .i64 (0)) := R.cell 3
  have Rf3 : w1.frozen? ⟨w.heap.size + 1 + 1 + 1 + 1, 3, none⟩ = false := R.free 3
  have Rc4 : w1.cell? ⟨w.heap.size + 1 + 1 + 1 + 1, 4, none⟩ = some (.int .i64 (0)) := R.cell 4
  have Rf4 : w1.frozen? ⟨w.heap.size + 1 + 1 + 1 + 1, 4, none⟩ = false := R.free 4
  have Rc5 : w1.cell? ⟨w.heap.size + 1 + 1 + 1 + 1, 5, none⟩ = some (.int .i64 (0)) := R.cell 5
  have Rf5 : w1.frozen? ⟨w.heap.size + 1 + 1 + 1 + 1, 5, none⟩ = false := R.free 5
  have Rz : w.heap.size + 1 + 1 + 1 + 1 < w1.heap.size := R.lt
  have Nc0 : w1.cell? ⟨w.heap.size + 1 + 1 + 1 + 1 + 1, 0, none⟩ = some (.int .i64 (s.level)) := N.cell 0
  have Nf0 : w1.frozen? ⟨w.heap.size + 1 + 1 + 1 + 1 + 1, 0, none⟩ = false := N.free 0
  have Nc1 : w1.cell? ⟨w.heap.size + 1 + 1 + 1 + 1 + 1, 1, none⟩ = some (.int .i64 (s.position)) := N.cell 1
  have Nf1 : w1.frozen? ⟨w.heap.size + 1 + 1 + 1 + 1 + 1, 1, none⟩ = false := N.free 1
  have Nc2 : w1.cell? ⟨w.heap.size + 1 + 1 + 1 + 1 + 1, 2, none⟩ = some (.int .i64 (s.p0)) := N.cell 2
  have Nf2 : w1.frozen? ⟨w.heap.size + 1 + 1 + 1 + 1 + 1, 2, none⟩ = false := N.free 2
  have Nc3 : w1.cell? ⟨w.heap.size + 1 + 1 + 1 + 1 + 1, 3, none⟩ = some (.int .i64 (s.p1)) := N.cell 3
  have Nf3 : w1.frozen? ⟨w.heap.size + 1 + 1 + 1 + 1 + 1, 3, none⟩ = false := N.free 3
  have Nc4 : w1.cell? ⟨w.heap.size + 1 + 1 + 1 + 1 + 1, 4, none⟩ = some (.int .i64 (x.msg)) := N.cell 4
  have Nf4 : w1.frozen? ⟨w.heap.size + 1 + 1 + 1 + 1 + 1, 4, none⟩ = false := N.free 4
  have Nc5 : w1.cell? ⟨w.heap.size + 1 + 1 + 1 + 1 + 1, 5, none⟩ = some (.int .i64 (0)) := N.cell 5
  have Nf5 : w1.frozen? ⟨w.heap.size + 1 + 1 + 1 + 1 + 1, 5, none⟩ = false := N.free 5
  have Nz : w.heap.size + 1 + 1 + 1 + 1 + 1 < w1.heap.size := N.lt
  go_wp2_with fail
  have hY := ((((((((R.other (a := ⟨w.heap.size + 1 + 1 + 1 + 1 + 1, 1, none⟩) (by simp <;> omega) (.int .i64 (max (s.position - p.step) (min (s.position + p.step) (min g p.positions))))).other (a := ⟨w.heap.size + 1 + 1 + 1 + 1 + 1, 0, none⟩) (by simp <;> omega) (.int .i64 (min p.top (s.level + x.feed - min (s.level + x.feed) (p.rate * (max (s.position - p.step) (min (s.position + p.step) (min g p.positions)))))))).set 0 (.int .i64 (min p.top (s.level + x.feed - min (s.level + x.feed) (p.rate * (max (s.position - p.step) (min (s.position + p.step) (min g p.positions)))))))).set 1 (.int .i64 (max (s.position - p.step) (min (s.position + p.step) (min g p.positions))))).set 2 (.int .i64 (s.p0))).set 3 (.int .i64 (s.p1))).set 4 (.int .i64 (x.msg))).set 5 (.int .i64 (0)))
  have hB := ((((((((hB.setCell (p := ⟨w.heap.size + 1 + 1 + 1 + 1 + 1, 1, none⟩) (by simp <;> omega) (.int .i64 (max (s.position - p.step) (min (s.position + p.step) (min g p.positions))))).setCell (p := ⟨w.heap.size + 1 + 1 + 1 + 1 + 1, 0, none⟩) (by simp <;> omega) (.int .i64 (min p.top (s.level + x.feed - min (s.level + x.feed) (p.rate * (max (s.position - p.step) (min (s.position + p.step) (min g p.positions)))))))).setCell (p := ⟨w.heap.size + 1 + 1 + 1 + 1, 0, none⟩) (by simp <;> omega) (.int .i64 (min p.top (s.level + x.feed - min (s.level + x.feed) (p.rate * (max (s.position - p.step) (min (s.position + p.step) (min g p.positions)))))))).setCell (p := ⟨w.heap.size + 1 + 1 + 1 + 1, 1, none⟩) (by simp <;> omega) (.int .i64 (max (s.position - p.step) (min (s.position + p.step) (min g p.positions))))).setCell (p := ⟨w.heap.size + 1 + 1 + 1 + 1, 2, none⟩) (by simp <;> omega) (.int .i64 (s.p0))).setCell (p := ⟨w.heap.size + 1 + 1 + 1 + 1, 3, none⟩) (by simp <;> omega) (.int .i64 (s.p1))).setCell (p := ⟨w.heap.size + 1 + 1 + 1 + 1, 4, none⟩) (by simp <;> omega) (.int .i64 (x.msg))).setCell (p := ⟨w.heap.size + 1 + 1 + 1 + 1, 5, none⟩) (by simp <;> omega) (.int .i64 (0)))
  generalize ((((((((w1.setCell ⟨w.heap.size + 1 + 1 + 1 + 1 + 1, 1, none⟩ (.int .i64 (max (s.position - p.step) (min (s.position + p.step) (min g p.positions))))).setCell ⟨w.heap.size + 1 + 1 + 1 + 1 + 1, 0, none⟩ (.int .i64 (min p.top (s.level + x.feed - min (s.level + x.feed) (p.rate * (max (s.position - p.step) (min (s.position + p.step) (min g p.positions)))))))).setCell ⟨w.heap.size + 1 + 1 + 1 + 1, 0, none⟩ (.int .i64 (min p.top (s.level + x.feed - min (s.level + x.feed) (p.rate * (max (s.position - p.step) (min (s.position + p.step) (min g p.positions)))))))).setCell ⟨w.heap.size + 1 + 1 + 1 + 1, 1, none⟩ (.int .i64 (max (s.position - p.step) (min (s.position + p.step) (min g p.positions))))).setCell ⟨w.heap.size + 1 + 1 + 1 + 1, 2, none⟩ (.int .i64 (s.p0))).setCell ⟨w.heap.size + 1 + 1 + 1 + 1, 3, none⟩ (.int .i64 (s.p1))).setCell ⟨w.heap.size + 1 + 1 + 1 + 1, 4, none⟩ (.int .i64 (x.msg))).setCell ⟨w.heap.size + 1 + 1 + 1 + 1, 5, none⟩ (.int .i64 (0))) = W at hY hB ⊢
  have y0 : W.cell? ⟨w.heap.size + 1 + 1 + 1 + 1, 0, none⟩ = some (.int .i64 (min p.top (s.level + x.feed - min (s.level + x.feed) (p.rate * (max (s.position - p.step) (min (s.position + p.step) (min g p.positions))))))) := hY.cell 0
  have y1 : W.cell? ⟨w.heap.size + 1 + 1 + 1 + 1, 1, none⟩ = some (.int .i64 (max (s.position - p.step) (min (s.position + p.step) (min g p.positions)))) := hY.cell 1
  have y2 : W.cell? ⟨w.heap.size + 1 + 1 + 1 + 1, 2, none⟩ = some (.int .i64 (s.p0)) := hY.cell 2
  have y3 : W.cell? ⟨w.heap.size + 1 + 1 + 1 + 1, 3, none⟩ = some (.int .i64 (s.p1)) := hY.cell 3
  have y4 : W.cell? ⟨w.heap.size + 1 + 1 + 1 + 1, 4, none⟩ = some (.int .i64 (x.msg)) := hY.cell 4
  have y5 : W.cell? ⟨w.heap.size + 1 + 1 + 1 + 1, 5, none⟩ = some (.int .i64 (0)) := hY.cell 5
  clear Pc0 Sc0 hY
  refine bodyPost_ret (v := .tuple #[.agg #[.int .i64 (min p.top (s.level + x.feed - min (s.level + x.feed) (p.rate * (max (s.position - p.step) (min (s.position + p.step) (min g p.positions)))))), .int .i64 (max (s.position - p.step) (min (s.position + p.step) (min g p.positions))), .int .i64 s.p0, .int .i64 s.p1, .int .i64 x.msg, .int .i64 0], .int .i64 (min (s.level + x.feed) (p.rate * (max (s.position - p.step) (min (s.position + p.step) (min g p.positions)))))]) (by simp [results, Try.results90, go_sem, y0, y1, y2, y3, y4, y5]) rfl ?_
  exact ⟨rfl, hB⟩

set_option maxRecDepth 100000 in
set_option maxHeartbeats 2000000 in
theorem rstep_110 (p : Pl) (code : List Ln) (V : Value) (s : St) (x : Sh) (w : World) (hC : Hid (CodeAt w w.heap.size V code)) (S : Small p s x) (g : Int)
    (hp : p.pipe = 1) (hm : 0 ≤ x.msg) (hR : Hid (runT code ⟨s.level, s.position, x.msg, 0, s.p0⟩ = (g, false, 0))) (hg : 0 ≤ g ∧ g ≤ 1099511627776) :
    Calls Try.prog 90 #[p.v, .agg #[V], s.v, x.v] w fun e w' => e = .returned (.tuple #[.agg #[.int .i64 (min p.top (s.level + s.p0 - min (s.level + s.p0) (p.rate * s.position))), .int .i64 s.position, .int .i64 x.feed, .int .i64 0, .int .i64 x.msg, .int .i64 0], .int .i64 (min (s.level + s.p0) (p.rate * s.position))]) ∧ Below w.heap.size w w' := by
  obtain ⟨⟨_, _⟩, ⟨_, _⟩, ⟨_, _⟩, ⟨_, _⟩, ⟨_, _⟩, ⟨_, _⟩, ⟨_, _⟩, ⟨_, _⟩, ⟨_, _⟩, ⟨_, _⟩, ⟨_, _⟩⟩ := S
  obtain ⟨_, _⟩ := hg
  have hM2 := mul_le4 (a := p.rate) (b := s.position) (A := 15) (B := 15) (by omega) (by omega)
  obtain ⟨_, _⟩ := hM2
  go_enter Try.func90, Try.ntmps90
  go_wp2_with fail
  have hB : Below w.heap.size w ((((((w.alloc (.cells #[.int .i64 p.top, .int .i64 p.bank, .int .i64 p.siphon, .int .i64 p.start, .int .i64 p.positions, .int .i64 p.rate, .int .i64 p.step, .int .i64 p.pass, .int .i64 p.feed, .int .i64 1, .int .i64 p.orders, .int .i64 p.age] 55)).alloc (.cells #[V] 63)).alloc (.cells #[.int .i64 s.level, .int .i64 s.position, .int .i64 s.p0, .int .i64 s.p1, .int .i64 s.order, .int .i64 s.age] 51)).alloc (.cells #[.int .i64 x.feed, .int .i64 x.msg] 71)).alloc (.cells #[.int .i64 0, .int .i64 0, .int .i64 0, .int .i64 0, .int .i64 0, .int .i64 0] 51)).alloc (.cells #[.int .i64 s.level, .int .i64 s.position, .int .i64 x.feed, .int .i64 0, .int .i64 x.msg, .int .i64 0] 51)) := ((((((Below.refl _ _).alloc (by simp <;> omega) _).alloc (by simp <;> omega) _).alloc (by simp <;> omega) _).alloc (by simp <;> omega) _).alloc (by simp <;> omega) _).alloc (by simp <;> omega) _
  refine (rrun_at (r := ⟨s.level, s.position, x.msg, 0, s.p0⟩) hR (hC.out.later hB)).mono ?_
  rintro e w1 ⟨rfl, hb⟩
  have P := (((((((Box.newAt (n := w.heap.size) [.int .i64 p.top, .int .i64 p.bank, .int .i64 p.siphon, .int .i64 p.start, .int .i64 p.positions, .int .i64 p.rate, .int .i64 p.step, .int .i64 p.pass, .int .i64 p.feed, .int .i64 1, .int .i64 p.orders, .int .i64 p.age] 55 (by simp)).alloc _).alloc _).alloc _).alloc _).alloc _)).later hb
  have S := (((((Box.newAt (n := w.heap.size + 1 + 1) [.int .i64 s.level, .int .i64 s.position, .int .i64 s.p0, .int .i64 s.p1, .int .i64 s.order, .int .i64 s.age] 51 (by simp)).alloc _).alloc _).alloc _)).later hb
  have R := (((Box.newAt (n := w.heap.size + 1 + 1 + 1 + 1) [.int .i64 0, .int .i64 0, .int .i64 0, .int .i64 0, .int .i64 0, .int .i64 0] 51 (by simp)).alloc _)).later hb
  have N := ((Box.newAt (n := w.heap.size + 1 + 1 + 1 + 1 + 1) [.int .i64 s.level, .int .i64 s.position, .int .i64 x.feed, .int .i64 0, .int .i64 x.msg, .int .i64 0] 51 (by simp))).later hb
  have hB := hB.trans (hb.mono hB.size)
  clear hb
  have Pc0 : w1.cell? ⟨w.heap.size, 0, none⟩ = some (.int .i64 (p.top)) := P.cell 0
  have Pc1 : w1.cell? ⟨w.heap.size, 1, none⟩ = some (.int .i64 (p.bank)) := P.cell 1
  have Pc2 : w1.cell? ⟨w.heap.size, 2, none⟩ = some (.int .i64 (p.siphon)) := P.cell 2
  have Pc3 : w1.cell? ⟨w.heap.size, 3, none⟩ = some (.int .i64 (p.start)) := P.cell 3
  have Pc4 : w1.cell? ⟨w.heap.size, 4, none⟩ = some (.int .i64 (p.positions)) := P.cell 4
  have Pc5 : w1.cell? ⟨w.heap.size, 5, none⟩ = some (.int .i64 (p.rate)) := P.cell 5
  have Pc6 : w1.cell? ⟨w.heap.size, 6, none⟩ = some (.int .i64 (p.step)) := P.cell 6
  have Pc7 : w1.cell? ⟨w.heap.size, 7, none⟩ = some (.int .i64 (p.pass)) := P.cell 7
  have Pc8 : w1.cell? ⟨w.heap.size, 8, none⟩ = some (.int .i64 (p.feed)) := P.cell 8
  have Pc9 : w1.cell? ⟨w.heap.size, 9, none⟩ = some (.int .i64 (1)) := P.cell 9
  have Pc10 : w1.cell? ⟨w.heap.size, 10, none⟩ = some (.int .i64 (p.orders)) := P.cell 10
  have Pc11 : w1.cell? ⟨w.heap.size, 11, none⟩ = some (.int .i64 (p.age)) := P.cell 11
  have Sc0 : w1.cell? ⟨w.heap.size + 1 + 1, 0, none⟩ = some (.int .i64 (s.level)) := S.cell 0
  have Sc1 : w1.cell? ⟨w.heap.size + 1 + 1, 1, none⟩ = some (.int .i64 (s.position)) := S.cell 1
  have Sc2 : w1.cell? ⟨w.heap.size + 1 + 1, 2, none⟩ = some (.int .i64 (s.p0)) := S.cell 2
  have Sc3 : w1.cell? ⟨w.heap.size + 1 + 1, 3, none⟩ = some (.int .i64 (s.p1)) := S.cell 3
  have Sc4 : w1.cell? ⟨w.heap.size + 1 + 1, 4, none⟩ = some (.int .i64 (s.order)) := S.cell 4
  have Sc5 : w1.cell? ⟨w.heap.size + 1 + 1, 5, none⟩ = some (.int .i64 (s.age)) := S.cell 5
  have Rc0 : w1.cell? ⟨w.heap.size + 1 + 1 + 1 + 1, 0, none⟩ = some (.int .i64 (0)) := R.cell 0
  have Rf0 : w1.frozen? ⟨w.heap.size + 1 + 1 + 1 + 1, 0, none⟩ = false := R.free 0
  have Rc1 : w1.cell? ⟨w.heap.size + 1 + 1 + 1 + 1, 1, none⟩ = some (.int .i64 (0)) := R.cell 1
  have Rf1 : w1.frozen? ⟨w.heap.size + 1 + 1 + 1 + 1, 1, none⟩ = false := R.free 1
  have Rc2 : w1.cell? ⟨w.heap.size + 1 + 1 + 1 + 1, 2, none⟩ = some (.int .i64 (0)) := R.cell 2
  have Rf2 : w1.frozen? ⟨w.heap.size + 1 + 1 + 1 + 1, 2, none⟩ = false := R.free 2
  have Rc3 : w1.cell? ⟨w.heap.size + 1 + 1 + 1 + 1, 3, none⟩ = some (.int .i64 (0)) := R.cell 3
  have Rf3 : w1.frozen? ⟨w.heap.size + 1 + 1 + 1 + 1, 3, none⟩ = false := R.free 3
  have Rc4 : w1.cell? ⟨w.heap.size + 1 + 1 + 1 + 1, 4, none⟩ = some (.int .i64 (0)) := R.cell 4
  have Rf4 : w1.frozen? ⟨w.heap.size + 1 + 1 + 1 + 1, 4, none⟩ = false := R.free 4
  have Rc5 : w1.cell? ⟨w.heap.size + 1 + 1 + 1 + 1, 5, none⟩ = some (.int .i64 (0)) := R.cell 5
  have Rf5 : w1.frozen? ⟨w.heap.size + 1 + 1 + 1 + 1, 5, none⟩ = false := R.free 5
  have Rz : w.heap.size + 1 + 1 + 1 + 1 < w1.heap.size := R.lt
  have Nc0 : w1.cell? ⟨w.heap.size + 1 + 1 + 1 + 1 + 1, 0, none⟩ = some (.int .i64 (s.level)) := N.cell 0
  have Nf0 : w1.frozen? ⟨w.heap.size + 1 + 1 + 1 + 1 + 1, 0, none⟩ = false := N.free 0
  have Nc1 : w1.cell? ⟨w.heap.size + 1 + 1 + 1 + 1 + 1, 1, none⟩ = some (.int .i64 (s.position)) := N.cell 1
  have Nf1 : w1.frozen? ⟨w.heap.size + 1 + 1 + 1 + 1 + 1, 1, none⟩ = false := N.free 1
  have Nc2 : w1.cell? ⟨w.heap.size + 1 + 1 + 1 + 1 + 1, 2, none⟩ = some (.int .i64 (x.feed)) := N.cell 2
  have Nf2 : w1.frozen? ⟨w.heap.size + 1 + 1 + 1 + 1 + 1, 2, none⟩ = false := N.free 2
  have Nc3 : w1.cell? ⟨w.heap.size + 1 + 1 + 1 + 1 + 1, 3, none⟩ = some (.int .i64 (0)) := N.cell 3
  have Nf3 : w1.frozen? ⟨w.heap.size + 1 + 1 + 1 + 1 + 1, 3, none⟩ = false := N.free 3
  have Nc4 : w1.cell? ⟨w.heap.size + 1 + 1 + 1 + 1 + 1, 4, none⟩ = some (.int .i64 (x.msg)) := N.cell 4
  have Nf4 : w1.frozen? ⟨w.heap.size + 1 + 1 + 1 + 1 + 1, 4, none⟩ = false := N.free 4
  have Nc5 : w1.cell? ⟨w.heap.size + 1 + 1 + 1 + 1 + 1, 5, none⟩ = some (.int .i64 (0)) := N.cell 5
  have Nf5 : w1.frozen? ⟨w.heap.size + 1 + 1 + 1 + 1 + 1, 5, none⟩ = false := N.free 5
  have Nz : w.heap.size + 1 + 1 + 1 + 1 + 1 < w1.heap.size := N.lt
  go_wp2_with fail
  have hY := (((((((R.other (a := ⟨w.heap.size + 1 + 1 + 1 + 1 + 1, 0, none⟩) (by simp <;> omega) (.int .i64 (min p.top (s.level + s.p0 - min (s.level + s.p0) (p.rate * s.position))))).set 0 (.int .i64 (min p.top (s.level + s.p0 - min (s.level + s.p0) (p.rate * s.position))))).set 1 (.int .i64 (s.position))).set 2 (.int .i64 (x.feed))).set 3 (.int .i64 (0))).set 4 (.int .i64 (x.msg))).set 5 (.int .i64 (0)))
  have hB := (((((((hB.setCell (p := ⟨w.heap.size + 1 + 1 + 1 + 1 + 1, 0, none⟩) (by simp <;> omega) (.int .i64 (min p.top (s.level + s.p0 - min (s.level + s.p0) (p.rate * s.position))))).setCell (p := ⟨w.heap.size + 1 + 1 + 1 + 1, 0, none⟩) (by simp <;> omega) (.int .i64 (min p.top (s.level + s.p0 - min (s.level + s.p0) (p.rate * s.position))))).setCell (p := ⟨w.heap.size + 1 + 1 + 1 + 1, 1, none⟩) (by simp <;> omega) (.int .i64 (s.position))).setCell (p := ⟨w.heap.size + 1 + 1 + 1 + 1, 2, none⟩) (by simp <;> omega) (.int .i64 (x.feed))).setCell (p := ⟨w.heap.size + 1 + 1 + 1 + 1, 3, none⟩) (by simp <;> omega) (.int .i64 (0))).setCell (p := ⟨w.heap.size + 1 + 1 + 1 + 1, 4, none⟩) (by simp <;> omega) (.int .i64 (x.msg))).setCell (p := ⟨w.heap.size + 1 + 1 + 1 + 1, 5, none⟩) (by simp <;> omega) (.int .i64 (0)))
  generalize (((((((w1.setCell ⟨w.heap.size + 1 + 1 + 1 + 1 + 1, 0, none⟩ (.int .i64 (min p.top (s.level + s.p0 - min (s.level + s.p0) (p.rate * s.position))))).setCell ⟨w.heap.size + 1 + 1 + 1 + 1, 0, none⟩ (.int .i64 (min p.top (s.level + s.p0 - min (s.level + s.p0) (p.rate * s.position))))).setCell ⟨w.heap.size + 1 + 1 + 1 + 1, 1, none⟩ (.int .i64 (s.position))).setCell ⟨w.heap.size + 1 + 1 + 1 + 1, 2, none⟩ (.int .i64 (x.feed))).setCell ⟨w.heap.size + 1 + 1 + 1 + 1, 3, none⟩ (.int .i64 (0))).setCell ⟨w.heap.size + 1 + 1 + 1 + 1, 4, none⟩ (.int .i64 (x.msg))).setCell ⟨w.heap.size + 1 + 1 + 1 + 1, 5, none⟩ (.int .i64 (0))) = W at hY hB ⊢
  have y0 : W.cell? ⟨w.heap.size + 1 + 1 + 1 + 1, 0, none⟩ = some (.int .i64 (min p.top (s.level + s.p0 - min (s.level + s.p0) (p.rate * s.position)))) := hY.cell 0
  have y1 : W.cell? ⟨w.heap.size + 1 + 1 + 1 + 1, 1, none⟩ = some (.int .i64 (s.position)) := hY.cell 1
  have y2 : W.cell? ⟨w.heap.size + 1 + 1 + 1 + 1, 2, none⟩ = some (.int .i64 (x.feed)) := hY.cell 2
  have y3 : W.cell? ⟨w.heap.size + 1 + 1 + 1 + 1, 3, none⟩ = some (.int .i64 (0)) := hY.cell 3
  have y4 : W.cell? ⟨w.heap.size + 1 + 1 + 1 + 1, 4, none⟩ = some (.int .i64 (x.msg)) := hY.cell 4
  have y5 : W.cell? ⟨w.heap.size + 1 + 1 + 1 + 1, 5, none⟩ = some (.int .i64 (0)) := hY.cell 5
  clear Pc0 Sc0 hY
  refine bodyPost_ret (v := .tuple #[.agg #[.int .i64 (min p.top (s.level + s.p0 - min (s.level + s.p0) (p.rate * s.position))), .int .i64 s.position, .int .i64 x.feed, .int .i64 0, .int .i64 x.msg, .int .i64 0], .int .i64 (min (s.level + s.p0) (p.rate * s.position))]) (by simp [results, Try.results90, go_sem, y0, y1, y2, y3, y4, y5]) rfl ?_
  exact ⟨rfl, hB⟩

set_option maxRecDepth 100000 in
set_option maxHeartbeats 2000000 in
theorem rstep_111 (p : Pl) (code : List Ln) (V : Value) (s : St) (x : Sh) (w : World) (hC : Hid (CodeAt w w.heap.size V code)) (S : Small p s x) (g : Int)
    (hp : p.pipe = 1) (hm : 0 ≤ x.msg) (hR : Hid (runT code ⟨s.level, s.position, x.msg, 0, s.p0⟩ = (g, true, 0))) (hg : 0 ≤ g ∧ g ≤ 1099511627776) :
    Calls Try.prog 90 #[p.v, .agg #[V], s.v, x.v] w fun e w' => e = .returned (.tuple #[.agg #[.int .i64 (min p.top (s.level + s.p0 - min (s.level + s.p0) (p.rate * (max (s.position - p.step) (min (s.position + p.step) (min g p.positions)))))), .int .i64 (max (s.position - p.step) (min (s.position + p.step) (min g p.positions))), .int .i64 x.feed, .int .i64 0, .int .i64 x.msg, .int .i64 0], .int .i64 (min (s.level + s.p0) (p.rate * (max (s.position - p.step) (min (s.position + p.step) (min g p.positions)))))]) ∧ Below w.heap.size w w' := by
  obtain ⟨⟨_, _⟩, ⟨_, _⟩, ⟨_, _⟩, ⟨_, _⟩, ⟨_, _⟩, ⟨_, _⟩, ⟨_, _⟩, ⟨_, _⟩, ⟨_, _⟩, ⟨_, _⟩, ⟨_, _⟩⟩ := S
  obtain ⟨_, _⟩ := hg
  have hM2 := mul_le4 (a := p.rate) (b := max (s.position - p.step) (min (s.position + p.step) (min g p.positions))) (A := 15) (B := 15) (by omega) (by omega)
  obtain ⟨_, _⟩ := hM2
  go_enter Try.func90, Try.ntmps90
  go_wp2_with fail
  have hB : Below w.heap.size w ((((((w.alloc (.cells #[.int .i64 p.top, .int .i64 p.bank, .int .i64 p.siphon, .int .i64 p.start, .int .i64 p.positions, .int .i64 p.rate, .int .i64 p.step, .int .i64 p.pass, .int .i64 p.feed, .int .i64 1, .int .i64 p.orders, .int .i64 p.age] 55)).alloc (.cells #[V] 63)).alloc (.cells #[.int .i64 s.level, .int .i64 s.position, .int .i64 s.p0, .int .i64 s.p1, .int .i64 s.order, .int .i64 s.age] 51)).alloc (.cells #[.int .i64 x.feed, .int .i64 x.msg] 71)).alloc (.cells #[.int .i64 0, .int .i64 0, .int .i64 0, .int .i64 0, .int .i64 0, .int .i64 0] 51)).alloc (.cells #[.int .i64 s.level, .int .i64 s.position, .int .i64 x.feed, .int .i64 0, .int .i64 x.msg, .int .i64 0] 51)) := ((((((Below.refl _ _).alloc (by simp <;> omega) _).alloc (by simp <;> omega) _).alloc (by simp <;> omega) _).alloc (by simp <;> omega) _).alloc (by simp <;> omega) _).alloc (by simp <;> omega) _
  refine (rrun_at (r := ⟨s.level, s.position, x.msg, 0, s.p0⟩) hR (hC.out.later hB)).mono ?_
  rintro e w1 ⟨rfl, hb⟩
  have P := (((((((Box.newAt (n := w.heap.size) [.int .i64 p.top, .int .i64 p.bank, .int .i64 p.siphon, .int .i64 p.start, .int .i64 p.positions, .int .i64 p.rate, .int .i64 p.step, .int .i64 p.pass, .int .i64 p.feed, .int .i64 1, .int .i64 p.orders, .int .i64 p.age] 55 (by simp)).alloc _).alloc _).alloc _).alloc _).alloc _)).later hb
  have S := (((((Box.newAt (n := w.heap.size + 1 + 1) [.int .i64 s.level, .int .i64 s.position, .int .i64 s.p0, .int .i64 s.p1, .int .i64 s.order, .int .i64 s.age] 51 (by simp)).alloc _).alloc _).alloc _)).later hb
  have R := (((Box.newAt (n := w.heap.size + 1 + 1 + 1 + 1) [.int .i64 0, .int .i64 0, .int .i64 0, .int .i64 0, .int .i64 0, .int .i64 0] 51 (by simp)).alloc _)).later hb
  have N := ((Box.newAt (n := w.heap.size + 1 + 1 + 1 + 1 + 1) [.int .i64 s.level, .int .i64 s.position, .int .i64 x.feed, .int .i64 0, .int .i64 x.msg, .int .i64 0] 51 (by simp))).later hb
  have hB := hB.trans (hb.mono hB.size)
  clear hb
  have Pc0 : w1.cell? ⟨w.heap.size, 0, none⟩ = some (.int .i64 (p.top)) := P.cell 0
  have Pc1 : w1.cell? ⟨w.heap.size, 1, none⟩ = some (.int .i64 (p.bank)) := P.cell 1
  have Pc2 : w1.cell? ⟨w.heap.size, 2, none⟩ = some (.int .i64 (p.siphon)) := P.cell 2
  have Pc3 : w1.cell? ⟨w.heap.size, 3, none⟩ = some (.int .i64 (p.start)) := P.cell 3
  have Pc4 : w1.cell? ⟨w.heap.size, 4, none⟩ = some (.int .i64 (p.positions)) := P.cell 4
  have Pc5 : w1.cell? ⟨w.heap.size, 5, none⟩ = some (.int .i64 (p.rate)) := P.cell 5
  have Pc6 : w1.cell? ⟨w.heap.size, 6, none⟩ = some (.int .i64 (p.step)) := P.cell 6
  have Pc7 : w1.cell? ⟨w.heap.size, 7, none⟩ = some (.int .i64 (p.pass)) := P.cell 7
  have Pc8 : w1.cell? ⟨w.heap.size, 8, none⟩ = some (.int .i64 (p.feed)) := P.cell 8
  have Pc9 : w1.cell? ⟨w.heap.size, 9, none⟩ = some (.int .i64 (1)) := P.cell 9
  have Pc10 : w1.cell? ⟨w.heap.size, 10, none⟩ = some (.int .i64 (p.orders)) := P.cell 10
  have Pc11 : w1.cell? ⟨w.heap.size, 11, none⟩ = some (.int .i64 (p.age)) := P.cell 11
  have Sc0 : w1.cell? ⟨w.heap.size + 1 + 1, 0, none⟩ = some (.int .i64 (s.level)) := S.cell 0
  have Sc1 : w1.cell? ⟨w.heap.size + 1 + 1, 1, none⟩ = some (.int .i64 (s.position)) := S.cell 1
  have Sc2 : w1.cell? ⟨w.heap.size + 1 + 1, 2, none⟩ = some (.int .i64 (s.p0)) := S.cell 2
  have Sc3 : w1.cell? ⟨w.heap.size + 1 + 1, 3, none⟩ = some (.int .i64 (s.p1)) := S.cell 3
  have Sc4 : w1.cell? ⟨w.heap.size + 1 + 1, 4, none⟩ = some (.int .i64 (s.order)) := S.cell 4
  have Sc5 : w1.cell? ⟨w.heap.size + 1 + 1, 5, none⟩ = some (.int .i64 (s.age)) := S.cell 5
  have Rc0 : w1.cell? ⟨w.heap.size + 1 + 1 + 1 + 1, 0, none⟩ = some (.int .i64 (0)) := R.cell 0
  have Rf0 : w1.frozen? ⟨w.heap.size + 1 + 1 + 1 + 1, 0, none⟩ = false := R.free 0
  have Rc1 : w1.cell? ⟨w.heap.size + 1 + 1 + 1 + 1, 1, none⟩ = some (.int .i64 (0)) := R.cell 1
  have Rf1 : w1.frozen? ⟨w.heap.size + 1 + 1 + 1 + 1, 1, none⟩ = false := R.free 1
  have Rc2 : w1.cell? ⟨w.heap.size + 1 + 1 + 1 + 1, 2, none⟩ = some (.int .i64 (0)) := R.cell 2
  have Rf2 : w1.frozen? ⟨w.heap.size + 1 + 1 + 1 + 1, 2, none⟩ = false := R.free 2
  have Rc3 : w1.cell? ⟨w.heap.size + 1 + 1 + 1 + 1, 3, none⟩ = some (.int .i64 (0)) := R.cell 3
  have Rf3 : w1.frozen? ⟨w.heap.size + 1 + 1 + 1 + 1, 3, none⟩ = false := R.free 3
  have Rc4 : w1.cell? ⟨w.heap.size + 1 + 1 + 1 + 1, 4, none⟩ = some (.int .i64 (0)) := R.cell 4
  have Rf4 : w1.frozen? ⟨w.heap.size + 1 + 1 + 1 + 1, 4, none⟩ = false := R.free 4
  have Rc5 : w1.cell? ⟨w.heap.size + 1 + 1 + 1 + 1, 5, none⟩ = some (.int .i64 (0)) := R.cell 5
  have Rf5 : w1.frozen? ⟨w.heap.size + 1 + 1 + 1 + 1, 5, none⟩ = false := R.free 5
  have Rz : w.heap.size + 1 + 1 + 1 + 1 < w1.heap.size := R.lt
  have Nc0 : w1.cell? ⟨w.heap.size + 1 + 1 + 1 + 1 + 1, 0, none⟩ = some (.int .i64 (s.level)) := N.cell 0
  have Nf0 : w1.frozen? ⟨w.heap.size + 1 + 1 + 1 + 1 + 1, 0, none⟩ = false := N.free 0
  have Nc1 : w1.cell? ⟨w.heap.size + 1 + 1 + 1 + 1 + 1, 1, none⟩ = some (.int .i64 (s.position)) := N.cell 1
  have Nf1 : w1.frozen? ⟨w.heap.size + 1 + 1 + 1 + 1 + 1, 1, none⟩ = false := N.free 1
  have Nc2 : w1.cell? ⟨w.heap.size + 1 + 1 + 1 + 1 + 1, 2, none⟩ = some (.int .i64 (x.feed)) := N.cell 2
  have Nf2 : w1.frozen? ⟨w.heap.size + 1 + 1 + 1 + 1 + 1, 2, none⟩ = false := N.free 2
  have Nc3 : w1.cell? ⟨w.heap.size + 1 + 1 + 1 + 1 + 1, 3, none⟩ = some (.int .i64 (0)) := N.cell 3
  have Nf3 : w1.frozen? ⟨w.heap.size + 1 + 1 + 1 + 1 + 1, 3, none⟩ = false := N.free 3
  have Nc4 : w1.cell? ⟨w.heap.size + 1 + 1 + 1 + 1 + 1, 4, none⟩ = some (.int .i64 (x.msg)) := N.cell 4
  have Nf4 : w1.frozen? ⟨w.heap.size + 1 + 1 + 1 + 1 + 1, 4, none⟩ = false := N.free 4
  have Nc5 : w1.cell? ⟨w.heap.size + 1 + 1 + 1 + 1 + 1, 5, none⟩ = some (.int .i64 (0)) := N.cell 5
  have Nf5 : w1.frozen? ⟨w.heap.size + 1 + 1 + 1 + 1 + 1, 5, none⟩ = false := N.free 5
  have Nz : w.heap.size + 1 + 1 + 1 + 1 + 1 < w1.heap.size := N.lt
  go_wp2_with fail
  have hY := ((((((((R.other (a := ⟨w.heap.size + 1 + 1 + 1 + 1 + 1, 1, none⟩) (by simp <;> omega) (.int .i64 (max (s.position - p.step) (min (s.position + p.step) (min g p.positions))))).other (a := ⟨w.heap.size + 1 + 1 + 1 + 1 + 1, 0, none⟩) (by simp <;> omega) (.int .i64 (min p.top (s.level + s.p0 - min (s.level + s.p0) (p.rate * (max (s.position - p.step) (min (s.position + p.step) (min g p.positions)))))))).set 0 (.int .i64 (min p.top (s.level + s.p0 - min (s.level + s.p0) (p.rate * (max (s.position - p.step) (min (s.position + p.step) (min g p.positions)))))))).set 1 (.int .i64 (max (s.position - p.step) (min (s.position + p.step) (min g p.positions))))).set 2 (.int .i64 (x.feed))).set 3 (.int .i64 (0))).set 4 (.int .i64 (x.msg))).set 5 (.int .i64 (0)))
  have hB := ((((((((hB.setCell (p := ⟨w.heap.size + 1 + 1 + 1 + 1 + 1, 1, none⟩) (by simp <;> omega) (.int .i64 (max (s.position - p.step) (min (s.position + p.step) (min g p.positions))))).setCell (p := ⟨w.heap.size + 1 + 1 + 1 + 1 + 1, 0, none⟩) (by simp <;> omega) (.int .i64 (min p.top (s.level + s.p0 - min (s.level + s.p0) (p.rate * (max (s.position - p.step) (min (s.position + p.step) (min g p.positions)))))))).setCell (p := ⟨w.heap.size + 1 + 1 + 1 + 1, 0, none⟩) (by simp <;> omega) (.int .i64 (min p.top (s.level + s.p0 - min (s.level + s.p0) (p.rate * (max (s.position - p.step) (min (s.position + p.step) (min g p.positions)))))))).setCell (p := ⟨w.heap.size + 1 + 1 + 1 + 1, 1, none⟩) (by simp <;> omega) (.int .i64 (max (s.position - p.step) (min (s.position + p.step) (min g p.positions))))).setCell (p := ⟨w.heap.size + 1 + 1 + 1 + 1, 2, none⟩) (by simp <;> omega) (.int .i64 (x.feed))).setCell (p := ⟨w.heap.size + 1 + 1 + 1 + 1, 3, none⟩) (by simp <;> omega) (.int .i64 (0))).setCell (p := ⟨w.heap.size + 1 + 1 + 1 + 1, 4, none⟩) (by simp <;> omega) (.int .i64 (x.msg))).setCell (p := ⟨w.heap.size + 1 + 1 + 1 + 1, 5, none⟩) (by simp <;> omega) (.int .i64 (0)))
  generalize ((((((((w1.setCell ⟨w.heap.size + 1 + 1 + 1 + 1 + 1, 1, none⟩ (.int .i64 (max (s.position - p.step) (min (s.position + p.step) (min g p.positions))))).setCell ⟨w.heap.size + 1 + 1 + 1 + 1 + 1, 0, none⟩ (.int .i64 (min p.top (s.level + s.p0 - min (s.level + s.p0) (p.rate * (max (s.position - p.step) (min (s.position + p.step) (min g p.positions)))))))).setCell ⟨w.heap.size + 1 + 1 + 1 + 1, 0, none⟩ (.int .i64 (min p.top (s.level + s.p0 - min (s.level + s.p0) (p.rate * (max (s.position - p.step) (min (s.position + p.step) (min g p.positions)))))))).setCell ⟨w.heap.size + 1 + 1 + 1 + 1, 1, none⟩ (.int .i64 (max (s.position - p.step) (min (s.position + p.step) (min g p.positions))))).setCell ⟨w.heap.size + 1 + 1 + 1 + 1, 2, none⟩ (.int .i64 (x.feed))).setCell ⟨w.heap.size + 1 + 1 + 1 + 1, 3, none⟩ (.int .i64 (0))).setCell ⟨w.heap.size + 1 + 1 + 1 + 1, 4, none⟩ (.int .i64 (x.msg))).setCell ⟨w.heap.size + 1 + 1 + 1 + 1, 5, none⟩ (.int .i64 (0))) = W at hY hB ⊢
  have y0 : W.cell? ⟨w.heap.size + 1 + 1 + 1 + 1, 0, none⟩ = some (.int .i64 (min p.top (s.level + s.p0 - min (s.level + s.p0) (p.rate * (max (s.position - p.step) (min (s.position + p.step) (min g p.positions))))))) := hY.cell 0
  have y1 : W.cell? ⟨w.heap.size + 1 + 1 + 1 + 1, 1, none⟩ = some (.int .i64 (max (s.position - p.step) (min (s.position + p.step) (min g p.positions)))) := hY.cell 1
  have y2 : W.cell? ⟨w.heap.size + 1 + 1 + 1 + 1, 2, none⟩ = some (.int .i64 (x.feed)) := hY.cell 2
  have y3 : W.cell? ⟨w.heap.size + 1 + 1 + 1 + 1, 3, none⟩ = some (.int .i64 (0)) := hY.cell 3
  have y4 : W.cell? ⟨w.heap.size + 1 + 1 + 1 + 1, 4, none⟩ = some (.int .i64 (x.msg)) := hY.cell 4
  have y5 : W.cell? ⟨w.heap.size + 1 + 1 + 1 + 1, 5, none⟩ = some (.int .i64 (0)) := hY.cell 5
  clear Pc0 Sc0 hY
  refine bodyPost_ret (v := .tuple #[.agg #[.int .i64 (min p.top (s.level + s.p0 - min (s.level + s.p0) (p.rate * (max (s.position - p.step) (min (s.position + p.step) (min g p.positions)))))), .int .i64 (max (s.position - p.step) (min (s.position + p.step) (min g p.positions))), .int .i64 x.feed, .int .i64 0, .int .i64 x.msg, .int .i64 0], .int .i64 (min (s.level + s.p0) (p.rate * (max (s.position - p.step) (min (s.position + p.step) (min g p.positions)))))]) (by simp [results, Try.results90, go_sem, y0, y1, y2, y3, y4, y5]) rfl ?_
  exact ⟨rfl, hB⟩

set_option maxRecDepth 100000 in
set_option maxHeartbeats 2000000 in
theorem rstep_120 (p : Pl) (code : List Ln) (V : Value) (s : St) (x : Sh) (w : World) (hC : Hid (CodeAt w w.heap.size V code)) (S : Small p s x) (g : Int)
    (hp : p.pipe = 2) (hm : 0 ≤ x.msg) (hR : Hid (runT code ⟨s.level, s.position, x.msg, 0, s.p0⟩ = (g, false, 0))) (hg : 0 ≤ g ∧ g ≤ 1099511627776) :
    Calls Try.prog 90 #[p.v, .agg #[V], s.v, x.v] w fun e w' => e = .returned (.tuple #[.agg #[.int .i64 (min p.top (s.level + s.p0 - min (s.level + s.p0) (p.rate * s.position))), .int .i64 s.position, .int .i64 s.p1, .int .i64 x.feed, .int .i64 x.msg, .int .i64 0], .int .i64 (min (s.level + s.p0) (p.rate * s.position))]) ∧ Below w.heap.size w w' := by
  obtain ⟨⟨_, _⟩, ⟨_, _⟩, ⟨_, _⟩, ⟨_, _⟩, ⟨_, _⟩, ⟨_, _⟩, ⟨_, _⟩, ⟨_, _⟩, ⟨_, _⟩, ⟨_, _⟩, ⟨_, _⟩⟩ := S
  obtain ⟨_, _⟩ := hg
  have hM2 := mul_le4 (a := p.rate) (b := s.position) (A := 15) (B := 15) (by omega) (by omega)
  obtain ⟨_, _⟩ := hM2
  go_enter Try.func90, Try.ntmps90
  go_wp2_with fail
  have hB : Below w.heap.size w ((((((w.alloc (.cells #[.int .i64 p.top, .int .i64 p.bank, .int .i64 p.siphon, .int .i64 p.start, .int .i64 p.positions, .int .i64 p.rate, .int .i64 p.step, .int .i64 p.pass, .int .i64 p.feed, .int .i64 2, .int .i64 p.orders, .int .i64 p.age] 55)).alloc (.cells #[V] 63)).alloc (.cells #[.int .i64 s.level, .int .i64 s.position, .int .i64 s.p0, .int .i64 s.p1, .int .i64 s.order, .int .i64 s.age] 51)).alloc (.cells #[.int .i64 x.feed, .int .i64 x.msg] 71)).alloc (.cells #[.int .i64 0, .int .i64 0, .int .i64 0, .int .i64 0, .int .i64 0, .int .i64 0] 51)).alloc (.cells #[.int .i64 s.level, .int .i64 s.position, .int .i64 s.p1, .int .i64 x.feed, .int .i64 x.msg, .int .i64 0] 51)) := ((((((Below.refl _ _).alloc (by simp <;> omega) _).alloc (by simp <;> omega) _).alloc (by simp <;> omega) _).alloc (by simp <;> omega) _).alloc (by simp <;> omega) _).alloc (by simp <;> omega) _
  refine (rrun_at (r := ⟨s.level, s.position, x.msg, 0, s.p0⟩) hR (hC.out.later hB)).mono ?_
  rintro e w1 ⟨rfl, hb⟩
  have P := (((((((Box.newAt (n := w.heap.size) [.int .i64 p.top, .int .i64 p.bank, .int .i64 p.siphon, .int .i64 p.start, .int .i64 p.positions, .int .i64 p.rate, .int .i64 p.step, .int .i64 p.pass, .int .i64 p.feed, .int .i64 2, .int .i64 p.orders, .int .i64 p.age] 55 (by simp)).alloc _).alloc _).alloc _).alloc _).alloc _)).later hb
  have S := (((((Box.newAt (n := w.heap.size + 1 + 1) [.int .i64 s.level, .int .i64 s.position, .int .i64 s.p0, .int .i64 s.p1, .int .i64 s.order, .int .i64 s.age] 51 (by simp)).alloc _).alloc _).alloc _)).later hb
  have R := (((Box.newAt (n := w.heap.size + 1 + 1 + 1 + 1) [.int .i64 0, .int .i64 0, .int .i64 0, .int .i64 0, .int .i64 0, .int .i64 0] 51 (by simp)).alloc _)).later hb
  have N := ((Box.newAt (n := w.heap.size + 1 + 1 + 1 + 1 + 1) [.int .i64 s.level, .int .i64 s.position, .int .i64 s.p1, .int .i64 x.feed, .int .i64 x.msg, .int .i64 0] 51 (by simp))).later hb
  have hB := hB.trans (hb.mono hB.size)
  clear hb
  have Pc0 : w1.cell? ⟨w.heap.size, 0, none⟩ = some (.int .i64 (p.top)) := P.cell 0
  have Pc1 : w1.cell? ⟨w.heap.size, 1, none⟩ = some (.int .i64 (p.bank)) := P.cell 1
  have Pc2 : w1.cell? ⟨w.heap.size, 2, none⟩ = some (.int .i64 (p.siphon)) := P.cell 2
  have Pc3 : w1.cell? ⟨w.heap.size, 3, none⟩ = some (.int .i64 (p.start)) := P.cell 3
  have Pc4 : w1.cell? ⟨w.heap.size, 4, none⟩ = some (.int .i64 (p.positions)) := P.cell 4
  have Pc5 : w1.cell? ⟨w.heap.size, 5, none⟩ = some (.int .i64 (p.rate)) := P.cell 5
  have Pc6 : w1.cell? ⟨w.heap.size, 6, none⟩ = some (.int .i64 (p.step)) := P.cell 6
  have Pc7 : w1.cell? ⟨w.heap.size, 7, none⟩ = some (.int .i64 (p.pass)) := P.cell 7
  have Pc8 : w1.cell? ⟨w.heap.size, 8, none⟩ = some (.int .i64 (p.feed)) := P.cell 8
  have Pc9 : w1.cell? ⟨w.heap.size, 9, none⟩ = some (.int .i64 (2)) := P.cell 9
  have Pc10 : w1.cell? ⟨w.heap.size, 10, none⟩ = some (.int .i64 (p.orders)) := P.cell 10
  have Pc11 : w1.cell? ⟨w.heap.size, 11, none⟩ = some (.int .i64 (p.age)) := P.cell 11
  have Sc0 : w1.cell? ⟨w.heap.size + 1 + 1, 0, none⟩ = some (.int .i64 (s.level)) := S.cell 0
  have Sc1 : w1.cell? ⟨w.heap.size + 1 + 1, 1, none⟩ = some (.int .i64 (s.position)) := S.cell 1
  have Sc2 : w1.cell? ⟨w.heap.size + 1 + 1, 2, none⟩ = some (.int .i64 (s.p0)) := S.cell 2
  have Sc3 : w1.cell? ⟨w.heap.size + 1 + 1, 3, none⟩ = some (.int .i64 (s.p1)) := S.cell 3
  have Sc4 : w1.cell? ⟨w.heap.size + 1 + 1, 4, none⟩ = some (.int .i64 (s.order)) := S.cell 4
  have Sc5 : w1.cell? ⟨w.heap.size + 1 + 1, 5, none⟩ = some (.int .i64 (s.age)) := S.cell 5
  have Rc0 : w1.cell? ⟨w.heap.size + 1 + 1 + 1 + 1, 0, none⟩ = some (.int .i64 (0)) := R.cell 0
  have Rf0 : w1.frozen? ⟨w.heap.size + 1 + 1 + 1 + 1, 0, none⟩ = false := R.free 0
  have Rc1 : w1.cell? ⟨w.heap.size + 1 + 1 + 1 + 1, 1, none⟩ = some (.int .i64 (0)) := R.cell 1
  have Rf1 : w1.frozen? ⟨w.heap.size + 1 + 1 + 1 + 1, 1, none⟩ = false := R.free 1
  have Rc2 : w1.cell? ⟨w.heap.size + 1 + 1 + 1 + 1, 2, none⟩ = some (.int .i64 (0)) := R.cell 2
  have Rf2 : w1.frozen? ⟨w.heap.size + 1 + 1 + 1 + 1, 2, none⟩ = false := R.free 2
  have Rc3 : w1.cell? ⟨w.heap.size + 1 + 1 + 1 + 1, 3, none⟩ = some (.int .i64 (0)) := R.cell 3
  have Rf3 : w1.frozen? ⟨w.heap.size + 1 + 1 + 1 + 1, 3, none⟩ = false := R.free 3
  have Rc4 : w1.cell? ⟨w.heap.size + 1 + 1 + 1 + 1, 4, none⟩ = some (.int .i64 (0)) := R.cell 4
  have Rf4 : w1.frozen? ⟨w.heap.size + 1 + 1 + 1 + 1, 4, none⟩ = false := R.free 4
  have Rc5 : w1.cell? ⟨w.heap.size + 1 + 1 + 1 + 1, 5, none⟩ = some (.int .i64 (0)) := R.cell 5
  have Rf5 : w1.frozen? ⟨w.heap.size + 1 + 1 + 1 + 1, 5, none⟩ = false := R.free 5
  have Rz : w.heap.size + 1 + 1 + 1 + 1 < w1.heap.size := R.lt
  have Nc0 : w1.cell? ⟨w.heap.size + 1 + 1 + 1 + 1 + 1, 0, none⟩ = some (.int .i64 (s.level)) := N.cell 0
  have Nf0 : w1.frozen? ⟨w.heap.size + 1 + 1 + 1 + 1 + 1, 0, none⟩ = false := N.free 0
  have Nc1 : w1.cell? ⟨w.heap.size + 1 + 1 + 1 + 1 + 1, 1, none⟩ = some (.int .i64 (s.position)) := N.cell 1
  have Nf1 : w1.frozen? ⟨w.heap.size + 1 + 1 + 1 + 1 + 1, 1, none⟩ = false := N.free 1
  have Nc2 : w1.cell? ⟨w.heap.size + 1 + 1 + 1 + 1 + 1, 2, none⟩ = some (.int .i64 (s.p1)) := N.cell 2
  have Nf2 : w1.frozen? ⟨w.heap.size + 1 + 1 + 1 + 1 + 1, 2, none⟩ = false := N.free 2
  have Nc3 : w1.cell? ⟨w.heap.size + 1 + 1 + 1 + 1 + 1, 3, none⟩ = some (.int .i64 (x.feed)) := N.cell 3
  have Nf3 : w1.frozen? ⟨w.heap.size + 1 + 1 + 1 + 1 + 1, 3, none⟩ = false := N.free 3
  have Nc4 : w1.cell? ⟨w.heap.size + 1 + 1 + 1 + 1 + 1, 4, none⟩ = some (.int .i64 (x.msg)) := N.cell 4
  have Nf4 : w1.frozen? ⟨w.heap.size + 1 + 1 + 1 + 1 + 1, 4, none⟩ = false := N.free 4
  have Nc5 : w1.cell? ⟨w.heap.size + 1 + 1 + 1 + 1 + 1, 5, none⟩ = some (.int .i64 (0)) := N.cell 5
  have Nf5 : w1.frozen? ⟨w.heap.size + 1 + 1 + 1 + 1 + 1, 5, none⟩ = false := N.free 5
  have Nz : w.heap.size + 1 + 1 + 1 + 1 + 1 < w1.heap.size := N.lt
  go_wp2_with fail
  have hY := (((((((R.other (a := ⟨w.heap.size + 1 + 1 + 1 + 1 + 1, 0, none⟩) (by simp <;> omega) (.int .i64 (min p.top (s.level + s.p0 - min (s.level + s.p0) (p.rate * s.position))))).set 0 (.int .i64 (min p.top (s.level + s.p0 - min (s.level + s.p0) (p.rate * s.position))))).set 1 (.int .i64 (s.position))).set 2 (.int .i64 (s.p1))).set 3 (.int .i64 (x.feed))).set 4 (.int .i64 (x.msg))).set 5 (.int .i64 (0)))
  have hB := (((((((hB.setCell (p := ⟨w.heap.size + 1 + 1 + 1 + 1 + 1, 0, none⟩) (by simp <;> omega) (.int .i64 (min p.top (s.level + s.p0 - min (s.level + s.p0) (p.rate * s.position))))).setCell (p := ⟨w.heap.size + 1 + 1 + 1 + 1, 0, none⟩) (by simp <;> omega) (.int .i64 (min p.top (s.level + s.p0 - min (s.level + s.p0) (p.rate * s.position))))).setCell (p := ⟨w.heap.size + 1 + 1 + 1 + 1, 1, none⟩) (by simp <;> omega) (.int .i64 (s.position))).setCell (p := ⟨w.heap.size + 1 + 1 + 1 + 1, 2, none⟩) (by simp <;> omega) (.int .i64 (s.p1))).setCell (p := ⟨w.heap.size + 1 + 1 + 1 + 1, 3, none⟩) (by simp <;> omega) (.int .i64 (x.feed))).setCell (p := ⟨w.heap.size + 1 + 1 + 1 + 1, 4, none⟩) (by simp <;> omega) (.int .i64 (x.msg))).setCell (p := ⟨w.heap.size + 1 + 1 + 1 + 1, 5, none⟩) (by simp <;> omega) (.int .i64 (0)))
  generalize (((((((w1.setCell ⟨w.heap.size + 1 + 1 + 1 + 1 + 1, 0, none⟩ (.int .i64 (min p.top (s.level + s.p0 - min (s.level + s.p0) (p.rate * s.position))))).setCell ⟨w.heap.size + 1 + 1 + 1 + 1, 0, none⟩ (.int .i64 (min p.top (s.level + s.p0 - min (s.level + s.p0) (p.rate * s.position))))).setCell ⟨w.heap.size + 1 + 1 + 1 + 1, 1, none⟩ (.int .i64 (s.position))).setCell ⟨w.heap.size + 1 + 1 + 1 + 1, 2, none⟩ (.int .i64 (s.p1))).setCell ⟨w.heap.size + 1 + 1 + 1 + 1, 3, none⟩ (.int .i64 (x.feed))).setCell ⟨w.heap.size + 1 + 1 + 1 + 1, 4, none⟩ (.int .i64 (x.msg))).setCell ⟨w.heap.size + 1 + 1 + 1 + 1, 5, none⟩ (.int .i64 (0))) = W at hY hB ⊢
  have y0 : W.cell? ⟨w.heap.size + 1 + 1 + 1 + 1, 0, none⟩ = some (.int .i64 (min p.top (s.level + s.p0 - min (s.level + s.p0) (p.rate * s.position)))) := hY.cell 0
  have y1 : W.cell? ⟨w.heap.size + 1 + 1 + 1 + 1, 1, none⟩ = some (.int .i64 (s.position)) := hY.cell 1
  have y2 : W.cell? ⟨w.heap.size + 1 + 1 + 1 + 1, 2, none⟩ = some (.int .i64 (s.p1)) := hY.cell 2
  have y3 : W.cell? ⟨w.heap.size + 1 + 1 + 1 + 1, 3, none⟩ = some (.int .i64 (x.feed)) := hY.cell 3
  have y4 : W.cell? ⟨w.heap.size + 1 + 1 + 1 + 1, 4, none⟩ = some (.int .i64 (x.msg)) := hY.cell 4
  have y5 : W.cell? ⟨w.heap.size + 1 + 1 + 1 + 1, 5, none⟩ = some (.int .i64 (0)) := hY.cell 5
  clear Pc0 Sc0 hY
  refine bodyPost_ret (v := .tuple #[.agg #[.int .i64 (min p.top (s.level + s.p0 - min (s.level + s.p0) (p.rate * s.position))), .int .i64 s.position, .int .i64 s.p1, .int .i64 x.feed, .int .i64 x.msg, .int .i64 0], .int .i64 (min (s.level + s.p0) (p.rate * s.position))]) (by simp [results, Try.results90, go_sem, y0, y1, y2, y3, y4, y5]) rfl ?_
  exact ⟨rfl, hB⟩

set_option maxRecDepth 100000 in
set_option maxHeartbeats 2000000 in
theorem rstep_121 (p : Pl) (code : List Ln) (V : Value) (s : St) (x : Sh) (w : World) (hC : Hid (CodeAt w w.heap.size V code)) (S : Small p s x) (g : Int)
    (hp : p.pipe = 2) (hm : 0 ≤ x.msg) (hR : Hid (runT code ⟨s.level, s.position, x.msg, 0, s.p0⟩ = (g, true, 0))) (hg : 0 ≤ g ∧ g ≤ 1099511627776) :
    Calls Try.prog 90 #[p.v, .agg #[V], s.v, x.v] w fun e w' => e = .returned (.tuple #[.agg #[.int .i64 (min p.top (s.level + s.p0 - min (s.level + s.p0) (p.rate * (max (s.position - p.step) (min (s.position + p.step) (min g p.positions)))))), .int .i64 (max (s.position - p.step) (min (s.position + p.step) (min g p.positions))), .int .i64 s.p1, .int .i64 x.feed, .int .i64 x.msg, .int .i64 0], .int .i64 (min (s.level + s.p0) (p.rate * (max (s.position - p.step) (min (s.position + p.step) (min g p.positions)))))]) ∧ Below w.heap.size w w' := by
  obtain ⟨⟨_, _⟩, ⟨_, _⟩, ⟨_, _⟩, ⟨_, _⟩, ⟨_, _⟩, ⟨_, _⟩, ⟨_, _⟩, ⟨_, _⟩, ⟨_, _⟩, ⟨_, _⟩, ⟨_, _⟩⟩ := S
  obtain ⟨_, _⟩ := hg
  have hM2 := mul_le4 (a := p.rate) (b := max (s.position - p.step) (min (s.position + p.step) (min g p.positions))) (A := 15) (B := 15) (by omega) (by omega)
  obtain ⟨_, _⟩ := hM2
  go_enter Try.func90, Try.ntmps90
  go_wp2_with fail
  have hB : Below w.heap.size w ((((((w.alloc (.cells #[.int .i64 p.top, .int .i64 p.bank, .int .i64 p.siphon, .int .i64 p.start, .int .i64 p.positions, .int .i64 p.rate, .int .i64 p.step, .int .i64 p.pass, .int .i64 p.feed, .int .i64 2, .int .i64 p.orders, .int .i64 p.age] 55)).alloc (.cells #[V] 63)).alloc (.cells #[.int .i64 s.level, .int .i64 s.position, .int .i64 s.p0, .int .i64 s.p1, .int .i64 s.order, .int .i64 s.age] 51)).alloc (.cells #[.int .i64 x.feed, .int .i64 x.msg] 71)).alloc (.cells #[.int .i64 0, .int .i64 0, .int .i64 0, .int .i64 0, .int .i64 0, .int .i64 0] 51)).alloc (.cells #[.int .i64 s.level, .int .i64 s.position, .int .i64 s.p1, .int .i64 x.feed, .int .i64 x.msg, .int .i64 0] 51)) := ((((((Below.refl _ _).alloc (by simp <;> omega) _).alloc (by simp <;> omega) _).alloc (by simp <;> omega) _).alloc (by simp <;> omega) _).alloc (by simp <;> omega) _).alloc (by simp <;> omega) _
  refine (rrun_at (r := ⟨s.level, s.position, x.msg, 0, s.p0⟩) hR (hC.out.later hB)).mono ?_
  rintro e w1 ⟨rfl, hb⟩
  have P := (((((((Box.newAt (n := w.heap.size) [.int .i64 p.top, .int .i64 p.bank, .int .i64 p.siphon, .int .i64 p.start, .int .i64 p.positions, .int .i64 p.rate, .int .i64 p.step, .int .i64 p.pass, .int .i64 p.feed, .int .i64 2, .int .i64 p.orders, .int .i64 p.age] 55 (by simp)).alloc _).alloc _).alloc _).alloc _).alloc _)).later hb
  have S := (((((Box.newAt (n := w.heap.size + 1 + 1) [.int .i64 s.level, .int .i64 s.position, .int .i64 s.p0, .int .i64 s.p1, .int .i64 s.order, .int .i64 s.age] 51 (by simp)).alloc _).alloc _).alloc _)).later hb
  have R := (((Box.newAt (n := w.heap.size + 1 + 1 + 1 + 1) [.int .i64 0, .int .i64 0, .int .i64 0, .int .i64 0, .int .i64 0, .int .i64 0] 51 (by simp)).alloc _)).later hb
  have N := ((Box.newAt (n := w.heap.size + 1 + 1 + 1 + 1 + 1) [.int .i64 s.level, .int .i64 s.position, .int .i64 s.p1, .int .i64 x.feed, .int .i64 x.msg, .int .i64 0] 51 (by simp))).later hb
  have hB := hB.trans (hb.mono hB.size)
  clear hb
  have Pc0 : w1.cell? ⟨w.heap.size, 0, none⟩ = some (.int .i64 (p.top)) := P.cell 0
  have Pc1 : w1.cell? ⟨w.heap.size, 1, none⟩ = some (.int .i64 (p.bank)) := P.cell 1
  have Pc2 : w1.cell? ⟨w.heap.size, 2, none⟩ = some (.int .i64 (p.siphon)) := P.cell 2
  have Pc3 : w1.cell? ⟨w.heap.size, 3, none⟩ = some (.int .i64 (p.start)) := P.cell 3
  have Pc4 : w1.cell? ⟨w.heap.size, 4, none⟩ = some (.int .i64 (p.positions)) := P.cell 4
  have Pc5 : w1.cell? ⟨w.heap.size, 5, none⟩ = some (.int .i64 (p.rate)) := P.cell 5
  have Pc6 : w1.cell? ⟨w.heap.size, 6, none⟩ = some (.int .i64 (p.step)) := P.cell 6
  have Pc7 : w1.cell? ⟨w.heap.size, 7, none⟩ = some (.int .i64 (p.pass)) := P.cell 7
  have Pc8 : w1.cell? ⟨w.heap.size, 8, none⟩ = some (.int .i64 (p.feed)) := P.cell 8
  have Pc9 : w1.cell? ⟨w.heap.size, 9, none⟩ = some (.int .i64 (2)) := P.cell 9
  have Pc10 : w1.cell? ⟨w.heap.size, 10, none⟩ = some (.int .i64 (p.orders)) := P.cell 10
  have Pc11 : w1.cell? ⟨w.heap.size, 11, none⟩ = some (.int .i64 (p.age)) := P.cell 11
  have Sc0 : w1.cell? ⟨w.heap.size + 1 + 1, 0, none⟩ = some (.int .i64 (s.level)) := S.cell 0
  have Sc1 : w1.cell? ⟨w.heap.size + 1 + 1, 1, none⟩ = some (.int .i64 (s.position)) := S.cell 1
  have Sc2 : w1.cell? ⟨w.heap.size + 1 + 1, 2, none⟩ = some (.int .i64 (s.p0)) := S.cell 2
  have Sc3 : w1.cell? ⟨w.heap.size + 1 + 1, 3, none⟩ = some (.int .i64 (s.p1)) := S.cell 3
  have Sc4 : w1.cell? ⟨w.heap.size + 1 + 1, 4, none⟩ = some (.int .i64 (s.order)) := S.cell 4
  have Sc5 : w1.cell? ⟨w.heap.size + 1 + 1, 5, none⟩ = some (.int .i64 (s.age)) := S.cell 5
  have Rc0 : w1.cell? ⟨w.heap.size + 1 + 1 + 1 + 1, 0, none⟩ = some (.int .i64 (0)) := R.cell 0
  have Rf0 : w1.frozen? ⟨w.heap.size + 1 + 1 + 1 + 1, 0, none⟩ = false := R.free 0
  have Rc1 : w1.cell? ⟨w.heap.size + 1 + 1 + 1 + 1, 1, none⟩ = some (.int .i64 (0)) := R.cell 1
  have Rf1 : w1.frozen? ⟨w.heap.size + 1 + 1 + 1 + 1, 1, none⟩ = false := R.free 1
  have Rc2 : w1.cell? ⟨w.heap.size + 1 + 1 + 1 + 1, 2, none⟩ = some (.int .i64 (0)) := R.cell 2
  have Rf2 : w1.frozen? ⟨w.heap.size + 1 + 1 + 1 + 1, 2, none⟩ = false := R.free 2
  have Rc3 : w1.cell? ⟨w.heap.size + 1 + 1 + 1 + 1, 3, none⟩ = some (.int .i64 (0)) := R.cell 3
  have Rf3 : w1.frozen? ⟨w.heap.size + 1 + 1 + 1 + 1, 3, none⟩ = false := R.free 3
  have Rc4 : w1.cell? ⟨w.heap.size + 1 + 1 + 1 + 1, 4, none⟩ = some (.int .i64 (0)) := R.cell 4
  have Rf4 : w1.frozen? ⟨w.heap.size + 1 + 1 + 1 + 1, 4, none⟩ = false := R.free 4
  have Rc5 : w1.cell? ⟨w.heap.size + 1 + 1 + 1 + 1, 5, none⟩ = some (.int .i64 (0)) := R.cell 5
  have Rf5 : w1.frozen? ⟨w.heap.size + 1 + 1 + 1 + 1, 5, none⟩ = false := R.free 5
  have Rz : w.heap.size + 1 + 1 + 1 + 1 < w1.heap.size := R.lt
  have Nc0 : w1.cell? ⟨w.heap.size + 1 + 1 + 1 + 1 + 1, 0, none⟩ = some (.int .i64 (s.level)) := N.cell 0
  have Nf0 : w1.frozen? ⟨w.heap.size + 1 + 1 + 1 + 1 + 1, 0, none⟩ = false := N.free 0
  have Nc1 : w1.cell? ⟨w.heap.size + 1 + 1 + 1 + 1 + 1, 1, none⟩ = some (.int .i64 (s.position)) := N.cell 1
  have Nf1 : w1.frozen? ⟨w.heap.size + 1 + 1 + 1 + 1 + 1, 1, none⟩ = false := N.free 1
  have Nc2 : w1.cell? ⟨w.heap.size + 1 + 1 + 1 + 1 + 1, 2, none⟩ = some (.int .i64 (s.p1)) := N.cell 2
  have Nf2 : w1.frozen? ⟨w.heap.size + 1 + 1 + 1 + 1 + 1, 2, none⟩ = false := N.free 2
  have Nc3 : w1.cell? ⟨w.heap.size + 1 + 1 + 1 + 1 + 1, 3, none⟩ = some (.int .i64 (x.feed)) := N.cell 3
  have Nf3 : w1.frozen? ⟨w.heap.size + 1 + 1 + 1 + 1 + 1, 3, none⟩ = false := N.free 3
  have Nc4 : w1.cell? ⟨w.heap.size + 1 + 1 + 1 + 1 + 1, 4, none⟩ = some (.int .i64 (x.msg)) := N.cell 4
  have Nf4 : w1.frozen? ⟨w.heap.size + 1 + 1 + 1 + 1 + 1, 4, none⟩ = false := N.free 4
  have Nc5 : w1.cell? ⟨w.heap.size + 1 + 1 + 1 + 1 + 1, 5, none⟩ = some (.int .i64 (0)) := N.cell 5
  have Nf5 : w1.frozen? ⟨w.heap.size + 1 + 1 + 1 + 1 + 1, 5, none⟩ = false := N.free 5
  have Nz : w.heap.size + 1 + 1 + 1 + 1 + 1 < w1.heap.size := N.lt
  go_wp2_with fail
  have hY := ((((((((R.other (a := ⟨w.heap.size + 1 + 1 + 1 + 1 + 1, 1, none⟩) (by simp <;> omega) (.int .i64 (max (s.position - p.step) (min (s.position + p.step) (min g p.positions))))).other (a := ⟨w.heap.size + 1 + 1 + 1 + 1 + 1, 0, none⟩) (by simp <;> omega) (.int .i64 (min p.top (s.level + s.p0 - min (s.level + s.p0) (p.rate * (max (s.position - p.step) (min (s.position + p.step) (min g p.positions)))))))).set 0 (.int .i64 (min p.top (s.level + s.p0 - min (s.level + s.p0) (p.rate * (max (s.position - p.step) (min (s.position + p.step) (min g p.positions)))))))).set 1 (.int .i64 (max (s.position - p.step) (min (s.position + p.step) (min g p.positions))))).set 2 (.int .i64 (s.p1))).set 3 (.int .i64 (x.feed))).set 4 (.int .i64 (x.msg))).set 5 (.int .i64 (0)))
  have hB := ((((((((hB.setCell (p := ⟨w.heap.size + 1 + 1 + 1 + 1 + 1, 1, none⟩) (by simp <;> omega) (.int .i64 (max (s.position - p.step) (min (s.position + p.step) (min g p.positions))))).setCell (p := ⟨w.heap.size + 1 + 1 + 1 + 1 + 1, 0, none⟩) (by simp <;> omega) (.int .i64 (min p.top (s.level + s.p0 - min (s.level + s.p0) (p.rate * (max (s.position - p.step) (min (s.position + p.step) (min g p.positions)))))))).setCell (p := ⟨w.heap.size + 1 + 1 + 1 + 1, 0, none⟩) (by simp <;> omega) (.int .i64 (min p.top (s.level + s.p0 - min (s.level + s.p0) (p.rate * (max (s.position - p.step) (min (s.position + p.step) (min g p.positions)))))))).setCell (p := ⟨w.heap.size + 1 + 1 + 1 + 1, 1, none⟩) (by simp <;> omega) (.int .i64 (max (s.position - p.step) (min (s.position + p.step) (min g p.positions))))).setCell (p := ⟨w.heap.size + 1 + 1 + 1 + 1, 2, none⟩) (by simp <;> omega) (.int .i64 (s.p1))).setCell (p := ⟨w.heap.size + 1 + 1 + 1 + 1, 3, none⟩) (by simp <;> omega) (.int .i64 (x.feed))).setCell (p := ⟨w.heap.size + 1 + 1 + 1 + 1, 4, none⟩) (by simp <;> omega) (.int .i64 (x.msg))).setCell (p := ⟨w.heap.size + 1 + 1 + 1 + 1, 5, none⟩) (by simp <;> omega) (.int .i64 (0)))
  generalize ((((((((w1.setCell ⟨w.heap.size + 1 + 1 + 1 + 1 + 1, 1, none⟩ (.int .i64 (max (s.position - p.step) (min (s.position + p.step) (min g p.positions))))).setCell ⟨w.heap.size + 1 + 1 + 1 + 1 + 1, 0, none⟩ (.int .i64 (min p.top (s.level + s.p0 - min (s.level + s.p0) (p.rate * (max (s.position - p.step) (min (s.position + p.step) (min g p.positions)))))))).setCell ⟨w.heap.size + 1 + 1 + 1 + 1, 0, none⟩ (.int .i64 (min p.top (s.level + s.p0 - min (s.level + s.p0) (p.rate * (max (s.position - p.step) (min (s.position + p.step) (min g p.positions)))))))).setCell ⟨w.heap.size + 1 + 1 + 1 + 1, 1, none⟩ (.int .i64 (max (s.position - p.step) (min (s.position + p.step) (min g p.positions))))).setCell ⟨w.heap.size + 1 + 1 + 1 + 1, 2, none⟩ (.int .i64 (s.p1))).setCell ⟨w.heap.size + 1 + 1 + 1 + 1, 3, none⟩ (.int .i64 (x.feed))).setCell ⟨w.heap.size + 1 + 1 + 1 + 1, 4, none⟩ (.int .i64 (x.msg))).setCell ⟨w.heap.size + 1 + 1 + 1 + 1, 5, none⟩ (.int .i64 (0))) = W at hY hB ⊢
  have y0 : W.cell? ⟨w.heap.size + 1 + 1 + 1 + 1, 0, none⟩ = some (.int .i64 (min p.top (s.level + s.p0 - min (s.level + s.p0) (p.rate * (max (s.position - p.step) (min (s.position + p.step) (min g p.positions))))))) := hY.cell 0
  have y1 : W.cell? ⟨w.heap.size + 1 + 1 + 1 + 1, 1, none⟩ = some (.int .i64 (max (s.position - p.step) (min (s.position + p.step) (min g p.positions)))) := hY.cell 1
  have y2 : W.cell? ⟨w.heap.size + 1 + 1 + 1 + 1, 2, none⟩ = some (.int .i64 (s.p1)) := hY.cell 2
  have y3 : W.cell? ⟨w.heap.size + 1 + 1 + 1 + 1, 3, none⟩ = some (.int .i64 (x.feed)) := hY.cell 3
  have y4 : W.cell? ⟨w.heap.size + 1 + 1 + 1 + 1, 4, none⟩ = some (.int .i64 (x.msg)) := hY.cell 4
  have y5 : W.cell? ⟨w.heap.size + 1 + 1 + 1 + 1, 5, none⟩ = some (.int .i64 (0)) := hY.cell 5
  clear Pc0 Sc0 hY
  refine bodyPost_ret (v := .tuple #[.agg #[.int .i64 (min p.top (s.level + s.p0 - min (s.level + s.p0) (p.rate * (max (s.position - p.step) (min (s.position + p.step) (min g p.positions)))))), .int .i64 (max (s.position - p.step) (min (s.position + p.step) (min g p.positions))), .int .i64 s.p1, .int .i64 x.feed, .int .i64 x.msg, .int .i64 0], .int .i64 (min (s.level + s.p0) (p.rate * (max (s.position - p.step) (min (s.position + p.step) (min g p.positions)))))]) (by simp [results, Try.results90, go_sem, y0, y1, y2, y3, y4, y5]) rfl ?_
  exact ⟨rfl, hB⟩

end Go.Proofs.Ytcjcjkomcolgeaa

/-
  Contract of Step of acequiaref32, joined. (Printed by gen_o.py.)
-/
namespace Go.Proofs.Ytcjcjkomcolgeaa
open Go.RowKit

theorem firstT_bd {code : List Ln} {r : Vr} (h : gateB code = true) : 0 ≤ (firstT code r).1 ∧ (firstT code r).1 ≤ 1099511627776 := by
  unfold firstT
  split
  · rename_i l hl
    have hm := List.mem_of_find?_eq_some hl
    simp only [gateB, Bool.and_eq_true, List.all_eq_true] at h
    have h1 := h.2 _ hm
    simp only [Ln.okB, Bool.and_eq_true] at h1
    exact of_decide_eq_true h1.2.1
  · exact ⟨Int.le_refl _, by decide⟩
theorem small_of {p : Pl} {s : St} {x : Sh} (hv : p.Valid) (hs : p.hasB s = true) (hc : chosenB p x = true) : Small p s x := by
  obtain ⟨h1, h2, h3, h4, h5, h6⟩ := Pl.hasB_bd hs
  simp only [chosenB, Bool.and_eq_true] at hc
  have c1 := inI_yes hc.1
  obtain ⟨k1, k2, k3, k4, k5, k6, k7, k8, k9, k10, k11, k12⟩ := hv
  refine ⟨k1, k5, k6, k7, k12, by omega, h2, ⟨h3.1, ?_⟩, ⟨h4.1, ?_⟩, by omega, by omega⟩
  · have := h3.2; split at this <;> omega
  · have := h4.2; split at this <;> omega

theorem pipe_zero {p : Pl} {s : St} (hs : p.hasB s = true) (hp : p.pipe = 0) : s.p0 = 0 ∧ s.p1 = 0 := by
  obtain ⟨_, _, h3, h4, _⟩ := Pl.hasB_bd hs
  rw [hp] at h3 h4
  simp at h3 h4
  omega

theorem rstep_any (p : Pl) (code : List Ln) (V : Value) (s : St) (x : Sh) (w : World) (hC : CodeAt w w.heap.size V code) (hv : p.Valid) (hs : p.hasB s = true) (hc : chosenB p x = true) (hg : gateB code = true) :
    Calls Try.prog 90 #[p.v, .agg #[V], s.v, x.v] w fun e w' => e = .returned (.tuple #[(stepT p code s x).v, .int .i64 (outT p code s x)]) ∧ Below w.heap.size w w' := by
  have S := small_of hv hs hc
  have hgd := firstT_bd (r := varsT p s x) hg
  obtain ⟨g, ok, hF⟩ : ∃ g ok, firstT code (varsT p s x) = (g, ok) := ⟨_, _, rfl⟩
  have hR : runT code (varsT p s x) = (g, ok, 0) := by rw [runT, if_pos hg, hF]
  rw [hF] at hgd
  dsimp only at hgd
  have hpi := hv.pipe
  by_cases hm : 0 ≤ x.msg
  · rcases (show p.pipe = 0 ∨ p.pipe = 1 ∨ p.pipe = 2 by omega) with hp | hp | hp
    · have e : varsT p s x = ⟨s.level, s.position, x.msg, 0, x.feed⟩ := by simp [varsT, heardT, fedT, hp, hm]
      rw [e] at hR
      obtain ⟨q0, q1⟩ := pipe_zero hs hp
      rcases ok with _ | _
      · exact (rstep_100 p code V s x w hC S g hp hm hR hgd).mono fun _ _ ⟨he, hb⟩ => ⟨by rw [he]; simp [stepT, outT, movedT, hF, fedT, heardT, hp, hm, q0, q1], hb⟩
      · exact (rstep_101 p code V s x w hC S g hp hm hR hgd).mono fun _ _ ⟨he, hb⟩ => ⟨by rw [he]; simp [stepT, outT, movedT, hF, fedT, heardT, hp, hm, q0, q1], hb⟩
    · have e : varsT p s x = ⟨s.level, s.position, x.msg, 0, s.p0⟩ := by simp [varsT, heardT, fedT, hp, hm]
      rw [e] at hR
      rcases ok with _ | _
      · exact (rstep_110 p code V s x w hC S g hp hm hR hgd).mono fun _ _ ⟨he, hb⟩ => ⟨by rw [he]; simp [stepT, outT, movedT, hF, fedT, heardT, hp, hm], hb⟩
      · exact (rstep_111 p code V s x w hC S g hp hm hR hgd).mono fun _ _ ⟨he, hb⟩ => ⟨by rw [he]; simp [stepT, outT, movedT, hF, fedT, heardT, hp, hm], hb⟩
    · have e : varsT p s x = ⟨s.level, s.position, x.msg, 0, s.p0⟩ := by simp [varsT, heardT, fedT, hp, hm]
      rw [e] at hR
      rcases ok with _ | _
      · exact (rstep_120 p code V s x w hC S g hp hm hR hgd).mono fun _ _ ⟨he, hb⟩ => ⟨by rw [he]; simp [stepT, outT, movedT, hF, fedT, heardT, hp, hm], hb⟩
      · exact (rstep_121 p code V s x w hC S g hp hm hR hgd).mono fun _ _ ⟨he, hb⟩ => ⟨by rw [he]; simp [stepT, outT, movedT, hF, fedT, heardT, hp, hm], hb⟩
  · rcases (show p.pipe = 0 ∨ p.pipe = 1 ∨ p.pipe = 2 by omega) with hp | hp | hp
    · have e : varsT p s x = ⟨s.level, s.position, s.order, min (s.age + 1) p.age, x.feed⟩ := by simp [varsT, heardT, fedT, hp, hm]
      rw [e] at hR
      obtain ⟨q0, q1⟩ := pipe_zero hs hp
      rcases ok with _ | _
      · exact (rstep_000 p code V s x w hC S g hp (by omega) hR hgd).mono fun _ _ ⟨he, hb⟩ => ⟨by rw [he]; simp [stepT, outT, movedT, hF, fedT, heardT, hp, hm, q0, q1], hb⟩
      · exact (rstep_001 p code V s x w hC S g hp (by omega) hR hgd).mono fun _ _ ⟨he, hb⟩ => ⟨by rw [he]; simp [stepT, outT, movedT, hF, fedT, heardT, hp, hm, q0, q1], hb⟩
    · have e : varsT p s x = ⟨s.level, s.position, s.order, min (s.age + 1) p.age, s.p0⟩ := by simp [varsT, heardT, fedT, hp, hm]
      rw [e] at hR
      rcases ok with _ | _
      · exact (rstep_010 p code V s x w hC S g hp (by omega) hR hgd).mono fun _ _ ⟨he, hb⟩ => ⟨by rw [he]; simp [stepT, outT, movedT, hF, fedT, heardT, hp, hm], hb⟩
      · exact (rstep_011 p code V s x w hC S g hp (by omega) hR hgd).mono fun _ _ ⟨he, hb⟩ => ⟨by rw [he]; simp [stepT, outT, movedT, hF, fedT, heardT, hp, hm], hb⟩
    · have e : varsT p s x = ⟨s.level, s.position, s.order, min (s.age + 1) p.age, s.p0⟩ := by simp [varsT, heardT, fedT, hp, hm]
      rw [e] at hR
      rcases ok with _ | _
      · exact (rstep_020 p code V s x w hC S g hp (by omega) hR hgd).mono fun _ _ ⟨he, hb⟩ => ⟨by rw [he]; simp [stepT, outT, movedT, hF, fedT, heardT, hp, hm], hb⟩
      · exact (rstep_021 p code V s x w hC S g hp (by omega) hR hgd).mono fun _ _ ⟨he, hb⟩ => ⟨by rw [he]; simp [stepT, outT, movedT, hF, fedT, heardT, hp, hm], hb⟩

end Go.Proofs.Ytcjcjkomcolgeaa
