/- Contract of Step of acequiaref32. (Printed by gen_o.py.) -/
import Derived.Test.YtancngachnpefaaQK
import Derived.Test.YtancngachnpefaaQF
import Derived.Test.YtancngachnpefaaQI
import Derived.Lib.MinMax
set_option linter.unusedVariables false
set_option linter.unusedSimpArgs false
set_option maxRecDepth 100000
set_option maxHeartbeats 2000000
namespace Go.Proofs.Ytancngachnpefaa
open Go.RowKit
theorem rrun_at {code : List Ln} {V : Value} {r : Vr} {w : World} {g : Int} {ok : Bool} (hR : Hid (runT code r = (g, ok, 0))) (hC : CodeAt w w.heap.size V code) :
    Calls Try.prog 81 #[.agg #[V], .agg #[.int .i64 r.v0, .int .i64 r.v1, .int .i64 r.v2, .int .i64 r.v3, .int .i64 r.v4]] w fun e w' => e = .returned (.tuple #[.int .i64 g, .bool ok, .int .i64 0]) ∧ Below w.heap.size w w' :=
  (rrun_any code V r w hC).mono fun _ _ ⟨he, hb⟩ => ⟨by rw [he, hR.out], hb⟩
structure Small (p : Pl) (s : St) (x : Sh) : Prop where
  top : 1 ≤ p.top ∧ p.top ≤ 63
  positions : 1 ≤ p.positions ∧ p.positions ≤ 15
  rate : 1 ≤ p.rate ∧ p.rate ≤ 15
  step : 1 ≤ p.step ∧ p.step ≤ 15
  age : 0 ≤ p.age ∧ p.age ≤ 7
  level : 0 ≤ s.level ∧ s.level ≤ 63
  position : 0 ≤ s.position ∧ s.position ≤ p.positions
  p0 : 0 ≤ s.p0 ∧ s.p0 ≤ 15
  p1 : 0 ≤ s.p1 ∧ s.p1 ≤ 15
  sage : 0 ≤ s.age ∧ s.age ≤ 7
  feed : 0 ≤ x.feed ∧ x.feed ≤ 15
theorem rstep_000 (p : Pl) (code : List Ln) (V : Value) (s : St) (x : Sh) (w : World) (hC : Hid (CodeAt w w.heap.size V code)) (S : Small p s x) (g : Int)
    (hp : p.pipe = 0) (hm : x.msg < 0) (hR : Hid (runT code ⟨s.level, s.position, s.order, min (s.age + 1) p.age, x.feed⟩ = (g, false, 0))) (hg : 0 ≤ g ∧ g ≤ 1099511627776) :
    Calls Try.prog 79 #[p.v, .agg #[V], s.v, x.v] w fun e w' => e = .returned (.tuple #[.agg #[.int .i64 (min p.top (s.level + x.feed - min (s.level + x.feed) (p.rate * s.position))), .int .i64 s.position, .int .i64 s.p0, .int .i64 s.p1, .int .i64 s.order, .int .i64 (min (s.age + 1) p.age)], .int .i64 (min (s.level + x.feed) (p.rate * s.position))]) ∧ Below w.heap.size w w' := by
  obtain ⟨⟨_, _⟩, ⟨_, _⟩, ⟨_, _⟩, ⟨_, _⟩, ⟨_, _⟩, ⟨_, _⟩, ⟨_, _⟩, ⟨_, _⟩, ⟨_, _⟩, ⟨_, _⟩, ⟨_, _⟩⟩ := S
  obtain ⟨_, _⟩ := hg
  have hM2 := mul_le4 (a := p.rate) (b := s.position) (A := 15) (B := 15) (by omega) (by omega)
  obtain ⟨_, _⟩ := hM2
  go_enter Try.func79, Try.ntmps79
  go_wp2_with fail
  have hB : Below w.heap.size w ((((((w.alloc (.cells #[.int .i64 p.top, .int .i64 p.bank, .int .i64 p.siphon, .int .i64 p.start, .int .i64 p.positions, .int .i64 p.rate, .int .i64 p.step, .int .i64 p.pass, .int .i64 p.feed, .int .i64 0, .int .i64 p.orders, .int .i64 p.age] 23)).alloc (.cells #[V] 26)).alloc (.cells #[.int .i64 s.level, .int .i64 s.position, .int .i64 s.p0, .int .i64 s.p1, .int .i64 s.order, .int .i64 s.age] 30)).alloc (.cells #[.int .i64 x.feed, .int .i64 x.msg] 37)).alloc (.cells #[.int .i64 0, .int .i64 0, .int .i64 0, .int .i64 0, .int .i64 0, .int .i64 0] 30)).alloc (.cells #[.int .i64 s.level, .int .i64 s.position, .int .i64 s.p0, .int .i64 s.p1, .int .i64 s.order, .int .i64 (min (s.age + 1) p.age)] 30)) := ((((((Below.refl _ _).alloc (by simp <;> omega) _).alloc (by simp <;> omega) _).alloc (by simp <;> omega) _).alloc (by simp <;> omega) _).alloc (by simp <;> omega) _).alloc (by simp <;> omega) _
  refine (rrun_at (r := ⟨s.level, s.position, s.order, min (s.age + 1) p.age, x.feed⟩) hR (hC.out.later hB)).mono ?_
  rintro e w1 ⟨rfl, hb⟩
  have P := (((((((Box.newAt (n := w.heap.size) [.int .i64 p.top, .int .i64 p.bank, .int .i64 p.siphon, .int .i64 p.start, .int .i64 p.positions, .int .i64 p.rate, .int .i64 p.step, .int .i64 p.pass, .int .i64 p.feed, .int .i64 0, .int .i64 p.orders, .int .i64 p.age] 23 (by simp)).alloc _).alloc _).alloc _).alloc _).alloc _)).later hb
  have S := (((((Box.newAt (n := w.heap.size + 1 + 1) [.int .i64 s.level, .int .i64 s.position, .int .i64 s.p0, .int .i64 s.p1, .int .i64 s.order, .int .i64 s.age] 30 (by simp)).alloc _).alloc _).alloc _)).later hb
  have R := (((Box.newAt (n := w.heap.size + 1 + 1 + 1 + 1) [.int .i64 0, .int .i64 0, .int .i64 0, .int .i64 0, .int .i64 0, .int .i64 0] 30 (by simp)).alloc _)).later hb
  have N := ((Box.newAt (n := w.heap.size + 1 + 1 + 1 + 1 + 1) [.int .i64 s.level, .int .i64 s.position, .int .i64 s.p0, .int .i64 s.p1, .int .i64 s.order, .int .i64 (min (s.age + 1) p.age)] 30 (by simp))).later hb
  have hB := hB.trans (hb.mono hB.size)
  clear hb
  obtain ⟨Pc0, Pc1, Pc2, Pc3, Pc4, Pc5, Pc6, Pc7, Pc8, Pc9, Pc10, Pc11⟩ := P.c12
  obtain ⟨Sc0, Sc1, Sc2, Sc3, Sc4, Sc5⟩ := S.c6
  obtain ⟨Rc0, Rf0, Rc1, Rf1, Rc2, Rf2, Rc3, Rf3, Rc4, Rf4, Rc5, Rf5⟩ := R.f6
  have Rz : w.heap.size + 1 + 1 + 1 + 1 < w1.heap.size := R.lt
  obtain ⟨Nc0, Nf0, Nc1, Nf1, Nc2, Nf2, Nc3, Nf3, Nc4, Nf4, Nc5, Nf5⟩ := N.f6
  have Nz : w.heap.size + 1 + 1 + 1 + 1 + 1 < w1.heap.size := N.lt
  go_wp2_with fail
  have hY := (((((((R.other (a := ⟨w.heap.size + 1 + 1 + 1 + 1 + 1, 0, none⟩) (by simp <;> omega) (.int .i64 (min p.top (s.level + x.feed - min (s.level + x.feed) (p.rate * s.position))))).set 0 (.int .i64 (min p.top (s.level + x.feed - min (s.level + x.feed) (p.rate * s.position))))).set 1 (.int .i64 (s.position))).set 2 (.int .i64 (s.p0))).set 3 (.int .i64 (s.p1))).set 4 (.int .i64 (s.order))).set 5 (.int .i64 (min (s.age + 1) p.age)))
  have hB := (((((((hB.setCell (p := ⟨w.heap.size + 1 + 1 + 1 + 1 + 1, 0, none⟩) (by simp <;> omega) (.int .i64 (min p.top (s.level + x.feed - min (s.level + x.feed) (p.rate * s.position))))).setCell (p := ⟨w.heap.size + 1 + 1 + 1 + 1, 0, none⟩) (by simp <;> omega) (.int .i64 (min p.top (s.level + x.feed - min (s.level + x.feed) (p.rate * s.position))))).setCell (p := ⟨w.heap.size + 1 + 1 + 1 + 1, 1, none⟩) (by simp <;> omega) (.int .i64 (s.position))).setCell (p := ⟨w.heap.size + 1 + 1 + 1 + 1, 2, none⟩) (by simp <;> omega) (.int .i64 (s.p0))).setCell (p := ⟨w.heap.size + 1 + 1 + 1 + 1, 3, none⟩) (by simp <;> omega) (.int .i64 (s.p1))).setCell (p := ⟨w.heap.size + 1 + 1 + 1 + 1, 4, none⟩) (by simp <;> omega) (.int .i64 (s.order))).setCell (p := ⟨w.heap.size + 1 + 1 + 1 + 1, 5, none⟩) (by simp <;> omega) (.int .i64 (min (s.age + 1) p.age)))
  generalize (((((((w1.setCell ⟨w.heap.size + 1 + 1 + 1 + 1 + 1, 0, none⟩ (.int .i64 (min p.top (s.level + x.feed - min (s.level + x.feed) (p.rate * s.position))))).setCell ⟨w.heap.size + 1 + 1 + 1 + 1, 0, none⟩ (.int .i64 (min p.top (s.level + x.feed - min (s.level + x.feed) (p.rate * s.position))))).setCell ⟨w.heap.size + 1 + 1 + 1 + 1, 1, none⟩ (.int .i64 (s.position))).setCell ⟨w.heap.size + 1 + 1 + 1 + 1, 2, none⟩ (.int .i64 (s.p0))).setCell ⟨w.heap.size + 1 + 1 + 1 + 1, 3, none⟩ (.int .i64 (s.p1))).setCell ⟨w.heap.size + 1 + 1 + 1 + 1, 4, none⟩ (.int .i64 (s.order))).setCell ⟨w.heap.size + 1 + 1 + 1 + 1, 5, none⟩ (.int .i64 (min (s.age + 1) p.age))) = W at hY hB ⊢
  obtain ⟨y0, y1, y2, y3, y4, y5⟩ := hY.c6
  clear Pc0 Sc0 hY
  refine bodyPost_ret (v := .tuple #[.agg #[.int .i64 (min p.top (s.level + x.feed - min (s.level + x.feed) (p.rate * s.position))), .int .i64 s.position, .int .i64 s.p0, .int .i64 s.p1, .int .i64 s.order, .int .i64 (min (s.age + 1) p.age)], .int .i64 (min (s.level + x.feed) (p.rate * s.position))]) (by simp [results, Try.results79, go_sem, y0, y1, y2, y3, y4, y5]) rfl ?_
  exact ⟨rfl, hB⟩
theorem rstep_001 (p : Pl) (code : List Ln) (V : Value) (s : St) (x : Sh) (w : World) (hC : Hid (CodeAt w w.heap.size V code)) (S : Small p s x) (g : Int)
    (hp : p.pipe = 0) (hm : x.msg < 0) (hR : Hid (runT code ⟨s.level, s.position, s.order, min (s.age + 1) p.age, x.feed⟩ = (g, true, 0))) (hg : 0 ≤ g ∧ g ≤ 1099511627776) :
    Calls Try.prog 79 #[p.v, .agg #[V], s.v, x.v] w fun e w' => e = .returned (.tuple #[.agg #[.int .i64 (min p.top (s.level + x.feed - min (s.level + x.feed) (p.rate * (max (s.position - p.step) (min (s.position + p.step) (min g p.positions)))))), .int .i64 (max (s.position - p.step) (min (s.position + p.step) (min g p.positions))), .int .i64 s.p0, .int .i64 s.p1, .int .i64 s.order, .int .i64 (min (s.age + 1) p.age)], .int .i64 (min (s.level + x.feed) (p.rate * (max (s.position - p.step) (min (s.position + p.step) (min g p.positions)))))]) ∧ Below w.heap.size w w' := by
  obtain ⟨⟨_, _⟩, ⟨_, _⟩, ⟨_, _⟩, ⟨_, _⟩, ⟨_, _⟩, ⟨_, _⟩, ⟨_, _⟩, ⟨_, _⟩, ⟨_, _⟩, ⟨_, _⟩, ⟨_, _⟩⟩ := S
  obtain ⟨_, _⟩ := hg
  have hM2 := mul_le4 (a := p.rate) (b := max (s.position - p.step) (min (s.position + p.step) (min g p.positions))) (A := 15) (B := 15) (by omega) (by omega)
  obtain ⟨_, _⟩ := hM2
  go_enter Try.func79, Try.ntmps79
  go_wp2_with fail
  have hB : Below w.heap.size w ((((((w.alloc (.cells #[.int .i64 p.top, .int .i64 p.bank, .int .i64 p.siphon, .int .i64 p.start, .int .i64 p.positions, .int .i64 p.rate, .int .i64 p.step, .int .i64 p.pass, .int .i64 p.feed, .int .i64 0, .int .i64 p.orders, .int .i64 p.age] 23)).alloc (.cells #[V] 26)).alloc (.cells #[.int .i64 s.level, .int .i64 s.position, .int .i64 s.p0, .int .i64 s.p1, .int .i64 s.order, .int .i64 s.age] 30)).alloc (.cells #[.int .i64 x.feed, .int .i64 x.msg] 37)).alloc (.cells #[.int .i64 0, .int .i64 0, .int .i64 0, .int .i64 0, .int .i64 0, .int .i64 0] 30)).alloc (.cells #[.int .i64 s.level, .int .i64 s.position, .int .i64 s.p0, .int .i64 s.p1, .int .i64 s.order, .int .i64 (min (s.age + 1) p.age)] 30)) := ((((((Below.refl _ _).alloc (by simp <;> omega) _).alloc (by simp <;> omega) _).alloc (by simp <;> omega) _).alloc (by simp <;> omega) _).alloc (by simp <;> omega) _).alloc (by simp <;> omega) _
  refine (rrun_at (r := ⟨s.level, s.position, s.order, min (s.age + 1) p.age, x.feed⟩) hR (hC.out.later hB)).mono ?_
  rintro e w1 ⟨rfl, hb⟩
  have P := (((((((Box.newAt (n := w.heap.size) [.int .i64 p.top, .int .i64 p.bank, .int .i64 p.siphon, .int .i64 p.start, .int .i64 p.positions, .int .i64 p.rate, .int .i64 p.step, .int .i64 p.pass, .int .i64 p.feed, .int .i64 0, .int .i64 p.orders, .int .i64 p.age] 23 (by simp)).alloc _).alloc _).alloc _).alloc _).alloc _)).later hb
  have S := (((((Box.newAt (n := w.heap.size + 1 + 1) [.int .i64 s.level, .int .i64 s.position, .int .i64 s.p0, .int .i64 s.p1, .int .i64 s.order, .int .i64 s.age] 30 (by simp)).alloc _).alloc _).alloc _)).later hb
  have R := (((Box.newAt (n := w.heap.size + 1 + 1 + 1 + 1) [.int .i64 0, .int .i64 0, .int .i64 0, .int .i64 0, .int .i64 0, .int .i64 0] 30 (by simp)).alloc _)).later hb
  have N := ((Box.newAt (n := w.heap.size + 1 + 1 + 1 + 1 + 1) [.int .i64 s.level, .int .i64 s.position, .int .i64 s.p0, .int .i64 s.p1, .int .i64 s.order, .int .i64 (min (s.age + 1) p.age)] 30 (by simp))).later hb
  have hB := hB.trans (hb.mono hB.size)
  clear hb
  obtain ⟨Pc0, Pc1, Pc2, Pc3, Pc4, Pc5, Pc6, Pc7, Pc8, Pc9, Pc10, Pc11⟩ := P.c12
  obtain ⟨Sc0, Sc1, Sc2, Sc3, Sc4, Sc5⟩ := S.c6
  obtain ⟨Rc0, Rf0, Rc1, Rf1, Rc2, Rf2, Rc3, Rf3, Rc4, Rf4, Rc5, Rf5⟩ := R.f6
  have Rz : w.heap.size + 1 + 1 + 1 + 1 < w1.heap.size := R.lt
  obtain ⟨Nc0, Nf0, Nc1, Nf1, Nc2, Nf2, Nc3, Nf3, Nc4, Nf4, Nc5, Nf5⟩ := N.f6
  have Nz : w.heap.size + 1 + 1 + 1 + 1 + 1 < w1.heap.size := N.lt
  go_wp2_with fail
  have hY := ((((((((R.other (a := ⟨w.heap.size + 1 + 1 + 1 + 1 + 1, 1, none⟩) (by simp <;> omega) (.int .i64 (max (s.position - p.step) (min (s.position + p.step) (min g p.positions))))).other (a := ⟨w.heap.size + 1 + 1 + 1 + 1 + 1, 0, none⟩) (by simp <;> omega) (.int .i64 (min p.top (s.level + x.feed - min (s.level + x.feed) (p.rate * (max (s.position - p.step) (min (s.position + p.step) (min g p.positions)))))))).set 0 (.int .i64 (min p.top (s.level + x.feed - min (s.level + x.feed) (p.rate * (max (s.position - p.step) (min (s.position + p.step) (min g p.positions)))))))).set 1 (.int .i64 (max (s.position - p.step) (min (s.position + p.step) (min g p.positions))))).set 2 (.int .i64 (s.p0))).set 3 (.int .i64 (s.p1))).set 4 (.int .i64 (s.order))).set 5 (.int .i64 (min (s.age + 1) p.age)))
  have hB := ((((((((hB.setCell (p := ⟨w.heap.size + 1 + 1 + 1 + 1 + 1, 1, none⟩) (by simp <;> omega) (.int .i64 (max (s.position - p.step) (min (s.position + p.step) (min g p.positions))))).setCell (p := ⟨w.heap.size + 1 + 1 + 1 + 1 + 1, 0, none⟩) (by simp <;> omega) (.int .i64 (min p.top (s.level + x.feed - min (s.level + x.feed) (p.rate * (max (s.position - p.step) (min (s.position + p.step) (min g p.positions)))))))).setCell (p := ⟨w.heap.size + 1 + 1 + 1 + 1, 0, none⟩) (by simp <;> omega) (.int .i64 (min p.top (s.level + x.feed - min (s.level + x.feed) (p.rate * (max (s.position - p.step) (min (s.position + p.step) (min g p.positions)))))))).setCell (p := ⟨w.heap.size + 1 + 1 + 1 + 1, 1, none⟩) (by simp <;> omega) (.int .i64 (max (s.position - p.step) (min (s.position + p.step) (min g p.positions))))).setCell (p := ⟨w.heap.size + 1 + 1 + 1 + 1, 2, none⟩) (by simp <;> omega) (.int .i64 (s.p0))).setCell (p := ⟨w.heap.size + 1 + 1 + 1 + 1, 3, none⟩) (by simp <;> omega) (.int .i64 (s.p1))).setCell (p := ⟨w.heap.size + 1 + 1 + 1 + 1, 4, none⟩) (by simp <;> omega) (.int .i64 (s.order))).setCell (p := ⟨w.heap.size + 1 + 1 + 1 + 1, 5, none⟩) (by simp <;> omega) (.int .i64 (min (s.age + 1) p.age)))
  generalize ((((((((w1.setCell ⟨w.heap.size + 1 + 1 + 1 + 1 + 1, 1, none⟩ (.int .i64 (max (s.position - p.step) (min (s.position + p.step) (min g p.positions))))).setCell ⟨w.heap.size + 1 + 1 + 1 + 1 + 1, 0, none⟩ (.int .i64 (min p.top (s.level + x.feed - min (s.level + x.feed) (p.rate * (max (s.position - p.step) (min (s.position + p.step) (min g p.positions)))))))).setCell ⟨w.heap.size + 1 + 1 + 1 + 1, 0, none⟩ (.int .i64 (min p.top (s.level + x.feed - min (s.level + x.feed) (p.rate * (max (s.position - p.step) (min (s.position + p.step) (min g p.positions)))))))).setCell ⟨w.heap.size + 1 + 1 + 1 + 1, 1, none⟩ (.int .i64 (max (s.position - p.step) (min (s.position + p.step) (min g p.positions))))).setCell ⟨w.heap.size + 1 + 1 + 1 + 1, 2, none⟩ (.int .i64 (s.p0))).setCell ⟨w.heap.size + 1 + 1 + 1 + 1, 3, none⟩ (.int .i64 (s.p1))).setCell ⟨w.heap.size + 1 + 1 + 1 + 1, 4, none⟩ (.int .i64 (s.order))).setCell ⟨w.heap.size + 1 + 1 + 1 + 1, 5, none⟩ (.int .i64 (min (s.age + 1) p.age))) = W at hY hB ⊢
  obtain ⟨y0, y1, y2, y3, y4, y5⟩ := hY.c6
  clear Pc0 Sc0 hY
  refine bodyPost_ret (v := .tuple #[.agg #[.int .i64 (min p.top (s.level + x.feed - min (s.level + x.feed) (p.rate * (max (s.position - p.step) (min (s.position + p.step) (min g p.positions)))))), .int .i64 (max (s.position - p.step) (min (s.position + p.step) (min g p.positions))), .int .i64 s.p0, .int .i64 s.p1, .int .i64 s.order, .int .i64 (min (s.age + 1) p.age)], .int .i64 (min (s.level + x.feed) (p.rate * (max (s.position - p.step) (min (s.position + p.step) (min g p.positions)))))]) (by simp [results, Try.results79, go_sem, y0, y1, y2, y3, y4, y5]) rfl ?_
  exact ⟨rfl, hB⟩
theorem rstep_010 (p : Pl) (code : List Ln) (V : Value) (s : St) (x : Sh) (w : World) (hC : Hid (CodeAt w w.heap.size V code)) (S : Small p s x) (g : Int)
    (hp : p.pipe = 1) (hm : x.msg < 0) (hR : Hid (runT code ⟨s.level, s.position, s.order, min (s.age + 1) p.age, s.p0⟩ = (g, false, 0))) (hg : 0 ≤ g ∧ g ≤ 1099511627776) :
    Calls Try.prog 79 #[p.v, .agg #[V], s.v, x.v] w fun e w' => e = .returned (.tuple #[.agg #[.int .i64 (min p.top (s.level + s.p0 - min (s.level + s.p0) (p.rate * s.position))), .int .i64 s.position, .int .i64 x.feed, .int .i64 0, .int .i64 s.order, .int .i64 (min (s.age + 1) p.age)], .int .i64 (min (s.level + s.p0) (p.rate * s.position))]) ∧ Below w.heap.size w w' := by
  obtain ⟨⟨_, _⟩, ⟨_, _⟩, ⟨_, _⟩, ⟨_, _⟩, ⟨_, _⟩, ⟨_, _⟩, ⟨_, _⟩, ⟨_, _⟩, ⟨_, _⟩, ⟨_, _⟩, ⟨_, _⟩⟩ := S
  obtain ⟨_, _⟩ := hg
  have hM2 := mul_le4 (a := p.rate) (b := s.position) (A := 15) (B := 15) (by omega) (by omega)
  obtain ⟨_, _⟩ := hM2
  go_enter Try.func79, Try.ntmps79
  go_wp2_with fail
  have hB : Below w.heap.size w ((((((w.alloc (.cells #[.int .i64 p.top, .int .i64 p.bank, .int .i64 p.siphon, .int .i64 p.start, .int .i64 p.positions, .int .i64 p.rate, .int .i64 p.step, .int .i64 p.pass, .int .i64 p.feed, .int .i64 1, .int .i64 p.orders, .int .i64 p.age] 23)).alloc (.cells #[V] 26)).alloc (.cells #[.int .i64 s.level, .int .i64 s.position, .int .i64 s.p0, .int .i64 s.p1, .int .i64 s.order, .int .i64 s.age] 30)).alloc (.cells #[.int .i64 x.feed, .int .i64 x.msg] 37)).alloc (.cells #[.int .i64 0, .int .i64 0, .int .i64 0, .int .i64 0, .int .i64 0, .int .i64 0] 30)).alloc (.cells #[.int .i64 s.level, .int .i64 s.position, .int .i64 x.feed, .int .i64 0, .int .i64 s.order, .int .i64 (min (s.age + 1) p.age)] 30)) := ((((((Below.refl _ _).alloc (by simp <;> omega) _).alloc (by simp <;> omega) _).alloc (by simp <;> omega) _).alloc (by simp <;> omega) _).alloc (by simp <;> omega) _).alloc (by simp <;> omega) _
  refine (rrun_at (r := ⟨s.level, s.position, s.order, min (s.age + 1) p.age, s.p0⟩) hR (hC.out.later hB)).mono ?_
  rintro e w1 ⟨rfl, hb⟩
  have P := (((((((Box.newAt (n := w.heap.size) [.int .i64 p.top, .int .i64 p.bank, .int .i64 p.siphon, .int .i64 p.start, .int .i64 p.positions, .int .i64 p.rate, .int .i64 p.step, .int .i64 p.pass, .int .i64 p.feed, .int .i64 1, .int .i64 p.orders, .int .i64 p.age] 23 (by simp)).alloc _).alloc _).alloc _).alloc _).alloc _)).later hb
  have S := (((((Box.newAt (n := w.heap.size + 1 + 1) [.int .i64 s.level, .int .i64 s.position, .int .i64 s.p0, .int .i64 s.p1, .int .i64 s.order, .int .i64 s.age] 30 (by simp)).alloc _).alloc _).alloc _)).later hb
  have R := (((Box.newAt (n := w.heap.size + 1 + 1 + 1 + 1) [.int .i64 0, .int .i64 0, .int .i64 0, .int .i64 0, .int .i64 0, .int .i64 0] 30 (by simp)).alloc _)).later hb
  have N := ((Box.newAt (n := w.heap.size + 1 + 1 + 1 + 1 + 1) [.int .i64 s.level, .int .i64 s.position, .int .i64 x.feed, .int .i64 0, .int .i64 s.order, .int .i64 (min (s.age + 1) p.age)] 30 (by simp))).later hb
  have hB := hB.trans (hb.mono hB.size)
  clear hb
  obtain ⟨Pc0, Pc1, Pc2, Pc3, Pc4, Pc5, Pc6, Pc7, Pc8, Pc9, Pc10, Pc11⟩ := P.c12
  obtain ⟨Sc0, Sc1, Sc2, Sc3, Sc4, Sc5⟩ := S.c6
  obtain ⟨Rc0, Rf0, Rc1, Rf1, Rc2, Rf2, Rc3, Rf3, Rc4, Rf4, Rc5, Rf5⟩ := R.f6
  have Rz : w.heap.size + 1 + 1 + 1 + 1 < w1.heap.size := R.lt
  obtain ⟨Nc0, Nf0, Nc1, Nf1, Nc2, Nf2, Nc3, Nf3, Nc4, Nf4, Nc5, Nf5⟩ := N.f6
  have Nz : w.heap.size + 1 + 1 + 1 + 1 + 1 < w1.heap.size := N.lt
  go_wp2_with fail
  have hY := (((((((R.other (a := ⟨w.heap.size + 1 + 1 + 1 + 1 + 1, 0, none⟩) (by simp <;> omega) (.int .i64 (min p.top (s.level + s.p0 - min (s.level + s.p0) (p.rate * s.position))))).set 0 (.int .i64 (min p.top (s.level + s.p0 - min (s.level + s.p0) (p.rate * s.position))))).set 1 (.int .i64 (s.position))).set 2 (.int .i64 (x.feed))).set 3 (.int .i64 (0))).set 4 (.int .i64 (s.order))).set 5 (.int .i64 (min (s.age + 1) p.age)))
  have hB := (((((((hB.setCell (p := ⟨w.heap.size + 1 + 1 + 1 + 1 + 1, 0, none⟩) (by simp <;> omega) (.int .i64 (min p.top (s.level + s.p0 - min (s.level + s.p0) (p.rate * s.position))))).setCell (p := ⟨w.heap.size + 1 + 1 + 1 + 1, 0, none⟩) (by simp <;> omega) (.int .i64 (min p.top (s.level + s.p0 - min (s.level + s.p0) (p.rate * s.position))))).setCell (p := ⟨w.heap.size + 1 + 1 + 1 + 1, 1, none⟩) (by simp <;> omega) (.int .i64 (s.position))).setCell (p := ⟨w.heap.size + 1 + 1 + 1 + 1, 2, none⟩) (by simp <;> omega) (.int .i64 (x.feed))).setCell (p := ⟨w.heap.size + 1 + 1 + 1 + 1, 3, none⟩) (by simp <;> omega) (.int .i64 (0))).setCell (p := ⟨w.heap.size + 1 + 1 + 1 + 1, 4, none⟩) (by simp <;> omega) (.int .i64 (s.order))).setCell (p := ⟨w.heap.size + 1 + 1 + 1 + 1, 5, none⟩) (by simp <;> omega) (.int .i64 (min (s.age + 1) p.age)))
  generalize (((((((w1.setCell ⟨w.heap.size + 1 + 1 + 1 + 1 + 1, 0, none⟩ (.int .i64 (min p.top (s.level + s.p0 - min (s.level + s.p0) (p.rate * s.position))))).setCell ⟨w.heap.size + 1 + 1 + 1 + 1, 0, none⟩ (.int .i64 (min p.top (s.level + s.p0 - min (s.level + s.p0) (p.rate * s.position))))).setCell ⟨w.heap.size + 1 + 1 + 1 + 1, 1, none⟩ (.int .i64 (s.position))).setCell ⟨w.heap.size + 1 + 1 + 1 + 1, 2, none⟩ (.int .i64 (x.feed))).setCell ⟨w.heap.size + 1 + 1 + 1 + 1, 3, none⟩ (.int .i64 (0))).setCell ⟨w.heap.size + 1 + 1 + 1 + 1, 4, none⟩ (.int .i64 (s.order))).setCell ⟨w.heap.size + 1 + 1 + 1 + 1, 5, none⟩ (.int .i64 (min (s.age + 1) p.age))) = W at hY hB ⊢
  obtain ⟨y0, y1, y2, y3, y4, y5⟩ := hY.c6
  clear Pc0 Sc0 hY
  refine bodyPost_ret (v := .tuple #[.agg #[.int .i64 (min p.top (s.level + s.p0 - min (s.level + s.p0) (p.rate * s.position))), .int .i64 s.position, .int .i64 x.feed, .int .i64 0, .int .i64 s.order, .int .i64 (min (s.age + 1) p.age)], .int .i64 (min (s.level + s.p0) (p.rate * s.position))]) (by simp [results, Try.results79, go_sem, y0, y1, y2, y3, y4, y5]) rfl ?_
  exact ⟨rfl, hB⟩
theorem rstep_011 (p : Pl) (code : List Ln) (V : Value) (s : St) (x : Sh) (w : World) (hC : Hid (CodeAt w w.heap.size V code)) (S : Small p s x) (g : Int)
    (hp : p.pipe = 1) (hm : x.msg < 0) (hR : Hid (runT code ⟨s.level, s.position, s.order, min (s.age + 1) p.age, s.p0⟩ = (g, true, 0))) (hg : 0 ≤ g ∧ g ≤ 1099511627776) :
    Calls Try.prog 79 #[p.v, .agg #[V], s.v, x.v] w fun e w' => e = .returned (.tuple #[.agg #[.int .i64 (min p.top (s.level + s.p0 - min (s.level + s.p0) (p.rate * (max (s.position - p.step) (min (s.position + p.step) (min g p.positions)))))), .int .i64 (max (s.position - p.step) (min (s.position + p.step) (min g p.positions))), .int .i64 x.feed, .int .i64 0, .int .i64 s.order, .int .i64 (min (s.age + 1) p.age)], .int .i64 (min (s.level + s.p0) (p.rate * (max (s.position - p.step) (min (s.position + p.step) (min g p.positions)))))]) ∧ Below w.heap.size w w' := by
  obtain ⟨⟨_, _⟩, ⟨_, _⟩, ⟨_, _⟩, ⟨_, _⟩, ⟨_, _⟩, ⟨_, _⟩, ⟨_, _⟩, ⟨_, _⟩, ⟨_, _⟩, ⟨_, _⟩, ⟨_, _⟩⟩ := S
  obtain ⟨_, _⟩ := hg
  have hM2 := mul_le4 (a := p.rate) (b := max (s.position - p.step) (min (s.position + p.step) (min g p.positions))) (A := 15) (B := 15) (by omega) (by omega)
  obtain ⟨_, _⟩ := hM2
  go_enter Try.func79, Try.ntmps79
  go_wp2_with fail
  have hB : Below w.heap.size w ((((((w.alloc (.cells #[.int .i64 p.top, .int .i64 p.bank, .int .i64 p.siphon, .int .i64 p.start, .int .i64 p.positions, .int .i64 p.rate, .int .i64 p.step, .int .i64 p.pass, .int .i64 p.feed, .int .i64 1, .int .i64 p.orders, .int .i64 p.age] 23)).alloc (.cells #[V] 26)).alloc (.cells #[.int .i64 s.level, .int .i64 s.position, .int .i64 s.p0, .int .i64 s.p1, .int .i64 s.order, .int .i64 s.age] 30)).alloc (.cells #[.int .i64 x.feed, .int .i64 x.msg] 37)).alloc (.cells #[.int .i64 0, .int .i64 0, .int .i64 0, .int .i64 0, .int .i64 0, .int .i64 0] 30)).alloc (.cells #[.int .i64 s.level, .int .i64 s.position, .int .i64 x.feed, .int .i64 0, .int .i64 s.order, .int .i64 (min (s.age + 1) p.age)] 30)) := ((((((Below.refl _ _).alloc (by simp <;> omega) _).alloc (by simp <;> omega) _).alloc (by simp <;> omega) _).alloc (by simp <;> omega) _).alloc (by simp <;> omega) _).alloc (by simp <;> omega) _
  refine (rrun_at (r := ⟨s.level, s.position, s.order, min (s.age + 1) p.age, s.p0⟩) hR (hC.out.later hB)).mono ?_
  rintro e w1 ⟨rfl, hb⟩
  have P := (((((((Box.newAt (n := w.heap.size) [.int .i64 p.top, .int .i64 p.bank, .int .i64 p.siphon, .int .i64 p.start, .int .i64 p.positions, .int .i64 p.rate, .int .i64 p.step, .int .i64 p.pass, .int .i64 p.feed, .int .i64 1, .int .i64 p.orders, .int .i64 p.age] 23 (by simp)).alloc _).alloc _).alloc _).alloc _).alloc _)).later hb
  have S := (((((Box.newAt (n := w.heap.size + 1 + 1) [.int .i64 s.level, .int .i64 s.position, .int .i64 s.p0, .int .i64 s.p1, .int .i64 s.order, .int .i64 s.age] 30 (by simp)).alloc _).alloc _).alloc _)).later hb
  have R := (((Box.newAt (n := w.heap.size + 1 + 1 + 1 + 1) [.int .i64 0, .int .i64 0, .int .i64 0, .int .i64 0, .int .i64 0, .int .i64 0] 30 (by simp)).alloc _)).later hb
  have N := ((Box.newAt (n := w.heap.size + 1 + 1 + 1 + 1 + 1) [.int .i64 s.level, .int .i64 s.position, .int .i64 x.feed, .int .i64 0, .int .i64 s.order, .int .i64 (min (s.age + 1) p.age)] 30 (by simp))).later hb
  have hB := hB.trans (hb.mono hB.size)
  clear hb
  obtain ⟨Pc0, Pc1, Pc2, Pc3, Pc4, Pc5, Pc6, Pc7, Pc8, Pc9, Pc10, Pc11⟩ := P.c12
  obtain ⟨Sc0, Sc1, Sc2, Sc3, Sc4, Sc5⟩ := S.c6
  obtain ⟨Rc0, Rf0, Rc1, Rf1, Rc2, Rf2, Rc3, Rf3, Rc4, Rf4, Rc5, Rf5⟩ := R.f6
  have Rz : w.heap.size + 1 + 1 + 1 + 1 < w1.heap.size := R.lt
  obtain ⟨Nc0, Nf0, Nc1, Nf1, Nc2, Nf2, Nc3, Nf3, Nc4, Nf4, Nc5, Nf5⟩ := N.f6
  have Nz : w.heap.size + 1 + 1 + 1 + 1 + 1 < w1.heap.size := N.lt
  go_wp2_with fail
  have hY := ((((((((R.other (a := ⟨w.heap.size + 1 + 1 + 1 + 1 + 1, 1, none⟩) (by simp <;> omega) (.int .i64 (max (s.position - p.step) (min (s.position + p.step) (min g p.positions))))).other (a := ⟨w.heap.size + 1 + 1 + 1 + 1 + 1, 0, none⟩) (by simp <;> omega) (.int .i64 (min p.top (s.level + s.p0 - min (s.level + s.p0) (p.rate * (max (s.position - p.step) (min (s.position + p.step) (min g p.positions)))))))).set 0 (.int .i64 (min p.top (s.level + s.p0 - min (s.level + s.p0) (p.rate * (max (s.position - p.step) (min (s.position + p.step) (min g p.positions)))))))).set 1 (.int .i64 (max (s.position - p.step) (min (s.position + p.step) (min g p.positions))))).set 2 (.int .i64 (x.feed))).set 3 (.int .i64 (0))).set 4 (.int .i64 (s.order))).set 5 (.int .i64 (min (s.age + 1) p.age)))
  have hB := ((((((((hB.setCell (p := ⟨w.heap.size + 1 + 1 + 1 + 1 + 1, 1, none⟩) (by simp <;> omega) (.int .i64 (max (s.position - p.step) (min (s.position + p.step) (min g p.positions))))).setCell (p := ⟨w.heap.size + 1 + 1 + 1 + 1 + 1, 0, none⟩) (by simp <;> omega) (.int .i64 (min p.top (s.level + s.p0 - min (s.level + s.p0) (p.rate * (max (s.position - p.step) (min (s.position + p.step) (min g p.positions)))))))).setCell (p := ⟨w.heap.size + 1 + 1 + 1 + 1, 0, none⟩) (by simp <;> omega) (.int .i64 (min p.top (s.level + s.p0 - min (s.level + s.p0) (p.rate * (max (s.position - p.step) (min (s.position + p.step) (min g p.positions)))))))).setCell (p := ⟨w.heap.size + 1 + 1 + 1 + 1, 1, none⟩) (by simp <;> omega) (.int .i64 (max (s.position - p.step) (min (s.position + p.step) (min g p.positions))))).setCell (p := ⟨w.heap.size + 1 + 1 + 1 + 1, 2, none⟩) (by simp <;> omega) (.int .i64 (x.feed))).setCell (p := ⟨w.heap.size + 1 + 1 + 1 + 1, 3, none⟩) (by simp <;> omega) (.int .i64 (0))).setCell (p := ⟨w.heap.size + 1 + 1 + 1 + 1, 4, none⟩) (by simp <;> omega) (.int .i64 (s.order))).setCell (p := ⟨w.heap.size + 1 + 1 + 1 + 1, 5, none⟩) (by simp <;> omega) (.int .i64 (min (s.age + 1) p.age)))
  generalize ((((((((w1.setCell ⟨w.heap.size + 1 + 1 + 1 + 1 + 1, 1, none⟩ (.int .i64 (max (s.position - p.step) (min (s.position + p.step) (min g p.positions))))).setCell ⟨w.heap.size + 1 + 1 + 1 + 1 + 1, 0, none⟩ (.int .i64 (min p.top (s.level + s.p0 - min (s.level + s.p0) (p.rate * (max (s.position - p.step) (min (s.position + p.step) (min g p.positions)))))))).setCell ⟨w.heap.size + 1 + 1 + 1 + 1, 0, none⟩ (.int .i64 (min p.top (s.level + s.p0 - min (s.level + s.p0) (p.rate * (max (s.position - p.step) (min (s.position + p.step) (min g p.positions)))))))).setCell ⟨w.heap.size + 1 + 1 + 1 + 1, 1, none⟩ (.int .i64 (max (s.position - p.step) (min (s.position + p.step) (min g p.positions))))).setCell ⟨w.heap.size + 1 + 1 + 1 + 1, 2, none⟩ (.int .i64 (x.feed))).setCell ⟨w.heap.size + 1 + 1 + 1 + 1, 3, none⟩ (.int .i64 (0))).setCell ⟨w.heap.size + 1 + 1 + 1 + 1, 4, none⟩ (.int .i64 (s.order))).setCell ⟨w.heap.size + 1 + 1 + 1 + 1, 5, none⟩ (.int .i64 (min (s.age + 1) p.age))) = W at hY hB ⊢
  obtain ⟨y0, y1, y2, y3, y4, y5⟩ := hY.c6
  clear Pc0 Sc0 hY
  refine bodyPost_ret (v := .tuple #[.agg #[.int .i64 (min p.top (s.level + s.p0 - min (s.level + s.p0) (p.rate * (max (s.position - p.step) (min (s.position + p.step) (min g p.positions)))))), .int .i64 (max (s.position - p.step) (min (s.position + p.step) (min g p.positions))), .int .i64 x.feed, .int .i64 0, .int .i64 s.order, .int .i64 (min (s.age + 1) p.age)], .int .i64 (min (s.level + s.p0) (p.rate * (max (s.position - p.step) (min (s.position + p.step) (min g p.positions)))))]) (by simp [results, Try.results79, go_sem, y0, y1, y2, y3, y4, y5]) rfl ?_
  exact ⟨rfl, hB⟩
theorem rstep_020 (p : Pl) (code : List Ln) (V : Value) (s : St) (x : Sh) (w : World) (hC : Hid (CodeAt w w.heap.size V code)) (S : Small p s x) (g : Int)
    (hp : p.pipe = 2) (hm : x.msg < 0) (hR : Hid (runT code ⟨s.level, s.position, s.order, min (s.age + 1) p.age, s.p0⟩ = (g, false, 0))) (hg : 0 ≤ g ∧ g ≤ 1099511627776) :
    Calls Try.prog 79 #[p.v, .agg #[V], s.v, x.v] w fun e w' => e = .returned (.tuple #[.agg #[.int .i64 (min p.top (s.level + s.p0 - min (s.level + s.p0) (p.rate * s.position))), .int .i64 s.position, .int .i64 s.p1, .int .i64 x.feed, .int .i64 s.order, .int .i64 (min (s.age + 1) p.age)], .int .i64 (min (s.level + s.p0) (p.rate * s.position))]) ∧ Below w.heap.size w w' := by
  obtain ⟨⟨_, _⟩, ⟨_, _⟩, ⟨_, _⟩, ⟨_, _⟩, ⟨_, _⟩, ⟨_, _⟩, ⟨_, _⟩, ⟨_, _⟩, ⟨_, _⟩, ⟨_, _⟩, ⟨_, _⟩⟩ := S
  obtain ⟨_, _⟩ := hg
  have hM2 := mul_le4 (a := p.rate) (b := s.position) (A := 15) (B := 15) (by omega) (by omega)
  obtain ⟨_, _⟩ := hM2
  go_enter Try.func79, Try.ntmps79
  go_wp2_with fail
  have hB : Below w.heap.size w ((((((w.alloc (.cells #[.int .i64 p.top, .int .i64 p.bank, .int .i64 p.siphon, .int .i64 p.start, .int .i64 p.positions, .int .i64 p.rate, .int .i64 p.step, .int .i64 p.pass, .int .i64 p.feed, .int .i64 2, .int .i64 p.orders, .int .i64 p.age] 23)).alloc (.cells #[V] 26)).alloc (.cells #[.int .i64 s.level, .int .i64 s.position, .int .i64 s.p0, .int .i64 s.p1, .int .i64 s.order, .int .i64 s.age] 30)).alloc (.cells #[.int .i64 x.feed, .int .i64 x.msg] 37)).alloc (.cells #[.int .i64 0, .int .i64 0, .int .i64 0, .int .i64 0, .int .i64 0, .int .i64 0] 30)).alloc (.cells #[.int .i64 s.level, .int .i64 s.position, .int .i64 s.p1, .int .i64 x.feed, .int .i64 s.order, .int .i64 (min (s.age + 1) p.age)] 30)) := ((((((Below.refl _ _).alloc (by simp <;> omega) _).alloc (by simp <;> omega) _).alloc (by simp <;> omega) _).alloc (by simp <;> omega) _).alloc (by simp <;> omega) _).alloc (by simp <;> omega) _
  refine (rrun_at (r := ⟨s.level, s.position, s.order, min (s.age + 1) p.age, s.p0⟩) hR (hC.out.later hB)).mono ?_
  rintro e w1 ⟨rfl, hb⟩
  have P := (((((((Box.newAt (n := w.heap.size) [.int .i64 p.top, .int .i64 p.bank, .int .i64 p.siphon, .int .i64 p.start, .int .i64 p.positions, .int .i64 p.rate, .int .i64 p.step, .int .i64 p.pass, .int .i64 p.feed, .int .i64 2, .int .i64 p.orders, .int .i64 p.age] 23 (by simp)).alloc _).alloc _).alloc _).alloc _).alloc _)).later hb
  have S := (((((Box.newAt (n := w.heap.size + 1 + 1) [.int .i64 s.level, .int .i64 s.position, .int .i64 s.p0, .int .i64 s.p1, .int .i64 s.order, .int .i64 s.age] 30 (by simp)).alloc _).alloc _).alloc _)).later hb
  have R := (((Box.newAt (n := w.heap.size + 1 + 1 + 1 + 1) [.int .i64 0, .int .i64 0, .int .i64 0, .int .i64 0, .int .i64 0, .int .i64 0] 30 (by simp)).alloc _)).later hb
  have N := ((Box.newAt (n := w.heap.size + 1 + 1 + 1 + 1 + 1) [.int .i64 s.level, .int .i64 s.position, .int .i64 s.p1, .int .i64 x.feed, .int .i64 s.order, .int .i64 (min (s.age + 1) p.age)] 30 (by simp))).later hb
  have hB := hB.trans (hb.mono hB.size)
  clear hb
  obtain ⟨Pc0, Pc1, Pc2, Pc3, Pc4, Pc5, Pc6, Pc7, Pc8, Pc9, Pc10, Pc11⟩ := P.c12
  obtain ⟨Sc0, Sc1, Sc2, Sc3, Sc4, Sc5⟩ := S.c6
  obtain ⟨Rc0, Rf0, Rc1, Rf1, Rc2, Rf2, Rc3, Rf3, Rc4, Rf4, Rc5, Rf5⟩ := R.f6
  have Rz : w.heap.size + 1 + 1 + 1 + 1 < w1.heap.size := R.lt
  obtain ⟨Nc0, Nf0, Nc1, Nf1, Nc2, Nf2, Nc3, Nf3, Nc4, Nf4, Nc5, Nf5⟩ := N.f6
  have Nz : w.heap.size + 1 + 1 + 1 + 1 + 1 < w1.heap.size := N.lt
  go_wp2_with fail
  have hY := (((((((R.other (a := ⟨w.heap.size + 1 + 1 + 1 + 1 + 1, 0, none⟩) (by simp <;> omega) (.int .i64 (min p.top (s.level + s.p0 - min (s.level + s.p0) (p.rate * s.position))))).set 0 (.int .i64 (min p.top (s.level + s.p0 - min (s.level + s.p0) (p.rate * s.position))))).set 1 (.int .i64 (s.position))).set 2 (.int .i64 (s.p1))).set 3 (.int .i64 (x.feed))).set 4 (.int .i64 (s.order))).set 5 (.int .i64 (min (s.age + 1) p.age)))
  have hB := (((((((hB.setCell (p := ⟨w.heap.size + 1 + 1 + 1 + 1 + 1, 0, none⟩) (by simp <;> omega) (.int .i64 (min p.top (s.level + s.p0 - min (s.level + s.p0) (p.rate * s.position))))).setCell (p := ⟨w.heap.size + 1 + 1 + 1 + 1, 0, none⟩) (by simp <;> omega) (.int .i64 (min p.top (s.level + s.p0 - min (s.level + s.p0) (p.rate * s.position))))).setCell (p := ⟨w.heap.size + 1 + 1 + 1 + 1, 1, none⟩) (by simp <;> omega) (.int .i64 (s.position))).setCell (p := ⟨w.heap.size + 1 + 1 + 1 + 1, 2, none⟩) (by simp <;> omega) (.int .i64 (s.p1))).setCell (p := ⟨w.heap.size + 1 + 1 + 1 + 1, 3, none⟩) (by simp <;> omega) (.int .i64 (x.feed))).setCell (p := ⟨w.heap.size + 1 + 1 + 1 + 1, 4, none⟩) (by simp <;> omega) (.int .i64 (s.order))).setCell (p := ⟨w.heap.size + 1 + 1 + 1 + 1, 5, none⟩) (by simp <;> omega) (.int .i64 (min (s.age + 1) p.age)))
  generalize (((((((w1.setCell ⟨w.heap.size + 1 + 1 + 1 + 1 + 1, 0, none⟩ (.int .i64 (min p.top (s.level + s.p0 - min (s.level + s.p0) (p.rate * s.position))))).setCell ⟨w.heap.size + 1 + 1 + 1 + 1, 0, none⟩ (.int .i64 (min p.top (s.level + s.p0 - min (s.level + s.p0) (p.rate * s.position))))).setCell ⟨w.heap.size + 1 + 1 + 1 + 1, 1, none⟩ (.int .i64 (s.position))).setCell ⟨w.heap.size + 1 + 1 + 1 + 1, 2, none⟩ (.int .i64 (s.p1))).setCell ⟨w.heap.size + 1 + 1 + 1 + 1, 3, none⟩ (.int .i64 (x.feed))).setCell ⟨w.heap.size + 1 + 1 + 1 + 1, 4, none⟩ (.int .i64 (s.order))).setCell ⟨w.heap.size + 1 + 1 + 1 + 1, 5, none⟩ (.int .i64 (min (s.age + 1) p.age))) = W at hY hB ⊢
  obtain ⟨y0, y1, y2, y3, y4, y5⟩ := hY.c6
  clear Pc0 Sc0 hY
  refine bodyPost_ret (v := .tuple #[.agg #[.int .i64 (min p.top (s.level + s.p0 - min (s.level + s.p0) (p.rate * s.position))), .int .i64 s.position, .int .i64 s.p1, .int .i64 x.feed, .int .i64 s.order, .int .i64 (min (s.age + 1) p.age)], .int .i64 (min (s.level + s.p0) (p.rate * s.position))]) (by simp [results, Try.results79, go_sem, y0, y1, y2, y3, y4, y5]) rfl ?_
  exact ⟨rfl, hB⟩
theorem rstep_021 (p : Pl) (code : List Ln) (V : Value) (s : St) (x : Sh) (w : World) (hC : Hid (CodeAt w w.heap.size V code)) (S : Small p s x) (g : Int)
    (hp : p.pipe = 2) (hm : x.msg < 0) (hR : Hid (runT code ⟨s.level, s.position, s.order, min (s.age + 1) p.age, s.p0⟩ = (g, true, 0))) (hg : 0 ≤ g ∧ g ≤ 1099511627776) :
    Calls Try.prog 79 #[p.v, .agg #[V], s.v, x.v] w fun e w' => e = .returned (.tuple #[.agg #[.int .i64 (min p.top (s.level + s.p0 - min (s.level + s.p0) (p.rate * (max (s.position - p.step) (min (s.position + p.step) (min g p.positions)))))), .int .i64 (max (s.position - p.step) (min (s.position + p.step) (min g p.positions))), .int .i64 s.p1, .int .i64 x.feed, .int .i64 s.order, .int .i64 (min (s.age + 1) p.age)], .int .i64 (min (s.level + s.p0) (p.rate * (max (s.position - p.step) (min (s.position + p.step) (min g p.positions)))))]) ∧ Below w.heap.size w w' := by
  obtain ⟨⟨_, _⟩, ⟨_, _⟩, ⟨_, _⟩, ⟨_, _⟩, ⟨_, _⟩, ⟨_, _⟩, ⟨_, _⟩, ⟨_, _⟩, ⟨_, _⟩, ⟨_, _⟩, ⟨_, _⟩⟩ := S
  obtain ⟨_, _⟩ := hg
  have hM2 := mul_le4 (a := p.rate) (b := max (s.position - p.step) (min (s.position + p.step) (min g p.positions))) (A := 15) (B := 15) (by omega) (by omega)
  obtain ⟨_, _⟩ := hM2
  go_enter Try.func79, Try.ntmps79
  go_wp2_with fail
  have hB : Below w.heap.size w ((((((w.alloc (.cells #[.int .i64 p.top, .int .i64 p.bank, .int .i64 p.siphon, .int .i64 p.start, .int .i64 p.positions, .int .i64 p.rate, .int .i64 p.step, .int .i64 p.pass, .int .i64 p.feed, .int .i64 2, .int .i64 p.orders, .int .i64 p.age] 23)).alloc (.cells #[V] 26)).alloc (.cells #[.int .i64 s.level, .int .i64 s.position, .int .i64 s.p0, .int .i64 s.p1, .int .i64 s.order, .int .i64 s.age] 30)).alloc (.cells #[.int .i64 x.feed, .int .i64 x.msg] 37)).alloc (.cells #[.int .i64 0, .int .i64 0, .int .i64 0, .int .i64 0, .int .i64 0, .int .i64 0] 30)).alloc (.cells #[.int .i64 s.level, .int .i64 s.position, .int .i64 s.p1, .int .i64 x.feed, .int .i64 s.order, .int .i64 (min (s.age + 1) p.age)] 30)) := ((((((Below.refl _ _).alloc (by simp <;> omega) _).alloc (by simp <;> omega) _).alloc (by simp <;> omega) _).alloc (by simp <;> omega) _).alloc (by simp <;> omega) _).alloc (by simp <;> omega) _
  refine (rrun_at (r := ⟨s.level, s.position, s.order, min (s.age + 1) p.age, s.p0⟩) hR (hC.out.later hB)).mono ?_
  rintro e w1 ⟨rfl, hb⟩
  have P := (((((((Box.newAt (n := w.heap.size) [.int .i64 p.top, .int .i64 p.bank, .int .i64 p.siphon, .int .i64 p.start, .int .i64 p.positions, .int .i64 p.rate, .int .i64 p.step, .int .i64 p.pass, .int .i64 p.feed, .int .i64 2, .int .i64 p.orders, .int .i64 p.age] 23 (by simp)).alloc _).alloc _).alloc _).alloc _).alloc _)).later hb
  have S := (((((Box.newAt (n := w.heap.size + 1 + 1) [.int .i64 s.level, .int .i64 s.position, .int .i64 s.p0, .int .i64 s.p1, .int .i64 s.order, .int .i64 s.age] 30 (by simp)).alloc _).alloc _).alloc _)).later hb
  have R := (((Box.newAt (n := w.heap.size + 1 + 1 + 1 + 1) [.int .i64 0, .int .i64 0, .int .i64 0, .int .i64 0, .int .i64 0, .int .i64 0] 30 (by simp)).alloc _)).later hb
  have N := ((Box.newAt (n := w.heap.size + 1 + 1 + 1 + 1 + 1) [.int .i64 s.level, .int .i64 s.position, .int .i64 s.p1, .int .i64 x.feed, .int .i64 s.order, .int .i64 (min (s.age + 1) p.age)] 30 (by simp))).later hb
  have hB := hB.trans (hb.mono hB.size)
  clear hb
  obtain ⟨Pc0, Pc1, Pc2, Pc3, Pc4, Pc5, Pc6, Pc7, Pc8, Pc9, Pc10, Pc11⟩ := P.c12
  obtain ⟨Sc0, Sc1, Sc2, Sc3, Sc4, Sc5⟩ := S.c6
  obtain ⟨Rc0, Rf0, Rc1, Rf1, Rc2, Rf2, Rc3, Rf3, Rc4, Rf4, Rc5, Rf5⟩ := R.f6
  have Rz : w.heap.size + 1 + 1 + 1 + 1 < w1.heap.size := R.lt
  obtain ⟨Nc0, Nf0, Nc1, Nf1, Nc2, Nf2, Nc3, Nf3, Nc4, Nf4, Nc5, Nf5⟩ := N.f6
  have Nz : w.heap.size + 1 + 1 + 1 + 1 + 1 < w1.heap.size := N.lt
  go_wp2_with fail
  have hY := ((((((((R.other (a := ⟨w.heap.size + 1 + 1 + 1 + 1 + 1, 1, none⟩) (by simp <;> omega) (.int .i64 (max (s.position - p.step) (min (s.position + p.step) (min g p.positions))))).other (a := ⟨w.heap.size + 1 + 1 + 1 + 1 + 1, 0, none⟩) (by simp <;> omega) (.int .i64 (min p.top (s.level + s.p0 - min (s.level + s.p0) (p.rate * (max (s.position - p.step) (min (s.position + p.step) (min g p.positions)))))))).set 0 (.int .i64 (min p.top (s.level + s.p0 - min (s.level + s.p0) (p.rate * (max (s.position - p.step) (min (s.position + p.step) (min g p.positions)))))))).set 1 (.int .i64 (max (s.position - p.step) (min (s.position + p.step) (min g p.positions))))).set 2 (.int .i64 (s.p1))).set 3 (.int .i64 (x.feed))).set 4 (.int .i64 (s.order))).set 5 (.int .i64 (min (s.age + 1) p.age)))
  have hB := ((((((((hB.setCell (p := ⟨w.heap.size + 1 + 1 + 1 + 1 + 1, 1, none⟩) (by simp <;> omega) (.int .i64 (max (s.position - p.step) (min (s.position + p.step) (min g p.positions))))).setCell (p := ⟨w.heap.size + 1 + 1 + 1 + 1 + 1, 0, none⟩) (by simp <;> omega) (.int .i64 (min p.top (s.level + s.p0 - min (s.level + s.p0) (p.rate * (max (s.position - p.step) (min (s.position + p.step) (min g p.positions)))))))).setCell (p := ⟨w.heap.size + 1 + 1 + 1 + 1, 0, none⟩) (by simp <;> omega) (.int .i64 (min p.top (s.level + s.p0 - min (s.level + s.p0) (p.rate * (max (s.position - p.step) (min (s.position + p.step) (min g p.positions)))))))).setCell (p := ⟨w.heap.size + 1 + 1 + 1 + 1, 1, none⟩) (by simp <;> omega) (.int .i64 (max (s.position - p.step) (min (s.position + p.step) (min g p.positions))))).setCell (p := ⟨w.heap.size + 1 + 1 + 1 + 1, 2, none⟩) (by simp <;> omega) (.int .i64 (s.p1))).setCell (p := ⟨w.heap.size + 1 + 1 + 1 + 1, 3, none⟩) (by simp <;> omega) (.int .i64 (x.feed))).setCell (p := ⟨w.heap.size + 1 + 1 + 1 + 1, 4, none⟩) (by simp <;> omega) (.int .i64 (s.order))).setCell (p := ⟨w.heap.size + 1 + 1 + 1 + 1, 5, none⟩) (by simp <;> omega) (.int .i64 (min (s.age + 1) p.age)))
  generalize ((((((((w1.setCell ⟨w.heap.size + 1 + 1 + 1 + 1 + 1, 1, none⟩ (.int .i64 (max (s.position - p.step) (min (s.position + p.step) (min g p.positions))))).setCell ⟨w.heap.size + 1 + 1 + 1 + 1 + 1, 0, none⟩ (.int .i64 (min p.top (s.level + s.p0 - min (s.level + s.p0) (p.rate * (max (s.position - p.step) (min (s.position + p.step) (min g p.positions)))))))).setCell ⟨w.heap.size + 1 + 1 + 1 + 1, 0, none⟩ (.int .i64 (min p.top (s.level + s.p0 - min (s.level + s.p0) (p.rate * (max (s.position - p.step) (min (s.position + p.step) (min g p.positions)))))))).setCell ⟨w.heap.size + 1 + 1 + 1 + 1, 1, none⟩ (.int .i64 (max (s.position - p.step) (min (s.position + p.step) (min g p.positions))))).setCell ⟨w.heap.size + 1 + 1 + 1 + 1, 2, none⟩ (.int .i64 (s.p1))).setCell ⟨w.heap.size + 1 + 1 + 1 + 1, 3, none⟩ (.int .i64 (x.feed))).setCell ⟨w.heap.size + 1 + 1 + 1 + 1, 4, none⟩ (.int .i64 (s.order))).setCell ⟨w.heap.size + 1 + 1 + 1 + 1, 5, none⟩ (.int .i64 (min (s.age + 1) p.age))) = W at hY hB ⊢
  obtain ⟨y0, y1, y2, y3, y4, y5⟩ := hY.c6
  clear Pc0 Sc0 hY
  refine bodyPost_ret (v := .tuple #[.agg #[.int .i64 (min p.top (s.level + s.p0 - min (s.level + s.p0) (p.rate * (max (s.position - p.step) (min (s.position + p.step) (min g p.positions)))))), .int .i64 (max (s.position - p.step) (min (s.position + p.step) (min g p.positions))), .int .i64 s.p1, .int .i64 x.feed, .int .i64 s.order, .int .i64 (min (s.age + 1) p.age)], .int .i64 (min (s.level + s.p0) (p.rate * (max (s.position - p.step) (min (s.position + p.step) (min g p.positions)))))]) (by simp [results, Try.results79, go_sem, y0, y1, y2, y3, y4, y5]) rfl ?_
  exact ⟨rfl, hB⟩
theorem rstep_100 (p : Pl) (code : List Ln) (V : Value) (s : St) (x : Sh) (w : World) (hC : Hid (CodeAt w w.heap.size V code)) (S : Small p s x) (g : Int)
    (hp : p.pipe = 0) (hm : 0 ≤ x.msg) (hR : Hid (runT code ⟨s.level, s.position, x.msg, 0, x.feed⟩ = (g, false, 0))) (hg : 0 ≤ g ∧ g ≤ 1099511627776) :
    Calls Try.prog 79 #[p.v, .agg #[V], s.v, x.v] w fun e w' => e = .returned (.tuple #[.agg #[.int .i64 (min p.top (s.level + x.feed - min (s.level + x.feed) (p.rate * s.position))), .int .i64 s.position, .int .i64 s.p0, .int .i64 s.p1, .int .i64 x.msg, .int .i64 0], .int .i64 (min (s.level + x.feed) (p.rate * s.position))]) ∧ Below w.heap.size w w' := by
  obtain ⟨⟨_, _⟩, ⟨_, _⟩, ⟨_, _⟩, ⟨_, _⟩, ⟨_, _⟩, ⟨_, _⟩, ⟨_, _⟩, ⟨_, _⟩, ⟨_, _⟩, ⟨_, _⟩, ⟨_, _⟩⟩ := S
  obtain ⟨_, _⟩ := hg
  have hM2 := mul_le4 (a := p.rate) (b := s.position) (A := 15) (B := 15) (by omega) (by omega)
  obtain ⟨_, _⟩ := hM2
  go_enter Try.func79, Try.ntmps79
  go_wp2_with fail
  have hB : Below w.heap.size w ((((((w.alloc (.cells #[.int .i64 p.top, .int .i64 p.bank, .int .i64 p.siphon, .int .i64 p.start, .int .i64 p.positions, .int .i64 p.rate, .int .i64 p.step, .int .i64 p.pass, .int .i64 p.feed, .int .i64 0, .int .i64 p.orders, .int .i64 p.age] 23)).alloc (.cells #[V] 26)).alloc (.cells #[.int .i64 s.level, .int .i64 s.position, .int .i64 s.p0, .int .i64 s.p1, .int .i64 s.order, .int .i64 s.age] 30)).alloc (.cells #[.int .i64 x.feed, .int .i64 x.msg] 37)).alloc (.cells #[.int .i64 0, .int .i64 0, .int .i64 0, .int .i64 0, .int .i64 0, .int .i64 0] 30)).alloc (.cells #[.int .i64 s.level, .int .i64 s.position, .int .i64 s.p0, .int .i64 s.p1, .int .i64 x.msg, .int .i64 0] 30)) := ((((((Below.refl _ _).alloc (by simp <;> omega) _).alloc (by simp <;> omega) _).alloc (by simp <;> omega) _).alloc (by simp <;> omega) _).alloc (by simp <;> omega) _).alloc (by simp <;> omega) _
  refine (rrun_at (r := ⟨s.level, s.position, x.msg, 0, x.feed⟩) hR (hC.out.later hB)).mono ?_
  rintro e w1 ⟨rfl, hb⟩
  have P := (((((((Box.newAt (n := w.heap.size) [.int .i64 p.top, .int .i64 p.bank, .int .i64 p.siphon, .int .i64 p.start, .int .i64 p.positions, .int .i64 p.rate, .int .i64 p.step, .int .i64 p.pass, .int .i64 p.feed, .int .i64 0, .int .i64 p.orders, .int .i64 p.age] 23 (by simp)).alloc _).alloc _).alloc _).alloc _).alloc _)).later hb
  have S := (((((Box.newAt (n := w.heap.size + 1 + 1) [.int .i64 s.level, .int .i64 s.position, .int .i64 s.p0, .int .i64 s.p1, .int .i64 s.order, .int .i64 s.age] 30 (by simp)).alloc _).alloc _).alloc _)).later hb
  have R := (((Box.newAt (n := w.heap.size + 1 + 1 + 1 + 1) [.int .i64 0, .int .i64 0, .int .i64 0, .int .i64 0, .int .i64 0, .int .i64 0] 30 (by simp)).alloc _)).later hb
  have N := ((Box.newAt (n := w.heap.size + 1 + 1 + 1 + 1 + 1) [.int .i64 s.level, .int .i64 s.position, .int .i64 s.p0, .int .i64 s.p1, .int .i64 x.msg, .int .i64 0] 30 (by simp))).later hb
  have hB := hB.trans (hb.mono hB.size)
  clear hb
  obtain ⟨Pc0, Pc1, Pc2, Pc3, Pc4, Pc5, Pc6, Pc7, Pc8, Pc9, Pc10, Pc11⟩ := P.c12
  obtain ⟨Sc0, Sc1, Sc2, Sc3, Sc4, Sc5⟩ := S.c6
  obtain ⟨Rc0, Rf0, Rc1, Rf1, Rc2, Rf2, Rc3, Rf3, Rc4, Rf4, Rc5, Rf5⟩ := R.f6
  have Rz : w.heap.size + 1 + 1 + 1 + 1 < w1.heap.size := R.lt
  obtain ⟨Nc0, Nf0, Nc1, Nf1, Nc2, Nf2, Nc3, Nf3, Nc4, Nf4, Nc5, Nf5⟩ := N.f6
  have Nz : w.heap.size + 1 + 1 + 1 + 1 + 1 < w1.heap.size := N.lt
  go_wp2_with fail
  have hY := (((((((R.other (a := ⟨w.heap.size + 1 + 1 + 1 + 1 + 1, 0, none⟩) (by simp <;> omega) (.int .i64 (min p.top (s.level + x.feed - min (s.level + x.feed) (p.rate * s.position))))).set 0 (.int .i64 (min p.top (s.level + x.feed - min (s.level + x.feed) (p.rate * s.position))))).set 1 (.int .i64 (s.position))).set 2 (.int .i64 (s.p0))).set 3 (.int .i64 (s.p1))).set 4 (.int .i64 (x.msg))).set 5 (.int .i64 (0)))
  have hB := (((((((hB.setCell (p := ⟨w.heap.size + 1 + 1 + 1 + 1 + 1, 0, none⟩) (by simp <;> omega) (.int .i64 (min p.top (s.level + x.feed - min (s.level + x.feed) (p.rate * s.position))))).setCell (p := ⟨w.heap.size + 1 + 1 + 1 + 1, 0, none⟩) (by simp <;> omega) (.int .i64 (min p.top (s.level + x.feed - min (s.level + x.feed) (p.rate * s.position))))).setCell (p := ⟨w.heap.size + 1 + 1 + 1 + 1, 1, none⟩) (by simp <;> omega) (.int .i64 (s.position))).setCell (p := ⟨w.heap.size + 1 + 1 + 1 + 1, 2, none⟩) (by simp <;> omega) (.int .i64 (s.p0))).setCell (p := ⟨w.heap.size + 1 + 1 + 1 + 1, 3, none⟩) (by simp <;> omega) (.int .i64 (s.p1))).setCell (p := ⟨w.heap.size + 1 + 1 + 1 + 1, 4, none⟩) (by simp <;> omega) (.int .i64 (x.msg))).setCell (p := ⟨w.heap.size + 1 + 1 + 1 + 1, 5, none⟩) (by simp <;> omega) (.int .i64 (0)))
  generalize (((((((w1.setCell ⟨w.heap.size + 1 + 1 + 1 + 1 + 1, 0, none⟩ (.int .i64 (min p.top (s.level + x.feed - min (s.level + x.feed) (p.rate * s.position))))).setCell ⟨w.heap.size + 1 + 1 + 1 + 1, 0, none⟩ (.int .i64 (min p.top (s.level + x.feed - min (s.level + x.feed) (p.rate * s.position))))).setCell ⟨w.heap.size + 1 + 1 + 1 + 1, 1, none⟩ (.int .i64 (s.position))).setCell ⟨w.heap.size + 1 + 1 + 1 + 1, 2, none⟩ (.int .i64 (s.p0))).setCell ⟨w.heap.size + 1 + 1 + 1 + 1, 3, none⟩ (.int .i64 (s.p1))).setCell ⟨w.heap.size + 1 + 1 + 1 + 1, 4, none⟩ (.int .i64 (x.msg))).setCell ⟨w.heap.size + 1 + 1 + 1 + 1, 5, none⟩ (.int .i64 (0))) = W at hY hB ⊢
  obtain ⟨y0, y1, y2, y3, y4, y5⟩ := hY.c6
  clear Pc0 Sc0 hY
  refine bodyPost_ret (v := .tuple #[.agg #[.int .i64 (min p.top (s.level + x.feed - min (s.level + x.feed) (p.rate * s.position))), .int .i64 s.position, .int .i64 s.p0, .int .i64 s.p1, .int .i64 x.msg, .int .i64 0], .int .i64 (min (s.level + x.feed) (p.rate * s.position))]) (by simp [results, Try.results79, go_sem, y0, y1, y2, y3, y4, y5]) rfl ?_
  exact ⟨rfl, hB⟩
theorem rstep_101 (p : Pl) (code : List Ln) (V : Value) (s : St) (x : Sh) (w : World) (hC : Hid (CodeAt w w.heap.size V code)) (S : Small p s x) (g : Int)
    (hp : p.pipe = 0) (hm : 0 ≤ x.msg) (hR : Hid (runT code ⟨s.level, s.position, x.msg, 0, x.feed⟩ = (g, true, 0))) (hg : 0 ≤ g ∧ g ≤ 1099511627776) :
    Calls Try.prog 79 #[p.v, .agg #[V], s.v, x.v] w fun e w' => e = .returned (.tuple #[.agg #[.int .i64 (min p.top (s.level + x.feed - min (s.level + x.feed) (p.rate * (max (s.position - p.step) (min (s.position + p.step) (min g p.positions)))))), .int .i64 (max (s.position - p.step) (min (s.position + p.step) (min g p.positions))), .int .i64 s.p0, .int .i64 s.p1, .int .i64 x.msg, .int .i64 0], .int .i64 (min (s.level + x.feed) (p.rate * (max (s.position - p.step) (min (s.position + p.step) (min g p.positions)))))]) ∧ Below w.heap.size w w' := by
  obtain ⟨⟨_, _⟩, ⟨_, _⟩, ⟨_, _⟩, ⟨_, _⟩, ⟨_, _⟩, ⟨_, _⟩, ⟨_, _⟩, ⟨_, _⟩, ⟨_, _⟩, ⟨_, _⟩, ⟨_, _⟩⟩ := S
  obtain ⟨_, _⟩ := hg
  have hM2 := mul_le4 (a := p.rate) (b := max (s.position - p.step) (min (s.position + p.step) (min g p.positions))) (A := 15) (B := 15) (by omega) (by omega)
  obtain ⟨_, _⟩ := hM2
  go_enter Try.func79, Try.ntmps79
  go_wp2_with fail
  have hB : Below w.heap.size w ((((((w.alloc (.cells #[.int .i64 p.top, .int .i64 p.bank, .int .i64 p.siphon, .int .i64 p.start, .int .i64 p.positions, .int .i64 p.rate, .int .i64 p.step, .int .i64 p.pass, .int .i64 p.feed, .int .i64 0, .int .i64 p.orders, .int .i64 p.age] 23)).alloc (.cells #[V] 26)).alloc (.cells #[.int .i64 s.level, .int .i64 s.position, .int .i64 s.p0, .int .i64 s.p1, .int .i64 s.order, .int .i64 s.age] 30)).alloc (.cells #[.int .i64 x.feed, .int .i64 x.msg] 37)).alloc (.cells #[.int .i64 0, .int .i64 0, .int .i64 0, .int .i64 0, .int .i64 0, .int .i64 0] 30)).alloc (.cells #[.int .i64 s.level, .int .i64 s.position, .int .i64 s.p0, .int .i64 s.p1, .int .i64 x.msg, .int .i64 0] 30)) := ((((((Below.refl _ _).alloc (by simp <;> omega) _).alloc (by simp <;> omega) _).alloc (by simp <;> omega) _).alloc (by simp <;> omega) _).alloc (by simp <;> omega) _).alloc (by simp <;> omega) _
  refine (rrun_at (r := ⟨s.level, s.position, x.msg, 0, x.feed⟩) hR (hC.out.later hB)).mono ?_
  rintro e w1 ⟨rfl, hb⟩
  have P := (((((((Box.newAt (n := w.heap.size) [.int .i64 p.top, .int .i64 p.bank, .int .i64 p.siphon, .int .i64 p.start, .int .i64 p.positions, .int .i64 p.rate, .int .i64 p.step, .int .i64 p.pass, .int .i64 p.feed, .int .i64 0, .int .i64 p.orders, .int .i64 p.age] 23 (by simp)).alloc _).alloc _).alloc _).alloc _).alloc _)).later hb
  have S := (((((Box.newAt (n := w.heap.size + 1 + 1) [.int .i64 s.level, .int .i64 s.position, .int .i64 s.p0, .int .i64 s.p1, .int .i64 s.order, .int .i64 s.age] 30 (by simp)).alloc _).alloc _).alloc _)).later hb
  have R := (((Box.newAt (n := w.heap.size + 1 + 1 + 1 + 1) [.int .i64 0, .int .i64 0, .int .i64 0, .int .i64 0, .int .i64 0, .int .i64 0] 30 (by simp)).alloc _)).later hb
  have N := ((Box.newAt (n := w.heap.size + 1 + 1 + 1 + 1 + 1) [.int .i64 s.level, .int .i64 s.position, .int .i64 s.p0, .int .i64 s.p1, .int .i64 x.msg, .int .i64 0] 30 (by simp))).later hb
  have hB := hB.trans (hb.mono hB.size)
  clear hb
  obtain ⟨Pc0, Pc1, Pc2, Pc3, Pc4, Pc5, Pc6, Pc7, Pc8, Pc9, Pc10, Pc11⟩ := P.c12
  obtain ⟨Sc0, Sc1, Sc2, Sc3, Sc4, Sc5⟩ := S.c6
  obtain ⟨Rc0, Rf0, Rc1, Rf1, Rc2, Rf2, Rc3, Rf3, Rc4, Rf4, Rc5, Rf5⟩ := R.f6
  have Rz : w.heap.size + 1 + 1 + 1 + 1 < w1.heap.size := R.lt
  obtain ⟨Nc0, Nf0, Nc1, Nf1, Nc2, Nf2, Nc3, Nf3, Nc4, Nf4, Nc5, Nf5⟩ := N.f6
  have Nz : w.heap.size + 1 + 1 + 1 + 1 + 1 < w1.heap.size := N.lt
  go_wp2_with fail
  have hY := ((((((((R.other (a := ⟨w.heap.size + 1 + 1 + 1 + 1 + 1, 1, none⟩) (by simp <;> omega) (.int .i64 (max (s.position - p.step) (min (s.position + p.step) (min g p.positions))))).other (a := ⟨w.heap.size + 1 + 1 + 1 + 1 + 1, 0, none⟩) (by simp <;> omega) (.int .i64 (min p.top (s.level + x.feed - min (s.level + x.feed) (p.rate * (max (s.position - p.step) (min (s.position + p.step) (min g p.positions)))))))).set 0 (.int .i64 (min p.top (s.level + x.feed - min (s.level + x.feed) (p.rate * (max (s.position - p.step) (min (s.position + p.step) (min g p.positions)))))))).set 1 (.int .i64 (max (s.position - p.step) (min (s.position + p.step) (min g p.positions))))).set 2 (.int .i64 (s.p0))).set 3 (.int .i64 (s.p1))).set 4 (.int .i64 (x.msg))).set 5 (.int .i64 (0)))
  have hB := ((((((((hB.setCell (p := ⟨w.heap.size + 1 + 1 + 1 + 1 + 1, 1, none⟩) (by simp <;> omega) (.int .i64 (max (s.position - p.step) (min (s.position + p.step) (min g p.positions))))).setCell (p := ⟨w.heap.size + 1 + 1 + 1 + 1 + 1, 0, none⟩) (by simp <;> omega) (.int .i64 (min p.top (s.level + x.feed - min (s.level + x.feed) (p.rate * (max (s.position - p.step) (min (s.position + p.step) (min g p.positions)))))))).setCell (p := ⟨w.heap.size + 1 + 1 + 1 + 1, 0, none⟩) (by simp <;> omega) (.int .i64 (min p.top (s.level + x.feed - min (s.level + x.feed) (p.rate * (max (s.position - p.step) (min (s.position + p.step) (min g p.positions)))))))).setCell (p := ⟨w.heap.size + 1 + 1 + 1 + 1, 1, none⟩) (by simp <;> omega) (.int .i64 (max (s.position - p.step) (min (s.position + p.step) (min g p.positions))))).setCell (p := ⟨w.heap.size + 1 + 1 + 1 + 1, 2, none⟩) (by simp <;> omega) (.int .i64 (s.p0))).setCell (p := ⟨w.heap.size + 1 + 1 + 1 + 1, 3, none⟩) (by simp <;> omega) (.int .i64 (s.p1))).setCell (p := ⟨w.heap.size + 1 + 1 + 1 + 1, 4, none⟩) (by simp <;> omega) (.int .i64 (x.msg))).setCell (p := ⟨w.heap.size + 1 + 1 + 1 + 1, 5, none⟩) (by simp <;> omega) (.int .i64 (0)))
  generalize ((((((((w1.setCell ⟨w.heap.size + 1 + 1 + 1 + 1 + 1, 1, none⟩ (.int .i64 (max (s.position - p.step) (min (s.position + p.step) (min g p.positions))))).setCell ⟨w.heap.size + 1 + 1 + 1 + 1 + 1, 0, none⟩ (.int .i64 (min p.top (s.level + x.feed - min (s.level + x.feed) (p.rate * (max (s.position - p.step) (min (s.position + p.step) (min g p.positions)))))))).setCell ⟨w.heap.size + 1 + 1 + 1 + 1, 0, none⟩ (.int .i64 (min p.top (s.level + x.feed - min (s.level + x.feed) (p.rate * (max (s.position - p.step) (min (s.position + p.step) (min g p.positions)))))))).setCell ⟨w.heap.size + 1 + 1 + 1 + 1, 1, none⟩ (.int .i64 (max (s.position - p.step) (min (s.position + p.step) (min g p.positions))))).setCell ⟨w.heap.size + 1 + 1 + 1 + 1, 2, none⟩ (.int .i64 (s.p0))).setCell ⟨w.heap.size + 1 + 1 + 1 + 1, 3, none⟩ (.int .i64 (s.p1))).setCell ⟨w.heap.size + 1 + 1 + 1 + 1, 4, none⟩ (.int .i64 (x.msg))).setCell ⟨w.heap.size + 1 + 1 + 1 + 1, 5, none⟩ (.int .i64 (0))) = W at hY hB ⊢
  obtain ⟨y0, y1, y2, y3, y4, y5⟩ := hY.c6
  clear Pc0 Sc0 hY
  refine bodyPost_ret (v := .tuple #[.agg #[.int .i64 (min p.top (s.level + x.feed - min (s.level + x.feed) (p.rate * (max (s.position - p.step) (min (s.position + p.step) (min g p.positions)))))), .int .i64 (max (s.position - p.step) (min (s.position + p.step) (min g p.positions))), .int .i64 s.p0, .int .i64 s.p1, .int .i64 x.msg, .int .i64 0], .int .i64 (min (s.level + x.feed) (p.rate * (max (s.position - p.step) (min (s.position + p.step) (min g p.positions)))))]) (by simp [results, Try.results79, go_sem, y0, y1, y2, y3, y4, y5]) rfl ?_
  exact ⟨rfl, hB⟩
theorem rstep_110 (p : Pl) (code : List Ln) (V : Value) (s : St) (x : Sh) (w : World) (hC : Hid (CodeAt w w.heap.size V code)) (S : Small p s x) (g : Int)
    (hp : p.pipe = 1) (hm : 0 ≤ x.msg) (hR : Hid (runT code ⟨s.level, s.position, x.msg, 0, s.p0⟩ = (g, false, 0))) (hg : 0 ≤ g ∧ g ≤ 1099511627776) :
    Calls Try.prog 79 #[p.v, .agg #[V], s.v, x.v] w fun e w' => e = .returned (.tuple #[.agg #[.int .i64 (min p.top (s.level + s.p0 - min (s.level + s.p0) (p.rate * s.position))), .int .i64 s.position, .int .i64 x.feed, .int .i64 0, .int .i64 x.msg, .int .i64 0], .int .i64 (min (s.level + s.p0) (p.rate * s.position))]) ∧ Below w.heap.size w w' := by
  obtain ⟨⟨_, _⟩, ⟨_, _⟩, ⟨_, _⟩, ⟨_, _⟩, ⟨_, _⟩, ⟨_, _⟩, ⟨_, _⟩, ⟨_, _⟩, ⟨_, _⟩, ⟨_, _⟩, ⟨_, _⟩⟩ := S
  obtain ⟨_, _⟩ := hg
  have hM2 := mul_le4 (a := p.rate) (b := s.position) (A := 15) (B := 15) (by omega) (by omega)
  obtain ⟨_, _⟩ := hM2
  go_enter Try.func79, Try.ntmps79
  go_wp2_with fail
  have hB : Below w.heap.size w ((((((w.alloc (.cells #[.int .i64 p.top, .int .i64 p.bank, .int .i64 p.siphon, .int .i64 p.start, .int .i64 p.positions, .int .i64 p.rate, .int .i64 p.step, .int .i64 p.pass, .int .i64 p.feed, .int .i64 1, .int .i64 p.orders, .int .i64 p.age] 23)).alloc (.cells #[V] 26)).alloc (.cells #[.int .i64 s.level, .int .i64 s.position, .int .i64 s.p0, .int .i64 s.p1, .int .i64 s.order, .int .i64 s.age] 30)).alloc (.cells #[.int .i64 x.feed, .int .i64 x.msg] 37)).alloc (.cells #[.int .i64 0, .int .i64 0, .int .i64 0, .int .i64 0, .int .i64 0, .int .i64 0] 30)).alloc (.cells #[.int .i64 s.level, .int .i64 s.position, .int .i64 x.feed, .int .i64 0, .int .i64 x.msg, .int .i64 0] 30)) := ((((((Below.refl _ _).alloc (by simp <;> omega) _).alloc (by simp <;> omega) _).alloc (by simp <;> omega) _).alloc (by simp <;> omega) _).alloc (by simp <;> omega) _).alloc (by simp <;> omega) _
  refine (rrun_at (r := ⟨s.level, s.position, x.msg, 0, s.p0⟩) hR (hC.out.later hB)).mono ?_
  rintro e w1 ⟨rfl, hb⟩
  have P := (((((((Box.newAt (n := w.heap.size) [.int .i64 p.top, .int .i64 p.bank, .int .i64 p.siphon, .int .i64 p.start, .int .i64 p.positions, .int .i64 p.rate, .int .i64 p.step, .int .i64 p.pass, .int .i64 p.feed, .int .i64 1, .int .i64 p.orders, .int .i64 p.age] 23 (by simp)).alloc _).alloc _).alloc _).alloc _).alloc _)).later hb
  have S := (((((Box.newAt (n := w.heap.size + 1 + 1) [.int .i64 s.level, .int .i64 s.position, .int .i64 s.p0, .int .i64 s.p1, .int .i64 s.order, .int .i64 s.age] 30 (by simp)).alloc _).alloc _).alloc _)).later hb
  have R := (((Box.newAt (n := w.heap.size + 1 + 1 + 1 + 1) [.int .i64 0, .int .i64 0, .int .i64 0, .int .i64 0, .int .i64 0, .int .i64 0] 30 (by simp)).alloc _)).later hb
  have N := ((Box.newAt (n := w.heap.size + 1 + 1 + 1 + 1 + 1) [.int .i64 s.level, .int .i64 s.position, .int .i64 x.feed, .int .i64 0, .int .i64 x.msg, .int .i64 0] 30 (by simp))).later hb
  have hB := hB.trans (hb.mono hB.size)
  clear hb
  obtain ⟨Pc0, Pc1, Pc2, Pc3, Pc4, Pc5, Pc6, Pc7, Pc8, Pc9, Pc10, Pc11⟩ := P.c12
  obtain ⟨Sc0, Sc1, Sc2, Sc3, Sc4, Sc5⟩ := S.c6
  obtain ⟨Rc0, Rf0, Rc1, Rf1, Rc2, Rf2, Rc3, Rf3, Rc4, Rf4, Rc5, Rf5⟩ := R.f6
  have Rz : w.heap.size + 1 + 1 + 1 + 1 < w1.heap.size := R.lt
  obtain ⟨Nc0, Nf0, Nc1, Nf1, Nc2, Nf2, Nc3, Nf3, Nc4, Nf4, Nc5, Nf5⟩ := N.f6
  have Nz : w.heap.size + 1 + 1 + 1 + 1 + 1 < w1.heap.size := N.lt
  go_wp2_with fail
  have hY := (((((((R.other (a := ⟨w.heap.size + 1 + 1 + 1 + 1 + 1, 0, none⟩) (by simp <;> omega) (.int .i64 (min p.top (s.level + s.p0 - min (s.level + s.p0) (p.rate * s.position))))).set 0 (.int .i64 (min p.top (s.level + s.p0 - min (s.level + s.p0) (p.rate * s.position))))).set 1 (.int .i64 (s.position))).set 2 (.int .i64 (x.feed))).set 3 (.int .i64 (0))).set 4 (.int .i64 (x.msg))).set 5 (.int .i64 (0)))
  have hB := (((((((hB.setCell (p := ⟨w.heap.size + 1 + 1 + 1 + 1 + 1, 0, none⟩) (by simp <;> omega) (.int .i64 (min p.top (s.level + s.p0 - min (s.level + s.p0) (p.rate * s.position))))).setCell (p := ⟨w.heap.size + 1 + 1 + 1 + 1, 0, none⟩) (by simp <;> omega) (.int .i64 (min p.top (s.level + s.p0 - min (s.level + s.p0) (p.rate * s.position))))).setCell (p := ⟨w.heap.size + 1 + 1 + 1 + 1, 1, none⟩) (by simp <;> omega) (.int .i64 (s.position))).setCell (p := ⟨w.heap.size + 1 + 1 + 1 + 1, 2, none⟩) (by simp <;> omega) (.int .i64 (x.feed))).setCell (p := ⟨w.heap.size + 1 + 1 + 1 + 1, 3, none⟩) (by simp <;> omega) (.int .i64 (0))).setCell (p := ⟨w.heap.size + 1 + 1 + 1 + 1, 4, none⟩) (by simp <;> omega) (.int .i64 (x.msg))).setCell (p := ⟨w.heap.size + 1 + 1 + 1 + 1, 5, none⟩) (by simp <;> omega) (.int .i64 (0)))
  generalize (((((((w1.setCell ⟨w.heap.size + 1 + 1 + 1 + 1 + 1, 0, none⟩ (.int .i64 (min p.top (s.level + s.p0 - min (s.level + s.p0) (p.rate * s.position))))).setCell ⟨w.heap.size + 1 + 1 + 1 + 1, 0, none⟩ (.int .i64 (min p.top (s.level + s.p0 - min (s.level + s.p0) (p.rate * s.position))))).setCell ⟨w.heap.size + 1 + 1 + 1 + 1, 1, none⟩ (.int .i64 (s.position))).setCell ⟨w.heap.size + 1 + 1 + 1 + 1, 2, none⟩ (.int .i64 (x.feed))).setCell ⟨w.heap.size + 1 + 1 + 1 + 1, 3, none⟩ (.int .i64 (0))).setCell ⟨w.heap.size + 1 + 1 + 1 + 1, 4, none⟩ (.int .i64 (x.msg))).setCell ⟨w.heap.size + 1 + 1 + 1 + 1, 5, none⟩ (.int .i64 (0))) = W at hY hB ⊢
  obtain ⟨y0, y1, y2, y3, y4, y5⟩ := hY.c6
  clear Pc0 Sc0 hY
  refine bodyPost_ret (v := .tuple #[.agg #[.int .i64 (min p.top (s.level + s.p0 - min (s.level + s.p0) (p.rate * s.position))), .int .i64 s.position, .int .i64 x.feed, .int .i64 0, .int .i64 x.msg, .int .i64 0], .int .i64 (min (s.level + s.p0) (p.rate * s.position))]) (by simp [results, Try.results79, go_sem, y0, y1, y2, y3, y4, y5]) rfl ?_
  exact ⟨rfl, hB⟩
theorem rstep_111 (p : Pl) (code : List Ln) (V : Value) (s : St) (x : Sh) (w : World) (hC : Hid (CodeAt w w.heap.size V code)) (S : Small p s x) (g : Int)
    (hp : p.pipe = 1) (hm : 0 ≤ x.msg) (hR : Hid (runT code ⟨s.level, s.position, x.msg, 0, s.p0⟩ = (g, true, 0))) (hg : 0 ≤ g ∧ g ≤ 1099511627776) :
    Calls Try.prog 79 #[p.v, .agg #[V], s.v, x.v] w fun e w' => e = .returned (.tuple #[.agg #[.int .i64 (min p.top (s.level + s.p0 - min (s.level + s.p0) (p.rate * (max (s.position - p.step) (min (s.position + p.step) (min g p.positions)))))), .int .i64 (max (s.position - p.step) (min (s.position + p.step) (min g p.positions))), .int .i64 x.feed, .int .i64 0, .int .i64 x.msg, .int .i64 0], .int .i64 (min (s.level + s.p0) (p.rate * (max (s.position - p.step) (min (s.position + p.step) (min g p.positions)))))]) ∧ Below w.heap.size w w' := by
  obtain ⟨⟨_, _⟩, ⟨_, _⟩, ⟨_, _⟩, ⟨_, _⟩, ⟨_, _⟩, ⟨_, _⟩, ⟨_, _⟩, ⟨_, _⟩, ⟨_, _⟩, ⟨_, _⟩, ⟨_, _⟩⟩ := S
  obtain ⟨_, _⟩ := hg
  have hM2 := mul_le4 (a := p.rate) (b := max (s.position - p.step) (min (s.position + p.step) (min g p.positions))) (A := 15) (B := 15) (by omega) (by omega)
  obtain ⟨_, _⟩ := hM2
  go_enter Try.func79, Try.ntmps79
  go_wp2_with fail
  have hB : Below w.heap.size w ((((((w.alloc (.cells #[.int .i64 p.top, .int .i64 p.bank, .int .i64 p.siphon, .int .i64 p.start, .int .i64 p.positions, .int .i64 p.rate, .int .i64 p.step, .int .i64 p.pass, .int .i64 p.feed, .int .i64 1, .int .i64 p.orders, .int .i64 p.age] 23)).alloc (.cells #[V] 26)).alloc (.cells #[.int .i64 s.level, .int .i64 s.position, .int .i64 s.p0, .int .i64 s.p1, .int .i64 s.order, .int .i64 s.age] 30)).alloc (.cells #[.int .i64 x.feed, .int .i64 x.msg] 37)).alloc (.cells #[.int .i64 0, .int .i64 0, .int .i64 0, .int .i64 0, .int .i64 0, .int .i64 0] 30)).alloc (.cells #[.int .i64 s.level, .int .i64 s.position, .int .i64 x.feed, .int .i64 0, .int .i64 x.msg, .int .i64 0] 30)) := ((((((Below.refl _ _).alloc (by simp <;> omega) _).alloc (by simp <;> omega) _).alloc (by simp <;> omega) _).alloc (by simp <;> omega) _).alloc (by simp <;> omega) _).alloc (by simp <;> omega) _
  refine (rrun_at (r := ⟨s.level, s.position, x.msg, 0, s.p0⟩) hR (hC.out.later hB)).mono ?_
  rintro e w1 ⟨rfl, hb⟩
  have P := (((((((Box.newAt (n := w.heap.size) [.int .i64 p.top, .int .i64 p.bank, .int .i64 p.siphon, .int .i64 p.start, .int .i64 p.positions, .int .i64 p.rate, .int .i64 p.step, .int .i64 p.pass, .int .i64 p.feed, .int .i64 1, .int .i64 p.orders, .int .i64 p.age] 23 (by simp)).alloc _).alloc _).alloc _).alloc _).alloc _)).later hb
  have S := (((((Box.newAt (n := w.heap.size + 1 + 1) [.int .i64 s.level, .int .i64 s.position, .int .i64 s.p0, .int .i64 s.p1, .int .i64 s.order, .int .i64 s.age] 30 (by simp)).alloc _).alloc _).alloc _)).later hb
  have R := (((Box.newAt (n := w.heap.size + 1 + 1 + 1 + 1) [.int .i64 0, .int .i64 0, .int .i64 0, .int .i64 0, .int .i64 0, .int .i64 0] 30 (by simp)).alloc _)).later hb
  have N := ((Box.newAt (n := w.heap.size + 1 + 1 + 1 + 1 + 1) [.int .i64 s.level, .int .i64 s.position, .int .i64 x.feed, .int .i64 0, .int .i64 x.msg, .int .i64 0] 30 (by simp))).later hb
  have hB := hB.trans (hb.mono hB.size)
  clear hb
  obtain ⟨Pc0, Pc1, Pc2, Pc3, Pc4, Pc5, Pc6, Pc7, Pc8, Pc9, Pc10, Pc11⟩ := P.c12
  obtain ⟨Sc0, Sc1, Sc2, Sc3, Sc4, Sc5⟩ := S.c6
  obtain ⟨Rc0, Rf0, Rc1, Rf1, Rc2, Rf2, Rc3, Rf3, Rc4, Rf4, Rc5, Rf5⟩ := R.f6
  have Rz : w.heap.size + 1 + 1 + 1 + 1 < w1.heap.size := R.lt
  obtain ⟨Nc0, Nf0, Nc1, Nf1, Nc2, Nf2, Nc3, Nf3, Nc4, Nf4, Nc5, Nf5⟩ := N.f6
  have Nz : w.heap.size + 1 + 1 + 1 + 1 + 1 < w1.heap.size := N.lt
  go_wp2_with fail
  have hY := ((((((((R.other (a := ⟨w.heap.size + 1 + 1 + 1 + 1 + 1, 1, none⟩) (by simp <;> omega) (.int .i64 (max (s.position - p.step) (min (s.position + p.step) (min g p.positions))))).other (a := ⟨w.heap.size + 1 + 1 + 1 + 1 + 1, 0, none⟩) (by simp <;> omega) (.int .i64 (min p.top (s.level + s.p0 - min (s.level + s.p0) (p.rate * (max (s.position - p.step) (min (s.position + p.step) (min g p.positions)))))))).set 0 (.int .i64 (min p.top (s.level + s.p0 - min (s.level + s.p0) (p.rate * (max (s.position - p.step) (min (s.position + p.step) (min g p.positions)))))))).set 1 (.int .i64 (max (s.position - p.step) (min (s.position + p.step) (min g p.positions))))).set 2 (.int .i64 (x.feed))).set 3 (.int .i64 (0))).set 4 (.int .i64 (x.msg))).set 5 (.int .i64 (0)))
  have hB := ((((((((hB.setCell (p := ⟨w.heap.size + 1 + 1 + 1 + 1 + 1, 1, none⟩) (by simp <;> omega) (.int .i64 (max (s.position - p.step) (min (s.position + p.step) (min g p.positions))))).setCell (p := ⟨w.heap.size + 1 + 1 + 1 + 1 + 1, 0, none⟩) (by simp <;> omega) (.int .i64 (min p.top (s.level + s.p0 - min (s.level + s.p0) (p.rate * (max (s.position - p.step) (min (s.position + p.step) (min g p.positions)))))))).setCell (p := ⟨w.heap.size + 1 + 1 + 1 + 1, 0, none⟩) (by simp <;> omega) (.int .i64 (min p.top (s.level + s.p0 - min (s.level + s.p0) (p.rate * (max (s.position - p.step) (min (s.position + p.step) (min g p.positions)))))))).setCell (p := ⟨w.heap.size + 1 + 1 + 1 + 1, 1, none⟩) (by simp <;> omega) (.int .i64 (max (s.position - p.step) (min (s.position + p.step) (min g p.positions))))).setCell (p := ⟨w.heap.size + 1 + 1 + 1 + 1, 2, none⟩) (by simp <;> omega) (.int .i64 (x.feed))).setCell (p := ⟨w.heap.size + 1 + 1 + 1 + 1, 3, none⟩) (by simp <;> omega) (.int .i64 (0))).setCell (p := ⟨w.heap.size + 1 + 1 + 1 + 1, 4, none⟩) (by simp <;> omega) (.int .i64 (x.msg))).setCell (p := ⟨w.heap.size + 1 + 1 + 1 + 1, 5, none⟩) (by simp <;> omega) (.int .i64 (0)))
  generalize ((((((((w1.setCell ⟨w.heap.size + 1 + 1 + 1 + 1 + 1, 1, none⟩ (.int .i64 (max (s.position - p.step) (min (s.position + p.step) (min g p.positions))))).setCell ⟨w.heap.size + 1 + 1 + 1 + 1 + 1, 0, none⟩ (.int .i64 (min p.top (s.level + s.p0 - min (s.level + s.p0) (p.rate * (max (s.position - p.step) (min (s.position + p.step) (min g p.positions)))))))).setCell ⟨w.heap.size + 1 + 1 + 1 + 1, 0, none⟩ (.int .i64 (min p.top (s.level + s.p0 - min (s.level + s.p0) (p.rate * (max (s.position - p.step) (min (s.position + p.step) (min g p.positions)))))))).setCell ⟨w.heap.size + 1 + 1 + 1 + 1, 1, none⟩ (.int .i64 (max (s.position - p.step) (min (s.position + p.step) (min g p.positions))))).setCell ⟨w.heap.size + 1 + 1 + 1 + 1, 2, none⟩ (.int .i64 (x.feed))).setCell ⟨w.heap.size + 1 + 1 + 1 + 1, 3, none⟩ (.int .i64 (0))).setCell ⟨w.heap.size + 1 + 1 + 1 + 1, 4, none⟩ (.int .i64 (x.msg))).setCell ⟨w.heap.size + 1 + 1 + 1 + 1, 5, none⟩ (.int .i64 (0))) = W at hY hB ⊢
  obtain ⟨y0, y1, y2, y3, y4, y5⟩ := hY.c6
  clear Pc0 Sc0 hY
  refine bodyPost_ret (v := .tuple #[.agg #[.int .i64 (min p.top (s.level + s.p0 - min (s.level + s.p0) (p.rate * (max (s.position - p.step) (min (s.position + p.step) (min g p.positions)))))), .int .i64 (max (s.position - p.step) (min (s.position + p.step) (min g p.positions))), .int .i64 x.feed, .int .i64 0, .int .i64 x.msg, .int .i64 0], .int .i64 (min (s.level + s.p0) (p.rate * (max (s.position - p.step) (min (s.position + p.step) (min g p.positions)))))]) (by simp [results, Try.results79, go_sem, y0, y1, y2, y3, y4, y5]) rfl ?_
  exact ⟨rfl, hB⟩
theorem rstep_120 (p : Pl) (code : List Ln) (V : Value) (s : St) (x : Sh) (w : World) (hC : Hid (CodeAt w w.heap.size V code)) (S : Small p s x) (g : Int)
    (hp : p.pipe = 2) (hm : 0 ≤ x.msg) (hR : Hid (runT code ⟨s.level, s.position, x.msg, 0, s.p0⟩ = (g, false, 0))) (hg : 0 ≤ g ∧ g ≤ 1099511627776) :
    Calls Try.prog 79 #[p.v, .agg #[V], s.v, x.v] w fun e w' => e = .returned (.tuple #[.agg #[.int .i64 (min p.top (s.level + s.p0 - min (s.level + s.p0) (p.rate * s.position))), .int .i64 s.position, .int .i64 s.p1, .int .i64 x.feed, .int .i64 x.msg, .int .i64 0], .int .i64 (min (s.level + s.p0) (p.rate * s.position))]) ∧ Below w.heap.size w w' := by
  obtain ⟨⟨_, _⟩, ⟨_, _⟩, ⟨_, _⟩, ⟨_, _⟩, ⟨_, _⟩, ⟨_, _⟩, ⟨_, _⟩, ⟨_, _⟩, ⟨_, _⟩, ⟨_, _⟩, ⟨_, _⟩⟩ := S
  obtain ⟨_, _⟩ := hg
  have hM2 := mul_le4 (a := p.rate) (b := s.position) (A := 15) (B := 15) (by omega) (by omega)
  obtain ⟨_, _⟩ := hM2
  go_enter Try.func79, Try.ntmps79
  go_wp2_with fail
  have hB : Below w.heap.size w ((((((w.alloc (.cells #[.int .i64 p.top, .int .i64 p.bank, .int .i64 p.siphon, .int .i64 p.start, .int .i64 p.positions, .int .i64 p.rate, .int .i64 p.step, .int .i64 p.pass, .int .i64 p.feed, .int .i64 2, .int .i64 p.orders, .int .i64 p.age] 23)).alloc (.cells #[V] 26)).alloc (.cells #[.int .i64 s.level, .int .i64 s.position, .int .i64 s.p0, .int .i64 s.p1, .int .i64 s.order, .int .i64 s.age] 30)).alloc (.cells #[.int .i64 x.feed, .int .i64 x.msg] 37)).alloc (.cells #[.int .i64 0, .int .i64 0, .int .i64 0, .int .i64 0, .int .i64 0, .int .i64 0] 30)).alloc (.cells #[.int .i64 s.level, .int .i64 s.position, .int .i64 s.p1, .int .i64 x.feed, .int .i64 x.msg, .int .i64 0] 30)) := ((((((Below.refl _ _).alloc (by simp <;> omega) _).alloc (by simp <;> omega) _).alloc (by simp <;> omega) _).alloc (by simp <;> omega) _).alloc (by simp <;> omega) _).alloc (by simp <;> omega) _
  refine (rrun_at (r := ⟨s.level, s.position, x.msg, 0, s.p0⟩) hR (hC.out.later hB)).mono ?_
  rintro e w1 ⟨rfl, hb⟩
  have P := (((((((Box.newAt (n := w.heap.size) [.int .i64 p.top, .int .i64 p.bank, .int .i64 p.siphon, .int .i64 p.start, .int .i64 p.positions, .int .i64 p.rate, .int .i64 p.step, .int .i64 p.pass, .int .i64 p.feed, .int .i64 2, .int .i64 p.orders, .int .i64 p.age] 23 (by simp)).alloc _).alloc _).alloc _).alloc _).alloc _)).later hb
  have S := (((((Box.newAt (n := w.heap.size + 1 + 1) [.int .i64 s.level, .int .i64 s.position, .int .i64 s.p0, .int .i64 s.p1, .int .i64 s.order, .int .i64 s.age] 30 (by simp)).alloc _).alloc _).alloc _)).later hb
  have R := (((Box.newAt (n := w.heap.size + 1 + 1 + 1 + 1) [.int .i64 0, .int .i64 0, .int .i64 0, .int .i64 0, .int .i64 0, .int .i64 0] 30 (by simp)).alloc _)).later hb
  have N := ((Box.newAt (n := w.heap.size + 1 + 1 + 1 + 1 + 1) [.int .i64 s.level, .int .i64 s.position, .int .i64 s.p1, .int .i64 x.feed, .int .i64 x.msg, .int .i64 0] 30 (by simp))).later hb
  have hB := hB.trans (hb.mono hB.size)
  clear hb
  obtain ⟨Pc0, Pc1, Pc2, Pc3, Pc4, Pc5, Pc6, Pc7, Pc8, Pc9, Pc10, Pc11⟩ := P.c12
  obtain ⟨Sc0, Sc1, Sc2, Sc3, Sc4, Sc5⟩ := S.c6
  obtain ⟨Rc0, Rf0, Rc1, Rf1, Rc2, Rf2, Rc3, Rf3, Rc4, Rf4, Rc5, Rf5⟩ := R.f6
  have Rz : w.heap.size + 1 + 1 + 1 + 1 < w1.heap.size := R.lt
  obtain ⟨Nc0, Nf0, Nc1, Nf1, Nc2, Nf2, Nc3, Nf3, Nc4, Nf4, Nc5, Nf5⟩ := N.f6
  have Nz : w.heap.size + 1 + 1 + 1 + 1 + 1 < w1.heap.size := N.lt
  go_wp2_with fail
  have hY := (((((((R.other (a := ⟨w.heap.size + 1 + 1 + 1 + 1 + 1, 0, none⟩) (by simp <;> omega) (.int .i64 (min p.top (s.level + s.p0 - min (s.level + s.p0) (p.rate * s.position))))).set 0 (.int .i64 (min p.top (s.level + s.p0 - min (s.level + s.p0) (p.rate * s.position))))).set 1 (.int .i64 (s.position))).set 2 (.int .i64 (s.p1))).set 3 (.int .i64 (x.feed))).set 4 (.int .i64 (x.msg))).set 5 (.int .i64 (0)))
  have hB := (((((((hB.setCell (p := ⟨w.heap.size + 1 + 1 + 1 + 1 + 1, 0, none⟩) (by simp <;> omega) (.int .i64 (min p.top (s.level + s.p0 - min (s.level + s.p0) (p.rate * s.position))))).setCell (p := ⟨w.heap.size + 1 + 1 + 1 + 1, 0, none⟩) (by simp <;> omega) (.int .i64 (min p.top (s.level + s.p0 - min (s.level + s.p0) (p.rate * s.position))))).setCell (p := ⟨w.heap.size + 1 + 1 + 1 + 1, 1, none⟩) (by simp <;> omega) (.int .i64 (s.position))).setCell (p := ⟨w.heap.size + 1 + 1 + 1 + 1, 2, none⟩) (by simp <;> omega) (.int .i64 (s.p1))).setCell (p := ⟨w.heap.size + 1 + 1 + 1 + 1, 3, none⟩) (by simp <;> omega) (.int .i64 (x.feed))).setCell (p := ⟨w.heap.size + 1 + 1 + 1 + 1, 4, none⟩) (by simp <;> omega) (.int .i64 (x.msg))).setCell (p := ⟨w.heap.size + 1 + 1 + 1 + 1, 5, none⟩) (by simp <;> omega) (.int .i64 (0)))
  generalize (((((((w1.setCell ⟨w.heap.size + 1 + 1 + 1 + 1 + 1, 0, none⟩ (.int .i64 (min p.top (s.level + s.p0 - min (s.level + s.p0) (p.rate * s.position))))).setCell ⟨w.heap.size + 1 + 1 + 1 + 1, 0, none⟩ (.int .i64 (min p.top (s.level + s.p0 - min (s.level + s.p0) (p.rate * s.position))))).setCell ⟨w.heap.size + 1 + 1 + 1 + 1, 1, none⟩ (.int .i64 (s.position))).setCell ⟨w.heap.size + 1 + 1 + 1 + 1, 2, none⟩ (.int .i64 (s.p1))).setCell ⟨w.heap.size + 1 + 1 + 1 + 1, 3, none⟩ (.int .i64 (x.feed))).setCell ⟨w.heap.size + 1 + 1 + 1 + 1, 4, none⟩ (.int .i64 (x.msg))).setCell ⟨w.heap.size + 1 + 1 + 1 + 1, 5, none⟩ (.int .i64 (0))) = W at hY hB ⊢
  obtain ⟨y0, y1, y2, y3, y4, y5⟩ := hY.c6
  clear Pc0 Sc0 hY
  refine bodyPost_ret (v := .tuple #[.agg #[.int .i64 (min p.top (s.level + s.p0 - min (s.level + s.p0) (p.rate * s.position))), .int .i64 s.position, .int .i64 s.p1, .int .i64 x.feed, .int .i64 x.msg, .int .i64 0], .int .i64 (min (s.level + s.p0) (p.rate * s.position))]) (by simp [results, Try.results79, go_sem, y0, y1, y2, y3, y4, y5]) rfl ?_
  exact ⟨rfl, hB⟩
theorem rstep_121 (p : Pl) (code : List Ln) (V : Value) (s : St) (x : Sh) (w : World) (hC : Hid (CodeAt w w.heap.size V code)) (S : Small p s x) (g : Int)
    (hp : p.pipe = 2) (hm : 0 ≤ x.msg) (hR : Hid (runT code ⟨s.level, s.position, x.msg, 0, s.p0⟩ = (g, true, 0))) (hg : 0 ≤ g ∧ g ≤ 1099511627776) :
    Calls Try.prog 79 #[p.v, .agg #[V], s.v, x.v] w fun e w' => e = .returned (.tuple #[.agg #[.int .i64 (min p.top (s.level + s.p0 - min (s.level + s.p0) (p.rate * (max (s.position - p.step) (min (s.position + p.step) (min g p.positions)))))), .int .i64 (max (s.position - p.step) (min (s.position + p.step) (min g p.positions))), .int .i64 s.p1, .int .i64 x.feed, .int .i64 x.msg, .int .i64 0], .int .i64 (min (s.level + s.p0) (p.rate * (max (s.position - p.step) (min (s.position + p.step) (min g p.positions)))))]) ∧ Below w.heap.size w w' := by
  obtain ⟨⟨_, _⟩, ⟨_, _⟩, ⟨_, _⟩, ⟨_, _⟩, ⟨_, _⟩, ⟨_, _⟩, ⟨_, _⟩, ⟨_, _⟩, ⟨_, _⟩, ⟨_, _⟩, ⟨_, _⟩⟩ := S
  obtain ⟨_, _⟩ := hg
  have hM2 := mul_le4 (a := p.rate) (b := max (s.position - p.step) (min (s.position + p.step) (min g p.positions))) (A := 15) (B := 15) (by omega) (by omega)
  obtain ⟨_, _⟩ := hM2
  go_enter Try.func79, Try.ntmps79
  go_wp2_with fail
  have hB : Below w.heap.size w ((((((w.alloc (.cells #[.int .i64 p.top, .int .i64 p.bank, .int .i64 p.siphon, .int .i64 p.start, .int .i64 p.positions, .int .i64 p.rate, .int .i64 p.step, .int .i64 p.pass, .int .i64 p.feed, .int .i64 2, .int .i64 p.orders, .int .i64 p.age] 23)).alloc (.cells #[V] 26)).alloc (.cells #[.int .i64 s.level, .int .i64 s.position, .int .i64 s.p0, .int .i64 s.p1, .int .i64 s.order, .int .i64 s.age] 30)).alloc (.cells #[.int .i64 x.feed, .int .i64 x.msg] 37)).alloc (.cells #[.int .i64 0, .int .i64 0, .int .i64 0, .int .i64 0, .int .i64 0, .int .i64 0] 30)).alloc (.cells #[.int .i64 s.level, .int .i64 s.position, .int .i64 s.p1, .int .i64 x.feed, .int .i64 x.msg, .int .i64 0] 30)) := ((((((Below.refl _ _).alloc (by simp <;> omega) _).alloc (by simp <;> omega) _).alloc (by simp <;> omega) _).alloc (by simp <;> omega) _).alloc (by simp <;> omega) _).alloc (by simp <;> omega) _
  refine (rrun_at (r := ⟨s.level, s.position, x.msg, 0, s.p0⟩) hR (hC.out.later hB)).mono ?_
  rintro e w1 ⟨rfl, hb⟩
  have P := (((((((Box.newAt (n := w.heap.size) [.int .i64 p.top, .int .i64 p.bank, .int .i64 p.siphon, .int .i64 p.start, .int .i64 p.positions, .int .i64 p.rate, .int .i64 p.step, .int .i64 p.pass, .int .i64 p.feed, .int .i64 2, .int .i64 p.orders, .int .i64 p.age] 23 (by simp)).alloc _).alloc _).alloc _).alloc _).alloc _)).later hb
  have S := (((((Box.newAt (n := w.heap.size + 1 + 1) [.int .i64 s.level, .int .i64 s.position, .int .i64 s.p0, .int .i64 s.p1, .int .i64 s.order, .int .i64 s.age] 30 (by simp)).alloc _).alloc _).alloc _)).later hb
  have R := (((Box.newAt (n := w.heap.size + 1 + 1 + 1 + 1) [.int .i64 0, .int .i64 0, .int .i64 0, .int .i64 0, .int .i64 0, .int .i64 0] 30 (by simp)).alloc _)).later hb
  have N := ((Box.newAt (n := w.heap.size + 1 + 1 + 1 + 1 + 1) [.int .i64 s.level, .int .i64 s.position, .int .i64 s.p1, .int .i64 x.feed, .int .i64 x.msg, .int .i64 0] 30 (by simp))).later hb
  have hB := hB.trans (hb.mono hB.size)
  clear hb
  obtain ⟨Pc0, Pc1, Pc2, Pc3, Pc4, Pc5, Pc6, Pc7, Pc8, Pc9, Pc10, Pc11⟩ := P.c12
  obtain ⟨Sc0, Sc1, Sc2, Sc3, Sc4, Sc5⟩ := S.c6
  obtain ⟨Rc0, Rf0, Rc1, Rf1, Rc2, Rf2, Rc3, Rf3, Rc4, Rf4, Rc5, Rf5⟩ := R.f6
  have Rz : w.heap.size + 1 + 1 + 1 + 1 < w1.heap.size := R.lt
  obtain ⟨Nc0, Nf0, Nc1, Nf1, Nc2, Nf2, Nc3, Nf3, Nc4, Nf4, Nc5, Nf5⟩ := N.f6
  have Nz : w.heap.size + 1 + 1 + 1 + 1 + 1 < w1.heap.size := N.lt
  go_wp2_with fail
  have hY := ((((((((R.other (a := ⟨w.heap.size + 1 + 1 + 1 + 1 + 1, 1, none⟩) (by simp <;> omega) (.int .i64 (max (s.position - p.step) (min (s.position + p.step) (min g p.positions))))).other (a := ⟨w.heap.size + 1 + 1 + 1 + 1 + 1, 0, none⟩) (by simp <;> omega) (.int .i64 (min p.top (s.level + s.p0 - min (s.level + s.p0) (p.rate * (max (s.position - p.step) (min (s.position + p.step) (min g p.positions)))))))).set 0 (.int .i64 (min p.top (s.level + s.p0 - min (s.level + s.p0) (p.rate * (max (s.position - p.step) (min (s.position + p.step) (min g p.positions)))))))).set 1 (.int .i64 (max (s.position - p.step) (min (s.position + p.step) (min g p.positions))))).set 2 (.int .i64 (s.p1))).set 3 (.int .i64 (x.feed))).set 4 (.int .i64 (x.msg))).set 5 (.int .i64 (0)))
  have hB := ((((((((hB.setCell (p := ⟨w.heap.size + 1 + 1 + 1 + 1 + 1, 1, none⟩) (by simp <;> omega) (.int .i64 (max (s.position - p.step) (min (s.position + p.step) (min g p.positions))))).setCell (p := ⟨w.heap.size + 1 + 1 + 1 + 1 + 1, 0, none⟩) (by simp <;> omega) (.int .i64 (min p.top (s.level + s.p0 - min (s.level + s.p0) (p.rate * (max (s.position - p.step) (min (s.position + p.step) (min g p.positions)))))))).setCell (p := ⟨w.heap.size + 1 + 1 + 1 + 1, 0, none⟩) (by simp <;> omega) (.int .i64 (min p.top (s.level + s.p0 - min (s.level + s.p0) (p.rate * (max (s.position - p.step) (min (s.position + p.step) (min g p.positions)))))))).setCell (p := ⟨w.heap.size + 1 + 1 + 1 + 1, 1, none⟩) (by simp <;> omega) (.int .i64 (max (s.position - p.step) (min (s.position + p.step) (min g p.positions))))).setCell (p := ⟨w.heap.size + 1 + 1 + 1 + 1, 2, none⟩) (by simp <;> omega) (.int .i64 (s.p1))).setCell (p := ⟨w.heap.size + 1 + 1 + 1 + 1, 3, none⟩) (by simp <;> omega) (.int .i64 (x.feed))).setCell (p := ⟨w.heap.size + 1 + 1 + 1 + 1, 4, none⟩) (by simp <;> omega) (.int .i64 (x.msg))).setCell (p := ⟨w.heap.size + 1 + 1 + 1 + 1, 5, none⟩) (by simp <;> omega) (.int .i64 (0)))
  generalize ((((((((w1.setCell ⟨w.heap.size + 1 + 1 + 1 + 1 + 1, 1, none⟩ (.int .i64 (max (s.position - p.step) (min (s.position + p.step) (min g p.positions))))).setCell ⟨w.heap.size + 1 + 1 + 1 + 1 + 1, 0, none⟩ (.int .i64 (min p.top (s.level + s.p0 - min (s.level + s.p0) (p.rate * (max (s.position - p.step) (min (s.position + p.step) (min g p.positions)))))))).setCell ⟨w.heap.size + 1 + 1 + 1 + 1, 0, none⟩ (.int .i64 (min p.top (s.level + s.p0 - min (s.level + s.p0) (p.rate * (max (s.position - p.step) (min (s.position + p.step) (min g p.positions)))))))).setCell ⟨w.heap.size + 1 + 1 + 1 + 1, 1, none⟩ (.int .i64 (max (s.position - p.step) (min (s.position + p.step) (min g p.positions))))).setCell ⟨w.heap.size + 1 + 1 + 1 + 1, 2, none⟩ (.int .i64 (s.p1))).setCell ⟨w.heap.size + 1 + 1 + 1 + 1, 3, none⟩ (.int .i64 (x.feed))).setCell ⟨w.heap.size + 1 + 1 + 1 + 1, 4, none⟩ (.int .i64 (x.msg))).setCell ⟨w.heap.size + 1 + 1 + 1 + 1, 5, none⟩ (.int .i64 (0))) = W at hY hB ⊢
  obtain ⟨y0, y1, y2, y3, y4, y5⟩ := hY.c6
  clear Pc0 Sc0 hY
  refine bodyPost_ret (v := .tuple #[.agg #[.int .i64 (min p.top (s.level + s.p0 - min (s.level + s.p0) (p.rate * (max (s.position - p.step) (min (s.position + p.step) (min g p.positions)))))), .int .i64 (max (s.position - p.step) (min (s.position + p.step) (min g p.positions))), .int .i64 s.p1, .int .i64 x.feed, .int .i64 x.msg, .int .i64 0], .int .i64 (min (s.level + s.p0) (p.rate * (max (s.position - p.step) (min (s.position + p.step) (min g p.positions)))))]) (by simp [results, Try.results79, go_sem, y0, y1, y2, y3, y4, y5]) rfl ?_
  exact ⟨rfl, hB⟩
end Go.Proofs.Ytancngachnpefaa
