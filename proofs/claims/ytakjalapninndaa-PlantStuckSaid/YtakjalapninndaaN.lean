/-
  Contract of Run of gatecode. No condition.
-/
import Derived.Test.YtakjalapninndaaM
import Derived.Test.YtakjalapninndaaJ
import Derived.Deep.RegionHeld3
import Derived.StillTailTactics
namespace Go.Proofs.Ytakjalapninndaa
open Go.RowKit Go.Shelf
attribute [local go_sem] Oper.semAt_some

theorem gcheck_at {code : List Ln} {v : Value} {w : World} {c : Int} (h : Hid (gateT code = c)) (hC : CodeAt w w.heap.size v code) : Calls Try.prog 31 #[.agg #[v]] w fun e w' => e = .returned (.int .i64 c) ∧ Below w.heap.size w w' :=
  (gcheck_any code v w hC).mono fun _ _ ⟨he, hb⟩ => ⟨by rw [he, h.out], hb⟩
theorem box_own {β : Type} (b : Nat) (xs : List Value) : Own (fun (_ : β) W => Box W b xs) := by
  rintro s X Y row ⟨t, ht⟩ hg hrow
  refine ⟨t, (hg.block b (Array.getElem?_eq_some_iff.1 ht).1 (fun e => ?_)).trans ht⟩
  obtain ⟨o, ho, hc⟩ := hrow b e.symm
  rw [ht] at ho; cases ho; cases hc
theorem Box.put {w : World} {b l : Nat} {xs : List Value} (h : Box w b xs) (hne : b ≠ l) (o : Obj) : Box (w.putObj l o) b xs := by
  obtain ⟨t, ht⟩ := h
  exact ⟨t, (World.putObj_heap_other hne).trans ht⟩
theorem below_put {B D : Nat} {w w' : World} (h : Below B w w') (hD : B ≤ D) (o : Obj) : Below B w (w'.putObj D o) :=
  ⟨h.os, h.tape, h.output, by simpa using h.size, fun k hk => (World.putObj_heap_other (by omega)).trans (h.block k hk)⟩
theorem calls_of_wp_marks {P : Program} {f : FuncId} {fn : Func} {c : Code} {args : Array Value} {w : World} {R : Ending → World → Prop} (hf : P.funcs[f]? = some fn) (hb : fn.body = some c)
    (h : c.wp P (bodyPostM Fence.wide 6 P fn R) { tmps := args ++ Array.replicate (fn.ntmps - args.size) undef, defers := [] } w) : Calls P f args w R :=
  callsIn_wide.1 (callsIn_of_wp_marks (n := 6) hf hb trivial (wpIn_wide.2 h) rfl)
theorem firstT_held {code : List Ln} {r : Vr} (h : heldL code r = []) : firstT code r = (0, false) := by
  refine first_none (List.all_eq_true.2 fun x hx => ?_)
  simp only [heldL, List.map_eq_nil_iff, List.filter_eq_nil_iff] at h
  simpa using h x hx
theorem firstT_head {code : List Ln} {r : Vr} {s : Int} (h : [s] <+: heldL code r) : firstT code r = (s, true) := by
  unfold firstT
  unfold heldL at h
  obtain ⟨t, ht⟩ := h
  rw [← List.head?_filter]
  rcases hf : code.filter (·.holdsB r) with _ | ⟨l, ls⟩
  · rw [hf] at ht; simp at ht
  · rw [hf] at ht
    simp only [List.map_cons, List.cons_append, List.nil_append, List.cons.injEq] at ht
    rw [hf, List.head?_cons, ht.1]

set_option maxRecDepth 100000 in
set_option maxHeartbeats 2000000 in
theorem run_bad (code : List Ln) (v : Value) (r : Vr) (w : World) (hC : Hid (CodeAt w w.heap.size v code)) (h : Hid (gateT code = 310)) :
    Calls Try.prog 40 #[.agg #[v], r.v] w fun e w' => e = .returned (.tuple #[.int .i64 0, .bool false, .int .i64 310]) ∧ Below w.heap.size w w' := by
  refine calls_of_wp_marks Try.func40 rfl ?_
  simp only [Try.ntmps40, List.size_toArray, List.length_cons, List.length_nil, Nat.reduceAdd, Nat.reduceSub, Array.replicate_succ, Array.replicate_zero, List.push_toArray, List.append_toArray, List.nil_append, List.cons_append]
  go_wp2_with fail
  have hB : Below w.heap.size w (((((w.alloc (.cells #[v] 39)).alloc (.cells #[.int .i64 r.v0, .int .i64 r.v1, .int .i64 r.v2, .int .i64 r.v3, .int .i64 r.v4] 75)).alloc (.cells #[.int .i64 0] 3)).alloc (.cells #[.bool false] 4)).alloc (.cells #[.int .i64 0] 28)) :=
    (((((Below.refl _ _).alloc (Nat.le_refl _) _).alloc (by simp) _).alloc (by simp; omega) _).alloc (by simp; omega) _).alloc (by simp; omega) _
  refine (gcheck_at h (hC.out.later hB)).mono ?_
  rintro e w1 ⟨rfl, hb⟩
  have X2 := (((Box.newAt (n := w.heap.size + 1 + 1) [.int .i64 0] 3 (by simp)).alloc _).alloc _).later hb
  have X3 := ((Box.newAt (n := w.heap.size + 1 + 1 + 1) [.bool false] 4 (by simp)).alloc _).later hb
  have X4 := (Box.newAt (n := w.heap.size + 1 + 1 + 1 + 1) [.int .i64 0] 28 (by simp)).later hb
  have hB := hB.trans (hb.mono hB.size)
  clear hb
  have c2 := X2.cell 0
  have f2 := X2.free 0
  have z2 := X2.lt
  have c3 := X3.cell 0
  have f3 := X3.free 0
  have z3 := X3.lt
  have c4 := X4.cell 0
  have f4 := X4.free 0
  have z4 := X4.lt
  simp only [List.getElem?_cons_zero] at c2 c3 c4
  go_wp2_with fail
  have Y4 := X4.set 0 (.int .i64 310)
  have hB5 := hB.setCell (p := ⟨w.heap.size + 1 + 1 + 1 + 1, 0, none⟩) (by simp <;> omega) (.int .i64 310)
  have Y3 := X3.other (a := ⟨w.heap.size + 1 + 1 + 1 + 1, 0, none⟩) (by simp <;> omega) (.int .i64 310)
  have Y2 := X2.other (a := ⟨w.heap.size + 1 + 1 + 1 + 1, 0, none⟩) (by simp <;> omega) (.int .i64 310)
  generalize w1.setCell ⟨w.heap.size + 1 + 1 + 1 + 1, 0, none⟩ (.int .i64 310) = W2 at Y2 Y3 Y4 hB5 ⊢
  clear c2 f2 z2 c3 f3 z3 c4 f4 z4 X2 X3 X4 hB
  have c2 := Y2.cell 0
  have f2 := Y2.free 0
  have z2 := Y2.lt
  have c3 := Y3.cell 0
  have f3 := Y3.free 0
  have z3 := Y3.lt
  have c4 := Y4.cell 0
  have f4 := Y4.free 0
  have z4 := Y4.lt
  simp only [List.getElem?_cons_zero, List.set_cons_zero] at c2 c3 c4
  go_region
  have Z2 := Y2.set 0 (.int .i64 0)
  have Z3 := (Y3.other (a := ⟨w.heap.size + 1 + 1, 0, none⟩) (by simp <;> omega) (.int .i64 0)).set 0 (.bool false)
  have Z4 := ((Y4.other (a := ⟨w.heap.size + 1 + 1, 0, none⟩) (by simp <;> omega) (.int .i64 0)).other (a := ⟨w.heap.size + 1 + 1 + 1, 0, none⟩) (by simp <;> omega) (.bool false)).set 0 (.int .i64 310)
  have Z2 := (Z2.other (a := ⟨w.heap.size + 1 + 1 + 1, 0, none⟩) (by simp <;> omega) (.bool false)).other (a := ⟨w.heap.size + 1 + 1 + 1 + 1, 0, none⟩) (by simp <;> omega) (.int .i64 310)
  have Z3 := Z3.other (a := ⟨w.heap.size + 1 + 1 + 1 + 1, 0, none⟩) (by simp <;> omega) (.int .i64 310)
  go_wp2
  have Z4 := Z4.cell 0
  have Z3 := Z3.cell 0
  have Z2 := Z2.cell 0
  simp only [List.getElem?_cons_zero, List.set_cons_zero] at Z2 Z3 Z4
  refine ⟨_, (by simp [results, Try.results40, go_sem, Z2, Z3, Z4] : _ = Result.ok (.tuple #[.int .i64 0, .bool false, .int .i64 310]) _), ?_⟩
  exact ⟨rfl, ((hB5.setCell (p := ⟨w.heap.size + 1 + 1, 0, none⟩) (by simp <;> omega) _).setCell (p := ⟨w.heap.size + 1 + 1 + 1, 0, none⟩) (by simp <;> omega) _).setCell (p := ⟨w.heap.size + 1 + 1 + 1 + 1, 0, none⟩) (by simp <;> omega) _ |>.drew⟩

set_option maxRecDepth 100000 in
set_option maxHeartbeats 2000000 in
theorem run_good (code : List Ln) (A : Option Addr) (c : Nat) (r : Vr) (w : World) (hC : Hid (CodeAt w w.heap.size (.slice A code.length c) code)) (h : Hid (gateT code = 0)) (hg : Hid (gateB code = true)) :
    Calls Try.prog 40 #[.agg #[.slice A code.length c], r.v] w fun e w' => e = .returned (.tuple #[.int .i64 (firstT code r).1, .bool (firstT code r).2, .int .i64 0]) ∧ Below w.heap.size w w' := by
  refine calls_of_wp_marks Try.func40 rfl ?_
  simp only [Try.ntmps40, List.size_toArray, List.length_cons, List.length_nil, Nat.reduceAdd, Nat.reduceSub, Array.replicate_succ, Array.replicate_zero, List.push_toArray, List.append_toArray, List.nil_append, List.cons_append]
  have hN := (gate_small hg.out).1
  obtain ⟨V, hV⟩ : ∃ V, Value.slice A code.length c = V := ⟨_, rfl⟩
  have hVe := Lib.hid hV
  rw [hV] at hC ⊢
  clear hV
  go_wp2_with fail
  have hB : Below w.heap.size w (((((w.alloc (.cells #[V] 39)).alloc (.cells #[.int .i64 r.v0, .int .i64 r.v1, .int .i64 r.v2, .int .i64 r.v3, .int .i64 r.v4] 75)).alloc (.cells #[.int .i64 0] 3)).alloc (.cells #[.bool false] 4)).alloc (.cells #[.int .i64 0] 28)) :=
    (((((Below.refl _ _).alloc (Nat.le_refl _) _).alloc (by simp) _).alloc (by simp; omega) _).alloc (by simp; omega) _).alloc (by simp; omega) _
  refine (gcheck_at h (hC.out.later hB)).mono ?_
  rintro e w1 ⟨rfl, hb⟩
  have X0 := (((((Box.newAt (n := w.heap.size) [V] 39 (by simp)).alloc _).alloc _).alloc _).alloc _).later hb
  have X1 := ((((Box.newAt (n := w.heap.size + 1) [.int .i64 r.v0, .int .i64 r.v1, .int .i64 r.v2, .int .i64 r.v3, .int .i64 r.v4] 75 (by simp)).alloc _).alloc _).alloc _).later hb
  have X2 := (((Box.newAt (n := w.heap.size + 1 + 1) [.int .i64 0] 3 (by simp)).alloc _).alloc _).later hb
  have X3 := ((Box.newAt (n := w.heap.size + 1 + 1 + 1) [.bool false] 4 (by simp)).alloc _).later hb
  have X4 := (Box.newAt (n := w.heap.size + 1 + 1 + 1 + 1) [.int .i64 0] 28 (by simp)).later hb
  have hB := hB.trans (hb.mono hB.size)
  clear hb
  have c0 : w1.cell? ⟨w.heap.size, 0, none⟩ = some V := X0.cell 0
  have x0 : w1.cell? ⟨w.heap.size + 1, 0, none⟩ = some (.int .i64 r.v0) := X1.cell 0
  have x1 : w1.cell? ⟨w.heap.size + 1, 1, none⟩ = some (.int .i64 r.v1) := X1.cell 1
  have x2 : w1.cell? ⟨w.heap.size + 1, 2, none⟩ = some (.int .i64 r.v2) := X1.cell 2
  have x3 : w1.cell? ⟨w.heap.size + 1, 3, none⟩ = some (.int .i64 r.v3) := X1.cell 3
  have x4 : w1.cell? ⟨w.heap.size + 1, 4, none⟩ = some (.int .i64 r.v4) := X1.cell 4
  have c4 : w1.cell? ⟨w.heap.size + 1 + 1 + 1 + 1, 0, none⟩ = some (.int .i64 0) := X4.cell 0
  have f4 := X4.free 0
  have z4 := X4.lt
  go_wp2_with fail
  have Y4 := X4.set 0 (.int .i64 0)
  have hB := hB.setCell (p := ⟨w.heap.size + 1 + 1 + 1 + 1, 0, none⟩) (by simp <;> omega) (.int .i64 0)
  have Y3 := X3.other (a := ⟨w.heap.size + 1 + 1 + 1 + 1, 0, none⟩) (by simp <;> omega) (.int .i64 0)
  have Y2 := X2.other (a := ⟨w.heap.size + 1 + 1 + 1 + 1, 0, none⟩) (by simp <;> omega) (.int .i64 0)
  clear c0 x0 x1 x2 x3 x4 c4 f4 z4 X0 X1 X2 X3 X4
  generalize w1.setCell ⟨w.heap.size + 1 + 1 + 1 + 1, 0, none⟩ (.int .i64 0) = W2 at Y2 Y3 Y4 hB ⊢
  refine (holding_any _ r _).mono ?_
  rintro e W0 ⟨Bo, rfl, P0, PO, P1, hBo, hb⟩
  have X2 := Y2.later hb
  have X3 := Y3.later hb
  have X4 := Y4.later hb
  have hlt := Lib.hid Y4.lt
  have hs := hB.size
  have hB := hB.trans (hb.mono hs)
  have hC' := (hC.out.below hB).more hB.size
  have HW := Lib.hid hb.size
  generalize W2.heap.size = D0 at *
  clear hb hC Y2 Y3 Y4
  simp only [List.set_cons_zero] at X4
  go_wp2_with fail
  refine wpIn_wide.1 (wpIn_rangeFunc_ownH (n := 6) rfl (by omega) (gf := 45) (lb := #[.pointer (some ⟨D0, 0, none⟩), .pointer (some ⟨Bo, 0, none⟩), .pointer (some ⟨D0 + 1, 0, none⟩)]) rfl trivial (enters_of Try.func45 (by kernel_rfl) rfl)
    (hold_stops 5 64 code A c r D0 Bo (D0 + 1) W0 (hVe.out ▸ hC') hg (hVe.out ▸ P0) PO P1 hN) belowK_t (belowK_b (Nat.le_refl _)) (Below.refl _ _) (fun _ => rfl)
    (fun pre W => pre = [] ∧ Box W (w.heap.size + 1 + 1) [.int .i64 0] ∧ Box W (w.heap.size + 1 + 1 + 1) [.bool false] ∧ Box W (w.heap.size + 1 + 1 + 1 + 1) [.int .i64 0] ∧ Below w.heap.size w W ∧ W0.heap.size ≤ W.heap.size)
    (fun cc pre W => cc = .ret ∧ ∃ (U : Option Addr × Nat × Nat) (s : Int), pre = [(U, s)] ∧ Box W (w.heap.size + 1 + 1) [.int .i64 s] ∧ Box W (w.heap.size + 1 + 1 + 1) [.bool true] ∧ Box W (w.heap.size + 1 + 1 + 1 + 1) [.int .i64 0] ∧ Below w.heap.size w W)
    ?hI ?hIx ?h0
    (fun x a' W => ∃ D, W0.heap.size ≤ D ∧ Box W D [.slice x.1.1 x.1.2.1 x.1.2.2, .int .i64 x.2] ∧ a' = { tmps := #[.agg #[V], r.v, .pointer (some ⟨w.heap.size, 0, none⟩), .pointer (some ⟨w.heap.size + 1, 0, none⟩), .pointer (some ⟨w.heap.size + 1 + 1, 0, none⟩), .pointer (some ⟨w.heap.size + 1 + 1 + 1, 0, none⟩), .pointer (some ⟨w.heap.size + 1 + 1 + 1 + 1, 0, none⟩), .pointer (some ⟨D, 0, none⟩), .agg #[V], .int .i64 0, .int .i64 0, .bool false, undef, .agg #[V], r.v, .func (.func 45) #[] #[.pointer (some ⟨D0, 0, none⟩), .pointer (some ⟨Bo, 0, none⟩), .pointer (some ⟨D0 + 1, 0, none⟩)], .agg #[.slice x.1.1 x.1.2.1 x.1.2.2, .int .i64 x.2], undef, undef], defers := [] })
    ?hAx ?assign ?body ?done ?stop)
  case hI =>
    exact OwnFrom.and (fun _ _ _ _ hs _ _ => hs) (OwnFrom.and ((box_own _ _).from _) (OwnFrom.and ((box_own _ _).from _) (OwnFrom.and ((box_own _ _).from _) (OwnFrom.and (ownFrom_below (Nat.le_refl _) hB.size) (fun _ _ _ _ hs hg _ => Nat.le_trans hs hg.size)))))
  case hIx =>
    rintro cc pre X Y row ⟨rfl, U, s, rfl, b2, b3, b4, hb⟩ hg hr
    have hr' : ∀ k, row = some k → ∃ o : Obj, X.heap[k]? = some o ∧ o.isCells = false := fun k e => (hr k e).2
    exact ⟨rfl, U, s, rfl, box_own (β := Unit) _ _ () X Y row b2 hg hr', box_own (β := Unit) _ _ () X Y row b3 hg hr', box_own (β := Unit) _ _ () X Y row b4 hg hr',
      (ownFrom_below (β := Unit) (Nat.le_refl _) hB.size) () X Y row hb hg hr⟩
  case h0 => exact ⟨rfl, X2, X3, X4, hB, Nat.le_refl _⟩
  case hAx =>
    rintro x a' _ X Y row ⟨D, hD, hb, rfl⟩ hg hr
    exact ⟨D, hD, box_own (β := Unit) _ _ () X Y row hb hg (fun k e => (hr k e).2), rfl⟩
  case assign =>
    rintro l pre x W K ⟨rfl, b2, b3, b4, hb, hle⟩ hK
    gi_wp2
    exact hK _ _ ((KeepsOthers.alloc _ _).from _) ((Below.refl _ W).alloc hle _) ⟨trivial, b2.alloc _, b3.alloc _, b4.alloc _, hb.alloc hb.size _, by simp; omega⟩ ⟨W.heap.size, hle, Box.new W [.slice x.1.1 x.1.2.1 x.1.2.2, .int .i64 x.2] _, rfl⟩
  case body =>
    rintro l pre x a' W hl _ ⟨rfl, b2, b3, b4, hb, hle⟩ ⟨D, hD, bD, rfl⟩ hlen
    have d1 : W.cell? ⟨D, 1, none⟩ = some (.int .i64 x.2) := bD.cell 1
    have c2 := b2.cell 0
    have f2 := b2.free 0
    have z2 := b2.lt
    have c3 := b3.cell 0
    have f3 := b3.free 0
    have z3 := b3.lt
    have c4 := b4.cell 0
    have f4 := b4.free 0
    have z4 := b4.lt
    simp only [List.getElem?_cons_zero] at c2 c3 c4
    gi_wp2
    refine ⟨(((KeepsOthers.setCell _ _ _).trans (KeepsOthers.setCell _ _ _)).trans (KeepsOthers.setCell _ _ _)).from _, rfl, x.1, x.2, by simp,
      ((b2.set 0 _).other (by simp <;> omega) _).other (by simp <;> omega) _, ((b3.other (by simp <;> omega) _).set 0 _).other (by simp <;> omega) _, ((b4.other (by simp <;> omega) _).other (by simp <;> omega) _).set 0 _,
      ((hb.setCell (by simp <;> omega) _).setCell (by simp <;> omega) _).setCell (by simp <;> omega) _⟩
  case done =>
    rintro D xs W hD hS ⟨rfl, b2, b3, b4, hb, hle⟩ hK
    have hF := Lib.hid (firstT_held (by simpa using hS.symm))
    have hlt := hlt.out
    have hWle := HW.out
    have c2 := b2.cell 0
    have f2 := b2.free 0
    have z2 := b2.lt
    have c3 := b3.cell 0
    have f3 := b3.free 0
    have z3 := b3.lt
    have c4 := b4.cell 0
    have f4 := b4.free 0
    have z4 := b4.lt
    simp only [List.getElem?_cons_zero] at c2 c3 c4
    clear hS
    go_wp2
    have hKf := ((Below.heap_setCell _ ⟨w.heap.size + 1 + 1 + 1 + 1, 0, none⟩ (.int .i64 0) D (by simp <;> omega)).trans ((Below.heap_setCell _ ⟨w.heap.size + 1 + 1 + 1, 0, none⟩ (.bool false) D (by simp <;> omega)).trans ((Below.heap_setCell W ⟨w.heap.size + 1 + 1, 0, none⟩ (.int .i64 0) D (by simp <;> omega)).trans hK)))
    refine ⟨by simp, .inl ⟨_, _, rfl, run_takeDeferred hKf, ?_⟩⟩
    have e2 := ((((b2.set 0 (.int .i64 0)).other (a := ⟨w.heap.size + 1 + 1 + 1, 0, none⟩) (by simp <;> omega) (.bool false)).other (a := ⟨w.heap.size + 1 + 1 + 1 + 1, 0, none⟩) (by simp <;> omega) (.int .i64 0)).put (l := D) (by omega) (.deferred none)).cell 0
    have e3 := ((((b3.other (a := ⟨w.heap.size + 1 + 1, 0, none⟩) (by simp <;> omega) (.int .i64 0)).set 0 (.bool false)).other (a := ⟨w.heap.size + 1 + 1 + 1 + 1, 0, none⟩) (by simp <;> omega) (.int .i64 0)).put (l := D) (by omega) (.deferred none)).cell 0
    have e4 := ((((b4.other (a := ⟨w.heap.size + 1 + 1, 0, none⟩) (by simp <;> omega) (.int .i64 0)).other (a := ⟨w.heap.size + 1 + 1 + 1, 0, none⟩) (by simp <;> omega) (.bool false)).set 0 (.int .i64 0)).put (l := D) (by omega) (.deferred none)).cell 0
    simp only [List.getElem?_cons_zero, List.set_cons_zero] at e2 e3 e4
    refine ⟨_, (by simp [results, Try.results40, go_sem, e2, e3, e4] : _ = Result.ok (.tuple #[.int .i64 0, .bool false, .int .i64 0]) _), ?_⟩
    refine ⟨by rw [hF.out], below_put (((hb.setCell (by simp <;> omega) _).setCell (by simp <;> omega) _).setCell (by simp <;> omega) _) (Nat.le_trans hB.size hD) _⟩
  case stop =>
    rintro D cc pre W hD hpre ⟨rfl, U, s, rfl, b2, b3, b4, hb⟩ hK
    have hF := Lib.hid (firstT_head (by simpa using hpre))
    have hlt := hlt.out
    have hWle := HW.out
    refine wpIn_wide.2 ?_
    clear hpre
    go_wp2
    refine ⟨by simp, .inl ⟨_, _, rfl, run_takeDeferred hK, ?_⟩⟩
    have e2 := (b2.put (l := D) (by omega) (.deferred none)).cell 0
    have e3 := (b3.put (l := D) (by omega) (.deferred none)).cell 0
    have e4 := (b4.put (l := D) (by omega) (.deferred none)).cell 0
    simp only [List.getElem?_cons_zero] at e2 e3 e4
    refine ⟨_, (by simp [results, Try.results40, go_sem, e2, e3, e4] : _ = Result.ok (.tuple #[.int .i64 s, .bool true, .int .i64 0]) _), ?_⟩
    exact ⟨by rw [hF.out], below_put hb (Nat.le_trans hB.size hD) _⟩

theorem run_any (code : List Ln) (v : Value) (r : Vr) (w : World) (hC : CodeAt w w.heap.size v code) :
    Calls Try.prog 40 #[.agg #[v], r.v] w fun e w' => e = .returned (.tuple #[.int .i64 (runT code r).1, .bool (runT code r).2.1, .int .i64 (runT code r).2.2]) ∧ Below w.heap.size w w' := by
  rcases h : gateB code with _ | _
  · have e : runT code r = (0, false, 310) := by rw [runT, if_neg (by rw [h]; decide)]
    rw [e]
    exact run_bad code v r w hC (by rw [Hid, gateT, if_neg (by rw [h]; decide)])
  · have e : runT code r = ((firstT code r).1, (firstT code r).2, 0) := by rw [runT, if_pos h]
    rw [e]
    obtain ⟨A, c, rfl, _⟩ := hC.form
    exact run_good code A c r w hC (by rw [Hid, gateT, if_pos h]) h

end Go.Proofs.Ytakjalapninndaa
