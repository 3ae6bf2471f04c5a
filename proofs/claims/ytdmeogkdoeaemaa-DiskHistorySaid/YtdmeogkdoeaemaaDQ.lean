/-
  Contract of Read of disk. (Printed by gen_dq.py.)
-/
import Derived.Test.YtdmeogkdoeaemaaDP
import Derived.StillTailTactics
namespace Go.Proofs.Ytdmeogkdoeaemaa
open Go.RowKit Go.Shelf
attribute [local go_sem] Oper.semAt_some

/-- A result that is bytes and an error. -/
def RetBs (t : Bs × Int) (S : Nat → Prop) (w : World) (e : Ending) (w' : World) : Prop := ∃ (V : Value) (b : Bs) (er : Int), e = .returned (.tuple #[V, .int .i64 er]) ∧ Hid (t = (b, er)) ∧ Hid (BsAt w' (Grow S w) V b) ∧ Below w.heap.size w w'
theorem BsAt.back {w W : World} {S : Nat → Prop} {v : Value} {l : Bs} (h : BsAt W (Old S w) v l) (hb : Below w.heap.size w W) : BsAt w S v l := by
  obtain ⟨hf, A, c, e1, e2, e3⟩ := h
  refine ⟨hf, A, c, e1, e2, fun i hi => ?_⟩
  obtain ⟨b, off, h1, h2, _, h4⟩ := e3 i hi
  exact ⟨b, off, h1, h2.1, h2.2, fun j hj => (hb.cell (p := ⟨b, _, none⟩) h2.2).symm.trans (h4 j hj)⟩
theorem box_own {β : Type} (b : Nat) (xs : List Value) : Own (fun (_ : β) W => Box W b xs) := by
  rintro s X Y row ⟨t, ht⟩ hg hrow
  refine ⟨t, (hg.block b (Array.getElem?_eq_some_iff.1 ht).1 (fun e => ?_)).trans ht⟩
  obtain ⟨o, ho, hc⟩ := hrow b e.symm
  rw [ht] at ho; cases ho; cases hc
theorem Box.put {w : World} {b l : Nat} {xs : List Value} (h : Box w b xs) (hne : b ≠ l) (o : Obj) : Box (w.putObj l o) b xs := by
  obtain ⟨t, ht⟩ := h
  exact ⟨t, (World.putObj_heap_other hne).trans ht⟩
theorem below_put {B D : Nat} {w w' : World} (h : Below B w w') (hD : B ≤ D) (o : Obj) : Below B w (w'.putObj D o) :=
  ⟨h.os, h.tape, h.output, by simpa using h.size, fun k hk => (World.putObj_heap_other (by omega)).trans (h.block k hk)⟩
theorem calls_of_wp_marks {P : Program} {f : FuncId} {fn : Func} {c : Code} {args : Array Value} {w : World} {R : Ending → World → Prop} (hf : P.funcs[f]? = some fn) (hb : fn.body = some c)
    (h : c.wp P (bodyPostM Fence.wide 6 P fn R) { tmps := args ++ Array.replicate (fn.ntmps - args.size) undef, defers := [] } w) : Calls P f args w R :=
  callsIn_wide.1 (callsIn_of_wp_marks (n := 6) hf hb trivial (wpIn_wide.2 h) rfl)

set_option maxRecDepth 100000 in
set_option maxHeartbeats 4000000 in
theorem dRead_1 (d : Dk) (As : Option Addr) (ns cs : Nat) (Ap : Option Addr) (np cp : Nat) (dl : Int) (ds : Bool) (S : Nat → Prop) (w : World) (hD : Hid (DkAt w S (.slice As ns cs) (.slice Ap np cp) d)) (hdl : Hid (d.left = dl)) (hds : Hid (d.stopped = ds)) (i : Int) (hr : Hid (d.runs = false)) (hs : Hid (readT d i = ([], 40))) : Calls Try.prog 21 #[.agg #[.slice As ns cs, .slice Ap np cp, .int .i64 dl, .bool ds], .int .i64 i] w (RetBs (readT d i) S w) := by
  have HB0 : Below w.heap.size w ((((w.alloc (.cells #[.slice As ns cs, .slice Ap np cp, .int .i64 dl, .bool ds] 25)).alloc (.cells #[.int .i64 i] 3)).alloc (.cells #[.slice none 0 0] 35)).alloc (.cells #[.int .i64 0] 28)) := (((((Below.refl w.heap.size w).alloc (by simp <;> omega) (.cells #[.slice As ns cs, .slice Ap np cp, .int .i64 dl, .bool ds] 25)).alloc (by simp <;> omega) (.cells #[.int .i64 i] 3)).alloc (by simp <;> omega) (.cells #[.slice none 0 0] 35)).alloc (by simp <;> omega) (.cells #[.int .i64 0] 28))
  have HD0 := Lib.hid (hD.out.keep (Keeps.of HB0))
  refine calls_of_wp_marks Try.func21 rfl ?_
  simp only [Try.ntmps21, List.size_toArray, List.length_cons, List.length_nil, Nat.reduceAdd, Nat.reduceSub, Array.replicate_succ, Array.replicate_zero, List.push_toArray, List.append_toArray, List.nil_append, List.cons_append]
  go_wp2_with fail
  refine (dRuns_at hr HD0.out hdl hds).mono ?_
  rintro e w1 ⟨rfl, hb⟩
  have X0 := (((((Box.newAt (n := w.heap.size) [.slice As ns cs, .slice Ap np cp, .int .i64 dl, .bool ds] 25 (by simp)).alloc _).alloc _).alloc _)).later hb
  have X1 := ((((Box.newAt (n := w.heap.size + 1) [.int .i64 i] 3 (by simp)).alloc _).alloc _)).later hb
  have X2 := (((Box.newAt (n := w.heap.size + 1 + 1) [.slice none 0 0] 35 (by simp)).alloc _)).later hb
  have X3 := ((Box.newAt (n := w.heap.size + 1 + 1 + 1) [.int .i64 0] 28 (by simp))).later hb
  have hB : Below w.heap.size w w1 := ((((((Below.refl w.heap.size w).alloc (by simp <;> omega) _).alloc (by simp <;> omega) _).alloc (by simp <;> omega) _).alloc (by simp <;> omega) _)).trans (hb.mono (by simp <;> omega))
  clear hb
  have X2c0 : w1.cell? ⟨w.heap.size + 1 + 1, 0, none⟩ = some (.slice none 0 0) := X2.cell 0
  have X2f0 : w1.frozen? ⟨w.heap.size + 1 + 1, 0, none⟩ = false := X2.free 0
  have X2z : w.heap.size + 1 + 1 < w1.heap.size := X2.lt
  have X3c0 : w1.cell? ⟨w.heap.size + 1 + 1 + 1, 0, none⟩ = some (.int .i64 0) := X3.cell 0
  have X3f0 : w1.frozen? ⟨w.heap.size + 1 + 1 + 1, 0, none⟩ = false := X3.free 0
  have X3z : w.heap.size + 1 + 1 + 1 < w1.heap.size := X3.lt
  go_wp2
  have Y2 := (X2.set 0 (.slice none 0 0)).other (a := ⟨w.heap.size + 1 + 1 + 1, 0, none⟩) (by simp <;> omega) (.int .i64 40)
  have Y3 := (X3.other (a := ⟨w.heap.size + 1 + 1, 0, none⟩) (by simp <;> omega) (.slice none 0 0)).set 0 (.int .i64 40)
  have HB := (hB.setCell (p := ⟨w.heap.size + 1 + 1, 0, none⟩) (by simp <;> omega) (.slice none 0 0)).setCell (p := ⟨w.heap.size + 1 + 1 + 1, 0, none⟩) (by simp <;> omega) (.int .i64 40)
  generalize (w1.setCell ⟨w.heap.size + 1 + 1, 0, none⟩ (.slice none 0 0)).setCell ⟨w.heap.size + 1 + 1 + 1, 0, none⟩ (.int .i64 40) = W at Y2 Y3 HB ⊢
  have z2 : W.cell? ⟨w.heap.size + 1 + 1, 0, none⟩ = some (.slice none 0 0) := Y2.cell 0
  have z3 : W.cell? ⟨w.heap.size + 1 + 1 + 1, 0, none⟩ = some (.int .i64 40) := Y3.cell 0
  refine ⟨_, (by simp [results, Try.results21, go_sem, z2, z3] : _ = Result.ok (.tuple #[.slice none 0 0, .int .i64 40]) _), ?_⟩
  exact ⟨_, _, _, rfl, hs, bsAt_nil _ _, HB⟩

set_option maxRecDepth 100000 in
set_option maxHeartbeats 4000000 in
theorem dRead_2 (d : Dk) (As : Option Addr) (ns cs : Nat) (Ap : Option Addr) (np cp : Nat) (dl : Int) (ds : Bool) (S : Nat → Prop) (w : World) (hD : Hid (DkAt w S (.slice As ns cs) (.slice Ap np cp) d)) (hdl : Hid (d.left = dl)) (hds : Hid (d.stopped = ds)) (i : Int) (hr : Hid (d.runs = true)) (hh : Hid (d.hasB i = false)) (hs : Hid (readT d i = ([], 40))) : Calls Try.prog 21 #[.agg #[.slice As ns cs, .slice Ap np cp, .int .i64 dl, .bool ds], .int .i64 i] w (RetBs (readT d i) S w) := by
  have HB0 : Below w.heap.size w ((((w.alloc (.cells #[.slice As ns cs, .slice Ap np cp, .int .i64 dl, .bool ds] 25)).alloc (.cells #[.int .i64 i] 3)).alloc (.cells #[.slice none 0 0] 35)).alloc (.cells #[.int .i64 0] 28)) := (((((Below.refl w.heap.size w).alloc (by simp <;> omega) (.cells #[.slice As ns cs, .slice Ap np cp, .int .i64 dl, .bool ds] 25)).alloc (by simp <;> omega) (.cells #[.int .i64 i] 3)).alloc (by simp <;> omega) (.cells #[.slice none 0 0] 35)).alloc (by simp <;> omega) (.cells #[.int .i64 0] 28))
  have HD0 := Lib.hid (hD.out.keep (Keeps.of HB0))
  refine calls_of_wp_marks Try.func21 rfl ?_
  simp only [Try.ntmps21, List.size_toArray, List.length_cons, List.length_nil, Nat.reduceAdd, Nat.reduceSub, Array.replicate_succ, Array.replicate_zero, List.push_toArray, List.append_toArray, List.nil_append, List.cons_append]
  go_wp2_with fail
  refine (dRuns_at hr HD0.out hdl hds).mono ?_
  rintro e w1 ⟨rfl, hb⟩
  have X0 := (((((Box.newAt (n := w.heap.size) [.slice As ns cs, .slice Ap np cp, .int .i64 dl, .bool ds] 25 (by simp)).alloc _).alloc _).alloc _)).later hb
  have X1 := ((((Box.newAt (n := w.heap.size + 1) [.int .i64 i] 3 (by simp)).alloc _).alloc _)).later hb
  have X2 := (((Box.newAt (n := w.heap.size + 1 + 1) [.slice none 0 0] 35 (by simp)).alloc _)).later hb
  have X3 := ((Box.newAt (n := w.heap.size + 1 + 1 + 1) [.int .i64 0] 28 (by simp))).later hb
  have hB : Below w.heap.size w w1 := ((((((Below.refl w.heap.size w).alloc (by simp <;> omega) _).alloc (by simp <;> omega) _).alloc (by simp <;> omega) _).alloc (by simp <;> omega) _)).trans (hb.mono (by simp <;> omega))
  clear hb
  have X0c0 : w1.cell? ⟨w.heap.size, 0, none⟩ = some (.slice As ns cs) := X0.cell 0
  have X0f0 : w1.frozen? ⟨w.heap.size, 0, none⟩ = false := X0.free 0
  have X0c1 : w1.cell? ⟨w.heap.size, 1, none⟩ = some (.slice Ap np cp) := X0.cell 1
  have X0f1 : w1.frozen? ⟨w.heap.size, 1, none⟩ = false := X0.free 1
  have X0c2 : w1.cell? ⟨w.heap.size, 2, none⟩ = some (.int .i64 dl) := X0.cell 2
  have X0f2 : w1.frozen? ⟨w.heap.size, 2, none⟩ = false := X0.free 2
  have X0c3 : w1.cell? ⟨w.heap.size, 3, none⟩ = some (.bool ds) := X0.cell 3
  have X0f3 : w1.frozen? ⟨w.heap.size, 3, none⟩ = false := X0.free 3
  have X0z : w.heap.size < w1.heap.size := X0.lt
  have X1c0 : w1.cell? ⟨w.heap.size + 1, 0, none⟩ = some (.int .i64 i) := X1.cell 0
  have X1f0 : w1.frozen? ⟨w.heap.size + 1, 0, none⟩ = false := X1.free 0
  have X1z : w.heap.size + 1 < w1.heap.size := X1.lt
  go_wp2_with fail
  refine (dHas_at hh (hD.out.keep (Keeps.of hB)) hdl hds).mono ?_
  rintro e w2 ⟨rfl, hb⟩
  clear X0c0 X0f0 X0c1 X0f1 X0c2 X0f2 X0c3 X0f3 X0z X1c0 X1f0 X1z
  have X0 := X0.later hb
  have X1 := X1.later hb
  have X2 := X2.later hb
  have X3 := X3.later hb
  have hB := hB.trans (hb.mono hB.size)
  clear hb
  have X2c0 : w2.cell? ⟨w.heap.size + 1 + 1, 0, none⟩ = some (.slice none 0 0) := X2.cell 0
  have X2f0 : w2.frozen? ⟨w.heap.size + 1 + 1, 0, none⟩ = false := X2.free 0
  have X2z : w.heap.size + 1 + 1 < w2.heap.size := X2.lt
  have X3c0 : w2.cell? ⟨w.heap.size + 1 + 1 + 1, 0, none⟩ = some (.int .i64 0) := X3.cell 0
  have X3f0 : w2.frozen? ⟨w.heap.size + 1 + 1 + 1, 0, none⟩ = false := X3.free 0
  have X3z : w.heap.size + 1 + 1 + 1 < w2.heap.size := X3.lt
  go_wp2
  have Y2 := (X2.set 0 (.slice none 0 0)).other (a := ⟨w.heap.size + 1 + 1 + 1, 0, none⟩) (by simp <;> omega) (.int .i64 40)
  have Y3 := (X3.other (a := ⟨w.heap.size + 1 + 1, 0, none⟩) (by simp <;> omega) (.slice none 0 0)).set 0 (.int .i64 40)
  have HB := (hB.setCell (p := ⟨w.heap.size + 1 + 1, 0, none⟩) (by simp <;> omega) (.slice none 0 0)).setCell (p := ⟨w.heap.size + 1 + 1 + 1, 0, none⟩) (by simp <;> omega) (.int .i64 40)
  generalize (w2.setCell ⟨w.heap.size + 1 + 1, 0, none⟩ (.slice none 0 0)).setCell ⟨w.heap.size + 1 + 1 + 1, 0, none⟩ (.int .i64 40) = W at Y2 Y3 HB ⊢
  have z2 : W.cell? ⟨w.heap.size + 1 + 1, 0, none⟩ = some (.slice none 0 0) := Y2.cell 0
  have z3 : W.cell? ⟨w.heap.size + 1 + 1 + 1, 0, none⟩ = some (.int .i64 40) := Y3.cell 0
  refine ⟨_, (by simp [results, Try.results21, go_sem, z2, z3] : _ = Result.ok (.tuple #[.slice none 0 0, .int .i64 40]) _), ?_⟩
  exact ⟨_, _, _, rfl, hs, bsAt_nil _ _, HB⟩

set_option maxRecDepth 100000 in
set_option maxHeartbeats 8000000 in
theorem dRead_3 (d : Dk) (As : Option Addr) (ns cs : Nat) (Ap : Option Addr) (np cp : Nat) (dl : Int) (ds : Bool) (S : Nat → Prop) (w : World) (hD : Hid (DkAt w S (.slice As ns cs) (.slice Ap np cp) d)) (hdl : Hid (d.left = dl)) (hds : Hid (d.stopped = ds)) (i : Int) (hr : Hid (d.runs = true)) (hh : Hid (d.hasB i = true)) (hnp : Hid (d.pending.length = np)) (hns : Hid (d.sectors.length = ns)) (hs : Hid (readT d i = (lastW d.pending i (d.sectors.getD i.toNat []), 0))) : Calls Try.prog 21 #[.agg #[.slice As ns cs, .slice Ap np cp, .int .i64 dl, .bool ds], .int .i64 i] w (RetBs (readT d i) S w) := by
  have HB0 : Below w.heap.size w ((((w.alloc (.cells #[.slice As ns cs, .slice Ap np cp, .int .i64 dl, .bool ds] 25)).alloc (.cells #[.int .i64 i] 3)).alloc (.cells #[.slice none 0 0] 35)).alloc (.cells #[.int .i64 0] 28)) := (((((Below.refl w.heap.size w).alloc (by simp <;> omega) (.cells #[.slice As ns cs, .slice Ap np cp, .int .i64 dl, .bool ds] 25)).alloc (by simp <;> omega) (.cells #[.int .i64 i] 3)).alloc (by simp <;> omega) (.cells #[.slice none 0 0] 35)).alloc (by simp <;> omega) (.cells #[.int .i64 0] 28))
  have HD0 := Lib.hid (hD.out.keep (Keeps.of HB0))
  refine calls_of_wp_marks Try.func21 rfl ?_
  simp only [Try.ntmps21, List.size_toArray, List.length_cons, List.length_nil, Nat.reduceAdd, Nat.reduceSub, Array.replicate_succ, Array.replicate_zero, List.push_toArray, List.append_toArray, List.nil_append, List.cons_append]
  go_wp2_with fail
  refine (dRuns_at hr HD0.out hdl hds).mono ?_
  rintro e w1 ⟨rfl, hb⟩
  have X0 := (((((Box.newAt (n := w.heap.size) [.slice As ns cs, .slice Ap np cp, .int .i64 dl, .bool ds] 25 (by simp)).alloc _).alloc _).alloc _)).later hb
  have X1 := ((((Box.newAt (n := w.heap.size + 1) [.int .i64 i] 3 (by simp)).alloc _).alloc _)).later hb
  have X2 := (((Box.newAt (n := w.heap.size + 1 + 1) [.slice none 0 0] 35 (by simp)).alloc _)).later hb
  have X3 := ((Box.newAt (n := w.heap.size + 1 + 1 + 1) [.int .i64 0] 28 (by simp))).later hb
  have hB : Below w.heap.size w w1 := ((((((Below.refl w.heap.size w).alloc (by simp <;> omega) _).alloc (by simp <;> omega) _).alloc (by simp <;> omega) _).alloc (by simp <;> omega) _)).trans (hb.mono (by simp <;> omega))
  clear hb
  have X0c0 : w1.cell? ⟨w.heap.size, 0, none⟩ = some (.slice As ns cs) := X0.cell 0
  have X0f0 : w1.frozen? ⟨w.heap.size, 0, none⟩ = false := X0.free 0
  have X0c1 : w1.cell? ⟨w.heap.size, 1, none⟩ = some (.slice Ap np cp) := X0.cell 1
  have X0f1 : w1.frozen? ⟨w.heap.size, 1, none⟩ = false := X0.free 1
  have X0c2 : w1.cell? ⟨w.heap.size, 2, none⟩ = some (.int .i64 dl) := X0.cell 2
  have X0f2 : w1.frozen? ⟨w.heap.size, 2, none⟩ = false := X0.free 2
  have X0c3 : w1.cell? ⟨w.heap.size, 3, none⟩ = some (.bool ds) := X0.cell 3
  have X0f3 : w1.frozen? ⟨w.heap.size, 3, none⟩ = false := X0.free 3
  have X0z : w.heap.size < w1.heap.size := X0.lt
  have X1c0 : w1.cell? ⟨w.heap.size + 1, 0, none⟩ = some (.int .i64 i) := X1.cell 0
  have X1f0 : w1.frozen? ⟨w.heap.size + 1, 0, none⟩ = false := X1.free 0
  have X1z : w.heap.size + 1 < w1.heap.size := X1.lt
  go_wp2_with fail
  refine (dHas_at hh (hD.out.keep (Keeps.of hB)) hdl hds).mono ?_
  rintro e w2 ⟨rfl, hb⟩
  clear X0c0 X0f0 X0c1 X0f1 X0c2 X0f2 X0c3 X0f3 X0z X1c0 X1f0 X1z
  have X0 := X0.later hb
  have X1 := X1.later hb
  have X2 := X2.later hb
  have X3 := X3.later hb
  have hB := hB.trans (hb.mono hB.size)
  clear hb
  have X0c0 : w2.cell? ⟨w.heap.size, 0, none⟩ = some (.slice As ns cs) := X0.cell 0
  have X0f0 : w2.frozen? ⟨w.heap.size, 0, none⟩ = false := X0.free 0
  have X0c1 : w2.cell? ⟨w.heap.size, 1, none⟩ = some (.slice Ap np cp) := X0.cell 1
  have X0f1 : w2.frozen? ⟨w.heap.size, 1, none⟩ = false := X0.free 1
  have X0c2 : w2.cell? ⟨w.heap.size, 2, none⟩ = some (.int .i64 dl) := X0.cell 2
  have X0f2 : w2.frozen? ⟨w.heap.size, 2, none⟩ = false := X0.free 2
  have X0c3 : w2.cell? ⟨w.heap.size, 3, none⟩ = some (.bool ds) := X0.cell 3
  have X0f3 : w2.frozen? ⟨w.heap.size, 3, none⟩ = false := X0.free 3
  have X0z : w.heap.size < w2.heap.size := X0.lt
  have X1c0 : w2.cell? ⟨w.heap.size + 1, 0, none⟩ = some (.int .i64 i) := X1.cell 0
  have X1f0 : w2.frozen? ⟨w.heap.size + 1, 0, none⟩ = false := X1.free 0
  have X1z : w.heap.size + 1 < w2.heap.size := X1.lt
  go_wp2_with fail
  clear X0c0 X0f0 X0c1 X0f1 X0c2 X0f2 X0c3 X0f3 X0z X1c0 X1f0 X1z
  have hlt2 : w.heap.size + 1 + 1 + 1 < w2.heap.size := X3.lt
  have hL2 := hD.out.old.pending.keep (Keeps.of hB)
  refine (dBackward_any Ap np cp _).mono ?_
  rintro e W0 ⟨rfl, P0, hb⟩
  have hL := Lib.hid (hL2.keep (Keeps.of hb))
  have X0 := X0.later hb
  have X1 := X1.later hb
  have X2 := X2.later hb
  have X3 := X3.later hb
  have hB := hB.trans (hb.mono hB.size)
  have HB2 := Lib.hid hb.size
  have hlt := Lib.hid hlt2
  have hN : d.pending.length ≤ 4096 := (okB_parts (runs_ok hr.out).1).2.2.1
  clear hb hL2 hlt2
  generalize w2.heap.size = D0 at *
  have hL' : Hid (WsAt W0 (Old S w) (.slice Ap d.pending.length cp) d.pending) := by rw [hnp.out]; exact hL
  have P0' : Hid (Box W0 D0 [.slice Ap d.pending.length cp]) := by rw [hnp.out]; exact P0
  go_wp2_with fail
  refine wpIn_wide.1 (wpIn_rangeFunc_ownH (n := 6) rfl (by omega) (gf := 45) (lb := #[.pointer (some ⟨D0, 0, none⟩)]) rfl trivial (enters_of Try.func45 (by kernel_rfl) rfl)
    (back_stops 5 4096 d.pending Ap cp D0 (Old S w) W0 hL' P0'.out hN) belowK_t (belowK_b (Nat.le_refl _)) (Below.refl _ _) (fun _ => rfl)
    (fun pre W => (∀ x ∈ pre, x.2.2 ≠ i) ∧ Box W (w.heap.size) [.slice As ns cs, .slice Ap np cp, .int .i64 dl, .bool ds] ∧ Box W (w.heap.size + 1) [.int .i64 i] ∧ Box W (w.heap.size + 1 + 1) [.slice none 0 0] ∧ Box W (w.heap.size + 1 + 1 + 1) [.int .i64 0] ∧ Below w.heap.size w W ∧ W0.heap.size ≤ W.heap.size)
    (fun cc pre W => cc = .ret ∧ ∃ (pre' : List WEl) (x : WEl), pre = pre' ++ [x] ∧ (∀ y ∈ pre', y.2.2 ≠ i) ∧ x.2.2 = i ∧ Box W (w.heap.size + 1 + 1) [.slice x.2.1.1 x.2.1.2.1 x.2.1.2.2] ∧ Box W (w.heap.size + 1 + 1 + 1) [.int .i64 0] ∧ Below w.heap.size w W)
    ?hI ?hIx ?h0
    (fun x a' W => ∃ D, W0.heap.size ≤ D ∧ Box W D [.int .i64 x.2.2, .slice x.2.1.1 x.2.1.2.1 x.2.1.2.2] ∧ a' = { tmps := #[.agg #[.slice As ns cs, .slice Ap np cp, .int .i64 dl, .bool ds], .int .i64 i, .pointer (some ⟨w.heap.size, 0, none⟩), .pointer (some ⟨w.heap.size + 1, 0, none⟩), .pointer (some ⟨w.heap.size + 1 + 1, 0, none⟩), .pointer (some ⟨w.heap.size + 1 + 1 + 1, 0, none⟩), undef, .pointer (some ⟨D, 0, none⟩), .agg #[.slice As ns cs, .slice Ap np cp, .int .i64 dl, .bool ds], .bool true, .bool false, .bool false, .agg #[.slice As ns cs, .slice Ap np cp, .int .i64 dl, .bool ds], .int .i64 i, .bool true, .bool false, .bool false, .pointer (some ⟨w.heap.size, 1, none⟩), .slice Ap np cp, .func (.func 45) #[] #[.pointer (some ⟨D0, 0, none⟩)], .int .i64 x.1, .agg #[.int .i64 x.2.2, .slice x.2.1.1 x.2.1.2.1 x.2.1.2.2], undef, undef, undef, undef, undef, undef, undef, undef, undef, undef, undef], defers := [] })
    ?hAx ?assign ?body ?done ?stop)
  case hI =>
    exact OwnFrom.and (fun _ _ _ _ hs _ _ => hs) (OwnFrom.and ((box_own _ _).from _) (OwnFrom.and ((box_own _ _).from _) (OwnFrom.and ((box_own _ _).from _) (OwnFrom.and ((box_own _ _).from _) (OwnFrom.and (ownFrom_below (Nat.le_refl _) hB.size) (fun _ _ _ _ hs hg _ => Nat.le_trans hs hg.size))))))
  case hIx =>
    rintro cc pre X Y row ⟨rfl, pre', x, rfl, hne, hx, b2, b3, hb⟩ hg hr
    have hr' : ∀ k, row = some k → ∃ o : Obj, X.heap[k]? = some o ∧ o.isCells = false := fun k e => (hr k e).2
    exact ⟨rfl, pre', x, rfl, hne, hx, box_own (β := Unit) _ _ () X Y row b2 hg hr', box_own (β := Unit) _ _ () X Y row b3 hg hr',
      (ownFrom_below (β := Unit) (Nat.le_refl _) hB.size) () X Y row hb hg hr⟩
  case h0 => exact ⟨(fun x hx => by cases hx), X0, X1, X2, X3, hB, Nat.le_refl _⟩
  case hAx =>
    rintro x a' _ X Y row ⟨D, hD, hb, rfl⟩ hg hr
    exact ⟨D, hD, box_own (β := Unit) _ _ () X Y row hb hg (fun k e => (hr k e).2), rfl⟩
  case assign =>
    rintro l pre x W K ⟨hne, b0, b1, b2, b3, hb, hle⟩ hK
    gi_wp2
    exact hK _ _ ((KeepsOthers.alloc _ _).from _) ((Below.refl _ W).alloc hle _) ⟨hne, b0.alloc _, b1.alloc _, b2.alloc _, b3.alloc _, hb.alloc hb.size _, by simp; omega⟩ ⟨W.heap.size, hle, Box.new W [.int .i64 x.2.2, .slice x.2.1.1 x.2.1.2.1 x.2.1.2.2] _, rfl⟩
  case body =>
    rintro l pre x a' W hl _ ⟨hne, b0, b1, b2, b3, hb, hle⟩ ⟨D, hD, bD, rfl⟩ hlen
    have d0 : W.cell? ⟨D, 0, none⟩ = some (.int .i64 x.2.2) := bD.cell 0
    have d1 : W.cell? ⟨D, 1, none⟩ = some (.slice x.2.1.1 x.2.1.2.1 x.2.1.2.2) := bD.cell 1
    have c1 : W.cell? ⟨w.heap.size + 1, 0, none⟩ = some (.int .i64 i) := b1.cell 0
    have c2 : W.cell? ⟨w.heap.size + 1 + 1, 0, none⟩ = some (.slice none 0 0) := b2.cell 0
    have f2 := b2.free 0
    have z2 := b2.lt
    have c3 : W.cell? ⟨w.heap.size + 1 + 1 + 1, 0, none⟩ = some (.int .i64 0) := b3.cell 0
    have f3 := b3.free 0
    have z3 := b3.lt
    by_cases hx : x.2.2 = i
    · have hx' : (x.2.2 == i) = true := by simpa using hx
      gi_wp2
      refine ⟨((KeepsOthers.setCell _ _ _).trans (KeepsOthers.setCell _ _ _)).from _, rfl, pre, x, rfl, hne, hx, (b2.set 0 _).other (by simp <;> omega) _, (b3.other (by simp <;> omega) _).set 0 _, (hb.setCell (by simp <;> omega) _).setCell (by simp <;> omega) _⟩
    · have hx' : (x.2.2 == i) = false := by simpa using hx
      gi_wp2
      refine ⟨(KeepsOthers.refl _).from _, Below.refl _ _, fun y hy => ?_, b0, b1, b2, b3, hb, hle⟩
      rcases List.mem_append.1 hy with hy | hy
      · exact hne y hy
      · rw [List.mem_singleton.1 hy]; exact hx
  case done =>
    rintro D xs W hD0 hS ⟨hne, b0, b1, b2, b3, hb, hle⟩ hK
    obtain ⟨ii, hii⟩ := hasB_in hh.out
    obtain ⟨a, rfl⟩ : ∃ a : Nat, i = a := ⟨i.toNat, by omega⟩
    have hal : a < d.sectors.length := by omega
    have han : a < ns := by rw [← hns.out]; exact hal
    have hlw := Lib.hid (pre_none (b := d.sectors.getD a []) hS.2 hS.1 hne)
    obtain ⟨rb, ro, V, rfl, hSr, hrb, hrc, hV⟩ := hD.out.sectors.row hal
    have eg : d.sectors.getD a [] = d.sectors[a] := by rw [List.getD_eq_getElem?_getD, List.getElem?_eq_getElem hal]; rfl
    rw [← eg] at hV
    obtain ⟨Av, cv, rfl, _⟩ := hV.form
    obtain ⟨nv, hnv⟩ : ∃ nv, (d.sectors.getD a []).length = nv := ⟨_, rfl⟩
    rw [hnv] at hrc hV
    have HV := Lib.hid hV
    have q0 := (hb.cell hrb).trans hrc
    have hrW := Nat.lt_of_lt_of_le hrb hb.size
    have a0 : (0 : Int) ≤ (a : Int) := by omega
    have a1 : (a : Int) < (ns : Int) := by omega
    have hlt := hlt.out
    have hWle := HB2.out
    have hrne2 : rb ≠ w.heap.size + 1 + 1 := by omega
    have hrne3 : rb ≠ w.heap.size + 1 + 1 + 1 := by omega
    clear hrc hV eg hnv hS hne ii hii hSr
    have c0 : W.cell? ⟨w.heap.size, 0, none⟩ = some (.slice (some ⟨rb, ro, none⟩) ns cs) := b0.cell 0
    have z0 := b0.lt
    have c1 : W.cell? ⟨w.heap.size + 1, 0, none⟩ = some (.int .i64 a) := b1.cell 0
    have z1 := b1.lt
    have c2 : W.cell? ⟨w.heap.size + 1 + 1, 0, none⟩ = some (.slice none 0 0) := b2.cell 0
    have f2 := b2.free 0
    have z2 := b2.lt
    have c3 : W.cell? ⟨w.heap.size + 1 + 1 + 1, 0, none⟩ = some (.int .i64 0) := b3.cell 0
    have f3 := b3.free 0
    have z3 := b3.lt
    go_wp2
    have hKf := ((Below.heap_setCell _ ⟨w.heap.size + 1 + 1 + 1, 0, none⟩ (.int .i64 0) D (by simp <;> omega)).trans ((Below.heap_setCell W ⟨w.heap.size + 1 + 1, 0, none⟩ (.slice Av nv cv) D (by simp <;> omega)).trans hK))
    refine ⟨by simp, .inl ⟨_, _, rfl, run_takeDeferred hKf, ?_⟩⟩
    have e2 := (((b2.set 0 (.slice Av nv cv)).other (a := ⟨w.heap.size + 1 + 1 + 1, 0, none⟩) (by simp <;> omega) (.int .i64 0)).put (l := D) (by omega) (.deferred none)).cell 0
    have e3 := (((b3.other (a := ⟨w.heap.size + 1 + 1, 0, none⟩) (by simp <;> omega) (.slice Av nv cv)).set 0 (.int .i64 0)).put (l := D) (by omega) (.deferred none)).cell 0
    simp only [List.getElem?_cons_zero, List.set_cons_zero] at e2 e3
    refine ⟨_, (by simp [results, Try.results21, go_sem, e2, e3] : _ = Result.ok (.tuple #[.slice Av nv cv, .int .i64 0]) _), ?_⟩
    have HB := below_put (((hb.setCell (p := ⟨w.heap.size + 1 + 1, 0, none⟩) (by simp <;> omega) (.slice Av nv cv)).setCell (p := ⟨w.heap.size + 1 + 1 + 1, 0, none⟩) (by simp <;> omega) (.int .i64 0))) (Nat.le_trans hB.size hD0) (.deferred none)
    refine ⟨_, _, _, rfl, ?_, Lib.hid ((HV.out.keep (Keeps.of HB)).weak fun b h _ => .inl h), HB⟩
    rw [hs.out, Int.toNat_natCast, hlw.out]
    rfl
  case stop =>
    rintro D cc pre W hD0 hpre ⟨rfl, pre', x, rfl, hne, hx, b2, b3, hb⟩ hK
    have hV := ((pre_hit (b := d.sectors.getD i.toNat []) hpre hne hx).back hB)
    have HV := Lib.hid hV
    have hlt := hlt.out
    have hWle := HB2.out
    refine wpIn_wide.2 ?_
    clear hpre hV hne hx
    go_wp2
    refine ⟨by simp, .inl ⟨_, _, rfl, run_takeDeferred hK, ?_⟩⟩
    have e2 := (b2.put (l := D) (by omega) (.deferred none)).cell 0
    have e3 := (b3.put (l := D) (by omega) (.deferred none)).cell 0
    simp only [List.getElem?_cons_zero] at e2 e3
    refine ⟨_, (by simp [results, Try.results21, go_sem, e2, e3] : _ = Result.ok (.tuple #[.slice x.2.1.1 x.2.1.2.1 x.2.1.2.2, .int .i64 0]) _), ?_⟩
    have HB := below_put hb (Nat.le_trans hB.size hD0) (.deferred none)
    exact ⟨_, _, _, rfl, hs, Lib.hid ((HV.out.keep (Keeps.of HB)).weak fun b h _ => .inl h), HB⟩

theorem dRead_any (d : Dk) (Vs Vp : Value) (i : Int) (S : Nat → Prop) (w : World) (hD : DkAt w S Vs Vp d) : Calls Try.prog 21 #[d.v Vs Vp, .int .i64 i] w (RetBs (readT d i) S w) := by
  obtain ⟨As, cs, rfl, _⟩ := hD.sectors.form
  obtain ⟨Ap, cp, rfl, _⟩ := hD.pending.form
  rcases hr : d.runs with _ | _
  · exact dRead_1 d As _ cs Ap _ cp _ _ S w hD rfl rfl i hr (by rw [Hid, readT, if_neg (by rw [hr]; simp)])
  · rcases hh : d.hasB i with _ | _
    · exact dRead_2 d As _ cs Ap _ cp _ _ S w hD rfl rfl i hr hh (by rw [Hid, readT, if_neg (by rw [hh]; simp)])
    · exact dRead_3 d As _ cs Ap _ cp _ _ S w hD rfl rfl i hr hh rfl rfl (by rw [Hid, readT, if_pos ⟨hr, hh⟩])

end Go.Proofs.Ytdmeogkdoeaemaa
