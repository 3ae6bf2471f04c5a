/-
  Contract of Cut of network, the failing ways, and of cuts. No condition.
-/
import Derived.Test.YtndjpaiakodciaaNR
namespace Go.Proofs.Ytndjpaiakodciaa
open Go.RowKit Go.Shelf
attribute [local go_sem] Oper.semAt_some
attribute [local go_sem ↓ high] app_named

theorem box_own {β : Type} (b : Nat) (xs : List Value) : Own (fun (_ : β) W => Box W b xs) := by
  rintro s X Y row ⟨t, ht⟩ hg hrow
  refine ⟨t, (hg.block b (Array.getElem?_eq_some_iff.1 ht).1 (fun e => ?_)).trans ht⟩
  obtain ⟨o, ho, hc⟩ := hrow b e.symm
  rw [ht] at ho; cases ho; cases hc
theorem Box.put {w : World} {b l : Nat} {xs : List Value} (h : Box w b xs) (hne : b ≠ l) (o : Obj) : Box (w.putObj l o) b xs := by
  obtain ⟨t, ht⟩ := h
  exact ⟨t, (World.putObj_heap_other hne).trans ht⟩
theorem below_put {B D : Nat} {w w' : World} (h : Below B w w') (hD : B ≤ D) (o : Obj) : Below B w (w'.putObj D o) :=
  ⟨h.os, h.tape, h.output, by simpa using h.size, fun k hk => (World.putObj_heap_other (by omega)).trans (h.block k hk)⟩
theorem calls_of_wp_marks {P : Program} {f : FuncId} {fn : Func} {c : Code} {args : Array Value} {w : World} {R : Ending → World → Prop} (hf : P.funcs[f]? = some fn) (hb : fn.body = some c)
    (h : c.wp P (bodyPostM Fence.wide 6 P fn R) { tmps := args ++ Array.replicate (fn.ntmps - args.size) undef, defers := [] } w) : Calls P f args w R :=
  callsIn_wide.1 (callsIn_of_wp_marks (n := 6) hf hb trivial (wpIn_wide.2 h) rfl)

theorem grownBy_set (W : World) (b i : Nat) (v : Value) : W.grownBy (W.setCell ⟨b, i, none⟩ v) (some b) :=
  ⟨rfl, rfl, rfl, (KeepsWalks.setCell W _ v).size, fun k _ hk => Below.heap_setCell _ _ _ k (fun e => hk (by rw [e]))⟩
/-- The cells that a slice owns are cells. -/
theorem owns_cells {W : World} {base e size n : Nat} {v : Value} {xs : List Value} (h : W.ownsRow base e size v n xs) (j : Nat) (o : Obj) (ej : v.ownBlock = some j) (hj : W.heap[j]? = some o) : o.isCells = true := by
  rcases h.2 with ⟨rfl, _⟩ | ⟨g, cap, cur, rfl, _, hgb, _⟩
  · simp [Value.ownBlock] at ej
  · obtain rfl : g = j := by simpa [Value.ownBlock] using ej
    rw [hgb] at hj; cases hj; rfl
theorem owns_form {W : World} {base e size n : Nat} {v : Value} {xs : List Value} (h : W.ownsRow base e size v n xs) : ∃ A k c, v = .slice A k c := by
  rcases h.2 with ⟨rfl, _⟩ | ⟨g, cap, cur, rfl, _⟩
  · exact ⟨_, _, _, rfl⟩
  · exact ⟨_, _, _, rfl⟩
theorem owns_ne {W : World} {base e size n b : Nat} {v : Value} {xs : List Value} (h : W.ownsRow base e size v n xs) (hb : b < base) : v.ownBlock = none ∨ v.ownBlock ≠ some b := by
  rcases h.2 with ⟨rfl, _⟩ | ⟨g, cap, cur, rfl, hg, _⟩
  · exact .inl rfl
  · refine .inr fun e' => ?_
    have : g = b := by simpa [Value.ownBlock] using e'
    omega
/-- What holds in the loop of Cut: the result's block holds the queue and the links that have come. -/
def CutI (w : World) (R base : Nat) (Q : Value) (pre : List (Int × Int)) (W : World) : Prop := ∃ V, Box W R [Q, V] ∧ OwnLk W base V pre ∧ Below w.heap.size w W ∧ base ≤ W.heap.size
theorem cutI_own {w : World} {R base : Nat} {Q : Value} (h1 : w.heap.size ≤ base) : OwnFrom base (CutI w R base Q) := by
  rintro s X Y row ⟨V, hb, ho, hB, hs⟩ hg hr
  have hr' : ∀ k, row = some k → ∃ o : Obj, X.heap[k]? = some o ∧ o.isCells = false := fun k e => (hr k e).2
  refine ⟨V, box_own (β := Unit) _ _ () X Y row hb hg hr', World.ownsRow.kept ho hg ?_, (ownFrom_below (β := Unit) (Nat.le_refl _) h1) () X Y row hB hg hr, Nat.le_trans hs hg.size⟩
  rcases hv : V.ownBlock with _ | g
  · exact .inl rfl
  · refine .inr fun e => ?_
    obtain ⟨o, h2, h3⟩ := hr' g e.symm
    rw [owns_cells ho g o hv h2] at h3
    cases h3

theorem nCuts_any (A : Option Addr) (k c : Nat) (a b : Int) (on : Bool) (w : World) : Calls Try.prog 39 #[.slice A k c, pairV a b, .bool on] w fun e w' =>
    e = .returned (.func (.func 46) #[] #[.pointer (some ⟨w.heap.size + 1, 0, none⟩), .pointer (some ⟨w.heap.size + 1 + 1, 0, none⟩), .pointer (some ⟨w.heap.size, 0, none⟩)]) ∧
      Box w' w.heap.size [.slice A k c] ∧ Box w' (w.heap.size + 1) [.int .i64 a, .int .i64 b] ∧ Box w' (w.heap.size + 1 + 1) [.bool on] ∧ Below w.heap.size w w' := by
  have hmf : ∀ (fn : Fn) (first cap : Array Value) (w : World), (Instr.makeFunc fn first cap).run Try.prog w = .ok (.func fn first cap) w := fun _ _ _ _ => rfl
  go_enter Try.func39, Try.ntmps39
  go_wp2
  have X0 := ((Box.new w [.slice A k c] 23).alloc (.cells #[.int .i64 a, .int .i64 b] 58)).alloc (.cells #[.bool on] 4)
  have X1 := (Box.newAt (w := w.alloc (.cells #[.slice A k c] 23)) (n := w.heap.size + 1) [.int .i64 a, .int .i64 b] 58 (by simp)).alloc (.cells #[.bool on] 4)
  have X2 := Box.newAt (w := (w.alloc (.cells #[.slice A k c] 23)).alloc (.cells #[.int .i64 a, .int .i64 b] 58)) (n := w.heap.size + 1 + 1) [.bool on] 4 (by simp)
  go_ret
  exact ⟨rfl, X0, X1, X2, (((Below.refl _ _).alloc (Nat.le_refl _) _).alloc (by simp) _).alloc (by simp; omega) _⟩

set_option maxRecDepth 100000 in
set_option maxHeartbeats 2000000 in
theorem nCut_1 (n : Net) (Vq Va : Value) (a b : Int) (on : Bool) (w : World) (D : Nat) (hDw : D ≤ w.heap.size) (hN : Hid (NetAt w D Vq Va n)) (h : Hid (n.checkT = 60)) (hs : Hid (cutT n a b on = (Net.zero, 60))) :
    Calls Try.prog 20 #[.agg #[Vq, Va], .int .i64 a, .int .i64 b, .bool on] w (RetNet (cutT n a b on) D w) := by
  refine calls_of_wp_marks Try.func20 rfl ?_
  simp only [Try.ntmps20, List.size_toArray, List.length_cons, List.length_nil, Nat.reduceAdd, Nat.reduceSub, Array.replicate_succ, Array.replicate_zero, List.push_toArray, List.append_toArray, List.nil_append, List.cons_append]
  have HB0 := ((Below.refl w.heap.size w).alloc (Nat.le_refl _) (.cells #[Vq, Va] 25)).alloc (by simp) (.cells #[.slice none 0 0, .slice none 0 0] 25)
  have HNB := Lib.hid (((hN.out.more hDw).below HB0).more HB0.size)
  go_wp2_with fail
  refine (nCheck_at h HNB.out).mono ?_
  rintro e w1 ⟨rfl, hb⟩
  have R := (Box.newAt (w := w.alloc (.cells #[Vq, Va] 25)) (n := w.heap.size + 1) [.slice none 0 0, .slice none 0 0] 25 (by simp)).later hb
  have hB := HB0.trans (hb.mono HB0.size)
  clear hb HB0 HNB
  have r0 : w1.cell? ⟨w.heap.size + 1, 0, none⟩ = some (.slice none 0 0) := R.cell 0
  have r1 : w1.cell? ⟨w.heap.size + 1, 1, none⟩ = some (.slice none 0 0) := R.cell 1
  have f0 := R.free 0
  have f1 := R.free 1
  have rz := R.lt
  go_wp2
  have Y := (R.set 0 (.slice none 0 0)).set 1 (.slice none 0 0)
  have hB := (hB.setCell (p := ⟨w.heap.size + 1, 0, none⟩) (by simp) (.slice none 0 0)).setCell (p := ⟨w.heap.size + 1, 1, none⟩) (by simp) (.slice none 0 0)
  generalize (w1.setCell ⟨w.heap.size + 1, 0, none⟩ (.slice none 0 0)).setCell ⟨w.heap.size + 1, 1, none⟩ (.slice none 0 0) = W at Y hB ⊢
  have y0 : W.cell? ⟨w.heap.size + 1, 0, none⟩ = some (.slice none 0 0) := Y.cell 0
  have y1 : W.cell? ⟨w.heap.size + 1, 1, none⟩ = some (.slice none 0 0) := Y.cell 1
  refine ⟨_, (by simp [results, Try.results20, go_sem, y0, y1] : _ = Result.ok (.tuple #[.agg #[.slice none 0 0, .slice none 0 0], .int .i64 60]) _), ?_⟩
  exact ⟨_, _, Net.zero, 60, rfl, hs, net2_zero _ _ _, hB⟩

set_option maxRecDepth 100000 in
set_option maxHeartbeats 2000000 in
theorem nCut_2 (n : Net) (Aq : Option Addr) (nq cq : Nat) (Aa : Option Addr) (na ca : Nat) (a b : Int) (on : Bool) (w : World) (D : Nat) (hDw : D ≤ w.heap.size) (hN : Hid (NetAt w D (.slice Aq nq cq) (.slice Aa na ca) n)) (h : Hid (n.checkT = 0)) (hv : Hid (linkB (min a b) (max a b) = false)) (hs : Hid (cutT n a b on = (Net.zero, 1))) :
    Calls Try.prog 20 #[.agg #[.slice Aq nq cq, .slice Aa na ca], .int .i64 a, .int .i64 b, .bool on] w (RetNet (cutT n a b on) D w) := by
  refine calls_of_wp_marks Try.func20 rfl ?_
  simp only [Try.ntmps20, List.size_toArray, List.length_cons, List.length_nil, Nat.reduceAdd, Nat.reduceSub, Array.replicate_succ, Array.replicate_zero, List.push_toArray, List.append_toArray, List.nil_append, List.cons_append]
  have HB0 := ((Below.refl w.heap.size w).alloc (Nat.le_refl _) (.cells #[.slice Aq nq cq, .slice Aa na ca] 25)).alloc (by simp) (.cells #[.slice none 0 0, .slice none 0 0] 25)
  have HNB := Lib.hid (((hN.out.more hDw).below HB0).more HB0.size)
  go_wp2_with fail
  refine (nCheck_at h HNB.out).mono ?_
  rintro e w1 ⟨rfl, hb⟩
  have X := ((Box.new w [.slice Aq nq cq, .slice Aa na ca] 25).alloc (.cells #[.slice none 0 0, .slice none 0 0] 25)).later hb
  have R := (Box.newAt (w := w.alloc (.cells #[.slice Aq nq cq, .slice Aa na ca] 25)) (n := w.heap.size + 1) [.slice none 0 0, .slice none 0 0] 25 (by simp)).later hb
  have hB := HB0.trans (hb.mono HB0.size)
  clear hb HB0 HNB
  go_wp2_with fail
  refine (nBetween_any _ _ _).mono ?_
  rintro e w2 ⟨rfl, hb⟩
  have X := X.later hb
  have R := R.later hb
  have hB := hB.trans (hb.mono hB.size)
  clear hb
  obtain ⟨m1, hm1⟩ : ∃ m1, min a b = m1 := ⟨_, rfl⟩
  obtain ⟨m2, hm2⟩ : ∃ m2, max a b = m2 := ⟨_, rfl⟩
  rw [hm1, hm2] at hv ⊢
  have HM := Lib.hid (And.intro hm1 hm2)
  clear hm1 hm2
  go_wp2_with fail
  have hw2 : w.heap.size + 1 + 1 ≤ w2.heap.size := by have := R.lt; omega
  have L := Box.new w2 [.int .i64 m1, .int .i64 m2] 58
  have X := X.alloc (.cells #[.int .i64 m1, .int .i64 m2] 58)
  have R := R.alloc (.cells #[.int .i64 m1, .int .i64 m2] 58)
  have hRL := R.lt
  have hs2 := hB.size
  have hB := hB.alloc hB.size (.cells #[.int .i64 m1, .int .i64 m2] 58)
  refine (nValid_at hv _).mono ?_
  rintro e w3 ⟨rfl, hb⟩
  have X := X.later hb
  have R := R.later hb
  have L := L.later hb
  have hB := hB.trans (hb.mono hB.size)
  clear hb hRL hs2
  obtain ⟨LL, hLL⟩ : ∃ LL, w2.heap.size = LL := ⟨_, rfl⟩
  rw [hLL] at L hw2 ⊢
  clear hLL
  have r0 : w3.cell? ⟨w.heap.size + 1, 0, none⟩ = some (.slice none 0 0) := R.cell 0
  have r1 : w3.cell? ⟨w.heap.size + 1, 1, none⟩ = some (.slice none 0 0) := R.cell 1
  have f0 := R.free 0
  have f1 := R.free 1
  have rz := R.lt
  go_wp2
  have Y := (R.set 0 (.slice none 0 0)).set 1 (.slice none 0 0)
  have hB := (hB.setCell (p := ⟨w.heap.size + 1, 0, none⟩) (by simp) (.slice none 0 0)).setCell (p := ⟨w.heap.size + 1, 1, none⟩) (by simp) (.slice none 0 0)
  generalize (w3.setCell ⟨w.heap.size + 1, 0, none⟩ (.slice none 0 0)).setCell ⟨w.heap.size + 1, 1, none⟩ (.slice none 0 0) = W at Y hB ⊢
  have y0 : W.cell? ⟨w.heap.size + 1, 0, none⟩ = some (.slice none 0 0) := Y.cell 0
  have y1 : W.cell? ⟨w.heap.size + 1, 1, none⟩ = some (.slice none 0 0) := Y.cell 1
  refine ⟨_, (by simp [results, Try.results20, go_sem, y0, y1] : _ = Result.ok (.tuple #[.agg #[.slice none 0 0, .slice none 0 0], .int .i64 1]) _), ?_⟩
  exact ⟨_, _, Net.zero, 1, rfl, hs, net2_zero _ _ _, hB⟩

set_option maxRecDepth 100000 in
set_option maxHeartbeats 2000000 in
theorem nCut_3 (n : Net) (Aq : Option Addr) (nq cq : Nat) (Aa : Option Addr) (na ca : Nat) (a b : Int) (on : Bool) (w : World) (D : Nat) (hDw : D ≤ w.heap.size) (hN : Hid (NetAt w D (.slice Aq nq cq) (.slice Aa na ca) n)) (h : Hid (n.checkT = 0)) (hv : Hid (linkB (min a b) (max a b) = true)) (hs : Hid (cutT n a b on = (⟨n.queue, allLinks.filter (keptC n.apart (min a b) (max a b) on)⟩, 0))) :
    Calls Try.prog 20 #[.agg #[.slice Aq nq cq, .slice Aa na ca], .int .i64 a, .int .i64 b, .bool on] w (RetNet (cutT n a b on) D w) := by
  refine calls_of_wp_marks Try.func20 rfl ?_
  simp only [Try.ntmps20, List.size_toArray, List.length_cons, List.length_nil, Nat.reduceAdd, Nat.reduceSub, Array.replicate_succ, Array.replicate_zero, List.push_toArray, List.append_toArray, List.nil_append, List.cons_append]
  have HB0 := ((Below.refl w.heap.size w).alloc (Nat.le_refl _) (.cells #[.slice Aq nq cq, .slice Aa na ca] 25)).alloc (by simp) (.cells #[.slice none 0 0, .slice none 0 0] 25)
  have HNB := Lib.hid (((hN.out.more hDw).below HB0).more HB0.size)
  go_wp2_with fail
  refine (nCheck_at h HNB.out).mono ?_
  rintro e w1 ⟨rfl, hb⟩
  have X := ((Box.new w [.slice Aq nq cq, .slice Aa na ca] 25).alloc (.cells #[.slice none 0 0, .slice none 0 0] 25)).later hb
  have R := (Box.newAt (w := w.alloc (.cells #[.slice Aq nq cq, .slice Aa na ca] 25)) (n := w.heap.size + 1) [.slice none 0 0, .slice none 0 0] 25 (by simp)).later hb
  have hB := HB0.trans (hb.mono HB0.size)
  clear hb HB0 HNB
  go_wp2_with fail
  refine (nBetween_any _ _ _).mono ?_
  rintro e w2 ⟨rfl, hb⟩
  have X := X.later hb
  have R := R.later hb
  have hB := hB.trans (hb.mono hB.size)
  clear hb
  obtain ⟨m1, hm1⟩ : ∃ m1, min a b = m1 := ⟨_, rfl⟩
  obtain ⟨m2, hm2⟩ : ∃ m2, max a b = m2 := ⟨_, rfl⟩
  rw [hm1, hm2] at hv ⊢
  have HM := Lib.hid (And.intro hm1 hm2)
  clear hm1 hm2
  go_wp2_with fail
  have hw2 : w.heap.size + 1 + 1 ≤ w2.heap.size := by have := R.lt; omega
  have L := Box.new w2 [.int .i64 m1, .int .i64 m2] 58
  have X := X.alloc (.cells #[.int .i64 m1, .int .i64 m2] 58)
  have R := R.alloc (.cells #[.int .i64 m1, .int .i64 m2] 58)
  have hRL := R.lt
  have hs2 := hB.size
  have hB := hB.alloc hB.size (.cells #[.int .i64 m1, .int .i64 m2] 58)
  refine (nValid_at hv _).mono ?_
  rintro e w3 ⟨rfl, hb⟩
  have X := X.later hb
  have R := R.later hb
  have L := L.later hb
  have hB := hB.trans (hb.mono hB.size)
  clear hb hRL hs2
  obtain ⟨LL, hLL⟩ : ∃ LL, w2.heap.size = LL := ⟨_, rfl⟩
  rw [hLL] at L hw2 ⊢
  clear hLL
  have x0 : w3.cell? ⟨w.heap.size, 0, none⟩ = some (.slice Aq nq cq) := X.cell 0
  have x1 : w3.cell? ⟨w.heap.size, 1, none⟩ = some (.slice Aa na ca) := X.cell 1
  have l0 : w3.cell? ⟨LL, 0, none⟩ = some (.int .i64 m1) := L.cell 0
  have l1 : w3.cell? ⟨LL, 1, none⟩ = some (.int .i64 m2) := L.cell 1
  have f0 := R.free 0
  have f1 := R.free 1
  have r0 : w3.cell? ⟨w.heap.size + 1, 0, none⟩ = some (.slice none 0 0) := R.cell 0
  have r1 : w3.cell? ⟨w.heap.size + 1, 1, none⟩ = some (.slice none 0 0) := R.cell 1
  have rz := R.lt
  have xz := X.lt
  have lz := L.lt
  have hl2 : LL ≠ w.heap.size + 1 := by omega
  go_wp2_with fail
  clear x0 x1 l0 l1 f0 f1 r0 r1
  have X := (X.other (a := ⟨w.heap.size + 1, 0, none⟩) (by simp) (.slice Aq nq cq)).other (a := ⟨w.heap.size + 1, 1, none⟩) (by simp) (.slice none 0 0)
  have R := (R.set 0 (.slice Aq nq cq)).set 1 (.slice none 0 0)
  have L := (L.other (a := ⟨w.heap.size + 1, 0, none⟩) hl2 (.slice Aq nq cq)).other (a := ⟨w.heap.size + 1, 1, none⟩) hl2 (.slice none 0 0)
  have hB := (hB.setCell (p := ⟨w.heap.size + 1, 0, none⟩) (by simp) (.slice Aq nq cq)).setCell (p := ⟨w.heap.size + 1, 1, none⟩) (by simp) (.slice none 0 0)
  generalize (w3.setCell ⟨w.heap.size + 1, 0, none⟩ (.slice Aq nq cq)).setCell ⟨w.heap.size + 1, 1, none⟩ (.slice none 0 0) = w4 at X R L hB ⊢
  refine (nCuts_any _ _ _ _ _ _ _).mono ?_
  rintro e W0 ⟨rfl, P0, P1, P2, hb⟩
  have R := R.later hb
  have hlt := Lib.hid R.lt
  have hB := hB.trans (hb.mono hB.size)
  have hw4 := X.lt
  have hrz : w.heap.size + 1 < w4.heap.size := by have := L.lt; omega
  clear hb X L
  generalize w4.heap.size = D0 at *
  simp only [List.set_cons_zero, List.set_cons_succ] at R
  go_wp2_with fail
  have hL : Hid (LksAt W0 D (.slice Aa na ca) n.apart) := Lib.hid (hN.out.below (hB.mono hDw)).apart
  have hDW := Nat.le_trans hDw hB.size
  have hOw : OwnLk W0 W0.heap.size (.slice none 0 0) [] := ownLk_nil _ _
  refine wpIn_wide.1 (wpIn_rangeFunc_ownH (n := 6) rfl (by omega) (gf := 46) (lb := #[.pointer (some ⟨D0 + 1, 0, none⟩), .pointer (some ⟨D0 + 1 + 1, 0, none⟩), .pointer (some ⟨D0, 0, none⟩)]) rfl trivial (enters_of Try.func46 (by kernel_rfl) rfl)
    (cuts_stops 5 300 n.apart Aa na ca m1 m2 on (D0 + 1) (D0 + 1 + 1) D0 W0 D hDW hL P1 P2 P0 (w.heap.size + 1) (by omega) (by omega) (by omega) (by omega) (by omega)) (fun h k => KeepsX.trans h k) (KeepsX.putObj (Nat.le_refl _)) (Below.refl _ _) (fun _ => rfl)
    (CutI w (w.heap.size + 1) W0.heap.size (.slice Aq nq cq)) (fun _ _ _ => False) ?hI ?hIx ?h0
    (fun x a' W => ∃ D1, W0.heap.size ≤ D1 ∧ Box W D1 [.int .i64 x.1, .int .i64 x.2] ∧ a' = { tmps := #[.agg #[.slice Aq nq cq, .slice Aa na ca], .int .i64 a, .int .i64 b, .bool on, .pointer (some ⟨w.heap.size, 0, none⟩), undef, undef, undef, .pointer (some ⟨w.heap.size + 1, 0, none⟩), .int .i64 0, .pointer (some ⟨LL, 0, none⟩), .pointer (some ⟨D1, 0, none⟩), .agg #[.slice Aq nq cq, .slice Aa na ca], .int .i64 0, .bool false, undef, .int .i64 a, .int .i64 b, pairV m1 m2, .agg #[.int .i64 m1, .int .i64 m2], .bool true, .bool false, undef, .pointer (some ⟨w.heap.size, 0, none⟩), .slice Aq nq cq, .agg #[.slice Aq nq cq, .slice none 0 0], .pointer (some ⟨w.heap.size, 1, none⟩), .slice Aa na ca, .agg #[.int .i64 m1, .int .i64 m2], .bool on, .func (.func 46) #[] #[.pointer (some ⟨D0 + 1, 0, none⟩), .pointer (some ⟨D0 + 1 + 1, 0, none⟩), .pointer (some ⟨D0, 0, none⟩)], .agg #[.int .i64 x.1, .int .i64 x.2], undef, undef, undef, undef, undef, undef, undef], defers := [] })
    ?hAx ?assign ?body ?done ?stop)
  case hI => exact cutI_own hB.size
  case hIx => exact fun _ _ _ _ _ h _ _ => h
  case h0 => exact ⟨_, R, hOw, hB, Nat.le_refl _⟩
  case hAx =>
    rintro x a' _ X Y row ⟨D1, hD, hb, rfl⟩ hg hr
    exact ⟨D1, hD, box_own (β := Unit) _ _ () X Y row hb hg (fun k e => (hr k e).2), rfl⟩
  case assign =>
    rintro l pre x W K ⟨V, bR, ho, hb, hle⟩ hK
    gi_wp2
    exact hK _ _ ((KeepsOthers.alloc _ _).from _) (KeepsX.of ((Below.refl _ W).alloc hle _)) ⟨V, bR.alloc _, World.ownsRow.alloc ho _, hb.alloc hb.size _, by simp; omega⟩ ⟨W.heap.size, hle, Box.new W [.int .i64 x.1, .int .i64 x.2] _, rfl⟩
  case body =>
    rintro l pre x a' W hl _ ⟨V, bR, ho, hb, hle⟩ ⟨D1, hD, bD, rfl⟩ hlen
    obtain ⟨Ao, ko, co, rfl⟩ := owns_form ho
    have ho2 := World.ownsRow.alloc ho (.cells #[.int .i64 x.1, .int .i64 x.2] 55)
    have bN := Box.new W [.int .i64 x.1, .int .i64 x.2] 55
    have bR2 := bR.alloc (.cells #[.int .i64 x.1, .int .i64 x.2] 55)
    obtain ⟨v', W', hrun, ho3, hb3, hg⟩ := run_own_lk 23 ho2 bN (by simp; omega) (by omega)
    have happ : (appF #[23, 23] 23 #[.slice Ao ko co, .slice (some ⟨W.heap.size, 0, none⟩) 1 1]).run Try.prog (W.alloc (.cells #[.int .i64 x.1, .int .i64 x.2] 55)) = .ok v' W' := hrun
    clear hrun
    have hlt := hlt.out
    have bR3 := Box.keep bR2 hlt hb3
    obtain ⟨Av, kv, cv, rfl⟩ := owns_form ho3
    have hKF := ((KeepsOthers.alloc W (.cells #[.int .i64 x.1, .int .i64 x.2] 55)).trans (KeepsOthers.of_grownBy hg (fun j o e h => owns_cells ho2 j o e h))).trans (KeepsOthers.setCell W' ⟨w.heap.size + 1, 1, none⟩ (.slice Av kv cv))
    have hKX : KeepsX (w.heap.size + 1) W0.heap.size W (W'.setCell ⟨w.heap.size + 1, 1, none⟩ (.slice Av kv cv)) := (KeepsX.of (((Below.refl W0.heap.size W).alloc hle _).trans hb3)).trans (KeepsX.set _ _ _)
    have hI2 : CutI w (w.heap.size + 1) W0.heap.size (.slice Aq nq cq) (pre ++ [x]) (W'.setCell ⟨w.heap.size + 1, 1, none⟩ (.slice Av kv cv)) :=
      ⟨_, bR3.set 1 _, World.ownsRow.kept ho3 (grownBy_set _ _ _ _) (owns_ne ho3 hlt), ((hb.alloc hb.size _).trans (hb3.mono hB.size)).setCell (by simp) _, Nat.le_trans (Nat.le_trans hle (by simp)) (Nat.le_trans hb3.size (by simp))⟩
    have hEnd := Lib.hid (And.intro (hKF.from W0.heap.size) (And.intro hKX hI2))
    clear hKF hKX hI2 ho3 ho2 hg bN bR2
    have r1 : W.cell? ⟨w.heap.size + 1, 1, none⟩ = some (.slice Ao ko co) := bR.cell 1
    have d0 : W.cell? ⟨D1, 0, none⟩ = some (.int .i64 x.1) := bD.cell 0
    have d1 : W.cell? ⟨D1, 1, none⟩ = some (.int .i64 x.2) := bD.cell 1
    have s1 : W'.cell? ⟨w.heap.size + 1, 1, none⟩ = some (.slice Ao ko co) := bR3.cell 1
    have s2 := bR3.free 1
    have s3 := bR3.lt
    have hDz := bD.lt
    gi_wp2
    exact hEnd.out
  case done =>
    rintro D1 xs W hD hS ⟨V, bR, ho, hb, hle⟩ hK
    have hlt := hlt.out
    obtain ⟨Ao, ko, co, rfl⟩ := owns_form ho
    have r0 : W.cell? ⟨w.heap.size + 1, 0, none⟩ = some (.slice Aq nq cq) := bR.cell 0
    have r1 : W.cell? ⟨w.heap.size + 1, 1, none⟩ = some (.slice Ao ko co) := bR.cell 1
    have f0 := bR.free 0
    have f1 := bR.free 1
    have rz := bR.lt
    have HS := Lib.hid hS
    clear hS
    go_wp2
    have bR2 := (bR.set 0 (.slice Aq nq cq)).set 1 (.slice Ao ko co)
    have hb2 := (hb.setCell (p := ⟨w.heap.size + 1, 0, none⟩) (by simp) (.slice Aq nq cq)).setCell (p := ⟨w.heap.size + 1, 1, none⟩) (by simp) (.slice Ao ko co)
    have ho1 := World.ownsRow.kept ho (grownBy_set W (w.heap.size + 1) 0 (.slice Aq nq cq)) (owns_ne ho hlt)
    have ho2 := World.ownsRow.kept ho1 (grownBy_set _ (w.heap.size + 1) 1 (.slice Ao ko co)) (owns_ne ho1 hlt)
    have hKf := (Below.heap_setCell (W.setCell ⟨w.heap.size + 1, 0, none⟩ (.slice Aq nq cq)) ⟨w.heap.size + 1, 1, none⟩ (.slice Ao ko co) D1 (by simp; omega)).trans ((Below.heap_setCell W ⟨w.heap.size + 1, 0, none⟩ (.slice Aq nq cq) D1 (by simp; omega)).trans hK)
    generalize (W.setCell ⟨w.heap.size + 1, 0, none⟩ (.slice Aq nq cq)).setCell ⟨w.heap.size + 1, 1, none⟩ (.slice Ao ko co) = W2 at bR2 hb2 ho2 hKf ⊢
    simp only [List.set_cons_zero, List.set_cons_succ] at bR2
    refine ⟨by simp, .inl ⟨_, _, rfl, run_takeDeferred hKf, ?_⟩⟩
    have bR3 := bR2.put (l := D1) (by omega) (.deferred none)
    have hb3 := below_put hb2 (Nat.le_trans hB.size hD) (.deferred none)
    have ho3 : OwnLk (W2.putObj D1 (.deferred none)) W0.heap.size (.slice Ao ko co) xs := ownsRow_putObj ho2 (.deferred none) hKf rfl
    generalize W2.putObj D1 (.deferred none) = W3 at bR3 hb3 ho3 ⊢
    have e0 : W3.cell? ⟨w.heap.size + 1, 0, none⟩ = some (.slice Aq nq cq) := bR3.cell 0
    have e1 : W3.cell? ⟨w.heap.size + 1, 1, none⟩ = some (.slice Ao ko co) := bR3.cell 1
    refine ⟨_, (by simp [results, Try.results20, go_sem, e0, e1] : _ = Result.ok (.tuple #[.agg #[.slice Aq nq cq, .slice Ao ko co], .int .i64 0]) _), ?_⟩
    have hlen : xs.length ≤ 276 := by rw [HS.out, ← linksTo_all]; exact kept_len _ (by omega) (by omega)
    refine ⟨_, _, _, 0, rfl, hs, ⟨((hN.out.queue.below (hb3.mono hDw)).two (Nat.le_trans hDw hb3.size)), ?_⟩, hb3⟩
    have hlk : Lks2 W3 D W0.heap.size (.slice Ao ko co) xs := ho3.two (by unfold maxLen; omega)
    rw [HS.out, ← HM.out.1, ← HM.out.2] at hlk
    exact ⟨hlk.1, hlk.2.lower hB.size⟩
  case stop =>
    rintro D1 cc pre W hD hpre hf
    exact hf.elim

theorem hasB_mem {l : List (Int × Int)} {a b : Int} : hasB l a b = decide ((a, b) ∈ l) := by
  rw [Bool.eq_iff_iff]
  simp only [hasB, List.any_eq_true, Bool.and_eq_true, decide_eq_true_eq]
  constructor
  · rintro ⟨⟨x, y⟩, h, rfl, rfl⟩; exact h
  · intro h; exact ⟨_, h, rfl, rfl⟩
theorem keptC_eq (l : List (Int × Int)) (a b : Int) (on : Bool) : keptC l (min a b) (max a b) on = keptB l a b on := by
  funext x
  obtain ⟨x, y⟩ := x
  unfold keptC keptB
  by_cases h : x = min a b ∧ y = max a b
  · rw [if_pos h, if_pos (by rw [h.1, h.2])]
  · rw [if_neg h, if_neg (by simpa using h), hasB_mem]

theorem nCut_any (n : Net) (Vq Va : Value) (a b : Int) (on : Bool) (w : World) (D : Nat) (hDw : D ≤ w.heap.size) (hN : NetAt w D Vq Va n) :
    Calls Try.prog 20 #[.agg #[Vq, Va], .int .i64 a, .int .i64 b, .bool on] w (RetNet (cutT n a b on) D w) := by
  obtain ⟨Aq, cq, rfl, _⟩ := hN.queue.form
  obtain ⟨Aa, ca, rfl, _⟩ := hN.apart.form
  rcases hok : n.okB with _ | _
  · exact nCut_1 n _ _ a b on w D hDw hN (check_bad hok) (by rw [Hid, cutT, if_neg (by rw [hok]; decide)])
  · rcases hv : linkB (min a b) (max a b) with _ | _
    · exact nCut_2 n Aq _ cq Aa _ ca a b on w D hDw hN (check_good hok) hv (by rw [Hid, cutT, if_pos hok, if_neg (by rw [hv]; decide)])
    · exact nCut_3 n Aq _ cq Aa _ ca a b on w D hDw hN (check_good hok) hv (by rw [Hid, cutT, if_pos hok, if_pos hv, keptC_eq])

end Go.Proofs.Ytndjpaiakodciaa
