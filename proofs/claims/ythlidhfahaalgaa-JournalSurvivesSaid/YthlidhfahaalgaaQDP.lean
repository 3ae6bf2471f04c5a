/-
  The iterator slices.Backward over writes. No condition.
-/
import Derived.RangeFuncNested
import Derived.RangeFuncBound
import Derived.RangeFuncCalls
import Derived.RangeFuncLeaves
import Derived.RangeFuncBox
import Derived.Shelf.Abstract
import Derived.Shelf.RegionOpen
import Derived.OwnWalkIn
import Derived.TacticsInMore
import Derived.LoopNIn
import Derived.LoopIn
import Derived.Maps.AppendAt
import Derived.Test.YthlidhfahaalgaaQDN
import Derived.StillTailTactics
namespace Go.Proofs.Ythlidhfahaalgaa
open Go.RowKit Go.Shelf
attribute [local go_sem] Oper.semAt_some

/-- An element as the iterator hands it on: its place, its slice (address, length, capacity), its number. -/
abbrev WEl := Nat × (Option Addr × Nat × Nat) × Int
/-- The p-th element handed on. -/
def WRel (l : List Wr) (w : World) (S : Nat → Prop) (p : Nat) (x : WEl) : Prop := p < l.length ∧ x.1 = l.length - 1 - p ∧ x.2.2 = (l.getD x.1 Wr.zero).at' ∧ BsAt w S (.slice x.2.1.1 x.2.1.2.1 x.2.1.2.2) (l.getD x.1 Wr.zero).data
def WPre (l : List Wr) (w : World) (S : Nat → Prop) (pre : List WEl) : Prop := ∀ p x, pre[p]? = some x → WRel l w S p x
theorem WPre.snoc {l : List Wr} {w : World} {S : Nat → Prop} {pre : List WEl} {x : WEl} (h : WPre l w S pre) (hx : WRel l w S pre.length x) : WPre l w S (pre ++ [x]) := by
  intro p y hy
  rcases Nat.lt_or_ge p pre.length with hp | hp
  · rw [List.getElem?_append_left hp] at hy
    exact h p y hy
  · rw [List.getElem?_append_right hp] at hy
    have h0 : p - pre.length = 0 := by
      rcases Nat.eq_zero_or_pos (p - pre.length) with h0 | h0
      · exact h0
      · rw [List.getElem?_eq_none (by simp; omega)] at hy; cases hy
    rw [h0] at hy
    obtain rfl : x = y := by simpa using hy
    obtain rfl : p = pre.length := by omega
    exact hx
/-- No write matches. -/
theorem lastW_none {l : List Wr} {i : Int} {b : Bs} (h : ∀ x ∈ l, x.at' ≠ i) : lastW l i b = b := by
  induction l generalizing b with
  | nil => rfl
  | cons y l ih =>
    rw [lastW, List.foldl_cons, if_neg (h y List.mem_cons_self)]
    exact ih fun x hx => h x (List.mem_cons_of_mem _ hx)
theorem lastW_at {l : List Wr} {i : Int} {b : Bs} {k : Nat} (hk : k < l.length) (h1 : (l.getD k Wr.zero).at' = i) (h2 : ∀ j, k < j → j < l.length → (l.getD j Wr.zero).at' ≠ i) : lastW l i b = (l.getD k Wr.zero).data := by
  have e : l = l.take k ++ (l[k] :: l.drop (k + 1)) := by rw [List.getElem_cons_drop, List.take_append_drop]
  have eg : l.getD k Wr.zero = l[k] := by rw [List.getD_eq_getElem?_getD, List.getElem?_eq_getElem hk]; rfl
  rw [eg] at h1 ⊢
  rw [show lastW l i b = lastW (l.take k ++ (l[k] :: l.drop (k + 1))) i b from congrArg (fun z => lastW z i b) e, lastW, List.foldl_append, List.foldl_cons, if_pos h1]
  refine lastW_none fun x hx => ?_
  obtain ⟨j, hj, rfl⟩ := List.getElem_of_mem hx
  have hj2 : k + 1 + j < l.length := by rw [List.length_drop] at hj; omega
  rw [List.getElem_drop]
  have := h2 (k + 1 + j) (by omega) hj2
  rwa [List.getD_eq_getElem?_getD, List.getElem?_eq_getElem hj2] at this
theorem pre_none {l : List Wr} {w : World} {S : Nat → Prop} {pre : List WEl} {i : Int} {b : Bs} (h : WPre l w S pre) (hl : pre.length = l.length) (hne : ∀ x ∈ pre, x.2.2 ≠ i) : lastW l i b = b := by
  refine lastW_none fun x hx => ?_
  obtain ⟨j, hj, rfl⟩ := List.getElem_of_mem hx
  have hp : l.length - 1 - j < pre.length := by omega
  obtain ⟨_, h1, h2, _⟩ := h _ _ (List.getElem?_eq_getElem hp)
  have h3 := hne _ (List.getElem_mem hp)
  have e : l.length - 1 - (l.length - 1 - j) = j := by omega
  rw [h2, h1, e, List.getD_eq_getElem?_getD, List.getElem?_eq_getElem hj] at h3
  exact h3
theorem pre_hit {l : List Wr} {w : World} {S : Nat → Prop} {pre : List WEl} {x : WEl} {i : Int} {b : Bs} (h : WPre l w S (pre ++ [x])) (hne : ∀ x ∈ pre, x.2.2 ≠ i) (hx : x.2.2 = i) :
    BsAt w S (.slice x.2.1.1 x.2.1.2.1 x.2.1.2.2) (lastW l i b) := by
  obtain ⟨hp, h1, h2, h3⟩ := h pre.length x (by rw [List.getElem?_append_right (Nat.le_refl _), Nat.sub_self]; rfl)
  rw [lastW_at (k := x.1) (by omega) (by rw [← h2]; exact hx) (fun j hj hjl => ?_)]
  · exact h3
  · have hq : l.length - 1 - j < pre.length := by omega
    obtain ⟨_, g1, g2, _⟩ := h (l.length - 1 - j) pre[l.length - 1 - j] (by rw [List.getElem?_append_left hq]; exact List.getElem?_eq_getElem hq)
    have := hne _ (List.getElem_mem hq)
    have e : l.length - 1 - (l.length - 1 - j) = j := by omega
    rw [g2, g1, e] at this
    exact this

end Go.Proofs.Ythlidhfahaalgaa

/-
  Contract of Read of disk. (Printed by gen_dq.py.)
-/
namespace Go.Proofs.Ythlidhfahaalgaa
open Go.RowKit Go.Shelf
attribute [local go_sem] Oper.semAt_some

/-- A result that is bytes and an error. -/
def RetBs (t : Bs × Int) (S : Nat → Prop) (w : World) (e : Ending) (w' : World) : Prop := ∃ (V : Value) (b : Bs) (er : Int), e = .returned (.tuple #[V, .int .i64 er]) ∧ Hid (t = (b, er)) ∧ Hid (BsAt w' (Grow S w) V b) ∧ Below w.heap.size w w'
theorem BsAt.back {w W : World} {S : Nat → Prop} {v : Value} {l : Bs} (h : BsAt W (Old S w) v l) (hb : Below w.heap.size w W) : BsAt w S v l := by
  obtain ⟨hf, A, c, e1, e2, e3⟩ := h
  refine ⟨hf, A, c, e1, e2, fun i hi => ?_⟩
  obtain ⟨b, off, h1, h2, _, h4⟩ := e3 i hi
  exact ⟨b, off, h1, h2.1, h2.2, fun j hj => (hb.cell (p := ⟨b, _, none⟩) h2.2).symm.trans (h4 j hj)⟩
theorem box_own {β : Type} (b : Nat) (xs : List Value) : Own (fun (_ : β) W => Box W b xs) := by
  rintro s X Y row ⟨t, ht⟩ hg hrow
  refine ⟨t, (hg.block b (Array.getElem?_eq_some_iff.1 ht).1 (fun e => ?_)).trans ht⟩
  obtain ⟨o, ho, hc⟩ := hrow b e.symm
  rw [ht] at ho; cases ho; cases hc
theorem Box.put {w : World} {b l : Nat} {xs : List Value} (h : Box w b xs) (hne : b ≠ l) (o : Obj) : Box (w.putObj l o) b xs := by
  obtain ⟨t, ht⟩ := h
  exact ⟨t, (World.putObj_heap_other hne).trans ht⟩
theorem below_put {B D : Nat} {w w' : World} (h : Below B w w') (hD : B ≤ D) (o : Obj) : Below B w (w'.putObj D o) :=
  ⟨h.os, h.tape, h.output, by simpa using h.size, fun k hk => (World.putObj_heap_other (by omega)).trans (h.block k hk)⟩
theorem calls_of_wp_marks {P : Program} {f : FuncId} {fn : Func} {c : Code} {args : Array Value} {w : World} {R : Ending → World → Prop} (hf : P.funcs[f]? = some fn) (hb : fn.body = some c)
    (h : c.wp P (bodyPostM Fence.wide 6 P fn R) { tmps := args ++ Array.replicate (fn.ntmps - args.size) undef, defers := [] } w) : Calls P f args w R :=
  callsIn_wide.1 (callsIn_of_wp_marks (n := 6) hf hb trivial (wpIn_wide.2 h) rfl)

end Go.Proofs.Ythlidhfahaalgaa

/-
  Contracts of Stop, Read and Write of the reference of chapter 4. (Printed by gen_dr.py.)
-/
namespace Go.Proofs.Ythlidhfahaalgaa
open Go.RowKit
attribute [local go_sem ↓ high] app_named cop_named

theorem gate_of (d : Dk) : (d.runs = false ∧ d.checkT = 40) ∨ (d.runs = false ∧ d.checkT = 0 ∧ d.stopped = true) ∨ (d.runs = true ∧ d.checkT = 0 ∧ d.stopped = false) := by
  rcases h : d.okB with _ | _
  · exact .inl ⟨by rw [runs_eq, h]; rfl, check_bad h⟩
  · rcases h2 : d.stopped with _ | _
    · exact .inr (.inr ⟨by rw [runs_eq, h, h2]; rfl, check_good h, rfl⟩)
    · exact .inr (.inl ⟨by rw [runs_eq, h, h2]; rfl, check_good h, rfl⟩)
end Go.Proofs.Ythlidhfahaalgaa

/-
  Contract of Write of the reference of chapter 4. (Printed by gen_ds.py.)
-/
namespace Go.Proofs.Ythlidhfahaalgaa
open Go.RowKit
attribute [local go_sem ↓ high] app_named cop_named

theorem OwnBs.form' {w : World} {base : Nat} {v : Value} {l : Bs} (h : OwnBs w base v l) : ∃ A c, v = .slice A l.length c := by
  rcases h.2 with ⟨h1, h2⟩ | ⟨g, cap, cur, hv, _⟩
  · exact ⟨none, 0, by rw [h1, h2]⟩
  · exact ⟨_, _, hv⟩
/-- One byte more is appended to a row of the call's own. -/
theorem run_ownB {w : World} {base bb : Nat} {v : Value} {l : Bs} (x : UInt8) (ho : OwnBs w base v l) (hX : Box w bb [.int .u8 (x.toNat : Int)]) (hbase : base ≤ w.heap.size) (hl : l.length ≤ 1048576) :
    ∃ v' w', (appF #[35, 35] 35 #[v, .slice (some ⟨bb, 0, none⟩) 1 1]).run Try.prog w = .ok v' w' ∧ OwnBs w' base v' (l ++ [x]) ∧ Below base w w' := by
  obtain ⟨i, E⟩ := elem_by
  have ho' : w.ownsRow base 5 1 v l.length (flat l.length 1 (fun i _ => .int .u8 ((l.getD i 0).toNat : Int))) := by rw [byV_flat]; exact ho
  have hrow := World.ownsRow.lt ho'
  have hx : Sl w w.heap.size 1 1 (fun _ _ => .int .u8 (x.toNat : Int)) (.slice (some ⟨bb, 0, none⟩) 1 1) := by
    refine ⟨_, _, rfl, by simp [maxLen], fun i hi => ⟨bb, 0, rfl, hX.lt, fun j hj => ?_⟩⟩
    obtain rfl : i = 0 := by omega
    obtain rfl : j = 0 := by omega
    exact hX.cell 0
  obtain ⟨v', w', hr, ho2, hg⟩ := run_app_own E 35 ho' hx (.inr ⟨_, _, _, rfl, Nat.le_refl _, by simp [maxLen]⟩) (fun _ _ _ _ => rfl) (by simp only [maxLen]; omega) (by omega) hbase
  refine ⟨v', w', hr, ?_, (Below.refl base w).grown hg hbase (fun k hk => (hrow k hk).1)⟩
  rw [flat_cat l.length 1 1 (by decide), byV_flat, show flat 1 1 (fun _ _ => Value.int .u8 (x.toNat : Int)) = byV [x] from rfl, ← byV_append] at ho2
  unfold OwnBs
  rw [List.length_append]
  exact ho2
/-- A row of writes of the call's own, whose data lie in blocks of the kind S. -/
def OwnWs (w : World) (base : Nat) (S : Nat → Prop) (v : Value) (l : List Wr) : Prop :=
  ∃ V : Nat → Value, w.ownsRow base 76 2 v l.length (flat l.length 2 (wrCells l V)) ∧ ∀ (i : Nat) (x : Wr), l[i]? = some x → BsAt w S (V i) x.data
theorem OwnWs.ws {w : World} {base : Nat} {S S' : Nat → Prop} {v : Value} {l : List Wr} (h : OwnWs w base S v l) (hm : l.length ≤ maxLen) (h1 : ∀ b, S b → b < w.heap.size → S' b) (h2 : ∀ b, base ≤ b → S' b) : WsAt w S' v l := by
  obtain ⟨V, ho, hb⟩ := h
  obtain ⟨s, f⟩ := own_slp ho hm
  exact ⟨f, V, s.weak fun b hb _ => h2 b hb, fun i x hx => (hb i x hx).weak h1⟩
theorem OwnWs.alloc {w : World} {base : Nat} {S : Nat → Prop} {v : Value} {l : List Wr} (h : OwnWs w base S v l) (o : Obj) : OwnWs (w.alloc o) base S v l := by
  obtain ⟨V, ho, hb⟩ := h
  exact ⟨V, ho.alloc o, fun i x hx => (hb i x hx).keep (Keeps.of ((Below.refl _ _).alloc (Nat.le_refl _) o))⟩
theorem run_cloneW {w : World} {S : Nat → Prop} {n c : Nat} {A : Option Addr} {l : List Wr} (h : WsAt w S (.slice A n c) l) (hn : l.length ≤ 1048576) :
    ∃ v' w', (appF #[23, 23] 23 #[.slice (some ⟨w.heap.size, 0, none⟩) 0 0, .slice A n c]).run Try.prog (w.alloc (.cells #[] 76)) = .ok v' w' ∧ OwnWs w' w.heap.size (Old S w) v' l ∧ Below w.heap.size w w' := by
  obtain ⟨hf, g, hs, hb⟩ := h
  obtain ⟨i, E⟩ := elem_wr
  obtain ⟨A', c', hv, hm⟩ := hs.form
  cases hv
  obtain ⟨v', w', hr, ho, hbel⟩ := run_clone E hs hf (fun k j hk _ => wr_one hb hk) (by omega)
  exact ⟨v', w', hr, ⟨g, ho, fun j x hx => (hb j x hx).old.keep (Keeps.of hbel)⟩, hbel⟩
theorem run_ownW {w : World} {base bb : Nat} {S : Nat → Prop} {v V : Value} {l : List Wr} (x : Wr) (ho : OwnWs w base S v l) (hX : Box w bb [.int .i64 x.at', V]) (hV : BsAt w S V x.data) (hS : ∀ b, S b → b < base) (hbase : base ≤ w.heap.size) (hl : l.length ≤ 1048576) :
    ∃ v' w', (appF #[23, 23] 23 #[v, .slice (some ⟨bb, 0, none⟩) 1 1]).run Try.prog w = .ok v' w' ∧ OwnWs w' base S v' (l ++ [x]) ∧ Below base w w' := by
  obtain ⟨i, E⟩ := elem_wr
  obtain ⟨U, ho, hb⟩ := ho
  have hrow := World.ownsRow.lt ho
  have hx : Sl w w.heap.size 2 1 (wrCells [x] fun _ => V) (.slice (some ⟨bb, 0, none⟩) 1 1) := by
    refine ⟨_, _, rfl, by simp [maxLen], fun i hi => ⟨bb, 0, rfl, hX.lt, fun j hj => ?_⟩⟩
    obtain rfl : i = 0 := by omega
    rcases (show j = 0 ∨ j = 1 by omega) with rfl | rfl
    · exact hX.cell 0
    · exact hX.cell 1
  have hone : ∀ k j, k < 1 → j < 2 → (wrCells [x] (fun _ => V) k j).oneCell' = true := by
    intro k j hk _
    obtain rfl : k = 0 := by omega
    unfold wrCells
    split
    · rfl
    · exact bsAt_one hV
  obtain ⟨v', w', hr, ho2, hg⟩ := run_app_own E 23 ho hx (.inr ⟨_, _, _, rfl, Nat.le_refl _, by simp [maxLen]⟩) hone (by simp only [maxLen]; omega) (by omega) hbase
  have hbel : Below base w w' := (Below.refl base w).grown hg hbase (fun k hk => (hrow k hk).1)
  have hk : Keeps S w w' := Keeps.from hbel (fun b h _ => hS b h)
  refine ⟨v', w', hr, ⟨fun i => if i < l.length then U i else V, ?_, fun j y hy => ?_⟩, hbel⟩
  · rw [List.length_append]
    rw [flat_congr' (h := wrCells (l ++ [x]) (fun i => if i < l.length then U i else V)) (by decide) (fun i j hi hj => by
      unfold cat wrCells
      by_cases h : i < l.length
      · simp only [if_pos h, List.getD_eq_getElem?_getD, List.getElem?_append_left h]
      · obtain rfl : i = l.length := by omega
        simp)] at ho2
    exact ho2
  · by_cases h : j < l.length
    · rw [List.getElem?_append_left h] at hy
      simp only [if_pos h]
      exact (hb j y hy).keep hk
    · rw [List.getElem?_append_right (by omega)] at hy
      have hj : j - l.length = 0 := by
        rcases Nat.eq_zero_or_pos (j - l.length) with h0 | h0
        · exact h0
        · rw [List.getElem?_eq_none (by simp; omega)] at hy; cases hy
      rw [hj] at hy
      obtain rfl : x = y := by simpa using hy
      simp only [if_neg h]
      exact hV.keep hk

set_option maxRecDepth 100000 in
set_option maxHeartbeats 4000000 in
theorem dRWrite_1 (d : Dk) (As : Option Addr) (ns cs : Nat) (Ap : Option Addr) (np cp : Nat) (dl : Int) (ds : Bool) (S : Nat → Prop) (w : World) (hD : Hid (DkAt w S (.slice As ns cs) (.slice Ap np cp) d)) (hdl : Hid (d.left = dl)) (hds : Hid (d.stopped = ds)) (i : Int) (Ab : Option Addr) (nb cb : Nat) (b : Bs) (hc : Hid (d.checkT = 40)) (hs : Hid (writeT d i b = (Dk.zero, 40))) : Calls Try.prog 46 #[.agg #[.slice As ns cs, .slice Ap np cp, .int .i64 dl, .bool ds], .int .i64 i, .slice Ab nb cb] w (RetDk (writeT d i b) S w) := by
  have HB0 : Below w.heap.size w ((w.alloc (.cells #[.slice As ns cs, .slice Ap np cp, .int .i64 dl, .bool ds] 25)).alloc (.cells #[.slice none 0 0, .slice none 0 0, .int .i64 0, .bool false] 25)) := (((Below.refl w.heap.size w).alloc (by simp <;> omega) (.cells #[.slice As ns cs, .slice Ap np cp, .int .i64 dl, .bool ds] 25)).alloc (by simp <;> omega) (.cells #[.slice none 0 0, .slice none 0 0, .int .i64 0, .bool false] 25))
  have HD0 := Lib.hid (hD.out.keep (Keeps.of HB0))
  go_enter Try.func46, Try.ntmps46
  go_wp2_with fail
  refine (dRCheck_at hc HD0.out hdl hds).mono ?_
  rintro e w1 ⟨rfl, hb⟩
  have X0 := (((Box.newAt (n := w.heap.size) [.slice As ns cs, .slice Ap np cp, .int .i64 dl, .bool ds] 25 (by simp)).alloc _)).later hb
  have R := ((Box.newAt (n := w.heap.size + 1) [.slice none 0 0, .slice none 0 0, .int .i64 0, .bool false] 25 (by simp))).later hb
  have hB : Below w.heap.size w w1 := ((((Below.refl w.heap.size w).alloc (by simp <;> omega) _).alloc (by simp <;> omega) _)).trans (hb.mono (by simp <;> omega))
  clear hb
  have X0c0 : w1.cell? ⟨w.heap.size, 0, none⟩ = some (.slice As ns cs) := X0.cell 0
  have X0f0 : w1.frozen? ⟨w.heap.size, 0, none⟩ = false := X0.free 0
  have X0c1 : w1.cell? ⟨w.heap.size, 1, none⟩ = some (.slice Ap np cp) := X0.cell 1
  have X0f1 : w1.frozen? ⟨w.heap.size, 1, none⟩ = false := X0.free 1
  have X0c2 : w1.cell? ⟨w.heap.size, 2, none⟩ = some (.int .i64 dl) := X0.cell 2
  have X0f2 : w1.frozen? ⟨w.heap.size, 2, none⟩ = false := X0.free 2
  have X0c3 : w1.cell? ⟨w.heap.size, 3, none⟩ = some (.bool ds) := X0.cell 3
  have X0f3 : w1.frozen? ⟨w.heap.size, 3, none⟩ = false := X0.free 3
  have X0z : w.heap.size < w1.heap.size := X0.lt
  have Rc0 : w1.cell? ⟨w.heap.size + 1, 0, none⟩ = some (.slice none 0 0) := R.cell 0
  have Rf0 : w1.frozen? ⟨w.heap.size + 1, 0, none⟩ = false := R.free 0
  have Rc1 : w1.cell? ⟨w.heap.size + 1, 1, none⟩ = some (.slice none 0 0) := R.cell 1
  have Rf1 : w1.frozen? ⟨w.heap.size + 1, 1, none⟩ = false := R.free 1
  have Rc2 : w1.cell? ⟨w.heap.size + 1, 2, none⟩ = some (.int .i64 0) := R.cell 2
  have Rf2 : w1.frozen? ⟨w.heap.size + 1, 2, none⟩ = false := R.free 2
  have Rc3 : w1.cell? ⟨w.heap.size + 1, 3, none⟩ = some (.bool false) := R.cell 3
  have Rf3 : w1.frozen? ⟨w.heap.size + 1, 3, none⟩ = false := R.free 3
  have Rz : w.heap.size + 1 < w1.heap.size := R.lt
  go_wp2
  have hY := ((((R.set 0 (.slice none 0 0)).set 1 (.slice none 0 0)).set 2 (.int .i64 0)).set 3 (.bool false))
  have hB := ((((hB.setCell (p := ⟨w.heap.size + 1, 0, none⟩) (by simp <;> omega) (.slice none 0 0)).setCell (p := ⟨w.heap.size + 1, 1, none⟩) (by simp <;> omega) (.slice none 0 0)).setCell (p := ⟨w.heap.size + 1, 2, none⟩) (by simp <;> omega) (.int .i64 0)).setCell (p := ⟨w.heap.size + 1, 3, none⟩) (by simp <;> omega) (.bool false))
  generalize ((((w1.setCell ⟨w.heap.size + 1, 0, none⟩ (.slice none 0 0)).setCell ⟨w.heap.size + 1, 1, none⟩ (.slice none 0 0)).setCell ⟨w.heap.size + 1, 2, none⟩ (.int .i64 0)).setCell ⟨w.heap.size + 1, 3, none⟩ (.bool false)) = W at hY hB ⊢
  have y0 : W.cell? ⟨w.heap.size + 1, 0, none⟩ = some (.slice none 0 0) := hY.cell 0
  have y1 : W.cell? ⟨w.heap.size + 1, 1, none⟩ = some (.slice none 0 0) := hY.cell 1
  have y2 : W.cell? ⟨w.heap.size + 1, 2, none⟩ = some (.int .i64 0) := hY.cell 2
  have y3 : W.cell? ⟨w.heap.size + 1, 3, none⟩ = some (.bool false) := hY.cell 3
  refine bodyPost_ret (v := .tuple #[.agg #[.slice none 0 0, .slice none 0 0, .int .i64 0, .bool false], .int .i64 40]) (by simp [results, Try.results46, go_sem, y0, y1, y2, y3]) rfl ?_
  exact ⟨_, _, Dk.zero, 40, rfl, hs, dkAt_zero _ _, hB⟩

set_option maxRecDepth 100000 in
set_option maxHeartbeats 4000000 in
theorem dRWrite_2 (d : Dk) (As : Option Addr) (ns cs : Nat) (Ap : Option Addr) (np cp : Nat) (dl : Int) (S : Nat → Prop) (w : World) (hD : Hid (DkAt w S (.slice As ns cs) (.slice Ap np cp) d)) (hdl : Hid (d.left = dl)) (hds : Hid (d.stopped = true)) (i : Int) (Ab : Option Addr) (nb cb : Nat) (b : Bs) (hc : Hid (d.checkT = 0)) (hs : Hid (writeT d i b = (Dk.zero, 40))) : Calls Try.prog 46 #[.agg #[.slice As ns cs, .slice Ap np cp, .int .i64 dl, .bool true], .int .i64 i, .slice Ab nb cb] w (RetDk (writeT d i b) S w) := by
  have HB0 : Below w.heap.size w ((w.alloc (.cells #[.slice As ns cs, .slice Ap np cp, .int .i64 dl, .bool true] 25)).alloc (.cells #[.slice none 0 0, .slice none 0 0, .int .i64 0, .bool false] 25)) := (((Below.refl w.heap.size w).alloc (by simp <;> omega) (.cells #[.slice As ns cs, .slice Ap np cp, .int .i64 dl, .bool true] 25)).alloc (by simp <;> omega) (.cells #[.slice none 0 0, .slice none 0 0, .int .i64 0, .bool false] 25))
  have HD0 := Lib.hid (hD.out.keep (Keeps.of HB0))
  go_enter Try.func46, Try.ntmps46
  go_wp2_with fail
  refine (dRCheck_at hc HD0.out hdl hds).mono ?_
  rintro e w1 ⟨rfl, hb⟩
  have X0 := (((Box.newAt (n := w.heap.size) [.slice As ns cs, .slice Ap np cp, .int .i64 dl, .bool true] 25 (by simp)).alloc _)).later hb
  have R := ((Box.newAt (n := w.heap.size + 1) [.slice none 0 0, .slice none 0 0, .int .i64 0, .bool false] 25 (by simp))).later hb
  have hB : Below w.heap.size w w1 := ((((Below.refl w.heap.size w).alloc (by simp <;> omega) _).alloc (by simp <;> omega) _)).trans (hb.mono (by simp <;> omega))
  clear hb
  have X0c0 : w1.cell? ⟨w.heap.size, 0, none⟩ = some (.slice As ns cs) := X0.cell 0
  have X0f0 : w1.frozen? ⟨w.heap.size, 0, none⟩ = false := X0.free 0
  have X0c1 : w1.cell? ⟨w.heap.size, 1, none⟩ = some (.slice Ap np cp) := X0.cell 1
  have X0f1 : w1.frozen? ⟨w.heap.size, 1, none⟩ = false := X0.free 1
  have X0c2 : w1.cell? ⟨w.heap.size, 2, none⟩ = some (.int .i64 dl) := X0.cell 2
  have X0f2 : w1.frozen? ⟨w.heap.size, 2, none⟩ = false := X0.free 2
  have X0c3 : w1.cell? ⟨w.heap.size, 3, none⟩ = some (.bool true) := X0.cell 3
  have X0f3 : w1.frozen? ⟨w.heap.size, 3, none⟩ = false := X0.free 3
  have X0z : w.heap.size < w1.heap.size := X0.lt
  have Rc0 : w1.cell? ⟨w.heap.size + 1, 0, none⟩ = some (.slice none 0 0) := R.cell 0
  have Rf0 : w1.frozen? ⟨w.heap.size + 1, 0, none⟩ = false := R.free 0
  have Rc1 : w1.cell? ⟨w.heap.size + 1, 1, none⟩ = some (.slice none 0 0) := R.cell 1
  have Rf1 : w1.frozen? ⟨w.heap.size + 1, 1, none⟩ = false := R.free 1
  have Rc2 : w1.cell? ⟨w.heap.size + 1, 2, none⟩ = some (.int .i64 0) := R.cell 2
  have Rf2 : w1.frozen? ⟨w.heap.size + 1, 2, none⟩ = false := R.free 2
  have Rc3 : w1.cell? ⟨w.heap.size + 1, 3, none⟩ = some (.bool false) := R.cell 3
  have Rf3 : w1.frozen? ⟨w.heap.size + 1, 3, none⟩ = false := R.free 3
  have Rz : w.heap.size + 1 < w1.heap.size := R.lt
  go_wp2
  have hY := ((((R.set 0 (.slice none 0 0)).set 1 (.slice none 0 0)).set 2 (.int .i64 0)).set 3 (.bool false))
  have hB := ((((hB.setCell (p := ⟨w.heap.size + 1, 0, none⟩) (by simp <;> omega) (.slice none 0 0)).setCell (p := ⟨w.heap.size + 1, 1, none⟩) (by simp <;> omega) (.slice none 0 0)).setCell (p := ⟨w.heap.size + 1, 2, none⟩) (by simp <;> omega) (.int .i64 0)).setCell (p := ⟨w.heap.size + 1, 3, none⟩) (by simp <;> omega) (.bool false))
  generalize ((((w1.setCell ⟨w.heap.size + 1, 0, none⟩ (.slice none 0 0)).setCell ⟨w.heap.size + 1, 1, none⟩ (.slice none 0 0)).setCell ⟨w.heap.size + 1, 2, none⟩ (.int .i64 0)).setCell ⟨w.heap.size + 1, 3, none⟩ (.bool false)) = W at hY hB ⊢
  have y0 : W.cell? ⟨w.heap.size + 1, 0, none⟩ = some (.slice none 0 0) := hY.cell 0
  have y1 : W.cell? ⟨w.heap.size + 1, 1, none⟩ = some (.slice none 0 0) := hY.cell 1
  have y2 : W.cell? ⟨w.heap.size + 1, 2, none⟩ = some (.int .i64 0) := hY.cell 2
  have y3 : W.cell? ⟨w.heap.size + 1, 3, none⟩ = some (.bool false) := hY.cell 3
  refine bodyPost_ret (v := .tuple #[.agg #[.slice none 0 0, .slice none 0 0, .int .i64 0, .bool false], .int .i64 40]) (by simp [results, Try.results46, go_sem, y0, y1, y2, y3]) rfl ?_
  exact ⟨_, _, Dk.zero, 40, rfl, hs, dkAt_zero _ _, hB⟩

set_option maxRecDepth 100000 in
set_option maxHeartbeats 4000000 in
theorem dRWrite_3 (d : Dk) (As : Option Addr) (ns cs : Nat) (Ap : Option Addr) (np cp : Nat) (dl : Int) (S : Nat → Prop) (w : World) (hD : Hid (DkAt w S (.slice As ns cs) (.slice Ap np cp) d)) (hdl : Hid (d.left = dl)) (hds : Hid (d.stopped = false)) (i : Int) (Ab : Option Addr) (nb cb : Nat) (b : Bs) (hc : Hid (d.checkT = 0)) (hi : i < 0) (hs : Hid (writeT d i b = (Dk.zero, 40))) : Calls Try.prog 46 #[.agg #[.slice As ns cs, .slice Ap np cp, .int .i64 dl, .bool false], .int .i64 i, .slice Ab nb cb] w (RetDk (writeT d i b) S w) := by
  have HB0 : Below w.heap.size w ((w.alloc (.cells #[.slice As ns cs, .slice Ap np cp, .int .i64 dl, .bool false] 25)).alloc (.cells #[.slice none 0 0, .slice none 0 0, .int .i64 0, .bool false] 25)) := (((Below.refl w.heap.size w).alloc (by simp <;> omega) (.cells #[.slice As ns cs, .slice Ap np cp, .int .i64 dl, .bool false] 25)).alloc (by simp <;> omega) (.cells #[.slice none 0 0, .slice none 0 0, .int .i64 0, .bool false] 25))
  have HD0 := Lib.hid (hD.out.keep (Keeps.of HB0))
  go_enter Try.func46, Try.ntmps46
  go_wp2_with fail
  refine (dRCheck_at hc HD0.out hdl hds).mono ?_
  rintro e w1 ⟨rfl, hb⟩
  have X0 := (((Box.newAt (n := w.heap.size) [.slice As ns cs, .slice Ap np cp, .int .i64 dl, .bool false] 25 (by simp)).alloc _)).later hb
  have R := ((Box.newAt (n := w.heap.size + 1) [.slice none 0 0, .slice none 0 0, .int .i64 0, .bool false] 25 (by simp))).later hb
  have hB : Below w.heap.size w w1 := ((((Below.refl w.heap.size w).alloc (by simp <;> omega) _).alloc (by simp <;> omega) _)).trans (hb.mono (by simp <;> omega))
  clear hb
  have X0c0 : w1.cell? ⟨w.heap.size, 0, none⟩ = some (.slice As ns cs) := X0.cell 0
  have X0f0 : w1.frozen? ⟨w.heap.size, 0, none⟩ = false := X0.free 0
  have X0c1 : w1.cell? ⟨w.heap.size, 1, none⟩ = some (.slice Ap np cp) := X0.cell 1
  have X0f1 : w1.frozen? ⟨w.heap.size, 1, none⟩ = false := X0.free 1
  have X0c2 : w1.cell? ⟨w.heap.size, 2, none⟩ = some (.int .i64 dl) := X0.cell 2
  have X0f2 : w1.frozen? ⟨w.heap.size, 2, none⟩ = false := X0.free 2
  have X0c3 : w1.cell? ⟨w.heap.size, 3, none⟩ = some (.bool false) := X0.cell 3
  have X0f3 : w1.frozen? ⟨w.heap.size, 3, none⟩ = false := X0.free 3
  have X0z : w.heap.size < w1.heap.size := X0.lt
  have Rc0 : w1.cell? ⟨w.heap.size + 1, 0, none⟩ = some (.slice none 0 0) := R.cell 0
  have Rf0 : w1.frozen? ⟨w.heap.size + 1, 0, none⟩ = false := R.free 0
  have Rc1 : w1.cell? ⟨w.heap.size + 1, 1, none⟩ = some (.slice none 0 0) := R.cell 1
  have Rf1 : w1.frozen? ⟨w.heap.size + 1, 1, none⟩ = false := R.free 1
  have Rc2 : w1.cell? ⟨w.heap.size + 1, 2, none⟩ = some (.int .i64 0) := R.cell 2
  have Rf2 : w1.frozen? ⟨w.heap.size + 1, 2, none⟩ = false := R.free 2
  have Rc3 : w1.cell? ⟨w.heap.size + 1, 3, none⟩ = some (.bool false) := R.cell 3
  have Rf3 : w1.frozen? ⟨w.heap.size + 1, 3, none⟩ = false := R.free 3
  have Rz : w.heap.size + 1 < w1.heap.size := R.lt
  go_wp2
  have hY := ((((R.set 0 (.slice none 0 0)).set 1 (.slice none 0 0)).set 2 (.int .i64 0)).set 3 (.bool false))
  have hB := ((((hB.setCell (p := ⟨w.heap.size + 1, 0, none⟩) (by simp <;> omega) (.slice none 0 0)).setCell (p := ⟨w.heap.size + 1, 1, none⟩) (by simp <;> omega) (.slice none 0 0)).setCell (p := ⟨w.heap.size + 1, 2, none⟩) (by simp <;> omega) (.int .i64 0)).setCell (p := ⟨w.heap.size + 1, 3, none⟩) (by simp <;> omega) (.bool false))
  generalize ((((w1.setCell ⟨w.heap.size + 1, 0, none⟩ (.slice none 0 0)).setCell ⟨w.heap.size + 1, 1, none⟩ (.slice none 0 0)).setCell ⟨w.heap.size + 1, 2, none⟩ (.int .i64 0)).setCell ⟨w.heap.size + 1, 3, none⟩ (.bool false)) = W at hY hB ⊢
  have y0 : W.cell? ⟨w.heap.size + 1, 0, none⟩ = some (.slice none 0 0) := hY.cell 0
  have y1 : W.cell? ⟨w.heap.size + 1, 1, none⟩ = some (.slice none 0 0) := hY.cell 1
  have y2 : W.cell? ⟨w.heap.size + 1, 2, none⟩ = some (.int .i64 0) := hY.cell 2
  have y3 : W.cell? ⟨w.heap.size + 1, 3, none⟩ = some (.bool false) := hY.cell 3
  refine bodyPost_ret (v := .tuple #[.agg #[.slice none 0 0, .slice none 0 0, .int .i64 0, .bool false], .int .i64 40]) (by simp [results, Try.results46, go_sem, y0, y1, y2, y3]) rfl ?_
  exact ⟨_, _, Dk.zero, 40, rfl, hs, dkAt_zero _ _, hB⟩

set_option maxRecDepth 100000 in
set_option maxHeartbeats 4000000 in
theorem dRWrite_4 (d : Dk) (As : Option Addr) (ns cs : Nat) (Ap : Option Addr) (np cp : Nat) (dl : Int) (S : Nat → Prop) (w : World) (hD : Hid (DkAt w S (.slice As ns cs) (.slice Ap np cp) d)) (hdl : Hid (d.left = dl)) (hds : Hid (d.stopped = false)) (i : Int) (Ab : Option Addr) (nb cb : Nat) (b : Bs) (hc : Hid (d.checkT = 0)) (hi0 : 0 ≤ i) (hi : (ns : Int) ≤ i) (hs : Hid (writeT d i b = (Dk.zero, 40))) : Calls Try.prog 46 #[.agg #[.slice As ns cs, .slice Ap np cp, .int .i64 dl, .bool false], .int .i64 i, .slice Ab nb cb] w (RetDk (writeT d i b) S w) := by
  have HB0 : Below w.heap.size w ((w.alloc (.cells #[.slice As ns cs, .slice Ap np cp, .int .i64 dl, .bool false] 25)).alloc (.cells #[.slice none 0 0, .slice none 0 0, .int .i64 0, .bool false] 25)) := (((Below.refl w.heap.size w).alloc (by simp <;> omega) (.cells #[.slice As ns cs, .slice Ap np cp, .int .i64 dl, .bool false] 25)).alloc (by simp <;> omega) (.cells #[.slice none 0 0, .slice none 0 0, .int .i64 0, .bool false] 25))
  have HD0 := Lib.hid (hD.out.keep (Keeps.of HB0))
  go_enter Try.func46, Try.ntmps46
  go_wp2_with fail
  refine (dRCheck_at hc HD0.out hdl hds).mono ?_
  rintro e w1 ⟨rfl, hb⟩
  have X0 := (((Box.newAt (n := w.heap.size) [.slice As ns cs, .slice Ap np cp, .int .i64 dl, .bool false] 25 (by simp)).alloc _)).later hb
  have R := ((Box.newAt (n := w.heap.size + 1) [.slice none 0 0, .slice none 0 0, .int .i64 0, .bool false] 25 (by simp))).later hb
  have hB : Below w.heap.size w w1 := ((((Below.refl w.heap.size w).alloc (by simp <;> omega) _).alloc (by simp <;> omega) _)).trans (hb.mono (by simp <;> omega))
  clear hb
  have X0c0 : w1.cell? ⟨w.heap.size, 0, none⟩ = some (.slice As ns cs) := X0.cell 0
  have X0f0 : w1.frozen? ⟨w.heap.size, 0, none⟩ = false := X0.free 0
  have X0c1 : w1.cell? ⟨w.heap.size, 1, none⟩ = some (.slice Ap np cp) := X0.cell 1
  have X0f1 : w1.frozen? ⟨w.heap.size, 1, none⟩ = false := X0.free 1
  have X0c2 : w1.cell? ⟨w.heap.size, 2, none⟩ = some (.int .i64 dl) := X0.cell 2
  have X0f2 : w1.frozen? ⟨w.heap.size, 2, none⟩ = false := X0.free 2
  have X0c3 : w1.cell? ⟨w.heap.size, 3, none⟩ = some (.bool false) := X0.cell 3
  have X0f3 : w1.frozen? ⟨w.heap.size, 3, none⟩ = false := X0.free 3
  have X0z : w.heap.size < w1.heap.size := X0.lt
  have Rc0 : w1.cell? ⟨w.heap.size + 1, 0, none⟩ = some (.slice none 0 0) := R.cell 0
  have Rf0 : w1.frozen? ⟨w.heap.size + 1, 0, none⟩ = false := R.free 0
  have Rc1 : w1.cell? ⟨w.heap.size + 1, 1, none⟩ = some (.slice none 0 0) := R.cell 1
  have Rf1 : w1.frozen? ⟨w.heap.size + 1, 1, none⟩ = false := R.free 1
  have Rc2 : w1.cell? ⟨w.heap.size + 1, 2, none⟩ = some (.int .i64 0) := R.cell 2
  have Rf2 : w1.frozen? ⟨w.heap.size + 1, 2, none⟩ = false := R.free 2
  have Rc3 : w1.cell? ⟨w.heap.size + 1, 3, none⟩ = some (.bool false) := R.cell 3
  have Rf3 : w1.frozen? ⟨w.heap.size + 1, 3, none⟩ = false := R.free 3
  have Rz : w.heap.size + 1 < w1.heap.size := R.lt
  go_wp2
  have hY := ((((R.set 0 (.slice none 0 0)).set 1 (.slice none 0 0)).set 2 (.int .i64 0)).set 3 (.bool false))
  have hB := ((((hB.setCell (p := ⟨w.heap.size + 1, 0, none⟩) (by simp <;> omega) (.slice none 0 0)).setCell (p := ⟨w.heap.size + 1, 1, none⟩) (by simp <;> omega) (.slice none 0 0)).setCell (p := ⟨w.heap.size + 1, 2, none⟩) (by simp <;> omega) (.int .i64 0)).setCell (p := ⟨w.heap.size + 1, 3, none⟩) (by simp <;> omega) (.bool false))
  generalize ((((w1.setCell ⟨w.heap.size + 1, 0, none⟩ (.slice none 0 0)).setCell ⟨w.heap.size + 1, 1, none⟩ (.slice none 0 0)).setCell ⟨w.heap.size + 1, 2, none⟩ (.int .i64 0)).setCell ⟨w.heap.size + 1, 3, none⟩ (.bool false)) = W at hY hB ⊢
  have y0 : W.cell? ⟨w.heap.size + 1, 0, none⟩ = some (.slice none 0 0) := hY.cell 0
  have y1 : W.cell? ⟨w.heap.size + 1, 1, none⟩ = some (.slice none 0 0) := hY.cell 1
  have y2 : W.cell? ⟨w.heap.size + 1, 2, none⟩ = some (.int .i64 0) := hY.cell 2
  have y3 : W.cell? ⟨w.heap.size + 1, 3, none⟩ = some (.bool false) := hY.cell 3
  refine bodyPost_ret (v := .tuple #[.agg #[.slice none 0 0, .slice none 0 0, .int .i64 0, .bool false], .int .i64 40]) (by simp [results, Try.results46, go_sem, y0, y1, y2, y3]) rfl ?_
  exact ⟨_, _, Dk.zero, 40, rfl, hs, dkAt_zero _ _, hB⟩

set_option maxRecDepth 100000 in
set_option maxHeartbeats 4000000 in
theorem dRWrite_5 (d : Dk) (As : Option Addr) (ns cs : Nat) (Ap : Option Addr) (np cp : Nat) (dl : Int) (S : Nat → Prop) (w : World) (hD : Hid (DkAt w S (.slice As ns cs) (.slice Ap np cp) d)) (hdl : Hid (d.left = dl)) (hds : Hid (d.stopped = false)) (i : Int) (Ab : Option Addr) (nb cb : Nat) (b : Bs) (hc : Hid (d.checkT = 0)) (hi0 : 0 ≤ i) (hi : i < (ns : Int)) (hl : 128 < nb) (hnb : nb ≤ 9223372036854775807) (hs : Hid (writeT d i b = (Dk.zero, 1))) : Calls Try.prog 46 #[.agg #[.slice As ns cs, .slice Ap np cp, .int .i64 dl, .bool false], .int .i64 i, .slice Ab nb cb] w (RetDk (writeT d i b) S w) := by
  have HB0 : Below w.heap.size w ((w.alloc (.cells #[.slice As ns cs, .slice Ap np cp, .int .i64 dl, .bool false] 25)).alloc (.cells #[.slice none 0 0, .slice none 0 0, .int .i64 0, .bool false] 25)) := (((Below.refl w.heap.size w).alloc (by simp <;> omega) (.cells #[.slice As ns cs, .slice Ap np cp, .int .i64 dl, .bool false] 25)).alloc (by simp <;> omega) (.cells #[.slice none 0 0, .slice none 0 0, .int .i64 0, .bool false] 25))
  have HD0 := Lib.hid (hD.out.keep (Keeps.of HB0))
  go_enter Try.func46, Try.ntmps46
  go_wp2_with fail
  refine (dRCheck_at hc HD0.out hdl hds).mono ?_
  rintro e w1 ⟨rfl, hb⟩
  have X0 := (((Box.newAt (n := w.heap.size) [.slice As ns cs, .slice Ap np cp, .int .i64 dl, .bool false] 25 (by simp)).alloc _)).later hb
  have R := ((Box.newAt (n := w.heap.size + 1) [.slice none 0 0, .slice none 0 0, .int .i64 0, .bool false] 25 (by simp))).later hb
  have hB : Below w.heap.size w w1 := ((((Below.refl w.heap.size w).alloc (by simp <;> omega) _).alloc (by simp <;> omega) _)).trans (hb.mono (by simp <;> omega))
  clear hb
  have X0c0 : w1.cell? ⟨w.heap.size, 0, none⟩ = some (.slice As ns cs) := X0.cell 0
  have X0f0 : w1.frozen? ⟨w.heap.size, 0, none⟩ = false := X0.free 0
  have X0c1 : w1.cell? ⟨w.heap.size, 1, none⟩ = some (.slice Ap np cp) := X0.cell 1
  have X0f1 : w1.frozen? ⟨w.heap.size, 1, none⟩ = false := X0.free 1
  have X0c2 : w1.cell? ⟨w.heap.size, 2, none⟩ = some (.int .i64 dl) := X0.cell 2
  have X0f2 : w1.frozen? ⟨w.heap.size, 2, none⟩ = false := X0.free 2
  have X0c3 : w1.cell? ⟨w.heap.size, 3, none⟩ = some (.bool false) := X0.cell 3
  have X0f3 : w1.frozen? ⟨w.heap.size, 3, none⟩ = false := X0.free 3
  have X0z : w.heap.size < w1.heap.size := X0.lt
  have Rc0 : w1.cell? ⟨w.heap.size + 1, 0, none⟩ = some (.slice none 0 0) := R.cell 0
  have Rf0 : w1.frozen? ⟨w.heap.size + 1, 0, none⟩ = false := R.free 0
  have Rc1 : w1.cell? ⟨w.heap.size + 1, 1, none⟩ = some (.slice none 0 0) := R.cell 1
  have Rf1 : w1.frozen? ⟨w.heap.size + 1, 1, none⟩ = false := R.free 1
  have Rc2 : w1.cell? ⟨w.heap.size + 1, 2, none⟩ = some (.int .i64 0) := R.cell 2
  have Rf2 : w1.frozen? ⟨w.heap.size + 1, 2, none⟩ = false := R.free 2
  have Rc3 : w1.cell? ⟨w.heap.size + 1, 3, none⟩ = some (.bool false) := R.cell 3
  have Rf3 : w1.frozen? ⟨w.heap.size + 1, 3, none⟩ = false := R.free 3
  have Rz : w.heap.size + 1 < w1.heap.size := R.lt
  go_wp2
  have hY := ((((R.set 0 (.slice none 0 0)).set 1 (.slice none 0 0)).set 2 (.int .i64 0)).set 3 (.bool false))
  have hB := ((((hB.setCell (p := ⟨w.heap.size + 1, 0, none⟩) (by simp <;> omega) (.slice none 0 0)).setCell (p := ⟨w.heap.size + 1, 1, none⟩) (by simp <;> omega) (.slice none 0 0)).setCell (p := ⟨w.heap.size + 1, 2, none⟩) (by simp <;> omega) (.int .i64 0)).setCell (p := ⟨w.heap.size + 1, 3, none⟩) (by simp <;> omega) (.bool false))
  generalize ((((w1.setCell ⟨w.heap.size + 1, 0, none⟩ (.slice none 0 0)).setCell ⟨w.heap.size + 1, 1, none⟩ (.slice none 0 0)).setCell ⟨w.heap.size + 1, 2, none⟩ (.int .i64 0)).setCell ⟨w.heap.size + 1, 3, none⟩ (.bool false)) = W at hY hB ⊢
  have y0 : W.cell? ⟨w.heap.size + 1, 0, none⟩ = some (.slice none 0 0) := hY.cell 0
  have y1 : W.cell? ⟨w.heap.size + 1, 1, none⟩ = some (.slice none 0 0) := hY.cell 1
  have y2 : W.cell? ⟨w.heap.size + 1, 2, none⟩ = some (.int .i64 0) := hY.cell 2
  have y3 : W.cell? ⟨w.heap.size + 1, 3, none⟩ = some (.bool false) := hY.cell 3
  refine bodyPost_ret (v := .tuple #[.agg #[.slice none 0 0, .slice none 0 0, .int .i64 0, .bool false], .int .i64 1]) (by simp [results, Try.results46, go_sem, y0, y1, y2, y3]) rfl ?_
  exact ⟨_, _, Dk.zero, 1, rfl, hs, dkAt_zero _ _, hB⟩

set_option maxRecDepth 100000 in
set_option maxHeartbeats 4000000 in
theorem dRWrite_6 (d : Dk) (As : Option Addr) (ns cs : Nat) (Ap : Option Addr) (np cp : Nat) (dl : Int) (S : Nat → Prop) (w : World) (hD : Hid (DkAt w S (.slice As ns cs) (.slice Ap np cp) d)) (hdl : Hid (d.left = dl)) (hds : Hid (d.stopped = false)) (i : Int) (Ab : Option Addr) (nb cb : Nat) (b : Bs) (hc : Hid (d.checkT = 0)) (hi0 : 0 ≤ i) (hi : i < (ns : Int)) (hl : nb ≤ 128) (hp : (np == 4096) = true) (hs : Hid (writeT d i b = (Dk.zero, 2))) : Calls Try.prog 46 #[.agg #[.slice As ns cs, .slice Ap np cp, .int .i64 dl, .bool false], .int .i64 i, .slice Ab nb cb] w (RetDk (writeT d i b) S w) := by
  have HB0 : Below w.heap.size w ((w.alloc (.cells #[.slice As ns cs, .slice Ap np cp, .int .i64 dl, .bool false] 25)).alloc (.cells #[.slice none 0 0, .slice none 0 0, .int .i64 0, .bool false] 25)) := (((Below.refl w.heap.size w).alloc (by simp <;> omega) (.cells #[.slice As ns cs, .slice Ap np cp, .int .i64 dl, .bool false] 25)).alloc (by simp <;> omega) (.cells #[.slice none 0 0, .slice none 0 0, .int .i64 0, .bool false] 25))
  have HD0 := Lib.hid (hD.out.keep (Keeps.of HB0))
  go_enter Try.func46, Try.ntmps46
  go_wp2_with fail
  refine (dRCheck_at hc HD0.out hdl hds).mono ?_
  rintro e w1 ⟨rfl, hb⟩
  have X0 := (((Box.newAt (n := w.heap.size) [.slice As ns cs, .slice Ap np cp, .int .i64 dl, .bool false] 25 (by simp)).alloc _)).later hb
  have R := ((Box.newAt (n := w.heap.size + 1) [.slice none 0 0, .slice none 0 0, .int .i64 0, .bool false] 25 (by simp))).later hb
  have hB : Below w.heap.size w w1 := ((((Below.refl w.heap.size w).alloc (by simp <;> omega) _).alloc (by simp <;> omega) _)).trans (hb.mono (by simp <;> omega))
  clear hb
  have X0c0 : w1.cell? ⟨w.heap.size, 0, none⟩ = some (.slice As ns cs) := X0.cell 0
  have X0f0 : w1.frozen? ⟨w.heap.size, 0, none⟩ = false := X0.free 0
  have X0c1 : w1.cell? ⟨w.heap.size, 1, none⟩ = some (.slice Ap np cp) := X0.cell 1
  have X0f1 : w1.frozen? ⟨w.heap.size, 1, none⟩ = false := X0.free 1
  have X0c2 : w1.cell? ⟨w.heap.size, 2, none⟩ = some (.int .i64 dl) := X0.cell 2
  have X0f2 : w1.frozen? ⟨w.heap.size, 2, none⟩ = false := X0.free 2
  have X0c3 : w1.cell? ⟨w.heap.size, 3, none⟩ = some (.bool false) := X0.cell 3
  have X0f3 : w1.frozen? ⟨w.heap.size, 3, none⟩ = false := X0.free 3
  have X0z : w.heap.size < w1.heap.size := X0.lt
  have Rc0 : w1.cell? ⟨w.heap.size + 1, 0, none⟩ = some (.slice none 0 0) := R.cell 0
  have Rf0 : w1.frozen? ⟨w.heap.size + 1, 0, none⟩ = false := R.free 0
  have Rc1 : w1.cell? ⟨w.heap.size + 1, 1, none⟩ = some (.slice none 0 0) := R.cell 1
  have Rf1 : w1.frozen? ⟨w.heap.size + 1, 1, none⟩ = false := R.free 1
  have Rc2 : w1.cell? ⟨w.heap.size + 1, 2, none⟩ = some (.int .i64 0) := R.cell 2
  have Rf2 : w1.frozen? ⟨w.heap.size + 1, 2, none⟩ = false := R.free 2
  have Rc3 : w1.cell? ⟨w.heap.size + 1, 3, none⟩ = some (.bool false) := R.cell 3
  have Rf3 : w1.frozen? ⟨w.heap.size + 1, 3, none⟩ = false := R.free 3
  have Rz : w.heap.size + 1 < w1.heap.size := R.lt
  go_wp2
  have hY := ((((R.set 0 (.slice none 0 0)).set 1 (.slice none 0 0)).set 2 (.int .i64 0)).set 3 (.bool false))
  have hB := ((((hB.setCell (p := ⟨w.heap.size + 1, 0, none⟩) (by simp <;> omega) (.slice none 0 0)).setCell (p := ⟨w.heap.size + 1, 1, none⟩) (by simp <;> omega) (.slice none 0 0)).setCell (p := ⟨w.heap.size + 1, 2, none⟩) (by simp <;> omega) (.int .i64 0)).setCell (p := ⟨w.heap.size + 1, 3, none⟩) (by simp <;> omega) (.bool false))
  generalize ((((w1.setCell ⟨w.heap.size + 1, 0, none⟩ (.slice none 0 0)).setCell ⟨w.heap.size + 1, 1, none⟩ (.slice none 0 0)).setCell ⟨w.heap.size + 1, 2, none⟩ (.int .i64 0)).setCell ⟨w.heap.size + 1, 3, none⟩ (.bool false)) = W at hY hB ⊢
  have y0 : W.cell? ⟨w.heap.size + 1, 0, none⟩ = some (.slice none 0 0) := hY.cell 0
  have y1 : W.cell? ⟨w.heap.size + 1, 1, none⟩ = some (.slice none 0 0) := hY.cell 1
  have y2 : W.cell? ⟨w.heap.size + 1, 2, none⟩ = some (.int .i64 0) := hY.cell 2
  have y3 : W.cell? ⟨w.heap.size + 1, 3, none⟩ = some (.bool false) := hY.cell 3
  refine bodyPost_ret (v := .tuple #[.agg #[.slice none 0 0, .slice none 0 0, .int .i64 0, .bool false], .int .i64 2]) (by simp [results, Try.results46, go_sem, y0, y1, y2, y3]) rfl ?_
  exact ⟨_, _, Dk.zero, 2, rfl, hs, dkAt_zero _ _, hB⟩

set_option maxRecDepth 100000 in
set_option maxHeartbeats 8000000 in
theorem dRWrite_7 (d : Dk) (As : Option Addr) (ns cs : Nat) (Ap : Option Addr) (np cp : Nat) (dl : Int) (S : Nat → Prop) (w : World) (hD : Hid (DkAt w S (.slice As ns cs) (.slice Ap np cp) d)) (hdl : Hid (d.left = dl)) (hds : Hid (d.stopped = false)) (i : Int) (Ab : Option Addr) (nb cb : Nat) (b : Bs) (hc : Hid (d.checkT = 0)) (hi0 : 0 ≤ i) (hi : i < (ns : Int)) (hl : nb ≤ 128) (hp : (np == 4096) = false) (hnp : Hid (np ≤ 4096)) (hpl : Hid (d.pending.length = np)) (hbl : Hid (b.length = nb)) (hb : Hid (BsAt w S (.slice Ab nb cb) b)) (hs : Hid (writeT d i b = (⟨d.sectors, d.pending ++ [⟨i, padTo b⟩], d.left, d.stopped⟩, 0))) : Calls Try.prog 46 #[.agg #[.slice As ns cs, .slice Ap np cp, .int .i64 dl, .bool false], .int .i64 i, .slice Ab nb cb] w (RetDk (writeT d i b) S w) := by
  have HB0 : Below w.heap.size w ((w.alloc (.cells #[.slice As ns cs, .slice Ap np cp, .int .i64 dl, .bool false] 25)).alloc (.cells #[.slice none 0 0, .slice none 0 0, .int .i64 0, .bool false] 25)) := (((Below.refl w.heap.size w).alloc (by simp <;> omega) (.cells #[.slice As ns cs, .slice Ap np cp, .int .i64 dl, .bool false] 25)).alloc (by simp <;> omega) (.cells #[.slice none 0 0, .slice none 0 0, .int .i64 0, .bool false] 25))
  have HD0 := Lib.hid (hD.out.keep (Keeps.of HB0))
  go_enter Try.func46, Try.ntmps46
  go_wp2_with fail
  refine (dRCheck_at hc HD0.out hdl hds).mono ?_
  rintro e w1 ⟨rfl, hb⟩
  have X0 := (((Box.newAt (n := w.heap.size) [.slice As ns cs, .slice Ap np cp, .int .i64 dl, .bool false] 25 (by simp)).alloc _)).later hb
  have R := ((Box.newAt (n := w.heap.size + 1) [.slice none 0 0, .slice none 0 0, .int .i64 0, .bool false] 25 (by simp))).later hb
  have hB : Below w.heap.size w w1 := ((((Below.refl w.heap.size w).alloc (by simp <;> omega) _).alloc (by simp <;> omega) _)).trans (hb.mono (by simp <;> omega))
  clear hb
  obtain ⟨v2, w2, hr2, ho2, hb2⟩ := (by
    obtain ⟨i', E⟩ := elem_by
    have hb1 := (hb.out.keep (Keeps.of hB))
    obtain ⟨hf, hs'⟩ := hb1
    rw [hbl.out] at hs'
    exact run_clone E hs' hf (fun _ _ _ _ => rfl) (by omega) : ∃ v' w', (appF #[35, 35] 35 #[.slice (some ⟨w1.heap.size, 0, none⟩) 0 0, .slice Ab nb cb]).run Try.prog (w1.alloc (.cells #[] 5)) = .ok v' w' ∧ w'.ownsRow w1.heap.size 5 1 v' nb (flat nb 1 (fun i _ => .int .u8 ((b.getD i 0).toNat : Int))) ∧ Below w1.heap.size w1 w')
  have hO2 : OwnBs w2 w1.heap.size v2 b := by
    rw [← hbl.out, byV_flat] at ho2
    exact ho2
  obtain ⟨A2, c2, rfl⟩ := hO2.form'
  rw [hbl.out] at hr2 hO2
  have HO2 := Lib.hid hO2
  clear ho2 hO2
  have X0c0 : w1.cell? ⟨w.heap.size, 0, none⟩ = some (.slice As ns cs) := X0.cell 0
  have X0f0 : w1.frozen? ⟨w.heap.size, 0, none⟩ = false := X0.free 0
  have X0c1 : w1.cell? ⟨w.heap.size, 1, none⟩ = some (.slice Ap np cp) := X0.cell 1
  have X0f1 : w1.frozen? ⟨w.heap.size, 1, none⟩ = false := X0.free 1
  have X0c2 : w1.cell? ⟨w.heap.size, 2, none⟩ = some (.int .i64 dl) := X0.cell 2
  have X0f2 : w1.frozen? ⟨w.heap.size, 2, none⟩ = false := X0.free 2
  have X0c3 : w1.cell? ⟨w.heap.size, 3, none⟩ = some (.bool false) := X0.cell 3
  have X0f3 : w1.frozen? ⟨w.heap.size, 3, none⟩ = false := X0.free 3
  have X0z : w.heap.size < w1.heap.size := X0.lt
  have Rc0 : w1.cell? ⟨w.heap.size + 1, 0, none⟩ = some (.slice none 0 0) := R.cell 0
  have Rf0 : w1.frozen? ⟨w.heap.size + 1, 0, none⟩ = false := R.free 0
  have Rc1 : w1.cell? ⟨w.heap.size + 1, 1, none⟩ = some (.slice none 0 0) := R.cell 1
  have Rf1 : w1.frozen? ⟨w.heap.size + 1, 1, none⟩ = false := R.free 1
  have Rc2 : w1.cell? ⟨w.heap.size + 1, 2, none⟩ = some (.int .i64 0) := R.cell 2
  have Rf2 : w1.frozen? ⟨w.heap.size + 1, 2, none⟩ = false := R.free 2
  have Rc3 : w1.cell? ⟨w.heap.size + 1, 3, none⟩ = some (.bool false) := R.cell 3
  have Rf3 : w1.frozen? ⟨w.heap.size + 1, 3, none⟩ = false := R.free 3
  have Rz : w.heap.size + 1 < w1.heap.size := R.lt
  go_wp2
  clear X0c0 X0f0 X0c1 X0f1 X0c2 X0f2 X0c3 X0f3 X0z Rc0 Rf0 Rc1 Rf1 Rc2 Rf2 Rc3 Rf3 Rz hr2
  go_loopw [8] (fun v wr => ∃ (l : Bs) (A : Option Addr) (n c : Nat), v = .slice A n c ∧ l.length = n ∧ n ≤ 128 ∧ Hid (OwnBs wr w1.heap.size (.slice A n c) l) ∧ Hid (nb ≤ n ∧ l = b ++ List.replicate (n - nb) 0) ∧ Below w1.heap.size w1 wr) (fun v _ => 128 - (match v with | .slice _ n _ => n | _ => 0))
  case atStart => exact ⟨b, A2, nb, c2, rfl, hbl.out, hl, HO2, ⟨Nat.le_refl _, by rw [Nat.sub_self]; simp⟩, hb2⟩
  case round =>
    clear HO2 hb2
    obtain ⟨l, A, n, c, rfl, hln, hn, hO, hbn, hbr⟩ := hrel
    have HLN := Lib.hid hln
    clear hln
    by_cases hlt : n < 128
    · have hst := (Below.refl wr.heap.size wr).alloc (Nat.le_refl _) (.cells #[.int .u8 0] 5)
      have hO1 : OwnBs (wr.alloc (.cells #[.int .u8 0] 5)) w1.heap.size (.slice A n c) l := World.ownsRow.alloc hO.out _
      obtain ⟨v3, w3, hr3, hO3, hb3⟩ := run_ownB 0 hO1 (Box.new wr [.int .u8 0] 5) (Nat.le_trans hbr.size hst.size) (by rw [HLN.out]; omega)
      obtain ⟨A3, c3, rfl⟩ := hO3.form'
      have hl3 : Hid ((l ++ [(0 : UInt8)]).length = n + 1) := by rw [Hid, List.length_append, HLN.out]; rfl
      rw [hl3.out] at hr3 hO3
      have HO3 := Lib.hid hO3
      have hbn3 : Hid (nb ≤ n + 1 ∧ l ++ [(0 : UInt8)] = b ++ List.replicate (n + 1 - nb) 0) := by
        obtain ⟨h1, h2⟩ := hbn.out
        refine ⟨by omega, ?_⟩
        rw [h2, show n + 1 - nb = (n - nb) + 1 by omega, List.replicate_succ', List.append_assoc]
      have hb13 := (hbr.trans (hst.mono hbr.size)).trans hb3
      clear hO1 hO3 hb3 hst
      go_wp2
      exact ⟨⟨_, A3, n + 1, c3, rfl, hl3.out, by omega, HO3, hbn3, hb13⟩, by simp; omega⟩
    · obtain rfl : n = 128 := by omega
      have hpad : Hid (l = padTo b) := by rw [Hid, hbn.out.2, padTo, hbl.out]
      have HDT : Hid (BsAt wr (fun b => w1.heap.size ≤ b) (.slice A 128 c) (padTo b)) := by
        have := hO.out
        have hlen : l.length = 128 := HLN.out
        rw [← hpad.out]
        have h2 := this.bs (by rw [hlen]; simp [maxLen])
        exact h2
      have hBr := hB.trans (hbr.mono hB.size)
      have X0r := X0.keep (D := w1.heap.size) X0.lt hbr
      have Rr := R.keep (D := w1.heap.size) R.lt hbr
      have hR1 : w.heap.size + 1 < w1.heap.size := R.lt
      have hs1 := hbr.size
      obtain ⟨v4, w4, hr4, hO4, hb4⟩ := run_cloneW (S := fun b => Old S w b ∨ w1.heap.size ≤ b) (((hD.out.old.keep (Keeps.of hBr)).pending).weak (fun b h _ => .inl h)) (by rw [hpl.out]; have := hnp.out; omega)
      have hst5 := (Below.refl w4.heap.size w4).alloc (Nat.le_refl _) (.cells #[.int .i64 i, .slice A 128 c] 76)
      obtain ⟨v6, w6, hr6, hO6, hb6⟩ := run_ownW ⟨i, padTo b⟩ (hO4.alloc (.cells #[.int .i64 i, .slice A 128 c] 76)) (Box.new w4 [.int .i64 i, .slice A 128 c] 76)
        (((HDT.out.weak (S' := Old (fun b => Old S w b ∨ w1.heap.size ≤ b) wr) (fun b h hb => ⟨.inr h, hb⟩)).keep (Keeps.of hb4)).keep (Keeps.of hst5)) (fun b h => h.2) (Nat.le_trans hb4.size hst5.size) (by rw [hpl.out]; have := hnp.out; omega)
      have hW6 : WsAt w6 (fun b => Old S w b ∨ w1.heap.size ≤ b) v6 (d.pending ++ [⟨i, padTo b⟩]) := hO6.ws (by rw [List.length_append, hpl.out]; have := hnp.out; simp [maxLen]; omega) (fun b h _ => h.1) (fun b h => .inr (by omega))
      obtain ⟨A6, c6, rfl, _⟩ := hW6.form
      have hl6 : Hid ((d.pending ++ [(⟨i, padTo b⟩ : Wr)]).length = np + 1) := by rw [Hid, List.length_append, hpl.out]; rfl
      rw [hl6.out] at hr6 hW6
      have HW6 := Lib.hid hW6
      have hV4 : ∃ A4 c4, v4 = .slice A4 np c4 := by
        obtain ⟨V4, ho, _⟩ := hO4
        rw [hpl.out] at ho
        rcases ho.2 with ⟨h1, h2⟩ | ⟨g, cap, cur, hv, _⟩
        · exact ⟨none, 0, by rw [h1, h2]⟩
        · exact ⟨_, _, hv⟩
      obtain ⟨A4, c4, rfl⟩ := hV4
      have hb46 : Below wr.heap.size w4 w6 := ((Below.refl wr.heap.size w4).alloc hb4.size _).trans hb6
      have hb06 := hb4.trans hb46
      have X6 := X0r.keep (D := wr.heap.size) X0r.lt hb06
      have R6 := Rr.keep (D := wr.heap.size) Rr.lt hb06
      have hB6 := hBr.trans (hb06.mono hBr.size)
      have x0r : wr.cell? ⟨w.heap.size, 1, none⟩ = some (.slice Ap np cp) := X0r.cell 1
      have xzr := X0r.lt
      have x41 : (w4).cell? ⟨w.heap.size, 1, none⟩ = some (.slice Ap np cp) := (X0r.later hb4).cell 1
      have xz4 : w.heap.size < w4.heap.size := (X0r.later hb4).lt
      clear hO4 hb4 hst5 hO6 hb6 hW6 hb46 hb06 X0r Rr hBr
      have y0 : w6.cell? ⟨w.heap.size, 0, none⟩ = some (.slice As ns cs) := X6.cell 0
      have y1 : w6.cell? ⟨w.heap.size, 1, none⟩ = some (.slice Ap np cp) := X6.cell 1
      have y2 : w6.cell? ⟨w.heap.size, 2, none⟩ = some (.int .i64 dl) := X6.cell 2
      have y3 : w6.cell? ⟨w.heap.size, 3, none⟩ = some (.bool false) := X6.cell 3
      have yf := X6.free 1
      have yz : w.heap.size < w6.heap.size := X6.lt
      have r0 : w6.cell? ⟨w.heap.size + 1, 0, none⟩ = some (.slice none 0 0) := R6.cell 0
      have r1 : w6.cell? ⟨w.heap.size + 1, 1, none⟩ = some (.slice none 0 0) := R6.cell 1
      have r2 : w6.cell? ⟨w.heap.size + 1, 2, none⟩ = some (.int .i64 0) := R6.cell 2
      have r3 : w6.cell? ⟨w.heap.size + 1, 3, none⟩ = some (.bool false) := R6.cell 3
      have f0 := R6.free 0
      have f1 := R6.free 1
      have f2 := R6.free 2
      have f3 := R6.free 3
      have rz : w.heap.size + 1 < w6.heap.size := R6.lt
      go_wp2
      have hne : w.heap.size + 1 ≠ w.heap.size := by omega
      have nK : ∀ x, (x = w.heap.size ∨ x = w.heap.size + 1) → ¬ (Old S w x ∨ w1.heap.size ≤ x) := by
        intro x hx h
        rcases h with h | h
        · have := h.2; omega
        · omega
      have ZR := ((((R6.other (a := ⟨w.heap.size, 1, none⟩) hne (.slice A6 (np + 1) c6)).set 0 (.slice As ns cs)).set 1 (.slice A6 (np + 1) c6)).set 2 (.int .i64 dl)).set 3 (.bool false)
      have HB := ((((hB6.setCell (p := ⟨w.heap.size, 1, none⟩) (Nat.le_refl _) (.slice A6 (np + 1) c6)).setCell (p := ⟨w.heap.size + 1, 0, none⟩) (Nat.le_succ _) (.slice As ns cs)).setCell (p := ⟨w.heap.size + 1, 1, none⟩) (Nat.le_succ _) (.slice A6 (np + 1) c6)).setCell (p := ⟨w.heap.size + 1, 2, none⟩) (Nat.le_succ _) (.int .i64 dl)).setCell (p := ⟨w.heap.size + 1, 3, none⟩) (Nat.le_succ _) (.bool false)
      have HK : Keeps (fun b => Old S w b ∨ w1.heap.size ≤ b) w6 (((((w6.setCell ⟨w.heap.size, 1, none⟩ (.slice A6 (np + 1) c6)).setCell ⟨w.heap.size + 1, 0, none⟩ (.slice As ns cs)).setCell ⟨w.heap.size + 1, 1, none⟩ (.slice A6 (np + 1) c6)).setCell ⟨w.heap.size + 1, 2, none⟩ (.int .i64 dl)).setCell ⟨w.heap.size + 1, 3, none⟩ (.bool false)) :=
        Keeps.trans (Keeps.trans (Keeps.trans (Keeps.trans (Keeps.set _ (nK _ (.inl rfl)) _) (Keeps.set _ (nK _ (.inr rfl)) _)) (Keeps.set _ (nK _ (.inr rfl)) _)) (Keeps.set _ (nK _ (.inr rfl)) _)) (Keeps.set _ (nK _ (.inr rfl)) _)
      have HP := HW6.out.keep HK
      generalize ((((w6.setCell ⟨w.heap.size, 1, none⟩ (.slice A6 (np + 1) c6)).setCell ⟨w.heap.size + 1, 0, none⟩ (.slice As ns cs)).setCell ⟨w.heap.size + 1, 1, none⟩ (.slice A6 (np + 1) c6)).setCell ⟨w.heap.size + 1, 2, none⟩ (.int .i64 dl)).setCell ⟨w.heap.size + 1, 3, none⟩ (.bool false) = W at ZR HB HP ⊢
      have z0 : W.cell? ⟨w.heap.size + 1, 0, none⟩ = some (.slice As ns cs) := ZR.cell 0
      have z1 : W.cell? ⟨w.heap.size + 1, 1, none⟩ = some (.slice A6 (np + 1) c6) := ZR.cell 1
      have z2 : W.cell? ⟨w.heap.size + 1, 2, none⟩ = some (.int .i64 dl) := ZR.cell 2
      have z3 : W.cell? ⟨w.heap.size + 1, 3, none⟩ = some (.bool false) := ZR.cell 3
      refine bodyPost_ret (v := .tuple #[.agg #[.slice As ns cs, .slice A6 (np + 1) c6, .int .i64 dl, .bool false], .int .i64 0]) (by simp [results, Try.results46, go_sem, z0, z1, z2, z3]) rfl ?_
      refine ⟨_, _, _, 0, by rw [Dk.v, hdl.out, hds.out], hs, Lib.hid ⟨(hD.out.sectors.keep (Keeps.of HB)).weak (fun b h _ => .inl h), HP.weak (fun b h _ => ?_)⟩, HB⟩
      rcases h with h | h
      · exact .inl h.1
      · exact .inr (by omega)

theorem dRWrite_any (d : Dk) (Vs Vp : Value) (i : Int) (Vb : Value) (b : Bs) (S : Nat → Prop) (w : World) (hD : DkAt w S Vs Vp d) (hb : BsAt w S Vb b) : Calls Try.prog 46 #[d.v Vs Vp, .int .i64 i, Vb] w (RetDk (writeT d i b) S w) := by
  obtain ⟨As, cs, rfl, _⟩ := hD.sectors.form
  obtain ⟨Ap, cp, rfl, _⟩ := hD.pending.form
  obtain ⟨Ab, cb, rfl, hbm⟩ := hb.form
  rcases gate_of d with ⟨hr, hc⟩ | ⟨hr, hc, ht⟩ | ⟨hr, hc, ht⟩
  · exact dRWrite_1 d As _ cs Ap _ cp _ _ S w hD rfl rfl i Ab b.length cb b hc (by rw [Hid, writeT, if_neg (by rw [hr]; simp)])
  · have := dRWrite_2 d As _ cs Ap _ cp _ S w hD rfl ht i Ab b.length cb b hc (by rw [Hid, writeT, if_neg (by rw [hr]; simp)])
    rw [← ht] at this
    exact this
  · rcases hh : d.hasB i with _ | _
    · have hs : Hid (writeT d i b = (Dk.zero, 40)) := by rw [Hid, writeT, if_neg (by rw [hh]; simp)]
      by_cases h1 : i < 0
      · have := dRWrite_3 d As _ cs Ap _ cp _ S w hD rfl ht i Ab b.length cb b hc h1 hs
        rw [← ht] at this
        exact this
      · have h2 : (d.sectors.length : Int) ≤ i := by
          rw [Dk.hasB, decide_eq_true (show 0 ≤ i by omega), Bool.true_and] at hh
          have := of_decide_eq_false hh
          omega
        have := dRWrite_4 d As _ cs Ap _ cp _ S w hD rfl ht i Ab b.length cb b hc (by omega) h2 hs
        rw [← ht] at this
        exact this
    · obtain ⟨h1, h2⟩ := hasB_in hh
      by_cases hl : b.length ≤ 128
      · by_cases hp : d.pending.length = 4096
        · have := dRWrite_6 d As _ cs Ap _ cp _ S w hD rfl ht i Ab b.length cb b hc h1 h2 hl (by simp [hp]) (by rw [Hid, writeT, if_pos ⟨hr, hh⟩, if_pos hl, if_pos hp])
          rw [← ht] at this
          exact this
        · have := dRWrite_7 d As _ cs Ap _ cp _ S w hD rfl ht i Ab b.length cb b hc h1 h2 hl (by simp [hp]) (okB_parts (runs_ok hr).1).2.2.1 rfl rfl hb (by rw [Hid, writeT, if_pos ⟨hr, hh⟩, if_pos hl, if_neg hp])
          rw [← ht] at this
          exact this
      · have := dRWrite_5 d As _ cs Ap _ cp _ S w hD rfl ht i Ab b.length cb b hc h1 h2 (by omega) (by simpa [maxLen] using hbm) (by rw [Hid, writeT, if_pos ⟨hr, hh⟩, if_neg hl])
        rw [← ht] at this
        exact this


end Go.Proofs.Ythlidhfahaalgaa
