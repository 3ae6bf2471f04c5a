/- Contract of Decode of codec. No condition. -/
import Derived.Test.YtmbifmmkccghfaaQCW
import Derived.Test.YtmbifmmkccghfaaQK
import Derived.RangeFuncNested
import Derived.RangeFuncBound
import Derived.RangeFuncCalls
import Derived.RangeFuncLeaves
import Derived.RangeFuncBox
import Derived.Shelf.Abstract
import Derived.Shelf.RegionOpen
import Derived.OwnWalkIn
import Derived.TacticsInMore
import Derived.LoopNIn
import Derived.LoopIn
set_option linter.unusedVariables false
set_option linter.unusedSimpArgs false
namespace Go.Proofs.Ytmbifmmkccghfaa
open Go.RowKit
attribute [local go_sem ↓ high] app_named

def decT (l : Bs) : Val × Int := match rdVal 16 l with
  | some (x, []) => (x, 0)
  | _ => (Val.zero, 10)
theorem dec_none {l : Bs} (h : rdVal 16 l = none) : decT l = (Val.zero, 10) := by rw [decT, h]
theorem dec_more {l : Bs} {x : Val} {r : Bs} (h : rdVal 16 l = some (x, r)) (hr : r ≠ []) : decT l = (Val.zero, 10) := by
  rw [decT, h]
  cases r with
  | nil => exact absurd rfl hr
  | cons c t => rfl
theorem dec_some {l : Bs} {x : Val} (h : rdVal 16 l = some (x, [])) : decT l = (x, 0) := by rw [decT, h]
def RetDec (t : Val × Int) (w : World) (e : Ending) (w' : World) : Prop := ∃ L, e = .returned (.tuple #[t.1.v L, .int .i64 t.2]) ∧ ValsP w' (fun b => w.heap.size ≤ b) 16 L t.1.elems ∧ Below w.heap.size w w'
theorem below_of_grown {w w0 w1 : World} {rb : Nat} (h0 : Below w.heap.size w w0) (h1 : w0.grownBy w1 (some rb)) (hr : w.heap.size ≤ rb) : Below w.heap.size w w1 :=
  h0.grown h1 h0.size fun k hk => by injection hk with hk; omega

theorem dec_start {w : World} {A : Option Addr} {c : Nat} {l : Bs} (hb : BsAt w (fun b => b < w.heap.size) (.slice A l.length c) l) :
    RdAt (((w.alloc (.cells #[.int .i64 0, .int .i64 0, .string ⟨#[]⟩, .slice none 0 0] 85)).alloc (.cells #[.int .i64 0] 33)).alloc (.cells #[.slice A l.length c] 127)) w.heap.size (w.heap.size + 1 + 1) l ∧ Box (((w.alloc (.cells #[.int .i64 0, .int .i64 0, .string ⟨#[]⟩, .slice none 0 0] 85)).alloc (.cells #[.int .i64 0] 33)).alloc (.cells #[.slice A l.length c] 127)) w.heap.size [.int .i64 0, .int .i64 0, .string ⟨#[]⟩, .slice none 0 0] ∧ Box (((w.alloc (.cells #[.int .i64 0, .int .i64 0, .string ⟨#[]⟩, .slice none 0 0] 85)).alloc (.cells #[.int .i64 0] 33)).alloc (.cells #[.slice A l.length c] 127)) (w.heap.size + 1) [.int .i64 0] ∧ Below w.heap.size w (((w.alloc (.cells #[.int .i64 0, .int .i64 0, .string ⟨#[]⟩, .slice none 0 0] 85)).alloc (.cells #[.int .i64 0] 33)).alloc (.cells #[.slice A l.length c] 127)) := by
  have hst : Below w.heap.size w (((w.alloc (.cells #[.int .i64 0, .int .i64 0, .string ⟨#[]⟩, .slice none 0 0] 85)).alloc (.cells #[.int .i64 0] 33)).alloc (.cells #[.slice A l.length c] 127)) := (((Below.refl w.heap.size w).alloc (Nat.le_refl _) _).alloc (by simp) _).alloc (by simp <;> omega) _
  refine ⟨⟨A, c, Box.newAt _ _ (by simp), (hb.keep (Keeps.of hst)).weak fun b hb _ => ⟨hb, by omega⟩⟩, ?_, ?_, hst⟩
  · exact ((Box.new w [.int .i64 0, .int .i64 0, .string ⟨#[]⟩, .slice none 0 0] _).alloc _).alloc _
  · exact (Box.newAt [.int .i64 0] _ (by simp)).alloc _

set_option maxRecDepth 100000 in
set_option maxHeartbeats 4000000 in
theorem cDecode_none (l : Bs) (A : Option Addr) (c : Nat) (w : World) (hb : BsAt w (fun b => b < w.heap.size) (.slice A l.length c) l) (hl : l.length ≤ 100000000) (hn : rdVal 16 l = none) :
    Calls Try.prog 63 #[.slice A l.length c] w (RetDec (decT l) w) := by
  rw [dec_none hn]
  have HS := dec_start hb
  obtain ⟨n, hn0⟩ : ∃ n, l.length = n := ⟨_, rfl⟩
  rw [hn0] at HS ⊢
  obtain ⟨hR, hV, hE, hB⟩ := HS
  have HC := Lib.hid (ValR.all 16 l w.heap.size (w.heap.size + 1 + 1) _ 0 none hR (hB.size) hl (by decide) (by decide) (Lib.hid hn))
  clear hb hR hn
  have hmf : ∀ (fn : Fn) (first cap : Array Value) (w : World), (Instr.makeFunc fn first cap).run Try.prog w = .ok (.func fn first cap) w := fun _ _ _ _ => rfl
  go_enter_defers Try.func63, Try.ntmps63
  go_wp2_with fail
  refine HC.out.mono ?_
  rintro e w1 ⟨rfl, hg⟩
  have hB1 := below_of_grown hB hg (by omega)
  have hV1 := hV.same (hg.block _ hV.lt (by intro e; injection e with e; omega))
  have hE1 := hE.same (hg.block _ hE.lt (by intro e; injection e with e; omega))
  clear HC hg hV hE hB
  go_wp2
  refine leaves_cons (f := 83) (args := #[.pointer (some ⟨w.heap.size, 0, none⟩), .pointer (some ⟨w.heap.size + 1, 0, none⟩)]) (by simp) (by simp [go_sem]) ?_
  refine (catch_panicking w.heap.size (w.heap.size + 1) _ _ _ _ _ _ (by omega) hV1 hE1).mono ?_
  rintro e u' w2 ⟨rfl, rfl, hc⟩
  have z0 : w2.cell? ⟨w.heap.size, 0, none⟩ = some (.int .i64 0) := hc.1.cell 0
  have z1 : w2.cell? ⟨w.heap.size, 1, none⟩ = some (.int .i64 0) := hc.1.cell 1
  have z2 : w2.cell? ⟨w.heap.size, 2, none⟩ = some (.string ⟨#[]⟩) := hc.1.cell 2
  have z3 : w2.cell? ⟨w.heap.size, 3, none⟩ = some (.slice none 0 0) := hc.1.cell 3
  have y0 : w2.cell? ⟨w.heap.size + 1, 0, none⟩ = some (.int .i64 10) := hc.2.1.cell 0
  have HR : Hid (RetDec (Val.zero, 10) w (.returned (.tuple #[.agg #[.int .i64 0, .int .i64 0, .string ⟨#[]⟩, .slice none 0 0], .int .i64 10])) w2) := ⟨.slice none 0 0, rfl, valsP_nil _ _ _, hc.2.2.below hB1 (Nat.le_refl _) (by omega)⟩
  clear hc hB1 hV1 hE1
  simp [Leaves, settle, results, Try.results63, go_sem, z0, z1, z2, z3, y0]
  exact HR.out

set_option maxRecDepth 100000 in
set_option maxHeartbeats 4000000 in
theorem cDecode_more (l : Bs) (A : Option Addr) (c : Nat) (w : World) (hb : BsAt w (fun b => b < w.heap.size) (.slice A l.length c) l) (hl : l.length ≤ 100000000) (x : Val) (r : Bs) (hn : rdVal 16 l = some (x, r)) (hr : r ≠ []) :
    Calls Try.prog 63 #[.slice A l.length c] w (RetDec (decT l) w) := by
  rw [dec_more hn hr]
  have HS := dec_start hb
  obtain ⟨n, hn0⟩ : ∃ n, l.length = n := ⟨_, rfl⟩
  rw [hn0] at HS ⊢
  obtain ⟨hR, hV, hE, hB⟩ := HS
  have HC := Lib.hid (ValR.all 16 l w.heap.size (w.heap.size + 1 + 1) _ 0 _ hR (hB.size) hl (by decide) (by decide) (Lib.hid hn))
  clear hb hR hn
  have hmf : ∀ (fn : Fn) (first cap : Array Value) (w : World), (Instr.makeFunc fn first cap).run Try.prog w = .ok (.func fn first cap) w := fun _ _ _ _ => rfl
  go_enter_defers Try.func63, Try.ntmps63
  go_wp2_with fail
  refine HC.out.mono ?_
  intro e w1 hret
  obtain ⟨Ax, cx, rfl, hL, hR1, hg⟩ := RetVal.open hret
  have hB1 := below_of_grown hB hg (by omega)
  have hV1 := hV.same (hg.block _ hV.lt (by intro e; injection e with e; omega))
  have hE1 := hE.same (hg.block _ hE.lt (by intro e; injection e with e; omega))
  have hz0 := hB.size
  have hL1 : ValsP w1 (fun b => w.heap.size + 1 + 1 ≤ b) 16 (.slice Ax x.elems.length cx) x.elems := hL.weak fun b hb _ => by have : _ ≤ b := hb; simp at this; omega
  have x0 : w1.cell? ⟨w.heap.size, 0, none⟩ = some (.int .i64 0) := hV1.cell 0
  have x1 : w1.cell? ⟨w.heap.size, 1, none⟩ = some (.int .i64 0) := hV1.cell 1
  have x2 : w1.cell? ⟨w.heap.size, 2, none⟩ = some (.string ⟨#[]⟩) := hV1.cell 2
  have x3 : w1.cell? ⟨w.heap.size, 3, none⟩ = some (.slice none 0 0) := hV1.cell 3
  have f0 := hV1.free 0
  have f1 := hV1.free 1
  have f2 := hV1.free 2
  have f3 := hV1.free 3
  have vz := hV1.lt
  clear HC hret hg hV hE hB hL hz0
  obtain ⟨Ar, cr, hX, hXB⟩ := hR1
  clear hXB
  have hrl : r.length ≠ 0 := fun h => hr (List.eq_nil_of_length_eq_zero h)
  generalize r.length = rl at hX hrl
  have q0 : w1.cell? ⟨w.heap.size + 1 + 1, 0, none⟩ = some (.slice Ar rl cr) := hX.cell 0
  have hd : ((rl : Int) == 0) = false := by simp; omega
  have hV2 := (((hV1.set 0 (.int .i64 x.kind)).set 1 (.int .i64 x.num)).set 2 (.string (strB x.str))).set 3 (.slice Ax x.elems.length cx)
  have hE2 := (((hE1.other (a := ⟨w.heap.size, 0, none⟩) (by simp) (.int .i64 x.kind)).other (a := ⟨w.heap.size, 1, none⟩) (by simp) (.int .i64 x.num)).other (a := ⟨w.heap.size, 2, none⟩) (by simp) (.string (strB x.str))).other (a := ⟨w.heap.size, 3, none⟩) (by simp) (.slice Ax x.elems.length cx)
  have hX2 := (((hX.other (a := ⟨w.heap.size, 0, none⟩) (by simp; omega) (.int .i64 x.kind)).other (a := ⟨w.heap.size, 1, none⟩) (by simp; omega) (.int .i64 x.num)).other (a := ⟨w.heap.size, 2, none⟩) (by simp; omega) (.string (strB x.str))).other (a := ⟨w.heap.size, 3, none⟩) (by simp; omega) (.slice Ax x.elems.length cx)
  have hB2 := (((hB1.setCell (p := ⟨w.heap.size, 0, none⟩) (Nat.le_refl _) (.int .i64 x.kind)).setCell (p := ⟨w.heap.size, 1, none⟩) (Nat.le_refl _) (.int .i64 x.num)).setCell (p := ⟨w.heap.size, 2, none⟩) (Nat.le_refl _) (.string (strB x.str))).setCell (p := ⟨w.heap.size, 3, none⟩) (Nat.le_refl _) (.slice Ax x.elems.length cx)
  have hL2 := (((hL1.set (a := ⟨w.heap.size, 0, none⟩) (fun h => by have h2 : w.heap.size + 1 + 1 ≤ w.heap.size := h; omega) (.int .i64 x.kind)).set (a := ⟨w.heap.size, 1, none⟩) (fun h => by have h2 : w.heap.size + 1 + 1 ≤ w.heap.size := h; omega) (.int .i64 x.num)).set (a := ⟨w.heap.size, 2, none⟩) (fun h => by have h2 : w.heap.size + 1 + 1 ≤ w.heap.size := h; omega) (.string (strB x.str))).set (a := ⟨w.heap.size, 3, none⟩) (fun h => by have h2 : w.heap.size + 1 + 1 ≤ w.heap.size := h; omega) (.slice Ax x.elems.length cx)
  replace hV2 := Lib.hid hV2
  replace hE2 := Lib.hid hE2
  replace hX2 := Lib.hid hX2
  replace hB2 := Lib.hid hB2
  replace hL2 := Lib.hid hL2
  clear hV1 hE1 hB1 hL1 hX
  go_wp2_with fail
  clear x0 x1 x2 x3 f0 f1 f2 f3 vz q0
  generalize (((w1.setCell ⟨w.heap.size, 0, none⟩ (.int .i64 x.kind)).setCell ⟨w.heap.size, 1, none⟩ (.int .i64 x.num)).setCell ⟨w.heap.size, 2, none⟩ (.string (strB x.str))).setCell ⟨w.heap.size, 3, none⟩ (.slice Ax x.elems.length cx) = w2 at hV2 hE2 hX2 hB2 hL2 ⊢
  refine (want_no _ _).mono ?_
  rintro e w3 ⟨rfl, rfl⟩
  go_wp2
  refine leaves_cons (f := 83) (args := #[.pointer (some ⟨w.heap.size, 0, none⟩), .pointer (some ⟨w.heap.size + 1, 0, none⟩)]) (by simp) (by simp [go_sem]) ?_
  refine (catch_panicking w.heap.size (w.heap.size + 1) _ _ _ _ _ _ (by omega) hV2.out hE2.out).mono ?_
  rintro e u' w4 ⟨rfl, rfl, hc⟩
  have z0 : w4.cell? ⟨w.heap.size, 0, none⟩ = some (.int .i64 0) := hc.1.cell 0
  have z1 : w4.cell? ⟨w.heap.size, 1, none⟩ = some (.int .i64 0) := hc.1.cell 1
  have z2 : w4.cell? ⟨w.heap.size, 2, none⟩ = some (.string ⟨#[]⟩) := hc.1.cell 2
  have z3 : w4.cell? ⟨w.heap.size, 3, none⟩ = some (.slice none 0 0) := hc.1.cell 3
  have y0 : w4.cell? ⟨w.heap.size + 1, 0, none⟩ = some (.int .i64 10) := hc.2.1.cell 0
  have HR : Hid (RetDec (Val.zero, 10) w (.returned (.tuple #[.agg #[.int .i64 0, .int .i64 0, .string ⟨#[]⟩, .slice none 0 0], .int .i64 10])) w4) := ⟨.slice none 0 0, rfl, valsP_nil _ _ _, hc.2.2.below hB2.out (Nat.le_refl _) (by omega)⟩
  clear hc hB2 hV2 hE2 hL2 hX2
  simp [Leaves, settle, results, Try.results63, go_sem, z0, z1, z2, z3, y0]
  exact HR.out

set_option maxRecDepth 100000 in
set_option maxHeartbeats 4000000 in
theorem cDecode_some (l : Bs) (A : Option Addr) (c : Nat) (w : World) (hb : BsAt w (fun b => b < w.heap.size) (.slice A l.length c) l) (hl : l.length ≤ 100000000) (x : Val) (hn : rdVal 16 l = some (x, [])) :
    Calls Try.prog 63 #[.slice A l.length c] w (RetDec (decT l) w) := by
  rw [dec_some hn]
  have HS := dec_start hb
  obtain ⟨n, hn0⟩ : ∃ n, l.length = n := ⟨_, rfl⟩
  rw [hn0] at HS ⊢
  obtain ⟨hR, hV, hE, hB⟩ := HS
  have HC := Lib.hid (ValR.all 16 l w.heap.size (w.heap.size + 1 + 1) _ 0 _ hR (hB.size) hl (by decide) (by decide) (Lib.hid hn))
  clear hb hR hn
  have hmf : ∀ (fn : Fn) (first cap : Array Value) (w : World), (Instr.makeFunc fn first cap).run Try.prog w = .ok (.func fn first cap) w := fun _ _ _ _ => rfl
  go_enter_defers Try.func63, Try.ntmps63
  go_wp2_with fail
  refine HC.out.mono ?_
  intro e w1 hret
  obtain ⟨Ax, cx, rfl, hL, hR1, hg⟩ := RetVal.open hret
  have hB1 := below_of_grown hB hg (by omega)
  have hV1 := hV.same (hg.block _ hV.lt (by intro e; injection e with e; omega))
  have hE1 := hE.same (hg.block _ hE.lt (by intro e; injection e with e; omega))
  have hz0 := hB.size
  have hL1 : ValsP w1 (fun b => w.heap.size + 1 + 1 ≤ b) 16 (.slice Ax x.elems.length cx) x.elems := hL.weak fun b hb _ => by have : _ ≤ b := hb; simp at this; omega
  have x0 : w1.cell? ⟨w.heap.size, 0, none⟩ = some (.int .i64 0) := hV1.cell 0
  have x1 : w1.cell? ⟨w.heap.size, 1, none⟩ = some (.int .i64 0) := hV1.cell 1
  have x2 : w1.cell? ⟨w.heap.size, 2, none⟩ = some (.string ⟨#[]⟩) := hV1.cell 2
  have x3 : w1.cell? ⟨w.heap.size, 3, none⟩ = some (.slice none 0 0) := hV1.cell 3
  have f0 := hV1.free 0
  have f1 := hV1.free 1
  have f2 := hV1.free 2
  have f3 := hV1.free 3
  have vz := hV1.lt
  clear HC hret hg hV hE hB hL hz0
  obtain ⟨Ar, cr, hX, hXB⟩ := hR1
  have q0 : w1.cell? ⟨w.heap.size + 1 + 1, 0, none⟩ = some (.slice Ar 0 cr) := hX.cell 0
  have hV2 := (((hV1.set 0 (.int .i64 x.kind)).set 1 (.int .i64 x.num)).set 2 (.string (strB x.str))).set 3 (.slice Ax x.elems.length cx)
  have hE2 := (((hE1.other (a := ⟨w.heap.size, 0, none⟩) (by simp) (.int .i64 x.kind)).other (a := ⟨w.heap.size, 1, none⟩) (by simp) (.int .i64 x.num)).other (a := ⟨w.heap.size, 2, none⟩) (by simp) (.string (strB x.str))).other (a := ⟨w.heap.size, 3, none⟩) (by simp) (.slice Ax x.elems.length cx)
  have hX2 := (((hX.other (a := ⟨w.heap.size, 0, none⟩) (by simp; omega) (.int .i64 x.kind)).other (a := ⟨w.heap.size, 1, none⟩) (by simp; omega) (.int .i64 x.num)).other (a := ⟨w.heap.size, 2, none⟩) (by simp; omega) (.string (strB x.str))).other (a := ⟨w.heap.size, 3, none⟩) (by simp; omega) (.slice Ax x.elems.length cx)
  have hB2 := (((hB1.setCell (p := ⟨w.heap.size, 0, none⟩) (Nat.le_refl _) (.int .i64 x.kind)).setCell (p := ⟨w.heap.size, 1, none⟩) (Nat.le_refl _) (.int .i64 x.num)).setCell (p := ⟨w.heap.size, 2, none⟩) (Nat.le_refl _) (.string (strB x.str))).setCell (p := ⟨w.heap.size, 3, none⟩) (Nat.le_refl _) (.slice Ax x.elems.length cx)
  have hL2 := (((hL1.set (a := ⟨w.heap.size, 0, none⟩) (fun h => by have h2 : w.heap.size + 1 + 1 ≤ w.heap.size := h; omega) (.int .i64 x.kind)).set (a := ⟨w.heap.size, 1, none⟩) (fun h => by have h2 : w.heap.size + 1 + 1 ≤ w.heap.size := h; omega) (.int .i64 x.num)).set (a := ⟨w.heap.size, 2, none⟩) (fun h => by have h2 : w.heap.size + 1 + 1 ≤ w.heap.size := h; omega) (.string (strB x.str))).set (a := ⟨w.heap.size, 3, none⟩) (fun h => by have h2 : w.heap.size + 1 + 1 ≤ w.heap.size := h; omega) (.slice Ax x.elems.length cx)
  replace hV2 := Lib.hid hV2
  replace hE2 := Lib.hid hE2
  replace hX2 := Lib.hid hX2
  replace hB2 := Lib.hid hB2
  replace hL2 := Lib.hid hL2
  clear hV1 hE1 hB1 hL1 hX hXB
  go_wp2_with fail
  clear x0 x1 x2 x3 f0 f1 f2 f3 vz q0
  generalize (((w1.setCell ⟨w.heap.size, 0, none⟩ (.int .i64 x.kind)).setCell ⟨w.heap.size, 1, none⟩ (.int .i64 x.num)).setCell ⟨w.heap.size, 2, none⟩ (.string (strB x.str))).setCell ⟨w.heap.size, 3, none⟩ (.slice Ax x.elems.length cx) = w2 at hV2 hE2 hX2 hB2 hL2 ⊢
  refine (want_yes _ _).mono ?_
  rintro e w3 ⟨rfl, rfl⟩
  have x0 : w2.cell? ⟨w.heap.size, 0, none⟩ = some (.int .i64 x.kind) := hV2.out.cell 0
  have x1 : w2.cell? ⟨w.heap.size, 1, none⟩ = some (.int .i64 x.num) := hV2.out.cell 1
  have x2 : w2.cell? ⟨w.heap.size, 2, none⟩ = some (.string (strB x.str)) := hV2.out.cell 2
  have x3 : w2.cell? ⟨w.heap.size, 3, none⟩ = some (.slice Ax x.elems.length cx) := hV2.out.cell 3
  have f0 := hV2.out.free 0
  have f1 := hV2.out.free 1
  have f2 := hV2.out.free 2
  have f3 := hV2.out.free 3
  have vz := hV2.out.lt
  have y0 : w2.cell? ⟨w.heap.size + 1, 0, none⟩ = some (.int .i64 0) := hE2.out.cell 0
  have g0 := hE2.out.free 0
  have ez := hE2.out.lt
  go_wp2
  have hVz := (((((hV2.out.set 0 (.int .i64 x.kind)).set 1 (.int .i64 x.num)).set 2 (.string (strB x.str))).set 3 (.slice Ax x.elems.length cx)).other (a := ⟨w.heap.size + 1, 0, none⟩) (by simp) (.int .i64 0))
  have hEz := (((((hE2.out.other (a := ⟨w.heap.size, 0, none⟩) (by simp) (.int .i64 x.kind)).other (a := ⟨w.heap.size, 1, none⟩) (by simp) (.int .i64 x.num)).other (a := ⟨w.heap.size, 2, none⟩) (by simp) (.string (strB x.str))).other (a := ⟨w.heap.size, 3, none⟩) (by simp) (.slice Ax x.elems.length cx)).set 0 (.int .i64 0))
  have hBz := (((((hB2.out.setCell (p := ⟨w.heap.size, 0, none⟩) (Nat.le_refl _) (.int .i64 x.kind)).setCell (p := ⟨w.heap.size, 1, none⟩) (Nat.le_refl _) (.int .i64 x.num)).setCell (p := ⟨w.heap.size, 2, none⟩) (Nat.le_refl _) (.string (strB x.str))).setCell (p := ⟨w.heap.size, 3, none⟩) (Nat.le_refl _) (.slice Ax x.elems.length cx)).setCell (p := ⟨w.heap.size + 1, 0, none⟩) (by simp) (.int .i64 0))
  have hLz : Hid (ValsP (((((w2.setCell ⟨w.heap.size, 0, none⟩ (.int .i64 x.kind)).setCell ⟨w.heap.size, 1, none⟩ (.int .i64 x.num)).setCell ⟨w.heap.size, 2, none⟩ (.string (strB x.str))).setCell ⟨w.heap.size, 3, none⟩ (.slice Ax x.elems.length cx)).setCell ⟨w.heap.size + 1, 0, none⟩ (.int .i64 0)) (fun b => w.heap.size ≤ b) 16 (.slice Ax x.elems.length cx) x.elems) := by
    exact Lib.hid ((((((hL2.out.set (a := ⟨w.heap.size, 0, none⟩) (fun h => by have h2 : w.heap.size + 1 + 1 ≤ w.heap.size := h; omega) (.int .i64 x.kind)).set (a := ⟨w.heap.size, 1, none⟩) (fun h => by have h2 : w.heap.size + 1 + 1 ≤ w.heap.size := h; omega) (.int .i64 x.num)).set (a := ⟨w.heap.size, 2, none⟩) (fun h => by have h2 : w.heap.size + 1 + 1 ≤ w.heap.size := h; omega) (.string (strB x.str))).set (a := ⟨w.heap.size, 3, none⟩) (fun h => by have h2 : w.heap.size + 1 + 1 ≤ w.heap.size := h; omega) (.slice Ax x.elems.length cx)).set (a := ⟨w.heap.size + 1, 0, none⟩) (fun h => by have h2 : w.heap.size + 1 + 1 ≤ w.heap.size + 1 := h; omega) (.int .i64 0)).weak fun b hb _ => by omega)
  clear x0 x1 x2 x3 f0 f1 f2 f3 vz y0 g0 ez hV2 hE2 hX2 hB2 hL2
  generalize (((((w2.setCell ⟨w.heap.size, 0, none⟩ (.int .i64 x.kind)).setCell ⟨w.heap.size, 1, none⟩ (.int .i64 x.num)).setCell ⟨w.heap.size, 2, none⟩ (.string (strB x.str))).setCell ⟨w.heap.size, 3, none⟩ (.slice Ax x.elems.length cx)).setCell ⟨w.heap.size + 1, 0, none⟩ (.int .i64 0)) = Z at hVz hEz hBz hLz ⊢
  have z0 : Z.cell? ⟨w.heap.size, 0, none⟩ = some (.int .i64 x.kind) := hVz.cell 0
  have z1 : Z.cell? ⟨w.heap.size, 1, none⟩ = some (.int .i64 x.num) := hVz.cell 1
  have z2 : Z.cell? ⟨w.heap.size, 2, none⟩ = some (.string (strB x.str)) := hVz.cell 2
  have z3 : Z.cell? ⟨w.heap.size, 3, none⟩ = some (.slice Ax x.elems.length cx) := hVz.cell 3
  have y0 : Z.cell? ⟨w.heap.size + 1, 0, none⟩ = some (.int .i64 0) := hEz.cell 0
  refine leaves_cons (f := 83) (args := #[.pointer (some ⟨w.heap.size, 0, none⟩), .pointer (some ⟨w.heap.size + 1, 0, none⟩)]) (by simp) (by simp [go_sem]) ?_
  refine (catch_idle w.heap.size (w.heap.size + 1) _).mono ?_
  rintro e u' w4 ⟨rfl, rfl, rfl⟩
  have HR : Hid (RetDec (x, 0) w (.returned (.tuple #[.agg #[.int .i64 x.kind, .int .i64 x.num, .string (strB x.str), .slice Ax x.elems.length cx], .int .i64 0])) w4) := ⟨.slice Ax x.elems.length cx, rfl, hLz.out, hBz⟩
  clear hVz hEz hBz hLz
  simp [Leaves, settle, results, Try.results63, go_sem, z0, z1, z2, z3, y0]
  exact HR.out

theorem cDecode_any (l : Bs) (V : Value) (w : World) (hb : BsAt w (fun b => b < w.heap.size) V l) (hl : l.length ≤ 100000000) : Calls Try.prog 63 #[V] w (RetDec (decT l) w) := by
  obtain ⟨A, c, rfl, _⟩ := hb.form
  rcases hn : rdVal 16 l with _ | ⟨x, r⟩
  · exact cDecode_none l A c w hb hl hn
  · rcases r with _ | ⟨b, t⟩
    · exact cDecode_some l A c w hb hl x hn
    · exact cDecode_more l A c w hb hl x (b :: t) hn (by simp)

end Go.Proofs.Ytmbifmmkccghfaa

/-
  Plain facts on encodings: they are read back, and only they are read. No condition.
-/
namespace Go.Proofs.Ytmbifmmkccghfaa
open Go.RowKit

theorem rdNum_numT (u : Nat) : ∀ (i acc : Nat) (r : Bs), i ≤ 9 → u * 128 ^ i < 18446744073709551616 → (i = 0 ∨ u ≠ 0) → rdNum i acc (numT u ++ r) = some (acc + u * 128 ^ i, r) := by
  induction u using Nat.strongRecOn with
  | _ u ih =>
    intro i acc r hi hu h0
    have h9 : i = 9 → u ≤ 1 := by
      rintro rfl
      have e : 128 ^ 9 = 9223372036854775808 := by decide
      rw [e] at hu
      omega
    by_cases h : u < 128
    · rw [numT_small h, List.singleton_append]
      have hc : (UInt8.ofNat u).toNat = u := by simp; omega
      have hv : (i = 0 ∨ (UInt8.ofNat u).toNat ≠ 0) ∧ (i < 9 ∨ (UInt8.ofNat u).toNat ≤ 1) := by
        rw [hc]
        refine ⟨h0, ?_⟩
        by_cases hi9 : i = 9
        · exact .inr (h9 hi9)
        · exact .inl (by omega)
      rw [rdNum_end hv (by rw [hc]; exact h), hc, Nat.mod_eq_of_lt h]
    · rw [numT_big h, List.cons_append]
      have hc : (UInt8.ofNat (u % 128 + 128)).toNat = u % 128 + 128 := by simp; omega
      have hi9 : i < 9 := by
        by_cases hi9 : i = 9
        · have := h9 hi9; omega
        · omega
      have hv : (i = 0 ∨ (UInt8.ofNat (u % 128 + 128)).toNat ≠ 0) ∧ (i < 9 ∨ (UInt8.ofNat (u % 128 + 128)).toNat ≤ 1) := by
        rw [hc]; exact ⟨.inr (by omega), .inl hi9⟩
      rw [rdNum_go hv (by rw [hc]; omega), hc]
      have e1 : (u % 128 + 128) % 128 = u % 128 := by omega
      have e2 : 128 ^ (i + 1) = 128 * 128 ^ i := by rw [Nat.pow_succ, Nat.mul_comm]
      have e3 : u / 128 * (128 * 128 ^ i) + u % 128 * 128 ^ i = u * 128 ^ i := by
        rw [← Nat.mul_assoc, ← Nat.add_mul]
        congr 1
        omega
      rw [e1, ih (u / 128) (by omega) (i + 1) _ r (by omega) (by rw [e2]; omega) (.inr (by omega)), e2]
      congr 2
      omega
theorem rdNum_of {u : Nat} (h : u < 18446744073709551616) (r : Bs) : rdNum 0 0 (numT u ++ r) = some (u, r) := by
  have := rdNum_numT u 0 0 r (by decide) (by simpa using h) (.inl rfl)
  simpa using this
theorem numT_rdNum {l : Bs} : ∀ {i acc v : Nat} {r : Bs}, i ≤ 9 → rdNum i acc l = some (v, r) → ∃ u, v = acc + u * 128 ^ i ∧ l = numT u ++ r ∧ (i = 0 ∨ u ≠ 0) := by
  induction l with
  | nil => intro i acc v r _ h; cases h
  | cons c t ih =>
    intro i acc v r hi h
    have hcn : c.toNat < 256 := c.toNat_lt
    by_cases hv : (i = 0 ∨ c.toNat ≠ 0) ∧ (i < 9 ∨ c.toNat ≤ 1)
    · by_cases h128 : c.toNat < 128
      · rw [rdNum_end hv h128] at h
        cases h
        refine ⟨c.toNat, by rw [Nat.mod_eq_of_lt h128], ?_, hv.1⟩
        rw [numT_small h128]
        simp
      · rw [rdNum_go hv h128] at h
        obtain ⟨u, h1, h2, h3⟩ := ih (by omega) h
        have hu0 : u ≠ 0 := by omega
        refine ⟨c.toNat % 128 + 128 * u, ?_, ?_, .inr (by omega)⟩
        · rw [h1, Nat.pow_succ, Nat.add_mul, Nat.mul_comm (128 ^ i) 128, ← Nat.mul_assoc, Nat.mul_comm u 128]
          omega
        · have e1 : (c.toNat % 128 + 128 * u) % 128 + 128 = c.toNat := by omega
          have e2 : (c.toNat % 128 + 128 * u) / 128 = u := by omega
          rw [numT_big (by omega), e1, e2, h2]
          simp
    · rw [rdNum_bad hv] at h
      cases h
theorem rdNum_inv {l : Bs} {u : Nat} {r : Bs} (h : rdNum 0 0 l = some (u, r)) : l = numT u ++ r := by
  obtain ⟨v, h1, h2, _⟩ := numT_rdNum (by decide) h
  obtain rfl : u = v := by simpa using h1
  exact h2

theorem encL_ge (l : List Val) : l.length ≤ (encL l).length := by
  induction l with
  | nil => exact Nat.zero_le _
  | cons x l ih =>
    have hx : 0 < x.enc.length := by
      obtain ⟨k, n, s, m⟩ := x
      rw [Val.enc]
      split
      · simp
      · split <;> simp
    simp only [encL, List.length_append, List.length_cons]
    omega
theorem rdMany_enc {f : Bs → Option (Val × Bs)} {l : List Val} (h : ∀ x ∈ l, ∀ r, f (x.enc ++ r) = some (x, r)) (r : Bs) : rdMany f l.length (encL l ++ r) = some (l, r) := by
  induction l with
  | nil => rfl
  | cons x l ih =>
    rw [List.length_cons, rdMany, encL, List.append_assoc, h x List.mem_cons_self, Option.bind_some, ih fun y hy => h y (List.mem_cons_of_mem _ hy)]
    rfl
theorem depth_mem {l : List Val} {y : Val} (hy : y ∈ l) : y.depth ≤ depthL l := by
  induction l with
  | nil => cases hy
  | cons z l ih2 =>
    rw [depthL]
    rcases List.mem_cons.1 hy with rfl | hy
    · exact Nat.le_max_left _ _
    · exact Nat.le_trans (ih2 hy) (Nat.le_max_right _ _)
theorem rdVal_enc (m : Nat) : ∀ x : Val, x.okB = true → x.fits → x.depth ≤ m → ∀ r, rdVal m (x.enc ++ r) = some (x, r) := by
  induction m with
  | zero =>
    intro x hok hf hd r
    have hn := hf.nums
    have hs := hf.strs
    unfold maxLen at hs
    obtain ⟨k, n, s, l⟩ := x
    simp only [Val.num, Val.str] at hn hs
    rcases okB_kind hok with hk | hk | hk
    · simp only [Val.kind] at hk
      subst hk
      rw [Val.okB, if_pos rfl, Bool.and_eq_true] at hok
      obtain rfl := List.isEmpty_iff.1 hok.1
      obtain rfl := List.isEmpty_iff.1 hok.2
      rw [enc_1, List.append_assoc, List.singleton_append, rdVal_one, rdNum_of (zig_lt hn.1 hn.2)]
      simp [zag_zig]
    · simp only [Val.kind] at hk
      subst hk
      rw [Val.okB, if_neg (by decide), if_pos rfl, Bool.and_eq_true, decide_eq_true_eq] at hok
      obtain ⟨rfl, h2⟩ := hok
      obtain rfl := List.isEmpty_iff.1 h2
      rw [enc_2, List.append_assoc, List.append_assoc, List.singleton_append, rdVal_two, rdLen_of (rdNum_of (u := s.length) (by omega) (s ++ r)) (by simp)]
      simp
    · simp only [Val.kind] at hk
      subst hk
      rw [depth_list] at hd
      omega
  | succ m ih =>
    intro x hok hf hd r
    have hn := hf.nums
    have hs := hf.strs
    have he := hf.els
    have hln := hf.lens
    unfold maxLen at hs hln
    obtain ⟨k, n, s, l⟩ := x
    simp only [Val.num, Val.str, Val.elems] at hn hs he hln
    rcases okB_kind hok with hk | hk | hk
    · simp only [Val.kind] at hk
      subst hk
      rw [Val.okB, if_pos rfl, Bool.and_eq_true] at hok
      obtain rfl := List.isEmpty_iff.1 hok.1
      obtain rfl := List.isEmpty_iff.1 hok.2
      rw [enc_1, List.append_assoc, List.singleton_append, rdVal_one, rdNum_of (zig_lt hn.1 hn.2)]
      simp [zag_zig]
    · simp only [Val.kind] at hk
      subst hk
      rw [Val.okB, if_neg (by decide), if_pos rfl, Bool.and_eq_true, decide_eq_true_eq] at hok
      obtain ⟨rfl, h2⟩ := hok
      obtain rfl := List.isEmpty_iff.1 h2
      rw [enc_2, List.append_assoc, List.append_assoc, List.singleton_append, rdVal_two, rdLen_of (rdNum_of (u := s.length) (by omega) (s ++ r)) (by simp)]
      simp
    · simp only [Val.kind] at hk
      subst hk
      obtain ⟨rfl, rfl, hol⟩ := okB_three hok
      rw [depth_list] at hd
      have hall : ∀ y ∈ l, ∀ r, rdVal m (y.enc ++ r) = some (y, r) := fun y hy r => ih y (okL_at hol hy) (fits_mem he hy) (by
        have := depth_mem hy
        omega) r
      · rw [enc_3, List.append_assoc, List.append_assoc, List.singleton_append, rdVal_list, rdLen_of (rdNum_of (u := l.length) (by omega) (encL l ++ r)) (by have := encL_ge l; simp; omega), Option.bind_some]
        dsimp only
        rw [rdMany_enc hall]
        rfl

theorem rdMany_inv {f : Bs → Option (Val × Bs)} {m : Nat} (hf : ∀ r x r', f r = some (x, r') → r = x.enc ++ r' ∧ x.okB = true ∧ x.depth ≤ m ∧ (r.length ≤ maxLen → x.fits)) (n : Nat) : ∀ r l r', rdMany f n r = some (l, r') → r = encL l ++ r' ∧ l.length = n ∧ okL l = true ∧ depthL l ≤ m ∧ (r.length ≤ maxLen → fitsL l) := by
  induction n with
  | zero => intro r l r' h; cases h; exact ⟨rfl, rfl, rfl, Nat.zero_le _, fun _ => trivial⟩
  | succ n ih =>
    intro r l r' h
    rw [rdMany] at h
    rcases h1 : f r with _ | ⟨x, r1⟩
    · rw [h1] at h; cases h
    · rw [h1, Option.bind_some] at h
      rcases h2 : rdMany f n r1 with _ | ⟨l2, r2⟩
      · rw [h2] at h; cases h
      · rw [h2] at h
        cases h
        obtain ⟨a1, a2, a3, a4⟩ := hf _ _ _ h1
        obtain ⟨b1, b2, b3, b4, b5⟩ := ih _ _ _ h2
        refine ⟨by rw [a1, b1, encL, List.append_assoc], by simp [b2], by rw [okL, a2, b3]; rfl, by rw [depthL]; exact Nat.max_le.2 ⟨a3, b4⟩, fun hl => ⟨a4 hl, b5 ?_⟩⟩
        rw [a1, List.length_append] at hl
        omega
theorem rdVal_inv (m : Nat) : ∀ l x r, rdVal m l = some (x, r) → l = x.enc ++ r ∧ x.okB = true ∧ x.depth ≤ m ∧ (l.length ≤ maxLen → x.fits) := by
  induction m with
  | zero =>
    intro l x r h
    rcases l with _ | ⟨c, t⟩
    · cases h
    · by_cases h1 : c = 1
      · subst h1
        rw [rdVal_one] at h
        rcases hn : rdNum 0 0 t with _ | ⟨u, q⟩
        · rw [hn] at h; cases h
        · rw [hn] at h
          cases h
          have hu := (rdNum_lt (by omega) (by decide) hn).1
          have hz := zag_range hu
          refine ⟨by rw [rdNum_inv hn, enc_1, zig_zag, List.append_assoc]; rfl, rfl, Nat.zero_le _, fun _ => ⟨hz, ⟨Nat.zero_le _, Nat.zero_le _⟩, trivial⟩⟩
      · by_cases h2 : c = 2
        · subst h2
          rw [rdVal_two] at h
          rcases hn : rdLen t with _ | ⟨u, q⟩
          · rw [hn] at h; cases h
          · rw [hn] at h
            cases h
            obtain ⟨hnn, hur⟩ := rdLen_some hn
            have hq := (rdNum_lt (by omega) (by decide) hnn).2
            have htl : (q.take u).length = u := by rw [List.length_take]; omega
            refine ⟨?_, by rw [Val.okB, if_neg (by decide), if_pos rfl]; rfl, Nat.zero_le _, fun hl => ⟨by decide, ⟨by rw [htl]; simp only [List.length_cons] at hl; omega, Nat.zero_le _⟩, trivial⟩⟩
            rw [rdNum_inv hnn, enc_2, htl, List.append_assoc, List.append_assoc, List.take_append_drop]
            rfl
        · by_cases h3 : c = 3
          · subst h3; rw [rdVal_zero] at h; cases h
          · rw [rdVal_no 0 t h1 h2 h3] at h; cases h
  | succ m ih =>
    intro l x r h
    rcases l with _ | ⟨c, t⟩
    · cases h
    · by_cases h1 : c = 1
      · subst h1
        rw [rdVal_one] at h
        rcases hn : rdNum 0 0 t with _ | ⟨u, q⟩
        · rw [hn] at h; cases h
        · rw [hn] at h
          cases h
          have hu := (rdNum_lt (by omega) (by decide) hn).1
          have hz := zag_range hu
          refine ⟨by rw [rdNum_inv hn, enc_1, zig_zag, List.append_assoc]; rfl, rfl, Nat.zero_le _, fun _ => ⟨hz, ⟨Nat.zero_le _, Nat.zero_le _⟩, trivial⟩⟩
      · by_cases h2 : c = 2
        · subst h2
          rw [rdVal_two] at h
          rcases hn : rdLen t with _ | ⟨u, q⟩
          · rw [hn] at h; cases h
          · rw [hn] at h
            cases h
            obtain ⟨hnn, hur⟩ := rdLen_some hn
            have hq := (rdNum_lt (by omega) (by decide) hnn).2
            have htl : (q.take u).length = u := by rw [List.length_take]; omega
            refine ⟨?_, by rw [Val.okB, if_neg (by decide), if_pos rfl]; rfl, Nat.zero_le _, fun hl => ⟨by decide, ⟨by rw [htl]; simp only [List.length_cons] at hl; omega, Nat.zero_le _⟩, trivial⟩⟩
            rw [rdNum_inv hnn, enc_2, htl, List.append_assoc, List.append_assoc, List.take_append_drop]
            rfl
        · by_cases h3 : c = 3
          · subst h3
            rw [rdVal_list] at h
            rcases hn : rdLen t with _ | ⟨u, q⟩
            · rw [hn] at h; cases h
            · rw [hn, Option.bind_some] at h
              rcases hm : rdMany (rdVal m) u q with _ | ⟨l2, r2⟩
              · rw [hm] at h; cases h
              · rw [hm] at h
                cases h
                obtain ⟨hnn, hur⟩ := rdLen_some hn
                have hq := (rdNum_lt (by omega) (by decide) hnn).2
                obtain ⟨b1, b2, b3, b4, b5⟩ := rdMany_inv ih u q l2 _ hm
                refine ⟨?_, by rw [ok_of_list, b3]; rfl, by rw [depth_list]; exact Nat.succ_le_succ b4, fun hl => ?_⟩
                · rw [rdNum_inv hnn, enc_3, b2, b1]
                  simp only [List.append_assoc]
                  rfl
                · simp only [List.length_cons] at hl
                  exact ⟨by decide, ⟨Nat.zero_le _, (by show l2.length ≤ maxLen; omega)⟩, b5 (by omega)⟩
          · rw [rdVal_no _ t h1 h2 h3] at h; cases h

end Go.Proofs.Ytmbifmmkccghfaa

/-
  Boxes of chapter 34 as plain data, and what the functions compute. No condition.
-/
namespace Go.Proofs.Ytmbifmmkccghfaa
open Go.RowKit

theorem gd_at {α : Type} {d : α} {l : List α} {k : Nat} (hk : k < l.length) : l.getD k d = l[k] := by
  rw [List.getD_eq_getElem?_getD, List.getElem?_eq_getElem hk]
  rfl
structure Bx where
  net : Net
  sent : List (Int × Int)
  heard : List Int
  fresh : List Bool
def Bx.zero : Bx := ⟨Net.zero, [], [], []⟩
def I64 (n : Int) : Prop := -9223372036854775808 ≤ n ∧ n ≤ 9223372036854775807
def intV (n : Int) : Val := .mk 1 n [] []
def msgV (n o : Int) : Val := .mk 3 0 [] [intV n, intV o]
def msgB (n o : Int) : Bs := (msgV n o).enc
theorem intV_ok (n : Int) : (intV n).okB = true := by simp [intV, Val.okB]
theorem msg_ok (n o : Int) : (msgV n o).okB = true := by simp [msgV, Val.okB, okL, intV_ok]
theorem msg_depth (n o : Int) : (msgV n o).depth = 1 := by simp [msgV, intV, Val.depth, depthL]
theorem msg_chk (n o : Int) : chkT (msgV n o) = 0 := chk_ok (msg_ok n o) (by rw [msg_depth]; omega)
theorem intV_fits {n : Int} (h : I64 n) : (intV n).fits := ⟨h, ⟨Nat.zero_le _, Nat.zero_le _⟩, trivial⟩
theorem msg_fits {n o : Int} (h1 : I64 n) (h2 : I64 o) : (msgV n o).fits := ⟨by decide, ⟨Nat.zero_le _, by simp [maxLen]⟩, intV_fits h1, intV_fits h2, trivial⟩
theorem dec_msg {n o : Int} (h1 : I64 n) (h2 : I64 o) : decT (msgB n o) = (msgV n o, 0) := by
  have h := rdVal_enc 16 (msgV n o) (msg_ok n o) (msg_fits h1 h2) (by rw [msg_depth]; omega) []
  rw [List.append_nil] at h
  exact dec_some h
def twoInts (v : Val) : Option (Int × Int) := if v.kind = 3 then (match v.elems with | [a, b] => if a.kind = 1 ∧ b.kind = 1 then some (a.num, b.num) else none | _ => none) else none
def readT (l : Bs) : Option (Int × Int) := if (decT l).2 = 0 then twoInts (decT l).1 else none
def firstInt (v : Val) : Int := if v.kind = 3 then (match v.elems with | [a, _] => if a.kind = 1 ∧ 0 ≤ a.num then a.num else -1 | _ => -1) else -1
def numberT (l : Bs) : Int := if (decT l).2 = 0 then firstInt (decT l).1 else -1
theorem read_msg {n o : Int} (h1 : I64 n) (h2 : I64 o) : readT (msgB n o) = some (n, o) := by
  rw [readT, dec_msg h1 h2]
  rfl
theorem dec_inv {l : Bs} (hl : l.length ≤ maxLen) (h : (decT l).2 = 0) : l = (decT l).1.enc ∧ (decT l).1.okB = true ∧ (decT l).1.fits := by
  rcases hd : rdVal 16 l with _ | ⟨x, r⟩
  · rw [dec_none hd] at h
    cases h
  · cases r with
    | cons c t =>
      rw [dec_more hd (by simp)] at h
      cases h
    | nil =>
      obtain ⟨g1, g2, _, g4⟩ := rdVal_inv 16 l x [] hd
      rw [dec_some hd]
      exact ⟨by rw [List.append_nil] at g1; exact g1, g2, g4 hl⟩
theorem okInt {a : Val} (h : a.okB = true) (hk : a.kind = 1) : a = intV a.num := by
  obtain ⟨k, n, s, l⟩ := a
  obtain rfl : k = 1 := hk
  simp only [Val.okB, if_pos, Bool.and_eq_true, List.isEmpty_iff] at h
  obtain ⟨rfl, rfl⟩ := h
  rfl
theorem read_inv {l : Bs} (hl : l.length ≤ maxLen) {n o : Int} (h : readT l = some (n, o)) : l = msgB n o ∧ I64 n ∧ I64 o := by
  unfold readT at h
  split at h
  · next h0 =>
    obtain ⟨g1, g2, g3⟩ := dec_inv hl h0
    generalize (decT l).1 = v at h g1 g2 g3
    obtain ⟨k, nn, s, es⟩ := v
    unfold twoInts at h
    split at h
    · next hk =>
      obtain rfl : k = 3 := hk
      match es, h, g2, g3, g1 with
      | [a, b], h, g2, g3, g1 =>
        dsimp only [Val.elems] at h
        split at h
        · next hab =>
          simp only [Option.some.injEq, Prod.mk.injEq] at h
          obtain ⟨rfl, rfl⟩ := h
          simp [Val.okB, okL] at g2
          obtain ⟨rfl, rfl, ha, hb⟩ := g2
          have ea := okInt ha hab.1
          have eb := okInt hb hab.2
          refine ⟨by rw [g1, msgB, msgV, ← ea, ← eb], ?_, ?_⟩
          · obtain ⟨_, _, fa, _⟩ := g3
            rw [ea] at fa
            exact fa.1
          · obtain ⟨_, _, _, fb, _⟩ := g3
            rw [eb] at fb
            exact fb.1
        · cases h
      | [], h, _, _, _ => cases h
      | [_], h, _, _, _ => cases h
      | _ :: _ :: _ :: _, h, _, _, _ => cases h
    · cases h
  · cases h
theorem msg_len {n o : Int} (h1 : I64 n) (h2 : I64 o) : (msgB n o).length ≤ 32 := by
  have hz : ∀ a : Int, I64 a → (numT (zig a)).length ≤ 10 := fun a ha => numT_len 10 _ (by unfold I64 at ha; unfold zig; split <;> omega) (by omega)
  have e : msgB n o = [3] ++ numT 2 ++ (([1] ++ numT (zig n)) ++ ([1] ++ numT (zig o))) := by
    rw [msgB, msgV, enc_3]
    simp only [intV, encL, enc_1, List.append_nil]
    rfl
  have h3 := hz n h1
  have h4 := hz o h2
  have h5 := numT_len 1 2 (by omega) (by omega)
  rw [e]
  simp only [List.length_append, List.length_cons, List.length_nil]
  omega
def Bx.at (b : Bx) (n : Int) : Int × Int := b.sent.getD n.toNat (0, 0)
def Bx.pkB (b : Bx) (p : Pk) : Bool := match readT p.data with
  | some (n, o) => decide (0 ≤ n ∧ n < (b.sent.length : Int) ∧ p.src = 0 ∧ p.dst = (b.at n).1 + 1 ∧ o = (b.at n).2)
  | none => false
def Bx.pkP (b : Bx) (p : Pk) : Bool := decide (0 ≤ numberT p.data ∧ numberT p.data < (b.sent.length : Int) ∧ p.src = 0 ∧ p.dst = (b.at (numberT p.data)).1 + 1 ∧ p.data = msgB (numberT p.data) (b.at (numberT p.data)).2)
def Bx.sentB (b : Bx) : Bool := b.sent.all fun m => decide ((0 ≤ m.1 ∧ m.1 < (b.heard.length : Int)) ∧ (0 ≤ m.2 ∧ m.2 ≤ 7))
theorem sent_at {b : Bx} (h : b.sentB = true) {n : Int} (h0 : 0 ≤ n) (h1 : n < (b.sent.length : Int)) : (0 ≤ (b.at n).1 ∧ (b.at n).1 < (b.heard.length : Int)) ∧ (0 ≤ (b.at n).2 ∧ (b.at n).2 ≤ 7) := by
  have hk : n.toNat < b.sent.length := by omega
  have := List.all_eq_true.1 h _ (List.getElem_mem hk)
  rw [Bx.at, List.getD_eq_getElem?_getD, List.getElem?_eq_getElem hk]
  exact of_decide_eq_true this
theorem number_read {l : Bs} {n o : Int} (h : readT l = some (n, o)) (h0 : 0 ≤ n) : numberT l = n := by
  unfold readT at h
  unfold numberT
  split at h
  · next h1 =>
    rw [if_pos h1]
    generalize (decT l).1 = v at h
    unfold twoInts at h
    unfold firstInt
    split at h
    · next hk =>
      rw [if_pos hk]
      obtain ⟨k, nn, s, es⟩ := v
      dsimp only [Val.elems] at h ⊢
      match es, h with
      | [a, c], h =>
        dsimp only at h ⊢
        split at h
        · next hab =>
          simp only [Option.some.injEq, Prod.mk.injEq] at h
          obtain ⟨rfl, _⟩ := h
          rw [if_pos ⟨hab.1, h0⟩]
        · cases h
      | [], h => cases h
      | [_], h => cases h
      | _ :: _ :: _ :: _, h => cases h
    · cases h
  · cases h
theorem pk_same {b : Bx} {p : Pk} (hl : p.data.length ≤ maxLen) (hs : b.sentB = true) (hn : b.sent.length ≤ maxLen) : b.pkP p = b.pkB p := by
  unfold maxLen at hn
  rw [Bool.eq_iff_iff]
  constructor
  · intro h
    obtain ⟨h1, h2, h3, h4, h5⟩ := of_decide_eq_true h
    obtain ⟨_, g3, g4⟩ := sent_at hs h1 h2
    have i1 : I64 (numberT p.data) := ⟨by omega, by omega⟩
    have i2 : I64 (b.at (numberT p.data)).2 := ⟨by omega, by omega⟩
    have hr := read_msg i1 i2
    rw [← h5] at hr
    unfold Bx.pkB
    rw [hr]
    exact decide_eq_true ⟨h1, h2, h3, h4, rfl⟩
  · intro h
    unfold Bx.pkB at h
    rcases hr : readT p.data with _ | ⟨n, o⟩
    · rw [hr] at h; cases h
    · rw [hr] at h
      obtain ⟨h1, h2, h3, h4, h5⟩ := of_decide_eq_true h
      have hnum := number_read hr h1
      obtain ⟨g1, _, _⟩ := read_inv hl hr
      unfold Bx.pkP
      rw [hnum]
      exact decide_eq_true ⟨h1, h2, h3, h4, by rw [← h5]; exact g1⟩
def Bx.h (b : Bx) (g : Nat) : Int := b.heard.getD g 0
def Bx.f (b : Bx) (g : Nat) : Bool := b.fresh.getD g false
def Bx.gateB (b : Bx) (g : Nat) : Bool := if b.h g = 0 then !b.f g else decide (0 ≤ b.h g ∧ b.h g ≤ (b.sent.length : Int) ∧ (b.at (b.h g - 1)).1 = (g : Int))
def Bx.listsB (b : Bx) : Bool := decide ((1 ≤ b.heard.length ∧ b.heard.length ≤ 8) ∧ b.fresh.length = b.heard.length ∧ b.sent.length ≤ 4096)
def Bx.validB (b : Bx) : Bool := b.listsB && (b.sentB && (List.range b.heard.length).all b.gateB)
def Bx.okB (b : Bx) : Bool := b.validB && (b.net.okB && b.net.queue.all b.pkB)
def Bx.checkT (b : Bx) : Int := if b.okB = true then 0 else 340
def newB (n : Int) : Bx × Int := if 1 ≤ n ∧ n ≤ 8 then (⟨Net.zero, [], List.replicate n.toNat 0, List.replicate n.toNat false⟩, 0) else (Bx.zero, 1)
def Bx.sendT (b : Bx) (g o : Int) : Bx × Int :=
  if b.okB = true then (if (0 ≤ g ∧ g < (b.heard.length : Int)) ∧ (0 ≤ o ∧ o ≤ 7) then (if b.sent.length = 4096 then (Bx.zero, 2) else
    (if (Go.Proofs.Ytmbifmmkccghfaa.sendT b.net ⟨0, g + 1, msgB b.sent.length o⟩).2 = 0 then (⟨(Go.Proofs.Ytmbifmmkccghfaa.sendT b.net ⟨0, g + 1, msgB b.sent.length o⟩).1, b.sent ++ [(g, o)], b.heard, b.fresh⟩, 0) else (Bx.zero, (Go.Proofs.Ytmbifmmkccghfaa.sendT b.net ⟨0, g + 1, msgB b.sent.length o⟩).2))) else (Bx.zero, 1)) else (Bx.zero, 340)
def Bx.hear (b : Bx) (p : Pk) (n : Net) : Bx × Bool := if 0 < p.dst ∧ b.h (p.dst - 1).toNat ≤ numberT p.data then (⟨n, b.sent, b.heard.set (p.dst - 1).toNat (numberT p.data + 1), b.fresh.set (p.dst - 1).toNat true⟩, true) else (⟨n, b.sent, b.heard, b.fresh⟩, false)
def Bx.deliverT (b : Bx) (i : Int) : Bx × Bool × Int :=
  if b.okB = true then (if (Go.Proofs.Ytmbifmmkccghfaa.deliverT b.net i).2.2 = 0 then ((b.hear (Go.Proofs.Ytmbifmmkccghfaa.deliverT b.net i).1 (Go.Proofs.Ytmbifmmkccghfaa.deliverT b.net i).2.1).1, (b.hear (Go.Proofs.Ytmbifmmkccghfaa.deliverT b.net i).1 (Go.Proofs.Ytmbifmmkccghfaa.deliverT b.net i).2.1).2, 0) else (Bx.zero, false, (Go.Proofs.Ytmbifmmkccghfaa.deliverT b.net i).2.2)) else (Bx.zero, false, 340)
def Bx.doT (b : Bx) (r : Net × Int) : Bx × Int := if b.okB = true then (if r.2 = 0 then (⟨r.1, b.sent, b.heard, b.fresh⟩, 0) else (Bx.zero, r.2)) else (Bx.zero, 340)
def Bx.loseT (b : Bx) (i : Int) : Bx × Int := b.doT (Go.Proofs.Ytmbifmmkccghfaa.loseT b.net i)
def Bx.repeatT (b : Bx) (i : Int) : Bx × Int := b.doT (Go.Proofs.Ytmbifmmkccghfaa.repeatT b.net i)
def Bx.orderB (b : Bx) (g : Nat) : Int := if b.f g = true then (b.at (b.h g - 1)).2 else -1
def Bx.tickT (b : Bx) : Bx × List Int × Int := if b.okB = true then (⟨b.net, b.sent, b.heard, List.replicate b.heard.length false⟩, (List.range b.heard.length).map b.orderB, 0) else (Bx.zero, [], 340)
theorem okB_parts {b : Bx} (h : b.okB = true) : b.listsB = true ∧ b.sentB = true ∧ (∀ g, g < b.heard.length → b.gateB g = true) ∧ b.net.okB = true ∧ ∀ p ∈ b.net.queue, b.pkB p = true := by
  simp only [Bx.okB, Bx.validB, Bool.and_eq_true] at h
  exact ⟨h.1.1, h.1.2.1, fun g hg => List.all_eq_true.1 h.1.2.2 g (List.mem_range.2 hg), h.2.1, List.all_eq_true.1 h.2.2⟩
theorem first_kind {k nn : Int} {s : Bs} {es : List Val} (h : k ≠ 3) : firstInt (.mk k nn s es) = -1 := if_neg h
theorem first_len {nn : Int} {s : Bs} {es : List Val} (h : es.length ≠ 2) : firstInt (.mk 3 nn s es) = -1 := by
  show (match es with | [a, _] => if a.kind = 1 ∧ 0 ≤ a.num then a.num else -1 | _ => -1) = _
  match es, h with
  | [], _ => rfl
  | [_], _ => rfl
  | [_, _], h => exact absurd rfl h
  | _ :: _ :: _ :: _, _ => rfl
theorem first_two {nn : Int} {s : Bs} {a c : Val} : firstInt (.mk 3 nn s [a, c]) = if a.kind = 1 ∧ 0 ≤ a.num then a.num else -1 := rfl
end Go.Proofs.Ytmbifmmkccghfaa

/-
  Ranges over functions whose iterators keep cells of their own between the elements; plain and within a round. No condition.
-/
namespace Go.Proofs.Ytmbifmmkccghfaa
open Go.RowKit Go.Shelf

structure KeepsC (D : Nat) (R : Nat → Prop) (A B : World) : Prop where
  low : Below D A B
  cells : ∀ b o, ¬ R b → A.heap[b]? = some o → o.isCells = true → B.heap[b]? = some o
section
variable {D : Nat} {R : Nat → Prop} {A B C : World}
theorem KeepsC.refl (D : Nat) (R : Nat → Prop) (A : World) : KeepsC D R A A := ⟨Below.refl _ _, fun _ _ _ h _ => h⟩
theorem KeepsC.trans (h : KeepsC D R A B) (k : KeepsC D R B C) : KeepsC D R A C := ⟨h.low.trans k.low, fun b o hr ho hc => k.cells b o hr (h.cells b o hr ho hc) hc⟩
theorem KeepsC.of (h : Below A.heap.size A B) (hD : D ≤ A.heap.size) : KeepsC D R A B := ⟨h.mono hD, fun b _ _ ho _ => (h.block b (Array.getElem?_eq_some_iff.1 ho).1).trans ho⟩
theorem KeepsC.set (W : World) {a : Addr} (hD : D ≤ a.block) (hR : R a.block) (v : Value) : KeepsC D R W (W.setCell a v) :=
  ⟨(Below.refl _ _).setCell hD v, fun b _ hr ho _ => (Below.heap_setCell W a v b (fun e => hr (e ▸ hR))).trans ho⟩
theorem KeepsC.put {W : World} {l : Nat} {o : Obj} (hl : W.heap[l]? = some o) (hc : o.isCells = false) (hD : D ≤ l) (o' : Obj) : KeepsC D R W (W.putObj l o') :=
  ⟨⟨rfl, rfl, rfl, by simp, fun k hk => World.putObj_heap_other (by omega)⟩, fun b o2 _ ho h2 => (World.putObj_heap_other (fun e => by rw [e, hl] at ho; cases ho; rw [hc] at h2; cases h2)).trans ho⟩
theorem KeepsC.box (h : KeepsC D R A B) {b : Nat} {xs : List Value} (hx : Box A b xs) (hr : ¬ R b) : Box B b xs := by
  obtain ⟨t, ht⟩ := hx
  exact ⟨t, h.cells b _ hr ht rfl⟩
theorem Box.under {b n : Nat} {xs : List Value} (h : Box A b xs) (hb : Below n A B) (hl : b < n) : Box B b xs := h.same (hb.block _ hl)
theorem Box.record {b l : Nat} {xs : List Value} {o : Obj} (h : Box A b xs) (hl : A.heap[l]? = some o) (hc : o.isCells = false) (o' : Obj) : Box (A.putObj l o') b xs := by
  obtain ⟨t, ht⟩ := h
  refine ⟨t, (World.putObj_heap_other (fun e => ?_)).trans ht⟩
  rw [e, hl] at ht
  cases ht
  cases hc
theorem KeepsC.size (h : KeepsC D R A B) : A.heap.size ≤ B.heap.size := h.low.size
end
def SeqB {α : Type} (F : Fence) (n : Nat) (P : Program) (g : Nat) (lb : Array Value) (encs : α → Array Value) (Kp : World → World → Prop) (S Sp : List α → Prop) (T : List α → α → Prop) (w : World) : Prop :=
  ∀ (l : Nat) (J Jx : List α → World → Prop) (W : World), Below w.heap.size w W → (∀ s A B, J s A → Below W.heap.size A B → J s B) → (∀ s A B, Jx s A → Below W.heap.size A B → Jx s B) →
    (∀ pre x W1, J pre W1 → T pre x → YieldAt F (n - 1) P l (encs x) W1 fun e W' =>
      (e = .returned (.bool true) ∧ J (pre ++ [x]) W' ∧ Kp W1 W') ∨ (e = .returned (.bool false) ∧ Jx (pre ++ [x]) W')) →
    J [] W →
    CallsIn F n P g (#[.func (.yield l) #[] #[]] ++ lb) W fun e W' => (∃ v, e = .returned v) ∧ ((∃ xs, S xs ∧ J xs W') ∨ (∃ pre, Sp pre ∧ Jx pre W'))

theorem below_put3 {n : Nat} {A : World} {l : Nat} (hl : n ≤ l) (o : Obj) : Below n A (A.putObj l o) := ⟨rfl, rfl, rfl, by simp, fun k hk => World.putObj_heap_other (by omega)⟩

end Go.Proofs.Ytmbifmmkccghfaa

/-
  Ranges over functions, what a round keeps said by a relation of the caller's; plain and within a round. No condition.
-/
namespace Go.Proofs.Ytmbifmmkccghfaa
open Go.RowKit Go.Shelf

theorem yieldAt_roundK {α : Type} {F : Fence} {n : Nat} {P : Program} {B l D' : Nat} {Kp : World → World → Prop} (hKt : ∀ A B C : World, Kp A B → Kp B C → Kp A C) (hKb : ∀ (W : World) (l : Nat) (o o' : Obj), B ≤ l → W.heap[l]? = some o → o.isCells = false → Kp W (W.putObj l o')) (hB : B ≤ l) {fn : FuncId} {tmps : Array Value} {ps : Array Tmp} {assign body : Code} (hfn : F.fn fn)
    {I : List α → World → Prop} {Ix : Code → List α → World → Prop} {xs : List α} {vs : Array Value} {Ax : Act → World → Prop} {W : World} {rec : LoopState → Option Code → Loop}
    (hrec : rec = fun st pe => { state := st, pending := pe, fn, tmps, params := ps, assign, body, defers := D' })
    (hI : ∀ A o, I xs A → I xs (A.putObj l o)) (hIx : ∀ c A o, Ix c xs A → Ix c xs (A.putObj l o)) (hvs : vs.size = ps.size)
    (hl : W.heap[l]? = some (.loop (rec .ready none)))
    (hassign : ∀ K : Act → World → Prop, (∀ a' W', KeepsFrom B W W' → Kp W W' → Ax a' W' → K a' W') → assign.wpIn (F.inRound l) n P (Exit.then K (fun _ _ _ => False)) { tmps := (ps.zip vs).foldl (fun t (p, v) => t.setIfInBounds p v) tmps, defers := [] } W)
    (hbody : ∀ a' A, Ax a' A → A.heap[l]? = some (.loop (rec .ready none)) → body.wpIn (F.inRound l) n P (ownPostG B Kp I Ix xs (A.putObj l (.loop { rec .ready none with state := .busy }))) a' (A.putObj l (.loop { rec .ready none with state := .busy }))) :
    YieldAt F n P l vs W fun e W' => (e = .returned (.bool true) ∧ (I xs W' ∧ W'.heap[l]? = some (.loop (rec .ready none)) ∧ ∀ k o, B ≤ k → k ≠ l → W.heap[k]? = some o → o.isCells = false → W'.heap[k]? = some o) ∧ Kp W W') ∨
      (e = .returned (.bool false) ∧ ∃ c, Ix c xs W' ∧ W'.heap[l]? = some (.loop (rec .done (some c))) ∧ ∀ k o, B ≤ k → k ≠ l → W.heap[k]? = some o → o.isCells = false → W'.heap[k]? = some o) := by
  have hy := run_yield (P := P) (args := vs) hl (by rw [hrec]; exact hvs)
  rw [hrec] at hy
  refine ⟨fn, _, assign, body, hy, roundIn_of_wpIn hfn (hassign _ ?_)⟩
  intro a' Wa hkf hkc hax
  have hla := hkf.same _ _ hB hl rfl
  have hlt : l < Wa.heap.size := (Array.getElem?_eq_some_iff.1 hla).1
  refine ⟨_, run_beginRound hla (by rw [hrec]), wpIn_mono (hbody a' Wa hax hla) ?_⟩
  have hl2 : (Wa.putObj l (.loop { rec .ready none with state := .busy })).heap[l]? = some (.loop { rec .ready none with state := .busy }) := World.putObj_heap_same hlt
  have hk2 : Kp W (Wa.putObj l (.loop { rec .ready none with state := .busy })) := hKt _ _ _ hkc (hKb _ _ _ _ hB hla rfl)
  have fin : ∀ (jump : Option Code) (W3 : World), KeepsFrom B (Wa.putObj l (.loop { rec .ready none with state := .busy })) W3 →
      (Instr.endRound l jump).run P W3 = .ok (.bool jump.isNone) (W3.putObj l (.loop (rec (if jump.isNone then .ready else .done) jump))) ∧
      W3.heap[l]? = some (.loop { rec .ready none with state := .busy }) ∧
      (W3.putObj l (.loop (rec (if jump.isNone then .ready else .done) jump))).heap[l]? = some (.loop (rec (if jump.isNone then .ready else .done) jump)) ∧
      (∀ k o, B ≤ k → k ≠ l → W.heap[k]? = some o → o.isCells = false → (W3.putObj l (.loop (rec (if jump.isNone then .ready else .done) jump))).heap[k]? = some o) := by
    intro jump W3 hk3
    have hl3 := hk3.same _ _ hB hl2 rfl
    have he := run_endRound (P := P) jump hl3
    rw [hrec] at he ⊢
    refine ⟨he, by rw [hrec] at hl3; exact hl3, World.putObj_heap_same (Array.getElem?_eq_some_iff.1 hl3).1, fun k o hk hkl ho hc => ?_⟩
    refine (World.putObj_heap_other hkl).trans (hk3.same k o hk ?_ hc)
    exact (World.putObj_heap_other hkl).trans (hkf.same k o hk ho hc)
  rintro e a3 W3 hp
  cases e with
  | normal =>
    obtain ⟨hk3, hkp3, hi3⟩ := hp
    obtain ⟨hr, hl3, hl4, hk4⟩ := fin none W3 hk3
    exact ⟨_, _, hr, .inl ⟨rfl, ⟨hI _ _ hi3, hl4, hk4⟩, hKt _ _ _ hk2 (hKt _ _ _ hkp3 (hKb _ _ _ _ hB hl3 rfl))⟩⟩
  | ret =>
    obtain ⟨hk3, hi3⟩ := hp
    obtain ⟨hr, hl3, hl4, hk4⟩ := fin (some .ret) W3 hk3
    exact ⟨_, _, hr, .inr ⟨rfl, .ret, hIx _ _ _ hi3, hl4, hk4⟩⟩
  | exit id =>
    obtain ⟨hk3, hi3⟩ := hp
    obtain ⟨hr, hl3, hl4, hk4⟩ := fin (some (.exit id)) W3 hk3
    exact ⟨_, _, hr, .inr ⟨rfl, .exit id, hIx _ _ _ hi3, hl4, hk4⟩⟩
  | goto t =>
    obtain ⟨hk3, hi3⟩ := hp
    obtain ⟨hr, hl3, hl4, hk4⟩ := fin (some (.goto t)) W3 hk3
    exact ⟨_, _, hr, .inr ⟨rfl, .goto t, hIx _ _ _ hi3, hl4, hk4⟩⟩
  | panic ch => exact hp.elim
  | outgrown => exact hp.elim

theorem wpIn_rangeK_out {α : Type} {F : Fence} {n : Nat} {P : Program} {g : Operand} {ps : Array Tmp} {assign body : Code} {Q : Exit → Act → World → Prop} {a : Act} {w : World}
    (hro : F.round = none) (h1 : 1 ≤ n) {gf : Nat} {lb : Array Value} (hg : a.eval g = .func (.func gf) #[] lb) (hFg : F.fn gf) (eg : ∀ args w, (callFunc gf args).run P w = .ok (.enter gf args) w)
    {encs : α → Array Value} {Kp : World → World → Prop} (hKt : ∀ A B C : World, Kp A B → Kp B C → Kp A C) (hKb : ∀ (W : World) (l : Nat) (o o' : Obj), w.heap.size ≤ l → W.heap[l]? = some o → o.isCells = false → Kp W (W.putObj l o')) {S Sp : List α → Prop} {T : List α → α → Prop} {w0 : World} (hseq : SeqB F (n - 1) P gf lb encs Kp S Sp T w0) (hb0 : Below w0.heap.size w0 w) (hps : ∀ x, (encs x).size = ps.size)
    (I : List α → World → Prop) (Ix : Code → List α → World → Prop) (hI : ∀ s A B, I s A → Below w.heap.size A B → I s B) (hIx : ∀ c s A B, Ix c s A → Below w.heap.size A B → Ix c s B) (h0 : I [] w)
    (Ax : List α → α → Act → World → Prop) (hAx : ∀ pre x a' A l o o', w.heap.size ≤ l → A.heap[l]? = some o → o.isCells = false → Ax pre x a' A → Ax pre x a' (A.putObj l o'))
    (hassign : ∀ (l : Nat) (pre : List α) (x : α) (W : World) (K : Act → World → Prop), I pre W → T pre x → (∀ a' W', KeepsFrom w.heap.size W W' → Kp W W' → Ax pre x a' W' → K a' W') →
      assign.wpIn (F.inRound l) (n - 1 - 1) P (Exit.then K (fun _ _ _ => False)) { tmps := (ps.zip (encs x)).foldl (fun t (p, v) => t.setIfInBounds p v) a.tmps, defers := [] } W)
    (hbody : ∀ (l : Nat) (pre : List α) (x : α) (a' : Act) (W : World), w.heap.size ≤ l → (∃ r, W.heap[l]? = some (.loop r)) → Ax pre x a' W → body.wpIn (F.inRound l) (n - 1 - 1) P (ownPostG w.heap.size Kp I Ix (pre ++ [x]) W) a' W)
    (hdone : ∀ (E : Nat) (xs : List α) (W : World), w.heap.size ≤ E → S xs → I xs W → W.heap[E]? = some (.deferred (some [])) → Q .normal { a with defers := { target := .collected E, args := #[] } :: a.defers } W)
    (hstop : ∀ (E : Nat) (c : Code) (pre : List α) (W : World), w.heap.size ≤ E → Sp pre → Ix c pre W → W.heap[E]? = some (.deferred (some [])) → c.wpIn F n P Q { a with defers := { target := .collected E, args := #[] } :: a.defers } W) :
    (Code.rangeFunc g ps assign body).wpIn F n P Q a w := by
  refine wpIn_rangeFunc ?_
  intro fn hfn
  rw [hro]
  obtain ⟨rec, hrec⟩ : ∃ rec : LoopState → Option Code → Loop, rec = fun st pe => { state := st, pending := pe, fn, tmps := a.tmps, params := ps, assign, body, defers := w.heap.size } := ⟨_, rfl⟩
  obtain ⟨W1, hW1⟩ : ∃ W1, (w.alloc (.deferred (some []))).alloc (.loop (rec .ready none)) = W1 := ⟨_, rfl⟩
  have hL1 : W1.heap[w.heap.size + 1]? = some (.loop (rec .ready none)) := by
    rw [← hW1]; have := World.alloc_heap_new (w.alloc (.deferred (some []))) (.loop (rec .ready none)); rwa [World.size_alloc] at this
  have hK1 : W1.heap[w.heap.size]? = some (.deferred (some [])) := by
    rw [← hW1]; exact (Below.heap_alloc _ _ _ (by simp)).trans (World.alloc_heap_new w _)
  have hb1 : Below w.heap.size w W1 := by
    rw [← hW1]; exact ((Below.refl _ w).alloc (Nat.le_refl _) _).alloc (by simp) _
  have hs1 : w.heap.size + 1 < W1.heap.size := (Array.getElem?_eq_some_iff.1 hL1).1
  refine ⟨w.heap.size + 1, [{ target := .collected w.heap.size, args := #[] }], W1, { target := .fn (.func gf) lb, args := #[.func (.yield (w.heap.size + 1)) #[] #[]] }, W1, gf,
    #[.func (.yield (w.heap.size + 1)) #[] #[]] ++ lb, W1, ?_, ?_, ?_, ?_, fun _ => h1, ?_⟩
  · rw [← hW1, hrec]; exact run_enterLoop_outer _ _ _ _ _
  · simp only [resolve, hg]
    simp [go_sem]
  · intro f' hf'; simp [Target.leads] at hf'; subst hf'; exact hFg
  · simp [invoke, go_sem, eg]
  · refine (hseq (w.heap.size + 1)
      (fun pre W => I pre W ∧ W.heap[w.heap.size + 1]? = some (.loop (rec .ready none)) ∧ W.heap[w.heap.size]? = some (.deferred (some [])))
      (fun pre W => ∃ c, Ix c pre W ∧ W.heap[w.heap.size + 1]? = some (.loop (rec .done (some c))) ∧ W.heap[w.heap.size]? = some (.deferred (some [])))
      W1 (hb0.trans (hb1.mono hb0.size)) ?_ ?_ ?_ ⟨hI _ _ _ h0 hb1, hL1, hK1⟩).mono ?_
    · rintro s A B ⟨h1, h2, h3⟩ hb
      exact ⟨hI _ _ _ h1 (hb.mono hb1.size), (hb.block _ hs1).trans h2, (hb.block _ (by omega)).trans h3⟩
    · rintro s A B ⟨c, h1, h2, h3⟩ hb
      exact ⟨c, hIx _ _ _ _ h1 (hb.mono hb1.size), (hb.block _ hs1).trans h2, (hb.block _ (by omega)).trans h3⟩
    · rintro pre x W ⟨hi, hl, hk⟩ hlen
      refine (yieldAt_roundK (Ax := Ax pre x) (I := I) (Ix := Ix) (xs := pre ++ [x]) (D' := w.heap.size) hKt hKb (Nat.le_succ _) hfn hrec (fun A o h => hI _ _ _ h (below_put3 (Nat.le_succ _) o)) (fun c A o h => hIx _ _ _ _ h (below_put3 (Nat.le_succ _) o)) (hps x) hl
        (fun K hK => hassign _ pre x W K hi hlen hK) (fun a' A hax hla => hbody _ pre x a' _ (Nat.le_succ _) ⟨_, World.putObj_heap_same (Array.getElem?_eq_some_iff.1 hla).1⟩ (hAx _ _ _ _ _ _ _ (Nat.le_succ _) hla rfl hax))).mono ?_
      rintro e W' (⟨rfl, ⟨h1, h2, h3⟩, h4⟩ | ⟨rfl, c, h1, h2, h3⟩)
      · exact .inl ⟨rfl, ⟨h1, h2, h3 _ _ (Nat.le_refl _) (by omega) hk rfl⟩, h4⟩
      · exact .inr ⟨rfl, c, h1, h2, h3 _ _ (Nat.le_refl _) (by omega) hk rfl⟩
    · rintro e W2 ⟨⟨v, rfl⟩, (⟨xs, hS, hi, hl, hk⟩ | ⟨pre, hSp, c, hi, hl, hk⟩)⟩
      · exact ⟨none, _, by have := run_endLoop (P := P) hl (by rw [hrec]; simp); rw [hrec] at this; exact this, hdone _ xs _ (Nat.le_refl _) hS (hI _ _ _ hi (below_put3 (Nat.le_succ _) _)) ((World.putObj_heap_other (by omega)).trans hk)⟩
      · exact ⟨some c, _, by have := run_endLoop (P := P) hl (by rw [hrec]; simp); rw [hrec] at this; exact this, hstop _ c pre _ (Nat.le_refl _) hSp (hIx _ _ _ _ hi (below_put3 (Nat.le_succ _) _)) ((World.putObj_heap_other (by omega)).trans hk)⟩

end Go.Proofs.Ytmbifmmkccghfaa
