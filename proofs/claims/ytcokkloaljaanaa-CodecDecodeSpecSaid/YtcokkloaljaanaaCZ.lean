/-
  Contract of Decode of codec. No condition.
-/
import Derived.Test.YtcokkloaljaanaaCY
namespace Go.Proofs.Ytcokkloaljaanaa
open Go.RowKit
attribute [local go_sem ↓ high] app_named

/-- What Decode returns. -/
def decT (l : Bs) : Val × Int := match rdVal 16 l with
  | some (x, []) => (x, 0)
  | _ => (Val.zero, 10)
theorem dec_none {l : Bs} (h : rdVal 16 l = none) : decT l = (Val.zero, 10) := by rw [decT, h]
theorem dec_more {l : Bs} {x : Val} {r : Bs} (h : rdVal 16 l = some (x, r)) (hr : r ≠ []) : decT l = (Val.zero, 10) := by
  rw [decT, h]
  cases r with
  | nil => exact absurd rfl hr
  | cons c t => rfl
theorem dec_some {l : Bs} {x : Val} (h : rdVal 16 l = some (x, [])) : decT l = (x, 0) := by rw [decT, h]
/-- A value in new blocks, and an error. -/
def RetDec (t : Val × Int) (w : World) (e : Ending) (w' : World) : Prop := ∃ L, e = .returned (.tuple #[t.1.v L, .int .i64 t.2]) ∧ ValsP w' (fun b => w.heap.size ≤ b) 16 L t.1.elems ∧ Below w.heap.size w w'
theorem below_of_grown {w w0 w1 : World} {rb : Nat} (h0 : Below w.heap.size w w0) (h1 : w0.grownBy w1 (some rb)) (hr : w.heap.size ≤ rb) : Below w.heap.size w w1 :=
  h0.grown h1 h0.size fun k hk => by injection hk with hk; omega

theorem dec_start {w : World} {A : Option Addr} {c : Nat} {l : Bs} (hb : BsAt w (fun b => b < w.heap.size) (.slice A l.length c) l) :
    RdAt (((w.alloc (.cells #[.int .i64 0, .int .i64 0, .string ⟨#[]⟩, .slice none 0 0] 24)).alloc (.cells #[.int .i64 0] 28)).alloc (.cells #[.slice A l.length c] 58)) w.heap.size (w.heap.size + 1 + 1) l ∧ Box (((w.alloc (.cells #[.int .i64 0, .int .i64 0, .string ⟨#[]⟩, .slice none 0 0] 24)).alloc (.cells #[.int .i64 0] 28)).alloc (.cells #[.slice A l.length c] 58)) w.heap.size [.int .i64 0, .int .i64 0, .string ⟨#[]⟩, .slice none 0 0] ∧ Box (((w.alloc (.cells #[.int .i64 0, .int .i64 0, .string ⟨#[]⟩, .slice none 0 0] 24)).alloc (.cells #[.int .i64 0] 28)).alloc (.cells #[.slice A l.length c] 58)) (w.heap.size + 1) [.int .i64 0] ∧ Below w.heap.size w (((w.alloc (.cells #[.int .i64 0, .int .i64 0, .string ⟨#[]⟩, .slice none 0 0] 24)).alloc (.cells #[.int .i64 0] 28)).alloc (.cells #[.slice A l.length c] 58)) := by
  have hst : Below w.heap.size w (((w.alloc (.cells #[.int .i64 0, .int .i64 0, .string ⟨#[]⟩, .slice none 0 0] 24)).alloc (.cells #[.int .i64 0] 28)).alloc (.cells #[.slice A l.length c] 58)) := (((Below.refl w.heap.size w).alloc (Nat.le_refl _) _).alloc (by simp) _).alloc (by simp <;> omega) _
  refine ⟨⟨A, c, Box.newAt _ _ (by simp), (hb.keep (Keeps.of hst)).weak fun b hb _ => ⟨hb, by omega⟩⟩, ?_, ?_, hst⟩
  · exact ((Box.new w [.int .i64 0, .int .i64 0, .string ⟨#[]⟩, .slice none 0 0] _).alloc _).alloc _
  · exact (Box.newAt [.int .i64 0] _ (by simp)).alloc _

set_option maxRecDepth 100000 in
set_option maxHeartbeats 4000000 in
theorem cDecode_none (l : Bs) (A : Option Addr) (c : Nat) (w : World) (hb : BsAt w (fun b => b < w.heap.size) (.slice A l.length c) l) (hl : l.length ≤ 100000000) (hn : rdVal 16 l = none) :
    Calls Try.prog 18 #[.slice A l.length c] w (RetDec (decT l) w) := by
  rw [dec_none hn]
  have HS := dec_start hb
  obtain ⟨n, hn0⟩ : ∃ n, l.length = n := ⟨_, rfl⟩
  rw [hn0] at HS ⊢
  obtain ⟨hR, hV, hE, hB⟩ := HS
  have HC := Lib.hid (ValR.all 16 l w.heap.size (w.heap.size + 1 + 1) _ 0 none hR (hB.size) hl (by decide) (by decide) (Lib.hid hn))
  clear hb hR hn
  have hmf : ∀ (fn : Fn) (first cap : Array Value) (w : World), (Instr.makeFunc fn first cap).run Try.prog w = .ok (.func fn first cap) w := fun _ _ _ _ => rfl
  go_enter_defers Try.func18, Try.ntmps18
  go_wp2_with fail
  refine HC.out.mono ?_
  rintro e w1 ⟨rfl, hg⟩
  have hB1 := below_of_grown hB hg (by omega)
  have hV1 := hV.same (hg.block _ hV.lt (by intro e; injection e with e; omega))
  have hE1 := hE.same (hg.block _ hE.lt (by intro e; injection e with e; omega))
  clear HC hg hV hE hB
  go_wp2
  refine leaves_cons (f := 31) (args := #[.pointer (some ⟨w.heap.size, 0, none⟩), .pointer (some ⟨w.heap.size + 1, 0, none⟩)]) (by simp) (by simp [go_sem]) ?_
  refine (catch_panicking w.heap.size (w.heap.size + 1) _ _ _ _ _ _ (by omega) hV1 hE1).mono ?_
  rintro e u' w2 ⟨rfl, rfl, hc⟩
  have z0 : w2.cell? ⟨w.heap.size, 0, none⟩ = some (.int .i64 0) := hc.1.cell 0
  have z1 : w2.cell? ⟨w.heap.size, 1, none⟩ = some (.int .i64 0) := hc.1.cell 1
  have z2 : w2.cell? ⟨w.heap.size, 2, none⟩ = some (.string ⟨#[]⟩) := hc.1.cell 2
  have z3 : w2.cell? ⟨w.heap.size, 3, none⟩ = some (.slice none 0 0) := hc.1.cell 3
  have y0 : w2.cell? ⟨w.heap.size + 1, 0, none⟩ = some (.int .i64 10) := hc.2.1.cell 0
  have HR : Hid (RetDec (Val.zero, 10) w (.returned (.tuple #[.agg #[.int .i64 0, .int .i64 0, .string ⟨#[]⟩, .slice none 0 0], .int .i64 10])) w2) := ⟨.slice none 0 0, rfl, valsP_nil _ _ _, hc.2.2.below hB1 (Nat.le_refl _) (by omega)⟩
  clear hc hB1 hV1 hE1
  simp [Leaves, settle, results, Try.results18, go_sem, z0, z1, z2, z3, y0]
  exact HR.out

set_option maxRecDepth 100000 in
set_option maxHeartbeats 4000000 in
theorem cDecode_more (l : Bs) (A : Option Addr) (c : Nat) (w : World) (hb : BsAt w (fun b => b < w.heap.size) (.slice A l.length c) l) (hl : l.length ≤ 100000000) (x : Val) (r : Bs) (hn : rdVal 16 l = some (x, r)) (hr : r ≠ []) :
    Calls Try.prog 18 #[.slice A l.length c] w (RetDec (decT l) w) := by
  rw [dec_more hn hr]
  have HS := dec_start hb
  obtain ⟨n, hn0⟩ : ∃ n, l.length = n := ⟨_, rfl⟩
  rw [hn0] at HS ⊢
  obtain ⟨hR, hV, hE, hB⟩ := HS
  have HC := Lib.hid (ValR.all 16 l w.heap.size (w.heap.size + 1 + 1) _ 0 _ hR (hB.size) hl (by decide) (by decide) (Lib.hid hn))
  clear hb hR hn
  have hmf : ∀ (fn : Fn) (first cap : Array Value) (w : World), (Instr.makeFunc fn first cap).run Try.prog w = .ok (.func fn first cap) w := fun _ _ _ _ => rfl
  go_enter_defers Try.func18, Try.ntmps18
  go_wp2_with fail
  refine HC.out.mono ?_
  intro e w1 hret
  obtain ⟨Ax, cx, rfl, hL, hR1, hg⟩ := RetVal.open hret
  have hB1 := below_of_grown hB hg (by omega)
  have hV1 := hV.same (hg.block _ hV.lt (by intro e; injection e with e; omega))
  have hE1 := hE.same (hg.block _ hE.lt (by intro e; injection e with e; omega))
  have hz0 := hB.size
  have hL1 : ValsP w1 (fun b => w.heap.size + 1 + 1 ≤ b) 16 (.slice Ax x.elems.length cx) x.elems := hL.weak fun b hb _ => by have : _ ≤ b := hb; simp at this; omega
  have x0 : w1.cell? ⟨w.heap.size, 0, none⟩ = some (.int .i64 0) := hV1.cell 0
  have x1 : w1.cell? ⟨w.heap.size, 1, none⟩ = some (.int .i64 0) := hV1.cell 1
  have x2 : w1.cell? ⟨w.heap.size, 2, none⟩ = some (.string ⟨#[]⟩) := hV1.cell 2
  have x3 : w1.cell? ⟨w.heap.size, 3, none⟩ = some (.slice none 0 0) := hV1.cell 3
  have f0 := hV1.free 0
  have f1 := hV1.free 1
  have f2 := hV1.free 2
  have f3 := hV1.free 3
  have vz := hV1.lt
  clear HC hret hg hV hE hB hL hz0
  obtain ⟨Ar, cr, hX, hXB⟩ := hR1
  clear hXB
  have hrl : r.length ≠ 0 := fun h => hr (List.eq_nil_of_length_eq_zero h)
  generalize r.length = rl at hX hrl
  have q0 : w1.cell? ⟨w.heap.size + 1 + 1, 0, none⟩ = some (.slice Ar rl cr) := hX.cell 0
  have hd : ((rl : Int) == 0) = false := by simp; omega
  have hV2 := (((hV1.set 0 (.int .i64 x.kind)).set 1 (.int .i64 x.num)).set 2 (.string (strB x.str))).set 3 (.slice Ax x.elems.length cx)
  have hE2 := (((hE1.other (a := ⟨w.heap.size, 0, none⟩) (by simp) (.int .i64 x.kind)).other (a := ⟨w.heap.size, 1, none⟩) (by simp) (.int .i64 x.num)).other (a := ⟨w.heap.size, 2, none⟩) (by simp) (.string (strB x.str))).other (a := ⟨w.heap.size, 3, none⟩) (by simp) (.slice Ax x.elems.length cx)
  have hX2 := (((hX.other (a := ⟨w.heap.size, 0, none⟩) (by simp; omega) (.int .i64 x.kind)).other (a := ⟨w.heap.size, 1, none⟩) (by simp; omega) (.int .i64 x.num)).other (a := ⟨w.heap.size, 2, none⟩) (by simp; omega) (.string (strB x.str))).other (a := ⟨w.heap.size, 3, none⟩) (by simp; omega) (.slice Ax x.elems.length cx)
  have hB2 := (((hB1.setCell (p := ⟨w.heap.size, 0, none⟩) (Nat.le_refl _) (.int .i64 x.kind)).setCell (p := ⟨w.heap.size, 1, none⟩) (Nat.le_refl _) (.int .i64 x.num)).setCell (p := ⟨w.heap.size, 2, none⟩) (Nat.le_refl _) (.string (strB x.str))).setCell (p := ⟨w.heap.size, 3, none⟩) (Nat.le_refl _) (.slice Ax x.elems.length cx)
  have hL2 := (((hL1.set (a := ⟨w.heap.size, 0, none⟩) (fun h => by have h2 : w.heap.size + 1 + 1 ≤ w.heap.size := h; omega) (.int .i64 x.kind)).set (a := ⟨w.heap.size, 1, none⟩) (fun h => by have h2 : w.heap.size + 1 + 1 ≤ w.heap.size := h; omega) (.int .i64 x.num)).set (a := ⟨w.heap.size, 2, none⟩) (fun h => by have h2 : w.heap.size + 1 + 1 ≤ w.heap.size := h; omega) (.string (strB x.str))).set (a := ⟨w.heap.size, 3, none⟩) (fun h => by have h2 : w.heap.size + 1 + 1 ≤ w.heap.size := h; omega) (.slice Ax x.elems.length cx)
  replace hV2 := Lib.hid hV2
  replace hE2 := Lib.hid hE2
  replace hX2 := Lib.hid hX2
  replace hB2 := Lib.hid hB2
  replace hL2 := Lib.hid hL2
  clear hV1 hE1 hB1 hL1 hX
  go_wp2_with fail
  clear x0 x1 x2 x3 f0 f1 f2 f3 vz q0
  generalize (((w1.setCell ⟨w.heap.size, 0, none⟩ (.int .i64 x.kind)).setCell ⟨w.heap.size, 1, none⟩ (.int .i64 x.num)).setCell ⟨w.heap.size, 2, none⟩ (.string (strB x.str))).setCell ⟨w.heap.size, 3, none⟩ (.slice Ax x.elems.length cx) = w2 at hV2 hE2 hX2 hB2 hL2 ⊢
  refine (want_no _ _).mono ?_
  rintro e w3 ⟨rfl, rfl⟩
  go_wp2
  refine leaves_cons (f := 31) (args := #[.pointer (some ⟨w.heap.size, 0, none⟩), .pointer (some ⟨w.heap.size + 1, 0, none⟩)]) (by simp) (by simp [go_sem]) ?_
  refine (catch_panicking w.heap.size (w.heap.size + 1) _ _ _ _ _ _ (by omega) hV2.out hE2.out).mono ?_
  rintro e u' w4 ⟨rfl, rfl, hc⟩
  have z0 : w4.cell? ⟨w.heap.size, 0, none⟩ = some (.int .i64 0) := hc.1.cell 0
  have z1 : w4.cell? ⟨w.heap.size, 1, none⟩ = some (.int .i64 0) := hc.1.cell 1
  have z2 : w4.cell? ⟨w.heap.size, 2, none⟩ = some (.string ⟨#[]⟩) := hc.1.cell 2
  have z3 : w4.cell? ⟨w.heap.size, 3, none⟩ = some (.slice none 0 0) := hc.1.cell 3
  have y0 : w4.cell? ⟨w.heap.size + 1, 0, none⟩ = some (.int .i64 10) := hc.2.1.cell 0
  have HR : Hid (RetDec (Val.zero, 10) w (.returned (.tuple #[.agg #[.int .i64 0, .int .i64 0, .string ⟨#[]⟩, .slice none 0 0], .int .i64 10])) w4) := ⟨.slice none 0 0, rfl, valsP_nil _ _ _, hc.2.2.below hB2.out (Nat.le_refl _) (by omega)⟩
  clear hc hB2 hV2 hE2 hL2 hX2
  simp [Leaves, settle, results, Try.results18, go_sem, z0, z1, z2, z3, y0]
  exact HR.out

set_option maxRecDepth 100000 in
set_option maxHeartbeats 4000000 in
theorem cDecode_some (l : Bs) (A : Option Addr) (c : Nat) (w : World) (hb : BsAt w (fun b => b < w.heap.size) (.slice A l.length c) l) (hl : l.length ≤ 100000000) (x : Val) (hn : rdVal 16 l = some (x, [])) :
    Calls Try.prog 18 #[.slice A l.length c] w (RetDec (decT l) w) := by
  rw [dec_some hn]
  have HS := dec_start hb
  obtain ⟨n, hn0⟩ : ∃ n, l.length = n := ⟨_, rfl⟩
  rw [hn0] at HS ⊢
  obtain ⟨hR, hV, hE, hB⟩ := HS
  have HC := Lib.hid (ValR.all 16 l w.heap.size (w.heap.size + 1 + 1) _ 0 _ hR (hB.size) hl (by decide) (by decide) (Lib.hid hn))
  clear hb hR hn
  have hmf : ∀ (fn : Fn) (first cap : Array Value) (w : World), (Instr.makeFunc fn first cap).run Try.prog w = .ok (.func fn first cap) w := fun _ _ _ _ => rfl
  go_enter_defers Try.func18, Try.ntmps18
  go_wp2_with fail
  refine HC.out.mono ?_
  intro e w1 hret
  obtain ⟨Ax, cx, rfl, hL, hR1, hg⟩ := RetVal.open hret
  have hB1 := below_of_grown hB hg (by omega)
  have hV1 := hV.same (hg.block _ hV.lt (by intro e; injection e with e; omega))
  have hE1 := hE.same (hg.block _ hE.lt (by intro e; injection e with e; omega))
  have hz0 := hB.size
  have hL1 : ValsP w1 (fun b => w.heap.size + 1 + 1 ≤ b) 16 (.slice Ax x.elems.length cx) x.elems := hL.weak fun b hb _ => by have : _ ≤ b := hb; simp at this; omega
  have x0 : w1.cell? ⟨w.heap.size, 0, none⟩ = some (.int .i64 0) := hV1.cell 0
  have x1 : w1.cell? ⟨w.heap.size, 1, none⟩ = some (.int .i64 0) := hV1.cell 1
  have x2 : w1.cell? ⟨w.heap.size, 2, none⟩ = some (.string ⟨#[]⟩) := hV1.cell 2
  have x3 : w1.cell? ⟨w.heap.size, 3, none⟩ = some (.slice none 0 0) := hV1.cell 3
  have f0 := hV1.free 0
  have f1 := hV1.free 1
  have f2 := hV1.free 2
  have f3 := hV1.free 3
  have vz := hV1.lt
  clear HC hret hg hV hE hB hL hz0
  obtain ⟨Ar, cr, hX, hXB⟩ := hR1
  have q0 : w1.cell? ⟨w.heap.size + 1 + 1, 0, none⟩ = some (.slice Ar 0 cr) := hX.cell 0
  have hV2 := (((hV1.set 0 (.int .i64 x.kind)).set 1 (.int .i64 x.num)).set 2 (.string (strB x.str))).set 3 (.slice Ax x.elems.length cx)
  have hE2 := (((hE1.other (a := ⟨w.heap.size, 0, none⟩) (by simp) (.int .i64 x.kind)).other (a := ⟨w.heap.size, 1, none⟩) (by simp) (.int .i64 x.num)).other (a := ⟨w.heap.size, 2, none⟩) (by simp) (.string (strB x.str))).other (a := ⟨w.heap.size, 3, none⟩) (by simp) (.slice Ax x.elems.length cx)
  have hX2 := (((hX.other (a := ⟨w.heap.size, 0, none⟩) (by simp; omega) (.int .i64 x.kind)).other (a := ⟨w.heap.size, 1, none⟩) (by simp; omega) (.int .i64 x.num)).other (a := ⟨w.heap.size, 2, none⟩) (by simp; omega) (.string (strB x.str))).other (a := ⟨w.heap.size, 3, none⟩) (by simp; omega) (.slice Ax x.elems.length cx)
  have hB2 := (((hB1.setCell (p := ⟨w.heap.size, 0, none⟩) (Nat.le_refl _) (.int .i64 x.kind)).setCell (p := ⟨w.heap.size, 1, none⟩) (Nat.le_refl _) (.int .i64 x.num)).setCell (p := ⟨w.heap.size, 2, none⟩) (Nat.le_refl _) (.string (strB x.str))).setCell (p := ⟨w.heap.size, 3, none⟩) (Nat.le_refl _) (.slice Ax x.elems.length cx)
  have hL2 := (((hL1.set (a := ⟨w.heap.size, 0, none⟩) (fun h => by have h2 : w.heap.size + 1 + 1 ≤ w.heap.size := h; omega) (.int .i64 x.kind)).set (a := ⟨w.heap.size, 1, none⟩) (fun h => by have h2 : w.heap.size + 1 + 1 ≤ w.heap.size := h; omega) (.int .i64 x.num)).set (a := ⟨w.heap.size, 2, none⟩) (fun h => by have h2 : w.heap.size + 1 + 1 ≤ w.heap.size := h; omega) (.string (strB x.str))).set (a := ⟨w.heap.size, 3, none⟩) (fun h => by have h2 : w.heap.size + 1 + 1 ≤ w.heap.size := h; omega) (.slice Ax x.elems.length cx)
  replace hV2 := Lib.hid hV2
  replace hE2 := Lib.hid hE2
  replace hX2 := Lib.hid hX2
  replace hB2 := Lib.hid hB2
  replace hL2 := Lib.hid hL2
  clear hV1 hE1 hB1 hL1 hX hXB
  go_wp2_with fail
  clear x0 x1 x2 x3 f0 f1 f2 f3 vz q0
  generalize (((w1.setCell ⟨w.heap.size, 0, none⟩ (.int .i64 x.kind)).setCell ⟨w.heap.size, 1, none⟩ (.int .i64 x.num)).setCell ⟨w.heap.size, 2, none⟩ (.string (strB x.str))).setCell ⟨w.heap.size, 3, none⟩ (.slice Ax x.elems.length cx) = w2 at hV2 hE2 hX2 hB2 hL2 ⊢
  refine (want_yes _ _).mono ?_
  rintro e w3 ⟨rfl, rfl⟩
  have x0 : w2.cell? ⟨w.heap.size, 0, none⟩ = some (.int .i64 x.kind) := hV2.out.cell 0
  have x1 : w2.cell? ⟨w.heap.size, 1, none⟩ = some (.int .i64 x.num) := hV2.out.cell 1
  have x2 : w2.cell? ⟨w.heap.size, 2, none⟩ = some (.string (strB x.str)) := hV2.out.cell 2
  have x3 : w2.cell? ⟨w.heap.size, 3, none⟩ = some (.slice Ax x.elems.length cx) := hV2.out.cell 3
  have f0 := hV2.out.free 0
  have f1 := hV2.out.free 1
  have f2 := hV2.out.free 2
  have f3 := hV2.out.free 3
  have vz := hV2.out.lt
  have y0 : w2.cell? ⟨w.heap.size + 1, 0, none⟩ = some (.int .i64 0) := hE2.out.cell 0
  have g0 := hE2.out.free 0
  have ez := hE2.out.lt
  go_wp2
  have hVz := (((((hV2.out.set 0 (.int .i64 x.kind)).set 1 (.int .i64 x.num)).set 2 (.string (strB x.str))).set 3 (.slice Ax x.elems.length cx)).other (a := ⟨w.heap.size + 1, 0, none⟩) (by simp) (.int .i64 0))
  have hEz := (((((hE2.out.other (a := ⟨w.heap.size, 0, none⟩) (by simp) (.int .i64 x.kind)).other (a := ⟨w.heap.size, 1, none⟩) (by simp) (.int .i64 x.num)).other (a := ⟨w.heap.size, 2, none⟩) (by simp) (.string (strB x.str))).other (a := ⟨w.heap.size, 3, none⟩) (by simp) (.slice Ax x.elems.length cx)).set 0 (.int .i64 0))
  have hBz := (((((hB2.out.setCell (p := ⟨w.heap.size, 0, none⟩) (Nat.le_refl _) (.int .i64 x.kind)).setCell (p := ⟨w.heap.size, 1, none⟩) (Nat.le_refl _) (.int .i64 x.num)).setCell (p := ⟨w.heap.size, 2, none⟩) (Nat.le_refl _) (.string (strB x.str))).setCell (p := ⟨w.heap.size, 3, none⟩) (Nat.le_refl _) (.slice Ax x.elems.length cx)).setCell (p := ⟨w.heap.size + 1, 0, none⟩) (by simp) (.int .i64 0))
  have hLz : Hid (ValsP (((((w2.setCell ⟨w.heap.size, 0, none⟩ (.int .i64 x.kind)).setCell ⟨w.heap.size, 1, none⟩ (.int .i64 x.num)).setCell ⟨w.heap.size, 2, none⟩ (.string (strB x.str))).setCell ⟨w.heap.size, 3, none⟩ (.slice Ax x.elems.length cx)).setCell ⟨w.heap.size + 1, 0, none⟩ (.int .i64 0)) (fun b => w.heap.size ≤ b) 16 (.slice Ax x.elems.length cx) x.elems) := by
    exact Lib.hid ((((((hL2.out.set (a := ⟨w.heap.size, 0, none⟩) (fun h => by have h2 : w.heap.size + 1 + 1 ≤ w.heap.size := h; omega) (.int .i64 x.kind)).set (a := ⟨w.heap.size, 1, none⟩) (fun h => by have h2 : w.heap.size + 1 + 1 ≤ w.heap.size := h; omega) (.int .i64 x.num)).set (a := ⟨w.heap.size, 2, none⟩) (fun h => by have h2 : w.heap.size + 1 + 1 ≤ w.heap.size := h; omega) (.string (strB x.str))).set (a := ⟨w.heap.size, 3, none⟩) (fun h => by have h2 : w.heap.size + 1 + 1 ≤ w.heap.size := h; omega) (.slice Ax x.elems.length cx)).set (a := ⟨w.heap.size + 1, 0, none⟩) (fun h => by have h2 : w.heap.size + 1 + 1 ≤ w.heap.size + 1 := h; omega) (.int .i64 0)).weak fun b hb _ => by omega)
  clear x0 x1 x2 x3 f0 f1 f2 f3 vz y0 g0 ez hV2 hE2 hX2 hB2 hL2
  generalize (((((w2.setCell ⟨w.heap.size, 0, none⟩ (.int .i64 x.kind)).setCell ⟨w.heap.size, 1, none⟩ (.int .i64 x.num)).setCell ⟨w.heap.size, 2, none⟩ (.string (strB x.str))).setCell ⟨w.heap.size, 3, none⟩ (.slice Ax x.elems.length cx)).setCell ⟨w.heap.size + 1, 0, none⟩ (.int .i64 0)) = Z at hVz hEz hBz hLz ⊢
  have z0 : Z.cell? ⟨w.heap.size, 0, none⟩ = some (.int .i64 x.kind) := hVz.cell 0
  have z1 : Z.cell? ⟨w.heap.size, 1, none⟩ = some (.int .i64 x.num) := hVz.cell 1
  have z2 : Z.cell? ⟨w.heap.size, 2, none⟩ = some (.string (strB x.str)) := hVz.cell 2
  have z3 : Z.cell? ⟨w.heap.size, 3, none⟩ = some (.slice Ax x.elems.length cx) := hVz.cell 3
  have y0 : Z.cell? ⟨w.heap.size + 1, 0, none⟩ = some (.int .i64 0) := hEz.cell 0
  refine leaves_cons (f := 31) (args := #[.pointer (some ⟨w.heap.size, 0, none⟩), .pointer (some ⟨w.heap.size + 1, 0, none⟩)]) (by simp) (by simp [go_sem]) ?_
  refine (catch_idle w.heap.size (w.heap.size + 1) _).mono ?_
  rintro e u' w4 ⟨rfl, rfl, rfl⟩
  have HR : Hid (RetDec (x, 0) w (.returned (.tuple #[.agg #[.int .i64 x.kind, .int .i64 x.num, .string (strB x.str), .slice Ax x.elems.length cx], .int .i64 0])) w4) := ⟨.slice Ax x.elems.length cx, rfl, hLz.out, hBz⟩
  clear hVz hEz hBz hLz
  simp [Leaves, settle, results, Try.results18, go_sem, z0, z1, z2, z3, y0]
  exact HR.out

theorem cDecode_any (l : Bs) (V : Value) (w : World) (hb : BsAt w (fun b => b < w.heap.size) V l) (hl : l.length ≤ 100000000) : Calls Try.prog 18 #[V] w (RetDec (decT l) w) := by
  obtain ⟨A, c, rfl, _⟩ := hb.form
  rcases hn : rdVal 16 l with _ | ⟨x, r⟩
  · exact cDecode_none l A c w hb hl hn
  · rcases r with _ | ⟨b, t⟩
    · exact cDecode_some l A c w hb hl x hn
    · exact cDecode_more l A c w hb hl x (b :: t) hn (by simp)

end Go.Proofs.Ytcokkloaljaanaa
