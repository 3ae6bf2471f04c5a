/- The deferred function of Play of cascade. (Printed by pp.py.) No condition. -/
import Derived.Test.YtcjcjkomcolgeaaQDR
import Derived.Test.YtcjcjkomcolgeaaQDD
import Derived.Test.YtcjcjkomcolgeaaQDK
import Derived.BigRegion
set_option linter.unusedVariables false
set_option linter.unusedSimpArgs false
namespace Go.Proofs.Ytcjcjkomcolgeaa
open Go.RowKit

set_option maxRecDepth 100000 in
set_option maxHeartbeats 2000000 in
theorem pCatch_panicking (N sb bb eb : Nat) (s0 b0 e0 : Value) (er : Int) (h0 : er ≠ 0) (w : World) (hs : Box w sb [s0]) (hb : Box w bb [b0]) (he : Box w eb [e0]) (d1 : sb ≠ bb) (d2 : sb ≠ eb) (d3 : bb ≠ eb) (n1 : N ≤ sb) (n2 : N ≤ bb) (n3 : N ≤ eb) :
    CallsD Try.prog 37 #[.pointer (some ⟨sb, 0, none⟩), .pointer (some ⟨bb, 0, none⟩), .pointer (some ⟨eb, 0, none⟩)] (.panicking (refu er)) w fun e u' w' =>
      e = .returned (.tuple #[]) ∧ u' = .panicking [{ v := .iface 128 (.agg #[.int .i64 er]), recovered := true }] ∧ Box w' sb [.slice none 0 0] ∧ Box w' bb [.int .i64 0] ∧ Box w' eb [.int .i64 er] ∧ Below N w w' := by
  have hd : (er != 0) = true := by simp [h0]
  refine callsD_of_wpS Try.func37 rfl fun c₀ cs hu => ?_
  apply wpS_seq
  apply wpS_region
  simp [wpOpsS, go_sem, recoverD, hu, Try.ntmps37, refu, Exit.thenS]
  refine (caught_some er w).mono ?_
  rintro e w1 ⟨rfl, hw⟩
  have hs1 := hs.later hw
  have hb1 := hb.later hw
  have he1 := he.later hw
  have y0 : w1.cell? ⟨sb, 0, none⟩ = some s0 := hs1.cell 0
  have y1 : w1.cell? ⟨bb, 0, none⟩ = some b0 := hb1.cell 0
  have y2 : w1.cell? ⟨eb, 0, none⟩ = some e0 := he1.cell 0
  have g0 := hs1.free 0
  have g1 := hb1.free 0
  have g2 := he1.free 0
  have z0 := hs1.lt
  have z1 := hb1.lt
  have z2 := he1.lt
  simp [go_sem]
  refine wpS_of_wp ?_
  go_wp2
  refine ⟨rfl, _, rfl, .tuple #[], by simp [results, Try.results37, go_sem], rfl, rfl, ?_, ?_, ?_, ?_⟩
  · exact ((hs1.set 0 (.slice none 0 0)).other (a := ⟨bb, 0, none⟩) d1 _).other (a := ⟨eb, 0, none⟩) d2 _
  · exact ((hb1.other (a := ⟨sb, 0, none⟩) (Ne.symm d1) _).set 0 (.int .i64 0)).other (a := ⟨eb, 0, none⟩) d3 _
  · exact ((he1.other (a := ⟨sb, 0, none⟩) (Ne.symm d2) _).other (a := ⟨bb, 0, none⟩) (Ne.symm d3) _).set 0 (.int .i64 er)
  · have hN : N ≤ w.heap.size := by have := hs.lt; omega
    exact (((hw.mono hN).setCell (p := ⟨sb, 0, none⟩) n1 _).setCell (p := ⟨bb, 0, none⟩) n2 _).setCell (p := ⟨eb, 0, none⟩) n3 _
set_option maxRecDepth 100000 in
set_option maxHeartbeats 2000000 in
theorem pCatch_idle (sb bb eb : Nat) (w : World) :
    CallsD Try.prog 37 #[.pointer (some ⟨sb, 0, none⟩), .pointer (some ⟨bb, 0, none⟩), .pointer (some ⟨eb, 0, none⟩)] .returning w fun e u' w' => e = .returned (.tuple #[]) ∧ u' = .returning ∧ w' = w := by
  refine callsD_of_wpS Try.func37 rfl fun c₀ cs hu => ?_
  apply wpS_seq
  apply wpS_region
  simp [wpOpsS, go_sem, recoverD, hu, Try.ntmps37, Exit.thenS]
  refine (caught_nil w).mono ?_
  rintro e w1 ⟨rfl, rfl⟩
  simp [go_sem]
  refine wpS_of_wp ?_
  go_wp2
  refine ⟨rfl, .returning, ?_, .tuple #[], by simp [results, Try.results37, go_sem], rfl, rfl, rfl⟩
  cases c₀
  simp_all
end Go.Proofs.Ytcjcjkomcolgeaa

/-
  Play of cascade: the steps are looked at. (Printed by gen_du.py.) No condition.
-/
namespace Go.Proofs.Ytcjcjkomcolgeaa
open Go.RowKit

def PlayPost (r : List St × Int × Int) (w : World) (e : Ending) (w' : World) : Prop :=
  ∃ A c, e = .returned (.tuple #[.slice A r.1.length c, .int .i64 r.2.1, .int .i64 r.2.2]) ∧ r.1.length ≤ c ∧ StsAt w' w'.heap.size (.slice A r.1.length c) r.1 ∧ Below w.heap.size w w'
theorem playPost_err {er : Int} {w w' : World} (hb : Below w.heap.size w w') : PlayPost ([], 0, er) w (.returned (.tuple #[.slice none 0 0, .int .i64 0, .int .i64 er])) w' :=
  ⟨none, 0, rfl, Nat.le_refl _, ⟨none, 0, rfl, by simp [maxLen], fun i hi => absurd hi (Nat.not_lt_zero _)⟩, hb⟩
set_option maxRecDepth 100000 in
set_option maxHeartbeats 4000000 in
theorem mPlay_bad (x : Cs) (Vp Vc Vb Vl : Value) (w : World) (er : Int) (hT : Hid (x.checkT = er)) (h0 : er ≠ 0) (hx : Hid (CsAt w w.heap.size Vp Vc Vb x)) : Calls Try.prog 15 #[.agg #[Vp, Vc, Vb], Vl] w (PlayPost ([], 0, er) w) := by
  have hmf : ∀ (fn : Fn) (first cap : Array Value) (w : World), (Instr.makeFunc fn first cap).run Try.prog w = .ok (.func fn first cap) w := fun _ _ _ _ => rfl
  have hB := ((((Below.refl w.heap.size w).alloc (by simp <;> omega) (.cells #[Vp, Vc, Vb] 26)).alloc (by simp <;> omega) (.cells #[.slice none 0 0] 35)).alloc (by simp <;> omega) (.cells #[.int .i64 0] 3)).alloc (by simp <;> omega) (.cells #[.int .i64 0] 29)
  have XC := ((((Box.new w [Vp, Vc, Vb] 26)).alloc (.cells #[.slice none 0 0] 35)).alloc (.cells #[.int .i64 0] 3)).alloc (.cells #[.int .i64 0] 29)
  have XS := ((Box.newAt (w := (w.alloc (.cells #[Vp, Vc, Vb] 26))) (n := w.heap.size + 1) [.slice none 0 0] 35 (by simp)).alloc (.cells #[.int .i64 0] 3)).alloc (.cells #[.int .i64 0] 29)
  have XB := (Box.newAt (w := (((w.alloc (.cells #[Vp, Vc, Vb] 26))).alloc (.cells #[.slice none 0 0] 35))) (n := w.heap.size + 2) [.int .i64 0] 3 (by simp)).alloc (.cells #[.int .i64 0] 29)
  have XE := Box.newAt (w := (((((w.alloc (.cells #[Vp, Vc, Vb] 26))).alloc (.cells #[.slice none 0 0] 35))).alloc (.cells #[.int .i64 0] 3))) (n := w.heap.size + 3) [.int .i64 0] 29 (by simp)
  go_enter_defers Try.func15, Try.ntmps15
  go_wp2_with fail
  generalize (((((((w.alloc (.cells #[Vp, Vc, Vb] 26))).alloc (.cells #[.slice none 0 0] 35))).alloc (.cells #[.int .i64 0] 3))).alloc (.cells #[.int .i64 0] 29)) = w1 at hB XC XS XB XE ⊢
  refine (mExamine_is hT ⟨(hx.out.plants.below hB).more hB.size, (hx.out.codes.below hB).more hB.size, (hx.out.bars.below hB).more hB.size⟩).mono ?_
  rintro e w2 ⟨he, hb⟩
  rw [if_neg h0] at he
  subst he
  have hB := hB.trans (hb.mono hB.size)
  have XS := XS.later hb
  have XB := XB.later hb
  have XE := XE.later hb
  go_wp2
  refine leaves_cons (f := 37) (args := #[.pointer (some ⟨w.heap.size + 1, 0, none⟩), .pointer (some ⟨w.heap.size + 2, 0, none⟩), .pointer (some ⟨w.heap.size + 3, 0, none⟩)]) (by simp) (by simp [go_sem]) ?_
  refine (pCatch_panicking w.heap.size (w.heap.size + 1) (w.heap.size + 2) (w.heap.size + 3) _ _ _ er h0 w2 XS XB XE (by omega) (by omega) (by omega) (by omega) (by omega) (by omega)).mono ?_
  rintro e u' wz ⟨rfl, rfl, YS, YB, YE, hBz⟩
  have y0 : wz.cell? ⟨w.heap.size + 1, 0, none⟩ = some (.slice none 0 0) := YS.cell 0
  have y1 : wz.cell? ⟨w.heap.size + 2, 0, none⟩ = some (.int .i64 0) := YB.cell 0
  have y2 : wz.cell? ⟨w.heap.size + 3, 0, none⟩ = some (.int .i64 er) := YE.cell 0
  simp [Leaves, settle, results, Try.results15, go_sem, y0, y1, y2]
  exact playPost_err (hB.trans hBz)
set_option maxRecDepth 100000 in
set_option maxHeartbeats 4000000 in
theorem mPlay_long (x : Cs) (Ap Ac Ab Al : Option Addr) (n m kp kc kb kl : Nat) (w : World) (hR : Hid (CsRight x n)) (hx : Hid (CsAt w w.heap.size (.slice Ap n kp) (.slice Ac n kc) (.slice Ab n kb) x)) (hm : 4096 < m) (hmm : m ≤ 9223372036854775807) : Calls Try.prog 15 #[.agg #[.slice Ap n kp, .slice Ac n kc, .slice Ab n kb], .slice Al m kl] w (PlayPost ([], 0, 2) w) := by
  have hd : decide ((m : Int) ≤ 4096) = false := decide_eq_false (by omega)
  have hd2 : ¬ ((m : Int) ≤ 4096) := by omega
  have hmf : ∀ (fn : Fn) (first cap : Array Value) (w : World), (Instr.makeFunc fn first cap).run Try.prog w = .ok (.func fn first cap) w := fun _ _ _ _ => rfl
  have hB := ((((Below.refl w.heap.size w).alloc (by simp <;> omega) (.cells #[.slice Ap n kp, .slice Ac n kc, .slice Ab n kb] 26)).alloc (by simp <;> omega) (.cells #[.slice none 0 0] 35)).alloc (by simp <;> omega) (.cells #[.int .i64 0] 3)).alloc (by simp <;> omega) (.cells #[.int .i64 0] 29)
  have XC := ((((Box.new w [.slice Ap n kp, .slice Ac n kc, .slice Ab n kb] 26)).alloc (.cells #[.slice none 0 0] 35)).alloc (.cells #[.int .i64 0] 3)).alloc (.cells #[.int .i64 0] 29)
  have XS := ((Box.newAt (w := (w.alloc (.cells #[.slice Ap n kp, .slice Ac n kc, .slice Ab n kb] 26))) (n := w.heap.size + 1) [.slice none 0 0] 35 (by simp)).alloc (.cells #[.int .i64 0] 3)).alloc (.cells #[.int .i64 0] 29)
  have XB := (Box.newAt (w := (((w.alloc (.cells #[.slice Ap n kp, .slice Ac n kc, .slice Ab n kb] 26))).alloc (.cells #[.slice none 0 0] 35))) (n := w.heap.size + 2) [.int .i64 0] 3 (by simp)).alloc (.cells #[.int .i64 0] 29)
  have XE := Box.newAt (w := (((((w.alloc (.cells #[.slice Ap n kp, .slice Ac n kc, .slice Ab n kb] 26))).alloc (.cells #[.slice none 0 0] 35))).alloc (.cells #[.int .i64 0] 3))) (n := w.heap.size + 3) [.int .i64 0] 29 (by simp)
  go_enter_defers Try.func15, Try.ntmps15
  go_wp2_with fail
  generalize (((((((w.alloc (.cells #[.slice Ap n kp, .slice Ac n kc, .slice Ab n kb] 26))).alloc (.cells #[.slice none 0 0] 35))).alloc (.cells #[.int .i64 0] 3))).alloc (.cells #[.int .i64 0] 29)) = w1 at hB XC XS XB XE ⊢
  refine (mExamine_is (Lib.hid (right_zero hR.out)) ⟨(hx.out.plants.below hB).more hB.size, (hx.out.codes.below hB).more hB.size, (hx.out.bars.below hB).more hB.size⟩).mono ?_
  rintro e w2 ⟨he, hb⟩
  rw [if_pos rfl] at he
  subst he
  have hB := hB.trans (hb.mono hB.size)
  have XC := XC.later hb
  have XS := XS.later hb
  have XB := XB.later hb
  have XE := XE.later hb
  clear hb
  have zc := XC.lt
  have xc0 : w2.cell? ⟨w.heap.size, 0, none⟩ = some (.slice Ap n kp) := XC.cell 0
  go_wp2_with fail
  refine (demand_no (er := 2) (by decide) _).mono ?_
  rintro e w3 ⟨rfl, rfl⟩
  go_wp2
  refine leaves_cons (f := 37) (args := #[.pointer (some ⟨w.heap.size + 1, 0, none⟩), .pointer (some ⟨w.heap.size + 2, 0, none⟩), .pointer (some ⟨w.heap.size + 3, 0, none⟩)]) (by simp) (by simp [go_sem]) ?_
  refine (pCatch_panicking w.heap.size (w.heap.size + 1) (w.heap.size + 2) (w.heap.size + 3) _ _ _ 2 (by decide) w2 XS XB XE (by omega) (by omega) (by omega) (by omega) (by omega) (by omega)).mono ?_
  rintro e u' wz ⟨rfl, rfl, YS, YB, YE, hBz⟩
  have y0 : wz.cell? ⟨w.heap.size + 1, 0, none⟩ = some (.slice none 0 0) := YS.cell 0
  have y1 : wz.cell? ⟨w.heap.size + 2, 0, none⟩ = some (.int .i64 0) := YB.cell 0
  have y2 : wz.cell? ⟨w.heap.size + 3, 0, none⟩ = some (.int .i64 2) := YE.cell 0
  simp [Leaves, settle, results, Try.results15, go_sem, y0, y1, y2]
  exact playPost_err (hB.trans hBz)
end Go.Proofs.Ytcjcjkomcolgeaa
