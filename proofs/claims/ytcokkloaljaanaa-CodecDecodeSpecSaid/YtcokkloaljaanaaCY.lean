/-
  Contract of the reader's value, whole; the deferred function of Decode. No condition.
-/
import Derived.Test.YtcokkloaljaanaaCX
import Derived.Defers
import Derived.Recover
import Derived.Tactics2
namespace Go.Proofs.Ytcokkloaljaanaa
open Go.RowKit

theorem ValR.all (m : Nat) : ValR m := by
  induction m with
  | zero =>
    intro l D rb w dep T hR hD hl h0 hd hT
    rcases l with _ | ⟨c, t⟩
    · obtain rfl : none = T := (rdVal_nil 0).symm.trans hT.out
      exact value_0 0 D rb w hR hD dep
    · by_cases h1 : c = 1
      · subst h1
        exact value_1 t 0 D rb w hR hD dep T (by rw [rdVal_one] at hT; exact hT)
      · by_cases h2 : c = 2
        · subst h2
          exact value_2 t 0 D rb w hR hD dep T (by rw [rdVal_two] at hT; exact hT)
        · by_cases h3 : c = 3
          · subst h3
            obtain rfl : none = T := (rdVal_zero t).symm.trans hT.out
            exact value_3no t 0 D rb w hR hD dep (by omega)
          · obtain rfl : none = T := (rdVal_no 0 t h1 h2 h3).symm.trans hT.out
            exact value_no c t h1 h2 h3 0 D rb w hR hD dep
  | succ m ih =>
    intro l D rb w dep T hR hD hl h0 hd hT
    rcases l with _ | ⟨c, t⟩
    · obtain rfl : none = T := (rdVal_nil _).symm.trans hT.out
      exact value_0 _ D rb w hR hD dep
    · by_cases h1 : c = 1
      · subst h1
        exact value_1 t _ D rb w hR hD dep T (by rw [rdVal_one] at hT; exact hT)
      · by_cases h2 : c = 2
        · subst h2
          exact value_2 t _ D rb w hR hD dep T (by rw [rdVal_two] at hT; exact hT)
        · by_cases h3 : c = 3
          · subst h3
            exact value_3 t m D rb w hR hD dep h0 hd ih (by simp at hl; omega) T (by rw [rdVal_list] at hT; exact hT)
          · obtain rfl : none = T := (rdVal_no _ t h1 h2 h3).symm.trans hT.out
            exact value_no c t h1 h2 h3 _ D rb w hR hD dep

/-- Only the blocks v and e have changed. -/
structure Two (w w' : World) (v e : Nat) : Prop where
  os : w'.os = w.os
  tape : w'.tape = w.tape
  output : w'.output = w.output
  size : w'.heap.size = w.heap.size
  block : ∀ k, k ≠ v → k ≠ e → w'.heap[k]? = w.heap[k]?
theorem Two.refl (w : World) (v e : Nat) : Two w w v e := ⟨rfl, rfl, rfl, rfl, fun _ _ _ => rfl⟩
theorem Two.setv {w w' : World} {v e : Nat} (h : Two w w' v e) (o : Nat) (u : Value) : Two w (w'.setCell ⟨v, o, none⟩ u) v e :=
  ⟨h.os, h.tape, h.output, by simpa using h.size, fun k h1 h2 => (Below.heap_setCell w' ⟨v, o, none⟩ u k h1).trans (h.block k h1 h2)⟩
theorem Two.sete {w w' : World} {v e : Nat} (h : Two w w' v e) (o : Nat) (u : Value) : Two w (w'.setCell ⟨e, o, none⟩ u) v e :=
  ⟨h.os, h.tape, h.output, by simpa using h.size, fun k h1 h2 => (Below.heap_setCell w' ⟨e, o, none⟩ u k h2).trans (h.block k h1 h2)⟩
theorem Two.drew {w w' : World} {v e : Nat} (h : Two w w' v e) : Two w w'.drew v e := ⟨h.os, h.tape, h.output, h.size, h.block⟩
theorem Two.below {w0 w w' : World} {v e B : Nat} (h : Two w w' v e) (hb : Below B w0 w) (h1 : B ≤ v) (h2 : B ≤ e) : Below B w0 w' :=
  ⟨h.os.trans hb.os, h.tape.trans hb.tape, h.output.trans hb.output, by rw [h.size]; exact hb.size, fun k hk => (h.block k (by omega) (by omega)).trans (hb.block k hk)⟩

def Caught (vb eb : Nat) (w : World) (w' : World) : Prop := Box w' vb [.int .i64 0, .int .i64 0, .string ⟨#[]⟩, .slice none 0 0] ∧ Box w' eb [.int .i64 10] ∧ Two w w' vb eb

theorem Caught.drew {vb eb : Nat} {w w' : World} (h : Caught vb eb w w') : Caught vb eb w w'.drew := ⟨h.1.drew, h.2.1.drew, h.2.2.drew⟩
theorem caughtA {vb eb : Nat} {v0 v1 v2 v3 e0 : Value} {w : World} (hne : vb ≠ eb) (hv : Box w vb [v0, v1, v2, v3]) (he : Box w eb [e0]) : Caught vb eb w (((((w.setCell ⟨vb, 0, none⟩ (.int .i64 0)).setCell ⟨vb, 1, none⟩ (.int .i64 0)).setCell ⟨vb, 2, none⟩ (.string ⟨#[]⟩)).setCell ⟨vb, 3, none⟩ (.slice none 0 0)).setCell ⟨eb, 0, none⟩ (.int .i64 10)) :=
  ⟨(((((hv.set 0 _).set 1 _).set 2 _).set 3 _).other (a := ⟨eb, 0, none⟩) hne _), (((((he.other (a := ⟨vb, 0, none⟩) (Ne.symm hne) _).other (a := ⟨vb, 1, none⟩) (Ne.symm hne) _).other (a := ⟨vb, 2, none⟩) (Ne.symm hne) _).other (a := ⟨vb, 3, none⟩) (Ne.symm hne) _).set 0 _), ((((((Two.refl w vb eb).setv 0 _).setv 1 _).setv 2 _).setv 3 _).sete 0 _)⟩
theorem caughtB {vb eb : Nat} {v0 v1 v2 v3 e0 : Value} {w : World} (hne : vb ≠ eb) (hv : Box w vb [v0, v1, v2, v3]) (he : Box w eb [e0]) : Caught vb eb w (((((w.setCell ⟨eb, 0, none⟩ (.int .i64 10)).setCell ⟨vb, 0, none⟩ (.int .i64 0)).setCell ⟨vb, 1, none⟩ (.int .i64 0)).setCell ⟨vb, 2, none⟩ (.string ⟨#[]⟩)).setCell ⟨vb, 3, none⟩ (.slice none 0 0)) :=
  ⟨(((((hv.other (a := ⟨eb, 0, none⟩) hne _).set 0 _).set 1 _).set 2 _).set 3 _), (((((he.set 0 _).other (a := ⟨vb, 0, none⟩) (Ne.symm hne) _).other (a := ⟨vb, 1, none⟩) (Ne.symm hne) _).other (a := ⟨vb, 2, none⟩) (Ne.symm hne) _).other (a := ⟨vb, 3, none⟩) (Ne.symm hne) _), ((((((Two.refl w vb eb).sete 0 _).setv 0 _).setv 1 _).setv 2 _).setv 3 _)⟩

set_option maxRecDepth 100000 in
set_option maxHeartbeats 2000000 in
theorem catch_panicking (vb eb : Nat) (v0 v1 v2 v3 e0 : Value) (w : World) (hne : vb ≠ eb) (hv : Box w vb [v0, v1, v2, v3]) (he : Box w eb [e0]) :
    CallsD Try.prog 31 #[.pointer (some ⟨vb, 0, none⟩), .pointer (some ⟨eb, 0, none⟩)] (.panicking bad) w fun e u' w' =>
      e = .returned (.tuple #[]) ∧ u' = .panicking [{ v := .iface 28 (.int .i64 10), recovered := true }] ∧ Caught vb eb w w' := by
  refine callsD_of_wpS Try.func31 rfl fun c₀ cs hu => ?_
  apply wpS_seq
  apply wpS_region
  simp [wpOpsS, go_sem, recoverD, hu, Try.ntmps31, Exit.thenS, bad]
  refine wpS_of_wp ?_
  have x0 : w.cell? ⟨vb, 0, none⟩ = some v0 := hv.cell 0
  have x1 : w.cell? ⟨vb, 1, none⟩ = some v1 := hv.cell 1
  have x2 : w.cell? ⟨vb, 2, none⟩ = some v2 := hv.cell 2
  have x3 : w.cell? ⟨vb, 3, none⟩ = some v3 := hv.cell 3
  have f0 := hv.free 0
  have f1 := hv.free 1
  have f2 := hv.free 2
  have f3 := hv.free 3
  have y0 : w.cell? ⟨eb, 0, none⟩ = some e0 := he.cell 0
  have g0 := he.free 0
  have vz := hv.lt
  have ez := he.lt
  have hne' : eb ≠ vb := Ne.symm hne
  have hta : ∀ w : World, (Instr.typeAssert (.iface 28 (.int .i64 10)) 20 28 false).run Try.prog w = .ok (.int .i64 10) w := fun _ => by rfl
  go_wp2_with fail
  go_region
  all_goals
    refine ⟨rfl, _, rfl, .tuple #[], by simp [results, Try.results31, go_sem], rfl, rfl, ?_⟩
    first
      | exact (caughtA hne hv he).drew
      | exact (caughtB hne hv he).drew

theorem catch_idle (vb eb : Nat) (w : World) :
    CallsD Try.prog 31 #[.pointer (some ⟨vb, 0, none⟩), .pointer (some ⟨eb, 0, none⟩)] .returning w fun e u' w' => e = .returned (.tuple #[]) ∧ u' = .returning ∧ w' = w := by
  refine callsD_of_wpS Try.func31 rfl fun c₀ cs hu => ?_
  apply wpS_seq
  apply wpS_region
  simp [wpOpsS, go_sem, recoverD, hu, Try.ntmps31, Exit.thenS]
  refine wpS_of_wp ?_
  go_wp2_with fail
  refine ⟨rfl, .returning, ?_, .tuple #[], by simp [results, Try.results31, go_sem], rfl, rfl, rfl⟩
  cases c₀
  simp_all

end Go.Proofs.Ytcokkloaljaanaa
