/-
  The iterator holding of package gatecode. No condition.
-/
import Derived.RangeFuncNested
import Derived.RangeFuncBound
import Derived.RangeFuncCalls
import Derived.RangeFuncLeaves
import Derived.RangeFuncBox
import Derived.Shelf.Abstract
import Derived.Shelf.RegionOpen
import Derived.OwnWalkIn
import Derived.TacticsInMore
import Derived.LoopNIn
import Derived.LoopIn
import Derived.Maps.AppendAt
import Derived.Test.YtakjalapninndaaL
import Derived.Test.YtakjalapninndaaH
namespace Go.Proofs.Ytakjalapninndaa
open Go.RowKit Go.Shelf
attribute [local go_sem] Oper.semAt_some

theorem holding_any (v : Value) (r : Vr) (w : World) : Calls Try.prog 42 #[.agg #[v], r.v] w fun e w' =>
    ∃ Bo : Nat, e = .returned (.func (.func 45) #[] #[.pointer (some ⟨w.heap.size, 0, none⟩), .pointer (some ⟨Bo, 0, none⟩), .pointer (some ⟨w.heap.size + 1, 0, none⟩)]) ∧
      Box w' w.heap.size [v] ∧ Box w' Bo Ops ∧ Box w' (w.heap.size + 1) r.cells ∧ w.heap.size ≤ Bo ∧ Below w.heap.size w w' := by
  have hmf : ∀ (fn : Fn) (first cap : Array Value) (w : World), (Instr.makeFunc fn first cap).run Try.prog w = .ok (.func fn first cap) w := fun _ _ _ _ => rfl
  go_enter Try.func42, Try.ntmps42
  go_wp2_with fail
  refine (compare_any _).mono ?_
  rintro e w1 ⟨rfl, hb⟩
  have X0 := ((Box.new w [v] 39).alloc _).later hb
  have X1 := (Box.newAt (w := w.alloc (.cells #[v] 39)) (n := w.heap.size + 1) r.cells 75 (by simp)).later hb
  have hB := (((Below.refl w.heap.size w).alloc (by simp <;> omega) _).alloc (by simp <;> omega) _).trans (hb.mono (by simp <;> omega))
  clear hb
  go_wp2
  have Y := Box.new w1 Ops 81
  have X0 := X0.alloc (.cells Ops.toArray 81)
  have X1 := X1.alloc (.cells Ops.toArray 81)
  have hs := hB.size
  have hB := hB.alloc hB.size (.cells Ops.toArray 81)
  go_ret
  exact ⟨w1.heap.size, rfl, X0, Y, X1, hs, hB⟩

/-- What the lines that hold set. -/
def heldL (code : List Ln) (r : Vr) : List Int := (code.filter (·.holdsB r)).map (·.set)
theorem heldL_take (code : List Ln) (r : Vr) {k : Nat} (hk : k < code.length) : heldL (code.take (k + 1)) r = heldL (code.take k) r ++ (if (code[k]).holdsB r = true then [(code[k]).set] else []) := by
  rw [List.take_succ_eq_append_getElem hk]
  unfold heldL
  rw [List.filter_append, List.map_append]
  congr 1
  by_cases h : (code[k]).holdsB r = true <;> simp [h]
theorem heldL_prefix (code : List Ln) (r : Vr) (k : Nat) : heldL (code.take k) r <+: heldL code r := by
  unfold heldL
  conv => rhs; rw [← List.take_append_drop k code, List.filter_append, List.map_append]
  exact List.prefix_append _ _
theorem grown_none {a w : World} (h : Below a.heap.size a w) : a.grownBy w none := ⟨h.os, h.tape, h.output, h.size, fun i hi _ => h.block i hi⟩
theorem abides_below {β : Type} {B : Nat} {J : β → World → Prop} (h : AbidesFrom B J) {s : β} {W W' : World} (hs : J s W) (hb : Below W.heap.size W W') : J s W' := h s W W' none hs (grown_none hb) (fun r e => by cases e)

set_option maxRecDepth 100000 in
set_option maxHeartbeats 2000000 in
theorem hold_stops (n N : Nat) (code : List Ln) (A : Option Addr) (c : Nat) (r : Vr) (Bc Bo Bv : Nat) (w : World) (hC : CodeAt w w.heap.size (.slice A code.length c) code) (hg : Hid (gateB code = true))
    (hc : Box w Bc [.slice A code.length c]) (hO : Box w Bo Ops) (hV : Box w Bv r.cells) (hN : code.length ≤ N) :
    SeqStopsK Fence.wide n Try.prog 45 #[.pointer (some ⟨Bc, 0, none⟩), .pointer (some ⟨Bo, 0, none⟩), .pointer (some ⟨Bv, 0, none⟩)] (fun x : (Option Addr × Nat × Nat) × Int => #[.agg #[.slice x.1.1 x.1.2.1 x.1.2.2, .int .i64 x.2]]) (Below w.heap.size)
      (fun xs => xs.map (·.2) = heldL code r) (fun pre => pre.map (·.2) <+: heldL code r) N w := fun l J Jx W hW hJ hJx hY h0 => by
  have hmf : ∀ (fn : Fn) (first cap : Array Value) (w : World), (Instr.makeFunc fn first cap).run Try.prog w = .ok (.func fn first cap) w := fun _ _ _ _ => rfl
  obtain ⟨m, hmm⟩ : ∃ m, code.length = m := ⟨_, rfl⟩
  have hm4 := (gate_small hg.out).1
  rw [hmm] at hC hc hN hm4
  have HM := Lib.hid hmm
  have HC := Lib.hid hC
  have HY := Lib.hid hY
  have HJ := Lib.hid hJ
  have HJx := Lib.hid hJx
  clear hmm hC hY hJ hJx
  refine callsIn_of_wp Try.func45 rfl trivial ?_ rfl
  simp only [Try.ntmps45, List.size_toArray, List.length_cons, List.length_nil, Nat.reduceAdd, Nat.reduceSub, Array.replicate_succ, Array.replicate_zero, List.push_toArray, List.append_toArray, List.nil_append, List.cons_append]
  have x0 : W.cell? ⟨Bc, 0, none⟩ = some (.slice A m c) := (hc.later hW).cell 0
  gi_wp2_with fail
  clear x0
  gi_loopw [11] (fun i wr => ∃ (k : Nat) (pre : List ((Option Addr × Nat × Nat) × Int)), k ≤ m ∧ i = .int .i64 k ∧ Below w.heap.size w wr ∧ J pre wr ∧ Hid (pre.map (·.2) = heldL (code.take k) r ∧ pre.length ≤ k)) (fun i _ => m - (intOf i).toNat)
  case atStart => exact ⟨0, [], by omega, rfl, hW, h0, rfl, Nat.le_refl _⟩
  case round =>
    obtain ⟨k, pre, hk, rfl, hb, hJ0, hpre⟩ := hrel
    by_cases hlt : k < m
    · have hkl : k < code.length := by rw [HM.out]; exact hlt
      obtain ⟨b, off, V, rfl, hbw, p0, p1, hV'⟩ := HC.out.line hkl
      obtain ⟨A', c', rfl, hm⟩ := hV'.form
      have hokc : condsOk (code[k]).conds := fun j hj => gate_ok hg.out hkl hj
      have htk := heldL_take code r hkl
      obtain ⟨l1, hl⟩ : ∃ l1, code[k] = l1 := ⟨_, rfl⟩
      rw [hl] at p0 p1 hV' hm hokc htk
      have htk := Lib.hid htk
      have hokc := Lib.hid hokc
      clear hl
      obtain ⟨m', hmm⟩ : ∃ m', l1.conds.length = m' := ⟨_, rfl⟩
      rw [hmm] at p0 hV' hm
      have HV := Lib.hid hV'
      clear hV' hmm
      have p0 := (hb.cell hbw).trans p0
      have p1 := (hb.cell hbw).trans p1
      gi_wp2_with fail
      refine ⟨trivial, (fun h => by cases h), ?_⟩
      have hb1 := hb.alloc hb.size (.cells #[.slice A' m' c', .int .i64 l1.set] 53)
      have Y := Box.new wr [.slice A' m' c', .int .i64 l1.set] 53
      have hO1 := hO.later hb1
      have hV1 := hV.later hb1
      have hJ1 := abides_below HJ.out hJ0 ((Below.refl _ wr).alloc (Nat.le_refl _) (.cells #[.slice A' m' c', .int .i64 l1.set] 53))
      have hC1 := (HV.out.below hb1).more hb1.size
      refine (callsIn_wide.2 (contains_any l1.conds (.slice A' m' c') r Bo Bv _ hC1 hokc hO1 hV1)).mono ?_
      rintro e W1 ⟨rfl, hb2⟩
      have hb3 := hb1.trans (hb2.mono hb1.size)
      have hJ2 := abides_below HJ.out hJ1 hb2
      have Y := Y.later hb2
      clear hb1 hb2 hJ1 hO1 hV1 p0 p1 hC1
      generalize wr.heap.size = D at Y ⊢
      have y0 : W1.cell? ⟨D, 0, none⟩ = some (.slice A' m' c') := Y.cell 0
      have y1 : W1.cell? ⟨D, 1, none⟩ = some (.int .i64 l1.set) := Y.cell 1
      rcases hh : (l1.conds.all fun c => c.holdsB (r.at c.var)) with _ | _
      · gi_wp2
        refine ⟨fun _ h => (by cases h), ?_⟩
        gi_wp2
        refine ⟨⟨k + 1, pre, by omega, by go_num, hb3, hJ2, ?_, by have := hpre.out.2; omega⟩, by simp [intOf]; omega⟩
        rw [htk.out, if_neg (by rw [Ln.holdsB, hh]; decide), List.append_nil]
        exact hpre.out.1
      · obtain ⟨f0, t0, a0, c0, hy0, hR0⟩ := HY.out pre ((A', m', c'), l1.set) W1 hJ2 (by have := hpre.out.2; omega)
        dsimp only at hy0
        have hpre' : (pre ++ [((A', m', c'), l1.set)]).map (·.2) = heldL (code.take (k + 1)) r := by
          rw [htk.out, if_pos (show l1.holdsB r = true from hh), List.map_append, hpre.out.1]; rfl
        have hpre' := Lib.hid hpre'
        gi_wp2_with fail
        refine ⟨(fun h => by cases h), hR0.mono ?_⟩
        rintro e W2 (⟨rfl, hJ3, hK⟩ | ⟨rfl, hx⟩)
        · gi_wp2
          refine ⟨⟨k + 1, _, by omega, by go_num, hb3.trans hK, hJ3, hpre'.out, by have := hpre.out.2; simp; omega⟩, by simp [intOf]; omega⟩
        · gi_wp2
          refine bodyPost_ret (results_none rfl _ _ _) rfl ?_
          refine ⟨⟨_, rfl⟩, .inr ⟨_, ?_, hx⟩⟩
          show List.map _ _ <+: _
          rw [hpre'.out]
          exact heldL_prefix code r (k + 1)
    · obtain rfl : k = m := by omega
      gi_wp2
      go_end0
      refine ⟨⟨_, rfl⟩, .inl ⟨pre, ?_, hJ0⟩⟩
      show List.map _ _ = _
      rw [hpre.out.1, ← HM.out, List.take_length]

end Go.Proofs.Ytakjalapninndaa
