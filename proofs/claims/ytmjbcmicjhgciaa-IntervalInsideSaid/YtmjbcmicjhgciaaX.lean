/-
  Contracts of magnitude, remainders, divisor of package ratio. The iterator keeps its state in cells of its own, so its rounds are met one by one.
-/
import Derived.Test.YtmjbcmicjhgciaaQ
import Derived.Deep.CutBlock
import Derived.RegionTactic
namespace Go.Proofs.Ytmjbcmicjhgciaa
open Go.RowKit Go.Shelf
attribute [local go_sem] Oper.semAt_some

/-- A call of yield, out of the record of the loop and a walk of the loop's body. -/
theorem yield_of {F : Fence} {n : Nat} {P : Program} {l : Nat} {W : World} {rec : Loop} {args : Array Value} {R : Ending → World → Prop} (hl : W.heap[l]? = some (.loop rec)) (hst : rec.state = .ready)
    (hsz : args.size = rec.params.size) (hfn : F.fn rec.fn) (a1 : Act)
    (ha : ∀ (K : Act → World → Prop), K a1 W → rec.assign.wpIn (F.inRound l) n P (Exit.then K (fun _ _ _ => False)) { tmps := (rec.params.zip args).foldl (fun t (p, v) => t.setIfInBounds p v) rec.tmps, defers := [] } W)
    (hb : rec.body.wpIn (F.inRound l) n P (roundPost P l R) a1 (W.putObj l (.loop { rec with state := .busy }))) : YieldAt F n P l args W R :=
  ⟨rec.fn, _, rec.assign, rec.body, run_yield hl hsz, roundIn_of_wpIn hfn (ha _ ⟨_, run_beginRound hl hst, hb⟩)⟩

set_option maxHeartbeats 400000 in
theorem magnitude_any (x : Int) (w : World) (h : -1073741824 ≤ x ∧ x ≤ 1073741824) : Calls Try.prog 54 #[.int .i64 x] w fun e w' => ∃ m : Nat, e = .returned (.int .u64 (m : Int)) ∧ Hid (m = x.natAbs) ∧ w = w' := by
  obtain ⟨h1, h2⟩ := h
  by_cases hx : x < 0
  · go_enter Try.func54, Try.ntmps54
    go_wp2
    go_ret
    refine ⟨x.natAbs, ?_, rfl, rfl⟩
    have he : IntKind.u64.wrap (-IntKind.u64.wrap x) = (x.natAbs : Int) := by
      rw [IntKind.wrap_u64, IntKind.wrap_u64]; omega
    show Ending.returned (.int .u64 _) = _
    rw [he]
  · go_enter Try.func54, Try.ntmps54
    go_wp2
    go_ret
    refine ⟨x.natAbs, ?_, rfl, rfl⟩
    have he : x = (x.natAbs : Int) := by omega
    show Ending.returned (.int .u64 _) = _
    rw [← he]

set_option maxHeartbeats 400000 in
theorem remainders_any (a b : Nat) (w : World) : Calls Try.prog 58 #[.int .u64 (a : Int), .int .u64 (b : Int)] w fun e w' =>
    e = .returned (.func (.func 62) #[] #[.pointer (some ⟨w.heap.size, 0, none⟩), .pointer (some ⟨w.heap.size + 1, 0, none⟩)]) ∧
      (w.alloc (.cells #[.int .u64 (a : Int)] 72)).alloc (.cells #[.int .u64 (b : Int)] 72) = w' := by
  have hmf : ∀ (fn : Fn) (first cap : Array Value) (w : World), (Instr.makeFunc fn first cap).run Try.prog w = .ok (.func fn first cap) w := fun _ _ _ _ => rfl
  go_enter Try.func58, Try.ntmps58
  go_wp2
  go_ret
  exact ⟨rfl, rfl⟩

set_option maxRecDepth 100000 in
set_option maxHeartbeats 2000000 in
/-- The iterator: J d W: what the caller's variable holds. -/
theorem rem_iter (n l A B : Nat) (hAB : A ≠ B) (J : Nat → World → Prop) (hJ : ∀ d W v, J d W → J d (W.setCell ⟨A, 0, none⟩ v) ∧ J d (W.setCell ⟨B, 0, none⟩ v)) (hJd : ∀ d W, J d W → J d W.drew)
    (hY : ∀ (d x : Nat) W1, J d W1 → YieldAt Fence.wide (n - 1) Try.prog l #[.int .u64 (x : Int)] W1 fun e W' => e = .returned (.bool true) ∧ J x W' ∧ KeepsTwo A B W1 W')
    (a b : Nat) (hb : 1 ≤ b) (ha : a < 18446744073709551616) (hb' : b < 18446744073709551616) (W : World) (hA : Box W A [.int .u64 (a : Int)]) (hB : Box W B [.int .u64 (b : Int)]) (h0 : J b W) :
    CallsIn Fence.wide n Try.prog 62 #[.func (.yield l) #[] #[], .pointer (some ⟨A, 0, none⟩), .pointer (some ⟨B, 0, none⟩)] W fun e W' => (∃ v, e = .returned v) ∧ J (Nat.gcd a b) W' := by
  refine callsIn_of_wp Try.func62 rfl trivial ?_ rfl
  simp only [Try.ntmps62, List.size_toArray, List.length_cons, List.length_nil, Nat.reduceAdd, Nat.reduceSub, Array.replicate_succ, Array.replicate_zero, List.push_toArray, List.append_toArray, List.nil_append, List.cons_append]
  gi_wp2
  gi_loopw [4] (fun _ wr => ∃ x y d : Nat, 1 ≤ y ∧ Hid (x < 18446744073709551616 ∧ y < 18446744073709551616) ∧ Hid (Nat.gcd x y = Nat.gcd a b) ∧ Hid (x = 0 → d = Nat.gcd a b) ∧ Box wr A [.int .u64 (x : Int)] ∧ Box wr B [.int .u64 (y : Int)] ∧ J d wr)
    (fun _ wr => match wr.cell? ⟨B, 0, none⟩ with | some (.int _ y) => y.toNat | _ => 0)
  case atStart => exact ⟨a, b, b, hb, ⟨ha, hb'⟩, rfl, (fun e => by rw [e, Nat.gcd_zero_left]), hA, hB, h0⟩
  case round =>
    obtain ⟨x, y, d, hy, hxy, hg, hd, hA, hB, hJ0⟩ := hrel
    obtain ⟨cA, fA⟩ := hA.one
    obtain ⟨cB, fB⟩ := hB.one
    rcases hx0 : ((x : Int) != 0) with _ | _
    · gi_wp2
      refine ⟨fun _ h => (by cases h), ?_⟩
      gi_wp2
      refine bodyPost_end (results_none rfl _ _ _) rfl ?_
      exact ⟨⟨_, rfl⟩, by rw [← hd (by simpa using hx0)]; exact hJ0⟩
    · obtain ⟨f1, t1, a1, b1, hy1, hR1⟩ := hY d x wr hJ0
      gi_wp2
      refine ⟨(fun h => by cases h), hR1.mono ?_⟩
      rintro e W1 ⟨rfl, hJ1, hK1⟩
      have hA1 := hA.same hK1.1
      have hB1 := hB.same hK1.2
      clear cA fA cB fB hy1 hR1
      obtain ⟨cA, fA⟩ := hA1.one
      obtain ⟨cB, fB⟩ := hB1.one
      gi_wp2
      have hmx : max (y : Int) 1 = (y : Int) := by omega
      have hmx' : ¬ ((y : Int) < 1) := by omega
      have hy0 : ((y : Int) == 0) = false := by simp; omega
      have hyn : (y : Int) ≠ 0 := by omega
      have hxn : x ≠ 0 := by simpa using hx0
      have hmod : Hid (((x : Int) % (y : Int)) = ((x % y : Nat) : Int)) := by show _ = _; simp
      have hA2 := ((hA1.set 0 (.int .u64 (y : Int))).other (a := ⟨B, 0, none⟩) hAB (.int .u64 ((x : Int) % (y : Int)))).drew
      have hB2 := ((hB1.other (a := ⟨A, 0, none⟩) (Ne.symm hAB) (.int .u64 (y : Int))).set 0 (.int .u64 ((x : Int) % (y : Int)))).drew
      have hJ2 := hJd _ _ (hJ _ _ (.int .u64 ((x : Int) % (y : Int))) (hJ _ _ (.int .u64 (y : Int)) hJ1).1).2
      simp only [List.set] at hA2 hB2
      rcases hz : (((x : Int) % (y : Int)) == 0) with _ | _
      · gi_region
        gi_wp2
        have hmod := hmod.out
        all_goals rw [hmod] at hz hA2 hB2 hJ2
        all_goals rw [hmod]
        all_goals have hr0 : x % y ≠ 0 := by intro e; rw [e] at hz; simp at hz
        refine ⟨⟨y, x % y, x, by omega, ⟨hxy.out.2, Nat.lt_trans (Nat.mod_lt _ (by omega)) hxy.out.2⟩, ?_, (fun e => by omega), hA2, hB2, hJ2⟩, ?_⟩
        · rw [← hg.out]
          show Nat.gcd y (x % y) = Nat.gcd x y
          rw [Nat.gcd_comm x y, Nat.gcd_rec y x, Nat.gcd_comm]
        · have e1 := hB2.cell 0
          have e2 := hB.cell 0
          simp only [e1, e2]
          have := Nat.mod_lt x (show y > 0 by omega)
          show ((x % y : Nat) : Int).toNat < ((y : Nat) : Int).toNat
          rw [Int.toNat_natCast, Int.toNat_natCast]; exact this
      · obtain ⟨f2, t2, a2, b2, hy2, hR2⟩ := hY x y _ hJ2
        obtain ⟨cA2, fA2⟩ := hA2.one
        obtain ⟨cB2, fB2⟩ := hB2.one
        gi_region
        gi_wp2
        refine ⟨(fun h => by cases h), hR2.mono ?_⟩
        rintro e W2 ⟨rfl, hJ3, hK2⟩
        gi_wp2
        refine bodyPost_ret (results_none rfl _ _ _) rfl ?_
        refine ⟨⟨_, rfl⟩, ?_⟩
        have hr0 : x % y = 0 := by rw [hmod.out] at hz; have := of_decide_eq_true (p := ((x % y : Nat) : Int) = 0) hz; omega
        have hgy : Nat.gcd a b = y := by
          rw [← hg.out, Nat.gcd_comm x y, Nat.gcd_rec y x, hr0, Nat.gcd_zero_left]
        rw [hgy]; exact hJ3

end Go.Proofs.Ytmjbcmicjhgciaa
