/- Contracts of Check, Few, Holds of acequiaref31. No condition. -/
import Derived.Test.YtcjcjkomcolgeaaQH
set_option linter.unusedVariables false
set_option linter.unusedSimpArgs false
namespace Go.Proofs.Ytcjcjkomcolgeaa
open Go.RowKit

def fewB (code : List Ln) : Bool := decide (code.length ≤ 100) && code.all fun l => decide (l.conds.length ≤ 20)

set_option maxRecDepth 100000 in
set_option maxHeartbeats 2000000 in
theorem gfew_any (code : List Ln) (v : Value) (w : World) (hC : CodeAt w w.heap.size v code) :
    Calls Try.prog 28 #[.agg #[v]] w fun e w' => e = .returned (.bool (fewB code)) ∧ Below w.heap.size w w' := by
  obtain ⟨A, c, rfl, hm⟩ := hC.form
  unfold maxLen at hm
  obtain ⟨n, hnn⟩ : ∃ n, code.length = n := ⟨_, rfl⟩
  rw [hnn] at hm hC ⊢
  have HN := Lib.hid hnn
  clear hnn
  by_cases hn : n ≤ 100
  · go_enter Try.func28, Try.ntmps28
    go_wp2_with fail
    have X := Box.new w [.slice A n c] 63
    have hB := (Below.refl w.heap.size w).alloc (Nat.le_refl _) (.cells #[.slice A n c] 63)
    have HC := Lib.hid (hC.later ((Below.refl w.heap.size w).alloc (Nat.le_refl _) (.cells #[.slice A n c] 63)))
    clear hC
    generalize w.alloc (.cells #[.slice A n c] 63) = W at X hB HC ⊢
    have x0 : W.cell? ⟨w.heap.size, 0, none⟩ = some (.slice A n c) := X.cell 0
    have xz := X.lt
    go_loop [3] (fun i => ∃ k : Nat, k ≤ n ∧ i = .int .i64 k ∧ Hid ((code.take k).all (fun l => decide (l.conds.length ≤ 20)) = true)) (fun i => n - (intOf i).toNat)
    case atStart => exact ⟨0, by omega, rfl, rfl⟩
    case round =>
      obtain ⟨k, hk, rfl, hall⟩ := hrel
      by_cases hlt : k < n
      · have hkl : k < code.length := by rw [HN.out]; exact hlt
        obtain ⟨b, off, V, rfl, hbw, p0, p1, hV⟩ := HC.out.line hkl
        obtain ⟨A', c', rfl, hm'⟩ := hV.form
        obtain ⟨l, hl⟩ : ∃ l, code[k] = l := ⟨_, rfl⟩
        rw [hl] at p0 p1 hV hm'
        have hbad := all_bad (f := fun l : Ln => decide (l.conds.length ≤ 20)) hkl
        have htk := all_take code (fun l : Ln => decide (l.conds.length ≤ 20)) hkl
        rw [hl] at hbad htk
        rw [hall.out, Bool.true_and] at htk
        have hbad := Lib.hid hbad
        have htk := Lib.hid htk
        clear hl
        obtain ⟨m, hmm⟩ : ∃ m, l.conds.length = m := ⟨_, rfl⟩
        rw [hmm] at p0 hm'
        unfold maxLen at hm'
        have HM := Lib.hid hmm
        clear hmm hV
        by_cases h20 : m ≤ 20
        · go_wp2
          refine ⟨⟨k + 1, by omega, by go_num, ?_⟩, by simp [intOf]; omega⟩
          rw [Hid, htk.out]
          exact decide_eq_true (by rw [HM.out]; exact h20)
        · go_wp2
          go_ret
          refine ⟨?_, hB⟩
          rw [fewB, hbad.out (decide_eq_false (by rw [HM.out]; omega)), Bool.and_false]
          rfl
      · obtain rfl : k = n := by omega
        go_wp2
        go_ret
        refine ⟨?_, hB⟩
        have := hall.out
        rw [← HN.out, List.take_length] at this
        rw [fewB, this, decide_eq_true (show code.length ≤ 100 by rw [HN.out]; exact hn)]
        rfl
  · have : fewB code = false := by rw [fewB, decide_eq_false (by rw [HN.out]; omega)]; rfl
    have hf := Lib.hid this
    clear this hC
    go_enter Try.func28, Try.ntmps28
    go_wp2
    go_ret
    exact ⟨by rw [hf.out]; rfl, (Below.refl _ _).alloc (Nat.le_refl _) _⟩

abbrev Cn.v (c : Cn) : Value := .agg #[.int .i64 c.var, .int .i64 c.op, .int .i64 c.n]
end Go.Proofs.Ytcjcjkomcolgeaa
