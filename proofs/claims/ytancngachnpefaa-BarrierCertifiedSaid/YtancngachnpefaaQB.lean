/- Check of plant. No condition. -/
import Derived.Test.YtancngachnpefaaQK
set_option linter.unusedVariables false
set_option linter.unusedSimpArgs false
set_option maxRecDepth 100000
set_option maxHeartbeats 2000000
namespace Go.Proofs.Ytancngachnpefaa
open Go.RowKit
theorem check_low (p : Pl) (w : World) (h : p.top < 1 ∨ 63 < p.top) : Calls Try.prog 22 #[p.v] w fun e w' => e = .returned (.int .i64 320) ∧ Below w.heap.size w w' := by
  obtain ⟨m, hm⟩ : ∃ m, IntKind.i64.wrap (p.top - 1) = m := ⟨_, rfl⟩
  have hix := ixP0 p m
  rcases h with h | h
  all_goals
    go_enter Try.func22, Try.ntmps22
    go_wp2_with fail
    refine wp_loop_rounds 1 ?_
    rw [rounds_succ]
    go_wp2
    go_ret
    exact ⟨rfl, ((Below.refl _ _).alloc (Nat.le_refl _) _).alloc (by simp) _⟩
theorem check_mid (p : Pl) (w : World) (h1 : 1 ≤ p.top) (h2 : p.top ≤ 63) : Calls Try.prog 22 #[p.v] w fun e w' => e = .returned (.int .i64 p.checkT) ∧ Below w.heap.size w w' := by
  go_enter Try.func22, Try.ntmps22
  go_wp2_with fail
  have X := Box.new w p.cells 23
  have hB : Below w.heap.size w (w.alloc (.cells #[.int .i64 p.top, .int .i64 p.bank, .int .i64 p.siphon, .int .i64 p.start, .int .i64 p.positions, .int .i64 p.rate, .int .i64 p.step, .int .i64 p.pass, .int .i64 p.feed, .int .i64 p.pipe, .int .i64 p.orders, .int .i64 p.age] 23)) := (Below.refl _ _).alloc (Nat.le_refl _) _
  generalize w.alloc (.cells #[.int .i64 p.top, .int .i64 p.bank, .int .i64 p.siphon, .int .i64 p.start, .int .i64 p.positions, .int .i64 p.rate, .int .i64 p.step, .int .i64 p.pass, .int .i64 p.feed, .int .i64 p.pipe, .int .i64 p.orders, .int .i64 p.age] 23) = W at X hB ⊢
  go_loopw [49] (fun i wr => ∃ k : Nat, k ≤ 12 ∧ i = .int .i64 k ∧ Below W.heap.size W wr ∧ Hid (((p.bounds.take k).all fun t => inI t.1 t.2.1 t.2.2) = true)) (fun i _ => (12 - intOf i).toNat)
  case atStart => exact ⟨0, by omega, rfl, Below.refl _ _, rfl⟩
  case round =>
    obtain ⟨k, hk, rfl, hb, hall⟩ := hrel
    by_cases hlt : k < 12
    · obtain ⟨⟨x, lo, hi⟩, ht⟩ : ∃ t, p.bounds.getD k (0, 0, 0) = t := ⟨_, rfl⟩
      have hix := ixP p k hlt
      have hbad := Pl.bounds_bad (p := p) hlt
      have htk := p.bounds_take k hlt
      rw [ht] at hix hbad htk
      rw [hall.out, Bool.true_and] at htk
      have hbad := Lib.hid hbad
      have htk := Lib.hid htk
      clear ht
      go_wp2
      case roundEnd =>
        have h1 : lo ≤ x ∧ x ≤ hi := by assumption
        refine ⟨⟨k + 1, by omega, by go_num, hb.alloc hb.size _, ?_⟩, by simp [intOf]; omega⟩
        rw [Hid, htk.out]
        exact decide_eq_true h1
      all_goals
        go_ret
        refine ⟨?_, (hB.trans (hb.mono hB.size)).alloc (by have := hB.size; have := hb.size; omega) _⟩
        rw [Pl.check_bad (hbad.out (decide_eq_false (by omega)))]
        rfl
    · obtain rfl : k = 12 := by omega
      have hv : p.validB = true := by rw [Pl.bounds_all]; exact hall.out
      have X' := X.later hb
      obtain ⟨c0, c1, c2, c3, c4, c5, c6, c7, c8, c9, c10, c11⟩ := X'.c12
      have hcz : Hid (p.checkT = if 4096 < p.countI then 2 else 0) := by rw [Hid, Pl.checkT, if_pos hv]
      have HV := Lib.hid (Pl.valid_of hv)
      clear hv
      go_wp2_with fail
      refine (count_any p HV _).mono ?_
      rintro e w2 ⟨rfl, hb2⟩
      by_cases hc : 4096 < p.countI
      · go_wp2
        go_ret
        exact ⟨by rw [hcz.out, if_pos hc]; rfl, hB.trans ((hb.trans (hb2.mono hb.size)).mono hB.size)⟩
      · go_wp2
        go_ret
        exact ⟨by rw [hcz.out, if_neg (by omega)]; rfl, hB.trans ((hb.trans (hb2.mono hb.size)).mono hB.size)⟩
theorem check_any (p : Pl) (w : World) : Calls Try.prog 22 #[p.v] w fun e w' => e = .returned (.int .i64 p.checkT) ∧ Below w.heap.size w w' := by
  by_cases h : p.top < 1 ∨ 63 < p.top
  · rw [Pl.check_bad (Pl.invalid_top h)]
    exact check_low p w h
  · exact check_mid p w (by omega) (by omega)
end Go.Proofs.Ytancngachnpefaa
