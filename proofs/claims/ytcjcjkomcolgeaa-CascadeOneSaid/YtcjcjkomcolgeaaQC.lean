/- valid and Check of the reference of plant. No condition. -/
import Derived.Test.YtcjcjkomcolgeaaQA
set_option linter.unusedVariables false
set_option linter.unusedSimpArgs false
namespace Go.Proofs.Ytcjcjkomcolgeaa
open Go.RowKit

theorem within_any (n lo hi : Int) (w : World) : Calls Try.prog 85 #[.int .i64 n, .int .i64 lo, .int .i64 hi] w fun e w' => e = .returned (.bool (inI n lo hi)) ∧ w = w' := by
  by_cases h1 : lo ≤ n
  · by_cases h2 : n ≤ hi
    · go_enter Try.func85, Try.ntmps85
      go_wp2
      go_ret
      exact ⟨by rw [inI, decide_eq_true ⟨h1, h2⟩]; rfl, rfl⟩
    · go_enter Try.func85, Try.ntmps85
      go_wp2
      go_ret
      exact ⟨by rw [inI, decide_eq_false (by omega)]; rfl, rfl⟩
  · go_enter Try.func85, Try.ntmps85
    go_wp2
    go_ret
    exact ⟨by rw [inI, decide_eq_false (by omega)]; rfl, rfl⟩

theorem Pl.validB_eq (p : Pl) : p.validB = (inI p.top 1 63 && (inI p.bank 0 (p.top - 1) && (inI p.siphon 0 p.bank && (inI p.start 0 p.top && (inI p.positions 1 15 && (inI p.rate 1 15 && (inI p.step 1 15 && (inI p.pass 0 1048576 && (inI p.feed 0 15 && (inI p.pipe 0 2 && (inI p.orders 0 7 && inI p.age 0 7))))))))))) := by
  rw [Pl.bounds_all]
  simp [Pl.bounds]
theorem top_wrap {p : Pl} {m : Int} (hm : Hid (IntKind.i64.wrap (p.top - 1) = m)) (h : inI p.top 1 63 = true) : m = p.top - 1 := by
  have := inI_yes h
  rw [← hm.out]
  exact wrap_id (by omega) (by omega)

set_option maxRecDepth 100000 in
set_option maxHeartbeats 4000000 in
theorem valid_any (p : Pl) (w : World) : Calls Try.prog 65 #[p.v] w fun e w' => e = .returned (.bool p.validB) ∧ Below w.heap.size w w' := by
  obtain ⟨m, hm⟩ : ∃ m, IntKind.i64.wrap (p.top - 1) = m := ⟨_, rfl⟩
  have Hm := Lib.hid hm
  go_enter Try.func65, Try.ntmps65
  go_wp2_with (go_at_call 85; refine (within_any _ _ _ _).mono ?_; rintro e w' ⟨rfl, rfl⟩)
  all_goals
    go_ret
    refine ⟨?_, (Below.refl _ _).alloc (Nat.le_refl _) _⟩
    rw [Pl.validB_eq]
    first | (rw [← top_wrap Hm (by assumption)]; simp_all) | simp_all

set_option maxRecDepth 100000 in
set_option maxHeartbeats 4000000 in
theorem rcheck_any (p : Pl) (w : World) : Calls Try.prog 34 #[p.v] w fun e w' => e = .returned (.int .i64 p.checkT) ∧ Below w.heap.size w w' := by
  rcases hv : p.validB with _ | _
  · have hc := Lib.hid (Pl.check_bad hv)
    go_enter Try.func34, Try.ntmps34
    go_wp2_with fail
    refine (valid_any p _).mono ?_
    rw [hv]
    rintro e w1 ⟨rfl, hb⟩
    clear hv
    go_wp2
    go_ret
    exact ⟨by rw [hc.out]; rfl, ((Below.refl _ _).alloc (Nat.le_refl _) _).trans (hb.mono (by simp))⟩
  · have hcz : Hid (p.checkT = if 4096 < p.countI then 2 else 0) := by rw [Hid, Pl.checkT, if_pos hv]
    have HV := Lib.hid (Pl.valid_of hv)
    go_enter Try.func34, Try.ntmps34
    go_wp2_with fail
    refine (valid_any p _).mono ?_
    rw [hv]
    rintro e w1 ⟨rfl, hb⟩
    clear hv
    have X := (Box.new w p.cells 55).later hb
    have hB := ((Below.refl w.heap.size w).alloc (Nat.le_refl _) _).trans (hb.mono (by simp))
    clear hb
    have c0 : w1.cell? ⟨w.heap.size, 0, none⟩ = some (.int .i64 p.top) := X.cell 0
    have c1 : w1.cell? ⟨w.heap.size, 1, none⟩ = some (.int .i64 p.bank) := X.cell 1
    have c2 : w1.cell? ⟨w.heap.size, 2, none⟩ = some (.int .i64 p.siphon) := X.cell 2
    have c3 : w1.cell? ⟨w.heap.size, 3, none⟩ = some (.int .i64 p.start) := X.cell 3
    have c4 : w1.cell? ⟨w.heap.size, 4, none⟩ = some (.int .i64 p.positions) := X.cell 4
    have c5 : w1.cell? ⟨w.heap.size, 5, none⟩ = some (.int .i64 p.rate) := X.cell 5
    have c6 : w1.cell? ⟨w.heap.size, 6, none⟩ = some (.int .i64 p.step) := X.cell 6
    have c7 : w1.cell? ⟨w.heap.size, 7, none⟩ = some (.int .i64 p.pass) := X.cell 7
    have c8 : w1.cell? ⟨w.heap.size, 8, none⟩ = some (.int .i64 p.feed) := X.cell 8
    have c9 : w1.cell? ⟨w.heap.size, 9, none⟩ = some (.int .i64 p.pipe) := X.cell 9
    have c10 : w1.cell? ⟨w.heap.size, 10, none⟩ = some (.int .i64 p.orders) := X.cell 10
    have c11 : w1.cell? ⟨w.heap.size, 11, none⟩ = some (.int .i64 p.age) := X.cell 11
    go_wp2_with fail
    refine (rcount_any p HV _).mono ?_
    rintro e w2 ⟨rfl, hb2⟩
    by_cases hc : 4096 < p.countI
    · go_wp2
      go_ret
      exact ⟨by rw [hcz.out, if_pos hc]; rfl, hB.trans (hb2.mono hB.size)⟩
    · go_wp2
      go_ret
      exact ⟨by rw [hcz.out, if_neg (by omega)]; rfl, hB.trans (hb2.mono hB.size)⟩

end Go.Proofs.Ytcjcjkomcolgeaa
