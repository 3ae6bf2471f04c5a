/- Contracts of count, Check, Count, Begin of plant and of its reference. No condition. -/
import Derived.Test.YtcjcjkomcolgeaaQG
set_option linter.unusedVariables false
set_option linter.unusedSimpArgs false
namespace Go.Proofs.Ytcjcjkomcolgeaa
open Go.RowKit

theorem wrap_id {x : Int} (h0 : -9223372036854775808 ≤ x) (h1 : x ≤ 9223372036854775807) : IntKind.i64.wrap x = x := by rw [IntKind.wrap_i64]; omega

set_option maxHeartbeats 1000000 in
theorem count_any (p : Pl) (hv : Hid p.Valid) (w : World) : Calls Try.prog 50 #[p.v] w fun e w' => e = .returned (.int .i64 p.countI) ∧ Below w.heap.size w w' := by
  obtain ⟨⟨a1, a2⟩, ⟨a3, a4⟩, ⟨a5, a6⟩, ⟨a7, a8⟩, a9, a10⟩ := Pl.sizes hv.out
  have b1 := hv.out.top
  have b2 := hv.out.positions
  have b3 := hv.out.orders
  have b4 := hv.out.age
  have b5 := hv.out.feed
  have b6 := hv.out.pipe
  obtain ⟨b1, b1'⟩ := b1
  obtain ⟨b2, b2'⟩ := b2
  obtain ⟨b3, b3'⟩ := b3
  obtain ⟨b4, b4'⟩ := b4
  obtain ⟨b5, b5'⟩ := b5
  have m1 : IntKind.i64.wrap ((p.top + 1) * (p.positions + 1)) = (p.top + 1) * (p.positions + 1) := wrap_id (by omega) (by omega)
  have m2 : IntKind.i64.wrap ((p.top + 1) * (p.positions + 1) * (p.orders + 1)) = (p.top + 1) * (p.positions + 1) * (p.orders + 1) := wrap_id (by omega) (by omega)
  have m3 : IntKind.i64.wrap ((p.top + 1) * (p.positions + 1) * (p.orders + 1) * (p.age + 1)) = p.sizeI := wrap_id (x := p.sizeI) (by omega) (by omega)
  have m4 : IntKind.i64.wrap (p.sizeI * (p.feed + 1)) = p.sizeI * (p.feed + 1) := wrap_id (by omega) (by omega)
  have m5 : IntKind.i64.wrap (p.sizeI * (p.feed + 1) * (p.feed + 1)) = p.sizeI * (p.feed + 1) * (p.feed + 1) := wrap_id (by omega) (by omega)
  have hc : (p.pipe = 0 ∧ Hid (p.countI = p.sizeI)) ∨ (p.pipe = 1 ∧ Hid (p.countI = p.sizeI * (p.feed + 1))) ∨ (p.pipe = 2 ∧ Hid (p.countI = p.sizeI * (p.feed + 1) * (p.feed + 1))) := by
    rcases (show p.pipe = 0 ∨ p.pipe = 1 ∨ p.pipe = 2 by omega) with h | h | h
    · exact .inl ⟨h, by rw [Hid, Pl.countI, if_pos h]⟩
    · exact .inr (.inl ⟨h, by rw [Hid, Pl.countI, if_neg (by omega), if_pos h]⟩)
    · exact .inr (.inr ⟨h, by rw [Hid, Pl.countI, if_neg (by omega), if_neg (by omega)]⟩)
  clear a1 a2 a3 a4 a5 a6 a7 a8 a9 a10 b6
  rcases hc with ⟨hp, hc⟩ | ⟨hp, hc⟩ | ⟨hp, hc⟩
  · go_enter Try.func50, Try.ntmps50
    go_wp2
    refine wp_loop_rounds 1 ?_
    rw [rounds_succ]; go_wp2
    go_ret
    exact ⟨by rw [hc.out]; rfl, (Below.refl _ _).alloc (Nat.le_refl _) _⟩
  · go_enter Try.func50, Try.ntmps50
    go_wp2
    refine wp_loop_rounds 2 ?_
    rw [rounds_succ]; go_wp2; rw [rounds_succ]; go_wp2
    go_ret
    exact ⟨by rw [hc.out]; rfl, (Below.refl _ _).alloc (Nat.le_refl _) _⟩
  · go_enter Try.func50, Try.ntmps50
    go_wp2
    refine wp_loop_rounds 3 ?_
    rw [rounds_succ]; go_wp2; rw [rounds_succ]; go_wp2; rw [rounds_succ]; go_wp2
    go_ret
    exact ⟨by rw [hc.out]; rfl, (Below.refl _ _).alloc (Nat.le_refl _) _⟩

set_option maxHeartbeats 1000000 in
theorem rcount_any (p : Pl) (hv : Hid p.Valid) (w : World) : Calls Try.prog 59 #[p.v] w fun e w' => e = .returned (.int .i64 p.countI) ∧ Below w.heap.size w w' := by
  obtain ⟨⟨a1, a2⟩, ⟨a3, a4⟩, ⟨a5, a6⟩, ⟨a7, a8⟩, a9, a10⟩ := Pl.sizes hv.out
  have b1 := hv.out.top
  have b2 := hv.out.positions
  have b3 := hv.out.orders
  have b4 := hv.out.age
  have b5 := hv.out.feed
  have b6 := hv.out.pipe
  obtain ⟨b1, b1'⟩ := b1
  obtain ⟨b2, b2'⟩ := b2
  obtain ⟨b3, b3'⟩ := b3
  obtain ⟨b4, b4'⟩ := b4
  obtain ⟨b5, b5'⟩ := b5
  have m1 : IntKind.i64.wrap ((p.top + 1) * (p.positions + 1)) = (p.top + 1) * (p.positions + 1) := wrap_id (by omega) (by omega)
  have m2 : IntKind.i64.wrap ((p.top + 1) * (p.positions + 1) * (p.orders + 1)) = (p.top + 1) * (p.positions + 1) * (p.orders + 1) := wrap_id (by omega) (by omega)
  have m3 : IntKind.i64.wrap ((p.top + 1) * (p.positions + 1) * (p.orders + 1) * (p.age + 1)) = p.sizeI := wrap_id (x := p.sizeI) (by omega) (by omega)
  have m4 : IntKind.i64.wrap (p.sizeI * (p.feed + 1)) = p.sizeI * (p.feed + 1) := wrap_id (by omega) (by omega)
  have m5 : IntKind.i64.wrap (p.sizeI * (p.feed + 1) * (p.feed + 1)) = p.sizeI * (p.feed + 1) * (p.feed + 1) := wrap_id (by omega) (by omega)
  have hc : (p.pipe = 0 ∧ Hid (p.countI = p.sizeI)) ∨ (p.pipe = 1 ∧ Hid (p.countI = p.sizeI * (p.feed + 1))) ∨ (p.pipe = 2 ∧ Hid (p.countI = p.sizeI * (p.feed + 1) * (p.feed + 1))) := by
    rcases (show p.pipe = 0 ∨ p.pipe = 1 ∨ p.pipe = 2 by omega) with h | h | h
    · exact .inl ⟨h, by rw [Hid, Pl.countI, if_pos h]⟩
    · exact .inr (.inl ⟨h, by rw [Hid, Pl.countI, if_neg (by omega), if_pos h]⟩)
    · exact .inr (.inr ⟨h, by rw [Hid, Pl.countI, if_neg (by omega), if_neg (by omega)]⟩)
  clear a1 a2 a3 a4 a5 a6 a7 a8 a9 a10 b6
  rcases hc with ⟨hp, hc⟩ | ⟨hp, hc⟩ | ⟨hp, hc⟩
  · go_enter Try.func59, Try.ntmps59
    go_wp2
    refine wp_loop_rounds 1 ?_
    rw [rounds_succ]; go_wp2
    go_ret
    exact ⟨by rw [hc.out]; rfl, (Below.refl _ _).alloc (Nat.le_refl _) _⟩
  · go_enter Try.func59, Try.ntmps59
    go_wp2
    refine wp_loop_rounds 2 ?_
    rw [rounds_succ]; go_wp2; rw [rounds_succ]; go_wp2
    go_ret
    exact ⟨by rw [hc.out]; rfl, (Below.refl _ _).alloc (Nat.le_refl _) _⟩
  · go_enter Try.func59, Try.ntmps59
    go_wp2
    refine wp_loop_rounds 3 ?_
    rw [rounds_succ]; go_wp2; rw [rounds_succ]; go_wp2; rw [rounds_succ]; go_wp2
    go_ret
    exact ⟨by rw [hc.out]; rfl, (Below.refl _ _).alloc (Nat.le_refl _) _⟩

theorem ixP (p : Pl) (k : Nat) (hk : k < 12) (w : World) :
    (Instr.index 99 (.agg #[.int .i64 p.top, .int .i64 1, .int .i64 63, .int .i64 p.bank, .int .i64 0, .int .i64 (p.top - 1), .int .i64 p.siphon, .int .i64 0, .int .i64 p.bank, .int .i64 p.start, .int .i64 0, .int .i64 p.top, .int .i64 p.positions, .int .i64 1, .int .i64 15,
      .int .i64 p.rate, .int .i64 1, .int .i64 15, .int .i64 p.step, .int .i64 1, .int .i64 15, .int .i64 p.pass, .int .i64 0, .int .i64 1048576, .int .i64 p.feed, .int .i64 0, .int .i64 15, .int .i64 p.pipe, .int .i64 0, .int .i64 2, .int .i64 p.orders, .int .i64 0, .int .i64 7, .int .i64 p.age, .int .i64 0, .int .i64 7]) (.int .i64 (k : Int))).run Try.prog w =
      .ok (.agg #[.int .i64 (p.bounds.getD k (0, 0, 0)).1, .int .i64 (p.bounds.getD k (0, 0, 0)).2.1, .int .i64 (p.bounds.getD k (0, 0, 0)).2.2]) w := by
  rcases (show k = 0 ∨ k = 1 ∨ k = 2 ∨ k = 3 ∨ k = 4 ∨ k = 5 ∨ k = 6 ∨ k = 7 ∨ k = 8 ∨ k = 9 ∨ k = 10 ∨ k = 11 by omega) with rfl | rfl | rfl | rfl | rfl | rfl | rfl | rfl | rfl | rfl | rfl | rfl
  all_goals kernel_rfl

theorem Pl.bounds_take (p : Pl) (k : Nat) (hk : k < 12) : ((p.bounds.take (k + 1)).all fun t => inI t.1 t.2.1 t.2.2) = ((p.bounds.take k).all (fun t => inI t.1 t.2.1 t.2.2) && inI (p.bounds.getD k (0, 0, 0)).1 (p.bounds.getD k (0, 0, 0)).2.1 (p.bounds.getD k (0, 0, 0)).2.2) := by
  have hl : k < p.bounds.length := hk
  rw [List.take_succ_eq_append_getElem hl, List.all_append]
  simp [List.getD_eq_getElem?_getD, List.getElem?_eq_getElem hl]
theorem Pl.bounds_bad {p : Pl} {k : Nat} (hk : k < 12) (h : inI (p.bounds.getD k (0, 0, 0)).1 (p.bounds.getD k (0, 0, 0)).2.1 (p.bounds.getD k (0, 0, 0)).2.2 = false) : p.validB = false := by
  rw [Pl.bounds_all]
  have hl : k < p.bounds.length := hk
  have : p.bounds.getD k (0, 0, 0) ∈ p.bounds := by simp [List.getD_eq_getElem?_getD, List.getElem?_eq_getElem hl]
  rw [List.all_eq_false]
  exact ⟨_, this, by rw [h]; decide⟩

theorem ixP0 (p : Pl) (m : Int) (w : World) :
    (Instr.index 99 (.agg #[.int .i64 p.top, .int .i64 1, .int .i64 63, .int .i64 p.bank, .int .i64 0, .int .i64 m, .int .i64 p.siphon, .int .i64 0, .int .i64 p.bank, .int .i64 p.start, .int .i64 0, .int .i64 p.top, .int .i64 p.positions, .int .i64 1, .int .i64 15,
      .int .i64 p.rate, .int .i64 1, .int .i64 15, .int .i64 p.step, .int .i64 1, .int .i64 15, .int .i64 p.pass, .int .i64 0, .int .i64 1048576, .int .i64 p.feed, .int .i64 0, .int .i64 15, .int .i64 p.pipe, .int .i64 0, .int .i64 2, .int .i64 p.orders, .int .i64 0, .int .i64 7, .int .i64 p.age, .int .i64 0, .int .i64 7]) (.int .i64 0)).run Try.prog w =
      .ok (.agg #[.int .i64 p.top, .int .i64 1, .int .i64 63]) w := by kernel_rfl
theorem Pl.invalid_top {p : Pl} (h : p.top < 1 ∨ 63 < p.top) : p.validB = false := decide_eq_false fun v => by have := v.top; omega
theorem Pl.check_bad {p : Pl} (h : p.validB = false) : p.checkT = 320 := by rw [Pl.checkT, h]; rfl

end Go.Proofs.Ytcjcjkomcolgeaa
