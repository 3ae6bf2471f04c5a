/- The law CascadeOne. (Printed by pp.py.) No condition. -/
import Derived.Test.YtcjcjkomcolgeaaQEC
import Derived.Test.YtcjcjkomcolgeaaQED
import Derived.Test.YtcjcjkomcolgeaaQEV
set_option linter.unusedVariables false
set_option linter.unusedSimpArgs false
namespace Go.Proofs.Ytcjcjkomcolgeaa
open Go.RowKit
attribute [local go_sem ↓ high] app_named

set_option maxRecDepth 100000 in
set_option maxHeartbeats 4000000 in
theorem law_CascadeOne (p : Pl) (c : List Ln) (Vv : Value) (l : List Hr) (Vl : Value) (w : World) (hc : CodeAt w w.heap.size Vv c) (hl : HrsAt w w.heap.size Vl l) : Calls Try.prog 7 #[p.v, .agg #[Vv], Vl] w fun e w' => e = .returned (.bool true) ∧ Below w.heap.size w w' := by
  obtain ⟨Av, kv, rfl, -⟩ := hc.form
  obtain ⟨Al, kl, rfl, -⟩ := hl.form
  obtain ⟨nc, hnc⟩ : ∃ n, c.length = n := ⟨_, rfl⟩
  obtain ⟨m, hm⟩ : ∃ n, l.length = n := ⟨_, rfl⟩
  rw [hm] at hl ⊢
  rw [hnc] at hc ⊢
  have HC0 := Lib.hid hc
  have HL0 := Lib.hid hl
  have HM := Lib.hid hm
  clear hc hl hm hnc
  have hB := ((Below.refl w.heap.size w).alloc (Nat.le_refl _) (.cells #[.int .i64 p.top, .int .i64 p.bank, .int .i64 p.siphon, .int .i64 p.start, .int .i64 p.positions, .int .i64 p.rate, .int .i64 p.step, .int .i64 p.pass, .int .i64 p.feed, .int .i64 p.pipe, .int .i64 p.orders, .int .i64 p.age] 55)).alloc (by simp) (.cells #[.slice Av nc kv] 63)
  have X3 := (Box.new w [.int .i64 p.top, .int .i64 p.bank, .int .i64 p.siphon, .int .i64 p.start, .int .i64 p.positions, .int .i64 p.rate, .int .i64 p.step, .int .i64 p.pass, .int .i64 p.feed, .int .i64 p.pipe, .int .i64 p.orders, .int .i64 p.age] 55).alloc (.cells #[.slice Av nc kv] 63)
  have X4 := Box.newAt (w := w.alloc (.cells #[.int .i64 p.top, .int .i64 p.bank, .int .i64 p.siphon, .int .i64 p.start, .int .i64 p.positions, .int .i64 p.rate, .int .i64 p.step, .int .i64 p.pass, .int .i64 p.feed, .int .i64 p.pipe, .int .i64 p.orders, .int .i64 p.age] 55)) (n := w.heap.size + 1) [.slice Av nc kv] 63 (by simp)
  go_enter Try.func7, Try.ntmps7
  go_wp2_with fail
  generalize (w.alloc (.cells #[.int .i64 p.top, .int .i64 p.bank, .int .i64 p.siphon, .int .i64 p.start, .int .i64 p.positions, .int .i64 p.rate, .int .i64 p.step, .int .i64 p.pass, .int .i64 p.feed, .int .i64 p.pipe, .int .i64 p.orders, .int .i64 p.age] 55)).alloc (.cells #[.slice Av nc kv] 63) = w1 at hB X3 X4 ⊢
  refine (lSane_any w1).mono ?_
  rintro e w2 ⟨rfl, hb⟩
  have hB := hB.trans (hb.mono hB.size)
  have X3 := X3.later hb
  have X4 := X4.later hb
  clear hb
  have z3 := X3.lt
  have z4 := X4.lt
  have X3c0 : w2.cell? ⟨w.heap.size, 0, none⟩ = some (.int .i64 p.top) := X3.cell 0
  have X3c1 : w2.cell? ⟨w.heap.size, 1, none⟩ = some (.int .i64 p.bank) := X3.cell 1
  have X3c2 : w2.cell? ⟨w.heap.size, 2, none⟩ = some (.int .i64 p.siphon) := X3.cell 2
  have X3c3 : w2.cell? ⟨w.heap.size, 3, none⟩ = some (.int .i64 p.start) := X3.cell 3
  have X3c4 : w2.cell? ⟨w.heap.size, 4, none⟩ = some (.int .i64 p.positions) := X3.cell 4
  have X3c5 : w2.cell? ⟨w.heap.size, 5, none⟩ = some (.int .i64 p.rate) := X3.cell 5
  have X3c6 : w2.cell? ⟨w.heap.size, 6, none⟩ = some (.int .i64 p.step) := X3.cell 6
  have X3c7 : w2.cell? ⟨w.heap.size, 7, none⟩ = some (.int .i64 p.pass) := X3.cell 7
  have X3c8 : w2.cell? ⟨w.heap.size, 8, none⟩ = some (.int .i64 p.feed) := X3.cell 8
  have X3c9 : w2.cell? ⟨w.heap.size, 9, none⟩ = some (.int .i64 p.pipe) := X3.cell 9
  have X3c10 : w2.cell? ⟨w.heap.size, 10, none⟩ = some (.int .i64 p.orders) := X3.cell 10
  have X3c11 : w2.cell? ⟨w.heap.size, 11, none⟩ = some (.int .i64 p.age) := X3.cell 11
  have X4c0 : w2.cell? ⟨w.heap.size + 1, 0, none⟩ = some (.slice Av nc kv) := X4.cell 0
  have z31 : w.heap.size < w2.heap.size + 1 := by omega
  have z41 : w.heap.size + 1 < w2.heap.size + 1 := by omega
  go_upto_region 4 with fail
  clear z3 z4 z31 z41 X3c0 X3c1 X3c2 X3c3 X3c4 X3c5 X3c6 X3c7 X3c8 X3c9 X3c10 X3c11 X4c0
  have hal := ((((Below.refl w2.heap.size w2).alloc (Nat.le_refl _) (.cells #[.int .i64 p.top, .int .i64 p.bank, .int .i64 p.siphon, .int .i64 p.start, .int .i64 p.positions, .int .i64 p.rate, .int .i64 p.step, .int .i64 p.pass, .int .i64 p.feed, .int .i64 p.pipe, .int .i64 p.orders, .int .i64 p.age] 55)).alloc (by simp) (.cells #[.slice Av nc kv] 63)).alloc (by simp <;> omega) (.cells #[.slice none 0 0] 57)).alloc (by simp <;> omega) (.cells #[.slice (some ⟨w2.heap.size, 0, none⟩) 1 1, .slice (some ⟨w2.heap.size + 1, 0, none⟩) 1 1, .slice (some ⟨w2.heap.size + 1 + 1, 0, none⟩) 1 1] 26)
  have XA := (((Box.new w2 [.int .i64 p.top, .int .i64 p.bank, .int .i64 p.siphon, .int .i64 p.start, .int .i64 p.positions, .int .i64 p.rate, .int .i64 p.step, .int .i64 p.pass, .int .i64 p.feed, .int .i64 p.pipe, .int .i64 p.orders, .int .i64 p.age] 55).alloc (.cells #[.slice Av nc kv] 63)).alloc (.cells #[.slice none 0 0] 57)).alloc (.cells #[.slice (some ⟨w2.heap.size, 0, none⟩) 1 1, .slice (some ⟨w2.heap.size + 1, 0, none⟩) 1 1, .slice (some ⟨w2.heap.size + 1 + 1, 0, none⟩) 1 1] 26)
  have XB := ((Box.newAt (w := w2.alloc (.cells #[.int .i64 p.top, .int .i64 p.bank, .int .i64 p.siphon, .int .i64 p.start, .int .i64 p.positions, .int .i64 p.rate, .int .i64 p.step, .int .i64 p.pass, .int .i64 p.feed, .int .i64 p.pipe, .int .i64 p.orders, .int .i64 p.age] 55)) (n := w2.heap.size + 1) [.slice Av nc kv] 63 (by simp)).alloc (.cells #[.slice none 0 0] 57)).alloc (.cells #[.slice (some ⟨w2.heap.size, 0, none⟩) 1 1, .slice (some ⟨w2.heap.size + 1, 0, none⟩) 1 1, .slice (some ⟨w2.heap.size + 1 + 1, 0, none⟩) 1 1] 26)
  have XN := (Box.newAt (w := (w2.alloc (.cells #[.int .i64 p.top, .int .i64 p.bank, .int .i64 p.siphon, .int .i64 p.start, .int .i64 p.positions, .int .i64 p.rate, .int .i64 p.step, .int .i64 p.pass, .int .i64 p.feed, .int .i64 p.pipe, .int .i64 p.orders, .int .i64 p.age] 55)).alloc (.cells #[.slice Av nc kv] 63)) (n := w2.heap.size + 1 + 1) [.slice none 0 0] 57 (by simp)).alloc (.cells #[.slice (some ⟨w2.heap.size, 0, none⟩) 1 1, .slice (some ⟨w2.heap.size + 1, 0, none⟩) 1 1, .slice (some ⟨w2.heap.size + 1 + 1, 0, none⟩) 1 1] 26)
  have X7 := Box.newAt (w := ((w2.alloc (.cells #[.int .i64 p.top, .int .i64 p.bank, .int .i64 p.siphon, .int .i64 p.start, .int .i64 p.positions, .int .i64 p.rate, .int .i64 p.step, .int .i64 p.pass, .int .i64 p.feed, .int .i64 p.pipe, .int .i64 p.orders, .int .i64 p.age] 55)).alloc (.cells #[.slice Av nc kv] 63)).alloc (.cells #[.slice none 0 0] 57)) (n := w2.heap.size + 1 + 1 + 1) [.slice (some ⟨w2.heap.size, 0, none⟩) 1 1, .slice (some ⟨w2.heap.size + 1, 0, none⟩) 1 1, .slice (some ⟨w2.heap.size + 1 + 1, 0, none⟩) 1 1] 26 (by simp)
  have X3 := X3.later hal
  have X4 := X4.later hal
  have hB := hB.trans (hal.mono hB.size)
  clear hal
  generalize (((w2.alloc (.cells #[.int .i64 p.top, .int .i64 p.bank, .int .i64 p.siphon, .int .i64 p.start, .int .i64 p.positions, .int .i64 p.rate, .int .i64 p.step, .int .i64 p.pass, .int .i64 p.feed, .int .i64 p.pipe, .int .i64 p.orders, .int .i64 p.age] 55)).alloc (.cells #[.slice Av nc kv] 63)).alloc (.cells #[.slice none 0 0] 57)).alloc (.cells #[.slice (some ⟨w2.heap.size, 0, none⟩) 1 1, .slice (some ⟨w2.heap.size + 1, 0, none⟩) 1 1, .slice (some ⟨w2.heap.size + 1 + 1, 0, none⟩) 1 1] 26) = w3 at XA XB XN X7 X3 X4 hB ⊢
  generalize w2.heap.size = D at XA XB XN X7 ⊢
  have HX := Lib.hid (one_at XA XB XN (HC0.out.later hB))
  clear XA XB XN
  have z7 := X7.lt
  have X7c0 : w3.cell? ⟨D + 1 + 1 + 1, 0, none⟩ = some (.slice (some ⟨D, 0, none⟩) 1 1) := X7.cell 0
  have X7c1 : w3.cell? ⟨D + 1 + 1 + 1, 1, none⟩ = some (.slice (some ⟨D + 1, 0, none⟩) 1 1) := X7.cell 1
  have X7c2 : w3.cell? ⟨D + 1 + 1 + 1, 2, none⟩ = some (.slice (some ⟨D + 1 + 1, 0, none⟩) 1 1) := X7.cell 2
  go_wp2_with fail
  refine (rCsFew_at HX.out).mono ?_
  rintro e w4 ⟨t, rfl, hb⟩
  have hB := hB.trans (hb.mono hB.size)
  have X3 := X3.later hb
  have X4 := X4.later hb
  have X7 := X7.later hb
  have HX := Lib.hid (HX.out.later hb)
  clear hb z7 X7c0 X7c1 X7c2
  cases t with
  | false =>
    go_wp2
    go_ret
    exact ⟨rfl, hB⟩
  | true =>
    by_cases h24 : m ≤ 24
    rotate_left
    · have hd : decide ((24 : Int) < (m : Int)) = true := decide_eq_true (by omega)
      have hd2 : (24 : Int) < (m : Int) := by omega
      go_wp2
      go_ret
      exact ⟨rfl, hB⟩
    have hd : decide ((24 : Int) < (m : Int)) = false := decide_eq_false (by omega)
    have hd2 : ¬ ((24 : Int) < (m : Int)) := by omega
    obtain ⟨ck, hck⟩ : ∃ ck, Hid ((oneC p c).checkT = ck) := ⟨_, Lib.hid rfl⟩
    have z7 := X7.lt
    have X7c0 : w4.cell? ⟨D + 1 + 1 + 1, 0, none⟩ = some (.slice (some ⟨D, 0, none⟩) 1 1) := X7.cell 0
    have X7c1 : w4.cell? ⟨D + 1 + 1 + 1, 1, none⟩ = some (.slice (some ⟨D + 1, 0, none⟩) 1 1) := X7.cell 1
    have X7c2 : w4.cell? ⟨D + 1 + 1 + 1, 2, none⟩ = some (.slice (some ⟨D + 1 + 1, 0, none⟩) 1 1) := X7.cell 2
    go_wp2_with fail
    refine (mCheck_is hck HX.out).mono ?_
    rintro e w5 ⟨rfl, hb⟩
    have hB := hB.trans (hb.mono hB.size)
    have X3 := X3.later hb
    have X4 := X4.later hb
    have X7 := X7.later hb
    have HX := Lib.hid (HX.out.later hb)
    clear hb z7 X7c0 X7c1 X7c2 hd hd2
    have z3 := X3.lt
    have z4 := X4.lt
    have X3c0 : w5.cell? ⟨w.heap.size, 0, none⟩ = some (.int .i64 p.top) := X3.cell 0
    have X3c1 : w5.cell? ⟨w.heap.size, 1, none⟩ = some (.int .i64 p.bank) := X3.cell 1
    have X3c2 : w5.cell? ⟨w.heap.size, 2, none⟩ = some (.int .i64 p.siphon) := X3.cell 2
    have X3c3 : w5.cell? ⟨w.heap.size, 3, none⟩ = some (.int .i64 p.start) := X3.cell 3
    have X3c4 : w5.cell? ⟨w.heap.size, 4, none⟩ = some (.int .i64 p.positions) := X3.cell 4
    have X3c5 : w5.cell? ⟨w.heap.size, 5, none⟩ = some (.int .i64 p.rate) := X3.cell 5
    have X3c6 : w5.cell? ⟨w.heap.size, 6, none⟩ = some (.int .i64 p.step) := X3.cell 6
    have X3c7 : w5.cell? ⟨w.heap.size, 7, none⟩ = some (.int .i64 p.pass) := X3.cell 7
    have X3c8 : w5.cell? ⟨w.heap.size, 8, none⟩ = some (.int .i64 p.feed) := X3.cell 8
    have X3c9 : w5.cell? ⟨w.heap.size, 9, none⟩ = some (.int .i64 p.pipe) := X3.cell 9
    have X3c10 : w5.cell? ⟨w.heap.size, 10, none⟩ = some (.int .i64 p.orders) := X3.cell 10
    have X3c11 : w5.cell? ⟨w.heap.size, 11, none⟩ = some (.int .i64 p.age) := X3.cell 11
    have X4c0 : w5.cell? ⟨w.heap.size + 1, 0, none⟩ = some (.slice Av nc kv) := X4.cell 0
    by_cases hc0 : ck = 0
    rotate_left
    · have he : (ck != 0) = true := by simp [hc0]
      obtain ⟨cp, hcp⟩ : ∃ cp, Hid (p.checkT = cp) := ⟨_, Lib.hid rfl⟩
      obtain ⟨cg, hcg⟩ : ∃ cg, Hid (gateT c = cg) := ⟨_, Lib.hid rfl⟩
      have hone := one_check (p := p) (c := c)
      rw [hck.out, hcp.out, hcg.out] at hone
      have HO := Lib.hid hone
      clear hone
      have c1 : ∀ z : Later w5, Calls Try.prog 22 #[.agg #[.int .i64 p.top, .int .i64 p.bank, .int .i64 p.siphon, .int .i64 p.start, .int .i64 p.positions, .int .i64 p.rate, .int .i64 p.step, .int .i64 p.pass, .int .i64 p.feed, .int .i64 p.pipe, .int .i64 p.orders, .int .i64 p.age]] z.w (fun e w' => e = .returned (.int .i64 cp) ∧ Below z.w.heap.size z.w w') := fun z => check_at hcp z.w
      have c2 : ∀ z : Later w5, Calls Try.prog 23 #[.agg #[.slice Av nc kv]] z.w (fun e w' => e = .returned (.int .i64 cg) ∧ Below z.w.heap.size z.w w') := fun z => gcheck_at hcg ((HC0.out.later hB).later z.below)
      have u0 : ∀ z : Later w5, z.w.cell? ⟨w.heap.size + 1, 0, none⟩ = some (.slice Av nc kv) := Later.cell X4c0 z4
      have f0 : ∀ z : Later w5, z.w.cell? ⟨w.heap.size, 0, none⟩ = some (.int .i64 p.top) := Later.cell X3c0 z3
      have f1 : ∀ z : Later w5, z.w.cell? ⟨w.heap.size, 1, none⟩ = some (.int .i64 p.bank) := Later.cell X3c1 z3
      have f2 : ∀ z : Later w5, z.w.cell? ⟨w.heap.size, 2, none⟩ = some (.int .i64 p.siphon) := Later.cell X3c2 z3
      have f3 : ∀ z : Later w5, z.w.cell? ⟨w.heap.size, 3, none⟩ = some (.int .i64 p.start) := Later.cell X3c3 z3
      have f4 : ∀ z : Later w5, z.w.cell? ⟨w.heap.size, 4, none⟩ = some (.int .i64 p.positions) := Later.cell X3c4 z3
      have f5 : ∀ z : Later w5, z.w.cell? ⟨w.heap.size, 5, none⟩ = some (.int .i64 p.rate) := Later.cell X3c5 z3
      have f6 : ∀ z : Later w5, z.w.cell? ⟨w.heap.size, 6, none⟩ = some (.int .i64 p.step) := Later.cell X3c6 z3
      have f7 : ∀ z : Later w5, z.w.cell? ⟨w.heap.size, 7, none⟩ = some (.int .i64 p.pass) := Later.cell X3c7 z3
      have f8 : ∀ z : Later w5, z.w.cell? ⟨w.heap.size, 8, none⟩ = some (.int .i64 p.feed) := Later.cell X3c8 z3
      have f9 : ∀ z : Later w5, z.w.cell? ⟨w.heap.size, 9, none⟩ = some (.int .i64 p.pipe) := Later.cell X3c9 z3
      have f10 : ∀ z : Later w5, z.w.cell? ⟨w.heap.size, 10, none⟩ = some (.int .i64 p.orders) := Later.cell X3c10 z3
      have f11 : ∀ z : Later w5, z.w.cell? ⟨w.heap.size, 11, none⟩ = some (.int .i64 p.age) := Later.cell X3c11 z3
      go_upto_region 8 with fail
      refine wp_region_later (by kernel_rfl) (by kernel_rfl) ?_
      repeat (first | go_big_quiet_skip | (show wpQuiet _ _ _ _ (_ :: _) _; go_big_quiet_skip) | (show wpQuiet _ _ _ _ (_ :: _) _; go_big_quiet_want; go_big_quiet_op; first | go_big_quiet_on | go_big_quiet_call (first | (go_at_call 22; exact Later.call _ (c1 _)) | (go_at_call 23; exact Later.call _ (c2 _)))))
      refine wpQuiet_nil ?_
      intro _ hw'
      obtain ⟨yq, hw''⟩ := hw'
      subst hw''
      have hB := hB.trans (yq.below.mono hB.size)
      by_cases h0 : cp = 0
      · subst h0
        have hO := HO.out
        rw [if_pos rfl] at hO
        subst hO
        have h1 : (ck == 0) = false := by simp [hc0]
        have h2 : (ck == ck) = true := by simp
        go_wp2
        go_ret
        exact ⟨rfl, hB⟩
      · have hO := HO.out
        rw [if_neg h0] at hO
        subst hO
        have h2 : (ck == ck) = true := by simp
        go_wp2
        go_ret
        exact ⟨rfl, hB⟩
    subst hc0
    have hR := Lib.hid (cs_right hck.out)
    have hpl : (oneC p c).plants.length = 1 := rfl
    rw [hpl] at hR
    have hcp : Hid (p.checkT = 0) := Lib.hid (hR.out.gate 0 (by omega)).1
    obtain ⟨s0, et, hbt⟩ : ∃ t et, Hid (p.beginT = (t, et)) := ⟨_, _, Lib.hid rfl⟩
    have het := begin_ok hcp.out
    rw [hbt.out] at het
    dsimp only at het
    subst het
    go_wp2_with fail
    refine (begin_is hbt).mono ?_
    rintro e w6 ⟨rfl, hb⟩
    have hB := hB.trans (hb.mono hB.size)
    have X3 := X3.later hb
    have X4 := X4.later hb
    have X7 := X7.later hb
    have HX := Lib.hid (HX.out.later hb)
    clear hb z3 z4 X4c0 X3c0 X3c1 X3c2 X3c3 X3c4 X3c5 X3c6 X3c7 X3c8 X3c9 X3c10 X3c11 hpl
    go_upto_region 15 with fail
    -- LOOP
    have XS := Box.new w6 [.int .i64 s0.level, .int .i64 s0.position, .int .i64 s0.p0, .int .i64 s0.p1, .int .i64 s0.order, .int .i64 s0.age] 51
    have hal := (Below.refl w6.heap.size w6).alloc (Nat.le_refl _) (.cells #[.int .i64 s0.level, .int .i64 s0.position, .int .i64 s0.p0, .int .i64 s0.p1, .int .i64 s0.order, .int .i64 s0.age] 51)
    have hsz : w6.heap.size + 1 ≤ (w6.alloc (.cells #[.int .i64 s0.level, .int .i64 s0.position, .int .i64 s0.p0, .int .i64 s0.p1, .int .i64 s0.order, .int .i64 s0.age] 51)).heap.size := XS.lt
    have hR0 : Hid (Row (w6.alloc (.cells #[.int .i64 s0.level, .int .i64 s0.position, .int .i64 s0.p0, .int .i64 s0.p1, .int .i64 s0.order, .int .i64 s0.age] 51)) (w6.heap.size + 1) (.slice none 0 0) []) := Lib.hid (Row.nil _ _)
    have hs0 : Hid (oneSt p c (l.map (oneC p c).stepT) 0 = s0) := Lib.hid (by rw [oneSt, hbt.out])
    have hSV : Hid ((l.map (oneC p c).stepT).all (oneC p c).stepB = true) := Lib.hid (steps_ok hR.out HL0.out.ok)
    generalize w6.alloc (.cells #[.int .i64 s0.level, .int .i64 s0.position, .int .i64 s0.p0, .int .i64 s0.p1, .int .i64 s0.order, .int .i64 s0.age] 51) = w7 at XS hal hsz hR0 ⊢
    go_loopw [13, 69] (fun s13 s wr => ∃ (i : Nat) (V : Value) (L : List Sq) (s0 : St), i ≤ m ∧ V = s13 ∧ s = .int .i64 i ∧ Hid (Row wr (w6.heap.size + 1) V L) ∧ Hid (L.map (·.s) = (l.take i).map (oneC p c).stepT) ∧ Hid (oneSt p c (l.map (oneC p c).stepT) i = s0) ∧ Box wr w6.heap.size [.int .i64 s0.level, .int .i64 s0.position, .int .i64 s0.p0, .int .i64 s0.p1, .int .i64 s0.order, .int .i64 s0.age] ∧ Below w6.heap.size w6 wr ∧ w6.heap.size + 1 ≤ wr.heap.size) (fun _ s _ => m - (intOf s).toNat)
    case atStart => exact ⟨0, _, [], s0, by omega, rfl, rfl, hR0, Lib.hid rfl, hs0, XS, hal, hsz⟩
    case round =>
      clear hR0 XS hal hsz hs0 hbt
      obtain ⟨i, V, L, s0, hi, rfl, rfl, HR, HS, HST, XS, hb, hsz⟩ := hrel
      obtain ⟨wo, rfl⟩ : ∃ wo : World, wo = wr := ⟨_, rfl⟩
      rcases Nat.lt_or_ge i m with hlt | hge
      rotate_left
      · have hi3 : ¬ ((i : Int) < (m : Int)) := by omega
        go_wp2
        go_ret
        exact ⟨rfl, hB.trans (hb.mono hB.size)⟩
      have hi3 : (i : Int) < (m : Int) := by omega
      have hil : i < l.length := by rw [HM.out]; exact hlt
      obtain ⟨gb, og, M, Q, rfl, hgb, c0, c1, c2, hf01, hM, hK⟩ := HL0.out.hour (k := i) hil
      have hok := HL0.out.ok _ (List.getElem_mem hil)
      obtain ⟨am, cm, rfl, -⟩ := hM.form
      obtain ⟨ak, ck, rfl, -⟩ := hK.form
      obtain ⟨h, hh⟩ : ∃ h, l[i] = h := ⟨_, rfl⟩
      rw [hh] at c0 c1 c2 hM hK hok
      obtain ⟨nm, hnm⟩ : ∃ n, h.msgs.length = n := ⟨_, rfl⟩
      obtain ⟨nk, hnk⟩ : ∃ n, h.stuck.length = n := ⟨_, rfl⟩
      obtain ⟨f, hf⟩ : ∃ n, h.feed = n := ⟨_, rfl⟩
      rw [hnm] at c1 hM
      rw [hnk] at c2 hK
      rw [hf] at c0
      have HH := Lib.hid hh
      have HNM := Lib.hid hnm
      have HNK := Lib.hid hnk
      have HF := Lib.hid hf
      have HOK := Lib.hid hok
      have HUM := Lib.hid hM
      have HUK := Lib.hid hK
      clear hh hnm hnk hf hok hM hK hf01
      have hBo := hB.trans (hb.mono hB.size)
      have c0 := (hBo.cell hgb).trans c0
      have c1 := (hBo.cell hgb).trans c1
      have c2 := (hBo.cell hgb).trans c2
      have hgz := Nat.lt_of_lt_of_le hgb hBo.size
      go_upto_region 17 with fail
      have Y := Box.new wo [.int .u8 f, .slice am nm cm, .slice ak nk ck] 48
      have hal := (Below.refl wo.heap.size wo).alloc (Nat.le_refl _) (.cells #[.int .u8 f, .slice am nm cm, .slice ak nk ck] 48)
      have XS := XS.later hal
      have HR := Lib.hid (HR.out.later hal)
      have hb := hb.trans (hal.mono hb.size)
      have hsz := Nat.le_trans hsz hal.size
      clear hal c0 c1 c2 hgz hBo
      generalize wo.alloc (.cells #[.int .u8 f, .slice am nm cm, .slice ak nk ck] 48) = wa at Y XS HR hb hsz ⊢
      generalize wo.heap.size = D1 at Y ⊢
      have X7a := X7.later hb
      have z1 := X7a.lt
      have zy := Y.lt
      have X7ac0 : wa.cell? ⟨D + 1 + 1 + 1, 0, none⟩ = some (.slice (some ⟨D, 0, none⟩) 1 1) := X7a.cell 0
      have X7ac1 : wa.cell? ⟨D + 1 + 1 + 1, 1, none⟩ = some (.slice (some ⟨D + 1, 0, none⟩) 1 1) := X7a.cell 1
      have X7ac2 : wa.cell? ⟨D + 1 + 1 + 1, 2, none⟩ = some (.slice (some ⟨D + 1 + 1, 0, none⟩) 1 1) := X7a.cell 2
      have Yc0 : wa.cell? ⟨D1, 0, none⟩ = some (.int .u8 f) := Y.cell 0
      have Yc1 : wa.cell? ⟨D1, 1, none⟩ = some (.slice am nm cm) := Y.cell 1
      have Yc2 : wa.cell? ⟨D1, 2, none⟩ = some (.slice ak nk ck) := Y.cell 2
      have HRw := HR
      have hBa := hB.trans (hb.mono hB.size)
      go_wp2_with fail
      refine (lStep_is (oneC p c) 1 h (some ⟨D, 0, none⟩) (some ⟨D + 1, 0, none⟩) (some ⟨D + 1 + 1, 0, none⟩) am ak 1 1 1 cm ck nm nk wa hR (Lib.hid (HX.out.later hb)) HOK (Lib.hid ((HUM.out.below hBa).more hBa.size)) HNM (Lib.hid ((HUK.out.below hBa).more hBa.size)) HNK f HF).mono ?_
      rintro e w2 ⟨M2, K2, B2, rfl, hB2, hT2, hw2⟩
      have hb := hb.trans (hw2.mono hb.size)
      have XS := XS.later hw2
      have HR := Lib.hid (HR.out.later hw2)
      have hsz := Nat.le_trans hsz hw2.size
      have hwa := hw2.size
      clear hw2 z1 zy X7ac0 X7ac1 X7ac2 Yc0 Yc1 Yc2 Y X7a hBa
      have e1 : ((oneC p c).stepT h).msgs.length = 1 := rfl
      have e2 : ((oneC p c).stepT h).stuck.length = 1 := rfl
      obtain ⟨bM, cM, eM, hcM⟩ := hT2.m.cap (by omega)
      obtain ⟨bK, cK, eK, hcK⟩ := hT2.k.cap (by omega)
      rw [e1] at eM
      rw [e2] at eK
      subst eM eK
      have HT2 := Lib.hid hT2
      clear hT2 hcM hcK
      go_upto_region 18 with fail
      have XD := Box.new w2 [.int .i64 ((oneC p c).stepT h).feed, .slice (some ⟨bM, 0, none⟩) 1 cM, .slice (some ⟨bK, 0, none⟩) 1 cK] 44
      have hal := (Below.refl w2.heap.size w2).alloc (Nat.le_refl _) (.cells #[.int .i64 ((oneC p c).stepT h).feed, .slice (some ⟨bM, 0, none⟩) 1 cM, .slice (some ⟨bK, 0, none⟩) 1 cK] 44)
      have hPB : ∀ b, V.ownBlock = some b → b < wa.heap.size := fun b hb => HRw.out.own.block_lt hb
      have XS := XS.later hal
      have HR := Lib.hid (HR.out.later hal)
      have HT2 := Lib.hid (HT2.out.later hal)
      have hb := hb.trans (hal.mono hb.size)
      have hsz := Nat.le_trans hsz hal.size
      have hwD : wa.heap.size ≤ w2.heap.size := hwa
      clear hal HRw
      generalize w2.alloc (.cells #[.int .i64 ((oneC p c).stepT h).feed, .slice (some ⟨bM, 0, none⟩) 1 cM, .slice (some ⟨bK, 0, none⟩) 1 cK] 44) = w3 at XD XS HR HT2 hb hsz ⊢
      generalize w2.heap.size = D2 at XD hwD ⊢
      obtain ⟨q1, q2, q3⟩ := Two.row HR.out HT2.out (by omega) (fun b hb => by have := hPB b hb; omega)
      have XN := Box.new w3 [.int .i64 ((oneC p c).stepT h).feed, .slice (some ⟨bM, 0, none⟩) 1 cM, .slice (some ⟨bK, 0, none⟩) 1 cK] 44
      have hal := (Below.refl w3.heap.size w3).alloc (Nat.le_refl _) (.cells #[.int .i64 ((oneC p c).stepT h).feed, .slice (some ⟨bM, 0, none⟩) 1 cM, .slice (some ⟨bK, 0, none⟩) 1 cK] 44)
      have hRa := HR.out.later hal
      have hsal := hal.size
      have hLl : L.length = i := by
        have := congrArg List.length HS.out
        rw [List.length_map, List.length_map, List.length_take] at this
        omega
      obtain ⟨g1, c1, w4, hr, hR1, hs4, hbx, hbb⟩ := hRa.step ⟨.slice (some ⟨bM, 0, none⟩) 1 cM, .slice (some ⟨bK, 0, none⟩) 1 cK, (oneC p c).stepT h⟩ ⟨q1.1.later hal, q1.2.later hal⟩ q2 q3 33 XN (by omega) (by omega)
      have hHS : Hid ((L ++ [(⟨.slice (some ⟨bM, 0, none⟩) 1 cM, .slice (some ⟨bK, 0, none⟩) 1 cK, (oneC p c).stepT h⟩ : Sq)]).map (·.s) = (l.take (i + 1)).map (oneC p c).stepT) := Lib.hid (by rw [List.map_append, HS.out, take_snoc_map hil, HH.out]; rfl)
      rw [hLl] at hr hR1
      have XD4 := hbx D2 _ (XD.later hal) (fun c hc => by have := hPB c hc; omega)
      have XS4 := hbx _ _ (XS.later hal) (fun c hc => by have := hRa.own.block_ge hc; omega)
      have hb4 := hbb _ _ (hb.trans (hal.mono hb.size)) (by omega)
      have hsz4 : w6.heap.size + 1 ≤ w4.heap.size := by omega
      have hq4 := hR1.msg _ (List.mem_append_right _ (List.mem_singleton.2 rfl))
      have HQ4 := Lib.hid hq4
      have HR1 := Lib.hid hR1
      generalize hL3 : L ++ [(⟨.slice (some ⟨bM, 0, none⟩) 1 cM, .slice (some ⟨bK, 0, none⟩) 1 cK, (oneC p c).stepT h⟩ : Sq)] = L3 at HR1 hHS
      clear hL3 hR1 hbx hbb hRa XN hal hsal hPB q1 q2 q3 hq4 hs4 HT2 HR XS
      have xd0 : w3.cell? ⟨D2, 0, none⟩ = some (.int .i64 ((oneC p c).stepT h).feed) := XD.cell 0
      have xd1 : w3.cell? ⟨D2, 1, none⟩ = some (.slice (some ⟨bM, 0, none⟩) 1 cM) := XD.cell 1
      have xd2 : w3.cell? ⟨D2, 2, none⟩ = some (.slice (some ⟨bK, 0, none⟩) 1 cK) := XD.cell 2
      have xdz := XD.lt
      go_upto_region 19 with fail
      clear xd0 xd1 xd2 xdz hr XD hb hsz
      have X4a := X4.later hb4
      have z4 := X4a.lt
      have X4c0 : w4.cell? ⟨w.heap.size + 1, 0, none⟩ = some (.slice Av nc kv) := X4a.cell 0
      go_upto_region 20 with fail
      have XT := Box.new w4 [.slice Av nc kv] 63
      have hal := (Below.refl w4.heap.size w4).alloc (Nat.le_refl _) (.cells #[.slice Av nc kv] 63)
      clear X4c0 z4 X4a
      obtain ⟨o, hnx, hpos⟩ := one_step hR.out hSV.out (i := i) (by rw [List.length_map]; exact hil)
      simp only [List.getElem_map, HH.out, HST.out] at hnx hpos
      obtain ⟨s1, hs1⟩ : ∃ s1, oneSt p c (l.map (oneC p c).stepT) (i + 1) = s1 := ⟨_, rfl⟩
      rw [hs1] at hnx hpos
      have HS1 := Lib.hid hs1
      clear hs1
      have hkc : w4.cell? ⟨bK, 0, none⟩ = some (.bool (((oneC p c).stepT h).stuck.getD 0 false)) := by
        obtain ⟨b2, o2, ea, _, h2⟩ := BoolL.at (A := some ⟨bK, 0, none⟩) (n := 1) (c := cK) (HQ4.out.2.boolL (by rw [e2]; decide)) (k := 0) (by rw [e2]; omega)
        cases ea
        rw [getD_at (by rw [e2]; omega)]
        exact h2
      have hkz : bK < w4.heap.size := HQ4.out.2.block_lt rfl
      have hmc : w4.cell? ⟨bM, 0, none⟩ = some (.int .i64 (((oneC p c).stepT h).msgs.getD 0 0)) := by
        obtain ⟨b2, o2, ea, _, h2⟩ := IntL.at (A := some ⟨bM, 0, none⟩) (n := 1) (c := cM) (HQ4.out.1.intL (by rw [e1]; decide)) (k := 0) (by rw [e1]; omega)
        cases ea
        rw [getD_at (by rw [e1]; omega)]
        exact h2
      have hmz : bM < w4.heap.size := HQ4.out.1.block_lt rfl
      clear HQ4 e1 e2
      generalize ((oneC p c).stepT h).stuck.getD 0 false = B at hkc hnx hpos
      generalize ((oneC p c).stepT h).msgs.getD 0 0 = mg at hmc hnx
      generalize ((oneC p c).stepT h).feed = fd at XD4 hnx
      have HNX := Lib.hid hnx
      have HPOS := Lib.hid hpos
      clear hnx hpos
      have XDa := XD4.later hal
      have x2 : (w4.alloc (.cells #[.slice Av nc kv] 63)).cell? ⟨D2, 2, none⟩ = some (.slice (some ⟨bK, 0, none⟩) 1 cK) := XDa.cell 2
      have x2z := XDa.lt
      have hkc2 := (hal.cell hkz).trans hkc
      have hkz2 := Nat.lt_of_lt_of_le hkz hal.size
      have xt0 : (w4.alloc (.cells #[.slice Av nc kv] 63)).cell? ⟨w4.heap.size, 0, none⟩ = some (.slice Av nc kv) := XT.cell 0
      have xtf : (w4.alloc (.cells #[.slice Av nc kv] 63)).frozen? ⟨w4.heap.size, 0, none⟩ = false := XT.free 0
      have xtz := XT.lt
      generalize w4.alloc (.cells #[.slice Av nc kv] 63) = w5 at XT hal x2 x2z hkc2 hkz2 xt0 xtf xtz ⊢
      clear XDa
      go_upto_if 89 with fail
      go_cut [] (fun wx => ∃ (code : List Ln) (Aq : Option Addr) (nq kq : Nat), Hid (code = if B = true then [] else c) ∧ Hid (CodeAt wx wx.heap.size (.slice Aq nq kq) code) ∧ Box wx w4.heap.size [.slice Aq nq kq] ∧ Below w4.heap.size w4 wx)
      case first =>
        cases B with
        | true =>
          go_wp2_with fail
          go_meet
          exact ⟨[], none, 0, 0, Lib.hid rfl, Lib.hid ⟨fun _ => undef, ⟨none, 0, rfl, by decide, fun i hi => absurd hi (Nat.not_lt_zero _)⟩, fun i u hu => by cases hu⟩, XT.set 0 (.slice none 0 0), hal.setCell (p := ⟨w4.heap.size, 0, none⟩) (Nat.le_refl _) _⟩
        | false =>
          go_wp2_with fail
          go_meet
          exact ⟨c, Av, nc, kv, Lib.hid rfl, Lib.hid (HC0.out.later (hB.trans ((hb4.trans (hal.mono hb4.size)).mono hB.size))), XT, hal⟩
      case rest =>
        clear XT hal x2 x2z hkc2 hkz2 xt0 xtf xtz
        obtain ⟨code, Aq, nq, kq, hcode, HCQ, XT, hal⟩ := hcut
        have hnx := HNX.out
        rw [← hcode.out] at hnx
        have HNX := Lib.hid hnx
        clear hnx hcode
        have XS := XS4.later hal
        have XD := XD4.later hal
        have HR := Lib.hid (HR1.out.later hal)
        have hb := hb4.trans (hal.mono hb4.size)
        have hsz := Nat.le_trans hsz4 hal.size
        have hkc := (hal.cell hkz).trans hkc
        have hkz := Nat.lt_of_lt_of_le hkz hal.size
        have hmc := (hal.cell hmz).trans hmc
        have hmz := Nat.lt_of_lt_of_le hmz hal.size
        have X3a := X3.later hb
        clear XS4 XD4 HR1 hb4 hsz4 hal
        generalize w4.heap.size = D3 at XT ⊢
        obtain ⟨W, hW⟩ : ∃ W : World, W = wc := ⟨_, rfl⟩
        subst hW
        go_upto_region 22 with fail
        go_cut [18, 20] (fun s18 s20 wx => ∃ Fa, s18 = .pointer (some ⟨Fa, 0, none⟩) ∧ s20 = .int .i64 0 ∧ W.heap.size ≤ Fa ∧ Box wx Fa [.int .i64 s1.level, .int .i64 s1.position, .int .i64 s1.p0, .int .i64 s1.p1, .int .i64 s1.order, .int .i64 s1.age] ∧ Below W.heap.size W wx)
        case first =>
          have z3 := X3a.lt
          have zt := XT.lt
          have zs := XS.lt
          have zd := XD.lt
          have X3ac0 : W.cell? ⟨w.heap.size, 0, none⟩ = some (.int .i64 p.top) := X3a.cell 0
          have X3ac1 : W.cell? ⟨w.heap.size, 1, none⟩ = some (.int .i64 p.bank) := X3a.cell 1
          have X3ac2 : W.cell? ⟨w.heap.size, 2, none⟩ = some (.int .i64 p.siphon) := X3a.cell 2
          have X3ac3 : W.cell? ⟨w.heap.size, 3, none⟩ = some (.int .i64 p.start) := X3a.cell 3
          have X3ac4 : W.cell? ⟨w.heap.size, 4, none⟩ = some (.int .i64 p.positions) := X3a.cell 4
          have X3ac5 : W.cell? ⟨w.heap.size, 5, none⟩ = some (.int .i64 p.rate) := X3a.cell 5
          have X3ac6 : W.cell? ⟨w.heap.size, 6, none⟩ = some (.int .i64 p.step) := X3a.cell 6
          have X3ac7 : W.cell? ⟨w.heap.size, 7, none⟩ = some (.int .i64 p.pass) := X3a.cell 7
          have X3ac8 : W.cell? ⟨w.heap.size, 8, none⟩ = some (.int .i64 p.feed) := X3a.cell 8
          have X3ac9 : W.cell? ⟨w.heap.size, 9, none⟩ = some (.int .i64 p.pipe) := X3a.cell 9
          have X3ac10 : W.cell? ⟨w.heap.size, 10, none⟩ = some (.int .i64 p.orders) := X3a.cell 10
          have X3ac11 : W.cell? ⟨w.heap.size, 11, none⟩ = some (.int .i64 p.age) := X3a.cell 11
          have XSc0 : W.cell? ⟨w6.heap.size, 0, none⟩ = some (.int .i64 s0.level) := XS.cell 0
          have XSc1 : W.cell? ⟨w6.heap.size, 1, none⟩ = some (.int .i64 s0.position) := XS.cell 1
          have XSc2 : W.cell? ⟨w6.heap.size, 2, none⟩ = some (.int .i64 s0.p0) := XS.cell 2
          have XSc3 : W.cell? ⟨w6.heap.size, 3, none⟩ = some (.int .i64 s0.p1) := XS.cell 3
          have XSc4 : W.cell? ⟨w6.heap.size, 4, none⟩ = some (.int .i64 s0.order) := XS.cell 4
          have XSc5 : W.cell? ⟨w6.heap.size, 5, none⟩ = some (.int .i64 s0.age) := XS.cell 5
          have XDc0 : W.cell? ⟨D2, 0, none⟩ = some (.int .i64 fd) := XD.cell 0
          have XDc1 : W.cell? ⟨D2, 1, none⟩ = some (.slice (some ⟨bM, 0, none⟩) 1 cM) := XD.cell 1
          have XDc2 : W.cell? ⟨D2, 2, none⟩ = some (.slice (some ⟨bK, 0, none⟩) 1 cK) := XD.cell 2
          have XTc0 : W.cell? ⟨D3, 0, none⟩ = some (.slice Aq nq kq) := XT.cell 0
          have f0 : ∀ z : Later W, z.w.cell? ⟨w.heap.size, 0, none⟩ = some (.int .i64 p.top) := Later.cell X3ac0 z3
          have f1 : ∀ z : Later W, z.w.cell? ⟨w.heap.size, 1, none⟩ = some (.int .i64 p.bank) := Later.cell X3ac1 z3
          have f2 : ∀ z : Later W, z.w.cell? ⟨w.heap.size, 2, none⟩ = some (.int .i64 p.siphon) := Later.cell X3ac2 z3
          have f3 : ∀ z : Later W, z.w.cell? ⟨w.heap.size, 3, none⟩ = some (.int .i64 p.start) := Later.cell X3ac3 z3
          have f4 : ∀ z : Later W, z.w.cell? ⟨w.heap.size, 4, none⟩ = some (.int .i64 p.positions) := Later.cell X3ac4 z3
          have f5 : ∀ z : Later W, z.w.cell? ⟨w.heap.size, 5, none⟩ = some (.int .i64 p.rate) := Later.cell X3ac5 z3
          have f6 : ∀ z : Later W, z.w.cell? ⟨w.heap.size, 6, none⟩ = some (.int .i64 p.step) := Later.cell X3ac6 z3
          have f7 : ∀ z : Later W, z.w.cell? ⟨w.heap.size, 7, none⟩ = some (.int .i64 p.pass) := Later.cell X3ac7 z3
          have f8 : ∀ z : Later W, z.w.cell? ⟨w.heap.size, 8, none⟩ = some (.int .i64 p.feed) := Later.cell X3ac8 z3
          have f9 : ∀ z : Later W, z.w.cell? ⟨w.heap.size, 9, none⟩ = some (.int .i64 p.pipe) := Later.cell X3ac9 z3
          have f10 : ∀ z : Later W, z.w.cell? ⟨w.heap.size, 10, none⟩ = some (.int .i64 p.orders) := Later.cell X3ac10 z3
          have f11 : ∀ z : Later W, z.w.cell? ⟨w.heap.size, 11, none⟩ = some (.int .i64 p.age) := Later.cell X3ac11 z3
          have g0 : ∀ z : Later W, z.w.cell? ⟨w6.heap.size, 0, none⟩ = some (.int .i64 s0.level) := Later.cell XSc0 zs
          have g1 : ∀ z : Later W, z.w.cell? ⟨w6.heap.size, 1, none⟩ = some (.int .i64 s0.position) := Later.cell XSc1 zs
          have g2 : ∀ z : Later W, z.w.cell? ⟨w6.heap.size, 2, none⟩ = some (.int .i64 s0.p0) := Later.cell XSc2 zs
          have g3 : ∀ z : Later W, z.w.cell? ⟨w6.heap.size, 3, none⟩ = some (.int .i64 s0.p1) := Later.cell XSc3 zs
          have g4 : ∀ z : Later W, z.w.cell? ⟨w6.heap.size, 4, none⟩ = some (.int .i64 s0.order) := Later.cell XSc4 zs
          have g5 : ∀ z : Later W, z.w.cell? ⟨w6.heap.size, 5, none⟩ = some (.int .i64 s0.age) := Later.cell XSc5 zs
          have u0 : ∀ z : Later W, z.w.cell? ⟨D3, 0, none⟩ = some (.slice Aq nq kq) := Later.cell XTc0 zt
          have u1 : ∀ z : Later W, z.w.cell? ⟨D2, 0, none⟩ = some (.int .i64 fd) := Later.cell XDc0 zd
          have u2 : ∀ z : Later W, z.w.cell? ⟨D2, 1, none⟩ = some (.slice (some ⟨bM, 0, none⟩) 1 cM) := Later.cell XDc1 zd
          have u3 : ∀ z : Later W, z.w.cell? ⟨bM, 0, none⟩ = some (.int .i64 mg) := Later.cell hmc hmz
          have hd := (Below.refl W.heap.size W).drew
          have hz : ∀ w2, Below W.heap.size W w2 → Calls Try.prog 25 #[.agg #[.int .i64 p.top, .int .i64 p.bank, .int .i64 p.siphon, .int .i64 p.start, .int .i64 p.positions, .int .i64 p.rate, .int .i64 p.step, .int .i64 p.pass, .int .i64 p.feed, .int .i64 p.pipe, .int .i64 p.orders, .int .i64 p.age], .agg #[.slice Aq nq kq], .agg #[.int .i64 s0.level, .int .i64 s0.position, .int .i64 s0.p0, .int .i64 s0.p1, .int .i64 s0.order, .int .i64 s0.age], .agg #[.int .i64 fd, .int .i64 mg]] w2 (fun e w' => e = .returned (.tuple #[.agg #[.int .i64 s1.level, .int .i64 s1.position, .int .i64 s1.p0, .int .i64 s1.p1, .int .i64 s1.order, .int .i64 s1.age], .int .i64 o, .int .i64 0]) ∧ Below w2.heap.size w2 w') := fun w2 hw2 =>
            next_is (p := p) (code := code) (s := s0) (x := ⟨fd, mg⟩) (t := s1) HNX (HCQ.out.later hw2)
          refine wp_region_heads (C := fun w' => ∃ x : Later W, w' = x.w) [0, 1, 2, 3, 4, 5, 6, 7, 8, 9] (by kernel_rfl) (by kernel_rfl) (Later.mk' hd) (fun _ _ h => h) ?_
          simp only [headOps, List.filterMap_cons, List.filterMap_nil, List.getElem?_toArray, List.getElem?_cons_succ, List.getElem?_cons_zero]
          repeat (first | go_big_quiet_skip | (show wpQuiet _ _ _ _ (_ :: _) _; go_big_quiet_skip) | (show wpQuiet _ _ _ _ (_ :: _) _; go_big_quiet_want; go_big_quiet_op; go_big_quiet_on))
          refine wpQuiet_nil ?_
          clear f0 f1 f2 f3 f4 f5 f6 f7 f8 f9 f10 f11 g0 g1 g2 g3 g4 g5 u0 u1 u2 u3
          clear X3ac0 X3ac1 X3ac2 X3ac3 X3ac4 X3ac5 X3ac6 X3ac7 X3ac8 X3ac9 X3ac10 X3ac11 XSc0 XSc1 XSc2 XSc3 XSc4 XSc5 XDc0 XDc1 XDc2 XTc0
          have ha := ((Below.refl W.heap.size W).alloc (Nat.le_refl _) (.cells #[.int .i64 0, .int .i64 0, .int .i64 0, .int .i64 0, .int .i64 0, .int .i64 0] 51)).drew
          have XZ := (Box.new W [.int .i64 0, .int .i64 0, .int .i64 0, .int .i64 0, .int .i64 0, .int .i64 0] 51).drew
          refine anyC_two (n := 8) (i := 10) (j := 15) (by kernel_rfl) (Later.mk' hd) ?_ ?_
          · refine wpOp_callD (some 102) (by rfl) rfl rfl ?_ ((hz W.drew hd).mono ?_)
            · go_simp
            rintro e w2 ⟨rfl, hw2⟩
            refine ⟨_, rfl, ?_⟩
            simp only [Act.put, List.setIfInBounds_toArray, List.set_cons_zero, List.set_cons_succ]
            have hw2 := hd.trans hw2
            refine anyC_heads (by kernel_rfl) 4 w2 (Later.mk' hw2) [11, 12, 13, 14] _ _ (by kernel_rfl) ?_
            simp only [headOps, List.filterMap_cons, List.filterMap_nil, List.getElem?_toArray, List.getElem?_cons_succ, List.getElem?_cons_zero]
            repeat (first | go_big_quiet_skip | (show wpQuiet _ _ _ _ (_ :: _) _; go_big_quiet_skip) | (show wpQuiet _ _ _ _ (_ :: _) _; go_big_quiet_want; go_big_quiet_op; go_big_quiet_on))
            refine wpQuiet_nil ?_
            refine anyC_valD (some 18) (n := 3) (i := 15) (v := .pointer (some ⟨w2.heap.size, 0, none⟩)) (w' := w2.alloc (.cells #[.int .i64 0, .int .i64 0, .int .i64 0, .int .i64 0, .int .i64 0, .int .i64 0] 51)) (by kernel_rfl) rfl rfl rfl (Later.mk' hw2) ?_ ?_
            · go_simp
            simp only [Act.put, List.setIfInBounds_toArray, List.set_cons_zero, List.set_cons_succ]
            have Y := Box.new w2 [.int .i64 0, .int .i64 0, .int .i64 0, .int .i64 0, .int .i64 0, .int .i64 0] 51
            have hw3 := hw2.alloc hw2.size (.cells #[.int .i64 0, .int .i64 0, .int .i64 0, .int .i64 0, .int .i64 0, .int .i64 0] 51)
            have hFa := hw2.size
            generalize w2.alloc (.cells #[.int .i64 0, .int .i64 0, .int .i64 0, .int .i64 0, .int .i64 0, .int .i64 0] 51) = w3 at Y hw3 ⊢
            generalize w2.heap.size = Fa at Y hFa ⊢
            have XY := ((((((Y.set 0 (.int .i64 s1.level)).set 1 (.int .i64 s1.position)).set 2 (.int .i64 s1.p0)).set 3 (.int .i64 s1.p1)).set 4 (.int .i64 s1.order)).set 5 (.int .i64 s1.age))
            have hw4 := ((((((hw3.setCell (p := ⟨Fa, 0, none⟩) (by simp <;> omega) (.int .i64 s1.level)).setCell (p := ⟨Fa, 1, none⟩) (by simp <;> omega) (.int .i64 s1.position)).setCell (p := ⟨Fa, 2, none⟩) (by simp <;> omega) (.int .i64 s1.p0)).setCell (p := ⟨Fa, 3, none⟩) (by simp <;> omega) (.int .i64 s1.p1)).setCell (p := ⟨Fa, 4, none⟩) (by simp <;> omega) (.int .i64 s1.order)).setCell (p := ⟨Fa, 5, none⟩) (by simp <;> omega) (.int .i64 s1.age))
            have Yc0 : w3.cell? ⟨Fa, 0, none⟩ = some (.int .i64 0) := Y.cell 0
            have Yf0 : w3.frozen? ⟨Fa, 0, none⟩ = false := Y.free 0
            have Yc1 : w3.cell? ⟨Fa, 1, none⟩ = some (.int .i64 0) := Y.cell 1
            have Yf1 : w3.frozen? ⟨Fa, 1, none⟩ = false := Y.free 1
            have Yc2 : w3.cell? ⟨Fa, 2, none⟩ = some (.int .i64 0) := Y.cell 2
            have Yf2 : w3.frozen? ⟨Fa, 2, none⟩ = false := Y.free 2
            have Yc3 : w3.cell? ⟨Fa, 3, none⟩ = some (.int .i64 0) := Y.cell 3
            have Yf3 : w3.frozen? ⟨Fa, 3, none⟩ = false := Y.free 3
            have Yc4 : w3.cell? ⟨Fa, 4, none⟩ = some (.int .i64 0) := Y.cell 4
            have Yf4 : w3.frozen? ⟨Fa, 4, none⟩ = false := Y.free 4
            have Yc5 : w3.cell? ⟨Fa, 5, none⟩ = some (.int .i64 0) := Y.cell 5
            have Yf5 : w3.frozen? ⟨Fa, 5, none⟩ = false := Y.free 5
            have Yz : Fa < w3.heap.size := Y.lt
            refine anyC_storeN (w' := ((((((w3.setCell ⟨Fa, 0, none⟩ (.int .i64 s1.level)).setCell ⟨Fa, 1, none⟩ (.int .i64 s1.position)).setCell ⟨Fa, 2, none⟩ (.int .i64 s1.p0)).setCell ⟨Fa, 3, none⟩ (.int .i64 s1.p1)).setCell ⟨Fa, 4, none⟩ (.int .i64 s1.order)).setCell ⟨Fa, 5, none⟩ (.int .i64 s1.age))) (n := 2) (i := 16) (by kernel_rfl) rfl rfl rfl (Later.mk' hw3) ?_ ?_
            · go_simp
            clear Yc0 Yc1 Yc2 Yc3 Yc4 Yc5 Yf0 Yf1 Yf2 Yf3 Yf4 Yf5 Yz Y
            generalize ((((((w3.setCell ⟨Fa, 0, none⟩ (.int .i64 s1.level)).setCell ⟨Fa, 1, none⟩ (.int .i64 s1.position)).setCell ⟨Fa, 2, none⟩ (.int .i64 s1.p0)).setCell ⟨Fa, 3, none⟩ (.int .i64 s1.p1)).setCell ⟨Fa, 4, none⟩ (.int .i64 s1.order)).setCell ⟨Fa, 5, none⟩ (.int .i64 s1.age)) = w4' at XY hw4 ⊢
            refine anyC_valD (some 19) (n := 1) (i := 17) (v := .int .i64 o) (w' := w4') (by kernel_rfl) rfl rfl rfl (Later.mk' hw4) (by first | rfl | go_simp) ?_
            simp only [Act.put, List.setIfInBounds_toArray, List.set_cons_zero, List.set_cons_succ]
            refine anyC_valD (some 20) (n := 0) (i := 18) (v := .int .i64 0) (w' := w4') (by kernel_rfl) rfl rfl rfl (Later.mk' hw4) (by first | rfl | go_simp) ?_
            simp only [Act.put, List.setIfInBounds_toArray, List.set_cons_zero, List.set_cons_succ]
            refine anyC_done (by kernel_rfl) (Later.mk' hw4) ?_
            go_wp2_with fail
            go_meet
            exact ⟨Fa, rfl, rfl, hFa, XY, hw4⟩
          · refine wpOp_valD (some 18) (v := .pointer (some ⟨W.heap.size, 0, none⟩)) (w' := (W.alloc (.cells #[.int .i64 0, .int .i64 0, .int .i64 0, .int .i64 0, .int .i64 0, .int .i64 0] 51)).drew) (by rfl) rfl rfl ?_ ?_
            · go_simp
            simp only [Act.put, List.setIfInBounds_toArray, List.set_cons_zero, List.set_cons_succ]
            refine anyC_callD (some 102) (n := 7) (i := 10) (by kernel_rfl) rfl rfl rfl (Later.mk' ha) ?_ ((hz _ ha).mono ?_)
            · go_simp
            rintro e w3 ⟨rfl, hw3⟩
            refine ⟨_, rfl, ?_⟩
            simp only [Act.put, List.setIfInBounds_toArray, List.set_cons_zero, List.set_cons_succ]
            have Y := XZ.later hw3
            have hw3 := ha.trans (hw3.mono ha.size)
            refine anyC_heads (by kernel_rfl) 3 w3 (Later.mk' hw3) [11, 12, 13, 14] _ _ (by kernel_rfl) ?_
            simp only [headOps, List.filterMap_cons, List.filterMap_nil, List.getElem?_toArray, List.getElem?_cons_succ, List.getElem?_cons_zero]
            repeat (first | go_big_quiet_skip | (show wpQuiet _ _ _ _ (_ :: _) _; go_big_quiet_skip) | (show wpQuiet _ _ _ _ (_ :: _) _; go_big_quiet_want; go_big_quiet_op; go_big_quiet_on))
            refine wpQuiet_nil ?_
            generalize hFF : W.heap.size = Fa at Y ⊢
            have hFa : W.heap.size ≤ Fa := by omega
            clear hFF
            have XY := ((((((Y.set 0 (.int .i64 s1.level)).set 1 (.int .i64 s1.position)).set 2 (.int .i64 s1.p0)).set 3 (.int .i64 s1.p1)).set 4 (.int .i64 s1.order)).set 5 (.int .i64 s1.age))
            have hw4 := ((((((hw3.setCell (p := ⟨Fa, 0, none⟩) (by simp <;> omega) (.int .i64 s1.level)).setCell (p := ⟨Fa, 1, none⟩) (by simp <;> omega) (.int .i64 s1.position)).setCell (p := ⟨Fa, 2, none⟩) (by simp <;> omega) (.int .i64 s1.p0)).setCell (p := ⟨Fa, 3, none⟩) (by simp <;> omega) (.int .i64 s1.p1)).setCell (p := ⟨Fa, 4, none⟩) (by simp <;> omega) (.int .i64 s1.order)).setCell (p := ⟨Fa, 5, none⟩) (by simp <;> omega) (.int .i64 s1.age))
            have Yc0 : w3.cell? ⟨Fa, 0, none⟩ = some (.int .i64 0) := Y.cell 0
            have Yf0 : w3.frozen? ⟨Fa, 0, none⟩ = false := Y.free 0
            have Yc1 : w3.cell? ⟨Fa, 1, none⟩ = some (.int .i64 0) := Y.cell 1
            have Yf1 : w3.frozen? ⟨Fa, 1, none⟩ = false := Y.free 1
            have Yc2 : w3.cell? ⟨Fa, 2, none⟩ = some (.int .i64 0) := Y.cell 2
            have Yf2 : w3.frozen? ⟨Fa, 2, none⟩ = false := Y.free 2
            have Yc3 : w3.cell? ⟨Fa, 3, none⟩ = some (.int .i64 0) := Y.cell 3
            have Yf3 : w3.frozen? ⟨Fa, 3, none⟩ = false := Y.free 3
            have Yc4 : w3.cell? ⟨Fa, 4, none⟩ = some (.int .i64 0) := Y.cell 4
            have Yf4 : w3.frozen? ⟨Fa, 4, none⟩ = false := Y.free 4
            have Yc5 : w3.cell? ⟨Fa, 5, none⟩ = some (.int .i64 0) := Y.cell 5
            have Yf5 : w3.frozen? ⟨Fa, 5, none⟩ = false := Y.free 5
            have Yz : Fa < w3.heap.size := Y.lt
            refine anyC_storeN (w' := ((((((w3.setCell ⟨Fa, 0, none⟩ (.int .i64 s1.level)).setCell ⟨Fa, 1, none⟩ (.int .i64 s1.position)).setCell ⟨Fa, 2, none⟩ (.int .i64 s1.p0)).setCell ⟨Fa, 3, none⟩ (.int .i64 s1.p1)).setCell ⟨Fa, 4, none⟩ (.int .i64 s1.order)).setCell ⟨Fa, 5, none⟩ (.int .i64 s1.age))) (n := 2) (i := 16) (by kernel_rfl) rfl rfl rfl (Later.mk' hw3) ?_ ?_
            · go_simp
            clear Yc0 Yc1 Yc2 Yc3 Yc4 Yc5 Yf0 Yf1 Yf2 Yf3 Yf4 Yf5 Yz Y
            generalize ((((((w3.setCell ⟨Fa, 0, none⟩ (.int .i64 s1.level)).setCell ⟨Fa, 1, none⟩ (.int .i64 s1.position)).setCell ⟨Fa, 2, none⟩ (.int .i64 s1.p0)).setCell ⟨Fa, 3, none⟩ (.int .i64 s1.p1)).setCell ⟨Fa, 4, none⟩ (.int .i64 s1.order)).setCell ⟨Fa, 5, none⟩ (.int .i64 s1.age)) = w4' at XY hw4 ⊢
            refine anyC_valD (some 19) (n := 1) (i := 17) (v := .int .i64 o) (w' := w4') (by kernel_rfl) rfl rfl rfl (Later.mk' hw4) (by first | rfl | go_simp) ?_
            simp only [Act.put, List.setIfInBounds_toArray, List.set_cons_zero, List.set_cons_succ]
            refine anyC_valD (some 20) (n := 0) (i := 18) (v := .int .i64 0) (w' := w4') (by kernel_rfl) rfl rfl rfl (Later.mk' hw4) (by first | rfl | go_simp) ?_
            simp only [Act.put, List.setIfInBounds_toArray, List.set_cons_zero, List.set_cons_succ]
            refine anyC_done (by kernel_rfl) (Later.mk' hw4) ?_
            go_wp2_with fail
            go_meet
            exact ⟨Fa, rfl, rfl, hFa, XY, hw4⟩
        case rest =>
          obtain ⟨Fa, rfl, rfl, hFa, XY, hw2⟩ := hcut
          have XS := XS.later hw2
          have XD := XD.later hw2
          have HR := Lib.hid (HR.out.later hw2)
          have hb := hb.trans (hw2.mono hb.size)
          have hkc := (hw2.cell hkz).trans hkc
          have hkz := Nat.lt_of_lt_of_le hkz hw2.size
          have hsz := Nat.le_trans hsz hw2.size
          clear hw2 hmc hmz XT HCQ X3a
          generalize wc = W2 at XY XS XD HR hb hkc hkz hsz ⊢
          have x2 : W2.cell? ⟨D2, 2, none⟩ = some (.slice (some ⟨bK, 0, none⟩) 1 cK) := XD.cell 2
          have x2z := XD.lt
          have yz := XY.lt
          have sz := XS.lt
          have XYc0 : W2.cell? ⟨Fa, 0, none⟩ = some (.int .i64 s1.level) := XY.cell 0
          have XYc1 : W2.cell? ⟨Fa, 1, none⟩ = some (.int .i64 s1.position) := XY.cell 1
          have XYc2 : W2.cell? ⟨Fa, 2, none⟩ = some (.int .i64 s1.p0) := XY.cell 2
          have XYc3 : W2.cell? ⟨Fa, 3, none⟩ = some (.int .i64 s1.p1) := XY.cell 3
          have XYc4 : W2.cell? ⟨Fa, 4, none⟩ = some (.int .i64 s1.order) := XY.cell 4
          have XYc5 : W2.cell? ⟨Fa, 5, none⟩ = some (.int .i64 s1.age) := XY.cell 5
          have XSc1 : W2.cell? ⟨w6.heap.size, 1, none⟩ = some (.int .i64 s0.position) := XS.cell 1
          go_upto_region 23 with fail
          go_cut [120] (fun s120 wx => s120 = .bool false ∧ Hid (W2 = wx))
          case first =>
            cases B with
            | true =>
              have hpp : (s1.position != s0.position) = false := by simp [HPOS.out rfl]
              go_wp2_with fail
              go_meet
              exact ⟨rfl, Lib.hid rfl⟩
            | false =>
              go_wp2_with fail
              go_meet
              exact ⟨rfl, Lib.hid rfl⟩
          case rest =>
            obtain ⟨rfl, hcut⟩ := hcut
            obtain rfl := hcut.out
            clear x2 x2z hkc hkz XD
            have XS' := ((((((XS.set 0 (.int .i64 s1.level)).set 1 (.int .i64 s1.position)).set 2 (.int .i64 s1.p0)).set 3 (.int .i64 s1.p1)).set 4 (.int .i64 s1.order)).set 5 (.int .i64 s1.age))
            have hb' := ((((((hb.setCell (p := ⟨w6.heap.size, 0, none⟩) (by simp <;> omega) (.int .i64 s1.level)).setCell (p := ⟨w6.heap.size, 1, none⟩) (by simp <;> omega) (.int .i64 s1.position)).setCell (p := ⟨w6.heap.size, 2, none⟩) (by simp <;> omega) (.int .i64 s1.p0)).setCell (p := ⟨w6.heap.size, 3, none⟩) (by simp <;> omega) (.int .i64 s1.p1)).setCell (p := ⟨w6.heap.size, 4, none⟩) (by simp <;> omega) (.int .i64 s1.order)).setCell (p := ⟨w6.heap.size, 5, none⟩) (by simp <;> omega) (.int .i64 s1.age))
            have HR' := Lib.hid ((((((HR.out.set (a := ⟨w6.heap.size, 0, none⟩) (by dsimp only; omega) (.int .i64 s1.level)).set (a := ⟨w6.heap.size, 1, none⟩) (by dsimp only; omega) (.int .i64 s1.position)).set (a := ⟨w6.heap.size, 2, none⟩) (by dsimp only; omega) (.int .i64 s1.p0)).set (a := ⟨w6.heap.size, 3, none⟩) (by dsimp only; omega) (.int .i64 s1.p1)).set (a := ⟨w6.heap.size, 4, none⟩) (by dsimp only; omega) (.int .i64 s1.order)).set (a := ⟨w6.heap.size, 5, none⟩) (by dsimp only; omega) (.int .i64 s1.age))
            have hsz' := XS'.lt
            have XSc0 : W2.cell? ⟨w6.heap.size, 0, none⟩ = some (.int .i64 s0.level) := XS.cell 0
            have XSf0 : W2.frozen? ⟨w6.heap.size, 0, none⟩ = false := XS.free 0
            have XSc1 : W2.cell? ⟨w6.heap.size, 1, none⟩ = some (.int .i64 s0.position) := XS.cell 1
            have XSf1 : W2.frozen? ⟨w6.heap.size, 1, none⟩ = false := XS.free 1
            have XSc2 : W2.cell? ⟨w6.heap.size, 2, none⟩ = some (.int .i64 s0.p0) := XS.cell 2
            have XSf2 : W2.frozen? ⟨w6.heap.size, 2, none⟩ = false := XS.free 2
            have XSc3 : W2.cell? ⟨w6.heap.size, 3, none⟩ = some (.int .i64 s0.p1) := XS.cell 3
            have XSf3 : W2.frozen? ⟨w6.heap.size, 3, none⟩ = false := XS.free 3
            have XSc4 : W2.cell? ⟨w6.heap.size, 4, none⟩ = some (.int .i64 s0.order) := XS.cell 4
            have XSf4 : W2.frozen? ⟨w6.heap.size, 4, none⟩ = false := XS.free 4
            have XSc5 : W2.cell? ⟨w6.heap.size, 5, none⟩ = some (.int .i64 s0.age) := XS.cell 5
            have XSf5 : W2.frozen? ⟨w6.heap.size, 5, none⟩ = false := XS.free 5
            have XSz : w6.heap.size < W2.heap.size := XS.lt
            go_upto_region 26 with fail
            clear XSc0 XSc1 XSc2 XSc3 XSc4 XSc5 XSf0 XSf1 XSf2 XSf3 XSf4 XSf5 XSz XYc0 XYc1 XYc2 XYc3 XYc4 XYc5 yz sz XS XY hb HR hsz
            generalize ((((((W2.setCell ⟨w6.heap.size, 0, none⟩ (.int .i64 s1.level)).setCell ⟨w6.heap.size, 1, none⟩ (.int .i64 s1.position)).setCell ⟨w6.heap.size, 2, none⟩ (.int .i64 s1.p0)).setCell ⟨w6.heap.size, 3, none⟩ (.int .i64 s1.p1)).setCell ⟨w6.heap.size, 4, none⟩ (.int .i64 s1.order)).setCell ⟨w6.heap.size, 5, none⟩ (.int .i64 s1.age)) = w8 at XS' hb' HR' hsz' ⊢
            have X7a := X7.later hb'
            have hS8 := row_steps HR'.out hHS.out (show (oneC p c).plants.length = 1 from rfl) (by omega) (by rw [List.length_take]; omega)
            obtain ⟨bad, hP⟩ := one_playT (j := i + 1) hR.out hSV.out (by rw [List.length_map, HM.out]; omega) (by rw [List.length_map]; exact hil)
            rw [← List.map_take, HS1.out] at hP
            have z7 := X7a.lt
            have X7ac0 : w8.cell? ⟨D + 1 + 1 + 1, 0, none⟩ = some (.slice (some ⟨D, 0, none⟩) 1 1) := X7a.cell 0
            have X7ac1 : w8.cell? ⟨D + 1 + 1 + 1, 1, none⟩ = some (.slice (some ⟨D + 1, 0, none⟩) 1 1) := X7a.cell 1
            have X7ac2 : w8.cell? ⟨D + 1 + 1 + 1, 2, none⟩ = some (.slice (some ⟨D + 1 + 1, 0, none⟩) 1 1) := X7a.cell 2
            go_wp2_with fail
            refine (play_any (Lib.hid hP) (Lib.hid (show [s1].length = 1 from rfl)) (HX.out.later hb') hS8).mono ?_
            clear hP z7 X7ac0 X7ac1 X7ac2 hS8 X7a
            rintro e w9 ⟨A9, c9, rfl, -, hS9, hb9⟩
            have XS := XS'.later hb9
            have hb := hb'.trans (hb9.mono hb'.size)
            have HR := Lib.hid (HR'.out.later hb9)
            have hsz := Nat.le_trans hsz' hb9.size
            clear hb9 XS' hb' HR' hsz'
            obtain ⟨bg, og9, rfl, hbg, d0, d1, d2, d3, d4, d5⟩ := hS9.state (k := 0) (by simp)
            simp only [List.getElem_cons_zero] at d0 d1 d2 d3 d4 d5
            clear hS9
            obtain ⟨y0, y1, y2, y3, y4, y5⟩ := s1
            dsimp only at d0 d1 d2 d3 d4 d5 XS
            have c0 : w9.cell? ⟨w6.heap.size, 0, none⟩ = some (.int .i64 y0) := XS.cell 0
            have c1 : w9.cell? ⟨w6.heap.size, 1, none⟩ = some (.int .i64 y1) := XS.cell 1
            have c2 : w9.cell? ⟨w6.heap.size, 2, none⟩ = some (.int .i64 y2) := XS.cell 2
            have c3 : w9.cell? ⟨w6.heap.size, 3, none⟩ = some (.int .i64 y3) := XS.cell 3
            have c4 : w9.cell? ⟨w6.heap.size, 4, none⟩ = some (.int .i64 y4) := XS.cell 4
            have c5 : w9.cell? ⟨w6.heap.size, 5, none⟩ = some (.int .i64 y5) := XS.cell 5
            have sz := XS.lt
            simp only [Nat.zero_mul, Nat.add_zero] at d0 d1 d2 d3 d4 d5
            go_upto_region 27 with fail
            go_quiet (fail)
            go_wp2
            exact ⟨⟨i + 1, _, L3, ⟨y0, y1, y2, y3, y4, y5⟩, by omega, rfl, by go_num, Lib.hid (HR.out.later (bel_drewN (Below.refl _ _) nq)), hHS, HS1, XS.later (bel_drewN (Below.refl _ _) nq), bel_drewN hb nq, hsz⟩, by simp [intOf]; omega⟩
end Go.Proofs.Ytcjcjkomcolgeaa
