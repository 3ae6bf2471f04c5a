/- The deferred function of Check of cascade; contract of Check. (Printed by pp.py.) No condition. -/
import Derived.Test.YtcjcjkomcolgeaaQDB
import Derived.Deep.CutBlock
import Derived.Test.YtcjcjkomcolgeaaQKD
set_option linter.unusedVariables false
set_option linter.unusedSimpArgs false
namespace Go.Proofs.Ytcjcjkomcolgeaa
open Go.RowKit

set_option maxRecDepth 100000 in
set_option maxHeartbeats 2000000 in
theorem mCatch_panicking (eb : Nat) (e0 : Value) (er : Int) (w : World) (he : Box w eb [e0]) :
    CallsD Try.prog 31 #[.pointer (some ⟨eb, 0, none⟩)] (.panicking (refu er)) w fun e u' w' =>
      e = .returned (.tuple #[]) ∧ u' = .panicking [{ v := .iface 128 (.agg #[.int .i64 er]), recovered := true }] ∧ ∃ w2, Below w.heap.size w w2 ∧ w' = w2.setCell ⟨eb, 0, none⟩ (.int .i64 er) := by
  refine callsD_of_wpS Try.func31 rfl fun c₀ cs hu => ?_
  apply wpS_region
  simp [wpOpsS, go_sem, recoverD, hu, Try.ntmps31, refu]
  refine (caught_some er w).mono ?_
  rintro e w1 ⟨rfl, hb⟩
  have he1 := he.later hb
  have y0 : w1.cell? ⟨eb, 0, none⟩ = some e0 := he1.cell 0
  have g0 := he1.free 0
  have ez := he1.lt
  simp [storeCells, go_sem, y0, g0]
  exact ⟨rfl, _, rfl, .tuple #[], by simp [results, Try.results31, go_sem], rfl, rfl, w1, hb, rfl⟩
set_option maxRecDepth 100000 in
set_option maxHeartbeats 2000000 in
theorem mCatch_idle (eb : Nat) (e0 : Value) (w : World) (he : Box w eb [e0]) :
    CallsD Try.prog 31 #[.pointer (some ⟨eb, 0, none⟩)] .returning w fun e u' w' => e = .returned (.tuple #[]) ∧ u' = .returning ∧ w' = w.setCell ⟨eb, 0, none⟩ (.int .i64 0) := by
  refine callsD_of_wpS Try.func31 rfl fun c₀ cs hu => ?_
  apply wpS_region
  simp [wpOpsS, go_sem, recoverD, hu, Try.ntmps31]
  refine (caught_nil w).mono ?_
  rintro e w1 ⟨rfl, rfl⟩
  have y0 : w.cell? ⟨eb, 0, none⟩ = some e0 := he.cell 0
  have g0 := he.free 0
  simp [storeCells, go_sem, y0, g0]
  refine ⟨rfl, .returning, ?_, .tuple #[], by simp [results, Try.results31, go_sem], rfl, rfl, rfl⟩
  cases c₀
  simp_all
set_option maxRecDepth 100000 in
set_option maxHeartbeats 2000000 in
theorem mCheck_is {x : Cs} {Vp Vc Vb : Value} {w : World} {er : Int} (hT : Hid (x.checkT = er)) (hx : CsAt w w.heap.size Vp Vc Vb x) : Calls Try.prog 12 #[.agg #[Vp, Vc, Vb]] w fun e w' => e = .returned (.int .i64 er) ∧ Below w.heap.size w w' := by
  have hmf : ∀ (fn : Fn) (first cap : Array Value) (w : World), (Instr.makeFunc fn first cap).run Try.prog w = .ok (.func fn first cap) w := fun _ _ _ _ => rfl
  have hB := ((Below.refl w.heap.size w).alloc (by simp <;> omega) (.cells #[Vp, Vc, Vb] 26)).alloc (by simp <;> omega) (.cells #[.int .i64 0] 29)
  have hxw := Lib.hid (hx.later hB)
  have X2 := Box.newAt (w := w.alloc (.cells #[Vp, Vc, Vb] 26)) (n := w.heap.size + 1) [.int .i64 0] 29 (by simp)
  clear hx
  go_enter_defers Try.func12, Try.ntmps12
  go_wp2_with fail
  refine (mExamine_is hT hxw.out).mono ?_
  rintro e w1 ⟨he, hb⟩
  have hB := hB.trans (hb.mono hB.size)
  have X2 := X2.later hb
  clear hb hxw
  by_cases h0 : er = 0
  · rw [if_pos h0] at he
    subst he
    subst h0
    have x0 : w1.cell? ⟨w.heap.size + 1, 0, none⟩ = some (.int .i64 0) := X2.cell 0
    have f0 := X2.free 0
    have z0 := X2.lt
    go_wp2
    have X3 := X2.set 0 (.int .i64 0)
    have hB3 := hB.setCell (p := ⟨w.heap.size + 1, 0, none⟩) (by simp) (.int .i64 0)
    generalize w1.setCell ⟨w.heap.size + 1, 0, none⟩ (.int .i64 0) = w2 at X3 hB3 ⊢
    refine leaves_cons (f := 31) (args := #[.pointer (some ⟨w.heap.size + 1, 0, none⟩)]) (by simp) (by simp [go_sem]) ?_
    refine (mCatch_idle (w.heap.size + 1) _ _ X3).mono ?_
    rintro e u' w4 ⟨rfl, rfl, rfl⟩
    have X4 := X3.set 0 (.int .i64 0)
    have hB4 := hB3.setCell (p := ⟨w.heap.size + 1, 0, none⟩) (by simp) (.int .i64 0)
    generalize w2.setCell ⟨w.heap.size + 1, 0, none⟩ (.int .i64 0) = w5 at X4 hB4 ⊢
    have y0 : w5.cell? ⟨w.heap.size + 1, 0, none⟩ = some (.int .i64 0) := X4.cell 0
    simp [Leaves, settle, results, Try.results12, go_sem, y0]
    exact hB4
  · rw [if_neg h0] at he
    subst he
    go_wp2
    refine leaves_cons (f := 31) (args := #[.pointer (some ⟨w.heap.size + 1, 0, none⟩)]) (by simp) (by simp [go_sem]) ?_
    refine (mCatch_panicking (w.heap.size + 1) _ er _ X2).mono ?_
    rintro e u' w4 ⟨rfl, rfl, w2, hb, rfl⟩
    have X4 := (X2.later hb).set 0 (.int .i64 er)
    have hB4 := (hB.trans (hb.mono hB.size)).setCell (p := ⟨w.heap.size + 1, 0, none⟩) (by simp) (.int .i64 er)
    generalize w2.setCell ⟨w.heap.size + 1, 0, none⟩ (.int .i64 er) = w5 at X4 hB4 ⊢
    have y0 : w5.cell? ⟨w.heap.size + 1, 0, none⟩ = some (.int .i64 er) := X4.cell 0
    simp [Leaves, settle, results, Try.results12, go_sem, y0]
    exact hB4
end Go.Proofs.Ytcjcjkomcolgeaa

/-
  Contract of Certified of cascade. (Printed by pp.py.) No condition.
-/
namespace Go.Proofs.Ytcjcjkomcolgeaa
open Go.RowKit

theorem firstErr_all {f : Nat → Int} : ∀ {l : List Nat}, firstErr f l = 0 → ∀ i ∈ l, f i = 0
  | [], _, i, hi => by cases hi
  | a :: l, h, i, hi => by
    rw [firstErr] at h
    by_cases ha : f a = 0
    · rw [if_pos ha] at h
      rcases List.mem_cons.1 hi with rfl | hi
      · exact ha
      · exact firstErr_all h i hi
    · rw [if_neg ha] at h
      exact absurd h ha
structure CsRight (x : Cs) (n : Nat) : Prop where
  plants : x.plants.length = n
  codes : x.codes.length = n
  bars : x.bars.length = n
  pos : 0 < n
  most : n ≤ 8
  gate : ∀ k, k < n → (x.plants.getD k Pl.zero).checkT = 0 ∧ gateT (x.codes.getD k []) = 0 ∧ barT (x.bars.getD k []) = 0
theorem cs_right {x : Cs} (h : x.checkT = 0) : CsRight x x.plants.length := by
  unfold Cs.checkT at h
  by_cases h8 : x.plants.length ≤ 8
  · rw [if_pos h8] at h
    by_cases hb : x.plants.length = 0 ∨ x.codes.length ≠ x.plants.length ∨ x.bars.length ≠ x.plants.length
    · rw [if_pos hb] at h; cases h
    · rw [if_neg hb] at h
      refine ⟨rfl, Decidable.byContradiction fun h => hb (.inr (.inl h)), Decidable.byContradiction fun h => hb (.inr (.inr h)), Nat.pos_of_ne_zero fun h => hb (.inl h), h8, fun k hk => ?_⟩
      have hg := firstErr_all h k (List.mem_range.2 hk)
      unfold Cs.gateT at hg
      by_cases h1 : (x.plants.getD k Pl.zero).checkT = 0
      · rw [if_pos h1] at hg
        by_cases h2 : gateT (x.codes.getD k []) = 0
        · rw [if_pos h2] at hg; exact ⟨h1, h2, hg⟩
        · rw [if_neg h2] at hg; exact absurd hg h2
      · rw [if_neg h1] at hg; exact absurd hg h1
  · rw [if_neg h8] at h; cases h
theorem range_find {n k : Nat} {f : Nat → Bool} (hk : k < n) (h : ∀ i, i < k → f i = false) (hx : f k = true) : (List.range n).find? f = some k := by
  refine find_pre (pre := List.range k) (x := k) ?_ (fun y hy => h y (List.mem_range.1 hy)) hx
  rw [← List.range_succ, List.prefix_iff_eq_take, List.length_range, List.take_range]
  congr 1
  omega
theorem range_none {n : Nat} {f : Nat → Bool} (h : ∀ i, i < n → f i = false) : (List.range n).find? f = none :=
  List.find?_eq_none.2 fun y hy => by rw [h y (List.mem_range.1 hy)]; decide
def Cs.mostT (x : Cs) (k : Nat) : Int := if k = 0 then 0 else (x.plants.getD (k - 1) Pl.zero).rate * (x.plants.getD (k - 1) Pl.zero).positions
theorem certB_at {x : Cs} {k : Nat} (hf : 0 ≤ (x.plants.getD k Pl.zero).feed) : x.certB k = ((certT (x.plants.getD k Pl.zero) (x.codes.getD k []) (x.bars.getD k [])).1 && decide (x.mostT k ≤ (x.plants.getD k Pl.zero).feed)) := by
  unfold Cs.certB Cs.mostT
  congr 1
  rcases Nat.eq_zero_or_pos k with h | h
  · subst h
    rw [decide_eq_true (.inl rfl), if_pos rfl, decide_eq_true hf]
  · rw [if_neg (by omega)]
    congr 1
    rw [eq_iff_iff]
    exact ⟨fun h2 => h2.resolve_left (by omega), fun h2 => .inr h2⟩

theorem results_tmp3 {P : Program} {w : World} {fn : Func} {t u s : Tmp} (h : fn.results = #[.tmp t, .tmp u, .tmp s]) (tmps : Array Value) :
    (results fn tmps).run P w = .ok (.tuple #[tmps.getD t undef, tmps.getD u undef, tmps.getD s undef]) w := by
  simp [results, h, go_sem]
set_option maxRecDepth 100000 in
set_option maxHeartbeats 2000000 in
theorem mCert_bad {x : Cs} {Vp Vc Vb : Value} {w : World} {er : Int} (hT : Hid (x.checkT = er)) (h0 : er ≠ 0) (hx : CsAt w w.heap.size Vp Vc Vb x) : Calls Try.prog 10 #[.agg #[Vp, Vc, Vb]] w fun e w' => e = .returned (.tuple #[.bool false, .int .i64 0, .int .i64 er]) ∧ Below w.heap.size w w' := by
  have hd : (er != 0) = true := by simp [h0]
  have hB := (Below.refl w.heap.size w).alloc (Nat.le_refl _) (.cells #[Vp, Vc, Vb] 26)
  have HX := Lib.hid (hx.later hB)
  clear hx
  go_enter Try.func10, Try.ntmps10
  go_wp2_with fail
  refine (mCheck_is hT HX.out).mono ?_
  rintro e w1 ⟨rfl, hb⟩
  go_wp2
  refine bodyPost_ret (results_tmp3 Try.results10 _) rfl ?_
  exact ⟨rfl, hB.trans (hb.mono hB.size)⟩
set_option maxRecDepth 100000 in
set_option maxHeartbeats 4000000 in
theorem mCert_ok (x : Cs) (Ap Ac Ab : Option Addr) (n kp kc kb : Nat) (w : World) (hT : Hid (x.checkT = 0)) (hR : Hid (CsRight x n)) (hx : Hid (CsAt w w.heap.size (.slice Ap n kp) (.slice Ac n kc) (.slice Ab n kb) x)) (t : Bool) (i : Int)
    (hF : Hid (((List.range n).find? (fun i => !x.certB i) = none → t = true ∧ i = 0) ∧ ∀ k : Nat, (List.range n).find? (fun i => !x.certB i) = some k → t = false ∧ i = k)) :
    Calls Try.prog 10 #[.agg #[.slice Ap n kp, .slice Ac n kc, .slice Ab n kb]] w fun e w' => e = .returned (.tuple #[.bool t, .int .i64 i, .int .i64 0]) ∧ Below w.heap.size w w' := by
  have hn8 := hR.out.most
  have hB := (Below.refl w.heap.size w).alloc (Nat.le_refl _) (.cells #[.slice Ap n kp, .slice Ac n kc, .slice Ab n kb] 26)
  have X1 := Box.new w [.slice Ap n kp, .slice Ac n kc, .slice Ab n kb] 26
  have HX := Lib.hid (hx.out.later hB)
  go_enter Try.func10, Try.ntmps10
  go_wp2_with fail
  refine (mCheck_is hT HX.out).mono ?_
  rintro e w1 ⟨rfl, hb⟩
  have X1 := X1.later hb
  have hB := hB.trans (hb.mono hB.size)
  clear hb HX
  have x1z := X1.lt
  have X1c0 : w1.cell? ⟨w.heap.size, 0, none⟩ = some (.slice Ap n kp) := X1.cell 0
  have X1c1 : w1.cell? ⟨w.heap.size, 1, none⟩ = some (.slice Ac n kc) := X1.cell 1
  have X1c2 : w1.cell? ⟨w.heap.size, 2, none⟩ = some (.slice Ab n kb) := X1.cell 2
  go_wp2_with fail
  clear x1z X1c0 X1c1 X1c2
  go_loopw [19, 5] (fun i m wr => ∃ k : Nat, k ≤ n ∧ i = .int .i64 k ∧ m = .int .i64 (x.mostT k) ∧ Below w1.heap.size w1 wr ∧ Hid (∀ j, j < k → x.certB j = true)) (fun i _ _ => n - (intOf i).toNat)
  case atStart => exact ⟨0, by omega, rfl, by simp [Cs.mostT], Below.refl _ _, Lib.hid (fun j hj => by omega)⟩
  case round =>
    obtain ⟨k, hk, rfl, rfl, hb, hok⟩ := hrel
    obtain ⟨wo, rfl⟩ : ∃ wo : World, wo = wr := ⟨_, rfl⟩
    have hbw := hB.trans (hb.mono hB.size)
    rcases Nat.lt_or_ge k n with hlt | hge
    rotate_left
    · obtain rfl : k = n := by omega
      have hnone := hF.out.1 (range_none (fun j hj => by rw [hok.out j hj]; rfl))
      have HN := Lib.hid hnone
      clear hnone
      have hd3 : ¬ ((k : Int) < (k : Int)) := by omega
      go_wp2
      refine bodyPost_ret (results_tmp3 Try.results10 _) rfl ?_
      obtain ⟨rfl, rfl⟩ := HN.out
      exact ⟨rfl, hbw⟩
    have hd3 : (k : Int) < (n : Int) := by omega
    obtain ⟨hg1, hg2, hg3⟩ := hR.out.gate k hlt
    have hkp : k < x.plants.length := by rw [hR.out.plants]; exact hlt
    have hkc : k < x.codes.length := by rw [hR.out.codes]; exact hlt
    have hkb : k < x.bars.length := by rw [hR.out.bars]; exact hlt
    have hv := (Pl.check_zero hg1).1
    have hcb := certB_at (x := x) (k := k) hv.feed.1
    have hm1 : x.mostT (k + 1) = (x.plants.getD k Pl.zero).rate * (x.plants.getD k Pl.zero).positions := by rw [Cs.mostT, if_neg (by omega)]; rfl
    rw [getD_at hkp, getD_at hkc, getD_at hkb] at hcb
    rw [getD_at hkp] at hm1 hv
    obtain ⟨bp, op, rfl, hbp, p0, p1, p2, p3, p4, p5, p6, p7, p8, p9, p10, p11⟩ := hx.out.plants.cells12 hkp
    obtain ⟨bc, oc, Vc, rfl, hbc, q0, hVc⟩ := hx.out.codes.code hkc
    obtain ⟨bb, ob, Vb, rfl, hbb, r0, hVb⟩ := hx.out.bars.bar hkb
    obtain ⟨p, hpe⟩ : ∃ p, x.plants[k] = p := ⟨_, rfl⟩
    obtain ⟨c, hce⟩ : ∃ c, x.codes[k] = c := ⟨_, rfl⟩
    obtain ⟨b, hbe⟩ : ∃ b, x.bars[k] = b := ⟨_, rfl⟩
    rw [hpe] at p0 p1 p2 p3 p4 p5 p6 p7 p8 p9 p10 p11 hm1 hv
    rw [hce] at hVc
    rw [hbe] at hVb
    rw [hpe, hce, hbe] at hcb
    have HCB := Lib.hid hcb
    have HM1 := Lib.hid hm1
    have HV := Lib.hid hv
    have HVc := Lib.hid hVc
    have HVb := Lib.hid hVb
    clear hcb hm1 hv hpe hce hbe hVc hVb hg1 hg2 hg3
    have p0 := (hbw.cell hbp).trans p0
    have p1 := (hbw.cell hbp).trans p1
    have p2 := (hbw.cell hbp).trans p2
    have p3 := (hbw.cell hbp).trans p3
    have p4 := (hbw.cell hbp).trans p4
    have p5 := (hbw.cell hbp).trans p5
    have p6 := (hbw.cell hbp).trans p6
    have p7 := (hbw.cell hbp).trans p7
    have p8 := (hbw.cell hbp).trans p8
    have p9 := (hbw.cell hbp).trans p9
    have p10 := (hbw.cell hbp).trans p10
    have p11 := (hbw.cell hbp).trans p11
    have hbpz := Nat.lt_of_lt_of_le hbp hbw.size
    go_upto_region 8 with fail
    clear p0 p1 p2 p3 p4 p5 p6 p7 p8 p9 p10 p11 hbpz
    have X7 := Box.new wo [.int .i64 p.top, .int .i64 p.bank, .int .i64 p.siphon, .int .i64 p.start, .int .i64 p.positions, .int .i64 p.rate, .int .i64 p.step, .int .i64 p.pass, .int .i64 p.feed, .int .i64 p.pipe, .int .i64 p.orders, .int .i64 p.age] 55
    have hb7 := (Below.refl wo.heap.size wo).alloc (Nat.le_refl _) (.cells #[.int .i64 p.top, .int .i64 p.bank, .int .i64 p.siphon, .int .i64 p.start, .int .i64 p.positions, .int .i64 p.rate, .int .i64 p.step, .int .i64 p.pass, .int .i64 p.feed, .int .i64 p.pipe, .int .i64 p.orders, .int .i64 p.age] 55)
    have hb := hb.trans (hb7.mono hb.size)
    have hbw := hbw.trans (hb7.mono hbw.size)
    clear hb7
    generalize wo.alloc (.cells #[.int .i64 p.top, .int .i64 p.bank, .int .i64 p.siphon, .int .i64 p.start, .int .i64 p.positions, .int .i64 p.rate, .int .i64 p.step, .int .i64 p.pass, .int .i64 p.feed, .int .i64 p.pipe, .int .i64 p.orders, .int .i64 p.age] 55) = W at X7 hb hbw ⊢
    generalize wo.heap.size = D at X7 ⊢
    have x1 := X1.later hb
    obtain ⟨ct, cf, ce, hct⟩ : ∃ ct cf ce, Hid (certT p c b = (ct, cf, ce)) := ⟨_, _, _, rfl⟩
    go_cut [8] (fun s8 wx => s8 = .bool ct ∧ Below W.heap.size W wx)
    case first =>
      have x1z := x1.lt
      have x7z := X7.lt
      have x1c0 : W.cell? ⟨w.heap.size, 0, none⟩ = some (.slice (some ⟨bp, op, none⟩) n kp) := x1.cell 0
      have x1c1 : W.cell? ⟨w.heap.size, 1, none⟩ = some (.slice (some ⟨bc, oc, none⟩) n kc) := x1.cell 1
      have x1c2 : W.cell? ⟨w.heap.size, 2, none⟩ = some (.slice (some ⟨bb, ob, none⟩) n kb) := x1.cell 2
      have X7c0 : W.cell? ⟨D, 0, none⟩ = some (.int .i64 p.top) := X7.cell 0
      have X7c1 : W.cell? ⟨D, 1, none⟩ = some (.int .i64 p.bank) := X7.cell 1
      have X7c2 : W.cell? ⟨D, 2, none⟩ = some (.int .i64 p.siphon) := X7.cell 2
      have X7c3 : W.cell? ⟨D, 3, none⟩ = some (.int .i64 p.start) := X7.cell 3
      have X7c4 : W.cell? ⟨D, 4, none⟩ = some (.int .i64 p.positions) := X7.cell 4
      have X7c5 : W.cell? ⟨D, 5, none⟩ = some (.int .i64 p.rate) := X7.cell 5
      have X7c6 : W.cell? ⟨D, 6, none⟩ = some (.int .i64 p.step) := X7.cell 6
      have X7c7 : W.cell? ⟨D, 7, none⟩ = some (.int .i64 p.pass) := X7.cell 7
      have X7c8 : W.cell? ⟨D, 8, none⟩ = some (.int .i64 p.feed) := X7.cell 8
      have X7c9 : W.cell? ⟨D, 9, none⟩ = some (.int .i64 p.pipe) := X7.cell 9
      have X7c10 : W.cell? ⟨D, 10, none⟩ = some (.int .i64 p.orders) := X7.cell 10
      have X7c11 : W.cell? ⟨D, 11, none⟩ = some (.int .i64 p.age) := X7.cell 11
      have q0 := (hbw.cell hbc).trans q0
      have r0 := (hbw.cell hbb).trans r0
      have hbcz := Nat.lt_of_lt_of_le hbc hbw.size
      have hbbz := Nat.lt_of_lt_of_le hbb hbw.size
      have hCW := Lib.hid ((HVc.out.below hbw).more hbw.size)
      have hQW := Lib.hid ((HVb.out.below hbw).more hbw.size)
      have hd := (Below.refl W.heap.size W).drew
      have hCd := Lib.hid (hCW.out.later hd)
      have hQd := Lib.hid (hQW.out.later hd)
      have ha := ((Below.refl W.heap.size W).alloc (Nat.le_refl _) (.cells #[.int .i64 0, .int .i64 0, .int .i64 0, .int .i64 0, .int .i64 0, .int .i64 0, .int .i64 0, .int .i64 0, .int .i64 0] 78)).drew
      have hCa := Lib.hid (hCW.out.later ha)
      have hQa := Lib.hid (hQW.out.later ha)
      have X9 := (Box.new W [.int .i64 0, .int .i64 0, .int .i64 0, .int .i64 0, .int .i64 0, .int .i64 0, .int .i64 0, .int .i64 0, .int .i64 0] 78).drew
      obtain ⟨cf0, ⟨cf1, cf2, cf3, cf4, cf5, cf6⟩, ⟨cf7, cf8⟩⟩ := cf
      have hzA : Calls Try.prog 29 #[.agg #[.int .i64 p.top, .int .i64 p.bank, .int .i64 p.siphon, .int .i64 p.start, .int .i64 p.positions, .int .i64 p.rate, .int .i64 p.step, .int .i64 p.pass, .int .i64 p.feed, .int .i64 p.pipe, .int .i64 p.orders, .int .i64 p.age], .agg #[Vc], Vb] W.drew (fun e w' => e = .returned (.tuple #[.bool ct, (Fw.mk cf0 ⟨cf1, cf2, cf3, cf4, cf5, cf6⟩ ⟨cf7, cf8⟩).v, .int .i64 ce]) ∧ Below W.heap.size W w') :=
        (bCert_is (w := W.drew) hct hCd.out hQd.out).mono fun _ _ h => ⟨h.1, hd.trans h.2⟩
      have hzB : Calls Try.prog 29 #[.agg #[.int .i64 p.top, .int .i64 p.bank, .int .i64 p.siphon, .int .i64 p.start, .int .i64 p.positions, .int .i64 p.rate, .int .i64 p.step, .int .i64 p.pass, .int .i64 p.feed, .int .i64 p.pipe, .int .i64 p.orders, .int .i64 p.age], .agg #[Vc], Vb] (W.alloc (.cells #[.int .i64 0, .int .i64 0, .int .i64 0, .int .i64 0, .int .i64 0, .int .i64 0, .int .i64 0, .int .i64 0, .int .i64 0] 78)).drew (fun e w' => e = .returned (.tuple #[.bool ct, (Fw.mk cf0 ⟨cf1, cf2, cf3, cf4, cf5, cf6⟩ ⟨cf7, cf8⟩).v, .int .i64 ce]) ∧ Below W.heap.size W w' ∧ Box w' W.heap.size [.int .i64 0, .int .i64 0, .int .i64 0, .int .i64 0, .int .i64 0, .int .i64 0, .int .i64 0, .int .i64 0, .int .i64 0]) :=
        (bCert_is (w := (W.alloc (.cells #[.int .i64 0, .int .i64 0, .int .i64 0, .int .i64 0, .int .i64 0, .int .i64 0, .int .i64 0, .int .i64 0, .int .i64 0] 78)).drew) hct hCa.out hQa.out).mono fun _ _ h => ⟨h.1, ha.trans (h.2.mono ha.size), X9.later h.2⟩
      have u0 : ∀ z : Later W, z.w.cell? ⟨w.heap.size, 0, none⟩ = some (.slice (some ⟨bp, op, none⟩) n kp) := Later.cell x1c0 x1z
      have u1 : ∀ z : Later W, z.w.cell? ⟨w.heap.size, 1, none⟩ = some (.slice (some ⟨bc, oc, none⟩) n kc) := Later.cell x1c1 x1z
      have u2 : ∀ z : Later W, z.w.cell? ⟨w.heap.size, 2, none⟩ = some (.slice (some ⟨bb, ob, none⟩) n kb) := Later.cell x1c2 x1z
      have f0 : ∀ z : Later W, z.w.cell? ⟨D, 0, none⟩ = some (.int .i64 p.top) := Later.cell X7c0 x7z
      have f1 : ∀ z : Later W, z.w.cell? ⟨D, 1, none⟩ = some (.int .i64 p.bank) := Later.cell X7c1 x7z
      have f2 : ∀ z : Later W, z.w.cell? ⟨D, 2, none⟩ = some (.int .i64 p.siphon) := Later.cell X7c2 x7z
      have f3 : ∀ z : Later W, z.w.cell? ⟨D, 3, none⟩ = some (.int .i64 p.start) := Later.cell X7c3 x7z
      have f4 : ∀ z : Later W, z.w.cell? ⟨D, 4, none⟩ = some (.int .i64 p.positions) := Later.cell X7c4 x7z
      have f5 : ∀ z : Later W, z.w.cell? ⟨D, 5, none⟩ = some (.int .i64 p.rate) := Later.cell X7c5 x7z
      have f6 : ∀ z : Later W, z.w.cell? ⟨D, 6, none⟩ = some (.int .i64 p.step) := Later.cell X7c6 x7z
      have f7 : ∀ z : Later W, z.w.cell? ⟨D, 7, none⟩ = some (.int .i64 p.pass) := Later.cell X7c7 x7z
      have f8 : ∀ z : Later W, z.w.cell? ⟨D, 8, none⟩ = some (.int .i64 p.feed) := Later.cell X7c8 x7z
      have f9 : ∀ z : Later W, z.w.cell? ⟨D, 9, none⟩ = some (.int .i64 p.pipe) := Later.cell X7c9 x7z
      have f10 : ∀ z : Later W, z.w.cell? ⟨D, 10, none⟩ = some (.int .i64 p.orders) := Later.cell X7c10 x7z
      have f11 : ∀ z : Later W, z.w.cell? ⟨D, 11, none⟩ = some (.int .i64 p.age) := Later.cell X7c11 x7z
      have g0 : ∀ z : Later W, z.w.cell? ⟨bc, oc + k, none⟩ = some Vc := Later.cell q0 hbcz
      have g1 : ∀ z : Later W, z.w.cell? ⟨bb, ob + k, none⟩ = some Vb := Later.cell r0 hbbz
      clear hCd hQd hCa hQa hCW hQW X9 x1 X7 hct
      refine wp_region_heads (C := fun w' => ∃ x : Later W, w' = x.w) [0, 1, 2, 3, 4, 5, 6, 7, 8, 9, 10] (by kernel_rfl) (by kernel_rfl) (Later.mk' hd) (fun _ _ h => h) ?_
      simp only [headOps, List.filterMap_cons, List.filterMap_nil, List.getElem?_toArray, List.getElem?_cons_succ, List.getElem?_cons_zero]
      repeat (first | go_big_quiet_skip | (show wpQuiet _ _ _ _ (_ :: _) _; go_big_quiet_want; go_big_quiet_op; go_big_quiet_on))
      refine wpQuiet_nil ?_
      clear f0 f1 f2 f3 f4 f5 f6 f7 f8 f9 f10 f11 u0 u1 u2 g0 g1 X7c0 X7c1 X7c2 X7c3 X7c4 X7c5 X7c6 X7c7 X7c8 X7c9 X7c10 X7c11 x1c0 x1c1 x1c2 q0 r0
      refine anyC_two (n := 8) (i := 11) (j := 16) (by kernel_rfl) (Later.mk' hd) ?_ ?_
      · refine wpOp_callD (some 36) (by rfl) rfl rfl ?_ (hzA.mono ?_)
        · go_simp
        rintro e w2 ⟨rfl, hw2⟩
        refine ⟨_, rfl, ?_⟩
        simp only [Act.put, List.setIfInBounds_toArray, List.set_cons_zero, List.set_cons_succ]
        refine anyC_heads (by kernel_rfl) 4 w2 (Later.mk' hw2) [12, 13, 14, 15] _ _ (by kernel_rfl) ?_
        simp only [headOps, List.filterMap_cons, List.filterMap_nil, List.getElem?_toArray, List.getElem?_cons_succ, List.getElem?_cons_zero]
        repeat (first | go_big_quiet_skip | (show wpQuiet _ _ _ _ (_ :: _) _; go_big_quiet_want; go_big_quiet_op; go_big_quiet_on))
        refine wpQuiet_nil ?_
        refine anyC_valD (some 9) (n := 3) (i := 16) (v := .pointer (some ⟨w2.heap.size, 0, none⟩)) (w' := w2.alloc (.cells #[.int .i64 0, .int .i64 0, .int .i64 0, .int .i64 0, .int .i64 0, .int .i64 0, .int .i64 0, .int .i64 0, .int .i64 0] 78)) (by kernel_rfl) rfl rfl rfl (Later.mk' hw2) ?_ ?_
        · go_simp
        simp only [Act.put, List.setIfInBounds_toArray, List.set_cons_zero, List.set_cons_succ]
        have Y := Box.new w2 [.int .i64 0, .int .i64 0, .int .i64 0, .int .i64 0, .int .i64 0, .int .i64 0, .int .i64 0, .int .i64 0, .int .i64 0] 78
        have hw3 := hw2.alloc hw2.size (.cells #[.int .i64 0, .int .i64 0, .int .i64 0, .int .i64 0, .int .i64 0, .int .i64 0, .int .i64 0, .int .i64 0, .int .i64 0] 78)
        have hFa := hw2.size
        generalize w2.alloc (.cells #[.int .i64 0, .int .i64 0, .int .i64 0, .int .i64 0, .int .i64 0, .int .i64 0, .int .i64 0, .int .i64 0, .int .i64 0] 78) = w3 at Y hw3 ⊢
        generalize w2.heap.size = Fa at Y hFa ⊢
        have Yc0 : w3.cell? ⟨Fa, 0, none⟩ = some (.int .i64 0) := Y.cell 0
        have Yf0 : w3.frozen? ⟨Fa, 0, none⟩ = false := Y.free 0
        have Yc1 : w3.cell? ⟨Fa, 1, none⟩ = some (.int .i64 0) := Y.cell 1
        have Yf1 : w3.frozen? ⟨Fa, 1, none⟩ = false := Y.free 1
        have Yc2 : w3.cell? ⟨Fa, 2, none⟩ = some (.int .i64 0) := Y.cell 2
        have Yf2 : w3.frozen? ⟨Fa, 2, none⟩ = false := Y.free 2
        have Yc3 : w3.cell? ⟨Fa, 3, none⟩ = some (.int .i64 0) := Y.cell 3
        have Yf3 : w3.frozen? ⟨Fa, 3, none⟩ = false := Y.free 3
        have Yc4 : w3.cell? ⟨Fa, 4, none⟩ = some (.int .i64 0) := Y.cell 4
        have Yf4 : w3.frozen? ⟨Fa, 4, none⟩ = false := Y.free 4
        have Yc5 : w3.cell? ⟨Fa, 5, none⟩ = some (.int .i64 0) := Y.cell 5
        have Yf5 : w3.frozen? ⟨Fa, 5, none⟩ = false := Y.free 5
        have Yc6 : w3.cell? ⟨Fa, 6, none⟩ = some (.int .i64 0) := Y.cell 6
        have Yf6 : w3.frozen? ⟨Fa, 6, none⟩ = false := Y.free 6
        have Yc7 : w3.cell? ⟨Fa, 7, none⟩ = some (.int .i64 0) := Y.cell 7
        have Yf7 : w3.frozen? ⟨Fa, 7, none⟩ = false := Y.free 7
        have Yc8 : w3.cell? ⟨Fa, 8, none⟩ = some (.int .i64 0) := Y.cell 8
        have Yf8 : w3.frozen? ⟨Fa, 8, none⟩ = false := Y.free 8
        have Yz : Fa < w3.heap.size := Y.lt
        have hw4 := (((((((((hw3.setCell (p := ⟨Fa, 0, none⟩) (by simp <;> omega) (.int .i64 cf0)).setCell (p := ⟨Fa, 1, none⟩) (by simp <;> omega) (.int .i64 cf1)).setCell (p := ⟨Fa, 2, none⟩) (by simp <;> omega) (.int .i64 cf2)).setCell (p := ⟨Fa, 3, none⟩) (by simp <;> omega) (.int .i64 cf3)).setCell (p := ⟨Fa, 4, none⟩) (by simp <;> omega) (.int .i64 cf4)).setCell (p := ⟨Fa, 5, none⟩) (by simp <;> omega) (.int .i64 cf5)).setCell (p := ⟨Fa, 6, none⟩) (by simp <;> omega) (.int .i64 cf6)).setCell (p := ⟨Fa, 7, none⟩) (by simp <;> omega) (.int .i64 cf7)).setCell (p := ⟨Fa, 8, none⟩) (by simp <;> omega) (.int .i64 cf8))
        refine anyC_valD (some 8) (n := 2) (i := 17) (v := .bool ct) (w' := w3) (by kernel_rfl) rfl rfl rfl (Later.mk' hw3) (by first | rfl | go_simp) ?_
        simp only [Act.put, List.setIfInBounds_toArray, List.set_cons_zero, List.set_cons_succ]
        refine anyC_storeN (w' := (((((((((w3.setCell ⟨Fa, 0, none⟩ (.int .i64 cf0)).setCell ⟨Fa, 1, none⟩ (.int .i64 cf1)).setCell ⟨Fa, 2, none⟩ (.int .i64 cf2)).setCell ⟨Fa, 3, none⟩ (.int .i64 cf3)).setCell ⟨Fa, 4, none⟩ (.int .i64 cf4)).setCell ⟨Fa, 5, none⟩ (.int .i64 cf5)).setCell ⟨Fa, 6, none⟩ (.int .i64 cf6)).setCell ⟨Fa, 7, none⟩ (.int .i64 cf7)).setCell ⟨Fa, 8, none⟩ (.int .i64 cf8))) (n := 1) (i := 18) (by kernel_rfl) rfl rfl rfl (Later.mk' hw3) ?_ ?_
        · go_simp
        generalize (((((((((w3.setCell ⟨Fa, 0, none⟩ (.int .i64 cf0)).setCell ⟨Fa, 1, none⟩ (.int .i64 cf1)).setCell ⟨Fa, 2, none⟩ (.int .i64 cf2)).setCell ⟨Fa, 3, none⟩ (.int .i64 cf3)).setCell ⟨Fa, 4, none⟩ (.int .i64 cf4)).setCell ⟨Fa, 5, none⟩ (.int .i64 cf5)).setCell ⟨Fa, 6, none⟩ (.int .i64 cf6)).setCell ⟨Fa, 7, none⟩ (.int .i64 cf7)).setCell ⟨Fa, 8, none⟩ (.int .i64 cf8)) = w4 at hw4 ⊢
        refine anyC_valD (some 10) (n := 0) (i := 19) (v := .int .i64 ce) (w' := w4) (by kernel_rfl) rfl rfl rfl (Later.mk' hw4) (by first | rfl | go_simp) ?_
        simp only [Act.put, List.setIfInBounds_toArray, List.set_cons_zero, List.set_cons_succ]
        refine anyC_done (by kernel_rfl) (Later.mk' hw4) ?_
        go_wp2_with fail
        go_meet
        exact ⟨rfl, hw4⟩
      · refine wpOp_valD (some 9) (v := .pointer (some ⟨W.heap.size, 0, none⟩)) (w' := (W.alloc (.cells #[.int .i64 0, .int .i64 0, .int .i64 0, .int .i64 0, .int .i64 0, .int .i64 0, .int .i64 0, .int .i64 0, .int .i64 0] 78)).drew) (by rfl) rfl rfl ?_ ?_
        · go_simp
        simp only [Act.put, List.setIfInBounds_toArray, List.set_cons_zero, List.set_cons_succ]
        refine anyC_callD (some 36) (n := 7) (i := 11) (by kernel_rfl) rfl rfl rfl (Later.mk' ha) ?_ (hzB.mono ?_)
        · go_simp
        rintro e w2 ⟨rfl, hw2, Y⟩
        refine ⟨_, rfl, ?_⟩
        simp only [Act.put, List.setIfInBounds_toArray, List.set_cons_zero, List.set_cons_succ]
        refine anyC_heads (by kernel_rfl) 3 w2 (Later.mk' hw2) [12, 13, 14, 15] _ _ (by kernel_rfl) ?_
        simp only [headOps, List.filterMap_cons, List.filterMap_nil, List.getElem?_toArray, List.getElem?_cons_succ, List.getElem?_cons_zero]
        repeat (first | go_big_quiet_skip | (show wpQuiet _ _ _ _ (_ :: _) _; go_big_quiet_want; go_big_quiet_op; go_big_quiet_on))
        refine wpQuiet_nil ?_
        have hFa : W.heap.size ≤ W.heap.size := Nat.le_refl _
        have Yc0 : w2.cell? ⟨W.heap.size, 0, none⟩ = some (.int .i64 0) := Y.cell 0
        have Yf0 : w2.frozen? ⟨W.heap.size, 0, none⟩ = false := Y.free 0
        have Yc1 : w2.cell? ⟨W.heap.size, 1, none⟩ = some (.int .i64 0) := Y.cell 1
        have Yf1 : w2.frozen? ⟨W.heap.size, 1, none⟩ = false := Y.free 1
        have Yc2 : w2.cell? ⟨W.heap.size, 2, none⟩ = some (.int .i64 0) := Y.cell 2
        have Yf2 : w2.frozen? ⟨W.heap.size, 2, none⟩ = false := Y.free 2
        have Yc3 : w2.cell? ⟨W.heap.size, 3, none⟩ = some (.int .i64 0) := Y.cell 3
        have Yf3 : w2.frozen? ⟨W.heap.size, 3, none⟩ = false := Y.free 3
        have Yc4 : w2.cell? ⟨W.heap.size, 4, none⟩ = some (.int .i64 0) := Y.cell 4
        have Yf4 : w2.frozen? ⟨W.heap.size, 4, none⟩ = false := Y.free 4
        have Yc5 : w2.cell? ⟨W.heap.size, 5, none⟩ = some (.int .i64 0) := Y.cell 5
        have Yf5 : w2.frozen? ⟨W.heap.size, 5, none⟩ = false := Y.free 5
        have Yc6 : w2.cell? ⟨W.heap.size, 6, none⟩ = some (.int .i64 0) := Y.cell 6
        have Yf6 : w2.frozen? ⟨W.heap.size, 6, none⟩ = false := Y.free 6
        have Yc7 : w2.cell? ⟨W.heap.size, 7, none⟩ = some (.int .i64 0) := Y.cell 7
        have Yf7 : w2.frozen? ⟨W.heap.size, 7, none⟩ = false := Y.free 7
        have Yc8 : w2.cell? ⟨W.heap.size, 8, none⟩ = some (.int .i64 0) := Y.cell 8
        have Yf8 : w2.frozen? ⟨W.heap.size, 8, none⟩ = false := Y.free 8
        have Yz : W.heap.size < w2.heap.size := Y.lt
        have hw4 := (((((((((hw2.setCell (p := ⟨W.heap.size, 0, none⟩) (by simp <;> omega) (.int .i64 cf0)).setCell (p := ⟨W.heap.size, 1, none⟩) (by simp <;> omega) (.int .i64 cf1)).setCell (p := ⟨W.heap.size, 2, none⟩) (by simp <;> omega) (.int .i64 cf2)).setCell (p := ⟨W.heap.size, 3, none⟩) (by simp <;> omega) (.int .i64 cf3)).setCell (p := ⟨W.heap.size, 4, none⟩) (by simp <;> omega) (.int .i64 cf4)).setCell (p := ⟨W.heap.size, 5, none⟩) (by simp <;> omega) (.int .i64 cf5)).setCell (p := ⟨W.heap.size, 6, none⟩) (by simp <;> omega) (.int .i64 cf6)).setCell (p := ⟨W.heap.size, 7, none⟩) (by simp <;> omega) (.int .i64 cf7)).setCell (p := ⟨W.heap.size, 8, none⟩) (by simp <;> omega) (.int .i64 cf8))
        refine anyC_valD (some 8) (n := 2) (i := 17) (v := .bool ct) (w' := w2) (by kernel_rfl) rfl rfl rfl (Later.mk' hw2) (by first | rfl | go_simp) ?_
        simp only [Act.put, List.setIfInBounds_toArray, List.set_cons_zero, List.set_cons_succ]
        refine anyC_storeN (w' := (((((((((w2.setCell ⟨W.heap.size, 0, none⟩ (.int .i64 cf0)).setCell ⟨W.heap.size, 1, none⟩ (.int .i64 cf1)).setCell ⟨W.heap.size, 2, none⟩ (.int .i64 cf2)).setCell ⟨W.heap.size, 3, none⟩ (.int .i64 cf3)).setCell ⟨W.heap.size, 4, none⟩ (.int .i64 cf4)).setCell ⟨W.heap.size, 5, none⟩ (.int .i64 cf5)).setCell ⟨W.heap.size, 6, none⟩ (.int .i64 cf6)).setCell ⟨W.heap.size, 7, none⟩ (.int .i64 cf7)).setCell ⟨W.heap.size, 8, none⟩ (.int .i64 cf8))) (n := 1) (i := 18) (by kernel_rfl) rfl rfl rfl (Later.mk' hw2) ?_ ?_
        · go_simp
        generalize (((((((((w2.setCell ⟨W.heap.size, 0, none⟩ (.int .i64 cf0)).setCell ⟨W.heap.size, 1, none⟩ (.int .i64 cf1)).setCell ⟨W.heap.size, 2, none⟩ (.int .i64 cf2)).setCell ⟨W.heap.size, 3, none⟩ (.int .i64 cf3)).setCell ⟨W.heap.size, 4, none⟩ (.int .i64 cf4)).setCell ⟨W.heap.size, 5, none⟩ (.int .i64 cf5)).setCell ⟨W.heap.size, 6, none⟩ (.int .i64 cf6)).setCell ⟨W.heap.size, 7, none⟩ (.int .i64 cf7)).setCell ⟨W.heap.size, 8, none⟩ (.int .i64 cf8)) = w4 at hw4 ⊢
        refine anyC_valD (some 10) (n := 0) (i := 19) (v := .int .i64 ce) (w' := w4) (by kernel_rfl) rfl rfl rfl (Later.mk' hw4) (by first | rfl | go_simp) ?_
        simp only [Act.put, List.setIfInBounds_toArray, List.set_cons_zero, List.set_cons_succ]
        refine anyC_done (by kernel_rfl) (Later.mk' hw4) ?_
        go_wp2_with fail
        go_meet
        exact ⟨rfl, hw4⟩
    case rest =>
      obtain ⟨rfl, hb8⟩ := hcut
      have hbw := hbw.trans (hb8.mono hbw.size)
      have X7 := X7.later hb8
      have hb := hb.trans (hb8.mono hb.size)
      clear hb8 x1
      have x7z := X7.lt
      have x75 : wc.cell? ⟨D, 5, none⟩ = some (.int .i64 p.rate) := X7.cell 5
      have x74 : wc.cell? ⟨D, 4, none⟩ = some (.int .i64 p.positions) := X7.cell 4
      have x78 : wc.cell? ⟨D, 8, none⟩ = some (.int .i64 p.feed) := X7.cell 8
      have hbadk : x.certB k = false → Hid (t = false ∧ i = (k : Int)) := fun h =>
        Lib.hid (hF.out.2 k (range_find hlt (fun j hj => by rw [hok.out j hj]; rfl) (by rw [h]; rfl)))
      cases ct with
      | false =>
        have HN := hbadk (by rw [HCB.out, hct.out]; rfl)
        clear hbadk
        go_wp2
        refine bodyPost_ret (results_tmp3 Try.results10 _) rfl ?_
        obtain ⟨rfl, rfl⟩ := HN.out
        exact ⟨rfl, hbw⟩
      | true =>
        by_cases hfd : x.mostT k ≤ p.feed
        · have hd4 : decide (p.feed < x.mostT k) = false := decide_eq_false (by omega)
          have hr := HV.out.rate
          have hp := HV.out.positions
          have hm := mul_le4 (a := p.rate) (b := p.positions) (A := 15) (B := 15) (by omega) (by omega)
          have hw : wrap64 (p.rate * p.positions) = p.rate * p.positions := by unfold wrap64; omega
          have hok2 : Hid (∀ j, j < k + 1 → x.certB j = true) := Lib.hid (fun j hj => by
            rcases Nat.lt_or_ge j k with h | h
            · exact hok.out j h
            · obtain rfl : j = k := by omega
              rw [HCB.out, hct.out, decide_eq_true hfd]
              rfl)
          clear hbadk hm hr hp
          go_wp2
          refine ⟨⟨k + 1, by omega, by go_num, ?_, hb, hok2⟩, by simp [intOf]; omega⟩
          rw [HM1.out, hw]
        · have hd4 : decide (p.feed < x.mostT k) = true := decide_eq_true (by omega)
          have HN := hbadk (by rw [HCB.out, hct.out, decide_eq_false hfd]; rfl)
          clear hbadk
          go_wp2
          refine bodyPost_ret (results_tmp3 Try.results10 _) rfl ?_
          obtain ⟨rfl, rfl⟩ := HN.out
          exact ⟨rfl, hbw⟩
theorem mCertified_is {x : Cs} {Vp Vc Vb : Value} {w : World} {t : Bool} {i er : Int} (h : Hid (x.certT = (t, i, er))) (hx : CsAt w w.heap.size Vp Vc Vb x) : Calls Try.prog 10 #[.agg #[Vp, Vc, Vb]] w fun e w' => e = .returned (.tuple #[.bool t, .int .i64 i, .int .i64 er]) ∧ Below w.heap.size w w' := by
  have h := h.out
  unfold Cs.certT at h
  by_cases h0 : x.checkT = 0
  · rw [if_pos h0] at h
    have hR := cs_right h0
    obtain ⟨Ap, kp, rfl, _⟩ := hx.plants.form
    obtain ⟨Ac, kc, rfl, _⟩ := hx.codes.form
    obtain ⟨Ab, kb, rfl, _⟩ := hx.bars.form
    obtain ⟨n, hn⟩ : ∃ n, x.plants.length = n := ⟨_, rfl⟩
    have h1 := hR.codes
    have h2 := hR.bars
    rw [hn] at h1 h2 hR h
    rw [hn, h1, h2] at hx ⊢
    rcases hf : (List.range n).find? (fun i => !x.certB i) with _ | k
    · rw [hf] at h
      simp only [Prod.mk.injEq] at h
      obtain ⟨rfl, rfl, rfl⟩ := h
      exact mCert_ok x Ap Ac Ab n kp kc kb w h0 hR hx true 0 (Lib.hid ⟨fun _ => ⟨rfl, rfl⟩, fun k hk => by rw [hf] at hk; cases hk⟩)
    · rw [hf] at h
      simp only [Prod.mk.injEq] at h
      obtain ⟨rfl, rfl, rfl⟩ := h
      exact mCert_ok x Ap Ac Ab n kp kc kb w h0 hR hx false k (Lib.hid ⟨fun hk => (by rw [hf] at hk; cases hk), fun j hj => (by rw [hf] at hj; cases hj; exact ⟨rfl, rfl⟩)⟩)
  · rw [if_neg h0] at h
    simp only [Prod.mk.injEq] at h
    obtain ⟨rfl, rfl, h2⟩ := h
    exact mCert_bad h2 (by rw [← h2]; exact h0) hx
end Go.Proofs.Ytcjcjkomcolgeaa
