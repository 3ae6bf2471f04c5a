/- Invariant of the reference of chapter 33. (Printed by gen_ny.py and pp.py.) No condition. -/
import Derived.Test.YtancngachnpefaaQK
import Derived.Test.YtancngachnpefaaQNW
import Derived.Test.YtancngachnpefaaQNL
import Derived.Test.YtancngachnpefaaQBU
set_option linter.unusedVariables false
set_option linter.unusedSimpArgs false
set_option maxRecDepth 100000
set_option maxHeartbeats 16000000
namespace Go.Proofs.Ytancngachnpefaa
open Go.RowKit
attribute [local go_sem] Oper.semAt_some
attribute [local go_sem ↓ high] app_named
theorem make_boolsB (w : World) (n : Nat) (hn : n ≤ 4096) : (Instr.makeSlice 100 (.int .i64 (n : Int)) (.int .i64 (n : Int))).run Try.prog w = .ok (.slice (some ⟨w.heap.size, 0, none⟩) n n) (w.alloc (.cells (List.replicate n (Value.bool false)).toArray 4)) := by
  obtain ⟨i, h1, h2, h3, h4⟩ := info_parts (show (Try.prog.info? 4).map (fun i => (i.zero, i.size, i.bytes)) = some (some (.bool false), 1, 1) by kernel_rfl)
  have := run_makeSlice (P := Try.prog) w 100 4 i (.bool false) Try.underlying100 h1 h2 .i64 .i64 n n (by omega) (Int.le_refl _) (by rw [h3]; simp; omega) (by rw [h4]; omega) (by omega)
  rw [h3] at this
  simp only [Int.toNat_natCast] at this
  rw [this, made_oneB _ rfl]
theorem rbInv_0 (p : Pl) (c : List Ln) (A2 : Option Addr) (m2 k2 : Nat) (w : World) (er : Int) (her : Hid (askT p c = er)) (h : Hid (askT p c ≠ 0)) (hC : Hid (CodeAt w w.heap.size (.slice A2 m2 k2) c)) :
    Calls Try.prog 17 #[p.v, .agg #[.slice A2 m2 k2]] w fun e w' => e = .returned (.tuple #[.slice none 0 0, .bool false, .int .i64 er]) ∧ Below w.heap.size w w' := by
  have hne : er ≠ 0 := by rw [← her.out]; exact h.out
  go_enter Try.func17, Try.ntmps17
  go_wp2_with fail
  have hB := ((Below.refl w.heap.size w).alloc (by simp <;> omega) (.cells #[.int .i64 p.top, .int .i64 p.bank, .int .i64 p.siphon, .int .i64 p.start, .int .i64 p.positions, .int .i64 p.rate, .int .i64 p.step, .int .i64 p.pass, .int .i64 p.feed, .int .i64 p.pipe, .int .i64 p.orders, .int .i64 p.age] 23)).alloc (by simp <;> omega) (.cells #[.slice A2 m2 k2] 26)
  generalize (w.alloc (.cells #[.int .i64 p.top, .int .i64 p.bank, .int .i64 p.siphon, .int .i64 p.start, .int .i64 p.positions, .int .i64 p.rate, .int .i64 p.step, .int .i64 p.pass, .int .i64 p.feed, .int .i64 p.pipe, .int .i64 p.orders, .int .i64 p.age] 23)).alloc (.cells #[.slice A2 m2 k2] 26) = w0 at hB ⊢
  refine (rbAsk_is her (hC.out.later hB)).mono ?_
  rintro e w1 ⟨rfl, hb⟩
  have hB := hB.trans (hb.mono hB.size)
  go_wp2
  refine bodyPost_ret (v := .tuple #[.slice none 0 0, .bool false, .int .i64 er]) (by simp [results, Try.results17, go_sem]) rfl ?_
  exact ⟨rfl, hB⟩
def TabRd (p : Pl) (c : List Ln) (w : World) (V : Value) : Prop := ∃ A k, V = .slice A p.states.length k ∧ ∀ i, i < p.states.length → ∃ g r, A = some ⟨g, 0, none⟩ ∧ g < w.heap.size ∧ w.cell? ⟨g, i, none⟩ = some (.slice (some ⟨r, 0, none⟩) p.shocks.length p.shocks.length) ∧ r < w.heap.size ∧ ∀ k, k < p.shocks.length → w.cell? ⟨r, k, none⟩ = some (.int .i64 (tabF p c i k : Nat))
theorem tab_rd {p : Pl} {c : List Ln} {w : World} {D m : Nat} {V : Value} {rs : List Nat} (hl : rs.length = p.states.length) (hO : OwnE (encR p.shocks.length) 1 w D 80 V rs) (hr : ∀ (i : Nat) (hi : i < rs.length), m ≤ rs[i] ∧ RowI w p.shocks.length rs[i] p.shocks.length (tabF p c i)) : TabRd p c w V := by
  obtain ⟨A, k, rfl, h1⟩ := hO.sl (fun _ => rfl)
  refine ⟨A, k, by rw [hl], fun i hi => ?_⟩
  obtain ⟨g, e1, _, e2, e3⟩ := h1 i (by omega)
  obtain ⟨_, h2⟩ := hr i (by omega)
  have h3 := h2.lt
  obtain ⟨cs, e4, e5, e6⟩ := h2
  refine ⟨g, rs[i], e1, e2, ?_, h3, fun k hk => ?_⟩
  · have := e3 0 (by omega)
    rw [Nat.mul_one, Nat.add_zero] at this
    exact this
  · have hx : Box w rs[i] cs := ⟨_, e4⟩
    rw [hx.cell]
    exact e6 k hk
def RetR (p : Pl) (c : List Ln) (w : World) (e : Ending) (w' : World) : Prop := ∃ V, e = .returned (.tuple #[V, .bool (!lostI p c p.beginT.1), .int .i64 0]) ∧ StRd w' V (p.states.filter (fun s => !lostI p c s)) ∧ Below w.heap.size w w'
theorem bs_at {p : Pl} {S : St → Bool} {w : World} {b i : Nat} (h : Box w b ((p.states.map S).map Value.bool)) (hi : i < p.states.length) : w.cell? ⟨b, i, none⟩ = some (.bool (S p.states[i])) := by
  rw [h.cell]
  simp [hi]
theorem rbInv_1 (p : Pl) (c : List Ln) (A2 : Option Addr) (m2 k2 : Nat) (w : World) (ha : Hid (askT p c = 0)) (b0 b1 b2 b3 b4 b5 be : Int) (hbe : Hid (p.beginT = (⟨b0, b1, b2, b3, b4, b5⟩, be))) (hC : Hid (CodeAt w w.heap.size (.slice A2 m2 k2) c)) :
    Calls Try.prog 17 #[p.v, .agg #[.slice A2 m2 k2]] w (RetR p c w) := by
  have HV := Lib.hid (Pl.check_zero (ask_zero ha.out).1).1
  have HCT := Lib.hid (count_le (ask_zero ha.out).1)
  go_enter Try.func17, Try.ntmps17
  go_wp2_with fail
  have hB := ((Below.refl w.heap.size w).alloc (by simp <;> omega) (.cells #[.int .i64 p.top, .int .i64 p.bank, .int .i64 p.siphon, .int .i64 p.start, .int .i64 p.positions, .int .i64 p.rate, .int .i64 p.step, .int .i64 p.pass, .int .i64 p.feed, .int .i64 p.pipe, .int .i64 p.orders, .int .i64 p.age] 23)).alloc (by simp <;> omega) (.cells #[.slice A2 m2 k2] 26)
  have X2 := (Box.newAt (w := w) (n := w.heap.size) [.int .i64 p.top, .int .i64 p.bank, .int .i64 p.siphon, .int .i64 p.start, .int .i64 p.positions, .int .i64 p.rate, .int .i64 p.step, .int .i64 p.pass, .int .i64 p.feed, .int .i64 p.pipe, .int .i64 p.orders, .int .i64 p.age] 23 rfl).alloc (.cells #[.slice A2 m2 k2] 26)
  have X3 := Box.newAt (w := w.alloc (.cells #[.int .i64 p.top, .int .i64 p.bank, .int .i64 p.siphon, .int .i64 p.start, .int .i64 p.positions, .int .i64 p.rate, .int .i64 p.step, .int .i64 p.pass, .int .i64 p.feed, .int .i64 p.pipe, .int .i64 p.orders, .int .i64 p.age] 23)) (n := w.heap.size + 1) [.slice A2 m2 k2] 26 (by simp)
  generalize (w.alloc (.cells #[.int .i64 p.top, .int .i64 p.bank, .int .i64 p.siphon, .int .i64 p.start, .int .i64 p.positions, .int .i64 p.rate, .int .i64 p.step, .int .i64 p.pass, .int .i64 p.feed, .int .i64 p.pipe, .int .i64 p.orders, .int .i64 p.age] 23)).alloc (.cells #[.slice A2 m2 k2] 26) = w0 at X2 X3 hB ⊢
  refine (rbAsk_is ha (hC.out.later hB)).mono ?_
  rintro e w1 ⟨rfl, hb⟩
  replace X2 := X2.later hb
  replace X3 := X3.later hb
  replace hB := hB.trans (hb.mono hB.size)
  clear hb
  obtain ⟨X2c0, X2c1, X2c2, X2c3, X2c4, X2c5, X2c6, X2c7, X2c8, X2c9, X2c10, X2c11⟩ := X2.c12
  have X2z := X2.lt
  go_wp2_with fail
  refine (rbStates_any p HV (Lib.hid (by have := HCT.out; omega)) w1).mono ?_
  rintro e w2 ⟨V8, rfl, B8, hB8, hO, hb⟩
  clear X2c0 X2c1 X2c2 X2c3 X2c4 X2c5 X2c6 X2c7 X2c8 X2c9 X2c10 X2c11 X2z
  replace X2 := X2.later hb
  replace X3 := X3.later hb
  replace hB := hB.trans (hb.mono hB.size)
  have hsl : p.states.length ≤ 4096 := by rw [states_len]; exact HCT.out
  have hS := hO.rd (by omega)
  clear hb hO hB8
  obtain ⟨n, hn⟩ : ∃ n, p.states.length = n := ⟨_, rfl⟩
  have HN := Lib.hid hn
  rw [hn] at hsl
  clear hn
  obtain ⟨As, cs, rfl, kx, kS⟩ := hS
  have KS := Lib.hid (show StRd w2 (.slice As p.states.length cs) p.states from ⟨As, cs, rfl, kx, kS⟩)
  clear kx kS
  simp only [HN.out]
  rw [HN.out] at KS
  have hd := (Below.refl w2.heap.size w2).drew
  have X2z := X2.lt
  have X3z := X3.lt
  have u0 : ∀ q : Later w2, q.w.cell? ⟨w.heap.size, 0, none⟩ = some (.int .i64 p.top) := Later.cell (X2.cell 0) X2z
  have u1 : ∀ q : Later w2, q.w.cell? ⟨w.heap.size, 1, none⟩ = some (.int .i64 p.bank) := Later.cell (X2.cell 1) X2z
  have u2 : ∀ q : Later w2, q.w.cell? ⟨w.heap.size, 2, none⟩ = some (.int .i64 p.siphon) := Later.cell (X2.cell 2) X2z
  have u3 : ∀ q : Later w2, q.w.cell? ⟨w.heap.size, 3, none⟩ = some (.int .i64 p.start) := Later.cell (X2.cell 3) X2z
  have u4 : ∀ q : Later w2, q.w.cell? ⟨w.heap.size, 4, none⟩ = some (.int .i64 p.positions) := Later.cell (X2.cell 4) X2z
  have u5 : ∀ q : Later w2, q.w.cell? ⟨w.heap.size, 5, none⟩ = some (.int .i64 p.rate) := Later.cell (X2.cell 5) X2z
  have u6 : ∀ q : Later w2, q.w.cell? ⟨w.heap.size, 6, none⟩ = some (.int .i64 p.step) := Later.cell (X2.cell 6) X2z
  have u7 : ∀ q : Later w2, q.w.cell? ⟨w.heap.size, 7, none⟩ = some (.int .i64 p.pass) := Later.cell (X2.cell 7) X2z
  have u8 : ∀ q : Later w2, q.w.cell? ⟨w.heap.size, 8, none⟩ = some (.int .i64 p.feed) := Later.cell (X2.cell 8) X2z
  have u9 : ∀ q : Later w2, q.w.cell? ⟨w.heap.size, 9, none⟩ = some (.int .i64 p.pipe) := Later.cell (X2.cell 9) X2z
  have u10 : ∀ q : Later w2, q.w.cell? ⟨w.heap.size, 10, none⟩ = some (.int .i64 p.orders) := Later.cell (X2.cell 10) X2z
  have u11 : ∀ q : Later w2, q.w.cell? ⟨w.heap.size, 11, none⟩ = some (.int .i64 p.age) := Later.cell (X2.cell 11) X2z
  have v0 : ∀ q : Later w2, q.w.cell? ⟨w.heap.size + 1, 0, none⟩ = some (.slice A2 m2 k2) := Later.cell (X3.cell 0) X3z
  go_upto_region 5 with fail
  refine wp_region_upto (C := fun w' => ∃ x : Later w2, w' = x.w) 5 [0, 1, 2, 3] (by kernel_rfl) (by kernel_rfl) (Later.mk' hd) (fun _ _ h => h) ?_
  simp only [headOps, List.filterMap_cons, List.filterMap_nil, List.getElem?_toArray, List.getElem?_cons_succ, List.getElem?_cons_zero]
  repeat (first | go_big_quiet_skip | (show wpQuiet _ _ _ _ (_ :: _) _; go_big_quiet_skip) | (show wpQuiet _ _ _ _ (_ :: _) _; go_big_quiet_want; go_big_quiet_op; go_big_quiet_on))
  refine wpQuiet_nil ?_
  clear u0 u1 u2 u3 u4 u5 u6 u7 u8 u9 u10 u11 v0
  refine anyG_one (n := 2) (i := 4) (by kernel_rfl) (fun _ => Later.mk' hd) ?_
  refine wpOp_callD (some 30) (by rfl) rfl rfl ?_ ((rbShocks_any p HV w2.drew).mono ?_)
  · go_simp
  rintro e W1 ⟨V30, rfl, hO, hb1⟩
  refine ⟨_, rfl, ?_⟩
  simp only [Act.put, List.setIfInBounds_toArray, List.set_cons_zero, List.set_cons_succ]
  have h1 := hd.trans (hb1.mono hd.size)
  have hH := hO.rd (by have := shocks_few HV.out; omega)
  refine anyG_one (n := 1) (i := 5) (by kernel_rfl) (fun _ => Later.mk' h1) ?_
  have hB1 := hB.trans (h1.mono hB.size)
  refine wpOp_callD (some 31) (by rfl) rfl rfl ?_ ((rbTable_is p c A2 m2 k2 (.slice As n cs) V30 W1 ha (Lib.hid ((hC.out.below hB1).more hB1.size)) (KS.out.later h1) hH).mono ?_)
  · go_simp
  rintro e w4 ⟨V9, rs, rfl, hb2, hrl, hO9, hrows⟩
  refine ⟨_, rfl, ?_⟩
  simp only [Act.put, List.setIfInBounds_toArray, List.set_cons_zero, List.set_cons_succ]
  have h2 := h1.trans (hb2.mono h1.size)
  refine anyG_val (some 9) (n := 0) (i := 6) (v := V9) (w' := w4) (by kernel_rfl) rfl rfl rfl (fun h => by cases h) (by first | rfl | go_simp) ?_
  simp only [Act.put, List.setIfInBounds_toArray, List.set_cons_zero, List.set_cons_succ]
  refine anyG_done (by kernel_rfl) rfl ?_
  have hb := h2
  replace X2 := X2.later hb
  replace X3 := X3.later hb
  replace hB := hB.trans (hb.mono hB.size)
  replace KS := Lib.hid (KS.out.later hb)
  have hms : p.shocks.length ≤ 1024 := shocks_few HV.out
  clear h2 hb2 hH h1 hb1 hO hb hB1 hd X2z X3z
  have hT := tab_rd hrl hO9 hrows
  clear hrl hO9 hrows
  obtain ⟨m, hm⟩ : ∃ m, p.shocks.length = m := ⟨_, rfl⟩
  have HM := Lib.hid hm
  rw [hm] at hms
  have HMS := Lib.hid hms
  obtain ⟨A9, c9, rfl, K9⟩ := hT
  rw [hm] at K9
  have KT := Lib.hid K9
  clear hm hms K9
  simp only [HN.out]
  dsimp only [Exit.then]
  have hmk := make_boolsB w4 n hsl
  go_upto_region 7 with fail
  clear hmk
  have hb4 := (Below.refl w4.heap.size w4).alloc (Nat.le_refl _) (.cells (Array.replicate n (Value.bool false)) 4)
  have hX : Box (w4.alloc (.cells (Array.replicate n (Value.bool false)) 4)) w4.heap.size ((fillL p 0).map Value.bool) := by
    rw [fill_zero, HN.out, List.map_replicate]
    exact Box.new w4 (List.replicate n (Value.bool false)) 4
  generalize w4.alloc (.cells (Array.replicate n (Value.bool false)) 4) = w5 at hb4 hX ⊢
  go_wp2_with fail
  go_loopw [11] (fun i wr => ∃ j : Nat, j ≤ n ∧ i = .int .i64 j ∧ Below w4.heap.size w4 wr ∧ Box wr w4.heap.size ((fillL p j).map Value.bool)) (fun i _ => n - (intOf i).toNat)
  case atStart => exact ⟨0, Nat.zero_le _, rfl, hb4, hX⟩
  case round =>
    clear hb4 hX
    obtain ⟨j, hj, rfl, hb4, hX⟩ := hrel
    obtain ⟨wi, rfl⟩ : ∃ wi : World, wi = wr := ⟨_, rfl⟩
    rcases Nat.lt_or_ge j n with hlt | hge
    · have e0 : (j : Int) < (n : Int) := by omega
      have hjl : j < p.states.length := by rw [HN.out]; exact hlt
      obtain ⟨A8, c8, h8, _, k8⟩ := KS.out
      cases h8
      obtain ⟨g, hAs, hg, q0, q1, q2, q3, q4, q5⟩ := k8 j hjl
      have HFS := Lib.hid (fill_set hjl)
      clear k8
      generalize p.states[j] = s at q0 q1 q2 q3 q4 q5 HFS
      obtain ⟨s0, s1, s2, s3, s4, s5⟩ := s
      obtain ⟨sf, hsf⟩ : ∃ sf, p.safeB ⟨s0, s1, s2, s3, s4, s5⟩ = sf := ⟨_, rfl⟩
      rw [hsf] at HFS
      have HSF := Lib.hid hsf
      dsimp only at q0 q1 q2 q3 q4 q5
      subst hAs
      have hd := (Below.refl wi.heap.size wi).drew
      have X2i := X2.later hb4
      have z2 := X2i.lt
      have zg := Nat.lt_of_lt_of_le hg hb4.size
      have u0 : ∀ q : Later wi, q.w.cell? ⟨w.heap.size, 0, none⟩ = some (.int .i64 p.top) := Later.cell (X2i.cell 0) z2
      have u1 : ∀ q : Later wi, q.w.cell? ⟨w.heap.size, 1, none⟩ = some (.int .i64 p.bank) := Later.cell (X2i.cell 1) z2
      have u2 : ∀ q : Later wi, q.w.cell? ⟨w.heap.size, 2, none⟩ = some (.int .i64 p.siphon) := Later.cell (X2i.cell 2) z2
      have u3 : ∀ q : Later wi, q.w.cell? ⟨w.heap.size, 3, none⟩ = some (.int .i64 p.start) := Later.cell (X2i.cell 3) z2
      have u4 : ∀ q : Later wi, q.w.cell? ⟨w.heap.size, 4, none⟩ = some (.int .i64 p.positions) := Later.cell (X2i.cell 4) z2
      have u5 : ∀ q : Later wi, q.w.cell? ⟨w.heap.size, 5, none⟩ = some (.int .i64 p.rate) := Later.cell (X2i.cell 5) z2
      have u6 : ∀ q : Later wi, q.w.cell? ⟨w.heap.size, 6, none⟩ = some (.int .i64 p.step) := Later.cell (X2i.cell 6) z2
      have u7 : ∀ q : Later wi, q.w.cell? ⟨w.heap.size, 7, none⟩ = some (.int .i64 p.pass) := Later.cell (X2i.cell 7) z2
      have u8 : ∀ q : Later wi, q.w.cell? ⟨w.heap.size, 8, none⟩ = some (.int .i64 p.feed) := Later.cell (X2i.cell 8) z2
      have u9 : ∀ q : Later wi, q.w.cell? ⟨w.heap.size, 9, none⟩ = some (.int .i64 p.pipe) := Later.cell (X2i.cell 9) z2
      have u10 : ∀ q : Later wi, q.w.cell? ⟨w.heap.size, 10, none⟩ = some (.int .i64 p.orders) := Later.cell (X2i.cell 10) z2
      have u11 : ∀ q : Later wi, q.w.cell? ⟨w.heap.size, 11, none⟩ = some (.int .i64 p.age) := Later.cell (X2i.cell 11) z2
      have a0 : ∀ q : Later wi, q.w.cell? ⟨g, j * 6, none⟩ = some (.int .i64 s0) := Later.cell ((hb4.cell hg).trans q0) zg
      have a1 : ∀ q : Later wi, q.w.cell? ⟨g, j * 6 + 1, none⟩ = some (.int .i64 s1) := Later.cell ((hb4.cell hg).trans q1) zg
      have a2 : ∀ q : Later wi, q.w.cell? ⟨g, j * 6 + 2, none⟩ = some (.int .i64 s2) := Later.cell ((hb4.cell hg).trans q2) zg
      have a3 : ∀ q : Later wi, q.w.cell? ⟨g, j * 6 + 3, none⟩ = some (.int .i64 s3) := Later.cell ((hb4.cell hg).trans q3) zg
      have a4 : ∀ q : Later wi, q.w.cell? ⟨g, j * 6 + 4, none⟩ = some (.int .i64 s4) := Later.cell ((hb4.cell hg).trans q4) zg
      have a5 : ∀ q : Later wi, q.w.cell? ⟨g, j * 6 + 5, none⟩ = some (.int .i64 s5) := Later.cell ((hb4.cell hg).trans q5) zg
      clear q0 q1 q2 q3 q4 q5 hsf
      go_upto_region 10 with fail
      refine wp_region_upto (C := fun w' => ∃ x : Later wi, w' = x.w) 9 [0, 1, 2, 3, 4, 5, 6] (by kernel_rfl) (by kernel_rfl) (Later.mk' hd) (fun _ _ h => h) ?_
      simp only [headOps, List.filterMap_cons, List.filterMap_nil, List.getElem?_toArray, List.getElem?_cons_succ, List.getElem?_cons_zero]
      repeat (first | go_big_quiet_skip | (show wpQuiet _ _ _ _ (_ :: _) _; go_big_quiet_skip) | (show wpQuiet _ _ _ _ (_ :: _) _; go_big_quiet_want; go_big_quiet_op; go_big_quiet_on))
      refine wpQuiet_nil ?_
      clear u0 u1 u2 u3 u4 u5 u6 u7 u8 u9 u10 u11 a0 a1 a2 a3 a4 a5
      refine anyG_one (n := 2) (i := 7) (by kernel_rfl) (fun _ => Later.mk' hd) ?_
      refine wpOp_callD (some 48) (by rfl) rfl rfl ?_ ((rbSafe_is (p := p) (s := ⟨s0, s1, s2, s3, s4, s5⟩) HSF).mono ?_)
      · go_simp
      rintro e W1 ⟨rfl, hb1⟩
      refine ⟨_, rfl, ?_⟩
      simp only [Act.put, List.setIfInBounds_toArray, List.set_cons_zero, List.set_cons_succ]
      have h1 := hd.trans (hb1.mono hd.size)
      have hX1 := hX.later h1
      have f1 := hX1.free j
      have zf := hX1.lt
      obtain ⟨vo, g1⟩ : ∃ vo, W1.cell? ⟨w4.heap.size, j, none⟩ = some vo := by
        have hl : j < ((fillL p j).map Value.bool).length := by rw [List.length_map, fill_len (Nat.le_of_lt hjl)]; exact hjl
        exact ⟨_, (hX1.cell j).trans (List.getElem?_eq_getElem hl)⟩
      refine anyG_val (some 49) (n := 1) (i := 8) (v := .pointer (some ⟨w4.heap.size, j, none⟩)) (w' := W1) (by kernel_rfl) rfl rfl rfl (fun _ => Later.mk' h1) (by go_simp) ?_
      simp only [Act.put, List.setIfInBounds_toArray, List.set_cons_zero, List.set_cons_succ]
      refine anyG_store (n := 0) (i := 9) (w' := W1.setCell ⟨w4.heap.size, j, none⟩ (.bool sf)) (by kernel_rfl) rfl rfl rfl (fun _ => Later.mk' h1) (by go_simp) ?_
      refine anyG_done (by kernel_rfl) rfl ?_
      clear f1 zf g1 vo
      have hX2 := hX1.set j (.bool sf)
      rw [← List.map_set, HFS.out] at hX2
      have hb5 := (hb4.trans (h1.mono hb4.size)).setCell (p := ⟨w4.heap.size, j, none⟩) (Nat.le_refl _) (.bool sf)
      clear hX1 h1 hb1 hX hb4 hd X2i
      generalize W1.setCell ⟨w4.heap.size, j, none⟩ (.bool sf) = ws at hX2 hb5 ⊢
      dsimp only [Exit.inBlock, Exit.then]
      go_wp2
      exact ⟨⟨j + 1, hlt, by go_num, hb5, hX2⟩, by simp [intOf]; omega⟩
    · obtain rfl : n = j := by omega
      have e0 : ¬ (n : Int) < (n : Int) := by omega
      replace hX := (show Box wi w4.heap.size ((p.states.map p.safeB).map Value.bool) by
        have h9 := hX
        rw [← HN.out, fill_all] at h9
        exact h9)
      go_wp2_with fail
      clear e0 hj hge
      go_loopw [12] (fun g wr => ∃ (b : Bool) (S : St → Bool), g = .bool b ∧ Below w4.heap.size w4 wr ∧ Box wr w4.heap.size ((p.states.map S).map Value.bool) ∧ Hid (∀ s, S s = false → OutP p c s) ∧ Hid (∀ s, S s = true → (p.safeT s).1 = true) ∧ Hid (b = false → ∀ s ∈ p.states, S s = true → staysT p c S s = true)) (fun g wr => if isYes g = true then yesIn wr w4.heap.size + 1 else 0)
      case atStart => exact ⟨true, p.safeB, rfl, hb4, hX, Lib.hid (fun s h => .here h), Lib.hid (fun s h => h), Lib.hid (fun h => by cases h)⟩
      case round =>
        clear hb4 hX
        obtain ⟨b, S, rfl, hb4, hX, HS1, HS2, HS3⟩ := hrel
        obtain ⟨wj, rfl⟩ : ∃ wj : World, wj = wr := ⟨_, rfl⟩
        cases b with
        | true =>
          have HY := Lib.hid (yes_states hX)
          go_wp2_with fail
          go_loopw [12, 13] (fun g i wr => ∃ j : Nat, j ≤ n ∧ i = .int .i64 j ∧ g = .bool (elimsT p c (p.states.take j) S).2 ∧ Below w4.heap.size w4 wr ∧ Box wr w4.heap.size ((p.states.map (elimsT p c (p.states.take j) S).1).map Value.bool)) (fun _ i _ => n - (intOf i).toNat)
          case atStart => exact ⟨0, Nat.zero_le _, rfl, by rw [List.take_zero]; rfl, hb4, by rw [List.take_zero]; exact hX⟩
          case round =>
            clear hb4 hX
            obtain ⟨j, hj, rfl, rfl, hb4, hX⟩ := hrel
            obtain ⟨wl, rfl⟩ : ∃ wl : World, wl = wr := ⟨_, rfl⟩
            rcases Nat.lt_or_ge j n with hlt | hge
            · have e0 : (j : Int) < (n : Int) := by omega
              have hjl : j < p.states.length := by rw [HN.out]; exact hlt
              have hnx : elimsT p c (p.states.take (j + 1)) S = elimT p c (elimsT p c (p.states.take j) S) p.states[j] := by rw [List.take_succ_eq_append_getElem hjl, elims_snoc]
              obtain ⟨⟨S1, b1⟩, hE⟩ : ∃ t, elimsT p c (p.states.take j) S = t := ⟨_, rfl⟩
              rw [hE] at hX hnx
              rw [hE]
              dsimp only at hX ⊢
              have hc0 := bs_at hX hjl
              have hsz := hX.lt
              have HST := Lib.hid (bs_stays ha.out S1 hjl)
              have HSB := Lib.hid (bs_set S1 hjl)
              have HLT : Hid (∀ k, k < p.shocks.length → tabF p c j k < p.states.length) := Lib.hid (fun k hk => tabF_lt ha.out hjl hk)
              obtain ⟨g, r, hA9, hg, qr, hr, qk⟩ := KT.out j hjl
              subst hA9
              have HNX := Lib.hid hnx
              clear hnx hE
              generalize p.states[j] = s at hc0 HST HSB HNX
              have hcr := (hb4.cell hg).trans qr
              have hzg := Nat.lt_of_lt_of_le hg hb4.size
              cases hS1 : S1 s with
              | false =>
                rw [hS1] at hc0
                go_wp2
                have hno := elim_no (p := p) (c := c) (a := (S1, b1)) (s := s) (.inl hS1)
                refine ⟨⟨j + 1, hlt, by go_num, ?_, hb4, ?_⟩, by simp [intOf]; omega⟩
                · rw [HNX.out, hno]
                · rw [HNX.out, hno]
                  exact hX
              | true =>
                rw [hS1] at hc0
                obtain ⟨q, hq⟩ : ∃ q, staysT p c S1 s = q := ⟨_, rfl⟩
                rw [hq] at HST
                rw [HM.out] at HST HLT
                go_wp2_with fail
                refine (rbStays_is r w4.heap.size m m n n (tabF p c j) (p.states.map S1) wl (fun k hk => (hb4.cell hr).trans (qk k hk)) (Nat.lt_of_lt_of_le hr hb4.size) (fun k hk => by have := HLT.out k hk; rw [HN.out] at this; exact this) hX (by rw [List.length_map]; exact HN.out) (by omega) (by have := HMS.out; omega) HST).mono ?_
                rintro e wm ⟨rfl, hb⟩
                have hX1 := hX.later hb
                have hb5 := hb4.trans (hb.mono hb4.size)
                clear hX hb4 hb hc0 hcr hzg hsz
                cases q with
                | true =>
                  go_wp2
                  have hno := elim_no (p := p) (c := c) (a := (S1, b1)) (s := s) (.inr hq)
                  refine ⟨⟨j + 1, hlt, by go_num, ?_, hb5, ?_⟩, by simp [intOf]; omega⟩
                  · rw [HNX.out, hno]
                  · rw [HNX.out, hno]
                    exact hX1
                | false =>
                  have f1 := hX1.free j
                  have zf := hX1.lt
                  obtain ⟨vo, g1⟩ : ∃ vo, wm.cell? ⟨w4.heap.size, j, none⟩ = some vo := by
                    have hl : j < ((p.states.map S1).map Value.bool).length := by rw [List.length_map, List.length_map]; exact hjl
                    exact ⟨_, (hX1.cell j).trans (List.getElem?_eq_getElem hl)⟩
                  go_wp2
                  have hyes := elim_yes (p := p) (c := c) (a := (S1, b1)) (s := s) hS1 hq
                  have hX2 := hX1.set j (.bool false)
                  rw [← List.map_set, HSB.out] at hX2
                  have hb6 := hb5.setCell (p := ⟨w4.heap.size, j, none⟩) (Nat.le_refl _) (.bool false)
                  refine ⟨⟨j + 1, hlt, by go_num, ?_, hb6, ?_⟩, by simp [intOf]; omega⟩
                  · rw [HNX.out, hyes]
                  · rw [HNX.out, hyes]
                    exact hX2
            · obtain rfl : n = j := by omega
              have e0 : ¬ (n : Int) < (n : Int) := by omega
              have htk : p.states.take n = p.states := by rw [← HN.out, List.take_length]
              rw [htk] at hX ⊢
              have HE1 := Lib.hid (elims_out (p := p) (c := c) p.states (S, false) HS1.out)
              have HE2 := Lib.hid (fun s (h : (elimsT p c p.states S).1 s = true) => HS2.out s (elims_sub (p := p) (c := c) p.states (S, false) s h))
              have HE3 := Lib.hid (elims_done (p := p) (c := c) p.states (S, false))
              have HE4 := Lib.hid (elims_less (p := p) (c := c) (L := p.states) p.states (S, false) (fun s h => h))
              go_wp2
              refine ⟨⟨(elimsT p c p.states S).2, (elimsT p c p.states S).1, rfl, hb4, hX, HE1, HE2, Lib.hid (fun h s hs h2 => ?_)⟩, ?_⟩
              · obtain ⟨h3, h4⟩ := HE3.out h
                have h5 : (elimsT p c p.states S).1 = S := congrArg Prod.fst h3
                rw [h5] at h2 ⊢
                exact h4 s hs h2
              · rw [yes_states hX]
                have h6 := HE4.out.2 rfl
                have h7 := HY.out
                simp only [isYes]
                change (if isYes (.bool (elimsT p c p.states S).2) = true then inE p.states (elimsT p c p.states S).1 + 1 else 0) < yesIn wj w4.heap.size + 1
                cases h8 : (elimsT p c p.states S).2 with
                | true =>
                  have h9 := h6 h8
                  rw [h7]
                  simp only [isYes, if_true]
                  exact Nat.succ_lt_succ h9
                | false => simp [isYes]
        | false =>
          obtain ⟨i0, E⟩ := elem_state
          have HS4 := Lib.hid (left_filter ha.out HS1.out HS2.out (HS3.out rfl))
          have hO0 : Hid (OwnE St.cells 6 wj (w4.heap.size + 1) 30 (.slice none 0 0) []) := Lib.hid (ownE_nil _ _ _ _ _)
          clear HS1 HS2 HS3
          go_wp2_with fail
          go_loopw [14, 15] (fun V i wr => ∃ (j : Nat) (Al : Option Addr) (nl cl : Nat), j ≤ n ∧ i = .int .i64 j ∧ V = .slice Al nl cl ∧ Below w4.heap.size w4 wr ∧ Box wr w4.heap.size ((p.states.map S).map Value.bool) ∧ Hid (OwnE St.cells 6 wr (w4.heap.size + 1) 30 (.slice Al nl cl) ((p.states.take j).filter S))) (fun _ i _ => n - (intOf i).toNat)
          case atStart => exact ⟨0, none, 0, 0, Nat.zero_le _, rfl, rfl, hb4, hX, by rw [List.take_zero]; exact hO0⟩
          case round =>
            clear hb4 hX hO0
            obtain ⟨j, Al, nl, cl, hj, rfl, rfl, hb4, hX, hO⟩ := hrel
            obtain ⟨wl, rfl⟩ : ∃ wl : World, wl = wr := ⟨_, rfl⟩
            rcases Nat.lt_or_ge j n with hlt | hge
            · have e0 : (j : Int) < (n : Int) := by omega
              have hjl : j < p.states.length := by rw [HN.out]; exact hlt
              have hnx : (p.states.take (j + 1)).filter S = (p.states.take j).filter S ++ (if S p.states[j] = true then [p.states[j]] else []) := by
                rw [List.take_succ_eq_append_getElem hjl, List.filter_append]
                cases h9 : S p.states[j] <;> simp [h9]
              have hc0 := bs_at hX hjl
              have hsz := hX.lt
              have HNX := Lib.hid hnx
              clear hnx
              have hpl : ((p.states.take j).filter S).length ≤ 4096 := by
                have := List.length_filter_le S (p.states.take j)
                have h2 : (p.states.take j).length ≤ j := by rw [List.length_take]; omega
                omega
              obtain ⟨A8, c8, h8, _, k8⟩ := KS.out
              cases h8
              obtain ⟨g, hAs, hg, q0, q1, q2, q3, q4, q5⟩ := k8 j hjl
              clear k8
              generalize p.states[j] = s at q0 q1 q2 q3 q4 q5 hc0 HNX
              subst hAs
              cases hS1 : S s with
              | false =>
                rw [hS1] at hc0
                go_wp2
                refine ⟨⟨j + 1, Al, nl, cl, hlt, by go_num, rfl, hb4, hX, ?_⟩, by simp [intOf]; omega⟩
                rw [HNX.out, hS1]
                simp only [Bool.false_eq_true, if_false, List.append_nil]
                exact hO
              | true =>
                rw [hS1] at hc0
                obtain ⟨s0, s1, s2, s3, s4, s5⟩ := s
                dsimp only at q0 q1 q2 q3 q4 q5
                have q0 := (hb4.cell hg).trans q0
                have q1 := (hb4.cell hg).trans q1
                have q2 := (hb4.cell hg).trans q2
                have q3 := (hb4.cell hg).trans q3
                have q4 := (hb4.cell hg).trans q4
                have q5 := (hb4.cell hg).trans q5
                have zg := Nat.lt_of_lt_of_le hg hb4.size
                have hbS := (Below.refl wl.heap.size wl).alloc (Nat.le_refl _) (.cells #[.int .i64 s0, .int .i64 s1, .int .i64 s2, .int .i64 s3, .int .i64 s4, .int .i64 s5] 30)
                have hO1 := OwnE.later hO.out hbS
                have XN := Box.new wl [.int .i64 s0, .int .i64 s1, .int .i64 s2, .int .i64 s3, .int .i64 s4, .int .i64 s5] 30
                have hX1 := hX.later hbS
                obtain ⟨g', c', w9, hr, hO2, hgr⟩ := run_appE E (fun _ => rfl) st_one (by omega) (⟨s0, s1, s2, s3, s4, s5⟩ : St) 43 hO1 XN (Nat.le_trans hsz hbS.size) (by omega)
                have hB1 := hb4.trans (hbS.mono hb4.size)
                have hB2 := OwnE.grown hO1 hgr (by omega) hB1 hB1.size
                have hX2 := box_grown hO1 hgr hX1 (by omega)
                have hnv : nl = ((p.states.take j).filter S).length := by
                  obtain ⟨A9, c9, h10⟩ := ownE_form hO1 (fun _ => rfl)
                  cases h10
                  rfl
                subst hnv
                have HO2 := Lib.hid hO2
                clear hO2 hgr hO1 XN hB1 hbS hO hX1
                go_wp2
                refine ⟨⟨j + 1, _, _, _, hlt, by go_num, rfl, hB2, hX2, ?_⟩, by simp [intOf]; omega⟩
                rw [HNX.out, hS1]
                exact HO2
            · obtain rfl : n = j := by omega
              have e0 : ¬ (n : Int) < (n : Int) := by omega
              have htk : p.states.take n = p.states := by rw [← HN.out, List.take_length]
              rw [htk] at hO
              rw [HS4.out.1] at hO
              have X2i := X2.later hb4
              obtain ⟨X2ic0, X2ic1, X2ic2, X2ic3, X2ic4, X2ic5, X2ic6, X2ic7, X2ic8, X2ic9, X2ic10, X2ic11⟩ := X2i.c12
              have X2iz := X2i.lt
              go_wp2_with fail
              refine (rbegin_is hbe).mono ?_
              rintro e w7 ⟨rfl, hb⟩
              clear X2i X2ic0 X2ic1 X2ic2 X2ic3 X2ic4 X2ic5 X2ic6 X2ic7 X2ic8 X2ic9 X2ic10 X2ic11 X2iz e0
              have hX1 := hX.later hb
              have hO1 := Lib.hid (OwnE.later hO.out hb)
              have hb5 := hb4.trans (hb.mono hb4.size)
              clear hX hO hb4 hb
              go_upto_region 27 with fail
              have hb := (Below.refl w7.heap.size w7).alloc (Nat.le_refl _) (.cells #[.int .i64 b0, .int .i64 b1, .int .i64 b2, .int .i64 b3, .int .i64 b4, .int .i64 b5] 30)
              have X16 := Box.new w7 [.int .i64 b0, .int .i64 b1, .int .i64 b2, .int .i64 b3, .int .i64 b4, .int .i64 b5] 30
              have hX2 := hX1.later hb
              have hO2 := Lib.hid (OwnE.later hO1.out hb)
              have hb6 := hb5.trans (hb.mono hb5.size)
              clear hX1 hO1 hb5 hb
              generalize w7.alloc (.cells #[.int .i64 b0, .int .i64 b1, .int .i64 b2, .int .i64 b3, .int .i64 b4, .int .i64 b5] 30) = w8 at X16 hX2 hO2 hb6 ⊢
              generalize w7.heap.size = G at X16 ⊢
              have X2i := X2.later hb6
              have z2 := X2i.lt
              have z16 := X16.lt
              have zX := hX2.lt
              have hBG : p.beginT.1 = ⟨b0, b1, b2, b3, b4, b5⟩ := congrArg Prod.fst hbe.out
              have hbh := begin_has HV.out (ask_zero ha.out).1
              have hix := idx_spec HV.out hbh
              have hSb := HS4.out.2
              rw [hBG] at hbh hix hSb
              have hbl : p.idx ⟨b0, b1, b2, b3, b4, b5⟩ < n := by rw [← HN.out, states_len]; exact hix.1
              have hcS : w8.cell? ⟨w4.heap.size, p.idx ⟨b0, b1, b2, b3, b4, b5⟩, none⟩ = some (.bool (S ⟨b0, b1, b2, b3, b4, b5⟩)) := by
                have hil : p.idx ⟨b0, b1, b2, b3, b4, b5⟩ < p.states.length := by rw [HN.out]; exact hbl
                have := bs_at hX2 hil
                rw [states_at, hix.2] at this
                exact this
              rw [hSb] at hcS
              have HBH := Lib.hid hbh
              clear hbh hix hSb
              obtain ⟨I, hI⟩ : ∃ I, p.idx ⟨b0, b1, b2, b3, b4, b5⟩ = I := ⟨_, rfl⟩
              have hz1 : ∀ z : Later w8, Calls Try.prog 51 #[p.v, (St.mk b0 b1 b2 b3 b4 b5).v] z.w (fun e w' => e = .returned (.int .i64 (I : Nat)) ∧ Below z.w.heap.size z.w w') := fun z => by rw [← hI]; exact rbIndex_is HV HBH z.w
              rw [hI] at hcS hbl
              have u0 : ∀ q : Later w8, q.w.cell? ⟨w.heap.size, 0, none⟩ = some (.int .i64 p.top) := Later.cell (X2i.cell 0) z2
              have u1 : ∀ q : Later w8, q.w.cell? ⟨w.heap.size, 1, none⟩ = some (.int .i64 p.bank) := Later.cell (X2i.cell 1) z2
              have u2 : ∀ q : Later w8, q.w.cell? ⟨w.heap.size, 2, none⟩ = some (.int .i64 p.siphon) := Later.cell (X2i.cell 2) z2
              have u3 : ∀ q : Later w8, q.w.cell? ⟨w.heap.size, 3, none⟩ = some (.int .i64 p.start) := Later.cell (X2i.cell 3) z2
              have u4 : ∀ q : Later w8, q.w.cell? ⟨w.heap.size, 4, none⟩ = some (.int .i64 p.positions) := Later.cell (X2i.cell 4) z2
              have u5 : ∀ q : Later w8, q.w.cell? ⟨w.heap.size, 5, none⟩ = some (.int .i64 p.rate) := Later.cell (X2i.cell 5) z2
              have u6 : ∀ q : Later w8, q.w.cell? ⟨w.heap.size, 6, none⟩ = some (.int .i64 p.step) := Later.cell (X2i.cell 6) z2
              have u7 : ∀ q : Later w8, q.w.cell? ⟨w.heap.size, 7, none⟩ = some (.int .i64 p.pass) := Later.cell (X2i.cell 7) z2
              have u8 : ∀ q : Later w8, q.w.cell? ⟨w.heap.size, 8, none⟩ = some (.int .i64 p.feed) := Later.cell (X2i.cell 8) z2
              have u9 : ∀ q : Later w8, q.w.cell? ⟨w.heap.size, 9, none⟩ = some (.int .i64 p.pipe) := Later.cell (X2i.cell 9) z2
              have u10 : ∀ q : Later w8, q.w.cell? ⟨w.heap.size, 10, none⟩ = some (.int .i64 p.orders) := Later.cell (X2i.cell 10) z2
              have u11 : ∀ q : Later w8, q.w.cell? ⟨w.heap.size, 11, none⟩ = some (.int .i64 p.age) := Later.cell (X2i.cell 11) z2
              have a0 : ∀ q : Later w8, q.w.cell? ⟨G, 0, none⟩ = some (.int .i64 b0) := Later.cell (X16.cell 0) z16
              have a1 : ∀ q : Later w8, q.w.cell? ⟨G, 1, none⟩ = some (.int .i64 b1) := Later.cell (X16.cell 1) z16
              have a2 : ∀ q : Later w8, q.w.cell? ⟨G, 2, none⟩ = some (.int .i64 b2) := Later.cell (X16.cell 2) z16
              have a3 : ∀ q : Later w8, q.w.cell? ⟨G, 3, none⟩ = some (.int .i64 b3) := Later.cell (X16.cell 3) z16
              have a4 : ∀ q : Later w8, q.w.cell? ⟨G, 4, none⟩ = some (.int .i64 b4) := Later.cell (X16.cell 4) z16
              have a5 : ∀ q : Later w8, q.w.cell? ⟨G, 5, none⟩ = some (.int .i64 b5) := Later.cell (X16.cell 5) z16
              have s0 : ∀ q : Later w8, q.w.cell? ⟨w4.heap.size, I, none⟩ = some (.bool (!lostI p c ⟨b0, b1, b2, b3, b4, b5⟩)) := Later.cell hcS zX
              have hi0 : (0 : Int) ≤ (I : Int) := by omega
              have hi1 : (I : Int) < (n : Int) := by omega
              generalize hlo : lostI p c ⟨b0, b1, b2, b3, b4, b5⟩ = lo at s0
              refine wp_region_later (by kernel_rfl) (by kernel_rfl) ?_
              repeat (go_big_quiet_step ((go_at_call 51; exact Later.call _ (hz1 _))))
              refine wpQuiet_nil ?_
              intro _ hw'
              obtain ⟨yq, hw''⟩ := hw'
              subst hw''
              have hO3 := OwnE.later hO2.out yq.below
              have hBw := hB.trans ((hb6.trans (yq.below.mono hb6.size)).mono hB.size)
              have hfl : (p.states.filter (fun s => !lostI p c s)).length ≤ 1048576 := by
                have := List.length_filter_le (fun s => !lostI p c s) p.states
                rw [HN.out] at this
                omega
              have HR : Hid (StRd yq.w (.slice Al nl cl) (p.states.filter (fun s => !lostI p c s))) := Lib.hid (OwnSt.rd hO3 hfl)
              have HLO : Hid ((!lo) = !lostI p c p.beginT.1) := Lib.hid (by rw [hbe.out, hlo])
              clear hO3 hO2 hX2 X16 X2i hb6 hcS hz1 s0 u0 u1 u2 u3 u4 u5 u6 u7 u8 u9 u10 u11 a0 a1 a2 a3 a4 a5
              generalize yq.w = W3 at hBw HR ⊢
              dsimp only [Exit.then]
              go_wp2
              refine bodyPost_ret (v := .tuple #[.slice Al nl cl, .bool (!lo), .int .i64 0]) (by simp [results, Try.results17, go_sem]) rfl ?_
              exact ⟨_, by rw [HLO.out], HR.out, hBw⟩
end Go.Proofs.Ytancngachnpefaa
namespace Go.Proofs.Ytancngachnpefaa
open Go.RowKit
attribute [local go_sem] Oper.semAt_some
attribute [local go_sem ↓ high] app_named
structure Wa where
  pos : Nat
  A : Option Addr
  n : Nat
  k : Nat
abbrev Wa.v (r : Wa) : Value := .slice r.A r.n r.k
abbrev Wa.cells (r : Wa) : List Value := [.int .i64 (r.pos : Int), .slice r.A r.n r.k]
theorem wa_one (x : Wa) : ∀ u ∈ x.cells, u.oneCell' = true := by
  intro u hu
  simp only [List.mem_cons, List.not_mem_nil, or_false] at hu
  rcases hu with rfl | rfl <;> rfl
theorem elem_way : ∃ i, Elem 110 109 i (.agg #[.int .i64 0, .slice none 0 0]) 2 32 := by
  obtain ⟨i, h1, h2, h3, h4⟩ := info_parts (show (Try.prog.info? 109).map (fun i => (i.zero, i.size, i.bytes)) = some (some (.agg #[.int .i64 0, .slice none 0 0]), 2, 32) by kernel_rfl)
  exact ⟨i, Try.underlying110, h1, h2, h3, h4, by decide, by decide⟩
abbrev OwnW (w : World) (base : Nat) (V : Value) (l : List Wa) : Prop := OwnE Wa.cells 2 w base 109 V l
def ByAt (p : Pl) (W : World) (D : Nat) (rs : List Wa) (ways : List (St × List Sh)) : Prop := rs.length = ways.length ∧ ∀ (k : Nat) (y : St) (l : List Sh), ways[k]? = some (y, l) → ∃ r : Wa, rs[k]? = some r ∧ r.pos = p.idx y ∧ OwnSh W D (.slice r.A r.n r.k) l
section
variable {p : Pl} {W W' : World} {D base : Nat} {V : Value} {rs : List Wa} {ways : List (St × List Sh)}
theorem ByAt.same (h : ByAt p W D rs ways) (hk : ∀ g cs, D ≤ g → W.heap[g]? = some (.cells cs 37 (0, 0)) → W'.heap[g]? = W.heap[g]?) : ByAt p W' D rs ways := by
  refine ⟨h.1, fun k y l hy => ?_⟩
  obtain ⟨r, h1, h2, h3⟩ := h.2 k y l hy
  refine ⟨r, h1, h2, h3.same (fun b hb => ?_)⟩
  obtain ⟨cs, h4⟩ := h3.cells? hb
  exact hk b cs (World.ownsRow.lt h3 b hb).1 h4
theorem ByAt.later (h : ByAt p W D rs ways) (hb : Below W.heap.size W W') : ByAt p W' D rs ways :=
  h.same fun g _ _ hg => hb.block g (Array.getElem?_eq_some_iff.1 hg).1
theorem ByAt.cell (h : ByAt p W D rs ways) {b : Nat} (hb : b < D) (i : Nat) (v : Value) : ByAt p (W.setCell ⟨b, i, none⟩ v) D rs ways :=
  h.same fun g _ hD _ => Below.heap_setCell W ⟨b, i, none⟩ v g (fun e => by dsimp only at e; omega)
theorem ByAt.grown (h : ByAt p W D rs ways) {l : List Wa} (ho : OwnW W base V l) (hg : W.grownBy W' V.ownBlock) : ByAt p W' D rs ways :=
  h.same fun g cs _ hc => hg.block g (Array.getElem?_eq_some_iff.1 hc).1 (fun e => by
    obtain ⟨cur, h1⟩ := ownE_obj ho e.symm
    rw [hc] at h1
    simp at h1)
theorem ByAt.snoc (h : ByAt p W D rs ways) {r : Wa} {y : St} {l : List Sh} (hr : r.pos = p.idx y) (hO : OwnSh W D (.slice r.A r.n r.k) l) : ByAt p W D (rs ++ [r]) (ways ++ [(y, l)]) := by
  refine ⟨by rw [List.length_append, List.length_append, h.1]; rfl, fun k z m hk => ?_⟩
  rcases Nat.lt_or_ge k ways.length with h1 | h1
  · rw [List.getElem?_append_left h1] at hk
    rw [List.getElem?_append_left (by rw [h.1]; exact h1)]
    exact h.2 k z m hk
  · rw [List.getElem?_append_right h1] at hk
    have h2 := h.1
    obtain ⟨h3, h4⟩ := List.getElem?_eq_some_iff.1 hk
    rw [List.length_singleton] at h3
    have h5 : k - ways.length = 0 := by omega
    rw [List.getElem?_append_right (by omega), h2, h5]
    rw [h5] at hk
    cases hk
    exact ⟨r, rfl, hr, hO⟩
theorem ByAt.start (W : World) (D : Nat) {s : St} : ByAt p W D [⟨p.idx s, none, 0, 0⟩] [(s, [])] := by
  refine ⟨rfl, fun k y l hk => ?_⟩
  obtain ⟨h3, h4⟩ := List.getElem?_eq_some_iff.1 hk
  rw [List.length_singleton] at h3
  obtain rfl : k = 0 := by omega
  cases hk
  exact ⟨_, rfl, rfl, ownE_nil _ _ _ _ _⟩
theorem way_cells {Av : Option Addr} {nv cv k : Nat} {r : Wa} (hO : OwnW W base (.slice Av nv cv) rs) (hr : rs[k]? = some r) : ∃ g, Av = some ⟨g, 0, none⟩ ∧ base ≤ g ∧ g < W.heap.size ∧ W.cell? ⟨g, k * 2, none⟩ = some (.int .i64 (r.pos : Int)) ∧ W.cell? ⟨g, k * 2 + 1, none⟩ = some (.slice r.A r.n r.k) := by
  obtain ⟨A, c, hv, h1⟩ := hO.sl (fun _ => rfl)
  cases hv
  obtain ⟨h2, rfl⟩ := List.getElem?_eq_some_iff.1 hr
  obtain ⟨g, e1, e2, e3, e4⟩ := h1 k h2
  exact ⟨g, e1, e2, e3, e4 0 (by omega), e4 1 (by omega)⟩
theorem ways_start (W : World) (hD : D ≤ W.heap.size) (I : Nat) : OwnW (W.alloc (.cells #[.int .i64 (I : Int), .slice none 0 0] 109)) D (.slice (some ⟨W.heap.size, 0, none⟩) 1 1) [⟨I, none, 0, 0⟩] :=
  ⟨rfl, .inr ⟨W.heap.size, 1, _, rfl, hD, World.alloc_heap_new W _, by simp, by simp [maxLen], rfl, rfl⟩⟩
theorem own_empty (W : World) (hD : D ≤ W.heap.size) : OwnSh (W.alloc (.cells #[] 37)) D (.slice (some ⟨W.heap.size, 0, none⟩) 0 0) [] :=
  ⟨rfl, .inr ⟨W.heap.size, 0, _, rfl, hD, World.alloc_heap_new W _, by simp, by simp [maxLen], rfl, rfl⟩⟩
theorem run_appAll {D2 n k : Nat} {A : Option Addr} {l l2 : List Sh} (ho : OwnSh W D V l) (h2 : OwnSh W D2 (.slice A n k) l2) (hD : D ≤ W.heap.size) (hl : l.length + l2.length ≤ 1048576) :
    ∃ A' c' W', (appF #[47, 47] 47 #[V, .slice A n k]).run Try.prog W = .ok (.slice A' (l.length + l2.length) c') W' ∧ OwnSh W' D (.slice A' (l.length + l2.length) c') (l ++ l2) ∧ W.grownBy W' V.ownBlock := by
  obtain ⟨i, E⟩ := elem_shock
  obtain ⟨A0, c0, rfl⟩ := ownE_form ho (fun _ => rfl)
  rcases h2.2 with ⟨hv, h0⟩ | ⟨g, cap, cur, hv, _, hg, _⟩
  · cases hv
    obtain rfl : l2 = [] := List.eq_nil_of_length_eq_zero h0
    refine ⟨A0, c0, W, run_append_owned_none (P := Try.prog) (w := W) D 47 47 37 i 2 E.ht E.hi _ _ _ ho, ?_, ⟨rfl, rfl, rfl, Nat.le_refl _, fun _ _ _ => rfl⟩⟩
    rw [List.append_nil]
    exact ho
  · cases hv
    obtain ⟨v', w', hr, h3, h4, _, _⟩ := run_append_own_at (P := Try.prog) W D 47 47 37 i _ 2 16 E.ht E.hi E.hz E.hsize E.hby E.hzs E.hsz _ _ _ ho ⟨g, 0, none⟩ l2.length k (l2.flatMap Sh.cells) h2.1
      (fun j u hu => World.ownsRow.cells h2 (g := g) rfl j u hu)
      (fun u hu => by
        obtain ⟨x, _, hx⟩ := List.mem_flatMap.1 hu
        exact sh_one x u hx) (by simp only [maxLen]; omega) (by omega) hD
    have h3' : OwnSh w' D v' (l ++ l2) := by
      show OwnE _ _ _ _ _ _ _
      rw [OwnE, List.length_append, List.flatMap_append]
      exact h3
    obtain ⟨A', c', rfl⟩ := ownE_form h3' (fun _ => rfl)
    rw [List.length_append] at h3' hr
    exact ⟨A', c', w', hr, h3', h4⟩
theorem run_app0 {D2 n k : Nat} {A : Option Addr} {l2 : List Sh} (ho : OwnSh W D V []) (h2 : OwnSh W D2 (.slice A n k) l2) (hD : D ≤ W.heap.size) (hl : l2.length ≤ 1048576) :
    ∃ A' c' W', (appF #[47, 47] 47 #[V, .slice A n k]).run Try.prog W = .ok (.slice A' l2.length c') W' ∧ OwnSh W' D (.slice A' l2.length c') l2 ∧ W.grownBy W' V.ownBlock := by
  have := run_appAll ho h2 hD (by simpa using hl)
  simpa only [List.length_nil, Nat.zero_add, List.nil_append] using this
end
end Go.Proofs.Ytancngachnpefaa
