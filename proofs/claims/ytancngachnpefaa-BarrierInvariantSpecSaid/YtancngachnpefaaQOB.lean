/- Escape of the reference of chapter 33. (Printed by gen_ob.py and pp.py.) No condition. -/
import Derived.Test.YtancngachnpefaaQK
import Derived.Test.YtancngachnpefaaQNY
set_option linter.unusedVariables false
set_option linter.unusedSimpArgs false
set_option maxRecDepth 100000
set_option maxHeartbeats 16000000
namespace Go.Proofs.Ytancngachnpefaa
open Go.RowKit
attribute [local go_sem] Oper.semAt_some
attribute [local go_sem ↓ high] app_named
def RetQ (p : Pl) (c : List Ln) (w : World) (e : Ending) (w' : World) : Prop := ∃ V, e = .returned (.tuple #[V, .bool (escT p c).2.1, .int .i64 0]) ∧ ShRd w' V (escT p c).1 ∧ Below w.heap.size w w'
theorem rbEsc_0 (p : Pl) (c : List Ln) (A2 : Option Addr) (m2 k2 : Nat) (w : World) (er : Int) (her : Hid (askT p c = er)) (h : Hid (askT p c ≠ 0)) (hC : Hid (CodeAt w w.heap.size (.slice A2 m2 k2) c)) :
    Calls Try.prog 20 #[p.v, .agg #[.slice A2 m2 k2]] w fun e w' => e = .returned (.tuple #[.slice none 0 0, .bool false, .int .i64 er]) ∧ Below w.heap.size w w' := by
  have hne : er ≠ 0 := by rw [← her.out]; exact h.out
  go_enter Try.func20, Try.ntmps20
  go_wp2_with fail
  have hB := ((Below.refl w.heap.size w).alloc (by simp <;> omega) (.cells #[.int .i64 p.top, .int .i64 p.bank, .int .i64 p.siphon, .int .i64 p.start, .int .i64 p.positions, .int .i64 p.rate, .int .i64 p.step, .int .i64 p.pass, .int .i64 p.feed, .int .i64 p.pipe, .int .i64 p.orders, .int .i64 p.age] 23)).alloc (by simp <;> omega) (.cells #[.slice A2 m2 k2] 26)
  generalize (w.alloc (.cells #[.int .i64 p.top, .int .i64 p.bank, .int .i64 p.siphon, .int .i64 p.start, .int .i64 p.positions, .int .i64 p.rate, .int .i64 p.step, .int .i64 p.pass, .int .i64 p.feed, .int .i64 p.pipe, .int .i64 p.orders, .int .i64 p.age] 23)).alloc (.cells #[.slice A2 m2 k2] 26) = w0 at hB ⊢
  refine (rbAsk_is her (hC.out.later hB)).mono ?_
  rintro e w1 ⟨rfl, hb⟩
  have hB := hB.trans (hb.mono hB.size)
  go_wp2
  refine bodyPost_ret (v := .tuple #[.slice none 0 0, .bool false, .int .i64 er]) (by simp [results, Try.results20, go_sem]) rfl ?_
  exact ⟨rfl, hB⟩
theorem rbEsc_1 (p : Pl) (c : List Ln) (A2 : Option Addr) (m2 k2 : Nat) (w : World) (ha : Hid (askT p c = 0)) (b0 b1 b2 b3 b4 b5 be : Int) (hbe : Hid (p.beginT = (⟨b0, b1, b2, b3, b4, b5⟩, be))) (HSB : Hid (p.safeB ⟨b0, b1, b2, b3, b4, b5⟩ = false)) (hC : Hid (CodeAt w w.heap.size (.slice A2 m2 k2) c)) :
    Calls Try.prog 20 #[p.v, .agg #[.slice A2 m2 k2]] w fun e w' => e = .returned (.tuple #[.slice none 0 0, .bool true, .int .i64 0]) ∧ Below w.heap.size w w' := by
  have HV := Lib.hid (Pl.check_zero (ask_zero ha.out).1).1
  have HCT := Lib.hid (count_le (ask_zero ha.out).1)
  go_enter Try.func20, Try.ntmps20
  go_wp2_with fail
  have hB := ((Below.refl w.heap.size w).alloc (by simp <;> omega) (.cells #[.int .i64 p.top, .int .i64 p.bank, .int .i64 p.siphon, .int .i64 p.start, .int .i64 p.positions, .int .i64 p.rate, .int .i64 p.step, .int .i64 p.pass, .int .i64 p.feed, .int .i64 p.pipe, .int .i64 p.orders, .int .i64 p.age] 23)).alloc (by simp <;> omega) (.cells #[.slice A2 m2 k2] 26)
  have X2 := (Box.newAt (w := w) (n := w.heap.size) [.int .i64 p.top, .int .i64 p.bank, .int .i64 p.siphon, .int .i64 p.start, .int .i64 p.positions, .int .i64 p.rate, .int .i64 p.step, .int .i64 p.pass, .int .i64 p.feed, .int .i64 p.pipe, .int .i64 p.orders, .int .i64 p.age] 23 rfl).alloc (.cells #[.slice A2 m2 k2] 26)
  have X3 := Box.newAt (w := w.alloc (.cells #[.int .i64 p.top, .int .i64 p.bank, .int .i64 p.siphon, .int .i64 p.start, .int .i64 p.positions, .int .i64 p.rate, .int .i64 p.step, .int .i64 p.pass, .int .i64 p.feed, .int .i64 p.pipe, .int .i64 p.orders, .int .i64 p.age] 23)) (n := w.heap.size + 1) [.slice A2 m2 k2] 26 (by simp)
  generalize (w.alloc (.cells #[.int .i64 p.top, .int .i64 p.bank, .int .i64 p.siphon, .int .i64 p.start, .int .i64 p.positions, .int .i64 p.rate, .int .i64 p.step, .int .i64 p.pass, .int .i64 p.feed, .int .i64 p.pipe, .int .i64 p.orders, .int .i64 p.age] 23)).alloc (.cells #[.slice A2 m2 k2] 26) = w0 at X2 X3 hB ⊢
  refine (rbAsk_is ha (hC.out.later hB)).mono ?_
  rintro e w1 ⟨rfl, hb⟩
  replace X2 := X2.later hb
  replace X3 := X3.later hb
  replace hB := hB.trans (hb.mono hB.size)
  clear hb
  obtain ⟨X2c0, X2c1, X2c2, X2c3, X2c4, X2c5, X2c6, X2c7, X2c8, X2c9, X2c10, X2c11⟩ := X2.c12
  have X2z := X2.lt
  go_wp2_with fail
  refine (rbStates_any p HV (Lib.hid (by have := HCT.out; omega)) w1).mono ?_
  rintro e w2 ⟨V8, rfl, B8, hB8, hO, hb⟩
  clear X2c0 X2c1 X2c2 X2c3 X2c4 X2c5 X2c6 X2c7 X2c8 X2c9 X2c10 X2c11 X2z
  replace X2 := X2.later hb
  replace X3 := X3.later hb
  replace hB := hB.trans (hb.mono hB.size)
  have hsl : p.states.length ≤ 4096 := by rw [states_len]; exact HCT.out
  have hS := hO.rd (by omega)
  clear hb hO hB8
  obtain ⟨n, hn⟩ : ∃ n, p.states.length = n := ⟨_, rfl⟩
  have HN := Lib.hid hn
  rw [hn] at hsl
  clear hn
  obtain ⟨As, cs, rfl, kx, kS⟩ := hS
  have KS := Lib.hid (show StRd w2 (.slice As p.states.length cs) p.states from ⟨As, cs, rfl, kx, kS⟩)
  clear kx kS
  simp only [HN.out]
  rw [HN.out] at KS
  obtain ⟨X2c0, X2c1, X2c2, X2c3, X2c4, X2c5, X2c6, X2c7, X2c8, X2c9, X2c10, X2c11⟩ := X2.c12
  have X2z := X2.lt
  go_wp2_with fail
  refine (rbShocks_any p HV w2).mono ?_
  rintro e w3 ⟨V9, rfl, hO, hb⟩
  clear X2c0 X2c1 X2c2 X2c3 X2c4 X2c5 X2c6 X2c7 X2c8 X2c9 X2c10 X2c11 X2z
  replace X2 := X2.later hb
  replace X3 := X3.later hb
  replace KS := Lib.hid (KS.out.later hb)
  replace hB := hB.trans (hb.mono hB.size)
  have hms : p.shocks.length ≤ 1024 := shocks_few HV.out
  have hS := hO.rd (by omega)
  clear hb hO
  obtain ⟨m, hm⟩ : ∃ m, p.shocks.length = m := ⟨_, rfl⟩
  have HM := Lib.hid hm
  rw [hm] at hms
  have HMS := Lib.hid hms
  clear hm hms
  obtain ⟨Ah, ch, rfl, kx, kH⟩ := hS
  have KH := Lib.hid (show ShRd w3 (.slice Ah p.shocks.length ch) p.shocks from ⟨Ah, ch, rfl, kx, kH⟩)
  clear kx kH
  simp only [HM.out]
  rw [HM.out] at KH
  obtain ⟨X2c0, X2c1, X2c2, X2c3, X2c4, X2c5, X2c6, X2c7, X2c8, X2c9, X2c10, X2c11⟩ := X2.c12
  have X2z := X2.lt
  go_wp2_with fail
  refine (rbegin_is hbe).mono ?_
  rintro e w7 ⟨rfl, hb⟩
  clear X2c0 X2c1 X2c2 X2c3 X2c4 X2c5 X2c6 X2c7 X2c8 X2c9 X2c10 X2c11 X2z
  replace X2 := X2.later hb
  replace X3 := X3.later hb
  replace KS := Lib.hid (KS.out.later hb)
  replace KH := Lib.hid (KH.out.later hb)
  replace hB := hB.trans (hb.mono hB.size)
  clear hb
  go_upto_region 7 with fail
  have hb := (Below.refl w7.heap.size w7).alloc (Nat.le_refl _) (.cells #[.int .i64 b0, .int .i64 b1, .int .i64 b2, .int .i64 b3, .int .i64 b4, .int .i64 b5] 30)
  have XB := Box.new w7 [.int .i64 b0, .int .i64 b1, .int .i64 b2, .int .i64 b3, .int .i64 b4, .int .i64 b5] 30
  replace X2 := X2.later hb
  replace X3 := X3.later hb
  replace KS := Lib.hid (KS.out.later hb)
  replace KH := Lib.hid (KH.out.later hb)
  replace hB := hB.trans (hb.mono hB.size)
  clear hb
  generalize w7.alloc (.cells #[.int .i64 b0, .int .i64 b1, .int .i64 b2, .int .i64 b3, .int .i64 b4, .int .i64 b5] 30) = w8 at XB X2 X3 KS KH hB ⊢
  generalize w7.heap.size = G at XB ⊢
  obtain ⟨X2c0, X2c1, X2c2, X2c3, X2c4, X2c5, X2c6, X2c7, X2c8, X2c9, X2c10, X2c11⟩ := X2.c12
  have X2z := X2.lt
  obtain ⟨XBc0, XBc1, XBc2, XBc3, XBc4, XBc5⟩ := XB.c6
  have XBz := XB.lt
  go_wp2_with fail
  refine (rbSafe_is (p := p) (s := ⟨b0, b1, b2, b3, b4, b5⟩) HSB).mono ?_
  rintro e w4 ⟨rfl, hb⟩
  clear X2c0 X2c1 X2c2 X2c3 X2c4 X2c5 X2c6 X2c7 X2c8 X2c9 X2c10 X2c11 X2z
  clear XBc0 XBc1 XBc2 XBc3 XBc4 XBc5 XBz
  replace X2 := X2.later hb
  replace X3 := X3.later hb
  replace XB := XB.later hb
  replace KS := Lib.hid (KS.out.later hb)
  replace KH := Lib.hid (KH.out.later hb)
  replace hB := hB.trans (hb.mono hB.size)
  clear hb
  go_wp2
  refine bodyPost_ret (v := .tuple #[.slice none 0 0, .bool true, .int .i64 0]) (by simp [results, Try.results20, go_sem]) rfl ?_
  exact ⟨rfl, hB⟩
theorem rbEsc_2 (p : Pl) (c : List Ln) (A2 : Option Addr) (m2 k2 : Nat) (w : World) (ha : Hid (askT p c = 0)) (b0 b1 b2 b3 b4 b5 be : Int) (hbe : Hid (p.beginT = (⟨b0, b1, b2, b3, b4, b5⟩, be))) (HSB : Hid (p.safeB ⟨b0, b1, b2, b3, b4, b5⟩ = true)) (hC : Hid (CodeAt w w.heap.size (.slice A2 m2 k2) c)) :
    Calls Try.prog 20 #[p.v, .agg #[.slice A2 m2 k2]] w (RetQ p c w) := by
  have HV := Lib.hid (Pl.check_zero (ask_zero ha.out).1).1
  have HCT := Lib.hid (count_le (ask_zero ha.out).1)
  go_enter Try.func20, Try.ntmps20
  go_wp2_with fail
  have hB := ((Below.refl w.heap.size w).alloc (by simp <;> omega) (.cells #[.int .i64 p.top, .int .i64 p.bank, .int .i64 p.siphon, .int .i64 p.start, .int .i64 p.positions, .int .i64 p.rate, .int .i64 p.step, .int .i64 p.pass, .int .i64 p.feed, .int .i64 p.pipe, .int .i64 p.orders, .int .i64 p.age] 23)).alloc (by simp <;> omega) (.cells #[.slice A2 m2 k2] 26)
  have X2 := (Box.newAt (w := w) (n := w.heap.size) [.int .i64 p.top, .int .i64 p.bank, .int .i64 p.siphon, .int .i64 p.start, .int .i64 p.positions, .int .i64 p.rate, .int .i64 p.step, .int .i64 p.pass, .int .i64 p.feed, .int .i64 p.pipe, .int .i64 p.orders, .int .i64 p.age] 23 rfl).alloc (.cells #[.slice A2 m2 k2] 26)
  have X3 := Box.newAt (w := w.alloc (.cells #[.int .i64 p.top, .int .i64 p.bank, .int .i64 p.siphon, .int .i64 p.start, .int .i64 p.positions, .int .i64 p.rate, .int .i64 p.step, .int .i64 p.pass, .int .i64 p.feed, .int .i64 p.pipe, .int .i64 p.orders, .int .i64 p.age] 23)) (n := w.heap.size + 1) [.slice A2 m2 k2] 26 (by simp)
  generalize (w.alloc (.cells #[.int .i64 p.top, .int .i64 p.bank, .int .i64 p.siphon, .int .i64 p.start, .int .i64 p.positions, .int .i64 p.rate, .int .i64 p.step, .int .i64 p.pass, .int .i64 p.feed, .int .i64 p.pipe, .int .i64 p.orders, .int .i64 p.age] 23)).alloc (.cells #[.slice A2 m2 k2] 26) = w0 at X2 X3 hB ⊢
  refine (rbAsk_is ha (hC.out.later hB)).mono ?_
  rintro e w1 ⟨rfl, hb⟩
  replace X2 := X2.later hb
  replace X3 := X3.later hb
  replace hB := hB.trans (hb.mono hB.size)
  clear hb
  obtain ⟨X2c0, X2c1, X2c2, X2c3, X2c4, X2c5, X2c6, X2c7, X2c8, X2c9, X2c10, X2c11⟩ := X2.c12
  have X2z := X2.lt
  go_wp2_with fail
  refine (rbStates_any p HV (Lib.hid (by have := HCT.out; omega)) w1).mono ?_
  rintro e w2 ⟨V8, rfl, B8, hB8, hO, hb⟩
  clear X2c0 X2c1 X2c2 X2c3 X2c4 X2c5 X2c6 X2c7 X2c8 X2c9 X2c10 X2c11 X2z
  replace X2 := X2.later hb
  replace X3 := X3.later hb
  replace hB := hB.trans (hb.mono hB.size)
  have hsl : p.states.length ≤ 4096 := by rw [states_len]; exact HCT.out
  have hS := hO.rd (by omega)
  clear hb hO hB8
  obtain ⟨n, hn⟩ : ∃ n, p.states.length = n := ⟨_, rfl⟩
  have HN := Lib.hid hn
  rw [hn] at hsl
  clear hn
  obtain ⟨As, cs, rfl, kx, kS⟩ := hS
  have KS := Lib.hid (show StRd w2 (.slice As p.states.length cs) p.states from ⟨As, cs, rfl, kx, kS⟩)
  clear kx kS
  simp only [HN.out]
  rw [HN.out] at KS
  obtain ⟨X2c0, X2c1, X2c2, X2c3, X2c4, X2c5, X2c6, X2c7, X2c8, X2c9, X2c10, X2c11⟩ := X2.c12
  have X2z := X2.lt
  go_wp2_with fail
  refine (rbShocks_any p HV w2).mono ?_
  rintro e w3 ⟨V9, rfl, hO, hb⟩
  clear X2c0 X2c1 X2c2 X2c3 X2c4 X2c5 X2c6 X2c7 X2c8 X2c9 X2c10 X2c11 X2z
  replace X2 := X2.later hb
  replace X3 := X3.later hb
  replace KS := Lib.hid (KS.out.later hb)
  replace hB := hB.trans (hb.mono hB.size)
  have hms : p.shocks.length ≤ 1024 := shocks_few HV.out
  have hS := hO.rd (by omega)
  clear hb hO
  obtain ⟨m, hm⟩ : ∃ m, p.shocks.length = m := ⟨_, rfl⟩
  have HM := Lib.hid hm
  rw [hm] at hms
  have HMS := Lib.hid hms
  clear hm hms
  obtain ⟨Ah, ch, rfl, kx, kH⟩ := hS
  have KH := Lib.hid (show ShRd w3 (.slice Ah p.shocks.length ch) p.shocks from ⟨Ah, ch, rfl, kx, kH⟩)
  clear kx kH
  simp only [HM.out]
  rw [HM.out] at KH
  obtain ⟨X2c0, X2c1, X2c2, X2c3, X2c4, X2c5, X2c6, X2c7, X2c8, X2c9, X2c10, X2c11⟩ := X2.c12
  have X2z := X2.lt
  go_wp2_with fail
  refine (rbegin_is hbe).mono ?_
  rintro e w7 ⟨rfl, hb⟩
  clear X2c0 X2c1 X2c2 X2c3 X2c4 X2c5 X2c6 X2c7 X2c8 X2c9 X2c10 X2c11 X2z
  replace X2 := X2.later hb
  replace X3 := X3.later hb
  replace KS := Lib.hid (KS.out.later hb)
  replace KH := Lib.hid (KH.out.later hb)
  replace hB := hB.trans (hb.mono hB.size)
  clear hb
  go_upto_region 7 with fail
  have hb := (Below.refl w7.heap.size w7).alloc (Nat.le_refl _) (.cells #[.int .i64 b0, .int .i64 b1, .int .i64 b2, .int .i64 b3, .int .i64 b4, .int .i64 b5] 30)
  have XB := Box.new w7 [.int .i64 b0, .int .i64 b1, .int .i64 b2, .int .i64 b3, .int .i64 b4, .int .i64 b5] 30
  replace X2 := X2.later hb
  replace X3 := X3.later hb
  replace KS := Lib.hid (KS.out.later hb)
  replace KH := Lib.hid (KH.out.later hb)
  replace hB := hB.trans (hb.mono hB.size)
  clear hb
  generalize w7.alloc (.cells #[.int .i64 b0, .int .i64 b1, .int .i64 b2, .int .i64 b3, .int .i64 b4, .int .i64 b5] 30) = w8 at XB X2 X3 KS KH hB ⊢
  generalize w7.heap.size = G at XB ⊢
  obtain ⟨X2c0, X2c1, X2c2, X2c3, X2c4, X2c5, X2c6, X2c7, X2c8, X2c9, X2c10, X2c11⟩ := X2.c12
  have X2z := X2.lt
  obtain ⟨XBc0, XBc1, XBc2, XBc3, XBc4, XBc5⟩ := XB.c6
  have XBz := XB.lt
  go_wp2_with fail
  refine (rbSafe_is (p := p) (s := ⟨b0, b1, b2, b3, b4, b5⟩) HSB).mono ?_
  rintro e w4 ⟨rfl, hb⟩
  clear X2c0 X2c1 X2c2 X2c3 X2c4 X2c5 X2c6 X2c7 X2c8 X2c9 X2c10 X2c11 X2z
  clear XBc0 XBc1 XBc2 XBc3 XBc4 XBc5 XBz
  replace X2 := X2.later hb
  replace X3 := X3.later hb
  replace XB := XB.later hb
  replace KS := Lib.hid (KS.out.later hb)
  replace KH := Lib.hid (KH.out.later hb)
  replace hB := hB.trans (hb.mono hB.size)
  clear hb
  have hmk := make_boolsB w4 n hsl
  go_upto_region 10 with fail
  clear hmk
  have hb4 := (Below.refl w4.heap.size w4).alloc (Nat.le_refl _) (.cells (Array.replicate n (Value.bool false)) 4)
  have hX : Box (w4.alloc (.cells (Array.replicate n (Value.bool false)) 4)) w4.heap.size ((List.replicate n false).map Value.bool) := by
    rw [List.map_replicate]
    exact Box.new w4 (List.replicate n (Value.bool false)) 4
  generalize w4.alloc (.cells (Array.replicate n (Value.bool false)) 4) = w5 at hb4 hX ⊢
  have hBG : p.beginT.1 = ⟨b0, b1, b2, b3, b4, b5⟩ := congrArg Prod.fst hbe.out
  have hbh := begin_has HV.out (ask_zero ha.out).1
  have hix := idx_spec HV.out hbh
  rw [hBG] at hbh hix
  have HBH := Lib.hid hbh
  have hsn := HN.out
  have hbl0 : p.idx ⟨b0, b1, b2, b3, b4, b5⟩ < p.states.length := by rw [states_len]; exact hix.1
  have hst0 : p.states[p.idx ⟨b0, b1, b2, b3, b4, b5⟩] = ⟨b0, b1, b2, b3, b4, b5⟩ := by rw [states_at]; exact hix.2
  have HST := Lib.hid (known_start hbl0 hst0 ⟨St.zero, Sh.zero⟩)
  obtain ⟨I, hI⟩ : ∃ I, p.idx ⟨b0, b1, b2, b3, b4, b5⟩ = I := ⟨_, rfl⟩
  have hbl : I < n := by rw [← HN.out, ← hI]; exact hbl0
  have HBY : Hid (∀ W, ByAt p W (w4.heap.size + 1) [⟨I, none, 0, 0⟩] [(p.beginT.1, [])]) := Lib.hid (fun W => by rw [hBG, ← hI]; exact ByAt.start W _)
  rw [hI] at HST
  clear hbh hix hst0 hbl0 hsn
  have HIJ := Lib.hid hI
  clear hI
  have X25 := X2.later hb4
  have XB5 := XB.later hb4
  obtain ⟨X25c0, X25c1, X25c2, X25c3, X25c4, X25c5, X25c6, X25c7, X25c8, X25c9, X25c10, X25c11⟩ := X25.c12
  have X25z := X25.lt
  obtain ⟨XB5c0, XB5c1, XB5c2, XB5c3, XB5c4, XB5c5⟩ := XB5.c6
  have XB5z := XB5.lt
  have hi0 : (0 : Int) ≤ (I : Int) := by omega
  have hi1 : (I : Int) < (n : Int) := by omega
  go_wp2_with fail
  have hz1 := rbIndex_is HV (s := ⟨b0, b1, b2, b3, b4, b5⟩) HBH w5
  rw [HIJ.out] at hz1
  refine hz1.mono ?_
  rintro e w6 ⟨rfl, hb⟩
  clear hz1
  clear X25c0 X25c1 X25c2 X25c3 X25c4 X25c5 X25c6 X25c7 X25c8 X25c9 X25c10 X25c11 X25z
  clear XB5c0 XB5c1 XB5c2 XB5c3 XB5c4 XB5c5 XB5z
  replace hX := hX.later hb
  replace X25 := X25.later hb
  replace XB5 := XB5.later hb
  replace hb4 := hb4.trans (hb.mono hb4.size)
  clear hb
  have f1 := hX.free I
  have zf := hX.lt
  obtain ⟨vo, g1⟩ : ∃ vo, w6.cell? ⟨w4.heap.size, I, none⟩ = some vo := by
    have hl : I < ((List.replicate n false).map Value.bool).length := by rw [List.length_map, List.length_replicate]; exact hbl
    exact ⟨_, (hX.cell I).trans (List.getElem?_eq_getElem hl)⟩
  go_upto_region 11 with fail
  clear f1 zf g1 vo
  have hX1 := hX.set I (.bool true)
  rw [← List.map_set] at hX1
  have hb5 := hb4.setCell (p := ⟨w4.heap.size, I, none⟩) (Nat.le_refl _) (.bool true)
  replace X25 := X2.later hb5
  replace XB5 := XB.later hb5
  clear hX hb4
  generalize w6.setCell ⟨w4.heap.size, I, none⟩ (.bool true) = w9 at hX1 hb5 X25 XB5 ⊢
  obtain ⟨X25c0, X25c1, X25c2, X25c3, X25c4, X25c5, X25c6, X25c7, X25c8, X25c9, X25c10, X25c11⟩ := X25.c12
  have X25z := X25.lt
  obtain ⟨XB5c0, XB5c1, XB5c2, XB5c3, XB5c4, XB5c5⟩ := XB5.c6
  have XB5z := XB5.lt
  go_wp2_with fail
  have hz1 := rbIndex_is HV (s := ⟨b0, b1, b2, b3, b4, b5⟩) HBH w9
  rw [HIJ.out] at hz1
  refine hz1.mono ?_
  rintro e w10 ⟨rfl, hb⟩
  clear hz1
  clear X25c0 X25c1 X25c2 X25c3 X25c4 X25c5 X25c6 X25c7 X25c8 X25c9 X25c10 X25c11 X25z
  clear XB5c0 XB5c1 XB5c2 XB5c3 XB5c4 XB5c5 XB5z
  have hX := hX1.later hb
  have hb4 := hb5.trans (hb.mono hb5.size)
  clear hb hX1 hb5 X25 XB5
  go_upto_region 12 with fail
  have hzw : w4.heap.size + 1 ≤ w10.heap.size := hX.lt
  have hb := (Below.refl w10.heap.size w10).alloc (Nat.le_refl _) (.cells #[.int .i64 (I : Int), .slice none 0 0] 109)
  have hO := Lib.hid (ways_start w10 hzw I)
  replace hX := hX.later hb
  replace hb4 := hb4.trans (hb.mono hb4.size)
  clear hb hzw
  generalize w10.alloc (.cells #[.int .i64 (I : Int), .slice none 0 0] 109) = w11 at hX hb4 hO ⊢
  generalize w10.heap.size = Gw at hO ⊢
  obtain ⟨fin, hfin⟩ : ∃ fin, escE p c (p.count + 1) (startE p) = fin := ⟨_, rfl⟩
  have hO0 : Hid (OutE p c p.beginT.1 fin (startE p).came 0 [(p.beginT.1, [])]) := Lib.hid (by rw [← hfin]; exact OutE.start HV.out (ask_zero ha.out).1 (by rw [hBG]; exact HSB.out))
  have HFIN := Lib.hid hfin
  have hX0 : Box w11 w4.heap.size ((p.states.map (knownB (startE p).came)).map Value.bool) := by
    have h9 := HST.out
    rw [HN.out] at h9
    have h10 : (startE p).came = updS (fun _ => none) ⟨b0, b1, b2, b3, b4, b5⟩ ⟨St.zero, Sh.zero⟩ := by rw [startE, hBG]
    rw [h10, ← h9]
    exact hX
  clear hX HST hfin hbl hi0 hi1 XB
  go_wp2_with fail
  go_loopw [14, 13] (fun i V wr => ∃ (j : Nat) (came : St → Option Wy) (ways : List (St × List Sh)) (rs : List Wa) (Av : Option Addr) (nv cv : Nat), i = .int .i64 j ∧ V = .slice Av nv cv ∧ Below w4.heap.size w4 wr ∧ Box wr w4.heap.size ((p.states.map (knownB came)).map Value.bool) ∧ Hid (OwnW wr (w4.heap.size + 1) (.slice Av nv cv) rs) ∧ Hid (ByAt p wr (w4.heap.size + 1) rs ways) ∧ Hid (OutE p c p.beginT.1 fin came j ways)) (fun i _ _ => p.count + 2 - (intOf i).toNat)
  case atStart => exact ⟨0, _, _, _, _, _, _, rfl, rfl, hb4, hX0, hO, Lib.hid (HBY.out _), hO0⟩
  case round =>
    clear hb4 hX0 hO HBY hO0
    obtain ⟨j, came, ways, rs, Av, nv, cv, rfl, rfl, hb4, hX, hO, hY, hE⟩ := hrel
    obtain ⟨wi, rfl⟩ : ∃ wi : World, wi = wr := ⟨_, rfl⟩
    have hnv : nv = rs.length := by
      obtain ⟨A9, c9, h10⟩ := ownE_form hO.out (fun _ => rfl)
      cases h10
      rfl
    have hnw : nv = ways.length := hnv.trans hY.out.1
    rcases Nat.lt_or_ge j nv with hlt | hge
    rotate_left
    · have e0 : ¬ (j : Int) < (nv : Int) := by omega
      obtain ⟨a, hfa⟩ := hE.out.over (by omega)
      have HT := Lib.hid (escT_none ha.out (by rw [hBG]; exact HSB.out) (HFIN.out.trans hfa))
      have hBw := hB.trans (hb4.mono hB.size)
      go_wp2
      refine bodyPost_ret (v := .tuple #[.slice none 0 0, .bool false, .int .i64 0]) (by simp [results, Try.results20, go_sem]) rfl ?_
      refine ⟨_, by rw [HT.out], ?_, hBw⟩
      rw [HT.out]
      exact ⟨none, 0, rfl, Nat.zero_le _, fun k hk => absurd hk (Nat.not_lt_zero k)⟩
    have e0 : (j : Int) < (nv : Int) := by omega
    obtain ⟨⟨⟨s0, s1, s2, s3, s4, s5⟩, l⟩, hw⟩ : ∃ u, ways[j]? = some u := ⟨_, List.getElem?_eq_getElem (by omega)⟩
    have hI0 := Lib.hid (hE.out.inn hw)
    have HJC : Hid (j ≤ p.count) := Lib.hid (by have := hE.out.more; omega)
    clear hnv hnw hlt hw hE
    go_wp2_with fail
    clear e0
    go_loopw [15, 13] (fun i V wr => ∃ (t : Nat) (came : St → Option Wy) (ways : List (St × List Sh)) (rs : List Wa) (Av : Option Addr) (nv cv : Nat), t ≤ m ∧ i = .int .i64 t ∧ V = .slice Av nv cv ∧ Below w4.heap.size w4 wr ∧ Box wr w4.heap.size ((p.states.map (knownB came)).map Value.bool) ∧ Hid (OwnW wr (w4.heap.size + 1) (.slice Av nv cv) rs) ∧ Hid (ByAt p wr (w4.heap.size + 1) rs ways) ∧ Hid (InnE p c p.beginT.1 fin came j t ⟨s0, s1, s2, s3, s4, s5⟩ l ways)) (fun i _ _ => m - (intOf i).toNat)
    case atStart => exact ⟨0, _, _, _, _, _, _, Nat.zero_le _, rfl, rfl, hb4, hX, hO, hY, hI0⟩
    case round =>
      clear hb4 hX hO hY hI0
      obtain ⟨t, came2, ways2, rs2, Av2, nv2, cv2, ht, rfl, rfl, hb4, hX, hO, hY, hE⟩ := hrel
      obtain ⟨wj, rfl⟩ : ∃ wj : World, wj = wr := ⟨_, rfl⟩
      rcases Nat.lt_or_ge t m with hlt | hge
      rotate_left
      · obtain rfl : t = m := by omega
        have e0 : ¬ (t : Int) < (t : Int) := by omega
        have hE2 : Hid (OutE p c p.beginT.1 fin came2 (j + 1) ways2) := Lib.hid (InnE.over (s := ⟨s0, s1, s2, s3, s4, s5⟩) (l := l) (by rw [← shocks_len, HM.out]; exact hE.out))
        have hjc := HJC.out
        have e9 : IntKind.i64.wrap ((j : Int) + 1) = (j : Int) + 1 := by rw [IntKind.wrap_i64]; have := HCT.out; omega
        go_wp2
        refine ⟨⟨j + 1, came2, ways2, rs2, Av2, nv2, cv2, by go_num, rfl, hb4, hX, hO, hY, hE2⟩, by simp [intOf]; omega⟩
      have e0 : (t : Int) < (m : Int) := by omega
      have hnv : nv2 = rs2.length := by
        obtain ⟨A9, c9, h10⟩ := ownE_form hO.out (fun _ => rfl)
        cases h10
        rfl
      have hE1 := hE.out
      have hsm := hE1.mem
      obtain ⟨r, hr, hrp, hrO⟩ := hY.out.2 j _ _ hE1.head
      obtain ⟨g3, hAv, hg3a, hg3, y0, y1⟩ := way_cells hO.out hr
      have hjn : j < nv2 := by rw [hnv]; exact (List.getElem?_eq_some_iff.1 hr).1
      have hll : l.length ≤ 4096 := Nat.le_trans hE1.short HCT.out
      subst hAv
      obtain ⟨⟨x0, x1⟩, hx⟩ : ∃ x, p.shAt t = x := ⟨_, rfl⟩
      have htl : t < p.shocks.length := by rw [HM.out]; exact hlt
      have hxm : (⟨x0, x1⟩ : Sh) ∈ p.shocks := by
        have h9 := List.getElem_mem htl
        rw [shocks_at, hx] at h9
        exact h9
      have hsh := (states_mem HV.out).1 hsm
      have hsi := idx_spec HV.out hsh
      obtain ⟨⟨⟨t0, t1, t2, t3, t4, t5⟩, ou, er⟩, hnx⟩ : ∃ q, nextT p c ⟨s0, s1, s2, s3, s4, s5⟩ ⟨x0, x1⟩ = q := ⟨_, rfl⟩
      have hyh := nextS_has (x := ⟨x0, x1⟩) ha.out hsm hxm
      rw [hnx] at hyh
      dsimp only at hyh
      have hym := (states_mem HV.out).2 hyh
      have hyi := idx_spec HV.out hyh
      have hn1 : (nextT p c ⟨s0, s1, s2, s3, s4, s5⟩ ⟨x0, x1⟩).1 = ⟨t0, t1, t2, t3, t4, t5⟩ := by rw [hnx]
      have HNX := Lib.hid hnx
      have HYH := Lib.hid hyh
      have HYM := Lib.hid hym
      have HX := Lib.hid hx
      have HN1 := Lib.hid hn1
      obtain ⟨A8, c8, h8, _, k8⟩ := KS.out
      injection h8 with hA8 hn8 hc8
      subst hA8
      clear hn8 hc8
      obtain ⟨g, hAs, hg, q0, q1, q2, q3, q4, q5⟩ := k8 (p.idx ⟨s0, s1, s2, s3, s4, s5⟩) (by rw [states_len]; exact hsi.1)
      rw [states_at, hsi.2] at q0 q1 q2 q3 q4 q5
      obtain ⟨A7, c7, h7, _, k7⟩ := KH.out
      injection h7 with hA7 hn7 hc7
      subst hA7
      clear hn7 hc7
      obtain ⟨g2, hAh, hg2, r0, r1⟩ := k7 t htl
      rw [shocks_at, hx] at r0 r1
      dsimp only at q0 q1 q2 q3 q4 q5 r0 r1
      have hIn : p.idx ⟨s0, s1, s2, s3, s4, s5⟩ < n := by rw [← HN.out, states_len]; exact hsi.1
      obtain ⟨I2, hI2⟩ : ∃ I2, p.idx ⟨s0, s1, s2, s3, s4, s5⟩ = I2 := ⟨_, rfl⟩
      rw [hrp, hI2] at y0
      rw [hI2] at q0 q1 q2 q3 q4 q5 hIn
      obtain ⟨J, hJ⟩ : ∃ J, p.idx ⟨t0, t1, t2, t3, t4, t5⟩ = J := ⟨_, rfl⟩
      have hJs : J < p.states.length := by rw [states_len, ← hJ]; exact hyi.1
      have hJn : J < n := by rw [← HN.out]; exact hJs
      have hJe : p.states[J] = ⟨t0, t1, t2, t3, t4, t5⟩ := by
        rw [states_at, ← hJ]
        exact hyi.2
      have HJ := Lib.hid hJ
      have HJS := Lib.hid hJs
      have HJE : Hid (p.states[J]'HJS.out = ⟨t0, t1, t2, t3, t4, t5⟩) := Lib.hid hJe
      clear hJ hJe hJs hyi hsi hsh hym hyh hnx hn1 hx hxm htl k7 k8 hI2 hrp hr hnv hsm hE1
      subst hAs hAh
      obtain ⟨rp, rA, rn, rk⟩ := r
      dsimp only at y0 y1 hrO
      have hrn : rn = l.length := by
        obtain ⟨A9, c9, h10⟩ := ownE_form hrO (fun _ => rfl)
        cases h10
        rfl
      subst hrn
      have HRO := Lib.hid hrO
      clear hrO rp
      have hBi := hB.trans (hb4.mono hB.size)
      have hCi := Lib.hid (hC.out.later hBi)
      have X2i := X2.later hb4
      have X3i := X3.later hb4
      have z2 := X2i.lt
      have z3 := X3i.lt
      have zg := Nat.lt_of_lt_of_le hg hb4.size
      have zg2 := Nat.lt_of_lt_of_le hg2 hb4.size
      have hi0 : (0 : Int) ≤ (I2 : Int) := by omega
      have hi1 : (I2 : Int) < (n : Int) := by omega
      have hi2 : (j : Int) < (nv2 : Int) := by omega
      have hi3 : (0 : Int) ≤ (j : Int) := by omega
      have hi4 : (0 : Int) ≤ (t : Int) := by omega
      go_upto_region 18 with fail
      go_cut [16] (fun s16 wx => ∃ Y : Nat, s16 = .pointer (some ⟨Y, 0, none⟩) ∧ wj.heap.size ≤ Y ∧ Box wx Y [.int .i64 t0, .int .i64 t1, .int .i64 t2, .int .i64 t3, .int .i64 t4, .int .i64 t5] ∧ Below wj.heap.size wj wx)
      case first =>
        have hd := (Below.refl wj.heap.size wj).drew
        have u0 : ∀ q : Later wj, q.w.cell? ⟨w.heap.size, 0, none⟩ = some (.int .i64 p.top) := Later.cell (X2i.cell 0) z2
        have u1 : ∀ q : Later wj, q.w.cell? ⟨w.heap.size, 1, none⟩ = some (.int .i64 p.bank) := Later.cell (X2i.cell 1) z2
        have u2 : ∀ q : Later wj, q.w.cell? ⟨w.heap.size, 2, none⟩ = some (.int .i64 p.siphon) := Later.cell (X2i.cell 2) z2
        have u3 : ∀ q : Later wj, q.w.cell? ⟨w.heap.size, 3, none⟩ = some (.int .i64 p.start) := Later.cell (X2i.cell 3) z2
        have u4 : ∀ q : Later wj, q.w.cell? ⟨w.heap.size, 4, none⟩ = some (.int .i64 p.positions) := Later.cell (X2i.cell 4) z2
        have u5 : ∀ q : Later wj, q.w.cell? ⟨w.heap.size, 5, none⟩ = some (.int .i64 p.rate) := Later.cell (X2i.cell 5) z2
        have u6 : ∀ q : Later wj, q.w.cell? ⟨w.heap.size, 6, none⟩ = some (.int .i64 p.step) := Later.cell (X2i.cell 6) z2
        have u7 : ∀ q : Later wj, q.w.cell? ⟨w.heap.size, 7, none⟩ = some (.int .i64 p.pass) := Later.cell (X2i.cell 7) z2
        have u8 : ∀ q : Later wj, q.w.cell? ⟨w.heap.size, 8, none⟩ = some (.int .i64 p.feed) := Later.cell (X2i.cell 8) z2
        have u9 : ∀ q : Later wj, q.w.cell? ⟨w.heap.size, 9, none⟩ = some (.int .i64 p.pipe) := Later.cell (X2i.cell 9) z2
        have u10 : ∀ q : Later wj, q.w.cell? ⟨w.heap.size, 10, none⟩ = some (.int .i64 p.orders) := Later.cell (X2i.cell 10) z2
        have u11 : ∀ q : Later wj, q.w.cell? ⟨w.heap.size, 11, none⟩ = some (.int .i64 p.age) := Later.cell (X2i.cell 11) z2
        have v0 : ∀ q : Later wj, q.w.cell? ⟨w.heap.size + 1, 0, none⟩ = some (.slice A2 m2 k2) := Later.cell (X3i.cell 0) z3
        have o0 : ∀ q : Later wj, q.w.cell? ⟨g3, j * 2, none⟩ = some (.int .i64 (I2 : Int)) := Later.cell y0 hg3
        have a0 : ∀ q : Later wj, q.w.cell? ⟨g, I2 * 6, none⟩ = some (.int .i64 s0) := Later.cell ((hb4.cell hg).trans q0) zg
        have a1 : ∀ q : Later wj, q.w.cell? ⟨g, I2 * 6 + 1, none⟩ = some (.int .i64 s1) := Later.cell ((hb4.cell hg).trans q1) zg
        have a2 : ∀ q : Later wj, q.w.cell? ⟨g, I2 * 6 + 2, none⟩ = some (.int .i64 s2) := Later.cell ((hb4.cell hg).trans q2) zg
        have a3 : ∀ q : Later wj, q.w.cell? ⟨g, I2 * 6 + 3, none⟩ = some (.int .i64 s3) := Later.cell ((hb4.cell hg).trans q3) zg
        have a4 : ∀ q : Later wj, q.w.cell? ⟨g, I2 * 6 + 4, none⟩ = some (.int .i64 s4) := Later.cell ((hb4.cell hg).trans q4) zg
        have a5 : ∀ q : Later wj, q.w.cell? ⟨g, I2 * 6 + 5, none⟩ = some (.int .i64 s5) := Later.cell ((hb4.cell hg).trans q5) zg
        have c0 : ∀ q : Later wj, q.w.cell? ⟨g2, t * 2, none⟩ = some (.int .i64 x0) := Later.cell ((hb4.cell hg2).trans r0) zg2
        have c1 : ∀ q : Later wj, q.w.cell? ⟨g2, t * 2 + 1, none⟩ = some (.int .i64 x1) := Later.cell ((hb4.cell hg2).trans r1) zg2
        refine wp_region_upto (C := fun w' => ∃ x : Later wj, w' = x.w) 16 [0, 1, 2, 3, 4, 5, 6, 7, 8, 9, 10, 11, 12, 13] (by kernel_rfl) (by kernel_rfl) (Later.mk' hd) (fun _ _ h => h) ?_
        simp only [headOps, List.filterMap_cons, List.filterMap_nil, List.getElem?_toArray, List.getElem?_cons_succ, List.getElem?_cons_zero]
        repeat (first | go_big_quiet_skip | (show wpQuiet _ _ _ _ (_ :: _) _; go_big_quiet_skip) | (show wpQuiet _ _ _ _ (_ :: _) _; go_big_quiet_want; go_big_quiet_op; go_big_quiet_on))
        refine wpQuiet_nil ?_
        clear u0 u1 u2 u3 u4 u5 u6 u7 u8 u9 u10 u11 v0 o0 a0 a1 a2 a3 a4 a5 c0 c1 q0 q1 q2 q3 q4 q5 r0 r1 y0 y1 X2i X3i
        generalize wj.drew = Wd at hd ⊢
        refine anyG_two (n := 2) (i := 14) (j := 15) (by kernel_rfl) (fun _ => Later.mk' hd) ?_ ?_
        · refine wpOp_callD (some 77) (by rfl) rfl rfl ?_ ((rbNext_is (p := p) (s := ⟨s0, s1, s2, s3, s4, s5⟩) (x := ⟨x0, x1⟩) HNX (hCi.out.later hd)).mono ?_)
          · go_simp
          rintro e W1 ⟨rfl, hb1⟩
          refine ⟨_, rfl, ?_⟩
          simp only [Act.put, List.setIfInBounds_toArray, List.set_cons_zero, List.set_cons_succ]
          have h1 := hd.trans (hb1.mono hd.size)
          clear hb1
          refine anyG_val (some 16) (n := 1) (i := 15) (v := .pointer (some ⟨W1.heap.size, 0, none⟩)) (w' := W1.alloc (.cells #[.int .i64 0, .int .i64 0, .int .i64 0, .int .i64 0, .int .i64 0, .int .i64 0] 30)) (by kernel_rfl) rfl rfl rfl (fun _ => Later.mk' h1) (by go_simp) ?_
          simp only [Act.put, List.setIfInBounds_toArray, List.set_cons_zero, List.set_cons_succ]
          have Y8 := Box.new W1 [.int .i64 0, .int .i64 0, .int .i64 0, .int .i64 0, .int .i64 0, .int .i64 0] 30
          have hF8 := h1.size
          have h2 := h1.alloc h1.size (.cells #[.int .i64 0, .int .i64 0, .int .i64 0, .int .i64 0, .int .i64 0, .int .i64 0] 30)
          generalize W1.alloc (.cells #[.int .i64 0, .int .i64 0, .int .i64 0, .int .i64 0, .int .i64 0, .int .i64 0] 30) = W2 at Y8 h2 ⊢
          generalize W1.heap.size = F8 at Y8 hF8 ⊢
          obtain ⟨Y8c0, Y8f0, Y8c1, Y8f1, Y8c2, Y8f2, Y8c3, Y8f3, Y8c4, Y8f4, Y8c5, Y8f5⟩ := Y8.f6
          have Y8z : F8 < W2.heap.size := Y8.lt
          have hWZ := ((((((h2.setCell (p := ⟨F8, 0, none⟩) (by simp <;> omega) (.int .i64 t0)).setCell (p := ⟨F8, 1, none⟩) (by simp <;> omega) (.int .i64 t1)).setCell (p := ⟨F8, 2, none⟩) (by simp <;> omega) (.int .i64 t2)).setCell (p := ⟨F8, 3, none⟩) (by simp <;> omega) (.int .i64 t3)).setCell (p := ⟨F8, 4, none⟩) (by simp <;> omega) (.int .i64 t4)).setCell (p := ⟨F8, 5, none⟩) (by simp <;> omega) (.int .i64 t5))
          refine anyG_store (n := 0) (i := 16) (w' := ((((((W2.setCell ⟨F8, 0, none⟩ (.int .i64 t0)).setCell ⟨F8, 1, none⟩ (.int .i64 t1)).setCell ⟨F8, 2, none⟩ (.int .i64 t2)).setCell ⟨F8, 3, none⟩ (.int .i64 t3)).setCell ⟨F8, 4, none⟩ (.int .i64 t4)).setCell ⟨F8, 5, none⟩ (.int .i64 t5))) (by kernel_rfl) rfl rfl rfl (fun _ => Later.mk' h2) (by go_simp) ?_
          refine anyG_done (by kernel_rfl) rfl ?_
          have Y9 := ((((((Y8.set 0 (.int .i64 t0)).set 1 (.int .i64 t1)).set 2 (.int .i64 t2)).set 3 (.int .i64 t3)).set 4 (.int .i64 t4)).set 5 (.int .i64 t5))
          simp only [List.set_cons_succ, List.set_cons_zero] at Y9
          generalize ((((((W2.setCell ⟨F8, 0, none⟩ (.int .i64 t0)).setCell ⟨F8, 1, none⟩ (.int .i64 t1)).setCell ⟨F8, 2, none⟩ (.int .i64 t2)).setCell ⟨F8, 3, none⟩ (.int .i64 t3)).setCell ⟨F8, 4, none⟩ (.int .i64 t4)).setCell ⟨F8, 5, none⟩ (.int .i64 t5)) = WZ at hWZ Y9 ⊢
          dsimp only [Exit.inBlock, Exit.then]
          go_wp2_with fail
          go_meet
          exact ⟨_, rfl, hF8, Y9, hWZ⟩
        · refine wpOp_valD (some 16) (v := .pointer (some ⟨Wd.heap.size, 0, none⟩)) (w' := Wd.alloc (.cells #[.int .i64 0, .int .i64 0, .int .i64 0, .int .i64 0, .int .i64 0, .int .i64 0] 30)) (by rfl) rfl rfl ?_ ?_
          · go_simp
          simp only [Act.put, List.setIfInBounds_toArray, List.set_cons_zero, List.set_cons_succ]
          have Y8 := Box.new Wd [.int .i64 0, .int .i64 0, .int .i64 0, .int .i64 0, .int .i64 0, .int .i64 0] 30
          have hF8 := hd.size
          have h1 := hd.alloc hd.size (.cells #[.int .i64 0, .int .i64 0, .int .i64 0, .int .i64 0, .int .i64 0, .int .i64 0] 30)
          generalize Wd.alloc (.cells #[.int .i64 0, .int .i64 0, .int .i64 0, .int .i64 0, .int .i64 0, .int .i64 0] 30) = W1 at Y8 h1 ⊢
          generalize Wd.heap.size = F8 at Y8 hF8 ⊢
          refine anyG_one (n := 1) (i := 14) (by kernel_rfl) (fun _ => Later.mk' h1) ?_
          refine wpOp_callD (some 77) (by rfl) rfl rfl ?_ ((rbNext_is (p := p) (s := ⟨s0, s1, s2, s3, s4, s5⟩) (x := ⟨x0, x1⟩) HNX (hCi.out.later h1)).mono ?_)
          · go_simp
          rintro e W2 ⟨rfl, hb1⟩
          refine ⟨_, rfl, ?_⟩
          simp only [Act.put, List.setIfInBounds_toArray, List.set_cons_zero, List.set_cons_succ]
          replace Y8 := Y8.later hb1
          have h2 := h1.trans (hb1.mono h1.size)
          clear hb1
          obtain ⟨Y8c0, Y8f0, Y8c1, Y8f1, Y8c2, Y8f2, Y8c3, Y8f3, Y8c4, Y8f4, Y8c5, Y8f5⟩ := Y8.f6
          have Y8z : F8 < W2.heap.size := Y8.lt
          have hWZ := ((((((h2.setCell (p := ⟨F8, 0, none⟩) (by simp <;> omega) (.int .i64 t0)).setCell (p := ⟨F8, 1, none⟩) (by simp <;> omega) (.int .i64 t1)).setCell (p := ⟨F8, 2, none⟩) (by simp <;> omega) (.int .i64 t2)).setCell (p := ⟨F8, 3, none⟩) (by simp <;> omega) (.int .i64 t3)).setCell (p := ⟨F8, 4, none⟩) (by simp <;> omega) (.int .i64 t4)).setCell (p := ⟨F8, 5, none⟩) (by simp <;> omega) (.int .i64 t5))
          refine anyG_store (n := 0) (i := 16) (w' := ((((((W2.setCell ⟨F8, 0, none⟩ (.int .i64 t0)).setCell ⟨F8, 1, none⟩ (.int .i64 t1)).setCell ⟨F8, 2, none⟩ (.int .i64 t2)).setCell ⟨F8, 3, none⟩ (.int .i64 t3)).setCell ⟨F8, 4, none⟩ (.int .i64 t4)).setCell ⟨F8, 5, none⟩ (.int .i64 t5))) (by kernel_rfl) rfl rfl rfl (fun _ => Later.mk' h2) (by go_simp) ?_
          refine anyG_done (by kernel_rfl) rfl ?_
          have Y9 := ((((((Y8.set 0 (.int .i64 t0)).set 1 (.int .i64 t1)).set 2 (.int .i64 t2)).set 3 (.int .i64 t3)).set 4 (.int .i64 t4)).set 5 (.int .i64 t5))
          simp only [List.set_cons_succ, List.set_cons_zero] at Y9
          generalize ((((((W2.setCell ⟨F8, 0, none⟩ (.int .i64 t0)).setCell ⟨F8, 1, none⟩ (.int .i64 t1)).setCell ⟨F8, 2, none⟩ (.int .i64 t2)).setCell ⟨F8, 3, none⟩ (.int .i64 t3)).setCell ⟨F8, 4, none⟩ (.int .i64 t4)).setCell ⟨F8, 5, none⟩ (.int .i64 t5)) = WZ at hWZ Y9 ⊢
          dsimp only [Exit.inBlock, Exit.then]
          go_wp2_with fail
          go_meet
          exact ⟨_, rfl, hF8, Y9, hWZ⟩
      case rest =>
      obtain ⟨Yb, rfl, hYl, hYB, hb⟩ := hcut
      obtain ⟨wk, rfl⟩ : ∃ wk : World, wk = wc := ⟨_, rfl⟩
      have hYL : w4.heap.size + 1 ≤ Yb := Nat.le_trans hX.lt hYl
      replace hX := hX.later hb
      replace hO := Lib.hid (OwnE.later hO.out hb)
      replace hY := Lib.hid (hY.out.later hb)
      replace HRO := Lib.hid (OwnE.later HRO.out hb)
      replace y1 := (hb.cell hg3).trans y1
      replace hg3 := Nat.lt_of_lt_of_le hg3 hb.size
      replace hb4 := hb4.trans (hb.mono hb4.size)
      clear hYl hb y0 q0 q1 q2 q3 q4 q5 X2i X3i z2 z3 zg hg
      have zg2 := Nat.lt_of_lt_of_le hg2 hb4.size
      go_upto_region 19 with fail
      go_cut [17] (fun s17 wx => ∃ A k, s17 = .slice A (l.length + 1) k ∧ OwnSh wx (w4.heap.size + 1) (.slice A (l.length + 1) k) (l ++ [⟨x0, x1⟩]) ∧ Below wk.heap.size wk wx)
      case first =>
        have hd := (Below.refl wk.heap.size wk).drew
        have o1 : ∀ q : Later wk, q.w.cell? ⟨g3, j * 2 + 1, none⟩ = some (.slice rA l.length rk) := Later.cell y1 hg3
        have c0 : ∀ q : Later wk, q.w.cell? ⟨g2, t * 2, none⟩ = some (.int .i64 x0) := Later.cell ((hb4.cell hg2).trans r0) zg2
        have c1 : ∀ q : Later wk, q.w.cell? ⟨g2, t * 2 + 1, none⟩ = some (.int .i64 x1) := Later.cell ((hb4.cell hg2).trans r1) zg2
        refine wp_region_upto (C := fun w' => ∃ x : Later wk, w' = x.w) 12 [1, 2, 3, 4, 5, 7, 8, 9, 10] (by kernel_rfl) (by kernel_rfl) (Later.mk' hd) (fun _ _ h => h) ?_
        simp only [headOps, List.filterMap_cons, List.filterMap_nil, List.getElem?_toArray, List.getElem?_cons_succ, List.getElem?_cons_zero]
        repeat (first | go_big_quiet_skip | (show wpQuiet _ _ _ _ (_ :: _) _; go_big_quiet_skip) | (show wpQuiet _ _ _ _ (_ :: _) _; go_big_quiet_want; go_big_quiet_op; go_big_quiet_on))
        refine wpQuiet_nil ?_
        clear o1 c0 c1 r0 r1 y1 hi0 hi1 hi2 hi3 hi4 zg2 hg2 hg3
        have hDk : w4.heap.size + 1 ≤ wk.heap.size := hX.lt
        have HRd := Lib.hid (OwnE.later HRO.out hd)
        generalize wk.drew = Wd at hd HRd ⊢
        clear hX hO hY HRO
        refine anyG_two (n := 4) (i := 0) (j := 11) (by kernel_rfl) (fun _ => Later.mk' hd) ?_ ?_
        · skip
          refine wpOp_valD (some 78) (v := .slice (some ⟨Wd.heap.size, 0, none⟩) 0 0) (w' := Wd.alloc (.cells #[] 37)) (by rfl) rfl rfl ?_ ?_
          · go_simp
          simp only [Act.put, List.setIfInBounds_toArray, List.set_cons_zero, List.set_cons_succ]
          have ha0 := hd.alloc hd.size (.cells #[] 37)
          have hbx := (Below.refl Wd.heap.size Wd).alloc (Nat.le_refl _) (.cells #[] 37)
          have O78 := own_empty Wd hd.size
          replace HRd := Lib.hid (OwnE.later HRd.out hbx)
          clear hbx
          generalize Wd.alloc (.cells #[] 37) = Wa0 at ha0 O78 HRd  ⊢
          generalize Wd.heap.size = F0 at O78  ⊢
          refine anyG_two (n := 3) (i := 6) (j := 11) (by kernel_rfl) (fun _ => Later.mk' ha0) ?_ ?_
          · skip
            obtain ⟨A84, c84, Wa1, hr84, O84, hg84⟩ := run_app0 O78 HRd.out ha0.size (by omega)
            have ha1 := ha0.grown hg84 ha0.size (fun k hk => (World.ownsRow.lt O78 k hk).1)
            refine wpOp_valD (some 84) (v := .slice A84 l.length c84) (w' := Wa1) (by rfl) rfl rfl ?_ ?_
            · exact run_app_op rfl rfl rfl rfl hr84
            simp only [Act.put, List.setIfInBounds_toArray, List.set_cons_zero, List.set_cons_succ]
            clear hr84 hg84 O78 HRd
            refine anyG_val (some 89) (n := 2) (i := 11) (v := .slice (some ⟨Wa1.heap.size, 0, none⟩) 1 1) (w' := Wa1.alloc (.cells #[.int .i64 x0, .int .i64 x1] 37)) (by kernel_rfl) rfl rfl rfl (fun _ => Later.mk' ha1) (by go_simp) ?_
            simp only [Act.put, List.setIfInBounds_toArray, List.set_cons_zero, List.set_cons_succ]
            have ha2 := ha1.alloc ha1.size (.cells #[.int .i64 x0, .int .i64 x1] 37)
            have hbx := (Below.refl Wa1.heap.size Wa1).alloc (Nat.le_refl _) (.cells #[.int .i64 x0, .int .i64 x1] 37)
            have XN := Box.new Wa1 [.int .i64 x0, .int .i64 x1] 37
            replace O84 := OwnE.later O84 hbx
            clear hbx
            generalize Wa1.alloc (.cells #[.int .i64 x0, .int .i64 x1] 37) = Wa2 at ha2 XN  O84 ⊢
            generalize Wa1.heap.size = F1 at XN  ⊢
            obtain ⟨g9, c9, Wb, hr90, O90, hg90, _⟩ := run_appH (s := ⟨x0, x1⟩) 47 O84 XN ha2.size (by omega)
            have hb9 := ha2.grown hg90 ha2.size (fun k hk => (World.ownsRow.lt O84 k hk).1)
            refine anyG_val (some 90) (n := 1) (i := 12) (v := .slice (some ⟨g9, 0, none⟩) (l.length + 1) c9) (w' := Wb) (by kernel_rfl) rfl rfl rfl (fun _ => Later.mk' ha2) (by exact run_app_op rfl rfl rfl rfl hr90) ?_
            simp only [Act.put, List.setIfInBounds_toArray, List.set_cons_zero, List.set_cons_succ]
            refine anyG_val (some 17) (n := 0) (i := 13) (v := .slice (some ⟨g9, 0, none⟩) (l.length + 1) c9) (w' := Wb) (by kernel_rfl) rfl rfl rfl (fun h => by cases h) (by first | rfl | go_simp) ?_
            simp only [Act.put, List.setIfInBounds_toArray, List.set_cons_zero, List.set_cons_succ]
            refine anyG_done (by kernel_rfl) rfl ?_
            have O90 := OwnSh.low O90 hDk
            clear hr90 hg90
            dsimp only [Exit.inBlock, Exit.then]
            go_wp2_with fail
            go_meet
            exact ⟨_, _, rfl, O90, hb9⟩
          · skip
            refine wpOp_valD (some 89) (v := .slice (some ⟨Wa0.heap.size, 0, none⟩) 1 1) (w' := Wa0.alloc (.cells #[.int .i64 x0, .int .i64 x1] 37)) (by rfl) rfl rfl ?_ ?_
            · go_simp
            simp only [Act.put, List.setIfInBounds_toArray, List.set_cons_zero, List.set_cons_succ]
            have ha1 := ha0.alloc ha0.size (.cells #[.int .i64 x0, .int .i64 x1] 37)
            have hbx := (Below.refl Wa0.heap.size Wa0).alloc (Nat.le_refl _) (.cells #[.int .i64 x0, .int .i64 x1] 37)
            have XN := Box.new Wa0 [.int .i64 x0, .int .i64 x1] 37
            replace HRd := Lib.hid (OwnE.later HRd.out hbx)
            have hFF : Wa0.heap.size ≠ F0 := Nat.ne_of_gt (World.ownsRow.lt O78 F0 rfl).2
            replace O78 := OwnE.later O78 hbx
            clear hbx
            generalize Wa0.alloc (.cells #[.int .i64 x0, .int .i64 x1] 37) = Wa1 at ha1 XN HRd O78 ⊢
            generalize Wa0.heap.size = F1 at XN hFF ⊢
            obtain ⟨A84, c84, Wa2, hr84, O84, hg84⟩ := run_app0 O78 HRd.out ha1.size (by omega)
            have ha2 := ha1.grown hg84 ha1.size (fun k hk => (World.ownsRow.lt O78 k hk).1)
            have XN := XN.same (hg84.block F1 XN.lt (fun e => hFF (Option.some.inj e)))
            refine anyG_val (some 84) (n := 2) (i := 6) (v := .slice A84 l.length c84) (w' := Wa2) (by kernel_rfl) rfl rfl rfl (fun _ => Later.mk' ha1) (by exact run_app_op rfl rfl rfl rfl hr84) ?_
            simp only [Act.put, List.setIfInBounds_toArray, List.set_cons_zero, List.set_cons_succ]
            clear hr84 hg84 O78 HRd
            obtain ⟨g9, c9, Wb, hr90, O90, hg90, _⟩ := run_appH (s := ⟨x0, x1⟩) 47 O84 XN ha2.size (by omega)
            have hb9 := ha2.grown hg90 ha2.size (fun k hk => (World.ownsRow.lt O84 k hk).1)
            refine anyG_val (some 90) (n := 1) (i := 12) (v := .slice (some ⟨g9, 0, none⟩) (l.length + 1) c9) (w' := Wb) (by kernel_rfl) rfl rfl rfl (fun _ => Later.mk' ha2) (by exact run_app_op rfl rfl rfl rfl hr90) ?_
            simp only [Act.put, List.setIfInBounds_toArray, List.set_cons_zero, List.set_cons_succ]
            refine anyG_val (some 17) (n := 0) (i := 13) (v := .slice (some ⟨g9, 0, none⟩) (l.length + 1) c9) (w' := Wb) (by kernel_rfl) rfl rfl rfl (fun h => by cases h) (by first | rfl | go_simp) ?_
            simp only [Act.put, List.setIfInBounds_toArray, List.set_cons_zero, List.set_cons_succ]
            refine anyG_done (by kernel_rfl) rfl ?_
            have O90 := OwnSh.low O90 hDk
            clear hr90 hg90
            dsimp only [Exit.inBlock, Exit.then]
            go_wp2_with fail
            go_meet
            exact ⟨_, _, rfl, O90, hb9⟩
        · skip
          refine wpOp_valD (some 89) (v := .slice (some ⟨Wd.heap.size, 0, none⟩) 1 1) (w' := Wd.alloc (.cells #[.int .i64 x0, .int .i64 x1] 37)) (by rfl) rfl rfl ?_ ?_
          · go_simp
          simp only [Act.put, List.setIfInBounds_toArray, List.set_cons_zero, List.set_cons_succ]
          have ha0 := hd.alloc hd.size (.cells #[.int .i64 x0, .int .i64 x1] 37)
          have hbx := (Below.refl Wd.heap.size Wd).alloc (Nat.le_refl _) (.cells #[.int .i64 x0, .int .i64 x1] 37)
          have XN := Box.new Wd [.int .i64 x0, .int .i64 x1] 37
          replace HRd := Lib.hid (OwnE.later HRd.out hbx)
          clear hbx
          generalize Wd.alloc (.cells #[.int .i64 x0, .int .i64 x1] 37) = Wa0 at ha0 XN HRd  ⊢
          generalize Wd.heap.size = F1 at XN  ⊢
          refine anyG_val (some 78) (n := 3) (i := 0) (v := .slice (some ⟨Wa0.heap.size, 0, none⟩) 0 0) (w' := Wa0.alloc (.cells #[] 37)) (by kernel_rfl) rfl rfl rfl (fun _ => Later.mk' ha0) (by go_simp) ?_
          simp only [Act.put, List.setIfInBounds_toArray, List.set_cons_zero, List.set_cons_succ]
          have ha1 := ha0.alloc ha0.size (.cells #[] 37)
          have hbx := (Below.refl Wa0.heap.size Wa0).alloc (Nat.le_refl _) (.cells #[] 37)
          have O78 := own_empty Wa0 ha0.size
          replace HRd := Lib.hid (OwnE.later HRd.out hbx)
          have hFF : F1 ≠ Wa0.heap.size := Nat.ne_of_lt XN.lt
          replace XN := XN.later hbx
          clear hbx
          generalize Wa0.alloc (.cells #[] 37) = Wa1 at ha1 O78 HRd XN ⊢
          generalize Wa0.heap.size = F0 at O78 hFF ⊢
          obtain ⟨A84, c84, Wa2, hr84, O84, hg84⟩ := run_app0 O78 HRd.out ha1.size (by omega)
          have ha2 := ha1.grown hg84 ha1.size (fun k hk => (World.ownsRow.lt O78 k hk).1)
          have XN := XN.same (hg84.block F1 XN.lt (fun e => hFF (Option.some.inj e)))
          refine anyG_val (some 84) (n := 2) (i := 6) (v := .slice A84 l.length c84) (w' := Wa2) (by kernel_rfl) rfl rfl rfl (fun _ => Later.mk' ha1) (by exact run_app_op rfl rfl rfl rfl hr84) ?_
          simp only [Act.put, List.setIfInBounds_toArray, List.set_cons_zero, List.set_cons_succ]
          clear hr84 hg84 O78 HRd
          obtain ⟨g9, c9, Wb, hr90, O90, hg90, _⟩ := run_appH (s := ⟨x0, x1⟩) 47 O84 XN ha2.size (by omega)
          have hb9 := ha2.grown hg90 ha2.size (fun k hk => (World.ownsRow.lt O84 k hk).1)
          refine anyG_val (some 90) (n := 1) (i := 12) (v := .slice (some ⟨g9, 0, none⟩) (l.length + 1) c9) (w' := Wb) (by kernel_rfl) rfl rfl rfl (fun _ => Later.mk' ha2) (by exact run_app_op rfl rfl rfl rfl hr90) ?_
          simp only [Act.put, List.setIfInBounds_toArray, List.set_cons_zero, List.set_cons_succ]
          refine anyG_val (some 17) (n := 0) (i := 13) (v := .slice (some ⟨g9, 0, none⟩) (l.length + 1) c9) (w' := Wb) (by kernel_rfl) rfl rfl rfl (fun h => by cases h) (by first | rfl | go_simp) ?_
          simp only [Act.put, List.setIfInBounds_toArray, List.set_cons_zero, List.set_cons_succ]
          refine anyG_done (by kernel_rfl) rfl ?_
          have O90 := OwnSh.low O90 hDk
          clear hr90 hg90
          dsimp only [Exit.inBlock, Exit.then]
          go_wp2_with fail
          go_meet
          exact ⟨_, _, rfl, O90, hb9⟩
      case rest =>
      obtain ⟨A17, k17, rfl, hBY, hb⟩ := hcut
      obtain ⟨wm, rfl⟩ : ∃ wm : World, wm = wc := ⟨_, rfl⟩
      replace hX := hX.later hb
      replace hO := Lib.hid (OwnE.later hO.out hb)
      replace hY := Lib.hid (hY.out.later hb)
      replace hYB := hYB.later hb
      replace hb4 := hb4.trans (hb.mono hb4.size)
      have HBY2 := Lib.hid hBY
      clear hb y1 hg3 r0 r1 zg2 hg2 hi0 hi1 hi2 hi3 hi4 HRO hBY
      go_upto_region 20 with fail
      obtain ⟨sf, hsf⟩ : ∃ sf, p.safeB ⟨t0, t1, t2, t3, t4, t5⟩ = sf := ⟨_, rfl⟩
      have HSF := Lib.hid hsf
      have X2m := X2.later hb4
      obtain ⟨X2mc0, X2mc1, X2mc2, X2mc3, X2mc4, X2mc5, X2mc6, X2mc7, X2mc8, X2mc9, X2mc10, X2mc11⟩ := X2m.c12
      have X2mz := X2m.lt
      obtain ⟨hYBc0, hYBc1, hYBc2, hYBc3, hYBc4, hYBc5⟩ := hYB.c6
      have hYBz := hYB.lt
      go_wp2_with fail
      refine (rbSafe_is (p := p) (s := ⟨t0, t1, t2, t3, t4, t5⟩) HSF).mono ?_
      rintro e wq ⟨rfl, hb⟩
      clear X2mc0 X2mc1 X2mc2 X2mc3 X2mc4 X2mc5 X2mc6 X2mc7 X2mc8 X2mc9 X2mc10 X2mc11 X2mz
      clear hYBc0 hYBc1 hYBc2 hYBc3 hYBc4 hYBc5 hYBz
      replace hX := hX.later hb
      replace hO := Lib.hid (OwnE.later hO.out hb)
      replace hY := Lib.hid (hY.out.later hb)
      replace hYB := hYB.later hb
      replace HBY2 := Lib.hid (OwnE.later HBY2.out hb)
      replace hb4 := hb4.trans (hb.mono hb4.size)
      clear hb X2m
      cases sf with
      | false =>
        have htl : t < p.nf * p.nm := by rw [← shocks_len, HM.out]; exact hlt
        obtain ⟨a, hfa, hba⟩ := hE.out.bad HX.out HN1.out HYM.out htl hsf
        have HT := Lib.hid (escT_some ha.out (by rw [hBG]; exact HSB.out) (HFIN.out.trans hfa))
        have HL := Lib.hid hba
        clear htl hfa hba
        have hBw := hB.trans (hb4.mono hB.size)
        have HR : Hid (ShRd wq (.slice A17 (l.length + 1) k17) (l ++ [⟨x0, x1⟩])) := Lib.hid (OwnSh.rd HBY2.out (by rw [List.length_append, List.length_singleton]; omega))
        clear hX hO hY hYB HBY2 hE hlt
        go_wp2
        refine bodyPost_ret (v := .tuple #[.slice A17 (l.length + 1) k17, .bool true, .int .i64 0]) (by simp [results, Try.results20, go_sem]) rfl ?_
        refine ⟨_, by rw [HT.out], ?_, hBw⟩
        rw [HT.out]
        dsimp only
        rw [HL.out]
        exact HR.out
      | true =>
        have X2m := X2.later hb4
        obtain ⟨X2mc0, X2mc1, X2mc2, X2mc3, X2mc4, X2mc5, X2mc6, X2mc7, X2mc8, X2mc9, X2mc10, X2mc11⟩ := X2m.c12
        have X2mz := X2m.lt
        obtain ⟨hYBc0, hYBc1, hYBc2, hYBc3, hYBc4, hYBc5⟩ := hYB.c6
        have hYBz := hYB.lt
        go_wp2_with fail
        have hz1 := rbIndex_is HV (s := ⟨t0, t1, t2, t3, t4, t5⟩) HYH wq
        rw [HJ.out] at hz1
        refine hz1.mono ?_
        rintro e wr ⟨rfl, hb⟩
        clear hz1
        clear X2mc0 X2mc1 X2mc2 X2mc3 X2mc4 X2mc5 X2mc6 X2mc7 X2mc8 X2mc9 X2mc10 X2mc11 X2mz
        clear hYBc0 hYBc1 hYBc2 hYBc3 hYBc4 hYBc5 hYBz
        clear hYB X2m
        replace hX := hX.later hb
        replace hO := Lib.hid (OwnE.later hO.out hb)
        replace hY := Lib.hid (hY.out.later hb)
        replace HBY2 := Lib.hid (OwnE.later HBY2.out hb)
        replace hb4 := hb4.trans (hb.mono hb4.size)
        clear hb
        have hcJ := bs_at hX HJS.out
        rw [HJE.out] at hcJ
        have hJ0 : (0 : Int) ≤ (J : Int) := by omega
        have hJ1 : (J : Int) < (n : Int) := by omega
        obtain ⟨kb, hkb⟩ : ∃ kb, knownB came2 ⟨t0, t1, t2, t3, t4, t5⟩ = kb := ⟨_, rfl⟩
        rw [hkb] at hcJ
        have HKB := Lib.hid hkb
        have zf := hX.lt
        cases kb with
        | true =>
          have hE2 : Hid (InnE p c p.beginT.1 fin came2 j (t + 1) ⟨s0, s1, s2, s3, s4, s5⟩ l ways2) := Lib.hid (hE.out.known HX.out HN1.out HKB.out)
          clear hE hkb
          have hms := HMS.out
          go_wp2
          refine ⟨⟨t + 1, came2, ways2, rs2, _, nv2, cv2, hlt, by go_num, rfl, hb4, hX, hO, hY, hE2⟩, by simp [intOf]; omega⟩
        | false =>
          have hE2 : Hid (InnE p c p.beginT.1 fin (updS came2 ⟨t0, t1, t2, t3, t4, t5⟩ ⟨⟨s0, s1, s2, s3, s4, s5⟩, ⟨x0, x1⟩⟩) j (t + 1) ⟨s0, s1, s2, s3, s4, s5⟩ l (ways2 ++ [(⟨t0, t1, t2, t3, t4, t5⟩, l ++ [⟨x0, x1⟩])])) := Lib.hid (hE.out.put HX.out HN1.out HYM.out HKB.out hsf)
          have hwl : rs2.length ≤ 4097 := by
            have := hE.out.more
            have h9 := hY.out.1
            have := HCT.out
            omega
          have HWL := Lib.hid hwl
          clear hE hkb hwl
          have f1 := hX.free J
          go_upto_region 25 with fail
          have hwl := HWL.out
          have hnv : nv2 = rs2.length := by
            obtain ⟨A9, c9, h10⟩ := ownE_form hO.out (fun _ => rfl)
            cases h10
            rfl
          subst hnv
          clear f1 hcJ hJ0 hJ1 zf
          have hX1 := hX.set J (.bool true)
          rw [← List.map_set, known_set HJS.out ⟨⟨s0, s1, s2, s3, s4, s5⟩, ⟨x0, x1⟩⟩ HJE.out] at hX1
          have hb5 := hb4.setCell (p := ⟨w4.heap.size, J, none⟩) (Nat.le_refl _) (.bool true)
          have hO1 := Lib.hid (OwnE.set hO.out (a := ⟨w4.heap.size, J, none⟩) (Nat.lt_succ_self _) (.bool true))
          have hY1 := Lib.hid (hY.out.cell (Nat.lt_succ_self w4.heap.size) J (.bool true))
          have HBY3 := Lib.hid (OwnE.set HBY2.out (a := ⟨w4.heap.size, J, none⟩) (Nat.lt_succ_self _) (.bool true))
          clear hX hb4 hO hY HBY2
          generalize wr.setCell ⟨w4.heap.size, J, none⟩ (.bool true) = ws at hX1 hb5 hO1 hY1 HBY3 ⊢
          have hbS := (Below.refl ws.heap.size ws).alloc (Nat.le_refl _) (.cells #[.int .i64 (J : Int), .slice A17 (l.length + 1) k17] 109)
          have XN := Box.new ws [.int .i64 (J : Int), .slice A17 (l.length + 1) k17] 109
          have hO2 := OwnE.later hO1.out hbS
          have hY2 := hY1.out.later hbS
          have HB4 := OwnE.later HBY3.out hbS
          have hX2 := hX1.later hbS
          have hsz := hX1.lt
          have hs2 := hbS.size
          obtain ⟨i0, E⟩ := elem_way
          obtain ⟨g', c', w9, hr, hO3, hgr⟩ := run_appE E (fun _ => rfl) wa_one (by omega) (⟨J, A17, l.length + 1, k17⟩ : Wa) 110 hO2 XN (by omega) (by omega)
          have hB1 := hb5.trans (hbS.mono hb5.size)
          have hB2 := OwnE.grown hO2 hgr (by omega) hB1 hB1.size
          have hX3 := box_grown hO2 hgr hX2 (by omega)
          have hY3 := hY2.grown hO2 hgr
          have HB5 : OwnSh w9 (w4.heap.size + 1) (.slice A17 (l.length + 1) k17) (l ++ [⟨x0, x1⟩]) := OwnSh.same HB4 (fun b hb => by
            obtain ⟨cs9, h9⟩ := OwnSh.cells? HB4 hb
            exact hgr.block b (Array.getElem?_eq_some_iff.1 h9).1 (fun e => by
              obtain ⟨cur, h1⟩ := ownE_obj hO2 e.symm
              rw [h9] at h1
              simp at h1))
          have hY4 := Lib.hid (hY3.snoc (r := ⟨J, A17, l.length + 1, k17⟩) (y := ⟨t0, t1, t2, t3, t4, t5⟩) (l := l ++ [⟨x0, x1⟩]) HJ.out.symm HB5)
          have HO3 := Lib.hid hO3
          clear hwl hO3 hgr hB1 hO2 hY2 HB4 hX2 hsz hs2 hY3 HB5 hb5 hO1 hY1 HBY3 hX1 XN hbS
          go_upto_region 17 with fail
          clear hr E
          have hms := HMS.out
          go_wp2
          clear hll hjn
          refine ⟨⟨t + 1, updS came2 ⟨t0, t1, t2, t3, t4, t5⟩ ⟨⟨s0, s1, s2, s3, s4, s5⟩, ⟨x0, x1⟩⟩, ways2 ++ [(⟨t0, t1, t2, t3, t4, t5⟩, l ++ [⟨x0, x1⟩])], rs2 ++ [⟨J, A17, l.length + 1, k17⟩], some ⟨g', 0, none⟩, rs2.length + 1, c', hlt, by go_num, rfl, hB2, hX3, HO3, hY4, hE2⟩, by simp [intOf]; omega⟩
end Go.Proofs.Ytancngachnpefaa
