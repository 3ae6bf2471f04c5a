/- BarrierBoth. (Printed by gen_nf.py and pp.py.) No condition. -/
import Derived.Test.YtancngachnpefaaQK
import Derived.Test.YtancngachnpefaaQNB
import Derived.Test.YtancngachnpefaaQNC
import Derived.Test.YtancngachnpefaaQBC
import Derived.Test.YtancngachnpefaaQMI
import Derived.WalkKit
import Derived.ProofKit
import Derived.OpenShut
import Derived.ChangeOld
import Derived.Below
import Derived.Lib.SmallJoins
import Derived.Deep.Slices
import Derived.Deep.Fields
import Derived.ChangeSame
set_option linter.unusedVariables false
set_option linter.unusedSimpArgs false
set_option maxRecDepth 100000
set_option maxHeartbeats 8000000
namespace Go.Proofs.Ytancngachnpefaa
open Go.RowKit Go.Shelf
attribute [local go_sem] Oper.semAt_some
theorem made0 (w : World) (base : Nat) (h : base ≤ w.heap.size) : OwnQ (w.alloc (.cells #[] 71)) base (.slice (some ⟨w.heap.size, 0, none⟩) 0 0) [] :=
  ⟨rfl, .inr ⟨w.heap.size, 0, #[], rfl, h, World.alloc_heap_new w _, Nat.le_refl _, Nat.zero_le _, rfl, rfl⟩⟩
theorem law_BarrierBoth (p : Pl) (c : List Ln) (V : Value) (a : List Iq) (U1 : Value) (b : List Iq) (U2 : Value) (w : World) (hC : CodeAt w w.heap.size V c) (hQa : BarAt w w.heap.size U1 a ∧ SlF U1) (hQb : BarAt w w.heap.size U2 b ∧ SlF U2) :
    Calls Try.prog 8 #[p.v, .agg #[V], U1, U2] w fun e w' => e = .returned (.bool true) ∧ Below w.heap.size w w' := by
  obtain ⟨A, cp, rfl, hm⟩ := hC.form
  obtain ⟨Aa, ca, rfl, hma⟩ := hQa.1.form
  obtain ⟨Ab, cb, rfl, hmb⟩ := hQb.1.form
  obtain ⟨n, hn⟩ : ∃ n, c.length = n := ⟨_, rfl⟩
  obtain ⟨na, hna⟩ : ∃ na, a.length = na := ⟨_, rfl⟩
  obtain ⟨nb, hnb⟩ : ∃ nb, b.length = nb := ⟨_, rfl⟩
  rw [hn] at hC
  rw [hna] at hQa
  rw [hnb] at hQb
  rw [hn, hna, hnb]
  have HC := Lib.hid hC
  have HA := Lib.hid hQa.1
  have HAf := Lib.hid hQa.2
  have HQ := Lib.hid hQb.1
  have HQf := Lib.hid hQb.2
  have HNA := Lib.hid hna
  have HNB := Lib.hid hnb
  clear hC hQa hQb hm hma hmb hn hna hnb
  go_enter Try.func8, Try.ntmps8
  go_wp2_with fail
  have hB := ((Below.refl w.heap.size w).alloc (by simp <;> omega) (.cells #[.int .i64 p.top, .int .i64 p.bank, .int .i64 p.siphon, .int .i64 p.start, .int .i64 p.positions, .int .i64 p.rate, .int .i64 p.step, .int .i64 p.pass, .int .i64 p.feed, .int .i64 p.pipe, .int .i64 p.orders, .int .i64 p.age] 23)).alloc (by simp <;> omega) (.cells #[.slice A n cp] 26)
  have X4 := (Box.newAt (w := w) (n := w.heap.size) [.int .i64 p.top, .int .i64 p.bank, .int .i64 p.siphon, .int .i64 p.start, .int .i64 p.positions, .int .i64 p.rate, .int .i64 p.step, .int .i64 p.pass, .int .i64 p.feed, .int .i64 p.pipe, .int .i64 p.orders, .int .i64 p.age] 23 rfl).alloc (.cells #[.slice A n cp] 26)
  have X5 := Box.newAt (w := w.alloc (.cells #[.int .i64 p.top, .int .i64 p.bank, .int .i64 p.siphon, .int .i64 p.start, .int .i64 p.positions, .int .i64 p.rate, .int .i64 p.step, .int .i64 p.pass, .int .i64 p.feed, .int .i64 p.pipe, .int .i64 p.orders, .int .i64 p.age] 23)) (n := w.heap.size + 1) [.slice A n cp] 26 (by simp)
  generalize (w.alloc (.cells #[.int .i64 p.top, .int .i64 p.bank, .int .i64 p.siphon, .int .i64 p.start, .int .i64 p.positions, .int .i64 p.rate, .int .i64 p.step, .int .i64 p.pass, .int .i64 p.feed, .int .i64 p.pipe, .int .i64 p.orders, .int .i64 p.age] 23)).alloc (.cells #[.slice A n cp] 26) = w0 at X4 X5 hB ⊢
  refine (bSane_any _).mono ?_
  rintro e w1 ⟨rfl, hb⟩
  replace X4 := X4.later hb
  replace X5 := X5.later hb
  replace hB := hB.trans (hb.mono hB.size)
  clear hb
  obtain ⟨X4c0, X4f0, X4c1, X4f1, X4c2, X4f2, X4c3, X4f3, X4c4, X4f4, X4c5, X4f5, X4c6, X4f6, X4c7, X4f7, X4c8, X4f8, X4c9, X4f9, X4c10, X4f10, X4c11, X4f11⟩ := X4.f12
  have X4z : w.heap.size < w1.heap.size := X4.lt
  have X5c0 : w1.cell? ⟨w.heap.size + 1, 0, none⟩ = some (.slice A n cp) := X5.cell 0
  have X5f0 : w1.frozen? ⟨w.heap.size + 1, 0, none⟩ = false := X5.free 0
  have X5z : w.heap.size + 1 < w1.heap.size := X5.lt
  go_wp2_with fail
  clear X4c0 X4f0 X4c1 X4f1 X4c2 X4f2 X4c3 X4f3 X4c4 X4f4 X4c5 X4f5 X4c6 X4f6 X4c7 X4f7 X4c8 X4f8 X4c9 X4f9 X4c10 X4f10 X4c11 X4f11 X4z
  clear X5c0 X5f0 X5z
  refine (zFew_tell (HC.out.later hB) (HA.out.later hB)).mono ?_
  rintro e w2 hF
  obtain ⟨t, rfl, hI, hb⟩ := hF
  replace X4 := X4.later hb
  replace X5 := X5.later hb
  replace hB := hB.trans (hb.mono hB.size)
  clear hb
  cases t with
  | false =>
    clear hI
    go_wp2
    go_ret
    exact ⟨rfl, hB⟩
  | true =>
  have HI := Lib.hid (hI rfl)
  clear hI
  obtain ⟨X4c0, X4f0, X4c1, X4f1, X4c2, X4f2, X4c3, X4f3, X4c4, X4f4, X4c5, X4f5, X4c6, X4f6, X4c7, X4f7, X4c8, X4f8, X4c9, X4f9, X4c10, X4f10, X4c11, X4f11⟩ := X4.f12
  have X4z : w.heap.size < w2.heap.size := X4.lt
  have X5c0 : w2.cell? ⟨w.heap.size + 1, 0, none⟩ = some (.slice A n cp) := X5.cell 0
  have X5f0 : w2.frozen? ⟨w.heap.size + 1, 0, none⟩ = false := X5.free 0
  have X5z : w.heap.size + 1 < w2.heap.size := X5.lt
  go_wp2_with fail
  clear X4c0 X4f0 X4c1 X4f1 X4c2 X4f2 X4c3 X4f3 X4c4 X4f4 X4c5 X4f5 X4c6 X4f6 X4c7 X4f7 X4c8 X4f8 X4c9 X4f9 X4c10 X4f10 X4c11 X4f11 X4z
  clear X5c0 X5f0 X5z
  refine (zFew_tell (HC.out.later hB) (HQ.out.later hB)).mono ?_
  rintro e w3 hF
  obtain ⟨t, rfl, hI, hb⟩ := hF
  replace X4 := X4.later hb
  replace X5 := X5.later hb
  replace hB := hB.trans (hb.mono hB.size)
  clear hb
  cases t with
  | false =>
    clear hI
    go_wp2
    go_ret
    exact ⟨rfl, hB⟩
  | true =>
  have HJ := Lib.hid (hI rfl)
  clear hI
  have hna40 : na ≤ 40 := by rw [← HNA.out]; exact HI.out
  have hnb40 : nb ≤ 40 := by rw [← HNB.out]; exact HJ.out
  have p1 : wrap64 ((na : Int) + (nb : Int)) = (na : Int) + nb := by unfold wrap64; omega
  have p2 : IntKind.i64.wrap ((na : Int) + (nb : Int)) = (na : Int) + nb := by rw [IntKind.wrap_i64]; omega
  have HA40 := Lib.hid hna40
  have HB40 := Lib.hid hnb40
  clear hna40 hnb40 HI HJ
  by_cases h16 : na + nb ≤ 16
  rotate_left
  · have e0 : (16 : Int) < (na : Int) + nb := by omega
    go_wp2
    go_ret
    exact ⟨rfl, hB⟩
  have e0 : ¬ (16 : Int) < (na : Int) + nb := by omega
  obtain ⟨X4c0, X4f0, X4c1, X4f1, X4c2, X4f2, X4c3, X4f3, X4c4, X4f4, X4c5, X4f5, X4c6, X4f6, X4c7, X4f7, X4c8, X4f8, X4c9, X4f9, X4c10, X4f10, X4c11, X4f11⟩ := X4.f12
  have X4z : w.heap.size < w3.heap.size := X4.lt
  have X5c0 : w3.cell? ⟨w.heap.size + 1, 0, none⟩ = some (.slice A n cp) := X5.cell 0
  have X5f0 : w3.frozen? ⟨w.heap.size + 1, 0, none⟩ = false := X5.free 0
  have X5z : w.heap.size + 1 < w3.heap.size := X5.lt
  have H16 := Lib.hid h16
  clear h16
  obtain ⟨ta, fa, ea, hca⟩ : ∃ t f d, Hid (certT p c a = (t, f, d)) := ⟨_, _, _, rfl⟩
  obtain ⟨tb, fb, eb, hcb⟩ : ∃ t f d, Hid (certT p c b = (t, f, d)) := ⟨_, _, _, rfl⟩
  obtain ⟨tz, fz, ez, hcz⟩ : ∃ t f d, Hid (certT p c (a ++ b) = (t, f, d)) := ⟨_, _, _, rfl⟩
  go_wp2_with fail
  clear p1 p2 e0
  clear X4c0 X4f0 X4c1 X4f1 X4c2 X4f2 X4c3 X4f3 X4c4 X4f4 X4c5 X4f5 X4c6 X4f6 X4c7 X4f7 X4c8 X4f8 X4c9 X4f9 X4c10 X4f10 X4c11 X4f11 X4z
  clear X5c0 X5f0 X5z
  refine (bCert_is hca (HC.out.later hB) (HA.out.later hB)).mono ?_
  rintro e w5 ⟨rfl, hb⟩
  replace X4 := X4.later hb
  replace X5 := X5.later hb
  replace hB := hB.trans (hb.mono hB.size)
  clear hb
  obtain ⟨fk, ⟨g0, g1, g2, g3, g4, g5⟩, ⟨f0, f1⟩⟩ := fa
  have hz5 : w.heap.size + 1 < w5.heap.size := X5.lt
  go_upto_region 6 with fail
  have hb := (Below.refl w5.heap.size w5).alloc (Nat.le_refl _) (.cells #[.int .i64 fk, .int .i64 g0, .int .i64 g1, .int .i64 g2, .int .i64 g3, .int .i64 g4, .int .i64 g5, .int .i64 f0, .int .i64 f1] 39)
  replace X4 := X4.later hb
  replace X5 := X5.later hb
  replace hB := hB.trans (hb.mono hB.size)
  clear hb
  generalize w5.alloc (.cells #[.int .i64 fk, .int .i64 g0, .int .i64 g1, .int .i64 g2, .int .i64 g3, .int .i64 g4, .int .i64 g5, .int .i64 f0, .int .i64 f1] 39) = w6 at X4 X5 hB ⊢
  generalize w5.heap.size = B10 at hz5 ⊢
  clear hz5
  obtain ⟨X4c0, X4f0, X4c1, X4f1, X4c2, X4f2, X4c3, X4f3, X4c4, X4f4, X4c5, X4f5, X4c6, X4f6, X4c7, X4f7, X4c8, X4f8, X4c9, X4f9, X4c10, X4f10, X4c11, X4f11⟩ := X4.f12
  have X4z : w.heap.size < w6.heap.size := X4.lt
  have X5c0 : w6.cell? ⟨w.heap.size + 1, 0, none⟩ = some (.slice A n cp) := X5.cell 0
  have X5f0 : w6.frozen? ⟨w.heap.size + 1, 0, none⟩ = false := X5.free 0
  have X5z : w.heap.size + 1 < w6.heap.size := X5.lt
  go_wp2_with fail
  clear X4c0 X4f0 X4c1 X4f1 X4c2 X4f2 X4c3 X4f3 X4c4 X4f4 X4c5 X4f5 X4c6 X4f6 X4c7 X4f7 X4c8 X4f8 X4c9 X4f9 X4c10 X4f10 X4c11 X4f11 X4z
  clear X5c0 X5f0 X5z
  refine (bCert_is hcb (HC.out.later hB) (HQ.out.later hB)).mono ?_
  rintro e w7 ⟨rfl, hb⟩
  replace X4 := X4.later hb
  replace X5 := X5.later hb
  replace hB := hB.trans (hb.mono hB.size)
  clear hb
  obtain ⟨bk, ⟨h0, h1, h2, h3, h4, h5⟩, ⟨k0, k1⟩⟩ := fb
  go_upto_region 7 with fail
  have hb := (Below.refl w7.heap.size w7).alloc (Nat.le_refl _) (.cells #[.int .i64 bk, .int .i64 h0, .int .i64 h1, .int .i64 h2, .int .i64 h3, .int .i64 h4, .int .i64 h5, .int .i64 k0, .int .i64 k1] 39)
  replace X4 := X4.later hb
  replace X5 := X5.later hb
  replace hB := hB.trans (hb.mono hB.size)
  clear hb
  generalize w7.alloc (.cells #[.int .i64 bk, .int .i64 h0, .int .i64 h1, .int .i64 h2, .int .i64 h3, .int .i64 h4, .int .i64 h5, .int .i64 k0, .int .i64 k1] 39) = w8 at X4 X5 hB ⊢
  generalize w7.heap.size = B13 at ⊢
  obtain ⟨zk, ⟨z0, z1, z2, z3, z4, z5⟩, ⟨y0, y1⟩⟩ := fz
  go_cut [15, 17] (fun s15 s17 wx => s15 = .bool tz ∧ s17 = .int .i64 ez ∧ Below w8.heap.size w8 wx)
  case first =>
    have hd := (Below.refl w8.heap.size w8).drew
    have zp4 := X4.lt
    have zp5 := X5.lt
    have u0 : ∀ z : Later w8, z.w.cell? ⟨w.heap.size, 0, none⟩ = some (.int .i64 p.top) := Later.cell (X4.cell 0) zp4
    have u1 : ∀ z : Later w8, z.w.cell? ⟨w.heap.size, 1, none⟩ = some (.int .i64 p.bank) := Later.cell (X4.cell 1) zp4
    have u2 : ∀ z : Later w8, z.w.cell? ⟨w.heap.size, 2, none⟩ = some (.int .i64 p.siphon) := Later.cell (X4.cell 2) zp4
    have u3 : ∀ z : Later w8, z.w.cell? ⟨w.heap.size, 3, none⟩ = some (.int .i64 p.start) := Later.cell (X4.cell 3) zp4
    have u4 : ∀ z : Later w8, z.w.cell? ⟨w.heap.size, 4, none⟩ = some (.int .i64 p.positions) := Later.cell (X4.cell 4) zp4
    have u5 : ∀ z : Later w8, z.w.cell? ⟨w.heap.size, 5, none⟩ = some (.int .i64 p.rate) := Later.cell (X4.cell 5) zp4
    have u6 : ∀ z : Later w8, z.w.cell? ⟨w.heap.size, 6, none⟩ = some (.int .i64 p.step) := Later.cell (X4.cell 6) zp4
    have u7 : ∀ z : Later w8, z.w.cell? ⟨w.heap.size, 7, none⟩ = some (.int .i64 p.pass) := Later.cell (X4.cell 7) zp4
    have u8 : ∀ z : Later w8, z.w.cell? ⟨w.heap.size, 8, none⟩ = some (.int .i64 p.feed) := Later.cell (X4.cell 8) zp4
    have u9 : ∀ z : Later w8, z.w.cell? ⟨w.heap.size, 9, none⟩ = some (.int .i64 p.pipe) := Later.cell (X4.cell 9) zp4
    have u10 : ∀ z : Later w8, z.w.cell? ⟨w.heap.size, 10, none⟩ = some (.int .i64 p.orders) := Later.cell (X4.cell 10) zp4
    have u11 : ∀ z : Later w8, z.w.cell? ⟨w.heap.size, 11, none⟩ = some (.int .i64 p.age) := Later.cell (X4.cell 11) zp4
    have v0 : ∀ z : Later w8, z.w.cell? ⟨w.heap.size + 1, 0, none⟩ = some (.slice A n cp) := Later.cell (X5.cell 0) zp5
    refine wp_region_heads (C := fun w' => ∃ x : Later w8, w' = x.w) [0, 1, 3, 5] (by kernel_rfl) (by kernel_rfl) (Later.mk' hd) (fun _ _ h => h) ?_
    simp only [headOps, List.filterMap_cons, List.filterMap_nil, List.getElem?_toArray, List.getElem?_cons_succ, List.getElem?_cons_zero]
    repeat (first | go_big_quiet_skip | (show wpQuiet _ _ _ _ (_ :: _) _; go_big_quiet_skip) | (show wpQuiet _ _ _ _ (_ :: _) _; go_big_quiet_want; go_big_quiet_op; go_big_quiet_on))
    refine wpQuiet_nil ?_
    clear u0 u1 u2 u3 u4 u5 u6 u7 u8 u9 u10 u11 v0
    have HCd := Lib.hid (HC.out.later hB)
    have HAd := Lib.hid (HA.out.later hB)
    have HQd := Lib.hid (HQ.out.later hB)
    refine anyC_twoW (n := 12) (i := 2) (j := 12) (by kernel_rfl) (Later.mk' hd) ?_ ?_
    · skip
      refine wpOp_valD (some 59) (v := .slice (some ⟨w8.drew.heap.size, 0, none⟩) 0 0) (w' := w8.drew.alloc (.cells #[] 71)) (by rfl) rfl rfl ?_ ?_
      · go_simp
      simp only [Act.put, List.setIfInBounds_toArray, List.set_cons_zero, List.set_cons_succ]
      have hb := (Below.refl w8.drew.heap.size w8.drew).alloc (Nat.le_refl _) (.cells #[] 71)
      have hW1 := hd.trans (hb.mono hd.size)
      have hQ9 := made0 w8.drew w8.heap.size hd.size
      clear hb
      generalize w8.drew.alloc (.cells #[] 71) = W1 at hW1 hQ9 ⊢
      generalize w8.drew.heap.size = R9 at hQ9 ⊢
      refine anyC_twoW (n := 11) (i := 4) (j := 12) (by kernel_rfl) (Later.mk' hW1) ?_ ?_
      · skip
        have hx9 := (HAd.out.below hW1).more hW1.size
        obtain ⟨V9p, W2, hr9, hQn, hg9⟩ := hQ9.app 27 hx9 HAf.out (by rw [List.length_nil, HNA.out]; have := HA40.out; omega) hW1.size
        refine wpOp_valD (some 61) (v := V9p) (w' := W2) (by rfl) rfl rfl ?_ ?_
        · exact run_app_op (x := .tmp 59) (y := .tmp 60) rfl rfl rfl rfl hr9
        simp only [Act.put, List.setIfInBounds_toArray, List.set_cons_zero, List.set_cons_succ]
        have hW2 := hW1.trans (hQ9.below hg9 (Nat.le_refl _) hW1.size)
        clear hr9 hx9 hg9 hQ9
        have hQ9 := hQn
        clear hQn
        refine anyC_twoW (n := 10) (i := 6) (j := 12) (by kernel_rfl) (Later.mk' hW2) ?_ ?_
        · skip
          have hx9 := (HQd.out.below hW2).more hW2.size
          obtain ⟨V9q, W3, hr9, hQn, hg9⟩ := hQ9.app 27 hx9 HQf.out (by rw [List.nil_append, HNA.out, HNB.out]; have := H16.out; omega) hW2.size
          refine wpOp_valD (some 63) (v := V9q) (w' := W3) (by rfl) rfl rfl ?_ ?_
          · exact run_app_op (x := .tmp 61) (y := .tmp 62) rfl rfl rfl rfl hr9
          simp only [Act.put, List.setIfInBounds_toArray, List.set_cons_zero, List.set_cons_succ]
          have hW3 := hW2.trans (hQ9.below hg9 (Nat.le_refl _) hW2.size)
          clear hr9 hx9 hg9 hQ9
          have hQ9 := hQn
          clear hQn
          refine anyC_twoW (n := 9) (i := 7) (j := 12) (by kernel_rfl) (Later.mk' hW3) ?_ ?_
          · skip
            obtain ⟨hbar, -⟩ := hQ9.bar (by rw [List.nil_append, List.length_append, HNA.out, HNB.out]; have := H16.out; omega)
            have hcz9 : Hid (certT p c ([] ++ a ++ b) = (tz, ⟨zk, ⟨z0, z1, z2, z3, z4, z5⟩, ⟨y0, y1⟩⟩, ez)) := hcz
            have hC9 := (HCd.out.below hW3).more hW3.size
            refine wpOp_callD (some 64) (by rfl) rfl rfl ?_ ((bCert_is hcz9 hC9 hbar).mono ?_)
            · go_simp
            rintro e W4 ⟨rfl, hb⟩
            refine ⟨_, rfl, ?_⟩
            simp only [Act.put, List.setIfInBounds_toArray, List.set_cons_zero, List.set_cons_succ]
            have hW4 := hW3.trans (hb.mono hW3.size)
            clear hb hbar hC9 hQ9
            refine anyC_heads (by kernel_rfl) 4 W4 (Later.mk' hW4) [8, 9, 10, 11] _ _ (by kernel_rfl) ?_
            simp only [headOps, List.filterMap_cons, List.filterMap_nil, List.getElem?_toArray, List.getElem?_cons_succ, List.getElem?_cons_zero]
            repeat (first | go_big_quiet_skip | (show wpQuiet _ _ _ _ (_ :: _) _; go_big_quiet_skip) | (show wpQuiet _ _ _ _ (_ :: _) _; go_big_quiet_want; go_big_quiet_op; go_big_quiet_on))
            refine wpQuiet_nil ?_
            refine anyC_valD (some 16) (n := 3) (i := 12) (v := .pointer (some ⟨W4.heap.size, 0, none⟩)) (w' := W4.alloc (.cells #[.int .i64 0, .int .i64 0, .int .i64 0, .int .i64 0, .int .i64 0, .int .i64 0, .int .i64 0, .int .i64 0, .int .i64 0] 39)) (by kernel_rfl) rfl rfl rfl (Later.mk' hW4) (by go_simp) ?_
            simp only [Act.put, List.setIfInBounds_toArray, List.set_cons_zero, List.set_cons_succ]
            have Y8 := World.alloc_heap_new W4 (.cells #[.int .i64 0, .int .i64 0, .int .i64 0, .int .i64 0, .int .i64 0, .int .i64 0, .int .i64 0, .int .i64 0, .int .i64 0] 39)
            have hF8 := hW4.size
            have hWT := hW4.alloc hW4.size (.cells #[.int .i64 0, .int .i64 0, .int .i64 0, .int .i64 0, .int .i64 0, .int .i64 0, .int .i64 0, .int .i64 0, .int .i64 0] 39)
            generalize W4.alloc (.cells #[.int .i64 0, .int .i64 0, .int .i64 0, .int .i64 0, .int .i64 0, .int .i64 0, .int .i64 0, .int .i64 0, .int .i64 0] 39) = WT at Y8 hWT ⊢
            generalize W4.heap.size = F8 at Y8 hF8 ⊢
            have Y9 : Box WT F8 [.int .i64 0, .int .i64 0, .int .i64 0, .int .i64 0, .int .i64 0, .int .i64 0, .int .i64 0, .int .i64 0, .int .i64 0] := ⟨_, Y8⟩
            obtain ⟨Y9c0, Y9f0, Y9c1, Y9f1, Y9c2, Y9f2, Y9c3, Y9f3, Y9c4, Y9f4, Y9c5, Y9f5, Y9c6, Y9f6, Y9c7, Y9f7, Y9c8, Y9f8⟩ := Y9.f9
            have Y9z : F8 < WT.heap.size := Y9.lt
            have hWZ := (((((((((hWT.setCell (p := ⟨F8, 0, none⟩) (by simp <;> omega) (.int .i64 zk)).setCell (p := ⟨F8, 1, none⟩) (by simp <;> omega) (.int .i64 z0)).setCell (p := ⟨F8, 2, none⟩) (by simp <;> omega) (.int .i64 z1)).setCell (p := ⟨F8, 3, none⟩) (by simp <;> omega) (.int .i64 z2)).setCell (p := ⟨F8, 4, none⟩) (by simp <;> omega) (.int .i64 z3)).setCell (p := ⟨F8, 5, none⟩) (by simp <;> omega) (.int .i64 z4)).setCell (p := ⟨F8, 6, none⟩) (by simp <;> omega) (.int .i64 z5)).setCell (p := ⟨F8, 7, none⟩) (by simp <;> omega) (.int .i64 y0)).setCell (p := ⟨F8, 8, none⟩) (by simp <;> omega) (.int .i64 y1))
            refine anyC_valD (some 15) (n := 2) (i := 13) (v := .bool tz) (w' := WT) (by kernel_rfl) rfl rfl rfl (Later.mk' hWT) (by first | rfl | go_simp) ?_
            simp only [Act.put, List.setIfInBounds_toArray, List.set_cons_zero, List.set_cons_succ]
            refine anyC_storeN (w' := (((((((((WT.setCell ⟨F8, 0, none⟩ (.int .i64 zk)).setCell ⟨F8, 1, none⟩ (.int .i64 z0)).setCell ⟨F8, 2, none⟩ (.int .i64 z1)).setCell ⟨F8, 3, none⟩ (.int .i64 z2)).setCell ⟨F8, 4, none⟩ (.int .i64 z3)).setCell ⟨F8, 5, none⟩ (.int .i64 z4)).setCell ⟨F8, 6, none⟩ (.int .i64 z5)).setCell ⟨F8, 7, none⟩ (.int .i64 y0)).setCell ⟨F8, 8, none⟩ (.int .i64 y1))) (n := 1) (i := 14) (by kernel_rfl) rfl rfl rfl (Later.mk' hWT) ?_ ?_
            · go_simp
            generalize (((((((((WT.setCell ⟨F8, 0, none⟩ (.int .i64 zk)).setCell ⟨F8, 1, none⟩ (.int .i64 z0)).setCell ⟨F8, 2, none⟩ (.int .i64 z1)).setCell ⟨F8, 3, none⟩ (.int .i64 z2)).setCell ⟨F8, 4, none⟩ (.int .i64 z3)).setCell ⟨F8, 5, none⟩ (.int .i64 z4)).setCell ⟨F8, 6, none⟩ (.int .i64 z5)).setCell ⟨F8, 7, none⟩ (.int .i64 y0)).setCell ⟨F8, 8, none⟩ (.int .i64 y1)) = WZ at hWZ ⊢
            refine anyC_valD (some 17) (n := 0) (i := 15) (v := .int .i64 ez) (w' := WZ) (by kernel_rfl) rfl rfl rfl (Later.mk' hWZ) (by first | rfl | go_simp) ?_
            simp only [Act.put, List.setIfInBounds_toArray, List.set_cons_zero, List.set_cons_succ]
            refine anyC_done (by kernel_rfl) (Later.mk' hWZ) ?_
            go_wp2_with fail
            go_meet
            exact ⟨rfl, rfl, hWZ⟩
          · skip
            refine wpOp_valD (some 16) (v := .pointer (some ⟨W3.heap.size, 0, none⟩)) (w' := W3.alloc (.cells #[.int .i64 0, .int .i64 0, .int .i64 0, .int .i64 0, .int .i64 0, .int .i64 0, .int .i64 0, .int .i64 0, .int .i64 0] 39)) (by rfl) rfl rfl ?_ ?_
            · go_simp
            simp only [Act.put, List.setIfInBounds_toArray, List.set_cons_zero, List.set_cons_succ]
            have hb := (Below.refl W3.heap.size W3).alloc (Nat.le_refl _) (.cells #[.int .i64 0, .int .i64 0, .int .i64 0, .int .i64 0, .int .i64 0, .int .i64 0, .int .i64 0, .int .i64 0, .int .i64 0] 39)
            have hW5 := hW3.trans (hb.mono hW3.size)
            have hQ9 := hQ9.later hb
            have Y8 := World.alloc_heap_new W3 (.cells #[.int .i64 0, .int .i64 0, .int .i64 0, .int .i64 0, .int .i64 0, .int .i64 0, .int .i64 0, .int .i64 0, .int .i64 0] 39)
            have hF8 := hW3.size
            clear hb
            generalize W3.alloc (.cells #[.int .i64 0, .int .i64 0, .int .i64 0, .int .i64 0, .int .i64 0, .int .i64 0, .int .i64 0, .int .i64 0, .int .i64 0] 39) = W5 at hW5 Y8 hQ9 ⊢
            generalize W3.heap.size = F8 at Y8 hF8 ⊢
            obtain ⟨hbar, -⟩ := hQ9.bar (by rw [List.nil_append, List.length_append, HNA.out, HNB.out]; have := H16.out; omega)
            have hcz9 : Hid (certT p c ([] ++ a ++ b) = (tz, ⟨zk, ⟨z0, z1, z2, z3, z4, z5⟩, ⟨y0, y1⟩⟩, ez)) := hcz
            have hC9 := (HCd.out.below hW5).more hW5.size
            refine anyC_callD (some 64) (n := 7) (i := 7) (by kernel_rfl) rfl rfl rfl (Later.mk' hW5) ?_ ((bCert_is hcz9 hC9 hbar).mono ?_)
            · go_simp
            rintro e W6 ⟨rfl, hb⟩
            refine ⟨_, rfl, ?_⟩
            simp only [Act.put, List.setIfInBounds_toArray, List.set_cons_zero, List.set_cons_succ]
            have hW6 := hW5.trans (hb.mono hW5.size)
            have Y8 := (hb.block F8 (Array.getElem?_eq_some_iff.1 Y8).1).trans Y8
            clear hb hbar hC9 hQ9
            refine anyC_heads (by kernel_rfl) 3 W6 (Later.mk' hW6) [8, 9, 10, 11] _ _ (by kernel_rfl) ?_
            simp only [headOps, List.filterMap_cons, List.filterMap_nil, List.getElem?_toArray, List.getElem?_cons_succ, List.getElem?_cons_zero]
            repeat (first | go_big_quiet_skip | (show wpQuiet _ _ _ _ (_ :: _) _; go_big_quiet_skip) | (show wpQuiet _ _ _ _ (_ :: _) _; go_big_quiet_want; go_big_quiet_op; go_big_quiet_on))
            refine wpQuiet_nil ?_
            have Y9 : Box W6 F8 [.int .i64 0, .int .i64 0, .int .i64 0, .int .i64 0, .int .i64 0, .int .i64 0, .int .i64 0, .int .i64 0, .int .i64 0] := ⟨_, Y8⟩
            obtain ⟨Y9c0, Y9f0, Y9c1, Y9f1, Y9c2, Y9f2, Y9c3, Y9f3, Y9c4, Y9f4, Y9c5, Y9f5, Y9c6, Y9f6, Y9c7, Y9f7, Y9c8, Y9f8⟩ := Y9.f9
            have Y9z : F8 < W6.heap.size := Y9.lt
            have hWZ := (((((((((hW6.setCell (p := ⟨F8, 0, none⟩) (by simp <;> omega) (.int .i64 zk)).setCell (p := ⟨F8, 1, none⟩) (by simp <;> omega) (.int .i64 z0)).setCell (p := ⟨F8, 2, none⟩) (by simp <;> omega) (.int .i64 z1)).setCell (p := ⟨F8, 3, none⟩) (by simp <;> omega) (.int .i64 z2)).setCell (p := ⟨F8, 4, none⟩) (by simp <;> omega) (.int .i64 z3)).setCell (p := ⟨F8, 5, none⟩) (by simp <;> omega) (.int .i64 z4)).setCell (p := ⟨F8, 6, none⟩) (by simp <;> omega) (.int .i64 z5)).setCell (p := ⟨F8, 7, none⟩) (by simp <;> omega) (.int .i64 y0)).setCell (p := ⟨F8, 8, none⟩) (by simp <;> omega) (.int .i64 y1))
            refine anyC_valD (some 15) (n := 2) (i := 13) (v := .bool tz) (w' := W6) (by kernel_rfl) rfl rfl rfl (Later.mk' hW6) (by first | rfl | go_simp) ?_
            simp only [Act.put, List.setIfInBounds_toArray, List.set_cons_zero, List.set_cons_succ]
            refine anyC_storeN (w' := (((((((((W6.setCell ⟨F8, 0, none⟩ (.int .i64 zk)).setCell ⟨F8, 1, none⟩ (.int .i64 z0)).setCell ⟨F8, 2, none⟩ (.int .i64 z1)).setCell ⟨F8, 3, none⟩ (.int .i64 z2)).setCell ⟨F8, 4, none⟩ (.int .i64 z3)).setCell ⟨F8, 5, none⟩ (.int .i64 z4)).setCell ⟨F8, 6, none⟩ (.int .i64 z5)).setCell ⟨F8, 7, none⟩ (.int .i64 y0)).setCell ⟨F8, 8, none⟩ (.int .i64 y1))) (n := 1) (i := 14) (by kernel_rfl) rfl rfl rfl (Later.mk' hW6) ?_ ?_
            · go_simp
            generalize (((((((((W6.setCell ⟨F8, 0, none⟩ (.int .i64 zk)).setCell ⟨F8, 1, none⟩ (.int .i64 z0)).setCell ⟨F8, 2, none⟩ (.int .i64 z1)).setCell ⟨F8, 3, none⟩ (.int .i64 z2)).setCell ⟨F8, 4, none⟩ (.int .i64 z3)).setCell ⟨F8, 5, none⟩ (.int .i64 z4)).setCell ⟨F8, 6, none⟩ (.int .i64 z5)).setCell ⟨F8, 7, none⟩ (.int .i64 y0)).setCell ⟨F8, 8, none⟩ (.int .i64 y1)) = WZ at hWZ ⊢
            refine anyC_valD (some 17) (n := 0) (i := 15) (v := .int .i64 ez) (w' := WZ) (by kernel_rfl) rfl rfl rfl (Later.mk' hWZ) (by first | rfl | go_simp) ?_
            simp only [Act.put, List.setIfInBounds_toArray, List.set_cons_zero, List.set_cons_succ]
            refine anyC_done (by kernel_rfl) (Later.mk' hWZ) ?_
            go_wp2_with fail
            go_meet
            exact ⟨rfl, rfl, hWZ⟩
        · skip
          refine wpOp_valD (some 16) (v := .pointer (some ⟨W2.heap.size, 0, none⟩)) (w' := W2.alloc (.cells #[.int .i64 0, .int .i64 0, .int .i64 0, .int .i64 0, .int .i64 0, .int .i64 0, .int .i64 0, .int .i64 0, .int .i64 0] 39)) (by rfl) rfl rfl ?_ ?_
          · go_simp
          simp only [Act.put, List.setIfInBounds_toArray, List.set_cons_zero, List.set_cons_succ]
          have hb := (Below.refl W2.heap.size W2).alloc (Nat.le_refl _) (.cells #[.int .i64 0, .int .i64 0, .int .i64 0, .int .i64 0, .int .i64 0, .int .i64 0, .int .i64 0, .int .i64 0, .int .i64 0] 39)
          have hW7 := hW2.trans (hb.mono hW2.size)
          have hQ9 := hQ9.later hb
          have Y8 := World.alloc_heap_new W2 (.cells #[.int .i64 0, .int .i64 0, .int .i64 0, .int .i64 0, .int .i64 0, .int .i64 0, .int .i64 0, .int .i64 0, .int .i64 0] 39)
          have hF8 := hW2.size
          clear hb
          generalize W2.alloc (.cells #[.int .i64 0, .int .i64 0, .int .i64 0, .int .i64 0, .int .i64 0, .int .i64 0, .int .i64 0, .int .i64 0, .int .i64 0] 39) = W7 at hW7 Y8 hQ9 ⊢
          generalize W2.heap.size = F8 at Y8 hF8 ⊢
          have hx9 := (HQd.out.below hW7).more hW7.size
          obtain ⟨V9q, W8, hr9, hQn, hg9⟩ := hQ9.app 27 hx9 HQf.out (by rw [List.nil_append, HNA.out, HNB.out]; have := H16.out; omega) hW7.size
          refine anyC_valD (some 63) (n := 8) (i := 6) (v := V9q) (w' := W8) (by kernel_rfl) rfl rfl rfl (Later.mk' hW7) (run_app_op (x := .tmp 61) (y := .tmp 62) rfl rfl rfl rfl hr9) ?_
          simp only [Act.put, List.setIfInBounds_toArray, List.set_cons_zero, List.set_cons_succ]
          have hW8 := hW7.trans (hQ9.below hg9 (Nat.le_refl _) hW7.size)
          have Y8 := (hg9.block F8 (Array.getElem?_eq_some_iff.1 Y8).1 (fun e => by obtain ⟨_, cs, h9⟩ := hQ9.cells? e.symm; rw [Y8] at h9; cases h9)).trans Y8
          clear hr9 hx9 hg9 hQ9
          have hQ9 := hQn
          clear hQn
          obtain ⟨hbar, -⟩ := hQ9.bar (by rw [List.nil_append, List.length_append, HNA.out, HNB.out]; have := H16.out; omega)
          have hcz9 : Hid (certT p c ([] ++ a ++ b) = (tz, ⟨zk, ⟨z0, z1, z2, z3, z4, z5⟩, ⟨y0, y1⟩⟩, ez)) := hcz
          have hC9 := (HCd.out.below hW8).more hW8.size
          refine anyC_callD (some 64) (n := 7) (i := 7) (by kernel_rfl) rfl rfl rfl (Later.mk' hW8) ?_ ((bCert_is hcz9 hC9 hbar).mono ?_)
          · go_simp
          rintro e W9 ⟨rfl, hb⟩
          refine ⟨_, rfl, ?_⟩
          simp only [Act.put, List.setIfInBounds_toArray, List.set_cons_zero, List.set_cons_succ]
          have hW9 := hW8.trans (hb.mono hW8.size)
          have Y8 := (hb.block F8 (Array.getElem?_eq_some_iff.1 Y8).1).trans Y8
          clear hb hbar hC9 hQ9
          refine anyC_heads (by kernel_rfl) 3 W9 (Later.mk' hW9) [8, 9, 10, 11] _ _ (by kernel_rfl) ?_
          simp only [headOps, List.filterMap_cons, List.filterMap_nil, List.getElem?_toArray, List.getElem?_cons_succ, List.getElem?_cons_zero]
          repeat (first | go_big_quiet_skip | (show wpQuiet _ _ _ _ (_ :: _) _; go_big_quiet_skip) | (show wpQuiet _ _ _ _ (_ :: _) _; go_big_quiet_want; go_big_quiet_op; go_big_quiet_on))
          refine wpQuiet_nil ?_
          have Y9 : Box W9 F8 [.int .i64 0, .int .i64 0, .int .i64 0, .int .i64 0, .int .i64 0, .int .i64 0, .int .i64 0, .int .i64 0, .int .i64 0] := ⟨_, Y8⟩
          obtain ⟨Y9c0, Y9f0, Y9c1, Y9f1, Y9c2, Y9f2, Y9c3, Y9f3, Y9c4, Y9f4, Y9c5, Y9f5, Y9c6, Y9f6, Y9c7, Y9f7, Y9c8, Y9f8⟩ := Y9.f9
          have Y9z : F8 < W9.heap.size := Y9.lt
          have hWZ := (((((((((hW9.setCell (p := ⟨F8, 0, none⟩) (by simp <;> omega) (.int .i64 zk)).setCell (p := ⟨F8, 1, none⟩) (by simp <;> omega) (.int .i64 z0)).setCell (p := ⟨F8, 2, none⟩) (by simp <;> omega) (.int .i64 z1)).setCell (p := ⟨F8, 3, none⟩) (by simp <;> omega) (.int .i64 z2)).setCell (p := ⟨F8, 4, none⟩) (by simp <;> omega) (.int .i64 z3)).setCell (p := ⟨F8, 5, none⟩) (by simp <;> omega) (.int .i64 z4)).setCell (p := ⟨F8, 6, none⟩) (by simp <;> omega) (.int .i64 z5)).setCell (p := ⟨F8, 7, none⟩) (by simp <;> omega) (.int .i64 y0)).setCell (p := ⟨F8, 8, none⟩) (by simp <;> omega) (.int .i64 y1))
          refine anyC_valD (some 15) (n := 2) (i := 13) (v := .bool tz) (w' := W9) (by kernel_rfl) rfl rfl rfl (Later.mk' hW9) (by first | rfl | go_simp) ?_
          simp only [Act.put, List.setIfInBounds_toArray, List.set_cons_zero, List.set_cons_succ]
          refine anyC_storeN (w' := (((((((((W9.setCell ⟨F8, 0, none⟩ (.int .i64 zk)).setCell ⟨F8, 1, none⟩ (.int .i64 z0)).setCell ⟨F8, 2, none⟩ (.int .i64 z1)).setCell ⟨F8, 3, none⟩ (.int .i64 z2)).setCell ⟨F8, 4, none⟩ (.int .i64 z3)).setCell ⟨F8, 5, none⟩ (.int .i64 z4)).setCell ⟨F8, 6, none⟩ (.int .i64 z5)).setCell ⟨F8, 7, none⟩ (.int .i64 y0)).setCell ⟨F8, 8, none⟩ (.int .i64 y1))) (n := 1) (i := 14) (by kernel_rfl) rfl rfl rfl (Later.mk' hW9) ?_ ?_
          · go_simp
          generalize (((((((((W9.setCell ⟨F8, 0, none⟩ (.int .i64 zk)).setCell ⟨F8, 1, none⟩ (.int .i64 z0)).setCell ⟨F8, 2, none⟩ (.int .i64 z1)).setCell ⟨F8, 3, none⟩ (.int .i64 z2)).setCell ⟨F8, 4, none⟩ (.int .i64 z3)).setCell ⟨F8, 5, none⟩ (.int .i64 z4)).setCell ⟨F8, 6, none⟩ (.int .i64 z5)).setCell ⟨F8, 7, none⟩ (.int .i64 y0)).setCell ⟨F8, 8, none⟩ (.int .i64 y1)) = WZ at hWZ ⊢
          refine anyC_valD (some 17) (n := 0) (i := 15) (v := .int .i64 ez) (w' := WZ) (by kernel_rfl) rfl rfl rfl (Later.mk' hWZ) (by first | rfl | go_simp) ?_
          simp only [Act.put, List.setIfInBounds_toArray, List.set_cons_zero, List.set_cons_succ]
          refine anyC_done (by kernel_rfl) (Later.mk' hWZ) ?_
          go_wp2_with fail
          go_meet
          exact ⟨rfl, rfl, hWZ⟩
      · skip
        refine wpOp_valD (some 16) (v := .pointer (some ⟨W1.heap.size, 0, none⟩)) (w' := W1.alloc (.cells #[.int .i64 0, .int .i64 0, .int .i64 0, .int .i64 0, .int .i64 0, .int .i64 0, .int .i64 0, .int .i64 0, .int .i64 0] 39)) (by rfl) rfl rfl ?_ ?_
        · go_simp
        simp only [Act.put, List.setIfInBounds_toArray, List.set_cons_zero, List.set_cons_succ]
        have hb := (Below.refl W1.heap.size W1).alloc (Nat.le_refl _) (.cells #[.int .i64 0, .int .i64 0, .int .i64 0, .int .i64 0, .int .i64 0, .int .i64 0, .int .i64 0, .int .i64 0, .int .i64 0] 39)
        have hW10 := hW1.trans (hb.mono hW1.size)
        have hQ9 := hQ9.later hb
        have Y8 := World.alloc_heap_new W1 (.cells #[.int .i64 0, .int .i64 0, .int .i64 0, .int .i64 0, .int .i64 0, .int .i64 0, .int .i64 0, .int .i64 0, .int .i64 0] 39)
        have hF8 := hW1.size
        clear hb
        generalize W1.alloc (.cells #[.int .i64 0, .int .i64 0, .int .i64 0, .int .i64 0, .int .i64 0, .int .i64 0, .int .i64 0, .int .i64 0, .int .i64 0] 39) = W10 at hW10 Y8 hQ9 ⊢
        generalize W1.heap.size = F8 at Y8 hF8 ⊢
        have hx9 := (HAd.out.below hW10).more hW10.size
        obtain ⟨V9p, W11, hr9, hQn, hg9⟩ := hQ9.app 27 hx9 HAf.out (by rw [List.length_nil, HNA.out]; have := HA40.out; omega) hW10.size
        refine anyC_valD (some 61) (n := 9) (i := 4) (v := V9p) (w' := W11) (by kernel_rfl) rfl rfl rfl (Later.mk' hW10) (run_app_op (x := .tmp 59) (y := .tmp 60) rfl rfl rfl rfl hr9) ?_
        simp only [Act.put, List.setIfInBounds_toArray, List.set_cons_zero, List.set_cons_succ]
        have hW11 := hW10.trans (hQ9.below hg9 (Nat.le_refl _) hW10.size)
        have Y8 := (hg9.block F8 (Array.getElem?_eq_some_iff.1 Y8).1 (fun e => by obtain ⟨_, cs, h9⟩ := hQ9.cells? e.symm; rw [Y8] at h9; cases h9)).trans Y8
        clear hr9 hx9 hg9 hQ9
        have hQ9 := hQn
        clear hQn
        have hx9 := (HQd.out.below hW11).more hW11.size
        obtain ⟨V9q, W12, hr9, hQn, hg9⟩ := hQ9.app 27 hx9 HQf.out (by rw [List.nil_append, HNA.out, HNB.out]; have := H16.out; omega) hW11.size
        refine anyC_valD (some 63) (n := 8) (i := 6) (v := V9q) (w' := W12) (by kernel_rfl) rfl rfl rfl (Later.mk' hW11) (run_app_op (x := .tmp 61) (y := .tmp 62) rfl rfl rfl rfl hr9) ?_
        simp only [Act.put, List.setIfInBounds_toArray, List.set_cons_zero, List.set_cons_succ]
        have hW12 := hW11.trans (hQ9.below hg9 (Nat.le_refl _) hW11.size)
        have Y8 := (hg9.block F8 (Array.getElem?_eq_some_iff.1 Y8).1 (fun e => by obtain ⟨_, cs, h9⟩ := hQ9.cells? e.symm; rw [Y8] at h9; cases h9)).trans Y8
        clear hr9 hx9 hg9 hQ9
        have hQ9 := hQn
        clear hQn
        obtain ⟨hbar, -⟩ := hQ9.bar (by rw [List.nil_append, List.length_append, HNA.out, HNB.out]; have := H16.out; omega)
        have hcz9 : Hid (certT p c ([] ++ a ++ b) = (tz, ⟨zk, ⟨z0, z1, z2, z3, z4, z5⟩, ⟨y0, y1⟩⟩, ez)) := hcz
        have hC9 := (HCd.out.below hW12).more hW12.size
        refine anyC_callD (some 64) (n := 7) (i := 7) (by kernel_rfl) rfl rfl rfl (Later.mk' hW12) ?_ ((bCert_is hcz9 hC9 hbar).mono ?_)
        · go_simp
        rintro e W13 ⟨rfl, hb⟩
        refine ⟨_, rfl, ?_⟩
        simp only [Act.put, List.setIfInBounds_toArray, List.set_cons_zero, List.set_cons_succ]
        have hW13 := hW12.trans (hb.mono hW12.size)
        have Y8 := (hb.block F8 (Array.getElem?_eq_some_iff.1 Y8).1).trans Y8
        clear hb hbar hC9 hQ9
        refine anyC_heads (by kernel_rfl) 3 W13 (Later.mk' hW13) [8, 9, 10, 11] _ _ (by kernel_rfl) ?_
        simp only [headOps, List.filterMap_cons, List.filterMap_nil, List.getElem?_toArray, List.getElem?_cons_succ, List.getElem?_cons_zero]
        repeat (first | go_big_quiet_skip | (show wpQuiet _ _ _ _ (_ :: _) _; go_big_quiet_skip) | (show wpQuiet _ _ _ _ (_ :: _) _; go_big_quiet_want; go_big_quiet_op; go_big_quiet_on))
        refine wpQuiet_nil ?_
        have Y9 : Box W13 F8 [.int .i64 0, .int .i64 0, .int .i64 0, .int .i64 0, .int .i64 0, .int .i64 0, .int .i64 0, .int .i64 0, .int .i64 0] := ⟨_, Y8⟩
        obtain ⟨Y9c0, Y9f0, Y9c1, Y9f1, Y9c2, Y9f2, Y9c3, Y9f3, Y9c4, Y9f4, Y9c5, Y9f5, Y9c6, Y9f6, Y9c7, Y9f7, Y9c8, Y9f8⟩ := Y9.f9
        have Y9z : F8 < W13.heap.size := Y9.lt
        have hWZ := (((((((((hW13.setCell (p := ⟨F8, 0, none⟩) (by simp <;> omega) (.int .i64 zk)).setCell (p := ⟨F8, 1, none⟩) (by simp <;> omega) (.int .i64 z0)).setCell (p := ⟨F8, 2, none⟩) (by simp <;> omega) (.int .i64 z1)).setCell (p := ⟨F8, 3, none⟩) (by simp <;> omega) (.int .i64 z2)).setCell (p := ⟨F8, 4, none⟩) (by simp <;> omega) (.int .i64 z3)).setCell (p := ⟨F8, 5, none⟩) (by simp <;> omega) (.int .i64 z4)).setCell (p := ⟨F8, 6, none⟩) (by simp <;> omega) (.int .i64 z5)).setCell (p := ⟨F8, 7, none⟩) (by simp <;> omega) (.int .i64 y0)).setCell (p := ⟨F8, 8, none⟩) (by simp <;> omega) (.int .i64 y1))
        refine anyC_valD (some 15) (n := 2) (i := 13) (v := .bool tz) (w' := W13) (by kernel_rfl) rfl rfl rfl (Later.mk' hW13) (by first | rfl | go_simp) ?_
        simp only [Act.put, List.setIfInBounds_toArray, List.set_cons_zero, List.set_cons_succ]
        refine anyC_storeN (w' := (((((((((W13.setCell ⟨F8, 0, none⟩ (.int .i64 zk)).setCell ⟨F8, 1, none⟩ (.int .i64 z0)).setCell ⟨F8, 2, none⟩ (.int .i64 z1)).setCell ⟨F8, 3, none⟩ (.int .i64 z2)).setCell ⟨F8, 4, none⟩ (.int .i64 z3)).setCell ⟨F8, 5, none⟩ (.int .i64 z4)).setCell ⟨F8, 6, none⟩ (.int .i64 z5)).setCell ⟨F8, 7, none⟩ (.int .i64 y0)).setCell ⟨F8, 8, none⟩ (.int .i64 y1))) (n := 1) (i := 14) (by kernel_rfl) rfl rfl rfl (Later.mk' hW13) ?_ ?_
        · go_simp
        generalize (((((((((W13.setCell ⟨F8, 0, none⟩ (.int .i64 zk)).setCell ⟨F8, 1, none⟩ (.int .i64 z0)).setCell ⟨F8, 2, none⟩ (.int .i64 z1)).setCell ⟨F8, 3, none⟩ (.int .i64 z2)).setCell ⟨F8, 4, none⟩ (.int .i64 z3)).setCell ⟨F8, 5, none⟩ (.int .i64 z4)).setCell ⟨F8, 6, none⟩ (.int .i64 z5)).setCell ⟨F8, 7, none⟩ (.int .i64 y0)).setCell ⟨F8, 8, none⟩ (.int .i64 y1)) = WZ at hWZ ⊢
        refine anyC_valD (some 17) (n := 0) (i := 15) (v := .int .i64 ez) (w' := WZ) (by kernel_rfl) rfl rfl rfl (Later.mk' hWZ) (by first | rfl | go_simp) ?_
        simp only [Act.put, List.setIfInBounds_toArray, List.set_cons_zero, List.set_cons_succ]
        refine anyC_done (by kernel_rfl) (Later.mk' hWZ) ?_
        go_wp2_with fail
        go_meet
        exact ⟨rfl, rfl, hWZ⟩
    · skip
      refine wpOp_valD (some 16) (v := .pointer (some ⟨w8.drew.heap.size, 0, none⟩)) (w' := w8.drew.alloc (.cells #[.int .i64 0, .int .i64 0, .int .i64 0, .int .i64 0, .int .i64 0, .int .i64 0, .int .i64 0, .int .i64 0, .int .i64 0] 39)) (by rfl) rfl rfl ?_ ?_
      · go_simp
      simp only [Act.put, List.setIfInBounds_toArray, List.set_cons_zero, List.set_cons_succ]
      have hb := (Below.refl w8.drew.heap.size w8.drew).alloc (Nat.le_refl _) (.cells #[.int .i64 0, .int .i64 0, .int .i64 0, .int .i64 0, .int .i64 0, .int .i64 0, .int .i64 0, .int .i64 0, .int .i64 0] 39)
      have hW14 := hd.trans (hb.mono hd.size)
      have Y8 := World.alloc_heap_new w8.drew (.cells #[.int .i64 0, .int .i64 0, .int .i64 0, .int .i64 0, .int .i64 0, .int .i64 0, .int .i64 0, .int .i64 0, .int .i64 0] 39)
      have hF8 := hd.size
      clear hb
      generalize w8.drew.alloc (.cells #[.int .i64 0, .int .i64 0, .int .i64 0, .int .i64 0, .int .i64 0, .int .i64 0, .int .i64 0, .int .i64 0, .int .i64 0] 39) = W14 at hW14 Y8 ⊢
      generalize w8.drew.heap.size = F8 at Y8 hF8 ⊢
      refine anyC_valD (some 59) (n := 10) (i := 2) (v := .slice (some ⟨W14.heap.size, 0, none⟩) 0 0) (w' := W14.alloc (.cells #[] 71)) (by kernel_rfl) rfl rfl rfl (Later.mk' hW14) (by go_simp) ?_
      simp only [Act.put, List.setIfInBounds_toArray, List.set_cons_zero, List.set_cons_succ]
      have hb := (Below.refl W14.heap.size W14).alloc (Nat.le_refl _) (.cells #[] 71)
      have hW15 := hW14.trans (hb.mono hW14.size)
      have hQ9 := made0 W14 w8.heap.size hW14.size
      have Y8 := (hb.block F8 (Array.getElem?_eq_some_iff.1 Y8).1).trans Y8
      clear hb
      generalize W14.alloc (.cells #[] 71) = W15 at hW15 hQ9 Y8 ⊢
      generalize W14.heap.size = R9 at hQ9 ⊢
      have hx9 := (HAd.out.below hW15).more hW15.size
      obtain ⟨V9p, W16, hr9, hQn, hg9⟩ := hQ9.app 27 hx9 HAf.out (by rw [List.length_nil, HNA.out]; have := HA40.out; omega) hW15.size
      refine anyC_valD (some 61) (n := 9) (i := 4) (v := V9p) (w' := W16) (by kernel_rfl) rfl rfl rfl (Later.mk' hW15) (run_app_op (x := .tmp 59) (y := .tmp 60) rfl rfl rfl rfl hr9) ?_
      simp only [Act.put, List.setIfInBounds_toArray, List.set_cons_zero, List.set_cons_succ]
      have hW16 := hW15.trans (hQ9.below hg9 (Nat.le_refl _) hW15.size)
      have Y8 := (hg9.block F8 (Array.getElem?_eq_some_iff.1 Y8).1 (fun e => by obtain ⟨_, cs, h9⟩ := hQ9.cells? e.symm; rw [Y8] at h9; cases h9)).trans Y8
      clear hr9 hx9 hg9 hQ9
      have hQ9 := hQn
      clear hQn
      have hx9 := (HQd.out.below hW16).more hW16.size
      obtain ⟨V9q, W17, hr9, hQn, hg9⟩ := hQ9.app 27 hx9 HQf.out (by rw [List.nil_append, HNA.out, HNB.out]; have := H16.out; omega) hW16.size
      refine anyC_valD (some 63) (n := 8) (i := 6) (v := V9q) (w' := W17) (by kernel_rfl) rfl rfl rfl (Later.mk' hW16) (run_app_op (x := .tmp 61) (y := .tmp 62) rfl rfl rfl rfl hr9) ?_
      simp only [Act.put, List.setIfInBounds_toArray, List.set_cons_zero, List.set_cons_succ]
      have hW17 := hW16.trans (hQ9.below hg9 (Nat.le_refl _) hW16.size)
      have Y8 := (hg9.block F8 (Array.getElem?_eq_some_iff.1 Y8).1 (fun e => by obtain ⟨_, cs, h9⟩ := hQ9.cells? e.symm; rw [Y8] at h9; cases h9)).trans Y8
      clear hr9 hx9 hg9 hQ9
      have hQ9 := hQn
      clear hQn
      obtain ⟨hbar, -⟩ := hQ9.bar (by rw [List.nil_append, List.length_append, HNA.out, HNB.out]; have := H16.out; omega)
      have hcz9 : Hid (certT p c ([] ++ a ++ b) = (tz, ⟨zk, ⟨z0, z1, z2, z3, z4, z5⟩, ⟨y0, y1⟩⟩, ez)) := hcz
      have hC9 := (HCd.out.below hW17).more hW17.size
      refine anyC_callD (some 64) (n := 7) (i := 7) (by kernel_rfl) rfl rfl rfl (Later.mk' hW17) ?_ ((bCert_is hcz9 hC9 hbar).mono ?_)
      · go_simp
      rintro e W18 ⟨rfl, hb⟩
      refine ⟨_, rfl, ?_⟩
      simp only [Act.put, List.setIfInBounds_toArray, List.set_cons_zero, List.set_cons_succ]
      have hW18 := hW17.trans (hb.mono hW17.size)
      have Y8 := (hb.block F8 (Array.getElem?_eq_some_iff.1 Y8).1).trans Y8
      clear hb hbar hC9 hQ9
      refine anyC_heads (by kernel_rfl) 3 W18 (Later.mk' hW18) [8, 9, 10, 11] _ _ (by kernel_rfl) ?_
      simp only [headOps, List.filterMap_cons, List.filterMap_nil, List.getElem?_toArray, List.getElem?_cons_succ, List.getElem?_cons_zero]
      repeat (first | go_big_quiet_skip | (show wpQuiet _ _ _ _ (_ :: _) _; go_big_quiet_skip) | (show wpQuiet _ _ _ _ (_ :: _) _; go_big_quiet_want; go_big_quiet_op; go_big_quiet_on))
      refine wpQuiet_nil ?_
      have Y9 : Box W18 F8 [.int .i64 0, .int .i64 0, .int .i64 0, .int .i64 0, .int .i64 0, .int .i64 0, .int .i64 0, .int .i64 0, .int .i64 0] := ⟨_, Y8⟩
      obtain ⟨Y9c0, Y9f0, Y9c1, Y9f1, Y9c2, Y9f2, Y9c3, Y9f3, Y9c4, Y9f4, Y9c5, Y9f5, Y9c6, Y9f6, Y9c7, Y9f7, Y9c8, Y9f8⟩ := Y9.f9
      have Y9z : F8 < W18.heap.size := Y9.lt
      have hWZ := (((((((((hW18.setCell (p := ⟨F8, 0, none⟩) (by simp <;> omega) (.int .i64 zk)).setCell (p := ⟨F8, 1, none⟩) (by simp <;> omega) (.int .i64 z0)).setCell (p := ⟨F8, 2, none⟩) (by simp <;> omega) (.int .i64 z1)).setCell (p := ⟨F8, 3, none⟩) (by simp <;> omega) (.int .i64 z2)).setCell (p := ⟨F8, 4, none⟩) (by simp <;> omega) (.int .i64 z3)).setCell (p := ⟨F8, 5, none⟩) (by simp <;> omega) (.int .i64 z4)).setCell (p := ⟨F8, 6, none⟩) (by simp <;> omega) (.int .i64 z5)).setCell (p := ⟨F8, 7, none⟩) (by simp <;> omega) (.int .i64 y0)).setCell (p := ⟨F8, 8, none⟩) (by simp <;> omega) (.int .i64 y1))
      refine anyC_valD (some 15) (n := 2) (i := 13) (v := .bool tz) (w' := W18) (by kernel_rfl) rfl rfl rfl (Later.mk' hW18) (by first | rfl | go_simp) ?_
      simp only [Act.put, List.setIfInBounds_toArray, List.set_cons_zero, List.set_cons_succ]
      refine anyC_storeN (w' := (((((((((W18.setCell ⟨F8, 0, none⟩ (.int .i64 zk)).setCell ⟨F8, 1, none⟩ (.int .i64 z0)).setCell ⟨F8, 2, none⟩ (.int .i64 z1)).setCell ⟨F8, 3, none⟩ (.int .i64 z2)).setCell ⟨F8, 4, none⟩ (.int .i64 z3)).setCell ⟨F8, 5, none⟩ (.int .i64 z4)).setCell ⟨F8, 6, none⟩ (.int .i64 z5)).setCell ⟨F8, 7, none⟩ (.int .i64 y0)).setCell ⟨F8, 8, none⟩ (.int .i64 y1))) (n := 1) (i := 14) (by kernel_rfl) rfl rfl rfl (Later.mk' hW18) ?_ ?_
      · go_simp
      generalize (((((((((W18.setCell ⟨F8, 0, none⟩ (.int .i64 zk)).setCell ⟨F8, 1, none⟩ (.int .i64 z0)).setCell ⟨F8, 2, none⟩ (.int .i64 z1)).setCell ⟨F8, 3, none⟩ (.int .i64 z2)).setCell ⟨F8, 4, none⟩ (.int .i64 z3)).setCell ⟨F8, 5, none⟩ (.int .i64 z4)).setCell ⟨F8, 6, none⟩ (.int .i64 z5)).setCell ⟨F8, 7, none⟩ (.int .i64 y0)).setCell ⟨F8, 8, none⟩ (.int .i64 y1)) = WZ at hWZ ⊢
      refine anyC_valD (some 17) (n := 0) (i := 15) (v := .int .i64 ez) (w' := WZ) (by kernel_rfl) rfl rfl rfl (Later.mk' hWZ) (by first | rfl | go_simp) ?_
      simp only [Act.put, List.setIfInBounds_toArray, List.set_cons_zero, List.set_cons_succ]
      refine anyC_done (by kernel_rfl) (Later.mk' hWZ) ?_
      go_wp2_with fail
      go_meet
      exact ⟨rfl, rfl, hWZ⟩
  case rest =>
  obtain ⟨rfl, rfl, hb⟩ := hcut
  replace hB := hB.trans (hb.mono hB.size)
  clear hb X4 X5
  have hlen : a.length + b.length ≤ 16 := by rw [HNA.out, HNB.out]; exact H16.out
  by_cases hbad : ea ≠ 0 ∨ eb ≠ 0
  · have h9 := both_bad (p := p) (c := c) hlen (by rw [hca.out, hcb.out]; exact hbad)
    rw [hcz.out] at h9
    obtain ⟨h10, h11⟩ := h9
    dsimp only at h10 h11
    subst h11
    have e1 : (ez != 0) = true := by simp [h10]
    have H10 := Lib.hid h10
    clear h10
    by_cases hea : ea = 0
    · have heb : eb ≠ 0 := hbad.resolve_left (fun h => h hea)
      have e2 : (ea != 0) = false := by simp [hea]
      have e3 : (eb != 0) = true := by simp [heb]
      clear hea heb hbad hlen
      go_wp2
      go_ret
      exact ⟨by simp, hB⟩
    · have e2 : (ea != 0) = true := by simp [hea]
      clear hea hbad hlen
      go_wp2
      go_ret
      exact ⟨by simp, hB⟩
  · have hea : ea = 0 := Classical.byContradiction fun h => hbad (.inl h)
    have heb : eb = 0 := Classical.byContradiction fun h => hbad (.inr h)
    subst hea heb
    have h9 := both_good (p := p) (c := c) hlen (by rw [hca.out]) (by rw [hcb.out])
    rw [hca.out, hcb.out, hcz.out] at h9
    obtain ⟨h10, h11⟩ := h9
    dsimp only at h10 h11
    subst h10
    clear hbad hlen
    cases tz with
    | true =>
      clear h11
      go_wp2
      go_ret
      exact ⟨by simp, hB⟩
    | false =>
      cases ta with
      | false =>
        clear h11
        go_wp2
        go_ret
        exact ⟨by simp, hB⟩
      | true =>
        cases tb with
        | true => cases h11
        | false =>
          clear h11
          go_wp2
          go_ret
          exact ⟨by simp, hB⟩
end Go.Proofs.Ytancngachnpefaa
namespace Go.Proofs.Ytancngachnpefaa
open Go.ChangeShapes Go.WideShapes Go.ChangeAt Go.RowKit Go.Joins
theorem cell_int {H : Type} {enc : TypeId × Value → H} {P : Program} {w : World} {base : Nat} {spare : Nat → Bool} {held : Bool} {t : TypeId} {k : IntKind} {n : Nat} {v : Value} {y : DataW H × List MemPlace}
    (ht : P.underlying t = some (.int k)) (h : DataW.trod enc P w base spare held n t [v] = some y) : ∃ x : Int, v = .int k x ∧ (Lit.int k x).wf = true := by
  obtain ⟨x, hx, _, hw⟩ := DataW.trod_int ht h
  exact ⟨x, by simpa using hx, hw⟩
section
variable {H : Type} {enc : TypeId × Value → H} {w : World} {base : Nat} {spare : Nat → Bool} {held : Bool}
theorem open_plant {r : Reach} {b0 : Nat} {v : Value} {d : DataW H} {p : List MemPlace} (hv : Value.okWide Try.prog w r b0 23 v) (h : DataW.Trod enc Try.prog w base spare held 23 v d p) : ∃ a : Pl, v = a.v := by
  obtain ⟨cs, rfl, hsz⟩ := okWide_struct Try.underlying23 hv
  obtain ⟨l⟩ := cs
  have hC : Try.prog.cellsOf 23 = 12 := by kernel_rfl
  match l, hsz.trans hC with
  | [c0, c1, c2, c3, c4, c5, c6, c7, c8, c9, c10, c11], _ =>
    obtain ⟨fuel, hf⟩ := h
    obtain ⟨xs, n, _, hx, _, hlen, hg⟩ := DataW.trod_struct Try.underlying23 hf
    have k1 : Try.prog.cellsOf 3 = 1 := by kernel_rfl
    match xs, hlen with
    | [y0, y1, y2, y3, y4, y5, y6, y7, y8, y9, y10, y11], _ =>
      obtain ⟨a0, rfl, _⟩ := cell_int Try.underlying3 (show DataW.trod enc Try.prog w base spare held n 3 [c0] = some y0 by simpa [Value.cells, k1] using hg 0 _ rfl)
      obtain ⟨a1, rfl, _⟩ := cell_int Try.underlying3 (show DataW.trod enc Try.prog w base spare held n 3 [c1] = some y1 by simpa [Value.cells, k1] using hg 1 _ rfl)
      obtain ⟨a2, rfl, _⟩ := cell_int Try.underlying3 (show DataW.trod enc Try.prog w base spare held n 3 [c2] = some y2 by simpa [Value.cells, k1] using hg 2 _ rfl)
      obtain ⟨a3, rfl, _⟩ := cell_int Try.underlying3 (show DataW.trod enc Try.prog w base spare held n 3 [c3] = some y3 by simpa [Value.cells, k1] using hg 3 _ rfl)
      obtain ⟨a4, rfl, _⟩ := cell_int Try.underlying3 (show DataW.trod enc Try.prog w base spare held n 3 [c4] = some y4 by simpa [Value.cells, k1] using hg 4 _ rfl)
      obtain ⟨a5, rfl, _⟩ := cell_int Try.underlying3 (show DataW.trod enc Try.prog w base spare held n 3 [c5] = some y5 by simpa [Value.cells, k1] using hg 5 _ rfl)
      obtain ⟨a6, rfl, _⟩ := cell_int Try.underlying3 (show DataW.trod enc Try.prog w base spare held n 3 [c6] = some y6 by simpa [Value.cells, k1] using hg 6 _ rfl)
      obtain ⟨a7, rfl, _⟩ := cell_int Try.underlying3 (show DataW.trod enc Try.prog w base spare held n 3 [c7] = some y7 by simpa [Value.cells, k1] using hg 7 _ rfl)
      obtain ⟨a8, rfl, _⟩ := cell_int Try.underlying3 (show DataW.trod enc Try.prog w base spare held n 3 [c8] = some y8 by simpa [Value.cells, k1] using hg 8 _ rfl)
      obtain ⟨a9, rfl, _⟩ := cell_int Try.underlying3 (show DataW.trod enc Try.prog w base spare held n 3 [c9] = some y9 by simpa [Value.cells, k1] using hg 9 _ rfl)
      obtain ⟨a10, rfl, _⟩ := cell_int Try.underlying3 (show DataW.trod enc Try.prog w base spare held n 3 [c10] = some y10 by simpa [Value.cells, k1] using hg 10 _ rfl)
      obtain ⟨a11, rfl, _⟩ := cell_int Try.underlying3 (show DataW.trod enc Try.prog w base spare held n 3 [c11] = some y11 by simpa [Value.cells, k1] using hg 11 _ rfl)
      exact ⟨⟨a0, a1, a2, a3, a4, a5, a6, a7, a8, a9, a10, a11⟩, rfl⟩
end
end Go.Proofs.Ytancngachnpefaa
namespace Go.Proofs.Ytancngachnpefaa
open Go.ChangeShapes Go.WideShapes Go.ChangeAt Go.RowKit Go.Joins Go.Deep
section
variable {H : Type} {enc : TypeId × Value → H} {P : Program} {w : World} {base : Nat} {spare : Nat → Bool} {held : Bool}
theorem open_slice_fields {t e : TypeId} {fs : Array Field} {fuel : Nat} {cs : List Value} {x : DataW H × List MemPlace} (ht : P.underlying t = some (.slice e)) (he : P.underlying e = some (.struct fs))
    (hone : oneCellFields P fs = true) (hC : P.cellsOf e = fs.size) (h : DataW.trod enc P w base spare held fuel t cs = some x) :
    (cs = [.slice none 0 0] ∧ x = (.nil, [])) ∨
    ∃ (a : Addr) (len cap m : Nat) (D : Nat → DataW H) (Pl : Nat → List MemPlace), cs = [.slice (some a) len cap] ∧ base ≤ a.block ∧ len ≤ cap ∧ cap ≤ maxLen ∧ m = (if spare a.block then cap else len) ∧
      x = (.slice ((List.range len).map D) ((List.range (m - len)).map fun j => D (len + j)), MemPlace.row a (m * fs.size) ++ (List.range m).flatMap Pl) ∧
      ∀ i, i < m → ∃ (ys : List (DataW H × List MemPlace)) (n : Nat), D i = .agg (ys.map (·.1)) ∧ Pl i = ys.flatMap (·.2) ∧ ys.length = fs.size ∧
        ∀ (j : Nat) (f : Field), fs[j]? = some f → ∃ (v : Value) (y : DataW H × List MemPlace), w.cell? (a.add (i * fs.size + j)) = some v ∧ ys[j]? = some y ∧ DataW.trod enc P w base spare held n f.type [v] = some y := by
  rcases open_slice ht h with h0 | ⟨a, len, cap, m, n, D, Pl, hcs, hb, hl, hm, hmm, hx, hi⟩
  · exact .inl h0
  · refine .inr ⟨a, len, cap, m, D, Pl, hcs, hb, hl, hm, hmm, by rw [hC] at hx; exact hx, fun i him => ?_⟩
    obtain ⟨cs', hc, ht'⟩ := hi i him
    rw [hC] at hc
    obtain ⟨ys, n', hn', hy, hlen, hyl, hf⟩ := DataW.trod_struct he ht'
    obtain ⟨_, hcl, hat⟩ := World.cells?_some hc
    simp only [Prod.mk.injEq] at hy
    refine ⟨ys, n', hy.1, hy.2, hyl, fun j f hj => ?_⟩
    obtain ⟨ho, hk⟩ := hone_of hone j f hj
    have hjl : j < fs.size := (Array.getElem?_eq_some_iff.1 hj).1
    have hcell := hat j hjl
    have hv : cs'[j]? = some (cs'[j]'(by omega)) := List.getElem?_eq_getElem (by omega)
    have h1 := hf j f hj
    rw [ho, hk] at h1
    have hone' : (cs'.drop j).take 1 = [cs'[j]'(by omega)] := by
      rw [List.drop_eq_getElem_cons (by omega)]
      rfl
    rw [hone'] at h1
    have hys : ys[j]? = some (ys[j]'(by omega)) := List.getElem?_eq_getElem (by omega)
    refine ⟨_, _, ?_, hys, h1.trans hys⟩
    rw [← Go.Deep.add_add, hcell, hv]
end
theorem exists_list {α : Type} (P : Nat → α → Prop) : ∀ n, (∀ i, i < n → ∃ a, P i a) → ∃ l : List α, l.length = n ∧ ∀ i a, l[i]? = some a → P i a
  | 0, _ => ⟨[], rfl, fun i a h => by simp at h⟩
  | n + 1, h => by
    obtain ⟨l, hl, hp⟩ := exists_list P n (fun i hi => h i (by omega))
    obtain ⟨a, ha⟩ := h n (by omega)
    refine ⟨l ++ [a], by simp [hl], fun i b hb => ?_⟩
    rcases Nat.lt_trichotomy i n with hi | rfl | hi
    · rw [List.getElem?_append_left (by omega)] at hb
      exact hp i b hb
    · rw [List.getElem?_append_right (by omega), hl] at hb
      simp at hb
      subst hb
      exact ha
    · rw [List.getElem?_eq_none (by simp; omega)] at hb
      cases hb
theorem add_flat (b off n : Nat) : (⟨b, off, none⟩ : Addr).add n = ⟨b, off + n, none⟩ := by
  unfold Addr.add
  split
  · rename_i h; rw [h]; rfl
  · rfl
theorem spot_none {w : World} {a : Addr} {v : Value} (h : w.cell? a = some v) : a.spot = none := by
  unfold World.cell? at h
  split at h
  · split at h
    · cases h
    · rename_i hs
      cases hq : a.spot with
      | none => rfl
      | some q => rw [hq] at hs; exact absurd rfl hs
  · cases h
section
variable {H : Type} {enc : TypeId × Value → H} {w : World} {base : Nat} {spare : Nat → Bool} {held : Bool}
theorem open_conds {n : Nat} {v : Value} {y : DataW H × List MemPlace} (h : DataW.trod enc Try.prog w base spare held n 72 [v] = some y) : ∃ cs : List Cn, CondsAt w w.heap.size v cs := by
  rcases open_slice_fields Try.underlying72 Try.underlying122 (by kernel_rfl) (by kernel_rfl) h with ⟨h0, _⟩ | ⟨a, len, cap, m, D, Pl, h0, hb, hl, hc, hm, _, hf⟩
  · obtain rfl : v = .slice none 0 0 := by simpa using h0
    exact ⟨[], none, 0, rfl, Nat.zero_le _, fun i hi => by simp at hi⟩
  · obtain rfl : v = .slice (some a) len cap := by simpa using h0
    have hlm : len ≤ m := by rw [hm]; split <;> omega
    obtain ⟨cs, hcs, hp⟩ := exists_list (fun i (c : Cn) => w.cell? (a.add (i * 3 + 0)) = some (.int .i64 c.var) ∧ w.cell? (a.add (i * 3 + 1)) = some (.int .i64 c.op) ∧ w.cell? (a.add (i * 3 + 2)) = some (.int .i64 c.n)) len (fun i hi => by
      obtain ⟨ys, k, _, _, _, hj⟩ := hf i (by omega)
      obtain ⟨v0, y0, e0, _, t0⟩ := hj 0 _ rfl
      obtain ⟨v1, y1, e1, _, t1⟩ := hj 1 _ rfl
      obtain ⟨v2, y2, e2, _, t2⟩ := hj 2 _ rfl
      obtain ⟨x0, rfl, _⟩ := cell_int Try.underlying3 t0
      obtain ⟨x1, rfl, _⟩ := cell_int Try.underlying3 t1
      obtain ⟨x2, rfl, _⟩ := cell_int Try.underlying3 t2
      exact ⟨⟨x0, x1, x2⟩, e0, e1, e2⟩)
    refine ⟨cs, some a, cap, by rw [hcs], by omega, fun i hi => ?_⟩
    have hs : a.spot = none := by
      obtain ⟨q0, _, _⟩ := hp 0 _ (List.getElem?_eq_getElem (by omega))
      exact spot_none q0
    obtain ⟨b, off, sp⟩ := a
    obtain rfl : sp = none := hs
    obtain ⟨q0, q1, q2⟩ := hp i _ (List.getElem?_eq_getElem hi)
    rw [add_flat] at q0 q1 q2
    refine ⟨b, off, rfl, World.block_lt_of_cell? _ _ q0, fun j hj => ?_⟩
    dsimp only
    rw [List.getElem?_eq_getElem hi]
    rcases (show j = 0 ∨ j = 1 ∨ j = 2 by omega) with rfl | rfl | rfl
    · exact q0
    · exact q1
    · exact q2
theorem open_lines {n : Nat} {v : Value} {y : DataW H × List MemPlace} (h : DataW.trod enc Try.prog w base spare held n 24 [v] = some y) : ∃ code : List Ln, CodeAt w w.heap.size v code := by
  rcases open_slice_fields Try.underlying24 Try.underlying74 (by kernel_rfl) (by kernel_rfl) h with ⟨h0, _⟩ | ⟨a, len, cap, m, D, Pl, h0, hb, hl, hc, hm, _, hf⟩
  · obtain rfl : v = .slice none 0 0 := by simpa using h0
    exact ⟨[], fun _ => undef, ⟨none, 0, rfl, Nat.zero_le _, fun i hi => by simp at hi⟩, fun i l hl => by simp at hl⟩
  · obtain rfl : v = .slice (some a) len cap := by simpa using h0
    have hlm : len ≤ m := by rw [hm]; split <;> omega
    obtain ⟨ls, hcs, hp⟩ := exists_list (fun i (l : Value × Ln) => w.cell? (a.add (i * 2 + 0)) = some l.1 ∧ w.cell? (a.add (i * 2 + 1)) = some (.int .i64 l.2.set) ∧ CondsAt w w.heap.size l.1 l.2.conds) len (fun i hi => by
      obtain ⟨ys, k, _, _, _, hj⟩ := hf i (by omega)
      obtain ⟨v0, y0, e0, _, t0⟩ := hj 0 _ rfl
      obtain ⟨v1, y1, e1, _, t1⟩ := hj 1 _ rfl
      obtain ⟨x1, rfl, _⟩ := cell_int Try.underlying3 t1
      obtain ⟨cs, hcs⟩ := open_conds t0
      exact ⟨(v0, ⟨cs, x1⟩), e0, e1, hcs⟩)
    refine ⟨ls.map (·.2), fun i => match ls[i]? with | some l => l.1 | none => undef, ⟨some a, cap, by simp [hcs], by simp; omega, fun i hi => ?_⟩, fun i l hl => ?_⟩
    · have hi : i < ls.length := by simpa using hi
      have hs : a.spot = none := by
        obtain ⟨q0, _, _⟩ := hp 0 _ (List.getElem?_eq_getElem (by omega))
        exact spot_none q0
      obtain ⟨b, off, sp⟩ := a
      obtain rfl : sp = none := hs
      obtain ⟨q0, q1, q2⟩ := hp i _ (List.getElem?_eq_getElem hi)
      rw [add_flat] at q0 q1
      refine ⟨b, off, rfl, World.block_lt_of_cell? _ _ q0, fun j hj => ?_⟩
      dsimp only
      rw [List.getElem?_map, List.getElem?_eq_getElem hi]
      rcases (show j = 0 ∨ j = 1 by omega) with rfl | rfl
      · exact q0
      · exact q1
    · rw [List.getElem?_map] at hl
      cases hq : ls[i]? with
      | none => rw [hq] at hl; cases hl
      | some q =>
        rw [hq] at hl
        obtain rfl : q.2 = l := by simpa using hl
        dsimp only
        rw [hq]
        exact (hp i q hq).2.2
theorem open_code {r : Reach} {b0 : Nat} {v : Value} {d : DataW H} {p : List MemPlace} (hv : Value.okWide Try.prog w r b0 26 v) (h : DataW.Trod enc Try.prog w base spare held 26 v d p) : ∃ (V : Value) (code : List Ln), v = .agg #[V] ∧ CodeAt w w.heap.size V code := by
  obtain ⟨cs, rfl, hsz⟩ := okWide_struct Try.underlying26 hv
  obtain ⟨l⟩ := cs
  have hC : Try.prog.cellsOf 26 = 1 := by kernel_rfl
  match l, hsz.trans hC with
  | [c0], _ =>
    obtain ⟨fuel, hf⟩ := h
    obtain ⟨xs, n, _, hx, _, hlen, hg⟩ := DataW.trod_struct Try.underlying26 hf
    have k1 : Try.prog.cellsOf 24 = 1 := by kernel_rfl
    match xs, hlen with
    | [y0], _ =>
      obtain ⟨code, hc⟩ := open_lines (show DataW.trod enc Try.prog w base spare held n 24 [c0] = some y0 by simpa [Value.cells, k1] using hg 0 _ rfl)
      exact ⟨c0, code, rfl, hc⟩
end
end Go.Proofs.Ytancngachnpefaa
