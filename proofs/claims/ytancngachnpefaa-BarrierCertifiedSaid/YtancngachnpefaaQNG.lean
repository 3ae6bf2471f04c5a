/- BarrierLess. (Printed by gen_ng.py and pp.py.) No condition. -/
import Derived.Test.YtancngachnpefaaQK
import Derived.Test.YtancngachnpefaaQNB
import Derived.Test.YtancngachnpefaaQNC
import Derived.Test.YtancngachnpefaaQMT
import Derived.Test.YtancngachnpefaaQBC
import Derived.Test.YtancngachnpefaaQMI
set_option linter.unusedVariables false
set_option linter.unusedSimpArgs false
set_option maxRecDepth 100000
set_option maxHeartbeats 8000000
namespace Go.Proofs.Ytancngachnpefaa
open Go.RowKit Go.Shelf
attribute [local go_sem] Oper.semAt_some
theorem made0L (w : World) (base : Nat) (h : base ≤ w.heap.size) : OwnQ (w.alloc (.cells #[] 71)) base (.slice (some ⟨w.heap.size, 0, none⟩) 0 0) [] :=
  ⟨rfl, .inr ⟨w.heap.size, 0, #[], rfl, h, World.alloc_heap_new w _, Nat.le_refl _, Nat.zero_le _, rfl, rfl⟩⟩
theorem ks_facts (kk r d : Nat) (h : kk + 1 + r + d ≤ 9223372036854775807) : wrap64 ((kk : Int) + 1) = (kk : Int) + 1 ∧ IntKind.i64.wrap ((kk : Int) + 1) = (kk : Int) + 1 ∧ (0 : Int) ≤ (kk : Int) + 1 ∧ (kk : Int) + 1 ≤ (kk : Int) + 1 + (r : Int) + (d : Int) ∧ ¬ (kk + 1 + r + d = kk) := by
  refine ⟨?_, ?_, by omega, by omega, by omega⟩
  · unfold wrap64; omega
  · rw [IntKind.wrap_i64]; omega
theorem holds_ofL {b : List Iq} {s : St} (h3 : barT b = 0) (hs : s.numsB = true) : holdsT b s = (inB b s, 0) := by
  rw [holdsT, if_pos h3, if_pos hs]
theorem bar_parts {b : List Iq} {k : Nat} (hk : k < b.length) (h : barT b = 0) : barT (b.take k ++ b.drop (k + 1)) = 0 ∧ barT [b[k]] = 0 := by
  obtain ⟨l1, l2⟩ := barT_zero.1 h
  have l3 := List.all_eq_true.1 l2
  refine ⟨barT_zero.2 ⟨?_, ?_⟩, barT_zero.2 ⟨by simp, ?_⟩⟩
  · rw [List.length_append, List.length_take, List.length_drop]; omega
  · rw [List.all_append, Bool.and_eq_true, List.all_eq_true, List.all_eq_true]
    exact ⟨fun x hx => l3 x (List.mem_of_mem_take hx), fun x hx => l3 x (List.mem_of_mem_drop hx)⟩
  · rw [List.all_eq_true]
    intro x hx
    rw [List.mem_singleton.1 hx]
    exact l3 _ (List.getElem_mem hk)
theorem law_BarrierLess (p : Pl) (c : List Ln) (V : Value) (b : List Iq) (U : Value) (x1 x2 : Int) (w : World) (hC : CodeAt w w.heap.size V c) (hQ : BarAt w w.heap.size U b ∧ SlF U) (hx1 : 0 ≤ x1 ∧ x1 ≤ 255) (hx2 : 0 ≤ x2 ∧ x2 ≤ 255) :
    Calls Try.prog 9 #[p.v, .agg #[V], U, .int .u8 x1, .int .u8 x2] w fun e w' => e = .returned (.bool true) ∧ Below w.heap.size w w' := by
  obtain ⟨A, cp, rfl, hm⟩ := hC.form
  obtain ⟨Ab, cb, rfl, hmb⟩ := hQ.1.form
  obtain ⟨n, hn⟩ : ∃ n, c.length = n := ⟨_, rfl⟩
  obtain ⟨nb, hnb⟩ : ∃ nb, b.length = nb := ⟨_, rfl⟩
  rw [hn] at hC
  rw [hnb] at hQ
  rw [hn, hnb]
  have HC := Lib.hid hC
  have HQ := Lib.hid hQ.1
  have HQf := Lib.hid hQ.2
  have HNB := Lib.hid hnb
  have HX1 := Lib.hid hx1
  have HX2 := Lib.hid hx2
  clear hC hQ hm hmb hn hnb hx1 hx2
  go_enter Try.func9, Try.ntmps9
  go_wp2_with fail
  have hB := ((Below.refl w.heap.size w).alloc (by simp <;> omega) (.cells #[.int .i64 p.top, .int .i64 p.bank, .int .i64 p.siphon, .int .i64 p.start, .int .i64 p.positions, .int .i64 p.rate, .int .i64 p.step, .int .i64 p.pass, .int .i64 p.feed, .int .i64 p.pipe, .int .i64 p.orders, .int .i64 p.age] 23)).alloc (by simp <;> omega) (.cells #[.slice A n cp] 26)
  have X4 := (Box.newAt (w := w) (n := w.heap.size) [.int .i64 p.top, .int .i64 p.bank, .int .i64 p.siphon, .int .i64 p.start, .int .i64 p.positions, .int .i64 p.rate, .int .i64 p.step, .int .i64 p.pass, .int .i64 p.feed, .int .i64 p.pipe, .int .i64 p.orders, .int .i64 p.age] 23 rfl).alloc (.cells #[.slice A n cp] 26)
  have X5 := Box.newAt (w := w.alloc (.cells #[.int .i64 p.top, .int .i64 p.bank, .int .i64 p.siphon, .int .i64 p.start, .int .i64 p.positions, .int .i64 p.rate, .int .i64 p.step, .int .i64 p.pass, .int .i64 p.feed, .int .i64 p.pipe, .int .i64 p.orders, .int .i64 p.age] 23)) (n := w.heap.size + 1) [.slice A n cp] 26 (by simp)
  generalize (w.alloc (.cells #[.int .i64 p.top, .int .i64 p.bank, .int .i64 p.siphon, .int .i64 p.start, .int .i64 p.positions, .int .i64 p.rate, .int .i64 p.step, .int .i64 p.pass, .int .i64 p.feed, .int .i64 p.pipe, .int .i64 p.orders, .int .i64 p.age] 23)).alloc (.cells #[.slice A n cp] 26) = w0 at X4 X5 hB ⊢
  refine (bSane_any _).mono ?_
  rintro e w1 ⟨rfl, hb⟩
  replace X4 := X4.later hb
  replace X5 := X5.later hb
  replace hB := hB.trans (hb.mono hB.size)
  clear hb
  obtain ⟨X4c0, X4f0, X4c1, X4f1, X4c2, X4f2, X4c3, X4f3, X4c4, X4f4, X4c5, X4f5, X4c6, X4f6, X4c7, X4f7, X4c8, X4f8, X4c9, X4f9, X4c10, X4f10, X4c11, X4f11⟩ := X4.f12
  have X4z : w.heap.size < w1.heap.size := X4.lt
  have X5c0 : w1.cell? ⟨w.heap.size + 1, 0, none⟩ = some (.slice A n cp) := X5.cell 0
  have X5f0 : w1.frozen? ⟨w.heap.size + 1, 0, none⟩ = false := X5.free 0
  have X5z : w.heap.size + 1 < w1.heap.size := X5.lt
  go_wp2_with fail
  clear X4c0 X4f0 X4c1 X4f1 X4c2 X4f2 X4c3 X4f3 X4c4 X4f4 X4c5 X4f5 X4c6 X4f6 X4c7 X4f7 X4c8 X4f8 X4c9 X4f9 X4c10 X4f10 X4c11 X4f11 X4z
  clear X5c0 X5f0 X5z
  refine (zFew_tell (HC.out.later hB) (HQ.out.later hB)).mono ?_
  rintro e w2 hF
  obtain ⟨t, rfl, hI, hb⟩ := hF
  replace X4 := X4.later hb
  replace X5 := X5.later hb
  replace hB := hB.trans (hb.mono hB.size)
  clear hb
  cases t with
  | false =>
    clear hI
    go_wp2
    go_ret
    exact ⟨rfl, hB⟩
  | true =>
  have HN40 : Hid (nb ≤ 40) := Lib.hid (by rw [← HNB.out]; exact hI rfl)
  clear hI
  obtain ⟨ck, hck⟩ : ∃ ck, Hid (p.checkT = ck) := ⟨_, Lib.hid rfl⟩
  obtain ⟨X4c0, X4f0, X4c1, X4f1, X4c2, X4f2, X4c3, X4f3, X4c4, X4f4, X4c5, X4f5, X4c6, X4f6, X4c7, X4f7, X4c8, X4f8, X4c9, X4f9, X4c10, X4f10, X4c11, X4f11⟩ := X4.f12
  have X4z : w.heap.size < w2.heap.size := X4.lt
  go_wp2_with fail
  clear X4c0 X4f0 X4c1 X4f1 X4c2 X4f2 X4c3 X4f3 X4c4 X4f4 X4c5 X4f5 X4c6 X4f6 X4c7 X4f7 X4c8 X4f8 X4c9 X4f9 X4c10 X4f10 X4c11 X4f11 X4z
  refine (check_at hck _).mono ?_
  rintro e w3 ⟨rfl, hb⟩
  replace X4 := X4.later hb
  replace X5 := X5.later hb
  replace hB := hB.trans (hb.mono hB.size)
  clear hb
  by_cases h0 : ck = 0
  rotate_left
  · have e0 : (ck != 0) = true := by simp [h0]
    clear h0
    go_wp2
    go_ret
    exact ⟨rfl, hB⟩
  subst h0
  have HV := Lib.hid (Pl.check_zero hck.out).1
  obtain ⟨ta, fa, ea, hca⟩ : ∃ t f d, Hid (certT p c b = (t, f, d)) := ⟨_, _, _, rfl⟩
  obtain ⟨X4c0, X4f0, X4c1, X4f1, X4c2, X4f2, X4c3, X4f3, X4c4, X4f4, X4c5, X4f5, X4c6, X4f6, X4c7, X4f7, X4c8, X4f8, X4c9, X4f9, X4c10, X4f10, X4c11, X4f11⟩ := X4.f12
  have X4z : w.heap.size < w3.heap.size := X4.lt
  have X5c0 : w3.cell? ⟨w.heap.size + 1, 0, none⟩ = some (.slice A n cp) := X5.cell 0
  have X5f0 : w3.frozen? ⟨w.heap.size + 1, 0, none⟩ = false := X5.free 0
  have X5z : w.heap.size + 1 < w3.heap.size := X5.lt
  go_wp2_with fail
  clear X4c0 X4f0 X4c1 X4f1 X4c2 X4f2 X4c3 X4f3 X4c4 X4f4 X4c5 X4f5 X4c6 X4f6 X4c7 X4f7 X4c8 X4f8 X4c9 X4f9 X4c10 X4f10 X4c11 X4f11 X4z
  clear X5c0 X5f0 X5z
  refine (bCert_is hca (HC.out.later hB) (HQ.out.later hB)).mono ?_
  rintro e w5 ⟨rfl, hb⟩
  replace X4 := X4.later hb
  replace X5 := X5.later hb
  replace hB := hB.trans (hb.mono hB.size)
  clear hb
  obtain ⟨fk, ⟨g0, g1, g2, g3, g4, g5⟩, ⟨f0, f1⟩⟩ := fa
  go_upto_region 6 with fail
  have hb := (Below.refl w5.heap.size w5).alloc (Nat.le_refl _) (.cells #[.int .i64 fk, .int .i64 g0, .int .i64 g1, .int .i64 g2, .int .i64 g3, .int .i64 g4, .int .i64 g5, .int .i64 f0, .int .i64 f1] 39)
  replace X4 := X4.later hb
  replace X5 := X5.later hb
  replace hB := hB.trans (hb.mono hB.size)
  clear hb
  generalize w5.alloc (.cells #[.int .i64 fk, .int .i64 g0, .int .i64 g1, .int .i64 g2, .int .i64 g3, .int .i64 g4, .int .i64 g5, .int .i64 f0, .int .i64 f1] 39) = w6 at X4 X5 hB ⊢
  by_cases h0 : ea = 0
  rotate_left
  · have e0 : (ea != 0) = true := by simp [h0]
    clear h0
    go_wp2
    go_ret
    exact ⟨rfl, hB⟩
  subst h0
  cases ta with
  | false =>
    go_wp2
    go_ret
    exact ⟨rfl, hB⟩
  | true =>
  have HCE : Hid ((certT p c b).2.2 = 0) := Lib.hid (by rw [hca.out])
  have HCT : Hid ((certT p c b).1 = true) := Lib.hid (by rw [hca.out])
  have hf0 := HV.out.feed
  have e1 : wrap64 (p.feed + 1) = p.feed + 1 := by unfold wrap64; omega
  have e2 : IntKind.i64.wrap (p.feed + 1) = p.feed + 1 := by rw [IntKind.wrap_i64]; omega
  have e3 : max 1 (p.feed + 1) = p.feed + 1 := by omega
  have e4 : IntKind.i64.wrap x1 = x1 := by rw [IntKind.wrap_i64]; have := HX1.out; omega
  have e5 : ¬ p.feed + 1 = 0 := by omega
  obtain ⟨X4c0, X4f0, X4c1, X4f1, X4c2, X4f2, X4c3, X4f3, X4c4, X4f4, X4c5, X4f5, X4c6, X4f6, X4c7, X4f7, X4c8, X4f8, X4c9, X4f9, X4c10, X4f10, X4c11, X4f11⟩ := X4.f12
  have X4z : w.heap.size < w6.heap.size := X4.lt
  go_upto_region 9 with fail
  clear X4c0 X4f0 X4c1 X4f1 X4c2 X4f2 X4c3 X4f3 X4c4 X4f4 X4c5 X4f5 X4c6 X4f6 X4c7 X4f7 X4c8 X4f8 X4c9 X4f9 X4c10 X4f10 X4c11 X4f11 X4z
  have hz6 : w.heap.size + 1 < w6.heap.size := X5.lt
  have hb := (Below.refl w6.heap.size w6).alloc (Nat.le_refl _) (.cells #[.int .i64 p.top, .int .i64 p.bank, .int .i64 p.siphon, .int .i64 p.start, .int .i64 p.positions, .int .i64 p.rate, .int .i64 p.step, .int .i64 p.pass, .int .i64 p.feed, .int .i64 p.pipe, .int .i64 p.orders, .int .i64 p.age] 23)
  have X14 := Box.new w6 [.int .i64 p.top, .int .i64 p.bank, .int .i64 p.siphon, .int .i64 p.start, .int .i64 p.positions, .int .i64 p.rate, .int .i64 p.step, .int .i64 p.pass, .int .i64 p.feed, .int .i64 p.pipe, .int .i64 p.orders, .int .i64 p.age] 23
  replace X4 := X4.later hb
  replace X5 := X5.later hb
  replace hB := hB.trans (hb.mono hB.size)
  clear hb
  generalize w6.alloc (.cells #[.int .i64 p.top, .int .i64 p.bank, .int .i64 p.siphon, .int .i64 p.start, .int .i64 p.positions, .int .i64 p.rate, .int .i64 p.step, .int .i64 p.pass, .int .i64 p.feed, .int .i64 p.pipe, .int .i64 p.orders, .int .i64 p.age] 23) = w7 at X4 X5 X14 hB ⊢
  generalize w6.heap.size = B14 at X14 hz6 ⊢
  obtain ⟨X4c0, X4f0, X4c1, X4f1, X4c2, X4f2, X4c3, X4f3, X4c4, X4f4, X4c5, X4f5, X4c6, X4f6, X4c7, X4f7, X4c8, X4f8, X4c9, X4f9, X4c10, X4f10, X4c11, X4f11⟩ := X4.f12
  have X4z : w.heap.size < w7.heap.size := X4.lt
  obtain ⟨X14c0, X14f0, X14c1, X14f1, X14c2, X14f2, X14c3, X14f3, X14c4, X14f4, X14c5, X14f5, X14c6, X14f6, X14c7, X14f7, X14c8, X14f8, X14c9, X14f9, X14c10, X14f10, X14c11, X14f11⟩ := X14.f12
  have X14z : B14 < w7.heap.size := X14.lt
  go_upto_region 10 with fail
  clear X4c0 X4f0 X4c1 X4f1 X4c2 X4f2 X4c3 X4f3 X4c4 X4f4 X4c5 X4f5 X4c6 X4f6 X4c7 X4f7 X4c8 X4f8 X4c9 X4f9 X4c10 X4f10 X4c11 X4f11 X4z
  clear X14c0 X14f0 X14c1 X14f1 X14c2 X14f2 X14c3 X14f3 X14c4 X14f4 X14c5 X14f5 X14c6 X14f6 X14c7 X14f7 X14c8 X14f8 X14c9 X14f9 X14c10 X14f10 X14c11 X14f11 X14z
  obtain ⟨fq, hfq⟩ : ∃ fq, x1.tmod (p.feed + 1) = fq := ⟨_, rfl⟩
  have hfq0 : fq ≤ p.feed := by
    have h9 := Int.tmod_lt_of_pos x1 (show 0 < p.feed + 1 by omega)
    omega
  rw [hfq]
  have HFQ := Lib.hid hfq0
  clear hfq hfq0 e1 e2 e3 e4 e5 hf0
  replace X14 := X14.set 8 (.int .i64 fq)
  simp only [List.set_cons_succ, List.set_cons_zero] at X14
  replace X4 := X4.other (a := ⟨B14, 8, none⟩) (by dsimp only; omega) (.int .i64 fq)
  replace X5 := X5.other (a := ⟨B14, 8, none⟩) (by dsimp only; omega) (.int .i64 fq)
  replace hB := hB.setCell (p := ⟨B14, 8, none⟩) (by dsimp only; omega) (.int .i64 fq)
  generalize w7.setCell ⟨B14, 8, none⟩ (.int .i64 fq) = w8 at X4 X5 X14 hB ⊢
  obtain ⟨qk, hqk⟩ : ∃ qk, Hid ((p.fed fq).checkT = qk) := ⟨_, Lib.hid rfl⟩
  obtain ⟨tq, htq⟩ : ∃ tq, (qk == 0) = tq := ⟨_, rfl⟩
  have htq2 : decide (qk = 0) = tq := by rw [← htq]; rfl
  have X14z := X14.lt
  obtain ⟨X14c0, X14c1, X14c2, X14c3, X14c4, X14c5, X14c6, X14c7, X14c8, X14c9, X14c10, X14c11⟩ := X14.c12
  go_cut [66] (fun s66 wx => s66 = .bool tq ∧ Below w8.heap.size w8 wx)
  case first =>
    go_wp2_with fail
    refine (check_at (p := p.fed fq) hqk _).mono ?_
    rintro e w9 ⟨rfl, hb⟩
    go_wp2_with fail
    go_meet
    exact ⟨by simp only [htq], hb⟩
  case rest =>
  obtain ⟨rfl, hb⟩ := hcut
  obtain ⟨w9, rfl⟩ : ∃ w9 : World, w9 = wc := ⟨_, rfl⟩
  clear X14c0 X14c1 X14c2 X14c3 X14c4 X14c5 X14c6 X14c7 X14c8 X14c9 X14c10 X14c11 X14z
  replace X4 := X4.later hb
  replace X5 := X5.later hb
  replace X14 := X14.later hb
  replace hB := hB.trans (hb.mono hB.size)
  clear hb
  have HTQ := Lib.hid htq
  clear htq htq2
  go_upto_if 66 with fail
  go_cut [] (fun wx => Below w9.heap.size w9 wx)
  case first =>
    cases tq with
    | false =>
      go_wp2_with fail
      go_meet
      exact Below.refl _ _
    | true =>
      have hq0 : (p.fed fq).checkT = 0 := by
        rw [hqk.out]
        exact eq_of_beq HTQ.out
      obtain ⟨h9, h10⟩ := less_feed (c := c) (b := b) HFQ.out hq0 HCE.out HCT.out
      obtain ⟨tl, ⟨lk, ⟨l0, l1, l2, l3, l4, l5⟩, ⟨m0, m1⟩⟩, el, hcl⟩ : ∃ t f d, certT (p.fed fq) c b = (t, f, d) := ⟨_, _, _, rfl⟩
      rw [hcl] at h9 h10
      dsimp only at h9 h10
      subst h9 h10
      have HCL := Lib.hid hcl
      clear hcl hq0
      obtain ⟨X14c0, X14c1, X14c2, X14c3, X14c4, X14c5, X14c6, X14c7, X14c8, X14c9, X14c10, X14c11⟩ := X14.c12
      have X14z := X14.lt
      have X5c0 : w9.cell? ⟨w.heap.size + 1, 0, none⟩ = some (.slice A n cp) := X5.cell 0
      have X5z := X5.lt
      go_wp2_with fail
      refine (bCert_is (p := p.fed fq) HCL (HC.out.later hB) (HQ.out.later hB)).mono ?_
      rintro e w10 ⟨rfl, hb⟩
      clear X14c0 X14c1 X14c2 X14c3 X14c4 X14c5 X14c6 X14c7 X14c8 X14c9 X14c10 X14c11 X14z X5c0 X5z
      go_wp2_with fail
      go_meet
      exact hb.alloc hb.size _
  case rest =>
  have hb := hcut
  obtain ⟨w11, rfl⟩ : ∃ w11 : World, w11 = wc := ⟨_, rfl⟩
  clear hcut
  replace X4 := X4.later hb
  replace X5 := X5.later hb
  replace hB := hB.trans (hb.mono hB.size)
  clear hb
  clear X14 HFQ HTQ hqk
  by_cases hnb0 : nb = 0
  · subst hnb0
    go_wp2
    go_ret
    exact ⟨rfl, hB⟩
  obtain ⟨kk, hkk⟩ : ∃ kk : Nat, x2.tmod (nb : Int) = kk := ⟨(x2.tmod (nb : Int)).toNat, by
    have h9 := Int.tmod_nonneg (nb : Int) HX2.out.1
    omega⟩
  have hkn : kk < nb := by
    have h9 := Int.tmod_lt_of_pos x2 (show 0 < (nb : Int) by omega)
    omega
  have e1 : IntKind.i64.wrap x2 = x2 := by rw [IntKind.wrap_i64]; have := HX2.out; omega
  have e2 : ¬ (nb : Int) = 0 := by omega
  have e3 : ((nb : Int) == 0) = false := by simp [hnb0]
  go_upto_region 17 with fail
  clear e1 e2 e3
  obtain ⟨bb, ob, hAb⟩ : ∃ bb ob, Ab = some ⟨bb, ob, none⟩ := by
    obtain ⟨A', c', hv, _, h9⟩ := HQ.out
    obtain ⟨b', off, hA, _⟩ := h9 0 (by rw [HNB.out]; omega)
    cases hv
    exact ⟨b', off, hA⟩
  subst hAb
  have hcap : nb ≤ cb ∧ cb ≤ 9223372036854775807 := by
    rcases HQf.out with h9 | ⟨a9, n9, c9, h9, h10, h11⟩
    · cases h9
    · cases h9
      exact ⟨h10, h11⟩
  obtain ⟨r, hr⟩ : ∃ r, nb = kk + 1 + r := ⟨nb - (kk + 1), by omega⟩
  subst hr
  obtain ⟨d, hd⟩ : ∃ d, cb = kk + 1 + r + d := ⟨cb - (kk + 1 + r), by omega⟩
  subst hd
  have hcm := hcap.2
  have HKK := Lib.hid hkk
  clear hcap hkk hkn hnb0
  go_cut [19] (fun s19 wx => ∃ V9, s19 = V9 ∧ Hid (OwnQ wx w11.heap.size V9 (b.take kk ++ b.drop (kk + 1))) ∧ Below w11.heap.size w11 wx)
  case first =>
    have hd := (Below.refl w11.heap.size w11).drew
    have q1 : wrap64 ((kk : Int) + 1) = (kk : Int) + 1 := by unfold wrap64; omega
    have q2 : IntKind.i64.wrap ((kk : Int) + 1) = (kk : Int) + 1 := by rw [IntKind.wrap_i64]; omega
    refine wp_region_heads (C := fun w' => ∃ x : Later w11, w' = x.w) [1, 2, 3, 5, 6, 7, 8] (by kernel_rfl) (by kernel_rfl) (Later.mk' hd) (fun _ _ h => h) ?_
    simp only [headOps, List.filterMap_cons, List.filterMap_nil, List.getElem?_toArray, List.getElem?_cons_succ, List.getElem?_cons_zero]
    repeat (first | go_big_quiet_skip | (show wpQuiet _ _ _ _ (_ :: _) _; go_big_quiet_skip) | (show wpQuiet _ _ _ _ (_ :: _) _; go_big_quiet_want; go_big_quiet_op; go_big_quiet_on))
    refine wpQuiet_nil ?_
    clear q1 q2
    obtain ⟨Ar, hAr⟩ : ∃ Ar, (if kk + 1 + r + d = kk + 1 then (some ⟨bb, ob, none⟩ : Option Addr) else some ⟨bb, ob + (kk + 1) * 6, none⟩) = Ar := ⟨_, rfl⟩
    rw [hAr]
    have HQ1 := HQ.out.later hB
    have hbT : BarAt w11 w11.heap.size (.slice (some ⟨bb, ob, none⟩) kk (kk + 1 + r + d)) (b.take kk) := bar_take HQ1 (by omega)
    have hbD : BarAt w11 w11.heap.size (.slice Ar r (kk + 1 + r + d - (kk + 1))) (b.drop (kk + 1)) := by
      by_cases h9 : kk + 1 + r + d = kk + 1
      · have hr0 : r = 0 := by omega
        subst hr0
        rw [List.drop_of_length_le (by rw [HNB.out]; omega)]
        exact bar_none _ _
      · rw [if_neg h9] at hAr
        subst hAr
        exact bar_drop HQ1 (by omega) (by omega)
    have hfT : SlF (.slice (some ⟨bb, ob, none⟩) kk (kk + 1 + r + d)) := .inr ⟨_, _, _, rfl, by omega, by unfold maxLen; omega⟩
    have hfD : SlF (.slice Ar r (kk + 1 + r + d - (kk + 1))) := by
      obtain ⟨a9, ha9⟩ : ∃ a9, Ar = some a9 := by
        rw [← hAr]
        split
        · exact ⟨_, rfl⟩
        · exact ⟨_, rfl⟩
      subst ha9
      exact .inr ⟨_, _, _, rfl, by omega, by unfold maxLen; omega⟩
    have hlT : (b.take kk).length ≤ 40 := by rw [List.length_take]; have := HN40.out; omega
    have hlD : (b.drop (kk + 1)).length ≤ 40 := by rw [List.length_drop, HNB.out]; have := HN40.out; omega
    clear hAr HQ1
    refine anyC_valD (some 89) (n := 3) (i := 0) (v := .slice (some ⟨w11.drew.heap.size, 0, none⟩) 0 0) (w' := w11.drew.alloc (.cells #[] 71)) (by kernel_rfl) rfl rfl rfl (Later.mk' hd) (by go_simp) ?_
    simp only [Act.put, List.setIfInBounds_toArray, List.set_cons_zero, List.set_cons_succ]
    have hQ9 := made0L w11.drew w11.heap.size hd.size
    have hW1 := hd.alloc hd.size (.cells #[] 71)
    generalize w11.drew.alloc (.cells #[] 71) = W1 at hQ9 hW1 ⊢
    generalize w11.drew.heap.size = R9 at hQ9 ⊢
    obtain ⟨V91, W2, hr91, hQ91, hg91⟩ := hQ9.app 27 ((hbT.below hW1).more hW1.size) hfT (by rw [List.length_nil]; omega) hW1.size
    have hW2 := hW1.trans (hQ9.below hg91 (Nat.le_refl _) hW1.size)
    obtain ⟨V92, W3, hr92, hQ92, hg92⟩ := hQ91.app 27 ((hbD.below hW2).more hW2.size) hfD (by rw [List.nil_append]; omega) hW2.size
    have hW3 := hW2.trans (hQ91.below hg92 (Nat.le_refl _) hW2.size)
    refine anyC_valD (some 93) (n := 2) (i := 4) (v := V91) (w' := W2) (by kernel_rfl) rfl rfl rfl (Later.mk' hW1) (run_app_op (x := .tmp 89) (y := .tmp 92) rfl rfl rfl rfl hr91) ?_
    simp only [Act.put, List.setIfInBounds_toArray, List.set_cons_zero, List.set_cons_succ]
    refine anyC_valD (some 98) (n := 1) (i := 9) (v := V92) (w' := W3) (by kernel_rfl) rfl rfl rfl (Later.mk' hW2) (run_app_op (x := .tmp 93) (y := .tmp 97) rfl rfl rfl rfl hr92) ?_
    simp only [Act.put, List.setIfInBounds_toArray, List.set_cons_zero, List.set_cons_succ]
    refine anyC_valD (some 19) (n := 0) (i := 10) (v := V92) (w' := W3) (by kernel_rfl) rfl rfl rfl (Later.mk' hW3) (by first | rfl | go_simp) ?_
    simp only [Act.put, List.setIfInBounds_toArray, List.set_cons_zero, List.set_cons_succ]
    refine anyC_done (by kernel_rfl) (Later.mk' hW3) ?_
    go_wp2_with fail
    go_meet
    exact ⟨V92, rfl, Lib.hid hQ92, hW3⟩
  case rest =>
  obtain ⟨V9, rfl, hQ9, hb⟩ := hcut
  obtain ⟨w12, rfl⟩ : ∃ w12 : World, w12 = wc := ⟨_, rfl⟩
  replace X4 := X4.later hb
  replace X5 := X5.later hb
  replace hB := hB.trans (hb.mono hB.size)
  have hlr : (b.take kk ++ b.drop (kk + 1)).length ≤ 40 := by
    rw [List.length_append, List.length_take, List.length_drop, HNB.out]
    have := HN40.out
    omega
  obtain ⟨hR9, -⟩ := hQ9.out.bar (by omega)
  obtain ⟨A9, c9, hV9, -⟩ := hR9.form
  subst hV9
  obtain ⟨n9, hn9⟩ : ∃ n9, (b.take kk ++ b.drop (kk + 1)).length = n9 := ⟨_, rfl⟩
  rw [hn9] at hR9 ⊢
  have HR9 := Lib.hid hR9
  clear hR9 hQ9 hb hlr hn9
  have hkb : kk < b.length := by rw [HNB.out]; omega
  have HKB := Lib.hid hkb
  clear hkb
  obtain ⟨rest, hrest⟩ : ∃ rest, b.take kk ++ b.drop (kk + 1) = rest := ⟨_, rfl⟩
  rw [hrest] at HR9
  have HRS := Lib.hid hrest
  clear hrest
  have hcn : Hid (p.count ≤ 1048576) := Lib.hid (by have := count_le hck.out; omega)
  obtain ⟨X4c0, X4c1, X4c2, X4c3, X4c4, X4c5, X4c6, X4c7, X4c8, X4c9, X4c10, X4c11⟩ := X4.c12
  have X4z := X4.lt
  go_wp2_with fail
  refine (rbStates_any p HV hcn _).mono ?_
  rintro e w13 ⟨V20, rfl, B20, hB20, hO, hb⟩
  clear X4c0 X4c1 X4c2 X4c3 X4c4 X4c5 X4c6 X4c7 X4c8 X4c9 X4c10 X4c11 X4z
  replace X4 := X4.later hb
  replace X5 := X5.later hb
  replace hB := hB.trans (hb.mono hB.size)
  have HR := Lib.hid ((HR9.out.below hb).more hb.size)
  clear hb HR9 hB20
  obtain ⟨A20, c20, hV20⟩ := ownE_form hO (fun _ => rfl)
  subst hV20
  rw [states_len] at hO ⊢
  obtain ⟨N, hN⟩ : ∃ N, p.count = N := ⟨_, rfl⟩
  rw [hN] at hO ⊢
  have hN2 : N ≤ 4096 := by rw [← hN]; exact count_le hck.out
  have HN := Lib.hid hN
  have HO := Lib.hid hO
  clear hN hO
  have HBO : Hid (BarAt w13 w13.heap.size (.slice (some ⟨bb, ob + kk * 6, none⟩) 1 (kk + 1 + r + d - kk)) [b[kk]'HKB.out]) := Lib.hid (bar_one (HQ.out.later hB) HKB.out)
  have HS := ks_facts kk r d hcm
  have HS1 := Lib.hid HS.1
  have HS2 := Lib.hid HS.2.1
  have HS3 := Lib.hid HS.2.2.1
  have HS4 := Lib.hid HS.2.2.2.1
  have HS5 := Lib.hid HS.2.2.2.2
  clear HS
  clear hcm
  have HN2 := Lib.hid hN2
  clear hN2
  go_wp2_with fail
  go_loopw [102] (fun i wr => ∃ j : Nat, j ≤ N ∧ i = .int .i64 j ∧ Below w13.heap.size w13 wr ∧ Hid (∀ s ∈ p.states.take j, inB rest s = true → inB [b[kk]'HKB.out] s = true)) (fun i _ => N - (intOf i).toNat)
  case atStart => exact ⟨0, Nat.zero_le _, rfl, Below.refl _ _, Lib.hid (fun s hs => by cases hs)⟩
  case round =>
    obtain ⟨j, hj, rfl, hbr, hpl⟩ := hrel
    obtain ⟨wo, rfl⟩ : ∃ wo : World, wo = wr := ⟨_, rfl⟩
    rcases Nat.lt_or_ge j N with hlt | hge
    rotate_left
    · obtain rfl : j = N := by omega
      have e0 : ¬ (j : Int) < (j : Int) := by omega
      have hall : ∀ s ∈ p.states, inB (b.take kk ++ b.drop (kk + 1)) s = true → inB [b[kk]'HKB.out] s = true := by
        rw [HRS.out]
        intro s hs
        exact hpl.out s (by rw [List.take_of_length_le (by rw [states_len, HN.out]; exact Nat.le_refl _)]; exact hs)
      obtain ⟨h9, h10⟩ := less_rest HKB.out HCE.out HCT.out hall
      rw [HRS.out] at h9 h10
      obtain ⟨tl, ⟨lk, ⟨l0, l1, l2, l3, l4, l5⟩, ⟨m0, m1⟩⟩, el, hcl⟩ : ∃ t f d, certT p c rest = (t, f, d) := ⟨_, _, _, rfl⟩
      rw [hcl] at h9 h10
      dsimp only at h9 h10
      subst h9 h10
      have HCL := Lib.hid hcl
      clear hcl hall
      replace X4 := X4.later hbr
      replace X5 := X5.later hbr
      replace hB := hB.trans (hbr.mono hB.size)
      obtain ⟨X4c0, X4c1, X4c2, X4c3, X4c4, X4c5, X4c6, X4c7, X4c8, X4c9, X4c10, X4c11⟩ := X4.c12
      have X4z := X4.lt
      have X5c0 : wo.cell? ⟨w.heap.size + 1, 0, none⟩ = some (.slice A n cp) := X5.cell 0
      have X5z := X5.lt
      go_wp2_with fail
      refine (bCert_is HCL (HC.out.later hB) ((HR.out.below hbr).more hbr.size)).mono ?_
      rintro e w20 ⟨rfl, hb⟩
      replace hB := hB.trans (hb.mono hB.size)
      go_wp2
      go_ret
      exact ⟨by simp, hB.alloc hB.size _⟩
    have e0 : (j : Int) < (N : Int) := by omega
    have hjs : j < p.states.length := by rw [states_len, HN.out]; exact hlt
    have hO2 : OwnSt w13 B20 (.slice A20 p.states.length c20) p.states := by rw [states_len, HN.out]; exact HO.out
    obtain ⟨g, hA20, _, hgl, t0, t1, t2, t3, t4, t5⟩ := ownSt_cells hO2 hjs
    have hsm : p.states[j] ∈ p.states := List.getElem_mem hjs
    have htk : p.states.take (j + 1) = p.states.take j ++ [p.states[j]] := List.take_succ_eq_append_getElem hjs
    obtain ⟨s, hs⟩ : ∃ s, p.states[j] = s := ⟨_, rfl⟩
    rw [hs] at t0 t1 t2 t3 t4 t5 hsm htk
    have hnm := (states_nums HV.out hsm).out
    obtain ⟨a1, a2⟩ := cert_err0.1 HCE.out
    obtain ⟨br1, br2⟩ := bar_parts HKB.out a2
    rw [HRS.out] at br1
    have hh1 : Hid (holdsT rest s = (inB rest s, 0)) := Lib.hid (holds_ofL br1 hnm)
    have hh2 : Hid (holdsT [b[kk]'HKB.out] s = (inB [b[kk]'HKB.out] s, 0)) := Lib.hid (holds_ofL br2 hnm)
    have HTK := Lib.hid htk
    subst hA20
    clear hs hjs hO2 hsm htk hnm a1 a2 br1 br2
    obtain ⟨s0, s1, s2, s3, s4, s5⟩ := s
    dsimp only at t0 t1 t2 t3 t4 t5
    have t0 := (hbr.cell hgl).trans t0
    have t1 := (hbr.cell hgl).trans t1
    have t2 := (hbr.cell hgl).trans t2
    have t3 := (hbr.cell hgl).trans t3
    have t4 := (hbr.cell hgl).trans t4
    have t5 := (hbr.cell hgl).trans t5
    have hgz := Nat.lt_of_lt_of_le hgl hbr.size
    go_upto_region 21 with fail
    clear t0 t1 t2 t3 t4 t5 hgl hgz e0
    have hb := (Below.refl wo.heap.size wo).alloc (Nat.le_refl _) (.cells #[.int .i64 s0, .int .i64 s1, .int .i64 s2, .int .i64 s3, .int .i64 s4, .int .i64 s5] 30)
    have X21 := Box.new wo [.int .i64 s0, .int .i64 s1, .int .i64 s2, .int .i64 s3, .int .i64 s4, .int .i64 s5] 30
    have hbr2 := hbr.trans (hb.mono hbr.size)
    clear hb
    generalize wo.alloc (.cells #[.int .i64 s0, .int .i64 s1, .int .i64 s2, .int .i64 s3, .int .i64 s4, .int .i64 s5] 30) = wp at X21 hbr2 ⊢
    generalize wo.heap.size = B21 at X21 ⊢
    obtain ⟨X21c0, X21c1, X21c2, X21c3, X21c4, X21c5⟩ := X21.c6
    have X21z := X21.lt
    go_wp2_with fail
    refine (bHolds_is hh1 ((HR.out.below hbr2).more hbr2.size)).mono ?_
    rintro e w15 ⟨rfl, hb⟩
    clear X21c0 X21c1 X21c2 X21c3 X21c4 X21c5 X21z
    replace X21 := X21.later hb
    have hbr3 := hbr2.trans (hb.mono hbr2.size)
    clear hb hbr2
    go_upto_region 22 with fail
    obtain ⟨i1, hi1⟩ : ∃ i1, inB rest ⟨s0, s1, s2, s3, s4, s5⟩ = i1 := ⟨_, rfl⟩
    obtain ⟨i2, hi2⟩ : ∃ i2, inB [b[kk]'HKB.out] ⟨s0, s1, s2, s3, s4, s5⟩ = i2 := ⟨_, rfl⟩
    rw [hi2] at hh2
    have HI1 := Lib.hid hi1
    have HI2 := Lib.hid hi2
    rw [hi1]
    clear hi1 hi2 hh1
    go_cut [24, 25] (fun s24 s25 wx => s24 = .bool i2 ∧ s25 = .int .i64 0 ∧ Below w15.heap.size w15 wx)
    case first =>
      have hd := (Below.refl w15.heap.size w15).drew
      have z21 := X21.lt
      have u0 : ∀ z : Later w15, z.w.cell? ⟨B21, 0, none⟩ = some (.int .i64 s0) := Later.cell (X21.cell 0) z21
      have u1 : ∀ z : Later w15, z.w.cell? ⟨B21, 1, none⟩ = some (.int .i64 s1) := Later.cell (X21.cell 1) z21
      have u2 : ∀ z : Later w15, z.w.cell? ⟨B21, 2, none⟩ = some (.int .i64 s2) := Later.cell (X21.cell 2) z21
      have u3 : ∀ z : Later w15, z.w.cell? ⟨B21, 3, none⟩ = some (.int .i64 s3) := Later.cell (X21.cell 3) z21
      have u4 : ∀ z : Later w15, z.w.cell? ⟨B21, 4, none⟩ = some (.int .i64 s4) := Later.cell (X21.cell 4) z21
      have u5 : ∀ z : Later w15, z.w.cell? ⟨B21, 5, none⟩ = some (.int .i64 s5) := Later.cell (X21.cell 5) z21
      have q1 := HS1.out
      have q2 := HS2.out
      have q3 := HS3.out
      have q4 := HS4.out
      refine wp_region_heads (C := fun w' => ∃ x : Later w15, w' = x.w) [0, 1, 2, 3, 4, 5] (by kernel_rfl) (by kernel_rfl) (Later.mk' hd) (fun _ _ h => h) ?_
      simp only [headOps, List.filterMap_cons, List.filterMap_nil, List.getElem?_toArray, List.getElem?_cons_succ, List.getElem?_cons_zero]
      repeat (first | go_big_quiet_skip | (show wpQuiet _ _ _ _ (_ :: _) _; go_big_quiet_skip) | (show wpQuiet _ _ _ _ (_ :: _) _; go_big_quiet_want; go_big_quiet_op; go_big_quiet_on))
      refine wpQuiet_nil ?_
      clear q1 q2 q3 q4 u0 u1 u2 u3 u4 u5
      first | rw [if_neg HS5.out] | skip
      refine anyC_callD (some 119) (n := 5) (i := 6) (by kernel_rfl) rfl rfl rfl (Later.mk' hd) ?_ ((bHolds_is hh2 ((HBO.out.below (hbr3.trans (hd.mono hbr3.size))).more (Nat.le_trans hbr3.size hd.size))).mono ?_)
      · go_simp
      rintro e W9 ⟨rfl, hb⟩
      refine ⟨_, rfl, ?_⟩
      simp only [Act.put, List.setIfInBounds_toArray, List.set_cons_zero, List.set_cons_succ]
      have hW9 := hd.trans (hb.mono hd.size)
      clear hb
      refine anyC_heads (by kernel_rfl) 0 W9 (Later.mk' hW9) [7, 8, 9, 10, 11] _ _ (by kernel_rfl) ?_
      simp only [headOps, List.filterMap_cons, List.filterMap_nil, List.getElem?_toArray, List.getElem?_cons_succ, List.getElem?_cons_zero]
      repeat (first | go_big_quiet_skip | (show wpQuiet _ _ _ _ (_ :: _) _; go_big_quiet_skip) | (show wpQuiet _ _ _ _ (_ :: _) _; go_big_quiet_want; go_big_quiet_op; go_big_quiet_on))
      refine wpQuiet_nil ?_
      refine anyC_done (by kernel_rfl) (Later.mk' hW9) ?_
      go_wp2_with fail
      go_meet
      exact ⟨rfl, rfl, hW9⟩
    case rest =>
    obtain ⟨rfl, rfl, hb⟩ := hcut
    obtain ⟨w16, rfl⟩ : ∃ w16 : World, w16 = wc := ⟨_, rfl⟩
    have hbr4 := hbr3.trans (hb.mono hbr3.size)
    clear hb hbr3 X21
    cases i1 with
    | true =>
      cases i2 with
      | true =>
        have hN2 := HN2.out
        go_wp2
        refine ⟨⟨j + 1, Nat.succ_le_of_lt hlt, by go_num, hbr4, Lib.hid (fun s hs => ?_)⟩, by simp [intOf]; omega⟩
        rw [HTK.out] at hs
        rcases List.mem_append.1 hs with h9 | h9
        · exact hpl.out s h9
        · rw [List.mem_singleton.1 h9]
          exact fun _ => HI2.out
      | false =>
        go_wp2
        go_ret
        exact ⟨rfl, hB.trans (hbr4.mono hB.size)⟩
    | false =>
      have hN2 := HN2.out
      go_wp2
      refine ⟨⟨j + 1, Nat.succ_le_of_lt hlt, by go_num, hbr4, Lib.hid (fun s hs => ?_)⟩, by simp [intOf]; omega⟩
      rw [HTK.out] at hs
      rcases List.mem_append.1 hs with h9 | h9
      · exact hpl.out s h9
      · rw [List.mem_singleton.1 h9]
        exact fun h10 => absurd (h10.symm.trans HI1.out) (by decide)
end Go.Proofs.Ytancngachnpefaa
