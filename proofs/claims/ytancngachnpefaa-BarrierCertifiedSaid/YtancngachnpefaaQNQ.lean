/- BarrierCertified. (Printed by gen_nq.py out of NO, and by pp.py.) No condition. -/
import Derived.Test.YtancngachnpefaaQK
import Derived.Test.YtancngachnpefaaQNO
import Derived.Test.YtancngachnpefaaQNG
set_option linter.unusedVariables false
set_option linter.unusedSimpArgs false
set_option maxRecDepth 100000
set_option maxHeartbeats 8000000
namespace Go.Proofs.Ytancngachnpefaa
open Go.RowKit Go.Shelf
attribute [local go_sem] Oper.semAt_some
attribute [local go_sem ↓ high] app_named
theorem cert_kept {p : Pl} {c : List Ln} {b : List Iq} (ha : askT p c = 0) (C : Cert p c b) {s : St} (hs : s ∈ p.states) (hi : inB b s = true) : lostI p c s = false := by
  have key : ∀ z, OutP p c z → z ∈ p.states → inB b z = true → False := fun z hz => by
    induction hz with
    | here h =>
      intro h1 h2
      have h3 := C.safe _ h1 h2
      unfold Pl.safeB at h3
      rw [h] at h3
      cases h3
    | @next x y hy _ ih =>
      intro h1 h2
      obtain ⟨q, hq, rfl⟩ := List.mem_map.1 hy
      obtain ⟨h3, h4⟩ := nexts_mem hq
      rw [h4] at ih
      exact ih ((states_mem (Pl.check_zero (ask_zero ha).1).1).2 (nextS_has ha h1 h3)) (C.stay _ h1 h2 _ h3)
  cases hl : lostI p c s with
  | false => rfl
  | true => exact (key s ((lost_iff ha hs).1 hl) hs hi).elim
theorem go_bar {p : Pl} {c : List Ln} {b : List Iq} (ha : askT p c = 0) (C : Cert p c b) : ∀ (l : List Sh) (s : St), s ∈ p.states → inB b s = true → (∀ x ∈ l, x ∈ p.shocks) → ∀ z ∈ goT p c s l, inB b z = true
  | [], s, _, hl, _, z, hz => by
    rw [goT] at hz
    rw [List.mem_singleton.1 hz]
    exact hl
  | x :: l, s, hs, hl, hx, z, hz => by
    rw [goT] at hz
    have hxm := hx x (List.mem_cons_self ..)
    rcases List.mem_cons.1 hz with rfl | hz
    · exact hl
    · exact go_bar ha C l _ ((states_mem (Pl.check_zero (ask_zero ha).1).1).2 (nextS_has ha hs hxm)) (C.stay s hs hl x hxm) (fun y hy => hx y (List.mem_cons_of_mem _ hy)) z hz
theorem law_BarrierCertified (p : Pl) (c : List Ln) (V : Value) (bar : List Iq) (Ub : Value) (l : List Sh) (U : Value) (w : World) (hC : CodeAt w w.heap.size V c) (hQ : BarAt w w.heap.size Ub bar) (hL : ShLs w w.heap.size U l) :
    Calls Try.prog 6 #[p.v, .agg #[V], Ub, U] w fun e w' => e = .returned (.bool true) ∧ Below w.heap.size w w' := by
  obtain ⟨A, cp, rfl, hm⟩ := hC.form
  obtain ⟨Al, cl, rfl, hml⟩ := hL.form
  obtain ⟨Ab, cb, rfl, hmb⟩ := hQ.form
  obtain ⟨n, hn⟩ : ∃ n, c.length = n := ⟨_, rfl⟩
  obtain ⟨nb, hnb⟩ : ∃ nb, bar.length = nb := ⟨_, rfl⟩
  obtain ⟨nl, hnl⟩ : ∃ nl, l.length = nl := ⟨_, rfl⟩
  rw [hn] at hC
  rw [hnl] at hL
  rw [hnb] at hQ
  rw [hn, hnl, hnb]
  have HQ := Lib.hid hQ
  have HC := Lib.hid hC
  have HL := Lib.hid hL
  have HNL := Lib.hid hnl
  clear hC hL hQ hm hml hmb hn hnl hnb
  go_enter Try.func6, Try.ntmps6
  go_wp2_with fail
  have hB := ((Below.refl w.heap.size w).alloc (by simp <;> omega) (.cells #[.int .i64 p.top, .int .i64 p.bank, .int .i64 p.siphon, .int .i64 p.start, .int .i64 p.positions, .int .i64 p.rate, .int .i64 p.step, .int .i64 p.pass, .int .i64 p.feed, .int .i64 p.pipe, .int .i64 p.orders, .int .i64 p.age] 23)).alloc (by simp <;> omega) (.cells #[.slice A n cp] 26)
  have X3 := (Box.newAt (w := w) (n := w.heap.size) [.int .i64 p.top, .int .i64 p.bank, .int .i64 p.siphon, .int .i64 p.start, .int .i64 p.positions, .int .i64 p.rate, .int .i64 p.step, .int .i64 p.pass, .int .i64 p.feed, .int .i64 p.pipe, .int .i64 p.orders, .int .i64 p.age] 23 rfl).alloc (.cells #[.slice A n cp] 26)
  have X4 := Box.newAt (w := w.alloc (.cells #[.int .i64 p.top, .int .i64 p.bank, .int .i64 p.siphon, .int .i64 p.start, .int .i64 p.positions, .int .i64 p.rate, .int .i64 p.step, .int .i64 p.pass, .int .i64 p.feed, .int .i64 p.pipe, .int .i64 p.orders, .int .i64 p.age] 23)) (n := w.heap.size + 1) [.slice A n cp] 26 (by simp)
  generalize (w.alloc (.cells #[.int .i64 p.top, .int .i64 p.bank, .int .i64 p.siphon, .int .i64 p.start, .int .i64 p.positions, .int .i64 p.rate, .int .i64 p.step, .int .i64 p.pass, .int .i64 p.feed, .int .i64 p.pipe, .int .i64 p.orders, .int .i64 p.age] 23)).alloc (.cells #[.slice A n cp] 26) = w0 at X3 X4 hB ⊢
  refine (bSane_any _).mono ?_
  rintro e w1 ⟨rfl, hb⟩
  replace X3 := X3.later hb
  replace X4 := X4.later hb
  replace hB := hB.trans (hb.mono hB.size)
  clear hb
  obtain ⟨X3c0, X3f0, X3c1, X3f1, X3c2, X3f2, X3c3, X3f3, X3c4, X3f4, X3c5, X3f5, X3c6, X3f6, X3c7, X3f7, X3c8, X3f8, X3c9, X3f9, X3c10, X3f10, X3c11, X3f11⟩ := X3.f12
  have X3z : w.heap.size < w1.heap.size := X3.lt
  have X4c0 : w1.cell? ⟨w.heap.size + 1, 0, none⟩ = some (.slice A n cp) := X4.cell 0
  have X4f0 : w1.frozen? ⟨w.heap.size + 1, 0, none⟩ = false := X4.free 0
  have X4z : w.heap.size + 1 < w1.heap.size := X4.lt
  go_wp2_with fail
  clear X3c0 X3f0 X3c1 X3f1 X3c2 X3f2 X3c3 X3f3 X3c4 X3f4 X3c5 X3f5 X3c6 X3f6 X3c7 X3f7 X3c8 X3f8 X3c9 X3f9 X3c10 X3f10 X3c11 X3f11 X3z
  clear X4c0 X4f0 X4z
  refine (zFew_is (HC.out.later hB) (HQ.out.later hB)).mono ?_
  rintro e w2 hF
  obtain ⟨t, rfl, hb⟩ := hF
  replace X3 := X3.later hb
  replace X4 := X4.later hb
  replace hB := hB.trans (hb.mono hB.size)
  clear hb
  cases t with
  | false =>
    go_wp2
    go_ret
    exact ⟨rfl, hB⟩
  | true =>
  by_cases h60 : nl ≤ 60
  rotate_left
  · have e0 : (60 : Int) < (nl : Int) := by omega
    have e1 : 60 < nl := by omega
    clear h60
    go_wp2
    go_ret
    exact ⟨rfl, hB⟩
  have e60 : ¬ (60 : Int) < (nl : Int) := by omega
  obtain ⟨ck, hck⟩ : ∃ ck, Hid (p.checkT = ck) := ⟨_, Lib.hid rfl⟩
  obtain ⟨X3c0, X3f0, X3c1, X3f1, X3c2, X3f2, X3c3, X3f3, X3c4, X3f4, X3c5, X3f5, X3c6, X3f6, X3c7, X3f7, X3c8, X3f8, X3c9, X3f9, X3c10, X3f10, X3c11, X3f11⟩ := X3.f12
  have X3z : w.heap.size < w2.heap.size := X3.lt
  go_wp2_with fail
  clear X3c0 X3f0 X3c1 X3f1 X3c2 X3f2 X3c3 X3f3 X3c4 X3f4 X3c5 X3f5 X3c6 X3f6 X3c7 X3f7 X3c8 X3f8 X3c9 X3f9 X3c10 X3f10 X3c11 X3f11 X3z
  refine (check_at hck _).mono ?_
  rintro e w3 ⟨rfl, hb⟩
  replace X3 := X3.later hb
  replace X4 := X4.later hb
  replace hB := hB.trans (hb.mono hB.size)
  clear hb
  have H60 := Lib.hid h60
  clear h60
  by_cases h0 : ck = 0
  rotate_left
  · have e0 : (ck != 0) = true := by simp [h0]
    clear h0
    go_wp2
    go_ret
    exact ⟨rfl, hB⟩
  subst h0
  have HV := Lib.hid (Pl.check_zero hck.out).1
  obtain ⟨ta, fa, ea, hca⟩ : ∃ t f d, Hid (certT p c bar = (t, f, d)) := ⟨_, _, _, rfl⟩
  obtain ⟨X3c0, X3f0, X3c1, X3f1, X3c2, X3f2, X3c3, X3f3, X3c4, X3f4, X3c5, X3f5, X3c6, X3f6, X3c7, X3f7, X3c8, X3f8, X3c9, X3f9, X3c10, X3f10, X3c11, X3f11⟩ := X3.f12
  have X3z : w.heap.size < w3.heap.size := X3.lt
  have X4c0 : w3.cell? ⟨w.heap.size + 1, 0, none⟩ = some (.slice A n cp) := X4.cell 0
  have X4f0 : w3.frozen? ⟨w.heap.size + 1, 0, none⟩ = false := X4.free 0
  have X4z : w.heap.size + 1 < w3.heap.size := X4.lt
  go_wp2_with fail
  clear X3c0 X3f0 X3c1 X3f1 X3c2 X3f2 X3c3 X3f3 X3c4 X3f4 X3c5 X3f5 X3c6 X3f6 X3c7 X3f7 X3c8 X3f8 X3c9 X3f9 X3c10 X3f10 X3c11 X3f11 X3z
  clear X4c0 X4f0 X4z
  clear e60
  refine (bCert_is hca (HC.out.later hB) (HQ.out.later hB)).mono ?_
  rintro e w3a ⟨rfl, hb⟩
  replace X3 := X3.later hb
  replace X4 := X4.later hb
  replace hB := hB.trans (hb.mono hB.size)
  clear hb
  obtain ⟨fk, ⟨g0, g1, g2, g3, g4, g5⟩, ⟨f0, f1⟩⟩ := fa
  go_upto_region 6 with fail
  have hb := (Below.refl w3a.heap.size w3a).alloc (Nat.le_refl _) (.cells #[.int .i64 fk, .int .i64 g0, .int .i64 g1, .int .i64 g2, .int .i64 g3, .int .i64 g4, .int .i64 g5, .int .i64 f0, .int .i64 f1] 39)
  replace X3 := X3.later hb
  replace X4 := X4.later hb
  replace hB := hB.trans (hb.mono hB.size)
  clear hb
  generalize w3a.alloc (.cells #[.int .i64 fk, .int .i64 g0, .int .i64 g1, .int .i64 g2, .int .i64 g3, .int .i64 g4, .int .i64 g5, .int .i64 f0, .int .i64 f1] 39) = w3b at X3 X4 hB ⊢
  by_cases h0 : ea = 0
  rotate_left
  · have e0 : (ea != 0) = true := by simp [h0]
    clear h0
    go_wp2
    go_ret
    exact ⟨rfl, hB⟩
  subst h0
  cases ta with
  | false =>
    go_wp2
    go_ret
    exact ⟨rfl, hB⟩
  | true =>
  obtain ⟨a1, a2⟩ := cert_err0.1 (show (certT p c bar).2.2 = 0 by rw [hca.out])
  have HCC := Lib.hid ((cert_iff a1 a2).1 (by rw [hca.out]))
  have HBT := Lib.hid a2
  have HASK := Lib.hid a1
  clear a1 a2
  have hcn : Hid (askT p c = 0 → p.count ≤ 524288) := Lib.hid (fun _ => by have := count_le hck.out; omega)
  obtain ⟨X3c0, X3f0, X3c1, X3f1, X3c2, X3f2, X3c3, X3f3, X3c4, X3f4, X3c5, X3f5, X3c6, X3f6, X3c7, X3f7, X3c8, X3f8, X3c9, X3f9, X3c10, X3f10, X3c11, X3f11⟩ := X3.f12
  have X3z : w.heap.size < w3b.heap.size := X3.lt
  have X4c0 : w3b.cell? ⟨w.heap.size + 1, 0, none⟩ = some (.slice A n cp) := X4.cell 0
  have X4f0 : w3b.frozen? ⟨w.heap.size + 1, 0, none⟩ = false := X4.free 0
  have X4z : w.heap.size + 1 < w3b.heap.size := X4.lt
  go_wp2_with fail
  clear X3c0 X3f0 X3c1 X3f1 X3c2 X3f2 X3c3 X3f3 X3c4 X3f4 X3c5 X3f5 X3c6 X3f6 X3c7 X3f7 X3c8 X3f8 X3c9 X3f9 X3c10 X3f10 X3c11 X3f11 X3z
  clear X4c0 X4f0 X4z
  refine (bInv_any p c _ _ _ _ hcn (Lib.hid (HC.out.later hB))).mono ?_
  rintro e w4 ⟨A7, n7, c7, rfl, hrow, hb⟩
  replace X3 := X3.later hb
  replace X4 := X4.later hb
  replace hB := hB.trans (hb.mono hB.size)
  clear hb
  obtain ⟨D7, hD7⟩ : ∃ D7, w3b.heap.size = D7 := ⟨_, rfl⟩
  rw [hD7] at hrow
  have HROW := Lib.hid hrow
  clear hrow hD7
  obtain ⟨X3c0, X3f0, X3c1, X3f1, X3c2, X3f2, X3c3, X3f3, X3c4, X3f4, X3c5, X3f5, X3c6, X3f6, X3c7, X3f7, X3c8, X3f8, X3c9, X3f9, X3c10, X3f10, X3c11, X3f11⟩ := X3.f12
  have X3z : w.heap.size < w4.heap.size := X3.lt
  have X4c0 : w4.cell? ⟨w.heap.size + 1, 0, none⟩ = some (.slice A n cp) := X4.cell 0
  have X4f0 : w4.frozen? ⟨w.heap.size + 1, 0, none⟩ = false := X4.free 0
  have X4z : w.heap.size + 1 < w4.heap.size := X4.lt
  go_wp2_with fail
  clear X3c0 X3f0 X3c1 X3f1 X3c2 X3f2 X3c3 X3f3 X3c4 X3f4 X3c5 X3f5 X3c6 X3f6 X3c7 X3f7 X3c8 X3f8 X3c9 X3f9 X3c10 X3f10 X3c11 X3f11 X3z
  clear X4c0 X4f0 X4z
  refine (bEsc_any p c _ _ _ _ hcn (Lib.hid (HC.out.later hB))).mono ?_
  rintro e w5 ⟨A10, n10, c10, rfl, hS, hb⟩
  have HROW5 := Lib.hid (OwnE.later HROW.out hb)
  clear HROW
  replace X3 := X3.later hb
  replace X4 := X4.later hb
  replace hB := hB.trans (hb.mono hB.size)
  clear hb
  have hSr := hS.rd
  clear hS
  obtain ⟨A9, c9, hV9, hlm9, hcw⟩ := hSr
  cases hV9
  obtain ⟨Ar, cr, hVr⟩ := ownE_form HROW5.out (fun _ => rfl)
  cases hVr
  have hsay := esc_says HASK.out
  have hinv : invT p c = (p.states.filter (fun s => !lostI p c s), !lostI p c p.beginT.1, 0) := if_pos HASK.out
  have hesc2 : (escT p c).2.2 = 0 := by
    unfold escT
    rw [if_pos HASK.out]
    split
    · split <;> rfl
    · rfl
  obtain ⟨way, hway⟩ : ∃ way, (escT p c).1 = way := ⟨_, rfl⟩
  rw [hinv] at HROW5 ⊢
  rw [hesc2, hsay.1]
  rw [hway] at hsay hlm9 hcw ⊢
  have HWC := Lib.hid hcw
  have HWL := Lib.hid hlm9
  obtain ⟨lo, hlo⟩ : ∃ lo, lostI p c p.beginT.1 = lo := ⟨_, rfl⟩
  obtain ⟨s1, s2, s3⟩ := hsay
  rw [s1, hlo] at s3
  rw [hlo]
  have HS3 := Lib.hid s3
  have HLO := Lib.hid hlo
  obtain ⟨nw, hnw⟩ : ∃ nw, way.length = nw := ⟨_, rfl⟩
  rw [hnw]
  have HNW := Lib.hid hnw
  clear s1 s2 s3 hlo hway hinv hesc2 hcw hlm9 hnw
  dsimp only at HROW5 ⊢
  obtain ⟨set, hset⟩ : ∃ set, p.states.filter (fun s => !lostI p c s) = set := ⟨_, rfl⟩
  rw [hset] at HROW5 ⊢
  obtain ⟨ns, hns⟩ : ∃ ns, set.length = ns := ⟨_, rfl⟩
  rw [hns] at HROW5 ⊢
  have HNS := Lib.hid hns
  have HSET := Lib.hid hset
  clear hns hset
  have hlo0 : lo = false := by
    rw [← HLO.out]
    exact cert_kept HASK.out HCC.out ((states_mem HV.out).2 (begin_has HV.out hck.out)) HCC.out.begin
  subst hlo0
  simp only [Bool.not_false]
  clear HS3 HWC HWL HNW
  go_upto_region 12 with fail
  have hmk : (Instr.makeMap 56 none).run Try.prog w5 = .ok (.map (some w5.heap.size)) (w5.alloc (.map #[] 0)) := rfl
  go_upto_region 13 with fail
  clear hmk
  have hM : LostM (w5.alloc (.map #[] 0)) w5.heap.size (memF []) := MapS.made w5
  have hb := (Below.refl w5.heap.size w5).alloc (Nat.le_refl _) (.map #[] 0)
  have hcs : w.heap.size ≤ w5.heap.size := hB.size
  have HR6 := Lib.hid (OwnE.later HROW5.out hb)
  replace X3 := X3.later hb
  replace X4 := X4.later hb
  replace hB := hB.trans (hb.mono hB.size)
  clear hb HROW5
  generalize w5.alloc (.map #[] 0) = w6 at hM X3 X4 hB HR6 ⊢
  generalize w5.heap.size = Bm at hM hcs ⊢
  have hns : Hid (ns ≤ 524288) := Lib.hid (by
    rw [← HNS.out, ← HSET.out]
    have h9 : (p.states.filter (fun s => !lostI p c s)).length ≤ p.states.length := List.length_filter_le _ _
    rw [states_len] at h9
    have h10 := hcn.out HASK.out
    omega)
  go_wp2_with fail
  go_loopw [97] (fun i wr => ∃ j : Nat, j ≤ ns ∧ i = .int .i64 j ∧ Below w.heap.size w wr ∧ Box wr w.heap.size [.int .i64 p.top, .int .i64 p.bank, .int .i64 p.siphon, .int .i64 p.start, .int .i64 p.positions, .int .i64 p.rate, .int .i64 p.step, .int .i64 p.pass, .int .i64 p.feed, .int .i64 p.pipe, .int .i64 p.orders, .int .i64 p.age] ∧ Box wr (w.heap.size + 1) [.slice A n cp] ∧ LostM wr Bm (memF (set.take j)) ∧ Hid (Row wr D7 (.slice A7 ns c7) set)) (fun i _ => ns - (intOf i).toNat)
  case atStart => exact ⟨0, Nat.zero_le _, rfl, hB, X3, X4, hM, HR6⟩
  case round =>
    clear hB X3 X4 hM HR6
    obtain ⟨j, hj, rfl, hB, X3, X4, hM, hR⟩ := hrel
    obtain ⟨wo, rfl⟩ : ∃ wo : World, wo = wr := ⟨_, rfl⟩
    have hns2 := hns.out
    rcases Nat.lt_or_ge j ns with hlt | hge
    · have e0 : (j : Int) < (ns : Int) := by omega
      have hjs : j < set.length := by rw [HNS.out]; exact hlt
      obtain ⟨g, hA7, _, hgl, t0, t1, t2, t3, t4, t5⟩ := ownSt_cells hR.out hjs
      have hsm : set[j] ∈ set := List.getElem_mem hjs
      have hsm2 : set[j] ∈ p.states := by
        have h9 : set[j] ∈ p.states.filter (fun s => !lostI p c s) := by rw [HSET.out]; exact hsm
        exact (List.mem_filter.1 h9).1
      have htk : memF (set.take (j + 1)) = updB (memF (set.take j)) set[j] := by
        rw [List.take_succ_eq_append_getElem hjs]
        exact memF_snoc _ _
      obtain ⟨s, hs⟩ : ∃ s, set[j] = s := ⟨_, rfl⟩
      rw [hs] at t0 t1 t2 t3 t4 t5 hsm2 htk
      have hsw := states_wide HV.out hsm2
      have HTK := Lib.hid htk
      subst hA7
      clear hs hjs hsm hsm2 htk
      obtain ⟨s0, s1, s2, s3, s4, s5⟩ := s
      dsimp only at t0 t1 t2 t3 t4 t5
      go_upto_region 16 with fail
      clear t0 t1 t2 t3 t4 t5 e0 hgl
      have hb := (Below.refl wo.heap.size wo).alloc (Nat.le_refl _) (.cells #[.int .i64 s0, .int .i64 s1, .int .i64 s2, .int .i64 s3, .int .i64 s4, .int .i64 s5] 30)
      have X23 := Box.new wo [.int .i64 s0, .int .i64 s1, .int .i64 s2, .int .i64 s3, .int .i64 s4, .int .i64 s5] 30
      replace X3 := X3.later hb
      replace X4 := X4.later hb
      replace hM := hM.later hb
      have hR2 := Lib.hid (OwnE.later hR.out hb)
      replace hB := hB.trans (hb.mono hB.size)
      clear hb hR
      generalize wo.alloc (.cells #[.int .i64 s0, .int .i64 s1, .int .i64 s2, .int .i64 s3, .int .i64 s4, .int .i64 s5] 30) = wp at X3 X4 X23 hM hR2 hB ⊢
      generalize wo.heap.size = B23 at X23 ⊢
      obtain ⟨wq, hput, hM2, hgq, -⟩ := hM.put Try.underlying56 hsw (.bool true)
      rw [updB_some, ← HTK.out] at hM2
      obtain ⟨X23c0, X23c1, X23c2, X23c3, X23c4, X23c5⟩ := X23.c6
      have z23 := X23.lt
      have hBq : Below w.heap.size w wq := hB.grown hgq hB.size (fun k hk => by cases hk; exact hcs)
      have X3q : Box wq w.heap.size [.int .i64 p.top, .int .i64 p.bank, .int .i64 p.siphon, .int .i64 p.start, .int .i64 p.positions, .int .i64 p.rate, .int .i64 p.step, .int .i64 p.pass, .int .i64 p.feed, .int .i64 p.pipe, .int .i64 p.orders, .int .i64 p.age] := X3.same (hgq.block _ X3.lt (fun e => hM.notBox X3 (Option.some.inj e)))
      have X4q : Box wq (w.heap.size + 1) [.slice A n cp] := X4.same (hgq.block _ X4.lt (fun e => hM.notBox X4 (Option.some.inj e)))
      obtain ⟨es9, cl9, hmb9⟩ := hM.block
      have hRq := Lib.hid (Row.kept hR2.out hgq (fun k hk e => by cases e; exact Row.cellsOnly hR2.out hk hmb9 rfl))
      go_wp2
      exact ⟨⟨j + 1, Nat.succ_le_of_lt hlt, by go_num, hBq, X3q, X4q, hM2, hRq⟩, by simp [intOf]; omega⟩
    obtain rfl : j = ns := by omega
    have e0 : ¬ (j : Int) < (j : Int) := by omega
    rw [List.take_of_length_le (by rw [HNS.out]; exact Nat.le_refl _)] at hM
    clear hR hge hj hns2
    have hcn2 : Hid (p.count ≤ 1048576) := Lib.hid (by have := count_le hck.out; omega)
    obtain ⟨X3c0, X3c1, X3c2, X3c3, X3c4, X3c5, X3c6, X3c7, X3c8, X3c9, X3c10, X3c11⟩ := X3.c12
    have X3z := X3.lt
    go_wp2_with fail
    refine (rbStates_any p HV hcn2 _).mono ?_
    rintro e w13 ⟨V20, rfl, B20, hB20, hO, hb⟩
    clear X3c0 X3c1 X3c2 X3c3 X3c4 X3c5 X3c6 X3c7 X3c8 X3c9 X3c10 X3c11 X3z e0 hcn2 hB20
    replace X3 := X3.later hb
    replace X4 := X4.later hb
    replace hM := hM.later hb
    replace hB := hB.trans (hb.mono hB.size)
    clear hb
    obtain ⟨A20, c20, hV20⟩ := ownE_form hO (fun _ => rfl)
    subst hV20
    rw [states_len] at hO ⊢
    obtain ⟨N, hN⟩ : ∃ N, p.count = N := ⟨_, rfl⟩
    rw [hN] at hO ⊢
    have hN2 : N ≤ 4096 := by rw [← hN]; exact count_le hck.out
    have HN := Lib.hid hN
    have HN2 := Lib.hid hN2
    have HO20 := Lib.hid hO
    clear hN hO hN2
    go_wp2_with fail
    go_loopw [107] (fun i wr => ∃ q : Nat, q ≤ N ∧ i = .int .i64 q ∧ Below w13.heap.size w13 wr) (fun i _ => N - (intOf i).toNat)
    case atStart => exact ⟨0, Nat.zero_le _, rfl, Below.refl _ _⟩
    case round =>
      obtain ⟨q, hq, rfl, hbr⟩ := hrel
      obtain ⟨wi, rfl⟩ : ∃ wi : World, wi = wr := ⟨_, rfl⟩
      have hN2 := HN2.out
      rcases Nat.lt_or_ge q N with hlt | hge
      · have e0 : (q : Int) < (N : Int) := by omega
        have hjs : q < p.states.length := by rw [states_len, HN.out]; exact hlt
        have hO2 : OwnSt w13 B20 (.slice A20 p.states.length c20) p.states := by rw [states_len, HN.out]; exact HO20.out
        obtain ⟨g, hA20, _, hgl, t0, t1, t2, t3, t4, t5⟩ := ownSt_cells hO2 hjs
        have hsm : p.states[q] ∈ p.states := List.getElem_mem hjs
        obtain ⟨s, hs⟩ : ∃ s, p.states[q] = s := ⟨_, rfl⟩
        rw [hs] at t0 t1 t2 t3 t4 t5 hsm
        have hnm := (states_nums HV.out hsm).out
        have hh1 : Hid (holdsT bar s = (inB bar s, 0)) := Lib.hid (holds_ofL HBT.out hnm)
        have hmem : Hid (inB bar s = true → memF set s = true) := Lib.hid (fun h9 => by
          unfold memF
          rw [← HSET.out]
          exact decide_eq_true (List.mem_filter.2 ⟨hsm, by rw [cert_kept HASK.out HCC.out hsm h9]; rfl⟩))
        have hsw := states_wide HV.out hsm
        subst hA20
        clear hs hjs hO2 hsm hnm
        obtain ⟨s0, s1, s2, s3, s4, s5⟩ := s
        dsimp only at t0 t1 t2 t3 t4 t5
        have t0 := (hbr.cell hgl).trans t0
        have t1 := (hbr.cell hgl).trans t1
        have t2 := (hbr.cell hgl).trans t2
        have t3 := (hbr.cell hgl).trans t3
        have t4 := (hbr.cell hgl).trans t4
        have t5 := (hbr.cell hgl).trans t5
        have hgz := Nat.lt_of_lt_of_le hgl hbr.size
        go_upto_region 21 with fail
        clear t0 t1 t2 t3 t4 t5 hgl hgz e0
        have hb := (Below.refl wi.heap.size wi).alloc (Nat.le_refl _) (.cells #[.int .i64 s0, .int .i64 s1, .int .i64 s2, .int .i64 s3, .int .i64 s4, .int .i64 s5] 30)
        have X22 := Box.new wi [.int .i64 s0, .int .i64 s1, .int .i64 s2, .int .i64 s3, .int .i64 s4, .int .i64 s5] 30
        have hMx := (hM.later hbr).later hb
        have hBx := (hB.trans (hbr.mono hB.size)).trans (hb.mono (Nat.le_trans hB.size hbr.size))
        have hbr2 := hbr.trans (hb.mono hbr.size)
        clear hb
        generalize wi.alloc (.cells #[.int .i64 s0, .int .i64 s1, .int .i64 s2, .int .i64 s3, .int .i64 s4, .int .i64 s5] 30) = wp at X22 hMx hbr2 hBx ⊢
        generalize wi.heap.size = B22 at X22 ⊢
        obtain ⟨X22c0, X22c1, X22c2, X22c3, X22c4, X22c5⟩ := X22.c6
        have z22 := X22.lt
        go_wp2_with fail
        refine (bHolds_is hh1 (HQ.out.later hBx)).mono ?_
        rintro e wq ⟨rfl, hb⟩
        clear X22c0 X22c1 X22c2 X22c3 X22c4 X22c5 z22 hh1
        have hbr3 := hbr2.trans (hb.mono hbr2.size)
        replace X22 := X22.later hb
        have hlk := lost_look (hMx.later hb) hsw
        clear hb hMx
        obtain ⟨i1, hi1⟩ : ∃ i1, inB bar ⟨s0, s1, s2, s3, s4, s5⟩ = i1 := ⟨_, rfl⟩
        rw [hi1] at hmem ⊢
        clear hi1
        obtain ⟨X22c0, X22c1, X22c2, X22c3, X22c4, X22c5⟩ := X22.c6
        have z22 := X22.lt
        cases i1 with
        | true =>
          rw [hmem.out rfl] at hlk
          go_wp2
          exact ⟨⟨q + 1, Nat.succ_le_of_lt hlt, by go_num, hbr3⟩, by simp [intOf]; omega⟩
        | false =>
          clear hlk
          go_wp2
          exact ⟨⟨q + 1, Nat.succ_le_of_lt hlt, by go_num, hbr3⟩, by simp [intOf]; omega⟩
      obtain rfl : q = N := by omega
      have e0 : ¬ (q : Int) < (q : Int) := by omega
      replace X3 := X3.later hbr
      replace X4 := X4.later hbr
      replace hM := hM.later hbr
      replace hB := hB.trans (hbr.mono hB.size)
      go_upto_region 26 with fail
      clear e0 HO20 hbr hq hge hN2
      clear hM
      have hO0 : Hid (OwnSh wi wi.heap.size (.slice none 0 0) []) := Lib.hid (ownE_nil _ _ _ _ _)
      have hnl := H60.out
      go_wp2_with fail
      go_loopw [131, 25] (fun i V wr => ∃ (j2 : Nat) (acc : List Sh) (Av : Option Addr) (nv cv : Nat), j2 ≤ nl ∧ i = .int .i64 j2 ∧ V = .slice Av nv cv ∧ Below wi.heap.size wi wr ∧ Hid (OwnSh wr wi.heap.size (.slice Av nv cv) acc) ∧ Hid (acc.length = j2) ∧ Hid (∀ x ∈ acc, x ∈ p.shocks)) (fun i _ _ => nl - (intOf i).toNat)
      case atStart => exact ⟨0, [], none, 0, 0, Nat.zero_le _, rfl, rfl, Below.refl _ _, hO0, Lib.hid rfl, Lib.hid (fun x hx => by cases hx)⟩
      case round =>
        clear hO0
        obtain ⟨j2, acc, Av, nv, cv, hj2, rfl, rfl, hbr, hO, hal, hax⟩ := hrel
        obtain ⟨wj, rfl⟩ : ∃ wj : World, wj = wr := ⟨_, rfl⟩
        rcases Nat.lt_or_ge j2 nl with hlt | hge
        · have e0 : (j2 : Int) < (nl : Int) := by omega
          obtain ⟨g, off, hAl, hgl, q0, q1⟩ := HL.out.at (k := j2) (by rw [HNL.out]; exact hlt)
          subst hAl
          generalize l[j2]'(by rw [HNL.out]; exact hlt) = x at q0 q1
          obtain ⟨x0, x1⟩ := x
          dsimp only at q0 q1
          have hBi := hB.trans (hbr.mono hB.size)
          have q0 := (hBi.cell hgl).trans q0
          have q1 := (hBi.cell hgl).trans q1
          have hgz := Nat.lt_of_lt_of_le hgl hBi.size
          clear hgl hBi
          go_upto_region 29 with fail
          clear q0 q1 hgz e0
          have hb := (Below.refl wj.heap.size wj).alloc (Nat.le_refl _) (.cells #[.int .i64 x0, .int .i64 x1] 37)
          have X26 := Box.new wj [.int .i64 x0, .int .i64 x1] 37
          have X3i := (X3.later hbr).later hb
          have hO2 := Lib.hid (OwnE.later hO.out hb)
          have hbr2 := hbr.trans (hb.mono hbr.size)
          clear hb hO
          generalize wj.alloc (.cells #[.int .i64 x0, .int .i64 x1] 37) = wp at X3i X26 hO2 hbr2 ⊢
          generalize wj.heap.size = B26 at X26 ⊢
          obtain ⟨X3ic0, X3ic1, X3ic2, X3ic3, X3ic4, X3ic5, X3ic6, X3ic7, X3ic8, X3ic9, X3ic10, X3ic11⟩ := X3i.c12
          obtain ⟨X26c0, X26c1⟩ := X26.c2
          have z3 := X3i.lt
          have z26 := X26.lt
          go_wp2_with fail
          refine (lPoss_any p ⟨x0, x1⟩ _ HV).mono ?_
          rintro e wq ⟨⟨y0, y1⟩, rfl, hym, hb⟩
          clear X3ic0 X3ic1 X3ic2 X3ic3 X3ic4 X3ic5 X3ic6 X3ic7 X3ic8 X3ic9 X3ic10 X3ic11 z3 X26c0 X26c1 z26
          have hO3 := OwnE.later hO2.out hb
          have hbr3 := hbr2.trans (hb.mono hbr2.size)
          clear hb hO2
          have hbA := (Below.refl wq.heap.size wq).alloc (Nat.le_refl _) (.cells #[.int .i64 y0, .int .i64 y1] 37)
          have XL : Box (wq.alloc (.cells #[.int .i64 y0, .int .i64 y1] 37)) wq.heap.size (Sh.cells ⟨y0, y1⟩) := Box.new wq [.int .i64 y0, .int .i64 y1] 37
          have hO4 := OwnE.later hO3 hbA
          have hbr4 := hbr3.trans (hbA.mono hbr3.size)
          obtain ⟨g', c', wA, hr, hO5, hgA, -⟩ := run_appH 47 (s := ⟨y0, y1⟩) hO4 XL hbr4.size (by rw [hal.out]; omega)
          rw [hal.out] at hr hO5
          have hbr5 : Below wi.heap.size wi wA := hbr4.trans ⟨hgA.os, hgA.tape, hgA.output, hgA.size, fun k hk => hgA.block k (Nat.lt_of_lt_of_le hk hbr4.size) (fun e => by have := (World.ownsRow.lt hO4 _ e.symm).1; omega)⟩
          have HO5 := Lib.hid hO5
          have HYM : Hid (∀ x ∈ acc ++ [(⟨y0, y1⟩ : Sh)], x ∈ p.shocks) := Lib.hid (fun x hx => by
            rcases List.mem_append.1 hx with h9 | h9
            · exact hax.out x h9
            · rw [List.mem_singleton.1 h9]
              exact hym)
          have HAL : Hid ((acc ++ [(⟨y0, y1⟩ : Sh)]).length = j2 + 1) := Lib.hid (by rw [List.length_append, hal.out]; rfl)
          clear hO5 hO4 hO3 hbA XL hgA hbr4 hbr3 hym X3i X26
          go_wp2
          exact ⟨⟨j2 + 1, acc ++ [(⟨y0, y1⟩ : Sh)], _, _, _, Nat.succ_le_of_lt hlt, by go_num, rfl, hbr5, HO5, HAL, HYM⟩, by simp [intOf]; omega⟩
        obtain rfl : j2 = nl := by omega
        have e0 : ¬ (j2 : Int) < (j2 : Int) := by omega
        replace X3 := X3.later hbr
        replace X4 := X4.later hbr
        replace hB := hB.trans (hbr.mono hB.size)
        have hrd : ShRd wj (.slice Av nv cv) acc := OwnSh.rd hO.out (by rw [hal.out]; omega)
        obtain ⟨X3c0, X3c1, X3c2, X3c3, X3c4, X3c5, X3c6, X3c7, X3c8, X3c9, X3c10, X3c11⟩ := X3.c12
        have X4c0 : wj.cell? ⟨w.heap.size + 1, 0, none⟩ = some (.slice A n cp) := X4.cell 0
        have X3z := X3.lt
        have X4z := X4.lt
        go_wp2_with fail
        refine (lPlay_any p c _ _ _ _ acc _ HASK (Lib.hid (HC.out.later hB)) hrd hax).mono ?_
        rintro e w7 ⟨A15, n15, c15, rfl, hO7, hb⟩
        clear X3c0 X3c1 X3c2 X3c3 X3c4 X3c5 X3c6 X3c7 X3c8 X3c9 X3c10 X3c11 X4c0 X3z X4z e0 hrd hO
        replace X3 := X3.later hb
        replace hB := hB.trans (hb.mono hB.size)
        clear hb X4 hbr hj2
        have hbm := (states_mem HV.out).2 (begin_has HV.out hck.out)
        have hin := go_in HASK.out acc p.beginT.1 hbm hax.out
        have hkp := go_kept HASK.out acc p.beginT.1 hbm HLO.out hax.out
        have hbb := go_bar HASK.out HCC.out acc p.beginT.1 hbm HCC.out.begin hax.out
        have hgl := go_len p c acc p.beginT.1
        rw [hal.out] at hgl
        obtain ⟨T, hT⟩ : ∃ T, goT p c p.beginT.1 acc = T := ⟨_, rfl⟩
        rw [hT] at hin hkp hgl hO7 hbb
        obtain ⟨A', c', hV⟩ := ownE_form hO7 (fun _ => rfl)
        cases hV
        rw [hgl]
        have HIN := Lib.hid hin
        have HKP := Lib.hid hkp
        have HBB := Lib.hid hbb
        have HGL := Lib.hid hgl
        have HO := Lib.hid hO7
        clear hbm hin hkp hbb hgl hO7 hT hal hax
        go_wp2_with fail
        go_loopw [153] (fun i wr => ∃ j : Nat, j ≤ j2 + 1 ∧ i = .int .i64 j ∧ Below w7.heap.size w7 wr) (fun i _ => j2 + 1 - (intOf i).toNat)
        case atStart => exact ⟨0, Nat.zero_le _, rfl, Below.refl _ _⟩
        case round =>
          obtain ⟨j3, hj, rfl, hbr⟩ := hrel
          obtain ⟨wx, rfl⟩ : ∃ wx : World, wx = wr := ⟨_, rfl⟩
          rcases Nat.lt_or_ge j3 (j2 + 1) with hlt | hge
          rotate_left
          · obtain rfl : j3 = j2 + 1 := by omega
            have e0 : ¬ ((j2 + 1 : Nat) : Int) < ((j2 + 1 : Nat) : Int) := by omega
            go_wp2
            go_ret
            exact ⟨rfl, hB.trans (hbr.mono hB.size)⟩
          have e0 : (j3 : Int) < ((j2 + 1 : Nat) : Int) := by omega
          have hjs : j3 < T.length := by rw [HGL.out]; exact hlt
          obtain ⟨g, hA, _, hgl, t0, t1, t2, t3, t4, t5⟩ := ownSt_cells HO.out hjs
          have hsm := HIN.out _ (List.getElem_mem hjs)
          have hsl := HKP.out _ (List.getElem_mem hjs)
          obtain ⟨s, hs⟩ : ∃ s, T[j3] = s := ⟨_, rfl⟩
          rw [hs] at t0 t1 t2 t3 t4 t5 hsm hsl
          have hsf := (kept_says HASK.out hsm hsl).1
          have hnm := (states_nums HV.out hsm).out
          have hbt := HBB.out s (by rw [← hs]; exact List.getElem_mem hjs)
          have hh1 : Hid (holdsT bar s = (true, 0)) := Lib.hid (by rw [holds_ofL HBT.out hnm, hbt])
          have hsi := safe_in hck.out (states_has HV.out hsm)
          rw [hsi] at hsf
          dsimp only at hsf
          rw [hsf] at hsi
          have HSI := Lib.hid hsi
          subst hA
          clear hs hjs hsm hsl hsf hsi hnm hbt
          obtain ⟨s0, s1, s2, s3, s4, s5⟩ := s
          dsimp only at t0 t1 t2 t3 t4 t5
          have t0 := (hbr.cell hgl).trans t0
          have t1 := (hbr.cell hgl).trans t1
          have t2 := (hbr.cell hgl).trans t2
          have t3 := (hbr.cell hgl).trans t3
          have t4 := (hbr.cell hgl).trans t4
          have t5 := (hbr.cell hgl).trans t5
          have hgz := Nat.lt_of_lt_of_le hgl hbr.size
          go_upto_region 37 with fail
          clear t0 t1 t2 t3 t4 t5 hgl hgz e0
          have hb := (Below.refl wx.heap.size wx).alloc (Nat.le_refl _) (.cells #[.int .i64 s0, .int .i64 s1, .int .i64 s2, .int .i64 s3, .int .i64 s4, .int .i64 s5] 30)
          have X30 := Box.new wx [.int .i64 s0, .int .i64 s1, .int .i64 s2, .int .i64 s3, .int .i64 s4, .int .i64 s5] 30
          replace X3 := (X3.later hbr).later hb
          have hBx := (hB.trans (hbr.mono hB.size)).trans (hb.mono (Nat.le_trans hB.size hbr.size))
          have hbr2 := hbr.trans (hb.mono hbr.size)
          clear hb
          generalize wx.alloc (.cells #[.int .i64 s0, .int .i64 s1, .int .i64 s2, .int .i64 s3, .int .i64 s4, .int .i64 s5] 30) = wp at X3 X30 hBx hbr2 ⊢
          generalize wx.heap.size = B30 at X30 ⊢
          obtain ⟨X30c0, X30c1, X30c2, X30c3, X30c4, X30c5⟩ := X30.c6
          have z30 := X30.lt
          go_wp2_with fail
          refine (bHolds_is hh1 (HQ.out.later hBx)).mono ?_
          rintro e wq ⟨rfl, hb⟩
          clear X30c0 X30c1 X30c2 X30c3 X30c4 X30c5 z30 hh1
          have hbr3 := hbr2.trans (hb.mono hbr2.size)
          replace X30 := X30.later hb
          replace X3 := X3.later hb
          clear hb
          obtain ⟨X3c0, X3c1, X3c2, X3c3, X3c4, X3c5, X3c6, X3c7, X3c8, X3c9, X3c10, X3c11⟩ := X3.c12
          obtain ⟨X30c0, X30c1, X30c2, X30c3, X30c4, X30c5⟩ := X30.c6
          have z3 := X3.lt
          have z30 := X30.lt
          go_wp2_with fail
          refine (safe_is HSI).mono ?_
          rintro e wy ⟨rfl, hb⟩
          clear X3c0 X3c1 X3c2 X3c3 X3c4 X3c5 X3c6 X3c7 X3c8 X3c9 X3c10 X3c11 z3 X30c0 X30c1 X30c2 X30c3 X30c4 X30c5 z30
          have hbr4 := hbr3.trans (hb.mono hbr3.size)
          clear hb
          have hnl3 := H60.out
          go_wp2
          exact ⟨⟨j3 + 1, Nat.succ_le_of_lt hlt, by go_num, hbr4⟩, by simp [intOf]; omega⟩
end Go.Proofs.Ytancngachnpefaa
