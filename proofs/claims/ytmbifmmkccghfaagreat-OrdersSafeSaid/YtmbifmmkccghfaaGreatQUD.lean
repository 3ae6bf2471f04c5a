/- OrdersSafe. (Printed by gen_ud.py and pp.py.) No condition. -/
import Derived.Test.YtmbifmmkccghfaaGreatQK
import Derived.Test.YtmbifmmkccghfaaGreatQRQ
import Derived.Test.YtmbifmmkccghfaaGreatQVE
import Derived.Test.YtmbifmmkccghfaaGreatQUC
import Derived.Test.YtmbifmmkccghfaaGreatQVF
import Derived.Test.YtmbifmmkccghfaaGreatQVG
import Derived.Test.YtmbifmmkccghfaaGreatQBR
import Derived.Test.YtmbifmmkccghfaaGreatQBG
set_option linter.unusedVariables false
set_option linter.unusedSimpArgs false
set_option maxRecDepth 100000
set_option maxHeartbeats 16000000
namespace Go.Proofs.YtmbifmmkccghfaaGreat
open Go.RowKit Go.Shelf
attribute [local go_sem] Oper.semAt_some
theorem hid_code {w w' : World} {V : Value} {l : List Ln} (h : Hid (CodeAt w w.heap.size V l)) (hb : Below w.heap.size w w') : Hid (CodeAt w' w'.heap.size V l) := h.out.later hb
theorem hid_bar {w w' : World} {V : Value} {l : List Iq} (h : Hid (BarAt w w.heap.size V l)) (hb : Below w.heap.size w w') : Hid (BarAt w' w'.heap.size V l) := h.out.later hb
theorem hid_oms {w w' : World} {V : Value} {l : List Om} (h : Hid (OmsAt w w.heap.size V l)) (hb : Below w.heap.size w w') : Hid (OmsAt w' w'.heap.size V l) := ⟨Sl.later h.out.1 hb, h.out.2⟩
theorem law_Safe_go (p : Pl) (code : List Ln) (A : Option Addr) (nl cl : Nat) (k : List Iq) (A2 : Option Addr) (nk ck : Nat) (gts gt0 : Int) (ms : List Om) (A3 : Option Addr) (nm cm : Nat) (w : World) (hC0 : Hid (CodeAt w w.heap.size (.slice A nl cl) code)) (hQ0 : Hid (BarAt w w.heap.size (.slice A2 nk ck) k)) (hM0 : Hid (OmsAt w w.heap.size (.slice A3 nm cm) ms)) (hml : Hid (ms.length = nm)) (hmm : nm ≤ 9223372036854775807) (hg : 0 ≤ gts ∧ gts ≤ 255) (hg0 : 0 ≤ gt0 ∧ gt0 ≤ 255) :
    Calls Tryz.prog 3 #[.agg #[.int .i64 p.top, .int .i64 p.bank, .int .i64 p.siphon, .int .i64 p.start, .int .i64 p.positions, .int .i64 p.rate, .int .i64 p.step, .int .i64 p.pass, .int .i64 p.feed, .int .i64 p.pipe, .int .i64 p.orders, .int .i64 p.age], .agg #[.slice A nl cl], .slice A2 nk ck, .int .u8 gts, .int .u8 gt0, .slice A3 nm cm] w fun e w' => e = .returned (.bool true) ∧ Below w.heap.size w w' := by
  have hB := Below.refl w.heap.size w
  have hC := hC0
  have hQ := hQ0
  have hM := hM0
  obtain ⟨ok, f, er, hct⟩ : ∃ ok f er, certT p code k = (ok, f, er) := ⟨_, _, _, rfl⟩
  have HCT := Lib.hid hct
  clear hct
  go_enter Tryz.func3, Tryz.ntmps3
  go_wp2_with fail
  have hB := ((Below.refl w.heap.size w).alloc (Nat.le_refl _) (.cells #[.int .i64 p.top, .int .i64 p.bank, .int .i64 p.siphon, .int .i64 p.start, .int .i64 p.positions, .int .i64 p.rate, .int .i64 p.step, .int .i64 p.pass, .int .i64 p.feed, .int .i64 p.pipe, .int .i64 p.orders, .int .i64 p.age] 23)).alloc (by simp) (.cells #[.slice A nl cl] 26)
  have XP := (Box.new w [.int .i64 p.top, .int .i64 p.bank, .int .i64 p.siphon, .int .i64 p.start, .int .i64 p.positions, .int .i64 p.rate, .int .i64 p.step, .int .i64 p.pass, .int .i64 p.feed, .int .i64 p.pipe, .int .i64 p.orders, .int .i64 p.age] 23).alloc (.cells #[.slice A nl cl] 26)
  have XC := Box.newAt (w := w.alloc (.cells #[.int .i64 p.top, .int .i64 p.bank, .int .i64 p.siphon, .int .i64 p.start, .int .i64 p.positions, .int .i64 p.rate, .int .i64 p.step, .int .i64 p.pass, .int .i64 p.feed, .int .i64 p.pipe, .int .i64 p.orders, .int .i64 p.age] 23)) (n := w.heap.size + 1) [.slice A nl cl] 26 (by simp)
  replace hC := hid_code hC hB
  replace hQ := hid_bar hQ hB
  replace hM := hid_oms hM hB
  generalize (w.alloc (.cells #[.int .i64 p.top, .int .i64 p.bank, .int .i64 p.siphon, .int .i64 p.start, .int .i64 p.positions, .int .i64 p.rate, .int .i64 p.step, .int .i64 p.pass, .int .i64 p.feed, .int .i64 p.pipe, .int .i64 p.orders, .int .i64 p.age] 23)).alloc (.cells #[.slice A nl cl] 26) = w1 at hB XP XC hC hQ hM ⊢
  refine (oSaneV_any _).mono ?_
  rintro e w2 ⟨rfl, hb⟩
  replace XP := XP.later hb
  replace XC := XC.later hb
  replace hC := hid_code hC hb
  replace hQ := hid_bar hQ hb
  replace hM := hid_oms hM hb
  replace hB := hB.trans (hb.mono hB.size)
  clear hb
  by_cases h60 : 60 < nm
  · have e0 : (60 : Int) < (nm : Int) := by omega
    go_wp2
    go_ret
    exact ⟨rfl, hB⟩
  have e0 : ¬ (60 : Int) < (nm : Int) := by omega
  obtain ⟨XPc0, XPc1, XPc2, XPc3, XPc4, XPc5, XPc6, XPc7, XPc8, XPc9, XPc10, XPc11⟩ := XP.c12
  have XPz := XP.lt
  have XCc0 : w2.cell? ⟨w.heap.size + 1, 0, none⟩ = some (.slice A nl cl) := XC.cell 0
  have XCz := XC.lt
  go_wp2_with fail
  clear XPc0 XPc1 XPc2 XPc3 XPc4 XPc5 XPc6 XPc7 XPc8 XPc9 XPc10 XPc11 XPz
  clear XCc0 XCz
  refine (zFew_is hC.out hQ.out).mono ?_
  rintro e w3 ⟨tf, rfl, hb⟩
  replace XP := XP.later hb
  replace XC := XC.later hb
  replace hC := hid_code hC hb
  replace hQ := hid_bar hQ hb
  replace hM := hid_oms hM hb
  replace hB := hB.trans (hb.mono hB.size)
  clear hb
  cases tf with
  | false =>
    go_wp2
    go_ret
    exact ⟨rfl, hB⟩
  | true =>
  clear e0
  obtain ⟨XPc0, XPc1, XPc2, XPc3, XPc4, XPc5, XPc6, XPc7, XPc8, XPc9, XPc10, XPc11⟩ := XP.c12
  have XPz := XP.lt
  have XCc0 : w3.cell? ⟨w.heap.size + 1, 0, none⟩ = some (.slice A nl cl) := XC.cell 0
  have XCz := XC.lt
  go_wp2_with fail
  clear XPc0 XPc1 XPc2 XPc3 XPc4 XPc5 XPc6 XPc7 XPc8 XPc9 XPc10 XPc11 XPz
  clear XCc0 XCz
  refine (bCert_is HCT hC.out hQ.out).mono ?_
  rintro e w4 ⟨rfl, hb⟩
  replace XP := XP.later hb
  replace XC := XC.later hb
  replace hC := hid_code hC hb
  replace hQ := hid_bar hQ hb
  replace hM := hid_oms hM hb
  replace hB := hB.trans (hb.mono hB.size)
  clear hb
  by_cases her : er = 0
  rotate_left
  · have e1 : (er != 0) = true := by simp [her]
    have hst := (Below.refl w4.heap.size w4).alloc (Nat.le_refl _) (.cells #[.int .i64 f.kind, .int .i64 f.st.level, .int .i64 f.st.position, .int .i64 f.st.p0, .int .i64 f.st.p1, .int .i64 f.st.order, .int .i64 f.st.age, .int .i64 f.sh.feed, .int .i64 f.sh.msg] 37)
    replace hB := hB.trans (hst.mono hB.size)
    go_wp2
    go_ret
    exact ⟨rfl, hB⟩
  subst her
  cases ok with
  | false =>
    have hst := (Below.refl w4.heap.size w4).alloc (Nat.le_refl _) (.cells #[.int .i64 f.kind, .int .i64 f.st.level, .int .i64 f.st.position, .int .i64 f.st.p0, .int .i64 f.st.p1, .int .i64 f.st.order, .int .i64 f.st.age, .int .i64 f.sh.feed, .int .i64 f.sh.msg] 37)
    replace hB := hB.trans (hst.mono hB.size)
    go_wp2
    go_ret
    exact ⟨rfl, hB⟩
  | true =>
  obtain ⟨hask, hbar⟩ := cert_err0.1 (show (certT p code k).2.2 = 0 by rw [HCT.out])
  have hCert := Lib.hid ((cert_iff hask hbar).1 (by rw [HCT.out]))
  have hv := (Pl.check_zero (ask_parts hask).1).1
  have ho0 := hv.orders
  have hf0 := hv.feed
  have hbeg := Lib.hid (begin_has' (ask_parts hask).1).2
  replace hask := Lib.hid hask
  replace hbar := Lib.hid hbar
  clear hv
  obtain ⟨s0, hs0⟩ : ∃ s0, p.beginT.1 = s0 := ⟨_, rfl⟩
  have hb0 : Hid (p.beginT = (s0, 0)) := by rw [Hid, ← hs0, ← hbeg.out]
  have hR0 : Hid (RunAt p k s0) := by rw [Hid, ← hs0]; exact run_begin hask.out hCert.out
  clear hs0 hbeg
  obtain ⟨g8, hg8⟩ : ∃ g8 : Nat, gts % 8 = (g8 : Int) := ⟨(gts % 8).toNat, by omega⟩
  have hg7 : g8 ≤ 7 := by omega
  obtain ⟨gi, hgi⟩ : ∃ gi : Nat, gt0 % (1 + (g8 : Int)) = (gi : Int) := ⟨(gt0 % (1 + (g8 : Int))).toNat, by have := Int.emod_nonneg gt0 (show (1 + (g8 : Int)) ≠ 0 by omega); omega⟩
  have hgl : gi < g8 + 1 := by have := Int.emod_lt_of_pos gt0 (show (0 : Int) < 1 + (g8 : Int) by omega); omega
  have hnew : Hid (newB (1 + (g8 : Int)) = (⟨Net.zero, [], List.replicate (g8 + 1) 0, List.replicate (g8 + 1) false⟩, 0)) := by
    rw [Hid, show 1 + (g8 : Int) = ((g8 + 1 : Nat) : Int) by omega]
    exact (new_ok (by omega) (by omega)).1
  go_upto_region 8 with fail
  have hb := (Below.refl w4.heap.size w4).alloc (Nat.le_refl _) (.cells #[.int .i64 f.kind, .int .i64 f.st.level, .int .i64 f.st.position, .int .i64 f.st.p0, .int .i64 f.st.p1, .int .i64 f.st.order, .int .i64 f.st.age, .int .i64 f.sh.feed, .int .i64 f.sh.msg] 37)
  replace XP := XP.later hb
  replace XC := XC.later hb
  replace hC := hid_code hC hb
  replace hQ := hid_bar hQ hb
  replace hM := hid_oms hM hb
  replace hB := hB.trans (hb.mono hB.size)
  clear hb
  generalize w4.alloc (.cells #[.int .i64 f.kind, .int .i64 f.st.level, .int .i64 f.st.position, .int .i64 f.st.p0, .int .i64 f.st.p1, .int .i64 f.st.order, .int .i64 f.st.age, .int .i64 f.sh.feed, .int .i64 f.sh.msg] 37) = w5 at XP XC hC hQ hM hB ⊢
  go_wp2_with fail
  refine (oNew_any (1 + (g8 : Int)) _ hnew).mono ?_
  rintro e w6 hh
  obtain ⟨Aqb, nqb, cqb, Aab, nab, cab, Asb, nsb, csb, Ahb, nhb, chb, Afb, nfb, cfb, rfl, hX, hb⟩ := hh.sl1
  replace XP := XP.later hb
  replace XC := XC.later hb
  replace hC := hid_code hC hb
  replace hQ := hid_bar hQ hb
  replace hM := hid_oms hM hb
  replace hB := hB.trans (hb.mono hB.size)
  clear hb
  clear hC hQ hM
  have hGB : w.heap.size + 1 < w6.heap.size := XC.lt
  go_upto_region 11 with fail
  have hb := (Below.refl w6.heap.size w6).alloc (Nat.le_refl _) (.cells #[.slice Aqb nqb cqb, .slice Aab nab cab, .slice Asb nsb csb, .slice Ahb nhb chb, .slice Afb nfb cfb] 49)
  have XB := Box.new w6 [.slice Aqb nqb cqb, .slice Aab nab cab, .slice Asb nsb csb, .slice Ahb nhb chb, .slice Afb nfb cfb] 49
  replace XP := XP.later hb
  replace XC := XC.later hb
  replace hX := hid_bx hX hb
  replace hB := hB.trans (hb.mono hB.size)
  clear hb
  generalize w6.alloc (.cells #[.slice Aqb nqb cqb, .slice Aab nab cab, .slice Asb nsb csb, .slice Ahb nhb chb, .slice Afb nfb cfb] 49) = w7 at XP XC XB hX hB ⊢
  generalize w6.heap.size = GB at XB hGB ⊢
  obtain ⟨XPc0, XPc1, XPc2, XPc3, XPc4, XPc5, XPc6, XPc7, XPc8, XPc9, XPc10, XPc11⟩ := XP.c12
  have XPz := XP.lt
  have XCc0 : w7.cell? ⟨w.heap.size + 1, 0, none⟩ = some (.slice A nl cl) := XC.cell 0
  have XCz := XC.lt
  go_wp2_with fail
  clear XPc0 XPc1 XPc2 XPc3 XPc4 XPc5 XPc6 XPc7 XPc8 XPc9 XPc10 XPc11 XPz
  clear XCc0 XCz
  refine (begin_is hb0).mono ?_
  rintro e w8 ⟨rfl, hb⟩
  replace XP := XP.later hb
  replace XC := XC.later hb
  replace XB := XB.later hb
  replace hX := hid_bx hX hb
  replace hB := hB.trans (hb.mono hB.size)
  clear hb
  have hGS : GB < w8.heap.size := XB.lt
  go_upto_region 12 with fail
  have hSep := Sep.low hX.out (Nat.le_refl _)
  have hb := (Below.refl w8.heap.size w8).alloc (Nat.le_refl _) (.cells #[.int .i64 s0.level, .int .i64 s0.position, .int .i64 s0.p0, .int .i64 s0.p1, .int .i64 s0.order, .int .i64 s0.age] 33)
  have XS := Box.new w8 [.int .i64 s0.level, .int .i64 s0.position, .int .i64 s0.p0, .int .i64 s0.p1, .int .i64 s0.order, .int .i64 s0.age] 33
  replace XP := XP.later hb
  replace XC := XC.later hb
  replace XB := XB.later hb
  replace hX := hid_bx hX hb
  replace hB := hB.trans (hb.mono hB.size)
  clear hb
  generalize w8.alloc (.cells #[.int .i64 s0.level, .int .i64 s0.position, .int .i64 s0.p0, .int .i64 s0.p1, .int .i64 s0.order, .int .i64 s0.age] 33) = w9 at XP XC XB XS hX hB ⊢
  generalize w8.heap.size = GS at XS hGS hSep ⊢
  replace hSep := Lib.hid hSep
  obtain ⟨XPc0, XPc1, XPc2, XPc3, XPc4, XPc5, XPc6, XPc7, XPc8, XPc9, XPc10, XPc11⟩ := XP.c12
  have XPz := XP.lt
  have XCc0 : w9.cell? ⟨w.heap.size + 1, 0, none⟩ = some (.slice A nl cl) := XC.cell 0
  have XCz := XC.lt
  have e2 : ¬ p.orders < 0 := by omega
  have e3 : ¬ p.feed < 0 := by omega
  go_upto_region 15 with fail
  clear XPc0 XPc1 XPc2 XPc3 XPc4 XPc5 XPc6 XPc7 XPc8 XPc9 XPc10 XPc11 XPz
  clear XCc0 XCz
  clear e2 e3
  go_loopw [95] (fun i wr => ∃ (j : Nat) (b : Bx) (st : St) (Aq1 : Option Addr) (nq1 cq1 : Nat) (Aa1 : Option Addr) (na1 ca1 : Nat) (As1 : Option Addr) (ns1 cs1 : Nat) (Ah1 : Option Addr) (nh1 ch1 : Nat) (Af1 : Option Addr) (nf1 cf1 : Nat), j ≤ nm ∧ i = .int .i64 j ∧ Hid (b.okB = true) ∧ Hid (b.heard.length = g8 + 1) ∧ Hid (b.most p.orders) ∧ Hid (RunAt p k st) ∧ Below w.heap.size w wr ∧ Box wr w.heap.size [.int .i64 p.top, .int .i64 p.bank, .int .i64 p.siphon, .int .i64 p.start, .int .i64 p.positions, .int .i64 p.rate, .int .i64 p.step, .int .i64 p.pass, .int .i64 p.feed, .int .i64 p.pipe, .int .i64 p.orders, .int .i64 p.age] ∧ Box wr (w.heap.size + 1) [.slice A nl cl] ∧ Box wr GB [.slice Aq1 nq1 cq1, .slice Aa1 na1 ca1, .slice As1 ns1 cs1, .slice Ah1 nh1 ch1, .slice Af1 nf1 cf1] ∧ Box wr GS [.int .i64 st.level, .int .i64 st.position, .int .i64 st.p0, .int .i64 st.p1, .int .i64 st.order, .int .i64 st.age] ∧ Hid (BxAt wr wr.heap.size (.slice Aq1 nq1 cq1) (.slice Aa1 na1 ca1) (.slice As1 ns1 cs1) (.slice Ah1 nh1 ch1) (.slice Af1 nf1 cf1) b) ∧ Hid (Sep GS (.slice Aa1 na1 ca1) (.slice As1 ns1 cs1) (.slice Ah1 nh1 ch1))) (fun i _ => nm - (intOf i).toNat)
  case atStart =>
    have hn0 := new_ok (n := g8 + 1) (by omega) (by omega)
    exact ⟨0, _, s0, Aqb, nqb, cqb, Aab, nab, cab, Asb, nsb, csb, Ahb, nhb, chb, Afb, nfb, cfb, by omega, rfl, Lib.hid hn0.2, Lib.hid (by simp), Lib.hid (fun x hx => by cases hx), hR0, hB, XP, XC, XB, XS, hX, hSep⟩
  case round =>
    clear hB XP XC XB XS hX hSep hnew
    obtain ⟨j, b, st, Aq1, nq1, cq1, Aa1, na1, ca1, As1, ns1, cs1, Ah1, nh1, ch1, Af1, nf1, cf1, hj, rfl, hok, hlen, hmost, hrun, hB, XP, XC, XB, XS, hX, hSep⟩ := hrel
    obtain ⟨wo, rfl⟩ : ∃ wo : World, wo = wr := ⟨_, rfl⟩
    rcases Nat.lt_or_ge j nm with hlt | hge
    rotate_left
    · obtain rfl : nm = j := by omega
      have hlm : ¬ ((nm : Int) < (nm : Int)) := by omega
      go_wp2
      go_ret
      exact ⟨rfl, hB⟩
    have hlm : (j : Int) < (nm : Int) := by omega
    have hjl : j < ms.length := by rw [hml.out]; exact hlt
    obtain ⟨bm, om, rfl, hbm, q0, q1, q2, q3, q4⟩ := hM0.out.elem hjl
    have hmo := hM0.out.2 _ (List.getElem_mem hjl)
    obtain ⟨m, hm⟩ : ∃ m, ms[j] = m := ⟨_, rfl⟩
    rw [hm] at q0 q1 q2 q3 q4 hmo
    clear hm
    replace q0 := (hB.cell hbm).trans q0
    replace q1 := (hB.cell hbm).trans q1
    replace q2 := (hB.cell hbm).trans q2
    replace q3 := (hB.cell hbm).trans q3
    replace q4 := (hB.cell hbm).trans q4
    have hbz := Nat.lt_of_lt_of_le hbm hB.size
    go_upto_region 17 with fail
    clear q0 q1 q2 q3 q4 hbz hlm
    have XM := Box.new wo [.int .u8 m.kd, .int .u8 m.gt, .int .u8 m.od, .int .u8 m.at0, .int .u8 m.fd] 55
    have hd := (Below.refl wo.heap.size wo).alloc (Nat.le_refl _) (.cells #[.int .u8 m.kd, .int .u8 m.gt, .int .u8 m.od, .int .u8 m.at0, .int .u8 m.fd] 55)
    have hGM : GS < wo.heap.size := XS.lt
    obtain ⟨GM, hGe⟩ : ∃ GM, wo.heap.size = GM := ⟨_, rfl⟩
    rw [hGe] at XM hd hGM ⊢
    generalize wo.alloc (.cells #[.int .u8 m.kd, .int .u8 m.gt, .int .u8 m.od, .int .u8 m.at0, .int .u8 m.fd] 55) = w20 at XM hd ⊢
    replace hGe := Lib.hid hGe
    have hMO : Hid m.ok := Lib.hid hmo
    obtain ⟨⟨k1, k2⟩, ⟨k3, k4⟩, ⟨k5, k6⟩, ⟨k7, k8⟩, ⟨k9, k10⟩⟩ := hmo
    obtain ⟨kk, hkk⟩ : ∃ kk, m.kd % 6 = kk := ⟨_, rfl⟩
    have hkr : 0 ≤ kk ∧ kk < 6 := by omega
    by_cases hk5 : kk = 5
    rotate_left
    · have e5 : (kk != 5) = true := by simp [hk5]
      by_cases hk0 : kk = 0
      · subst hk0
        clear e5 hk5
        obtain ⟨o2, ho2⟩ : ∃ o2, m.od % 8 % (p.orders + 1) = o2 := ⟨_, rfl⟩
        have ho3 : 0 ≤ o2 := by rw [← ho2]; exact Int.emod_nonneg _ (by omega)
        have ho4 : o2 ≤ p.orders := by have := Int.emod_lt_of_pos (m.od % 8) (show 0 < p.orders + 1 by omega); omega
        have ho5 : o2 ≤ 7 := by
          rcases Int.lt_or_le (m.od % 8) (p.orders + 1) with h9 | h9
          · rw [Int.emod_eq_of_lt (by omega) h9] at ho2; omega
          · omega
        have hz0 : ¬ p.orders + 1 = 0 := by omega
        have hw8 : IntKind.u8.wrap o2 = o2 := by rw [IntKind.wrap_u8]; omega
        replace XP := XP.later (show Below wo.heap.size wo w20 from hGe.out ▸ hd)
        have p10 : w20.cell? ⟨w.heap.size, 10, none⟩ = some (.int .i64 p.orders) := XP.cell 10
        have zp := XP.lt
        obtain ⟨XMc0, XMf0, XMc1, XMf1, XMc2, XMf2, XMc3, XMf3, XMc4, XMf4⟩ := XM.f5
        have XMz : GM < w20.heap.size := XM.lt
        go_upto_region 20 with fail
        clear p10 zp XMc0 XMc1 XMc2 XMc3 XMc4 XMf0 XMf1 XMf2 XMf3 XMf4 XMz
        obtain ⟨mm, hmm⟩ : ∃ mm : Om, mm = ⟨m.kd, m.gt, o2, m.at0, m.fd⟩ := ⟨_, rfl⟩
        have hmo2 : Hid mm.ok := by
          rw [hmm]
          exact Lib.hid ⟨⟨k1, k2⟩, ⟨k3, k4⟩, ⟨ho3, by show o2 ≤ 255; omega⟩, ⟨k7, k8⟩, ⟨k9, k10⟩⟩
        replace hd := hd.setCell (p := ⟨GM, 2, none⟩) (Nat.le_refl _) (.int .u8 o2)
        replace XP := XP.other (a := ⟨GM, 2, none⟩) (by simp <;> omega) (.int .u8 o2)
        replace XM := XM.set 2 (.int .u8 o2)
        generalize w20.setCell ⟨GM, 2, none⟩ (.int .u8 o2) = w21 at hd XP XM ⊢
        simp only [List.set_cons_zero, List.set_cons_succ] at XM
        clear ho2 hw8 hz0
        subst hmm
        replace hX := hid_bx hX (hGe.out ▸ hd)
        replace hB := hB.trans ((show Below wo.heap.size wo w21 from hGe.out ▸ hd).mono hB.size)
        replace XB := XB.later (show Below wo.heap.size wo w21 from hGe.out ▸ hd)
        replace XS := XS.later (show Below wo.heap.size wo w21 from hGe.out ▸ hd)
        replace XC := XC.later (show Below wo.heap.size wo w21 from hGe.out ▸ hd)
        clear hd
        obtain ⟨x, hdd, hT⟩ : ∃ x hdd, b.linkT ⟨m.kd, m.gt, o2, m.at0, m.fd⟩ = (x, hdd) := ⟨_, _, rfl⟩
        obtain ⟨sK, hK, -⟩ := link_kept hok.out ⟨m.kd, m.gt, o2, m.at0, m.fd⟩
        have hMx := link_most hok.out ⟨m.kd, m.gt, o2, m.at0, m.fd⟩ hmost.out (fun _ => by show o2 % 8 ≤ p.orders; omega)
        rw [hT] at hK hMx
        replace hT := Lib.hid hT
        have hxo := Lib.hid hK.ok
        have hxl : Hid (x.heard.length = g8 + 1) := Lib.hid (hK.len.trans hlen.out)
        replace hMx : Hid (x.most p.orders) := Lib.hid hMx
        clear hK
        obtain ⟨XBc0, XBc1, XBc2, XBc3, XBc4⟩ := XB.c5
        obtain ⟨XMc0, XMc1, XMc2, XMc3, XMc4⟩ := XM.c5
        have zb := XB.lt
        have zm := XM.lt
        go_wp2_with fail
        clear zb zm XBc0 XBc1 XBc2 XBc3 XBc4 XMc0 XMc1 XMc2 XMc3 XMc4
        refine (oLinkV_any b ⟨m.kd, m.gt, o2, m.at0, m.fd⟩ _ _ _ _ _ _ _ _ _ _ _ _ _ _ _ w21 hX hok hmo2 hT).mono ?_
        rintro e w22 hh
        obtain ⟨Aq2, nq2, cq2, Aa2, na2, ca2, As2, ns2, cs2, Ah2, nh2, ch2, Af2, nf2, cf2, rfl, hX2, hb, h3⟩ := hh.sl1
        have hSep2 : Hid (Sep GS (.slice Aa2 na2 ca2) (.slice As2 ns2 cs2) (.slice Ah2 nh2 ch2)) := Lib.hid (hSep.out.new h3 XS.lt)
        replace XB := XB.later hb
        replace XS := XS.later hb
        replace XP := XP.later hb
        replace XC := XC.later hb
        replace hB := hB.trans (hb.mono hB.size)
        clear hb h3 hX XM
        obtain ⟨XBc0, XBf0, XBc1, XBf1, XBc2, XBf2, XBc3, XBf3, XBc4, XBf4⟩ := XB.f5
        have XBz : GB < w22.heap.size := XB.lt
        go_wp2
        clear XBc0 XBc1 XBc2 XBc3 XBc4 XBf0 XBf1 XBf2 XBf3 XBf4 XBz
        replace hX2 := bx_set (Aq := Aq2) (nq := nq2) (cq := cq2) (Aa := Aa2) (na := na2) (ca := ca2) (As := As2) (ns := ns2) (cs := cs2) (Ah := Ah2) (nh := nh2) (ch := ch2) (Af := Af2) (nf := nf2) (cf := cf2) hX2 XB
        replace XP := (((((XP.other (a := ⟨GB, 0, none⟩) (by simp <;> omega) (.slice Aq2 nq2 cq2)).other (a := ⟨GB, 1, none⟩) (by simp <;> omega) (.slice Aa2 na2 ca2)).other (a := ⟨GB, 2, none⟩) (by simp <;> omega) (.slice As2 ns2 cs2)).other (a := ⟨GB, 3, none⟩) (by simp <;> omega) (.slice Ah2 nh2 ch2)).other (a := ⟨GB, 4, none⟩) (by simp <;> omega) (.slice Af2 nf2 cf2))
        replace XC := (((((XC.other (a := ⟨GB, 0, none⟩) (by simp <;> omega) (.slice Aq2 nq2 cq2)).other (a := ⟨GB, 1, none⟩) (by simp <;> omega) (.slice Aa2 na2 ca2)).other (a := ⟨GB, 2, none⟩) (by simp <;> omega) (.slice As2 ns2 cs2)).other (a := ⟨GB, 3, none⟩) (by simp <;> omega) (.slice Ah2 nh2 ch2)).other (a := ⟨GB, 4, none⟩) (by simp <;> omega) (.slice Af2 nf2 cf2))
        replace XS := (((((XS.other (a := ⟨GB, 0, none⟩) (by simp <;> omega) (.slice Aq2 nq2 cq2)).other (a := ⟨GB, 1, none⟩) (by simp <;> omega) (.slice Aa2 na2 ca2)).other (a := ⟨GB, 2, none⟩) (by simp <;> omega) (.slice As2 ns2 cs2)).other (a := ⟨GB, 3, none⟩) (by simp <;> omega) (.slice Ah2 nh2 ch2)).other (a := ⟨GB, 4, none⟩) (by simp <;> omega) (.slice Af2 nf2 cf2))
        replace hB := (((((hB.setCell (p := ⟨GB, 0, none⟩) (by simp <;> omega) (.slice Aq2 nq2 cq2)).setCell (p := ⟨GB, 1, none⟩) (by simp <;> omega) (.slice Aa2 na2 ca2)).setCell (p := ⟨GB, 2, none⟩) (by simp <;> omega) (.slice As2 ns2 cs2)).setCell (p := ⟨GB, 3, none⟩) (by simp <;> omega) (.slice Ah2 nh2 ch2)).setCell (p := ⟨GB, 4, none⟩) (by simp <;> omega) (.slice Af2 nf2 cf2))
        replace XB := (((((XB.set 0 (.slice Aq2 nq2 cq2)).set 1 (.slice Aa2 na2 ca2)).set 2 (.slice As2 ns2 cs2)).set 3 (.slice Ah2 nh2 ch2)).set 4 (.slice Af2 nf2 cf2))
        generalize (((((w22.setCell ⟨GB, 0, none⟩ (.slice Aq2 nq2 cq2)).setCell ⟨GB, 1, none⟩ (.slice Aa2 na2 ca2)).setCell ⟨GB, 2, none⟩ (.slice As2 ns2 cs2)).setCell ⟨GB, 3, none⟩ (.slice Ah2 nh2 ch2)).setCell ⟨GB, 4, none⟩ (.slice Af2 nf2 cf2)) = w23 at hX2 XP XC XS hB XB ⊢
        simp only [List.set_cons_zero, List.set_cons_succ] at XB
        exact ⟨⟨j + 1, x, st, Aq2, nq2, cq2, Aa2, na2, ca2, As2, ns2, cs2, Ah2, nh2, ch2, Af2, nf2, cf2, by omega, by go_num, hxo, hxl, hMx, hrun, hB, XP, XC, XB, XS, hX2, hSep2⟩, by simp [intOf]; omega⟩
      · have e0 : (kk == 0) = false := by simp [hk0]
        obtain ⟨XMc0, XMc1, XMc2, XMc3, XMc4⟩ := XM.c5
        have zm := XM.lt
        go_upto_region 20 with fail
        clear zm XMc0 XMc1 XMc2 XMc3 XMc4
        replace XP := XP.later (show Below wo.heap.size wo w20 from hGe.out ▸ hd)
        have hmo2 := hMO
        replace hX := hid_bx hX (hGe.out ▸ hd)
        replace hB := hB.trans ((show Below wo.heap.size wo w20 from hGe.out ▸ hd).mono hB.size)
        replace XB := XB.later (show Below wo.heap.size wo w20 from hGe.out ▸ hd)
        replace XS := XS.later (show Below wo.heap.size wo w20 from hGe.out ▸ hd)
        replace XC := XC.later (show Below wo.heap.size wo w20 from hGe.out ▸ hd)
        clear hd
        obtain ⟨x, hdd, hT⟩ : ∃ x hdd, b.linkT m = (x, hdd) := ⟨_, _, rfl⟩
        obtain ⟨sK, hK, -⟩ := link_kept hok.out m
        have hMx := link_most hok.out m hmost.out (fun h9 => absurd (hkk.symm.trans h9) hk0)
        rw [hT] at hK hMx
        replace hT := Lib.hid hT
        have hxo := Lib.hid hK.ok
        have hxl : Hid (x.heard.length = g8 + 1) := Lib.hid (hK.len.trans hlen.out)
        replace hMx : Hid (x.most p.orders) := Lib.hid hMx
        clear hK
        obtain ⟨XBc0, XBc1, XBc2, XBc3, XBc4⟩ := XB.c5
        obtain ⟨XMc0, XMc1, XMc2, XMc3, XMc4⟩ := XM.c5
        have zb := XB.lt
        have zm := XM.lt
        go_wp2_with fail
        clear zb zm XBc0 XBc1 XBc2 XBc3 XBc4 XMc0 XMc1 XMc2 XMc3 XMc4
        refine (oLinkV_any b m _ _ _ _ _ _ _ _ _ _ _ _ _ _ _ w20 hX hok hmo2 hT).mono ?_
        rintro e w22 hh
        obtain ⟨Aq2, nq2, cq2, Aa2, na2, ca2, As2, ns2, cs2, Ah2, nh2, ch2, Af2, nf2, cf2, rfl, hX2, hb, h3⟩ := hh.sl1
        have hSep2 : Hid (Sep GS (.slice Aa2 na2 ca2) (.slice As2 ns2 cs2) (.slice Ah2 nh2 ch2)) := Lib.hid (hSep.out.new h3 XS.lt)
        replace XB := XB.later hb
        replace XS := XS.later hb
        replace XP := XP.later hb
        replace XC := XC.later hb
        replace hB := hB.trans (hb.mono hB.size)
        clear hb h3 hX XM
        obtain ⟨XBc0, XBf0, XBc1, XBf1, XBc2, XBf2, XBc3, XBf3, XBc4, XBf4⟩ := XB.f5
        have XBz : GB < w22.heap.size := XB.lt
        go_wp2
        clear XBc0 XBc1 XBc2 XBc3 XBc4 XBf0 XBf1 XBf2 XBf3 XBf4 XBz
        replace hX2 := bx_set (Aq := Aq2) (nq := nq2) (cq := cq2) (Aa := Aa2) (na := na2) (ca := ca2) (As := As2) (ns := ns2) (cs := cs2) (Ah := Ah2) (nh := nh2) (ch := ch2) (Af := Af2) (nf := nf2) (cf := cf2) hX2 XB
        replace XP := (((((XP.other (a := ⟨GB, 0, none⟩) (by simp <;> omega) (.slice Aq2 nq2 cq2)).other (a := ⟨GB, 1, none⟩) (by simp <;> omega) (.slice Aa2 na2 ca2)).other (a := ⟨GB, 2, none⟩) (by simp <;> omega) (.slice As2 ns2 cs2)).other (a := ⟨GB, 3, none⟩) (by simp <;> omega) (.slice Ah2 nh2 ch2)).other (a := ⟨GB, 4, none⟩) (by simp <;> omega) (.slice Af2 nf2 cf2))
        replace XC := (((((XC.other (a := ⟨GB, 0, none⟩) (by simp <;> omega) (.slice Aq2 nq2 cq2)).other (a := ⟨GB, 1, none⟩) (by simp <;> omega) (.slice Aa2 na2 ca2)).other (a := ⟨GB, 2, none⟩) (by simp <;> omega) (.slice As2 ns2 cs2)).other (a := ⟨GB, 3, none⟩) (by simp <;> omega) (.slice Ah2 nh2 ch2)).other (a := ⟨GB, 4, none⟩) (by simp <;> omega) (.slice Af2 nf2 cf2))
        replace XS := (((((XS.other (a := ⟨GB, 0, none⟩) (by simp <;> omega) (.slice Aq2 nq2 cq2)).other (a := ⟨GB, 1, none⟩) (by simp <;> omega) (.slice Aa2 na2 ca2)).other (a := ⟨GB, 2, none⟩) (by simp <;> omega) (.slice As2 ns2 cs2)).other (a := ⟨GB, 3, none⟩) (by simp <;> omega) (.slice Ah2 nh2 ch2)).other (a := ⟨GB, 4, none⟩) (by simp <;> omega) (.slice Af2 nf2 cf2))
        replace hB := (((((hB.setCell (p := ⟨GB, 0, none⟩) (by simp <;> omega) (.slice Aq2 nq2 cq2)).setCell (p := ⟨GB, 1, none⟩) (by simp <;> omega) (.slice Aa2 na2 ca2)).setCell (p := ⟨GB, 2, none⟩) (by simp <;> omega) (.slice As2 ns2 cs2)).setCell (p := ⟨GB, 3, none⟩) (by simp <;> omega) (.slice Ah2 nh2 ch2)).setCell (p := ⟨GB, 4, none⟩) (by simp <;> omega) (.slice Af2 nf2 cf2))
        replace XB := (((((XB.set 0 (.slice Aq2 nq2 cq2)).set 1 (.slice Aa2 na2 ca2)).set 2 (.slice As2 ns2 cs2)).set 3 (.slice Ah2 nh2 ch2)).set 4 (.slice Af2 nf2 cf2))
        generalize (((((w22.setCell ⟨GB, 0, none⟩ (.slice Aq2 nq2 cq2)).setCell ⟨GB, 1, none⟩ (.slice Aa2 na2 ca2)).setCell ⟨GB, 2, none⟩ (.slice As2 ns2 cs2)).setCell ⟨GB, 3, none⟩ (.slice Ah2 nh2 ch2)).setCell ⟨GB, 4, none⟩ (.slice Af2 nf2 cf2)) = w23 at hX2 XP XC XS hB XB ⊢
        simp only [List.set_cons_zero, List.set_cons_succ] at XB
        exact ⟨⟨j + 1, x, st, Aq2, nq2, cq2, Aa2, na2, ca2, As2, ns2, cs2, Ah2, nh2, ch2, Af2, nf2, cf2, by omega, by go_num, hxo, hxl, hMx, hrun, hB, XP, XC, XB, XS, hX2, hSep2⟩, by simp [intOf]; omega⟩
    · subst hk5
      obtain ⟨XMc0, XMc1, XMc2, XMc3, XMc4⟩ := XM.c5
      have zm := XM.lt
      go_upto_region 21 with fail
      clear zm XMc0 XMc1 XMc2 XMc3 XMc4
      obtain ⟨x, l, hT, hxo, hxs, hxl, hle⟩ : ∃ x l, b.tickT = (x, l, 0) ∧ x.okB = true ∧ x.sent = b.sent ∧ x.heard.length = b.heard.length ∧ l = (List.range b.heard.length).map b.orderB := by
        obtain ⟨h8, h9⟩ := tick_ok hok.out
        exact ⟨_, _, h8, h9, rfl, rfl, rfl⟩
      replace hT := Lib.hid hT
      replace hxo := Lib.hid hxo
      have hxm : Hid (x.most p.orders) := by rw [Hid, Bx.most, hxs]; exact hmost.out
      replace hxl : Hid (x.heard.length = g8 + 1) := Lib.hid (hxl.trans hlen.out)
      have hll : Hid (l.length = g8 + 1) := by rw [Hid, hle, List.length_map, List.length_range, hlen.out]
      obtain ⟨og, hog⟩ : ∃ og, b.orderB gi = og := ⟨_, rfl⟩
      have hgb : gi < b.heard.length := by rw [hlen.out]; exact hgl
      have hor := tick_order hok.out hmost.out ho0.1 hgb
      have hlg : Hid (l.getD gi 0 = og) := by rw [Hid, hle, tick_at hgb, hog]
      rw [hog] at hor
      clear hog hle hxs hgb
      obtain ⟨ft, hft⟩ : ∃ ft, m.fd % (p.feed + 1) = ft := ⟨_, rfl⟩
      have hf1 : 0 ≤ ft := by rw [← hft]; exact Int.emod_nonneg _ (by omega)
      have hf2 : ft ≤ p.feed := by have := Int.emod_lt_of_pos m.fd (show 0 < p.feed + 1 by omega); omega
      obtain ⟨y, oo, hnx, hry, hsf, hhd⟩ := run_next hask.out hbar.out hCert.out hrun.out (chosen_of ⟨hf1, hf2⟩ hor)
      replace hnx := Lib.hid hnx
      replace hry := Lib.hid hry
      replace hsf := Lib.hid hsf
      replace hhd := Lib.hid hhd
      replace hd : Below wo.heap.size wo w20 := hGe.out ▸ hd
      replace hX := hid_bx hX hd
      replace hB := hB.trans (hd.mono hB.size)
      replace XB := XB.later hd
      replace XS := XS.later hd
      replace XC := XC.later hd
      replace XP := XP.later hd
      clear hd
      obtain ⟨XBc0, XBc1, XBc2, XBc3, XBc4⟩ := XB.c5
      have zb := XB.lt
      go_wp2_with fail
      clear zb XBc0 XBc1 XBc2 XBc3 XBc4
      refine (oTickV_is b hX hT).mono ?_
      rintro e w21 hh
      obtain ⟨Aq2, nq2, cq2, Aa2, na2, ca2, As2, ns2, cs2, Ah2, nh2, ch2, Af2, nf2, cf2, Al, nl2, cl2, rfl, hX2, hL, hb, h3⟩ := hh.sl
      have hSep2 : Hid (Sep GS (.slice Aa2 na2 ca2) (.slice As2 ns2 cs2) (.slice Ah2 nh2 ch2)) := Lib.hid (hSep.out.new h3 XS.lt)
      replace XB := XB.later hb
      replace XS := XS.later hb
      replace XC := XC.later hb
      replace XP := XP.later hb
      replace XM := XM.later hb
      replace hB := hB.trans (hb.mono hB.size)
      clear hb h3 hX
      have hnl : nl2 = g8 + 1 := by rw [← hL.out.len.1]; exact hll.out
      have e4 : ((nl2 : Int) != 1 + (g8 : Int)) = false := by simp; omega
      go_upto_region 22 with fail
      have hGS2 : GS < w21.heap.size := XS.lt
      have hb := (Below.refl w21.heap.size w21).alloc (Nat.le_refl _) (.cells #[.slice Aq2 nq2 cq2, .slice Aa2 na2 ca2, .slice As2 ns2 cs2, .slice Ah2 nh2 ch2, .slice Af2 nf2 cf2] 49)
      have X23 := Box.new w21 [.slice Aq2 nq2 cq2, .slice Aa2 na2 ca2, .slice As2 ns2 cs2, .slice Ah2 nh2 ch2, .slice Af2 nf2 cf2] 49
      replace hX2 := hid_bx hX2 hb
      replace hL := hid_hd hL hb
      replace XB := XB.later hb
      replace XS := XS.later hb
      replace XC := XC.later hb
      replace XP := XP.later hb
      replace XM := XM.later hb
      replace hB := hB.trans (hb.mono hB.size)
      clear hb
      generalize w21.alloc (.cells #[.slice Aq2 nq2 cq2, .slice Aa2 na2 ca2, .slice As2 ns2 cs2, .slice Ah2 nh2 ch2, .slice Af2 nf2 cf2] 49) = w22 at X23 XB XS XC XP XM hX2 hL hB ⊢
      generalize w21.heap.size = G23 at X23 hGS2 ⊢
      go_upto_region 24 with fail
      clear e4
      obtain ⟨bl, ol, rfl, hbl, cl9⟩ := hL.out.2.one (k := gi) (by rw [hll.out]; exact hgl)
      rw [hlg.out] at cl9
      have hgn : (gi : Int) < (nl2 : Int) := by omega
      have hz1 : ¬ p.feed + 1 = 0 := by omega
      have hd := (Below.refl w22.heap.size w22).drew
      have hX9 := hX2
      have hy1 : w.heap.size + 1 < w22.heap.size := XC.lt
      have hy2 : GB < w22.heap.size := XB.lt
      have hy3 : GS < w22.heap.size := XS.lt
      have hy4 : GM < w22.heap.size := XM.lt
      have hy5 : G23 < w22.heap.size := X23.lt
      have XPz := XP.lt
      have XCz := XC.lt
      have XSz := XS.lt
      have XMz := XM.lt
      have u0 : ∀ z : Later w22, z.w.cell? ⟨w.heap.size, 0, none⟩ = some (.int .i64 p.top) := Later.cell (XP.cell 0) XPz
      have u1 : ∀ z : Later w22, z.w.cell? ⟨w.heap.size, 1, none⟩ = some (.int .i64 p.bank) := Later.cell (XP.cell 1) XPz
      have u2 : ∀ z : Later w22, z.w.cell? ⟨w.heap.size, 2, none⟩ = some (.int .i64 p.siphon) := Later.cell (XP.cell 2) XPz
      have u3 : ∀ z : Later w22, z.w.cell? ⟨w.heap.size, 3, none⟩ = some (.int .i64 p.start) := Later.cell (XP.cell 3) XPz
      have u4 : ∀ z : Later w22, z.w.cell? ⟨w.heap.size, 4, none⟩ = some (.int .i64 p.positions) := Later.cell (XP.cell 4) XPz
      have u5 : ∀ z : Later w22, z.w.cell? ⟨w.heap.size, 5, none⟩ = some (.int .i64 p.rate) := Later.cell (XP.cell 5) XPz
      have u6 : ∀ z : Later w22, z.w.cell? ⟨w.heap.size, 6, none⟩ = some (.int .i64 p.step) := Later.cell (XP.cell 6) XPz
      have u7 : ∀ z : Later w22, z.w.cell? ⟨w.heap.size, 7, none⟩ = some (.int .i64 p.pass) := Later.cell (XP.cell 7) XPz
      have u8 : ∀ z : Later w22, z.w.cell? ⟨w.heap.size, 8, none⟩ = some (.int .i64 p.feed) := Later.cell (XP.cell 8) XPz
      have u9 : ∀ z : Later w22, z.w.cell? ⟨w.heap.size, 9, none⟩ = some (.int .i64 p.pipe) := Later.cell (XP.cell 9) XPz
      have u10 : ∀ z : Later w22, z.w.cell? ⟨w.heap.size, 10, none⟩ = some (.int .i64 p.orders) := Later.cell (XP.cell 10) XPz
      have u11 : ∀ z : Later w22, z.w.cell? ⟨w.heap.size, 11, none⟩ = some (.int .i64 p.age) := Later.cell (XP.cell 11) XPz
      have v0 : ∀ z : Later w22, z.w.cell? ⟨w.heap.size + 1, 0, none⟩ = some (.slice A nl cl) := Later.cell (XC.cell 0) XCz
      have t0 : ∀ z : Later w22, z.w.cell? ⟨GS, 0, none⟩ = some (.int .i64 st.level) := Later.cell (XS.cell 0) XSz
      have t1 : ∀ z : Later w22, z.w.cell? ⟨GS, 1, none⟩ = some (.int .i64 st.position) := Later.cell (XS.cell 1) XSz
      have t2 : ∀ z : Later w22, z.w.cell? ⟨GS, 2, none⟩ = some (.int .i64 st.p0) := Later.cell (XS.cell 2) XSz
      have t3 : ∀ z : Later w22, z.w.cell? ⟨GS, 3, none⟩ = some (.int .i64 st.p1) := Later.cell (XS.cell 3) XSz
      have t4 : ∀ z : Later w22, z.w.cell? ⟨GS, 4, none⟩ = some (.int .i64 st.order) := Later.cell (XS.cell 4) XSz
      have t5 : ∀ z : Later w22, z.w.cell? ⟨GS, 5, none⟩ = some (.int .i64 st.age) := Later.cell (XS.cell 5) XSz
      have m4 : ∀ z : Later w22, z.w.cell? ⟨GM, 4, none⟩ = some (.int .u8 m.fd) := Later.cell (XM.cell 4) XMz
      have l0 : ∀ z : Later w22, z.w.cell? ⟨bl, ol + gi, none⟩ = some (.int .i64 og) := Later.cell cl9 hbl
      have hC := hid_code hC0 (hB.trans (hd.mono hB.size))
      have hb := hd
      replace hX2 := hid_bx hX2 hb
      replace XP := XP.later hb
      replace XC := XC.later hb
      replace XB := XB.later hb
      replace XS := XS.later hb
      replace XM := XM.later hb
      replace X23 := X23.later hb
      replace hB := hB.trans (hb.mono hB.size)
      clear hb XPz XCz XSz XMz cl9 hbl hL
      refine wp_region_heads (C := fun w' => ∃ x : Later w22, w' = x.w) [0, 1, 2, 3, 4, 5, 6, 7, 8, 9, 10, 11, 12, 13, 14] (by kernel_rfl) (by kernel_rfl) (Later.mk' hd) (fun _ _ h => h) ?_
      simp only [headOps, List.filterMap_cons, List.filterMap_nil, List.getElem?_toArray, List.getElem?_cons_succ, List.getElem?_cons_zero]
      repeat (first | go_big_quiet_skip | (show wpQuiet _ _ _ _ (_ :: _) _; go_big_quiet_skip) | (show wpQuiet _ _ _ _ (_ :: _) _; go_big_quiet_want; go_big_quiet_op; go_big_quiet_on))
      refine wpQuiet_nil ?_
      clear u0 u1 u2 u3 u4 u5 u6 u7 u8 u9 u10 u11 v0 t0 t1 t2 t3 t4 t5 m4 l0
      generalize w22.drew = W0 at hX2 XP XC XB XS XM X23 hB hd hC ⊢
      refine anyC_twoW (n := 9) (i := 15) (j := 20) (by kernel_rfl) (Later.mk' hd) ?_ ?_
      · refine wpOp_callD (some 153) (by rfl) rfl rfl ?_ ((next_is hnx hC.out).mono ?_)
        · go_simp
        rintro e W1 ⟨rfl, hb⟩
        refine ⟨_, rfl, ?_⟩
        simp only [Act.put, List.setIfInBounds_toArray, List.set_cons_zero, List.set_cons_succ]
        replace XP := XP.later hb
        replace XC := XC.later hb
        replace XB := XB.later hb
        replace XS := XS.later hb
        replace XM := XM.later hb
        replace X23 := X23.later hb
        replace hX2 := hid_bx hX2 hb
        replace hC := hid_code hC hb
        replace hB := hB.trans (hb.mono hB.size)
        replace hd := hd.trans (hb.mono hd.size)
        clear hb
        refine anyC_heads (by kernel_rfl) 4 W1 (Later.mk' hd) [16, 17, 18, 19] _ _ (by kernel_rfl) ?_
        simp only [headOps, List.filterMap_cons, List.filterMap_nil, List.getElem?_toArray, List.getElem?_cons_succ, List.getElem?_cons_zero]
        repeat (first | go_big_quiet_skip | (show wpQuiet _ _ _ _ (_ :: _) _; go_big_quiet_skip) | (show wpQuiet _ _ _ _ (_ :: _) _; go_big_quiet_want; go_big_quiet_op; go_big_quiet_on))
        refine wpQuiet_nil ?_
        refine anyC_oneW (n := 4) (i := 20) (by kernel_rfl) (Later.mk' hd) ?_
        refine wpOp_valD (some 26) (v := .pointer (some ⟨W1.heap.size, 0, none⟩)) (w' := W1.alloc (.cells #[.int .i64 0, .int .i64 0, .int .i64 0, .int .i64 0, .int .i64 0, .int .i64 0] 33)) (by rfl) rfl rfl ?_ ?_
        · go_simp
        simp only [Act.put, List.setIfInBounds_toArray, List.set_cons_zero, List.set_cons_succ]
        have hb := (Below.refl W1.heap.size W1).alloc (Nat.le_refl _) (.cells #[.int .i64 0, .int .i64 0, .int .i64 0, .int .i64 0, .int .i64 0, .int .i64 0] 33)
        have X26 := Box.new W1 [.int .i64 0, .int .i64 0, .int .i64 0, .int .i64 0, .int .i64 0, .int .i64 0] 33
        have hg26 := hd.size
        replace XP := XP.later hb
        replace XC := XC.later hb
        replace XB := XB.later hb
        replace XS := XS.later hb
        replace XM := XM.later hb
        replace X23 := X23.later hb
        replace hX2 := hid_bx hX2 hb
        replace hC := hid_code hC hb
        replace hB := hB.trans (hb.mono hB.size)
        replace hd := hd.trans (hb.mono hd.size)
        clear hb
        generalize W1.alloc (.cells #[.int .i64 0, .int .i64 0, .int .i64 0, .int .i64 0, .int .i64 0, .int .i64 0] 33) = W2 at XP XC XB XS XM X23 hX2 hC hB hd X26 ⊢
        generalize W1.heap.size = G26 at X26 hg26 ⊢
        obtain ⟨X26c0, X26f0, X26c1, X26f1, X26c2, X26f2, X26c3, X26f3, X26c4, X26f4, X26c5, X26f5⟩ := X26.f6
        have X26z : G26 < W2.heap.size := X26.lt
        refine anyC_storeN (w' := ((((((W2.setCell ⟨G26, 0, none⟩ (.int .i64 y.level)).setCell ⟨G26, 1, none⟩ (.int .i64 y.position)).setCell ⟨G26, 2, none⟩ (.int .i64 y.p0)).setCell ⟨G26, 3, none⟩ (.int .i64 y.p1)).setCell ⟨G26, 4, none⟩ (.int .i64 y.order)).setCell ⟨G26, 5, none⟩ (.int .i64 y.age))) (n := 2) (i := 21) (by kernel_rfl) rfl rfl rfl (Later.mk' hd) ?_ ?_
        · go_simp
        clear X26c0 X26f0 X26c1 X26f1 X26c2 X26f2 X26c3 X26f3 X26c4 X26f4 X26c5 X26f5 X26z
        have hX3 : Hid (BxAt ((((((W2.setCell ⟨G26, 0, none⟩ (.int .i64 y.level)).setCell ⟨G26, 1, none⟩ (.int .i64 y.position)).setCell ⟨G26, 2, none⟩ (.int .i64 y.p0)).setCell ⟨G26, 3, none⟩ (.int .i64 y.p1)).setCell ⟨G26, 4, none⟩ (.int .i64 y.order)).setCell ⟨G26, 5, none⟩ (.int .i64 y.age)) ((((((W2.setCell ⟨G26, 0, none⟩ (.int .i64 y.level)).setCell ⟨G26, 1, none⟩ (.int .i64 y.position)).setCell ⟨G26, 2, none⟩ (.int .i64 y.p0)).setCell ⟨G26, 3, none⟩ (.int .i64 y.p1)).setCell ⟨G26, 4, none⟩ (.int .i64 y.order)).setCell ⟨G26, 5, none⟩ (.int .i64 y.age)).heap.size (.slice Aq2 nq2 cq2) (.slice Aa2 na2 ca2) (.slice As2 ns2 cs2) (.slice Ah2 nh2 ch2) (.slice Af2 nf2 cf2) x) := by
          have hd9 := ((((((hd.setCell (p := ⟨G26, 0, none⟩) (by simp <;> omega) (.int .i64 y.level)).setCell (p := ⟨G26, 1, none⟩) (by simp <;> omega) (.int .i64 y.position)).setCell (p := ⟨G26, 2, none⟩) (by simp <;> omega) (.int .i64 y.p0)).setCell (p := ⟨G26, 3, none⟩) (by simp <;> omega) (.int .i64 y.p1)).setCell (p := ⟨G26, 4, none⟩) (by simp <;> omega) (.int .i64 y.order)).setCell (p := ⟨G26, 5, none⟩) (by simp <;> omega) (.int .i64 y.age))
          exact hid_bx hX9 hd9
        replace XP := ((((((XP.other (a := ⟨G26, 0, none⟩) (by simp <;> omega) (.int .i64 y.level)).other (a := ⟨G26, 1, none⟩) (by simp <;> omega) (.int .i64 y.position)).other (a := ⟨G26, 2, none⟩) (by simp <;> omega) (.int .i64 y.p0)).other (a := ⟨G26, 3, none⟩) (by simp <;> omega) (.int .i64 y.p1)).other (a := ⟨G26, 4, none⟩) (by simp <;> omega) (.int .i64 y.order)).other (a := ⟨G26, 5, none⟩) (by simp <;> omega) (.int .i64 y.age))
        replace XC := ((((((XC.other (a := ⟨G26, 0, none⟩) (by simp <;> omega) (.int .i64 y.level)).other (a := ⟨G26, 1, none⟩) (by simp <;> omega) (.int .i64 y.position)).other (a := ⟨G26, 2, none⟩) (by simp <;> omega) (.int .i64 y.p0)).other (a := ⟨G26, 3, none⟩) (by simp <;> omega) (.int .i64 y.p1)).other (a := ⟨G26, 4, none⟩) (by simp <;> omega) (.int .i64 y.order)).other (a := ⟨G26, 5, none⟩) (by simp <;> omega) (.int .i64 y.age))
        replace XB := ((((((XB.other (a := ⟨G26, 0, none⟩) (by simp <;> omega) (.int .i64 y.level)).other (a := ⟨G26, 1, none⟩) (by simp <;> omega) (.int .i64 y.position)).other (a := ⟨G26, 2, none⟩) (by simp <;> omega) (.int .i64 y.p0)).other (a := ⟨G26, 3, none⟩) (by simp <;> omega) (.int .i64 y.p1)).other (a := ⟨G26, 4, none⟩) (by simp <;> omega) (.int .i64 y.order)).other (a := ⟨G26, 5, none⟩) (by simp <;> omega) (.int .i64 y.age))
        replace XS := ((((((XS.other (a := ⟨G26, 0, none⟩) (by simp <;> omega) (.int .i64 y.level)).other (a := ⟨G26, 1, none⟩) (by simp <;> omega) (.int .i64 y.position)).other (a := ⟨G26, 2, none⟩) (by simp <;> omega) (.int .i64 y.p0)).other (a := ⟨G26, 3, none⟩) (by simp <;> omega) (.int .i64 y.p1)).other (a := ⟨G26, 4, none⟩) (by simp <;> omega) (.int .i64 y.order)).other (a := ⟨G26, 5, none⟩) (by simp <;> omega) (.int .i64 y.age))
        replace XM := ((((((XM.other (a := ⟨G26, 0, none⟩) (by simp <;> omega) (.int .i64 y.level)).other (a := ⟨G26, 1, none⟩) (by simp <;> omega) (.int .i64 y.position)).other (a := ⟨G26, 2, none⟩) (by simp <;> omega) (.int .i64 y.p0)).other (a := ⟨G26, 3, none⟩) (by simp <;> omega) (.int .i64 y.p1)).other (a := ⟨G26, 4, none⟩) (by simp <;> omega) (.int .i64 y.order)).other (a := ⟨G26, 5, none⟩) (by simp <;> omega) (.int .i64 y.age))
        replace X23 := ((((((X23.other (a := ⟨G26, 0, none⟩) (by simp <;> omega) (.int .i64 y.level)).other (a := ⟨G26, 1, none⟩) (by simp <;> omega) (.int .i64 y.position)).other (a := ⟨G26, 2, none⟩) (by simp <;> omega) (.int .i64 y.p0)).other (a := ⟨G26, 3, none⟩) (by simp <;> omega) (.int .i64 y.p1)).other (a := ⟨G26, 4, none⟩) (by simp <;> omega) (.int .i64 y.order)).other (a := ⟨G26, 5, none⟩) (by simp <;> omega) (.int .i64 y.age))
        replace hB := ((((((hB.setCell (p := ⟨G26, 0, none⟩) (by simp <;> omega) (.int .i64 y.level)).setCell (p := ⟨G26, 1, none⟩) (by simp <;> omega) (.int .i64 y.position)).setCell (p := ⟨G26, 2, none⟩) (by simp <;> omega) (.int .i64 y.p0)).setCell (p := ⟨G26, 3, none⟩) (by simp <;> omega) (.int .i64 y.p1)).setCell (p := ⟨G26, 4, none⟩) (by simp <;> omega) (.int .i64 y.order)).setCell (p := ⟨G26, 5, none⟩) (by simp <;> omega) (.int .i64 y.age))
        replace hd := ((((((hd.setCell (p := ⟨G26, 0, none⟩) (by simp <;> omega) (.int .i64 y.level)).setCell (p := ⟨G26, 1, none⟩) (by simp <;> omega) (.int .i64 y.position)).setCell (p := ⟨G26, 2, none⟩) (by simp <;> omega) (.int .i64 y.p0)).setCell (p := ⟨G26, 3, none⟩) (by simp <;> omega) (.int .i64 y.p1)).setCell (p := ⟨G26, 4, none⟩) (by simp <;> omega) (.int .i64 y.order)).setCell (p := ⟨G26, 5, none⟩) (by simp <;> omega) (.int .i64 y.age))
        replace X26 := ((((((X26.set 0 (.int .i64 y.level)).set 1 (.int .i64 y.position)).set 2 (.int .i64 y.p0)).set 3 (.int .i64 y.p1)).set 4 (.int .i64 y.order)).set 5 (.int .i64 y.age))
        clear hX2 hC
        generalize ((((((W2.setCell ⟨G26, 0, none⟩ (.int .i64 y.level)).setCell ⟨G26, 1, none⟩ (.int .i64 y.position)).setCell ⟨G26, 2, none⟩ (.int .i64 y.p0)).setCell ⟨G26, 3, none⟩ (.int .i64 y.p1)).setCell ⟨G26, 4, none⟩ (.int .i64 y.order)).setCell ⟨G26, 5, none⟩ (.int .i64 y.age)) = W3 at XP XC XB XS XM X23 hX3 hB hd X26 ⊢
        simp only [List.set_cons_zero, List.set_cons_succ] at X26
        refine anyC_valD (some 27) (n := 1) (i := 22) (v := .int .i64 oo) (w' := W3) (by kernel_rfl) rfl rfl rfl (Later.mk' hd) (by first | rfl | go_simp) ?_
        simp only [Act.put, List.setIfInBounds_toArray, List.set_cons_zero, List.set_cons_succ]
        refine anyC_valD (some 28) (n := 0) (i := 23) (v := .int .i64 0) (w' := W3) (by kernel_rfl) rfl rfl rfl (Later.mk' hd) (by first | rfl | go_simp) ?_
        simp only [Act.put, List.setIfInBounds_toArray, List.set_cons_zero, List.set_cons_succ]
        refine anyC_done (by kernel_rfl) (Later.mk' hd) ?_
        clear XM hd
        obtain ⟨XPc0, XPc1, XPc2, XPc3, XPc4, XPc5, XPc6, XPc7, XPc8, XPc9, XPc10, XPc11⟩ := XP.c12
        obtain ⟨X26c0, X26c1, X26c2, X26c3, X26c4, X26c5⟩ := X26.c6
        have XPz := XP.lt
        have X26z := X26.lt
        go_wp2_with fail
        clear XPc0 XPc1 XPc2 XPc3 XPc4 XPc5 XPc6 XPc7 XPc8 XPc9 XPc10 XPc11 XPz X26c0 X26c1 X26c2 X26c3 X26c4 X26c5 X26z
        refine (safe_is hsf).mono ?_
        rintro e W4 ⟨rfl, hb⟩
        replace XP := XP.later hb
        replace XC := XC.later hb
        replace XB := XB.later hb
        replace XS := XS.later hb
        replace X23 := X23.later hb
        replace X26 := X26.later hb
        replace hX3 := hid_bx hX3 hb
        replace hB := hB.trans (hb.mono hB.size)
        clear hb
        obtain ⟨X26c0, X26c1, X26c2, X26c3, X26c4, X26c5⟩ := X26.c6
        have X26z := X26.lt
        go_wp2_with fail
        clear X26c0 X26c1 X26c2 X26c3 X26c4 X26c5 X26z
        refine (bHolds_is hhd (hid_bar hQ0 hB).out).mono ?_
        rintro e W5 ⟨rfl, hb⟩
        replace XP := XP.later hb
        replace XC := XC.later hb
        replace XB := XB.later hb
        replace XS := XS.later hb
        replace X23 := X23.later hb
        replace X26 := X26.later hb
        replace hX3 := hid_bx hX3 hb
        replace hB := hB.trans (hb.mono hB.size)
        clear hb
        go_upto_region 29 with fail
        obtain ⟨XBc0, XBf0, XBc1, XBf1, XBc2, XBf2, XBc3, XBf3, XBc4, XBf4⟩ := XB.f5
        have XBz : GB < W5.heap.size := XB.lt
        obtain ⟨XSc0, XSf0, XSc1, XSf1, XSc2, XSf2, XSc3, XSf3, XSc4, XSf4, XSc5, XSf5⟩ := XS.f6
        have XSz : GS < W5.heap.size := XS.lt
        obtain ⟨X23c0, X23c1, X23c2, X23c3, X23c4⟩ := X23.c5
        obtain ⟨X26c0, X26c1, X26c2, X26c3, X26c4, X26c5⟩ := X26.c6
        have X23z := X23.lt
        have X26z := X26.lt
        go_region
        clear XBc0 XBf0 XBc1 XBf1 XBc2 XBf2 XBc3 XBf3 XBc4 XBf4 XBz XSc0 XSf0 XSc1 XSf1 XSc2 XSf2 XSc3 XSf3 XSc4 XSf4 XSc5 XSf5 XSz X23c0 X23c1 X23c2 X23c3 X23c4 X23z X26c0 X26c1 X26c2 X26c3 X26c4 X26c5 X26z X23 X26
        replace hX3 := bx_set (Aq := Aq2) (nq := nq2) (cq := cq2) (Aa := Aa2) (na := na2) (ca := ca2) (As := As2) (ns := ns2) (cs := cs2) (Ah := Ah2) (nh := nh2) (ch := ch2) (Af := Af2) (nf := nf2) (cf := cf2) hX3 XB
        replace XP := (((((XP.other (a := ⟨GB, 0, none⟩) (by simp <;> omega) (.slice Aq2 nq2 cq2)).other (a := ⟨GB, 1, none⟩) (by simp <;> omega) (.slice Aa2 na2 ca2)).other (a := ⟨GB, 2, none⟩) (by simp <;> omega) (.slice As2 ns2 cs2)).other (a := ⟨GB, 3, none⟩) (by simp <;> omega) (.slice Ah2 nh2 ch2)).other (a := ⟨GB, 4, none⟩) (by simp <;> omega) (.slice Af2 nf2 cf2))
        replace XC := (((((XC.other (a := ⟨GB, 0, none⟩) (by simp <;> omega) (.slice Aq2 nq2 cq2)).other (a := ⟨GB, 1, none⟩) (by simp <;> omega) (.slice Aa2 na2 ca2)).other (a := ⟨GB, 2, none⟩) (by simp <;> omega) (.slice As2 ns2 cs2)).other (a := ⟨GB, 3, none⟩) (by simp <;> omega) (.slice Ah2 nh2 ch2)).other (a := ⟨GB, 4, none⟩) (by simp <;> omega) (.slice Af2 nf2 cf2))
        replace XS := (((((XS.other (a := ⟨GB, 0, none⟩) (by simp <;> omega) (.slice Aq2 nq2 cq2)).other (a := ⟨GB, 1, none⟩) (by simp <;> omega) (.slice Aa2 na2 ca2)).other (a := ⟨GB, 2, none⟩) (by simp <;> omega) (.slice As2 ns2 cs2)).other (a := ⟨GB, 3, none⟩) (by simp <;> omega) (.slice Ah2 nh2 ch2)).other (a := ⟨GB, 4, none⟩) (by simp <;> omega) (.slice Af2 nf2 cf2))
        replace hB := (((((hB.setCell (p := ⟨GB, 0, none⟩) (by simp <;> omega) (.slice Aq2 nq2 cq2)).setCell (p := ⟨GB, 1, none⟩) (by simp <;> omega) (.slice Aa2 na2 ca2)).setCell (p := ⟨GB, 2, none⟩) (by simp <;> omega) (.slice As2 ns2 cs2)).setCell (p := ⟨GB, 3, none⟩) (by simp <;> omega) (.slice Ah2 nh2 ch2)).setCell (p := ⟨GB, 4, none⟩) (by simp <;> omega) (.slice Af2 nf2 cf2))
        replace XB := (((((XB.set 0 (.slice Aq2 nq2 cq2)).set 1 (.slice Aa2 na2 ca2)).set 2 (.slice As2 ns2 cs2)).set 3 (.slice Ah2 nh2 ch2)).set 4 (.slice Af2 nf2 cf2))
        generalize (((((W5.setCell ⟨GB, 0, none⟩ (.slice Aq2 nq2 cq2)).setCell ⟨GB, 1, none⟩ (.slice Aa2 na2 ca2)).setCell ⟨GB, 2, none⟩ (.slice As2 ns2 cs2)).setCell ⟨GB, 3, none⟩ (.slice Ah2 nh2 ch2)).setCell ⟨GB, 4, none⟩ (.slice Af2 nf2 cf2)) = WA at hX3 XP XC XS hB XB ⊢
        simp only [List.set_cons_zero, List.set_cons_succ] at XB
        replace hX3 := bx_set6 (a0 := y.level) (a1 := y.position) (a2 := y.p0) (a3 := y.p1) (a4 := y.order) (a5 := y.age) hX3 XS (by simp) hSep2.out
        replace XP := ((((((XP.other (a := ⟨GS, 0, none⟩) (by simp <;> omega) (.int .i64 y.level)).other (a := ⟨GS, 1, none⟩) (by simp <;> omega) (.int .i64 y.position)).other (a := ⟨GS, 2, none⟩) (by simp <;> omega) (.int .i64 y.p0)).other (a := ⟨GS, 3, none⟩) (by simp <;> omega) (.int .i64 y.p1)).other (a := ⟨GS, 4, none⟩) (by simp <;> omega) (.int .i64 y.order)).other (a := ⟨GS, 5, none⟩) (by simp <;> omega) (.int .i64 y.age))
        replace XC := ((((((XC.other (a := ⟨GS, 0, none⟩) (by simp <;> omega) (.int .i64 y.level)).other (a := ⟨GS, 1, none⟩) (by simp <;> omega) (.int .i64 y.position)).other (a := ⟨GS, 2, none⟩) (by simp <;> omega) (.int .i64 y.p0)).other (a := ⟨GS, 3, none⟩) (by simp <;> omega) (.int .i64 y.p1)).other (a := ⟨GS, 4, none⟩) (by simp <;> omega) (.int .i64 y.order)).other (a := ⟨GS, 5, none⟩) (by simp <;> omega) (.int .i64 y.age))
        replace XB := ((((((XB.other (a := ⟨GS, 0, none⟩) (by simp <;> omega) (.int .i64 y.level)).other (a := ⟨GS, 1, none⟩) (by simp <;> omega) (.int .i64 y.position)).other (a := ⟨GS, 2, none⟩) (by simp <;> omega) (.int .i64 y.p0)).other (a := ⟨GS, 3, none⟩) (by simp <;> omega) (.int .i64 y.p1)).other (a := ⟨GS, 4, none⟩) (by simp <;> omega) (.int .i64 y.order)).other (a := ⟨GS, 5, none⟩) (by simp <;> omega) (.int .i64 y.age))
        replace hB := ((((((hB.setCell (p := ⟨GS, 0, none⟩) (by simp <;> omega) (.int .i64 y.level)).setCell (p := ⟨GS, 1, none⟩) (by simp <;> omega) (.int .i64 y.position)).setCell (p := ⟨GS, 2, none⟩) (by simp <;> omega) (.int .i64 y.p0)).setCell (p := ⟨GS, 3, none⟩) (by simp <;> omega) (.int .i64 y.p1)).setCell (p := ⟨GS, 4, none⟩) (by simp <;> omega) (.int .i64 y.order)).setCell (p := ⟨GS, 5, none⟩) (by simp <;> omega) (.int .i64 y.age))
        replace XS := ((((((XS.set 0 (.int .i64 y.level)).set 1 (.int .i64 y.position)).set 2 (.int .i64 y.p0)).set 3 (.int .i64 y.p1)).set 4 (.int .i64 y.order)).set 5 (.int .i64 y.age))
        generalize ((((((WA.setCell ⟨GS, 0, none⟩ (.int .i64 y.level)).setCell ⟨GS, 1, none⟩ (.int .i64 y.position)).setCell ⟨GS, 2, none⟩ (.int .i64 y.p0)).setCell ⟨GS, 3, none⟩ (.int .i64 y.p1)).setCell ⟨GS, 4, none⟩ (.int .i64 y.order)).setCell ⟨GS, 5, none⟩ (.int .i64 y.age)) = WB at hX3 XP XC XS hB XB ⊢
        simp only [List.set_cons_zero, List.set_cons_succ] at XS
        replace hX3 := hid_bx hX3 (Below.refl WB.heap.size WB).drew
        replace XP := XP.drew
        replace XC := XC.drew
        replace XB := XB.drew
        replace XS := XS.drew
        replace hB := hB.drew
        generalize WB.drew = WC at hX3 XP XC XS hB XB ⊢
        go_wp2
        exact ⟨⟨j + 1, x, y, Aq2, nq2, cq2, Aa2, na2, ca2, As2, ns2, cs2, Ah2, nh2, ch2, Af2, nf2, cf2, by omega, by go_num, hxo, hxl, hxm, hry, hB, XP, XC, XB, XS, hX3, hSep2⟩, by simp [intOf]; omega⟩
      · refine wpOp_valD (some 26) (v := .pointer (some ⟨W0.heap.size, 0, none⟩)) (w' := W0.alloc (.cells #[.int .i64 0, .int .i64 0, .int .i64 0, .int .i64 0, .int .i64 0, .int .i64 0] 33)) (by rfl) rfl rfl ?_ ?_
        · go_simp
        simp only [Act.put, List.setIfInBounds_toArray, List.set_cons_zero, List.set_cons_succ]
        have hb := (Below.refl W0.heap.size W0).alloc (Nat.le_refl _) (.cells #[.int .i64 0, .int .i64 0, .int .i64 0, .int .i64 0, .int .i64 0, .int .i64 0] 33)
        have X26 := Box.new W0 [.int .i64 0, .int .i64 0, .int .i64 0, .int .i64 0, .int .i64 0, .int .i64 0] 33
        have hg26 := hd.size
        replace XP := XP.later hb
        replace XC := XC.later hb
        replace XB := XB.later hb
        replace XS := XS.later hb
        replace XM := XM.later hb
        replace X23 := X23.later hb
        replace hX2 := hid_bx hX2 hb
        replace hC := hid_code hC hb
        replace hB := hB.trans (hb.mono hB.size)
        replace hd := hd.trans (hb.mono hd.size)
        clear hb
        generalize W0.alloc (.cells #[.int .i64 0, .int .i64 0, .int .i64 0, .int .i64 0, .int .i64 0, .int .i64 0] 33) = W1 at XP XC XB XS XM X23 hX2 hC hB hd X26 ⊢
        generalize W0.heap.size = G26 at X26 hg26 ⊢
        refine anyC_oneW (n := 8) (i := 15) (by kernel_rfl) (Later.mk' hd) ?_
        refine wpOp_callD (some 153) (by rfl) rfl rfl ?_ ((next_is hnx hC.out).mono ?_)
        · go_simp
        rintro e W2 ⟨rfl, hb⟩
        refine ⟨_, rfl, ?_⟩
        simp only [Act.put, List.setIfInBounds_toArray, List.set_cons_zero, List.set_cons_succ]
        replace XP := XP.later hb
        replace XC := XC.later hb
        replace XB := XB.later hb
        replace XS := XS.later hb
        replace XM := XM.later hb
        replace X23 := X23.later hb
        replace X26 := X26.later hb
        replace hX2 := hid_bx hX2 hb
        replace hC := hid_code hC hb
        replace hB := hB.trans (hb.mono hB.size)
        replace hd := hd.trans (hb.mono hd.size)
        clear hb
        refine anyC_heads (by kernel_rfl) 3 W2 (Later.mk' hd) [16, 17, 18, 19] _ _ (by kernel_rfl) ?_
        simp only [headOps, List.filterMap_cons, List.filterMap_nil, List.getElem?_toArray, List.getElem?_cons_succ, List.getElem?_cons_zero]
        repeat (first | go_big_quiet_skip | (show wpQuiet _ _ _ _ (_ :: _) _; go_big_quiet_skip) | (show wpQuiet _ _ _ _ (_ :: _) _; go_big_quiet_want; go_big_quiet_op; go_big_quiet_on))
        refine wpQuiet_nil ?_
        obtain ⟨X26c0, X26f0, X26c1, X26f1, X26c2, X26f2, X26c3, X26f3, X26c4, X26f4, X26c5, X26f5⟩ := X26.f6
        have X26z : G26 < W2.heap.size := X26.lt
        refine anyC_storeN (w' := ((((((W2.setCell ⟨G26, 0, none⟩ (.int .i64 y.level)).setCell ⟨G26, 1, none⟩ (.int .i64 y.position)).setCell ⟨G26, 2, none⟩ (.int .i64 y.p0)).setCell ⟨G26, 3, none⟩ (.int .i64 y.p1)).setCell ⟨G26, 4, none⟩ (.int .i64 y.order)).setCell ⟨G26, 5, none⟩ (.int .i64 y.age))) (n := 2) (i := 21) (by kernel_rfl) rfl rfl rfl (Later.mk' hd) ?_ ?_
        · go_simp
        clear X26c0 X26f0 X26c1 X26f1 X26c2 X26f2 X26c3 X26f3 X26c4 X26f4 X26c5 X26f5 X26z
        have hX3 : Hid (BxAt ((((((W2.setCell ⟨G26, 0, none⟩ (.int .i64 y.level)).setCell ⟨G26, 1, none⟩ (.int .i64 y.position)).setCell ⟨G26, 2, none⟩ (.int .i64 y.p0)).setCell ⟨G26, 3, none⟩ (.int .i64 y.p1)).setCell ⟨G26, 4, none⟩ (.int .i64 y.order)).setCell ⟨G26, 5, none⟩ (.int .i64 y.age)) ((((((W2.setCell ⟨G26, 0, none⟩ (.int .i64 y.level)).setCell ⟨G26, 1, none⟩ (.int .i64 y.position)).setCell ⟨G26, 2, none⟩ (.int .i64 y.p0)).setCell ⟨G26, 3, none⟩ (.int .i64 y.p1)).setCell ⟨G26, 4, none⟩ (.int .i64 y.order)).setCell ⟨G26, 5, none⟩ (.int .i64 y.age)).heap.size (.slice Aq2 nq2 cq2) (.slice Aa2 na2 ca2) (.slice As2 ns2 cs2) (.slice Ah2 nh2 ch2) (.slice Af2 nf2 cf2) x) := by
          have hd9 := ((((((hd.setCell (p := ⟨G26, 0, none⟩) (by simp <;> omega) (.int .i64 y.level)).setCell (p := ⟨G26, 1, none⟩) (by simp <;> omega) (.int .i64 y.position)).setCell (p := ⟨G26, 2, none⟩) (by simp <;> omega) (.int .i64 y.p0)).setCell (p := ⟨G26, 3, none⟩) (by simp <;> omega) (.int .i64 y.p1)).setCell (p := ⟨G26, 4, none⟩) (by simp <;> omega) (.int .i64 y.order)).setCell (p := ⟨G26, 5, none⟩) (by simp <;> omega) (.int .i64 y.age))
          exact hid_bx hX9 hd9
        replace XP := ((((((XP.other (a := ⟨G26, 0, none⟩) (by simp <;> omega) (.int .i64 y.level)).other (a := ⟨G26, 1, none⟩) (by simp <;> omega) (.int .i64 y.position)).other (a := ⟨G26, 2, none⟩) (by simp <;> omega) (.int .i64 y.p0)).other (a := ⟨G26, 3, none⟩) (by simp <;> omega) (.int .i64 y.p1)).other (a := ⟨G26, 4, none⟩) (by simp <;> omega) (.int .i64 y.order)).other (a := ⟨G26, 5, none⟩) (by simp <;> omega) (.int .i64 y.age))
        replace XC := ((((((XC.other (a := ⟨G26, 0, none⟩) (by simp <;> omega) (.int .i64 y.level)).other (a := ⟨G26, 1, none⟩) (by simp <;> omega) (.int .i64 y.position)).other (a := ⟨G26, 2, none⟩) (by simp <;> omega) (.int .i64 y.p0)).other (a := ⟨G26, 3, none⟩) (by simp <;> omega) (.int .i64 y.p1)).other (a := ⟨G26, 4, none⟩) (by simp <;> omega) (.int .i64 y.order)).other (a := ⟨G26, 5, none⟩) (by simp <;> omega) (.int .i64 y.age))
        replace XB := ((((((XB.other (a := ⟨G26, 0, none⟩) (by simp <;> omega) (.int .i64 y.level)).other (a := ⟨G26, 1, none⟩) (by simp <;> omega) (.int .i64 y.position)).other (a := ⟨G26, 2, none⟩) (by simp <;> omega) (.int .i64 y.p0)).other (a := ⟨G26, 3, none⟩) (by simp <;> omega) (.int .i64 y.p1)).other (a := ⟨G26, 4, none⟩) (by simp <;> omega) (.int .i64 y.order)).other (a := ⟨G26, 5, none⟩) (by simp <;> omega) (.int .i64 y.age))
        replace XS := ((((((XS.other (a := ⟨G26, 0, none⟩) (by simp <;> omega) (.int .i64 y.level)).other (a := ⟨G26, 1, none⟩) (by simp <;> omega) (.int .i64 y.position)).other (a := ⟨G26, 2, none⟩) (by simp <;> omega) (.int .i64 y.p0)).other (a := ⟨G26, 3, none⟩) (by simp <;> omega) (.int .i64 y.p1)).other (a := ⟨G26, 4, none⟩) (by simp <;> omega) (.int .i64 y.order)).other (a := ⟨G26, 5, none⟩) (by simp <;> omega) (.int .i64 y.age))
        replace XM := ((((((XM.other (a := ⟨G26, 0, none⟩) (by simp <;> omega) (.int .i64 y.level)).other (a := ⟨G26, 1, none⟩) (by simp <;> omega) (.int .i64 y.position)).other (a := ⟨G26, 2, none⟩) (by simp <;> omega) (.int .i64 y.p0)).other (a := ⟨G26, 3, none⟩) (by simp <;> omega) (.int .i64 y.p1)).other (a := ⟨G26, 4, none⟩) (by simp <;> omega) (.int .i64 y.order)).other (a := ⟨G26, 5, none⟩) (by simp <;> omega) (.int .i64 y.age))
        replace X23 := ((((((X23.other (a := ⟨G26, 0, none⟩) (by simp <;> omega) (.int .i64 y.level)).other (a := ⟨G26, 1, none⟩) (by simp <;> omega) (.int .i64 y.position)).other (a := ⟨G26, 2, none⟩) (by simp <;> omega) (.int .i64 y.p0)).other (a := ⟨G26, 3, none⟩) (by simp <;> omega) (.int .i64 y.p1)).other (a := ⟨G26, 4, none⟩) (by simp <;> omega) (.int .i64 y.order)).other (a := ⟨G26, 5, none⟩) (by simp <;> omega) (.int .i64 y.age))
        replace hB := ((((((hB.setCell (p := ⟨G26, 0, none⟩) (by simp <;> omega) (.int .i64 y.level)).setCell (p := ⟨G26, 1, none⟩) (by simp <;> omega) (.int .i64 y.position)).setCell (p := ⟨G26, 2, none⟩) (by simp <;> omega) (.int .i64 y.p0)).setCell (p := ⟨G26, 3, none⟩) (by simp <;> omega) (.int .i64 y.p1)).setCell (p := ⟨G26, 4, none⟩) (by simp <;> omega) (.int .i64 y.order)).setCell (p := ⟨G26, 5, none⟩) (by simp <;> omega) (.int .i64 y.age))
        replace hd := ((((((hd.setCell (p := ⟨G26, 0, none⟩) (by simp <;> omega) (.int .i64 y.level)).setCell (p := ⟨G26, 1, none⟩) (by simp <;> omega) (.int .i64 y.position)).setCell (p := ⟨G26, 2, none⟩) (by simp <;> omega) (.int .i64 y.p0)).setCell (p := ⟨G26, 3, none⟩) (by simp <;> omega) (.int .i64 y.p1)).setCell (p := ⟨G26, 4, none⟩) (by simp <;> omega) (.int .i64 y.order)).setCell (p := ⟨G26, 5, none⟩) (by simp <;> omega) (.int .i64 y.age))
        replace X26 := ((((((X26.set 0 (.int .i64 y.level)).set 1 (.int .i64 y.position)).set 2 (.int .i64 y.p0)).set 3 (.int .i64 y.p1)).set 4 (.int .i64 y.order)).set 5 (.int .i64 y.age))
        clear hX2 hC
        generalize ((((((W2.setCell ⟨G26, 0, none⟩ (.int .i64 y.level)).setCell ⟨G26, 1, none⟩ (.int .i64 y.position)).setCell ⟨G26, 2, none⟩ (.int .i64 y.p0)).setCell ⟨G26, 3, none⟩ (.int .i64 y.p1)).setCell ⟨G26, 4, none⟩ (.int .i64 y.order)).setCell ⟨G26, 5, none⟩ (.int .i64 y.age)) = W3 at XP XC XB XS XM X23 hX3 hB hd X26 ⊢
        simp only [List.set_cons_zero, List.set_cons_succ] at X26
        refine anyC_valD (some 27) (n := 1) (i := 22) (v := .int .i64 oo) (w' := W3) (by kernel_rfl) rfl rfl rfl (Later.mk' hd) (by first | rfl | go_simp) ?_
        simp only [Act.put, List.setIfInBounds_toArray, List.set_cons_zero, List.set_cons_succ]
        refine anyC_valD (some 28) (n := 0) (i := 23) (v := .int .i64 0) (w' := W3) (by kernel_rfl) rfl rfl rfl (Later.mk' hd) (by first | rfl | go_simp) ?_
        simp only [Act.put, List.setIfInBounds_toArray, List.set_cons_zero, List.set_cons_succ]
        refine anyC_done (by kernel_rfl) (Later.mk' hd) ?_
        clear XM hd
        obtain ⟨XPc0, XPc1, XPc2, XPc3, XPc4, XPc5, XPc6, XPc7, XPc8, XPc9, XPc10, XPc11⟩ := XP.c12
        obtain ⟨X26c0, X26c1, X26c2, X26c3, X26c4, X26c5⟩ := X26.c6
        have XPz := XP.lt
        have X26z := X26.lt
        go_wp2_with fail
        clear XPc0 XPc1 XPc2 XPc3 XPc4 XPc5 XPc6 XPc7 XPc8 XPc9 XPc10 XPc11 XPz X26c0 X26c1 X26c2 X26c3 X26c4 X26c5 X26z
        refine (safe_is hsf).mono ?_
        rintro e W4 ⟨rfl, hb⟩
        replace XP := XP.later hb
        replace XC := XC.later hb
        replace XB := XB.later hb
        replace XS := XS.later hb
        replace X23 := X23.later hb
        replace X26 := X26.later hb
        replace hX3 := hid_bx hX3 hb
        replace hB := hB.trans (hb.mono hB.size)
        clear hb
        obtain ⟨X26c0, X26c1, X26c2, X26c3, X26c4, X26c5⟩ := X26.c6
        have X26z := X26.lt
        go_wp2_with fail
        clear X26c0 X26c1 X26c2 X26c3 X26c4 X26c5 X26z
        refine (bHolds_is hhd (hid_bar hQ0 hB).out).mono ?_
        rintro e W5 ⟨rfl, hb⟩
        replace XP := XP.later hb
        replace XC := XC.later hb
        replace XB := XB.later hb
        replace XS := XS.later hb
        replace X23 := X23.later hb
        replace X26 := X26.later hb
        replace hX3 := hid_bx hX3 hb
        replace hB := hB.trans (hb.mono hB.size)
        clear hb
        go_upto_region 29 with fail
        obtain ⟨XBc0, XBf0, XBc1, XBf1, XBc2, XBf2, XBc3, XBf3, XBc4, XBf4⟩ := XB.f5
        have XBz : GB < W5.heap.size := XB.lt
        obtain ⟨XSc0, XSf0, XSc1, XSf1, XSc2, XSf2, XSc3, XSf3, XSc4, XSf4, XSc5, XSf5⟩ := XS.f6
        have XSz : GS < W5.heap.size := XS.lt
        obtain ⟨X23c0, X23c1, X23c2, X23c3, X23c4⟩ := X23.c5
        obtain ⟨X26c0, X26c1, X26c2, X26c3, X26c4, X26c5⟩ := X26.c6
        have X23z := X23.lt
        have X26z := X26.lt
        go_region
        clear XBc0 XBf0 XBc1 XBf1 XBc2 XBf2 XBc3 XBf3 XBc4 XBf4 XBz XSc0 XSf0 XSc1 XSf1 XSc2 XSf2 XSc3 XSf3 XSc4 XSf4 XSc5 XSf5 XSz X23c0 X23c1 X23c2 X23c3 X23c4 X23z X26c0 X26c1 X26c2 X26c3 X26c4 X26c5 X26z X23 X26
        replace hX3 := bx_set (Aq := Aq2) (nq := nq2) (cq := cq2) (Aa := Aa2) (na := na2) (ca := ca2) (As := As2) (ns := ns2) (cs := cs2) (Ah := Ah2) (nh := nh2) (ch := ch2) (Af := Af2) (nf := nf2) (cf := cf2) hX3 XB
        replace XP := (((((XP.other (a := ⟨GB, 0, none⟩) (by simp <;> omega) (.slice Aq2 nq2 cq2)).other (a := ⟨GB, 1, none⟩) (by simp <;> omega) (.slice Aa2 na2 ca2)).other (a := ⟨GB, 2, none⟩) (by simp <;> omega) (.slice As2 ns2 cs2)).other (a := ⟨GB, 3, none⟩) (by simp <;> omega) (.slice Ah2 nh2 ch2)).other (a := ⟨GB, 4, none⟩) (by simp <;> omega) (.slice Af2 nf2 cf2))
        replace XC := (((((XC.other (a := ⟨GB, 0, none⟩) (by simp <;> omega) (.slice Aq2 nq2 cq2)).other (a := ⟨GB, 1, none⟩) (by simp <;> omega) (.slice Aa2 na2 ca2)).other (a := ⟨GB, 2, none⟩) (by simp <;> omega) (.slice As2 ns2 cs2)).other (a := ⟨GB, 3, none⟩) (by simp <;> omega) (.slice Ah2 nh2 ch2)).other (a := ⟨GB, 4, none⟩) (by simp <;> omega) (.slice Af2 nf2 cf2))
        replace XS := (((((XS.other (a := ⟨GB, 0, none⟩) (by simp <;> omega) (.slice Aq2 nq2 cq2)).other (a := ⟨GB, 1, none⟩) (by simp <;> omega) (.slice Aa2 na2 ca2)).other (a := ⟨GB, 2, none⟩) (by simp <;> omega) (.slice As2 ns2 cs2)).other (a := ⟨GB, 3, none⟩) (by simp <;> omega) (.slice Ah2 nh2 ch2)).other (a := ⟨GB, 4, none⟩) (by simp <;> omega) (.slice Af2 nf2 cf2))
        replace hB := (((((hB.setCell (p := ⟨GB, 0, none⟩) (by simp <;> omega) (.slice Aq2 nq2 cq2)).setCell (p := ⟨GB, 1, none⟩) (by simp <;> omega) (.slice Aa2 na2 ca2)).setCell (p := ⟨GB, 2, none⟩) (by simp <;> omega) (.slice As2 ns2 cs2)).setCell (p := ⟨GB, 3, none⟩) (by simp <;> omega) (.slice Ah2 nh2 ch2)).setCell (p := ⟨GB, 4, none⟩) (by simp <;> omega) (.slice Af2 nf2 cf2))
        replace XB := (((((XB.set 0 (.slice Aq2 nq2 cq2)).set 1 (.slice Aa2 na2 ca2)).set 2 (.slice As2 ns2 cs2)).set 3 (.slice Ah2 nh2 ch2)).set 4 (.slice Af2 nf2 cf2))
        generalize (((((W5.setCell ⟨GB, 0, none⟩ (.slice Aq2 nq2 cq2)).setCell ⟨GB, 1, none⟩ (.slice Aa2 na2 ca2)).setCell ⟨GB, 2, none⟩ (.slice As2 ns2 cs2)).setCell ⟨GB, 3, none⟩ (.slice Ah2 nh2 ch2)).setCell ⟨GB, 4, none⟩ (.slice Af2 nf2 cf2)) = WA at hX3 XP XC XS hB XB ⊢
        simp only [List.set_cons_zero, List.set_cons_succ] at XB
        replace hX3 := bx_set6 (a0 := y.level) (a1 := y.position) (a2 := y.p0) (a3 := y.p1) (a4 := y.order) (a5 := y.age) hX3 XS (by simp) hSep2.out
        replace XP := ((((((XP.other (a := ⟨GS, 0, none⟩) (by simp <;> omega) (.int .i64 y.level)).other (a := ⟨GS, 1, none⟩) (by simp <;> omega) (.int .i64 y.position)).other (a := ⟨GS, 2, none⟩) (by simp <;> omega) (.int .i64 y.p0)).other (a := ⟨GS, 3, none⟩) (by simp <;> omega) (.int .i64 y.p1)).other (a := ⟨GS, 4, none⟩) (by simp <;> omega) (.int .i64 y.order)).other (a := ⟨GS, 5, none⟩) (by simp <;> omega) (.int .i64 y.age))
        replace XC := ((((((XC.other (a := ⟨GS, 0, none⟩) (by simp <;> omega) (.int .i64 y.level)).other (a := ⟨GS, 1, none⟩) (by simp <;> omega) (.int .i64 y.position)).other (a := ⟨GS, 2, none⟩) (by simp <;> omega) (.int .i64 y.p0)).other (a := ⟨GS, 3, none⟩) (by simp <;> omega) (.int .i64 y.p1)).other (a := ⟨GS, 4, none⟩) (by simp <;> omega) (.int .i64 y.order)).other (a := ⟨GS, 5, none⟩) (by simp <;> omega) (.int .i64 y.age))
        replace XB := ((((((XB.other (a := ⟨GS, 0, none⟩) (by simp <;> omega) (.int .i64 y.level)).other (a := ⟨GS, 1, none⟩) (by simp <;> omega) (.int .i64 y.position)).other (a := ⟨GS, 2, none⟩) (by simp <;> omega) (.int .i64 y.p0)).other (a := ⟨GS, 3, none⟩) (by simp <;> omega) (.int .i64 y.p1)).other (a := ⟨GS, 4, none⟩) (by simp <;> omega) (.int .i64 y.order)).other (a := ⟨GS, 5, none⟩) (by simp <;> omega) (.int .i64 y.age))
        replace hB := ((((((hB.setCell (p := ⟨GS, 0, none⟩) (by simp <;> omega) (.int .i64 y.level)).setCell (p := ⟨GS, 1, none⟩) (by simp <;> omega) (.int .i64 y.position)).setCell (p := ⟨GS, 2, none⟩) (by simp <;> omega) (.int .i64 y.p0)).setCell (p := ⟨GS, 3, none⟩) (by simp <;> omega) (.int .i64 y.p1)).setCell (p := ⟨GS, 4, none⟩) (by simp <;> omega) (.int .i64 y.order)).setCell (p := ⟨GS, 5, none⟩) (by simp <;> omega) (.int .i64 y.age))
        replace XS := ((((((XS.set 0 (.int .i64 y.level)).set 1 (.int .i64 y.position)).set 2 (.int .i64 y.p0)).set 3 (.int .i64 y.p1)).set 4 (.int .i64 y.order)).set 5 (.int .i64 y.age))
        generalize ((((((WA.setCell ⟨GS, 0, none⟩ (.int .i64 y.level)).setCell ⟨GS, 1, none⟩ (.int .i64 y.position)).setCell ⟨GS, 2, none⟩ (.int .i64 y.p0)).setCell ⟨GS, 3, none⟩ (.int .i64 y.p1)).setCell ⟨GS, 4, none⟩ (.int .i64 y.order)).setCell ⟨GS, 5, none⟩ (.int .i64 y.age)) = WB at hX3 XP XC XS hB XB ⊢
        simp only [List.set_cons_zero, List.set_cons_succ] at XS
        replace hX3 := hid_bx hX3 (Below.refl WB.heap.size WB).drew
        replace XP := XP.drew
        replace XC := XC.drew
        replace XB := XB.drew
        replace XS := XS.drew
        replace hB := hB.drew
        generalize WB.drew = WC at hX3 XP XC XS hB XB ⊢
        go_wp2
        exact ⟨⟨j + 1, x, y, Aq2, nq2, cq2, Aa2, na2, ca2, As2, ns2, cs2, Ah2, nh2, ch2, Af2, nf2, cf2, by omega, by go_num, hxo, hxl, hxm, hry, hB, XP, XC, XB, XS, hX3, hSep2⟩, by simp [intOf]; omega⟩
theorem law_OrdersSafe (p : Pl) (code : List Ln) (V : Value) (k : List Iq) (U : Value) (gts gt0 : Int) (ms : List Om) (v : Value) (w : World) (hC : CodeAt w w.heap.size V code) (hQ : BarAt w w.heap.size U k) (hg : 0 ≤ gts ∧ gts ≤ 255) (hg0 : 0 ≤ gt0 ∧ gt0 ≤ 255) (hM : OmsAt w w.heap.size v ms) :
    Calls Tryz.prog 3 #[p.v, .agg #[V], U, .int .u8 gts, .int .u8 gt0, v] w fun e w' => e = .returned (.bool true) ∧ Below w.heap.size w w' := by
  obtain ⟨A, c, rfl, _⟩ := hC.form
  obtain ⟨A2, c2, rfl, _⟩ := hQ.form
  obtain ⟨A3, c3, rfl, hm, _⟩ := hM.1
  unfold maxLen at hm
  exact law_Safe_go p code A _ c k A2 _ c2 gts gt0 ms A3 _ c3 w (Lib.hid hC) (Lib.hid hQ) (Lib.hid hM) (Lib.hid rfl) (by omega) hg hg0
end Go.Proofs.YtmbifmmkccghfaaGreat
