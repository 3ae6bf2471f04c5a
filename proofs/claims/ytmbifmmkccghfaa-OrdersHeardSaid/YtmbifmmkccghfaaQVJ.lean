/- OrdersHeard. (Printed by gen_vj.py and pp.py.) No condition. -/
import Derived.Test.YtmbifmmkccghfaaQRZ
import Derived.Test.YtmbifmmkccghfaaQVF
import Derived.Test.YtmbifmmkccghfaaQUS
import Derived.Test.YtmbifmmkccghfaaQKO
set_option linter.unusedVariables false
set_option linter.unusedSimpArgs false
namespace Go.Proofs.Ytmbifmmkccghfaa
open Go.RowKit Go.Shelf
attribute [local go_sem] Oper.semAt_some

set_option maxRecDepth 100000 in
set_option maxHeartbeats 16000000 in
theorem law_Heard_go (gts : Int) (ms : List Om) (A3 : Option Addr) (nm cm : Nat) (w : World) (hM0 : Hid (OmsAt w w.heap.size (.slice A3 nm cm) ms)) (hml : Hid (ms.length = nm)) (hmm : nm ≤ 9223372036854775807) (hg : 0 ≤ gts ∧ gts ≤ 255) :
    Calls Try.prog 7 #[.int .u8 gts, .slice A3 nm cm] w fun e w' => e = .returned (.bool true) ∧ Below w.heap.size w w' := by
  go_enter Try.func7, Try.ntmps7
  go_wp2_with fail
  refine (oSaneV_any _).mono ?_
  rintro e w1 ⟨rfl, hB⟩
  by_cases h60 : 60 < nm
  · have e0 : (60 : Int) < (nm : Int) := by omega
    go_wp2
    go_ret
    exact ⟨rfl, hB⟩
  have e0 : ¬ (60 : Int) < (nm : Int) := by omega
  obtain ⟨g8, hg8⟩ : ∃ g8 : Nat, gts % 8 = (g8 : Int) := ⟨(gts % 8).toNat, by omega⟩
  have hg7 : g8 ≤ 7 := by omega
  have hnew : Hid (newB (1 + (g8 : Int)) = (⟨Net.zero, [], List.replicate (g8 + 1) 0, List.replicate (g8 + 1) false⟩, 0)) := by
    rw [Hid, show 1 + (g8 : Int) = ((g8 + 1 : Nat) : Int) by omega]
    exact (new_ok (by omega) (by omega)).1
  go_wp2_with fail
  clear e0
  refine (oNew_any (1 + (g8 : Int)) _ hnew).mono ?_
  rintro e w2 hh
  obtain ⟨Aqb, nqb, cqb, Aab, nab, cab, Asb, nsb, csb, Ahb, nhb, chb, Afb, nfb, cfb, rfl, hX, hb⟩ := hh.sl1
  have hDC := Nat.zero_le w2.heap.size
  replace hB := hB.trans (hb.mono hB.size)
  clear hb hh
  have hGB0 : w.heap.size ≤ w2.heap.size := hB.size
  go_upto_region 7 with fail
  have hb := (Below.refl w2.heap.size w2).alloc (Nat.le_refl _) (.cells #[.slice Aqb nqb cqb, .slice Aab nab cab, .slice Asb nsb csb, .slice Ahb nhb chb, .slice Afb nfb cfb] 30)
  have XB := Box.new w2 [.slice Aqb nqb cqb, .slice Aab nab cab, .slice Asb nsb csb, .slice Ahb nhb chb, .slice Afb nfb cfb] 30
  replace hX := hid_bx hX hb
  replace hB := hB.trans (hb.mono hB.size)
  clear hb hDC
  generalize w2.alloc (.cells #[.slice Aqb nqb cqb, .slice Aab nab cab, .slice Asb nsb csb, .slice Ahb nhb chb, .slice Afb nfb cfb] 30) = w3 at XB hX hB ⊢
  generalize w2.heap.size = GB at XB hGB0 ⊢
  have hmk : (Instr.makeMap 59 none).run Try.prog w3 = .ok (.map (some w3.heap.size)) (w3.alloc (.map #[] 0)) := rfl
  go_upto_region 12 with fail
  clear hmk
  have hb := (Below.refl w3.heap.size w3).alloc (Nat.le_refl _) (.map #[] 0)
  have hM := MapB.made w3
  have hGP : w.heap.size ≤ w3.heap.size := hB.size
  replace XB := XB.later hb
  replace hX := hid_bx hX hb
  replace hB := hB.trans (hb.mono hB.size)
  clear hb
  generalize w3.alloc (.map #[] 0) = w4 at XB hX hB hM ⊢
  replace hM := Lib.hid hM
  generalize w3.heap.size = GP at hM hGP ⊢
  obtain ⟨DC, hDCe⟩ : ∃ DC, w4.heap.size = DC := ⟨_, rfl⟩
  have hGBD : GB < DC := by rw [← hDCe]; exact XB.lt
  have hDC : DC ≤ w4.heap.size := Nat.le_of_eq hDCe.symm
  have hDCw : w.heap.size ≤ DC := by rw [← hDCe]; exact hB.size
  have hS : Hid (SentAt w4 DC (.slice none 0 0) []) := Lib.hid (sentAt_nil _ _)
  clear hDCe
  go_loopw [8, 9, 44] (fun s8 s9 i wr => ∃ (j : Nat) (b : Bx) (Aq1 : Option Addr) (nq1 cq1 : Nat) (Aa1 : Option Addr) (na1 ca1 : Nat) (As1 : Option Addr) (ns1 cs1 : Nat) (Ah1 : Option Addr) (nh1 ch1 : Nat) (Af1 : Option Addr) (nf1 cf1 : Nat) (A8 : Option Addr) (n8 c8 : Nat) (B1 m1 : Nat) (f1 : Nat → Bool), j ≤ nm ∧ .slice A8 n8 c8 = s8 ∧ .map (some B1) = s9 ∧ i = .int .i64 j ∧ m1 ≤ j ∧ w.heap.size ≤ B1 ∧ DC ≤ wr.heap.size ∧ Hid (b.okB = true) ∧ Hid (b.heard.length = g8 + 1) ∧ Hid (∀ g, g < g8 + 1 → f1 g = b.f g) ∧ Below w.heap.size w wr ∧ Box wr GB [.slice Aq1 nq1 cq1, .slice Aa1 na1 ca1, .slice As1 ns1 cs1, .slice Ah1 nh1 ch1, .slice Af1 nf1 cf1] ∧ Hid (BxAt wr wr.heap.size (.slice Aq1 nq1 cq1) (.slice Aa1 na1 ca1) (.slice As1 ns1 cs1) (.slice Ah1 nh1 ch1) (.slice Af1 nf1 cf1) b) ∧ Hid (SentAt wr DC (.slice A8 n8 c8) b.sent) ∧ Hid (SepV (.slice A8 n8 c8) (.slice Aa1 na1 ca1) (.slice As1 ns1 cs1) (.slice Ah1 nh1 ch1)) ∧ Hid (MapB wr B1 m1 f1)) (fun _ _ i _ => nm - (intOf i).toNat)
  case atStart =>
    have hn0 := new_ok (n := g8 + 1) (by omega) (by omega)
    refine ⟨0, _, Aqb, nqb, cqb, Aab, nab, cab, Asb, nsb, csb, Ahb, nhb, chb, Afb, nfb, cfb, none, 0, 0, GP, 0, fun _ => false, by omega, rfl, rfl, rfl, Nat.le_refl _, hGP, hDC, Lib.hid hn0.2, Lib.hid (by simp), Lib.hid (fun g _ => ?_), hB, XB, hX, hS, Lib.hid (SepV.nil _ _ _), hM⟩
    show false = (List.replicate (g8 + 1) false).getD g false
    rw [List.getD_eq_getElem?_getD, List.getElem?_replicate]
    split <;> rfl
  case round =>
    clear hB XB hX hM hGP hS hDC hnew
    obtain ⟨j, b, Aq1, nq1, cq1, Aa1, na1, ca1, As1, ns1, cs1, Ah1, nh1, ch1, Af1, nf1, cf1, A8, n8, c8, B1, m1, f1, hj, rfl, rfl, rfl, hmj, hGP, hDC, hok, hlen, hfm, hB, XB, hX, hS, hSep, hM⟩ := hrel
    obtain ⟨wo, rfl⟩ : ∃ wo : World, wo = wr := ⟨_, rfl⟩
    rcases Nat.lt_or_ge j nm with hlt | hge
    rotate_left
    · obtain rfl : nm = j := by omega
      have hlm : ¬ ((nm : Int) < (nm : Int)) := by omega
      go_wp2
      go_ret
      exact ⟨rfl, hB⟩
    have hlm : (j : Int) < (nm : Int) := by omega
    have hjl : j < ms.length := by rw [hml.out]; exact hlt
    obtain ⟨bm, om, rfl, hbm, q0, q1, q2, q3, q4⟩ := hM0.out.elem hjl
    have hmo := hM0.out.2 _ (List.getElem_mem hjl)
    obtain ⟨m, hm⟩ : ∃ m, ms[j] = m := ⟨_, rfl⟩
    rw [hm] at q0 q1 q2 q3 q4 hmo
    clear hm
    replace q0 := (hB.cell hbm).trans q0
    replace q1 := (hB.cell hbm).trans q1
    replace q2 := (hB.cell hbm).trans q2
    replace q3 := (hB.cell hbm).trans q3
    replace q4 := (hB.cell hbm).trans q4
    have hbz := Nat.lt_of_lt_of_le hbm hB.size
    have XBc0 : wo.cell? ⟨GB, 0, none⟩ = some (.slice Aq1 nq1 cq1) := XB.cell 0
    have XBc1 : wo.cell? ⟨GB, 1, none⟩ = some (.slice Aa1 na1 ca1) := XB.cell 1
    have XBc2 : wo.cell? ⟨GB, 2, none⟩ = some (.slice As1 ns1 cs1) := XB.cell 2
    have XBc3 : wo.cell? ⟨GB, 3, none⟩ = some (.slice Ah1 nh1 ch1) := XB.cell 3
    have XBc4 : wo.cell? ⟨GB, 4, none⟩ = some (.slice Af1 nf1 cf1) := XB.cell 4
    have XBz := XB.lt
    go_upto_region 15 with fail
    clear q0 q1 q2 q3 q4 hbz hlm
    clear XBc0 XBc1 XBc2 XBc3 XBc4 XBz
    have XM := (Box.new wo [.int .u8 m.kd, .int .u8 m.gt, .int .u8 m.od, .int .u8 m.at0, .int .u8 m.fd] 61).alloc (.cells #[.slice Aq1 nq1 cq1, .slice Aa1 na1 ca1, .slice As1 ns1 cs1, .slice Ah1 nh1 ch1, .slice Af1 nf1 cf1] 30)
    have XW := Box.newAt (w := wo.alloc (.cells #[.int .u8 m.kd, .int .u8 m.gt, .int .u8 m.od, .int .u8 m.at0, .int .u8 m.fd] 61)) (n := wo.heap.size + 1) [.slice Aq1 nq1 cq1, .slice Aa1 na1 ca1, .slice As1 ns1 cs1, .slice Ah1 nh1 ch1, .slice Af1 nf1 cf1] 30 (by simp)
    have hb := ((Below.refl wo.heap.size wo).alloc (Nat.le_refl _) (.cells #[.int .u8 m.kd, .int .u8 m.gt, .int .u8 m.od, .int .u8 m.at0, .int .u8 m.fd] 61)).alloc (by simp) (.cells #[.slice Aq1 nq1 cq1, .slice Aa1 na1 ca1, .slice As1 ns1 cs1, .slice Ah1 nh1 ch1, .slice Af1 nf1 cf1] 30)
    have h8 : ∀ g, (Value.slice A8 n8 c8).ownBlock = some g → g < wo.heap.size := fun g hg => (hS.out.lt hg).2
    have hGBM : GB < wo.heap.size := XB.lt
    have hDM : DC ≤ wo.heap.size := hDC
    replace XB := XB.later hb
    replace hX := hid_bx hX hb
    replace hS := hid_sent hS hb
    replace hM := hid_map hM hb
    replace hB := hB.trans (hb.mono hB.size)
    replace hDC := Nat.le_trans hDC hb.size
    clear hb
    generalize (wo.alloc (.cells #[.int .u8 m.kd, .int .u8 m.gt, .int .u8 m.od, .int .u8 m.at0, .int .u8 m.fd] 61)).alloc (.cells #[.slice Aq1 nq1 cq1, .slice Aa1 na1 ca1, .slice As1 ns1 cs1, .slice Ah1 nh1 ch1, .slice Af1 nf1 cf1] 30) = w20 at XM XW XB hX hS hM hB hDC ⊢
    generalize wo.heap.size = GM at XM XW h8 hGBM hDM ⊢
    have hMO : Hid m.ok := Lib.hid hmo
    obtain ⟨⟨k1, k2⟩, ⟨k3, k4⟩, ⟨k5, k6⟩, ⟨k7, k8⟩, ⟨k9, k10⟩⟩ := hmo
    obtain ⟨kk, hkk⟩ : ∃ kk, m.kd % 6 = kk := ⟨_, rfl⟩
    obtain ⟨t5, ht5⟩ : ∃ t5, decide (kk = 5) = t5 := ⟨_, rfl⟩
    have e5 : (kk == 5) = t5 := by rw [← ht5]; rfl
    have XMc0 : w20.cell? ⟨GM, 0, none⟩ = some (.int .u8 m.kd) := XM.cell 0
    have XMc1 : w20.cell? ⟨GM, 1, none⟩ = some (.int .u8 m.gt) := XM.cell 1
    have XMc2 : w20.cell? ⟨GM, 2, none⟩ = some (.int .u8 m.od) := XM.cell 2
    have XMc3 : w20.cell? ⟨GM, 3, none⟩ = some (.int .u8 m.at0) := XM.cell 3
    have XMc4 : w20.cell? ⟨GM, 4, none⟩ = some (.int .u8 m.fd) := XM.cell 4
    have XMz := XM.lt
    go_cut [52] (fun s52 wx => s52 = .bool t5 ∧ w20 = wx)
    case first =>
      go_wp2_with fail
      go_meet
      exact ⟨rfl, rfl⟩
    case rest =>
    obtain ⟨rfl, hw⟩ := hcut
    subst hw
    clear XMc0 XMc1 XMc2 XMc3 XMc4 XMz
    clear e5 ht5 k1 k2 k3 k4 k5 k6 k7 k8 k9 k10 hkk
    go_upto_if 52 with fail
    go_cut [8, 9] (fun s8 s9 wx => ∃ (x : Bx) (Aq2 : Option Addr) (nq2 cq2 : Nat) (Aa2 : Option Addr) (na2 ca2 : Nat) (As2 : Option Addr) (ns2 cs2 : Nat) (Ah2 : Option Addr) (nh2 ch2 : Nat) (Af2 : Option Addr) (nf2 cf2 : Nat) (A9 : Option Addr) (n9 c9 : Nat) (B2 m2 : Nat) (f2 : Nat → Bool), .slice A9 n9 c9 = s8 ∧ .map (some B2) = s9 ∧ m2 ≤ j + 1 ∧ w.heap.size ≤ B2 ∧ DC ≤ wx.heap.size ∧ Hid (x.okB = true) ∧ Hid (x.heard.length = g8 + 1) ∧ Hid (∀ g, g < g8 + 1 → f2 g = x.f g) ∧ Hid (∀ g, g < g8 + 1 → b.h g ≤ x.h g) ∧ Hid (∀ g, g < g8 + 1 → b.h g < x.h g → f2 g = true) ∧ Below w.heap.size w wx ∧ Box wx GB [.slice Aq2 nq2 cq2, .slice Aa2 na2 ca2, .slice As2 ns2 cs2, .slice Ah2 nh2 ch2, .slice Af2 nf2 cf2] ∧ Box wx (GM + 1) [.slice Aq1 nq1 cq1, .slice Aa1 na1 ca1, .slice As1 ns1 cs1, .slice Ah1 nh1 ch1, .slice Af1 nf1 cf1] ∧ Hid (BxAt wx wx.heap.size (.slice Aq1 nq1 cq1) (.slice Aa1 na1 ca1) (.slice As1 ns1 cs1) (.slice Ah1 nh1 ch1) (.slice Af1 nf1 cf1) b) ∧ Hid (BxAt wx wx.heap.size (.slice Aq2 nq2 cq2) (.slice Aa2 na2 ca2) (.slice As2 ns2 cs2) (.slice Ah2 nh2 ch2) (.slice Af2 nf2 cf2) x) ∧ Hid (SentAt wx DC (.slice A9 n9 c9) x.sent) ∧ Hid (SepV (.slice A9 n9 c9) (.slice Aa2 na2 ca2) (.slice As2 ns2 cs2) (.slice Ah2 nh2 ch2)) ∧ Hid (MapB wx B2 m2 f2))
    case first =>
      cases t5 with
      | false =>
        as_aux_lemma =>
          obtain ⟨x, hdd, hT⟩ : ∃ x hdd, b.linkT m = (x, hdd) := ⟨_, _, rfl⟩
          obtain ⟨sK, hK, hsK⟩ := link_kept hok.out m
          rw [hT] at hK
          rw [hlen.out] at hsK
          replace hT := Lib.hid hT
          have hxo := Lib.hid hK.ok
          have hxl : Hid (x.heard.length = g8 + 1) := Lib.hid (hK.len.trans hlen.out)
          have hup : Hid (∀ g, g < g8 + 1 → b.h g ≤ x.h g) := Lib.hid (fun g hg => hK.up g (by rw [hlen.out]; exact hg))
          have hnw : Hid (∀ g, g < g8 + 1 → b.h g < x.h g → hdd = (g : Int) + 1) := Lib.hid (fun g hg => hK.new g (by rw [hlen.out]; exact hg))
          have hfr : Hid (∀ g, g < g8 + 1 → x.f g = (b.f g || decide (hdd = (g : Int) + 1))) := Lib.hid (fun g hg => hK.fresh g (by rw [hlen.out]; exact hg))
          have hxs := Lib.hid hK.sent
          have hd1 := hK.hd
          rw [hlen.out] at hd1
          clear hK
          have XBc0 : w20.cell? ⟨GB, 0, none⟩ = some (.slice Aq1 nq1 cq1) := XB.cell 0
          have XBc1 : w20.cell? ⟨GB, 1, none⟩ = some (.slice Aa1 na1 ca1) := XB.cell 1
          have XBc2 : w20.cell? ⟨GB, 2, none⟩ = some (.slice As1 ns1 cs1) := XB.cell 2
          have XBc3 : w20.cell? ⟨GB, 3, none⟩ = some (.slice Ah1 nh1 ch1) := XB.cell 3
          have XBc4 : w20.cell? ⟨GB, 4, none⟩ = some (.slice Af1 nf1 cf1) := XB.cell 4
          have XBz := XB.lt
          have XMc0 : w20.cell? ⟨GM, 0, none⟩ = some (.int .u8 m.kd) := XM.cell 0
          have XMc1 : w20.cell? ⟨GM, 1, none⟩ = some (.int .u8 m.gt) := XM.cell 1
          have XMc2 : w20.cell? ⟨GM, 2, none⟩ = some (.int .u8 m.od) := XM.cell 2
          have XMc3 : w20.cell? ⟨GM, 3, none⟩ = some (.int .u8 m.at0) := XM.cell 3
          have XMc4 : w20.cell? ⟨GM, 4, none⟩ = some (.int .u8 m.fd) := XM.cell 4
          have XMz := XM.lt
          go_wp2_with fail
          clear XBc0 XBc1 XBc2 XBc3 XBc4 XBz
          clear XMc0 XMc1 XMc2 XMc3 XMc4 XMz
          refine (oLinkV_any b m _ _ _ _ _ _ _ _ _ _ _ _ _ _ _ w20 hX hok hMO hT).mono ?_
          rintro e w21 hh
          obtain ⟨Aq2, nq2, cq2, Aa2, na2, ca2, As2, ns2, cs2, Ah2, nh2, ch2, Af2, nf2, cf2, rfl, hX2, hb, h3⟩ := hh.sl1
          have hSep2 : Hid (SepV (.slice A8 n8 c8) (.slice Aa2 na2 ca2) (.slice As2 ns2 cs2) (.slice Ah2 nh2 ch2)) := Lib.hid (hSep.out.new hS.out h3)
          clear h3 hh
          replace XB := XB.later hb
          replace XW := XW.later hb
          replace XM := XM.later hb
          replace hX := hid_bx hX hb
          replace hS := hid_sent hS hb
          replace hM := hid_map hM hb
          replace hB := hB.trans (hb.mono hB.size)
          replace hDC := Nat.le_trans hDC hb.size
          clear hb
          have hG19 : GM + 1 < w21.heap.size := XW.lt
          go_upto_region 32 with fail
          have hb := (Below.refl w21.heap.size w21).alloc (Nat.le_refl _) (.cells #[.slice Aq2 nq2 cq2, .slice Aa2 na2 ca2, .slice As2 ns2 cs2, .slice Ah2 nh2 ch2, .slice Af2 nf2 cf2] 30)
          have XN := Box.new w21 [.slice Aq2 nq2 cq2, .slice Aa2 na2 ca2, .slice As2 ns2 cs2, .slice Ah2 nh2 ch2, .slice Af2 nf2 cf2] 30
          replace XB := XB.later hb
          replace XW := XW.later hb
          replace XM := XM.later hb
          replace hX := hid_bx hX hb
          replace hS := hid_sent hS hb
          replace hM := hid_map hM hb
          replace hX2 := hid_bx hX2 hb
          replace hB := hB.trans (hb.mono hB.size)
          replace hDC := Nat.le_trans hDC hb.size
          clear hb
          generalize w21.alloc (.cells #[.slice Aq2 nq2 cq2, .slice Aa2 na2 ca2, .slice As2 ns2 cs2, .slice Ah2 nh2 ch2, .slice Af2 nf2 cf2] 30) = w22 at XB XW XM XN hX hS hM hX2 hB hDC ⊢
          generalize w21.heap.size = GN at XN hG19 ⊢
          have hns : Hid (x.sent.length = ns2) := Lib.hid hX2.out.lens.2.2.1
          have hn8 : Hid (b.sent.length = n8) := by
            obtain ⟨A, c, hv⟩ := hS.out.form
            cases hv
            exact Lib.hid rfl
          have hsK2 : Hid (sK = [] ∨ sK = [(m.gt % ((g8 + 1 : Nat) : Int), m.od % 8)]) := Lib.hid hsK
          clear hsK
          by_cases hss : sK = []
          · have hxe : x.sent = b.sent := by rw [hxs.out, hss, List.append_nil]
            have hnn1 : ns2 ≤ n8 := Nat.le_of_eq (by rw [← hns.out, ← hn8.out, hxe])
            replace hxe := Lib.hid hxe
            clear hss
            have e6 : ¬ (n8 : Int) < (ns2 : Int) := by omega
            have XNc0 : w22.cell? ⟨GN, 0, none⟩ = some (.slice Aq2 nq2 cq2) := XN.cell 0
            have XNc1 : w22.cell? ⟨GN, 1, none⟩ = some (.slice Aa2 na2 ca2) := XN.cell 1
            have XNc2 : w22.cell? ⟨GN, 2, none⟩ = some (.slice As2 ns2 cs2) := XN.cell 2
            have XNc3 : w22.cell? ⟨GN, 3, none⟩ = some (.slice Ah2 nh2 ch2) := XN.cell 3
            have XNc4 : w22.cell? ⟨GN, 4, none⟩ = some (.slice Af2 nf2 cf2) := XN.cell 4
            have XNz := XN.lt
            go_upto_region 34 with fail
            clear XNc0 XNc1 XNc2 XNc3 XNc4 XNz
            clear e6 XM hnn1
            replace hS : Hid (SentAt w22 DC (.slice A8 n8 c8) x.sent) := by rw [hxe.out]; exact hS
            clear hxe
            rcases Int.lt_or_le 0 hdd with hdp | hdz
            · as_aux_lemma =>
              obtain ⟨kq, rfl⟩ : ∃ kq : Nat, hdd = (kq : Int) + 1 := ⟨(hdd - 1).toNat, by omega⟩
              have hkq : kq ≤ 4611686018427387904 := by omega
              have p3 : wrap64 ((kq : Int) + 1 - 1) = (kq : Int) := by unfold wrap64; omega
              have p4 : IntKind.i64.wrap ((kq : Int) + 1 - 1) = (kq : Int) := by rw [IntKind.wrap_i64]; omega
              go_upto_region 35 with fail
              obtain ⟨w22m, hr, hM2, hgr⟩ := hM.out.put (by unfold maxLen; omega) hkq
              go_upto_region 36 with fail
              clear hr p3 p4
              replace XB := XB.turned hM.out hgr
              replace XW := XW.turned hM.out hgr
              replace XN := XN.turned hM.out hgr
              replace hX : Hid (BxAt w22m w22m.heap.size (.slice Aq1 nq1 cq1) (.slice Aa1 na1 ca1) (.slice As1 ns1 cs1) (.slice Ah1 nh1 ch1) (.slice Af1 nf1 cf1) b) := Lib.hid (hX.out.turned hM.out hgr)
              replace hX2 : Hid (BxAt w22m w22m.heap.size (.slice Aq2 nq2 cq2) (.slice Aa2 na2 ca2) (.slice As2 ns2 cs2) (.slice Ah2 nh2 ch2) (.slice Af2 nf2 cf2) x) := Lib.hid (hX2.out.turned hM.out hgr)
              replace hS : Hid (SentAt w22m DC (.slice A8 n8 c8) x.sent) := Lib.hid (hS.out.turned hM.out hgr)
              replace hB := Below.turned hB hgr hGP hB.size
              replace hDC : DC ≤ w22m.heap.size := Nat.le_trans hDC hgr.size
              replace hM := Lib.hid hM2
              clear hM2 hgr
              have hf2 : Hid (∀ g, g < g8 + 1 → (f1 g || decide (g = kq)) = x.f g) := Lib.hid (fun g hg => by
                rw [hfr.out g hg, hfm.out g hg]
                congr 1
                exact decide_eq_decide.2 ⟨fun h => by omega, fun h => by omega⟩)
              have hnf : Hid (∀ g, g < g8 + 1 → b.h g < x.h g → (f1 g || decide (g = kq)) = true) := Lib.hid (fun g hg h => by
                have h1 := hnw.out g hg h
                rw [decide_eq_true (show g = kq by omega), Bool.or_true])
              have XBc0 : w22m.cell? ⟨GB, 0, none⟩ = some (.slice Aq1 nq1 cq1) := XB.cell 0
              have XBf0 : w22m.frozen? ⟨GB, 0, none⟩ = false := XB.free 0
              have XBc1 : w22m.cell? ⟨GB, 1, none⟩ = some (.slice Aa1 na1 ca1) := XB.cell 1
              have XBf1 : w22m.frozen? ⟨GB, 1, none⟩ = false := XB.free 1
              have XBc2 : w22m.cell? ⟨GB, 2, none⟩ = some (.slice As1 ns1 cs1) := XB.cell 2
              have XBf2 : w22m.frozen? ⟨GB, 2, none⟩ = false := XB.free 2
              have XBc3 : w22m.cell? ⟨GB, 3, none⟩ = some (.slice Ah1 nh1 ch1) := XB.cell 3
              have XBf3 : w22m.frozen? ⟨GB, 3, none⟩ = false := XB.free 3
              have XBc4 : w22m.cell? ⟨GB, 4, none⟩ = some (.slice Af1 nf1 cf1) := XB.cell 4
              have XBf4 : w22m.frozen? ⟨GB, 4, none⟩ = false := XB.free 4
              have XBz : GB < w22m.heap.size := XB.lt
              have XNc0 : w22m.cell? ⟨GN, 0, none⟩ = some (.slice Aq2 nq2 cq2) := XN.cell 0
              have XNc1 : w22m.cell? ⟨GN, 1, none⟩ = some (.slice Aa2 na2 ca2) := XN.cell 1
              have XNc2 : w22m.cell? ⟨GN, 2, none⟩ = some (.slice As2 ns2 cs2) := XN.cell 2
              have XNc3 : w22m.cell? ⟨GN, 3, none⟩ = some (.slice Ah2 nh2 ch2) := XN.cell 3
              have XNc4 : w22m.cell? ⟨GN, 4, none⟩ = some (.slice Af2 nf2 cf2) := XN.cell 4
              have XNz := XN.lt
              go_wp2_with fail
              clear XBc0 XBf0 XBc1 XBf1 XBc2 XBf2 XBc3 XBf3 XBc4 XBf4 XBz
              clear XNc0 XNc1 XNc2 XNc3 XNc4 XNz
              replace hX := bx_set (Aq := Aq2) (nq := nq2) (cq := cq2) (Aa := Aa2) (na := na2) (ca := ca2) (As := As2) (ns := ns2) (cs := cs2) (Ah := Ah2) (nh := nh2) (ch := ch2) (Af := Af2) (nf := nf2) (cf := cf2) hX XB
              replace hX2 := bx_set (Aq := Aq2) (nq := nq2) (cq := cq2) (Aa := Aa2) (na := na2) (ca := ca2) (As := As2) (ns := ns2) (cs := cs2) (Ah := Ah2) (nh := nh2) (ch := ch2) (Af := Af2) (nf := nf2) (cf := cf2) hX2 XB
              replace hS := sent_set (Aq := Aq2) (nq := nq2) (cq := cq2) (Aa := Aa2) (na := na2) (ca := ca2) (As := As2) (ns := ns2) (cs := cs2) (Ah := Ah2) (nh := nh2) (ch := ch2) (Af := Af2) (nf := nf2) (cf := cf2) hS hGBD
              replace hM := map_set (Aq := Aq2) (nq := nq2) (cq := cq2) (Aa := Aa2) (na := na2) (ca := ca2) (As := As2) (ns := ns2) (cs := cs2) (Ah := Ah2) (nh := nh2) (ch := ch2) (Af := Af2) (nf := nf2) (cf := cf2) hM XB
              replace XW := (((((XW.other (a := ⟨GB, 0, none⟩) (by simp <;> omega) (.slice Aq2 nq2 cq2)).other (a := ⟨GB, 1, none⟩) (by simp <;> omega) (.slice Aa2 na2 ca2)).other (a := ⟨GB, 2, none⟩) (by simp <;> omega) (.slice As2 ns2 cs2)).other (a := ⟨GB, 3, none⟩) (by simp <;> omega) (.slice Ah2 nh2 ch2)).other (a := ⟨GB, 4, none⟩) (by simp <;> omega) (.slice Af2 nf2 cf2))
              replace hB := (((((hB.setCell (p := ⟨GB, 0, none⟩) (by simp <;> omega) (.slice Aq2 nq2 cq2)).setCell (p := ⟨GB, 1, none⟩) (by simp <;> omega) (.slice Aa2 na2 ca2)).setCell (p := ⟨GB, 2, none⟩) (by simp <;> omega) (.slice As2 ns2 cs2)).setCell (p := ⟨GB, 3, none⟩) (by simp <;> omega) (.slice Ah2 nh2 ch2)).setCell (p := ⟨GB, 4, none⟩) (by simp <;> omega) (.slice Af2 nf2 cf2))
              replace XB := (((((XB.set 0 (.slice Aq2 nq2 cq2)).set 1 (.slice Aa2 na2 ca2)).set 2 (.slice As2 ns2 cs2)).set 3 (.slice Ah2 nh2 ch2)).set 4 (.slice Af2 nf2 cf2))
              replace hDC : DC ≤ (((((w22m.setCell ⟨GB, 0, none⟩ (.slice Aq2 nq2 cq2)).setCell ⟨GB, 1, none⟩ (.slice Aa2 na2 ca2)).setCell ⟨GB, 2, none⟩ (.slice As2 ns2 cs2)).setCell ⟨GB, 3, none⟩ (.slice Ah2 nh2 ch2)).setCell ⟨GB, 4, none⟩ (.slice Af2 nf2 cf2)).heap.size := by simpa using hDC
              generalize (((((w22m.setCell ⟨GB, 0, none⟩ (.slice Aq2 nq2 cq2)).setCell ⟨GB, 1, none⟩ (.slice Aa2 na2 ca2)).setCell ⟨GB, 2, none⟩ (.slice As2 ns2 cs2)).setCell ⟨GB, 3, none⟩ (.slice Ah2 nh2 ch2)).setCell ⟨GB, 4, none⟩ (.slice Af2 nf2 cf2)) = wz at hX hX2 hS hM XW hB XB hDC ⊢
              simp only [List.set_cons_zero, List.set_cons_succ] at XB
              go_meet
              exact ⟨x, Aq2, nq2, cq2, Aa2, na2, ca2, As2, ns2, cs2, Ah2, nh2, ch2, Af2, nf2, cf2, A8, n8, c8, B1, m1 + 1, fun g => f1 g || decide (g = kq), rfl, rfl, by omega, hGP, hDC, hxo, hxl, hf2, hup, hnf, hB, XB, XW, hX, hX2, hS, hSep2, hM⟩
            · obtain rfl : hdd = 0 := by omega
              have e7 : ¬ (0 : Int) < 0 := by omega
              have hf2 : Hid (∀ g, g < g8 + 1 → f1 g = x.f g) := Lib.hid (fun g hg => by
                rw [hfr.out g hg, hfm.out g hg, decide_eq_false (show ¬ (0 : Int) = (g : Int) + 1 by omega), Bool.or_false])
              have hnf : Hid (∀ g, g < g8 + 1 → b.h g < x.h g → f1 g = true) := Lib.hid (fun g hg h => by
                have h1 := hnw.out g hg h
                omega)
              go_upto_region 36 with fail
              have XBc0 : w22.cell? ⟨GB, 0, none⟩ = some (.slice Aq1 nq1 cq1) := XB.cell 0
              have XBf0 : w22.frozen? ⟨GB, 0, none⟩ = false := XB.free 0
              have XBc1 : w22.cell? ⟨GB, 1, none⟩ = some (.slice Aa1 na1 ca1) := XB.cell 1
              have XBf1 : w22.frozen? ⟨GB, 1, none⟩ = false := XB.free 1
              have XBc2 : w22.cell? ⟨GB, 2, none⟩ = some (.slice As1 ns1 cs1) := XB.cell 2
              have XBf2 : w22.frozen? ⟨GB, 2, none⟩ = false := XB.free 2
              have XBc3 : w22.cell? ⟨GB, 3, none⟩ = some (.slice Ah1 nh1 ch1) := XB.cell 3
              have XBf3 : w22.frozen? ⟨GB, 3, none⟩ = false := XB.free 3
              have XBc4 : w22.cell? ⟨GB, 4, none⟩ = some (.slice Af1 nf1 cf1) := XB.cell 4
              have XBf4 : w22.frozen? ⟨GB, 4, none⟩ = false := XB.free 4
              have XBz : GB < w22.heap.size := XB.lt
              have XNc0 : w22.cell? ⟨GN, 0, none⟩ = some (.slice Aq2 nq2 cq2) := XN.cell 0
              have XNc1 : w22.cell? ⟨GN, 1, none⟩ = some (.slice Aa2 na2 ca2) := XN.cell 1
              have XNc2 : w22.cell? ⟨GN, 2, none⟩ = some (.slice As2 ns2 cs2) := XN.cell 2
              have XNc3 : w22.cell? ⟨GN, 3, none⟩ = some (.slice Ah2 nh2 ch2) := XN.cell 3
              have XNc4 : w22.cell? ⟨GN, 4, none⟩ = some (.slice Af2 nf2 cf2) := XN.cell 4
              have XNz := XN.lt
              go_wp2_with fail
              clear XBc0 XBf0 XBc1 XBf1 XBc2 XBf2 XBc3 XBf3 XBc4 XBf4 XBz
              clear XNc0 XNc1 XNc2 XNc3 XNc4 XNz
              clear e7
              replace hX := bx_set (Aq := Aq2) (nq := nq2) (cq := cq2) (Aa := Aa2) (na := na2) (ca := ca2) (As := As2) (ns := ns2) (cs := cs2) (Ah := Ah2) (nh := nh2) (ch := ch2) (Af := Af2) (nf := nf2) (cf := cf2) hX XB
              replace hX2 := bx_set (Aq := Aq2) (nq := nq2) (cq := cq2) (Aa := Aa2) (na := na2) (ca := ca2) (As := As2) (ns := ns2) (cs := cs2) (Ah := Ah2) (nh := nh2) (ch := ch2) (Af := Af2) (nf := nf2) (cf := cf2) hX2 XB
              replace hS := sent_set (Aq := Aq2) (nq := nq2) (cq := cq2) (Aa := Aa2) (na := na2) (ca := ca2) (As := As2) (ns := ns2) (cs := cs2) (Ah := Ah2) (nh := nh2) (ch := ch2) (Af := Af2) (nf := nf2) (cf := cf2) hS hGBD
              replace hM := map_set (Aq := Aq2) (nq := nq2) (cq := cq2) (Aa := Aa2) (na := na2) (ca := ca2) (As := As2) (ns := ns2) (cs := cs2) (Ah := Ah2) (nh := nh2) (ch := ch2) (Af := Af2) (nf := nf2) (cf := cf2) hM XB
              replace XW := (((((XW.other (a := ⟨GB, 0, none⟩) (by simp <;> omega) (.slice Aq2 nq2 cq2)).other (a := ⟨GB, 1, none⟩) (by simp <;> omega) (.slice Aa2 na2 ca2)).other (a := ⟨GB, 2, none⟩) (by simp <;> omega) (.slice As2 ns2 cs2)).other (a := ⟨GB, 3, none⟩) (by simp <;> omega) (.slice Ah2 nh2 ch2)).other (a := ⟨GB, 4, none⟩) (by simp <;> omega) (.slice Af2 nf2 cf2))
              replace hB := (((((hB.setCell (p := ⟨GB, 0, none⟩) (by simp <;> omega) (.slice Aq2 nq2 cq2)).setCell (p := ⟨GB, 1, none⟩) (by simp <;> omega) (.slice Aa2 na2 ca2)).setCell (p := ⟨GB, 2, none⟩) (by simp <;> omega) (.slice As2 ns2 cs2)).setCell (p := ⟨GB, 3, none⟩) (by simp <;> omega) (.slice Ah2 nh2 ch2)).setCell (p := ⟨GB, 4, none⟩) (by simp <;> omega) (.slice Af2 nf2 cf2))
              replace XB := (((((XB.set 0 (.slice Aq2 nq2 cq2)).set 1 (.slice Aa2 na2 ca2)).set 2 (.slice As2 ns2 cs2)).set 3 (.slice Ah2 nh2 ch2)).set 4 (.slice Af2 nf2 cf2))
              replace hDC : DC ≤ (((((w22.setCell ⟨GB, 0, none⟩ (.slice Aq2 nq2 cq2)).setCell ⟨GB, 1, none⟩ (.slice Aa2 na2 ca2)).setCell ⟨GB, 2, none⟩ (.slice As2 ns2 cs2)).setCell ⟨GB, 3, none⟩ (.slice Ah2 nh2 ch2)).setCell ⟨GB, 4, none⟩ (.slice Af2 nf2 cf2)).heap.size := by simpa using hDC
              generalize (((((w22.setCell ⟨GB, 0, none⟩ (.slice Aq2 nq2 cq2)).setCell ⟨GB, 1, none⟩ (.slice Aa2 na2 ca2)).setCell ⟨GB, 2, none⟩ (.slice As2 ns2 cs2)).setCell ⟨GB, 3, none⟩ (.slice Ah2 nh2 ch2)).setCell ⟨GB, 4, none⟩ (.slice Af2 nf2 cf2)) = wz at hX hX2 hS hM XW hB XB hDC ⊢
              simp only [List.set_cons_zero, List.set_cons_succ] at XB
              go_meet
              exact ⟨x, Aq2, nq2, cq2, Aa2, na2, ca2, As2, ns2, cs2, Ah2, nh2, ch2, Af2, nf2, cf2, A8, n8, c8, B1, m1, f1, rfl, rfl, by omega, hGP, hDC, hxo, hxl, hf2, hup, hnf, hB, XB, XW, hX, hX2, hS, hSep2, hM⟩
          have hsq : sK = [(m.gt % ((g8 + 1 : Nat) : Int), m.od % 8)] := by
            rcases hsK2.out with h9 | h9
            · exact absurd h9 hss
            · exact h9
          obtain ⟨gg, hgg⟩ : ∃ gg, m.gt % (1 + (g8 : Int)) = gg := ⟨_, rfl⟩
          obtain ⟨oo, hoo⟩ : ∃ oo, m.od % 8 = oo := ⟨_, rfl⟩
          have hxe : x.sent = b.sent ++ [(gg, oo)] := by rw [hxs.out, hsq, ← hgg, ← hoo, show ((g8 + 1 : Nat) : Int) = 1 + (g8 : Int) by omega]
          have hnn1 : ns2 ≤ n8 + 1 := Nat.le_of_eq (by rw [← hns.out, ← hn8.out, hxe, List.length_append]; rfl)
          have hnn2 : n8 + 1 ≤ ns2 := Nat.le_of_eq (by rw [← hns.out, ← hn8.out, hxe, List.length_append]; rfl)
          replace hxe := Lib.hid hxe
          clear hsq hss
          have e6 : (n8 : Int) < (ns2 : Int) := by omega
          have XNc0 : w22.cell? ⟨GN, 0, none⟩ = some (.slice Aq2 nq2 cq2) := XN.cell 0
          have XNc1 : w22.cell? ⟨GN, 1, none⟩ = some (.slice Aa2 na2 ca2) := XN.cell 1
          have XNc2 : w22.cell? ⟨GN, 2, none⟩ = some (.slice As2 ns2 cs2) := XN.cell 2
          have XNc3 : w22.cell? ⟨GN, 3, none⟩ = some (.slice Ah2 nh2 ch2) := XN.cell 3
          have XNc4 : w22.cell? ⟨GN, 4, none⟩ = some (.slice Af2 nf2 cf2) := XN.cell 4
          have XNz := XN.lt
          go_upto_region 33 with fail
          clear XNc0 XNc1 XNc2 XNc3 XNc4 XNz
          clear e6
          have hn4 : n8 ≤ 4096 := by
            have h9 := (of_decide_eq_true (okB_parts hok.out).1).2.2
            rw [hn8.out] at h9
            exact h9
          have hz1 : ¬ (1 + (g8 : Int)) = 0 := by omega
          obtain ⟨⟨k1, k2⟩, ⟨k3, k4⟩, ⟨k5, k6⟩, -⟩ := hMO.out
          have XMz := XM.lt
          have hd := (Below.refl w22.heap.size w22).drew
          have u1 : ∀ z : Later w22, z.w.cell? ⟨GM, 1, none⟩ = some (.int .u8 m.gt) := Later.cell (XM.cell 1) XMz
          have u2 : ∀ z : Later w22, z.w.cell? ⟨GM, 2, none⟩ = some (.int .u8 m.od) := Later.cell (XM.cell 2) XMz
          refine wp_region_upto (C := fun w' => ∃ x : Later w22, w' = x.w) 12 [0, 1, 2, 3, 4, 5, 6, 7, 8, 9, 10] (by kernel_rfl) (by kernel_rfl) (Later.mk' hd) (fun _ _ h => h) ?_
          simp only [headOps, List.filterMap_cons, List.filterMap_nil, List.getElem?_toArray, List.getElem?_cons_succ, List.getElem?_cons_zero]
          repeat (first | go_big_quiet_skip | (show wpQuiet _ _ _ _ (_ :: _) _; go_big_quiet_skip) | (show wpQuiet _ _ _ _ (_ :: _) _; go_big_quiet_want; go_big_quiet_op; go_big_quiet_on))
          refine wpQuiet_nil ?_
          clear u1 u2
          have hbS := hd.alloc hd.size (.cells #[.int .i64 gg, .int .i64 oo] 48)
          have XL := Box.new w22.drew [.int .i64 gg, .int .i64 oo] 48
          have hb := hbS
          clear XM
          replace XB := XB.later hb
          replace XW := XW.later hb
          replace XN := XN.later hb
          replace hX := hid_bx hX hb
          replace hS := hid_sent hS hb
          replace hM := hid_map hM hb
          replace hX2 := hid_bx hX2 hb
          replace hB := hB.trans (hb.mono hB.size)
          replace hDC := Nat.le_trans hDC hb.size
          clear hb
          obtain ⟨g', c', w', hr, hS9, hgr, hgo⟩ := run_appI (gg, oo) 26 hS.out XL hDC (by rw [hn8.out]; omega)
          rw [hn8.out] at hr hS9
          have hSL := hS.out
          refine anyG_val (some 146) (n := 2) (i := 11) (v := .slice (some ⟨w22.drew.heap.size, 0, none⟩) 1 1) (w' := w22.drew.alloc (.cells #[.int .i64 gg, .int .i64 oo] 48)) (by kernel_rfl) rfl rfl rfl (fun _ => Later.mk' hd) (by go_simp) ?_
          simp only [Act.put, List.setIfInBounds_toArray, List.set_cons_zero, List.set_cons_succ]
          refine anyG_val (some 147) (n := 1) (i := 12) (v := .slice (some ⟨g', 0, none⟩) (n8 + 1) c') (w' := w') (by kernel_rfl) rfl rfl rfl (fun _ => Later.mk' hbS) (run_app_op (x := .tmp 135) (y := .tmp 146) rfl rfl rfl rfl hr) ?_
          simp only [Act.put, List.setIfInBounds_toArray, List.set_cons_zero, List.set_cons_succ]
          refine anyG_val (some 8) (n := 0) (i := 13) (v := .slice (some ⟨g', 0, none⟩) (n8 + 1) c') (w' := w') (by kernel_rfl) rfl rfl rfl (fun h => by cases h) (by go_simp) ?_
          simp only [Act.put, List.setIfInBounds_toArray, List.set_cons_zero, List.set_cons_succ]
          refine anyG_done (by kernel_rfl) rfl ?_
          have hlt9 : ∀ g, (Value.slice A8 n8 c8).ownBlock = some g → g < GM := h8
          replace XB := box_grown hSL.own hgr XB hGBD
          replace XW := XW.grownV hgr (fun g hg => Nat.lt_succ_of_lt (hlt9 g hg))
          replace XN := XN.grownV hgr (fun g hg => by have := hlt9 g hg; omega)
          have hSepA := hSep2
          replace hSep2 : Hid (SepV (.slice (some ⟨g', 0, none⟩) (n8 + 1) c') (.slice Aa2 na2 ca2) (.slice As2 ns2 cs2) (.slice Ah2 nh2 ch2)) := Lib.hid (SepV.appI hX2.out hSep2.out hgo)
          replace hM : Hid (MapB w' B1 m1 f1) := Lib.hid (hM.out.appI hSL hgr)
          have hXb : Hid (BxAt w' w'.heap.size (.slice Aq1 nq1 cq1) (.slice Aa1 na1 ca1) (.slice As1 ns1 cs1) (.slice Ah1 nh1 ch1) (.slice Af1 nf1 cf1) b) := Lib.hid (hX.out.appI hSL hSep.out hgr)
          have hSepB : Hid (SepV (.slice A8 n8 c8) (.slice Aa2 na2 ca2) (.slice As2 ns2 cs2) (.slice Ah2 nh2 ch2)) := hSepA
          have hXx : Hid (BxAt w' w'.heap.size (.slice Aq2 nq2 cq2) (.slice Aa2 na2 ca2) (.slice As2 ns2 cs2) (.slice Ah2 nh2 ch2) (.slice Af2 nf2 cf2) x) := Lib.hid (hX2.out.appI hSL hSepB.out hgr)
          replace hX := hXb
          replace hX2 := hXx
          replace hB := hB.grown hgr hB.size (fun k hk => by have := hSL.lt hk; omega)
          replace hDC : DC ≤ w'.heap.size := Nat.le_trans hDC hgr.size
          replace hS : Hid (SentAt w' DC (.slice (some ⟨g', 0, none⟩) (n8 + 1) c') x.sent) := by rw [hxe.out]; exact Lib.hid hS9
          clear hXb hXx hSepA hSepB hS9 hgr hgo hr hSL XL hbS hd hlt9 hz1 hgg hoo hxe XMz k1 k2 k3 k4 k5 k6
          rcases Int.lt_or_le 0 hdd with hdp | hdz
          · as_aux_lemma =>
            obtain ⟨kq, rfl⟩ : ∃ kq : Nat, hdd = (kq : Int) + 1 := ⟨(hdd - 1).toNat, by omega⟩
            have hkq : kq ≤ 4611686018427387904 := by omega
            have p3 : wrap64 ((kq : Int) + 1 - 1) = (kq : Int) := by unfold wrap64; omega
            have p4 : IntKind.i64.wrap ((kq : Int) + 1 - 1) = (kq : Int) := by rw [IntKind.wrap_i64]; omega
            go_upto_region 35 with fail
            obtain ⟨wm, hr, hM2, hgr⟩ := hM.out.put (by unfold maxLen; omega) hkq
            go_upto_region 36 with fail
            clear hr p3 p4
            replace XB := XB.turned hM.out hgr
            replace XW := XW.turned hM.out hgr
            replace XN := XN.turned hM.out hgr
            replace hX : Hid (BxAt wm wm.heap.size (.slice Aq1 nq1 cq1) (.slice Aa1 na1 ca1) (.slice As1 ns1 cs1) (.slice Ah1 nh1 ch1) (.slice Af1 nf1 cf1) b) := Lib.hid (hX.out.turned hM.out hgr)
            replace hX2 : Hid (BxAt wm wm.heap.size (.slice Aq2 nq2 cq2) (.slice Aa2 na2 ca2) (.slice As2 ns2 cs2) (.slice Ah2 nh2 ch2) (.slice Af2 nf2 cf2) x) := Lib.hid (hX2.out.turned hM.out hgr)
            replace hS : Hid (SentAt wm DC (.slice (some ⟨g', 0, none⟩) (n8 + 1) c') x.sent) := Lib.hid (hS.out.turned hM.out hgr)
            replace hB := Below.turned hB hgr hGP hB.size
            replace hDC : DC ≤ wm.heap.size := Nat.le_trans hDC hgr.size
            replace hM := Lib.hid hM2
            clear hM2 hgr
            have hf2 : Hid (∀ g, g < g8 + 1 → (f1 g || decide (g = kq)) = x.f g) := Lib.hid (fun g hg => by
              rw [hfr.out g hg, hfm.out g hg]
              congr 1
              exact decide_eq_decide.2 ⟨fun h => by omega, fun h => by omega⟩)
            have hnf : Hid (∀ g, g < g8 + 1 → b.h g < x.h g → (f1 g || decide (g = kq)) = true) := Lib.hid (fun g hg h => by
              have h1 := hnw.out g hg h
              rw [decide_eq_true (show g = kq by omega), Bool.or_true])
            have XBc0 : wm.cell? ⟨GB, 0, none⟩ = some (.slice Aq1 nq1 cq1) := XB.cell 0
            have XBf0 : wm.frozen? ⟨GB, 0, none⟩ = false := XB.free 0
            have XBc1 : wm.cell? ⟨GB, 1, none⟩ = some (.slice Aa1 na1 ca1) := XB.cell 1
            have XBf1 : wm.frozen? ⟨GB, 1, none⟩ = false := XB.free 1
            have XBc2 : wm.cell? ⟨GB, 2, none⟩ = some (.slice As1 ns1 cs1) := XB.cell 2
            have XBf2 : wm.frozen? ⟨GB, 2, none⟩ = false := XB.free 2
            have XBc3 : wm.cell? ⟨GB, 3, none⟩ = some (.slice Ah1 nh1 ch1) := XB.cell 3
            have XBf3 : wm.frozen? ⟨GB, 3, none⟩ = false := XB.free 3
            have XBc4 : wm.cell? ⟨GB, 4, none⟩ = some (.slice Af1 nf1 cf1) := XB.cell 4
            have XBf4 : wm.frozen? ⟨GB, 4, none⟩ = false := XB.free 4
            have XBz : GB < wm.heap.size := XB.lt
            have XNc0 : wm.cell? ⟨GN, 0, none⟩ = some (.slice Aq2 nq2 cq2) := XN.cell 0
            have XNc1 : wm.cell? ⟨GN, 1, none⟩ = some (.slice Aa2 na2 ca2) := XN.cell 1
            have XNc2 : wm.cell? ⟨GN, 2, none⟩ = some (.slice As2 ns2 cs2) := XN.cell 2
            have XNc3 : wm.cell? ⟨GN, 3, none⟩ = some (.slice Ah2 nh2 ch2) := XN.cell 3
            have XNc4 : wm.cell? ⟨GN, 4, none⟩ = some (.slice Af2 nf2 cf2) := XN.cell 4
            have XNz := XN.lt
            go_wp2_with fail
            clear XBc0 XBf0 XBc1 XBf1 XBc2 XBf2 XBc3 XBf3 XBc4 XBf4 XBz
            clear XNc0 XNc1 XNc2 XNc3 XNc4 XNz
            replace hX := bx_set (Aq := Aq2) (nq := nq2) (cq := cq2) (Aa := Aa2) (na := na2) (ca := ca2) (As := As2) (ns := ns2) (cs := cs2) (Ah := Ah2) (nh := nh2) (ch := ch2) (Af := Af2) (nf := nf2) (cf := cf2) hX XB
            replace hX2 := bx_set (Aq := Aq2) (nq := nq2) (cq := cq2) (Aa := Aa2) (na := na2) (ca := ca2) (As := As2) (ns := ns2) (cs := cs2) (Ah := Ah2) (nh := nh2) (ch := ch2) (Af := Af2) (nf := nf2) (cf := cf2) hX2 XB
            replace hS := sent_set (Aq := Aq2) (nq := nq2) (cq := cq2) (Aa := Aa2) (na := na2) (ca := ca2) (As := As2) (ns := ns2) (cs := cs2) (Ah := Ah2) (nh := nh2) (ch := ch2) (Af := Af2) (nf := nf2) (cf := cf2) hS hGBD
            replace hM := map_set (Aq := Aq2) (nq := nq2) (cq := cq2) (Aa := Aa2) (na := na2) (ca := ca2) (As := As2) (ns := ns2) (cs := cs2) (Ah := Ah2) (nh := nh2) (ch := ch2) (Af := Af2) (nf := nf2) (cf := cf2) hM XB
            replace XW := (((((XW.other (a := ⟨GB, 0, none⟩) (by simp <;> omega) (.slice Aq2 nq2 cq2)).other (a := ⟨GB, 1, none⟩) (by simp <;> omega) (.slice Aa2 na2 ca2)).other (a := ⟨GB, 2, none⟩) (by simp <;> omega) (.slice As2 ns2 cs2)).other (a := ⟨GB, 3, none⟩) (by simp <;> omega) (.slice Ah2 nh2 ch2)).other (a := ⟨GB, 4, none⟩) (by simp <;> omega) (.slice Af2 nf2 cf2))
            replace hB := (((((hB.setCell (p := ⟨GB, 0, none⟩) (by simp <;> omega) (.slice Aq2 nq2 cq2)).setCell (p := ⟨GB, 1, none⟩) (by simp <;> omega) (.slice Aa2 na2 ca2)).setCell (p := ⟨GB, 2, none⟩) (by simp <;> omega) (.slice As2 ns2 cs2)).setCell (p := ⟨GB, 3, none⟩) (by simp <;> omega) (.slice Ah2 nh2 ch2)).setCell (p := ⟨GB, 4, none⟩) (by simp <;> omega) (.slice Af2 nf2 cf2))
            replace XB := (((((XB.set 0 (.slice Aq2 nq2 cq2)).set 1 (.slice Aa2 na2 ca2)).set 2 (.slice As2 ns2 cs2)).set 3 (.slice Ah2 nh2 ch2)).set 4 (.slice Af2 nf2 cf2))
            replace hDC : DC ≤ (((((wm.setCell ⟨GB, 0, none⟩ (.slice Aq2 nq2 cq2)).setCell ⟨GB, 1, none⟩ (.slice Aa2 na2 ca2)).setCell ⟨GB, 2, none⟩ (.slice As2 ns2 cs2)).setCell ⟨GB, 3, none⟩ (.slice Ah2 nh2 ch2)).setCell ⟨GB, 4, none⟩ (.slice Af2 nf2 cf2)).heap.size := by simpa using hDC
            generalize (((((wm.setCell ⟨GB, 0, none⟩ (.slice Aq2 nq2 cq2)).setCell ⟨GB, 1, none⟩ (.slice Aa2 na2 ca2)).setCell ⟨GB, 2, none⟩ (.slice As2 ns2 cs2)).setCell ⟨GB, 3, none⟩ (.slice Ah2 nh2 ch2)).setCell ⟨GB, 4, none⟩ (.slice Af2 nf2 cf2)) = wz at hX hX2 hS hM XW hB XB hDC ⊢
            simp only [List.set_cons_zero, List.set_cons_succ] at XB
            go_meet
            exact ⟨x, Aq2, nq2, cq2, Aa2, na2, ca2, As2, ns2, cs2, Ah2, nh2, ch2, Af2, nf2, cf2, (some ⟨g', 0, none⟩), (n8 + 1), c', B1, m1 + 1, fun g => f1 g || decide (g = kq), rfl, rfl, by omega, hGP, hDC, hxo, hxl, hf2, hup, hnf, hB, XB, XW, hX, hX2, hS, hSep2, hM⟩
          · obtain rfl : hdd = 0 := by omega
            have e7 : ¬ (0 : Int) < 0 := by omega
            have hf2 : Hid (∀ g, g < g8 + 1 → f1 g = x.f g) := Lib.hid (fun g hg => by
              rw [hfr.out g hg, hfm.out g hg, decide_eq_false (show ¬ (0 : Int) = (g : Int) + 1 by omega), Bool.or_false])
            have hnf : Hid (∀ g, g < g8 + 1 → b.h g < x.h g → f1 g = true) := Lib.hid (fun g hg h => by
              have h1 := hnw.out g hg h
              omega)
            go_upto_region 36 with fail
            have XBc0 : w'.cell? ⟨GB, 0, none⟩ = some (.slice Aq1 nq1 cq1) := XB.cell 0
            have XBf0 : w'.frozen? ⟨GB, 0, none⟩ = false := XB.free 0
            have XBc1 : w'.cell? ⟨GB, 1, none⟩ = some (.slice Aa1 na1 ca1) := XB.cell 1
            have XBf1 : w'.frozen? ⟨GB, 1, none⟩ = false := XB.free 1
            have XBc2 : w'.cell? ⟨GB, 2, none⟩ = some (.slice As1 ns1 cs1) := XB.cell 2
            have XBf2 : w'.frozen? ⟨GB, 2, none⟩ = false := XB.free 2
            have XBc3 : w'.cell? ⟨GB, 3, none⟩ = some (.slice Ah1 nh1 ch1) := XB.cell 3
            have XBf3 : w'.frozen? ⟨GB, 3, none⟩ = false := XB.free 3
            have XBc4 : w'.cell? ⟨GB, 4, none⟩ = some (.slice Af1 nf1 cf1) := XB.cell 4
            have XBf4 : w'.frozen? ⟨GB, 4, none⟩ = false := XB.free 4
            have XBz : GB < w'.heap.size := XB.lt
            have XNc0 : w'.cell? ⟨GN, 0, none⟩ = some (.slice Aq2 nq2 cq2) := XN.cell 0
            have XNc1 : w'.cell? ⟨GN, 1, none⟩ = some (.slice Aa2 na2 ca2) := XN.cell 1
            have XNc2 : w'.cell? ⟨GN, 2, none⟩ = some (.slice As2 ns2 cs2) := XN.cell 2
            have XNc3 : w'.cell? ⟨GN, 3, none⟩ = some (.slice Ah2 nh2 ch2) := XN.cell 3
            have XNc4 : w'.cell? ⟨GN, 4, none⟩ = some (.slice Af2 nf2 cf2) := XN.cell 4
            have XNz := XN.lt
            go_wp2_with fail
            clear XBc0 XBf0 XBc1 XBf1 XBc2 XBf2 XBc3 XBf3 XBc4 XBf4 XBz
            clear XNc0 XNc1 XNc2 XNc3 XNc4 XNz
            clear e7
            replace hX := bx_set (Aq := Aq2) (nq := nq2) (cq := cq2) (Aa := Aa2) (na := na2) (ca := ca2) (As := As2) (ns := ns2) (cs := cs2) (Ah := Ah2) (nh := nh2) (ch := ch2) (Af := Af2) (nf := nf2) (cf := cf2) hX XB
            replace hX2 := bx_set (Aq := Aq2) (nq := nq2) (cq := cq2) (Aa := Aa2) (na := na2) (ca := ca2) (As := As2) (ns := ns2) (cs := cs2) (Ah := Ah2) (nh := nh2) (ch := ch2) (Af := Af2) (nf := nf2) (cf := cf2) hX2 XB
            replace hS := sent_set (Aq := Aq2) (nq := nq2) (cq := cq2) (Aa := Aa2) (na := na2) (ca := ca2) (As := As2) (ns := ns2) (cs := cs2) (Ah := Ah2) (nh := nh2) (ch := ch2) (Af := Af2) (nf := nf2) (cf := cf2) hS hGBD
            replace hM := map_set (Aq := Aq2) (nq := nq2) (cq := cq2) (Aa := Aa2) (na := na2) (ca := ca2) (As := As2) (ns := ns2) (cs := cs2) (Ah := Ah2) (nh := nh2) (ch := ch2) (Af := Af2) (nf := nf2) (cf := cf2) hM XB
            replace XW := (((((XW.other (a := ⟨GB, 0, none⟩) (by simp <;> omega) (.slice Aq2 nq2 cq2)).other (a := ⟨GB, 1, none⟩) (by simp <;> omega) (.slice Aa2 na2 ca2)).other (a := ⟨GB, 2, none⟩) (by simp <;> omega) (.slice As2 ns2 cs2)).other (a := ⟨GB, 3, none⟩) (by simp <;> omega) (.slice Ah2 nh2 ch2)).other (a := ⟨GB, 4, none⟩) (by simp <;> omega) (.slice Af2 nf2 cf2))
            replace hB := (((((hB.setCell (p := ⟨GB, 0, none⟩) (by simp <;> omega) (.slice Aq2 nq2 cq2)).setCell (p := ⟨GB, 1, none⟩) (by simp <;> omega) (.slice Aa2 na2 ca2)).setCell (p := ⟨GB, 2, none⟩) (by simp <;> omega) (.slice As2 ns2 cs2)).setCell (p := ⟨GB, 3, none⟩) (by simp <;> omega) (.slice Ah2 nh2 ch2)).setCell (p := ⟨GB, 4, none⟩) (by simp <;> omega) (.slice Af2 nf2 cf2))
            replace XB := (((((XB.set 0 (.slice Aq2 nq2 cq2)).set 1 (.slice Aa2 na2 ca2)).set 2 (.slice As2 ns2 cs2)).set 3 (.slice Ah2 nh2 ch2)).set 4 (.slice Af2 nf2 cf2))
            replace hDC : DC ≤ (((((w'.setCell ⟨GB, 0, none⟩ (.slice Aq2 nq2 cq2)).setCell ⟨GB, 1, none⟩ (.slice Aa2 na2 ca2)).setCell ⟨GB, 2, none⟩ (.slice As2 ns2 cs2)).setCell ⟨GB, 3, none⟩ (.slice Ah2 nh2 ch2)).setCell ⟨GB, 4, none⟩ (.slice Af2 nf2 cf2)).heap.size := by simpa using hDC
            generalize (((((w'.setCell ⟨GB, 0, none⟩ (.slice Aq2 nq2 cq2)).setCell ⟨GB, 1, none⟩ (.slice Aa2 na2 ca2)).setCell ⟨GB, 2, none⟩ (.slice As2 ns2 cs2)).setCell ⟨GB, 3, none⟩ (.slice Ah2 nh2 ch2)).setCell ⟨GB, 4, none⟩ (.slice Af2 nf2 cf2)) = wz at hX hX2 hS hM XW hB XB hDC ⊢
            simp only [List.set_cons_zero, List.set_cons_succ] at XB
            go_meet
            exact ⟨x, Aq2, nq2, cq2, Aa2, na2, ca2, As2, ns2, cs2, Ah2, nh2, ch2, Af2, nf2, cf2, (some ⟨g', 0, none⟩), (n8 + 1), c', B1, m1, f1, rfl, rfl, by omega, hGP, hDC, hxo, hxl, hf2, hup, hnf, hB, XB, XW, hX, hX2, hS, hSep2, hM⟩
      | true =>
        as_aux_lemma =>
          clear XM
          obtain ⟨x, l, hT, hxo, hxs, hxh, hxf, hle⟩ : ∃ x l, b.tickT = (x, l, 0) ∧ x.okB = true ∧ x.sent = b.sent ∧ x.heard = b.heard ∧ (∀ g, x.f g = false) ∧ l = (List.range b.heard.length).map b.orderB := by
            obtain ⟨h8, h9⟩ := tick_ok hok.out
            refine ⟨_, _, h8, h9, rfl, rfl, fun g => ?_, rfl⟩
            show (List.replicate b.heard.length false).getD g false = false
            rw [List.getD_eq_getElem?_getD, List.getElem?_replicate]
            split <;> rfl
          replace hT := Lib.hid hT
          replace hxo := Lib.hid hxo
          replace hxf := Lib.hid hxf
          have hxl : Hid (x.heard.length = g8 + 1) := by rw [Hid, hxh]; exact hlen.out
          have hll : Hid (l.length = g8 + 1) := by rw [Hid, hle, List.length_map, List.length_range, hlen.out]
          have hlg : Hid (∀ k, k < g8 + 1 → l.getD k 0 = b.orderB k) := Lib.hid (fun k hk => by
            rw [hle, List.getD_eq_getElem?_getD, List.getElem?_map, List.getElem?_range (by rw [hlen.out]; exact hk)]
            rfl)
          have hup : Hid (∀ g, g < g8 + 1 → b.h g ≤ x.h g) := Lib.hid (fun g _ => by rw [Bx.h, Bx.h, hxh]; exact Int.le_refl _)
          have hnf : Hid (∀ g, g < g8 + 1 → b.h g < x.h g → (fun _ => false) g = true) := Lib.hid (fun g _ h => by rw [Bx.h, Bx.h, hxh] at h; exact absurd h (Int.lt_irrefl _))
          have hf2 : Hid (∀ g, g < g8 + 1 → (fun _ => false) g = x.f g) := Lib.hid (fun g _ => (hxf.out g).symm)
          replace hxs := Lib.hid hxs
          clear hle hxh
          have XBc0 : w20.cell? ⟨GB, 0, none⟩ = some (.slice Aq1 nq1 cq1) := XB.cell 0
          have XBc1 : w20.cell? ⟨GB, 1, none⟩ = some (.slice Aa1 na1 ca1) := XB.cell 1
          have XBc2 : w20.cell? ⟨GB, 2, none⟩ = some (.slice As1 ns1 cs1) := XB.cell 2
          have XBc3 : w20.cell? ⟨GB, 3, none⟩ = some (.slice Ah1 nh1 ch1) := XB.cell 3
          have XBc4 : w20.cell? ⟨GB, 4, none⟩ = some (.slice Af1 nf1 cf1) := XB.cell 4
          have XBz := XB.lt
          go_wp2_with fail
          clear XBc0 XBc1 XBc2 XBc3 XBc4 XBz
          refine (oTickV_is b hX hT).mono ?_
          rintro e w21 hh
          obtain ⟨Aq2, nq2, cq2, Aa2, na2, ca2, As2, ns2, cs2, Ah2, nh2, ch2, Af2, nf2, cf2, Al, nl2, cl2, rfl, hX2, hL, hb, h3⟩ := hh.sl
          have hSep2 : Hid (SepV (.slice A8 n8 c8) (.slice Aa2 na2 ca2) (.slice As2 ns2 cs2) (.slice Ah2 nh2 ch2)) := Lib.hid (hSep.out.new hS.out h3)
          clear h3 hh
          replace XB := XB.later hb
          replace XW := XW.later hb
          replace hX := hid_bx hX hb
          replace hS := hid_sent hS hb
          replace hM := hid_map hM hb
          replace hB := hB.trans (hb.mono hB.size)
          replace hDC := Nat.le_trans hDC hb.size
          clear hb
          have hG13 : GM + 1 < w21.heap.size := XW.lt
          go_upto_region 17 with fail
          have hb := (Below.refl w21.heap.size w21).alloc (Nat.le_refl _) (.cells #[.slice Aq2 nq2 cq2, .slice Aa2 na2 ca2, .slice As2 ns2 cs2, .slice Ah2 nh2 ch2, .slice Af2 nf2 cf2] 30)
          have XN := Box.new w21 [.slice Aq2 nq2 cq2, .slice Aa2 na2 ca2, .slice As2 ns2 cs2, .slice Ah2 nh2 ch2, .slice Af2 nf2 cf2] 30
          replace XB := XB.later hb
          replace XW := XW.later hb
          replace hX := hid_bx hX hb
          replace hS := hid_sent hS hb
          replace hM := hid_map hM hb
          replace hX2 := hid_bx hX2 hb
          replace hL := hid_hd hL hb
          replace hB := hB.trans (hb.mono hB.size)
          replace hDC := Nat.le_trans hDC hb.size
          clear hb
          generalize w21.alloc (.cells #[.slice Aq2 nq2 cq2, .slice Aa2 na2 ca2, .slice As2 ns2 cs2, .slice Ah2 nh2 ch2, .slice Af2 nf2 cf2] 30) = w22 at XB XW XN hX hS hM hX2 hL hB hDC ⊢
          generalize w21.heap.size = GN at XN hG13 ⊢
          have hnl : nl2 ≤ g8 + 1 := Nat.le_of_eq (by rw [← hL.out.len.1]; exact hll.out)
          have hnlb : g8 + 1 ≤ nl2 := Nat.le_of_eq (by rw [← hL.out.len.1]; exact hll.out.symm)
          have hn1 : nh1 ≤ g8 + 1 := Nat.le_of_eq (by rw [← hX.out.lens.2.2.2.1]; exact hlen.out)
          have hn1b : g8 + 1 ≤ nh1 := Nat.le_of_eq (by rw [← hX.out.lens.2.2.2.1]; exact hlen.out.symm)
          have hn2 : nh2 ≤ g8 + 1 := Nat.le_of_eq (by rw [← hX2.out.lens.2.2.2.1]; exact hxl.out)
          have hn2b : g8 + 1 ≤ nh2 := Nat.le_of_eq (by rw [← hX2.out.lens.2.2.2.1]; exact hxl.out.symm)
          have hn8 : Hid (b.sent.length = n8) := by
            obtain ⟨A, c, hv⟩ := hS.out.form
            cases hv
            exact Lib.hid rfl
          have e4 : ((nl2 : Int) != 1 + (g8 : Int)) = false := by simp; omega
          have e5 : ((nh2 : Int) != 1 + (g8 : Int)) = false := by simp; omega
          have e6 : ((nh1 : Int) != 1 + (g8 : Int)) = false := by simp; omega
          have XBc0 : w22.cell? ⟨GB, 0, none⟩ = some (.slice Aq1 nq1 cq1) := XB.cell 0
          have XBc1 : w22.cell? ⟨GB, 1, none⟩ = some (.slice Aa1 na1 ca1) := XB.cell 1
          have XBc2 : w22.cell? ⟨GB, 2, none⟩ = some (.slice As1 ns1 cs1) := XB.cell 2
          have XBc3 : w22.cell? ⟨GB, 3, none⟩ = some (.slice Ah1 nh1 ch1) := XB.cell 3
          have XBc4 : w22.cell? ⟨GB, 4, none⟩ = some (.slice Af1 nf1 cf1) := XB.cell 4
          have XBz := XB.lt
          have XNc0 : w22.cell? ⟨GN, 0, none⟩ = some (.slice Aq2 nq2 cq2) := XN.cell 0
          have XNc1 : w22.cell? ⟨GN, 1, none⟩ = some (.slice Aa2 na2 ca2) := XN.cell 1
          have XNc2 : w22.cell? ⟨GN, 2, none⟩ = some (.slice As2 ns2 cs2) := XN.cell 2
          have XNc3 : w22.cell? ⟨GN, 3, none⟩ = some (.slice Ah2 nh2 ch2) := XN.cell 3
          have XNc4 : w22.cell? ⟨GN, 4, none⟩ = some (.slice Af2 nf2 cf2) := XN.cell 4
          have XNz := XN.lt
          go_upto_region 20 with fail
          clear XBc0 XBc1 XBc2 XBc3 XBc4 XBz
          clear XNc0 XNc1 XNc2 XNc3 XNc4 XNz
          clear e4 e5 e6
          go_loopw [83] (fun i wr => ∃ k : Nat, k ≤ nl2 ∧ i = .int .i64 k ∧ w22 = wr) (fun i _ => nl2 - (intOf i).toNat)
          case atStart => exact ⟨0, by omega, rfl, rfl⟩
          case round =>
            obtain ⟨k, hk, rfl, rfl⟩ := hrel
            rcases Nat.lt_or_ge k nl2 with hlt | hge
            · have hlm : (k : Int) < (nl2 : Int) := by omega
              obtain ⟨bl, ol, rfl, hbl, q0⟩ := hL.out.2.one (k := k) (by rw [hll.out]; omega)
              rw [hlg.out k (by omega)] at q0
              obtain ⟨u, hu⟩ : ∃ u, f1 k = u := ⟨_, rfl⟩
              have hlk := hM.out.look (g := k) (by omega)
              rw [hu] at hlk
              have hbf : Hid (b.f k = u) := by rw [Hid, ← hfm.out k (by omega)]; exact hu
              cases u with
              | false =>
                have hor : b.orderB k = -1 := by rw [Bx.orderB, hbf.out]; rfl
                rw [hor] at q0
                clear hu hor
                go_wp2
                exact ⟨⟨k + 1, by omega, by go_num, by first | trivial | rfl⟩, by simp [intOf]; omega⟩
              | true =>
                have hor : b.orderB k = (b.at (b.h k - 1)).2 := by rw [Bx.orderB, hbf.out]; rfl
                have h1 := heard_bits hok.out (show k < b.heard.length by rw [hlen.out]; omega) hbf.out
                obtain ⟨-, h2, -⟩ := h_range hok.out (show k < b.heard.length by rw [hlen.out]; omega)
                rw [hn8.out] at h2
                obtain ⟨bh, oh, rfl, hbh, q1⟩ := hX.out.heard.2.one (k := k) (by rw [hlen.out]; omega)
                replace q1 : w22.cell? ⟨bh, oh + k, none⟩ = some (.int .i64 (b.h k)) := q1
                obtain ⟨hv, hhv⟩ : ∃ hv, b.h k = hv := ⟨_, rfl⟩
                rw [hhv] at q1 h1 h2 hor
                obtain ⟨j0, rfl⟩ : ∃ j0 : Nat, hv = (j0 : Int) + 1 := ⟨(hv - 1).toNat, by omega⟩
                have hj0 : j0 < n8 := by omega
                have hLs := hS.out.lks (by rw [hn8.out]; unfold maxLen; have h9 := (of_decide_eq_true (okB_parts hok.out).1).2.2; rw [hn8.out] at h9; omega)
                have hn84 : n8 ≤ 4096 := by
                  have h9 := (of_decide_eq_true (okB_parts hok.out).1).2.2
                  rw [hn8.out] at h9
                  exact h9
                obtain ⟨bs, os, rfl, hbs, hc⟩ := hLs.lk (by rw [hn8.out]; omega)
                obtain ⟨-, q2⟩ := hc j0 (by rw [hn8.out]; exact hj0)
                rw [show (j0 : Int) + 1 - 1 = (j0 : Int) by omega, Bx.at, Int.toNat_natCast] at hor
                rw [← hor] at q2
                obtain ⟨og, hog⟩ : ∃ og, b.orderB k = og := ⟨_, rfl⟩
                rw [hog] at q0 q2
                have e1 : ¬ (j0 : Int) + 1 < 1 := by omega
                have e2 : ¬ (n8 : Int) < (j0 : Int) + 1 := by omega
                have e3 : (j0 : Int) < (n8 : Int) := by omega
                have e9 : (k : Int) < (nh1 : Int) := by omega
                have p3 : wrap64 ((j0 : Int) + 1 - 1) = (j0 : Int) := by unfold wrap64; omega
                have p4 : IntKind.i64.wrap ((j0 : Int) + 1 - 1) = (j0 : Int) := by rw [IntKind.wrap_i64]; omega
                clear hc hLs hog hor hhv h1 h2 hu
                have XBc0 : w22.cell? ⟨GB, 0, none⟩ = some (.slice Aq1 nq1 cq1) := XB.cell 0
                have XBc1 : w22.cell? ⟨GB, 1, none⟩ = some (.slice Aa1 na1 ca1) := XB.cell 1
                have XBc2 : w22.cell? ⟨GB, 2, none⟩ = some (.slice As1 ns1 cs1) := XB.cell 2
                have XBc3 : w22.cell? ⟨GB, 3, none⟩ = some (.slice (some ⟨bh, oh, none⟩) nh1 ch1) := XB.cell 3
                have XBc4 : w22.cell? ⟨GB, 4, none⟩ = some (.slice Af1 nf1 cf1) := XB.cell 4
                have XBz := XB.lt
                go_wp2
                exact ⟨⟨k + 1, by omega, by go_num, by first | trivial | rfl⟩, by simp [intOf]; omega⟩
            obtain rfl : nl2 = k := by omega
            have hlm : ¬ ((nl2 : Int) < (nl2 : Int)) := by omega
            go_upto_region 30 with fail
            have hDC0 : DC ≤ w22.heap.size := hDC
            clear hlm hL
            replace hS : Hid (SentAt w22 DC (.slice A8 n8 c8) x.sent) := by rw [hxs.out]; exact hS
            have hb := (Below.refl w22.heap.size w22).alloc (Nat.le_refl _) (.map #[] 0)
            have hMn := MapB.made w22
            have hGP2 : w.heap.size ≤ w22.heap.size := hB.size
            clear hM
            have XO := XN
            have XOc0 : w22.cell? ⟨GN, 0, none⟩ = some (.slice Aq2 nq2 cq2) := XO.cell 0
            have XOc1 : w22.cell? ⟨GN, 1, none⟩ = some (.slice Aa2 na2 ca2) := XO.cell 1
            have XOc2 : w22.cell? ⟨GN, 2, none⟩ = some (.slice As2 ns2 cs2) := XO.cell 2
            have XOc3 : w22.cell? ⟨GN, 3, none⟩ = some (.slice Ah2 nh2 ch2) := XO.cell 3
            have XOc4 : w22.cell? ⟨GN, 4, none⟩ = some (.slice Af2 nf2 cf2) := XO.cell 4
            have XOz := XO.lt
            replace XB := XB.later hb
            replace XW := XW.later hb
            replace XN := XN.later hb
            replace hX := hid_bx hX hb
            replace hS := hid_sent hS hb
            replace hX2 := hid_bx hX2 hb
            replace hB := hB.trans (hb.mono hB.size)
            replace hDC := Nat.le_trans hDC hb.size
            have hmk : (Instr.makeMap 59 none).run Try.prog w22 = .ok (.map (some w22.heap.size)) (w22.alloc (.map #[] 0)) := rfl
            generalize w22.alloc (.map #[] 0) = w23 at XB XW XN hX hS hX2 hB hDC hMn hmk
            have hM := Lib.hid hMn
            clear hMn hb
            have XBc0 : w23.cell? ⟨GB, 0, none⟩ = some (.slice Aq1 nq1 cq1) := XB.cell 0
            have XBf0 : w23.frozen? ⟨GB, 0, none⟩ = false := XB.free 0
            have XBc1 : w23.cell? ⟨GB, 1, none⟩ = some (.slice Aa1 na1 ca1) := XB.cell 1
            have XBf1 : w23.frozen? ⟨GB, 1, none⟩ = false := XB.free 1
            have XBc2 : w23.cell? ⟨GB, 2, none⟩ = some (.slice As1 ns1 cs1) := XB.cell 2
            have XBf2 : w23.frozen? ⟨GB, 2, none⟩ = false := XB.free 2
            have XBc3 : w23.cell? ⟨GB, 3, none⟩ = some (.slice Ah1 nh1 ch1) := XB.cell 3
            have XBf3 : w23.frozen? ⟨GB, 3, none⟩ = false := XB.free 3
            have XBc4 : w23.cell? ⟨GB, 4, none⟩ = some (.slice Af1 nf1 cf1) := XB.cell 4
            have XBf4 : w23.frozen? ⟨GB, 4, none⟩ = false := XB.free 4
            have XBz : GB < w23.heap.size := XB.lt
            have XNc0 : w23.cell? ⟨GN, 0, none⟩ = some (.slice Aq2 nq2 cq2) := XN.cell 0
            have XNc1 : w23.cell? ⟨GN, 1, none⟩ = some (.slice Aa2 na2 ca2) := XN.cell 1
            have XNc2 : w23.cell? ⟨GN, 2, none⟩ = some (.slice As2 ns2 cs2) := XN.cell 2
            have XNc3 : w23.cell? ⟨GN, 3, none⟩ = some (.slice Ah2 nh2 ch2) := XN.cell 3
            have XNc4 : w23.cell? ⟨GN, 4, none⟩ = some (.slice Af2 nf2 cf2) := XN.cell 4
            have XNz := XN.lt
            go_wp2_with fail
            clear hmk
            clear XBc0 XBf0 XBc1 XBf1 XBc2 XBf2 XBc3 XBf3 XBc4 XBf4 XBz
            clear XNc0 XNc1 XNc2 XNc3 XNc4 XNz
            clear XOc0 XOc1 XOc2 XOc3 XOc4 XOz
            clear XO
            replace hX := bx_set (Aq := Aq2) (nq := nq2) (cq := cq2) (Aa := Aa2) (na := na2) (ca := ca2) (As := As2) (ns := ns2) (cs := cs2) (Ah := Ah2) (nh := nh2) (ch := ch2) (Af := Af2) (nf := nf2) (cf := cf2) hX XB
            replace hX2 := bx_set (Aq := Aq2) (nq := nq2) (cq := cq2) (Aa := Aa2) (na := na2) (ca := ca2) (As := As2) (ns := ns2) (cs := cs2) (Ah := Ah2) (nh := nh2) (ch := ch2) (Af := Af2) (nf := nf2) (cf := cf2) hX2 XB
            replace hS := sent_set (Aq := Aq2) (nq := nq2) (cq := cq2) (Aa := Aa2) (na := na2) (ca := ca2) (As := As2) (ns := ns2) (cs := cs2) (Ah := Ah2) (nh := nh2) (ch := ch2) (Af := Af2) (nf := nf2) (cf := cf2) hS hGBD
            replace hM := map_set (Aq := Aq2) (nq := nq2) (cq := cq2) (Aa := Aa2) (na := na2) (ca := ca2) (As := As2) (ns := ns2) (cs := cs2) (Ah := Ah2) (nh := nh2) (ch := ch2) (Af := Af2) (nf := nf2) (cf := cf2) hM XB
            replace XW := (((((XW.other (a := ⟨GB, 0, none⟩) (by simp <;> omega) (.slice Aq2 nq2 cq2)).other (a := ⟨GB, 1, none⟩) (by simp <;> omega) (.slice Aa2 na2 ca2)).other (a := ⟨GB, 2, none⟩) (by simp <;> omega) (.slice As2 ns2 cs2)).other (a := ⟨GB, 3, none⟩) (by simp <;> omega) (.slice Ah2 nh2 ch2)).other (a := ⟨GB, 4, none⟩) (by simp <;> omega) (.slice Af2 nf2 cf2))
            replace hB := (((((hB.setCell (p := ⟨GB, 0, none⟩) (by simp <;> omega) (.slice Aq2 nq2 cq2)).setCell (p := ⟨GB, 1, none⟩) (by simp <;> omega) (.slice Aa2 na2 ca2)).setCell (p := ⟨GB, 2, none⟩) (by simp <;> omega) (.slice As2 ns2 cs2)).setCell (p := ⟨GB, 3, none⟩) (by simp <;> omega) (.slice Ah2 nh2 ch2)).setCell (p := ⟨GB, 4, none⟩) (by simp <;> omega) (.slice Af2 nf2 cf2))
            replace XB := (((((XB.set 0 (.slice Aq2 nq2 cq2)).set 1 (.slice Aa2 na2 ca2)).set 2 (.slice As2 ns2 cs2)).set 3 (.slice Ah2 nh2 ch2)).set 4 (.slice Af2 nf2 cf2))
            replace hDC : DC ≤ (((((w23.setCell ⟨GB, 0, none⟩ (.slice Aq2 nq2 cq2)).setCell ⟨GB, 1, none⟩ (.slice Aa2 na2 ca2)).setCell ⟨GB, 2, none⟩ (.slice As2 ns2 cs2)).setCell ⟨GB, 3, none⟩ (.slice Ah2 nh2 ch2)).setCell ⟨GB, 4, none⟩ (.slice Af2 nf2 cf2)).heap.size := by simpa using hDC
            generalize (((((w23.setCell ⟨GB, 0, none⟩ (.slice Aq2 nq2 cq2)).setCell ⟨GB, 1, none⟩ (.slice Aa2 na2 ca2)).setCell ⟨GB, 2, none⟩ (.slice As2 ns2 cs2)).setCell ⟨GB, 3, none⟩ (.slice Ah2 nh2 ch2)).setCell ⟨GB, 4, none⟩ (.slice Af2 nf2 cf2)) = wz at hX hX2 hS hM XW hB XB hDC ⊢
            simp only [List.set_cons_zero, List.set_cons_succ] at XB
            go_meet
            exact ⟨x, Aq2, nq2, cq2, Aa2, na2, ca2, As2, ns2, cs2, Ah2, nh2, ch2, Af2, nf2, cf2, A8, n8, c8, _, 0, fun _ => false, rfl, rfl, by omega, hGP2, hDC, hxo, hxl, hf2, hup, hnf, hB, XB, XW, hX, hX2, hS, hSep2, hM⟩
    case rest =>
    clear hB XB XW hX hS hM hDC hSep h8 XM hGP hDM hfm
    obtain ⟨x, Aq2, nq2, cq2, Aa2, na2, ca2, As2, ns2, cs2, Ah2, nh2, ch2, Af2, nf2, cf2, A9, n9, c9, B2, m2, f2, rfl, rfl, hm2, hGP, hDC, hxo, hxl, hf2, hup, hnf, hB, XB, XW, hX, hX2, hS, hSep2, hM⟩ := hcut
    as_aux_lemma =>
      have hn1 : nh1 ≤ g8 + 1 := Nat.le_of_eq (by rw [← hX.out.lens.2.2.2.1]; exact hlen.out)
      have hn1b : g8 + 1 ≤ nh1 := Nat.le_of_eq (by rw [← hX.out.lens.2.2.2.1]; exact hlen.out.symm)
      have hn2 : nh2 ≤ g8 + 1 := Nat.le_of_eq (by rw [← hX2.out.lens.2.2.2.1]; exact hxl.out)
      have hn2b : g8 + 1 ≤ nh2 := Nat.le_of_eq (by rw [← hX2.out.lens.2.2.2.1]; exact hxl.out.symm)
      have hn9 : Hid (x.sent.length = n9) := by
        obtain ⟨A, c, hv⟩ := hS.out.form
        cases hv
        exact Lib.hid rfl
      obtain rfl : n9 = ns2 := by rw [← hn9.out]; exact hX2.out.lens.2.2.1
      have hn4 : n9 ≤ 4096 := by
        have h9 := (of_decide_eq_true (okB_parts hxo.out).1).2.2
        rw [hn9.out] at h9
        exact h9
      have XBc0 : wc.cell? ⟨GB, 0, none⟩ = some (.slice Aq2 nq2 cq2) := XB.cell 0
      have XBc1 : wc.cell? ⟨GB, 1, none⟩ = some (.slice Aa2 na2 ca2) := XB.cell 1
      have XBc2 : wc.cell? ⟨GB, 2, none⟩ = some (.slice As2 n9 cs2) := XB.cell 2
      have XBc3 : wc.cell? ⟨GB, 3, none⟩ = some (.slice Ah2 nh2 ch2) := XB.cell 3
      have XBc4 : wc.cell? ⟨GB, 4, none⟩ = some (.slice Af2 nf2 cf2) := XB.cell 4
      have XBz := XB.lt
      go_wp2_with fail
      clear XBc0 XBc1 XBc2 XBc3 XBc4 XBz
      refine (oCheck_is (Lib.hid (show x.checkT = 0 by rw [Bx.checkT, if_pos hxo.out])) hX2.out).mono ?_
      rintro e w40 ⟨rfl, hb⟩
      replace XB := XB.later hb
      replace XW := XW.later hb
      replace hX := hid_bx hX hb
      replace hX2 := hid_bx hX2 hb
      replace hS := hid_sent hS hb
      replace hM := hid_map hM hb
      replace hB := hB.trans (hb.mono hB.size)
      replace hDC := Nat.le_trans hDC hb.size
      clear hb
      have e5 : ((nh2 : Int) != 1 + (g8 : Int)) = false := by simp; omega
      have e6 : ((n9 : Int) != (n9 : Int)) = false := by simp
      have XBc0 : w40.cell? ⟨GB, 0, none⟩ = some (.slice Aq2 nq2 cq2) := XB.cell 0
      have XBc1 : w40.cell? ⟨GB, 1, none⟩ = some (.slice Aa2 na2 ca2) := XB.cell 1
      have XBc2 : w40.cell? ⟨GB, 2, none⟩ = some (.slice As2 n9 cs2) := XB.cell 2
      have XBc3 : w40.cell? ⟨GB, 3, none⟩ = some (.slice Ah2 nh2 ch2) := XB.cell 3
      have XBc4 : w40.cell? ⟨GB, 4, none⟩ = some (.slice Af2 nf2 cf2) := XB.cell 4
      have XBz := XB.lt
      go_upto_region 40 with fail
      clear XBc0 XBc1 XBc2 XBc3 XBc4 XBz
      clear e5 e6
      go_loopw [174] (fun i wr => ∃ k : Nat, k ≤ n9 ∧ i = .int .i64 k ∧ DC ≤ wr.heap.size ∧ Below w.heap.size w wr ∧ Box wr GB [.slice Aq2 nq2 cq2, .slice Aa2 na2 ca2, .slice As2 n9 cs2, .slice Ah2 nh2 ch2, .slice Af2 nf2 cf2] ∧ Box wr (GM + 1) [.slice Aq1 nq1 cq1, .slice Aa1 na1 ca1, .slice As1 ns1 cs1, .slice Ah1 nh1 ch1, .slice Af1 nf1 cf1] ∧ Hid (BxAt wr wr.heap.size (.slice Aq1 nq1 cq1) (.slice Aa1 na1 ca1) (.slice As1 ns1 cs1) (.slice Ah1 nh1 ch1) (.slice Af1 nf1 cf1) b) ∧ Hid (BxAt wr wr.heap.size (.slice Aq2 nq2 cq2) (.slice Aa2 na2 ca2) (.slice As2 n9 cs2) (.slice Ah2 nh2 ch2) (.slice Af2 nf2 cf2) x) ∧ Hid (SentAt wr DC (.slice A9 n9 c9) x.sent) ∧ Hid (MapB wr B2 m2 f2)) (fun i _ => n9 - (intOf i).toNat)
      case atStart => exact ⟨0, by omega, rfl, hDC, hB, XB, XW, hX, hX2, hS, hM⟩
      case round =>
        clear hDC hB XB XW hX hX2 hS hM
        obtain ⟨k, hk, rfl, hDC, hB, XB, XW, hX, hX2, hS, hM⟩ := hrel
        obtain ⟨wp, rfl⟩ : ∃ wp : World, wp = wr := ⟨_, rfl⟩
        rcases Nat.lt_or_ge k n9 with hlt | hge
        · have hlm : (k : Int) < (n9 : Int) := by omega
          obtain ⟨bs, os, rfl, hbs, hc⟩ := (hS.out.lks (by rw [hn9.out]; unfold maxLen; omega)).lk (by rw [hn9.out]; omega)
          obtain ⟨q0, q1⟩ := hc k (by rw [hn9.out]; exact hlt)
          obtain ⟨bt, ot, rfl, hbt, hc2⟩ := hX2.out.sent.lk (by rw [hn9.out]; omega)
          obtain ⟨q2, q3⟩ := hc2 k (by rw [hn9.out]; exact hlt)
          clear hc hc2
          generalize (x.sent.getD k (0, 0)).1 = u at q0 q2
          generalize (x.sent.getD k (0, 0)).2 = v at q1 q3
          go_upto_region 42 with fail
          clear q0 q1
          have hb := (Below.refl wp.heap.size wp).alloc (Nat.le_refl _) (.cells #[.int .i64 u, .int .i64 v] 48)
          have XE := Box.new wp [.int .i64 u, .int .i64 v] 48
          replace q2 := (hb.cell hbt).trans q2
          replace q3 := (hb.cell hbt).trans q3
          have hbt2 := Nat.lt_of_lt_of_le hbt hb.size
          replace XB := XB.later hb
          replace XW := XW.later hb
          replace hX := hid_bx hX hb
          replace hX2 := hid_bx hX2 hb
          replace hS := hid_sent hS hb
          replace hM := hid_map hM hb
          replace hB := hB.trans (hb.mono hB.size)
          replace hDC := Nat.le_trans hDC hb.size
          clear hb
          generalize wp.alloc (.cells #[.int .i64 u, .int .i64 v] 48) = wq at XE q2 q3 hbt2 hDC XB XW hX hX2 hS hM hB ⊢
          generalize wp.heap.size = GE at XE ⊢
          have E0 : wq.cell? ⟨GE, 0, none⟩ = some (.int .i64 u) := XE.cell 0
          have E1 : wq.cell? ⟨GE, 1, none⟩ = some (.int .i64 v) := XE.cell 1
          have Ez := XE.lt
          have XBc0 : wq.cell? ⟨GB, 0, none⟩ = some (.slice Aq2 nq2 cq2) := XB.cell 0
          have XBc1 : wq.cell? ⟨GB, 1, none⟩ = some (.slice Aa2 na2 ca2) := XB.cell 1
          have XBc2 : wq.cell? ⟨GB, 2, none⟩ = some (.slice (some ⟨bt, ot, none⟩) n9 cs2) := XB.cell 2
          have XBc3 : wq.cell? ⟨GB, 3, none⟩ = some (.slice Ah2 nh2 ch2) := XB.cell 3
          have XBc4 : wq.cell? ⟨GB, 4, none⟩ = some (.slice Af2 nf2 cf2) := XB.cell 4
          have XBz := XB.lt
          go_region
          clear XBc0 XBc1 XBc2 XBc3 XBc4 XBz
          clear E0 E1 Ez q2 q3 XE hbt hbt2
          have hb := (Below.refl wq.heap.size wq).drew
          replace XB := XB.later hb
          replace XW := XW.later hb
          replace hX := hid_bx hX hb
          replace hX2 := hid_bx hX2 hb
          replace hS := hid_sent hS hb
          replace hM := hid_map hM hb
          replace hB := hB.trans (hb.mono hB.size)
          replace hDC := Nat.le_trans hDC hb.size
          clear hb
          generalize wq.drew = wt at XB XW hX hX2 hS hM hB hDC ⊢
          go_wp2
          exact ⟨⟨k + 1, by omega, by go_num, hDC, hB, XB, XW, hX, hX2, hS, hM⟩, by simp [intOf]; omega⟩
        obtain rfl : n9 = k := by omega
        have hlm : ¬ ((n9 : Int) < (n9 : Int)) := by omega
        have XBc0 : wp.cell? ⟨GB, 0, none⟩ = some (.slice Aq2 nq2 cq2) := XB.cell 0
        have XBc1 : wp.cell? ⟨GB, 1, none⟩ = some (.slice Aa2 na2 ca2) := XB.cell 1
        have XBc2 : wp.cell? ⟨GB, 2, none⟩ = some (.slice As2 n9 cs2) := XB.cell 2
        have XBc3 : wp.cell? ⟨GB, 3, none⟩ = some (.slice Ah2 nh2 ch2) := XB.cell 3
        have XBc4 : wp.cell? ⟨GB, 4, none⟩ = some (.slice Af2 nf2 cf2) := XB.cell 4
        have XBz := XB.lt
        go_upto_region 46 with fail
        clear XBc0 XBc1 XBc2 XBc3 XBc4 XBz
        clear hlm hge
        go_loopw [190] (fun i wr => ∃ k : Nat, k ≤ nh2 ∧ i = .int .i64 k ∧ wp = wr) (fun i _ => nh2 - (intOf i).toNat)
        case atStart => exact ⟨0, by omega, rfl, rfl⟩
        case round =>
          obtain ⟨k, hk, rfl, rfl⟩ := hrel
          rcases Nat.lt_or_ge k nh2 with hlt | hge
          rotate_left
          · obtain rfl : nh2 = k := by omega
            have hlm : ¬ ((nh2 : Int) < (nh2 : Int)) := by omega
            go_wp2
            exact ⟨⟨j + 1, x, Aq2, nq2, cq2, Aa2, na2, ca2, As2, n9, cs2, Ah2, nh2, ch2, Af2, nf2, cf2, A9, n9, c9, B2, m2, f2, by omega, rfl, rfl, by go_num, by omega, hGP, hDC, hxo, hxl, hf2, hB, XB, hX2, hS, hSep2, hM⟩, by simp [intOf]; omega⟩
          have hlm : (k : Int) < (nh2 : Int) := by omega
          have e9 : (k : Int) < (nh1 : Int) := by omega
          obtain ⟨bh, oh, rfl, hbh, q0⟩ := hX2.out.heard.2.one (k := k) (by rw [hxl.out]; omega)
          replace q0 : wp.cell? ⟨bh, oh + k, none⟩ = some (.int .i64 (x.h k)) := q0
          obtain ⟨bw, ow, rfl, hbw, q1⟩ := hX.out.heard.2.one (k := k) (by rw [hlen.out]; omega)
          replace q1 : wp.cell? ⟨bw, ow + k, none⟩ = some (.int .i64 (b.h k)) := q1
          have hup1 := hup.out k (by omega)
          have hnf1 := hnf.out k (by omega)
          obtain ⟨h1, h2, h3⟩ := h_range hxo.out (show k < x.heard.length by rw [hxl.out]; omega)
          rw [hn9.out] at h2
          have hlk := hM.out.look (g := k) (by omega)
          obtain ⟨hv, hhv⟩ : ∃ hv, x.h k = hv := ⟨_, rfl⟩
          obtain ⟨hw, hhw⟩ : ∃ hw, b.h k = hw := ⟨_, rfl⟩
          rw [hhv] at q0 hup1 hnf1 h1 h2 h3
          rw [hhw] at q1 hup1 hnf1
          have hw0 : 0 ≤ hw := by rw [← hhw]; exact (h_range hok.out (show k < b.heard.length by rw [hlen.out]; omega)).1
          clear hhv hhw
          have e1 : ¬ hv < hw := by omega
          have e2 : ¬ (n9 : Int) < hv := by omega
          have h3' := Lib.hid h3
          clear h3
          have XBc0 : wp.cell? ⟨GB, 0, none⟩ = some (.slice Aq2 nq2 cq2) := XB.cell 0
          have XBc1 : wp.cell? ⟨GB, 1, none⟩ = some (.slice Aa2 na2 ca2) := XB.cell 1
          have XBc2 : wp.cell? ⟨GB, 2, none⟩ = some (.slice As2 n9 cs2) := XB.cell 2
          have XBc3 : wp.cell? ⟨GB, 3, none⟩ = some (.slice (some ⟨bh, oh, none⟩) nh2 ch2) := XB.cell 3
          have XBc4 : wp.cell? ⟨GB, 4, none⟩ = some (.slice Af2 nf2 cf2) := XB.cell 4
          have XBz := XB.lt
          have XWc0 : wp.cell? ⟨GM + 1, 0, none⟩ = some (.slice Aq1 nq1 cq1) := XW.cell 0
          have XWc1 : wp.cell? ⟨GM + 1, 1, none⟩ = some (.slice Aa1 na1 ca1) := XW.cell 1
          have XWc2 : wp.cell? ⟨GM + 1, 2, none⟩ = some (.slice As1 ns1 cs1) := XW.cell 2
          have XWc3 : wp.cell? ⟨GM + 1, 3, none⟩ = some (.slice (some ⟨bw, ow, none⟩) nh1 ch1) := XW.cell 3
          have XWc4 : wp.cell? ⟨GM + 1, 4, none⟩ = some (.slice Af1 nf1 cf1) := XW.cell 4
          have XWz := XW.lt
          rcases Int.lt_or_le 0 hv with hp | hz
          · obtain ⟨j0, rfl⟩ : ∃ j0 : Nat, hv = (j0 : Int) + 1 := ⟨(hv - 1).toNat, by omega⟩
            have hj0 : j0 < n9 := by omega
            obtain ⟨bs, os, rfl, hbs, hc⟩ := (hS.out.lks (by rw [hn9.out]; unfold maxLen; omega)).lk (by rw [hn9.out]; omega)
            obtain ⟨q2, -⟩ := hc j0 (by rw [hn9.out]; exact hj0)
            have hgt := h3'.out (by omega)
            rw [show (j0 : Int) + 1 - 1 = (j0 : Int) by omega, Bx.at, Int.toNat_natCast] at hgt
            rw [hgt] at q2
            clear hc hgt
            have e3 : (j0 : Int) < (n9 : Int) := by omega
            have p3 : wrap64 ((j0 : Int) + 1 - 1) = (j0 : Int) := by unfold wrap64; omega
            have p4 : IntKind.i64.wrap ((j0 : Int) + 1 - 1) = (j0 : Int) := by rw [IntKind.wrap_i64]; omega
            have e0 : (0 : Int) < (j0 : Int) + 1 := by omega
            rcases Int.lt_or_le hw ((j0 : Int) + 1) with hq | hq
            · rw [hnf1 hq] at hlk
              go_wp2
              exact ⟨⟨k + 1, by omega, by go_num, by first | trivial | rfl⟩, by simp [intOf]; omega⟩
            · have e8 : ¬ hw < (j0 : Int) + 1 := by omega
              go_wp2
              exact ⟨⟨k + 1, by omega, by go_num, by first | trivial | rfl⟩, by simp [intOf]; omega⟩
          · obtain rfl : hv = 0 := by omega
            have e0 : ¬ (0 : Int) < 0 := by omega
            have e8 : ¬ hw < (0 : Int) := by omega
            go_wp2
            exact ⟨⟨k + 1, by omega, by go_num, by first | trivial | rfl⟩, by simp [intOf]; omega⟩
theorem law_OrdersHeard (gts : Int) (ms : List Om) (v : Value) (w : World) (hg : 0 ≤ gts ∧ gts ≤ 255) (hM : OmsAt w w.heap.size v ms) :
    Calls Try.prog 7 #[.int .u8 gts, v] w fun e w' => e = .returned (.bool true) ∧ Below w.heap.size w w' := by
  obtain ⟨A3, c3, rfl, hm, _⟩ := hM.1
  unfold maxLen at hm
  exact law_Heard_go gts ms A3 _ c3 w (Lib.hid hM) (Lib.hid rfl) (by omega) hg
end Go.Proofs.Ytmbifmmkccghfaa
