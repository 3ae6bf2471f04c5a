/- link: a move of chapter 34's runs. (Printed by gen_sg.py and pp.py.) No condition. -/
import Derived.Test.YtmbifmmkccghfaaQKO
import Derived.Test.YtmbifmmkccghfaaQRZ
set_option linter.unusedVariables false
set_option linter.unusedSimpArgs false
namespace Go.Proofs.Ytmbifmmkccghfaa
open Go.RowKit Go.Shelf
attribute [local go_sem] Oper.semAt_some

theorem bx_set2v {w : World} {Vq Va Vs Vh Vf : Value} {b : Bx} (h : Hid (BxAt w w.heap.size Vq Va Vs Vh Vf b)) {x : Nat} {A0 A1 A2 A3 A4 : Option Addr} {n0 c0 n1 c1 n2 c2 n3 c3 n4 c4 : Nat} (hx : Box w x [.slice A0 n0 c0, .slice A1 n1 c1, .slice A2 n2 c2, .slice A3 n3 c3, .slice A4 n4 c4]) {Aq Aa : Option Addr} {nq cq na ca : Nat} :
    Hid (BxAt ((w.setCell ⟨x, 0, none⟩ (.slice Aq nq cq)).setCell ⟨x, 1, none⟩ (.slice Aa na ca)) ((w.setCell ⟨x, 0, none⟩ (.slice Aq nq cq)).setCell ⟨x, 1, none⟩ (.slice Aa na ca)).heap.size Vq Va Vs Vh Vf b) := by
  have k0 := SlBox.of hx (by simp)
  simp only [World.size_setCell]
  exact Lib.hid ((h.out.setS k0 0 _).setS (k0.set 0 Aq nq cq) 1 _)
set_option maxRecDepth 100000 in
set_option maxHeartbeats 4000000 in
theorem oLinkV_any (b : Bx) (m : Om) (Aq : Option Addr) (nq cq : Nat) (Aa : Option Addr) (na ca : Nat) (As : Option Addr) (ns cs : Nat) (Ah : Option Addr) (nh ch : Nat) (Af : Option Addr) (nf cf : Nat) (w : World) (hX : Hid (BxAt w w.heap.size (.slice Aq nq cq) (.slice Aa na ca) (.slice As ns cs) (.slice Ah nh ch) (.slice Af nf cf) b)) (hok : Hid (b.okB = true)) (hm : Hid m.ok) {T : Bx × Int} (hT : Hid (b.linkT m = T)) :
    Calls Try.prog 28 #[.agg #[.slice Aq nq cq, .slice Aa na ca, .slice As ns cs, .slice Ah nh ch, .slice Af nf cf], .agg #[.int .u8 m.kd, .int .u8 m.gt, .int .u8 m.od, .int .u8 m.at0, .int .u8 m.fd]] w (RetBxV T.1 #[.int .i64 T.2] (.slice Aa na ca) (.slice As ns cs) (.slice Ah nh ch) w) := by
  obtain ⟨l1, l2, l3, l4, l5, m1, m2, m3, m4, m5⟩ := hX.out.lens
  obtain ⟨⟨a1, a2⟩, ⟨a3, a4⟩, ⟨a5, a6⟩, ⟨a7, a8⟩, -⟩ := hm.out
  have hn : 1 ≤ nh ∧ nh ≤ 8 := by have := (of_decide_eq_true (okB_parts hok.out).1).1; omega
  go_enter Try.func28, Try.ntmps28
  have hB := (((Below.refl w.heap.size w).alloc (Nat.le_refl _) (.cells #[.slice Aq nq cq, .slice Aa na ca, .slice As ns cs, .slice Ah nh ch, .slice Af nf cf] 30)).alloc (by simp) (.cells #[.int .u8 m.kd, .int .u8 m.gt, .int .u8 m.od, .int .u8 m.at0, .int .u8 m.fd] 61)).alloc (by simp <;> omega) (.cells #[.slice none 0 0, .slice none 0 0, .slice none 0 0, .slice none 0 0, .slice none 0 0] 30)
  have XB := ((Box.new w [.slice Aq nq cq, .slice Aa na ca, .slice As ns cs, .slice Ah nh ch, .slice Af nf cf] 30).alloc (.cells #[.int .u8 m.kd, .int .u8 m.gt, .int .u8 m.od, .int .u8 m.at0, .int .u8 m.fd] 61)).alloc (.cells #[.slice none 0 0, .slice none 0 0, .slice none 0 0, .slice none 0 0, .slice none 0 0] 30)
  have XM := (Box.newAt (w := w.alloc (.cells #[.slice Aq nq cq, .slice Aa na ca, .slice As ns cs, .slice Ah nh ch, .slice Af nf cf] 30)) (n := w.heap.size + 1) [.int .u8 m.kd, .int .u8 m.gt, .int .u8 m.od, .int .u8 m.at0, .int .u8 m.fd] 61 (by simp)).alloc (.cells #[.slice none 0 0, .slice none 0 0, .slice none 0 0, .slice none 0 0, .slice none 0 0] 30)
  have XR := Box.newAt (w := (w.alloc (.cells #[.slice Aq nq cq, .slice Aa na ca, .slice As ns cs, .slice Ah nh ch, .slice Af nf cf] 30)).alloc (.cells #[.int .u8 m.kd, .int .u8 m.gt, .int .u8 m.od, .int .u8 m.at0, .int .u8 m.fd] 61)) (n := w.heap.size + 1 + 1) [.slice none 0 0, .slice none 0 0, .slice none 0 0, .slice none 0 0, .slice none 0 0] 30 (by simp)
  go_upto_region 1 with fail
  have hX := hid_bx hX hB
  have XB0 := (Box.new w [.slice Aq nq cq, .slice Aa na ca, .slice As ns cs, .slice Ah nh ch, .slice Af nf cf] 30).alloc (.cells #[.int .u8 m.kd, .int .u8 m.gt, .int .u8 m.od, .int .u8 m.at0, .int .u8 m.fd] 61)
  have XM0 := Box.newAt (w := w.alloc (.cells #[.slice Aq nq cq, .slice Aa na ca, .slice As ns cs, .slice Ah nh ch, .slice Af nf cf] 30)) (n := w.heap.size + 1) [.int .u8 m.kd, .int .u8 m.gt, .int .u8 m.od, .int .u8 m.at0, .int .u8 m.fd] 61 (by simp)
  have hsz : ((w.alloc (.cells #[.slice Aq nq cq, .slice Aa na ca, .slice As ns cs, .slice Ah nh ch, .slice Af nf cf] 30)).alloc (.cells #[.int .u8 m.kd, .int .u8 m.gt, .int .u8 m.od, .int .u8 m.at0, .int .u8 m.fd] 61)).heap.size = w.heap.size + 1 + 1 := by simp
  have hD := (Below.refl ((w.alloc (.cells #[.slice Aq nq cq, .slice Aa na ca, .slice As ns cs, .slice Ah nh ch, .slice Af nf cf] 30)).alloc (.cells #[.int .u8 m.kd, .int .u8 m.gt, .int .u8 m.od, .int .u8 m.at0, .int .u8 m.fd] 61)).heap.size ((w.alloc (.cells #[.slice Aq nq cq, .slice Aa na ca, .slice As ns cs, .slice Ah nh ch, .slice Af nf cf] 30)).alloc (.cells #[.int .u8 m.kd, .int .u8 m.gt, .int .u8 m.od, .int .u8 m.at0, .int .u8 m.fd] 61))).alloc (Nat.le_refl _) (.cells #[.slice none 0 0, .slice none 0 0, .slice none 0 0, .slice none 0 0, .slice none 0 0] 30)
  generalize ((w.alloc (.cells #[.slice Aq nq cq, .slice Aa na ca, .slice As ns cs, .slice Ah nh ch, .slice Af nf cf] 30)).alloc (.cells #[.int .u8 m.kd, .int .u8 m.gt, .int .u8 m.od, .int .u8 m.at0, .int .u8 m.fd] 61)).alloc (.cells #[.slice none 0 0, .slice none 0 0, .slice none 0 0, .slice none 0 0, .slice none 0 0] 30) = w1 at hX hB XB XM XR hD ⊢
  generalize (w.alloc (.cells #[.slice Aq nq cq, .slice Aa na ca, .slice As ns cs, .slice Ah nh ch, .slice Af nf cf] 30)).alloc (.cells #[.int .u8 m.kd, .int .u8 m.gt, .int .u8 m.od, .int .u8 m.at0, .int .u8 m.fd] 61) = Wb at XB0 XM0 hsz hD
  have XRc0 : w1.cell? ⟨w.heap.size + 1 + 1, 0, none⟩ = some (.slice none 0 0) := XR.cell 0
  have XRf0 : w1.frozen? ⟨w.heap.size + 1 + 1, 0, none⟩ = false := XR.free 0
  have XRc1 : w1.cell? ⟨w.heap.size + 1 + 1, 1, none⟩ = some (.slice none 0 0) := XR.cell 1
  have XRf1 : w1.frozen? ⟨w.heap.size + 1 + 1, 1, none⟩ = false := XR.free 1
  have XRc2 : w1.cell? ⟨w.heap.size + 1 + 1, 2, none⟩ = some (.slice none 0 0) := XR.cell 2
  have XRf2 : w1.frozen? ⟨w.heap.size + 1 + 1, 2, none⟩ = false := XR.free 2
  have XRc3 : w1.cell? ⟨w.heap.size + 1 + 1, 3, none⟩ = some (.slice none 0 0) := XR.cell 3
  have XRf3 : w1.frozen? ⟨w.heap.size + 1 + 1, 3, none⟩ = false := XR.free 3
  have XRc4 : w1.cell? ⟨w.heap.size + 1 + 1, 4, none⟩ = some (.slice none 0 0) := XR.cell 4
  have XRf4 : w1.frozen? ⟨w.heap.size + 1 + 1, 4, none⟩ = false := XR.free 4
  have XRz : w.heap.size + 1 + 1 < w1.heap.size := XR.lt
  have XBc0 : w1.cell? ⟨w.heap.size, 0, none⟩ = some (.slice Aq nq cq) := XB.cell 0
  have XBc1 : w1.cell? ⟨w.heap.size, 1, none⟩ = some (.slice Aa na ca) := XB.cell 1
  have XBc2 : w1.cell? ⟨w.heap.size, 2, none⟩ = some (.slice As ns cs) := XB.cell 2
  have XBc3 : w1.cell? ⟨w.heap.size, 3, none⟩ = some (.slice Ah nh ch) := XB.cell 3
  have XBc4 : w1.cell? ⟨w.heap.size, 4, none⟩ = some (.slice Af nf cf) := XB.cell 4
  have XMc0 : w1.cell? ⟨w.heap.size + 1, 0, none⟩ = some (.int .u8 m.kd) := XM.cell 0
  have XMc1 : w1.cell? ⟨w.heap.size + 1, 1, none⟩ = some (.int .u8 m.gt) := XM.cell 1
  have XMc2 : w1.cell? ⟨w.heap.size + 1, 2, none⟩ = some (.int .u8 m.od) := XM.cell 2
  have XMc3 : w1.cell? ⟨w.heap.size + 1, 3, none⟩ = some (.int .u8 m.at0) := XM.cell 3
  have XMc4 : w1.cell? ⟨w.heap.size + 1, 4, none⟩ = some (.int .u8 m.fd) := XM.cell 4
  have zb := XB.lt
  have zm := XM.lt
  obtain ⟨pt, hpt⟩ : ∃ pt, b.pos m.at0 = pt := ⟨_, rfl⟩
  obtain ⟨t0, ht0⟩ : ∃ t0, decide (0 < nq) = t0 := ⟨_, rfl⟩
  have HT0 := Lib.hid ht0
  go_upto_region 3 with fail
  go_cut [15] (fun s15 wx => s15 = .bool t0 ∧ w1 = wx)
  case first =>
    go_wp2_with fail
    go_meet
    exact ⟨rfl, rfl⟩
  case rest =>
  obtain ⟨rfl, hw⟩ := hcut
  subst hw
  go_upto_if 15 with fail
  go_cut [6] (fun s6 wx => s6 = .int .i64 pt ∧ Below w1.heap.size w1 wx)
  case first =>
    cases t0 with
    | false =>
      have e0 : pt = 0 := by rw [← hpt, Bx.pos, if_pos (by have := of_decide_eq_false HT0.out; omega)]
      subst e0
      go_wp2_with fail
      go_meet
      exact ⟨rfl, Below.refl _ _⟩
    | true =>
      have h0 := of_decide_eq_true HT0.out
      have e0 : m.at0 % (nq : Int) = pt := by rw [← hpt, Bx.pos, if_neg (by omega), l1]
      go_wp2_with fail
      go_meet
      exact ⟨by rw [e0], by first | exact Below.refl _ _ | exact (Below.refl _ _).drew⟩
  case rest =>
    obtain ⟨rfl, hb⟩ := hcut
    clear XRc0 XRf0 XBc0 XMc0 XRc1 XRf1 XBc1 XMc1 XRc2 XRf2 XBc2 XMc2 XRc3 XRf3 XBc3 XMc3 XRc4 XRf4 XBc4 XMc4 XRz zb zm
    have hX := hid_bx hX hb
    have XB := XB.later hb
    have XM := XM.later hb
    have XR := XR.later hb
    have hB := hB.trans (hb.mono hB.size)
    have hD := hD.trans (hb.mono hD.size)
    clear hb
    have XRc0 : wc.cell? ⟨w.heap.size + 1 + 1, 0, none⟩ = some (.slice none 0 0) := XR.cell 0
    have XRf0 : wc.frozen? ⟨w.heap.size + 1 + 1, 0, none⟩ = false := XR.free 0
    have XRc1 : wc.cell? ⟨w.heap.size + 1 + 1, 1, none⟩ = some (.slice none 0 0) := XR.cell 1
    have XRf1 : wc.frozen? ⟨w.heap.size + 1 + 1, 1, none⟩ = false := XR.free 1
    have XRc2 : wc.cell? ⟨w.heap.size + 1 + 1, 2, none⟩ = some (.slice none 0 0) := XR.cell 2
    have XRf2 : wc.frozen? ⟨w.heap.size + 1 + 1, 2, none⟩ = false := XR.free 2
    have XRc3 : wc.cell? ⟨w.heap.size + 1 + 1, 3, none⟩ = some (.slice none 0 0) := XR.cell 3
    have XRf3 : wc.frozen? ⟨w.heap.size + 1 + 1, 3, none⟩ = false := XR.free 3
    have XRc4 : wc.cell? ⟨w.heap.size + 1 + 1, 4, none⟩ = some (.slice none 0 0) := XR.cell 4
    have XRf4 : wc.frozen? ⟨w.heap.size + 1 + 1, 4, none⟩ = false := XR.free 4
    have XRz : w.heap.size + 1 + 1 < wc.heap.size := XR.lt
    have XBc0 : wc.cell? ⟨w.heap.size, 0, none⟩ = some (.slice Aq nq cq) := XB.cell 0
    have XBc1 : wc.cell? ⟨w.heap.size, 1, none⟩ = some (.slice Aa na ca) := XB.cell 1
    have XBc2 : wc.cell? ⟨w.heap.size, 2, none⟩ = some (.slice As ns cs) := XB.cell 2
    have XBc3 : wc.cell? ⟨w.heap.size, 3, none⟩ = some (.slice Ah nh ch) := XB.cell 3
    have XBc4 : wc.cell? ⟨w.heap.size, 4, none⟩ = some (.slice Af nf cf) := XB.cell 4
    have XMc0 : wc.cell? ⟨w.heap.size + 1, 0, none⟩ = some (.int .u8 m.kd) := XM.cell 0
    have XMc1 : wc.cell? ⟨w.heap.size + 1, 1, none⟩ = some (.int .u8 m.gt) := XM.cell 1
    have XMc2 : wc.cell? ⟨w.heap.size + 1, 2, none⟩ = some (.int .u8 m.od) := XM.cell 2
    have XMc3 : wc.cell? ⟨w.heap.size + 1, 3, none⟩ = some (.int .u8 m.at0) := XM.cell 3
    have XMc4 : wc.cell? ⟨w.heap.size + 1, 4, none⟩ = some (.int .u8 m.fd) := XM.cell 4
    have zb := XB.lt
    have zm := XM.lt
    go_upto_region 7 with fail
    clear XRc0 XRf0 XBc0 XMc0 XRc1 XRf1 XBc1 XMc1 XRc2 XRf2 XBc2 XMc2 XRc3 XRf3 XBc3 XMc3 XRc4 XRf4 XBc4 XMc4 XRz zb zm
    have hX := bx_set (Aq := Aq) (nq := nq) (cq := cq) (Aa := Aa) (na := na) (ca := ca) (As := As) (ns := ns) (cs := cs) (Ah := Ah) (nh := nh) (ch := ch) (Af := Af) (nf := nf) (cf := cf) hX XR
    have XB := (((((XB.other (a := ⟨w.heap.size + 1 + 1, 0, none⟩) (by simp <;> omega) (.slice Aq nq cq)).other (a := ⟨w.heap.size + 1 + 1, 1, none⟩) (by simp <;> omega) (.slice Aa na ca)).other (a := ⟨w.heap.size + 1 + 1, 2, none⟩) (by simp <;> omega) (.slice As ns cs)).other (a := ⟨w.heap.size + 1 + 1, 3, none⟩) (by simp <;> omega) (.slice Ah nh ch)).other (a := ⟨w.heap.size + 1 + 1, 4, none⟩) (by simp <;> omega) (.slice Af nf cf))
    have XM := (((((XM.other (a := ⟨w.heap.size + 1 + 1, 0, none⟩) (by simp <;> omega) (.slice Aq nq cq)).other (a := ⟨w.heap.size + 1 + 1, 1, none⟩) (by simp <;> omega) (.slice Aa na ca)).other (a := ⟨w.heap.size + 1 + 1, 2, none⟩) (by simp <;> omega) (.slice As ns cs)).other (a := ⟨w.heap.size + 1 + 1, 3, none⟩) (by simp <;> omega) (.slice Ah nh ch)).other (a := ⟨w.heap.size + 1 + 1, 4, none⟩) (by simp <;> omega) (.slice Af nf cf))
    have hB := (((((hB.setCell (p := ⟨w.heap.size + 1 + 1, 0, none⟩) (by simp <;> omega) (.slice Aq nq cq)).setCell (p := ⟨w.heap.size + 1 + 1, 1, none⟩) (by simp <;> omega) (.slice Aa na ca)).setCell (p := ⟨w.heap.size + 1 + 1, 2, none⟩) (by simp <;> omega) (.slice As ns cs)).setCell (p := ⟨w.heap.size + 1 + 1, 3, none⟩) (by simp <;> omega) (.slice Ah nh ch)).setCell (p := ⟨w.heap.size + 1 + 1, 4, none⟩) (by simp <;> omega) (.slice Af nf cf))
    have hD := (((((hD.setCell (p := ⟨w.heap.size + 1 + 1, 0, none⟩) (by simp <;> omega) (.slice Aq nq cq)).setCell (p := ⟨w.heap.size + 1 + 1, 1, none⟩) (by simp <;> omega) (.slice Aa na ca)).setCell (p := ⟨w.heap.size + 1 + 1, 2, none⟩) (by simp <;> omega) (.slice As ns cs)).setCell (p := ⟨w.heap.size + 1 + 1, 3, none⟩) (by simp <;> omega) (.slice Ah nh ch)).setCell (p := ⟨w.heap.size + 1 + 1, 4, none⟩) (by simp <;> omega) (.slice Af nf cf))
    have XR := (((((XR.set 0 (.slice Aq nq cq)).set 1 (.slice Aa na ca)).set 2 (.slice As ns cs)).set 3 (.slice Ah nh ch)).set 4 (.slice Af nf cf))
    generalize (((((wc.setCell ⟨w.heap.size + 1 + 1, 0, none⟩ (.slice Aq nq cq)).setCell ⟨w.heap.size + 1 + 1, 1, none⟩ (.slice Aa na ca)).setCell ⟨w.heap.size + 1 + 1, 2, none⟩ (.slice As ns cs)).setCell ⟨w.heap.size + 1 + 1, 3, none⟩ (.slice Ah nh ch)).setCell ⟨w.heap.size + 1 + 1, 4, none⟩ (.slice Af nf cf)) = w3 at hX XB XM XR hB hD  ⊢
    simp only [List.set_cons_zero, List.set_cons_succ] at XR
    obtain ⟨kk, hkk⟩ : ∃ kk, m.kd % 6 = kk := ⟨_, rfl⟩
    obtain ⟨gg, hgg⟩ : ∃ gg, m.gt % (nh : Int) = gg := ⟨_, rfl⟩
    have hg0 : 0 ≤ gg := by rw [← hgg]; exact Int.emod_nonneg _ (by omega)
    have hg1 : gg < (nh : Int) := by rw [← hgg]; exact Int.emod_lt_of_pos _ (by omega)
    have hkr : 0 ≤ kk ∧ kk < 6 := by omega
    have XRc0 : w3.cell? ⟨w.heap.size + 1 + 1, 0, none⟩ = some (.slice Aq nq cq) := XR.cell 0
    have XRf0 : w3.frozen? ⟨w.heap.size + 1 + 1, 0, none⟩ = false := XR.free 0
    have XRc1 : w3.cell? ⟨w.heap.size + 1 + 1, 1, none⟩ = some (.slice Aa na ca) := XR.cell 1
    have XRf1 : w3.frozen? ⟨w.heap.size + 1 + 1, 1, none⟩ = false := XR.free 1
    have XRc2 : w3.cell? ⟨w.heap.size + 1 + 1, 2, none⟩ = some (.slice As ns cs) := XR.cell 2
    have XRf2 : w3.frozen? ⟨w.heap.size + 1 + 1, 2, none⟩ = false := XR.free 2
    have XRc3 : w3.cell? ⟨w.heap.size + 1 + 1, 3, none⟩ = some (.slice Ah nh ch) := XR.cell 3
    have XRf3 : w3.frozen? ⟨w.heap.size + 1 + 1, 3, none⟩ = false := XR.free 3
    have XRc4 : w3.cell? ⟨w.heap.size + 1 + 1, 4, none⟩ = some (.slice Af nf cf) := XR.cell 4
    have XRf4 : w3.frozen? ⟨w.heap.size + 1 + 1, 4, none⟩ = false := XR.free 4
    have XRz : w.heap.size + 1 + 1 < w3.heap.size := XR.lt
    have XBc0 : w3.cell? ⟨w.heap.size, 0, none⟩ = some (.slice Aq nq cq) := XB.cell 0
    have XBc1 : w3.cell? ⟨w.heap.size, 1, none⟩ = some (.slice Aa na ca) := XB.cell 1
    have XBc2 : w3.cell? ⟨w.heap.size, 2, none⟩ = some (.slice As ns cs) := XB.cell 2
    have XBc3 : w3.cell? ⟨w.heap.size, 3, none⟩ = some (.slice Ah nh ch) := XB.cell 3
    have XBc4 : w3.cell? ⟨w.heap.size, 4, none⟩ = some (.slice Af nf cf) := XB.cell 4
    have XMc0 : w3.cell? ⟨w.heap.size + 1, 0, none⟩ = some (.int .u8 m.kd) := XM.cell 0
    have XMc1 : w3.cell? ⟨w.heap.size + 1, 1, none⟩ = some (.int .u8 m.gt) := XM.cell 1
    have XMc2 : w3.cell? ⟨w.heap.size + 1, 2, none⟩ = some (.int .u8 m.od) := XM.cell 2
    have XMc3 : w3.cell? ⟨w.heap.size + 1, 3, none⟩ = some (.int .u8 m.at0) := XM.cell 3
    have XMc4 : w3.cell? ⟨w.heap.size + 1, 4, none⟩ = some (.int .u8 m.fd) := XM.cell 4
    have zb := XB.lt
    have zm := XM.lt
    rcases (show kk = 0 ∨ kk = 1 ∨ kk = 2 ∨ kk = 3 ∨ kk = 4 ∨ kk = 5 by omega) with rfl | rfl | rfl | rfl | rfl | rfl
    · obtain ⟨x, er, hs⟩ : ∃ x er, b.sendT gg (m.od % 8) = (x, er) := ⟨_, _, rfl⟩
      have hT2 : T = keepT b (x, er) := by
        rw [← hT.out, Bx.linkT, l4]
        rw [if_pos hkk, hgg, hs]
      have TOK : er = 0 → Hid (T = (x, 0)) := fun h => by rw [Hid, hT2, keepT, if_pos h]
      have TNO : ¬ er = 0 → Hid (T = (b, 0)) := fun h => by rw [Hid, hT2, keepT, if_neg h]
      have hs := Lib.hid hs
      clear hT2
      go_upto_region 9 with fail
      have hq := (Below.refl w3.heap.size w3).drew
      have hD := hD.drew
      have zb := XB0.lt
      have zm := XM0.lt
      have u0 : ∀ z : Later Wb, z.w.cell? ⟨w.heap.size, 0, none⟩ = some (.slice Aq nq cq) := Later.cell (XB0.cell 0) zb
      have u1 : ∀ z : Later Wb, z.w.cell? ⟨w.heap.size, 1, none⟩ = some (.slice Aa na ca) := Later.cell (XB0.cell 1) zb
      have u2 : ∀ z : Later Wb, z.w.cell? ⟨w.heap.size, 2, none⟩ = some (.slice As ns cs) := Later.cell (XB0.cell 2) zb
      have u3 : ∀ z : Later Wb, z.w.cell? ⟨w.heap.size, 3, none⟩ = some (.slice Ah nh ch) := Later.cell (XB0.cell 3) zb
      have u4 : ∀ z : Later Wb, z.w.cell? ⟨w.heap.size, 4, none⟩ = some (.slice Af nf cf) := Later.cell (XB0.cell 4) zb
      have v0 : ∀ z : Later Wb, z.w.cell? ⟨w.heap.size + 1, 0, none⟩ = some (.int .u8 m.kd) := Later.cell (XM0.cell 0) zm
      have v1 : ∀ z : Later Wb, z.w.cell? ⟨w.heap.size + 1, 1, none⟩ = some (.int .u8 m.gt) := Later.cell (XM0.cell 1) zm
      have v2 : ∀ z : Later Wb, z.w.cell? ⟨w.heap.size + 1, 2, none⟩ = some (.int .u8 m.od) := Later.cell (XM0.cell 2) zm
      have v3 : ∀ z : Later Wb, z.w.cell? ⟨w.heap.size + 1, 3, none⟩ = some (.int .u8 m.at0) := Later.cell (XM0.cell 3) zm
      have v4 : ∀ z : Later Wb, z.w.cell? ⟨w.heap.size + 1, 4, none⟩ = some (.int .u8 m.fd) := Later.cell (XM0.cell 4) zm
      have HX := hid_bx hX hq
      refine wp_region_headsM (C := fun w' => ∃ x : Later Wb, w' = x.w) [0, 1, 2, 3, 4, 5, 6, 7, 8, 9, 10, 11] (by kernel_rfl) (by kernel_rfl) (Later.mk' hD) (fun _ _ h => h) ?_
      simp only [headOps, List.filterMap_cons, List.filterMap_nil, List.getElem?_toArray, List.getElem?_cons_succ, List.getElem?_cons_zero]
      repeat (first | go_big_quiet_skip | (show wpQuiet _ _ _ _ (_ :: _) _; go_big_quiet_skip) | (show wpQuiet _ _ _ _ (_ :: _) _; go_big_quiet_want; go_big_quiet_op; go_big_quiet_on))
      refine wpQuiet_nil ?_
      clear u0 v0 u1 v1 u2 v2 u3 v3 u4 v4 zb zm
      have XB := XB.later hq
      have XM := XM.later hq
      have XR := XR.later hq
      have hB := hB.trans (hq.mono hB.size)
      clear hq
      generalize w3.drew = W0 at hD HX XB XM XR hB ⊢
      refine anyC_oneW (n := 6) (i := 12) (by kernel_rfl) (Later.mk' hD) ?_
      refine wpOp_callD (some 40) (by rfl) rfl rfl ?_ ((oSendV_is b gg (m.od % 8) HX hs).mono ?_)
      · go_simp
      rintro e W1 hh
      obtain ⟨Aq2, nq2, cq2, Aa2, na2, ca2, As2, ns2, cs2, Ah2, nh2, ch2, Af2, nf2, cf2, rfl, hX2, hb, h3⟩ := hh.sl1
      have h3 := h3.mono hB.size
      refine ⟨_, rfl, ?_⟩
      simp only [Act.put, List.setIfInBounds_toArray, List.set_cons_zero, List.set_cons_succ]
      have HX := hid_bx HX hb
      have XB := XB.later hb
      have XM := XM.later hb
      have XR := XR.later hb
      have hB := hB.trans (hb.mono hB.size)
      have hD := hD.trans (hb.mono hD.size)
      clear hb
      refine anyC_heads (by kernel_rfl) 2 W1 (Later.mk' hD) [13, 14, 15] _ _ (by kernel_rfl) ?_
      simp only [headOps, List.filterMap_cons, List.filterMap_nil, List.getElem?_toArray, List.getElem?_cons_succ, List.getElem?_cons_zero]
      repeat (first | go_big_quiet_skip | (show wpQuiet _ _ _ _ (_ :: _) _; go_big_quiet_skip) | (show wpQuiet _ _ _ _ (_ :: _) _; go_big_quiet_want; go_big_quiet_op; go_big_quiet_on))
      refine wpQuiet_nil ?_
      have XRc0 : W1.cell? ⟨w.heap.size + 1 + 1, 0, none⟩ = some (.slice Aq nq cq) := XR.cell 0
      have XRf0 : W1.frozen? ⟨w.heap.size + 1 + 1, 0, none⟩ = false := XR.free 0
      have XRc1 : W1.cell? ⟨w.heap.size + 1 + 1, 1, none⟩ = some (.slice Aa na ca) := XR.cell 1
      have XRf1 : W1.frozen? ⟨w.heap.size + 1 + 1, 1, none⟩ = false := XR.free 1
      have XRc2 : W1.cell? ⟨w.heap.size + 1 + 1, 2, none⟩ = some (.slice As ns cs) := XR.cell 2
      have XRf2 : W1.frozen? ⟨w.heap.size + 1 + 1, 2, none⟩ = false := XR.free 2
      have XRc3 : W1.cell? ⟨w.heap.size + 1 + 1, 3, none⟩ = some (.slice Ah nh ch) := XR.cell 3
      have XRf3 : W1.frozen? ⟨w.heap.size + 1 + 1, 3, none⟩ = false := XR.free 3
      have XRc4 : W1.cell? ⟨w.heap.size + 1 + 1, 4, none⟩ = some (.slice Af nf cf) := XR.cell 4
      have XRf4 : W1.frozen? ⟨w.heap.size + 1 + 1, 4, none⟩ = false := XR.free 4
      have XRz : w.heap.size + 1 + 1 < W1.heap.size := XR.lt
      refine anyC_storeN (w' := (((((W1.setCell ⟨w.heap.size + 1 + 1, 0, none⟩ (.slice Aq2 nq2 cq2)).setCell ⟨w.heap.size + 1 + 1, 1, none⟩ (.slice Aa2 na2 ca2)).setCell ⟨w.heap.size + 1 + 1, 2, none⟩ (.slice As2 ns2 cs2)).setCell ⟨w.heap.size + 1 + 1, 3, none⟩ (.slice Ah2 nh2 ch2)).setCell ⟨w.heap.size + 1 + 1, 4, none⟩ (.slice Af2 nf2 cf2))) (n := 1) (i := 16) (by kernel_rfl) rfl rfl rfl (Later.mk' hD) ?_ ?_
      · go_simp
      clear XRc0 XRf0 XRc1 XRf1 XRc2 XRf2 XRc3 XRf3 XRc4 XRf4 XRz
      have hX := HX
      have hX := bx_set (Aq := Aq2) (nq := nq2) (cq := cq2) (Aa := Aa2) (na := na2) (ca := ca2) (As := As2) (ns := ns2) (cs := cs2) (Ah := Ah2) (nh := nh2) (ch := ch2) (Af := Af2) (nf := nf2) (cf := cf2) hX XR
      have hX2 := bx_set (Aq := Aq2) (nq := nq2) (cq := cq2) (Aa := Aa2) (na := na2) (ca := ca2) (As := As2) (ns := ns2) (cs := cs2) (Ah := Ah2) (nh := nh2) (ch := ch2) (Af := Af2) (nf := nf2) (cf := cf2) hX2 XR
      have XB := (((((XB.other (a := ⟨w.heap.size + 1 + 1, 0, none⟩) (by simp <;> omega) (.slice Aq2 nq2 cq2)).other (a := ⟨w.heap.size + 1 + 1, 1, none⟩) (by simp <;> omega) (.slice Aa2 na2 ca2)).other (a := ⟨w.heap.size + 1 + 1, 2, none⟩) (by simp <;> omega) (.slice As2 ns2 cs2)).other (a := ⟨w.heap.size + 1 + 1, 3, none⟩) (by simp <;> omega) (.slice Ah2 nh2 ch2)).other (a := ⟨w.heap.size + 1 + 1, 4, none⟩) (by simp <;> omega) (.slice Af2 nf2 cf2))
      have XM := (((((XM.other (a := ⟨w.heap.size + 1 + 1, 0, none⟩) (by simp <;> omega) (.slice Aq2 nq2 cq2)).other (a := ⟨w.heap.size + 1 + 1, 1, none⟩) (by simp <;> omega) (.slice Aa2 na2 ca2)).other (a := ⟨w.heap.size + 1 + 1, 2, none⟩) (by simp <;> omega) (.slice As2 ns2 cs2)).other (a := ⟨w.heap.size + 1 + 1, 3, none⟩) (by simp <;> omega) (.slice Ah2 nh2 ch2)).other (a := ⟨w.heap.size + 1 + 1, 4, none⟩) (by simp <;> omega) (.slice Af2 nf2 cf2))
      have hB := (((((hB.setCell (p := ⟨w.heap.size + 1 + 1, 0, none⟩) (by simp <;> omega) (.slice Aq2 nq2 cq2)).setCell (p := ⟨w.heap.size + 1 + 1, 1, none⟩) (by simp <;> omega) (.slice Aa2 na2 ca2)).setCell (p := ⟨w.heap.size + 1 + 1, 2, none⟩) (by simp <;> omega) (.slice As2 ns2 cs2)).setCell (p := ⟨w.heap.size + 1 + 1, 3, none⟩) (by simp <;> omega) (.slice Ah2 nh2 ch2)).setCell (p := ⟨w.heap.size + 1 + 1, 4, none⟩) (by simp <;> omega) (.slice Af2 nf2 cf2))
      have hD := (((((hD.setCell (p := ⟨w.heap.size + 1 + 1, 0, none⟩) (by simp <;> omega) (.slice Aq2 nq2 cq2)).setCell (p := ⟨w.heap.size + 1 + 1, 1, none⟩) (by simp <;> omega) (.slice Aa2 na2 ca2)).setCell (p := ⟨w.heap.size + 1 + 1, 2, none⟩) (by simp <;> omega) (.slice As2 ns2 cs2)).setCell (p := ⟨w.heap.size + 1 + 1, 3, none⟩) (by simp <;> omega) (.slice Ah2 nh2 ch2)).setCell (p := ⟨w.heap.size + 1 + 1, 4, none⟩) (by simp <;> omega) (.slice Af2 nf2 cf2))
      have XR := (((((XR.set 0 (.slice Aq2 nq2 cq2)).set 1 (.slice Aa2 na2 ca2)).set 2 (.slice As2 ns2 cs2)).set 3 (.slice Ah2 nh2 ch2)).set 4 (.slice Af2 nf2 cf2))
      generalize (((((W1.setCell ⟨w.heap.size + 1 + 1, 0, none⟩ (.slice Aq2 nq2 cq2)).setCell ⟨w.heap.size + 1 + 1, 1, none⟩ (.slice Aa2 na2 ca2)).setCell ⟨w.heap.size + 1 + 1, 2, none⟩ (.slice As2 ns2 cs2)).setCell ⟨w.heap.size + 1 + 1, 3, none⟩ (.slice Ah2 nh2 ch2)).setCell ⟨w.heap.size + 1 + 1, 4, none⟩ (.slice Af2 nf2 cf2)) = w5 at hX XB XM XR hB hD hX2 ⊢
      simp only [List.set_cons_zero, List.set_cons_succ] at XR
      refine anyC_valD (some 8) (n := 0) (i := 17) (v := .int .i64 er) (w' := w5) (by kernel_rfl) rfl rfl rfl (Later.mk' hD) (by first | rfl | go_simp) ?_
      simp only [Act.put, List.setIfInBounds_toArray, List.set_cons_zero, List.set_cons_succ]
      refine anyC_done (by kernel_rfl) (Later.mk' hD) ?_
      by_cases h0 : er = 0
      · subst h0
        have TT := TOK rfl
        go_upto_region 23 with fail
        have XRc0 : w5.cell? ⟨w.heap.size + 1 + 1, 0, none⟩ = some (.slice Aq2 nq2 cq2) := XR.cell 0
        have XRf0 : w5.frozen? ⟨w.heap.size + 1 + 1, 0, none⟩ = false := XR.free 0
        have XRc1 : w5.cell? ⟨w.heap.size + 1 + 1, 1, none⟩ = some (.slice Aa2 na2 ca2) := XR.cell 1
        have XRf1 : w5.frozen? ⟨w.heap.size + 1 + 1, 1, none⟩ = false := XR.free 1
        have XRc2 : w5.cell? ⟨w.heap.size + 1 + 1, 2, none⟩ = some (.slice As2 ns2 cs2) := XR.cell 2
        have XRf2 : w5.frozen? ⟨w.heap.size + 1 + 1, 2, none⟩ = false := XR.free 2
        have XRc3 : w5.cell? ⟨w.heap.size + 1 + 1, 3, none⟩ = some (.slice Ah2 nh2 ch2) := XR.cell 3
        have XRf3 : w5.frozen? ⟨w.heap.size + 1 + 1, 3, none⟩ = false := XR.free 3
        have XRc4 : w5.cell? ⟨w.heap.size + 1 + 1, 4, none⟩ = some (.slice Af2 nf2 cf2) := XR.cell 4
        have XRf4 : w5.frozen? ⟨w.heap.size + 1 + 1, 4, none⟩ = false := XR.free 4
        have XRz : w.heap.size + 1 + 1 < w5.heap.size := XR.lt
        go_wp2
        have hX9 := bx_set (Aq := Aq2) (nq := nq2) (cq := cq2) (Aa := Aa2) (na := na2) (ca := ca2) (As := As2) (ns := ns2) (cs := cs2) (Ah := Ah2) (nh := nh2) (ch := ch2) (Af := Af2) (nf := nf2) (cf := cf2) hX2 XR
        have hB9 := (((((hB.setCell (p := ⟨w.heap.size + 1 + 1, 0, none⟩) (by simp <;> omega) (.slice Aq2 nq2 cq2)).setCell (p := ⟨w.heap.size + 1 + 1, 1, none⟩) (by simp <;> omega) (.slice Aa2 na2 ca2)).setCell (p := ⟨w.heap.size + 1 + 1, 2, none⟩) (by simp <;> omega) (.slice As2 ns2 cs2)).setCell (p := ⟨w.heap.size + 1 + 1, 3, none⟩) (by simp <;> omega) (.slice Ah2 nh2 ch2)).setCell (p := ⟨w.heap.size + 1 + 1, 4, none⟩) (by simp <;> omega) (.slice Af2 nf2 cf2))
        have XR9 := (((((XR.set 0 (.slice Aq2 nq2 cq2)).set 1 (.slice Aa2 na2 ca2)).set 2 (.slice As2 ns2 cs2)).set 3 (.slice Ah2 nh2 ch2)).set 4 (.slice Af2 nf2 cf2))
        clear XRc0 XRf0 XRc1 XRf1 XRc2 XRf2 XRc3 XRf3 XRc4 XRf4 XRz
        generalize (((((w5.setCell ⟨w.heap.size + 1 + 1, 0, none⟩ (.slice Aq2 nq2 cq2)).setCell ⟨w.heap.size + 1 + 1, 1, none⟩ (.slice Aa2 na2 ca2)).setCell ⟨w.heap.size + 1 + 1, 2, none⟩ (.slice As2 ns2 cs2)).setCell ⟨w.heap.size + 1 + 1, 3, none⟩ (.slice Ah2 nh2 ch2)).setCell ⟨w.heap.size + 1 + 1, 4, none⟩ (.slice Af2 nf2 cf2)) = w9 at hX9 hB9 XR9 ⊢
        simp only [List.set_cons_zero, List.set_cons_succ] at XR9
        have XR9c0 : w9.cell? ⟨w.heap.size + 1 + 1, 0, none⟩ = some (.slice Aq2 nq2 cq2) := XR9.cell 0
        have XR9c1 : w9.cell? ⟨w.heap.size + 1 + 1, 1, none⟩ = some (.slice Aa2 na2 ca2) := XR9.cell 1
        have XR9c2 : w9.cell? ⟨w.heap.size + 1 + 1, 2, none⟩ = some (.slice As2 ns2 cs2) := XR9.cell 2
        have XR9c3 : w9.cell? ⟨w.heap.size + 1 + 1, 3, none⟩ = some (.slice Ah2 nh2 ch2) := XR9.cell 3
        have XR9c4 : w9.cell? ⟨w.heap.size + 1 + 1, 4, none⟩ = some (.slice Af2 nf2 cf2) := XR9.cell 4
        refine bodyPost_ret (v := .tuple #[.agg #[.slice Aq2 nq2 cq2, .slice Aa2 na2 ca2, .slice As2 ns2 cs2, .slice Ah2 nh2 ch2, .slice Af2 nf2 cf2], .int .i64 0]) (by simp [results, Try.results28, go_sem, XR9c0, XR9c1, XR9c2, XR9c3, XR9c4]) rfl ?_
        rw [TT.out]
        exact ⟨_, _, _, _, _, rfl, hX9.out, hB9, h3⟩
      · have e0 : (er != 0) = true := by simp [h0]
        have TT := TNO h0
        have XRc0 : w5.cell? ⟨w.heap.size + 1 + 1, 0, none⟩ = some (.slice Aq2 nq2 cq2) := XR.cell 0
        have XRf0 : w5.frozen? ⟨w.heap.size + 1 + 1, 0, none⟩ = false := XR.free 0
        have XRc1 : w5.cell? ⟨w.heap.size + 1 + 1, 1, none⟩ = some (.slice Aa2 na2 ca2) := XR.cell 1
        have XRf1 : w5.frozen? ⟨w.heap.size + 1 + 1, 1, none⟩ = false := XR.free 1
        have XRc2 : w5.cell? ⟨w.heap.size + 1 + 1, 2, none⟩ = some (.slice As2 ns2 cs2) := XR.cell 2
        have XRf2 : w5.frozen? ⟨w.heap.size + 1 + 1, 2, none⟩ = false := XR.free 2
        have XRc3 : w5.cell? ⟨w.heap.size + 1 + 1, 3, none⟩ = some (.slice Ah2 nh2 ch2) := XR.cell 3
        have XRf3 : w5.frozen? ⟨w.heap.size + 1 + 1, 3, none⟩ = false := XR.free 3
        have XRc4 : w5.cell? ⟨w.heap.size + 1 + 1, 4, none⟩ = some (.slice Af2 nf2 cf2) := XR.cell 4
        have XRf4 : w5.frozen? ⟨w.heap.size + 1 + 1, 4, none⟩ = false := XR.free 4
        have XRz : w.heap.size + 1 + 1 < w5.heap.size := XR.lt
        have XBc0 : w5.cell? ⟨w.heap.size, 0, none⟩ = some (.slice Aq nq cq) := XB.cell 0
        have XBc1 : w5.cell? ⟨w.heap.size, 1, none⟩ = some (.slice Aa na ca) := XB.cell 1
        have XBc2 : w5.cell? ⟨w.heap.size, 2, none⟩ = some (.slice As ns cs) := XB.cell 2
        have XBc3 : w5.cell? ⟨w.heap.size, 3, none⟩ = some (.slice Ah nh ch) := XB.cell 3
        have XBc4 : w5.cell? ⟨w.heap.size, 4, none⟩ = some (.slice Af nf cf) := XB.cell 4
        have XMc0 : w5.cell? ⟨w.heap.size + 1, 0, none⟩ = some (.int .u8 m.kd) := XM.cell 0
        have XMc1 : w5.cell? ⟨w.heap.size + 1, 1, none⟩ = some (.int .u8 m.gt) := XM.cell 1
        have XMc2 : w5.cell? ⟨w.heap.size + 1, 2, none⟩ = some (.int .u8 m.od) := XM.cell 2
        have XMc3 : w5.cell? ⟨w.heap.size + 1, 3, none⟩ = some (.int .u8 m.at0) := XM.cell 3
        have XMc4 : w5.cell? ⟨w.heap.size + 1, 4, none⟩ = some (.int .u8 m.fd) := XM.cell 4
        have zb := XB.lt
        have zm := XM.lt
        go_wp2
        have hX9 := bx_set (Aq := Aq) (nq := nq) (cq := cq) (Aa := Aa) (na := na) (ca := ca) (As := As) (ns := ns) (cs := cs) (Ah := Ah) (nh := nh) (ch := ch) (Af := Af) (nf := nf) (cf := cf) hX XR
        have hB9 := (((((hB.setCell (p := ⟨w.heap.size + 1 + 1, 0, none⟩) (by simp <;> omega) (.slice Aq nq cq)).setCell (p := ⟨w.heap.size + 1 + 1, 1, none⟩) (by simp <;> omega) (.slice Aa na ca)).setCell (p := ⟨w.heap.size + 1 + 1, 2, none⟩) (by simp <;> omega) (.slice As ns cs)).setCell (p := ⟨w.heap.size + 1 + 1, 3, none⟩) (by simp <;> omega) (.slice Ah nh ch)).setCell (p := ⟨w.heap.size + 1 + 1, 4, none⟩) (by simp <;> omega) (.slice Af nf cf))
        have XR9 := (((((XR.set 0 (.slice Aq nq cq)).set 1 (.slice Aa na ca)).set 2 (.slice As ns cs)).set 3 (.slice Ah nh ch)).set 4 (.slice Af nf cf))
        clear XRc0 XRf0 XRc1 XRf1 XRc2 XRf2 XRc3 XRf3 XRc4 XRf4 XRz
        generalize (((((w5.setCell ⟨w.heap.size + 1 + 1, 0, none⟩ (.slice Aq nq cq)).setCell ⟨w.heap.size + 1 + 1, 1, none⟩ (.slice Aa na ca)).setCell ⟨w.heap.size + 1 + 1, 2, none⟩ (.slice As ns cs)).setCell ⟨w.heap.size + 1 + 1, 3, none⟩ (.slice Ah nh ch)).setCell ⟨w.heap.size + 1 + 1, 4, none⟩ (.slice Af nf cf)) = w9 at hX9 hB9 XR9 ⊢
        simp only [List.set_cons_zero, List.set_cons_succ] at XR9
        have XR9c0 : w9.cell? ⟨w.heap.size + 1 + 1, 0, none⟩ = some (.slice Aq nq cq) := XR9.cell 0
        have XR9c1 : w9.cell? ⟨w.heap.size + 1 + 1, 1, none⟩ = some (.slice Aa na ca) := XR9.cell 1
        have XR9c2 : w9.cell? ⟨w.heap.size + 1 + 1, 2, none⟩ = some (.slice As ns cs) := XR9.cell 2
        have XR9c3 : w9.cell? ⟨w.heap.size + 1 + 1, 3, none⟩ = some (.slice Ah nh ch) := XR9.cell 3
        have XR9c4 : w9.cell? ⟨w.heap.size + 1 + 1, 4, none⟩ = some (.slice Af nf cf) := XR9.cell 4
        refine bodyPost_ret (v := .tuple #[.agg #[.slice Aq nq cq, .slice Aa na ca, .slice As ns cs, .slice Ah nh ch, .slice Af nf cf], .int .i64 0]) (by simp [results, Try.results28, go_sem, XR9c0, XR9c1, XR9c2, XR9c3, XR9c4]) rfl ?_
        rw [TT.out]
        exact ⟨_, _, _, _, _, rfl, hX9.out, hB9, ⟨.inl rfl, .inl rfl, .inl rfl⟩⟩
    · obtain ⟨x, is, er, hs⟩ : ∃ x is er, b.deliverT pt = (x, is, er) := ⟨_, _, _, rfl⟩
      have hT2 : T = heardT b pt (x, is, er) := by
        rw [← hT.out, Bx.linkT]
        rw [if_neg (by omega)]
        rw [if_pos hkk, hpt, hs]
      have hDC : Hid (er = 0 → 0 ≤ pt ∧ pt < (b.net.queue.length : Int)) := Lib.hid (fun h => by obtain ⟨j1, j2, -⟩ := deliver_cases hok.out (i := pt) (by rw [hs]; exact h); exact ⟨j1, j2⟩)
      replace hT2 := Lib.hid hT2
      replace hs := Lib.hid hs
      have XRc0 : w3.cell? ⟨w.heap.size + 1 + 1, 0, none⟩ = some (.slice Aq nq cq) := XR.cell 0
      have XRf0 : w3.frozen? ⟨w.heap.size + 1 + 1, 0, none⟩ = false := XR.free 0
      have XRc1 : w3.cell? ⟨w.heap.size + 1 + 1, 1, none⟩ = some (.slice Aa na ca) := XR.cell 1
      have XRf1 : w3.frozen? ⟨w.heap.size + 1 + 1, 1, none⟩ = false := XR.free 1
      have XRc2 : w3.cell? ⟨w.heap.size + 1 + 1, 2, none⟩ = some (.slice As ns cs) := XR.cell 2
      have XRf2 : w3.frozen? ⟨w.heap.size + 1 + 1, 2, none⟩ = false := XR.free 2
      have XRc3 : w3.cell? ⟨w.heap.size + 1 + 1, 3, none⟩ = some (.slice Ah nh ch) := XR.cell 3
      have XRf3 : w3.frozen? ⟨w.heap.size + 1 + 1, 3, none⟩ = false := XR.free 3
      have XRc4 : w3.cell? ⟨w.heap.size + 1 + 1, 4, none⟩ = some (.slice Af nf cf) := XR.cell 4
      have XRf4 : w3.frozen? ⟨w.heap.size + 1 + 1, 4, none⟩ = false := XR.free 4
      have XRz : w.heap.size + 1 + 1 < w3.heap.size := XR.lt
      have XBc0 : w3.cell? ⟨w.heap.size, 0, none⟩ = some (.slice Aq nq cq) := XB.cell 0
      have XBc1 : w3.cell? ⟨w.heap.size, 1, none⟩ = some (.slice Aa na ca) := XB.cell 1
      have XBc2 : w3.cell? ⟨w.heap.size, 2, none⟩ = some (.slice As ns cs) := XB.cell 2
      have XBc3 : w3.cell? ⟨w.heap.size, 3, none⟩ = some (.slice Ah nh ch) := XB.cell 3
      have XBc4 : w3.cell? ⟨w.heap.size, 4, none⟩ = some (.slice Af nf cf) := XB.cell 4
      have XMc0 : w3.cell? ⟨w.heap.size + 1, 0, none⟩ = some (.int .u8 m.kd) := XM.cell 0
      have XMc1 : w3.cell? ⟨w.heap.size + 1, 1, none⟩ = some (.int .u8 m.gt) := XM.cell 1
      have XMc2 : w3.cell? ⟨w.heap.size + 1, 2, none⟩ = some (.int .u8 m.od) := XM.cell 2
      have XMc3 : w3.cell? ⟨w.heap.size + 1, 3, none⟩ = some (.int .u8 m.at0) := XM.cell 3
      have XMc4 : w3.cell? ⟨w.heap.size + 1, 4, none⟩ = some (.int .u8 m.fd) := XM.cell 4
      have zb := XB.lt
      have zm := XM.lt
      go_wp2_with fail
      clear XRc0 XRf0 XBc0 XMc0 XRc1 XRf1 XBc1 XMc1 XRc2 XRf2 XBc2 XMc2 XRc3 XRf3 XBc3 XMc3 XRc4 XRf4 XBc4 XMc4 XRz zb zm
      refine (oDeliverV_is b pt hX hs).mono ?_
      rintro e w4 hh
      obtain ⟨Aq2, nq2, cq2, Aa2, na2, ca2, As2, ns2, cs2, Ah2, nh2, ch2, Af2, nf2, cf2, rfl, hX2, hb, h3⟩ := hh.sl
      have h3 := h3.mono hB.size
      have hX := hid_bx hX hb
      have XB := XB.later hb
      have XM := XM.later hb
      have XR := XR.later hb
      have hB := hB.trans (hb.mono hB.size)
      have hD := hD.trans (hb.mono hD.size)
      clear hb
      have XRc0 : w4.cell? ⟨w.heap.size + 1 + 1, 0, none⟩ = some (.slice Aq nq cq) := XR.cell 0
      have XRf0 : w4.frozen? ⟨w.heap.size + 1 + 1, 0, none⟩ = false := XR.free 0
      have XRc1 : w4.cell? ⟨w.heap.size + 1 + 1, 1, none⟩ = some (.slice Aa na ca) := XR.cell 1
      have XRf1 : w4.frozen? ⟨w.heap.size + 1 + 1, 1, none⟩ = false := XR.free 1
      have XRc2 : w4.cell? ⟨w.heap.size + 1 + 1, 2, none⟩ = some (.slice As ns cs) := XR.cell 2
      have XRf2 : w4.frozen? ⟨w.heap.size + 1 + 1, 2, none⟩ = false := XR.free 2
      have XRc3 : w4.cell? ⟨w.heap.size + 1 + 1, 3, none⟩ = some (.slice Ah nh ch) := XR.cell 3
      have XRf3 : w4.frozen? ⟨w.heap.size + 1 + 1, 3, none⟩ = false := XR.free 3
      have XRc4 : w4.cell? ⟨w.heap.size + 1 + 1, 4, none⟩ = some (.slice Af nf cf) := XR.cell 4
      have XRf4 : w4.frozen? ⟨w.heap.size + 1 + 1, 4, none⟩ = false := XR.free 4
      have XRz : w.heap.size + 1 + 1 < w4.heap.size := XR.lt
      have XBc0 : w4.cell? ⟨w.heap.size, 0, none⟩ = some (.slice Aq nq cq) := XB.cell 0
      have XBc1 : w4.cell? ⟨w.heap.size, 1, none⟩ = some (.slice Aa na ca) := XB.cell 1
      have XBc2 : w4.cell? ⟨w.heap.size, 2, none⟩ = some (.slice As ns cs) := XB.cell 2
      have XBc3 : w4.cell? ⟨w.heap.size, 3, none⟩ = some (.slice Ah nh ch) := XB.cell 3
      have XBc4 : w4.cell? ⟨w.heap.size, 4, none⟩ = some (.slice Af nf cf) := XB.cell 4
      have XMc0 : w4.cell? ⟨w.heap.size + 1, 0, none⟩ = some (.int .u8 m.kd) := XM.cell 0
      have XMc1 : w4.cell? ⟨w.heap.size + 1, 1, none⟩ = some (.int .u8 m.gt) := XM.cell 1
      have XMc2 : w4.cell? ⟨w.heap.size + 1, 2, none⟩ = some (.int .u8 m.od) := XM.cell 2
      have XMc3 : w4.cell? ⟨w.heap.size + 1, 3, none⟩ = some (.int .u8 m.at0) := XM.cell 3
      have XMc4 : w4.cell? ⟨w.heap.size + 1, 4, none⟩ = some (.int .u8 m.fd) := XM.cell 4
      have zb := XB.lt
      have zm := XM.lt
      go_upto_region 13 with fail
      clear XRc0 XRf0 XBc0 XMc0 XRc1 XRf1 XBc1 XMc1 XRc2 XRf2 XBc2 XMc2 XRc3 XRf3 XBc3 XMc3 XRc4 XRf4 XBc4 XMc4 XRz zb zm
      have hX := bx_set (Aq := Aq2) (nq := nq2) (cq := cq2) (Aa := Aa2) (na := na2) (ca := ca2) (As := As2) (ns := ns2) (cs := cs2) (Ah := Ah2) (nh := nh2) (ch := ch2) (Af := Af2) (nf := nf2) (cf := cf2) hX XR
      have hX2 := bx_set (Aq := Aq2) (nq := nq2) (cq := cq2) (Aa := Aa2) (na := na2) (ca := ca2) (As := As2) (ns := ns2) (cs := cs2) (Ah := Ah2) (nh := nh2) (ch := ch2) (Af := Af2) (nf := nf2) (cf := cf2) hX2 XR
      have XB := (((((XB.other (a := ⟨w.heap.size + 1 + 1, 0, none⟩) (by simp <;> omega) (.slice Aq2 nq2 cq2)).other (a := ⟨w.heap.size + 1 + 1, 1, none⟩) (by simp <;> omega) (.slice Aa2 na2 ca2)).other (a := ⟨w.heap.size + 1 + 1, 2, none⟩) (by simp <;> omega) (.slice As2 ns2 cs2)).other (a := ⟨w.heap.size + 1 + 1, 3, none⟩) (by simp <;> omega) (.slice Ah2 nh2 ch2)).other (a := ⟨w.heap.size + 1 + 1, 4, none⟩) (by simp <;> omega) (.slice Af2 nf2 cf2))
      have XM := (((((XM.other (a := ⟨w.heap.size + 1 + 1, 0, none⟩) (by simp <;> omega) (.slice Aq2 nq2 cq2)).other (a := ⟨w.heap.size + 1 + 1, 1, none⟩) (by simp <;> omega) (.slice Aa2 na2 ca2)).other (a := ⟨w.heap.size + 1 + 1, 2, none⟩) (by simp <;> omega) (.slice As2 ns2 cs2)).other (a := ⟨w.heap.size + 1 + 1, 3, none⟩) (by simp <;> omega) (.slice Ah2 nh2 ch2)).other (a := ⟨w.heap.size + 1 + 1, 4, none⟩) (by simp <;> omega) (.slice Af2 nf2 cf2))
      have hB := (((((hB.setCell (p := ⟨w.heap.size + 1 + 1, 0, none⟩) (by simp <;> omega) (.slice Aq2 nq2 cq2)).setCell (p := ⟨w.heap.size + 1 + 1, 1, none⟩) (by simp <;> omega) (.slice Aa2 na2 ca2)).setCell (p := ⟨w.heap.size + 1 + 1, 2, none⟩) (by simp <;> omega) (.slice As2 ns2 cs2)).setCell (p := ⟨w.heap.size + 1 + 1, 3, none⟩) (by simp <;> omega) (.slice Ah2 nh2 ch2)).setCell (p := ⟨w.heap.size + 1 + 1, 4, none⟩) (by simp <;> omega) (.slice Af2 nf2 cf2))
      have hD := (((((hD.setCell (p := ⟨w.heap.size + 1 + 1, 0, none⟩) (by simp <;> omega) (.slice Aq2 nq2 cq2)).setCell (p := ⟨w.heap.size + 1 + 1, 1, none⟩) (by simp <;> omega) (.slice Aa2 na2 ca2)).setCell (p := ⟨w.heap.size + 1 + 1, 2, none⟩) (by simp <;> omega) (.slice As2 ns2 cs2)).setCell (p := ⟨w.heap.size + 1 + 1, 3, none⟩) (by simp <;> omega) (.slice Ah2 nh2 ch2)).setCell (p := ⟨w.heap.size + 1 + 1, 4, none⟩) (by simp <;> omega) (.slice Af2 nf2 cf2))
      have XR := (((((XR.set 0 (.slice Aq2 nq2 cq2)).set 1 (.slice Aa2 na2 ca2)).set 2 (.slice As2 ns2 cs2)).set 3 (.slice Ah2 nh2 ch2)).set 4 (.slice Af2 nf2 cf2))
      generalize (((((w4.setCell ⟨w.heap.size + 1 + 1, 0, none⟩ (.slice Aq2 nq2 cq2)).setCell ⟨w.heap.size + 1 + 1, 1, none⟩ (.slice Aa2 na2 ca2)).setCell ⟨w.heap.size + 1 + 1, 2, none⟩ (.slice As2 ns2 cs2)).setCell ⟨w.heap.size + 1 + 1, 3, none⟩ (.slice Ah2 nh2 ch2)).setCell ⟨w.heap.size + 1 + 1, 4, none⟩ (.slice Af2 nf2 cf2)) = w5 at hX XB XM XR hB hD hX2 ⊢
      simp only [List.set_cons_zero, List.set_cons_succ] at XR
      by_cases h0 : er = 0
      · subst h0
        cases is with
        | false =>
          have TT : Hid (T = (x, 0)) := by rw [Hid, hT2.out, heardT, if_pos rfl]; rfl
          go_upto_region 23 with fail
          have XRc0 : w5.cell? ⟨w.heap.size + 1 + 1, 0, none⟩ = some (.slice Aq2 nq2 cq2) := XR.cell 0
          have XRf0 : w5.frozen? ⟨w.heap.size + 1 + 1, 0, none⟩ = false := XR.free 0
          have XRc1 : w5.cell? ⟨w.heap.size + 1 + 1, 1, none⟩ = some (.slice Aa2 na2 ca2) := XR.cell 1
          have XRf1 : w5.frozen? ⟨w.heap.size + 1 + 1, 1, none⟩ = false := XR.free 1
          have XRc2 : w5.cell? ⟨w.heap.size + 1 + 1, 2, none⟩ = some (.slice As2 ns2 cs2) := XR.cell 2
          have XRf2 : w5.frozen? ⟨w.heap.size + 1 + 1, 2, none⟩ = false := XR.free 2
          have XRc3 : w5.cell? ⟨w.heap.size + 1 + 1, 3, none⟩ = some (.slice Ah2 nh2 ch2) := XR.cell 3
          have XRf3 : w5.frozen? ⟨w.heap.size + 1 + 1, 3, none⟩ = false := XR.free 3
          have XRc4 : w5.cell? ⟨w.heap.size + 1 + 1, 4, none⟩ = some (.slice Af2 nf2 cf2) := XR.cell 4
          have XRf4 : w5.frozen? ⟨w.heap.size + 1 + 1, 4, none⟩ = false := XR.free 4
          have XRz : w.heap.size + 1 + 1 < w5.heap.size := XR.lt
          go_wp2
          have hX9 := bx_set (Aq := Aq2) (nq := nq2) (cq := cq2) (Aa := Aa2) (na := na2) (ca := ca2) (As := As2) (ns := ns2) (cs := cs2) (Ah := Ah2) (nh := nh2) (ch := ch2) (Af := Af2) (nf := nf2) (cf := cf2) hX2 XR
          have hB9 := (((((hB.setCell (p := ⟨w.heap.size + 1 + 1, 0, none⟩) (by simp <;> omega) (.slice Aq2 nq2 cq2)).setCell (p := ⟨w.heap.size + 1 + 1, 1, none⟩) (by simp <;> omega) (.slice Aa2 na2 ca2)).setCell (p := ⟨w.heap.size + 1 + 1, 2, none⟩) (by simp <;> omega) (.slice As2 ns2 cs2)).setCell (p := ⟨w.heap.size + 1 + 1, 3, none⟩) (by simp <;> omega) (.slice Ah2 nh2 ch2)).setCell (p := ⟨w.heap.size + 1 + 1, 4, none⟩) (by simp <;> omega) (.slice Af2 nf2 cf2))
          have XR9 := (((((XR.set 0 (.slice Aq2 nq2 cq2)).set 1 (.slice Aa2 na2 ca2)).set 2 (.slice As2 ns2 cs2)).set 3 (.slice Ah2 nh2 ch2)).set 4 (.slice Af2 nf2 cf2))
          clear XRc0 XRf0 XRc1 XRf1 XRc2 XRf2 XRc3 XRf3 XRc4 XRf4 XRz
          generalize (((((w5.setCell ⟨w.heap.size + 1 + 1, 0, none⟩ (.slice Aq2 nq2 cq2)).setCell ⟨w.heap.size + 1 + 1, 1, none⟩ (.slice Aa2 na2 ca2)).setCell ⟨w.heap.size + 1 + 1, 2, none⟩ (.slice As2 ns2 cs2)).setCell ⟨w.heap.size + 1 + 1, 3, none⟩ (.slice Ah2 nh2 ch2)).setCell ⟨w.heap.size + 1 + 1, 4, none⟩ (.slice Af2 nf2 cf2)) = w9 at hX9 hB9 XR9 ⊢
          simp only [List.set_cons_zero, List.set_cons_succ] at XR9
          have XR9c0 : w9.cell? ⟨w.heap.size + 1 + 1, 0, none⟩ = some (.slice Aq2 nq2 cq2) := XR9.cell 0
          have XR9c1 : w9.cell? ⟨w.heap.size + 1 + 1, 1, none⟩ = some (.slice Aa2 na2 ca2) := XR9.cell 1
          have XR9c2 : w9.cell? ⟨w.heap.size + 1 + 1, 2, none⟩ = some (.slice As2 ns2 cs2) := XR9.cell 2
          have XR9c3 : w9.cell? ⟨w.heap.size + 1 + 1, 3, none⟩ = some (.slice Ah2 nh2 ch2) := XR9.cell 3
          have XR9c4 : w9.cell? ⟨w.heap.size + 1 + 1, 4, none⟩ = some (.slice Af2 nf2 cf2) := XR9.cell 4
          refine bodyPost_ret (v := .tuple #[.agg #[.slice Aq2 nq2 cq2, .slice Aa2 na2 ca2, .slice As2 ns2 cs2, .slice Ah2 nh2 ch2, .slice Af2 nf2 cf2], .int .i64 0]) (by simp [results, Try.results28, go_sem, XR9c0, XR9c1, XR9c2, XR9c3, XR9c4]) rfl ?_
          rw [TT.out]
          exact ⟨_, _, _, _, _, rfl, hX9.out, hB9, h3⟩
        | true =>
          have TT : Hid (T = (x, (b.net.pk pt).dst)) := by rw [Hid, hT2.out, heardT, if_pos rfl]; rfl
          obtain ⟨k1, k2⟩ := hDC.out rfl
          obtain ⟨kp, rfl⟩ : ∃ kp : Nat, pt = (kp : Int) := ⟨pt.toNat, by omega⟩
          have hkq : kp < b.net.queue.length := by omega
          rw [Net.pk_at hkq] at TT
          obtain ⟨bq, oq, V, hA, hbq, q0, q1, q2, hV⟩ := hX.out.net.queue.pk hkq
          generalize b.net.queue[kp].dst = ds at q1 TT
          clear q0 q2 hV
          have hlt : (kp : Int) < (nq : Int) := by omega
          have XRc0 : w5.cell? ⟨w.heap.size + 1 + 1, 0, none⟩ = some (.slice Aq2 nq2 cq2) := XR.cell 0
          have XRf0 : w5.frozen? ⟨w.heap.size + 1 + 1, 0, none⟩ = false := XR.free 0
          have XRc1 : w5.cell? ⟨w.heap.size + 1 + 1, 1, none⟩ = some (.slice Aa2 na2 ca2) := XR.cell 1
          have XRf1 : w5.frozen? ⟨w.heap.size + 1 + 1, 1, none⟩ = false := XR.free 1
          have XRc2 : w5.cell? ⟨w.heap.size + 1 + 1, 2, none⟩ = some (.slice As2 ns2 cs2) := XR.cell 2
          have XRf2 : w5.frozen? ⟨w.heap.size + 1 + 1, 2, none⟩ = false := XR.free 2
          have XRc3 : w5.cell? ⟨w.heap.size + 1 + 1, 3, none⟩ = some (.slice Ah2 nh2 ch2) := XR.cell 3
          have XRf3 : w5.frozen? ⟨w.heap.size + 1 + 1, 3, none⟩ = false := XR.free 3
          have XRc4 : w5.cell? ⟨w.heap.size + 1 + 1, 4, none⟩ = some (.slice Af2 nf2 cf2) := XR.cell 4
          have XRf4 : w5.frozen? ⟨w.heap.size + 1 + 1, 4, none⟩ = false := XR.free 4
          have XRz : w.heap.size + 1 + 1 < w5.heap.size := XR.lt
          have XBc0 : w5.cell? ⟨w.heap.size, 0, none⟩ = some (.slice Aq nq cq) := XB.cell 0
          have XBc1 : w5.cell? ⟨w.heap.size, 1, none⟩ = some (.slice Aa na ca) := XB.cell 1
          have XBc2 : w5.cell? ⟨w.heap.size, 2, none⟩ = some (.slice As ns cs) := XB.cell 2
          have XBc3 : w5.cell? ⟨w.heap.size, 3, none⟩ = some (.slice Ah nh ch) := XB.cell 3
          have XBc4 : w5.cell? ⟨w.heap.size, 4, none⟩ = some (.slice Af nf cf) := XB.cell 4
          have XMc0 : w5.cell? ⟨w.heap.size + 1, 0, none⟩ = some (.int .u8 m.kd) := XM.cell 0
          have XMc1 : w5.cell? ⟨w.heap.size + 1, 1, none⟩ = some (.int .u8 m.gt) := XM.cell 1
          have XMc2 : w5.cell? ⟨w.heap.size + 1, 2, none⟩ = some (.int .u8 m.od) := XM.cell 2
          have XMc3 : w5.cell? ⟨w.heap.size + 1, 3, none⟩ = some (.int .u8 m.at0) := XM.cell 3
          have XMc4 : w5.cell? ⟨w.heap.size + 1, 4, none⟩ = some (.int .u8 m.fd) := XM.cell 4
          have zb := XB.lt
          have zm := XM.lt
          rw [hA] at XBc0
          go_upto_region 23 with fail
          clear XRc0 XRf0 XBc0 XMc0 XRc1 XRf1 XBc1 XMc1 XRc2 XRf2 XBc2 XMc2 XRc3 XRf3 XBc3 XMc3 XRc4 XRf4 XBc4 XMc4 XRz zb zm
          have XRc0 : w5.cell? ⟨w.heap.size + 1 + 1, 0, none⟩ = some (.slice Aq2 nq2 cq2) := XR.cell 0
          have XRf0 : w5.frozen? ⟨w.heap.size + 1 + 1, 0, none⟩ = false := XR.free 0
          have XRc1 : w5.cell? ⟨w.heap.size + 1 + 1, 1, none⟩ = some (.slice Aa2 na2 ca2) := XR.cell 1
          have XRf1 : w5.frozen? ⟨w.heap.size + 1 + 1, 1, none⟩ = false := XR.free 1
          have XRc2 : w5.cell? ⟨w.heap.size + 1 + 1, 2, none⟩ = some (.slice As2 ns2 cs2) := XR.cell 2
          have XRf2 : w5.frozen? ⟨w.heap.size + 1 + 1, 2, none⟩ = false := XR.free 2
          have XRc3 : w5.cell? ⟨w.heap.size + 1 + 1, 3, none⟩ = some (.slice Ah2 nh2 ch2) := XR.cell 3
          have XRf3 : w5.frozen? ⟨w.heap.size + 1 + 1, 3, none⟩ = false := XR.free 3
          have XRc4 : w5.cell? ⟨w.heap.size + 1 + 1, 4, none⟩ = some (.slice Af2 nf2 cf2) := XR.cell 4
          have XRf4 : w5.frozen? ⟨w.heap.size + 1 + 1, 4, none⟩ = false := XR.free 4
          have XRz : w.heap.size + 1 + 1 < w5.heap.size := XR.lt
          go_wp2
          have hX9 := bx_set (Aq := Aq2) (nq := nq2) (cq := cq2) (Aa := Aa2) (na := na2) (ca := ca2) (As := As2) (ns := ns2) (cs := cs2) (Ah := Ah2) (nh := nh2) (ch := ch2) (Af := Af2) (nf := nf2) (cf := cf2) hX2 XR
          have hB9 := (((((hB.setCell (p := ⟨w.heap.size + 1 + 1, 0, none⟩) (by simp <;> omega) (.slice Aq2 nq2 cq2)).setCell (p := ⟨w.heap.size + 1 + 1, 1, none⟩) (by simp <;> omega) (.slice Aa2 na2 ca2)).setCell (p := ⟨w.heap.size + 1 + 1, 2, none⟩) (by simp <;> omega) (.slice As2 ns2 cs2)).setCell (p := ⟨w.heap.size + 1 + 1, 3, none⟩) (by simp <;> omega) (.slice Ah2 nh2 ch2)).setCell (p := ⟨w.heap.size + 1 + 1, 4, none⟩) (by simp <;> omega) (.slice Af2 nf2 cf2))
          have XR9 := (((((XR.set 0 (.slice Aq2 nq2 cq2)).set 1 (.slice Aa2 na2 ca2)).set 2 (.slice As2 ns2 cs2)).set 3 (.slice Ah2 nh2 ch2)).set 4 (.slice Af2 nf2 cf2))
          clear XRc0 XRf0 XRc1 XRf1 XRc2 XRf2 XRc3 XRf3 XRc4 XRf4 XRz
          generalize (((((w5.setCell ⟨w.heap.size + 1 + 1, 0, none⟩ (.slice Aq2 nq2 cq2)).setCell ⟨w.heap.size + 1 + 1, 1, none⟩ (.slice Aa2 na2 ca2)).setCell ⟨w.heap.size + 1 + 1, 2, none⟩ (.slice As2 ns2 cs2)).setCell ⟨w.heap.size + 1 + 1, 3, none⟩ (.slice Ah2 nh2 ch2)).setCell ⟨w.heap.size + 1 + 1, 4, none⟩ (.slice Af2 nf2 cf2)) = w9 at hX9 hB9 XR9 ⊢
          simp only [List.set_cons_zero, List.set_cons_succ] at XR9
          have XR9c0 : w9.cell? ⟨w.heap.size + 1 + 1, 0, none⟩ = some (.slice Aq2 nq2 cq2) := XR9.cell 0
          have XR9c1 : w9.cell? ⟨w.heap.size + 1 + 1, 1, none⟩ = some (.slice Aa2 na2 ca2) := XR9.cell 1
          have XR9c2 : w9.cell? ⟨w.heap.size + 1 + 1, 2, none⟩ = some (.slice As2 ns2 cs2) := XR9.cell 2
          have XR9c3 : w9.cell? ⟨w.heap.size + 1 + 1, 3, none⟩ = some (.slice Ah2 nh2 ch2) := XR9.cell 3
          have XR9c4 : w9.cell? ⟨w.heap.size + 1 + 1, 4, none⟩ = some (.slice Af2 nf2 cf2) := XR9.cell 4
          refine bodyPost_ret (v := .tuple #[.agg #[.slice Aq2 nq2 cq2, .slice Aa2 na2 ca2, .slice As2 ns2 cs2, .slice Ah2 nh2 ch2, .slice Af2 nf2 cf2], .int .i64 ds]) (by simp [results, Try.results28, go_sem, XR9c0, XR9c1, XR9c2, XR9c3, XR9c4]) rfl ?_
          rw [TT.out]
          exact ⟨_, _, _, _, _, rfl, hX9.out, hB9, h3⟩
      · have e0 : (er != 0) = true := by simp [h0]
        have e1 : (er == 0) = false := by simp [h0]
        have TT : Hid (T = (b, 0)) := by rw [Hid, hT2.out, heardT, if_neg h0]
        have XRc0 : w5.cell? ⟨w.heap.size + 1 + 1, 0, none⟩ = some (.slice Aq2 nq2 cq2) := XR.cell 0
        have XRf0 : w5.frozen? ⟨w.heap.size + 1 + 1, 0, none⟩ = false := XR.free 0
        have XRc1 : w5.cell? ⟨w.heap.size + 1 + 1, 1, none⟩ = some (.slice Aa2 na2 ca2) := XR.cell 1
        have XRf1 : w5.frozen? ⟨w.heap.size + 1 + 1, 1, none⟩ = false := XR.free 1
        have XRc2 : w5.cell? ⟨w.heap.size + 1 + 1, 2, none⟩ = some (.slice As2 ns2 cs2) := XR.cell 2
        have XRf2 : w5.frozen? ⟨w.heap.size + 1 + 1, 2, none⟩ = false := XR.free 2
        have XRc3 : w5.cell? ⟨w.heap.size + 1 + 1, 3, none⟩ = some (.slice Ah2 nh2 ch2) := XR.cell 3
        have XRf3 : w5.frozen? ⟨w.heap.size + 1 + 1, 3, none⟩ = false := XR.free 3
        have XRc4 : w5.cell? ⟨w.heap.size + 1 + 1, 4, none⟩ = some (.slice Af2 nf2 cf2) := XR.cell 4
        have XRf4 : w5.frozen? ⟨w.heap.size + 1 + 1, 4, none⟩ = false := XR.free 4
        have XRz : w.heap.size + 1 + 1 < w5.heap.size := XR.lt
        have XBc0 : w5.cell? ⟨w.heap.size, 0, none⟩ = some (.slice Aq nq cq) := XB.cell 0
        have XBc1 : w5.cell? ⟨w.heap.size, 1, none⟩ = some (.slice Aa na ca) := XB.cell 1
        have XBc2 : w5.cell? ⟨w.heap.size, 2, none⟩ = some (.slice As ns cs) := XB.cell 2
        have XBc3 : w5.cell? ⟨w.heap.size, 3, none⟩ = some (.slice Ah nh ch) := XB.cell 3
        have XBc4 : w5.cell? ⟨w.heap.size, 4, none⟩ = some (.slice Af nf cf) := XB.cell 4
        have XMc0 : w5.cell? ⟨w.heap.size + 1, 0, none⟩ = some (.int .u8 m.kd) := XM.cell 0
        have XMc1 : w5.cell? ⟨w.heap.size + 1, 1, none⟩ = some (.int .u8 m.gt) := XM.cell 1
        have XMc2 : w5.cell? ⟨w.heap.size + 1, 2, none⟩ = some (.int .u8 m.od) := XM.cell 2
        have XMc3 : w5.cell? ⟨w.heap.size + 1, 3, none⟩ = some (.int .u8 m.at0) := XM.cell 3
        have XMc4 : w5.cell? ⟨w.heap.size + 1, 4, none⟩ = some (.int .u8 m.fd) := XM.cell 4
        have zb := XB.lt
        have zm := XM.lt
        go_wp2
        have hX9 := bx_set (Aq := Aq) (nq := nq) (cq := cq) (Aa := Aa) (na := na) (ca := ca) (As := As) (ns := ns) (cs := cs) (Ah := Ah) (nh := nh) (ch := ch) (Af := Af) (nf := nf) (cf := cf) hX XR
        have hB9 := (((((hB.setCell (p := ⟨w.heap.size + 1 + 1, 0, none⟩) (by simp <;> omega) (.slice Aq nq cq)).setCell (p := ⟨w.heap.size + 1 + 1, 1, none⟩) (by simp <;> omega) (.slice Aa na ca)).setCell (p := ⟨w.heap.size + 1 + 1, 2, none⟩) (by simp <;> omega) (.slice As ns cs)).setCell (p := ⟨w.heap.size + 1 + 1, 3, none⟩) (by simp <;> omega) (.slice Ah nh ch)).setCell (p := ⟨w.heap.size + 1 + 1, 4, none⟩) (by simp <;> omega) (.slice Af nf cf))
        have XR9 := (((((XR.set 0 (.slice Aq nq cq)).set 1 (.slice Aa na ca)).set 2 (.slice As ns cs)).set 3 (.slice Ah nh ch)).set 4 (.slice Af nf cf))
        clear XRc0 XRf0 XRc1 XRf1 XRc2 XRf2 XRc3 XRf3 XRc4 XRf4 XRz
        generalize (((((w5.setCell ⟨w.heap.size + 1 + 1, 0, none⟩ (.slice Aq nq cq)).setCell ⟨w.heap.size + 1 + 1, 1, none⟩ (.slice Aa na ca)).setCell ⟨w.heap.size + 1 + 1, 2, none⟩ (.slice As ns cs)).setCell ⟨w.heap.size + 1 + 1, 3, none⟩ (.slice Ah nh ch)).setCell ⟨w.heap.size + 1 + 1, 4, none⟩ (.slice Af nf cf)) = w9 at hX9 hB9 XR9 ⊢
        simp only [List.set_cons_zero, List.set_cons_succ] at XR9
        have XR9c0 : w9.cell? ⟨w.heap.size + 1 + 1, 0, none⟩ = some (.slice Aq nq cq) := XR9.cell 0
        have XR9c1 : w9.cell? ⟨w.heap.size + 1 + 1, 1, none⟩ = some (.slice Aa na ca) := XR9.cell 1
        have XR9c2 : w9.cell? ⟨w.heap.size + 1 + 1, 2, none⟩ = some (.slice As ns cs) := XR9.cell 2
        have XR9c3 : w9.cell? ⟨w.heap.size + 1 + 1, 3, none⟩ = some (.slice Ah nh ch) := XR9.cell 3
        have XR9c4 : w9.cell? ⟨w.heap.size + 1 + 1, 4, none⟩ = some (.slice Af nf cf) := XR9.cell 4
        refine bodyPost_ret (v := .tuple #[.agg #[.slice Aq nq cq, .slice Aa na ca, .slice As ns cs, .slice Ah nh ch, .slice Af nf cf], .int .i64 0]) (by simp [results, Try.results28, go_sem, XR9c0, XR9c1, XR9c2, XR9c3, XR9c4]) rfl ?_
        rw [TT.out]
        exact ⟨_, _, _, _, _, rfl, hX9.out, hB9, ⟨.inl rfl, .inl rfl, .inl rfl⟩⟩
    · obtain ⟨x, er, hs⟩ : ∃ x er, b.loseT pt = (x, er) := ⟨_, _, rfl⟩
      have hT2 : T = keepT b (x, er) := by
        rw [← hT.out, Bx.linkT]
        rw [if_neg (by omega)]
        rw [if_neg (by omega)]
        rw [if_pos hkk, hpt, hs]
      have TOK : er = 0 → Hid (T = (x, 0)) := fun h => by rw [Hid, hT2, keepT, if_pos h]
      have TNO : ¬ er = 0 → Hid (T = (b, 0)) := fun h => by rw [Hid, hT2, keepT, if_neg h]
      have hs := Lib.hid hs
      clear hT2
      have XRc0 : w3.cell? ⟨w.heap.size + 1 + 1, 0, none⟩ = some (.slice Aq nq cq) := XR.cell 0
      have XRf0 : w3.frozen? ⟨w.heap.size + 1 + 1, 0, none⟩ = false := XR.free 0
      have XRc1 : w3.cell? ⟨w.heap.size + 1 + 1, 1, none⟩ = some (.slice Aa na ca) := XR.cell 1
      have XRf1 : w3.frozen? ⟨w.heap.size + 1 + 1, 1, none⟩ = false := XR.free 1
      have XRc2 : w3.cell? ⟨w.heap.size + 1 + 1, 2, none⟩ = some (.slice As ns cs) := XR.cell 2
      have XRf2 : w3.frozen? ⟨w.heap.size + 1 + 1, 2, none⟩ = false := XR.free 2
      have XRc3 : w3.cell? ⟨w.heap.size + 1 + 1, 3, none⟩ = some (.slice Ah nh ch) := XR.cell 3
      have XRf3 : w3.frozen? ⟨w.heap.size + 1 + 1, 3, none⟩ = false := XR.free 3
      have XRc4 : w3.cell? ⟨w.heap.size + 1 + 1, 4, none⟩ = some (.slice Af nf cf) := XR.cell 4
      have XRf4 : w3.frozen? ⟨w.heap.size + 1 + 1, 4, none⟩ = false := XR.free 4
      have XRz : w.heap.size + 1 + 1 < w3.heap.size := XR.lt
      have XBc0 : w3.cell? ⟨w.heap.size, 0, none⟩ = some (.slice Aq nq cq) := XB.cell 0
      have XBc1 : w3.cell? ⟨w.heap.size, 1, none⟩ = some (.slice Aa na ca) := XB.cell 1
      have XBc2 : w3.cell? ⟨w.heap.size, 2, none⟩ = some (.slice As ns cs) := XB.cell 2
      have XBc3 : w3.cell? ⟨w.heap.size, 3, none⟩ = some (.slice Ah nh ch) := XB.cell 3
      have XBc4 : w3.cell? ⟨w.heap.size, 4, none⟩ = some (.slice Af nf cf) := XB.cell 4
      have XMc0 : w3.cell? ⟨w.heap.size + 1, 0, none⟩ = some (.int .u8 m.kd) := XM.cell 0
      have XMc1 : w3.cell? ⟨w.heap.size + 1, 1, none⟩ = some (.int .u8 m.gt) := XM.cell 1
      have XMc2 : w3.cell? ⟨w.heap.size + 1, 2, none⟩ = some (.int .u8 m.od) := XM.cell 2
      have XMc3 : w3.cell? ⟨w.heap.size + 1, 3, none⟩ = some (.int .u8 m.at0) := XM.cell 3
      have XMc4 : w3.cell? ⟨w.heap.size + 1, 4, none⟩ = some (.int .u8 m.fd) := XM.cell 4
      have zb := XB.lt
      have zm := XM.lt
      go_wp2_with fail
      clear XRc0 XRf0 XBc0 XMc0 XRc1 XRf1 XBc1 XMc1 XRc2 XRf2 XBc2 XMc2 XRc3 XRf3 XBc3 XMc3 XRc4 XRf4 XBc4 XMc4 XRz zb zm
      refine (oLoseV_is b pt hX hs).mono ?_
      rintro e w4 hh
      obtain ⟨Aq2, nq2, cq2, Aa2, na2, ca2, As2, ns2, cs2, Ah2, nh2, ch2, Af2, nf2, cf2, rfl, hX2, hb, h3⟩ := hh.sl1
      have h3 := h3.mono hB.size
      have hX := hid_bx hX hb
      have XB := XB.later hb
      have XM := XM.later hb
      have XR := XR.later hb
      have hB := hB.trans (hb.mono hB.size)
      have hD := hD.trans (hb.mono hD.size)
      clear hb
      have XRc0 : w4.cell? ⟨w.heap.size + 1 + 1, 0, none⟩ = some (.slice Aq nq cq) := XR.cell 0
      have XRf0 : w4.frozen? ⟨w.heap.size + 1 + 1, 0, none⟩ = false := XR.free 0
      have XRc1 : w4.cell? ⟨w.heap.size + 1 + 1, 1, none⟩ = some (.slice Aa na ca) := XR.cell 1
      have XRf1 : w4.frozen? ⟨w.heap.size + 1 + 1, 1, none⟩ = false := XR.free 1
      have XRc2 : w4.cell? ⟨w.heap.size + 1 + 1, 2, none⟩ = some (.slice As ns cs) := XR.cell 2
      have XRf2 : w4.frozen? ⟨w.heap.size + 1 + 1, 2, none⟩ = false := XR.free 2
      have XRc3 : w4.cell? ⟨w.heap.size + 1 + 1, 3, none⟩ = some (.slice Ah nh ch) := XR.cell 3
      have XRf3 : w4.frozen? ⟨w.heap.size + 1 + 1, 3, none⟩ = false := XR.free 3
      have XRc4 : w4.cell? ⟨w.heap.size + 1 + 1, 4, none⟩ = some (.slice Af nf cf) := XR.cell 4
      have XRf4 : w4.frozen? ⟨w.heap.size + 1 + 1, 4, none⟩ = false := XR.free 4
      have XRz : w.heap.size + 1 + 1 < w4.heap.size := XR.lt
      have XBc0 : w4.cell? ⟨w.heap.size, 0, none⟩ = some (.slice Aq nq cq) := XB.cell 0
      have XBc1 : w4.cell? ⟨w.heap.size, 1, none⟩ = some (.slice Aa na ca) := XB.cell 1
      have XBc2 : w4.cell? ⟨w.heap.size, 2, none⟩ = some (.slice As ns cs) := XB.cell 2
      have XBc3 : w4.cell? ⟨w.heap.size, 3, none⟩ = some (.slice Ah nh ch) := XB.cell 3
      have XBc4 : w4.cell? ⟨w.heap.size, 4, none⟩ = some (.slice Af nf cf) := XB.cell 4
      have XMc0 : w4.cell? ⟨w.heap.size + 1, 0, none⟩ = some (.int .u8 m.kd) := XM.cell 0
      have XMc1 : w4.cell? ⟨w.heap.size + 1, 1, none⟩ = some (.int .u8 m.gt) := XM.cell 1
      have XMc2 : w4.cell? ⟨w.heap.size + 1, 2, none⟩ = some (.int .u8 m.od) := XM.cell 2
      have XMc3 : w4.cell? ⟨w.heap.size + 1, 3, none⟩ = some (.int .u8 m.at0) := XM.cell 3
      have XMc4 : w4.cell? ⟨w.heap.size + 1, 4, none⟩ = some (.int .u8 m.fd) := XM.cell 4
      have zb := XB.lt
      have zm := XM.lt
      go_upto_region 21 with fail
      clear XRc0 XRf0 XBc0 XMc0 XRc1 XRf1 XBc1 XMc1 XRc2 XRf2 XBc2 XMc2 XRc3 XRf3 XBc3 XMc3 XRc4 XRf4 XBc4 XMc4 XRz zb zm
      have hX := bx_set (Aq := Aq2) (nq := nq2) (cq := cq2) (Aa := Aa2) (na := na2) (ca := ca2) (As := As2) (ns := ns2) (cs := cs2) (Ah := Ah2) (nh := nh2) (ch := ch2) (Af := Af2) (nf := nf2) (cf := cf2) hX XR
      have hX2 := bx_set (Aq := Aq2) (nq := nq2) (cq := cq2) (Aa := Aa2) (na := na2) (ca := ca2) (As := As2) (ns := ns2) (cs := cs2) (Ah := Ah2) (nh := nh2) (ch := ch2) (Af := Af2) (nf := nf2) (cf := cf2) hX2 XR
      have XB := (((((XB.other (a := ⟨w.heap.size + 1 + 1, 0, none⟩) (by simp <;> omega) (.slice Aq2 nq2 cq2)).other (a := ⟨w.heap.size + 1 + 1, 1, none⟩) (by simp <;> omega) (.slice Aa2 na2 ca2)).other (a := ⟨w.heap.size + 1 + 1, 2, none⟩) (by simp <;> omega) (.slice As2 ns2 cs2)).other (a := ⟨w.heap.size + 1 + 1, 3, none⟩) (by simp <;> omega) (.slice Ah2 nh2 ch2)).other (a := ⟨w.heap.size + 1 + 1, 4, none⟩) (by simp <;> omega) (.slice Af2 nf2 cf2))
      have XM := (((((XM.other (a := ⟨w.heap.size + 1 + 1, 0, none⟩) (by simp <;> omega) (.slice Aq2 nq2 cq2)).other (a := ⟨w.heap.size + 1 + 1, 1, none⟩) (by simp <;> omega) (.slice Aa2 na2 ca2)).other (a := ⟨w.heap.size + 1 + 1, 2, none⟩) (by simp <;> omega) (.slice As2 ns2 cs2)).other (a := ⟨w.heap.size + 1 + 1, 3, none⟩) (by simp <;> omega) (.slice Ah2 nh2 ch2)).other (a := ⟨w.heap.size + 1 + 1, 4, none⟩) (by simp <;> omega) (.slice Af2 nf2 cf2))
      have hB := (((((hB.setCell (p := ⟨w.heap.size + 1 + 1, 0, none⟩) (by simp <;> omega) (.slice Aq2 nq2 cq2)).setCell (p := ⟨w.heap.size + 1 + 1, 1, none⟩) (by simp <;> omega) (.slice Aa2 na2 ca2)).setCell (p := ⟨w.heap.size + 1 + 1, 2, none⟩) (by simp <;> omega) (.slice As2 ns2 cs2)).setCell (p := ⟨w.heap.size + 1 + 1, 3, none⟩) (by simp <;> omega) (.slice Ah2 nh2 ch2)).setCell (p := ⟨w.heap.size + 1 + 1, 4, none⟩) (by simp <;> omega) (.slice Af2 nf2 cf2))
      have hD := (((((hD.setCell (p := ⟨w.heap.size + 1 + 1, 0, none⟩) (by simp <;> omega) (.slice Aq2 nq2 cq2)).setCell (p := ⟨w.heap.size + 1 + 1, 1, none⟩) (by simp <;> omega) (.slice Aa2 na2 ca2)).setCell (p := ⟨w.heap.size + 1 + 1, 2, none⟩) (by simp <;> omega) (.slice As2 ns2 cs2)).setCell (p := ⟨w.heap.size + 1 + 1, 3, none⟩) (by simp <;> omega) (.slice Ah2 nh2 ch2)).setCell (p := ⟨w.heap.size + 1 + 1, 4, none⟩) (by simp <;> omega) (.slice Af2 nf2 cf2))
      have XR := (((((XR.set 0 (.slice Aq2 nq2 cq2)).set 1 (.slice Aa2 na2 ca2)).set 2 (.slice As2 ns2 cs2)).set 3 (.slice Ah2 nh2 ch2)).set 4 (.slice Af2 nf2 cf2))
      generalize (((((w4.setCell ⟨w.heap.size + 1 + 1, 0, none⟩ (.slice Aq2 nq2 cq2)).setCell ⟨w.heap.size + 1 + 1, 1, none⟩ (.slice Aa2 na2 ca2)).setCell ⟨w.heap.size + 1 + 1, 2, none⟩ (.slice As2 ns2 cs2)).setCell ⟨w.heap.size + 1 + 1, 3, none⟩ (.slice Ah2 nh2 ch2)).setCell ⟨w.heap.size + 1 + 1, 4, none⟩ (.slice Af2 nf2 cf2)) = w5 at hX XB XM XR hB hD hX2 ⊢
      simp only [List.set_cons_zero, List.set_cons_succ] at XR
      by_cases h0 : er = 0
      · subst h0
        have TT := TOK rfl
        go_upto_region 23 with fail
        have XRc0 : w5.cell? ⟨w.heap.size + 1 + 1, 0, none⟩ = some (.slice Aq2 nq2 cq2) := XR.cell 0
        have XRf0 : w5.frozen? ⟨w.heap.size + 1 + 1, 0, none⟩ = false := XR.free 0
        have XRc1 : w5.cell? ⟨w.heap.size + 1 + 1, 1, none⟩ = some (.slice Aa2 na2 ca2) := XR.cell 1
        have XRf1 : w5.frozen? ⟨w.heap.size + 1 + 1, 1, none⟩ = false := XR.free 1
        have XRc2 : w5.cell? ⟨w.heap.size + 1 + 1, 2, none⟩ = some (.slice As2 ns2 cs2) := XR.cell 2
        have XRf2 : w5.frozen? ⟨w.heap.size + 1 + 1, 2, none⟩ = false := XR.free 2
        have XRc3 : w5.cell? ⟨w.heap.size + 1 + 1, 3, none⟩ = some (.slice Ah2 nh2 ch2) := XR.cell 3
        have XRf3 : w5.frozen? ⟨w.heap.size + 1 + 1, 3, none⟩ = false := XR.free 3
        have XRc4 : w5.cell? ⟨w.heap.size + 1 + 1, 4, none⟩ = some (.slice Af2 nf2 cf2) := XR.cell 4
        have XRf4 : w5.frozen? ⟨w.heap.size + 1 + 1, 4, none⟩ = false := XR.free 4
        have XRz : w.heap.size + 1 + 1 < w5.heap.size := XR.lt
        go_wp2
        have hX9 := bx_set (Aq := Aq2) (nq := nq2) (cq := cq2) (Aa := Aa2) (na := na2) (ca := ca2) (As := As2) (ns := ns2) (cs := cs2) (Ah := Ah2) (nh := nh2) (ch := ch2) (Af := Af2) (nf := nf2) (cf := cf2) hX2 XR
        have hB9 := (((((hB.setCell (p := ⟨w.heap.size + 1 + 1, 0, none⟩) (by simp <;> omega) (.slice Aq2 nq2 cq2)).setCell (p := ⟨w.heap.size + 1 + 1, 1, none⟩) (by simp <;> omega) (.slice Aa2 na2 ca2)).setCell (p := ⟨w.heap.size + 1 + 1, 2, none⟩) (by simp <;> omega) (.slice As2 ns2 cs2)).setCell (p := ⟨w.heap.size + 1 + 1, 3, none⟩) (by simp <;> omega) (.slice Ah2 nh2 ch2)).setCell (p := ⟨w.heap.size + 1 + 1, 4, none⟩) (by simp <;> omega) (.slice Af2 nf2 cf2))
        have XR9 := (((((XR.set 0 (.slice Aq2 nq2 cq2)).set 1 (.slice Aa2 na2 ca2)).set 2 (.slice As2 ns2 cs2)).set 3 (.slice Ah2 nh2 ch2)).set 4 (.slice Af2 nf2 cf2))
        clear XRc0 XRf0 XRc1 XRf1 XRc2 XRf2 XRc3 XRf3 XRc4 XRf4 XRz
        generalize (((((w5.setCell ⟨w.heap.size + 1 + 1, 0, none⟩ (.slice Aq2 nq2 cq2)).setCell ⟨w.heap.size + 1 + 1, 1, none⟩ (.slice Aa2 na2 ca2)).setCell ⟨w.heap.size + 1 + 1, 2, none⟩ (.slice As2 ns2 cs2)).setCell ⟨w.heap.size + 1 + 1, 3, none⟩ (.slice Ah2 nh2 ch2)).setCell ⟨w.heap.size + 1 + 1, 4, none⟩ (.slice Af2 nf2 cf2)) = w9 at hX9 hB9 XR9 ⊢
        simp only [List.set_cons_zero, List.set_cons_succ] at XR9
        have XR9c0 : w9.cell? ⟨w.heap.size + 1 + 1, 0, none⟩ = some (.slice Aq2 nq2 cq2) := XR9.cell 0
        have XR9c1 : w9.cell? ⟨w.heap.size + 1 + 1, 1, none⟩ = some (.slice Aa2 na2 ca2) := XR9.cell 1
        have XR9c2 : w9.cell? ⟨w.heap.size + 1 + 1, 2, none⟩ = some (.slice As2 ns2 cs2) := XR9.cell 2
        have XR9c3 : w9.cell? ⟨w.heap.size + 1 + 1, 3, none⟩ = some (.slice Ah2 nh2 ch2) := XR9.cell 3
        have XR9c4 : w9.cell? ⟨w.heap.size + 1 + 1, 4, none⟩ = some (.slice Af2 nf2 cf2) := XR9.cell 4
        refine bodyPost_ret (v := .tuple #[.agg #[.slice Aq2 nq2 cq2, .slice Aa2 na2 ca2, .slice As2 ns2 cs2, .slice Ah2 nh2 ch2, .slice Af2 nf2 cf2], .int .i64 0]) (by simp [results, Try.results28, go_sem, XR9c0, XR9c1, XR9c2, XR9c3, XR9c4]) rfl ?_
        rw [TT.out]
        exact ⟨_, _, _, _, _, rfl, hX9.out, hB9, h3⟩
      · have e0 : (er != 0) = true := by simp [h0]
        have TT := TNO h0
        have XRc0 : w5.cell? ⟨w.heap.size + 1 + 1, 0, none⟩ = some (.slice Aq2 nq2 cq2) := XR.cell 0
        have XRf0 : w5.frozen? ⟨w.heap.size + 1 + 1, 0, none⟩ = false := XR.free 0
        have XRc1 : w5.cell? ⟨w.heap.size + 1 + 1, 1, none⟩ = some (.slice Aa2 na2 ca2) := XR.cell 1
        have XRf1 : w5.frozen? ⟨w.heap.size + 1 + 1, 1, none⟩ = false := XR.free 1
        have XRc2 : w5.cell? ⟨w.heap.size + 1 + 1, 2, none⟩ = some (.slice As2 ns2 cs2) := XR.cell 2
        have XRf2 : w5.frozen? ⟨w.heap.size + 1 + 1, 2, none⟩ = false := XR.free 2
        have XRc3 : w5.cell? ⟨w.heap.size + 1 + 1, 3, none⟩ = some (.slice Ah2 nh2 ch2) := XR.cell 3
        have XRf3 : w5.frozen? ⟨w.heap.size + 1 + 1, 3, none⟩ = false := XR.free 3
        have XRc4 : w5.cell? ⟨w.heap.size + 1 + 1, 4, none⟩ = some (.slice Af2 nf2 cf2) := XR.cell 4
        have XRf4 : w5.frozen? ⟨w.heap.size + 1 + 1, 4, none⟩ = false := XR.free 4
        have XRz : w.heap.size + 1 + 1 < w5.heap.size := XR.lt
        have XBc0 : w5.cell? ⟨w.heap.size, 0, none⟩ = some (.slice Aq nq cq) := XB.cell 0
        have XBc1 : w5.cell? ⟨w.heap.size, 1, none⟩ = some (.slice Aa na ca) := XB.cell 1
        have XBc2 : w5.cell? ⟨w.heap.size, 2, none⟩ = some (.slice As ns cs) := XB.cell 2
        have XBc3 : w5.cell? ⟨w.heap.size, 3, none⟩ = some (.slice Ah nh ch) := XB.cell 3
        have XBc4 : w5.cell? ⟨w.heap.size, 4, none⟩ = some (.slice Af nf cf) := XB.cell 4
        have XMc0 : w5.cell? ⟨w.heap.size + 1, 0, none⟩ = some (.int .u8 m.kd) := XM.cell 0
        have XMc1 : w5.cell? ⟨w.heap.size + 1, 1, none⟩ = some (.int .u8 m.gt) := XM.cell 1
        have XMc2 : w5.cell? ⟨w.heap.size + 1, 2, none⟩ = some (.int .u8 m.od) := XM.cell 2
        have XMc3 : w5.cell? ⟨w.heap.size + 1, 3, none⟩ = some (.int .u8 m.at0) := XM.cell 3
        have XMc4 : w5.cell? ⟨w.heap.size + 1, 4, none⟩ = some (.int .u8 m.fd) := XM.cell 4
        have zb := XB.lt
        have zm := XM.lt
        go_wp2
        have hX9 := bx_set (Aq := Aq) (nq := nq) (cq := cq) (Aa := Aa) (na := na) (ca := ca) (As := As) (ns := ns) (cs := cs) (Ah := Ah) (nh := nh) (ch := ch) (Af := Af) (nf := nf) (cf := cf) hX XR
        have hB9 := (((((hB.setCell (p := ⟨w.heap.size + 1 + 1, 0, none⟩) (by simp <;> omega) (.slice Aq nq cq)).setCell (p := ⟨w.heap.size + 1 + 1, 1, none⟩) (by simp <;> omega) (.slice Aa na ca)).setCell (p := ⟨w.heap.size + 1 + 1, 2, none⟩) (by simp <;> omega) (.slice As ns cs)).setCell (p := ⟨w.heap.size + 1 + 1, 3, none⟩) (by simp <;> omega) (.slice Ah nh ch)).setCell (p := ⟨w.heap.size + 1 + 1, 4, none⟩) (by simp <;> omega) (.slice Af nf cf))
        have XR9 := (((((XR.set 0 (.slice Aq nq cq)).set 1 (.slice Aa na ca)).set 2 (.slice As ns cs)).set 3 (.slice Ah nh ch)).set 4 (.slice Af nf cf))
        clear XRc0 XRf0 XRc1 XRf1 XRc2 XRf2 XRc3 XRf3 XRc4 XRf4 XRz
        generalize (((((w5.setCell ⟨w.heap.size + 1 + 1, 0, none⟩ (.slice Aq nq cq)).setCell ⟨w.heap.size + 1 + 1, 1, none⟩ (.slice Aa na ca)).setCell ⟨w.heap.size + 1 + 1, 2, none⟩ (.slice As ns cs)).setCell ⟨w.heap.size + 1 + 1, 3, none⟩ (.slice Ah nh ch)).setCell ⟨w.heap.size + 1 + 1, 4, none⟩ (.slice Af nf cf)) = w9 at hX9 hB9 XR9 ⊢
        simp only [List.set_cons_zero, List.set_cons_succ] at XR9
        have XR9c0 : w9.cell? ⟨w.heap.size + 1 + 1, 0, none⟩ = some (.slice Aq nq cq) := XR9.cell 0
        have XR9c1 : w9.cell? ⟨w.heap.size + 1 + 1, 1, none⟩ = some (.slice Aa na ca) := XR9.cell 1
        have XR9c2 : w9.cell? ⟨w.heap.size + 1 + 1, 2, none⟩ = some (.slice As ns cs) := XR9.cell 2
        have XR9c3 : w9.cell? ⟨w.heap.size + 1 + 1, 3, none⟩ = some (.slice Ah nh ch) := XR9.cell 3
        have XR9c4 : w9.cell? ⟨w.heap.size + 1 + 1, 4, none⟩ = some (.slice Af nf cf) := XR9.cell 4
        refine bodyPost_ret (v := .tuple #[.agg #[.slice Aq nq cq, .slice Aa na ca, .slice As ns cs, .slice Ah nh ch, .slice Af nf cf], .int .i64 0]) (by simp [results, Try.results28, go_sem, XR9c0, XR9c1, XR9c2, XR9c3, XR9c4]) rfl ?_
        rw [TT.out]
        exact ⟨_, _, _, _, _, rfl, hX9.out, hB9, ⟨.inl rfl, .inl rfl, .inl rfl⟩⟩
    · obtain ⟨x, er, hs⟩ : ∃ x er, b.repeatT pt = (x, er) := ⟨_, _, rfl⟩
      have hT2 : T = keepT b (x, er) := by
        rw [← hT.out, Bx.linkT]
        rw [if_neg (by omega)]
        rw [if_neg (by omega)]
        rw [if_neg (by omega)]
        rw [if_pos hkk, hpt, hs]
      have TOK : er = 0 → Hid (T = (x, 0)) := fun h => by rw [Hid, hT2, keepT, if_pos h]
      have TNO : ¬ er = 0 → Hid (T = (b, 0)) := fun h => by rw [Hid, hT2, keepT, if_neg h]
      have hs := Lib.hid hs
      clear hT2
      have XRc0 : w3.cell? ⟨w.heap.size + 1 + 1, 0, none⟩ = some (.slice Aq nq cq) := XR.cell 0
      have XRf0 : w3.frozen? ⟨w.heap.size + 1 + 1, 0, none⟩ = false := XR.free 0
      have XRc1 : w3.cell? ⟨w.heap.size + 1 + 1, 1, none⟩ = some (.slice Aa na ca) := XR.cell 1
      have XRf1 : w3.frozen? ⟨w.heap.size + 1 + 1, 1, none⟩ = false := XR.free 1
      have XRc2 : w3.cell? ⟨w.heap.size + 1 + 1, 2, none⟩ = some (.slice As ns cs) := XR.cell 2
      have XRf2 : w3.frozen? ⟨w.heap.size + 1 + 1, 2, none⟩ = false := XR.free 2
      have XRc3 : w3.cell? ⟨w.heap.size + 1 + 1, 3, none⟩ = some (.slice Ah nh ch) := XR.cell 3
      have XRf3 : w3.frozen? ⟨w.heap.size + 1 + 1, 3, none⟩ = false := XR.free 3
      have XRc4 : w3.cell? ⟨w.heap.size + 1 + 1, 4, none⟩ = some (.slice Af nf cf) := XR.cell 4
      have XRf4 : w3.frozen? ⟨w.heap.size + 1 + 1, 4, none⟩ = false := XR.free 4
      have XRz : w.heap.size + 1 + 1 < w3.heap.size := XR.lt
      have XBc0 : w3.cell? ⟨w.heap.size, 0, none⟩ = some (.slice Aq nq cq) := XB.cell 0
      have XBc1 : w3.cell? ⟨w.heap.size, 1, none⟩ = some (.slice Aa na ca) := XB.cell 1
      have XBc2 : w3.cell? ⟨w.heap.size, 2, none⟩ = some (.slice As ns cs) := XB.cell 2
      have XBc3 : w3.cell? ⟨w.heap.size, 3, none⟩ = some (.slice Ah nh ch) := XB.cell 3
      have XBc4 : w3.cell? ⟨w.heap.size, 4, none⟩ = some (.slice Af nf cf) := XB.cell 4
      have XMc0 : w3.cell? ⟨w.heap.size + 1, 0, none⟩ = some (.int .u8 m.kd) := XM.cell 0
      have XMc1 : w3.cell? ⟨w.heap.size + 1, 1, none⟩ = some (.int .u8 m.gt) := XM.cell 1
      have XMc2 : w3.cell? ⟨w.heap.size + 1, 2, none⟩ = some (.int .u8 m.od) := XM.cell 2
      have XMc3 : w3.cell? ⟨w.heap.size + 1, 3, none⟩ = some (.int .u8 m.at0) := XM.cell 3
      have XMc4 : w3.cell? ⟨w.heap.size + 1, 4, none⟩ = some (.int .u8 m.fd) := XM.cell 4
      have zb := XB.lt
      have zm := XM.lt
      go_wp2_with fail
      clear XRc0 XRf0 XBc0 XMc0 XRc1 XRf1 XBc1 XMc1 XRc2 XRf2 XBc2 XMc2 XRc3 XRf3 XBc3 XMc3 XRc4 XRf4 XBc4 XMc4 XRz zb zm
      refine (oRepeatV_is b pt hX hs).mono ?_
      rintro e w4 hh
      obtain ⟨Aq2, nq2, cq2, Aa2, na2, ca2, As2, ns2, cs2, Ah2, nh2, ch2, Af2, nf2, cf2, rfl, hX2, hb, h3⟩ := hh.sl1
      have h3 := h3.mono hB.size
      have hX := hid_bx hX hb
      have XB := XB.later hb
      have XM := XM.later hb
      have XR := XR.later hb
      have hB := hB.trans (hb.mono hB.size)
      have hD := hD.trans (hb.mono hD.size)
      clear hb
      have XRc0 : w4.cell? ⟨w.heap.size + 1 + 1, 0, none⟩ = some (.slice Aq nq cq) := XR.cell 0
      have XRf0 : w4.frozen? ⟨w.heap.size + 1 + 1, 0, none⟩ = false := XR.free 0
      have XRc1 : w4.cell? ⟨w.heap.size + 1 + 1, 1, none⟩ = some (.slice Aa na ca) := XR.cell 1
      have XRf1 : w4.frozen? ⟨w.heap.size + 1 + 1, 1, none⟩ = false := XR.free 1
      have XRc2 : w4.cell? ⟨w.heap.size + 1 + 1, 2, none⟩ = some (.slice As ns cs) := XR.cell 2
      have XRf2 : w4.frozen? ⟨w.heap.size + 1 + 1, 2, none⟩ = false := XR.free 2
      have XRc3 : w4.cell? ⟨w.heap.size + 1 + 1, 3, none⟩ = some (.slice Ah nh ch) := XR.cell 3
      have XRf3 : w4.frozen? ⟨w.heap.size + 1 + 1, 3, none⟩ = false := XR.free 3
      have XRc4 : w4.cell? ⟨w.heap.size + 1 + 1, 4, none⟩ = some (.slice Af nf cf) := XR.cell 4
      have XRf4 : w4.frozen? ⟨w.heap.size + 1 + 1, 4, none⟩ = false := XR.free 4
      have XRz : w.heap.size + 1 + 1 < w4.heap.size := XR.lt
      have XBc0 : w4.cell? ⟨w.heap.size, 0, none⟩ = some (.slice Aq nq cq) := XB.cell 0
      have XBc1 : w4.cell? ⟨w.heap.size, 1, none⟩ = some (.slice Aa na ca) := XB.cell 1
      have XBc2 : w4.cell? ⟨w.heap.size, 2, none⟩ = some (.slice As ns cs) := XB.cell 2
      have XBc3 : w4.cell? ⟨w.heap.size, 3, none⟩ = some (.slice Ah nh ch) := XB.cell 3
      have XBc4 : w4.cell? ⟨w.heap.size, 4, none⟩ = some (.slice Af nf cf) := XB.cell 4
      have XMc0 : w4.cell? ⟨w.heap.size + 1, 0, none⟩ = some (.int .u8 m.kd) := XM.cell 0
      have XMc1 : w4.cell? ⟨w.heap.size + 1, 1, none⟩ = some (.int .u8 m.gt) := XM.cell 1
      have XMc2 : w4.cell? ⟨w.heap.size + 1, 2, none⟩ = some (.int .u8 m.od) := XM.cell 2
      have XMc3 : w4.cell? ⟨w.heap.size + 1, 3, none⟩ = some (.int .u8 m.at0) := XM.cell 3
      have XMc4 : w4.cell? ⟨w.heap.size + 1, 4, none⟩ = some (.int .u8 m.fd) := XM.cell 4
      have zb := XB.lt
      have zm := XM.lt
      go_upto_region 21 with fail
      clear XRc0 XRf0 XBc0 XMc0 XRc1 XRf1 XBc1 XMc1 XRc2 XRf2 XBc2 XMc2 XRc3 XRf3 XBc3 XMc3 XRc4 XRf4 XBc4 XMc4 XRz zb zm
      have hX := bx_set (Aq := Aq2) (nq := nq2) (cq := cq2) (Aa := Aa2) (na := na2) (ca := ca2) (As := As2) (ns := ns2) (cs := cs2) (Ah := Ah2) (nh := nh2) (ch := ch2) (Af := Af2) (nf := nf2) (cf := cf2) hX XR
      have hX2 := bx_set (Aq := Aq2) (nq := nq2) (cq := cq2) (Aa := Aa2) (na := na2) (ca := ca2) (As := As2) (ns := ns2) (cs := cs2) (Ah := Ah2) (nh := nh2) (ch := ch2) (Af := Af2) (nf := nf2) (cf := cf2) hX2 XR
      have XB := (((((XB.other (a := ⟨w.heap.size + 1 + 1, 0, none⟩) (by simp <;> omega) (.slice Aq2 nq2 cq2)).other (a := ⟨w.heap.size + 1 + 1, 1, none⟩) (by simp <;> omega) (.slice Aa2 na2 ca2)).other (a := ⟨w.heap.size + 1 + 1, 2, none⟩) (by simp <;> omega) (.slice As2 ns2 cs2)).other (a := ⟨w.heap.size + 1 + 1, 3, none⟩) (by simp <;> omega) (.slice Ah2 nh2 ch2)).other (a := ⟨w.heap.size + 1 + 1, 4, none⟩) (by simp <;> omega) (.slice Af2 nf2 cf2))
      have XM := (((((XM.other (a := ⟨w.heap.size + 1 + 1, 0, none⟩) (by simp <;> omega) (.slice Aq2 nq2 cq2)).other (a := ⟨w.heap.size + 1 + 1, 1, none⟩) (by simp <;> omega) (.slice Aa2 na2 ca2)).other (a := ⟨w.heap.size + 1 + 1, 2, none⟩) (by simp <;> omega) (.slice As2 ns2 cs2)).other (a := ⟨w.heap.size + 1 + 1, 3, none⟩) (by simp <;> omega) (.slice Ah2 nh2 ch2)).other (a := ⟨w.heap.size + 1 + 1, 4, none⟩) (by simp <;> omega) (.slice Af2 nf2 cf2))
      have hB := (((((hB.setCell (p := ⟨w.heap.size + 1 + 1, 0, none⟩) (by simp <;> omega) (.slice Aq2 nq2 cq2)).setCell (p := ⟨w.heap.size + 1 + 1, 1, none⟩) (by simp <;> omega) (.slice Aa2 na2 ca2)).setCell (p := ⟨w.heap.size + 1 + 1, 2, none⟩) (by simp <;> omega) (.slice As2 ns2 cs2)).setCell (p := ⟨w.heap.size + 1 + 1, 3, none⟩) (by simp <;> omega) (.slice Ah2 nh2 ch2)).setCell (p := ⟨w.heap.size + 1 + 1, 4, none⟩) (by simp <;> omega) (.slice Af2 nf2 cf2))
      have hD := (((((hD.setCell (p := ⟨w.heap.size + 1 + 1, 0, none⟩) (by simp <;> omega) (.slice Aq2 nq2 cq2)).setCell (p := ⟨w.heap.size + 1 + 1, 1, none⟩) (by simp <;> omega) (.slice Aa2 na2 ca2)).setCell (p := ⟨w.heap.size + 1 + 1, 2, none⟩) (by simp <;> omega) (.slice As2 ns2 cs2)).setCell (p := ⟨w.heap.size + 1 + 1, 3, none⟩) (by simp <;> omega) (.slice Ah2 nh2 ch2)).setCell (p := ⟨w.heap.size + 1 + 1, 4, none⟩) (by simp <;> omega) (.slice Af2 nf2 cf2))
      have XR := (((((XR.set 0 (.slice Aq2 nq2 cq2)).set 1 (.slice Aa2 na2 ca2)).set 2 (.slice As2 ns2 cs2)).set 3 (.slice Ah2 nh2 ch2)).set 4 (.slice Af2 nf2 cf2))
      generalize (((((w4.setCell ⟨w.heap.size + 1 + 1, 0, none⟩ (.slice Aq2 nq2 cq2)).setCell ⟨w.heap.size + 1 + 1, 1, none⟩ (.slice Aa2 na2 ca2)).setCell ⟨w.heap.size + 1 + 1, 2, none⟩ (.slice As2 ns2 cs2)).setCell ⟨w.heap.size + 1 + 1, 3, none⟩ (.slice Ah2 nh2 ch2)).setCell ⟨w.heap.size + 1 + 1, 4, none⟩ (.slice Af2 nf2 cf2)) = w5 at hX XB XM XR hB hD hX2 ⊢
      simp only [List.set_cons_zero, List.set_cons_succ] at XR
      by_cases h0 : er = 0
      · subst h0
        have TT := TOK rfl
        go_upto_region 23 with fail
        have XRc0 : w5.cell? ⟨w.heap.size + 1 + 1, 0, none⟩ = some (.slice Aq2 nq2 cq2) := XR.cell 0
        have XRf0 : w5.frozen? ⟨w.heap.size + 1 + 1, 0, none⟩ = false := XR.free 0
        have XRc1 : w5.cell? ⟨w.heap.size + 1 + 1, 1, none⟩ = some (.slice Aa2 na2 ca2) := XR.cell 1
        have XRf1 : w5.frozen? ⟨w.heap.size + 1 + 1, 1, none⟩ = false := XR.free 1
        have XRc2 : w5.cell? ⟨w.heap.size + 1 + 1, 2, none⟩ = some (.slice As2 ns2 cs2) := XR.cell 2
        have XRf2 : w5.frozen? ⟨w.heap.size + 1 + 1, 2, none⟩ = false := XR.free 2
        have XRc3 : w5.cell? ⟨w.heap.size + 1 + 1, 3, none⟩ = some (.slice Ah2 nh2 ch2) := XR.cell 3
        have XRf3 : w5.frozen? ⟨w.heap.size + 1 + 1, 3, none⟩ = false := XR.free 3
        have XRc4 : w5.cell? ⟨w.heap.size + 1 + 1, 4, none⟩ = some (.slice Af2 nf2 cf2) := XR.cell 4
        have XRf4 : w5.frozen? ⟨w.heap.size + 1 + 1, 4, none⟩ = false := XR.free 4
        have XRz : w.heap.size + 1 + 1 < w5.heap.size := XR.lt
        go_wp2
        have hX9 := bx_set (Aq := Aq2) (nq := nq2) (cq := cq2) (Aa := Aa2) (na := na2) (ca := ca2) (As := As2) (ns := ns2) (cs := cs2) (Ah := Ah2) (nh := nh2) (ch := ch2) (Af := Af2) (nf := nf2) (cf := cf2) hX2 XR
        have hB9 := (((((hB.setCell (p := ⟨w.heap.size + 1 + 1, 0, none⟩) (by simp <;> omega) (.slice Aq2 nq2 cq2)).setCell (p := ⟨w.heap.size + 1 + 1, 1, none⟩) (by simp <;> omega) (.slice Aa2 na2 ca2)).setCell (p := ⟨w.heap.size + 1 + 1, 2, none⟩) (by simp <;> omega) (.slice As2 ns2 cs2)).setCell (p := ⟨w.heap.size + 1 + 1, 3, none⟩) (by simp <;> omega) (.slice Ah2 nh2 ch2)).setCell (p := ⟨w.heap.size + 1 + 1, 4, none⟩) (by simp <;> omega) (.slice Af2 nf2 cf2))
        have XR9 := (((((XR.set 0 (.slice Aq2 nq2 cq2)).set 1 (.slice Aa2 na2 ca2)).set 2 (.slice As2 ns2 cs2)).set 3 (.slice Ah2 nh2 ch2)).set 4 (.slice Af2 nf2 cf2))
        clear XRc0 XRf0 XRc1 XRf1 XRc2 XRf2 XRc3 XRf3 XRc4 XRf4 XRz
        generalize (((((w5.setCell ⟨w.heap.size + 1 + 1, 0, none⟩ (.slice Aq2 nq2 cq2)).setCell ⟨w.heap.size + 1 + 1, 1, none⟩ (.slice Aa2 na2 ca2)).setCell ⟨w.heap.size + 1 + 1, 2, none⟩ (.slice As2 ns2 cs2)).setCell ⟨w.heap.size + 1 + 1, 3, none⟩ (.slice Ah2 nh2 ch2)).setCell ⟨w.heap.size + 1 + 1, 4, none⟩ (.slice Af2 nf2 cf2)) = w9 at hX9 hB9 XR9 ⊢
        simp only [List.set_cons_zero, List.set_cons_succ] at XR9
        have XR9c0 : w9.cell? ⟨w.heap.size + 1 + 1, 0, none⟩ = some (.slice Aq2 nq2 cq2) := XR9.cell 0
        have XR9c1 : w9.cell? ⟨w.heap.size + 1 + 1, 1, none⟩ = some (.slice Aa2 na2 ca2) := XR9.cell 1
        have XR9c2 : w9.cell? ⟨w.heap.size + 1 + 1, 2, none⟩ = some (.slice As2 ns2 cs2) := XR9.cell 2
        have XR9c3 : w9.cell? ⟨w.heap.size + 1 + 1, 3, none⟩ = some (.slice Ah2 nh2 ch2) := XR9.cell 3
        have XR9c4 : w9.cell? ⟨w.heap.size + 1 + 1, 4, none⟩ = some (.slice Af2 nf2 cf2) := XR9.cell 4
        refine bodyPost_ret (v := .tuple #[.agg #[.slice Aq2 nq2 cq2, .slice Aa2 na2 ca2, .slice As2 ns2 cs2, .slice Ah2 nh2 ch2, .slice Af2 nf2 cf2], .int .i64 0]) (by simp [results, Try.results28, go_sem, XR9c0, XR9c1, XR9c2, XR9c3, XR9c4]) rfl ?_
        rw [TT.out]
        exact ⟨_, _, _, _, _, rfl, hX9.out, hB9, h3⟩
      · have e0 : (er != 0) = true := by simp [h0]
        have TT := TNO h0
        have XRc0 : w5.cell? ⟨w.heap.size + 1 + 1, 0, none⟩ = some (.slice Aq2 nq2 cq2) := XR.cell 0
        have XRf0 : w5.frozen? ⟨w.heap.size + 1 + 1, 0, none⟩ = false := XR.free 0
        have XRc1 : w5.cell? ⟨w.heap.size + 1 + 1, 1, none⟩ = some (.slice Aa2 na2 ca2) := XR.cell 1
        have XRf1 : w5.frozen? ⟨w.heap.size + 1 + 1, 1, none⟩ = false := XR.free 1
        have XRc2 : w5.cell? ⟨w.heap.size + 1 + 1, 2, none⟩ = some (.slice As2 ns2 cs2) := XR.cell 2
        have XRf2 : w5.frozen? ⟨w.heap.size + 1 + 1, 2, none⟩ = false := XR.free 2
        have XRc3 : w5.cell? ⟨w.heap.size + 1 + 1, 3, none⟩ = some (.slice Ah2 nh2 ch2) := XR.cell 3
        have XRf3 : w5.frozen? ⟨w.heap.size + 1 + 1, 3, none⟩ = false := XR.free 3
        have XRc4 : w5.cell? ⟨w.heap.size + 1 + 1, 4, none⟩ = some (.slice Af2 nf2 cf2) := XR.cell 4
        have XRf4 : w5.frozen? ⟨w.heap.size + 1 + 1, 4, none⟩ = false := XR.free 4
        have XRz : w.heap.size + 1 + 1 < w5.heap.size := XR.lt
        have XBc0 : w5.cell? ⟨w.heap.size, 0, none⟩ = some (.slice Aq nq cq) := XB.cell 0
        have XBc1 : w5.cell? ⟨w.heap.size, 1, none⟩ = some (.slice Aa na ca) := XB.cell 1
        have XBc2 : w5.cell? ⟨w.heap.size, 2, none⟩ = some (.slice As ns cs) := XB.cell 2
        have XBc3 : w5.cell? ⟨w.heap.size, 3, none⟩ = some (.slice Ah nh ch) := XB.cell 3
        have XBc4 : w5.cell? ⟨w.heap.size, 4, none⟩ = some (.slice Af nf cf) := XB.cell 4
        have XMc0 : w5.cell? ⟨w.heap.size + 1, 0, none⟩ = some (.int .u8 m.kd) := XM.cell 0
        have XMc1 : w5.cell? ⟨w.heap.size + 1, 1, none⟩ = some (.int .u8 m.gt) := XM.cell 1
        have XMc2 : w5.cell? ⟨w.heap.size + 1, 2, none⟩ = some (.int .u8 m.od) := XM.cell 2
        have XMc3 : w5.cell? ⟨w.heap.size + 1, 3, none⟩ = some (.int .u8 m.at0) := XM.cell 3
        have XMc4 : w5.cell? ⟨w.heap.size + 1, 4, none⟩ = some (.int .u8 m.fd) := XM.cell 4
        have zb := XB.lt
        have zm := XM.lt
        go_wp2
        have hX9 := bx_set (Aq := Aq) (nq := nq) (cq := cq) (Aa := Aa) (na := na) (ca := ca) (As := As) (ns := ns) (cs := cs) (Ah := Ah) (nh := nh) (ch := ch) (Af := Af) (nf := nf) (cf := cf) hX XR
        have hB9 := (((((hB.setCell (p := ⟨w.heap.size + 1 + 1, 0, none⟩) (by simp <;> omega) (.slice Aq nq cq)).setCell (p := ⟨w.heap.size + 1 + 1, 1, none⟩) (by simp <;> omega) (.slice Aa na ca)).setCell (p := ⟨w.heap.size + 1 + 1, 2, none⟩) (by simp <;> omega) (.slice As ns cs)).setCell (p := ⟨w.heap.size + 1 + 1, 3, none⟩) (by simp <;> omega) (.slice Ah nh ch)).setCell (p := ⟨w.heap.size + 1 + 1, 4, none⟩) (by simp <;> omega) (.slice Af nf cf))
        have XR9 := (((((XR.set 0 (.slice Aq nq cq)).set 1 (.slice Aa na ca)).set 2 (.slice As ns cs)).set 3 (.slice Ah nh ch)).set 4 (.slice Af nf cf))
        clear XRc0 XRf0 XRc1 XRf1 XRc2 XRf2 XRc3 XRf3 XRc4 XRf4 XRz
        generalize (((((w5.setCell ⟨w.heap.size + 1 + 1, 0, none⟩ (.slice Aq nq cq)).setCell ⟨w.heap.size + 1 + 1, 1, none⟩ (.slice Aa na ca)).setCell ⟨w.heap.size + 1 + 1, 2, none⟩ (.slice As ns cs)).setCell ⟨w.heap.size + 1 + 1, 3, none⟩ (.slice Ah nh ch)).setCell ⟨w.heap.size + 1 + 1, 4, none⟩ (.slice Af nf cf)) = w9 at hX9 hB9 XR9 ⊢
        simp only [List.set_cons_zero, List.set_cons_succ] at XR9
        have XR9c0 : w9.cell? ⟨w.heap.size + 1 + 1, 0, none⟩ = some (.slice Aq nq cq) := XR9.cell 0
        have XR9c1 : w9.cell? ⟨w.heap.size + 1 + 1, 1, none⟩ = some (.slice Aa na ca) := XR9.cell 1
        have XR9c2 : w9.cell? ⟨w.heap.size + 1 + 1, 2, none⟩ = some (.slice As ns cs) := XR9.cell 2
        have XR9c3 : w9.cell? ⟨w.heap.size + 1 + 1, 3, none⟩ = some (.slice Ah nh ch) := XR9.cell 3
        have XR9c4 : w9.cell? ⟨w.heap.size + 1 + 1, 4, none⟩ = some (.slice Af nf cf) := XR9.cell 4
        refine bodyPost_ret (v := .tuple #[.agg #[.slice Aq nq cq, .slice Aa na ca, .slice As ns cs, .slice Ah nh ch, .slice Af nf cf], .int .i64 0]) (by simp [results, Try.results28, go_sem, XR9c0, XR9c1, XR9c2, XR9c3, XR9c4]) rfl ?_
        rw [TT.out]
        exact ⟨_, _, _, _, _, rfl, hX9.out, hB9, ⟨.inl rfl, .inl rfl, .inl rfl⟩⟩
    · obtain ⟨on, hon⟩ : ∃ on, decide (m.od % 2 = 0) = on := ⟨_, rfl⟩
      have hon2 : (m.od % 2 == 0) = on := by rw [← hon]; rfl
      have HW : wrap64 (1 + gg) = 1 + gg := by unfold wrap64; omega
      have HW2 : IntKind.i64.wrap (1 + gg) = 1 + gg := by rw [IntKind.wrap_i64]; omega
      obtain ⟨n', er, hs⟩ : ∃ n' er, Go.Proofs.Ytmbifmmkccghfaa.cutT b.net 0 (1 + gg) on = (n', er) := ⟨_, _, rfl⟩
      have hT2 : T = keepT b (⟨n', b.sent, b.heard, b.fresh⟩, er) := by
        rw [← hT.out, Bx.linkT, l4]
        rw [if_neg (by omega), if_neg (by omega), if_neg (by omega), if_neg (by omega), if_pos hkk, hgg, hon, Bx.cutT, hs]
      have TOK : er = 0 → Hid (T = (⟨n', b.sent, b.heard, b.fresh⟩, 0)) := fun h => by rw [Hid, hT2, keepT, if_pos h]
      have TNO : ¬ er = 0 → Hid (T = (b, 0)) := fun h => by rw [Hid, hT2, keepT, if_neg h]
      have hs := Lib.hid hs
      clear hT2
      go_upto_region 20 with fail
      have hq := (Below.refl w3.heap.size w3).drew
      have hD := hD.drew
      have zb := XB0.lt
      have zm := XM0.lt
      have u0 : ∀ z : Later Wb, z.w.cell? ⟨w.heap.size, 0, none⟩ = some (.slice Aq nq cq) := Later.cell (XB0.cell 0) zb
      have u1 : ∀ z : Later Wb, z.w.cell? ⟨w.heap.size, 1, none⟩ = some (.slice Aa na ca) := Later.cell (XB0.cell 1) zb
      have u2 : ∀ z : Later Wb, z.w.cell? ⟨w.heap.size, 2, none⟩ = some (.slice As ns cs) := Later.cell (XB0.cell 2) zb
      have u3 : ∀ z : Later Wb, z.w.cell? ⟨w.heap.size, 3, none⟩ = some (.slice Ah nh ch) := Later.cell (XB0.cell 3) zb
      have u4 : ∀ z : Later Wb, z.w.cell? ⟨w.heap.size, 4, none⟩ = some (.slice Af nf cf) := Later.cell (XB0.cell 4) zb
      have v0 : ∀ z : Later Wb, z.w.cell? ⟨w.heap.size + 1, 0, none⟩ = some (.int .u8 m.kd) := Later.cell (XM0.cell 0) zm
      have v1 : ∀ z : Later Wb, z.w.cell? ⟨w.heap.size + 1, 1, none⟩ = some (.int .u8 m.gt) := Later.cell (XM0.cell 1) zm
      have v2 : ∀ z : Later Wb, z.w.cell? ⟨w.heap.size + 1, 2, none⟩ = some (.int .u8 m.od) := Later.cell (XM0.cell 2) zm
      have v3 : ∀ z : Later Wb, z.w.cell? ⟨w.heap.size + 1, 3, none⟩ = some (.int .u8 m.at0) := Later.cell (XM0.cell 3) zm
      have v4 : ∀ z : Later Wb, z.w.cell? ⟨w.heap.size + 1, 4, none⟩ = some (.int .u8 m.fd) := Later.cell (XM0.cell 4) zm
      have HX := hid_bx hX hq
      refine wp_region_headsM (C := fun w' => ∃ x : Later Wb, w' = x.w) [0, 1, 2, 3, 4, 5, 6, 7, 8, 9, 10, 11, 12, 13] (by kernel_rfl) (by kernel_rfl) (Later.mk' hD) (fun _ _ h => h) ?_
      simp only [headOps, List.filterMap_cons, List.filterMap_nil, List.getElem?_toArray, List.getElem?_cons_succ, List.getElem?_cons_zero]
      repeat (first | go_big_quiet_skip | (show wpQuiet _ _ _ _ (_ :: _) _; go_big_quiet_skip) | (show wpQuiet _ _ _ _ (_ :: _) _; go_big_quiet_want; go_big_quiet_op; go_big_quiet_on))
      refine wpQuiet_nil ?_
      clear u0 v0 u1 v1 u2 v2 u3 v3 u4 v4 zb zm
      have XB := XB.later hq
      have XM := XM.later hq
      have XR := XR.later hq
      have hB := hB.trans (hq.mono hB.size)
      clear hq
      generalize w3.drew = W0 at hD HX XB XM XR hB ⊢
      refine anyC_oneW (n := 7) (i := 14) (by kernel_rfl) (Later.mk' hD) ?_
      refine wpOp_callD (some 97) (by rfl) rfl rfl ?_ ((nCutV_is b.net 0 (1 + gg) on (Lib.hid HX.out.net)).mono ?_)
      · go_simp
      rintro e W1 ⟨Vq, Va, m', er', rfl, hT2, hN2, hb, hv9⟩
      have hv9 := hv9.mono hB.size
      refine ⟨_, rfl, ?_⟩
      simp only [Act.put, List.setIfInBounds_toArray, List.set_cons_zero, List.set_cons_succ]
      obtain ⟨Aq2, nq2, cq2, Aa2, na2, ca2, rfl, rfl⟩ := hN2.out.form
      have HX := hid_bx HX hb
      have hX2 : Hid (BxAt W1 W1.heap.size (.slice Aq2 nq2 cq2) (.slice Aa2 na2 ca2) (.slice As ns cs) (.slice Ah nh ch) (.slice Af nf cf) ⟨m', b.sent, b.heard, b.fresh⟩) := ⟨hN2.out.at hb.size, HX.out.sent, HX.out.heard, HX.out.fresh⟩
      have XB := XB.later hb
      have XM := XM.later hb
      have XR := XR.later hb
      have hB := hB.trans (hb.mono hB.size)
      have hD := hD.trans (hb.mono hD.size)
      clear hb hN2
      have h3 : Nw3 w.heap.size (.slice Aa na ca) (.slice As ns cs) (.slice Ah nh ch) (.slice Aa2 na2 ca2) (.slice As ns cs) (.slice Ah nh ch) := ⟨hv9, .inl rfl, .inl rfl⟩
      have h9 := hT2.out.symm.trans hs.out
      injection h9 with h9 h10
      subst h9 h10
      refine anyC_heads (by kernel_rfl) 2 W1 (Later.mk' hD) [15, 16, 17, 18] _ _ (by kernel_rfl) ?_
      simp only [headOps, List.filterMap_cons, List.filterMap_nil, List.getElem?_toArray, List.getElem?_cons_succ, List.getElem?_cons_zero]
      repeat (first | go_big_quiet_skip | (show wpQuiet _ _ _ _ (_ :: _) _; go_big_quiet_skip) | (show wpQuiet _ _ _ _ (_ :: _) _; go_big_quiet_want; go_big_quiet_op; go_big_quiet_on))
      refine wpQuiet_nil ?_
      have XRc0 : W1.cell? ⟨w.heap.size + 1 + 1, 0, none⟩ = some (.slice Aq nq cq) := XR.cell 0
      have XRf0 : W1.frozen? ⟨w.heap.size + 1 + 1, 0, none⟩ = false := XR.free 0
      have XRc1 : W1.cell? ⟨w.heap.size + 1 + 1, 1, none⟩ = some (.slice Aa na ca) := XR.cell 1
      have XRf1 : W1.frozen? ⟨w.heap.size + 1 + 1, 1, none⟩ = false := XR.free 1
      have XRc2 : W1.cell? ⟨w.heap.size + 1 + 1, 2, none⟩ = some (.slice As ns cs) := XR.cell 2
      have XRf2 : W1.frozen? ⟨w.heap.size + 1 + 1, 2, none⟩ = false := XR.free 2
      have XRc3 : W1.cell? ⟨w.heap.size + 1 + 1, 3, none⟩ = some (.slice Ah nh ch) := XR.cell 3
      have XRf3 : W1.frozen? ⟨w.heap.size + 1 + 1, 3, none⟩ = false := XR.free 3
      have XRc4 : W1.cell? ⟨w.heap.size + 1 + 1, 4, none⟩ = some (.slice Af nf cf) := XR.cell 4
      have XRf4 : W1.frozen? ⟨w.heap.size + 1 + 1, 4, none⟩ = false := XR.free 4
      have XRz : w.heap.size + 1 + 1 < W1.heap.size := XR.lt
      refine anyC_storeN (w' := ((W1.setCell ⟨w.heap.size + 1 + 1, 0, none⟩ (.slice Aq2 nq2 cq2)).setCell ⟨w.heap.size + 1 + 1, 1, none⟩ (.slice Aa2 na2 ca2))) (n := 1) (i := 19) (by kernel_rfl) rfl rfl rfl (Later.mk' hD) ?_ ?_
      · go_simp
      have hD := ((hD.setCell (p := ⟨w.heap.size + 1 + 1, 0, none⟩) (by simp <;> omega) (.slice Aq2 nq2 cq2)).setCell (p := ⟨w.heap.size + 1 + 1, 1, none⟩) (by simp <;> omega) (.slice Aa2 na2 ca2))
      clear XRc0 XRf0 XRc1 XRf1 XRc2 XRf2 XRc3 XRf3 XRc4 XRf4 XRz
      have hX := bx_set2v (Aq := Aq2) (nq := nq2) (cq := cq2) (Aa := Aa2) (na := na2) (ca := ca2) HX XR
      have hX2 := bx_set2v (Aq := Aq2) (nq := nq2) (cq := cq2) (Aa := Aa2) (na := na2) (ca := ca2) hX2 XR
      have XB := ((XB.other (a := ⟨w.heap.size + 1 + 1, 0, none⟩) (by simp <;> omega) (.slice Aq2 nq2 cq2)).other (a := ⟨w.heap.size + 1 + 1, 1, none⟩) (by simp <;> omega) (.slice Aa2 na2 ca2))
      have XM := ((XM.other (a := ⟨w.heap.size + 1 + 1, 0, none⟩) (by simp <;> omega) (.slice Aq2 nq2 cq2)).other (a := ⟨w.heap.size + 1 + 1, 1, none⟩) (by simp <;> omega) (.slice Aa2 na2 ca2))
      have hB := ((hB.setCell (p := ⟨w.heap.size + 1 + 1, 0, none⟩) (by simp <;> omega) (.slice Aq2 nq2 cq2)).setCell (p := ⟨w.heap.size + 1 + 1, 1, none⟩) (by simp <;> omega) (.slice Aa2 na2 ca2))
      have XR := ((XR.set 0 (.slice Aq2 nq2 cq2)).set 1 (.slice Aa2 na2 ca2))
      generalize ((W1.setCell ⟨w.heap.size + 1 + 1, 0, none⟩ (.slice Aq2 nq2 cq2)).setCell ⟨w.heap.size + 1 + 1, 1, none⟩ (.slice Aa2 na2 ca2)) = w5 at hD hX XB XM XR hB hX2 ⊢
      simp only [List.set_cons_zero, List.set_cons_succ] at XR
      refine anyC_valD (some 8) (n := 0) (i := 20) (v := .int .i64 er') (w' := w5) (by kernel_rfl) rfl rfl rfl (Later.mk' hD) (by first | rfl | go_simp) ?_
      simp only [Act.put, List.setIfInBounds_toArray, List.set_cons_zero, List.set_cons_succ]
      refine anyC_done (by kernel_rfl) (Later.mk' hD) ?_
      obtain ⟨As2, ns2, cs2, Ah2, nh2, ch2, Af2, nf2, cf2, k1, k2, k3, k4, k5, k6, k7, k8, k9⟩ : ∃ As2 ns2 cs2 Ah2 nh2 ch2 Af2 nf2 cf2, As = As2 ∧ ns = ns2 ∧ cs = cs2 ∧ Ah = Ah2 ∧ nh = nh2 ∧ ch = ch2 ∧ Af = Af2 ∧ nf = nf2 ∧ cf = cf2 := ⟨_, _, _, _, _, _, _, _, _, rfl, rfl, rfl, rfl, rfl, rfl, rfl, rfl, rfl⟩
      rw [k1, k2, k3, k4, k5, k6, k7, k8, k9] at XR hX2
      replace h3 : Nw3 w.heap.size (.slice Aa na ca) (.slice As ns cs) (.slice Ah nh ch) (.slice Aa2 na2 ca2) (.slice As2 ns2 cs2) (.slice Ah2 nh2 ch2) := by rw [← k1, ← k2, ← k3, ← k4, ← k5, ← k6]; exact h3
      clear k1 k2 k3 k4 k5 k6 k7 k8 k9
      by_cases h0 : er' = 0
      · subst h0
        have TT := TOK rfl
        go_upto_region 23 with fail
        have XRc0 : w5.cell? ⟨w.heap.size + 1 + 1, 0, none⟩ = some (.slice Aq2 nq2 cq2) := XR.cell 0
        have XRf0 : w5.frozen? ⟨w.heap.size + 1 + 1, 0, none⟩ = false := XR.free 0
        have XRc1 : w5.cell? ⟨w.heap.size + 1 + 1, 1, none⟩ = some (.slice Aa2 na2 ca2) := XR.cell 1
        have XRf1 : w5.frozen? ⟨w.heap.size + 1 + 1, 1, none⟩ = false := XR.free 1
        have XRc2 : w5.cell? ⟨w.heap.size + 1 + 1, 2, none⟩ = some (.slice As2 ns2 cs2) := XR.cell 2
        have XRf2 : w5.frozen? ⟨w.heap.size + 1 + 1, 2, none⟩ = false := XR.free 2
        have XRc3 : w5.cell? ⟨w.heap.size + 1 + 1, 3, none⟩ = some (.slice Ah2 nh2 ch2) := XR.cell 3
        have XRf3 : w5.frozen? ⟨w.heap.size + 1 + 1, 3, none⟩ = false := XR.free 3
        have XRc4 : w5.cell? ⟨w.heap.size + 1 + 1, 4, none⟩ = some (.slice Af2 nf2 cf2) := XR.cell 4
        have XRf4 : w5.frozen? ⟨w.heap.size + 1 + 1, 4, none⟩ = false := XR.free 4
        have XRz : w.heap.size + 1 + 1 < w5.heap.size := XR.lt
        go_wp2
        have hX9 := bx_set (Aq := Aq2) (nq := nq2) (cq := cq2) (Aa := Aa2) (na := na2) (ca := ca2) (As := As2) (ns := ns2) (cs := cs2) (Ah := Ah2) (nh := nh2) (ch := ch2) (Af := Af2) (nf := nf2) (cf := cf2) hX2 XR
        have hB9 := (((((hB.setCell (p := ⟨w.heap.size + 1 + 1, 0, none⟩) (by simp <;> omega) (.slice Aq2 nq2 cq2)).setCell (p := ⟨w.heap.size + 1 + 1, 1, none⟩) (by simp <;> omega) (.slice Aa2 na2 ca2)).setCell (p := ⟨w.heap.size + 1 + 1, 2, none⟩) (by simp <;> omega) (.slice As2 ns2 cs2)).setCell (p := ⟨w.heap.size + 1 + 1, 3, none⟩) (by simp <;> omega) (.slice Ah2 nh2 ch2)).setCell (p := ⟨w.heap.size + 1 + 1, 4, none⟩) (by simp <;> omega) (.slice Af2 nf2 cf2))
        have XR9 := (((((XR.set 0 (.slice Aq2 nq2 cq2)).set 1 (.slice Aa2 na2 ca2)).set 2 (.slice As2 ns2 cs2)).set 3 (.slice Ah2 nh2 ch2)).set 4 (.slice Af2 nf2 cf2))
        clear XRc0 XRf0 XRc1 XRf1 XRc2 XRf2 XRc3 XRf3 XRc4 XRf4 XRz
        generalize (((((w5.setCell ⟨w.heap.size + 1 + 1, 0, none⟩ (.slice Aq2 nq2 cq2)).setCell ⟨w.heap.size + 1 + 1, 1, none⟩ (.slice Aa2 na2 ca2)).setCell ⟨w.heap.size + 1 + 1, 2, none⟩ (.slice As2 ns2 cs2)).setCell ⟨w.heap.size + 1 + 1, 3, none⟩ (.slice Ah2 nh2 ch2)).setCell ⟨w.heap.size + 1 + 1, 4, none⟩ (.slice Af2 nf2 cf2)) = w9 at hX9 hB9 XR9 ⊢
        simp only [List.set_cons_zero, List.set_cons_succ] at XR9
        have XR9c0 : w9.cell? ⟨w.heap.size + 1 + 1, 0, none⟩ = some (.slice Aq2 nq2 cq2) := XR9.cell 0
        have XR9c1 : w9.cell? ⟨w.heap.size + 1 + 1, 1, none⟩ = some (.slice Aa2 na2 ca2) := XR9.cell 1
        have XR9c2 : w9.cell? ⟨w.heap.size + 1 + 1, 2, none⟩ = some (.slice As2 ns2 cs2) := XR9.cell 2
        have XR9c3 : w9.cell? ⟨w.heap.size + 1 + 1, 3, none⟩ = some (.slice Ah2 nh2 ch2) := XR9.cell 3
        have XR9c4 : w9.cell? ⟨w.heap.size + 1 + 1, 4, none⟩ = some (.slice Af2 nf2 cf2) := XR9.cell 4
        refine bodyPost_ret (v := .tuple #[.agg #[.slice Aq2 nq2 cq2, .slice Aa2 na2 ca2, .slice As2 ns2 cs2, .slice Ah2 nh2 ch2, .slice Af2 nf2 cf2], .int .i64 0]) (by simp [results, Try.results28, go_sem, XR9c0, XR9c1, XR9c2, XR9c3, XR9c4]) rfl ?_
        rw [TT.out]
        exact ⟨_, _, _, _, _, rfl, hX9.out, hB9, h3⟩
      · have e0 : (er' != 0) = true := by simp [h0]
        have TT := TNO h0
        have XRc0 : w5.cell? ⟨w.heap.size + 1 + 1, 0, none⟩ = some (.slice Aq2 nq2 cq2) := XR.cell 0
        have XRf0 : w5.frozen? ⟨w.heap.size + 1 + 1, 0, none⟩ = false := XR.free 0
        have XRc1 : w5.cell? ⟨w.heap.size + 1 + 1, 1, none⟩ = some (.slice Aa2 na2 ca2) := XR.cell 1
        have XRf1 : w5.frozen? ⟨w.heap.size + 1 + 1, 1, none⟩ = false := XR.free 1
        have XRc2 : w5.cell? ⟨w.heap.size + 1 + 1, 2, none⟩ = some (.slice As2 ns2 cs2) := XR.cell 2
        have XRf2 : w5.frozen? ⟨w.heap.size + 1 + 1, 2, none⟩ = false := XR.free 2
        have XRc3 : w5.cell? ⟨w.heap.size + 1 + 1, 3, none⟩ = some (.slice Ah2 nh2 ch2) := XR.cell 3
        have XRf3 : w5.frozen? ⟨w.heap.size + 1 + 1, 3, none⟩ = false := XR.free 3
        have XRc4 : w5.cell? ⟨w.heap.size + 1 + 1, 4, none⟩ = some (.slice Af2 nf2 cf2) := XR.cell 4
        have XRf4 : w5.frozen? ⟨w.heap.size + 1 + 1, 4, none⟩ = false := XR.free 4
        have XRz : w.heap.size + 1 + 1 < w5.heap.size := XR.lt
        have XBc0 : w5.cell? ⟨w.heap.size, 0, none⟩ = some (.slice Aq nq cq) := XB.cell 0
        have XBc1 : w5.cell? ⟨w.heap.size, 1, none⟩ = some (.slice Aa na ca) := XB.cell 1
        have XBc2 : w5.cell? ⟨w.heap.size, 2, none⟩ = some (.slice As ns cs) := XB.cell 2
        have XBc3 : w5.cell? ⟨w.heap.size, 3, none⟩ = some (.slice Ah nh ch) := XB.cell 3
        have XBc4 : w5.cell? ⟨w.heap.size, 4, none⟩ = some (.slice Af nf cf) := XB.cell 4
        have XMc0 : w5.cell? ⟨w.heap.size + 1, 0, none⟩ = some (.int .u8 m.kd) := XM.cell 0
        have XMc1 : w5.cell? ⟨w.heap.size + 1, 1, none⟩ = some (.int .u8 m.gt) := XM.cell 1
        have XMc2 : w5.cell? ⟨w.heap.size + 1, 2, none⟩ = some (.int .u8 m.od) := XM.cell 2
        have XMc3 : w5.cell? ⟨w.heap.size + 1, 3, none⟩ = some (.int .u8 m.at0) := XM.cell 3
        have XMc4 : w5.cell? ⟨w.heap.size + 1, 4, none⟩ = some (.int .u8 m.fd) := XM.cell 4
        have zb := XB.lt
        have zm := XM.lt
        go_wp2
        have hX9 := bx_set (Aq := Aq) (nq := nq) (cq := cq) (Aa := Aa) (na := na) (ca := ca) (As := As) (ns := ns) (cs := cs) (Ah := Ah) (nh := nh) (ch := ch) (Af := Af) (nf := nf) (cf := cf) hX XR
        have hB9 := (((((hB.setCell (p := ⟨w.heap.size + 1 + 1, 0, none⟩) (by simp <;> omega) (.slice Aq nq cq)).setCell (p := ⟨w.heap.size + 1 + 1, 1, none⟩) (by simp <;> omega) (.slice Aa na ca)).setCell (p := ⟨w.heap.size + 1 + 1, 2, none⟩) (by simp <;> omega) (.slice As ns cs)).setCell (p := ⟨w.heap.size + 1 + 1, 3, none⟩) (by simp <;> omega) (.slice Ah nh ch)).setCell (p := ⟨w.heap.size + 1 + 1, 4, none⟩) (by simp <;> omega) (.slice Af nf cf))
        have XR9 := (((((XR.set 0 (.slice Aq nq cq)).set 1 (.slice Aa na ca)).set 2 (.slice As ns cs)).set 3 (.slice Ah nh ch)).set 4 (.slice Af nf cf))
        clear XRc0 XRf0 XRc1 XRf1 XRc2 XRf2 XRc3 XRf3 XRc4 XRf4 XRz
        generalize (((((w5.setCell ⟨w.heap.size + 1 + 1, 0, none⟩ (.slice Aq nq cq)).setCell ⟨w.heap.size + 1 + 1, 1, none⟩ (.slice Aa na ca)).setCell ⟨w.heap.size + 1 + 1, 2, none⟩ (.slice As ns cs)).setCell ⟨w.heap.size + 1 + 1, 3, none⟩ (.slice Ah nh ch)).setCell ⟨w.heap.size + 1 + 1, 4, none⟩ (.slice Af nf cf)) = w9 at hX9 hB9 XR9 ⊢
        simp only [List.set_cons_zero, List.set_cons_succ] at XR9
        have XR9c0 : w9.cell? ⟨w.heap.size + 1 + 1, 0, none⟩ = some (.slice Aq nq cq) := XR9.cell 0
        have XR9c1 : w9.cell? ⟨w.heap.size + 1 + 1, 1, none⟩ = some (.slice Aa na ca) := XR9.cell 1
        have XR9c2 : w9.cell? ⟨w.heap.size + 1 + 1, 2, none⟩ = some (.slice As ns cs) := XR9.cell 2
        have XR9c3 : w9.cell? ⟨w.heap.size + 1 + 1, 3, none⟩ = some (.slice Ah nh ch) := XR9.cell 3
        have XR9c4 : w9.cell? ⟨w.heap.size + 1 + 1, 4, none⟩ = some (.slice Af nf cf) := XR9.cell 4
        refine bodyPost_ret (v := .tuple #[.agg #[.slice Aq nq cq, .slice Aa na ca, .slice As ns cs, .slice Ah nh ch, .slice Af nf cf], .int .i64 0]) (by simp [results, Try.results28, go_sem, XR9c0, XR9c1, XR9c2, XR9c3, XR9c4]) rfl ?_
        rw [TT.out]
        exact ⟨_, _, _, _, _, rfl, hX9.out, hB9, ⟨.inl rfl, .inl rfl, .inl rfl⟩⟩
    · have TT : Hid (T = (b, 0)) := by rw [Hid, ← hT.out, Bx.linkT, if_neg (by omega), if_neg (by omega), if_neg (by omega), if_neg (by omega), if_neg (by omega)]
      go_upto_region 23 with fail
      have XRc0 : w3.cell? ⟨w.heap.size + 1 + 1, 0, none⟩ = some (.slice Aq nq cq) := XR.cell 0
      have XRf0 : w3.frozen? ⟨w.heap.size + 1 + 1, 0, none⟩ = false := XR.free 0
      have XRc1 : w3.cell? ⟨w.heap.size + 1 + 1, 1, none⟩ = some (.slice Aa na ca) := XR.cell 1
      have XRf1 : w3.frozen? ⟨w.heap.size + 1 + 1, 1, none⟩ = false := XR.free 1
      have XRc2 : w3.cell? ⟨w.heap.size + 1 + 1, 2, none⟩ = some (.slice As ns cs) := XR.cell 2
      have XRf2 : w3.frozen? ⟨w.heap.size + 1 + 1, 2, none⟩ = false := XR.free 2
      have XRc3 : w3.cell? ⟨w.heap.size + 1 + 1, 3, none⟩ = some (.slice Ah nh ch) := XR.cell 3
      have XRf3 : w3.frozen? ⟨w.heap.size + 1 + 1, 3, none⟩ = false := XR.free 3
      have XRc4 : w3.cell? ⟨w.heap.size + 1 + 1, 4, none⟩ = some (.slice Af nf cf) := XR.cell 4
      have XRf4 : w3.frozen? ⟨w.heap.size + 1 + 1, 4, none⟩ = false := XR.free 4
      have XRz : w.heap.size + 1 + 1 < w3.heap.size := XR.lt
      go_wp2
      have hX9 := bx_set (Aq := Aq) (nq := nq) (cq := cq) (Aa := Aa) (na := na) (ca := ca) (As := As) (ns := ns) (cs := cs) (Ah := Ah) (nh := nh) (ch := ch) (Af := Af) (nf := nf) (cf := cf) hX XR
      have hB9 := (((((hB.setCell (p := ⟨w.heap.size + 1 + 1, 0, none⟩) (by simp <;> omega) (.slice Aq nq cq)).setCell (p := ⟨w.heap.size + 1 + 1, 1, none⟩) (by simp <;> omega) (.slice Aa na ca)).setCell (p := ⟨w.heap.size + 1 + 1, 2, none⟩) (by simp <;> omega) (.slice As ns cs)).setCell (p := ⟨w.heap.size + 1 + 1, 3, none⟩) (by simp <;> omega) (.slice Ah nh ch)).setCell (p := ⟨w.heap.size + 1 + 1, 4, none⟩) (by simp <;> omega) (.slice Af nf cf))
      have XR9 := (((((XR.set 0 (.slice Aq nq cq)).set 1 (.slice Aa na ca)).set 2 (.slice As ns cs)).set 3 (.slice Ah nh ch)).set 4 (.slice Af nf cf))
      clear XRc0 XRf0 XRc1 XRf1 XRc2 XRf2 XRc3 XRf3 XRc4 XRf4 XRz
      generalize (((((w3.setCell ⟨w.heap.size + 1 + 1, 0, none⟩ (.slice Aq nq cq)).setCell ⟨w.heap.size + 1 + 1, 1, none⟩ (.slice Aa na ca)).setCell ⟨w.heap.size + 1 + 1, 2, none⟩ (.slice As ns cs)).setCell ⟨w.heap.size + 1 + 1, 3, none⟩ (.slice Ah nh ch)).setCell ⟨w.heap.size + 1 + 1, 4, none⟩ (.slice Af nf cf)) = w9 at hX9 hB9 XR9 ⊢
      simp only [List.set_cons_zero, List.set_cons_succ] at XR9
      have XR9c0 : w9.cell? ⟨w.heap.size + 1 + 1, 0, none⟩ = some (.slice Aq nq cq) := XR9.cell 0
      have XR9c1 : w9.cell? ⟨w.heap.size + 1 + 1, 1, none⟩ = some (.slice Aa na ca) := XR9.cell 1
      have XR9c2 : w9.cell? ⟨w.heap.size + 1 + 1, 2, none⟩ = some (.slice As ns cs) := XR9.cell 2
      have XR9c3 : w9.cell? ⟨w.heap.size + 1 + 1, 3, none⟩ = some (.slice Ah nh ch) := XR9.cell 3
      have XR9c4 : w9.cell? ⟨w.heap.size + 1 + 1, 4, none⟩ = some (.slice Af nf cf) := XR9.cell 4
      refine bodyPost_ret (v := .tuple #[.agg #[.slice Aq nq cq, .slice Aa na ca, .slice As ns cs, .slice Ah nh ch, .slice Af nf cf], .int .i64 0]) (by simp [results, Try.results28, go_sem, XR9c0, XR9c1, XR9c2, XR9c3, XR9c4]) rfl ?_
      rw [TT.out]
      exact ⟨_, _, _, _, _, rfl, hX9.out, hB9, ⟨.inl rfl, .inl rfl, .inl rfl⟩⟩
end Go.Proofs.Ytmbifmmkccghfaa
