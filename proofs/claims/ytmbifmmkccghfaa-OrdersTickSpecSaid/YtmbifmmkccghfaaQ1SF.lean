/- OrdersSpec, OrdersTickSpec, OrdersDeliverSpec. (Printed by gen_sf.py.) No condition. -/
import Derived.Test.YtmbifmmkccghfaaQ1RN
import Derived.Deep.RegionHeld3
import Derived.Test.YtmbifmmkccghfaaQ1K
import Derived.WalkKit
import Derived.ProofKit
import Derived.OpenShut
import Derived.ChangeOld
import Derived.Below
import Derived.Lib.SmallJoins
import Derived.Deep.Slices
import Derived.Deep.Fields
import Derived.ChangeSame
import Derived.Test.YtmbifmmkccghfaaQ1KG
set_option linter.unusedVariables false
set_option linter.unusedSimpArgs false
namespace Go.Proofs.Ytmbifmmkccghfaa
open Go.RowKit

section
variable {b : Bx} {Vq Va Vs Vh Vf Uq Ua Us Uh Uf : Value} {W : World}
theorem oCheck_z {c : Int} (h : Hid (b.checkT = c)) (hx : Hid (BxAt W W.heap.size Vq Va Vs Vh Vf b)) (z : Later W) : Calls Try.prog 15 #[.agg #[Vq, Va, Vs, Vh, Vf]] z.w fun e w' => e = .returned (.int .i64 c) ∧ Below z.w.heap.size z.w w' := oCheck_is h (hx.out.later z.below)
theorem oRCheck_z {c : Int} (h : Hid (b.checkT = c)) (hx : Hid (BxAt W W.heap.size Vq Va Vs Vh Vf b)) (z : Later W) : Calls Try.prog 16 #[.agg #[Vq, Va, Vs, Vh, Vf]] z.w fun e w' => e = .returned (.int .i64 c) ∧ Below z.w.heap.size z.w w' := oRCheck_is h (hx.out.later z.below)
theorem oSame_v {w : World} (hx : Hid (BxAt w w.heap.size Vq Va Vs Vh Vf b)) (hy : Hid (BxAt w w.heap.size Uq Ua Us Uh Uf b)) : Calls Try.prog 14 #[.agg #[Vq, Va, Vs, Vh, Vf], .agg #[Uq, Ua, Us, Uh, Uf]] w fun e w' => e = .returned (.bool true) ∧ Below w.heap.size w w' := by
  obtain ⟨_, _, _, _, _, _, _, _, _, _, _, _, _, _, _, rfl, rfl, rfl, rfl, rfl⟩ := hx.out.forms5
  obtain ⟨_, _, _, _, _, _, _, _, _, _, _, _, _, _, _, rfl, rfl, rfl, rfl, rfl⟩ := hy.out.forms5
  exact oSame_is b hx hy
theorem oSame_z (hx : Hid (BxAt W W.heap.size Vq Va Vs Vh Vf b)) (hy : Hid (BxAt W W.heap.size Uq Ua Us Uh Uf b)) (z : Later W) : Calls Try.prog 14 #[.agg #[Vq, Va, Vs, Vh, Vf], .agg #[Uq, Ua, Us, Uh, Uf]] z.w fun e w' => e = .returned (.bool true) ∧ Below z.w.heap.size z.w w' := oSame_v (Lib.hid (hx.out.later z.below)) (Lib.hid (hy.out.later z.below))
end
set_option maxRecDepth 100000 in
set_option maxHeartbeats 4000000 in
theorem law_Spec_go (b : Bx) (Aq : Option Addr) (nq cq : Nat) (Aa : Option Addr) (na ca : Nat) (As : Option Addr) (ns cs : Nat) (Ah : Option Addr) (nh ch : Nat) (Af : Option Addr) (nf cf : Nat) (gate order : Int) (w : World) (hX : Hid (BxAt w w.heap.size (.slice Aq nq cq) (.slice Aa na ca) (.slice As ns cs) (.slice Ah nh ch) (.slice Af nf cf) b)) :
    Calls Try.prog 3 #[.agg #[.slice Aq nq cq, .slice Aa na ca, .slice As ns cs, .slice Ah nh ch, .slice Af nf cf], .int .i64 gate, .int .i64 order] w fun e w' => e = .returned (.bool true) ∧ Below w.heap.size w w' := by
  have hB := Below.refl w.heap.size w
  obtain ⟨t, ht⟩ : ∃ t, b.fewB = t := ⟨_, rfl⟩
  have ht := Lib.hid ht
  obtain ⟨a, ea, ha⟩ : ∃ a ea, newB gate = (a, ea) := ⟨_, _, rfl⟩
  have ha := Lib.hid ha
  have qea : (ea == ea) = true := by simp
  have rea : (ea != ea) = false := by simp
  obtain ⟨x, ex, hx⟩ : ∃ x ex, b.sendT gate order = (x, ex) := ⟨_, _, rfl⟩
  have hx := Lib.hid hx
  have qex : (ex == ex) = true := by simp
  have rex : (ex != ex) = false := by simp
  obtain ⟨c, hc⟩ : ∃ c, b.checkT = c := ⟨_, rfl⟩
  have hc := Lib.hid hc
  have qc : (c == c) = true := by simp
  go_enter Try.func3, Try.ntmps3
  go_wp2_with fail
  have hst := ((Below.refl w.heap.size w).alloc (by simp <;> omega) (.cells #[.slice Aq nq cq, .slice Aa na ca, .slice As ns cs, .slice Ah nh ch, .slice Af nf cf] 30))
  have hBo := hB
  have hX := hid_bx hX hst
  have hB := hB.trans (hst.mono hB.size)
  have X0 := (Box.newAt (w := w) (n := w.heap.size) [.slice Aq nq cq, .slice Aa na ca, .slice As ns cs, .slice Ah nh ch, .slice Af nf cf] 30 (by simp))
  clear hst
  generalize (w.alloc (.cells #[.slice Aq nq cq, .slice Aa na ca, .slice As ns cs, .slice Ah nh ch, .slice Af nf cf] 30)) = w1 at hB  X0 hX ⊢
  generalize w.heap.size = X0a at X0 ⊢
  refine (oSane_any _).mono ?_
  rintro e w2 ⟨rfl, hb⟩
  have X0 := X0.later hb
  have hX := hid_bx hX hb
  have hB := hB.trans (hb.mono hB.size)
  clear hb
  have X0c0 : w2.cell? ⟨X0a, 0, none⟩ = some (.slice Aq nq cq) := X0.cell 0
  have X0c1 : w2.cell? ⟨X0a, 1, none⟩ = some (.slice Aa na ca) := X0.cell 1
  have X0c2 : w2.cell? ⟨X0a, 2, none⟩ = some (.slice As ns cs) := X0.cell 2
  have X0c3 : w2.cell? ⟨X0a, 3, none⟩ = some (.slice Ah nh ch) := X0.cell 3
  have X0c4 : w2.cell? ⟨X0a, 4, none⟩ = some (.slice Af nf cf) := X0.cell 4
  have X0z : X0a < w2.heap.size := X0.lt
  go_wp2_with fail
  clear X0c0 X0c1 X0c2 X0c3 X0c4 X0z
  refine (oRFew_is b hX ht).mono ?_
  rintro e w3 ⟨rfl, hb⟩
  have X0 := X0.later hb
  have hX := hid_bx hX hb
  have hB := hB.trans (hb.mono hB.size)
  clear hb
  cases t with
  | false =>
    go_wp2
    go_ret
    exact ⟨rfl, hB⟩
  | true =>
    go_wp2_with fail
    refine (oNew_any gate _ ha).mono ?_
    rintro e w4 hh
    obtain ⟨Aq1, nq1, cq1, Aa1, na1, ca1, As1, ns1, cs1, Ah1, nh1, ch1, Af1, nf1, cf1, rfl, hX1, hb⟩ := hh.sl1
    have X0 := X0.later hb
    have hX := hid_bx hX hb
    have hB := hB.trans (hb.mono hB.size)
    clear hb
    go_wp2_with fail
    have hst := ((Below.refl w4.heap.size w4).alloc (by simp <;> omega) (.cells #[.slice Aq1 nq1 cq1, .slice Aa1 na1 ca1, .slice As1 ns1 cs1, .slice Ah1 nh1 ch1, .slice Af1 nf1 cf1] 30))
    have hBo := hB
    have X0o := X0
    have X0 := X0.later hst
    have hX := hid_bx hX hst
    have hX1 := hid_bx hX1 hst
    have hB := hB.trans (hst.mono hB.size)
    have X1 := (Box.newAt (w := w4) (n := w4.heap.size) [.slice Aq1 nq1 cq1, .slice Aa1 na1 ca1, .slice As1 ns1 cs1, .slice Ah1 nh1 ch1, .slice Af1 nf1 cf1] 30 (by simp))
    clear hst
    generalize (w4.alloc (.cells #[.slice Aq1 nq1 cq1, .slice Aa1 na1 ca1, .slice As1 ns1 cs1, .slice Ah1 nh1 ch1, .slice Af1 nf1 cf1] 30)) = w5 at hB X0 X1 hX hX1 ⊢
    generalize w4.heap.size = X1a at X1 ⊢
    refine (oRNew_any gate _ ha).mono ?_
    rintro e w6 hh
    obtain ⟨Aq2, nq2, cq2, Aa2, na2, ca2, As2, ns2, cs2, Ah2, nh2, ch2, Af2, nf2, cf2, rfl, hX2, hb⟩ := hh.sl1
    have X0 := X0.later hb
    have X1 := X1.later hb
    have hX := hid_bx hX hb
    have hX1 := hid_bx hX1 hb
    have hB := hB.trans (hb.mono hB.size)
    clear hb
    have X0c0 : w6.cell? ⟨X0a, 0, none⟩ = some (.slice Aq nq cq) := X0.cell 0
    have X0c1 : w6.cell? ⟨X0a, 1, none⟩ = some (.slice Aa na ca) := X0.cell 1
    have X0c2 : w6.cell? ⟨X0a, 2, none⟩ = some (.slice As ns cs) := X0.cell 2
    have X0c3 : w6.cell? ⟨X0a, 3, none⟩ = some (.slice Ah nh ch) := X0.cell 3
    have X0c4 : w6.cell? ⟨X0a, 4, none⟩ = some (.slice Af nf cf) := X0.cell 4
    have X0z : X0a < w6.heap.size := X0.lt
    go_wp2_with fail
    clear X0c0 X0c1 X0c2 X0c3 X0c4 X0z
    have hst := ((Below.refl w6.heap.size w6).alloc (by simp <;> omega) (.cells #[.slice Aq2 nq2 cq2, .slice Aa2 na2 ca2, .slice As2 ns2 cs2, .slice Ah2 nh2 ch2, .slice Af2 nf2 cf2] 30))
    have hBo := hB
    have X0o := X0
    have X0 := X0.later hst
    have X1o := X1
    have X1 := X1.later hst
    have hX := hid_bx hX hst
    have hX1 := hid_bx hX1 hst
    have hX2 := hid_bx hX2 hst
    have hB := hB.trans (hst.mono hB.size)
    have X2 := (Box.newAt (w := w6) (n := w6.heap.size) [.slice Aq2 nq2 cq2, .slice Aa2 na2 ca2, .slice As2 ns2 cs2, .slice Ah2 nh2 ch2, .slice Af2 nf2 cf2] 30 (by simp))
    clear hst
    generalize (w6.alloc (.cells #[.slice Aq2 nq2 cq2, .slice Aa2 na2 ca2, .slice As2 ns2 cs2, .slice Ah2 nh2 ch2, .slice Af2 nf2 cf2] 30)) = w7 at hB X0 X1 X2 hX hX1 hX2 ⊢
    generalize w6.heap.size = X2a at X2 ⊢
    refine (oSend_is b gate order hX hx).mono ?_
    rintro e w8 hh
    obtain ⟨Aq3, nq3, cq3, Aa3, na3, ca3, As3, ns3, cs3, Ah3, nh3, ch3, Af3, nf3, cf3, rfl, hX3, hb⟩ := hh.sl1
    have X0 := X0.later hb
    have X1 := X1.later hb
    have X2 := X2.later hb
    have hX := hid_bx hX hb
    have hX1 := hid_bx hX1 hb
    have hX2 := hid_bx hX2 hb
    have hB := hB.trans (hb.mono hB.size)
    clear hb
    have X0c0 : w8.cell? ⟨X0a, 0, none⟩ = some (.slice Aq nq cq) := X0.cell 0
    have X0c1 : w8.cell? ⟨X0a, 1, none⟩ = some (.slice Aa na ca) := X0.cell 1
    have X0c2 : w8.cell? ⟨X0a, 2, none⟩ = some (.slice As ns cs) := X0.cell 2
    have X0c3 : w8.cell? ⟨X0a, 3, none⟩ = some (.slice Ah nh ch) := X0.cell 3
    have X0c4 : w8.cell? ⟨X0a, 4, none⟩ = some (.slice Af nf cf) := X0.cell 4
    have X0z : X0a < w8.heap.size := X0.lt
    go_wp2_with fail
    clear X0c0 X0c1 X0c2 X0c3 X0c4 X0z
    have hst := ((Below.refl w8.heap.size w8).alloc (by simp <;> omega) (.cells #[.slice Aq3 nq3 cq3, .slice Aa3 na3 ca3, .slice As3 ns3 cs3, .slice Ah3 nh3 ch3, .slice Af3 nf3 cf3] 30))
    have hBo := hB
    have X0o := X0
    have X0 := X0.later hst
    have X1o := X1
    have X1 := X1.later hst
    have X2o := X2
    have X2 := X2.later hst
    have hX := hid_bx hX hst
    have hX1 := hid_bx hX1 hst
    have hX2 := hid_bx hX2 hst
    have hX3 := hid_bx hX3 hst
    have hB := hB.trans (hst.mono hB.size)
    have X3 := (Box.newAt (w := w8) (n := w8.heap.size) [.slice Aq3 nq3 cq3, .slice Aa3 na3 ca3, .slice As3 ns3 cs3, .slice Ah3 nh3 ch3, .slice Af3 nf3 cf3] 30 (by simp))
    clear hst
    generalize (w8.alloc (.cells #[.slice Aq3 nq3 cq3, .slice Aa3 na3 ca3, .slice As3 ns3 cs3, .slice Ah3 nh3 ch3, .slice Af3 nf3 cf3] 30)) = w9 at hB X0 X1 X2 X3 hX hX1 hX2 hX3 ⊢
    generalize w8.heap.size = X3a at X3 ⊢
    refine (oRSend_is b gate order hX hx).mono ?_
    rintro e w10 hh
    obtain ⟨Aq4, nq4, cq4, Aa4, na4, ca4, As4, ns4, cs4, Ah4, nh4, ch4, Af4, nf4, cf4, rfl, hX4, hb⟩ := hh.sl1
    have X0 := X0.later hb
    have X1 := X1.later hb
    have X2 := X2.later hb
    have X3 := X3.later hb
    have hX := hid_bx hX hb
    have hX1 := hid_bx hX1 hb
    have hX2 := hid_bx hX2 hb
    have hX3 := hid_bx hX3 hb
    have hB := hB.trans (hb.mono hB.size)
    clear hb
    go_wp2_with fail
    have hst := ((Below.refl w10.heap.size w10).alloc (by simp <;> omega) (.cells #[.slice Aq4 nq4 cq4, .slice Aa4 na4 ca4, .slice As4 ns4 cs4, .slice Ah4 nh4 ch4, .slice Af4 nf4 cf4] 30))
    have hBo := hB
    have X0o := X0
    have X0 := X0.later hst
    have X1o := X1
    have X1 := X1.later hst
    have X2o := X2
    have X2 := X2.later hst
    have X3o := X3
    have X3 := X3.later hst
    have hX := hid_bx hX hst
    have hX1 := hid_bx hX1 hst
    have hX2 := hid_bx hX2 hst
    have hX3 := hid_bx hX3 hst
    have hX4 := hid_bx hX4 hst
    have hB := hB.trans (hst.mono hB.size)
    have X4 := (Box.newAt (w := w10) (n := w10.heap.size) [.slice Aq4 nq4 cq4, .slice Aa4 na4 ca4, .slice As4 ns4 cs4, .slice Ah4 nh4 ch4, .slice Af4 nf4 cf4] 30 (by simp))
    clear hst
    generalize (w10.alloc (.cells #[.slice Aq4 nq4 cq4, .slice Aa4 na4 ca4, .slice As4 ns4 cs4, .slice Ah4 nh4 ch4, .slice Af4 nf4 cf4] 30)) = w11 at hB X0 X1 X2 X3 X4 hX hX1 hX2 hX3 hX4 ⊢
    generalize w10.heap.size = X4a at X4 ⊢
    have X0l0 : ∀ zz : Later w11, zz.w.cell? ⟨X0a, 0, none⟩ = some (.slice Aq nq cq) := Later.cell (X0.cell 0) X0.lt
    have X0l1 : ∀ zz : Later w11, zz.w.cell? ⟨X0a, 1, none⟩ = some (.slice Aa na ca) := Later.cell (X0.cell 1) X0.lt
    have X0l2 : ∀ zz : Later w11, zz.w.cell? ⟨X0a, 2, none⟩ = some (.slice As ns cs) := Later.cell (X0.cell 2) X0.lt
    have X0l3 : ∀ zz : Later w11, zz.w.cell? ⟨X0a, 3, none⟩ = some (.slice Ah nh ch) := Later.cell (X0.cell 3) X0.lt
    have X0l4 : ∀ zz : Later w11, zz.w.cell? ⟨X0a, 4, none⟩ = some (.slice Af nf cf) := Later.cell (X0.cell 4) X0.lt
    have X1l0 : ∀ zz : Later w11, zz.w.cell? ⟨X1a, 0, none⟩ = some (.slice Aq1 nq1 cq1) := Later.cell (X1.cell 0) X1.lt
    have X1l1 : ∀ zz : Later w11, zz.w.cell? ⟨X1a, 1, none⟩ = some (.slice Aa1 na1 ca1) := Later.cell (X1.cell 1) X1.lt
    have X1l2 : ∀ zz : Later w11, zz.w.cell? ⟨X1a, 2, none⟩ = some (.slice As1 ns1 cs1) := Later.cell (X1.cell 2) X1.lt
    have X1l3 : ∀ zz : Later w11, zz.w.cell? ⟨X1a, 3, none⟩ = some (.slice Ah1 nh1 ch1) := Later.cell (X1.cell 3) X1.lt
    have X1l4 : ∀ zz : Later w11, zz.w.cell? ⟨X1a, 4, none⟩ = some (.slice Af1 nf1 cf1) := Later.cell (X1.cell 4) X1.lt
    have X2l0 : ∀ zz : Later w11, zz.w.cell? ⟨X2a, 0, none⟩ = some (.slice Aq2 nq2 cq2) := Later.cell (X2.cell 0) X2.lt
    have X2l1 : ∀ zz : Later w11, zz.w.cell? ⟨X2a, 1, none⟩ = some (.slice Aa2 na2 ca2) := Later.cell (X2.cell 1) X2.lt
    have X2l2 : ∀ zz : Later w11, zz.w.cell? ⟨X2a, 2, none⟩ = some (.slice As2 ns2 cs2) := Later.cell (X2.cell 2) X2.lt
    have X2l3 : ∀ zz : Later w11, zz.w.cell? ⟨X2a, 3, none⟩ = some (.slice Ah2 nh2 ch2) := Later.cell (X2.cell 3) X2.lt
    have X2l4 : ∀ zz : Later w11, zz.w.cell? ⟨X2a, 4, none⟩ = some (.slice Af2 nf2 cf2) := Later.cell (X2.cell 4) X2.lt
    have X3l0 : ∀ zz : Later w11, zz.w.cell? ⟨X3a, 0, none⟩ = some (.slice Aq3 nq3 cq3) := Later.cell (X3.cell 0) X3.lt
    have X3l1 : ∀ zz : Later w11, zz.w.cell? ⟨X3a, 1, none⟩ = some (.slice Aa3 na3 ca3) := Later.cell (X3.cell 1) X3.lt
    have X3l2 : ∀ zz : Later w11, zz.w.cell? ⟨X3a, 2, none⟩ = some (.slice As3 ns3 cs3) := Later.cell (X3.cell 2) X3.lt
    have X3l3 : ∀ zz : Later w11, zz.w.cell? ⟨X3a, 3, none⟩ = some (.slice Ah3 nh3 ch3) := Later.cell (X3.cell 3) X3.lt
    have X3l4 : ∀ zz : Later w11, zz.w.cell? ⟨X3a, 4, none⟩ = some (.slice Af3 nf3 cf3) := Later.cell (X3.cell 4) X3.lt
    have X4l0 : ∀ zz : Later w11, zz.w.cell? ⟨X4a, 0, none⟩ = some (.slice Aq4 nq4 cq4) := Later.cell (X4.cell 0) X4.lt
    have X4l1 : ∀ zz : Later w11, zz.w.cell? ⟨X4a, 1, none⟩ = some (.slice Aa4 na4 ca4) := Later.cell (X4.cell 1) X4.lt
    have X4l2 : ∀ zz : Later w11, zz.w.cell? ⟨X4a, 2, none⟩ = some (.slice As4 ns4 cs4) := Later.cell (X4.cell 2) X4.lt
    have X4l3 : ∀ zz : Later w11, zz.w.cell? ⟨X4a, 3, none⟩ = some (.slice Ah4 nh4 ch4) := Later.cell (X4.cell 3) X4.lt
    have X4l4 : ∀ zz : Later w11, zz.w.cell? ⟨X4a, 4, none⟩ = some (.slice Af4 nf4 cf4) := Later.cell (X4.cell 4) X4.lt
    refine wp_region_later (by kernel_rfl) (by kernel_rfl) ?_
    repeat (go_big_quiet_step ((first | (go_at_call 15; with_reducible exact Later.call _ (oCheck_z hc hX _)) | (go_at_call 16; with_reducible exact Later.call _ (oRCheck_z hc hX _)) | (go_at_call 14; with_reducible exact Later.call _ (oSame_z hX1 hX2 _)) | (go_at_call 14; with_reducible exact Later.call _ (oSame_z hX3 hX4 _)))))
    refine wpQuiet_nil ?_
    intro _ hw'
    obtain ⟨yq, hw''⟩ := hw'
    subst hw''
    clear X0l0 X0l1 X0l2 X0l3 X0l4 X1l0 X1l1 X1l2 X1l3 X1l4 X2l0 X2l1 X2l2 X2l3 X2l4 X3l0 X3l1 X3l2 X3l3 X3l4 X4l0 X4l1 X4l2 X4l3 X4l4
    obtain ⟨w12, hz, hb⟩ : ∃ z, yq.w = z ∧ Below w11.heap.size w11 z := ⟨_, rfl, yq.below⟩
    rw [hz]
    clear hz
    have X0 := X0.later hb
    have X1 := X1.later hb
    have X2 := X2.later hb
    have X3 := X3.later hb
    have X4 := X4.later hb
    have hX := hid_bx hX hb
    have hX1 := hid_bx hX1 hb
    have hX2 := hid_bx hX2 hb
    have hX3 := hid_bx hX3 hb
    have hX4 := hid_bx hX4 hb
    have hB := hB.trans (hb.mono hB.size)
    clear hb
    go_wp2
    go_ret
    exact ⟨by first | rfl | simp, hB⟩

set_option maxRecDepth 100000 in
set_option maxHeartbeats 4000000 in
theorem law_Tick_go (b : Bx) (Aq : Option Addr) (nq cq : Nat) (Aa : Option Addr) (na ca : Nat) (As : Option Addr) (ns cs : Nat) (Ah : Option Addr) (nh ch : Nat) (Af : Option Addr) (nf cf : Nat) (w : World) (hX : Hid (BxAt w w.heap.size (.slice Aq nq cq) (.slice Aa na ca) (.slice As ns cs) (.slice Ah nh ch) (.slice Af nf cf) b)) :
    Calls Try.prog 4 #[.agg #[.slice Aq nq cq, .slice Aa na ca, .slice As ns cs, .slice Ah nh ch, .slice Af nf cf]] w fun e w' => e = .returned (.bool true) ∧ Below w.heap.size w w' := by
  have hB := Below.refl w.heap.size w
  obtain ⟨t, ht⟩ : ∃ t, b.fewB = t := ⟨_, rfl⟩
  have ht := Lib.hid ht
  obtain ⟨x, l, ex, hx⟩ : ∃ x l ex, b.tickT = (x, l, ex) := ⟨_, _, _, rfl⟩
  have hx := Lib.hid hx
  have qex : (ex == ex) = true := by simp
  have rex : (ex != ex) = false := by simp
  go_enter Try.func4, Try.ntmps4
  go_wp2_with fail
  have hst := ((Below.refl w.heap.size w).alloc (by simp <;> omega) (.cells #[.slice Aq nq cq, .slice Aa na ca, .slice As ns cs, .slice Ah nh ch, .slice Af nf cf] 30))
  have hBo := hB
  have hX := hid_bx hX hst
  have hB := hB.trans (hst.mono hB.size)
  have X0 := (Box.newAt (w := w) (n := w.heap.size) [.slice Aq nq cq, .slice Aa na ca, .slice As ns cs, .slice Ah nh ch, .slice Af nf cf] 30 (by simp))
  clear hst
  generalize (w.alloc (.cells #[.slice Aq nq cq, .slice Aa na ca, .slice As ns cs, .slice Ah nh ch, .slice Af nf cf] 30)) = w1 at hB  X0 hX ⊢
  generalize w.heap.size = X0a at X0 ⊢
  refine (oSane_any _).mono ?_
  rintro e w2 ⟨rfl, hb⟩
  have X0 := X0.later hb
  have hX := hid_bx hX hb
  have hB := hB.trans (hb.mono hB.size)
  clear hb
  have X0c0 : w2.cell? ⟨X0a, 0, none⟩ = some (.slice Aq nq cq) := X0.cell 0
  have X0c1 : w2.cell? ⟨X0a, 1, none⟩ = some (.slice Aa na ca) := X0.cell 1
  have X0c2 : w2.cell? ⟨X0a, 2, none⟩ = some (.slice As ns cs) := X0.cell 2
  have X0c3 : w2.cell? ⟨X0a, 3, none⟩ = some (.slice Ah nh ch) := X0.cell 3
  have X0c4 : w2.cell? ⟨X0a, 4, none⟩ = some (.slice Af nf cf) := X0.cell 4
  have X0z : X0a < w2.heap.size := X0.lt
  go_wp2_with fail
  clear X0c0 X0c1 X0c2 X0c3 X0c4 X0z
  refine (oRFew_is b hX ht).mono ?_
  rintro e w3 ⟨rfl, hb⟩
  have X0 := X0.later hb
  have hX := hid_bx hX hb
  have hB := hB.trans (hb.mono hB.size)
  clear hb
  cases t with
  | false =>
    go_wp2
    go_ret
    exact ⟨rfl, hB⟩
  | true =>
    have X0c0 : w3.cell? ⟨X0a, 0, none⟩ = some (.slice Aq nq cq) := X0.cell 0
    have X0c1 : w3.cell? ⟨X0a, 1, none⟩ = some (.slice Aa na ca) := X0.cell 1
    have X0c2 : w3.cell? ⟨X0a, 2, none⟩ = some (.slice As ns cs) := X0.cell 2
    have X0c3 : w3.cell? ⟨X0a, 3, none⟩ = some (.slice Ah nh ch) := X0.cell 3
    have X0c4 : w3.cell? ⟨X0a, 4, none⟩ = some (.slice Af nf cf) := X0.cell 4
    have X0z : X0a < w3.heap.size := X0.lt
    go_wp2_with fail
    clear X0c0 X0c1 X0c2 X0c3 X0c4 X0z
    refine (oTick_is b hX hx).mono ?_
    rintro e w4 hh
    obtain ⟨Aq1, nq1, cq1, Aa1, na1, ca1, As1, ns1, cs1, Ah1, nh1, ch1, Af1, nf1, cf1, Al1, nl1, cl1, rfl, hX1, hL1, hb⟩ := hh.sl
    have X0 := X0.later hb
    have hX := hid_bx hX hb
    have hB := hB.trans (hb.mono hB.size)
    clear hb
    have X0c0 : w4.cell? ⟨X0a, 0, none⟩ = some (.slice Aq nq cq) := X0.cell 0
    have X0c1 : w4.cell? ⟨X0a, 1, none⟩ = some (.slice Aa na ca) := X0.cell 1
    have X0c2 : w4.cell? ⟨X0a, 2, none⟩ = some (.slice As ns cs) := X0.cell 2
    have X0c3 : w4.cell? ⟨X0a, 3, none⟩ = some (.slice Ah nh ch) := X0.cell 3
    have X0c4 : w4.cell? ⟨X0a, 4, none⟩ = some (.slice Af nf cf) := X0.cell 4
    have X0z : X0a < w4.heap.size := X0.lt
    go_wp2_with fail
    clear X0c0 X0c1 X0c2 X0c3 X0c4 X0z
    have hst := ((Below.refl w4.heap.size w4).alloc (by simp <;> omega) (.cells #[.slice Aq1 nq1 cq1, .slice Aa1 na1 ca1, .slice As1 ns1 cs1, .slice Ah1 nh1 ch1, .slice Af1 nf1 cf1] 30))
    have hBo := hB
    have X0o := X0
    have X0 := X0.later hst
    have hX := hid_bx hX hst
    have hX1 := hid_bx hX1 hst
    have hL1 := hid_hd hL1 hst
    have hB := hB.trans (hst.mono hB.size)
    have X1 := (Box.newAt (w := w4) (n := w4.heap.size) [.slice Aq1 nq1 cq1, .slice Aa1 na1 ca1, .slice As1 ns1 cs1, .slice Ah1 nh1 ch1, .slice Af1 nf1 cf1] 30 (by simp))
    clear hst
    generalize (w4.alloc (.cells #[.slice Aq1 nq1 cq1, .slice Aa1 na1 ca1, .slice As1 ns1 cs1, .slice Ah1 nh1 ch1, .slice Af1 nf1 cf1] 30)) = w5 at hB X0 X1 hX hX1 hL1 ⊢
    generalize w4.heap.size = X1a at X1 ⊢
    refine (oRTick_is b hX hx).mono ?_
    rintro e w6 hh
    obtain ⟨Aq2, nq2, cq2, Aa2, na2, ca2, As2, ns2, cs2, Ah2, nh2, ch2, Af2, nf2, cf2, Al2, nl2, cl2, rfl, hX2, hL2, hb⟩ := hh.sl
    have X0 := X0.later hb
    have X1 := X1.later hb
    have hX := hid_bx hX hb
    have hX1 := hid_bx hX1 hb
    have hL1 := hid_hd hL1 hb
    have hB := hB.trans (hb.mono hB.size)
    clear hb
    have X1c0 : w6.cell? ⟨X1a, 0, none⟩ = some (.slice Aq1 nq1 cq1) := X1.cell 0
    have X1c1 : w6.cell? ⟨X1a, 1, none⟩ = some (.slice Aa1 na1 ca1) := X1.cell 1
    have X1c2 : w6.cell? ⟨X1a, 2, none⟩ = some (.slice As1 ns1 cs1) := X1.cell 2
    have X1c3 : w6.cell? ⟨X1a, 3, none⟩ = some (.slice Ah1 nh1 ch1) := X1.cell 3
    have X1c4 : w6.cell? ⟨X1a, 4, none⟩ = some (.slice Af1 nf1 cf1) := X1.cell 4
    have X1z : X1a < w6.heap.size := X1.lt
    go_wp2_with fail
    clear X1c0 X1c1 X1c2 X1c3 X1c4 X1z
    have hst := ((Below.refl w6.heap.size w6).alloc (by simp <;> omega) (.cells #[.slice Aq2 nq2 cq2, .slice Aa2 na2 ca2, .slice As2 ns2 cs2, .slice Ah2 nh2 ch2, .slice Af2 nf2 cf2] 30))
    have hBo := hB
    have X0o := X0
    have X0 := X0.later hst
    have X1o := X1
    have X1 := X1.later hst
    have hX := hid_bx hX hst
    have hX1 := hid_bx hX1 hst
    have hL1 := hid_hd hL1 hst
    have hX2 := hid_bx hX2 hst
    have hL2 := hid_hd hL2 hst
    have hB := hB.trans (hst.mono hB.size)
    have X2 := (Box.newAt (w := w6) (n := w6.heap.size) [.slice Aq2 nq2 cq2, .slice Aa2 na2 ca2, .slice As2 ns2 cs2, .slice Ah2 nh2 ch2, .slice Af2 nf2 cf2] 30 (by simp))
    clear hst
    generalize (w6.alloc (.cells #[.slice Aq2 nq2 cq2, .slice Aa2 na2 ca2, .slice As2 ns2 cs2, .slice Ah2 nh2 ch2, .slice Af2 nf2 cf2] 30)) = w7 at hB X0 X1 X2 hX hX1 hL1 hX2 hL2 ⊢
    generalize w6.heap.size = X2a at X2 ⊢
    refine (oSame_is x hX1 hX2).mono ?_
    rintro e w8 ⟨rfl, hb⟩
    have X0 := X0.later hb
    have X1 := X1.later hb
    have X2 := X2.later hb
    have hX := hid_bx hX hb
    have hX1 := hid_bx hX1 hb
    have hL1 := hid_hd hL1 hb
    have hX2 := hid_bx hX2 hb
    have hL2 := hid_hd hL2 hb
    have hB := hB.trans (hb.mono hB.size)
    clear hb
    go_wp2_with fail
    refine (rSameInts_is hL1 hL2 (T := true) (Lib.hid (by simp))).mono ?_
    rintro e w9 ⟨rfl, hb⟩
    have X0 := X0.later hb
    have X1 := X1.later hb
    have X2 := X2.later hb
    have hX := hid_bx hX hb
    have hX1 := hid_bx hX1 hb
    have hL1 := hid_hd hL1 hb
    have hX2 := hid_bx hX2 hb
    have hL2 := hid_hd hL2 hb
    have hB := hB.trans (hb.mono hB.size)
    clear hb
    go_wp2
    go_ret
    exact ⟨by first | rfl | simp, hB⟩

theorem law_OrdersSpec (b : Bx) (Vq Va Vs Vh Vf : Value) (gate order : Int) (w : World) (h : BxAt w w.heap.size Vq Va Vs Vh Vf b) :
    Calls Try.prog 3 #[.agg #[Vq, Va, Vs, Vh, Vf], .int .i64 gate, .int .i64 order] w fun e w' => e = .returned (.bool true) ∧ Below w.heap.size w w' := by
  obtain ⟨_, _, _, _, _, _, _, _, _, _, _, _, _, _, _, rfl, rfl, rfl, rfl, rfl⟩ := h.forms5
  exact law_Spec_go b _ _ _ _ _ _ _ _ _ _ _ _ _ _ _ gate order w (Lib.hid h)
theorem law_OrdersTickSpec (b : Bx) (Vq Va Vs Vh Vf : Value) (w : World) (h : BxAt w w.heap.size Vq Va Vs Vh Vf b) :
    Calls Try.prog 4 #[.agg #[Vq, Va, Vs, Vh, Vf]] w fun e w' => e = .returned (.bool true) ∧ Below w.heap.size w w' := by
  obtain ⟨_, _, _, _, _, _, _, _, _, _, _, _, _, _, _, rfl, rfl, rfl, rfl, rfl⟩ := h.forms5
  exact law_Tick_go b _ _ _ _ _ _ _ _ _ _ _ _ _ _ _ w (Lib.hid h)
end Go.Proofs.Ytmbifmmkccghfaa

/-
  Arguments that are slices of structs, opened; small words for it. No condition.
  The theorem open_slice_fields stands in the kit's howto/extra-structs.md, to be copied.
-/
namespace Go.Proofs.Ytmbifmmkccghfaa
open Go.ChangeShapes Go.WideShapes Go.ChangeAt Go.RowKit Go.Joins Go.Deep

theorem cell_int {H : Type} {enc : TypeId × Value → H} {P : Program} {w : World} {base : Nat} {spare : Nat → Bool} {held : Bool} {t : TypeId} {k : IntKind} {n : Nat} {v : Value} {y : DataW H × List MemPlace}
    (ht : P.underlying t = some (.int k)) (h : DataW.trod enc P w base spare held n t [v] = some y) : ∃ x : Int, v = .int k x ∧ (Lit.int k x).wf = true := by
  obtain ⟨x, hx, _, hw⟩ := DataW.trod_int ht h
  exact ⟨x, by simpa using hx, hw⟩
section
variable {H : Type} {enc : TypeId × Value → H} {P : Program} {w : World} {base : Nat} {spare : Nat → Bool} {held : Bool}
theorem open_slice_fields {t e : TypeId} {fs : Array Field} {fuel : Nat} {cs : List Value} {x : DataW H × List MemPlace} (ht : P.underlying t = some (.slice e)) (he : P.underlying e = some (.struct fs))
    (hone : oneCellFields P fs = true) (hC : P.cellsOf e = fs.size) (h : DataW.trod enc P w base spare held fuel t cs = some x) :
    (cs = [.slice none 0 0] ∧ x = (.nil, [])) ∨
    ∃ (a : Addr) (len cap m : Nat) (D : Nat → DataW H) (Pl : Nat → List MemPlace), cs = [.slice (some a) len cap] ∧ base ≤ a.block ∧ len ≤ cap ∧ cap ≤ maxLen ∧ m = (if spare a.block then cap else len) ∧
      x = (.slice ((List.range len).map D) ((List.range (m - len)).map fun j => D (len + j)), MemPlace.row a (m * fs.size) ++ (List.range m).flatMap Pl) ∧
      ∀ i, i < m → ∃ (ys : List (DataW H × List MemPlace)) (n : Nat), D i = .agg (ys.map (·.1)) ∧ Pl i = ys.flatMap (·.2) ∧ ys.length = fs.size ∧
        ∀ (j : Nat) (f : Field), fs[j]? = some f → ∃ (v : Value) (y : DataW H × List MemPlace), w.cell? (a.add (i * fs.size + j)) = some v ∧ ys[j]? = some y ∧ DataW.trod enc P w base spare held n f.type [v] = some y := by
  rcases open_slice ht h with h0 | ⟨a, len, cap, m, n, D, Pl, hcs, hb, hl, hm, hmm, hx, hi⟩
  · exact .inl h0
  · refine .inr ⟨a, len, cap, m, D, Pl, hcs, hb, hl, hm, hmm, by rw [hC] at hx; exact hx, fun i him => ?_⟩
    obtain ⟨cs', hc, ht'⟩ := hi i him
    rw [hC] at hc
    obtain ⟨ys, n', hn', hy, hlen, hyl, hf⟩ := DataW.trod_struct he ht'
    obtain ⟨_, hcl, hat⟩ := World.cells?_some hc
    simp only [Prod.mk.injEq] at hy
    refine ⟨ys, n', hy.1, hy.2, hyl, fun j f hj => ?_⟩
    obtain ⟨ho, hk⟩ := hone_of hone j f hj
    have hjl : j < fs.size := (Array.getElem?_eq_some_iff.1 hj).1
    have hcell := hat j hjl
    have hv : cs'[j]? = some (cs'[j]'(by omega)) := List.getElem?_eq_getElem (by omega)
    have h1 := hf j f hj
    rw [ho, hk] at h1
    have hone' : (cs'.drop j).take 1 = [cs'[j]'(by omega)] := by
      rw [List.drop_eq_getElem_cons (by omega)]
      rfl
    rw [hone'] at h1
    have hys : ys[j]? = some (ys[j]'(by omega)) := List.getElem?_eq_getElem (by omega)
    refine ⟨_, _, ?_, hys, h1.trans hys⟩
    rw [← Go.Deep.add_add, hcell, hv]
end

theorem exists_list {α : Type} (P : Nat → α → Prop) : ∀ n, (∀ i, i < n → ∃ a, P i a) → ∃ l : List α, l.length = n ∧ ∀ i a, l[i]? = some a → P i a
  | 0, _ => ⟨[], rfl, fun i a h => by simp at h⟩
  | n + 1, h => by
    obtain ⟨l, hl, hp⟩ := exists_list P n (fun i hi => h i (by omega))
    obtain ⟨a, ha⟩ := h n (by omega)
    refine ⟨l ++ [a], by simp [hl], fun i b hb => ?_⟩
    rcases Nat.lt_trichotomy i n with hi | rfl | hi
    · rw [List.getElem?_append_left (by omega)] at hb
      exact hp i b hb
    · rw [List.getElem?_append_right (by omega), hl] at hb
      simp at hb
      subst hb
      exact ha
    · rw [List.getElem?_eq_none (by simp; omega)] at hb
      cases hb
theorem spot_none {w : World} {a : Addr} {v : Value} (h : w.cell? a = some v) : a.spot = none := by
  unfold World.cell? at h
  split at h
  · split at h
    · cases h
    · rename_i hs
      cases hq : a.spot with
      | none => rfl
      | some q => rw [hq] at hs; exact absurd rfl hs
  · cases h
theorem trod_bytes {H : Type} {enc : TypeId × Value → H} {w : World} {base : Nat} {spare : Nat → Bool} {held : Bool} {t e : TypeId} {n : Nat} {v : Value} {y : DataW H × List MemPlace} (ht : Try.prog.underlying t = some (.slice e)) (he : Try.prog.underlying e = some (.int .u8)) (hc : Try.prog.cellsOf e = 1)
    (h : DataW.trod enc Try.prog w base spare held n t [v] = some y) : SlF v ∧ ∃ l : List UInt8, Sl w w.heap.size 1 l.length (fun i _ => .int .u8 ((l.getD i 0).toNat : Int)) v := by
  rcases open_slice1 ht hc h with ⟨h0, _⟩ | ⟨a, len, cap, m, k, V, D, Pl, h0, hb, hl, hcm, hm, _, hf⟩
  · obtain rfl : v = .slice none 0 0 := by simpa using h0
    exact ⟨.inl rfl, [], none, 0, rfl, Nat.zero_le _, fun i hi => by simp at hi⟩
  · obtain rfl : v = .slice (some a) len cap := by simpa using h0
    have hlm : len ≤ m := by rw [hm]; split <;> omega
    refine ⟨.inr ⟨a, len, cap, rfl, hl, hcm⟩, ?_⟩
    obtain ⟨l, hll, hp⟩ := exists_list (fun i (x : UInt8) => w.cell? (a.add i) = some (.int .u8 (x.toNat : Int))) len (fun i hi => by
      obtain ⟨e0, t0⟩ := hf i (by omega)
      obtain ⟨x, hx, hw⟩ := cell_int he t0
      obtain ⟨h1, h2⟩ := bounds_u8 hw
      refine ⟨UInt8.ofNat x.toNat, ?_⟩
      rw [e0, hx]
      simp
      omega)
    refine ⟨l, some a, cap, by rw [hll], by omega, fun i hi => ?_⟩
    have hs : a.spot = none := spot_none (hp 0 _ (List.getElem?_eq_getElem (by omega)))
    obtain ⟨b, off, sp⟩ := a
    obtain rfl : sp = none := hs
    have q := hp i _ (List.getElem?_eq_getElem hi)
    rw [add_at] at q
    refine ⟨b, off, rfl, World.block_lt_of_cell? _ _ q, fun j hj => ?_⟩
    obtain rfl : j = 0 := by omega
    dsimp only
    rw [Nat.mul_one, Nat.add_zero, List.getD_eq_getElem?_getD, List.getElem?_eq_getElem hi]
    exact q

end Go.Proofs.Ytmbifmmkccghfaa

/-
  Arguments of chapter 6's laws opened: packets, nets. No condition.
-/
namespace Go.Proofs.Ytmbifmmkccghfaa
open Go.ChangeShapes Go.WideShapes Go.ChangeAt Go.RowKit Go.Joins Go.Deep

section
variable {H : Type} {enc : TypeId × Value → H} {w : World} {base : Nat} {spare : Nat → Bool} {held : Bool}
set_option maxRecDepth 100000 in
theorem trod_data {n : Nat} {v : Value} {y : DataW H × List MemPlace} (h : DataW.trod enc Try.prog w base spare held n 43 [v] = some y) : ∃ l, BytesAt w w.heap.size v l :=
  have h9 := trod_bytes Try.underlying43 Try.underlying5 (by kernel_rfl) h
  h9.2.elim fun l hl => ⟨l, h9.1, hl⟩
set_option maxRecDepth 100000 in
theorem trod_packets {n : Nat} {v : Value} {y : DataW H × List MemPlace} (h : DataW.trod enc Try.prog w base spare held n 22 [v] = some y) : ∃ q : List Pk, PksAt w w.heap.size v q := by
  rcases open_slice_fields Try.underlying22 Try.underlying51 (by kernel_rfl) (by kernel_rfl) h with ⟨h0, _⟩ | ⟨a, len, cap, m, D, Pl, h0, hb, hl, hc, hm, _, hf⟩
  · obtain rfl : v = .slice none 0 0 := by simpa using h0
    exact ⟨[], pksAt_nil _ _⟩
  · obtain rfl : v = .slice (some a) len cap := by simpa using h0
    have hlm : len ≤ m := by rw [hm]; split <;> omega
    obtain ⟨ls, hcs, hp⟩ := exists_list (fun i (l : Value × Pk) => w.cell? (a.add (i * 3 + 0)) = some (.int .i64 l.2.src) ∧ w.cell? (a.add (i * 3 + 1)) = some (.int .i64 l.2.dst) ∧ w.cell? (a.add (i * 3 + 2)) = some l.1 ∧ BytesAt w w.heap.size l.1 l.2.data) len (fun i hi => by
      obtain ⟨ys, k, _, _, _, hj⟩ := hf i (by omega)
      obtain ⟨v0, y0, e0, _, t0⟩ := hj 0 _ rfl
      obtain ⟨v1, y1, e1, _, t1⟩ := hj 1 _ rfl
      obtain ⟨v2, y2, e2, _, t2⟩ := hj 2 _ rfl
      obtain ⟨x0, rfl, _⟩ := cell_int Try.underlying3 t0
      obtain ⟨x1, rfl, _⟩ := cell_int Try.underlying3 t1
      obtain ⟨l, hl⟩ := trod_data t2
      exact ⟨(v2, ⟨x0, x1, l⟩), e0, e1, e2, hl⟩)
    refine ⟨ls.map (·.2), .inr ⟨a, len, cap, rfl, hl, hc⟩, fun i => (ls[i]?.map (·.1)).getD undef, ⟨some a, cap, by simp [hcs], by simp; omega, fun i hi => ?_⟩, fun i l hl => ?_⟩
    · have hi : i < ls.length := by simpa using hi
      have hs : a.spot = none := by
        obtain ⟨q0, _⟩ := hp 0 _ (List.getElem?_eq_getElem (by omega))
        exact spot_none q0
      obtain ⟨b, off, sp⟩ := a
      obtain rfl : sp = none := hs
      obtain ⟨q0, q1, q2, _⟩ := hp i _ (List.getElem?_eq_getElem hi)
      rw [add_at] at q0 q1 q2
      refine ⟨b, off, rfl, World.block_lt_of_cell? _ _ q0, fun j hj => ?_⟩
      dsimp only [pkCells]
      rw [List.getD_eq_getElem?_getD, List.getElem?_map, List.getElem?_eq_getElem hi]
      rcases (show j = 0 ∨ j = 1 ∨ j = 2 by omega) with rfl | rfl | rfl
      · exact q0
      · exact q1
      · exact q2
    · rw [List.getElem?_map] at hl
      cases hq : ls[i]? with
      | none => rw [hq] at hl; cases hl
      | some q =>
        rw [hq] at hl
        cases hl
        obtain ⟨_, _, _, q3⟩ := hp i q hq
        dsimp only
        rw [hq]
        exact q3
set_option maxRecDepth 100000 in
theorem trod_links {n : Nat} {v : Value} {y : DataW H × List MemPlace} (h : DataW.trod enc Try.prog w base spare held n 23 [v] = some y) : ∃ l : List (Int × Int), LksAt w w.heap.size v l := by
  rcases open_slice Try.underlying23 h with ⟨h0, _⟩ | ⟨a, len, cap, m, k, D, Pl, h0, hb, hl, hc, hm, _, hf⟩
  · obtain rfl : v = .slice none 0 0 := by simpa using h0
    exact ⟨[], lksAt_nil _ _⟩
  · obtain rfl : v = .slice (some a) len cap := by simpa using h0
    have hlm : len ≤ m := by rw [hm]; split <;> omega
    have k2 : Try.prog.cellsOf 49 = 2 := by kernel_rfl
    rw [k2] at hf
    have k1 : Try.prog.cellsOf 3 = 1 := by kernel_rfl
    obtain ⟨ls, hcs, hp⟩ := exists_list (fun i (l : Int × Int) => w.cell? (a.add (i * 2 + 0)) = some (.int .i64 l.1) ∧ w.cell? (a.add (i * 2 + 1)) = some (.int .i64 l.2)) len (fun i hi => by
      obtain ⟨cs, h1, h2⟩ := hf i (by omega)
      obtain ⟨_, hcl, hat⟩ := World.cells?_some h1
      match cs, hcl with
      | [c0, c1], _ =>
        have q0 := hat 0 (by omega)
        have q1 := hat 1 (by omega)
        obtain ⟨zs, m, _, _, _, hzl, hgz⟩ := DataW.trod_array Try.underlying49 h2
        match zs, hzl with
        | [z0, z1], _ =>
          obtain ⟨x0, rfl, _⟩ := cell_int Try.underlying3 (show DataW.trod enc Try.prog w base spare held m 3 [c0] = some z0 by simpa [k1] using hgz 0 (by omega))
          obtain ⟨x1, rfl, _⟩ := cell_int Try.underlying3 (show DataW.trod enc Try.prog w base spare held m 3 [c1] = some z1 by simpa [k1] using hgz 1 (by omega))
          refine ⟨(x0, x1), ?_, ?_⟩
          · rw [← Go.Deep.add_add, q0]; rfl
          · rw [← Go.Deep.add_add, q1]; rfl)
    refine ⟨ls, .inr ⟨a, len, cap, rfl, hl, hc⟩, some a, cap, by rw [hcs], by omega, fun i hi => ?_⟩
    have hs : a.spot = none := by
      obtain ⟨q0, _⟩ := hp 0 _ (List.getElem?_eq_getElem (by omega))
      exact spot_none q0
    obtain ⟨b, off, sp⟩ := a
    obtain rfl : sp = none := hs
    obtain ⟨q0, q1⟩ := hp i _ (List.getElem?_eq_getElem hi)
    rw [add_at] at q0 q1
    refine ⟨b, off, rfl, World.block_lt_of_cell? _ _ q0, fun j hj => ?_⟩
    dsimp only [lkCells]
    rw [List.getD_eq_getElem?_getD, List.getElem?_eq_getElem hi]
    rcases (show j = 0 ∨ j = 1 by omega) with rfl | rfl
    · exact q0
    · exact q1
end
end Go.Proofs.Ytmbifmmkccghfaa

/-
  Arguments of chapter 34's laws opened: boxes. No condition.
-/
namespace Go.Proofs.Ytmbifmmkccghfaa
open Go.ChangeShapes Go.WideShapes Go.ChangeAt Go.RowKit Go.Joins Go.Deep

section
variable {H : Type} {enc : TypeId × Value → H} {w : World} {base : Nat} {spare : Nat → Bool} {held : Bool}
set_option maxRecDepth 100000 in
theorem trod_heard {n : Nat} {v : Value} {y : DataW H × List MemPlace} (h : DataW.trod enc Try.prog w base spare held n 27 [v] = some y) : ∃ l : List Int, HdAt w w.heap.size v l := by
  rcases open_slice1 Try.underlying27 (by kernel_rfl) h with ⟨h0, _⟩ | ⟨a, len, cap, m, k, V, D, Pl, h0, hb, hl, hc, hm, _, hf⟩
  · obtain rfl : v = .slice none 0 0 := by simpa using h0
    exact ⟨[], .inl rfl, none, 0, rfl, Nat.zero_le _, fun i hi => by simp at hi⟩
  · obtain rfl : v = .slice (some a) len cap := by simpa using h0
    have hlm : len ≤ m := by rw [hm]; split <;> omega
    obtain ⟨l, hll, hp⟩ := exists_list (fun i (x : Int) => w.cell? (a.add i) = some (.int .i64 x)) len (fun i hi => by
      obtain ⟨e0, t0⟩ := hf i (by omega)
      obtain ⟨x, hx, _⟩ := cell_int Try.underlying3 t0
      exact ⟨x, by rw [e0, hx]⟩)
    refine ⟨l, .inr ⟨a, len, cap, rfl, hl, hc⟩, some a, cap, by rw [hll], by omega, fun i hi => ?_⟩
    have hs : a.spot = none := spot_none (hp 0 _ (List.getElem?_eq_getElem (by omega)))
    obtain ⟨b, off, sp⟩ := a
    obtain rfl : sp = none := hs
    have q := hp i _ (List.getElem?_eq_getElem hi)
    rw [add_at] at q
    refine ⟨b, off, rfl, World.block_lt_of_cell? _ _ q, fun j hj => ?_⟩
    obtain rfl : j = 0 := by omega
    dsimp only
    rw [Nat.mul_one, Nat.add_zero, List.getD_eq_getElem?_getD, List.getElem?_eq_getElem hi]
    exact q
set_option maxRecDepth 100000 in
theorem trod_fresh {n : Nat} {v : Value} {y : DataW H × List MemPlace} (h : DataW.trod enc Try.prog w base spare held n 28 [v] = some y) : ∃ l : List Bool, FrAt w w.heap.size v l := by
  rcases open_slice1 Try.underlying28 (by kernel_rfl) h with ⟨h0, _⟩ | ⟨a, len, cap, m, k, V, D, Pl, h0, hb, hl, hc, hm, _, hf⟩
  · obtain rfl : v = .slice none 0 0 := by simpa using h0
    exact ⟨[], .inl rfl, none, 0, rfl, Nat.zero_le _, fun i hi => by simp at hi⟩
  · obtain rfl : v = .slice (some a) len cap := by simpa using h0
    have hlm : len ≤ m := by rw [hm]; split <;> omega
    obtain ⟨l, hll, hp⟩ := exists_list (fun i (x : Bool) => w.cell? (a.add i) = some (.bool x)) len (fun i hi => by
      obtain ⟨e0, t0⟩ := hf i (by omega)
      obtain ⟨x, hx, _⟩ := DataW.trod_bool Try.underlying4 t0
      have hx : V i = .bool x := by simpa using hx
      exact ⟨x, by rw [e0, hx]⟩)
    refine ⟨l, .inr ⟨a, len, cap, rfl, hl, hc⟩, some a, cap, by rw [hll], by omega, fun i hi => ?_⟩
    have hs : a.spot = none := spot_none (hp 0 _ (List.getElem?_eq_getElem (by omega)))
    obtain ⟨b, off, sp⟩ := a
    obtain rfl : sp = none := hs
    have q := hp i _ (List.getElem?_eq_getElem hi)
    rw [add_at] at q
    refine ⟨b, off, rfl, World.block_lt_of_cell? _ _ q, fun j hj => ?_⟩
    obtain rfl : j = 0 := by omega
    dsimp only
    rw [Nat.mul_one, Nat.add_zero, List.getD_eq_getElem?_getD, List.getElem?_eq_getElem hi]
    exact q
set_option maxRecDepth 100000 in
theorem trod_msgs {n : Nat} {v : Value} {y : DataW H × List MemPlace} (h : DataW.trod enc Try.prog w base spare held n 26 [v] = some y) : ∃ q : List (Int × Int), LksAt w w.heap.size v q := by
  rcases open_slice_fields Try.underlying26 Try.underlying48 (by kernel_rfl) (by kernel_rfl) h with ⟨h0, _⟩ | ⟨a, len, cap, m, D, Pl, h0, hb, hl, hc, hm, _, hf⟩
  · obtain rfl : v = .slice none 0 0 := by simpa using h0
    exact ⟨[], lksAt_nil _ _⟩
  · obtain rfl : v = .slice (some a) len cap := by simpa using h0
    have hlm : len ≤ m := by rw [hm]; split <;> omega
    obtain ⟨ls, hcs, hp⟩ := exists_list (fun i (l : Int × Int) => w.cell? (a.add (i * 2 + 0)) = some (.int .i64 l.1) ∧ w.cell? (a.add (i * 2 + 1)) = some (.int .i64 l.2)) len (fun i hi => by
      obtain ⟨ys, k, _, _, _, hj⟩ := hf i (by omega)
      obtain ⟨v0, y0, e0, _, t0⟩ := hj 0 _ rfl
      obtain ⟨v1, y1, e1, _, t1⟩ := hj 1 _ rfl
      obtain ⟨x0, rfl, _⟩ := cell_int Try.underlying3 t0
      obtain ⟨x1, rfl, _⟩ := cell_int Try.underlying3 t1
      exact ⟨(x0, x1), e0, e1⟩)
    refine ⟨ls, .inr ⟨a, len, cap, rfl, hl, hc⟩, some a, cap, by rw [hcs], by omega, fun i hi => ?_⟩
    have hs : a.spot = none := by
      obtain ⟨q0, _⟩ := hp 0 _ (List.getElem?_eq_getElem (by omega))
      exact spot_none q0
    obtain ⟨b, off, sp⟩ := a
    obtain rfl : sp = none := hs
    obtain ⟨q0, q1⟩ := hp i _ (List.getElem?_eq_getElem hi)
    rw [add_at] at q0 q1
    refine ⟨b, off, rfl, World.block_lt_of_cell? _ _ q0, fun j hj => ?_⟩
    dsimp only [lkCells]
    rw [List.getD_eq_getElem?_getD, List.getElem?_eq_getElem hi]
    rcases (show j = 0 ∨ j = 1 by omega) with rfl | rfl
    · exact q0
    · exact q1
set_option maxRecDepth 100000 in
theorem open_box {r : Reach} {b0 : Nat} {v : Value} {d : DataW H} {p : List MemPlace} (hv : Value.okWide Try.prog w r b0 30 v) (h : DataW.Trod enc Try.prog w base spare held 30 v d p) : ∃ (b : Bx) (Vq Va Vs Vh Vf : Value), v = .agg #[Vq, Va, Vs, Vh, Vf] ∧ BxAt w w.heap.size Vq Va Vs Vh Vf b := by
  obtain ⟨cs, rfl, hsz⟩ := okWide_struct Try.underlying30 hv
  obtain ⟨l⟩ := cs
  have hC : Try.prog.cellsOf 30 = 5 := by kernel_rfl
  match l, hsz.trans hC with
  | [c0, c1, c2, c3, c4], _ =>
    obtain ⟨fuel, hf⟩ := h
    obtain ⟨xs, n, _, hx, _, hlen, hg⟩ := DataW.trod_struct Try.underlying30 hf
    have k0 : Try.prog.cellsOf 25 = 2 := by kernel_rfl
    have k1 : Try.prog.cellsOf 22 = 1 := by kernel_rfl
    have k2 : Try.prog.cellsOf 23 = 1 := by kernel_rfl
    have k3 : Try.prog.cellsOf 26 = 1 := by kernel_rfl
    have k4 : Try.prog.cellsOf 27 = 1 := by kernel_rfl
    have k5 : Try.prog.cellsOf 28 = 1 := by kernel_rfl
    match xs, hlen with
    | [y0, y1, y2, y3], _ =>
      obtain ⟨ys, n', _, hy, _, hlen', hg'⟩ := DataW.trod_struct Try.underlying25 (show DataW.trod enc Try.prog w base spare held n 25 [c0, c1] = some y0 by simpa [Value.cells, k0, k3, k4, k5] using hg 0 _ rfl)
      obtain ⟨s, hs⟩ := trod_msgs (show DataW.trod enc Try.prog w base spare held n 26 [c2] = some y1 by simpa [Value.cells, k0, k3, k4, k5] using hg 1 _ rfl)
      obtain ⟨hd, hh⟩ := trod_heard (show DataW.trod enc Try.prog w base spare held n 27 [c3] = some y2 by simpa [Value.cells, k0, k3, k4, k5] using hg 2 _ rfl)
      obtain ⟨fr, hfr⟩ := trod_fresh (show DataW.trod enc Try.prog w base spare held n 28 [c4] = some y3 by simpa [Value.cells, k0, k3, k4, k5] using hg 3 _ rfl)
      match ys, hlen' with
      | [z0, z1], _ =>
        obtain ⟨q, hq⟩ := trod_packets (show DataW.trod enc Try.prog w base spare held n' 22 [c0] = some z0 by simpa [Value.cells, k1, k2] using hg' 0 _ rfl)
        obtain ⟨l, hl⟩ := trod_links (show DataW.trod enc Try.prog w base spare held n' 23 [c1] = some z1 by simpa [Value.cells, k1, k2] using hg' 1 _ rfl)
        exact ⟨⟨⟨q, l⟩, s, hd, fr⟩, c0, c1, c2, c3, c4, rfl, ⟨⟨hq, hl⟩, hs, hh, hfr⟩⟩
end
end Go.Proofs.Ytmbifmmkccghfaa
