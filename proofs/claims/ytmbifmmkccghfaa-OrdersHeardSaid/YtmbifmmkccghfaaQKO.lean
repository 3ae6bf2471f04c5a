/- Drawn regions in which stores follow one another at the end: the readers are taken first. No condition. -/
import Derived.Test.YtmbifmmkccghfaaQGP
import Derived.Test.YtmbifmmkccghfaaQRI
import Derived.Test.YtmbifmmkccghfaaQKG
import Derived.Test.YtmbifmmkccghfaaQRL
import Derived.Test.YtmbifmmkccghfaaQNR
import Derived.Test.YtmbifmmkccghfaaQVD
import Derived.Test.YtmbifmmkccghfaaQRK
import Derived.Test.YtmbifmmkccghfaaQVC
import Derived.Maps.Own
import Derived.Maps.Views
set_option linter.unusedVariables false
set_option linter.unusedSimpArgs false
namespace Go.Proofs.Ytmbifmmkccghfaa
open Go.RowKit
section
variable {P : Program} {ops : Array Oper} {md : Region.Mode} {N : Act → World → Prop} {C : World → Prop}
def anyG (P : Program) (md : Region.Mode) (ops : Array Oper) (N : Act → World → Prop) (C : World → Prop) (z : Nat) : Nat → Array Bool → Act → World → Prop
  | 0, listed, a, w => listed.getD z false = true ∧ Region.ready md ops listed = [] ∧ N a w
  | n + 1, listed, a, w => (listed.getD z true = false → C w) ∧ (Region.ready md ops listed = [] → N a w) ∧ ∀ i ∈ Region.ready md ops listed, wpOp P ops (Nrm N) i (anyG P md ops N C z n (listed.setIfInBounds i true)) a w
theorem anyG_any {z : Nat} {Q : Exit → Act → World → Prop} (hN : ∀ a w, N a w → Q .normal a w) : ∀ {n : Nat} {listed : Array Bool} {a : Act} {w : World}, anyG P md ops N C z n listed a w → wpAny P md ops Q n listed a w
  | 0, _, _, _, h => ⟨h.2.1, hN _ _ h.2.2⟩
  | n + 1, listed, a, w, h => ⟨fun h0 => hN _ _ (h.2.1 h0), fun i hi => by
      obtain ⟨_, o, ho, _⟩ := mem_ready.1 hi
      exact wpOp_go ho rfl rfl rfl (h.2.2 i hi) fun _ _ _ hk => anyG_any hN hk⟩
theorem anyG_first {z i : Nat} {oi : Oper} {v : Value} (hA : awaited md ops z = true) (hi : ops[i]? = some oi) (hiz : i < z) (hsel : ∀ (j : Nat) (o : Oper) cs b, ops[j]? = some o → o.op ≠ .select cs b) :
    ∀ (n : Nat) (listed : Array Bool) (a : Act) (w : World), Closed md ops listed → listed.getD z true = false →
      (∀ j oj, ops[j]? = some oj → j ≠ i → listed.getD j true = false → (∀ e ∈ oj.after, Region.binds md e = true → e.on ≠ i) → oi.apart ops oj = true) →
      i ∈ Region.ready md ops listed → YieldsC P ops C oi v a → C w →
      anyG P md ops N C z n (listed.setIfInBounds i true) (a.put oi.dst v) w → anyG P md ops N C z (n + 1) listed a w
  | n, listed, a, w, hc, hz, hfree, hr, hy, hC, H => by
    refine ⟨fun _ => hC, fun h => (by rw [h] at hr; cases hr), fun j hj => ?_⟩
    by_cases hji : j = i
    · subst hji; exact hy.wpOp hi hC H
    · have hjz : j ≠ z := by
        rintro rfl
        have h1 := all_listed hA hc hj i hiz
        rw [getD_tf (mem_ready.1 hr).1] at h1
        cases h1
      have hjr := ready_mono (i := i) hj hji
      match n, H with
      | 0, H =>
        rw [H.2.1] at hjr
        cases hjr
      | n + 1, H =>
        obtain ⟨hjun, oj, hoj, hall⟩ := mem_ready.1 hj
        have hiun := (mem_ready.1 hr).1
        have hnot : ∀ e ∈ oj.after, Region.binds md e = true → e.on ≠ i := fun e he hb heq => by
          have h1 := hall e he hb
          rw [heq] at h1
          rw [getD_tf hiun] at h1
          cases h1
        obtain ⟨h1, h2, h3⟩ := Oper.apart_spec (hfree j oj hoj hji hjun hnot)
        refine wpOp_go hoj (execOp_put oj (fun cs b => hsel j oj cs b hoj) a oi.dst v h1) (wanted_put oj a oi.dst v h1) (by cases oi.dst <;> rfl) (H.2.2 j hjr) fun u D w' hk => ?_
        have hzj : (listed.setIfInBounds j true).getD z true = false := by rw [getD_set_ne true hjz]; exact hz
        have hCw : C w' := by
          cases n with
          | zero =>
            have h4 := hk.1
            rw [getD_set_ne false hjz, getD_set_ne false (by omega), getD_tf hz] at h4
            cases h4
          | succ n => exact hk.1 (by rw [getD_set_ne true hjz, getD_set_ne true (by omega)]; exact hz)
        refine anyG_first (v := v) hA hi hiz hsel n _ _ _ (closed_set hc hj) hzj (fun k ok hk hki hun hno => hfree k ok hk hki ?_ hno) (ready_mono hr (Ne.symm hji)) ?_ hCw ?_
        · by_cases hjk : j = k
          · subst hjk; exact hjun
          · rw [getD_set_ne true hjk] at hun; exact hun
        · have e1 : execOp (Act.put { a with defers := D } oj.dst u).eval oi = execOp a.eval oi := execOp_put oi (fun cs b => hsel i oi cs b hi) { a with defers := D } oj.dst u h3
          have e2 := wanted_put oi { a with defers := D } oj.dst u h3
          rcases hy with ⟨y1, y2⟩ | ⟨y1, y2⟩
          · exact .inl ⟨e2.trans y1, fun w hw => by rw [e1]; exact y2 w hw⟩
          · exact .inr ⟨e2.trans y1, y2⟩
        · rw [Array.setIfInBounds_comm _ _ hji]
          have e3 : ({ a.put oi.dst v with defers := D } : Act) = Act.put { a with defers := D } oi.dst v := by cases oi.dst <;> rfl
          rw [e3, Act.put_comm _ v u h2] at hk
          exact hk
theorem anyG_heads {z : Nat} (hA : awaited md ops z = true) (hs : Region.noSelect ops = true) (n : Nat) (w : World) (hC : C w) : ∀ (ks : List Nat) (listed : Array Bool) (a : Act), Closed md ops listed → listed.getD z true = false → ks.all (fun k => decide (k < z)) = true →
    headsN md ops ks listed = true → wpQuiet P ops C (fun a' => anyG P md ops N C z n (headsL ks listed) a' w) (headOps ops ks) a → anyG P md ops N C z (n + ks.length) listed a w
  | [], _, _, _, _, _, _, h => h
  | k :: ks, listed, a, hc, hz, hlt, hB, h => by
    cases h0 : ops[k]? with
    | none => simp [headsN, h0] at hB
    | some o =>
    simp only [headsN, Bool.and_eq_true, h0] at hB
    obtain ⟨hr, hf, hv, hB⟩ := hB
    rw [List.all_cons, Bool.and_eq_true, decide_eq_true_eq] at hlt
    have hr' : k ∈ Region.ready md ops listed := by simpa using hr
    have hc' := closed_set hc hr'
    have hz' : (listed.setIfInBounds k true).getD z true = false := by rw [getD_set_ne true (by omega)]; exact hz
    rw [headOps, List.filterMap_cons, h0] at h
    unfold wpQuiet at h
    by_cases hw : Region.wanted o (yielded ops a.tmps) = true
    · rw [if_pos hw] at h
      obtain ⟨v, h1, h2⟩ := h
      exact anyG_first hA h0 hlt.1 (Region.noSelect_spec hs) (n + ks.length) listed a w hc hz (Region.free_spec h0 hf) hr' (yieldsN_of hv hw h1) hC (anyG_heads hA hs n w hC ks _ _ hc' hz' hlt.2 hB h2)
    · rw [if_neg hw] at h
      exact anyG_first hA h0 hlt.1 (Region.noSelect_spec hs) (n + ks.length) listed a w hc hz (Region.free_spec h0 hf) hr' (.inr ⟨by simpa using hw, rfl⟩) hC (anyG_heads hA hs n w hC ks _ _ hc' hz' hlt.2 hB h)
theorem anyG_val {z n i : Nat} {o : Oper} {v : Value} {listed : Array Bool} {a : Act} {w w' : World} (d : Option Tmp) (hr : Region.ready md ops listed = [i]) (hi : ops[i]? = some o) (hd : o.dst = d) (hw : Region.wanted o (yielded ops a.tmps) = true) (hC : listed.getD z true = false → C w)
    (hrun : (execOp a.eval o).run P w = .ok (.value v) w') (h : anyG P md ops N C z n (listed.setIfInBounds i true) (a.put d v) w') : anyG P md ops N C z (n + 1) listed a w := by
  subst hd
  refine ⟨hC, fun h0 => (by rw [h0] at hr; cases hr), fun j hj => ?_⟩
  rw [hr] at hj
  obtain rfl : j = i := by simpa using hj
  unfold wpOp
  simp only [hi, hw, if_true]
  refine .inl ?_
  unfold Oper.wp
  rw [hrun]
  exact h
theorem anyG_done {z : Nat} {listed : Array Bool} {a : Act} {w : World} (hr : Region.ready md ops listed = []) (hz : listed.getD z false = true) (h : N a w) : anyG P md ops N C z 0 listed a w := ⟨hz, hr, h⟩
end
theorem wp_region_upto {P : Program} {N : Act → World → Prop} {C : World → Prop} {Q : Exit → Act → World → Prop} {id : Nat} {a : Act} {w : World} {l : List Oper} (z : Nat) (ks : List Nat) (hm : P.follows .mixedOrders = true)
    (hB : ((Region.noSelect l.toArray && (decide (ks.length ≤ l.length) && headsN .any l.toArray ks (Array.replicate l.length false))) && ((awaited .any l.toArray z && decide (z < l.length)) && ks.all (fun k => decide (k < z)))) = true) (hC : C w.drew) (hN : ∀ a w, N a w → Q .normal a w)
    (h : wpQuiet P l.toArray C (fun a' => anyG P .any l.toArray N C z (l.length - ks.length) (headsL ks (Array.replicate l.length false)) a' w.drew) (headOps l.toArray ks) a) : (Code.region id l.toArray true).wp P Q a w := by
  simp only [Bool.and_eq_true] at hB
  obtain ⟨⟨hs, hn, hB⟩, ⟨hA, hp⟩, hlt⟩ := hB
  have hn := of_decide_eq_true hn
  have hp := of_decide_eq_true hp
  refine wp_region_any hm (anyG_any (C := C) (z := z) hN ?_)
  have hz0 : (Array.replicate l.length false).getD z true = false := by
    rw [Array.getD_eq_getD_getElem?, Array.getElem?_replicate, if_pos hp]
    rfl
  have := anyG_heads (P := P) (md := .any) (N := N) hA hs (l.length - ks.length) w.drew hC ks (Array.replicate l.length false) a closed_none hz0 hlt hB h
  rw [show l.length - ks.length + ks.length = l.length by omega] at this
  rw [List.size_toArray]
  exact this
end Go.Proofs.Ytmbifmmkccghfaa

/-
  Contract of Tick of the reference. (Printed by gen_rj.py and pp.py.) No condition.
-/
namespace Go.Proofs.Ytmbifmmkccghfaa
open Go.RowKit Go.Shelf
attribute [local go_sem] Oper.semAt_some
attribute [local go_sem ↓ high] app_named

end Go.Proofs.Ytmbifmmkccghfaa

/-
  Send of the reference. (Printed by gen_rm.py and pp.py.) No condition.
-/
namespace Go.Proofs.Ytmbifmmkccghfaa
open Go.RowKit Go.Shelf
attribute [local go_sem] Oper.semAt_some
attribute [local go_sem ↓ high] app_named cop_named

end Go.Proofs.Ytmbifmmkccghfaa

/-
  Chapter 34's contracts, as the laws' walks take them. (Printed by gen_sc.py.) No condition.
-/
namespace Go.Proofs.Ytmbifmmkccghfaa
open Go.RowKit

theorem BxAt.lens {w : World} {B : Nat} {Aq : Option Addr} {nq cq : Nat} {Aa : Option Addr} {na ca : Nat} {As : Option Addr} {ns cs : Nat} {Ah : Option Addr} {nh ch : Nat} {Af : Option Addr} {nf cf : Nat} {b : Bx} (h : BxAt w B (.slice Aq nq cq) (.slice Aa na ca) (.slice As ns cs) (.slice Ah nh ch) (.slice Af nf cf) b) : b.net.queue.length = nq ∧ b.net.apart.length = na ∧ b.sent.length = ns ∧ b.heard.length = nh ∧ b.fresh.length = nf ∧ nq ≤ 9223372036854775807 ∧ na ≤ 9223372036854775807 ∧ ns ≤ 9223372036854775807 ∧ nh ≤ 9223372036854775807 ∧ nf ≤ 9223372036854775807 := by
  obtain ⟨_, _, h1, m1⟩ := h.net.queue.form
  obtain ⟨_, _, h2, m2⟩ := h.net.apart.form
  obtain ⟨_, _, h3, m3⟩ := h.sent.form
  obtain ⟨_, _, h4, m4⟩ := h.heard.2.form3
  obtain ⟨_, _, h5, m5⟩ := h.fresh.2.form3
  cases h1; cases h2; cases h3; cases h4; cases h5
  unfold maxLen at m1 m2 m3 m4 m5
  exact ⟨rfl, rfl, rfl, rfl, rfl, by omega, by omega, by omega, by omega, by omega⟩
theorem RetBx.sl {t : Bx} {rest : Array Value} {w w' : World} {e : Ending} (h : RetBx t rest w e w') : ∃ Aq nq cq Aa na ca As ns cs Ah nh ch Af nf cf, e = .returned (.tuple (#[.agg #[.slice Aq nq cq, .slice Aa na ca, .slice As ns cs, .slice Ah nh ch, .slice Af nf cf]] ++ rest)) ∧ Hid (BxAt w' w'.heap.size (.slice Aq nq cq) (.slice Aa na ca) (.slice As ns cs) (.slice Ah nh ch) (.slice Af nf cf) t) ∧ Below w.heap.size w w' := by
  obtain ⟨Vq, Va, Vs, Vh, Vf, he, hX, hb⟩ := h
  obtain ⟨Aq, nq, cq, Aa, na, ca, As, ns, cs, Ah, nh, ch, Af, nf, cf, rfl, rfl, rfl, rfl, rfl⟩ := hX.forms5
  exact ⟨Aq, nq, cq, Aa, na, ca, As, ns, cs, Ah, nh, ch, Af, nf, cf, he, Lib.hid hX, hb⟩
theorem RetDlv.sl {t : Bx × Bool × Int} {w w' : World} {e : Ending} (h : RetDlv t w e w') : ∃ Aq nq cq Aa na ca As ns cs Ah nh ch Af nf cf, e = .returned (.tuple #[.agg #[.slice Aq nq cq, .slice Aa na ca, .slice As ns cs, .slice Ah nh ch, .slice Af nf cf], .bool t.2.1, .int .i64 t.2.2]) ∧ Hid (BxAt w' w'.heap.size (.slice Aq nq cq) (.slice Aa na ca) (.slice As ns cs) (.slice Ah nh ch) (.slice Af nf cf) t.1) ∧ Below w.heap.size w w' := by
  obtain ⟨Vq, Va, Vs, Vh, Vf, he, hX, hb⟩ := h
  obtain ⟨Aq, nq, cq, Aa, na, ca, As, ns, cs, Ah, nh, ch, Af, nf, cf, rfl, rfl, rfl, rfl, rfl⟩ := hX.forms5
  exact ⟨Aq, nq, cq, Aa, na, ca, As, ns, cs, Ah, nh, ch, Af, nf, cf, he, Lib.hid hX, hb⟩
theorem RetTick.sl {t : Bx × List Int × Int} {w w' : World} {e : Ending} (h : RetTick t w e w') : ∃ Aq nq cq Aa na ca As ns cs Ah nh ch Af nf cf Al nl cl, e = .returned (.tuple #[.agg #[.slice Aq nq cq, .slice Aa na ca, .slice As ns cs, .slice Ah nh ch, .slice Af nf cf], .slice Al nl cl, .int .i64 t.2.2]) ∧ Hid (BxAt w' w'.heap.size (.slice Aq nq cq) (.slice Aa na ca) (.slice As ns cs) (.slice Ah nh ch) (.slice Af nf cf) t.1) ∧ Hid (HdAt w' w'.heap.size (.slice Al nl cl) t.2.1) ∧ Below w.heap.size w w' := by
  obtain ⟨Vq, Va, Vs, Vh, Vf, Vl, he, hX, hL, hb⟩ := h
  obtain ⟨Aq, nq, cq, Aa, na, ca, As, ns, cs, Ah, nh, ch, Af, nf, cf, rfl, rfl, rfl, rfl, rfl⟩ := hX.forms5
  obtain ⟨Al, cl, rfl, _⟩ := hL.2.form3
  exact ⟨Aq, nq, cq, Aa, na, ca, As, ns, cs, Ah, nh, ch, Af, nf, cf, Al, _, cl, he, Lib.hid hX, Lib.hid hL, hb⟩
theorem HdAt.len {w : World} {B : Nat} {A : Option Addr} {n c : Nat} {l : List Int} (h : HdAt w B (.slice A n c) l) : l.length = n ∧ n ≤ 9223372036854775807 := by
  obtain ⟨_, _, h1, m1⟩ := h.2.form3
  cases h1
  unfold maxLen at m1
  exact ⟨rfl, by omega⟩
theorem hid_bx {w w' : World} {Vq Va Vs Vh Vf : Value} {b : Bx} (h : Hid (BxAt w w.heap.size Vq Va Vs Vh Vf b)) (hb : Below w.heap.size w w') : Hid (BxAt w' w'.heap.size Vq Va Vs Vh Vf b) := h.out.later hb
theorem hid_hd {w w' : World} {V : Value} {l : List Int} (h : Hid (HdAt w w.heap.size V l)) (hb : Below w.heap.size w w') : Hid (HdAt w' w'.heap.size V l) := h.out.later hb
theorem bx_set {w : World} {Vq Va Vs Vh Vf : Value} {b : Bx} (h : Hid (BxAt w w.heap.size Vq Va Vs Vh Vf b)) {x : Nat} {Bq : Option Addr} {mq dq : Nat} {Ba : Option Addr} {ma da : Nat} {Bs : Option Addr} {ms ds : Nat} {Bh : Option Addr} {mh dh : Nat} {Bf : Option Addr} {mf df : Nat} (hx : Box w x [.slice Bq mq dq, .slice Ba ma da, .slice Bs ms ds, .slice Bh mh dh, .slice Bf mf df]) {Aq : Option Addr} {nq cq : Nat} {Aa : Option Addr} {na ca : Nat} {As : Option Addr} {ns cs : Nat} {Ah : Option Addr} {nh ch : Nat} {Af : Option Addr} {nf cf : Nat} :
    Hid (BxAt (((((w.setCell ⟨x, 0, none⟩ (.slice Aq nq cq)).setCell ⟨x, 1, none⟩ (.slice Aa na ca)).setCell ⟨x, 2, none⟩ (.slice As ns cs)).setCell ⟨x, 3, none⟩ (.slice Ah nh ch)).setCell ⟨x, 4, none⟩ (.slice Af nf cf)) (((((w.setCell ⟨x, 0, none⟩ (.slice Aq nq cq)).setCell ⟨x, 1, none⟩ (.slice Aa na ca)).setCell ⟨x, 2, none⟩ (.slice As ns cs)).setCell ⟨x, 3, none⟩ (.slice Ah nh ch)).setCell ⟨x, 4, none⟩ (.slice Af nf cf)).heap.size Vq Va Vs Vh Vf b) := by
  have h2 := h.out.set5 (SlBox.of hx (by simp)) Aq Aa As Ah Af nq cq na ca ns cs nh ch nf cf
  simp only [World.size_setCell]
  exact Lib.hid h2
theorem rSameInts_is {A1 A2 : Option Addr} {n1 c1 n2 c2 : Nat} {l m : List Int} {w : World} (h1 : Hid (HdAt w w.heap.size (.slice A1 n1 c1) l)) (h2 : Hid (HdAt w w.heap.size (.slice A2 n2 c2) m)) {T : Bool} (hT : Hid (decide (l = m) = T)) :
    Calls Try.prog 19 #[.slice A1 n1 c1, .slice A2 n2 c2] w fun e w' => e = .returned (.bool T) ∧ Below w.heap.size w w' :=
  rSameInts_any A1 A2 n1 c1 n2 c2 l m w h1 h2 (Lib.hid h1.out.len.1) (Lib.hid h2.out.len.1) h1.out.len.2 h2.out.len.2 hT
end Go.Proofs.Ytmbifmmkccghfaa

/-
  The examples of chapter 34 hold. (Printed by gen_sd.py.) No condition.
-/
namespace Go.Proofs.Ytmbifmmkccghfaa
open Go.RowKit

theorem RetBx.sl1 {t : Bx} {r : Value} {w w' : World} {e : Ending} (h : RetBx t #[r] w e w') : ∃ Aq nq cq Aa na ca As ns cs Ah nh ch Af nf cf, e = .returned (.tuple #[.agg #[.slice Aq nq cq, .slice Aa na ca, .slice As ns cs, .slice Ah nh ch, .slice Af nf cf], r]) ∧ Hid (BxAt w' w'.heap.size (.slice Aq nq cq) (.slice Aa na ca) (.slice As ns cs) (.slice Ah nh ch) (.slice Af nf cf) t) ∧ Below w.heap.size w w' := h.sl
end Go.Proofs.Ytmbifmmkccghfaa

/-
  Cut of network, and orders' contracts as the laws take them: where the slices of the result lie. (Printed by mkx.py.) No condition.
-/
namespace Go.Proofs.Ytmbifmmkccghfaa
open Go.RowKit

theorem owns_new {W : World} {base e size n B : Nat} {v V0 : Value} {xs : List Value} (h : W.ownsRow base e size v n xs) (hB : B ≤ base) : NwB B V0 v := by
  rcases h.2 with ⟨h9, _⟩ | ⟨g, cap, cur, h9, hg, _⟩
  · exact .inr (.inl h9)
  · exact .inr (.inr ⟨g, 0, _, _, h9, Nat.le_trans hB hg⟩)
def RetNetC (t : Net × Int) (D : Nat) (V0 : Value) (w : World) (e : Ending) (w' : World) : Prop := ∃ (Vq Va : Value) (m : Net) (er : Int), e = .returned (.tuple #[.agg #[Vq, Va], .int .i64 er]) ∧ Hid (t = (m, er)) ∧ Hid (Net2 w' D w.heap.size Vq Va m) ∧ Below w.heap.size w w' ∧ NwB w.heap.size V0 Va
section
attribute [local go_sem] Oper.semAt_some
attribute [local go_sem ↓ high] app_named
set_option maxRecDepth 100000 in
set_option maxHeartbeats 2000000 in
theorem nCutV_1 (n : Net) (Vq Va : Value) (a b : Int) (on : Bool) (w : World) (D : Nat) (hDw : D ≤ w.heap.size) (hN : Hid (NetAt w D Vq Va n)) (h : Hid (n.checkT = 60)) (hs : Hid (cutT n a b on = (Net.zero, 60))) :
    Calls Try.prog 53 #[.agg #[Vq, Va], .int .i64 a, .int .i64 b, .bool on] w (RetNetC (cutT n a b on) D Va w) := by
  refine calls_of_wp_marksN Try.func53 rfl ?_
  simp only [Try.ntmps53, List.size_toArray, List.length_cons, List.length_nil, Nat.reduceAdd, Nat.reduceSub, Array.replicate_succ, Array.replicate_zero, List.push_toArray, List.append_toArray, List.nil_append, List.cons_append]
  have HB0 := ((Below.refl w.heap.size w).alloc (Nat.le_refl _) (.cells #[Vq, Va] 25)).alloc (by simp) (.cells #[.slice none 0 0, .slice none 0 0] 25)
  have HNB := Lib.hid (((hN.out.more hDw).below HB0).more HB0.size)
  go_wp2_with fail
  refine (nCheck_at h HNB.out).mono ?_
  rintro e w1 ⟨rfl, hb⟩
  have R := (Box.newAt (w := w.alloc (.cells #[Vq, Va] 25)) (n := w.heap.size + 1) [.slice none 0 0, .slice none 0 0] 25 (by simp)).later hb
  have hB := HB0.trans (hb.mono HB0.size)
  clear hb HB0 HNB
  have r0 : w1.cell? ⟨w.heap.size + 1, 0, none⟩ = some (.slice none 0 0) := R.cell 0
  have r1 : w1.cell? ⟨w.heap.size + 1, 1, none⟩ = some (.slice none 0 0) := R.cell 1
  have f0 := R.free 0
  have f1 := R.free 1
  have rz := R.lt
  go_wp2
  have Y := (R.set 0 (.slice none 0 0)).set 1 (.slice none 0 0)
  have hB := (hB.setCell (p := ⟨w.heap.size + 1, 0, none⟩) (by simp) (.slice none 0 0)).setCell (p := ⟨w.heap.size + 1, 1, none⟩) (by simp) (.slice none 0 0)
  generalize (w1.setCell ⟨w.heap.size + 1, 0, none⟩ (.slice none 0 0)).setCell ⟨w.heap.size + 1, 1, none⟩ (.slice none 0 0) = W at Y hB ⊢
  have y0 : W.cell? ⟨w.heap.size + 1, 0, none⟩ = some (.slice none 0 0) := Y.cell 0
  have y1 : W.cell? ⟨w.heap.size + 1, 1, none⟩ = some (.slice none 0 0) := Y.cell 1
  refine ⟨_, (by simp [results, Try.results53, go_sem, y0, y1] : _ = Result.ok (.tuple #[.agg #[.slice none 0 0, .slice none 0 0], .int .i64 60]) _), ?_⟩
  exact ⟨_, _, Net.zero, 60, rfl, hs, net2_zero _ _ _, hB, .inr (.inl rfl)⟩
set_option maxRecDepth 100000 in
set_option maxHeartbeats 2000000 in
theorem nCutV_2 (n : Net) (Aq : Option Addr) (nq cq : Nat) (Aa : Option Addr) (na ca : Nat) (a b : Int) (on : Bool) (w : World) (D : Nat) (hDw : D ≤ w.heap.size) (hN : Hid (NetAt w D (.slice Aq nq cq) (.slice Aa na ca) n)) (h : Hid (n.checkT = 0)) (hv : Hid (linkB (min a b) (max a b) = false)) (hs : Hid (cutT n a b on = (Net.zero, 1))) :
    Calls Try.prog 53 #[.agg #[.slice Aq nq cq, .slice Aa na ca], .int .i64 a, .int .i64 b, .bool on] w (RetNetC (cutT n a b on) D (.slice Aa na ca) w) := by
  refine calls_of_wp_marksN Try.func53 rfl ?_
  simp only [Try.ntmps53, List.size_toArray, List.length_cons, List.length_nil, Nat.reduceAdd, Nat.reduceSub, Array.replicate_succ, Array.replicate_zero, List.push_toArray, List.append_toArray, List.nil_append, List.cons_append]
  have HB0 := ((Below.refl w.heap.size w).alloc (Nat.le_refl _) (.cells #[.slice Aq nq cq, .slice Aa na ca] 25)).alloc (by simp) (.cells #[.slice none 0 0, .slice none 0 0] 25)
  have HNB := Lib.hid (((hN.out.more hDw).below HB0).more HB0.size)
  go_wp2_with fail
  refine (nCheck_at h HNB.out).mono ?_
  rintro e w1 ⟨rfl, hb⟩
  have X := ((Box.new w [.slice Aq nq cq, .slice Aa na ca] 25).alloc (.cells #[.slice none 0 0, .slice none 0 0] 25)).later hb
  have R := (Box.newAt (w := w.alloc (.cells #[.slice Aq nq cq, .slice Aa na ca] 25)) (n := w.heap.size + 1) [.slice none 0 0, .slice none 0 0] 25 (by simp)).later hb
  have hB := HB0.trans (hb.mono HB0.size)
  clear hb HB0 HNB
  go_wp2_with fail
  refine (nBetween_any _ _ _).mono ?_
  rintro e w2 ⟨rfl, hb⟩
  have X := X.later hb
  have R := R.later hb
  have hB := hB.trans (hb.mono hB.size)
  clear hb
  obtain ⟨m1, hm1⟩ : ∃ m1, min a b = m1 := ⟨_, rfl⟩
  obtain ⟨m2, hm2⟩ : ∃ m2, max a b = m2 := ⟨_, rfl⟩
  rw [hm1, hm2] at hv ⊢
  have HM := Lib.hid (And.intro hm1 hm2)
  clear hm1 hm2
  go_wp2_with fail
  have hw2 : w.heap.size + 1 + 1 ≤ w2.heap.size := by have := R.lt; omega
  have L := Box.new w2 [.int .i64 m1, .int .i64 m2] 98
  have X := X.alloc (.cells #[.int .i64 m1, .int .i64 m2] 98)
  have R := R.alloc (.cells #[.int .i64 m1, .int .i64 m2] 98)
  have hRL := R.lt
  have hs2 := hB.size
  have hB := hB.alloc hB.size (.cells #[.int .i64 m1, .int .i64 m2] 98)
  refine (nValid_at hv _).mono ?_
  rintro e w3 ⟨rfl, hb⟩
  have X := X.later hb
  have R := R.later hb
  have L := L.later hb
  have hB := hB.trans (hb.mono hB.size)
  clear hb hRL hs2
  obtain ⟨LL, hLL⟩ : ∃ LL, w2.heap.size = LL := ⟨_, rfl⟩
  rw [hLL] at L hw2 ⊢
  clear hLL
  have r0 : w3.cell? ⟨w.heap.size + 1, 0, none⟩ = some (.slice none 0 0) := R.cell 0
  have r1 : w3.cell? ⟨w.heap.size + 1, 1, none⟩ = some (.slice none 0 0) := R.cell 1
  have f0 := R.free 0
  have f1 := R.free 1
  have rz := R.lt
  go_wp2
  have Y := (R.set 0 (.slice none 0 0)).set 1 (.slice none 0 0)
  have hB := (hB.setCell (p := ⟨w.heap.size + 1, 0, none⟩) (by simp) (.slice none 0 0)).setCell (p := ⟨w.heap.size + 1, 1, none⟩) (by simp) (.slice none 0 0)
  generalize (w3.setCell ⟨w.heap.size + 1, 0, none⟩ (.slice none 0 0)).setCell ⟨w.heap.size + 1, 1, none⟩ (.slice none 0 0) = W at Y hB ⊢
  have y0 : W.cell? ⟨w.heap.size + 1, 0, none⟩ = some (.slice none 0 0) := Y.cell 0
  have y1 : W.cell? ⟨w.heap.size + 1, 1, none⟩ = some (.slice none 0 0) := Y.cell 1
  refine ⟨_, (by simp [results, Try.results53, go_sem, y0, y1] : _ = Result.ok (.tuple #[.agg #[.slice none 0 0, .slice none 0 0], .int .i64 1]) _), ?_⟩
  exact ⟨_, _, Net.zero, 1, rfl, hs, net2_zero _ _ _, hB, .inr (.inl rfl)⟩
set_option maxRecDepth 100000 in
set_option maxHeartbeats 2000000 in
theorem nCutV_3 (n : Net) (Aq : Option Addr) (nq cq : Nat) (Aa : Option Addr) (na ca : Nat) (a b : Int) (on : Bool) (w : World) (D : Nat) (hDw : D ≤ w.heap.size) (hN : Hid (NetAt w D (.slice Aq nq cq) (.slice Aa na ca) n)) (h : Hid (n.checkT = 0)) (hv : Hid (linkB (min a b) (max a b) = true)) (hs : Hid (cutT n a b on = (⟨n.queue, allLinks.filter (keptC n.apart (min a b) (max a b) on)⟩, 0))) :
    Calls Try.prog 53 #[.agg #[.slice Aq nq cq, .slice Aa na ca], .int .i64 a, .int .i64 b, .bool on] w (RetNetC (cutT n a b on) D (.slice Aa na ca) w) := by
  refine calls_of_wp_marksN Try.func53 rfl ?_
  simp only [Try.ntmps53, List.size_toArray, List.length_cons, List.length_nil, Nat.reduceAdd, Nat.reduceSub, Array.replicate_succ, Array.replicate_zero, List.push_toArray, List.append_toArray, List.nil_append, List.cons_append]
  have HB0 := ((Below.refl w.heap.size w).alloc (Nat.le_refl _) (.cells #[.slice Aq nq cq, .slice Aa na ca] 25)).alloc (by simp) (.cells #[.slice none 0 0, .slice none 0 0] 25)
  have HNB := Lib.hid (((hN.out.more hDw).below HB0).more HB0.size)
  go_wp2_with fail
  refine (nCheck_at h HNB.out).mono ?_
  rintro e w1 ⟨rfl, hb⟩
  have X := ((Box.new w [.slice Aq nq cq, .slice Aa na ca] 25).alloc (.cells #[.slice none 0 0, .slice none 0 0] 25)).later hb
  have R := (Box.newAt (w := w.alloc (.cells #[.slice Aq nq cq, .slice Aa na ca] 25)) (n := w.heap.size + 1) [.slice none 0 0, .slice none 0 0] 25 (by simp)).later hb
  have hB := HB0.trans (hb.mono HB0.size)
  clear hb HB0 HNB
  go_wp2_with fail
  refine (nBetween_any _ _ _).mono ?_
  rintro e w2 ⟨rfl, hb⟩
  have X := X.later hb
  have R := R.later hb
  have hB := hB.trans (hb.mono hB.size)
  clear hb
  obtain ⟨m1, hm1⟩ : ∃ m1, min a b = m1 := ⟨_, rfl⟩
  obtain ⟨m2, hm2⟩ : ∃ m2, max a b = m2 := ⟨_, rfl⟩
  rw [hm1, hm2] at hv ⊢
  have HM := Lib.hid (And.intro hm1 hm2)
  clear hm1 hm2
  go_wp2_with fail
  have hw2 : w.heap.size + 1 + 1 ≤ w2.heap.size := by have := R.lt; omega
  have L := Box.new w2 [.int .i64 m1, .int .i64 m2] 98
  have X := X.alloc (.cells #[.int .i64 m1, .int .i64 m2] 98)
  have R := R.alloc (.cells #[.int .i64 m1, .int .i64 m2] 98)
  have hRL := R.lt
  have hs2 := hB.size
  have hB := hB.alloc hB.size (.cells #[.int .i64 m1, .int .i64 m2] 98)
  refine (nValid_at hv _).mono ?_
  rintro e w3 ⟨rfl, hb⟩
  have X := X.later hb
  have R := R.later hb
  have L := L.later hb
  have hB := hB.trans (hb.mono hB.size)
  clear hb hRL hs2
  obtain ⟨LL, hLL⟩ : ∃ LL, w2.heap.size = LL := ⟨_, rfl⟩
  rw [hLL] at L hw2 ⊢
  clear hLL
  have x0 : w3.cell? ⟨w.heap.size, 0, none⟩ = some (.slice Aq nq cq) := X.cell 0
  have x1 : w3.cell? ⟨w.heap.size, 1, none⟩ = some (.slice Aa na ca) := X.cell 1
  have l0 : w3.cell? ⟨LL, 0, none⟩ = some (.int .i64 m1) := L.cell 0
  have l1 : w3.cell? ⟨LL, 1, none⟩ = some (.int .i64 m2) := L.cell 1
  have f0 := R.free 0
  have f1 := R.free 1
  have r0 : w3.cell? ⟨w.heap.size + 1, 0, none⟩ = some (.slice none 0 0) := R.cell 0
  have r1 : w3.cell? ⟨w.heap.size + 1, 1, none⟩ = some (.slice none 0 0) := R.cell 1
  have rz := R.lt
  have xz := X.lt
  have lz := L.lt
  have hl2 : LL ≠ w.heap.size + 1 := by omega
  go_wp2_with fail
  clear x0 x1 l0 l1 f0 f1 r0 r1
  have X := (X.other (a := ⟨w.heap.size + 1, 0, none⟩) (by simp) (.slice Aq nq cq)).other (a := ⟨w.heap.size + 1, 1, none⟩) (by simp) (.slice none 0 0)
  have R := (R.set 0 (.slice Aq nq cq)).set 1 (.slice none 0 0)
  have L := (L.other (a := ⟨w.heap.size + 1, 0, none⟩) hl2 (.slice Aq nq cq)).other (a := ⟨w.heap.size + 1, 1, none⟩) hl2 (.slice none 0 0)
  have hB := (hB.setCell (p := ⟨w.heap.size + 1, 0, none⟩) (by simp) (.slice Aq nq cq)).setCell (p := ⟨w.heap.size + 1, 1, none⟩) (by simp) (.slice none 0 0)
  generalize (w3.setCell ⟨w.heap.size + 1, 0, none⟩ (.slice Aq nq cq)).setCell ⟨w.heap.size + 1, 1, none⟩ (.slice none 0 0) = w4 at X R L hB ⊢
  refine (nCuts_any _ _ _ _ _ _ _).mono ?_
  rintro e W0 ⟨rfl, P0, P1, P2, hb⟩
  have R := R.later hb
  have hlt := Lib.hid R.lt
  have hB := hB.trans (hb.mono hB.size)
  have hw4 := X.lt
  have hrz : w.heap.size + 1 < w4.heap.size := by have := L.lt; omega
  clear hb X L
  generalize w4.heap.size = D0 at *
  simp only [List.set_cons_zero, List.set_cons_succ] at R
  go_wp2_with fail
  have hL : Hid (LksAt W0 D (.slice Aa na ca) n.apart) := Lib.hid (hN.out.below (hB.mono hDw)).apart
  have hDW := Nat.le_trans hDw hB.size
  have hOw : OwnLk W0 W0.heap.size (.slice none 0 0) [] := ownLk_nil _ _
  refine wpIn_wide.1 (wpIn_rangeFunc_ownH (n := 6) rfl (by omega) (gf := 93) (lb := #[.pointer (some ⟨D0 + 1, 0, none⟩), .pointer (some ⟨D0 + 1 + 1, 0, none⟩), .pointer (some ⟨D0, 0, none⟩)]) rfl trivial (enters_of Try.func93 (by kernel_rfl) rfl)
    (cuts_stops 5 300 n.apart Aa na ca m1 m2 on (D0 + 1) (D0 + 1 + 1) D0 W0 D hDW hL P1 P2 P0 (w.heap.size + 1) (by omega) (by omega) (by omega) (by omega) (by omega)) (fun h k => KeepsX.trans h k) (KeepsX.putObj (Nat.le_refl _)) (Below.refl _ _) (fun _ => rfl)
    (CutI w (w.heap.size + 1) W0.heap.size (.slice Aq nq cq)) (fun _ _ _ => False) ?hI ?hIx ?h0
    (fun x a' W => ∃ D1, W0.heap.size ≤ D1 ∧ Box W D1 [.int .i64 x.1, .int .i64 x.2] ∧ a' = { tmps := #[.agg #[.slice Aq nq cq, .slice Aa na ca], .int .i64 a, .int .i64 b, .bool on, .pointer (some ⟨w.heap.size, 0, none⟩), undef, undef, undef, .pointer (some ⟨w.heap.size + 1, 0, none⟩), .int .i64 0, .pointer (some ⟨LL, 0, none⟩), .pointer (some ⟨D1, 0, none⟩), .agg #[.slice Aq nq cq, .slice Aa na ca], .int .i64 0, .bool false, undef, .int .i64 a, .int .i64 b, pairV m1 m2, .agg #[.int .i64 m1, .int .i64 m2], .bool true, .bool false, undef, .pointer (some ⟨w.heap.size, 0, none⟩), .slice Aq nq cq, .agg #[.slice Aq nq cq, .slice none 0 0], .pointer (some ⟨w.heap.size, 1, none⟩), .slice Aa na ca, .agg #[.int .i64 m1, .int .i64 m2], .bool on, .func (.func 93) #[] #[.pointer (some ⟨D0 + 1, 0, none⟩), .pointer (some ⟨D0 + 1 + 1, 0, none⟩), .pointer (some ⟨D0, 0, none⟩)], .agg #[.int .i64 x.1, .int .i64 x.2], undef, undef, undef, undef, undef, undef, undef], defers := [] })
    ?hAx ?assign ?body ?done ?stop)
  case hI => exact cutI_own hB.size
  case hIx => exact fun _ _ _ _ _ h _ _ => h
  case h0 => exact ⟨_, R, hOw, hB, Nat.le_refl _⟩
  case hAx =>
    rintro x a' _ X Y row ⟨D1, hD, hb, rfl⟩ hg hr
    exact ⟨D1, hD, box_ownN (β := Unit) _ _ () X Y row hb hg (fun k e => (hr k e).2), rfl⟩
  case assign =>
    rintro l pre x W K ⟨V, bR, ho, hb, hle⟩ hK
    gi_wp2
    exact hK _ _ ((KeepsOthers.alloc _ _).from _) (KeepsX.of ((Below.refl _ W).alloc hle _)) ⟨V, bR.alloc _, World.ownsRow.alloc ho _, hb.alloc hb.size _, by simp; omega⟩ ⟨W.heap.size, hle, Box.new W [.int .i64 x.1, .int .i64 x.2] _, rfl⟩
  case body =>
    rintro l pre x a' W hl _ ⟨V, bR, ho, hb, hle⟩ ⟨D1, hD, bD, rfl⟩ hlen
    obtain ⟨Ao, ko, co, rfl⟩ := owns_form ho
    have ho2 := World.ownsRow.alloc ho (.cells #[.int .i64 x.1, .int .i64 x.2] 49)
    have bN := Box.new W [.int .i64 x.1, .int .i64 x.2] 49
    have bR2 := bR.alloc (.cells #[.int .i64 x.1, .int .i64 x.2] 49)
    obtain ⟨v', W', hrun, ho3, hb3, hg⟩ := run_own_lk 23 ho2 bN (by simp; omega) (by omega)
    have happ : (appF #[23, 23] 23 #[.slice Ao ko co, .slice (some ⟨W.heap.size, 0, none⟩) 1 1]).run Try.prog (W.alloc (.cells #[.int .i64 x.1, .int .i64 x.2] 49)) = .ok v' W' := hrun
    clear hrun
    have hlt := hlt.out
    have bR3 := Box.keepN bR2 hlt hb3
    obtain ⟨Av, kv, cv, rfl⟩ := owns_form ho3
    have hKF := ((KeepsOthers.alloc W (.cells #[.int .i64 x.1, .int .i64 x.2] 49)).trans (KeepsOthers.of_grownBy hg (fun j o e h => owns_cells ho2 j o e h))).trans (KeepsOthers.setCell W' ⟨w.heap.size + 1, 1, none⟩ (.slice Av kv cv))
    have hKX : KeepsX (w.heap.size + 1) W0.heap.size W (W'.setCell ⟨w.heap.size + 1, 1, none⟩ (.slice Av kv cv)) := (KeepsX.of (((Below.refl W0.heap.size W).alloc hle _).trans hb3)).trans (KeepsX.set _ _ _)
    have hI2 : CutI w (w.heap.size + 1) W0.heap.size (.slice Aq nq cq) (pre ++ [x]) (W'.setCell ⟨w.heap.size + 1, 1, none⟩ (.slice Av kv cv)) :=
      ⟨_, bR3.set 1 _, World.ownsRow.kept ho3 (grownBy_setN _ _ _ _) (owns_ne ho3 hlt), ((hb.alloc hb.size _).trans (hb3.mono hB.size)).setCell (by simp) _, Nat.le_trans (Nat.le_trans hle (by simp)) (Nat.le_trans hb3.size (by simp))⟩
    have hEnd := Lib.hid (And.intro (hKF.from W0.heap.size) (And.intro hKX hI2))
    clear hKF hKX hI2 ho3 ho2 hg bN bR2
    have r1 : W.cell? ⟨w.heap.size + 1, 1, none⟩ = some (.slice Ao ko co) := bR.cell 1
    have d0 : W.cell? ⟨D1, 0, none⟩ = some (.int .i64 x.1) := bD.cell 0
    have d1 : W.cell? ⟨D1, 1, none⟩ = some (.int .i64 x.2) := bD.cell 1
    have s1 : W'.cell? ⟨w.heap.size + 1, 1, none⟩ = some (.slice Ao ko co) := bR3.cell 1
    have s2 := bR3.free 1
    have s3 := bR3.lt
    have hDz := bD.lt
    gi_wp2
    exact hEnd.out
  case done =>
    rintro D1 xs W hD hS ⟨V, bR, ho, hb, hle⟩ hK
    have hlt := hlt.out
    obtain ⟨Ao, ko, co, rfl⟩ := owns_form ho
    have r0 : W.cell? ⟨w.heap.size + 1, 0, none⟩ = some (.slice Aq nq cq) := bR.cell 0
    have r1 : W.cell? ⟨w.heap.size + 1, 1, none⟩ = some (.slice Ao ko co) := bR.cell 1
    have f0 := bR.free 0
    have f1 := bR.free 1
    have rz := bR.lt
    have HS := Lib.hid hS
    clear hS
    go_wp2
    have bR2 := (bR.set 0 (.slice Aq nq cq)).set 1 (.slice Ao ko co)
    have hb2 := (hb.setCell (p := ⟨w.heap.size + 1, 0, none⟩) (by simp) (.slice Aq nq cq)).setCell (p := ⟨w.heap.size + 1, 1, none⟩) (by simp) (.slice Ao ko co)
    have ho1 := World.ownsRow.kept ho (grownBy_setN W (w.heap.size + 1) 0 (.slice Aq nq cq)) (owns_ne ho hlt)
    have ho2 := World.ownsRow.kept ho1 (grownBy_setN _ (w.heap.size + 1) 1 (.slice Ao ko co)) (owns_ne ho1 hlt)
    have hKf := (Below.heap_setCell (W.setCell ⟨w.heap.size + 1, 0, none⟩ (.slice Aq nq cq)) ⟨w.heap.size + 1, 1, none⟩ (.slice Ao ko co) D1 (by simp; omega)).trans ((Below.heap_setCell W ⟨w.heap.size + 1, 0, none⟩ (.slice Aq nq cq) D1 (by simp; omega)).trans hK)
    generalize (W.setCell ⟨w.heap.size + 1, 0, none⟩ (.slice Aq nq cq)).setCell ⟨w.heap.size + 1, 1, none⟩ (.slice Ao ko co) = W2 at bR2 hb2 ho2 hKf ⊢
    simp only [List.set_cons_zero, List.set_cons_succ] at bR2
    refine ⟨by simp, .inl ⟨_, _, rfl, run_takeDeferred hKf, ?_⟩⟩
    have bR3 := bR2.putN (l := D1) (by omega) (.deferred none)
    have hb3 := below_putN hb2 (Nat.le_trans hB.size hD) (.deferred none)
    have ho3 : OwnLk (W2.putObj D1 (.deferred none)) W0.heap.size (.slice Ao ko co) xs := ownsRow_putObj ho2 (.deferred none) hKf rfl
    generalize W2.putObj D1 (.deferred none) = W3 at bR3 hb3 ho3 ⊢
    have e0 : W3.cell? ⟨w.heap.size + 1, 0, none⟩ = some (.slice Aq nq cq) := bR3.cell 0
    have e1 : W3.cell? ⟨w.heap.size + 1, 1, none⟩ = some (.slice Ao ko co) := bR3.cell 1
    refine ⟨_, (by simp [results, Try.results53, go_sem, e0, e1] : _ = Result.ok (.tuple #[.agg #[.slice Aq nq cq, .slice Ao ko co], .int .i64 0]) _), ?_⟩
    have hlen : xs.length ≤ 276 := by rw [HS.out, ← linksTo_all]; exact kept_len _ (by omega) (by omega)
    refine ⟨_, _, _, 0, rfl, hs, ⟨((hN.out.queue.below (hb3.mono hDw)).two (Nat.le_trans hDw hb3.size)), ?_⟩, hb3, owns_new ho3 hB.size⟩
    have hlk : Lks2 W3 D W0.heap.size (.slice Ao ko co) xs := ho3.two (by unfold maxLen; omega)
    rw [HS.out, ← HM.out.1, ← HM.out.2] at hlk
    exact ⟨hlk.1, hlk.2.lower hB.size⟩
  case stop =>
    rintro D1 cc pre W hD hpre hf
    exact hf.elim
theorem nCutV_any (n : Net) (Vq Va : Value) (a b : Int) (on : Bool) (w : World) (D : Nat) (hDw : D ≤ w.heap.size) (hN : NetAt w D Vq Va n) :
    Calls Try.prog 53 #[.agg #[Vq, Va], .int .i64 a, .int .i64 b, .bool on] w (RetNetC (cutT n a b on) D Va w) := by
  obtain ⟨Aq, cq, rfl, _⟩ := hN.queue.form
  obtain ⟨Aa, ca, rfl, _⟩ := hN.apart.form
  rcases hok : n.okB with _ | _
  · exact nCutV_1 n _ _ a b on w D hDw hN (check_bad hok) (by rw [Hid, cutT, if_neg (by rw [hok]; decide)])
  · rcases hv : linkB (min a b) (max a b) with _ | _
    · exact nCutV_2 n Aq _ cq Aa _ ca a b on w D hDw hN (check_good hok) hv (by rw [Hid, cutT, if_pos hok, if_neg (by rw [hv]; decide)])
    · exact nCutV_3 n Aq _ cq Aa _ ca a b on w D hDw hN (check_good hok) hv (by rw [Hid, cutT, if_pos hok, if_pos hv, keptC_eq])
end
theorem nCutV_is (n : Net) (a b : Int) (on : Bool) {Vq Va : Value} {w : World} (hN : Hid (NetAt w w.heap.size Vq Va n)) : Calls Try.prog 53 #[.agg #[Vq, Va], .int .i64 a, .int .i64 b, .bool on] w (RetNetC (cutT n a b on) w.heap.size Va w) := nCutV_any n Vq Va a b on w _ (Nat.le_refl _) hN.out
theorem RetBxV.sl1 {t : Bx} {r Va0 Vs0 Vh0 : Value} {w w' : World} {e : Ending} (h : RetBxV t #[r] Va0 Vs0 Vh0 w e w') : ∃ Aq nq cq Aa na ca As ns cs Ah nh ch Af nf cf, e = .returned (.tuple #[.agg #[.slice Aq nq cq, .slice Aa na ca, .slice As ns cs, .slice Ah nh ch, .slice Af nf cf], r]) ∧ Hid (BxAt w' w'.heap.size (.slice Aq nq cq) (.slice Aa na ca) (.slice As ns cs) (.slice Ah nh ch) (.slice Af nf cf) t) ∧ Below w.heap.size w w' ∧ Nw3 w.heap.size Va0 Vs0 Vh0 (.slice Aa na ca) (.slice As ns cs) (.slice Ah nh ch) := by
  obtain ⟨Vq, Va, Vs, Vh, Vf, he, hX, hb, h3⟩ := h
  obtain ⟨Aq, nq, cq, Aa, na, ca, As, ns, cs, Ah, nh, ch, Af, nf, cf, rfl, rfl, rfl, rfl, rfl⟩ := hX.forms5
  exact ⟨Aq, nq, cq, Aa, na, ca, As, ns, cs, Ah, nh, ch, Af, nf, cf, he, Lib.hid hX, hb, h3⟩
theorem RetDlvV.sl {t : Bx × Bool × Int} {Va0 Vs0 Vh0 : Value} {w w' : World} {e : Ending} (h : RetDlvV t Va0 Vs0 Vh0 w e w') : ∃ Aq nq cq Aa na ca As ns cs Ah nh ch Af nf cf, e = .returned (.tuple #[.agg #[.slice Aq nq cq, .slice Aa na ca, .slice As ns cs, .slice Ah nh ch, .slice Af nf cf], .bool t.2.1, .int .i64 t.2.2]) ∧ Hid (BxAt w' w'.heap.size (.slice Aq nq cq) (.slice Aa na ca) (.slice As ns cs) (.slice Ah nh ch) (.slice Af nf cf) t.1) ∧ Below w.heap.size w w' ∧ Nw3 w.heap.size Va0 Vs0 Vh0 (.slice Aa na ca) (.slice As ns cs) (.slice Ah nh ch) := by
  obtain ⟨Vq, Va, Vs, Vh, Vf, he, hX, hb, h3⟩ := h
  obtain ⟨Aq, nq, cq, Aa, na, ca, As, ns, cs, Ah, nh, ch, Af, nf, cf, rfl, rfl, rfl, rfl, rfl⟩ := hX.forms5
  exact ⟨Aq, nq, cq, Aa, na, ca, As, ns, cs, Ah, nh, ch, Af, nf, cf, he, Lib.hid hX, hb, h3⟩
theorem RetTickV.sl {t : Bx × List Int × Int} {Va0 Vs0 Vh0 : Value} {w w' : World} {e : Ending} (h : RetTickV t Va0 Vs0 Vh0 w e w') : ∃ Aq nq cq Aa na ca As ns cs Ah nh ch Af nf cf Al nl cl, e = .returned (.tuple #[.agg #[.slice Aq nq cq, .slice Aa na ca, .slice As ns cs, .slice Ah nh ch, .slice Af nf cf], .slice Al nl cl, .int .i64 t.2.2]) ∧ Hid (BxAt w' w'.heap.size (.slice Aq nq cq) (.slice Aa na ca) (.slice As ns cs) (.slice Ah nh ch) (.slice Af nf cf) t.1) ∧ Hid (HdAt w' w'.heap.size (.slice Al nl cl) t.2.1) ∧ Below w.heap.size w w' ∧ Nw3 w.heap.size Va0 Vs0 Vh0 (.slice Aa na ca) (.slice As ns cs) (.slice Ah nh ch) := by
  obtain ⟨Vq, Va, Vs, Vh, Vf, Vl, he, hX, hL, hb, h3⟩ := h
  obtain ⟨Aq, nq, cq, Aa, na, ca, As, ns, cs, Ah, nh, ch, Af, nf, cf, rfl, rfl, rfl, rfl, rfl⟩ := hX.forms5
  obtain ⟨Al, cl, rfl, _⟩ := hL.2.form3
  exact ⟨Aq, nq, cq, Aa, na, ca, As, ns, cs, Ah, nh, ch, Af, nf, cf, Al, _, cl, he, Lib.hid hX, Lib.hid hL, hb, h3⟩
theorem oSendV_is (b : Bx) (g o : Int) {Aq : Option Addr} {nq cq : Nat} {Aa : Option Addr} {na ca : Nat} {As : Option Addr} {ns cs : Nat} {Ah : Option Addr} {nh ch : Nat} {Af : Option Addr} {nf cf : Nat} {w : World} (hx : Hid (BxAt w w.heap.size (.slice Aq nq cq) (.slice Aa na ca) (.slice As ns cs) (.slice Ah nh ch) (.slice Af nf cf) b)) {T : Bx × Int} (hT : Hid (b.sendT g o = T)) :
    Calls Try.prog 12 #[.agg #[.slice Aq nq cq, .slice Aa na ca, .slice As ns cs, .slice Ah nh ch, .slice Af nf cf], .int .i64 g, .int .i64 o] w (RetBxV T.1 #[.int .i64 T.2] (.slice Aa na ca) (.slice As ns cs) (.slice Ah nh ch) w) := by
  obtain ⟨l1, l2, l3, l4, l5, m1, m2, m3, m4, m5⟩ := hx.out.lens
  exact oSendV_any b g o Aq Aa As Ah Af nq cq na ca ns cs nh ch nf cf w hx (Lib.hid l3) (Lib.hid l4) hT
theorem oLoseV_is (b : Bx) (i : Int) {Aq : Option Addr} {nq cq : Nat} {Aa : Option Addr} {na ca : Nat} {As : Option Addr} {ns cs : Nat} {Ah : Option Addr} {nh ch : Nat} {Af : Option Addr} {nf cf : Nat} {w : World} (hx : Hid (BxAt w w.heap.size (.slice Aq nq cq) (.slice Aa na ca) (.slice As ns cs) (.slice Ah nh ch) (.slice Af nf cf) b)) {T : Bx × Int} (hT : Hid (b.loseT i = T)) :
    Calls Try.prog 25 #[.agg #[.slice Aq nq cq, .slice Aa na ca, .slice As ns cs, .slice Ah nh ch, .slice Af nf cf], .int .i64 i] w (RetBxV T.1 #[.int .i64 T.2] (.slice Aa na ca) (.slice As ns cs) (.slice Ah nh ch) w) := by
  obtain ⟨l1, l2, l3, l4, l5, m1, m2, m3, m4, m5⟩ := hx.out.lens
  exact oLoseV_any b i Aq Aa As Ah Af nq cq na ca ns cs nh ch nf cf w hx  hT
theorem oRepeatV_is (b : Bx) (i : Int) {Aq : Option Addr} {nq cq : Nat} {Aa : Option Addr} {na ca : Nat} {As : Option Addr} {ns cs : Nat} {Ah : Option Addr} {nh ch : Nat} {Af : Option Addr} {nf cf : Nat} {w : World} (hx : Hid (BxAt w w.heap.size (.slice Aq nq cq) (.slice Aa na ca) (.slice As ns cs) (.slice Ah nh ch) (.slice Af nf cf) b)) {T : Bx × Int} (hT : Hid (b.repeatT i = T)) :
    Calls Try.prog 21 #[.agg #[.slice Aq nq cq, .slice Aa na ca, .slice As ns cs, .slice Ah nh ch, .slice Af nf cf], .int .i64 i] w (RetBxV T.1 #[.int .i64 T.2] (.slice Aa na ca) (.slice As ns cs) (.slice Ah nh ch) w) := by
  obtain ⟨l1, l2, l3, l4, l5, m1, m2, m3, m4, m5⟩ := hx.out.lens
  exact oRepeatV_any b i Aq Aa As Ah Af nq cq na ca ns cs nh ch nf cf w hx  hT
theorem oDeliverV_is (b : Bx) (i : Int) {Aq : Option Addr} {nq cq : Nat} {Aa : Option Addr} {na ca : Nat} {As : Option Addr} {ns cs : Nat} {Ah : Option Addr} {nh ch : Nat} {Af : Option Addr} {nf cf : Nat} {w : World} (hx : Hid (BxAt w w.heap.size (.slice Aq nq cq) (.slice Aa na ca) (.slice As ns cs) (.slice Ah nh ch) (.slice Af nf cf) b)) {T : Bx × Bool × Int} (hT : Hid (b.deliverT i = T)) :
    Calls Try.prog 23 #[.agg #[.slice Aq nq cq, .slice Aa na ca, .slice As ns cs, .slice Ah nh ch, .slice Af nf cf], .int .i64 i] w (RetDlvV T (.slice Aa na ca) (.slice As ns cs) (.slice Ah nh ch) w) := by
  obtain ⟨l1, l2, l3, l4, l5, m1, m2, m3, m4, m5⟩ := hx.out.lens
  exact oDeliverV_any b i Aq Aa As Ah Af nq cq na ca ns cs nh ch nf cf w hx (Lib.hid l3) (Lib.hid l4) (Lib.hid l5) hT
theorem oTickV_is (b : Bx)  {Aq : Option Addr} {nq cq : Nat} {Aa : Option Addr} {na ca : Nat} {As : Option Addr} {ns cs : Nat} {Ah : Option Addr} {nh ch : Nat} {Af : Option Addr} {nf cf : Nat} {w : World} (hx : Hid (BxAt w w.heap.size (.slice Aq nq cq) (.slice Aa na ca) (.slice As ns cs) (.slice Ah nh ch) (.slice Af nf cf) b)) {T : Bx × List Int × Int} (hT : Hid (b.tickT = T)) :
    Calls Try.prog 17 #[.agg #[.slice Aq nq cq, .slice Aa na ca, .slice As ns cs, .slice Ah nh ch, .slice Af nf cf]] w (RetTickV T (.slice Aa na ca) (.slice As ns cs) (.slice Ah nh ch) w) := by
  obtain ⟨l1, l2, l3, l4, l5, m1, m2, m3, m4, m5⟩ := hx.out.lens
  exact oTickV_any b  Aq Aa As Ah Af nq cq na ca ns cs nh ch nf cf w hx (Lib.hid l3) (Lib.hid l4) (Lib.hid l5) hT
end Go.Proofs.Ytmbifmmkccghfaa

/-
  A box's slices stay where they are while a block of integers of the law's own is written. No condition.
-/
namespace Go.Proofs.Ytmbifmmkccghfaa
open Go.RowKit

def SepB (R : Nat) (V : Value) : Prop := ∀ b o s n c, V = .slice (some ⟨b, o, s⟩) n c → 0 < n → b ≠ R
theorem SepB.nil (R : Nat) : SepB R (.slice none 0 0) := fun _ _ _ _ _ h _ => by cases h
theorem SepB.new {B R : Nat} {V V' : Value} (h : SepB R V) (hn : NwB B V V') (hR : R < B) : SepB R V' := by
  rcases hn with rfl | rfl | ⟨b, o, n, c, rfl, hb⟩
  · exact h
  · exact SepB.nil R
  · intro b' o' s' n' c' e _
    cases e
    omega
theorem SepB.low {w : World} {B size n R : Nat} {g : Nat → Nat → Value} {V : Value} (h : Sl w B size n g V) (hR : B ≤ R) : SepB R V := by
  intro b o s n' c' e hn
  obtain ⟨A', c2, hv, -, h1⟩ := h
  rw [hv] at e
  cases e
  obtain ⟨b2, o2, hA, hb, -⟩ := h1 0 hn
  cases hA
  omega
structure Sep (R : Nat) (Va Vs Vh : Value) : Prop where
  apart : SepB R Va
  sent : SepB R Vs
  heard : SepB R Vh
theorem Sep.low {w : World} {B R : Nat} {Vq Va Vs Vh Vf : Value} {b : Bx} (h : BxAt w B Vq Va Vs Vh Vf b) (hR : B ≤ R) : Sep R Va Vs Vh := ⟨SepB.low h.net.apart.2 hR, SepB.low h.sent.2 hR, SepB.low h.heard.2 hR⟩
theorem Sep.new {B R : Nat} {Va Vs Vh Va' Vs' Vh' : Value} (h : Sep R Va Vs Vh) (hn : Nw3 B Va Vs Vh Va' Vs' Vh') (hR : R < B) : Sep R Va' Vs' Vh' := ⟨h.apart.new hn.1 hR, h.sent.new hn.2.1 hR, h.heard.new hn.2.2 hR⟩
section
variable {w w' : World} {B R : Nat}
theorem Sl.keepSep {size n : Nat} {g : Nat → Nat → Value} {v : Value} (h : Sl w B size n g v) (hK : ∀ x c, x < B → x ≠ R → w'.cell? ⟨x, c, none⟩ = w.cell? ⟨x, c, none⟩) (hR : SepB R v) : Sl w' B size n g v := by
  obtain ⟨A, c, rfl, hn, h⟩ := h
  refine ⟨A, c, rfl, hn, fun i hi => ?_⟩
  obtain ⟨b, o, rfl, hb, h3⟩ := h i hi
  exact ⟨b, o, rfl, hb, fun j hj => (hK b _ hb (hR b o none n c rfl (by omega))).trans (h3 j hj)⟩
theorem Sl.keepInt {size n : Nat} {g : Nat → Nat → Value} {v : Value} (h : Sl w B size n g v) (hK : ∀ x c, x < B → x ≠ R → w'.cell? ⟨x, c, none⟩ = w.cell? ⟨x, c, none⟩) (hI : ∀ c v, w.cell? ⟨R, c, none⟩ = some v → ∃ z, v = .int .i64 z) (hg : ∀ i, i < n → ∃ j, j < size ∧ ∀ z, g i j ≠ .int .i64 z) : Sl w' B size n g v := by
  obtain ⟨A, c, rfl, hn, h⟩ := h
  refine ⟨A, c, rfl, hn, fun i hi => ?_⟩
  obtain ⟨b, o, rfl, hb, h3⟩ := h i hi
  have hne : b ≠ R := by
    rintro rfl
    obtain ⟨j, hj, hz⟩ := hg i hi
    obtain ⟨z, hv⟩ := hI _ _ (h3 j hj)
    exact hz z hv
  exact ⟨b, o, rfl, hb, fun j hj => (hK b _ hb hne).trans (h3 j hj)⟩
theorem BxAt.keepSep {Vq Va Vs Vh Vf : Value} {b : Bx} (h : BxAt w B Vq Va Vs Vh Vf b) (hK : ∀ x c, x < B → x ≠ R → w'.cell? ⟨x, c, none⟩ = w.cell? ⟨x, c, none⟩) (hI : ∀ c v, w.cell? ⟨R, c, none⟩ = some v → ∃ z, v = .int .i64 z) (hS : Sep R Va Vs Vh) : BxAt w' B Vq Va Vs Vh Vf b := by
  obtain ⟨⟨⟨hq1, V, hq2, hq3⟩, ha1, ha2⟩, ⟨hs1, hs2⟩, ⟨hh1, hh2⟩, hf1, hf2⟩ := h
  have hform : ∀ i, i < b.net.queue.length → ∃ A n c, V i = .slice A n c := fun i hi => by
    obtain ⟨A, c, hv, -⟩ := (hq3 i _ (List.getElem?_eq_getElem hi)).2
    exact ⟨A, _, c, hv⟩
  refine ⟨⟨⟨hq1, V, hq2.keepInt hK hI (fun i hi => ⟨2, by omega, fun z e => ?_⟩), fun i x hx => ?_⟩, ha1, ha2.keepSep hK hS.apart⟩, ⟨hs1, hs2.keepSep hK hS.sent⟩, ⟨hh1, hh2.keepSep hK hS.heard⟩, hf1, hf2.keepInt hK hI (fun i _ => ⟨0, by omega, fun z e => by cases e⟩)⟩
  · obtain ⟨A, n, c, hv⟩ := hform i hi
    unfold pkCells at e
    rw [if_neg (by omega), if_neg (by omega), hv] at e
    cases e
  · exact ⟨(hq3 i x hx).1, (hq3 i x hx).2.keepInt hK hI (fun i _ => ⟨0, by omega, fun z e => by cases e⟩)⟩
end
def IntBox (w : World) (x : Nat) : Prop := ∃ xs, Box w x xs ∧ ∀ v ∈ xs, ∃ z, v = .int .i64 z
theorem IntBox.set {w : World} {x : Nat} (h : IntBox w x) (i : Nat) (z : Int) : IntBox (w.setCell ⟨x, i, none⟩ (.int .i64 z)) x := by
  obtain ⟨xs, hx, hxs⟩ := h
  refine ⟨_, hx.set i _, fun v hv => ?_⟩
  rcases List.mem_or_eq_of_mem_set hv with hv | rfl
  · exact hxs v hv
  · exact ⟨z, rfl⟩
end Go.Proofs.Ytmbifmmkccghfaa

/-
  A map from numbers to bools that the law makes: read, written, kept. No condition.
-/
namespace Go.Proofs.Ytmbifmmkccghfaa
open Go.RowKit Go.Maps

theorem mapKeyed : Keyed Try.prog 3 := int_keyed Try.underlying3
theorem wf_nat {g : Nat} (h : g ≤ 4611686018427387904) : (Lit.int .i64 (g : Int)).wf = true := by
  have h1 : IntKind.i64.min = -9223372036854775808 := rfl
  simp [Lit.wf]
  exact ⟨by omega, by omega⟩
theorem key_nat {g : Nat} (h : g ≤ 4611686018427387904) : keyOf Try.prog 3 (.int .i64 (g : Int)) = some (.int .i64 (g : Int)) := keyOf_int_mk Try.underlying3 (wf_nat h)
set_option maxRecDepth 100000 in
theorem plainElem_bool_inv {v : Value} {x : Bool} {ps : List MemPlace} (h : plainElem (H := Unit) Try.prog 4 v = some (.lit (.bool x), ps)) : v = .bool x := by
  unfold plainElem at h
  rw [Try.underlying4] at h
  cases v <;> simp at h
  rw [h.1]
def MapB (w : World) (B n : Nat) (f : Nat → Bool) : Prop := ∃ D : DataW Unit, w.ownsMap Try.prog 3 (plainElem Try.prog 4) B n D ∧ ∀ g : Nat, D.atKey (.int .i64 (g : Int)) (.lit (.bool false)) = .lit (.bool (f g))
theorem MapB.made (w : World) : MapB (w.alloc (.map #[] 0)) w.heap.size 0 (fun _ => false) := ⟨_, World.ownsMap_made w Try.prog _ _, fun _ => rfl⟩
theorem MapB.mono {w : World} {B n n' : Nat} {f : Nat → Bool} (h : MapB w B n f) (hn : n ≤ n') : MapB w B n' f := h.imp fun _ h => ⟨h.1.mono hn, h.2⟩
theorem MapB.lt {w : World} {B n : Nat} {f : Nat → Bool} (h : MapB w B n f) : B < w.heap.size := by
  obtain ⟨D, h, _⟩ := h
  exact h.lt
theorem MapB.kept {w w' : World} {B n : Nat} {f : Nat → Bool} {row : Option Nat} (h : MapB w B n f) (hg : w.grownBy w' row) (hne : some B ≠ row) : MapB w' B n f := h.imp fun _ h => ⟨h.1.kept hg hne, h.2⟩
theorem MapB.later {w w' : World} {B n : Nat} {f : Nat → Bool} (h : MapB w B n f) (hb : Below w.heap.size w w') : MapB w' B n f :=
  h.kept (row := none) ⟨hb.os, hb.tape, hb.output, hb.size, fun i hi _ => hb.block i hi⟩ (by simp)
theorem MapB.block {w : World} {B n : Nat} {f : Nat → Bool} (h : MapB w B n f) : ∃ es c, w.heap[B]? = some (.map es c) := by
  obtain ⟨D, ⟨es, c, h, _⟩, _⟩ := h
  exact ⟨es, c, h⟩
theorem MapB.set {w : World} {B n : Nat} {f : Nat → Bool} (h : MapB w B n f) {x i : Nat} {xs : List Value} (hx : Box w x xs) (v : Value) : MapB (w.setCell ⟨x, i, none⟩ v) B n f := by
  refine h.kept (row := some x) ⟨rfl, rfl, rfl, by simp, fun j _ hj => Below.heap_setCell w ⟨x, i, none⟩ v j (fun e => hj (by rw [e]))⟩ ?_
  intro e
  obtain ⟨es, c, hb⟩ := h.block
  obtain ⟨t, ht⟩ := hx
  cases e
  rw [hb] at ht
  cases ht
set_option maxRecDepth 100000 in
theorem zero_bool (w : World) : (zeroValue 4).run Try.prog w = .ok (.bool false) w := by kernel_rfl
set_option maxRecDepth 100000 in
theorem MapB.look {w : World} {B n : Nat} {f : Nat → Bool} (h : MapB w B n f) {g : Nat} (hg : g ≤ 4611686018427387904) : (Instr.lookup 59 (.map (some B)) (.int .i64 (g : Int)) false).run Try.prog w = .ok (.bool (f g)) w := by
  obtain ⟨D, h, hf⟩ := h
  obtain ⟨v, ps, hr, hv⟩ := h.lookup mapKeyed Try.underlying59 (zero_bool w) (plainElem_bool Try.underlying4 false) (key_nat hg)
  rw [hf g] at hv
  rw [hr, plainElem_bool_inv hv]
set_option maxRecDepth 100000 in
theorem MapB.put {w : World} {B n : Nat} {f : Nat → Bool} (h : MapB w B n f) (hn : n < maxLen) {g : Nat} (hg : g ≤ 4611686018427387904) :
    ∃ w', (Instr.mapUpdate 59 (.map (some B)) (.int .i64 (g : Int)) (.bool true)).run Try.prog w = .ok () w' ∧ MapB w' B (n + 1) (fun x => f x || decide (x = g)) ∧ w.grownBy w' (some B) := by
  obtain ⟨D, h, hf⟩ := h
  have hD : IsMap D := by
    obtain ⟨es, c, _, _, _, rfl⟩ := h
    exact ⟨_, rfl⟩
  obtain ⟨w', hr, h2, h3⟩ := h.update mapKeyed Try.underlying59 hn (key_nat hg) (plainElem_bool Try.underlying4 true)
  refine ⟨w', hr, ⟨_, h2, fun x => ?_⟩, h3⟩
  by_cases hx : x = g
  · subst hx
    rw [atKey_put_same hD (by trivial)]
    simp
  · rw [atKey_put_other (fun e => hx (by have := (Lit.int.inj e).2; omega)), hf x]
    simp [hx]
end Go.Proofs.Ytmbifmmkccghfaa
