/- Play of cascade: a right cascade, not too many hours. (Printed by gen_dv.py.) No condition. -/
import Derived.Test.YtcjcjkomcolgeaaQDT
import Derived.Test.YtcjcjkomcolgeaaQBT
import Derived.Test.YtcjcjkomcolgeaaQKD
import Derived.Test.YtcjcjkomcolgeaaQDK
set_option linter.unusedVariables false
set_option linter.unusedSimpArgs false
namespace Go.Proofs.Ytcjcjkomcolgeaa
open Go.RowKit
attribute [local go_sem ↓ high] app_named

theorem steps_bad {x : Cs} {l : List Sp} {k : Nat} (hk : k < l.length) (h : x.stepB l[k] = false) : l.all x.stepB = false := bBad hk h
theorem playT_arg {x : Cs} {l : List Sp} (h0 : x.checkT = 0) (h1 : l.length ≤ 4096) (h : l.all x.stepB = false) : x.playT l = ([], 0, 1) := by
  rw [Cs.playT, if_pos h0, if_pos h1, if_neg (by rw [h]; decide)]
set_option maxRecDepth 100000 in
set_option maxHeartbeats 40000000 in
theorem mPlay_main (x : Cs) (l : List Sp) (Ap Ac Ab Al : Option Addr) (n m kp kc kb kl : Nat) (w : World) (hR : Hid (CsRight x n)) (hx : Hid (CsAt w w.heap.size (.slice Ap n kp) (.slice Ac n kc) (.slice Ab n kb) x)) (hl : Hid (StepsAt w w.heap.size (.slice Al m kl) l)) (hm : Hid (l.length = m)) (hm4 : m ≤ 4096) (r : List St × Int × Int) (hT : Hid (x.playT l = r)) : Calls Try.prog 15 #[.agg #[.slice Ap n kp, .slice Ac n kc, .slice Ab n kb], .slice Al m kl] w (PlayPost r w) := by
  obtain ⟨i0, E⟩ := elem_state
  have hn8 := hR.out.most
  have hn0 := hR.out.pos
  have hd : decide ((m : Int) ≤ 4096) = true := decide_eq_true (by omega)
  have hd2 : ((m : Int) ≤ 4096) := by omega
  have hmf : ∀ (fn : Fn) (first cap : Array Value) (w : World), (Instr.makeFunc fn first cap).run Try.prog w = .ok (.func fn first cap) w := fun _ _ _ _ => rfl
  have hB := ((((Below.refl w.heap.size w).alloc (by simp <;> omega) (.cells #[.slice Ap n kp, .slice Ac n kc, .slice Ab n kb] 26)).alloc (by simp <;> omega) (.cells #[.slice none 0 0] 35)).alloc (by simp <;> omega) (.cells #[.int .i64 0] 3)).alloc (by simp <;> omega) (.cells #[.int .i64 0] 29)
  have XC := ((((Box.new w [.slice Ap n kp, .slice Ac n kc, .slice Ab n kb] 26)).alloc (.cells #[.slice none 0 0] 35)).alloc (.cells #[.int .i64 0] 3)).alloc (.cells #[.int .i64 0] 29)
  have XS := ((Box.newAt (w := (w.alloc (.cells #[.slice Ap n kp, .slice Ac n kc, .slice Ab n kb] 26))) (n := w.heap.size + 1) [.slice none 0 0] 35 (by simp)).alloc (.cells #[.int .i64 0] 3)).alloc (.cells #[.int .i64 0] 29)
  have XB := (Box.newAt (w := (((w.alloc (.cells #[.slice Ap n kp, .slice Ac n kc, .slice Ab n kb] 26))).alloc (.cells #[.slice none 0 0] 35))) (n := w.heap.size + 2) [.int .i64 0] 3 (by simp)).alloc (.cells #[.int .i64 0] 29)
  have XE := Box.newAt (w := (((((w.alloc (.cells #[.slice Ap n kp, .slice Ac n kc, .slice Ab n kb] 26))).alloc (.cells #[.slice none 0 0] 35))).alloc (.cells #[.int .i64 0] 3))) (n := w.heap.size + 3) [.int .i64 0] 29 (by simp)
  go_enter_defers Try.func15, Try.ntmps15
  go_wp2_with fail
  generalize (((((((w.alloc (.cells #[.slice Ap n kp, .slice Ac n kc, .slice Ab n kb] 26))).alloc (.cells #[.slice none 0 0] 35))).alloc (.cells #[.int .i64 0] 3))).alloc (.cells #[.int .i64 0] 29)) = w1 at hB XC XS XB XE ⊢
  refine (mExamine_is (Lib.hid (right_zero hR.out)) ⟨(hx.out.plants.below hB).more hB.size, (hx.out.codes.below hB).more hB.size, (hx.out.bars.below hB).more hB.size⟩).mono ?_
  rintro e w2 ⟨he, hb⟩
  rw [if_pos rfl] at he
  subst he
  have hB := hB.trans (hb.mono hB.size)
  have XC := XC.later hb
  have XS := XS.later hb
  have XB := XB.later hb
  have XE := XE.later hb
  clear hb
  have zc := XC.lt
  have xc0 : w2.cell? ⟨w.heap.size, 0, none⟩ = some (.slice Ap n kp) := XC.cell 0
  go_wp2_with fail
  refine (demand_ok 2 _).mono ?_
  rintro e w3 ⟨rfl, rfl⟩
  go_wp2_with fail
  clear hd hd2 xc0 zc
  go_loopw [31] (fun i wr => ∃ k : Nat, k ≤ m ∧ i = .int .i64 k ∧ Below w.heap.size w wr ∧ Box wr w.heap.size [.slice Ap n kp, .slice Ac n kc, .slice Ab n kb] ∧ Box wr (w.heap.size + 1) [.slice none 0 0] ∧ Box wr (w.heap.size + 2) [.int .i64 0] ∧ Box wr (w.heap.size + 3) [.int .i64 0] ∧ Hid (∀ j (hj : j < l.length), j < k → x.stepB l[j] = true)) (fun i _ => m - (intOf i).toNat)
  case atStart => exact ⟨0, by omega, rfl, hB, XC, XS, XB, XE, Lib.hid (fun j _ hj => by omega)⟩
  case round =>
    clear hB XC XS XB XE
    obtain ⟨k, hk, rfl, hB, XC, XS, XB, XE, hall⟩ := hrel
    obtain ⟨wo, rfl⟩ : ∃ wo : World, wo = wr := ⟨_, rfl⟩
    rcases Nat.lt_or_ge k m with hlt | hge
    rotate_left
    · obtain rfl : m = k := by omega
      have hlm : ¬ ((m : Int) < (m : Int)) := by omega
      have hsB : Hid (l.all x.stepB = true) := Lib.hid (List.all_eq_true.2 fun s hs => by
        obtain ⟨j, hj, rfl⟩ := List.getElem_of_mem hs
        exact hall.out j hj (by rw [hm.out] at hj; exact hj))
      clear hall hlm
      have hz := XC.lt
      have xc0 : wo.cell? ⟨w.heap.size, 0, none⟩ = some (.slice Ap n kp) := XC.cell 0
      have xc1 : wo.cell? ⟨w.heap.size, 1, none⟩ = some (.slice Ac n kc) := XC.cell 1
      have xc2 : wo.cell? ⟨w.heap.size, 2, none⟩ = some (.slice Ab n kb) := XC.cell 2
      have hwo : w.heap.size + 3 < wo.heap.size := XE.lt
      have hmk : (Instr.makeSlice 41 (.int .i64 (n : Int)) (.int .i64 (n : Int))).run Try.prog wo.drew = .ok (.slice (some ⟨wo.heap.size, 0, none⟩) n n) (wo.drew.alloc (.cells (List.replicate n (Value.bool false)).toArray 4)) := make_bools wo.drew n (by omega)
      have hbk : Below wo.heap.size wo (wo.drew.alloc (.cells (List.replicate n (Value.bool false)).toArray 4)) := ((Below.refl wo.heap.size wo).drew).alloc (Nat.le_refl _) _
      have XK : Box (wo.drew.alloc (.cells (List.replicate n (Value.bool false)).toArray 4)) wo.heap.size (List.replicate n (Value.bool false)) := Box.new wo.drew (List.replicate n (Value.bool false)) 4
      have hsk : (wo.drew.alloc (.cells (List.replicate n (Value.bool false)).toArray 4)).heap.size = wo.heap.size + 1 := by simp
      generalize wo.drew.alloc (.cells (List.replicate n (Value.bool false)).toArray 4) = wk at hmk hbk XK hsk
      have XC := XC.later hbk
      have XS := XS.later hbk
      have XB := XB.later hbk
      have XE := XE.later hbk
      have hB := hB.trans (hbk.mono hB.size)
      have hzk := XC.lt
      have yc0 : wk.cell? ⟨w.heap.size, 0, none⟩ = some (.slice Ap n kp) := XC.cell 0
      have yc1 : wk.cell? ⟨w.heap.size, 1, none⟩ = some (.slice Ac n kc) := XC.cell 1
      have yc2 : wk.cell? ⟨w.heap.size, 2, none⟩ = some (.slice Ab n kb) := XC.cell 2
      go_upto_region 15 with fail
      go_region
      have hGk : wo.heap.size + 1 = wk.heap.size := hsk.symm
      have XG := Box.newAt (w := wk) (n := wo.heap.size + 1) [.slice Ap n kp, .slice Ac n kc, .slice Ab n kb, .slice none 0 0, .slice (some ⟨wo.heap.size, 0, none⟩) n n, .int .i64 0] 87 hGk
      have hB := hB.alloc hB.size (.cells #[.slice Ap n kp, .slice Ac n kc, .slice Ab n kb, .slice none 0 0, .slice (some ⟨wo.heap.size, 0, none⟩) n n, .int .i64 0] 87)
      have XC := XC.alloc (.cells #[.slice Ap n kp, .slice Ac n kc, .slice Ab n kb, .slice none 0 0, .slice (some ⟨wo.heap.size, 0, none⟩) n n, .int .i64 0] 87)
      have XS := XS.alloc (.cells #[.slice Ap n kp, .slice Ac n kc, .slice Ab n kb, .slice none 0 0, .slice (some ⟨wo.heap.size, 0, none⟩) n n, .int .i64 0] 87)
      have XB := XB.alloc (.cells #[.slice Ap n kp, .slice Ac n kc, .slice Ab n kb, .slice none 0 0, .slice (some ⟨wo.heap.size, 0, none⟩) n n, .int .i64 0] 87)
      have XE := XE.alloc (.cells #[.slice Ap n kp, .slice Ac n kc, .slice Ab n kb, .slice none 0 0, .slice (some ⟨wo.heap.size, 0, none⟩) n n, .int .i64 0] 87)
      have XK := XK.alloc (.cells #[.slice Ap n kp, .slice Ac n kc, .slice Ab n kb, .slice none 0 0, .slice (some ⟨wo.heap.size, 0, none⟩) n n, .int .i64 0] 87)
      clear hmk hbk xc0 xc1 xc2 yc0 yc1 yc2 hz hzk hGk
      have hGs : wo.heap.size + 2 = (wk.alloc (.cells #[.slice Ap n kp, .slice Ac n kc, .slice Ab n kb, .slice none 0 0, .slice (some ⟨wo.heap.size, 0, none⟩) n n, .int .i64 0] 87)).heap.size := by simp [hsk]
      generalize wk.alloc (.cells #[.slice Ap n kp, .slice Ac n kc, .slice Ab n kb, .slice none 0 0, .slice (some ⟨wo.heap.size, 0, none⟩) n n, .int .i64 0] 87) = wg at XG XC XS XB XE XK hB hGs ⊢
      generalize wo.heap.size = Kb at XG XK hGs hwo ⊢
      clear hsk
      have zc := XC.lt
      have xc0 : wg.cell? ⟨w.heap.size, 0, none⟩ = some (.slice Ap n kp) := XC.cell 0
      go_wp2_with fail
      clear zc xc0 XC
      have hO0 := Lib.hid (ownE_nil St.cells 6 wg (Kb + 2) 51)
      go_loopw [94] (fun i wr => ∃ (j : Nat) (V : Value), j ≤ n ∧ i = .int .i64 j ∧ Below w.heap.size w wr ∧ Box wr (w.heap.size + 1) [.slice none 0 0] ∧ Box wr (w.heap.size + 2) [.int .i64 0] ∧ Box wr (w.heap.size + 3) [.int .i64 0] ∧ Box wr Kb (List.replicate n (.bool false)) ∧ Box wr (Kb + 1) [.slice Ap n kp, .slice Ac n kc, .slice Ab n kb, V, .slice (some ⟨Kb, 0, none⟩) n n, .int .i64 0] ∧ Hid (OwnSt wr (Kb + 2) V (x.begins.take j)) ∧ Kb + 2 ≤ wr.heap.size) (fun i _ => n - (intOf i).toNat)
      case atStart => exact ⟨0, .slice none 0 0, by omega, rfl, hB, XS, XB, XE, XK, XG, hO0, by omega⟩
      case round =>
        clear hB XS XB XE XK XG hO0 hGs
        obtain ⟨j, V, hj, rfl, hB, XS, XB, XE, XK, XG, hO, hKz⟩ := hrel
        obtain ⟨wi, rfl⟩ : ∃ wi : World, wi = wr := ⟨_, rfl⟩
        rcases Nat.lt_or_ge j n with hlj | hgj
        rotate_left
        · obtain rfl : n = j := by omega
          have hlj : ¬ ((n : Int) < (n : Int)) := by omega
          have hbn : x.begins.length = n := by rw [begins_len, hR.out.plants]
          have hO := hO.out
          rw [List.take_of_length_le (by omega)] at hO
          obtain ⟨sg, sc, LS, hV, hcap, hsg, XSt, hcell⟩ := hO.box (fun _ => rfl) (by omega)
          rw [hbn] at hV hcap
          subst hV
          have hKw : w.heap.size + 3 < Kb := hwo
          have hH : HourAt wi w.heap.size (Kb + 1) x n (x.begins.getD · St.zero) ((List.replicate n false).getD · false) Ap Ac kp kc sg 0 Kb 0 := ⟨hn8, hx.out.plants.below hB, hR.out.plants, hx.out.codes.below hB, hR.out.codes, by omega, by omega, by omega, by omega, by omega, by omega, ⟨LS, XSt, fun k hk j hj => by rw [Nat.zero_add, hcell k (by omega) j hj, getD_at (by omega)]⟩, ⟨_, XK, fun k hk => by rw [getD_rep, Nat.zero_add, List.getElem?_replicate, if_pos hk]⟩⟩
          clear hO XSt hcell XK
          go_wp2_with fail
          refine (mLook_is x n x.begins (List.replicate n false) Ap (.slice Ac n kc) (.slice Ab n kb) kp sg 0 sc Kb 0 n w.heap.size (Kb + 1) 0 wi XG (Lib.hid ⟨hn8, hH.plants, hH.pn, hH.DG, fun k hk j hj => hH.state hk j hj, hH.sG, fun k hk => hH.was hk, hH.kG⟩)).mono ?_
          rintro e wl ⟨rfl, XG, hkg⟩
          have hH := hH.keeps (R := fun b => b = Kb + 1) hkg.keeps hH.sG hH.kG
          have hB := hB.trans hkg.keeps.low
          have XS := hkg.keeps.box XS (by omega)
          have XB := hkg.keeps.box XB (by omega)
          have XE := hkg.keeps.box XE (by omega)
          clear hkg
          have hstart : Hid (x.playK l 0 = some ⟨x.begins, List.replicate n false, x.lookK x.begins (List.replicate n false) 0 n⟩) := Lib.hid (by rw [Cs.playK, (start_look hR.out.plants).2])
          have hE : Hid (x.endT l = r) := Lib.hid ((playT_go (right_zero hR.out) (by rw [hm.out]; exact hm4) hsB.out).symm.trans hT.out)
          go_wp2_with fail
          go_loopw [120] (fun i wr => ∃ (k2 : Nat) (g : Pst), k2 ≤ m ∧ i = .int .i64 k2 ∧ Below w.heap.size w wr ∧ Box wr (w.heap.size + 1) [.slice none 0 0] ∧ Box wr (w.heap.size + 2) [.int .i64 0] ∧ Box wr (w.heap.size + 3) [.int .i64 0] ∧ Hid (x.playK l k2 = some g) ∧ Box wr (Kb + 1) (gameL (.slice Ap n kp) (.slice Ac n kc) (.slice Ab n kb) (.slice (some ⟨sg, 0, none⟩) n sc) (.slice (some ⟨Kb, 0, none⟩) n n) g.bad) ∧ HourAt wr w.heap.size (Kb + 1) x n (g.states.getD · St.zero) (g.stuck.getD · false) Ap Ac kp kc sg 0 Kb 0) (fun i _ => m - (intOf i).toNat)
          case atStart => exact ⟨0, _, by omega, rfl, hB, XS, XB, XE, hstart, XG, hH⟩
          case round =>
            clear hB XS XB XE XG hH hstart
            obtain ⟨k2, g, hk2, rfl, hB, XS, XB, XE, hP, XG, hH⟩ := hrel
            obtain ⟨wh, rfl⟩ : ∃ wh : World, wh = wr := ⟨_, rfl⟩
            rcases Nat.lt_or_ge k2 m with hlk | hgk
            rotate_left
            · obtain rfl : m = k2 := by omega
              have hlk2 : ¬ ((m : Int) < (m : Int)) := by omega
              have hrr : r = (g.states, g.bad, 0) := hE.out.symm.trans (endT_some (by rw [hm.out]; exact hP.out))
              have HRR := Lib.hid hrr
              clear hrr
              go_upto_region 29 with fail
              have zs := XS.lt
              have zb := XB.lt
              have ze := XE.lt
              have zg := XG.lt
              have g3 : wh.cell? ⟨Kb + 1, 3, none⟩ = some (.slice (some ⟨sg, 0, none⟩) n sc) := XG.cell 3
              have g5 : wh.cell? ⟨Kb + 1, 5, none⟩ = some (.int .i64 g.bad) := XG.cell 5
              have s0 : wh.cell? ⟨w.heap.size + 1, 0, none⟩ = some (.slice none 0 0) := XS.cell 0
              have s1 := XS.free 0
              have b0 : wh.cell? ⟨w.heap.size + 2, 0, none⟩ = some (.int .i64 0) := XB.cell 0
              have b1 := XB.free 0
              have e0 : wh.cell? ⟨w.heap.size + 3, 0, none⟩ = some (.int .i64 0) := XE.cell 0
              have e1 := XE.free 0
              go_region
              go_wp2
              have ZS : Box ((((wh.setCell ⟨w.heap.size + 1, 0, none⟩ (.slice (some ⟨sg, 0, none⟩) n sc)).setCell ⟨w.heap.size + 1 + 1, 0, none⟩ (.int .i64 g.bad)).setCell ⟨w.heap.size + 1 + 1 + 1, 0, none⟩ (.int .i64 0)).drew) (w.heap.size + 1) [.slice (some ⟨sg, 0, none⟩) n sc] := ((XS.set 0 (.slice (some ⟨sg, 0, none⟩) n sc)).other (a := ⟨w.heap.size + 1 + 1, 0, none⟩) (by dsimp only; omega) _).other (a := ⟨w.heap.size + 1 + 1 + 1, 0, none⟩) (by dsimp only; omega) _
              have ZB : Box ((((wh.setCell ⟨w.heap.size + 1, 0, none⟩ (.slice (some ⟨sg, 0, none⟩) n sc)).setCell ⟨w.heap.size + 1 + 1, 0, none⟩ (.int .i64 g.bad)).setCell ⟨w.heap.size + 1 + 1 + 1, 0, none⟩ (.int .i64 0)).drew) (w.heap.size + 2) [.int .i64 g.bad] := ((XB.other (a := ⟨w.heap.size + 1, 0, none⟩) (by dsimp only; omega) _).set 0 (.int .i64 g.bad)).other (a := ⟨w.heap.size + 1 + 1 + 1, 0, none⟩) (by dsimp only; omega) _
              have ZE : Box ((((wh.setCell ⟨w.heap.size + 1, 0, none⟩ (.slice (some ⟨sg, 0, none⟩) n sc)).setCell ⟨w.heap.size + 1 + 1, 0, none⟩ (.int .i64 g.bad)).setCell ⟨w.heap.size + 1 + 1 + 1, 0, none⟩ (.int .i64 0)).drew) (w.heap.size + 3) [.int .i64 0] := ((XE.other (a := ⟨w.heap.size + 1, 0, none⟩) (by dsimp only; omega) _).other (a := ⟨w.heap.size + 1 + 1, 0, none⟩) (by dsimp only; omega) _).set 0 (.int .i64 0)
              have hkz : KeepsC w.heap.size (fun b => b = w.heap.size + 1 ∨ b = w.heap.size + 1 + 1 ∨ b = w.heap.size + 1 + 1 + 1) wh ((((wh.setCell ⟨w.heap.size + 1, 0, none⟩ (.slice (some ⟨sg, 0, none⟩) n sc)).setCell ⟨w.heap.size + 1 + 1, 0, none⟩ (.int .i64 g.bad)).setCell ⟨w.heap.size + 1 + 1 + 1, 0, none⟩ (.int .i64 0)).drew) := (((KeepsC.set (R := (fun b => b = w.heap.size + 1 ∨ b = w.heap.size + 1 + 1 ∨ b = w.heap.size + 1 + 1 + 1)) wh (a := ⟨w.heap.size + 1, 0, none⟩) (by dsimp only; omega) (.inl rfl) _).trans (KeepsC.set (R := (fun b => b = w.heap.size + 1 ∨ b = w.heap.size + 1 + 1 ∨ b = w.heap.size + 1 + 1 + 1)) _ (a := ⟨w.heap.size + 1 + 1, 0, none⟩) (by dsimp only; omega) (.inr (.inl rfl)) _)).trans (KeepsC.set (R := (fun b => b = w.heap.size + 1 ∨ b = w.heap.size + 1 + 1 ∨ b = w.heap.size + 1 + 1 + 1)) _ (a := ⟨w.heap.size + 1 + 1 + 1, 0, none⟩) (by dsimp only; omega) (.inr (.inr rfl)) _)).trans (KeepsC.of ((Below.refl _ _).drew) (by simp; omega))
              generalize (((wh.setCell ⟨w.heap.size + 1, 0, none⟩ (.slice (some ⟨sg, 0, none⟩) n sc)).setCell ⟨w.heap.size + 1 + 1, 0, none⟩ (.int .i64 g.bad)).setCell ⟨w.heap.size + 1 + 1 + 1, 0, none⟩ (.int .i64 0)).drew = wz at ZS ZB ZE hkz ⊢
              have hHz := hH.keeps hkz (by rintro (h | h | h) <;> omega) (by rintro (h | h | h) <;> omega)
              have hBz := hB.trans hkz.low
              refine leaves_cons (f := 37) (args := #[.pointer (some ⟨w.heap.size + 1, 0, none⟩), .pointer (some ⟨w.heap.size + 2, 0, none⟩), .pointer (some ⟨w.heap.size + 3, 0, none⟩)]) (by simp) (by simp [go_sem]) ?_
              refine (pCatch_idle (w.heap.size + 1) (w.heap.size + 2) (w.heap.size + 3) wz).mono ?_
              rintro e u' w4 ⟨rfl, rfl, rfl⟩
              have y0 : w4.cell? ⟨w.heap.size + 1, 0, none⟩ = some (.slice (some ⟨sg, 0, none⟩) n sc) := ZS.cell 0
              have y1 : w4.cell? ⟨w.heap.size + 2, 0, none⟩ = some (.int .i64 g.bad) := ZB.cell 0
              have y2 : w4.cell? ⟨w.heap.size + 3, 0, none⟩ = some (.int .i64 0) := ZE.cell 0
              simp [Leaves, settle, results, Try.results15, go_sem, y0, y1, y2]
              have hgl : g.states.length = n := (playK_ok hR.out hsB.out (by rw [hm.out]; exact Nat.le_refl _) hP.out).1.1
              obtain rfl := HRR.out
              have hsl := hHz.lt
              refine ⟨some ⟨sg, 0, none⟩, sc, by dsimp only; rw [hgl], by dsimp only; omega, ?_, hBz⟩
              dsimp only
              rw [hgl]
              refine ⟨some ⟨sg, 0, none⟩, sc, by rw [hgl], by rw [hgl]; simp only [maxLen]; omega, fun i hi => ⟨sg, 0, rfl, hsl.1, fun j hj => ?_⟩⟩
              rw [← Nat.add_assoc, hHz.state (by omega) j hj, st_cells _ hj]
            have hlk2 : (k2 : Int) < (m : Int) := by omega
            have hkl : k2 < l.length := by rw [hm.out]; exact hlk
            obtain ⟨gl, off, M, K, rfl, hgl, c0, c1, c2, hM, hK⟩ := hl.out.step hkl
            have hsv0 : x.stepB l[k2] = true := List.all_eq_true.1 hsB.out _ (List.getElem_mem hkl)
            have hgd := getD_at (d := Sp.zero) hkl
            obtain ⟨s, hs⟩ : ∃ s, l[k2] = s := ⟨_, rfl⟩
            rw [hs] at c0 hM hK hsv0 hgd
            have HSV := Lib.hid hsv0
            have HGD := Lib.hid hgd
            obtain ⟨a1, k1, rfl, -⟩ := hM.form
            obtain ⟨a2, k3, rfl, -⟩ := hK.form
            have hsl : s.msgs.length = n ∧ s.stuck.length = n := by
              simp only [Cs.stepB, Bool.and_eq_true, decide_eq_true_eq, hR.out.plants] at hsv0
              exact ⟨hsv0.1, hsv0.2.1⟩
            rw [hsl.1] at c1 hM
            rw [hsl.2] at c2 hK
            have HM := Lib.hid hM
            have HK := Lib.hid hK
            clear hs hsv0 hgd hsl hM hK
            have c0 := (hB.cell hgl).trans c0
            have c1 := (hB.cell hgl).trans c1
            have c2 := (hB.cell hgl).trans c2
            have hgz := Nat.lt_of_lt_of_le hgl hB.size
            go_upto_region 27 with fail
            have hb9 := (Below.refl wh.heap.size wh).alloc (Nat.le_refl _) (.cells #[.int .i64 s.feed, .slice a1 n k1, .slice a2 n k3] 44)
            have X9 := Box.new wh [.int .i64 s.feed, .slice a1 n k1, .slice a2 n k3] 44
            have XS := XS.later hb9
            have XB := XB.later hb9
            have XE := XE.later hb9
            have XG := XG.later hb9
            have hH := hH.under hb9 hB.size
            have hB := hB.trans (hb9.mono hB.size)
            clear hb9 c0 c1 c2 hgz
            generalize wh.alloc (.cells #[.int .i64 s.feed, .slice a1 n k1, .slice a2 n k3] 44) = wj at X9 XS XB XE XG hH hB ⊢
            generalize wh.heap.size = D9 at X9 ⊢
            have X9c0 : wj.cell? ⟨D9, 0, none⟩ = some (.int .i64 s.feed) := X9.cell 0
            have X9c1 : wj.cell? ⟨D9, 1, none⟩ = some (.slice a1 n k1) := X9.cell 1
            have X9c2 : wj.cell? ⟨D9, 2, none⟩ = some (.slice a2 n k3) := X9.cell 2
            have z9 := X9.lt
            go_wp2_with fail
            refine (mHour_is x n g.states g.stuck s Ap Ac a1 a2 (.slice Ab n kb) kp kc k1 k3 sg 0 sc Kb 0 n w.heap.size (Kb + 1) g.bad wj hR (Lib.hid (playK_ok hR.out hsB.out (by omega) hP.out).1) HSV XG (Lib.hid hH) (Lib.hid (HM.out.below hB)) (Lib.hid (HK.out.below hB))).mono ?_
            rintro e wk (⟨f, sts, hq, rfl, hH, XG, hkc⟩ | ⟨hq, rfl, hkc⟩)
            · have hP2 := playK_next hR.out.plants hP.out (by rw [HGD.out]; exact hq.out)
              rw [HGD.out] at hP2
              have HP2 := Lib.hid hP2
              clear hP2
              go_wp2
              exact ⟨⟨k2 + 1, _, by omega, by go_num, hB.trans hkc.low, hkc.box XS (by rintro (h | h | h) <;> omega), hkc.box XB (by rintro (h | h | h) <;> omega), hkc.box XE (by rintro (h | h | h) <;> omega), HP2, XG, hH⟩, by simp [intOf]; omega⟩
            · have hP2 := playK_none (playK_stop hR.out.plants hP.out (by rw [HGD.out]; exact hq.out)) (m - (k2 + 1))
              rw [show k2 + 1 + (m - (k2 + 1)) = m by omega] at hP2
              have hrr : r = ([], 0, 350) := hE.out.symm.trans (endT_none (by rw [hm.out]; exact hP2))
              have HRR := Lib.hid hrr
              clear hrr hP2
              have hB := hB.trans hkc.low
              have XS := hkc.box XS (by rintro (h | h | h) <;> omega)
              have XB := hkc.box XB (by rintro (h | h | h) <;> omega)
              have XE := hkc.box XE (by rintro (h | h | h) <;> omega)
              go_wp2
              refine leaves_cons (f := 37) (args := #[.pointer (some ⟨w.heap.size + 1, 0, none⟩), .pointer (some ⟨w.heap.size + 2, 0, none⟩), .pointer (some ⟨w.heap.size + 3, 0, none⟩)]) (by simp) (by simp [go_sem]) ?_
              refine (pCatch_panicking w.heap.size (w.heap.size + 1) (w.heap.size + 2) (w.heap.size + 3) _ _ _ 350 (by decide) wk XS XB XE (by omega) (by omega) (by omega) (by omega) (by omega) (by omega)).mono ?_
              rintro e u' wz ⟨rfl, rfl, YS, YB, YE, hBz⟩
              have y0 : wz.cell? ⟨w.heap.size + 1, 0, none⟩ = some (.slice none 0 0) := YS.cell 0
              have y1 : wz.cell? ⟨w.heap.size + 2, 0, none⟩ = some (.int .i64 0) := YB.cell 0
              have y2 : wz.cell? ⟨w.heap.size + 3, 0, none⟩ = some (.int .i64 350) := YE.cell 0
              simp [Leaves, settle, results, Try.results15, go_sem, y0, y1, y2]
              obtain rfl := HRR.out
              exact playPost_err (hB.trans hBz)
        have hlj2 : (j : Int) < (n : Int) := by omega
        have hjp : j < x.plants.length := by rw [hR.out.plants]; exact hlj
        obtain ⟨bp, op, rfl, hbp, p0, p1, p2, p3, p4, p5, p6, p7, p8, p9, p10, p11⟩ := hx.out.plants.cells12 hjp
        have hck := (hR.out.gate j hlj).1
        rw [getD_at hjp] at hck
        have hbs := begins_succ hjp
        have hbl : (x.begins.take j).length = j := by rw [List.length_take, begins_len, hR.out.plants]; omega
        obtain ⟨p, hp⟩ : ∃ p, x.plants[j] = p := ⟨_, rfl⟩
        rw [hp] at p0 p1 p2 p3 p4 p5 p6 p7 p8 p9 p10 p11 hck hbs
        obtain ⟨t, et, hbt⟩ : ∃ t et, Hid (p.beginT = (t, et)) := ⟨_, _, Lib.hid rfl⟩
        have het := begin_ok hck
        rw [hbt.out] at het hbs
        dsimp only at het hbs
        subst het
        have HBS := Lib.hid hbs
        have HCK := Lib.hid hck
        clear hbs hck hp
        have p0 := (hB.cell hbp).trans p0
        have p1 := (hB.cell hbp).trans p1
        have p2 := (hB.cell hbp).trans p2
        have p3 := (hB.cell hbp).trans p3
        have p4 := (hB.cell hbp).trans p4
        have p5 := (hB.cell hbp).trans p5
        have p6 := (hB.cell hbp).trans p6
        have p7 := (hB.cell hbp).trans p7
        have p8 := (hB.cell hbp).trans p8
        have p9 := (hB.cell hbp).trans p9
        have p10 := (hB.cell hbp).trans p10
        have p11 := (hB.cell hbp).trans p11
        have hbpz := Nat.lt_of_lt_of_le hbp hB.size
        have hKw : w.heap.size + 3 < wi.heap.size := XE.lt
        go_upto_region 19 with fail
        have hb1 := (Below.refl wi.heap.size wi).alloc (Nat.le_refl _) (.cells #[.int .i64 p.top, .int .i64 p.bank, .int .i64 p.siphon, .int .i64 p.start, .int .i64 p.positions, .int .i64 p.rate, .int .i64 p.step, .int .i64 p.pass, .int .i64 p.feed, .int .i64 p.pipe, .int .i64 p.orders, .int .i64 p.age] 55)
        have X14 := Box.new wi [.int .i64 p.top, .int .i64 p.bank, .int .i64 p.siphon, .int .i64 p.start, .int .i64 p.positions, .int .i64 p.rate, .int .i64 p.step, .int .i64 p.pass, .int .i64 p.feed, .int .i64 p.pipe, .int .i64 p.orders, .int .i64 p.age] 55
        clear p0 p1 p2 p3 p4 p5 p6 p7 p8 p9 p10 p11 hbpz
        have hsz1 := hb1.size
        generalize wi.alloc (.cells #[.int .i64 p.top, .int .i64 p.bank, .int .i64 p.siphon, .int .i64 p.start, .int .i64 p.positions, .int .i64 p.rate, .int .i64 p.step, .int .i64 p.pass, .int .i64 p.feed, .int .i64 p.pipe, .int .i64 p.orders, .int .i64 p.age] 55) = wa at hb1 X14 hsz1 ⊢
        have X14c0 : wa.cell? ⟨wi.heap.size, 0, none⟩ = some (.int .i64 p.top) := X14.cell 0
        have X14c1 : wa.cell? ⟨wi.heap.size, 1, none⟩ = some (.int .i64 p.bank) := X14.cell 1
        have X14c2 : wa.cell? ⟨wi.heap.size, 2, none⟩ = some (.int .i64 p.siphon) := X14.cell 2
        have X14c3 : wa.cell? ⟨wi.heap.size, 3, none⟩ = some (.int .i64 p.start) := X14.cell 3
        have X14c4 : wa.cell? ⟨wi.heap.size, 4, none⟩ = some (.int .i64 p.positions) := X14.cell 4
        have X14c5 : wa.cell? ⟨wi.heap.size, 5, none⟩ = some (.int .i64 p.rate) := X14.cell 5
        have X14c6 : wa.cell? ⟨wi.heap.size, 6, none⟩ = some (.int .i64 p.step) := X14.cell 6
        have X14c7 : wa.cell? ⟨wi.heap.size, 7, none⟩ = some (.int .i64 p.pass) := X14.cell 7
        have X14c8 : wa.cell? ⟨wi.heap.size, 8, none⟩ = some (.int .i64 p.feed) := X14.cell 8
        have X14c9 : wa.cell? ⟨wi.heap.size, 9, none⟩ = some (.int .i64 p.pipe) := X14.cell 9
        have X14c10 : wa.cell? ⟨wi.heap.size, 10, none⟩ = some (.int .i64 p.orders) := X14.cell 10
        have X14c11 : wa.cell? ⟨wi.heap.size, 11, none⟩ = some (.int .i64 p.age) := X14.cell 11
        have z14 := X14.lt
        go_wp2_with fail
        refine (begin_is hbt).mono ?_
        rintro e wb ⟨rfl, hb2⟩
        have hb1 := hb1.trans (hb2.mono hb1.size)
        clear X14c0 X14c1 X14c2 X14c3 X14c4 X14c5 X14c6 X14c7 X14c8 X14c9 X14c10 X14c11 z14 X14 hb2 hsz1
        go_wp2_with fail
        refine (must_ok _).mono ?_
        rintro e wc ⟨rfl, rfl⟩
        go_upto_region 21 with fail
        have hb3 := hb1.alloc hb1.size (.cells #[.int .i64 t.level, .int .i64 t.position, .int .i64 t.p0, .int .i64 t.p1, .int .i64 t.order, .int .i64 t.age] 51)
        have X15 := Box.new wb [.int .i64 t.level, .int .i64 t.position, .int .i64 t.p0, .int .i64 t.p1, .int .i64 t.order, .int .i64 t.age] 51
        have hYz := hb1.size
        clear hb1
        generalize wb.alloc (.cells #[.int .i64 t.level, .int .i64 t.position, .int .i64 t.p0, .int .i64 t.p1, .int .i64 t.order, .int .i64 t.age] 51) = W at hb3 X15 ⊢
        generalize wb.heap.size = Y15 at X15 hYz ⊢
        have hW3 := hb3.size
        have hO2 := hO.out.later hb3
        have hbS := ((Below.refl W.heap.size W).drew).alloc (Nat.le_refl _) (.cells #[.int .i64 t.level, .int .i64 t.position, .int .i64 t.p0, .int .i64 t.p1, .int .i64 t.order, .int .i64 t.age] 51)
        have XN := Box.new W.drew [.int .i64 t.level, .int .i64 t.position, .int .i64 t.p0, .int .i64 t.p1, .int .i64 t.order, .int .i64 t.age] 51
        have hO3 := hO2.later hbS
        obtain ⟨g', c', w', hr, hO4, hg⟩ := run_appE E (fun _ => rfl) st_one (by omega) t 35 hO3 XN (by have := hbS.size; omega) (by rw [hbl]; omega)
        rw [← HBS.out] at hO4
        rw [hbl] at hO4 hr
        have hr : (appF #[35, 35] 35 #[V, .slice (some ⟨W.heap.size, 0, none⟩) 1 1]).run Try.prog (W.alloc (.cells #[.int .i64 t.level, .int .i64 t.position, .int .i64 t.p0, .int .i64 t.p1, .int .i64 t.order, .int .i64 t.age] 51)).drew = .ok (.slice (some ⟨g', 0, none⟩) (j + 1) c') w' := hr
        have hB1 := (hB.trans (hb3.mono hB.size)).trans (hbS.mono (Nat.le_trans hB.size hW3))
        have hB2 := OwnE.grown hO3 hg (by omega) hB1 hB1.size
        have hsz9 : Kb + 2 ≤ w'.heap.size := by have := hg.size; have := hbS.size; omega
        have XS2 := box_grown hO3 hg ((XS.later hb3).later hbS) (by omega)
        have XB2 := box_grown hO3 hg ((XB.later hb3).later hbS) (by omega)
        have XE2 := box_grown hO3 hg ((XE.later hb3).later hbS) (by omega)
        have XK2 := box_grown hO3 hg ((XK.later hb3).later hbS) (by omega)
        have XG2 := box_grown hO3 hg ((XG.later hb3).later hbS) (by omega)
        have XG3 := XG.later hb3
        have HO4 := Lib.hid hO4
        clear hO4 hg hO3 hO2 XN hB1 hbS hb3 hO XS XB XE XK XG
        have z15 := X15.lt
        have zg := XG3.lt
        have X15c0 : W.cell? ⟨Y15, 0, none⟩ = some (.int .i64 t.level) := X15.cell 0
        have X15c1 : W.cell? ⟨Y15, 1, none⟩ = some (.int .i64 t.position) := X15.cell 1
        have X15c2 : W.cell? ⟨Y15, 2, none⟩ = some (.int .i64 t.p0) := X15.cell 2
        have X15c3 : W.cell? ⟨Y15, 3, none⟩ = some (.int .i64 t.p1) := X15.cell 3
        have X15c4 : W.cell? ⟨Y15, 4, none⟩ = some (.int .i64 t.order) := X15.cell 4
        have X15c5 : W.cell? ⟨Y15, 5, none⟩ = some (.int .i64 t.age) := X15.cell 5
        have g3 : W.cell? ⟨Kb + 1, 3, none⟩ = some V := XG3.cell 3
        have g4 : w'.cell? ⟨Kb + 1, 3, none⟩ = some V := XG2.cell 3
        have g5 : w'.frozen? ⟨Kb + 1, 3, none⟩ = false := XG2.free 3
        have zg2 := XG2.lt
        go_region
        go_wp2
        have hO5 := HO4.out.set (a := ⟨Kb + 1, 3, none⟩) (by dsimp only; omega) (.slice (some ⟨g', 0, none⟩) (j + 1) c')
        exact ⟨⟨j + 1, _, by omega, by go_num, hB2.setCell (p := ⟨Kb + 1, 3, none⟩) (by dsimp only; omega) _, XS2.other (a := ⟨Kb + 1, 3, none⟩) (by dsimp only; omega) _, XB2.other (a := ⟨Kb + 1, 3, none⟩) (by dsimp only; omega) _, XE2.other (a := ⟨Kb + 1, 3, none⟩) (by dsimp only; omega) _, XK2.other (a := ⟨Kb + 1, 3, none⟩) (by dsimp only; omega) _, XG2.set 3 _, Lib.hid hO5, by simpa using hsz9⟩, by simp [intOf]; omega⟩
    have hlm : (k : Int) < (m : Int) := by omega
    have hkl : k < l.length := by rw [hm.out]; exact hlt
    obtain ⟨g, off, M, K, rfl, hg, c0, c1, c2, hM, hK⟩ := hl.out.step hkl
    have hbad := steps_bad (x := x) hkl
    obtain ⟨s, hs⟩ : ∃ s, l[k] = s := ⟨_, rfl⟩
    rw [hs] at c0 hbad hM hK
    have HS := Lib.hid hs
    clear hs
    obtain ⟨a1, k1, rfl, hz1⟩ := hM.form
    obtain ⟨a2, k2, rfl, hz2⟩ := hK.form
    unfold maxLen at hz1 hz2
    have hst := stepB_parts (s := s) hR.out.plants
    have hk0 : 0 < x.plants.length := by rw [hR.out.plants]; exact hn0
    obtain ⟨bp, op, rfl, hbp, p0, p1, p2, p3, p4, p5, p6, p7, p8, p9, p10, p11⟩ := hx.out.plants.cells12 hk0
    rw [getD_at hk0] at hst
    obtain ⟨ms, sk⟩ : ∃ q, s.msgs.length = q := ⟨_, rfl⟩
    obtain ⟨ks, sk2⟩ : ∃ q, s.stuck.length = q := ⟨_, rfl⟩
    obtain ⟨q, hq⟩ : ∃ q, x.plants[0] = q := ⟨_, rfl⟩
    obtain ⟨f, hf⟩ : ∃ f, s.feed = f := ⟨_, rfl⟩
    rw [sk] at hz1 hst c1 hM
    rw [sk2] at hz2 hst c2
    rw [hq] at hst p8
    rw [hf] at hst c0
    have HST := Lib.hid hst
    have HM := Lib.hid hM
    have HSK := Lib.hid sk
    have HBAD := Lib.hid hbad
    clear hst hM hK sk sk2 hbad hf hq p0 p1 p2 p3 p4 p5 p6 p7 p9 p10 p11
    have c0 := (hB.cell hg).trans c0
    have c1 := (hB.cell hg).trans c1
    have c2 := (hB.cell hg).trans c2
    have hgz := Nat.lt_of_lt_of_le hg hB.size
    go_upto_region 8 with fail
    have hwo : w.heap.size + 3 < wo.heap.size := XE.lt
    have hb9 := (Below.refl wo.heap.size wo).alloc (Nat.le_refl _) (.cells #[.int .i64 f, .slice a1 ms k1, .slice a2 ks k2] 44)
    have X9 := Box.new wo [.int .i64 f, .slice a1 ms k1, .slice a2 ks k2] 44
    have hB := hB.trans (hb9.mono hB.size)
    have XC := XC.later hb9
    have XS := XS.later hb9
    have XB := XB.later hb9
    have XE := XE.later hb9
    clear hb9 c0 c1 c2 hgz
    generalize wo.alloc (.cells #[.int .i64 f, .slice a1 ms k1, .slice a2 ks k2] 44) = w5 at hB X9 XC XS XB XE ⊢
    generalize wo.heap.size = D9 at X9 hwo ⊢
    have x9z := X9.lt
    have zc := XC.lt
    have X9c0 : w5.cell? ⟨D9, 0, none⟩ = some (.int .i64 f) := X9.cell 0
    have X9c1 : w5.cell? ⟨D9, 1, none⟩ = some (.slice a1 ms k1) := X9.cell 1
    have X9c2 : w5.cell? ⟨D9, 2, none⟩ = some (.slice a2 ks k2) := X9.cell 2
    have xc0 : w5.cell? ⟨w.heap.size, 0, none⟩ = some (.slice (some ⟨bp, op, none⟩) n kp) := XC.cell 0
    have p8 := (hB.cell hbp).trans p8
    have hbpz := Nat.lt_of_lt_of_le hbp hB.size
    simp only [Nat.zero_mul, Nat.add_zero] at p8
    have hdw := (Below.refl w5.heap.size w5).drew
    have v0 : ∀ z : Later w5, z.w.cell? ⟨D9, 0, none⟩ = some (.int .i64 f) := Later.cell X9c0 x9z
    have v1 : ∀ z : Later w5, z.w.cell? ⟨D9, 1, none⟩ = some (.slice a1 ms k1) := Later.cell X9c1 x9z
    have v2 : ∀ z : Later w5, z.w.cell? ⟨D9, 2, none⟩ = some (.slice a2 ks k2) := Later.cell X9c2 x9z
    have v3 : ∀ z : Later w5, z.w.cell? ⟨w.heap.size, 0, none⟩ = some (.slice (some ⟨bp, op, none⟩) n kp) := Later.cell xc0 zc
    have v4 : ∀ z : Later w5, z.w.cell? ⟨bp, op + 8, none⟩ = some (.int .i64 q.feed) := Later.cell p8 hbpz
    by_cases h1 : ms = n
    rotate_left
    · have HF : Hid (l.all x.stepB = false) := Lib.hid (HBAD.out (by rw [HST.out, decide_eq_false h1, Bool.false_and]))
      have hd : ((ms : Int) == (n : Int)) = false := by simp; omega
      refine wp_region_call (C := fun w' => ∃ x : Later w5, w' = x.w) [0, 1, 2, 3, 4, 5, 6, 7, 8, 9, 10, 11, 12, 13, 14, 15, 16, 17, 18, 19, 20, 21, 22, 23, 24, 25, 26] (by kernel_rfl) (by kernel_rfl) (Later.mk' hdw) (fun _ _ h => h) ?_
      simp only [headOps, List.filterMap_cons, List.filterMap_nil, List.getElem?_toArray, List.getElem?_cons_succ, List.getElem?_cons_zero]
      repeat (first | go_big_quiet_skip | (show wpQuiet _ _ _ _ (_ :: _) _; go_big_quiet_skip) | (show wpQuiet _ _ _ _ (_ :: _) _; go_big_quiet_want; go_big_quiet_op; go_big_quiet_on))
      refine wpQuiet_nil ?_
      refine anyF_call (by kernel_rfl) rfl rfl (Later.mk' hdw) ?_ (by kernel_rfl) (by kernel_rfl) ((demand_no (er := 1) (by decide) w5.drew).mono ?_)
      · go_simp
      rintro e w6 ⟨rfl, rfl⟩
      refine .inl ⟨_, rfl, ?_⟩
      have hB := hB.drew
      have XS := XS.drew
      have XB := XB.drew
      have XE := XE.drew
      obtain rfl : r = ([], 0, 1) := hT.out.symm.trans (playT_arg (right_zero hR.out) (by rw [hm.out]; exact hm4) HF.out)
      clear HF
      go_wp2
      refine leaves_cons (f := 37) (args := #[.pointer (some ⟨w.heap.size + 1, 0, none⟩), .pointer (some ⟨w.heap.size + 2, 0, none⟩), .pointer (some ⟨w.heap.size + 3, 0, none⟩)]) (by simp) (by simp [go_sem]) ?_
      refine (pCatch_panicking w.heap.size (w.heap.size + 1) (w.heap.size + 2) (w.heap.size + 3) _ _ _ 1 (by decide) w5.drew XS XB XE (by omega) (by omega) (by omega) (by omega) (by omega) (by omega)).mono ?_
      rintro e u' wz ⟨rfl, rfl, YS, YB, YE, hBz⟩
      have y0 : wz.cell? ⟨w.heap.size + 1, 0, none⟩ = some (.slice none 0 0) := YS.cell 0
      have y1 : wz.cell? ⟨w.heap.size + 2, 0, none⟩ = some (.int .i64 0) := YB.cell 0
      have y2 : wz.cell? ⟨w.heap.size + 3, 0, none⟩ = some (.int .i64 1) := YE.cell 0
      simp [Leaves, settle, results, Try.results15, go_sem, y0, y1, y2]
      exact playPost_err (hB.trans hBz)
    have hd : ((ms : Int) == (n : Int)) = true := by simp [h1]
    have H1 := Lib.hid h1
    clear h1
    by_cases h2 : ks = n
    rotate_left
    · have HF : Hid (l.all x.stepB = false) := Lib.hid (HBAD.out (by rw [HST.out, decide_eq_false h2, Bool.false_and, Bool.and_false]))
      have hd2 : ((ks : Int) == (n : Int)) = false := by simp; omega
      refine wp_region_call (C := fun w' => ∃ x : Later w5, w' = x.w) [0, 1, 2, 3, 4, 5, 6, 7, 8, 9, 10, 11, 12, 13, 14, 15, 16, 17, 18, 19, 20, 21, 22, 23, 24, 25, 26] (by kernel_rfl) (by kernel_rfl) (Later.mk' hdw) (fun _ _ h => h) ?_
      simp only [headOps, List.filterMap_cons, List.filterMap_nil, List.getElem?_toArray, List.getElem?_cons_succ, List.getElem?_cons_zero]
      repeat (first | go_big_quiet_skip | (show wpQuiet _ _ _ _ (_ :: _) _; go_big_quiet_skip) | (show wpQuiet _ _ _ _ (_ :: _) _; go_big_quiet_want; go_big_quiet_op; go_big_quiet_on))
      refine wpQuiet_nil ?_
      refine anyF_call (by kernel_rfl) rfl rfl (Later.mk' hdw) ?_ (by kernel_rfl) (by kernel_rfl) ((demand_no (er := 1) (by decide) w5.drew).mono ?_)
      · go_simp
      rintro e w6 ⟨rfl, rfl⟩
      refine .inl ⟨_, rfl, ?_⟩
      have hB := hB.drew
      have XS := XS.drew
      have XB := XB.drew
      have XE := XE.drew
      obtain rfl : r = ([], 0, 1) := hT.out.symm.trans (playT_arg (right_zero hR.out) (by rw [hm.out]; exact hm4) HF.out)
      clear HF
      go_wp2
      refine leaves_cons (f := 37) (args := #[.pointer (some ⟨w.heap.size + 1, 0, none⟩), .pointer (some ⟨w.heap.size + 2, 0, none⟩), .pointer (some ⟨w.heap.size + 3, 0, none⟩)]) (by simp) (by simp [go_sem]) ?_
      refine (pCatch_panicking w.heap.size (w.heap.size + 1) (w.heap.size + 2) (w.heap.size + 3) _ _ _ 1 (by decide) w5.drew XS XB XE (by omega) (by omega) (by omega) (by omega) (by omega) (by omega)).mono ?_
      rintro e u' wz ⟨rfl, rfl, YS, YB, YE, hBz⟩
      have y0 : wz.cell? ⟨w.heap.size + 1, 0, none⟩ = some (.slice none 0 0) := YS.cell 0
      have y1 : wz.cell? ⟨w.heap.size + 2, 0, none⟩ = some (.int .i64 0) := YB.cell 0
      have y2 : wz.cell? ⟨w.heap.size + 3, 0, none⟩ = some (.int .i64 1) := YE.cell 0
      simp [Leaves, settle, results, Try.results15, go_sem, y0, y1, y2]
      exact playPost_err (hB.trans hBz)
    have hd2 : ((ks : Int) == (n : Int)) = true := by simp [h2]
    have H2 := Lib.hid h2
    clear h2
    by_cases h3 : 0 ≤ f
    rotate_left
    · have HF : Hid (l.all x.stepB = false) := Lib.hid (HBAD.out (by rw [HST.out, inI, decide_eq_false (show ¬ (0 ≤ f ∧ f ≤ q.feed) by omega), Bool.false_and, Bool.and_false, Bool.and_false]))
      have hd3 : decide (0 ≤ f) = false := decide_eq_false (by omega)
      refine wp_region_call (C := fun w' => ∃ x : Later w5, w' = x.w) [0, 1, 2, 3, 4, 5, 6, 7, 8, 9, 10, 11, 12, 13, 14, 15, 16, 17, 18, 19, 20, 21, 22, 23, 24, 25, 26] (by kernel_rfl) (by kernel_rfl) (Later.mk' hdw) (fun _ _ h => h) ?_
      simp only [headOps, List.filterMap_cons, List.filterMap_nil, List.getElem?_toArray, List.getElem?_cons_succ, List.getElem?_cons_zero]
      repeat (first | go_big_quiet_skip | (show wpQuiet _ _ _ _ (_ :: _) _; go_big_quiet_skip) | (show wpQuiet _ _ _ _ (_ :: _) _; go_big_quiet_want; go_big_quiet_op; go_big_quiet_on))
      refine wpQuiet_nil ?_
      refine anyF_call (by kernel_rfl) rfl rfl (Later.mk' hdw) ?_ (by kernel_rfl) (by kernel_rfl) ((demand_no (er := 1) (by decide) w5.drew).mono ?_)
      · go_simp
      rintro e w6 ⟨rfl, rfl⟩
      refine .inl ⟨_, rfl, ?_⟩
      have hB := hB.drew
      have XS := XS.drew
      have XB := XB.drew
      have XE := XE.drew
      obtain rfl : r = ([], 0, 1) := hT.out.symm.trans (playT_arg (right_zero hR.out) (by rw [hm.out]; exact hm4) HF.out)
      clear HF
      go_wp2
      refine leaves_cons (f := 37) (args := #[.pointer (some ⟨w.heap.size + 1, 0, none⟩), .pointer (some ⟨w.heap.size + 2, 0, none⟩), .pointer (some ⟨w.heap.size + 3, 0, none⟩)]) (by simp) (by simp [go_sem]) ?_
      refine (pCatch_panicking w.heap.size (w.heap.size + 1) (w.heap.size + 2) (w.heap.size + 3) _ _ _ 1 (by decide) w5.drew XS XB XE (by omega) (by omega) (by omega) (by omega) (by omega) (by omega)).mono ?_
      rintro e u' wz ⟨rfl, rfl, YS, YB, YE, hBz⟩
      have y0 : wz.cell? ⟨w.heap.size + 1, 0, none⟩ = some (.slice none 0 0) := YS.cell 0
      have y1 : wz.cell? ⟨w.heap.size + 2, 0, none⟩ = some (.int .i64 0) := YB.cell 0
      have y2 : wz.cell? ⟨w.heap.size + 3, 0, none⟩ = some (.int .i64 1) := YE.cell 0
      simp [Leaves, settle, results, Try.results15, go_sem, y0, y1, y2]
      exact playPost_err (hB.trans hBz)
    have hd3 : decide (0 ≤ f) = true := decide_eq_true h3
    by_cases h4 : f ≤ q.feed
    rotate_left
    · have HF : Hid (l.all x.stepB = false) := Lib.hid (HBAD.out (by rw [HST.out, inI, decide_eq_false (show ¬ (0 ≤ f ∧ f ≤ q.feed) by omega), Bool.false_and, Bool.and_false, Bool.and_false]))
      have hd4 : decide (f ≤ q.feed) = false := decide_eq_false (by omega)
      refine wp_region_call (C := fun w' => ∃ x : Later w5, w' = x.w) [0, 1, 2, 3, 4, 5, 6, 7, 8, 9, 10, 11, 12, 13, 14, 15, 16, 17, 18, 19, 20, 21, 22, 23, 24, 25, 26] (by kernel_rfl) (by kernel_rfl) (Later.mk' hdw) (fun _ _ h => h) ?_
      simp only [headOps, List.filterMap_cons, List.filterMap_nil, List.getElem?_toArray, List.getElem?_cons_succ, List.getElem?_cons_zero]
      repeat (first | go_big_quiet_skip | (show wpQuiet _ _ _ _ (_ :: _) _; go_big_quiet_skip) | (show wpQuiet _ _ _ _ (_ :: _) _; go_big_quiet_want; go_big_quiet_op; go_big_quiet_on))
      refine wpQuiet_nil ?_
      refine anyF_call (by kernel_rfl) rfl rfl (Later.mk' hdw) ?_ (by kernel_rfl) (by kernel_rfl) ((demand_no (er := 1) (by decide) w5.drew).mono ?_)
      · go_simp
      rintro e w6 ⟨rfl, rfl⟩
      refine .inl ⟨_, rfl, ?_⟩
      have hB := hB.drew
      have XS := XS.drew
      have XB := XB.drew
      have XE := XE.drew
      obtain rfl : r = ([], 0, 1) := hT.out.symm.trans (playT_arg (right_zero hR.out) (by rw [hm.out]; exact hm4) HF.out)
      clear HF
      go_wp2
      refine leaves_cons (f := 37) (args := #[.pointer (some ⟨w.heap.size + 1, 0, none⟩), .pointer (some ⟨w.heap.size + 2, 0, none⟩), .pointer (some ⟨w.heap.size + 3, 0, none⟩)]) (by simp) (by simp [go_sem]) ?_
      refine (pCatch_panicking w.heap.size (w.heap.size + 1) (w.heap.size + 2) (w.heap.size + 3) _ _ _ 1 (by decide) w5.drew XS XB XE (by omega) (by omega) (by omega) (by omega) (by omega) (by omega)).mono ?_
      rintro e u' wz ⟨rfl, rfl, YS, YB, YE, hBz⟩
      have y0 : wz.cell? ⟨w.heap.size + 1, 0, none⟩ = some (.slice none 0 0) := YS.cell 0
      have y1 : wz.cell? ⟨w.heap.size + 2, 0, none⟩ = some (.int .i64 0) := YB.cell 0
      have y2 : wz.cell? ⟨w.heap.size + 3, 0, none⟩ = some (.int .i64 1) := YE.cell 0
      simp [Leaves, settle, results, Try.results15, go_sem, y0, y1, y2]
      exact playPost_err (hB.trans hBz)
    have hd4 : decide (f ≤ q.feed) = true := decide_eq_true h4
    have hTA : Hid (x.stepB s = (List.range n).all (x.msgB s)) := by
      rw [Hid, HST.out, inI, decide_eq_true (show 0 ≤ f ∧ f ≤ q.feed from ⟨h3, h4⟩), decide_eq_true H1.out, decide_eq_true H2.out]
      rfl
    refine wp_region_call (C := fun w' => ∃ x : Later w5, w' = x.w) [0, 1, 2, 3, 4, 5, 6, 7, 8, 9, 10, 11, 12, 13, 14, 15, 16, 17, 18, 19, 20, 21, 22, 23, 24, 25, 26] (by kernel_rfl) (by kernel_rfl) (Later.mk' hdw) (fun _ _ h => h) ?_
    simp only [headOps, List.filterMap_cons, List.filterMap_nil, List.getElem?_toArray, List.getElem?_cons_succ, List.getElem?_cons_zero]
    repeat (first | go_big_quiet_skip | (show wpQuiet _ _ _ _ (_ :: _) _; go_big_quiet_skip) | (show wpQuiet _ _ _ _ (_ :: _) _; go_big_quiet_want; go_big_quiet_op; go_big_quiet_on))
    refine wpQuiet_nil ?_
    refine anyF_call (by kernel_rfl) rfl rfl (Later.mk' hdw) ?_ (by kernel_rfl) (by kernel_rfl) ((demand_ok 1 w5.drew).mono ?_)
    · go_simp
    rintro e w6 ⟨rfl, rfl⟩
    refine .inr ⟨_, rfl, ?_⟩
    simp only [Act.put, List.setIfInBounds_toArray, List.set_cons_zero, List.set_cons_succ]
    clear v0 v1 v2 v3 v4 hdw
    go_wp2_with (fail)
    clear hd hd2 hd3 hd4 h3 h4 p8 hbpz X9c0 X9c1 X9c2 xc0 zc x9z
    have hB := hB.drew
    have XC := XC.drew
    have XS := XS.drew
    have XB := XB.drew
    have XE := XE.drew
    have X9 := X9.drew
    generalize w5.drew = w6 at hB XC XS XB XE X9 ⊢
    go_loopw [66] (fun i wr => ∃ j : Nat, j ≤ n ∧ i = .int .i64 j ∧ Below w.heap.size w wr ∧ Box wr w.heap.size [.slice (some ⟨bp, op, none⟩) n kp, .slice Ac n kc, .slice Ab n kb] ∧ Box wr (w.heap.size + 1) [.slice none 0 0] ∧ Box wr (w.heap.size + 2) [.int .i64 0] ∧ Box wr (w.heap.size + 3) [.int .i64 0] ∧ Box wr D9 [.int .i64 f, .slice a1 ms k1, .slice a2 ks k2] ∧ Hid (∀ i, i < j → x.msgB s i = true)) (fun i _ => n - (intOf i).toNat)
    case atStart => exact ⟨0, by omega, rfl, hB, XC, XS, XB, XE, X9, Lib.hid (fun i hi => by omega)⟩
    case round =>
      clear hB XC XS XB XE X9
      obtain ⟨j, hj, rfl, hB, XC, XS, XB, XE, X9, hmsg⟩ := hrel
      obtain ⟨wi, rfl⟩ : ∃ wi : World, wi = wr := ⟨_, rfl⟩
      rcases Nat.lt_or_ge j n with hlj | hgj
      rotate_left
      · obtain rfl : j = n := by omega
        have hmse := H1.out
        have hlm2 : ¬ ((j : Int) < (ms : Int)) := by omega
        have hsb : Hid (x.stepB s = true) := Lib.hid (by rw [hTA.out, List.all_eq_true]; exact fun i hi => hmsg.out i (List.mem_range.1 hi))
        clear hmse
        go_wp2
        refine ⟨⟨k + 1, by omega, by go_num, hB, XC, XS, XB, XE, Lib.hid (fun i hi hik => ?_)⟩, by simp [intOf]; omega⟩
        rcases Nat.lt_or_ge i k with h | h
        · exact hall.out i hi h
        · obtain rfl : i = k := by omega
          rw [HS.out]
          exact hsb.out
      have hlm2 : (j : Int) < (ms : Int) := by have := H1.out; omega
      have hlm3 : (j : Int) < (n : Int) := by omega
      have hjp : j < x.plants.length := by rw [hR.out.plants]; exact hlj
      have hjm : j < s.msgs.length := by rw [HSK.out, H1.out]; exact hlj
      obtain ⟨bp', op', e1, hbp', p0, p1, p2, p3, p4, p5, p6, p7, p8, p9, p10, p11⟩ := hx.out.plants.cells12 hjp
      cases e1
      clear hbp'
      obtain ⟨bm, om, rfl, hbm, m0⟩ := HM.out.at hjm
      have hmb : x.msgB s j = inI s.msgs[j] (-1) (x.plants[j]).orders := by rw [Cs.msgB, getD_at hjp, getD_at hjm]
      obtain ⟨p, hp⟩ : ∃ p, x.plants[j] = p := ⟨_, rfl⟩
      obtain ⟨ml, hml⟩ : ∃ m, s.msgs[j] = m := ⟨_, rfl⟩
      rw [hp] at p10 hmb
      rw [hml] at m0 hmb
      have HMB := Lib.hid hmb
      clear hp hml hmb p0 p1 p2 p3 p4 p5 p6 p7 p8 p9 p11
      have p10 := (hB.cell hbp).trans p10
      have m0 := (hB.cell hbm).trans m0
      have hbpz := Nat.lt_of_lt_of_le hbp hB.size
      have hbmz := Nat.lt_of_lt_of_le hbm hB.size
      have zc := XC.lt
      have xc0 : wi.cell? ⟨w.heap.size, 0, none⟩ = some (.slice (some ⟨bp, op, none⟩) n kp) := XC.cell 0
      go_upto_region 12 with fail
      by_cases h5 : -1 ≤ ml
      rotate_left
      · have HF : Hid (l.all x.stepB = false) := Lib.hid (HBAD.out (by rw [hTA.out, List.all_eq_false]; exact ⟨j, List.mem_range.2 hlj, by rw [HMB.out, inI, decide_eq_false (by omega)]; decide⟩))
        have hd : decide (-1 ≤ ml) = false := decide_eq_false (by omega)
        go_wp2_with fail
        refine (demand_no (er := 1) (by decide) _).mono ?_
        rintro e w6 ⟨rfl, rfl⟩
        obtain rfl : r = ([], 0, 1) := hT.out.symm.trans (playT_arg (right_zero hR.out) (by rw [hm.out]; exact hm4) HF.out)
        clear HF
        go_wp2
        refine leaves_cons (f := 37) (args := #[.pointer (some ⟨w.heap.size + 1, 0, none⟩), .pointer (some ⟨w.heap.size + 2, 0, none⟩), .pointer (some ⟨w.heap.size + 3, 0, none⟩)]) (by simp) (by simp [go_sem]) ?_
        refine (pCatch_panicking w.heap.size (w.heap.size + 1) (w.heap.size + 2) (w.heap.size + 3) _ _ _ 1 (by decide) wi XS XB XE (by omega) (by omega) (by omega) (by omega) (by omega) (by omega)).mono ?_
        rintro e u' wz ⟨rfl, rfl, YS, YB, YE, hBz⟩
        have y0 : wz.cell? ⟨w.heap.size + 1, 0, none⟩ = some (.slice none 0 0) := YS.cell 0
        have y1 : wz.cell? ⟨w.heap.size + 2, 0, none⟩ = some (.int .i64 0) := YB.cell 0
        have y2 : wz.cell? ⟨w.heap.size + 3, 0, none⟩ = some (.int .i64 1) := YE.cell 0
        simp [Leaves, settle, results, Try.results15, go_sem, y0, y1, y2]
        exact playPost_err (hB.trans hBz)
      have hd : decide (-1 ≤ ml) = true := decide_eq_true h5
      by_cases h6 : ml ≤ p.orders
      rotate_left
      · have HF : Hid (l.all x.stepB = false) := Lib.hid (HBAD.out (by rw [hTA.out, List.all_eq_false]; exact ⟨j, List.mem_range.2 hlj, by rw [HMB.out, inI, decide_eq_false (by omega)]; decide⟩))
        have hd6 : decide (ml ≤ p.orders) = false := decide_eq_false (by omega)
        go_wp2_with fail
        refine (demand_no (er := 1) (by decide) _).mono ?_
        rintro e w6 ⟨rfl, rfl⟩
        obtain rfl : r = ([], 0, 1) := hT.out.symm.trans (playT_arg (right_zero hR.out) (by rw [hm.out]; exact hm4) HF.out)
        clear HF
        go_wp2
        refine leaves_cons (f := 37) (args := #[.pointer (some ⟨w.heap.size + 1, 0, none⟩), .pointer (some ⟨w.heap.size + 2, 0, none⟩), .pointer (some ⟨w.heap.size + 3, 0, none⟩)]) (by simp) (by simp [go_sem]) ?_
        refine (pCatch_panicking w.heap.size (w.heap.size + 1) (w.heap.size + 2) (w.heap.size + 3) _ _ _ 1 (by decide) wi XS XB XE (by omega) (by omega) (by omega) (by omega) (by omega) (by omega)).mono ?_
        rintro e u' wz ⟨rfl, rfl, YS, YB, YE, hBz⟩
        have y0 : wz.cell? ⟨w.heap.size + 1, 0, none⟩ = some (.slice none 0 0) := YS.cell 0
        have y1 : wz.cell? ⟨w.heap.size + 2, 0, none⟩ = some (.int .i64 0) := YB.cell 0
        have y2 : wz.cell? ⟨w.heap.size + 3, 0, none⟩ = some (.int .i64 1) := YE.cell 0
        simp [Leaves, settle, results, Try.results15, go_sem, y0, y1, y2]
        exact playPost_err (hB.trans hBz)
      have hd6 : decide (ml ≤ p.orders) = true := decide_eq_true h6
      have hmsg2 : Hid (∀ i, i < j + 1 → x.msgB s i = true) := Lib.hid (fun i hi => by
        rcases Nat.lt_or_ge i j with h | h
        · exact hmsg.out i h
        · obtain rfl : i = j := by omega
          rw [HMB.out, inI, decide_eq_true ⟨h5, h6⟩])
      go_wp2_with fail
      refine (demand_ok 1 _).mono ?_
      rintro e w6 ⟨rfl, rfl⟩
      go_wp2
      exact ⟨⟨j + 1, by omega, by go_num, hB, XC, XS, XB, XE, X9, hmsg2⟩, by simp [intOf]; omega⟩
theorem mPlay_is {x : Cs} {l : List Sp} {Vp Vc Vb Vl : Value} {w : World} {r : List St × Int × Int} (hT : Hid (x.playT l = r)) (hx : CsAt w w.heap.size Vp Vc Vb x) (hl : StepsAt w w.heap.size Vl l) : Calls Try.prog 15 #[.agg #[Vp, Vc, Vb], Vl] w (PlayPost r w) := by
  by_cases h0 : x.checkT = 0
  · have hR := cs_right h0
    obtain ⟨Ap, kp, rfl, -⟩ := hx.plants.form
    obtain ⟨Ac, kc, rfl, -⟩ := hx.codes.form
    obtain ⟨Ab, kb, rfl, -⟩ := hx.bars.form
    obtain ⟨Al, kl, rfl, hm⟩ := hl.form
    rw [hR.codes, hR.bars] at hx ⊢
    by_cases h1 : l.length ≤ 4096
    · exact mPlay_main x l Ap Ac Ab Al _ _ kp kc kb kl w (Lib.hid hR) (Lib.hid hx) (Lib.hid hl) (Lib.hid rfl) h1 r hT
    · have hr : r = ([], 0, 2) := by rw [← hT.out, Cs.playT, if_pos h0, if_neg h1]
      subst hr
      unfold maxLen at hm
      exact mPlay_long x Ap Ac Ab Al _ _ kp kc kb kl w (Lib.hid hR) (Lib.hid hx) (by omega) (by omega)
  · have hr : r = ([], 0, x.checkT) := by rw [← hT.out, Cs.playT, if_neg h0]
    subst hr
    exact mPlay_bad x Vp Vc Vb Vl w x.checkT (Lib.hid rfl) h0 (Lib.hid hx)
end Go.Proofs.Ytcjcjkomcolgeaa
