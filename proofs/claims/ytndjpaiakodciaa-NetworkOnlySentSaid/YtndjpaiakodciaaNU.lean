/-
  Contract of Cut of the reference. (Printed by gen_nu.py.)
-/
import Derived.Test.YtndjpaiakodciaaNS
namespace Go.Proofs.Ytndjpaiakodciaa
open Go.RowKit
attribute [local go_sem ↓ high] app_named

theorem beqI (a b : Int) : (a == b) = decide (a = b) := by rw [Bool.eq_iff_iff]; simp
theorem OwnLk.later {w w' : World} {base : Nat} {v : Value} {l : List (Int × Int)} (h : OwnLk w base v l) (hb : Below w.heap.size w w') : OwnLk w' base v l :=
  World.ownsRow.kept h (grown_none hb) (Classical.em _)
theorem link_of_sites {a b : Int} : linkB (min a b) (max a b) = (siteB a && (siteB b && decide (a ≠ b))) := by
  rw [Bool.eq_iff_iff]
  simp only [linkB, siteB, Bool.and_eq_true, decide_eq_true_eq]
  omega
theorem cut_order {l : List (Int × Int)} {a b : Nat} (h : a < b) : cutB l (a : Int) (b : Int) = hasB l a b := by
  rw [cutB_has, show min (a : Int) (b : Int) = a by omega, show max (a : Int) (b : Int) = b by omega]

set_option maxRecDepth 100000 in
set_option maxHeartbeats 4000000 in
theorem nRCut_1 (n : Net) (Aq : Option Addr) (nq cq : Nat) (Aa : Option Addr) (na ca : Nat) (p q : Int) (on : Bool) (w : World) (D : Nat) (hDw : D ≤ w.heap.size) (hN : Hid (NetAt w D (.slice Aq nq cq) (.slice Aa na ca) n)) (h : Hid (n.checkT = 60)) (hs : Hid (cutT n p q on = (Net.zero, 60))) :
    Calls Try.prog 21 #[.agg #[.slice Aq nq cq, .slice Aa na ca], .int .i64 p, .int .i64 q, .bool on] w (RetNet (cutT n p q on) D w) := by
  have HB0 := ((Below.refl w.heap.size w).alloc (Nat.le_refl _) (.cells #[.slice Aq nq cq, .slice Aa na ca] 25)).alloc (by simp) (.cells #[.slice none 0 0, .slice none 0 0] 25)
  have HNB := Lib.hid (((hN.out.more hDw).below HB0).more HB0.size)
  go_enter Try.func21, Try.ntmps21
  go_wp2_with fail
  refine (nRCheck_at h HNB.out).mono ?_
  rintro e w1 ⟨rfl, hb⟩
  have X := ((Box.new w [.slice Aq nq cq, .slice Aa na ca] 25).alloc (.cells #[.slice none 0 0, .slice none 0 0] 25)).later hb
  have R := (Box.newAt (w := w.alloc (.cells #[.slice Aq nq cq, .slice Aa na ca] 25)) (n := w.heap.size + 1) [.slice none 0 0, .slice none 0 0] 25 (by simp)).later hb
  have hB := HB0.trans (hb.mono HB0.size)
  clear hb HB0 HNB
  have f0 := R.free 0
  have f1 := R.free 1
  have r0 : w1.cell? ⟨w.heap.size + 1, 0, none⟩ = some (.slice none 0 0) := R.cell 0
  have r1 : w1.cell? ⟨w.heap.size + 1, 1, none⟩ = some (.slice none 0 0) := R.cell 1
  have rz := R.lt
  go_wp2
  have Y := (R.set 0 (.slice none 0 0)).set 1 (.slice none 0 0)
  have hB := (hB.setCell (p := ⟨w.heap.size + 1, 0, none⟩) (by simp) (.slice none 0 0)).setCell (p := ⟨w.heap.size + 1, 1, none⟩) (by simp) (.slice none 0 0)
  generalize (w1.setCell ⟨w.heap.size + 1, 0, none⟩ (.slice none 0 0)).setCell ⟨w.heap.size + 1, 1, none⟩ (.slice none 0 0) = W at Y hB ⊢
  have y0 : W.cell? ⟨w.heap.size + 1, 0, none⟩ = some (.slice none 0 0) := Y.cell 0
  have y1 : W.cell? ⟨w.heap.size + 1, 1, none⟩ = some (.slice none 0 0) := Y.cell 1
  refine bodyPost_ret (v := .tuple #[.agg #[.slice none 0 0, .slice none 0 0], .int .i64 60]) (by simp [results, Try.results21, go_sem, y0, y1]) rfl ?_
  exact ⟨_, _, Net.zero, 60, rfl, hs, net2_zero _ _ _, hB⟩

set_option maxRecDepth 100000 in
set_option maxHeartbeats 4000000 in
theorem nRCut_2 (n : Net) (Aq : Option Addr) (nq cq : Nat) (Aa : Option Addr) (na ca : Nat) (p q : Int) (on : Bool) (w : World) (D : Nat) (hDw : D ≤ w.heap.size) (hN : Hid (NetAt w D (.slice Aq nq cq) (.slice Aa na ca) n)) (h : Hid (n.checkT = 0)) (ha : Hid (siteB p = false)) (hs : Hid (cutT n p q on = (Net.zero, 1))) :
    Calls Try.prog 21 #[.agg #[.slice Aq nq cq, .slice Aa na ca], .int .i64 p, .int .i64 q, .bool on] w (RetNet (cutT n p q on) D w) := by
  have HB0 := ((Below.refl w.heap.size w).alloc (Nat.le_refl _) (.cells #[.slice Aq nq cq, .slice Aa na ca] 25)).alloc (by simp) (.cells #[.slice none 0 0, .slice none 0 0] 25)
  have HNB := Lib.hid (((hN.out.more hDw).below HB0).more HB0.size)
  go_enter Try.func21, Try.ntmps21
  go_wp2_with fail
  refine (nRCheck_at h HNB.out).mono ?_
  rintro e w1 ⟨rfl, hb⟩
  have X := ((Box.new w [.slice Aq nq cq, .slice Aa na ca] 25).alloc (.cells #[.slice none 0 0, .slice none 0 0] 25)).later hb
  have R := (Box.newAt (w := w.alloc (.cells #[.slice Aq nq cq, .slice Aa na ca] 25)) (n := w.heap.size + 1) [.slice none 0 0, .slice none 0 0] 25 (by simp)).later hb
  have hB := HB0.trans (hb.mono HB0.size)
  clear hb HB0 HNB
  go_wp2_with fail
  refine (nSite_at ha _).mono ?_
  rintro e w' ⟨rfl, rfl⟩
  have f0 := R.free 0
  have f1 := R.free 1
  have r0 : w1.cell? ⟨w.heap.size + 1, 0, none⟩ = some (.slice none 0 0) := R.cell 0
  have r1 : w1.cell? ⟨w.heap.size + 1, 1, none⟩ = some (.slice none 0 0) := R.cell 1
  have rz := R.lt
  go_wp2
  have Y := (R.set 0 (.slice none 0 0)).set 1 (.slice none 0 0)
  have hB := (hB.setCell (p := ⟨w.heap.size + 1, 0, none⟩) (by simp) (.slice none 0 0)).setCell (p := ⟨w.heap.size + 1, 1, none⟩) (by simp) (.slice none 0 0)
  generalize (w1.setCell ⟨w.heap.size + 1, 0, none⟩ (.slice none 0 0)).setCell ⟨w.heap.size + 1, 1, none⟩ (.slice none 0 0) = W at Y hB ⊢
  have y0 : W.cell? ⟨w.heap.size + 1, 0, none⟩ = some (.slice none 0 0) := Y.cell 0
  have y1 : W.cell? ⟨w.heap.size + 1, 1, none⟩ = some (.slice none 0 0) := Y.cell 1
  refine bodyPost_ret (v := .tuple #[.agg #[.slice none 0 0, .slice none 0 0], .int .i64 1]) (by simp [results, Try.results21, go_sem, y0, y1]) rfl ?_
  exact ⟨_, _, Net.zero, 1, rfl, hs, net2_zero _ _ _, hB⟩

set_option maxRecDepth 100000 in
set_option maxHeartbeats 4000000 in
theorem nRCut_3 (n : Net) (Aq : Option Addr) (nq cq : Nat) (Aa : Option Addr) (na ca : Nat) (p q : Int) (on : Bool) (w : World) (D : Nat) (hDw : D ≤ w.heap.size) (hN : Hid (NetAt w D (.slice Aq nq cq) (.slice Aa na ca) n)) (h : Hid (n.checkT = 0)) (ha : Hid (siteB p = true)) (hb : Hid (siteB q = false)) (hs : Hid (cutT n p q on = (Net.zero, 1))) :
    Calls Try.prog 21 #[.agg #[.slice Aq nq cq, .slice Aa na ca], .int .i64 p, .int .i64 q, .bool on] w (RetNet (cutT n p q on) D w) := by
  have HB0 := ((Below.refl w.heap.size w).alloc (Nat.le_refl _) (.cells #[.slice Aq nq cq, .slice Aa na ca] 25)).alloc (by simp) (.cells #[.slice none 0 0, .slice none 0 0] 25)
  have HNB := Lib.hid (((hN.out.more hDw).below HB0).more HB0.size)
  go_enter Try.func21, Try.ntmps21
  go_wp2_with fail
  refine (nRCheck_at h HNB.out).mono ?_
  rintro e w1 ⟨rfl, hb1⟩
  have X := ((Box.new w [.slice Aq nq cq, .slice Aa na ca] 25).alloc (.cells #[.slice none 0 0, .slice none 0 0] 25)).later hb1
  have R := (Box.newAt (w := w.alloc (.cells #[.slice Aq nq cq, .slice Aa na ca] 25)) (n := w.heap.size + 1) [.slice none 0 0, .slice none 0 0] 25 (by simp)).later hb1
  have hB := HB0.trans (hb1.mono HB0.size)
  clear hb1 HB0 HNB
  go_wp2_with fail
  refine (nSite_at ha _).mono ?_
  rintro e w' ⟨rfl, rfl⟩
  go_wp2_with fail
  refine (nSite_at hb _).mono ?_
  rintro e w' ⟨rfl, rfl⟩
  have f0 := R.free 0
  have f1 := R.free 1
  have r0 : w1.cell? ⟨w.heap.size + 1, 0, none⟩ = some (.slice none 0 0) := R.cell 0
  have r1 : w1.cell? ⟨w.heap.size + 1, 1, none⟩ = some (.slice none 0 0) := R.cell 1
  have rz := R.lt
  go_wp2
  have Y := (R.set 0 (.slice none 0 0)).set 1 (.slice none 0 0)
  have hB := (hB.setCell (p := ⟨w.heap.size + 1, 0, none⟩) (by simp) (.slice none 0 0)).setCell (p := ⟨w.heap.size + 1, 1, none⟩) (by simp) (.slice none 0 0)
  generalize (w1.setCell ⟨w.heap.size + 1, 0, none⟩ (.slice none 0 0)).setCell ⟨w.heap.size + 1, 1, none⟩ (.slice none 0 0) = W at Y hB ⊢
  have y0 : W.cell? ⟨w.heap.size + 1, 0, none⟩ = some (.slice none 0 0) := Y.cell 0
  have y1 : W.cell? ⟨w.heap.size + 1, 1, none⟩ = some (.slice none 0 0) := Y.cell 1
  refine bodyPost_ret (v := .tuple #[.agg #[.slice none 0 0, .slice none 0 0], .int .i64 1]) (by simp [results, Try.results21, go_sem, y0, y1]) rfl ?_
  exact ⟨_, _, Net.zero, 1, rfl, hs, net2_zero _ _ _, hB⟩

set_option maxRecDepth 100000 in
set_option maxHeartbeats 4000000 in
theorem nRCut_4 (n : Net) (Aq : Option Addr) (nq cq : Nat) (Aa : Option Addr) (na ca : Nat) (p q : Int) (on : Bool) (w : World) (D : Nat) (hDw : D ≤ w.heap.size) (hN : Hid (NetAt w D (.slice Aq nq cq) (.slice Aa na ca) n)) (h : Hid (n.checkT = 0)) (ha : Hid (siteB p = true)) (hb : Hid (siteB q = true)) (hpq : Hid ((p == q) = true)) (hs : Hid (cutT n p q on = (Net.zero, 1))) :
    Calls Try.prog 21 #[.agg #[.slice Aq nq cq, .slice Aa na ca], .int .i64 p, .int .i64 q, .bool on] w (RetNet (cutT n p q on) D w) := by
  have HB0 := ((Below.refl w.heap.size w).alloc (Nat.le_refl _) (.cells #[.slice Aq nq cq, .slice Aa na ca] 25)).alloc (by simp) (.cells #[.slice none 0 0, .slice none 0 0] 25)
  have HNB := Lib.hid (((hN.out.more hDw).below HB0).more HB0.size)
  go_enter Try.func21, Try.ntmps21
  go_wp2_with fail
  refine (nRCheck_at h HNB.out).mono ?_
  rintro e w1 ⟨rfl, hb1⟩
  have X := ((Box.new w [.slice Aq nq cq, .slice Aa na ca] 25).alloc (.cells #[.slice none 0 0, .slice none 0 0] 25)).later hb1
  have R := (Box.newAt (w := w.alloc (.cells #[.slice Aq nq cq, .slice Aa na ca] 25)) (n := w.heap.size + 1) [.slice none 0 0, .slice none 0 0] 25 (by simp)).later hb1
  have hB := HB0.trans (hb1.mono HB0.size)
  clear hb1 HB0 HNB
  go_wp2_with fail
  refine (nSite_at ha _).mono ?_
  rintro e w' ⟨rfl, rfl⟩
  go_wp2_with fail
  refine (nSite_at hb _).mono ?_
  rintro e w' ⟨rfl, rfl⟩
  have hpq := hpq.out
  have f0 := R.free 0
  have f1 := R.free 1
  have r0 : w1.cell? ⟨w.heap.size + 1, 0, none⟩ = some (.slice none 0 0) := R.cell 0
  have r1 : w1.cell? ⟨w.heap.size + 1, 1, none⟩ = some (.slice none 0 0) := R.cell 1
  have rz := R.lt
  go_wp2
  have Y := (R.set 0 (.slice none 0 0)).set 1 (.slice none 0 0)
  have hB := (hB.setCell (p := ⟨w.heap.size + 1, 0, none⟩) (by simp) (.slice none 0 0)).setCell (p := ⟨w.heap.size + 1, 1, none⟩) (by simp) (.slice none 0 0)
  generalize (w1.setCell ⟨w.heap.size + 1, 0, none⟩ (.slice none 0 0)).setCell ⟨w.heap.size + 1, 1, none⟩ (.slice none 0 0) = W at Y hB ⊢
  have y0 : W.cell? ⟨w.heap.size + 1, 0, none⟩ = some (.slice none 0 0) := Y.cell 0
  have y1 : W.cell? ⟨w.heap.size + 1, 1, none⟩ = some (.slice none 0 0) := Y.cell 1
  refine bodyPost_ret (v := .tuple #[.agg #[.slice none 0 0, .slice none 0 0], .int .i64 1]) (by simp [results, Try.results21, go_sem, y0, y1]) rfl ?_
  exact ⟨_, _, Net.zero, 1, rfl, hs, net2_zero _ _ _, hB⟩

set_option maxRecDepth 100000 in
set_option maxHeartbeats 4000000 in
theorem nRCut_5 (n : Net) (Aq : Option Addr) (nq cq : Nat) (Aa : Option Addr) (na ca : Nat) (p q : Int) (on : Bool) (w : World) (D : Nat) (hDw : D ≤ w.heap.size) (hN : Hid (NetAt w D (.slice Aq nq cq) (.slice Aa na ca) n)) (h : Hid (n.checkT = 0)) (ha : Hid (siteB p = true)) (hb : Hid (siteB q = true)) (hpq : Hid ((p == q) = false)) (f : Int × Int → Bool) (hf : Hid (keptC n.apart (min p q) (max p q) on = f)) (hs : Hid (cutT n p q on = (⟨n.queue, allLinks.filter f⟩, 0))) :
    Calls Try.prog 21 #[.agg #[.slice Aq nq cq, .slice Aa na ca], .int .i64 p, .int .i64 q, .bool on] w (RetNet (cutT n p q on) D w) := by
  have HB0 := ((Below.refl w.heap.size w).alloc (Nat.le_refl _) (.cells #[.slice Aq nq cq, .slice Aa na ca] 25)).alloc (by simp) (.cells #[.slice none 0 0, .slice none 0 0] 25)
  have HNB := Lib.hid (((hN.out.more hDw).below HB0).more HB0.size)
  go_enter Try.func21, Try.ntmps21
  go_wp2_with fail
  refine (nRCheck_at h HNB.out).mono ?_
  rintro e w1 ⟨rfl, hb1⟩
  have X := ((Box.new w [.slice Aq nq cq, .slice Aa na ca] 25).alloc (.cells #[.slice none 0 0, .slice none 0 0] 25)).later hb1
  have R := (Box.newAt (w := w.alloc (.cells #[.slice Aq nq cq, .slice Aa na ca] 25)) (n := w.heap.size + 1) [.slice none 0 0, .slice none 0 0] 25 (by simp)).later hb1
  have hB := HB0.trans (hb1.mono HB0.size)
  clear hb1 HB0 HNB
  go_wp2_with fail
  refine (nSite_at ha _).mono ?_
  rintro e w' ⟨rfl, rfl⟩
  go_wp2_with fail
  refine (nSite_at hb _).mono ?_
  rintro e w' ⟨rfl, rfl⟩
  have hpq1 := hpq.out
  have hrz := R.lt
  go_wp2_with fail
  clear hpq1
  have hO : OwnLk w1 w1.heap.size (.slice none 0 0) [] := ownLk_nil _ _
  go_loopw [10, 11] (fun v i wr => ∃ (a : Nat) (pre : List (Int × Int)), a ≤ 24 ∧ i = .int .i64 a ∧ OwnLk wr w1.heap.size v pre ∧ Below w.heap.size w wr ∧ Box wr w.heap.size [.slice Aq nq cq, .slice Aa na ca] ∧ Box wr (w.heap.size + 1) [.slice none 0 0, .slice none 0 0] ∧ w1.heap.size ≤ wr.heap.size ∧ Hid (pre = (linksTo a 0).filter f)) (fun _ i _ => 24 - (intOf i).toNat)
  case atStart => exact ⟨0, [], by omega, rfl, hO, hB, X, R, Nat.le_refl _, Lib.hid rfl⟩
  case round =>
    clear hO hB X R
    obtain ⟨a, pre, hal, rfl, ho, hB, X, R, hle, hpre⟩ := hrel
    obtain ⟨wo, rfl⟩ : ∃ wo : World, wo = wr := ⟨_, rfl⟩
    obtain ⟨Ao, ko, co, rfl⟩ := owns_form ho
    by_cases hlt : a < 24
    · have hd1 : decide ((a : Int) < 24) = true := by simp; omega
      go_wp2_with fail
      clear hd1
      go_loopw [10, 12] (fun v i wr => ∃ (b : Nat) (pre : List (Int × Int)), a + 1 ≤ b ∧ b ≤ 24 ∧ i = .int .i64 b ∧ OwnLk wr w1.heap.size v pre ∧ Below w.heap.size w wr ∧ Box wr w.heap.size [.slice Aq nq cq, .slice Aa na ca] ∧ Box wr (w.heap.size + 1) [.slice none 0 0, .slice none 0 0] ∧ w1.heap.size ≤ wr.heap.size ∧ Hid (pre = (linksTo a (b - (a + 1))).filter f)) (fun _ i _ => 24 - (intOf i).toNat)
      case atStart => exact ⟨a + 1, pre, by omega, by omega, by go_num, ho, hB, X, R, hle, by rw [Nat.sub_self]; exact hpre⟩
      case round =>
        clear ho hB X R hle hpre
        obtain ⟨b, pre, hab, hb24, rfl, ho, hB, X, R, hle, hpre⟩ := hrel
        obtain ⟨Ao, ko, co, rfl⟩ := owns_form ho
        by_cases hlt2 : b < 24
        · have hd2 : decide ((b : Int) < 24) = true := by simp; omega
          have hks := kept_succ a (b - (a + 1)) f
          rw [show a + 1 + (b - (a + 1)) = b by omega, show b - (a + 1) + 1 = b + 1 - (a + 1) by omega] at hks
          have hKS := Lib.hid hks
          clear hks
          have hfx : f ((a : Int), (b : Int)) = if (a : Int) = min p q ∧ (b : Int) = max p q then on else hasB n.apart a b := by rw [← hf.out]; rfl
          have x0 : wr.cell? ⟨w.heap.size, 0, none⟩ = some (.slice Aq nq cq) := X.cell 0
          have x1 : wr.cell? ⟨w.heap.size, 1, none⟩ = some (.slice Aa na ca) := X.cell 1
          obtain ⟨t, ht⟩ : ∃ t, hasB n.apart a b = t := ⟨_, rfl⟩
          have HT : Hid (cutB n.apart (a : Int) (b : Int) = t) := Lib.hid ((cut_order (by omega)).trans ht)
          rw [ht] at hfx
          clear ht
          have HN1 := Lib.hid (hN.out.below (hB.mono hDw))
          have HD1 := Lib.hid (Nat.le_trans hDw hB.size)
          obtain ⟨t1, ht1⟩ : ∃ t1, decide ((a : Int) = min p q) = t1 := ⟨_, rfl⟩
          obtain ⟨t2, ht2⟩ : ∃ t2, decide ((b : Int) = max p q) = t2 := ⟨_, rfl⟩
          have u1 : ((a : Int) == min p q) = t1 := by rw [← ht1]; exact beqI _ _
          have u2 : ((b : Int) == max p q) = t2 := by rw [← ht2]; exact beqI _ _
          have hfx2 : f ((a : Int), (b : Int)) = if (t1 && t2) = true then on else t := by
            rw [hfx, ← ht1, ← ht2]
            by_cases h : (a : Int) = min p q ∧ (b : Int) = max p q
            · rw [if_pos h, if_pos (by rw [decide_eq_true h.1, decide_eq_true h.2]; rfl)]
            · rw [if_neg h, if_neg (by rw [Bool.and_eq_true, decide_eq_true_eq, decide_eq_true_eq]; exact h)]
          have hFX := Lib.hid hfx2
          clear hfx hfx2 ht1 ht2
          have hU := Lib.hid (And.intro u1 u2)
          clear u1 u2
          go_wp2_with fail
          refine (nIsCut_at HT HD1.out HN1.out).mono ?_
          rintro e wc ⟨rfl, hb1⟩
          have X := X.later hb1
          have R := R.later hb1
          have hB := hB.trans (hb1.mono hB.size)
          have ho := ho.later hb1
          have hle := Nat.le_trans hle hb1.size
          clear hb1 x0 x1 HT HN1 HD1
          have u1 := hU.out.1
          have u2 := hU.out.2
          clear hU
          rcases t1 with _ | _
          · rcases t with _ | _
            · skip
              go_wp2
              refine ⟨⟨b + 1, pre, by omega, by omega, by go_num, ho, hB, X, R, hle, ?_⟩, by simp [intOf]; omega⟩
              rw [hKS.out, if_neg (by rw [hFX.out]; simp), List.append_nil]
              exact hpre
            · skip
              have hlen := kept_len f (show a ≤ 24 by omega) (show b - (a + 1) ≤ 24 - (a + 1) by omega)
              have ho2 := World.ownsRow.alloc ho (.cells #[.int .i64 (a : Int), .int .i64 (b : Int)] 55)
              have bN := Box.new wc [.int .i64 (a : Int), .int .i64 (b : Int)] 55
              obtain ⟨v', W', hrun, ho3, hb3, hg⟩ := run_own_lk 23 ho2 bN (by simp; omega) (by rw [hpre.out]; omega)
              have happ : (appF #[23, 23] 23 #[.slice Ao ko co, .slice (some ⟨wc.heap.size, 0, none⟩) 1 1]).run Try.prog (wc.alloc (.cells #[.int .i64 (a : Int), .int .i64 (b : Int)] 55)) = .ok v' W' := hrun
              have X := Box.keep (X.alloc (.cells #[.int .i64 (a : Int), .int .i64 (b : Int)] 55)) (by omega) hb3
              have R := Box.keep (R.alloc (.cells #[.int .i64 (a : Int), .int .i64 (b : Int)] 55)) (by omega) hb3
              have hB := (hB.alloc hB.size (.cells #[.int .i64 (a : Int), .int .i64 (b : Int)] 55)).trans (hb3.mono (by omega))
              have hle2 := Nat.le_trans (Nat.le_trans hle (by simp : wc.heap.size ≤ (wc.alloc (.cells #[.int .i64 (a : Int), .int .i64 (b : Int)] 55)).heap.size)) hb3.size
              clear hrun ho2 bN hg hb3
              go_wp2
              refine ⟨⟨b + 1, _, by omega, by omega, by go_num, ho3, hB, X, R, hle2, ?_⟩, by simp [intOf]; omega⟩
              rw [hKS.out, if_pos (by rw [hFX.out]; simp), hpre.out]
              exact Lib.hid rfl
          · rcases t2 with _ | _
            · rcases t with _ | _
              · skip
                go_wp2
                refine ⟨⟨b + 1, pre, by omega, by omega, by go_num, ho, hB, X, R, hle, ?_⟩, by simp [intOf]; omega⟩
                rw [hKS.out, if_neg (by rw [hFX.out]; simp), List.append_nil]
                exact hpre
              · skip
                have hlen := kept_len f (show a ≤ 24 by omega) (show b - (a + 1) ≤ 24 - (a + 1) by omega)
                have ho2 := World.ownsRow.alloc ho (.cells #[.int .i64 (a : Int), .int .i64 (b : Int)] 55)
                have bN := Box.new wc [.int .i64 (a : Int), .int .i64 (b : Int)] 55
                obtain ⟨v', W', hrun, ho3, hb3, hg⟩ := run_own_lk 23 ho2 bN (by simp; omega) (by rw [hpre.out]; omega)
                have happ : (appF #[23, 23] 23 #[.slice Ao ko co, .slice (some ⟨wc.heap.size, 0, none⟩) 1 1]).run Try.prog (wc.alloc (.cells #[.int .i64 (a : Int), .int .i64 (b : Int)] 55)) = .ok v' W' := hrun
                have X := Box.keep (X.alloc (.cells #[.int .i64 (a : Int), .int .i64 (b : Int)] 55)) (by omega) hb3
                have R := Box.keep (R.alloc (.cells #[.int .i64 (a : Int), .int .i64 (b : Int)] 55)) (by omega) hb3
                have hB := (hB.alloc hB.size (.cells #[.int .i64 (a : Int), .int .i64 (b : Int)] 55)).trans (hb3.mono (by omega))
                have hle2 := Nat.le_trans (Nat.le_trans hle (by simp : wc.heap.size ≤ (wc.alloc (.cells #[.int .i64 (a : Int), .int .i64 (b : Int)] 55)).heap.size)) hb3.size
                clear hrun ho2 bN hg hb3
                go_wp2
                refine ⟨⟨b + 1, _, by omega, by omega, by go_num, ho3, hB, X, R, hle2, ?_⟩, by simp [intOf]; omega⟩
                rw [hKS.out, if_pos (by rw [hFX.out]; simp), hpre.out]
                exact Lib.hid rfl
            · rcases on with _ | _
              · skip
                go_wp2
                refine ⟨⟨b + 1, pre, by omega, by omega, by go_num, ho, hB, X, R, hle, ?_⟩, by simp [intOf]; omega⟩
                rw [hKS.out, if_neg (by rw [hFX.out]; simp), List.append_nil]
                exact hpre
              · skip
                have hlen := kept_len f (show a ≤ 24 by omega) (show b - (a + 1) ≤ 24 - (a + 1) by omega)
                have ho2 := World.ownsRow.alloc ho (.cells #[.int .i64 (a : Int), .int .i64 (b : Int)] 55)
                have bN := Box.new wc [.int .i64 (a : Int), .int .i64 (b : Int)] 55
                obtain ⟨v', W', hrun, ho3, hb3, hg⟩ := run_own_lk 23 ho2 bN (by simp; omega) (by rw [hpre.out]; omega)
                have happ : (appF #[23, 23] 23 #[.slice Ao ko co, .slice (some ⟨wc.heap.size, 0, none⟩) 1 1]).run Try.prog (wc.alloc (.cells #[.int .i64 (a : Int), .int .i64 (b : Int)] 55)) = .ok v' W' := hrun
                have X := Box.keep (X.alloc (.cells #[.int .i64 (a : Int), .int .i64 (b : Int)] 55)) (by omega) hb3
                have R := Box.keep (R.alloc (.cells #[.int .i64 (a : Int), .int .i64 (b : Int)] 55)) (by omega) hb3
                have hB := (hB.alloc hB.size (.cells #[.int .i64 (a : Int), .int .i64 (b : Int)] 55)).trans (hb3.mono (by omega))
                have hle2 := Nat.le_trans (Nat.le_trans hle (by simp : wc.heap.size ≤ (wc.alloc (.cells #[.int .i64 (a : Int), .int .i64 (b : Int)] 55)).heap.size)) hb3.size
                clear hrun ho2 bN hg hb3
                go_wp2
                refine ⟨⟨b + 1, _, by omega, by omega, by go_num, ho3, hB, X, R, hle2, ?_⟩, by simp [intOf]; omega⟩
                rw [hKS.out, if_pos (by rw [hFX.out]; simp), hpre.out]
                exact Lib.hid rfl
        · obtain rfl : b = 24 := by omega
          go_wp2
          refine ⟨⟨a + 1, pre, by omega, by go_num, ho, hB, X, R, hle, ?_⟩, by simp [intOf]; omega⟩
          rw [hpre.out, ← linksTo_row]
          exact Lib.hid rfl
    · obtain rfl : a = 24 := by omega
      have x0 : wo.cell? ⟨w.heap.size, 0, none⟩ = some (.slice Aq nq cq) := X.cell 0
      have x1 : wo.cell? ⟨w.heap.size, 1, none⟩ = some (.slice Aa na ca) := X.cell 1
      have x2 := X.free 1
      have x3 := X.lt
      have r0 : wo.cell? ⟨w.heap.size + 1, 0, none⟩ = some (.slice none 0 0) := R.cell 0
      have r1 : wo.cell? ⟨w.heap.size + 1, 1, none⟩ = some (.slice none 0 0) := R.cell 1
      have f0 := R.free 0
      have f1 := R.free 1
      have r3 := R.lt
      go_wp2
      have R := ((R.other (a := ⟨w.heap.size, 1, none⟩) (by simp) (.slice Ao ko co)).set 0 (.slice Aq nq cq)).set 1 (.slice Ao ko co)
      have hB := ((hB.setCell (p := ⟨w.heap.size, 1, none⟩) (by simp) (.slice Ao ko co)).setCell (p := ⟨w.heap.size + 1, 0, none⟩) (by simp) (.slice Aq nq cq)).setCell (p := ⟨w.heap.size + 1, 1, none⟩) (by simp) (.slice Ao ko co)
      have ho := World.ownsRow.kept ho (grownBy_set _ w.heap.size 1 (.slice Ao ko co)) (owns_ne ho (by omega))
      have ho := World.ownsRow.kept ho (grownBy_set _ (w.heap.size + 1) 0 (.slice Aq nq cq)) (owns_ne ho (by omega))
      have ho : OwnLk _ w1.heap.size (.slice Ao ko co) pre := World.ownsRow.kept ho (grownBy_set _ (w.heap.size + 1) 1 (.slice Ao ko co)) (owns_ne ho (by omega))
      generalize ((wo.setCell ⟨w.heap.size, 1, none⟩ (.slice Ao ko co)).setCell ⟨w.heap.size + 1, 0, none⟩ (.slice Aq nq cq)).setCell ⟨w.heap.size + 1, 1, none⟩ (.slice Ao ko co) = W at R hB ho ⊢
      have e0 : W.cell? ⟨w.heap.size + 1, 0, none⟩ = some (.slice Aq nq cq) := R.cell 0
      have e1 : W.cell? ⟨w.heap.size + 1, 1, none⟩ = some (.slice Ao ko co) := R.cell 1
      refine bodyPost_ret (v := .tuple #[.agg #[.slice Aq nq cq, .slice Ao ko co], .int .i64 0]) (by simp [results, Try.results21, go_sem, e0, e1]) rfl ?_
      have hlen : pre.length ≤ 276 := by rw [hpre.out]; exact kept_len _ (by omega) (by omega)
      refine ⟨_, _, _, 0, rfl, hs, ⟨((hN.out.queue.below (hB.mono hDw)).two (Nat.le_trans hDw hB.size)), ?_⟩, hB⟩
      have hlk : Lks2 W D w1.heap.size (.slice Ao ko co) pre := ho.two (by unfold maxLen; omega)
      rw [hpre.out, linksTo_all] at hlk
      exact ⟨hlk.1, hlk.2.lower (by omega)⟩

theorem nRCut_any (n : Net) (Vq Va : Value) (a b : Int) (on : Bool) (w : World) (D : Nat) (hDw : D ≤ w.heap.size) (hN : NetAt w D Vq Va n) :
    Calls Try.prog 21 #[.agg #[Vq, Va], .int .i64 a, .int .i64 b, .bool on] w (RetNet (cutT n a b on) D w) := by
  obtain ⟨Aq, cq, rfl, _⟩ := hN.queue.form
  obtain ⟨Aa, ca, rfl, _⟩ := hN.apart.form
  rcases hok : n.okB with _ | _
  · exact nRCut_1 n Aq _ cq Aa _ ca a b on w D hDw hN (check_bad hok) (by rw [Hid, cutT, if_neg (by rw [hok]; decide)])
  · have hl : linkB (min a b) (max a b) = false → Hid (cutT n a b on = (Net.zero, 1)) := fun hv => by rw [Hid, cutT, if_pos hok, if_neg (by rw [hv]; decide)]
    rcases h1 : siteB a with _ | _
    · exact nRCut_2 n Aq _ cq Aa _ ca a b on w D hDw hN (check_good hok) h1 (hl (by rw [link_of_sites, h1]; rfl))
    · rcases h2 : siteB b with _ | _
      · exact nRCut_3 n Aq _ cq Aa _ ca a b on w D hDw hN (check_good hok) h1 h2 (hl (by rw [link_of_sites, h2]; simp))
      · by_cases hab : a = b
        · exact nRCut_4 n Aq _ cq Aa _ ca a b on w D hDw hN (check_good hok) h1 h2 (by simpa [Hid] using hab) (hl (by rw [link_of_sites]; simp [hab]))
        · exact nRCut_5 n Aq _ cq Aa _ ca a b on w D hDw hN (check_good hok) h1 h2 (by simpa [Hid] using hab) _ rfl (by rw [Hid, cutT, if_pos hok, if_pos (by rw [link_of_sites, h1, h2]; simpa using hab), keptC_eq])

end Go.Proofs.Ytndjpaiakodciaa
