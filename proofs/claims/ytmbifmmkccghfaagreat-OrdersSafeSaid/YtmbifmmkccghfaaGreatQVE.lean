/- Cut of network, and orders' contracts as the laws take them: where the slices of the result lie. (Printed by mkx.py.) No condition. -/
import Derived.Test.YtmbifmmkccghfaaGreatQK
import Derived.Test.YtmbifmmkccghfaaGreatQVC
import Derived.Test.YtmbifmmkccghfaaGreatQVD
import Derived.Test.YtmbifmmkccghfaaGreatQBM
import Derived.Test.YtmbifmmkccghfaaGreatQR
import Derived.Test.YtmbifmmkccghfaaGreatQRQ
import Derived.WalkKit
import Derived.ProofKit
import Derived.OpenShut
import Derived.ChangeOld
import Derived.Below
import Derived.Lib.SmallJoins
import Derived.Deep.Slices
import Derived.Deep.Fields
import Derived.ChangeSame
import Derived.Test.YtmbifmmkccghfaaGreatQNB
set_option linter.unusedVariables false
set_option linter.unusedSimpArgs false
set_option maxRecDepth 100000
set_option maxHeartbeats 4000000
namespace Go.Proofs.YtmbifmmkccghfaaGreat
open Go.RowKit
theorem owns_new {W : World} {base e size n B : Nat} {v V0 : Value} {xs : List Value} (h : W.ownsRow base e size v n xs) (hB : B ≤ base) : NwB B V0 v := by
  rcases h.2 with ⟨h9, _⟩ | ⟨g, cap, cur, h9, hg, _⟩
  · exact .inr (.inl h9)
  · exact .inr (.inr ⟨g, 0, _, _, h9, Nat.le_trans hB hg⟩)
def RetNetC (t : Net × Int) (D : Nat) (V0 : Value) (w : World) (e : Ending) (w' : World) : Prop := ∃ (Vq Va : Value) (m : Net) (er : Int), e = .returned (.tuple #[.agg #[Vq, Va], .int .i64 er]) ∧ Hid (t = (m, er)) ∧ Hid (Net2 w' D w.heap.size Vq Va m) ∧ Below w.heap.size w w' ∧ NwB w.heap.size V0 Va
section
attribute [local go_sem] Oper.semAt_some
attribute [local go_sem ↓ high] app_named
theorem nCutV_1 (n : Net) (Vq Va : Value) (a b : Int) (on : Bool) (w : World) (D : Nat) (hDw : D ≤ w.heap.size) (hN : Hid (NetAt w D Vq Va n)) (h : Hid (n.checkT = 60)) (hs : Hid (cutT n a b on = (Net.zero, 60))) :
    Calls Tryz.prog 30 #[.agg #[Vq, Va], .int .i64 a, .int .i64 b, .bool on] w (RetNetC (cutT n a b on) D Va w) := by
  refine calls_of_wp_marksN Tryz.func30 rfl ?_
  simp only [Tryz.ntmps30, List.size_toArray, List.length_cons, List.length_nil, Nat.reduceAdd, Nat.reduceSub, Array.replicate_succ, Array.replicate_zero, List.push_toArray, List.append_toArray, List.nil_append, List.cons_append]
  have HB0 := ((Below.refl w.heap.size w).alloc (Nat.le_refl _) (.cells #[Vq, Va] 44)).alloc (by simp) (.cells #[.slice none 0 0, .slice none 0 0] 44)
  have HNB := Lib.hid (((hN.out.more hDw).below HB0).more HB0.size)
  go_wp2_with fail
  refine (nCheck_at h HNB.out).mono ?_
  rintro e w1 ⟨rfl, hb⟩
  have R := (Box.newAt (w := w.alloc (.cells #[Vq, Va] 44)) (n := w.heap.size + 1) [.slice none 0 0, .slice none 0 0] 44 (by simp)).later hb
  have hB := HB0.trans (hb.mono HB0.size)
  clear hb HB0 HNB
  obtain ⟨r0, r1⟩ := R.c2
  have f0 := R.free 0
  have f1 := R.free 1
  have rz := R.lt
  go_wp2
  have Y := (R.set 0 (.slice none 0 0)).set 1 (.slice none 0 0)
  have hB := (hB.setCell (p := ⟨w.heap.size + 1, 0, none⟩) (by simp) (.slice none 0 0)).setCell (p := ⟨w.heap.size + 1, 1, none⟩) (by simp) (.slice none 0 0)
  generalize (w1.setCell ⟨w.heap.size + 1, 0, none⟩ (.slice none 0 0)).setCell ⟨w.heap.size + 1, 1, none⟩ (.slice none 0 0) = W at Y hB ⊢
  obtain ⟨y0, y1⟩ := Y.c2
  refine ⟨_, (by simp [results, Tryz.results30, go_sem, y0, y1] : _ = Result.ok (.tuple #[.agg #[.slice none 0 0, .slice none 0 0], .int .i64 60]) _), ?_⟩
  exact ⟨_, _, Net.zero, 60, rfl, hs, net2_zero _ _ _, hB, .inr (.inl rfl)⟩
theorem nCutV_2 (n : Net) (Aq : Option Addr) (nq cq : Nat) (Aa : Option Addr) (na ca : Nat) (a b : Int) (on : Bool) (w : World) (D : Nat) (hDw : D ≤ w.heap.size) (hN : Hid (NetAt w D (.slice Aq nq cq) (.slice Aa na ca) n)) (h : Hid (n.checkT = 0)) (hv : Hid (linkB (min a b) (max a b) = false)) (hs : Hid (cutT n a b on = (Net.zero, 1))) :
    Calls Tryz.prog 30 #[.agg #[.slice Aq nq cq, .slice Aa na ca], .int .i64 a, .int .i64 b, .bool on] w (RetNetC (cutT n a b on) D (.slice Aa na ca) w) := by
  refine calls_of_wp_marksN Tryz.func30 rfl ?_
  simp only [Tryz.ntmps30, List.size_toArray, List.length_cons, List.length_nil, Nat.reduceAdd, Nat.reduceSub, Array.replicate_succ, Array.replicate_zero, List.push_toArray, List.append_toArray, List.nil_append, List.cons_append]
  have HB0 := ((Below.refl w.heap.size w).alloc (Nat.le_refl _) (.cells #[.slice Aq nq cq, .slice Aa na ca] 44)).alloc (by simp) (.cells #[.slice none 0 0, .slice none 0 0] 44)
  have HNB := Lib.hid (((hN.out.more hDw).below HB0).more HB0.size)
  go_wp2_with fail
  refine (nCheck_at h HNB.out).mono ?_
  rintro e w1 ⟨rfl, hb⟩
  have X := ((Box.new w [.slice Aq nq cq, .slice Aa na ca] 44).alloc (.cells #[.slice none 0 0, .slice none 0 0] 44)).later hb
  have R := (Box.newAt (w := w.alloc (.cells #[.slice Aq nq cq, .slice Aa na ca] 44)) (n := w.heap.size + 1) [.slice none 0 0, .slice none 0 0] 44 (by simp)).later hb
  have hB := HB0.trans (hb.mono HB0.size)
  clear hb HB0 HNB
  go_wp2_with fail
  refine (nBetween_any _ _ _).mono ?_
  rintro e w2 ⟨rfl, hb⟩
  have X := X.later hb
  have R := R.later hb
  have hB := hB.trans (hb.mono hB.size)
  clear hb
  obtain ⟨m1, hm1⟩ : ∃ m1, min a b = m1 := ⟨_, rfl⟩
  obtain ⟨m2, hm2⟩ : ∃ m2, max a b = m2 := ⟨_, rfl⟩
  rw [hm1, hm2] at hv ⊢
  have HM := Lib.hid (And.intro hm1 hm2)
  clear hm1 hm2
  go_wp2_with fail
  have hw2 : w.heap.size + 1 + 1 ≤ w2.heap.size := by have := R.lt; omega
  have L := Box.new w2 [.int .i64 m1, .int .i64 m2] 131
  have X := X.alloc (.cells #[.int .i64 m1, .int .i64 m2] 131)
  have R := R.alloc (.cells #[.int .i64 m1, .int .i64 m2] 131)
  have hRL := R.lt
  have hs2 := hB.size
  have hB := hB.alloc hB.size (.cells #[.int .i64 m1, .int .i64 m2] 131)
  refine (nValid_at hv _).mono ?_
  rintro e w3 ⟨rfl, hb⟩
  have X := X.later hb
  have R := R.later hb
  have L := L.later hb
  have hB := hB.trans (hb.mono hB.size)
  clear hb hRL hs2
  obtain ⟨LL, hLL⟩ : ∃ LL, w2.heap.size = LL := ⟨_, rfl⟩
  rw [hLL] at L hw2 ⊢
  clear hLL
  obtain ⟨r0, r1⟩ := R.c2
  have f0 := R.free 0
  have f1 := R.free 1
  have rz := R.lt
  go_wp2
  have Y := (R.set 0 (.slice none 0 0)).set 1 (.slice none 0 0)
  have hB := (hB.setCell (p := ⟨w.heap.size + 1, 0, none⟩) (by simp) (.slice none 0 0)).setCell (p := ⟨w.heap.size + 1, 1, none⟩) (by simp) (.slice none 0 0)
  generalize (w3.setCell ⟨w.heap.size + 1, 0, none⟩ (.slice none 0 0)).setCell ⟨w.heap.size + 1, 1, none⟩ (.slice none 0 0) = W at Y hB ⊢
  obtain ⟨y0, y1⟩ := Y.c2
  refine ⟨_, (by simp [results, Tryz.results30, go_sem, y0, y1] : _ = Result.ok (.tuple #[.agg #[.slice none 0 0, .slice none 0 0], .int .i64 1]) _), ?_⟩
  exact ⟨_, _, Net.zero, 1, rfl, hs, net2_zero _ _ _, hB, .inr (.inl rfl)⟩
theorem nCutV_3 (n : Net) (Aq : Option Addr) (nq cq : Nat) (Aa : Option Addr) (na ca : Nat) (a b : Int) (on : Bool) (w : World) (D : Nat) (hDw : D ≤ w.heap.size) (hN : Hid (NetAt w D (.slice Aq nq cq) (.slice Aa na ca) n)) (h : Hid (n.checkT = 0)) (hv : Hid (linkB (min a b) (max a b) = true)) (hs : Hid (cutT n a b on = (⟨n.queue, allLinks.filter (keptC n.apart (min a b) (max a b) on)⟩, 0))) :
    Calls Tryz.prog 30 #[.agg #[.slice Aq nq cq, .slice Aa na ca], .int .i64 a, .int .i64 b, .bool on] w (RetNetC (cutT n a b on) D (.slice Aa na ca) w) := by
  refine calls_of_wp_marksN Tryz.func30 rfl ?_
  simp only [Tryz.ntmps30, List.size_toArray, List.length_cons, List.length_nil, Nat.reduceAdd, Nat.reduceSub, Array.replicate_succ, Array.replicate_zero, List.push_toArray, List.append_toArray, List.nil_append, List.cons_append]
  have HB0 := ((Below.refl w.heap.size w).alloc (Nat.le_refl _) (.cells #[.slice Aq nq cq, .slice Aa na ca] 44)).alloc (by simp) (.cells #[.slice none 0 0, .slice none 0 0] 44)
  have HNB := Lib.hid (((hN.out.more hDw).below HB0).more HB0.size)
  go_wp2_with fail
  refine (nCheck_at h HNB.out).mono ?_
  rintro e w1 ⟨rfl, hb⟩
  have X := ((Box.new w [.slice Aq nq cq, .slice Aa na ca] 44).alloc (.cells #[.slice none 0 0, .slice none 0 0] 44)).later hb
  have R := (Box.newAt (w := w.alloc (.cells #[.slice Aq nq cq, .slice Aa na ca] 44)) (n := w.heap.size + 1) [.slice none 0 0, .slice none 0 0] 44 (by simp)).later hb
  have hB := HB0.trans (hb.mono HB0.size)
  clear hb HB0 HNB
  go_wp2_with fail
  refine (nBetween_any _ _ _).mono ?_
  rintro e w2 ⟨rfl, hb⟩
  have X := X.later hb
  have R := R.later hb
  have hB := hB.trans (hb.mono hB.size)
  clear hb
  obtain ⟨m1, hm1⟩ : ∃ m1, min a b = m1 := ⟨_, rfl⟩
  obtain ⟨m2, hm2⟩ : ∃ m2, max a b = m2 := ⟨_, rfl⟩
  rw [hm1, hm2] at hv ⊢
  have HM := Lib.hid (And.intro hm1 hm2)
  clear hm1 hm2
  go_wp2_with fail
  have hw2 : w.heap.size + 1 + 1 ≤ w2.heap.size := by have := R.lt; omega
  have L := Box.new w2 [.int .i64 m1, .int .i64 m2] 131
  have X := X.alloc (.cells #[.int .i64 m1, .int .i64 m2] 131)
  have R := R.alloc (.cells #[.int .i64 m1, .int .i64 m2] 131)
  have hRL := R.lt
  have hs2 := hB.size
  have hB := hB.alloc hB.size (.cells #[.int .i64 m1, .int .i64 m2] 131)
  refine (nValid_at hv _).mono ?_
  rintro e w3 ⟨rfl, hb⟩
  have X := X.later hb
  have R := R.later hb
  have L := L.later hb
  have hB := hB.trans (hb.mono hB.size)
  clear hb hRL hs2
  obtain ⟨LL, hLL⟩ : ∃ LL, w2.heap.size = LL := ⟨_, rfl⟩
  rw [hLL] at L hw2 ⊢
  clear hLL
  obtain ⟨x0, x1⟩ := X.c2
  obtain ⟨l0, l1⟩ := L.c2
  have f0 := R.free 0
  have f1 := R.free 1
  obtain ⟨r0, r1⟩ := R.c2
  have rz := R.lt
  have xz := X.lt
  have lz := L.lt
  have hl2 : LL ≠ w.heap.size + 1 := by omega
  go_wp2_with fail
  clear x0 x1 l0 l1 f0 f1 r0 r1
  have X := (X.other (a := ⟨w.heap.size + 1, 0, none⟩) (by simp) (.slice Aq nq cq)).other (a := ⟨w.heap.size + 1, 1, none⟩) (by simp) (.slice none 0 0)
  have R := (R.set 0 (.slice Aq nq cq)).set 1 (.slice none 0 0)
  have L := (L.other (a := ⟨w.heap.size + 1, 0, none⟩) hl2 (.slice Aq nq cq)).other (a := ⟨w.heap.size + 1, 1, none⟩) hl2 (.slice none 0 0)
  have hB := (hB.setCell (p := ⟨w.heap.size + 1, 0, none⟩) (by simp) (.slice Aq nq cq)).setCell (p := ⟨w.heap.size + 1, 1, none⟩) (by simp) (.slice none 0 0)
  generalize (w3.setCell ⟨w.heap.size + 1, 0, none⟩ (.slice Aq nq cq)).setCell ⟨w.heap.size + 1, 1, none⟩ (.slice none 0 0) = w4 at X R L hB ⊢
  refine (nCuts_any _ _ _ _ _ _ _).mono ?_
  rintro e W0 ⟨rfl, P0, P1, P2, hb⟩
  have R := R.later hb
  have hlt := Lib.hid R.lt
  have hB := hB.trans (hb.mono hB.size)
  have hw4 := X.lt
  have hrz : w.heap.size + 1 < w4.heap.size := by have := L.lt; omega
  clear hb X L
  generalize w4.heap.size = D0 at *
  simp only [List.set_cons_zero, List.set_cons_succ] at R
  go_wp2_with fail
  have hL : Hid (LksAt W0 D (.slice Aa na ca) n.apart) := Lib.hid (hN.out.below (hB.mono hDw)).apart
  have hDW := Nat.le_trans hDw hB.size
  have hOw : OwnLk W0 W0.heap.size (.slice none 0 0) [] := ownLk_nil _ _
  refine wpIn_wide.1 (wpIn_rangeFunc_ownH (n := 6) rfl (by omega) (gf := 75) (lb := #[.pointer (some ⟨D0 + 1, 0, none⟩), .pointer (some ⟨D0 + 1 + 1, 0, none⟩), .pointer (some ⟨D0, 0, none⟩)]) rfl trivial (enters_of Tryz.func75 (by kernel_rfl) rfl)
    (cuts_stops 5 300 n.apart Aa na ca m1 m2 on (D0 + 1) (D0 + 1 + 1) D0 W0 D hDW hL P1 P2 P0 (w.heap.size + 1) (by omega) (by omega) (by omega) (by omega) (by omega)) (fun h k => KeepsX.trans h k) (KeepsX.putObj (Nat.le_refl _)) (Below.refl _ _) (fun _ => rfl)
    (CutI w (w.heap.size + 1) W0.heap.size (.slice Aq nq cq)) (fun _ _ _ => False) ?hI ?hIx ?h0
    (fun x a' W => ∃ D1, W0.heap.size ≤ D1 ∧ Box W D1 [.int .i64 x.1, .int .i64 x.2] ∧ a' = { tmps := #[.agg #[.slice Aq nq cq, .slice Aa na ca], .int .i64 a, .int .i64 b, .bool on, .pointer (some ⟨w.heap.size, 0, none⟩), undef, undef, undef, .pointer (some ⟨w.heap.size + 1, 0, none⟩), .int .i64 0, .pointer (some ⟨LL, 0, none⟩), .pointer (some ⟨D1, 0, none⟩), .agg #[.slice Aq nq cq, .slice Aa na ca], .int .i64 0, .bool false, undef, .int .i64 a, .int .i64 b, pairV m1 m2, .agg #[.int .i64 m1, .int .i64 m2], .bool true, .bool false, undef, .pointer (some ⟨w.heap.size, 0, none⟩), .slice Aq nq cq, .agg #[.slice Aq nq cq, .slice none 0 0], .pointer (some ⟨w.heap.size, 1, none⟩), .slice Aa na ca, .agg #[.int .i64 m1, .int .i64 m2], .bool on, .func (.func 75) #[] #[.pointer (some ⟨D0 + 1, 0, none⟩), .pointer (some ⟨D0 + 1 + 1, 0, none⟩), .pointer (some ⟨D0, 0, none⟩)], .agg #[.int .i64 x.1, .int .i64 x.2], undef, undef, undef, undef, undef, undef, undef], defers := [] })
    ?hAx ?assign ?body ?done ?stop)
  case hI => exact cutI_own hB.size
  case hIx => exact fun _ _ _ _ _ h _ _ => h
  case h0 => exact ⟨_, R, hOw, hB, Nat.le_refl _⟩
  case hAx =>
    rintro x a' _ X Y row ⟨D1, hD, hb, rfl⟩ hg hr
    exact ⟨D1, hD, box_ownN (β := Unit) _ _ () X Y row hb hg (fun k e => (hr k e).2), rfl⟩
  case assign =>
    rintro l pre x W K ⟨V, bR, ho, hb, hle⟩ hK
    gi_wp2
    exact hK _ _ ((KeepsOthers.alloc _ _).from _) (KeepsX.of ((Below.refl _ W).alloc hle _)) ⟨V, bR.alloc _, World.ownsRow.alloc ho _, hb.alloc hb.size _, by simp; omega⟩ ⟨W.heap.size, hle, Box.new W [.int .i64 x.1, .int .i64 x.2] _, rfl⟩
  case body =>
    rintro l pre x a' W hl _ ⟨V, bR, ho, hb, hle⟩ ⟨D1, hD, bD, rfl⟩ hlen
    obtain ⟨Ao, ko, co, rfl⟩ := owns_form ho
    have ho2 := World.ownsRow.alloc ho (.cells #[.int .i64 x.1, .int .i64 x.2] 31)
    have bN := Box.new W [.int .i64 x.1, .int .i64 x.2] 31
    have bR2 := bR.alloc (.cells #[.int .i64 x.1, .int .i64 x.2] 31)
    obtain ⟨v', W', hrun, ho3, hb3, hg⟩ := run_own_lk 42 ho2 bN (by simp; omega) (by omega)
    have happ : (appF #[42, 42] 42 #[.slice Ao ko co, .slice (some ⟨W.heap.size, 0, none⟩) 1 1]).run Tryz.prog (W.alloc (.cells #[.int .i64 x.1, .int .i64 x.2] 31)) = .ok v' W' := hrun
    clear hrun
    have hlt := hlt.out
    have bR3 := Box.keepN bR2 hlt hb3
    obtain ⟨Av, kv, cv, rfl⟩ := owns_form ho3
    have hKF := ((KeepsOthers.alloc W (.cells #[.int .i64 x.1, .int .i64 x.2] 31)).trans (KeepsOthers.of_grownBy hg (fun j o e h => owns_cells ho2 j o e h))).trans (KeepsOthers.setCell W' ⟨w.heap.size + 1, 1, none⟩ (.slice Av kv cv))
    have hKX : KeepsX (w.heap.size + 1) W0.heap.size W (W'.setCell ⟨w.heap.size + 1, 1, none⟩ (.slice Av kv cv)) := (KeepsX.of (((Below.refl W0.heap.size W).alloc hle _).trans hb3)).trans (KeepsX.set _ _ _)
    have hI2 : CutI w (w.heap.size + 1) W0.heap.size (.slice Aq nq cq) (pre ++ [x]) (W'.setCell ⟨w.heap.size + 1, 1, none⟩ (.slice Av kv cv)) :=
      ⟨_, bR3.set 1 _, World.ownsRow.kept ho3 (grownBy_setN _ _ _ _) (owns_ne ho3 hlt), ((hb.alloc hb.size _).trans (hb3.mono hB.size)).setCell (by simp) _, Nat.le_trans (Nat.le_trans hle (by simp)) (Nat.le_trans hb3.size (by simp))⟩
    have hEnd := Lib.hid (And.intro (hKF.from W0.heap.size) (And.intro hKX hI2))
    clear hKF hKX hI2 ho3 ho2 hg bN bR2
    have r1 : W.cell? ⟨w.heap.size + 1, 1, none⟩ = some (.slice Ao ko co) := bR.cell 1
    obtain ⟨d0, d1⟩ := bD.c2
    have s1 : W'.cell? ⟨w.heap.size + 1, 1, none⟩ = some (.slice Ao ko co) := bR3.cell 1
    have s2 := bR3.free 1
    have s3 := bR3.lt
    have hDz := bD.lt
    gi_wp2
    exact hEnd.out
  case done =>
    rintro D1 xs W hD hS ⟨V, bR, ho, hb, hle⟩ hK
    have hlt := hlt.out
    obtain ⟨Ao, ko, co, rfl⟩ := owns_form ho
    obtain ⟨r0, r1⟩ := bR.c2
    have f0 := bR.free 0
    have f1 := bR.free 1
    have rz := bR.lt
    have HS := Lib.hid hS
    clear hS
    go_wp2
    have bR2 := (bR.set 0 (.slice Aq nq cq)).set 1 (.slice Ao ko co)
    have hb2 := (hb.setCell (p := ⟨w.heap.size + 1, 0, none⟩) (by simp) (.slice Aq nq cq)).setCell (p := ⟨w.heap.size + 1, 1, none⟩) (by simp) (.slice Ao ko co)
    have ho1 := World.ownsRow.kept ho (grownBy_setN W (w.heap.size + 1) 0 (.slice Aq nq cq)) (owns_ne ho hlt)
    have ho2 := World.ownsRow.kept ho1 (grownBy_setN _ (w.heap.size + 1) 1 (.slice Ao ko co)) (owns_ne ho1 hlt)
    have hKf := (Below.heap_setCell (W.setCell ⟨w.heap.size + 1, 0, none⟩ (.slice Aq nq cq)) ⟨w.heap.size + 1, 1, none⟩ (.slice Ao ko co) D1 (by simp; omega)).trans ((Below.heap_setCell W ⟨w.heap.size + 1, 0, none⟩ (.slice Aq nq cq) D1 (by simp; omega)).trans hK)
    generalize (W.setCell ⟨w.heap.size + 1, 0, none⟩ (.slice Aq nq cq)).setCell ⟨w.heap.size + 1, 1, none⟩ (.slice Ao ko co) = W2 at bR2 hb2 ho2 hKf ⊢
    simp only [List.set_cons_zero, List.set_cons_succ] at bR2
    refine ⟨by simp, .inl ⟨_, _, rfl, run_takeDeferred hKf, ?_⟩⟩
    have bR3 := bR2.putN (l := D1) (by omega) (.deferred none)
    have hb3 := below_putN hb2 (Nat.le_trans hB.size hD) (.deferred none)
    have ho3 : OwnLk (W2.putObj D1 (.deferred none)) W0.heap.size (.slice Ao ko co) xs := ownsRow_putObj ho2 (.deferred none) hKf rfl
    generalize W2.putObj D1 (.deferred none) = W3 at bR3 hb3 ho3 ⊢
    obtain ⟨e0, e1⟩ := bR3.c2
    refine ⟨_, (by simp [results, Tryz.results30, go_sem, e0, e1] : _ = Result.ok (.tuple #[.agg #[.slice Aq nq cq, .slice Ao ko co], .int .i64 0]) _), ?_⟩
    have hlen : xs.length ≤ 276 := by rw [HS.out, ← linksTo_all]; exact kept_len _ (by omega) (by omega)
    refine ⟨_, _, _, 0, rfl, hs, ⟨((hN.out.queue.below (hb3.mono hDw)).two (Nat.le_trans hDw hb3.size)), ?_⟩, hb3, owns_new ho3 hB.size⟩
    have hlk : Lks2 W3 D W0.heap.size (.slice Ao ko co) xs := ho3.two (by unfold maxLen; omega)
    rw [HS.out, ← HM.out.1, ← HM.out.2] at hlk
    exact ⟨hlk.1, hlk.2.lower hB.size⟩
  case stop =>
    rintro D1 cc pre W hD hpre hf
    exact hf.elim
theorem nCutV_any (n : Net) (Vq Va : Value) (a b : Int) (on : Bool) (w : World) (D : Nat) (hDw : D ≤ w.heap.size) (hN : NetAt w D Vq Va n) :
    Calls Tryz.prog 30 #[.agg #[Vq, Va], .int .i64 a, .int .i64 b, .bool on] w (RetNetC (cutT n a b on) D Va w) := by
  obtain ⟨Aq, cq, rfl, _⟩ := hN.queue.form
  obtain ⟨Aa, ca, rfl, _⟩ := hN.apart.form
  rcases hok : n.okB with _ | _
  · exact nCutV_1 n _ _ a b on w D hDw hN (check_bad hok) (by rw [Hid, cutT, if_neg (by rw [hok]; decide)])
  · rcases hv : linkB (min a b) (max a b) with _ | _
    · exact nCutV_2 n Aq _ cq Aa _ ca a b on w D hDw hN (check_good hok) hv (by rw [Hid, cutT, if_pos hok, if_neg (by rw [hv]; decide)])
    · exact nCutV_3 n Aq _ cq Aa _ ca a b on w D hDw hN (check_good hok) hv (by rw [Hid, cutT, if_pos hok, if_pos hv, keptC_eq])
end
theorem nCutV_is (n : Net) (a b : Int) (on : Bool) {Vq Va : Value} {w : World} (hN : Hid (NetAt w w.heap.size Vq Va n)) : Calls Tryz.prog 30 #[.agg #[Vq, Va], .int .i64 a, .int .i64 b, .bool on] w (RetNetC (cutT n a b on) w.heap.size Va w) := nCutV_any n Vq Va a b on w _ (Nat.le_refl _) hN.out
theorem RetBxV.sl1 {t : Bx} {r Va0 Vs0 Vh0 : Value} {w w' : World} {e : Ending} (h : RetBxV t #[r] Va0 Vs0 Vh0 w e w') : ∃ Aq nq cq Aa na ca As ns cs Ah nh ch Af nf cf, e = .returned (.tuple #[.agg #[.slice Aq nq cq, .slice Aa na ca, .slice As ns cs, .slice Ah nh ch, .slice Af nf cf], r]) ∧ Hid (BxAt w' w'.heap.size (.slice Aq nq cq) (.slice Aa na ca) (.slice As ns cs) (.slice Ah nh ch) (.slice Af nf cf) t) ∧ Below w.heap.size w w' ∧ Nw3 w.heap.size Va0 Vs0 Vh0 (.slice Aa na ca) (.slice As ns cs) (.slice Ah nh ch) := by
  obtain ⟨Vq, Va, Vs, Vh, Vf, he, hX, hb, h3⟩ := h
  obtain ⟨Aq, nq, cq, Aa, na, ca, As, ns, cs, Ah, nh, ch, Af, nf, cf, rfl, rfl, rfl, rfl, rfl⟩ := hX.forms5
  exact ⟨Aq, nq, cq, Aa, na, ca, As, ns, cs, Ah, nh, ch, Af, nf, cf, he, Lib.hid hX, hb, h3⟩
theorem RetDlvV.sl {t : Bx × Bool × Int} {Va0 Vs0 Vh0 : Value} {w w' : World} {e : Ending} (h : RetDlvV t Va0 Vs0 Vh0 w e w') : ∃ Aq nq cq Aa na ca As ns cs Ah nh ch Af nf cf, e = .returned (.tuple #[.agg #[.slice Aq nq cq, .slice Aa na ca, .slice As ns cs, .slice Ah nh ch, .slice Af nf cf], .bool t.2.1, .int .i64 t.2.2]) ∧ Hid (BxAt w' w'.heap.size (.slice Aq nq cq) (.slice Aa na ca) (.slice As ns cs) (.slice Ah nh ch) (.slice Af nf cf) t.1) ∧ Below w.heap.size w w' ∧ Nw3 w.heap.size Va0 Vs0 Vh0 (.slice Aa na ca) (.slice As ns cs) (.slice Ah nh ch) := by
  obtain ⟨Vq, Va, Vs, Vh, Vf, he, hX, hb, h3⟩ := h
  obtain ⟨Aq, nq, cq, Aa, na, ca, As, ns, cs, Ah, nh, ch, Af, nf, cf, rfl, rfl, rfl, rfl, rfl⟩ := hX.forms5
  exact ⟨Aq, nq, cq, Aa, na, ca, As, ns, cs, Ah, nh, ch, Af, nf, cf, he, Lib.hid hX, hb, h3⟩
theorem RetTickV.sl {t : Bx × List Int × Int} {Va0 Vs0 Vh0 : Value} {w w' : World} {e : Ending} (h : RetTickV t Va0 Vs0 Vh0 w e w') : ∃ Aq nq cq Aa na ca As ns cs Ah nh ch Af nf cf Al nl cl, e = .returned (.tuple #[.agg #[.slice Aq nq cq, .slice Aa na ca, .slice As ns cs, .slice Ah nh ch, .slice Af nf cf], .slice Al nl cl, .int .i64 t.2.2]) ∧ Hid (BxAt w' w'.heap.size (.slice Aq nq cq) (.slice Aa na ca) (.slice As ns cs) (.slice Ah nh ch) (.slice Af nf cf) t.1) ∧ Hid (HdAt w' w'.heap.size (.slice Al nl cl) t.2.1) ∧ Below w.heap.size w w' ∧ Nw3 w.heap.size Va0 Vs0 Vh0 (.slice Aa na ca) (.slice As ns cs) (.slice Ah nh ch) := by
  obtain ⟨Vq, Va, Vs, Vh, Vf, Vl, he, hX, hL, hb, h3⟩ := h
  obtain ⟨Aq, nq, cq, Aa, na, ca, As, ns, cs, Ah, nh, ch, Af, nf, cf, rfl, rfl, rfl, rfl, rfl⟩ := hX.forms5
  obtain ⟨Al, cl, rfl, _⟩ := hL.2.form3
  exact ⟨Aq, nq, cq, Aa, na, ca, As, ns, cs, Ah, nh, ch, Af, nf, cf, Al, _, cl, he, Lib.hid hX, Lib.hid hL, hb, h3⟩
theorem oSendV_is (b : Bx) (g o : Int) {Aq : Option Addr} {nq cq : Nat} {Aa : Option Addr} {na ca : Nat} {As : Option Addr} {ns cs : Nat} {Ah : Option Addr} {nh ch : Nat} {Af : Option Addr} {nf cf : Nat} {w : World} (hx : Hid (BxAt w w.heap.size (.slice Aq nq cq) (.slice Aa na ca) (.slice As ns cs) (.slice Ah nh ch) (.slice Af nf cf) b)) {T : Bx × Int} (hT : Hid (b.sendT g o = T)) :
    Calls Tryz.prog 14 #[.agg #[.slice Aq nq cq, .slice Aa na ca, .slice As ns cs, .slice Ah nh ch, .slice Af nf cf], .int .i64 g, .int .i64 o] w (RetBxV T.1 #[.int .i64 T.2] (.slice Aa na ca) (.slice As ns cs) (.slice Ah nh ch) w) := by
  obtain ⟨l1, l2, l3, l4, l5, m1, m2, m3, m4, m5⟩ := hx.out.lens
  exact oSendV_any b g o Aq Aa As Ah Af nq cq na ca ns cs nh ch nf cf w hx (Lib.hid l3) (Lib.hid l4) hT
theorem oLoseV_is (b : Bx) (i : Int) {Aq : Option Addr} {nq cq : Nat} {Aa : Option Addr} {na ca : Nat} {As : Option Addr} {ns cs : Nat} {Ah : Option Addr} {nh ch : Nat} {Af : Option Addr} {nf cf : Nat} {w : World} (hx : Hid (BxAt w w.heap.size (.slice Aq nq cq) (.slice Aa na ca) (.slice As ns cs) (.slice Ah nh ch) (.slice Af nf cf) b)) {T : Bx × Int} (hT : Hid (b.loseT i = T)) :
    Calls Tryz.prog 28 #[.agg #[.slice Aq nq cq, .slice Aa na ca, .slice As ns cs, .slice Ah nh ch, .slice Af nf cf], .int .i64 i] w (RetBxV T.1 #[.int .i64 T.2] (.slice Aa na ca) (.slice As ns cs) (.slice Ah nh ch) w) := by
  obtain ⟨l1, l2, l3, l4, l5, m1, m2, m3, m4, m5⟩ := hx.out.lens
  exact oLoseV_any b i Aq Aa As Ah Af nq cq na ca ns cs nh ch nf cf w hx  hT
theorem oRepeatV_is (b : Bx) (i : Int) {Aq : Option Addr} {nq cq : Nat} {Aa : Option Addr} {na ca : Nat} {As : Option Addr} {ns cs : Nat} {Ah : Option Addr} {nh ch : Nat} {Af : Option Addr} {nf cf : Nat} {w : World} (hx : Hid (BxAt w w.heap.size (.slice Aq nq cq) (.slice Aa na ca) (.slice As ns cs) (.slice Ah nh ch) (.slice Af nf cf) b)) {T : Bx × Int} (hT : Hid (b.repeatT i = T)) :
    Calls Tryz.prog 29 #[.agg #[.slice Aq nq cq, .slice Aa na ca, .slice As ns cs, .slice Ah nh ch, .slice Af nf cf], .int .i64 i] w (RetBxV T.1 #[.int .i64 T.2] (.slice Aa na ca) (.slice As ns cs) (.slice Ah nh ch) w) := by
  obtain ⟨l1, l2, l3, l4, l5, m1, m2, m3, m4, m5⟩ := hx.out.lens
  exact oRepeatV_any b i Aq Aa As Ah Af nq cq na ca ns cs nh ch nf cf w hx  hT
theorem oDeliverV_is (b : Bx) (i : Int) {Aq : Option Addr} {nq cq : Nat} {Aa : Option Addr} {na ca : Nat} {As : Option Addr} {ns cs : Nat} {Ah : Option Addr} {nh ch : Nat} {Af : Option Addr} {nf cf : Nat} {w : World} (hx : Hid (BxAt w w.heap.size (.slice Aq nq cq) (.slice Aa na ca) (.slice As ns cs) (.slice Ah nh ch) (.slice Af nf cf) b)) {T : Bx × Bool × Int} (hT : Hid (b.deliverT i = T)) :
    Calls Tryz.prog 15 #[.agg #[.slice Aq nq cq, .slice Aa na ca, .slice As ns cs, .slice Ah nh ch, .slice Af nf cf], .int .i64 i] w (RetDlvV T (.slice Aa na ca) (.slice As ns cs) (.slice Ah nh ch) w) := by
  obtain ⟨l1, l2, l3, l4, l5, m1, m2, m3, m4, m5⟩ := hx.out.lens
  exact oDeliverV_any b i Aq Aa As Ah Af nq cq na ca ns cs nh ch nf cf w hx (Lib.hid l3) (Lib.hid l4) (Lib.hid l5) hT
theorem oTickV_is (b : Bx)  {Aq : Option Addr} {nq cq : Nat} {Aa : Option Addr} {na ca : Nat} {As : Option Addr} {ns cs : Nat} {Ah : Option Addr} {nh ch : Nat} {Af : Option Addr} {nf cf : Nat} {w : World} (hx : Hid (BxAt w w.heap.size (.slice Aq nq cq) (.slice Aa na ca) (.slice As ns cs) (.slice Ah nh ch) (.slice Af nf cf) b)) {T : Bx × List Int × Int} (hT : Hid (b.tickT = T)) :
    Calls Tryz.prog 10 #[.agg #[.slice Aq nq cq, .slice Aa na ca, .slice As ns cs, .slice Ah nh ch, .slice Af nf cf]] w (RetTickV T (.slice Aa na ca) (.slice As ns cs) (.slice Ah nh ch) w) := by
  obtain ⟨l1, l2, l3, l4, l5, m1, m2, m3, m4, m5⟩ := hx.out.lens
  exact oTickV_any b  Aq Aa As Ah Af nq cq na ca ns cs nh ch nf cf w hx (Lib.hid l3) (Lib.hid l4) (Lib.hid l5) hT
end Go.Proofs.YtmbifmmkccghfaaGreat
namespace Go.Proofs.YtmbifmmkccghfaaGreat
open Go.RowKit
def owA : Bx := ⟨Net.zero, [], [0, 0], [false, false]⟩
def owX : Bx := ⟨⟨[⟨0, 2, msgB 0 5⟩], []⟩, [(1, 5)], [0, 0], [false, false]⟩
def owY : Bx := ⟨⟨[⟨0, 2, msgB 0 5⟩, ⟨0, 2, msgB 1 3⟩], []⟩, [(1, 5), (1, 3)], [0, 0], [false, false]⟩
def owD : Bx := ⟨⟨[⟨0, 2, msgB 0 5⟩], []⟩, [(1, 5), (1, 3)], [0, 2], [false, true]⟩
def owE : Bx := ⟨⟨[], []⟩, [(1, 5), (1, 3)], [0, 2], [false, true]⟩
def owT : Bx := ⟨⟨[], []⟩, [(1, 5), (1, 3)], [0, 2], [false, false]⟩
theorem ov1 : newB 2 = (owA, 0) := by kernel_rfl
theorem ov2 : newB 9 = (Bx.zero, 1) := by kernel_rfl
theorem ov3 : owA.sendT 2 0 = (Bx.zero, 1) := by kernel_rfl
theorem ov4 : owA.sendT 0 8 = (Bx.zero, 1) := by kernel_rfl
theorem ov5 : owA.deliverT 0 = (Bx.zero, false, 1) := by kernel_rfl
theorem ov6 : owA.checkT = 0 := by kernel_rfl
theorem ov7 : Bx.zero.checkT = 340 := by kernel_rfl
theorem ov8 : owA.sendT 1 5 = (owX, 0) := by kernel_rfl
theorem ov9 : owX.sendT 1 3 = (owY, 0) := by kernel_rfl
theorem ov10 : owY.deliverT 1 = (owD, true, 0) := by kernel_rfl
theorem ov11 : owD.deliverT 0 = (owE, false, 0) := by kernel_rfl
theorem ov12 : owE.tickT = (owT, [-1, 3], 0) := by kernel_rfl
theorem ov13 : owT.tickT = (owT, [-1, -1], 0) := by kernel_rfl
theorem oSaneV_any (w : World) : Calls Tryz.prog 4 #[] w fun e w' => e = .returned (.bool true) ∧ Below w.heap.size w w' := by
  have hB := Below.refl w.heap.size w
  go_enter Tryz.func4, Tryz.ntmps4
  go_wp2_with fail
  refine (oNew_any 2 _ (T := (owA, 0)) (Lib.hid ov1)).mono ?_
  rintro e w1 hh
  obtain ⟨Aq1, nq1, cq1, Aa1, na1, ca1, As1, ns1, cs1, Ah1, nh1, ch1, Af1, nf1, cf1, rfl, hX1, hb⟩ := hh.sl
  have hB := hB.trans (hb.mono hB.size)
  clear hb
  go_wp2_with fail
  have hst := ((Below.refl w1.heap.size w1).alloc (by simp <;> omega) (.cells #[.slice Aq1 nq1 cq1, .slice Aa1 na1 ca1, .slice As1 ns1 cs1, .slice Ah1 nh1 ch1, .slice Af1 nf1 cf1] 49))
  have hBo := hB
  have hX1 := hid_bx hX1 hst
  have hB := hB.trans (hst.mono hB.size)
  have X1 := (Box.newAt (w := w1) (n := w1.heap.size) [.slice Aq1 nq1 cq1, .slice Aa1 na1 ca1, .slice As1 ns1 cs1, .slice Ah1 nh1 ch1, .slice Af1 nf1 cf1] 49 (by simp))
  clear hst
  generalize (w1.alloc (.cells #[.slice Aq1 nq1 cq1, .slice Aa1 na1 ca1, .slice As1 ns1 cs1, .slice Ah1 nh1 ch1, .slice Af1 nf1 cf1] 49)) = w2 at hB  X1 hX1 ⊢
  generalize w1.heap.size = X1a at X1 ⊢
  refine (oNew_any 9 _ (T := (Bx.zero, 1)) (Lib.hid ov2)).mono ?_
  rintro e w3 hh
  obtain ⟨Aq2, nq2, cq2, Aa2, na2, ca2, As2, ns2, cs2, Ah2, nh2, ch2, Af2, nf2, cf2, rfl, hX2, hb⟩ := hh.sl
  have X1 := X1.later hb
  have hX1 := hid_bx hX1 hb
  have hB := hB.trans (hb.mono hB.size)
  clear hb
  obtain ⟨X1c0, X1c1, X1c2, X1c3, X1c4⟩ := X1.c5
  have X1z : X1a < w3.heap.size := X1.lt
  go_wp2_with fail
  clear X1c0 X1c1 X1c2 X1c3 X1c4 X1z
  have hst := ((Below.refl w3.heap.size w3).alloc (by simp <;> omega) (.cells #[.slice Aq2 nq2 cq2, .slice Aa2 na2 ca2, .slice As2 ns2 cs2, .slice Ah2 nh2 ch2, .slice Af2 nf2 cf2] 49))
  have hBo := hB
  have X1o := X1
  have X1 := X1.later hst
  have hX1 := hid_bx hX1 hst
  have hB := hB.trans (hst.mono hB.size)
  have X2 := (Box.newAt (w := w3) (n := w3.heap.size) [.slice Aq2 nq2 cq2, .slice Aa2 na2 ca2, .slice As2 ns2 cs2, .slice Ah2 nh2 ch2, .slice Af2 nf2 cf2] 49 (by simp))
  clear hst
  generalize (w3.alloc (.cells #[.slice Aq2 nq2 cq2, .slice Aa2 na2 ca2, .slice As2 ns2 cs2, .slice Ah2 nh2 ch2, .slice Af2 nf2 cf2] 49)) = w4 at hB X1 X2 hX1 ⊢
  generalize w3.heap.size = X2a at X2 ⊢
  refine (oSendV_is owA 2 0 hX1 (T := (Bx.zero, 1)) (Lib.hid ov3)).mono ?_
  rintro e w5 hh
  obtain ⟨Aq3, nq3, cq3, Aa3, na3, ca3, As3, ns3, cs3, Ah3, nh3, ch3, Af3, nf3, cf3, rfl, hX3, hb, -⟩ := hh.sl1
  have X1 := X1.later hb
  have X2 := X2.later hb
  have hX1 := hid_bx hX1 hb
  have hB := hB.trans (hb.mono hB.size)
  clear hb
  clear X2
  obtain ⟨X1c0, X1c1, X1c2, X1c3, X1c4⟩ := X1.c5
  have X1z : X1a < w5.heap.size := X1.lt
  go_wp2_with fail
  clear X1c0 X1c1 X1c2 X1c3 X1c4 X1z
  have hst := ((Below.refl w5.heap.size w5).alloc (by simp <;> omega) (.cells #[.slice Aq3 nq3 cq3, .slice Aa3 na3 ca3, .slice As3 ns3 cs3, .slice Ah3 nh3 ch3, .slice Af3 nf3 cf3] 49))
  have hBo := hB
  have X1o := X1
  have X1 := X1.later hst
  have hX1 := hid_bx hX1 hst
  have hB := hB.trans (hst.mono hB.size)
  have X3 := (Box.newAt (w := w5) (n := w5.heap.size) [.slice Aq3 nq3 cq3, .slice Aa3 na3 ca3, .slice As3 ns3 cs3, .slice Ah3 nh3 ch3, .slice Af3 nf3 cf3] 49 (by simp))
  clear hst
  generalize (w5.alloc (.cells #[.slice Aq3 nq3 cq3, .slice Aa3 na3 ca3, .slice As3 ns3 cs3, .slice Ah3 nh3 ch3, .slice Af3 nf3 cf3] 49)) = w6 at hB X1 X3 hX1 ⊢
  generalize w5.heap.size = X3a at X3 ⊢
  refine (oSendV_is owA 0 8 hX1 (T := (Bx.zero, 1)) (Lib.hid ov4)).mono ?_
  rintro e w7 hh
  obtain ⟨Aq4, nq4, cq4, Aa4, na4, ca4, As4, ns4, cs4, Ah4, nh4, ch4, Af4, nf4, cf4, rfl, hX4, hb, -⟩ := hh.sl1
  have X1 := X1.later hb
  have X3 := X3.later hb
  have hX1 := hid_bx hX1 hb
  have hB := hB.trans (hb.mono hB.size)
  clear hb
  clear X3
  obtain ⟨X1c0, X1c1, X1c2, X1c3, X1c4⟩ := X1.c5
  have X1z : X1a < w7.heap.size := X1.lt
  go_wp2_with fail
  clear X1c0 X1c1 X1c2 X1c3 X1c4 X1z
  have hst := ((Below.refl w7.heap.size w7).alloc (by simp <;> omega) (.cells #[.slice Aq4 nq4 cq4, .slice Aa4 na4 ca4, .slice As4 ns4 cs4, .slice Ah4 nh4 ch4, .slice Af4 nf4 cf4] 49))
  have hBo := hB
  have X1o := X1
  have X1 := X1.later hst
  have hX1 := hid_bx hX1 hst
  have hB := hB.trans (hst.mono hB.size)
  have X4 := (Box.newAt (w := w7) (n := w7.heap.size) [.slice Aq4 nq4 cq4, .slice Aa4 na4 ca4, .slice As4 ns4 cs4, .slice Ah4 nh4 ch4, .slice Af4 nf4 cf4] 49 (by simp))
  clear hst
  generalize (w7.alloc (.cells #[.slice Aq4 nq4 cq4, .slice Aa4 na4 ca4, .slice As4 ns4 cs4, .slice Ah4 nh4 ch4, .slice Af4 nf4 cf4] 49)) = w8 at hB X1 X4 hX1 ⊢
  generalize w7.heap.size = X4a at X4 ⊢
  refine (oDeliverV_is owA 0 hX1 (T := (Bx.zero, false, 1)) (Lib.hid ov5)).mono ?_
  rintro e w9 hh
  obtain ⟨Aq5, nq5, cq5, Aa5, na5, ca5, As5, ns5, cs5, Ah5, nh5, ch5, Af5, nf5, cf5, rfl, hX5, hb, -⟩ := hh.sl
  have X1 := X1.later hb
  have X4 := X4.later hb
  have hX1 := hid_bx hX1 hb
  have hB := hB.trans (hb.mono hB.size)
  clear hb
  clear X4
  obtain ⟨X1c0, X1c1, X1c2, X1c3, X1c4⟩ := X1.c5
  have X1z : X1a < w9.heap.size := X1.lt
  go_wp2_with fail
  clear X1c0 X1c1 X1c2 X1c3 X1c4 X1z
  have hst := ((Below.refl w9.heap.size w9).alloc (by simp <;> omega) (.cells #[.slice Aq5 nq5 cq5, .slice Aa5 na5 ca5, .slice As5 ns5 cs5, .slice Ah5 nh5 ch5, .slice Af5 nf5 cf5] 49))
  have hBo := hB
  have X1o := X1
  have X1 := X1.later hst
  have hX1 := hid_bx hX1 hst
  have hB := hB.trans (hst.mono hB.size)
  have X5 := (Box.newAt (w := w9) (n := w9.heap.size) [.slice Aq5 nq5 cq5, .slice Aa5 na5 ca5, .slice As5 ns5 cs5, .slice Ah5 nh5 ch5, .slice Af5 nf5 cf5] 49 (by simp))
  clear hst
  generalize (w9.alloc (.cells #[.slice Aq5 nq5 cq5, .slice Aa5 na5 ca5, .slice As5 ns5 cs5, .slice Ah5 nh5 ch5, .slice Af5 nf5 cf5] 49)) = w10 at hB X1 X5 hX1 ⊢
  generalize w9.heap.size = X5a at X5 ⊢
  refine (oCheck_is (Lib.hid ov6) hX1.out).mono ?_
  rintro e w11 ⟨rfl, hb⟩
  have X1 := X1.later hb
  have X5 := X5.later hb
  have hX1 := hid_bx hX1 hb
  have hB := hB.trans (hb.mono hB.size)
  clear hb
  clear X5
  obtain ⟨X1c0, X1c1, X1c2, X1c3, X1c4⟩ := X1.c5
  have X1z : X1a < w11.heap.size := X1.lt
  go_wp2_with fail
  clear X1c0 X1c1 X1c2 X1c3 X1c4 X1z
  refine (oCheck_is (Lib.hid ov7) (bxAt_zero _ _)).mono ?_
  rintro e w12 ⟨rfl, hb⟩
  have X1 := X1.later hb
  have hX1 := hid_bx hX1 hb
  have hB := hB.trans (hb.mono hB.size)
  clear hb
  obtain ⟨X1c0, X1c1, X1c2, X1c3, X1c4⟩ := X1.c5
  have X1z : X1a < w12.heap.size := X1.lt
  go_wp2_with fail
  clear X1c0 X1c1 X1c2 X1c3 X1c4 X1z
  refine (oSendV_is owA 1 5 hX1 (T := (owX, 0)) (Lib.hid ov8)).mono ?_
  rintro e w13 hh
  obtain ⟨Aq6, nq6, cq6, Aa6, na6, ca6, As6, ns6, cs6, Ah6, nh6, ch6, Af6, nf6, cf6, rfl, hX6, hb, -⟩ := hh.sl1
  have X1 := X1.later hb
  have hX1 := hid_bx hX1 hb
  have hB := hB.trans (hb.mono hB.size)
  clear hb
  clear X1 hX1
  go_wp2_with fail
  have hst := ((Below.refl w13.heap.size w13).alloc (by simp <;> omega) (.cells #[.slice Aq6 nq6 cq6, .slice Aa6 na6 ca6, .slice As6 ns6 cs6, .slice Ah6 nh6 ch6, .slice Af6 nf6 cf6] 49))
  have hBo := hB
  have hX6 := hid_bx hX6 hst
  have hB := hB.trans (hst.mono hB.size)
  have X6 := (Box.newAt (w := w13) (n := w13.heap.size) [.slice Aq6 nq6 cq6, .slice Aa6 na6 ca6, .slice As6 ns6 cs6, .slice Ah6 nh6 ch6, .slice Af6 nf6 cf6] 49 (by simp))
  clear hst
  generalize (w13.alloc (.cells #[.slice Aq6 nq6 cq6, .slice Aa6 na6 ca6, .slice As6 ns6 cs6, .slice Ah6 nh6 ch6, .slice Af6 nf6 cf6] 49)) = w14 at hB  X6 hX6 ⊢
  generalize w13.heap.size = X6a at X6 ⊢
  refine (oSendV_is owX 1 3 hX6 (T := (owY, 0)) (Lib.hid ov9)).mono ?_
  rintro e w15 hh
  obtain ⟨Aq7, nq7, cq7, Aa7, na7, ca7, As7, ns7, cs7, Ah7, nh7, ch7, Af7, nf7, cf7, rfl, hX7, hb, -⟩ := hh.sl1
  have X6 := X6.later hb
  have hX6 := hid_bx hX6 hb
  have hB := hB.trans (hb.mono hB.size)
  clear hb
  clear X6 hX6
  go_wp2_with fail
  have hst := ((Below.refl w15.heap.size w15).alloc (by simp <;> omega) (.cells #[.slice Aq7 nq7 cq7, .slice Aa7 na7 ca7, .slice As7 ns7 cs7, .slice Ah7 nh7 ch7, .slice Af7 nf7 cf7] 49))
  have hBo := hB
  have hX7 := hid_bx hX7 hst
  have hB := hB.trans (hst.mono hB.size)
  have X7 := (Box.newAt (w := w15) (n := w15.heap.size) [.slice Aq7 nq7 cq7, .slice Aa7 na7 ca7, .slice As7 ns7 cs7, .slice Ah7 nh7 ch7, .slice Af7 nf7 cf7] 49 (by simp))
  have gX7 : w.heap.size ≤ w15.heap.size := by have := hBo.size; omega
  clear hst
  generalize (w15.alloc (.cells #[.slice Aq7 nq7 cq7, .slice Aa7 na7 ca7, .slice As7 ns7 cs7, .slice Ah7 nh7 ch7, .slice Af7 nf7 cf7] 49)) = w16 at hB  X7 hX7 ⊢
  generalize w15.heap.size = X7a at X7 gX7 ⊢
  refine (oDeliverV_is owY 1 hX7 (T := (owD, true, 0)) (Lib.hid ov10)).mono ?_
  rintro e w17 hh
  obtain ⟨Aq8, nq8, cq8, Aa8, na8, ca8, As8, ns8, cs8, Ah8, nh8, ch8, Af8, nf8, cf8, rfl, hX8, hb, -⟩ := hh.sl
  have X7 := X7.later hb
  have hX7 := hid_bx hX7 hb
  have hB := hB.trans (hb.mono hB.size)
  clear hb
  clear hX7
  have X7f0 : w17.frozen? ⟨X7a, 0, none⟩ = false := X7.free 0
  have X7f1 : w17.frozen? ⟨X7a, 1, none⟩ = false := X7.free 1
  have X7f2 : w17.frozen? ⟨X7a, 2, none⟩ = false := X7.free 2
  have X7f3 : w17.frozen? ⟨X7a, 3, none⟩ = false := X7.free 3
  have X7f4 : w17.frozen? ⟨X7a, 4, none⟩ = false := X7.free 4
  obtain ⟨X7c0, X7c1, X7c2, X7c3, X7c4⟩ := X7.c5
  have X7z : X7a < w17.heap.size := X7.lt
  go_wp2_with fail
  clear X7c0 X7f0 X7c1 X7f1 X7c2 X7f2 X7c3 X7f3 X7c4 X7f4 X7z
  have hX8 := bx_set (Aq := Aq8) (nq := nq8) (cq := cq8) (Aa := Aa8) (na := na8) (ca := ca8) (As := As8) (ns := ns8) (cs := cs8) (Ah := Ah8) (nh := nh8) (ch := ch8) (Af := Af8) (nf := nf8) (cf := cf8) hX8 X7
  have hB := (((((hB.setCell (p := ⟨X7a, 0, none⟩) gX7 (.slice Aq8 nq8 cq8)).setCell (p := ⟨X7a, 1, none⟩) gX7 (.slice Aa8 na8 ca8)).setCell (p := ⟨X7a, 2, none⟩) gX7 (.slice As8 ns8 cs8)).setCell (p := ⟨X7a, 3, none⟩) gX7 (.slice Ah8 nh8 ch8)).setCell (p := ⟨X7a, 4, none⟩) gX7 (.slice Af8 nf8 cf8))
  have X7 := (((((X7.set 0 (.slice Aq8 nq8 cq8)).set 1 (.slice Aa8 na8 ca8)).set 2 (.slice As8 ns8 cs8)).set 3 (.slice Ah8 nh8 ch8)).set 4 (.slice Af8 nf8 cf8))
  simp only [List.set_cons_zero, List.set_cons_succ] at X7
  generalize (((((w17.setCell ⟨X7a, 0, none⟩ (.slice Aq8 nq8 cq8)).setCell ⟨X7a, 1, none⟩ (.slice Aa8 na8 ca8)).setCell ⟨X7a, 2, none⟩ (.slice As8 ns8 cs8)).setCell ⟨X7a, 3, none⟩ (.slice Ah8 nh8 ch8)).setCell ⟨X7a, 4, none⟩ (.slice Af8 nf8 cf8)) = w18 at hB X7 hX8 ⊢
  refine (oDeliverV_is owD 0 hX8 (T := (owE, false, 0)) (Lib.hid ov11)).mono ?_
  rintro e w19 hh
  obtain ⟨Aq9, nq9, cq9, Aa9, na9, ca9, As9, ns9, cs9, Ah9, nh9, ch9, Af9, nf9, cf9, rfl, hX9, hb, -⟩ := hh.sl
  have X7 := X7.later hb
  have hX8 := hid_bx hX8 hb
  have hB := hB.trans (hb.mono hB.size)
  clear hb
  clear hX8
  have X7f0 : w19.frozen? ⟨X7a, 0, none⟩ = false := X7.free 0
  have X7f1 : w19.frozen? ⟨X7a, 1, none⟩ = false := X7.free 1
  have X7f2 : w19.frozen? ⟨X7a, 2, none⟩ = false := X7.free 2
  have X7f3 : w19.frozen? ⟨X7a, 3, none⟩ = false := X7.free 3
  have X7f4 : w19.frozen? ⟨X7a, 4, none⟩ = false := X7.free 4
  obtain ⟨X7c0, X7c1, X7c2, X7c3, X7c4⟩ := X7.c5
  have X7z : X7a < w19.heap.size := X7.lt
  go_wp2_with fail
  clear X7c0 X7f0 X7c1 X7f1 X7c2 X7f2 X7c3 X7f3 X7c4 X7f4 X7z
  have hX9 := bx_set (Aq := Aq9) (nq := nq9) (cq := cq9) (Aa := Aa9) (na := na9) (ca := ca9) (As := As9) (ns := ns9) (cs := cs9) (Ah := Ah9) (nh := nh9) (ch := ch9) (Af := Af9) (nf := nf9) (cf := cf9) hX9 X7
  have hB := (((((hB.setCell (p := ⟨X7a, 0, none⟩) gX7 (.slice Aq9 nq9 cq9)).setCell (p := ⟨X7a, 1, none⟩) gX7 (.slice Aa9 na9 ca9)).setCell (p := ⟨X7a, 2, none⟩) gX7 (.slice As9 ns9 cs9)).setCell (p := ⟨X7a, 3, none⟩) gX7 (.slice Ah9 nh9 ch9)).setCell (p := ⟨X7a, 4, none⟩) gX7 (.slice Af9 nf9 cf9))
  have X7 := (((((X7.set 0 (.slice Aq9 nq9 cq9)).set 1 (.slice Aa9 na9 ca9)).set 2 (.slice As9 ns9 cs9)).set 3 (.slice Ah9 nh9 ch9)).set 4 (.slice Af9 nf9 cf9))
  simp only [List.set_cons_zero, List.set_cons_succ] at X7
  generalize (((((w19.setCell ⟨X7a, 0, none⟩ (.slice Aq9 nq9 cq9)).setCell ⟨X7a, 1, none⟩ (.slice Aa9 na9 ca9)).setCell ⟨X7a, 2, none⟩ (.slice As9 ns9 cs9)).setCell ⟨X7a, 3, none⟩ (.slice Ah9 nh9 ch9)).setCell ⟨X7a, 4, none⟩ (.slice Af9 nf9 cf9)) = w20 at hB X7 hX9 ⊢
  refine (oTickV_is owE hX9 (T := (owT, [-1, 3], 0)) (Lib.hid ov12)).mono ?_
  rintro e w21 hh
  obtain ⟨Aq10, nq10, cq10, Aa10, na10, ca10, As10, ns10, cs10, Ah10, nh10, ch10, Af10, nf10, cf10, Al10, nl10, cl10, rfl, hX10, hL10, hb, -⟩ := hh.sl
  have X7 := X7.later hb
  have hX9 := hid_bx hX9 hb
  have hB := hB.trans (hb.mono hB.size)
  clear hb
  clear X7 hX9
  go_wp2_with fail
  have hst := ((Below.refl w21.heap.size w21).alloc (by simp <;> omega) (.cells #[.slice Aq10 nq10 cq10, .slice Aa10 na10 ca10, .slice As10 ns10 cs10, .slice Ah10 nh10 ch10, .slice Af10 nf10 cf10] 49))
  have hBo := hB
  have hX10 := hid_bx hX10 hst
  have hL10 := hid_hd hL10 hst
  have hB := hB.trans (hst.mono hB.size)
  have X10 := (Box.newAt (w := w21) (n := w21.heap.size) [.slice Aq10 nq10 cq10, .slice Aa10 na10 ca10, .slice As10 ns10 cs10, .slice Ah10 nh10 ch10, .slice Af10 nf10 cf10] 49 (by simp))
  clear hst
  generalize (w21.alloc (.cells #[.slice Aq10 nq10 cq10, .slice Aa10 na10 ca10, .slice As10 ns10 cs10, .slice Ah10 nh10 ch10, .slice Af10 nf10 cf10] 49)) = w22 at hB  X10 hX10 hL10 ⊢
  generalize w21.heap.size = X10a at X10 ⊢
  refine (oTickV_is owT hX10 (T := (owT, [-1, -1], 0)) (Lib.hid ov13)).mono ?_
  rintro e w23 hh
  obtain ⟨Aq11, nq11, cq11, Aa11, na11, ca11, As11, ns11, cs11, Ah11, nh11, ch11, Af11, nf11, cf11, Al11, nl11, cl11, rfl, hX11, hL11, hb, -⟩ := hh.sl
  have X10 := X10.later hb
  have hX10 := hid_bx hX10 hb
  have hL10 := hid_hd hL10 hb
  have hB := hB.trans (hb.mono hB.size)
  clear hb
  clear X10 hX10
  go_wp2_with fail
  have hst := (((Below.refl w23.heap.size w23).alloc (by simp <;> omega) (.cells #[.slice Aq11 nq11 cq11, .slice Aa11 na11 ca11, .slice As11 ns11 cs11, .slice Ah11 nh11 ch11, .slice Af11 nf11 cf11] 49)).alloc (by simp <;> omega) (.cells #[.int .i64 (-1), .int .i64 3] 3))
  have hBo := hB
  have hL10 := hid_hd hL10 hst
  have hL11 := hid_hd hL11 hst
  have hB := hB.trans (hst.mono hB.size)
  have X11 := ((Box.newAt (w := w23) (n := w23.heap.size) [.slice Aq11 nq11 cq11, .slice Aa11 na11 ca11, .slice As11 ns11 cs11, .slice Ah11 nh11 ch11, .slice Af11 nf11 cf11] 49 (by simp)).alloc (.cells #[.int .i64 (-1), .int .i64 3] 3))
  have B12 := (Box.newAt (w := (w23.alloc (.cells #[.slice Aq11 nq11 cq11, .slice Aa11 na11 ca11, .slice As11 ns11 cs11, .slice Ah11 nh11 ch11, .slice Af11 nf11 cf11] 49))) (n := w23.heap.size + 1) [.int .i64 (-1), .int .i64 3] 3 (by simp))
  clear hst
  generalize ((w23.alloc (.cells #[.slice Aq11 nq11 cq11, .slice Aa11 na11 ca11, .slice As11 ns11 cs11, .slice Ah11 nh11 ch11, .slice Af11 nf11 cf11] 49)).alloc (.cells #[.int .i64 (-1), .int .i64 3] 3)) = w24 at hB  X11 B12 hL10 hL11 ⊢
  generalize w23.heap.size + 1 = B12a at X11 B12 ⊢
  generalize w23.heap.size = X11a at X11 B12 ⊢
  refine (rSameInts_is hL10 (Lib.hid (box_hd (l := [-1, 3]) B12 (by simp [maxLen]))) (T := true) (Lib.hid (by decide))).mono ?_
  rintro e w25 ⟨rfl, hb⟩
  have X11 := X11.later hb
  have B12 := B12.later hb
  have hL10 := hid_hd hL10 hb
  have hL11 := hid_hd hL11 hb
  have hB := hB.trans (hb.mono hB.size)
  clear hb
  clear B12 X11
  go_wp2_with fail
  have hst := ((Below.refl w25.heap.size w25).alloc (by simp <;> omega) (.cells #[.int .i64 (-1), .int .i64 (-1)] 3))
  have hBo := hB
  have hL10 := hid_hd hL10 hst
  have hL11 := hid_hd hL11 hst
  have hB := hB.trans (hst.mono hB.size)
  have B13 := (Box.newAt (w := w25) (n := w25.heap.size) [.int .i64 (-1), .int .i64 (-1)] 3 (by simp))
  clear hst
  generalize (w25.alloc (.cells #[.int .i64 (-1), .int .i64 (-1)] 3)) = w26 at hB  B13 hL10 hL11 ⊢
  generalize w25.heap.size = B13a at B13 ⊢
  refine (rSameInts_is hL11 (Lib.hid (box_hd (l := [-1, -1]) B13 (by simp [maxLen]))) (T := true) (Lib.hid (by decide))).mono ?_
  rintro e w27 ⟨rfl, hb⟩
  have B13 := B13.later hb
  have hL10 := hid_hd hL10 hb
  have hL11 := hid_hd hL11 hb
  have hB := hB.trans (hb.mono hB.size)
  clear hb
  go_wp2
  go_ret
  exact ⟨by first | rfl | simp, hB⟩
end Go.Proofs.YtmbifmmkccghfaaGreat
namespace Go.Proofs.YtmbifmmkccghfaaGreat
open Go.RowKit Go.Shelf
theorem zFew_go (p : Pl) (code : List Ln) (A : Option Addr) (n c : Nat) (A2 : Option Addr) (nb cb : Nat) (w : World) (hC : Hid (CodeAt w w.heap.size (.slice A n c) code)) (HN : Hid (code.length = n)) (hm : n ≤ 9223372036854775807) (hmb : nb ≤ 9223372036854775807) :
    Calls Tryz.prog 5 #[.agg #[.int .i64 p.top, .int .i64 p.bank, .int .i64 p.siphon, .int .i64 p.start, .int .i64 p.positions, .int .i64 p.rate, .int .i64 p.step, .int .i64 p.pass, .int .i64 p.feed, .int .i64 p.pipe, .int .i64 p.orders, .int .i64 p.age], .agg #[.slice A n c], .slice A2 nb cb] w fun e w' => ∃ t, e = .returned (.bool t) ∧ Below w.heap.size w w' := by
  obtain ⟨ck, hck⟩ : ∃ ck, p.checkT = ck := ⟨_, rfl⟩
  obtain ⟨ni, er, hct⟩ : ∃ ni er, p.countT = (ni, er) := ⟨_, _, rfl⟩
  replace hck := Lib.hid hck
  replace hct := Lib.hid hct
  go_enter Tryz.func5, Tryz.ntmps5
  have hB := ((Below.refl w.heap.size w).alloc (Nat.le_refl _) (.cells #[.int .i64 p.top, .int .i64 p.bank, .int .i64 p.siphon, .int .i64 p.start, .int .i64 p.positions, .int .i64 p.rate, .int .i64 p.step, .int .i64 p.pass, .int .i64 p.feed, .int .i64 p.pipe, .int .i64 p.orders, .int .i64 p.age] 23)).alloc (by simp) (.cells #[.slice A n c] 26)
  have XP := (Box.new w [.int .i64 p.top, .int .i64 p.bank, .int .i64 p.siphon, .int .i64 p.start, .int .i64 p.positions, .int .i64 p.rate, .int .i64 p.step, .int .i64 p.pass, .int .i64 p.feed, .int .i64 p.pipe, .int .i64 p.orders, .int .i64 p.age] 23).alloc (.cells #[.slice A n c] 26)
  have XC := Box.newAt (w := w.alloc (.cells #[.int .i64 p.top, .int .i64 p.bank, .int .i64 p.siphon, .int .i64 p.start, .int .i64 p.positions, .int .i64 p.rate, .int .i64 p.step, .int .i64 p.pass, .int .i64 p.feed, .int .i64 p.pipe, .int .i64 p.orders, .int .i64 p.age] 23)) (n := w.heap.size + 1) [.slice A n c] 26 (by simp)
  go_upto_region 1 with fail
  have HC := Lib.hid (hC.out.later hB)
  generalize (w.alloc (.cells #[.int .i64 p.top, .int .i64 p.bank, .int .i64 p.siphon, .int .i64 p.start, .int .i64 p.positions, .int .i64 p.rate, .int .i64 p.step, .int .i64 p.pass, .int .i64 p.feed, .int .i64 p.pipe, .int .i64 p.orders, .int .i64 p.age] 23)).alloc (.cells #[.slice A n c] 26) = W at hB XP XC HC ⊢
  have c0 : W.cell? ⟨w.heap.size + 1, 0, none⟩ = some (.slice A n c) := XC.cell 0
  have zc := XC.lt
  obtain ⟨t0, ht0⟩ : ∃ t0, (decide (40 < nb) || ((decide (20 < n) && decide (n ≤ 64)) || decide (100 < n))) = t0 := ⟨_, rfl⟩
  replace ht0 := Lib.hid ht0
  go_cut [30] (fun s30 wx => s30 = .bool t0 ∧ W = wx)
  case first =>
    by_cases h1 : 40 < nb
    · have e1 : (40 : Int) < (nb : Int) := by omega
      obtain rfl : t0 = true := by rw [← ht0.out, decide_eq_true h1]; rfl
      go_wp2_with fail
      go_meet
      exact ⟨rfl, rfl⟩
    have e1 : ¬ (40 : Int) < (nb : Int) := by omega
    by_cases h2 : 20 < n
    · have e2 : (20 : Int) < (n : Int) := by omega
      by_cases h3 : n ≤ 64
      · have e3 : (n : Int) ≤ 64 := by omega
        obtain rfl : t0 = true := by rw [← ht0.out, decide_eq_false h1, decide_eq_true h2, decide_eq_true h3]; rfl
        go_wp2_with fail
        go_meet
        exact ⟨rfl, rfl⟩
      have e3 : ¬ (n : Int) ≤ 64 := by omega
      by_cases h4 : 100 < n
      · have e4 : (100 : Int) < (n : Int) := by omega
        obtain rfl : t0 = true := by rw [← ht0.out, decide_eq_false h1, decide_eq_true h2, decide_eq_false h3, decide_eq_true h4]; rfl
        go_wp2_with fail
        go_meet
        exact ⟨rfl, rfl⟩
      have e4 : ¬ (100 : Int) < (n : Int) := by omega
      obtain rfl : t0 = false := by rw [← ht0.out, decide_eq_false h1, decide_eq_true h2, decide_eq_false h3, decide_eq_false h4]; rfl
      go_wp2_with fail
      go_meet
      exact ⟨rfl, rfl⟩
    have e2 : ¬ (20 : Int) < (n : Int) := by omega
    have h4 : ¬ 100 < n := by omega
    have e4 : ¬ (100 : Int) < (n : Int) := by omega
    obtain rfl : t0 = false := by rw [← ht0.out, decide_eq_false h1, decide_eq_false h2, decide_eq_false h4]; rfl
    go_wp2_with fail
    go_meet
    exact ⟨rfl, rfl⟩
  case rest =>
  obtain ⟨rfl, hw⟩ := hcut
  subst hw
  cases t0 with
  | true =>
    go_wp2
    go_ret
    first | exact ⟨_, rfl, hB⟩ | exact ⟨.inl rfl, hB⟩
  | false =>
  go_upto_region 4 with fail
  go_loop [7] (fun i => ∃ k : Nat, k ≤ n ∧ i = .int .i64 k) (fun i => n - (intOf i).toNat)
  case atStart => exact ⟨0, by omega, rfl⟩
  case round =>
    obtain ⟨k, hk, rfl⟩ := hrel
    by_cases hlt : k < n
    · have hkl : k < code.length := by rw [HN.out]; exact hlt
      obtain ⟨b, off, V, rfl, hbw, p0, p1, hV⟩ := HC.out.line hkl
      obtain ⟨A', c', rfl, hm'⟩ := hV.form
      generalize code[k].conds.length = m at p0 hm'
      unfold maxLen at hm'
      clear hV p1
      by_cases h20 : m ≤ 20
      · have e1 : ¬ (20 : Int) < (m : Int) := by omega
        go_wp2
        exact ⟨⟨k + 1, by omega, by go_num⟩, by simp [intOf]; omega⟩
      · have e1 : (20 : Int) < (m : Int) := by omega
        go_wp2
        go_ret
        first | exact ⟨_, rfl, hB⟩ | exact ⟨.inl rfl, hB⟩
    obtain rfl : k = n := by omega
    clear hlt
    have zp := XP.lt
    obtain ⟨XPc0, XPc1, XPc2, XPc3, XPc4, XPc5, XPc6, XPc7, XPc8, XPc9, XPc10, XPc11⟩ := XP.c12
    go_wp2_with fail
    refine (rcheck_at hck _).mono ?_
    rintro e w2 ⟨rfl, hb⟩
    have hB := hB.trans (hb.mono hB.size)
    have XP := XP.later hb
    clear hb zp XPc0 XPc1 XPc2 XPc3 XPc4 XPc5 XPc6 XPc7 XPc8 XPc9 XPc10 XPc11
    by_cases hc0 : ck = 0
    rotate_left
    · have e0 : (ck != 0) = true := by simp [hc0]
      go_wp2
      go_ret
      first | exact ⟨_, rfl, hB⟩ | exact ⟨.inl rfl, hB⟩
    subst hc0
    have zp := XP.lt
    obtain ⟨XPc0, XPc1, XPc2, XPc3, XPc4, XPc5, XPc6, XPc7, XPc8, XPc9, XPc10, XPc11⟩ := XP.c12
    go_wp2_with fail
    refine (rcount_is hct).mono ?_
    rintro e w3 ⟨rfl, hb⟩
    have hB := hB.trans (hb.mono hB.size)
    have XP := XP.later hb
    clear hb zp XPc0 XPc1 XPc2 XPc3 XPc4 XPc5 XPc6 XPc7 XPc8 XPc9 XPc10 XPc11
    have c8 : w3.cell? ⟨w.heap.size, 8, none⟩ = some (.int .i64 p.feed) := XP.cell 8
    have c10 : w3.cell? ⟨w.heap.size, 10, none⟩ = some (.int .i64 p.orders) := XP.cell 10
    have zp := XP.lt
    by_cases h9 : ni ≤ 1000
    · have e9 : decide (ni ≤ 1000) = true := decide_eq_true h9
      go_wp2
      go_ret
      first | exact ⟨_, rfl, hB⟩ | exact ⟨.inl rfl, hB⟩
    · have e9 : decide (ni ≤ 1000) = false := decide_eq_false h9
      go_wp2
      go_ret
      first | exact ⟨_, rfl, hB⟩ | exact ⟨.inl rfl, hB⟩
theorem zFew_is {p : Pl} {code : List Ln} {bar : List Iq} {V U : Value} {w : World} (hC : CodeAt w w.heap.size V code) (hQ : BarAt w w.heap.size U bar) :
    Calls Tryz.prog 5 #[p.v, .agg #[V], U] w fun e w' => ∃ t, e = .returned (.bool t) ∧ Below w.heap.size w w' := by
  obtain ⟨A, c, rfl, hm⟩ := hC.form
  obtain ⟨A2, c2, rfl, hm2⟩ := hQ.form
  unfold maxLen at hm hm2
  exact zFew_go p code A _ c A2 _ c2 w (Lib.hid hC) (Lib.hid rfl) (by omega) (by omega)
end Go.Proofs.YtmbifmmkccghfaaGreat
namespace Go.Proofs.YtmbifmmkccghfaaGreat
open Go.RowKit
def topL (ap : List (Int × Int)) (g : Nat) : Int → List Pk → Int
  | h, [] => h
  | h, p :: q => topL ap g (max h (val ap g p)) q
def Bx.top (b : Bx) (g : Nat) : Int := topL b.net.apart g (b.h g) b.net.queue
structure Flow (b x : Bx) : Prop where
  ok : x.okB = true
  len : x.heard.length = b.heard.length
  sent : x.sent = b.sent
  top : ∀ g : Nat, g < b.heard.length → x.top g = b.top g
theorem Flow.refl {b : Bx} (h : b.okB = true) : Flow b b := ⟨h, rfl, rfl, fun _ _ => rfl⟩
theorem Flow.trans {b x y : Bx} (h : Flow b x) (h2 : Flow x y) : Flow b y := ⟨h2.ok, h2.len.trans h.len, h2.sent.trans h.sent, fun g hg => (h2.top g (by rw [h.len]; exact hg)).trans (h.top g hg)⟩
structure Done (b x : Bx) : Prop where
  flow : Flow b x
  empty : x.net.queue.length = 0
theorem Done.h {b x : Bx} (h : Done b x) {g : Nat} (hg : g < b.heard.length) : x.h g = b.top g := by
  have h1 := h.flow.top g hg
  have h2 : x.net.queue = [] := List.length_eq_zero_iff.1 h.empty
  rw [Bx.top, h2] at h1
  exact h1
theorem Done.same {b c x y : Bx} (h : Done b x) (hc : Flow b c) (h2 : Done c y) : y.heard = x.heard := by
  have h2' : Done b y := ⟨hc.trans h2.flow, h2.empty⟩
  refine ints_eq (n := b.heard.length) h2'.flow.len h.flow.len fun j hj => ?_
  exact (h2'.h hj).trans (h.h hj).symm
end Go.Proofs.YtmbifmmkccghfaaGreat
namespace Go.Proofs.YtmbifmmkccghfaaGreat
open Go.RowKit Go.Shelf
attribute [local go_sem] Oper.semAt_some
end Go.Proofs.YtmbifmmkccghfaaGreat
namespace Go.Proofs.YtmbifmmkccghfaaGreat
open Go.ChangeShapes Go.WideShapes Go.ChangeAt Go.RowKit Go.Joins Go.Deep
theorem cell_int {H : Type} {enc : TypeId × Value → H} {P : Program} {w : World} {base : Nat} {spare : Nat → Bool} {held : Bool} {t : TypeId} {k : IntKind} {n : Nat} {v : Value} {y : DataW H × List MemPlace}
    (ht : P.underlying t = some (.int k)) (h : DataW.trod enc P w base spare held n t [v] = some y) : ∃ x : Int, v = .int k x ∧ (Lit.int k x).wf = true := by
  obtain ⟨x, hx, _, hw⟩ := DataW.trod_int ht h
  exact ⟨x, by simpa using hx, hw⟩
section
variable {H : Type} {enc : TypeId × Value → H} {P : Program} {w : World} {base : Nat} {spare : Nat → Bool} {held : Bool}
theorem open_slice_fields {t e : TypeId} {fs : Array Field} {fuel : Nat} {cs : List Value} {x : DataW H × List MemPlace} (ht : P.underlying t = some (.slice e)) (he : P.underlying e = some (.struct fs))
    (hone : oneCellFields P fs = true) (hC : P.cellsOf e = fs.size) (h : DataW.trod enc P w base spare held fuel t cs = some x) :
    (cs = [.slice none 0 0] ∧ x = (.nil, [])) ∨
    ∃ (a : Addr) (len cap m : Nat) (D : Nat → DataW H) (Pl : Nat → List MemPlace), cs = [.slice (some a) len cap] ∧ base ≤ a.block ∧ len ≤ cap ∧ cap ≤ maxLen ∧ m = (if spare a.block then cap else len) ∧
      x = (.slice ((List.range len).map D) ((List.range (m - len)).map fun j => D (len + j)), MemPlace.row a (m * fs.size) ++ (List.range m).flatMap Pl) ∧
      ∀ i, i < m → ∃ (ys : List (DataW H × List MemPlace)) (n : Nat), D i = .agg (ys.map (·.1)) ∧ Pl i = ys.flatMap (·.2) ∧ ys.length = fs.size ∧
        ∀ (j : Nat) (f : Field), fs[j]? = some f → ∃ (v : Value) (y : DataW H × List MemPlace), w.cell? (a.add (i * fs.size + j)) = some v ∧ ys[j]? = some y ∧ DataW.trod enc P w base spare held n f.type [v] = some y := by
  rcases open_slice ht h with h0 | ⟨a, len, cap, m, n, D, Pl, hcs, hb, hl, hm, hmm, hx, hi⟩
  · exact .inl h0
  · refine .inr ⟨a, len, cap, m, D, Pl, hcs, hb, hl, hm, hmm, by rw [hC] at hx; exact hx, fun i him => ?_⟩
    obtain ⟨cs', hc, ht'⟩ := hi i him
    rw [hC] at hc
    obtain ⟨ys, n', hn', hy, hlen, hyl, hf⟩ := DataW.trod_struct he ht'
    obtain ⟨_, hcl, hat⟩ := World.cells?_some hc
    simp only [Prod.mk.injEq] at hy
    refine ⟨ys, n', hy.1, hy.2, hyl, fun j f hj => ?_⟩
    obtain ⟨ho, hk⟩ := hone_of hone j f hj
    have hjl : j < fs.size := (Array.getElem?_eq_some_iff.1 hj).1
    have hcell := hat j hjl
    have hv : cs'[j]? = some (cs'[j]'(by omega)) := List.getElem?_eq_getElem (by omega)
    have h1 := hf j f hj
    rw [ho, hk] at h1
    have hone' : (cs'.drop j).take 1 = [cs'[j]'(by omega)] := by
      rw [List.drop_eq_getElem_cons (by omega)]
      rfl
    rw [hone'] at h1
    have hys : ys[j]? = some (ys[j]'(by omega)) := List.getElem?_eq_getElem (by omega)
    refine ⟨_, _, ?_, hys, h1.trans hys⟩
    rw [← Go.Deep.add_add, hcell, hv]
end
theorem exists_list {α : Type} (P : Nat → α → Prop) : ∀ n, (∀ i, i < n → ∃ a, P i a) → ∃ l : List α, l.length = n ∧ ∀ i a, l[i]? = some a → P i a
  | 0, _ => ⟨[], rfl, fun i a h => by simp at h⟩
  | n + 1, h => by
    obtain ⟨l, hl, hp⟩ := exists_list P n (fun i hi => h i (by omega))
    obtain ⟨a, ha⟩ := h n (by omega)
    refine ⟨l ++ [a], by simp [hl], fun i b hb => ?_⟩
    rcases Nat.lt_trichotomy i n with hi | rfl | hi
    · rw [List.getElem?_append_left (by omega)] at hb
      exact hp i b hb
    · rw [List.getElem?_append_right (by omega), hl] at hb
      simp at hb
      subst hb
      exact ha
    · rw [List.getElem?_eq_none (by simp; omega)] at hb
      cases hb
theorem spot_none {w : World} {a : Addr} {v : Value} (h : w.cell? a = some v) : a.spot = none := by
  unfold World.cell? at h
  split at h
  · split at h
    · cases h
    · rename_i hs
      cases hq : a.spot with
      | none => rfl
      | some q => rw [hq] at hs; exact absurd rfl hs
  · cases h
end Go.Proofs.YtmbifmmkccghfaaGreat
namespace Go.Proofs.YtmbifmmkccghfaaGreat
open Go.ChangeShapes Go.WideShapes Go.ChangeAt Go.RowKit Go.Joins Go.Deep
section
variable {H : Type} {enc : TypeId × Value → H} {w : World} {base : Nat} {spare : Nat → Bool} {held : Bool}
end
end Go.Proofs.YtmbifmmkccghfaaGreat
