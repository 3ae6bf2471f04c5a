/- Contract of Deliver of network. (Printed by gen_no.py.) -/
import Derived.Test.YtmbifmmkccghfaaQ2NI
import Derived.Deep.RegionWith
import Derived.RangeFuncNested
import Derived.RangeFuncBound
import Derived.RangeFuncCalls
import Derived.RangeFuncLeaves
import Derived.RangeFuncBox
import Derived.Shelf.Abstract
import Derived.Shelf.RegionOpen
import Derived.OwnWalkIn
import Derived.TacticsInMore
import Derived.LoopNIn
import Derived.LoopIn
import Derived.Maps.AppendAt
set_option linter.unusedVariables false
set_option linter.unusedSimpArgs false
namespace Go.Proofs.Ytmbifmmkccghfaa
open Go.RowKit

def RetDel (t : Pk × Net × Int) (D : Nat) (w : World) (e : Ending) (w' : World) : Prop := ∃ (V : Value) (p : Pk) (Vq Va : Value) (m : Net) (er : Int), e = .returned (.tuple #[p.v V, .agg #[Vq, Va], .int .i64 er]) ∧ Hid (t = (p, m, er)) ∧ Hid (BytesAt w' D V p.data) ∧ Hid (Net2 w' D w.heap.size Vq Va m) ∧ Below w.heap.size w w'
theorem nAt_bad {n : Net} {Vq Va : Value} {i c : Int} {w : World} {D : Nat} (h : Hid (askTN n i = c)) (hc : (c != 0) = true) (hDw : D ≤ w.heap.size) (hN : NetAt w D Vq Va n) : Calls Try.prog 70 #[.agg #[Vq, Va], .int .i64 i] w fun e w' => ∃ (A : Option Addr) (k : Nat), e = .returned (.tuple #[.agg #[.int .i64 0, .int .i64 0, .slice A 0 k], .int .i64 c]) ∧ Hid (BytesAt w' D (.slice A 0 k) []) ∧ Below w.heap.size w w' := by
  refine (nAt_any n Vq Va i w D hDw hN).mono fun _ _ ⟨V, p, er, he, ht, hV, hb⟩ => ?_
  have h1 := ht.out
  rw [atT, if_neg (by rw [h.out]; simpa using hc), h.out] at h1
  injection h1 with h2 h3
  subst h2 h3
  obtain ⟨A, m, rfl, _⟩ := hV.out.form
  exact ⟨A, m, he, hV, hb⟩
theorem nAt_y {n : Net} {Vq Va : Value} {i : Int} {y : Pk} {w : World} {D : Nat} (h : Hid (askTN n i = 0)) (hy : Hid (n.pk i = y)) (hDw : D ≤ w.heap.size) (hN : NetAt w D Vq Va n) : Calls Try.prog 70 #[.agg #[Vq, Va], .int .i64 i] w fun e w' => ∃ (A : Option Addr) (k m : Nat), e = .returned (.tuple #[.agg #[.int .i64 y.src, .int .i64 y.dst, .slice A k m], .int .i64 0]) ∧ Hid (BytesAt w' D (.slice A k m) y.data) ∧ Below w.heap.size w w' := by
  have := nAt_ok h hDw hN
  rw [hy.out] at this
  exact this
theorem nContainsLk_at {l : List (Int × Int)} {x y : Int} {t : Bool} {v : Value} {w : World} {D : Nat} (h : Hid (hasB l x y = t)) (hDw : D ≤ w.heap.size) (hL : LksAt w D v l) :
    Calls Try.prog 71 #[v, pairV x y] w fun e w' => e = .returned (.bool t) ∧ Below w.heap.size w w' :=
  (nContainsLk_any l x y v w D hDw hL).mono fun _ _ ⟨he, hb⟩ => ⟨by rw [he, h.out], hb⟩

set_option maxRecDepth 100000 in
set_option maxHeartbeats 4000000 in
theorem nDeliver_1 (n : Net) (Aq : Option Addr) (nq cq : Nat) (Aa : Option Addr) (na ca : Nat) (i : Int) (w : World) (D : Nat) (hDw : D ≤ w.heap.size) (hN : Hid (NetAt w D (.slice Aq nq cq) (.slice Aa na ca) n)) (c : Int) (h : Hid (askTN n i = c)) (hc : (c != 0) = true) (hs : Hid (deliverT n i = (Pk.zero, Net.zero, c))) : Calls Try.prog 47 #[.agg #[.slice Aq nq cq, .slice Aa na ca], .int .i64 i] w (RetDel (deliverT n i) D w) := by
  have HB0 : Below w.heap.size w (((w.alloc (.cells #[.slice Aq nq cq, .slice Aa na ca] 25)).alloc (.cells #[.int .i64 0, .int .i64 0, .slice none 0 0] 51)).alloc (.cells #[.slice none 0 0, .slice none 0 0] 25)) := ((((Below.refl w.heap.size w).alloc (by simp <;> omega) (.cells #[.slice Aq nq cq, .slice Aa na ca] 25)).alloc (by simp <;> omega) (.cells #[.int .i64 0, .int .i64 0, .slice none 0 0] 51)).alloc (by simp <;> omega) (.cells #[.slice none 0 0, .slice none 0 0] 25))
  have HNB := Lib.hid (hN.out.below (HB0.mono hDw))
  have HDB := Nat.le_trans hDw HB0.size
  have nX0P : w.heap.size ≠ w.heap.size + 1 := by omega
  have nX0R : w.heap.size ≠ w.heap.size + 1 + 1 := by omega
  have nPX0 : w.heap.size + 1 ≠ w.heap.size := by omega
  have nPR : w.heap.size + 1 ≠ w.heap.size + 1 + 1 := by omega
  have nRX0 : w.heap.size + 1 + 1 ≠ w.heap.size := by omega
  have nRP : w.heap.size + 1 + 1 ≠ w.heap.size + 1 := by omega
  have gP : w.heap.size ≤ w.heap.size + 1 := by omega
  have gR : w.heap.size ≤ w.heap.size + 1 + 1 := by omega
  go_enter Try.func47, Try.ntmps47
  go_wp2_with fail
  refine (nAt_bad h hc HDB HNB.out).mono ?_
  rintro e w1 ⟨Ad, dc, rfl, hV, hb⟩
  have X0 := ((((Box.newAt (n := w.heap.size) [.slice Aq nq cq, .slice Aa na ca] 25 (by simp)).alloc _).alloc _)).later hb
  have P := (((Box.newAt (n := w.heap.size + 1) [.int .i64 0, .int .i64 0, .slice none 0 0] 51 (by simp)).alloc _)).later hb
  have R := ((Box.newAt (n := w.heap.size + 1 + 1) [.slice none 0 0, .slice none 0 0] 25 (by simp))).later hb
  have hB : Below w.heap.size w w1 := (((((Below.refl w.heap.size w).alloc (by simp <;> omega) _).alloc (by simp <;> omega) _).alloc (by simp <;> omega) _)).trans (hb.mono (by simp <;> omega))
  clear hb
  have Pc0 : w1.cell? ⟨w.heap.size + 1, 0, none⟩ = some (.int .i64 0) := P.cell 0
  have Pf0 : w1.frozen? ⟨w.heap.size + 1, 0, none⟩ = false := P.free 0
  have Pc1 : w1.cell? ⟨w.heap.size + 1, 1, none⟩ = some (.int .i64 0) := P.cell 1
  have Pf1 : w1.frozen? ⟨w.heap.size + 1, 1, none⟩ = false := P.free 1
  have Pc2 : w1.cell? ⟨w.heap.size + 1, 2, none⟩ = some (.slice none 0 0) := P.cell 2
  have Pf2 : w1.frozen? ⟨w.heap.size + 1, 2, none⟩ = false := P.free 2
  have Pz : w.heap.size + 1 < w1.heap.size := P.lt
  have Rc0 : w1.cell? ⟨w.heap.size + 1 + 1, 0, none⟩ = some (.slice none 0 0) := R.cell 0
  have Rf0 : w1.frozen? ⟨w.heap.size + 1 + 1, 0, none⟩ = false := R.free 0
  have Rc1 : w1.cell? ⟨w.heap.size + 1 + 1, 1, none⟩ = some (.slice none 0 0) := R.cell 1
  have Rf1 : w1.frozen? ⟨w.heap.size + 1 + 1, 1, none⟩ = false := R.free 1
  have Rz : w.heap.size + 1 + 1 < w1.heap.size := R.lt
  go_wp2_with fail
  have hV := (((hV.out.set1 (a := ⟨w.heap.size + 1, 0, none⟩) (by simp; omega) (.int .i64 0)).set1 (a := ⟨w.heap.size + 1, 1, none⟩) (by simp; omega) (.int .i64 0)).set1 (a := ⟨w.heap.size + 1, 2, none⟩) (by simp; omega) (.slice Ad 0 dc))
  revert hV
  clear Pc0 Pf0 Pc1 Pf1 Pc2 Pf2 Pz Rc0 Rf0 Rc1 Rf1 Rz
  have X0 := (((X0.other (a := ⟨w.heap.size + 1, 0, none⟩) nX0P (.int .i64 0)).other (a := ⟨w.heap.size + 1, 1, none⟩) nX0P (.int .i64 0)).other (a := ⟨w.heap.size + 1, 2, none⟩) nX0P (.slice Ad 0 dc))
  have P := (((P.set 0 (.int .i64 0)).set 1 (.int .i64 0)).set 2 (.slice Ad 0 dc))
  have R := (((R.other (a := ⟨w.heap.size + 1, 0, none⟩) nRP (.int .i64 0)).other (a := ⟨w.heap.size + 1, 1, none⟩) nRP (.int .i64 0)).other (a := ⟨w.heap.size + 1, 2, none⟩) nRP (.slice Ad 0 dc))
  have hB := (((hB.setCell (p := ⟨w.heap.size + 1, 0, none⟩) gP (.int .i64 0)).setCell (p := ⟨w.heap.size + 1, 1, none⟩) gP (.int .i64 0)).setCell (p := ⟨w.heap.size + 1, 2, none⟩) gP (.slice Ad 0 dc))
  generalize (((w1.setCell ⟨w.heap.size + 1, 0, none⟩ (.int .i64 0)).setCell ⟨w.heap.size + 1, 1, none⟩ (.int .i64 0)).setCell ⟨w.heap.size + 1, 2, none⟩ (.slice Ad 0 dc)) = w2 at hB X0 P R ⊢
  intro hV
  have hV := Lib.hid hV
  have Pc0 : w2.cell? ⟨w.heap.size + 1, 0, none⟩ = some (.int .i64 0) := P.cell 0
  have Pf0 : w2.frozen? ⟨w.heap.size + 1, 0, none⟩ = false := P.free 0
  have Pc1 : w2.cell? ⟨w.heap.size + 1, 1, none⟩ = some (.int .i64 0) := P.cell 1
  have Pf1 : w2.frozen? ⟨w.heap.size + 1, 1, none⟩ = false := P.free 1
  have Pc2 : w2.cell? ⟨w.heap.size + 1, 2, none⟩ = some (.slice Ad 0 dc) := P.cell 2
  have Pf2 : w2.frozen? ⟨w.heap.size + 1, 2, none⟩ = false := P.free 2
  have Pz : w.heap.size + 1 < w2.heap.size := P.lt
  have Rc0 : w2.cell? ⟨w.heap.size + 1 + 1, 0, none⟩ = some (.slice none 0 0) := R.cell 0
  have Rf0 : w2.frozen? ⟨w.heap.size + 1 + 1, 0, none⟩ = false := R.free 0
  have Rc1 : w2.cell? ⟨w.heap.size + 1 + 1, 1, none⟩ = some (.slice none 0 0) := R.cell 1
  have Rf1 : w2.frozen? ⟨w.heap.size + 1 + 1, 1, none⟩ = false := R.free 1
  have Rz : w.heap.size + 1 + 1 < w2.heap.size := R.lt
  go_region
  go_wp2
  have ZP := (((((P.set 0 (.int .i64 0)).set 1 (.int .i64 0)).set 2 (.slice Ad 0 dc)).other (a := ⟨w.heap.size + 1 + 1, 0, none⟩) nPR (.slice none 0 0)).other (a := ⟨w.heap.size + 1 + 1, 1, none⟩) nPR (.slice none 0 0)).drew
  have ZR := (((((R.other (a := ⟨w.heap.size + 1, 0, none⟩) nRP (.int .i64 0)).other (a := ⟨w.heap.size + 1, 1, none⟩) nRP (.int .i64 0)).other (a := ⟨w.heap.size + 1, 2, none⟩) nRP (.slice Ad 0 dc)).set 0 (.slice none 0 0)).set 1 (.slice none 0 0)).drew
  have HB := (((((hB.setCell (p := ⟨w.heap.size + 1, 0, none⟩) gP (.int .i64 0)).setCell (p := ⟨w.heap.size + 1, 1, none⟩) gP (.int .i64 0)).setCell (p := ⟨w.heap.size + 1, 2, none⟩) gP (.slice Ad 0 dc)).setCell (p := ⟨w.heap.size + 1 + 1, 0, none⟩) gR (.slice none 0 0)).setCell (p := ⟨w.heap.size + 1 + 1, 1, none⟩) gR (.slice none 0 0)).drew
  have HV := (((((hV.out.set1 (a := ⟨w.heap.size + 1, 0, none⟩) (by simp; omega) (.int .i64 0)).set1 (a := ⟨w.heap.size + 1, 1, none⟩) (by simp; omega) (.int .i64 0)).set1 (a := ⟨w.heap.size + 1, 2, none⟩) (by simp; omega) (.slice Ad 0 dc)).set1 (a := ⟨w.heap.size + 1 + 1, 0, none⟩) (by simp; omega) (.slice none 0 0)).set1 (a := ⟨w.heap.size + 1 + 1, 1, none⟩) (by simp; omega) (.slice none 0 0))
  have HV := HV.below (Below.refl _ _).drew
  generalize (((((w2.setCell ⟨w.heap.size + 1, 0, none⟩ (.int .i64 0)).setCell ⟨w.heap.size + 1, 1, none⟩ (.int .i64 0)).setCell ⟨w.heap.size + 1, 2, none⟩ (.slice Ad 0 dc)).setCell ⟨w.heap.size + 1 + 1, 0, none⟩ (.slice none 0 0)).setCell ⟨w.heap.size + 1 + 1, 1, none⟩ (.slice none 0 0)).drew = W at ZP ZR HB HV ⊢
  have zp0 : W.cell? ⟨w.heap.size + 1, 0, none⟩ = some (.int .i64 0) := ZP.cell 0
  have zp1 : W.cell? ⟨w.heap.size + 1, 1, none⟩ = some (.int .i64 0) := ZP.cell 1
  have zp2 : W.cell? ⟨w.heap.size + 1, 2, none⟩ = some (.slice Ad 0 dc) := ZP.cell 2
  have zr0 : W.cell? ⟨w.heap.size + 1 + 1, 0, none⟩ = some (.slice none 0 0) := ZR.cell 0
  have zr1 : W.cell? ⟨w.heap.size + 1 + 1, 1, none⟩ = some (.slice none 0 0) := ZR.cell 1
  refine bodyPost_ret (v := .tuple #[.agg #[.int .i64 0, .int .i64 0, .slice Ad 0 dc], .agg #[.slice none 0 0, .slice none 0 0], .int .i64 c]) (by simp [results, Try.results47, go_sem, zp0, zp1, zp2, zr0, zr1]) rfl ?_
  exact ⟨_, Pk.zero, _, _, Net.zero, c, rfl, hs, HV, net2_zero _ _ _, HB⟩

set_option maxRecDepth 100000 in
set_option maxHeartbeats 4000000 in
theorem nDeliver_2 (n : Net) (Aq : Option Addr) (nq cq : Nat) (Aa : Option Addr) (na ca : Nat) (i : Int) (w : World) (D : Nat) (hDw : D ≤ w.heap.size) (hN : Hid (NetAt w D (.slice Aq nq cq) (.slice Aa na ca) n)) (k : Nat) (_hk : i = (k : Int)) (y : Pk) (hy : Hid (n.pk i = y)) (hkn : k < n.queue.length) (h4 : n.queue.length ≤ 4096) (h : Hid (askTN n i = 0)) (ht : Hid (hasB n.apart (min y.src y.dst) (max y.src y.dst) = false)) (hs : Hid (deliverT n i = (y, n.without k, 0))) : Calls Try.prog 47 #[.agg #[.slice Aq nq cq, .slice Aa na ca], .int .i64 i] w (RetDel (deliverT n i) D w) := by
  subst _hk
  have HB0 : Below w.heap.size w (((w.alloc (.cells #[.slice Aq nq cq, .slice Aa na ca] 25)).alloc (.cells #[.int .i64 0, .int .i64 0, .slice none 0 0] 51)).alloc (.cells #[.slice none 0 0, .slice none 0 0] 25)) := ((((Below.refl w.heap.size w).alloc (by simp <;> omega) (.cells #[.slice Aq nq cq, .slice Aa na ca] 25)).alloc (by simp <;> omega) (.cells #[.int .i64 0, .int .i64 0, .slice none 0 0] 51)).alloc (by simp <;> omega) (.cells #[.slice none 0 0, .slice none 0 0] 25))
  have HNB := Lib.hid (hN.out.below (HB0.mono hDw))
  have HDB := Nat.le_trans hDw HB0.size
  have nX0P : w.heap.size ≠ w.heap.size + 1 := by omega
  have nX0R : w.heap.size ≠ w.heap.size + 1 + 1 := by omega
  have nPX0 : w.heap.size + 1 ≠ w.heap.size := by omega
  have nPR : w.heap.size + 1 ≠ w.heap.size + 1 + 1 := by omega
  have nRX0 : w.heap.size + 1 + 1 ≠ w.heap.size := by omega
  have nRP : w.heap.size + 1 + 1 ≠ w.heap.size + 1 := by omega
  have gP : w.heap.size ≤ w.heap.size + 1 := by omega
  have gR : w.heap.size ≤ w.heap.size + 1 + 1 := by omega
  go_enter Try.func47, Try.ntmps47
  go_wp2_with fail
  refine (nAt_y h hy HDB HNB.out).mono ?_
  rintro e w1 ⟨Ad, dn, dc, rfl, hV, hb⟩
  have X0 := ((((Box.newAt (n := w.heap.size) [.slice Aq nq cq, .slice Aa na ca] 25 (by simp)).alloc _).alloc _)).later hb
  have P := (((Box.newAt (n := w.heap.size + 1) [.int .i64 0, .int .i64 0, .slice none 0 0] 51 (by simp)).alloc _)).later hb
  have R := ((Box.newAt (n := w.heap.size + 1 + 1) [.slice none 0 0, .slice none 0 0] 25 (by simp))).later hb
  have hB : Below w.heap.size w w1 := (((((Below.refl w.heap.size w).alloc (by simp <;> omega) _).alloc (by simp <;> omega) _).alloc (by simp <;> omega) _)).trans (hb.mono (by simp <;> omega))
  clear hb
  have Pc0 : w1.cell? ⟨w.heap.size + 1, 0, none⟩ = some (.int .i64 0) := P.cell 0
  have Pf0 : w1.frozen? ⟨w.heap.size + 1, 0, none⟩ = false := P.free 0
  have Pc1 : w1.cell? ⟨w.heap.size + 1, 1, none⟩ = some (.int .i64 0) := P.cell 1
  have Pf1 : w1.frozen? ⟨w.heap.size + 1, 1, none⟩ = false := P.free 1
  have Pc2 : w1.cell? ⟨w.heap.size + 1, 2, none⟩ = some (.slice none 0 0) := P.cell 2
  have Pf2 : w1.frozen? ⟨w.heap.size + 1, 2, none⟩ = false := P.free 2
  have Pz : w.heap.size + 1 < w1.heap.size := P.lt
  have Rc0 : w1.cell? ⟨w.heap.size + 1 + 1, 0, none⟩ = some (.slice none 0 0) := R.cell 0
  have Rf0 : w1.frozen? ⟨w.heap.size + 1 + 1, 0, none⟩ = false := R.free 0
  have Rc1 : w1.cell? ⟨w.heap.size + 1 + 1, 1, none⟩ = some (.slice none 0 0) := R.cell 1
  have Rf1 : w1.frozen? ⟨w.heap.size + 1 + 1, 1, none⟩ = false := R.free 1
  have Rz : w.heap.size + 1 + 1 < w1.heap.size := R.lt
  go_wp2_with fail
  have hV := (((hV.out.set1 (a := ⟨w.heap.size + 1, 0, none⟩) (by simp; omega) (.int .i64 y.src)).set1 (a := ⟨w.heap.size + 1, 1, none⟩) (by simp; omega) (.int .i64 y.dst)).set1 (a := ⟨w.heap.size + 1, 2, none⟩) (by simp; omega) (.slice Ad dn dc))
  revert hV
  clear Pc0 Pf0 Pc1 Pf1 Pc2 Pf2 Pz Rc0 Rf0 Rc1 Rf1 Rz
  have X0 := (((X0.other (a := ⟨w.heap.size + 1, 0, none⟩) nX0P (.int .i64 y.src)).other (a := ⟨w.heap.size + 1, 1, none⟩) nX0P (.int .i64 y.dst)).other (a := ⟨w.heap.size + 1, 2, none⟩) nX0P (.slice Ad dn dc))
  have P := (((P.set 0 (.int .i64 y.src)).set 1 (.int .i64 y.dst)).set 2 (.slice Ad dn dc))
  have R := (((R.other (a := ⟨w.heap.size + 1, 0, none⟩) nRP (.int .i64 y.src)).other (a := ⟨w.heap.size + 1, 1, none⟩) nRP (.int .i64 y.dst)).other (a := ⟨w.heap.size + 1, 2, none⟩) nRP (.slice Ad dn dc))
  have hB := (((hB.setCell (p := ⟨w.heap.size + 1, 0, none⟩) gP (.int .i64 y.src)).setCell (p := ⟨w.heap.size + 1, 1, none⟩) gP (.int .i64 y.dst)).setCell (p := ⟨w.heap.size + 1, 2, none⟩) gP (.slice Ad dn dc))
  generalize (((w1.setCell ⟨w.heap.size + 1, 0, none⟩ (.int .i64 y.src)).setCell ⟨w.heap.size + 1, 1, none⟩ (.int .i64 y.dst)).setCell ⟨w.heap.size + 1, 2, none⟩ (.slice Ad dn dc)) = w2 at hB X0 P R ⊢
  intro hV
  have hV := Lib.hid hV
  have hDy : ∀ z : Later w2, D ≤ z.w.heap.size := fun z => Nat.le_trans (Nat.le_trans hDw hB.size) z.below.size
  have hLy : ∀ z : Later w2, LksAt z.w D (.slice Aa na ca) n.apart := fun z => (hN.out.below ((hB.trans (z.below.mono hB.size)).mono hDw)).apart
  have cB : Hid (∀ z : Later w2, Calls Try.prog 72 #[.int .i64 y.src, .int .i64 y.dst] z.w fun e w' => e = .returned (.agg #[.int .i64 (min y.src y.dst), .int .i64 (max y.src y.dst)]) ∧ Below z.w.heap.size z.w w') := fun z => nBetween_any _ _ _
  have cC : Hid (∀ z : Later w2, Calls Try.prog 71 #[.slice Aa na ca, .agg #[.int .i64 (min y.src y.dst), .int .i64 (max y.src y.dst)]] z.w fun e w' => e = .returned (.bool false) ∧ Below z.w.heap.size z.w w') := fun z => nContainsLk_at ht (hDy z) (hLy z)
  obtain ⟨m1, hm1⟩ : ∃ m1, min y.src y.dst = m1 := ⟨_, rfl⟩
  obtain ⟨m2, hm2⟩ : ∃ m2, max y.src y.dst = m2 := ⟨_, rfl⟩
  rw [hm1, hm2] at cB cC
  clear hm1 hm2 hDy hLy
  have hDw2 : D ≤ w2.heap.size := Nat.le_trans hDw hB.size
  have X0l0 : ∀ zz : Later w2, zz.w.cell? ⟨w.heap.size, 0, none⟩ = some (.slice Aq nq cq) := Later.cell (X0.cell 0) X0.lt
  have X0l1 : ∀ zz : Later w2, zz.w.cell? ⟨w.heap.size, 1, none⟩ = some (.slice Aa na ca) := Later.cell (X0.cell 1) X0.lt
  have Pl0 : ∀ zz : Later w2, zz.w.cell? ⟨w.heap.size + 1, 0, none⟩ = some (.int .i64 y.src) := Later.cell (P.cell 0) P.lt
  have Pl1 : ∀ zz : Later w2, zz.w.cell? ⟨w.heap.size + 1, 1, none⟩ = some (.int .i64 y.dst) := Later.cell (P.cell 1) P.lt
  have Pl2 : ∀ zz : Later w2, zz.w.cell? ⟨w.heap.size + 1, 2, none⟩ = some (.slice Ad dn dc) := Later.cell (P.cell 2) P.lt
  refine wp_region_later (by kernel_rfl) (by kernel_rfl) ?_
  repeat (go_big_quiet_step ((first | (go_at_call 72; with_reducible exact Later.call _ (cB.out _)) | (go_at_call 71; with_reducible exact Later.call _ (cC.out _)))))
  refine wpQuiet_nil ?_
  intro _ hw'
  obtain ⟨yq, hw''⟩ := hw'
  subst hw''
  clear X0l0 X0l1 Pl0 Pl1 Pl2
  obtain ⟨w3, hb⟩ : ∃ z, z = yq.w ∧ Below w2.heap.size w2 z := ⟨_, rfl, yq.below⟩
  obtain ⟨hz, hb⟩ := hb
  rw [← hz]
  clear hz
  have hX := hb
  have X0 := X0.later hb
  have P := P.later hb
  have R := R.later hb
  have hB := hB.trans (hb.mono hB.size)
  clear hb
  clear cB cC
  go_wp2_with fail
  have X0c0 : w3.cell? ⟨w.heap.size, 0, none⟩ = some (.slice Aq nq cq) := X0.cell 0
  have X0f0 : w3.frozen? ⟨w.heap.size, 0, none⟩ = false := X0.free 0
  have X0c1 : w3.cell? ⟨w.heap.size, 1, none⟩ = some (.slice Aa na ca) := X0.cell 1
  have X0f1 : w3.frozen? ⟨w.heap.size, 1, none⟩ = false := X0.free 1
  have X0z : w.heap.size < w3.heap.size := X0.lt
  have Pc0 : w3.cell? ⟨w.heap.size + 1, 0, none⟩ = some (.int .i64 y.src) := P.cell 0
  have Pf0 : w3.frozen? ⟨w.heap.size + 1, 0, none⟩ = false := P.free 0
  have Pc1 : w3.cell? ⟨w.heap.size + 1, 1, none⟩ = some (.int .i64 y.dst) := P.cell 1
  have Pf1 : w3.frozen? ⟨w.heap.size + 1, 1, none⟩ = false := P.free 1
  have Pc2 : w3.cell? ⟨w.heap.size + 1, 2, none⟩ = some (.slice Ad dn dc) := P.cell 2
  have Pf2 : w3.frozen? ⟨w.heap.size + 1, 2, none⟩ = false := P.free 2
  have Pz : w.heap.size + 1 < w3.heap.size := P.lt
  have Rc0 : w3.cell? ⟨w.heap.size + 1 + 1, 0, none⟩ = some (.slice none 0 0) := R.cell 0
  have Rf0 : w3.frozen? ⟨w.heap.size + 1 + 1, 0, none⟩ = false := R.free 0
  have Rc1 : w3.cell? ⟨w.heap.size + 1 + 1, 1, none⟩ = some (.slice none 0 0) := R.cell 1
  have Rf1 : w3.frozen? ⟨w.heap.size + 1 + 1, 1, none⟩ = false := R.free 1
  have Rz : w.heap.size + 1 + 1 < w3.heap.size := R.lt
  have hBd := hB.drew
  have kb := hBd.size
  have kP : w.heap.size + 1 < w3.drew.heap.size := P.drew.lt
  have kR : w.heap.size + 1 + 1 < w3.drew.heap.size := R.drew.lt
  have hDd := Nat.le_trans hDw kb
  have hNd := Lib.hid (hN.out.below (hBd.mono hDw))
  have hw := Lib.hid (nWithout_any n _ _ k w3.drew D hDd hNd.out hkn h4)
  have hVd : Hid (BytesAt w3.drew D (.slice Ad dn dc) y.data) := Lib.hid ((hV.out.below (hX.mono hDw2)).below (Below.refl _ _).drew)
  go_region_with (go_at_call 73; refine (Calls.mono hw.out ?_); rintro e w5 hh; obtain ⟨A1, n1, c1, A2, n2, c2, rfl, HN2, hb⟩ := RetN1.sl hh; have P := P.drew.later hb; have R := R.drew.later hb; have hB := hBd.trans (hb.mono hBd.size); have hV := Lib.hid (hVd.out.below (hb.mono hDd)); have Pc0 : w5.cell? ⟨w.heap.size + 1, 0, none⟩ = some (.int .i64 y.src) := P.cell 0; have Pf0 : w5.frozen? ⟨w.heap.size + 1, 0, none⟩ = false := P.free 0; have Pc1 : w5.cell? ⟨w.heap.size + 1, 1, none⟩ = some (.int .i64 y.dst) := P.cell 1; have Pf1 : w5.frozen? ⟨w.heap.size + 1, 1, none⟩ = false := P.free 1; have Pc2 : w5.cell? ⟨w.heap.size + 1, 2, none⟩ = some (.slice Ad dn dc) := P.cell 2; have Pf2 : w5.frozen? ⟨w.heap.size + 1, 2, none⟩ = false := P.free 2; have Pz : w.heap.size + 1 < w5.heap.size := P.lt; have Rc0 : w5.cell? ⟨w.heap.size + 1 + 1, 0, none⟩ = some (.slice none 0 0) := R.cell 0; have Rf0 : w5.frozen? ⟨w.heap.size + 1 + 1, 0, none⟩ = false := R.free 0; have Rc1 : w5.cell? ⟨w.heap.size + 1 + 1, 1, none⟩ = some (.slice none 0 0) := R.cell 1; have Rf1 : w5.frozen? ⟨w.heap.size + 1 + 1, 1, none⟩ = false := R.free 1; have Rz : w.heap.size + 1 + 1 < w5.heap.size := R.lt)
  all_goals (try go_wp2)
  all_goals (
    have ZP := (((((P.set 0 (.int .i64 y.src)).set 1 (.int .i64 y.dst)).set 2 (.slice Ad dn dc)).other (a := ⟨w.heap.size + 1 + 1, 0, none⟩) nPR (.slice A1 n1 c1)).other (a := ⟨w.heap.size + 1 + 1, 1, none⟩) nPR (.slice A2 n2 c2))
    have ZR := (((((R.other (a := ⟨w.heap.size + 1, 0, none⟩) nRP (.int .i64 y.src)).other (a := ⟨w.heap.size + 1, 1, none⟩) nRP (.int .i64 y.dst)).other (a := ⟨w.heap.size + 1, 2, none⟩) nRP (.slice Ad dn dc)).set 0 (.slice A1 n1 c1)).set 1 (.slice A2 n2 c2))
    have HB := (((((hB.setCell (p := ⟨w.heap.size + 1, 0, none⟩) gP (.int .i64 y.src)).setCell (p := ⟨w.heap.size + 1, 1, none⟩) gP (.int .i64 y.dst)).setCell (p := ⟨w.heap.size + 1, 2, none⟩) gP (.slice Ad dn dc)).setCell (p := ⟨w.heap.size + 1 + 1, 0, none⟩) gR (.slice A1 n1 c1)).setCell (p := ⟨w.heap.size + 1 + 1, 1, none⟩) gR (.slice A2 n2 c2))
    have HQ := (((((HN2.out.set (a := ⟨w.heap.size + 1, 0, none⟩) (by simp; omega) kP (.int .i64 y.src)).set (a := ⟨w.heap.size + 1, 1, none⟩) (by simp; omega) kP (.int .i64 y.dst)).set (a := ⟨w.heap.size + 1, 2, none⟩) (by simp; omega) kP (.slice Ad dn dc)).set (a := ⟨w.heap.size + 1 + 1, 0, none⟩) (by simp; omega) kR (.slice A1 n1 c1)).set (a := ⟨w.heap.size + 1 + 1, 1, none⟩) (by simp; omega) kR (.slice A2 n2 c2))
    have HV := (((((hV.out.set1 (a := ⟨w.heap.size + 1, 0, none⟩) (by simp; omega) (.int .i64 y.src)).set1 (a := ⟨w.heap.size + 1, 1, none⟩) (by simp; omega) (.int .i64 y.dst)).set1 (a := ⟨w.heap.size + 1, 2, none⟩) (by simp; omega) (.slice Ad dn dc)).set1 (a := ⟨w.heap.size + 1 + 1, 0, none⟩) (by simp; omega) (.slice A1 n1 c1)).set1 (a := ⟨w.heap.size + 1 + 1, 1, none⟩) (by simp; omega) (.slice A2 n2 c2))
    generalize (((((w5.setCell ⟨w.heap.size + 1, 0, none⟩ (.int .i64 y.src)).setCell ⟨w.heap.size + 1, 1, none⟩ (.int .i64 y.dst)).setCell ⟨w.heap.size + 1, 2, none⟩ (.slice Ad dn dc)).setCell ⟨w.heap.size + 1 + 1, 0, none⟩ (.slice A1 n1 c1)).setCell ⟨w.heap.size + 1 + 1, 1, none⟩ (.slice A2 n2 c2)) = W at ZP ZR HB HQ HV ⊢
    have zp0 : W.cell? ⟨w.heap.size + 1, 0, none⟩ = some (.int .i64 y.src) := ZP.cell 0
    have zp1 : W.cell? ⟨w.heap.size + 1, 1, none⟩ = some (.int .i64 y.dst) := ZP.cell 1
    have zp2 : W.cell? ⟨w.heap.size + 1, 2, none⟩ = some (.slice Ad dn dc) := ZP.cell 2
    have zr0 : W.cell? ⟨w.heap.size + 1 + 1, 0, none⟩ = some (.slice A1 n1 c1) := ZR.cell 0
    have zr1 : W.cell? ⟨w.heap.size + 1 + 1, 1, none⟩ = some (.slice A2 n2 c2) := ZR.cell 1
    refine bodyPost_ret (v := .tuple #[.agg #[.int .i64 y.src, .int .i64 y.dst, .slice Ad dn dc], .agg #[.slice A1 n1 c1, .slice A2 n2 c2], .int .i64 0]) (by simp [results, Try.results47, go_sem, zp0, zp1, zp2, zr0, zr1]) rfl ?_
    exact ⟨_, y, _, _, n.without k, 0, rfl, hs, HV, HQ.lower kb, HB⟩)

set_option maxRecDepth 100000 in
set_option maxHeartbeats 4000000 in
theorem nDeliver_3 (n : Net) (Aq : Option Addr) (nq cq : Nat) (Aa : Option Addr) (na ca : Nat) (i : Int) (w : World) (D : Nat) (hDw : D ≤ w.heap.size) (hN : Hid (NetAt w D (.slice Aq nq cq) (.slice Aa na ca) n)) (k : Nat) (_hk : i = (k : Int)) (y : Pk) (hy : Hid (n.pk i = y)) (hkn : k < n.queue.length) (h4 : n.queue.length ≤ 4096) (h : Hid (askTN n i = 0)) (ht : Hid (hasB n.apart (min y.src y.dst) (max y.src y.dst) = true)) (hs : Hid (deliverT n i = (Pk.zero, n.without k, 0))) : Calls Try.prog 47 #[.agg #[.slice Aq nq cq, .slice Aa na ca], .int .i64 i] w (RetDel (deliverT n i) D w) := by
  subst _hk
  have HB0 : Below w.heap.size w (((w.alloc (.cells #[.slice Aq nq cq, .slice Aa na ca] 25)).alloc (.cells #[.int .i64 0, .int .i64 0, .slice none 0 0] 51)).alloc (.cells #[.slice none 0 0, .slice none 0 0] 25)) := ((((Below.refl w.heap.size w).alloc (by simp <;> omega) (.cells #[.slice Aq nq cq, .slice Aa na ca] 25)).alloc (by simp <;> omega) (.cells #[.int .i64 0, .int .i64 0, .slice none 0 0] 51)).alloc (by simp <;> omega) (.cells #[.slice none 0 0, .slice none 0 0] 25))
  have HNB := Lib.hid (hN.out.below (HB0.mono hDw))
  have HDB := Nat.le_trans hDw HB0.size
  have nX0P : w.heap.size ≠ w.heap.size + 1 := by omega
  have nX0R : w.heap.size ≠ w.heap.size + 1 + 1 := by omega
  have nPX0 : w.heap.size + 1 ≠ w.heap.size := by omega
  have nPR : w.heap.size + 1 ≠ w.heap.size + 1 + 1 := by omega
  have nRX0 : w.heap.size + 1 + 1 ≠ w.heap.size := by omega
  have nRP : w.heap.size + 1 + 1 ≠ w.heap.size + 1 := by omega
  have gP : w.heap.size ≤ w.heap.size + 1 := by omega
  have gR : w.heap.size ≤ w.heap.size + 1 + 1 := by omega
  go_enter Try.func47, Try.ntmps47
  go_wp2_with fail
  refine (nAt_y h hy HDB HNB.out).mono ?_
  rintro e w1 ⟨Ad, dn, dc, rfl, hV, hb⟩
  have X0 := ((((Box.newAt (n := w.heap.size) [.slice Aq nq cq, .slice Aa na ca] 25 (by simp)).alloc _).alloc _)).later hb
  have P := (((Box.newAt (n := w.heap.size + 1) [.int .i64 0, .int .i64 0, .slice none 0 0] 51 (by simp)).alloc _)).later hb
  have R := ((Box.newAt (n := w.heap.size + 1 + 1) [.slice none 0 0, .slice none 0 0] 25 (by simp))).later hb
  have hB : Below w.heap.size w w1 := (((((Below.refl w.heap.size w).alloc (by simp <;> omega) _).alloc (by simp <;> omega) _).alloc (by simp <;> omega) _)).trans (hb.mono (by simp <;> omega))
  clear hb
  have Pc0 : w1.cell? ⟨w.heap.size + 1, 0, none⟩ = some (.int .i64 0) := P.cell 0
  have Pf0 : w1.frozen? ⟨w.heap.size + 1, 0, none⟩ = false := P.free 0
  have Pc1 : w1.cell? ⟨w.heap.size + 1, 1, none⟩ = some (.int .i64 0) := P.cell 1
  have Pf1 : w1.frozen? ⟨w.heap.size + 1, 1, none⟩ = false := P.free 1
  have Pc2 : w1.cell? ⟨w.heap.size + 1, 2, none⟩ = some (.slice none 0 0) := P.cell 2
  have Pf2 : w1.frozen? ⟨w.heap.size + 1, 2, none⟩ = false := P.free 2
  have Pz : w.heap.size + 1 < w1.heap.size := P.lt
  have Rc0 : w1.cell? ⟨w.heap.size + 1 + 1, 0, none⟩ = some (.slice none 0 0) := R.cell 0
  have Rf0 : w1.frozen? ⟨w.heap.size + 1 + 1, 0, none⟩ = false := R.free 0
  have Rc1 : w1.cell? ⟨w.heap.size + 1 + 1, 1, none⟩ = some (.slice none 0 0) := R.cell 1
  have Rf1 : w1.frozen? ⟨w.heap.size + 1 + 1, 1, none⟩ = false := R.free 1
  have Rz : w.heap.size + 1 + 1 < w1.heap.size := R.lt
  go_wp2_with fail
  have hV := (((hV.out.set1 (a := ⟨w.heap.size + 1, 0, none⟩) (by simp; omega) (.int .i64 y.src)).set1 (a := ⟨w.heap.size + 1, 1, none⟩) (by simp; omega) (.int .i64 y.dst)).set1 (a := ⟨w.heap.size + 1, 2, none⟩) (by simp; omega) (.slice Ad dn dc))
  revert hV
  clear Pc0 Pf0 Pc1 Pf1 Pc2 Pf2 Pz Rc0 Rf0 Rc1 Rf1 Rz
  have X0 := (((X0.other (a := ⟨w.heap.size + 1, 0, none⟩) nX0P (.int .i64 y.src)).other (a := ⟨w.heap.size + 1, 1, none⟩) nX0P (.int .i64 y.dst)).other (a := ⟨w.heap.size + 1, 2, none⟩) nX0P (.slice Ad dn dc))
  have P := (((P.set 0 (.int .i64 y.src)).set 1 (.int .i64 y.dst)).set 2 (.slice Ad dn dc))
  have R := (((R.other (a := ⟨w.heap.size + 1, 0, none⟩) nRP (.int .i64 y.src)).other (a := ⟨w.heap.size + 1, 1, none⟩) nRP (.int .i64 y.dst)).other (a := ⟨w.heap.size + 1, 2, none⟩) nRP (.slice Ad dn dc))
  have hB := (((hB.setCell (p := ⟨w.heap.size + 1, 0, none⟩) gP (.int .i64 y.src)).setCell (p := ⟨w.heap.size + 1, 1, none⟩) gP (.int .i64 y.dst)).setCell (p := ⟨w.heap.size + 1, 2, none⟩) gP (.slice Ad dn dc))
  generalize (((w1.setCell ⟨w.heap.size + 1, 0, none⟩ (.int .i64 y.src)).setCell ⟨w.heap.size + 1, 1, none⟩ (.int .i64 y.dst)).setCell ⟨w.heap.size + 1, 2, none⟩ (.slice Ad dn dc)) = w2 at hB X0 P R ⊢
  intro hV
  have hV := Lib.hid hV
  have hDy : ∀ z : Later w2, D ≤ z.w.heap.size := fun z => Nat.le_trans (Nat.le_trans hDw hB.size) z.below.size
  have hLy : ∀ z : Later w2, LksAt z.w D (.slice Aa na ca) n.apart := fun z => (hN.out.below ((hB.trans (z.below.mono hB.size)).mono hDw)).apart
  have cB : Hid (∀ z : Later w2, Calls Try.prog 72 #[.int .i64 y.src, .int .i64 y.dst] z.w fun e w' => e = .returned (.agg #[.int .i64 (min y.src y.dst), .int .i64 (max y.src y.dst)]) ∧ Below z.w.heap.size z.w w') := fun z => nBetween_any _ _ _
  have cC : Hid (∀ z : Later w2, Calls Try.prog 71 #[.slice Aa na ca, .agg #[.int .i64 (min y.src y.dst), .int .i64 (max y.src y.dst)]] z.w fun e w' => e = .returned (.bool true) ∧ Below z.w.heap.size z.w w') := fun z => nContainsLk_at ht (hDy z) (hLy z)
  obtain ⟨m1, hm1⟩ : ∃ m1, min y.src y.dst = m1 := ⟨_, rfl⟩
  obtain ⟨m2, hm2⟩ : ∃ m2, max y.src y.dst = m2 := ⟨_, rfl⟩
  rw [hm1, hm2] at cB cC
  clear hm1 hm2 hDy hLy
  have hDw2 : D ≤ w2.heap.size := Nat.le_trans hDw hB.size
  have X0l0 : ∀ zz : Later w2, zz.w.cell? ⟨w.heap.size, 0, none⟩ = some (.slice Aq nq cq) := Later.cell (X0.cell 0) X0.lt
  have X0l1 : ∀ zz : Later w2, zz.w.cell? ⟨w.heap.size, 1, none⟩ = some (.slice Aa na ca) := Later.cell (X0.cell 1) X0.lt
  have Pl0 : ∀ zz : Later w2, zz.w.cell? ⟨w.heap.size + 1, 0, none⟩ = some (.int .i64 y.src) := Later.cell (P.cell 0) P.lt
  have Pl1 : ∀ zz : Later w2, zz.w.cell? ⟨w.heap.size + 1, 1, none⟩ = some (.int .i64 y.dst) := Later.cell (P.cell 1) P.lt
  have Pl2 : ∀ zz : Later w2, zz.w.cell? ⟨w.heap.size + 1, 2, none⟩ = some (.slice Ad dn dc) := Later.cell (P.cell 2) P.lt
  refine wp_region_later (by kernel_rfl) (by kernel_rfl) ?_
  repeat (go_big_quiet_step ((first | (go_at_call 72; with_reducible exact Later.call _ (cB.out _)) | (go_at_call 71; with_reducible exact Later.call _ (cC.out _)))))
  refine wpQuiet_nil ?_
  intro _ hw'
  obtain ⟨yq, hw''⟩ := hw'
  subst hw''
  clear X0l0 X0l1 Pl0 Pl1 Pl2
  obtain ⟨w3, hb⟩ : ∃ z, z = yq.w ∧ Below w2.heap.size w2 z := ⟨_, rfl, yq.below⟩
  obtain ⟨hz, hb⟩ := hb
  rw [← hz]
  clear hz
  have hX := hb
  have X0 := X0.later hb
  have P := P.later hb
  have R := R.later hb
  have hB := hB.trans (hb.mono hB.size)
  clear hb
  clear cB cC
  have Pc0 : w3.cell? ⟨w.heap.size + 1, 0, none⟩ = some (.int .i64 y.src) := P.cell 0
  have Pf0 : w3.frozen? ⟨w.heap.size + 1, 0, none⟩ = false := P.free 0
  have Pc1 : w3.cell? ⟨w.heap.size + 1, 1, none⟩ = some (.int .i64 y.dst) := P.cell 1
  have Pf1 : w3.frozen? ⟨w.heap.size + 1, 1, none⟩ = false := P.free 1
  have Pc2 : w3.cell? ⟨w.heap.size + 1, 2, none⟩ = some (.slice Ad dn dc) := P.cell 2
  have Pf2 : w3.frozen? ⟨w.heap.size + 1, 2, none⟩ = false := P.free 2
  have Pz : w.heap.size + 1 < w3.heap.size := P.lt
  go_wp2_with fail
  clear Pc0 Pf0 Pc1 Pf1 Pc2 Pf2 Pz
  have X0 := (((X0.other (a := ⟨w.heap.size + 1, 0, none⟩) nX0P (.int .i64 0)).other (a := ⟨w.heap.size + 1, 1, none⟩) nX0P (.int .i64 0)).other (a := ⟨w.heap.size + 1, 2, none⟩) nX0P (.slice none 0 0))
  have P := (((P.set 0 (.int .i64 0)).set 1 (.int .i64 0)).set 2 (.slice none 0 0))
  have R := (((R.other (a := ⟨w.heap.size + 1, 0, none⟩) nRP (.int .i64 0)).other (a := ⟨w.heap.size + 1, 1, none⟩) nRP (.int .i64 0)).other (a := ⟨w.heap.size + 1, 2, none⟩) nRP (.slice none 0 0))
  have hB := (((hB.setCell (p := ⟨w.heap.size + 1, 0, none⟩) gP (.int .i64 0)).setCell (p := ⟨w.heap.size + 1, 1, none⟩) gP (.int .i64 0)).setCell (p := ⟨w.heap.size + 1, 2, none⟩) gP (.slice none 0 0))
  generalize (((w3.setCell ⟨w.heap.size + 1, 0, none⟩ (.int .i64 0)).setCell ⟨w.heap.size + 1, 1, none⟩ (.int .i64 0)).setCell ⟨w.heap.size + 1, 2, none⟩ (.slice none 0 0)) = w4 at hB X0 P R ⊢
  have X0c0 : w4.cell? ⟨w.heap.size, 0, none⟩ = some (.slice Aq nq cq) := X0.cell 0
  have X0f0 : w4.frozen? ⟨w.heap.size, 0, none⟩ = false := X0.free 0
  have X0c1 : w4.cell? ⟨w.heap.size, 1, none⟩ = some (.slice Aa na ca) := X0.cell 1
  have X0f1 : w4.frozen? ⟨w.heap.size, 1, none⟩ = false := X0.free 1
  have X0z : w.heap.size < w4.heap.size := X0.lt
  have Pc0 : w4.cell? ⟨w.heap.size + 1, 0, none⟩ = some (.int .i64 0) := P.cell 0
  have Pf0 : w4.frozen? ⟨w.heap.size + 1, 0, none⟩ = false := P.free 0
  have Pc1 : w4.cell? ⟨w.heap.size + 1, 1, none⟩ = some (.int .i64 0) := P.cell 1
  have Pf1 : w4.frozen? ⟨w.heap.size + 1, 1, none⟩ = false := P.free 1
  have Pc2 : w4.cell? ⟨w.heap.size + 1, 2, none⟩ = some (.slice none 0 0) := P.cell 2
  have Pf2 : w4.frozen? ⟨w.heap.size + 1, 2, none⟩ = false := P.free 2
  have Pz : w.heap.size + 1 < w4.heap.size := P.lt
  have Rc0 : w4.cell? ⟨w.heap.size + 1 + 1, 0, none⟩ = some (.slice none 0 0) := R.cell 0
  have Rf0 : w4.frozen? ⟨w.heap.size + 1 + 1, 0, none⟩ = false := R.free 0
  have Rc1 : w4.cell? ⟨w.heap.size + 1 + 1, 1, none⟩ = some (.slice none 0 0) := R.cell 1
  have Rf1 : w4.frozen? ⟨w.heap.size + 1 + 1, 1, none⟩ = false := R.free 1
  have Rz : w.heap.size + 1 + 1 < w4.heap.size := R.lt
  have hBd := hB.drew
  have kb := hBd.size
  have kP : w.heap.size + 1 < w4.drew.heap.size := P.drew.lt
  have kR : w.heap.size + 1 + 1 < w4.drew.heap.size := R.drew.lt
  have hDd := Nat.le_trans hDw kb
  have hNd := Lib.hid (hN.out.below (hBd.mono hDw))
  have hw := Lib.hid (nWithout_any n _ _ k w4.drew D hDd hNd.out hkn h4)
  go_region_with (go_at_call 73; refine (Calls.mono hw.out ?_); rintro e w5 hh; obtain ⟨A1, n1, c1, A2, n2, c2, rfl, HN2, hb⟩ := RetN1.sl hh; have P := P.drew.later hb; have R := R.drew.later hb; have hB := hBd.trans (hb.mono hBd.size); have Pc0 : w5.cell? ⟨w.heap.size + 1, 0, none⟩ = some (.int .i64 0) := P.cell 0; have Pf0 : w5.frozen? ⟨w.heap.size + 1, 0, none⟩ = false := P.free 0; have Pc1 : w5.cell? ⟨w.heap.size + 1, 1, none⟩ = some (.int .i64 0) := P.cell 1; have Pf1 : w5.frozen? ⟨w.heap.size + 1, 1, none⟩ = false := P.free 1; have Pc2 : w5.cell? ⟨w.heap.size + 1, 2, none⟩ = some (.slice none 0 0) := P.cell 2; have Pf2 : w5.frozen? ⟨w.heap.size + 1, 2, none⟩ = false := P.free 2; have Pz : w.heap.size + 1 < w5.heap.size := P.lt; have Rc0 : w5.cell? ⟨w.heap.size + 1 + 1, 0, none⟩ = some (.slice none 0 0) := R.cell 0; have Rf0 : w5.frozen? ⟨w.heap.size + 1 + 1, 0, none⟩ = false := R.free 0; have Rc1 : w5.cell? ⟨w.heap.size + 1 + 1, 1, none⟩ = some (.slice none 0 0) := R.cell 1; have Rf1 : w5.frozen? ⟨w.heap.size + 1 + 1, 1, none⟩ = false := R.free 1; have Rz : w.heap.size + 1 + 1 < w5.heap.size := R.lt)
  all_goals (try go_wp2)
  all_goals (
    have ZP := (((((P.set 0 (.int .i64 0)).set 1 (.int .i64 0)).set 2 (.slice none 0 0)).other (a := ⟨w.heap.size + 1 + 1, 0, none⟩) nPR (.slice A1 n1 c1)).other (a := ⟨w.heap.size + 1 + 1, 1, none⟩) nPR (.slice A2 n2 c2))
    have ZR := (((((R.other (a := ⟨w.heap.size + 1, 0, none⟩) nRP (.int .i64 0)).other (a := ⟨w.heap.size + 1, 1, none⟩) nRP (.int .i64 0)).other (a := ⟨w.heap.size + 1, 2, none⟩) nRP (.slice none 0 0)).set 0 (.slice A1 n1 c1)).set 1 (.slice A2 n2 c2))
    have HB := (((((hB.setCell (p := ⟨w.heap.size + 1, 0, none⟩) gP (.int .i64 0)).setCell (p := ⟨w.heap.size + 1, 1, none⟩) gP (.int .i64 0)).setCell (p := ⟨w.heap.size + 1, 2, none⟩) gP (.slice none 0 0)).setCell (p := ⟨w.heap.size + 1 + 1, 0, none⟩) gR (.slice A1 n1 c1)).setCell (p := ⟨w.heap.size + 1 + 1, 1, none⟩) gR (.slice A2 n2 c2))
    have HQ := (((((HN2.out.set (a := ⟨w.heap.size + 1, 0, none⟩) (by simp; omega) kP (.int .i64 0)).set (a := ⟨w.heap.size + 1, 1, none⟩) (by simp; omega) kP (.int .i64 0)).set (a := ⟨w.heap.size + 1, 2, none⟩) (by simp; omega) kP (.slice none 0 0)).set (a := ⟨w.heap.size + 1 + 1, 0, none⟩) (by simp; omega) kR (.slice A1 n1 c1)).set (a := ⟨w.heap.size + 1 + 1, 1, none⟩) (by simp; omega) kR (.slice A2 n2 c2))
    generalize (((((w5.setCell ⟨w.heap.size + 1, 0, none⟩ (.int .i64 0)).setCell ⟨w.heap.size + 1, 1, none⟩ (.int .i64 0)).setCell ⟨w.heap.size + 1, 2, none⟩ (.slice none 0 0)).setCell ⟨w.heap.size + 1 + 1, 0, none⟩ (.slice A1 n1 c1)).setCell ⟨w.heap.size + 1 + 1, 1, none⟩ (.slice A2 n2 c2)) = W at ZP ZR HB HQ ⊢
    have zp0 : W.cell? ⟨w.heap.size + 1, 0, none⟩ = some (.int .i64 0) := ZP.cell 0
    have zp1 : W.cell? ⟨w.heap.size + 1, 1, none⟩ = some (.int .i64 0) := ZP.cell 1
    have zp2 : W.cell? ⟨w.heap.size + 1, 2, none⟩ = some (.slice none 0 0) := ZP.cell 2
    have zr0 : W.cell? ⟨w.heap.size + 1 + 1, 0, none⟩ = some (.slice A1 n1 c1) := ZR.cell 0
    have zr1 : W.cell? ⟨w.heap.size + 1 + 1, 1, none⟩ = some (.slice A2 n2 c2) := ZR.cell 1
    refine bodyPost_ret (v := .tuple #[.agg #[.int .i64 0, .int .i64 0, .slice none 0 0], .agg #[.slice A1 n1 c1, .slice A2 n2 c2], .int .i64 0]) (by simp [results, Try.results47, go_sem, zp0, zp1, zp2, zr0, zr1]) rfl ?_
    exact ⟨_, Pk.zero, _, _, n.without k, 0, rfl, hs, bytesAt_nil _ _, HQ.lower kb, HB⟩)

theorem nDeliver_any (n : Net) (Vq Va : Value) (i : Int) (w : World) (D : Nat) (hDw : D ≤ w.heap.size) (hN : NetAt w D Vq Va n) : Calls Try.prog 47 #[.agg #[Vq, Va], .int .i64 i] w (RetDel (deliverT n i) D w) := by
  obtain ⟨Aq, cq, rfl, hmq⟩ := hN.queue.form
  obtain ⟨Aa, ca, rfl, _⟩ := hN.apart.form
  rcases ask_ways n i with ⟨c, h, hc⟩ | ⟨k, rfl, hk, h4, h⟩
  · exact nDeliver_1 n Aq _ cq Aa _ ca i w D hDw hN c h hc (by rw [Hid, deliverT, if_neg (by rw [h]; simpa using hc), h])
  · rcases hq : hasB n.apart (min (n.pk k).src (n.pk k).dst) (max (n.pk k).src (n.pk k).dst) with _ | _
    · exact nDeliver_2 n Aq _ cq Aa _ ca _ w D hDw hN k rfl _ rfl hk h4 h hq (by rw [Hid, deliverT, if_pos h, if_neg (by rw [cutB_has, hq]; simp)]; rfl)
    · exact nDeliver_3 n Aq _ cq Aa _ ca _ w D hDw hN k rfl _ rfl hk h4 h hq (by rw [Hid, deliverT, if_pos h, if_pos (by rw [cutB_has, hq])]; rfl)

end Go.Proofs.Ytmbifmmkccghfaa

/-
  The iterator cuts of network. No condition.
-/
namespace Go.Proofs.Ytmbifmmkccghfaa
open Go.RowKit Go.Shelf
attribute [local go_sem] Oper.semAt_some
attribute [local go_sem ↓ high] eq_link

theorem grown_noneN {a w : World} (h : Below a.heap.size a w) : a.grownBy w none := ⟨h.os, h.tape, h.output, h.size, fun i hi _ => h.block i hi⟩
structure KeepsX (R n : Nat) (W W' : World) : Prop where
  size : W.heap.size ≤ W'.heap.size
  block : ∀ b, b < n → b ≠ R → W'.heap[b]? = W.heap[b]?
theorem KeepsX.refl (R n : Nat) (W : World) : KeepsX R n W W := ⟨Nat.le_refl _, fun _ _ _ => rfl⟩
theorem KeepsX.trans {R n : Nat} {A B C : World} (h : KeepsX R n A B) (k : KeepsX R n B C) : KeepsX R n A C := ⟨Nat.le_trans h.size k.size, fun b hb hr => (k.block b hb hr).trans (h.block b hb hr)⟩
theorem KeepsX.of {R n : Nat} {A B : World} (h : Below n A B) : KeepsX R n A B := ⟨h.size, fun b hb _ => h.block b hb⟩
theorem KeepsX.then {R n : Nat} {A B C : World} (h : KeepsX R n A B) (hn : n ≤ A.heap.size) (k : Below B.heap.size B C) : KeepsX R n A C := h.trans (KeepsX.of (k.mono (Nat.le_trans hn h.size)))
theorem KeepsX.set {R n : Nat} (W : World) (i : Nat) (v : Value) : KeepsX R n W (W.setCell ⟨R, i, none⟩ v) := ⟨by simp, fun b _ hr => Below.heap_setCell W _ v b hr⟩
theorem KeepsX.putObj {R n : Nat} {w : World} (hn : n ≤ w.heap.size) (W : World) (l : Nat) (o o' : Obj) (hl : w.heap.size ≤ l) (_ : W.heap[l]? = some o) (_ : o.isCells = false) (_ : o.isWalk = false) : KeepsX R n W (W.putObj l o') :=
  ⟨by simp, fun b hb _ => World.putObj_heap_other (by omega)⟩
theorem KeepsX.box {R n : Nat} {A B : World} (h : KeepsX R n A B) {b : Nat} {xs : List Value} (hx : Box A b xs) (hb : b < n) (hr : b ≠ R) : Box B b xs := hx.same (h.block b hb hr)
theorem KeepsX.sl {R n : Nat} {A B : World} (h : KeepsX R n A B) {D size k : Nat} {g : Nat → Nat → Value} {v : Value} (hD : D ≤ R) (hn : D ≤ n) (hs : Sl A D size k g v) : Sl B D size k g v := by
  obtain ⟨A', c, hv, hm, h1⟩ := hs
  refine ⟨A', c, hv, hm, fun i hi => ?_⟩
  obtain ⟨b, off, ha, hb, h3⟩ := h1 i hi
  exact ⟨b, off, ha, hb, fun j hj => by rw [World.cell?_of_block (w := A) (h.block b (by omega) (by omega))]; exact h3 j hj⟩
end Go.Proofs.Ytmbifmmkccghfaa
