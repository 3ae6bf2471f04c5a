/-
  Contracts of Lose and Repeat of both packages. (Printed by gen_nk.py.)
-/
import Derived.Test.YtndjpaiakodciaaNJ
import Derived.Deep.RegionWith
namespace Go.Proofs.Ytndjpaiakodciaa
open Go.RowKit

theorem Net2.form {w : World} {D base : Nat} {Vq Va : Value} {n : Net} (h : Net2 w D base Vq Va n) : ∃ Aq nq cq Aa na ca, Vq = .slice Aq nq cq ∧ Va = .slice Aa na ca := by
  obtain ⟨A, c, rfl⟩ := h.queue.form
  obtain ⟨_, A', c', rfl, _⟩ := h.apart
  exact ⟨_, _, _, _, _, _, rfl, rfl⟩
/-- A result that is a net, its slices spelled. -/
def RetNs (t : Net) (D : Nat) (w : World) (e : Ending) (w' : World) : Prop := ∃ (Aq : Option Addr) (nq cq : Nat) (Aa : Option Addr) (na ca : Nat), e = .returned (.agg #[.slice Aq nq cq, .slice Aa na ca]) ∧ Hid (Net2 w' D w.heap.size (.slice Aq nq cq) (.slice Aa na ca) t) ∧ Below w.heap.size w w'
theorem RetN1.sl {t : Net} {D : Nat} {w w' : World} {e : Ending} (h : RetN1 t D w e w') : RetNs t D w e w' := by
  obtain ⟨Vq, Va, rfl, h2, hb⟩ := h
  obtain ⟨Aq, nq, cq, Aa, na, ca, rfl, rfl⟩ := h2.out.form
  exact ⟨_, _, _, _, _, _, rfl, h2, hb⟩
/-- A result that is a net and an error, its slices spelled. -/
def RetNe (t : Net × Int) (D : Nat) (w : World) (e : Ending) (w' : World) : Prop := ∃ (Aq : Option Addr) (nq cq : Nat) (Aa : Option Addr) (na ca : Nat) (m : Net) (er : Int), e = .returned (.tuple #[.agg #[.slice Aq nq cq, .slice Aa na ca], .int .i64 er]) ∧ Hid (t = (m, er)) ∧ Hid (Net2 w' D w.heap.size (.slice Aq nq cq) (.slice Aa na ca) m) ∧ Below w.heap.size w w'
theorem RetNet.sl {t : Net × Int} {D : Nat} {w w' : World} {e : Ending} (h : RetNet t D w e w') : RetNe t D w e w' := by
  obtain ⟨Vq, Va, m, er, rfl, ht, h2, hb⟩ := h
  obtain ⟨Aq, nq, cq, Aa, na, ca, rfl, rfl⟩ := h2.out.form
  exact ⟨_, _, _, _, _, _, _, _, rfl, ht, h2, hb⟩
theorem nAt_err {n : Net} {Vq Va : Value} {i c : Int} {w : World} {D : Nat} (h : Hid (askT n i = c)) (hDw : D ≤ w.heap.size) (hN : NetAt w D Vq Va n) : Calls Try.prog 35 #[.agg #[Vq, Va], .int .i64 i] w fun e w' => ∃ (a b : Int) (A : Option Addr) (k m : Nat), e = .returned (.tuple #[.agg #[.int .i64 a, .int .i64 b, .slice A k m], .int .i64 c]) ∧ Below w.heap.size w w' := by
  refine (nAt_any n Vq Va i w D hDw hN).mono fun _ _ ⟨V, p, er, he, ht, hV, hb⟩ => ?_
  obtain ⟨A, m, rfl, _⟩ := hV.out.form
  refine ⟨p.src, p.dst, A, p.data.length, m, ?_, hb⟩
  rw [he]
  have : er = c := by
    have h1 := ht.out
    have h2 := h.out
    rw [atT] at h1
    by_cases h0 : askT n i = 0
    · rw [if_pos h0] at h1; injection h1; omega
    · rw [if_neg h0] at h1; injection h1; omega
  rw [this]
theorem nAt_ok {n : Net} {Vq Va : Value} {i : Int} {w : World} {D : Nat} (h : Hid (askT n i = 0)) (hDw : D ≤ w.heap.size) (hN : NetAt w D Vq Va n) : Calls Try.prog 35 #[.agg #[Vq, Va], .int .i64 i] w fun e w' => ∃ (A : Option Addr) (k m : Nat), e = .returned (.tuple #[.agg #[.int .i64 (n.pk i).src, .int .i64 (n.pk i).dst, .slice A k m], .int .i64 0]) ∧ Hid (BytesAt w' D (.slice A k m) (n.pk i).data) ∧ Below w.heap.size w w' := by
  refine (nAt_any n Vq Va i w D hDw hN).mono fun _ _ ⟨V, p, er, he, ht, hV, hb⟩ => ?_
  have h1 := ht.out
  rw [atT, if_pos h.out] at h1
  injection h1 with h2 h3
  subst h2 h3
  obtain ⟨A, m, rfl, _⟩ := hV.out.form
  exact ⟨A, (n.pk i).data.length, m, he, hV, hb⟩
theorem nAsked_at {n : Net} {Vq Va : Value} {i c : Int} {w : World} {D : Nat} (h : Hid (askT n i = c)) (hDw : D ≤ w.heap.size) (hN : NetAt w D Vq Va n) : Calls Try.prog 41 #[.agg #[Vq, Va], .int .i64 i] w fun e w' => e = .returned (.int .i64 c) ∧ Below w.heap.size w w' := by
  refine (nAsked_any n Vq Va i w D hDw hN).mono fun _ _ ⟨he, hb⟩ => ⟨?_, hb⟩
  rw [he, h.out]

set_option maxRecDepth 100000 in
set_option maxHeartbeats 4000000 in
theorem nLose_1 (n : Net) (Aq : Option Addr) (nq cq : Nat) (Aa : Option Addr) (na ca : Nat) (i : Int) (w : World) (D : Nat) (hDw : D ≤ w.heap.size) (hN : Hid (NetAt w D (.slice Aq nq cq) (.slice Aa na ca) n)) (c : Int) (h : Hid (askT n i = c)) (hc : (c != 0) = true) (hs : Hid (loseT n i = (Net.zero, c))) : Calls Try.prog 23 #[.agg #[.slice Aq nq cq, .slice Aa na ca], .int .i64 i] w (RetNet (loseT n i) D w) := by
  have HB0 : Below w.heap.size w ((w.alloc (.cells #[.slice Aq nq cq, .slice Aa na ca] 25)).alloc (.cells #[.slice none 0 0, .slice none 0 0] 25)) := (((Below.refl w.heap.size w).alloc (by simp <;> omega) (.cells #[.slice Aq nq cq, .slice Aa na ca] 25)).alloc (by simp <;> omega) (.cells #[.slice none 0 0, .slice none 0 0] 25))
  have HNB := Lib.hid (hN.out.below (HB0.mono hDw))
  have HDB := Nat.le_trans hDw HB0.size
  go_enter Try.func23, Try.ntmps23
  go_wp2_with fail
  refine (nAt_err h HDB HNB.out).mono ?_
  rintro e w1 ⟨_, _, _, _, _, rfl, hb⟩
  have X0 := (((Box.newAt (n := w.heap.size) [.slice Aq nq cq, .slice Aa na ca] 25 (by simp)).alloc _)).later hb
  have R := ((Box.newAt (n := w.heap.size + 1) [.slice none 0 0, .slice none 0 0] 25 (by simp))).later hb
  have hB : Below w.heap.size w w1 := ((((Below.refl w.heap.size w).alloc (by simp <;> omega) _).alloc (by simp <;> omega) _)).trans (hb.mono (by simp <;> omega))
  clear hb
  have Rc0 : w1.cell? ⟨w.heap.size + 1, 0, none⟩ = some (.slice none 0 0) := R.cell 0
  have Rf0 : w1.frozen? ⟨w.heap.size + 1, 0, none⟩ = false := R.free 0
  have Rc1 : w1.cell? ⟨w.heap.size + 1, 1, none⟩ = some (.slice none 0 0) := R.cell 1
  have Rf1 : w1.frozen? ⟨w.heap.size + 1, 1, none⟩ = false := R.free 1
  have Rz : w.heap.size + 1 < w1.heap.size := R.lt
  have hle : w.heap.size ≤ w.heap.size + 1 := by omega
  have hres := hs
  go_wp2
  have hY := ((R.set 0 (.slice none 0 0)).set 1 (.slice none 0 0))
  have hB := ((hB.setCell (p := ⟨w.heap.size + 1, 0, none⟩) (by simp <;> omega) (.slice none 0 0)).setCell (p := ⟨w.heap.size + 1, 1, none⟩) (by simp <;> omega) (.slice none 0 0))
  generalize ((w1.setCell ⟨w.heap.size + 1, 0, none⟩ (.slice none 0 0)).setCell ⟨w.heap.size + 1, 1, none⟩ (.slice none 0 0)) = W at hY hB ⊢
  have y0 : W.cell? ⟨w.heap.size + 1, 0, none⟩ = some (.slice none 0 0) := hY.cell 0
  have y1 : W.cell? ⟨w.heap.size + 1, 1, none⟩ = some (.slice none 0 0) := hY.cell 1
  refine bodyPost_ret (v := .tuple #[.agg #[.slice none 0 0, .slice none 0 0], .int .i64 c]) (by simp [results, Try.results23, go_sem, y0, y1]) rfl ?_
  exact ⟨_, _, Net.zero, c, rfl, hres, net2_zero _ _ _, hB⟩

set_option maxRecDepth 100000 in
set_option maxHeartbeats 4000000 in
theorem nLose_2 (n : Net) (Aq : Option Addr) (nq cq : Nat) (Aa : Option Addr) (na ca : Nat) (i : Int) (w : World) (D : Nat) (hDw : D ≤ w.heap.size) (hN : Hid (NetAt w D (.slice Aq nq cq) (.slice Aa na ca) n)) (k : Nat) (_hk : i = (k : Int)) (hkn : k < n.queue.length) (h4 : n.queue.length ≤ 4096) (h : Hid (askT n i = 0)) (hs : Hid (loseT n i = (n.without k, 0))) : Calls Try.prog 23 #[.agg #[.slice Aq nq cq, .slice Aa na ca], .int .i64 i] w (RetNet (loseT n i) D w) := by
  subst _hk
  have HB0 : Below w.heap.size w ((w.alloc (.cells #[.slice Aq nq cq, .slice Aa na ca] 25)).alloc (.cells #[.slice none 0 0, .slice none 0 0] 25)) := (((Below.refl w.heap.size w).alloc (by simp <;> omega) (.cells #[.slice Aq nq cq, .slice Aa na ca] 25)).alloc (by simp <;> omega) (.cells #[.slice none 0 0, .slice none 0 0] 25))
  have HNB := Lib.hid (hN.out.below (HB0.mono hDw))
  have HDB := Nat.le_trans hDw HB0.size
  go_enter Try.func23, Try.ntmps23
  go_wp2_with fail
  refine (nAt_err h HDB HNB.out).mono ?_
  rintro e w1 ⟨_, _, _, _, _, rfl, hb⟩
  have X0 := (((Box.newAt (n := w.heap.size) [.slice Aq nq cq, .slice Aa na ca] 25 (by simp)).alloc _)).later hb
  have R := ((Box.newAt (n := w.heap.size + 1) [.slice none 0 0, .slice none 0 0] 25 (by simp))).later hb
  have hB : Below w.heap.size w w1 := ((((Below.refl w.heap.size w).alloc (by simp <;> omega) _).alloc (by simp <;> omega) _)).trans (hb.mono (by simp <;> omega))
  clear hb
  have kb := hB.size
  have kc : w.heap.size + 1 < w1.heap.size := R.lt
  have X0c0 : w1.cell? ⟨w.heap.size, 0, none⟩ = some (.slice Aq nq cq) := X0.cell 0
  have X0f0 : w1.frozen? ⟨w.heap.size, 0, none⟩ = false := X0.free 0
  have X0c1 : w1.cell? ⟨w.heap.size, 1, none⟩ = some (.slice Aa na ca) := X0.cell 1
  have X0f1 : w1.frozen? ⟨w.heap.size, 1, none⟩ = false := X0.free 1
  have X0z : w.heap.size < w1.heap.size := X0.lt
  go_wp2_with fail
  refine (((nWithout_any n _ _ k w1 D (Nat.le_trans hDw hB.size) (hN.out.below (hB.mono hDw)) hkn h4).mono fun _ _ h => h.sl)).mono ?_
  rintro e w2 ⟨A1, n1, c1, A2, n2, c2, rfl, HN2, hb⟩
  clear X0c0 X0f0 X0c1 X0f1 X0z
  have X0 := X0.later hb
  have R := R.later hb
  have hB := hB.trans (hb.mono hB.size)
  clear hb
  have Rc0 : w2.cell? ⟨w.heap.size + 1, 0, none⟩ = some (.slice none 0 0) := R.cell 0
  have Rf0 : w2.frozen? ⟨w.heap.size + 1, 0, none⟩ = false := R.free 0
  have Rc1 : w2.cell? ⟨w.heap.size + 1, 1, none⟩ = some (.slice none 0 0) := R.cell 1
  have Rf1 : w2.frozen? ⟨w.heap.size + 1, 1, none⟩ = false := R.free 1
  have Rz : w.heap.size + 1 < w2.heap.size := R.lt
  go_wp2
  have ZR := (R.set 0 (.slice A1 n1 c1)).set 1 (.slice A2 n2 c2)
  have HB := (hB.setCell (p := ⟨w.heap.size + 1, 0, none⟩) (by simp) (.slice A1 n1 c1)).setCell (p := ⟨w.heap.size + 1, 1, none⟩) (by simp) (.slice A2 n2 c2)
  have HQ := (HN2.out.set (a := ⟨w.heap.size + 1, 0, none⟩) (by simp; omega) kc (.slice A1 n1 c1)).set (a := ⟨w.heap.size + 1, 1, none⟩) (by simp; omega) kc (.slice A2 n2 c2)
  have hres := hs
  generalize (w2.setCell ⟨w.heap.size + 1, 0, none⟩ (.slice A1 n1 c1)).setCell ⟨w.heap.size + 1, 1, none⟩ (.slice A2 n2 c2) = W at ZR HB HQ ⊢
  have z0 : W.cell? ⟨w.heap.size + 1, 0, none⟩ = some (.slice A1 n1 c1) := ZR.cell 0
  have z1 : W.cell? ⟨w.heap.size + 1, 1, none⟩ = some (.slice A2 n2 c2) := ZR.cell 1
  refine bodyPost_ret (v := .tuple #[.agg #[(.slice A1 n1 c1), (.slice A2 n2 c2)], .int .i64 0]) (by simp [results, Try.results23, go_sem, z0, z1]) rfl ?_
  exact ⟨_, _, _, 0, rfl, hres, HQ.lower kb, HB⟩

set_option maxRecDepth 100000 in
set_option maxHeartbeats 4000000 in
theorem nRLose_1 (n : Net) (Aq : Option Addr) (nq cq : Nat) (Aa : Option Addr) (na ca : Nat) (i : Int) (w : World) (D : Nat) (hDw : D ≤ w.heap.size) (hN : Hid (NetAt w D (.slice Aq nq cq) (.slice Aa na ca) n)) (c : Int) (h : Hid (askT n i = c)) (hc : (c != 0) = true) (hs : Hid (loseT n i = (Net.zero, c))) : Calls Try.prog 24 #[.agg #[.slice Aq nq cq, .slice Aa na ca], .int .i64 i] w (RetNet (loseT n i) D w) := by
  have HB0 : Below w.heap.size w ((w.alloc (.cells #[.slice Aq nq cq, .slice Aa na ca] 25)).alloc (.cells #[.slice none 0 0, .slice none 0 0] 25)) := (((Below.refl w.heap.size w).alloc (by simp <;> omega) (.cells #[.slice Aq nq cq, .slice Aa na ca] 25)).alloc (by simp <;> omega) (.cells #[.slice none 0 0, .slice none 0 0] 25))
  have HNB := Lib.hid (hN.out.below (HB0.mono hDw))
  have HDB := Nat.le_trans hDw HB0.size
  go_enter Try.func24, Try.ntmps24
  go_wp2_with fail
  refine (nAsked_at h HDB HNB.out).mono ?_
  rintro e w1 ⟨rfl, hb⟩
  have X0 := (((Box.newAt (n := w.heap.size) [.slice Aq nq cq, .slice Aa na ca] 25 (by simp)).alloc _)).later hb
  have R := ((Box.newAt (n := w.heap.size + 1) [.slice none 0 0, .slice none 0 0] 25 (by simp))).later hb
  have hB : Below w.heap.size w w1 := ((((Below.refl w.heap.size w).alloc (by simp <;> omega) _).alloc (by simp <;> omega) _)).trans (hb.mono (by simp <;> omega))
  clear hb
  have Rc0 : w1.cell? ⟨w.heap.size + 1, 0, none⟩ = some (.slice none 0 0) := R.cell 0
  have Rf0 : w1.frozen? ⟨w.heap.size + 1, 0, none⟩ = false := R.free 0
  have Rc1 : w1.cell? ⟨w.heap.size + 1, 1, none⟩ = some (.slice none 0 0) := R.cell 1
  have Rf1 : w1.frozen? ⟨w.heap.size + 1, 1, none⟩ = false := R.free 1
  have Rz : w.heap.size + 1 < w1.heap.size := R.lt
  have hle : w.heap.size ≤ w.heap.size + 1 := by omega
  have hres := hs
  go_wp2
  have hY := ((R.set 0 (.slice none 0 0)).set 1 (.slice none 0 0))
  have hB := ((hB.setCell (p := ⟨w.heap.size + 1, 0, none⟩) (by simp <;> omega) (.slice none 0 0)).setCell (p := ⟨w.heap.size + 1, 1, none⟩) (by simp <;> omega) (.slice none 0 0))
  generalize ((w1.setCell ⟨w.heap.size + 1, 0, none⟩ (.slice none 0 0)).setCell ⟨w.heap.size + 1, 1, none⟩ (.slice none 0 0)) = W at hY hB ⊢
  have y0 : W.cell? ⟨w.heap.size + 1, 0, none⟩ = some (.slice none 0 0) := hY.cell 0
  have y1 : W.cell? ⟨w.heap.size + 1, 1, none⟩ = some (.slice none 0 0) := hY.cell 1
  refine bodyPost_ret (v := .tuple #[.agg #[.slice none 0 0, .slice none 0 0], .int .i64 c]) (by simp [results, Try.results24, go_sem, y0, y1]) rfl ?_
  exact ⟨_, _, Net.zero, c, rfl, hres, net2_zero _ _ _, hB⟩

set_option maxRecDepth 100000 in
set_option maxHeartbeats 4000000 in
theorem nRLose_2 (n : Net) (Aq : Option Addr) (nq cq : Nat) (Aa : Option Addr) (na ca : Nat) (i : Int) (w : World) (D : Nat) (hDw : D ≤ w.heap.size) (hN : Hid (NetAt w D (.slice Aq nq cq) (.slice Aa na ca) n)) (k : Nat) (_hk : i = (k : Int)) (hkn : k < n.queue.length) (h4 : n.queue.length ≤ 4096) (h : Hid (askT n i = 0)) (hs : Hid (loseT n i = (n.without k, 0))) : Calls Try.prog 24 #[.agg #[.slice Aq nq cq, .slice Aa na ca], .int .i64 i] w (RetNet (loseT n i) D w) := by
  subst _hk
  have HB0 : Below w.heap.size w ((w.alloc (.cells #[.slice Aq nq cq, .slice Aa na ca] 25)).alloc (.cells #[.slice none 0 0, .slice none 0 0] 25)) := (((Below.refl w.heap.size w).alloc (by simp <;> omega) (.cells #[.slice Aq nq cq, .slice Aa na ca] 25)).alloc (by simp <;> omega) (.cells #[.slice none 0 0, .slice none 0 0] 25))
  have HNB := Lib.hid (hN.out.below (HB0.mono hDw))
  have HDB := Nat.le_trans hDw HB0.size
  go_enter Try.func24, Try.ntmps24
  go_wp2_with fail
  refine (nAsked_at h HDB HNB.out).mono ?_
  rintro e w1 ⟨rfl, hb⟩
  have X0 := (((Box.newAt (n := w.heap.size) [.slice Aq nq cq, .slice Aa na ca] 25 (by simp)).alloc _)).later hb
  have R := ((Box.newAt (n := w.heap.size + 1) [.slice none 0 0, .slice none 0 0] 25 (by simp))).later hb
  have hB : Below w.heap.size w w1 := ((((Below.refl w.heap.size w).alloc (by simp <;> omega) _).alloc (by simp <;> omega) _)).trans (hb.mono (by simp <;> omega))
  clear hb
  have kb := hB.size
  have kc : w.heap.size + 1 < w1.heap.size := R.lt
  have X0c0 : w1.cell? ⟨w.heap.size, 0, none⟩ = some (.slice Aq nq cq) := X0.cell 0
  have X0f0 : w1.frozen? ⟨w.heap.size, 0, none⟩ = false := X0.free 0
  have X0c1 : w1.cell? ⟨w.heap.size, 1, none⟩ = some (.slice Aa na ca) := X0.cell 1
  have X0f1 : w1.frozen? ⟨w.heap.size, 1, none⟩ = false := X0.free 1
  have X0z : w.heap.size < w1.heap.size := X0.lt
  go_wp2_with fail
  refine (((nRWithout_any n _ _ k w1 D (Nat.le_trans hDw hB.size) (hN.out.below (hB.mono hDw)) hkn h4).mono fun _ _ h => h.sl)).mono ?_
  rintro e w2 ⟨A1, n1, c1, A2, n2, c2, rfl, HN2, hb⟩
  clear X0c0 X0f0 X0c1 X0f1 X0z
  have X0 := X0.later hb
  have R := R.later hb
  have hB := hB.trans (hb.mono hB.size)
  clear hb
  have Rc0 : w2.cell? ⟨w.heap.size + 1, 0, none⟩ = some (.slice none 0 0) := R.cell 0
  have Rf0 : w2.frozen? ⟨w.heap.size + 1, 0, none⟩ = false := R.free 0
  have Rc1 : w2.cell? ⟨w.heap.size + 1, 1, none⟩ = some (.slice none 0 0) := R.cell 1
  have Rf1 : w2.frozen? ⟨w.heap.size + 1, 1, none⟩ = false := R.free 1
  have Rz : w.heap.size + 1 < w2.heap.size := R.lt
  go_wp2
  have ZR := (R.set 0 (.slice A1 n1 c1)).set 1 (.slice A2 n2 c2)
  have HB := (hB.setCell (p := ⟨w.heap.size + 1, 0, none⟩) (by simp) (.slice A1 n1 c1)).setCell (p := ⟨w.heap.size + 1, 1, none⟩) (by simp) (.slice A2 n2 c2)
  have HQ := (HN2.out.set (a := ⟨w.heap.size + 1, 0, none⟩) (by simp; omega) kc (.slice A1 n1 c1)).set (a := ⟨w.heap.size + 1, 1, none⟩) (by simp; omega) kc (.slice A2 n2 c2)
  have hres := hs
  generalize (w2.setCell ⟨w.heap.size + 1, 0, none⟩ (.slice A1 n1 c1)).setCell ⟨w.heap.size + 1, 1, none⟩ (.slice A2 n2 c2) = W at ZR HB HQ ⊢
  have z0 : W.cell? ⟨w.heap.size + 1, 0, none⟩ = some (.slice A1 n1 c1) := ZR.cell 0
  have z1 : W.cell? ⟨w.heap.size + 1, 1, none⟩ = some (.slice A2 n2 c2) := ZR.cell 1
  refine bodyPost_ret (v := .tuple #[.agg #[(.slice A1 n1 c1), (.slice A2 n2 c2)], .int .i64 0]) (by simp [results, Try.results24, go_sem, z0, z1]) rfl ?_
  exact ⟨_, _, _, 0, rfl, hres, HQ.lower kb, HB⟩

theorem ask_ways (n : Net) (i : Int) : (∃ c : Int, askT n i = c ∧ (c != 0) = true) ∨ ∃ k : Nat, i = (k : Int) ∧ k < n.queue.length ∧ n.queue.length ≤ 4096 ∧ askT n i = 0 := by
  rcases h : n.okB with _ | _
  · exact .inl ⟨60, by rw [askT, h]; rfl, rfl⟩
  · by_cases hi : 0 ≤ i ∧ i < (n.queue.length : Int)
    · obtain ⟨k, rfl⟩ := Int.eq_ofNat_of_zero_le hi.1
      refine .inr ⟨k, rfl, by omega, ?_, by rw [askT, h, if_pos rfl, if_pos hi]⟩
      have := h
      simp only [Net.okB_eq, Bool.and_eq_true, decide_eq_true_eq] at this
      exact this.1
    · exact .inl ⟨1, by rw [askT, h, if_pos rfl, if_neg hi], rfl⟩

theorem nLose_any (n : Net) (Vq Va : Value) (i : Int) (w : World) (D : Nat) (hDw : D ≤ w.heap.size) (hN : NetAt w D Vq Va n) : Calls Try.prog 23 #[.agg #[Vq, Va], .int .i64 i] w (RetNet (loseT n i) D w) := by
  obtain ⟨Aq, cq, rfl, hmq⟩ := hN.queue.form
  obtain ⟨Aa, ca, rfl, _⟩ := hN.apart.form
  rcases ask_ways n i with ⟨c, h, hc⟩ | ⟨k, rfl, hk, h4, h⟩
  · exact nLose_1 n Aq _ cq Aa _ ca i w D hDw hN c h hc (by rw [Hid, loseT, if_neg (by rw [h]; simpa using hc), h])
  · exact nLose_2 n Aq _ cq Aa _ ca _ w D hDw hN k rfl hk h4 h (by rw [Hid, loseT, if_pos h]; rfl)

theorem nRLose_any (n : Net) (Vq Va : Value) (i : Int) (w : World) (D : Nat) (hDw : D ≤ w.heap.size) (hN : NetAt w D Vq Va n) : Calls Try.prog 24 #[.agg #[Vq, Va], .int .i64 i] w (RetNet (loseT n i) D w) := by
  obtain ⟨Aq, cq, rfl, hmq⟩ := hN.queue.form
  obtain ⟨Aa, ca, rfl, _⟩ := hN.apart.form
  rcases ask_ways n i with ⟨c, h, hc⟩ | ⟨k, rfl, hk, h4, h⟩
  · exact nRLose_1 n Aq _ cq Aa _ ca i w D hDw hN c h hc (by rw [Hid, loseT, if_neg (by rw [h]; simpa using hc), h])
  · exact nRLose_2 n Aq _ cq Aa _ ca _ w D hDw hN k rfl hk h4 h (by rw [Hid, loseT, if_pos h]; rfl)

set_option maxRecDepth 100000 in
set_option maxHeartbeats 4000000 in
theorem nRepeat_1 (n : Net) (Aq : Option Addr) (nq cq : Nat) (Aa : Option Addr) (na ca : Nat) (i : Int) (w : World) (D : Nat) (hDw : D ≤ w.heap.size) (hN : Hid (NetAt w D (.slice Aq nq cq) (.slice Aa na ca) n)) (c : Int) (h : Hid (askT n i = c)) (hc : (c != 0) = true) (hs : Hid (repeatT n i = (Net.zero, c))) : Calls Try.prog 25 #[.agg #[.slice Aq nq cq, .slice Aa na ca], .int .i64 i] w (RetNet (repeatT n i) D w) := by
  have HB0 : Below w.heap.size w ((w.alloc (.cells #[.slice Aq nq cq, .slice Aa na ca] 25)).alloc (.cells #[.slice none 0 0, .slice none 0 0] 25)) := (((Below.refl w.heap.size w).alloc (by simp <;> omega) (.cells #[.slice Aq nq cq, .slice Aa na ca] 25)).alloc (by simp <;> omega) (.cells #[.slice none 0 0, .slice none 0 0] 25))
  have HNB := Lib.hid (hN.out.below (HB0.mono hDw))
  have HDB := Nat.le_trans hDw HB0.size
  go_enter Try.func25, Try.ntmps25
  go_wp2_with fail
  refine (nAt_err h HDB HNB.out).mono ?_
  rintro e w1 ⟨a1, a2, Ad, dn, dc, rfl, hb⟩
  have X0 := (((Box.newAt (n := w.heap.size) [.slice Aq nq cq, .slice Aa na ca] 25 (by simp)).alloc _)).later hb
  have R := ((Box.newAt (n := w.heap.size + 1) [.slice none 0 0, .slice none 0 0] 25 (by simp))).later hb
  have hB : Below w.heap.size w w1 := ((((Below.refl w.heap.size w).alloc (by simp <;> omega) _).alloc (by simp <;> omega) _)).trans (hb.mono (by simp <;> omega))
  clear hb
  have Rc0 : w1.cell? ⟨w.heap.size + 1, 0, none⟩ = some (.slice none 0 0) := R.cell 0
  have Rf0 : w1.frozen? ⟨w.heap.size + 1, 0, none⟩ = false := R.free 0
  have Rc1 : w1.cell? ⟨w.heap.size + 1, 1, none⟩ = some (.slice none 0 0) := R.cell 1
  have Rf1 : w1.frozen? ⟨w.heap.size + 1, 1, none⟩ = false := R.free 1
  have Rz : w.heap.size + 1 < w1.heap.size := R.lt
  have hle : w.heap.size ≤ w.heap.size + 1 := by omega
  have hres := hs
  go_wp2
  have ZR := ((R.set 0 (.slice none 0 0)).set 1 (.slice none 0 0)).alloc (.cells #[.int .i64 a1, .int .i64 a2, .slice Ad dn dc] 28)
  have HB := ((hB.setCell (p := ⟨w.heap.size + 1, 0, none⟩) (by simp) (.slice none 0 0)).setCell (p := ⟨w.heap.size + 1, 1, none⟩) (by simp) (.slice none 0 0)).alloc (by have := hB.size; simp; omega) (.cells #[.int .i64 a1, .int .i64 a2, .slice Ad dn dc] 28)
  generalize ((w1.setCell ⟨w.heap.size + 1, 0, none⟩ (.slice none 0 0)).setCell ⟨w.heap.size + 1, 1, none⟩ (.slice none 0 0)).alloc (.cells #[.int .i64 a1, .int .i64 a2, .slice Ad dn dc] 28) = W at ZR HB ⊢
  have z0 : W.cell? ⟨w.heap.size + 1, 0, none⟩ = some (.slice none 0 0) := ZR.cell 0
  have z1 : W.cell? ⟨w.heap.size + 1, 1, none⟩ = some (.slice none 0 0) := ZR.cell 1
  refine bodyPost_ret (v := .tuple #[.agg #[(.slice none 0 0), (.slice none 0 0)], .int .i64 c]) (by simp [results, Try.results25, go_sem, z0, z1]) rfl ?_
  exact ⟨_, _, Net.zero, c, rfl, hres, net2_zero _ _ _, HB⟩

set_option maxRecDepth 100000 in
set_option maxHeartbeats 4000000 in
theorem nRepeat_2 (n : Net) (Aq : Option Addr) (nq cq : Nat) (Aa : Option Addr) (na ca : Nat) (i : Int) (w : World) (D : Nat) (hDw : D ≤ w.heap.size) (hN : Hid (NetAt w D (.slice Aq nq cq) (.slice Aa na ca) n)) (h : Hid (askT n i = 0)) (hs : Hid (repeatT n i = sendT n (n.pk i))) : Calls Try.prog 25 #[.agg #[.slice Aq nq cq, .slice Aa na ca], .int .i64 i] w (RetNet (repeatT n i) D w) := by
  have HB0 : Below w.heap.size w ((w.alloc (.cells #[.slice Aq nq cq, .slice Aa na ca] 25)).alloc (.cells #[.slice none 0 0, .slice none 0 0] 25)) := (((Below.refl w.heap.size w).alloc (by simp <;> omega) (.cells #[.slice Aq nq cq, .slice Aa na ca] 25)).alloc (by simp <;> omega) (.cells #[.slice none 0 0, .slice none 0 0] 25))
  have HNB := Lib.hid (hN.out.below (HB0.mono hDw))
  have HDB := Nat.le_trans hDw HB0.size
  go_enter Try.func25, Try.ntmps25
  go_wp2_with fail
  refine (nAt_ok h HDB HNB.out).mono ?_
  rintro e w1 ⟨Ad, dn, dc, rfl, hV, hb⟩
  have X0 := (((Box.newAt (n := w.heap.size) [.slice Aq nq cq, .slice Aa na ca] 25 (by simp)).alloc _)).later hb
  have R := ((Box.newAt (n := w.heap.size + 1) [.slice none 0 0, .slice none 0 0] 25 (by simp))).later hb
  have hB : Below w.heap.size w w1 := ((((Below.refl w.heap.size w).alloc (by simp <;> omega) _).alloc (by simp <;> omega) _)).trans (hb.mono (by simp <;> omega))
  clear hb
  have hBP := hB.alloc hB.size (.cells #[.int .i64 (n.pk i).src, .int .i64 (n.pk i).dst, .slice Ad dn dc] 28)
  have hVP := Lib.hid (hV.out.below ((Below.refl w1.heap.size w1).alloc (Nat.le_refl _) (.cells #[.int .i64 (n.pk i).src, .int .i64 (n.pk i).dst, .slice Ad dn dc] 28) |>.mono (Nat.le_trans hDw hB.size)))
  have kb := hBP.size
  have kc : w.heap.size + 1 < (w1.alloc (.cells #[.int .i64 (n.pk i).src, .int .i64 (n.pk i).dst, .slice Ad dn dc] 28)).heap.size := (R.alloc (.cells #[.int .i64 (n.pk i).src, .int .i64 (n.pk i).dst, .slice Ad dn dc] 28)).lt
  have X0c0 : w1.cell? ⟨w.heap.size, 0, none⟩ = some (.slice Aq nq cq) := X0.cell 0
  have X0f0 : w1.frozen? ⟨w.heap.size, 0, none⟩ = false := X0.free 0
  have X0c1 : w1.cell? ⟨w.heap.size, 1, none⟩ = some (.slice Aa na ca) := X0.cell 1
  have X0f1 : w1.frozen? ⟨w.heap.size, 1, none⟩ = false := X0.free 1
  have X0z : w.heap.size < w1.heap.size := X0.lt
  go_wp2_with fail
  refine (((nSend_any n _ _ (n.pk i) _ (w1.alloc (.cells #[.int .i64 (n.pk i).src, .int .i64 (n.pk i).dst, .slice Ad dn dc] 28)) D (Nat.le_trans hDw kb) (hN.out.below (hBP.mono hDw)) hVP.out).mono fun _ _ h => h.sl)).mono ?_
  rintro e w2 ⟨A1, n1, c1, A2, n2, c2, m, er, rfl, ht, HN2, hb⟩
  clear X0c0 X0f0 X0c1 X0f1 X0z
  have P := ((Box.newAt (w := w1) (n := w1.heap.size) [.int .i64 (n.pk i).src, .int .i64 (n.pk i).dst, .slice Ad dn dc] 28 (by simp))).later hb
  have X0 := ((X0.alloc (.cells #[.int .i64 (n.pk i).src, .int .i64 (n.pk i).dst, .slice Ad dn dc] 28))).later hb
  have R := ((R.alloc (.cells #[.int .i64 (n.pk i).src, .int .i64 (n.pk i).dst, .slice Ad dn dc] 28))).later hb
  have hB := (hB.alloc hB.size (.cells #[.int .i64 (n.pk i).src, .int .i64 (n.pk i).dst, .slice Ad dn dc] 28)).trans (hb.mono (by have := hB.size; simp; omega))
  clear hb
  have Rc0 : w2.cell? ⟨w.heap.size + 1, 0, none⟩ = some (.slice none 0 0) := R.cell 0
  have Rf0 : w2.frozen? ⟨w.heap.size + 1, 0, none⟩ = false := R.free 0
  have Rc1 : w2.cell? ⟨w.heap.size + 1, 1, none⟩ = some (.slice none 0 0) := R.cell 1
  have Rf1 : w2.frozen? ⟨w.heap.size + 1, 1, none⟩ = false := R.free 1
  have Rz : w.heap.size + 1 < w2.heap.size := R.lt
  go_wp2
  have ZR := (R.set 0 (.slice A1 n1 c1)).set 1 (.slice A2 n2 c2)
  have HB := (hB.setCell (p := ⟨w.heap.size + 1, 0, none⟩) (by simp) (.slice A1 n1 c1)).setCell (p := ⟨w.heap.size + 1, 1, none⟩) (by simp) (.slice A2 n2 c2)
  have HQ := (HN2.out.set (a := ⟨w.heap.size + 1, 0, none⟩) (by simp; omega) kc (.slice A1 n1 c1)).set (a := ⟨w.heap.size + 1, 1, none⟩) (by simp; omega) kc (.slice A2 n2 c2)
  have hres := hs
  generalize (w2.setCell ⟨w.heap.size + 1, 0, none⟩ (.slice A1 n1 c1)).setCell ⟨w.heap.size + 1, 1, none⟩ (.slice A2 n2 c2) = W at ZR HB HQ ⊢
  have z0 : W.cell? ⟨w.heap.size + 1, 0, none⟩ = some (.slice A1 n1 c1) := ZR.cell 0
  have z1 : W.cell? ⟨w.heap.size + 1, 1, none⟩ = some (.slice A2 n2 c2) := ZR.cell 1
  refine bodyPost_ret (v := .tuple #[.agg #[(.slice A1 n1 c1), (.slice A2 n2 c2)], .int .i64 er]) (by simp [results, Try.results25, go_sem, z0, z1]) rfl ?_
  exact ⟨_, _, _, er, rfl, hres.trans ht, HQ.lower kb, HB⟩

set_option maxRecDepth 100000 in
set_option maxHeartbeats 4000000 in
theorem nRRepeat_1 (n : Net) (Aq : Option Addr) (nq cq : Nat) (Aa : Option Addr) (na ca : Nat) (i : Int) (w : World) (D : Nat) (hDw : D ≤ w.heap.size) (hN : Hid (NetAt w D (.slice Aq nq cq) (.slice Aa na ca) n)) (c : Int) (h : Hid (askT n i = c)) (hc : (c != 0) = true) (hs : Hid (repeatT n i = (Net.zero, c))) : Calls Try.prog 26 #[.agg #[.slice Aq nq cq, .slice Aa na ca], .int .i64 i] w (RetNet (repeatT n i) D w) := by
  have HB0 : Below w.heap.size w ((w.alloc (.cells #[.slice Aq nq cq, .slice Aa na ca] 25)).alloc (.cells #[.slice none 0 0, .slice none 0 0] 25)) := (((Below.refl w.heap.size w).alloc (by simp <;> omega) (.cells #[.slice Aq nq cq, .slice Aa na ca] 25)).alloc (by simp <;> omega) (.cells #[.slice none 0 0, .slice none 0 0] 25))
  have HNB := Lib.hid (hN.out.below (HB0.mono hDw))
  have HDB := Nat.le_trans hDw HB0.size
  go_enter Try.func26, Try.ntmps26
  go_wp2_with fail
  refine (nAsked_at h HDB HNB.out).mono ?_
  rintro e w1 ⟨rfl, hb⟩
  have X0 := (((Box.newAt (n := w.heap.size) [.slice Aq nq cq, .slice Aa na ca] 25 (by simp)).alloc _)).later hb
  have R := ((Box.newAt (n := w.heap.size + 1) [.slice none 0 0, .slice none 0 0] 25 (by simp))).later hb
  have hB : Below w.heap.size w w1 := ((((Below.refl w.heap.size w).alloc (by simp <;> omega) _).alloc (by simp <;> omega) _)).trans (hb.mono (by simp <;> omega))
  clear hb
  have Rc0 : w1.cell? ⟨w.heap.size + 1, 0, none⟩ = some (.slice none 0 0) := R.cell 0
  have Rf0 : w1.frozen? ⟨w.heap.size + 1, 0, none⟩ = false := R.free 0
  have Rc1 : w1.cell? ⟨w.heap.size + 1, 1, none⟩ = some (.slice none 0 0) := R.cell 1
  have Rf1 : w1.frozen? ⟨w.heap.size + 1, 1, none⟩ = false := R.free 1
  have Rz : w.heap.size + 1 < w1.heap.size := R.lt
  have hle : w.heap.size ≤ w.heap.size + 1 := by omega
  have hres := hs
  go_wp2
  have hY := ((R.set 0 (.slice none 0 0)).set 1 (.slice none 0 0))
  have hB := ((hB.setCell (p := ⟨w.heap.size + 1, 0, none⟩) (by simp <;> omega) (.slice none 0 0)).setCell (p := ⟨w.heap.size + 1, 1, none⟩) (by simp <;> omega) (.slice none 0 0))
  generalize ((w1.setCell ⟨w.heap.size + 1, 0, none⟩ (.slice none 0 0)).setCell ⟨w.heap.size + 1, 1, none⟩ (.slice none 0 0)) = W at hY hB ⊢
  have y0 : W.cell? ⟨w.heap.size + 1, 0, none⟩ = some (.slice none 0 0) := hY.cell 0
  have y1 : W.cell? ⟨w.heap.size + 1, 1, none⟩ = some (.slice none 0 0) := hY.cell 1
  refine bodyPost_ret (v := .tuple #[.agg #[.slice none 0 0, .slice none 0 0], .int .i64 c]) (by simp [results, Try.results26, go_sem, y0, y1]) rfl ?_
  exact ⟨_, _, Net.zero, c, rfl, hres, net2_zero _ _ _, hB⟩

set_option maxRecDepth 100000 in
set_option maxHeartbeats 4000000 in
theorem nRRepeat_2 (n : Net) (Aq : Option Addr) (nq cq : Nat) (Aa : Option Addr) (na ca : Nat) (i : Int) (w : World) (D : Nat) (hDw : D ≤ w.heap.size) (hN : Hid (NetAt w D (.slice Aq nq cq) (.slice Aa na ca) n)) (k : Nat) (_hk : i = (k : Int)) (hkn : k < nq) (h : Hid (askT n i = 0)) (hnq : Hid (n.queue.length = nq)) (_hm : nq ≤ 9223372036854775807) (hs : Hid (repeatT n i = sendT n (n.pk i))) : Calls Try.prog 26 #[.agg #[.slice Aq nq cq, .slice Aa na ca], .int .i64 i] w (RetNet (repeatT n i) D w) := by
  subst _hk
  have hkl : k < n.queue.length := by rw [hnq.out]; exact hkn
  rw [Net.pk_at hkl] at hs
  obtain ⟨b, off, V, rfl, hbw, q0, q1, q2, hV⟩ := hN.out.queue.pk hkl
  obtain ⟨Ad, cd, rfl, _⟩ := hV.form
  obtain ⟨dl, hdl⟩ : ∃ dl, (n.queue[k]).data.length = dl := ⟨_, rfl⟩
  rw [hdl] at q2 hV
  obtain ⟨y, hy⟩ : ∃ y, n.queue[k] = y := ⟨_, rfl⟩
  rw [hy] at q0 q1 hV hs
  have HV := Lib.hid hV
  have Q0 := Lib.hid q0
  have Q1 := Lib.hid q1
  have Q2 := Lib.hid q2
  clear hdl hy hV q0 q1 q2
  have HB0 : Below w.heap.size w ((w.alloc (.cells #[.slice (some ⟨b, off, none⟩) nq cq, .slice Aa na ca] 25)).alloc (.cells #[.slice none 0 0, .slice none 0 0] 25)) := (((Below.refl w.heap.size w).alloc (by simp <;> omega) (.cells #[.slice (some ⟨b, off, none⟩) nq cq, .slice Aa na ca] 25)).alloc (by simp <;> omega) (.cells #[.slice none 0 0, .slice none 0 0] 25))
  have HNB := Lib.hid (hN.out.below (HB0.mono hDw))
  have HDB := Nat.le_trans hDw HB0.size
  go_enter Try.func26, Try.ntmps26
  go_wp2_with fail
  refine (nAsked_at h HDB HNB.out).mono ?_
  rintro e w1 ⟨rfl, hb⟩
  have X0 := (((Box.newAt (n := w.heap.size) [.slice (some ⟨b, off, none⟩) nq cq, .slice Aa na ca] 25 (by simp)).alloc _)).later hb
  have R := ((Box.newAt (n := w.heap.size + 1) [.slice none 0 0, .slice none 0 0] 25 (by simp))).later hb
  have hB : Below w.heap.size w w1 := ((((Below.refl w.heap.size w).alloc (by simp <;> omega) _).alloc (by simp <;> omega) _)).trans (hb.mono (by simp <;> omega))
  clear hb
  have hbv := Nat.lt_of_lt_of_le hbw hDw
  have q0 := (hB.cell hbv).trans Q0.out
  have q1 := (hB.cell hbv).trans Q1.out
  have q2 := (hB.cell hbv).trans Q2.out
  have hbz : b < w1.heap.size := by have := hB.size; omega
  have X0c0 : w1.cell? ⟨w.heap.size, 0, none⟩ = some (.slice (some ⟨b, off, none⟩) nq cq) := X0.cell 0
  have X0f0 : w1.frozen? ⟨w.heap.size, 0, none⟩ = false := X0.free 0
  have X0c1 : w1.cell? ⟨w.heap.size, 1, none⟩ = some (.slice Aa na ca) := X0.cell 1
  have X0f1 : w1.frozen? ⟨w.heap.size, 1, none⟩ = false := X0.free 1
  have X0z : w.heap.size < w1.heap.size := X0.lt
  have Rc0 : w1.cell? ⟨w.heap.size + 1, 0, none⟩ = some (.slice none 0 0) := R.cell 0
  have Rf0 : w1.frozen? ⟨w.heap.size + 1, 0, none⟩ = false := R.free 0
  have Rc1 : w1.cell? ⟨w.heap.size + 1, 1, none⟩ = some (.slice none 0 0) := R.cell 1
  have Rf1 : w1.frozen? ⟨w.heap.size + 1, 1, none⟩ = false := R.free 1
  have Rz : w.heap.size + 1 < w1.heap.size := R.lt
  have hBd := hB.drew
  have kb := hBd.size
  have kc : w.heap.size + 1 < w1.drew.heap.size := R.drew.lt
  have hDd := Nat.le_trans hDw kb
  have hNd := Lib.hid (hN.out.below (hBd.mono hDw))
  have hVd := Lib.hid (HV.out.below (hBd.mono hDw))
  go_wp2_with fail
  go_region_with (go_at_call 12; refine (Calls.mono (nRSend_any n _ _ y _ w1.drew D hDd hNd.out hVd.out) ?_); rintro e w2 hh; obtain ⟨A1, n1, c1, A2, n2, c2, m, er, rfl, ht, HN2, hb⟩ := RetNet.sl hh; have R := R.drew.later hb; have hB := hBd.trans (hb.mono hBd.size); have Rc0 : w2.cell? ⟨w.heap.size + 1, 0, none⟩ = some (.slice none 0 0) := R.cell 0; have Rf0 : w2.frozen? ⟨w.heap.size + 1, 0, none⟩ = false := R.free 0; have Rc1 : w2.cell? ⟨w.heap.size + 1, 1, none⟩ = some (.slice none 0 0) := R.cell 1; have Rf1 : w2.frozen? ⟨w.heap.size + 1, 1, none⟩ = false := R.free 1; have Rz : w.heap.size + 1 < w2.heap.size := R.lt)
  all_goals (try go_wp2)
  all_goals (
    have ZR := (R.set 0 (.slice A1 n1 c1)).set 1 (.slice A2 n2 c2)
    have HB := (hB.setCell (p := ⟨w.heap.size + 1, 0, none⟩) (by simp) (.slice A1 n1 c1)).setCell (p := ⟨w.heap.size + 1, 1, none⟩) (by simp) (.slice A2 n2 c2)
    have HQ := (HN2.out.set (a := ⟨w.heap.size + 1, 0, none⟩) (by simp; omega) kc (.slice A1 n1 c1)).set (a := ⟨w.heap.size + 1, 1, none⟩) (by simp; omega) kc (.slice A2 n2 c2)
    have hres := hs
    generalize (w2.setCell ⟨w.heap.size + 1, 0, none⟩ (.slice A1 n1 c1)).setCell ⟨w.heap.size + 1, 1, none⟩ (.slice A2 n2 c2) = W at ZR HB HQ ⊢
    have z0 : W.cell? ⟨w.heap.size + 1, 0, none⟩ = some (.slice A1 n1 c1) := ZR.cell 0
    have z1 : W.cell? ⟨w.heap.size + 1, 1, none⟩ = some (.slice A2 n2 c2) := ZR.cell 1
    refine bodyPost_ret (v := .tuple #[.agg #[(.slice A1 n1 c1), (.slice A2 n2 c2)], .int .i64 er]) (by simp [results, Try.results26, go_sem, z0, z1]) rfl ?_
    exact ⟨_, _, _, er, rfl, hres.trans ht, HQ.lower kb, HB⟩)

theorem nRepeat_any (n : Net) (Vq Va : Value) (i : Int) (w : World) (D : Nat) (hDw : D ≤ w.heap.size) (hN : NetAt w D Vq Va n) : Calls Try.prog 25 #[.agg #[Vq, Va], .int .i64 i] w (RetNet (repeatT n i) D w) := by
  obtain ⟨Aq, cq, rfl, hmq⟩ := hN.queue.form
  obtain ⟨Aa, ca, rfl, _⟩ := hN.apart.form
  rcases ask_ways n i with ⟨c, h, hc⟩ | ⟨k, rfl, hk, h4, h⟩
  · exact nRepeat_1 n Aq _ cq Aa _ ca i w D hDw hN c h hc (by rw [Hid, repeatT, if_neg (by rw [h]; simpa using hc), h])
  · exact nRepeat_2 n Aq _ cq Aa _ ca _ w D hDw hN h (by rw [Hid, repeatT, if_pos h])

theorem nRRepeat_any (n : Net) (Vq Va : Value) (i : Int) (w : World) (D : Nat) (hDw : D ≤ w.heap.size) (hN : NetAt w D Vq Va n) : Calls Try.prog 26 #[.agg #[Vq, Va], .int .i64 i] w (RetNet (repeatT n i) D w) := by
  obtain ⟨Aq, cq, rfl, hmq⟩ := hN.queue.form
  obtain ⟨Aa, ca, rfl, _⟩ := hN.apart.form
  rcases ask_ways n i with ⟨c, h, hc⟩ | ⟨k, rfl, hk, h4, h⟩
  · exact nRRepeat_1 n Aq _ cq Aa _ ca i w D hDw hN c h hc (by rw [Hid, repeatT, if_neg (by rw [h]; simpa using hc), h])
  · exact nRRepeat_2 n Aq _ cq Aa _ ca _ w D hDw hN k rfl hk h rfl (by omega) (by rw [Hid, repeatT, if_pos h])

end Go.Proofs.Ytndjpaiakodciaa
