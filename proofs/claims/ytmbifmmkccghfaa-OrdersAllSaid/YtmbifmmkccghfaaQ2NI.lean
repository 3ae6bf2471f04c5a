/- Contracts of at of network, asked of the reference, slices.Contains over pairs, IsCut. (Printed by gen_ni.py.) -/
import Derived.Test.YtmbifmmkccghfaaQ2KG
import Derived.Deep.RegionWith
import Derived.ChangeKeysEq
set_option linter.unusedVariables false
set_option linter.unusedSimpArgs false
namespace Go.Proofs.Ytmbifmmkccghfaa
open Go.RowKit

def RetPk (t : Pk × Int) (D : Nat) (w : World) (e : Ending) (w' : World) : Prop := ∃ (V : Value) (p : Pk) (er : Int), e = .returned (.tuple #[p.v V, .int .i64 er]) ∧ Hid (t = (p, er)) ∧ Hid (BytesAt w' D V p.data) ∧ Below w.heap.size w w'
def atT (n : Net) (i : Int) : Pk × Int := if askTN n i = 0 then (n.pk i, 0) else (Pk.zero, askTN n i)
theorem Net.pk_at {n : Net} {k : Nat} (h : k < n.queue.length) : n.pk (k : Int) = n.queue[k] := by
  rw [Net.pk, Int.toNat_natCast, List.getD_eq_getElem?_getD, List.getElem?_eq_getElem h]
  rfl

set_option maxRecDepth 100000 in
set_option maxHeartbeats 4000000 in
theorem nAt_1 (n : Net) (Aq : Option Addr) (nq cq : Nat) (Aa : Option Addr) (na ca : Nat) (i : Int) (w : World) (D : Nat) (hDw : D ≤ w.heap.size) (hN : Hid (NetAt w D (.slice Aq nq cq) (.slice Aa na ca) n)) (h : Hid (n.checkT = 60)) (hs : Hid (atT n i = (Pk.zero, 60))) : Calls Try.prog 70 #[.agg #[.slice Aq nq cq, .slice Aa na ca], .int .i64 i] w (RetPk (atT n i) D w) := by
  have HB0 : Below w.heap.size w ((w.alloc (.cells #[.slice Aq nq cq, .slice Aa na ca] 25)).alloc (.cells #[.int .i64 0, .int .i64 0, .slice none 0 0] 51)) := (((Below.refl w.heap.size w).alloc (by simp <;> omega) (.cells #[.slice Aq nq cq, .slice Aa na ca] 25)).alloc (by simp <;> omega) (.cells #[.int .i64 0, .int .i64 0, .slice none 0 0] 51))
  have HNB := Lib.hid (((hN.out.more hDw).below HB0).more HB0.size)
  go_enter Try.func70, Try.ntmps70
  go_wp2_with fail
  refine (nCheck_at h HNB.out).mono ?_
  rintro e w1 ⟨rfl, hb⟩
  have X0 := (((Box.newAt (n := w.heap.size) [.slice Aq nq cq, .slice Aa na ca] 25 (by simp)).alloc _)).later hb
  have R := ((Box.newAt (n := w.heap.size + 1) [.int .i64 0, .int .i64 0, .slice none 0 0] 51 (by simp))).later hb
  have hB : Below w.heap.size w w1 := ((((Below.refl w.heap.size w).alloc (by simp <;> omega) _).alloc (by simp <;> omega) _)).trans (hb.mono (by simp <;> omega))
  clear hb
  have Rc0 : w1.cell? ⟨w.heap.size + 1, 0, none⟩ = some (.int .i64 0) := R.cell 0
  have Rf0 : w1.frozen? ⟨w.heap.size + 1, 0, none⟩ = false := R.free 0
  have Rc1 : w1.cell? ⟨w.heap.size + 1, 1, none⟩ = some (.int .i64 0) := R.cell 1
  have Rf1 : w1.frozen? ⟨w.heap.size + 1, 1, none⟩ = false := R.free 1
  have Rc2 : w1.cell? ⟨w.heap.size + 1, 2, none⟩ = some (.slice none 0 0) := R.cell 2
  have Rf2 : w1.frozen? ⟨w.heap.size + 1, 2, none⟩ = false := R.free 2
  have Rz : w.heap.size + 1 < w1.heap.size := R.lt
  have hle : w.heap.size ≤ w.heap.size + 1 := by omega
  have hres := hs
  go_wp2
  have hY := (((R.set 0 (.int .i64 0)).set 1 (.int .i64 0)).set 2 (.slice none 0 0))
  have hB := (((hB.setCell (p := ⟨w.heap.size + 1, 0, none⟩) (by simp <;> omega) (.int .i64 0)).setCell (p := ⟨w.heap.size + 1, 1, none⟩) (by simp <;> omega) (.int .i64 0)).setCell (p := ⟨w.heap.size + 1, 2, none⟩) (by simp <;> omega) (.slice none 0 0))
  generalize (((w1.setCell ⟨w.heap.size + 1, 0, none⟩ (.int .i64 0)).setCell ⟨w.heap.size + 1, 1, none⟩ (.int .i64 0)).setCell ⟨w.heap.size + 1, 2, none⟩ (.slice none 0 0)) = W at hY hB ⊢
  have y0 : W.cell? ⟨w.heap.size + 1, 0, none⟩ = some (.int .i64 0) := hY.cell 0
  have y1 : W.cell? ⟨w.heap.size + 1, 1, none⟩ = some (.int .i64 0) := hY.cell 1
  have y2 : W.cell? ⟨w.heap.size + 1, 2, none⟩ = some (.slice none 0 0) := hY.cell 2
  refine bodyPost_ret (v := .tuple #[.agg #[.int .i64 0, .int .i64 0, .slice none 0 0], .int .i64 60]) (by simp [results, Try.results70, go_sem, y0, y1, y2]) rfl ?_
  exact ⟨_, Pk.zero, 60, rfl, hres, bytesAt_nil _ _, hB⟩

set_option maxRecDepth 100000 in
set_option maxHeartbeats 4000000 in
theorem nAt_2 (n : Net) (Aq : Option Addr) (nq cq : Nat) (Aa : Option Addr) (na ca : Nat) (i : Int) (w : World) (D : Nat) (hDw : D ≤ w.heap.size) (hN : Hid (NetAt w D (.slice Aq nq cq) (.slice Aa na ca) n)) (h : Hid (n.checkT = 0)) (_hi : i < 0) (hs : Hid (atT n i = (Pk.zero, 1))) : Calls Try.prog 70 #[.agg #[.slice Aq nq cq, .slice Aa na ca], .int .i64 i] w (RetPk (atT n i) D w) := by
  have HB0 : Below w.heap.size w ((w.alloc (.cells #[.slice Aq nq cq, .slice Aa na ca] 25)).alloc (.cells #[.int .i64 0, .int .i64 0, .slice none 0 0] 51)) := (((Below.refl w.heap.size w).alloc (by simp <;> omega) (.cells #[.slice Aq nq cq, .slice Aa na ca] 25)).alloc (by simp <;> omega) (.cells #[.int .i64 0, .int .i64 0, .slice none 0 0] 51))
  have HNB := Lib.hid (((hN.out.more hDw).below HB0).more HB0.size)
  go_enter Try.func70, Try.ntmps70
  go_wp2_with fail
  refine (nCheck_at h HNB.out).mono ?_
  rintro e w1 ⟨rfl, hb⟩
  have X0 := (((Box.newAt (n := w.heap.size) [.slice Aq nq cq, .slice Aa na ca] 25 (by simp)).alloc _)).later hb
  have R := ((Box.newAt (n := w.heap.size + 1) [.int .i64 0, .int .i64 0, .slice none 0 0] 51 (by simp))).later hb
  have hB : Below w.heap.size w w1 := ((((Below.refl w.heap.size w).alloc (by simp <;> omega) _).alloc (by simp <;> omega) _)).trans (hb.mono (by simp <;> omega))
  clear hb
  have X0c0 : w1.cell? ⟨w.heap.size, 0, none⟩ = some (.slice Aq nq cq) := X0.cell 0
  have X0f0 : w1.frozen? ⟨w.heap.size, 0, none⟩ = false := X0.free 0
  have X0c1 : w1.cell? ⟨w.heap.size, 1, none⟩ = some (.slice Aa na ca) := X0.cell 1
  have X0f1 : w1.frozen? ⟨w.heap.size, 1, none⟩ = false := X0.free 1
  have X0z : w.heap.size < w1.heap.size := X0.lt
  have Rc0 : w1.cell? ⟨w.heap.size + 1, 0, none⟩ = some (.int .i64 0) := R.cell 0
  have Rf0 : w1.frozen? ⟨w.heap.size + 1, 0, none⟩ = false := R.free 0
  have Rc1 : w1.cell? ⟨w.heap.size + 1, 1, none⟩ = some (.int .i64 0) := R.cell 1
  have Rf1 : w1.frozen? ⟨w.heap.size + 1, 1, none⟩ = false := R.free 1
  have Rc2 : w1.cell? ⟨w.heap.size + 1, 2, none⟩ = some (.slice none 0 0) := R.cell 2
  have Rf2 : w1.frozen? ⟨w.heap.size + 1, 2, none⟩ = false := R.free 2
  have Rz : w.heap.size + 1 < w1.heap.size := R.lt
  have hle : w.heap.size ≤ w.heap.size + 1 := by omega
  have hres := hs
  go_wp2
  have hY := (((R.set 0 (.int .i64 0)).set 1 (.int .i64 0)).set 2 (.slice none 0 0))
  have hB := (((hB.setCell (p := ⟨w.heap.size + 1, 0, none⟩) (by simp <;> omega) (.int .i64 0)).setCell (p := ⟨w.heap.size + 1, 1, none⟩) (by simp <;> omega) (.int .i64 0)).setCell (p := ⟨w.heap.size + 1, 2, none⟩) (by simp <;> omega) (.slice none 0 0))
  generalize (((w1.setCell ⟨w.heap.size + 1, 0, none⟩ (.int .i64 0)).setCell ⟨w.heap.size + 1, 1, none⟩ (.int .i64 0)).setCell ⟨w.heap.size + 1, 2, none⟩ (.slice none 0 0)) = W at hY hB ⊢
  have y0 : W.cell? ⟨w.heap.size + 1, 0, none⟩ = some (.int .i64 0) := hY.cell 0
  have y1 : W.cell? ⟨w.heap.size + 1, 1, none⟩ = some (.int .i64 0) := hY.cell 1
  have y2 : W.cell? ⟨w.heap.size + 1, 2, none⟩ = some (.slice none 0 0) := hY.cell 2
  refine bodyPost_ret (v := .tuple #[.agg #[.int .i64 0, .int .i64 0, .slice none 0 0], .int .i64 1]) (by simp [results, Try.results70, go_sem, y0, y1, y2]) rfl ?_
  exact ⟨_, Pk.zero, 1, rfl, hres, bytesAt_nil _ _, hB⟩

set_option maxRecDepth 100000 in
set_option maxHeartbeats 4000000 in
theorem nAt_3 (n : Net) (Aq : Option Addr) (nq cq : Nat) (Aa : Option Addr) (na ca : Nat) (i : Int) (w : World) (D : Nat) (hDw : D ≤ w.heap.size) (hN : Hid (NetAt w D (.slice Aq nq cq) (.slice Aa na ca) n)) (h : Hid (n.checkT = 0)) (_hi : 0 ≤ i) (_hl : (nq : Int) ≤ i) (hs : Hid (atT n i = (Pk.zero, 1))) : Calls Try.prog 70 #[.agg #[.slice Aq nq cq, .slice Aa na ca], .int .i64 i] w (RetPk (atT n i) D w) := by
  have HB0 : Below w.heap.size w ((w.alloc (.cells #[.slice Aq nq cq, .slice Aa na ca] 25)).alloc (.cells #[.int .i64 0, .int .i64 0, .slice none 0 0] 51)) := (((Below.refl w.heap.size w).alloc (by simp <;> omega) (.cells #[.slice Aq nq cq, .slice Aa na ca] 25)).alloc (by simp <;> omega) (.cells #[.int .i64 0, .int .i64 0, .slice none 0 0] 51))
  have HNB := Lib.hid (((hN.out.more hDw).below HB0).more HB0.size)
  go_enter Try.func70, Try.ntmps70
  go_wp2_with fail
  refine (nCheck_at h HNB.out).mono ?_
  rintro e w1 ⟨rfl, hb⟩
  have X0 := (((Box.newAt (n := w.heap.size) [.slice Aq nq cq, .slice Aa na ca] 25 (by simp)).alloc _)).later hb
  have R := ((Box.newAt (n := w.heap.size + 1) [.int .i64 0, .int .i64 0, .slice none 0 0] 51 (by simp))).later hb
  have hB : Below w.heap.size w w1 := ((((Below.refl w.heap.size w).alloc (by simp <;> omega) _).alloc (by simp <;> omega) _)).trans (hb.mono (by simp <;> omega))
  clear hb
  have X0c0 : w1.cell? ⟨w.heap.size, 0, none⟩ = some (.slice Aq nq cq) := X0.cell 0
  have X0f0 : w1.frozen? ⟨w.heap.size, 0, none⟩ = false := X0.free 0
  have X0c1 : w1.cell? ⟨w.heap.size, 1, none⟩ = some (.slice Aa na ca) := X0.cell 1
  have X0f1 : w1.frozen? ⟨w.heap.size, 1, none⟩ = false := X0.free 1
  have X0z : w.heap.size < w1.heap.size := X0.lt
  have Rc0 : w1.cell? ⟨w.heap.size + 1, 0, none⟩ = some (.int .i64 0) := R.cell 0
  have Rf0 : w1.frozen? ⟨w.heap.size + 1, 0, none⟩ = false := R.free 0
  have Rc1 : w1.cell? ⟨w.heap.size + 1, 1, none⟩ = some (.int .i64 0) := R.cell 1
  have Rf1 : w1.frozen? ⟨w.heap.size + 1, 1, none⟩ = false := R.free 1
  have Rc2 : w1.cell? ⟨w.heap.size + 1, 2, none⟩ = some (.slice none 0 0) := R.cell 2
  have Rf2 : w1.frozen? ⟨w.heap.size + 1, 2, none⟩ = false := R.free 2
  have Rz : w.heap.size + 1 < w1.heap.size := R.lt
  have hle : w.heap.size ≤ w.heap.size + 1 := by omega
  have hres := hs
  go_wp2
  have hY := (((R.set 0 (.int .i64 0)).set 1 (.int .i64 0)).set 2 (.slice none 0 0))
  have hB := (((hB.setCell (p := ⟨w.heap.size + 1, 0, none⟩) (by simp <;> omega) (.int .i64 0)).setCell (p := ⟨w.heap.size + 1, 1, none⟩) (by simp <;> omega) (.int .i64 0)).setCell (p := ⟨w.heap.size + 1, 2, none⟩) (by simp <;> omega) (.slice none 0 0))
  generalize (((w1.setCell ⟨w.heap.size + 1, 0, none⟩ (.int .i64 0)).setCell ⟨w.heap.size + 1, 1, none⟩ (.int .i64 0)).setCell ⟨w.heap.size + 1, 2, none⟩ (.slice none 0 0)) = W at hY hB ⊢
  have y0 : W.cell? ⟨w.heap.size + 1, 0, none⟩ = some (.int .i64 0) := hY.cell 0
  have y1 : W.cell? ⟨w.heap.size + 1, 1, none⟩ = some (.int .i64 0) := hY.cell 1
  have y2 : W.cell? ⟨w.heap.size + 1, 2, none⟩ = some (.slice none 0 0) := hY.cell 2
  refine bodyPost_ret (v := .tuple #[.agg #[.int .i64 0, .int .i64 0, .slice none 0 0], .int .i64 1]) (by simp [results, Try.results70, go_sem, y0, y1, y2]) rfl ?_
  exact ⟨_, Pk.zero, 1, rfl, hres, bytesAt_nil _ _, hB⟩

set_option maxRecDepth 100000 in
set_option maxHeartbeats 4000000 in
theorem nAt_4 (n : Net) (Aq : Option Addr) (nq cq : Nat) (Aa : Option Addr) (na ca : Nat) (i : Int) (w : World) (D : Nat) (hDw : D ≤ w.heap.size) (hN : Hid (NetAt w D (.slice Aq nq cq) (.slice Aa na ca) n)) (k : Nat) (_hk : i = (k : Int)) (hkn : k < nq) (h : Hid (n.checkT = 0)) (hnq : Hid (n.queue.length = nq)) (_hm : nq ≤ 9223372036854775807) : Calls Try.prog 70 #[.agg #[.slice Aq nq cq, .slice Aa na ca], .int .i64 i] w (RetPk (atT n i) D w) := by
  subst _hk
  have hkl : k < n.queue.length := by rw [hnq.out]; exact hkn
  have hs : Hid (atT n (k : Int) = (n.queue[k], 0)) := by
    have hok : askTN n (k : Int) = 0 := by
      have hh := h.out
      rw [Net.checkT] at hh
      rw [askTN, if_pos (by by_cases hx : n.okB = true; exact hx; rw [if_neg hx] at hh; omega), if_pos ⟨by omega, by omega⟩]
    rw [Hid, atT, if_pos hok, Net.pk_at hkl]
  obtain ⟨b, off, V, rfl, hbw, q0, q1, q2, hV⟩ := hN.out.queue.pk hkl
  obtain ⟨Ad, cd, rfl, _⟩ := hV.form
  obtain ⟨dl, hdl⟩ : ∃ dl, (n.queue[k]).data.length = dl := ⟨_, rfl⟩
  rw [hdl] at q2 hV
  obtain ⟨y, hy⟩ : ∃ y, n.queue[k] = y := ⟨_, rfl⟩
  rw [hy] at q0 q1 hV hs
  have HV := Lib.hid hV
  have Q0 := Lib.hid q0
  have Q1 := Lib.hid q1
  have Q2 := Lib.hid q2
  clear hdl hy hV q0 q1 q2
  have HB0 : Below w.heap.size w ((w.alloc (.cells #[.slice (some ⟨b, off, none⟩) nq cq, .slice Aa na ca] 25)).alloc (.cells #[.int .i64 0, .int .i64 0, .slice none 0 0] 51)) := (((Below.refl w.heap.size w).alloc (by simp <;> omega) (.cells #[.slice (some ⟨b, off, none⟩) nq cq, .slice Aa na ca] 25)).alloc (by simp <;> omega) (.cells #[.int .i64 0, .int .i64 0, .slice none 0 0] 51))
  have HNB := Lib.hid (((hN.out.more hDw).below HB0).more HB0.size)
  go_enter Try.func70, Try.ntmps70
  go_wp2_with fail
  refine (nCheck_at h HNB.out).mono ?_
  rintro e w1 ⟨rfl, hb⟩
  have X0 := (((Box.newAt (n := w.heap.size) [.slice (some ⟨b, off, none⟩) nq cq, .slice Aa na ca] 25 (by simp)).alloc _)).later hb
  have R := ((Box.newAt (n := w.heap.size + 1) [.int .i64 0, .int .i64 0, .slice none 0 0] 51 (by simp))).later hb
  have hB : Below w.heap.size w w1 := ((((Below.refl w.heap.size w).alloc (by simp <;> omega) _).alloc (by simp <;> omega) _)).trans (hb.mono (by simp <;> omega))
  clear hb
  have hbv := Nat.lt_of_lt_of_le hbw hDw
  have q0 := (hB.cell hbv).trans Q0.out
  have q1 := (hB.cell hbv).trans Q1.out
  have q2 := (hB.cell hbv).trans Q2.out
  have hbz : b < w1.heap.size := by have := hB.size; omega
  have X0c0 : w1.cell? ⟨w.heap.size, 0, none⟩ = some (.slice (some ⟨b, off, none⟩) nq cq) := X0.cell 0
  have X0f0 : w1.frozen? ⟨w.heap.size, 0, none⟩ = false := X0.free 0
  have X0c1 : w1.cell? ⟨w.heap.size, 1, none⟩ = some (.slice Aa na ca) := X0.cell 1
  have X0f1 : w1.frozen? ⟨w.heap.size, 1, none⟩ = false := X0.free 1
  have X0z : w.heap.size < w1.heap.size := X0.lt
  have Rc0 : w1.cell? ⟨w.heap.size + 1, 0, none⟩ = some (.int .i64 0) := R.cell 0
  have Rf0 : w1.frozen? ⟨w.heap.size + 1, 0, none⟩ = false := R.free 0
  have Rc1 : w1.cell? ⟨w.heap.size + 1, 1, none⟩ = some (.int .i64 0) := R.cell 1
  have Rf1 : w1.frozen? ⟨w.heap.size + 1, 1, none⟩ = false := R.free 1
  have Rc2 : w1.cell? ⟨w.heap.size + 1, 2, none⟩ = some (.slice none 0 0) := R.cell 2
  have Rf2 : w1.frozen? ⟨w.heap.size + 1, 2, none⟩ = false := R.free 2
  have Rz : w.heap.size + 1 < w1.heap.size := R.lt
  have hle : w.heap.size ≤ w.heap.size + 1 := by omega
  have hres := hs
  go_wp2
  have hY := (((R.set 0 (.int .i64 y.src)).set 1 (.int .i64 y.dst)).set 2 (.slice Ad dl cd))
  have hB := (((hB.setCell (p := ⟨w.heap.size + 1, 0, none⟩) (by simp <;> omega) (.int .i64 y.src)).setCell (p := ⟨w.heap.size + 1, 1, none⟩) (by simp <;> omega) (.int .i64 y.dst)).setCell (p := ⟨w.heap.size + 1, 2, none⟩) (by simp <;> omega) (.slice Ad dl cd))
  generalize (((w1.setCell ⟨w.heap.size + 1, 0, none⟩ (.int .i64 y.src)).setCell ⟨w.heap.size + 1, 1, none⟩ (.int .i64 y.dst)).setCell ⟨w.heap.size + 1, 2, none⟩ (.slice Ad dl cd)) = W at hY hB ⊢
  have y0 : W.cell? ⟨w.heap.size + 1, 0, none⟩ = some (.int .i64 y.src) := hY.cell 0
  have y1 : W.cell? ⟨w.heap.size + 1, 1, none⟩ = some (.int .i64 y.dst) := hY.cell 1
  have y2 : W.cell? ⟨w.heap.size + 1, 2, none⟩ = some (.slice Ad dl cd) := hY.cell 2
  refine bodyPost_ret (v := .tuple #[.agg #[.int .i64 y.src, .int .i64 y.dst, .slice Ad dl cd], .int .i64 0]) (by simp [results, Try.results70, go_sem, y0, y1, y2]) rfl ?_
  exact ⟨_, y, 0, rfl, hres, HV.out.below (hB.mono hDw), hB⟩

theorem nAt_any (n : Net) (Vq Va : Value) (i : Int) (w : World) (D : Nat) (hDw : D ≤ w.heap.size) (hN : NetAt w D Vq Va n) : Calls Try.prog 70 #[.agg #[Vq, Va], .int .i64 i] w (RetPk (atT n i) D w) := by
  obtain ⟨Aq, cq, rfl, hmq⟩ := hN.queue.form
  obtain ⟨Aa, ca, rfl, _⟩ := hN.apart.form
  rcases h : n.okB with _ | _
  · have ha : askTN n i = 60 := by rw [askTN, h]; rfl
    exact nAt_1 n Aq _ cq Aa _ ca i w D hDw hN (check_bad h) (by rw [Hid, atT, ha]; rfl)
  · by_cases hi : 0 ≤ i ∧ i < (n.queue.length : Int)
    · obtain ⟨k, rfl⟩ := Int.eq_ofNat_of_zero_le hi.1
      exact nAt_4 n Aq _ cq Aa _ ca _ w D hDw hN k rfl (by omega) (check_good h) rfl (by unfold maxLen at hmq; omega)
    · have ha : askTN n i = 1 := by rw [askTN, h, if_pos rfl, if_neg hi]
      have hs : Hid (atT n i = (Pk.zero, 1)) := by rw [Hid, atT, ha]; rfl
      by_cases h0 : i < 0
      · exact nAt_2 n Aq _ cq Aa _ ca i w D hDw hN (check_good h) h0 hs
      · exact nAt_3 n Aq _ cq Aa _ ca i w D hDw hN (check_good h) (by omega) (by omega) hs

end Go.Proofs.Ytmbifmmkccghfaa

/-
  Contracts of without of network and of the reference. (Printed by gen_nj.py.)
-/
namespace Go.Proofs.Ytmbifmmkccghfaa
open Go.RowKit

attribute [local go_sem ↓ high] app_named

theorem PksAt.take {w : World} {B b off n c k : Nat} {q : List Pk} (h : PksAt w B (.slice (some ⟨b, off, none⟩) n c) q) (hk : k ≤ q.length) (hc : k ≤ maxLen) : PksAt w B (.slice (some ⟨b, off, none⟩) k k) (q.take k) := by
  obtain ⟨f, V, ⟨A', c', hv, hm, h1⟩, h2⟩ := h
  cases hv
  have hl : (q.take k).length = k := by simp; omega
  refine ⟨.inr ⟨_, _, _, rfl, Nat.le_refl _, hc⟩, V, ⟨some ⟨b, off, none⟩, k, by rw [hl], by rw [hl]; exact hc, fun i hi => ?_⟩, fun i p hp => h2 i p ?_⟩
  · rw [hl] at hi
    obtain ⟨b', off', e, hb, h3⟩ := h1 i (by omega)
    refine ⟨b', off', e, hb, fun j hj => ?_⟩
    rw [h3 j hj]
    simp only [pkCells, List.getD_eq_getElem?_getD, List.getElem?_take_of_lt hi]
  · have hi : i < k := by
      have := (List.getElem?_eq_some_iff.1 hp).1
      omega
    rw [List.getElem?_take_of_lt hi] at hp
    exact hp
theorem PksAt.head {w : World} {B b off n c k c2 : Nat} {q : List Pk} (h : PksAt w B (.slice (some ⟨b, off, none⟩) n c) q) (hk : k ≤ q.length) (h1 : k ≤ c2) (h2 : c2 ≤ maxLen) : PksAt w B (.slice (some ⟨b, off, none⟩) k c2) (q.take k) := by
  obtain ⟨f, V, ⟨A', c', hv, hm, h3⟩, h4⟩ := h.take hk (Nat.le_trans h1 h2)
  have hl : (q.take k).length = k := by simp; omega
  obtain ⟨rfl, _, rfl⟩ : A' = some ⟨b, off, none⟩ ∧ k = (q.take k).length ∧ k = c' := by simpa [eq_comm] using hv
  exact ⟨.inr ⟨_, _, _, rfl, h1, h2⟩, V, ⟨some ⟨b, off, none⟩, c2, by rw [hl], hm, h3⟩, h4⟩
theorem PksAt.drop {w : World} {B b off n c k : Nat} {q : List Pk} (h : PksAt w B (.slice (some ⟨b, off, none⟩) n c) q) (hk : k ≤ q.length) (hc : q.length ≤ c) (hcm : c ≤ maxLen) : PksAt w B (.slice (some ⟨b, off + k * 3, none⟩) (q.length - k) (c - k)) (q.drop k) := by
  obtain ⟨f, V, ⟨A', c', hv, hm, h1⟩, h2⟩ := h
  cases hv
  have hl : (q.drop k).length = q.length - k := by simp
  refine ⟨.inr ⟨_, _, _, rfl, by omega, by omega⟩, fun i => V (k + i), ⟨some ⟨b, off + k * 3, none⟩, c - k, by rw [hl], by rw [hl]; omega, fun i hi => ?_⟩, fun i p hp => h2 (k + i) p ?_⟩
  · rw [hl] at hi
    obtain ⟨b', off', e, hb, h3⟩ := h1 (k + i) (by omega)
    cases e
    refine ⟨b, off + k * 3, rfl, hb, fun j hj => ?_⟩
    have := h3 j hj
    rw [show off + k * 3 + (i * 3 + j) = off + ((k + i) * 3 + j) by omega, this]
    simp only [pkCells, List.getD_eq_getElem?_getD, List.getElem?_drop]
  · rw [List.getElem?_drop] at hp
    exact hp
theorem PksAt.none_left {w : World} {B b off n c : Nat} {q : List Pk} (_h : PksAt w B (.slice (some ⟨b, off, none⟩) n c) q) : PksAt w B (.slice (some ⟨b, off, none⟩) 0 0) [] :=
  ⟨.inr ⟨_, _, _, rfl, Nat.le_refl _, Nat.zero_le _⟩, fun _ => undef, ⟨_, _, rfl, Nat.zero_le _, fun i hi => by simp at hi⟩, fun i p hp => by simp at hp⟩
theorem PksAt.addr {w : World} {B n c k : Nat} {A : Option Addr} {q : List Pk} (h : PksAt w B (.slice A n c) q) (hk : k < q.length) : ∃ b off, A = some ⟨b, off, none⟩ := by
  obtain ⟨f, V, ⟨A', c', hv, hm, h1⟩, h2⟩ := h
  cases hv
  obtain ⟨b, off, e, _⟩ := h1 k hk
  exact ⟨b, off, e⟩
def RetN1 (t : Net) (D : Nat) (w : World) (e : Ending) (w' : World) : Prop := ∃ (Vq Va : Value), e = .returned (.agg #[Vq, Va]) ∧ Hid (Net2 w' D w.heap.size Vq Va t) ∧ Below w.heap.size w w'

set_option maxRecDepth 100000 in
set_option maxHeartbeats 4000000 in
theorem nWithout_1 (n : Net) (b off nq cq : Nat) (Aa : Option Addr) (na ca : Nat) (k : Nat) (w : World) (D : Nat) (hDw : D ≤ w.heap.size) (hN : Hid (NetAt w D (.slice (some ⟨b, off, none⟩) nq cq) (.slice Aa na ca) n)) (hnq : Hid (n.queue.length = nq)) (hk : k < nq) (_hcq : (nq : Int) ≤ (cq : Int)) (_hcm : cq ≤ 9223372036854775807) (hn4 : nq ≤ 4096) (_hc : k + 1 < cq) : Calls Try.prog 73 #[.agg #[.slice (some ⟨b, off, none⟩) nq cq, .slice Aa na ca], .int .i64 (k : Int)] w (RetN1 (n.without k) D w) := by
  have X0 := (Box.new w [.slice (some ⟨b, off, none⟩) nq cq, .slice Aa na ca] 25).alloc (.cells #[.slice none 0 0, .slice none 0 0] 25)
  have R := Box.newAt (w := w.alloc (.cells #[.slice (some ⟨b, off, none⟩) nq cq, .slice Aa na ca] 25)) (n := w.heap.size + 1) [.slice none 0 0, .slice none 0 0] 25 (by simp)
  have hB := ((Below.refl w.heap.size w).alloc (Nat.le_refl _) (.cells #[.slice (some ⟨b, off, none⟩) nq cq, .slice Aa na ca] 25)).alloc (by simp) (.cells #[.slice none 0 0, .slice none 0 0] 25)
  have k1 : (0 : Int) ≤ (k : Int) := by omega
  have k2 : (k : Int) ≤ (cq : Int) := by omega
  have k3 : (k : Int) + 1 ≤ (nq : Int) := by omega
  have k4 : IntKind.i64.wrap ((k : Int) + 1) = (k : Int) + 1 := IntWalk.i64_in _ (by omega)
  have k5 : ((k : Int) + 1).toNat = k + 1 := by omega
  go_enter Try.func73, Try.ntmps73
  go_wp2_with fail
  generalize (w.alloc (.cells #[.slice (some ⟨b, off, none⟩) nq cq, .slice Aa na ca] 25)).alloc (.cells #[.slice none 0 0, .slice none 0 0] 25) = W at X0 R hB ⊢
  have y0 : W.cell? ⟨w.heap.size, 0, none⟩ = some (.slice (some ⟨b, off, none⟩) nq cq) := X0.cell 0
  have y1 : W.cell? ⟨w.heap.size, 1, none⟩ = some (.slice Aa na ca) := X0.cell 1
  have yf : W.frozen? ⟨w.heap.size, 0, none⟩ = false := X0.free 0
  have yz : w.heap.size < W.heap.size := X0.lt
  have hdr : Below w.heap.size w W.drew := hB.drew
  have hQ0 := (hN.out.below (hdr.mono hDw)).queue
  have hQ := hQ0.take (k := k) (by rw [hnq.out]; omega) (by simp only [maxLen]; omega)
  have hI : PksIn W.drew W.drew.heap.size D (.slice (some ⟨b, off + (k + 1) * 3, none⟩) (nq - (k + 1)) (cq - (k + 1))) (n.queue.drop (k + 1)) := by
    have h := (hQ0.drop (k := k + 1) (by rw [hnq.out]; omega) (by rw [hnq.out]; omega) (by simp only [maxLen]; omega)).within (Nat.le_trans hDw hdr.size)
    rw [hnq.out] at h
    exact h
  obtain ⟨A', n', c', w5, hrun0, hq5, hb5⟩ := run_app_pk 22 hQ hI (Nat.le_trans hDw hdr.size) (by simp only [List.length_take, List.length_drop, hnq.out]; omega) (by simp only [List.length_take, List.length_drop, hnq.out]; omega)
  have hrun : (appF #[22, 22] 22 #[.slice (some ⟨b, off, none⟩) k k, .slice (some ⟨b, off + (k + 1) * 3, none⟩) (nq - (k + 1)) (cq - (k + 1))]).run Try.prog W.drew = .ok (.slice A' n' c') w5 := hrun0
  have hB5 : Below w.heap.size w w5 := hdr.trans (hb5.mono hdr.size)
  have HQ5 := Lib.hid hq5
  have Y0 := X0.drew.later hb5
  have YR := R.drew.later hb5
  have hcur : w.heap.size + 1 < W.drew.heap.size := R.drew.lt
  clear hq5 hQ hQ0 hI hrun0 hb5
  have y5 : w5.cell? ⟨w.heap.size, 0, none⟩ = some (.slice (some ⟨b, off, none⟩) nq cq) := Y0.cell 0
  have y6 : w5.cell? ⟨w.heap.size, 1, none⟩ = some (.slice Aa na ca) := Y0.cell 1
  have y7 : w5.frozen? ⟨w.heap.size, 0, none⟩ = false := Y0.free 0
  have y8 : w.heap.size < w5.heap.size := Y0.lt
  have r0 : w5.cell? ⟨w.heap.size + 1, 0, none⟩ = some (.slice none 0 0) := YR.cell 0
  have r1 : w5.cell? ⟨w.heap.size + 1, 1, none⟩ = some (.slice none 0 0) := YR.cell 1
  have rf0 : w5.frozen? ⟨w.heap.size + 1, 0, none⟩ = false := YR.free 0
  have rf1 : w5.frozen? ⟨w.heap.size + 1, 1, none⟩ = false := YR.free 1
  have rz : w.heap.size + 1 < w5.heap.size := YR.lt
  go_region
  go_wp2
  have hne : w.heap.size + 1 ≠ w.heap.size := by omega
  have ZR := ((YR.other (a := ⟨w.heap.size, 0, none⟩) hne (.slice A' n' c')).set 0 (.slice A' n' c')).set 1 (.slice Aa na ca)
  have HB := ((hB5.setCell (p := ⟨w.heap.size, 0, none⟩) (Nat.le_refl _) (.slice A' n' c')).setCell (p := ⟨w.heap.size + 1, 0, none⟩) (by simp) (.slice A' n' c')).setCell (p := ⟨w.heap.size + 1, 1, none⟩) (by simp) (.slice Aa na ca)
  have HQ := ((HQ5.out.set (a := ⟨w.heap.size, 0, none⟩) hDw (by simp only []; omega) (.slice A' n' c')).set (a := ⟨w.heap.size + 1, 0, none⟩) (by simp; omega) (by simpa using hcur) (.slice A' n' c')).set (a := ⟨w.heap.size + 1, 1, none⟩) (by simp; omega) (by simpa using hcur) (.slice Aa na ca)
  generalize ((w5.setCell ⟨w.heap.size, 0, none⟩ (.slice A' n' c')).setCell ⟨w.heap.size + 1, 0, none⟩ (.slice A' n' c')).setCell ⟨w.heap.size + 1, 1, none⟩ (.slice Aa na ca) = W2 at ZR HB HQ ⊢
  have z0 : W2.cell? ⟨w.heap.size + 1, 0, none⟩ = some (.slice A' n' c') := ZR.cell 0
  have z1 : W2.cell? ⟨w.heap.size + 1, 1, none⟩ = some (.slice Aa na ca) := ZR.cell 1
  refine bodyPost_ret (v := .agg #[(.slice A' n' c'), .slice Aa na ca]) (by simp [results, Try.results73, go_sem, z0, z1]) rfl ?_
  exact ⟨_, _, rfl, ⟨HQ.lower (by first | exact hB.size | (simp; exact hB.size)), (hN.out.apart.below (HB.mono hDw)).two (Nat.le_trans hDw HB.size)⟩, HB⟩

set_option maxRecDepth 100000 in
set_option maxHeartbeats 4000000 in
theorem nWithout_2 (n : Net) (b off nq : Nat) (Aa : Option Addr) (na ca : Nat) (k : Nat) (w : World) (D : Nat) (hDw : D ≤ w.heap.size) (hN : Hid (NetAt w D (.slice (some ⟨b, off, none⟩) nq (k + 1)) (.slice Aa na ca) n)) (hnq : Hid (n.queue.length = nq)) (hk : k < nq) (_hcq : (nq : Int) ≤ (k : Int) + 1) (hn4 : nq ≤ 4096) : Calls Try.prog 73 #[.agg #[.slice (some ⟨b, off, none⟩) nq (k + 1), .slice Aa na ca], .int .i64 (k : Int)] w (RetN1 (n.without k) D w) := by
  have X0 := (Box.new w [.slice (some ⟨b, off, none⟩) nq (k + 1), .slice Aa na ca] 25).alloc (.cells #[.slice none 0 0, .slice none 0 0] 25)
  have R := Box.newAt (w := w.alloc (.cells #[.slice (some ⟨b, off, none⟩) nq (k + 1), .slice Aa na ca] 25)) (n := w.heap.size + 1) [.slice none 0 0, .slice none 0 0] 25 (by simp)
  have hB := ((Below.refl w.heap.size w).alloc (Nat.le_refl _) (.cells #[.slice (some ⟨b, off, none⟩) nq (k + 1), .slice Aa na ca] 25)).alloc (by simp) (.cells #[.slice none 0 0, .slice none 0 0] 25)
  have k1 : (0 : Int) ≤ (k : Int) := by omega
  have k2 : (k : Int) ≤ (k : Int) + 1 := by omega
  have k3 : (k : Int) + 1 ≤ (nq : Int) := by omega
  have k4 : IntKind.i64.wrap ((k : Int) + 1) = (k : Int) + 1 := IntWalk.i64_in _ (by omega)
  have k5 : ((k : Int) + 1).toNat = k + 1 := by omega
  go_enter Try.func73, Try.ntmps73
  go_wp2_with fail
  generalize (w.alloc (.cells #[.slice (some ⟨b, off, none⟩) nq (k + 1), .slice Aa na ca] 25)).alloc (.cells #[.slice none 0 0, .slice none 0 0] 25) = W at X0 R hB ⊢
  have y0 : W.cell? ⟨w.heap.size, 0, none⟩ = some (.slice (some ⟨b, off, none⟩) nq (k + 1)) := X0.cell 0
  have y1 : W.cell? ⟨w.heap.size, 1, none⟩ = some (.slice Aa na ca) := X0.cell 1
  have yf : W.frozen? ⟨w.heap.size, 0, none⟩ = false := X0.free 0
  have yz : w.heap.size < W.heap.size := X0.lt
  have hdr : Below w.heap.size w W.drew := hB.drew
  have hQ0 := (hN.out.below (hdr.mono hDw)).queue
  have hQ := hQ0.take (k := k) (by rw [hnq.out]; omega) (by simp only [maxLen]; omega)
  have hI : PksIn W.drew W.drew.heap.size D (.slice (some ⟨b, off, none⟩) (nq - (k + 1)) 0) (n.queue.drop (k + 1)) := by
    have h := (PksAt.none_left hQ0).within (Nat.le_trans hDw hdr.size)
    have e0 : nq - (k + 1) = 0 := by omega
    have e1 : n.queue.drop (k + 1) = [] := List.drop_eq_nil_of_le (by rw [hnq.out]; omega)
    rw [e0, e1]
    exact h
  obtain ⟨A', n', c', w5, hrun0, hq5, hb5⟩ := run_app_pk 22 hQ hI (Nat.le_trans hDw hdr.size) (by simp only [List.length_take, List.length_drop, hnq.out]; omega) (by simp only [List.length_take, List.length_drop, hnq.out]; omega)
  have hrun : (appF #[22, 22] 22 #[.slice (some ⟨b, off, none⟩) k k, .slice (some ⟨b, off, none⟩) (nq - (k + 1)) 0]).run Try.prog W.drew = .ok (.slice A' n' c') w5 := hrun0
  have hB5 : Below w.heap.size w w5 := hdr.trans (hb5.mono hdr.size)
  have HQ5 := Lib.hid hq5
  have Y0 := X0.drew.later hb5
  have YR := R.drew.later hb5
  have hcur : w.heap.size + 1 < W.drew.heap.size := R.drew.lt
  clear hq5 hQ hQ0 hI hrun0 hb5
  have y5 : w5.cell? ⟨w.heap.size, 0, none⟩ = some (.slice (some ⟨b, off, none⟩) nq (k + 1)) := Y0.cell 0
  have y6 : w5.cell? ⟨w.heap.size, 1, none⟩ = some (.slice Aa na ca) := Y0.cell 1
  have y7 : w5.frozen? ⟨w.heap.size, 0, none⟩ = false := Y0.free 0
  have y8 : w.heap.size < w5.heap.size := Y0.lt
  have r0 : w5.cell? ⟨w.heap.size + 1, 0, none⟩ = some (.slice none 0 0) := YR.cell 0
  have r1 : w5.cell? ⟨w.heap.size + 1, 1, none⟩ = some (.slice none 0 0) := YR.cell 1
  have rf0 : w5.frozen? ⟨w.heap.size + 1, 0, none⟩ = false := YR.free 0
  have rf1 : w5.frozen? ⟨w.heap.size + 1, 1, none⟩ = false := YR.free 1
  have rz : w.heap.size + 1 < w5.heap.size := YR.lt
  go_region
  go_wp2
  have hne : w.heap.size + 1 ≠ w.heap.size := by omega
  have ZR := ((YR.other (a := ⟨w.heap.size, 0, none⟩) hne (.slice A' n' c')).set 0 (.slice A' n' c')).set 1 (.slice Aa na ca)
  have HB := ((hB5.setCell (p := ⟨w.heap.size, 0, none⟩) (Nat.le_refl _) (.slice A' n' c')).setCell (p := ⟨w.heap.size + 1, 0, none⟩) (by simp) (.slice A' n' c')).setCell (p := ⟨w.heap.size + 1, 1, none⟩) (by simp) (.slice Aa na ca)
  have HQ := ((HQ5.out.set (a := ⟨w.heap.size, 0, none⟩) hDw (by simp only []; omega) (.slice A' n' c')).set (a := ⟨w.heap.size + 1, 0, none⟩) (by simp; omega) (by simpa using hcur) (.slice A' n' c')).set (a := ⟨w.heap.size + 1, 1, none⟩) (by simp; omega) (by simpa using hcur) (.slice Aa na ca)
  generalize ((w5.setCell ⟨w.heap.size, 0, none⟩ (.slice A' n' c')).setCell ⟨w.heap.size + 1, 0, none⟩ (.slice A' n' c')).setCell ⟨w.heap.size + 1, 1, none⟩ (.slice Aa na ca) = W2 at ZR HB HQ ⊢
  have z0 : W2.cell? ⟨w.heap.size + 1, 0, none⟩ = some (.slice A' n' c') := ZR.cell 0
  have z1 : W2.cell? ⟨w.heap.size + 1, 1, none⟩ = some (.slice Aa na ca) := ZR.cell 1
  refine bodyPost_ret (v := .agg #[(.slice A' n' c'), .slice Aa na ca]) (by simp [results, Try.results73, go_sem, z0, z1]) rfl ?_
  exact ⟨_, _, rfl, ⟨HQ.lower (by first | exact hB.size | (simp; exact hB.size)), (hN.out.apart.below (HB.mono hDw)).two (Nat.le_trans hDw HB.size)⟩, HB⟩

theorem nWithout_any (n : Net) (Vq Va : Value) (k : Nat) (w : World) (D : Nat) (hDw : D ≤ w.heap.size) (hN : NetAt w D Vq Va n) (hk : k < n.queue.length) (h4 : n.queue.length ≤ 4096) : Calls Try.prog 73 #[.agg #[Vq, Va], .int .i64 (k : Int)] w (RetN1 (n.without k) D w) := by
  obtain ⟨Aq, cq, rfl, hmq⟩ := hN.queue.form
  obtain ⟨Aa, ca, rfl, _⟩ := hN.apart.form
  obtain ⟨_, _, hf, hc, hcm⟩ := hN.queue.clip
  obtain ⟨b, off, rfl⟩ : ∃ b off, Aq = some ⟨b, off, none⟩ := hN.queue.addr hk
  unfold maxLen at hcm
  rcases Nat.lt_or_ge (k + 1) cq with h | h
  · exact nWithout_1 n b off _ cq Aa _ ca k w D hDw hN rfl hk (by omega) hcm h4 h
  · obtain rfl : cq = k + 1 := by omega
    exact nWithout_2 n b off _ Aa _ ca k w D hDw hN rfl hk (by omega) h4

end Go.Proofs.Ytmbifmmkccghfaa

/-
  Contracts of Lose and Repeat of both packages. (Printed by gen_nk.py.)
-/
namespace Go.Proofs.Ytmbifmmkccghfaa
open Go.RowKit

theorem Net2.form {w : World} {D base : Nat} {Vq Va : Value} {n : Net} (h : Net2 w D base Vq Va n) : ∃ Aq nq cq Aa na ca, Vq = .slice Aq nq cq ∧ Va = .slice Aa na ca := by
  obtain ⟨A, c, rfl⟩ := h.queue.form
  obtain ⟨_, A', c', rfl, _⟩ := h.apart
  exact ⟨_, _, _, _, _, _, rfl, rfl⟩
def RetNs (t : Net) (D : Nat) (w : World) (e : Ending) (w' : World) : Prop := ∃ (Aq : Option Addr) (nq cq : Nat) (Aa : Option Addr) (na ca : Nat), e = .returned (.agg #[.slice Aq nq cq, .slice Aa na ca]) ∧ Hid (Net2 w' D w.heap.size (.slice Aq nq cq) (.slice Aa na ca) t) ∧ Below w.heap.size w w'
theorem RetN1.sl {t : Net} {D : Nat} {w w' : World} {e : Ending} (h : RetN1 t D w e w') : RetNs t D w e w' := by
  obtain ⟨Vq, Va, rfl, h2, hb⟩ := h
  obtain ⟨Aq, nq, cq, Aa, na, ca, rfl, rfl⟩ := h2.out.form
  exact ⟨_, _, _, _, _, _, rfl, h2, hb⟩
def RetNe (t : Net × Int) (D : Nat) (w : World) (e : Ending) (w' : World) : Prop := ∃ (Aq : Option Addr) (nq cq : Nat) (Aa : Option Addr) (na ca : Nat) (m : Net) (er : Int), e = .returned (.tuple #[.agg #[.slice Aq nq cq, .slice Aa na ca], .int .i64 er]) ∧ Hid (t = (m, er)) ∧ Hid (Net2 w' D w.heap.size (.slice Aq nq cq) (.slice Aa na ca) m) ∧ Below w.heap.size w w'
theorem RetNet.sl {t : Net × Int} {D : Nat} {w w' : World} {e : Ending} (h : RetNet t D w e w') : RetNe t D w e w' := by
  obtain ⟨Vq, Va, m, er, rfl, ht, h2, hb⟩ := h
  obtain ⟨Aq, nq, cq, Aa, na, ca, rfl, rfl⟩ := h2.out.form
  exact ⟨_, _, _, _, _, _, _, _, rfl, ht, h2, hb⟩
theorem nAt_err {n : Net} {Vq Va : Value} {i c : Int} {w : World} {D : Nat} (h : Hid (askTN n i = c)) (hDw : D ≤ w.heap.size) (hN : NetAt w D Vq Va n) : Calls Try.prog 70 #[.agg #[Vq, Va], .int .i64 i] w fun e w' => ∃ (a b : Int) (A : Option Addr) (k m : Nat), e = .returned (.tuple #[.agg #[.int .i64 a, .int .i64 b, .slice A k m], .int .i64 c]) ∧ Below w.heap.size w w' := by
  refine (nAt_any n Vq Va i w D hDw hN).mono fun _ _ ⟨V, p, er, he, ht, hV, hb⟩ => ?_
  obtain ⟨A, m, rfl, _⟩ := hV.out.form
  refine ⟨p.src, p.dst, A, p.data.length, m, ?_, hb⟩
  rw [he]
  have : er = c := by
    have h1 := ht.out
    have h2 := h.out
    rw [atT] at h1
    by_cases h0 : askTN n i = 0
    · rw [if_pos h0] at h1; injection h1; omega
    · rw [if_neg h0] at h1; injection h1; omega
  rw [this]
theorem nAt_ok {n : Net} {Vq Va : Value} {i : Int} {w : World} {D : Nat} (h : Hid (askTN n i = 0)) (hDw : D ≤ w.heap.size) (hN : NetAt w D Vq Va n) : Calls Try.prog 70 #[.agg #[Vq, Va], .int .i64 i] w fun e w' => ∃ (A : Option Addr) (k m : Nat), e = .returned (.tuple #[.agg #[.int .i64 (n.pk i).src, .int .i64 (n.pk i).dst, .slice A k m], .int .i64 0]) ∧ Hid (BytesAt w' D (.slice A k m) (n.pk i).data) ∧ Below w.heap.size w w' := by
  refine (nAt_any n Vq Va i w D hDw hN).mono fun _ _ ⟨V, p, er, he, ht, hV, hb⟩ => ?_
  have h1 := ht.out
  rw [atT, if_pos h.out] at h1
  injection h1 with h2 h3
  subst h2 h3
  obtain ⟨A, m, rfl, _⟩ := hV.out.form
  exact ⟨A, (n.pk i).data.length, m, he, hV, hb⟩
theorem ask_ways (n : Net) (i : Int) : (∃ c : Int, askTN n i = c ∧ (c != 0) = true) ∨ ∃ k : Nat, i = (k : Int) ∧ k < n.queue.length ∧ n.queue.length ≤ 4096 ∧ askTN n i = 0 := by
  rcases h : n.okB with _ | _
  · exact .inl ⟨60, by rw [askTN, h]; rfl, rfl⟩
  · by_cases hi : 0 ≤ i ∧ i < (n.queue.length : Int)
    · obtain ⟨k, rfl⟩ := Int.eq_ofNat_of_zero_le hi.1
      refine .inr ⟨k, rfl, by omega, ?_, by rw [askTN, h, if_pos rfl, if_pos hi]⟩
      have := h
      simp only [Net.okB_eq, Bool.and_eq_true, decide_eq_true_eq] at this
      exact this.1
    · exact .inl ⟨1, by rw [askTN, h, if_pos rfl, if_neg hi], rfl⟩

set_option maxRecDepth 100000 in
set_option maxHeartbeats 4000000 in
theorem nRepeat_1 (n : Net) (Aq : Option Addr) (nq cq : Nat) (Aa : Option Addr) (na ca : Nat) (i : Int) (w : World) (D : Nat) (hDw : D ≤ w.heap.size) (hN : Hid (NetAt w D (.slice Aq nq cq) (.slice Aa na ca) n)) (c : Int) (h : Hid (askTN n i = c)) (hc : (c != 0) = true) (hs : Hid (repeatT n i = (Net.zero, c))) : Calls Try.prog 66 #[.agg #[.slice Aq nq cq, .slice Aa na ca], .int .i64 i] w (RetNet (repeatT n i) D w) := by
  have HB0 : Below w.heap.size w ((w.alloc (.cells #[.slice Aq nq cq, .slice Aa na ca] 25)).alloc (.cells #[.slice none 0 0, .slice none 0 0] 25)) := (((Below.refl w.heap.size w).alloc (by simp <;> omega) (.cells #[.slice Aq nq cq, .slice Aa na ca] 25)).alloc (by simp <;> omega) (.cells #[.slice none 0 0, .slice none 0 0] 25))
  have HNB := Lib.hid (hN.out.below (HB0.mono hDw))
  have HDB := Nat.le_trans hDw HB0.size
  go_enter Try.func66, Try.ntmps66
  go_wp2_with fail
  refine (nAt_err h HDB HNB.out).mono ?_
  rintro e w1 ⟨a1, a2, Ad, dn, dc, rfl, hb⟩
  have X0 := (((Box.newAt (n := w.heap.size) [.slice Aq nq cq, .slice Aa na ca] 25 (by simp)).alloc _)).later hb
  have R := ((Box.newAt (n := w.heap.size + 1) [.slice none 0 0, .slice none 0 0] 25 (by simp))).later hb
  have hB : Below w.heap.size w w1 := ((((Below.refl w.heap.size w).alloc (by simp <;> omega) _).alloc (by simp <;> omega) _)).trans (hb.mono (by simp <;> omega))
  clear hb
  have Rc0 : w1.cell? ⟨w.heap.size + 1, 0, none⟩ = some (.slice none 0 0) := R.cell 0
  have Rf0 : w1.frozen? ⟨w.heap.size + 1, 0, none⟩ = false := R.free 0
  have Rc1 : w1.cell? ⟨w.heap.size + 1, 1, none⟩ = some (.slice none 0 0) := R.cell 1
  have Rf1 : w1.frozen? ⟨w.heap.size + 1, 1, none⟩ = false := R.free 1
  have Rz : w.heap.size + 1 < w1.heap.size := R.lt
  have hle : w.heap.size ≤ w.heap.size + 1 := by omega
  have hres := hs
  go_wp2
  have ZR := ((R.set 0 (.slice none 0 0)).set 1 (.slice none 0 0)).alloc (.cells #[.int .i64 a1, .int .i64 a2, .slice Ad dn dc] 51)
  have HB := ((hB.setCell (p := ⟨w.heap.size + 1, 0, none⟩) (by simp) (.slice none 0 0)).setCell (p := ⟨w.heap.size + 1, 1, none⟩) (by simp) (.slice none 0 0)).alloc (by have := hB.size; simp; omega) (.cells #[.int .i64 a1, .int .i64 a2, .slice Ad dn dc] 51)
  generalize ((w1.setCell ⟨w.heap.size + 1, 0, none⟩ (.slice none 0 0)).setCell ⟨w.heap.size + 1, 1, none⟩ (.slice none 0 0)).alloc (.cells #[.int .i64 a1, .int .i64 a2, .slice Ad dn dc] 51) = W at ZR HB ⊢
  have z0 : W.cell? ⟨w.heap.size + 1, 0, none⟩ = some (.slice none 0 0) := ZR.cell 0
  have z1 : W.cell? ⟨w.heap.size + 1, 1, none⟩ = some (.slice none 0 0) := ZR.cell 1
  refine bodyPost_ret (v := .tuple #[.agg #[(.slice none 0 0), (.slice none 0 0)], .int .i64 c]) (by simp [results, Try.results66, go_sem, z0, z1]) rfl ?_
  exact ⟨_, _, Net.zero, c, rfl, hres, net2_zero _ _ _, HB⟩

set_option maxRecDepth 100000 in
set_option maxHeartbeats 4000000 in
theorem nRepeat_2 (n : Net) (Aq : Option Addr) (nq cq : Nat) (Aa : Option Addr) (na ca : Nat) (i : Int) (w : World) (D : Nat) (hDw : D ≤ w.heap.size) (hN : Hid (NetAt w D (.slice Aq nq cq) (.slice Aa na ca) n)) (h : Hid (askTN n i = 0)) (hs : Hid (repeatT n i = sendT n (n.pk i))) : Calls Try.prog 66 #[.agg #[.slice Aq nq cq, .slice Aa na ca], .int .i64 i] w (RetNet (repeatT n i) D w) := by
  have HB0 : Below w.heap.size w ((w.alloc (.cells #[.slice Aq nq cq, .slice Aa na ca] 25)).alloc (.cells #[.slice none 0 0, .slice none 0 0] 25)) := (((Below.refl w.heap.size w).alloc (by simp <;> omega) (.cells #[.slice Aq nq cq, .slice Aa na ca] 25)).alloc (by simp <;> omega) (.cells #[.slice none 0 0, .slice none 0 0] 25))
  have HNB := Lib.hid (hN.out.below (HB0.mono hDw))
  have HDB := Nat.le_trans hDw HB0.size
  go_enter Try.func66, Try.ntmps66
  go_wp2_with fail
  refine (nAt_ok h HDB HNB.out).mono ?_
  rintro e w1 ⟨Ad, dn, dc, rfl, hV, hb⟩
  have X0 := (((Box.newAt (n := w.heap.size) [.slice Aq nq cq, .slice Aa na ca] 25 (by simp)).alloc _)).later hb
  have R := ((Box.newAt (n := w.heap.size + 1) [.slice none 0 0, .slice none 0 0] 25 (by simp))).later hb
  have hB : Below w.heap.size w w1 := ((((Below.refl w.heap.size w).alloc (by simp <;> omega) _).alloc (by simp <;> omega) _)).trans (hb.mono (by simp <;> omega))
  clear hb
  have hBP := hB.alloc hB.size (.cells #[.int .i64 (n.pk i).src, .int .i64 (n.pk i).dst, .slice Ad dn dc] 51)
  have hVP := Lib.hid (hV.out.below ((Below.refl w1.heap.size w1).alloc (Nat.le_refl _) (.cells #[.int .i64 (n.pk i).src, .int .i64 (n.pk i).dst, .slice Ad dn dc] 51) |>.mono (Nat.le_trans hDw hB.size)))
  have kb := hBP.size
  have kc : w.heap.size + 1 < (w1.alloc (.cells #[.int .i64 (n.pk i).src, .int .i64 (n.pk i).dst, .slice Ad dn dc] 51)).heap.size := (R.alloc (.cells #[.int .i64 (n.pk i).src, .int .i64 (n.pk i).dst, .slice Ad dn dc] 51)).lt
  have X0c0 : w1.cell? ⟨w.heap.size, 0, none⟩ = some (.slice Aq nq cq) := X0.cell 0
  have X0f0 : w1.frozen? ⟨w.heap.size, 0, none⟩ = false := X0.free 0
  have X0c1 : w1.cell? ⟨w.heap.size, 1, none⟩ = some (.slice Aa na ca) := X0.cell 1
  have X0f1 : w1.frozen? ⟨w.heap.size, 1, none⟩ = false := X0.free 1
  have X0z : w.heap.size < w1.heap.size := X0.lt
  go_wp2_with fail
  refine (((nSend_any n _ _ (n.pk i) _ (w1.alloc (.cells #[.int .i64 (n.pk i).src, .int .i64 (n.pk i).dst, .slice Ad dn dc] 51)) D (Nat.le_trans hDw kb) (hN.out.below (hBP.mono hDw)) hVP.out).mono fun _ _ h => h.sl)).mono ?_
  rintro e w2 ⟨A1, n1, c1, A2, n2, c2, m, er, rfl, ht, HN2, hb⟩
  clear X0c0 X0f0 X0c1 X0f1 X0z
  have P := ((Box.newAt (w := w1) (n := w1.heap.size) [.int .i64 (n.pk i).src, .int .i64 (n.pk i).dst, .slice Ad dn dc] 51 (by simp))).later hb
  have X0 := ((X0.alloc (.cells #[.int .i64 (n.pk i).src, .int .i64 (n.pk i).dst, .slice Ad dn dc] 51))).later hb
  have R := ((R.alloc (.cells #[.int .i64 (n.pk i).src, .int .i64 (n.pk i).dst, .slice Ad dn dc] 51))).later hb
  have hB := (hB.alloc hB.size (.cells #[.int .i64 (n.pk i).src, .int .i64 (n.pk i).dst, .slice Ad dn dc] 51)).trans (hb.mono (by have := hB.size; simp; omega))
  clear hb
  have Rc0 : w2.cell? ⟨w.heap.size + 1, 0, none⟩ = some (.slice none 0 0) := R.cell 0
  have Rf0 : w2.frozen? ⟨w.heap.size + 1, 0, none⟩ = false := R.free 0
  have Rc1 : w2.cell? ⟨w.heap.size + 1, 1, none⟩ = some (.slice none 0 0) := R.cell 1
  have Rf1 : w2.frozen? ⟨w.heap.size + 1, 1, none⟩ = false := R.free 1
  have Rz : w.heap.size + 1 < w2.heap.size := R.lt
  go_wp2
  have ZR := (R.set 0 (.slice A1 n1 c1)).set 1 (.slice A2 n2 c2)
  have HB := (hB.setCell (p := ⟨w.heap.size + 1, 0, none⟩) (by simp) (.slice A1 n1 c1)).setCell (p := ⟨w.heap.size + 1, 1, none⟩) (by simp) (.slice A2 n2 c2)
  have HQ := (HN2.out.set (a := ⟨w.heap.size + 1, 0, none⟩) (by simp; omega) kc (.slice A1 n1 c1)).set (a := ⟨w.heap.size + 1, 1, none⟩) (by simp; omega) kc (.slice A2 n2 c2)
  have hres := hs
  generalize (w2.setCell ⟨w.heap.size + 1, 0, none⟩ (.slice A1 n1 c1)).setCell ⟨w.heap.size + 1, 1, none⟩ (.slice A2 n2 c2) = W at ZR HB HQ ⊢
  have z0 : W.cell? ⟨w.heap.size + 1, 0, none⟩ = some (.slice A1 n1 c1) := ZR.cell 0
  have z1 : W.cell? ⟨w.heap.size + 1, 1, none⟩ = some (.slice A2 n2 c2) := ZR.cell 1
  refine bodyPost_ret (v := .tuple #[.agg #[(.slice A1 n1 c1), (.slice A2 n2 c2)], .int .i64 er]) (by simp [results, Try.results66, go_sem, z0, z1]) rfl ?_
  exact ⟨_, _, _, er, rfl, hres.trans ht, HQ.lower kb, HB⟩

theorem nRepeat_any (n : Net) (Vq Va : Value) (i : Int) (w : World) (D : Nat) (hDw : D ≤ w.heap.size) (hN : NetAt w D Vq Va n) : Calls Try.prog 66 #[.agg #[Vq, Va], .int .i64 i] w (RetNet (repeatT n i) D w) := by
  obtain ⟨Aq, cq, rfl, hmq⟩ := hN.queue.form
  obtain ⟨Aa, ca, rfl, _⟩ := hN.apart.form
  rcases ask_ways n i with ⟨c, h, hc⟩ | ⟨k, rfl, hk, h4, h⟩
  · exact nRepeat_1 n Aq _ cq Aa _ ca i w D hDw hN c h hc (by rw [Hid, repeatT, if_neg (by rw [h]; simpa using hc), h])
  · exact nRepeat_2 n Aq _ cq Aa _ ca _ w D hDw hN h (by rw [Hid, repeatT, if_pos h])

end Go.Proofs.Ytmbifmmkccghfaa

/-
  Contracts of slices.Index and slices.Contains over pairs. No condition.
-/
namespace Go.Proofs.Ytmbifmmkccghfaa
open Go.RowKit

theorem info_intN : (Try.prog.info? 3).map (fun i => i.size) = some 1 := by kernel_rfl
theorem eq_pair (d : Nat) (a b c e : Int) (w : World) : (Op.equalIn (d + 2) 49 (.agg #[.int .i64 a, .int .i64 b]) (.agg #[.int .i64 c, .int .i64 e])).run Try.prog w = .ok (decide (a = c) && decide (b = e)) w := by
  have hin := info_intN
  cases hi : Try.prog.info? 3 with
  | none => rw [hi] at hin; cases hin
  | some i =>
    rw [run_equalIn_array w (d + 1) _ _ Try.underlying49 hi]
    have hc : Try.prog.cellsOf 3 = 1 := by kernel_rfl
    have hr : List.range 2 = [0, 1] := rfl
    rw [hc, hr]
    simp [Op.eqItems, part, go_sem]
    by_cases h1 : a = c <;> by_cases h2 : b = e <;> simp [h1, h2]
attribute [go_sem] eq_pair
theorem eq_link (d : Nat) (a b c e : Int) (w : World) : (Op.equalIn (d + 2) 98 (.agg #[.int .i64 a, .int .i64 b]) (.agg #[.int .i64 c, .int .i64 e])).run Try.prog w = .ok (decide (a = c) && decide (b = e)) w := by
  have hin := info_intN
  cases hi : Try.prog.info? 3 with
  | none => rw [hi] at hin; cases hin
  | some i =>
    rw [run_equalIn_array w (d + 1) _ _ Try.underlying98 hi]
    have hc : Try.prog.cellsOf 3 = 1 := by kernel_rfl
    have hr : List.range 2 = [0, 1] := rfl
    rw [hc, hr]
    simp [Op.eqItems, part, go_sem]
    by_cases h1 : a = c <;> by_cases h2 : b = e <;> simp [h1, h2]
attribute [go_sem] eq_link
def hasB (l : List (Int × Int)) (a b : Int) : Bool := l.any fun x => decide (a = x.1) && decide (b = x.2)
theorem cutB_has (l : List (Int × Int)) (a b : Int) : cutB l a b = hasB l (min a b) (max a b) := by
  simp only [cutB, hasB, eq_comm]
theorem hasTake (l : List (Int × Int)) (a b : Int) {k : Nat} (hk : k < l.length) : hasB (l.take (k + 1)) a b = (hasB (l.take k) a b || (decide (a = (l.getD k (0, 0)).1) && decide (b = (l.getD k (0, 0)).2))) := by
  unfold hasB
  rw [List.take_succ_eq_append_getElem hk, List.any_append]
  simp [List.getD_eq_getElem?_getD, List.getElem?_eq_getElem hk]
theorem hasGood {l : List (Int × Int)} {a b : Int} {k : Nat} (hk : k < l.length) (h : (decide (a = (l.getD k (0, 0)).1) && decide (b = (l.getD k (0, 0)).2)) = true) : hasB l a b = true := by
  unfold hasB
  rw [List.any_eq_true]
  exact ⟨l[k], List.getElem_mem hk, by simpa [List.getD_eq_getElem?_getD, List.getElem?_eq_getElem hk] using h⟩

set_option maxRecDepth 100000 in
set_option maxHeartbeats 2000000 in
theorem nIndexLk_any (l : List (Int × Int)) (x y : Int) (v : Value) (w : World) (D : Nat) (hDw : D ≤ w.heap.size) (hL : LksAt w D v l) :
    Calls Try.prog 92 #[v, pairV x y] w (IxRes (hasB l x y) w) := by
  obtain ⟨A, c, rfl, hm⟩ := hL.form
  unfold maxLen at hm
  obtain ⟨n, hnn⟩ : ∃ n, l.length = n := ⟨_, rfl⟩
  rw [hnn] at hm hL ⊢
  have HN := Lib.hid hnn
  have HL := Lib.hid hL
  clear hnn hL
  have hX := Box.new w [.int .i64 x, .int .i64 y] 49
  have hB0 := (Below.refl w.heap.size w).alloc (Nat.le_refl _) (.cells #[.int .i64 x, .int .i64 y] 49)
  go_enter Try.func92, Try.ntmps92
  go_wp2_with fail
  generalize w.alloc (.cells #[.int .i64 x, .int .i64 y] 49) = W at hX hB0 ⊢
  go_loopw [8] (fun i wr => ∃ j : Nat, j ≤ n ∧ i = .int .i64 j ∧ Below w.heap.size w wr ∧ Box wr w.heap.size [.int .i64 x, .int .i64 y] ∧ Hid (hasB (l.take j) x y = false)) (fun i _ => n - (intOf i).toNat)
  case atStart => exact ⟨0, by omega, rfl, hB0, hX, rfl⟩
  case round =>
    obtain ⟨j, hj, rfl, hb, hY, hno⟩ := hrel
    have x0 : wr.cell? ⟨w.heap.size, 0, none⟩ = some (.int .i64 x) := hY.cell 0
    have x1 : wr.cell? ⟨w.heap.size, 1, none⟩ = some (.int .i64 y) := hY.cell 1
    have xz := hY.lt
    by_cases hlt : j < n
    · have hjl : j < l.length := by rw [HN.out]; exact hlt
      obtain ⟨b, off, rfl, hbw, hall⟩ := HL.out.lk (by omega)
      have hbv := Nat.lt_of_lt_of_le hbw hDw
      obtain ⟨q0, q1⟩ := hall j hjl
      have q0 := (hb.cell hbv).trans q0
      have q1 := (hb.cell hbv).trans q1
      have htk := hasTake l x y hjl
      have hgd := hasGood (a := x) (b := y) hjl
      obtain ⟨⟨z1, z2⟩, hz⟩ : ∃ z, l.getD j (0, 0) = z := ⟨_, rfl⟩
      rw [hz] at q0 q1 htk hgd
      dsimp only at q0 q1 htk hgd
      clear hall hz
      rw [hno.out, Bool.false_or] at htk
      have HT := Lib.hid htk
      have HG := Lib.hid hgd
      clear htk hgd
      have hbz : b < wr.heap.size := Nat.lt_of_lt_of_le hbv hb.size
      go_wp2_with fail
      go_region
      obtain ⟨t, ht⟩ : ∃ t, (decide (x = z1) && decide (y = z2)) = t := ⟨_, rfl⟩
      rw [ht] at HT HG
      rw [ht]
      have HF := hb.drew
      have hY := hY.drew
      clear ht
      rcases t with _ | _
      · go_wp2
        exact ⟨⟨j + 1, by omega, by go_num, HF, hY, HT⟩, by simp [intOf]; omega⟩
      · have hG := Lib.hid (HG.out rfl)
        go_wp2
        go_ret
        exact ⟨_, rfl, .inl ⟨hG.out, by omega⟩, HF⟩
    · obtain rfl : j = n := by omega
      have hF : Hid (hasB l x y = false) := by
        have := hno.out
        rw [← HN.out, List.take_length] at this
        exact this
      go_wp2
      go_ret
      exact ⟨_, rfl, .inr ⟨hF.out, by omega⟩, hb⟩

theorem nContainsLk_any (l : List (Int × Int)) (x y : Int) (v : Value) (w : World) (D : Nat) (hDw : D ≤ w.heap.size) (hL : LksAt w D v l) :
    Calls Try.prog 71 #[v, pairV x y] w fun e w' => e = .returned (.bool (hasB l x y)) ∧ Below w.heap.size w w' := by
  obtain ⟨A, c, rfl, hm⟩ := hL.form
  obtain ⟨n, hnn⟩ : ∃ n, l.length = n := ⟨_, rfl⟩
  obtain ⟨t, ht⟩ : ∃ t, hasB l x y = t := ⟨_, rfl⟩
  have hB0 := (Below.refl w.heap.size w).alloc (Nat.le_refl _) (.cells #[.int .i64 x, .int .i64 y] 49)
  have hI := nIndexLk_any l x y _ _ D (Nat.le_trans hDw hB0.size) (hL.below (hB0.mono hDw))
  rw [hnn] at hI ⊢
  rw [ht] at hI ⊢
  have HI := Lib.hid hI
  clear hI ht hL
  go_enter Try.func71, Try.ntmps71
  go_wp2_with fail
  refine HI.out.mono ?_
  rintro e w1 ⟨z, rfl, hz, hb1⟩
  have hb1 := hB0.trans (hb1.mono hB0.size)
  rcases hz.out with ⟨rfl, h0⟩ | ⟨rfl, h0⟩
  · have _hd : decide (0 ≤ z) = true := decide_eq_true h0
    go_wp2
    go_ret
    exact ⟨rfl, hb1⟩
  · have _hd : decide (0 ≤ z) = false := decide_eq_false (by omega)
    go_wp2
    go_ret
    exact ⟨rfl, hb1⟩

end Go.Proofs.Ytmbifmmkccghfaa

/-
  Contract of IsCut of the reference. No condition.
-/
namespace Go.Proofs.Ytmbifmmkccghfaa
open Go.RowKit

end Go.Proofs.Ytmbifmmkccghfaa
