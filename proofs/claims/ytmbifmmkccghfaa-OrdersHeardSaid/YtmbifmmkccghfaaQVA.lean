/- Chapter 6's Send, Deliver, Lose and Repeat keep the list of links that are cut. (Printed by mkv.py.) No condition. -/
import Derived.Test.YtmbifmmkccghfaaQNR
import Derived.Deep.RegionWith
set_option linter.unusedVariables false
set_option linter.unusedSimpArgs false
namespace Go.Proofs.Ytmbifmmkccghfaa
open Go.RowKit

def NwV (V V' : Value) : Prop := V' = V ∨ V' = .slice none 0 0
theorem NwV.trans {V V' V'' : Value} (h : NwV V V') (h2 : NwV V' V'') : NwV V V'' := by
  rcases h2 with rfl | rfl
  · exact h
  · exact .inr rfl
def RetNetV (t : Net × Int) (D : Nat) (V0 : Value) (w : World) (e : Ending) (w' : World) : Prop := ∃ (Vq Va : Value) (m : Net) (er : Int), e = .returned (.tuple #[.agg #[Vq, Va], .int .i64 er]) ∧ Hid (t = (m, er)) ∧ Hid (Net2 w' D w.heap.size Vq Va m) ∧ Below w.heap.size w w' ∧ NwV V0 Va
def RetN1V (t : Net) (D : Nat) (V0 : Value) (w : World) (e : Ending) (w' : World) : Prop := ∃ (Vq Va : Value), e = .returned (.agg #[Vq, Va]) ∧ Hid (Net2 w' D w.heap.size Vq Va t) ∧ Below w.heap.size w w' ∧ NwV V0 Va
def RetDelV (t : Pk × Net × Int) (D : Nat) (V0 : Value) (w : World) (e : Ending) (w' : World) : Prop := ∃ (V : Value) (p : Pk) (Vq Va : Value) (m : Net) (er : Int), e = .returned (.tuple #[p.v V, .agg #[Vq, Va], .int .i64 er]) ∧ Hid (t = (p, m, er)) ∧ Hid (BytesAt w' D V p.data) ∧ Hid (Net2 w' D w.heap.size Vq Va m) ∧ Below w.heap.size w w' ∧ NwV V0 Va
theorem RetN1V.sl {t : Net} {D : Nat} {V0 : Value} {w w' : World} {e : Ending} (h : RetN1V t D V0 w e w') : ∃ (Aq : Option Addr) (nq cq : Nat) (Aa : Option Addr) (na ca : Nat), e = .returned (.agg #[.slice Aq nq cq, .slice Aa na ca]) ∧ Hid (Net2 w' D w.heap.size (.slice Aq nq cq) (.slice Aa na ca) t) ∧ Below w.heap.size w w' ∧ NwV V0 (.slice Aa na ca) := by
  obtain ⟨Vq, Va, rfl, h2, hb, hv⟩ := h
  obtain ⟨Aq, nq, cq, Aa, na, ca, rfl, rfl⟩ := h2.out.form
  exact ⟨_, _, _, _, _, _, rfl, h2, hb, hv⟩
theorem RetNetV.sl {t : Net × Int} {D : Nat} {V0 : Value} {w w' : World} {e : Ending} (h : RetNetV t D V0 w e w') : ∃ (Aq : Option Addr) (nq cq : Nat) (Aa : Option Addr) (na ca : Nat) (m : Net) (er : Int), e = .returned (.tuple #[.agg #[.slice Aq nq cq, .slice Aa na ca], .int .i64 er]) ∧ Hid (t = (m, er)) ∧ Hid (Net2 w' D w.heap.size (.slice Aq nq cq) (.slice Aa na ca) m) ∧ Below w.heap.size w w' ∧ NwV V0 (.slice Aa na ca) := by
  obtain ⟨Vq, Va, m, er, rfl, ht, h2, hb, hv⟩ := h
  obtain ⟨Aq, nq, cq, Aa, na, ca, rfl, rfl⟩ := h2.out.form
  exact ⟨_, _, _, _, _, _, _, _, rfl, ht, h2, hb, hv⟩
section
attribute [local go_sem ↓ high] app_named
set_option maxRecDepth 100000 in
set_option maxHeartbeats 4000000 in
theorem nSendV_1 (n : Net) (Aq : Option Addr) (nq cq : Nat) (Aa : Option Addr) (na ca : Nat) (p : Pk) (Vd : Value) (w : World) (D : Nat) (hDw : D ≤ w.heap.size) (hN : Hid (NetAt w D (.slice Aq nq cq) (.slice Aa na ca) n)) (_hD : Hid (BytesAt w D Vd p.data)) (h : Hid (n.checkT = 60)) (hs : Hid (sendT n p = (Net.zero, 60))) : Calls Try.prog 32 #[.agg #[.slice Aq nq cq, .slice Aa na ca], p.v Vd] w (RetNetV (sendT n p) D (.slice Aa na ca) w) := by
  have HB0 : Below w.heap.size w (((w.alloc (.cells #[.slice Aq nq cq, .slice Aa na ca] 25)).alloc (.cells #[.int .i64 p.src, .int .i64 p.dst, Vd] 51)).alloc (.cells #[.slice none 0 0, .slice none 0 0] 25)) := ((((Below.refl w.heap.size w).alloc (by simp <;> omega) (.cells #[.slice Aq nq cq, .slice Aa na ca] 25)).alloc (by simp <;> omega) (.cells #[.int .i64 p.src, .int .i64 p.dst, Vd] 51)).alloc (by simp <;> omega) (.cells #[.slice none 0 0, .slice none 0 0] 25))
  have HNB := Lib.hid (((hN.out.more hDw).below HB0).more HB0.size)
  go_enter Try.func32, Try.ntmps32
  go_wp2_with fail
  refine (nCheck_at h HNB.out).mono ?_
  rintro e w1 ⟨rfl, hb⟩
  have X0 := ((((Box.newAt (n := w.heap.size) [.slice Aq nq cq, .slice Aa na ca] 25 (by simp)).alloc _).alloc _)).later hb
  have X1 := (((Box.newAt (n := w.heap.size + 1) [.int .i64 p.src, .int .i64 p.dst, Vd] 51 (by simp)).alloc _)).later hb
  have R := ((Box.newAt (n := w.heap.size + 1 + 1) [.slice none 0 0, .slice none 0 0] 25 (by simp))).later hb
  have hB : Below w.heap.size w w1 := (((((Below.refl w.heap.size w).alloc (by simp <;> omega) _).alloc (by simp <;> omega) _).alloc (by simp <;> omega) _)).trans (hb.mono (by simp <;> omega))
  clear hb
  have Rc0 : w1.cell? ⟨w.heap.size + 1 + 1, 0, none⟩ = some (.slice none 0 0) := R.cell 0
  have Rf0 : w1.frozen? ⟨w.heap.size + 1 + 1, 0, none⟩ = false := R.free 0
  have Rc1 : w1.cell? ⟨w.heap.size + 1 + 1, 1, none⟩ = some (.slice none 0 0) := R.cell 1
  have Rf1 : w1.frozen? ⟨w.heap.size + 1 + 1, 1, none⟩ = false := R.free 1
  have Rz : w.heap.size + 1 + 1 < w1.heap.size := R.lt
  have hle : w.heap.size ≤ w.heap.size + 1 + 1 := by omega
  have hres := hs
  go_wp2
  have hY := ((R.set 0 (.slice none 0 0)).set 1 (.slice none 0 0))
  have hB := ((hB.setCell (p := ⟨w.heap.size + 1 + 1, 0, none⟩) (by simp <;> omega) (.slice none 0 0)).setCell (p := ⟨w.heap.size + 1 + 1, 1, none⟩) (by simp <;> omega) (.slice none 0 0))
  generalize ((w1.setCell ⟨w.heap.size + 1 + 1, 0, none⟩ (.slice none 0 0)).setCell ⟨w.heap.size + 1 + 1, 1, none⟩ (.slice none 0 0)) = W at hY hB ⊢
  have y0 : W.cell? ⟨w.heap.size + 1 + 1, 0, none⟩ = some (.slice none 0 0) := hY.cell 0
  have y1 : W.cell? ⟨w.heap.size + 1 + 1, 1, none⟩ = some (.slice none 0 0) := hY.cell 1
  refine bodyPost_ret (v := .tuple #[.agg #[.slice none 0 0, .slice none 0 0], .int .i64 60]) (by simp [results, Try.results32, go_sem, y0, y1]) rfl ?_
  exact ⟨_, _, Net.zero, 60, rfl, hres, net2_zero _ _ _, hB, .inr rfl⟩
set_option maxRecDepth 100000 in
set_option maxHeartbeats 4000000 in
theorem nSendV_2 (n : Net) (Aq : Option Addr) (nq cq : Nat) (Aa : Option Addr) (na ca : Nat) (p : Pk) (Vd : Value) (w : World) (D : Nat) (hDw : D ≤ w.heap.size) (hN : Hid (NetAt w D (.slice Aq nq cq) (.slice Aa na ca) n)) (hD : Hid (BytesAt w D Vd p.data)) (h : Hid (n.checkT = 0)) (hp : Hid (p.okB = false)) (hs : Hid (sendT n p = (Net.zero, 60))) : Calls Try.prog 32 #[.agg #[.slice Aq nq cq, .slice Aa na ca], p.v Vd] w (RetNetV (sendT n p) D (.slice Aa na ca) w) := by
  have HB0 : Below w.heap.size w (((w.alloc (.cells #[.slice Aq nq cq, .slice Aa na ca] 25)).alloc (.cells #[.int .i64 p.src, .int .i64 p.dst, Vd] 51)).alloc (.cells #[.slice none 0 0, .slice none 0 0] 25)) := ((((Below.refl w.heap.size w).alloc (by simp <;> omega) (.cells #[.slice Aq nq cq, .slice Aa na ca] 25)).alloc (by simp <;> omega) (.cells #[.int .i64 p.src, .int .i64 p.dst, Vd] 51)).alloc (by simp <;> omega) (.cells #[.slice none 0 0, .slice none 0 0] 25))
  have HNB := Lib.hid (((hN.out.more hDw).below HB0).more HB0.size)
  go_enter Try.func32, Try.ntmps32
  go_wp2_with fail
  refine (nCheck_at h HNB.out).mono ?_
  rintro e w1 ⟨rfl, hb⟩
  have X0 := ((((Box.newAt (n := w.heap.size) [.slice Aq nq cq, .slice Aa na ca] 25 (by simp)).alloc _).alloc _)).later hb
  have X1 := (((Box.newAt (n := w.heap.size + 1) [.int .i64 p.src, .int .i64 p.dst, Vd] 51 (by simp)).alloc _)).later hb
  have R := ((Box.newAt (n := w.heap.size + 1 + 1) [.slice none 0 0, .slice none 0 0] 25 (by simp))).later hb
  have hB : Below w.heap.size w w1 := (((((Below.refl w.heap.size w).alloc (by simp <;> omega) _).alloc (by simp <;> omega) _).alloc (by simp <;> omega) _)).trans (hb.mono (by simp <;> omega))
  clear hb
  have X1c0 : w1.cell? ⟨w.heap.size + 1, 0, none⟩ = some (.int .i64 p.src) := X1.cell 0
  have X1f0 : w1.frozen? ⟨w.heap.size + 1, 0, none⟩ = false := X1.free 0
  have X1c1 : w1.cell? ⟨w.heap.size + 1, 1, none⟩ = some (.int .i64 p.dst) := X1.cell 1
  have X1f1 : w1.frozen? ⟨w.heap.size + 1, 1, none⟩ = false := X1.free 1
  have X1c2 : w1.cell? ⟨w.heap.size + 1, 2, none⟩ = some (Vd) := X1.cell 2
  have X1f2 : w1.frozen? ⟨w.heap.size + 1, 2, none⟩ = false := X1.free 2
  have X1z : w.heap.size + 1 < w1.heap.size := X1.lt
  go_wp2_with fail
  refine (nPacket_at hp (((hD.out.more hDw).below hB).more hB.size)).mono ?_
  rintro e w2 ⟨rfl, hb⟩
  clear X1c0 X1f0 X1c1 X1f1 X1c2 X1f2 X1z
  have X0 := X0.later hb
  have X1 := X1.later hb
  have R := R.later hb
  have hB := hB.trans (hb.mono hB.size)
  clear hb
  have Rc0 : w2.cell? ⟨w.heap.size + 1 + 1, 0, none⟩ = some (.slice none 0 0) := R.cell 0
  have Rf0 : w2.frozen? ⟨w.heap.size + 1 + 1, 0, none⟩ = false := R.free 0
  have Rc1 : w2.cell? ⟨w.heap.size + 1 + 1, 1, none⟩ = some (.slice none 0 0) := R.cell 1
  have Rf1 : w2.frozen? ⟨w.heap.size + 1 + 1, 1, none⟩ = false := R.free 1
  have Rz : w.heap.size + 1 + 1 < w2.heap.size := R.lt
  have hle : w.heap.size ≤ w.heap.size + 1 + 1 := by omega
  have hres := hs
  go_wp2
  have hY := ((R.set 0 (.slice none 0 0)).set 1 (.slice none 0 0))
  have hB := ((hB.setCell (p := ⟨w.heap.size + 1 + 1, 0, none⟩) (by simp <;> omega) (.slice none 0 0)).setCell (p := ⟨w.heap.size + 1 + 1, 1, none⟩) (by simp <;> omega) (.slice none 0 0))
  generalize ((w2.setCell ⟨w.heap.size + 1 + 1, 0, none⟩ (.slice none 0 0)).setCell ⟨w.heap.size + 1 + 1, 1, none⟩ (.slice none 0 0)) = W at hY hB ⊢
  have y0 : W.cell? ⟨w.heap.size + 1 + 1, 0, none⟩ = some (.slice none 0 0) := hY.cell 0
  have y1 : W.cell? ⟨w.heap.size + 1 + 1, 1, none⟩ = some (.slice none 0 0) := hY.cell 1
  refine bodyPost_ret (v := .tuple #[.agg #[.slice none 0 0, .slice none 0 0], .int .i64 60]) (by simp [results, Try.results32, go_sem, y0, y1]) rfl ?_
  exact ⟨_, _, Net.zero, 60, rfl, hres, net2_zero _ _ _, hB, .inr rfl⟩
set_option maxRecDepth 100000 in
set_option maxHeartbeats 4000000 in
theorem nSendV_3 (n : Net) (Aq : Option Addr) (nq cq : Nat) (Aa : Option Addr) (na ca : Nat) (p : Pk) (Vd : Value) (w : World) (D : Nat) (hDw : D ≤ w.heap.size) (hN : Hid (NetAt w D (.slice Aq nq cq) (.slice Aa na ca) n)) (hD : Hid (BytesAt w D Vd p.data)) (h : Hid (n.checkT = 0)) (hp : Hid (p.okB = true)) (_hl : (nq == 4096) = true) (hs : Hid (sendT n p = (Net.zero, 2))) : Calls Try.prog 32 #[.agg #[.slice Aq nq cq, .slice Aa na ca], p.v Vd] w (RetNetV (sendT n p) D (.slice Aa na ca) w) := by
  have HB0 : Below w.heap.size w (((w.alloc (.cells #[.slice Aq nq cq, .slice Aa na ca] 25)).alloc (.cells #[.int .i64 p.src, .int .i64 p.dst, Vd] 51)).alloc (.cells #[.slice none 0 0, .slice none 0 0] 25)) := ((((Below.refl w.heap.size w).alloc (by simp <;> omega) (.cells #[.slice Aq nq cq, .slice Aa na ca] 25)).alloc (by simp <;> omega) (.cells #[.int .i64 p.src, .int .i64 p.dst, Vd] 51)).alloc (by simp <;> omega) (.cells #[.slice none 0 0, .slice none 0 0] 25))
  have HNB := Lib.hid (((hN.out.more hDw).below HB0).more HB0.size)
  go_enter Try.func32, Try.ntmps32
  go_wp2_with fail
  refine (nCheck_at h HNB.out).mono ?_
  rintro e w1 ⟨rfl, hb⟩
  have X0 := ((((Box.newAt (n := w.heap.size) [.slice Aq nq cq, .slice Aa na ca] 25 (by simp)).alloc _).alloc _)).later hb
  have X1 := (((Box.newAt (n := w.heap.size + 1) [.int .i64 p.src, .int .i64 p.dst, Vd] 51 (by simp)).alloc _)).later hb
  have R := ((Box.newAt (n := w.heap.size + 1 + 1) [.slice none 0 0, .slice none 0 0] 25 (by simp))).later hb
  have hB : Below w.heap.size w w1 := (((((Below.refl w.heap.size w).alloc (by simp <;> omega) _).alloc (by simp <;> omega) _).alloc (by simp <;> omega) _)).trans (hb.mono (by simp <;> omega))
  clear hb
  have X1c0 : w1.cell? ⟨w.heap.size + 1, 0, none⟩ = some (.int .i64 p.src) := X1.cell 0
  have X1f0 : w1.frozen? ⟨w.heap.size + 1, 0, none⟩ = false := X1.free 0
  have X1c1 : w1.cell? ⟨w.heap.size + 1, 1, none⟩ = some (.int .i64 p.dst) := X1.cell 1
  have X1f1 : w1.frozen? ⟨w.heap.size + 1, 1, none⟩ = false := X1.free 1
  have X1c2 : w1.cell? ⟨w.heap.size + 1, 2, none⟩ = some (Vd) := X1.cell 2
  have X1f2 : w1.frozen? ⟨w.heap.size + 1, 2, none⟩ = false := X1.free 2
  have X1z : w.heap.size + 1 < w1.heap.size := X1.lt
  go_wp2_with fail
  refine (nPacket_at hp (((hD.out.more hDw).below hB).more hB.size)).mono ?_
  rintro e w2 ⟨rfl, hb⟩
  clear X1c0 X1f0 X1c1 X1f1 X1c2 X1f2 X1z
  have X0 := X0.later hb
  have X1 := X1.later hb
  have R := R.later hb
  have hB := hB.trans (hb.mono hB.size)
  clear hb
  have X0c0 : w2.cell? ⟨w.heap.size, 0, none⟩ = some (.slice Aq nq cq) := X0.cell 0
  have X0f0 : w2.frozen? ⟨w.heap.size, 0, none⟩ = false := X0.free 0
  have X0c1 : w2.cell? ⟨w.heap.size, 1, none⟩ = some (.slice Aa na ca) := X0.cell 1
  have X0f1 : w2.frozen? ⟨w.heap.size, 1, none⟩ = false := X0.free 1
  have X0z : w.heap.size < w2.heap.size := X0.lt
  have Rc0 : w2.cell? ⟨w.heap.size + 1 + 1, 0, none⟩ = some (.slice none 0 0) := R.cell 0
  have Rf0 : w2.frozen? ⟨w.heap.size + 1 + 1, 0, none⟩ = false := R.free 0
  have Rc1 : w2.cell? ⟨w.heap.size + 1 + 1, 1, none⟩ = some (.slice none 0 0) := R.cell 1
  have Rf1 : w2.frozen? ⟨w.heap.size + 1 + 1, 1, none⟩ = false := R.free 1
  have Rz : w.heap.size + 1 + 1 < w2.heap.size := R.lt
  have hle : w.heap.size ≤ w.heap.size + 1 + 1 := by omega
  have hres := hs
  go_wp2
  have hY := ((R.set 0 (.slice none 0 0)).set 1 (.slice none 0 0))
  have hB := ((hB.setCell (p := ⟨w.heap.size + 1 + 1, 0, none⟩) (by simp <;> omega) (.slice none 0 0)).setCell (p := ⟨w.heap.size + 1 + 1, 1, none⟩) (by simp <;> omega) (.slice none 0 0))
  generalize ((w2.setCell ⟨w.heap.size + 1 + 1, 0, none⟩ (.slice none 0 0)).setCell ⟨w.heap.size + 1 + 1, 1, none⟩ (.slice none 0 0)) = W at hY hB ⊢
  have y0 : W.cell? ⟨w.heap.size + 1 + 1, 0, none⟩ = some (.slice none 0 0) := hY.cell 0
  have y1 : W.cell? ⟨w.heap.size + 1 + 1, 1, none⟩ = some (.slice none 0 0) := hY.cell 1
  refine bodyPost_ret (v := .tuple #[.agg #[.slice none 0 0, .slice none 0 0], .int .i64 2]) (by simp [results, Try.results32, go_sem, y0, y1]) rfl ?_
  exact ⟨_, _, Net.zero, 2, rfl, hres, net2_zero _ _ _, hB, .inr rfl⟩
set_option maxRecDepth 100000 in
set_option maxHeartbeats 4000000 in
theorem nSendV_4n (n : Net) (Aq : Option Addr) (nq cq : Nat) (Aa : Option Addr) (na ca : Nat) (p : Pk) (Vd : Value) (w : World) (D : Nat) (hDw : D ≤ w.heap.size) (hN : Hid (NetAt w D (.slice Aq nq cq) (.slice Aa na ca) n)) (hD : Hid (BytesAt w D Vd p.data)) (h : Hid (n.checkT = 0)) (hp : Hid (p.okB = true)) (hnq : Hid (n.queue.length = nq)) (_hl : (nq == 4096) = false) (_hl2 : (nq : Int) < 4096) (hs : Hid (sendT n p = (⟨n.queue ++ [p], n.apart⟩, 0))) (hA : Aq = none ∧ nq = 0 ∧ cq = 0) : Calls Try.prog 32 #[.agg #[.slice Aq nq cq, .slice Aa na ca], p.v Vd] w (RetNetV (sendT n p) D (.slice Aa na ca) w) := by
  obtain ⟨rfl, rfl, rfl⟩ := hA
  have HB0 : Below w.heap.size w (((w.alloc (.cells #[.slice none 0 0, .slice Aa na ca] 25)).alloc (.cells #[.int .i64 p.src, .int .i64 p.dst, Vd] 51)).alloc (.cells #[.slice none 0 0, .slice none 0 0] 25)) := ((((Below.refl w.heap.size w).alloc (by simp <;> omega) (.cells #[.slice none 0 0, .slice Aa na ca] 25)).alloc (by simp <;> omega) (.cells #[.int .i64 p.src, .int .i64 p.dst, Vd] 51)).alloc (by simp <;> omega) (.cells #[.slice none 0 0, .slice none 0 0] 25))
  have HNB := Lib.hid (((hN.out.more hDw).below HB0).more HB0.size)
  go_enter Try.func32, Try.ntmps32
  go_wp2_with fail
  refine (nCheck_at h HNB.out).mono ?_
  rintro e w1 ⟨rfl, hb⟩
  have X0 := ((((Box.newAt (n := w.heap.size) [.slice none 0 0, .slice Aa na ca] 25 (by simp)).alloc _).alloc _)).later hb
  have X1 := (((Box.newAt (n := w.heap.size + 1) [.int .i64 p.src, .int .i64 p.dst, Vd] 51 (by simp)).alloc _)).later hb
  have R := ((Box.newAt (n := w.heap.size + 1 + 1) [.slice none 0 0, .slice none 0 0] 25 (by simp))).later hb
  have hB : Below w.heap.size w w1 := (((((Below.refl w.heap.size w).alloc (by simp <;> omega) _).alloc (by simp <;> omega) _).alloc (by simp <;> omega) _)).trans (hb.mono (by simp <;> omega))
  clear hb
  have X1c0 : w1.cell? ⟨w.heap.size + 1, 0, none⟩ = some (.int .i64 p.src) := X1.cell 0
  have X1f0 : w1.frozen? ⟨w.heap.size + 1, 0, none⟩ = false := X1.free 0
  have X1c1 : w1.cell? ⟨w.heap.size + 1, 1, none⟩ = some (.int .i64 p.dst) := X1.cell 1
  have X1f1 : w1.frozen? ⟨w.heap.size + 1, 1, none⟩ = false := X1.free 1
  have X1c2 : w1.cell? ⟨w.heap.size + 1, 2, none⟩ = some (Vd) := X1.cell 2
  have X1f2 : w1.frozen? ⟨w.heap.size + 1, 2, none⟩ = false := X1.free 2
  have X1z : w.heap.size + 1 < w1.heap.size := X1.lt
  go_wp2_with fail
  refine (nPacket_at hp (((hD.out.more hDw).below hB).more hB.size)).mono ?_
  rintro e w2 ⟨rfl, hb⟩
  clear X1c0 X1f0 X1c1 X1f1 X1c2 X1f2 X1z
  have X0 := X0.later hb
  have X1 := X1.later hb
  have R := R.later hb
  have hB := hB.trans (hb.mono hB.size)
  clear hb
  have hP := Box.new w2 [.int .i64 p.src, .int .i64 p.dst, Vd] 51
  have hBL := hB.alloc hB.size (.cells #[.int .i64 p.src, .int .i64 p.dst, Vd] 51)
  have hQ := (hN.out.below (hBL.mono hDw)).queue.clip.1
  have hI := pksIn_one hP (hD.out.below (hBL.mono hDw))
  obtain ⟨A', n', c', w5, hrun0, hq5, hb5⟩ := run_app_pk 22 (w := (w2.alloc (.cells #[.int .i64 p.src, .int .i64 p.dst, Vd] 51)).drew) hQ hI (Nat.le_trans hDw hBL.size) (.inl (by rw [hnq.out]; simp)) (by rw [hnq.out]; simp <;> omega)
  have hrun : (appF #[22, 22] 22 #[.slice none 0 0, .slice (some ⟨w2.heap.size, 0, none⟩) 1 1]).run Try.prog (w2.alloc (.cells #[.int .i64 p.src, .int .i64 p.dst, Vd] 51)).drew = .ok (.slice A' n' c') w5 := hrun0
  have hB5 : Below w.heap.size w w5 := hBL.drew.trans (hb5.mono hBL.size)
  have HQ5 := Lib.hid hq5
  have Y0 := ((X0.alloc (.cells #[.int .i64 p.src, .int .i64 p.dst, Vd] 51)).drew).later hb5
  have YR := ((R.alloc (.cells #[.int .i64 p.src, .int .i64 p.dst, Vd] 51)).drew).later hb5
  clear hq5 hQ hI hP hBL hrun0 hb5
  have y0 : w5.cell? ⟨w.heap.size, 0, none⟩ = some (.slice none 0 0) := Y0.cell 0
  have y1 : w5.cell? ⟨w.heap.size, 1, none⟩ = some (.slice Aa na ca) := Y0.cell 1
  have yf : w5.frozen? ⟨w.heap.size, 0, none⟩ = false := Y0.free 0
  have yz : w.heap.size < w5.heap.size := Y0.lt
  have r0 : w5.cell? ⟨w.heap.size + 1 + 1, 0, none⟩ = some (.slice none 0 0) := YR.cell 0
  have r1 : w5.cell? ⟨w.heap.size + 1 + 1, 1, none⟩ = some (.slice none 0 0) := YR.cell 1
  have rf0 : w5.frozen? ⟨w.heap.size + 1 + 1, 0, none⟩ = false := YR.free 0
  have rf1 : w5.frozen? ⟨w.heap.size + 1 + 1, 1, none⟩ = false := YR.free 1
  have rz : w.heap.size + 1 + 1 < w5.heap.size := YR.lt
  have X0c0 : w2.cell? ⟨w.heap.size, 0, none⟩ = some (.slice none 0 0) := X0.cell 0
  have X0f0 : w2.frozen? ⟨w.heap.size, 0, none⟩ = false := X0.free 0
  have X0c1 : w2.cell? ⟨w.heap.size, 1, none⟩ = some (.slice Aa na ca) := X0.cell 1
  have X0f1 : w2.frozen? ⟨w.heap.size, 1, none⟩ = false := X0.free 1
  have X0z : w.heap.size < w2.heap.size := X0.lt
  have X1c0 : w2.cell? ⟨w.heap.size + 1, 0, none⟩ = some (.int .i64 p.src) := X1.cell 0
  have X1f0 : w2.frozen? ⟨w.heap.size + 1, 0, none⟩ = false := X1.free 0
  have X1c1 : w2.cell? ⟨w.heap.size + 1, 1, none⟩ = some (.int .i64 p.dst) := X1.cell 1
  have X1f1 : w2.frozen? ⟨w.heap.size + 1, 1, none⟩ = false := X1.free 1
  have X1c2 : w2.cell? ⟨w.heap.size + 1, 2, none⟩ = some (Vd) := X1.cell 2
  have X1f2 : w2.frozen? ⟨w.heap.size + 1, 2, none⟩ = false := X1.free 2
  have X1z : w.heap.size + 1 < w2.heap.size := X1.lt
  go_wp2_with fail
  go_region
  go_wp2
  have hne : w.heap.size + 1 + 1 ≠ w.heap.size := by omega
  have hcur : w.heap.size + 1 + 1 < w2.heap.size := R.lt
  have ZR := ((YR.other (a := ⟨w.heap.size, 0, none⟩) hne (.slice A' n' c')).set 0 (.slice A' n' c')).set 1 (.slice Aa na ca)
  have HB := ((hB5.setCell (p := ⟨w.heap.size, 0, none⟩) (Nat.le_refl _) (.slice A' n' c')).setCell (p := ⟨w.heap.size + 1 + 1, 0, none⟩) (by simp; omega) (.slice A' n' c')).setCell (p := ⟨w.heap.size + 1 + 1, 1, none⟩) (by simp; omega) (.slice Aa na ca)
  have HQ := ((HQ5.out.set (a := ⟨w.heap.size, 0, none⟩) hDw (by simp; omega) (.slice A' n' c')).set (a := ⟨w.heap.size + 1 + 1, 0, none⟩) (by simp; omega) (by simp; omega) (.slice A' n' c')).set (a := ⟨w.heap.size + 1 + 1, 1, none⟩) (by simp; omega) (by simp; omega) (.slice Aa na ca)
  have hres := hs
  generalize ((w5.setCell ⟨w.heap.size, 0, none⟩ (.slice A' n' c')).setCell ⟨w.heap.size + 1 + 1, 0, none⟩ (.slice A' n' c')).setCell ⟨w.heap.size + 1 + 1, 1, none⟩ (.slice Aa na ca) = W at ZR HB HQ ⊢
  have z0 : W.cell? ⟨w.heap.size + 1 + 1, 0, none⟩ = some (.slice A' n' c') := ZR.cell 0
  have z1 : W.cell? ⟨w.heap.size + 1 + 1, 1, none⟩ = some (.slice Aa na ca) := ZR.cell 1
  refine bodyPost_ret (v := .tuple #[.agg #[(.slice A' n' c'), .slice Aa na ca], .int .i64 0]) (by simp [results, Try.results32, go_sem, z0, z1]) rfl ?_
  exact ⟨_, _, _, 0, rfl, hres, ⟨HQ.lower (by simp; omega), (hN.out.apart.below (HB.mono hDw)).two (Nat.le_trans hDw HB.size)⟩, HB, .inl rfl⟩
set_option maxRecDepth 100000 in
set_option maxHeartbeats 4000000 in
theorem nSendV_4s (n : Net) (Aq : Option Addr) (nq cq : Nat) (Aa : Option Addr) (na ca : Nat) (p : Pk) (Vd : Value) (w : World) (D : Nat) (hDw : D ≤ w.heap.size) (hN : Hid (NetAt w D (.slice Aq nq cq) (.slice Aa na ca) n)) (hD : Hid (BytesAt w D Vd p.data)) (h : Hid (n.checkT = 0)) (hp : Hid (p.okB = true)) (hnq : Hid (n.queue.length = nq)) (_hl : (nq == 4096) = false) (_hl2 : (nq : Int) < 4096) (hs : Hid (sendT n p = (⟨n.queue ++ [p], n.apart⟩, 0))) (a : Addr) (hA : Aq = some a) (_hcq : (nq : Int) ≤ (cq : Int)) (_hcm : cq ≤ maxLen) : Calls Try.prog 32 #[.agg #[.slice Aq nq cq, .slice Aa na ca], p.v Vd] w (RetNetV (sendT n p) D (.slice Aa na ca) w) := by
  subst hA
  unfold maxLen at _hcm
  have HB0 : Below w.heap.size w (((w.alloc (.cells #[.slice (some a) nq cq, .slice Aa na ca] 25)).alloc (.cells #[.int .i64 p.src, .int .i64 p.dst, Vd] 51)).alloc (.cells #[.slice none 0 0, .slice none 0 0] 25)) := ((((Below.refl w.heap.size w).alloc (by simp <;> omega) (.cells #[.slice (some a) nq cq, .slice Aa na ca] 25)).alloc (by simp <;> omega) (.cells #[.int .i64 p.src, .int .i64 p.dst, Vd] 51)).alloc (by simp <;> omega) (.cells #[.slice none 0 0, .slice none 0 0] 25))
  have HNB := Lib.hid (((hN.out.more hDw).below HB0).more HB0.size)
  go_enter Try.func32, Try.ntmps32
  go_wp2_with fail
  refine (nCheck_at h HNB.out).mono ?_
  rintro e w1 ⟨rfl, hb⟩
  have X0 := ((((Box.newAt (n := w.heap.size) [.slice (some a) nq cq, .slice Aa na ca] 25 (by simp)).alloc _).alloc _)).later hb
  have X1 := (((Box.newAt (n := w.heap.size + 1) [.int .i64 p.src, .int .i64 p.dst, Vd] 51 (by simp)).alloc _)).later hb
  have R := ((Box.newAt (n := w.heap.size + 1 + 1) [.slice none 0 0, .slice none 0 0] 25 (by simp))).later hb
  have hB : Below w.heap.size w w1 := (((((Below.refl w.heap.size w).alloc (by simp <;> omega) _).alloc (by simp <;> omega) _).alloc (by simp <;> omega) _)).trans (hb.mono (by simp <;> omega))
  clear hb
  have X1c0 : w1.cell? ⟨w.heap.size + 1, 0, none⟩ = some (.int .i64 p.src) := X1.cell 0
  have X1f0 : w1.frozen? ⟨w.heap.size + 1, 0, none⟩ = false := X1.free 0
  have X1c1 : w1.cell? ⟨w.heap.size + 1, 1, none⟩ = some (.int .i64 p.dst) := X1.cell 1
  have X1f1 : w1.frozen? ⟨w.heap.size + 1, 1, none⟩ = false := X1.free 1
  have X1c2 : w1.cell? ⟨w.heap.size + 1, 2, none⟩ = some (Vd) := X1.cell 2
  have X1f2 : w1.frozen? ⟨w.heap.size + 1, 2, none⟩ = false := X1.free 2
  have X1z : w.heap.size + 1 < w1.heap.size := X1.lt
  go_wp2_with fail
  refine (nPacket_at hp (((hD.out.more hDw).below hB).more hB.size)).mono ?_
  rintro e w2 ⟨rfl, hb⟩
  clear X1c0 X1f0 X1c1 X1f1 X1c2 X1f2 X1z
  have X0 := X0.later hb
  have X1 := X1.later hb
  have R := R.later hb
  have hB := hB.trans (hb.mono hB.size)
  clear hb
  have hP := Box.new w2 [.int .i64 p.src, .int .i64 p.dst, Vd] 51
  have hBL := hB.alloc hB.size (.cells #[.int .i64 p.src, .int .i64 p.dst, Vd] 51)
  have hQ := (hN.out.below (hBL.mono hDw)).queue.clip.1
  have hI := pksIn_one hP (hD.out.below (hBL.mono hDw))
  obtain ⟨A', n', c', w5, hrun0, hq5, hb5⟩ := run_app_pk 22 (w := (w2.alloc (.cells #[.int .i64 p.src, .int .i64 p.dst, Vd] 51)).drew) hQ hI (Nat.le_trans hDw hBL.size) (.inl (by rw [hnq.out]; simp)) (by rw [hnq.out]; simp <;> omega)
  have hrun : (appF #[22, 22] 22 #[.slice (some a) nq nq, .slice (some ⟨w2.heap.size, 0, none⟩) 1 1]).run Try.prog (w2.alloc (.cells #[.int .i64 p.src, .int .i64 p.dst, Vd] 51)).drew = .ok (.slice A' n' c') w5 := hrun0
  have hB5 : Below w.heap.size w w5 := hBL.drew.trans (hb5.mono hBL.size)
  have HQ5 := Lib.hid hq5
  have Y0 := ((X0.alloc (.cells #[.int .i64 p.src, .int .i64 p.dst, Vd] 51)).drew).later hb5
  have YR := ((R.alloc (.cells #[.int .i64 p.src, .int .i64 p.dst, Vd] 51)).drew).later hb5
  clear hq5 hQ hI hP hBL hrun0 hb5
  have y0 : w5.cell? ⟨w.heap.size, 0, none⟩ = some (.slice (some a) nq cq) := Y0.cell 0
  have y1 : w5.cell? ⟨w.heap.size, 1, none⟩ = some (.slice Aa na ca) := Y0.cell 1
  have yf : w5.frozen? ⟨w.heap.size, 0, none⟩ = false := Y0.free 0
  have yz : w.heap.size < w5.heap.size := Y0.lt
  have r0 : w5.cell? ⟨w.heap.size + 1 + 1, 0, none⟩ = some (.slice none 0 0) := YR.cell 0
  have r1 : w5.cell? ⟨w.heap.size + 1 + 1, 1, none⟩ = some (.slice none 0 0) := YR.cell 1
  have rf0 : w5.frozen? ⟨w.heap.size + 1 + 1, 0, none⟩ = false := YR.free 0
  have rf1 : w5.frozen? ⟨w.heap.size + 1 + 1, 1, none⟩ = false := YR.free 1
  have rz : w.heap.size + 1 + 1 < w5.heap.size := YR.lt
  have X0c0 : w2.cell? ⟨w.heap.size, 0, none⟩ = some (.slice (some a) nq cq) := X0.cell 0
  have X0f0 : w2.frozen? ⟨w.heap.size, 0, none⟩ = false := X0.free 0
  have X0c1 : w2.cell? ⟨w.heap.size, 1, none⟩ = some (.slice Aa na ca) := X0.cell 1
  have X0f1 : w2.frozen? ⟨w.heap.size, 1, none⟩ = false := X0.free 1
  have X0z : w.heap.size < w2.heap.size := X0.lt
  have X1c0 : w2.cell? ⟨w.heap.size + 1, 0, none⟩ = some (.int .i64 p.src) := X1.cell 0
  have X1f0 : w2.frozen? ⟨w.heap.size + 1, 0, none⟩ = false := X1.free 0
  have X1c1 : w2.cell? ⟨w.heap.size + 1, 1, none⟩ = some (.int .i64 p.dst) := X1.cell 1
  have X1f1 : w2.frozen? ⟨w.heap.size + 1, 1, none⟩ = false := X1.free 1
  have X1c2 : w2.cell? ⟨w.heap.size + 1, 2, none⟩ = some (Vd) := X1.cell 2
  have X1f2 : w2.frozen? ⟨w.heap.size + 1, 2, none⟩ = false := X1.free 2
  have X1z : w.heap.size + 1 < w2.heap.size := X1.lt
  go_wp2_with fail
  go_region
  go_wp2
  have hne : w.heap.size + 1 + 1 ≠ w.heap.size := by omega
  have hcur : w.heap.size + 1 + 1 < w2.heap.size := R.lt
  have ZR := ((YR.other (a := ⟨w.heap.size, 0, none⟩) hne (.slice A' n' c')).set 0 (.slice A' n' c')).set 1 (.slice Aa na ca)
  have HB := ((hB5.setCell (p := ⟨w.heap.size, 0, none⟩) (Nat.le_refl _) (.slice A' n' c')).setCell (p := ⟨w.heap.size + 1 + 1, 0, none⟩) (by simp; omega) (.slice A' n' c')).setCell (p := ⟨w.heap.size + 1 + 1, 1, none⟩) (by simp; omega) (.slice Aa na ca)
  have HQ := ((HQ5.out.set (a := ⟨w.heap.size, 0, none⟩) hDw (by simp; omega) (.slice A' n' c')).set (a := ⟨w.heap.size + 1 + 1, 0, none⟩) (by simp; omega) (by simp; omega) (.slice A' n' c')).set (a := ⟨w.heap.size + 1 + 1, 1, none⟩) (by simp; omega) (by simp; omega) (.slice Aa na ca)
  have hres := hs
  generalize ((w5.setCell ⟨w.heap.size, 0, none⟩ (.slice A' n' c')).setCell ⟨w.heap.size + 1 + 1, 0, none⟩ (.slice A' n' c')).setCell ⟨w.heap.size + 1 + 1, 1, none⟩ (.slice Aa na ca) = W at ZR HB HQ ⊢
  have z0 : W.cell? ⟨w.heap.size + 1 + 1, 0, none⟩ = some (.slice A' n' c') := ZR.cell 0
  have z1 : W.cell? ⟨w.heap.size + 1 + 1, 1, none⟩ = some (.slice Aa na ca) := ZR.cell 1
  refine bodyPost_ret (v := .tuple #[.agg #[(.slice A' n' c'), .slice Aa na ca], .int .i64 0]) (by simp [results, Try.results32, go_sem, z0, z1]) rfl ?_
  exact ⟨_, _, _, 0, rfl, hres, ⟨HQ.lower (by simp; omega), (hN.out.apart.below (HB.mono hDw)).two (Nat.le_trans hDw HB.size)⟩, HB, .inl rfl⟩
theorem nSendV_any (n : Net) (Vq Va : Value) (p : Pk) (Vd : Value) (w : World) (D : Nat) (hDw : D ≤ w.heap.size) (hN : NetAt w D Vq Va n) (hD : BytesAt w D Vd p.data) : Calls Try.prog 32 #[.agg #[Vq, Va], p.v Vd] w (RetNetV (sendT n p) D Va w) := by
  obtain ⟨Aq, cq, rfl, hmq⟩ := hN.queue.form
  obtain ⟨Aa, ca, rfl, _⟩ := hN.apart.form
  rcases h : n.okB with _ | _
  · exact nSendV_1 n Aq _ cq Aa _ ca p Vd w D hDw hN hD (check_bad h) (by rw [Hid, sendT, if_neg (by rw [h]; simp)])
  · rcases hp : p.okB with _ | _
    · exact nSendV_2 n Aq _ cq Aa _ ca p Vd w D hDw hN hD (check_good h) hp (by rw [Hid, sendT, if_neg (by rw [hp]; simp)])
    · have hl : n.queue.length ≤ 4096 := by
        have := h
        simp only [Net.okB_eq, Bool.and_eq_true, decide_eq_true_eq] at this
        exact this.1
      by_cases h4 : n.queue.length = 4096
      · exact nSendV_3 n Aq _ cq Aa _ ca p Vd w D hDw hN hD (check_good h) hp (by simp [h4]) (by rw [Hid, sendT, if_pos ⟨h, hp⟩, if_pos h4])
      · have hs : sendT n p = (⟨n.queue ++ [p], n.apart⟩, 0) := by rw [sendT, if_pos ⟨h, hp⟩, if_neg h4]
        obtain ⟨_, _, hf, hc, hcm⟩ := hN.queue.clip
        rcases hf with ⟨h1, h2, h3⟩ | ⟨a, ha⟩
        · exact nSendV_4n n Aq _ cq Aa _ ca p Vd w D hDw hN hD (check_good h) hp rfl (by simp [h4]) (by omega) hs ⟨h1, h2, h3⟩
        · exact nSendV_4s n Aq _ cq Aa _ ca p Vd w D hDw hN hD (check_good h) hp rfl (by simp [h4]) (by omega) hs a ha (by omega) hcm
end
section
attribute [local go_sem ↓ high] app_named
set_option maxRecDepth 100000 in
set_option maxHeartbeats 4000000 in
theorem nWithoutV_1 (n : Net) (b off nq cq : Nat) (Aa : Option Addr) (na ca : Nat) (k : Nat) (w : World) (D : Nat) (hDw : D ≤ w.heap.size) (hN : Hid (NetAt w D (.slice (some ⟨b, off, none⟩) nq cq) (.slice Aa na ca) n)) (hnq : Hid (n.queue.length = nq)) (hk : k < nq) (_hcq : (nq : Int) ≤ (cq : Int)) (_hcm : cq ≤ 9223372036854775807) (hn4 : nq ≤ 4096) (_hc : k + 1 < cq) : Calls Try.prog 73 #[.agg #[.slice (some ⟨b, off, none⟩) nq cq, .slice Aa na ca], .int .i64 (k : Int)] w (RetN1V (n.without k) D (.slice Aa na ca) w) := by
  have X0 := (Box.new w [.slice (some ⟨b, off, none⟩) nq cq, .slice Aa na ca] 25).alloc (.cells #[.slice none 0 0, .slice none 0 0] 25)
  have R := Box.newAt (w := w.alloc (.cells #[.slice (some ⟨b, off, none⟩) nq cq, .slice Aa na ca] 25)) (n := w.heap.size + 1) [.slice none 0 0, .slice none 0 0] 25 (by simp)
  have hB := ((Below.refl w.heap.size w).alloc (Nat.le_refl _) (.cells #[.slice (some ⟨b, off, none⟩) nq cq, .slice Aa na ca] 25)).alloc (by simp) (.cells #[.slice none 0 0, .slice none 0 0] 25)
  have k1 : (0 : Int) ≤ (k : Int) := by omega
  have k2 : (k : Int) ≤ (cq : Int) := by omega
  have k3 : (k : Int) + 1 ≤ (nq : Int) := by omega
  have k4 : IntKind.i64.wrap ((k : Int) + 1) = (k : Int) + 1 := IntWalk.i64_in _ (by omega)
  have k5 : ((k : Int) + 1).toNat = k + 1 := by omega
  go_enter Try.func73, Try.ntmps73
  go_wp2_with fail
  generalize (w.alloc (.cells #[.slice (some ⟨b, off, none⟩) nq cq, .slice Aa na ca] 25)).alloc (.cells #[.slice none 0 0, .slice none 0 0] 25) = W at X0 R hB ⊢
  have y0 : W.cell? ⟨w.heap.size, 0, none⟩ = some (.slice (some ⟨b, off, none⟩) nq cq) := X0.cell 0
  have y1 : W.cell? ⟨w.heap.size, 1, none⟩ = some (.slice Aa na ca) := X0.cell 1
  have yf : W.frozen? ⟨w.heap.size, 0, none⟩ = false := X0.free 0
  have yz : w.heap.size < W.heap.size := X0.lt
  have hdr : Below w.heap.size w W.drew := hB.drew
  have hQ0 := (hN.out.below (hdr.mono hDw)).queue
  have hQ := hQ0.take (k := k) (by rw [hnq.out]; omega) (by simp only [maxLen]; omega)
  have hI : PksIn W.drew W.drew.heap.size D (.slice (some ⟨b, off + (k + 1) * 3, none⟩) (nq - (k + 1)) (cq - (k + 1))) (n.queue.drop (k + 1)) := by
    have h := (hQ0.drop (k := k + 1) (by rw [hnq.out]; omega) (by rw [hnq.out]; omega) (by simp only [maxLen]; omega)).within (Nat.le_trans hDw hdr.size)
    rw [hnq.out] at h
    exact h
  obtain ⟨A', n', c', w5, hrun0, hq5, hb5⟩ := run_app_pk 22 hQ hI (Nat.le_trans hDw hdr.size) (by simp only [List.length_take, List.length_drop, hnq.out]; omega) (by simp only [List.length_take, List.length_drop, hnq.out]; omega)
  have hrun : (appF #[22, 22] 22 #[.slice (some ⟨b, off, none⟩) k k, .slice (some ⟨b, off + (k + 1) * 3, none⟩) (nq - (k + 1)) (cq - (k + 1))]).run Try.prog W.drew = .ok (.slice A' n' c') w5 := hrun0
  have hB5 : Below w.heap.size w w5 := hdr.trans (hb5.mono hdr.size)
  have HQ5 := Lib.hid hq5
  have Y0 := X0.drew.later hb5
  have YR := R.drew.later hb5
  have hcur : w.heap.size + 1 < W.drew.heap.size := R.drew.lt
  clear hq5 hQ hQ0 hI hrun0 hb5
  have y5 : w5.cell? ⟨w.heap.size, 0, none⟩ = some (.slice (some ⟨b, off, none⟩) nq cq) := Y0.cell 0
  have y6 : w5.cell? ⟨w.heap.size, 1, none⟩ = some (.slice Aa na ca) := Y0.cell 1
  have y7 : w5.frozen? ⟨w.heap.size, 0, none⟩ = false := Y0.free 0
  have y8 : w.heap.size < w5.heap.size := Y0.lt
  have r0 : w5.cell? ⟨w.heap.size + 1, 0, none⟩ = some (.slice none 0 0) := YR.cell 0
  have r1 : w5.cell? ⟨w.heap.size + 1, 1, none⟩ = some (.slice none 0 0) := YR.cell 1
  have rf0 : w5.frozen? ⟨w.heap.size + 1, 0, none⟩ = false := YR.free 0
  have rf1 : w5.frozen? ⟨w.heap.size + 1, 1, none⟩ = false := YR.free 1
  have rz : w.heap.size + 1 < w5.heap.size := YR.lt
  go_region
  go_wp2
  have hne : w.heap.size + 1 ≠ w.heap.size := by omega
  have ZR := ((YR.other (a := ⟨w.heap.size, 0, none⟩) hne (.slice A' n' c')).set 0 (.slice A' n' c')).set 1 (.slice Aa na ca)
  have HB := ((hB5.setCell (p := ⟨w.heap.size, 0, none⟩) (Nat.le_refl _) (.slice A' n' c')).setCell (p := ⟨w.heap.size + 1, 0, none⟩) (by simp) (.slice A' n' c')).setCell (p := ⟨w.heap.size + 1, 1, none⟩) (by simp) (.slice Aa na ca)
  have HQ := ((HQ5.out.set (a := ⟨w.heap.size, 0, none⟩) hDw (by simp only []; omega) (.slice A' n' c')).set (a := ⟨w.heap.size + 1, 0, none⟩) (by simp; omega) (by simpa using hcur) (.slice A' n' c')).set (a := ⟨w.heap.size + 1, 1, none⟩) (by simp; omega) (by simpa using hcur) (.slice Aa na ca)
  generalize ((w5.setCell ⟨w.heap.size, 0, none⟩ (.slice A' n' c')).setCell ⟨w.heap.size + 1, 0, none⟩ (.slice A' n' c')).setCell ⟨w.heap.size + 1, 1, none⟩ (.slice Aa na ca) = W2 at ZR HB HQ ⊢
  have z0 : W2.cell? ⟨w.heap.size + 1, 0, none⟩ = some (.slice A' n' c') := ZR.cell 0
  have z1 : W2.cell? ⟨w.heap.size + 1, 1, none⟩ = some (.slice Aa na ca) := ZR.cell 1
  refine bodyPost_ret (v := .agg #[(.slice A' n' c'), .slice Aa na ca]) (by simp [results, Try.results73, go_sem, z0, z1]) rfl ?_
  exact ⟨_, _, rfl, ⟨HQ.lower (by first | exact hB.size | (simp; exact hB.size)), (hN.out.apart.below (HB.mono hDw)).two (Nat.le_trans hDw HB.size)⟩, HB, .inl rfl⟩
set_option maxRecDepth 100000 in
set_option maxHeartbeats 4000000 in
theorem nWithoutV_2 (n : Net) (b off nq : Nat) (Aa : Option Addr) (na ca : Nat) (k : Nat) (w : World) (D : Nat) (hDw : D ≤ w.heap.size) (hN : Hid (NetAt w D (.slice (some ⟨b, off, none⟩) nq (k + 1)) (.slice Aa na ca) n)) (hnq : Hid (n.queue.length = nq)) (hk : k < nq) (_hcq : (nq : Int) ≤ (k : Int) + 1) (hn4 : nq ≤ 4096) : Calls Try.prog 73 #[.agg #[.slice (some ⟨b, off, none⟩) nq (k + 1), .slice Aa na ca], .int .i64 (k : Int)] w (RetN1V (n.without k) D (.slice Aa na ca) w) := by
  have X0 := (Box.new w [.slice (some ⟨b, off, none⟩) nq (k + 1), .slice Aa na ca] 25).alloc (.cells #[.slice none 0 0, .slice none 0 0] 25)
  have R := Box.newAt (w := w.alloc (.cells #[.slice (some ⟨b, off, none⟩) nq (k + 1), .slice Aa na ca] 25)) (n := w.heap.size + 1) [.slice none 0 0, .slice none 0 0] 25 (by simp)
  have hB := ((Below.refl w.heap.size w).alloc (Nat.le_refl _) (.cells #[.slice (some ⟨b, off, none⟩) nq (k + 1), .slice Aa na ca] 25)).alloc (by simp) (.cells #[.slice none 0 0, .slice none 0 0] 25)
  have k1 : (0 : Int) ≤ (k : Int) := by omega
  have k2 : (k : Int) ≤ (k : Int) + 1 := by omega
  have k3 : (k : Int) + 1 ≤ (nq : Int) := by omega
  have k4 : IntKind.i64.wrap ((k : Int) + 1) = (k : Int) + 1 := IntWalk.i64_in _ (by omega)
  have k5 : ((k : Int) + 1).toNat = k + 1 := by omega
  go_enter Try.func73, Try.ntmps73
  go_wp2_with fail
  generalize (w.alloc (.cells #[.slice (some ⟨b, off, none⟩) nq (k + 1), .slice Aa na ca] 25)).alloc (.cells #[.slice none 0 0, .slice none 0 0] 25) = W at X0 R hB ⊢
  have y0 : W.cell? ⟨w.heap.size, 0, none⟩ = some (.slice (some ⟨b, off, none⟩) nq (k + 1)) := X0.cell 0
  have y1 : W.cell? ⟨w.heap.size, 1, none⟩ = some (.slice Aa na ca) := X0.cell 1
  have yf : W.frozen? ⟨w.heap.size, 0, none⟩ = false := X0.free 0
  have yz : w.heap.size < W.heap.size := X0.lt
  have hdr : Below w.heap.size w W.drew := hB.drew
  have hQ0 := (hN.out.below (hdr.mono hDw)).queue
  have hQ := hQ0.take (k := k) (by rw [hnq.out]; omega) (by simp only [maxLen]; omega)
  have hI : PksIn W.drew W.drew.heap.size D (.slice (some ⟨b, off, none⟩) (nq - (k + 1)) 0) (n.queue.drop (k + 1)) := by
    have h := (PksAt.none_left hQ0).within (Nat.le_trans hDw hdr.size)
    have e0 : nq - (k + 1) = 0 := by omega
    have e1 : n.queue.drop (k + 1) = [] := List.drop_eq_nil_of_le (by rw [hnq.out]; omega)
    rw [e0, e1]
    exact h
  obtain ⟨A', n', c', w5, hrun0, hq5, hb5⟩ := run_app_pk 22 hQ hI (Nat.le_trans hDw hdr.size) (by simp only [List.length_take, List.length_drop, hnq.out]; omega) (by simp only [List.length_take, List.length_drop, hnq.out]; omega)
  have hrun : (appF #[22, 22] 22 #[.slice (some ⟨b, off, none⟩) k k, .slice (some ⟨b, off, none⟩) (nq - (k + 1)) 0]).run Try.prog W.drew = .ok (.slice A' n' c') w5 := hrun0
  have hB5 : Below w.heap.size w w5 := hdr.trans (hb5.mono hdr.size)
  have HQ5 := Lib.hid hq5
  have Y0 := X0.drew.later hb5
  have YR := R.drew.later hb5
  have hcur : w.heap.size + 1 < W.drew.heap.size := R.drew.lt
  clear hq5 hQ hQ0 hI hrun0 hb5
  have y5 : w5.cell? ⟨w.heap.size, 0, none⟩ = some (.slice (some ⟨b, off, none⟩) nq (k + 1)) := Y0.cell 0
  have y6 : w5.cell? ⟨w.heap.size, 1, none⟩ = some (.slice Aa na ca) := Y0.cell 1
  have y7 : w5.frozen? ⟨w.heap.size, 0, none⟩ = false := Y0.free 0
  have y8 : w.heap.size < w5.heap.size := Y0.lt
  have r0 : w5.cell? ⟨w.heap.size + 1, 0, none⟩ = some (.slice none 0 0) := YR.cell 0
  have r1 : w5.cell? ⟨w.heap.size + 1, 1, none⟩ = some (.slice none 0 0) := YR.cell 1
  have rf0 : w5.frozen? ⟨w.heap.size + 1, 0, none⟩ = false := YR.free 0
  have rf1 : w5.frozen? ⟨w.heap.size + 1, 1, none⟩ = false := YR.free 1
  have rz : w.heap.size + 1 < w5.heap.size := YR.lt
  go_region
  go_wp2
  have hne : w.heap.size + 1 ≠ w.heap.size := by omega
  have ZR := ((YR.other (a := ⟨w.heap.size, 0, none⟩) hne (.slice A' n' c')).set 0 (.slice A' n' c')).set 1 (.slice Aa na ca)
  have HB := ((hB5.setCell (p := ⟨w.heap.size, 0, none⟩) (Nat.le_refl _) (.slice A' n' c')).setCell (p := ⟨w.heap.size + 1, 0, none⟩) (by simp) (.slice A' n' c')).setCell (p := ⟨w.heap.size + 1, 1, none⟩) (by simp) (.slice Aa na ca)
  have HQ := ((HQ5.out.set (a := ⟨w.heap.size, 0, none⟩) hDw (by simp only []; omega) (.slice A' n' c')).set (a := ⟨w.heap.size + 1, 0, none⟩) (by simp; omega) (by simpa using hcur) (.slice A' n' c')).set (a := ⟨w.heap.size + 1, 1, none⟩) (by simp; omega) (by simpa using hcur) (.slice Aa na ca)
  generalize ((w5.setCell ⟨w.heap.size, 0, none⟩ (.slice A' n' c')).setCell ⟨w.heap.size + 1, 0, none⟩ (.slice A' n' c')).setCell ⟨w.heap.size + 1, 1, none⟩ (.slice Aa na ca) = W2 at ZR HB HQ ⊢
  have z0 : W2.cell? ⟨w.heap.size + 1, 0, none⟩ = some (.slice A' n' c') := ZR.cell 0
  have z1 : W2.cell? ⟨w.heap.size + 1, 1, none⟩ = some (.slice Aa na ca) := ZR.cell 1
  refine bodyPost_ret (v := .agg #[(.slice A' n' c'), .slice Aa na ca]) (by simp [results, Try.results73, go_sem, z0, z1]) rfl ?_
  exact ⟨_, _, rfl, ⟨HQ.lower (by first | exact hB.size | (simp; exact hB.size)), (hN.out.apart.below (HB.mono hDw)).two (Nat.le_trans hDw HB.size)⟩, HB, .inl rfl⟩
theorem nWithoutV_any (n : Net) (Vq Va : Value) (k : Nat) (w : World) (D : Nat) (hDw : D ≤ w.heap.size) (hN : NetAt w D Vq Va n) (hk : k < n.queue.length) (h4 : n.queue.length ≤ 4096) : Calls Try.prog 73 #[.agg #[Vq, Va], .int .i64 (k : Int)] w (RetN1V (n.without k) D Va w) := by
  obtain ⟨Aq, cq, rfl, hmq⟩ := hN.queue.form
  obtain ⟨Aa, ca, rfl, _⟩ := hN.apart.form
  obtain ⟨_, _, hf, hc, hcm⟩ := hN.queue.clip
  obtain ⟨b, off, rfl⟩ : ∃ b off, Aq = some ⟨b, off, none⟩ := hN.queue.addr hk
  unfold maxLen at hcm
  rcases Nat.lt_or_ge (k + 1) cq with h | h
  · exact nWithoutV_1 n b off _ cq Aa _ ca k w D hDw hN rfl hk (by omega) hcm h4 h
  · obtain rfl : cq = k + 1 := by omega
    exact nWithoutV_2 n b off _ Aa _ ca k w D hDw hN rfl hk (by omega) h4
end
section
set_option maxRecDepth 100000 in
set_option maxHeartbeats 4000000 in
theorem nLoseV_1 (n : Net) (Aq : Option Addr) (nq cq : Nat) (Aa : Option Addr) (na ca : Nat) (i : Int) (w : World) (D : Nat) (hDw : D ≤ w.heap.size) (hN : Hid (NetAt w D (.slice Aq nq cq) (.slice Aa na ca) n)) (c : Int) (h : Hid (askTN n i = c)) (hc : (c != 0) = true) (hs : Hid (loseT n i = (Net.zero, c))) : Calls Try.prog 77 #[.agg #[.slice Aq nq cq, .slice Aa na ca], .int .i64 i] w (RetNetV (loseT n i) D (.slice Aa na ca) w) := by
  have HB0 : Below w.heap.size w ((w.alloc (.cells #[.slice Aq nq cq, .slice Aa na ca] 25)).alloc (.cells #[.slice none 0 0, .slice none 0 0] 25)) := (((Below.refl w.heap.size w).alloc (by simp <;> omega) (.cells #[.slice Aq nq cq, .slice Aa na ca] 25)).alloc (by simp <;> omega) (.cells #[.slice none 0 0, .slice none 0 0] 25))
  have HNB := Lib.hid (hN.out.below (HB0.mono hDw))
  have HDB := Nat.le_trans hDw HB0.size
  go_enter Try.func77, Try.ntmps77
  go_wp2_with fail
  refine (nAt_err h HDB HNB.out).mono ?_
  rintro e w1 ⟨_, _, _, _, _, rfl, hb⟩
  have X0 := (((Box.newAt (n := w.heap.size) [.slice Aq nq cq, .slice Aa na ca] 25 (by simp)).alloc _)).later hb
  have R := ((Box.newAt (n := w.heap.size + 1) [.slice none 0 0, .slice none 0 0] 25 (by simp))).later hb
  have hB : Below w.heap.size w w1 := ((((Below.refl w.heap.size w).alloc (by simp <;> omega) _).alloc (by simp <;> omega) _)).trans (hb.mono (by simp <;> omega))
  clear hb
  have Rc0 : w1.cell? ⟨w.heap.size + 1, 0, none⟩ = some (.slice none 0 0) := R.cell 0
  have Rf0 : w1.frozen? ⟨w.heap.size + 1, 0, none⟩ = false := R.free 0
  have Rc1 : w1.cell? ⟨w.heap.size + 1, 1, none⟩ = some (.slice none 0 0) := R.cell 1
  have Rf1 : w1.frozen? ⟨w.heap.size + 1, 1, none⟩ = false := R.free 1
  have Rz : w.heap.size + 1 < w1.heap.size := R.lt
  have hle : w.heap.size ≤ w.heap.size + 1 := by omega
  have hres := hs
  go_wp2
  have hY := ((R.set 0 (.slice none 0 0)).set 1 (.slice none 0 0))
  have hB := ((hB.setCell (p := ⟨w.heap.size + 1, 0, none⟩) (by simp <;> omega) (.slice none 0 0)).setCell (p := ⟨w.heap.size + 1, 1, none⟩) (by simp <;> omega) (.slice none 0 0))
  generalize ((w1.setCell ⟨w.heap.size + 1, 0, none⟩ (.slice none 0 0)).setCell ⟨w.heap.size + 1, 1, none⟩ (.slice none 0 0)) = W at hY hB ⊢
  have y0 : W.cell? ⟨w.heap.size + 1, 0, none⟩ = some (.slice none 0 0) := hY.cell 0
  have y1 : W.cell? ⟨w.heap.size + 1, 1, none⟩ = some (.slice none 0 0) := hY.cell 1
  refine bodyPost_ret (v := .tuple #[.agg #[.slice none 0 0, .slice none 0 0], .int .i64 c]) (by simp [results, Try.results77, go_sem, y0, y1]) rfl ?_
  exact ⟨_, _, Net.zero, c, rfl, hres, net2_zero _ _ _, hB, .inr rfl⟩
set_option maxRecDepth 100000 in
set_option maxHeartbeats 4000000 in
theorem nLoseV_2 (n : Net) (Aq : Option Addr) (nq cq : Nat) (Aa : Option Addr) (na ca : Nat) (i : Int) (w : World) (D : Nat) (hDw : D ≤ w.heap.size) (hN : Hid (NetAt w D (.slice Aq nq cq) (.slice Aa na ca) n)) (k : Nat) (_hk : i = (k : Int)) (hkn : k < n.queue.length) (h4 : n.queue.length ≤ 4096) (h : Hid (askTN n i = 0)) (hs : Hid (loseT n i = (n.without k, 0))) : Calls Try.prog 77 #[.agg #[.slice Aq nq cq, .slice Aa na ca], .int .i64 i] w (RetNetV (loseT n i) D (.slice Aa na ca) w) := by
  subst _hk
  have HB0 : Below w.heap.size w ((w.alloc (.cells #[.slice Aq nq cq, .slice Aa na ca] 25)).alloc (.cells #[.slice none 0 0, .slice none 0 0] 25)) := (((Below.refl w.heap.size w).alloc (by simp <;> omega) (.cells #[.slice Aq nq cq, .slice Aa na ca] 25)).alloc (by simp <;> omega) (.cells #[.slice none 0 0, .slice none 0 0] 25))
  have HNB := Lib.hid (hN.out.below (HB0.mono hDw))
  have HDB := Nat.le_trans hDw HB0.size
  go_enter Try.func77, Try.ntmps77
  go_wp2_with fail
  refine (nAt_err h HDB HNB.out).mono ?_
  rintro e w1 ⟨_, _, _, _, _, rfl, hb⟩
  have X0 := (((Box.newAt (n := w.heap.size) [.slice Aq nq cq, .slice Aa na ca] 25 (by simp)).alloc _)).later hb
  have R := ((Box.newAt (n := w.heap.size + 1) [.slice none 0 0, .slice none 0 0] 25 (by simp))).later hb
  have hB : Below w.heap.size w w1 := ((((Below.refl w.heap.size w).alloc (by simp <;> omega) _).alloc (by simp <;> omega) _)).trans (hb.mono (by simp <;> omega))
  clear hb
  have kb := hB.size
  have kc : w.heap.size + 1 < w1.heap.size := R.lt
  have X0c0 : w1.cell? ⟨w.heap.size, 0, none⟩ = some (.slice Aq nq cq) := X0.cell 0
  have X0f0 : w1.frozen? ⟨w.heap.size, 0, none⟩ = false := X0.free 0
  have X0c1 : w1.cell? ⟨w.heap.size, 1, none⟩ = some (.slice Aa na ca) := X0.cell 1
  have X0f1 : w1.frozen? ⟨w.heap.size, 1, none⟩ = false := X0.free 1
  have X0z : w.heap.size < w1.heap.size := X0.lt
  go_wp2_with fail
  refine (((nWithoutV_any n _ _ k w1 D (Nat.le_trans hDw hB.size) (hN.out.below (hB.mono hDw)) hkn h4).mono fun _ _ h => h.sl)).mono ?_
  rintro e w2 ⟨A1, n1, c1, A2, n2, c2, rfl, HN2, hb, hv⟩
  clear X0c0 X0f0 X0c1 X0f1 X0z
  have X0 := X0.later hb
  have R := R.later hb
  have hB := hB.trans (hb.mono hB.size)
  clear hb
  have Rc0 : w2.cell? ⟨w.heap.size + 1, 0, none⟩ = some (.slice none 0 0) := R.cell 0
  have Rf0 : w2.frozen? ⟨w.heap.size + 1, 0, none⟩ = false := R.free 0
  have Rc1 : w2.cell? ⟨w.heap.size + 1, 1, none⟩ = some (.slice none 0 0) := R.cell 1
  have Rf1 : w2.frozen? ⟨w.heap.size + 1, 1, none⟩ = false := R.free 1
  have Rz : w.heap.size + 1 < w2.heap.size := R.lt
  go_wp2
  have ZR := (R.set 0 (.slice A1 n1 c1)).set 1 (.slice A2 n2 c2)
  have HB := (hB.setCell (p := ⟨w.heap.size + 1, 0, none⟩) (by simp) (.slice A1 n1 c1)).setCell (p := ⟨w.heap.size + 1, 1, none⟩) (by simp) (.slice A2 n2 c2)
  have HQ := (HN2.out.set (a := ⟨w.heap.size + 1, 0, none⟩) (by simp; omega) kc (.slice A1 n1 c1)).set (a := ⟨w.heap.size + 1, 1, none⟩) (by simp; omega) kc (.slice A2 n2 c2)
  have hres := hs
  generalize (w2.setCell ⟨w.heap.size + 1, 0, none⟩ (.slice A1 n1 c1)).setCell ⟨w.heap.size + 1, 1, none⟩ (.slice A2 n2 c2) = W at ZR HB HQ ⊢
  have z0 : W.cell? ⟨w.heap.size + 1, 0, none⟩ = some (.slice A1 n1 c1) := ZR.cell 0
  have z1 : W.cell? ⟨w.heap.size + 1, 1, none⟩ = some (.slice A2 n2 c2) := ZR.cell 1
  refine bodyPost_ret (v := .tuple #[.agg #[(.slice A1 n1 c1), (.slice A2 n2 c2)], .int .i64 0]) (by simp [results, Try.results77, go_sem, z0, z1]) rfl ?_
  exact ⟨_, _, _, 0, rfl, hres, HQ.lower kb, HB, hv⟩
theorem nLoseV_any (n : Net) (Vq Va : Value) (i : Int) (w : World) (D : Nat) (hDw : D ≤ w.heap.size) (hN : NetAt w D Vq Va n) : Calls Try.prog 77 #[.agg #[Vq, Va], .int .i64 i] w (RetNetV (loseT n i) D Va w) := by
  obtain ⟨Aq, cq, rfl, hmq⟩ := hN.queue.form
  obtain ⟨Aa, ca, rfl, _⟩ := hN.apart.form
  rcases ask_ways n i with ⟨c, h, hc⟩ | ⟨k, rfl, hk, h4, h⟩
  · exact nLoseV_1 n Aq _ cq Aa _ ca i w D hDw hN c h hc (by rw [Hid, loseT, if_neg (by rw [h]; simpa using hc), h])
  · exact nLoseV_2 n Aq _ cq Aa _ ca _ w D hDw hN k rfl hk h4 h (by rw [Hid, loseT, if_pos h]; rfl)
set_option maxRecDepth 100000 in
set_option maxHeartbeats 4000000 in
theorem nRepeatV_1 (n : Net) (Aq : Option Addr) (nq cq : Nat) (Aa : Option Addr) (na ca : Nat) (i : Int) (w : World) (D : Nat) (hDw : D ≤ w.heap.size) (hN : Hid (NetAt w D (.slice Aq nq cq) (.slice Aa na ca) n)) (c : Int) (h : Hid (askTN n i = c)) (hc : (c != 0) = true) (hs : Hid (repeatT n i = (Net.zero, c))) : Calls Try.prog 66 #[.agg #[.slice Aq nq cq, .slice Aa na ca], .int .i64 i] w (RetNetV (repeatT n i) D (.slice Aa na ca) w) := by
  have HB0 : Below w.heap.size w ((w.alloc (.cells #[.slice Aq nq cq, .slice Aa na ca] 25)).alloc (.cells #[.slice none 0 0, .slice none 0 0] 25)) := (((Below.refl w.heap.size w).alloc (by simp <;> omega) (.cells #[.slice Aq nq cq, .slice Aa na ca] 25)).alloc (by simp <;> omega) (.cells #[.slice none 0 0, .slice none 0 0] 25))
  have HNB := Lib.hid (hN.out.below (HB0.mono hDw))
  have HDB := Nat.le_trans hDw HB0.size
  go_enter Try.func66, Try.ntmps66
  go_wp2_with fail
  refine (nAt_err h HDB HNB.out).mono ?_
  rintro e w1 ⟨a1, a2, Ad, dn, dc, rfl, hb⟩
  have X0 := (((Box.newAt (n := w.heap.size) [.slice Aq nq cq, .slice Aa na ca] 25 (by simp)).alloc _)).later hb
  have R := ((Box.newAt (n := w.heap.size + 1) [.slice none 0 0, .slice none 0 0] 25 (by simp))).later hb
  have hB : Below w.heap.size w w1 := ((((Below.refl w.heap.size w).alloc (by simp <;> omega) _).alloc (by simp <;> omega) _)).trans (hb.mono (by simp <;> omega))
  clear hb
  have Rc0 : w1.cell? ⟨w.heap.size + 1, 0, none⟩ = some (.slice none 0 0) := R.cell 0
  have Rf0 : w1.frozen? ⟨w.heap.size + 1, 0, none⟩ = false := R.free 0
  have Rc1 : w1.cell? ⟨w.heap.size + 1, 1, none⟩ = some (.slice none 0 0) := R.cell 1
  have Rf1 : w1.frozen? ⟨w.heap.size + 1, 1, none⟩ = false := R.free 1
  have Rz : w.heap.size + 1 < w1.heap.size := R.lt
  have hle : w.heap.size ≤ w.heap.size + 1 := by omega
  have hres := hs
  go_wp2
  have ZR := ((R.set 0 (.slice none 0 0)).set 1 (.slice none 0 0)).alloc (.cells #[.int .i64 a1, .int .i64 a2, .slice Ad dn dc] 51)
  have HB := ((hB.setCell (p := ⟨w.heap.size + 1, 0, none⟩) (by simp) (.slice none 0 0)).setCell (p := ⟨w.heap.size + 1, 1, none⟩) (by simp) (.slice none 0 0)).alloc (by have := hB.size; simp; omega) (.cells #[.int .i64 a1, .int .i64 a2, .slice Ad dn dc] 51)
  generalize ((w1.setCell ⟨w.heap.size + 1, 0, none⟩ (.slice none 0 0)).setCell ⟨w.heap.size + 1, 1, none⟩ (.slice none 0 0)).alloc (.cells #[.int .i64 a1, .int .i64 a2, .slice Ad dn dc] 51) = W at ZR HB ⊢
  have z0 : W.cell? ⟨w.heap.size + 1, 0, none⟩ = some (.slice none 0 0) := ZR.cell 0
  have z1 : W.cell? ⟨w.heap.size + 1, 1, none⟩ = some (.slice none 0 0) := ZR.cell 1
  refine bodyPost_ret (v := .tuple #[.agg #[(.slice none 0 0), (.slice none 0 0)], .int .i64 c]) (by simp [results, Try.results66, go_sem, z0, z1]) rfl ?_
  exact ⟨_, _, Net.zero, c, rfl, hres, net2_zero _ _ _, HB, .inr rfl⟩
set_option maxRecDepth 100000 in
set_option maxHeartbeats 4000000 in
theorem nRepeatV_2 (n : Net) (Aq : Option Addr) (nq cq : Nat) (Aa : Option Addr) (na ca : Nat) (i : Int) (w : World) (D : Nat) (hDw : D ≤ w.heap.size) (hN : Hid (NetAt w D (.slice Aq nq cq) (.slice Aa na ca) n)) (h : Hid (askTN n i = 0)) (hs : Hid (repeatT n i = sendT n (n.pk i))) : Calls Try.prog 66 #[.agg #[.slice Aq nq cq, .slice Aa na ca], .int .i64 i] w (RetNetV (repeatT n i) D (.slice Aa na ca) w) := by
  have HB0 : Below w.heap.size w ((w.alloc (.cells #[.slice Aq nq cq, .slice Aa na ca] 25)).alloc (.cells #[.slice none 0 0, .slice none 0 0] 25)) := (((Below.refl w.heap.size w).alloc (by simp <;> omega) (.cells #[.slice Aq nq cq, .slice Aa na ca] 25)).alloc (by simp <;> omega) (.cells #[.slice none 0 0, .slice none 0 0] 25))
  have HNB := Lib.hid (hN.out.below (HB0.mono hDw))
  have HDB := Nat.le_trans hDw HB0.size
  go_enter Try.func66, Try.ntmps66
  go_wp2_with fail
  refine (nAt_ok h HDB HNB.out).mono ?_
  rintro e w1 ⟨Ad, dn, dc, rfl, hV, hb⟩
  have X0 := (((Box.newAt (n := w.heap.size) [.slice Aq nq cq, .slice Aa na ca] 25 (by simp)).alloc _)).later hb
  have R := ((Box.newAt (n := w.heap.size + 1) [.slice none 0 0, .slice none 0 0] 25 (by simp))).later hb
  have hB : Below w.heap.size w w1 := ((((Below.refl w.heap.size w).alloc (by simp <;> omega) _).alloc (by simp <;> omega) _)).trans (hb.mono (by simp <;> omega))
  clear hb
  have hBP := hB.alloc hB.size (.cells #[.int .i64 (n.pk i).src, .int .i64 (n.pk i).dst, .slice Ad dn dc] 51)
  have hVP := Lib.hid (hV.out.below ((Below.refl w1.heap.size w1).alloc (Nat.le_refl _) (.cells #[.int .i64 (n.pk i).src, .int .i64 (n.pk i).dst, .slice Ad dn dc] 51) |>.mono (Nat.le_trans hDw hB.size)))
  have kb := hBP.size
  have kc : w.heap.size + 1 < (w1.alloc (.cells #[.int .i64 (n.pk i).src, .int .i64 (n.pk i).dst, .slice Ad dn dc] 51)).heap.size := (R.alloc (.cells #[.int .i64 (n.pk i).src, .int .i64 (n.pk i).dst, .slice Ad dn dc] 51)).lt
  have X0c0 : w1.cell? ⟨w.heap.size, 0, none⟩ = some (.slice Aq nq cq) := X0.cell 0
  have X0f0 : w1.frozen? ⟨w.heap.size, 0, none⟩ = false := X0.free 0
  have X0c1 : w1.cell? ⟨w.heap.size, 1, none⟩ = some (.slice Aa na ca) := X0.cell 1
  have X0f1 : w1.frozen? ⟨w.heap.size, 1, none⟩ = false := X0.free 1
  have X0z : w.heap.size < w1.heap.size := X0.lt
  go_wp2_with fail
  refine (((nSendV_any n _ _ (n.pk i) _ (w1.alloc (.cells #[.int .i64 (n.pk i).src, .int .i64 (n.pk i).dst, .slice Ad dn dc] 51)) D (Nat.le_trans hDw kb) (hN.out.below (hBP.mono hDw)) hVP.out).mono fun _ _ h => h.sl)).mono ?_
  rintro e w2 ⟨A1, n1, c1, A2, n2, c2, m, er, rfl, ht, HN2, hb, hv⟩
  clear X0c0 X0f0 X0c1 X0f1 X0z
  have P := ((Box.newAt (w := w1) (n := w1.heap.size) [.int .i64 (n.pk i).src, .int .i64 (n.pk i).dst, .slice Ad dn dc] 51 (by simp))).later hb
  have X0 := ((X0.alloc (.cells #[.int .i64 (n.pk i).src, .int .i64 (n.pk i).dst, .slice Ad dn dc] 51))).later hb
  have R := ((R.alloc (.cells #[.int .i64 (n.pk i).src, .int .i64 (n.pk i).dst, .slice Ad dn dc] 51))).later hb
  have hB := (hB.alloc hB.size (.cells #[.int .i64 (n.pk i).src, .int .i64 (n.pk i).dst, .slice Ad dn dc] 51)).trans (hb.mono (by have := hB.size; simp; omega))
  clear hb
  have Rc0 : w2.cell? ⟨w.heap.size + 1, 0, none⟩ = some (.slice none 0 0) := R.cell 0
  have Rf0 : w2.frozen? ⟨w.heap.size + 1, 0, none⟩ = false := R.free 0
  have Rc1 : w2.cell? ⟨w.heap.size + 1, 1, none⟩ = some (.slice none 0 0) := R.cell 1
  have Rf1 : w2.frozen? ⟨w.heap.size + 1, 1, none⟩ = false := R.free 1
  have Rz : w.heap.size + 1 < w2.heap.size := R.lt
  go_wp2
  have ZR := (R.set 0 (.slice A1 n1 c1)).set 1 (.slice A2 n2 c2)
  have HB := (hB.setCell (p := ⟨w.heap.size + 1, 0, none⟩) (by simp) (.slice A1 n1 c1)).setCell (p := ⟨w.heap.size + 1, 1, none⟩) (by simp) (.slice A2 n2 c2)
  have HQ := (HN2.out.set (a := ⟨w.heap.size + 1, 0, none⟩) (by simp; omega) kc (.slice A1 n1 c1)).set (a := ⟨w.heap.size + 1, 1, none⟩) (by simp; omega) kc (.slice A2 n2 c2)
  have hres := hs
  generalize (w2.setCell ⟨w.heap.size + 1, 0, none⟩ (.slice A1 n1 c1)).setCell ⟨w.heap.size + 1, 1, none⟩ (.slice A2 n2 c2) = W at ZR HB HQ ⊢
  have z0 : W.cell? ⟨w.heap.size + 1, 0, none⟩ = some (.slice A1 n1 c1) := ZR.cell 0
  have z1 : W.cell? ⟨w.heap.size + 1, 1, none⟩ = some (.slice A2 n2 c2) := ZR.cell 1
  refine bodyPost_ret (v := .tuple #[.agg #[(.slice A1 n1 c1), (.slice A2 n2 c2)], .int .i64 er]) (by simp [results, Try.results66, go_sem, z0, z1]) rfl ?_
  exact ⟨_, _, _, er, rfl, hres.trans ht, HQ.lower kb, HB, hv⟩
theorem nRepeatV_any (n : Net) (Vq Va : Value) (i : Int) (w : World) (D : Nat) (hDw : D ≤ w.heap.size) (hN : NetAt w D Vq Va n) : Calls Try.prog 66 #[.agg #[Vq, Va], .int .i64 i] w (RetNetV (repeatT n i) D Va w) := by
  obtain ⟨Aq, cq, rfl, hmq⟩ := hN.queue.form
  obtain ⟨Aa, ca, rfl, _⟩ := hN.apart.form
  rcases ask_ways n i with ⟨c, h, hc⟩ | ⟨k, rfl, hk, h4, h⟩
  · exact nRepeatV_1 n Aq _ cq Aa _ ca i w D hDw hN c h hc (by rw [Hid, repeatT, if_neg (by rw [h]; simpa using hc), h])
  · exact nRepeatV_2 n Aq _ cq Aa _ ca _ w D hDw hN h (by rw [Hid, repeatT, if_pos h])
end
section
set_option maxRecDepth 100000 in
set_option maxHeartbeats 4000000 in
theorem nDeliverV_1 (n : Net) (Aq : Option Addr) (nq cq : Nat) (Aa : Option Addr) (na ca : Nat) (i : Int) (w : World) (D : Nat) (hDw : D ≤ w.heap.size) (hN : Hid (NetAt w D (.slice Aq nq cq) (.slice Aa na ca) n)) (c : Int) (h : Hid (askTN n i = c)) (hc : (c != 0) = true) (hs : Hid (deliverT n i = (Pk.zero, Net.zero, c))) : Calls Try.prog 47 #[.agg #[.slice Aq nq cq, .slice Aa na ca], .int .i64 i] w (RetDelV (deliverT n i) D (.slice Aa na ca) w) := by
  have HB0 : Below w.heap.size w (((w.alloc (.cells #[.slice Aq nq cq, .slice Aa na ca] 25)).alloc (.cells #[.int .i64 0, .int .i64 0, .slice none 0 0] 51)).alloc (.cells #[.slice none 0 0, .slice none 0 0] 25)) := ((((Below.refl w.heap.size w).alloc (by simp <;> omega) (.cells #[.slice Aq nq cq, .slice Aa na ca] 25)).alloc (by simp <;> omega) (.cells #[.int .i64 0, .int .i64 0, .slice none 0 0] 51)).alloc (by simp <;> omega) (.cells #[.slice none 0 0, .slice none 0 0] 25))
  have HNB := Lib.hid (hN.out.below (HB0.mono hDw))
  have HDB := Nat.le_trans hDw HB0.size
  have nX0P : w.heap.size ≠ w.heap.size + 1 := by omega
  have nX0R : w.heap.size ≠ w.heap.size + 1 + 1 := by omega
  have nPX0 : w.heap.size + 1 ≠ w.heap.size := by omega
  have nPR : w.heap.size + 1 ≠ w.heap.size + 1 + 1 := by omega
  have nRX0 : w.heap.size + 1 + 1 ≠ w.heap.size := by omega
  have nRP : w.heap.size + 1 + 1 ≠ w.heap.size + 1 := by omega
  have gP : w.heap.size ≤ w.heap.size + 1 := by omega
  have gR : w.heap.size ≤ w.heap.size + 1 + 1 := by omega
  go_enter Try.func47, Try.ntmps47
  go_wp2_with fail
  refine (nAt_bad h hc HDB HNB.out).mono ?_
  rintro e w1 ⟨Ad, dc, rfl, hV, hb⟩
  have X0 := ((((Box.newAt (n := w.heap.size) [.slice Aq nq cq, .slice Aa na ca] 25 (by simp)).alloc _).alloc _)).later hb
  have P := (((Box.newAt (n := w.heap.size + 1) [.int .i64 0, .int .i64 0, .slice none 0 0] 51 (by simp)).alloc _)).later hb
  have R := ((Box.newAt (n := w.heap.size + 1 + 1) [.slice none 0 0, .slice none 0 0] 25 (by simp))).later hb
  have hB : Below w.heap.size w w1 := (((((Below.refl w.heap.size w).alloc (by simp <;> omega) _).alloc (by simp <;> omega) _).alloc (by simp <;> omega) _)).trans (hb.mono (by simp <;> omega))
  clear hb
  have Pc0 : w1.cell? ⟨w.heap.size + 1, 0, none⟩ = some (.int .i64 0) := P.cell 0
  have Pf0 : w1.frozen? ⟨w.heap.size + 1, 0, none⟩ = false := P.free 0
  have Pc1 : w1.cell? ⟨w.heap.size + 1, 1, none⟩ = some (.int .i64 0) := P.cell 1
  have Pf1 : w1.frozen? ⟨w.heap.size + 1, 1, none⟩ = false := P.free 1
  have Pc2 : w1.cell? ⟨w.heap.size + 1, 2, none⟩ = some (.slice none 0 0) := P.cell 2
  have Pf2 : w1.frozen? ⟨w.heap.size + 1, 2, none⟩ = false := P.free 2
  have Pz : w.heap.size + 1 < w1.heap.size := P.lt
  have Rc0 : w1.cell? ⟨w.heap.size + 1 + 1, 0, none⟩ = some (.slice none 0 0) := R.cell 0
  have Rf0 : w1.frozen? ⟨w.heap.size + 1 + 1, 0, none⟩ = false := R.free 0
  have Rc1 : w1.cell? ⟨w.heap.size + 1 + 1, 1, none⟩ = some (.slice none 0 0) := R.cell 1
  have Rf1 : w1.frozen? ⟨w.heap.size + 1 + 1, 1, none⟩ = false := R.free 1
  have Rz : w.heap.size + 1 + 1 < w1.heap.size := R.lt
  go_wp2_with fail
  have hV := (((hV.out.set1 (a := ⟨w.heap.size + 1, 0, none⟩) (by simp; omega) (.int .i64 0)).set1 (a := ⟨w.heap.size + 1, 1, none⟩) (by simp; omega) (.int .i64 0)).set1 (a := ⟨w.heap.size + 1, 2, none⟩) (by simp; omega) (.slice Ad 0 dc))
  revert hV
  clear Pc0 Pf0 Pc1 Pf1 Pc2 Pf2 Pz Rc0 Rf0 Rc1 Rf1 Rz
  have X0 := (((X0.other (a := ⟨w.heap.size + 1, 0, none⟩) nX0P (.int .i64 0)).other (a := ⟨w.heap.size + 1, 1, none⟩) nX0P (.int .i64 0)).other (a := ⟨w.heap.size + 1, 2, none⟩) nX0P (.slice Ad 0 dc))
  have P := (((P.set 0 (.int .i64 0)).set 1 (.int .i64 0)).set 2 (.slice Ad 0 dc))
  have R := (((R.other (a := ⟨w.heap.size + 1, 0, none⟩) nRP (.int .i64 0)).other (a := ⟨w.heap.size + 1, 1, none⟩) nRP (.int .i64 0)).other (a := ⟨w.heap.size + 1, 2, none⟩) nRP (.slice Ad 0 dc))
  have hB := (((hB.setCell (p := ⟨w.heap.size + 1, 0, none⟩) gP (.int .i64 0)).setCell (p := ⟨w.heap.size + 1, 1, none⟩) gP (.int .i64 0)).setCell (p := ⟨w.heap.size + 1, 2, none⟩) gP (.slice Ad 0 dc))
  generalize (((w1.setCell ⟨w.heap.size + 1, 0, none⟩ (.int .i64 0)).setCell ⟨w.heap.size + 1, 1, none⟩ (.int .i64 0)).setCell ⟨w.heap.size + 1, 2, none⟩ (.slice Ad 0 dc)) = w2 at hB X0 P R ⊢
  intro hV
  have hV := Lib.hid hV
  have Pc0 : w2.cell? ⟨w.heap.size + 1, 0, none⟩ = some (.int .i64 0) := P.cell 0
  have Pf0 : w2.frozen? ⟨w.heap.size + 1, 0, none⟩ = false := P.free 0
  have Pc1 : w2.cell? ⟨w.heap.size + 1, 1, none⟩ = some (.int .i64 0) := P.cell 1
  have Pf1 : w2.frozen? ⟨w.heap.size + 1, 1, none⟩ = false := P.free 1
  have Pc2 : w2.cell? ⟨w.heap.size + 1, 2, none⟩ = some (.slice Ad 0 dc) := P.cell 2
  have Pf2 : w2.frozen? ⟨w.heap.size + 1, 2, none⟩ = false := P.free 2
  have Pz : w.heap.size + 1 < w2.heap.size := P.lt
  have Rc0 : w2.cell? ⟨w.heap.size + 1 + 1, 0, none⟩ = some (.slice none 0 0) := R.cell 0
  have Rf0 : w2.frozen? ⟨w.heap.size + 1 + 1, 0, none⟩ = false := R.free 0
  have Rc1 : w2.cell? ⟨w.heap.size + 1 + 1, 1, none⟩ = some (.slice none 0 0) := R.cell 1
  have Rf1 : w2.frozen? ⟨w.heap.size + 1 + 1, 1, none⟩ = false := R.free 1
  have Rz : w.heap.size + 1 + 1 < w2.heap.size := R.lt
  go_region
  go_wp2
  have ZP := (((((P.set 0 (.int .i64 0)).set 1 (.int .i64 0)).set 2 (.slice Ad 0 dc)).other (a := ⟨w.heap.size + 1 + 1, 0, none⟩) nPR (.slice none 0 0)).other (a := ⟨w.heap.size + 1 + 1, 1, none⟩) nPR (.slice none 0 0)).drew
  have ZR := (((((R.other (a := ⟨w.heap.size + 1, 0, none⟩) nRP (.int .i64 0)).other (a := ⟨w.heap.size + 1, 1, none⟩) nRP (.int .i64 0)).other (a := ⟨w.heap.size + 1, 2, none⟩) nRP (.slice Ad 0 dc)).set 0 (.slice none 0 0)).set 1 (.slice none 0 0)).drew
  have HB := (((((hB.setCell (p := ⟨w.heap.size + 1, 0, none⟩) gP (.int .i64 0)).setCell (p := ⟨w.heap.size + 1, 1, none⟩) gP (.int .i64 0)).setCell (p := ⟨w.heap.size + 1, 2, none⟩) gP (.slice Ad 0 dc)).setCell (p := ⟨w.heap.size + 1 + 1, 0, none⟩) gR (.slice none 0 0)).setCell (p := ⟨w.heap.size + 1 + 1, 1, none⟩) gR (.slice none 0 0)).drew
  have HV := (((((hV.out.set1 (a := ⟨w.heap.size + 1, 0, none⟩) (by simp; omega) (.int .i64 0)).set1 (a := ⟨w.heap.size + 1, 1, none⟩) (by simp; omega) (.int .i64 0)).set1 (a := ⟨w.heap.size + 1, 2, none⟩) (by simp; omega) (.slice Ad 0 dc)).set1 (a := ⟨w.heap.size + 1 + 1, 0, none⟩) (by simp; omega) (.slice none 0 0)).set1 (a := ⟨w.heap.size + 1 + 1, 1, none⟩) (by simp; omega) (.slice none 0 0))
  have HV := HV.below (Below.refl _ _).drew
  generalize (((((w2.setCell ⟨w.heap.size + 1, 0, none⟩ (.int .i64 0)).setCell ⟨w.heap.size + 1, 1, none⟩ (.int .i64 0)).setCell ⟨w.heap.size + 1, 2, none⟩ (.slice Ad 0 dc)).setCell ⟨w.heap.size + 1 + 1, 0, none⟩ (.slice none 0 0)).setCell ⟨w.heap.size + 1 + 1, 1, none⟩ (.slice none 0 0)).drew = W at ZP ZR HB HV ⊢
  have zp0 : W.cell? ⟨w.heap.size + 1, 0, none⟩ = some (.int .i64 0) := ZP.cell 0
  have zp1 : W.cell? ⟨w.heap.size + 1, 1, none⟩ = some (.int .i64 0) := ZP.cell 1
  have zp2 : W.cell? ⟨w.heap.size + 1, 2, none⟩ = some (.slice Ad 0 dc) := ZP.cell 2
  have zr0 : W.cell? ⟨w.heap.size + 1 + 1, 0, none⟩ = some (.slice none 0 0) := ZR.cell 0
  have zr1 : W.cell? ⟨w.heap.size + 1 + 1, 1, none⟩ = some (.slice none 0 0) := ZR.cell 1
  refine bodyPost_ret (v := .tuple #[.agg #[.int .i64 0, .int .i64 0, .slice Ad 0 dc], .agg #[.slice none 0 0, .slice none 0 0], .int .i64 c]) (by simp [results, Try.results47, go_sem, zp0, zp1, zp2, zr0, zr1]) rfl ?_
  exact ⟨_, Pk.zero, _, _, Net.zero, c, rfl, hs, HV, net2_zero _ _ _, HB, .inr rfl⟩
set_option maxRecDepth 100000 in
set_option maxHeartbeats 4000000 in
theorem nDeliverV_2 (n : Net) (Aq : Option Addr) (nq cq : Nat) (Aa : Option Addr) (na ca : Nat) (i : Int) (w : World) (D : Nat) (hDw : D ≤ w.heap.size) (hN : Hid (NetAt w D (.slice Aq nq cq) (.slice Aa na ca) n)) (k : Nat) (_hk : i = (k : Int)) (y : Pk) (hy : Hid (n.pk i = y)) (hkn : k < n.queue.length) (h4 : n.queue.length ≤ 4096) (h : Hid (askTN n i = 0)) (ht : Hid (hasB n.apart (min y.src y.dst) (max y.src y.dst) = false)) (hs : Hid (deliverT n i = (y, n.without k, 0))) : Calls Try.prog 47 #[.agg #[.slice Aq nq cq, .slice Aa na ca], .int .i64 i] w (RetDelV (deliverT n i) D (.slice Aa na ca) w) := by
  subst _hk
  have HB0 : Below w.heap.size w (((w.alloc (.cells #[.slice Aq nq cq, .slice Aa na ca] 25)).alloc (.cells #[.int .i64 0, .int .i64 0, .slice none 0 0] 51)).alloc (.cells #[.slice none 0 0, .slice none 0 0] 25)) := ((((Below.refl w.heap.size w).alloc (by simp <;> omega) (.cells #[.slice Aq nq cq, .slice Aa na ca] 25)).alloc (by simp <;> omega) (.cells #[.int .i64 0, .int .i64 0, .slice none 0 0] 51)).alloc (by simp <;> omega) (.cells #[.slice none 0 0, .slice none 0 0] 25))
  have HNB := Lib.hid (hN.out.below (HB0.mono hDw))
  have HDB := Nat.le_trans hDw HB0.size
  have nX0P : w.heap.size ≠ w.heap.size + 1 := by omega
  have nX0R : w.heap.size ≠ w.heap.size + 1 + 1 := by omega
  have nPX0 : w.heap.size + 1 ≠ w.heap.size := by omega
  have nPR : w.heap.size + 1 ≠ w.heap.size + 1 + 1 := by omega
  have nRX0 : w.heap.size + 1 + 1 ≠ w.heap.size := by omega
  have nRP : w.heap.size + 1 + 1 ≠ w.heap.size + 1 := by omega
  have gP : w.heap.size ≤ w.heap.size + 1 := by omega
  have gR : w.heap.size ≤ w.heap.size + 1 + 1 := by omega
  go_enter Try.func47, Try.ntmps47
  go_wp2_with fail
  refine (nAt_y h hy HDB HNB.out).mono ?_
  rintro e w1 ⟨Ad, dn, dc, rfl, hV, hb⟩
  have X0 := ((((Box.newAt (n := w.heap.size) [.slice Aq nq cq, .slice Aa na ca] 25 (by simp)).alloc _).alloc _)).later hb
  have P := (((Box.newAt (n := w.heap.size + 1) [.int .i64 0, .int .i64 0, .slice none 0 0] 51 (by simp)).alloc _)).later hb
  have R := ((Box.newAt (n := w.heap.size + 1 + 1) [.slice none 0 0, .slice none 0 0] 25 (by simp))).later hb
  have hB : Below w.heap.size w w1 := (((((Below.refl w.heap.size w).alloc (by simp <;> omega) _).alloc (by simp <;> omega) _).alloc (by simp <;> omega) _)).trans (hb.mono (by simp <;> omega))
  clear hb
  have Pc0 : w1.cell? ⟨w.heap.size + 1, 0, none⟩ = some (.int .i64 0) := P.cell 0
  have Pf0 : w1.frozen? ⟨w.heap.size + 1, 0, none⟩ = false := P.free 0
  have Pc1 : w1.cell? ⟨w.heap.size + 1, 1, none⟩ = some (.int .i64 0) := P.cell 1
  have Pf1 : w1.frozen? ⟨w.heap.size + 1, 1, none⟩ = false := P.free 1
  have Pc2 : w1.cell? ⟨w.heap.size + 1, 2, none⟩ = some (.slice none 0 0) := P.cell 2
  have Pf2 : w1.frozen? ⟨w.heap.size + 1, 2, none⟩ = false := P.free 2
  have Pz : w.heap.size + 1 < w1.heap.size := P.lt
  have Rc0 : w1.cell? ⟨w.heap.size + 1 + 1, 0, none⟩ = some (.slice none 0 0) := R.cell 0
  have Rf0 : w1.frozen? ⟨w.heap.size + 1 + 1, 0, none⟩ = false := R.free 0
  have Rc1 : w1.cell? ⟨w.heap.size + 1 + 1, 1, none⟩ = some (.slice none 0 0) := R.cell 1
  have Rf1 : w1.frozen? ⟨w.heap.size + 1 + 1, 1, none⟩ = false := R.free 1
  have Rz : w.heap.size + 1 + 1 < w1.heap.size := R.lt
  go_wp2_with fail
  have hV := (((hV.out.set1 (a := ⟨w.heap.size + 1, 0, none⟩) (by simp; omega) (.int .i64 y.src)).set1 (a := ⟨w.heap.size + 1, 1, none⟩) (by simp; omega) (.int .i64 y.dst)).set1 (a := ⟨w.heap.size + 1, 2, none⟩) (by simp; omega) (.slice Ad dn dc))
  revert hV
  clear Pc0 Pf0 Pc1 Pf1 Pc2 Pf2 Pz Rc0 Rf0 Rc1 Rf1 Rz
  have X0 := (((X0.other (a := ⟨w.heap.size + 1, 0, none⟩) nX0P (.int .i64 y.src)).other (a := ⟨w.heap.size + 1, 1, none⟩) nX0P (.int .i64 y.dst)).other (a := ⟨w.heap.size + 1, 2, none⟩) nX0P (.slice Ad dn dc))
  have P := (((P.set 0 (.int .i64 y.src)).set 1 (.int .i64 y.dst)).set 2 (.slice Ad dn dc))
  have R := (((R.other (a := ⟨w.heap.size + 1, 0, none⟩) nRP (.int .i64 y.src)).other (a := ⟨w.heap.size + 1, 1, none⟩) nRP (.int .i64 y.dst)).other (a := ⟨w.heap.size + 1, 2, none⟩) nRP (.slice Ad dn dc))
  have hB := (((hB.setCell (p := ⟨w.heap.size + 1, 0, none⟩) gP (.int .i64 y.src)).setCell (p := ⟨w.heap.size + 1, 1, none⟩) gP (.int .i64 y.dst)).setCell (p := ⟨w.heap.size + 1, 2, none⟩) gP (.slice Ad dn dc))
  generalize (((w1.setCell ⟨w.heap.size + 1, 0, none⟩ (.int .i64 y.src)).setCell ⟨w.heap.size + 1, 1, none⟩ (.int .i64 y.dst)).setCell ⟨w.heap.size + 1, 2, none⟩ (.slice Ad dn dc)) = w2 at hB X0 P R ⊢
  intro hV
  have hV := Lib.hid hV
  have hDy : ∀ z : Later w2, D ≤ z.w.heap.size := fun z => Nat.le_trans (Nat.le_trans hDw hB.size) z.below.size
  have hLy : ∀ z : Later w2, LksAt z.w D (.slice Aa na ca) n.apart := fun z => (hN.out.below ((hB.trans (z.below.mono hB.size)).mono hDw)).apart
  have cB : Hid (∀ z : Later w2, Calls Try.prog 72 #[.int .i64 y.src, .int .i64 y.dst] z.w fun e w' => e = .returned (.agg #[.int .i64 (min y.src y.dst), .int .i64 (max y.src y.dst)]) ∧ Below z.w.heap.size z.w w') := fun z => nBetween_any _ _ _
  have cC : Hid (∀ z : Later w2, Calls Try.prog 71 #[.slice Aa na ca, .agg #[.int .i64 (min y.src y.dst), .int .i64 (max y.src y.dst)]] z.w fun e w' => e = .returned (.bool false) ∧ Below z.w.heap.size z.w w') := fun z => nContainsLk_at ht (hDy z) (hLy z)
  obtain ⟨m1, hm1⟩ : ∃ m1, min y.src y.dst = m1 := ⟨_, rfl⟩
  obtain ⟨m2, hm2⟩ : ∃ m2, max y.src y.dst = m2 := ⟨_, rfl⟩
  rw [hm1, hm2] at cB cC
  clear hm1 hm2 hDy hLy
  have hDw2 : D ≤ w2.heap.size := Nat.le_trans hDw hB.size
  have X0l0 : ∀ zz : Later w2, zz.w.cell? ⟨w.heap.size, 0, none⟩ = some (.slice Aq nq cq) := Later.cell (X0.cell 0) X0.lt
  have X0l1 : ∀ zz : Later w2, zz.w.cell? ⟨w.heap.size, 1, none⟩ = some (.slice Aa na ca) := Later.cell (X0.cell 1) X0.lt
  have Pl0 : ∀ zz : Later w2, zz.w.cell? ⟨w.heap.size + 1, 0, none⟩ = some (.int .i64 y.src) := Later.cell (P.cell 0) P.lt
  have Pl1 : ∀ zz : Later w2, zz.w.cell? ⟨w.heap.size + 1, 1, none⟩ = some (.int .i64 y.dst) := Later.cell (P.cell 1) P.lt
  have Pl2 : ∀ zz : Later w2, zz.w.cell? ⟨w.heap.size + 1, 2, none⟩ = some (.slice Ad dn dc) := Later.cell (P.cell 2) P.lt
  refine wp_region_later (by kernel_rfl) (by kernel_rfl) ?_
  repeat (go_big_quiet_step ((first | (go_at_call 72; with_reducible exact Later.call _ (cB.out _)) | (go_at_call 71; with_reducible exact Later.call _ (cC.out _)))))
  refine wpQuiet_nil ?_
  intro _ hw'
  obtain ⟨yq, hw''⟩ := hw'
  subst hw''
  clear X0l0 X0l1 Pl0 Pl1 Pl2
  obtain ⟨w3, hb⟩ : ∃ z, z = yq.w ∧ Below w2.heap.size w2 z := ⟨_, rfl, yq.below⟩
  obtain ⟨hz, hb⟩ := hb
  rw [← hz]
  clear hz
  have hX := hb
  have X0 := X0.later hb
  have P := P.later hb
  have R := R.later hb
  have hB := hB.trans (hb.mono hB.size)
  clear hb
  clear cB cC
  go_wp2_with fail
  have X0c0 : w3.cell? ⟨w.heap.size, 0, none⟩ = some (.slice Aq nq cq) := X0.cell 0
  have X0f0 : w3.frozen? ⟨w.heap.size, 0, none⟩ = false := X0.free 0
  have X0c1 : w3.cell? ⟨w.heap.size, 1, none⟩ = some (.slice Aa na ca) := X0.cell 1
  have X0f1 : w3.frozen? ⟨w.heap.size, 1, none⟩ = false := X0.free 1
  have X0z : w.heap.size < w3.heap.size := X0.lt
  have Pc0 : w3.cell? ⟨w.heap.size + 1, 0, none⟩ = some (.int .i64 y.src) := P.cell 0
  have Pf0 : w3.frozen? ⟨w.heap.size + 1, 0, none⟩ = false := P.free 0
  have Pc1 : w3.cell? ⟨w.heap.size + 1, 1, none⟩ = some (.int .i64 y.dst) := P.cell 1
  have Pf1 : w3.frozen? ⟨w.heap.size + 1, 1, none⟩ = false := P.free 1
  have Pc2 : w3.cell? ⟨w.heap.size + 1, 2, none⟩ = some (.slice Ad dn dc) := P.cell 2
  have Pf2 : w3.frozen? ⟨w.heap.size + 1, 2, none⟩ = false := P.free 2
  have Pz : w.heap.size + 1 < w3.heap.size := P.lt
  have Rc0 : w3.cell? ⟨w.heap.size + 1 + 1, 0, none⟩ = some (.slice none 0 0) := R.cell 0
  have Rf0 : w3.frozen? ⟨w.heap.size + 1 + 1, 0, none⟩ = false := R.free 0
  have Rc1 : w3.cell? ⟨w.heap.size + 1 + 1, 1, none⟩ = some (.slice none 0 0) := R.cell 1
  have Rf1 : w3.frozen? ⟨w.heap.size + 1 + 1, 1, none⟩ = false := R.free 1
  have Rz : w.heap.size + 1 + 1 < w3.heap.size := R.lt
  have hBd := hB.drew
  have kb := hBd.size
  have kP : w.heap.size + 1 < w3.drew.heap.size := P.drew.lt
  have kR : w.heap.size + 1 + 1 < w3.drew.heap.size := R.drew.lt
  have hDd := Nat.le_trans hDw kb
  have hNd := Lib.hid (hN.out.below (hBd.mono hDw))
  have hw := Lib.hid (nWithoutV_any n _ _ k w3.drew D hDd hNd.out hkn h4)
  have hVd : Hid (BytesAt w3.drew D (.slice Ad dn dc) y.data) := Lib.hid ((hV.out.below (hX.mono hDw2)).below (Below.refl _ _).drew)
  go_region_with (go_at_call 73; refine (Calls.mono hw.out ?_); rintro e w5 hh; obtain ⟨A1, n1, c1, A2, n2, c2, rfl, HN2, hb, hv⟩ := RetN1V.sl hh; have P := P.drew.later hb; have R := R.drew.later hb; have hB := hBd.trans (hb.mono hBd.size); have hV := Lib.hid (hVd.out.below (hb.mono hDd)); have Pc0 : w5.cell? ⟨w.heap.size + 1, 0, none⟩ = some (.int .i64 y.src) := P.cell 0; have Pf0 : w5.frozen? ⟨w.heap.size + 1, 0, none⟩ = false := P.free 0; have Pc1 : w5.cell? ⟨w.heap.size + 1, 1, none⟩ = some (.int .i64 y.dst) := P.cell 1; have Pf1 : w5.frozen? ⟨w.heap.size + 1, 1, none⟩ = false := P.free 1; have Pc2 : w5.cell? ⟨w.heap.size + 1, 2, none⟩ = some (.slice Ad dn dc) := P.cell 2; have Pf2 : w5.frozen? ⟨w.heap.size + 1, 2, none⟩ = false := P.free 2; have Pz : w.heap.size + 1 < w5.heap.size := P.lt; have Rc0 : w5.cell? ⟨w.heap.size + 1 + 1, 0, none⟩ = some (.slice none 0 0) := R.cell 0; have Rf0 : w5.frozen? ⟨w.heap.size + 1 + 1, 0, none⟩ = false := R.free 0; have Rc1 : w5.cell? ⟨w.heap.size + 1 + 1, 1, none⟩ = some (.slice none 0 0) := R.cell 1; have Rf1 : w5.frozen? ⟨w.heap.size + 1 + 1, 1, none⟩ = false := R.free 1; have Rz : w.heap.size + 1 + 1 < w5.heap.size := R.lt)
  all_goals (try go_wp2)
  all_goals (
    have ZP := (((((P.set 0 (.int .i64 y.src)).set 1 (.int .i64 y.dst)).set 2 (.slice Ad dn dc)).other (a := ⟨w.heap.size + 1 + 1, 0, none⟩) nPR (.slice A1 n1 c1)).other (a := ⟨w.heap.size + 1 + 1, 1, none⟩) nPR (.slice A2 n2 c2))
    have ZR := (((((R.other (a := ⟨w.heap.size + 1, 0, none⟩) nRP (.int .i64 y.src)).other (a := ⟨w.heap.size + 1, 1, none⟩) nRP (.int .i64 y.dst)).other (a := ⟨w.heap.size + 1, 2, none⟩) nRP (.slice Ad dn dc)).set 0 (.slice A1 n1 c1)).set 1 (.slice A2 n2 c2))
    have HB := (((((hB.setCell (p := ⟨w.heap.size + 1, 0, none⟩) gP (.int .i64 y.src)).setCell (p := ⟨w.heap.size + 1, 1, none⟩) gP (.int .i64 y.dst)).setCell (p := ⟨w.heap.size + 1, 2, none⟩) gP (.slice Ad dn dc)).setCell (p := ⟨w.heap.size + 1 + 1, 0, none⟩) gR (.slice A1 n1 c1)).setCell (p := ⟨w.heap.size + 1 + 1, 1, none⟩) gR (.slice A2 n2 c2))
    have HQ := (((((HN2.out.set (a := ⟨w.heap.size + 1, 0, none⟩) (by simp; omega) kP (.int .i64 y.src)).set (a := ⟨w.heap.size + 1, 1, none⟩) (by simp; omega) kP (.int .i64 y.dst)).set (a := ⟨w.heap.size + 1, 2, none⟩) (by simp; omega) kP (.slice Ad dn dc)).set (a := ⟨w.heap.size + 1 + 1, 0, none⟩) (by simp; omega) kR (.slice A1 n1 c1)).set (a := ⟨w.heap.size + 1 + 1, 1, none⟩) (by simp; omega) kR (.slice A2 n2 c2))
    have HV := (((((hV.out.set1 (a := ⟨w.heap.size + 1, 0, none⟩) (by simp; omega) (.int .i64 y.src)).set1 (a := ⟨w.heap.size + 1, 1, none⟩) (by simp; omega) (.int .i64 y.dst)).set1 (a := ⟨w.heap.size + 1, 2, none⟩) (by simp; omega) (.slice Ad dn dc)).set1 (a := ⟨w.heap.size + 1 + 1, 0, none⟩) (by simp; omega) (.slice A1 n1 c1)).set1 (a := ⟨w.heap.size + 1 + 1, 1, none⟩) (by simp; omega) (.slice A2 n2 c2))
    generalize (((((w5.setCell ⟨w.heap.size + 1, 0, none⟩ (.int .i64 y.src)).setCell ⟨w.heap.size + 1, 1, none⟩ (.int .i64 y.dst)).setCell ⟨w.heap.size + 1, 2, none⟩ (.slice Ad dn dc)).setCell ⟨w.heap.size + 1 + 1, 0, none⟩ (.slice A1 n1 c1)).setCell ⟨w.heap.size + 1 + 1, 1, none⟩ (.slice A2 n2 c2)) = W at ZP ZR HB HQ HV ⊢
    have zp0 : W.cell? ⟨w.heap.size + 1, 0, none⟩ = some (.int .i64 y.src) := ZP.cell 0
    have zp1 : W.cell? ⟨w.heap.size + 1, 1, none⟩ = some (.int .i64 y.dst) := ZP.cell 1
    have zp2 : W.cell? ⟨w.heap.size + 1, 2, none⟩ = some (.slice Ad dn dc) := ZP.cell 2
    have zr0 : W.cell? ⟨w.heap.size + 1 + 1, 0, none⟩ = some (.slice A1 n1 c1) := ZR.cell 0
    have zr1 : W.cell? ⟨w.heap.size + 1 + 1, 1, none⟩ = some (.slice A2 n2 c2) := ZR.cell 1
    refine bodyPost_ret (v := .tuple #[.agg #[.int .i64 y.src, .int .i64 y.dst, .slice Ad dn dc], .agg #[.slice A1 n1 c1, .slice A2 n2 c2], .int .i64 0]) (by simp [results, Try.results47, go_sem, zp0, zp1, zp2, zr0, zr1]) rfl ?_
    exact ⟨_, y, _, _, n.without k, 0, rfl, hs, HV, HQ.lower kb, HB, hv⟩)
set_option maxRecDepth 100000 in
set_option maxHeartbeats 4000000 in
theorem nDeliverV_3 (n : Net) (Aq : Option Addr) (nq cq : Nat) (Aa : Option Addr) (na ca : Nat) (i : Int) (w : World) (D : Nat) (hDw : D ≤ w.heap.size) (hN : Hid (NetAt w D (.slice Aq nq cq) (.slice Aa na ca) n)) (k : Nat) (_hk : i = (k : Int)) (y : Pk) (hy : Hid (n.pk i = y)) (hkn : k < n.queue.length) (h4 : n.queue.length ≤ 4096) (h : Hid (askTN n i = 0)) (ht : Hid (hasB n.apart (min y.src y.dst) (max y.src y.dst) = true)) (hs : Hid (deliverT n i = (Pk.zero, n.without k, 0))) : Calls Try.prog 47 #[.agg #[.slice Aq nq cq, .slice Aa na ca], .int .i64 i] w (RetDelV (deliverT n i) D (.slice Aa na ca) w) := by
  subst _hk
  have HB0 : Below w.heap.size w (((w.alloc (.cells #[.slice Aq nq cq, .slice Aa na ca] 25)).alloc (.cells #[.int .i64 0, .int .i64 0, .slice none 0 0] 51)).alloc (.cells #[.slice none 0 0, .slice none 0 0] 25)) := ((((Below.refl w.heap.size w).alloc (by simp <;> omega) (.cells #[.slice Aq nq cq, .slice Aa na ca] 25)).alloc (by simp <;> omega) (.cells #[.int .i64 0, .int .i64 0, .slice none 0 0] 51)).alloc (by simp <;> omega) (.cells #[.slice none 0 0, .slice none 0 0] 25))
  have HNB := Lib.hid (hN.out.below (HB0.mono hDw))
  have HDB := Nat.le_trans hDw HB0.size
  have nX0P : w.heap.size ≠ w.heap.size + 1 := by omega
  have nX0R : w.heap.size ≠ w.heap.size + 1 + 1 := by omega
  have nPX0 : w.heap.size + 1 ≠ w.heap.size := by omega
  have nPR : w.heap.size + 1 ≠ w.heap.size + 1 + 1 := by omega
  have nRX0 : w.heap.size + 1 + 1 ≠ w.heap.size := by omega
  have nRP : w.heap.size + 1 + 1 ≠ w.heap.size + 1 := by omega
  have gP : w.heap.size ≤ w.heap.size + 1 := by omega
  have gR : w.heap.size ≤ w.heap.size + 1 + 1 := by omega
  go_enter Try.func47, Try.ntmps47
  go_wp2_with fail
  refine (nAt_y h hy HDB HNB.out).mono ?_
  rintro e w1 ⟨Ad, dn, dc, rfl, hV, hb⟩
  have X0 := ((((Box.newAt (n := w.heap.size) [.slice Aq nq cq, .slice Aa na ca] 25 (by simp)).alloc _).alloc _)).later hb
  have P := (((Box.newAt (n := w.heap.size + 1) [.int .i64 0, .int .i64 0, .slice none 0 0] 51 (by simp)).alloc _)).later hb
  have R := ((Box.newAt (n := w.heap.size + 1 + 1) [.slice none 0 0, .slice none 0 0] 25 (by simp))).later hb
  have hB : Below w.heap.size w w1 := (((((Below.refl w.heap.size w).alloc (by simp <;> omega) _).alloc (by simp <;> omega) _).alloc (by simp <;> omega) _)).trans (hb.mono (by simp <;> omega))
  clear hb
  have Pc0 : w1.cell? ⟨w.heap.size + 1, 0, none⟩ = some (.int .i64 0) := P.cell 0
  have Pf0 : w1.frozen? ⟨w.heap.size + 1, 0, none⟩ = false := P.free 0
  have Pc1 : w1.cell? ⟨w.heap.size + 1, 1, none⟩ = some (.int .i64 0) := P.cell 1
  have Pf1 : w1.frozen? ⟨w.heap.size + 1, 1, none⟩ = false := P.free 1
  have Pc2 : w1.cell? ⟨w.heap.size + 1, 2, none⟩ = some (.slice none 0 0) := P.cell 2
  have Pf2 : w1.frozen? ⟨w.heap.size + 1, 2, none⟩ = false := P.free 2
  have Pz : w.heap.size + 1 < w1.heap.size := P.lt
  have Rc0 : w1.cell? ⟨w.heap.size + 1 + 1, 0, none⟩ = some (.slice none 0 0) := R.cell 0
  have Rf0 : w1.frozen? ⟨w.heap.size + 1 + 1, 0, none⟩ = false := R.free 0
  have Rc1 : w1.cell? ⟨w.heap.size + 1 + 1, 1, none⟩ = some (.slice none 0 0) := R.cell 1
  have Rf1 : w1.frozen? ⟨w.heap.size + 1 + 1, 1, none⟩ = false := R.free 1
  have Rz : w.heap.size + 1 + 1 < w1.heap.size := R.lt
  go_wp2_with fail
  have hV := (((hV.out.set1 (a := ⟨w.heap.size + 1, 0, none⟩) (by simp; omega) (.int .i64 y.src)).set1 (a := ⟨w.heap.size + 1, 1, none⟩) (by simp; omega) (.int .i64 y.dst)).set1 (a := ⟨w.heap.size + 1, 2, none⟩) (by simp; omega) (.slice Ad dn dc))
  revert hV
  clear Pc0 Pf0 Pc1 Pf1 Pc2 Pf2 Pz Rc0 Rf0 Rc1 Rf1 Rz
  have X0 := (((X0.other (a := ⟨w.heap.size + 1, 0, none⟩) nX0P (.int .i64 y.src)).other (a := ⟨w.heap.size + 1, 1, none⟩) nX0P (.int .i64 y.dst)).other (a := ⟨w.heap.size + 1, 2, none⟩) nX0P (.slice Ad dn dc))
  have P := (((P.set 0 (.int .i64 y.src)).set 1 (.int .i64 y.dst)).set 2 (.slice Ad dn dc))
  have R := (((R.other (a := ⟨w.heap.size + 1, 0, none⟩) nRP (.int .i64 y.src)).other (a := ⟨w.heap.size + 1, 1, none⟩) nRP (.int .i64 y.dst)).other (a := ⟨w.heap.size + 1, 2, none⟩) nRP (.slice Ad dn dc))
  have hB := (((hB.setCell (p := ⟨w.heap.size + 1, 0, none⟩) gP (.int .i64 y.src)).setCell (p := ⟨w.heap.size + 1, 1, none⟩) gP (.int .i64 y.dst)).setCell (p := ⟨w.heap.size + 1, 2, none⟩) gP (.slice Ad dn dc))
  generalize (((w1.setCell ⟨w.heap.size + 1, 0, none⟩ (.int .i64 y.src)).setCell ⟨w.heap.size + 1, 1, none⟩ (.int .i64 y.dst)).setCell ⟨w.heap.size + 1, 2, none⟩ (.slice Ad dn dc)) = w2 at hB X0 P R ⊢
  intro hV
  have hV := Lib.hid hV
  have hDy : ∀ z : Later w2, D ≤ z.w.heap.size := fun z => Nat.le_trans (Nat.le_trans hDw hB.size) z.below.size
  have hLy : ∀ z : Later w2, LksAt z.w D (.slice Aa na ca) n.apart := fun z => (hN.out.below ((hB.trans (z.below.mono hB.size)).mono hDw)).apart
  have cB : Hid (∀ z : Later w2, Calls Try.prog 72 #[.int .i64 y.src, .int .i64 y.dst] z.w fun e w' => e = .returned (.agg #[.int .i64 (min y.src y.dst), .int .i64 (max y.src y.dst)]) ∧ Below z.w.heap.size z.w w') := fun z => nBetween_any _ _ _
  have cC : Hid (∀ z : Later w2, Calls Try.prog 71 #[.slice Aa na ca, .agg #[.int .i64 (min y.src y.dst), .int .i64 (max y.src y.dst)]] z.w fun e w' => e = .returned (.bool true) ∧ Below z.w.heap.size z.w w') := fun z => nContainsLk_at ht (hDy z) (hLy z)
  obtain ⟨m1, hm1⟩ : ∃ m1, min y.src y.dst = m1 := ⟨_, rfl⟩
  obtain ⟨m2, hm2⟩ : ∃ m2, max y.src y.dst = m2 := ⟨_, rfl⟩
  rw [hm1, hm2] at cB cC
  clear hm1 hm2 hDy hLy
  have hDw2 : D ≤ w2.heap.size := Nat.le_trans hDw hB.size
  have X0l0 : ∀ zz : Later w2, zz.w.cell? ⟨w.heap.size, 0, none⟩ = some (.slice Aq nq cq) := Later.cell (X0.cell 0) X0.lt
  have X0l1 : ∀ zz : Later w2, zz.w.cell? ⟨w.heap.size, 1, none⟩ = some (.slice Aa na ca) := Later.cell (X0.cell 1) X0.lt
  have Pl0 : ∀ zz : Later w2, zz.w.cell? ⟨w.heap.size + 1, 0, none⟩ = some (.int .i64 y.src) := Later.cell (P.cell 0) P.lt
  have Pl1 : ∀ zz : Later w2, zz.w.cell? ⟨w.heap.size + 1, 1, none⟩ = some (.int .i64 y.dst) := Later.cell (P.cell 1) P.lt
  have Pl2 : ∀ zz : Later w2, zz.w.cell? ⟨w.heap.size + 1, 2, none⟩ = some (.slice Ad dn dc) := Later.cell (P.cell 2) P.lt
  refine wp_region_later (by kernel_rfl) (by kernel_rfl) ?_
  repeat (go_big_quiet_step ((first | (go_at_call 72; with_reducible exact Later.call _ (cB.out _)) | (go_at_call 71; with_reducible exact Later.call _ (cC.out _)))))
  refine wpQuiet_nil ?_
  intro _ hw'
  obtain ⟨yq, hw''⟩ := hw'
  subst hw''
  clear X0l0 X0l1 Pl0 Pl1 Pl2
  obtain ⟨w3, hb⟩ : ∃ z, z = yq.w ∧ Below w2.heap.size w2 z := ⟨_, rfl, yq.below⟩
  obtain ⟨hz, hb⟩ := hb
  rw [← hz]
  clear hz
  have hX := hb
  have X0 := X0.later hb
  have P := P.later hb
  have R := R.later hb
  have hB := hB.trans (hb.mono hB.size)
  clear hb
  clear cB cC
  have Pc0 : w3.cell? ⟨w.heap.size + 1, 0, none⟩ = some (.int .i64 y.src) := P.cell 0
  have Pf0 : w3.frozen? ⟨w.heap.size + 1, 0, none⟩ = false := P.free 0
  have Pc1 : w3.cell? ⟨w.heap.size + 1, 1, none⟩ = some (.int .i64 y.dst) := P.cell 1
  have Pf1 : w3.frozen? ⟨w.heap.size + 1, 1, none⟩ = false := P.free 1
  have Pc2 : w3.cell? ⟨w.heap.size + 1, 2, none⟩ = some (.slice Ad dn dc) := P.cell 2
  have Pf2 : w3.frozen? ⟨w.heap.size + 1, 2, none⟩ = false := P.free 2
  have Pz : w.heap.size + 1 < w3.heap.size := P.lt
  go_wp2_with fail
  clear Pc0 Pf0 Pc1 Pf1 Pc2 Pf2 Pz
  have X0 := (((X0.other (a := ⟨w.heap.size + 1, 0, none⟩) nX0P (.int .i64 0)).other (a := ⟨w.heap.size + 1, 1, none⟩) nX0P (.int .i64 0)).other (a := ⟨w.heap.size + 1, 2, none⟩) nX0P (.slice none 0 0))
  have P := (((P.set 0 (.int .i64 0)).set 1 (.int .i64 0)).set 2 (.slice none 0 0))
  have R := (((R.other (a := ⟨w.heap.size + 1, 0, none⟩) nRP (.int .i64 0)).other (a := ⟨w.heap.size + 1, 1, none⟩) nRP (.int .i64 0)).other (a := ⟨w.heap.size + 1, 2, none⟩) nRP (.slice none 0 0))
  have hB := (((hB.setCell (p := ⟨w.heap.size + 1, 0, none⟩) gP (.int .i64 0)).setCell (p := ⟨w.heap.size + 1, 1, none⟩) gP (.int .i64 0)).setCell (p := ⟨w.heap.size + 1, 2, none⟩) gP (.slice none 0 0))
  generalize (((w3.setCell ⟨w.heap.size + 1, 0, none⟩ (.int .i64 0)).setCell ⟨w.heap.size + 1, 1, none⟩ (.int .i64 0)).setCell ⟨w.heap.size + 1, 2, none⟩ (.slice none 0 0)) = w4 at hB X0 P R ⊢
  have X0c0 : w4.cell? ⟨w.heap.size, 0, none⟩ = some (.slice Aq nq cq) := X0.cell 0
  have X0f0 : w4.frozen? ⟨w.heap.size, 0, none⟩ = false := X0.free 0
  have X0c1 : w4.cell? ⟨w.heap.size, 1, none⟩ = some (.slice Aa na ca) := X0.cell 1
  have X0f1 : w4.frozen? ⟨w.heap.size, 1, none⟩ = false := X0.free 1
  have X0z : w.heap.size < w4.heap.size := X0.lt
  have Pc0 : w4.cell? ⟨w.heap.size + 1, 0, none⟩ = some (.int .i64 0) := P.cell 0
  have Pf0 : w4.frozen? ⟨w.heap.size + 1, 0, none⟩ = false := P.free 0
  have Pc1 : w4.cell? ⟨w.heap.size + 1, 1, none⟩ = some (.int .i64 0) := P.cell 1
  have Pf1 : w4.frozen? ⟨w.heap.size + 1, 1, none⟩ = false := P.free 1
  have Pc2 : w4.cell? ⟨w.heap.size + 1, 2, none⟩ = some (.slice none 0 0) := P.cell 2
  have Pf2 : w4.frozen? ⟨w.heap.size + 1, 2, none⟩ = false := P.free 2
  have Pz : w.heap.size + 1 < w4.heap.size := P.lt
  have Rc0 : w4.cell? ⟨w.heap.size + 1 + 1, 0, none⟩ = some (.slice none 0 0) := R.cell 0
  have Rf0 : w4.frozen? ⟨w.heap.size + 1 + 1, 0, none⟩ = false := R.free 0
  have Rc1 : w4.cell? ⟨w.heap.size + 1 + 1, 1, none⟩ = some (.slice none 0 0) := R.cell 1
  have Rf1 : w4.frozen? ⟨w.heap.size + 1 + 1, 1, none⟩ = false := R.free 1
  have Rz : w.heap.size + 1 + 1 < w4.heap.size := R.lt
  have hBd := hB.drew
  have kb := hBd.size
  have kP : w.heap.size + 1 < w4.drew.heap.size := P.drew.lt
  have kR : w.heap.size + 1 + 1 < w4.drew.heap.size := R.drew.lt
  have hDd := Nat.le_trans hDw kb
  have hNd := Lib.hid (hN.out.below (hBd.mono hDw))
  have hw := Lib.hid (nWithoutV_any n _ _ k w4.drew D hDd hNd.out hkn h4)
  go_region_with (go_at_call 73; refine (Calls.mono hw.out ?_); rintro e w5 hh; obtain ⟨A1, n1, c1, A2, n2, c2, rfl, HN2, hb, hv⟩ := RetN1V.sl hh; have P := P.drew.later hb; have R := R.drew.later hb; have hB := hBd.trans (hb.mono hBd.size); have Pc0 : w5.cell? ⟨w.heap.size + 1, 0, none⟩ = some (.int .i64 0) := P.cell 0; have Pf0 : w5.frozen? ⟨w.heap.size + 1, 0, none⟩ = false := P.free 0; have Pc1 : w5.cell? ⟨w.heap.size + 1, 1, none⟩ = some (.int .i64 0) := P.cell 1; have Pf1 : w5.frozen? ⟨w.heap.size + 1, 1, none⟩ = false := P.free 1; have Pc2 : w5.cell? ⟨w.heap.size + 1, 2, none⟩ = some (.slice none 0 0) := P.cell 2; have Pf2 : w5.frozen? ⟨w.heap.size + 1, 2, none⟩ = false := P.free 2; have Pz : w.heap.size + 1 < w5.heap.size := P.lt; have Rc0 : w5.cell? ⟨w.heap.size + 1 + 1, 0, none⟩ = some (.slice none 0 0) := R.cell 0; have Rf0 : w5.frozen? ⟨w.heap.size + 1 + 1, 0, none⟩ = false := R.free 0; have Rc1 : w5.cell? ⟨w.heap.size + 1 + 1, 1, none⟩ = some (.slice none 0 0) := R.cell 1; have Rf1 : w5.frozen? ⟨w.heap.size + 1 + 1, 1, none⟩ = false := R.free 1; have Rz : w.heap.size + 1 + 1 < w5.heap.size := R.lt)
  all_goals (try go_wp2)
  all_goals (
    have ZP := (((((P.set 0 (.int .i64 0)).set 1 (.int .i64 0)).set 2 (.slice none 0 0)).other (a := ⟨w.heap.size + 1 + 1, 0, none⟩) nPR (.slice A1 n1 c1)).other (a := ⟨w.heap.size + 1 + 1, 1, none⟩) nPR (.slice A2 n2 c2))
    have ZR := (((((R.other (a := ⟨w.heap.size + 1, 0, none⟩) nRP (.int .i64 0)).other (a := ⟨w.heap.size + 1, 1, none⟩) nRP (.int .i64 0)).other (a := ⟨w.heap.size + 1, 2, none⟩) nRP (.slice none 0 0)).set 0 (.slice A1 n1 c1)).set 1 (.slice A2 n2 c2))
    have HB := (((((hB.setCell (p := ⟨w.heap.size + 1, 0, none⟩) gP (.int .i64 0)).setCell (p := ⟨w.heap.size + 1, 1, none⟩) gP (.int .i64 0)).setCell (p := ⟨w.heap.size + 1, 2, none⟩) gP (.slice none 0 0)).setCell (p := ⟨w.heap.size + 1 + 1, 0, none⟩) gR (.slice A1 n1 c1)).setCell (p := ⟨w.heap.size + 1 + 1, 1, none⟩) gR (.slice A2 n2 c2))
    have HQ := (((((HN2.out.set (a := ⟨w.heap.size + 1, 0, none⟩) (by simp; omega) kP (.int .i64 0)).set (a := ⟨w.heap.size + 1, 1, none⟩) (by simp; omega) kP (.int .i64 0)).set (a := ⟨w.heap.size + 1, 2, none⟩) (by simp; omega) kP (.slice none 0 0)).set (a := ⟨w.heap.size + 1 + 1, 0, none⟩) (by simp; omega) kR (.slice A1 n1 c1)).set (a := ⟨w.heap.size + 1 + 1, 1, none⟩) (by simp; omega) kR (.slice A2 n2 c2))
    generalize (((((w5.setCell ⟨w.heap.size + 1, 0, none⟩ (.int .i64 0)).setCell ⟨w.heap.size + 1, 1, none⟩ (.int .i64 0)).setCell ⟨w.heap.size + 1, 2, none⟩ (.slice none 0 0)).setCell ⟨w.heap.size + 1 + 1, 0, none⟩ (.slice A1 n1 c1)).setCell ⟨w.heap.size + 1 + 1, 1, none⟩ (.slice A2 n2 c2)) = W at ZP ZR HB HQ ⊢
    have zp0 : W.cell? ⟨w.heap.size + 1, 0, none⟩ = some (.int .i64 0) := ZP.cell 0
    have zp1 : W.cell? ⟨w.heap.size + 1, 1, none⟩ = some (.int .i64 0) := ZP.cell 1
    have zp2 : W.cell? ⟨w.heap.size + 1, 2, none⟩ = some (.slice none 0 0) := ZP.cell 2
    have zr0 : W.cell? ⟨w.heap.size + 1 + 1, 0, none⟩ = some (.slice A1 n1 c1) := ZR.cell 0
    have zr1 : W.cell? ⟨w.heap.size + 1 + 1, 1, none⟩ = some (.slice A2 n2 c2) := ZR.cell 1
    refine bodyPost_ret (v := .tuple #[.agg #[.int .i64 0, .int .i64 0, .slice none 0 0], .agg #[.slice A1 n1 c1, .slice A2 n2 c2], .int .i64 0]) (by simp [results, Try.results47, go_sem, zp0, zp1, zp2, zr0, zr1]) rfl ?_
    exact ⟨_, Pk.zero, _, _, n.without k, 0, rfl, hs, bytesAt_nil _ _, HQ.lower kb, HB, hv⟩)
theorem nDeliverV_any (n : Net) (Vq Va : Value) (i : Int) (w : World) (D : Nat) (hDw : D ≤ w.heap.size) (hN : NetAt w D Vq Va n) : Calls Try.prog 47 #[.agg #[Vq, Va], .int .i64 i] w (RetDelV (deliverT n i) D Va w) := by
  obtain ⟨Aq, cq, rfl, hmq⟩ := hN.queue.form
  obtain ⟨Aa, ca, rfl, _⟩ := hN.apart.form
  rcases ask_ways n i with ⟨c, h, hc⟩ | ⟨k, rfl, hk, h4, h⟩
  · exact nDeliverV_1 n Aq _ cq Aa _ ca i w D hDw hN c h hc (by rw [Hid, deliverT, if_neg (by rw [h]; simpa using hc), h])
  · rcases hq : hasB n.apart (min (n.pk k).src (n.pk k).dst) (max (n.pk k).src (n.pk k).dst) with _ | _
    · exact nDeliverV_2 n Aq _ cq Aa _ ca _ w D hDw hN k rfl _ rfl hk h4 h hq (by rw [Hid, deliverT, if_pos h, if_neg (by rw [cutB_has, hq]; simp)]; rfl)
    · exact nDeliverV_3 n Aq _ cq Aa _ ca _ w D hDw hN k rfl _ rfl hk h4 h hq (by rw [Hid, deliverT, if_pos h, if_pos (by rw [cutB_has, hq])]; rfl)
end
theorem nSendV_is (n : Net) (p : Pk) {Vq Va Vd : Value} {w : World} (hN : Hid (NetAt w w.heap.size Vq Va n)) (hD : Hid (BytesAt w w.heap.size Vd p.data)) : Calls Try.prog 32 #[.agg #[Vq, Va], p.v Vd] w (RetNetV (sendT n p) w.heap.size Va w) := nSendV_any n Vq Va p Vd w _ (Nat.le_refl _) hN.out hD.out
theorem nDeliverV_is (n : Net) (i : Int) {Vq Va : Value} {w : World} (hN : Hid (NetAt w w.heap.size Vq Va n)) : Calls Try.prog 47 #[.agg #[Vq, Va], .int .i64 i] w (RetDelV (deliverT n i) w.heap.size Va w) := nDeliverV_any n Vq Va i w _ (Nat.le_refl _) hN.out
theorem nLoseV_is (n : Net) (i : Int) {Vq Va : Value} {w : World} (hN : Hid (NetAt w w.heap.size Vq Va n)) : Calls Try.prog 77 #[.agg #[Vq, Va], .int .i64 i] w (RetNetV (loseT n i) w.heap.size Va w) := nLoseV_any n Vq Va i w _ (Nat.le_refl _) hN.out
theorem nRepeatV_is (n : Net) (i : Int) {Vq Va : Value} {w : World} (hN : Hid (NetAt w w.heap.size Vq Va n)) : Calls Try.prog 66 #[.agg #[Vq, Va], .int .i64 i] w (RetNetV (repeatT n i) w.heap.size Va w) := nRepeatV_any n Vq Va i w _ (Nat.le_refl _) hN.out
end Go.Proofs.Ytmbifmmkccghfaa
