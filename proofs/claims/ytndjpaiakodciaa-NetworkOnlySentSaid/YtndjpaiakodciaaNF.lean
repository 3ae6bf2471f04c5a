/-
  Contract of Send of network. (Printed by gen_nf.py.)
-/
import Derived.Test.YtndjpaiakodciaaNE
namespace Go.Proofs.Ytndjpaiakodciaa
open Go.RowKit

attribute [local go_sem ↓ high] app_named

theorem nCheck_at {n : Net} {Vq Va : Value} {w : World} {c : Int} (h : Hid (n.checkT = c)) (hN : NetAt w w.heap.size Vq Va n) : Calls Try.prog 13 #[.agg #[Vq, Va]] w fun e w' => e = .returned (.int .i64 c) ∧ Below w.heap.size w w' :=
  (nCheck_any n Vq Va w hN).mono fun _ _ ⟨he, hb⟩ => ⟨by rw [he, h.out], hb⟩
theorem nRCheck_at {n : Net} {Vq Va : Value} {w : World} {c : Int} (h : Hid (n.checkT = c)) (hN : NetAt w w.heap.size Vq Va n) : Calls Try.prog 14 #[.agg #[Vq, Va]] w fun e w' => e = .returned (.int .i64 c) ∧ Below w.heap.size w w' :=
  (nRCheck_any n Vq Va w hN).mono fun _ _ ⟨he, hb⟩ => ⟨by rw [he, h.out], hb⟩
theorem nPacket_at {p : Pk} {V : Value} {w : World} {q : Bool} (h : Hid (p.okB = q)) (hV : BytesAt w w.heap.size V p.data) : Calls Try.prog 28 #[p.v V] w fun e w' => e = .returned (.bool q) ∧ Below w.heap.size w w' :=
  (nPacket_any p V w hV).mono fun _ _ ⟨he, hb⟩ => ⟨by rw [he, h.out], hb⟩
/-- A result that is a net and an error. -/
def RetNet (t : Net × Int) (D : Nat) (w : World) (e : Ending) (w' : World) : Prop := ∃ (Vq Va : Value) (m : Net) (er : Int), e = .returned (.tuple #[.agg #[Vq, Va], .int .i64 er]) ∧ Hid (t = (m, er)) ∧ Hid (Net2 w' D w.heap.size Vq Va m) ∧ Below w.heap.size w w'
/-- A slice cut at its length, its capacity cut too. -/
theorem PksAt.clip {w : World} {B : Nat} {A : Option Addr} {n c : Nat} {q : List Pk} (h : PksAt w B (.slice A n c) q) : PksAt w B (.slice A n n) q ∧ (n = q.length) ∧ ((A = none ∧ n = 0 ∧ c = 0) ∨ ∃ a, A = some a) ∧ n ≤ c ∧ c ≤ maxLen := by
  obtain ⟨f, V, ⟨A', c', hv, hm, h1⟩, h2⟩ := h
  cases hv
  rcases f with h0 | ⟨a, n', c', h0, hnc, hcm⟩
  · obtain ⟨rfl, hl, rfl⟩ : A = none ∧ q.length = 0 ∧ c = 0 := by simpa using h0
    refine ⟨⟨.inl (by rw [hl]), V, ⟨none, q.length, rfl, hm, h1⟩, h2⟩, rfl, .inl ⟨rfl, hl, rfl⟩, by omega, Nat.zero_le _⟩
  · obtain ⟨rfl, hl, rfl⟩ : A = some a ∧ q.length = n' ∧ c = c' := by simpa using h0
    subst hl
    exact ⟨⟨.inr ⟨a, _, _, rfl, Nat.le_refl _, by omega⟩, V, ⟨some a, q.length, rfl, hm, h1⟩, h2⟩, rfl, .inr ⟨a, rfl⟩, hnc, hcm⟩

set_option maxRecDepth 100000 in
set_option maxHeartbeats 4000000 in
theorem nSend_1 (n : Net) (Aq : Option Addr) (nq cq : Nat) (Aa : Option Addr) (na ca : Nat) (p : Pk) (Vd : Value) (w : World) (D : Nat) (hDw : D ≤ w.heap.size) (hN : Hid (NetAt w D (.slice Aq nq cq) (.slice Aa na ca) n)) (_hD : Hid (BytesAt w D Vd p.data)) (h : Hid (n.checkT = 60)) (hs : Hid (sendT n p = (Net.zero, 60))) : Calls Try.prog 11 #[.agg #[.slice Aq nq cq, .slice Aa na ca], p.v Vd] w (RetNet (sendT n p) D w) := by
  have HB0 : Below w.heap.size w (((w.alloc (.cells #[.slice Aq nq cq, .slice Aa na ca] 25)).alloc (.cells #[.int .i64 p.src, .int .i64 p.dst, Vd] 28)).alloc (.cells #[.slice none 0 0, .slice none 0 0] 25)) := ((((Below.refl w.heap.size w).alloc (by simp <;> omega) (.cells #[.slice Aq nq cq, .slice Aa na ca] 25)).alloc (by simp <;> omega) (.cells #[.int .i64 p.src, .int .i64 p.dst, Vd] 28)).alloc (by simp <;> omega) (.cells #[.slice none 0 0, .slice none 0 0] 25))
  have HNB := Lib.hid (((hN.out.more hDw).below HB0).more HB0.size)
  go_enter Try.func11, Try.ntmps11
  go_wp2_with fail
  refine (nCheck_at h HNB.out).mono ?_
  rintro e w1 ⟨rfl, hb⟩
  have X0 := ((((Box.newAt (n := w.heap.size) [.slice Aq nq cq, .slice Aa na ca] 25 (by simp)).alloc _).alloc _)).later hb
  have X1 := (((Box.newAt (n := w.heap.size + 1) [.int .i64 p.src, .int .i64 p.dst, Vd] 28 (by simp)).alloc _)).later hb
  have R := ((Box.newAt (n := w.heap.size + 1 + 1) [.slice none 0 0, .slice none 0 0] 25 (by simp))).later hb
  have hB : Below w.heap.size w w1 := (((((Below.refl w.heap.size w).alloc (by simp <;> omega) _).alloc (by simp <;> omega) _).alloc (by simp <;> omega) _)).trans (hb.mono (by simp <;> omega))
  clear hb
  have Rc0 : w1.cell? ⟨w.heap.size + 1 + 1, 0, none⟩ = some (.slice none 0 0) := R.cell 0
  have Rf0 : w1.frozen? ⟨w.heap.size + 1 + 1, 0, none⟩ = false := R.free 0
  have Rc1 : w1.cell? ⟨w.heap.size + 1 + 1, 1, none⟩ = some (.slice none 0 0) := R.cell 1
  have Rf1 : w1.frozen? ⟨w.heap.size + 1 + 1, 1, none⟩ = false := R.free 1
  have Rz : w.heap.size + 1 + 1 < w1.heap.size := R.lt
  have hle : w.heap.size ≤ w.heap.size + 1 + 1 := by omega
  have hres := hs
  go_wp2
  have hY := ((R.set 0 (.slice none 0 0)).set 1 (.slice none 0 0))
  have hB := ((hB.setCell (p := ⟨w.heap.size + 1 + 1, 0, none⟩) (by simp <;> omega) (.slice none 0 0)).setCell (p := ⟨w.heap.size + 1 + 1, 1, none⟩) (by simp <;> omega) (.slice none 0 0))
  generalize ((w1.setCell ⟨w.heap.size + 1 + 1, 0, none⟩ (.slice none 0 0)).setCell ⟨w.heap.size + 1 + 1, 1, none⟩ (.slice none 0 0)) = W at hY hB ⊢
  have y0 : W.cell? ⟨w.heap.size + 1 + 1, 0, none⟩ = some (.slice none 0 0) := hY.cell 0
  have y1 : W.cell? ⟨w.heap.size + 1 + 1, 1, none⟩ = some (.slice none 0 0) := hY.cell 1
  refine bodyPost_ret (v := .tuple #[.agg #[.slice none 0 0, .slice none 0 0], .int .i64 60]) (by simp [results, Try.results11, go_sem, y0, y1]) rfl ?_
  exact ⟨_, _, Net.zero, 60, rfl, hres, net2_zero _ _ _, hB⟩

set_option maxRecDepth 100000 in
set_option maxHeartbeats 4000000 in
theorem nSend_2 (n : Net) (Aq : Option Addr) (nq cq : Nat) (Aa : Option Addr) (na ca : Nat) (p : Pk) (Vd : Value) (w : World) (D : Nat) (hDw : D ≤ w.heap.size) (hN : Hid (NetAt w D (.slice Aq nq cq) (.slice Aa na ca) n)) (hD : Hid (BytesAt w D Vd p.data)) (h : Hid (n.checkT = 0)) (hp : Hid (p.okB = false)) (hs : Hid (sendT n p = (Net.zero, 60))) : Calls Try.prog 11 #[.agg #[.slice Aq nq cq, .slice Aa na ca], p.v Vd] w (RetNet (sendT n p) D w) := by
  have HB0 : Below w.heap.size w (((w.alloc (.cells #[.slice Aq nq cq, .slice Aa na ca] 25)).alloc (.cells #[.int .i64 p.src, .int .i64 p.dst, Vd] 28)).alloc (.cells #[.slice none 0 0, .slice none 0 0] 25)) := ((((Below.refl w.heap.size w).alloc (by simp <;> omega) (.cells #[.slice Aq nq cq, .slice Aa na ca] 25)).alloc (by simp <;> omega) (.cells #[.int .i64 p.src, .int .i64 p.dst, Vd] 28)).alloc (by simp <;> omega) (.cells #[.slice none 0 0, .slice none 0 0] 25))
  have HNB := Lib.hid (((hN.out.more hDw).below HB0).more HB0.size)
  go_enter Try.func11, Try.ntmps11
  go_wp2_with fail
  refine (nCheck_at h HNB.out).mono ?_
  rintro e w1 ⟨rfl, hb⟩
  have X0 := ((((Box.newAt (n := w.heap.size) [.slice Aq nq cq, .slice Aa na ca] 25 (by simp)).alloc _).alloc _)).later hb
  have X1 := (((Box.newAt (n := w.heap.size + 1) [.int .i64 p.src, .int .i64 p.dst, Vd] 28 (by simp)).alloc _)).later hb
  have R := ((Box.newAt (n := w.heap.size + 1 + 1) [.slice none 0 0, .slice none 0 0] 25 (by simp))).later hb
  have hB : Below w.heap.size w w1 := (((((Below.refl w.heap.size w).alloc (by simp <;> omega) _).alloc (by simp <;> omega) _).alloc (by simp <;> omega) _)).trans (hb.mono (by simp <;> omega))
  clear hb
  have X1c0 : w1.cell? ⟨w.heap.size + 1, 0, none⟩ = some (.int .i64 p.src) := X1.cell 0
  have X1f0 : w1.frozen? ⟨w.heap.size + 1, 0, none⟩ = false := X1.free 0
  have X1c1 : w1.cell? ⟨w.heap.size + 1, 1, none⟩ = some (.int .i64 p.dst) := X1.cell 1
  have X1f1 : w1.frozen? ⟨w.heap.size + 1, 1, none⟩ = false := X1.free 1
  have X1c2 : w1.cell? ⟨w.heap.size + 1, 2, none⟩ = some (Vd) := X1.cell 2
  have X1f2 : w1.frozen? ⟨w.heap.size + 1, 2, none⟩ = false := X1.free 2
  have X1z : w.heap.size + 1 < w1.heap.size := X1.lt
  go_wp2_with fail
  refine (nPacket_at hp (((hD.out.more hDw).below hB).more hB.size)).mono ?_
  rintro e w2 ⟨rfl, hb⟩
  clear X1c0 X1f0 X1c1 X1f1 X1c2 X1f2 X1z
  have X0 := X0.later hb
  have X1 := X1.later hb
  have R := R.later hb
  have hB := hB.trans (hb.mono hB.size)
  clear hb
  have Rc0 : w2.cell? ⟨w.heap.size + 1 + 1, 0, none⟩ = some (.slice none 0 0) := R.cell 0
  have Rf0 : w2.frozen? ⟨w.heap.size + 1 + 1, 0, none⟩ = false := R.free 0
  have Rc1 : w2.cell? ⟨w.heap.size + 1 + 1, 1, none⟩ = some (.slice none 0 0) := R.cell 1
  have Rf1 : w2.frozen? ⟨w.heap.size + 1 + 1, 1, none⟩ = false := R.free 1
  have Rz : w.heap.size + 1 + 1 < w2.heap.size := R.lt
  have hle : w.heap.size ≤ w.heap.size + 1 + 1 := by omega
  have hres := hs
  go_wp2
  have hY := ((R.set 0 (.slice none 0 0)).set 1 (.slice none 0 0))
  have hB := ((hB.setCell (p := ⟨w.heap.size + 1 + 1, 0, none⟩) (by simp <;> omega) (.slice none 0 0)).setCell (p := ⟨w.heap.size + 1 + 1, 1, none⟩) (by simp <;> omega) (.slice none 0 0))
  generalize ((w2.setCell ⟨w.heap.size + 1 + 1, 0, none⟩ (.slice none 0 0)).setCell ⟨w.heap.size + 1 + 1, 1, none⟩ (.slice none 0 0)) = W at hY hB ⊢
  have y0 : W.cell? ⟨w.heap.size + 1 + 1, 0, none⟩ = some (.slice none 0 0) := hY.cell 0
  have y1 : W.cell? ⟨w.heap.size + 1 + 1, 1, none⟩ = some (.slice none 0 0) := hY.cell 1
  refine bodyPost_ret (v := .tuple #[.agg #[.slice none 0 0, .slice none 0 0], .int .i64 60]) (by simp [results, Try.results11, go_sem, y0, y1]) rfl ?_
  exact ⟨_, _, Net.zero, 60, rfl, hres, net2_zero _ _ _, hB⟩

set_option maxRecDepth 100000 in
set_option maxHeartbeats 4000000 in
theorem nSend_3 (n : Net) (Aq : Option Addr) (nq cq : Nat) (Aa : Option Addr) (na ca : Nat) (p : Pk) (Vd : Value) (w : World) (D : Nat) (hDw : D ≤ w.heap.size) (hN : Hid (NetAt w D (.slice Aq nq cq) (.slice Aa na ca) n)) (hD : Hid (BytesAt w D Vd p.data)) (h : Hid (n.checkT = 0)) (hp : Hid (p.okB = true)) (_hl : (nq == 4096) = true) (hs : Hid (sendT n p = (Net.zero, 2))) : Calls Try.prog 11 #[.agg #[.slice Aq nq cq, .slice Aa na ca], p.v Vd] w (RetNet (sendT n p) D w) := by
  have HB0 : Below w.heap.size w (((w.alloc (.cells #[.slice Aq nq cq, .slice Aa na ca] 25)).alloc (.cells #[.int .i64 p.src, .int .i64 p.dst, Vd] 28)).alloc (.cells #[.slice none 0 0, .slice none 0 0] 25)) := ((((Below.refl w.heap.size w).alloc (by simp <;> omega) (.cells #[.slice Aq nq cq, .slice Aa na ca] 25)).alloc (by simp <;> omega) (.cells #[.int .i64 p.src, .int .i64 p.dst, Vd] 28)).alloc (by simp <;> omega) (.cells #[.slice none 0 0, .slice none 0 0] 25))
  have HNB := Lib.hid (((hN.out.more hDw).below HB0).more HB0.size)
  go_enter Try.func11, Try.ntmps11
  go_wp2_with fail
  refine (nCheck_at h HNB.out).mono ?_
  rintro e w1 ⟨rfl, hb⟩
  have X0 := ((((Box.newAt (n := w.heap.size) [.slice Aq nq cq, .slice Aa na ca] 25 (by simp)).alloc _).alloc _)).later hb
  have X1 := (((Box.newAt (n := w.heap.size + 1) [.int .i64 p.src, .int .i64 p.dst, Vd] 28 (by simp)).alloc _)).later hb
  have R := ((Box.newAt (n := w.heap.size + 1 + 1) [.slice none 0 0, .slice none 0 0] 25 (by simp))).later hb
  have hB : Below w.heap.size w w1 := (((((Below.refl w.heap.size w).alloc (by simp <;> omega) _).alloc (by simp <;> omega) _).alloc (by simp <;> omega) _)).trans (hb.mono (by simp <;> omega))
  clear hb
  have X1c0 : w1.cell? ⟨w.heap.size + 1, 0, none⟩ = some (.int .i64 p.src) := X1.cell 0
  have X1f0 : w1.frozen? ⟨w.heap.size + 1, 0, none⟩ = false := X1.free 0
  have X1c1 : w1.cell? ⟨w.heap.size + 1, 1, none⟩ = some (.int .i64 p.dst) := X1.cell 1
  have X1f1 : w1.frozen? ⟨w.heap.size + 1, 1, none⟩ = false := X1.free 1
  have X1c2 : w1.cell? ⟨w.heap.size + 1, 2, none⟩ = some (Vd) := X1.cell 2
  have X1f2 : w1.frozen? ⟨w.heap.size + 1, 2, none⟩ = false := X1.free 2
  have X1z : w.heap.size + 1 < w1.heap.size := X1.lt
  go_wp2_with fail
  refine (nPacket_at hp (((hD.out.more hDw).below hB).more hB.size)).mono ?_
  rintro e w2 ⟨rfl, hb⟩
  clear X1c0 X1f0 X1c1 X1f1 X1c2 X1f2 X1z
  have X0 := X0.later hb
  have X1 := X1.later hb
  have R := R.later hb
  have hB := hB.trans (hb.mono hB.size)
  clear hb
  have X0c0 : w2.cell? ⟨w.heap.size, 0, none⟩ = some (.slice Aq nq cq) := X0.cell 0
  have X0f0 : w2.frozen? ⟨w.heap.size, 0, none⟩ = false := X0.free 0
  have X0c1 : w2.cell? ⟨w.heap.size, 1, none⟩ = some (.slice Aa na ca) := X0.cell 1
  have X0f1 : w2.frozen? ⟨w.heap.size, 1, none⟩ = false := X0.free 1
  have X0z : w.heap.size < w2.heap.size := X0.lt
  have Rc0 : w2.cell? ⟨w.heap.size + 1 + 1, 0, none⟩ = some (.slice none 0 0) := R.cell 0
  have Rf0 : w2.frozen? ⟨w.heap.size + 1 + 1, 0, none⟩ = false := R.free 0
  have Rc1 : w2.cell? ⟨w.heap.size + 1 + 1, 1, none⟩ = some (.slice none 0 0) := R.cell 1
  have Rf1 : w2.frozen? ⟨w.heap.size + 1 + 1, 1, none⟩ = false := R.free 1
  have Rz : w.heap.size + 1 + 1 < w2.heap.size := R.lt
  have hle : w.heap.size ≤ w.heap.size + 1 + 1 := by omega
  have hres := hs
  go_wp2
  have hY := ((R.set 0 (.slice none 0 0)).set 1 (.slice none 0 0))
  have hB := ((hB.setCell (p := ⟨w.heap.size + 1 + 1, 0, none⟩) (by simp <;> omega) (.slice none 0 0)).setCell (p := ⟨w.heap.size + 1 + 1, 1, none⟩) (by simp <;> omega) (.slice none 0 0))
  generalize ((w2.setCell ⟨w.heap.size + 1 + 1, 0, none⟩ (.slice none 0 0)).setCell ⟨w.heap.size + 1 + 1, 1, none⟩ (.slice none 0 0)) = W at hY hB ⊢
  have y0 : W.cell? ⟨w.heap.size + 1 + 1, 0, none⟩ = some (.slice none 0 0) := hY.cell 0
  have y1 : W.cell? ⟨w.heap.size + 1 + 1, 1, none⟩ = some (.slice none 0 0) := hY.cell 1
  refine bodyPost_ret (v := .tuple #[.agg #[.slice none 0 0, .slice none 0 0], .int .i64 2]) (by simp [results, Try.results11, go_sem, y0, y1]) rfl ?_
  exact ⟨_, _, Net.zero, 2, rfl, hres, net2_zero _ _ _, hB⟩

set_option maxRecDepth 100000 in
set_option maxHeartbeats 4000000 in
theorem nSend_4n (n : Net) (Aq : Option Addr) (nq cq : Nat) (Aa : Option Addr) (na ca : Nat) (p : Pk) (Vd : Value) (w : World) (D : Nat) (hDw : D ≤ w.heap.size) (hN : Hid (NetAt w D (.slice Aq nq cq) (.slice Aa na ca) n)) (hD : Hid (BytesAt w D Vd p.data)) (h : Hid (n.checkT = 0)) (hp : Hid (p.okB = true)) (hnq : Hid (n.queue.length = nq)) (_hl : (nq == 4096) = false) (_hl2 : (nq : Int) < 4096) (hs : Hid (sendT n p = (⟨n.queue ++ [p], n.apart⟩, 0))) (hA : Aq = none ∧ nq = 0 ∧ cq = 0) : Calls Try.prog 11 #[.agg #[.slice Aq nq cq, .slice Aa na ca], p.v Vd] w (RetNet (sendT n p) D w) := by
  obtain ⟨rfl, rfl, rfl⟩ := hA
  have HB0 : Below w.heap.size w (((w.alloc (.cells #[.slice none 0 0, .slice Aa na ca] 25)).alloc (.cells #[.int .i64 p.src, .int .i64 p.dst, Vd] 28)).alloc (.cells #[.slice none 0 0, .slice none 0 0] 25)) := ((((Below.refl w.heap.size w).alloc (by simp <;> omega) (.cells #[.slice none 0 0, .slice Aa na ca] 25)).alloc (by simp <;> omega) (.cells #[.int .i64 p.src, .int .i64 p.dst, Vd] 28)).alloc (by simp <;> omega) (.cells #[.slice none 0 0, .slice none 0 0] 25))
  have HNB := Lib.hid (((hN.out.more hDw).below HB0).more HB0.size)
  go_enter Try.func11, Try.ntmps11
  go_wp2_with fail
  refine (nCheck_at h HNB.out).mono ?_
  rintro e w1 ⟨rfl, hb⟩
  have X0 := ((((Box.newAt (n := w.heap.size) [.slice none 0 0, .slice Aa na ca] 25 (by simp)).alloc _).alloc _)).later hb
  have X1 := (((Box.newAt (n := w.heap.size + 1) [.int .i64 p.src, .int .i64 p.dst, Vd] 28 (by simp)).alloc _)).later hb
  have R := ((Box.newAt (n := w.heap.size + 1 + 1) [.slice none 0 0, .slice none 0 0] 25 (by simp))).later hb
  have hB : Below w.heap.size w w1 := (((((Below.refl w.heap.size w).alloc (by simp <;> omega) _).alloc (by simp <;> omega) _).alloc (by simp <;> omega) _)).trans (hb.mono (by simp <;> omega))
  clear hb
  have X1c0 : w1.cell? ⟨w.heap.size + 1, 0, none⟩ = some (.int .i64 p.src) := X1.cell 0
  have X1f0 : w1.frozen? ⟨w.heap.size + 1, 0, none⟩ = false := X1.free 0
  have X1c1 : w1.cell? ⟨w.heap.size + 1, 1, none⟩ = some (.int .i64 p.dst) := X1.cell 1
  have X1f1 : w1.frozen? ⟨w.heap.size + 1, 1, none⟩ = false := X1.free 1
  have X1c2 : w1.cell? ⟨w.heap.size + 1, 2, none⟩ = some (Vd) := X1.cell 2
  have X1f2 : w1.frozen? ⟨w.heap.size + 1, 2, none⟩ = false := X1.free 2
  have X1z : w.heap.size + 1 < w1.heap.size := X1.lt
  go_wp2_with fail
  refine (nPacket_at hp (((hD.out.more hDw).below hB).more hB.size)).mono ?_
  rintro e w2 ⟨rfl, hb⟩
  clear X1c0 X1f0 X1c1 X1f1 X1c2 X1f2 X1z
  have X0 := X0.later hb
  have X1 := X1.later hb
  have R := R.later hb
  have hB := hB.trans (hb.mono hB.size)
  clear hb
  have hP := Box.new w2 [.int .i64 p.src, .int .i64 p.dst, Vd] 28
  have hBL := hB.alloc hB.size (.cells #[.int .i64 p.src, .int .i64 p.dst, Vd] 28)
  have hQ := (hN.out.below (hBL.mono hDw)).queue.clip.1
  have hI := pksIn_one hP (hD.out.below (hBL.mono hDw))
  obtain ⟨A', n', c', w5, hrun0, hq5, hb5⟩ := run_app_pk 22 (w := (w2.alloc (.cells #[.int .i64 p.src, .int .i64 p.dst, Vd] 28)).drew) hQ hI (Nat.le_trans hDw hBL.size) (.inl (by rw [hnq.out]; simp)) (by rw [hnq.out]; simp <;> omega)
  have hrun : (appF #[22, 22] 22 #[.slice none 0 0, .slice (some ⟨w2.heap.size, 0, none⟩) 1 1]).run Try.prog (w2.alloc (.cells #[.int .i64 p.src, .int .i64 p.dst, Vd] 28)).drew = .ok (.slice A' n' c') w5 := hrun0
  have hB5 : Below w.heap.size w w5 := hBL.drew.trans (hb5.mono hBL.size)
  have HQ5 := Lib.hid hq5
  have Y0 := ((X0.alloc (.cells #[.int .i64 p.src, .int .i64 p.dst, Vd] 28)).drew).later hb5
  have YR := ((R.alloc (.cells #[.int .i64 p.src, .int .i64 p.dst, Vd] 28)).drew).later hb5
  clear hq5 hQ hI hP hBL hrun0 hb5
  have y0 : w5.cell? ⟨w.heap.size, 0, none⟩ = some (.slice none 0 0) := Y0.cell 0
  have y1 : w5.cell? ⟨w.heap.size, 1, none⟩ = some (.slice Aa na ca) := Y0.cell 1
  have yf : w5.frozen? ⟨w.heap.size, 0, none⟩ = false := Y0.free 0
  have yz : w.heap.size < w5.heap.size := Y0.lt
  have r0 : w5.cell? ⟨w.heap.size + 1 + 1, 0, none⟩ = some (.slice none 0 0) := YR.cell 0
  have r1 : w5.cell? ⟨w.heap.size + 1 + 1, 1, none⟩ = some (.slice none 0 0) := YR.cell 1
  have rf0 : w5.frozen? ⟨w.heap.size + 1 + 1, 0, none⟩ = false := YR.free 0
  have rf1 : w5.frozen? ⟨w.heap.size + 1 + 1, 1, none⟩ = false := YR.free 1
  have rz : w.heap.size + 1 + 1 < w5.heap.size := YR.lt
  have X0c0 : w2.cell? ⟨w.heap.size, 0, none⟩ = some (.slice none 0 0) := X0.cell 0
  have X0f0 : w2.frozen? ⟨w.heap.size, 0, none⟩ = false := X0.free 0
  have X0c1 : w2.cell? ⟨w.heap.size, 1, none⟩ = some (.slice Aa na ca) := X0.cell 1
  have X0f1 : w2.frozen? ⟨w.heap.size, 1, none⟩ = false := X0.free 1
  have X0z : w.heap.size < w2.heap.size := X0.lt
  have X1c0 : w2.cell? ⟨w.heap.size + 1, 0, none⟩ = some (.int .i64 p.src) := X1.cell 0
  have X1f0 : w2.frozen? ⟨w.heap.size + 1, 0, none⟩ = false := X1.free 0
  have X1c1 : w2.cell? ⟨w.heap.size + 1, 1, none⟩ = some (.int .i64 p.dst) := X1.cell 1
  have X1f1 : w2.frozen? ⟨w.heap.size + 1, 1, none⟩ = false := X1.free 1
  have X1c2 : w2.cell? ⟨w.heap.size + 1, 2, none⟩ = some (Vd) := X1.cell 2
  have X1f2 : w2.frozen? ⟨w.heap.size + 1, 2, none⟩ = false := X1.free 2
  have X1z : w.heap.size + 1 < w2.heap.size := X1.lt
  go_wp2_with fail
  go_region
  go_wp2
  have hne : w.heap.size + 1 + 1 ≠ w.heap.size := by omega
  have hcur : w.heap.size + 1 + 1 < w2.heap.size := R.lt
  have ZR := ((YR.other (a := ⟨w.heap.size, 0, none⟩) hne (.slice A' n' c')).set 0 (.slice A' n' c')).set 1 (.slice Aa na ca)
  have HB := ((hB5.setCell (p := ⟨w.heap.size, 0, none⟩) (Nat.le_refl _) (.slice A' n' c')).setCell (p := ⟨w.heap.size + 1 + 1, 0, none⟩) (by simp; omega) (.slice A' n' c')).setCell (p := ⟨w.heap.size + 1 + 1, 1, none⟩) (by simp; omega) (.slice Aa na ca)
  have HQ := ((HQ5.out.set (a := ⟨w.heap.size, 0, none⟩) hDw (by simp; omega) (.slice A' n' c')).set (a := ⟨w.heap.size + 1 + 1, 0, none⟩) (by simp; omega) (by simp; omega) (.slice A' n' c')).set (a := ⟨w.heap.size + 1 + 1, 1, none⟩) (by simp; omega) (by simp; omega) (.slice Aa na ca)
  have hres := hs
  generalize ((w5.setCell ⟨w.heap.size, 0, none⟩ (.slice A' n' c')).setCell ⟨w.heap.size + 1 + 1, 0, none⟩ (.slice A' n' c')).setCell ⟨w.heap.size + 1 + 1, 1, none⟩ (.slice Aa na ca) = W at ZR HB HQ ⊢
  have z0 : W.cell? ⟨w.heap.size + 1 + 1, 0, none⟩ = some (.slice A' n' c') := ZR.cell 0
  have z1 : W.cell? ⟨w.heap.size + 1 + 1, 1, none⟩ = some (.slice Aa na ca) := ZR.cell 1
  refine bodyPost_ret (v := .tuple #[.agg #[(.slice A' n' c'), .slice Aa na ca], .int .i64 0]) (by simp [results, Try.results11, go_sem, z0, z1]) rfl ?_
  exact ⟨_, _, _, 0, rfl, hres, ⟨HQ.lower (by simp; omega), (hN.out.apart.below (HB.mono hDw)).two (Nat.le_trans hDw HB.size)⟩, HB⟩

set_option maxRecDepth 100000 in
set_option maxHeartbeats 4000000 in
theorem nSend_4s (n : Net) (Aq : Option Addr) (nq cq : Nat) (Aa : Option Addr) (na ca : Nat) (p : Pk) (Vd : Value) (w : World) (D : Nat) (hDw : D ≤ w.heap.size) (hN : Hid (NetAt w D (.slice Aq nq cq) (.slice Aa na ca) n)) (hD : Hid (BytesAt w D Vd p.data)) (h : Hid (n.checkT = 0)) (hp : Hid (p.okB = true)) (hnq : Hid (n.queue.length = nq)) (_hl : (nq == 4096) = false) (_hl2 : (nq : Int) < 4096) (hs : Hid (sendT n p = (⟨n.queue ++ [p], n.apart⟩, 0))) (a : Addr) (hA : Aq = some a) (_hcq : (nq : Int) ≤ (cq : Int)) (_hcm : cq ≤ maxLen) : Calls Try.prog 11 #[.agg #[.slice Aq nq cq, .slice Aa na ca], p.v Vd] w (RetNet (sendT n p) D w) := by
  subst hA
  unfold maxLen at _hcm
  have HB0 : Below w.heap.size w (((w.alloc (.cells #[.slice (some a) nq cq, .slice Aa na ca] 25)).alloc (.cells #[.int .i64 p.src, .int .i64 p.dst, Vd] 28)).alloc (.cells #[.slice none 0 0, .slice none 0 0] 25)) := ((((Below.refl w.heap.size w).alloc (by simp <;> omega) (.cells #[.slice (some a) nq cq, .slice Aa na ca] 25)).alloc (by simp <;> omega) (.cells #[.int .i64 p.src, .int .i64 p.dst, Vd] 28)).alloc (by simp <;> omega) (.cells #[.slice none 0 0, .slice none 0 0] 25))
  have HNB := Lib.hid (((hN.out.more hDw).below HB0).more HB0.size)
  go_enter Try.func11, Try.ntmps11
  go_wp2_with fail
  refine (nCheck_at h HNB.out).mono ?_
  rintro e w1 ⟨rfl, hb⟩
  have X0 := ((((Box.newAt (n := w.heap.size) [.slice (some a) nq cq, .slice Aa na ca] 25 (by simp)).alloc _).alloc _)).later hb
  have X1 := (((Box.newAt (n := w.heap.size + 1) [.int .i64 p.src, .int .i64 p.dst, Vd] 28 (by simp)).alloc _)).later hb
  have R := ((Box.newAt (n := w.heap.size + 1 + 1) [.slice none 0 0, .slice none 0 0] 25 (by simp))).later hb
  have hB : Below w.heap.size w w1 := (((((Below.refl w.heap.size w).alloc (by simp <;> omega) _).alloc (by simp <;> omega) _).alloc (by simp <;> omega) _)).trans (hb.mono (by simp <;> omega))
  clear hb
  have X1c0 : w1.cell? ⟨w.heap.size + 1, 0, none⟩ = some (.int .i64 p.src) := X1.cell 0
  have X1f0 : w1.frozen? ⟨w.heap.size + 1, 0, none⟩ = false := X1.free 0
  have X1c1 : w1.cell? ⟨w.heap.size + 1, 1, none⟩ = some (.int .i64 p.dst) := X1.cell 1
  have X1f1 : w1.frozen? ⟨w.heap.size + 1, 1, none⟩ = false := X1.free 1
  have X1c2 : w1.cell? ⟨w.heap.size + 1, 2, none⟩ = some (Vd) := X1.cell 2
  have X1f2 : w1.frozen? ⟨w.heap.size + 1, 2, none⟩ = false := X1.free 2
  have X1z : w.heap.size + 1 < w1.heap.size := X1.lt
  go_wp2_with fail
  refine (nPacket_at hp (((hD.out.more hDw).below hB).more hB.size)).mono ?_
  rintro e w2 ⟨rfl, hb⟩
  clear X1c0 X1f0 X1c1 X1f1 X1c2 X1f2 X1z
  have X0 := X0.later hb
  have X1 := X1.later hb
  have R := R.later hb
  have hB := hB.trans (hb.mono hB.size)
  clear hb
  have hP := Box.new w2 [.int .i64 p.src, .int .i64 p.dst, Vd] 28
  have hBL := hB.alloc hB.size (.cells #[.int .i64 p.src, .int .i64 p.dst, Vd] 28)
  have hQ := (hN.out.below (hBL.mono hDw)).queue.clip.1
  have hI := pksIn_one hP (hD.out.below (hBL.mono hDw))
  obtain ⟨A', n', c', w5, hrun0, hq5, hb5⟩ := run_app_pk 22 (w := (w2.alloc (.cells #[.int .i64 p.src, .int .i64 p.dst, Vd] 28)).drew) hQ hI (Nat.le_trans hDw hBL.size) (.inl (by rw [hnq.out]; simp)) (by rw [hnq.out]; simp <;> omega)
  have hrun : (appF #[22, 22] 22 #[.slice (some a) nq nq, .slice (some ⟨w2.heap.size, 0, none⟩) 1 1]).run Try.prog (w2.alloc (.cells #[.int .i64 p.src, .int .i64 p.dst, Vd] 28)).drew = .ok (.slice A' n' c') w5 := hrun0
  have hB5 : Below w.heap.size w w5 := hBL.drew.trans (hb5.mono hBL.size)
  have HQ5 := Lib.hid hq5
  have Y0 := ((X0.alloc (.cells #[.int .i64 p.src, .int .i64 p.dst, Vd] 28)).drew).later hb5
  have YR := ((R.alloc (.cells #[.int .i64 p.src, .int .i64 p.dst, Vd] 28)).drew).later hb5
  clear hq5 hQ hI hP hBL hrun0 hb5
  have y0 : w5.cell? ⟨w.heap.size, 0, none⟩ = some (.slice (some a) nq cq) := Y0.cell 0
  have y1 : w5.cell? ⟨w.heap.size, 1, none⟩ = some (.slice Aa na ca) := Y0.cell 1
  have yf : w5.frozen? ⟨w.heap.size, 0, none⟩ = false := Y0.free 0
  have yz : w.heap.size < w5.heap.size := Y0.lt
  have r0 : w5.cell? ⟨w.heap.size + 1 + 1, 0, none⟩ = some (.slice none 0 0) := YR.cell 0
  have r1 : w5.cell? ⟨w.heap.size + 1 + 1, 1, none⟩ = some (.slice none 0 0) := YR.cell 1
  have rf0 : w5.frozen? ⟨w.heap.size + 1 + 1, 0, none⟩ = false := YR.free 0
  have rf1 : w5.frozen? ⟨w.heap.size + 1 + 1, 1, none⟩ = false := YR.free 1
  have rz : w.heap.size + 1 + 1 < w5.heap.size := YR.lt
  have X0c0 : w2.cell? ⟨w.heap.size, 0, none⟩ = some (.slice (some a) nq cq) := X0.cell 0
  have X0f0 : w2.frozen? ⟨w.heap.size, 0, none⟩ = false := X0.free 0
  have X0c1 : w2.cell? ⟨w.heap.size, 1, none⟩ = some (.slice Aa na ca) := X0.cell 1
  have X0f1 : w2.frozen? ⟨w.heap.size, 1, none⟩ = false := X0.free 1
  have X0z : w.heap.size < w2.heap.size := X0.lt
  have X1c0 : w2.cell? ⟨w.heap.size + 1, 0, none⟩ = some (.int .i64 p.src) := X1.cell 0
  have X1f0 : w2.frozen? ⟨w.heap.size + 1, 0, none⟩ = false := X1.free 0
  have X1c1 : w2.cell? ⟨w.heap.size + 1, 1, none⟩ = some (.int .i64 p.dst) := X1.cell 1
  have X1f1 : w2.frozen? ⟨w.heap.size + 1, 1, none⟩ = false := X1.free 1
  have X1c2 : w2.cell? ⟨w.heap.size + 1, 2, none⟩ = some (Vd) := X1.cell 2
  have X1f2 : w2.frozen? ⟨w.heap.size + 1, 2, none⟩ = false := X1.free 2
  have X1z : w.heap.size + 1 < w2.heap.size := X1.lt
  go_wp2_with fail
  go_region
  go_wp2
  have hne : w.heap.size + 1 + 1 ≠ w.heap.size := by omega
  have hcur : w.heap.size + 1 + 1 < w2.heap.size := R.lt
  have ZR := ((YR.other (a := ⟨w.heap.size, 0, none⟩) hne (.slice A' n' c')).set 0 (.slice A' n' c')).set 1 (.slice Aa na ca)
  have HB := ((hB5.setCell (p := ⟨w.heap.size, 0, none⟩) (Nat.le_refl _) (.slice A' n' c')).setCell (p := ⟨w.heap.size + 1 + 1, 0, none⟩) (by simp; omega) (.slice A' n' c')).setCell (p := ⟨w.heap.size + 1 + 1, 1, none⟩) (by simp; omega) (.slice Aa na ca)
  have HQ := ((HQ5.out.set (a := ⟨w.heap.size, 0, none⟩) hDw (by simp; omega) (.slice A' n' c')).set (a := ⟨w.heap.size + 1 + 1, 0, none⟩) (by simp; omega) (by simp; omega) (.slice A' n' c')).set (a := ⟨w.heap.size + 1 + 1, 1, none⟩) (by simp; omega) (by simp; omega) (.slice Aa na ca)
  have hres := hs
  generalize ((w5.setCell ⟨w.heap.size, 0, none⟩ (.slice A' n' c')).setCell ⟨w.heap.size + 1 + 1, 0, none⟩ (.slice A' n' c')).setCell ⟨w.heap.size + 1 + 1, 1, none⟩ (.slice Aa na ca) = W at ZR HB HQ ⊢
  have z0 : W.cell? ⟨w.heap.size + 1 + 1, 0, none⟩ = some (.slice A' n' c') := ZR.cell 0
  have z1 : W.cell? ⟨w.heap.size + 1 + 1, 1, none⟩ = some (.slice Aa na ca) := ZR.cell 1
  refine bodyPost_ret (v := .tuple #[.agg #[(.slice A' n' c'), .slice Aa na ca], .int .i64 0]) (by simp [results, Try.results11, go_sem, z0, z1]) rfl ?_
  exact ⟨_, _, _, 0, rfl, hres, ⟨HQ.lower (by simp; omega), (hN.out.apart.below (HB.mono hDw)).two (Nat.le_trans hDw HB.size)⟩, HB⟩

theorem nSend_any (n : Net) (Vq Va : Value) (p : Pk) (Vd : Value) (w : World) (D : Nat) (hDw : D ≤ w.heap.size) (hN : NetAt w D Vq Va n) (hD : BytesAt w D Vd p.data) : Calls Try.prog 11 #[.agg #[Vq, Va], p.v Vd] w (RetNet (sendT n p) D w) := by
  obtain ⟨Aq, cq, rfl, hmq⟩ := hN.queue.form
  obtain ⟨Aa, ca, rfl, _⟩ := hN.apart.form
  rcases h : n.okB with _ | _
  · exact nSend_1 n Aq _ cq Aa _ ca p Vd w D hDw hN hD (check_bad h) (by rw [Hid, sendT, if_neg (by rw [h]; simp)])
  · rcases hp : p.okB with _ | _
    · exact nSend_2 n Aq _ cq Aa _ ca p Vd w D hDw hN hD (check_good h) hp (by rw [Hid, sendT, if_neg (by rw [hp]; simp)])
    · have hl : n.queue.length ≤ 4096 := by
        have := h
        simp only [Net.okB_eq, Bool.and_eq_true, decide_eq_true_eq] at this
        exact this.1
      by_cases h4 : n.queue.length = 4096
      · exact nSend_3 n Aq _ cq Aa _ ca p Vd w D hDw hN hD (check_good h) hp (by simp [h4]) (by rw [Hid, sendT, if_pos ⟨h, hp⟩, if_pos h4])
      · have hs : sendT n p = (⟨n.queue ++ [p], n.apart⟩, 0) := by rw [sendT, if_pos ⟨h, hp⟩, if_neg h4]
        obtain ⟨_, _, hf, hc, hcm⟩ := hN.queue.clip
        rcases hf with ⟨h1, h2, h3⟩ | ⟨a, ha⟩
        · exact nSend_4n n Aq _ cq Aa _ ca p Vd w D hDw hN hD (check_good h) hp rfl (by simp [h4]) (by omega) hs ⟨h1, h2, h3⟩
        · exact nSend_4s n Aq _ cq Aa _ ca p Vd w D hDw hN hD (check_good h) hp rfl (by simp [h4]) (by omega) hs a ha (by omega) hcm

end Go.Proofs.Ytndjpaiakodciaa
