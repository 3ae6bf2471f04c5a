/- Contract of Send of network. (Printed by gen_nf.py.) -/
import Derived.Test.YtmbifmmkccghfaaQKG
import Derived.Deep.DeepCutAuto
set_option linter.unusedVariables false
set_option linter.unusedSimpArgs false
namespace Go.Proofs.Ytmbifmmkccghfaa
open Go.RowKit

attribute [local go_sem ↓ high] app_named

theorem nCheck_at {n : Net} {Vq Va : Value} {w : World} {c : Int} (h : Hid (n.checkT = c)) (hN : NetAt w w.heap.size Vq Va n) : Calls Try.prog 38 #[.agg #[Vq, Va]] w fun e w' => e = .returned (.int .i64 c) ∧ Below w.heap.size w w' :=
  (nCheck_any n Vq Va w hN).mono fun _ _ ⟨he, hb⟩ => ⟨by rw [he, h.out], hb⟩
theorem nRCheck_at {n : Net} {Vq Va : Value} {w : World} {c : Int} (h : Hid (n.checkT = c)) (hN : NetAt w w.heap.size Vq Va n) : Calls Try.prog 40 #[.agg #[Vq, Va]] w fun e w' => e = .returned (.int .i64 c) ∧ Below w.heap.size w w' :=
  (nRCheck_any n Vq Va w hN).mono fun _ _ ⟨he, hb⟩ => ⟨by rw [he, h.out], hb⟩
theorem nPacket_at {p : Pk} {V : Value} {w : World} {q : Bool} (h : Hid (p.okB = q)) (hV : BytesAt w w.heap.size V p.data) : Calls Try.prog 54 #[p.v V] w fun e w' => e = .returned (.bool q) ∧ Below w.heap.size w w' :=
  (nPacket_any p V w hV).mono fun _ _ ⟨he, hb⟩ => ⟨by rw [he, h.out], hb⟩
def RetNet (t : Net × Int) (D : Nat) (w : World) (e : Ending) (w' : World) : Prop := ∃ (Vq Va : Value) (m : Net) (er : Int), e = .returned (.tuple #[.agg #[Vq, Va], .int .i64 er]) ∧ Hid (t = (m, er)) ∧ Hid (Net2 w' D w.heap.size Vq Va m) ∧ Below w.heap.size w w'
theorem PksAt.clip {w : World} {B : Nat} {A : Option Addr} {n c : Nat} {q : List Pk} (h : PksAt w B (.slice A n c) q) : PksAt w B (.slice A n n) q ∧ (n = q.length) ∧ ((A = none ∧ n = 0 ∧ c = 0) ∨ ∃ a, A = some a) ∧ n ≤ c ∧ c ≤ maxLen := by
  obtain ⟨f, V, ⟨A', c', hv, hm, h1⟩, h2⟩ := h
  cases hv
  rcases f with h0 | ⟨a, n', c', h0, hnc, hcm⟩
  · obtain ⟨rfl, hl, rfl⟩ : A = none ∧ q.length = 0 ∧ c = 0 := by simpa using h0
    refine ⟨⟨.inl (by rw [hl]), V, ⟨none, q.length, rfl, hm, h1⟩, h2⟩, rfl, .inl ⟨rfl, hl, rfl⟩, by omega, Nat.zero_le _⟩
  · obtain ⟨rfl, hl, rfl⟩ : A = some a ∧ q.length = n' ∧ c = c' := by simpa using h0
    subst hl
    exact ⟨⟨.inr ⟨a, _, _, rfl, Nat.le_refl _, by omega⟩, V, ⟨some a, q.length, rfl, hm, h1⟩, h2⟩, rfl, .inr ⟨a, rfl⟩, hnc, hcm⟩

set_option maxRecDepth 100000 in
set_option maxHeartbeats 4000000 in
theorem nSend_1 (n : Net) (Aq : Option Addr) (nq cq : Nat) (Aa : Option Addr) (na ca : Nat) (p : Pk) (Vd : Value) (w : World) (D : Nat) (hDw : D ≤ w.heap.size) (hN : Hid (NetAt w D (.slice Aq nq cq) (.slice Aa na ca) n)) (_hD : Hid (BytesAt w D Vd p.data)) (h : Hid (n.checkT = 60)) (hs : Hid (sendT n p = (Net.zero, 60))) : Calls Try.prog 32 #[.agg #[.slice Aq nq cq, .slice Aa na ca], p.v Vd] w (RetNet (sendT n p) D w) := by
  have HB0 : Below w.heap.size w (((w.alloc (.cells #[.slice Aq nq cq, .slice Aa na ca] 25)).alloc (.cells #[.int .i64 p.src, .int .i64 p.dst, Vd] 51)).alloc (.cells #[.slice none 0 0, .slice none 0 0] 25)) := ((((Below.refl w.heap.size w).alloc (by simp <;> omega) (.cells #[.slice Aq nq cq, .slice Aa na ca] 25)).alloc (by simp <;> omega) (.cells #[.int .i64 p.src, .int .i64 p.dst, Vd] 51)).alloc (by simp <;> omega) (.cells #[.slice none 0 0, .slice none 0 0] 25))
  have HNB := Lib.hid (((hN.out.more hDw).below HB0).more HB0.size)
  go_enter Try.func32, Try.ntmps32
  go_wp2_with fail
  refine (nCheck_at h HNB.out).mono ?_
  rintro e w1 ⟨rfl, hb⟩
  have X0 := ((((Box.newAt (n := w.heap.size) [.slice Aq nq cq, .slice Aa na ca] 25 (by simp)).alloc _).alloc _)).later hb
  have X1 := (((Box.newAt (n := w.heap.size + 1) [.int .i64 p.src, .int .i64 p.dst, Vd] 51 (by simp)).alloc _)).later hb
  have R := ((Box.newAt (n := w.heap.size + 1 + 1) [.slice none 0 0, .slice none 0 0] 25 (by simp))).later hb
  have hB : Below w.heap.size w w1 := (((((Below.refl w.heap.size w).alloc (by simp <;> omega) _).alloc (by simp <;> omega) _).alloc (by simp <;> omega) _)).trans (hb.mono (by simp <;> omega))
  clear hb
  have Rc0 : w1.cell? ⟨w.heap.size + 1 + 1, 0, none⟩ = some (.slice none 0 0) := R.cell 0
  have Rf0 : w1.frozen? ⟨w.heap.size + 1 + 1, 0, none⟩ = false := R.free 0
  have Rc1 : w1.cell? ⟨w.heap.size + 1 + 1, 1, none⟩ = some (.slice none 0 0) := R.cell 1
  have Rf1 : w1.frozen? ⟨w.heap.size + 1 + 1, 1, none⟩ = false := R.free 1
  have Rz : w.heap.size + 1 + 1 < w1.heap.size := R.lt
  have hle : w.heap.size ≤ w.heap.size + 1 + 1 := by omega
  have hres := hs
  go_wp2
  have hY := ((R.set 0 (.slice none 0 0)).set 1 (.slice none 0 0))
  have hB := ((hB.setCell (p := ⟨w.heap.size + 1 + 1, 0, none⟩) (by simp <;> omega) (.slice none 0 0)).setCell (p := ⟨w.heap.size + 1 + 1, 1, none⟩) (by simp <;> omega) (.slice none 0 0))
  generalize ((w1.setCell ⟨w.heap.size + 1 + 1, 0, none⟩ (.slice none 0 0)).setCell ⟨w.heap.size + 1 + 1, 1, none⟩ (.slice none 0 0)) = W at hY hB ⊢
  have y0 : W.cell? ⟨w.heap.size + 1 + 1, 0, none⟩ = some (.slice none 0 0) := hY.cell 0
  have y1 : W.cell? ⟨w.heap.size + 1 + 1, 1, none⟩ = some (.slice none 0 0) := hY.cell 1
  refine bodyPost_ret (v := .tuple #[.agg #[.slice none 0 0, .slice none 0 0], .int .i64 60]) (by simp [results, Try.results32, go_sem, y0, y1]) rfl ?_
  exact ⟨_, _, Net.zero, 60, rfl, hres, net2_zero _ _ _, hB⟩

set_option maxRecDepth 100000 in
set_option maxHeartbeats 4000000 in
theorem nSend_2 (n : Net) (Aq : Option Addr) (nq cq : Nat) (Aa : Option Addr) (na ca : Nat) (p : Pk) (Vd : Value) (w : World) (D : Nat) (hDw : D ≤ w.heap.size) (hN : Hid (NetAt w D (.slice Aq nq cq) (.slice Aa na ca) n)) (hD : Hid (BytesAt w D Vd p.data)) (h : Hid (n.checkT = 0)) (hp : Hid (p.okB = false)) (hs : Hid (sendT n p = (Net.zero, 60))) : Calls Try.prog 32 #[.agg #[.slice Aq nq cq, .slice Aa na ca], p.v Vd] w (RetNet (sendT n p) D w) := by
  have HB0 : Below w.heap.size w (((w.alloc (.cells #[.slice Aq nq cq, .slice Aa na ca] 25)).alloc (.cells #[.int .i64 p.src, .int .i64 p.dst, Vd] 51)).alloc (.cells #[.slice none 0 0, .slice none 0 0] 25)) := ((((Below.refl w.heap.size w).alloc (by simp <;> omega) (.cells #[.slice Aq nq cq, .slice Aa na ca] 25)).alloc (by simp <;> omega) (.cells #[.int .i64 p.src, .int .i64 p.dst, Vd] 51)).alloc (by simp <;> omega) (.cells #[.slice none 0 0, .slice none 0 0] 25))
  have HNB := Lib.hid (((hN.out.more hDw).below HB0).more HB0.size)
  go_enter Try.func32, Try.ntmps32
  go_wp2_with fail
  refine (nCheck_at h HNB.out).mono ?_
  rintro e w1 ⟨rfl, hb⟩
  have X0 := ((((Box.newAt (n := w.heap.size) [.slice Aq nq cq, .slice Aa na ca] 25 (by simp)).alloc _).alloc _)).later hb
  have X1 := (((Box.newAt (n := w.heap.size + 1) [.int .i64 p.src, .int .i64 p.dst, Vd] 51 (by simp)).alloc _)).later hb
  have R := ((Box.newAt (n := w.heap.size + 1 + 1) [.slice none 0 0, .slice none 0 0] 25 (by simp))).later hb
  have hB : Below w.heap.size w w1 := (((((Below.refl w.heap.size w).alloc (by simp <;> omega) _).alloc (by simp <;> omega) _).alloc (by simp <;> omega) _)).trans (hb.mono (by simp <;> omega))
  clear hb
  have X1c0 : w1.cell? ⟨w.heap.size + 1, 0, none⟩ = some (.int .i64 p.src) := X1.cell 0
  have X1f0 : w1.frozen? ⟨w.heap.size + 1, 0, none⟩ = false := X1.free 0
  have X1c1 : w1.cell? ⟨w.heap.size + 1, 1, none⟩ = some (.int .i64 p.dst) := X1.cell 1
  have X1f1 : w1.frozen? ⟨w.heap.size + 1, 1, none⟩ = false := X1.free 1
  have X1c2 : w1.cell? ⟨w.heap.size + 1, 2, none⟩ = some (Vd) := X1.cell 2
  have X1f2 : w1.frozen? ⟨w.heap.size + 1, 2, none⟩ = false := X1.free 2
  have X1z : w.heap.size + 1 < w1.heap.size := X1.lt
  go_wp2_with fail
  refine (nPacket_at hp (((hD.out.more hDw).below hB).more hB.size)).mono ?_
  rintro e w2 ⟨rfl, hb⟩
  clear X1c0 X1f0 X1c1 X1f1 X1c2 X1f2 X1z
  have X0 := X0.later hb
  have X1 := X1.later hb
  have R := R.later hb
  have hB := hB.trans (hb.mono hB.size)
  clear hb
  have Rc0 : w2.cell? ⟨w.heap.size + 1 + 1, 0, none⟩ = some (.slice none 0 0) := R.cell 0
  have Rf0 : w2.frozen? ⟨w.heap.size + 1 + 1, 0, none⟩ = false := R.free 0
  have Rc1 : w2.cell? ⟨w.heap.size + 1 + 1, 1, none⟩ = some (.slice none 0 0) := R.cell 1
  have Rf1 : w2.frozen? ⟨w.heap.size + 1 + 1, 1, none⟩ = false := R.free 1
  have Rz : w.heap.size + 1 + 1 < w2.heap.size := R.lt
  have hle : w.heap.size ≤ w.heap.size + 1 + 1 := by omega
  have hres := hs
  go_wp2
  have hY := ((R.set 0 (.slice none 0 0)).set 1 (.slice none 0 0))
  have hB := ((hB.setCell (p := ⟨w.heap.size + 1 + 1, 0, none⟩) (by simp <;> omega) (.slice none 0 0)).setCell (p := ⟨w.heap.size + 1 + 1, 1, none⟩) (by simp <;> omega) (.slice none 0 0))
  generalize ((w2.setCell ⟨w.heap.size + 1 + 1, 0, none⟩ (.slice none 0 0)).setCell ⟨w.heap.size + 1 + 1, 1, none⟩ (.slice none 0 0)) = W at hY hB ⊢
  have y0 : W.cell? ⟨w.heap.size + 1 + 1, 0, none⟩ = some (.slice none 0 0) := hY.cell 0
  have y1 : W.cell? ⟨w.heap.size + 1 + 1, 1, none⟩ = some (.slice none 0 0) := hY.cell 1
  refine bodyPost_ret (v := .tuple #[.agg #[.slice none 0 0, .slice none 0 0], .int .i64 60]) (by simp [results, Try.results32, go_sem, y0, y1]) rfl ?_
  exact ⟨_, _, Net.zero, 60, rfl, hres, net2_zero _ _ _, hB⟩

set_option maxRecDepth 100000 in
set_option maxHeartbeats 4000000 in
theorem nSend_3 (n : Net) (Aq : Option Addr) (nq cq : Nat) (Aa : Option Addr) (na ca : Nat) (p : Pk) (Vd : Value) (w : World) (D : Nat) (hDw : D ≤ w.heap.size) (hN : Hid (NetAt w D (.slice Aq nq cq) (.slice Aa na ca) n)) (hD : Hid (BytesAt w D Vd p.data)) (h : Hid (n.checkT = 0)) (hp : Hid (p.okB = true)) (_hl : (nq == 4096) = true) (hs : Hid (sendT n p = (Net.zero, 2))) : Calls Try.prog 32 #[.agg #[.slice Aq nq cq, .slice Aa na ca], p.v Vd] w (RetNet (sendT n p) D w) := by
  have HB0 : Below w.heap.size w (((w.alloc (.cells #[.slice Aq nq cq, .slice Aa na ca] 25)).alloc (.cells #[.int .i64 p.src, .int .i64 p.dst, Vd] 51)).alloc (.cells #[.slice none 0 0, .slice none 0 0] 25)) := ((((Below.refl w.heap.size w).alloc (by simp <;> omega) (.cells #[.slice Aq nq cq, .slice Aa na ca] 25)).alloc (by simp <;> omega) (.cells #[.int .i64 p.src, .int .i64 p.dst, Vd] 51)).alloc (by simp <;> omega) (.cells #[.slice none 0 0, .slice none 0 0] 25))
  have HNB := Lib.hid (((hN.out.more hDw).below HB0).more HB0.size)
  go_enter Try.func32, Try.ntmps32
  go_wp2_with fail
  refine (nCheck_at h HNB.out).mono ?_
  rintro e w1 ⟨rfl, hb⟩
  have X0 := ((((Box.newAt (n := w.heap.size) [.slice Aq nq cq, .slice Aa na ca] 25 (by simp)).alloc _).alloc _)).later hb
  have X1 := (((Box.newAt (n := w.heap.size + 1) [.int .i64 p.src, .int .i64 p.dst, Vd] 51 (by simp)).alloc _)).later hb
  have R := ((Box.newAt (n := w.heap.size + 1 + 1) [.slice none 0 0, .slice none 0 0] 25 (by simp))).later hb
  have hB : Below w.heap.size w w1 := (((((Below.refl w.heap.size w).alloc (by simp <;> omega) _).alloc (by simp <;> omega) _).alloc (by simp <;> omega) _)).trans (hb.mono (by simp <;> omega))
  clear hb
  have X1c0 : w1.cell? ⟨w.heap.size + 1, 0, none⟩ = some (.int .i64 p.src) := X1.cell 0
  have X1f0 : w1.frozen? ⟨w.heap.size + 1, 0, none⟩ = false := X1.free 0
  have X1c1 : w1.cell? ⟨w.heap.size + 1, 1, none⟩ = some (.int .i64 p.dst) := X1.cell 1
  have X1f1 : w1.frozen? ⟨w.heap.size + 1, 1, none⟩ = false := X1.free 1
  have X1c2 : w1.cell? ⟨w.heap.size + 1, 2, none⟩ = some (Vd) := X1.cell 2
  have X1f2 : w1.frozen? ⟨w.heap.size + 1, 2, none⟩ = false := X1.free 2
  have X1z : w.heap.size + 1 < w1.heap.size := X1.lt
  go_wp2_with fail
  refine (nPacket_at hp (((hD.out.more hDw).below hB).more hB.size)).mono ?_
  rintro e w2 ⟨rfl, hb⟩
  clear X1c0 X1f0 X1c1 X1f1 X1c2 X1f2 X1z
  have X0 := X0.later hb
  have X1 := X1.later hb
  have R := R.later hb
  have hB := hB.trans (hb.mono hB.size)
  clear hb
  have X0c0 : w2.cell? ⟨w.heap.size, 0, none⟩ = some (.slice Aq nq cq) := X0.cell 0
  have X0f0 : w2.frozen? ⟨w.heap.size, 0, none⟩ = false := X0.free 0
  have X0c1 : w2.cell? ⟨w.heap.size, 1, none⟩ = some (.slice Aa na ca) := X0.cell 1
  have X0f1 : w2.frozen? ⟨w.heap.size, 1, none⟩ = false := X0.free 1
  have X0z : w.heap.size < w2.heap.size := X0.lt
  have Rc0 : w2.cell? ⟨w.heap.size + 1 + 1, 0, none⟩ = some (.slice none 0 0) := R.cell 0
  have Rf0 : w2.frozen? ⟨w.heap.size + 1 + 1, 0, none⟩ = false := R.free 0
  have Rc1 : w2.cell? ⟨w.heap.size + 1 + 1, 1, none⟩ = some (.slice none 0 0) := R.cell 1
  have Rf1 : w2.frozen? ⟨w.heap.size + 1 + 1, 1, none⟩ = false := R.free 1
  have Rz : w.heap.size + 1 + 1 < w2.heap.size := R.lt
  have hle : w.heap.size ≤ w.heap.size + 1 + 1 := by omega
  have hres := hs
  go_wp2
  have hY := ((R.set 0 (.slice none 0 0)).set 1 (.slice none 0 0))
  have hB := ((hB.setCell (p := ⟨w.heap.size + 1 + 1, 0, none⟩) (by simp <;> omega) (.slice none 0 0)).setCell (p := ⟨w.heap.size + 1 + 1, 1, none⟩) (by simp <;> omega) (.slice none 0 0))
  generalize ((w2.setCell ⟨w.heap.size + 1 + 1, 0, none⟩ (.slice none 0 0)).setCell ⟨w.heap.size + 1 + 1, 1, none⟩ (.slice none 0 0)) = W at hY hB ⊢
  have y0 : W.cell? ⟨w.heap.size + 1 + 1, 0, none⟩ = some (.slice none 0 0) := hY.cell 0
  have y1 : W.cell? ⟨w.heap.size + 1 + 1, 1, none⟩ = some (.slice none 0 0) := hY.cell 1
  refine bodyPost_ret (v := .tuple #[.agg #[.slice none 0 0, .slice none 0 0], .int .i64 2]) (by simp [results, Try.results32, go_sem, y0, y1]) rfl ?_
  exact ⟨_, _, Net.zero, 2, rfl, hres, net2_zero _ _ _, hB⟩

set_option maxRecDepth 100000 in
set_option maxHeartbeats 4000000 in
theorem nSend_4n (n : Net) (Aq : Option Addr) (nq cq : Nat) (Aa : Option Addr) (na ca : Nat) (p : Pk) (Vd : Value) (w : World) (D : Nat) (hDw : D ≤ w.heap.size) (hN : Hid (NetAt w D (.slice Aq nq cq) (.slice Aa na ca) n)) (hD : Hid (BytesAt w D Vd p.data)) (h : Hid (n.checkT = 0)) (hp : Hid (p.okB = true)) (hnq : Hid (n.queue.length = nq)) (_hl : (nq == 4096) = false) (_hl2 : (nq : Int) < 4096) (hs : Hid (sendT n p = (⟨n.queue ++ [p], n.apart⟩, 0))) (hA : Aq = none ∧ nq = 0 ∧ cq = 0) : Calls Try.prog 32 #[.agg #[.slice Aq nq cq, .slice Aa na ca], p.v Vd] w (RetNet (sendT n p) D w) := by
  obtain ⟨rfl, rfl, rfl⟩ := hA
  have HB0 : Below w.heap.size w (((w.alloc (.cells #[.slice none 0 0, .slice Aa na ca] 25)).alloc (.cells #[.int .i64 p.src, .int .i64 p.dst, Vd] 51)).alloc (.cells #[.slice none 0 0, .slice none 0 0] 25)) := ((((Below.refl w.heap.size w).alloc (by simp <;> omega) (.cells #[.slice none 0 0, .slice Aa na ca] 25)).alloc (by simp <;> omega) (.cells #[.int .i64 p.src, .int .i64 p.dst, Vd] 51)).alloc (by simp <;> omega) (.cells #[.slice none 0 0, .slice none 0 0] 25))
  have HNB := Lib.hid (((hN.out.more hDw).below HB0).more HB0.size)
  go_enter Try.func32, Try.ntmps32
  go_wp2_with fail
  refine (nCheck_at h HNB.out).mono ?_
  rintro e w1 ⟨rfl, hb⟩
  have X0 := ((((Box.newAt (n := w.heap.size) [.slice none 0 0, .slice Aa na ca] 25 (by simp)).alloc _).alloc _)).later hb
  have X1 := (((Box.newAt (n := w.heap.size + 1) [.int .i64 p.src, .int .i64 p.dst, Vd] 51 (by simp)).alloc _)).later hb
  have R := ((Box.newAt (n := w.heap.size + 1 + 1) [.slice none 0 0, .slice none 0 0] 25 (by simp))).later hb
  have hB : Below w.heap.size w w1 := (((((Below.refl w.heap.size w).alloc (by simp <;> omega) _).alloc (by simp <;> omega) _).alloc (by simp <;> omega) _)).trans (hb.mono (by simp <;> omega))
  clear hb
  have X1c0 : w1.cell? ⟨w.heap.size + 1, 0, none⟩ = some (.int .i64 p.src) := X1.cell 0
  have X1f0 : w1.frozen? ⟨w.heap.size + 1, 0, none⟩ = false := X1.free 0
  have X1c1 : w1.cell? ⟨w.heap.size + 1, 1, none⟩ = some (.int .i64 p.dst) := X1.cell 1
  have X1f1 : w1.frozen? ⟨w.heap.size + 1, 1, none⟩ = false := X1.free 1
  have X1c2 : w1.cell? ⟨w.heap.size + 1, 2, none⟩ = some (Vd) := X1.cell 2
  have X1f2 : w1.frozen? ⟨w.heap.size + 1, 2, none⟩ = false := X1.free 2
  have X1z : w.heap.size + 1 < w1.heap.size := X1.lt
  go_wp2_with fail
  refine (nPacket_at hp (((hD.out.more hDw).below hB).more hB.size)).mono ?_
  rintro e w2 ⟨rfl, hb⟩
  clear X1c0 X1f0 X1c1 X1f1 X1c2 X1f2 X1z
  have X0 := X0.later hb
  have X1 := X1.later hb
  have R := R.later hb
  have hB := hB.trans (hb.mono hB.size)
  clear hb
  have hP := Box.new w2 [.int .i64 p.src, .int .i64 p.dst, Vd] 51
  have hBL := hB.alloc hB.size (.cells #[.int .i64 p.src, .int .i64 p.dst, Vd] 51)
  have hQ := (hN.out.below (hBL.mono hDw)).queue.clip.1
  have hI := pksIn_one hP (hD.out.below (hBL.mono hDw))
  obtain ⟨A', n', c', w5, hrun0, hq5, hb5⟩ := run_app_pk 22 (w := (w2.alloc (.cells #[.int .i64 p.src, .int .i64 p.dst, Vd] 51)).drew) hQ hI (Nat.le_trans hDw hBL.size) (.inl (by rw [hnq.out]; simp)) (by rw [hnq.out]; simp <;> omega)
  have hrun : (appF #[22, 22] 22 #[.slice none 0 0, .slice (some ⟨w2.heap.size, 0, none⟩) 1 1]).run Try.prog (w2.alloc (.cells #[.int .i64 p.src, .int .i64 p.dst, Vd] 51)).drew = .ok (.slice A' n' c') w5 := hrun0
  have hB5 : Below w.heap.size w w5 := hBL.drew.trans (hb5.mono hBL.size)
  have HQ5 := Lib.hid hq5
  have Y0 := ((X0.alloc (.cells #[.int .i64 p.src, .int .i64 p.dst, Vd] 51)).drew).later hb5
  have YR := ((R.alloc (.cells #[.int .i64 p.src, .int .i64 p.dst, Vd] 51)).drew).later hb5
  clear hq5 hQ hI hP hBL hrun0 hb5
  have y0 : w5.cell? ⟨w.heap.size, 0, none⟩ = some (.slice none 0 0) := Y0.cell 0
  have y1 : w5.cell? ⟨w.heap.size, 1, none⟩ = some (.slice Aa na ca) := Y0.cell 1
  have yf : w5.frozen? ⟨w.heap.size, 0, none⟩ = false := Y0.free 0
  have yz : w.heap.size < w5.heap.size := Y0.lt
  have r0 : w5.cell? ⟨w.heap.size + 1 + 1, 0, none⟩ = some (.slice none 0 0) := YR.cell 0
  have r1 : w5.cell? ⟨w.heap.size + 1 + 1, 1, none⟩ = some (.slice none 0 0) := YR.cell 1
  have rf0 : w5.frozen? ⟨w.heap.size + 1 + 1, 0, none⟩ = false := YR.free 0
  have rf1 : w5.frozen? ⟨w.heap.size + 1 + 1, 1, none⟩ = false := YR.free 1
  have rz : w.heap.size + 1 + 1 < w5.heap.size := YR.lt
  have X0c0 : w2.cell? ⟨w.heap.size, 0, none⟩ = some (.slice none 0 0) := X0.cell 0
  have X0f0 : w2.frozen? ⟨w.heap.size, 0, none⟩ = false := X0.free 0
  have X0c1 : w2.cell? ⟨w.heap.size, 1, none⟩ = some (.slice Aa na ca) := X0.cell 1
  have X0f1 : w2.frozen? ⟨w.heap.size, 1, none⟩ = false := X0.free 1
  have X0z : w.heap.size < w2.heap.size := X0.lt
  have X1c0 : w2.cell? ⟨w.heap.size + 1, 0, none⟩ = some (.int .i64 p.src) := X1.cell 0
  have X1f0 : w2.frozen? ⟨w.heap.size + 1, 0, none⟩ = false := X1.free 0
  have X1c1 : w2.cell? ⟨w.heap.size + 1, 1, none⟩ = some (.int .i64 p.dst) := X1.cell 1
  have X1f1 : w2.frozen? ⟨w.heap.size + 1, 1, none⟩ = false := X1.free 1
  have X1c2 : w2.cell? ⟨w.heap.size + 1, 2, none⟩ = some (Vd) := X1.cell 2
  have X1f2 : w2.frozen? ⟨w.heap.size + 1, 2, none⟩ = false := X1.free 2
  have X1z : w.heap.size + 1 < w2.heap.size := X1.lt
  go_wp2_with fail
  go_region
  go_wp2
  have hne : w.heap.size + 1 + 1 ≠ w.heap.size := by omega
  have hcur : w.heap.size + 1 + 1 < w2.heap.size := R.lt
  have ZR := ((YR.other (a := ⟨w.heap.size, 0, none⟩) hne (.slice A' n' c')).set 0 (.slice A' n' c')).set 1 (.slice Aa na ca)
  have HB := ((hB5.setCell (p := ⟨w.heap.size, 0, none⟩) (Nat.le_refl _) (.slice A' n' c')).setCell (p := ⟨w.heap.size + 1 + 1, 0, none⟩) (by simp; omega) (.slice A' n' c')).setCell (p := ⟨w.heap.size + 1 + 1, 1, none⟩) (by simp; omega) (.slice Aa na ca)
  have HQ := ((HQ5.out.set (a := ⟨w.heap.size, 0, none⟩) hDw (by simp; omega) (.slice A' n' c')).set (a := ⟨w.heap.size + 1 + 1, 0, none⟩) (by simp; omega) (by simp; omega) (.slice A' n' c')).set (a := ⟨w.heap.size + 1 + 1, 1, none⟩) (by simp; omega) (by simp; omega) (.slice Aa na ca)
  have hres := hs
  generalize ((w5.setCell ⟨w.heap.size, 0, none⟩ (.slice A' n' c')).setCell ⟨w.heap.size + 1 + 1, 0, none⟩ (.slice A' n' c')).setCell ⟨w.heap.size + 1 + 1, 1, none⟩ (.slice Aa na ca) = W at ZR HB HQ ⊢
  have z0 : W.cell? ⟨w.heap.size + 1 + 1, 0, none⟩ = some (.slice A' n' c') := ZR.cell 0
  have z1 : W.cell? ⟨w.heap.size + 1 + 1, 1, none⟩ = some (.slice Aa na ca) := ZR.cell 1
  refine bodyPost_ret (v := .tuple #[.agg #[(.slice A' n' c'), .slice Aa na ca], .int .i64 0]) (by simp [results, Try.results32, go_sem, z0, z1]) rfl ?_
  exact ⟨_, _, _, 0, rfl, hres, ⟨HQ.lower (by simp; omega), (hN.out.apart.below (HB.mono hDw)).two (Nat.le_trans hDw HB.size)⟩, HB⟩

set_option maxRecDepth 100000 in
set_option maxHeartbeats 4000000 in
theorem nSend_4s (n : Net) (Aq : Option Addr) (nq cq : Nat) (Aa : Option Addr) (na ca : Nat) (p : Pk) (Vd : Value) (w : World) (D : Nat) (hDw : D ≤ w.heap.size) (hN : Hid (NetAt w D (.slice Aq nq cq) (.slice Aa na ca) n)) (hD : Hid (BytesAt w D Vd p.data)) (h : Hid (n.checkT = 0)) (hp : Hid (p.okB = true)) (hnq : Hid (n.queue.length = nq)) (_hl : (nq == 4096) = false) (_hl2 : (nq : Int) < 4096) (hs : Hid (sendT n p = (⟨n.queue ++ [p], n.apart⟩, 0))) (a : Addr) (hA : Aq = some a) (_hcq : (nq : Int) ≤ (cq : Int)) (_hcm : cq ≤ maxLen) : Calls Try.prog 32 #[.agg #[.slice Aq nq cq, .slice Aa na ca], p.v Vd] w (RetNet (sendT n p) D w) := by
  subst hA
  unfold maxLen at _hcm
  have HB0 : Below w.heap.size w (((w.alloc (.cells #[.slice (some a) nq cq, .slice Aa na ca] 25)).alloc (.cells #[.int .i64 p.src, .int .i64 p.dst, Vd] 51)).alloc (.cells #[.slice none 0 0, .slice none 0 0] 25)) := ((((Below.refl w.heap.size w).alloc (by simp <;> omega) (.cells #[.slice (some a) nq cq, .slice Aa na ca] 25)).alloc (by simp <;> omega) (.cells #[.int .i64 p.src, .int .i64 p.dst, Vd] 51)).alloc (by simp <;> omega) (.cells #[.slice none 0 0, .slice none 0 0] 25))
  have HNB := Lib.hid (((hN.out.more hDw).below HB0).more HB0.size)
  go_enter Try.func32, Try.ntmps32
  go_wp2_with fail
  refine (nCheck_at h HNB.out).mono ?_
  rintro e w1 ⟨rfl, hb⟩
  have X0 := ((((Box.newAt (n := w.heap.size) [.slice (some a) nq cq, .slice Aa na ca] 25 (by simp)).alloc _).alloc _)).later hb
  have X1 := (((Box.newAt (n := w.heap.size + 1) [.int .i64 p.src, .int .i64 p.dst, Vd] 51 (by simp)).alloc _)).later hb
  have R := ((Box.newAt (n := w.heap.size + 1 + 1) [.slice none 0 0, .slice none 0 0] 25 (by simp))).later hb
  have hB : Below w.heap.size w w1 := (((((Below.refl w.heap.size w).alloc (by simp <;> omega) _).alloc (by simp <;> omega) _).alloc (by simp <;> omega) _)).trans (hb.mono (by simp <;> omega))
  clear hb
  have X1c0 : w1.cell? ⟨w.heap.size + 1, 0, none⟩ = some (.int .i64 p.src) := X1.cell 0
  have X1f0 : w1.frozen? ⟨w.heap.size + 1, 0, none⟩ = false := X1.free 0
  have X1c1 : w1.cell? ⟨w.heap.size + 1, 1, none⟩ = some (.int .i64 p.dst) := X1.cell 1
  have X1f1 : w1.frozen? ⟨w.heap.size + 1, 1, none⟩ = false := X1.free 1
  have X1c2 : w1.cell? ⟨w.heap.size + 1, 2, none⟩ = some (Vd) := X1.cell 2
  have X1f2 : w1.frozen? ⟨w.heap.size + 1, 2, none⟩ = false := X1.free 2
  have X1z : w.heap.size + 1 < w1.heap.size := X1.lt
  go_wp2_with fail
  refine (nPacket_at hp (((hD.out.more hDw).below hB).more hB.size)).mono ?_
  rintro e w2 ⟨rfl, hb⟩
  clear X1c0 X1f0 X1c1 X1f1 X1c2 X1f2 X1z
  have X0 := X0.later hb
  have X1 := X1.later hb
  have R := R.later hb
  have hB := hB.trans (hb.mono hB.size)
  clear hb
  have hP := Box.new w2 [.int .i64 p.src, .int .i64 p.dst, Vd] 51
  have hBL := hB.alloc hB.size (.cells #[.int .i64 p.src, .int .i64 p.dst, Vd] 51)
  have hQ := (hN.out.below (hBL.mono hDw)).queue.clip.1
  have hI := pksIn_one hP (hD.out.below (hBL.mono hDw))
  obtain ⟨A', n', c', w5, hrun0, hq5, hb5⟩ := run_app_pk 22 (w := (w2.alloc (.cells #[.int .i64 p.src, .int .i64 p.dst, Vd] 51)).drew) hQ hI (Nat.le_trans hDw hBL.size) (.inl (by rw [hnq.out]; simp)) (by rw [hnq.out]; simp <;> omega)
  have hrun : (appF #[22, 22] 22 #[.slice (some a) nq nq, .slice (some ⟨w2.heap.size, 0, none⟩) 1 1]).run Try.prog (w2.alloc (.cells #[.int .i64 p.src, .int .i64 p.dst, Vd] 51)).drew = .ok (.slice A' n' c') w5 := hrun0
  have hB5 : Below w.heap.size w w5 := hBL.drew.trans (hb5.mono hBL.size)
  have HQ5 := Lib.hid hq5
  have Y0 := ((X0.alloc (.cells #[.int .i64 p.src, .int .i64 p.dst, Vd] 51)).drew).later hb5
  have YR := ((R.alloc (.cells #[.int .i64 p.src, .int .i64 p.dst, Vd] 51)).drew).later hb5
  clear hq5 hQ hI hP hBL hrun0 hb5
  have y0 : w5.cell? ⟨w.heap.size, 0, none⟩ = some (.slice (some a) nq cq) := Y0.cell 0
  have y1 : w5.cell? ⟨w.heap.size, 1, none⟩ = some (.slice Aa na ca) := Y0.cell 1
  have yf : w5.frozen? ⟨w.heap.size, 0, none⟩ = false := Y0.free 0
  have yz : w.heap.size < w5.heap.size := Y0.lt
  have r0 : w5.cell? ⟨w.heap.size + 1 + 1, 0, none⟩ = some (.slice none 0 0) := YR.cell 0
  have r1 : w5.cell? ⟨w.heap.size + 1 + 1, 1, none⟩ = some (.slice none 0 0) := YR.cell 1
  have rf0 : w5.frozen? ⟨w.heap.size + 1 + 1, 0, none⟩ = false := YR.free 0
  have rf1 : w5.frozen? ⟨w.heap.size + 1 + 1, 1, none⟩ = false := YR.free 1
  have rz : w.heap.size + 1 + 1 < w5.heap.size := YR.lt
  have X0c0 : w2.cell? ⟨w.heap.size, 0, none⟩ = some (.slice (some a) nq cq) := X0.cell 0
  have X0f0 : w2.frozen? ⟨w.heap.size, 0, none⟩ = false := X0.free 0
  have X0c1 : w2.cell? ⟨w.heap.size, 1, none⟩ = some (.slice Aa na ca) := X0.cell 1
  have X0f1 : w2.frozen? ⟨w.heap.size, 1, none⟩ = false := X0.free 1
  have X0z : w.heap.size < w2.heap.size := X0.lt
  have X1c0 : w2.cell? ⟨w.heap.size + 1, 0, none⟩ = some (.int .i64 p.src) := X1.cell 0
  have X1f0 : w2.frozen? ⟨w.heap.size + 1, 0, none⟩ = false := X1.free 0
  have X1c1 : w2.cell? ⟨w.heap.size + 1, 1, none⟩ = some (.int .i64 p.dst) := X1.cell 1
  have X1f1 : w2.frozen? ⟨w.heap.size + 1, 1, none⟩ = false := X1.free 1
  have X1c2 : w2.cell? ⟨w.heap.size + 1, 2, none⟩ = some (Vd) := X1.cell 2
  have X1f2 : w2.frozen? ⟨w.heap.size + 1, 2, none⟩ = false := X1.free 2
  have X1z : w.heap.size + 1 < w2.heap.size := X1.lt
  go_wp2_with fail
  go_region
  go_wp2
  have hne : w.heap.size + 1 + 1 ≠ w.heap.size := by omega
  have hcur : w.heap.size + 1 + 1 < w2.heap.size := R.lt
  have ZR := ((YR.other (a := ⟨w.heap.size, 0, none⟩) hne (.slice A' n' c')).set 0 (.slice A' n' c')).set 1 (.slice Aa na ca)
  have HB := ((hB5.setCell (p := ⟨w.heap.size, 0, none⟩) (Nat.le_refl _) (.slice A' n' c')).setCell (p := ⟨w.heap.size + 1 + 1, 0, none⟩) (by simp; omega) (.slice A' n' c')).setCell (p := ⟨w.heap.size + 1 + 1, 1, none⟩) (by simp; omega) (.slice Aa na ca)
  have HQ := ((HQ5.out.set (a := ⟨w.heap.size, 0, none⟩) hDw (by simp; omega) (.slice A' n' c')).set (a := ⟨w.heap.size + 1 + 1, 0, none⟩) (by simp; omega) (by simp; omega) (.slice A' n' c')).set (a := ⟨w.heap.size + 1 + 1, 1, none⟩) (by simp; omega) (by simp; omega) (.slice Aa na ca)
  have hres := hs
  generalize ((w5.setCell ⟨w.heap.size, 0, none⟩ (.slice A' n' c')).setCell ⟨w.heap.size + 1 + 1, 0, none⟩ (.slice A' n' c')).setCell ⟨w.heap.size + 1 + 1, 1, none⟩ (.slice Aa na ca) = W at ZR HB HQ ⊢
  have z0 : W.cell? ⟨w.heap.size + 1 + 1, 0, none⟩ = some (.slice A' n' c') := ZR.cell 0
  have z1 : W.cell? ⟨w.heap.size + 1 + 1, 1, none⟩ = some (.slice Aa na ca) := ZR.cell 1
  refine bodyPost_ret (v := .tuple #[.agg #[(.slice A' n' c'), .slice Aa na ca], .int .i64 0]) (by simp [results, Try.results32, go_sem, z0, z1]) rfl ?_
  exact ⟨_, _, _, 0, rfl, hres, ⟨HQ.lower (by simp; omega), (hN.out.apart.below (HB.mono hDw)).two (Nat.le_trans hDw HB.size)⟩, HB⟩

theorem nSend_any (n : Net) (Vq Va : Value) (p : Pk) (Vd : Value) (w : World) (D : Nat) (hDw : D ≤ w.heap.size) (hN : NetAt w D Vq Va n) (hD : BytesAt w D Vd p.data) : Calls Try.prog 32 #[.agg #[Vq, Va], p.v Vd] w (RetNet (sendT n p) D w) := by
  obtain ⟨Aq, cq, rfl, hmq⟩ := hN.queue.form
  obtain ⟨Aa, ca, rfl, _⟩ := hN.apart.form
  rcases h : n.okB with _ | _
  · exact nSend_1 n Aq _ cq Aa _ ca p Vd w D hDw hN hD (check_bad h) (by rw [Hid, sendT, if_neg (by rw [h]; simp)])
  · rcases hp : p.okB with _ | _
    · exact nSend_2 n Aq _ cq Aa _ ca p Vd w D hDw hN hD (check_good h) hp (by rw [Hid, sendT, if_neg (by rw [hp]; simp)])
    · have hl : n.queue.length ≤ 4096 := by
        have := h
        simp only [Net.okB_eq, Bool.and_eq_true, decide_eq_true_eq] at this
        exact this.1
      by_cases h4 : n.queue.length = 4096
      · exact nSend_3 n Aq _ cq Aa _ ca p Vd w D hDw hN hD (check_good h) hp (by simp [h4]) (by rw [Hid, sendT, if_pos ⟨h, hp⟩, if_pos h4])
      · have hs : sendT n p = (⟨n.queue ++ [p], n.apart⟩, 0) := by rw [sendT, if_pos ⟨h, hp⟩, if_neg h4]
        obtain ⟨_, _, hf, hc, hcm⟩ := hN.queue.clip
        rcases hf with ⟨h1, h2, h3⟩ | ⟨a, ha⟩
        · exact nSend_4n n Aq _ cq Aa _ ca p Vd w D hDw hN hD (check_good h) hp rfl (by simp [h4]) (by omega) hs ⟨h1, h2, h3⟩
        · exact nSend_4s n Aq _ cq Aa _ ca p Vd w D hDw hN hD (check_good h) hp rfl (by simp [h4]) (by omega) hs a ha (by omega) hcm

end Go.Proofs.Ytmbifmmkccghfaa

/-
  Contract of Send of the reference of chapter 6. (Printed by gen_ng.py.)
-/
namespace Go.Proofs.Ytmbifmmkccghfaa
open Go.RowKit

attribute [local go_sem ↓ high] app_named

theorem ownPk_empty {w : World} {b base D : Nat} (hb : w.heap[b]? = some (.cells #[] 51 (0, 0))) (h : base ≤ b) : OwnPk w base D (.slice (some ⟨b, 0, none⟩) 0 0) [] :=
  ⟨fun _ => undef, ⟨rfl, .inr ⟨b, 0, #[], rfl, h, hb, Nat.le_refl _, Nat.zero_le _, rfl, rfl⟩⟩, fun i p hp => by simp at hp⟩
theorem heap_new (w : World) (cs : Array Value) (t : TypeId) : (w.alloc (.cells cs t)).heap[w.heap.size]? = some (.cells cs t (0, 0)) := by
  show (w.heap.push _)[w.heap.size]? = _
  simp
theorem heap_second (w : World) (o : Obj) (cs : Array Value) (t : TypeId) : ((w.alloc o).alloc (.cells cs t)).heap[w.heap.size + 1]? = some (.cells cs t (0, 0)) := by
  have h := heap_new (w.alloc o) cs t
  rw [show (w.alloc o).heap.size = w.heap.size + 1 by simp] at h
  exact h
theorem heap_first (w : World) (o : Obj) (cs : Array Value) (t : TypeId) : ((w.alloc (.cells cs t)).alloc o).heap[w.heap.size]? = some (.cells cs t (0, 0)) :=
  (Below.heap_alloc (w.alloc (.cells cs t)) o w.heap.size (by simp)).trans (heap_new w cs t)

set_option maxRecDepth 100000 in
set_option maxHeartbeats 4000000 in
theorem nRSend_1 (n : Net) (Aq : Option Addr) (nq cq : Nat) (Aa : Option Addr) (na ca : Nat) (p : Pk) (Vd : Value) (w : World) (D : Nat) (hDw : D ≤ w.heap.size) (hN : Hid (NetAt w D (.slice Aq nq cq) (.slice Aa na ca) n)) (_hD : Hid (BytesAt w D Vd p.data)) (h : Hid (n.checkT = 60)) (hs : Hid (sendT n p = (Net.zero, 60))) : Calls Try.prog 34 #[.agg #[.slice Aq nq cq, .slice Aa na ca], p.v Vd] w (RetNet (sendT n p) D w) := by
  have HB0 : Below w.heap.size w (((w.alloc (.cells #[.slice Aq nq cq, .slice Aa na ca] 25)).alloc (.cells #[.int .i64 p.src, .int .i64 p.dst, Vd] 51)).alloc (.cells #[.slice none 0 0, .slice none 0 0] 25)) := ((((Below.refl w.heap.size w).alloc (by simp <;> omega) (.cells #[.slice Aq nq cq, .slice Aa na ca] 25)).alloc (by simp <;> omega) (.cells #[.int .i64 p.src, .int .i64 p.dst, Vd] 51)).alloc (by simp <;> omega) (.cells #[.slice none 0 0, .slice none 0 0] 25))
  have HNB := Lib.hid (((hN.out.more hDw).below HB0).more HB0.size)
  go_enter Try.func34, Try.ntmps34
  go_wp2_with fail
  refine (nRCheck_at h HNB.out).mono ?_
  rintro e w1 ⟨rfl, hb⟩
  have X0 := ((((Box.newAt (n := w.heap.size) [.slice Aq nq cq, .slice Aa na ca] 25 (by simp)).alloc _).alloc _)).later hb
  have X1 := (((Box.newAt (n := w.heap.size + 1) [.int .i64 p.src, .int .i64 p.dst, Vd] 51 (by simp)).alloc _)).later hb
  have R := ((Box.newAt (n := w.heap.size + 1 + 1) [.slice none 0 0, .slice none 0 0] 25 (by simp))).later hb
  have hB : Below w.heap.size w w1 := (((((Below.refl w.heap.size w).alloc (by simp <;> omega) _).alloc (by simp <;> omega) _).alloc (by simp <;> omega) _)).trans (hb.mono (by simp <;> omega))
  clear hb
  have Rc0 : w1.cell? ⟨w.heap.size + 1 + 1, 0, none⟩ = some (.slice none 0 0) := R.cell 0
  have Rf0 : w1.frozen? ⟨w.heap.size + 1 + 1, 0, none⟩ = false := R.free 0
  have Rc1 : w1.cell? ⟨w.heap.size + 1 + 1, 1, none⟩ = some (.slice none 0 0) := R.cell 1
  have Rf1 : w1.frozen? ⟨w.heap.size + 1 + 1, 1, none⟩ = false := R.free 1
  have Rz : w.heap.size + 1 + 1 < w1.heap.size := R.lt
  have hle : w.heap.size ≤ w.heap.size + 1 + 1 := by omega
  have hres := hs
  go_wp2
  have hY := ((R.set 0 (.slice none 0 0)).set 1 (.slice none 0 0))
  have hB := ((hB.setCell (p := ⟨w.heap.size + 1 + 1, 0, none⟩) (by simp <;> omega) (.slice none 0 0)).setCell (p := ⟨w.heap.size + 1 + 1, 1, none⟩) (by simp <;> omega) (.slice none 0 0))
  generalize ((w1.setCell ⟨w.heap.size + 1 + 1, 0, none⟩ (.slice none 0 0)).setCell ⟨w.heap.size + 1 + 1, 1, none⟩ (.slice none 0 0)) = W at hY hB ⊢
  have y0 : W.cell? ⟨w.heap.size + 1 + 1, 0, none⟩ = some (.slice none 0 0) := hY.cell 0
  have y1 : W.cell? ⟨w.heap.size + 1 + 1, 1, none⟩ = some (.slice none 0 0) := hY.cell 1
  refine bodyPost_ret (v := .tuple #[.agg #[.slice none 0 0, .slice none 0 0], .int .i64 60]) (by simp [results, Try.results34, go_sem, y0, y1]) rfl ?_
  exact ⟨_, _, Net.zero, 60, rfl, hres, net2_zero _ _ _, hB⟩

set_option maxRecDepth 100000 in
set_option maxHeartbeats 4000000 in
theorem nRSend_2 (n : Net) (Aq : Option Addr) (nq cq : Nat) (Aa : Option Addr) (na ca : Nat) (p : Pk) (Vd : Value) (w : World) (D : Nat) (hDw : D ≤ w.heap.size) (hN : Hid (NetAt w D (.slice Aq nq cq) (.slice Aa na ca) n)) (hD : Hid (BytesAt w D Vd p.data)) (h : Hid (n.checkT = 0)) (hp : Hid (p.okB = false)) (hs : Hid (sendT n p = (Net.zero, 60))) : Calls Try.prog 34 #[.agg #[.slice Aq nq cq, .slice Aa na ca], p.v Vd] w (RetNet (sendT n p) D w) := by
  have HB0 : Below w.heap.size w (((w.alloc (.cells #[.slice Aq nq cq, .slice Aa na ca] 25)).alloc (.cells #[.int .i64 p.src, .int .i64 p.dst, Vd] 51)).alloc (.cells #[.slice none 0 0, .slice none 0 0] 25)) := ((((Below.refl w.heap.size w).alloc (by simp <;> omega) (.cells #[.slice Aq nq cq, .slice Aa na ca] 25)).alloc (by simp <;> omega) (.cells #[.int .i64 p.src, .int .i64 p.dst, Vd] 51)).alloc (by simp <;> omega) (.cells #[.slice none 0 0, .slice none 0 0] 25))
  have HNB := Lib.hid (((hN.out.more hDw).below HB0).more HB0.size)
  go_enter Try.func34, Try.ntmps34
  go_wp2_with fail
  refine (nRCheck_at h HNB.out).mono ?_
  rintro e w1 ⟨rfl, hb⟩
  have X0 := ((((Box.newAt (n := w.heap.size) [.slice Aq nq cq, .slice Aa na ca] 25 (by simp)).alloc _).alloc _)).later hb
  have X1 := (((Box.newAt (n := w.heap.size + 1) [.int .i64 p.src, .int .i64 p.dst, Vd] 51 (by simp)).alloc _)).later hb
  have R := ((Box.newAt (n := w.heap.size + 1 + 1) [.slice none 0 0, .slice none 0 0] 25 (by simp))).later hb
  have hB : Below w.heap.size w w1 := (((((Below.refl w.heap.size w).alloc (by simp <;> omega) _).alloc (by simp <;> omega) _).alloc (by simp <;> omega) _)).trans (hb.mono (by simp <;> omega))
  clear hb
  have X1c0 : w1.cell? ⟨w.heap.size + 1, 0, none⟩ = some (.int .i64 p.src) := X1.cell 0
  have X1f0 : w1.frozen? ⟨w.heap.size + 1, 0, none⟩ = false := X1.free 0
  have X1c1 : w1.cell? ⟨w.heap.size + 1, 1, none⟩ = some (.int .i64 p.dst) := X1.cell 1
  have X1f1 : w1.frozen? ⟨w.heap.size + 1, 1, none⟩ = false := X1.free 1
  have X1c2 : w1.cell? ⟨w.heap.size + 1, 2, none⟩ = some (Vd) := X1.cell 2
  have X1f2 : w1.frozen? ⟨w.heap.size + 1, 2, none⟩ = false := X1.free 2
  have X1z : w.heap.size + 1 < w1.heap.size := X1.lt
  go_wp2_with fail
  refine (nRPacket_at hp (((hD.out.more hDw).below hB).more hB.size)).mono ?_
  rintro e w2 ⟨rfl, hb⟩
  clear X1c0 X1f0 X1c1 X1f1 X1c2 X1f2 X1z
  have X0 := X0.later hb
  have X1 := X1.later hb
  have R := R.later hb
  have hB := hB.trans (hb.mono hB.size)
  clear hb
  have Rc0 : w2.cell? ⟨w.heap.size + 1 + 1, 0, none⟩ = some (.slice none 0 0) := R.cell 0
  have Rf0 : w2.frozen? ⟨w.heap.size + 1 + 1, 0, none⟩ = false := R.free 0
  have Rc1 : w2.cell? ⟨w.heap.size + 1 + 1, 1, none⟩ = some (.slice none 0 0) := R.cell 1
  have Rf1 : w2.frozen? ⟨w.heap.size + 1 + 1, 1, none⟩ = false := R.free 1
  have Rz : w.heap.size + 1 + 1 < w2.heap.size := R.lt
  have hle : w.heap.size ≤ w.heap.size + 1 + 1 := by omega
  have hres := hs
  go_wp2
  have hY := ((R.set 0 (.slice none 0 0)).set 1 (.slice none 0 0))
  have hB := ((hB.setCell (p := ⟨w.heap.size + 1 + 1, 0, none⟩) (by simp <;> omega) (.slice none 0 0)).setCell (p := ⟨w.heap.size + 1 + 1, 1, none⟩) (by simp <;> omega) (.slice none 0 0))
  generalize ((w2.setCell ⟨w.heap.size + 1 + 1, 0, none⟩ (.slice none 0 0)).setCell ⟨w.heap.size + 1 + 1, 1, none⟩ (.slice none 0 0)) = W at hY hB ⊢
  have y0 : W.cell? ⟨w.heap.size + 1 + 1, 0, none⟩ = some (.slice none 0 0) := hY.cell 0
  have y1 : W.cell? ⟨w.heap.size + 1 + 1, 1, none⟩ = some (.slice none 0 0) := hY.cell 1
  refine bodyPost_ret (v := .tuple #[.agg #[.slice none 0 0, .slice none 0 0], .int .i64 60]) (by simp [results, Try.results34, go_sem, y0, y1]) rfl ?_
  exact ⟨_, _, Net.zero, 60, rfl, hres, net2_zero _ _ _, hB⟩

set_option maxRecDepth 100000 in
set_option maxHeartbeats 4000000 in
theorem nRSend_3 (n : Net) (Aq : Option Addr) (nq cq : Nat) (Aa : Option Addr) (na ca : Nat) (p : Pk) (Vd : Value) (w : World) (D : Nat) (hDw : D ≤ w.heap.size) (hN : Hid (NetAt w D (.slice Aq nq cq) (.slice Aa na ca) n)) (hD : Hid (BytesAt w D Vd p.data)) (h : Hid (n.checkT = 0)) (hp : Hid (p.okB = true)) (_hl : (nq == 4096) = true) (hs : Hid (sendT n p = (Net.zero, 2))) : Calls Try.prog 34 #[.agg #[.slice Aq nq cq, .slice Aa na ca], p.v Vd] w (RetNet (sendT n p) D w) := by
  have HB0 : Below w.heap.size w (((w.alloc (.cells #[.slice Aq nq cq, .slice Aa na ca] 25)).alloc (.cells #[.int .i64 p.src, .int .i64 p.dst, Vd] 51)).alloc (.cells #[.slice none 0 0, .slice none 0 0] 25)) := ((((Below.refl w.heap.size w).alloc (by simp <;> omega) (.cells #[.slice Aq nq cq, .slice Aa na ca] 25)).alloc (by simp <;> omega) (.cells #[.int .i64 p.src, .int .i64 p.dst, Vd] 51)).alloc (by simp <;> omega) (.cells #[.slice none 0 0, .slice none 0 0] 25))
  have HNB := Lib.hid (((hN.out.more hDw).below HB0).more HB0.size)
  go_enter Try.func34, Try.ntmps34
  go_wp2_with fail
  refine (nRCheck_at h HNB.out).mono ?_
  rintro e w1 ⟨rfl, hb⟩
  have X0 := ((((Box.newAt (n := w.heap.size) [.slice Aq nq cq, .slice Aa na ca] 25 (by simp)).alloc _).alloc _)).later hb
  have X1 := (((Box.newAt (n := w.heap.size + 1) [.int .i64 p.src, .int .i64 p.dst, Vd] 51 (by simp)).alloc _)).later hb
  have R := ((Box.newAt (n := w.heap.size + 1 + 1) [.slice none 0 0, .slice none 0 0] 25 (by simp))).later hb
  have hB : Below w.heap.size w w1 := (((((Below.refl w.heap.size w).alloc (by simp <;> omega) _).alloc (by simp <;> omega) _).alloc (by simp <;> omega) _)).trans (hb.mono (by simp <;> omega))
  clear hb
  have X1c0 : w1.cell? ⟨w.heap.size + 1, 0, none⟩ = some (.int .i64 p.src) := X1.cell 0
  have X1f0 : w1.frozen? ⟨w.heap.size + 1, 0, none⟩ = false := X1.free 0
  have X1c1 : w1.cell? ⟨w.heap.size + 1, 1, none⟩ = some (.int .i64 p.dst) := X1.cell 1
  have X1f1 : w1.frozen? ⟨w.heap.size + 1, 1, none⟩ = false := X1.free 1
  have X1c2 : w1.cell? ⟨w.heap.size + 1, 2, none⟩ = some (Vd) := X1.cell 2
  have X1f2 : w1.frozen? ⟨w.heap.size + 1, 2, none⟩ = false := X1.free 2
  have X1z : w.heap.size + 1 < w1.heap.size := X1.lt
  go_wp2_with fail
  refine (nRPacket_at hp (((hD.out.more hDw).below hB).more hB.size)).mono ?_
  rintro e w2 ⟨rfl, hb⟩
  clear X1c0 X1f0 X1c1 X1f1 X1c2 X1f2 X1z
  have X0 := X0.later hb
  have X1 := X1.later hb
  have R := R.later hb
  have hB := hB.trans (hb.mono hB.size)
  clear hb
  have X0c0 : w2.cell? ⟨w.heap.size, 0, none⟩ = some (.slice Aq nq cq) := X0.cell 0
  have X0f0 : w2.frozen? ⟨w.heap.size, 0, none⟩ = false := X0.free 0
  have X0c1 : w2.cell? ⟨w.heap.size, 1, none⟩ = some (.slice Aa na ca) := X0.cell 1
  have X0f1 : w2.frozen? ⟨w.heap.size, 1, none⟩ = false := X0.free 1
  have X0z : w.heap.size < w2.heap.size := X0.lt
  have Rc0 : w2.cell? ⟨w.heap.size + 1 + 1, 0, none⟩ = some (.slice none 0 0) := R.cell 0
  have Rf0 : w2.frozen? ⟨w.heap.size + 1 + 1, 0, none⟩ = false := R.free 0
  have Rc1 : w2.cell? ⟨w.heap.size + 1 + 1, 1, none⟩ = some (.slice none 0 0) := R.cell 1
  have Rf1 : w2.frozen? ⟨w.heap.size + 1 + 1, 1, none⟩ = false := R.free 1
  have Rz : w.heap.size + 1 + 1 < w2.heap.size := R.lt
  have hle : w.heap.size ≤ w.heap.size + 1 + 1 := by omega
  have hres := hs
  go_wp2
  have hY := ((R.set 0 (.slice none 0 0)).set 1 (.slice none 0 0))
  have hB := ((hB.setCell (p := ⟨w.heap.size + 1 + 1, 0, none⟩) (by simp <;> omega) (.slice none 0 0)).setCell (p := ⟨w.heap.size + 1 + 1, 1, none⟩) (by simp <;> omega) (.slice none 0 0))
  generalize ((w2.setCell ⟨w.heap.size + 1 + 1, 0, none⟩ (.slice none 0 0)).setCell ⟨w.heap.size + 1 + 1, 1, none⟩ (.slice none 0 0)) = W at hY hB ⊢
  have y0 : W.cell? ⟨w.heap.size + 1 + 1, 0, none⟩ = some (.slice none 0 0) := hY.cell 0
  have y1 : W.cell? ⟨w.heap.size + 1 + 1, 1, none⟩ = some (.slice none 0 0) := hY.cell 1
  refine bodyPost_ret (v := .tuple #[.agg #[.slice none 0 0, .slice none 0 0], .int .i64 2]) (by simp [results, Try.results34, go_sem, y0, y1]) rfl ?_
  exact ⟨_, _, Net.zero, 2, rfl, hres, net2_zero _ _ _, hB⟩

set_option maxRecDepth 100000 in
set_option maxHeartbeats 4000000 in
theorem nRSend_4 (n : Net) (Aq : Option Addr) (nq cq : Nat) (Aa : Option Addr) (na ca : Nat) (p : Pk) (Vd : Value) (w : World) (D : Nat) (hDw : D ≤ w.heap.size) (hN : Hid (NetAt w D (.slice Aq nq cq) (.slice Aa na ca) n)) (hD : Hid (BytesAt w D Vd p.data)) (h : Hid (n.checkT = 0)) (hp : Hid (p.okB = true)) (hnq : Hid (n.queue.length = nq)) (_hl : (nq == 4096) = false) (_hl2 : (nq : Int) < 4096) (hs : Hid (sendT n p = (⟨n.queue ++ [p], n.apart⟩, 0))) : Calls Try.prog 34 #[.agg #[.slice Aq nq cq, .slice Aa na ca], p.v Vd] w (RetNet (sendT n p) D w) := by
  have HB0 : Below w.heap.size w (((w.alloc (.cells #[.slice Aq nq cq, .slice Aa na ca] 25)).alloc (.cells #[.int .i64 p.src, .int .i64 p.dst, Vd] 51)).alloc (.cells #[.slice none 0 0, .slice none 0 0] 25)) := ((((Below.refl w.heap.size w).alloc (by simp <;> omega) (.cells #[.slice Aq nq cq, .slice Aa na ca] 25)).alloc (by simp <;> omega) (.cells #[.int .i64 p.src, .int .i64 p.dst, Vd] 51)).alloc (by simp <;> omega) (.cells #[.slice none 0 0, .slice none 0 0] 25))
  have HNB := Lib.hid (((hN.out.more hDw).below HB0).more HB0.size)
  go_enter Try.func34, Try.ntmps34
  go_wp2_with fail
  refine (nRCheck_at h HNB.out).mono ?_
  rintro e w1 ⟨rfl, hb⟩
  have X0 := ((((Box.newAt (n := w.heap.size) [.slice Aq nq cq, .slice Aa na ca] 25 (by simp)).alloc _).alloc _)).later hb
  have X1 := (((Box.newAt (n := w.heap.size + 1) [.int .i64 p.src, .int .i64 p.dst, Vd] 51 (by simp)).alloc _)).later hb
  have R := ((Box.newAt (n := w.heap.size + 1 + 1) [.slice none 0 0, .slice none 0 0] 25 (by simp))).later hb
  have hB : Below w.heap.size w w1 := (((((Below.refl w.heap.size w).alloc (by simp <;> omega) _).alloc (by simp <;> omega) _).alloc (by simp <;> omega) _)).trans (hb.mono (by simp <;> omega))
  clear hb
  have X1c0 : w1.cell? ⟨w.heap.size + 1, 0, none⟩ = some (.int .i64 p.src) := X1.cell 0
  have X1f0 : w1.frozen? ⟨w.heap.size + 1, 0, none⟩ = false := X1.free 0
  have X1c1 : w1.cell? ⟨w.heap.size + 1, 1, none⟩ = some (.int .i64 p.dst) := X1.cell 1
  have X1f1 : w1.frozen? ⟨w.heap.size + 1, 1, none⟩ = false := X1.free 1
  have X1c2 : w1.cell? ⟨w.heap.size + 1, 2, none⟩ = some (Vd) := X1.cell 2
  have X1f2 : w1.frozen? ⟨w.heap.size + 1, 2, none⟩ = false := X1.free 2
  have X1z : w.heap.size + 1 < w1.heap.size := X1.lt
  go_wp2_with fail
  refine (nRPacket_at hp (((hD.out.more hDw).below hB).more hB.size)).mono ?_
  rintro e w2 ⟨rfl, hb⟩
  clear X1c0 X1f0 X1c1 X1f1 X1c2 X1f2 X1z
  have X0 := X0.later hb
  have X1 := X1.later hb
  have R := R.later hb
  have hB := hB.trans (hb.mono hB.size)
  clear hb
  have X0c0 : w2.cell? ⟨w.heap.size, 0, none⟩ = some (.slice Aq nq cq) := X0.cell 0
  have X0f0 : w2.frozen? ⟨w.heap.size, 0, none⟩ = false := X0.free 0
  have X0c1 : w2.cell? ⟨w.heap.size, 1, none⟩ = some (.slice Aa na ca) := X0.cell 1
  have X0f1 : w2.frozen? ⟨w.heap.size, 1, none⟩ = false := X0.free 1
  have X0z : w.heap.size < w2.heap.size := X0.lt
  go_upto_region 5 with fail
  clear X0c0 X0f0 X0c1 X0f1 X0z
  go_cut [5] (fun s5 wx => s5 = .int .i64 0 ∧ ∃ v, Box wx w.heap.size [v, .slice Aa na ca] ∧ Box wx (w.heap.size + 1 + 1) [.slice none 0 0, .slice none 0 0] ∧ Hid (Pks2 wx D w2.heap.size v (n.queue ++ [p])) ∧ Below w.heap.size w wx)
  case first =>
    have Bza : Below w.heap.size w (w2.alloc (.cells #[] 51)).drew := (hB.alloc hB.size (.cells #[] 51)).drew
    have O0a : OwnPk (w2.alloc (.cells #[] 51)).drew w2.heap.size D (.slice (some ⟨w2.heap.size, 0, none⟩) 0 0) [] := ownPk_empty (heap_new w2 _ _) (by omega)
    have Sa : PksIn (w2.alloc (.cells #[] 51)).drew (w2.alloc (.cells #[] 51)).drew.heap.size D (.slice Aq nq cq) n.queue := (hN.out.below (Bza.mono hDw)).queue.within (Nat.le_trans hDw Bza.size)
    obtain ⟨v1a, x1a, hr1a, O1a, hb1a, hg1a⟩ := run_own_pk 22 O0a Sa (Nat.le_trans hDw hB.size) (by simp <;> omega) (by simp; rw [hnq.out]; omega)
    have R1a : (appF #[22, 22] 22 #[.slice (some ⟨w2.heap.size, 0, none⟩) 0 0, .slice Aq nq cq]).run Try.prog (w2.alloc (.cells #[] 51)).drew = .ok v1a x1a := hr1a
    have X0a := ((X0.alloc (.cells #[] 51)).drew).keepN X0.lt hb1a
    have RRa := ((R.alloc (.cells #[] 51)).drew).keepN R.lt hb1a
    have B1a : Below w.heap.size w x1a := Bza.trans (hb1a.mono hB.size)
    have z1a : w2.heap.size ≤ x1a.heap.size := by have := hb1a.size; simp at this; omega
    have X1a := ((X1.alloc (.cells #[] 51)).drew).keepN X1.lt hb1a
    have q0a : x1a.cell? ⟨w.heap.size + 1, 0, none⟩ = some (.int .i64 p.src) := X1a.cell 0
    have q1a : x1a.cell? ⟨w.heap.size + 1, 1, none⟩ = some (.int .i64 p.dst) := X1a.cell 1
    have q2a : x1a.cell? ⟨w.heap.size + 1, 2, none⟩ = some Vd := X1a.cell 2
    have qza := X1a.lt
    have Pa := Box.new x1a [.int .i64 p.src, .int .i64 p.dst, Vd] 51
    have B2a := B1a.alloc B1a.size (.cells #[.int .i64 p.src, .int .i64 p.dst, Vd] 51)
    have O2a := O1a.alloc (Nat.le_trans hDw B1a.size) (.cells #[.int .i64 p.src, .int .i64 p.dst, Vd] 51)
    have X0a := X0a.alloc (.cells #[.int .i64 p.src, .int .i64 p.dst, Vd] 51)
    have RRa := RRa.alloc (.cells #[.int .i64 p.src, .int .i64 p.dst, Vd] 51)
    have pba : x1a.heap.size = x1a.heap.size := rfl
    obtain ⟨v2a, x2a, hr2a, O3a, hb2a, _⟩ := run_own_pk 22 O2a (pksIn_one Pa (hD.out.below (B2a.mono hDw))) (Nat.le_trans hDw hB.size) (Nat.le_trans z1a (by simp)) (by simp; rw [hnq.out]; omega)
    obtain ⟨A2a, n2a, c2a, rfl⟩ := O3a.form
    rw [List.nil_append] at O3a
    have R2a : (appF #[22, 22] 22 #[v1a, .slice (some ⟨x1a.heap.size, 0, none⟩) 1 1]).run Try.prog (x1a.alloc (.cells #[.int .i64 p.src, .int .i64 p.dst, Vd] 51)) = .ok (.slice A2a n2a c2a) x2a := hr2a
    have X0a := X0a.keepN X0.lt hb2a
    have RRa := RRa.keepN R.lt hb2a
    have B3a := B2a.trans (hb2a.mono hB.size)
    have H3a := Lib.hid O3a
    have y0a : x2a.cell? ⟨w.heap.size, 0, none⟩ = some (.slice Aq nq cq) := X0a.cell 0
    have yfa : x2a.frozen? ⟨w.heap.size, 0, none⟩ = false := X0a.free 0
    have yza : w.heap.size < x2a.heap.size := X0a.lt
    clear O3a hr1a hr2a hb1a hb2a hg1a O0a Sa O1a O2a Pa z1a B1a B2a Bza
    have Bzb : Below w.heap.size w ((w2.alloc (.cells #[] 51)).alloc (.cells #[.int .i64 p.src, .int .i64 p.dst, Vd] 51)).drew := ((hB.alloc hB.size (.cells #[] 51)).alloc (by have := hB.size; simp; omega) (.cells #[.int .i64 p.src, .int .i64 p.dst, Vd] 51)).drew
    have O0b : OwnPk ((w2.alloc (.cells #[] 51)).alloc (.cells #[.int .i64 p.src, .int .i64 p.dst, Vd] 51)).drew w2.heap.size D (.slice (some ⟨w2.heap.size, 0, none⟩) 0 0) [] := ownPk_empty (heap_first w2 (.cells #[.int .i64 p.src, .int .i64 p.dst, Vd] 51) _ _) (by omega)
    have Sb : PksIn ((w2.alloc (.cells #[] 51)).alloc (.cells #[.int .i64 p.src, .int .i64 p.dst, Vd] 51)).drew ((w2.alloc (.cells #[] 51)).alloc (.cells #[.int .i64 p.src, .int .i64 p.dst, Vd] 51)).drew.heap.size D (.slice Aq nq cq) n.queue := (hN.out.below (Bzb.mono hDw)).queue.within (Nat.le_trans hDw Bzb.size)
    obtain ⟨v1b, x1b, hr1b, O1b, hb1b, hg1b⟩ := run_own_pk 22 O0b Sb (Nat.le_trans hDw hB.size) (by simp <;> omega) (by simp; rw [hnq.out]; omega)
    have R1b : (appF #[22, 22] 22 #[.slice (some ⟨w2.heap.size, 0, none⟩) 0 0, .slice Aq nq cq]).run Try.prog ((w2.alloc (.cells #[] 51)).alloc (.cells #[.int .i64 p.src, .int .i64 p.dst, Vd] 51)).drew = .ok v1b x1b := hr1b
    have X0b := (((X0.alloc (.cells #[] 51)).alloc (.cells #[.int .i64 p.src, .int .i64 p.dst, Vd] 51)).drew).keepN X0.lt hb1b
    have RRb := (((R.alloc (.cells #[] 51)).alloc (.cells #[.int .i64 p.src, .int .i64 p.dst, Vd] 51)).drew).keepN R.lt hb1b
    have B1b : Below w.heap.size w x1b := Bzb.trans (hb1b.mono hB.size)
    have z1b : w2.heap.size ≤ x1b.heap.size := by have := hb1b.size; simp at this; omega
    have Pb : Box x1b (w2.heap.size + 1) [.int .i64 p.src, .int .i64 p.dst, Vd] := ((Box.newAt (w := (w2.alloc (.cells #[] 51))) (n := w2.heap.size + 1) [.int .i64 p.src, .int .i64 p.dst, Vd] 51 (by simp)).drew).same (hg1b.block _ (by simp <;> omega) (by simp [Value.ownBlock]))
    have B2b := B1b
    have O2b := O1b
    obtain ⟨v2b, x2b, hr2b, O3b, hb2b, _⟩ := run_own_pk 22 O2b (pksIn_one Pb (hD.out.below (B2b.mono hDw))) (Nat.le_trans hDw hB.size) (Nat.le_trans z1b (by simp)) (by simp; rw [hnq.out]; omega)
    obtain ⟨A2b, n2b, c2b, rfl⟩ := O3b.form
    rw [List.nil_append] at O3b
    have R2b : (appF #[22, 22] 22 #[v1b, .slice (some ⟨w2.heap.size + 1, 0, none⟩) 1 1]).run Try.prog x1b = .ok (.slice A2b n2b c2b) x2b := hr2b
    have X0b := X0b.keepN X0.lt hb2b
    have RRb := RRb.keepN R.lt hb2b
    have B3b := B2b.trans (hb2b.mono hB.size)
    have H3b := Lib.hid O3b
    have y0b : x2b.cell? ⟨w.heap.size, 0, none⟩ = some (.slice Aq nq cq) := X0b.cell 0
    have yfb : x2b.frozen? ⟨w.heap.size, 0, none⟩ = false := X0b.free 0
    have yzb : w.heap.size < x2b.heap.size := X0b.lt
    clear O3b hr1b hr2b hb1b hb2b hg1b O0b Sb O1b O2b Pb z1b B1b B2b Bzb
    have Bzc : Below w.heap.size w ((w2.alloc (.cells #[.int .i64 p.src, .int .i64 p.dst, Vd] 51)).alloc (.cells #[] 51)).drew := ((hB.alloc hB.size (.cells #[.int .i64 p.src, .int .i64 p.dst, Vd] 51)).alloc (by have := hB.size; simp; omega) (.cells #[] 51)).drew
    have O0c : OwnPk ((w2.alloc (.cells #[.int .i64 p.src, .int .i64 p.dst, Vd] 51)).alloc (.cells #[] 51)).drew w2.heap.size D (.slice (some ⟨w2.heap.size + 1, 0, none⟩) 0 0) [] := ownPk_empty (heap_second w2 (.cells #[.int .i64 p.src, .int .i64 p.dst, Vd] 51) _ _) (by omega)
    have Sc : PksIn ((w2.alloc (.cells #[.int .i64 p.src, .int .i64 p.dst, Vd] 51)).alloc (.cells #[] 51)).drew ((w2.alloc (.cells #[.int .i64 p.src, .int .i64 p.dst, Vd] 51)).alloc (.cells #[] 51)).drew.heap.size D (.slice Aq nq cq) n.queue := (hN.out.below (Bzc.mono hDw)).queue.within (Nat.le_trans hDw Bzc.size)
    obtain ⟨v1c, x1c, hr1c, O1c, hb1c, hg1c⟩ := run_own_pk 22 O0c Sc (Nat.le_trans hDw hB.size) (by simp <;> omega) (by simp; rw [hnq.out]; omega)
    have R1c : (appF #[22, 22] 22 #[.slice (some ⟨w2.heap.size + 1, 0, none⟩) 0 0, .slice Aq nq cq]).run Try.prog ((w2.alloc (.cells #[.int .i64 p.src, .int .i64 p.dst, Vd] 51)).alloc (.cells #[] 51)).drew = .ok v1c x1c := hr1c
    have X0c := (((X0.alloc (.cells #[.int .i64 p.src, .int .i64 p.dst, Vd] 51)).alloc (.cells #[] 51)).drew).keepN X0.lt hb1c
    have RRc := (((R.alloc (.cells #[.int .i64 p.src, .int .i64 p.dst, Vd] 51)).alloc (.cells #[] 51)).drew).keepN R.lt hb1c
    have B1c : Below w.heap.size w x1c := Bzc.trans (hb1c.mono hB.size)
    have z1c : w2.heap.size ≤ x1c.heap.size := by have := hb1c.size; simp at this; omega
    have Pc : Box x1c (w2.heap.size) [.int .i64 p.src, .int .i64 p.dst, Vd] := (((Box.newAt (w := w2) (n := w2.heap.size) [.int .i64 p.src, .int .i64 p.dst, Vd] 51 rfl).alloc (.cells #[] 51)).drew).same (hg1c.block _ (by simp <;> omega) (by simp [Value.ownBlock]))
    have B2c := B1c
    have O2c := O1c
    obtain ⟨v2c, x2c, hr2c, O3c, hb2c, _⟩ := run_own_pk 22 O2c (pksIn_one Pc (hD.out.below (B2c.mono hDw))) (Nat.le_trans hDw hB.size) (Nat.le_trans z1c (by simp)) (by simp; rw [hnq.out]; omega)
    obtain ⟨A2c, n2c, c2c, rfl⟩ := O3c.form
    rw [List.nil_append] at O3c
    have R2c : (appF #[22, 22] 22 #[v1c, .slice (some ⟨w2.heap.size, 0, none⟩) 1 1]).run Try.prog x1c = .ok (.slice A2c n2c c2c) x2c := hr2c
    have X0c := X0c.keepN X0.lt hb2c
    have RRc := RRc.keepN R.lt hb2c
    have B3c := B2c.trans (hb2c.mono hB.size)
    have H3c := Lib.hid O3c
    have y0c : x2c.cell? ⟨w.heap.size, 0, none⟩ = some (.slice Aq nq cq) := X0c.cell 0
    have yfc : x2c.frozen? ⟨w.heap.size, 0, none⟩ = false := X0c.free 0
    have yzc : w.heap.size < x2c.heap.size := X0c.lt
    clear O3c hr1c hr2c hb1c hb2c hg1c O0c Sc O1c O2c Pc z1c B1c B2c Bzc
    have X0c0 : w2.cell? ⟨w.heap.size, 0, none⟩ = some (.slice Aq nq cq) := X0.cell 0
    have X0f0 : w2.frozen? ⟨w.heap.size, 0, none⟩ = false := X0.free 0
    have X0c1 : w2.cell? ⟨w.heap.size, 1, none⟩ = some (.slice Aa na ca) := X0.cell 1
    have X0f1 : w2.frozen? ⟨w.heap.size, 1, none⟩ = false := X0.free 1
    have X0z : w.heap.size < w2.heap.size := X0.lt
    have X1c0 : w2.cell? ⟨w.heap.size + 1, 0, none⟩ = some (.int .i64 p.src) := X1.cell 0
    have X1f0 : w2.frozen? ⟨w.heap.size + 1, 0, none⟩ = false := X1.free 0
    have X1c1 : w2.cell? ⟨w.heap.size + 1, 1, none⟩ = some (.int .i64 p.dst) := X1.cell 1
    have X1f1 : w2.frozen? ⟨w.heap.size + 1, 1, none⟩ = false := X1.free 1
    have X1c2 : w2.cell? ⟨w.heap.size + 1, 2, none⟩ = some (Vd) := X1.cell 2
    have X1f2 : w2.frozen? ⟨w.heap.size + 1, 2, none⟩ = false := X1.free 2
    have X1z : w.heap.size + 1 < w2.heap.size := X1.lt
    have hne : w.heap.size + 1 + 1 ≠ w.heap.size := by omega
    have hlt : w.heap.size < w2.heap.size := X0.lt
    have hql : (n.queue ++ [p]).length ≤ maxLen := by simp only [List.length_append, List.length_cons, List.length_nil, maxLen]; rw [hnq.out]; omega
    go_region
    all_goals (go_wp2_with fail; go_meet)
    all_goals first | (with_reducible exact ⟨rfl, _, X0a.set 0 (.slice A2a n2a c2a), RRa.other (a := ⟨w.heap.size, 0, none⟩) hne _, (H3a.out.two hql).set (a := ⟨w.heap.size, 0, none⟩) hDw hlt _, B3a.setCell (p := ⟨w.heap.size, 0, none⟩) (Nat.le_refl _) _⟩) | (with_reducible exact ⟨rfl, _, X0b.set 0 (.slice A2b n2b c2b), RRb.other (a := ⟨w.heap.size, 0, none⟩) hne _, (H3b.out.two hql).set (a := ⟨w.heap.size, 0, none⟩) hDw hlt _, B3b.setCell (p := ⟨w.heap.size, 0, none⟩) (Nat.le_refl _) _⟩) | (with_reducible exact ⟨rfl, _, X0c.set 0 (.slice A2c n2c c2c), RRc.other (a := ⟨w.heap.size, 0, none⟩) hne _, (H3c.out.two hql).set (a := ⟨w.heap.size, 0, none⟩) hDw hlt _, B3c.setCell (p := ⟨w.heap.size, 0, none⟩) (Nat.le_refl _) _⟩) | (exact ⟨rfl, _, X0a.set 0 (.slice A2a n2a c2a), RRa.other (a := ⟨w.heap.size, 0, none⟩) hne _, (H3a.out.two hql).set (a := ⟨w.heap.size, 0, none⟩) hDw hlt _, B3a.setCell (p := ⟨w.heap.size, 0, none⟩) (Nat.le_refl _) _⟩) | (exact ⟨rfl, _, X0b.set 0 (.slice A2b n2b c2b), RRb.other (a := ⟨w.heap.size, 0, none⟩) hne _, (H3b.out.two hql).set (a := ⟨w.heap.size, 0, none⟩) hDw hlt _, B3b.setCell (p := ⟨w.heap.size, 0, none⟩) (Nat.le_refl _) _⟩) | (exact ⟨rfl, _, X0c.set 0 (.slice A2c n2c c2c), RRc.other (a := ⟨w.heap.size, 0, none⟩) hne _, (H3c.out.two hql).set (a := ⟨w.heap.size, 0, none⟩) hDw hlt _, B3c.setCell (p := ⟨w.heap.size, 0, none⟩) (Nat.le_refl _) _⟩)
  case rest =>
    obtain ⟨rfl, v, Y0, YR, HQ5, hB5⟩ := hcut
    obtain ⟨A', c', rfl⟩ := HQ5.out.form
    obtain ⟨m, hm⟩ : ∃ m, (n.queue ++ [p]).length = m := ⟨_, rfl⟩
    rw [hm] at Y0 HQ5
    clear hm
    have y0 : wc.cell? ⟨w.heap.size, 0, none⟩ = some (.slice A' m c') := Y0.cell 0
    have y1 : wc.cell? ⟨w.heap.size, 1, none⟩ = some (.slice Aa na ca) := Y0.cell 1
    have yz : w.heap.size < wc.heap.size := Y0.lt
    have r0 : wc.cell? ⟨w.heap.size + 1 + 1, 0, none⟩ = some (.slice none 0 0) := YR.cell 0
    have r1 : wc.cell? ⟨w.heap.size + 1 + 1, 1, none⟩ = some (.slice none 0 0) := YR.cell 1
    have rf0 : wc.frozen? ⟨w.heap.size + 1 + 1, 0, none⟩ = false := YR.free 0
    have rf1 : wc.frozen? ⟨w.heap.size + 1 + 1, 1, none⟩ = false := YR.free 1
    have rz : w.heap.size + 1 + 1 < wc.heap.size := YR.lt
    have hcur : w.heap.size + 1 + 1 < w2.heap.size := R.lt
    go_wp2
    have ZR := (YR.set 0 (.slice A' m c')).set 1 (.slice Aa na ca)
    have HB := (hB5.setCell (p := ⟨w.heap.size + 1 + 1, 0, none⟩) (by simp; omega) (.slice A' m c')).setCell (p := ⟨w.heap.size + 1 + 1, 1, none⟩) (by simp; omega) (.slice Aa na ca)
    have HQ := (HQ5.out.set (a := ⟨w.heap.size + 1 + 1, 0, none⟩) (by simp; omega) (by simp; omega) (.slice A' m c')).set (a := ⟨w.heap.size + 1 + 1, 1, none⟩) (by simp; omega) (by simp; omega) (.slice Aa na ca)
    have hres := hs
    generalize (wc.setCell ⟨w.heap.size + 1 + 1, 0, none⟩ (.slice A' m c')).setCell ⟨w.heap.size + 1 + 1, 1, none⟩ (.slice Aa na ca) = W at ZR HB HQ ⊢
    have z0 : W.cell? ⟨w.heap.size + 1 + 1, 0, none⟩ = some (.slice A' m c') := ZR.cell 0
    have z1 : W.cell? ⟨w.heap.size + 1 + 1, 1, none⟩ = some (.slice Aa na ca) := ZR.cell 1
    refine bodyPost_ret (v := .tuple #[.agg #[(.slice A' m c'), .slice Aa na ca], .int .i64 0]) (by simp [results, Try.results34, go_sem, z0, z1]) rfl ?_
    exact ⟨_, _, _, 0, rfl, hres, ⟨HQ.lower hB.size, (hN.out.apart.below (HB.mono hDw)).two (Nat.le_trans hDw HB.size)⟩, HB⟩

theorem nRSend_any (n : Net) (Vq Va : Value) (p : Pk) (Vd : Value) (w : World) (D : Nat) (hDw : D ≤ w.heap.size) (hN : NetAt w D Vq Va n) (hD : BytesAt w D Vd p.data) : Calls Try.prog 34 #[.agg #[Vq, Va], p.v Vd] w (RetNet (sendT n p) D w) := by
  obtain ⟨Aq, cq, rfl, hmq⟩ := hN.queue.form
  obtain ⟨Aa, ca, rfl, _⟩ := hN.apart.form
  rcases h : n.okB with _ | _
  · exact nRSend_1 n Aq _ cq Aa _ ca p Vd w D hDw hN hD (check_bad h) (by rw [Hid, sendT, if_neg (by rw [h]; simp)])
  · rcases hp : p.okB with _ | _
    · exact nRSend_2 n Aq _ cq Aa _ ca p Vd w D hDw hN hD (check_good h) hp (by rw [Hid, sendT, if_neg (by rw [hp]; simp)])
    · have hl : n.queue.length ≤ 4096 := by
        have := h
        simp only [Net.okB_eq, Bool.and_eq_true, decide_eq_true_eq] at this
        exact this.1
      by_cases h4 : n.queue.length = 4096
      · exact nRSend_3 n Aq _ cq Aa _ ca p Vd w D hDw hN hD (check_good h) hp (by simp [h4]) (by rw [Hid, sendT, if_pos ⟨h, hp⟩, if_pos h4])
      · have hs : sendT n p = (⟨n.queue ++ [p], n.apart⟩, 0) := by rw [sendT, if_pos ⟨h, hp⟩, if_neg h4]
        exact nRSend_4 n Aq _ cq Aa _ ca p Vd w D hDw hN hD (check_good h) hp rfl (by simp [h4]) (by omega) hs

end Go.Proofs.Ytmbifmmkccghfaa

/-
  Contracts of at of network, asked of the reference, slices.Contains over pairs, IsCut. (Printed by gen_ni.py.)
-/
namespace Go.Proofs.Ytmbifmmkccghfaa
open Go.RowKit

def RetPk (t : Pk × Int) (D : Nat) (w : World) (e : Ending) (w' : World) : Prop := ∃ (V : Value) (p : Pk) (er : Int), e = .returned (.tuple #[p.v V, .int .i64 er]) ∧ Hid (t = (p, er)) ∧ Hid (BytesAt w' D V p.data) ∧ Below w.heap.size w w'
def atT (n : Net) (i : Int) : Pk × Int := if askTN n i = 0 then (n.pk i, 0) else (Pk.zero, askTN n i)
theorem Net.pk_at {n : Net} {k : Nat} (h : k < n.queue.length) : n.pk (k : Int) = n.queue[k] := by
  rw [Net.pk, Int.toNat_natCast, List.getD_eq_getElem?_getD, List.getElem?_eq_getElem h]
  rfl

set_option maxRecDepth 100000 in
set_option maxHeartbeats 4000000 in
theorem nAt_1 (n : Net) (Aq : Option Addr) (nq cq : Nat) (Aa : Option Addr) (na ca : Nat) (i : Int) (w : World) (D : Nat) (hDw : D ≤ w.heap.size) (hN : Hid (NetAt w D (.slice Aq nq cq) (.slice Aa na ca) n)) (h : Hid (n.checkT = 60)) (hs : Hid (atT n i = (Pk.zero, 60))) : Calls Try.prog 70 #[.agg #[.slice Aq nq cq, .slice Aa na ca], .int .i64 i] w (RetPk (atT n i) D w) := by
  have HB0 : Below w.heap.size w ((w.alloc (.cells #[.slice Aq nq cq, .slice Aa na ca] 25)).alloc (.cells #[.int .i64 0, .int .i64 0, .slice none 0 0] 51)) := (((Below.refl w.heap.size w).alloc (by simp <;> omega) (.cells #[.slice Aq nq cq, .slice Aa na ca] 25)).alloc (by simp <;> omega) (.cells #[.int .i64 0, .int .i64 0, .slice none 0 0] 51))
  have HNB := Lib.hid (((hN.out.more hDw).below HB0).more HB0.size)
  go_enter Try.func70, Try.ntmps70
  go_wp2_with fail
  refine (nCheck_at h HNB.out).mono ?_
  rintro e w1 ⟨rfl, hb⟩
  have X0 := (((Box.newAt (n := w.heap.size) [.slice Aq nq cq, .slice Aa na ca] 25 (by simp)).alloc _)).later hb
  have R := ((Box.newAt (n := w.heap.size + 1) [.int .i64 0, .int .i64 0, .slice none 0 0] 51 (by simp))).later hb
  have hB : Below w.heap.size w w1 := ((((Below.refl w.heap.size w).alloc (by simp <;> omega) _).alloc (by simp <;> omega) _)).trans (hb.mono (by simp <;> omega))
  clear hb
  have Rc0 : w1.cell? ⟨w.heap.size + 1, 0, none⟩ = some (.int .i64 0) := R.cell 0
  have Rf0 : w1.frozen? ⟨w.heap.size + 1, 0, none⟩ = false := R.free 0
  have Rc1 : w1.cell? ⟨w.heap.size + 1, 1, none⟩ = some (.int .i64 0) := R.cell 1
  have Rf1 : w1.frozen? ⟨w.heap.size + 1, 1, none⟩ = false := R.free 1
  have Rc2 : w1.cell? ⟨w.heap.size + 1, 2, none⟩ = some (.slice none 0 0) := R.cell 2
  have Rf2 : w1.frozen? ⟨w.heap.size + 1, 2, none⟩ = false := R.free 2
  have Rz : w.heap.size + 1 < w1.heap.size := R.lt
  have hle : w.heap.size ≤ w.heap.size + 1 := by omega
  have hres := hs
  go_wp2
  have hY := (((R.set 0 (.int .i64 0)).set 1 (.int .i64 0)).set 2 (.slice none 0 0))
  have hB := (((hB.setCell (p := ⟨w.heap.size + 1, 0, none⟩) (by simp <;> omega) (.int .i64 0)).setCell (p := ⟨w.heap.size + 1, 1, none⟩) (by simp <;> omega) (.int .i64 0)).setCell (p := ⟨w.heap.size + 1, 2, none⟩) (by simp <;> omega) (.slice none 0 0))
  generalize (((w1.setCell ⟨w.heap.size + 1, 0, none⟩ (.int .i64 0)).setCell ⟨w.heap.size + 1, 1, none⟩ (.int .i64 0)).setCell ⟨w.heap.size + 1, 2, none⟩ (.slice none 0 0)) = W at hY hB ⊢
  have y0 : W.cell? ⟨w.heap.size + 1, 0, none⟩ = some (.int .i64 0) := hY.cell 0
  have y1 : W.cell? ⟨w.heap.size + 1, 1, none⟩ = some (.int .i64 0) := hY.cell 1
  have y2 : W.cell? ⟨w.heap.size + 1, 2, none⟩ = some (.slice none 0 0) := hY.cell 2
  refine bodyPost_ret (v := .tuple #[.agg #[.int .i64 0, .int .i64 0, .slice none 0 0], .int .i64 60]) (by simp [results, Try.results70, go_sem, y0, y1, y2]) rfl ?_
  exact ⟨_, Pk.zero, 60, rfl, hres, bytesAt_nil _ _, hB⟩

set_option maxRecDepth 100000 in
set_option maxHeartbeats 4000000 in
theorem nAt_2 (n : Net) (Aq : Option Addr) (nq cq : Nat) (Aa : Option Addr) (na ca : Nat) (i : Int) (w : World) (D : Nat) (hDw : D ≤ w.heap.size) (hN : Hid (NetAt w D (.slice Aq nq cq) (.slice Aa na ca) n)) (h : Hid (n.checkT = 0)) (_hi : i < 0) (hs : Hid (atT n i = (Pk.zero, 1))) : Calls Try.prog 70 #[.agg #[.slice Aq nq cq, .slice Aa na ca], .int .i64 i] w (RetPk (atT n i) D w) := by
  have HB0 : Below w.heap.size w ((w.alloc (.cells #[.slice Aq nq cq, .slice Aa na ca] 25)).alloc (.cells #[.int .i64 0, .int .i64 0, .slice none 0 0] 51)) := (((Below.refl w.heap.size w).alloc (by simp <;> omega) (.cells #[.slice Aq nq cq, .slice Aa na ca] 25)).alloc (by simp <;> omega) (.cells #[.int .i64 0, .int .i64 0, .slice none 0 0] 51))
  have HNB := Lib.hid (((hN.out.more hDw).below HB0).more HB0.size)
  go_enter Try.func70, Try.ntmps70
  go_wp2_with fail
  refine (nCheck_at h HNB.out).mono ?_
  rintro e w1 ⟨rfl, hb⟩
  have X0 := (((Box.newAt (n := w.heap.size) [.slice Aq nq cq, .slice Aa na ca] 25 (by simp)).alloc _)).later hb
  have R := ((Box.newAt (n := w.heap.size + 1) [.int .i64 0, .int .i64 0, .slice none 0 0] 51 (by simp))).later hb
  have hB : Below w.heap.size w w1 := ((((Below.refl w.heap.size w).alloc (by simp <;> omega) _).alloc (by simp <;> omega) _)).trans (hb.mono (by simp <;> omega))
  clear hb
  have X0c0 : w1.cell? ⟨w.heap.size, 0, none⟩ = some (.slice Aq nq cq) := X0.cell 0
  have X0f0 : w1.frozen? ⟨w.heap.size, 0, none⟩ = false := X0.free 0
  have X0c1 : w1.cell? ⟨w.heap.size, 1, none⟩ = some (.slice Aa na ca) := X0.cell 1
  have X0f1 : w1.frozen? ⟨w.heap.size, 1, none⟩ = false := X0.free 1
  have X0z : w.heap.size < w1.heap.size := X0.lt
  have Rc0 : w1.cell? ⟨w.heap.size + 1, 0, none⟩ = some (.int .i64 0) := R.cell 0
  have Rf0 : w1.frozen? ⟨w.heap.size + 1, 0, none⟩ = false := R.free 0
  have Rc1 : w1.cell? ⟨w.heap.size + 1, 1, none⟩ = some (.int .i64 0) := R.cell 1
  have Rf1 : w1.frozen? ⟨w.heap.size + 1, 1, none⟩ = false := R.free 1
  have Rc2 : w1.cell? ⟨w.heap.size + 1, 2, none⟩ = some (.slice none 0 0) := R.cell 2
  have Rf2 : w1.frozen? ⟨w.heap.size + 1, 2, none⟩ = false := R.free 2
  have Rz : w.heap.size + 1 < w1.heap.size := R.lt
  have hle : w.heap.size ≤ w.heap.size + 1 := by omega
  have hres := hs
  go_wp2
  have hY := (((R.set 0 (.int .i64 0)).set 1 (.int .i64 0)).set 2 (.slice none 0 0))
  have hB := (((hB.setCell (p := ⟨w.heap.size + 1, 0, none⟩) (by simp <;> omega) (.int .i64 0)).setCell (p := ⟨w.heap.size + 1, 1, none⟩) (by simp <;> omega) (.int .i64 0)).setCell (p := ⟨w.heap.size + 1, 2, none⟩) (by simp <;> omega) (.slice none 0 0))
  generalize (((w1.setCell ⟨w.heap.size + 1, 0, none⟩ (.int .i64 0)).setCell ⟨w.heap.size + 1, 1, none⟩ (.int .i64 0)).setCell ⟨w.heap.size + 1, 2, none⟩ (.slice none 0 0)) = W at hY hB ⊢
  have y0 : W.cell? ⟨w.heap.size + 1, 0, none⟩ = some (.int .i64 0) := hY.cell 0
  have y1 : W.cell? ⟨w.heap.size + 1, 1, none⟩ = some (.int .i64 0) := hY.cell 1
  have y2 : W.cell? ⟨w.heap.size + 1, 2, none⟩ = some (.slice none 0 0) := hY.cell 2
  refine bodyPost_ret (v := .tuple #[.agg #[.int .i64 0, .int .i64 0, .slice none 0 0], .int .i64 1]) (by simp [results, Try.results70, go_sem, y0, y1, y2]) rfl ?_
  exact ⟨_, Pk.zero, 1, rfl, hres, bytesAt_nil _ _, hB⟩

set_option maxRecDepth 100000 in
set_option maxHeartbeats 4000000 in
theorem nAt_3 (n : Net) (Aq : Option Addr) (nq cq : Nat) (Aa : Option Addr) (na ca : Nat) (i : Int) (w : World) (D : Nat) (hDw : D ≤ w.heap.size) (hN : Hid (NetAt w D (.slice Aq nq cq) (.slice Aa na ca) n)) (h : Hid (n.checkT = 0)) (_hi : 0 ≤ i) (_hl : (nq : Int) ≤ i) (hs : Hid (atT n i = (Pk.zero, 1))) : Calls Try.prog 70 #[.agg #[.slice Aq nq cq, .slice Aa na ca], .int .i64 i] w (RetPk (atT n i) D w) := by
  have HB0 : Below w.heap.size w ((w.alloc (.cells #[.slice Aq nq cq, .slice Aa na ca] 25)).alloc (.cells #[.int .i64 0, .int .i64 0, .slice none 0 0] 51)) := (((Below.refl w.heap.size w).alloc (by simp <;> omega) (.cells #[.slice Aq nq cq, .slice Aa na ca] 25)).alloc (by simp <;> omega) (.cells #[.int .i64 0, .int .i64 0, .slice none 0 0] 51))
  have HNB := Lib.hid (((hN.out.more hDw).below HB0).more HB0.size)
  go_enter Try.func70, Try.ntmps70
  go_wp2_with fail
  refine (nCheck_at h HNB.out).mono ?_
  rintro e w1 ⟨rfl, hb⟩
  have X0 := (((Box.newAt (n := w.heap.size) [.slice Aq nq cq, .slice Aa na ca] 25 (by simp)).alloc _)).later hb
  have R := ((Box.newAt (n := w.heap.size + 1) [.int .i64 0, .int .i64 0, .slice none 0 0] 51 (by simp))).later hb
  have hB : Below w.heap.size w w1 := ((((Below.refl w.heap.size w).alloc (by simp <;> omega) _).alloc (by simp <;> omega) _)).trans (hb.mono (by simp <;> omega))
  clear hb
  have X0c0 : w1.cell? ⟨w.heap.size, 0, none⟩ = some (.slice Aq nq cq) := X0.cell 0
  have X0f0 : w1.frozen? ⟨w.heap.size, 0, none⟩ = false := X0.free 0
  have X0c1 : w1.cell? ⟨w.heap.size, 1, none⟩ = some (.slice Aa na ca) := X0.cell 1
  have X0f1 : w1.frozen? ⟨w.heap.size, 1, none⟩ = false := X0.free 1
  have X0z : w.heap.size < w1.heap.size := X0.lt
  have Rc0 : w1.cell? ⟨w.heap.size + 1, 0, none⟩ = some (.int .i64 0) := R.cell 0
  have Rf0 : w1.frozen? ⟨w.heap.size + 1, 0, none⟩ = false := R.free 0
  have Rc1 : w1.cell? ⟨w.heap.size + 1, 1, none⟩ = some (.int .i64 0) := R.cell 1
  have Rf1 : w1.frozen? ⟨w.heap.size + 1, 1, none⟩ = false := R.free 1
  have Rc2 : w1.cell? ⟨w.heap.size + 1, 2, none⟩ = some (.slice none 0 0) := R.cell 2
  have Rf2 : w1.frozen? ⟨w.heap.size + 1, 2, none⟩ = false := R.free 2
  have Rz : w.heap.size + 1 < w1.heap.size := R.lt
  have hle : w.heap.size ≤ w.heap.size + 1 := by omega
  have hres := hs
  go_wp2
  have hY := (((R.set 0 (.int .i64 0)).set 1 (.int .i64 0)).set 2 (.slice none 0 0))
  have hB := (((hB.setCell (p := ⟨w.heap.size + 1, 0, none⟩) (by simp <;> omega) (.int .i64 0)).setCell (p := ⟨w.heap.size + 1, 1, none⟩) (by simp <;> omega) (.int .i64 0)).setCell (p := ⟨w.heap.size + 1, 2, none⟩) (by simp <;> omega) (.slice none 0 0))
  generalize (((w1.setCell ⟨w.heap.size + 1, 0, none⟩ (.int .i64 0)).setCell ⟨w.heap.size + 1, 1, none⟩ (.int .i64 0)).setCell ⟨w.heap.size + 1, 2, none⟩ (.slice none 0 0)) = W at hY hB ⊢
  have y0 : W.cell? ⟨w.heap.size + 1, 0, none⟩ = some (.int .i64 0) := hY.cell 0
  have y1 : W.cell? ⟨w.heap.size + 1, 1, none⟩ = some (.int .i64 0) := hY.cell 1
  have y2 : W.cell? ⟨w.heap.size + 1, 2, none⟩ = some (.slice none 0 0) := hY.cell 2
  refine bodyPost_ret (v := .tuple #[.agg #[.int .i64 0, .int .i64 0, .slice none 0 0], .int .i64 1]) (by simp [results, Try.results70, go_sem, y0, y1, y2]) rfl ?_
  exact ⟨_, Pk.zero, 1, rfl, hres, bytesAt_nil _ _, hB⟩

set_option maxRecDepth 100000 in
set_option maxHeartbeats 4000000 in
theorem nAt_4 (n : Net) (Aq : Option Addr) (nq cq : Nat) (Aa : Option Addr) (na ca : Nat) (i : Int) (w : World) (D : Nat) (hDw : D ≤ w.heap.size) (hN : Hid (NetAt w D (.slice Aq nq cq) (.slice Aa na ca) n)) (k : Nat) (_hk : i = (k : Int)) (hkn : k < nq) (h : Hid (n.checkT = 0)) (hnq : Hid (n.queue.length = nq)) (_hm : nq ≤ 9223372036854775807) : Calls Try.prog 70 #[.agg #[.slice Aq nq cq, .slice Aa na ca], .int .i64 i] w (RetPk (atT n i) D w) := by
  subst _hk
  have hkl : k < n.queue.length := by rw [hnq.out]; exact hkn
  have hs : Hid (atT n (k : Int) = (n.queue[k], 0)) := by
    have hok : askTN n (k : Int) = 0 := by
      have hh := h.out
      rw [Net.checkT] at hh
      rw [askTN, if_pos (by by_cases hx : n.okB = true; exact hx; rw [if_neg hx] at hh; omega), if_pos ⟨by omega, by omega⟩]
    rw [Hid, atT, if_pos hok, Net.pk_at hkl]
  obtain ⟨b, off, V, rfl, hbw, q0, q1, q2, hV⟩ := hN.out.queue.pk hkl
  obtain ⟨Ad, cd, rfl, _⟩ := hV.form
  obtain ⟨dl, hdl⟩ : ∃ dl, (n.queue[k]).data.length = dl := ⟨_, rfl⟩
  rw [hdl] at q2 hV
  obtain ⟨y, hy⟩ : ∃ y, n.queue[k] = y := ⟨_, rfl⟩
  rw [hy] at q0 q1 hV hs
  have HV := Lib.hid hV
  have Q0 := Lib.hid q0
  have Q1 := Lib.hid q1
  have Q2 := Lib.hid q2
  clear hdl hy hV q0 q1 q2
  have HB0 : Below w.heap.size w ((w.alloc (.cells #[.slice (some ⟨b, off, none⟩) nq cq, .slice Aa na ca] 25)).alloc (.cells #[.int .i64 0, .int .i64 0, .slice none 0 0] 51)) := (((Below.refl w.heap.size w).alloc (by simp <;> omega) (.cells #[.slice (some ⟨b, off, none⟩) nq cq, .slice Aa na ca] 25)).alloc (by simp <;> omega) (.cells #[.int .i64 0, .int .i64 0, .slice none 0 0] 51))
  have HNB := Lib.hid (((hN.out.more hDw).below HB0).more HB0.size)
  go_enter Try.func70, Try.ntmps70
  go_wp2_with fail
  refine (nCheck_at h HNB.out).mono ?_
  rintro e w1 ⟨rfl, hb⟩
  have X0 := (((Box.newAt (n := w.heap.size) [.slice (some ⟨b, off, none⟩) nq cq, .slice Aa na ca] 25 (by simp)).alloc _)).later hb
  have R := ((Box.newAt (n := w.heap.size + 1) [.int .i64 0, .int .i64 0, .slice none 0 0] 51 (by simp))).later hb
  have hB : Below w.heap.size w w1 := ((((Below.refl w.heap.size w).alloc (by simp <;> omega) _).alloc (by simp <;> omega) _)).trans (hb.mono (by simp <;> omega))
  clear hb
  have hbv := Nat.lt_of_lt_of_le hbw hDw
  have q0 := (hB.cell hbv).trans Q0.out
  have q1 := (hB.cell hbv).trans Q1.out
  have q2 := (hB.cell hbv).trans Q2.out
  have hbz : b < w1.heap.size := by have := hB.size; omega
  have X0c0 : w1.cell? ⟨w.heap.size, 0, none⟩ = some (.slice (some ⟨b, off, none⟩) nq cq) := X0.cell 0
  have X0f0 : w1.frozen? ⟨w.heap.size, 0, none⟩ = false := X0.free 0
  have X0c1 : w1.cell? ⟨w.heap.size, 1, none⟩ = some (.slice Aa na ca) := X0.cell 1
  have X0f1 : w1.frozen? ⟨w.heap.size, 1, none⟩ = false := X0.free 1
  have X0z : w.heap.size < w1.heap.size := X0.lt
  have Rc0 : w1.cell? ⟨w.heap.size + 1, 0, none⟩ = some (.int .i64 0) := R.cell 0
  have Rf0 : w1.frozen? ⟨w.heap.size + 1, 0, none⟩ = false := R.free 0
  have Rc1 : w1.cell? ⟨w.heap.size + 1, 1, none⟩ = some (.int .i64 0) := R.cell 1
  have Rf1 : w1.frozen? ⟨w.heap.size + 1, 1, none⟩ = false := R.free 1
  have Rc2 : w1.cell? ⟨w.heap.size + 1, 2, none⟩ = some (.slice none 0 0) := R.cell 2
  have Rf2 : w1.frozen? ⟨w.heap.size + 1, 2, none⟩ = false := R.free 2
  have Rz : w.heap.size + 1 < w1.heap.size := R.lt
  have hle : w.heap.size ≤ w.heap.size + 1 := by omega
  have hres := hs
  go_wp2
  have hY := (((R.set 0 (.int .i64 y.src)).set 1 (.int .i64 y.dst)).set 2 (.slice Ad dl cd))
  have hB := (((hB.setCell (p := ⟨w.heap.size + 1, 0, none⟩) (by simp <;> omega) (.int .i64 y.src)).setCell (p := ⟨w.heap.size + 1, 1, none⟩) (by simp <;> omega) (.int .i64 y.dst)).setCell (p := ⟨w.heap.size + 1, 2, none⟩) (by simp <;> omega) (.slice Ad dl cd))
  generalize (((w1.setCell ⟨w.heap.size + 1, 0, none⟩ (.int .i64 y.src)).setCell ⟨w.heap.size + 1, 1, none⟩ (.int .i64 y.dst)).setCell ⟨w.heap.size + 1, 2, none⟩ (.slice Ad dl cd)) = W at hY hB ⊢
  have y0 : W.cell? ⟨w.heap.size + 1, 0, none⟩ = some (.int .i64 y.src) := hY.cell 0
  have y1 : W.cell? ⟨w.heap.size + 1, 1, none⟩ = some (.int .i64 y.dst) := hY.cell 1
  have y2 : W.cell? ⟨w.heap.size + 1, 2, none⟩ = some (.slice Ad dl cd) := hY.cell 2
  refine bodyPost_ret (v := .tuple #[.agg #[.int .i64 y.src, .int .i64 y.dst, .slice Ad dl cd], .int .i64 0]) (by simp [results, Try.results70, go_sem, y0, y1, y2]) rfl ?_
  exact ⟨_, y, 0, rfl, hres, HV.out.below (hB.mono hDw), hB⟩

theorem nAt_any (n : Net) (Vq Va : Value) (i : Int) (w : World) (D : Nat) (hDw : D ≤ w.heap.size) (hN : NetAt w D Vq Va n) : Calls Try.prog 70 #[.agg #[Vq, Va], .int .i64 i] w (RetPk (atT n i) D w) := by
  obtain ⟨Aq, cq, rfl, hmq⟩ := hN.queue.form
  obtain ⟨Aa, ca, rfl, _⟩ := hN.apart.form
  rcases h : n.okB with _ | _
  · have ha : askTN n i = 60 := by rw [askTN, h]; rfl
    exact nAt_1 n Aq _ cq Aa _ ca i w D hDw hN (check_bad h) (by rw [Hid, atT, ha]; rfl)
  · by_cases hi : 0 ≤ i ∧ i < (n.queue.length : Int)
    · obtain ⟨k, rfl⟩ := Int.eq_ofNat_of_zero_le hi.1
      exact nAt_4 n Aq _ cq Aa _ ca _ w D hDw hN k rfl (by omega) (check_good h) rfl (by unfold maxLen at hmq; omega)
    · have ha : askTN n i = 1 := by rw [askTN, h, if_pos rfl, if_neg hi]
      have hs : Hid (atT n i = (Pk.zero, 1)) := by rw [Hid, atT, ha]; rfl
      by_cases h0 : i < 0
      · exact nAt_2 n Aq _ cq Aa _ ca i w D hDw hN (check_good h) h0 hs
      · exact nAt_3 n Aq _ cq Aa _ ca i w D hDw hN (check_good h) (by omega) (by omega) hs

set_option maxRecDepth 100000 in
set_option maxHeartbeats 4000000 in
theorem nAsked_1 (n : Net) (Aq : Option Addr) (nq cq : Nat) (Aa : Option Addr) (na ca : Nat) (i : Int) (w : World) (D : Nat) (hDw : D ≤ w.heap.size) (hN : Hid (NetAt w D (.slice Aq nq cq) (.slice Aa na ca) n)) (h : Hid (n.checkT = 60)) : Calls Try.prog 74 #[.agg #[.slice Aq nq cq, .slice Aa na ca], .int .i64 i] w (fun e w' => e = .returned (.int .i64 60) ∧ Below w.heap.size w w') := by
  have HB0 : Below w.heap.size w (w.alloc (.cells #[.slice Aq nq cq, .slice Aa na ca] 25)) := ((Below.refl w.heap.size w).alloc (by simp <;> omega) (.cells #[.slice Aq nq cq, .slice Aa na ca] 25))
  have HNB := Lib.hid (((hN.out.more hDw).below HB0).more HB0.size)
  go_enter Try.func74, Try.ntmps74
  go_wp2_with fail
  refine (nRCheck_at h HNB.out).mono ?_
  rintro e w1 ⟨rfl, hb⟩
  have X0 := ((Box.newAt (n := w.heap.size) [.slice Aq nq cq, .slice Aa na ca] 25 (by simp))).later hb
  have hB : Below w.heap.size w w1 := (((Below.refl w.heap.size w).alloc (by simp <;> omega) _)).trans (hb.mono (by simp <;> omega))
  clear hb
  go_wp2
  go_ret
  exact ⟨rfl, hB⟩

set_option maxRecDepth 100000 in
set_option maxHeartbeats 4000000 in
theorem nAsked_2 (n : Net) (Aq : Option Addr) (nq cq : Nat) (Aa : Option Addr) (na ca : Nat) (i : Int) (w : World) (D : Nat) (hDw : D ≤ w.heap.size) (hN : Hid (NetAt w D (.slice Aq nq cq) (.slice Aa na ca) n)) (h : Hid (n.checkT = 0)) (_hi : i < 0) : Calls Try.prog 74 #[.agg #[.slice Aq nq cq, .slice Aa na ca], .int .i64 i] w (fun e w' => e = .returned (.int .i64 1) ∧ Below w.heap.size w w') := by
  have HB0 : Below w.heap.size w (w.alloc (.cells #[.slice Aq nq cq, .slice Aa na ca] 25)) := ((Below.refl w.heap.size w).alloc (by simp <;> omega) (.cells #[.slice Aq nq cq, .slice Aa na ca] 25))
  have HNB := Lib.hid (((hN.out.more hDw).below HB0).more HB0.size)
  go_enter Try.func74, Try.ntmps74
  go_wp2_with fail
  refine (nRCheck_at h HNB.out).mono ?_
  rintro e w1 ⟨rfl, hb⟩
  have X0 := ((Box.newAt (n := w.heap.size) [.slice Aq nq cq, .slice Aa na ca] 25 (by simp))).later hb
  have hB : Below w.heap.size w w1 := (((Below.refl w.heap.size w).alloc (by simp <;> omega) _)).trans (hb.mono (by simp <;> omega))
  clear hb
  have X0c0 : w1.cell? ⟨w.heap.size, 0, none⟩ = some (.slice Aq nq cq) := X0.cell 0
  have X0f0 : w1.frozen? ⟨w.heap.size, 0, none⟩ = false := X0.free 0
  have X0c1 : w1.cell? ⟨w.heap.size, 1, none⟩ = some (.slice Aa na ca) := X0.cell 1
  have X0f1 : w1.frozen? ⟨w.heap.size, 1, none⟩ = false := X0.free 1
  have X0z : w.heap.size < w1.heap.size := X0.lt
  go_wp2
  go_ret
  exact ⟨rfl, hB⟩

set_option maxRecDepth 100000 in
set_option maxHeartbeats 4000000 in
theorem nAsked_3 (n : Net) (Aq : Option Addr) (nq cq : Nat) (Aa : Option Addr) (na ca : Nat) (i : Int) (w : World) (D : Nat) (hDw : D ≤ w.heap.size) (hN : Hid (NetAt w D (.slice Aq nq cq) (.slice Aa na ca) n)) (h : Hid (n.checkT = 0)) (_hi : 0 ≤ i) (_hl : (nq : Int) ≤ i) : Calls Try.prog 74 #[.agg #[.slice Aq nq cq, .slice Aa na ca], .int .i64 i] w (fun e w' => e = .returned (.int .i64 1) ∧ Below w.heap.size w w') := by
  have HB0 : Below w.heap.size w (w.alloc (.cells #[.slice Aq nq cq, .slice Aa na ca] 25)) := ((Below.refl w.heap.size w).alloc (by simp <;> omega) (.cells #[.slice Aq nq cq, .slice Aa na ca] 25))
  have HNB := Lib.hid (((hN.out.more hDw).below HB0).more HB0.size)
  go_enter Try.func74, Try.ntmps74
  go_wp2_with fail
  refine (nRCheck_at h HNB.out).mono ?_
  rintro e w1 ⟨rfl, hb⟩
  have X0 := ((Box.newAt (n := w.heap.size) [.slice Aq nq cq, .slice Aa na ca] 25 (by simp))).later hb
  have hB : Below w.heap.size w w1 := (((Below.refl w.heap.size w).alloc (by simp <;> omega) _)).trans (hb.mono (by simp <;> omega))
  clear hb
  have X0c0 : w1.cell? ⟨w.heap.size, 0, none⟩ = some (.slice Aq nq cq) := X0.cell 0
  have X0f0 : w1.frozen? ⟨w.heap.size, 0, none⟩ = false := X0.free 0
  have X0c1 : w1.cell? ⟨w.heap.size, 1, none⟩ = some (.slice Aa na ca) := X0.cell 1
  have X0f1 : w1.frozen? ⟨w.heap.size, 1, none⟩ = false := X0.free 1
  have X0z : w.heap.size < w1.heap.size := X0.lt
  go_wp2
  go_ret
  exact ⟨rfl, hB⟩

set_option maxRecDepth 100000 in
set_option maxHeartbeats 4000000 in
theorem nAsked_4 (n : Net) (Aq : Option Addr) (nq cq : Nat) (Aa : Option Addr) (na ca : Nat) (i : Int) (w : World) (D : Nat) (hDw : D ≤ w.heap.size) (hN : Hid (NetAt w D (.slice Aq nq cq) (.slice Aa na ca) n)) (h : Hid (n.checkT = 0)) (_hi : 0 ≤ i) (_hl : i < (nq : Int)) : Calls Try.prog 74 #[.agg #[.slice Aq nq cq, .slice Aa na ca], .int .i64 i] w (fun e w' => e = .returned (.int .i64 0) ∧ Below w.heap.size w w') := by
  have HB0 : Below w.heap.size w (w.alloc (.cells #[.slice Aq nq cq, .slice Aa na ca] 25)) := ((Below.refl w.heap.size w).alloc (by simp <;> omega) (.cells #[.slice Aq nq cq, .slice Aa na ca] 25))
  have HNB := Lib.hid (((hN.out.more hDw).below HB0).more HB0.size)
  go_enter Try.func74, Try.ntmps74
  go_wp2_with fail
  refine (nRCheck_at h HNB.out).mono ?_
  rintro e w1 ⟨rfl, hb⟩
  have X0 := ((Box.newAt (n := w.heap.size) [.slice Aq nq cq, .slice Aa na ca] 25 (by simp))).later hb
  have hB : Below w.heap.size w w1 := (((Below.refl w.heap.size w).alloc (by simp <;> omega) _)).trans (hb.mono (by simp <;> omega))
  clear hb
  have X0c0 : w1.cell? ⟨w.heap.size, 0, none⟩ = some (.slice Aq nq cq) := X0.cell 0
  have X0f0 : w1.frozen? ⟨w.heap.size, 0, none⟩ = false := X0.free 0
  have X0c1 : w1.cell? ⟨w.heap.size, 1, none⟩ = some (.slice Aa na ca) := X0.cell 1
  have X0f1 : w1.frozen? ⟨w.heap.size, 1, none⟩ = false := X0.free 1
  have X0z : w.heap.size < w1.heap.size := X0.lt
  go_wp2
  go_ret
  exact ⟨rfl, hB⟩

theorem nAsked_any (n : Net) (Vq Va : Value) (i : Int) (w : World) (D : Nat) (hDw : D ≤ w.heap.size) (hN : NetAt w D Vq Va n) : Calls Try.prog 74 #[.agg #[Vq, Va], .int .i64 i] w fun e w' => e = .returned (.int .i64 (askTN n i)) ∧ Below w.heap.size w w' := by
  obtain ⟨Aq, cq, rfl, hmq⟩ := hN.queue.form
  obtain ⟨Aa, ca, rfl, _⟩ := hN.apart.form
  rcases h : n.okB with _ | _
  · have ha : askTN n i = 60 := by rw [askTN, h]; rfl
    rw [ha]
    exact nAsked_1 n Aq _ cq Aa _ ca i w D hDw hN (check_bad h)
  · by_cases hi : 0 ≤ i ∧ i < (n.queue.length : Int)
    · have ha : askTN n i = 0 := by rw [askTN, h, if_pos rfl, if_pos hi]
      rw [ha]
      exact nAsked_4 n Aq _ cq Aa _ ca i w D hDw hN (check_good h) hi.1 hi.2
    · have ha : askTN n i = 1 := by rw [askTN, h, if_pos rfl, if_neg hi]
      rw [ha]
      by_cases h0 : i < 0
      · exact nAsked_2 n Aq _ cq Aa _ ca i w D hDw hN (check_good h) h0
      · exact nAsked_3 n Aq _ cq Aa _ ca i w D hDw hN (check_good h) (by omega) (by omega)

end Go.Proofs.Ytmbifmmkccghfaa
