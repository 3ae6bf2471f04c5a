/-
  NetworkOnlySent. (Printed by gen_ok.py.)
-/
import Derived.Test.YtndjpaiakodciaaOJ
import Derived.Deep.DeepCutAuto
import Derived.Deep.RegionHeld3
namespace Go.Proofs.Ytndjpaiakodciaa
open Go.RowKit
attribute [local go_sem ↓ high] app_named

structure Mv where
  (kd ta sa sb dt : Int)
def Mv.ok (x : Mv) : Prop := (0 ≤ x.kd ∧ x.kd ≤ 255) ∧ (0 ≤ x.ta ∧ x.ta ≤ 255) ∧ (0 ≤ x.sa ∧ x.sa ≤ 255) ∧ (0 ≤ x.sb ∧ x.sb ≤ 255) ∧ (0 ≤ x.dt ∧ x.dt ≤ 255)
def mvCells (l : List Mv) (i j : Nat) : Value :=
  if j = 0 then .int .u8 (l.getD i ⟨0, 0, 0, 0, 0⟩).kd else if j = 1 then .int .u8 (l.getD i ⟨0, 0, 0, 0, 0⟩).ta else if j = 2 then .int .u8 (l.getD i ⟨0, 0, 0, 0, 0⟩).sa else if j = 3 then .int .u8 (l.getD i ⟨0, 0, 0, 0, 0⟩).sb else .int .u8 (l.getD i ⟨0, 0, 0, 0, 0⟩).dt
/-- v is a slice of the moves l. -/
def MovesAt (w : World) (B : Nat) (v : Value) (l : List Mv) : Prop := Sl w B 5 l.length (mvCells l) v ∧ ∀ x ∈ l, x.ok
theorem MovesAt.elem {w : World} {B n c : Nat} {A : Option Addr} {l : List Mv} (h : MovesAt w B (.slice A n c) l) {k : Nat} (hk : k < l.length) :
    ∃ b off, A = some ⟨b, off, none⟩ ∧ b < B ∧ w.cell? ⟨b, off + k * 5, none⟩ = some (.int .u8 (l[k]).kd) ∧ w.cell? ⟨b, off + k * 5 + 1, none⟩ = some (.int .u8 (l[k]).ta) ∧ w.cell? ⟨b, off + k * 5 + 2, none⟩ = some (.int .u8 (l[k]).sa) ∧ w.cell? ⟨b, off + k * 5 + 3, none⟩ = some (.int .u8 (l[k]).sb) ∧ w.cell? ⟨b, off + k * 5 + 4, none⟩ = some (.int .u8 (l[k]).dt) := by
  obtain ⟨⟨A', c', hv, _, h1⟩, _⟩ := h
  cases hv
  obtain ⟨b, off, rfl, hb, h3⟩ := h1 k hk
  have eg : l.getD k ⟨0, 0, 0, 0, 0⟩ = l[k] := by rw [List.getD_eq_getElem?_getD, List.getElem?_eq_getElem hk]; rfl
  have c0 := h3 0 (by omega)
  have c1 := h3 1 (by omega)
  have c2 := h3 2 (by omega)
  have c3 := h3 3 (by omega)
  have c4 := h3 4 (by omega)
  simp only [mvCells, eg] at c0 c1 c2 c3 c4
  exact ⟨b, off, rfl, hb, c0, by rw [Nat.add_assoc]; exact c1, by rw [Nat.add_assoc]; exact c2, by rw [Nat.add_assoc]; exact c3, by rw [Nat.add_assoc]; exact c4⟩
/-- A result of happens, its slices written out. -/
theorem RetHap.is {t : Net × Pk × Int} {m : Net} {p : Pk} {er : Int} {a b k : Nat} {w w' : World} {e : Ending} (hh : RetHap t w e w') (h : Hid (t = (m, p, er))) (hq : Hid (m.queue.length = a)) (ha : Hid (m.apart.length = b)) (hk : Hid (p.data.length = k)) :
    ∃ (Ad : Option Addr) (cd : Nat) (Aq : Option Addr) (cq : Nat) (Aa : Option Addr) (ca : Nat), e = .returned (.tuple #[.agg #[.slice Aq a cq, .slice Aa b ca], .agg #[.int .i64 p.src, .int .i64 p.dst, .slice Ad k cd], .int .i64 er]) ∧
      Hid (BytesAt w' w'.heap.size (.slice Ad k cd) p.data) ∧ Hid (NetAt w' w'.heap.size (.slice Aq a cq) (.slice Aa b ca) m) ∧ Below w.heap.size w w' := by
  obtain ⟨Vq, Va, V, m', p', er', he, ht, hN, hV, hb⟩ := hh
  have h2 := ht.symm.trans h.out
  injection h2 with h3 h4
  injection h4 with h4 h5
  subst h3 h4 h5
  obtain ⟨Aq, cq, rfl, _⟩ := hN.queue.form2 hq.out
  obtain ⟨Aa, ca, rfl, _⟩ := hN.apart.form2 ha.out
  obtain ⟨Ad, cd, rfl, _⟩ := hV.form
  rw [hk.out] at he hV
  exact ⟨Ad, cd, Aq, cq, Aa, ca, he, hV, hN, hb⟩

/-- What region 11 leaves. -/
def After (W wx : World) (Xa Pa : Nat) (m : Net) (p : Pk) (mq ma pl : Nat) : Prop :=
  ∃ (A1 : Option Addr) (c1 : Nat) (A2 : Option Addr) (c2 : Nat) (A3 : Option Addr) (c3 : Nat), Below W.heap.size W wx ∧ Box wx Xa [.slice A1 mq c1, .slice A2 ma c2] ∧ Box wx Pa [.int .i64 p.src, .int .i64 p.dst, .slice A3 pl c3] ∧
    Hid (NetAt wx wx.heap.size (.slice A1 mq c1) (.slice A2 ma c2) m) ∧ Hid (BytesAt wx wx.heap.size (.slice A3 pl c3) p.data) ∧ W.heap.size ≤ Xa ∧ W.heap.size ≤ Pa ∧ Xa ≠ Pa
section
variable {W w : World} {m : Net} {p : Pk} {mq ma pl : Nat} {Aq6 Aa6 Ad6 : Option Addr} {cq6 ca6 cd6 : Nat}
theorem after_new (hB : Below W.heap.size W w) (hN : Hid (NetAt w w.heap.size (.slice Aq6 mq cq6) (.slice Aa6 ma ca6) m)) (hV : Hid (BytesAt w w.heap.size (.slice Ad6 pl cd6) p.data)) : After W ((w.alloc (.cells #[.slice Aq6 mq cq6, .slice Aa6 ma ca6] 25)).alloc (.cells #[.int .i64 p.src, .int .i64 p.dst, .slice Ad6 pl cd6] 28)) w.heap.size (w.heap.size + 1) m p mq ma pl := by
  have hst := ((Below.refl w.heap.size w).alloc (Nat.le_refl _) (.cells #[.slice Aq6 mq cq6, .slice Aa6 ma ca6] 25)).alloc (by simp) (.cells #[.int .i64 p.src, .int .i64 p.dst, .slice Ad6 pl cd6] 28)
  exact ⟨Aq6, cq6, Aa6, ca6, Ad6, cd6, hB.trans (hst.mono hB.size), (Box.new w [.slice Aq6 mq cq6, .slice Aa6 ma ca6] 25).alloc _, Box.newAt (w := w.alloc (.cells #[.slice Aq6 mq cq6, .slice Aa6 ma ca6] 25)) (n := w.heap.size + 1) [.int .i64 p.src, .int .i64 p.dst, .slice Ad6 pl cd6] 28 (by simp), hid_later hN hst, hid_bytes hV hst, hB.size, Nat.le_succ_of_le hB.size, by omega⟩
theorem after_new' (hB : Below W.heap.size W w) (hN : Hid (NetAt w w.heap.size (.slice Aq6 mq cq6) (.slice Aa6 ma ca6) m)) (hV : Hid (BytesAt w w.heap.size (.slice Ad6 pl cd6) p.data)) : After W ((w.alloc (.cells #[.int .i64 p.src, .int .i64 p.dst, .slice Ad6 pl cd6] 28)).alloc (.cells #[.slice Aq6 mq cq6, .slice Aa6 ma ca6] 25)) (w.heap.size + 1) w.heap.size m p mq ma pl := by
  have hst := ((Below.refl w.heap.size w).alloc (Nat.le_refl _) (.cells #[.int .i64 p.src, .int .i64 p.dst, .slice Ad6 pl cd6] 28)).alloc (by simp) (.cells #[.slice Aq6 mq cq6, .slice Aa6 ma ca6] 25)
  exact ⟨Aq6, cq6, Aa6, ca6, Ad6, cd6, hB.trans (hst.mono hB.size), Box.newAt (w := w.alloc (.cells #[.int .i64 p.src, .int .i64 p.dst, .slice Ad6 pl cd6] 28)) (n := w.heap.size + 1) [.slice Aq6 mq cq6, .slice Aa6 ma ca6] 25 (by simp), (Box.new w [.int .i64 p.src, .int .i64 p.dst, .slice Ad6 pl cd6] 28).alloc _, hid_later hN hst, hid_bytes hV hst, Nat.le_succ_of_le hB.size, hB.size, by omega⟩
/-- The net's block lay there before the call. -/
theorem after_x {x : Nat} (hB : Below W.heap.size W w) (hN : Hid (NetAt w w.heap.size (.slice Aq6 mq cq6) (.slice Aa6 ma ca6) m)) (hV : Hid (BytesAt w w.heap.size (.slice Ad6 pl cd6) p.data)) (hX : Box w x [.slice none 0 0, .slice none 0 0]) (hx : W.heap.size ≤ x) :
    After W (((w.setCell ⟨x, 0, none⟩ (.slice Aq6 mq cq6)).setCell ⟨x, 1, none⟩ (.slice Aa6 ma ca6)).alloc (.cells #[.int .i64 p.src, .int .i64 p.dst, .slice Ad6 pl cd6] 28)) x w.heap.size m p mq ma pl := by
  have h1 := net_set (B1 := Aq6) (l1 := mq) (d1 := cq6) (B2 := Aa6) (l2 := ma) (d2 := ca6) hN hX
  have h2 := bytes_set (B1 := Aq6) (l1 := mq) (d1 := cq6) (B2 := Aa6) (l2 := ma) (d2 := ca6) hV hX
  have h3 := (hB.setCell (p := ⟨x, 0, none⟩) hx (.slice Aq6 mq cq6)).setCell (p := ⟨x, 1, none⟩) hx (.slice Aa6 ma ca6)
  have h4 := (hX.set 0 (.slice Aq6 mq cq6)).set 1 (.slice Aa6 ma ca6)
  have hlt := hX.lt
  have e : ((w.setCell ⟨x, 0, none⟩ (.slice Aq6 mq cq6)).setCell ⟨x, 1, none⟩ (.slice Aa6 ma ca6)).heap.size = w.heap.size := by simp
  generalize (w.setCell ⟨x, 0, none⟩ (.slice Aq6 mq cq6)).setCell ⟨x, 1, none⟩ (.slice Aa6 ma ca6) = w2 at h1 h2 h3 h4 e ⊢
  have hst := (Below.refl w2.heap.size w2).alloc (Nat.le_refl _) (.cells #[.int .i64 p.src, .int .i64 p.dst, .slice Ad6 pl cd6] 28)
  rw [← e] at hlt ⊢
  exact ⟨Aq6, cq6, Aa6, ca6, Ad6, cd6, h3.trans (hst.mono h3.size), h4.alloc _, Box.new w2 _ _, hid_later h1 hst, hid_bytes h2 hst, hx, h3.size, by omega⟩
theorem set3 (w : World) (x : Nat) (u0 u1 u2 : Value) : ∀ b, b ≠ x → (((w.setCell ⟨x, 0, none⟩ u0).setCell ⟨x, 1, none⟩ u1).setCell ⟨x, 2, none⟩ u2).heap[b]? = w.heap[b]? := fun b hb =>
  (Below.heap_setCell _ ⟨x, 2, none⟩ u2 b hb).trans ((Below.heap_setCell _ ⟨x, 1, none⟩ u1 b hb).trans (Below.heap_setCell _ ⟨x, 0, none⟩ u0 b hb))
/-- The packet's block lay there before the call. -/
theorem after_p {x : Nat} (hok : m.okB = true) (hB : Below W.heap.size W w) (hN : Hid (NetAt w w.heap.size (.slice Aq6 mq cq6) (.slice Aa6 ma ca6) m)) (hV : Hid (BytesAt w w.heap.size (.slice Ad6 pl cd6) p.data)) (hX : Box w x [.int .i64 0, .int .i64 0, .slice none 0 0]) (hx : W.heap.size ≤ x) :
    After W ((((w.setCell ⟨x, 0, none⟩ (.int .i64 p.src)).setCell ⟨x, 1, none⟩ (.int .i64 p.dst)).setCell ⟨x, 2, none⟩ (.slice Ad6 pl cd6)).alloc (.cells #[.slice Aq6 mq cq6, .slice Aa6 ma ca6] 25)) w.heap.size x m p mq ma pl := by
  have h1 := hN.out.keep_zero hok (set3 w x (.int .i64 p.src) (.int .i64 p.dst) (.slice Ad6 pl cd6)) hX
  have h2 := hV.out.keep_zero (set3 w x (.int .i64 p.src) (.int .i64 p.dst) (.slice Ad6 pl cd6)) hX
  have h3 := ((hB.setCell (p := ⟨x, 0, none⟩) hx (.int .i64 p.src)).setCell (p := ⟨x, 1, none⟩) hx (.int .i64 p.dst)).setCell (p := ⟨x, 2, none⟩) hx (.slice Ad6 pl cd6)
  have h4 := ((hX.set 0 (.int .i64 p.src)).set 1 (.int .i64 p.dst)).set 2 (.slice Ad6 pl cd6)
  have hlt := hX.lt
  have e : (((w.setCell ⟨x, 0, none⟩ (.int .i64 p.src)).setCell ⟨x, 1, none⟩ (.int .i64 p.dst)).setCell ⟨x, 2, none⟩ (.slice Ad6 pl cd6)).heap.size = w.heap.size := by simp
  generalize ((w.setCell ⟨x, 0, none⟩ (.int .i64 p.src)).setCell ⟨x, 1, none⟩ (.int .i64 p.dst)).setCell ⟨x, 2, none⟩ (.slice Ad6 pl cd6) = w2 at h1 h2 h3 h4 e ⊢
  have hst := (Below.refl w2.heap.size w2).alloc (Nat.le_refl _) (.cells #[.slice Aq6 mq cq6, .slice Aa6 ma ca6] 25)
  rw [← e] at hlt h1 h2 ⊢
  exact ⟨Aq6, cq6, Aa6, ca6, Ad6, cd6, h3.trans (hst.mono h3.size), Box.new w2 _ _, h4.alloc _, Lib.hid (h1.later hst), Lib.hid (h2.later hst), h3.size, hx, by omega⟩
/-- Both lay there. -/
theorem after_xp {x y : Nat} (hok : m.okB = true) (hB : Below W.heap.size W w) (hN : Hid (NetAt w w.heap.size (.slice Aq6 mq cq6) (.slice Aa6 ma ca6) m)) (hV : Hid (BytesAt w w.heap.size (.slice Ad6 pl cd6) p.data)) (hX : Box w x [.slice none 0 0, .slice none 0 0]) (hx : W.heap.size ≤ x) (hY : Box w y [.int .i64 0, .int .i64 0, .slice none 0 0]) (hy : W.heap.size ≤ y) (hxy : x ≠ y) :
    After W (((((w.setCell ⟨x, 0, none⟩ (.slice Aq6 mq cq6)).setCell ⟨x, 1, none⟩ (.slice Aa6 ma ca6)).setCell ⟨y, 0, none⟩ (.int .i64 p.src)).setCell ⟨y, 1, none⟩ (.int .i64 p.dst)).setCell ⟨y, 2, none⟩ (.slice Ad6 pl cd6)) x y m p mq ma pl := by
  have h1 := net_set (B1 := Aq6) (l1 := mq) (d1 := cq6) (B2 := Aa6) (l2 := ma) (d2 := ca6) hN hX
  have h2 := bytes_set (B1 := Aq6) (l1 := mq) (d1 := cq6) (B2 := Aa6) (l2 := ma) (d2 := ca6) hV hX
  have h3 := (hB.setCell (p := ⟨x, 0, none⟩) hx (.slice Aq6 mq cq6)).setCell (p := ⟨x, 1, none⟩) hx (.slice Aa6 ma ca6)
  have h4 := (hX.set 0 (.slice Aq6 mq cq6)).set 1 (.slice Aa6 ma ca6)
  have h5 := (hY.other (a := ⟨x, 0, none⟩) (Ne.symm hxy) (.slice Aq6 mq cq6)).other (a := ⟨x, 1, none⟩) (Ne.symm hxy) (.slice Aa6 ma ca6)
  generalize (w.setCell ⟨x, 0, none⟩ (.slice Aq6 mq cq6)).setCell ⟨x, 1, none⟩ (.slice Aa6 ma ca6) = w2 at h1 h2 h3 h4 h5 ⊢
  have k1 := h1.out.keep_zero hok (set3 w2 y (.int .i64 p.src) (.int .i64 p.dst) (.slice Ad6 pl cd6)) h5
  have k2 := h2.out.keep_zero (set3 w2 y (.int .i64 p.src) (.int .i64 p.dst) (.slice Ad6 pl cd6)) h5
  have k3 := ((h3.setCell (p := ⟨y, 0, none⟩) hy (.int .i64 p.src)).setCell (p := ⟨y, 1, none⟩) hy (.int .i64 p.dst)).setCell (p := ⟨y, 2, none⟩) hy (.slice Ad6 pl cd6)
  have k4 := ((h4.other (a := ⟨y, 0, none⟩) hxy (.int .i64 p.src)).other (a := ⟨y, 1, none⟩) hxy (.int .i64 p.dst)).other (a := ⟨y, 2, none⟩) hxy (.slice Ad6 pl cd6)
  have k5 := ((h5.set 0 (.int .i64 p.src)).set 1 (.int .i64 p.dst)).set 2 (.slice Ad6 pl cd6)
  have e : (((w2.setCell ⟨y, 0, none⟩ (.int .i64 p.src)).setCell ⟨y, 1, none⟩ (.int .i64 p.dst)).setCell ⟨y, 2, none⟩ (.slice Ad6 pl cd6)).heap.size = w2.heap.size := by simp
  exact ⟨Aq6, cq6, Aa6, ca6, Ad6, cd6, k3, k4, k5, Lib.hid (by rw [e]; exact k1), Lib.hid (by rw [e]; exact k2), hx, hy, hxy⟩
end

end Go.Proofs.Ytndjpaiakodciaa
