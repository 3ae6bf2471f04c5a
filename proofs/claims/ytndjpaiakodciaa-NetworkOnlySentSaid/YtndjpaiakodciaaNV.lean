/-
  The contracts of chapter 6 as the laws use them: results by name. No condition.
-/
import Derived.Test.YtndjpaiakodciaaNU
import Derived.Test.YtndjpaiakodciaaNQ
namespace Go.Proofs.Ytndjpaiakodciaa
open Go.RowKit

theorem Lks2.at {w : World} {D base : Nat} {v : Value} {l : List (Int × Int)} (h : Lks2 w D base v l) : LksAt w w.heap.size v l := ⟨h.1, h.2.sl⟩
theorem PksAt.form2 {w : World} {B : Nat} {v : Value} {q : List Pk} {k : Nat} (h : PksAt w B v q) (hk : q.length = k) : ∃ A c, v = .slice A k c ∧ k ≤ 9223372036854775807 := by
  obtain ⟨A, c, rfl, hm⟩ := h.form
  subst hk
  exact ⟨A, c, rfl, by unfold maxLen at hm; omega⟩
theorem LksAt.form2 {w : World} {B : Nat} {v : Value} {q : List (Int × Int)} {k : Nat} (h : LksAt w B v q) (hk : q.length = k) : ∃ A c, v = .slice A k c ∧ k ≤ 9223372036854775807 := by
  obtain ⟨A, c, rfl, hm⟩ := h.form
  subst hk
  exact ⟨A, c, rfl, by unfold maxLen at hm; omega⟩
theorem RetNet.is {t : Net × Int} {m : Net} {er : Int} {a b : Nat} {w w' : World} {e : Ending} (hh : RetNet t w.heap.size w e w') (h : Hid (t = (m, er))) (hq : Hid (m.queue.length = a)) (ha : Hid (m.apart.length = b)) :
    ∃ (Aq : Option Addr) (cq : Nat) (Aa : Option Addr) (ca : Nat), e = .returned (.tuple #[.agg #[.slice Aq a cq, .slice Aa b ca], .int .i64 er]) ∧ Hid (NetAt w' w'.heap.size (.slice Aq a cq) (.slice Aa b ca) m) ∧ Below w.heap.size w w' := by
  obtain ⟨Vq, Va, m', er', he, ht, hN, hb⟩ := hh
  have h2 := ht.out.symm.trans h.out
  injection h2 with h3 h4
  subst h3 h4
  have hN2 := hN.out.at hb.size
  obtain ⟨Aq, cq, rfl, _⟩ := hN2.queue.form2 hq.out
  obtain ⟨Aa, ca, rfl, _⟩ := hN2.apart.form2 ha.out
  exact ⟨Aq, cq, Aa, ca, he, hN2, hb⟩
theorem RetNet.is2 {t : Net × Int} {m : Net} {er : Int} {a b D : Nat} {w w' : World} {e : Ending} (hD : D ≤ w.heap.size) (hh : RetNet t D w e w') (h : Hid (t = (m, er))) (hq : Hid (m.queue.length = a)) (ha : Hid (m.apart.length = b)) :
    ∃ (Aq : Option Addr) (cq : Nat) (Aa : Option Addr) (ca : Nat), e = .returned (.tuple #[.agg #[.slice Aq a cq, .slice Aa b ca], .int .i64 er]) ∧ Hid (Net2 w' D w.heap.size (.slice Aq a cq) (.slice Aa b ca) m) ∧ Below w.heap.size w w' := by
  obtain ⟨Vq, Va, m', er', he, ht, hN, hb⟩ := hh
  have h2 := ht.out.symm.trans h.out
  injection h2 with h3 h4
  subst h3 h4
  have hN2 := hN.out.at (Nat.le_trans hD hb.size)
  obtain ⟨Aq, cq, rfl, _⟩ := hN2.queue.form2 hq.out
  obtain ⟨Aa, ca, rfl, _⟩ := hN2.apart.form2 ha.out
  exact ⟨Aq, cq, Aa, ca, he, hN, hb⟩
theorem RetDel.is {t : Pk × Net × Int} {p : Pk} {m : Net} {er : Int} {a b k : Nat} {w w' : World} {e : Ending} (hh : RetDel t w.heap.size w e w') (h : Hid (t = (p, m, er))) (hq : Hid (m.queue.length = a)) (ha : Hid (m.apart.length = b)) (hk : Hid (p.data.length = k)) :
    ∃ (Ad : Option Addr) (cd : Nat) (Aq : Option Addr) (cq : Nat) (Aa : Option Addr) (ca : Nat), e = .returned (.tuple #[.agg #[.int .i64 p.src, .int .i64 p.dst, .slice Ad k cd], .agg #[.slice Aq a cq, .slice Aa b ca], .int .i64 er]) ∧
      Hid (BytesAt w' w'.heap.size (.slice Ad k cd) p.data) ∧ Hid (NetAt w' w'.heap.size (.slice Aq a cq) (.slice Aa b ca) m) ∧ Below w.heap.size w w' := by
  obtain ⟨V, p', Vq, Va, m', er', he, ht, hV, hN, hb⟩ := hh
  have h2 := ht.out.symm.trans h.out
  injection h2 with h3 h4
  injection h4 with h4 h5
  subst h3 h4 h5
  have hN2 := hN.out.at hb.size
  have hV2 := hV.out.more hb.size
  obtain ⟨Aq, cq, rfl, _⟩ := hN2.queue.form2 hq.out
  obtain ⟨Aa, ca, rfl, _⟩ := hN2.apart.form2 ha.out
  obtain ⟨Ad, cd, rfl, _⟩ := hV2.form
  rw [hk.out] at he hV2
  exact ⟨Ad, cd, Aq, cq, Aa, ca, he, hV2, hN2, hb⟩

theorem nFew_at {n : Net} {Vq Va : Value} {w : World} {D : Nat} {t : Bool} (h : Hid (fewN n = t)) (hN : NetAt w D Vq Va n) : Calls Try.prog 10 #[.agg #[Vq, Va]] w fun e w' => e = .returned (.bool t) ∧ Below w.heap.size w w' :=
  (nFew_any n Vq Va w D hN).mono fun _ _ ⟨he, hb⟩ => ⟨by rw [he, h.out], hb⟩
theorem nSame_at {n m : Net} {Vq Va Uq Ua : Value} {w : World} {t : Bool} (h : Hid (sameNet n m = t)) (hN : NetAt w w.heap.size Vq Va n) (hM : NetAt w w.heap.size Uq Ua m) :
    Calls Try.prog 15 #[.agg #[Vq, Va], .agg #[Uq, Ua]] w fun e w' => e = .returned (.bool t) ∧ Below w.heap.size w w' :=
  (nSame_any n m Vq Va Uq Ua w _ (Nat.le_refl _) hN hM).mono fun _ _ ⟨he, hb⟩ => ⟨by rw [he, h.out], hb⟩
theorem nSend_is (n : Net) (p : Pk) {Vq Va Vd : Value} {w : World} (hN : Hid (NetAt w w.heap.size Vq Va n)) (hD : Hid (BytesAt w w.heap.size Vd p.data)) : Calls Try.prog 11 #[.agg #[Vq, Va], p.v Vd] w (RetNet (sendT n p) w.heap.size w) := nSend_any n Vq Va p Vd w _ (Nat.le_refl _) hN.out hD.out
theorem nRSend_is (n : Net) (p : Pk) {Vq Va Vd : Value} {w : World} (hN : Hid (NetAt w w.heap.size Vq Va n)) (hD : Hid (BytesAt w w.heap.size Vd p.data)) : Calls Try.prog 12 #[.agg #[Vq, Va], p.v Vd] w (RetNet (sendT n p) w.heap.size w) := nRSend_any n Vq Va p Vd w _ (Nat.le_refl _) hN.out hD.out
theorem nDeliver_is (n : Net) (i : Int) {Vq Va : Value} {w : World} (hN : Hid (NetAt w w.heap.size Vq Va n)) : Calls Try.prog 18 #[.agg #[Vq, Va], .int .i64 i] w (RetDel (deliverT n i) w.heap.size w) := nDeliver_any n Vq Va i w _ (Nat.le_refl _) hN.out
theorem nRDeliver_is (n : Net) (i : Int) {Vq Va : Value} {w : World} (hN : Hid (NetAt w w.heap.size Vq Va n)) : Calls Try.prog 22 #[.agg #[Vq, Va], .int .i64 i] w (RetDel (deliverT n i) w.heap.size w) := nRDeliver_any n Vq Va i w _ (Nat.le_refl _) hN.out
theorem nLose_is (n : Net) (i : Int) {Vq Va : Value} {w : World} (hN : Hid (NetAt w w.heap.size Vq Va n)) : Calls Try.prog 23 #[.agg #[Vq, Va], .int .i64 i] w (RetNet (loseT n i) w.heap.size w) := nLose_any n Vq Va i w _ (Nat.le_refl _) hN.out
theorem nRLose_is (n : Net) (i : Int) {Vq Va : Value} {w : World} (hN : Hid (NetAt w w.heap.size Vq Va n)) : Calls Try.prog 24 #[.agg #[Vq, Va], .int .i64 i] w (RetNet (loseT n i) w.heap.size w) := nRLose_any n Vq Va i w _ (Nat.le_refl _) hN.out
theorem nRepeat_is (n : Net) (i : Int) {Vq Va : Value} {w : World} (hN : Hid (NetAt w w.heap.size Vq Va n)) : Calls Try.prog 25 #[.agg #[Vq, Va], .int .i64 i] w (RetNet (repeatT n i) w.heap.size w) := nRepeat_any n Vq Va i w _ (Nat.le_refl _) hN.out
theorem nRRepeat_is (n : Net) (i : Int) {Vq Va : Value} {w : World} (hN : Hid (NetAt w w.heap.size Vq Va n)) : Calls Try.prog 26 #[.agg #[Vq, Va], .int .i64 i] w (RetNet (repeatT n i) w.heap.size w) := nRRepeat_any n Vq Va i w _ (Nat.le_refl _) hN.out
theorem nCut_is (n : Net) (a b : Int) (on : Bool) {Vq Va : Value} {w : World} (hN : Hid (NetAt w w.heap.size Vq Va n)) : Calls Try.prog 20 #[.agg #[Vq, Va], .int .i64 a, .int .i64 b, .bool on] w (RetNet (cutT n a b on) w.heap.size w) := nCut_any n Vq Va a b on w _ (Nat.le_refl _) hN.out
theorem nRCut_is (n : Net) (a b : Int) (on : Bool) {Vq Va : Value} {w : World} (hN : Hid (NetAt w w.heap.size Vq Va n)) : Calls Try.prog 21 #[.agg #[Vq, Va], .int .i64 a, .int .i64 b, .bool on] w (RetNet (cutT n a b on) w.heap.size w) := nRCut_any n Vq Va a b on w _ (Nat.le_refl _) hN.out
theorem hid_later {w w' : World} {Vq Va : Value} {n : Net} (h : Hid (NetAt w w.heap.size Vq Va n)) (hb : Below w.heap.size w w') : Hid (NetAt w' w'.heap.size Vq Va n) := h.out.later hb
theorem hid_bytes {w w' : World} {V : Value} {l : List UInt8} (h : Hid (BytesAt w w.heap.size V l)) (hb : Below w.heap.size w w') : Hid (BytesAt w' w'.heap.size V l) := h.out.later hb
theorem nCheck_z {n : Net} {Vq Va : Value} {W : World} {c : Int} (h : Hid (n.checkT = c)) (hN : Hid (NetAt W W.heap.size Vq Va n)) (z : Later W) : Calls Try.prog 13 #[.agg #[Vq, Va]] z.w fun e w' => e = .returned (.int .i64 c) ∧ Below z.w.heap.size z.w w' := nCheck_at h (hN.out.later z.below)
theorem nRCheck_z {n : Net} {Vq Va : Value} {W : World} {c : Int} (h : Hid (n.checkT = c)) (hN : Hid (NetAt W W.heap.size Vq Va n)) (z : Later W) : Calls Try.prog 14 #[.agg #[Vq, Va]] z.w fun e w' => e = .returned (.int .i64 c) ∧ Below z.w.heap.size z.w w' := nRCheck_at h (hN.out.later z.below)
theorem nSame_z {n m : Net} {Vq Va Uq Ua : Value} {W : World} {t : Bool} (h : Hid (sameNet n m = t)) (hN : Hid (NetAt W W.heap.size Vq Va n)) (hM : Hid (NetAt W W.heap.size Uq Ua m)) (z : Later W) :
    Calls Try.prog 15 #[.agg #[Vq, Va], .agg #[Uq, Ua]] z.w fun e w' => e = .returned (.bool t) ∧ Below z.w.heap.size z.w w' := nSame_at h (hN.out.later z.below) (hM.out.later z.below)
theorem nSamePk_z {p q : Pk} {V U : Value} {W : World} {t : Bool} (h : Hid (samePk p q = t)) (hV : Hid (BytesAt W W.heap.size V p.data)) (hU : Hid (BytesAt W W.heap.size U q.data)) (z : Later W) :
    Calls Try.prog 19 #[p.v V, q.v U] z.w fun e w' => e = .returned (.bool t) ∧ Below z.w.heap.size z.w w' := nSamePk_at h (hV.out.later z.below) (hU.out.later z.below)

end Go.Proofs.Ytndjpaiakodciaa
