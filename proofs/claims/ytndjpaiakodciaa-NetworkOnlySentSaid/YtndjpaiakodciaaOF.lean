/-
  Contract of happens of acequialaw06. (Printed by gen_of.py.)
-/
import Derived.Test.YtndjpaiakodciaaOD
namespace Go.Proofs.Ytndjpaiakodciaa
open Go.RowKit

/-- A store of what the cell holds changes nothing. -/
theorem setCell_same {w : World} {b : Nat} {xs : List Value} (h : Box w b xs) {i : Nat} {v : Value} (hv : xs[i]? = some v) : w.setCell ⟨b, i, none⟩ v = w := by
  obtain ⟨t, ht⟩ := h
  have hlt : b < w.heap.size := (Array.getElem?_eq_some_iff.1 ht).1
  have hi : i < xs.length := (List.getElem?_eq_some_iff.1 hv).1
  have key : (w.setCell ⟨b, i, none⟩ v).heap = w.heap := by
    apply Array.ext_getElem?
    intro k
    by_cases hk : k = b
    · subst hk
      have e : (w.setCell ⟨k, i, none⟩ v).heap[k]? = some (.cells (xs.set i v).toArray t (0, 0)) := by
        show (w.heap.modify k _)[k]? = _
        rw [Array.getElem?_modify, if_pos rfl, ht]
        simp
      rw [e, ht]
      congr 3
      apply List.ext_getElem?
      intro q
      rw [List.getElem?_set]
      split
      · rename_i hq; subst hq; exact hv.symm
      · rfl
    · exact Below.heap_setCell w _ v k hk
  unfold World.setCell at key ⊢
  dsimp only at key ⊢
  rw [key]

/-- What happens. -/
def happT (n : Net) (kd ta sa sb dt : Int) : Net × Pk × Int :=
  let at0 : Int := if 0 < n.queue.length then ta % (n.queue.length : Int) else 0
  if kd % 6 = 0 then ((sendT n ⟨sa % 24, sb % 24, [UInt8.ofNat dt.toNat]⟩).1, Pk.zero, (sendT n ⟨sa % 24, sb % 24, [UInt8.ofNat dt.toNat]⟩).2)
  else if kd % 6 = 1 then ((deliverT n at0).2.1, (deliverT n at0).1, (deliverT n at0).2.2)
  else if kd % 6 = 2 then ((loseT n at0).1, Pk.zero, (loseT n at0).2)
  else if kd % 6 = 3 then ((repeatT n at0).1, Pk.zero, (repeatT n at0).2)
  else if kd % 6 = 4 then ((cutT n (sa % 24) (sb % 24) true).1, Pk.zero, (cutT n (sa % 24) (sb % 24) true).2)
  else ((cutT n (sa % 24) (sb % 24) false).1, Pk.zero, (cutT n (sa % 24) (sb % 24) false).2)
/-- A result of happens. -/
def RetHap (t : Net × Pk × Int) (w : World) (e : Ending) (w' : World) : Prop := ∃ (Vq Va V : Value) (m : Net) (p : Pk) (er : Int), e = .returned (.tuple #[.agg #[Vq, Va], .agg #[.int .i64 p.src, .int .i64 p.dst, V], .int .i64 er]) ∧ t = (m, p, er) ∧ NetAt w' w'.heap.size Vq Va m ∧ BytesAt w' w'.heap.size V p.data ∧ Below w.heap.size w w'

theorem RetDel.is2 {t : Pk × Net × Int} {p : Pk} {m : Net} {er : Int} {a b k D : Nat} {w w' : World} {e : Ending} (hD : D ≤ w.heap.size) (hh : RetDel t D w e w') (h : Hid (t = (p, m, er))) (hq : Hid (m.queue.length = a)) (ha : Hid (m.apart.length = b)) (hk : Hid (p.data.length = k)) :
    ∃ (Ad : Option Addr) (cd : Nat) (Aq : Option Addr) (cq : Nat) (Aa : Option Addr) (ca : Nat), e = .returned (.tuple #[.agg #[.int .i64 p.src, .int .i64 p.dst, .slice Ad k cd], .agg #[.slice Aq a cq, .slice Aa b ca], .int .i64 er]) ∧
      Hid (BytesAt w' D (.slice Ad k cd) p.data) ∧ Hid (Net2 w' D w.heap.size (.slice Aq a cq) (.slice Aa b ca) m) ∧ Below w.heap.size w w' := by
  obtain ⟨V, p', Vq, Va, m', er', he, ht, hV, hN, hb⟩ := hh
  have h2 := ht.out.symm.trans h.out
  injection h2 with h3 h4
  injection h4 with h4 h5
  subst h3 h4 h5
  have hN2 := hN.out.at (Nat.le_trans hD hb.size)
  have hV2 := hV.out
  obtain ⟨Aq, cq, rfl, _⟩ := hN2.queue.form2 hq.out
  obtain ⟨Aa, ca, rfl, _⟩ := hN2.apart.form2 ha.out
  obtain ⟨Ad, cd, rfl, _⟩ := hV2.form
  rw [hk.out] at he hV2
  exact ⟨Ad, cd, Aq, cq, Aa, ca, he, hV2, hN, hb⟩

set_option maxRecDepth 100000 in
set_option maxHeartbeats 4000000 in
theorem nHap_0 (n : Net) (Aq : Option Addr) (ql cq : Nat) (Aa : Option Addr) (na ca : Nat) (kd ta sa sb dt : Int) (w : World) (hN : Hid (NetAt w w.heap.size (.slice Aq ql cq) (.slice Aa na ca) n)) (hk : kd % 6 = 0) (h1 : 0 ≤ kd) (h2 : kd ≤ 255) (_h3 : 0 ≤ ta) (_h4 : ta ≤ 255) (_h5 : 0 ≤ sa) (_h6 : sa ≤ 255) (_h7 : 0 ≤ sb) (_h8 : sb ≤ 255) (_h9 : 0 ≤ dt) (_h10 : dt ≤ 255) (_h11 : (ql : Int) ≤ 9223372036854775807) (_h0 : (0 : Int) < (ql : Int)) (at0 : Int) (_hat : ta % (ql : Int) = at0) (hs : Hid (happT n kd ta sa sb dt = ((sendT n ⟨sa % 24, sb % 24, [UInt8.ofNat dt.toNat]⟩).1, Pk.zero, (sendT n ⟨sa % 24, sb % 24, [UInt8.ofNat dt.toNat]⟩).2))) :
    Calls Try.prog 27 #[.agg #[.slice Aq ql cq, .slice Aa na ca], .agg #[.int .u8 kd, .int .u8 ta, .int .u8 sa, .int .u8 sb, .int .u8 dt]] w (RetHap (happT n kd ta sa sb dt) w) := by
  obtain ⟨m, er, hm⟩ : ∃ m er, sendT n ⟨sa % 24, sb % 24, [UInt8.ofNat dt.toNat]⟩ = (m, er) := ⟨_, _, rfl⟩
  obtain ⟨mq, hmq⟩ : ∃ k, m.queue.length = k := ⟨_, rfl⟩
  obtain ⟨ma, hma⟩ : ∃ k, m.apart.length = k := ⟨_, rfl⟩
  rw [hm] at hs
  replace hm := Lib.hid hm
  replace hmq := Lib.hid hmq
  replace hma := Lib.hid hma
  go_enter Try.func27, Try.ntmps27
  go_wp2_with fail
  have hB := (((((Below.refl w.heap.size w).alloc (by simp <;> omega) (.cells #[.slice Aq ql cq, .slice Aa na ca] 25)).alloc (by simp <;> omega) (.cells #[.int .u8 kd, .int .u8 ta, .int .u8 sa, .int .u8 sb, .int .u8 dt] 52)).alloc (by simp <;> omega) (.cells #[.slice none 0 0, .slice none 0 0] 25)).alloc (by simp <;> omega) (.cells #[.int .i64 0, .int .i64 0, .slice none 0 0] 28))
  have N0 := ((((Box.newAt (w := w) (n := w.heap.size) [.slice Aq ql cq, .slice Aa na ca] 25 (by simp)).alloc (.cells #[.int .u8 kd, .int .u8 ta, .int .u8 sa, .int .u8 sb, .int .u8 dt] 52)).alloc (.cells #[.slice none 0 0, .slice none 0 0] 25)).alloc (.cells #[.int .i64 0, .int .i64 0, .slice none 0 0] 28))
  have M0 := (((Box.newAt (w := (w.alloc (.cells #[.slice Aq ql cq, .slice Aa na ca] 25))) (n := w.heap.size + 1) [.int .u8 kd, .int .u8 ta, .int .u8 sa, .int .u8 sb, .int .u8 dt] 52 (by simp)).alloc (.cells #[.slice none 0 0, .slice none 0 0] 25)).alloc (.cells #[.int .i64 0, .int .i64 0, .slice none 0 0] 28))
  have X := ((Box.newAt (w := ((w.alloc (.cells #[.slice Aq ql cq, .slice Aa na ca] 25)).alloc (.cells #[.int .u8 kd, .int .u8 ta, .int .u8 sa, .int .u8 sb, .int .u8 dt] 52))) (n := w.heap.size + 1 + 1) [.slice none 0 0, .slice none 0 0] 25 (by simp)).alloc (.cells #[.int .i64 0, .int .i64 0, .slice none 0 0] 28))
  have P := (Box.newAt (w := (((w.alloc (.cells #[.slice Aq ql cq, .slice Aa na ca] 25)).alloc (.cells #[.int .u8 kd, .int .u8 ta, .int .u8 sa, .int .u8 sb, .int .u8 dt] 52)).alloc (.cells #[.slice none 0 0, .slice none 0 0] 25))) (n := w.heap.size + 1 + 1 + 1) [.int .i64 0, .int .i64 0, .slice none 0 0] 28 (by simp))
  generalize ((((w.alloc (.cells #[.slice Aq ql cq, .slice Aa na ca] 25)).alloc (.cells #[.int .u8 kd, .int .u8 ta, .int .u8 sa, .int .u8 sb, .int .u8 dt] 52)).alloc (.cells #[.slice none 0 0, .slice none 0 0] 25)).alloc (.cells #[.int .i64 0, .int .i64 0, .slice none 0 0] 28)) = w1 at hB N0 M0 X P ⊢
  have M0c0 : w1.cell? ⟨w.heap.size + 1, 0, none⟩ = some (.int .u8 kd) := M0.cell 0
  have M0c1 : w1.cell? ⟨w.heap.size + 1, 1, none⟩ = some (.int .u8 ta) := M0.cell 1
  have M0c2 : w1.cell? ⟨w.heap.size + 1, 2, none⟩ = some (.int .u8 sa) := M0.cell 2
  have M0c3 : w1.cell? ⟨w.heap.size + 1, 3, none⟩ = some (.int .u8 sb) := M0.cell 3
  have M0c4 : w1.cell? ⟨w.heap.size + 1, 4, none⟩ = some (.int .u8 dt) := M0.cell 4
  have M0z : w.heap.size + 1 < w1.heap.size := M0.lt
  go_quiet (fail)
  clear M0c0 M0c1 M0c2 M0c3 M0c4 M0z
  have hB := bel_drewN hB nq
  have N0 := N0.drewN nq
  have M0 := M0.drewN nq
  have X := X.drewN nq
  have P := P.drewN nq
  generalize w1.drewN nq = w2 at hB N0 M0 X P ⊢
  have N0c0 : w2.cell? ⟨w.heap.size, 0, none⟩ = some (.slice Aq ql cq) := N0.cell 0
  have N0c1 : w2.cell? ⟨w.heap.size, 1, none⟩ = some (.slice Aa na ca) := N0.cell 1
  have N0z : w.heap.size < w2.heap.size := N0.lt
  have M0c0 : w2.cell? ⟨w.heap.size + 1, 0, none⟩ = some (.int .u8 kd) := M0.cell 0
  have M0c1 : w2.cell? ⟨w.heap.size + 1, 1, none⟩ = some (.int .u8 ta) := M0.cell 1
  have M0c2 : w2.cell? ⟨w.heap.size + 1, 2, none⟩ = some (.int .u8 sa) := M0.cell 2
  have M0c3 : w2.cell? ⟨w.heap.size + 1, 3, none⟩ = some (.int .u8 sb) := M0.cell 3
  have M0c4 : w2.cell? ⟨w.heap.size + 1, 4, none⟩ = some (.int .u8 dt) := M0.cell 4
  have M0z : w.heap.size + 1 < w2.heap.size := M0.lt
  go_wp2_with fail
  have hst := (Below.refl w2.heap.size w2).alloc (Nat.le_refl _) (.cells #[.int .u8 dt] 5)
  have hB1 := hB.trans (hst.mono hB.size)
  have hV0 : Hid (BytesAt (w2.alloc (.cells #[.int .u8 dt] 5)) (w2.alloc (.cells #[.int .u8 dt] 5)).heap.size (.slice (some ⟨w2.heap.size, 0, none⟩) 1 1) [UInt8.ofNat dt.toNat]) := bytes_one (b := w2.heap.size) (by
    have e : ((UInt8.ofNat dt.toNat).toNat : Int) = dt := by simp; omega
    rw [e]; exact Box.new w2 [.int .u8 dt] 5)
  have hN1 : Hid (NetAt (w2.alloc (.cells #[.int .u8 dt] 5)) (w2.alloc (.cells #[.int .u8 dt] 5)).heap.size (.slice Aq ql cq) (.slice Aa na ca) n) := Lib.hid ((hN.out.below hB1).more hB1.size)
  have X := X.later hst
  have P := P.later hst
  have hB := hB1
  refine (nSend_is n ⟨sa % 24, sb % 24, [UInt8.ofNat dt.toNat]⟩ hN1 hV0).mono ?_
  rintro e w3 hh
  obtain ⟨Aq1, cq1, Aa1, ca1, rfl, hN2, hb⟩ := RetNet.is hh hm hmq hma
  have X := X.later hb
  have P := P.later hb
  have hs2 := hB.size
  have hB := hB.trans (hb.mono hB.size)
  clear hb
  have Xc0 : w3.cell? ⟨w.heap.size + 1 + 1, 0, none⟩ = some (.slice none 0 0) := X.cell 0
  have Xf0 : w3.frozen? ⟨w.heap.size + 1 + 1, 0, none⟩ = false := X.free 0
  have Xc1 : w3.cell? ⟨w.heap.size + 1 + 1, 1, none⟩ = some (.slice none 0 0) := X.cell 1
  have Xf1 : w3.frozen? ⟨w.heap.size + 1 + 1, 1, none⟩ = false := X.free 1
  have Xz : w.heap.size + 1 + 1 < w3.heap.size := X.lt
  have Pc0 : w3.cell? ⟨w.heap.size + 1 + 1 + 1, 0, none⟩ = some (.int .i64 0) := P.cell 0
  have Pf0 : w3.frozen? ⟨w.heap.size + 1 + 1 + 1, 0, none⟩ = false := P.free 0
  have Pc1 : w3.cell? ⟨w.heap.size + 1 + 1 + 1, 1, none⟩ = some (.int .i64 0) := P.cell 1
  have Pf1 : w3.frozen? ⟨w.heap.size + 1 + 1 + 1, 1, none⟩ = false := P.free 1
  have Pc2 : w3.cell? ⟨w.heap.size + 1 + 1 + 1, 2, none⟩ = some (.slice none 0 0) := P.cell 2
  have Pf2 : w3.frozen? ⟨w.heap.size + 1 + 1 + 1, 2, none⟩ = false := P.free 2
  have Pz : w.heap.size + 1 + 1 + 1 < w3.heap.size := P.lt
  go_wp2_with fail
  clear Xc0 Xc1 Xf0 Xf1 Xz Pc0 Pc1 Pc2 Pf0 Pf1 Pf2 Pz
  have hB := ((hB.setCell (p := ⟨w.heap.size + 1 + 1, 0, none⟩) (by simp <;> omega) (.slice Aq1 mq cq1)).setCell (p := ⟨w.heap.size + 1 + 1, 1, none⟩) (by simp <;> omega) (.slice Aa1 ma ca1))
  have hN3 := net_set (B1 := Aq1) (l1 := mq) (d1 := cq1) (B2 := Aa1) (l2 := ma) (d2 := ca1) hN2 X
  have P := ((P.other (a := ⟨w.heap.size + 1 + 1, 0, none⟩) (by simp) (.slice Aq1 mq cq1)).other (a := ⟨w.heap.size + 1 + 1, 1, none⟩) (by simp) (.slice Aa1 ma ca1))
  have X := ((X.set 0 (.slice Aq1 mq cq1)).set 1 (.slice Aa1 ma ca1))
  generalize ((w3.setCell ⟨w.heap.size + 1 + 1, 0, none⟩ (.slice Aq1 mq cq1)).setCell ⟨w.heap.size + 1 + 1, 1, none⟩ (.slice Aa1 ma ca1)) = w4 at hB P X hN3 ⊢
  simp only [List.set_cons_zero, List.set_cons_succ] at X
  have X0 : w4.cell? ⟨w.heap.size + 1 + 1, 0, none⟩ = some (.slice Aq1 mq cq1) := X.cell 0
  have Xf0 : w4.frozen? ⟨w.heap.size + 1 + 1, 0, none⟩ = false := X.free 0
  have X1 : w4.cell? ⟨w.heap.size + 1 + 1, 1, none⟩ = some (.slice Aa1 ma ca1) := X.cell 1
  have Xf1 : w4.frozen? ⟨w.heap.size + 1 + 1, 1, none⟩ = false := X.free 1
  have P0 : w4.cell? ⟨w.heap.size + 1 + 1 + 1, 0, none⟩ = some (.int .i64 0) := P.cell 0
  have Pf0 : w4.frozen? ⟨w.heap.size + 1 + 1 + 1, 0, none⟩ = false := P.free 0
  have P1 : w4.cell? ⟨w.heap.size + 1 + 1 + 1, 1, none⟩ = some (.int .i64 0) := P.cell 1
  have Pf1 : w4.frozen? ⟨w.heap.size + 1 + 1 + 1, 1, none⟩ = false := P.free 1
  have P2 : w4.cell? ⟨w.heap.size + 1 + 1 + 1, 2, none⟩ = some (.slice none 0 0) := P.cell 2
  have Pf2 : w4.frozen? ⟨w.heap.size + 1 + 1 + 1, 2, none⟩ = false := P.free 2
  have Xz := X.lt
  have Pz := P.lt
  go_region
  go_wp2
  have hE : (((((w4.setCell ⟨w.heap.size + 1 + 1, 0, none⟩ (.slice Aq1 mq cq1)).setCell ⟨w.heap.size + 1 + 1, 1, none⟩ (.slice Aa1 ma ca1)).setCell ⟨w.heap.size + 1 + 1 + 1, 0, none⟩ (.int .i64 0)).setCell ⟨w.heap.size + 1 + 1 + 1, 1, none⟩ (.int .i64 0)).setCell ⟨w.heap.size + 1 + 1 + 1, 2, none⟩ (.slice none 0 0)) = w4 := by rw [setCell_same X (i := 0) rfl, setCell_same X (i := 1) rfl, setCell_same P (i := 0) rfl, setCell_same P (i := 1) rfl, setCell_same P (i := 2) rfl]
  rw [hE]
  refine bodyPost_ret (v := .tuple #[.agg #[.slice Aq1 mq cq1, .slice Aa1 ma ca1], .agg #[.int .i64 0, .int .i64 0, .slice none 0 0], .int .i64 er]) (by simp [results, Try.results27, go_sem, X0, X1, P0, P1, P2]) rfl ?_
  exact ⟨_, _, _, m, Pk.zero, er, rfl, hs.out, hN3.out.below (Below.refl _ _).drew, bytesAt_nil _ _, hB.drew⟩

set_option maxRecDepth 100000 in
set_option maxHeartbeats 4000000 in
theorem nHap_0z (n : Net) (Aq : Option Addr) (ql cq : Nat) (Aa : Option Addr) (na ca : Nat) (kd ta sa sb dt : Int) (w : World) (hN : Hid (NetAt w w.heap.size (.slice Aq ql cq) (.slice Aa na ca) n)) (hk : kd % 6 = 0) (h1 : 0 ≤ kd) (h2 : kd ≤ 255) (_h3 : 0 ≤ ta) (_h4 : ta ≤ 255) (_h5 : 0 ≤ sa) (_h6 : sa ≤ 255) (_h7 : 0 ≤ sb) (_h8 : sb ≤ 255) (_h9 : 0 ≤ dt) (_h10 : dt ≤ 255) (_h11 : (ql : Int) ≤ 9223372036854775807) (_h0 : ql = 0) (hs : Hid (happT n kd ta sa sb dt = ((sendT n ⟨sa % 24, sb % 24, [UInt8.ofNat dt.toNat]⟩).1, Pk.zero, (sendT n ⟨sa % 24, sb % 24, [UInt8.ofNat dt.toNat]⟩).2))) :
    Calls Try.prog 27 #[.agg #[.slice Aq ql cq, .slice Aa na ca], .agg #[.int .u8 kd, .int .u8 ta, .int .u8 sa, .int .u8 sb, .int .u8 dt]] w (RetHap (happT n kd ta sa sb dt) w) := by
  subst _h0
  obtain ⟨m, er, hm⟩ : ∃ m er, sendT n ⟨sa % 24, sb % 24, [UInt8.ofNat dt.toNat]⟩ = (m, er) := ⟨_, _, rfl⟩
  obtain ⟨mq, hmq⟩ : ∃ k, m.queue.length = k := ⟨_, rfl⟩
  obtain ⟨ma, hma⟩ : ∃ k, m.apart.length = k := ⟨_, rfl⟩
  rw [hm] at hs
  replace hm := Lib.hid hm
  replace hmq := Lib.hid hmq
  replace hma := Lib.hid hma
  go_enter Try.func27, Try.ntmps27
  go_wp2_with fail
  have hB := (((((Below.refl w.heap.size w).alloc (by simp <;> omega) (.cells #[.slice Aq 0 cq, .slice Aa na ca] 25)).alloc (by simp <;> omega) (.cells #[.int .u8 kd, .int .u8 ta, .int .u8 sa, .int .u8 sb, .int .u8 dt] 52)).alloc (by simp <;> omega) (.cells #[.slice none 0 0, .slice none 0 0] 25)).alloc (by simp <;> omega) (.cells #[.int .i64 0, .int .i64 0, .slice none 0 0] 28))
  have N0 := ((((Box.newAt (w := w) (n := w.heap.size) [.slice Aq 0 cq, .slice Aa na ca] 25 (by simp)).alloc (.cells #[.int .u8 kd, .int .u8 ta, .int .u8 sa, .int .u8 sb, .int .u8 dt] 52)).alloc (.cells #[.slice none 0 0, .slice none 0 0] 25)).alloc (.cells #[.int .i64 0, .int .i64 0, .slice none 0 0] 28))
  have M0 := (((Box.newAt (w := (w.alloc (.cells #[.slice Aq 0 cq, .slice Aa na ca] 25))) (n := w.heap.size + 1) [.int .u8 kd, .int .u8 ta, .int .u8 sa, .int .u8 sb, .int .u8 dt] 52 (by simp)).alloc (.cells #[.slice none 0 0, .slice none 0 0] 25)).alloc (.cells #[.int .i64 0, .int .i64 0, .slice none 0 0] 28))
  have X := ((Box.newAt (w := ((w.alloc (.cells #[.slice Aq 0 cq, .slice Aa na ca] 25)).alloc (.cells #[.int .u8 kd, .int .u8 ta, .int .u8 sa, .int .u8 sb, .int .u8 dt] 52))) (n := w.heap.size + 1 + 1) [.slice none 0 0, .slice none 0 0] 25 (by simp)).alloc (.cells #[.int .i64 0, .int .i64 0, .slice none 0 0] 28))
  have P := (Box.newAt (w := (((w.alloc (.cells #[.slice Aq 0 cq, .slice Aa na ca] 25)).alloc (.cells #[.int .u8 kd, .int .u8 ta, .int .u8 sa, .int .u8 sb, .int .u8 dt] 52)).alloc (.cells #[.slice none 0 0, .slice none 0 0] 25))) (n := w.heap.size + 1 + 1 + 1) [.int .i64 0, .int .i64 0, .slice none 0 0] 28 (by simp))
  generalize ((((w.alloc (.cells #[.slice Aq 0 cq, .slice Aa na ca] 25)).alloc (.cells #[.int .u8 kd, .int .u8 ta, .int .u8 sa, .int .u8 sb, .int .u8 dt] 52)).alloc (.cells #[.slice none 0 0, .slice none 0 0] 25)).alloc (.cells #[.int .i64 0, .int .i64 0, .slice none 0 0] 28)) = w1 at hB N0 M0 X P ⊢
  have M0c0 : w1.cell? ⟨w.heap.size + 1, 0, none⟩ = some (.int .u8 kd) := M0.cell 0
  have M0c1 : w1.cell? ⟨w.heap.size + 1, 1, none⟩ = some (.int .u8 ta) := M0.cell 1
  have M0c2 : w1.cell? ⟨w.heap.size + 1, 2, none⟩ = some (.int .u8 sa) := M0.cell 2
  have M0c3 : w1.cell? ⟨w.heap.size + 1, 3, none⟩ = some (.int .u8 sb) := M0.cell 3
  have M0c4 : w1.cell? ⟨w.heap.size + 1, 4, none⟩ = some (.int .u8 dt) := M0.cell 4
  have M0z : w.heap.size + 1 < w1.heap.size := M0.lt
  go_quiet (fail)
  clear M0c0 M0c1 M0c2 M0c3 M0c4 M0z
  have hB := bel_drewN hB nq
  have N0 := N0.drewN nq
  have M0 := M0.drewN nq
  have X := X.drewN nq
  have P := P.drewN nq
  generalize w1.drewN nq = w2 at hB N0 M0 X P ⊢
  have N0c0 : w2.cell? ⟨w.heap.size, 0, none⟩ = some (.slice Aq 0 cq) := N0.cell 0
  have N0c1 : w2.cell? ⟨w.heap.size, 1, none⟩ = some (.slice Aa na ca) := N0.cell 1
  have N0z : w.heap.size < w2.heap.size := N0.lt
  have M0c0 : w2.cell? ⟨w.heap.size + 1, 0, none⟩ = some (.int .u8 kd) := M0.cell 0
  have M0c1 : w2.cell? ⟨w.heap.size + 1, 1, none⟩ = some (.int .u8 ta) := M0.cell 1
  have M0c2 : w2.cell? ⟨w.heap.size + 1, 2, none⟩ = some (.int .u8 sa) := M0.cell 2
  have M0c3 : w2.cell? ⟨w.heap.size + 1, 3, none⟩ = some (.int .u8 sb) := M0.cell 3
  have M0c4 : w2.cell? ⟨w.heap.size + 1, 4, none⟩ = some (.int .u8 dt) := M0.cell 4
  have M0z : w.heap.size + 1 < w2.heap.size := M0.lt
  go_wp2_with fail
  have hst := (Below.refl w2.heap.size w2).alloc (Nat.le_refl _) (.cells #[.int .u8 dt] 5)
  have hB1 := hB.trans (hst.mono hB.size)
  have hV0 : Hid (BytesAt (w2.alloc (.cells #[.int .u8 dt] 5)) (w2.alloc (.cells #[.int .u8 dt] 5)).heap.size (.slice (some ⟨w2.heap.size, 0, none⟩) 1 1) [UInt8.ofNat dt.toNat]) := bytes_one (b := w2.heap.size) (by
    have e : ((UInt8.ofNat dt.toNat).toNat : Int) = dt := by simp; omega
    rw [e]; exact Box.new w2 [.int .u8 dt] 5)
  have hN1 : Hid (NetAt (w2.alloc (.cells #[.int .u8 dt] 5)) (w2.alloc (.cells #[.int .u8 dt] 5)).heap.size (.slice Aq 0 cq) (.slice Aa na ca) n) := Lib.hid ((hN.out.below hB1).more hB1.size)
  have X := X.later hst
  have P := P.later hst
  have hB := hB1
  refine (nSend_is n ⟨sa % 24, sb % 24, [UInt8.ofNat dt.toNat]⟩ hN1 hV0).mono ?_
  rintro e w3 hh
  obtain ⟨Aq1, cq1, Aa1, ca1, rfl, hN2, hb⟩ := RetNet.is hh hm hmq hma
  have X := X.later hb
  have P := P.later hb
  have hs2 := hB.size
  have hB := hB.trans (hb.mono hB.size)
  clear hb
  have Xc0 : w3.cell? ⟨w.heap.size + 1 + 1, 0, none⟩ = some (.slice none 0 0) := X.cell 0
  have Xf0 : w3.frozen? ⟨w.heap.size + 1 + 1, 0, none⟩ = false := X.free 0
  have Xc1 : w3.cell? ⟨w.heap.size + 1 + 1, 1, none⟩ = some (.slice none 0 0) := X.cell 1
  have Xf1 : w3.frozen? ⟨w.heap.size + 1 + 1, 1, none⟩ = false := X.free 1
  have Xz : w.heap.size + 1 + 1 < w3.heap.size := X.lt
  have Pc0 : w3.cell? ⟨w.heap.size + 1 + 1 + 1, 0, none⟩ = some (.int .i64 0) := P.cell 0
  have Pf0 : w3.frozen? ⟨w.heap.size + 1 + 1 + 1, 0, none⟩ = false := P.free 0
  have Pc1 : w3.cell? ⟨w.heap.size + 1 + 1 + 1, 1, none⟩ = some (.int .i64 0) := P.cell 1
  have Pf1 : w3.frozen? ⟨w.heap.size + 1 + 1 + 1, 1, none⟩ = false := P.free 1
  have Pc2 : w3.cell? ⟨w.heap.size + 1 + 1 + 1, 2, none⟩ = some (.slice none 0 0) := P.cell 2
  have Pf2 : w3.frozen? ⟨w.heap.size + 1 + 1 + 1, 2, none⟩ = false := P.free 2
  have Pz : w.heap.size + 1 + 1 + 1 < w3.heap.size := P.lt
  go_wp2_with fail
  clear Xc0 Xc1 Xf0 Xf1 Xz Pc0 Pc1 Pc2 Pf0 Pf1 Pf2 Pz
  have hB := ((hB.setCell (p := ⟨w.heap.size + 1 + 1, 0, none⟩) (by simp <;> omega) (.slice Aq1 mq cq1)).setCell (p := ⟨w.heap.size + 1 + 1, 1, none⟩) (by simp <;> omega) (.slice Aa1 ma ca1))
  have hN3 := net_set (B1 := Aq1) (l1 := mq) (d1 := cq1) (B2 := Aa1) (l2 := ma) (d2 := ca1) hN2 X
  have P := ((P.other (a := ⟨w.heap.size + 1 + 1, 0, none⟩) (by simp) (.slice Aq1 mq cq1)).other (a := ⟨w.heap.size + 1 + 1, 1, none⟩) (by simp) (.slice Aa1 ma ca1))
  have X := ((X.set 0 (.slice Aq1 mq cq1)).set 1 (.slice Aa1 ma ca1))
  generalize ((w3.setCell ⟨w.heap.size + 1 + 1, 0, none⟩ (.slice Aq1 mq cq1)).setCell ⟨w.heap.size + 1 + 1, 1, none⟩ (.slice Aa1 ma ca1)) = w4 at hB P X hN3 ⊢
  simp only [List.set_cons_zero, List.set_cons_succ] at X
  have X0 : w4.cell? ⟨w.heap.size + 1 + 1, 0, none⟩ = some (.slice Aq1 mq cq1) := X.cell 0
  have Xf0 : w4.frozen? ⟨w.heap.size + 1 + 1, 0, none⟩ = false := X.free 0
  have X1 : w4.cell? ⟨w.heap.size + 1 + 1, 1, none⟩ = some (.slice Aa1 ma ca1) := X.cell 1
  have Xf1 : w4.frozen? ⟨w.heap.size + 1 + 1, 1, none⟩ = false := X.free 1
  have P0 : w4.cell? ⟨w.heap.size + 1 + 1 + 1, 0, none⟩ = some (.int .i64 0) := P.cell 0
  have Pf0 : w4.frozen? ⟨w.heap.size + 1 + 1 + 1, 0, none⟩ = false := P.free 0
  have P1 : w4.cell? ⟨w.heap.size + 1 + 1 + 1, 1, none⟩ = some (.int .i64 0) := P.cell 1
  have Pf1 : w4.frozen? ⟨w.heap.size + 1 + 1 + 1, 1, none⟩ = false := P.free 1
  have P2 : w4.cell? ⟨w.heap.size + 1 + 1 + 1, 2, none⟩ = some (.slice none 0 0) := P.cell 2
  have Pf2 : w4.frozen? ⟨w.heap.size + 1 + 1 + 1, 2, none⟩ = false := P.free 2
  have Xz := X.lt
  have Pz := P.lt
  go_region
  go_wp2
  have hE : (((((w4.setCell ⟨w.heap.size + 1 + 1, 0, none⟩ (.slice Aq1 mq cq1)).setCell ⟨w.heap.size + 1 + 1, 1, none⟩ (.slice Aa1 ma ca1)).setCell ⟨w.heap.size + 1 + 1 + 1, 0, none⟩ (.int .i64 0)).setCell ⟨w.heap.size + 1 + 1 + 1, 1, none⟩ (.int .i64 0)).setCell ⟨w.heap.size + 1 + 1 + 1, 2, none⟩ (.slice none 0 0)) = w4 := by rw [setCell_same X (i := 0) rfl, setCell_same X (i := 1) rfl, setCell_same P (i := 0) rfl, setCell_same P (i := 1) rfl, setCell_same P (i := 2) rfl]
  rw [hE]
  refine bodyPost_ret (v := .tuple #[.agg #[.slice Aq1 mq cq1, .slice Aa1 ma ca1], .agg #[.int .i64 0, .int .i64 0, .slice none 0 0], .int .i64 er]) (by simp [results, Try.results27, go_sem, X0, X1, P0, P1, P2]) rfl ?_
  exact ⟨_, _, _, m, Pk.zero, er, rfl, hs.out, hN3.out.below (Below.refl _ _).drew, bytesAt_nil _ _, hB.drew⟩

set_option maxRecDepth 100000 in
set_option maxHeartbeats 4000000 in
theorem nHap_1 (n : Net) (Aq : Option Addr) (ql cq : Nat) (Aa : Option Addr) (na ca : Nat) (kd ta sa sb dt : Int) (w : World) (hN : Hid (NetAt w w.heap.size (.slice Aq ql cq) (.slice Aa na ca) n)) (hk : kd % 6 = 1) (h1 : 0 ≤ kd) (h2 : kd ≤ 255) (_h3 : 0 ≤ ta) (_h4 : ta ≤ 255) (_h5 : 0 ≤ sa) (_h6 : sa ≤ 255) (_h7 : 0 ≤ sb) (_h8 : sb ≤ 255) (_h9 : 0 ≤ dt) (_h10 : dt ≤ 255) (_h11 : (ql : Int) ≤ 9223372036854775807) (_h0 : (0 : Int) < (ql : Int)) (at0 : Int) (_hat : ta % (ql : Int) = at0) (hs : Hid (happT n kd ta sa sb dt = ((deliverT n at0).2.1, (deliverT n at0).1, (deliverT n at0).2.2))) :
    Calls Try.prog 27 #[.agg #[.slice Aq ql cq, .slice Aa na ca], .agg #[.int .u8 kd, .int .u8 ta, .int .u8 sa, .int .u8 sb, .int .u8 dt]] w (RetHap (happT n kd ta sa sb dt) w) := by
  obtain ⟨p, m, er, hm⟩ : ∃ p m er, deliverT n at0 = (p, m, er) := ⟨_, _, _, rfl⟩
  obtain ⟨mq, hmq⟩ : ∃ k, m.queue.length = k := ⟨_, rfl⟩
  obtain ⟨ma, hma⟩ : ∃ k, m.apart.length = k := ⟨_, rfl⟩
  obtain ⟨pl, hpl⟩ : ∃ k, p.data.length = k := ⟨_, rfl⟩
  rw [hm] at hs
  replace hm := Lib.hid hm
  replace hmq := Lib.hid hmq
  replace hma := Lib.hid hma
  replace hpl := Lib.hid hpl
  go_enter Try.func27, Try.ntmps27
  go_wp2_with fail
  have hB := (((((Below.refl w.heap.size w).alloc (by simp <;> omega) (.cells #[.slice Aq ql cq, .slice Aa na ca] 25)).alloc (by simp <;> omega) (.cells #[.int .u8 kd, .int .u8 ta, .int .u8 sa, .int .u8 sb, .int .u8 dt] 52)).alloc (by simp <;> omega) (.cells #[.slice none 0 0, .slice none 0 0] 25)).alloc (by simp <;> omega) (.cells #[.int .i64 0, .int .i64 0, .slice none 0 0] 28))
  have N0 := ((((Box.newAt (w := w) (n := w.heap.size) [.slice Aq ql cq, .slice Aa na ca] 25 (by simp)).alloc (.cells #[.int .u8 kd, .int .u8 ta, .int .u8 sa, .int .u8 sb, .int .u8 dt] 52)).alloc (.cells #[.slice none 0 0, .slice none 0 0] 25)).alloc (.cells #[.int .i64 0, .int .i64 0, .slice none 0 0] 28))
  have M0 := (((Box.newAt (w := (w.alloc (.cells #[.slice Aq ql cq, .slice Aa na ca] 25))) (n := w.heap.size + 1) [.int .u8 kd, .int .u8 ta, .int .u8 sa, .int .u8 sb, .int .u8 dt] 52 (by simp)).alloc (.cells #[.slice none 0 0, .slice none 0 0] 25)).alloc (.cells #[.int .i64 0, .int .i64 0, .slice none 0 0] 28))
  have X := ((Box.newAt (w := ((w.alloc (.cells #[.slice Aq ql cq, .slice Aa na ca] 25)).alloc (.cells #[.int .u8 kd, .int .u8 ta, .int .u8 sa, .int .u8 sb, .int .u8 dt] 52))) (n := w.heap.size + 1 + 1) [.slice none 0 0, .slice none 0 0] 25 (by simp)).alloc (.cells #[.int .i64 0, .int .i64 0, .slice none 0 0] 28))
  have P := (Box.newAt (w := (((w.alloc (.cells #[.slice Aq ql cq, .slice Aa na ca] 25)).alloc (.cells #[.int .u8 kd, .int .u8 ta, .int .u8 sa, .int .u8 sb, .int .u8 dt] 52)).alloc (.cells #[.slice none 0 0, .slice none 0 0] 25))) (n := w.heap.size + 1 + 1 + 1) [.int .i64 0, .int .i64 0, .slice none 0 0] 28 (by simp))
  generalize ((((w.alloc (.cells #[.slice Aq ql cq, .slice Aa na ca] 25)).alloc (.cells #[.int .u8 kd, .int .u8 ta, .int .u8 sa, .int .u8 sb, .int .u8 dt] 52)).alloc (.cells #[.slice none 0 0, .slice none 0 0] 25)).alloc (.cells #[.int .i64 0, .int .i64 0, .slice none 0 0] 28)) = w1 at hB N0 M0 X P ⊢
  have M0c0 : w1.cell? ⟨w.heap.size + 1, 0, none⟩ = some (.int .u8 kd) := M0.cell 0
  have M0c1 : w1.cell? ⟨w.heap.size + 1, 1, none⟩ = some (.int .u8 ta) := M0.cell 1
  have M0c2 : w1.cell? ⟨w.heap.size + 1, 2, none⟩ = some (.int .u8 sa) := M0.cell 2
  have M0c3 : w1.cell? ⟨w.heap.size + 1, 3, none⟩ = some (.int .u8 sb) := M0.cell 3
  have M0c4 : w1.cell? ⟨w.heap.size + 1, 4, none⟩ = some (.int .u8 dt) := M0.cell 4
  have M0z : w.heap.size + 1 < w1.heap.size := M0.lt
  go_quiet (fail)
  clear M0c0 M0c1 M0c2 M0c3 M0c4 M0z
  have hB := bel_drewN hB nq
  have N0 := N0.drewN nq
  have M0 := M0.drewN nq
  have X := X.drewN nq
  have P := P.drewN nq
  generalize w1.drewN nq = w2 at hB N0 M0 X P ⊢
  have N0c0 : w2.cell? ⟨w.heap.size, 0, none⟩ = some (.slice Aq ql cq) := N0.cell 0
  have N0c1 : w2.cell? ⟨w.heap.size, 1, none⟩ = some (.slice Aa na ca) := N0.cell 1
  have N0z : w.heap.size < w2.heap.size := N0.lt
  have M0c0 : w2.cell? ⟨w.heap.size + 1, 0, none⟩ = some (.int .u8 kd) := M0.cell 0
  have M0c1 : w2.cell? ⟨w.heap.size + 1, 1, none⟩ = some (.int .u8 ta) := M0.cell 1
  have M0c2 : w2.cell? ⟨w.heap.size + 1, 2, none⟩ = some (.int .u8 sa) := M0.cell 2
  have M0c3 : w2.cell? ⟨w.heap.size + 1, 3, none⟩ = some (.int .u8 sb) := M0.cell 3
  have M0c4 : w2.cell? ⟨w.heap.size + 1, 4, none⟩ = some (.int .u8 dt) := M0.cell 4
  have M0z : w.heap.size + 1 < w2.heap.size := M0.lt
  go_wp2_with fail
  have hN1 : Hid (NetAt w2 w2.heap.size (.slice Aq ql cq) (.slice Aa na ca) n) := Lib.hid ((hN.out.below hB).more hB.size)
  have hPlt := P.lt
  have hXlt := X.lt
  refine (nDeliver_any n _ _ at0 w2 w.heap.size hB.size (hN.out.below hB)).mono ?_
  rintro e w3 hh
  obtain ⟨Ad1, cd1, Aq1, cq1, Aa1, ca1, rfl, hV2, hN2, hb⟩ := RetDel.is2 hB.size hh hm hmq hma hpl
  have X := X.later hb
  have P := P.later hb
  have hs2 := hB.size
  have hB := hB.trans (hb.mono hB.size)
  have Xc0 : w3.cell? ⟨w.heap.size + 1 + 1, 0, none⟩ = some (.slice none 0 0) := X.cell 0
  have Xf0 : w3.frozen? ⟨w.heap.size + 1 + 1, 0, none⟩ = false := X.free 0
  have Xc1 : w3.cell? ⟨w.heap.size + 1 + 1, 1, none⟩ = some (.slice none 0 0) := X.cell 1
  have Xf1 : w3.frozen? ⟨w.heap.size + 1 + 1, 1, none⟩ = false := X.free 1
  have Xz : w.heap.size + 1 + 1 < w3.heap.size := X.lt
  have Pc0 : w3.cell? ⟨w.heap.size + 1 + 1 + 1, 0, none⟩ = some (.int .i64 0) := P.cell 0
  have Pf0 : w3.frozen? ⟨w.heap.size + 1 + 1 + 1, 0, none⟩ = false := P.free 0
  have Pc1 : w3.cell? ⟨w.heap.size + 1 + 1 + 1, 1, none⟩ = some (.int .i64 0) := P.cell 1
  have Pf1 : w3.frozen? ⟨w.heap.size + 1 + 1 + 1, 1, none⟩ = false := P.free 1
  have Pc2 : w3.cell? ⟨w.heap.size + 1 + 1 + 1, 2, none⟩ = some (.slice none 0 0) := P.cell 2
  have Pf2 : w3.frozen? ⟨w.heap.size + 1 + 1 + 1, 2, none⟩ = false := P.free 2
  have Pz : w.heap.size + 1 + 1 + 1 < w3.heap.size := P.lt
  go_wp2_with fail
  clear Xc0 Xc1 Xf0 Xf1 Xz Pc0 Pc1 Pc2 Pf0 Pf1 Pf2 Pz
  have hB := (((((hB.setCell (p := ⟨w.heap.size + 1 + 1 + 1, 0, none⟩) (by simp <;> omega) (.int .i64 p.src)).setCell (p := ⟨w.heap.size + 1 + 1 + 1, 1, none⟩) (by simp <;> omega) (.int .i64 p.dst)).setCell (p := ⟨w.heap.size + 1 + 1 + 1, 2, none⟩) (by simp <;> omega) (.slice Ad1 pl cd1)).setCell (p := ⟨w.heap.size + 1 + 1, 0, none⟩) (by simp <;> omega) (.slice Aq1 mq cq1)).setCell (p := ⟨w.heap.size + 1 + 1, 1, none⟩) (by simp <;> omega) (.slice Aa1 ma ca1))
  have hN3 := (((((hN2.out.set (a := ⟨w.heap.size + 1 + 1 + 1, 0, none⟩) (by simp <;> omega) (by simp; omega) (.int .i64 p.src)).set (a := ⟨w.heap.size + 1 + 1 + 1, 1, none⟩) (by simp <;> omega) (by simp; omega) (.int .i64 p.dst)).set (a := ⟨w.heap.size + 1 + 1 + 1, 2, none⟩) (by simp <;> omega) (by simp; omega) (.slice Ad1 pl cd1)).set (a := ⟨w.heap.size + 1 + 1, 0, none⟩) (by simp <;> omega) (by simp; omega) (.slice Aq1 mq cq1)).set (a := ⟨w.heap.size + 1 + 1, 1, none⟩) (by simp <;> omega) (by simp; omega) (.slice Aa1 ma ca1))
  have hV3 := (((((hV2.out.set1 (a := ⟨w.heap.size + 1 + 1 + 1, 0, none⟩) (by simp <;> omega) (.int .i64 p.src)).set1 (a := ⟨w.heap.size + 1 + 1 + 1, 1, none⟩) (by simp <;> omega) (.int .i64 p.dst)).set1 (a := ⟨w.heap.size + 1 + 1 + 1, 2, none⟩) (by simp <;> omega) (.slice Ad1 pl cd1)).set1 (a := ⟨w.heap.size + 1 + 1, 0, none⟩) (by simp <;> omega) (.slice Aq1 mq cq1)).set1 (a := ⟨w.heap.size + 1 + 1, 1, none⟩) (by simp <;> omega) (.slice Aa1 ma ca1))
  have P := (((((P.set 0 (.int .i64 p.src)).set 1 (.int .i64 p.dst)).set 2 (.slice Ad1 pl cd1)).other (a := ⟨w.heap.size + 1 + 1, 0, none⟩) (by simp) (.slice Aq1 mq cq1)).other (a := ⟨w.heap.size + 1 + 1, 1, none⟩) (by simp) (.slice Aa1 ma ca1))
  have X := (((((X.other (a := ⟨w.heap.size + 1 + 1 + 1, 0, none⟩) (by simp) (.int .i64 p.src)).other (a := ⟨w.heap.size + 1 + 1 + 1, 1, none⟩) (by simp) (.int .i64 p.dst)).other (a := ⟨w.heap.size + 1 + 1 + 1, 2, none⟩) (by simp) (.slice Ad1 pl cd1)).set 0 (.slice Aq1 mq cq1)).set 1 (.slice Aa1 ma ca1))
  generalize (((((w3.setCell ⟨w.heap.size + 1 + 1 + 1, 0, none⟩ (.int .i64 p.src)).setCell ⟨w.heap.size + 1 + 1 + 1, 1, none⟩ (.int .i64 p.dst)).setCell ⟨w.heap.size + 1 + 1 + 1, 2, none⟩ (.slice Ad1 pl cd1)).setCell ⟨w.heap.size + 1 + 1, 0, none⟩ (.slice Aq1 mq cq1)).setCell ⟨w.heap.size + 1 + 1, 1, none⟩ (.slice Aa1 ma ca1)) = w4 at hB P X hN3 hV3 ⊢
  simp only [List.set_cons_zero, List.set_cons_succ] at P X
  have X0 : w4.cell? ⟨w.heap.size + 1 + 1, 0, none⟩ = some (.slice Aq1 mq cq1) := X.cell 0
  have Xf0 : w4.frozen? ⟨w.heap.size + 1 + 1, 0, none⟩ = false := X.free 0
  have X1 : w4.cell? ⟨w.heap.size + 1 + 1, 1, none⟩ = some (.slice Aa1 ma ca1) := X.cell 1
  have Xf1 : w4.frozen? ⟨w.heap.size + 1 + 1, 1, none⟩ = false := X.free 1
  have P0 : w4.cell? ⟨w.heap.size + 1 + 1 + 1, 0, none⟩ = some (.int .i64 p.src) := P.cell 0
  have Pf0 : w4.frozen? ⟨w.heap.size + 1 + 1 + 1, 0, none⟩ = false := P.free 0
  have P1 : w4.cell? ⟨w.heap.size + 1 + 1 + 1, 1, none⟩ = some (.int .i64 p.dst) := P.cell 1
  have Pf1 : w4.frozen? ⟨w.heap.size + 1 + 1 + 1, 1, none⟩ = false := P.free 1
  have P2 : w4.cell? ⟨w.heap.size + 1 + 1 + 1, 2, none⟩ = some (.slice Ad1 pl cd1) := P.cell 2
  have Pf2 : w4.frozen? ⟨w.heap.size + 1 + 1 + 1, 2, none⟩ = false := P.free 2
  have Xz := X.lt
  have Pz := P.lt
  go_region
  go_wp2
  have hE : (((((w4.setCell ⟨w.heap.size + 1 + 1, 0, none⟩ (.slice Aq1 mq cq1)).setCell ⟨w.heap.size + 1 + 1, 1, none⟩ (.slice Aa1 ma ca1)).setCell ⟨w.heap.size + 1 + 1 + 1, 0, none⟩ (.int .i64 p.src)).setCell ⟨w.heap.size + 1 + 1 + 1, 1, none⟩ (.int .i64 p.dst)).setCell ⟨w.heap.size + 1 + 1 + 1, 2, none⟩ (.slice Ad1 pl cd1)) = w4 := by rw [setCell_same X (i := 0) rfl, setCell_same X (i := 1) rfl, setCell_same P (i := 0) rfl, setCell_same P (i := 1) rfl, setCell_same P (i := 2) rfl]
  rw [hE]
  refine bodyPost_ret (v := .tuple #[.agg #[.slice Aq1 mq cq1, .slice Aa1 ma ca1], .agg #[.int .i64 p.src, .int .i64 p.dst, .slice Ad1 pl cd1], .int .i64 er]) (by simp [results, Try.results27, go_sem, X0, X1, P0, P1, P2]) rfl ?_
  exact ⟨_, _, _, m, p, er, rfl, hs.out, (hN3.at (by have := hB.size; omega)).below (Below.refl _ _).drew, (hV3.more hB.size).below (Below.refl _ _).drew, hB.drew⟩

set_option maxRecDepth 100000 in
set_option maxHeartbeats 4000000 in
theorem nHap_1z (n : Net) (Aq : Option Addr) (ql cq : Nat) (Aa : Option Addr) (na ca : Nat) (kd ta sa sb dt : Int) (w : World) (hN : Hid (NetAt w w.heap.size (.slice Aq ql cq) (.slice Aa na ca) n)) (hk : kd % 6 = 1) (h1 : 0 ≤ kd) (h2 : kd ≤ 255) (_h3 : 0 ≤ ta) (_h4 : ta ≤ 255) (_h5 : 0 ≤ sa) (_h6 : sa ≤ 255) (_h7 : 0 ≤ sb) (_h8 : sb ≤ 255) (_h9 : 0 ≤ dt) (_h10 : dt ≤ 255) (_h11 : (ql : Int) ≤ 9223372036854775807) (_h0 : ql = 0) (hs : Hid (happT n kd ta sa sb dt = ((deliverT n 0).2.1, (deliverT n 0).1, (deliverT n 0).2.2))) :
    Calls Try.prog 27 #[.agg #[.slice Aq ql cq, .slice Aa na ca], .agg #[.int .u8 kd, .int .u8 ta, .int .u8 sa, .int .u8 sb, .int .u8 dt]] w (RetHap (happT n kd ta sa sb dt) w) := by
  subst _h0
  obtain ⟨p, m, er, hm⟩ : ∃ p m er, deliverT n 0 = (p, m, er) := ⟨_, _, _, rfl⟩
  obtain ⟨mq, hmq⟩ : ∃ k, m.queue.length = k := ⟨_, rfl⟩
  obtain ⟨ma, hma⟩ : ∃ k, m.apart.length = k := ⟨_, rfl⟩
  obtain ⟨pl, hpl⟩ : ∃ k, p.data.length = k := ⟨_, rfl⟩
  rw [hm] at hs
  replace hm := Lib.hid hm
  replace hmq := Lib.hid hmq
  replace hma := Lib.hid hma
  replace hpl := Lib.hid hpl
  go_enter Try.func27, Try.ntmps27
  go_wp2_with fail
  have hB := (((((Below.refl w.heap.size w).alloc (by simp <;> omega) (.cells #[.slice Aq 0 cq, .slice Aa na ca] 25)).alloc (by simp <;> omega) (.cells #[.int .u8 kd, .int .u8 ta, .int .u8 sa, .int .u8 sb, .int .u8 dt] 52)).alloc (by simp <;> omega) (.cells #[.slice none 0 0, .slice none 0 0] 25)).alloc (by simp <;> omega) (.cells #[.int .i64 0, .int .i64 0, .slice none 0 0] 28))
  have N0 := ((((Box.newAt (w := w) (n := w.heap.size) [.slice Aq 0 cq, .slice Aa na ca] 25 (by simp)).alloc (.cells #[.int .u8 kd, .int .u8 ta, .int .u8 sa, .int .u8 sb, .int .u8 dt] 52)).alloc (.cells #[.slice none 0 0, .slice none 0 0] 25)).alloc (.cells #[.int .i64 0, .int .i64 0, .slice none 0 0] 28))
  have M0 := (((Box.newAt (w := (w.alloc (.cells #[.slice Aq 0 cq, .slice Aa na ca] 25))) (n := w.heap.size + 1) [.int .u8 kd, .int .u8 ta, .int .u8 sa, .int .u8 sb, .int .u8 dt] 52 (by simp)).alloc (.cells #[.slice none 0 0, .slice none 0 0] 25)).alloc (.cells #[.int .i64 0, .int .i64 0, .slice none 0 0] 28))
  have X := ((Box.newAt (w := ((w.alloc (.cells #[.slice Aq 0 cq, .slice Aa na ca] 25)).alloc (.cells #[.int .u8 kd, .int .u8 ta, .int .u8 sa, .int .u8 sb, .int .u8 dt] 52))) (n := w.heap.size + 1 + 1) [.slice none 0 0, .slice none 0 0] 25 (by simp)).alloc (.cells #[.int .i64 0, .int .i64 0, .slice none 0 0] 28))
  have P := (Box.newAt (w := (((w.alloc (.cells #[.slice Aq 0 cq, .slice Aa na ca] 25)).alloc (.cells #[.int .u8 kd, .int .u8 ta, .int .u8 sa, .int .u8 sb, .int .u8 dt] 52)).alloc (.cells #[.slice none 0 0, .slice none 0 0] 25))) (n := w.heap.size + 1 + 1 + 1) [.int .i64 0, .int .i64 0, .slice none 0 0] 28 (by simp))
  generalize ((((w.alloc (.cells #[.slice Aq 0 cq, .slice Aa na ca] 25)).alloc (.cells #[.int .u8 kd, .int .u8 ta, .int .u8 sa, .int .u8 sb, .int .u8 dt] 52)).alloc (.cells #[.slice none 0 0, .slice none 0 0] 25)).alloc (.cells #[.int .i64 0, .int .i64 0, .slice none 0 0] 28)) = w1 at hB N0 M0 X P ⊢
  have M0c0 : w1.cell? ⟨w.heap.size + 1, 0, none⟩ = some (.int .u8 kd) := M0.cell 0
  have M0c1 : w1.cell? ⟨w.heap.size + 1, 1, none⟩ = some (.int .u8 ta) := M0.cell 1
  have M0c2 : w1.cell? ⟨w.heap.size + 1, 2, none⟩ = some (.int .u8 sa) := M0.cell 2
  have M0c3 : w1.cell? ⟨w.heap.size + 1, 3, none⟩ = some (.int .u8 sb) := M0.cell 3
  have M0c4 : w1.cell? ⟨w.heap.size + 1, 4, none⟩ = some (.int .u8 dt) := M0.cell 4
  have M0z : w.heap.size + 1 < w1.heap.size := M0.lt
  go_quiet (fail)
  clear M0c0 M0c1 M0c2 M0c3 M0c4 M0z
  have hB := bel_drewN hB nq
  have N0 := N0.drewN nq
  have M0 := M0.drewN nq
  have X := X.drewN nq
  have P := P.drewN nq
  generalize w1.drewN nq = w2 at hB N0 M0 X P ⊢
  have N0c0 : w2.cell? ⟨w.heap.size, 0, none⟩ = some (.slice Aq 0 cq) := N0.cell 0
  have N0c1 : w2.cell? ⟨w.heap.size, 1, none⟩ = some (.slice Aa na ca) := N0.cell 1
  have N0z : w.heap.size < w2.heap.size := N0.lt
  have M0c0 : w2.cell? ⟨w.heap.size + 1, 0, none⟩ = some (.int .u8 kd) := M0.cell 0
  have M0c1 : w2.cell? ⟨w.heap.size + 1, 1, none⟩ = some (.int .u8 ta) := M0.cell 1
  have M0c2 : w2.cell? ⟨w.heap.size + 1, 2, none⟩ = some (.int .u8 sa) := M0.cell 2
  have M0c3 : w2.cell? ⟨w.heap.size + 1, 3, none⟩ = some (.int .u8 sb) := M0.cell 3
  have M0c4 : w2.cell? ⟨w.heap.size + 1, 4, none⟩ = some (.int .u8 dt) := M0.cell 4
  have M0z : w.heap.size + 1 < w2.heap.size := M0.lt
  go_wp2_with fail
  have hN1 : Hid (NetAt w2 w2.heap.size (.slice Aq 0 cq) (.slice Aa na ca) n) := Lib.hid ((hN.out.below hB).more hB.size)
  have hPlt := P.lt
  have hXlt := X.lt
  refine (nDeliver_any n _ _ 0 w2 w.heap.size hB.size (hN.out.below hB)).mono ?_
  rintro e w3 hh
  obtain ⟨Ad1, cd1, Aq1, cq1, Aa1, ca1, rfl, hV2, hN2, hb⟩ := RetDel.is2 hB.size hh hm hmq hma hpl
  have X := X.later hb
  have P := P.later hb
  have hs2 := hB.size
  have hB := hB.trans (hb.mono hB.size)
  have Xc0 : w3.cell? ⟨w.heap.size + 1 + 1, 0, none⟩ = some (.slice none 0 0) := X.cell 0
  have Xf0 : w3.frozen? ⟨w.heap.size + 1 + 1, 0, none⟩ = false := X.free 0
  have Xc1 : w3.cell? ⟨w.heap.size + 1 + 1, 1, none⟩ = some (.slice none 0 0) := X.cell 1
  have Xf1 : w3.frozen? ⟨w.heap.size + 1 + 1, 1, none⟩ = false := X.free 1
  have Xz : w.heap.size + 1 + 1 < w3.heap.size := X.lt
  have Pc0 : w3.cell? ⟨w.heap.size + 1 + 1 + 1, 0, none⟩ = some (.int .i64 0) := P.cell 0
  have Pf0 : w3.frozen? ⟨w.heap.size + 1 + 1 + 1, 0, none⟩ = false := P.free 0
  have Pc1 : w3.cell? ⟨w.heap.size + 1 + 1 + 1, 1, none⟩ = some (.int .i64 0) := P.cell 1
  have Pf1 : w3.frozen? ⟨w.heap.size + 1 + 1 + 1, 1, none⟩ = false := P.free 1
  have Pc2 : w3.cell? ⟨w.heap.size + 1 + 1 + 1, 2, none⟩ = some (.slice none 0 0) := P.cell 2
  have Pf2 : w3.frozen? ⟨w.heap.size + 1 + 1 + 1, 2, none⟩ = false := P.free 2
  have Pz : w.heap.size + 1 + 1 + 1 < w3.heap.size := P.lt
  go_wp2_with fail
  clear Xc0 Xc1 Xf0 Xf1 Xz Pc0 Pc1 Pc2 Pf0 Pf1 Pf2 Pz
  have hB := (((((hB.setCell (p := ⟨w.heap.size + 1 + 1 + 1, 0, none⟩) (by simp <;> omega) (.int .i64 p.src)).setCell (p := ⟨w.heap.size + 1 + 1 + 1, 1, none⟩) (by simp <;> omega) (.int .i64 p.dst)).setCell (p := ⟨w.heap.size + 1 + 1 + 1, 2, none⟩) (by simp <;> omega) (.slice Ad1 pl cd1)).setCell (p := ⟨w.heap.size + 1 + 1, 0, none⟩) (by simp <;> omega) (.slice Aq1 mq cq1)).setCell (p := ⟨w.heap.size + 1 + 1, 1, none⟩) (by simp <;> omega) (.slice Aa1 ma ca1))
  have hN3 := (((((hN2.out.set (a := ⟨w.heap.size + 1 + 1 + 1, 0, none⟩) (by simp <;> omega) (by simp; omega) (.int .i64 p.src)).set (a := ⟨w.heap.size + 1 + 1 + 1, 1, none⟩) (by simp <;> omega) (by simp; omega) (.int .i64 p.dst)).set (a := ⟨w.heap.size + 1 + 1 + 1, 2, none⟩) (by simp <;> omega) (by simp; omega) (.slice Ad1 pl cd1)).set (a := ⟨w.heap.size + 1 + 1, 0, none⟩) (by simp <;> omega) (by simp; omega) (.slice Aq1 mq cq1)).set (a := ⟨w.heap.size + 1 + 1, 1, none⟩) (by simp <;> omega) (by simp; omega) (.slice Aa1 ma ca1))
  have hV3 := (((((hV2.out.set1 (a := ⟨w.heap.size + 1 + 1 + 1, 0, none⟩) (by simp <;> omega) (.int .i64 p.src)).set1 (a := ⟨w.heap.size + 1 + 1 + 1, 1, none⟩) (by simp <;> omega) (.int .i64 p.dst)).set1 (a := ⟨w.heap.size + 1 + 1 + 1, 2, none⟩) (by simp <;> omega) (.slice Ad1 pl cd1)).set1 (a := ⟨w.heap.size + 1 + 1, 0, none⟩) (by simp <;> omega) (.slice Aq1 mq cq1)).set1 (a := ⟨w.heap.size + 1 + 1, 1, none⟩) (by simp <;> omega) (.slice Aa1 ma ca1))
  have P := (((((P.set 0 (.int .i64 p.src)).set 1 (.int .i64 p.dst)).set 2 (.slice Ad1 pl cd1)).other (a := ⟨w.heap.size + 1 + 1, 0, none⟩) (by simp) (.slice Aq1 mq cq1)).other (a := ⟨w.heap.size + 1 + 1, 1, none⟩) (by simp) (.slice Aa1 ma ca1))
  have X := (((((X.other (a := ⟨w.heap.size + 1 + 1 + 1, 0, none⟩) (by simp) (.int .i64 p.src)).other (a := ⟨w.heap.size + 1 + 1 + 1, 1, none⟩) (by simp) (.int .i64 p.dst)).other (a := ⟨w.heap.size + 1 + 1 + 1, 2, none⟩) (by simp) (.slice Ad1 pl cd1)).set 0 (.slice Aq1 mq cq1)).set 1 (.slice Aa1 ma ca1))
  generalize (((((w3.setCell ⟨w.heap.size + 1 + 1 + 1, 0, none⟩ (.int .i64 p.src)).setCell ⟨w.heap.size + 1 + 1 + 1, 1, none⟩ (.int .i64 p.dst)).setCell ⟨w.heap.size + 1 + 1 + 1, 2, none⟩ (.slice Ad1 pl cd1)).setCell ⟨w.heap.size + 1 + 1, 0, none⟩ (.slice Aq1 mq cq1)).setCell ⟨w.heap.size + 1 + 1, 1, none⟩ (.slice Aa1 ma ca1)) = w4 at hB P X hN3 hV3 ⊢
  simp only [List.set_cons_zero, List.set_cons_succ] at P X
  have X0 : w4.cell? ⟨w.heap.size + 1 + 1, 0, none⟩ = some (.slice Aq1 mq cq1) := X.cell 0
  have Xf0 : w4.frozen? ⟨w.heap.size + 1 + 1, 0, none⟩ = false := X.free 0
  have X1 : w4.cell? ⟨w.heap.size + 1 + 1, 1, none⟩ = some (.slice Aa1 ma ca1) := X.cell 1
  have Xf1 : w4.frozen? ⟨w.heap.size + 1 + 1, 1, none⟩ = false := X.free 1
  have P0 : w4.cell? ⟨w.heap.size + 1 + 1 + 1, 0, none⟩ = some (.int .i64 p.src) := P.cell 0
  have Pf0 : w4.frozen? ⟨w.heap.size + 1 + 1 + 1, 0, none⟩ = false := P.free 0
  have P1 : w4.cell? ⟨w.heap.size + 1 + 1 + 1, 1, none⟩ = some (.int .i64 p.dst) := P.cell 1
  have Pf1 : w4.frozen? ⟨w.heap.size + 1 + 1 + 1, 1, none⟩ = false := P.free 1
  have P2 : w4.cell? ⟨w.heap.size + 1 + 1 + 1, 2, none⟩ = some (.slice Ad1 pl cd1) := P.cell 2
  have Pf2 : w4.frozen? ⟨w.heap.size + 1 + 1 + 1, 2, none⟩ = false := P.free 2
  have Xz := X.lt
  have Pz := P.lt
  go_region
  go_wp2
  have hE : (((((w4.setCell ⟨w.heap.size + 1 + 1, 0, none⟩ (.slice Aq1 mq cq1)).setCell ⟨w.heap.size + 1 + 1, 1, none⟩ (.slice Aa1 ma ca1)).setCell ⟨w.heap.size + 1 + 1 + 1, 0, none⟩ (.int .i64 p.src)).setCell ⟨w.heap.size + 1 + 1 + 1, 1, none⟩ (.int .i64 p.dst)).setCell ⟨w.heap.size + 1 + 1 + 1, 2, none⟩ (.slice Ad1 pl cd1)) = w4 := by rw [setCell_same X (i := 0) rfl, setCell_same X (i := 1) rfl, setCell_same P (i := 0) rfl, setCell_same P (i := 1) rfl, setCell_same P (i := 2) rfl]
  rw [hE]
  refine bodyPost_ret (v := .tuple #[.agg #[.slice Aq1 mq cq1, .slice Aa1 ma ca1], .agg #[.int .i64 p.src, .int .i64 p.dst, .slice Ad1 pl cd1], .int .i64 er]) (by simp [results, Try.results27, go_sem, X0, X1, P0, P1, P2]) rfl ?_
  exact ⟨_, _, _, m, p, er, rfl, hs.out, (hN3.at (by have := hB.size; omega)).below (Below.refl _ _).drew, (hV3.more hB.size).below (Below.refl _ _).drew, hB.drew⟩

set_option maxRecDepth 100000 in
set_option maxHeartbeats 4000000 in
theorem nHap_2 (n : Net) (Aq : Option Addr) (ql cq : Nat) (Aa : Option Addr) (na ca : Nat) (kd ta sa sb dt : Int) (w : World) (hN : Hid (NetAt w w.heap.size (.slice Aq ql cq) (.slice Aa na ca) n)) (hk : kd % 6 = 2) (h1 : 0 ≤ kd) (h2 : kd ≤ 255) (_h3 : 0 ≤ ta) (_h4 : ta ≤ 255) (_h5 : 0 ≤ sa) (_h6 : sa ≤ 255) (_h7 : 0 ≤ sb) (_h8 : sb ≤ 255) (_h9 : 0 ≤ dt) (_h10 : dt ≤ 255) (_h11 : (ql : Int) ≤ 9223372036854775807) (_h0 : (0 : Int) < (ql : Int)) (at0 : Int) (_hat : ta % (ql : Int) = at0) (hs : Hid (happT n kd ta sa sb dt = ((loseT n at0).1, Pk.zero, (loseT n at0).2))) :
    Calls Try.prog 27 #[.agg #[.slice Aq ql cq, .slice Aa na ca], .agg #[.int .u8 kd, .int .u8 ta, .int .u8 sa, .int .u8 sb, .int .u8 dt]] w (RetHap (happT n kd ta sa sb dt) w) := by
  obtain ⟨m, er, hm⟩ : ∃ m er, loseT n at0 = (m, er) := ⟨_, _, rfl⟩
  obtain ⟨mq, hmq⟩ : ∃ k, m.queue.length = k := ⟨_, rfl⟩
  obtain ⟨ma, hma⟩ : ∃ k, m.apart.length = k := ⟨_, rfl⟩
  rw [hm] at hs
  replace hm := Lib.hid hm
  replace hmq := Lib.hid hmq
  replace hma := Lib.hid hma
  go_enter Try.func27, Try.ntmps27
  go_wp2_with fail
  have hB := (((((Below.refl w.heap.size w).alloc (by simp <;> omega) (.cells #[.slice Aq ql cq, .slice Aa na ca] 25)).alloc (by simp <;> omega) (.cells #[.int .u8 kd, .int .u8 ta, .int .u8 sa, .int .u8 sb, .int .u8 dt] 52)).alloc (by simp <;> omega) (.cells #[.slice none 0 0, .slice none 0 0] 25)).alloc (by simp <;> omega) (.cells #[.int .i64 0, .int .i64 0, .slice none 0 0] 28))
  have N0 := ((((Box.newAt (w := w) (n := w.heap.size) [.slice Aq ql cq, .slice Aa na ca] 25 (by simp)).alloc (.cells #[.int .u8 kd, .int .u8 ta, .int .u8 sa, .int .u8 sb, .int .u8 dt] 52)).alloc (.cells #[.slice none 0 0, .slice none 0 0] 25)).alloc (.cells #[.int .i64 0, .int .i64 0, .slice none 0 0] 28))
  have M0 := (((Box.newAt (w := (w.alloc (.cells #[.slice Aq ql cq, .slice Aa na ca] 25))) (n := w.heap.size + 1) [.int .u8 kd, .int .u8 ta, .int .u8 sa, .int .u8 sb, .int .u8 dt] 52 (by simp)).alloc (.cells #[.slice none 0 0, .slice none 0 0] 25)).alloc (.cells #[.int .i64 0, .int .i64 0, .slice none 0 0] 28))
  have X := ((Box.newAt (w := ((w.alloc (.cells #[.slice Aq ql cq, .slice Aa na ca] 25)).alloc (.cells #[.int .u8 kd, .int .u8 ta, .int .u8 sa, .int .u8 sb, .int .u8 dt] 52))) (n := w.heap.size + 1 + 1) [.slice none 0 0, .slice none 0 0] 25 (by simp)).alloc (.cells #[.int .i64 0, .int .i64 0, .slice none 0 0] 28))
  have P := (Box.newAt (w := (((w.alloc (.cells #[.slice Aq ql cq, .slice Aa na ca] 25)).alloc (.cells #[.int .u8 kd, .int .u8 ta, .int .u8 sa, .int .u8 sb, .int .u8 dt] 52)).alloc (.cells #[.slice none 0 0, .slice none 0 0] 25))) (n := w.heap.size + 1 + 1 + 1) [.int .i64 0, .int .i64 0, .slice none 0 0] 28 (by simp))
  generalize ((((w.alloc (.cells #[.slice Aq ql cq, .slice Aa na ca] 25)).alloc (.cells #[.int .u8 kd, .int .u8 ta, .int .u8 sa, .int .u8 sb, .int .u8 dt] 52)).alloc (.cells #[.slice none 0 0, .slice none 0 0] 25)).alloc (.cells #[.int .i64 0, .int .i64 0, .slice none 0 0] 28)) = w1 at hB N0 M0 X P ⊢
  have M0c0 : w1.cell? ⟨w.heap.size + 1, 0, none⟩ = some (.int .u8 kd) := M0.cell 0
  have M0c1 : w1.cell? ⟨w.heap.size + 1, 1, none⟩ = some (.int .u8 ta) := M0.cell 1
  have M0c2 : w1.cell? ⟨w.heap.size + 1, 2, none⟩ = some (.int .u8 sa) := M0.cell 2
  have M0c3 : w1.cell? ⟨w.heap.size + 1, 3, none⟩ = some (.int .u8 sb) := M0.cell 3
  have M0c4 : w1.cell? ⟨w.heap.size + 1, 4, none⟩ = some (.int .u8 dt) := M0.cell 4
  have M0z : w.heap.size + 1 < w1.heap.size := M0.lt
  go_quiet (fail)
  clear M0c0 M0c1 M0c2 M0c3 M0c4 M0z
  have hB := bel_drewN hB nq
  have N0 := N0.drewN nq
  have M0 := M0.drewN nq
  have X := X.drewN nq
  have P := P.drewN nq
  generalize w1.drewN nq = w2 at hB N0 M0 X P ⊢
  have N0c0 : w2.cell? ⟨w.heap.size, 0, none⟩ = some (.slice Aq ql cq) := N0.cell 0
  have N0c1 : w2.cell? ⟨w.heap.size, 1, none⟩ = some (.slice Aa na ca) := N0.cell 1
  have N0z : w.heap.size < w2.heap.size := N0.lt
  have M0c0 : w2.cell? ⟨w.heap.size + 1, 0, none⟩ = some (.int .u8 kd) := M0.cell 0
  have M0c1 : w2.cell? ⟨w.heap.size + 1, 1, none⟩ = some (.int .u8 ta) := M0.cell 1
  have M0c2 : w2.cell? ⟨w.heap.size + 1, 2, none⟩ = some (.int .u8 sa) := M0.cell 2
  have M0c3 : w2.cell? ⟨w.heap.size + 1, 3, none⟩ = some (.int .u8 sb) := M0.cell 3
  have M0c4 : w2.cell? ⟨w.heap.size + 1, 4, none⟩ = some (.int .u8 dt) := M0.cell 4
  have M0z : w.heap.size + 1 < w2.heap.size := M0.lt
  go_wp2_with fail
  have hN1 : Hid (NetAt w2 w2.heap.size (.slice Aq ql cq) (.slice Aa na ca) n) := Lib.hid ((hN.out.below hB).more hB.size)
  refine (nLose_is n at0 hN1).mono ?_
  rintro e w3 hh
  obtain ⟨Aq1, cq1, Aa1, ca1, rfl, hN2, hb⟩ := RetNet.is hh hm hmq hma
  have X := X.later hb
  have P := P.later hb
  have hs2 := hB.size
  have hB := hB.trans (hb.mono hB.size)
  clear hb
  have Xc0 : w3.cell? ⟨w.heap.size + 1 + 1, 0, none⟩ = some (.slice none 0 0) := X.cell 0
  have Xf0 : w3.frozen? ⟨w.heap.size + 1 + 1, 0, none⟩ = false := X.free 0
  have Xc1 : w3.cell? ⟨w.heap.size + 1 + 1, 1, none⟩ = some (.slice none 0 0) := X.cell 1
  have Xf1 : w3.frozen? ⟨w.heap.size + 1 + 1, 1, none⟩ = false := X.free 1
  have Xz : w.heap.size + 1 + 1 < w3.heap.size := X.lt
  have Pc0 : w3.cell? ⟨w.heap.size + 1 + 1 + 1, 0, none⟩ = some (.int .i64 0) := P.cell 0
  have Pf0 : w3.frozen? ⟨w.heap.size + 1 + 1 + 1, 0, none⟩ = false := P.free 0
  have Pc1 : w3.cell? ⟨w.heap.size + 1 + 1 + 1, 1, none⟩ = some (.int .i64 0) := P.cell 1
  have Pf1 : w3.frozen? ⟨w.heap.size + 1 + 1 + 1, 1, none⟩ = false := P.free 1
  have Pc2 : w3.cell? ⟨w.heap.size + 1 + 1 + 1, 2, none⟩ = some (.slice none 0 0) := P.cell 2
  have Pf2 : w3.frozen? ⟨w.heap.size + 1 + 1 + 1, 2, none⟩ = false := P.free 2
  have Pz : w.heap.size + 1 + 1 + 1 < w3.heap.size := P.lt
  go_wp2_with fail
  clear Xc0 Xc1 Xf0 Xf1 Xz Pc0 Pc1 Pc2 Pf0 Pf1 Pf2 Pz
  have hB := ((hB.setCell (p := ⟨w.heap.size + 1 + 1, 0, none⟩) (by simp <;> omega) (.slice Aq1 mq cq1)).setCell (p := ⟨w.heap.size + 1 + 1, 1, none⟩) (by simp <;> omega) (.slice Aa1 ma ca1))
  have hN3 := net_set (B1 := Aq1) (l1 := mq) (d1 := cq1) (B2 := Aa1) (l2 := ma) (d2 := ca1) hN2 X
  have P := ((P.other (a := ⟨w.heap.size + 1 + 1, 0, none⟩) (by simp) (.slice Aq1 mq cq1)).other (a := ⟨w.heap.size + 1 + 1, 1, none⟩) (by simp) (.slice Aa1 ma ca1))
  have X := ((X.set 0 (.slice Aq1 mq cq1)).set 1 (.slice Aa1 ma ca1))
  generalize ((w3.setCell ⟨w.heap.size + 1 + 1, 0, none⟩ (.slice Aq1 mq cq1)).setCell ⟨w.heap.size + 1 + 1, 1, none⟩ (.slice Aa1 ma ca1)) = w4 at hB P X hN3 ⊢
  simp only [List.set_cons_zero, List.set_cons_succ] at X
  have X0 : w4.cell? ⟨w.heap.size + 1 + 1, 0, none⟩ = some (.slice Aq1 mq cq1) := X.cell 0
  have Xf0 : w4.frozen? ⟨w.heap.size + 1 + 1, 0, none⟩ = false := X.free 0
  have X1 : w4.cell? ⟨w.heap.size + 1 + 1, 1, none⟩ = some (.slice Aa1 ma ca1) := X.cell 1
  have Xf1 : w4.frozen? ⟨w.heap.size + 1 + 1, 1, none⟩ = false := X.free 1
  have P0 : w4.cell? ⟨w.heap.size + 1 + 1 + 1, 0, none⟩ = some (.int .i64 0) := P.cell 0
  have Pf0 : w4.frozen? ⟨w.heap.size + 1 + 1 + 1, 0, none⟩ = false := P.free 0
  have P1 : w4.cell? ⟨w.heap.size + 1 + 1 + 1, 1, none⟩ = some (.int .i64 0) := P.cell 1
  have Pf1 : w4.frozen? ⟨w.heap.size + 1 + 1 + 1, 1, none⟩ = false := P.free 1
  have P2 : w4.cell? ⟨w.heap.size + 1 + 1 + 1, 2, none⟩ = some (.slice none 0 0) := P.cell 2
  have Pf2 : w4.frozen? ⟨w.heap.size + 1 + 1 + 1, 2, none⟩ = false := P.free 2
  have Xz := X.lt
  have Pz := P.lt
  go_region
  go_wp2
  have hE : (((((w4.setCell ⟨w.heap.size + 1 + 1, 0, none⟩ (.slice Aq1 mq cq1)).setCell ⟨w.heap.size + 1 + 1, 1, none⟩ (.slice Aa1 ma ca1)).setCell ⟨w.heap.size + 1 + 1 + 1, 0, none⟩ (.int .i64 0)).setCell ⟨w.heap.size + 1 + 1 + 1, 1, none⟩ (.int .i64 0)).setCell ⟨w.heap.size + 1 + 1 + 1, 2, none⟩ (.slice none 0 0)) = w4 := by rw [setCell_same X (i := 0) rfl, setCell_same X (i := 1) rfl, setCell_same P (i := 0) rfl, setCell_same P (i := 1) rfl, setCell_same P (i := 2) rfl]
  rw [hE]
  refine bodyPost_ret (v := .tuple #[.agg #[.slice Aq1 mq cq1, .slice Aa1 ma ca1], .agg #[.int .i64 0, .int .i64 0, .slice none 0 0], .int .i64 er]) (by simp [results, Try.results27, go_sem, X0, X1, P0, P1, P2]) rfl ?_
  exact ⟨_, _, _, m, Pk.zero, er, rfl, hs.out, hN3.out.below (Below.refl _ _).drew, bytesAt_nil _ _, hB.drew⟩

set_option maxRecDepth 100000 in
set_option maxHeartbeats 4000000 in
theorem nHap_2z (n : Net) (Aq : Option Addr) (ql cq : Nat) (Aa : Option Addr) (na ca : Nat) (kd ta sa sb dt : Int) (w : World) (hN : Hid (NetAt w w.heap.size (.slice Aq ql cq) (.slice Aa na ca) n)) (hk : kd % 6 = 2) (h1 : 0 ≤ kd) (h2 : kd ≤ 255) (_h3 : 0 ≤ ta) (_h4 : ta ≤ 255) (_h5 : 0 ≤ sa) (_h6 : sa ≤ 255) (_h7 : 0 ≤ sb) (_h8 : sb ≤ 255) (_h9 : 0 ≤ dt) (_h10 : dt ≤ 255) (_h11 : (ql : Int) ≤ 9223372036854775807) (_h0 : ql = 0) (hs : Hid (happT n kd ta sa sb dt = ((loseT n 0).1, Pk.zero, (loseT n 0).2))) :
    Calls Try.prog 27 #[.agg #[.slice Aq ql cq, .slice Aa na ca], .agg #[.int .u8 kd, .int .u8 ta, .int .u8 sa, .int .u8 sb, .int .u8 dt]] w (RetHap (happT n kd ta sa sb dt) w) := by
  subst _h0
  obtain ⟨m, er, hm⟩ : ∃ m er, loseT n 0 = (m, er) := ⟨_, _, rfl⟩
  obtain ⟨mq, hmq⟩ : ∃ k, m.queue.length = k := ⟨_, rfl⟩
  obtain ⟨ma, hma⟩ : ∃ k, m.apart.length = k := ⟨_, rfl⟩
  rw [hm] at hs
  replace hm := Lib.hid hm
  replace hmq := Lib.hid hmq
  replace hma := Lib.hid hma
  go_enter Try.func27, Try.ntmps27
  go_wp2_with fail
  have hB := (((((Below.refl w.heap.size w).alloc (by simp <;> omega) (.cells #[.slice Aq 0 cq, .slice Aa na ca] 25)).alloc (by simp <;> omega) (.cells #[.int .u8 kd, .int .u8 ta, .int .u8 sa, .int .u8 sb, .int .u8 dt] 52)).alloc (by simp <;> omega) (.cells #[.slice none 0 0, .slice none 0 0] 25)).alloc (by simp <;> omega) (.cells #[.int .i64 0, .int .i64 0, .slice none 0 0] 28))
  have N0 := ((((Box.newAt (w := w) (n := w.heap.size) [.slice Aq 0 cq, .slice Aa na ca] 25 (by simp)).alloc (.cells #[.int .u8 kd, .int .u8 ta, .int .u8 sa, .int .u8 sb, .int .u8 dt] 52)).alloc (.cells #[.slice none 0 0, .slice none 0 0] 25)).alloc (.cells #[.int .i64 0, .int .i64 0, .slice none 0 0] 28))
  have M0 := (((Box.newAt (w := (w.alloc (.cells #[.slice Aq 0 cq, .slice Aa na ca] 25))) (n := w.heap.size + 1) [.int .u8 kd, .int .u8 ta, .int .u8 sa, .int .u8 sb, .int .u8 dt] 52 (by simp)).alloc (.cells #[.slice none 0 0, .slice none 0 0] 25)).alloc (.cells #[.int .i64 0, .int .i64 0, .slice none 0 0] 28))
  have X := ((Box.newAt (w := ((w.alloc (.cells #[.slice Aq 0 cq, .slice Aa na ca] 25)).alloc (.cells #[.int .u8 kd, .int .u8 ta, .int .u8 sa, .int .u8 sb, .int .u8 dt] 52))) (n := w.heap.size + 1 + 1) [.slice none 0 0, .slice none 0 0] 25 (by simp)).alloc (.cells #[.int .i64 0, .int .i64 0, .slice none 0 0] 28))
  have P := (Box.newAt (w := (((w.alloc (.cells #[.slice Aq 0 cq, .slice Aa na ca] 25)).alloc (.cells #[.int .u8 kd, .int .u8 ta, .int .u8 sa, .int .u8 sb, .int .u8 dt] 52)).alloc (.cells #[.slice none 0 0, .slice none 0 0] 25))) (n := w.heap.size + 1 + 1 + 1) [.int .i64 0, .int .i64 0, .slice none 0 0] 28 (by simp))
  generalize ((((w.alloc (.cells #[.slice Aq 0 cq, .slice Aa na ca] 25)).alloc (.cells #[.int .u8 kd, .int .u8 ta, .int .u8 sa, .int .u8 sb, .int .u8 dt] 52)).alloc (.cells #[.slice none 0 0, .slice none 0 0] 25)).alloc (.cells #[.int .i64 0, .int .i64 0, .slice none 0 0] 28)) = w1 at hB N0 M0 X P ⊢
  have M0c0 : w1.cell? ⟨w.heap.size + 1, 0, none⟩ = some (.int .u8 kd) := M0.cell 0
  have M0c1 : w1.cell? ⟨w.heap.size + 1, 1, none⟩ = some (.int .u8 ta) := M0.cell 1
  have M0c2 : w1.cell? ⟨w.heap.size + 1, 2, none⟩ = some (.int .u8 sa) := M0.cell 2
  have M0c3 : w1.cell? ⟨w.heap.size + 1, 3, none⟩ = some (.int .u8 sb) := M0.cell 3
  have M0c4 : w1.cell? ⟨w.heap.size + 1, 4, none⟩ = some (.int .u8 dt) := M0.cell 4
  have M0z : w.heap.size + 1 < w1.heap.size := M0.lt
  go_quiet (fail)
  clear M0c0 M0c1 M0c2 M0c3 M0c4 M0z
  have hB := bel_drewN hB nq
  have N0 := N0.drewN nq
  have M0 := M0.drewN nq
  have X := X.drewN nq
  have P := P.drewN nq
  generalize w1.drewN nq = w2 at hB N0 M0 X P ⊢
  have N0c0 : w2.cell? ⟨w.heap.size, 0, none⟩ = some (.slice Aq 0 cq) := N0.cell 0
  have N0c1 : w2.cell? ⟨w.heap.size, 1, none⟩ = some (.slice Aa na ca) := N0.cell 1
  have N0z : w.heap.size < w2.heap.size := N0.lt
  have M0c0 : w2.cell? ⟨w.heap.size + 1, 0, none⟩ = some (.int .u8 kd) := M0.cell 0
  have M0c1 : w2.cell? ⟨w.heap.size + 1, 1, none⟩ = some (.int .u8 ta) := M0.cell 1
  have M0c2 : w2.cell? ⟨w.heap.size + 1, 2, none⟩ = some (.int .u8 sa) := M0.cell 2
  have M0c3 : w2.cell? ⟨w.heap.size + 1, 3, none⟩ = some (.int .u8 sb) := M0.cell 3
  have M0c4 : w2.cell? ⟨w.heap.size + 1, 4, none⟩ = some (.int .u8 dt) := M0.cell 4
  have M0z : w.heap.size + 1 < w2.heap.size := M0.lt
  go_wp2_with fail
  have hN1 : Hid (NetAt w2 w2.heap.size (.slice Aq 0 cq) (.slice Aa na ca) n) := Lib.hid ((hN.out.below hB).more hB.size)
  refine (nLose_is n 0 hN1).mono ?_
  rintro e w3 hh
  obtain ⟨Aq1, cq1, Aa1, ca1, rfl, hN2, hb⟩ := RetNet.is hh hm hmq hma
  have X := X.later hb
  have P := P.later hb
  have hs2 := hB.size
  have hB := hB.trans (hb.mono hB.size)
  clear hb
  have Xc0 : w3.cell? ⟨w.heap.size + 1 + 1, 0, none⟩ = some (.slice none 0 0) := X.cell 0
  have Xf0 : w3.frozen? ⟨w.heap.size + 1 + 1, 0, none⟩ = false := X.free 0
  have Xc1 : w3.cell? ⟨w.heap.size + 1 + 1, 1, none⟩ = some (.slice none 0 0) := X.cell 1
  have Xf1 : w3.frozen? ⟨w.heap.size + 1 + 1, 1, none⟩ = false := X.free 1
  have Xz : w.heap.size + 1 + 1 < w3.heap.size := X.lt
  have Pc0 : w3.cell? ⟨w.heap.size + 1 + 1 + 1, 0, none⟩ = some (.int .i64 0) := P.cell 0
  have Pf0 : w3.frozen? ⟨w.heap.size + 1 + 1 + 1, 0, none⟩ = false := P.free 0
  have Pc1 : w3.cell? ⟨w.heap.size + 1 + 1 + 1, 1, none⟩ = some (.int .i64 0) := P.cell 1
  have Pf1 : w3.frozen? ⟨w.heap.size + 1 + 1 + 1, 1, none⟩ = false := P.free 1
  have Pc2 : w3.cell? ⟨w.heap.size + 1 + 1 + 1, 2, none⟩ = some (.slice none 0 0) := P.cell 2
  have Pf2 : w3.frozen? ⟨w.heap.size + 1 + 1 + 1, 2, none⟩ = false := P.free 2
  have Pz : w.heap.size + 1 + 1 + 1 < w3.heap.size := P.lt
  go_wp2_with fail
  clear Xc0 Xc1 Xf0 Xf1 Xz Pc0 Pc1 Pc2 Pf0 Pf1 Pf2 Pz
  have hB := ((hB.setCell (p := ⟨w.heap.size + 1 + 1, 0, none⟩) (by simp <;> omega) (.slice Aq1 mq cq1)).setCell (p := ⟨w.heap.size + 1 + 1, 1, none⟩) (by simp <;> omega) (.slice Aa1 ma ca1))
  have hN3 := net_set (B1 := Aq1) (l1 := mq) (d1 := cq1) (B2 := Aa1) (l2 := ma) (d2 := ca1) hN2 X
  have P := ((P.other (a := ⟨w.heap.size + 1 + 1, 0, none⟩) (by simp) (.slice Aq1 mq cq1)).other (a := ⟨w.heap.size + 1 + 1, 1, none⟩) (by simp) (.slice Aa1 ma ca1))
  have X := ((X.set 0 (.slice Aq1 mq cq1)).set 1 (.slice Aa1 ma ca1))
  generalize ((w3.setCell ⟨w.heap.size + 1 + 1, 0, none⟩ (.slice Aq1 mq cq1)).setCell ⟨w.heap.size + 1 + 1, 1, none⟩ (.slice Aa1 ma ca1)) = w4 at hB P X hN3 ⊢
  simp only [List.set_cons_zero, List.set_cons_succ] at X
  have X0 : w4.cell? ⟨w.heap.size + 1 + 1, 0, none⟩ = some (.slice Aq1 mq cq1) := X.cell 0
  have Xf0 : w4.frozen? ⟨w.heap.size + 1 + 1, 0, none⟩ = false := X.free 0
  have X1 : w4.cell? ⟨w.heap.size + 1 + 1, 1, none⟩ = some (.slice Aa1 ma ca1) := X.cell 1
  have Xf1 : w4.frozen? ⟨w.heap.size + 1 + 1, 1, none⟩ = false := X.free 1
  have P0 : w4.cell? ⟨w.heap.size + 1 + 1 + 1, 0, none⟩ = some (.int .i64 0) := P.cell 0
  have Pf0 : w4.frozen? ⟨w.heap.size + 1 + 1 + 1, 0, none⟩ = false := P.free 0
  have P1 : w4.cell? ⟨w.heap.size + 1 + 1 + 1, 1, none⟩ = some (.int .i64 0) := P.cell 1
  have Pf1 : w4.frozen? ⟨w.heap.size + 1 + 1 + 1, 1, none⟩ = false := P.free 1
  have P2 : w4.cell? ⟨w.heap.size + 1 + 1 + 1, 2, none⟩ = some (.slice none 0 0) := P.cell 2
  have Pf2 : w4.frozen? ⟨w.heap.size + 1 + 1 + 1, 2, none⟩ = false := P.free 2
  have Xz := X.lt
  have Pz := P.lt
  go_region
  go_wp2
  have hE : (((((w4.setCell ⟨w.heap.size + 1 + 1, 0, none⟩ (.slice Aq1 mq cq1)).setCell ⟨w.heap.size + 1 + 1, 1, none⟩ (.slice Aa1 ma ca1)).setCell ⟨w.heap.size + 1 + 1 + 1, 0, none⟩ (.int .i64 0)).setCell ⟨w.heap.size + 1 + 1 + 1, 1, none⟩ (.int .i64 0)).setCell ⟨w.heap.size + 1 + 1 + 1, 2, none⟩ (.slice none 0 0)) = w4 := by rw [setCell_same X (i := 0) rfl, setCell_same X (i := 1) rfl, setCell_same P (i := 0) rfl, setCell_same P (i := 1) rfl, setCell_same P (i := 2) rfl]
  rw [hE]
  refine bodyPost_ret (v := .tuple #[.agg #[.slice Aq1 mq cq1, .slice Aa1 ma ca1], .agg #[.int .i64 0, .int .i64 0, .slice none 0 0], .int .i64 er]) (by simp [results, Try.results27, go_sem, X0, X1, P0, P1, P2]) rfl ?_
  exact ⟨_, _, _, m, Pk.zero, er, rfl, hs.out, hN3.out.below (Below.refl _ _).drew, bytesAt_nil _ _, hB.drew⟩

set_option maxRecDepth 100000 in
set_option maxHeartbeats 4000000 in
theorem nHap_3 (n : Net) (Aq : Option Addr) (ql cq : Nat) (Aa : Option Addr) (na ca : Nat) (kd ta sa sb dt : Int) (w : World) (hN : Hid (NetAt w w.heap.size (.slice Aq ql cq) (.slice Aa na ca) n)) (hk : kd % 6 = 3) (h1 : 0 ≤ kd) (h2 : kd ≤ 255) (_h3 : 0 ≤ ta) (_h4 : ta ≤ 255) (_h5 : 0 ≤ sa) (_h6 : sa ≤ 255) (_h7 : 0 ≤ sb) (_h8 : sb ≤ 255) (_h9 : 0 ≤ dt) (_h10 : dt ≤ 255) (_h11 : (ql : Int) ≤ 9223372036854775807) (_h0 : (0 : Int) < (ql : Int)) (at0 : Int) (_hat : ta % (ql : Int) = at0) (hs : Hid (happT n kd ta sa sb dt = ((repeatT n at0).1, Pk.zero, (repeatT n at0).2))) :
    Calls Try.prog 27 #[.agg #[.slice Aq ql cq, .slice Aa na ca], .agg #[.int .u8 kd, .int .u8 ta, .int .u8 sa, .int .u8 sb, .int .u8 dt]] w (RetHap (happT n kd ta sa sb dt) w) := by
  obtain ⟨m, er, hm⟩ : ∃ m er, repeatT n at0 = (m, er) := ⟨_, _, rfl⟩
  obtain ⟨mq, hmq⟩ : ∃ k, m.queue.length = k := ⟨_, rfl⟩
  obtain ⟨ma, hma⟩ : ∃ k, m.apart.length = k := ⟨_, rfl⟩
  rw [hm] at hs
  replace hm := Lib.hid hm
  replace hmq := Lib.hid hmq
  replace hma := Lib.hid hma
  go_enter Try.func27, Try.ntmps27
  go_wp2_with fail
  have hB := (((((Below.refl w.heap.size w).alloc (by simp <;> omega) (.cells #[.slice Aq ql cq, .slice Aa na ca] 25)).alloc (by simp <;> omega) (.cells #[.int .u8 kd, .int .u8 ta, .int .u8 sa, .int .u8 sb, .int .u8 dt] 52)).alloc (by simp <;> omega) (.cells #[.slice none 0 0, .slice none 0 0] 25)).alloc (by simp <;> omega) (.cells #[.int .i64 0, .int .i64 0, .slice none 0 0] 28))
  have N0 := ((((Box.newAt (w := w) (n := w.heap.size) [.slice Aq ql cq, .slice Aa na ca] 25 (by simp)).alloc (.cells #[.int .u8 kd, .int .u8 ta, .int .u8 sa, .int .u8 sb, .int .u8 dt] 52)).alloc (.cells #[.slice none 0 0, .slice none 0 0] 25)).alloc (.cells #[.int .i64 0, .int .i64 0, .slice none 0 0] 28))
  have M0 := (((Box.newAt (w := (w.alloc (.cells #[.slice Aq ql cq, .slice Aa na ca] 25))) (n := w.heap.size + 1) [.int .u8 kd, .int .u8 ta, .int .u8 sa, .int .u8 sb, .int .u8 dt] 52 (by simp)).alloc (.cells #[.slice none 0 0, .slice none 0 0] 25)).alloc (.cells #[.int .i64 0, .int .i64 0, .slice none 0 0] 28))
  have X := ((Box.newAt (w := ((w.alloc (.cells #[.slice Aq ql cq, .slice Aa na ca] 25)).alloc (.cells #[.int .u8 kd, .int .u8 ta, .int .u8 sa, .int .u8 sb, .int .u8 dt] 52))) (n := w.heap.size + 1 + 1) [.slice none 0 0, .slice none 0 0] 25 (by simp)).alloc (.cells #[.int .i64 0, .int .i64 0, .slice none 0 0] 28))
  have P := (Box.newAt (w := (((w.alloc (.cells #[.slice Aq ql cq, .slice Aa na ca] 25)).alloc (.cells #[.int .u8 kd, .int .u8 ta, .int .u8 sa, .int .u8 sb, .int .u8 dt] 52)).alloc (.cells #[.slice none 0 0, .slice none 0 0] 25))) (n := w.heap.size + 1 + 1 + 1) [.int .i64 0, .int .i64 0, .slice none 0 0] 28 (by simp))
  generalize ((((w.alloc (.cells #[.slice Aq ql cq, .slice Aa na ca] 25)).alloc (.cells #[.int .u8 kd, .int .u8 ta, .int .u8 sa, .int .u8 sb, .int .u8 dt] 52)).alloc (.cells #[.slice none 0 0, .slice none 0 0] 25)).alloc (.cells #[.int .i64 0, .int .i64 0, .slice none 0 0] 28)) = w1 at hB N0 M0 X P ⊢
  have M0c0 : w1.cell? ⟨w.heap.size + 1, 0, none⟩ = some (.int .u8 kd) := M0.cell 0
  have M0c1 : w1.cell? ⟨w.heap.size + 1, 1, none⟩ = some (.int .u8 ta) := M0.cell 1
  have M0c2 : w1.cell? ⟨w.heap.size + 1, 2, none⟩ = some (.int .u8 sa) := M0.cell 2
  have M0c3 : w1.cell? ⟨w.heap.size + 1, 3, none⟩ = some (.int .u8 sb) := M0.cell 3
  have M0c4 : w1.cell? ⟨w.heap.size + 1, 4, none⟩ = some (.int .u8 dt) := M0.cell 4
  have M0z : w.heap.size + 1 < w1.heap.size := M0.lt
  go_quiet (fail)
  clear M0c0 M0c1 M0c2 M0c3 M0c4 M0z
  have hB := bel_drewN hB nq
  have N0 := N0.drewN nq
  have M0 := M0.drewN nq
  have X := X.drewN nq
  have P := P.drewN nq
  generalize w1.drewN nq = w2 at hB N0 M0 X P ⊢
  have N0c0 : w2.cell? ⟨w.heap.size, 0, none⟩ = some (.slice Aq ql cq) := N0.cell 0
  have N0c1 : w2.cell? ⟨w.heap.size, 1, none⟩ = some (.slice Aa na ca) := N0.cell 1
  have N0z : w.heap.size < w2.heap.size := N0.lt
  have M0c0 : w2.cell? ⟨w.heap.size + 1, 0, none⟩ = some (.int .u8 kd) := M0.cell 0
  have M0c1 : w2.cell? ⟨w.heap.size + 1, 1, none⟩ = some (.int .u8 ta) := M0.cell 1
  have M0c2 : w2.cell? ⟨w.heap.size + 1, 2, none⟩ = some (.int .u8 sa) := M0.cell 2
  have M0c3 : w2.cell? ⟨w.heap.size + 1, 3, none⟩ = some (.int .u8 sb) := M0.cell 3
  have M0c4 : w2.cell? ⟨w.heap.size + 1, 4, none⟩ = some (.int .u8 dt) := M0.cell 4
  have M0z : w.heap.size + 1 < w2.heap.size := M0.lt
  go_wp2_with fail
  have hN1 : Hid (NetAt w2 w2.heap.size (.slice Aq ql cq) (.slice Aa na ca) n) := Lib.hid ((hN.out.below hB).more hB.size)
  refine (nRepeat_is n at0 hN1).mono ?_
  rintro e w3 hh
  obtain ⟨Aq1, cq1, Aa1, ca1, rfl, hN2, hb⟩ := RetNet.is hh hm hmq hma
  have X := X.later hb
  have P := P.later hb
  have hs2 := hB.size
  have hB := hB.trans (hb.mono hB.size)
  clear hb
  have Xc0 : w3.cell? ⟨w.heap.size + 1 + 1, 0, none⟩ = some (.slice none 0 0) := X.cell 0
  have Xf0 : w3.frozen? ⟨w.heap.size + 1 + 1, 0, none⟩ = false := X.free 0
  have Xc1 : w3.cell? ⟨w.heap.size + 1 + 1, 1, none⟩ = some (.slice none 0 0) := X.cell 1
  have Xf1 : w3.frozen? ⟨w.heap.size + 1 + 1, 1, none⟩ = false := X.free 1
  have Xz : w.heap.size + 1 + 1 < w3.heap.size := X.lt
  have Pc0 : w3.cell? ⟨w.heap.size + 1 + 1 + 1, 0, none⟩ = some (.int .i64 0) := P.cell 0
  have Pf0 : w3.frozen? ⟨w.heap.size + 1 + 1 + 1, 0, none⟩ = false := P.free 0
  have Pc1 : w3.cell? ⟨w.heap.size + 1 + 1 + 1, 1, none⟩ = some (.int .i64 0) := P.cell 1
  have Pf1 : w3.frozen? ⟨w.heap.size + 1 + 1 + 1, 1, none⟩ = false := P.free 1
  have Pc2 : w3.cell? ⟨w.heap.size + 1 + 1 + 1, 2, none⟩ = some (.slice none 0 0) := P.cell 2
  have Pf2 : w3.frozen? ⟨w.heap.size + 1 + 1 + 1, 2, none⟩ = false := P.free 2
  have Pz : w.heap.size + 1 + 1 + 1 < w3.heap.size := P.lt
  go_wp2_with fail
  clear Xc0 Xc1 Xf0 Xf1 Xz Pc0 Pc1 Pc2 Pf0 Pf1 Pf2 Pz
  have hB := ((hB.setCell (p := ⟨w.heap.size + 1 + 1, 0, none⟩) (by simp <;> omega) (.slice Aq1 mq cq1)).setCell (p := ⟨w.heap.size + 1 + 1, 1, none⟩) (by simp <;> omega) (.slice Aa1 ma ca1))
  have hN3 := net_set (B1 := Aq1) (l1 := mq) (d1 := cq1) (B2 := Aa1) (l2 := ma) (d2 := ca1) hN2 X
  have P := ((P.other (a := ⟨w.heap.size + 1 + 1, 0, none⟩) (by simp) (.slice Aq1 mq cq1)).other (a := ⟨w.heap.size + 1 + 1, 1, none⟩) (by simp) (.slice Aa1 ma ca1))
  have X := ((X.set 0 (.slice Aq1 mq cq1)).set 1 (.slice Aa1 ma ca1))
  generalize ((w3.setCell ⟨w.heap.size + 1 + 1, 0, none⟩ (.slice Aq1 mq cq1)).setCell ⟨w.heap.size + 1 + 1, 1, none⟩ (.slice Aa1 ma ca1)) = w4 at hB P X hN3 ⊢
  simp only [List.set_cons_zero, List.set_cons_succ] at X
  have X0 : w4.cell? ⟨w.heap.size + 1 + 1, 0, none⟩ = some (.slice Aq1 mq cq1) := X.cell 0
  have Xf0 : w4.frozen? ⟨w.heap.size + 1 + 1, 0, none⟩ = false := X.free 0
  have X1 : w4.cell? ⟨w.heap.size + 1 + 1, 1, none⟩ = some (.slice Aa1 ma ca1) := X.cell 1
  have Xf1 : w4.frozen? ⟨w.heap.size + 1 + 1, 1, none⟩ = false := X.free 1
  have P0 : w4.cell? ⟨w.heap.size + 1 + 1 + 1, 0, none⟩ = some (.int .i64 0) := P.cell 0
  have Pf0 : w4.frozen? ⟨w.heap.size + 1 + 1 + 1, 0, none⟩ = false := P.free 0
  have P1 : w4.cell? ⟨w.heap.size + 1 + 1 + 1, 1, none⟩ = some (.int .i64 0) := P.cell 1
  have Pf1 : w4.frozen? ⟨w.heap.size + 1 + 1 + 1, 1, none⟩ = false := P.free 1
  have P2 : w4.cell? ⟨w.heap.size + 1 + 1 + 1, 2, none⟩ = some (.slice none 0 0) := P.cell 2
  have Pf2 : w4.frozen? ⟨w.heap.size + 1 + 1 + 1, 2, none⟩ = false := P.free 2
  have Xz := X.lt
  have Pz := P.lt
  go_region
  go_wp2
  have hE : (((((w4.setCell ⟨w.heap.size + 1 + 1, 0, none⟩ (.slice Aq1 mq cq1)).setCell ⟨w.heap.size + 1 + 1, 1, none⟩ (.slice Aa1 ma ca1)).setCell ⟨w.heap.size + 1 + 1 + 1, 0, none⟩ (.int .i64 0)).setCell ⟨w.heap.size + 1 + 1 + 1, 1, none⟩ (.int .i64 0)).setCell ⟨w.heap.size + 1 + 1 + 1, 2, none⟩ (.slice none 0 0)) = w4 := by rw [setCell_same X (i := 0) rfl, setCell_same X (i := 1) rfl, setCell_same P (i := 0) rfl, setCell_same P (i := 1) rfl, setCell_same P (i := 2) rfl]
  rw [hE]
  refine bodyPost_ret (v := .tuple #[.agg #[.slice Aq1 mq cq1, .slice Aa1 ma ca1], .agg #[.int .i64 0, .int .i64 0, .slice none 0 0], .int .i64 er]) (by simp [results, Try.results27, go_sem, X0, X1, P0, P1, P2]) rfl ?_
  exact ⟨_, _, _, m, Pk.zero, er, rfl, hs.out, hN3.out.below (Below.refl _ _).drew, bytesAt_nil _ _, hB.drew⟩

set_option maxRecDepth 100000 in
set_option maxHeartbeats 4000000 in
theorem nHap_3z (n : Net) (Aq : Option Addr) (ql cq : Nat) (Aa : Option Addr) (na ca : Nat) (kd ta sa sb dt : Int) (w : World) (hN : Hid (NetAt w w.heap.size (.slice Aq ql cq) (.slice Aa na ca) n)) (hk : kd % 6 = 3) (h1 : 0 ≤ kd) (h2 : kd ≤ 255) (_h3 : 0 ≤ ta) (_h4 : ta ≤ 255) (_h5 : 0 ≤ sa) (_h6 : sa ≤ 255) (_h7 : 0 ≤ sb) (_h8 : sb ≤ 255) (_h9 : 0 ≤ dt) (_h10 : dt ≤ 255) (_h11 : (ql : Int) ≤ 9223372036854775807) (_h0 : ql = 0) (hs : Hid (happT n kd ta sa sb dt = ((repeatT n 0).1, Pk.zero, (repeatT n 0).2))) :
    Calls Try.prog 27 #[.agg #[.slice Aq ql cq, .slice Aa na ca], .agg #[.int .u8 kd, .int .u8 ta, .int .u8 sa, .int .u8 sb, .int .u8 dt]] w (RetHap (happT n kd ta sa sb dt) w) := by
  subst _h0
  obtain ⟨m, er, hm⟩ : ∃ m er, repeatT n 0 = (m, er) := ⟨_, _, rfl⟩
  obtain ⟨mq, hmq⟩ : ∃ k, m.queue.length = k := ⟨_, rfl⟩
  obtain ⟨ma, hma⟩ : ∃ k, m.apart.length = k := ⟨_, rfl⟩
  rw [hm] at hs
  replace hm := Lib.hid hm
  replace hmq := Lib.hid hmq
  replace hma := Lib.hid hma
  go_enter Try.func27, Try.ntmps27
  go_wp2_with fail
  have hB := (((((Below.refl w.heap.size w).alloc (by simp <;> omega) (.cells #[.slice Aq 0 cq, .slice Aa na ca] 25)).alloc (by simp <;> omega) (.cells #[.int .u8 kd, .int .u8 ta, .int .u8 sa, .int .u8 sb, .int .u8 dt] 52)).alloc (by simp <;> omega) (.cells #[.slice none 0 0, .slice none 0 0] 25)).alloc (by simp <;> omega) (.cells #[.int .i64 0, .int .i64 0, .slice none 0 0] 28))
  have N0 := ((((Box.newAt (w := w) (n := w.heap.size) [.slice Aq 0 cq, .slice Aa na ca] 25 (by simp)).alloc (.cells #[.int .u8 kd, .int .u8 ta, .int .u8 sa, .int .u8 sb, .int .u8 dt] 52)).alloc (.cells #[.slice none 0 0, .slice none 0 0] 25)).alloc (.cells #[.int .i64 0, .int .i64 0, .slice none 0 0] 28))
  have M0 := (((Box.newAt (w := (w.alloc (.cells #[.slice Aq 0 cq, .slice Aa na ca] 25))) (n := w.heap.size + 1) [.int .u8 kd, .int .u8 ta, .int .u8 sa, .int .u8 sb, .int .u8 dt] 52 (by simp)).alloc (.cells #[.slice none 0 0, .slice none 0 0] 25)).alloc (.cells #[.int .i64 0, .int .i64 0, .slice none 0 0] 28))
  have X := ((Box.newAt (w := ((w.alloc (.cells #[.slice Aq 0 cq, .slice Aa na ca] 25)).alloc (.cells #[.int .u8 kd, .int .u8 ta, .int .u8 sa, .int .u8 sb, .int .u8 dt] 52))) (n := w.heap.size + 1 + 1) [.slice none 0 0, .slice none 0 0] 25 (by simp)).alloc (.cells #[.int .i64 0, .int .i64 0, .slice none 0 0] 28))
  have P := (Box.newAt (w := (((w.alloc (.cells #[.slice Aq 0 cq, .slice Aa na ca] 25)).alloc (.cells #[.int .u8 kd, .int .u8 ta, .int .u8 sa, .int .u8 sb, .int .u8 dt] 52)).alloc (.cells #[.slice none 0 0, .slice none 0 0] 25))) (n := w.heap.size + 1 + 1 + 1) [.int .i64 0, .int .i64 0, .slice none 0 0] 28 (by simp))
  generalize ((((w.alloc (.cells #[.slice Aq 0 cq, .slice Aa na ca] 25)).alloc (.cells #[.int .u8 kd, .int .u8 ta, .int .u8 sa, .int .u8 sb, .int .u8 dt] 52)).alloc (.cells #[.slice none 0 0, .slice none 0 0] 25)).alloc (.cells #[.int .i64 0, .int .i64 0, .slice none 0 0] 28)) = w1 at hB N0 M0 X P ⊢
  have M0c0 : w1.cell? ⟨w.heap.size + 1, 0, none⟩ = some (.int .u8 kd) := M0.cell 0
  have M0c1 : w1.cell? ⟨w.heap.size + 1, 1, none⟩ = some (.int .u8 ta) := M0.cell 1
  have M0c2 : w1.cell? ⟨w.heap.size + 1, 2, none⟩ = some (.int .u8 sa) := M0.cell 2
  have M0c3 : w1.cell? ⟨w.heap.size + 1, 3, none⟩ = some (.int .u8 sb) := M0.cell 3
  have M0c4 : w1.cell? ⟨w.heap.size + 1, 4, none⟩ = some (.int .u8 dt) := M0.cell 4
  have M0z : w.heap.size + 1 < w1.heap.size := M0.lt
  go_quiet (fail)
  clear M0c0 M0c1 M0c2 M0c3 M0c4 M0z
  have hB := bel_drewN hB nq
  have N0 := N0.drewN nq
  have M0 := M0.drewN nq
  have X := X.drewN nq
  have P := P.drewN nq
  generalize w1.drewN nq = w2 at hB N0 M0 X P ⊢
  have N0c0 : w2.cell? ⟨w.heap.size, 0, none⟩ = some (.slice Aq 0 cq) := N0.cell 0
  have N0c1 : w2.cell? ⟨w.heap.size, 1, none⟩ = some (.slice Aa na ca) := N0.cell 1
  have N0z : w.heap.size < w2.heap.size := N0.lt
  have M0c0 : w2.cell? ⟨w.heap.size + 1, 0, none⟩ = some (.int .u8 kd) := M0.cell 0
  have M0c1 : w2.cell? ⟨w.heap.size + 1, 1, none⟩ = some (.int .u8 ta) := M0.cell 1
  have M0c2 : w2.cell? ⟨w.heap.size + 1, 2, none⟩ = some (.int .u8 sa) := M0.cell 2
  have M0c3 : w2.cell? ⟨w.heap.size + 1, 3, none⟩ = some (.int .u8 sb) := M0.cell 3
  have M0c4 : w2.cell? ⟨w.heap.size + 1, 4, none⟩ = some (.int .u8 dt) := M0.cell 4
  have M0z : w.heap.size + 1 < w2.heap.size := M0.lt
  go_wp2_with fail
  have hN1 : Hid (NetAt w2 w2.heap.size (.slice Aq 0 cq) (.slice Aa na ca) n) := Lib.hid ((hN.out.below hB).more hB.size)
  refine (nRepeat_is n 0 hN1).mono ?_
  rintro e w3 hh
  obtain ⟨Aq1, cq1, Aa1, ca1, rfl, hN2, hb⟩ := RetNet.is hh hm hmq hma
  have X := X.later hb
  have P := P.later hb
  have hs2 := hB.size
  have hB := hB.trans (hb.mono hB.size)
  clear hb
  have Xc0 : w3.cell? ⟨w.heap.size + 1 + 1, 0, none⟩ = some (.slice none 0 0) := X.cell 0
  have Xf0 : w3.frozen? ⟨w.heap.size + 1 + 1, 0, none⟩ = false := X.free 0
  have Xc1 : w3.cell? ⟨w.heap.size + 1 + 1, 1, none⟩ = some (.slice none 0 0) := X.cell 1
  have Xf1 : w3.frozen? ⟨w.heap.size + 1 + 1, 1, none⟩ = false := X.free 1
  have Xz : w.heap.size + 1 + 1 < w3.heap.size := X.lt
  have Pc0 : w3.cell? ⟨w.heap.size + 1 + 1 + 1, 0, none⟩ = some (.int .i64 0) := P.cell 0
  have Pf0 : w3.frozen? ⟨w.heap.size + 1 + 1 + 1, 0, none⟩ = false := P.free 0
  have Pc1 : w3.cell? ⟨w.heap.size + 1 + 1 + 1, 1, none⟩ = some (.int .i64 0) := P.cell 1
  have Pf1 : w3.frozen? ⟨w.heap.size + 1 + 1 + 1, 1, none⟩ = false := P.free 1
  have Pc2 : w3.cell? ⟨w.heap.size + 1 + 1 + 1, 2, none⟩ = some (.slice none 0 0) := P.cell 2
  have Pf2 : w3.frozen? ⟨w.heap.size + 1 + 1 + 1, 2, none⟩ = false := P.free 2
  have Pz : w.heap.size + 1 + 1 + 1 < w3.heap.size := P.lt
  go_wp2_with fail
  clear Xc0 Xc1 Xf0 Xf1 Xz Pc0 Pc1 Pc2 Pf0 Pf1 Pf2 Pz
  have hB := ((hB.setCell (p := ⟨w.heap.size + 1 + 1, 0, none⟩) (by simp <;> omega) (.slice Aq1 mq cq1)).setCell (p := ⟨w.heap.size + 1 + 1, 1, none⟩) (by simp <;> omega) (.slice Aa1 ma ca1))
  have hN3 := net_set (B1 := Aq1) (l1 := mq) (d1 := cq1) (B2 := Aa1) (l2 := ma) (d2 := ca1) hN2 X
  have P := ((P.other (a := ⟨w.heap.size + 1 + 1, 0, none⟩) (by simp) (.slice Aq1 mq cq1)).other (a := ⟨w.heap.size + 1 + 1, 1, none⟩) (by simp) (.slice Aa1 ma ca1))
  have X := ((X.set 0 (.slice Aq1 mq cq1)).set 1 (.slice Aa1 ma ca1))
  generalize ((w3.setCell ⟨w.heap.size + 1 + 1, 0, none⟩ (.slice Aq1 mq cq1)).setCell ⟨w.heap.size + 1 + 1, 1, none⟩ (.slice Aa1 ma ca1)) = w4 at hB P X hN3 ⊢
  simp only [List.set_cons_zero, List.set_cons_succ] at X
  have X0 : w4.cell? ⟨w.heap.size + 1 + 1, 0, none⟩ = some (.slice Aq1 mq cq1) := X.cell 0
  have Xf0 : w4.frozen? ⟨w.heap.size + 1 + 1, 0, none⟩ = false := X.free 0
  have X1 : w4.cell? ⟨w.heap.size + 1 + 1, 1, none⟩ = some (.slice Aa1 ma ca1) := X.cell 1
  have Xf1 : w4.frozen? ⟨w.heap.size + 1 + 1, 1, none⟩ = false := X.free 1
  have P0 : w4.cell? ⟨w.heap.size + 1 + 1 + 1, 0, none⟩ = some (.int .i64 0) := P.cell 0
  have Pf0 : w4.frozen? ⟨w.heap.size + 1 + 1 + 1, 0, none⟩ = false := P.free 0
  have P1 : w4.cell? ⟨w.heap.size + 1 + 1 + 1, 1, none⟩ = some (.int .i64 0) := P.cell 1
  have Pf1 : w4.frozen? ⟨w.heap.size + 1 + 1 + 1, 1, none⟩ = false := P.free 1
  have P2 : w4.cell? ⟨w.heap.size + 1 + 1 + 1, 2, none⟩ = some (.slice none 0 0) := P.cell 2
  have Pf2 : w4.frozen? ⟨w.heap.size + 1 + 1 + 1, 2, none⟩ = false := P.free 2
  have Xz := X.lt
  have Pz := P.lt
  go_region
  go_wp2
  have hE : (((((w4.setCell ⟨w.heap.size + 1 + 1, 0, none⟩ (.slice Aq1 mq cq1)).setCell ⟨w.heap.size + 1 + 1, 1, none⟩ (.slice Aa1 ma ca1)).setCell ⟨w.heap.size + 1 + 1 + 1, 0, none⟩ (.int .i64 0)).setCell ⟨w.heap.size + 1 + 1 + 1, 1, none⟩ (.int .i64 0)).setCell ⟨w.heap.size + 1 + 1 + 1, 2, none⟩ (.slice none 0 0)) = w4 := by rw [setCell_same X (i := 0) rfl, setCell_same X (i := 1) rfl, setCell_same P (i := 0) rfl, setCell_same P (i := 1) rfl, setCell_same P (i := 2) rfl]
  rw [hE]
  refine bodyPost_ret (v := .tuple #[.agg #[.slice Aq1 mq cq1, .slice Aa1 ma ca1], .agg #[.int .i64 0, .int .i64 0, .slice none 0 0], .int .i64 er]) (by simp [results, Try.results27, go_sem, X0, X1, P0, P1, P2]) rfl ?_
  exact ⟨_, _, _, m, Pk.zero, er, rfl, hs.out, hN3.out.below (Below.refl _ _).drew, bytesAt_nil _ _, hB.drew⟩

set_option maxRecDepth 100000 in
set_option maxHeartbeats 4000000 in
theorem nHap_4 (n : Net) (Aq : Option Addr) (ql cq : Nat) (Aa : Option Addr) (na ca : Nat) (kd ta sa sb dt : Int) (w : World) (hN : Hid (NetAt w w.heap.size (.slice Aq ql cq) (.slice Aa na ca) n)) (hk : kd % 6 = 4) (h1 : 0 ≤ kd) (h2 : kd ≤ 255) (_h3 : 0 ≤ ta) (_h4 : ta ≤ 255) (_h5 : 0 ≤ sa) (_h6 : sa ≤ 255) (_h7 : 0 ≤ sb) (_h8 : sb ≤ 255) (_h9 : 0 ≤ dt) (_h10 : dt ≤ 255) (_h11 : (ql : Int) ≤ 9223372036854775807) (_h0 : (0 : Int) < (ql : Int)) (at0 : Int) (_hat : ta % (ql : Int) = at0) (hs : Hid (happT n kd ta sa sb dt = ((cutT n (sa % 24) (sb % 24) true).1, Pk.zero, (cutT n (sa % 24) (sb % 24) true).2))) :
    Calls Try.prog 27 #[.agg #[.slice Aq ql cq, .slice Aa na ca], .agg #[.int .u8 kd, .int .u8 ta, .int .u8 sa, .int .u8 sb, .int .u8 dt]] w (RetHap (happT n kd ta sa sb dt) w) := by
  obtain ⟨m, er, hm⟩ : ∃ m er, cutT n (sa % 24) (sb % 24) true = (m, er) := ⟨_, _, rfl⟩
  obtain ⟨mq, hmq⟩ : ∃ k, m.queue.length = k := ⟨_, rfl⟩
  obtain ⟨ma, hma⟩ : ∃ k, m.apart.length = k := ⟨_, rfl⟩
  rw [hm] at hs
  replace hm := Lib.hid hm
  replace hmq := Lib.hid hmq
  replace hma := Lib.hid hma
  go_enter Try.func27, Try.ntmps27
  go_wp2_with fail
  have hB := (((((Below.refl w.heap.size w).alloc (by simp <;> omega) (.cells #[.slice Aq ql cq, .slice Aa na ca] 25)).alloc (by simp <;> omega) (.cells #[.int .u8 kd, .int .u8 ta, .int .u8 sa, .int .u8 sb, .int .u8 dt] 52)).alloc (by simp <;> omega) (.cells #[.slice none 0 0, .slice none 0 0] 25)).alloc (by simp <;> omega) (.cells #[.int .i64 0, .int .i64 0, .slice none 0 0] 28))
  have N0 := ((((Box.newAt (w := w) (n := w.heap.size) [.slice Aq ql cq, .slice Aa na ca] 25 (by simp)).alloc (.cells #[.int .u8 kd, .int .u8 ta, .int .u8 sa, .int .u8 sb, .int .u8 dt] 52)).alloc (.cells #[.slice none 0 0, .slice none 0 0] 25)).alloc (.cells #[.int .i64 0, .int .i64 0, .slice none 0 0] 28))
  have M0 := (((Box.newAt (w := (w.alloc (.cells #[.slice Aq ql cq, .slice Aa na ca] 25))) (n := w.heap.size + 1) [.int .u8 kd, .int .u8 ta, .int .u8 sa, .int .u8 sb, .int .u8 dt] 52 (by simp)).alloc (.cells #[.slice none 0 0, .slice none 0 0] 25)).alloc (.cells #[.int .i64 0, .int .i64 0, .slice none 0 0] 28))
  have X := ((Box.newAt (w := ((w.alloc (.cells #[.slice Aq ql cq, .slice Aa na ca] 25)).alloc (.cells #[.int .u8 kd, .int .u8 ta, .int .u8 sa, .int .u8 sb, .int .u8 dt] 52))) (n := w.heap.size + 1 + 1) [.slice none 0 0, .slice none 0 0] 25 (by simp)).alloc (.cells #[.int .i64 0, .int .i64 0, .slice none 0 0] 28))
  have P := (Box.newAt (w := (((w.alloc (.cells #[.slice Aq ql cq, .slice Aa na ca] 25)).alloc (.cells #[.int .u8 kd, .int .u8 ta, .int .u8 sa, .int .u8 sb, .int .u8 dt] 52)).alloc (.cells #[.slice none 0 0, .slice none 0 0] 25))) (n := w.heap.size + 1 + 1 + 1) [.int .i64 0, .int .i64 0, .slice none 0 0] 28 (by simp))
  generalize ((((w.alloc (.cells #[.slice Aq ql cq, .slice Aa na ca] 25)).alloc (.cells #[.int .u8 kd, .int .u8 ta, .int .u8 sa, .int .u8 sb, .int .u8 dt] 52)).alloc (.cells #[.slice none 0 0, .slice none 0 0] 25)).alloc (.cells #[.int .i64 0, .int .i64 0, .slice none 0 0] 28)) = w1 at hB N0 M0 X P ⊢
  have M0c0 : w1.cell? ⟨w.heap.size + 1, 0, none⟩ = some (.int .u8 kd) := M0.cell 0
  have M0c1 : w1.cell? ⟨w.heap.size + 1, 1, none⟩ = some (.int .u8 ta) := M0.cell 1
  have M0c2 : w1.cell? ⟨w.heap.size + 1, 2, none⟩ = some (.int .u8 sa) := M0.cell 2
  have M0c3 : w1.cell? ⟨w.heap.size + 1, 3, none⟩ = some (.int .u8 sb) := M0.cell 3
  have M0c4 : w1.cell? ⟨w.heap.size + 1, 4, none⟩ = some (.int .u8 dt) := M0.cell 4
  have M0z : w.heap.size + 1 < w1.heap.size := M0.lt
  go_quiet (fail)
  clear M0c0 M0c1 M0c2 M0c3 M0c4 M0z
  have hB := bel_drewN hB nq
  have N0 := N0.drewN nq
  have M0 := M0.drewN nq
  have X := X.drewN nq
  have P := P.drewN nq
  generalize w1.drewN nq = w2 at hB N0 M0 X P ⊢
  have N0c0 : w2.cell? ⟨w.heap.size, 0, none⟩ = some (.slice Aq ql cq) := N0.cell 0
  have N0c1 : w2.cell? ⟨w.heap.size, 1, none⟩ = some (.slice Aa na ca) := N0.cell 1
  have N0z : w.heap.size < w2.heap.size := N0.lt
  have M0c0 : w2.cell? ⟨w.heap.size + 1, 0, none⟩ = some (.int .u8 kd) := M0.cell 0
  have M0c1 : w2.cell? ⟨w.heap.size + 1, 1, none⟩ = some (.int .u8 ta) := M0.cell 1
  have M0c2 : w2.cell? ⟨w.heap.size + 1, 2, none⟩ = some (.int .u8 sa) := M0.cell 2
  have M0c3 : w2.cell? ⟨w.heap.size + 1, 3, none⟩ = some (.int .u8 sb) := M0.cell 3
  have M0c4 : w2.cell? ⟨w.heap.size + 1, 4, none⟩ = some (.int .u8 dt) := M0.cell 4
  have M0z : w.heap.size + 1 < w2.heap.size := M0.lt
  go_wp2_with fail
  have hN1 : Hid (NetAt w2 w2.heap.size (.slice Aq ql cq) (.slice Aa na ca) n) := Lib.hid ((hN.out.below hB).more hB.size)
  refine (nCut_is n (sa % 24) (sb % 24) true hN1).mono ?_
  rintro e w3 hh
  obtain ⟨Aq1, cq1, Aa1, ca1, rfl, hN2, hb⟩ := RetNet.is hh hm hmq hma
  have X := X.later hb
  have P := P.later hb
  have hs2 := hB.size
  have hB := hB.trans (hb.mono hB.size)
  clear hb
  have Xc0 : w3.cell? ⟨w.heap.size + 1 + 1, 0, none⟩ = some (.slice none 0 0) := X.cell 0
  have Xf0 : w3.frozen? ⟨w.heap.size + 1 + 1, 0, none⟩ = false := X.free 0
  have Xc1 : w3.cell? ⟨w.heap.size + 1 + 1, 1, none⟩ = some (.slice none 0 0) := X.cell 1
  have Xf1 : w3.frozen? ⟨w.heap.size + 1 + 1, 1, none⟩ = false := X.free 1
  have Xz : w.heap.size + 1 + 1 < w3.heap.size := X.lt
  have Pc0 : w3.cell? ⟨w.heap.size + 1 + 1 + 1, 0, none⟩ = some (.int .i64 0) := P.cell 0
  have Pf0 : w3.frozen? ⟨w.heap.size + 1 + 1 + 1, 0, none⟩ = false := P.free 0
  have Pc1 : w3.cell? ⟨w.heap.size + 1 + 1 + 1, 1, none⟩ = some (.int .i64 0) := P.cell 1
  have Pf1 : w3.frozen? ⟨w.heap.size + 1 + 1 + 1, 1, none⟩ = false := P.free 1
  have Pc2 : w3.cell? ⟨w.heap.size + 1 + 1 + 1, 2, none⟩ = some (.slice none 0 0) := P.cell 2
  have Pf2 : w3.frozen? ⟨w.heap.size + 1 + 1 + 1, 2, none⟩ = false := P.free 2
  have Pz : w.heap.size + 1 + 1 + 1 < w3.heap.size := P.lt
  go_wp2_with fail
  clear Xc0 Xc1 Xf0 Xf1 Xz Pc0 Pc1 Pc2 Pf0 Pf1 Pf2 Pz
  have hB := ((hB.setCell (p := ⟨w.heap.size + 1 + 1, 0, none⟩) (by simp <;> omega) (.slice Aq1 mq cq1)).setCell (p := ⟨w.heap.size + 1 + 1, 1, none⟩) (by simp <;> omega) (.slice Aa1 ma ca1))
  have hN3 := net_set (B1 := Aq1) (l1 := mq) (d1 := cq1) (B2 := Aa1) (l2 := ma) (d2 := ca1) hN2 X
  have P := ((P.other (a := ⟨w.heap.size + 1 + 1, 0, none⟩) (by simp) (.slice Aq1 mq cq1)).other (a := ⟨w.heap.size + 1 + 1, 1, none⟩) (by simp) (.slice Aa1 ma ca1))
  have X := ((X.set 0 (.slice Aq1 mq cq1)).set 1 (.slice Aa1 ma ca1))
  generalize ((w3.setCell ⟨w.heap.size + 1 + 1, 0, none⟩ (.slice Aq1 mq cq1)).setCell ⟨w.heap.size + 1 + 1, 1, none⟩ (.slice Aa1 ma ca1)) = w4 at hB P X hN3 ⊢
  simp only [List.set_cons_zero, List.set_cons_succ] at X
  have X0 : w4.cell? ⟨w.heap.size + 1 + 1, 0, none⟩ = some (.slice Aq1 mq cq1) := X.cell 0
  have Xf0 : w4.frozen? ⟨w.heap.size + 1 + 1, 0, none⟩ = false := X.free 0
  have X1 : w4.cell? ⟨w.heap.size + 1 + 1, 1, none⟩ = some (.slice Aa1 ma ca1) := X.cell 1
  have Xf1 : w4.frozen? ⟨w.heap.size + 1 + 1, 1, none⟩ = false := X.free 1
  have P0 : w4.cell? ⟨w.heap.size + 1 + 1 + 1, 0, none⟩ = some (.int .i64 0) := P.cell 0
  have Pf0 : w4.frozen? ⟨w.heap.size + 1 + 1 + 1, 0, none⟩ = false := P.free 0
  have P1 : w4.cell? ⟨w.heap.size + 1 + 1 + 1, 1, none⟩ = some (.int .i64 0) := P.cell 1
  have Pf1 : w4.frozen? ⟨w.heap.size + 1 + 1 + 1, 1, none⟩ = false := P.free 1
  have P2 : w4.cell? ⟨w.heap.size + 1 + 1 + 1, 2, none⟩ = some (.slice none 0 0) := P.cell 2
  have Pf2 : w4.frozen? ⟨w.heap.size + 1 + 1 + 1, 2, none⟩ = false := P.free 2
  have Xz := X.lt
  have Pz := P.lt
  go_region
  go_wp2
  have hE : (((((w4.setCell ⟨w.heap.size + 1 + 1, 0, none⟩ (.slice Aq1 mq cq1)).setCell ⟨w.heap.size + 1 + 1, 1, none⟩ (.slice Aa1 ma ca1)).setCell ⟨w.heap.size + 1 + 1 + 1, 0, none⟩ (.int .i64 0)).setCell ⟨w.heap.size + 1 + 1 + 1, 1, none⟩ (.int .i64 0)).setCell ⟨w.heap.size + 1 + 1 + 1, 2, none⟩ (.slice none 0 0)) = w4 := by rw [setCell_same X (i := 0) rfl, setCell_same X (i := 1) rfl, setCell_same P (i := 0) rfl, setCell_same P (i := 1) rfl, setCell_same P (i := 2) rfl]
  rw [hE]
  refine bodyPost_ret (v := .tuple #[.agg #[.slice Aq1 mq cq1, .slice Aa1 ma ca1], .agg #[.int .i64 0, .int .i64 0, .slice none 0 0], .int .i64 er]) (by simp [results, Try.results27, go_sem, X0, X1, P0, P1, P2]) rfl ?_
  exact ⟨_, _, _, m, Pk.zero, er, rfl, hs.out, hN3.out.below (Below.refl _ _).drew, bytesAt_nil _ _, hB.drew⟩

set_option maxRecDepth 100000 in
set_option maxHeartbeats 4000000 in
theorem nHap_4z (n : Net) (Aq : Option Addr) (ql cq : Nat) (Aa : Option Addr) (na ca : Nat) (kd ta sa sb dt : Int) (w : World) (hN : Hid (NetAt w w.heap.size (.slice Aq ql cq) (.slice Aa na ca) n)) (hk : kd % 6 = 4) (h1 : 0 ≤ kd) (h2 : kd ≤ 255) (_h3 : 0 ≤ ta) (_h4 : ta ≤ 255) (_h5 : 0 ≤ sa) (_h6 : sa ≤ 255) (_h7 : 0 ≤ sb) (_h8 : sb ≤ 255) (_h9 : 0 ≤ dt) (_h10 : dt ≤ 255) (_h11 : (ql : Int) ≤ 9223372036854775807) (_h0 : ql = 0) (hs : Hid (happT n kd ta sa sb dt = ((cutT n (sa % 24) (sb % 24) true).1, Pk.zero, (cutT n (sa % 24) (sb % 24) true).2))) :
    Calls Try.prog 27 #[.agg #[.slice Aq ql cq, .slice Aa na ca], .agg #[.int .u8 kd, .int .u8 ta, .int .u8 sa, .int .u8 sb, .int .u8 dt]] w (RetHap (happT n kd ta sa sb dt) w) := by
  subst _h0
  obtain ⟨m, er, hm⟩ : ∃ m er, cutT n (sa % 24) (sb % 24) true = (m, er) := ⟨_, _, rfl⟩
  obtain ⟨mq, hmq⟩ : ∃ k, m.queue.length = k := ⟨_, rfl⟩
  obtain ⟨ma, hma⟩ : ∃ k, m.apart.length = k := ⟨_, rfl⟩
  rw [hm] at hs
  replace hm := Lib.hid hm
  replace hmq := Lib.hid hmq
  replace hma := Lib.hid hma
  go_enter Try.func27, Try.ntmps27
  go_wp2_with fail
  have hB := (((((Below.refl w.heap.size w).alloc (by simp <;> omega) (.cells #[.slice Aq 0 cq, .slice Aa na ca] 25)).alloc (by simp <;> omega) (.cells #[.int .u8 kd, .int .u8 ta, .int .u8 sa, .int .u8 sb, .int .u8 dt] 52)).alloc (by simp <;> omega) (.cells #[.slice none 0 0, .slice none 0 0] 25)).alloc (by simp <;> omega) (.cells #[.int .i64 0, .int .i64 0, .slice none 0 0] 28))
  have N0 := ((((Box.newAt (w := w) (n := w.heap.size) [.slice Aq 0 cq, .slice Aa na ca] 25 (by simp)).alloc (.cells #[.int .u8 kd, .int .u8 ta, .int .u8 sa, .int .u8 sb, .int .u8 dt] 52)).alloc (.cells #[.slice none 0 0, .slice none 0 0] 25)).alloc (.cells #[.int .i64 0, .int .i64 0, .slice none 0 0] 28))
  have M0 := (((Box.newAt (w := (w.alloc (.cells #[.slice Aq 0 cq, .slice Aa na ca] 25))) (n := w.heap.size + 1) [.int .u8 kd, .int .u8 ta, .int .u8 sa, .int .u8 sb, .int .u8 dt] 52 (by simp)).alloc (.cells #[.slice none 0 0, .slice none 0 0] 25)).alloc (.cells #[.int .i64 0, .int .i64 0, .slice none 0 0] 28))
  have X := ((Box.newAt (w := ((w.alloc (.cells #[.slice Aq 0 cq, .slice Aa na ca] 25)).alloc (.cells #[.int .u8 kd, .int .u8 ta, .int .u8 sa, .int .u8 sb, .int .u8 dt] 52))) (n := w.heap.size + 1 + 1) [.slice none 0 0, .slice none 0 0] 25 (by simp)).alloc (.cells #[.int .i64 0, .int .i64 0, .slice none 0 0] 28))
  have P := (Box.newAt (w := (((w.alloc (.cells #[.slice Aq 0 cq, .slice Aa na ca] 25)).alloc (.cells #[.int .u8 kd, .int .u8 ta, .int .u8 sa, .int .u8 sb, .int .u8 dt] 52)).alloc (.cells #[.slice none 0 0, .slice none 0 0] 25))) (n := w.heap.size + 1 + 1 + 1) [.int .i64 0, .int .i64 0, .slice none 0 0] 28 (by simp))
  generalize ((((w.alloc (.cells #[.slice Aq 0 cq, .slice Aa na ca] 25)).alloc (.cells #[.int .u8 kd, .int .u8 ta, .int .u8 sa, .int .u8 sb, .int .u8 dt] 52)).alloc (.cells #[.slice none 0 0, .slice none 0 0] 25)).alloc (.cells #[.int .i64 0, .int .i64 0, .slice none 0 0] 28)) = w1 at hB N0 M0 X P ⊢
  have M0c0 : w1.cell? ⟨w.heap.size + 1, 0, none⟩ = some (.int .u8 kd) := M0.cell 0
  have M0c1 : w1.cell? ⟨w.heap.size + 1, 1, none⟩ = some (.int .u8 ta) := M0.cell 1
  have M0c2 : w1.cell? ⟨w.heap.size + 1, 2, none⟩ = some (.int .u8 sa) := M0.cell 2
  have M0c3 : w1.cell? ⟨w.heap.size + 1, 3, none⟩ = some (.int .u8 sb) := M0.cell 3
  have M0c4 : w1.cell? ⟨w.heap.size + 1, 4, none⟩ = some (.int .u8 dt) := M0.cell 4
  have M0z : w.heap.size + 1 < w1.heap.size := M0.lt
  go_quiet (fail)
  clear M0c0 M0c1 M0c2 M0c3 M0c4 M0z
  have hB := bel_drewN hB nq
  have N0 := N0.drewN nq
  have M0 := M0.drewN nq
  have X := X.drewN nq
  have P := P.drewN nq
  generalize w1.drewN nq = w2 at hB N0 M0 X P ⊢
  have N0c0 : w2.cell? ⟨w.heap.size, 0, none⟩ = some (.slice Aq 0 cq) := N0.cell 0
  have N0c1 : w2.cell? ⟨w.heap.size, 1, none⟩ = some (.slice Aa na ca) := N0.cell 1
  have N0z : w.heap.size < w2.heap.size := N0.lt
  have M0c0 : w2.cell? ⟨w.heap.size + 1, 0, none⟩ = some (.int .u8 kd) := M0.cell 0
  have M0c1 : w2.cell? ⟨w.heap.size + 1, 1, none⟩ = some (.int .u8 ta) := M0.cell 1
  have M0c2 : w2.cell? ⟨w.heap.size + 1, 2, none⟩ = some (.int .u8 sa) := M0.cell 2
  have M0c3 : w2.cell? ⟨w.heap.size + 1, 3, none⟩ = some (.int .u8 sb) := M0.cell 3
  have M0c4 : w2.cell? ⟨w.heap.size + 1, 4, none⟩ = some (.int .u8 dt) := M0.cell 4
  have M0z : w.heap.size + 1 < w2.heap.size := M0.lt
  go_wp2_with fail
  have hN1 : Hid (NetAt w2 w2.heap.size (.slice Aq 0 cq) (.slice Aa na ca) n) := Lib.hid ((hN.out.below hB).more hB.size)
  refine (nCut_is n (sa % 24) (sb % 24) true hN1).mono ?_
  rintro e w3 hh
  obtain ⟨Aq1, cq1, Aa1, ca1, rfl, hN2, hb⟩ := RetNet.is hh hm hmq hma
  have X := X.later hb
  have P := P.later hb
  have hs2 := hB.size
  have hB := hB.trans (hb.mono hB.size)
  clear hb
  have Xc0 : w3.cell? ⟨w.heap.size + 1 + 1, 0, none⟩ = some (.slice none 0 0) := X.cell 0
  have Xf0 : w3.frozen? ⟨w.heap.size + 1 + 1, 0, none⟩ = false := X.free 0
  have Xc1 : w3.cell? ⟨w.heap.size + 1 + 1, 1, none⟩ = some (.slice none 0 0) := X.cell 1
  have Xf1 : w3.frozen? ⟨w.heap.size + 1 + 1, 1, none⟩ = false := X.free 1
  have Xz : w.heap.size + 1 + 1 < w3.heap.size := X.lt
  have Pc0 : w3.cell? ⟨w.heap.size + 1 + 1 + 1, 0, none⟩ = some (.int .i64 0) := P.cell 0
  have Pf0 : w3.frozen? ⟨w.heap.size + 1 + 1 + 1, 0, none⟩ = false := P.free 0
  have Pc1 : w3.cell? ⟨w.heap.size + 1 + 1 + 1, 1, none⟩ = some (.int .i64 0) := P.cell 1
  have Pf1 : w3.frozen? ⟨w.heap.size + 1 + 1 + 1, 1, none⟩ = false := P.free 1
  have Pc2 : w3.cell? ⟨w.heap.size + 1 + 1 + 1, 2, none⟩ = some (.slice none 0 0) := P.cell 2
  have Pf2 : w3.frozen? ⟨w.heap.size + 1 + 1 + 1, 2, none⟩ = false := P.free 2
  have Pz : w.heap.size + 1 + 1 + 1 < w3.heap.size := P.lt
  go_wp2_with fail
  clear Xc0 Xc1 Xf0 Xf1 Xz Pc0 Pc1 Pc2 Pf0 Pf1 Pf2 Pz
  have hB := ((hB.setCell (p := ⟨w.heap.size + 1 + 1, 0, none⟩) (by simp <;> omega) (.slice Aq1 mq cq1)).setCell (p := ⟨w.heap.size + 1 + 1, 1, none⟩) (by simp <;> omega) (.slice Aa1 ma ca1))
  have hN3 := net_set (B1 := Aq1) (l1 := mq) (d1 := cq1) (B2 := Aa1) (l2 := ma) (d2 := ca1) hN2 X
  have P := ((P.other (a := ⟨w.heap.size + 1 + 1, 0, none⟩) (by simp) (.slice Aq1 mq cq1)).other (a := ⟨w.heap.size + 1 + 1, 1, none⟩) (by simp) (.slice Aa1 ma ca1))
  have X := ((X.set 0 (.slice Aq1 mq cq1)).set 1 (.slice Aa1 ma ca1))
  generalize ((w3.setCell ⟨w.heap.size + 1 + 1, 0, none⟩ (.slice Aq1 mq cq1)).setCell ⟨w.heap.size + 1 + 1, 1, none⟩ (.slice Aa1 ma ca1)) = w4 at hB P X hN3 ⊢
  simp only [List.set_cons_zero, List.set_cons_succ] at X
  have X0 : w4.cell? ⟨w.heap.size + 1 + 1, 0, none⟩ = some (.slice Aq1 mq cq1) := X.cell 0
  have Xf0 : w4.frozen? ⟨w.heap.size + 1 + 1, 0, none⟩ = false := X.free 0
  have X1 : w4.cell? ⟨w.heap.size + 1 + 1, 1, none⟩ = some (.slice Aa1 ma ca1) := X.cell 1
  have Xf1 : w4.frozen? ⟨w.heap.size + 1 + 1, 1, none⟩ = false := X.free 1
  have P0 : w4.cell? ⟨w.heap.size + 1 + 1 + 1, 0, none⟩ = some (.int .i64 0) := P.cell 0
  have Pf0 : w4.frozen? ⟨w.heap.size + 1 + 1 + 1, 0, none⟩ = false := P.free 0
  have P1 : w4.cell? ⟨w.heap.size + 1 + 1 + 1, 1, none⟩ = some (.int .i64 0) := P.cell 1
  have Pf1 : w4.frozen? ⟨w.heap.size + 1 + 1 + 1, 1, none⟩ = false := P.free 1
  have P2 : w4.cell? ⟨w.heap.size + 1 + 1 + 1, 2, none⟩ = some (.slice none 0 0) := P.cell 2
  have Pf2 : w4.frozen? ⟨w.heap.size + 1 + 1 + 1, 2, none⟩ = false := P.free 2
  have Xz := X.lt
  have Pz := P.lt
  go_region
  go_wp2
  have hE : (((((w4.setCell ⟨w.heap.size + 1 + 1, 0, none⟩ (.slice Aq1 mq cq1)).setCell ⟨w.heap.size + 1 + 1, 1, none⟩ (.slice Aa1 ma ca1)).setCell ⟨w.heap.size + 1 + 1 + 1, 0, none⟩ (.int .i64 0)).setCell ⟨w.heap.size + 1 + 1 + 1, 1, none⟩ (.int .i64 0)).setCell ⟨w.heap.size + 1 + 1 + 1, 2, none⟩ (.slice none 0 0)) = w4 := by rw [setCell_same X (i := 0) rfl, setCell_same X (i := 1) rfl, setCell_same P (i := 0) rfl, setCell_same P (i := 1) rfl, setCell_same P (i := 2) rfl]
  rw [hE]
  refine bodyPost_ret (v := .tuple #[.agg #[.slice Aq1 mq cq1, .slice Aa1 ma ca1], .agg #[.int .i64 0, .int .i64 0, .slice none 0 0], .int .i64 er]) (by simp [results, Try.results27, go_sem, X0, X1, P0, P1, P2]) rfl ?_
  exact ⟨_, _, _, m, Pk.zero, er, rfl, hs.out, hN3.out.below (Below.refl _ _).drew, bytesAt_nil _ _, hB.drew⟩

set_option maxRecDepth 100000 in
set_option maxHeartbeats 4000000 in
theorem nHap_5 (n : Net) (Aq : Option Addr) (ql cq : Nat) (Aa : Option Addr) (na ca : Nat) (kd ta sa sb dt : Int) (w : World) (hN : Hid (NetAt w w.heap.size (.slice Aq ql cq) (.slice Aa na ca) n)) (hk : kd % 6 = 5) (h1 : 0 ≤ kd) (h2 : kd ≤ 255) (_h3 : 0 ≤ ta) (_h4 : ta ≤ 255) (_h5 : 0 ≤ sa) (_h6 : sa ≤ 255) (_h7 : 0 ≤ sb) (_h8 : sb ≤ 255) (_h9 : 0 ≤ dt) (_h10 : dt ≤ 255) (_h11 : (ql : Int) ≤ 9223372036854775807) (_h0 : (0 : Int) < (ql : Int)) (at0 : Int) (_hat : ta % (ql : Int) = at0) (hs : Hid (happT n kd ta sa sb dt = ((cutT n (sa % 24) (sb % 24) false).1, Pk.zero, (cutT n (sa % 24) (sb % 24) false).2))) :
    Calls Try.prog 27 #[.agg #[.slice Aq ql cq, .slice Aa na ca], .agg #[.int .u8 kd, .int .u8 ta, .int .u8 sa, .int .u8 sb, .int .u8 dt]] w (RetHap (happT n kd ta sa sb dt) w) := by
  obtain ⟨m, er, hm⟩ : ∃ m er, cutT n (sa % 24) (sb % 24) false = (m, er) := ⟨_, _, rfl⟩
  obtain ⟨mq, hmq⟩ : ∃ k, m.queue.length = k := ⟨_, rfl⟩
  obtain ⟨ma, hma⟩ : ∃ k, m.apart.length = k := ⟨_, rfl⟩
  rw [hm] at hs
  replace hm := Lib.hid hm
  replace hmq := Lib.hid hmq
  replace hma := Lib.hid hma
  go_enter Try.func27, Try.ntmps27
  go_wp2_with fail
  have hB := (((((Below.refl w.heap.size w).alloc (by simp <;> omega) (.cells #[.slice Aq ql cq, .slice Aa na ca] 25)).alloc (by simp <;> omega) (.cells #[.int .u8 kd, .int .u8 ta, .int .u8 sa, .int .u8 sb, .int .u8 dt] 52)).alloc (by simp <;> omega) (.cells #[.slice none 0 0, .slice none 0 0] 25)).alloc (by simp <;> omega) (.cells #[.int .i64 0, .int .i64 0, .slice none 0 0] 28))
  have N0 := ((((Box.newAt (w := w) (n := w.heap.size) [.slice Aq ql cq, .slice Aa na ca] 25 (by simp)).alloc (.cells #[.int .u8 kd, .int .u8 ta, .int .u8 sa, .int .u8 sb, .int .u8 dt] 52)).alloc (.cells #[.slice none 0 0, .slice none 0 0] 25)).alloc (.cells #[.int .i64 0, .int .i64 0, .slice none 0 0] 28))
  have M0 := (((Box.newAt (w := (w.alloc (.cells #[.slice Aq ql cq, .slice Aa na ca] 25))) (n := w.heap.size + 1) [.int .u8 kd, .int .u8 ta, .int .u8 sa, .int .u8 sb, .int .u8 dt] 52 (by simp)).alloc (.cells #[.slice none 0 0, .slice none 0 0] 25)).alloc (.cells #[.int .i64 0, .int .i64 0, .slice none 0 0] 28))
  have X := ((Box.newAt (w := ((w.alloc (.cells #[.slice Aq ql cq, .slice Aa na ca] 25)).alloc (.cells #[.int .u8 kd, .int .u8 ta, .int .u8 sa, .int .u8 sb, .int .u8 dt] 52))) (n := w.heap.size + 1 + 1) [.slice none 0 0, .slice none 0 0] 25 (by simp)).alloc (.cells #[.int .i64 0, .int .i64 0, .slice none 0 0] 28))
  have P := (Box.newAt (w := (((w.alloc (.cells #[.slice Aq ql cq, .slice Aa na ca] 25)).alloc (.cells #[.int .u8 kd, .int .u8 ta, .int .u8 sa, .int .u8 sb, .int .u8 dt] 52)).alloc (.cells #[.slice none 0 0, .slice none 0 0] 25))) (n := w.heap.size + 1 + 1 + 1) [.int .i64 0, .int .i64 0, .slice none 0 0] 28 (by simp))
  generalize ((((w.alloc (.cells #[.slice Aq ql cq, .slice Aa na ca] 25)).alloc (.cells #[.int .u8 kd, .int .u8 ta, .int .u8 sa, .int .u8 sb, .int .u8 dt] 52)).alloc (.cells #[.slice none 0 0, .slice none 0 0] 25)).alloc (.cells #[.int .i64 0, .int .i64 0, .slice none 0 0] 28)) = w1 at hB N0 M0 X P ⊢
  have M0c0 : w1.cell? ⟨w.heap.size + 1, 0, none⟩ = some (.int .u8 kd) := M0.cell 0
  have M0c1 : w1.cell? ⟨w.heap.size + 1, 1, none⟩ = some (.int .u8 ta) := M0.cell 1
  have M0c2 : w1.cell? ⟨w.heap.size + 1, 2, none⟩ = some (.int .u8 sa) := M0.cell 2
  have M0c3 : w1.cell? ⟨w.heap.size + 1, 3, none⟩ = some (.int .u8 sb) := M0.cell 3
  have M0c4 : w1.cell? ⟨w.heap.size + 1, 4, none⟩ = some (.int .u8 dt) := M0.cell 4
  have M0z : w.heap.size + 1 < w1.heap.size := M0.lt
  go_quiet (fail)
  clear M0c0 M0c1 M0c2 M0c3 M0c4 M0z
  have hB := bel_drewN hB nq
  have N0 := N0.drewN nq
  have M0 := M0.drewN nq
  have X := X.drewN nq
  have P := P.drewN nq
  generalize w1.drewN nq = w2 at hB N0 M0 X P ⊢
  have N0c0 : w2.cell? ⟨w.heap.size, 0, none⟩ = some (.slice Aq ql cq) := N0.cell 0
  have N0c1 : w2.cell? ⟨w.heap.size, 1, none⟩ = some (.slice Aa na ca) := N0.cell 1
  have N0z : w.heap.size < w2.heap.size := N0.lt
  have M0c0 : w2.cell? ⟨w.heap.size + 1, 0, none⟩ = some (.int .u8 kd) := M0.cell 0
  have M0c1 : w2.cell? ⟨w.heap.size + 1, 1, none⟩ = some (.int .u8 ta) := M0.cell 1
  have M0c2 : w2.cell? ⟨w.heap.size + 1, 2, none⟩ = some (.int .u8 sa) := M0.cell 2
  have M0c3 : w2.cell? ⟨w.heap.size + 1, 3, none⟩ = some (.int .u8 sb) := M0.cell 3
  have M0c4 : w2.cell? ⟨w.heap.size + 1, 4, none⟩ = some (.int .u8 dt) := M0.cell 4
  have M0z : w.heap.size + 1 < w2.heap.size := M0.lt
  go_wp2_with fail
  have hN1 : Hid (NetAt w2 w2.heap.size (.slice Aq ql cq) (.slice Aa na ca) n) := Lib.hid ((hN.out.below hB).more hB.size)
  refine (nCut_is n (sa % 24) (sb % 24) false hN1).mono ?_
  rintro e w3 hh
  obtain ⟨Aq1, cq1, Aa1, ca1, rfl, hN2, hb⟩ := RetNet.is hh hm hmq hma
  have X := X.later hb
  have P := P.later hb
  have hs2 := hB.size
  have hB := hB.trans (hb.mono hB.size)
  clear hb
  have Xc0 : w3.cell? ⟨w.heap.size + 1 + 1, 0, none⟩ = some (.slice none 0 0) := X.cell 0
  have Xf0 : w3.frozen? ⟨w.heap.size + 1 + 1, 0, none⟩ = false := X.free 0
  have Xc1 : w3.cell? ⟨w.heap.size + 1 + 1, 1, none⟩ = some (.slice none 0 0) := X.cell 1
  have Xf1 : w3.frozen? ⟨w.heap.size + 1 + 1, 1, none⟩ = false := X.free 1
  have Xz : w.heap.size + 1 + 1 < w3.heap.size := X.lt
  have Pc0 : w3.cell? ⟨w.heap.size + 1 + 1 + 1, 0, none⟩ = some (.int .i64 0) := P.cell 0
  have Pf0 : w3.frozen? ⟨w.heap.size + 1 + 1 + 1, 0, none⟩ = false := P.free 0
  have Pc1 : w3.cell? ⟨w.heap.size + 1 + 1 + 1, 1, none⟩ = some (.int .i64 0) := P.cell 1
  have Pf1 : w3.frozen? ⟨w.heap.size + 1 + 1 + 1, 1, none⟩ = false := P.free 1
  have Pc2 : w3.cell? ⟨w.heap.size + 1 + 1 + 1, 2, none⟩ = some (.slice none 0 0) := P.cell 2
  have Pf2 : w3.frozen? ⟨w.heap.size + 1 + 1 + 1, 2, none⟩ = false := P.free 2
  have Pz : w.heap.size + 1 + 1 + 1 < w3.heap.size := P.lt
  go_wp2_with fail
  clear Xc0 Xc1 Xf0 Xf1 Xz Pc0 Pc1 Pc2 Pf0 Pf1 Pf2 Pz
  have hB := ((hB.setCell (p := ⟨w.heap.size + 1 + 1, 0, none⟩) (by simp <;> omega) (.slice Aq1 mq cq1)).setCell (p := ⟨w.heap.size + 1 + 1, 1, none⟩) (by simp <;> omega) (.slice Aa1 ma ca1))
  have hN3 := net_set (B1 := Aq1) (l1 := mq) (d1 := cq1) (B2 := Aa1) (l2 := ma) (d2 := ca1) hN2 X
  have P := ((P.other (a := ⟨w.heap.size + 1 + 1, 0, none⟩) (by simp) (.slice Aq1 mq cq1)).other (a := ⟨w.heap.size + 1 + 1, 1, none⟩) (by simp) (.slice Aa1 ma ca1))
  have X := ((X.set 0 (.slice Aq1 mq cq1)).set 1 (.slice Aa1 ma ca1))
  generalize ((w3.setCell ⟨w.heap.size + 1 + 1, 0, none⟩ (.slice Aq1 mq cq1)).setCell ⟨w.heap.size + 1 + 1, 1, none⟩ (.slice Aa1 ma ca1)) = w4 at hB P X hN3 ⊢
  simp only [List.set_cons_zero, List.set_cons_succ] at X
  have X0 : w4.cell? ⟨w.heap.size + 1 + 1, 0, none⟩ = some (.slice Aq1 mq cq1) := X.cell 0
  have Xf0 : w4.frozen? ⟨w.heap.size + 1 + 1, 0, none⟩ = false := X.free 0
  have X1 : w4.cell? ⟨w.heap.size + 1 + 1, 1, none⟩ = some (.slice Aa1 ma ca1) := X.cell 1
  have Xf1 : w4.frozen? ⟨w.heap.size + 1 + 1, 1, none⟩ = false := X.free 1
  have P0 : w4.cell? ⟨w.heap.size + 1 + 1 + 1, 0, none⟩ = some (.int .i64 0) := P.cell 0
  have Pf0 : w4.frozen? ⟨w.heap.size + 1 + 1 + 1, 0, none⟩ = false := P.free 0
  have P1 : w4.cell? ⟨w.heap.size + 1 + 1 + 1, 1, none⟩ = some (.int .i64 0) := P.cell 1
  have Pf1 : w4.frozen? ⟨w.heap.size + 1 + 1 + 1, 1, none⟩ = false := P.free 1
  have P2 : w4.cell? ⟨w.heap.size + 1 + 1 + 1, 2, none⟩ = some (.slice none 0 0) := P.cell 2
  have Pf2 : w4.frozen? ⟨w.heap.size + 1 + 1 + 1, 2, none⟩ = false := P.free 2
  have Xz := X.lt
  have Pz := P.lt
  go_region
  go_wp2
  have hE : (((((w4.setCell ⟨w.heap.size + 1 + 1, 0, none⟩ (.slice Aq1 mq cq1)).setCell ⟨w.heap.size + 1 + 1, 1, none⟩ (.slice Aa1 ma ca1)).setCell ⟨w.heap.size + 1 + 1 + 1, 0, none⟩ (.int .i64 0)).setCell ⟨w.heap.size + 1 + 1 + 1, 1, none⟩ (.int .i64 0)).setCell ⟨w.heap.size + 1 + 1 + 1, 2, none⟩ (.slice none 0 0)) = w4 := by rw [setCell_same X (i := 0) rfl, setCell_same X (i := 1) rfl, setCell_same P (i := 0) rfl, setCell_same P (i := 1) rfl, setCell_same P (i := 2) rfl]
  rw [hE]
  refine bodyPost_ret (v := .tuple #[.agg #[.slice Aq1 mq cq1, .slice Aa1 ma ca1], .agg #[.int .i64 0, .int .i64 0, .slice none 0 0], .int .i64 er]) (by simp [results, Try.results27, go_sem, X0, X1, P0, P1, P2]) rfl ?_
  exact ⟨_, _, _, m, Pk.zero, er, rfl, hs.out, hN3.out.below (Below.refl _ _).drew, bytesAt_nil _ _, hB.drew⟩

set_option maxRecDepth 100000 in
set_option maxHeartbeats 4000000 in
theorem nHap_5z (n : Net) (Aq : Option Addr) (ql cq : Nat) (Aa : Option Addr) (na ca : Nat) (kd ta sa sb dt : Int) (w : World) (hN : Hid (NetAt w w.heap.size (.slice Aq ql cq) (.slice Aa na ca) n)) (hk : kd % 6 = 5) (h1 : 0 ≤ kd) (h2 : kd ≤ 255) (_h3 : 0 ≤ ta) (_h4 : ta ≤ 255) (_h5 : 0 ≤ sa) (_h6 : sa ≤ 255) (_h7 : 0 ≤ sb) (_h8 : sb ≤ 255) (_h9 : 0 ≤ dt) (_h10 : dt ≤ 255) (_h11 : (ql : Int) ≤ 9223372036854775807) (_h0 : ql = 0) (hs : Hid (happT n kd ta sa sb dt = ((cutT n (sa % 24) (sb % 24) false).1, Pk.zero, (cutT n (sa % 24) (sb % 24) false).2))) :
    Calls Try.prog 27 #[.agg #[.slice Aq ql cq, .slice Aa na ca], .agg #[.int .u8 kd, .int .u8 ta, .int .u8 sa, .int .u8 sb, .int .u8 dt]] w (RetHap (happT n kd ta sa sb dt) w) := by
  subst _h0
  obtain ⟨m, er, hm⟩ : ∃ m er, cutT n (sa % 24) (sb % 24) false = (m, er) := ⟨_, _, rfl⟩
  obtain ⟨mq, hmq⟩ : ∃ k, m.queue.length = k := ⟨_, rfl⟩
  obtain ⟨ma, hma⟩ : ∃ k, m.apart.length = k := ⟨_, rfl⟩
  rw [hm] at hs
  replace hm := Lib.hid hm
  replace hmq := Lib.hid hmq
  replace hma := Lib.hid hma
  go_enter Try.func27, Try.ntmps27
  go_wp2_with fail
  have hB := (((((Below.refl w.heap.size w).alloc (by simp <;> omega) (.cells #[.slice Aq 0 cq, .slice Aa na ca] 25)).alloc (by simp <;> omega) (.cells #[.int .u8 kd, .int .u8 ta, .int .u8 sa, .int .u8 sb, .int .u8 dt] 52)).alloc (by simp <;> omega) (.cells #[.slice none 0 0, .slice none 0 0] 25)).alloc (by simp <;> omega) (.cells #[.int .i64 0, .int .i64 0, .slice none 0 0] 28))
  have N0 := ((((Box.newAt (w := w) (n := w.heap.size) [.slice Aq 0 cq, .slice Aa na ca] 25 (by simp)).alloc (.cells #[.int .u8 kd, .int .u8 ta, .int .u8 sa, .int .u8 sb, .int .u8 dt] 52)).alloc (.cells #[.slice none 0 0, .slice none 0 0] 25)).alloc (.cells #[.int .i64 0, .int .i64 0, .slice none 0 0] 28))
  have M0 := (((Box.newAt (w := (w.alloc (.cells #[.slice Aq 0 cq, .slice Aa na ca] 25))) (n := w.heap.size + 1) [.int .u8 kd, .int .u8 ta, .int .u8 sa, .int .u8 sb, .int .u8 dt] 52 (by simp)).alloc (.cells #[.slice none 0 0, .slice none 0 0] 25)).alloc (.cells #[.int .i64 0, .int .i64 0, .slice none 0 0] 28))
  have X := ((Box.newAt (w := ((w.alloc (.cells #[.slice Aq 0 cq, .slice Aa na ca] 25)).alloc (.cells #[.int .u8 kd, .int .u8 ta, .int .u8 sa, .int .u8 sb, .int .u8 dt] 52))) (n := w.heap.size + 1 + 1) [.slice none 0 0, .slice none 0 0] 25 (by simp)).alloc (.cells #[.int .i64 0, .int .i64 0, .slice none 0 0] 28))
  have P := (Box.newAt (w := (((w.alloc (.cells #[.slice Aq 0 cq, .slice Aa na ca] 25)).alloc (.cells #[.int .u8 kd, .int .u8 ta, .int .u8 sa, .int .u8 sb, .int .u8 dt] 52)).alloc (.cells #[.slice none 0 0, .slice none 0 0] 25))) (n := w.heap.size + 1 + 1 + 1) [.int .i64 0, .int .i64 0, .slice none 0 0] 28 (by simp))
  generalize ((((w.alloc (.cells #[.slice Aq 0 cq, .slice Aa na ca] 25)).alloc (.cells #[.int .u8 kd, .int .u8 ta, .int .u8 sa, .int .u8 sb, .int .u8 dt] 52)).alloc (.cells #[.slice none 0 0, .slice none 0 0] 25)).alloc (.cells #[.int .i64 0, .int .i64 0, .slice none 0 0] 28)) = w1 at hB N0 M0 X P ⊢
  have M0c0 : w1.cell? ⟨w.heap.size + 1, 0, none⟩ = some (.int .u8 kd) := M0.cell 0
  have M0c1 : w1.cell? ⟨w.heap.size + 1, 1, none⟩ = some (.int .u8 ta) := M0.cell 1
  have M0c2 : w1.cell? ⟨w.heap.size + 1, 2, none⟩ = some (.int .u8 sa) := M0.cell 2
  have M0c3 : w1.cell? ⟨w.heap.size + 1, 3, none⟩ = some (.int .u8 sb) := M0.cell 3
  have M0c4 : w1.cell? ⟨w.heap.size + 1, 4, none⟩ = some (.int .u8 dt) := M0.cell 4
  have M0z : w.heap.size + 1 < w1.heap.size := M0.lt
  go_quiet (fail)
  clear M0c0 M0c1 M0c2 M0c3 M0c4 M0z
  have hB := bel_drewN hB nq
  have N0 := N0.drewN nq
  have M0 := M0.drewN nq
  have X := X.drewN nq
  have P := P.drewN nq
  generalize w1.drewN nq = w2 at hB N0 M0 X P ⊢
  have N0c0 : w2.cell? ⟨w.heap.size, 0, none⟩ = some (.slice Aq 0 cq) := N0.cell 0
  have N0c1 : w2.cell? ⟨w.heap.size, 1, none⟩ = some (.slice Aa na ca) := N0.cell 1
  have N0z : w.heap.size < w2.heap.size := N0.lt
  have M0c0 : w2.cell? ⟨w.heap.size + 1, 0, none⟩ = some (.int .u8 kd) := M0.cell 0
  have M0c1 : w2.cell? ⟨w.heap.size + 1, 1, none⟩ = some (.int .u8 ta) := M0.cell 1
  have M0c2 : w2.cell? ⟨w.heap.size + 1, 2, none⟩ = some (.int .u8 sa) := M0.cell 2
  have M0c3 : w2.cell? ⟨w.heap.size + 1, 3, none⟩ = some (.int .u8 sb) := M0.cell 3
  have M0c4 : w2.cell? ⟨w.heap.size + 1, 4, none⟩ = some (.int .u8 dt) := M0.cell 4
  have M0z : w.heap.size + 1 < w2.heap.size := M0.lt
  go_wp2_with fail
  have hN1 : Hid (NetAt w2 w2.heap.size (.slice Aq 0 cq) (.slice Aa na ca) n) := Lib.hid ((hN.out.below hB).more hB.size)
  refine (nCut_is n (sa % 24) (sb % 24) false hN1).mono ?_
  rintro e w3 hh
  obtain ⟨Aq1, cq1, Aa1, ca1, rfl, hN2, hb⟩ := RetNet.is hh hm hmq hma
  have X := X.later hb
  have P := P.later hb
  have hs2 := hB.size
  have hB := hB.trans (hb.mono hB.size)
  clear hb
  have Xc0 : w3.cell? ⟨w.heap.size + 1 + 1, 0, none⟩ = some (.slice none 0 0) := X.cell 0
  have Xf0 : w3.frozen? ⟨w.heap.size + 1 + 1, 0, none⟩ = false := X.free 0
  have Xc1 : w3.cell? ⟨w.heap.size + 1 + 1, 1, none⟩ = some (.slice none 0 0) := X.cell 1
  have Xf1 : w3.frozen? ⟨w.heap.size + 1 + 1, 1, none⟩ = false := X.free 1
  have Xz : w.heap.size + 1 + 1 < w3.heap.size := X.lt
  have Pc0 : w3.cell? ⟨w.heap.size + 1 + 1 + 1, 0, none⟩ = some (.int .i64 0) := P.cell 0
  have Pf0 : w3.frozen? ⟨w.heap.size + 1 + 1 + 1, 0, none⟩ = false := P.free 0
  have Pc1 : w3.cell? ⟨w.heap.size + 1 + 1 + 1, 1, none⟩ = some (.int .i64 0) := P.cell 1
  have Pf1 : w3.frozen? ⟨w.heap.size + 1 + 1 + 1, 1, none⟩ = false := P.free 1
  have Pc2 : w3.cell? ⟨w.heap.size + 1 + 1 + 1, 2, none⟩ = some (.slice none 0 0) := P.cell 2
  have Pf2 : w3.frozen? ⟨w.heap.size + 1 + 1 + 1, 2, none⟩ = false := P.free 2
  have Pz : w.heap.size + 1 + 1 + 1 < w3.heap.size := P.lt
  go_wp2_with fail
  clear Xc0 Xc1 Xf0 Xf1 Xz Pc0 Pc1 Pc2 Pf0 Pf1 Pf2 Pz
  have hB := ((hB.setCell (p := ⟨w.heap.size + 1 + 1, 0, none⟩) (by simp <;> omega) (.slice Aq1 mq cq1)).setCell (p := ⟨w.heap.size + 1 + 1, 1, none⟩) (by simp <;> omega) (.slice Aa1 ma ca1))
  have hN3 := net_set (B1 := Aq1) (l1 := mq) (d1 := cq1) (B2 := Aa1) (l2 := ma) (d2 := ca1) hN2 X
  have P := ((P.other (a := ⟨w.heap.size + 1 + 1, 0, none⟩) (by simp) (.slice Aq1 mq cq1)).other (a := ⟨w.heap.size + 1 + 1, 1, none⟩) (by simp) (.slice Aa1 ma ca1))
  have X := ((X.set 0 (.slice Aq1 mq cq1)).set 1 (.slice Aa1 ma ca1))
  generalize ((w3.setCell ⟨w.heap.size + 1 + 1, 0, none⟩ (.slice Aq1 mq cq1)).setCell ⟨w.heap.size + 1 + 1, 1, none⟩ (.slice Aa1 ma ca1)) = w4 at hB P X hN3 ⊢
  simp only [List.set_cons_zero, List.set_cons_succ] at X
  have X0 : w4.cell? ⟨w.heap.size + 1 + 1, 0, none⟩ = some (.slice Aq1 mq cq1) := X.cell 0
  have Xf0 : w4.frozen? ⟨w.heap.size + 1 + 1, 0, none⟩ = false := X.free 0
  have X1 : w4.cell? ⟨w.heap.size + 1 + 1, 1, none⟩ = some (.slice Aa1 ma ca1) := X.cell 1
  have Xf1 : w4.frozen? ⟨w.heap.size + 1 + 1, 1, none⟩ = false := X.free 1
  have P0 : w4.cell? ⟨w.heap.size + 1 + 1 + 1, 0, none⟩ = some (.int .i64 0) := P.cell 0
  have Pf0 : w4.frozen? ⟨w.heap.size + 1 + 1 + 1, 0, none⟩ = false := P.free 0
  have P1 : w4.cell? ⟨w.heap.size + 1 + 1 + 1, 1, none⟩ = some (.int .i64 0) := P.cell 1
  have Pf1 : w4.frozen? ⟨w.heap.size + 1 + 1 + 1, 1, none⟩ = false := P.free 1
  have P2 : w4.cell? ⟨w.heap.size + 1 + 1 + 1, 2, none⟩ = some (.slice none 0 0) := P.cell 2
  have Pf2 : w4.frozen? ⟨w.heap.size + 1 + 1 + 1, 2, none⟩ = false := P.free 2
  have Xz := X.lt
  have Pz := P.lt
  go_region
  go_wp2
  have hE : (((((w4.setCell ⟨w.heap.size + 1 + 1, 0, none⟩ (.slice Aq1 mq cq1)).setCell ⟨w.heap.size + 1 + 1, 1, none⟩ (.slice Aa1 ma ca1)).setCell ⟨w.heap.size + 1 + 1 + 1, 0, none⟩ (.int .i64 0)).setCell ⟨w.heap.size + 1 + 1 + 1, 1, none⟩ (.int .i64 0)).setCell ⟨w.heap.size + 1 + 1 + 1, 2, none⟩ (.slice none 0 0)) = w4 := by rw [setCell_same X (i := 0) rfl, setCell_same X (i := 1) rfl, setCell_same P (i := 0) rfl, setCell_same P (i := 1) rfl, setCell_same P (i := 2) rfl]
  rw [hE]
  refine bodyPost_ret (v := .tuple #[.agg #[.slice Aq1 mq cq1, .slice Aa1 ma ca1], .agg #[.int .i64 0, .int .i64 0, .slice none 0 0], .int .i64 er]) (by simp [results, Try.results27, go_sem, X0, X1, P0, P1, P2]) rfl ?_
  exact ⟨_, _, _, m, Pk.zero, er, rfl, hs.out, hN3.out.below (Below.refl _ _).drew, bytesAt_nil _ _, hB.drew⟩

theorem nHappens_any (n : Net) (kd ta sa sb dt : Int) (Vq Va : Value) (w : World) (hN : Hid (NetAt w w.heap.size Vq Va n)) (h1 : 0 ≤ kd ∧ kd ≤ 255) (h2 : 0 ≤ ta ∧ ta ≤ 255) (h3 : 0 ≤ sa ∧ sa ≤ 255) (h4 : 0 ≤ sb ∧ sb ≤ 255) (h5 : 0 ≤ dt ∧ dt ≤ 255) :
    Calls Try.prog 27 #[.agg #[Vq, Va], .agg #[.int .u8 kd, .int .u8 ta, .int .u8 sa, .int .u8 sb, .int .u8 dt]] w (RetHap (happT n kd ta sa sb dt) w) := by
  obtain ⟨Aq, cq, rfl, hm1⟩ := hN.out.queue.form
  obtain ⟨Aa, ca, rfl, _⟩ := hN.out.apart.form
  unfold maxLen at hm1
  rcases Nat.eq_zero_or_pos n.queue.length with h0 | h0
  · have e0 : (if 0 < n.queue.length then ta % (n.queue.length : Int) else 0) = 0 := if_neg (by omega)
    rcases (show kd % 6 = 0 ∨ kd % 6 = 1 ∨ kd % 6 = 2 ∨ kd % 6 = 3 ∨ kd % 6 = 4 ∨ kd % 6 = 5 by omega) with hk | hk | hk | hk | hk | hk
    · exact nHap_0z n Aq _ cq Aa _ ca kd ta sa sb dt w hN hk h1.1 h1.2 h2.1 h2.2 h3.1 h3.2 h4.1 h4.2 h5.1 h5.2 (by omega) h0 (by unfold Hid happT; simp only [hk, e0]; rfl)
    · exact nHap_1z n Aq _ cq Aa _ ca kd ta sa sb dt w hN hk h1.1 h1.2 h2.1 h2.2 h3.1 h3.2 h4.1 h4.2 h5.1 h5.2 (by omega) h0 (by unfold Hid happT; simp only [hk, e0]; rfl)
    · exact nHap_2z n Aq _ cq Aa _ ca kd ta sa sb dt w hN hk h1.1 h1.2 h2.1 h2.2 h3.1 h3.2 h4.1 h4.2 h5.1 h5.2 (by omega) h0 (by unfold Hid happT; simp only [hk, e0]; rfl)
    · exact nHap_3z n Aq _ cq Aa _ ca kd ta sa sb dt w hN hk h1.1 h1.2 h2.1 h2.2 h3.1 h3.2 h4.1 h4.2 h5.1 h5.2 (by omega) h0 (by unfold Hid happT; simp only [hk, e0]; rfl)
    · exact nHap_4z n Aq _ cq Aa _ ca kd ta sa sb dt w hN hk h1.1 h1.2 h2.1 h2.2 h3.1 h3.2 h4.1 h4.2 h5.1 h5.2 (by omega) h0 (by unfold Hid happT; simp only [hk, e0]; rfl)
    · exact nHap_5z n Aq _ cq Aa _ ca kd ta sa sb dt w hN hk h1.1 h1.2 h2.1 h2.2 h3.1 h3.2 h4.1 h4.2 h5.1 h5.2 (by omega) h0 (by unfold Hid happT; simp only [hk, e0]; rfl)
  · have e0 : (if 0 < n.queue.length then ta % (n.queue.length : Int) else 0) = ta % (n.queue.length : Int) := if_pos h0
    rcases (show kd % 6 = 0 ∨ kd % 6 = 1 ∨ kd % 6 = 2 ∨ kd % 6 = 3 ∨ kd % 6 = 4 ∨ kd % 6 = 5 by omega) with hk | hk | hk | hk | hk | hk
    · exact nHap_0 n Aq _ cq Aa _ ca kd ta sa sb dt w hN hk h1.1 h1.2 h2.1 h2.2 h3.1 h3.2 h4.1 h4.2 h5.1 h5.2 (by omega) (by omega) _ rfl (by unfold Hid happT; simp only [hk, e0]; rfl)
    · exact nHap_1 n Aq _ cq Aa _ ca kd ta sa sb dt w hN hk h1.1 h1.2 h2.1 h2.2 h3.1 h3.2 h4.1 h4.2 h5.1 h5.2 (by omega) (by omega) _ rfl (by unfold Hid happT; simp only [hk, e0]; rfl)
    · exact nHap_2 n Aq _ cq Aa _ ca kd ta sa sb dt w hN hk h1.1 h1.2 h2.1 h2.2 h3.1 h3.2 h4.1 h4.2 h5.1 h5.2 (by omega) (by omega) _ rfl (by unfold Hid happT; simp only [hk, e0]; rfl)
    · exact nHap_3 n Aq _ cq Aa _ ca kd ta sa sb dt w hN hk h1.1 h1.2 h2.1 h2.2 h3.1 h3.2 h4.1 h4.2 h5.1 h5.2 (by omega) (by omega) _ rfl (by unfold Hid happT; simp only [hk, e0]; rfl)
    · exact nHap_4 n Aq _ cq Aa _ ca kd ta sa sb dt w hN hk h1.1 h1.2 h2.1 h2.2 h3.1 h3.2 h4.1 h4.2 h5.1 h5.2 (by omega) (by omega) _ rfl (by unfold Hid happT; simp only [hk, e0]; rfl)
    · exact nHap_5 n Aq _ cq Aa _ ca kd ta sa sb dt w hN hk h1.1 h1.2 h2.1 h2.2 h3.1 h3.2 h4.1 h4.2 h5.1 h5.2 (by omega) (by omega) _ rfl (by unfold Hid happT; simp only [hk, e0]; rfl)

end Go.Proofs.Ytndjpaiakodciaa
