/-
  Contracts of without of network and of the reference. (Printed by gen_nj.py.)
-/
import Derived.Test.YtndjpaiakodciaaNI
import Derived.Test.YtndjpaiakodciaaNH
namespace Go.Proofs.Ytndjpaiakodciaa
open Go.RowKit

attribute [local go_sem ↓ high] app_named

theorem PksAt.take {w : World} {B b off n c k : Nat} {q : List Pk} (h : PksAt w B (.slice (some ⟨b, off, none⟩) n c) q) (hk : k ≤ q.length) (hc : k ≤ maxLen) : PksAt w B (.slice (some ⟨b, off, none⟩) k k) (q.take k) := by
  obtain ⟨f, V, ⟨A', c', hv, hm, h1⟩, h2⟩ := h
  cases hv
  have hl : (q.take k).length = k := by simp; omega
  refine ⟨.inr ⟨_, _, _, rfl, Nat.le_refl _, hc⟩, V, ⟨some ⟨b, off, none⟩, k, by rw [hl], by rw [hl]; exact hc, fun i hi => ?_⟩, fun i p hp => h2 i p ?_⟩
  · rw [hl] at hi
    obtain ⟨b', off', e, hb, h3⟩ := h1 i (by omega)
    refine ⟨b', off', e, hb, fun j hj => ?_⟩
    rw [h3 j hj]
    simp only [pkCells, List.getD_eq_getElem?_getD, List.getElem?_take_of_lt hi]
  · have hi : i < k := by
      have := (List.getElem?_eq_some_iff.1 hp).1
      omega
    rw [List.getElem?_take_of_lt hi] at hp
    exact hp
theorem PksAt.head {w : World} {B b off n c k c2 : Nat} {q : List Pk} (h : PksAt w B (.slice (some ⟨b, off, none⟩) n c) q) (hk : k ≤ q.length) (h1 : k ≤ c2) (h2 : c2 ≤ maxLen) : PksAt w B (.slice (some ⟨b, off, none⟩) k c2) (q.take k) := by
  obtain ⟨f, V, ⟨A', c', hv, hm, h3⟩, h4⟩ := h.take hk (Nat.le_trans h1 h2)
  have hl : (q.take k).length = k := by simp; omega
  obtain ⟨rfl, _, rfl⟩ : A' = some ⟨b, off, none⟩ ∧ k = (q.take k).length ∧ k = c' := by simpa [eq_comm] using hv
  exact ⟨.inr ⟨_, _, _, rfl, h1, h2⟩, V, ⟨some ⟨b, off, none⟩, c2, by rw [hl], hm, h3⟩, h4⟩
theorem PksAt.drop {w : World} {B b off n c k : Nat} {q : List Pk} (h : PksAt w B (.slice (some ⟨b, off, none⟩) n c) q) (hk : k ≤ q.length) (hc : q.length ≤ c) (hcm : c ≤ maxLen) : PksAt w B (.slice (some ⟨b, off + k * 3, none⟩) (q.length - k) (c - k)) (q.drop k) := by
  obtain ⟨f, V, ⟨A', c', hv, hm, h1⟩, h2⟩ := h
  cases hv
  have hl : (q.drop k).length = q.length - k := by simp
  refine ⟨.inr ⟨_, _, _, rfl, by omega, by omega⟩, fun i => V (k + i), ⟨some ⟨b, off + k * 3, none⟩, c - k, by rw [hl], by rw [hl]; omega, fun i hi => ?_⟩, fun i p hp => h2 (k + i) p ?_⟩
  · rw [hl] at hi
    obtain ⟨b', off', e, hb, h3⟩ := h1 (k + i) (by omega)
    cases e
    refine ⟨b, off + k * 3, rfl, hb, fun j hj => ?_⟩
    have := h3 j hj
    rw [show off + k * 3 + (i * 3 + j) = off + ((k + i) * 3 + j) by omega, this]
    simp only [pkCells, List.getD_eq_getElem?_getD, List.getElem?_drop]
  · rw [List.getElem?_drop] at hp
    exact hp
theorem PksAt.none_left {w : World} {B b off n c : Nat} {q : List Pk} (_h : PksAt w B (.slice (some ⟨b, off, none⟩) n c) q) : PksAt w B (.slice (some ⟨b, off, none⟩) 0 0) [] :=
  ⟨.inr ⟨_, _, _, rfl, Nat.le_refl _, Nat.zero_le _⟩, fun _ => undef, ⟨_, _, rfl, Nat.zero_le _, fun i hi => by simp at hi⟩, fun i p hp => by simp at hp⟩
theorem PksAt.addr {w : World} {B n c k : Nat} {A : Option Addr} {q : List Pk} (h : PksAt w B (.slice A n c) q) (hk : k < q.length) : ∃ b off, A = some ⟨b, off, none⟩ := by
  obtain ⟨f, V, ⟨A', c', hv, hm, h1⟩, h2⟩ := h
  cases hv
  obtain ⟨b, off, e, _⟩ := h1 k hk
  exact ⟨b, off, e⟩
/-- A result that is a net. -/
def RetN1 (t : Net) (D : Nat) (w : World) (e : Ending) (w' : World) : Prop := ∃ (Vq Va : Value), e = .returned (.agg #[Vq, Va]) ∧ Hid (Net2 w' D w.heap.size Vq Va t) ∧ Below w.heap.size w w'

set_option maxRecDepth 100000 in
set_option maxHeartbeats 4000000 in
theorem nWithout_1 (n : Net) (b off nq cq : Nat) (Aa : Option Addr) (na ca : Nat) (k : Nat) (w : World) (D : Nat) (hDw : D ≤ w.heap.size) (hN : Hid (NetAt w D (.slice (some ⟨b, off, none⟩) nq cq) (.slice Aa na ca) n)) (hnq : Hid (n.queue.length = nq)) (hk : k < nq) (_hcq : (nq : Int) ≤ (cq : Int)) (_hcm : cq ≤ 9223372036854775807) (hn4 : nq ≤ 4096) (_hc : k + 1 < cq) : Calls Try.prog 38 #[.agg #[.slice (some ⟨b, off, none⟩) nq cq, .slice Aa na ca], .int .i64 (k : Int)] w (RetN1 (n.without k) D w) := by
  have X0 := (Box.new w [.slice (some ⟨b, off, none⟩) nq cq, .slice Aa na ca] 25).alloc (.cells #[.slice none 0 0, .slice none 0 0] 25)
  have R := Box.newAt (w := w.alloc (.cells #[.slice (some ⟨b, off, none⟩) nq cq, .slice Aa na ca] 25)) (n := w.heap.size + 1) [.slice none 0 0, .slice none 0 0] 25 (by simp)
  have hB := ((Below.refl w.heap.size w).alloc (Nat.le_refl _) (.cells #[.slice (some ⟨b, off, none⟩) nq cq, .slice Aa na ca] 25)).alloc (by simp) (.cells #[.slice none 0 0, .slice none 0 0] 25)
  have k1 : (0 : Int) ≤ (k : Int) := by omega
  have k2 : (k : Int) ≤ (cq : Int) := by omega
  have k3 : (k : Int) + 1 ≤ (nq : Int) := by omega
  have k4 : IntKind.i64.wrap ((k : Int) + 1) = (k : Int) + 1 := IntWalk.i64_in _ (by omega)
  have k5 : ((k : Int) + 1).toNat = k + 1 := by omega
  go_enter Try.func38, Try.ntmps38
  go_wp2_with fail
  generalize (w.alloc (.cells #[.slice (some ⟨b, off, none⟩) nq cq, .slice Aa na ca] 25)).alloc (.cells #[.slice none 0 0, .slice none 0 0] 25) = W at X0 R hB ⊢
  have y0 : W.cell? ⟨w.heap.size, 0, none⟩ = some (.slice (some ⟨b, off, none⟩) nq cq) := X0.cell 0
  have y1 : W.cell? ⟨w.heap.size, 1, none⟩ = some (.slice Aa na ca) := X0.cell 1
  have yf : W.frozen? ⟨w.heap.size, 0, none⟩ = false := X0.free 0
  have yz : w.heap.size < W.heap.size := X0.lt
  have hdr : Below w.heap.size w W.drew := hB.drew
  have hQ0 := (hN.out.below (hdr.mono hDw)).queue
  have hQ := hQ0.take (k := k) (by rw [hnq.out]; omega) (by simp only [maxLen]; omega)
  have hI : PksIn W.drew W.drew.heap.size D (.slice (some ⟨b, off + (k + 1) * 3, none⟩) (nq - (k + 1)) (cq - (k + 1))) (n.queue.drop (k + 1)) := by
    have h := (hQ0.drop (k := k + 1) (by rw [hnq.out]; omega) (by rw [hnq.out]; omega) (by simp only [maxLen]; omega)).within (Nat.le_trans hDw hdr.size)
    rw [hnq.out] at h
    exact h
  obtain ⟨A', n', c', w5, hrun0, hq5, hb5⟩ := run_app_pk 22 hQ hI (Nat.le_trans hDw hdr.size) (by simp only [List.length_take, List.length_drop, hnq.out]; omega) (by simp only [List.length_take, List.length_drop, hnq.out]; omega)
  have hrun : (appF #[22, 22] 22 #[.slice (some ⟨b, off, none⟩) k k, .slice (some ⟨b, off + (k + 1) * 3, none⟩) (nq - (k + 1)) (cq - (k + 1))]).run Try.prog W.drew = .ok (.slice A' n' c') w5 := hrun0
  have hB5 : Below w.heap.size w w5 := hdr.trans (hb5.mono hdr.size)
  have HQ5 := Lib.hid hq5
  have Y0 := X0.drew.later hb5
  have YR := R.drew.later hb5
  have hcur : w.heap.size + 1 < W.drew.heap.size := R.drew.lt
  clear hq5 hQ hQ0 hI hrun0 hb5
  have y5 : w5.cell? ⟨w.heap.size, 0, none⟩ = some (.slice (some ⟨b, off, none⟩) nq cq) := Y0.cell 0
  have y6 : w5.cell? ⟨w.heap.size, 1, none⟩ = some (.slice Aa na ca) := Y0.cell 1
  have y7 : w5.frozen? ⟨w.heap.size, 0, none⟩ = false := Y0.free 0
  have y8 : w.heap.size < w5.heap.size := Y0.lt
  have r0 : w5.cell? ⟨w.heap.size + 1, 0, none⟩ = some (.slice none 0 0) := YR.cell 0
  have r1 : w5.cell? ⟨w.heap.size + 1, 1, none⟩ = some (.slice none 0 0) := YR.cell 1
  have rf0 : w5.frozen? ⟨w.heap.size + 1, 0, none⟩ = false := YR.free 0
  have rf1 : w5.frozen? ⟨w.heap.size + 1, 1, none⟩ = false := YR.free 1
  have rz : w.heap.size + 1 < w5.heap.size := YR.lt
  go_region
  go_wp2
  have hne : w.heap.size + 1 ≠ w.heap.size := by omega
  have ZR := ((YR.other (a := ⟨w.heap.size, 0, none⟩) hne (.slice A' n' c')).set 0 (.slice A' n' c')).set 1 (.slice Aa na ca)
  have HB := ((hB5.setCell (p := ⟨w.heap.size, 0, none⟩) (Nat.le_refl _) (.slice A' n' c')).setCell (p := ⟨w.heap.size + 1, 0, none⟩) (by simp) (.slice A' n' c')).setCell (p := ⟨w.heap.size + 1, 1, none⟩) (by simp) (.slice Aa na ca)
  have HQ := ((HQ5.out.set (a := ⟨w.heap.size, 0, none⟩) hDw (by simp only []; omega) (.slice A' n' c')).set (a := ⟨w.heap.size + 1, 0, none⟩) (by simp; omega) (by simpa using hcur) (.slice A' n' c')).set (a := ⟨w.heap.size + 1, 1, none⟩) (by simp; omega) (by simpa using hcur) (.slice Aa na ca)
  generalize ((w5.setCell ⟨w.heap.size, 0, none⟩ (.slice A' n' c')).setCell ⟨w.heap.size + 1, 0, none⟩ (.slice A' n' c')).setCell ⟨w.heap.size + 1, 1, none⟩ (.slice Aa na ca) = W2 at ZR HB HQ ⊢
  have z0 : W2.cell? ⟨w.heap.size + 1, 0, none⟩ = some (.slice A' n' c') := ZR.cell 0
  have z1 : W2.cell? ⟨w.heap.size + 1, 1, none⟩ = some (.slice Aa na ca) := ZR.cell 1
  refine bodyPost_ret (v := .agg #[(.slice A' n' c'), .slice Aa na ca]) (by simp [results, Try.results38, go_sem, z0, z1]) rfl ?_
  exact ⟨_, _, rfl, ⟨HQ.lower (by first | exact hB.size | (simp; exact hB.size)), (hN.out.apart.below (HB.mono hDw)).two (Nat.le_trans hDw HB.size)⟩, HB⟩

set_option maxRecDepth 100000 in
set_option maxHeartbeats 4000000 in
theorem nWithout_2 (n : Net) (b off nq : Nat) (Aa : Option Addr) (na ca : Nat) (k : Nat) (w : World) (D : Nat) (hDw : D ≤ w.heap.size) (hN : Hid (NetAt w D (.slice (some ⟨b, off, none⟩) nq (k + 1)) (.slice Aa na ca) n)) (hnq : Hid (n.queue.length = nq)) (hk : k < nq) (_hcq : (nq : Int) ≤ (k : Int) + 1) (hn4 : nq ≤ 4096) : Calls Try.prog 38 #[.agg #[.slice (some ⟨b, off, none⟩) nq (k + 1), .slice Aa na ca], .int .i64 (k : Int)] w (RetN1 (n.without k) D w) := by
  have X0 := (Box.new w [.slice (some ⟨b, off, none⟩) nq (k + 1), .slice Aa na ca] 25).alloc (.cells #[.slice none 0 0, .slice none 0 0] 25)
  have R := Box.newAt (w := w.alloc (.cells #[.slice (some ⟨b, off, none⟩) nq (k + 1), .slice Aa na ca] 25)) (n := w.heap.size + 1) [.slice none 0 0, .slice none 0 0] 25 (by simp)
  have hB := ((Below.refl w.heap.size w).alloc (Nat.le_refl _) (.cells #[.slice (some ⟨b, off, none⟩) nq (k + 1), .slice Aa na ca] 25)).alloc (by simp) (.cells #[.slice none 0 0, .slice none 0 0] 25)
  have k1 : (0 : Int) ≤ (k : Int) := by omega
  have k2 : (k : Int) ≤ (k : Int) + 1 := by omega
  have k3 : (k : Int) + 1 ≤ (nq : Int) := by omega
  have k4 : IntKind.i64.wrap ((k : Int) + 1) = (k : Int) + 1 := IntWalk.i64_in _ (by omega)
  have k5 : ((k : Int) + 1).toNat = k + 1 := by omega
  go_enter Try.func38, Try.ntmps38
  go_wp2_with fail
  generalize (w.alloc (.cells #[.slice (some ⟨b, off, none⟩) nq (k + 1), .slice Aa na ca] 25)).alloc (.cells #[.slice none 0 0, .slice none 0 0] 25) = W at X0 R hB ⊢
  have y0 : W.cell? ⟨w.heap.size, 0, none⟩ = some (.slice (some ⟨b, off, none⟩) nq (k + 1)) := X0.cell 0
  have y1 : W.cell? ⟨w.heap.size, 1, none⟩ = some (.slice Aa na ca) := X0.cell 1
  have yf : W.frozen? ⟨w.heap.size, 0, none⟩ = false := X0.free 0
  have yz : w.heap.size < W.heap.size := X0.lt
  have hdr : Below w.heap.size w W.drew := hB.drew
  have hQ0 := (hN.out.below (hdr.mono hDw)).queue
  have hQ := hQ0.take (k := k) (by rw [hnq.out]; omega) (by simp only [maxLen]; omega)
  have hI : PksIn W.drew W.drew.heap.size D (.slice (some ⟨b, off, none⟩) (nq - (k + 1)) 0) (n.queue.drop (k + 1)) := by
    have h := (PksAt.none_left hQ0).within (Nat.le_trans hDw hdr.size)
    have e0 : nq - (k + 1) = 0 := by omega
    have e1 : n.queue.drop (k + 1) = [] := List.drop_eq_nil_of_le (by rw [hnq.out]; omega)
    rw [e0, e1]
    exact h
  obtain ⟨A', n', c', w5, hrun0, hq5, hb5⟩ := run_app_pk 22 hQ hI (Nat.le_trans hDw hdr.size) (by simp only [List.length_take, List.length_drop, hnq.out]; omega) (by simp only [List.length_take, List.length_drop, hnq.out]; omega)
  have hrun : (appF #[22, 22] 22 #[.slice (some ⟨b, off, none⟩) k k, .slice (some ⟨b, off, none⟩) (nq - (k + 1)) 0]).run Try.prog W.drew = .ok (.slice A' n' c') w5 := hrun0
  have hB5 : Below w.heap.size w w5 := hdr.trans (hb5.mono hdr.size)
  have HQ5 := Lib.hid hq5
  have Y0 := X0.drew.later hb5
  have YR := R.drew.later hb5
  have hcur : w.heap.size + 1 < W.drew.heap.size := R.drew.lt
  clear hq5 hQ hQ0 hI hrun0 hb5
  have y5 : w5.cell? ⟨w.heap.size, 0, none⟩ = some (.slice (some ⟨b, off, none⟩) nq (k + 1)) := Y0.cell 0
  have y6 : w5.cell? ⟨w.heap.size, 1, none⟩ = some (.slice Aa na ca) := Y0.cell 1
  have y7 : w5.frozen? ⟨w.heap.size, 0, none⟩ = false := Y0.free 0
  have y8 : w.heap.size < w5.heap.size := Y0.lt
  have r0 : w5.cell? ⟨w.heap.size + 1, 0, none⟩ = some (.slice none 0 0) := YR.cell 0
  have r1 : w5.cell? ⟨w.heap.size + 1, 1, none⟩ = some (.slice none 0 0) := YR.cell 1
  have rf0 : w5.frozen? ⟨w.heap.size + 1, 0, none⟩ = false := YR.free 0
  have rf1 : w5.frozen? ⟨w.heap.size + 1, 1, none⟩ = false := YR.free 1
  have rz : w.heap.size + 1 < w5.heap.size := YR.lt
  go_region
  go_wp2
  have hne : w.heap.size + 1 ≠ w.heap.size := by omega
  have ZR := ((YR.other (a := ⟨w.heap.size, 0, none⟩) hne (.slice A' n' c')).set 0 (.slice A' n' c')).set 1 (.slice Aa na ca)
  have HB := ((hB5.setCell (p := ⟨w.heap.size, 0, none⟩) (Nat.le_refl _) (.slice A' n' c')).setCell (p := ⟨w.heap.size + 1, 0, none⟩) (by simp) (.slice A' n' c')).setCell (p := ⟨w.heap.size + 1, 1, none⟩) (by simp) (.slice Aa na ca)
  have HQ := ((HQ5.out.set (a := ⟨w.heap.size, 0, none⟩) hDw (by simp only []; omega) (.slice A' n' c')).set (a := ⟨w.heap.size + 1, 0, none⟩) (by simp; omega) (by simpa using hcur) (.slice A' n' c')).set (a := ⟨w.heap.size + 1, 1, none⟩) (by simp; omega) (by simpa using hcur) (.slice Aa na ca)
  generalize ((w5.setCell ⟨w.heap.size, 0, none⟩ (.slice A' n' c')).setCell ⟨w.heap.size + 1, 0, none⟩ (.slice A' n' c')).setCell ⟨w.heap.size + 1, 1, none⟩ (.slice Aa na ca) = W2 at ZR HB HQ ⊢
  have z0 : W2.cell? ⟨w.heap.size + 1, 0, none⟩ = some (.slice A' n' c') := ZR.cell 0
  have z1 : W2.cell? ⟨w.heap.size + 1, 1, none⟩ = some (.slice Aa na ca) := ZR.cell 1
  refine bodyPost_ret (v := .agg #[(.slice A' n' c'), .slice Aa na ca]) (by simp [results, Try.results38, go_sem, z0, z1]) rfl ?_
  exact ⟨_, _, rfl, ⟨HQ.lower (by first | exact hB.size | (simp; exact hB.size)), (hN.out.apart.below (HB.mono hDw)).two (Nat.le_trans hDw HB.size)⟩, HB⟩

theorem nWithout_any (n : Net) (Vq Va : Value) (k : Nat) (w : World) (D : Nat) (hDw : D ≤ w.heap.size) (hN : NetAt w D Vq Va n) (hk : k < n.queue.length) (h4 : n.queue.length ≤ 4096) : Calls Try.prog 38 #[.agg #[Vq, Va], .int .i64 (k : Int)] w (RetN1 (n.without k) D w) := by
  obtain ⟨Aq, cq, rfl, hmq⟩ := hN.queue.form
  obtain ⟨Aa, ca, rfl, _⟩ := hN.apart.form
  obtain ⟨_, _, hf, hc, hcm⟩ := hN.queue.clip
  obtain ⟨b, off, rfl⟩ : ∃ b off, Aq = some ⟨b, off, none⟩ := hN.queue.addr hk
  unfold maxLen at hcm
  rcases Nat.lt_or_ge (k + 1) cq with h | h
  · exact nWithout_1 n b off _ cq Aa _ ca k w D hDw hN rfl hk (by omega) hcm h4 h
  · obtain rfl : cq = k + 1 := by omega
    exact nWithout_2 n b off _ Aa _ ca k w D hDw hN rfl hk (by omega) h4

set_option maxRecDepth 100000 in
set_option maxHeartbeats 4000000 in
theorem nRWithout_1 (n : Net) (b off nq cq : Nat) (Aa : Option Addr) (na ca : Nat) (k : Nat) (w : World) (D : Nat) (hDw : D ≤ w.heap.size) (hN : Hid (NetAt w D (.slice (some ⟨b, off, none⟩) nq cq) (.slice Aa na ca) n)) (hnq : Hid (n.queue.length = nq)) (hk : k < nq) (_hcq : (nq : Int) ≤ (cq : Int)) (_hcm : cq ≤ 9223372036854775807) (hn4 : nq ≤ 4096) (_hc : k + 1 < cq) : Calls Try.prog 42 #[.agg #[.slice (some ⟨b, off, none⟩) nq cq, .slice Aa na ca], .int .i64 (k : Int)] w (RetN1 (n.without k) D w) := by
  have X0 := (Box.new w [.slice (some ⟨b, off, none⟩) nq cq, .slice Aa na ca] 25).alloc (.cells #[.slice none 0 0, .slice none 0 0] 25)
  have R := Box.newAt (w := w.alloc (.cells #[.slice (some ⟨b, off, none⟩) nq cq, .slice Aa na ca] 25)) (n := w.heap.size + 1) [.slice none 0 0, .slice none 0 0] 25 (by simp)
  have hB := ((Below.refl w.heap.size w).alloc (Nat.le_refl _) (.cells #[.slice (some ⟨b, off, none⟩) nq cq, .slice Aa na ca] 25)).alloc (by simp) (.cells #[.slice none 0 0, .slice none 0 0] 25)
  have k1 : (0 : Int) ≤ (k : Int) := by omega
  have k2 : (k : Int) ≤ (cq : Int) := by omega
  have k3 : (k : Int) + 1 ≤ (nq : Int) := by omega
  have k4 : IntKind.i64.wrap ((k : Int) + 1) = (k : Int) + 1 := IntWalk.i64_in _ (by omega)
  have k5 : ((k : Int) + 1).toNat = k + 1 := by omega
  go_enter Try.func42, Try.ntmps42
  go_wp2_with fail
  generalize (w.alloc (.cells #[.slice (some ⟨b, off, none⟩) nq cq, .slice Aa na ca] 25)).alloc (.cells #[.slice none 0 0, .slice none 0 0] 25) = W at X0 R hB ⊢
  have y0 : W.cell? ⟨w.heap.size, 0, none⟩ = some (.slice (some ⟨b, off, none⟩) nq cq) := X0.cell 0
  have y1 : W.cell? ⟨w.heap.size, 1, none⟩ = some (.slice Aa na ca) := X0.cell 1
  have yf : W.frozen? ⟨w.heap.size, 0, none⟩ = false := X0.free 0
  have yz : w.heap.size < W.heap.size := X0.lt
  have hB1 : Below w.heap.size w (W.alloc (.cells #[] 28)).drew := (hB.alloc hB.size (.cells #[] 28)).drew
  have hQ0 := (hN.out.below (hB1.mono hDw)).queue
  have O0 : OwnPk (W.alloc (.cells #[] 28)).drew W.heap.size D (.slice (some ⟨W.heap.size, 0, none⟩) 0 0) [] := ownPk_empty (heap_new W _ _) (Nat.le_refl _)
  have S1 : PksIn (W.alloc (.cells #[] 28)).drew (W.alloc (.cells #[] 28)).drew.heap.size D (.slice (some ⟨b, off, none⟩) k cq) (n.queue.take k) := (hQ0.head (k := k) (by rw [hnq.out]; omega) (by omega) (by simp only [maxLen]; omega)).within (Nat.le_trans hDw hB1.size)
  obtain ⟨v1, x1, hr1, O1, hb1, _⟩ := run_own_pk 22 O0 S1 (Nat.le_trans hDw hB.size) (by simp) (by simp only [List.length_take, List.length_nil, hnq.out]; omega)
  have R1 : (appF #[22, 22] 22 #[.slice (some ⟨W.heap.size, 0, none⟩) 0 0, .slice (some ⟨b, off, none⟩) k cq]).run Try.prog (W.alloc (.cells #[] 28)).drew = .ok v1 x1 := hr1
  rw [List.nil_append] at O1
  have B1 : Below w.heap.size w x1 := hB1.trans (hb1.mono hB.size)
  have z1 : W.heap.size ≤ x1.heap.size := by have := hb1.size; simp at this; omega
  have hQ1 := (hN.out.below (B1.mono hDw)).queue
  have X1 := ((X0.alloc (.cells #[] 28)).drew).keep X0.lt hb1
  have RR := ((R.alloc (.cells #[] 28)).drew).keep R.lt hb1
  have S2 : PksIn x1 x1.heap.size D (.slice (some ⟨b, off + (k + 1) * 3, none⟩) (nq - (k + 1)) (cq - (k + 1))) (n.queue.drop (k + 1)) := by
    have h := (hQ1.drop (k := k + 1) (by rw [hnq.out]; omega) (by rw [hnq.out]; omega) (by simp only [maxLen]; omega)).within (Nat.le_trans hDw B1.size)
    rw [hnq.out] at h
    exact h
  obtain ⟨v2, w5, hr2, O2, hb2, _⟩ := run_own_pk 22 O1 S2 (Nat.le_trans hDw hB.size) z1 (by simp only [List.length_take, List.length_drop, hnq.out]; omega)
  obtain ⟨A', n', c', rfl⟩ := O2.form
  have R2 : (appF #[22, 22] 22 #[v1, .slice (some ⟨b, off + (k + 1) * 3, none⟩) (nq - (k + 1)) (cq - (k + 1))]).run Try.prog x1 = .ok (.slice A' n' c') w5 := hr2
  have hB5 : Below w.heap.size w w5 := B1.trans (hb2.mono hB.size)
  have hql : (n.queue.take k ++ n.queue.drop (k + 1)).length ≤ maxLen := by simp only [List.length_append, List.length_take, List.length_drop, maxLen, hnq.out]; omega
  have HQ5 := Lib.hid (O2.two hql)
  have Y0 := X1.keep X0.lt hb2
  have YR := RR.keep R.lt hb2
  have hcur : w.heap.size + 1 < W.heap.size := R.lt
  have x5 : x1.cell? ⟨w.heap.size, 0, none⟩ = some (.slice (some ⟨b, off, none⟩) nq cq) := X1.cell 0
  clear O0 S1 O1 B1 z1 hQ0 hQ1 X1 RR S2 hr1 hr2 hb1 hb2 O2 hql
  have y5 : w5.cell? ⟨w.heap.size, 0, none⟩ = some (.slice (some ⟨b, off, none⟩) nq cq) := Y0.cell 0
  have y6 : w5.cell? ⟨w.heap.size, 1, none⟩ = some (.slice Aa na ca) := Y0.cell 1
  have y7 : w5.frozen? ⟨w.heap.size, 0, none⟩ = false := Y0.free 0
  have y8 : w.heap.size < w5.heap.size := Y0.lt
  have r0 : w5.cell? ⟨w.heap.size + 1, 0, none⟩ = some (.slice none 0 0) := YR.cell 0
  have r1 : w5.cell? ⟨w.heap.size + 1, 1, none⟩ = some (.slice none 0 0) := YR.cell 1
  have rf0 : w5.frozen? ⟨w.heap.size + 1, 0, none⟩ = false := YR.free 0
  have rf1 : w5.frozen? ⟨w.heap.size + 1, 1, none⟩ = false := YR.free 1
  have rz : w.heap.size + 1 < w5.heap.size := YR.lt
  go_region
  go_wp2
  have hne : w.heap.size + 1 ≠ w.heap.size := by omega
  have ZR := ((YR.other (a := ⟨w.heap.size, 0, none⟩) hne (.slice A' n' c')).set 0 (.slice A' n' c')).set 1 (.slice Aa na ca)
  have HB := ((hB5.setCell (p := ⟨w.heap.size, 0, none⟩) (Nat.le_refl _) (.slice A' n' c')).setCell (p := ⟨w.heap.size + 1, 0, none⟩) (by simp) (.slice A' n' c')).setCell (p := ⟨w.heap.size + 1, 1, none⟩) (by simp) (.slice Aa na ca)
  have HQ := ((HQ5.out.set (a := ⟨w.heap.size, 0, none⟩) hDw (by simp only []; omega) (.slice A' n' c')).set (a := ⟨w.heap.size + 1, 0, none⟩) (by simp; omega) (by simpa using hcur) (.slice A' n' c')).set (a := ⟨w.heap.size + 1, 1, none⟩) (by simp; omega) (by simpa using hcur) (.slice Aa na ca)
  generalize ((w5.setCell ⟨w.heap.size, 0, none⟩ (.slice A' n' c')).setCell ⟨w.heap.size + 1, 0, none⟩ (.slice A' n' c')).setCell ⟨w.heap.size + 1, 1, none⟩ (.slice Aa na ca) = W2 at ZR HB HQ ⊢
  have z0 : W2.cell? ⟨w.heap.size + 1, 0, none⟩ = some (.slice A' n' c') := ZR.cell 0
  have z1 : W2.cell? ⟨w.heap.size + 1, 1, none⟩ = some (.slice Aa na ca) := ZR.cell 1
  refine bodyPost_ret (v := .agg #[(.slice A' n' c'), .slice Aa na ca]) (by simp [results, Try.results42, go_sem, z0, z1]) rfl ?_
  exact ⟨_, _, rfl, ⟨HQ.lower (by first | exact hB.size | (simp; exact hB.size)), (hN.out.apart.below (HB.mono hDw)).two (Nat.le_trans hDw HB.size)⟩, HB⟩

set_option maxRecDepth 100000 in
set_option maxHeartbeats 4000000 in
theorem nRWithout_2 (n : Net) (b off nq : Nat) (Aa : Option Addr) (na ca : Nat) (k : Nat) (w : World) (D : Nat) (hDw : D ≤ w.heap.size) (hN : Hid (NetAt w D (.slice (some ⟨b, off, none⟩) nq (k + 1)) (.slice Aa na ca) n)) (hnq : Hid (n.queue.length = nq)) (hk : k < nq) (_hcq : (nq : Int) ≤ (k : Int) + 1) (hn4 : nq ≤ 4096) : Calls Try.prog 42 #[.agg #[.slice (some ⟨b, off, none⟩) nq (k + 1), .slice Aa na ca], .int .i64 (k : Int)] w (RetN1 (n.without k) D w) := by
  have X0 := (Box.new w [.slice (some ⟨b, off, none⟩) nq (k + 1), .slice Aa na ca] 25).alloc (.cells #[.slice none 0 0, .slice none 0 0] 25)
  have R := Box.newAt (w := w.alloc (.cells #[.slice (some ⟨b, off, none⟩) nq (k + 1), .slice Aa na ca] 25)) (n := w.heap.size + 1) [.slice none 0 0, .slice none 0 0] 25 (by simp)
  have hB := ((Below.refl w.heap.size w).alloc (Nat.le_refl _) (.cells #[.slice (some ⟨b, off, none⟩) nq (k + 1), .slice Aa na ca] 25)).alloc (by simp) (.cells #[.slice none 0 0, .slice none 0 0] 25)
  have k1 : (0 : Int) ≤ (k : Int) := by omega
  have k2 : (k : Int) ≤ (k : Int) + 1 := by omega
  have k3 : (k : Int) + 1 ≤ (nq : Int) := by omega
  have k4 : IntKind.i64.wrap ((k : Int) + 1) = (k : Int) + 1 := IntWalk.i64_in _ (by omega)
  have k5 : ((k : Int) + 1).toNat = k + 1 := by omega
  go_enter Try.func42, Try.ntmps42
  go_wp2_with fail
  generalize (w.alloc (.cells #[.slice (some ⟨b, off, none⟩) nq (k + 1), .slice Aa na ca] 25)).alloc (.cells #[.slice none 0 0, .slice none 0 0] 25) = W at X0 R hB ⊢
  have y0 : W.cell? ⟨w.heap.size, 0, none⟩ = some (.slice (some ⟨b, off, none⟩) nq (k + 1)) := X0.cell 0
  have y1 : W.cell? ⟨w.heap.size, 1, none⟩ = some (.slice Aa na ca) := X0.cell 1
  have yf : W.frozen? ⟨w.heap.size, 0, none⟩ = false := X0.free 0
  have yz : w.heap.size < W.heap.size := X0.lt
  have hB1 : Below w.heap.size w (W.alloc (.cells #[] 28)).drew := (hB.alloc hB.size (.cells #[] 28)).drew
  have hQ0 := (hN.out.below (hB1.mono hDw)).queue
  have O0 : OwnPk (W.alloc (.cells #[] 28)).drew W.heap.size D (.slice (some ⟨W.heap.size, 0, none⟩) 0 0) [] := ownPk_empty (heap_new W _ _) (Nat.le_refl _)
  have S1 : PksIn (W.alloc (.cells #[] 28)).drew (W.alloc (.cells #[] 28)).drew.heap.size D (.slice (some ⟨b, off, none⟩) k (k + 1)) (n.queue.take k) := (hQ0.head (k := k) (by rw [hnq.out]; omega) (by omega) (by simp only [maxLen]; omega)).within (Nat.le_trans hDw hB1.size)
  obtain ⟨v1, x1, hr1, O1, hb1, _⟩ := run_own_pk 22 O0 S1 (Nat.le_trans hDw hB.size) (by simp) (by simp only [List.length_take, List.length_nil, hnq.out]; omega)
  have R1 : (appF #[22, 22] 22 #[.slice (some ⟨W.heap.size, 0, none⟩) 0 0, .slice (some ⟨b, off, none⟩) k (k + 1)]).run Try.prog (W.alloc (.cells #[] 28)).drew = .ok v1 x1 := hr1
  rw [List.nil_append] at O1
  have B1 : Below w.heap.size w x1 := hB1.trans (hb1.mono hB.size)
  have z1 : W.heap.size ≤ x1.heap.size := by have := hb1.size; simp at this; omega
  have hQ1 := (hN.out.below (B1.mono hDw)).queue
  have X1 := ((X0.alloc (.cells #[] 28)).drew).keep X0.lt hb1
  have RR := ((R.alloc (.cells #[] 28)).drew).keep R.lt hb1
  have S2 : PksIn x1 x1.heap.size D (.slice (some ⟨b, off, none⟩) (nq - (k + 1)) 0) (n.queue.drop (k + 1)) := by
    have h := (PksAt.none_left hQ1).within (Nat.le_trans hDw B1.size)
    have e0 : nq - (k + 1) = 0 := by omega
    have e1 : n.queue.drop (k + 1) = [] := List.drop_eq_nil_of_le (by rw [hnq.out]; omega)
    rw [e0, e1]
    exact h
  obtain ⟨v2, w5, hr2, O2, hb2, _⟩ := run_own_pk 22 O1 S2 (Nat.le_trans hDw hB.size) z1 (by simp only [List.length_take, List.length_drop, hnq.out]; omega)
  obtain ⟨A', n', c', rfl⟩ := O2.form
  have R2 : (appF #[22, 22] 22 #[v1, .slice (some ⟨b, off, none⟩) (nq - (k + 1)) 0]).run Try.prog x1 = .ok (.slice A' n' c') w5 := hr2
  have hB5 : Below w.heap.size w w5 := B1.trans (hb2.mono hB.size)
  have hql : (n.queue.take k ++ n.queue.drop (k + 1)).length ≤ maxLen := by simp only [List.length_append, List.length_take, List.length_drop, maxLen, hnq.out]; omega
  have HQ5 := Lib.hid (O2.two hql)
  have Y0 := X1.keep X0.lt hb2
  have YR := RR.keep R.lt hb2
  have hcur : w.heap.size + 1 < W.heap.size := R.lt
  have x5 : x1.cell? ⟨w.heap.size, 0, none⟩ = some (.slice (some ⟨b, off, none⟩) nq (k + 1)) := X1.cell 0
  clear O0 S1 O1 B1 z1 hQ0 hQ1 X1 RR S2 hr1 hr2 hb1 hb2 O2 hql
  have y5 : w5.cell? ⟨w.heap.size, 0, none⟩ = some (.slice (some ⟨b, off, none⟩) nq (k + 1)) := Y0.cell 0
  have y6 : w5.cell? ⟨w.heap.size, 1, none⟩ = some (.slice Aa na ca) := Y0.cell 1
  have y7 : w5.frozen? ⟨w.heap.size, 0, none⟩ = false := Y0.free 0
  have y8 : w.heap.size < w5.heap.size := Y0.lt
  have r0 : w5.cell? ⟨w.heap.size + 1, 0, none⟩ = some (.slice none 0 0) := YR.cell 0
  have r1 : w5.cell? ⟨w.heap.size + 1, 1, none⟩ = some (.slice none 0 0) := YR.cell 1
  have rf0 : w5.frozen? ⟨w.heap.size + 1, 0, none⟩ = false := YR.free 0
  have rf1 : w5.frozen? ⟨w.heap.size + 1, 1, none⟩ = false := YR.free 1
  have rz : w.heap.size + 1 < w5.heap.size := YR.lt
  go_region
  go_wp2
  have hne : w.heap.size + 1 ≠ w.heap.size := by omega
  have ZR := ((YR.other (a := ⟨w.heap.size, 0, none⟩) hne (.slice A' n' c')).set 0 (.slice A' n' c')).set 1 (.slice Aa na ca)
  have HB := ((hB5.setCell (p := ⟨w.heap.size, 0, none⟩) (Nat.le_refl _) (.slice A' n' c')).setCell (p := ⟨w.heap.size + 1, 0, none⟩) (by simp) (.slice A' n' c')).setCell (p := ⟨w.heap.size + 1, 1, none⟩) (by simp) (.slice Aa na ca)
  have HQ := ((HQ5.out.set (a := ⟨w.heap.size, 0, none⟩) hDw (by simp only []; omega) (.slice A' n' c')).set (a := ⟨w.heap.size + 1, 0, none⟩) (by simp; omega) (by simpa using hcur) (.slice A' n' c')).set (a := ⟨w.heap.size + 1, 1, none⟩) (by simp; omega) (by simpa using hcur) (.slice Aa na ca)
  generalize ((w5.setCell ⟨w.heap.size, 0, none⟩ (.slice A' n' c')).setCell ⟨w.heap.size + 1, 0, none⟩ (.slice A' n' c')).setCell ⟨w.heap.size + 1, 1, none⟩ (.slice Aa na ca) = W2 at ZR HB HQ ⊢
  have z0 : W2.cell? ⟨w.heap.size + 1, 0, none⟩ = some (.slice A' n' c') := ZR.cell 0
  have z1 : W2.cell? ⟨w.heap.size + 1, 1, none⟩ = some (.slice Aa na ca) := ZR.cell 1
  refine bodyPost_ret (v := .agg #[(.slice A' n' c'), .slice Aa na ca]) (by simp [results, Try.results42, go_sem, z0, z1]) rfl ?_
  exact ⟨_, _, rfl, ⟨HQ.lower (by first | exact hB.size | (simp; exact hB.size)), (hN.out.apart.below (HB.mono hDw)).two (Nat.le_trans hDw HB.size)⟩, HB⟩

theorem nRWithout_any (n : Net) (Vq Va : Value) (k : Nat) (w : World) (D : Nat) (hDw : D ≤ w.heap.size) (hN : NetAt w D Vq Va n) (hk : k < n.queue.length) (h4 : n.queue.length ≤ 4096) : Calls Try.prog 42 #[.agg #[Vq, Va], .int .i64 (k : Int)] w (RetN1 (n.without k) D w) := by
  obtain ⟨Aq, cq, rfl, hmq⟩ := hN.queue.form
  obtain ⟨Aa, ca, rfl, _⟩ := hN.apart.form
  obtain ⟨_, _, hf, hc, hcm⟩ := hN.queue.clip
  obtain ⟨b, off, rfl⟩ : ∃ b off, Aq = some ⟨b, off, none⟩ := hN.queue.addr hk
  unfold maxLen at hcm
  rcases Nat.lt_or_ge (k + 1) cq with h | h
  · exact nRWithout_1 n b off _ cq Aa _ ca k w D hDw hN rfl hk (by omega) hcm h4 h
  · obtain rfl : cq = k + 1 := by omega
    exact nRWithout_2 n b off _ Aa _ ca k w D hDw hN rfl hk (by omega) h4

end Go.Proofs.Ytndjpaiakodciaa
