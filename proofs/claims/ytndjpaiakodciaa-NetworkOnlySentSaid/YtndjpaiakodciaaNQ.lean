/-
  Contract of Same of the reference. No condition.
-/
import Derived.Test.YtndjpaiakodciaaNP
namespace Go.Proofs.Ytndjpaiakodciaa
open Go.RowKit
attribute [local go_sem ↓ high] eq_pair

theorem nSamePk_at {p q : Pk} {V U : Value} {w : World} {t : Bool} (h : Hid (samePk p q = t)) (hV : BytesAt w w.heap.size V p.data) (hU : BytesAt w w.heap.size U q.data) :
    Calls Try.prog 19 #[p.v V, q.v U] w fun e w' => e = .returned (.bool t) ∧ Below w.heap.size w w' :=
  (nSamePk_any p q V U w hV hU).mono fun _ _ ⟨he, hb⟩ => ⟨by rw [he, h.out], hb⟩
def samePkAt (a b : Net) (i : Nat) : Bool := samePk (a.queue.getD i Pk.zero) (b.queue.getD i Pk.zero)
def sameLkAt (a b : Net) (i : Nat) : Bool := decide (a.apart.getD i (0, 0) = b.apart.getD i (0, 0))
theorem sameNet_def (a b : Net) : sameNet a b = (decide (a.queue.length = b.queue.length) && (decide (a.apart.length = b.apart.length) && ((List.range a.queue.length).all (samePkAt a b) && (List.range a.apart.length).all (sameLkAt a b)))) := rfl
theorem getD_zero (q : List Pk) {k : Nat} (h : k < q.length) : q.getD k Pk.zero = q[k] := by
  rw [List.getD_eq_getElem?_getD, List.getElem?_eq_getElem h]
  rfl

set_option maxRecDepth 100000 in
set_option maxHeartbeats 4000000 in
theorem nSame_no (n m : Net) (Aq : Option Addr) (nq cq : Nat) (Aa : Option Addr) (na ca : Nat) (Bq : Option Addr) (mq dq : Nat) (Ba : Option Addr) (ma da : Nat) (w : World) 
    (h : Hid (nq ≠ mq ∨ na ≠ ma)) (hs : Hid (sameNet n m = false)) :
    Calls Try.prog 15 #[.agg #[.slice Aq nq cq, .slice Aa na ca], .agg #[.slice Bq mq dq, .slice Ba ma da]] w fun e w' => e = .returned (.bool (sameNet n m)) ∧ Below w.heap.size w w' := by
  have hB := ((Below.refl w.heap.size w).alloc (Nat.le_refl _) (.cells #[.slice Aq nq cq, .slice Aa na ca] 25)).alloc (by simp) (.cells #[.slice Bq mq dq, .slice Ba ma da] 25)
  by_cases h1 : nq = mq
  · have h2 : na ≠ ma := by rcases h.out with h | h <;> omega
    subst h1
    have e1 : ((nq : Int) != (nq : Int)) = false := by simp
    have e2 : ((na : Int) != (ma : Int)) = true := by simp; omega
    have e2 : (na != ma) = true := by simp; omega
    clear h2
    go_enter Try.func15, Try.ntmps15
    go_wp2
    go_ret
    exact ⟨by rw [hs.out]; rfl, hB⟩
  · have e1 : ((nq : Int) != (mq : Int)) = true := by simp; omega
    have e2 : (nq != mq) = true := by simp; omega
    clear h1
    go_enter Try.func15, Try.ntmps15
    go_wp2
    go_ret
    exact ⟨by rw [hs.out]; rfl, hB⟩

set_option maxRecDepth 100000 in
set_option maxHeartbeats 4000000 in
theorem nSame_go (n m : Net) (Aq : Option Addr) (nq cq : Nat) (Aa : Option Addr) (na ca : Nat) (Bq : Option Addr) (dq : Nat) (Ba : Option Addr) (da : Nat) (w : World) (D : Nat) (hDw : D ≤ w.heap.size)
    (hN : Hid (NetAt w D (.slice Aq nq cq) (.slice Aa na ca) n)) (hM : Hid (NetAt w D (.slice Bq nq dq) (.slice Ba na da) m)) (hq : nq ≤ 9223372036854775807) (ha : na ≤ 9223372036854775807)
    (hnq : Hid (n.queue.length = nq)) (hmq : Hid (m.queue.length = nq)) (hna : Hid (n.apart.length = na)) (hma : Hid (m.apart.length = na)) :
    Calls Try.prog 15 #[.agg #[.slice Aq nq cq, .slice Aa na ca], .agg #[.slice Bq nq dq, .slice Ba na da]] w fun e w' => e = .returned (.bool (sameNet n m)) ∧ Below w.heap.size w w' := by
  have hS : Hid (sameNet n m = ((List.range nq).all (samePkAt n m) && (List.range na).all (sameLkAt n m))) := by
    rw [Hid, sameNet_def, hnq.out, hmq.out, hna.out, hma.out]; simp
  have hB := ((Below.refl w.heap.size w).alloc (Nat.le_refl _) (.cells #[.slice Aq nq cq, .slice Aa na ca] 25)).alloc (by simp) (.cells #[.slice Bq nq dq, .slice Ba na da] 25)
  have X := (Box.new w [.slice Aq nq cq, .slice Aa na ca] 25).alloc (.cells #[.slice Bq nq dq, .slice Ba na da] 25)
  have Y := Box.newAt (w := w.alloc (.cells #[.slice Aq nq cq, .slice Aa na ca] 25)) (n := w.heap.size + 1) [.slice Bq nq dq, .slice Ba na da] 25 (by simp)
  go_enter Try.func15, Try.ntmps15
  go_wp2_with fail
  generalize (w.alloc (.cells #[.slice Aq nq cq, .slice Aa na ca] 25)).alloc (.cells #[.slice Bq nq dq, .slice Ba na da] 25) = W at hB X Y ⊢
  go_loopw [5] (fun i wr => ∃ k : Nat, k ≤ nq ∧ i = .int .i64 k ∧ Below w.heap.size w wr ∧ Box wr w.heap.size [.slice Aq nq cq, .slice Aa na ca] ∧ Box wr (w.heap.size + 1) [.slice Bq nq dq, .slice Ba na da] ∧ Hid ((List.range k).all (samePkAt n m) = true)) (fun i _ => nq - (intOf i).toNat)
  case atStart => exact ⟨0, by omega, rfl, hB, X, Y, rfl⟩
  case round =>
    clear hB X Y
    obtain ⟨k, hk, rfl, hb, X, Y, hall⟩ := hrel
    have x0 : wr.cell? ⟨w.heap.size, 0, none⟩ = some (.slice Aq nq cq) := X.cell 0
    have y0 : wr.cell? ⟨w.heap.size + 1, 0, none⟩ = some (.slice Bq nq dq) := Y.cell 0
    have xz := X.lt
    have yz := Y.lt
    by_cases hlt : k < nq
    · have hkn : k < n.queue.length := by rw [hnq.out]; exact hlt
      have hkm : k < m.queue.length := by rw [hmq.out]; exact hlt
      obtain ⟨b, off, V, rfl, hbw, q0, q1, q2, hV⟩ := hN.out.queue.pk hkn
      obtain ⟨c, off', U, rfl, hcw, r0, r1, r2, hU⟩ := hM.out.queue.pk hkm
      have hbz : b < wr.heap.size := Nat.lt_of_lt_of_le hbw (Nat.le_trans hDw hb.size)
      have hcz : c < wr.heap.size := Nat.lt_of_lt_of_le hcw (Nat.le_trans hDw hb.size)
      have q0 := (hb.cell (Nat.lt_of_lt_of_le hbw hDw)).trans q0
      have q1 := (hb.cell (Nat.lt_of_lt_of_le hbw hDw)).trans q1
      have q2 := (hb.cell (Nat.lt_of_lt_of_le hbw hDw)).trans q2
      have r0 := (hb.cell (Nat.lt_of_lt_of_le hcw hDw)).trans r0
      have r1 := (hb.cell (Nat.lt_of_lt_of_le hcw hDw)).trans r1
      have r2 := (hb.cell (Nat.lt_of_lt_of_le hcw hDw)).trans r2
      have htk := rangeAll (samePkAt n m) k
      have hbad := rangeBad (f := samePkAt n m) hlt
      have hat : samePkAt n m k = samePk n.queue[k] m.queue[k] := by rw [samePkAt, getD_zero _ hkn, getD_zero _ hkm]
      obtain ⟨y, hy⟩ : ∃ y, n.queue[k] = y := ⟨_, rfl⟩
      obtain ⟨z, hz⟩ : ∃ z, m.queue[k] = z := ⟨_, rfl⟩
      rw [hy] at q0 q1 hV hat
      rw [hz] at r0 r1 hU hat
      rw [hall.out, Bool.true_and] at htk
      have HTK := Lib.hid htk
      have HBAD := Lib.hid hbad
      have HAT := Lib.hid hat
      have HV : Hid (∀ u : Later wr, BytesAt u.w u.w.heap.size V y.data) := fun u => ((hV.below ((hb.trans (u.below.mono hb.size)).mono hDw)).more (Nat.le_trans hDw (Nat.le_trans hb.size u.below.size)))
      have HU : Hid (∀ u : Later wr, BytesAt u.w u.w.heap.size U z.data) := fun u => ((hU.below ((hb.trans (u.below.mono hb.size)).mono hDw)).more (Nat.le_trans hDw (Nat.le_trans hb.size u.below.size)))
      have i1 : (0 : Int) ≤ (k : Int) := by omega
      have i2 : (k : Int) < (nq : Int) := by omega
      have j0 : ∀ u : Later wr, u.w.cell? ⟨w.heap.size, 0, none⟩ = some (.slice (some ⟨b, off, none⟩) nq cq) := Later.cell x0 xz
      have j1 : ∀ u : Later wr, u.w.cell? ⟨w.heap.size + 1, 0, none⟩ = some (.slice (some ⟨c, off', none⟩) nq dq) := Later.cell y0 yz
      have j2 : ∀ u : Later wr, u.w.cell? ⟨b, off + k * 3, none⟩ = some (.int .i64 y.src) := Later.cell q0 hbz
      have j3 : ∀ u : Later wr, u.w.cell? ⟨b, off + k * 3 + 1, none⟩ = some (.int .i64 y.dst) := Later.cell q1 hbz
      have j4 : ∀ u : Later wr, u.w.cell? ⟨b, off + k * 3 + 2, none⟩ = some V := Later.cell q2 hbz
      have j5 : ∀ u : Later wr, u.w.cell? ⟨c, off' + k * 3, none⟩ = some (.int .i64 z.src) := Later.cell r0 hcz
      have j6 : ∀ u : Later wr, u.w.cell? ⟨c, off' + k * 3 + 1, none⟩ = some (.int .i64 z.dst) := Later.cell r1 hcz
      have j7 : ∀ u : Later wr, u.w.cell? ⟨c, off' + k * 3 + 2, none⟩ = some U := Later.cell r2 hcz
      clear hV hU htk hbad hat q0 q1 q2 r0 r1 r2 hbz hcz hbw hcw
      obtain ⟨t, ht⟩ : ∃ t, samePk y z = t := ⟨_, rfl⟩
      have HT := Lib.hid ht
      rw [ht] at HAT
      clear ht
      go_wp2_with fail
      refine wp_region_later (by kernel_rfl) (by kernel_rfl) ?_
      repeat (go_big_quiet_step ((go_at_call 19; with_reducible exact Later.call _ (nSamePk_at HT (HV.out _) (HU.out _)))))
      refine wpQuiet_nil ?_
      intro _ hw'
      obtain ⟨yq, hw''⟩ := hw'
      subst hw''
      clear j0 j1 j2 j3 j4 j5 j6 j7 x0 y0
      obtain ⟨w3, hz3, hb3⟩ : ∃ z, yq.w = z ∧ Below wr.heap.size wr z := ⟨_, rfl, yq.below⟩
      rw [hz3]
      clear hz3
      have X := X.later hb3
      have Y := Y.later hb3
      have hb := hb.trans (hb3.mono hb.size)
      clear hb3 xz yz HV HU HT
      rcases t with _ | _
      · have HF : Hid (sameNet n m = false) := by rw [Hid, hS.out, HBAD.out HAT.out]; rfl
        go_wp2
        go_ret
        exact ⟨by rw [HF.out]; rfl, hb⟩
      · go_wp2
        refine ⟨⟨k + 1, by omega, by go_num, hb, X, Y, ?_⟩, by simp [intOf]; omega⟩
        rw [Hid, HTK.out]
        exact HAT.out
    · obtain rfl : k = nq := by omega
      clear xz yz
      go_wp2_with fail
      clear x0 y0
      go_loopw [6] (fun i wr => ∃ j : Nat, j ≤ na ∧ i = .int .i64 j ∧ Below w.heap.size w wr ∧ Box wr w.heap.size [.slice Aq k cq, .slice Aa na ca] ∧ Box wr (w.heap.size + 1) [.slice Bq k dq, .slice Ba na da] ∧ Hid ((List.range j).all (sameLkAt n m) = true)) (fun i _ => na - (intOf i).toNat)
      case atStart => exact ⟨0, by omega, rfl, hb, X, Y, rfl⟩
      case round =>
        clear hb X Y
        obtain ⟨j, hj, rfl, hb, X, Y, hall2⟩ := hrel
        have x1 : wr.cell? ⟨w.heap.size, 1, none⟩ = some (.slice Aa na ca) := X.cell 1
        have y1 : wr.cell? ⟨w.heap.size + 1, 1, none⟩ = some (.slice Ba na da) := Y.cell 1
        have xz := X.lt
        have yz := Y.lt
        by_cases hlt : j < na
        · obtain ⟨b, off, rfl, hbw, hcs⟩ := hN.out.apart.lk (by rw [hna.out]; omega)
          obtain ⟨c, off', rfl, hcw, hds⟩ := hM.out.apart.lk (by rw [hma.out]; omega)
          obtain ⟨g0, g1⟩ := hcs j (by rw [hna.out]; omega)
          obtain ⟨h0, h1⟩ := hds j (by rw [hma.out]; omega)
          have htk := rangeAll (sameLkAt n m) j
          have hbad := rangeBad (f := sameLkAt n m) hlt
          have hat : sameLkAt n m j = decide (n.apart.getD j (0, 0) = m.apart.getD j (0, 0)) := rfl
          obtain ⟨⟨s, t⟩, hp⟩ : ∃ p, n.apart.getD j (0, 0) = p := ⟨_, rfl⟩
          obtain ⟨⟨u, v⟩, hp'⟩ : ∃ p, m.apart.getD j (0, 0) = p := ⟨_, rfl⟩
          rw [hp] at g0 g1 hat
          rw [hp'] at h0 h1 hat
          dsimp only at g0 g1 h0 h1
          rw [hall2.out, Bool.true_and] at htk
          have g0 := (hb.cell (Nat.lt_of_lt_of_le hbw hDw)).trans g0
          have g1 := (hb.cell (Nat.lt_of_lt_of_le hbw hDw)).trans g1
          have h0 := (hb.cell (Nat.lt_of_lt_of_le hcw hDw)).trans h0
          have h1 := (hb.cell (Nat.lt_of_lt_of_le hcw hDw)).trans h1
          have HTK := Lib.hid htk
          have HBAD := Lib.hid hbad
          have i1 : (0 : Int) ≤ (j : Int) := by omega
          have i2 : (j : Int) < (na : Int) := by omega
          have hat2 : sameLkAt n m j = (decide (s = u) && decide (t = v)) := by rw [hat]; simp
          obtain ⟨r, hr⟩ : ∃ r, (decide (s = u) && decide (t = v)) = r := ⟨_, rfl⟩
          have HR := Lib.hid (hat2.trans hr)
          clear htk hbad hcs hds hp hp' hbw hcw hat hat2
          go_wp2_with fail
          go_quiet (fail)
          have X := X.drewN nq
          have Y := Y.drewN nq
          have hb := bel_drewN hb nq
          generalize wr.drewN nq = W1 at X Y hb ⊢
          clear x1 y1 xz yz g0 g1 h0 h1
          rcases r with _ | _
          · have HF : Hid (sameNet n m = false) := by rw [Hid, hS.out, hall.out, HBAD.out HR.out]; rfl
            go_wp2
            go_ret
            exact ⟨by rw [HF.out]; rfl, hb⟩
          · go_wp2
            refine ⟨⟨j + 1, by omega, by go_num, hb, X, Y, ?_⟩, by simp [intOf]; omega⟩
            rw [Hid, HTK.out]
            exact HR.out
        · obtain rfl : j = na := by omega
          have HF : Hid (sameNet n m = true) := by rw [Hid, hS.out, hall.out, hall2.out]; rfl
          go_wp2
          go_ret
          exact ⟨by rw [HF.out]; rfl, hb⟩

theorem nSame_any (n m : Net) (Vq Va Uq Ua : Value) (w : World) (D : Nat) (hDw : D ≤ w.heap.size) (hN : NetAt w D Vq Va n) (hM : NetAt w D Uq Ua m) :
    Calls Try.prog 15 #[.agg #[Vq, Va], .agg #[Uq, Ua]] w fun e w' => e = .returned (.bool (sameNet n m)) ∧ Below w.heap.size w w' := by
  obtain ⟨Aq, cq, rfl, h1⟩ := hN.queue.form
  obtain ⟨Aa, ca, rfl, h2⟩ := hN.apart.form
  obtain ⟨Bq, dq, rfl, _⟩ := hM.queue.form
  obtain ⟨Ba, da, rfl, _⟩ := hM.apart.form
  unfold maxLen at h1 h2
  by_cases e1 : n.queue.length = m.queue.length
  · by_cases e2 : n.apart.length = m.apart.length
    · rw [← e1, ← e2] at hM ⊢
      exact nSame_go n m Aq _ cq Aa _ ca Bq dq Ba da w D hDw hN hM (by omega) (by omega) rfl e1.symm rfl e2.symm
    · exact nSame_no n m Aq _ cq Aa _ ca Bq _ dq Ba _ da w (.inr e2) (by rw [Hid, sameNet_def]; simp [e2])
  · exact nSame_no n m Aq _ cq Aa _ ca Bq _ dq Ba _ da w (.inl e1) (by rw [Hid, sameNet_def]; simp [e1])

end Go.Proofs.Ytndjpaiakodciaa
