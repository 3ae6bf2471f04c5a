/- Plain facts on Deliver of orders. No condition. -/
import Derived.Test.YtmbifmmkccghfaaQ1RL
import Derived.Test.YtmbifmmkccghfaaQ1GP
import Derived.Test.YtmbifmmkccghfaaQ1RI
import Derived.Test.YtmbifmmkccghfaaQ1KG
set_option linter.unusedVariables false
set_option linter.unusedSimpArgs false
namespace Go.Proofs.Ytmbifmmkccghfaa
open Go.RowKit

theorem net_delivered {n : Net} {i : Int} {p : Pk} {m : Net} (h : Go.Proofs.Ytmbifmmkccghfaa.deliverT n i = (p, m, 0)) : p = Pk.zero ∨ p ∈ n.queue := by
  unfold Go.Proofs.Ytmbifmmkccghfaa.deliverT at h
  split at h
  · simp only [Prod.mk.injEq] at h
    obtain ⟨h1, -, -⟩ := h
    split at h1
    · exact .inl h1.symm
    · subst h1
      unfold Net.pk
      rw [List.getD_eq_getElem?_getD]
      rcases hq : n.queue[i.toNat]? with _ | x
      · exact .inl rfl
      · exact .inr (List.mem_of_getElem? hq)
  · next h0 =>
    simp only [Prod.mk.injEq] at h
    exact absurd h.2.2 h0
theorem pk_facts {b : Bx} {p : Pk} (hs : b.sentB = true) (h : b.pkB p = true) (hl : p.data.length ≤ maxLen) (h4 : b.sent.length ≤ 4096) :
    p.data.length ≤ 32 ∧ ∃ g : Nat, p.dst = (g : Int) + 1 ∧ g < b.heard.length ∧ p.src = 0 ∧ 0 ≤ numberT p.data ∧ numberT p.data < (b.sent.length : Int) ∧ ∃ o, readT p.data = some (numberT p.data, o) := by
  unfold Bx.pkB at h
  rcases hr : readT p.data with _ | ⟨n, o⟩
  · rw [hr] at h
    cases h
  rw [hr] at h
  obtain ⟨h1, h2, h3, h5, h6⟩ := of_decide_eq_true h
  have hnum := number_read hr h1
  obtain ⟨g1, g2, g3⟩ := read_inv hl hr
  obtain ⟨⟨k1, k2⟩, _, _⟩ := sent_at hs h1 h2
  refine ⟨by rw [g1]; exact msg_len g2 g3, (b.at n).1.toNat, by omega, by omega, h3, by omega, by omega, o, by rw [hnum]⟩
theorem deliver_bad {b : Bx} {i c : Int} (h : b.checkT = c) (h0 : c ≠ 0) : b.deliverT i = (Bx.zero, false, c) := by
  unfold Bx.checkT at h
  unfold Bx.deliverT
  by_cases hk : b.okB = true
  · rw [if_pos hk] at h
    exact absurd h.symm h0
  · rw [if_neg hk] at h ⊢
    rw [h]
theorem deliver_net {b : Bx} {i er : Int} {p : Pk} {m : Net} (h : b.okB = true) (hr : Go.Proofs.Ytmbifmmkccghfaa.deliverT b.net i = (p, m, er)) : b.deliverT i = if er = 0 then ((b.hear p m).1, (b.hear p m).2, 0) else (Bx.zero, false, er) := by rw [Bx.deliverT, if_pos h, hr]
theorem deliver_ok {b : Bx} {i : Int} {p : Pk} {m : Net} (h : b.okB = true) (hr : Go.Proofs.Ytmbifmmkccghfaa.deliverT b.net i = (p, m, 0)) (hl : p.data.length ≤ maxLen) :
    p.data.length ≤ 32 ∧ ((p.dst = 0 ∧ p.src = 0 ∧ p.data = []) ∨ ∃ g : Nat, p.dst = (g : Int) + 1 ∧ g < b.heard.length ∧ p.src = 0 ∧ 0 ≤ numberT p.data ∧ numberT p.data < (b.sent.length : Int) ∧ ∃ o, readT p.data = some (numberT p.data, o)) := by
  obtain ⟨hl1, hs, -, -, hq⟩ := okB_parts h
  have h4 := (of_decide_eq_true hl1).2.2
  rcases net_delivered hr with rfl | hm
  · exact ⟨Nat.zero_le _, .inl ⟨rfl, rfl, rfl⟩⟩
  · obtain ⟨e1, e2⟩ := pk_facts hs (hq p hm) hl h4
    exact ⟨e1, .inr e2⟩
theorem hear_none {b : Bx} {p : Pk} {m : Net} (h : ¬ (0 < p.dst ∧ b.h (p.dst - 1).toNat ≤ numberT p.data)) : b.hear p m = (⟨m, b.sent, b.heard, b.fresh⟩, false) := if_neg h
theorem hear_some {b : Bx} {p : Pk} {m : Net} {g : Nat} (hd : p.dst = (g : Int) + 1) (h : b.h g ≤ numberT p.data) : b.hear p m = (⟨m, b.sent, b.heard.set g (numberT p.data + 1), b.fresh.set g true⟩, true) := by
  have e : (p.dst - 1).toNat = g := by omega
  rw [Bx.hear, e, if_pos ⟨by omega, h⟩]
theorem hear_no {b : Bx} {p : Pk} {m : Net} {g : Nat} (hd : p.dst = (g : Int) + 1) (h : ¬ b.h g ≤ numberT p.data) : b.hear p m = (⟨m, b.sent, b.heard, b.fresh⟩, false) := by
  have e : (p.dst - 1).toNat = g := by omega
  exact hear_none (fun k => h (by rw [e] at k; exact k.2))
def RetDlv (T : Bx × Bool × Int) (w : World) (e : Ending) (w' : World) : Prop := ∃ Vq Va Vs Vh Vf, e = .returned (.tuple #[.agg #[Vq, Va, Vs, Vh, Vf], .bool T.2.1, .int .i64 T.2.2]) ∧ BxAt w' w'.heap.size Vq Va Vs Vh Vf T.1 ∧ Below w.heap.size w w'
end Go.Proofs.Ytmbifmmkccghfaa

/-
  Deliver of orders. (Printed by gen_rt.py and pp.py.) No condition.
-/
namespace Go.Proofs.Ytmbifmmkccghfaa
open Go.RowKit Go.Shelf
attribute [local go_sem] Oper.semAt_some

set_option maxRecDepth 100000 in
set_option maxHeartbeats 4000000 in
theorem oDeliver_any (b : Bx) (i : Int) (Aq Aa As Ah Af : Option Addr) (nq cq na ca ns cs n ch nf cf : Nat) (w : World) (hx : Hid (BxAt w w.heap.size (.slice Aq nq cq) (.slice Aa na ca) (.slice As ns cs) (.slice Ah n ch) (.slice Af nf cf) b)) (hns : Hid (b.sent.length = ns)) (hn : Hid (b.heard.length = n)) (hnf : Hid (b.fresh.length = nf)) {T : Bx × Bool × Int} (hT : Hid (b.deliverT i = T)) :
    Calls Try.prog 23 #[.agg #[.slice Aq nq cq, .slice Aa na ca, .slice As ns cs, .slice Ah n ch, .slice Af nf cf], .int .i64 i] w (RetDlv T w) := by
  go_enter Try.func23, Try.ntmps23
  have hB := ((Below.refl w.heap.size w).alloc (Nat.le_refl _) (.cells #[.slice Aq nq cq, .slice Aa na ca, .slice As ns cs, .slice Ah n ch, .slice Af nf cf] 30)).alloc (by simp) (.cells #[.slice none 0 0, .slice none 0 0, .slice none 0 0, .slice none 0 0, .slice none 0 0] 30)
  have X2 := (Box.new w [.slice Aq nq cq, .slice Aa na ca, .slice As ns cs, .slice Ah n ch, .slice Af nf cf] 30).alloc (.cells #[.slice none 0 0, .slice none 0 0, .slice none 0 0, .slice none 0 0, .slice none 0 0] 30)
  have X4 := Box.newAt (w := w.alloc (.cells #[.slice Aq nq cq, .slice Aa na ca, .slice As ns cs, .slice Ah n ch, .slice Af nf cf] 30)) (n := w.heap.size + 1) [.slice none 0 0, .slice none 0 0, .slice none 0 0, .slice none 0 0, .slice none 0 0] 30 (by simp)
  go_upto_region 1 with fail
  generalize (w.alloc (.cells #[.slice Aq nq cq, .slice Aa na ca, .slice As ns cs, .slice Ah n ch, .slice Af nf cf] 30)).alloc (.cells #[.slice none 0 0, .slice none 0 0, .slice none 0 0, .slice none 0 0, .slice none 0 0] 30) = w1 at hB X2 X4 ⊢
  have z1 := X2.lt
  have X2c0 : w1.cell? ⟨w.heap.size, 0, none⟩ = some (.slice Aq nq cq) := X2.cell 0
  have X2c1 : w1.cell? ⟨w.heap.size, 1, none⟩ = some (.slice Aa na ca) := X2.cell 1
  have X2c2 : w1.cell? ⟨w.heap.size, 2, none⟩ = some (.slice As ns cs) := X2.cell 2
  have X2c3 : w1.cell? ⟨w.heap.size, 3, none⟩ = some (.slice Ah n ch) := X2.cell 3
  have X2c4 : w1.cell? ⟨w.heap.size, 4, none⟩ = some (.slice Af nf cf) := X2.cell 4
  obtain ⟨c, hc⟩ : ∃ c, Hid (b.checkT = c) := ⟨_, Lib.hid rfl⟩
  go_wp2_with fail
  refine (oCheck_is hc (hx.out.later hB)).mono ?_
  rintro e w2 ⟨rfl, hb⟩
  have hB := hB.trans (hb.mono hB.size)
  have X2 := X2.later hb
  have X4 := X4.later hb
  clear hb z1 X2c0 X2c1 X2c2 X2c3 X2c4
  by_cases h0 : c = 0
  rotate_left
  · have d0 : (c != 0) = true := by simp [h0]
    obtain rfl : T = (Bx.zero, false, c) := by rw [← hT.out]; exact deliver_bad hc.out h0
    have X4c0 : w2.cell? ⟨w.heap.size + 1, 0, none⟩ = some (.slice none 0 0) := X4.cell 0
    have X4f0 : w2.frozen? ⟨w.heap.size + 1, 0, none⟩ = false := X4.free 0
    have X4c1 : w2.cell? ⟨w.heap.size + 1, 1, none⟩ = some (.slice none 0 0) := X4.cell 1
    have X4f1 : w2.frozen? ⟨w.heap.size + 1, 1, none⟩ = false := X4.free 1
    have X4c2 : w2.cell? ⟨w.heap.size + 1, 2, none⟩ = some (.slice none 0 0) := X4.cell 2
    have X4f2 : w2.frozen? ⟨w.heap.size + 1, 2, none⟩ = false := X4.free 2
    have X4c3 : w2.cell? ⟨w.heap.size + 1, 3, none⟩ = some (.slice none 0 0) := X4.cell 3
    have X4f3 : w2.frozen? ⟨w.heap.size + 1, 3, none⟩ = false := X4.free 3
    have X4c4 : w2.cell? ⟨w.heap.size + 1, 4, none⟩ = some (.slice none 0 0) := X4.cell 4
    have X4f4 : w2.frozen? ⟨w.heap.size + 1, 4, none⟩ = false := X4.free 4
    have X4z : w.heap.size + 1 < w2.heap.size := X4.lt
    have Y4 := (((((X4.set 0 (.slice none 0 0)).set 1 (.slice none 0 0)).set 2 (.slice none 0 0)).set 3 (.slice none 0 0)).set 4 (.slice none 0 0))
    have hB2 := (((((hB.setCell (p := ⟨w.heap.size + 1, 0, none⟩) (by simp <;> omega) (.slice none 0 0)).setCell (p := ⟨w.heap.size + 1, 1, none⟩) (by simp <;> omega) (.slice none 0 0)).setCell (p := ⟨w.heap.size + 1, 2, none⟩) (by simp <;> omega) (.slice none 0 0)).setCell (p := ⟨w.heap.size + 1, 3, none⟩) (by simp <;> omega) (.slice none 0 0)).setCell (p := ⟨w.heap.size + 1, 4, none⟩) (by simp <;> omega) (.slice none 0 0))
    go_wp2
    clear X4c0 X4c1 X4c2 X4c3 X4c4 X4f0 X4f1 X4f2 X4f3 X4f4 X4z
    generalize (((((w2.setCell ⟨w.heap.size + 1, 0, none⟩ (.slice none 0 0)).setCell ⟨w.heap.size + 1, 1, none⟩ (.slice none 0 0)).setCell ⟨w.heap.size + 1, 2, none⟩ (.slice none 0 0)).setCell ⟨w.heap.size + 1, 3, none⟩ (.slice none 0 0)).setCell ⟨w.heap.size + 1, 4, none⟩ (.slice none 0 0)) = W8 at Y4 hB2 ⊢
    simp only [List.set_cons_zero, List.set_cons_succ] at Y4
    have Y4c0 : W8.cell? ⟨w.heap.size + 1, 0, none⟩ = some (.slice none 0 0) := Y4.cell 0
    have Y4c1 : W8.cell? ⟨w.heap.size + 1, 1, none⟩ = some (.slice none 0 0) := Y4.cell 1
    have Y4c2 : W8.cell? ⟨w.heap.size + 1, 2, none⟩ = some (.slice none 0 0) := Y4.cell 2
    have Y4c3 : W8.cell? ⟨w.heap.size + 1, 3, none⟩ = some (.slice none 0 0) := Y4.cell 3
    have Y4c4 : W8.cell? ⟨w.heap.size + 1, 4, none⟩ = some (.slice none 0 0) := Y4.cell 4
    refine bodyPost_ret (v := .tuple #[.agg #[.slice none 0 0, .slice none 0 0, .slice none 0 0, .slice none 0 0, .slice none 0 0], .bool false, .int .i64 c]) (by simp [results, Try.results23, go_sem, Y4c0, Y4c1, Y4c2, Y4c3, Y4c4]) rfl ?_
    exact ⟨_, _, _, _, _, rfl, bxAt_zero _ _, hB2⟩
  subst h0
  have hok := check_ok hc.out
  have HOK := Lib.hid hok
  obtain ⟨hl1, -, hga, -, -⟩ := okB_parts hok
  have HGA := Lib.hid hga
  have hl1 := of_decide_eq_true hl1
  rw [hn.out, hns.out, hnf.out] at hl1
  obtain ⟨⟨hn1, hn8⟩, hl2', hn4⟩ := hl1
  obtain rfl : nf = n := hl2'
  obtain ⟨n, rfl⟩ : ∃ q, q = nf := ⟨_, rfl⟩
  clear hok hga
  have z1 := X2.lt
  have X2c0 : w2.cell? ⟨w.heap.size, 0, none⟩ = some (.slice Aq nq cq) := X2.cell 0
  have X2c1 : w2.cell? ⟨w.heap.size, 1, none⟩ = some (.slice Aa na ca) := X2.cell 1
  have X2c2 : w2.cell? ⟨w.heap.size, 2, none⟩ = some (.slice As ns cs) := X2.cell 2
  have X2c3 : w2.cell? ⟨w.heap.size, 3, none⟩ = some (.slice Ah n ch) := X2.cell 3
  have X2c4 : w2.cell? ⟨w.heap.size, 4, none⟩ = some (.slice Af n cf) := X2.cell 4
  have HN := Lib.hid (hx.out.net.later hB)
  go_wp2_with fail
  refine (nDeliver_is b.net i HN).mono ?_
  rintro e w3 ⟨V, p, Vq, Va, m, er, rfl, hT2, hD2, hN2, hb⟩
  obtain ⟨Aq2, nq2, cq2, Aa2, na2, ca2, rfl, rfl⟩ := hN2.out.form
  obtain ⟨Ad, cd, rfl, hdl⟩ := hD2.out.form
  have HM := hN2.out.at hb.size
  have HD := hD2.out.more hb.size
  have hB := hB.trans (hb.mono hB.size)
  have X2 := X2.later hb
  have X4 := X4.later hb
  clear hb z1 X2c0 X2c1 X2c2 X2c3 X2c4 hN2 HN hD2
  go_upto_region 5 with fail
  have hal := ((Below.refl w3.heap.size w3).alloc (Nat.le_refl _) (.cells #[.int .i64 p.src, .int .i64 p.dst, .slice Ad p.data.length cd] 51)).alloc (by simp) (.cells #[.slice Aq2 nq2 cq2, .slice Aa2 na2 ca2] 25)
  have X7 := (Box.new w3 [.int .i64 p.src, .int .i64 p.dst, .slice Ad p.data.length cd] 51).alloc (.cells #[.slice Aq2 nq2 cq2, .slice Aa2 na2 ca2] 25)
  have X8 := Box.newAt (w := w3.alloc (.cells #[.int .i64 p.src, .int .i64 p.dst, .slice Ad p.data.length cd] 51)) (n := w3.heap.size + 1) [.slice Aq2 nq2 cq2, .slice Aa2 na2 ca2] 25 (by simp)
  have z2 := X2.lt
  have z4 := X4.lt
  have X2 := X2.later hal
  have X4 := X4.later hal
  have hB := hB.trans (hal.mono hB.size)
  have HM1 := HM.below hal
  have HD1 := BytesAt.below HD hal
  have hDz := hal.size
  clear hal HM HD
  generalize (w3.alloc (.cells #[.int .i64 p.src, .int .i64 p.dst, .slice Ad p.data.length cd] 51)).alloc (.cells #[.slice Aq2 nq2 cq2, .slice Aa2 na2 ca2] 25) = W3 at X7 X8 X2 X4 hB HM1 HD1 hDz ⊢
  generalize w3.heap.size = D at X7 X8 HM1 HD1 hDz z2 z4 ⊢
  have hsn := deliver_net (b := b) (p := p) (m := m) (er := er) HOK.out hT2.out
  by_cases he : er = 0
  rotate_left
  · have d6 : (er != 0) = true := by simp [he]
    obtain rfl : T = (Bx.zero, false, er) := by rw [← hT.out]; exact hsn.trans (if_neg he)
    have X4c0 : W3.cell? ⟨w.heap.size + 1, 0, none⟩ = some (.slice none 0 0) := X4.cell 0
    have X4f0 : W3.frozen? ⟨w.heap.size + 1, 0, none⟩ = false := X4.free 0
    have X4c1 : W3.cell? ⟨w.heap.size + 1, 1, none⟩ = some (.slice none 0 0) := X4.cell 1
    have X4f1 : W3.frozen? ⟨w.heap.size + 1, 1, none⟩ = false := X4.free 1
    have X4c2 : W3.cell? ⟨w.heap.size + 1, 2, none⟩ = some (.slice none 0 0) := X4.cell 2
    have X4f2 : W3.frozen? ⟨w.heap.size + 1, 2, none⟩ = false := X4.free 2
    have X4c3 : W3.cell? ⟨w.heap.size + 1, 3, none⟩ = some (.slice none 0 0) := X4.cell 3
    have X4f3 : W3.frozen? ⟨w.heap.size + 1, 3, none⟩ = false := X4.free 3
    have X4c4 : W3.cell? ⟨w.heap.size + 1, 4, none⟩ = some (.slice none 0 0) := X4.cell 4
    have X4f4 : W3.frozen? ⟨w.heap.size + 1, 4, none⟩ = false := X4.free 4
    have X4z : w.heap.size + 1 < W3.heap.size := X4.lt
    have Y4 := (((((X4.set 0 (.slice none 0 0)).set 1 (.slice none 0 0)).set 2 (.slice none 0 0)).set 3 (.slice none 0 0)).set 4 (.slice none 0 0))
    have hB2 := (((((hB.setCell (p := ⟨w.heap.size + 1, 0, none⟩) (by simp <;> omega) (.slice none 0 0)).setCell (p := ⟨w.heap.size + 1, 1, none⟩) (by simp <;> omega) (.slice none 0 0)).setCell (p := ⟨w.heap.size + 1, 2, none⟩) (by simp <;> omega) (.slice none 0 0)).setCell (p := ⟨w.heap.size + 1, 3, none⟩) (by simp <;> omega) (.slice none 0 0)).setCell (p := ⟨w.heap.size + 1, 4, none⟩) (by simp <;> omega) (.slice none 0 0))
    go_wp2
    clear X4c0 X4c1 X4c2 X4c3 X4c4 X4f0 X4f1 X4f2 X4f3 X4f4 X4z
    generalize (((((W3.setCell ⟨w.heap.size + 1, 0, none⟩ (.slice none 0 0)).setCell ⟨w.heap.size + 1, 1, none⟩ (.slice none 0 0)).setCell ⟨w.heap.size + 1, 2, none⟩ (.slice none 0 0)).setCell ⟨w.heap.size + 1, 3, none⟩ (.slice none 0 0)).setCell ⟨w.heap.size + 1, 4, none⟩ (.slice none 0 0)) = W8 at Y4 hB2 ⊢
    simp only [List.set_cons_zero, List.set_cons_succ] at Y4
    have Y4c0 : W8.cell? ⟨w.heap.size + 1, 0, none⟩ = some (.slice none 0 0) := Y4.cell 0
    have Y4c1 : W8.cell? ⟨w.heap.size + 1, 1, none⟩ = some (.slice none 0 0) := Y4.cell 1
    have Y4c2 : W8.cell? ⟨w.heap.size + 1, 2, none⟩ = some (.slice none 0 0) := Y4.cell 2
    have Y4c3 : W8.cell? ⟨w.heap.size + 1, 3, none⟩ = some (.slice none 0 0) := Y4.cell 3
    have Y4c4 : W8.cell? ⟨w.heap.size + 1, 4, none⟩ = some (.slice none 0 0) := Y4.cell 4
    refine bodyPost_ret (v := .tuple #[.agg #[.slice none 0 0, .slice none 0 0, .slice none 0 0, .slice none 0 0, .slice none 0 0], .bool false, .int .i64 er]) (by simp [results, Try.results23, go_sem, Y4c0, Y4c1, Y4c2, Y4c3, Y4c4]) rfl ?_
    exact ⟨_, _, _, _, _, rfl, bxAt_zero _ _, hB2⟩
  subst he
  have hTh : T = ((b.hear p m).1, (b.hear p m).2, 0) := by rw [← hT.out]; exact hsn.trans (if_pos rfl)
  have HTH := Lib.hid hTh
  obtain ⟨hd32, hpk⟩ := deliver_ok HOK.out hT2.out hdl
  have HPK := Lib.hid hpk
  clear hsn hTh hpk
  have X2c0 : W3.cell? ⟨w.heap.size, 0, none⟩ = some (.slice Aq nq cq) := X2.cell 0
  have X2f0 : W3.frozen? ⟨w.heap.size, 0, none⟩ = false := X2.free 0
  have X2c1 : W3.cell? ⟨w.heap.size, 1, none⟩ = some (.slice Aa na ca) := X2.cell 1
  have X2f1 : W3.frozen? ⟨w.heap.size, 1, none⟩ = false := X2.free 1
  have X2c2 : W3.cell? ⟨w.heap.size, 2, none⟩ = some (.slice As ns cs) := X2.cell 2
  have X2f2 : W3.frozen? ⟨w.heap.size, 2, none⟩ = false := X2.free 2
  have X2c3 : W3.cell? ⟨w.heap.size, 3, none⟩ = some (.slice Ah n ch) := X2.cell 3
  have X2f3 : W3.frozen? ⟨w.heap.size, 3, none⟩ = false := X2.free 3
  have X2c4 : W3.cell? ⟨w.heap.size, 4, none⟩ = some (.slice Af n cf) := X2.cell 4
  have X2f4 : W3.frozen? ⟨w.heap.size, 4, none⟩ = false := X2.free 4
  have X2z : w.heap.size < W3.heap.size := X2.lt
  have X8c0 : W3.cell? ⟨D + 1, 0, none⟩ = some (.slice Aq2 nq2 cq2) := X8.cell 0
  have X8c1 : W3.cell? ⟨D + 1, 1, none⟩ = some (.slice Aa2 na2 ca2) := X8.cell 1
  have z8 := X8.lt
  go_upto_region 8 with fail
  clear X2c0 X2c1 X2c2 X2c3 X2c4 X2f0 X2f1 X2f2 X2f3 X2f4 X2z X8c0 X8c1 z8
  obtain ⟨HM2, -⟩ := HM1.set2 (SlBox.of X2 (by simp)) Aq2 Aa2 nq2 cq2 na2 ca2
  have HD2 := (HD1.setS (SlBox.of X2 (by simp)) 0 (.slice Aq2 nq2 cq2)).setS ((SlBox.of X2 (by simp)).set 0 Aq2 nq2 cq2) 1 (.slice Aa2 na2 ca2)
  have X2 := (X2.set 0 (.slice Aq2 nq2 cq2)).set 1 (.slice Aa2 na2 ca2)
  have X4 := (X4.other (a := ⟨w.heap.size, 0, none⟩) (by simp <;> omega) (.slice Aq2 nq2 cq2)).other (a := ⟨w.heap.size, 1, none⟩) (by simp <;> omega) (.slice Aa2 na2 ca2)
  have X7 := (X7.other (a := ⟨w.heap.size, 0, none⟩) (by simp <;> omega) (.slice Aq2 nq2 cq2)).other (a := ⟨w.heap.size, 1, none⟩) (by simp <;> omega) (.slice Aa2 na2 ca2)
  have hB := (hB.setCell (p := ⟨w.heap.size, 0, none⟩) (by simp) (.slice Aq2 nq2 cq2)).setCell (p := ⟨w.heap.size, 1, none⟩) (by simp) (.slice Aa2 na2 ca2)
  have hsz2 : D ≤ ((W3.setCell ⟨w.heap.size, 0, none⟩ (.slice Aq2 nq2 cq2)).setCell ⟨w.heap.size, 1, none⟩ (.slice Aa2 na2 ca2)).heap.size := by simp; omega
  clear X8
  generalize (W3.setCell ⟨w.heap.size, 0, none⟩ (.slice Aq2 nq2 cq2)).setCell ⟨w.heap.size, 1, none⟩ (.slice Aa2 na2 ca2) = W4 at X2 X4 X7 hB HM2 HD2 hsz2 ⊢
  simp only [List.set_cons_zero, List.set_cons_succ] at X2
  have hX := hx.out.later hB
  have HX : BxAt W4 W4.heap.size (.slice Aq2 nq2 cq2) (.slice Aa2 na2 ca2) (.slice As ns cs) (.slice Ah n ch) (.slice Af n cf) ⟨m, b.sent, b.heard, b.fresh⟩ := ⟨HM2.more hsz2, hX.sent, hX.heard, hX.fresh⟩
  clear hX
  obtain ⟨u, hu⟩ : ∃ u, Hid (numberT p.data = u) := ⟨_, Lib.hid rfl⟩
  have x72 : W4.cell? ⟨D, 2, none⟩ = some (.slice Ad p.data.length cd) := X7.cell 2
  have z7 := X7.lt
  go_wp2_with fail
  refine (oNumber_is hu (HD2.more hsz2) (by omega)).mono ?_
  rintro e W5 ⟨rfl, hb⟩
  have hB := hB.trans (hb.mono hB.size)
  have HX := HX.later hb
  have X2 := X2.later hb
  have X4 := X4.later hb
  have X7 := X7.later hb
  clear hb x72 z7 HM2 HD2 hsz2 z2 z4
  have x71 : W5.cell? ⟨D, 1, none⟩ = some (.int .i64 p.dst) := X7.cell 1
  have z7 := X7.lt
  rcases HPK.out with ⟨hp1, hp2, hp3⟩ | ⟨g, hp1, hgn, hp2, hp3, hp4, -⟩
  · obtain rfl : T = (⟨m, b.sent, b.heard, b.fresh⟩, false, 0) := by rw [HTH.out, hear_none (fun h => by rw [hp1] at h; omega)]
    have d7 : decide ((0 : Int) < p.dst) = false := by rw [hp1]; decide
    have X2c0 : W5.cell? ⟨w.heap.size, 0, none⟩ = some (.slice Aq2 nq2 cq2) := X2.cell 0
    have X2c1 : W5.cell? ⟨w.heap.size, 1, none⟩ = some (.slice Aa2 na2 ca2) := X2.cell 1
    have X2c2 : W5.cell? ⟨w.heap.size, 2, none⟩ = some (.slice As ns cs) := X2.cell 2
    have X2c3 : W5.cell? ⟨w.heap.size, 3, none⟩ = some (.slice Ah n ch) := X2.cell 3
    have X2c4 : W5.cell? ⟨w.heap.size, 4, none⟩ = some (.slice Af n cf) := X2.cell 4
    have z1 := X2.lt
    have X4c0 : W5.cell? ⟨w.heap.size + 1, 0, none⟩ = some (.slice none 0 0) := X4.cell 0
    have X4f0 : W5.frozen? ⟨w.heap.size + 1, 0, none⟩ = false := X4.free 0
    have X4c1 : W5.cell? ⟨w.heap.size + 1, 1, none⟩ = some (.slice none 0 0) := X4.cell 1
    have X4f1 : W5.frozen? ⟨w.heap.size + 1, 1, none⟩ = false := X4.free 1
    have X4c2 : W5.cell? ⟨w.heap.size + 1, 2, none⟩ = some (.slice none 0 0) := X4.cell 2
    have X4f2 : W5.frozen? ⟨w.heap.size + 1, 2, none⟩ = false := X4.free 2
    have X4c3 : W5.cell? ⟨w.heap.size + 1, 3, none⟩ = some (.slice none 0 0) := X4.cell 3
    have X4f3 : W5.frozen? ⟨w.heap.size + 1, 3, none⟩ = false := X4.free 3
    have X4c4 : W5.cell? ⟨w.heap.size + 1, 4, none⟩ = some (.slice none 0 0) := X4.cell 4
    have X4f4 : W5.frozen? ⟨w.heap.size + 1, 4, none⟩ = false := X4.free 4
    have X4z : w.heap.size + 1 < W5.heap.size := X4.lt
    go_wp2
    have HX5 := HX.set5 (SlBox.of X4 (by simp)) Aq2 Aa2 As Ah Af nq2 cq2 na2 ca2 ns cs n ch n cf
    have Y4 := (((((X4.set 0 (.slice Aq2 nq2 cq2)).set 1 (.slice Aa2 na2 ca2)).set 2 (.slice As ns cs)).set 3 (.slice Ah n ch)).set 4 (.slice Af n cf))
    have hB := (((((hB.setCell (p := ⟨w.heap.size + 1, 0, none⟩) (by simp <;> omega) (.slice Aq2 nq2 cq2)).setCell (p := ⟨w.heap.size + 1, 1, none⟩) (by simp <;> omega) (.slice Aa2 na2 ca2)).setCell (p := ⟨w.heap.size + 1, 2, none⟩) (by simp <;> omega) (.slice As ns cs)).setCell (p := ⟨w.heap.size + 1, 3, none⟩) (by simp <;> omega) (.slice Ah n ch)).setCell (p := ⟨w.heap.size + 1, 4, none⟩) (by simp <;> omega) (.slice Af n cf))
    have hsz : W5.heap.size ≤ (((((W5.setCell ⟨w.heap.size + 1, 0, none⟩ (.slice Aq2 nq2 cq2)).setCell ⟨w.heap.size + 1, 1, none⟩ (.slice Aa2 na2 ca2)).setCell ⟨w.heap.size + 1, 2, none⟩ (.slice As ns cs)).setCell ⟨w.heap.size + 1, 3, none⟩ (.slice Ah n ch)).setCell ⟨w.heap.size + 1, 4, none⟩ (.slice Af n cf)).heap.size := by simp
    clear X2c0 X2c1 X2c2 X2c3 X2c4 X4c0 X4c1 X4c2 X4c3 X4c4 X4f0 X4f1 X4f2 X4f3 X4f4 X4z
    generalize (((((W5.setCell ⟨w.heap.size + 1, 0, none⟩ (.slice Aq2 nq2 cq2)).setCell ⟨w.heap.size + 1, 1, none⟩ (.slice Aa2 na2 ca2)).setCell ⟨w.heap.size + 1, 2, none⟩ (.slice As ns cs)).setCell ⟨w.heap.size + 1, 3, none⟩ (.slice Ah n ch)).setCell ⟨w.heap.size + 1, 4, none⟩ (.slice Af n cf)) = W9 at Y4 hB HX5 hsz ⊢
    simp only [List.set_cons_zero, List.set_cons_succ] at Y4
    have Y4c0 : W9.cell? ⟨w.heap.size + 1, 0, none⟩ = some (.slice Aq2 nq2 cq2) := Y4.cell 0
    have Y4c1 : W9.cell? ⟨w.heap.size + 1, 1, none⟩ = some (.slice Aa2 na2 ca2) := Y4.cell 1
    have Y4c2 : W9.cell? ⟨w.heap.size + 1, 2, none⟩ = some (.slice As ns cs) := Y4.cell 2
    have Y4c3 : W9.cell? ⟨w.heap.size + 1, 3, none⟩ = some (.slice Ah n ch) := Y4.cell 3
    have Y4c4 : W9.cell? ⟨w.heap.size + 1, 4, none⟩ = some (.slice Af n cf) := Y4.cell 4
    refine bodyPost_ret (v := .tuple #[.agg #[.slice Aq2 nq2 cq2, .slice Aa2 na2 ca2, .slice As ns cs, .slice Ah n ch, .slice Af n cf], .bool false, .int .i64 0]) (by simp [results, Try.results23, go_sem, Y4c0, Y4c1, Y4c2, Y4c3, Y4c4]) rfl ?_
    exact ⟨_, _, _, _, _, rfl, HX5.more hsz, hB⟩
  have d7 : decide ((0 : Int) < p.dst) = true := decide_eq_true (by omega)
  rw [hu.out, hns.out] at hp4
  rw [hu.out] at hp3
  have hgn2 : g < n := by rw [← hn.out]; exact hgn
  obtain ⟨bh, oh, rfl, hbh, ck⟩ := hx.out.heard.2.one (k := g) (by rw [hn.out]; exact hgn2)
  replace ck : W5.cell? ⟨bh, oh + g, none⟩ = some (.int .i64 (b.h g)) := (hB.cell hbh).trans ck
  have hbz := Nat.lt_of_lt_of_le hbh hB.size
  have x23 : W5.cell? ⟨w.heap.size, 3, none⟩ = some (.slice (some ⟨bh, oh, none⟩) n ch) := X2.cell 3
  have z1 := X2.lt
  have hsub : p.dst - 1 = (g : Int) := by omega
  have hw1 : wrap64 (p.dst - 1) = (g : Int) := by rw [hsub]; unfold wrap64; omega
  have hw2 : IntKind.i64.wrap (p.dst - 1) = (g : Int) := by rw [hsub]; exact wrapO (by omega) (by omega)
  have hgi : (g : Int) < (n : Int) := by omega
  have HSUB := Lib.hid hsub
  have HP1 := Lib.hid hp1
  have HHS := Lib.hid (fun h : b.h g ≤ u => hear_some (b := b) (p := p) (m := m) HP1.out (by rw [hu.out]; exact h))
  have HHN := Lib.hid (fun h : ¬ b.h g ≤ u => hear_no (b := b) (p := p) (m := m) HP1.out (by rw [hu.out]; exact h))
  clear hsub hp1
  obtain ⟨hg9, hhg⟩ : ∃ q, Hid (b.h g = q) := ⟨_, Lib.hid rfl⟩
  rw [hhg.out] at ck HHS HHN
  by_cases hle : hg9 ≤ u
  rotate_left
  · obtain rfl : T = (⟨m, b.sent, b.heard, b.fresh⟩, false, 0) := by rw [HTH.out, HHN.out hle]
    have d8 : decide (hg9 ≤ u) = false := decide_eq_false hle
    have X2c0 : W5.cell? ⟨w.heap.size, 0, none⟩ = some (.slice Aq2 nq2 cq2) := X2.cell 0
    have X2c1 : W5.cell? ⟨w.heap.size, 1, none⟩ = some (.slice Aa2 na2 ca2) := X2.cell 1
    have X2c2 : W5.cell? ⟨w.heap.size, 2, none⟩ = some (.slice As ns cs) := X2.cell 2
    have X2c3 : W5.cell? ⟨w.heap.size, 3, none⟩ = some (.slice (some ⟨bh, oh, none⟩) n ch) := X2.cell 3
    have X2c4 : W5.cell? ⟨w.heap.size, 4, none⟩ = some (.slice Af n cf) := X2.cell 4
    have z1 := X2.lt
    have X4c0 : W5.cell? ⟨w.heap.size + 1, 0, none⟩ = some (.slice none 0 0) := X4.cell 0
    have X4f0 : W5.frozen? ⟨w.heap.size + 1, 0, none⟩ = false := X4.free 0
    have X4c1 : W5.cell? ⟨w.heap.size + 1, 1, none⟩ = some (.slice none 0 0) := X4.cell 1
    have X4f1 : W5.frozen? ⟨w.heap.size + 1, 1, none⟩ = false := X4.free 1
    have X4c2 : W5.cell? ⟨w.heap.size + 1, 2, none⟩ = some (.slice none 0 0) := X4.cell 2
    have X4f2 : W5.frozen? ⟨w.heap.size + 1, 2, none⟩ = false := X4.free 2
    have X4c3 : W5.cell? ⟨w.heap.size + 1, 3, none⟩ = some (.slice none 0 0) := X4.cell 3
    have X4f3 : W5.frozen? ⟨w.heap.size + 1, 3, none⟩ = false := X4.free 3
    have X4c4 : W5.cell? ⟨w.heap.size + 1, 4, none⟩ = some (.slice none 0 0) := X4.cell 4
    have X4f4 : W5.frozen? ⟨w.heap.size + 1, 4, none⟩ = false := X4.free 4
    have X4z : w.heap.size + 1 < W5.heap.size := X4.lt
    go_wp2
    have HX5 := HX.set5 (SlBox.of X4 (by simp)) Aq2 Aa2 As (some ⟨bh, oh, none⟩) Af nq2 cq2 na2 ca2 ns cs n ch n cf
    have Y4 := (((((X4.set 0 (.slice Aq2 nq2 cq2)).set 1 (.slice Aa2 na2 ca2)).set 2 (.slice As ns cs)).set 3 (.slice (some ⟨bh, oh, none⟩) n ch)).set 4 (.slice Af n cf))
    have hB := (((((hB.setCell (p := ⟨w.heap.size + 1, 0, none⟩) (by simp <;> omega) (.slice Aq2 nq2 cq2)).setCell (p := ⟨w.heap.size + 1, 1, none⟩) (by simp <;> omega) (.slice Aa2 na2 ca2)).setCell (p := ⟨w.heap.size + 1, 2, none⟩) (by simp <;> omega) (.slice As ns cs)).setCell (p := ⟨w.heap.size + 1, 3, none⟩) (by simp <;> omega) (.slice (some ⟨bh, oh, none⟩) n ch)).setCell (p := ⟨w.heap.size + 1, 4, none⟩) (by simp <;> omega) (.slice Af n cf))
    have hsz : W5.heap.size ≤ (((((W5.setCell ⟨w.heap.size + 1, 0, none⟩ (.slice Aq2 nq2 cq2)).setCell ⟨w.heap.size + 1, 1, none⟩ (.slice Aa2 na2 ca2)).setCell ⟨w.heap.size + 1, 2, none⟩ (.slice As ns cs)).setCell ⟨w.heap.size + 1, 3, none⟩ (.slice (some ⟨bh, oh, none⟩) n ch)).setCell ⟨w.heap.size + 1, 4, none⟩ (.slice Af n cf)).heap.size := by simp
    clear X2c0 X2c1 X2c2 X2c3 X2c4 X4c0 X4c1 X4c2 X4c3 X4c4 X4f0 X4f1 X4f2 X4f3 X4f4 X4z
    generalize (((((W5.setCell ⟨w.heap.size + 1, 0, none⟩ (.slice Aq2 nq2 cq2)).setCell ⟨w.heap.size + 1, 1, none⟩ (.slice Aa2 na2 ca2)).setCell ⟨w.heap.size + 1, 2, none⟩ (.slice As ns cs)).setCell ⟨w.heap.size + 1, 3, none⟩ (.slice (some ⟨bh, oh, none⟩) n ch)).setCell ⟨w.heap.size + 1, 4, none⟩ (.slice Af n cf)) = W9 at Y4 hB HX5 hsz ⊢
    simp only [List.set_cons_zero, List.set_cons_succ] at Y4
    have Y4c0 : W9.cell? ⟨w.heap.size + 1, 0, none⟩ = some (.slice Aq2 nq2 cq2) := Y4.cell 0
    have Y4c1 : W9.cell? ⟨w.heap.size + 1, 1, none⟩ = some (.slice Aa2 na2 ca2) := Y4.cell 1
    have Y4c2 : W9.cell? ⟨w.heap.size + 1, 2, none⟩ = some (.slice As ns cs) := Y4.cell 2
    have Y4c3 : W9.cell? ⟨w.heap.size + 1, 3, none⟩ = some (.slice (some ⟨bh, oh, none⟩) n ch) := Y4.cell 3
    have Y4c4 : W9.cell? ⟨w.heap.size + 1, 4, none⟩ = some (.slice Af n cf) := Y4.cell 4
    refine bodyPost_ret (v := .tuple #[.agg #[.slice Aq2 nq2 cq2, .slice Aa2 na2 ca2, .slice As ns cs, .slice (some ⟨bh, oh, none⟩) n ch, .slice Af n cf], .bool false, .int .i64 0]) (by simp [results, Try.results23, go_sem, Y4c0, Y4c1, Y4c2, Y4c3, Y4c4]) rfl ?_
    exact ⟨_, _, _, _, _, rfl, HX5.more hsz, hB⟩
  have d8 : decide (hg9 ≤ u) = true := decide_eq_true hle
  obtain rfl : T = (⟨m, b.sent, b.heard.set g (u + 1), b.fresh.set g true⟩, true, 0) := by rw [HTH.out, HHS.out hle, hu.out]
  go_upto_region 10 with fail
  have X2c0 : W5.cell? ⟨w.heap.size, 0, none⟩ = some (.slice Aq2 nq2 cq2) := X2.cell 0
  have X2c1 : W5.cell? ⟨w.heap.size, 1, none⟩ = some (.slice Aa2 na2 ca2) := X2.cell 1
  have X2c2 : W5.cell? ⟨w.heap.size, 2, none⟩ = some (.slice As ns cs) := X2.cell 2
  have X2c3 : W5.cell? ⟨w.heap.size, 3, none⟩ = some (.slice (some ⟨bh, oh, none⟩) n ch) := X2.cell 3
  have X2c4 : W5.cell? ⟨w.heap.size, 4, none⟩ = some (.slice Af n cf) := X2.cell 4
  go_wp2_with fail
  refine (oHear_any ⟨m, b.sent, b.heard, b.fresh⟩ g u _ _ _ _ _ _ _ _ _ _ _ _ _ _ W5 (Lib.hid HX) hn hnf hn8 hgn2 (by omega) (Lib.hid rfl)).mono ?_
  rintro e W6 ⟨Aq3, nq3, cq3, Aa3, na3, ca3, As3, ns3, cs3, Ah3, n3, ch3, Af3, nf3, cf3, rfl, HX6, hb⟩
  have hB := hB.trans (hb.mono hB.size)
  have X4 := X4.later hb
  clear hb X2c0 X2c1 X2c2 X2c3 X2c4 ck x23 x71 z7 z1 X2 X7 HX
  have X4c0 : W6.cell? ⟨w.heap.size + 1, 0, none⟩ = some (.slice none 0 0) := X4.cell 0
  have X4f0 : W6.frozen? ⟨w.heap.size + 1, 0, none⟩ = false := X4.free 0
  have X4c1 : W6.cell? ⟨w.heap.size + 1, 1, none⟩ = some (.slice none 0 0) := X4.cell 1
  have X4f1 : W6.frozen? ⟨w.heap.size + 1, 1, none⟩ = false := X4.free 1
  have X4c2 : W6.cell? ⟨w.heap.size + 1, 2, none⟩ = some (.slice none 0 0) := X4.cell 2
  have X4f2 : W6.frozen? ⟨w.heap.size + 1, 2, none⟩ = false := X4.free 2
  have X4c3 : W6.cell? ⟨w.heap.size + 1, 3, none⟩ = some (.slice none 0 0) := X4.cell 3
  have X4f3 : W6.frozen? ⟨w.heap.size + 1, 3, none⟩ = false := X4.free 3
  have X4c4 : W6.cell? ⟨w.heap.size + 1, 4, none⟩ = some (.slice none 0 0) := X4.cell 4
  have X4f4 : W6.frozen? ⟨w.heap.size + 1, 4, none⟩ = false := X4.free 4
  have X4z : w.heap.size + 1 < W6.heap.size := X4.lt
  go_wp2
  have HX5 := HX6.set5 (SlBox.of X4 (by simp)) Aq3 Aa3 As3 Ah3 Af3 nq3 cq3 na3 ca3 ns3 cs3 n3 ch3 nf3 cf3
  have Y4 := (((((X4.set 0 (.slice Aq3 nq3 cq3)).set 1 (.slice Aa3 na3 ca3)).set 2 (.slice As3 ns3 cs3)).set 3 (.slice Ah3 n3 ch3)).set 4 (.slice Af3 nf3 cf3))
  have hB := (((((hB.setCell (p := ⟨w.heap.size + 1, 0, none⟩) (by simp <;> omega) (.slice Aq3 nq3 cq3)).setCell (p := ⟨w.heap.size + 1, 1, none⟩) (by simp <;> omega) (.slice Aa3 na3 ca3)).setCell (p := ⟨w.heap.size + 1, 2, none⟩) (by simp <;> omega) (.slice As3 ns3 cs3)).setCell (p := ⟨w.heap.size + 1, 3, none⟩) (by simp <;> omega) (.slice Ah3 n3 ch3)).setCell (p := ⟨w.heap.size + 1, 4, none⟩) (by simp <;> omega) (.slice Af3 nf3 cf3))
  have hsz : W6.heap.size ≤ (((((W6.setCell ⟨w.heap.size + 1, 0, none⟩ (.slice Aq3 nq3 cq3)).setCell ⟨w.heap.size + 1, 1, none⟩ (.slice Aa3 na3 ca3)).setCell ⟨w.heap.size + 1, 2, none⟩ (.slice As3 ns3 cs3)).setCell ⟨w.heap.size + 1, 3, none⟩ (.slice Ah3 n3 ch3)).setCell ⟨w.heap.size + 1, 4, none⟩ (.slice Af3 nf3 cf3)).heap.size := by simp
  clear X4c0 X4c1 X4c2 X4c3 X4c4 X4f0 X4f1 X4f2 X4f3 X4f4 X4z
  generalize (((((W6.setCell ⟨w.heap.size + 1, 0, none⟩ (.slice Aq3 nq3 cq3)).setCell ⟨w.heap.size + 1, 1, none⟩ (.slice Aa3 na3 ca3)).setCell ⟨w.heap.size + 1, 2, none⟩ (.slice As3 ns3 cs3)).setCell ⟨w.heap.size + 1, 3, none⟩ (.slice Ah3 n3 ch3)).setCell ⟨w.heap.size + 1, 4, none⟩ (.slice Af3 nf3 cf3)) = W9 at Y4 hB HX5 hsz ⊢
  simp only [List.set_cons_zero, List.set_cons_succ] at Y4
  have Y4c0 : W9.cell? ⟨w.heap.size + 1, 0, none⟩ = some (.slice Aq3 nq3 cq3) := Y4.cell 0
  have Y4c1 : W9.cell? ⟨w.heap.size + 1, 1, none⟩ = some (.slice Aa3 na3 ca3) := Y4.cell 1
  have Y4c2 : W9.cell? ⟨w.heap.size + 1, 2, none⟩ = some (.slice As3 ns3 cs3) := Y4.cell 2
  have Y4c3 : W9.cell? ⟨w.heap.size + 1, 3, none⟩ = some (.slice Ah3 n3 ch3) := Y4.cell 3
  have Y4c4 : W9.cell? ⟨w.heap.size + 1, 4, none⟩ = some (.slice Af3 nf3 cf3) := Y4.cell 4
  refine bodyPost_ret (v := .tuple #[.agg #[.slice Aq3 nq3 cq3, .slice Aa3 na3 ca3, .slice As3 ns3 cs3, .slice Ah3 n3 ch3, .slice Af3 nf3 cf3], .bool true, .int .i64 0]) (by simp [results, Try.results23, go_sem, Y4c0, Y4c1, Y4c2, Y4c3, Y4c4]) rfl ?_
  exact ⟨_, _, _, _, _, rfl, HX5.more hsz, hB⟩
end Go.Proofs.Ytmbifmmkccghfaa

/-
  Rows of one cell an element, copied by append and stored into. No condition.
-/
namespace Go.Proofs.Ytmbifmmkccghfaa
open Go.RowKit

abbrev OwnX {α : Type} (enc : α → Value) (w : World) (base e : Nat) (V : Value) (l : List α) : Prop := OwnE (fun x => [enc x]) 1 w base e V l
theorem OwnX.put {α : Type} {enc : α → Value} {w : World} {base e g k c : Nat} {l : List α} (h : OwnX enc w base e (.slice (some ⟨g, 0, none⟩) k c) l) (hl : l.length = k) (j : Nat) (x : α) :
    OwnX enc (w.setCell ⟨g, j, none⟩ (enc x)) base e (.slice (some ⟨g, 0, none⟩) k c) (l.set j x) := by
  have e1 : ∀ l : List α, l.flatMap (fun x => [enc x]) = l.map enc := fun l => by
    induction l with
    | nil => rfl
    | cons x l ih => simp [List.flatMap_cons, ih]
  subst hl
  have := own_set (i := j) h (enc x)
  unfold OwnX OwnE
  rw [e1, List.length_set, List.map_set, ← e1]
  exact this
theorem OwnX.fr {w : World} {base : Nat} {V : Value} {l : List Bool} (h : OwnX Value.bool w base 4 V l) (hl : l.length ≤ maxLen) : FrAt w w.heap.size V l := by
  refine ⟨ownE_cap h, ?_⟩
  obtain ⟨A, c, hv, hc⟩ := OwnE.sl h (fun _ => rfl)
  refine ⟨A, c, hv, hl, fun k hk => ?_⟩
  obtain ⟨b, rfl, _, hb, h2⟩ := hc k hk
  refine ⟨b, 0, rfl, hb, fun j hj => ?_⟩
  obtain rfl : j = 0 := by omega
  rw [Nat.zero_add, h2 0 (by omega)]
  simp [hk]
end Go.Proofs.Ytmbifmmkccghfaa

/-
  Deliver of the reference. (Printed by gen_ru.py and pp.py.) No condition.
-/
namespace Go.Proofs.Ytmbifmmkccghfaa
open Go.RowKit Go.Shelf
attribute [local go_sem] Oper.semAt_some
attribute [local go_sem ↓ high] app_named

end Go.Proofs.Ytmbifmmkccghfaa

/-
  Drawn regions in which stores follow one another at the end: the readers are taken first. No condition.
-/
namespace Go.Proofs.Ytmbifmmkccghfaa
open Go.RowKit
section
variable {P : Program} {ops : Array Oper} {md : Region.Mode} {N : Act → World → Prop} {C : World → Prop}
def anyG (P : Program) (md : Region.Mode) (ops : Array Oper) (N : Act → World → Prop) (C : World → Prop) (z : Nat) : Nat → Array Bool → Act → World → Prop
  | 0, listed, a, w => listed.getD z false = true ∧ Region.ready md ops listed = [] ∧ N a w
  | n + 1, listed, a, w => (listed.getD z true = false → C w) ∧ (Region.ready md ops listed = [] → N a w) ∧ ∀ i ∈ Region.ready md ops listed, wpOp P ops (Nrm N) i (anyG P md ops N C z n (listed.setIfInBounds i true)) a w
theorem anyG_any {z : Nat} {Q : Exit → Act → World → Prop} (hN : ∀ a w, N a w → Q .normal a w) : ∀ {n : Nat} {listed : Array Bool} {a : Act} {w : World}, anyG P md ops N C z n listed a w → wpAny P md ops Q n listed a w
  | 0, _, _, _, h => ⟨h.2.1, hN _ _ h.2.2⟩
  | n + 1, listed, a, w, h => ⟨fun h0 => hN _ _ (h.2.1 h0), fun i hi => by
      obtain ⟨_, o, ho, _⟩ := mem_ready.1 hi
      exact wpOp_go ho rfl rfl rfl (h.2.2 i hi) fun _ _ _ hk => anyG_any hN hk⟩
theorem anyG_first {z i : Nat} {oi : Oper} {v : Value} (hA : awaited md ops z = true) (hi : ops[i]? = some oi) (hiz : i < z) (hsel : ∀ (j : Nat) (o : Oper) cs b, ops[j]? = some o → o.op ≠ .select cs b) :
    ∀ (n : Nat) (listed : Array Bool) (a : Act) (w : World), Closed md ops listed → listed.getD z true = false →
      (∀ j oj, ops[j]? = some oj → j ≠ i → listed.getD j true = false → (∀ e ∈ oj.after, Region.binds md e = true → e.on ≠ i) → oi.apart ops oj = true) →
      i ∈ Region.ready md ops listed → YieldsC P ops C oi v a → C w →
      anyG P md ops N C z n (listed.setIfInBounds i true) (a.put oi.dst v) w → anyG P md ops N C z (n + 1) listed a w
  | n, listed, a, w, hc, hz, hfree, hr, hy, hC, H => by
    refine ⟨fun _ => hC, fun h => (by rw [h] at hr; cases hr), fun j hj => ?_⟩
    by_cases hji : j = i
    · subst hji; exact hy.wpOp hi hC H
    · have hjz : j ≠ z := by
        rintro rfl
        have h1 := all_listed hA hc hj i hiz
        rw [getD_tf (mem_ready.1 hr).1] at h1
        cases h1
      have hjr := ready_mono (i := i) hj hji
      match n, H with
      | 0, H =>
        rw [H.2.1] at hjr
        cases hjr
      | n + 1, H =>
        obtain ⟨hjun, oj, hoj, hall⟩ := mem_ready.1 hj
        have hiun := (mem_ready.1 hr).1
        have hnot : ∀ e ∈ oj.after, Region.binds md e = true → e.on ≠ i := fun e he hb heq => by
          have h1 := hall e he hb
          rw [heq] at h1
          rw [getD_tf hiun] at h1
          cases h1
        obtain ⟨h1, h2, h3⟩ := Oper.apart_spec (hfree j oj hoj hji hjun hnot)
        refine wpOp_go hoj (execOp_put oj (fun cs b => hsel j oj cs b hoj) a oi.dst v h1) (wanted_put oj a oi.dst v h1) (by cases oi.dst <;> rfl) (H.2.2 j hjr) fun u D w' hk => ?_
        have hzj : (listed.setIfInBounds j true).getD z true = false := by rw [getD_set_ne true hjz]; exact hz
        have hCw : C w' := by
          cases n with
          | zero =>
            have h4 := hk.1
            rw [getD_set_ne false hjz, getD_set_ne false (by omega), getD_tf hz] at h4
            cases h4
          | succ n => exact hk.1 (by rw [getD_set_ne true hjz, getD_set_ne true (by omega)]; exact hz)
        refine anyG_first (v := v) hA hi hiz hsel n _ _ _ (closed_set hc hj) hzj (fun k ok hk hki hun hno => hfree k ok hk hki ?_ hno) (ready_mono hr (Ne.symm hji)) ?_ hCw ?_
        · by_cases hjk : j = k
          · subst hjk; exact hjun
          · rw [getD_set_ne true hjk] at hun; exact hun
        · have e1 : execOp (Act.put { a with defers := D } oj.dst u).eval oi = execOp a.eval oi := execOp_put oi (fun cs b => hsel i oi cs b hi) { a with defers := D } oj.dst u h3
          have e2 := wanted_put oi { a with defers := D } oj.dst u h3
          rcases hy with ⟨y1, y2⟩ | ⟨y1, y2⟩
          · exact .inl ⟨e2.trans y1, fun w hw => by rw [e1]; exact y2 w hw⟩
          · exact .inr ⟨e2.trans y1, y2⟩
        · rw [Array.setIfInBounds_comm _ _ hji]
          have e3 : ({ a.put oi.dst v with defers := D } : Act) = Act.put { a with defers := D } oi.dst v := by cases oi.dst <;> rfl
          rw [e3, Act.put_comm _ v u h2] at hk
          exact hk
theorem anyG_heads {z : Nat} (hA : awaited md ops z = true) (hs : Region.noSelect ops = true) (n : Nat) (w : World) (hC : C w) : ∀ (ks : List Nat) (listed : Array Bool) (a : Act), Closed md ops listed → listed.getD z true = false → ks.all (fun k => decide (k < z)) = true →
    headsN md ops ks listed = true → wpQuiet P ops C (fun a' => anyG P md ops N C z n (headsL ks listed) a' w) (headOps ops ks) a → anyG P md ops N C z (n + ks.length) listed a w
  | [], _, _, _, _, _, _, h => h
  | k :: ks, listed, a, hc, hz, hlt, hB, h => by
    cases h0 : ops[k]? with
    | none => simp [headsN, h0] at hB
    | some o =>
    simp only [headsN, Bool.and_eq_true, h0] at hB
    obtain ⟨hr, hf, hv, hB⟩ := hB
    rw [List.all_cons, Bool.and_eq_true, decide_eq_true_eq] at hlt
    have hr' : k ∈ Region.ready md ops listed := by simpa using hr
    have hc' := closed_set hc hr'
    have hz' : (listed.setIfInBounds k true).getD z true = false := by rw [getD_set_ne true (by omega)]; exact hz
    rw [headOps, List.filterMap_cons, h0] at h
    unfold wpQuiet at h
    by_cases hw : Region.wanted o (yielded ops a.tmps) = true
    · rw [if_pos hw] at h
      obtain ⟨v, h1, h2⟩ := h
      exact anyG_first hA h0 hlt.1 (Region.noSelect_spec hs) (n + ks.length) listed a w hc hz (Region.free_spec h0 hf) hr' (yieldsN_of hv hw h1) hC (anyG_heads hA hs n w hC ks _ _ hc' hz' hlt.2 hB h2)
    · rw [if_neg hw] at h
      exact anyG_first hA h0 hlt.1 (Region.noSelect_spec hs) (n + ks.length) listed a w hc hz (Region.free_spec h0 hf) hr' (.inr ⟨by simpa using hw, rfl⟩) hC (anyG_heads hA hs n w hC ks _ _ hc' hz' hlt.2 hB h)
theorem anyG_val {z n i : Nat} {o : Oper} {v : Value} {listed : Array Bool} {a : Act} {w w' : World} (d : Option Tmp) (hr : Region.ready md ops listed = [i]) (hi : ops[i]? = some o) (hd : o.dst = d) (hw : Region.wanted o (yielded ops a.tmps) = true) (hC : listed.getD z true = false → C w)
    (hrun : (execOp a.eval o).run P w = .ok (.value v) w') (h : anyG P md ops N C z n (listed.setIfInBounds i true) (a.put d v) w') : anyG P md ops N C z (n + 1) listed a w := by
  subst hd
  refine ⟨hC, fun h0 => (by rw [h0] at hr; cases hr), fun j hj => ?_⟩
  rw [hr] at hj
  obtain rfl : j = i := by simpa using hj
  unfold wpOp
  simp only [hi, hw, if_true]
  refine .inl ?_
  unfold Oper.wp
  rw [hrun]
  exact h
theorem anyG_done {z : Nat} {listed : Array Bool} {a : Act} {w : World} (hr : Region.ready md ops listed = []) (hz : listed.getD z false = true) (h : N a w) : anyG P md ops N C z 0 listed a w := ⟨hz, hr, h⟩
end
theorem wp_region_upto {P : Program} {N : Act → World → Prop} {C : World → Prop} {Q : Exit → Act → World → Prop} {id : Nat} {a : Act} {w : World} {l : List Oper} (z : Nat) (ks : List Nat) (hm : P.follows .mixedOrders = true)
    (hB : ((Region.noSelect l.toArray && (decide (ks.length ≤ l.length) && headsN .any l.toArray ks (Array.replicate l.length false))) && ((awaited .any l.toArray z && decide (z < l.length)) && ks.all (fun k => decide (k < z)))) = true) (hC : C w.drew) (hN : ∀ a w, N a w → Q .normal a w)
    (h : wpQuiet P l.toArray C (fun a' => anyG P .any l.toArray N C z (l.length - ks.length) (headsL ks (Array.replicate l.length false)) a' w.drew) (headOps l.toArray ks) a) : (Code.region id l.toArray true).wp P Q a w := by
  simp only [Bool.and_eq_true] at hB
  obtain ⟨⟨hs, hn, hB⟩, ⟨hA, hp⟩, hlt⟩ := hB
  have hn := of_decide_eq_true hn
  have hp := of_decide_eq_true hp
  refine wp_region_any hm (anyG_any (C := C) (z := z) hN ?_)
  have hz0 : (Array.replicate l.length false).getD z true = false := by
    rw [Array.getD_eq_getD_getElem?, Array.getElem?_replicate, if_pos hp]
    rfl
  have := anyG_heads (P := P) (md := .any) (N := N) hA hs (l.length - ks.length) w.drew hC ks (Array.replicate l.length false) a closed_none hz0 hlt hB h
  rw [show l.length - ks.length + ks.length = l.length by omega] at this
  rw [List.size_toArray]
  exact this
end Go.Proofs.Ytmbifmmkccghfaa

/-
  Contract of Tick of the reference. (Printed by gen_rj.py and pp.py.) No condition.
-/
namespace Go.Proofs.Ytmbifmmkccghfaa
open Go.RowKit Go.Shelf
attribute [local go_sem] Oper.semAt_some
attribute [local go_sem ↓ high] app_named

set_option maxRecDepth 100000 in
set_option maxHeartbeats 4000000 in
theorem oRTick_any (b : Bx) (Aq Aa As Ah Af : Option Addr) (nq cq na ca ns cs n ch nf cf : Nat) (w : World) (hx : Hid (BxAt w w.heap.size (.slice Aq nq cq) (.slice Aa na ca) (.slice As ns cs) (.slice Ah n ch) (.slice Af nf cf) b)) (hns : Hid (b.sent.length = ns)) (hn : Hid (b.heard.length = n)) (hnf : Hid (b.fresh.length = nf)) {T : Bx × List Int × Int} (hT : Hid (b.tickT = T)) :
    Calls Try.prog 18 #[.agg #[.slice Aq nq cq, .slice Aa na ca, .slice As ns cs, .slice Ah n ch, .slice Af nf cf]] w (RetTick T w) := by
  go_enter Try.func18, Try.ntmps18
  have hB := ((Below.refl w.heap.size w).alloc (Nat.le_refl _) (.cells #[.slice Aq nq cq, .slice Aa na ca, .slice As ns cs, .slice Ah n ch, .slice Af nf cf] 30)).alloc (by simp) (.cells #[.slice none 0 0, .slice none 0 0, .slice none 0 0, .slice none 0 0, .slice none 0 0] 30)
  have X1 := (Box.new w [.slice Aq nq cq, .slice Aa na ca, .slice As ns cs, .slice Ah n ch, .slice Af nf cf] 30).alloc (.cells #[.slice none 0 0, .slice none 0 0, .slice none 0 0, .slice none 0 0, .slice none 0 0] 30)
  have X2 := Box.newAt (w := w.alloc (.cells #[.slice Aq nq cq, .slice Aa na ca, .slice As ns cs, .slice Ah n ch, .slice Af nf cf] 30)) (n := w.heap.size + 1) [.slice none 0 0, .slice none 0 0, .slice none 0 0, .slice none 0 0, .slice none 0 0] 30 (by simp)
  go_upto_region 1 with fail
  generalize (w.alloc (.cells #[.slice Aq nq cq, .slice Aa na ca, .slice As ns cs, .slice Ah n ch, .slice Af nf cf] 30)).alloc (.cells #[.slice none 0 0, .slice none 0 0, .slice none 0 0, .slice none 0 0, .slice none 0 0] 30) = w1 at hB X1 X2 ⊢
  have z1 := X1.lt
  have X1c0 : w1.cell? ⟨w.heap.size, 0, none⟩ = some (.slice Aq nq cq) := X1.cell 0
  have X1c1 : w1.cell? ⟨w.heap.size, 1, none⟩ = some (.slice Aa na ca) := X1.cell 1
  have X1c2 : w1.cell? ⟨w.heap.size, 2, none⟩ = some (.slice As ns cs) := X1.cell 2
  have X1c3 : w1.cell? ⟨w.heap.size, 3, none⟩ = some (.slice Ah n ch) := X1.cell 3
  have X1c4 : w1.cell? ⟨w.heap.size, 4, none⟩ = some (.slice Af nf cf) := X1.cell 4
  obtain ⟨c, hc⟩ : ∃ c, Hid (b.checkT = c) := ⟨_, Lib.hid rfl⟩
  go_wp2_with fail
  refine (oRCheck_is hc (hx.out.later hB)).mono ?_
  rintro e w2 ⟨rfl, hb⟩
  have hB := hB.trans (hb.mono hB.size)
  have X1 := X1.later hb
  have X2 := X2.later hb
  clear hb z1 X1c0 X1c1 X1c2 X1c3 X1c4
  by_cases h0 : c = 0
  rotate_left
  · have d0 : (c != 0) = true := by simp [h0]
    obtain rfl := (tick_no hc.out h0).symm.trans hT.out
    have X2c0 : w2.cell? ⟨w.heap.size + 1, 0, none⟩ = some (.slice none 0 0) := X2.cell 0
    have X2f0 : w2.frozen? ⟨w.heap.size + 1, 0, none⟩ = false := X2.free 0
    have X2c1 : w2.cell? ⟨w.heap.size + 1, 1, none⟩ = some (.slice none 0 0) := X2.cell 1
    have X2f1 : w2.frozen? ⟨w.heap.size + 1, 1, none⟩ = false := X2.free 1
    have X2c2 : w2.cell? ⟨w.heap.size + 1, 2, none⟩ = some (.slice none 0 0) := X2.cell 2
    have X2f2 : w2.frozen? ⟨w.heap.size + 1, 2, none⟩ = false := X2.free 2
    have X2c3 : w2.cell? ⟨w.heap.size + 1, 3, none⟩ = some (.slice none 0 0) := X2.cell 3
    have X2f3 : w2.frozen? ⟨w.heap.size + 1, 3, none⟩ = false := X2.free 3
    have X2c4 : w2.cell? ⟨w.heap.size + 1, 4, none⟩ = some (.slice none 0 0) := X2.cell 4
    have X2f4 : w2.frozen? ⟨w.heap.size + 1, 4, none⟩ = false := X2.free 4
    have X2z : w.heap.size + 1 < w2.heap.size := X2.lt
    have Y2 := (((((X2.set 0 (.slice none 0 0)).set 1 (.slice none 0 0)).set 2 (.slice none 0 0)).set 3 (.slice none 0 0)).set 4 (.slice none 0 0))
    have hB2 := (((((hB.setCell (p := ⟨w.heap.size + 1, 0, none⟩) (by simp <;> omega) (.slice none 0 0)).setCell (p := ⟨w.heap.size + 1, 1, none⟩) (by simp <;> omega) (.slice none 0 0)).setCell (p := ⟨w.heap.size + 1, 2, none⟩) (by simp <;> omega) (.slice none 0 0)).setCell (p := ⟨w.heap.size + 1, 3, none⟩) (by simp <;> omega) (.slice none 0 0)).setCell (p := ⟨w.heap.size + 1, 4, none⟩) (by simp <;> omega) (.slice none 0 0))
    go_wp2
    clear X2c0 X2c1 X2c2 X2c3 X2c4 X2f0 X2f1 X2f2 X2f3 X2f4 X2z
    generalize (((((w2.setCell ⟨w.heap.size + 1, 0, none⟩ (.slice none 0 0)).setCell ⟨w.heap.size + 1, 1, none⟩ (.slice none 0 0)).setCell ⟨w.heap.size + 1, 2, none⟩ (.slice none 0 0)).setCell ⟨w.heap.size + 1, 3, none⟩ (.slice none 0 0)).setCell ⟨w.heap.size + 1, 4, none⟩ (.slice none 0 0)) = W at Y2 hB2 ⊢
    have y0 : W.cell? ⟨w.heap.size + 1, 0, none⟩ = some (.slice none 0 0) := Y2.cell 0
    have y1 : W.cell? ⟨w.heap.size + 1, 1, none⟩ = some (.slice none 0 0) := Y2.cell 1
    have y2 : W.cell? ⟨w.heap.size + 1, 2, none⟩ = some (.slice none 0 0) := Y2.cell 2
    have y3 : W.cell? ⟨w.heap.size + 1, 3, none⟩ = some (.slice none 0 0) := Y2.cell 3
    have y4 : W.cell? ⟨w.heap.size + 1, 4, none⟩ = some (.slice none 0 0) := Y2.cell 4
    refine bodyPost_ret (v := .tuple #[.agg #[.slice none 0 0, .slice none 0 0, .slice none 0 0, .slice none 0 0, .slice none 0 0], .slice none 0 0, .int .i64 c]) (by simp [results, Try.results18, go_sem, y0, y1, y2, y3, y4]) rfl ?_
    exact ⟨_, _, _, _, _, _, rfl, bxAt_zero _ _, hdAt_nil _ _, hB2⟩
  subst h0
  have hok := check_ok hc.out
  obtain ⟨hl1, hl2, hl3, -, -⟩ := okB_parts hok
  have hl1 := of_decide_eq_true hl1
  rw [hn.out, hns.out, hnf.out] at hl1
  have HOK := Lib.hid hok
  obtain ⟨⟨hn1, hn8⟩, hl2', hn4⟩ := hl1
  obtain rfl : nf = n := hl2'
  have hbd : ∀ k, k < nf → (0 ≤ b.h k ∧ b.h k ≤ (ns : Int)) ∧ (b.f k = true → 1 ≤ b.h k) := fun k hk => by
    have h9 := hl3 k (by rw [hn.out]; exact hk)
    unfold Bx.gateB at h9
    split at h9
    · next h7 =>
      refine ⟨by omega, fun h6 => ?_⟩
      rw [h6] at h9
      cases h9
    · have h8 := of_decide_eq_true h9
      rw [hns.out] at h8
      omega
  have HBD := Lib.hid hbd
  clear hok hl2 hl3 hbd
  go_upto_region 6 with fail
  obtain ⟨DC, hDC⟩ : ∃ DC, DC = w2.heap.size := ⟨_, rfl⟩
  have hsz1 := X1.lt
  have hsz2 := X2.lt
  go_loopw [7, 6] (fun i s wr => ∃ k : Nat, k ≤ nf ∧ i = .int .i64 k ∧ Below w.heap.size w wr ∧ DC ≤ wr.heap.size ∧ Box wr w.heap.size [.slice Aq nq cq, .slice Aa na ca, .slice As ns cs, .slice Ah nf ch, .slice Af nf cf] ∧ Box wr (w.heap.size + 1) [.slice none 0 0, .slice none 0 0, .slice none 0 0, .slice none 0 0, .slice none 0 0] ∧ ∃ V, V = s ∧ Hid (OwnHd wr DC V ((List.range k).map b.orderB))) (fun i _ _ => nf - (intOf i).toNat)
  case atStart => exact ⟨0, by omega, rfl, hB, by omega, X1, X2, _, rfl, Lib.hid (ownE_nil _ _ _ _ _)⟩
  case round =>
    clear hB X1 X2
    obtain ⟨k, hk, rfl, hB, hD, X1, X2, s, rfl, hO⟩ := hrel
    obtain ⟨wo, rfl⟩ : ∃ wo : World, wo = wr := ⟨_, rfl⟩
    rcases Nat.lt_or_ge k nf with hlt | hge
    rotate_left
    · obtain rfl : nf = k := by omega
      have hlm : ¬ ((nf : Int) < (nf : Int)) := by omega
      have hll : ((List.range b.heard.length).map b.orderB).length = nf := by rw [List.length_map, List.length_range, hn.out]
      have hO : Hid (OwnHd wo DC s ((List.range b.heard.length).map b.orderB)) := by rw [hn.out]; exact hO
      have hmk := oMakeB nf (by omega) wo
      have hbS := (Below.refl wo.heap.size wo).alloc (Nat.le_refl _) (.cells (List.replicate nf (Value.bool false)).toArray 4)
      have XN := Box.new wo (List.replicate nf (Value.bool false)) 4
      have Z1 := X1.later hbS
      have Z2 := X2.later hbS
      have HO2 := Lib.hid (OwnE.later hO.out hbS)
      have HLL := Lib.hid hll
      have hB2 := hB.trans (hbS.mono hB.size)
      have X1c0 : wo.cell? ⟨w.heap.size, 0, none⟩ = some (.slice Aq nq cq) := X1.cell 0
      have X1c1 : wo.cell? ⟨w.heap.size, 1, none⟩ = some (.slice Aa na ca) := X1.cell 1
      have X1c2 : wo.cell? ⟨w.heap.size, 2, none⟩ = some (.slice As ns cs) := X1.cell 2
      have X1c3 : wo.cell? ⟨w.heap.size, 3, none⟩ = some (.slice Ah nf ch) := X1.cell 3
      have X1c4 : wo.cell? ⟨w.heap.size, 4, none⟩ = some (.slice Af nf cf) := X1.cell 4
      have hzS : wo.heap.size < (wo.alloc (.cells (List.replicate nf (Value.bool false)).toArray 4)).heap.size := by simp
      generalize wo.alloc (.cells (List.replicate nf (Value.bool false)).toArray 4) = W2 at hmk XN Z1 Z2 HO2 hB2 hzS
      have Z1c0 : W2.cell? ⟨w.heap.size, 0, none⟩ = some (.slice Aq nq cq) := Z1.cell 0
      have Z1f0 : W2.frozen? ⟨w.heap.size, 0, none⟩ = false := Z1.free 0
      have Z1c1 : W2.cell? ⟨w.heap.size, 1, none⟩ = some (.slice Aa na ca) := Z1.cell 1
      have Z1f1 : W2.frozen? ⟨w.heap.size, 1, none⟩ = false := Z1.free 1
      have Z1c2 : W2.cell? ⟨w.heap.size, 2, none⟩ = some (.slice As ns cs) := Z1.cell 2
      have Z1f2 : W2.frozen? ⟨w.heap.size, 2, none⟩ = false := Z1.free 2
      have Z1c3 : W2.cell? ⟨w.heap.size, 3, none⟩ = some (.slice Ah nf ch) := Z1.cell 3
      have Z1f3 : W2.frozen? ⟨w.heap.size, 3, none⟩ = false := Z1.free 3
      have Z1c4 : W2.cell? ⟨w.heap.size, 4, none⟩ = some (.slice Af nf cf) := Z1.cell 4
      have Z1f4 : W2.frozen? ⟨w.heap.size, 4, none⟩ = false := Z1.free 4
      have Z1z : w.heap.size < W2.heap.size := Z1.lt
      go_upto_region 12 with fail
      have Y1 := Z1.set 4 (.slice (some ⟨wo.heap.size, 0, none⟩) nf nf)
      have Y2 := Z2.other (a := ⟨w.heap.size, 4, none⟩) (by simp) (.slice (some ⟨wo.heap.size, 0, none⟩) nf nf)
      have YN := XN.other (a := ⟨w.heap.size, 4, none⟩) (by simp <;> omega) (.slice (some ⟨wo.heap.size, 0, none⟩) nf nf)
      have hB3 := hB2.setCell (p := ⟨w.heap.size, 4, none⟩) (by simp) (.slice (some ⟨wo.heap.size, 0, none⟩) nf nf)
      have HO3 := Lib.hid (HO2.out.set (a := ⟨w.heap.size, 4, none⟩) (by simp <;> omega) (.slice (some ⟨wo.heap.size, 0, none⟩) nf nf))
      have hzW : (W2.setCell ⟨w.heap.size, 4, none⟩ (.slice (some ⟨wo.heap.size, 0, none⟩) nf nf)).heap.size = W2.heap.size := by simp
      clear hmk Z1c0 Z1c1 Z1c2 Z1c3 Z1c4 Z1f0 Z1f1 Z1f2 Z1f3 Z1f4 Z1z X1c0 X1c1 X1c2 X1c3 X1c4
      generalize W2.setCell ⟨w.heap.size, 4, none⟩ (.slice (some ⟨wo.heap.size, 0, none⟩) nf nf) = W4 at Y1 Y2 YN hB3 HO3 hzW ⊢
      simp only [List.set_cons_zero, List.set_cons_succ] at Y1
      have Y1c0 : W4.cell? ⟨w.heap.size, 0, none⟩ = some (.slice Aq nq cq) := Y1.cell 0
      have Y1c1 : W4.cell? ⟨w.heap.size, 1, none⟩ = some (.slice Aa na ca) := Y1.cell 1
      have Y1c2 : W4.cell? ⟨w.heap.size, 2, none⟩ = some (.slice As ns cs) := Y1.cell 2
      have Y1c3 : W4.cell? ⟨w.heap.size, 3, none⟩ = some (.slice Ah nf ch) := Y1.cell 3
      have Y1c4 : W4.cell? ⟨w.heap.size, 4, none⟩ = some (.slice (some ⟨wo.heap.size, 0, none⟩) nf nf) := Y1.cell 4
      have Y2c0 : W4.cell? ⟨w.heap.size + 1, 0, none⟩ = some (.slice none 0 0) := Y2.cell 0
      have Y2f0 : W4.frozen? ⟨w.heap.size + 1, 0, none⟩ = false := Y2.free 0
      have Y2c1 : W4.cell? ⟨w.heap.size + 1, 1, none⟩ = some (.slice none 0 0) := Y2.cell 1
      have Y2f1 : W4.frozen? ⟨w.heap.size + 1, 1, none⟩ = false := Y2.free 1
      have Y2c2 : W4.cell? ⟨w.heap.size + 1, 2, none⟩ = some (.slice none 0 0) := Y2.cell 2
      have Y2f2 : W4.frozen? ⟨w.heap.size + 1, 2, none⟩ = false := Y2.free 2
      have Y2c3 : W4.cell? ⟨w.heap.size + 1, 3, none⟩ = some (.slice none 0 0) := Y2.cell 3
      have Y2f3 : W4.frozen? ⟨w.heap.size + 1, 3, none⟩ = false := Y2.free 3
      have Y2c4 : W4.cell? ⟨w.heap.size + 1, 4, none⟩ = some (.slice none 0 0) := Y2.cell 4
      have Y2f4 : W4.frozen? ⟨w.heap.size + 1, 4, none⟩ = false := Y2.free 4
      have Y2z : w.heap.size + 1 < W4.heap.size := Y2.lt
      have z9 := Y1.lt
      go_wp2
      have V2 := (((((Y2.set 0 (.slice Aq nq cq)).set 1 (.slice Aa na ca)).set 2 (.slice As ns cs)).set 3 (.slice Ah nf ch)).set 4 (.slice (some ⟨wo.heap.size, 0, none⟩) nf nf))
      have VN := (((((YN.other (a := ⟨w.heap.size + 1, 0, none⟩) (by simp <;> omega) (.slice Aq nq cq)).other (a := ⟨w.heap.size + 1, 1, none⟩) (by simp <;> omega) (.slice Aa na ca)).other (a := ⟨w.heap.size + 1, 2, none⟩) (by simp <;> omega) (.slice As ns cs)).other (a := ⟨w.heap.size + 1, 3, none⟩) (by simp <;> omega) (.slice Ah nf ch)).other (a := ⟨w.heap.size + 1, 4, none⟩) (by simp <;> omega) (.slice (some ⟨wo.heap.size, 0, none⟩) nf nf))
      have hB4 := (((((hB3.setCell (p := ⟨w.heap.size + 1, 0, none⟩) (by simp <;> omega) (.slice Aq nq cq)).setCell (p := ⟨w.heap.size + 1, 1, none⟩) (by simp <;> omega) (.slice Aa na ca)).setCell (p := ⟨w.heap.size + 1, 2, none⟩) (by simp <;> omega) (.slice As ns cs)).setCell (p := ⟨w.heap.size + 1, 3, none⟩) (by simp <;> omega) (.slice Ah nf ch)).setCell (p := ⟨w.heap.size + 1, 4, none⟩) (by simp <;> omega) (.slice (some ⟨wo.heap.size, 0, none⟩) nf nf))
      have HO4 := Lib.hid (((((HO3.out.set (a := ⟨w.heap.size + 1, 0, none⟩) (by simp <;> omega) (.slice Aq nq cq)).set (a := ⟨w.heap.size + 1, 1, none⟩) (by simp <;> omega) (.slice Aa na ca)).set (a := ⟨w.heap.size + 1, 2, none⟩) (by simp <;> omega) (.slice As ns cs)).set (a := ⟨w.heap.size + 1, 3, none⟩) (by simp <;> omega) (.slice Ah nf ch)).set (a := ⟨w.heap.size + 1, 4, none⟩) (by simp <;> omega) (.slice (some ⟨wo.heap.size, 0, none⟩) nf nf))
      clear Y1c0 Y1c1 Y1c2 Y1c3 Y1c4 Y2c0 Y2c1 Y2c2 Y2c3 Y2c4 Y2f0 Y2f1 Y2f2 Y2f3 Y2f4 Y2z
      generalize (((((W4.setCell ⟨w.heap.size + 1, 0, none⟩ (.slice Aq nq cq)).setCell ⟨w.heap.size + 1, 1, none⟩ (.slice Aa na ca)).setCell ⟨w.heap.size + 1, 2, none⟩ (.slice As ns cs)).setCell ⟨w.heap.size + 1, 3, none⟩ (.slice Ah nf ch)).setCell ⟨w.heap.size + 1, 4, none⟩ (.slice (some ⟨wo.heap.size, 0, none⟩) nf nf)) = W9 at V2 VN hB4 HO4 ⊢
      simp only [List.set_cons_zero, List.set_cons_succ] at V2
      have V2c0 : W9.cell? ⟨w.heap.size + 1, 0, none⟩ = some (.slice Aq nq cq) := V2.cell 0
      have V2c1 : W9.cell? ⟨w.heap.size + 1, 1, none⟩ = some (.slice Aa na ca) := V2.cell 1
      have V2c2 : W9.cell? ⟨w.heap.size + 1, 2, none⟩ = some (.slice As ns cs) := V2.cell 2
      have V2c3 : W9.cell? ⟨w.heap.size + 1, 3, none⟩ = some (.slice Ah nf ch) := V2.cell 3
      have V2c4 : W9.cell? ⟨w.heap.size + 1, 4, none⟩ = some (.slice (some ⟨wo.heap.size, 0, none⟩) nf nf) := V2.cell 4
      have hX := hx.out.later hB4
      have hHd := OwnHd.hd HO4.out (by rw [HLL.out]; unfold maxLen; omega)
      have hFr := box_fr (l := List.replicate nf false) (by rw [List.map_replicate]; exact VN) (by rw [List.length_replicate]; unfold maxLen; omega)
      rw [List.length_replicate] at hFr
      obtain rfl := (tick_yes HOK.out).symm.trans hT.out
      refine bodyPost_ret (v := .tuple #[.agg #[.slice Aq nq cq, .slice Aa na ca, .slice As ns cs, .slice Ah nf ch, .slice (some ⟨wo.heap.size, 0, none⟩) nf nf], s, .int .i64 0]) (by simp [results, Try.results18, go_sem, V2c0, V2c1, V2c2, V2c3, V2c4]) rfl ?_
      refine ⟨_, _, _, _, _, _, rfl, ⟨hX.net, hX.sent, hX.heard, ?_⟩, hHd, hB4⟩
      show FrAt _ _ _ (List.replicate b.heard.length false)
      rw [hn.out]
      exact hFr
    have hlm : (k : Int) < (nf : Int) := by omega
    have hu := HBD.out k hlt
    obtain ⟨bf, off, rfl, hbf, cf0⟩ := hx.out.fresh.2.one (k := k) (by rw [hnf.out]; exact hlt)
    replace cf0 : wo.cell? ⟨bf, off + k, none⟩ = some (.bool (b.f k)) := (hB.cell hbf).trans cf0
    have hfz := Nat.lt_of_lt_of_le hbf hB.size
    have z1 := X1.lt
    have w14 : wo.cell? ⟨w.heap.size, 4, none⟩ = some (.slice (some ⟨bf, off, none⟩) nf cf) := X1.cell 4
    have w13 : wo.cell? ⟨w.heap.size, 3, none⟩ = some (.slice Ah nf ch) := X1.cell 3
    have HLQ := Lib.hid (show ((List.range k).map b.orderB).length = k by simp)
    obtain ⟨ov, hov⟩ : ∃ ov, b.orderB k = ov := ⟨_, rfl⟩
    have HRQ := Lib.hid (show (List.range (k + 1)).map b.orderB = (List.range k).map b.orderB ++ [ov] by rw [List.range_succ, List.map_append, List.map_cons, List.map_nil, hov])
    have hob : b.orderB k = if b.f k = true then (b.at (b.h k - 1)).2 else -1 := rfl
    rw [hov] at hob
    clear hov
    obtain ⟨i9, E9⟩ := oElemI
    generalize b.f k = f at cf0 hob hu
    cases f with
    | false =>
      obtain rfl : ov = -1 := by rw [hob]; simp
      clear hob hu
      have hd0 := Below.refl wo.heap.size wo
      have hbS := (Below.refl wo.heap.size wo).alloc (Nat.le_refl _) (.cells #[.int .i64 (-1)] 3)
      have XN := Box.new wo [.int .i64 (-1)] 3
      have hzW := hd0.size
      have hzS := hbS.size
      have hO3 := OwnE.later (OwnE.later hO.out hd0) hbS
      obtain ⟨g', c', w', hr, hO4, hgr⟩ := run_appE E9 (fun _ => rfl) oOneI (by omega) (-1) 27 hO3 XN (by omega) (by rw [HLQ.out]; omega)
      rw [HLQ.out] at hO4 hr
      have hB2 := OwnE.grown hO3 hgr (by omega) ((hB.trans (hd0.mono hB.size)).trans (hbS.mono (by have := hB.size; omega))) (by have := hB.size; omega)
      have X12 := box_grown hO3 hgr ((X1.later hd0).later hbS) (by omega)
      have X22 := box_grown hO3 hgr ((X2.later hd0).later hbS) (by omega)
      have hD2 : DC ≤ w'.heap.size := by have := hgr.size; omega
      have HO4 := Lib.hid (hO4 : OwnHd w' DC (.slice (some ⟨g', 0, none⟩) (k + 1) c') ((List.range k).map b.orderB ++ [-1]))
      have HO5 : Hid (OwnHd w' DC (.slice (some ⟨g', 0, none⟩) (k + 1) c') ((List.range (k + 1)).map b.orderB)) := Lib.hid (by rw [HRQ.out]; exact HO4.out)
      clear hO4 HO4 hgr hO3 hbS XN hd0
      go_wp2
      exact ⟨⟨k + 1, by omega, by go_num, hB2, hD2, X12, X22, _, rfl, HO5⟩, by simp [intOf]; omega⟩
    | true =>
      have hu2 := hu.2 rfl
      obtain ⟨j0, hj0⟩ : ∃ j0 : Nat, b.h k = (j0 : Int) + 1 := ⟨(b.h k - 1).toNat, by omega⟩
      have hjk : j0 < ns := by omega
      obtain ⟨bs, os, rfl, hbs, hc⟩ := hx.out.sent.lk (by rw [hns.out]; omega)
      obtain ⟨bh, oh, rfl, hbh, ch0⟩ := hx.out.heard.2.one (k := k) (by rw [hn.out]; exact hlt)
      replace ch0 : wo.cell? ⟨bh, oh + k, none⟩ = some (.int .i64 (b.h k)) := (hB.cell hbh).trans ch0
      have s1 := (hB.cell hbs).trans (hc j0 (by rw [hns.out]; exact hjk)).2
      have hsz3 := Nat.lt_of_lt_of_le hbs hB.size
      have hsz4 := Nat.lt_of_lt_of_le hbh hB.size
      rw [if_pos rfl, hj0, show (j0 : Int) + 1 - 1 = (j0 : Int) by omega, Bx.at, Int.toNat_natCast] at hob
      rw [← hob] at s1
      rw [hj0] at ch0
      clear hc hob hj0 hu hu2
      have p2 : (j0 : Int) < (ns : Int) := by omega
      have p3 : wrap64 ((j0 : Int) + 1 - 1) = (j0 : Int) := by unfold wrap64; omega
      have p4 : IntKind.i64.wrap ((j0 : Int) + 1 - 1) = (j0 : Int) := by rw [IntKind.wrap_i64]; omega
      have w12 : wo.cell? ⟨w.heap.size, 2, none⟩ = some (.slice (some ⟨bs, os, none⟩) ns cs) := X1.cell 2
      go_upto_region 9 with fail
      have hd := (Below.refl wo.heap.size wo).drew
      have u2 : ∀ z : Later wo, z.w.cell? ⟨w.heap.size, 2, none⟩ = some (.slice (some ⟨bs, os, none⟩) ns cs) := Later.cell w12 z1
      have u3 : ∀ z : Later wo, z.w.cell? ⟨w.heap.size, 3, none⟩ = some (.slice (some ⟨bh, oh, none⟩) nf ch) := Later.cell w13 z1
      have v0 : ∀ z : Later wo, z.w.cell? ⟨bh, oh + k, none⟩ = some (.int .i64 ((j0 : Int) + 1)) := Later.cell ch0 hsz4
      have v1 : ∀ z : Later wo, z.w.cell? ⟨bs, os + j0 * 2 + 1, none⟩ = some (.int .i64 ov) := Later.cell s1 hsz3
      refine wp_region_upto (C := fun w' => ∃ x : Later wo, w' = x.w) 13 [0, 1, 2, 3, 4, 5, 6, 7, 8, 9, 10, 11] (by kernel_rfl) (by kernel_rfl) (Later.mk' hd) (fun _ _ h => h) ?_
      simp only [headOps, List.filterMap_cons, List.filterMap_nil, List.getElem?_toArray, List.getElem?_cons_succ, List.getElem?_cons_zero]
      repeat (first | go_big_quiet_skip | (show wpQuiet _ _ _ _ (_ :: _) _; go_big_quiet_skip) | (show wpQuiet _ _ _ _ (_ :: _) _; go_big_quiet_want; go_big_quiet_op; go_big_quiet_on))
      refine wpQuiet_nil ?_
      clear u2 u3 v0 v1
      have hbS := (Below.refl wo.drew.heap.size wo.drew).alloc (Nat.le_refl _) (.cells #[.int .i64 (ov)] 3)
      have XN := Box.new wo.drew [.int .i64 (ov)] 3
      have hzW := hd.size
      have hzS := hbS.size
      have hO3 := OwnE.later (OwnE.later hO.out hd) hbS
      obtain ⟨g', c', w', hr, hO4, hgr⟩ := run_appE E9 (fun _ => rfl) oOneI (by omega) (ov) 27 hO3 XN (by omega) (by rw [HLQ.out]; omega)
      rw [HLQ.out] at hO4 hr
      have hB2 := OwnE.grown hO3 hgr (by omega) ((hB.trans (hd.mono hB.size)).trans (hbS.mono (by have := hB.size; omega))) (by have := hB.size; omega)
      have X12 := box_grown hO3 hgr ((X1.later hd).later hbS) (by omega)
      have X22 := box_grown hO3 hgr ((X2.later hd).later hbS) (by omega)
      have hD2 : DC ≤ w'.heap.size := by have := hgr.size; omega
      have HO4 := Lib.hid (hO4 : OwnHd w' DC (.slice (some ⟨g', 0, none⟩) (k + 1) c') ((List.range k).map b.orderB ++ [ov]))
      have HO5 : Hid (OwnHd w' DC (.slice (some ⟨g', 0, none⟩) (k + 1) c') ((List.range (k + 1)).map b.orderB)) := Lib.hid (by rw [HRQ.out]; exact HO4.out)
      refine anyG_val (some 38) (n := 2) (i := 12) (v := .slice (some ⟨wo.drew.heap.size, 0, none⟩) 1 1) (w' := wo.drew.alloc (.cells #[.int .i64 ov] 3)) (by kernel_rfl) rfl rfl rfl (fun _ => Later.mk' hd) (by go_simp) ?_
      simp only [Act.put, List.setIfInBounds_toArray, List.set_cons_zero, List.set_cons_succ]
      refine anyG_val (some 39) (n := 1) (i := 13) (v := .slice (some ⟨g', 0, none⟩) (k + 1) c') (w' := w') (by kernel_rfl) rfl rfl rfl (fun _ => Later.mk' (hd.alloc hd.size _)) (run_app_op (x := .tmp 26) (y := .tmp 38) rfl rfl rfl rfl hr) ?_
      simp only [Act.put, List.setIfInBounds_toArray, List.set_cons_zero, List.set_cons_succ]
      refine anyG_val (some 6) (n := 0) (i := 14) (v := .slice (some ⟨g', 0, none⟩) (k + 1) c') (w' := w') (by kernel_rfl) rfl rfl rfl (fun h => by cases h) (by go_simp) ?_
      simp only [Act.put, List.setIfInBounds_toArray, List.set_cons_zero, List.set_cons_succ]
      refine anyG_done (by kernel_rfl) rfl ?_
      clear hO4 HO4 hgr hO3 hbS XN hd hr
      go_wp2
      exact ⟨⟨k + 1, by omega, by go_num, hB2, hD2, X12, X22, _, rfl, HO5⟩, by simp [intOf]; omega⟩
end Go.Proofs.Ytmbifmmkccghfaa
