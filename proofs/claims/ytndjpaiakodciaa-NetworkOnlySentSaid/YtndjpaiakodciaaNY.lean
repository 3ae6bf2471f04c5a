/-
  NetworkLost. (Printed by gen_ny.py.)
-/
import Derived.Test.YtndjpaiakodciaaNX
import Derived.Deep.RegionHeld3
namespace Go.Proofs.Ytndjpaiakodciaa
open Go.RowKit

theorem okB_parts {n : Net} (h : n.okB = true) : n.queue.length ≤ 4096 ∧ n.queue.all Pk.okB = true ∧ apartB n.apart = true := by
  rw [Net.okB_eq, Bool.and_eq_true, Bool.and_eq_true, decide_eq_true_eq] at h
  exact h
theorem okB_mk {q : List Pk} {l : List (Int × Int)} (h1 : q.length ≤ 4096) (h2 : q.all Pk.okB = true) (h3 : apartB l = true) : (Net.mk q l).okB = true := by
  rw [Net.okB_eq, Bool.and_eq_true, Bool.and_eq_true, decide_eq_true_eq]
  exact ⟨h1, h2, h3⟩
theorem okB_check {n : Net} : n.okB = true ↔ n.checkT = 0 := by
  unfold Net.checkT
  constructor
  · intro h; rw [if_pos h]
  · intro h; rcases hq : n.okB with _ | _
    · rw [hq, if_neg (by decide)] at h; cases h
    · rfl
theorem without_ok {n : Net} (h : n.okB = true) (k : Nat) : (n.without k).okB = true := by
  obtain ⟨h1, h2, h3⟩ := okB_parts h
  refine okB_mk ?_ ?_ h3
  · simp only [List.length_append, List.length_take, List.length_drop]; omega
  · rw [List.all_append, Bool.and_eq_true]
    exact ⟨List.all_eq_true.2 fun x hx => List.all_eq_true.1 h2 x (List.mem_of_mem_take hx), List.all_eq_true.2 fun x hx => List.all_eq_true.1 h2 x (List.mem_of_mem_drop hx)⟩
theorem pk_ok {n : Net} (h : n.okB = true) {k : Nat} (hk : k < n.queue.length) : (n.pk k).okB = true := by
  rw [Net.pk_at hk]
  exact List.all_eq_true.1 (okB_parts h).2.1 _ (List.getElem_mem hk)
theorem ask_ok {n : Net} (h : n.okB = true) {k : Nat} (hk : k < n.queue.length) : askT n (k : Int) = 0 := by
  rw [askT, if_pos h, if_pos ⟨by omega, by omega⟩]
theorem send_ok {n : Net} {p : Pk} (h : n.okB = true) (hp : p.okB = true) (hl : n.queue.length < 4096) : sendT n p = (⟨n.queue ++ [p], n.apart⟩, 0) := by
  rw [sendT, if_pos ⟨h, hp⟩, if_neg (by omega)]
theorem sent_ok {n : Net} {p : Pk} (h : n.okB = true) (hp : p.okB = true) (hl : n.queue.length < 4096) : (Net.mk (n.queue ++ [p]) n.apart).okB = true := by
  obtain ⟨h1, h2, h3⟩ := okB_parts h
  refine okB_mk ?_ ?_ h3
  · simp; omega
  · rw [List.all_append, h2]; simp [hp]
theorem without_sent {n : Net} {p : Pk} {k : Nat} (hk : k < n.queue.length) : (Net.mk (n.queue ++ [p]) n.apart).without k = ⟨(n.without k).queue ++ [p], n.apart⟩ := by
  simp only [Net.without]
  rw [List.take_append_of_le_length (by omega), List.drop_append_of_le_length (by omega), List.append_assoc]
theorem without_len {n : Net} {k : Nat} (hk : k < n.queue.length) : (n.without k).queue.length = n.queue.length - 1 := by
  simp only [Net.without, List.length_append, List.length_take, List.length_drop]; omega
theorem lose_at {n : Net} (h : n.okB = true) {k : Nat} (hk : k < n.queue.length) : loseT n (k : Int) = (n.without k, 0) := by
  rw [loseT, if_pos (ask_ok h hk)]; rfl
theorem repeat_at {n : Net} (h : n.okB = true) {k : Nat} (hk : k < n.queue.length) (hl : n.queue.length < 4096) : repeatT n (k : Int) = (⟨n.queue ++ [n.pk k], n.apart⟩, 0) := by
  rw [repeatT, if_pos (ask_ok h hk), send_ok h (pk_ok h hk) hl]
theorem deliver_at {n : Net} (h : n.okB = true) {k : Nat} (hk : k < n.queue.length) : deliverT n (k : Int) = ((if cutB n.apart (n.pk k).src (n.pk k).dst = true then Pk.zero else n.pk k), n.without k, 0) := by
  rw [deliverT, if_pos (ask_ok h hk)]; rfl

set_option maxRecDepth 100000 in
set_option maxHeartbeats 4000000 in
theorem law_Lost_1 (n : Net) (Aq : Option Addr) (nq cq : Nat) (Aa : Option Addr) (na ca : Nat) (at0 : Int) (w : World) (hN : Hid (NetAt w w.heap.size (.slice Aq nq cq) (.slice Aa na ca) n)) (hf : Hid (fewN n = false)) :
    Calls Try.prog 8 #[.agg #[.slice Aq nq cq, .slice Aa na ca], .int .u64 at0] w fun e w' => e = .returned (.bool true) ∧ Below w.heap.size w w' := by
  have hB := Below.refl w.heap.size w
  go_enter Try.func8, Try.ntmps8
  go_wp2_with fail
  have hst := ((Below.refl w.heap.size w).alloc (by simp <;> omega) (.cells #[.slice Aq nq cq, .slice Aa na ca] 25))
  have hN := hid_later hN hst
  have hB := hB.trans (hst.mono hB.size)
  have X0 := (Box.newAt (w := w) (n := w.heap.size) [.slice Aq nq cq, .slice Aa na ca] 25 (by simp))
  clear hst
  generalize (w.alloc (.cells #[.slice Aq nq cq, .slice Aa na ca] 25)) = w1 at hB  X0 hN ⊢
  generalize w.heap.size = X0a at X0 ⊢
  refine (nSane_any _).mono ?_
  rintro e w2 ⟨rfl, hb⟩
  have X0 := X0.later hb
  have hN := hid_later hN hb
  have hB := hB.trans (hb.mono hB.size)
  clear hb
  have X0c0 : w2.cell? ⟨X0a, 0, none⟩ = some (.slice Aq nq cq) := X0.cell 0
  have X0c1 : w2.cell? ⟨X0a, 1, none⟩ = some (.slice Aa na ca) := X0.cell 1
  have X0z : X0a < w2.heap.size := X0.lt
  go_wp2_with fail
  clear X0c0 X0c1 X0z
  refine (nFew_at hf hN.out).mono ?_
  rintro e w3 ⟨rfl, hb⟩
  have X0 := X0.later hb
  have hN := hid_later hN hb
  have hB := hB.trans (hb.mono hB.size)
  clear hb
  go_wp2
  go_ret
  exact ⟨by first | rfl | simp, hB⟩

set_option maxRecDepth 100000 in
set_option maxHeartbeats 4000000 in
theorem law_Lost_2 (n : Net) (Aq : Option Addr) (nq cq : Nat) (Aa : Option Addr) (na ca : Nat) (at0 : Int) (w : World) (hN : Hid (NetAt w w.heap.size (.slice Aq nq cq) (.slice Aa na ca) n)) (hf : Hid (fewN n = true)) (hc : Hid (n.checkT = 60)) :
    Calls Try.prog 8 #[.agg #[.slice Aq nq cq, .slice Aa na ca], .int .u64 at0] w fun e w' => e = .returned (.bool true) ∧ Below w.heap.size w w' := by
  have hB := Below.refl w.heap.size w
  go_enter Try.func8, Try.ntmps8
  go_wp2_with fail
  have hst := ((Below.refl w.heap.size w).alloc (by simp <;> omega) (.cells #[.slice Aq nq cq, .slice Aa na ca] 25))
  have hN := hid_later hN hst
  have hB := hB.trans (hst.mono hB.size)
  have X0 := (Box.newAt (w := w) (n := w.heap.size) [.slice Aq nq cq, .slice Aa na ca] 25 (by simp))
  clear hst
  generalize (w.alloc (.cells #[.slice Aq nq cq, .slice Aa na ca] 25)) = w1 at hB  X0 hN ⊢
  generalize w.heap.size = X0a at X0 ⊢
  refine (nSane_any _).mono ?_
  rintro e w2 ⟨rfl, hb⟩
  have X0 := X0.later hb
  have hN := hid_later hN hb
  have hB := hB.trans (hb.mono hB.size)
  clear hb
  have X0c0 : w2.cell? ⟨X0a, 0, none⟩ = some (.slice Aq nq cq) := X0.cell 0
  have X0c1 : w2.cell? ⟨X0a, 1, none⟩ = some (.slice Aa na ca) := X0.cell 1
  have X0z : X0a < w2.heap.size := X0.lt
  go_wp2_with fail
  clear X0c0 X0c1 X0z
  refine (nFew_at hf hN.out).mono ?_
  rintro e w3 ⟨rfl, hb⟩
  have X0 := X0.later hb
  have hN := hid_later hN hb
  have hB := hB.trans (hb.mono hB.size)
  clear hb
  have X0c0 : w3.cell? ⟨X0a, 0, none⟩ = some (.slice Aq nq cq) := X0.cell 0
  have X0c1 : w3.cell? ⟨X0a, 1, none⟩ = some (.slice Aa na ca) := X0.cell 1
  have X0z : X0a < w3.heap.size := X0.lt
  go_wp2_with fail
  clear X0c0 X0c1 X0z
  refine (nCheck_at hc hN.out).mono ?_
  rintro e w4 ⟨rfl, hb⟩
  have X0 := X0.later hb
  have hN := hid_later hN hb
  have hB := hB.trans (hb.mono hB.size)
  clear hb
  go_wp2
  go_ret
  exact ⟨by first | rfl | simp, hB⟩

set_option maxRecDepth 100000 in
set_option maxHeartbeats 4000000 in
theorem law_Lost_3 (n : Net) (Aq : Option Addr) (nq cq : Nat) (Aa : Option Addr) (na ca : Nat) (at0 : Int) (w : World) (hN : Hid (NetAt w w.heap.size (.slice Aq nq cq) (.slice Aa na ca) n)) (hf : Hid (fewN n = true)) (hc : Hid (n.checkT = 0)) (h0 : nq = 0) :
    Calls Try.prog 8 #[.agg #[.slice Aq nq cq, .slice Aa na ca], .int .u64 at0] w fun e w' => e = .returned (.bool true) ∧ Below w.heap.size w w' := by
  have hB := Below.refl w.heap.size w
  go_enter Try.func8, Try.ntmps8
  subst h0
  go_wp2_with fail
  have hst := ((Below.refl w.heap.size w).alloc (by simp <;> omega) (.cells #[.slice Aq 0 cq, .slice Aa na ca] 25))
  have hN := hid_later hN hst
  have hB := hB.trans (hst.mono hB.size)
  have X0 := (Box.newAt (w := w) (n := w.heap.size) [.slice Aq 0 cq, .slice Aa na ca] 25 (by simp))
  clear hst
  generalize (w.alloc (.cells #[.slice Aq 0 cq, .slice Aa na ca] 25)) = w1 at hB  X0 hN ⊢
  generalize w.heap.size = X0a at X0 ⊢
  refine (nSane_any _).mono ?_
  rintro e w2 ⟨rfl, hb⟩
  have X0 := X0.later hb
  have hN := hid_later hN hb
  have hB := hB.trans (hb.mono hB.size)
  clear hb
  have X0c0 : w2.cell? ⟨X0a, 0, none⟩ = some (.slice Aq 0 cq) := X0.cell 0
  have X0c1 : w2.cell? ⟨X0a, 1, none⟩ = some (.slice Aa na ca) := X0.cell 1
  have X0z : X0a < w2.heap.size := X0.lt
  go_wp2_with fail
  clear X0c0 X0c1 X0z
  refine (nFew_at hf hN.out).mono ?_
  rintro e w3 ⟨rfl, hb⟩
  have X0 := X0.later hb
  have hN := hid_later hN hb
  have hB := hB.trans (hb.mono hB.size)
  clear hb
  have X0c0 : w3.cell? ⟨X0a, 0, none⟩ = some (.slice Aq 0 cq) := X0.cell 0
  have X0c1 : w3.cell? ⟨X0a, 1, none⟩ = some (.slice Aa na ca) := X0.cell 1
  have X0z : X0a < w3.heap.size := X0.lt
  go_wp2_with fail
  clear X0c0 X0c1 X0z
  refine (nCheck_at hc hN.out).mono ?_
  rintro e w4 ⟨rfl, hb⟩
  have X0 := X0.later hb
  have hN := hid_later hN hb
  have hB := hB.trans (hb.mono hB.size)
  clear hb
  have X0c0 : w4.cell? ⟨X0a, 0, none⟩ = some (.slice Aq 0 cq) := X0.cell 0
  have X0c1 : w4.cell? ⟨X0a, 1, none⟩ = some (.slice Aa na ca) := X0.cell 1
  have X0z : X0a < w4.heap.size := X0.lt
  go_wp2
  go_ret
  exact ⟨by first | rfl | simp, hB⟩

set_option maxRecDepth 100000 in
set_option maxHeartbeats 4000000 in
theorem law_Lost_4 (n : Net) (Aq : Option Addr) (nq cq : Nat) (Aa : Option Addr) (na ca : Nat) (at0 : Int) (w : World) (hN : Hid (NetAt w w.heap.size (.slice Aq nq cq) (.slice Aa na ca) n)) (hnq : Hid (n.queue.length = nq)) (hna : Hid (n.apart.length = na)) (hf : Hid (fewN n = true)) (hc : Hid (n.checkT = 0)) (hat : 0 ≤ at0) (h0 : 0 < nq) (h40 : nq ≤ 40) :
    Calls Try.prog 8 #[.agg #[.slice Aq nq cq, .slice Aa na ca], .int .u64 at0] w fun e w' => e = .returned (.bool true) ∧ Below w.heap.size w w' := by
  have hB := Below.refl w.heap.size w
  go_enter Try.func8, Try.ntmps8
  have hok := okB_check.2 hc.out
  obtain ⟨k, hk⟩ : ∃ k : Nat, at0 % (nq : Int) = (k : Int) := ⟨(at0 % (nq : Int)).toNat, by have := Int.emod_nonneg at0 (show (nq : Int) ≠ 0 by omega); omega⟩
  have hkl : k < nq := by have := Int.emod_lt_of_pos at0 (show (0 : Int) < nq by omega); omega
  have hkn : k < n.queue.length := by rw [hnq.out]; exact hkl
  have hl4 : n.queue.length < 4096 := by rw [hnq.out]; omega
  have hd := deliver_at hok hkn
  have hl := lose_at hok hkn
  have hr := repeat_at hok hkn hl4
  have hs2 := sent_ok hok (pk_ok hok hkn) hl4
  have hl2 := lose_at hs2 (show k < (Net.mk (n.queue ++ [n.pk k]) n.apart).queue.length by simp; omega)
  rw [without_sent hkn] at hl2
  have hx := send_ok (without_ok hok k) (pk_ok hok hkn) (show (n.without k).queue.length < 4096 by rw [without_len hkn]; omega)
  have hmy : Hid ((n.without k).queue.length = nq - 1) := by rw [Hid, without_len hkn, hnq.out]
  have hmc : Hid ((Net.mk (n.queue ++ [n.pk k]) n.apart).queue.length = nq + 1) := by rw [Hid, List.length_append, hnq.out]; rfl
  have hmx : Hid ((Net.mk ((n.without k).queue ++ [n.pk k]) n.apart).queue.length = nq) := by rw [Hid, List.length_append, without_len hkn, hnq.out]; simp; omega
  have hpk : Hid (n.pk k = n.queue[k]) := Net.pk_at hkn
  obtain ⟨b, off, V, rfl, hbw, q0, q1, q2, hV⟩ := hN.out.queue.pk hkn
  rw [← Net.pk_at hkn] at q0 q1 hV
  obtain ⟨Ad, cd, rfl, _⟩ := hV.form
  obtain ⟨dl, hdl⟩ : ∃ dl, (n.pk k).data.length = dl := ⟨_, rfl⟩
  rw [hdl] at q2 hV
  obtain ⟨y, hy⟩ : ∃ y, n.pk k = y := ⟨_, rfl⟩
  rw [hy] at q0 q1 hV hd hr hx hl2 hmc hmx
  have HVD := Lib.hid hV
  have Q0 := Lib.hid q0
  have Q1 := Lib.hid q1
  have Q2 := Lib.hid q2
  obtain ⟨p, hp⟩ : ∃ p, (if cutB n.apart y.src y.dst = true then Pk.zero else y) = p := ⟨_, rfl⟩
  rw [hp] at hd
  obtain ⟨pl, hpl⟩ : ∃ pl, p.data.length = pl := ⟨_, rfl⟩
  replace hpl := Lib.hid hpl
  replace hd := Lib.hid hd
  replace hl := Lib.hid hl
  replace hr := Lib.hid hr
  replace hl2 := Lib.hid hl2
  replace hx := Lib.hid hx
  have HK := Lib.hid hk
  have HOK := Lib.hid hok
  have HY := Lib.hid hy
  have hat3 : Hid ((Net.mk (n.queue ++ [y]) n.apart).apart.length = na) := hna
  have hat4 : Hid ((Net.mk ((n.without k).queue ++ [y]) n.apart).apart.length = na) := hna
  have hat5 : Hid ((n.without k).apart.length = na) := hna
  clear hk hok hy hp hdl hV q0 q1 q2 hs2 hl4
  go_wp2_with fail
  have hst := ((Below.refl w.heap.size w).alloc (by simp <;> omega) (.cells #[.slice (some ⟨b, off, none⟩) nq cq, .slice Aa na ca] 25))
  have hN := hid_later hN hst
  have hB := hB.trans (hst.mono hB.size)
  have X0 := (Box.newAt (w := w) (n := w.heap.size) [.slice (some ⟨b, off, none⟩) nq cq, .slice Aa na ca] 25 (by simp))
  clear hst
  generalize (w.alloc (.cells #[.slice (some ⟨b, off, none⟩) nq cq, .slice Aa na ca] 25)) = w1 at hB  X0 hN ⊢
  generalize w.heap.size = X0a at X0 ⊢
  refine (nSane_any _).mono ?_
  rintro e w2 ⟨rfl, hb⟩
  have X0 := X0.later hb
  have hN := hid_later hN hb
  have hB := hB.trans (hb.mono hB.size)
  clear hb
  have X0c0 : w2.cell? ⟨X0a, 0, none⟩ = some (.slice (some ⟨b, off, none⟩) nq cq) := X0.cell 0
  have X0c1 : w2.cell? ⟨X0a, 1, none⟩ = some (.slice Aa na ca) := X0.cell 1
  have X0z : X0a < w2.heap.size := X0.lt
  go_wp2_with fail
  clear X0c0 X0c1 X0z
  refine (nFew_at hf hN.out).mono ?_
  rintro e w3 ⟨rfl, hb⟩
  have X0 := X0.later hb
  have hN := hid_later hN hb
  have hB := hB.trans (hb.mono hB.size)
  clear hb
  have X0c0 : w3.cell? ⟨X0a, 0, none⟩ = some (.slice (some ⟨b, off, none⟩) nq cq) := X0.cell 0
  have X0c1 : w3.cell? ⟨X0a, 1, none⟩ = some (.slice Aa na ca) := X0.cell 1
  have X0z : X0a < w3.heap.size := X0.lt
  go_wp2_with fail
  clear X0c0 X0c1 X0z
  refine (nCheck_at hc hN.out).mono ?_
  rintro e w4 ⟨rfl, hb⟩
  have X0 := X0.later hb
  have hN := hid_later hN hb
  have hB := hB.trans (hb.mono hB.size)
  clear hb
  have hk := HK.out
  have i1 : (0 : Int) < (nq : Int) := by omega
  have i2 : (nq : Int) ≤ 40 := by omega
  have X0c0 : w4.cell? ⟨X0a, 0, none⟩ = some (.slice (some ⟨b, off, none⟩) nq cq) := X0.cell 0
  have X0c1 : w4.cell? ⟨X0a, 1, none⟩ = some (.slice Aa na ca) := X0.cell 1
  have X0z : X0a < w4.heap.size := X0.lt
  go_wp2_with fail
  clear X0c0 X0c1 X0z
  refine (nDeliver_is n k hN).mono ?_
  rintro e w5 hh
  clear hk i1 i2
  obtain ⟨Ad2, cd2, Aq2, cq2, Aa2, ca2, rfl, hV2, hN2, hb⟩ := RetDel.is hh hd hmy hat5 hpl
  have X0 := X0.later hb
  have hN := hid_later hN hb
  have hB := hB.trans (hb.mono hB.size)
  clear hb
  have X0c0 : w5.cell? ⟨X0a, 0, none⟩ = some (.slice (some ⟨b, off, none⟩) nq cq) := X0.cell 0
  have X0c1 : w5.cell? ⟨X0a, 1, none⟩ = some (.slice Aa na ca) := X0.cell 1
  have X0z : X0a < w5.heap.size := X0.lt
  have X0z1 : X0a < w5.heap.size + 1 := by omega
  go_wp2_with fail
  clear X0c0 X0c1 X0z X0z1
  have hst := (((Below.refl w5.heap.size w5).alloc (by simp <;> omega) (.cells #[.int .i64 p.src, .int .i64 p.dst, .slice Ad2 pl cd2] 28)).alloc (by simp <;> omega) (.cells #[.slice Aq2 (nq - 1) cq2, .slice Aa2 na ca2] 25))
  have X0 := X0.later hst
  have hN := hid_later hN hst
  have hN2 := hid_later hN2 hst
  have hB := hB.trans (hst.mono hB.size)
  have P2 := ((Box.newAt (w := w5) (n := w5.heap.size) [.int .i64 p.src, .int .i64 p.dst, .slice Ad2 pl cd2] 28 (by simp)).alloc (.cells #[.slice Aq2 (nq - 1) cq2, .slice Aa2 na ca2] 25))
  have X2 := (Box.newAt (w := (w5.alloc (.cells #[.int .i64 p.src, .int .i64 p.dst, .slice Ad2 pl cd2] 28))) (n := w5.heap.size + 1) [.slice Aq2 (nq - 1) cq2, .slice Aa2 na ca2] 25 (by simp))
  clear hst
  generalize ((w5.alloc (.cells #[.int .i64 p.src, .int .i64 p.dst, .slice Ad2 pl cd2] 28)).alloc (.cells #[.slice Aq2 (nq - 1) cq2, .slice Aa2 na ca2] 25)) = w6 at hB X0 P2 X2 hN hN2 ⊢
  generalize w5.heap.size + 1 = X2a at P2 X2 ⊢
  generalize w5.heap.size = P2a at P2 X2 ⊢
  refine (nLose_is n k hN).mono ?_
  rintro e w7 hh
  obtain ⟨Aq3, cq3, Aa3, ca3, rfl, hN3, hb⟩ := RetNet.is hh hl hmy hat5
  have X0 := X0.later hb
  have P2 := P2.later hb
  have X2 := X2.later hb
  have hN := hid_later hN hb
  have hN2 := hid_later hN2 hb
  have hB := hB.trans (hb.mono hB.size)
  clear hb
  have X0c0 : w7.cell? ⟨X0a, 0, none⟩ = some (.slice (some ⟨b, off, none⟩) nq cq) := X0.cell 0
  have X0c1 : w7.cell? ⟨X0a, 1, none⟩ = some (.slice Aa na ca) := X0.cell 1
  have X0z : X0a < w7.heap.size := X0.lt
  go_wp2_with fail
  clear X0c0 X0c1 X0z
  have hst := ((Below.refl w7.heap.size w7).alloc (by simp <;> omega) (.cells #[.slice Aq3 (nq - 1) cq3, .slice Aa3 na ca3] 25))
  have X0 := X0.later hst
  have P2 := P2.later hst
  have X2 := X2.later hst
  have hN := hid_later hN hst
  have hN2 := hid_later hN2 hst
  have hN3 := hid_later hN3 hst
  have hB := hB.trans (hst.mono hB.size)
  have X3 := (Box.newAt (w := w7) (n := w7.heap.size) [.slice Aq3 (nq - 1) cq3, .slice Aa3 na ca3] 25 (by simp))
  clear hst
  generalize (w7.alloc (.cells #[.slice Aq3 (nq - 1) cq3, .slice Aa3 na ca3] 25)) = w8 at hB X0 P2 X2 X3 hN hN2 hN3 ⊢
  generalize w7.heap.size = X3a at X3 ⊢
  refine (nRepeat_is n k hN).mono ?_
  rintro e w9 hh
  obtain ⟨Aq4, cq4, Aa4, ca4, rfl, hN4, hb⟩ := RetNet.is hh hr hmc hat3
  have X0 := X0.later hb
  have P2 := P2.later hb
  have X2 := X2.later hb
  have X3 := X3.later hb
  have hN := hid_later hN hb
  have hN2 := hid_later hN2 hb
  have hN3 := hid_later hN3 hb
  have hB := hB.trans (hb.mono hB.size)
  clear hb
  go_wp2_with fail
  have hst := ((Below.refl w9.heap.size w9).alloc (by simp <;> omega) (.cells #[.slice Aq4 (nq + 1) cq4, .slice Aa4 na ca4] 25))
  have X0 := X0.later hst
  have P2 := P2.later hst
  have X2 := X2.later hst
  have X3 := X3.later hst
  have hN := hid_later hN hst
  have hN2 := hid_later hN2 hst
  have hN3 := hid_later hN3 hst
  have hN4 := hid_later hN4 hst
  have hB := hB.trans (hst.mono hB.size)
  have X4 := (Box.newAt (w := w9) (n := w9.heap.size) [.slice Aq4 (nq + 1) cq4, .slice Aa4 na ca4] 25 (by simp))
  clear hst
  generalize (w9.alloc (.cells #[.slice Aq4 (nq + 1) cq4, .slice Aa4 na ca4] 25)) = w10 at hB X0 P2 X2 X3 X4 hN hN2 hN3 hN4 ⊢
  generalize w9.heap.size = X4a at X4 ⊢
  refine (nLose_is _ k hN4).mono ?_
  rintro e w11 hh
  obtain ⟨Aq5, cq5, Aa5, ca5, rfl, hN5, hb⟩ := RetNet.is hh hl2 hmx hat4
  have X0 := X0.later hb
  have P2 := P2.later hb
  have X2 := X2.later hb
  have X3 := X3.later hb
  have X4 := X4.later hb
  have hN := hid_later hN hb
  have hN2 := hid_later hN2 hb
  have hN3 := hid_later hN3 hb
  have hN4 := hid_later hN4 hb
  have hB := hB.trans (hb.mono hB.size)
  clear hb
  go_wp2_with fail
  have hst := ((Below.refl w11.heap.size w11).alloc (by simp <;> omega) (.cells #[.slice Aq5 nq cq5, .slice Aa5 na ca5] 25))
  have X0 := X0.later hst
  have P2 := P2.later hst
  have X2 := X2.later hst
  have X3 := X3.later hst
  have X4 := X4.later hst
  have hN := hid_later hN hst
  have hN2 := hid_later hN2 hst
  have hN3 := hid_later hN3 hst
  have hN4 := hid_later hN4 hst
  have hN5 := hid_later hN5 hst
  have hB := hB.trans (hst.mono hB.size)
  have X5 := (Box.newAt (w := w11) (n := w11.heap.size) [.slice Aq5 nq cq5, .slice Aa5 na ca5] 25 (by simp))
  clear hst
  generalize (w11.alloc (.cells #[.slice Aq5 nq cq5, .slice Aa5 na ca5] 25)) = w12 at hB X0 P2 X2 X3 X4 X5 hN hN2 hN3 hN4 hN5 ⊢
  generalize w11.heap.size = X5a at X5 ⊢
  have hVy := Lib.hid (HVD.out.below hB)
  have q0 := (hB.cell hbw).trans Q0.out
  have q1 := (hB.cell hbw).trans Q1.out
  have q2 := (hB.cell hbw).trans Q2.out
  have hbz := Nat.lt_of_lt_of_le hbw hB.size
  have hLe : Hid (∀ E, Below w12.heap.size w12 E → Calls Try.prog 11 #[.agg #[.slice Aq3 (nq - 1) cq3, .slice Aa3 na ca3], .agg #[.int .i64 y.src, .int .i64 y.dst, .slice Ad dl cd]] E (RetNet (sendT (n.without k) y) w12.heap.size E)) := fun E h => nSend_any (n.without k) _ _ y _ E w12.heap.size h.size (hN3.out.below h) (hVy.out.below (h.mono hB.size) |>.more hB.size)
  have hE1 : Below w12.heap.size w12 w12.drew := (Below.refl _ _).drew
  have hE2 : Below w12.heap.size w12 (w12.alloc (.cells #[.slice none 0 0, .slice none 0 0] 25)).drew := ((Below.refl _ _).alloc (Nat.le_refl _) _).drew
  have hEx : Box (w12.alloc (.cells #[.slice none 0 0, .slice none 0 0] 25)).drew w12.heap.size [.slice none 0 0, .slice none 0 0] := (Box.new w12 [.slice none 0 0, .slice none 0 0] 25).drew
  have j1 : (0 : Int) ≤ (k : Int) := by omega
  have j2 : (k : Int) < (nq : Int) := by omega
  have X0c0 : w12.cell? ⟨X0a, 0, none⟩ = some (.slice (some ⟨b, off, none⟩) nq cq) := X0.cell 0
  have X0c1 : w12.cell? ⟨X0a, 1, none⟩ = some (.slice Aa na ca) := X0.cell 1
  have X0z : X0a < w12.heap.size := X0.lt
  have X3c0 : w12.cell? ⟨X3a, 0, none⟩ = some (.slice Aq3 (nq - 1) cq3) := X3.cell 0
  have X3c1 : w12.cell? ⟨X3a, 1, none⟩ = some (.slice Aa3 na ca3) := X3.cell 1
  have X3z : X3a < w12.heap.size := X3.lt
  go_region_with (go_at_call 11; refine Calls.mono (hLe.out _ (by first | exact hE1 | exact hE2)) ?_; rintro e w13 hh; obtain ⟨Aq6, cq6, Aa6, ca6, rfl, hN6, hb⟩ := RetNet.is2 (by first | exact hE1.size | exact hE2.size) hh hx hmx hat4; first | (have hBx := hEx.later hb; have c0 : w13.cell? ⟨w12.heap.size, 0, none⟩ = some (.slice none 0 0) := hBx.cell 0; have c1 : w13.cell? ⟨w12.heap.size, 1, none⟩ = some (.slice none 0 0) := hBx.cell 1; have f0 := hBx.free 0; have f1 := hBx.free 1; have z0 := hBx.lt) | skip)
  all_goals (
    have hB13 : Below w12.heap.size w12 w13 := by first | exact hE1.trans (hb.mono hE1.size) | exact hE2.trans (hb.mono hE2.size)
    first
      | (have hst := (hB13.setCell (p := ⟨w12.heap.size, 0, none⟩) (by simp) (.slice Aq6 nq cq6)).setCell (p := ⟨w12.heap.size, 1, none⟩) (by simp) (.slice Aa6 na ca6)
         have X6 := (hBx.set 0 (.slice Aq6 nq cq6)).set 1 (.slice Aa6 na ca6)
         have hN6' := ((hN6.out.set (a := ⟨w12.heap.size, 0, none⟩) (by simp) (by simp) (.slice Aq6 nq cq6)).set (a := ⟨w12.heap.size, 1, none⟩) (by simp) (by simp) (.slice Aa6 na ca6)).at (by have := hB13.size; simpa using this)
         generalize (w13.setCell ⟨w12.heap.size, 0, none⟩ (.slice Aq6 nq cq6)).setCell ⟨w12.heap.size, 1, none⟩ (.slice Aa6 na ca6) = W2 at hst X6 hN6' ⊢
         generalize w12.heap.size = X6a at X6 ⊢)
      | (have hst := hB13.alloc hB13.size (.cells #[.slice Aq6 nq cq6, .slice Aa6 na ca6] 25)
         have X6 := Box.new w13 [.slice Aq6 nq cq6, .slice Aa6 na ca6] 25
         have hN6' := (hN6.out.at hB13.size).later ((Below.refl _ _).alloc (Nat.le_refl _) (.cells #[.slice Aq6 nq cq6, .slice Aa6 na ca6] 25))
         generalize w13.alloc (.cells #[.slice Aq6 nq cq6, .slice Aa6 na ca6] 25) = W2 at hst X6 hN6' ⊢
         generalize w13.heap.size = X6a at X6 ⊢)
    clear q0 q1 q2 X0c0 X0c1 X0z X3c0 X3c1 X3z
    have X2 := X2.later hst
    have X3 := X3.later hst
    have X4 := X4.later hst
    have X5 := X5.later hst
    have X0 := X0.later hst
    have hN2 := hid_later hN2 hst
    have hN3 := hid_later hN3 hst
    have hN5 := hid_later hN5 hst
    have hN6 := Lib.hid hN6'
    have hB := hB.trans (hst.mono hB.size)
    clear hN4 hN hN6'
    have X2c0 : W2.cell? ⟨X2a, 0, none⟩ = some (.slice Aq2 (nq - 1) cq2) := X2.cell 0
    have X2c1 : W2.cell? ⟨X2a, 1, none⟩ = some (.slice Aa2 na ca2) := X2.cell 1
    have X2z : X2a < W2.heap.size := X2.lt
    have X3c0 : W2.cell? ⟨X3a, 0, none⟩ = some (.slice Aq3 (nq - 1) cq3) := X3.cell 0
    have X3c1 : W2.cell? ⟨X3a, 1, none⟩ = some (.slice Aa3 na ca3) := X3.cell 1
    have X3z : X3a < W2.heap.size := X3.lt
    go_wp2_with fail
    clear X2c0 X2c1 X2z X3c0 X3c1 X3z
    refine (nSame_at (same_refl_hid (n.without k)) hN2.out hN3.out).mono ?_
    rintro e w13 ⟨rfl, hb⟩
    have X0 := X0.later hb
    have X2 := X2.later hb
    have X3 := X3.later hb
    have X4 := X4.later hb
    have X5 := X5.later hb
    have X6 := X6.later hb
    have hN2 := hid_later hN2 hb
    have hN3 := hid_later hN3 hb
    have hN5 := hid_later hN5 hb
    have hN6 := hid_later hN6 hb
    have hB := hB.trans (hb.mono hB.size)
    clear hb
    have X5c0 : w13.cell? ⟨X5a, 0, none⟩ = some (.slice Aq5 nq cq5) := X5.cell 0
    have X5c1 : w13.cell? ⟨X5a, 1, none⟩ = some (.slice Aa5 na ca5) := X5.cell 1
    have X5z : X5a < w13.heap.size := X5.lt
    have X6c0 : w13.cell? ⟨X6a, 0, none⟩ = some (.slice Aq6 nq cq6) := X6.cell 0
    have X6c1 : w13.cell? ⟨X6a, 1, none⟩ = some (.slice Aa6 na ca6) := X6.cell 1
    have X6z : X6a < w13.heap.size := X6.lt
    go_wp2_with fail
    clear X5c0 X5c1 X5z X6c0 X6c1 X6z
    refine (nSame_at (same_refl_hid _) hN5.out hN6.out).mono ?_
    rintro e w14 ⟨rfl, hb⟩
    have X0 := X0.later hb
    have X2 := X2.later hb
    have X3 := X3.later hb
    have X4 := X4.later hb
    have X5 := X5.later hb
    have X6 := X6.later hb
    have hN2 := hid_later hN2 hb
    have hN3 := hid_later hN3 hb
    have hN5 := hid_later hN5 hb
    have hN6 := hid_later hN6 hb
    have hB := hB.trans (hb.mono hB.size)
    clear hb
    have X0c0 : w14.cell? ⟨X0a, 0, none⟩ = some (.slice (some ⟨b, off, none⟩) nq cq) := X0.cell 0
    have X0c1 : w14.cell? ⟨X0a, 1, none⟩ = some (.slice Aa na ca) := X0.cell 1
    have X0z : X0a < w14.heap.size := X0.lt
    have X4c0 : w14.cell? ⟨X4a, 0, none⟩ = some (.slice Aq4 (nq + 1) cq4) := X4.cell 0
    have X4c1 : w14.cell? ⟨X4a, 1, none⟩ = some (.slice Aa4 na ca4) := X4.cell 1
    have X4z : X4a < w14.heap.size := X4.lt
    go_wp2
    go_ret
    exact ⟨by first | rfl | simp, hB⟩)

theorem few_len {n : Net} (h : fewN n = true) : n.queue.length ≤ 40 ∧ n.apart.length ≤ 40 := by
  rw [fewN, Bool.and_eq_true, decide_eq_true_eq, decide_eq_true_eq] at h
  exact h
theorem check_cases (n : Net) : n.checkT = 0 ∨ n.checkT = 60 := by
  unfold Net.checkT
  split
  · exact .inl rfl
  · exact .inr rfl
theorem law_NetworkLost (n : Net) (Vq Va : Value) (at0 : Int) (w : World) (hN : NetAt w w.heap.size Vq Va n) (hat : 0 ≤ at0 ∧ at0 ≤ 18446744073709551615) :
    Calls Try.prog 8 #[.agg #[Vq, Va], .int .u64 at0] w fun e w' => e = .returned (.bool true) ∧ Below w.heap.size w w' := by
  obtain ⟨Aq, cq, rfl, _⟩ := hN.queue.form
  obtain ⟨Aa, ca, rfl, _⟩ := hN.apart.form
  rcases h : fewN n with _ | _
  · exact law_Lost_1 n Aq _ cq Aa _ ca at0 w hN h
  · rcases check_cases n with hc | hc
    · rcases Nat.eq_zero_or_pos n.queue.length with h0 | h0
      · exact law_Lost_3 n Aq _ cq Aa _ ca at0 w hN h hc h0
      · exact law_Lost_4 n Aq _ cq Aa _ ca at0 w hN rfl rfl h hc hat.1 h0 (few_len h).1
    · exact law_Lost_2 n Aq _ cq Aa _ ca at0 w hN h hc

end Go.Proofs.Ytndjpaiakodciaa
