/- Contract of Check of the reference. (Printed by pp.py.) No condition. -/
import Derived.Test.YtmbifmmkccghfaaQGP
import Derived.Test.YtmbifmmkccghfaaQKG
import Derived.Laws.MakeOwn
import Derived.Test.YtmbifmmkccghfaaQNS
set_option linter.unusedVariables false
set_option linter.unusedSimpArgs false
namespace Go.Proofs.Ytmbifmmkccghfaa
open Go.RowKit

set_option maxRecDepth 100000 in
set_option maxHeartbeats 4000000 in
theorem oRGate_is (b : Bx) (Vq Va : Value) (As Ah Af : Option Addr) (ns cs n ch nf cf g : Nat) (w : World) {T : Bool} (hT : Hid (b.gateB g = T)) (hx : Hid (BxAt w w.heap.size Vq Va (.slice As ns cs) (.slice Ah n ch) (.slice Af nf cf) b)) (hns : Hid (b.sent.length = ns)) (hn : Hid (b.heard.length = n)) (hnf : Hid (b.fresh.length = nf)) (hg : g < n) (hgf : g < nf) (hcs : ns ≤ 4096) :
    Calls Try.prog 41 #[.agg #[Vq, Va, .slice As ns cs, .slice Ah n ch, .slice Af nf cf], .int .i64 (g : Int)] w fun e w' => e = .returned (.bool T) ∧ Below w.heap.size w w' := by
  have hB := (Below.refl w.heap.size w).alloc (Nat.le_refl _) (.cells #[Vq, Va, .slice As ns cs, .slice Ah n ch, .slice Af nf cf] 30)
  have X1 := Box.new w [Vq, Va, .slice As ns cs, .slice Ah n ch, .slice Af nf cf] 30
  obtain ⟨bh, oh, rfl, hbh, ch0⟩ := hx.out.heard.2.one (k := g) (by rw [hn.out]; exact hg)
  obtain ⟨bf, off, rfl, hbf, cf0⟩ := hx.out.fresh.2.one (k := g) (by rw [hnf.out]; exact hgf)
  replace ch0 : w.cell? ⟨bh, oh + g, none⟩ = some (.int .i64 (b.h g)) := ch0
  replace cf0 : w.cell? ⟨bf, off + g, none⟩ = some (.bool (b.f g)) := cf0
  go_enter Try.func41, Try.ntmps41
  go_upto_region 1 with fail
  generalize w.alloc (.cells #[Vq, Va, .slice As ns cs, .slice (some ⟨bh, oh, none⟩) n ch, .slice (some ⟨bf, off, none⟩) nf cf] 30) = w1 at hB X1 ⊢
  have z1 := X1.lt
  have X1c0 : w1.cell? ⟨w.heap.size, 0, none⟩ = some (Vq) := X1.cell 0
  have X1c1 : w1.cell? ⟨w.heap.size, 1, none⟩ = some (Va) := X1.cell 1
  have X1c2 : w1.cell? ⟨w.heap.size, 2, none⟩ = some (.slice As ns cs) := X1.cell 2
  have X1c3 : w1.cell? ⟨w.heap.size, 3, none⟩ = some (.slice (some ⟨bh, oh, none⟩) n ch) := X1.cell 3
  have X1c4 : w1.cell? ⟨w.heap.size, 4, none⟩ = some (.slice (some ⟨bf, off, none⟩) nf cf) := X1.cell 4
  replace ch0 := (hB.cell hbh).trans ch0
  replace cf0 := (hB.cell hbf).trans cf0
  have hz1 := Nat.lt_of_lt_of_le hbh hB.size
  have hz2 := Nat.lt_of_lt_of_le hbf hB.size
  have g1 : (g : Int) < (n : Int) := by omega
  have g2 : (g : Int) < (nf : Int) := by omega
  by_cases h0 : b.h g = 0
  · have hTT : T = !b.f g := by rw [← hT.out, gate_zero h0]
    rw [h0] at ch0
    clear hT
    generalize b.f g = f at cf0 hTT
    have HTT := Lib.hid hTT
    clear hTT
    go_wp2
    go_ret
    obtain rfl := HTT.out
    exact ⟨rfl, hB⟩
  have e0 : (b.h g == 0) = false := by simp [h0]
  by_cases hr : 0 ≤ b.h g ∧ b.h g ≤ (ns : Int)
  rotate_left
  · obtain rfl : T = false := by rw [← hT.out, gate_out (by rw [hns.out]; exact hr)]
    clear hT h0
    generalize b.h g = u at ch0 e0 hr
    by_cases h1 : u < 0
    · have e1 : decide (u < 0) = true := decide_eq_true h1
      go_wp2
      go_ret
      exact ⟨rfl, hB⟩
    · have e1 : decide (u < 0) = false := decide_eq_false h1
      have e2 : decide ((ns : Int) < u) = true := decide_eq_true (by omega)
      go_wp2
      go_ret
      exact ⟨rfl, hB⟩
  obtain ⟨j, hj⟩ : ∃ j : Nat, b.h g = (j : Int) + 1 := ⟨(b.h g - 1).toNat, by omega⟩
  have hjn : j < ns := by omega
  have hgp := gate_pos hj (by rw [hns.out]; exact hjn)
  rw [hT.out] at hgp
  have HGP := Lib.hid hgp
  rw [hj] at ch0 e0
  clear hgp hj h0 hr hT
  obtain ⟨bs, os, rfl, hbs, hc⟩ := hx.out.sent.lk (by rw [hns.out]; omega)
  have c0 := (hB.cell hbs).trans (hc j (by rw [hns.out]; exact hjn)).1
  have hz3 := Nat.lt_of_lt_of_le hbs hB.size
  clear hc
  generalize (b.sent.getD j (0, 0)).1 = m at c0 HGP
  have e1 : decide ((j : Int) + 1 < 0) = false := decide_eq_false (by omega)
  have e2 : decide ((ns : Int) < (j : Int) + 1) = false := decide_eq_false (by omega)
  have hw1 : IntKind.i64.wrap ((j : Int) + 1 - 1) = (j : Int) := by rw [wrapO (by omega) (by omega)]; omega
  have hw2 : wrap64 ((j : Int) + 1 - 1) = (j : Int) := by unfold wrap64; omega
  have hw3 : (j : Int) + 1 - 1 = (j : Int) := by omega
  have j1 : (j : Int) < (ns : Int) := by omega
  have j2 : (0 : Int) ≤ (j : Int) := by omega
  have e4 : (m == (g : Int)) = T := by rw [HGP.out]; by_cases h : m = (g : Int) <;> simp [h]
  go_wp2
  go_ret
  exact ⟨rfl, hB⟩
set_option maxRecDepth 100000 in
set_option maxHeartbeats 4000000 in
theorem oRPacket_is (b : Bx) (Vq Va Vh Vf : Value) (As Ad : Option Addr) (ns cs dl cd : Nat) (p : Pk) (w : World) {T : Bool} (hT : Hid (b.pkB p = T)) (hS : Hid (LksAt w w.heap.size (.slice As ns cs) b.sent)) (hd : Hid (BytesAt w w.heap.size (.slice Ad dl cd) p.data)) (hdl : Hid (p.data.length = dl)) (hlen : dl ≤ 1048576) (hns : Hid (b.sent.length = ns)) (hsb : Hid (b.sentB = true)) (hn8 : b.heard.length ≤ 8) (hcs : ns ≤ 4096) :
    Calls Try.prog 42 #[.agg #[Vq, Va, .slice As ns cs, Vh, Vf], .agg #[.int .i64 p.src, .int .i64 p.dst, .slice Ad dl cd]] w fun e w' => e = .returned (.bool T) ∧ Below w.heap.size w w' := by
  obtain ⟨src, dst, data⟩ := p
  dsimp only at hd hdl ⊢
  obtain ⟨o, ho⟩ : ∃ o, Hid (readT data = o) := ⟨_, Lib.hid rfl⟩
  have hT := hT.out
  rw [Bx.pkB] at hT
  dsimp only at hT
  rw [ho.out] at hT
  have HT := Lib.hid hT
  clear hT
  have hB := ((Below.refl w.heap.size w).alloc (Nat.le_refl _) (.cells #[Vq, Va, .slice As ns cs, Vh, Vf] 30)).alloc (by simp) (.cells #[.int .i64 src, .int .i64 dst, .slice Ad dl cd] 51)
  have X2 := (Box.new w [Vq, Va, .slice As ns cs, Vh, Vf] 30).alloc (.cells #[.int .i64 src, .int .i64 dst, .slice Ad dl cd] 51)
  have X3 := Box.newAt (w := w.alloc (.cells #[Vq, Va, .slice As ns cs, Vh, Vf] 30)) (n := w.heap.size + 1) [.int .i64 src, .int .i64 dst, .slice Ad dl cd] 51 (by simp)
  go_enter Try.func42, Try.ntmps42
  go_upto_region 1 with fail
  generalize (w.alloc (.cells #[Vq, Va, .slice As ns cs, Vh, Vf] 30)).alloc (.cells #[.int .i64 src, .int .i64 dst, .slice Ad dl cd] 51) = w1 at hB X2 X3 ⊢
  have z2 := X2.lt
  have z3 := X3.lt
  have X3c0 : w1.cell? ⟨w.heap.size + 1, 0, none⟩ = some (.int .i64 src) := X3.cell 0
  have X3c1 : w1.cell? ⟨w.heap.size + 1, 1, none⟩ = some (.int .i64 dst) := X3.cell 1
  have X3c2 : w1.cell? ⟨w.heap.size + 1, 2, none⟩ = some (.slice Ad dl cd) := X3.cell 2
  go_wp2_with fail
  refine (rRead_is ho ((hd.out.below hB).more hB.size) (by rw [hdl.out]; omega)).mono ?_
  rintro e w2 ⟨rfl, hb⟩
  have hB := hB.trans (hb.mono hB.size)
  have X2 := X2.later hb
  have X3 := X3.later hb
  clear hb z2 z3 X3c0 X3c1 X3c2
  rcases o with _ | ⟨u, od⟩
  · obtain rfl : T = false := HT.out.symm
    dsimp only [readV]
    go_wp2
    go_ret
    exact ⟨rfl, hB⟩
  dsimp only [readV]
  have hT := HT.out
  dsimp only at hT
  have HT := Lib.hid hT
  clear hT
  have z2 := X2.lt
  have z3 := X3.lt
  have X3c0 : w2.cell? ⟨w.heap.size + 1, 0, none⟩ = some (.int .i64 src) := X3.cell 0
  have X3c1 : w2.cell? ⟨w.heap.size + 1, 1, none⟩ = some (.int .i64 dst) := X3.cell 1
  have X3c2 : w2.cell? ⟨w.heap.size + 1, 2, none⟩ = some (.slice Ad dl cd) := X3.cell 2
  have X2c2 : w2.cell? ⟨w.heap.size, 2, none⟩ = some (.slice As ns cs) := X2.cell 2
  by_cases h0 : u < 0
  · have e1 : decide (u < 0) = true := decide_eq_true h0
    obtain rfl : T = false := by rw [← HT.out]; exact decide_eq_false (by omega)
    go_wp2
    go_ret
    exact ⟨rfl, hB⟩
  have e1 : decide (u < 0) = false := decide_eq_false h0
  by_cases h1 : (ns : Int) ≤ u
  · have e2 : decide ((ns : Int) ≤ u) = true := decide_eq_true h1
    obtain rfl : T = false := by rw [← HT.out]; exact decide_eq_false (by rw [hns.out]; omega)
    go_wp2
    go_ret
    exact ⟨rfl, hB⟩
  have e2 : decide ((ns : Int) ≤ u) = false := decide_eq_false h1
  obtain ⟨j, rfl⟩ : ∃ j : Nat, u = (j : Int) := ⟨u.toNat, by omega⟩
  have hjl : j < b.sent.length := by rw [hns.out]; omega
  obtain ⟨bs, os, rfl, hbs, hc9⟩ := hS.out.lk (by omega)
  obtain ⟨s0, s1⟩ := hc9 j hjl
  have hsa := sent_at hsb.out (n := (j : Int)) (by omega) (by rw [hns.out]; omega)
  have hat : b.at (j : Int) = b.sent.getD j (0, 0) := by rw [Bx.at, Int.toNat_natCast]
  have hT := HT.out
  rw [hat] at hsa hT
  replace s0 := (hB.cell hbs).trans s0
  replace s1 := (hB.cell hbs).trans s1
  have hsz := Nat.lt_of_lt_of_le hbs hB.size
  generalize b.sent.getD j (0, 0) = m at s0 s1 hsa hT
  obtain ⟨m1, m2⟩ := m
  dsimp only at s0 s1 hsa hT
  rw [hns.out] at hT
  have HT := Lib.hid hT
  have hw1 : IntKind.i64.wrap (m1 + 1) = m1 + 1 := wrapO (by omega) (by omega)
  have hw2 : wrap64 (m1 + 1) = m1 + 1 := by unfold wrap64; omega
  have hj3 : (j : Int) < (ns : Int) := by omega
  clear hc9 hat hT hsa
  go_upto_region 4 with fail
  by_cases h3 : src = 0
  rotate_left
  · have e3 : (src == 0) = false := by simp [h3]
    obtain rfl : T = false := by rw [← HT.out]; exact decide_eq_false (fun h => h3 h.2.2.1)
    go_quiet (fail)
    go_wp2
    go_ret
    exact ⟨rfl, bel_drewN hB nq⟩
  subst h3
  by_cases h4 : dst = m1 + 1
  rotate_left
  · have e3 : (dst == m1 + 1) = false := by simp [h4]
    obtain rfl : T = false := by rw [← HT.out]; exact decide_eq_false (fun h => h4 h.2.2.2.1)
    go_quiet (fail)
    go_wp2
    go_ret
    exact ⟨rfl, bel_drewN hB nq⟩
  subst h4
  have e3 : ((m1 + 1 : Int) == m1 + 1) = true := by simp
  have e4 : (od == m2) = T := by
    rw [← HT.out, Bool.eq_iff_iff]
    simp only [beq_iff_eq, decide_eq_true_eq]
    exact ⟨fun h => ⟨by omega, by omega, by trivial, by trivial, h⟩, fun h => h.2.2.2.2⟩
  go_quiet (fail)
  go_wp2
  go_ret
  exact ⟨rfl, bel_drewN hB nq⟩
end Go.Proofs.Ytmbifmmkccghfaa

/-
  Contract of Check of the reference, joined. (Printed by pp.py.) No condition.
-/
namespace Go.Proofs.Ytmbifmmkccghfaa
open Go.RowKit

theorem chk_lists {b : Bx} (h : b.listsB = false) : b.checkT = 340 := check_no (by rw [Bx.okB, valid_lists h]; rfl)
theorem chk_sent {b : Bx} (h : b.sentB = false) : b.checkT = 340 := check_no (by rw [Bx.okB, valid_sent h]; rfl)
theorem chk_gate {b : Bx} {g : Nat} (hg : g < b.heard.length) (h : b.gateB g = false) : b.checkT = 340 := check_no (by rw [Bx.okB, valid_gate hg h]; rfl)
theorem chk_net {b : Bx} (h : b.net.okB = false) : b.checkT = 340 := check_no (by rw [Bx.okB, h, Bool.false_and, Bool.and_false])
theorem chk_pk {b : Bx} {p : Pk} (hp : p ∈ b.net.queue) (h : b.pkB p = false) : b.checkT = 340 := by
  have : b.net.queue.all b.pkB = false := List.all_eq_false.2 ⟨_, hp, by rw [h]; decide⟩
  exact check_no (by rw [Bx.okB, this, Bool.and_false, Bool.and_false])
set_option maxRecDepth 100000 in
set_option maxHeartbeats 4000000 in
theorem oRCheck_any (b : Bx) (Aq Aa As Ah Af : Option Addr) (nq cq na ca ns cs n ch nf cf : Nat) (w : World) {T : Int} (hT : Hid (b.checkT = T)) (hx : Hid (BxAt w w.heap.size (.slice Aq nq cq) (.slice Aa na ca) (.slice As ns cs) (.slice Ah n ch) (.slice Af nf cf) b)) (hnq : Hid (b.net.queue.length = nq)) (hna : Hid (b.net.apart.length = na)) (hns : Hid (b.sent.length = ns)) (hn : Hid (b.heard.length = n)) (hnf : Hid (b.fresh.length = nf)) (hcs : ns ≤ 9223372036854775807) (hcn : n ≤ 9223372036854775807) (hcf : nf ≤ 9223372036854775807) (hcq : nq ≤ 9223372036854775807) :
    Calls Try.prog 16 #[.agg #[.slice Aq nq cq, .slice Aa na ca, .slice As ns cs, .slice Ah n ch, .slice Af nf cf]] w fun e w' => e = .returned (.int .i64 T) ∧ Below w.heap.size w w' := by
  have hB := (Below.refl w.heap.size w).alloc (Nat.le_refl _) (.cells #[.slice Aq nq cq, .slice Aa na ca, .slice As ns cs, .slice Ah n ch, .slice Af nf cf] 30)
  have X1 := Box.new w [.slice Aq nq cq, .slice Aa na ca, .slice As ns cs, .slice Ah n ch, .slice Af nf cf] 30
  go_enter Try.func16, Try.ntmps16
  go_upto_region 1 with fail
  generalize w.alloc (.cells #[.slice Aq nq cq, .slice Aa na ca, .slice As ns cs, .slice Ah n ch, .slice Af nf cf] 30) = w1 at hB X1 ⊢
  have z1 := X1.lt
  have X1c0 : w1.cell? ⟨w.heap.size, 0, none⟩ = some (.slice Aq nq cq) := X1.cell 0
  have X1c1 : w1.cell? ⟨w.heap.size, 1, none⟩ = some (.slice Aa na ca) := X1.cell 1
  have X1c2 : w1.cell? ⟨w.heap.size, 2, none⟩ = some (.slice As ns cs) := X1.cell 2
  have X1c3 : w1.cell? ⟨w.heap.size, 3, none⟩ = some (.slice Ah n ch) := X1.cell 3
  have X1c4 : w1.cell? ⟨w.heap.size, 4, none⟩ = some (.slice Af nf cf) := X1.cell 4
  by_cases h1 : n < 1
  · have d1 : decide ((n : Int) < 1) = true := decide_eq_true (by omega)
    obtain rfl : T = 340 := by rw [← hT.out, chk_lists]; rw [Bx.listsB, hn.out]; exact decide_eq_false (by omega)
    go_wp2
    go_ret
    exact ⟨rfl, hB⟩
  have d1 : decide ((n : Int) < 1) = false := decide_eq_false (by omega)
  by_cases h2 : 8 < n
  · have d3 : decide ((8 : Int) < (n : Int)) = true := decide_eq_true (by omega)
    obtain rfl : T = 340 := by rw [← hT.out, chk_lists]; rw [Bx.listsB, hn.out]; exact decide_eq_false (by omega)
    go_wp2
    go_ret
    exact ⟨rfl, hB⟩
  have d3 : decide ((8 : Int) < (n : Int)) = false := decide_eq_false (by omega)
  by_cases h3 : nf = n
  rotate_left
  · have d5 : ((nf : Int) != (n : Int)) = true := by simp; omega
    obtain rfl : T = 340 := by rw [← hT.out, chk_lists]; rw [Bx.listsB, hn.out, hnf.out]; exact decide_eq_false (by omega)
    go_wp2
    go_ret
    exact ⟨rfl, hB⟩
  subst h3
  have d5 : ((nf : Int) != (nf : Int)) = false := by simp
  by_cases h4 : 4096 < ns
  · have d6 : decide ((4096 : Int) < (ns : Int)) = true := decide_eq_true (by omega)
    obtain rfl : T = 340 := by rw [← hT.out, chk_lists]; rw [Bx.listsB, hns.out]; exact decide_eq_false (by omega)
    go_wp2
    go_ret
    exact ⟨rfl, hB⟩
  have d6 : decide ((4096 : Int) < (ns : Int)) = false := decide_eq_false (by omega)
  have hL : Hid (b.listsB = true) := Lib.hid (by rw [Bx.listsB, hn.out, hns.out, hnf.out]; exact decide_eq_true (by omega))
  obtain ⟨c, hc⟩ : ∃ c, Hid (b.net.checkT = c) := ⟨_, Lib.hid rfl⟩
  go_wp2_with fail
  refine (nRCheck_at hc (hx.out.later hB).net).mono ?_
  rintro e w3 ⟨rfl, hb⟩
  have hB := hB.trans (hb.mono hB.size)
  have X1 := X1.later hb
  clear hb z1 X1c0 X1c1 X1c2 X1c3 X1c4 d1 d3 d5 d6
  rcases net_chk (n := b.net) with ⟨h1, h2⟩ | ⟨h1, h2⟩
  rotate_left
  · obtain rfl : c = 60 := by rw [← hc.out]; exact h1
    obtain rfl : T = 340 := by rw [← hT.out, chk_net h2]
    clear h1 h2
    go_wp2
    go_ret
    exact ⟨rfl, hB⟩
  obtain rfl : c = 0 := by rw [← hc.out]; exact h1
  have HNO := Lib.hid h2
  clear h1 h2
  go_upto_region 5 with fail
  go_loopw [4] (fun s wr => ∃ k : Nat, k ≤ ns ∧ s = .int .i64 k ∧ Below w.heap.size w wr ∧ Box wr w.heap.size [.slice Aq nq cq, .slice Aa na ca, .slice As ns cs, .slice Ah nf ch, .slice Af nf cf] ∧ Hid (∀ j (hj : j < b.sent.length), j < k → (0 ≤ (b.sent[j]).1 ∧ (b.sent[j]).1 < (nf : Int)) ∧ (0 ≤ (b.sent[j]).2 ∧ (b.sent[j]).2 ≤ 7))) (fun s _ => ns - (intOf s).toNat)
  case atStart => exact ⟨0, by omega, rfl, hB, X1, Lib.hid (fun j _ hj => by omega)⟩
  case round =>
    clear hB X1
    obtain ⟨k, hk, rfl, hB, X1, hall⟩ := hrel
    obtain ⟨wo, rfl⟩ : ∃ wo : World, wo = wr := ⟨_, rfl⟩
    have z1 := X1.lt
    have X1c0 : wo.cell? ⟨w.heap.size, 0, none⟩ = some (.slice Aq nq cq) := X1.cell 0
    have X1c1 : wo.cell? ⟨w.heap.size, 1, none⟩ = some (.slice Aa na ca) := X1.cell 1
    have X1c2 : wo.cell? ⟨w.heap.size, 2, none⟩ = some (.slice As ns cs) := X1.cell 2
    have X1c3 : wo.cell? ⟨w.heap.size, 3, none⟩ = some (.slice Ah nf ch) := X1.cell 3
    have X1c4 : wo.cell? ⟨w.heap.size, 4, none⟩ = some (.slice Af nf cf) := X1.cell 4
    rcases Nat.lt_or_ge k ns with hlt | hge
    rotate_left
    · obtain rfl : k = ns := by omega
      have hk3 : ¬ ((k : Int) < (k : Int)) := by omega
      have hS : Hid (b.sentB = true) := Lib.hid (List.all_eq_true.2 fun m hm => by
        obtain ⟨j, hj, rfl⟩ := List.getElem_of_mem hm
        have := hall.out j hj (by rw [← hns.out]; exact hj)
        rw [hn.out]
        exact decide_eq_true this)
      go_upto_region 11 with fail
      clear z1 X1c0 X1c1 X1c2 X1c3 X1c4 hall hk3
      go_loopw [6] (fun s wr => ∃ g : Nat, g ≤ nf ∧ s = .int .i64 g ∧ Below w.heap.size w wr ∧ Box wr w.heap.size [.slice Aq nq cq, .slice Aa na ca, .slice As k cs, .slice Ah nf ch, .slice Af nf cf] ∧ Hid (∀ j, j < g → b.gateB j = true)) (fun s _ => nf - (intOf s).toNat)
      case atStart => exact ⟨0, by omega, rfl, hB, X1, Lib.hid (fun j hj => by omega)⟩
      case round =>
        clear hB X1
        obtain ⟨g, hg, rfl, hB, X1, hall⟩ := hrel
        obtain ⟨wi, rfl⟩ : ∃ wi : World, wi = wr := ⟨_, rfl⟩
        have z1 := X1.lt
        have X1c0 : wi.cell? ⟨w.heap.size, 0, none⟩ = some (.slice Aq nq cq) := X1.cell 0
        have X1c1 : wi.cell? ⟨w.heap.size, 1, none⟩ = some (.slice Aa na ca) := X1.cell 1
        have X1c2 : wi.cell? ⟨w.heap.size, 2, none⟩ = some (.slice As k cs) := X1.cell 2
        have X1c3 : wi.cell? ⟨w.heap.size, 3, none⟩ = some (.slice Ah nf ch) := X1.cell 3
        have X1c4 : wi.cell? ⟨w.heap.size, 4, none⟩ = some (.slice Af nf cf) := X1.cell 4
        rcases Nat.lt_or_ge g nf with hgl | hgg
        rotate_left
        · obtain rfl : nf = g := by omega
          have hk3 : ¬ ((nf : Int) < (nf : Int)) := by omega
          have hG : Hid (∀ g, g < b.heard.length → b.gateB g = true) := Lib.hid (fun g hg => hall.out g (by rw [← hn.out]; exact hg))
          go_upto_region 17 with fail
          clear z1 X1c0 X1c1 X1c2 X1c3 X1c4 hall hk3
          go_loopw [8] (fun s wr => ∃ q : Nat, q ≤ nq ∧ s = .int .i64 q ∧ Below w.heap.size w wr ∧ Box wr w.heap.size [.slice Aq nq cq, .slice Aa na ca, .slice As k cs, .slice Ah nf ch, .slice Af nf cf] ∧ Hid (∀ j (hj : j < b.net.queue.length), j < q → b.pkB b.net.queue[j] = true)) (fun s _ => nq - (intOf s).toNat)
          case atStart => exact ⟨0, by omega, rfl, hB, X1, Lib.hid (fun j _ hj => by omega)⟩
          case round =>
            clear hB X1
            obtain ⟨q, hq, rfl, hB, X1, hall⟩ := hrel
            obtain ⟨W, rfl⟩ : ∃ W : World, W = wr := ⟨_, rfl⟩
            have z1 := X1.lt
            have X1c0 : W.cell? ⟨w.heap.size, 0, none⟩ = some (.slice Aq nq cq) := X1.cell 0
            have X1c1 : W.cell? ⟨w.heap.size, 1, none⟩ = some (.slice Aa na ca) := X1.cell 1
            have X1c2 : W.cell? ⟨w.heap.size, 2, none⟩ = some (.slice As k cs) := X1.cell 2
            have X1c3 : W.cell? ⟨w.heap.size, 3, none⟩ = some (.slice Ah nf ch) := X1.cell 3
            have X1c4 : W.cell? ⟨w.heap.size, 4, none⟩ = some (.slice Af nf cf) := X1.cell 4
            rcases Nat.lt_or_ge q nq with hql | hqg
            rotate_left
            · obtain rfl : q = nq := by omega
              have hk3 : ¬ ((q : Int) < (q : Int)) := by omega
              obtain rfl : T = 0 := by
                rw [← hT.out, check_yes]
                rw [Bx.okB, valid_yes hL.out hS.out hG.out, HNO.out, Bool.true_and, Bool.true_and]
                refine List.all_eq_true.2 fun p hp => ?_
                obtain ⟨j, hj, rfl⟩ := List.getElem_of_mem hp
                exact hall.out j hj (by rw [← hnq.out]; exact hj)
              go_wp2
              go_ret
              exact ⟨rfl, hB⟩
            have hk3 : (q : Int) < (nq : Int) := by omega
            have hql2 : q < b.net.queue.length := by rw [hnq.out]; exact hql
            obtain ⟨bq, oq, Vd, rfl, hbq, c0, c1, c2, hd⟩ := hx.out.net.queue.pk hql2
            have hdl := net_data HNO.out (List.getElem_mem hql2)
            have hbad : b.pkB b.net.queue[q] = false → T = 340 := fun h => by rw [← hT.out, chk_pk (List.getElem_mem hql2) h]
            have hgood : b.pkB b.net.queue[q] = true → ∀ j (hj : j < b.net.queue.length), j < q + 1 → b.pkB b.net.queue[j] = true := fun h j hj hjk => by
              rcases Nat.lt_or_ge j q with h9 | h9
              · exact hall.out j hj h9
              · obtain rfl : j = q := by omega
                exact h
            generalize b.net.queue[q] = p at c0 c1 c2 hd hdl hbad hgood
            have HBAD := Lib.hid hbad
            have HGOOD := Lib.hid hgood
            clear hbad hgood
            obtain ⟨Ad, cd, rfl, -⟩ := hd.form
            obtain ⟨dl, hdle⟩ : ∃ dl, p.data.length = dl := ⟨_, rfl⟩
            rw [hdle] at c2 hd hdl
            have HD := Lib.hid hd
            have HDL := Lib.hid hdle
            clear hd hdle
            replace c0 := (hB.cell hbq).trans c0
            replace c1 := (hB.cell hbq).trans c1
            replace c2 := (hB.cell hbq).trans c2
            have hqz := Nat.lt_of_lt_of_le hbq hB.size
            obtain ⟨t, ht⟩ : ∃ t, Hid (b.pkB p = t) := ⟨_, Lib.hid rfl⟩
            rw [ht.out] at HBAD HGOOD
            have hd := (Below.refl W.heap.size W).drew
            have hBd := hB.trans (hd.mono hB.size)
            have hh := oRPacket_is b (.slice (some ⟨bq, oq, none⟩) nq cq) (.slice Aa na ca) (.slice Ah nf ch) (.slice Af nf cf) As Ad k cs dl cd p W.drew ht (Lib.hid ((hx.out.sent.below hBd).more hBd.size)) (Lib.hid ((HD.out.below hBd).more hBd.size)) HDL hdl hns hS (by rw [hn.out]; omega) (by omega)
            have u0 : ∀ z : Later W, z.w.cell? ⟨w.heap.size, 0, none⟩ = some (.slice (some ⟨bq, oq, none⟩) nq cq) := Later.cell X1c0 z1
            have u1 : ∀ z : Later W, z.w.cell? ⟨w.heap.size, 1, none⟩ = some (.slice Aa na ca) := Later.cell X1c1 z1
            have u2 : ∀ z : Later W, z.w.cell? ⟨w.heap.size, 2, none⟩ = some (.slice As k cs) := Later.cell X1c2 z1
            have u3 : ∀ z : Later W, z.w.cell? ⟨w.heap.size, 3, none⟩ = some (.slice Ah nf ch) := Later.cell X1c3 z1
            have u4' : ∀ z : Later W, z.w.cell? ⟨w.heap.size, 4, none⟩ = some (.slice Af nf cf) := Later.cell X1c4 z1
            have v0 : ∀ z : Later W, z.w.cell? ⟨bq, oq + q * 3, none⟩ = some (.int .i64 p.src) := Later.cell c0 hqz
            have v1 : ∀ z : Later W, z.w.cell? ⟨bq, oq + q * 3 + 1, none⟩ = some (.int .i64 p.dst) := Later.cell c1 hqz
            have v2 : ∀ z : Later W, z.w.cell? ⟨bq, oq + q * 3 + 2, none⟩ = some (.slice Ad dl cd) := Later.cell c2 hqz
            clear ht
            go_upto_region 19 with fail
            refine wp_region_headsM (C := fun w' => ∃ x : Later W, w' = x.w) [0, 1, 2, 3, 4, 5, 6] (by kernel_rfl) (by kernel_rfl) (Later.mk' hd) (fun _ _ h => h) ?_
            simp only [headOps, List.filterMap_cons, List.filterMap_nil, List.getElem?_toArray, List.getElem?_cons_succ, List.getElem?_cons_zero]
            repeat (first | go_big_quiet_skip | (show wpQuiet _ _ _ _ (_ :: _) _; go_big_quiet_skip) | (show wpQuiet _ _ _ _ (_ :: _) _; go_big_quiet_want; go_big_quiet_op; go_big_quiet_on))
            refine wpQuiet_nil ?_
            clear u0 u1 u2 u3 u4' v0 v1 v2 c0 c1 c2
            refine anyC_callD (some 94) (n := 1) (i := 7) (by kernel_rfl) rfl rfl rfl (Later.mk' hd) ?_ (hh.mono ?_)
            · go_simp
            rintro e W2 ⟨rfl, hW2⟩
            refine ⟨_, rfl, ?_⟩
            simp only [Act.put, List.setIfInBounds_toArray, List.set_cons_zero, List.set_cons_succ]
            have hW2 := hd.trans hW2
            refine anyC_valD (some 9) (n := 0) (i := 8) (v := .bool t) (w' := W2) (by kernel_rfl) rfl rfl rfl (Later.mk' hW2) (by first | rfl | go_simp) ?_
            simp only [Act.put, List.setIfInBounds_toArray, List.set_cons_zero, List.set_cons_succ]
            refine anyC_done (by kernel_rfl) (Later.mk' hW2) ?_
            have hB := hB.trans (hW2.mono hB.size)
            have X1 := X1.later hW2
            clear hW2 hh hd hBd X1c0 X1c1 X1c2 X1c3 X1c4 z1 hqz
            cases t with
            | false =>
              obtain rfl : T = 340 := HBAD.out rfl
              go_wp2
              go_ret
              exact ⟨rfl, hB⟩
            | true =>
              have hg := Lib.hid (HGOOD.out rfl)
              go_wp2
              exact ⟨⟨q + 1, by omega, by go_num, hB, X1, hg⟩, by simp [intOf]; omega⟩
        have hk3 : (g : Int) < (nf : Int) := by omega
        have hgl2 : g < b.heard.length := by rw [hn.out]; exact hgl
        obtain ⟨t, ht⟩ : ∃ t, Hid (b.gateB g = t) := ⟨_, Lib.hid rfl⟩
        have hbad : t = false → T = 340 := fun h => by rw [← hT.out, chk_gate hgl2 (by rw [ht.out, h])]
        have hgood : t = true → ∀ j, j < g + 1 → b.gateB j = true := fun h j hj => by
          rcases Nat.lt_or_ge j g with h9 | h9
          · exact hall.out j h9
          · obtain rfl : j = g := by omega
            rw [ht.out, h]
        have HBAD := Lib.hid hbad
        have HGOOD := Lib.hid hgood
        clear hbad hgood
        go_wp2_with fail
        refine (oRGate_is b _ _ As Ah Af k cs nf ch nf cf g wi ht (Lib.hid (hx.out.later hB)) hns hn hnf hgl hgl (by omega)).mono ?_
        rintro e w2 ⟨rfl, hb⟩
        have hB := hB.trans (hb.mono hB.size)
        have X1 := X1.later hb
        clear hb z1 X1c0 X1c1 X1c2 X1c3 X1c4 ht
        cases t with
        | false =>
          obtain rfl : T = 340 := HBAD.out rfl
          go_wp2
          go_ret
          exact ⟨rfl, hB⟩
        | true =>
          have hg := Lib.hid (HGOOD.out rfl)
          go_wp2
          exact ⟨⟨g + 1, by omega, by go_num, hB, X1, hg⟩, by simp [intOf]; omega⟩
    have hk3 : (k : Int) < (ns : Int) := by omega
    have hkl : k < b.sent.length := by rw [hns.out]; exact hlt
    obtain ⟨bs, os, rfl, hbs, hc⟩ := hx.out.sent.lk (by omega)
    obtain ⟨c0, c1⟩ := hc k hkl
    rw [gd_at hkl] at c0 c1
    have hbad : ¬ ((0 ≤ (b.sent[k]).1 ∧ (b.sent[k]).1 < (nf : Int)) ∧ (0 ≤ (b.sent[k]).2 ∧ (b.sent[k]).2 ≤ 7)) → T = 340 := fun h => by
      rw [← hT.out, chk_sent]
      unfold Bx.sentB
      rw [List.all_eq_false]
      refine ⟨_, List.getElem_mem hkl, ?_⟩
      rw [hn.out, decide_eq_false h]
      decide
    have hgood : ((0 ≤ (b.sent[k]).1 ∧ (b.sent[k]).1 < (nf : Int)) ∧ (0 ≤ (b.sent[k]).2 ∧ (b.sent[k]).2 ≤ 7)) → (∀ j (hj : j < b.sent.length), j < k + 1 → (0 ≤ (b.sent[j]).1 ∧ (b.sent[j]).1 < (nf : Int)) ∧ (0 ≤ (b.sent[j]).2 ∧ (b.sent[j]).2 ≤ 7)) := fun h j hj hjk => by
      rcases Nat.lt_or_ge j k with h9 | h9
      · exact hall.out j hj h9
      · obtain rfl : j = k := by omega
        exact h
    generalize b.sent[k] = p at c0 c1 hbad hgood
    have HG := Lib.hid hgood
    obtain ⟨m1, m2⟩ := p
    dsimp only at c0 c1 hbad HG
    have HBAD := Lib.hid hbad
    clear hbad hgood
    replace c0 := (hB.cell hbs).trans c0
    replace c1 := (hB.cell hbs).trans c1
    have hbz := Nat.lt_of_lt_of_le hbs hB.size
    go_upto_region 8 with fail
    have Y := Box.new wo [.int .i64 m1, .int .i64 m2] 48
    have hal := (Below.refl wo.heap.size wo).alloc (Nat.le_refl _) (.cells #[.int .i64 m1, .int .i64 m2] 48)
    have X1 := X1.later hal
    have hB := hB.trans (hal.mono hB.size)
    clear hal c0 c1 hbz z1 X1c0 X1c1 X1c2 X1c3 X1c4
    generalize wo.alloc (.cells #[.int .i64 m1, .int .i64 m2] 48) = W at Y X1 hB ⊢
    generalize wo.heap.size = D at Y ⊢
    have y0 : W.cell? ⟨D, 0, none⟩ = some (.int .i64 m1) := Y.cell 0
    have y1 : W.cell? ⟨D, 1, none⟩ = some (.int .i64 m2) := Y.cell 1
    have yz := Y.lt
    by_cases g1 : m1 < 0
    · have e1 : decide (m1 < 0) = true := decide_eq_true g1
      obtain rfl : T = 340 := HBAD.out (by omega)
      go_wp2
      go_ret
      exact ⟨rfl, hB⟩
    have e1 : decide (m1 < 0) = false := decide_eq_false g1
    by_cases g2 : (nf : Int) ≤ m1
    · have e2 : decide ((nf : Int) ≤ m1) = true := decide_eq_true g2
      obtain rfl : T = 340 := HBAD.out (by omega)
      go_wp2
      go_ret
      exact ⟨rfl, hB⟩
    have e2 : decide ((nf : Int) ≤ m1) = false := decide_eq_false g2
    by_cases g3 : m2 < 0
    · have e3 : decide (m2 < 0) = true := decide_eq_true g3
      obtain rfl : T = 340 := HBAD.out (by omega)
      go_wp2
      go_ret
      exact ⟨rfl, hB⟩
    have e3 : decide (m2 < 0) = false := decide_eq_false g3
    by_cases g4 : 7 < m2
    · have e4 : decide (7 < m2) = true := decide_eq_true g4
      obtain rfl : T = 340 := HBAD.out (by omega)
      go_wp2
      go_ret
      exact ⟨rfl, hB⟩
    have e4 : decide (7 < m2) = false := decide_eq_false g4
    go_wp2
    exact ⟨⟨k + 1, by omega, by go_num, hB, X1, Lib.hid (HG.out (by omega))⟩, by simp [intOf]; omega⟩
end Go.Proofs.Ytmbifmmkccghfaa

/-
  Rows of numbers that orders builds; Check of both by name; what functions that return a box promise. No condition.
-/
namespace Go.Proofs.Ytmbifmmkccghfaa
open Go.RowKit

theorem oElemI : ∃ i, Elem 27 3 i (.int .i64 0) 1 8 := by
  obtain ⟨i, h1, h2, h3, h4⟩ := info_parts (show (Try.prog.info? 3).map (fun i => (i.zero, i.size, i.bytes)) = some (some (.int .i64 0), 1, 8) by kernel_rfl)
  exact ⟨i, Try.underlying27, h1, h2, h3, h4, by decide, by decide⟩
abbrev oEncI (n : Int) : List Value := [.int .i64 n]
abbrev OwnHd (w : World) (base : Nat) (V : Value) (l : List Int) : Prop := OwnE oEncI 1 w base 3 V l
theorem oOneI (n : Int) : ∀ u ∈ oEncI n, u.oneCell' = true := by
  intro u hu
  obtain rfl := List.mem_singleton.1 hu
  rfl
theorem ownE_cap {α : Type} {enc : α → List Value} {size base e : Nat} {w : World} {V : Value} {l : List α} (h : OwnE enc size w base e V l) : SlF V := by
  rcases h.2 with ⟨hv, _⟩ | ⟨g, cap, cur, hv, hb, hg, hcap, hcm, _⟩
  · exact .inl hv
  · exact .inr ⟨_, _, _, hv, hcap, hcm⟩
theorem OwnHd.hd {w : World} {base : Nat} {V : Value} {l : List Int} (h : OwnHd w base V l) (hl : l.length ≤ maxLen) : HdAt w w.heap.size V l := by
  refine ⟨ownE_cap h, ?_⟩
  obtain ⟨A, c, hv, hc⟩ := OwnE.sl h (fun _ => rfl)
  refine ⟨A, c, hv, hl, fun k hk => ?_⟩
  obtain ⟨b, rfl, _, hb, h2⟩ := hc k hk
  refine ⟨b, 0, rfl, hb, fun j hj => ?_⟩
  obtain rfl : j = 0 := by omega
  rw [Nat.zero_add, h2 0 (by omega)]
  simp [oEncI, hk]
theorem oMade (v : Value) (h : v.cells = #[v]) (n : Nat) : madeCells v.cells (n * 1) = (List.replicate n v).toArray := by
  rw [h, madeCells]
  apply Array.ext'
  apply List.ext_getElem?
  intro i
  rcases Nat.lt_or_ge i n with hi | hi
  · simp [hi, Nat.mod_one]
  · simp [hi]
theorem oMakeB (n : Nat) (hn : n ≤ 1024) (w : World) : (Instr.makeSlice 28 (.int .i64 (n : Int)) (.int .i64 (n : Int))).run Try.prog w = .ok (.slice (some ⟨w.heap.size, 0, none⟩) n n) (w.alloc (.cells (List.replicate n (Value.bool false)).toArray 4)) := by
  obtain ⟨i, h1, h2, h3, h4⟩ := info_parts (show (Try.prog.info? 4).map (fun i => (i.zero, i.size, i.bytes)) = some (some (.bool false), 1, 1) by kernel_rfl)
  have := run_makeSlice (P := Try.prog) w 28 4 i (.bool false) Try.underlying28 h1 h2 .i64 .i64 n n (by omega) (Int.le_refl _) (by rw [h3]; simp; omega) (by rw [h4]; omega) (by omega)
  rw [h3] at this
  simp only [Int.toNat_natCast] at this
  rw [this, oMade _ rfl]
theorem oMakeI (n : Nat) (hn : n ≤ 1024) (w : World) : (Instr.makeSlice 27 (.int .i64 (n : Int)) (.int .i64 (n : Int))).run Try.prog w = .ok (.slice (some ⟨w.heap.size, 0, none⟩) n n) (w.alloc (.cells (List.replicate n (Value.int .i64 0)).toArray 3)) := by
  obtain ⟨i, h1, h2, h3, h4⟩ := info_parts (show (Try.prog.info? 3).map (fun i => (i.zero, i.size, i.bytes)) = some (some (.int .i64 0), 1, 8) by kernel_rfl)
  have := run_makeSlice (P := Try.prog) w 27 3 i (.int .i64 0) Try.underlying27 h1 h2 .i64 .i64 n n (by omega) (Int.le_refl _) (by rw [h3]; simp; omega) (by rw [h4]; omega) (by omega)
  rw [h3] at this
  simp only [Int.toNat_natCast] at this
  rw [this, oMade _ rfl]
theorem box_fr {w : World} {K : Nat} {l : List Bool} (h : Box w K (l.map Value.bool)) (hm : l.length ≤ maxLen) : FrAt w w.heap.size (.slice (some ⟨K, 0, none⟩) l.length l.length) l := by
  refine ⟨.inr ⟨_, _, _, rfl, Nat.le_refl _, hm⟩, _, _, rfl, hm, fun i hi => ⟨K, 0, rfl, h.lt, fun j hj => ?_⟩⟩
  obtain rfl : j = 0 := by omega
  rw [Nat.zero_add, Nat.mul_one, Nat.add_zero, h.cell, List.getElem?_map, List.getElem?_eq_getElem hi]
  dsimp only
  rw [gd_at hi]
  rfl
theorem box_hd {w : World} {K : Nat} {l : List Int} (h : Box w K (l.map (Value.int .i64))) (hm : l.length ≤ maxLen) : HdAt w w.heap.size (.slice (some ⟨K, 0, none⟩) l.length l.length) l := by
  refine ⟨.inr ⟨_, _, _, rfl, Nat.le_refl _, hm⟩, _, _, rfl, hm, fun i hi => ⟨K, 0, rfl, h.lt, fun j hj => ?_⟩⟩
  obtain rfl : j = 0 := by omega
  rw [Nat.zero_add, Nat.mul_one, Nat.add_zero, h.cell, List.getElem?_map, List.getElem?_eq_getElem hi]
  dsimp only
  rw [gd_at hi]
  rfl
theorem BxAt.forms {w : World} {B : Nat} {Vq Va Vs Vh Vf : Value} {b : Bx} (h : BxAt w B Vq Va Vs Vh Vf b) : ∃ Aq cq Aa ca As cs Ah ch Af cf, Vq = .slice Aq b.net.queue.length cq ∧ Va = .slice Aa b.net.apart.length ca ∧ Vs = .slice As b.sent.length cs ∧ Vh = .slice Ah b.heard.length ch ∧ Vf = .slice Af b.fresh.length cf ∧
    b.net.queue.length ≤ 9223372036854775807 ∧ b.sent.length ≤ 9223372036854775807 ∧ b.heard.length ≤ 9223372036854775807 ∧ b.fresh.length ≤ 9223372036854775807 := by
  obtain ⟨Aq, cq, h1, m1⟩ := h.net.queue.form
  obtain ⟨Aa, ca, h2, _⟩ := h.net.apart.form
  obtain ⟨As, cs, h3, m3⟩ := h.sent.form
  obtain ⟨Ah, ch, h4, m4⟩ := h.heard.2.form3
  obtain ⟨Af, cf, h5, m5⟩ := h.fresh.2.form3
  unfold maxLen at m1 m3 m4 m5
  exact ⟨Aq, cq, Aa, ca, As, cs, Ah, ch, Af, cf, h1, h2, h3, h4, h5, by omega, by omega, by omega, by omega⟩
theorem oCheck_is {b : Bx} {Vq Va Vs Vh Vf : Value} {w : World} {T : Int} (hT : Hid (b.checkT = T)) (hx : BxAt w w.heap.size Vq Va Vs Vh Vf b) :
    Calls Try.prog 15 #[.agg #[Vq, Va, Vs, Vh, Vf]] w fun e w' => e = .returned (.int .i64 T) ∧ Below w.heap.size w w' := by
  obtain ⟨Aq, cq, Aa, ca, As, cs, Ah, ch, Af, cf, rfl, rfl, rfl, rfl, rfl, m1, m2, m3, m4⟩ := hx.forms
  exact oCheck_any b Aq Aa As Ah Af _ cq _ ca _ cs _ ch _ cf w hT (Lib.hid hx) (Lib.hid rfl) (Lib.hid rfl) (Lib.hid rfl) (Lib.hid rfl) (Lib.hid rfl) m2 m3 m4 m1
theorem oRCheck_is {b : Bx} {Vq Va Vs Vh Vf : Value} {w : World} {T : Int} (hT : Hid (b.checkT = T)) (hx : BxAt w w.heap.size Vq Va Vs Vh Vf b) :
    Calls Try.prog 16 #[.agg #[Vq, Va, Vs, Vh, Vf]] w fun e w' => e = .returned (.int .i64 T) ∧ Below w.heap.size w w' := by
  obtain ⟨Aq, cq, Aa, ca, As, cs, Ah, ch, Af, cf, rfl, rfl, rfl, rfl, rfl, m1, m2, m3, m4⟩ := hx.forms
  exact oRCheck_any b Aq Aa As Ah Af _ cq _ ca _ cs _ ch _ cf w hT (Lib.hid hx) (Lib.hid rfl) (Lib.hid rfl) (Lib.hid rfl) (Lib.hid rfl) (Lib.hid rfl) m2 m3 m4 m1
def RetBx (t : Bx) (rest : Array Value) (w : World) (e : Ending) (w' : World) : Prop := ∃ Vq Va Vs Vh Vf, e = .returned (.tuple (#[.agg #[Vq, Va, Vs, Vh, Vf]] ++ rest)) ∧ BxAt w' w'.heap.size Vq Va Vs Vh Vf t ∧ Below w.heap.size w w'
end Go.Proofs.Ytmbifmmkccghfaa

/-
  Few of orders. (Printed by gen_rx.py and pp.py.) No condition.
-/
namespace Go.Proofs.Ytmbifmmkccghfaa
open Go.RowKit Go.Shelf
attribute [local go_sem] Oper.semAt_some

set_option maxRecDepth 100000 in
set_option maxHeartbeats 4000000 in
theorem oRFew_any (b : Bx) (Aq Aa As Ah Af : Option Addr) (nq cq na ca ns cs n ch nf cf : Nat) (w : World) (hx : Hid (BxAt w w.heap.size (.slice Aq nq cq) (.slice Aa na ca) (.slice As ns cs) (.slice Ah n ch) (.slice Af nf cf) b)) (hq : Hid (b.net.queue.length = nq)) (hns : Hid (b.sent.length = ns)) (hn : Hid (b.heard.length = n)) (hnf : Hid (b.fresh.length = nf)) {T : Bool} (hT : Hid (b.fewB = T)) :
    Calls Try.prog 9 #[.agg #[.slice Aq nq cq, .slice Aa na ca, .slice As ns cs, .slice Ah n ch, .slice Af nf cf]] w fun e w' => e = .returned (.bool T) ∧ Below w.heap.size w w' := by
  go_enter Try.func9, Try.ntmps9
  have hB := (Below.refl w.heap.size w).alloc (Nat.le_refl _) (.cells #[.slice Aq nq cq, .slice Aa na ca, .slice As ns cs, .slice Ah n ch, .slice Af nf cf] 30)
  have X1 := Box.new w [.slice Aq nq cq, .slice Aa na ca, .slice As ns cs, .slice Ah n ch, .slice Af nf cf] 30
  go_upto_region 1 with fail
  generalize w.alloc (.cells #[.slice Aq nq cq, .slice Aa na ca, .slice As ns cs, .slice Ah n ch, .slice Af nf cf] 30) = w1 at hB X1 ⊢
  have z1 := X1.lt
  have X1c0 : w1.cell? ⟨w.heap.size, 0, none⟩ = some (.slice Aq nq cq) := X1.cell 0
  have X1c1 : w1.cell? ⟨w.heap.size, 1, none⟩ = some (.slice Aa na ca) := X1.cell 1
  have X1c2 : w1.cell? ⟨w.heap.size, 2, none⟩ = some (.slice As ns cs) := X1.cell 2
  have X1c3 : w1.cell? ⟨w.heap.size, 3, none⟩ = some (.slice Ah n ch) := X1.cell 3
  have X1c4 : w1.cell? ⟨w.heap.size, 4, none⟩ = some (.slice Af nf cf) := X1.cell 4
  obtain ⟨f, hf⟩ : ∃ f, Hid (fewN b.net = f) := ⟨_, Lib.hid rfl⟩
  go_wp2_with fail
  refine (nFew_at hf (hx.out.net.later hB)).mono ?_
  rintro e w2 ⟨rfl, hb⟩
  have hB := hB.trans (hb.mono hB.size)
  have X1 := X1.later hb
  clear hb z1 X1c0 X1c1 X1c2 X1c3 X1c4
  have hTe := hT.out
  unfold Bx.fewB at hTe
  rw [hf.out, hn.out, hnf.out, hns.out] at hTe
  have HTE := Lib.hid hTe
  clear hTe
  have z1 := X1.lt
  have X1c0 : w2.cell? ⟨w.heap.size, 0, none⟩ = some (.slice Aq nq cq) := X1.cell 0
  have X1c1 : w2.cell? ⟨w.heap.size, 1, none⟩ = some (.slice Aa na ca) := X1.cell 1
  have X1c2 : w2.cell? ⟨w.heap.size, 2, none⟩ = some (.slice As ns cs) := X1.cell 2
  have X1c3 : w2.cell? ⟨w.heap.size, 3, none⟩ = some (.slice Ah n ch) := X1.cell 3
  have X1c4 : w2.cell? ⟨w.heap.size, 4, none⟩ = some (.slice Af nf cf) := X1.cell 4
  cases f with
  | false =>
    obtain rfl : T = false := by rw [← HTE.out]; rfl
    go_wp2
    go_ret
    exact ⟨rfl, hB⟩
  | true =>
    have m1 : nq ≤ 40 := by
      have h9 := hf.out
      rw [fewN, Bool.and_eq_true] at h9
      rw [← hq.out]
      exact of_decide_eq_true h9.1
    by_cases h1 : n ≤ 20
    rotate_left
    · have d1 : decide ((20 : Int) < (n : Int)) = true := decide_eq_true (by omega)
      obtain rfl : T = false := by rw [← HTE.out]; simp [h1]
      go_wp2
      go_ret
      exact ⟨rfl, hB⟩
    have d1 : decide ((20 : Int) < (n : Int)) = false := decide_eq_false (by omega)
    by_cases h2 : nf ≤ 20
    rotate_left
    · have d2 : decide ((20 : Int) < (nf : Int)) = true := decide_eq_true (by omega)
      obtain rfl : T = false := by rw [← HTE.out]; simp [h2]
      go_wp2
      go_ret
      exact ⟨rfl, hB⟩
    have d2 : decide ((20 : Int) < (nf : Int)) = false := decide_eq_false (by omega)
    by_cases h3 : ns ≤ 100 ∨ (4096 ≤ ns ∧ ns ≤ 5000)
    rotate_left
    · obtain rfl : T = false := by
        rw [← HTE.out]
        have e1 : decide (ns ≤ 100) = false := decide_eq_false (by omega)
        have e2 : (decide (4096 ≤ ns) && decide (ns ≤ 5000)) = false := by simp; omega
        rw [e1, e2]
        simp
      have d3 : decide ((100 : Int) < (ns : Int)) = true := decide_eq_true (by omega)
      by_cases h4 : ns < 4096
      · have d4 : decide ((ns : Int) < 4096) = true := decide_eq_true (by omega)
        go_wp2
        go_ret
        exact ⟨rfl, hB⟩
      have d4 : decide ((ns : Int) < 4096) = false := decide_eq_false (by omega)
      have d5 : decide ((5000 : Int) < (ns : Int)) = true := decide_eq_true (by omega)
      go_wp2
      go_ret
      exact ⟨rfl, hB⟩
    go_upto_region 2 with fail
    obtain ⟨W, hW⟩ : ∃ W, w2 = W := ⟨_, rfl⟩
    rw [hW] at hB X1 z1 X1c0 X1c1 X1c2 X1c3 X1c4 ⊢
    clear hW
    go_cut [39] (fun s39 wx => s39 = .bool false ∧ Below W.heap.size W wx)
    case first =>
      rcases Nat.lt_or_ge 100 ns with h9 | h9
      · have d3 : decide ((100 : Int) < (ns : Int)) = true := decide_eq_true (by omega)
        have d4 : decide ((ns : Int) < 4096) = false := decide_eq_false (by omega)
        have d5 : decide ((5000 : Int) < (ns : Int)) = false := decide_eq_false (by omega)
        go_wp2_with fail
        go_meet
        exact ⟨rfl, Below.refl _ _⟩
      · have d3 : decide ((100 : Int) < (ns : Int)) = false := decide_eq_false (by omega)
        go_wp2_with fail
        go_meet
        exact ⟨rfl, Below.refl _ _⟩
    case rest =>
      obtain ⟨rfl, hb⟩ := hcut
      have hB := hB.trans (hb.mono hB.size)
      have X1 := X1.later hb
      clear hb z1 X1c0 X1c1 X1c2 X1c3 X1c4
      have HALL : Hid ((b.net.queue.all fun p => decide (p.data.length ≤ 100)) = T) := by
        refine Lib.hid ?_
        rw [← HTE.out]
        have e1 : decide (n ≤ 20) = true := decide_eq_true h1
        have e2 : decide (nf ≤ 20) = true := decide_eq_true h2
        have e3 : (decide (ns ≤ 100) || (decide (4096 ≤ ns) && decide (ns ≤ 5000))) = true := by
          rcases h3 with h9 | ⟨h9, h8⟩
          · simp [h9]
          · simp [h9, h8]
        rw [e1, e2, e3]
        simp
      clear HTE d1 d2
      go_upto_region 5 with fail
      go_loopw [4] (fun i wr => ∃ k : Nat, k ≤ nq ∧ i = .int .i64 k ∧ Below w.heap.size w wr ∧ Box wr w.heap.size [.slice Aq nq cq, .slice Aa na ca, .slice As ns cs, .slice Ah n ch, .slice Af nf cf] ∧ Hid (∀ j (hj : j < b.net.queue.length), j < k → b.net.queue[j].data.length ≤ 100)) (fun i _ => nq - (intOf i).toNat)
      case atStart => exact ⟨0, by omega, rfl, hB, X1, Lib.hid (fun j _ hj => by omega)⟩
      case round =>
        clear hB X1
        obtain ⟨k, hk, rfl, hB, X1, hall⟩ := hrel
        obtain ⟨wo, rfl⟩ : ∃ wo : World, wo = wr := ⟨_, rfl⟩
        have z1 := X1.lt
        have c0 : wo.cell? ⟨w.heap.size, 0, none⟩ = some (.slice Aq nq cq) := X1.cell 0
        rcases Nat.lt_or_ge k nq with hlt | hge
        rotate_left
        · obtain rfl : nq = k := by omega
          have hlm : ¬ ((nq : Int) < (nq : Int)) := by omega
          obtain rfl : T = true := by
            rw [← HALL.out]
            refine List.all_eq_true.2 fun p hp => ?_
            obtain ⟨j, hj, rfl⟩ := List.getElem_of_mem hp
            exact decide_eq_true (hall.out j hj (by rw [← hq.out]; exact hj))
          go_wp2
          go_ret
          exact ⟨rfl, hB⟩
        have hlm : (k : Int) < (nq : Int) := by omega
        have hkl : k < b.net.queue.length := by rw [hq.out]; exact hlt
        obtain ⟨bq, oq, V, rfl, hbq, q0, q1, q2, hV⟩ := hx.out.net.queue.pk hkl
        obtain ⟨Ad, cd, rfl, -⟩ := hV.form
        have q2 := (hB.cell hbq).trans q2
        have hqz := Nat.lt_of_lt_of_le hbq hB.size
        clear q0 q1 hV
        have hbad : ¬ b.net.queue[k].data.length ≤ 100 → T = false := fun h => by
          rw [← HALL.out]
          exact Bool.eq_false_iff.2 fun h9 => h (of_decide_eq_true (List.all_eq_true.1 h9 _ (List.getElem_mem hkl)))
        have hgood : b.net.queue[k].data.length ≤ 100 → ∀ j (hj : j < b.net.queue.length), j < k + 1 → b.net.queue[j].data.length ≤ 100 := fun h j hj h7 => by
          rcases Nat.lt_or_ge j k with h9 | h9
          · exact hall.out j hj h9
          · obtain rfl : j = k := by omega
            exact h
        generalize b.net.queue[k].data.length = u at q2 hbad hgood
        have HBAD := Lib.hid hbad
        have HG := Lib.hid hgood
        clear hbad hgood hall
        by_cases hu : u ≤ 100
        · have hg := Lib.hid (HG.out hu)
          have d6 : decide ((100 : Int) < (u : Int)) = false := decide_eq_false (by omega)
          go_wp2
          exact ⟨⟨k + 1, by omega, by go_num, hB, X1, hg⟩, by simp [intOf]; omega⟩
        · obtain rfl : T = false := HBAD.out hu
          have d6 : decide ((100 : Int) < (u : Int)) = true := decide_eq_true (by omega)
          go_wp2
          go_ret
          exact ⟨rfl, hB⟩
end Go.Proofs.Ytmbifmmkccghfaa

/-
  SameInts of the reference. (Printed by pp.py.) No condition.
-/
namespace Go.Proofs.Ytmbifmmkccghfaa
open Go.RowKit Go.Shelf
attribute [local go_sem] Oper.semAt_some

theorem ints_eq {l m : List Int} {n : Nat} (e1 : l.length = n) (e2 : m.length = n) (h : ∀ j, j < n → l.getD j 0 = m.getD j 0) : l = m := by
  apply List.ext_getElem (by omega)
  intro j h1 h2
  have := h j (by omega)
  rw [gd_at h1, gd_at h2] at this
  exact this
set_option maxRecDepth 100000 in
set_option maxHeartbeats 4000000 in
theorem rSameInts_any (A1 A2 : Option Addr) (n1 c1 n2 c2 : Nat) (l m : List Int) (w : World) (h1 : Hid (HdAt w w.heap.size (.slice A1 n1 c1) l)) (h2 : Hid (HdAt w w.heap.size (.slice A2 n2 c2) m)) (e1 : Hid (l.length = n1)) (e2 : Hid (m.length = n2)) (m1 : n1 ≤ 9223372036854775807) (m2 : n2 ≤ 9223372036854775807) {T : Bool} (hT : Hid (decide (l = m) = T)) :
    Calls Try.prog 19 #[.slice A1 n1 c1, .slice A2 n2 c2] w fun e w' => e = .returned (.bool T) ∧ Below w.heap.size w w' := by
  go_enter Try.func19, Try.ntmps19
  have hB := Below.refl w.heap.size w
  by_cases hne : n1 = n2
  rotate_left
  · have d0 : ((n1 : Int) != (n2 : Int)) = true := by simp; omega
    obtain rfl : T = false := by rw [← hT.out]; exact decide_eq_false (fun h => hne (by rw [← e1.out, ← e2.out, h]))
    go_wp2
    go_ret
    exact ⟨rfl, hB⟩
  subst hne
  have d0 : ((n1 : Int) != (n1 : Int)) = false := by simp
  go_upto_region 4 with fail
  clear d0
  go_loopw [5] (fun i wr => ∃ k : Nat, k ≤ n1 ∧ i = .int .i64 k ∧ Below w.heap.size w wr ∧ Hid (∀ j, j < k → l.getD j 0 = m.getD j 0)) (fun i _ => n1 - (intOf i).toNat)
  case atStart => exact ⟨0, by omega, rfl, hB, Lib.hid (fun j hj => by omega)⟩
  case round =>
    clear hB
    obtain ⟨k, hk, rfl, hB, hall⟩ := hrel
    obtain ⟨wo, rfl⟩ : ∃ wo : World, wo = wr := ⟨_, rfl⟩
    rcases Nat.lt_or_ge k n1 with hlt | hge
    rotate_left
    · obtain rfl : n1 = k := by omega
      have hlm : ¬ ((n1 : Int) < (n1 : Int)) := by omega
      obtain rfl : T = true := by rw [← hT.out]; exact decide_eq_true (ints_eq e1.out e2.out hall.out)
      go_wp2
      go_ret
      exact ⟨rfl, hB⟩
    have hlm : (k : Int) < (n1 : Int) := by omega
    obtain ⟨b1, o1, rfl, hb1, k1⟩ := h1.out.2.one (k := k) (by rw [e1.out]; exact hlt)
    obtain ⟨b2, o2, rfl, hb2, k2⟩ := h2.out.2.one (k := k) (by rw [e2.out]; exact hlt)
    have k1 := (hB.cell hb1).trans k1
    have k2 := (hB.cell hb2).trans k2
    have z1 := Nat.lt_of_lt_of_le hb1 hB.size
    have z2 := Nat.lt_of_lt_of_le hb2 hB.size
    have hbad : l.getD k 0 ≠ m.getD k 0 → T = false := fun h => by rw [← hT.out]; exact decide_eq_false (fun h9 => h (by rw [h9]))
    have hgood : l.getD k 0 = m.getD k 0 → ∀ j, j < k + 1 → l.getD j 0 = m.getD j 0 := fun h j hj => by
      rcases Nat.lt_or_ge j k with h9 | h9
      · exact hall.out j h9
      · obtain rfl : j = k := by omega
        exact h
    generalize l.getD k 0 = u at k1 hbad hgood
    generalize m.getD k 0 = v at k2 hbad hgood
    have HBAD := Lib.hid hbad
    have HG := Lib.hid hgood
    clear hbad hgood hall
    by_cases huv : u = v
    · subst huv
      have hg := Lib.hid (HG.out rfl)
      have d1 : (u != u) = false := by simp
      go_upto_region 6 with fail
      go_region
      go_wp2
      exact ⟨⟨k + 1, by omega, by go_num, hB.drew, hg⟩, by simp [intOf]; omega⟩
    · obtain rfl : T = false := HBAD.out huv
      have d1 : (u != v) = true := by simp [huv]
      go_upto_region 6 with fail
      go_region
      go_wp2
      go_ret
      exact ⟨rfl, hB.drew⟩
end Go.Proofs.Ytmbifmmkccghfaa

/-
  Same of orders, at two equal boxes. (Printed by gen_se.py and pp.py.) No condition.
-/
namespace Go.Proofs.Ytmbifmmkccghfaa
open Go.RowKit Go.Shelf
attribute [local go_sem] Oper.semAt_some

theorem rSameInts_eq {A1 A2 : Option Addr} {n c1 c2 : Nat} {l : List Int} {w : World} (h1 : HdAt w w.heap.size (.slice A1 n c1) l) (h2 : HdAt w w.heap.size (.slice A2 n c2) l) (e1 : Hid (l.length = n)) (hn : n ≤ maxLen) :
    Calls Try.prog 19 #[.slice A1 n c1, .slice A2 n c2] w fun e w' => e = .returned (.bool true) ∧ Below w.heap.size w w' :=
  rSameInts_any A1 A2 n c1 n c2 l l w (Lib.hid h1) (Lib.hid h2) e1 e1 (by unfold maxLen at hn; omega) (by unfold maxLen at hn; omega) (Lib.hid (by simp))
set_option maxRecDepth 100000 in
set_option maxHeartbeats 4000000 in
theorem oSame_eq (b : Bx) (Aq Aa As Ah Af Bq Ba Bs Bh Bf : Option Addr) (nq cq dq na ca da ns cs ds n ch dh nf cf df : Nat) (w : World) (hx : Hid (BxAt w w.heap.size (.slice Aq nq cq) (.slice Aa na ca) (.slice As ns cs) (.slice Ah n ch) (.slice Af nf cf) b)) (hy : Hid (BxAt w w.heap.size (.slice Bq nq dq) (.slice Ba na da) (.slice Bs ns ds) (.slice Bh n dh) (.slice Bf nf df) b)) (hns : Hid (b.sent.length = ns)) (hn : Hid (b.heard.length = n)) (hnf : Hid (b.fresh.length = nf)) :
    Calls Try.prog 14 #[.agg #[.slice Aq nq cq, .slice Aa na ca, .slice As ns cs, .slice Ah n ch, .slice Af nf cf], .agg #[.slice Bq nq dq, .slice Ba na da, .slice Bs ns ds, .slice Bh n dh, .slice Bf nf df]] w fun e w' => e = .returned (.bool true) ∧ Below w.heap.size w w' := by
  have m1 : n ≤ maxLen := by obtain ⟨_, _, hv, hm⟩ := hx.out.heard.2.form3; rw [hn.out] at hm; exact hm
  have m2 : ns ≤ maxLen := by obtain ⟨_, _, hv, hm⟩ := hx.out.sent.2.form3; rw [hns.out] at hm; exact hm
  have m3 : nf ≤ maxLen := by obtain ⟨_, _, hv, hm⟩ := hx.out.fresh.2.form3; rw [hnf.out] at hm; exact hm
  unfold maxLen at m2 m3
  have e1 : ((ns : Int) != (ns : Int)) = false := by simp
  have e2 : ((nf : Int) != (nf : Int)) = false := by simp
  go_enter Try.func14, Try.ntmps14
  have hB := ((Below.refl w.heap.size w).alloc (Nat.le_refl _) (.cells #[.slice Aq nq cq, .slice Aa na ca, .slice As ns cs, .slice Ah n ch, .slice Af nf cf] 30)).alloc (by simp) (.cells #[.slice Bq nq dq, .slice Ba na da, .slice Bs ns ds, .slice Bh n dh, .slice Bf nf df] 30)
  have X := (Box.new w [.slice Aq nq cq, .slice Aa na ca, .slice As ns cs, .slice Ah n ch, .slice Af nf cf] 30).alloc (.cells #[.slice Bq nq dq, .slice Ba na da, .slice Bs ns ds, .slice Bh n dh, .slice Bf nf df] 30)
  have Y := Box.newAt (w := w.alloc (.cells #[.slice Aq nq cq, .slice Aa na ca, .slice As ns cs, .slice Ah n ch, .slice Af nf cf] 30)) (n := w.heap.size + 1) [.slice Bq nq dq, .slice Ba na da, .slice Bs ns ds, .slice Bh n dh, .slice Bf nf df] 30 (by simp)
  go_upto_region 1 with fail
  generalize (w.alloc (.cells #[.slice Aq nq cq, .slice Aa na ca, .slice As ns cs, .slice Ah n ch, .slice Af nf cf] 30)).alloc (.cells #[.slice Bq nq dq, .slice Ba na da, .slice Bs ns ds, .slice Bh n dh, .slice Bf nf df] 30) = w1 at hB X Y ⊢
  have zx := X.lt
  have zy := Y.lt
  have Xc0 : w1.cell? ⟨w.heap.size, 0, none⟩ = some (.slice Aq nq cq) := X.cell 0
  have Xc1 : w1.cell? ⟨w.heap.size, 1, none⟩ = some (.slice Aa na ca) := X.cell 1
  have Xc2 : w1.cell? ⟨w.heap.size, 2, none⟩ = some (.slice As ns cs) := X.cell 2
  have Xc3 : w1.cell? ⟨w.heap.size, 3, none⟩ = some (.slice Ah n ch) := X.cell 3
  have Xc4 : w1.cell? ⟨w.heap.size, 4, none⟩ = some (.slice Af nf cf) := X.cell 4
  have Yc0 : w1.cell? ⟨w.heap.size + 1, 0, none⟩ = some (.slice Bq nq dq) := Y.cell 0
  have Yc1 : w1.cell? ⟨w.heap.size + 1, 1, none⟩ = some (.slice Ba na da) := Y.cell 1
  have Yc2 : w1.cell? ⟨w.heap.size + 1, 2, none⟩ = some (.slice Bs ns ds) := Y.cell 2
  have Yc3 : w1.cell? ⟨w.heap.size + 1, 3, none⟩ = some (.slice Bh n dh) := Y.cell 3
  have Yc4 : w1.cell? ⟨w.heap.size + 1, 4, none⟩ = some (.slice Bf nf df) := Y.cell 4
  go_wp2_with fail
  refine (nSame_at (Lib.hid (sameNet_refl b.net)) (hx.out.net.later hB) (hy.out.net.later hB)).mono ?_
  rintro e w2 ⟨rfl, hb⟩
  have hB := hB.trans (hb.mono hB.size)
  have X := X.later hb
  have Y := Y.later hb
  clear hb zx zy Xc0 Xc1 Xc2 Xc3 Xc4 Yc0 Yc1 Yc2 Yc3 Yc4
  have zx := X.lt
  have zy := Y.lt
  have Xc0 : w2.cell? ⟨w.heap.size, 0, none⟩ = some (.slice Aq nq cq) := X.cell 0
  have Xc1 : w2.cell? ⟨w.heap.size, 1, none⟩ = some (.slice Aa na ca) := X.cell 1
  have Xc2 : w2.cell? ⟨w.heap.size, 2, none⟩ = some (.slice As ns cs) := X.cell 2
  have Xc3 : w2.cell? ⟨w.heap.size, 3, none⟩ = some (.slice Ah n ch) := X.cell 3
  have Xc4 : w2.cell? ⟨w.heap.size, 4, none⟩ = some (.slice Af nf cf) := X.cell 4
  have Yc0 : w2.cell? ⟨w.heap.size + 1, 0, none⟩ = some (.slice Bq nq dq) := Y.cell 0
  have Yc1 : w2.cell? ⟨w.heap.size + 1, 1, none⟩ = some (.slice Ba na da) := Y.cell 1
  have Yc2 : w2.cell? ⟨w.heap.size + 1, 2, none⟩ = some (.slice Bs ns ds) := Y.cell 2
  have Yc3 : w2.cell? ⟨w.heap.size + 1, 3, none⟩ = some (.slice Bh n dh) := Y.cell 3
  have Yc4 : w2.cell? ⟨w.heap.size + 1, 4, none⟩ = some (.slice Bf nf df) := Y.cell 4
  go_wp2_with fail
  refine (rSameInts_eq (hx.out.heard.later hB) (hy.out.heard.later hB) hn m1).mono ?_
  rintro e w3 ⟨rfl, hb⟩
  have hB := hB.trans (hb.mono hB.size)
  have X := X.later hb
  have Y := Y.later hb
  clear hb zx zy Xc0 Xc1 Xc2 Xc3 Xc4 Yc0 Yc1 Yc2 Yc3 Yc4
  have zx := X.lt
  have zy := Y.lt
  have Xc0 : w3.cell? ⟨w.heap.size, 0, none⟩ = some (.slice Aq nq cq) := X.cell 0
  have Xc1 : w3.cell? ⟨w.heap.size, 1, none⟩ = some (.slice Aa na ca) := X.cell 1
  have Xc2 : w3.cell? ⟨w.heap.size, 2, none⟩ = some (.slice As ns cs) := X.cell 2
  have Xc3 : w3.cell? ⟨w.heap.size, 3, none⟩ = some (.slice Ah n ch) := X.cell 3
  have Xc4 : w3.cell? ⟨w.heap.size, 4, none⟩ = some (.slice Af nf cf) := X.cell 4
  have Yc0 : w3.cell? ⟨w.heap.size + 1, 0, none⟩ = some (.slice Bq nq dq) := Y.cell 0
  have Yc1 : w3.cell? ⟨w.heap.size + 1, 1, none⟩ = some (.slice Ba na da) := Y.cell 1
  have Yc2 : w3.cell? ⟨w.heap.size + 1, 2, none⟩ = some (.slice Bs ns ds) := Y.cell 2
  have Yc3 : w3.cell? ⟨w.heap.size + 1, 3, none⟩ = some (.slice Bh n dh) := Y.cell 3
  have Yc4 : w3.cell? ⟨w.heap.size + 1, 4, none⟩ = some (.slice Bf nf df) := Y.cell 4
  go_upto_region 4 with fail
  clear zx zy Xc0 Xc1 Xc2 Xc3 Xc4 Yc0 Yc1 Yc2 Yc3 Yc4
  go_loopw [5] (fun i wr => ∃ k : Nat, k ≤ ns ∧ i = .int .i64 k ∧ Below w.heap.size w wr ∧ Box wr w.heap.size [.slice Aq nq cq, .slice Aa na ca, .slice As ns cs, .slice Ah n ch, .slice Af nf cf] ∧ Box wr (w.heap.size + 1) [.slice Bq nq dq, .slice Ba na da, .slice Bs ns ds, .slice Bh n dh, .slice Bf nf df]) (fun i _ => ns - (intOf i).toNat)
  case atStart => exact ⟨0, by omega, rfl, hB, X, Y⟩
  case round =>
    clear hB X Y
    obtain ⟨k, hk, rfl, hB, X, Y⟩ := hrel
    obtain ⟨wo, rfl⟩ : ∃ wo : World, wo = wr := ⟨_, rfl⟩
    have zx := X.lt
    have zy := Y.lt
    have xc2 : wo.cell? ⟨w.heap.size, 2, none⟩ = some (.slice As ns cs) := X.cell 2
    have xc4 : wo.cell? ⟨w.heap.size, 4, none⟩ = some (.slice Af nf cf) := X.cell 4
    have yc2 : wo.cell? ⟨w.heap.size + 1, 2, none⟩ = some (.slice Bs ns ds) := Y.cell 2
    have yc4 : wo.cell? ⟨w.heap.size + 1, 4, none⟩ = some (.slice Bf nf df) := Y.cell 4
    rcases Nat.lt_or_ge k ns with hlt | hge
    · have hlm : (k : Int) < (ns : Int) := by omega
      have hkl : k < b.sent.length := by rw [hns.out]; exact hlt
      obtain ⟨b1, o1, rfl, hb1, hc1⟩ := hx.out.sent.lk (by omega)
      obtain ⟨b2, o2, rfl, hb2, hc2⟩ := hy.out.sent.lk (by omega)
      obtain ⟨p0, p1⟩ := hc1 k hkl
      obtain ⟨r0, r1⟩ := hc2 k hkl
      clear hc1 hc2
      have p0 := (hB.cell hb1).trans p0
      have p1 := (hB.cell hb1).trans p1
      have r0 := (hB.cell hb2).trans r0
      have r1 := (hB.cell hb2).trans r1
      have z1 := Nat.lt_of_lt_of_le hb1 hB.size
      have z2 := Nat.lt_of_lt_of_le hb2 hB.size
      generalize (b.sent.getD k (0, 0)).1 = u at p0 r0
      generalize (b.sent.getD k (0, 0)).2 = v at p1 r1
      have eu : (u == u) = true := by simp
      have ev : (v == v) = true := by simp
      go_upto_region 6 with fail
      go_region
      go_wp2
      exact ⟨⟨k + 1, by omega, by go_num, hB.drew, X.drew, Y.drew⟩, by simp [intOf]; omega⟩
    obtain rfl : ns = k := by omega
    have hlm : ¬ ((ns : Int) < (ns : Int)) := by omega
    go_upto_region 9 with fail
    clear zx zy xc2 xc4 yc2 yc4 hlm
    go_loopw [6] (fun i wr => ∃ k : Nat, k ≤ nf ∧ i = .int .i64 k ∧ Below w.heap.size w wr ∧ Box wr w.heap.size [.slice Aq nq cq, .slice Aa na ca, .slice As ns cs, .slice Ah n ch, .slice Af nf cf] ∧ Box wr (w.heap.size + 1) [.slice Bq nq dq, .slice Ba na da, .slice Bs ns ds, .slice Bh n dh, .slice Bf nf df]) (fun i _ => nf - (intOf i).toNat)
    case atStart => exact ⟨0, by omega, rfl, hB, X, Y⟩
    case round =>
      clear hB X Y
      obtain ⟨k, hk, rfl, hB, X, Y⟩ := hrel
      obtain ⟨wo, rfl⟩ : ∃ wo : World, wo = wr := ⟨_, rfl⟩
      have zx := X.lt
      have zy := Y.lt
      have xc4 : wo.cell? ⟨w.heap.size, 4, none⟩ = some (.slice Af nf cf) := X.cell 4
      have yc4 : wo.cell? ⟨w.heap.size + 1, 4, none⟩ = some (.slice Bf nf df) := Y.cell 4
      rcases Nat.lt_or_ge k nf with hlt | hge
      · have hlm : (k : Int) < (nf : Int) := by omega
        obtain ⟨b1, o1, rfl, hb1, p0⟩ := hx.out.fresh.2.one (k := k) (by rw [hnf.out]; exact hlt)
        obtain ⟨b2, o2, rfl, hb2, r0⟩ := hy.out.fresh.2.one (k := k) (by rw [hnf.out]; exact hlt)
        have p0 := (hB.cell hb1).trans p0
        have r0 := (hB.cell hb2).trans r0
        have z1 := Nat.lt_of_lt_of_le hb1 hB.size
        have z2 := Nat.lt_of_lt_of_le hb2 hB.size
        generalize b.fresh.getD k false = u at p0 r0
        have eu : (u != u) = false := by simp
        go_upto_region 11 with fail
        go_region
        go_wp2
        exact ⟨⟨k + 1, by omega, by go_num, hB.drew, X.drew, Y.drew⟩, by simp [intOf]; omega⟩
      obtain rfl : nf = k := by omega
      have hlm : ¬ ((nf : Int) < (nf : Int)) := by omega
      go_wp2
      go_ret
      exact ⟨rfl, hB⟩
end Go.Proofs.Ytmbifmmkccghfaa
