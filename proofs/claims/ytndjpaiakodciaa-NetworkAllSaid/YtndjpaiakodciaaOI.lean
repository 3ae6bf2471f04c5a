/-
  NetworkAll. (Printed by gen_oi.py.)
-/
import Derived.Test.YtndjpaiakodciaaOH
import Derived.Deep.DeepCutAuto
import Derived.Deep.RegionHeld3
namespace Go.Proofs.Ytndjpaiakodciaa
open Go.RowKit
attribute [local go_sem ↓ high] app_named

def sliceLen : Value → Nat
  | .slice _ n _ => n
  | _ => 0
theorem pks_set {w : World} {v : Value} {q : List Pk} (h : Hid (PksAt w w.heap.size v q)) {x : Nat} {A1 A2 B1 B2 : Option Addr} {k1 c1 k2 c2 l1 d1 l2 d2 : Nat} (hx : Box w x [.slice A1 k1 c1, .slice A2 k2 c2]) :
    Hid (PksAt ((w.setCell ⟨x, 0, none⟩ (.slice B1 l1 d1)).setCell ⟨x, 1, none⟩ (.slice B2 l2 d2)) ((w.setCell ⟨x, 0, none⟩ (.slice B1 l1 d1)).setCell ⟨x, 1, none⟩ (.slice B2 l2 d2)).heap.size v q) := by
  obtain ⟨f, V, s, b⟩ := h.out
  have h2 : PksAt ((w.setCell ⟨x, 0, none⟩ (.slice B1 l1 d1)).setCell ⟨x, 1, none⟩ (.slice B2 l2 d2)) w.heap.size v q :=
    ⟨f, V, (s.set_net (by decide) (fun i _ => ⟨_, _, rfl⟩) hx 0 (.slice B1 l1 d1)).set_net (by decide) (fun i _ => ⟨_, _, rfl⟩) (hx.set 0 (.slice B1 l1 d1)) 1 (.slice B2 l2 d2),
      fun i p hp => ((b i p hp).set_net hx 0 (.slice B1 l1 d1)).set_net (hx.set 0 (.slice B1 l1 d1)) 1 (.slice B2 l2 d2)⟩
  exact h2.more (by simp)
/-- The net that holds the packets q, and no cut. -/
def netOf (q : List Pk) : Net := ⟨q, []⟩
theorem netOf_ok {q : List Pk} (h : q.all Pk.okB = true) (hl : q.length ≤ 4096) : (netOf q).okB = true := okB_mk hl h rfl
theorem send_netOf {q : List Pk} (h : q.all Pk.okB = true) (hl : q.length < 4096) (p : Pk) : sendT (netOf q) p = if p.okB = true then (netOf (q ++ [p]), 0) else (Net.zero, 60) := by
  have hok := netOf_ok h (by omega)
  rcases hp : p.okB with _ | _
  · rw [sendT, if_neg (by rw [hp]; simp), if_neg (by decide)]
  · rw [sendT, if_pos ⟨hok, hp⟩, if_neg (by show ¬ q.length = 4096; omega), if_pos rfl]; rfl

set_option maxRecDepth 100000 in
set_option maxHeartbeats 8000000 in
theorem law_All_go (ls : List Pk) (os : List UInt8) (Al : Option Addr) (ll cl : Nat) (Ao : Option Addr) (lo co : Nat) (w : World) (hL : Hid (PksAt w w.heap.size (.slice Al ll cl) ls)) (hO : Hid (BytesAt w w.heap.size (.slice Ao lo co) os)) (hll : Hid (ls.length = ll)) (hlo : Hid (os.length = lo)) (h12 : ll ≤ 12) (hlo2 : lo ≤ 9223372036854775807) :
    Calls Try.prog 4 #[.slice Al ll cl, .slice Ao lo co] w fun e w' => e = .returned (.bool true) ∧ Below w.heap.size w w' := by
  have hB := Below.refl w.heap.size w
  go_enter Try.func4, Try.ntmps4
  go_wp2_with fail
  refine (nSane_any _).mono ?_
  rintro e w1 ⟨rfl, hb⟩
  have hB := hB.trans (hb.mono hB.size)
  clear hb
  go_wp2_with fail
  refine (nNew_any _).mono ?_
  rintro e w2 ⟨rfl, hb⟩
  have hB := hB.trans (hb.mono hB.size)
  clear hb
  go_wp2_with fail
  have X0 := Box.new w2 [.slice none 0 0, .slice none 0 0] 25
  have hwa := hB.size
  have hB := hB.alloc hB.size (.cells #[.slice none 0 0, .slice none 0 0] 25)
  have hX0b : w.heap.size ≤ w2.heap.size := hwa
  have hbase : w2.heap.size + 1 = (w2.alloc (.cells #[.slice none 0 0, .slice none 0 0] 25)).heap.size := by simp
  generalize w2.heap.size = X0a at X0 hX0b hbase ⊢
  generalize w2.alloc (.cells #[.slice none 0 0, .slice none 0 0] 25) = W1 at X0 hB hbase ⊢
  obtain ⟨base, hbs⟩ : ∃ base, X0a + 1 = base := ⟨_, rfl⟩
  rw [hbs] at hbase
  have HBS := Lib.hid hbs
  clear hbs hwa
  go_loopw [6, 7] (fun v i wr => ∃ (k : Nat) (q : List Pk) (Aq : Option Addr) (cq : Nat) (Aa : Option Addr) (ca : Nat), k ≤ ll ∧ i = .int .i64 k ∧ q.length ≤ k ∧ Hid (q.all Pk.okB = true) ∧ RestAt wr base v q ∧ Below w.heap.size w wr ∧ Box wr X0a [.slice Aq q.length cq, .slice Aa 0 ca] ∧ Hid (NetAt wr wr.heap.size (.slice Aq q.length cq) (.slice Aa 0 ca) (netOf q)) ∧ base ≤ wr.heap.size) (fun _ i _ => ll - (intOf i).toNat)
  case atStart => exact ⟨0, [], none, 0, none, 0, by omega, rfl, by simp, rfl, .inl ⟨rfl, rfl⟩, hB, X0, netAt_zero _ _, by omega⟩
  case round =>
    clear hB X0 hbase
    obtain ⟨k, q, Aq, cq, Aa, ca, hk, rfl, hqk, hqo, hR, hB, X0, hN, hle⟩ := hrel
    obtain ⟨Ar, cr, rfl, _⟩ := hR.pks.form
    obtain ⟨ql, hql⟩ : ∃ ql, q.length = ql := ⟨_, rfl⟩
    rw [hql] at X0 hN hqk hR ⊢
    have HQL := Lib.hid hql
    clear hql
    by_cases hlt : k < ll
    · have hkl : k < ls.length := by rw [hll.out]; exact hlt
      obtain ⟨b, off, V, rfl, hbw, q0, q1, q2, hV⟩ := hL.out.pk hkl
      have hbz : b < wr.heap.size := Nat.lt_of_lt_of_le hbw hB.size
      have q0 := (hB.cell hbw).trans q0
      have q1 := (hB.cell hbw).trans q1
      have q2 := (hB.cell hbw).trans q2
      have hVw := (hV.below hB).more hB.size
      obtain ⟨Ad, cd, rfl, _⟩ := hV.form
      obtain ⟨dl, hdl⟩ : ∃ dl, (ls[k]).data.length = dl := ⟨_, rfl⟩
      rw [hdl] at q2 hVw
      obtain ⟨p, hp⟩ : ∃ p, ls[k] = p := ⟨_, rfl⟩
      rw [hp] at q0 q1 hVw
      have hVw := Lib.hid hVw
      clear hp hdl hV
      have hsd := send_netOf hqo.out (show q.length < 4096 by rw [HQL.out]; omega) p
      obtain ⟨m, er, hs⟩ : ∃ m er, sendT (netOf q) p = (m, er) := ⟨_, _, rfl⟩
      rw [hs] at hsd
      obtain ⟨mq, hmq⟩ : ∃ k, m.queue.length = k := ⟨_, rfl⟩
      obtain ⟨ma, hma⟩ : ∃ k, m.apart.length = k := ⟨_, rfl⟩
      replace hs := Lib.hid hs
      replace hsd := Lib.hid hsd
      replace hmq := Lib.hid hmq
      replace hma := Lib.hid hma
      have j1 : (0 : Int) ≤ (k : Int) := by omega
      have j2 : (k : Int) < (ll : Int) := by omega
      have x0 : wr.cell? ⟨X0a, 0, none⟩ = some (.slice Aq ql cq) := X0.cell 0
      have x1 : wr.cell? ⟨X0a, 1, none⟩ = some (.slice Aa 0 ca) := X0.cell 1
      have xz := X0.lt
      have xb : X0a < base := by rw [← HBS.out]; omega
      have hLe : Hid (∀ E, Below wr.heap.size wr E → Calls Try.prog 11 #[.agg #[.slice Aq ql cq, .slice Aa 0 ca], .agg #[.int .i64 p.src, .int .i64 p.dst, .slice Ad dl cd]] E (RetNet (sendT (netOf q) p) wr.heap.size E)) := fun E h => nSend_any (netOf q) _ _ p _ E wr.heap.size h.size (hN.out.below h) (hVw.out.below h)
      have hE1 : Below wr.heap.size wr wr.drew := (Below.refl _ _).drew
      have hE2 : Below wr.heap.size wr (wr.alloc (.cells #[.slice none 0 0, .slice none 0 0] 25)).drew := ((Below.refl _ _).alloc (Nat.le_refl _) _).drew
      have hEx : Box (wr.alloc (.cells #[.slice none 0 0, .slice none 0 0] 25)).drew wr.heap.size [.slice none 0 0, .slice none 0 0] := (Box.new wr [.slice none 0 0, .slice none 0 0] 25).drew
      go_wp2_with fail
      go_cut [8, 9] (fun s8 s9 wx => s9 = .int .i64 er ∧ ∃ (Xa : Nat) (A1 : Option Addr) (c1 : Nat) (A2 : Option Addr) (c2 : Nat), s8 = .pointer (some ⟨Xa, 0, none⟩) ∧ Below wr.heap.size wr wx ∧ Box wx Xa [.slice A1 mq c1, .slice A2 ma c2] ∧ Hid (NetAt wx wx.heap.size (.slice A1 mq c1) (.slice A2 ma c2) m) ∧ wr.heap.size ≤ Xa)
      case first =>
        go_region_with (go_at_call 11; refine Calls.mono (hLe.out _ (by first | exact hE1 | exact hE2)) ?_; rintro e w13 hh; obtain ⟨Aq6, cq6, Aa6, ca6, rfl, hN6, hb⟩ := RetNet.is2 (by first | exact hE1.size | exact hE2.size) hh hs hmq hma; first | (have hBx := hEx.later hb; have c0 : w13.cell? ⟨wr.heap.size, 0, none⟩ = some (.slice none 0 0) := hBx.cell 0; have c1 : w13.cell? ⟨wr.heap.size, 1, none⟩ = some (.slice none 0 0) := hBx.cell 1; have f0 := hBx.free 0; have f1 := hBx.free 1; have z0 := hBx.lt) | skip)
        all_goals
          have hB13 : Below wr.heap.size wr w13 := by first | exact hE1.trans (hb.mono hE1.size) | exact hE2.trans (hb.mono hE2.size)
          go_wp2_with fail
          go_meet
          case rel =>
            refine ⟨rfl, ?_⟩
            first
              | exact ⟨_, _, _, _, _, rfl, (hB13.setCell (p := ⟨wr.heap.size, 0, none⟩) (by simp) (.slice Aq6 mq cq6)).setCell (p := ⟨wr.heap.size, 1, none⟩) (by simp) (.slice Aa6 ma ca6), (hBx.set 0 (.slice Aq6 mq cq6)).set 1 (.slice Aa6 ma ca6), Lib.hid (((hN6.out.set (a := ⟨wr.heap.size, 0, none⟩) (by simp) (by simp) (.slice Aq6 mq cq6)).set (a := ⟨wr.heap.size, 1, none⟩) (by simp) (by simp) (.slice Aa6 ma ca6)).at (by have := hB13.size; simpa using this)), Nat.le_refl _⟩
              | exact ⟨_, _, _, _, _, rfl, hB13.alloc hB13.size (.cells #[.slice Aq6 mq cq6, .slice Aa6 ma ca6] 25), Box.new w13 [.slice Aq6 mq cq6, .slice Aa6 ma ca6] 25, Lib.hid ((hN6.out.at hB13.size).later ((Below.refl _ _).alloc (Nat.le_refl _) (.cells #[.slice Aq6 mq cq6, .slice Aa6 ma ca6] 25))), hB13.size⟩
      case rest =>
        obtain ⟨rfl, Xa, A1, c1, A2, c2, rfl, hst, X8, hM, hXa⟩ := hcut
        have hXa2 := X8.lt
        have X0 := X0.later hst
        have hR := hR.later hst
        have hN := hid_later hN hst
        have hB := hB.trans (hst.mono hB.size)
        have hle := Nat.le_trans hle hst.size
        have q0 := (hst.cell hbz).trans q0
        have q1 := (hst.cell hbz).trans q1
        have q2 := (hst.cell hbz).trans q2
        have hVw := hid_bytes hVw hst
        have hbz := Nat.lt_of_lt_of_le hbz hst.size
        have hne : X0a ≠ Xa := by omega
        clear hLe hE1 hE2 hEx hst x0 x1 xz
        rcases hpo : p.okB with _ | _
        · have e := hsd.out
          rw [hpo, if_neg (by decide)] at e
          injection e with e1 e2
          subst e1 e2
          clear hsd hs
          go_wp2
          refine ⟨⟨k + 1, q, Aq, cq, Aa, ca, by omega, by go_num, by rw [HQL.out]; omega, hqo, hR, hB, ?_, ?_, hle⟩, by simp [intOf]; omega⟩
          · rw [HQL.out]; exact X0
          · rw [HQL.out]; exact hN
        · have e := hsd.out
          rw [hpo, if_pos rfl] at e
          injection e with e1 e2
          subst e1 e2
          have e3 := hmq.out
          have e4 := hma.out
          rw [show (netOf (q ++ [p])).queue.length = ql + 1 by rw [← HQL.out]; exact List.length_append] at e3
          rw [show (netOf (q ++ [p])).apart.length = 0 from rfl] at e4
          subst e3 e4
          clear hsd hs hmq hma
          have y0 : wc.cell? ⟨Xa, 0, none⟩ = some (.slice A1 (ql + 1) c1) := X8.cell 0
          have y1 : wc.cell? ⟨Xa, 1, none⟩ = some (.slice A2 0 c2) := X8.cell 1
          have x0 : wc.cell? ⟨X0a, 0, none⟩ = some (.slice Aq ql cq) := X0.cell 0
          have x1 : wc.cell? ⟨X0a, 1, none⟩ = some (.slice Aa 0 ca) := X0.cell 1
          have f0 : wc.frozen? ⟨X0a, 0, none⟩ = false := X0.free 0
          have f1 : wc.frozen? ⟨X0a, 1, none⟩ = false := X0.free 1
          have xz := X0.lt
          go_upto_region 13 with (fail)
          clear y0 y1 x0 x1 f0 f1 xz
          have hbX : b ≠ X0a := by omega
          have hblk : ((wc.setCell ⟨X0a, 0, none⟩ (.slice A1 (ql + 1) c1)).setCell ⟨X0a, 1, none⟩ (.slice A2 0 c2)).heap[b]? = wc.heap[b]? := (Below.heap_setCell (wc.setCell ⟨X0a, 0, none⟩ (.slice A1 (ql + 1) c1)) ⟨X0a, 1, none⟩ (.slice A2 0 c2) b hbX).trans (Below.heap_setCell wc ⟨X0a, 0, none⟩ (.slice A1 (ql + 1) c1) b hbX)
          have q0 := (World.cell?_of_block (a := ⟨b, off + k * 3, none⟩) hblk).trans q0
          have q1 := (World.cell?_of_block (a := ⟨b, off + k * 3 + 1, none⟩) hblk).trans q1
          have q2 := (World.cell?_of_block (a := ⟨b, off + k * 3 + 2, none⟩) hblk).trans q2
          have hM := net_set (B1 := A1) (l1 := ql + 1) (d1 := c1) (B2 := A2) (l2 := 0) (d2 := c2) hM X0
          have hVw := bytes_set (B1 := A1) (l1 := ql + 1) (d1 := c1) (B2 := A2) (l2 := 0) (d2 := c2) hVw X0
          have hR := (hR.set X0 xb 0 (.slice A1 (ql + 1) c1)).set (X0.set 0 (.slice A1 (ql + 1) c1)) xb 1 (.slice A2 0 c2)
          have hB := (hB.setCell (p := ⟨X0a, 0, none⟩) hX0b (.slice A1 (ql + 1) c1)).setCell (p := ⟨X0a, 1, none⟩) hX0b (.slice A2 0 c2)
          have X0 := (X0.set 0 (.slice A1 (ql + 1) c1)).set 1 (.slice A2 0 c2)
          have hle2 : base ≤ ((wc.setCell ⟨X0a, 0, none⟩ (.slice A1 (ql + 1) c1)).setCell ⟨X0a, 1, none⟩ (.slice A2 0 c2)).heap.size := by simpa using hle
          generalize ((wc.setCell ⟨X0a, 0, none⟩ (.slice A1 (ql + 1) c1)).setCell ⟨X0a, 1, none⟩ (.slice A2 0 c2)) = w5 at q0 q1 q2 hM hVw hR hB X0 hle2 ⊢
          have hst2 := (Below.refl w5.heap.size w5).alloc (Nat.le_refl _) (.cells #[.int .i64 p.src, .int .i64 p.dst, .slice Ad dl cd] 28)
          have hV3 := hid_bytes hVw hst2
          have hM3 := hid_later hM hst2
          have X3 := X0.later hst2
          obtain ⟨A', n', c', w', hrun, hR4, hK⟩ := run_rest 22 (hR.later hst2) (Box.new w5 [.int .i64 p.src, .int .i64 p.dst, .slice Ad dl cd] 28) hV3.out (Nat.le_trans hle2 hst2.size) (by rw [HQL.out]; omega)
          have happ : (appF #[22, 22] 22 #[.slice Ar ql cr, .slice (some ⟨w5.heap.size, 0, none⟩) 1 1]).run Try.prog (w5.alloc (.cells #[.int .i64 p.src, .int .i64 p.dst, .slice Ad dl cd] 28)) = .ok (.slice A' n' c') w' := hrun
          have hokm : (netOf (q ++ [p])).okB = true := netOf_ok (by rw [List.all_append, hqo.out]; simp [hpo]) (by rw [List.length_append, HQL.out]; simp; omega)
          have hlen : (q ++ [p]).length = ql + 1 := by rw [← HQL.out]; exact List.length_append
          have hEnd : Hid (RestAt w' base (.slice A' n' c') (q ++ [p]) ∧ Below w.heap.size w w' ∧ Box w' X0a [.slice A1 (ql + 1) c1, .slice A2 0 c2] ∧ NetAt w' w'.heap.size (.slice A1 (ql + 1) c1) (.slice A2 0 c2) (netOf (q ++ [p])) ∧ base ≤ w'.heap.size) :=
            ⟨hR4, (hB.trans (hst2.mono hB.size)).trans (hK.below.mono (by omega)), Box.keep X3 xb hK.below, hK.net hokm hM3.out, Nat.le_trans (Nat.le_trans hle2 hst2.size) hK.below.size⟩
          clear hrun hR4 hK hM3 hV3 X3 hst2
          have hbz2 := World.block_lt_of_cell? _ _ q0
          go_wp2
          refine ⟨⟨k + 1, q ++ [p], A1, c1, A2, c2, by omega, by go_num, by rw [hlen]; omega, ?_, hEnd.out.1, hEnd.out.2.1, ?_, ?_, hEnd.out.2.2.2.2⟩, by simp [intOf]; omega⟩
          · rw [Hid, List.all_append, hqo.out]; simp [hpo]
          · rw [hlen]; exact hEnd.out.2.2.1
          · rw [hlen]; exact hEnd.out.2.2.2.1
    · obtain rfl : k = ll := by omega
      have hPk := Lib.hid hR.pks
      clear hR hle
      have x0 : wr.cell? ⟨X0a, 0, none⟩ = some (.slice Aq ql cq) := X0.cell 0
      go_wp2_with fail
      clear x0
      go_loopw [6, 10] (fun v i wr => ∃ (j : Nat) (q : List Pk) (Aq : Option Addr) (cq : Nat) (Aa : Option Addr) (ca : Nat), i = .int .i64 j ∧ q.length + j ≤ 12 ∧ q.all Pk.okB = true ∧ PksAt wr wr.heap.size v q ∧ Below w.heap.size w wr ∧ Box wr X0a [.slice Aq q.length cq, .slice Aa 0 ca] ∧ Hid (NetAt wr wr.heap.size (.slice Aq q.length cq) (.slice Aa 0 ca) (netOf q))) (fun v _ _ => sliceLen v)
      case atStart => exact ⟨0, q, Aq, cq, Aa, ca, rfl, by rw [HQL.out]; omega, hqo.out, hPk.out, hB, by rw [HQL.out]; exact X0, by rw [HQL.out]; exact hN⟩
      case round =>
        clear hB X0 hN hPk hqo HQL hqk
        obtain ⟨j, q, Aq, cq, Aa, ca, rfl, hqj, hqo, hPk, hB, X0, hN⟩ := hrel
        obtain ⟨wo, rfl⟩ : ∃ wo : World, wo = wr := ⟨_, rfl⟩
        obtain ⟨Ar, cr, rfl, hcm, hqc⟩ : ∃ A c, u6 = .slice A q.length c ∧ c ≤ maxLen ∧ (A = none ∨ q.length ≤ c) := by
          obtain ⟨A, c, e, _⟩ := hPk.form
          rcases hPk.1 with h | ⟨a, n, c2, h, h1, h2⟩
          · rw [h] at e
            injection e with e1 e2 e3
            exact ⟨none, 0, by rw [h, ← e2], Nat.zero_le _, .inl rfl⟩
          · rw [h] at e
            injection e with e1 e2 e3
            subst e2 e3
            exact ⟨some a, _, h, h2, .inr h1⟩
        obtain ⟨ql, hql⟩ : ∃ ql, q.length = ql := ⟨_, rfl⟩
        rw [hql] at X0 hN hqj hPk hqc ⊢
        have HQL := Lib.hid hql
        have hqo := Lib.hid hqo
        have hPk := Lib.hid hPk
        clear hql
        by_cases hz : 0 < ql
        · have hd1 : decide ((0 : Int) < (ql : Int)) = true := by simp; omega
          go_upto_if 54 with (fail)
          go_cut [11] (fun s11 wx => ∃ a : Nat, a < ql ∧ s11 = .int .i64 (a : Int) ∧ wx = wo)
          case first =>
            by_cases hj : j < lo
            · have ho0 := hO.out.below hB
              obtain ⟨bo, oo, rfl, hob, hoc⟩ : ∃ bo oo, Ao = some ⟨bo, oo, none⟩ ∧ bo < w.heap.size ∧ wo.cell? ⟨bo, oo + j, none⟩ = some (.int .u8 ((os.getD j 0).toNat : Int)) := by
                obtain ⟨A', c', hv, _, h1⟩ := ho0
                cases hv
                obtain ⟨bo, oo, e, hob, h3⟩ := h1 j (by rw [hlo.out]; exact hj)
                cases e
                have := h3 0 (by omega)
                rw [Nat.mul_one, Nat.add_zero] at this
                exact ⟨bo, oo, rfl, hob, this⟩
              obtain ⟨z, hz2⟩ : ∃ z : Nat, (os.getD j 0).toNat = z := ⟨_, rfl⟩
              have hz3 : z ≤ 255 := by rw [← hz2]; have := (os.getD j 0).toNat_lt; omega
              rw [hz2] at hoc
              clear hz2 ho0
              have i1 : (0 : Int) ≤ (z : Int) := by omega
              have i2 : (z : Int) ≤ 255 := by omega
              have i3 : (0 : Int) ≤ (j : Int) := by omega
              have i4 : (j : Int) < (lo : Int) := by omega
              have i5 : (0 : Int) < (ql : Int) := by omega
              have i6 : (ql : Int) ≤ 12 := by omega
              go_wp2_with fail
              go_meet
              case rel => exact ⟨z % ql, Nat.mod_lt _ hz, by rw [Int.natCast_emod], rfl⟩
            · have i3 : ¬ ((j : Int) < (lo : Int)) := by omega
              go_wp2_with fail
              go_meet
              case rel => exact ⟨0, hz, rfl, rfl⟩
          case rest =>
          obtain ⟨a, ha, rfl, hwc⟩ := hcut
          have hwc2 := hwc.symm
          subst hwc2
          have han : a < (netOf q).queue.length := by rw [show (netOf q).queue.length = q.length from rfl, HQL.out]; exact ha
          have hok := netOf_ok hqo.out (by rw [HQL.out]; omega)
          have hdv := deliver_at hok han
          rw [show (netOf q).apart = [] from rfl, show cutB [] ((netOf q).pk a).src ((netOf q).pk a).dst = false from rfl, if_neg (by decide), Net.pk_at han] at hdv
          obtain ⟨b, off, V, rfl, hbw, q0, q1, q2, hV⟩ := hPk.out.pk (show a < q.length by rw [HQL.out]; exact ha)
          have hqc : ql ≤ cr := by rcases hqc with h | h; cases h; exact h
          obtain ⟨y, hy⟩ : ∃ y, q[a]'(by rw [HQL.out]; exact ha) = y := ⟨_, rfl⟩
          have hy2 : (netOf q).queue[a]'han = y := hy
          rw [hy2] at hdv
          rw [hy] at q0 q1 hV
          obtain ⟨dl, hdl⟩ : ∃ dl, y.data.length = dl := ⟨_, rfl⟩
          obtain ⟨Ad, cd, rfl, _⟩ := hV.form
          rw [hdl] at q2 hV
          have HV := Lib.hid hV
          have Hdl := Lib.hid hdl
          have HD := Lib.hid hdv
          have hwl : Hid (((netOf q).without a).queue.length = ql - 1) := by rw [Hid, without_len han]; show q.length - 1 = _; rw [HQL.out]
          have hwa : Hid (((netOf q).without a).apart.length = 0) := rfl
          have HW : Hid ((q.take a ++ q.drop (a + 1)).all Pk.okB = true) := by
            have h := (okB_parts (without_ok hok a)).2.1
            exact h
          clear hy hy2 hdl hV hdv
          have Q0 := Lib.hid q0
          have Q1 := Lib.hid q1
          have Q2 := Lib.hid q2
          clear q0 q1 q2
          have x0 : wo.cell? ⟨X0a, 0, none⟩ = some (.slice Aq ql cq) := X0.cell 0
          have x1 : wo.cell? ⟨X0a, 1, none⟩ = some (.slice Aa 0 ca) := X0.cell 1
          have xz := X0.lt
          have hrest : Calls Try.prog 18 #[.agg #[.slice Aq ql cq, .slice Aa 0 ca], .int .i64 (a : Int)] wo (RetDel (deliverT (netOf q) a) wo.heap.size wo) := nDeliver_is (netOf q) a hN
          have HC := Lib.hid hrest
          clear hrest
          go_wp2_with fail
          refine HC.out.mono ?_
          clear x0 x1 xz hd1
          rintro e w2 hh
          obtain ⟨Ad2, cd2, Aq6, cq6, Aa6, ca6, rfl, hV2, hM, hb⟩ := RetDel.is hh HD hwl hwa Hdl
          have X0 := X0.later hb
          have hPk := Lib.hid (hPk.out.later hb)
          have HV := hid_bytes HV hb
          have hB := hB.trans (hb.mono hB.size)
          have hbz := Nat.lt_of_lt_of_le hbw hb.size
          have q0 := (hb.cell hbw).trans Q0.out
          have q1 := (hb.cell hbw).trans Q1.out
          have q2 := (hb.cell hbw).trans Q2.out
          clear hb hN hh HC
          go_wp2_with fail
          have hst := ((Below.refl w2.heap.size w2).alloc (Nat.le_refl _) (.cells #[.int .i64 y.src, .int .i64 y.dst, .slice Ad2 dl cd2] 28)).alloc (by simp) (.cells #[.slice Aq6 (ql - 1) cq6, .slice Aa6 0 ca6] 25)
          have P := (Box.newAt (w := w2) (n := w2.heap.size) [.int .i64 y.src, .int .i64 y.dst, .slice Ad2 dl cd2] 28 rfl).alloc (.cells #[.slice Aq6 (ql - 1) cq6, .slice Aa6 0 ca6] 25)
          have X := Box.newAt (w := w2.alloc (.cells #[.int .i64 y.src, .int .i64 y.dst, .slice Ad2 dl cd2] 28)) (n := w2.heap.size + 1) [.slice Aq6 (ql - 1) cq6, .slice Aa6 0 ca6] 25 (by simp)
          have hX0n : X0a ≠ w2.heap.size + 1 := by have := X0.lt; omega
          have q0 := (hst.cell hbz).trans q0
          have q1 := (hst.cell hbz).trans q1
          have q2 := (hst.cell hbz).trans q2
          have hbz := Nat.lt_of_lt_of_le hbz hst.size
          have X0 := X0.later hst
          have hPk := Lib.hid (hPk.out.later hst)
          have HV := hid_bytes HV hst
          have hV2 := hid_bytes hV2 hst
          have hM := hid_later hM hst
          have hB := hB.trans (hst.mono hB.size)
          clear hst
          generalize (w2.alloc (.cells #[.int .i64 y.src, .int .i64 y.dst, .slice Ad2 dl cd2] 28)).alloc (.cells #[.slice Aq6 (ql - 1) cq6, .slice Aa6 0 ca6] 25) = w3 at P X q0 q1 q2 hbz X0 hPk HV hV2 hM hB ⊢
          generalize w2.heap.size + 1 = Xa at X hX0n ⊢
          generalize w2.heap.size = Pa at P ⊢
          have pl0 : ∀ zz : Later w3, zz.w.cell? ⟨Pa, 0, none⟩ = some (.int .i64 y.src) := Later.cell (P.cell 0) P.lt
          have pl1 : ∀ zz : Later w3, zz.w.cell? ⟨Pa, 1, none⟩ = some (.int .i64 y.dst) := Later.cell (P.cell 1) P.lt
          have pl2 : ∀ zz : Later w3, zz.w.cell? ⟨Pa, 2, none⟩ = some (.slice Ad2 dl cd2) := Later.cell (P.cell 2) P.lt
          have ql0 : ∀ zz : Later w3, zz.w.cell? ⟨b, off + a * 3, none⟩ = some (.int .i64 y.src) := Later.cell q0 hbz
          have ql1 : ∀ zz : Later w3, zz.w.cell? ⟨b, off + a * 3 + 1, none⟩ = some (.int .i64 y.dst) := Later.cell q1 hbz
          have ql2 : ∀ zz : Later w3, zz.w.cell? ⟨b, off + a * 3 + 2, none⟩ = some (.slice Ad dl cd) := Later.cell q2 hbz
          have i1 : (0 : Int) ≤ (a : Int) := by omega
          have i2 : (a : Int) < (ql : Int) := by omega
          refine wp_region_later (by kernel_rfl) (by kernel_rfl) ?_
          repeat (go_big_quiet_step ((go_at_call 19; with_reducible exact Later.call _ (nSamePk_z (Lib.hid (samePk_refl y)) hV2 HV _))))
          refine wpQuiet_nil ?_
          intro _ hw'
          obtain ⟨yq, hw''⟩ := hw'
          subst hw''
          clear pl0 pl1 pl2 ql0 ql1 ql2 q0 q1 q2 i1 i2
          obtain ⟨w4, hz4, hb⟩ : ∃ z, yq.w = z ∧ Below w3.heap.size w3 z := ⟨_, rfl, yq.below⟩
          rw [hz4]
          clear hz4
          have X0 := X0.later hb
          have X := X.later hb
          have hPk := Lib.hid (hPk.out.later hb)
          have hM := hid_later hM hb
          have hB := hB.trans (hb.mono hB.size)
          clear hb P HV hV2
          have x0 : w4.cell? ⟨X0a, 0, none⟩ = some (.slice Aq ql cq) := X0.cell 0
          have x1 : w4.cell? ⟨X0a, 1, none⟩ = some (.slice Aa 0 ca) := X0.cell 1
          have f0 : w4.frozen? ⟨X0a, 0, none⟩ = false := X0.free 0
          have f1 : w4.frozen? ⟨X0a, 1, none⟩ = false := X0.free 1
          have xz := X0.lt
          have y0 : w4.cell? ⟨Xa, 0, none⟩ = some (.slice Aq6 (ql - 1) cq6) := X.cell 0
          have y1 : w4.cell? ⟨Xa, 1, none⟩ = some (.slice Aa6 0 ca6) := X.cell 1
          have yz := X.lt
          go_wp2_with fail
          clear x0 x1 f0 f1 xz y0 y1 yz
          have hM := net_set (B1 := Aq6) (l1 := ql - 1) (d1 := cq6) (B2 := Aa6) (l2 := 0) (d2 := ca6) hM X0
          have hPk := pks_set (B1 := Aq6) (l1 := ql - 1) (d1 := cq6) (B2 := Aa6) (l2 := 0) (d2 := ca6) hPk X0
          have hB := (hB.setCell (p := ⟨X0a, 0, none⟩) hX0b (.slice Aq6 (ql - 1) cq6)).setCell (p := ⟨X0a, 1, none⟩) hX0b (.slice Aa6 0 ca6)
          have X0 := (X0.set 0 (.slice Aq6 (ql - 1) cq6)).set 1 (.slice Aa6 0 ca6)
          generalize (w4.setCell ⟨X0a, 0, none⟩ (.slice Aq6 (ql - 1) cq6)).setCell ⟨X0a, 1, none⟩ (.slice Aa6 0 ca6) = w6 at hM hPk hB X0 ⊢
          have j1 : (0 : Int) ≤ (a : Int) := by omega
          have j2 : (a : Int) < (ql : Int) := by omega
          have j3 : (ql : Int) ≤ (cr : Int) := by omega
          have j4 : (a : Int) ≤ (cr : Int) := by omega
          have j5 : (a : Int) + 1 ≤ (ql : Int) := by omega
          have hcm2 : (cr : Int) ≤ 9223372036854775807 := by unfold maxLen at hcm; omega
          have hcm3 : cr ≤ 9223372036854775807 := by unfold maxLen at hcm; omega
          rcases Nat.lt_or_ge (a + 1) cr with hc | hc
          · have j6 : (a : Int) + 1 < (cr : Int) := by omega
            have hB1 : Below w6.heap.size w6 (w6.alloc (.cells #[] 28)).drew := ((Below.refl _ _).alloc (Nat.le_refl _) (.cells #[] 28)).drew
            have hQ0 := hPk.out.below hB1
            have O0 : OwnPk (w6.alloc (.cells #[] 28)).drew w6.heap.size w6.heap.size (.slice (some ⟨w6.heap.size, 0, none⟩) 0 0) [] := ownPk_empty (heap_new w6 _ _) (Nat.le_refl _)
            have S1 : PksIn (w6.alloc (.cells #[] 28)).drew (w6.alloc (.cells #[] 28)).drew.heap.size w6.heap.size (.slice (some ⟨b, off, none⟩) a cr) (q.take a) := (hQ0.head (k := a) (by rw [HQL.out]; omega) (by omega) (by unfold maxLen; omega)).within hB1.size
            obtain ⟨v1, x1, hr1, O1, hb1, _⟩ := run_own_pk 22 O0 S1 (Nat.le_refl _) (by simp) (by simp only [List.length_take, List.length_nil]; omega)
            have R1 : (appF #[22, 22] 22 #[.slice (some ⟨w6.heap.size, 0, none⟩) 0 0, .slice (some ⟨b, off, none⟩) a cr]).run Try.prog (w6.alloc (.cells #[] 28)).drew = .ok v1 x1 := hr1
            rw [List.nil_append] at O1
            have B1 : Below w6.heap.size w6 x1 := hB1.trans hb1
            have hQ1 := hPk.out.below B1
            have S2 : PksIn x1 x1.heap.size w6.heap.size (.slice (some ⟨b, off + (a + 1) * 3, none⟩) (ql - (a + 1)) (cr - (a + 1))) (q.drop (a + 1)) := by
              have h := (hQ1.drop (k := a + 1) (by rw [HQL.out]; omega) (by rw [HQL.out]; omega) (by unfold maxLen; omega)).within B1.size
              rw [HQL.out] at h
              exact h
            obtain ⟨v2, w7, hr2, O2, hb2, _⟩ := run_own_pk 22 O1 S2 (Nat.le_refl _) B1.size (by simp only [List.length_take, List.length_drop, HQL.out]; omega)
            obtain ⟨A', n', c', rfl⟩ := O2.form
            have R2 : (appF #[22, 22] 22 #[v1, .slice (some ⟨b, off + (a + 1) * 3, none⟩) (ql - (a + 1)) (cr - (a + 1))]).run Try.prog x1 = .ok (.slice A' n' c') w7 := hr2
            have B7 : Below w6.heap.size w6 w7 := B1.trans hb2
            have hql7 : (q.take a ++ q.drop (a + 1)).length = ql - 1 := by simp only [List.length_append, List.length_take, List.length_drop, HQL.out]; omega
            have P7 := Lib.hid ((O2.two (by rw [hql7]; unfold maxLen; omega)).at B7.size)
            have hn7 : Hid (n' = ql - 1) := by
              obtain ⟨A8, c8, e8, _⟩ := P7.out.form
              injection e8 with _ e9 _
              rw [Hid, e9, hql7]
            have HQ7 := Lib.hid hql7
            clear hB1 hQ0 O0 S1 hr1 O1 hb1 B1 hQ1 S2 hr2 O2 hb2 hql7
            go_region
            all_goals (try go_wp2)
            all_goals
              have X0 := X0.later B7
              have hM := hid_later hM B7
              have hB := hB.trans (B7.mono hB.size)
              refine ⟨⟨j + 1, q.take a ++ q.drop (a + 1), Aq6, cq6, Aa6, ca6, by go_num, by rw [HQ7.out]; omega, HW.out, P7.out, hB, ?_, ?_⟩, by simp [sliceLen]; have := hn7.out; omega⟩
              · rw [HQ7.out]; exact X0
              · rw [HQ7.out]; exact hM
          · obtain rfl : cr = a + 1 := by omega
            have hB1 : Below w6.heap.size w6 (w6.alloc (.cells #[] 28)).drew := ((Below.refl _ _).alloc (Nat.le_refl _) (.cells #[] 28)).drew
            have hQ0 := hPk.out.below hB1
            have O0 : OwnPk (w6.alloc (.cells #[] 28)).drew w6.heap.size w6.heap.size (.slice (some ⟨w6.heap.size, 0, none⟩) 0 0) [] := ownPk_empty (heap_new w6 _ _) (Nat.le_refl _)
            have S1 : PksIn (w6.alloc (.cells #[] 28)).drew (w6.alloc (.cells #[] 28)).drew.heap.size w6.heap.size (.slice (some ⟨b, off, none⟩) a (a + 1)) (q.take a) := (hQ0.head (k := a) (by rw [HQL.out]; omega) (by omega) (by unfold maxLen; omega)).within hB1.size
            obtain ⟨v1, x1, hr1, O1, hb1, _⟩ := run_own_pk 22 O0 S1 (Nat.le_refl _) (by simp) (by simp only [List.length_take, List.length_nil]; omega)
            have R1 : (appF #[22, 22] 22 #[.slice (some ⟨w6.heap.size, 0, none⟩) 0 0, .slice (some ⟨b, off, none⟩) a (a + 1)]).run Try.prog (w6.alloc (.cells #[] 28)).drew = .ok v1 x1 := hr1
            rw [List.nil_append] at O1
            have B1 : Below w6.heap.size w6 x1 := hB1.trans hb1
            have hQ1 := hPk.out.below B1
            have S2 : PksIn x1 x1.heap.size w6.heap.size (.slice (some ⟨b, off, none⟩) 0 0) (q.drop (a + 1)) := by
              have h := (PksAt.none_left hQ1).within B1.size
              have e1 : q.drop (a + 1) = [] := List.drop_eq_nil_of_le (by rw [HQL.out]; omega)
              rw [e1]
              exact h
            obtain ⟨v2, w7, hr2, O2, hb2, _⟩ := run_own_pk 22 O1 S2 (Nat.le_refl _) B1.size (by simp only [List.length_take, List.length_drop, HQL.out]; omega)
            obtain ⟨A', n', c', rfl⟩ := O2.form
            have R2 : (appF #[22, 22] 22 #[v1, .slice (some ⟨b, off, none⟩) 0 0]).run Try.prog x1 = .ok (.slice A' n' c') w7 := hr2
            have B7 : Below w6.heap.size w6 w7 := B1.trans hb2
            have hql7 : (q.take a ++ q.drop (a + 1)).length = ql - 1 := by simp only [List.length_append, List.length_take, List.length_drop, HQL.out]; omega
            have P7 := Lib.hid ((O2.two (by rw [hql7]; unfold maxLen; omega)).at B7.size)
            have hn7 : Hid (n' = ql - 1) := by
              obtain ⟨A8, c8, e8, _⟩ := P7.out.form
              injection e8 with _ e9 _
              rw [Hid, e9, hql7]
            have HQ7 := Lib.hid hql7
            clear hB1 hQ0 O0 S1 hr1 O1 hb1 B1 hQ1 S2 hr2 O2 hb2 hql7
            go_region
            all_goals (try go_wp2)
            all_goals
              have X0 := X0.later B7
              have hM := hid_later hM B7
              have hB := hB.trans (B7.mono hB.size)
              refine ⟨⟨j + 1, q.take a ++ q.drop (a + 1), Aq6, cq6, Aa6, ca6, by go_num, by rw [HQ7.out]; omega, HW.out, P7.out, hB, ?_, ?_⟩, by simp [sliceLen]; have := hn7.out; omega⟩
              · rw [HQ7.out]; exact X0
              · rw [HQ7.out]; exact hM
        · obtain rfl : ql = 0 := by omega
          have x0 : wo.cell? ⟨X0a, 0, none⟩ = some (.slice Aq 0 cq) := X0.cell 0
          go_wp2
          go_ret
          exact ⟨by first | rfl | simp, hB⟩

set_option maxRecDepth 100000 in
set_option maxHeartbeats 2000000 in
theorem law_All_no (Al : Option Addr) (ll cl : Nat) (V : Value) (w : World) (h12 : 12 < ll) (hm : ll ≤ 9223372036854775807) :
    Calls Try.prog 4 #[.slice Al ll cl, V] w fun e w' => e = .returned (.bool true) ∧ Below w.heap.size w w' := by
  have hB := Below.refl w.heap.size w
  go_enter Try.func4, Try.ntmps4
  go_wp2_with fail
  refine (nSane_any _).mono ?_
  rintro e w1 ⟨rfl, hb⟩
  have hB := hB.trans (hb.mono hB.size)
  clear hb
  go_wp2
  go_ret
  exact ⟨rfl, hB⟩

theorem law_NetworkAll (ls : List Pk) (Vl : Value) (os : List UInt8) (Vo : Value) (w : World) (hL : PksAt w w.heap.size Vl ls) (hO : BytesAt w w.heap.size Vo os) :
    Calls Try.prog 4 #[Vl, Vo] w fun e w' => e = .returned (.bool true) ∧ Below w.heap.size w w' := by
  obtain ⟨Al, cl, rfl, h1⟩ := hL.form
  obtain ⟨Ao, co, rfl, h2⟩ := hO.form
  unfold maxLen at h1 h2
  rcases Nat.lt_or_ge 12 ls.length with h | h
  · exact law_All_no Al _ cl _ w h (by omega)
  · exact law_All_go ls os Al _ cl Ao _ co w hL hO rfl rfl h (by omega)

end Go.Proofs.Ytndjpaiakodciaa
