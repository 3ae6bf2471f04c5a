/-
  NetworkOnlySent. (Printed by gen_ol.py.)
-/
import Derived.Test.YtndjpaiakodciaaOK
import Derived.Deep.DrawnRows
namespace Go.Proofs.Ytndjpaiakodciaa
open Go.RowKit
attribute [local go_sem ↓ high] app_named
attribute [local go_sem ↓] Go.wp_at_zero Go.wp_at_succ

theorem happ_ok {n : Net} {kd ta sa sb dt : Int} {m : Net} {p : Pk} {er : Int} {sent : List Pk} {cuts : Nat} (h : happT n kd ta sa sb dt = (m, p, er)) (hI : Inv n sent cuts) : m.okB = true := by
  by_cases he : er = 0
  · subst he; exact (happ_step h hI).1
  · rw [happ_err h he]; rfl
def metB (sent : List Pk) (p : Pk) : Bool := sent.any fun x => samePk x p
theorem met_take {sent : List Pk} {p : Pk} {j : Nat} (hj : j < sent.length) : metB (sent.take (j + 1)) p = (metB (sent.take j) p || samePk sent[j] p) := by
  unfold metB
  rw [List.take_succ_eq_append_getElem hj, List.any_append]
  simp
theorem met_mem {sent : List Pk} {p : Pk} (h : p ∈ sent) : metB sent p = true := List.any_eq_true.2 ⟨p, h, samePk_refl p⟩

set_option maxRecDepth 100000 in
set_option maxHeartbeats 2000000 in
theorem law_Only_no (Al : Option Addr) (ll cl : Nat) (w : World) (h60 : 60 < ll) (hm : ll ≤ 9223372036854775807) :
    Calls Try.prog 7 #[.slice Al ll cl] w fun e w' => e = .returned (.bool true) ∧ Below w.heap.size w w' := by
  have hB := Below.refl w.heap.size w
  go_enter Try.func7, Try.ntmps7
  go_wp2_with fail
  refine (nSane_any _).mono ?_
  rintro e w1 ⟨rfl, hb⟩
  replace hB := hB.trans (hb.mono hB.size)
  clear hb
  go_wp2
  go_ret
  exact ⟨rfl, hB⟩

set_option maxRecDepth 100000 in
set_option maxHeartbeats 16000000 in
theorem law_Only_go (ls : List Mv) (Al : Option Addr) (ll cl : Nat) (w : World) (hL : Hid (MovesAt w w.heap.size (.slice Al ll cl) ls)) (hll : Hid (ls.length = ll)) (h60 : ll ≤ 60) :
    Calls Try.prog 7 #[.slice Al ll cl] w fun e w' => e = .returned (.bool true) ∧ Below w.heap.size w w' := by
  have hB := Below.refl w.heap.size w
  go_enter Try.func7, Try.ntmps7
  go_wp2_with fail
  refine (nSane_any _).mono ?_
  rintro e w1 ⟨rfl, hb⟩
  replace hB := hB.trans (hb.mono hB.size)
  clear hb
  go_wp2_with fail
  refine (nNew_any _).mono ?_
  rintro e w2 ⟨rfl, hb⟩
  replace hB := hB.trans (hb.mono hB.size)
  clear hb
  go_wp2_with fail
  have X0 := Box.new w2 [.slice none 0 0, .slice none 0 0] 25
  have hX0b : w.heap.size ≤ w2.heap.size := hB.size
  replace hB := hB.alloc hB.size (.cells #[.slice none 0 0, .slice none 0 0] 25)
  have hbase : w2.heap.size + 1 = (w2.alloc (.cells #[.slice none 0 0, .slice none 0 0] 25)).heap.size := by simp
  generalize w2.heap.size = X0a at X0 hX0b hbase ⊢
  generalize w2.alloc (.cells #[.slice none 0 0, .slice none 0 0] 25) = W1 at X0 hB hbase ⊢
  obtain ⟨base, hbs⟩ : ∃ base, X0a + 1 = base := ⟨_, rfl⟩
  rw [hbs] at hbase
  have xb : X0a < base := by omega
  clear hbs
  go_loopw [4, 5, 6] (fun v cu i wr => ∃ (k : Nat) (n : Net) (sent : List Pk) (cuts : Nat) (Aq : Option Addr) (cq : Nat) (Aa : Option Addr) (ca : Nat) (nq na : Nat), k ≤ ll ∧ i = .int .i64 k ∧ cu = .int .i64 cuts ∧ cuts ≤ k ∧ sent.length ≤ k ∧ Hid (Inv n sent cuts) ∧ RestAt wr base v sent ∧ Below w.heap.size w wr ∧ Box wr X0a [.slice Aq nq cq, .slice Aa na ca] ∧ Hid (NetAt wr wr.heap.size (.slice Aq nq cq) (.slice Aa na ca) n) ∧ base ≤ wr.heap.size) (fun _ _ i _ => ll - (intOf i).toNat)
  case atStart => exact ⟨0, Net.zero, [], 0, none, 0, none, 0, 0, 0, by omega, rfl, rfl, by omega, by simp, ⟨rfl, (fun p hp => by cases hp), fun _ => rfl⟩, .inl ⟨rfl, rfl⟩, hB, X0, netAt_zero _ _, by omega⟩
  case round =>
    clear hB X0 hbase
    obtain ⟨k, n, sent, cuts, Aq, cq, Aa, ca, nq, na, hk, rfl, rfl, hck, hsk, hI, hR, hB, X0, hN, hle⟩ := hrel
    obtain ⟨wo, rfl⟩ : ∃ wo : World, wo = wr := ⟨_, rfl⟩
    obtain ⟨Ar, cr, rfl, _⟩ := hR.pks.form
    obtain ⟨sl, hsl⟩ : ∃ sl, sent.length = sl := ⟨_, rfl⟩
    rw [hsl] at hsk hR ⊢
    have HSL := Lib.hid hsl
    clear hsl
    by_cases hlt : k < ll
    · have hkl : k < ls.length := by rw [hll.out]; exact hlt
      obtain ⟨b, off, rfl, hbw, q0, q1, q2, q3, q4⟩ := hL.out.elem hkl
      have hmv := hL.out.2 _ (List.getElem_mem hkl)
      have hbz : b < wo.heap.size := Nat.lt_of_lt_of_le hbw hB.size
      replace q0 := (hB.cell hbw).trans q0
      replace q1 := (hB.cell hbw).trans q1
      replace q2 := (hB.cell hbw).trans q2
      replace q3 := (hB.cell hbw).trans q3
      replace q4 := (hB.cell hbw).trans q4
      obtain ⟨⟨kd, ta, sa, sb, dt⟩, hp⟩ : ∃ p, ls[k] = p := ⟨_, rfl⟩
      rw [hp] at q0 q1 q2 q3 q4 hmv
      clear hp
      obtain ⟨hk1, hk2, hk3, hk4, hk5⟩ := hmv
      dsimp only at q0 q1 q2 q3 q4 hk1 hk2 hk3 hk4 hk5
      obtain ⟨m, p, er, hs⟩ : ∃ m p er, happT n kd ta sa sb dt = (m, p, er) := ⟨_, _, _, rfl⟩
      have hokm := Lib.hid (happ_ok hs hI.out)
      obtain ⟨mq, hmq⟩ : ∃ k, m.queue.length = k := ⟨_, rfl⟩
      obtain ⟨ma, hma⟩ : ∃ k, m.apart.length = k := ⟨_, rfl⟩
      obtain ⟨pl, hpl⟩ : ∃ k, p.data.length = k := ⟨_, rfl⟩
      replace hs := Lib.hid hs
      replace hmq := Lib.hid hmq
      replace hma := Lib.hid hma
      replace hpl := Lib.hid hpl
      have HK := Lib.hid (And.intro hk1 (And.intro hk2 (And.intro hk3 (And.intro hk4 hk5))))
      clear hk1 hk2 hk3 hk4 hk5
      have j1 : (0 : Int) ≤ (k : Int) := by omega
      have j2 : (k : Int) < (ll : Int) := by omega
      have x0 : wo.cell? ⟨X0a, 0, none⟩ = some (.slice Aq nq cq) := X0.cell 0
      have x1 : wo.cell? ⟨X0a, 1, none⟩ = some (.slice Aa na ca) := X0.cell 1
      have xz := X0.lt
      have hLe : Hid (∀ E, Below wo.heap.size wo E → Calls Try.prog 27 #[.agg #[.slice Aq nq cq, .slice Aa na ca], .agg #[.int .u8 kd, .int .u8 ta, .int .u8 sa, .int .u8 sb, .int .u8 dt]] E (RetHap (happT n kd ta sa sb dt) E)) := fun E h => nHappens_any n kd ta sa sb dt _ _ E (hid_later hN h) HK.out.1 HK.out.2.1 HK.out.2.2.1 HK.out.2.2.2.1 HK.out.2.2.2.2
      have hE1 : Below wo.heap.size wo wo.drew := (Below.refl _ _).drew
      have hE2 : Below wo.heap.size wo (wo.alloc (.cells #[.slice none 0 0, .slice none 0 0] 25)).drew := ((Below.refl _ _).alloc (Nat.le_refl _) _).drew
      have hE3 : Below wo.heap.size wo (wo.alloc (.cells #[.int .i64 0, .int .i64 0, .slice none 0 0] 28)).drew := ((Below.refl _ _).alloc (Nat.le_refl _) _).drew
      have hE4 : Below wo.heap.size wo ((wo.alloc (.cells #[.slice none 0 0, .slice none 0 0] 25)).alloc (.cells #[.int .i64 0, .int .i64 0, .slice none 0 0] 28)).drew := (((Below.refl _ _).alloc (Nat.le_refl _) _).alloc (by simp) _).drew
      have hE5 : Below wo.heap.size wo ((wo.alloc (.cells #[.int .i64 0, .int .i64 0, .slice none 0 0] 28)).alloc (.cells #[.slice none 0 0, .slice none 0 0] 25)).drew := (((Below.refl _ _).alloc (Nat.le_refl _) _).alloc (by simp) _).drew
      have b2x : Box (wo.alloc (.cells #[.slice none 0 0, .slice none 0 0] 25)).drew wo.heap.size [.slice none 0 0, .slice none 0 0] := (Box.new wo [.slice none 0 0, .slice none 0 0] 25).drew
      have b3p : Box (wo.alloc (.cells #[.int .i64 0, .int .i64 0, .slice none 0 0] 28)).drew wo.heap.size [.int .i64 0, .int .i64 0, .slice none 0 0] := (Box.new wo [.int .i64 0, .int .i64 0, .slice none 0 0] 28).drew
      have b4x : Box ((wo.alloc (.cells #[.slice none 0 0, .slice none 0 0] 25)).alloc (.cells #[.int .i64 0, .int .i64 0, .slice none 0 0] 28)).drew wo.heap.size [.slice none 0 0, .slice none 0 0] := ((Box.new wo [.slice none 0 0, .slice none 0 0] 25).alloc _).drew
      have b4p : Box ((wo.alloc (.cells #[.slice none 0 0, .slice none 0 0] 25)).alloc (.cells #[.int .i64 0, .int .i64 0, .slice none 0 0] 28)).drew (wo.heap.size + 1) [.int .i64 0, .int .i64 0, .slice none 0 0] := (Box.newAt (w := wo.alloc (.cells #[.slice none 0 0, .slice none 0 0] 25)) (n := wo.heap.size + 1) [.int .i64 0, .int .i64 0, .slice none 0 0] 28 (by simp)).drew
      have b5p : Box ((wo.alloc (.cells #[.int .i64 0, .int .i64 0, .slice none 0 0] 28)).alloc (.cells #[.slice none 0 0, .slice none 0 0] 25)).drew wo.heap.size [.int .i64 0, .int .i64 0, .slice none 0 0] := ((Box.new wo [.int .i64 0, .int .i64 0, .slice none 0 0] 28).alloc _).drew
      have b5x : Box ((wo.alloc (.cells #[.int .i64 0, .int .i64 0, .slice none 0 0] 28)).alloc (.cells #[.slice none 0 0, .slice none 0 0] 25)).drew (wo.heap.size + 1) [.slice none 0 0, .slice none 0 0] := (Box.newAt (w := wo.alloc (.cells #[.int .i64 0, .int .i64 0, .slice none 0 0] 28)) (n := wo.heap.size + 1) [.slice none 0 0, .slice none 0 0] 25 (by simp)).drew
      have nX1 : X0a ≠ wo.heap.size := by omega
      have nX2 : X0a ≠ wo.heap.size + 1 := by omega
      have nb1 : b ≠ wo.heap.size := by omega
      have nb2 : b ≠ wo.heap.size + 1 := by omega
      have hS : Hid (∀ E, Below wo.heap.size wo E → E.cell? ⟨X0a, 0, none⟩ = some (.slice Aq nq cq) ∧ E.cell? ⟨X0a, 1, none⟩ = some (.slice Aa na ca) ∧ E.cell? ⟨b, off + k * 5, none⟩ = some (.int .u8 kd) ∧ E.cell? ⟨b, off + k * 5 + 1, none⟩ = some (.int .u8 ta) ∧ E.cell? ⟨b, off + k * 5 + 2, none⟩ = some (.int .u8 sa) ∧ E.cell? ⟨b, off + k * 5 + 3, none⟩ = some (.int .u8 sb) ∧ E.cell? ⟨b, off + k * 5 + 4, none⟩ = some (.int .u8 dt)) := fun E h => ⟨(h.cell xz).trans x0, (h.cell xz).trans x1, (h.cell hbz).trans q0, (h.cell hbz).trans q1, (h.cell hbz).trans q2, (h.cell hbz).trans q3, (h.cell hbz).trans q4⟩
      go_wp2_with fail
      go_cut [7, 8, 9] (fun s7 s8 s9 wx => s9 = .int .i64 er ∧ ∃ (Xa Pa : Nat), s7 = .pointer (some ⟨Xa, 0, none⟩) ∧ s8 = .pointer (some ⟨Pa, 0, none⟩) ∧ After wo wx Xa Pa m p mq ma pl)
      case first =>
        rename_i iQ1 ih iK2 ia4 ir iQ0 iK1 ia3 iK0 ia2 iJ iK' ia1 ia0
        clear ia4 ih ir ia3 ia2 hL hll hI HSL HK hR hB X0 hN hk hck hsk
        go_region_held3 (fun w' => w'.cell? ⟨X0a, 0, none⟩ = some (.slice Aq nq cq) ∧ w'.cell? ⟨X0a, 1, none⟩ = some (.slice Aa na ca) ∧ w'.cell? ⟨b, off + k * 5, none⟩ = some (.int .u8 kd) ∧ w'.cell? ⟨b, off + k * 5 + 1, none⟩ = some (.int .u8 ta) ∧ w'.cell? ⟨b, off + k * 5 + 2, none⟩ = some (.int .u8 sa) ∧ w'.cell? ⟨b, off + k * 5 + 3, none⟩ = some (.int .u8 sb) ∧ w'.cell? ⟨b, off + k * 5 + 4, none⟩ = some (.int .u8 dt)) ((refine hS.out _ ?_; repeat (first | ((with_reducible refine Below.setCell ?_ ?_ _); rotate_left; first | exact Nat.le_refl _ | exact Nat.le_succ _ | exact uS | exact Nat.le_succ_of_le uS) | ((with_reducible refine Below.alloc ?_ ?_ _); rotate_left; first | exact Nat.le_refl _ | exact uS | (simp; done) | (simp; omega)) | with_reducible assumption | with_reducible exact Below.refl _ _ | with_reducible refine Below.drew ?_))) ((go_at_call 27; refine Calls.mono (hLe.out _ (by first | exact hE1 | exact hE2 | exact hE3 | exact hE4 | exact hE5)) ?_; rintro e w13 hh; obtain ⟨Ad6, cd6, Aq6, cq6, Aa6, ca6, rfl, hV6, hN6, hb⟩ := RetHap.is hh hs hmq hma hpl; have hBq : Below wo.heap.size wo w13 := (by first | exact hE1.trans (hb.mono hE1.size) | exact hE2.trans (hb.mono hE2.size) | exact hE3.trans (hb.mono hE3.size) | exact hE4.trans (hb.mono hE4.size) | exact hE5.trans (hb.mono hE5.size)); obtain ⟨s0, s1, s2, s3, s4, s5, s6⟩ := hS.out _ hBq; have u0 := Nat.lt_of_lt_of_le xz hBq.size; have u1 := Nat.lt_of_lt_of_le hbz hBq.size; have uS := hBq.size; first | (have hBx := b4x.later hb; have hBp := b4p.later hb; have xc0 : w13.cell? ⟨wo.heap.size, 0, none⟩ = some (.slice none 0 0) := hBx.cell 0; have xc1 : w13.cell? ⟨wo.heap.size, 1, none⟩ = some (.slice none 0 0) := hBx.cell 1; have xf0 := hBx.free 0; have xf1 := hBx.free 1; have xzz := hBx.lt; have pc0 : w13.cell? ⟨wo.heap.size + 1, 0, none⟩ = some (.int .i64 0) := hBp.cell 0; have pc1 : w13.cell? ⟨wo.heap.size + 1, 1, none⟩ = some (.int .i64 0) := hBp.cell 1; have pc2 : w13.cell? ⟨wo.heap.size + 1, 2, none⟩ = some (.slice none 0 0) := hBp.cell 2; have pf0 := hBp.free 0; have pf1 := hBp.free 1; have pf2 := hBp.free 2; have pzz := hBp.lt) | (have hBp := b5p.later hb; have hBx := b5x.later hb; have xc0 : w13.cell? ⟨wo.heap.size + 1, 0, none⟩ = some (.slice none 0 0) := hBx.cell 0; have xc1 : w13.cell? ⟨wo.heap.size + 1, 1, none⟩ = some (.slice none 0 0) := hBx.cell 1; have xf0 := hBx.free 0; have xf1 := hBx.free 1; have xzz := hBx.lt; have pc0 : w13.cell? ⟨wo.heap.size, 0, none⟩ = some (.int .i64 0) := hBp.cell 0; have pc1 : w13.cell? ⟨wo.heap.size, 1, none⟩ = some (.int .i64 0) := hBp.cell 1; have pc2 : w13.cell? ⟨wo.heap.size, 2, none⟩ = some (.slice none 0 0) := hBp.cell 2; have pf0 := hBp.free 0; have pf1 := hBp.free 1; have pf2 := hBp.free 2; have pzz := hBp.lt) | (have hBx := b2x.later hb; have xc0 : w13.cell? ⟨wo.heap.size, 0, none⟩ = some (.slice none 0 0) := hBx.cell 0; have xc1 : w13.cell? ⟨wo.heap.size, 1, none⟩ = some (.slice none 0 0) := hBx.cell 1; have xf0 := hBx.free 0; have xf1 := hBx.free 1; have xzz := hBx.lt) | (have hBp := b3p.later hb; have pc0 : w13.cell? ⟨wo.heap.size, 0, none⟩ = some (.int .i64 0) := hBp.cell 0; have pc1 : w13.cell? ⟨wo.heap.size, 1, none⟩ = some (.int .i64 0) := hBp.cell 1; have pc2 : w13.cell? ⟨wo.heap.size, 2, none⟩ = some (.slice none 0 0) := hBp.cell 2; have pf0 := hBp.free 0; have pf1 := hBp.free 1; have pf2 := hBp.free 2; have pzz := hBp.lt) | skip))
        all_goals
          have hB13 : Below wo.heap.size wo w13 := by first | exact hE1.trans (hb.mono hE1.size) | exact hE2.trans (hb.mono hE2.size) | exact hE3.trans (hb.mono hE3.size) | exact hE4.trans (hb.mono hE4.size) | exact hE5.trans (hb.mono hE5.size)
          go_wp2_with fail
          go_meet
          case rel =>
            refine ⟨rfl, _, _, rfl, rfl, ?_⟩
            first
              | exact after_xp hokm.out hB13 hN6 hV6 hBx (by simp) hBp (by simp) (by simp)
              | exact after_x hB13 hN6 hV6 hBx (Nat.le_refl _)
              | exact after_p hokm.out hB13 hN6 hV6 hBp (Nat.le_refl _)
              | exact after_new hB13 hN6 hV6
              | exact after_new' hB13 hN6 hV6
      case rest =>
        obtain ⟨rfl, Xa, Pa, rfl, rfl, A1, c1, A2, c2, A3, c3, hst, X7, P8, hM, hV8, hXa, hPa, hXP⟩ := hcut
        replace X0 := X0.later hst
        replace hR := hR.later hst
        replace hN := hid_later hN hst
        replace hB := hB.trans (hst.mono hB.size)
        replace hle := Nat.le_trans hle hst.size
        replace q0 := (hst.cell hbz).trans q0
        replace hbz := Nat.lt_of_lt_of_le hbz hst.size
        clear hLe hE1 hE2 hE3 hE4 hE5 b2x b3p b4x b4p b5p b5x hst x0 x1 xz q1 q2 q3 q4 hS nX1 nX2 nb1 nb2
        by_cases he : er = 0
        · subst he
          have hstep := happ_step hs.out hI.out
          have hk1 := HK.out.1.1
          have hk2 := HK.out.1.2
          rcases (show kd % 6 = 0 ∨ kd % 6 = 1 ∨ kd % 6 = 4 ∨ (kd % 6 ≠ 0 ∧ kd % 6 ≠ 1 ∧ kd % 6 ≠ 4) by omega) with hr | hr | hr | hr
          · obtain ⟨p0, hm0, hI2⟩ := hstep.2.1 hr
            replace hI2 := Lib.hid hI2
            obtain ⟨j, hj⟩ : ∃ j, mq = j + 1 := ⟨n.queue.length, by rw [← hmq.out, hm0, List.length_append]; rfl⟩
            subst hj
            have hjl : j < m.queue.length := by rw [hmq.out]; omega
            have hlast : m.queue[j] = p0 := by
              have h1 : m.queue[j]? = some p0 := by
                have h2 : n.queue.length = j := by have := hmq.out; rw [hm0, List.length_append] at this; simpa using this
                rw [hm0, List.getElem?_append_right (by omega), h2, Nat.sub_self]; rfl
              rw [List.getElem?_eq_getElem hjl] at h1
              injection h1
            obtain ⟨b9, off9, V9, rfl, hb9, r0, r1, r2, hV9⟩ := hM.out.queue.pk hjl
            rw [hlast] at r0 r1 hV9
            obtain ⟨A9, c9, rfl, _⟩ := hV9.form
            obtain ⟨d9, hd9⟩ : ∃ d, p0.data.length = d := ⟨_, rfl⟩
            rw [hd9] at r2 hV9
            clear hm0 hjl hlast hd9 hstep
            have y0 : wc.cell? ⟨Xa, 0, none⟩ = some (.slice (some ⟨b9, off9, none⟩) (j + 1) c1) := X7.cell 0
            have yz := X7.lt
            have i1 : (0 : Int) ≤ (j : Int) := by omega
            have i2 : (j : Int) + 1 ≤ 4096 := by have := (okB_parts hokm.out).1; rw [hmq.out] at this; omega
            have hst2 := (Below.refl wc.heap.size wc).alloc (Nat.le_refl _) (.cells #[.int .i64 p0.src, .int .i64 p0.dst, .slice A9 d9 c9] 28)
            have hV3 := (hV9.later hst2)
            obtain ⟨A', n', c', w', hrun, hR4, hK⟩ := run_rest 22 (hR.later hst2) (Box.new wc [.int .i64 p0.src, .int .i64 p0.dst, .slice A9 d9 c9] 28) hV3 (Nat.le_trans hle hst2.size) (by rw [HSL.out]; omega)
            have happ : (appF #[22, 22] 22 #[.slice Ar sl cr, .slice (some ⟨wc.heap.size, 0, none⟩) 1 1]).run Try.prog (wc.alloc (.cells #[.int .i64 p0.src, .int .i64 p0.dst, .slice A9 d9 c9] 28)) = .ok (.slice A' n' c') w' := hrun
            replace X0 := Box.keep (X0.later hst2) xb hK.below
            replace X7 := hK.boxn (X7.later hst2)
            replace hM := Lib.hid (hK.net hokm.out (hM.out.later hst2))
            replace hB := (hB.trans (hst2.mono hB.size)).trans (hK.below.mono (by omega))
            replace hle := Nat.le_trans (Nat.le_trans hle hst2.size) hK.below.size
            have HR4 := Lib.hid hR4
            clear hrun hR4 hK hV3 hst2 hV9 hR hN
            go_upto_region 30 with (fail)
            clear happ y0 yz i1 i2 r0 r1 r2 q0
            have x0 : w'.cell? ⟨X0a, 0, none⟩ = some (.slice Aq nq cq) := X0.cell 0
            have x1 : w'.cell? ⟨X0a, 1, none⟩ = some (.slice Aa na ca) := X0.cell 1
            have f0 : w'.frozen? ⟨X0a, 0, none⟩ = false := X0.free 0
            have f1 : w'.frozen? ⟨X0a, 1, none⟩ = false := X0.free 1
            have xz := X0.lt
            have y0 : w'.cell? ⟨Xa, 0, none⟩ = some (.slice (some ⟨b9, off9, none⟩) (j + 1) c1) := X7.cell 0
            have y1 : w'.cell? ⟨Xa, 1, none⟩ = some (.slice A2 ma c2) := X7.cell 1
            have yz := X7.lt
            go_wp2_with fail
            clear x0 x1 f0 f1 xz y0 y1 yz
            replace hM := net_set (B1 := (some ⟨b9, off9, none⟩)) (l1 := (j + 1)) (d1 := c1) (B2 := A2) (l2 := ma) (d2 := c2) hM X0
            have hR := (HR4.out.set X0 xb 0 (.slice (some ⟨b9, off9, none⟩) (j + 1) c1)).set (X0.set 0 (.slice (some ⟨b9, off9, none⟩) (j + 1) c1)) xb 1 (.slice A2 ma c2)
            replace hB := (hB.setCell (p := ⟨X0a, 0, none⟩) hX0b (.slice (some ⟨b9, off9, none⟩) (j + 1) c1)).setCell (p := ⟨X0a, 1, none⟩) hX0b (.slice A2 ma c2)
            replace X0 := (X0.set 0 (.slice (some ⟨b9, off9, none⟩) (j + 1) c1)).set 1 (.slice A2 ma c2)
            have hle2 : base ≤ ((w'.setCell ⟨X0a, 0, none⟩ (.slice (some ⟨b9, off9, none⟩) (j + 1) c1)).setCell ⟨X0a, 1, none⟩ (.slice A2 ma c2)).heap.size := by simpa using hle
            generalize (w'.setCell ⟨X0a, 0, none⟩ (.slice (some ⟨b9, off9, none⟩) (j + 1) c1)).setCell ⟨X0a, 1, none⟩ (.slice A2 ma c2) = w8 at hM hR hB X0 hle2 ⊢
            refine (nCheck_at (Lib.hid (okB_check.1 hokm.out)) hM.out).mono ?_
            rintro e w9 ⟨rfl, hb⟩
            replace hM := hid_later hM hb
            replace hR := hR.later hb
            replace X0 := X0.later hb
            replace hB := hB.trans (hb.mono hB.size)
            replace hle2 := Nat.le_trans hle2 hb.size
            clear hb
            go_wp2
            refine ⟨⟨k + 1, m, sent ++ [p0], cuts, (some ⟨b9, off9, none⟩), c1, A2, c2, (j + 1), ma, by omega, by go_num, rfl, by omega, by rw [List.length_append, HSL.out]; simp; omega, hI2, hR, hB, X0, hM, hle2⟩, by simp [intOf]; omega⟩
          · have hmet := Lib.hid (hstep.2.2.1 hr)
            have hI2 := Lib.hid (hstep.2.2.2.2 (by omega) (by omega))
            clear hstep
            obtain ⟨s0, hs0⟩ : ∃ s0, samePk p Pk.zero = s0 := ⟨_, rfl⟩
            replace hs0 := Lib.hid hs0
            obtain ⟨cz, hcz⟩ : ∃ cz, decide ((0 : Int) < (cuts : Int)) = cz := ⟨_, rfl⟩
            have HCZ := Lib.hid hcz
            have z0 : wc.cell? ⟨Pa, 0, none⟩ = some (.int .i64 p.src) := P8.cell 0
            have z1 : wc.cell? ⟨Pa, 1, none⟩ = some (.int .i64 p.dst) := P8.cell 1
            have z2 : wc.cell? ⟨Pa, 2, none⟩ = some (.slice A3 pl c3) := P8.cell 2
            have zz := P8.lt
            clear hN
            go_wp2_with fail
            refine (nSamePk_at (p := p) (q := Pk.zero) hs0 hV8.out (bytesAt_nil _ _)).mono ?_
            rintro e w5 ⟨rfl, hb⟩
            clear z0 z1 z2 zz q0
            replace X0 := X0.later hb
            replace X7 := X7.later hb
            replace P8 := P8.later hb
            replace hR := hR.later hb
            replace hM := hid_later hM hb
            replace hV8 := hid_bytes hV8 hb
            replace hB := hB.trans (hb.mono hB.size)
            replace hle := Nat.le_trans hle hb.size
            clear hb
            rcases s0 with _ | _
            · go_wp2_with fail
              go_loopw [10, 11] (fun met i wr => ∃ (j : Nat) (mb : Bool), j ≤ sl ∧ i = .int .i64 j ∧ met = .bool mb ∧ Hid (mb = (false || metB (sent.take j) p)) ∧ Below w.heap.size w wr ∧ Box wr X0a [.slice Aq nq cq, .slice Aa na ca] ∧ Box wr Xa [.slice A1 mq c1, .slice A2 ma c2] ∧ Box wr Pa [.int .i64 p.src, .int .i64 p.dst, .slice A3 pl c3] ∧ RestAt wr base (.slice Ar sl cr) sent ∧ Hid (NetAt wr wr.heap.size (.slice A1 mq c1) (.slice A2 ma c2) m) ∧ Hid (BytesAt wr wr.heap.size (.slice A3 pl c3) p.data) ∧ base ≤ wr.heap.size) (fun _ i _ => sl - (intOf i).toNat)
              case atStart => exact ⟨0, _, by omega, rfl, rfl, by simp [Hid, metB], hB, X0, X7, P8, hR, hM, hV8, hle⟩
              case round =>
                clear hB X0 X7 P8 hR hM hV8 hle
                obtain ⟨j, mb, hj, rfl, rfl, hmb, hB, X0, X7, P8, hR, hM, hV8, hle⟩ := hrel
                obtain ⟨w0, rfl⟩ : ∃ w0 : World, w0 = wr := ⟨_, rfl⟩
                by_cases hlj : j < sl
                · have hjs : j < sent.length := by rw [HSL.out]; exact hlj
                  obtain ⟨b9, off9, V9, rfl, hb9, r0, r1, r2, hV9⟩ := hR.pks.pk hjs
                  have htk := met_take (p := p) hjs
                  obtain ⟨y, hy⟩ : ∃ y, sent[j] = y := ⟨_, rfl⟩
                  rw [hy] at r0 r1 hV9 htk
                  obtain ⟨A9, c9, rfl, _⟩ := hV9.form
                  obtain ⟨d9, hd9⟩ : ∃ d, y.data.length = d := ⟨_, rfl⟩
                  rw [hd9] at r2 hV9
                  have HV9 := Lib.hid hV9
                  have HTK := Lib.hid htk
                  clear hy hd9 hV9 htk
                  obtain ⟨t, ht⟩ : ∃ t, samePk y p = t := ⟨_, rfl⟩
                  rw [ht] at HTK
                  have HT := Lib.hid ht
                  clear ht
                  have i1 : (0 : Int) ≤ (j : Int) := by omega
                  have i2 : (j : Int) < (sl : Int) := by omega
                  have pl0 : ∀ zz : Later w0, zz.w.cell? ⟨Pa, 0, none⟩ = some (.int .i64 p.src) := Later.cell (P8.cell 0) P8.lt
                  have pl1 : ∀ zz : Later w0, zz.w.cell? ⟨Pa, 1, none⟩ = some (.int .i64 p.dst) := Later.cell (P8.cell 1) P8.lt
                  have pl2 : ∀ zz : Later w0, zz.w.cell? ⟨Pa, 2, none⟩ = some (.slice A3 pl c3) := Later.cell (P8.cell 2) P8.lt
                  have ql0 : ∀ zz : Later w0, zz.w.cell? ⟨b9, off9 + j * 3, none⟩ = some (.int .i64 y.src) := Later.cell r0 hb9
                  have ql1 : ∀ zz : Later w0, zz.w.cell? ⟨b9, off9 + j * 3 + 1, none⟩ = some (.int .i64 y.dst) := Later.cell r1 hb9
                  have ql2 : ∀ zz : Later w0, zz.w.cell? ⟨b9, off9 + j * 3 + 2, none⟩ = some (.slice A9 d9 c9) := Later.cell r2 hb9
                  clear r0 r1 r2
                  rcases mb with _ | _
                  all_goals
                    go_wp2_with fail
                    refine wp_region_later (by kernel_rfl) (by kernel_rfl) ?_
                    repeat (go_big_quiet_step ((go_at_call 19; with_reducible exact Later.call _ (nSamePk_z HT HV9 hV8 _))))
                    refine wpQuiet_nil ?_
                    intro _ hw'
                    obtain ⟨yq, hw''⟩ := hw'
                    subst hw''
                    clear pl0 pl1 pl2 ql0 ql1 ql2 i1 i2
                    obtain ⟨w4, hz4, hb⟩ : ∃ z, yq.w = z ∧ Below w0.heap.size w0 z := ⟨_, rfl, yq.below⟩
                    rw [hz4]
                    clear hz4
                    replace X0 := X0.later hb
                    replace X7 := X7.later hb
                    replace P8 := P8.later hb
                    replace hR := hR.later hb
                    replace hM := hid_later hM hb
                    replace hV8 := hid_bytes hV8 hb
                    replace hB := hB.trans (hb.mono hB.size)
                    replace hle := Nat.le_trans hle hb.size
                    clear hb
                    go_wp2
                    refine ⟨⟨j + 1, _, by omega, by go_num, rfl, by rw [Hid, HTK.out, ← Bool.or_assoc, ← hmb.out]; rfl, hB, X0, X7, P8, hR, hM, hV8, hle⟩, by simp [intOf]; omega⟩
                · obtain rfl : j = sl := by omega
                  have hfin : mb = true := by
                    rw [hmb.out, ← HSL.out, List.take_length]
                    rcases hmet.out with ⟨h1, h2⟩ | h1
                    · have := hs0.out; rw [h1] at this; exact absurd this (by rw [samePk_refl]; decide)
                    · rw [met_mem h1]; simp
                  subst hfin
                  go_upto_region 30 with (fail)
                  have x0 : w0.cell? ⟨X0a, 0, none⟩ = some (.slice Aq nq cq) := X0.cell 0
                  have x1 : w0.cell? ⟨X0a, 1, none⟩ = some (.slice Aa na ca) := X0.cell 1
                  have f0 : w0.frozen? ⟨X0a, 0, none⟩ = false := X0.free 0
                  have f1 : w0.frozen? ⟨X0a, 1, none⟩ = false := X0.free 1
                  have xz := X0.lt
                  have y0 : w0.cell? ⟨Xa, 0, none⟩ = some (.slice A1 mq c1) := X7.cell 0
                  have y1 : w0.cell? ⟨Xa, 1, none⟩ = some (.slice A2 ma c2) := X7.cell 1
                  have yz := X7.lt
                  go_wp2_with fail
                  clear x0 x1 f0 f1 xz y0 y1 yz
                  replace hM := net_set (B1 := A1) (l1 := mq) (d1 := c1) (B2 := A2) (l2 := ma) (d2 := c2) hM X0
                  replace hR := (hR.set X0 xb 0 (.slice A1 mq c1)).set (X0.set 0 (.slice A1 mq c1)) xb 1 (.slice A2 ma c2)
                  replace hB := (hB.setCell (p := ⟨X0a, 0, none⟩) hX0b (.slice A1 mq c1)).setCell (p := ⟨X0a, 1, none⟩) hX0b (.slice A2 ma c2)
                  replace X0 := (X0.set 0 (.slice A1 mq c1)).set 1 (.slice A2 ma c2)
                  have hle2 : base ≤ ((w0.setCell ⟨X0a, 0, none⟩ (.slice A1 mq c1)).setCell ⟨X0a, 1, none⟩ (.slice A2 ma c2)).heap.size := by simpa using hle
                  generalize (w0.setCell ⟨X0a, 0, none⟩ (.slice A1 mq c1)).setCell ⟨X0a, 1, none⟩ (.slice A2 ma c2) = w8 at hM hR hB X0 hle2 ⊢
                  refine (nCheck_at (Lib.hid (okB_check.1 hokm.out)) hM.out).mono ?_
                  rintro e w9 ⟨rfl, hb⟩
                  replace hM := hid_later hM hb
                  replace hR := hR.later hb
                  replace X0 := X0.later hb
                  replace hB := hB.trans (hb.mono hB.size)
                  replace hle2 := Nat.le_trans hle2 hb.size
                  clear hb
                  go_wp2
                  refine ⟨⟨k + 1, m, sent, cuts, A1, c1, A2, c2, mq, ma, by omega, by go_num, rfl, by omega, by rw [HSL.out]; omega, hI2, hR, hB, X0, hM, hle2⟩, by simp [intOf]; omega⟩
            · go_wp2_with fail
              go_loopw [10, 11] (fun met i wr => ∃ (j : Nat) (mb : Bool), j ≤ sl ∧ i = .int .i64 j ∧ met = .bool mb ∧ Hid (mb = (cz || metB (sent.take j) p)) ∧ Below w.heap.size w wr ∧ Box wr X0a [.slice Aq nq cq, .slice Aa na ca] ∧ Box wr Xa [.slice A1 mq c1, .slice A2 ma c2] ∧ Box wr Pa [.int .i64 p.src, .int .i64 p.dst, .slice A3 pl c3] ∧ RestAt wr base (.slice Ar sl cr) sent ∧ Hid (NetAt wr wr.heap.size (.slice A1 mq c1) (.slice A2 ma c2) m) ∧ Hid (BytesAt wr wr.heap.size (.slice A3 pl c3) p.data) ∧ base ≤ wr.heap.size) (fun _ i _ => sl - (intOf i).toNat)
              case atStart => exact ⟨0, _, by omega, rfl, rfl, by rw [Hid, ← HCZ.out]; simp [metB], hB, X0, X7, P8, hR, hM, hV8, hle⟩
              case round =>
                clear hB X0 X7 P8 hR hM hV8 hle
                obtain ⟨j, mb, hj, rfl, rfl, hmb, hB, X0, X7, P8, hR, hM, hV8, hle⟩ := hrel
                obtain ⟨w0, rfl⟩ : ∃ w0 : World, w0 = wr := ⟨_, rfl⟩
                by_cases hlj : j < sl
                · have hjs : j < sent.length := by rw [HSL.out]; exact hlj
                  obtain ⟨b9, off9, V9, rfl, hb9, r0, r1, r2, hV9⟩ := hR.pks.pk hjs
                  have htk := met_take (p := p) hjs
                  obtain ⟨y, hy⟩ : ∃ y, sent[j] = y := ⟨_, rfl⟩
                  rw [hy] at r0 r1 hV9 htk
                  obtain ⟨A9, c9, rfl, _⟩ := hV9.form
                  obtain ⟨d9, hd9⟩ : ∃ d, y.data.length = d := ⟨_, rfl⟩
                  rw [hd9] at r2 hV9
                  have HV9 := Lib.hid hV9
                  have HTK := Lib.hid htk
                  clear hy hd9 hV9 htk
                  obtain ⟨t, ht⟩ : ∃ t, samePk y p = t := ⟨_, rfl⟩
                  rw [ht] at HTK
                  have HT := Lib.hid ht
                  clear ht
                  have i1 : (0 : Int) ≤ (j : Int) := by omega
                  have i2 : (j : Int) < (sl : Int) := by omega
                  have pl0 : ∀ zz : Later w0, zz.w.cell? ⟨Pa, 0, none⟩ = some (.int .i64 p.src) := Later.cell (P8.cell 0) P8.lt
                  have pl1 : ∀ zz : Later w0, zz.w.cell? ⟨Pa, 1, none⟩ = some (.int .i64 p.dst) := Later.cell (P8.cell 1) P8.lt
                  have pl2 : ∀ zz : Later w0, zz.w.cell? ⟨Pa, 2, none⟩ = some (.slice A3 pl c3) := Later.cell (P8.cell 2) P8.lt
                  have ql0 : ∀ zz : Later w0, zz.w.cell? ⟨b9, off9 + j * 3, none⟩ = some (.int .i64 y.src) := Later.cell r0 hb9
                  have ql1 : ∀ zz : Later w0, zz.w.cell? ⟨b9, off9 + j * 3 + 1, none⟩ = some (.int .i64 y.dst) := Later.cell r1 hb9
                  have ql2 : ∀ zz : Later w0, zz.w.cell? ⟨b9, off9 + j * 3 + 2, none⟩ = some (.slice A9 d9 c9) := Later.cell r2 hb9
                  clear r0 r1 r2
                  rcases mb with _ | _
                  all_goals
                    go_wp2_with fail
                    refine wp_region_later (by kernel_rfl) (by kernel_rfl) ?_
                    repeat (go_big_quiet_step ((go_at_call 19; with_reducible exact Later.call _ (nSamePk_z HT HV9 hV8 _))))
                    refine wpQuiet_nil ?_
                    intro _ hw'
                    obtain ⟨yq, hw''⟩ := hw'
                    subst hw''
                    clear pl0 pl1 pl2 ql0 ql1 ql2 i1 i2
                    obtain ⟨w4, hz4, hb⟩ : ∃ z, yq.w = z ∧ Below w0.heap.size w0 z := ⟨_, rfl, yq.below⟩
                    rw [hz4]
                    clear hz4
                    replace X0 := X0.later hb
                    replace X7 := X7.later hb
                    replace P8 := P8.later hb
                    replace hR := hR.later hb
                    replace hM := hid_later hM hb
                    replace hV8 := hid_bytes hV8 hb
                    replace hB := hB.trans (hb.mono hB.size)
                    replace hle := Nat.le_trans hle hb.size
                    clear hb
                    go_wp2
                    refine ⟨⟨j + 1, _, by omega, by go_num, rfl, by rw [Hid, HTK.out, ← Bool.or_assoc, ← hmb.out]; rfl, hB, X0, X7, P8, hR, hM, hV8, hle⟩, by simp [intOf]; omega⟩
                · obtain rfl : j = sl := by omega
                  have hfin : mb = true := by
                    rw [hmb.out, ← HSL.out, List.take_length]
                    rcases hmet.out with ⟨h1, h2⟩ | h1
                    · have : cz = true := by rw [← HCZ.out]; exact decide_eq_true (by omega)
                      rw [this]; rfl
                    · rw [met_mem h1]; simp
                  subst hfin
                  go_upto_region 30 with (fail)
                  have x0 : w0.cell? ⟨X0a, 0, none⟩ = some (.slice Aq nq cq) := X0.cell 0
                  have x1 : w0.cell? ⟨X0a, 1, none⟩ = some (.slice Aa na ca) := X0.cell 1
                  have f0 : w0.frozen? ⟨X0a, 0, none⟩ = false := X0.free 0
                  have f1 : w0.frozen? ⟨X0a, 1, none⟩ = false := X0.free 1
                  have xz := X0.lt
                  have y0 : w0.cell? ⟨Xa, 0, none⟩ = some (.slice A1 mq c1) := X7.cell 0
                  have y1 : w0.cell? ⟨Xa, 1, none⟩ = some (.slice A2 ma c2) := X7.cell 1
                  have yz := X7.lt
                  go_wp2_with fail
                  clear x0 x1 f0 f1 xz y0 y1 yz
                  replace hM := net_set (B1 := A1) (l1 := mq) (d1 := c1) (B2 := A2) (l2 := ma) (d2 := c2) hM X0
                  replace hR := (hR.set X0 xb 0 (.slice A1 mq c1)).set (X0.set 0 (.slice A1 mq c1)) xb 1 (.slice A2 ma c2)
                  replace hB := (hB.setCell (p := ⟨X0a, 0, none⟩) hX0b (.slice A1 mq c1)).setCell (p := ⟨X0a, 1, none⟩) hX0b (.slice A2 ma c2)
                  replace X0 := (X0.set 0 (.slice A1 mq c1)).set 1 (.slice A2 ma c2)
                  have hle2 : base ≤ ((w0.setCell ⟨X0a, 0, none⟩ (.slice A1 mq c1)).setCell ⟨X0a, 1, none⟩ (.slice A2 ma c2)).heap.size := by simpa using hle
                  generalize (w0.setCell ⟨X0a, 0, none⟩ (.slice A1 mq c1)).setCell ⟨X0a, 1, none⟩ (.slice A2 ma c2) = w8 at hM hR hB X0 hle2 ⊢
                  refine (nCheck_at (Lib.hid (okB_check.1 hokm.out)) hM.out).mono ?_
                  rintro e w9 ⟨rfl, hb⟩
                  replace hM := hid_later hM hb
                  replace hR := hR.later hb
                  replace X0 := X0.later hb
                  replace hB := hB.trans (hb.mono hB.size)
                  replace hle2 := Nat.le_trans hle2 hb.size
                  clear hb
                  go_wp2
                  refine ⟨⟨k + 1, m, sent, cuts, A1, c1, A2, c2, mq, ma, by omega, by go_num, rfl, by omega, by rw [HSL.out]; omega, hI2, hR, hB, X0, hM, hle2⟩, by simp [intOf]; omega⟩
          · have hI2 := Lib.hid (hstep.2.2.2.1 hr)
            clear hstep hN P8 hV8
            go_upto_region 30 with (fail)
            clear q0
            have x0 : wc.cell? ⟨X0a, 0, none⟩ = some (.slice Aq nq cq) := X0.cell 0
            have x1 : wc.cell? ⟨X0a, 1, none⟩ = some (.slice Aa na ca) := X0.cell 1
            have f0 : wc.frozen? ⟨X0a, 0, none⟩ = false := X0.free 0
            have f1 : wc.frozen? ⟨X0a, 1, none⟩ = false := X0.free 1
            have xz := X0.lt
            have y0 : wc.cell? ⟨Xa, 0, none⟩ = some (.slice A1 mq c1) := X7.cell 0
            have y1 : wc.cell? ⟨Xa, 1, none⟩ = some (.slice A2 ma c2) := X7.cell 1
            have yz := X7.lt
            go_wp2_with fail
            clear x0 x1 f0 f1 xz y0 y1 yz
            replace hM := net_set (B1 := A1) (l1 := mq) (d1 := c1) (B2 := A2) (l2 := ma) (d2 := c2) hM X0
            replace hR := (hR.set X0 xb 0 (.slice A1 mq c1)).set (X0.set 0 (.slice A1 mq c1)) xb 1 (.slice A2 ma c2)
            replace hB := (hB.setCell (p := ⟨X0a, 0, none⟩) hX0b (.slice A1 mq c1)).setCell (p := ⟨X0a, 1, none⟩) hX0b (.slice A2 ma c2)
            replace X0 := (X0.set 0 (.slice A1 mq c1)).set 1 (.slice A2 ma c2)
            have hle2 : base ≤ ((wc.setCell ⟨X0a, 0, none⟩ (.slice A1 mq c1)).setCell ⟨X0a, 1, none⟩ (.slice A2 ma c2)).heap.size := by simpa using hle
            generalize (wc.setCell ⟨X0a, 0, none⟩ (.slice A1 mq c1)).setCell ⟨X0a, 1, none⟩ (.slice A2 ma c2) = w8 at hM hR hB X0 hle2 ⊢
            refine (nCheck_at (Lib.hid (okB_check.1 hokm.out)) hM.out).mono ?_
            rintro e w9 ⟨rfl, hb⟩
            replace hM := hid_later hM hb
            replace hR := hR.later hb
            replace X0 := X0.later hb
            replace hB := hB.trans (hb.mono hB.size)
            replace hle2 := Nat.le_trans hle2 hb.size
            clear hb
            go_wp2
            refine ⟨⟨k + 1, m, sent, (cuts + 1), A1, c1, A2, c2, mq, ma, by omega, by go_num, by go_num, by omega, by rw [HSL.out]; omega, hI2, hR, hB, X0, hM, hle2⟩, by simp [intOf]; omega⟩
          · have hI2 := Lib.hid (hstep.2.2.2.2 hr.1 hr.2.2)
            have hr1 : ¬ kd % 6 = 0 := hr.1
            have hr2 : ¬ kd % 6 = 1 := hr.2.1
            have hr3 : ¬ kd % 6 = 4 := hr.2.2
            clear hstep hN P8 hV8 hr
            go_upto_region 30 with (fail)
            clear q0 hr1 hr2 hr3
            have x0 : wc.cell? ⟨X0a, 0, none⟩ = some (.slice Aq nq cq) := X0.cell 0
            have x1 : wc.cell? ⟨X0a, 1, none⟩ = some (.slice Aa na ca) := X0.cell 1
            have f0 : wc.frozen? ⟨X0a, 0, none⟩ = false := X0.free 0
            have f1 : wc.frozen? ⟨X0a, 1, none⟩ = false := X0.free 1
            have xz := X0.lt
            have y0 : wc.cell? ⟨Xa, 0, none⟩ = some (.slice A1 mq c1) := X7.cell 0
            have y1 : wc.cell? ⟨Xa, 1, none⟩ = some (.slice A2 ma c2) := X7.cell 1
            have yz := X7.lt
            go_wp2_with fail
            clear x0 x1 f0 f1 xz y0 y1 yz
            replace hM := net_set (B1 := A1) (l1 := mq) (d1 := c1) (B2 := A2) (l2 := ma) (d2 := c2) hM X0
            replace hR := (hR.set X0 xb 0 (.slice A1 mq c1)).set (X0.set 0 (.slice A1 mq c1)) xb 1 (.slice A2 ma c2)
            replace hB := (hB.setCell (p := ⟨X0a, 0, none⟩) hX0b (.slice A1 mq c1)).setCell (p := ⟨X0a, 1, none⟩) hX0b (.slice A2 ma c2)
            replace X0 := (X0.set 0 (.slice A1 mq c1)).set 1 (.slice A2 ma c2)
            have hle2 : base ≤ ((wc.setCell ⟨X0a, 0, none⟩ (.slice A1 mq c1)).setCell ⟨X0a, 1, none⟩ (.slice A2 ma c2)).heap.size := by simpa using hle
            generalize (wc.setCell ⟨X0a, 0, none⟩ (.slice A1 mq c1)).setCell ⟨X0a, 1, none⟩ (.slice A2 ma c2) = w8 at hM hR hB X0 hle2 ⊢
            refine (nCheck_at (Lib.hid (okB_check.1 hokm.out)) hM.out).mono ?_
            rintro e w9 ⟨rfl, hb⟩
            replace hM := hid_later hM hb
            replace hR := hR.later hb
            replace X0 := X0.later hb
            replace hB := hB.trans (hb.mono hB.size)
            replace hle2 := Nat.le_trans hle2 hb.size
            clear hb
            go_wp2
            refine ⟨⟨k + 1, m, sent, cuts, A1, c1, A2, c2, mq, ma, by omega, by go_num, rfl, by omega, by rw [HSL.out]; omega, hI2, hR, hB, X0, hM, hle2⟩, by simp [intOf]; omega⟩
        · have hmz := happ_err hs.out he
          have he2 : (er != 0) = true := by simpa using he
          subst hmz
          have x0 : wc.cell? ⟨X0a, 0, none⟩ = some (.slice Aq nq cq) := X0.cell 0
          have x1 : wc.cell? ⟨X0a, 1, none⟩ = some (.slice Aa na ca) := X0.cell 1
          have xz := X0.lt
          go_wp2_with fail
          refine (nCheck_at (Lib.hid (okB_check.1 hI.out.ok)) hN.out).mono ?_
          rintro e w5 ⟨rfl, hb⟩
          clear x0 x1 xz
          replace X0 := X0.later hb
          replace X7 := X7.later hb
          replace hR := hR.later hb
          replace hN := hid_later hN hb
          replace hM := hid_later hM hb
          replace hB := hB.trans (hb.mono hB.size)
          replace hle := Nat.le_trans hle hb.size
          clear hb
          have y0 : w5.cell? ⟨Xa, 0, none⟩ = some (.slice A1 mq c1) := X7.cell 0
          have y1 : w5.cell? ⟨Xa, 1, none⟩ = some (.slice A2 ma c2) := X7.cell 1
          have yz := X7.lt
          go_wp2_with fail
          refine (nSame_at (n := Net.zero) (m := Net.zero) (same_refl_hid _) hM.out (netAt_zero _ _)).mono ?_
          rintro e w6 ⟨rfl, hb⟩
          clear y0 y1 yz
          replace X0 := X0.later hb
          replace hR := hR.later hb
          replace hN := hid_later hN hb
          replace hB := hB.trans (hb.mono hB.size)
          replace hle := Nat.le_trans hle hb.size
          clear hb he2
          go_wp2
          refine ⟨⟨k + 1, n, sent, cuts, Aq, cq, Aa, ca, nq, na, by omega, by go_num, rfl, by omega, by rw [HSL.out]; omega, hI, hR, hB, X0, hN, hle⟩, by simp [intOf]; omega⟩
    · obtain rfl : k = ll := by omega
      go_wp2
      go_ret
      exact ⟨rfl, hB⟩

end Go.Proofs.Ytndjpaiakodciaa
