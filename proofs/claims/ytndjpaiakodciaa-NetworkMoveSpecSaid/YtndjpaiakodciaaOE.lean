/-
  NetworkMoveSpec. (Printed by gen_oe.py.)
-/
import Derived.Test.YtndjpaiakodciaaOD
namespace Go.Proofs.Ytndjpaiakodciaa
open Go.RowKit
attribute [local go_sem ↓ high] app_named

set_option maxRecDepth 100000 in
set_option maxHeartbeats 8000000 in
theorem law_Move_1 (n : Net) (Aq : Option Addr) (nq cq : Nat) (Aa : Option Addr) (na ca : Nat) (at0 a b : Int) (on : Bool) (w : World) (hN : Hid (NetAt w w.heap.size (.slice Aq nq cq) (.slice Aa na ca) n)) (hf : Hid (fewN n = false)) :
    Calls Try.prog 6 #[.agg #[.slice Aq nq cq, .slice Aa na ca], .int .i64 at0, .int .i64 a, .int .i64 b, .bool on] w fun e w' => e = .returned (.bool true) ∧ Below w.heap.size w w' := by
  have hB := Below.refl w.heap.size w
  go_enter Try.func6, Try.ntmps6
  go_wp2_with fail
  have hst := ((Below.refl w.heap.size w).alloc (by simp <;> omega) (.cells #[.slice Aq nq cq, .slice Aa na ca] 25))
  have hBo := hB
  have hN := hid_later hN hst
  have hB := hB.trans (hst.mono hB.size)
  have X0 := (Box.newAt (w := w) (n := w.heap.size) [.slice Aq nq cq, .slice Aa na ca] 25 (by simp))
  clear hst
  generalize (w.alloc (.cells #[.slice Aq nq cq, .slice Aa na ca] 25)) = w1 at hB  X0 hN ⊢
  generalize w.heap.size = X0a at X0 ⊢
  refine (nSane_any _).mono ?_
  rintro e w2 ⟨rfl, hb⟩
  have X0 := X0.later hb
  have hN := hid_later hN hb
  have hB := hB.trans (hb.mono hB.size)
  clear hb
  have X0c0 : w2.cell? ⟨X0a, 0, none⟩ = some (.slice Aq nq cq) := X0.cell 0
  have X0c1 : w2.cell? ⟨X0a, 1, none⟩ = some (.slice Aa na ca) := X0.cell 1
  have X0z : X0a < w2.heap.size := X0.lt
  go_wp2_with fail
  clear X0c0 X0c1 X0z
  refine (nFew_at hf hN.out).mono ?_
  rintro e w3 ⟨rfl, hb⟩
  have X0 := X0.later hb
  have hN := hid_later hN hb
  have hB := hB.trans (hb.mono hB.size)
  clear hb
  go_wp2
  go_ret
  exact ⟨by first | rfl | simp, hB⟩

set_option maxRecDepth 100000 in
set_option maxHeartbeats 8000000 in
theorem law_Move_2 (n : Net) (Aq : Option Addr) (nq cq : Nat) (Aa : Option Addr) (na ca : Nat) (at0 a b : Int) (on : Bool) (w : World) (hN : Hid (NetAt w w.heap.size (.slice Aq nq cq) (.slice Aa na ca) n)) (hf : Hid (fewN n = true)) (h40 : nq ≤ 40) (X : Net) (er : Int) (xq xa : Nat) (hx : Hid (cutT n a b on = (X, er))) (hxq : Hid (X.queue.length = xq)) (hxa : Hid (X.apart.length = xa)) :
    Calls Try.prog 6 #[.agg #[.slice Aq nq cq, .slice Aa na ca], .int .i64 at0, .int .i64 a, .int .i64 b, .bool on] w fun e w' => e = .returned (.bool true) ∧ Below w.heap.size w w' := by
  have hB := Below.refl w.heap.size w
  have HNw := Lib.hid hN.out
  go_enter Try.func6, Try.ntmps6
  go_wp2_with fail
  have hst := ((Below.refl w.heap.size w).alloc (by simp <;> omega) (.cells #[.slice Aq nq cq, .slice Aa na ca] 25))
  have hBo := hB
  have hN := hid_later hN hst
  have hB := hB.trans (hst.mono hB.size)
  have X0 := (Box.newAt (w := w) (n := w.heap.size) [.slice Aq nq cq, .slice Aa na ca] 25 (by simp))
  clear hst
  generalize (w.alloc (.cells #[.slice Aq nq cq, .slice Aa na ca] 25)) = w1 at hB  X0 hN ⊢
  generalize w.heap.size = X0a at X0 ⊢
  refine (nSane_any _).mono ?_
  rintro e w2 ⟨rfl, hb⟩
  have X0 := X0.later hb
  have hN := hid_later hN hb
  have hB := hB.trans (hb.mono hB.size)
  clear hb
  have X0c0 : w2.cell? ⟨X0a, 0, none⟩ = some (.slice Aq nq cq) := X0.cell 0
  have X0c1 : w2.cell? ⟨X0a, 1, none⟩ = some (.slice Aa na ca) := X0.cell 1
  have X0z : X0a < w2.heap.size := X0.lt
  go_wp2_with fail
  clear X0c0 X0c1 X0z
  refine (nFew_at hf hN.out).mono ?_
  rintro e w3 ⟨rfl, hb⟩
  have X0 := X0.later hb
  have hN := hid_later hN hb
  have hB := hB.trans (hb.mono hB.size)
  clear hb
  have X0c0 : w3.cell? ⟨X0a, 0, none⟩ = some (.slice Aq nq cq) := X0.cell 0
  have X0c1 : w3.cell? ⟨X0a, 1, none⟩ = some (.slice Aa na ca) := X0.cell 1
  have X0z : X0a < w3.heap.size := X0.lt
  go_wp2_with fail
  clear X0c0 X0c1 X0z
  refine (nCut_is n a b on hN).mono ?_
  rintro e w4 hh
  obtain ⟨Aq1, cq1, Aa1, ca1, rfl, hN1, hb⟩ := RetNet.is hh hx hxq hxa
  have X0 := X0.later hb
  have hN := hid_later hN hb
  have hB := hB.trans (hb.mono hB.size)
  clear hb
  have X0c0 : w4.cell? ⟨X0a, 0, none⟩ = some (.slice Aq nq cq) := X0.cell 0
  have X0c1 : w4.cell? ⟨X0a, 1, none⟩ = some (.slice Aa na ca) := X0.cell 1
  have X0z : X0a < w4.heap.size := X0.lt
  go_wp2_with fail
  clear X0c0 X0c1 X0z
  have hst := ((Below.refl w4.heap.size w4).alloc (by simp <;> omega) (.cells #[.slice Aq1 xq cq1, .slice Aa1 xa ca1] 25))
  have hBo := hB
  have X0o := X0
  have X0 := X0.later hst
  have hN := hid_later hN hst
  have hN1 := hid_later hN1 hst
  have hB := hB.trans (hst.mono hB.size)
  have X1 := (Box.newAt (w := w4) (n := w4.heap.size) [.slice Aq1 xq cq1, .slice Aa1 xa ca1] 25 (by simp))
  clear hst
  generalize (w4.alloc (.cells #[.slice Aq1 xq cq1, .slice Aa1 xa ca1] 25)) = w5 at hB X0 X1 hN hN1 ⊢
  generalize w4.heap.size = X1a at X1 ⊢
  refine (nRCut_is n a b on hN).mono ?_
  rintro e w6 hh
  obtain ⟨Aq2, cq2, Aa2, ca2, rfl, hN2, hb⟩ := RetNet.is hh hx hxq hxa
  have X0 := X0.later hb
  have X1 := X1.later hb
  have hN := hid_later hN hb
  have hN1 := hid_later hN1 hb
  have hB := hB.trans (hb.mono hB.size)
  clear hb
  have X1c0 : w6.cell? ⟨X1a, 0, none⟩ = some (.slice Aq1 xq cq1) := X1.cell 0
  have X1c1 : w6.cell? ⟨X1a, 1, none⟩ = some (.slice Aa1 xa ca1) := X1.cell 1
  have X1z : X1a < w6.heap.size := X1.lt
  go_wp2_with fail
  clear X1c0 X1c1 X1z
  have hst := ((Below.refl w6.heap.size w6).alloc (by simp <;> omega) (.cells #[.slice Aq2 xq cq2, .slice Aa2 xa ca2] 25))
  have hBo := hB
  have X0o := X0
  have X0 := X0.later hst
  have X1o := X1
  have X1 := X1.later hst
  have hN := hid_later hN hst
  have hN1 := hid_later hN1 hst
  have hN2 := hid_later hN2 hst
  have hB := hB.trans (hst.mono hB.size)
  have X2 := (Box.newAt (w := w6) (n := w6.heap.size) [.slice Aq2 xq cq2, .slice Aa2 xa ca2] 25 (by simp))
  clear hst
  generalize (w6.alloc (.cells #[.slice Aq2 xq cq2, .slice Aa2 xa ca2] 25)) = w7 at hB X0 X1 X2 hN hN1 hN2 ⊢
  generalize w6.heap.size = X2a at X2 ⊢
  refine (nSame_at (same_refl_hid X) hN1.out hN2.out).mono ?_
  rintro e w8 ⟨rfl, hb⟩
  have X0 := X0.later hb
  have X1 := X1.later hb
  have X2 := X2.later hb
  have hN := hid_later hN hb
  have hN1 := hid_later hN1 hb
  have hN2 := hid_later hN2 hb
  have hB := hB.trans (hb.mono hB.size)
  clear hb
  clear X1 X2 hN1 hN2
  go_wp2_with fail
  have hO := ownI_one w8 at0
  have hwb := hB.size
  have hXb := X0.lt
  have hst := (Below.refl w8.heap.size w8).alloc (Nat.le_refl _) (.cells #[.int .i64 at0] 3)
  have X0 := X0.later hst
  have hB := hB.trans (hst.mono hB.size)
  have hWs := hst.size
  clear hst
  generalize w8.heap.size = base at hO hWs hwb hXb ⊢
  generalize w8.alloc (.cells #[.int .i64 at0] 3) = W1 at hO X0 hB hWs ⊢
  go_loopw [15, 16] (fun v i wr => ∃ (k : Nat) (l : List Int), k ≤ nq ∧ k ≤ 3 ∧ i = .int .i64 k ∧ OwnI wr base v l ∧ l.length = k + 1 ∧ Below w.heap.size w wr ∧ Box wr X0a [.slice Aq nq cq, .slice Aa na ca] ∧ base ≤ wr.heap.size) (fun _ i _ => nq - (intOf i).toNat)
  case atStart => exact ⟨0, [at0], by omega, by omega, rfl, hO, rfl, hB, X0, hWs⟩
  case round =>
    clear hO X0 hB hWs
    obtain ⟨k, l, hk, hk3, rfl, hO, hl, hB, X0, hWs⟩ := hrel
    have x0 : wr.cell? ⟨X0a, 0, none⟩ = some (.slice Aq nq cq) := X0.cell 0
    have xz := X0.lt
    obtain ⟨Ao, ko, co, rfl⟩ := owns_form hO
    by_cases hlt : k < nq ∧ k < 3
    · obtain ⟨h1, h2⟩ := hlt
      have ho2 := World.ownsRow.alloc hO (.cells #[.int .i64 (k : Int)] 3)
      have bN := Box.new wr [.int .i64 (k : Int)] 3
      obtain ⟨v', W', hrun, ho3, hb3, hg⟩ := run_own_i 45 ho2 bN (by simp; omega) (by omega)
      have happ : (appF #[45, 45] 45 #[.slice Ao ko co, .slice (some ⟨wr.heap.size, 0, none⟩) 1 1]).run Try.prog (wr.alloc (.cells #[.int .i64 (k : Int)] 3)) = .ok v' W' := hrun
      have X0 := Box.keep (X0.alloc (.cells #[.int .i64 (k : Int)] 3)) hXb hb3
      have hB := (hB.alloc hB.size (.cells #[.int .i64 (k : Int)] 3)).trans (hb3.mono hwb)
      have hWs := Nat.le_trans (Nat.le_trans hWs (by simp : wr.heap.size ≤ (wr.alloc (.cells #[.int .i64 (k : Int)] 3)).heap.size)) hb3.size
      clear hrun ho2 bN hg hb3
      go_wp2
      refine ⟨⟨k + 1, l ++ [(k : Int)], by omega, by omega, by go_num, ho3, by simp [hl], hB, X0, hWs⟩, by simp [intOf]; omega⟩
    · obtain ⟨g0, c0, hv, hgz, _⟩ := hO.at (by omega)
      have hm4 : l.length ≤ 4 := by omega
      have hI := hO.ints (by omega)
      rw [hv] at hI ⊢
      clear hv hO hl
      have hN := Lib.hid ((HNw.out.below hB).more hB.size)
      obtain ⟨m, hm⟩ : ∃ m, l.length = m := ⟨_, rfl⟩
      have HM := Lib.hid hm
      rw [hm] at hI hm4 ⊢
      clear hm
      rcases Nat.lt_or_ge k nq with h1 | h1
      all_goals
        have h2 : ¬ (k < nq ∧ k < 3) := hlt
        go_wp2_with fail
        clear x0 xz
        go_loopw [74] (fun i wr => ∃ j : Nat, j ≤ m ∧ i = .int .i64 j ∧ Below w.heap.size w wr ∧ Box wr X0a [.slice Aq nq cq, .slice Aa na ca] ∧ Hid (NetAt wr wr.heap.size (.slice Aq nq cq) (.slice Aa na ca) n) ∧ Hid (IntsAt wr wr.heap.size (.slice (some ⟨g0, 0, none⟩) m c0) l)) (fun i _ => m - (intOf i).toNat)
        case atStart => exact ⟨0, by omega, rfl, hB, X0, hN, hI⟩
        case round =>
          clear hB X0 hN hI
          obtain ⟨j, hj, rfl, hB, X0, hN, hI⟩ := hrel
          obtain ⟨wo, rfl⟩ : ∃ wo : World, wo = wr := ⟨_, rfl⟩
          by_cases hlj : j < m
          · have hcl := IntsAt.cell hI (show j < l.length by rw [HM.out]; exact hlj)
            obtain ⟨z, hz⟩ : ∃ z, l.getD j 0 = z := ⟨_, rfl⟩
            rw [hz] at hcl
            clear hz
            obtain ⟨p, m1, e1, hd⟩ : ∃ p m1 e1, deliverT n z = (p, m1, e1) := ⟨_, _, _, rfl⟩
            obtain ⟨m2, e2, hls⟩ : ∃ m2 e2, loseT n z = (m2, e2) := ⟨_, _, rfl⟩
            obtain ⟨m3, e3, hr⟩ : ∃ m3 e3, repeatT n z = (m3, e3) := ⟨_, _, rfl⟩
            obtain ⟨pl, hpl⟩ : ∃ k, p.data.length = k := ⟨_, rfl⟩
            obtain ⟨q1, hq1⟩ : ∃ k, m1.queue.length = k := ⟨_, rfl⟩
            obtain ⟨r1, hr1⟩ : ∃ k, m1.apart.length = k := ⟨_, rfl⟩
            obtain ⟨q2, hq2⟩ : ∃ k, m2.queue.length = k := ⟨_, rfl⟩
            obtain ⟨r2, hr2⟩ : ∃ k, m2.apart.length = k := ⟨_, rfl⟩
            obtain ⟨q3, hq3⟩ : ∃ k, m3.queue.length = k := ⟨_, rfl⟩
            obtain ⟨r3, hr3⟩ : ∃ k, m3.apart.length = k := ⟨_, rfl⟩
            replace hd := Lib.hid hd
            replace hls := Lib.hid hls
            replace hr := Lib.hid hr
            replace hpl := Lib.hid hpl
            replace hq1 := Lib.hid hq1
            replace hr1 := Lib.hid hr1
            replace hq2 := Lib.hid hq2
            replace hr2 := Lib.hid hr2
            replace hq3 := Lib.hid hq3
            replace hr3 := Lib.hid hr3
            have i1 : (0 : Int) ≤ (j : Int) := by omega
            have i2 : (j : Int) < (m : Int) := by omega
            have X0c0 : wo.cell? ⟨X0a, 0, none⟩ = some (.slice Aq nq cq) := X0.cell 0
            have X0c1 : wo.cell? ⟨X0a, 1, none⟩ = some (.slice Aa na ca) := X0.cell 1
            have X0z : X0a < wo.heap.size := X0.lt
            go_wp2_with fail
            clear X0c0 X0c1 X0z
            refine (nDeliver_is n z hN).mono ?_
            rintro e w9 hh
            clear hcl
            obtain ⟨Ad5, cd5, Aq5, cq5, Aa5, ca5, rfl, hV5, hN5, hb⟩ := RetDel.is hh hd hq1 hr1 hpl
            have X0 := X0.later hb
            have hN := hid_later hN hb
            have hI := ints_later hI hb
            have hB := hB.trans (hb.mono hB.size)
            clear hb
            have X0c0 : w9.cell? ⟨X0a, 0, none⟩ = some (.slice Aq nq cq) := X0.cell 0
            have X0c1 : w9.cell? ⟨X0a, 1, none⟩ = some (.slice Aa na ca) := X0.cell 1
            have X0z : X0a < w9.heap.size := X0.lt
            have X0z1 : X0a < w9.heap.size + 1 := by omega
            go_wp2_with fail
            clear X0c0 X0c1 X0z X0z1
            have hst := (((Below.refl w9.heap.size w9).alloc (by simp <;> omega) (.cells #[.int .i64 p.src, .int .i64 p.dst, .slice Ad5 pl cd5] 28)).alloc (by simp <;> omega) (.cells #[.slice Aq5 q1 cq5, .slice Aa5 r1 ca5] 25))
            have hBo := hB
            have X0o := X0
            have X0 := X0.later hst
            have hN := hid_later hN hst
            have hI := ints_later hI hst
            have hN5 := hid_later hN5 hst
            have hV5 := hid_bytes hV5 hst
            have hB := hB.trans (hst.mono hB.size)
            have P5 := ((Box.newAt (w := w9) (n := w9.heap.size) [.int .i64 p.src, .int .i64 p.dst, .slice Ad5 pl cd5] 28 (by simp)).alloc (.cells #[.slice Aq5 q1 cq5, .slice Aa5 r1 ca5] 25))
            have X5 := (Box.newAt (w := (w9.alloc (.cells #[.int .i64 p.src, .int .i64 p.dst, .slice Ad5 pl cd5] 28))) (n := w9.heap.size + 1) [.slice Aq5 q1 cq5, .slice Aa5 r1 ca5] 25 (by simp))
            have gX5 : w.heap.size ≤ w9.heap.size + 1 := by have := hBo.size; omega
            clear hst
            have nX0X5 : X0a ≠ w9.heap.size + 1 := by have := X0o.lt; omega
            have nP5X5 : w9.heap.size ≠ w9.heap.size + 1 := by omega
            generalize ((w9.alloc (.cells #[.int .i64 p.src, .int .i64 p.dst, .slice Ad5 pl cd5] 28)).alloc (.cells #[.slice Aq5 q1 cq5, .slice Aa5 r1 ca5] 25)) = w10 at hB X0 P5 X5 hN hI hN5 hV5 ⊢
            generalize w9.heap.size + 1 = X5a at P5 X5 nX0X5 gX5 nP5X5 ⊢
            generalize w9.heap.size = P5a at P5 X5 nX0X5 gX5 nP5X5 ⊢
            refine (nRDeliver_is n z hN).mono ?_
            rintro e w11 hh
            obtain ⟨Ad7, cd7, Aq7, cq7, Aa7, ca7, rfl, hV7, hN7, hb⟩ := RetDel.is hh hd hq1 hr1 hpl
            have X0 := X0.later hb
            have P5 := P5.later hb
            have X5 := X5.later hb
            have hN := hid_later hN hb
            have hI := ints_later hI hb
            have hN5 := hid_later hN5 hb
            have hV5 := hid_bytes hV5 hb
            have hB := hB.trans (hb.mono hB.size)
            clear hb
            have P5c0 : w11.cell? ⟨P5a, 0, none⟩ = some (.int .i64 p.src) := P5.cell 0
            have P5c1 : w11.cell? ⟨P5a, 1, none⟩ = some (.int .i64 p.dst) := P5.cell 1
            have P5c2 : w11.cell? ⟨P5a, 2, none⟩ = some (.slice Ad5 pl cd5) := P5.cell 2
            have P5z : P5a < w11.heap.size := P5.lt
            have P5z1 : P5a < w11.heap.size + 1 := by omega
            go_wp2_with fail
            clear P5c0 P5c1 P5c2 P5z P5z1
            have hst := (((Below.refl w11.heap.size w11).alloc (by simp <;> omega) (.cells #[.int .i64 p.src, .int .i64 p.dst, .slice Ad7 pl cd7] 28)).alloc (by simp <;> omega) (.cells #[.slice Aq7 q1 cq7, .slice Aa7 r1 ca7] 25))
            have hBo := hB
            have X0o := X0
            have X0 := X0.later hst
            have P5o := P5
            have P5 := P5.later hst
            have X5o := X5
            have X5 := X5.later hst
            have hN := hid_later hN hst
            have hI := ints_later hI hst
            have hN5 := hid_later hN5 hst
            have hV5 := hid_bytes hV5 hst
            have hN7 := hid_later hN7 hst
            have hV7 := hid_bytes hV7 hst
            have hB := hB.trans (hst.mono hB.size)
            have P7 := ((Box.newAt (w := w11) (n := w11.heap.size) [.int .i64 p.src, .int .i64 p.dst, .slice Ad7 pl cd7] 28 (by simp)).alloc (.cells #[.slice Aq7 q1 cq7, .slice Aa7 r1 ca7] 25))
            have X7 := (Box.newAt (w := (w11.alloc (.cells #[.int .i64 p.src, .int .i64 p.dst, .slice Ad7 pl cd7] 28))) (n := w11.heap.size + 1) [.slice Aq7 q1 cq7, .slice Aa7 r1 ca7] 25 (by simp))
            have gX7 : w.heap.size ≤ w11.heap.size + 1 := by have := hBo.size; omega
            clear hst
            have nX5P7 : X5a ≠ w11.heap.size := by have := X5o.lt; omega
            have nX0X7 : X0a ≠ w11.heap.size + 1 := by have := X0o.lt; omega
            have nP5X7 : P5a ≠ w11.heap.size + 1 := by have := P5o.lt; omega
            have nX5X7 : X5a ≠ w11.heap.size + 1 := by have := X5o.lt; omega
            have nP7X7 : w11.heap.size ≠ w11.heap.size + 1 := by omega
            generalize ((w11.alloc (.cells #[.int .i64 p.src, .int .i64 p.dst, .slice Ad7 pl cd7] 28)).alloc (.cells #[.slice Aq7 q1 cq7, .slice Aa7 r1 ca7] 25)) = w12 at hB X0 P5 X5 P7 X7 hN hI hN5 hV5 hN7 hV7 ⊢
            generalize w11.heap.size + 1 = X7a at P7 X7 nX5P7 nX0X7 nP5X7 nX5X7 gX7 nP7X7 ⊢
            generalize w11.heap.size = P7a at P7 X7 nX5P7 nX0X7 nP5X7 nX5X7 gX7 nP7X7 ⊢
            refine (nSamePk_at (p := p) (q := p) (Lib.hid (samePk_refl p)) hV5.out hV7.out).mono ?_
            rintro e w13 ⟨rfl, hb⟩
            have X0 := X0.later hb
            have P5 := P5.later hb
            have X5 := X5.later hb
            have P7 := P7.later hb
            have X7 := X7.later hb
            have hN := hid_later hN hb
            have hI := ints_later hI hb
            have hN5 := hid_later hN5 hb
            have hV5 := hid_bytes hV5 hb
            have hN7 := hid_later hN7 hb
            have hV7 := hid_bytes hV7 hb
            have hB := hB.trans (hb.mono hB.size)
            clear hb
            have X5c0 : w13.cell? ⟨X5a, 0, none⟩ = some (.slice Aq5 q1 cq5) := X5.cell 0
            have X5c1 : w13.cell? ⟨X5a, 1, none⟩ = some (.slice Aa5 r1 ca5) := X5.cell 1
            have X5z : X5a < w13.heap.size := X5.lt
            have X7c0 : w13.cell? ⟨X7a, 0, none⟩ = some (.slice Aq7 q1 cq7) := X7.cell 0
            have X7c1 : w13.cell? ⟨X7a, 1, none⟩ = some (.slice Aa7 r1 ca7) := X7.cell 1
            have X7z : X7a < w13.heap.size := X7.lt
            go_wp2_with fail
            clear X5c0 X5c1 X5z X7c0 X7c1 X7z
            refine (nSame_at (same_refl_hid m1) hN5.out hN7.out).mono ?_
            rintro e w14 ⟨rfl, hb⟩
            have X0 := X0.later hb
            have P5 := P5.later hb
            have X5 := X5.later hb
            have P7 := P7.later hb
            have X7 := X7.later hb
            have hN := hid_later hN hb
            have hI := ints_later hI hb
            have hN5 := hid_later hN5 hb
            have hV5 := hid_bytes hV5 hb
            have hN7 := hid_later hN7 hb
            have hV7 := hid_bytes hV7 hb
            have hB := hB.trans (hb.mono hB.size)
            clear hb
            clear P5 P7 hV5 hV7 hN5 hN7
            have X0c0 : w14.cell? ⟨X0a, 0, none⟩ = some (.slice Aq nq cq) := X0.cell 0
            have X0c1 : w14.cell? ⟨X0a, 1, none⟩ = some (.slice Aa na ca) := X0.cell 1
            have X0z : X0a < w14.heap.size := X0.lt
            go_wp2_with fail
            clear X0c0 X0c1 X0z
            refine (nLose_is n z hN).mono ?_
            rintro e w15 hh
            obtain ⟨Aq8, cq8, Aa8, ca8, rfl, hN8, hb⟩ := RetNet.is hh hls hq2 hr2
            have X0 := X0.later hb
            have X5 := X5.later hb
            have X7 := X7.later hb
            have hN := hid_later hN hb
            have hI := ints_later hI hb
            have hB := hB.trans (hb.mono hB.size)
            clear hb
            have X5f0 : w15.frozen? ⟨X5a, 0, none⟩ = false := X5.free 0
            have X5f1 : w15.frozen? ⟨X5a, 1, none⟩ = false := X5.free 1
            have X0c0 : w15.cell? ⟨X0a, 0, none⟩ = some (.slice Aq nq cq) := X0.cell 0
            have X0c1 : w15.cell? ⟨X0a, 1, none⟩ = some (.slice Aa na ca) := X0.cell 1
            have X0z : X0a < w15.heap.size := X0.lt
            have X5c0 : w15.cell? ⟨X5a, 0, none⟩ = some (.slice Aq5 q1 cq5) := X5.cell 0
            have X5c1 : w15.cell? ⟨X5a, 1, none⟩ = some (.slice Aa5 r1 ca5) := X5.cell 1
            have X5z : X5a < w15.heap.size := X5.lt
            go_wp2_with fail
            clear X0c0 X0c1 X0z X5c0 X5c1 X5z
            clear X5f0 X5f1
            have hN := net_set (B1 := Aq8) (l1 := q2) (d1 := cq8) (B2 := Aa8) (l2 := r2) (d2 := ca8) hN X5
            have hI := ints_set (B1 := Aq8) (l1 := q2) (d1 := cq8) (B2 := Aa8) (l2 := r2) (d2 := ca8) hI X5
            have hN8 := net_set (B1 := Aq8) (l1 := q2) (d1 := cq8) (B2 := Aa8) (l2 := r2) (d2 := ca8) hN8 X5
            have hB := (hB.setCell (p := ⟨X5a, 0, none⟩) gX5 (.slice Aq8 q2 cq8)).setCell (p := ⟨X5a, 1, none⟩) gX5 (.slice Aa8 r2 ca8)
            have X0 := (X0.other (a := ⟨X5a, 0, none⟩) nX0X5 (.slice Aq8 q2 cq8)).other (a := ⟨X5a, 1, none⟩) nX0X5 (.slice Aa8 r2 ca8)
            have X7 := (X7.other (a := ⟨X5a, 0, none⟩) (Ne.symm nX5X7) (.slice Aq8 q2 cq8)).other (a := ⟨X5a, 1, none⟩) (Ne.symm nX5X7) (.slice Aa8 r2 ca8)
            have X5 := (X5.set 0 (.slice Aq8 q2 cq8)).set 1 (.slice Aa8 r2 ca8)
            generalize ((w15.setCell ⟨X5a, 0, none⟩ (.slice Aq8 q2 cq8)).setCell ⟨X5a, 1, none⟩ (.slice Aa8 r2 ca8)) = w16 at hB X0 X5 X7 hN hI hN8 ⊢
            refine (nRLose_is n z hN).mono ?_
            rintro e w17 hh
            obtain ⟨Aq9, cq9, Aa9, ca9, rfl, hN9, hb⟩ := RetNet.is hh hls hq2 hr2
            have X0 := X0.later hb
            have X5 := X5.later hb
            have X7 := X7.later hb
            have hN := hid_later hN hb
            have hI := ints_later hI hb
            have hN8 := hid_later hN8 hb
            have hB := hB.trans (hb.mono hB.size)
            clear hb
            have X7f0 : w17.frozen? ⟨X7a, 0, none⟩ = false := X7.free 0
            have X7f1 : w17.frozen? ⟨X7a, 1, none⟩ = false := X7.free 1
            have X5c0 : w17.cell? ⟨X5a, 0, none⟩ = some (.slice Aq8 q2 cq8) := X5.cell 0
            have X5c1 : w17.cell? ⟨X5a, 1, none⟩ = some (.slice Aa8 r2 ca8) := X5.cell 1
            have X5z : X5a < w17.heap.size := X5.lt
            have X7c0 : w17.cell? ⟨X7a, 0, none⟩ = some (.slice Aq7 q1 cq7) := X7.cell 0
            have X7c1 : w17.cell? ⟨X7a, 1, none⟩ = some (.slice Aa7 r1 ca7) := X7.cell 1
            have X7z : X7a < w17.heap.size := X7.lt
            go_wp2_with fail
            clear X5c0 X5c1 X5z X7c0 X7c1 X7z
            clear X7f0 X7f1
            have hN := net_set (B1 := Aq9) (l1 := q2) (d1 := cq9) (B2 := Aa9) (l2 := r2) (d2 := ca9) hN X7
            have hI := ints_set (B1 := Aq9) (l1 := q2) (d1 := cq9) (B2 := Aa9) (l2 := r2) (d2 := ca9) hI X7
            have hN8 := net_set (B1 := Aq9) (l1 := q2) (d1 := cq9) (B2 := Aa9) (l2 := r2) (d2 := ca9) hN8 X7
            have hN9 := net_set (B1 := Aq9) (l1 := q2) (d1 := cq9) (B2 := Aa9) (l2 := r2) (d2 := ca9) hN9 X7
            have hB := (hB.setCell (p := ⟨X7a, 0, none⟩) gX7 (.slice Aq9 q2 cq9)).setCell (p := ⟨X7a, 1, none⟩) gX7 (.slice Aa9 r2 ca9)
            have X0 := (X0.other (a := ⟨X7a, 0, none⟩) nX0X7 (.slice Aq9 q2 cq9)).other (a := ⟨X7a, 1, none⟩) nX0X7 (.slice Aa9 r2 ca9)
            have X5 := (X5.other (a := ⟨X7a, 0, none⟩) nX5X7 (.slice Aq9 q2 cq9)).other (a := ⟨X7a, 1, none⟩) nX5X7 (.slice Aa9 r2 ca9)
            have X7 := (X7.set 0 (.slice Aq9 q2 cq9)).set 1 (.slice Aa9 r2 ca9)
            generalize ((w17.setCell ⟨X7a, 0, none⟩ (.slice Aq9 q2 cq9)).setCell ⟨X7a, 1, none⟩ (.slice Aa9 r2 ca9)) = w18 at hB X0 X5 X7 hN hI hN8 hN9 ⊢
            refine (nSame_at (same_refl_hid m2) hN8.out hN9.out).mono ?_
            rintro e w19 ⟨rfl, hb⟩
            have X0 := X0.later hb
            have X5 := X5.later hb
            have X7 := X7.later hb
            have hN := hid_later hN hb
            have hI := ints_later hI hb
            have hN8 := hid_later hN8 hb
            have hN9 := hid_later hN9 hb
            have hB := hB.trans (hb.mono hB.size)
            clear hb
            clear hN8 hN9
            have X0c0 : w19.cell? ⟨X0a, 0, none⟩ = some (.slice Aq nq cq) := X0.cell 0
            have X0c1 : w19.cell? ⟨X0a, 1, none⟩ = some (.slice Aa na ca) := X0.cell 1
            have X0z : X0a < w19.heap.size := X0.lt
            go_wp2_with fail
            clear X0c0 X0c1 X0z
            refine (nRepeat_is n z hN).mono ?_
            rintro e w20 hh
            obtain ⟨Aq10, cq10, Aa10, ca10, rfl, hN10, hb⟩ := RetNet.is hh hr hq3 hr3
            have X0 := X0.later hb
            have X5 := X5.later hb
            have X7 := X7.later hb
            have hN := hid_later hN hb
            have hI := ints_later hI hb
            have hB := hB.trans (hb.mono hB.size)
            clear hb
            have X5f0 : w20.frozen? ⟨X5a, 0, none⟩ = false := X5.free 0
            have X5f1 : w20.frozen? ⟨X5a, 1, none⟩ = false := X5.free 1
            have X0c0 : w20.cell? ⟨X0a, 0, none⟩ = some (.slice Aq nq cq) := X0.cell 0
            have X0c1 : w20.cell? ⟨X0a, 1, none⟩ = some (.slice Aa na ca) := X0.cell 1
            have X0z : X0a < w20.heap.size := X0.lt
            have X5c0 : w20.cell? ⟨X5a, 0, none⟩ = some (.slice Aq8 q2 cq8) := X5.cell 0
            have X5c1 : w20.cell? ⟨X5a, 1, none⟩ = some (.slice Aa8 r2 ca8) := X5.cell 1
            have X5z : X5a < w20.heap.size := X5.lt
            go_wp2_with fail
            clear X0c0 X0c1 X0z X5c0 X5c1 X5z
            clear X5f0 X5f1
            have hN := net_set (B1 := Aq10) (l1 := q3) (d1 := cq10) (B2 := Aa10) (l2 := r3) (d2 := ca10) hN X5
            have hI := ints_set (B1 := Aq10) (l1 := q3) (d1 := cq10) (B2 := Aa10) (l2 := r3) (d2 := ca10) hI X5
            have hN10 := net_set (B1 := Aq10) (l1 := q3) (d1 := cq10) (B2 := Aa10) (l2 := r3) (d2 := ca10) hN10 X5
            have hB := (hB.setCell (p := ⟨X5a, 0, none⟩) gX5 (.slice Aq10 q3 cq10)).setCell (p := ⟨X5a, 1, none⟩) gX5 (.slice Aa10 r3 ca10)
            have X0 := (X0.other (a := ⟨X5a, 0, none⟩) nX0X5 (.slice Aq10 q3 cq10)).other (a := ⟨X5a, 1, none⟩) nX0X5 (.slice Aa10 r3 ca10)
            have X7 := (X7.other (a := ⟨X5a, 0, none⟩) (Ne.symm nX5X7) (.slice Aq10 q3 cq10)).other (a := ⟨X5a, 1, none⟩) (Ne.symm nX5X7) (.slice Aa10 r3 ca10)
            have X5 := (X5.set 0 (.slice Aq10 q3 cq10)).set 1 (.slice Aa10 r3 ca10)
            generalize ((w20.setCell ⟨X5a, 0, none⟩ (.slice Aq10 q3 cq10)).setCell ⟨X5a, 1, none⟩ (.slice Aa10 r3 ca10)) = w21 at hB X0 X5 X7 hN hI hN10 ⊢
            refine (nRRepeat_is n z hN).mono ?_
            rintro e w22 hh
            obtain ⟨Aq11, cq11, Aa11, ca11, rfl, hN11, hb⟩ := RetNet.is hh hr hq3 hr3
            have X0 := X0.later hb
            have X5 := X5.later hb
            have X7 := X7.later hb
            have hN := hid_later hN hb
            have hI := ints_later hI hb
            have hN10 := hid_later hN10 hb
            have hB := hB.trans (hb.mono hB.size)
            clear hb
            have X7f0 : w22.frozen? ⟨X7a, 0, none⟩ = false := X7.free 0
            have X7f1 : w22.frozen? ⟨X7a, 1, none⟩ = false := X7.free 1
            have X5c0 : w22.cell? ⟨X5a, 0, none⟩ = some (.slice Aq10 q3 cq10) := X5.cell 0
            have X5c1 : w22.cell? ⟨X5a, 1, none⟩ = some (.slice Aa10 r3 ca10) := X5.cell 1
            have X5z : X5a < w22.heap.size := X5.lt
            have X7c0 : w22.cell? ⟨X7a, 0, none⟩ = some (.slice Aq9 q2 cq9) := X7.cell 0
            have X7c1 : w22.cell? ⟨X7a, 1, none⟩ = some (.slice Aa9 r2 ca9) := X7.cell 1
            have X7z : X7a < w22.heap.size := X7.lt
            go_wp2_with fail
            clear X5c0 X5c1 X5z X7c0 X7c1 X7z
            clear X7f0 X7f1
            have hN := net_set (B1 := Aq11) (l1 := q3) (d1 := cq11) (B2 := Aa11) (l2 := r3) (d2 := ca11) hN X7
            have hI := ints_set (B1 := Aq11) (l1 := q3) (d1 := cq11) (B2 := Aa11) (l2 := r3) (d2 := ca11) hI X7
            have hN10 := net_set (B1 := Aq11) (l1 := q3) (d1 := cq11) (B2 := Aa11) (l2 := r3) (d2 := ca11) hN10 X7
            have hN11 := net_set (B1 := Aq11) (l1 := q3) (d1 := cq11) (B2 := Aa11) (l2 := r3) (d2 := ca11) hN11 X7
            have hB := (hB.setCell (p := ⟨X7a, 0, none⟩) gX7 (.slice Aq11 q3 cq11)).setCell (p := ⟨X7a, 1, none⟩) gX7 (.slice Aa11 r3 ca11)
            have X0 := (X0.other (a := ⟨X7a, 0, none⟩) nX0X7 (.slice Aq11 q3 cq11)).other (a := ⟨X7a, 1, none⟩) nX0X7 (.slice Aa11 r3 ca11)
            have X5 := (X5.other (a := ⟨X7a, 0, none⟩) nX5X7 (.slice Aq11 q3 cq11)).other (a := ⟨X7a, 1, none⟩) nX5X7 (.slice Aa11 r3 ca11)
            have X7 := (X7.set 0 (.slice Aq11 q3 cq11)).set 1 (.slice Aa11 r3 ca11)
            generalize ((w22.setCell ⟨X7a, 0, none⟩ (.slice Aq11 q3 cq11)).setCell ⟨X7a, 1, none⟩ (.slice Aa11 r3 ca11)) = w23 at hB X0 X5 X7 hN hI hN10 hN11 ⊢
            refine (nSame_at (same_refl_hid m3) hN10.out hN11.out).mono ?_
            rintro e w24 ⟨rfl, hb⟩
            have X0 := X0.later hb
            have X5 := X5.later hb
            have X7 := X7.later hb
            have hN := hid_later hN hb
            have hI := ints_later hI hb
            have hN10 := hid_later hN10 hb
            have hN11 := hid_later hN11 hb
            have hB := hB.trans (hb.mono hB.size)
            clear hb
            go_wp2
            refine ⟨⟨j + 1, by omega, by go_num, hB, X0, hN, hI⟩, by simp [intOf]; omega⟩
          · obtain rfl : j = m := by omega
            go_wp2
            go_ret
            exact ⟨rfl, hB⟩

theorem law_NetworkMoveSpec (n : Net) (Vq Va : Value) (at0 a b : Int) (on : Bool) (w : World) (hN : NetAt w w.heap.size Vq Va n) :
    Calls Try.prog 6 #[.agg #[Vq, Va], .int .i64 at0, .int .i64 a, .int .i64 b, .bool on] w fun e w' => e = .returned (.bool true) ∧ Below w.heap.size w w' := by
  obtain ⟨Aq, cq, rfl, _⟩ := hN.queue.form
  obtain ⟨Aa, ca, rfl, _⟩ := hN.apart.form
  rcases h : fewN n with _ | _
  · exact law_Move_1 n Aq _ cq Aa _ ca at0 a b on w hN h
  · obtain ⟨X, er, hx⟩ : ∃ X er, cutT n a b on = (X, er) := ⟨_, _, rfl⟩
    exact law_Move_2 n Aq _ cq Aa _ ca at0 a b on w hN h (few_len h).1 X er _ _ hx rfl rfl

end Go.Proofs.Ytndjpaiakodciaa
