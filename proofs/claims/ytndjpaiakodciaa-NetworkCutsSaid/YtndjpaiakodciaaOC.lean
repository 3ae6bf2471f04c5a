/-
  NetworkCuts. (Printed by gen_oc.py.)
-/
import Derived.Test.YtndjpaiakodciaaOB
namespace Go.Proofs.Ytndjpaiakodciaa
open Go.RowKit

set_option maxRecDepth 100000 in
set_option maxHeartbeats 8000000 in
theorem law_Cuts_1 (n : Net) (Aq : Option Addr) (nq cq : Nat) (Aa : Option Addr) (na ca : Nat) (a b at0 : Int) (w : World) (hN : Hid (NetAt w w.heap.size (.slice Aq nq cq) (.slice Aa na ca) n)) (hf : Hid (fewN n = false)) :
    Calls Try.prog 5 #[.agg #[.slice Aq nq cq, .slice Aa na ca], .int .i64 a, .int .i64 b, .int .u64 at0] w fun e w' => e = .returned (.bool true) ∧ Below w.heap.size w w' := by
  have hB := Below.refl w.heap.size w
  go_enter Try.func5, Try.ntmps5
  go_wp2_with fail
  have hst := ((Below.refl w.heap.size w).alloc (by simp <;> omega) (.cells #[.slice Aq nq cq, .slice Aa na ca] 25))
  have hN := hid_later hN hst
  have hB := hB.trans (hst.mono hB.size)
  have X0 := (Box.newAt (w := w) (n := w.heap.size) [.slice Aq nq cq, .slice Aa na ca] 25 (by simp))
  clear hst
  generalize (w.alloc (.cells #[.slice Aq nq cq, .slice Aa na ca] 25)) = w1 at hB  X0 hN ⊢
  generalize w.heap.size = X0a at X0 ⊢
  refine (nSane_any _).mono ?_
  rintro e w2 ⟨rfl, hb⟩
  have X0 := X0.later hb
  have hN := hid_later hN hb
  have hB := hB.trans (hb.mono hB.size)
  clear hb
  have X0c0 : w2.cell? ⟨X0a, 0, none⟩ = some (.slice Aq nq cq) := X0.cell 0
  have X0c1 : w2.cell? ⟨X0a, 1, none⟩ = some (.slice Aa na ca) := X0.cell 1
  have X0z : X0a < w2.heap.size := X0.lt
  go_wp2_with fail
  clear X0c0 X0c1 X0z
  refine (nFew_at hf hN.out).mono ?_
  rintro e w3 ⟨rfl, hb⟩
  have X0 := X0.later hb
  have hN := hid_later hN hb
  have hB := hB.trans (hb.mono hB.size)
  clear hb
  go_wp2
  go_ret
  exact ⟨by first | rfl | simp, hB⟩

set_option maxRecDepth 100000 in
set_option maxHeartbeats 8000000 in
theorem law_Cuts_2 (n : Net) (Aq : Option Addr) (nq cq : Nat) (Aa : Option Addr) (na ca : Nat) (a b at0 : Int) (w : World) (hN : Hid (NetAt w w.heap.size (.slice Aq nq cq) (.slice Aa na ca) n)) (hf : Hid (fewN n = true)) (hc : Hid (n.checkT = 60)) :
    Calls Try.prog 5 #[.agg #[.slice Aq nq cq, .slice Aa na ca], .int .i64 a, .int .i64 b, .int .u64 at0] w fun e w' => e = .returned (.bool true) ∧ Below w.heap.size w w' := by
  have hB := Below.refl w.heap.size w
  go_enter Try.func5, Try.ntmps5
  go_wp2_with fail
  have hst := ((Below.refl w.heap.size w).alloc (by simp <;> omega) (.cells #[.slice Aq nq cq, .slice Aa na ca] 25))
  have hN := hid_later hN hst
  have hB := hB.trans (hst.mono hB.size)
  have X0 := (Box.newAt (w := w) (n := w.heap.size) [.slice Aq nq cq, .slice Aa na ca] 25 (by simp))
  clear hst
  generalize (w.alloc (.cells #[.slice Aq nq cq, .slice Aa na ca] 25)) = w1 at hB  X0 hN ⊢
  generalize w.heap.size = X0a at X0 ⊢
  refine (nSane_any _).mono ?_
  rintro e w2 ⟨rfl, hb⟩
  have X0 := X0.later hb
  have hN := hid_later hN hb
  have hB := hB.trans (hb.mono hB.size)
  clear hb
  have X0c0 : w2.cell? ⟨X0a, 0, none⟩ = some (.slice Aq nq cq) := X0.cell 0
  have X0c1 : w2.cell? ⟨X0a, 1, none⟩ = some (.slice Aa na ca) := X0.cell 1
  have X0z : X0a < w2.heap.size := X0.lt
  go_wp2_with fail
  clear X0c0 X0c1 X0z
  refine (nFew_at hf hN.out).mono ?_
  rintro e w3 ⟨rfl, hb⟩
  have X0 := X0.later hb
  have hN := hid_later hN hb
  have hB := hB.trans (hb.mono hB.size)
  clear hb
  have X0c0 : w3.cell? ⟨X0a, 0, none⟩ = some (.slice Aq nq cq) := X0.cell 0
  have X0c1 : w3.cell? ⟨X0a, 1, none⟩ = some (.slice Aa na ca) := X0.cell 1
  have X0z : X0a < w3.heap.size := X0.lt
  go_wp2_with fail
  clear X0c0 X0c1 X0z
  refine (nCheck_at hc hN.out).mono ?_
  rintro e w4 ⟨rfl, hb⟩
  have X0 := X0.later hb
  have hN := hid_later hN hb
  have hB := hB.trans (hb.mono hB.size)
  clear hb
  go_wp2
  go_ret
  exact ⟨by first | rfl | simp, hB⟩

set_option maxRecDepth 100000 in
set_option maxHeartbeats 8000000 in
theorem law_Cuts_3 (n : Net) (Aq : Option Addr) (nq cq : Nat) (Aa : Option Addr) (na ca : Nat) (a b at0 : Int) (w : World) (hN : Hid (NetAt w w.heap.size (.slice Aq nq cq) (.slice Aa na ca) n)) (hf : Hid (fewN n = true)) (hc : Hid (n.checkT = 0)) (hx : Hid (cutT n a b true = (Net.zero, 1))) :
    Calls Try.prog 5 #[.agg #[.slice Aq nq cq, .slice Aa na ca], .int .i64 a, .int .i64 b, .int .u64 at0] w fun e w' => e = .returned (.bool true) ∧ Below w.heap.size w w' := by
  have hB := Below.refl w.heap.size w
  go_enter Try.func5, Try.ntmps5
  go_wp2_with fail
  have hst := ((Below.refl w.heap.size w).alloc (by simp <;> omega) (.cells #[.slice Aq nq cq, .slice Aa na ca] 25))
  have hN := hid_later hN hst
  have hB := hB.trans (hst.mono hB.size)
  have X0 := (Box.newAt (w := w) (n := w.heap.size) [.slice Aq nq cq, .slice Aa na ca] 25 (by simp))
  clear hst
  generalize (w.alloc (.cells #[.slice Aq nq cq, .slice Aa na ca] 25)) = w1 at hB  X0 hN ⊢
  generalize w.heap.size = X0a at X0 ⊢
  refine (nSane_any _).mono ?_
  rintro e w2 ⟨rfl, hb⟩
  have X0 := X0.later hb
  have hN := hid_later hN hb
  have hB := hB.trans (hb.mono hB.size)
  clear hb
  have X0c0 : w2.cell? ⟨X0a, 0, none⟩ = some (.slice Aq nq cq) := X0.cell 0
  have X0c1 : w2.cell? ⟨X0a, 1, none⟩ = some (.slice Aa na ca) := X0.cell 1
  have X0z : X0a < w2.heap.size := X0.lt
  go_wp2_with fail
  clear X0c0 X0c1 X0z
  refine (nFew_at hf hN.out).mono ?_
  rintro e w3 ⟨rfl, hb⟩
  have X0 := X0.later hb
  have hN := hid_later hN hb
  have hB := hB.trans (hb.mono hB.size)
  clear hb
  have X0c0 : w3.cell? ⟨X0a, 0, none⟩ = some (.slice Aq nq cq) := X0.cell 0
  have X0c1 : w3.cell? ⟨X0a, 1, none⟩ = some (.slice Aa na ca) := X0.cell 1
  have X0z : X0a < w3.heap.size := X0.lt
  go_wp2_with fail
  clear X0c0 X0c1 X0z
  refine (nCheck_at hc hN.out).mono ?_
  rintro e w4 ⟨rfl, hb⟩
  have X0 := X0.later hb
  have hN := hid_later hN hb
  have hB := hB.trans (hb.mono hB.size)
  clear hb
  have X0c0 : w4.cell? ⟨X0a, 0, none⟩ = some (.slice Aq nq cq) := X0.cell 0
  have X0c1 : w4.cell? ⟨X0a, 1, none⟩ = some (.slice Aa na ca) := X0.cell 1
  have X0z : X0a < w4.heap.size := X0.lt
  go_wp2_with fail
  clear X0c0 X0c1 X0z
  refine (nCut_is n a b true hN).mono ?_
  rintro e w5 hh
  obtain ⟨Aq1, cq1, Aa1, ca1, rfl, hN1, hb⟩ := RetNet.is hh hx (a := 0) (b := 0) rfl rfl
  have X0 := X0.later hb
  have hN := hid_later hN hb
  have hB := hB.trans (hb.mono hB.size)
  clear hb
  go_wp2
  go_ret
  exact ⟨by first | rfl | simp, hB.alloc hB.size _⟩

set_option maxRecDepth 100000 in
set_option maxHeartbeats 8000000 in
theorem law_Cuts_4 (n : Net) (Aq : Option Addr) (nq cq : Nat) (Aa : Option Addr) (na ca : Nat) (a b at0 : Int) (w : World) (hN : Hid (NetAt w w.heap.size (.slice Aq nq cq) (.slice Aa na ca) n)) (hf : Hid (fewN n = true)) (hc : Hid (n.checkT = 0)) (hnq : Hid (n.queue.length = nq)) (X : Net) (K : Net) (kf : Nat) (hX : Hid (cutT n a b true = (X, 0))) (hY : Hid (cutT n b a true = (X, 0))) (hZ : Hid (cutT X a b true = (X, 0))) (hM : Hid (cutT X b a false = (K, 0))) (hK : Hid (cutT n a b false = (K, 0))) (hXq : Hid (X.queue.length = nq)) (hKq : Hid (K.queue.length = nq)) (hXa : Hid (X.apart.length = kf + 1)) (hKa : Hid (K.apart.length = kf)) (h0 : nq = 0) (hk : kf ≤ 1000) :
    Calls Try.prog 5 #[.agg #[.slice Aq nq cq, .slice Aa na ca], .int .i64 a, .int .i64 b, .int .u64 at0] w fun e w' => e = .returned (.bool true) ∧ Below w.heap.size w w' := by
  subst h0
  have hB := Below.refl w.heap.size w
  go_enter Try.func5, Try.ntmps5
  go_wp2_with fail
  have hst := ((Below.refl w.heap.size w).alloc (by simp <;> omega) (.cells #[.slice Aq 0 cq, .slice Aa na ca] 25))
  have hN := hid_later hN hst
  have hB := hB.trans (hst.mono hB.size)
  have X0 := (Box.newAt (w := w) (n := w.heap.size) [.slice Aq 0 cq, .slice Aa na ca] 25 (by simp))
  clear hst
  generalize (w.alloc (.cells #[.slice Aq 0 cq, .slice Aa na ca] 25)) = w1 at hB  X0 hN ⊢
  generalize w.heap.size = X0a at X0 ⊢
  refine (nSane_any _).mono ?_
  rintro e w2 ⟨rfl, hb⟩
  have X0 := X0.later hb
  have hN := hid_later hN hb
  have hB := hB.trans (hb.mono hB.size)
  clear hb
  have X0c0 : w2.cell? ⟨X0a, 0, none⟩ = some (.slice Aq 0 cq) := X0.cell 0
  have X0c1 : w2.cell? ⟨X0a, 1, none⟩ = some (.slice Aa na ca) := X0.cell 1
  have X0z : X0a < w2.heap.size := X0.lt
  go_wp2_with fail
  clear X0c0 X0c1 X0z
  refine (nFew_at hf hN.out).mono ?_
  rintro e w3 ⟨rfl, hb⟩
  have X0 := X0.later hb
  have hN := hid_later hN hb
  have hB := hB.trans (hb.mono hB.size)
  clear hb
  have X0c0 : w3.cell? ⟨X0a, 0, none⟩ = some (.slice Aq 0 cq) := X0.cell 0
  have X0c1 : w3.cell? ⟨X0a, 1, none⟩ = some (.slice Aa na ca) := X0.cell 1
  have X0z : X0a < w3.heap.size := X0.lt
  go_wp2_with fail
  clear X0c0 X0c1 X0z
  refine (nCheck_at hc hN.out).mono ?_
  rintro e w4 ⟨rfl, hb⟩
  have X0 := X0.later hb
  have hN := hid_later hN hb
  have hB := hB.trans (hb.mono hB.size)
  clear hb
  have X0c0 : w4.cell? ⟨X0a, 0, none⟩ = some (.slice Aq 0 cq) := X0.cell 0
  have X0c1 : w4.cell? ⟨X0a, 1, none⟩ = some (.slice Aa na ca) := X0.cell 1
  have X0z : X0a < w4.heap.size := X0.lt
  go_wp2_with fail
  clear X0c0 X0c1 X0z
  refine (nCut_is n a b true hN).mono ?_
  rintro e w5 hh
  obtain ⟨Aq1, cq1, Aa1, ca1, rfl, hN1, hb⟩ := RetNet.is hh hX hXq hXa
  have X0 := X0.later hb
  have hN := hid_later hN hb
  have hB := hB.trans (hb.mono hB.size)
  clear hb
  have X0c0 : w5.cell? ⟨X0a, 0, none⟩ = some (.slice Aq 0 cq) := X0.cell 0
  have X0c1 : w5.cell? ⟨X0a, 1, none⟩ = some (.slice Aa na ca) := X0.cell 1
  have X0z : X0a < w5.heap.size := X0.lt
  go_wp2_with fail
  clear X0c0 X0c1 X0z
  have hst := ((Below.refl w5.heap.size w5).alloc (by simp <;> omega) (.cells #[.slice Aq1 0 cq1, .slice Aa1 (kf + 1) ca1] 25))
  have X0 := X0.later hst
  have hN := hid_later hN hst
  have hN1 := hid_later hN1 hst
  have hB := hB.trans (hst.mono hB.size)
  have X1 := (Box.newAt (w := w5) (n := w5.heap.size) [.slice Aq1 0 cq1, .slice Aa1 (kf + 1) ca1] 25 (by simp))
  clear hst
  generalize (w5.alloc (.cells #[.slice Aq1 0 cq1, .slice Aa1 (kf + 1) ca1] 25)) = w6 at hB X0 X1 hN hN1 ⊢
  generalize w5.heap.size = X1a at X1 ⊢
  refine (nCut_is n b a true hN).mono ?_
  rintro e w7 hh
  obtain ⟨Aq2, cq2, Aa2, ca2, rfl, hN2, hb⟩ := RetNet.is hh hY hXq hXa
  have X0 := X0.later hb
  have X1 := X1.later hb
  have hN := hid_later hN hb
  have hN1 := hid_later hN1 hb
  have hB := hB.trans (hb.mono hB.size)
  clear hb
  have X1c0 : w7.cell? ⟨X1a, 0, none⟩ = some (.slice Aq1 0 cq1) := X1.cell 0
  have X1c1 : w7.cell? ⟨X1a, 1, none⟩ = some (.slice Aa1 (kf + 1) ca1) := X1.cell 1
  have X1z : X1a < w7.heap.size := X1.lt
  go_wp2_with fail
  clear X1c0 X1c1 X1z
  have hst := ((Below.refl w7.heap.size w7).alloc (by simp <;> omega) (.cells #[.slice Aq2 0 cq2, .slice Aa2 (kf + 1) ca2] 25))
  have X0 := X0.later hst
  have X1 := X1.later hst
  have hN := hid_later hN hst
  have hN1 := hid_later hN1 hst
  have hN2 := hid_later hN2 hst
  have hB := hB.trans (hst.mono hB.size)
  have X2 := (Box.newAt (w := w7) (n := w7.heap.size) [.slice Aq2 0 cq2, .slice Aa2 (kf + 1) ca2] 25 (by simp))
  clear hst
  generalize (w7.alloc (.cells #[.slice Aq2 0 cq2, .slice Aa2 (kf + 1) ca2] 25)) = w8 at hB X0 X1 X2 hN hN1 hN2 ⊢
  generalize w7.heap.size = X2a at X2 ⊢
  refine (nCut_is X a b true hN1).mono ?_
  rintro e w9 hh
  obtain ⟨Aq3, cq3, Aa3, ca3, rfl, hN3, hb⟩ := RetNet.is hh hZ hXq hXa
  have X0 := X0.later hb
  have X1 := X1.later hb
  have X2 := X2.later hb
  have hN := hid_later hN hb
  have hN1 := hid_later hN1 hb
  have hN2 := hid_later hN2 hb
  have hB := hB.trans (hb.mono hB.size)
  clear hb
  have X1c0 : w9.cell? ⟨X1a, 0, none⟩ = some (.slice Aq1 0 cq1) := X1.cell 0
  have X1c1 : w9.cell? ⟨X1a, 1, none⟩ = some (.slice Aa1 (kf + 1) ca1) := X1.cell 1
  have X1z : X1a < w9.heap.size := X1.lt
  go_wp2_with fail
  clear X1c0 X1c1 X1z
  have hst := ((Below.refl w9.heap.size w9).alloc (by simp <;> omega) (.cells #[.slice Aq3 0 cq3, .slice Aa3 (kf + 1) ca3] 25))
  have X0 := X0.later hst
  have X1 := X1.later hst
  have X2 := X2.later hst
  have hN := hid_later hN hst
  have hN1 := hid_later hN1 hst
  have hN2 := hid_later hN2 hst
  have hN3 := hid_later hN3 hst
  have hB := hB.trans (hst.mono hB.size)
  have X3 := (Box.newAt (w := w9) (n := w9.heap.size) [.slice Aq3 0 cq3, .slice Aa3 (kf + 1) ca3] 25 (by simp))
  clear hst
  generalize (w9.alloc (.cells #[.slice Aq3 0 cq3, .slice Aa3 (kf + 1) ca3] 25)) = w10 at hB X0 X1 X2 X3 hN hN1 hN2 hN3 ⊢
  generalize w9.heap.size = X3a at X3 ⊢
  refine (nCut_is X b a false hN1).mono ?_
  rintro e w11 hh
  obtain ⟨Aq4, cq4, Aa4, ca4, rfl, hN4, hb⟩ := RetNet.is hh hM hKq hKa
  have X0 := X0.later hb
  have X1 := X1.later hb
  have X2 := X2.later hb
  have X3 := X3.later hb
  have hN := hid_later hN hb
  have hN1 := hid_later hN1 hb
  have hN2 := hid_later hN2 hb
  have hN3 := hid_later hN3 hb
  have hB := hB.trans (hb.mono hB.size)
  clear hb
  have X0c0 : w11.cell? ⟨X0a, 0, none⟩ = some (.slice Aq 0 cq) := X0.cell 0
  have X0c1 : w11.cell? ⟨X0a, 1, none⟩ = some (.slice Aa na ca) := X0.cell 1
  have X0z : X0a < w11.heap.size := X0.lt
  go_wp2_with fail
  clear X0c0 X0c1 X0z
  have hst := ((Below.refl w11.heap.size w11).alloc (by simp <;> omega) (.cells #[.slice Aq4 0 cq4, .slice Aa4 kf ca4] 25))
  have X0 := X0.later hst
  have X1 := X1.later hst
  have X2 := X2.later hst
  have X3 := X3.later hst
  have hN := hid_later hN hst
  have hN1 := hid_later hN1 hst
  have hN2 := hid_later hN2 hst
  have hN3 := hid_later hN3 hst
  have hN4 := hid_later hN4 hst
  have hB := hB.trans (hst.mono hB.size)
  have X4 := (Box.newAt (w := w11) (n := w11.heap.size) [.slice Aq4 0 cq4, .slice Aa4 kf ca4] 25 (by simp))
  clear hst
  generalize (w11.alloc (.cells #[.slice Aq4 0 cq4, .slice Aa4 kf ca4] 25)) = w12 at hB X0 X1 X2 X3 X4 hN hN1 hN2 hN3 hN4 ⊢
  generalize w11.heap.size = X4a at X4 ⊢
  refine (nCut_is n a b false hN).mono ?_
  rintro e w13 hh
  obtain ⟨Aq5, cq5, Aa5, ca5, rfl, hN5, hb⟩ := RetNet.is hh hK hKq hKa
  have X0 := X0.later hb
  have X1 := X1.later hb
  have X2 := X2.later hb
  have X3 := X3.later hb
  have X4 := X4.later hb
  have hN := hid_later hN hb
  have hN1 := hid_later hN1 hb
  have hN2 := hid_later hN2 hb
  have hN3 := hid_later hN3 hb
  have hN4 := hid_later hN4 hb
  have hB := hB.trans (hb.mono hB.size)
  clear hb
  have X1c0 : w13.cell? ⟨X1a, 0, none⟩ = some (.slice Aq1 0 cq1) := X1.cell 0
  have X1c1 : w13.cell? ⟨X1a, 1, none⟩ = some (.slice Aa1 (kf + 1) ca1) := X1.cell 1
  have X1z : X1a < w13.heap.size := X1.lt
  have X2c0 : w13.cell? ⟨X2a, 0, none⟩ = some (.slice Aq2 0 cq2) := X2.cell 0
  have X2c1 : w13.cell? ⟨X2a, 1, none⟩ = some (.slice Aa2 (kf + 1) ca2) := X2.cell 1
  have X2z : X2a < w13.heap.size := X2.lt
  go_wp2_with fail
  clear X1c0 X1c1 X1z X2c0 X2c1 X2z
  have hst := ((Below.refl w13.heap.size w13).alloc (by simp <;> omega) (.cells #[.slice Aq5 0 cq5, .slice Aa5 kf ca5] 25))
  have X0 := X0.later hst
  have X1 := X1.later hst
  have X2 := X2.later hst
  have X3 := X3.later hst
  have X4 := X4.later hst
  have hN := hid_later hN hst
  have hN1 := hid_later hN1 hst
  have hN2 := hid_later hN2 hst
  have hN3 := hid_later hN3 hst
  have hN4 := hid_later hN4 hst
  have hN5 := hid_later hN5 hst
  have hB := hB.trans (hst.mono hB.size)
  have X5 := (Box.newAt (w := w13) (n := w13.heap.size) [.slice Aq5 0 cq5, .slice Aa5 kf ca5] 25 (by simp))
  clear hst
  generalize (w13.alloc (.cells #[.slice Aq5 0 cq5, .slice Aa5 kf ca5] 25)) = w14 at hB X0 X1 X2 X3 X4 X5 hN hN1 hN2 hN3 hN4 hN5 ⊢
  generalize w13.heap.size = X5a at X5 ⊢
  refine (nSame_at (same_refl_hid X) hN1.out hN2.out).mono ?_
  rintro e w15 ⟨rfl, hb⟩
  have X0 := X0.later hb
  have X1 := X1.later hb
  have X2 := X2.later hb
  have X3 := X3.later hb
  have X4 := X4.later hb
  have X5 := X5.later hb
  have hN := hid_later hN hb
  have hN1 := hid_later hN1 hb
  have hN2 := hid_later hN2 hb
  have hN3 := hid_later hN3 hb
  have hN4 := hid_later hN4 hb
  have hN5 := hid_later hN5 hb
  have hB := hB.trans (hb.mono hB.size)
  clear hb
  have X1c0 : w15.cell? ⟨X1a, 0, none⟩ = some (.slice Aq1 0 cq1) := X1.cell 0
  have X1c1 : w15.cell? ⟨X1a, 1, none⟩ = some (.slice Aa1 (kf + 1) ca1) := X1.cell 1
  have X1z : X1a < w15.heap.size := X1.lt
  have X3c0 : w15.cell? ⟨X3a, 0, none⟩ = some (.slice Aq3 0 cq3) := X3.cell 0
  have X3c1 : w15.cell? ⟨X3a, 1, none⟩ = some (.slice Aa3 (kf + 1) ca3) := X3.cell 1
  have X3z : X3a < w15.heap.size := X3.lt
  go_wp2_with fail
  clear X1c0 X1c1 X1z X3c0 X3c1 X3z
  refine (nSame_at (same_refl_hid X) hN1.out hN3.out).mono ?_
  rintro e w16 ⟨rfl, hb⟩
  have X0 := X0.later hb
  have X1 := X1.later hb
  have X2 := X2.later hb
  have X3 := X3.later hb
  have X4 := X4.later hb
  have X5 := X5.later hb
  have hN := hid_later hN hb
  have hN1 := hid_later hN1 hb
  have hN2 := hid_later hN2 hb
  have hN3 := hid_later hN3 hb
  have hN4 := hid_later hN4 hb
  have hN5 := hid_later hN5 hb
  have hB := hB.trans (hb.mono hB.size)
  clear hb
  clear X2 hN2 X3 hN3
  have X4c0 : w16.cell? ⟨X4a, 0, none⟩ = some (.slice Aq4 0 cq4) := X4.cell 0
  have X4c1 : w16.cell? ⟨X4a, 1, none⟩ = some (.slice Aa4 kf ca4) := X4.cell 1
  have X4z : X4a < w16.heap.size := X4.lt
  have X5c0 : w16.cell? ⟨X5a, 0, none⟩ = some (.slice Aq5 0 cq5) := X5.cell 0
  have X5c1 : w16.cell? ⟨X5a, 1, none⟩ = some (.slice Aa5 kf ca5) := X5.cell 1
  have X5z : X5a < w16.heap.size := X5.lt
  go_wp2_with fail
  clear X4c0 X4c1 X4z X5c0 X5c1 X5z
  refine (nSame_at (same_refl_hid K) hN4.out hN5.out).mono ?_
  rintro e w17 ⟨rfl, hb⟩
  have X0 := X0.later hb
  have X1 := X1.later hb
  have X4 := X4.later hb
  have X5 := X5.later hb
  have hN := hid_later hN hb
  have hN1 := hid_later hN1 hb
  have hN4 := hid_later hN4 hb
  have hN5 := hid_later hN5 hb
  have hB := hB.trans (hb.mono hB.size)
  clear hb
  clear X4 hN4
  have X0c0 : w17.cell? ⟨X0a, 0, none⟩ = some (.slice Aq 0 cq) := X0.cell 0
  have X0c1 : w17.cell? ⟨X0a, 1, none⟩ = some (.slice Aa na ca) := X0.cell 1
  have X0z : X0a < w17.heap.size := X0.lt
  have X1c0 : w17.cell? ⟨X1a, 0, none⟩ = some (.slice Aq1 0 cq1) := X1.cell 0
  have X1c1 : w17.cell? ⟨X1a, 1, none⟩ = some (.slice Aa1 (kf + 1) ca1) := X1.cell 1
  have X1z : X1a < w17.heap.size := X1.lt
  have X5c0 : w17.cell? ⟨X5a, 0, none⟩ = some (.slice Aq5 0 cq5) := X5.cell 0
  have X5c1 : w17.cell? ⟨X5a, 1, none⟩ = some (.slice Aa5 kf ca5) := X5.cell 1
  have X5z : X5a < w17.heap.size := X5.lt
  go_wp2
  go_ret
  exact ⟨by first | rfl | simp, hB⟩

set_option maxRecDepth 100000 in
set_option maxHeartbeats 8000000 in
theorem law_Cuts_5 (n : Net) (Aq : Option Addr) (nq cq : Nat) (Aa : Option Addr) (na ca : Nat) (a b at0 : Int) (w : World) (hN : Hid (NetAt w w.heap.size (.slice Aq nq cq) (.slice Aa na ca) n)) (hf : Hid (fewN n = true)) (hc : Hid (n.checkT = 0)) (hnq : Hid (n.queue.length = nq)) (X : Net) (K : Net) (kf : Nat) (hX : Hid (cutT n a b true = (X, 0))) (hY : Hid (cutT n b a true = (X, 0))) (hZ : Hid (cutT X a b true = (X, 0))) (hM : Hid (cutT X b a false = (K, 0))) (hK : Hid (cutT n a b false = (K, 0))) (hXq : Hid (X.queue.length = nq)) (hKq : Hid (K.queue.length = nq)) (hXa : Hid (X.apart.length = kf + 1)) (hKa : Hid (K.apart.length = kf)) (hat : 0 ≤ at0) (h0 : 0 < nq) (h40 : nq ≤ 40) (hk : kf ≤ 1000) (k : Nat) (HK : Hid (at0 % (nq : Int) = (k : Int))) (hkl : k < nq) (p q : Pk) (pl ql : Nat) (hpl : Hid (p.data.length = pl)) (hql : Hid (q.data.length = ql)) (hp : Hid (deliverT X k = (p, X.without k, 0))) (hq : Hid (deliverT K k = (q, K.without k, 0))) (hwx : Hid ((X.without k).queue.length = nq - 1)) (hwk : Hid ((K.without k).queue.length = nq - 1)) (t1 t2 t3 t4 sq : Bool) (u1 : Hid ((q.src == a) = t1)) (u2 : Hid ((q.dst == b) = t2)) (u3 : Hid ((q.src == b) = t3)) (u4 : Hid ((q.dst == a) = t4)) (hsq : Hid (samePk q Pk.zero = sq)) (hbt : Hid ((((t1 && t2) || (t3 && t4)) = true ∧ samePk p Pk.zero = true) ∨ (((t1 && t2) || (t3 && t4)) = false ∧ samePk p Pk.zero = sq ∧ samePk p q = true))) :
    Calls Try.prog 5 #[.agg #[.slice Aq nq cq, .slice Aa na ca], .int .i64 a, .int .i64 b, .int .u64 at0] w fun e w' => e = .returned (.bool true) ∧ Below w.heap.size w w' := by
  have hB := Below.refl w.heap.size w
  go_enter Try.func5, Try.ntmps5
  go_wp2_with fail
  have hst := ((Below.refl w.heap.size w).alloc (by simp <;> omega) (.cells #[.slice Aq nq cq, .slice Aa na ca] 25))
  have hN := hid_later hN hst
  have hB := hB.trans (hst.mono hB.size)
  have X0 := (Box.newAt (w := w) (n := w.heap.size) [.slice Aq nq cq, .slice Aa na ca] 25 (by simp))
  clear hst
  generalize (w.alloc (.cells #[.slice Aq nq cq, .slice Aa na ca] 25)) = w1 at hB  X0 hN ⊢
  generalize w.heap.size = X0a at X0 ⊢
  refine (nSane_any _).mono ?_
  rintro e w2 ⟨rfl, hb⟩
  have X0 := X0.later hb
  have hN := hid_later hN hb
  have hB := hB.trans (hb.mono hB.size)
  clear hb
  have X0c0 : w2.cell? ⟨X0a, 0, none⟩ = some (.slice Aq nq cq) := X0.cell 0
  have X0c1 : w2.cell? ⟨X0a, 1, none⟩ = some (.slice Aa na ca) := X0.cell 1
  have X0z : X0a < w2.heap.size := X0.lt
  go_wp2_with fail
  clear X0c0 X0c1 X0z
  refine (nFew_at hf hN.out).mono ?_
  rintro e w3 ⟨rfl, hb⟩
  have X0 := X0.later hb
  have hN := hid_later hN hb
  have hB := hB.trans (hb.mono hB.size)
  clear hb
  have X0c0 : w3.cell? ⟨X0a, 0, none⟩ = some (.slice Aq nq cq) := X0.cell 0
  have X0c1 : w3.cell? ⟨X0a, 1, none⟩ = some (.slice Aa na ca) := X0.cell 1
  have X0z : X0a < w3.heap.size := X0.lt
  go_wp2_with fail
  clear X0c0 X0c1 X0z
  refine (nCheck_at hc hN.out).mono ?_
  rintro e w4 ⟨rfl, hb⟩
  have X0 := X0.later hb
  have hN := hid_later hN hb
  have hB := hB.trans (hb.mono hB.size)
  clear hb
  have X0c0 : w4.cell? ⟨X0a, 0, none⟩ = some (.slice Aq nq cq) := X0.cell 0
  have X0c1 : w4.cell? ⟨X0a, 1, none⟩ = some (.slice Aa na ca) := X0.cell 1
  have X0z : X0a < w4.heap.size := X0.lt
  go_wp2_with fail
  clear X0c0 X0c1 X0z
  refine (nCut_is n a b true hN).mono ?_
  rintro e w5 hh
  obtain ⟨Aq1, cq1, Aa1, ca1, rfl, hN1, hb⟩ := RetNet.is hh hX hXq hXa
  have X0 := X0.later hb
  have hN := hid_later hN hb
  have hB := hB.trans (hb.mono hB.size)
  clear hb
  have X0c0 : w5.cell? ⟨X0a, 0, none⟩ = some (.slice Aq nq cq) := X0.cell 0
  have X0c1 : w5.cell? ⟨X0a, 1, none⟩ = some (.slice Aa na ca) := X0.cell 1
  have X0z : X0a < w5.heap.size := X0.lt
  go_wp2_with fail
  clear X0c0 X0c1 X0z
  have hst := ((Below.refl w5.heap.size w5).alloc (by simp <;> omega) (.cells #[.slice Aq1 nq cq1, .slice Aa1 (kf + 1) ca1] 25))
  have X0 := X0.later hst
  have hN := hid_later hN hst
  have hN1 := hid_later hN1 hst
  have hB := hB.trans (hst.mono hB.size)
  have X1 := (Box.newAt (w := w5) (n := w5.heap.size) [.slice Aq1 nq cq1, .slice Aa1 (kf + 1) ca1] 25 (by simp))
  clear hst
  generalize (w5.alloc (.cells #[.slice Aq1 nq cq1, .slice Aa1 (kf + 1) ca1] 25)) = w6 at hB X0 X1 hN hN1 ⊢
  generalize w5.heap.size = X1a at X1 ⊢
  refine (nCut_is n b a true hN).mono ?_
  rintro e w7 hh
  obtain ⟨Aq2, cq2, Aa2, ca2, rfl, hN2, hb⟩ := RetNet.is hh hY hXq hXa
  have X0 := X0.later hb
  have X1 := X1.later hb
  have hN := hid_later hN hb
  have hN1 := hid_later hN1 hb
  have hB := hB.trans (hb.mono hB.size)
  clear hb
  have X1c0 : w7.cell? ⟨X1a, 0, none⟩ = some (.slice Aq1 nq cq1) := X1.cell 0
  have X1c1 : w7.cell? ⟨X1a, 1, none⟩ = some (.slice Aa1 (kf + 1) ca1) := X1.cell 1
  have X1z : X1a < w7.heap.size := X1.lt
  go_wp2_with fail
  clear X1c0 X1c1 X1z
  have hst := ((Below.refl w7.heap.size w7).alloc (by simp <;> omega) (.cells #[.slice Aq2 nq cq2, .slice Aa2 (kf + 1) ca2] 25))
  have X0 := X0.later hst
  have X1 := X1.later hst
  have hN := hid_later hN hst
  have hN1 := hid_later hN1 hst
  have hN2 := hid_later hN2 hst
  have hB := hB.trans (hst.mono hB.size)
  have X2 := (Box.newAt (w := w7) (n := w7.heap.size) [.slice Aq2 nq cq2, .slice Aa2 (kf + 1) ca2] 25 (by simp))
  clear hst
  generalize (w7.alloc (.cells #[.slice Aq2 nq cq2, .slice Aa2 (kf + 1) ca2] 25)) = w8 at hB X0 X1 X2 hN hN1 hN2 ⊢
  generalize w7.heap.size = X2a at X2 ⊢
  refine (nCut_is X a b true hN1).mono ?_
  rintro e w9 hh
  obtain ⟨Aq3, cq3, Aa3, ca3, rfl, hN3, hb⟩ := RetNet.is hh hZ hXq hXa
  have X0 := X0.later hb
  have X1 := X1.later hb
  have X2 := X2.later hb
  have hN := hid_later hN hb
  have hN1 := hid_later hN1 hb
  have hN2 := hid_later hN2 hb
  have hB := hB.trans (hb.mono hB.size)
  clear hb
  have X1c0 : w9.cell? ⟨X1a, 0, none⟩ = some (.slice Aq1 nq cq1) := X1.cell 0
  have X1c1 : w9.cell? ⟨X1a, 1, none⟩ = some (.slice Aa1 (kf + 1) ca1) := X1.cell 1
  have X1z : X1a < w9.heap.size := X1.lt
  go_wp2_with fail
  clear X1c0 X1c1 X1z
  have hst := ((Below.refl w9.heap.size w9).alloc (by simp <;> omega) (.cells #[.slice Aq3 nq cq3, .slice Aa3 (kf + 1) ca3] 25))
  have X0 := X0.later hst
  have X1 := X1.later hst
  have X2 := X2.later hst
  have hN := hid_later hN hst
  have hN1 := hid_later hN1 hst
  have hN2 := hid_later hN2 hst
  have hN3 := hid_later hN3 hst
  have hB := hB.trans (hst.mono hB.size)
  have X3 := (Box.newAt (w := w9) (n := w9.heap.size) [.slice Aq3 nq cq3, .slice Aa3 (kf + 1) ca3] 25 (by simp))
  clear hst
  generalize (w9.alloc (.cells #[.slice Aq3 nq cq3, .slice Aa3 (kf + 1) ca3] 25)) = w10 at hB X0 X1 X2 X3 hN hN1 hN2 hN3 ⊢
  generalize w9.heap.size = X3a at X3 ⊢
  refine (nCut_is X b a false hN1).mono ?_
  rintro e w11 hh
  obtain ⟨Aq4, cq4, Aa4, ca4, rfl, hN4, hb⟩ := RetNet.is hh hM hKq hKa
  have X0 := X0.later hb
  have X1 := X1.later hb
  have X2 := X2.later hb
  have X3 := X3.later hb
  have hN := hid_later hN hb
  have hN1 := hid_later hN1 hb
  have hN2 := hid_later hN2 hb
  have hN3 := hid_later hN3 hb
  have hB := hB.trans (hb.mono hB.size)
  clear hb
  have X0c0 : w11.cell? ⟨X0a, 0, none⟩ = some (.slice Aq nq cq) := X0.cell 0
  have X0c1 : w11.cell? ⟨X0a, 1, none⟩ = some (.slice Aa na ca) := X0.cell 1
  have X0z : X0a < w11.heap.size := X0.lt
  go_wp2_with fail
  clear X0c0 X0c1 X0z
  have hst := ((Below.refl w11.heap.size w11).alloc (by simp <;> omega) (.cells #[.slice Aq4 nq cq4, .slice Aa4 kf ca4] 25))
  have X0 := X0.later hst
  have X1 := X1.later hst
  have X2 := X2.later hst
  have X3 := X3.later hst
  have hN := hid_later hN hst
  have hN1 := hid_later hN1 hst
  have hN2 := hid_later hN2 hst
  have hN3 := hid_later hN3 hst
  have hN4 := hid_later hN4 hst
  have hB := hB.trans (hst.mono hB.size)
  have X4 := (Box.newAt (w := w11) (n := w11.heap.size) [.slice Aq4 nq cq4, .slice Aa4 kf ca4] 25 (by simp))
  clear hst
  generalize (w11.alloc (.cells #[.slice Aq4 nq cq4, .slice Aa4 kf ca4] 25)) = w12 at hB X0 X1 X2 X3 X4 hN hN1 hN2 hN3 hN4 ⊢
  generalize w11.heap.size = X4a at X4 ⊢
  refine (nCut_is n a b false hN).mono ?_
  rintro e w13 hh
  obtain ⟨Aq5, cq5, Aa5, ca5, rfl, hN5, hb⟩ := RetNet.is hh hK hKq hKa
  have X0 := X0.later hb
  have X1 := X1.later hb
  have X2 := X2.later hb
  have X3 := X3.later hb
  have X4 := X4.later hb
  have hN := hid_later hN hb
  have hN1 := hid_later hN1 hb
  have hN2 := hid_later hN2 hb
  have hN3 := hid_later hN3 hb
  have hN4 := hid_later hN4 hb
  have hB := hB.trans (hb.mono hB.size)
  clear hb
  have X1c0 : w13.cell? ⟨X1a, 0, none⟩ = some (.slice Aq1 nq cq1) := X1.cell 0
  have X1c1 : w13.cell? ⟨X1a, 1, none⟩ = some (.slice Aa1 (kf + 1) ca1) := X1.cell 1
  have X1z : X1a < w13.heap.size := X1.lt
  have X2c0 : w13.cell? ⟨X2a, 0, none⟩ = some (.slice Aq2 nq cq2) := X2.cell 0
  have X2c1 : w13.cell? ⟨X2a, 1, none⟩ = some (.slice Aa2 (kf + 1) ca2) := X2.cell 1
  have X2z : X2a < w13.heap.size := X2.lt
  go_wp2_with fail
  clear X1c0 X1c1 X1z X2c0 X2c1 X2z
  have hst := ((Below.refl w13.heap.size w13).alloc (by simp <;> omega) (.cells #[.slice Aq5 nq cq5, .slice Aa5 kf ca5] 25))
  have X0 := X0.later hst
  have X1 := X1.later hst
  have X2 := X2.later hst
  have X3 := X3.later hst
  have X4 := X4.later hst
  have hN := hid_later hN hst
  have hN1 := hid_later hN1 hst
  have hN2 := hid_later hN2 hst
  have hN3 := hid_later hN3 hst
  have hN4 := hid_later hN4 hst
  have hN5 := hid_later hN5 hst
  have hB := hB.trans (hst.mono hB.size)
  have X5 := (Box.newAt (w := w13) (n := w13.heap.size) [.slice Aq5 nq cq5, .slice Aa5 kf ca5] 25 (by simp))
  clear hst
  generalize (w13.alloc (.cells #[.slice Aq5 nq cq5, .slice Aa5 kf ca5] 25)) = w14 at hB X0 X1 X2 X3 X4 X5 hN hN1 hN2 hN3 hN4 hN5 ⊢
  generalize w13.heap.size = X5a at X5 ⊢
  refine (nSame_at (same_refl_hid X) hN1.out hN2.out).mono ?_
  rintro e w15 ⟨rfl, hb⟩
  have X0 := X0.later hb
  have X1 := X1.later hb
  have X2 := X2.later hb
  have X3 := X3.later hb
  have X4 := X4.later hb
  have X5 := X5.later hb
  have hN := hid_later hN hb
  have hN1 := hid_later hN1 hb
  have hN2 := hid_later hN2 hb
  have hN3 := hid_later hN3 hb
  have hN4 := hid_later hN4 hb
  have hN5 := hid_later hN5 hb
  have hB := hB.trans (hb.mono hB.size)
  clear hb
  have X1c0 : w15.cell? ⟨X1a, 0, none⟩ = some (.slice Aq1 nq cq1) := X1.cell 0
  have X1c1 : w15.cell? ⟨X1a, 1, none⟩ = some (.slice Aa1 (kf + 1) ca1) := X1.cell 1
  have X1z : X1a < w15.heap.size := X1.lt
  have X3c0 : w15.cell? ⟨X3a, 0, none⟩ = some (.slice Aq3 nq cq3) := X3.cell 0
  have X3c1 : w15.cell? ⟨X3a, 1, none⟩ = some (.slice Aa3 (kf + 1) ca3) := X3.cell 1
  have X3z : X3a < w15.heap.size := X3.lt
  go_wp2_with fail
  clear X1c0 X1c1 X1z X3c0 X3c1 X3z
  refine (nSame_at (same_refl_hid X) hN1.out hN3.out).mono ?_
  rintro e w16 ⟨rfl, hb⟩
  have X0 := X0.later hb
  have X1 := X1.later hb
  have X2 := X2.later hb
  have X3 := X3.later hb
  have X4 := X4.later hb
  have X5 := X5.later hb
  have hN := hid_later hN hb
  have hN1 := hid_later hN1 hb
  have hN2 := hid_later hN2 hb
  have hN3 := hid_later hN3 hb
  have hN4 := hid_later hN4 hb
  have hN5 := hid_later hN5 hb
  have hB := hB.trans (hb.mono hB.size)
  clear hb
  clear X2 hN2 X3 hN3
  have X4c0 : w16.cell? ⟨X4a, 0, none⟩ = some (.slice Aq4 nq cq4) := X4.cell 0
  have X4c1 : w16.cell? ⟨X4a, 1, none⟩ = some (.slice Aa4 kf ca4) := X4.cell 1
  have X4z : X4a < w16.heap.size := X4.lt
  have X5c0 : w16.cell? ⟨X5a, 0, none⟩ = some (.slice Aq5 nq cq5) := X5.cell 0
  have X5c1 : w16.cell? ⟨X5a, 1, none⟩ = some (.slice Aa5 kf ca5) := X5.cell 1
  have X5z : X5a < w16.heap.size := X5.lt
  go_wp2_with fail
  clear X4c0 X4c1 X4z X5c0 X5c1 X5z
  refine (nSame_at (same_refl_hid K) hN4.out hN5.out).mono ?_
  rintro e w17 ⟨rfl, hb⟩
  have X0 := X0.later hb
  have X1 := X1.later hb
  have X4 := X4.later hb
  have X5 := X5.later hb
  have hN := hid_later hN hb
  have hN1 := hid_later hN1 hb
  have hN4 := hid_later hN4 hb
  have hN5 := hid_later hN5 hb
  have hB := hB.trans (hb.mono hB.size)
  clear hb
  clear X4 hN4
  have hk1 := HK.out
  have i1 : (0 : Int) < (nq : Int) := by omega
  have i2 : (nq : Int) ≤ 40 := by omega
  have X0c0 : w17.cell? ⟨X0a, 0, none⟩ = some (.slice Aq nq cq) := X0.cell 0
  have X0c1 : w17.cell? ⟨X0a, 1, none⟩ = some (.slice Aa na ca) := X0.cell 1
  have X0z : X0a < w17.heap.size := X0.lt
  have X1c0 : w17.cell? ⟨X1a, 0, none⟩ = some (.slice Aq1 nq cq1) := X1.cell 0
  have X1c1 : w17.cell? ⟨X1a, 1, none⟩ = some (.slice Aa1 (kf + 1) ca1) := X1.cell 1
  have X1z : X1a < w17.heap.size := X1.lt
  have X5c0 : w17.cell? ⟨X5a, 0, none⟩ = some (.slice Aq5 nq cq5) := X5.cell 0
  have X5c1 : w17.cell? ⟨X5a, 1, none⟩ = some (.slice Aa5 kf ca5) := X5.cell 1
  have X5z : X5a < w17.heap.size := X5.lt
  go_wp2_with fail
  clear X0c0 X0c1 X0z X1c0 X1c1 X1z X5c0 X5c1 X5z
  refine (nDeliver_is X k hN1).mono ?_
  rintro e w18 hh
  clear hk1 i1 i2
  obtain ⟨Ad6, cd6, Aq6, cq6, Aa6, ca6, rfl, hV6, hN6, hb⟩ := RetDel.is hh hp hwx hXa hpl
  have X0 := X0.later hb
  have X1 := X1.later hb
  have X5 := X5.later hb
  have hN := hid_later hN hb
  have hN1 := hid_later hN1 hb
  have hN5 := hid_later hN5 hb
  have hB := hB.trans (hb.mono hB.size)
  clear hb
  have X5c0 : w18.cell? ⟨X5a, 0, none⟩ = some (.slice Aq5 nq cq5) := X5.cell 0
  have X5c1 : w18.cell? ⟨X5a, 1, none⟩ = some (.slice Aa5 kf ca5) := X5.cell 1
  have X5z : X5a < w18.heap.size := X5.lt
  have X5z1 : X5a < w18.heap.size + 1 := by omega
  go_wp2_with fail
  clear X5c0 X5c1 X5z X5z1
  have hst := (((Below.refl w18.heap.size w18).alloc (by simp <;> omega) (.cells #[.int .i64 p.src, .int .i64 p.dst, .slice Ad6 pl cd6] 28)).alloc (by simp <;> omega) (.cells #[.slice Aq6 (nq - 1) cq6, .slice Aa6 (kf + 1) ca6] 25))
  have X0 := X0.later hst
  have X1 := X1.later hst
  have X5 := X5.later hst
  have hN := hid_later hN hst
  have hN1 := hid_later hN1 hst
  have hN5 := hid_later hN5 hst
  have hV6 := hid_bytes hV6 hst
  have hB := hB.trans (hst.mono hB.size)
  have P6 := ((Box.newAt (w := w18) (n := w18.heap.size) [.int .i64 p.src, .int .i64 p.dst, .slice Ad6 pl cd6] 28 (by simp)).alloc (.cells #[.slice Aq6 (nq - 1) cq6, .slice Aa6 (kf + 1) ca6] 25))
  have X6 := (Box.newAt (w := (w18.alloc (.cells #[.int .i64 p.src, .int .i64 p.dst, .slice Ad6 pl cd6] 28))) (n := w18.heap.size + 1) [.slice Aq6 (nq - 1) cq6, .slice Aa6 (kf + 1) ca6] 25 (by simp))
  clear hst
  generalize ((w18.alloc (.cells #[.int .i64 p.src, .int .i64 p.dst, .slice Ad6 pl cd6] 28)).alloc (.cells #[.slice Aq6 (nq - 1) cq6, .slice Aa6 (kf + 1) ca6] 25)) = w19 at hB X0 X1 X5 P6 X6 hN hN1 hN5 hV6 ⊢
  generalize w18.heap.size + 1 = X6a at P6 X6 ⊢
  generalize w18.heap.size = P6a at P6 X6 ⊢
  refine (nDeliver_is K k hN5).mono ?_
  rintro e w20 hh
  obtain ⟨Ad7, cd7, Aq7, cq7, Aa7, ca7, rfl, hV7, hN7, hb⟩ := RetDel.is hh hq hwk hKa hql
  have X0 := X0.later hb
  have X1 := X1.later hb
  have X5 := X5.later hb
  have P6 := P6.later hb
  have X6 := X6.later hb
  have hN := hid_later hN hb
  have hN1 := hid_later hN1 hb
  have hN5 := hid_later hN5 hb
  have hV6 := hid_bytes hV6 hb
  have hB := hB.trans (hb.mono hB.size)
  clear hb
  clear X0 X1 X5 hN hN1 hN5
  have v1 := u1.out
  have v2 := u2.out
  have v3 := u3.out
  have v4 := u4.out
  rcases t1 with _ | _
  · rcases t2 with _ | _
    · rcases t3 with _ | _
      · rcases t4 with _ | _
        · skip
          have hsp : Hid (samePk p Pk.zero = sq ∧ samePk p q = true) := by have := hbt.out; rcases this with h | h; exact absurd h.1 (by decide); exact h.2
          have P6c0 : w20.cell? ⟨P6a, 0, none⟩ = some (.int .i64 p.src) := P6.cell 0
          have P6c1 : w20.cell? ⟨P6a, 1, none⟩ = some (.int .i64 p.dst) := P6.cell 1
          have P6c2 : w20.cell? ⟨P6a, 2, none⟩ = some (.slice Ad6 pl cd6) := P6.cell 2
          have P6z : P6a < w20.heap.size := P6.lt
          have P6z1 : P6a < w20.heap.size + 1 := by omega
          go_wp2_with fail
          clear P6c0 P6c1 P6c2 P6z P6z1
          have hst := (((Below.refl w20.heap.size w20).alloc (by simp <;> omega) (.cells #[.int .i64 q.src, .int .i64 q.dst, .slice Ad7 ql cd7] 28)).alloc (by simp <;> omega) (.cells #[.slice Aq7 (nq - 1) cq7, .slice Aa7 kf ca7] 25))
          have P6 := P6.later hst
          have X6 := X6.later hst
          have hV6 := hid_bytes hV6 hst
          have hV7 := hid_bytes hV7 hst
          have hB := hB.trans (hst.mono hB.size)
          have P7 := ((Box.newAt (w := w20) (n := w20.heap.size) [.int .i64 q.src, .int .i64 q.dst, .slice Ad7 ql cd7] 28 (by simp)).alloc (.cells #[.slice Aq7 (nq - 1) cq7, .slice Aa7 kf ca7] 25))
          have X7 := (Box.newAt (w := (w20.alloc (.cells #[.int .i64 q.src, .int .i64 q.dst, .slice Ad7 ql cd7] 28))) (n := w20.heap.size + 1) [.slice Aq7 (nq - 1) cq7, .slice Aa7 kf ca7] 25 (by simp))
          clear hst
          generalize ((w20.alloc (.cells #[.int .i64 q.src, .int .i64 q.dst, .slice Ad7 ql cd7] 28)).alloc (.cells #[.slice Aq7 (nq - 1) cq7, .slice Aa7 kf ca7] 25)) = w21 at hB P6 X6 P7 X7 hV6 hV7 ⊢
          generalize w20.heap.size + 1 = X7a at P7 X7 ⊢
          generalize w20.heap.size = P7a at P7 X7 ⊢
          refine (nSamePk_at (p := p) (q := Pk.zero) (Lib.hid hsp.out.1) hV6.out (bytes_nil _)).mono ?_
          rintro e w22 ⟨rfl, hb⟩
          have P6 := P6.later hb
          have X6 := X6.later hb
          have P7 := P7.later hb
          have X7 := X7.later hb
          have hV6 := hid_bytes hV6 hb
          have hV7 := hid_bytes hV7 hb
          have hB := hB.trans (hb.mono hB.size)
          clear hb
          have P7c0 : w22.cell? ⟨P7a, 0, none⟩ = some (.int .i64 q.src) := P7.cell 0
          have P7c1 : w22.cell? ⟨P7a, 1, none⟩ = some (.int .i64 q.dst) := P7.cell 1
          have P7c2 : w22.cell? ⟨P7a, 2, none⟩ = some (.slice Ad7 ql cd7) := P7.cell 2
          have P7z : P7a < w22.heap.size := P7.lt
          go_wp2_with fail
          clear P7c0 P7c1 P7c2 P7z
          refine (nSamePk_at (p := q) (q := Pk.zero) hsq hV7.out (bytes_nil _)).mono ?_
          rintro e w23 ⟨rfl, hb⟩
          have P6 := P6.later hb
          have X6 := X6.later hb
          have P7 := P7.later hb
          have X7 := X7.later hb
          have hV6 := hid_bytes hV6 hb
          have hV7 := hid_bytes hV7 hb
          have hB := hB.trans (hb.mono hB.size)
          clear hb
          have P6c0 : w23.cell? ⟨P6a, 0, none⟩ = some (.int .i64 p.src) := P6.cell 0
          have P6c1 : w23.cell? ⟨P6a, 1, none⟩ = some (.int .i64 p.dst) := P6.cell 1
          have P6c2 : w23.cell? ⟨P6a, 2, none⟩ = some (.slice Ad6 pl cd6) := P6.cell 2
          have P6z : P6a < w23.heap.size := P6.lt
          have P7c0 : w23.cell? ⟨P7a, 0, none⟩ = some (.int .i64 q.src) := P7.cell 0
          have P7c1 : w23.cell? ⟨P7a, 1, none⟩ = some (.int .i64 q.dst) := P7.cell 1
          have P7c2 : w23.cell? ⟨P7a, 2, none⟩ = some (.slice Ad7 ql cd7) := P7.cell 2
          have P7z : P7a < w23.heap.size := P7.lt
          go_wp2_with fail
          clear P6c0 P6c1 P6c2 P6z P7c0 P7c1 P7c2 P7z
          refine (nSamePk_at (p := p) (q := q) (Lib.hid hsp.out.2) hV6.out hV7.out).mono ?_
          rintro e w24 ⟨rfl, hb⟩
          have P6 := P6.later hb
          have X6 := X6.later hb
          have P7 := P7.later hb
          have X7 := X7.later hb
          have hV6 := hid_bytes hV6 hb
          have hV7 := hid_bytes hV7 hb
          have hB := hB.trans (hb.mono hB.size)
          clear hb
          go_wp2
          go_ret
          exact ⟨by first | rfl | simp, hB⟩
        · skip
          have hsp : Hid (samePk p Pk.zero = sq ∧ samePk p q = true) := by have := hbt.out; rcases this with h | h; exact absurd h.1 (by decide); exact h.2
          have P6c0 : w20.cell? ⟨P6a, 0, none⟩ = some (.int .i64 p.src) := P6.cell 0
          have P6c1 : w20.cell? ⟨P6a, 1, none⟩ = some (.int .i64 p.dst) := P6.cell 1
          have P6c2 : w20.cell? ⟨P6a, 2, none⟩ = some (.slice Ad6 pl cd6) := P6.cell 2
          have P6z : P6a < w20.heap.size := P6.lt
          have P6z1 : P6a < w20.heap.size + 1 := by omega
          go_wp2_with fail
          clear P6c0 P6c1 P6c2 P6z P6z1
          have hst := (((Below.refl w20.heap.size w20).alloc (by simp <;> omega) (.cells #[.int .i64 q.src, .int .i64 q.dst, .slice Ad7 ql cd7] 28)).alloc (by simp <;> omega) (.cells #[.slice Aq7 (nq - 1) cq7, .slice Aa7 kf ca7] 25))
          have P6 := P6.later hst
          have X6 := X6.later hst
          have hV6 := hid_bytes hV6 hst
          have hV7 := hid_bytes hV7 hst
          have hB := hB.trans (hst.mono hB.size)
          have P7 := ((Box.newAt (w := w20) (n := w20.heap.size) [.int .i64 q.src, .int .i64 q.dst, .slice Ad7 ql cd7] 28 (by simp)).alloc (.cells #[.slice Aq7 (nq - 1) cq7, .slice Aa7 kf ca7] 25))
          have X7 := (Box.newAt (w := (w20.alloc (.cells #[.int .i64 q.src, .int .i64 q.dst, .slice Ad7 ql cd7] 28))) (n := w20.heap.size + 1) [.slice Aq7 (nq - 1) cq7, .slice Aa7 kf ca7] 25 (by simp))
          clear hst
          generalize ((w20.alloc (.cells #[.int .i64 q.src, .int .i64 q.dst, .slice Ad7 ql cd7] 28)).alloc (.cells #[.slice Aq7 (nq - 1) cq7, .slice Aa7 kf ca7] 25)) = w21 at hB P6 X6 P7 X7 hV6 hV7 ⊢
          generalize w20.heap.size + 1 = X7a at P7 X7 ⊢
          generalize w20.heap.size = P7a at P7 X7 ⊢
          refine (nSamePk_at (p := p) (q := Pk.zero) (Lib.hid hsp.out.1) hV6.out (bytes_nil _)).mono ?_
          rintro e w22 ⟨rfl, hb⟩
          have P6 := P6.later hb
          have X6 := X6.later hb
          have P7 := P7.later hb
          have X7 := X7.later hb
          have hV6 := hid_bytes hV6 hb
          have hV7 := hid_bytes hV7 hb
          have hB := hB.trans (hb.mono hB.size)
          clear hb
          have P7c0 : w22.cell? ⟨P7a, 0, none⟩ = some (.int .i64 q.src) := P7.cell 0
          have P7c1 : w22.cell? ⟨P7a, 1, none⟩ = some (.int .i64 q.dst) := P7.cell 1
          have P7c2 : w22.cell? ⟨P7a, 2, none⟩ = some (.slice Ad7 ql cd7) := P7.cell 2
          have P7z : P7a < w22.heap.size := P7.lt
          go_wp2_with fail
          clear P7c0 P7c1 P7c2 P7z
          refine (nSamePk_at (p := q) (q := Pk.zero) hsq hV7.out (bytes_nil _)).mono ?_
          rintro e w23 ⟨rfl, hb⟩
          have P6 := P6.later hb
          have X6 := X6.later hb
          have P7 := P7.later hb
          have X7 := X7.later hb
          have hV6 := hid_bytes hV6 hb
          have hV7 := hid_bytes hV7 hb
          have hB := hB.trans (hb.mono hB.size)
          clear hb
          have P6c0 : w23.cell? ⟨P6a, 0, none⟩ = some (.int .i64 p.src) := P6.cell 0
          have P6c1 : w23.cell? ⟨P6a, 1, none⟩ = some (.int .i64 p.dst) := P6.cell 1
          have P6c2 : w23.cell? ⟨P6a, 2, none⟩ = some (.slice Ad6 pl cd6) := P6.cell 2
          have P6z : P6a < w23.heap.size := P6.lt
          have P7c0 : w23.cell? ⟨P7a, 0, none⟩ = some (.int .i64 q.src) := P7.cell 0
          have P7c1 : w23.cell? ⟨P7a, 1, none⟩ = some (.int .i64 q.dst) := P7.cell 1
          have P7c2 : w23.cell? ⟨P7a, 2, none⟩ = some (.slice Ad7 ql cd7) := P7.cell 2
          have P7z : P7a < w23.heap.size := P7.lt
          go_wp2_with fail
          clear P6c0 P6c1 P6c2 P6z P7c0 P7c1 P7c2 P7z
          refine (nSamePk_at (p := p) (q := q) (Lib.hid hsp.out.2) hV6.out hV7.out).mono ?_
          rintro e w24 ⟨rfl, hb⟩
          have P6 := P6.later hb
          have X6 := X6.later hb
          have P7 := P7.later hb
          have X7 := X7.later hb
          have hV6 := hid_bytes hV6 hb
          have hV7 := hid_bytes hV7 hb
          have hB := hB.trans (hb.mono hB.size)
          clear hb
          go_wp2
          go_ret
          exact ⟨by first | rfl | simp, hB⟩
      · rcases t4 with _ | _
        · skip
          have hsp : Hid (samePk p Pk.zero = sq ∧ samePk p q = true) := by have := hbt.out; rcases this with h | h; exact absurd h.1 (by decide); exact h.2
          have P6c0 : w20.cell? ⟨P6a, 0, none⟩ = some (.int .i64 p.src) := P6.cell 0
          have P6c1 : w20.cell? ⟨P6a, 1, none⟩ = some (.int .i64 p.dst) := P6.cell 1
          have P6c2 : w20.cell? ⟨P6a, 2, none⟩ = some (.slice Ad6 pl cd6) := P6.cell 2
          have P6z : P6a < w20.heap.size := P6.lt
          have P6z1 : P6a < w20.heap.size + 1 := by omega
          go_wp2_with fail
          clear P6c0 P6c1 P6c2 P6z P6z1
          have hst := (((Below.refl w20.heap.size w20).alloc (by simp <;> omega) (.cells #[.int .i64 q.src, .int .i64 q.dst, .slice Ad7 ql cd7] 28)).alloc (by simp <;> omega) (.cells #[.slice Aq7 (nq - 1) cq7, .slice Aa7 kf ca7] 25))
          have P6 := P6.later hst
          have X6 := X6.later hst
          have hV6 := hid_bytes hV6 hst
          have hV7 := hid_bytes hV7 hst
          have hB := hB.trans (hst.mono hB.size)
          have P7 := ((Box.newAt (w := w20) (n := w20.heap.size) [.int .i64 q.src, .int .i64 q.dst, .slice Ad7 ql cd7] 28 (by simp)).alloc (.cells #[.slice Aq7 (nq - 1) cq7, .slice Aa7 kf ca7] 25))
          have X7 := (Box.newAt (w := (w20.alloc (.cells #[.int .i64 q.src, .int .i64 q.dst, .slice Ad7 ql cd7] 28))) (n := w20.heap.size + 1) [.slice Aq7 (nq - 1) cq7, .slice Aa7 kf ca7] 25 (by simp))
          clear hst
          generalize ((w20.alloc (.cells #[.int .i64 q.src, .int .i64 q.dst, .slice Ad7 ql cd7] 28)).alloc (.cells #[.slice Aq7 (nq - 1) cq7, .slice Aa7 kf ca7] 25)) = w21 at hB P6 X6 P7 X7 hV6 hV7 ⊢
          generalize w20.heap.size + 1 = X7a at P7 X7 ⊢
          generalize w20.heap.size = P7a at P7 X7 ⊢
          refine (nSamePk_at (p := p) (q := Pk.zero) (Lib.hid hsp.out.1) hV6.out (bytes_nil _)).mono ?_
          rintro e w22 ⟨rfl, hb⟩
          have P6 := P6.later hb
          have X6 := X6.later hb
          have P7 := P7.later hb
          have X7 := X7.later hb
          have hV6 := hid_bytes hV6 hb
          have hV7 := hid_bytes hV7 hb
          have hB := hB.trans (hb.mono hB.size)
          clear hb
          have P7c0 : w22.cell? ⟨P7a, 0, none⟩ = some (.int .i64 q.src) := P7.cell 0
          have P7c1 : w22.cell? ⟨P7a, 1, none⟩ = some (.int .i64 q.dst) := P7.cell 1
          have P7c2 : w22.cell? ⟨P7a, 2, none⟩ = some (.slice Ad7 ql cd7) := P7.cell 2
          have P7z : P7a < w22.heap.size := P7.lt
          go_wp2_with fail
          clear P7c0 P7c1 P7c2 P7z
          refine (nSamePk_at (p := q) (q := Pk.zero) hsq hV7.out (bytes_nil _)).mono ?_
          rintro e w23 ⟨rfl, hb⟩
          have P6 := P6.later hb
          have X6 := X6.later hb
          have P7 := P7.later hb
          have X7 := X7.later hb
          have hV6 := hid_bytes hV6 hb
          have hV7 := hid_bytes hV7 hb
          have hB := hB.trans (hb.mono hB.size)
          clear hb
          have P6c0 : w23.cell? ⟨P6a, 0, none⟩ = some (.int .i64 p.src) := P6.cell 0
          have P6c1 : w23.cell? ⟨P6a, 1, none⟩ = some (.int .i64 p.dst) := P6.cell 1
          have P6c2 : w23.cell? ⟨P6a, 2, none⟩ = some (.slice Ad6 pl cd6) := P6.cell 2
          have P6z : P6a < w23.heap.size := P6.lt
          have P7c0 : w23.cell? ⟨P7a, 0, none⟩ = some (.int .i64 q.src) := P7.cell 0
          have P7c1 : w23.cell? ⟨P7a, 1, none⟩ = some (.int .i64 q.dst) := P7.cell 1
          have P7c2 : w23.cell? ⟨P7a, 2, none⟩ = some (.slice Ad7 ql cd7) := P7.cell 2
          have P7z : P7a < w23.heap.size := P7.lt
          go_wp2_with fail
          clear P6c0 P6c1 P6c2 P6z P7c0 P7c1 P7c2 P7z
          refine (nSamePk_at (p := p) (q := q) (Lib.hid hsp.out.2) hV6.out hV7.out).mono ?_
          rintro e w24 ⟨rfl, hb⟩
          have P6 := P6.later hb
          have X6 := X6.later hb
          have P7 := P7.later hb
          have X7 := X7.later hb
          have hV6 := hid_bytes hV6 hb
          have hV7 := hid_bytes hV7 hb
          have hB := hB.trans (hb.mono hB.size)
          clear hb
          go_wp2
          go_ret
          exact ⟨by first | rfl | simp, hB⟩
        · skip
          have hsp : Hid (samePk p Pk.zero = true) := by have := hbt.out; simp only [Bool.and_true, Bool.and_false, Bool.true_and, Bool.false_and, Bool.or_true, Bool.or_false, Bool.true_or] at this; rcases this with h | h; exact h.2; exact absurd h.1 (by decide)
          have P6c0 : w20.cell? ⟨P6a, 0, none⟩ = some (.int .i64 p.src) := P6.cell 0
          have P6c1 : w20.cell? ⟨P6a, 1, none⟩ = some (.int .i64 p.dst) := P6.cell 1
          have P6c2 : w20.cell? ⟨P6a, 2, none⟩ = some (.slice Ad6 pl cd6) := P6.cell 2
          have P6z : P6a < w20.heap.size := P6.lt
          have P6z1 : P6a < w20.heap.size + 1 := by omega
          go_wp2_with fail
          clear P6c0 P6c1 P6c2 P6z P6z1
          have hst := (((Below.refl w20.heap.size w20).alloc (by simp <;> omega) (.cells #[.int .i64 q.src, .int .i64 q.dst, .slice Ad7 ql cd7] 28)).alloc (by simp <;> omega) (.cells #[.slice Aq7 (nq - 1) cq7, .slice Aa7 kf ca7] 25))
          have P6 := P6.later hst
          have X6 := X6.later hst
          have hV6 := hid_bytes hV6 hst
          have hV7 := hid_bytes hV7 hst
          have hB := hB.trans (hst.mono hB.size)
          have P7 := ((Box.newAt (w := w20) (n := w20.heap.size) [.int .i64 q.src, .int .i64 q.dst, .slice Ad7 ql cd7] 28 (by simp)).alloc (.cells #[.slice Aq7 (nq - 1) cq7, .slice Aa7 kf ca7] 25))
          have X7 := (Box.newAt (w := (w20.alloc (.cells #[.int .i64 q.src, .int .i64 q.dst, .slice Ad7 ql cd7] 28))) (n := w20.heap.size + 1) [.slice Aq7 (nq - 1) cq7, .slice Aa7 kf ca7] 25 (by simp))
          clear hst
          generalize ((w20.alloc (.cells #[.int .i64 q.src, .int .i64 q.dst, .slice Ad7 ql cd7] 28)).alloc (.cells #[.slice Aq7 (nq - 1) cq7, .slice Aa7 kf ca7] 25)) = w21 at hB P6 X6 P7 X7 hV6 hV7 ⊢
          generalize w20.heap.size + 1 = X7a at P7 X7 ⊢
          generalize w20.heap.size = P7a at P7 X7 ⊢
          refine (nSamePk_at (p := p) (q := Pk.zero) hsp hV6.out (bytes_nil _)).mono ?_
          rintro e w22 ⟨rfl, hb⟩
          have P6 := P6.later hb
          have X6 := X6.later hb
          have P7 := P7.later hb
          have X7 := X7.later hb
          have hV6 := hid_bytes hV6 hb
          have hV7 := hid_bytes hV7 hb
          have hB := hB.trans (hb.mono hB.size)
          clear hb
          go_wp2
          go_ret
          exact ⟨by first | rfl | simp, hB⟩
    · rcases t3 with _ | _
      · rcases t4 with _ | _
        · skip
          have hsp : Hid (samePk p Pk.zero = sq ∧ samePk p q = true) := by have := hbt.out; rcases this with h | h; exact absurd h.1 (by decide); exact h.2
          have P6c0 : w20.cell? ⟨P6a, 0, none⟩ = some (.int .i64 p.src) := P6.cell 0
          have P6c1 : w20.cell? ⟨P6a, 1, none⟩ = some (.int .i64 p.dst) := P6.cell 1
          have P6c2 : w20.cell? ⟨P6a, 2, none⟩ = some (.slice Ad6 pl cd6) := P6.cell 2
          have P6z : P6a < w20.heap.size := P6.lt
          have P6z1 : P6a < w20.heap.size + 1 := by omega
          go_wp2_with fail
          clear P6c0 P6c1 P6c2 P6z P6z1
          have hst := (((Below.refl w20.heap.size w20).alloc (by simp <;> omega) (.cells #[.int .i64 q.src, .int .i64 q.dst, .slice Ad7 ql cd7] 28)).alloc (by simp <;> omega) (.cells #[.slice Aq7 (nq - 1) cq7, .slice Aa7 kf ca7] 25))
          have P6 := P6.later hst
          have X6 := X6.later hst
          have hV6 := hid_bytes hV6 hst
          have hV7 := hid_bytes hV7 hst
          have hB := hB.trans (hst.mono hB.size)
          have P7 := ((Box.newAt (w := w20) (n := w20.heap.size) [.int .i64 q.src, .int .i64 q.dst, .slice Ad7 ql cd7] 28 (by simp)).alloc (.cells #[.slice Aq7 (nq - 1) cq7, .slice Aa7 kf ca7] 25))
          have X7 := (Box.newAt (w := (w20.alloc (.cells #[.int .i64 q.src, .int .i64 q.dst, .slice Ad7 ql cd7] 28))) (n := w20.heap.size + 1) [.slice Aq7 (nq - 1) cq7, .slice Aa7 kf ca7] 25 (by simp))
          clear hst
          generalize ((w20.alloc (.cells #[.int .i64 q.src, .int .i64 q.dst, .slice Ad7 ql cd7] 28)).alloc (.cells #[.slice Aq7 (nq - 1) cq7, .slice Aa7 kf ca7] 25)) = w21 at hB P6 X6 P7 X7 hV6 hV7 ⊢
          generalize w20.heap.size + 1 = X7a at P7 X7 ⊢
          generalize w20.heap.size = P7a at P7 X7 ⊢
          refine (nSamePk_at (p := p) (q := Pk.zero) (Lib.hid hsp.out.1) hV6.out (bytes_nil _)).mono ?_
          rintro e w22 ⟨rfl, hb⟩
          have P6 := P6.later hb
          have X6 := X6.later hb
          have P7 := P7.later hb
          have X7 := X7.later hb
          have hV6 := hid_bytes hV6 hb
          have hV7 := hid_bytes hV7 hb
          have hB := hB.trans (hb.mono hB.size)
          clear hb
          have P7c0 : w22.cell? ⟨P7a, 0, none⟩ = some (.int .i64 q.src) := P7.cell 0
          have P7c1 : w22.cell? ⟨P7a, 1, none⟩ = some (.int .i64 q.dst) := P7.cell 1
          have P7c2 : w22.cell? ⟨P7a, 2, none⟩ = some (.slice Ad7 ql cd7) := P7.cell 2
          have P7z : P7a < w22.heap.size := P7.lt
          go_wp2_with fail
          clear P7c0 P7c1 P7c2 P7z
          refine (nSamePk_at (p := q) (q := Pk.zero) hsq hV7.out (bytes_nil _)).mono ?_
          rintro e w23 ⟨rfl, hb⟩
          have P6 := P6.later hb
          have X6 := X6.later hb
          have P7 := P7.later hb
          have X7 := X7.later hb
          have hV6 := hid_bytes hV6 hb
          have hV7 := hid_bytes hV7 hb
          have hB := hB.trans (hb.mono hB.size)
          clear hb
          have P6c0 : w23.cell? ⟨P6a, 0, none⟩ = some (.int .i64 p.src) := P6.cell 0
          have P6c1 : w23.cell? ⟨P6a, 1, none⟩ = some (.int .i64 p.dst) := P6.cell 1
          have P6c2 : w23.cell? ⟨P6a, 2, none⟩ = some (.slice Ad6 pl cd6) := P6.cell 2
          have P6z : P6a < w23.heap.size := P6.lt
          have P7c0 : w23.cell? ⟨P7a, 0, none⟩ = some (.int .i64 q.src) := P7.cell 0
          have P7c1 : w23.cell? ⟨P7a, 1, none⟩ = some (.int .i64 q.dst) := P7.cell 1
          have P7c2 : w23.cell? ⟨P7a, 2, none⟩ = some (.slice Ad7 ql cd7) := P7.cell 2
          have P7z : P7a < w23.heap.size := P7.lt
          go_wp2_with fail
          clear P6c0 P6c1 P6c2 P6z P7c0 P7c1 P7c2 P7z
          refine (nSamePk_at (p := p) (q := q) (Lib.hid hsp.out.2) hV6.out hV7.out).mono ?_
          rintro e w24 ⟨rfl, hb⟩
          have P6 := P6.later hb
          have X6 := X6.later hb
          have P7 := P7.later hb
          have X7 := X7.later hb
          have hV6 := hid_bytes hV6 hb
          have hV7 := hid_bytes hV7 hb
          have hB := hB.trans (hb.mono hB.size)
          clear hb
          go_wp2
          go_ret
          exact ⟨by first | rfl | simp, hB⟩
        · skip
          have hsp : Hid (samePk p Pk.zero = sq ∧ samePk p q = true) := by have := hbt.out; rcases this with h | h; exact absurd h.1 (by decide); exact h.2
          have P6c0 : w20.cell? ⟨P6a, 0, none⟩ = some (.int .i64 p.src) := P6.cell 0
          have P6c1 : w20.cell? ⟨P6a, 1, none⟩ = some (.int .i64 p.dst) := P6.cell 1
          have P6c2 : w20.cell? ⟨P6a, 2, none⟩ = some (.slice Ad6 pl cd6) := P6.cell 2
          have P6z : P6a < w20.heap.size := P6.lt
          have P6z1 : P6a < w20.heap.size + 1 := by omega
          go_wp2_with fail
          clear P6c0 P6c1 P6c2 P6z P6z1
          have hst := (((Below.refl w20.heap.size w20).alloc (by simp <;> omega) (.cells #[.int .i64 q.src, .int .i64 q.dst, .slice Ad7 ql cd7] 28)).alloc (by simp <;> omega) (.cells #[.slice Aq7 (nq - 1) cq7, .slice Aa7 kf ca7] 25))
          have P6 := P6.later hst
          have X6 := X6.later hst
          have hV6 := hid_bytes hV6 hst
          have hV7 := hid_bytes hV7 hst
          have hB := hB.trans (hst.mono hB.size)
          have P7 := ((Box.newAt (w := w20) (n := w20.heap.size) [.int .i64 q.src, .int .i64 q.dst, .slice Ad7 ql cd7] 28 (by simp)).alloc (.cells #[.slice Aq7 (nq - 1) cq7, .slice Aa7 kf ca7] 25))
          have X7 := (Box.newAt (w := (w20.alloc (.cells #[.int .i64 q.src, .int .i64 q.dst, .slice Ad7 ql cd7] 28))) (n := w20.heap.size + 1) [.slice Aq7 (nq - 1) cq7, .slice Aa7 kf ca7] 25 (by simp))
          clear hst
          generalize ((w20.alloc (.cells #[.int .i64 q.src, .int .i64 q.dst, .slice Ad7 ql cd7] 28)).alloc (.cells #[.slice Aq7 (nq - 1) cq7, .slice Aa7 kf ca7] 25)) = w21 at hB P6 X6 P7 X7 hV6 hV7 ⊢
          generalize w20.heap.size + 1 = X7a at P7 X7 ⊢
          generalize w20.heap.size = P7a at P7 X7 ⊢
          refine (nSamePk_at (p := p) (q := Pk.zero) (Lib.hid hsp.out.1) hV6.out (bytes_nil _)).mono ?_
          rintro e w22 ⟨rfl, hb⟩
          have P6 := P6.later hb
          have X6 := X6.later hb
          have P7 := P7.later hb
          have X7 := X7.later hb
          have hV6 := hid_bytes hV6 hb
          have hV7 := hid_bytes hV7 hb
          have hB := hB.trans (hb.mono hB.size)
          clear hb
          have P7c0 : w22.cell? ⟨P7a, 0, none⟩ = some (.int .i64 q.src) := P7.cell 0
          have P7c1 : w22.cell? ⟨P7a, 1, none⟩ = some (.int .i64 q.dst) := P7.cell 1
          have P7c2 : w22.cell? ⟨P7a, 2, none⟩ = some (.slice Ad7 ql cd7) := P7.cell 2
          have P7z : P7a < w22.heap.size := P7.lt
          go_wp2_with fail
          clear P7c0 P7c1 P7c2 P7z
          refine (nSamePk_at (p := q) (q := Pk.zero) hsq hV7.out (bytes_nil _)).mono ?_
          rintro e w23 ⟨rfl, hb⟩
          have P6 := P6.later hb
          have X6 := X6.later hb
          have P7 := P7.later hb
          have X7 := X7.later hb
          have hV6 := hid_bytes hV6 hb
          have hV7 := hid_bytes hV7 hb
          have hB := hB.trans (hb.mono hB.size)
          clear hb
          have P6c0 : w23.cell? ⟨P6a, 0, none⟩ = some (.int .i64 p.src) := P6.cell 0
          have P6c1 : w23.cell? ⟨P6a, 1, none⟩ = some (.int .i64 p.dst) := P6.cell 1
          have P6c2 : w23.cell? ⟨P6a, 2, none⟩ = some (.slice Ad6 pl cd6) := P6.cell 2
          have P6z : P6a < w23.heap.size := P6.lt
          have P7c0 : w23.cell? ⟨P7a, 0, none⟩ = some (.int .i64 q.src) := P7.cell 0
          have P7c1 : w23.cell? ⟨P7a, 1, none⟩ = some (.int .i64 q.dst) := P7.cell 1
          have P7c2 : w23.cell? ⟨P7a, 2, none⟩ = some (.slice Ad7 ql cd7) := P7.cell 2
          have P7z : P7a < w23.heap.size := P7.lt
          go_wp2_with fail
          clear P6c0 P6c1 P6c2 P6z P7c0 P7c1 P7c2 P7z
          refine (nSamePk_at (p := p) (q := q) (Lib.hid hsp.out.2) hV6.out hV7.out).mono ?_
          rintro e w24 ⟨rfl, hb⟩
          have P6 := P6.later hb
          have X6 := X6.later hb
          have P7 := P7.later hb
          have X7 := X7.later hb
          have hV6 := hid_bytes hV6 hb
          have hV7 := hid_bytes hV7 hb
          have hB := hB.trans (hb.mono hB.size)
          clear hb
          go_wp2
          go_ret
          exact ⟨by first | rfl | simp, hB⟩
      · rcases t4 with _ | _
        · skip
          have hsp : Hid (samePk p Pk.zero = sq ∧ samePk p q = true) := by have := hbt.out; rcases this with h | h; exact absurd h.1 (by decide); exact h.2
          have P6c0 : w20.cell? ⟨P6a, 0, none⟩ = some (.int .i64 p.src) := P6.cell 0
          have P6c1 : w20.cell? ⟨P6a, 1, none⟩ = some (.int .i64 p.dst) := P6.cell 1
          have P6c2 : w20.cell? ⟨P6a, 2, none⟩ = some (.slice Ad6 pl cd6) := P6.cell 2
          have P6z : P6a < w20.heap.size := P6.lt
          have P6z1 : P6a < w20.heap.size + 1 := by omega
          go_wp2_with fail
          clear P6c0 P6c1 P6c2 P6z P6z1
          have hst := (((Below.refl w20.heap.size w20).alloc (by simp <;> omega) (.cells #[.int .i64 q.src, .int .i64 q.dst, .slice Ad7 ql cd7] 28)).alloc (by simp <;> omega) (.cells #[.slice Aq7 (nq - 1) cq7, .slice Aa7 kf ca7] 25))
          have P6 := P6.later hst
          have X6 := X6.later hst
          have hV6 := hid_bytes hV6 hst
          have hV7 := hid_bytes hV7 hst
          have hB := hB.trans (hst.mono hB.size)
          have P7 := ((Box.newAt (w := w20) (n := w20.heap.size) [.int .i64 q.src, .int .i64 q.dst, .slice Ad7 ql cd7] 28 (by simp)).alloc (.cells #[.slice Aq7 (nq - 1) cq7, .slice Aa7 kf ca7] 25))
          have X7 := (Box.newAt (w := (w20.alloc (.cells #[.int .i64 q.src, .int .i64 q.dst, .slice Ad7 ql cd7] 28))) (n := w20.heap.size + 1) [.slice Aq7 (nq - 1) cq7, .slice Aa7 kf ca7] 25 (by simp))
          clear hst
          generalize ((w20.alloc (.cells #[.int .i64 q.src, .int .i64 q.dst, .slice Ad7 ql cd7] 28)).alloc (.cells #[.slice Aq7 (nq - 1) cq7, .slice Aa7 kf ca7] 25)) = w21 at hB P6 X6 P7 X7 hV6 hV7 ⊢
          generalize w20.heap.size + 1 = X7a at P7 X7 ⊢
          generalize w20.heap.size = P7a at P7 X7 ⊢
          refine (nSamePk_at (p := p) (q := Pk.zero) (Lib.hid hsp.out.1) hV6.out (bytes_nil _)).mono ?_
          rintro e w22 ⟨rfl, hb⟩
          have P6 := P6.later hb
          have X6 := X6.later hb
          have P7 := P7.later hb
          have X7 := X7.later hb
          have hV6 := hid_bytes hV6 hb
          have hV7 := hid_bytes hV7 hb
          have hB := hB.trans (hb.mono hB.size)
          clear hb
          have P7c0 : w22.cell? ⟨P7a, 0, none⟩ = some (.int .i64 q.src) := P7.cell 0
          have P7c1 : w22.cell? ⟨P7a, 1, none⟩ = some (.int .i64 q.dst) := P7.cell 1
          have P7c2 : w22.cell? ⟨P7a, 2, none⟩ = some (.slice Ad7 ql cd7) := P7.cell 2
          have P7z : P7a < w22.heap.size := P7.lt
          go_wp2_with fail
          clear P7c0 P7c1 P7c2 P7z
          refine (nSamePk_at (p := q) (q := Pk.zero) hsq hV7.out (bytes_nil _)).mono ?_
          rintro e w23 ⟨rfl, hb⟩
          have P6 := P6.later hb
          have X6 := X6.later hb
          have P7 := P7.later hb
          have X7 := X7.later hb
          have hV6 := hid_bytes hV6 hb
          have hV7 := hid_bytes hV7 hb
          have hB := hB.trans (hb.mono hB.size)
          clear hb
          have P6c0 : w23.cell? ⟨P6a, 0, none⟩ = some (.int .i64 p.src) := P6.cell 0
          have P6c1 : w23.cell? ⟨P6a, 1, none⟩ = some (.int .i64 p.dst) := P6.cell 1
          have P6c2 : w23.cell? ⟨P6a, 2, none⟩ = some (.slice Ad6 pl cd6) := P6.cell 2
          have P6z : P6a < w23.heap.size := P6.lt
          have P7c0 : w23.cell? ⟨P7a, 0, none⟩ = some (.int .i64 q.src) := P7.cell 0
          have P7c1 : w23.cell? ⟨P7a, 1, none⟩ = some (.int .i64 q.dst) := P7.cell 1
          have P7c2 : w23.cell? ⟨P7a, 2, none⟩ = some (.slice Ad7 ql cd7) := P7.cell 2
          have P7z : P7a < w23.heap.size := P7.lt
          go_wp2_with fail
          clear P6c0 P6c1 P6c2 P6z P7c0 P7c1 P7c2 P7z
          refine (nSamePk_at (p := p) (q := q) (Lib.hid hsp.out.2) hV6.out hV7.out).mono ?_
          rintro e w24 ⟨rfl, hb⟩
          have P6 := P6.later hb
          have X6 := X6.later hb
          have P7 := P7.later hb
          have X7 := X7.later hb
          have hV6 := hid_bytes hV6 hb
          have hV7 := hid_bytes hV7 hb
          have hB := hB.trans (hb.mono hB.size)
          clear hb
          go_wp2
          go_ret
          exact ⟨by first | rfl | simp, hB⟩
        · skip
          have hsp : Hid (samePk p Pk.zero = true) := by have := hbt.out; simp only [Bool.and_true, Bool.and_false, Bool.true_and, Bool.false_and, Bool.or_true, Bool.or_false, Bool.true_or] at this; rcases this with h | h; exact h.2; exact absurd h.1 (by decide)
          have P6c0 : w20.cell? ⟨P6a, 0, none⟩ = some (.int .i64 p.src) := P6.cell 0
          have P6c1 : w20.cell? ⟨P6a, 1, none⟩ = some (.int .i64 p.dst) := P6.cell 1
          have P6c2 : w20.cell? ⟨P6a, 2, none⟩ = some (.slice Ad6 pl cd6) := P6.cell 2
          have P6z : P6a < w20.heap.size := P6.lt
          have P6z1 : P6a < w20.heap.size + 1 := by omega
          go_wp2_with fail
          clear P6c0 P6c1 P6c2 P6z P6z1
          have hst := (((Below.refl w20.heap.size w20).alloc (by simp <;> omega) (.cells #[.int .i64 q.src, .int .i64 q.dst, .slice Ad7 ql cd7] 28)).alloc (by simp <;> omega) (.cells #[.slice Aq7 (nq - 1) cq7, .slice Aa7 kf ca7] 25))
          have P6 := P6.later hst
          have X6 := X6.later hst
          have hV6 := hid_bytes hV6 hst
          have hV7 := hid_bytes hV7 hst
          have hB := hB.trans (hst.mono hB.size)
          have P7 := ((Box.newAt (w := w20) (n := w20.heap.size) [.int .i64 q.src, .int .i64 q.dst, .slice Ad7 ql cd7] 28 (by simp)).alloc (.cells #[.slice Aq7 (nq - 1) cq7, .slice Aa7 kf ca7] 25))
          have X7 := (Box.newAt (w := (w20.alloc (.cells #[.int .i64 q.src, .int .i64 q.dst, .slice Ad7 ql cd7] 28))) (n := w20.heap.size + 1) [.slice Aq7 (nq - 1) cq7, .slice Aa7 kf ca7] 25 (by simp))
          clear hst
          generalize ((w20.alloc (.cells #[.int .i64 q.src, .int .i64 q.dst, .slice Ad7 ql cd7] 28)).alloc (.cells #[.slice Aq7 (nq - 1) cq7, .slice Aa7 kf ca7] 25)) = w21 at hB P6 X6 P7 X7 hV6 hV7 ⊢
          generalize w20.heap.size + 1 = X7a at P7 X7 ⊢
          generalize w20.heap.size = P7a at P7 X7 ⊢
          refine (nSamePk_at (p := p) (q := Pk.zero) hsp hV6.out (bytes_nil _)).mono ?_
          rintro e w22 ⟨rfl, hb⟩
          have P6 := P6.later hb
          have X6 := X6.later hb
          have P7 := P7.later hb
          have X7 := X7.later hb
          have hV6 := hid_bytes hV6 hb
          have hV7 := hid_bytes hV7 hb
          have hB := hB.trans (hb.mono hB.size)
          clear hb
          go_wp2
          go_ret
          exact ⟨by first | rfl | simp, hB⟩
  · rcases t2 with _ | _
    · rcases t3 with _ | _
      · rcases t4 with _ | _
        · skip
          have hsp : Hid (samePk p Pk.zero = sq ∧ samePk p q = true) := by have := hbt.out; rcases this with h | h; exact absurd h.1 (by decide); exact h.2
          have P6c0 : w20.cell? ⟨P6a, 0, none⟩ = some (.int .i64 p.src) := P6.cell 0
          have P6c1 : w20.cell? ⟨P6a, 1, none⟩ = some (.int .i64 p.dst) := P6.cell 1
          have P6c2 : w20.cell? ⟨P6a, 2, none⟩ = some (.slice Ad6 pl cd6) := P6.cell 2
          have P6z : P6a < w20.heap.size := P6.lt
          have P6z1 : P6a < w20.heap.size + 1 := by omega
          go_wp2_with fail
          clear P6c0 P6c1 P6c2 P6z P6z1
          have hst := (((Below.refl w20.heap.size w20).alloc (by simp <;> omega) (.cells #[.int .i64 q.src, .int .i64 q.dst, .slice Ad7 ql cd7] 28)).alloc (by simp <;> omega) (.cells #[.slice Aq7 (nq - 1) cq7, .slice Aa7 kf ca7] 25))
          have P6 := P6.later hst
          have X6 := X6.later hst
          have hV6 := hid_bytes hV6 hst
          have hV7 := hid_bytes hV7 hst
          have hB := hB.trans (hst.mono hB.size)
          have P7 := ((Box.newAt (w := w20) (n := w20.heap.size) [.int .i64 q.src, .int .i64 q.dst, .slice Ad7 ql cd7] 28 (by simp)).alloc (.cells #[.slice Aq7 (nq - 1) cq7, .slice Aa7 kf ca7] 25))
          have X7 := (Box.newAt (w := (w20.alloc (.cells #[.int .i64 q.src, .int .i64 q.dst, .slice Ad7 ql cd7] 28))) (n := w20.heap.size + 1) [.slice Aq7 (nq - 1) cq7, .slice Aa7 kf ca7] 25 (by simp))
          clear hst
          generalize ((w20.alloc (.cells #[.int .i64 q.src, .int .i64 q.dst, .slice Ad7 ql cd7] 28)).alloc (.cells #[.slice Aq7 (nq - 1) cq7, .slice Aa7 kf ca7] 25)) = w21 at hB P6 X6 P7 X7 hV6 hV7 ⊢
          generalize w20.heap.size + 1 = X7a at P7 X7 ⊢
          generalize w20.heap.size = P7a at P7 X7 ⊢
          refine (nSamePk_at (p := p) (q := Pk.zero) (Lib.hid hsp.out.1) hV6.out (bytes_nil _)).mono ?_
          rintro e w22 ⟨rfl, hb⟩
          have P6 := P6.later hb
          have X6 := X6.later hb
          have P7 := P7.later hb
          have X7 := X7.later hb
          have hV6 := hid_bytes hV6 hb
          have hV7 := hid_bytes hV7 hb
          have hB := hB.trans (hb.mono hB.size)
          clear hb
          have P7c0 : w22.cell? ⟨P7a, 0, none⟩ = some (.int .i64 q.src) := P7.cell 0
          have P7c1 : w22.cell? ⟨P7a, 1, none⟩ = some (.int .i64 q.dst) := P7.cell 1
          have P7c2 : w22.cell? ⟨P7a, 2, none⟩ = some (.slice Ad7 ql cd7) := P7.cell 2
          have P7z : P7a < w22.heap.size := P7.lt
          go_wp2_with fail
          clear P7c0 P7c1 P7c2 P7z
          refine (nSamePk_at (p := q) (q := Pk.zero) hsq hV7.out (bytes_nil _)).mono ?_
          rintro e w23 ⟨rfl, hb⟩
          have P6 := P6.later hb
          have X6 := X6.later hb
          have P7 := P7.later hb
          have X7 := X7.later hb
          have hV6 := hid_bytes hV6 hb
          have hV7 := hid_bytes hV7 hb
          have hB := hB.trans (hb.mono hB.size)
          clear hb
          have P6c0 : w23.cell? ⟨P6a, 0, none⟩ = some (.int .i64 p.src) := P6.cell 0
          have P6c1 : w23.cell? ⟨P6a, 1, none⟩ = some (.int .i64 p.dst) := P6.cell 1
          have P6c2 : w23.cell? ⟨P6a, 2, none⟩ = some (.slice Ad6 pl cd6) := P6.cell 2
          have P6z : P6a < w23.heap.size := P6.lt
          have P7c0 : w23.cell? ⟨P7a, 0, none⟩ = some (.int .i64 q.src) := P7.cell 0
          have P7c1 : w23.cell? ⟨P7a, 1, none⟩ = some (.int .i64 q.dst) := P7.cell 1
          have P7c2 : w23.cell? ⟨P7a, 2, none⟩ = some (.slice Ad7 ql cd7) := P7.cell 2
          have P7z : P7a < w23.heap.size := P7.lt
          go_wp2_with fail
          clear P6c0 P6c1 P6c2 P6z P7c0 P7c1 P7c2 P7z
          refine (nSamePk_at (p := p) (q := q) (Lib.hid hsp.out.2) hV6.out hV7.out).mono ?_
          rintro e w24 ⟨rfl, hb⟩
          have P6 := P6.later hb
          have X6 := X6.later hb
          have P7 := P7.later hb
          have X7 := X7.later hb
          have hV6 := hid_bytes hV6 hb
          have hV7 := hid_bytes hV7 hb
          have hB := hB.trans (hb.mono hB.size)
          clear hb
          go_wp2
          go_ret
          exact ⟨by first | rfl | simp, hB⟩
        · skip
          have hsp : Hid (samePk p Pk.zero = sq ∧ samePk p q = true) := by have := hbt.out; rcases this with h | h; exact absurd h.1 (by decide); exact h.2
          have P6c0 : w20.cell? ⟨P6a, 0, none⟩ = some (.int .i64 p.src) := P6.cell 0
          have P6c1 : w20.cell? ⟨P6a, 1, none⟩ = some (.int .i64 p.dst) := P6.cell 1
          have P6c2 : w20.cell? ⟨P6a, 2, none⟩ = some (.slice Ad6 pl cd6) := P6.cell 2
          have P6z : P6a < w20.heap.size := P6.lt
          have P6z1 : P6a < w20.heap.size + 1 := by omega
          go_wp2_with fail
          clear P6c0 P6c1 P6c2 P6z P6z1
          have hst := (((Below.refl w20.heap.size w20).alloc (by simp <;> omega) (.cells #[.int .i64 q.src, .int .i64 q.dst, .slice Ad7 ql cd7] 28)).alloc (by simp <;> omega) (.cells #[.slice Aq7 (nq - 1) cq7, .slice Aa7 kf ca7] 25))
          have P6 := P6.later hst
          have X6 := X6.later hst
          have hV6 := hid_bytes hV6 hst
          have hV7 := hid_bytes hV7 hst
          have hB := hB.trans (hst.mono hB.size)
          have P7 := ((Box.newAt (w := w20) (n := w20.heap.size) [.int .i64 q.src, .int .i64 q.dst, .slice Ad7 ql cd7] 28 (by simp)).alloc (.cells #[.slice Aq7 (nq - 1) cq7, .slice Aa7 kf ca7] 25))
          have X7 := (Box.newAt (w := (w20.alloc (.cells #[.int .i64 q.src, .int .i64 q.dst, .slice Ad7 ql cd7] 28))) (n := w20.heap.size + 1) [.slice Aq7 (nq - 1) cq7, .slice Aa7 kf ca7] 25 (by simp))
          clear hst
          generalize ((w20.alloc (.cells #[.int .i64 q.src, .int .i64 q.dst, .slice Ad7 ql cd7] 28)).alloc (.cells #[.slice Aq7 (nq - 1) cq7, .slice Aa7 kf ca7] 25)) = w21 at hB P6 X6 P7 X7 hV6 hV7 ⊢
          generalize w20.heap.size + 1 = X7a at P7 X7 ⊢
          generalize w20.heap.size = P7a at P7 X7 ⊢
          refine (nSamePk_at (p := p) (q := Pk.zero) (Lib.hid hsp.out.1) hV6.out (bytes_nil _)).mono ?_
          rintro e w22 ⟨rfl, hb⟩
          have P6 := P6.later hb
          have X6 := X6.later hb
          have P7 := P7.later hb
          have X7 := X7.later hb
          have hV6 := hid_bytes hV6 hb
          have hV7 := hid_bytes hV7 hb
          have hB := hB.trans (hb.mono hB.size)
          clear hb
          have P7c0 : w22.cell? ⟨P7a, 0, none⟩ = some (.int .i64 q.src) := P7.cell 0
          have P7c1 : w22.cell? ⟨P7a, 1, none⟩ = some (.int .i64 q.dst) := P7.cell 1
          have P7c2 : w22.cell? ⟨P7a, 2, none⟩ = some (.slice Ad7 ql cd7) := P7.cell 2
          have P7z : P7a < w22.heap.size := P7.lt
          go_wp2_with fail
          clear P7c0 P7c1 P7c2 P7z
          refine (nSamePk_at (p := q) (q := Pk.zero) hsq hV7.out (bytes_nil _)).mono ?_
          rintro e w23 ⟨rfl, hb⟩
          have P6 := P6.later hb
          have X6 := X6.later hb
          have P7 := P7.later hb
          have X7 := X7.later hb
          have hV6 := hid_bytes hV6 hb
          have hV7 := hid_bytes hV7 hb
          have hB := hB.trans (hb.mono hB.size)
          clear hb
          have P6c0 : w23.cell? ⟨P6a, 0, none⟩ = some (.int .i64 p.src) := P6.cell 0
          have P6c1 : w23.cell? ⟨P6a, 1, none⟩ = some (.int .i64 p.dst) := P6.cell 1
          have P6c2 : w23.cell? ⟨P6a, 2, none⟩ = some (.slice Ad6 pl cd6) := P6.cell 2
          have P6z : P6a < w23.heap.size := P6.lt
          have P7c0 : w23.cell? ⟨P7a, 0, none⟩ = some (.int .i64 q.src) := P7.cell 0
          have P7c1 : w23.cell? ⟨P7a, 1, none⟩ = some (.int .i64 q.dst) := P7.cell 1
          have P7c2 : w23.cell? ⟨P7a, 2, none⟩ = some (.slice Ad7 ql cd7) := P7.cell 2
          have P7z : P7a < w23.heap.size := P7.lt
          go_wp2_with fail
          clear P6c0 P6c1 P6c2 P6z P7c0 P7c1 P7c2 P7z
          refine (nSamePk_at (p := p) (q := q) (Lib.hid hsp.out.2) hV6.out hV7.out).mono ?_
          rintro e w24 ⟨rfl, hb⟩
          have P6 := P6.later hb
          have X6 := X6.later hb
          have P7 := P7.later hb
          have X7 := X7.later hb
          have hV6 := hid_bytes hV6 hb
          have hV7 := hid_bytes hV7 hb
          have hB := hB.trans (hb.mono hB.size)
          clear hb
          go_wp2
          go_ret
          exact ⟨by first | rfl | simp, hB⟩
      · rcases t4 with _ | _
        · skip
          have hsp : Hid (samePk p Pk.zero = sq ∧ samePk p q = true) := by have := hbt.out; rcases this with h | h; exact absurd h.1 (by decide); exact h.2
          have P6c0 : w20.cell? ⟨P6a, 0, none⟩ = some (.int .i64 p.src) := P6.cell 0
          have P6c1 : w20.cell? ⟨P6a, 1, none⟩ = some (.int .i64 p.dst) := P6.cell 1
          have P6c2 : w20.cell? ⟨P6a, 2, none⟩ = some (.slice Ad6 pl cd6) := P6.cell 2
          have P6z : P6a < w20.heap.size := P6.lt
          have P6z1 : P6a < w20.heap.size + 1 := by omega
          go_wp2_with fail
          clear P6c0 P6c1 P6c2 P6z P6z1
          have hst := (((Below.refl w20.heap.size w20).alloc (by simp <;> omega) (.cells #[.int .i64 q.src, .int .i64 q.dst, .slice Ad7 ql cd7] 28)).alloc (by simp <;> omega) (.cells #[.slice Aq7 (nq - 1) cq7, .slice Aa7 kf ca7] 25))
          have P6 := P6.later hst
          have X6 := X6.later hst
          have hV6 := hid_bytes hV6 hst
          have hV7 := hid_bytes hV7 hst
          have hB := hB.trans (hst.mono hB.size)
          have P7 := ((Box.newAt (w := w20) (n := w20.heap.size) [.int .i64 q.src, .int .i64 q.dst, .slice Ad7 ql cd7] 28 (by simp)).alloc (.cells #[.slice Aq7 (nq - 1) cq7, .slice Aa7 kf ca7] 25))
          have X7 := (Box.newAt (w := (w20.alloc (.cells #[.int .i64 q.src, .int .i64 q.dst, .slice Ad7 ql cd7] 28))) (n := w20.heap.size + 1) [.slice Aq7 (nq - 1) cq7, .slice Aa7 kf ca7] 25 (by simp))
          clear hst
          generalize ((w20.alloc (.cells #[.int .i64 q.src, .int .i64 q.dst, .slice Ad7 ql cd7] 28)).alloc (.cells #[.slice Aq7 (nq - 1) cq7, .slice Aa7 kf ca7] 25)) = w21 at hB P6 X6 P7 X7 hV6 hV7 ⊢
          generalize w20.heap.size + 1 = X7a at P7 X7 ⊢
          generalize w20.heap.size = P7a at P7 X7 ⊢
          refine (nSamePk_at (p := p) (q := Pk.zero) (Lib.hid hsp.out.1) hV6.out (bytes_nil _)).mono ?_
          rintro e w22 ⟨rfl, hb⟩
          have P6 := P6.later hb
          have X6 := X6.later hb
          have P7 := P7.later hb
          have X7 := X7.later hb
          have hV6 := hid_bytes hV6 hb
          have hV7 := hid_bytes hV7 hb
          have hB := hB.trans (hb.mono hB.size)
          clear hb
          have P7c0 : w22.cell? ⟨P7a, 0, none⟩ = some (.int .i64 q.src) := P7.cell 0
          have P7c1 : w22.cell? ⟨P7a, 1, none⟩ = some (.int .i64 q.dst) := P7.cell 1
          have P7c2 : w22.cell? ⟨P7a, 2, none⟩ = some (.slice Ad7 ql cd7) := P7.cell 2
          have P7z : P7a < w22.heap.size := P7.lt
          go_wp2_with fail
          clear P7c0 P7c1 P7c2 P7z
          refine (nSamePk_at (p := q) (q := Pk.zero) hsq hV7.out (bytes_nil _)).mono ?_
          rintro e w23 ⟨rfl, hb⟩
          have P6 := P6.later hb
          have X6 := X6.later hb
          have P7 := P7.later hb
          have X7 := X7.later hb
          have hV6 := hid_bytes hV6 hb
          have hV7 := hid_bytes hV7 hb
          have hB := hB.trans (hb.mono hB.size)
          clear hb
          have P6c0 : w23.cell? ⟨P6a, 0, none⟩ = some (.int .i64 p.src) := P6.cell 0
          have P6c1 : w23.cell? ⟨P6a, 1, none⟩ = some (.int .i64 p.dst) := P6.cell 1
          have P6c2 : w23.cell? ⟨P6a, 2, none⟩ = some (.slice Ad6 pl cd6) := P6.cell 2
          have P6z : P6a < w23.heap.size := P6.lt
          have P7c0 : w23.cell? ⟨P7a, 0, none⟩ = some (.int .i64 q.src) := P7.cell 0
          have P7c1 : w23.cell? ⟨P7a, 1, none⟩ = some (.int .i64 q.dst) := P7.cell 1
          have P7c2 : w23.cell? ⟨P7a, 2, none⟩ = some (.slice Ad7 ql cd7) := P7.cell 2
          have P7z : P7a < w23.heap.size := P7.lt
          go_wp2_with fail
          clear P6c0 P6c1 P6c2 P6z P7c0 P7c1 P7c2 P7z
          refine (nSamePk_at (p := p) (q := q) (Lib.hid hsp.out.2) hV6.out hV7.out).mono ?_
          rintro e w24 ⟨rfl, hb⟩
          have P6 := P6.later hb
          have X6 := X6.later hb
          have P7 := P7.later hb
          have X7 := X7.later hb
          have hV6 := hid_bytes hV6 hb
          have hV7 := hid_bytes hV7 hb
          have hB := hB.trans (hb.mono hB.size)
          clear hb
          go_wp2
          go_ret
          exact ⟨by first | rfl | simp, hB⟩
        · skip
          have hsp : Hid (samePk p Pk.zero = true) := by have := hbt.out; simp only [Bool.and_true, Bool.and_false, Bool.true_and, Bool.false_and, Bool.or_true, Bool.or_false, Bool.true_or] at this; rcases this with h | h; exact h.2; exact absurd h.1 (by decide)
          have P6c0 : w20.cell? ⟨P6a, 0, none⟩ = some (.int .i64 p.src) := P6.cell 0
          have P6c1 : w20.cell? ⟨P6a, 1, none⟩ = some (.int .i64 p.dst) := P6.cell 1
          have P6c2 : w20.cell? ⟨P6a, 2, none⟩ = some (.slice Ad6 pl cd6) := P6.cell 2
          have P6z : P6a < w20.heap.size := P6.lt
          have P6z1 : P6a < w20.heap.size + 1 := by omega
          go_wp2_with fail
          clear P6c0 P6c1 P6c2 P6z P6z1
          have hst := (((Below.refl w20.heap.size w20).alloc (by simp <;> omega) (.cells #[.int .i64 q.src, .int .i64 q.dst, .slice Ad7 ql cd7] 28)).alloc (by simp <;> omega) (.cells #[.slice Aq7 (nq - 1) cq7, .slice Aa7 kf ca7] 25))
          have P6 := P6.later hst
          have X6 := X6.later hst
          have hV6 := hid_bytes hV6 hst
          have hV7 := hid_bytes hV7 hst
          have hB := hB.trans (hst.mono hB.size)
          have P7 := ((Box.newAt (w := w20) (n := w20.heap.size) [.int .i64 q.src, .int .i64 q.dst, .slice Ad7 ql cd7] 28 (by simp)).alloc (.cells #[.slice Aq7 (nq - 1) cq7, .slice Aa7 kf ca7] 25))
          have X7 := (Box.newAt (w := (w20.alloc (.cells #[.int .i64 q.src, .int .i64 q.dst, .slice Ad7 ql cd7] 28))) (n := w20.heap.size + 1) [.slice Aq7 (nq - 1) cq7, .slice Aa7 kf ca7] 25 (by simp))
          clear hst
          generalize ((w20.alloc (.cells #[.int .i64 q.src, .int .i64 q.dst, .slice Ad7 ql cd7] 28)).alloc (.cells #[.slice Aq7 (nq - 1) cq7, .slice Aa7 kf ca7] 25)) = w21 at hB P6 X6 P7 X7 hV6 hV7 ⊢
          generalize w20.heap.size + 1 = X7a at P7 X7 ⊢
          generalize w20.heap.size = P7a at P7 X7 ⊢
          refine (nSamePk_at (p := p) (q := Pk.zero) hsp hV6.out (bytes_nil _)).mono ?_
          rintro e w22 ⟨rfl, hb⟩
          have P6 := P6.later hb
          have X6 := X6.later hb
          have P7 := P7.later hb
          have X7 := X7.later hb
          have hV6 := hid_bytes hV6 hb
          have hV7 := hid_bytes hV7 hb
          have hB := hB.trans (hb.mono hB.size)
          clear hb
          go_wp2
          go_ret
          exact ⟨by first | rfl | simp, hB⟩
    · rcases t3 with _ | _
      · rcases t4 with _ | _
        · skip
          have hsp : Hid (samePk p Pk.zero = true) := by have := hbt.out; simp only [Bool.and_true, Bool.and_false, Bool.true_and, Bool.false_and, Bool.or_true, Bool.or_false, Bool.true_or] at this; rcases this with h | h; exact h.2; exact absurd h.1 (by decide)
          have P6c0 : w20.cell? ⟨P6a, 0, none⟩ = some (.int .i64 p.src) := P6.cell 0
          have P6c1 : w20.cell? ⟨P6a, 1, none⟩ = some (.int .i64 p.dst) := P6.cell 1
          have P6c2 : w20.cell? ⟨P6a, 2, none⟩ = some (.slice Ad6 pl cd6) := P6.cell 2
          have P6z : P6a < w20.heap.size := P6.lt
          have P6z1 : P6a < w20.heap.size + 1 := by omega
          go_wp2_with fail
          clear P6c0 P6c1 P6c2 P6z P6z1
          have hst := (((Below.refl w20.heap.size w20).alloc (by simp <;> omega) (.cells #[.int .i64 q.src, .int .i64 q.dst, .slice Ad7 ql cd7] 28)).alloc (by simp <;> omega) (.cells #[.slice Aq7 (nq - 1) cq7, .slice Aa7 kf ca7] 25))
          have P6 := P6.later hst
          have X6 := X6.later hst
          have hV6 := hid_bytes hV6 hst
          have hV7 := hid_bytes hV7 hst
          have hB := hB.trans (hst.mono hB.size)
          have P7 := ((Box.newAt (w := w20) (n := w20.heap.size) [.int .i64 q.src, .int .i64 q.dst, .slice Ad7 ql cd7] 28 (by simp)).alloc (.cells #[.slice Aq7 (nq - 1) cq7, .slice Aa7 kf ca7] 25))
          have X7 := (Box.newAt (w := (w20.alloc (.cells #[.int .i64 q.src, .int .i64 q.dst, .slice Ad7 ql cd7] 28))) (n := w20.heap.size + 1) [.slice Aq7 (nq - 1) cq7, .slice Aa7 kf ca7] 25 (by simp))
          clear hst
          generalize ((w20.alloc (.cells #[.int .i64 q.src, .int .i64 q.dst, .slice Ad7 ql cd7] 28)).alloc (.cells #[.slice Aq7 (nq - 1) cq7, .slice Aa7 kf ca7] 25)) = w21 at hB P6 X6 P7 X7 hV6 hV7 ⊢
          generalize w20.heap.size + 1 = X7a at P7 X7 ⊢
          generalize w20.heap.size = P7a at P7 X7 ⊢
          refine (nSamePk_at (p := p) (q := Pk.zero) hsp hV6.out (bytes_nil _)).mono ?_
          rintro e w22 ⟨rfl, hb⟩
          have P6 := P6.later hb
          have X6 := X6.later hb
          have P7 := P7.later hb
          have X7 := X7.later hb
          have hV6 := hid_bytes hV6 hb
          have hV7 := hid_bytes hV7 hb
          have hB := hB.trans (hb.mono hB.size)
          clear hb
          go_wp2
          go_ret
          exact ⟨by first | rfl | simp, hB⟩
        · skip
          have hsp : Hid (samePk p Pk.zero = true) := by have := hbt.out; simp only [Bool.and_true, Bool.and_false, Bool.true_and, Bool.false_and, Bool.or_true, Bool.or_false, Bool.true_or] at this; rcases this with h | h; exact h.2; exact absurd h.1 (by decide)
          have P6c0 : w20.cell? ⟨P6a, 0, none⟩ = some (.int .i64 p.src) := P6.cell 0
          have P6c1 : w20.cell? ⟨P6a, 1, none⟩ = some (.int .i64 p.dst) := P6.cell 1
          have P6c2 : w20.cell? ⟨P6a, 2, none⟩ = some (.slice Ad6 pl cd6) := P6.cell 2
          have P6z : P6a < w20.heap.size := P6.lt
          have P6z1 : P6a < w20.heap.size + 1 := by omega
          go_wp2_with fail
          clear P6c0 P6c1 P6c2 P6z P6z1
          have hst := (((Below.refl w20.heap.size w20).alloc (by simp <;> omega) (.cells #[.int .i64 q.src, .int .i64 q.dst, .slice Ad7 ql cd7] 28)).alloc (by simp <;> omega) (.cells #[.slice Aq7 (nq - 1) cq7, .slice Aa7 kf ca7] 25))
          have P6 := P6.later hst
          have X6 := X6.later hst
          have hV6 := hid_bytes hV6 hst
          have hV7 := hid_bytes hV7 hst
          have hB := hB.trans (hst.mono hB.size)
          have P7 := ((Box.newAt (w := w20) (n := w20.heap.size) [.int .i64 q.src, .int .i64 q.dst, .slice Ad7 ql cd7] 28 (by simp)).alloc (.cells #[.slice Aq7 (nq - 1) cq7, .slice Aa7 kf ca7] 25))
          have X7 := (Box.newAt (w := (w20.alloc (.cells #[.int .i64 q.src, .int .i64 q.dst, .slice Ad7 ql cd7] 28))) (n := w20.heap.size + 1) [.slice Aq7 (nq - 1) cq7, .slice Aa7 kf ca7] 25 (by simp))
          clear hst
          generalize ((w20.alloc (.cells #[.int .i64 q.src, .int .i64 q.dst, .slice Ad7 ql cd7] 28)).alloc (.cells #[.slice Aq7 (nq - 1) cq7, .slice Aa7 kf ca7] 25)) = w21 at hB P6 X6 P7 X7 hV6 hV7 ⊢
          generalize w20.heap.size + 1 = X7a at P7 X7 ⊢
          generalize w20.heap.size = P7a at P7 X7 ⊢
          refine (nSamePk_at (p := p) (q := Pk.zero) hsp hV6.out (bytes_nil _)).mono ?_
          rintro e w22 ⟨rfl, hb⟩
          have P6 := P6.later hb
          have X6 := X6.later hb
          have P7 := P7.later hb
          have X7 := X7.later hb
          have hV6 := hid_bytes hV6 hb
          have hV7 := hid_bytes hV7 hb
          have hB := hB.trans (hb.mono hB.size)
          clear hb
          go_wp2
          go_ret
          exact ⟨by first | rfl | simp, hB⟩
      · rcases t4 with _ | _
        · skip
          have hsp : Hid (samePk p Pk.zero = true) := by have := hbt.out; simp only [Bool.and_true, Bool.and_false, Bool.true_and, Bool.false_and, Bool.or_true, Bool.or_false, Bool.true_or] at this; rcases this with h | h; exact h.2; exact absurd h.1 (by decide)
          have P6c0 : w20.cell? ⟨P6a, 0, none⟩ = some (.int .i64 p.src) := P6.cell 0
          have P6c1 : w20.cell? ⟨P6a, 1, none⟩ = some (.int .i64 p.dst) := P6.cell 1
          have P6c2 : w20.cell? ⟨P6a, 2, none⟩ = some (.slice Ad6 pl cd6) := P6.cell 2
          have P6z : P6a < w20.heap.size := P6.lt
          have P6z1 : P6a < w20.heap.size + 1 := by omega
          go_wp2_with fail
          clear P6c0 P6c1 P6c2 P6z P6z1
          have hst := (((Below.refl w20.heap.size w20).alloc (by simp <;> omega) (.cells #[.int .i64 q.src, .int .i64 q.dst, .slice Ad7 ql cd7] 28)).alloc (by simp <;> omega) (.cells #[.slice Aq7 (nq - 1) cq7, .slice Aa7 kf ca7] 25))
          have P6 := P6.later hst
          have X6 := X6.later hst
          have hV6 := hid_bytes hV6 hst
          have hV7 := hid_bytes hV7 hst
          have hB := hB.trans (hst.mono hB.size)
          have P7 := ((Box.newAt (w := w20) (n := w20.heap.size) [.int .i64 q.src, .int .i64 q.dst, .slice Ad7 ql cd7] 28 (by simp)).alloc (.cells #[.slice Aq7 (nq - 1) cq7, .slice Aa7 kf ca7] 25))
          have X7 := (Box.newAt (w := (w20.alloc (.cells #[.int .i64 q.src, .int .i64 q.dst, .slice Ad7 ql cd7] 28))) (n := w20.heap.size + 1) [.slice Aq7 (nq - 1) cq7, .slice Aa7 kf ca7] 25 (by simp))
          clear hst
          generalize ((w20.alloc (.cells #[.int .i64 q.src, .int .i64 q.dst, .slice Ad7 ql cd7] 28)).alloc (.cells #[.slice Aq7 (nq - 1) cq7, .slice Aa7 kf ca7] 25)) = w21 at hB P6 X6 P7 X7 hV6 hV7 ⊢
          generalize w20.heap.size + 1 = X7a at P7 X7 ⊢
          generalize w20.heap.size = P7a at P7 X7 ⊢
          refine (nSamePk_at (p := p) (q := Pk.zero) hsp hV6.out (bytes_nil _)).mono ?_
          rintro e w22 ⟨rfl, hb⟩
          have P6 := P6.later hb
          have X6 := X6.later hb
          have P7 := P7.later hb
          have X7 := X7.later hb
          have hV6 := hid_bytes hV6 hb
          have hV7 := hid_bytes hV7 hb
          have hB := hB.trans (hb.mono hB.size)
          clear hb
          go_wp2
          go_ret
          exact ⟨by first | rfl | simp, hB⟩
        · skip
          have hsp : Hid (samePk p Pk.zero = true) := by have := hbt.out; simp only [Bool.and_true, Bool.and_false, Bool.true_and, Bool.false_and, Bool.or_true, Bool.or_false, Bool.true_or] at this; rcases this with h | h; exact h.2; exact absurd h.1 (by decide)
          have P6c0 : w20.cell? ⟨P6a, 0, none⟩ = some (.int .i64 p.src) := P6.cell 0
          have P6c1 : w20.cell? ⟨P6a, 1, none⟩ = some (.int .i64 p.dst) := P6.cell 1
          have P6c2 : w20.cell? ⟨P6a, 2, none⟩ = some (.slice Ad6 pl cd6) := P6.cell 2
          have P6z : P6a < w20.heap.size := P6.lt
          have P6z1 : P6a < w20.heap.size + 1 := by omega
          go_wp2_with fail
          clear P6c0 P6c1 P6c2 P6z P6z1
          have hst := (((Below.refl w20.heap.size w20).alloc (by simp <;> omega) (.cells #[.int .i64 q.src, .int .i64 q.dst, .slice Ad7 ql cd7] 28)).alloc (by simp <;> omega) (.cells #[.slice Aq7 (nq - 1) cq7, .slice Aa7 kf ca7] 25))
          have P6 := P6.later hst
          have X6 := X6.later hst
          have hV6 := hid_bytes hV6 hst
          have hV7 := hid_bytes hV7 hst
          have hB := hB.trans (hst.mono hB.size)
          have P7 := ((Box.newAt (w := w20) (n := w20.heap.size) [.int .i64 q.src, .int .i64 q.dst, .slice Ad7 ql cd7] 28 (by simp)).alloc (.cells #[.slice Aq7 (nq - 1) cq7, .slice Aa7 kf ca7] 25))
          have X7 := (Box.newAt (w := (w20.alloc (.cells #[.int .i64 q.src, .int .i64 q.dst, .slice Ad7 ql cd7] 28))) (n := w20.heap.size + 1) [.slice Aq7 (nq - 1) cq7, .slice Aa7 kf ca7] 25 (by simp))
          clear hst
          generalize ((w20.alloc (.cells #[.int .i64 q.src, .int .i64 q.dst, .slice Ad7 ql cd7] 28)).alloc (.cells #[.slice Aq7 (nq - 1) cq7, .slice Aa7 kf ca7] 25)) = w21 at hB P6 X6 P7 X7 hV6 hV7 ⊢
          generalize w20.heap.size + 1 = X7a at P7 X7 ⊢
          generalize w20.heap.size = P7a at P7 X7 ⊢
          refine (nSamePk_at (p := p) (q := Pk.zero) hsp hV6.out (bytes_nil _)).mono ?_
          rintro e w22 ⟨rfl, hb⟩
          have P6 := P6.later hb
          have X6 := X6.later hb
          have P7 := P7.later hb
          have X7 := X7.later hb
          have hV6 := hid_bytes hV6 hb
          have hV7 := hid_bytes hV7 hb
          have hB := hB.trans (hb.mono hB.size)
          clear hb
          go_wp2
          go_ret
          exact ⟨by first | rfl | simp, hB⟩

theorem law_NetworkCuts (n : Net) (Vq Va : Value) (a b at0 : Int) (w : World) (hN : NetAt w w.heap.size Vq Va n) (hat : 0 ≤ at0 ∧ at0 ≤ 18446744073709551615) :
    Calls Try.prog 5 #[.agg #[Vq, Va], .int .i64 a, .int .i64 b, .int .u64 at0] w fun e w' => e = .returned (.bool true) ∧ Below w.heap.size w w' := by
  obtain ⟨Aq, cq, rfl, _⟩ := hN.queue.form
  obtain ⟨Aa, ca, rfl, _⟩ := hN.apart.form
  rcases h : fewN n with _ | _
  · exact law_Cuts_1 n Aq _ cq Aa _ ca a b at0 w hN h
  · rcases check_cases n with hc | hc
    · have hok := okB_check.2 hc
      rcases hl : linkB (min a b) (max a b) with _ | _
      · exact law_Cuts_3 n Aq _ cq Aa _ ca a b at0 w hN h hc (by rw [Hid, cutT, if_pos hok, if_neg (by rw [hl]; decide)])
      · have hl2 : linkB (min b a) (max b a) = true := by rw [Int.min_comm, Int.max_comm]; exact hl
        have hX := cut_at hok hl true
        have hXok := cut_ok hok (keptB n.apart a b true)
        have hY : cutT n b a true = (⟨n.queue, allLinks.filter (keptB n.apart a b true)⟩, 0) := by rw [cut_at hok hl2 true, keptB_comm]
        have hZ : cutT ⟨n.queue, allLinks.filter (keptB n.apart a b true)⟩ a b true = (⟨n.queue, allLinks.filter (keptB n.apart a b true)⟩, 0) := by rw [cut_at hXok hl true, kept_twice]
        have hM : cutT ⟨n.queue, allLinks.filter (keptB n.apart a b true)⟩ b a false = (⟨n.queue, allLinks.filter (keptB n.apart a b false)⟩, 0) := by rw [cut_at hXok hl2 false, keptB_comm _ a b, kept_twice]
        have hK := cut_at hok hl false
        have hlen := cut_len n.apart hl
        have hk : (allLinks.filter (keptB n.apart a b false)).length ≤ 1000 := Nat.le_trans (List.length_filter_le _ _) (by decide +kernel)
        rcases Nat.eq_zero_or_pos n.queue.length with h0 | h0
        · exact law_Cuts_4 n Aq _ cq Aa _ ca a b at0 w hN h hc rfl _ _ _ hX hY hZ hM hK rfl rfl hlen rfl h0 hk
        · obtain ⟨k, hk1⟩ : ∃ k : Nat, at0 % (n.queue.length : Int) = (k : Int) := ⟨(at0 % (n.queue.length : Int)).toNat, by have := Int.emod_nonneg at0 (show (n.queue.length : Int) ≠ 0 by omega); omega⟩
          have hkl : k < n.queue.length := by have := Int.emod_lt_of_pos at0 (show (0 : Int) < n.queue.length by omega); omega
          have hy := pk_ok hok hkl
          have hKok := cut_ok hok (keptB n.apart a b false)
          have hdX := deliver_at hXok (k := k) hkl
          have hdK := deliver_at hKok (k := k) hkl
          obtain ⟨p, hp⟩ : ∃ p, (if cutB (allLinks.filter (keptB n.apart a b true)) (n.pk k).src (n.pk k).dst = true then Pk.zero else n.pk k) = p := ⟨_, rfl⟩
          obtain ⟨q, hq⟩ : ∃ q, (if cutB (allLinks.filter (keptB n.apart a b false)) (n.pk k).src (n.pk k).dst = true then Pk.zero else n.pk k) = q := ⟨_, rfl⟩
          have hcd := cut_deliver n.apart hl (n.pk k) hy p q hp hq
          refine law_Cuts_5 n Aq _ cq Aa _ ca a b at0 w hN h hc rfl _ _ _ hX hY hZ hM hK rfl rfl hlen rfl hat.1 h0 (few_len h).1 hk k hk1 hkl p q _ _ rfl rfl (hdX.trans (by rw [← hp]; rfl)) (hdK.trans (by rw [← hq]; rfl)) (without_len hkl) (without_len hkl) _ _ _ _ _ rfl rfl rfl rfl rfl ?_
          rcases hcd with ⟨h1, h2⟩ | ⟨h1, h2⟩
          · exact .inl ⟨h1, by rw [h2]; exact samePk_refl _⟩
          · exact .inr ⟨h1, by rw [h2], by rw [h2]; exact samePk_refl _⟩
    · exact law_Cuts_2 n Aq _ cq Aa _ ca a b at0 w hN h hc

end Go.Proofs.Ytndjpaiakodciaa
