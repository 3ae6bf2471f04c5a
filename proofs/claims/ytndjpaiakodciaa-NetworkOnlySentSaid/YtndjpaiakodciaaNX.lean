/-
  NetworkSpec. (Printed by gen_nx.py.)
-/
import Derived.Test.YtndjpaiakodciaaNW
namespace Go.Proofs.Ytndjpaiakodciaa
open Go.RowKit

theorem zero_hid (w : World) : Hid (NetAt w w.heap.size (.slice none 0 0) (.slice none 0 0) Net.zero) := netAt_zero w _
theorem same_refl_hid (m : Net) : Hid (sameNet m m = true) := sameNet_refl m

set_option maxRecDepth 100000 in
set_option maxHeartbeats 4000000 in
theorem law_Spec_no (n : Net) (Aq : Option Addr) (nq cq : Nat) (Aa : Option Addr) (na ca : Nat) (p : Pk) (Ad : Option Addr) (nd cd : Nat) (w : World) (hN : Hid (NetAt w w.heap.size (.slice Aq nq cq) (.slice Aa na ca) n)) (hV : Hid (BytesAt w w.heap.size (.slice Ad nd cd) p.data)) (hf : Hid (fewN n = false)) :
    Calls Try.prog 3 #[.agg #[.slice Aq nq cq, .slice Aa na ca], .agg #[.int .i64 p.src, .int .i64 p.dst, .slice Ad nd cd]] w fun e w' => e = .returned (.bool true) ∧ Below w.heap.size w w' := by
  have hB := Below.refl w.heap.size w
  obtain ⟨m, er, hs⟩ : ∃ m er, sendT n p = (m, er) := ⟨_, _, rfl⟩
  obtain ⟨ml, hml⟩ : ∃ k, m.queue.length = k := ⟨_, rfl⟩
  obtain ⟨ma, hma⟩ : ∃ k, m.apart.length = k := ⟨_, rfl⟩
  obtain ⟨c, hc⟩ : ∃ c, n.checkT = c := ⟨_, rfl⟩
  have hs := Lib.hid hs
  have hml := Lib.hid hml
  have hma := Lib.hid hma
  have hc := Lib.hid hc
  go_enter Try.func3, Try.ntmps3
  go_wp2_with fail
  have hst := (((Below.refl w.heap.size w).alloc (by simp <;> omega) (.cells #[.slice Aq nq cq, .slice Aa na ca] 25)).alloc (by simp <;> omega) (.cells #[.int .i64 p.src, .int .i64 p.dst, .slice Ad nd cd] 28))
  have hBo := hB
  have hN := hid_later hN hst
  have hV := hid_bytes hV hst
  have hB := hB.trans (hst.mono hB.size)
  have X0 := ((Box.newAt (w := w) (n := w.heap.size) [.slice Aq nq cq, .slice Aa na ca] 25 (by simp)).alloc (.cells #[.int .i64 p.src, .int .i64 p.dst, .slice Ad nd cd] 28))
  have X1 := (Box.newAt (w := (w.alloc (.cells #[.slice Aq nq cq, .slice Aa na ca] 25))) (n := w.heap.size + 1) [.int .i64 p.src, .int .i64 p.dst, .slice Ad nd cd] 28 (by simp))
  clear hst
  generalize ((w.alloc (.cells #[.slice Aq nq cq, .slice Aa na ca] 25)).alloc (.cells #[.int .i64 p.src, .int .i64 p.dst, .slice Ad nd cd] 28)) = w1 at hB  X0 X1 hN hV ⊢
  generalize w.heap.size + 1 = X1a at X0 X1 ⊢
  generalize w.heap.size = X0a at X0 X1 ⊢
  refine (nSane_any _).mono ?_
  rintro e w2 ⟨rfl, hb⟩
  have X0 := X0.later hb
  have X1 := X1.later hb
  have hN := hid_later hN hb
  have hV := hid_bytes hV hb
  have hB := hB.trans (hb.mono hB.size)
  clear hb
  have X0c0 : w2.cell? ⟨X0a, 0, none⟩ = some (.slice Aq nq cq) := X0.cell 0
  have X0c1 : w2.cell? ⟨X0a, 1, none⟩ = some (.slice Aa na ca) := X0.cell 1
  have X0z : X0a < w2.heap.size := X0.lt
  go_wp2_with fail
  clear X0c0 X0c1 X0z
  refine (nFew_at hf hN.out).mono ?_
  rintro e w3 ⟨rfl, hb⟩
  have X0 := X0.later hb
  have X1 := X1.later hb
  have hN := hid_later hN hb
  have hV := hid_bytes hV hb
  have hB := hB.trans (hb.mono hB.size)
  clear hb
  go_wp2
  go_ret
  exact ⟨rfl, hB⟩

set_option maxRecDepth 100000 in
set_option maxHeartbeats 4000000 in
theorem law_Spec_yes (n : Net) (Aq : Option Addr) (nq cq : Nat) (Aa : Option Addr) (na ca : Nat) (p : Pk) (Ad : Option Addr) (nd cd : Nat) (w : World) (hN : Hid (NetAt w w.heap.size (.slice Aq nq cq) (.slice Aa na ca) n)) (hV : Hid (BytesAt w w.heap.size (.slice Ad nd cd) p.data)) (hf : Hid (fewN n = true)) :
    Calls Try.prog 3 #[.agg #[.slice Aq nq cq, .slice Aa na ca], .agg #[.int .i64 p.src, .int .i64 p.dst, .slice Ad nd cd]] w fun e w' => e = .returned (.bool true) ∧ Below w.heap.size w w' := by
  have hB := Below.refl w.heap.size w
  obtain ⟨m, er, hs⟩ : ∃ m er, sendT n p = (m, er) := ⟨_, _, rfl⟩
  obtain ⟨ml, hml⟩ : ∃ k, m.queue.length = k := ⟨_, rfl⟩
  obtain ⟨ma, hma⟩ : ∃ k, m.apart.length = k := ⟨_, rfl⟩
  obtain ⟨c, hc⟩ : ∃ c, n.checkT = c := ⟨_, rfl⟩
  have hs := Lib.hid hs
  have hml := Lib.hid hml
  have hma := Lib.hid hma
  have hc := Lib.hid hc
  go_enter Try.func3, Try.ntmps3
  go_wp2_with fail
  have hst := (((Below.refl w.heap.size w).alloc (by simp <;> omega) (.cells #[.slice Aq nq cq, .slice Aa na ca] 25)).alloc (by simp <;> omega) (.cells #[.int .i64 p.src, .int .i64 p.dst, .slice Ad nd cd] 28))
  have hBo := hB
  have hN := hid_later hN hst
  have hV := hid_bytes hV hst
  have hB := hB.trans (hst.mono hB.size)
  have X0 := ((Box.newAt (w := w) (n := w.heap.size) [.slice Aq nq cq, .slice Aa na ca] 25 (by simp)).alloc (.cells #[.int .i64 p.src, .int .i64 p.dst, .slice Ad nd cd] 28))
  have X1 := (Box.newAt (w := (w.alloc (.cells #[.slice Aq nq cq, .slice Aa na ca] 25))) (n := w.heap.size + 1) [.int .i64 p.src, .int .i64 p.dst, .slice Ad nd cd] 28 (by simp))
  clear hst
  generalize ((w.alloc (.cells #[.slice Aq nq cq, .slice Aa na ca] 25)).alloc (.cells #[.int .i64 p.src, .int .i64 p.dst, .slice Ad nd cd] 28)) = w1 at hB  X0 X1 hN hV ⊢
  generalize w.heap.size + 1 = X1a at X0 X1 ⊢
  generalize w.heap.size = X0a at X0 X1 ⊢
  refine (nSane_any _).mono ?_
  rintro e w2 ⟨rfl, hb⟩
  have X0 := X0.later hb
  have X1 := X1.later hb
  have hN := hid_later hN hb
  have hV := hid_bytes hV hb
  have hB := hB.trans (hb.mono hB.size)
  clear hb
  have X0c0 : w2.cell? ⟨X0a, 0, none⟩ = some (.slice Aq nq cq) := X0.cell 0
  have X0c1 : w2.cell? ⟨X0a, 1, none⟩ = some (.slice Aa na ca) := X0.cell 1
  have X0z : X0a < w2.heap.size := X0.lt
  go_wp2_with fail
  clear X0c0 X0c1 X0z
  refine (nFew_at hf hN.out).mono ?_
  rintro e w3 ⟨rfl, hb⟩
  have X0 := X0.later hb
  have X1 := X1.later hb
  have hN := hid_later hN hb
  have hV := hid_bytes hV hb
  have hB := hB.trans (hb.mono hB.size)
  clear hb
  have X0c0 : w3.cell? ⟨X0a, 0, none⟩ = some (.slice Aq nq cq) := X0.cell 0
  have X0c1 : w3.cell? ⟨X0a, 1, none⟩ = some (.slice Aa na ca) := X0.cell 1
  have X0z : X0a < w3.heap.size := X0.lt
  have X1c0 : w3.cell? ⟨X1a, 0, none⟩ = some (.int .i64 p.src) := X1.cell 0
  have X1c1 : w3.cell? ⟨X1a, 1, none⟩ = some (.int .i64 p.dst) := X1.cell 1
  have X1c2 : w3.cell? ⟨X1a, 2, none⟩ = some (.slice Ad nd cd) := X1.cell 2
  have X1z : X1a < w3.heap.size := X1.lt
  go_wp2_with fail
  clear X0c0 X0c1 X0z X1c0 X1c1 X1c2 X1z
  refine (nSend_is n p hN hV).mono ?_
  rintro e w4 hh
  obtain ⟨Aq2, cq2, Aa2, ca2, rfl, hN2, hb⟩ := RetNet.is hh hs hml hma
  have X0 := X0.later hb
  have X1 := X1.later hb
  have hN := hid_later hN hb
  have hV := hid_bytes hV hb
  have hB := hB.trans (hb.mono hB.size)
  clear hb
  have X0c0 : w4.cell? ⟨X0a, 0, none⟩ = some (.slice Aq nq cq) := X0.cell 0
  have X0c1 : w4.cell? ⟨X0a, 1, none⟩ = some (.slice Aa na ca) := X0.cell 1
  have X0z : X0a < w4.heap.size := X0.lt
  have X1c0 : w4.cell? ⟨X1a, 0, none⟩ = some (.int .i64 p.src) := X1.cell 0
  have X1c1 : w4.cell? ⟨X1a, 1, none⟩ = some (.int .i64 p.dst) := X1.cell 1
  have X1c2 : w4.cell? ⟨X1a, 2, none⟩ = some (.slice Ad nd cd) := X1.cell 2
  have X1z : X1a < w4.heap.size := X1.lt
  go_wp2_with fail
  clear X0c0 X0c1 X0z X1c0 X1c1 X1c2 X1z
  have hst := ((Below.refl w4.heap.size w4).alloc (by simp <;> omega) (.cells #[.slice Aq2 ml cq2, .slice Aa2 ma ca2] 25))
  have hBo := hB
  have X0o := X0
  have X0 := X0.later hst
  have X1o := X1
  have X1 := X1.later hst
  have hN := hid_later hN hst
  have hV := hid_bytes hV hst
  have hN2 := hid_later hN2 hst
  have hB := hB.trans (hst.mono hB.size)
  have X2 := (Box.newAt (w := w4) (n := w4.heap.size) [.slice Aq2 ml cq2, .slice Aa2 ma ca2] 25 (by simp))
  clear hst
  generalize (w4.alloc (.cells #[.slice Aq2 ml cq2, .slice Aa2 ma ca2] 25)) = w5 at hB X0 X1 X2 hN hV hN2 ⊢
  generalize w4.heap.size = X2a at X2 ⊢
  refine (nRSend_is n p hN hV).mono ?_
  rintro e w6 hh
  obtain ⟨Aq3, cq3, Aa3, ca3, rfl, hN3, hb⟩ := RetNet.is hh hs hml hma
  have X0 := X0.later hb
  have X1 := X1.later hb
  have X2 := X2.later hb
  have hN := hid_later hN hb
  have hV := hid_bytes hV hb
  have hN2 := hid_later hN2 hb
  have hB := hB.trans (hb.mono hB.size)
  clear hb
  go_wp2_with fail
  have hst := ((Below.refl w6.heap.size w6).alloc (by simp <;> omega) (.cells #[.slice Aq3 ml cq3, .slice Aa3 ma ca3] 25))
  have hBo := hB
  have X0o := X0
  have X0 := X0.later hst
  have X1o := X1
  have X1 := X1.later hst
  have X2o := X2
  have X2 := X2.later hst
  have hN := hid_later hN hst
  have hV := hid_bytes hV hst
  have hN2 := hid_later hN2 hst
  have hN3 := hid_later hN3 hst
  have hB := hB.trans (hst.mono hB.size)
  have X3 := (Box.newAt (w := w6) (n := w6.heap.size) [.slice Aq3 ml cq3, .slice Aa3 ma ca3] 25 (by simp))
  clear hst
  generalize (w6.alloc (.cells #[.slice Aq3 ml cq3, .slice Aa3 ma ca3] 25)) = w7 at hB X0 X1 X2 X3 hN hV hN2 hN3 ⊢
  generalize w6.heap.size = X3a at X3 ⊢
  have X0l0 : ∀ zz : Later w7, zz.w.cell? ⟨X0a, 0, none⟩ = some (.slice Aq nq cq) := Later.cell (X0.cell 0) X0.lt
  have X0l1 : ∀ zz : Later w7, zz.w.cell? ⟨X0a, 1, none⟩ = some (.slice Aa na ca) := Later.cell (X0.cell 1) X0.lt
  have X2l0 : ∀ zz : Later w7, zz.w.cell? ⟨X2a, 0, none⟩ = some (.slice Aq2 ml cq2) := Later.cell (X2.cell 0) X2.lt
  have X2l1 : ∀ zz : Later w7, zz.w.cell? ⟨X2a, 1, none⟩ = some (.slice Aa2 ma ca2) := Later.cell (X2.cell 1) X2.lt
  have X3l0 : ∀ zz : Later w7, zz.w.cell? ⟨X3a, 0, none⟩ = some (.slice Aq3 ml cq3) := Later.cell (X3.cell 0) X3.lt
  have X3l1 : ∀ zz : Later w7, zz.w.cell? ⟨X3a, 1, none⟩ = some (.slice Aa3 ma ca3) := Later.cell (X3.cell 1) X3.lt
  refine wp_region_later (by kernel_rfl) (by kernel_rfl) ?_
  repeat (go_big_quiet_step ((first | (go_at_call 13; with_reducible exact Later.call _ (nCheck_z hc hN _)) | (go_at_call 14; with_reducible exact Later.call _ (nRCheck_z hc hN _)) | (go_at_call 15; with_reducible exact Later.call _ (nSame_z (same_refl_hid m) hN2 hN3 _)) | (go_at_call 15; with_reducible exact Later.call _ (nSame_z (same_refl_hid Net.zero) (zero_hid _) (zero_hid _) _)) | (go_at_call 16; with_reducible exact Later.call _ (nNew_any _)) | (go_at_call 17; with_reducible exact Later.call _ (nRNew_any _)))))
  refine wpQuiet_nil ?_
  intro _ hw'
  obtain ⟨yq, hw''⟩ := hw'
  subst hw''
  clear X0l0 X0l1 X2l0 X2l1 X3l0 X3l1
  obtain ⟨w8, hz, hb⟩ : ∃ z, yq.w = z ∧ Below w7.heap.size w7 z := ⟨_, rfl, yq.below⟩
  rw [hz]
  clear hz
  have X0 := X0.later hb
  have X1 := X1.later hb
  have X2 := X2.later hb
  have X3 := X3.later hb
  have hN := hid_later hN hb
  have hV := hid_bytes hV hb
  have hN2 := hid_later hN2 hb
  have hN3 := hid_later hN3 hb
  have hB := hB.trans (hb.mono hB.size)
  clear hb
  go_wp2
  go_ret
  exact ⟨by first | rfl | simp, hB⟩

theorem law_NetworkSpec (n : Net) (Vq Va : Value) (p : Pk) (Vd : Value) (w : World) (hN : NetAt w w.heap.size Vq Va n) (hV : BytesAt w w.heap.size Vd p.data) :
    Calls Try.prog 3 #[.agg #[Vq, Va], p.v Vd] w fun e w' => e = .returned (.bool true) ∧ Below w.heap.size w w' := by
  obtain ⟨Aq, cq, rfl, _⟩ := hN.queue.form
  obtain ⟨Aa, ca, rfl, _⟩ := hN.apart.form
  obtain ⟨Ad, cd, rfl, _⟩ := hV.form
  rcases h : fewN n with _ | _
  · exact law_Spec_no n Aq _ cq Aa _ ca p Ad _ cd w hN hV h
  · exact law_Spec_yes n Aq _ cq Aa _ ca p Ad _ cd w hN hV h

end Go.Proofs.Ytndjpaiakodciaa
