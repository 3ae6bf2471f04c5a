/- The law JournalRoom, where the records' lengths together are bounded. (Printed by gen_me.py.) -/
import Derived.Test.YthlidhfahaalgaaQMD
set_option linter.unusedVariables false
set_option linter.unusedSimpArgs false
namespace Go.Proofs.Ythlidhfahaalgaa
open Go.RowKit
attribute [local go_sem ↓ high] app_named cop_named

theorem secT_le {m : Nat} {r : Int} : ((secT m : Nat) : Int) ≤ r ↔ 0 < 112 * r ∧ (m : Int) ≤ 112 * r := by
  unfold secT
  omega
theorem room_over {J : Jn} {b : Bs} (h : J.okB = true) (hn : ¬ (0 < J.roomT ∧ (b.length : Int) ≤ J.roomT)) : appendT J b = (Jn.zero, 2) := by
  rw [Jn.roomT, if_pos h, ← secT_le] at hn
  rw [appendT, if_pos h, if_pos (by omega)]
theorem room_fit {J : Jn} {b : Bs} (h : J.okB = true) (hn : 0 < J.roomT ∧ (b.length : Int) ≤ J.roomT) : appendT J b = (⟨J.records ++ [b], J.many, J.synced⟩, 0) ∧ (⟨J.records ++ [b], J.many, J.synced⟩ : Jn).okB = true ∧ (⟨J.records ++ [b], J.many, J.synced⟩ : Jn).roomT < J.roomT := by
  have hn' := hn
  rw [Jn.roomT, if_pos h, ← secT_le] at hn
  obtain ⟨g1, g2, g3, g4, g5⟩ := J.okB_iff.1 h
  have hok : (⟨J.records ++ [b], J.many, J.synced⟩ : Jn).okB = true := by
    refine (Jn.okB_iff _).2 ⟨g1, g2, g3, ?_, ?_⟩
    · simp only [List.length_append, List.length_cons, List.length_nil]; omega
    · simp only [usedT_snoc]; omega
  refine ⟨by rw [appendT, if_pos h, if_neg (by omega)], hok, ?_⟩
  have hs : 1 ≤ secT b.length := by unfold secT; omega
  rw [Jn.roomT, if_pos hok, Jn.roomT, if_pos h]
  simp only [usedT_snoc]
  omega

set_option maxRecDepth 100000 in
set_option maxHeartbeats 8000000 in
theorem lawR_1 (J : Jn) (A : Option Addr) (n c : Nat) (many sync : Int) (b : Bs) (Ab : Option Addr) (nb cb : Nat) (w : World) (hR : Hid (RwAt w (Out []) (.slice A n c) J.records)) (hj : Hid (JnIs J n many sync)) (hs : Hid (sumB J.records ≤ 4194304)) (hb0 : Hid (BsAt w (Out []) (.slice Ab nb cb) b)) (hnb : Hid (b.length = nb)) (hl : 70000 < nb) : Calls Try.prog 6 #[.agg #[.slice A n c, .int .i64 many, .int .i64 sync], .slice Ab nb cb] w (fun e w' => e = .returned (.bool true) ∧ Below w.heap.size w w') := by
  have hB := Below.refl w.heap.size w
  have hL := InW.nil w
  go_enter Try.func6, Try.ntmps6
  go_wp2_with fail
  have hst := (Below.refl w.heap.size w).alloc (Nat.le_refl _) (.cells #[.slice A n c, .int .i64 many, .int .i64 sync] 29)
  replace hR := rw_later hR hst
  replace hb0 := bs_later hb0 hst
  replace hL := hL.later hst.size
  replace hB := hB.trans (hst.mono hB.size)
  have X0 := Box.new w [.slice A n c, .int .i64 many, .int .i64 sync] 29
  have hzX0 : Hid ((w.alloc (.cells #[.slice A n c, .int .i64 many, .int .i64 sync] 29)).heap.size = w.heap.size + 1) := Lib.hid (by simp)
  clear hst
  generalize w.alloc (.cells #[.slice A n c, .int .i64 many, .int .i64 sync] 29) = w1 at hB hL hzX0 X0 hR hb0 ⊢
  generalize hga : w.heap.size = X0a at hzX0 X0 ⊢
  clear hga
  refine (jSane_any _).mono ?_
  rintro e w2 ⟨rfl, hb⟩
  replace X0 := X0.later hb
  replace hR := rw_later hR hb
  replace hb0 := bs_later hb0 hb
  replace hB := hB.trans (hb.mono hB.size)
  replace hL := hL.later hb.size
  clear hb
  clear hzX0
  have X0c0 : w2.cell? ⟨X0a, 0, none⟩ = some (.slice A n c) := X0.cell 0
  have X0c1 : w2.cell? ⟨X0a, 1, none⟩ = some (.int .i64 many) := X0.cell 1
  have X0c2 : w2.cell? ⟨X0a, 2, none⟩ = some (.int .i64 sync) := X0.cell 2
  have X0z : X0a < w2.heap.size := X0.lt
  go_wp2_with fail
  clear X0c0 X0c1 X0c2 X0z
  refine (jFew_at hR (Lib.hid hj.out.len)).mono ?_
  rintro e w3 ⟨t, rfl, ht, hb⟩
  replace X0 := X0.later hb
  replace hR := rw_later hR hb
  replace hb0 := bs_later hb0 hb
  replace hB := hB.trans (hb.mono hB.size)
  replace hL := hL.later hb.size
  clear hb
  have hdl : decide ((nb : Int) > 70000) = true := by simp; omega
  clear ht
  rcases t with _ | _
  · go_wp2
    go_ret
    exact ⟨rfl, hB⟩
  go_wp2
  go_ret
  exact ⟨rfl, hB⟩

set_option maxRecDepth 100000 in
set_option maxHeartbeats 8000000 in
theorem lawR_3 (J : Jn) (A : Option Addr) (n c : Nat) (many sync : Int) (b : Bs) (Ab : Option Addr) (nb cb : Nat) (w : World) (hR : Hid (RwAt w (Out []) (.slice A n c) J.records)) (hj : Hid (JnIs J n many sync)) (hs : Hid (sumB J.records ≤ 4194304)) (hb0 : Hid (BsAt w (Out []) (.slice Ab nb cb) b)) (hnb : Hid (b.length = nb)) (hl : nb ≤ 70000) (hck : Hid (J.checkT = 1)) : Calls Try.prog 6 #[.agg #[.slice A n c, .int .i64 many, .int .i64 sync], .slice Ab nb cb] w (fun e w' => e = .returned (.bool true) ∧ Below w.heap.size w w') := by
  have hB := Below.refl w.heap.size w
  have hL := InW.nil w
  go_enter Try.func6, Try.ntmps6
  go_wp2_with fail
  have hst := (Below.refl w.heap.size w).alloc (Nat.le_refl _) (.cells #[.slice A n c, .int .i64 many, .int .i64 sync] 29)
  replace hR := rw_later hR hst
  replace hb0 := bs_later hb0 hst
  replace hL := hL.later hst.size
  replace hB := hB.trans (hst.mono hB.size)
  have X0 := Box.new w [.slice A n c, .int .i64 many, .int .i64 sync] 29
  have hzX0 : Hid ((w.alloc (.cells #[.slice A n c, .int .i64 many, .int .i64 sync] 29)).heap.size = w.heap.size + 1) := Lib.hid (by simp)
  clear hst
  generalize w.alloc (.cells #[.slice A n c, .int .i64 many, .int .i64 sync] 29) = w1 at hB hL hzX0 X0 hR hb0 ⊢
  generalize hga : w.heap.size = X0a at hzX0 X0 ⊢
  clear hga
  refine (jSane_any _).mono ?_
  rintro e w2 ⟨rfl, hb⟩
  replace X0 := X0.later hb
  replace hR := rw_later hR hb
  replace hb0 := bs_later hb0 hb
  replace hB := hB.trans (hb.mono hB.size)
  replace hL := hL.later hb.size
  clear hb
  clear hzX0
  have X0c0 : w2.cell? ⟨X0a, 0, none⟩ = some (.slice A n c) := X0.cell 0
  have X0c1 : w2.cell? ⟨X0a, 1, none⟩ = some (.int .i64 many) := X0.cell 1
  have X0c2 : w2.cell? ⟨X0a, 2, none⟩ = some (.int .i64 sync) := X0.cell 2
  have X0z : X0a < w2.heap.size := X0.lt
  go_wp2_with fail
  clear X0c0 X0c1 X0c2 X0z
  refine (jFew_at hR (Lib.hid hj.out.len)).mono ?_
  rintro e w3 ⟨t, rfl, ht, hb⟩
  replace X0 := X0.later hb
  replace hR := rw_later hR hb
  replace hb0 := bs_later hb0 hb
  replace hB := hB.trans (hb.mono hB.size)
  replace hL := hL.later hb.size
  clear hb
  have hdl : decide ((nb : Int) > 70000) = false := by simp; omega
  clear ht
  rcases t with _ | _
  · go_wp2
    go_ret
    exact ⟨rfl, hB⟩
  have X0c0 : w3.cell? ⟨X0a, 0, none⟩ = some (.slice A n c) := X0.cell 0
  have X0c1 : w3.cell? ⟨X0a, 1, none⟩ = some (.int .i64 many) := X0.cell 1
  have X0c2 : w3.cell? ⟨X0a, 2, none⟩ = some (.int .i64 sync) := X0.cell 2
  have X0z : X0a < w3.heap.size := X0.lt
  go_wp2_with fail
  clear X0c0 X0c1 X0c2 X0z
  refine (jCheck_at hR hj hs hck).mono ?_
  rintro e w4 ⟨rfl, hb⟩
  replace X0 := X0.later hb
  replace hR := rw_later hR hb
  replace hb0 := bs_later hb0 hb
  replace hB := hB.trans (hb.mono hB.size)
  replace hL := hL.later hb.size
  clear hb
  go_wp2
  go_ret
  exact ⟨rfl, hB⟩

set_option maxRecDepth 100000 in
set_option maxHeartbeats 8000000 in
theorem lawR_4a (J : Jn) (A : Option Addr) (n c : Nat) (many sync : Int) (b : Bs) (Ab : Option Addr) (nb cb : Nat) (w : World) (hR : Hid (RwAt w (Out []) (.slice A n c) J.records)) (hj : Hid (JnIs J n many sync)) (hs : Hid (sumB J.records ≤ 4194304)) (hb0 : Hid (BsAt w (Out []) (.slice Ab nb cb) b)) (hnb : Hid (b.length = nb)) (hl : nb ≤ 70000) (hck : Hid (J.checkT = 0)) (rm : Int) (hrm : Hid (J.roomT = rm)) (hz : rm ≤ 0) (J1 : Jn) (m1 s1 : Int) (h1 : Hid (appendT J b = (J1, 2))) (hj1 : Hid (JnIs J1 0 m1 s1)) : Calls Try.prog 6 #[.agg #[.slice A n c, .int .i64 many, .int .i64 sync], .slice Ab nb cb] w (fun e w' => e = .returned (.bool true) ∧ Below w.heap.size w w') := by
  have hB := Below.refl w.heap.size w
  have hL := InW.nil w
  go_enter Try.func6, Try.ntmps6
  go_wp2_with fail
  have hst := (Below.refl w.heap.size w).alloc (Nat.le_refl _) (.cells #[.slice A n c, .int .i64 many, .int .i64 sync] 29)
  replace hR := rw_later hR hst
  replace hb0 := bs_later hb0 hst
  replace hL := hL.later hst.size
  replace hB := hB.trans (hst.mono hB.size)
  have X0 := Box.new w [.slice A n c, .int .i64 many, .int .i64 sync] 29
  have hzX0 : Hid ((w.alloc (.cells #[.slice A n c, .int .i64 many, .int .i64 sync] 29)).heap.size = w.heap.size + 1) := Lib.hid (by simp)
  clear hst
  generalize w.alloc (.cells #[.slice A n c, .int .i64 many, .int .i64 sync] 29) = w1 at hB hL hzX0 X0 hR hb0 ⊢
  generalize hga : w.heap.size = X0a at hzX0 X0 ⊢
  clear hga
  refine (jSane_any _).mono ?_
  rintro e w2 ⟨rfl, hb⟩
  replace X0 := X0.later hb
  replace hR := rw_later hR hb
  replace hb0 := bs_later hb0 hb
  replace hB := hB.trans (hb.mono hB.size)
  replace hL := hL.later hb.size
  clear hb
  clear hzX0
  have X0c0 : w2.cell? ⟨X0a, 0, none⟩ = some (.slice A n c) := X0.cell 0
  have X0c1 : w2.cell? ⟨X0a, 1, none⟩ = some (.int .i64 many) := X0.cell 1
  have X0c2 : w2.cell? ⟨X0a, 2, none⟩ = some (.int .i64 sync) := X0.cell 2
  have X0z : X0a < w2.heap.size := X0.lt
  go_wp2_with fail
  clear X0c0 X0c1 X0c2 X0z
  refine (jFew_at hR (Lib.hid hj.out.len)).mono ?_
  rintro e w3 ⟨t, rfl, ht, hb⟩
  replace X0 := X0.later hb
  replace hR := rw_later hR hb
  replace hb0 := bs_later hb0 hb
  replace hB := hB.trans (hb.mono hB.size)
  replace hL := hL.later hb.size
  clear hb
  have hdl : decide ((nb : Int) > 70000) = false := by simp; omega
  clear ht
  rcases t with _ | _
  · go_wp2
    go_ret
    exact ⟨rfl, hB⟩
  have X0c0 : w3.cell? ⟨X0a, 0, none⟩ = some (.slice A n c) := X0.cell 0
  have X0c1 : w3.cell? ⟨X0a, 1, none⟩ = some (.int .i64 many) := X0.cell 1
  have X0c2 : w3.cell? ⟨X0a, 2, none⟩ = some (.int .i64 sync) := X0.cell 2
  have X0z : X0a < w3.heap.size := X0.lt
  go_wp2_with fail
  clear X0c0 X0c1 X0c2 X0z
  refine (jCheck_at hR hj hs hck).mono ?_
  rintro e w4 ⟨rfl, hb⟩
  replace X0 := X0.later hb
  replace hR := rw_later hR hb
  replace hb0 := bs_later hb0 hb
  replace hB := hB.trans (hb.mono hB.size)
  replace hL := hL.later hb.size
  clear hb
  have hnb2 : nb ≤ 9223372036854775000 := by omega
  have X0c0 : w4.cell? ⟨X0a, 0, none⟩ = some (.slice A n c) := X0.cell 0
  have X0c1 : w4.cell? ⟨X0a, 1, none⟩ = some (.int .i64 many) := X0.cell 1
  have X0c2 : w4.cell? ⟨X0a, 2, none⟩ = some (.int .i64 sync) := X0.cell 2
  have X0z : X0a < w4.heap.size := X0.lt
  go_wp2_with fail
  clear X0c0 X0c1 X0c2 X0z
  refine (jAppend_at hR hj hs hb0 hnb hnb2).mono ?_
  rintro e w5 hh
  obtain ⟨A1, c1, rfl, R1, hb⟩ := RetJn.is hh hL h1 hj1
  replace X0 := X0.later hb
  replace hR := rw_later hR hb
  replace hb0 := bs_later hb0 hb
  replace hB := hB.trans (hb.mono hB.size)
  replace hL := hL.later hb.size
  clear hb
  have X0c0 : w5.cell? ⟨X0a, 0, none⟩ = some (.slice A n c) := X0.cell 0
  have X0c1 : w5.cell? ⟨X0a, 1, none⟩ = some (.int .i64 many) := X0.cell 1
  have X0c2 : w5.cell? ⟨X0a, 2, none⟩ = some (.int .i64 sync) := X0.cell 2
  have X0z : X0a < w5.heap.size := X0.lt
  go_wp2_with fail
  clear X0c0 X0c1 X0c2 X0z
  have hst := (Below.refl w5.heap.size w5).alloc (Nat.le_refl _) (.cells #[.slice A1 0 c1, .int .i64 m1, .int .i64 s1] 29)
  replace X0 := X0.later hst
  replace hR := rw_later hR hst
  replace hb0 := bs_later hb0 hst
  replace R1 := rw_later R1 hst
  replace hL := hL.later hst.size
  replace hB := hB.trans (hst.mono hB.size)
  have Y := Box.new w5 [.slice A1 0 c1, .int .i64 m1, .int .i64 s1] 29
  have hzY : Hid ((w5.alloc (.cells #[.slice A1 0 c1, .int .i64 m1, .int .i64 s1] 29)).heap.size = w5.heap.size + 1) := Lib.hid (by simp)
  clear hst
  generalize w5.alloc (.cells #[.slice A1 0 c1, .int .i64 m1, .int .i64 s1] 29) = w6 at hB hL hzY Y X0 hR hb0 R1 ⊢
  generalize hga : w5.heap.size = Ya at hzY Y ⊢
  clear hga
  refine (jRoom_at hR hj hs hrm).mono ?_
  rintro e w7 ⟨rfl, hb⟩
  replace X0 := X0.later hb
  replace Y := Y.later hb
  replace hR := rw_later hR hb
  replace hb0 := bs_later hb0 hb
  replace R1 := rw_later R1 hb
  replace hB := hB.trans (hb.mono hB.size)
  replace hL := hL.later hb.size
  clear hb
  have d1 : decide (rm > 0) = false := by simp; omega
  have Yc0 : w7.cell? ⟨Ya, 0, none⟩ = some (.slice A1 0 c1) := Y.cell 0
  have Yc1 : w7.cell? ⟨Ya, 1, none⟩ = some (.int .i64 m1) := Y.cell 1
  have Yc2 : w7.cell? ⟨Ya, 2, none⟩ = some (.int .i64 s1) := Y.cell 2
  have Yz : Ya < w7.heap.size := Y.lt
  go_wp2
  go_ret
  exact ⟨rfl, hB⟩

set_option maxRecDepth 100000 in
set_option maxHeartbeats 8000000 in
theorem lawR_4b (J : Jn) (A : Option Addr) (n c : Nat) (many sync : Int) (b : Bs) (Ab : Option Addr) (nb cb : Nat) (w : World) (hR : Hid (RwAt w (Out []) (.slice A n c) J.records)) (hj : Hid (JnIs J n many sync)) (hs : Hid (sumB J.records ≤ 4194304)) (hb0 : Hid (BsAt w (Out []) (.slice Ab nb cb) b)) (hnb : Hid (b.length = nb)) (hl : nb ≤ 70000) (hck : Hid (J.checkT = 0)) (rm : Int) (hrm : Hid (J.roomT = rm)) (hz : 0 < rm) (hz2 : rm < nb) (J1 : Jn) (m1 s1 : Int) (h1 : Hid (appendT J b = (J1, 2))) (hj1 : Hid (JnIs J1 0 m1 s1)) : Calls Try.prog 6 #[.agg #[.slice A n c, .int .i64 many, .int .i64 sync], .slice Ab nb cb] w (fun e w' => e = .returned (.bool true) ∧ Below w.heap.size w w') := by
  have hB := Below.refl w.heap.size w
  have hL := InW.nil w
  go_enter Try.func6, Try.ntmps6
  go_wp2_with fail
  have hst := (Below.refl w.heap.size w).alloc (Nat.le_refl _) (.cells #[.slice A n c, .int .i64 many, .int .i64 sync] 29)
  replace hR := rw_later hR hst
  replace hb0 := bs_later hb0 hst
  replace hL := hL.later hst.size
  replace hB := hB.trans (hst.mono hB.size)
  have X0 := Box.new w [.slice A n c, .int .i64 many, .int .i64 sync] 29
  have hzX0 : Hid ((w.alloc (.cells #[.slice A n c, .int .i64 many, .int .i64 sync] 29)).heap.size = w.heap.size + 1) := Lib.hid (by simp)
  clear hst
  generalize w.alloc (.cells #[.slice A n c, .int .i64 many, .int .i64 sync] 29) = w1 at hB hL hzX0 X0 hR hb0 ⊢
  generalize hga : w.heap.size = X0a at hzX0 X0 ⊢
  clear hga
  refine (jSane_any _).mono ?_
  rintro e w2 ⟨rfl, hb⟩
  replace X0 := X0.later hb
  replace hR := rw_later hR hb
  replace hb0 := bs_later hb0 hb
  replace hB := hB.trans (hb.mono hB.size)
  replace hL := hL.later hb.size
  clear hb
  clear hzX0
  have X0c0 : w2.cell? ⟨X0a, 0, none⟩ = some (.slice A n c) := X0.cell 0
  have X0c1 : w2.cell? ⟨X0a, 1, none⟩ = some (.int .i64 many) := X0.cell 1
  have X0c2 : w2.cell? ⟨X0a, 2, none⟩ = some (.int .i64 sync) := X0.cell 2
  have X0z : X0a < w2.heap.size := X0.lt
  go_wp2_with fail
  clear X0c0 X0c1 X0c2 X0z
  refine (jFew_at hR (Lib.hid hj.out.len)).mono ?_
  rintro e w3 ⟨t, rfl, ht, hb⟩
  replace X0 := X0.later hb
  replace hR := rw_later hR hb
  replace hb0 := bs_later hb0 hb
  replace hB := hB.trans (hb.mono hB.size)
  replace hL := hL.later hb.size
  clear hb
  have hdl : decide ((nb : Int) > 70000) = false := by simp; omega
  clear ht
  rcases t with _ | _
  · go_wp2
    go_ret
    exact ⟨rfl, hB⟩
  have X0c0 : w3.cell? ⟨X0a, 0, none⟩ = some (.slice A n c) := X0.cell 0
  have X0c1 : w3.cell? ⟨X0a, 1, none⟩ = some (.int .i64 many) := X0.cell 1
  have X0c2 : w3.cell? ⟨X0a, 2, none⟩ = some (.int .i64 sync) := X0.cell 2
  have X0z : X0a < w3.heap.size := X0.lt
  go_wp2_with fail
  clear X0c0 X0c1 X0c2 X0z
  refine (jCheck_at hR hj hs hck).mono ?_
  rintro e w4 ⟨rfl, hb⟩
  replace X0 := X0.later hb
  replace hR := rw_later hR hb
  replace hb0 := bs_later hb0 hb
  replace hB := hB.trans (hb.mono hB.size)
  replace hL := hL.later hb.size
  clear hb
  have hnb2 : nb ≤ 9223372036854775000 := by omega
  have X0c0 : w4.cell? ⟨X0a, 0, none⟩ = some (.slice A n c) := X0.cell 0
  have X0c1 : w4.cell? ⟨X0a, 1, none⟩ = some (.int .i64 many) := X0.cell 1
  have X0c2 : w4.cell? ⟨X0a, 2, none⟩ = some (.int .i64 sync) := X0.cell 2
  have X0z : X0a < w4.heap.size := X0.lt
  go_wp2_with fail
  clear X0c0 X0c1 X0c2 X0z
  refine (jAppend_at hR hj hs hb0 hnb hnb2).mono ?_
  rintro e w5 hh
  obtain ⟨A1, c1, rfl, R1, hb⟩ := RetJn.is hh hL h1 hj1
  replace X0 := X0.later hb
  replace hR := rw_later hR hb
  replace hb0 := bs_later hb0 hb
  replace hB := hB.trans (hb.mono hB.size)
  replace hL := hL.later hb.size
  clear hb
  have X0c0 : w5.cell? ⟨X0a, 0, none⟩ = some (.slice A n c) := X0.cell 0
  have X0c1 : w5.cell? ⟨X0a, 1, none⟩ = some (.int .i64 many) := X0.cell 1
  have X0c2 : w5.cell? ⟨X0a, 2, none⟩ = some (.int .i64 sync) := X0.cell 2
  have X0z : X0a < w5.heap.size := X0.lt
  go_wp2_with fail
  clear X0c0 X0c1 X0c2 X0z
  have hst := (Below.refl w5.heap.size w5).alloc (Nat.le_refl _) (.cells #[.slice A1 0 c1, .int .i64 m1, .int .i64 s1] 29)
  replace X0 := X0.later hst
  replace hR := rw_later hR hst
  replace hb0 := bs_later hb0 hst
  replace R1 := rw_later R1 hst
  replace hL := hL.later hst.size
  replace hB := hB.trans (hst.mono hB.size)
  have Y := Box.new w5 [.slice A1 0 c1, .int .i64 m1, .int .i64 s1] 29
  have hzY : Hid ((w5.alloc (.cells #[.slice A1 0 c1, .int .i64 m1, .int .i64 s1] 29)).heap.size = w5.heap.size + 1) := Lib.hid (by simp)
  clear hst
  generalize w5.alloc (.cells #[.slice A1 0 c1, .int .i64 m1, .int .i64 s1] 29) = w6 at hB hL hzY Y X0 hR hb0 R1 ⊢
  generalize hga : w5.heap.size = Ya at hzY Y ⊢
  clear hga
  refine (jRoom_at hR hj hs hrm).mono ?_
  rintro e w7 ⟨rfl, hb⟩
  replace X0 := X0.later hb
  replace Y := Y.later hb
  replace hR := rw_later hR hb
  replace hb0 := bs_later hb0 hb
  replace R1 := rw_later R1 hb
  replace hB := hB.trans (hb.mono hB.size)
  replace hL := hL.later hb.size
  clear hb
  have d1 : decide (rm > 0) = true := by simp; omega
  have d2 : decide ((nb : Int) ≤ rm) = false := by simp; omega
  have Yc0 : w7.cell? ⟨Ya, 0, none⟩ = some (.slice A1 0 c1) := Y.cell 0
  have Yc1 : w7.cell? ⟨Ya, 1, none⟩ = some (.int .i64 m1) := Y.cell 1
  have Yc2 : w7.cell? ⟨Ya, 2, none⟩ = some (.int .i64 s1) := Y.cell 2
  have Yz : Ya < w7.heap.size := Y.lt
  go_wp2
  go_ret
  exact ⟨rfl, hB⟩

set_option maxRecDepth 100000 in
set_option maxHeartbeats 16000000 in
theorem lawR_5 (J : Jn) (A : Option Addr) (n c : Nat) (many sync : Int) (b : Bs) (Ab : Option Addr) (nb cb : Nat) (w : World) (hR : Hid (RwAt w (Out []) (.slice A n c) J.records)) (hj : Hid (JnIs J n many sync)) (hs : Hid (sumB J.records ≤ 4194304)) (hb0 : Hid (BsAt w (Out []) (.slice Ab nb cb) b)) (hnb : Hid (b.length = nb)) (hl : nb ≤ 70000) (hck : Hid (J.checkT = 0)) (rm rm1 : Int) (hrm : Hid (J.roomT = rm)) (hz : 0 < rm) (hz2 : (nb : Int) ≤ rm) (J1 : Jn) (h1 : Hid (appendT J b = (J1, 0))) (hj1 : Hid (JnIs J1 (n + 1) many sync)) (hrec : Hid (J1.records = J.records ++ [b])) (hck1 : Hid (J1.checkT = 0)) (hrm1 : Hid (J1.roomT = rm1)) (hlt : rm1 < rm) (hs1 : Hid (sumB J1.records ≤ 4194304)) : Calls Try.prog 6 #[.agg #[.slice A n c, .int .i64 many, .int .i64 sync], .slice Ab nb cb] w (fun e w' => e = .returned (.bool true) ∧ Below w.heap.size w w') := by
  have hB := Below.refl w.heap.size w
  have hL := InW.nil w
  go_enter Try.func6, Try.ntmps6
  go_wp2_with fail
  have hst := (Below.refl w.heap.size w).alloc (Nat.le_refl _) (.cells #[.slice A n c, .int .i64 many, .int .i64 sync] 29)
  replace hR := rw_later hR hst
  replace hb0 := bs_later hb0 hst
  replace hL := hL.later hst.size
  replace hB := hB.trans (hst.mono hB.size)
  have X0 := Box.new w [.slice A n c, .int .i64 many, .int .i64 sync] 29
  have hzX0 : Hid ((w.alloc (.cells #[.slice A n c, .int .i64 many, .int .i64 sync] 29)).heap.size = w.heap.size + 1) := Lib.hid (by simp)
  clear hst
  generalize w.alloc (.cells #[.slice A n c, .int .i64 many, .int .i64 sync] 29) = w1 at hB hL hzX0 X0 hR hb0 ⊢
  generalize hga : w.heap.size = X0a at hzX0 X0 ⊢
  clear hga
  refine (jSane_any _).mono ?_
  rintro e w2 ⟨rfl, hb⟩
  replace X0 := X0.later hb
  replace hR := rw_later hR hb
  replace hb0 := bs_later hb0 hb
  replace hB := hB.trans (hb.mono hB.size)
  replace hL := hL.later hb.size
  clear hb
  clear hzX0
  have X0c0 : w2.cell? ⟨X0a, 0, none⟩ = some (.slice A n c) := X0.cell 0
  have X0c1 : w2.cell? ⟨X0a, 1, none⟩ = some (.int .i64 many) := X0.cell 1
  have X0c2 : w2.cell? ⟨X0a, 2, none⟩ = some (.int .i64 sync) := X0.cell 2
  have X0z : X0a < w2.heap.size := X0.lt
  go_wp2_with fail
  clear X0c0 X0c1 X0c2 X0z
  refine (jFew_at hR (Lib.hid hj.out.len)).mono ?_
  rintro e w3 ⟨t, rfl, ht, hb⟩
  replace X0 := X0.later hb
  replace hR := rw_later hR hb
  replace hb0 := bs_later hb0 hb
  replace hB := hB.trans (hb.mono hB.size)
  replace hL := hL.later hb.size
  clear hb
  have hdl : decide ((nb : Int) > 70000) = false := by simp; omega
  clear ht
  rcases t with _ | _
  · go_wp2
    go_ret
    exact ⟨rfl, hB⟩
  have X0c0 : w3.cell? ⟨X0a, 0, none⟩ = some (.slice A n c) := X0.cell 0
  have X0c1 : w3.cell? ⟨X0a, 1, none⟩ = some (.int .i64 many) := X0.cell 1
  have X0c2 : w3.cell? ⟨X0a, 2, none⟩ = some (.int .i64 sync) := X0.cell 2
  have X0z : X0a < w3.heap.size := X0.lt
  go_wp2_with fail
  clear X0c0 X0c1 X0c2 X0z
  refine (jCheck_at hR hj hs hck).mono ?_
  rintro e w4 ⟨rfl, hb⟩
  replace X0 := X0.later hb
  replace hR := rw_later hR hb
  replace hb0 := bs_later hb0 hb
  replace hB := hB.trans (hb.mono hB.size)
  replace hL := hL.later hb.size
  clear hb
  have hnb2 : nb ≤ 9223372036854775000 := by omega
  have X0c0 : w4.cell? ⟨X0a, 0, none⟩ = some (.slice A n c) := X0.cell 0
  have X0c1 : w4.cell? ⟨X0a, 1, none⟩ = some (.int .i64 many) := X0.cell 1
  have X0c2 : w4.cell? ⟨X0a, 2, none⟩ = some (.int .i64 sync) := X0.cell 2
  have X0z : X0a < w4.heap.size := X0.lt
  go_wp2_with fail
  clear X0c0 X0c1 X0c2 X0z
  refine (jAppend_at hR hj hs hb0 hnb hnb2).mono ?_
  rintro e w5 hh
  obtain ⟨A1, c1, rfl, R1, hb⟩ := RetJn.is hh hL h1 hj1
  replace X0 := X0.later hb
  replace hR := rw_later hR hb
  replace hb0 := bs_later hb0 hb
  replace hB := hB.trans (hb.mono hB.size)
  replace hL := hL.later hb.size
  clear hb
  obtain ⟨ga, go, V, hA1, _⟩ := R1.out.row (k := n) (by rw [hj1.out.len]; omega)
  subst hA1
  have X0c0 : w5.cell? ⟨X0a, 0, none⟩ = some (.slice A n c) := X0.cell 0
  have X0c1 : w5.cell? ⟨X0a, 1, none⟩ = some (.int .i64 many) := X0.cell 1
  have X0c2 : w5.cell? ⟨X0a, 2, none⟩ = some (.int .i64 sync) := X0.cell 2
  have X0z : X0a < w5.heap.size := X0.lt
  go_wp2_with fail
  clear X0c0 X0c1 X0c2 X0z
  have hst := (Below.refl w5.heap.size w5).alloc (Nat.le_refl _) (.cells #[.slice (some ⟨ga, go, none⟩) (n + 1) c1, .int .i64 many, .int .i64 sync] 29)
  replace X0 := X0.later hst
  replace hR := rw_later hR hst
  replace hb0 := bs_later hb0 hst
  replace R1 := rw_later R1 hst
  replace hL := hL.later hst.size
  replace hB := hB.trans (hst.mono hB.size)
  have Y := Box.new w5 [.slice (some ⟨ga, go, none⟩) (n + 1) c1, .int .i64 many, .int .i64 sync] 29
  have hzY : Hid ((w5.alloc (.cells #[.slice (some ⟨ga, go, none⟩) (n + 1) c1, .int .i64 many, .int .i64 sync] 29)).heap.size = w5.heap.size + 1) := Lib.hid (by simp)
  clear hst
  generalize w5.alloc (.cells #[.slice (some ⟨ga, go, none⟩) (n + 1) c1, .int .i64 many, .int .i64 sync] 29) = w6 at hB hL hzY Y X0 hR hb0 R1 ⊢
  generalize hga : w5.heap.size = Ya at hzY Y ⊢
  clear hga
  refine (jRoom_at hR hj hs hrm).mono ?_
  rintro e w7 ⟨rfl, hb⟩
  replace X0 := X0.later hb
  replace Y := Y.later hb
  replace hR := rw_later hR hb
  replace hb0 := bs_later hb0 hb
  replace R1 := rw_later R1 hb
  replace hB := hB.trans (hb.mono hB.size)
  replace hL := hL.later hb.size
  clear hb
  have d1 : decide (rm > 0) = true := by simp; omega
  have d2 : decide ((nb : Int) ≤ rm) = true := by simp; omega
  have d3 : decide (rm1 < rm) = true := by simp; omega
  have hca : n + 1 ≤ c1 ∧ c1 ≤ 9223372036854775807 := ⟨R1.out.caps.1, R1.out.caps.2.1⟩
  have hca1 : n ≤ c1 := by omega
  have hca2 : (n : Int) ≤ (c1 : Int) := by omega
  have hca3 : c1 ≤ 9223372036854775807 := hca.2
  have hca4 : IntKind.i64.wrap ((n : Int) + 1) = (n : Int) + 1 := IntWalk.i64_in _ (by omega)
  have i0 : (0 : Int) ≤ (n : Int) := by omega
  have i1 : (n : Int) < (n : Int) + 1 := by omega
  clear hca
  have X0c0 : w7.cell? ⟨X0a, 0, none⟩ = some (.slice A n c) := X0.cell 0
  have X0c1 : w7.cell? ⟨X0a, 1, none⟩ = some (.int .i64 many) := X0.cell 1
  have X0c2 : w7.cell? ⟨X0a, 2, none⟩ = some (.int .i64 sync) := X0.cell 2
  have X0z : X0a < w7.heap.size := X0.lt
  go_wp2_with fail
  clear X0c0 X0c1 X0c2 X0z
  obtain ⟨ga', go', V, hA1, _, hgz, hgc, hgb⟩ := R1.out.row (k := n) (by rw [hj1.out.len]; omega)
  cases hA1
  have HR2 := Lib.hid (R1.out.taken hj1.out.len (Nat.le_succ n))
  have hbe : J1.records[n]'(by rw [hj1.out.len]; omega) = b := by
    have e : J1.records[n]? = some b := by rw [hrec.out, List.getElem?_append_right (by rw [hj.out.len]; exact Nat.le_refl n), hj.out.len, Nat.sub_self]; rfl
    rw [List.getElem?_eq_getElem (by rw [hj1.out.len]; omega)] at e
    exact Option.some.inj e
  rw [hbe] at hgb
  have htk : Hid (J1.records.take n = J.records) := Lib.hid (by rw [hrec.out, List.take_left' hj.out.len])
  obtain ⟨Ag, cg, hVg, _⟩ := hgb.form
  subst hVg
  have cv := Later.str0 hgb
  have cu := Later.str0 hb0.out
  generalize strB b = sb at cv cu
  have J9 := Later.cell hgc hgz
  have J8 : (∀ zz : Later w7, zz.w.cell? ⟨ga, go + n * 1, none⟩ = some (.slice Ag b.length cg)) := by rw [Nat.mul_one]; exact J9
  rw [hnb.out] at cv J8 J9
  clear hgb hgc hbe
  go_wp2_with fail
  have X0l0 : ∀ zz : Later w7, zz.w.cell? ⟨X0a, 0, none⟩ = some (.slice A n c) := Later.cell (X0.cell 0) X0.lt
  have X0l1 : ∀ zz : Later w7, zz.w.cell? ⟨X0a, 1, none⟩ = some (.int .i64 many) := Later.cell (X0.cell 1) X0.lt
  have X0l2 : ∀ zz : Later w7, zz.w.cell? ⟨X0a, 2, none⟩ = some (.int .i64 sync) := Later.cell (X0.cell 2) X0.lt
  have Yl0 : ∀ zz : Later w7, zz.w.cell? ⟨Ya, 0, none⟩ = some (.slice (some ⟨ga, go, none⟩) (n + 1) c1) := Later.cell (Y.cell 0) Y.lt
  have Yl1 : ∀ zz : Later w7, zz.w.cell? ⟨Ya, 1, none⟩ = some (.int .i64 many) := Later.cell (Y.cell 1) Y.lt
  have Yl2 : ∀ zz : Later w7, zz.w.cell? ⟨Ya, 2, none⟩ = some (.int .i64 sync) := Later.cell (Y.cell 2) Y.lt
  refine wp_region_later (by kernel_rfl) (by kernel_rfl) ?_
  repeat (go_big_quiet_step ((first | (go_at_call 17; with_reducible exact Later.call _ (jCheck_at (rw_later R1 (Later.below _)) hj1 hs1 hck1)) | (go_at_call 19; with_reducible exact Later.call _ (jRoom_at (rw_later R1 (Later.below _)) hj1 hs1 hrm1)) | (go_at_call 24; with_reducible exact Later.call _ (jRSameRecs_any _ _ _ _ _ _ _ _ (Out []) (Out []) _ (rw_later HR2 (Later.below _)) (rw_later hR (Later.below _)) (Lib.hid (by rw [htk.out, hj.out.len])) (Lib.hid hj.out.len) (by omega) (by omega) true (Lib.hid (decide_eq_true htk.out)))))))
  refine wpQuiet_nil ?_
  intro _ hw'
  obtain ⟨yq, hw''⟩ := hw'
  subst hw''
  clear X0l0 X0l1 X0l2 Yl0 Yl1 Yl2
  obtain ⟨w8, hz, hb⟩ : ∃ z, yq.w = z ∧ Below w7.heap.size w7 z := ⟨_, rfl, yq.below⟩
  rw [hz]
  clear hz
  have X0 := X0.later hb
  have Y := Y.later hb
  have hR := rw_later hR hb
  have hb0 := bs_later hb0 hb
  have R1 := rw_later R1 hb
  have hB := hB.trans (hb.mono hB.size)
  clear hb
  go_wp2
  go_ret
  exact ⟨rfl, hB⟩

theorem law_JournalRoom (J : Jn) (V : Value) (b : Bs) (Vb : Value) (w : World) (hR : RwAt w (fun b => b < w.heap.size) V J.records) (hs : sumB J.records ≤ 4000000) (hb : BsAt w (fun b => b < w.heap.size) Vb b) : Calls Try.prog 6 #[.agg #[V, .int .i64 J.many, .int .i64 J.synced], Vb] w fun e w' => e = .returned (.bool true) ∧ Below w.heap.size w w' := by
  obtain ⟨A, c, rfl, _⟩ := hR.form
  obtain ⟨Ab, cb, rfl, _⟩ := hb.form
  have hs' : Hid (sumB J.records ≤ 4194304) := Lib.hid (by omega)
  have hj : Hid (JnIs J J.records.length J.many J.synced) := Lib.hid ⟨rfl, rfl, rfl⟩
  by_cases hl : b.length ≤ 70000
  rotate_left
  · exact lawR_1 J A _ c _ _ b Ab _ cb w (live_rw hR) hj hs' (live_bs hb) (Lib.hid rfl) (by omega)
  rcases hok : J.okB with _ | _
  · exact lawR_3 J A _ c _ _ b Ab _ cb w (live_rw hR) hj hs' (live_bs hb) (Lib.hid rfl) hl (Jn.bad hok)
  by_cases h0 : 0 < J.roomT
  rotate_left
  · exact lawR_4a J A _ c _ _ b Ab _ cb w (live_rw hR) hj hs' (live_bs hb) (Lib.hid rfl) hl (Jn.good hok) _ (Lib.hid rfl) (by omega) Jn.zero 0 0 (Lib.hid (room_over hok fun h => h0 h.1)) (Lib.hid ⟨rfl, rfl, rfl⟩)
  by_cases h1 : (b.length : Int) ≤ J.roomT
  rotate_left
  · exact lawR_4b J A _ c _ _ b Ab _ cb w (live_rw hR) hj hs' (live_bs hb) (Lib.hid rfl) hl (Jn.good hok) _ (Lib.hid rfl) h0 (by omega) Jn.zero 0 0 (Lib.hid (room_over hok fun h => h1 h.2)) (Lib.hid ⟨rfl, rfl, rfl⟩)
  obtain ⟨e1, e2, e3⟩ := room_fit hok ⟨h0, h1⟩
  exact lawR_5 J A _ c _ _ b Ab _ cb w (live_rw hR) hj hs' (live_bs hb) (Lib.hid rfl) hl (Jn.good hok) _ _ (Lib.hid rfl) h0 h1 _ (Lib.hid e1) (Lib.hid ⟨by simp, rfl, rfl⟩) (Lib.hid rfl) (Jn.good e2) (Lib.hid rfl) e3 (Lib.hid (by
    simp only [sumB_append]
    have : sumB [b] = b.length + 1 := by simp [sumB]
    omega))

end Go.Proofs.Ythlidhfahaalgaa
