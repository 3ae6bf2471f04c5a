/- Check and Room of chapter 5, of both; SameRecords and Same of the reference. (Printed by gen_jd.py.) -/
import Derived.Test.YthlidhfahaalgaaQK
import Derived.Test.YthlidhfahaalgaaQJB
import Derived.Test.YthlidhfahaalgaaQDM
import Derived.Deep.CutBlock
set_option linter.unusedVariables false
set_option linter.unusedSimpArgs false
set_option maxRecDepth 100000
set_option maxHeartbeats 4000000
namespace Go.Proofs.Ythlidhfahaalgaa
open Go.RowKit
def Jn.v (l : Jn) (V : Value) : Value := .agg #[V, .int .i64 l.many, .int .i64 l.synced]
theorem Jn.bad {l : Jn} (h : l.okB = false) : l.checkT = 1 := by rw [Jn.checkT, h]; rfl
theorem Jn.good {l : Jn} (h : l.okB = true) : l.checkT = 0 := by rw [Jn.checkT, h]; rfl
theorem Jn.okB_iff (l : Jn) : l.okB = true ↔ 1 ≤ l.many ∧ l.many ≤ 4096 ∧ 0 ≤ l.synced ∧ l.synced ≤ (l.records.length : Int) ∧ (usedT l.records : Int) ≤ l.many := by
  simp only [Jn.okB, Bool.and_eq_true, decide_eq_true_eq]
theorem jCheck_any (l : Jn) (A : Option Addr) (n c : Nat) (many sync : Int) (S : Nat → Prop) (w : World) (h : Hid (RwAt w S (.slice A n c) l.records)) (hn : Hid (l.records.length = n)) (hm : Hid (l.many = many)) (hy : Hid (l.synced = sync)) (hs : Hid (sumB l.records ≤ 4194304)) :
    Calls Try.prog 17 #[.agg #[.slice A n c, .int .i64 many, .int .i64 sync]] w fun e w' => e = .returned (.int .i64 l.checkT) ∧ Below w.heap.size w w' := by
  have hst := (Below.refl w.heap.size w).alloc (Nat.le_refl _) (.cells #[.slice A n c, .int .i64 many, .int .i64 sync] 29)
  have X := Box.new w [.slice A n c, .int .i64 many, .int .i64 sync] 29
  have hbi := l.okB_iff
  rw [hn.out, hm.out, hy.out] at hbi
  have hn2 : n ≤ 4194304 := by rw [← hn.out]; have := length_le_sumB l.records; have := hs.out; omega
  have hu2 : usedT l.records ≤ 4194304 := by have := usedT_le l.records; have := hs.out; omega
  obtain ⟨T, hT⟩ : ∃ T, l.checkT = T := ⟨_, rfl⟩
  rw [hT]
  rcases hb : l.okB with _ | _
  · obtain rfl : T = 1 := hT.symm.trans (Jn.bad hb)
    rw [hb] at hbi
    have hq : many < 1 ∨ (1 ≤ many ∧ 4096 < many) ∨ (1 ≤ many ∧ many ≤ 4096 ∧ sync < 0) ∨ (1 ≤ many ∧ many ≤ 4096 ∧ 0 ≤ sync ∧ (n : Int) < sync) ∨ (1 ≤ many ∧ many ≤ 4096 ∧ 0 ≤ sync ∧ sync ≤ (n : Int) ∧ many < (usedT l.records : Int)) := by
      have := mt hbi.2 (by simp)
      omega
    clear hbi hb hT
    rcases hq with g | g | g | g | g
    all_goals try obtain ⟨g1, g⟩ := g
    all_goals try obtain ⟨g2, g⟩ := g
    all_goals try obtain ⟨g3, g⟩ := g
    all_goals try obtain ⟨g4, g⟩ := g
    rotate_right 1
    · have C : ∀ j, Calls Try.prog 36 #[.slice A n c] ((w.alloc (.cells #[.slice A n c, .int .i64 many, .int .i64 sync] 29)).drewN j) fun e w' => e = .returned (.int .i64 (usedT l.records : Nat)) ∧ w' = (w.alloc (.cells #[.slice A n c, .int .i64 many, .int .i64 sync] 29)).drewN j := fun j => by
        have := jUsed_any l.records A c S ((w.alloc (.cells #[.slice A n c, .int .i64 many, .int .i64 sync] 29)).drewN j) (Lib.hid (by rw [hn.out]; exact h.out.keep (Keeps.of (below_drewN hst j)))) hs.out
        rwa [hn.out] at this
      generalize usedT l.records = u at *
      go_enter Try.func17, Try.ntmps17
      go_upto_region 1 with fail
      go_quiet (first | (go_at_call 36; exact Calls.quiet_of_same (C _)))
      go_wp2
      go_ret
      exact ⟨rfl, below_drewN hst _⟩
    all_goals
      clear h hn hm hy hs
      go_enter Try.func17, Try.ntmps17
      go_upto_region 1 with fail
      go_quiet (fail)
      go_wp2
      go_ret
      exact ⟨rfl, below_drewN hst _⟩
  · obtain rfl : T = 0 := hT.symm.trans (Jn.good hb)
    obtain ⟨g1, g2, g3, g4, g⟩ := hbi.1 hb
    clear hbi hb hT
    have C : ∀ j, Calls Try.prog 36 #[.slice A n c] ((w.alloc (.cells #[.slice A n c, .int .i64 many, .int .i64 sync] 29)).drewN j) fun e w' => e = .returned (.int .i64 (usedT l.records : Nat)) ∧ w' = (w.alloc (.cells #[.slice A n c, .int .i64 many, .int .i64 sync] 29)).drewN j := fun j => by
      have := jUsed_any l.records A c S ((w.alloc (.cells #[.slice A n c, .int .i64 many, .int .i64 sync] 29)).drewN j) (Lib.hid (by rw [hn.out]; exact h.out.keep (Keeps.of (below_drewN hst j)))) hs.out
      rwa [hn.out] at this
    generalize usedT l.records = u at *
    go_enter Try.func17, Try.ntmps17
    go_upto_region 1 with fail
    go_quiet (first | (go_at_call 36; exact Calls.quiet_of_same (C _)))
    go_wp2
    go_ret
    exact ⟨rfl, below_drewN hst _⟩
theorem jRoom_any (l : Jn) (A : Option Addr) (n c : Nat) (many sync : Int) (S : Nat → Prop) (w : World) (h : Hid (RwAt w S (.slice A n c) l.records)) (hn : Hid (l.records.length = n)) (hm : Hid (l.many = many)) (hy : Hid (l.synced = sync)) (hs : Hid (sumB l.records ≤ 4194304)) :
    Calls Try.prog 19 #[.agg #[.slice A n c, .int .i64 many, .int .i64 sync]] w fun e w' => e = .returned (.int .i64 l.roomT) ∧ Below w.heap.size w w' := by
  have hst := (Below.refl w.heap.size w).alloc (Nat.le_refl _) (.cells #[.slice A n c, .int .i64 many, .int .i64 sync] 29)
  have X := Box.new w [.slice A n c, .int .i64 many, .int .i64 sync] 29
  have h1 : Hid (RwAt (w.alloc (.cells #[.slice A n c, .int .i64 many, .int .i64 sync] 29)) S (.slice A n c) l.records) := Lib.hid (h.out.keep (Keeps.of hst))
  have hu2 : usedT l.records ≤ 4194304 := by have := usedT_le l.records; have := hs.out; omega
  obtain ⟨T, hT⟩ : ∃ T, Hid (l.roomT = T) := ⟨_, rfl⟩
  rw [hT.out]
  obtain ⟨e0, he0⟩ : ∃ e, Hid (l.checkT = e) := ⟨_, rfl⟩
  have HC := jCheck_any l A n c many sync S (w.alloc (.cells #[.slice A n c, .int .i64 many, .int .i64 sync] 29)) h1 hn hm hy hs
  rw [he0.out] at HC
  have x0 : (w.alloc (.cells #[.slice A n c, .int .i64 many, .int .i64 sync] 29)).cell? ⟨w.heap.size, 0, none⟩ = some (.slice A n c) := X.cell 0
  have x1 : (w.alloc (.cells #[.slice A n c, .int .i64 many, .int .i64 sync] 29)).cell? ⟨w.heap.size, 1, none⟩ = some (.int .i64 many) := X.cell 1
  have x2 : (w.alloc (.cells #[.slice A n c, .int .i64 many, .int .i64 sync] 29)).cell? ⟨w.heap.size, 2, none⟩ = some (.int .i64 sync) := X.cell 2
  have hok := l.okB_iff
  rcases hb : l.okB with _ | _
  · obtain rfl : e0 = 1 := he0.out.symm.trans (Jn.bad hb)
    obtain rfl : T = 0 := by rw [← hT.out, Jn.roomT, hb]; rfl
    clear hok hb he0 hT
    go_enter Try.func19, Try.ntmps19
    go_wp2_with fail
    refine HC.mono ?_
    rintro e w1 ⟨rfl, hb⟩
    go_wp2
    go_ret
    exact ⟨rfl, hst.trans (hb.mono hst.size)⟩
  · obtain rfl : e0 = 0 := he0.out.symm.trans (Jn.good hb)
    have hT2 : 112 * (many - (usedT l.records : Int)) = T := by rw [← hT.out, Jn.roomT, hb, hm.out]; rfl
    obtain ⟨g1, g2, g3, g4, g5⟩ := hok.1 hb
    rw [hm.out] at g1 g2 g5
    clear hok hb he0 hT g3 g4
    go_enter Try.func19, Try.ntmps19
    go_wp2_with fail
    refine HC.mono ?_
    rintro e w1 ⟨rfl, hb⟩
    have X := X.later hb
    have h1 : Hid (RwAt w1 S (.slice A n c) l.records) := Lib.hid (h1.out.keep (Keeps.of hb))
    have hst := hst.trans (hb.mono hst.size)
    have C : ∀ j, Calls Try.prog 36 #[.slice A n c] (w1.drewN j) fun e w' => e = .returned (.int .i64 (usedT l.records : Nat)) ∧ w' = w1.drewN j := fun j => by
      have := jUsed_any l.records A c S (w1.drewN j) (Lib.hid (by rw [hn.out]; exact h1.out.keep (Keeps.of (below_drewN (Below.refl _ _) j)))) hs.out
      rwa [hn.out] at this
    clear hb x0 x1 x2
    obtain ⟨x0, x1⟩ := X.c2
    have xz := X.lt
    generalize usedT l.records = u at *
    go_upto_region 3 with fail
    go_quiet (first | (go_at_call 36; exact Calls.quiet_of_same (C _)))
    go_wp2
    go_ret
    exact ⟨by first | rfl | simp [hT2] | trace_state, below_drewN hst _⟩
end Go.Proofs.Ythlidhfahaalgaa
