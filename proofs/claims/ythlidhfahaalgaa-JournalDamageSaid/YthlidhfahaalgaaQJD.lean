/- Check and Room of chapter 5, of both; SameRecords and Same of the reference. (Printed by gen_jd.py.) -/
import Derived.Test.YthlidhfahaalgaaQJB
import Derived.Test.YthlidhfahaalgaaQDV
import Derived.Deep.CutBlock
set_option linter.unusedVariables false
set_option linter.unusedSimpArgs false
namespace Go.Proofs.Ythlidhfahaalgaa
open Go.RowKit

def Jn.v (l : Jn) (V : Value) : Value := .agg #[V, .int .i64 l.many, .int .i64 l.synced]
theorem Jn.bad {l : Jn} (h : l.okB = false) : l.checkT = 1 := by rw [Jn.checkT, h]; rfl
theorem Jn.good {l : Jn} (h : l.okB = true) : l.checkT = 0 := by rw [Jn.checkT, h]; rfl
theorem Jn.okB_iff (l : Jn) : l.okB = true ↔ 1 ≤ l.many ∧ l.many ≤ 4096 ∧ 0 ≤ l.synced ∧ l.synced ≤ (l.records.length : Int) ∧ (usedT l.records : Int) ≤ l.many := by
  simp only [Jn.okB, Bool.and_eq_true, decide_eq_true_eq]
set_option maxRecDepth 100000 in
set_option maxHeartbeats 4000000 in
theorem jCheck_any (l : Jn) (A : Option Addr) (n c : Nat) (many sync : Int) (S : Nat → Prop) (w : World) (h : Hid (RwAt w S (.slice A n c) l.records)) (hn : Hid (l.records.length = n)) (hm : Hid (l.many = many)) (hy : Hid (l.synced = sync)) (hs : Hid (sumB l.records ≤ 4194304)) :
    Calls Try.prog 17 #[.agg #[.slice A n c, .int .i64 many, .int .i64 sync]] w fun e w' => e = .returned (.int .i64 l.checkT) ∧ Below w.heap.size w w' := by
  have hst := (Below.refl w.heap.size w).alloc (Nat.le_refl _) (.cells #[.slice A n c, .int .i64 many, .int .i64 sync] 29)
  have X := Box.new w [.slice A n c, .int .i64 many, .int .i64 sync] 29
  have hbi := l.okB_iff
  rw [hn.out, hm.out, hy.out] at hbi
  have hn2 : n ≤ 4194304 := by rw [← hn.out]; have := length_le_sumB l.records; have := hs.out; omega
  have hu2 : usedT l.records ≤ 4194304 := by have := usedT_le l.records; have := hs.out; omega
  obtain ⟨T, hT⟩ : ∃ T, l.checkT = T := ⟨_, rfl⟩
  rw [hT]
  rcases hb : l.okB with _ | _
  · obtain rfl : T = 1 := hT.symm.trans (Jn.bad hb)
    rw [hb] at hbi
    have hq : many < 1 ∨ (1 ≤ many ∧ 4096 < many) ∨ (1 ≤ many ∧ many ≤ 4096 ∧ sync < 0) ∨ (1 ≤ many ∧ many ≤ 4096 ∧ 0 ≤ sync ∧ (n : Int) < sync) ∨ (1 ≤ many ∧ many ≤ 4096 ∧ 0 ≤ sync ∧ sync ≤ (n : Int) ∧ many < (usedT l.records : Int)) := by
      have := mt hbi.2 (by simp)
      omega
    clear hbi hb hT
    rcases hq with g | g | g | g | g
    all_goals try obtain ⟨g1, g⟩ := g
    all_goals try obtain ⟨g2, g⟩ := g
    all_goals try obtain ⟨g3, g⟩ := g
    all_goals try obtain ⟨g4, g⟩ := g
    rotate_right 1
    · have C : ∀ j, Calls Try.prog 36 #[.slice A n c] ((w.alloc (.cells #[.slice A n c, .int .i64 many, .int .i64 sync] 29)).drewN j) fun e w' => e = .returned (.int .i64 (usedT l.records : Nat)) ∧ w' = (w.alloc (.cells #[.slice A n c, .int .i64 many, .int .i64 sync] 29)).drewN j := fun j => by
        have := jUsed_any l.records A c S ((w.alloc (.cells #[.slice A n c, .int .i64 many, .int .i64 sync] 29)).drewN j) (Lib.hid (by rw [hn.out]; exact h.out.keep (Keeps.of (below_drewN hst j)))) hs.out
        rwa [hn.out] at this
      generalize usedT l.records = u at *
      go_enter Try.func17, Try.ntmps17
      go_upto_region 1 with fail
      go_quiet (first | (go_at_call 36; exact Calls.quiet_of_same (C _)))
      go_wp2
      go_ret
      exact ⟨rfl, below_drewN hst _⟩
    all_goals
      clear h hn hm hy hs
      go_enter Try.func17, Try.ntmps17
      go_upto_region 1 with fail
      go_quiet (fail)
      go_wp2
      go_ret
      exact ⟨rfl, below_drewN hst _⟩
  · obtain rfl : T = 0 := hT.symm.trans (Jn.good hb)
    obtain ⟨g1, g2, g3, g4, g⟩ := hbi.1 hb
    clear hbi hb hT
    have C : ∀ j, Calls Try.prog 36 #[.slice A n c] ((w.alloc (.cells #[.slice A n c, .int .i64 many, .int .i64 sync] 29)).drewN j) fun e w' => e = .returned (.int .i64 (usedT l.records : Nat)) ∧ w' = (w.alloc (.cells #[.slice A n c, .int .i64 many, .int .i64 sync] 29)).drewN j := fun j => by
      have := jUsed_any l.records A c S ((w.alloc (.cells #[.slice A n c, .int .i64 many, .int .i64 sync] 29)).drewN j) (Lib.hid (by rw [hn.out]; exact h.out.keep (Keeps.of (below_drewN hst j)))) hs.out
      rwa [hn.out] at this
    generalize usedT l.records = u at *
    go_enter Try.func17, Try.ntmps17
    go_upto_region 1 with fail
    go_quiet (first | (go_at_call 36; exact Calls.quiet_of_same (C _)))
    go_wp2
    go_ret
    exact ⟨rfl, below_drewN hst _⟩
set_option maxRecDepth 100000 in
set_option maxHeartbeats 4000000 in
theorem jRCheck_any (l : Jn) (A : Option Addr) (n c : Nat) (many sync : Int) (S : Nat → Prop) (w : World) (h : Hid (RwAt w S (.slice A n c) l.records)) (hn : Hid (l.records.length = n)) (hm : Hid (l.many = many)) (hy : Hid (l.synced = sync)) (hs : Hid (sumB l.records ≤ 4194304)) :
    Calls Try.prog 18 #[.agg #[.slice A n c, .int .i64 many, .int .i64 sync]] w fun e w' => e = .returned (.int .i64 l.checkT) ∧ Below w.heap.size w w' := by
  have hst := (Below.refl w.heap.size w).alloc (Nat.le_refl _) (.cells #[.slice A n c, .int .i64 many, .int .i64 sync] 29)
  have X := Box.new w [.slice A n c, .int .i64 many, .int .i64 sync] 29
  have hbi := l.okB_iff
  rw [hn.out, hm.out, hy.out] at hbi
  have hn2 : n ≤ 4194304 := by rw [← hn.out]; have := length_le_sumB l.records; have := hs.out; omega
  have hu2 : usedT l.records ≤ 4194304 := by have := usedT_le l.records; have := hs.out; omega
  obtain ⟨T, hT⟩ : ∃ T, l.checkT = T := ⟨_, rfl⟩
  rw [hT]
  rcases hb : l.okB with _ | _
  · obtain rfl : T = 1 := hT.symm.trans (Jn.bad hb)
    rw [hb] at hbi
    have hq : many < 1 ∨ (1 ≤ many ∧ 4096 < many) ∨ (1 ≤ many ∧ many ≤ 4096 ∧ sync < 0) ∨ (1 ≤ many ∧ many ≤ 4096 ∧ 0 ≤ sync ∧ (n : Int) < sync) ∨ (1 ≤ many ∧ many ≤ 4096 ∧ 0 ≤ sync ∧ sync ≤ (n : Int) ∧ many < (usedT l.records : Int)) := by
      have := mt hbi.2 (by simp)
      omega
    clear hbi hb hT
    rcases hq with g | g | g | g | g
    all_goals try obtain ⟨g1, g⟩ := g
    all_goals try obtain ⟨g2, g⟩ := g
    all_goals try obtain ⟨g3, g⟩ := g
    all_goals try obtain ⟨g4, g⟩ := g
    rotate_right 1
    · have C : ∀ j, Calls Try.prog 40 #[.slice A n c] ((w.alloc (.cells #[.slice A n c, .int .i64 many, .int .i64 sync] 29)).drewN j) fun e w' => e = .returned (.int .i64 (usedT l.records : Nat)) ∧ w' = (w.alloc (.cells #[.slice A n c, .int .i64 many, .int .i64 sync] 29)).drewN j := fun j => by
        have := jRUsed_any l.records A c S ((w.alloc (.cells #[.slice A n c, .int .i64 many, .int .i64 sync] 29)).drewN j) (Lib.hid (by rw [hn.out]; exact h.out.keep (Keeps.of (below_drewN hst j)))) hs.out
        rwa [hn.out] at this
      generalize usedT l.records = u at *
      go_enter Try.func18, Try.ntmps18
      go_upto_region 1 with fail
      go_quiet (first | (go_at_call 40; exact Calls.quiet_of_same (C _)))
      go_wp2
      go_ret
      exact ⟨rfl, below_drewN hst _⟩
    all_goals
      clear h hn hm hy hs
      go_enter Try.func18, Try.ntmps18
      go_upto_region 1 with fail
      go_quiet (fail)
      go_wp2
      go_ret
      exact ⟨rfl, below_drewN hst _⟩
  · obtain rfl : T = 0 := hT.symm.trans (Jn.good hb)
    obtain ⟨g1, g2, g3, g4, g⟩ := hbi.1 hb
    clear hbi hb hT
    have C : ∀ j, Calls Try.prog 40 #[.slice A n c] ((w.alloc (.cells #[.slice A n c, .int .i64 many, .int .i64 sync] 29)).drewN j) fun e w' => e = .returned (.int .i64 (usedT l.records : Nat)) ∧ w' = (w.alloc (.cells #[.slice A n c, .int .i64 many, .int .i64 sync] 29)).drewN j := fun j => by
      have := jRUsed_any l.records A c S ((w.alloc (.cells #[.slice A n c, .int .i64 many, .int .i64 sync] 29)).drewN j) (Lib.hid (by rw [hn.out]; exact h.out.keep (Keeps.of (below_drewN hst j)))) hs.out
      rwa [hn.out] at this
    generalize usedT l.records = u at *
    go_enter Try.func18, Try.ntmps18
    go_upto_region 1 with fail
    go_quiet (first | (go_at_call 40; exact Calls.quiet_of_same (C _)))
    go_wp2
    go_ret
    exact ⟨rfl, below_drewN hst _⟩
set_option maxRecDepth 100000 in
set_option maxHeartbeats 4000000 in
theorem jRoom_any (l : Jn) (A : Option Addr) (n c : Nat) (many sync : Int) (S : Nat → Prop) (w : World) (h : Hid (RwAt w S (.slice A n c) l.records)) (hn : Hid (l.records.length = n)) (hm : Hid (l.many = many)) (hy : Hid (l.synced = sync)) (hs : Hid (sumB l.records ≤ 4194304)) :
    Calls Try.prog 19 #[.agg #[.slice A n c, .int .i64 many, .int .i64 sync]] w fun e w' => e = .returned (.int .i64 l.roomT) ∧ Below w.heap.size w w' := by
  have hst := (Below.refl w.heap.size w).alloc (Nat.le_refl _) (.cells #[.slice A n c, .int .i64 many, .int .i64 sync] 29)
  have X := Box.new w [.slice A n c, .int .i64 many, .int .i64 sync] 29
  have h1 : Hid (RwAt (w.alloc (.cells #[.slice A n c, .int .i64 many, .int .i64 sync] 29)) S (.slice A n c) l.records) := Lib.hid (h.out.keep (Keeps.of hst))
  have hu2 : usedT l.records ≤ 4194304 := by have := usedT_le l.records; have := hs.out; omega
  obtain ⟨T, hT⟩ : ∃ T, Hid (l.roomT = T) := ⟨_, rfl⟩
  rw [hT.out]
  obtain ⟨e0, he0⟩ : ∃ e, Hid (l.checkT = e) := ⟨_, rfl⟩
  have HC := jCheck_any l A n c many sync S (w.alloc (.cells #[.slice A n c, .int .i64 many, .int .i64 sync] 29)) h1 hn hm hy hs
  rw [he0.out] at HC
  have x0 : (w.alloc (.cells #[.slice A n c, .int .i64 many, .int .i64 sync] 29)).cell? ⟨w.heap.size, 0, none⟩ = some (.slice A n c) := X.cell 0
  have x1 : (w.alloc (.cells #[.slice A n c, .int .i64 many, .int .i64 sync] 29)).cell? ⟨w.heap.size, 1, none⟩ = some (.int .i64 many) := X.cell 1
  have x2 : (w.alloc (.cells #[.slice A n c, .int .i64 many, .int .i64 sync] 29)).cell? ⟨w.heap.size, 2, none⟩ = some (.int .i64 sync) := X.cell 2
  have hok := l.okB_iff
  rcases hb : l.okB with _ | _
  · obtain rfl : e0 = 1 := he0.out.symm.trans (Jn.bad hb)
    obtain rfl : T = 0 := by rw [← hT.out, Jn.roomT, hb]; rfl
    clear hok hb he0 hT
    go_enter Try.func19, Try.ntmps19
    go_wp2_with fail
    refine HC.mono ?_
    rintro e w1 ⟨rfl, hb⟩
    go_wp2
    go_ret
    exact ⟨rfl, hst.trans (hb.mono hst.size)⟩
  · obtain rfl : e0 = 0 := he0.out.symm.trans (Jn.good hb)
    have hT2 : 112 * (many - (usedT l.records : Int)) = T := by rw [← hT.out, Jn.roomT, hb, hm.out]; rfl
    obtain ⟨g1, g2, g3, g4, g5⟩ := hok.1 hb
    rw [hm.out] at g1 g2 g5
    clear hok hb he0 hT g3 g4
    go_enter Try.func19, Try.ntmps19
    go_wp2_with fail
    refine HC.mono ?_
    rintro e w1 ⟨rfl, hb⟩
    have X := X.later hb
    have h1 : Hid (RwAt w1 S (.slice A n c) l.records) := Lib.hid (h1.out.keep (Keeps.of hb))
    have hst := hst.trans (hb.mono hst.size)
    have C : ∀ j, Calls Try.prog 36 #[.slice A n c] (w1.drewN j) fun e w' => e = .returned (.int .i64 (usedT l.records : Nat)) ∧ w' = w1.drewN j := fun j => by
      have := jUsed_any l.records A c S (w1.drewN j) (Lib.hid (by rw [hn.out]; exact h1.out.keep (Keeps.of (below_drewN (Below.refl _ _) j)))) hs.out
      rwa [hn.out] at this
    clear hb x0 x1 x2
    have x0 : w1.cell? ⟨w.heap.size, 0, none⟩ = some (.slice A n c) := X.cell 0
    have x1 : w1.cell? ⟨w.heap.size, 1, none⟩ = some (.int .i64 many) := X.cell 1
    have xz := X.lt
    generalize usedT l.records = u at *
    go_upto_region 3 with fail
    go_quiet (first | (go_at_call 36; exact Calls.quiet_of_same (C _)))
    go_wp2
    go_ret
    exact ⟨by first | rfl | simp [hT2] | trace_state, below_drewN hst _⟩
set_option maxRecDepth 100000 in
set_option maxHeartbeats 4000000 in
theorem jRRoom_any (l : Jn) (A : Option Addr) (n c : Nat) (many sync : Int) (S : Nat → Prop) (w : World) (h : Hid (RwAt w S (.slice A n c) l.records)) (hn : Hid (l.records.length = n)) (hm : Hid (l.many = many)) (hy : Hid (l.synced = sync)) (hs : Hid (sumB l.records ≤ 4194304)) :
    Calls Try.prog 20 #[.agg #[.slice A n c, .int .i64 many, .int .i64 sync]] w fun e w' => e = .returned (.int .i64 l.roomT) ∧ Below w.heap.size w w' := by
  have hst := (Below.refl w.heap.size w).alloc (Nat.le_refl _) (.cells #[.slice A n c, .int .i64 many, .int .i64 sync] 29)
  have X := Box.new w [.slice A n c, .int .i64 many, .int .i64 sync] 29
  have h1 : Hid (RwAt (w.alloc (.cells #[.slice A n c, .int .i64 many, .int .i64 sync] 29)) S (.slice A n c) l.records) := Lib.hid (h.out.keep (Keeps.of hst))
  have hu2 : usedT l.records ≤ 4194304 := by have := usedT_le l.records; have := hs.out; omega
  obtain ⟨T, hT⟩ : ∃ T, Hid (l.roomT = T) := ⟨_, rfl⟩
  rw [hT.out]
  obtain ⟨e0, he0⟩ : ∃ e, Hid (l.checkT = e) := ⟨_, rfl⟩
  have HC := jRCheck_any l A n c many sync S (w.alloc (.cells #[.slice A n c, .int .i64 many, .int .i64 sync] 29)) h1 hn hm hy hs
  rw [he0.out] at HC
  have x0 : (w.alloc (.cells #[.slice A n c, .int .i64 many, .int .i64 sync] 29)).cell? ⟨w.heap.size, 0, none⟩ = some (.slice A n c) := X.cell 0
  have x1 : (w.alloc (.cells #[.slice A n c, .int .i64 many, .int .i64 sync] 29)).cell? ⟨w.heap.size, 1, none⟩ = some (.int .i64 many) := X.cell 1
  have x2 : (w.alloc (.cells #[.slice A n c, .int .i64 many, .int .i64 sync] 29)).cell? ⟨w.heap.size, 2, none⟩ = some (.int .i64 sync) := X.cell 2
  have hok := l.okB_iff
  rcases hb : l.okB with _ | _
  · obtain rfl : e0 = 1 := he0.out.symm.trans (Jn.bad hb)
    obtain rfl : T = 0 := by rw [← hT.out, Jn.roomT, hb]; rfl
    clear hok hb he0 hT
    go_enter Try.func20, Try.ntmps20
    go_wp2_with fail
    refine HC.mono ?_
    rintro e w1 ⟨rfl, hb⟩
    go_wp2
    go_ret
    exact ⟨rfl, hst.trans (hb.mono hst.size)⟩
  · obtain rfl : e0 = 0 := he0.out.symm.trans (Jn.good hb)
    have hT2 : 112 * (many - (usedT l.records : Int)) = T := by rw [← hT.out, Jn.roomT, hb, hm.out]; rfl
    obtain ⟨g1, g2, g3, g4, g5⟩ := hok.1 hb
    rw [hm.out] at g1 g2 g5
    clear hok hb he0 hT g3 g4
    go_enter Try.func20, Try.ntmps20
    go_wp2_with fail
    refine HC.mono ?_
    rintro e w1 ⟨rfl, hb⟩
    have X := X.later hb
    have h1 : Hid (RwAt w1 S (.slice A n c) l.records) := Lib.hid (h1.out.keep (Keeps.of hb))
    have hst := hst.trans (hb.mono hst.size)
    have C : ∀ j, Calls Try.prog 40 #[.slice A n c] (w1.drewN j) fun e w' => e = .returned (.int .i64 (usedT l.records : Nat)) ∧ w' = w1.drewN j := fun j => by
      have := jRUsed_any l.records A c S (w1.drewN j) (Lib.hid (by rw [hn.out]; exact h1.out.keep (Keeps.of (below_drewN (Below.refl _ _) j)))) hs.out
      rwa [hn.out] at this
    clear hb x0 x1 x2
    have x0 : w1.cell? ⟨w.heap.size, 0, none⟩ = some (.slice A n c) := X.cell 0
    have x1 : w1.cell? ⟨w.heap.size, 1, none⟩ = some (.int .i64 many) := X.cell 1
    have xz := X.lt
    generalize usedT l.records = u at *
    go_upto_region 3 with fail
    go_quiet (first | (go_at_call 40; exact Calls.quiet_of_same (C _)))
    go_wp2
    go_ret
    exact ⟨by first | rfl | simp [hT2] | trace_state, below_drewN hst _⟩

end Go.Proofs.Ythlidhfahaalgaa

/-
  The walks of put and encode. No condition but the lengths.
-/
namespace Go.Proofs.Ythlidhfahaalgaa
open Go.RowKit
attribute [local go_sem ↓ high] app_named cop_named

theorem numeral_cons (g i : Nat) : numeral g (i + 1) = UInt8.ofNat (g / 256 ^ i) :: numeral g i := by
  induction i generalizing g with
  | zero => simp [numeral]
  | succ i ih =>
    rw [numeral, ih, numeral, List.cons_append, Nat.div_div_eq_div_mul, Nat.mul_comm, ← Nat.pow_succ]
/-- A row of bytes some of whose last places have been written. -/
def putL (l : Bs) (m e g i : Nat) : Bs := l.take (m - i) ++ (numeral g i ++ l.drop e)
theorem putL_set {l : Bs} {m e g i : Nat} (hi : i < m) (hm : m ≤ l.length) : (putL l m e g i).set (m - (i + 1)) (UInt8.ofNat (g / 256 ^ i)) = putL l m e g (i + 1) := by
  unfold putL
  obtain ⟨k, hk⟩ : ∃ k, m - i = k + 1 := ⟨m - i - 1, by omega⟩
  rw [hk, show m - (i + 1) = k by omega, numeral_cons, List.set_append_left _ _ (by rw [List.length_take]; omega), List.take_succ_eq_append_getElem (by omega), List.set_append_right _ _ (by rw [List.length_take]; omega)]
  rw [List.length_take, show k - min k l.length = 0 by omega, List.set_cons_zero, List.append_assoc, List.cons_append]
  rfl
theorem putL_length {l : Bs} {m e g i : Nat} (hi : i ≤ m) (he : m ≤ e) (hl : e ≤ l.length) : (putL l m e g i).length = m + (l.length - e) := by
  simp [putL, numeral_length]; omega
theorem byV_setJ (l : Bs) (k : Nat) (x : UInt8) : byV (l.set k x) = (byV l).set k (.int .u8 (x.toNat : Int)) := by
  simp [byV, List.map_set]

theorem digit_eq (g k : Nat) : ((g : Int) / 2 ^ (8 * k) % 256) = ((UInt8.ofNat (g / 256 ^ k)).toNat : Int) := by
  rw [UInt8.toNat_ofNat', show (256 : Nat) ^ k = 2 ^ (8 * k) by rw [Nat.pow_mul]]
  have e : ((2 ^ (8 * k) : Nat) : Int) = (2 : Int) ^ (8 * k) := by simp
  rw [← e]
  omega
set_option maxRecDepth 100000 in
set_option maxHeartbeats 4000000 in
theorem jPut_any (l : Bs) (a off n c g : Nat) (w : World) (h : Box w a (byV l)) (hin : off + n ≤ l.length) (hn : n ≤ 4) :
    Calls Try.prog 64 #[.slice (some ⟨a, off, none⟩) n c, .int .u64 g] w fun e w' => e = .returned (.tuple #[]) ∧ Box w' a (byV (putL l (off + n) (off + n) g n)) ∧ Below a w w' := by
  go_enter Try.func64, Try.ntmps64
  go_wp2_with fail
  go_loopw [7] (fun i wr => ∃ k : Nat, k ≤ n ∧ i = .int .i64 k ∧ Box wr a (byV (putL l (off + n) (off + n) g k)) ∧ Below a w wr) (fun i _ => n - (intOf i).toNat)
  case atStart => exact ⟨0, by omega, rfl, by simpa [putL, numeral] using h, Below.refl _ _⟩
  case round =>
    clear h
    obtain ⟨k, hk, rfl, h, hK⟩ := hrel
    rcases Nat.lt_or_ge k n with hlt | hge
    rotate_left
    · obtain rfl : k = n := by omega
      go_wp2
      refine bodyPost_end (results_none rfl _ _ _) rfl ?_
      exact ⟨rfl, h, hK⟩
    have hk7 : (k : Int) < (n : Int) := by omega
    have hpl : (putL l (off + n) (off + n) g k).length = l.length := by rw [putL_length (by omega) (by omega) hin]; omega
    have hset := putL_set (l := l) (m := off + n) (e := off + n) (g := g) (i := k) (by omega) hin
    rw [show off + n - (k + 1) = off + (n - 1 - k) by omega] at hset
    have hc := h.cell (off + (n - 1 - k))
    rw [byV, List.getElem?_map, List.getElem?_eq_getElem (by omega)] at hc
    have hf := h.free (off + (n - 1 - k))
    simp only [Option.map_some] at hc
    have hh := (h.set (off + (n - 1 - k)) (.int .u8 ((UInt8.ofNat (g / 256 ^ k)).toNat : Int)))
    rw [← byV_setJ, hset] at hh
    have HH := Lib.hid hh
    clear hset hh
    generalize (putL l (off + n) (off + n) g k)[off + (n - 1 - k)]'(by omega) = y at hc
    go_wp2_with fail
    rw [digit_eq]
    exact ⟨⟨k + 1, by omega, by go_num, HH.out, hK.setCell (p := ⟨a, off + (n - 1 - k), none⟩) (Nat.le_refl _) _⟩, by simp [intOf] <;> omega⟩

/-- Bytes copied into the middle of a row. -/
theorem copy_box {w : World} {a off d dc m mc : Nat} {A : Option Addr} {S : Nat → Prop} {l b : Bs} (ty : TypeId) (h : Box w a (byV l)) (hb : BsAt w S (.slice A m mc) b) (hm : b.length = m) (hd : m ≤ d) (hin : off + d ≤ l.length) :
    ∃ w', (copF #[35, 35] ty #[.slice (some ⟨a, off, none⟩) d dc, .slice A m mc]).run Try.prog w = .ok (goInt m) w' ∧ Box w' a (byV (l.take off ++ (b ++ l.drop (off + m)))) ∧ Below a w w' := by
  have hs : (Try.prog.info? 5).map (·.size) = some 1 := by kernel_rfl
  have hmin : Nat.min m d = m := Nat.min_eq_left hd
  unfold copF
  rcases Nat.eq_zero_or_pos m with h0 | h0
  · subst h0
    obtain rfl : b = [] := List.eq_nil_of_length_eq_zero hm
    refine ⟨w, run_copy_none w _ _ ty 5 _ _ _ _ _ _ Try.underlying35 hs hmin, ?_, Below.refl _ _⟩
    simpa using h
  · obtain ⟨ab, ao, rfl, _⟩ := hb.cell (k := 0) (by omega)
    obtain ⟨t, ht⟩ := h
    have hr := run_copy_row (P := Try.prog) w 35 35 ty 5 a off d dc ⟨ab, ao, none⟩ m mc (byV l).toArray t (byV b) Try.underlying35 hs ht (by rw [byV_length, hm, hmin]) (fun j v hv => by
      have hj : j < b.length := by have := (List.getElem?_eq_some_iff.1 hv).1; rwa [byV_length] at this
      obtain ⟨b', o', e, _, _, hc⟩ := hb.cell (k := j) (by omega)
      cases e
      rw [add_at, hc]
      rw [byV, List.getElem?_map, List.getElem?_eq_getElem hj] at hv
      rw [List.getD_eq_getElem?_getD, List.getElem?_eq_getElem hj]
      exact hv) (by simp [byV_length]; omega) (fun v hv => by
      obtain ⟨x, _, rfl⟩ := List.mem_map.1 hv
      rfl)
    rw [byV_length, hm] at hr
    refine ⟨_, hr, ⟨t, ?_⟩, ⟨rfl, rfl, rfl, by simp [World.setRow], fun b hb => setRow_other w a b _ (by omega)⟩⟩
    rw [World.setRow, Array.getElem?_modify, if_pos rfl, ht]
    simp [byV]

end Go.Proofs.Ythlidhfahaalgaa

/-
  How encode fills a sector, as plain lists. No condition but the lengths.
-/
namespace Go.Proofs.Ythlidhfahaalgaa
open Go.RowKit

/-- How a sector is filled. -/
def fill1 (g : Nat) : Bs := numeral g 4 ++ List.replicate 124 0
def fill2 (g k : Nat) : Bs := numeral g 4 ++ (List.replicate 4 0 ++ (numeral k 2 ++ List.replicate 118 0))
def fill3 (g k : Nat) (c n : UInt8) : Bs := numeral g 4 ++ (List.replicate 4 0 ++ (numeral k 2 ++ (c :: n :: List.replicate 116 0)))
def fill4 (g k : Nat) (c n : UInt8) (b : Bs) : Bs := numeral g 4 ++ (List.replicate 4 0 ++ (numeral k 2 ++ (c :: n :: (b ++ List.replicate (116 - b.length) 0))))
def fill5 (g k : Nat) (c : UInt8) (b : Bs) : Bs := numeral g 4 ++ (List.replicate 4 0 ++ (bodyT k c b ++ numeral g 4))
theorem take_app {p q : Bs} {n : Nat} (h : p.length = n) : (p ++ q).take n = p := by rw [← h]; exact List.take_left
theorem drop_app {p q : Bs} {n : Nat} (h : p.length = n) : (p ++ q).drop n = q := by rw [← h]; exact List.drop_left
theorem putL_mid {p q r : Bs} {g n e : Nat} (hp : p.length + n = e) (hq : q.length = n) : putL (p ++ (q ++ r)) e e g n = p ++ (numeral g n ++ r) := by
  unfold putL
  rw [take_app (by omega), ← List.append_assoc p q r, drop_app (by rw [List.length_append]; omega)]
theorem fill1_is (g : Nat) : putL (List.replicate 128 0) 4 4 g 4 = fill1 g := by
  have := putL_mid (p := []) (q := List.replicate 4 0) (r := List.replicate 124 0) (g := g) (n := 4) (e := 4) rfl (by simp)
  rwa [List.nil_append, List.replicate_append_replicate] at this
theorem fill2_is (g k : Nat) : putL (fill1 g) 10 10 k 2 = fill2 g k := by
  have := putL_mid (p := numeral g 4 ++ List.replicate 4 0) (q := List.replicate 2 0) (r := List.replicate 118 0) (g := k) (n := 2) (e := 10) (by simp [numeral_length]) (by simp)
  rw [List.replicate_append_replicate, List.append_assoc, List.append_assoc, List.replicate_append_replicate] at this
  exact this
theorem fill3_is (g k : Nat) (c n : UInt8) : ((fill2 g k).set 10 c).set 11 n = fill3 g k c n := by
  have e : ∀ (p r : Bs) (x y c n : UInt8), p.length = 10 → ((p ++ (x :: y :: r)).set 10 c).set 11 n = p ++ (c :: n :: r) := by
    intro p r x y c n hp
    rw [List.set_append_right _ _ (by omega), List.set_append_right _ _ (by omega), hp]
    rfl
  have := e (numeral g 4 ++ (List.replicate 4 0 ++ numeral k 2)) (List.replicate 116 0) 0 0 c n (by simp [numeral_length])
  rw [List.append_assoc, List.append_assoc, List.append_assoc, List.append_assoc] at this
  exact this
theorem fill4_is (g k : Nat) (c n : UInt8) (b : Bs) (hb : b.length ≤ 112) : (fill3 g k c n).take 12 ++ (b ++ (fill3 g k c n).drop (12 + b.length)) = fill4 g k c n b := by
  have e : fill3 g k c n = (numeral g 4 ++ (List.replicate 4 0 ++ (numeral k 2 ++ [c, n]))) ++ List.replicate 116 0 := by simp [fill3]
  rw [e, take_app (by simp [numeral_length]), show 12 + b.length = (numeral g 4 ++ (List.replicate 4 0 ++ (numeral k 2 ++ [c, n]))).length + b.length by simp [numeral_length], List.drop_append, List.drop_replicate]
  simp [fill4, numeral_length]
theorem fill5_is (g k : Nat) (c : UInt8) (b : Bs) (hb : b.length ≤ 112) : putL (fill4 g k c (UInt8.ofNat b.length) b) 128 128 g 4 = fill5 g k c b := by
  have := putL_mid (p := numeral g 4 ++ (List.replicate 4 0 ++ bodyT k c b)) (q := List.replicate 4 0) (r := []) (g := g) (n := 4) (e := 128) (by simp [numeral_length, bodyT_length k c hb]) (by simp)
  have e : fill4 g k c (UInt8.ofNat b.length) b = (numeral g 4 ++ (List.replicate 4 0 ++ bodyT k c b)) ++ (List.replicate 4 0 ++ []) := by
    simp only [fill4, bodyT, padZ, List.append_assoc, List.cons_append, List.append_nil, List.replicate_append_replicate]
    rw [show 112 - b.length + 4 = 116 - b.length by omega]
  rw [e, this]
  simp [fill5]
theorem fill5_sum (g k : Nat) (c : UInt8) (b : Bs) (hb : b.length ≤ 112) : ((fill5 g k c b).drop 8).take 116 = bodyT k c b := by
  rw [fill5, ← List.append_assoc, drop_app (by simp [numeral_length]), take_app (bodyT_length k c hb)]
theorem fill6_is (g k : Nat) (c : UInt8) (b : Bs) : putL (fill5 g k c b) 8 8 (sumT (bodyT k c b)) 4 = encT g k c b :=
  putL_mid (by simp [numeral_length]) (by simp)
theorem fill_lens (g k : Nat) (c n : UInt8) (b : Bs) (hb : b.length ≤ 112) : (fill1 g).length = 128 ∧ (fill2 g k).length = 128 ∧ (fill3 g k c n).length = 128 ∧ (fill4 g k c n b).length = 128 ∧ (fill5 g k c b).length = 128 := by
  refine ⟨by simp [fill1, numeral_length], by simp [fill2, numeral_length], by simp [fill3, numeral_length], by simp [fill4, numeral_length]; omega, by simp [fill5, numeral_length, bodyT_length k c hb]⟩
theorem byV_zeros (n : Nat) : byV (List.replicate n 0) = List.replicate n (.int .u8 0) := by simp [byV]
theorem box_bs {w : World} {a n : Nat} {l : Bs} (h : Box w a (byV l)) (off m c : Nat) (hn : l.length = n) (hm : off + m ≤ n) (hc : m ≤ c) (hc2 : c ≤ 128) : BsAt w (fun b => b = a) (.slice (some ⟨a, off, none⟩) m c) ((l.drop off).take m) := by
  have hl : ((l.drop off).take m).length = m := by simp; omega
  refine ⟨.inr ⟨_, _, _, rfl, hc, by simp only [maxLen]; omega⟩, some ⟨a, off, none⟩, c, by rw [hl], by rw [hl]; simp only [maxLen]; omega, fun i hi => ⟨a, off, rfl, rfl, h.lt, fun j hj => ?_⟩⟩
  obtain rfl : j = 0 := by omega
  rw [hl] at hi
  rw [Nat.mul_one, Nat.add_zero, h.cell, byV, List.getElem?_map, List.getElem?_eq_getElem (by omega)]
  dsimp only [Option.map_some]
  rw [List.getD_eq_getElem?_getD, List.getElem?_take_of_lt hi, List.getElem?_drop, List.getElem?_eq_getElem (by omega)]
  rfl
theorem jSum_at {l : Bs} {A : Option Addr} {n c T : Nat} {S : Nat → Prop} {w : World} (h : BsAt w S (.slice A n c) l) (hn : l.length = n) (hT : sumT l = T) : Calls Try.prog 65 #[.slice A n c] w fun e w' => e = .returned (.int .u32 (T : Nat)) ∧ w' = w := by
  subst hn hT
  exact jSum_any l A c S w (Lib.hid h)
theorem jGet_at {l : Bs} {A : Option Addr} {n c T : Nat} {S : Nat → Prop} {w : World} (h : BsAt w S (.slice A n c) l) (hn : l.length = n) (hn4 : n ≤ 4) (hT : numT l = T) : Calls Try.prog 41 #[.slice A n c] w fun e w' => e = .returned (.int .u64 (T : Nat)) ∧ w' = w := by
  subst hn hT
  exact jGet_any l A c S w (Lib.hid h) hn4
theorem zeros_cells : (byV (List.replicate 128 0)).toArray = Try.zeroCells89 := by
  rw [byV_zeros]
  exact (by kernel_rfl : (List.replicate 128 (Value.int .u8 0)).toArray = Try.zeroCells89)

end Go.Proofs.Ythlidhfahaalgaa

/-
  The walk of encode. No condition but the lengths.
-/
namespace Go.Proofs.Ythlidhfahaalgaa
open Go.RowKit
attribute [local go_sem ↓ high] app_named cop_named

set_option maxRecDepth 100000 in
set_option maxHeartbeats 4000000 in
theorem jEncode_any (g k : Nat) (kind : UInt8) (b : Bs) (A : Option Addr) (m mc : Nat) (S : Nat → Prop) (w : World) (hb0 : Hid (BsAt w S (.slice A m mc) b)) (hm : Hid (b.length = m)) (hm2 : m ≤ 112) (hk : k < 65536) :
    Calls Try.prog 44 #[.int .u64 g, .int .i64 k, .int .u8 (kind.toNat : Int), .slice A m mc] w fun e w' => ∃ gb, e = .returned (.slice (some ⟨gb, 0, none⟩) 128 128) ∧ w.heap.size ≤ gb ∧ Box w' gb (byV (encT g k kind b)) ∧ Below w.heap.size w w' := by
  have hb112 : b.length ≤ 112 := by rw [hm.out]; exact hm2
  obtain ⟨l1, l2, l3, l4, l5⟩ := fill_lens g k kind (UInt8.ofNat b.length) b hb112
  have Z : Box (w.alloc (.cells Try.zeroCells89 89)) w.heap.size (byV (List.replicate 128 0)) := by
    have := Box.new w (byV (List.replicate 128 0)) 89
    rwa [zeros_cells] at this
  have hB := (Below.refl w.heap.size w).alloc (Nat.le_refl _) (.cells Try.zeroCells89 89)
  have hk2 : IntKind.u64.wrap (k : Int) = (k : Int) := wrap_u64_nat (by omega)
  have em : ((UInt8.ofNat m).toNat : Int) = (m : Int) := by rw [UInt8.toNat_ofNat']; omega
  go_enter Try.func44, Try.ntmps44
  go_wp2_with fail
  generalize w.alloc (.cells Try.zeroCells89 89) = w0 at Z hB ⊢
  refine (jPut_any _ w.heap.size 0 4 128 g w0 Z (by simp) (by omega)).mono ?_
  rintro e w1 ⟨rfl, X, hb⟩
  rw [Nat.zero_add, fill1_is] at X
  replace hB := hB.trans hb
  clear hb Z
  go_wp2_with fail
  refine (jPut_any _ w.heap.size 8 2 120 k w1 X (by omega) (by omega)).mono ?_
  rintro e w2 ⟨rfl, X2, hb⟩
  rw [fill2_is] at X2
  replace hB := hB.trans hb
  clear hb X
  have c10 := X2.cell 10
  have f10 := X2.free 10
  have c11 := X2.cell 11
  have f11 := X2.free 11
  have hz := X2.lt
  rw [byV, List.getElem?_map, List.getElem?_eq_getElem (by omega)] at c10 c11
  dsimp only [Option.map_some] at c10 c11
  generalize (fill2 g k)[10]'(by omega) = y10 at c10
  generalize (fill2 g k)[11]'(by omega) = y11 at c11
  have X3 := (X2.set 10 (.int .u8 (kind.toNat : Int))).set 11 (.int .u8 ((UInt8.ofNat m).toNat : Int))
  rw [← byV_setJ, ← byV_setJ, ← hm.out, fill3_is, hm.out] at X3
  have hB3 := (hB.setCell (p := ⟨w.heap.size, 10, none⟩) (Nat.le_refl _) (.int .u8 (kind.toNat : Int))).setCell (p := ⟨w.heap.size, 11, none⟩) (Nat.le_refl _) (.int .u8 ((UInt8.ofNat m).toNat : Int))
  rw [em] at X3 hB3
  clear em
  go_upto_region 5 with fail
  generalize (w2.setCell ⟨w.heap.size, 10, none⟩ (.int .u8 (kind.toNat : Int))).setCell ⟨w.heap.size, 11, none⟩ (.int .u8 (m : Int)) = w3 at X3 hB3 ⊢
  clear c10 f10 c11 f11 hz X2 hB
  obtain ⟨w4, hr, X4, hb⟩ := copy_box (off := 12) (d := 116) (dc := 116) 3 X3 (hb0.out.keep (Keeps.of hB3)) hm.out (by omega) (by rw [← hm.out]; omega)
  rw [← hm.out, fill4_is _ _ _ _ _ hb112] at X4
  have hB := hB3.trans hb
  have hz := X3.lt
  go_upto_region 6 with fail
  clear hb hB3 X3 hr hz
  have hz := X4.lt
  go_wp2_with fail
  refine (jPut_any _ w.heap.size 124 4 4 g w4 X4 (by omega) (by omega)).mono ?_
  rintro e w5 ⟨rfl, X5, hb⟩
  rw [show 124 + 4 = 128 from rfl, fill5_is _ _ _ _ hb112] at X5
  replace hB := hB.trans hb
  clear hb X4 hz
  have hz := X5.lt
  obtain ⟨T, hT⟩ : ∃ T, sumT (bodyT k kind b) = T := ⟨_, rfl⟩
  have hT2 : T < 4294967296 := by rw [← hT]; exact sumT_lt _
  have hT3 : IntKind.u64.wrap (T : Int) = (T : Int) := wrap_u64_nat (by omega)
  have h6 : putL (fill5 g k kind b) 8 8 T 4 = encT g k kind b := by rw [← hT]; exact fill6_is g k kind b
  have HS : BsAt w5.drew (fun b => b = w.heap.size) (.slice (some ⟨w.heap.size, 8, none⟩) 116 120) (bodyT k kind b) := by
    have := box_bs X5.drew 8 116 120 l5 (by omega) (by omega) (by omega)
    rwa [fill5_sum _ _ _ _ hb112] at this
  have hlb := bodyT_length k kind hb112
  go_upto_region 7 with fail
  go_region_with (first | (go_at_call 65; refine (jSum_at HS hlb hT).mono ?_; rintro e wz ⟨rfl, rfl⟩) | (go_at_call 64; refine (jPut_any _ w.heap.size 4 4 124 T w5.drew X5.drew (by omega) (by omega)).mono ?_; rintro e w6 ⟨rfl, X6, hb⟩))
  all_goals
    rw [h6] at X6
    have hB6 := (hB.drew).trans hb
    have hz := X6.lt
    go_wp2
    go_ret
    exact ⟨_, rfl, Nat.le_refl _, X6, hB6⟩

end Go.Proofs.Ythlidhfahaalgaa

/-
  The walks of bytes.Equal and good. No condition but the lengths.
-/
namespace Go.Proofs.Ythlidhfahaalgaa
open Go.RowKit

theorem BsAt.sub {w : World} {S : Nat → Prop} {b off n c : Nat} {l : Bs} (h : BsAt w S (.slice (some ⟨b, off, none⟩) n c) l) (i m c' : Nat) (him : i + m ≤ n) (hc : m ≤ c') (hc2 : c' ≤ maxLen) (hl : l.length = n) : BsAt w S (.slice (some ⟨b, off + i, none⟩) m c') ((l.drop i).take m) := by
  have hlen : ((l.drop i).take m).length = m := by simp; omega
  refine ⟨.inr ⟨_, _, _, rfl, hc, hc2⟩, some ⟨b, off + i, none⟩, c', by rw [hlen], by rw [hlen]; omega, fun j hj => ?_⟩
  rw [hlen] at hj
  obtain ⟨b', o', e, hS, hb, hcell⟩ := h.cell (k := i + j) (by omega)
  cases e
  refine ⟨b, off + i, rfl, hS, hb, fun q hq => ?_⟩
  obtain rfl : q = 0 := by omega
  rw [Nat.mul_one, Nat.add_zero, Nat.add_assoc, hcell]
  dsimp only
  rw [List.getD_eq_getElem?_getD, List.getD_eq_getElem?_getD, List.getElem?_take_of_lt hj, List.getElem?_drop]

set_option maxRecDepth 100000 in
set_option maxHeartbeats 4000000 in
theorem jEqual_any {a b : Bs} {A B : Option Addr} {n c m d : Nat} {S T : Nat → Prop} {w : World} {t : Bool} (ha : BsAt w S (.slice A n c) a) (hb : BsAt w T (.slice B m d) b) (ht : decide (a = b) = t) :
    Calls Try.prog 43 #[.slice A n c, .slice B m d] w fun e w' => e = .returned (.bool t) ∧ w' = w := by
  have h1 := ha.str
  have h2 := hb.str
  obtain ⟨e1, e2, e3⟩ := str_cmp ht
  clear ha hb
  go_enter Try.func43, Try.ntmps43
  go_wp2
  go_ret
  exact ⟨rfl, rfl⟩

end Go.Proofs.Ythlidhfahaalgaa

/-
  numeral and Sector of the reference of chapter 5; append of zeros. No condition but the lengths.
-/
namespace Go.Proofs.Ythlidhfahaalgaa
open Go.RowKit
attribute [local go_sem ↓ high] app_named cop_named

theorem zeroCells_one (z : Value) (n : Nat) (hz : z.cells = #[z]) : Builtin.zeroCells z.cells n = (List.replicate n z).toArray := by
  rw [hz]
  apply Array.ext'
  simp [Builtin.zeroCells]
  apply List.ext_getElem?
  intro i
  simp [List.getElem?_replicate]
  rcases Nat.lt_or_ge i n with h | h
  · simp [h, Nat.mod_one]
  · simp [h]
/-- Zeros appended to an own row of bytes. -/
theorem run_appZ {w : World} {base m : Nat} {V : Value} {l : Bs} (ty : TypeId) (ho : OwnBs w base V l) (hbase : base ≤ w.heap.size) (hl0 : 0 < l.length) (hl : l.length + m ≤ 1048576) :
    ∃ V' w', (appF #[35, 3] ty #[V, .int .i64 (m : Int)]).run Try.prog w = .ok V' w' ∧ OwnBs w' base V' (l ++ List.replicate m 0) ∧ w.grownBy w' V.ownBlock := by
  obtain ⟨i, E⟩ := elem_by
  have ti := Try.underlying3
  rcases ho.2 with ⟨_, h1⟩ | ⟨g, cap, cur, rfl, hbg, hg, hnc, hcm, hcs, htake⟩
  · omega
  have hz : (Value.int .u8 0).cells = #[Value.int .u8 0] := rfl
  have hw : IntKind.i64.wrap (m : Int) = (m : Int) := IntWalk.i64_in _ (by omega)
  have ha : ∀ u : World, (asInt (.int .i64 (m : Int))).run Try.prog u = .ok (m : Int) u := fun _ => by simp [asInt, asIntOf]
  have hm0 : ¬ ((m : Int) < 0) := by omega
  have hmb : ¬ (281474976710656 < (m : Int)) := by omega
  have hlen : (byV l ++ List.replicate m (Value.int .u8 0)).length = l.length + m := by simp [byV]
  have hbl : (byV l).length = l.length := byV_length l
  have e8 : byV (l ++ List.replicate m 0) = byV l ++ List.replicate m (.int .u8 0) := by rw [byV_append]; simp [byV]
  rcases Nat.eq_zero_or_pos m with h0 | hm
  · subst h0
    have hc : l.length ≤ cap := hnc
    refine ⟨.slice (some ⟨g, 0, none⟩) l.length cap, w, ?_, by simpa using ho, ⟨rfl, rfl, rfl, Nat.le_refl _, fun _ _ _ => rfl⟩⟩
    unfold appF
    simp [Builtin.append_, run_underlying E.ht, run_underlying ti, sizeOf, typeInfo, zeroValue, E.hi, E.hz, E.hby, hc, Addr.add_lit, storeCells, asInt, asIntOf, (by decide : IntKind.i64.wrap 0 = 0)]
  have hmn : m ≠ 0 := by omega
  by_cases hroom : l.length + m ≤ cap
  · have hst := run_storeCells_at Try.prog g l.length 5 (List.replicate m (Value.int .u8 0)) 0 cur w hg (by simp [hcs]; omega) (fun u hu => by rw [(List.mem_replicate.1 hu).2]; rfl)
    simp only [Nat.add_zero, List.length_replicate] at hst
    refine ⟨.slice (some ⟨g, 0, none⟩) (l.length + m) cap, w.setRow g (cur.toList.take l.length ++ List.replicate m (Value.int .u8 0) ++ cur.toList.drop (l.length + m)).toArray, ?_, ?_, ⟨rfl, rfl, rfl, by simp, fun k _ hk => setRow_other w g k _ (fun e => hk (by simp [Value.ownBlock, e]))⟩⟩
    · unfold appF
      · simp [Builtin.append_, run_underlying E.ht, run_underlying ti, sizeOf, typeInfo, zeroValue, E.hi, E.hz, E.hsize, E.hby, hroom, hw, hm0, hmb, hmn, Addr.add_lit, ha, zeroCells_one _ _ hz, hst]
    · refine ⟨by rw [e8, hlen]; simp, .inr ⟨g, cap, _, by simp, hbg, setRow_heap w g cur _ _ _ hg, by simp; omega, hcm, ?_, ?_⟩⟩
      · simp [hcs]; omega
      · rw [e8]
        simp only [Nat.mul_one] at htake ⊢
        rw [htake, ← hbl]
        have e5 : (l ++ List.replicate m (0 : UInt8)).length = (byV l ++ List.replicate m (Value.int .u8 0)).length := by simp [byV]
        rw [e5]
        exact List.take_left
  · have hn : ¬ (l.length + m ≤ cap) := hroom
    have h63 : ¬ (9223372036854775807 < ((l.length : Int) + (m : Int))) := by omega
    have h48 : ¬ (281474976710656 < Builtin.nextslicecap (l.length + m) cap) := by
      have := growslice_fits (need := l.length + m) (old := cap) (bytes := 1) (by omega) (by omega)
      omega
    have holds : ∀ j u, (byV l)[j]? = some u → w.drew.cell? ((⟨g, 0, none⟩ : Addr).add j) = some u := fun j u hj => (World.ownsRow.cells ho (g := g) rfl j u hj)
    have hfo := run_firstCells_some (P := Try.prog) w.drew 1 l.length ⟨g, 0, none⟩ l.length cap (byV l) (by rw [hbl, Nat.mul_one]) holds
    have hge := grownCap_ge w (l.length + m) cap 5
    have hcm2 : grownCap w (l.length + m) cap 5 ≤ maxLen := grownCap_le_maxLen w (l.length + m) cap 5 (by simp only [maxLen]; omega)
    refine ⟨.slice (some ⟨w.heap.size, 0, none⟩) (l.length + m) (grownCap w (l.length + m) cap 5), w.drew.alloc (.cells ((byV l).toArray ++ (List.replicate m (Value.int .u8 0)).toArray ++ Builtin.zeroCells #[Value.int .u8 0] (grownCap w (l.length + m) cap 5 - (l.length + m))) 5), ?_, ?_, ⟨rfl, rfl, rfl, by simp, fun k hk _ => heap_alloc_old w.drew _ hk⟩⟩
    · unfold appF
      simp [Builtin.append_, run_underlying E.ht, run_underlying ti, sizeOf, typeInfo, zeroValue, E.hi, E.hz, E.hsize, E.hby, hn, hw, hm0, hmb, hmn, h48, h63, ha, zeroCells_one _ _ hz, Question.forced, hfo, newRow, grownCap]
      have e0 : Builtin.zeroCells #[Value.int .u8 0] ((Question.appendCap (l.length + m) cap 5).cut (w.tape w.drawn (Question.appendCap (l.length + m) cap 5)) - (l.length + m)) = (List.replicate ((Question.appendCap (l.length + m) cap 5).cut (w.tape w.drawn (Question.appendCap (l.length + m) cap 5)) - (l.length + m)) (Value.int .u8 0)).toArray := zeroCells_one (.int .u8 0) _ rfl
      rw [e0]
      congr 2
      apply Array.ext'
      simp
    · refine ⟨by rw [e8, hlen]; simp, .inr ⟨w.heap.size, _, _, by simp, hbase, heap_alloc_new w.drew _, by simp; exact hge, hcm2, ?_, ?_⟩⟩
      · simp [size_zeroCells, hbl]; omega
      · rw [e8]
        simp only [Nat.mul_one, Array.toList_append, List.append_assoc]
        rw [← List.append_assoc]
        have e5 : (l ++ List.replicate m (0 : UInt8)).length = (byV l ++ List.replicate m (Value.int .u8 0)).length := by simp [byV]
        rw [e5]
        exact List.take_left

end Go.Proofs.Ythlidhfahaalgaa
