/- Append of chapter 5, of both. The records' lengths together are bounded. (Printed by gen_ju.py.) -/
import Derived.Test.YthlidhfahaalgaaQJP
import Derived.Deep.CutBlock
set_option linter.unusedVariables false
set_option linter.unusedSimpArgs false
namespace Go.Proofs.Ythlidhfahaalgaa
open Go.RowKit
attribute [local go_sem ↓ high] app_named cop_named

def appendT (l : Jn) (b : Bs) : Jn × Int := if l.okB = true then (if l.many - (usedT l.records : Int) < (secT b.length : Int) then (Jn.zero, 2) else (⟨l.records ++ [b], l.many, l.synced⟩, 0)) else (Jn.zero, 1)
set_option maxRecDepth 100000 in
set_option maxHeartbeats 8000000 in
theorem jAppend_1 (l : Jn) (A : Option Addr) (n c : Nat) (many sync : Int) (b : Bs) (Ab : Option Addr) (nb cb : Nat) (S : Nat → Prop) (w : World) (h : Hid (RwAt w S (.slice A n c) l.records)) (hn : Hid (l.records.length = n)) (hm : Hid (l.many = many)) (hy : Hid (l.synced = sync)) (hs : Hid (sumB l.records ≤ 4194304)) (_hb : Hid (BsAt w S (.slice Ab nb cb) b)) (_hnb : Hid (b.length = nb)) (_hnb2 : nb ≤ 9223372036854775000) (hT : Hid (appendT l b = (Jn.zero, 1))) (hc : Hid (l.checkT = 1)) : Calls Try.prog 15 #[.agg #[.slice A n c, .int .i64 many, .int .i64 sync], .slice Ab nb cb] w (RetJn (appendT l b) S w) := by
  have HB0 := ((Below.refl w.heap.size w).alloc (Nat.le_refl _) (.cells #[.slice A n c, .int .i64 many, .int .i64 sync] 29)).alloc (by simp) (.cells #[.slice none 0 0, .int .i64 0, .int .i64 0] 29)
  have HC := jCheck_any l A n c many sync S ((w.alloc (.cells #[.slice A n c, .int .i64 many, .int .i64 sync] 29)).alloc (.cells #[.slice none 0 0, .int .i64 0, .int .i64 0] 29)) (Lib.hid (h.out.keep (Keeps.of HB0))) hn hm hy hs
  rw [hc.out] at HC
  go_enter Try.func15, Try.ntmps15
  go_wp2_with fail
  refine HC.mono ?_
  rintro e w1 ⟨rfl, hb1⟩
  have X := ((Box.new w [.slice A n c, .int .i64 many, .int .i64 sync] 29).alloc (.cells #[.slice none 0 0, .int .i64 0, .int .i64 0] 29)).later hb1
  have R := (Box.newAt (w := w.alloc (.cells #[.slice A n c, .int .i64 many, .int .i64 sync] 29)) (n := w.heap.size + 1) [.slice none 0 0, .int .i64 0, .int .i64 0] 29 (by simp)).later hb1
  have hB := HB0.trans (hb1.mono HB0.size)
  clear hb1 HB0 HC
  have x0 : w1.cell? ⟨w.heap.size, 0, none⟩ = some (.slice A n c) := X.cell 0
  have x1 : w1.cell? ⟨w.heap.size, 1, none⟩ = some (.int .i64 many) := X.cell 1
  have x2 : w1.cell? ⟨w.heap.size, 2, none⟩ = some (.int .i64 sync) := X.cell 2
  have r0 : w1.cell? ⟨w.heap.size + 1, 0, none⟩ = some (.slice none 0 0) := R.cell 0
  have r1 : w1.cell? ⟨w.heap.size + 1, 1, none⟩ = some (.int .i64 0) := R.cell 1
  have r2 : w1.cell? ⟨w.heap.size + 1, 2, none⟩ = some (.int .i64 0) := R.cell 2
  have f0 := R.free 0
  have f1 := R.free 1
  have f2 := R.free 2
  have rz := R.lt
  have xz := X.lt
  clear X hs hm hy hn h hc
  go_wp2
  have R := ((R.set 0 (.slice none 0 0)).set 1 (.int .i64 0)).set 2 (.int .i64 0)
  have hB := ((hB.setCell (p := ⟨w.heap.size + 1, 0, none⟩) (by simp) (.slice none 0 0)).setCell (p := ⟨w.heap.size + 1, 1, none⟩) (by simp) (.int .i64 0)).setCell (p := ⟨w.heap.size + 1, 2, none⟩) (by simp) (.int .i64 0)
  generalize ((w1.setCell ⟨w.heap.size + 1, 0, none⟩ (.slice none 0 0)).setCell ⟨w.heap.size + 1, 1, none⟩ (.int .i64 0)).setCell ⟨w.heap.size + 1, 2, none⟩ (.int .i64 0) = W at R hB ⊢
  have y0 : W.cell? ⟨w.heap.size + 1, 0, none⟩ = some (.slice none 0 0) := R.cell 0
  have y1 : W.cell? ⟨w.heap.size + 1, 1, none⟩ = some (.int .i64 0) := R.cell 1
  have y2 : W.cell? ⟨w.heap.size + 1, 2, none⟩ = some (.int .i64 0) := R.cell 2
  refine bodyPost_ret (v := .tuple #[.agg #[.slice none 0 0, .int .i64 0, .int .i64 0], .int .i64 1]) (by simp [results, Try.results15, go_sem, y0, y1, y2]) rfl ?_
  exact ⟨none, 0, 0, Jn.zero, 1, rfl, hT, rfl, Lib.hid (rwAt_nil _ _), hB⟩
set_option maxRecDepth 100000 in
set_option maxHeartbeats 8000000 in
theorem jAppend_2 (l : Jn) (A : Option Addr) (n c : Nat) (many sync : Int) (b : Bs) (Ab : Option Addr) (nb cb : Nat) (S : Nat → Prop) (w : World) (h : Hid (RwAt w S (.slice A n c) l.records)) (hn : Hid (l.records.length = n)) (hm : Hid (l.many = many)) (hy : Hid (l.synced = sync)) (hs : Hid (sumB l.records ≤ 4194304)) (hb : Hid (BsAt w S (.slice Ab nb cb) b)) (hnb : Hid (b.length = nb)) (hnb2 : nb ≤ 9223372036854775000) (hT : Hid (appendT l b = (Jn.zero, 2))) (hc : Hid (l.checkT = 0)) (hq1 : 1 ≤ many) (hq2 : many ≤ 4096) (hlim : many - (usedT l.records : Int) < (secT nb : Int)) : Calls Try.prog 15 #[.agg #[.slice A n c, .int .i64 many, .int .i64 sync], .slice Ab nb cb] w (RetJn (appendT l b) S w) := by
  have HB0 := ((Below.refl w.heap.size w).alloc (Nat.le_refl _) (.cells #[.slice A n c, .int .i64 many, .int .i64 sync] 29)).alloc (by simp) (.cells #[.slice none 0 0, .int .i64 0, .int .i64 0] 29)
  have HC := jCheck_any l A n c many sync S ((w.alloc (.cells #[.slice A n c, .int .i64 many, .int .i64 sync] 29)).alloc (.cells #[.slice none 0 0, .int .i64 0, .int .i64 0] 29)) (Lib.hid (h.out.keep (Keeps.of HB0))) hn hm hy hs
  rw [hc.out] at HC
  go_enter Try.func15, Try.ntmps15
  go_wp2_with fail
  refine HC.mono ?_
  rintro e w1 ⟨rfl, hb1⟩
  have X := ((Box.new w [.slice A n c, .int .i64 many, .int .i64 sync] 29).alloc (.cells #[.slice none 0 0, .int .i64 0, .int .i64 0] 29)).later hb1
  have R := (Box.newAt (w := w.alloc (.cells #[.slice A n c, .int .i64 many, .int .i64 sync] 29)) (n := w.heap.size + 1) [.slice none 0 0, .int .i64 0, .int .i64 0] 29 (by simp)).later hb1
  have hB := HB0.trans (hb1.mono HB0.size)
  clear hb1 HB0 HC
  have x0 : w1.cell? ⟨w.heap.size, 0, none⟩ = some (.slice A n c) := X.cell 0
  have x1 : w1.cell? ⟨w.heap.size, 1, none⟩ = some (.int .i64 many) := X.cell 1
  have x2 : w1.cell? ⟨w.heap.size, 2, none⟩ = some (.int .i64 sync) := X.cell 2
  have r0 : w1.cell? ⟨w.heap.size + 1, 0, none⟩ = some (.slice none 0 0) := R.cell 0
  have r1 : w1.cell? ⟨w.heap.size + 1, 1, none⟩ = some (.int .i64 0) := R.cell 1
  have r2 : w1.cell? ⟨w.heap.size + 1, 2, none⟩ = some (.int .i64 0) := R.cell 2
  have f0 := R.free 0
  have f1 := R.free 1
  have f2 := R.free 2
  have rz := R.lt
  have xz := X.lt
  have C1 : ∀ j, Calls Try.prog 35 #[.slice Ab nb cb] (w1.drewN j) fun e w' => e = .returned (.int .i64 (secT nb : Nat)) ∧ w' = w1.drewN j := fun j => jSectors_big Ab nb cb (w1.drewN j) (by omega)
  have C2 : ∀ j, Calls Try.prog 36 #[.slice A n c] (w1.drewN j) fun e w' => e = .returned (.int .i64 (usedT l.records : Nat)) ∧ w' = w1.drewN j := fun j => by
    have := jUsed_any l.records A c S (w1.drewN j) (Lib.hid (by rw [hn.out]; exact h.out.keep (Keeps.of (below_drewN hB j)))) hs.out
    rwa [hn.out] at this
  have hu2 : usedT l.records ≤ 4194304 := by have := usedT_le l.records; have := hs.out; omega
  have hsec : secT nb ≤ 9223372036854775000 := by unfold secT; omega
  have HCL : Hid (l.records.length ≤ 4194304) := Lib.hid (by have := length_le_sumB l.records; have := hs.out; omega)
  generalize usedT l.records = u at *
  generalize secT nb = v at *
  have wr1 : IntKind.i64.wrap (many - (u : Int)) = many - (u : Int) := IntWalk.i64_in _ (by omega)
  have lt1 : decide (many - (u : Int) < (v : Int)) = true := by simp; omega
  clear hm hy hn h hc hnb hb hs HCL hlim
  go_upto_region 4 with fail
  go_quiet (first | (go_at_call 35; exact Calls.quiet_of_same (C1 _)) | (go_at_call 36; exact Calls.quiet_of_same (C2 _)))
  have hB12 := (below_drewN (Below.refl w1.heap.size w1) nq).size
  have HB12 := Lib.hid hB12
  clear hB12
  have hB := below_drewN hB nq
  have R := R.drewN nq
  have X := X.drewN nq
  generalize w1.drewN nq = w2 at hB R X HB12 ⊢
  have r0 : w2.cell? ⟨w.heap.size + 1, 0, none⟩ = some (.slice none 0 0) := R.cell 0
  have r1 : w2.cell? ⟨w.heap.size + 1, 1, none⟩ = some (.int .i64 0) := R.cell 1
  have r2 : w2.cell? ⟨w.heap.size + 1, 2, none⟩ = some (.int .i64 0) := R.cell 2
  have f0 := R.free 0
  have f1 := R.free 1
  have f2 := R.free 2
  have rz := R.lt
  clear X
  go_wp2
  have R := ((R.set 0 (.slice none 0 0)).set 1 (.int .i64 0)).set 2 (.int .i64 0)
  have hB := ((hB.setCell (p := ⟨w.heap.size + 1, 0, none⟩) (by simp) (.slice none 0 0)).setCell (p := ⟨w.heap.size + 1, 1, none⟩) (by simp) (.int .i64 0)).setCell (p := ⟨w.heap.size + 1, 2, none⟩) (by simp) (.int .i64 0)
  generalize ((w2.setCell ⟨w.heap.size + 1, 0, none⟩ (.slice none 0 0)).setCell ⟨w.heap.size + 1, 1, none⟩ (.int .i64 0)).setCell ⟨w.heap.size + 1, 2, none⟩ (.int .i64 0) = W at R hB ⊢
  have y0 : W.cell? ⟨w.heap.size + 1, 0, none⟩ = some (.slice none 0 0) := R.cell 0
  have y1 : W.cell? ⟨w.heap.size + 1, 1, none⟩ = some (.int .i64 0) := R.cell 1
  have y2 : W.cell? ⟨w.heap.size + 1, 2, none⟩ = some (.int .i64 0) := R.cell 2
  refine bodyPost_ret (v := .tuple #[.agg #[.slice none 0 0, .int .i64 0, .int .i64 0], .int .i64 2]) (by simp [results, Try.results15, go_sem, y0, y1, y2]) rfl ?_
  exact ⟨none, 0, 0, Jn.zero, 2, rfl, hT, rfl, Lib.hid (rwAt_nil _ _), hB⟩
set_option maxRecDepth 100000 in
set_option maxHeartbeats 8000000 in
theorem jAppend_3 (l : Jn) (A : Option Addr) (n c : Nat) (many sync : Int) (b : Bs) (Ab : Option Addr) (nb cb : Nat) (S : Nat → Prop) (w : World) (h : Hid (RwAt w S (.slice A n c) l.records)) (hn : Hid (l.records.length = n)) (hm : Hid (l.many = many)) (hy : Hid (l.synced = sync)) (hs : Hid (sumB l.records ≤ 4194304)) (hb : Hid (BsAt w S (.slice Ab nb cb) b)) (hnb : Hid (b.length = nb)) (hnb2 : nb ≤ 9223372036854775000) (hT : Hid (appendT l b = (⟨l.records ++ [b], many, sync⟩, 0))) (hc : Hid (l.checkT = 0)) (hq1 : 1 ≤ many) (hq2 : many ≤ 4096) (hlim : (secT nb : Int) ≤ many - (usedT l.records : Int)) : Calls Try.prog 15 #[.agg #[.slice A n c, .int .i64 many, .int .i64 sync], .slice Ab nb cb] w (RetJn (appendT l b) S w) := by
  have HB0 := ((Below.refl w.heap.size w).alloc (Nat.le_refl _) (.cells #[.slice A n c, .int .i64 many, .int .i64 sync] 29)).alloc (by simp) (.cells #[.slice none 0 0, .int .i64 0, .int .i64 0] 29)
  have HC := jCheck_any l A n c many sync S ((w.alloc (.cells #[.slice A n c, .int .i64 many, .int .i64 sync] 29)).alloc (.cells #[.slice none 0 0, .int .i64 0, .int .i64 0] 29)) (Lib.hid (h.out.keep (Keeps.of HB0))) hn hm hy hs
  rw [hc.out] at HC
  go_enter Try.func15, Try.ntmps15
  go_wp2_with fail
  refine HC.mono ?_
  rintro e w1 ⟨rfl, hb1⟩
  have X := ((Box.new w [.slice A n c, .int .i64 many, .int .i64 sync] 29).alloc (.cells #[.slice none 0 0, .int .i64 0, .int .i64 0] 29)).later hb1
  have R := (Box.newAt (w := w.alloc (.cells #[.slice A n c, .int .i64 many, .int .i64 sync] 29)) (n := w.heap.size + 1) [.slice none 0 0, .int .i64 0, .int .i64 0] 29 (by simp)).later hb1
  have hB := HB0.trans (hb1.mono HB0.size)
  clear hb1 HB0 HC
  have x0 : w1.cell? ⟨w.heap.size, 0, none⟩ = some (.slice A n c) := X.cell 0
  have x1 : w1.cell? ⟨w.heap.size, 1, none⟩ = some (.int .i64 many) := X.cell 1
  have x2 : w1.cell? ⟨w.heap.size, 2, none⟩ = some (.int .i64 sync) := X.cell 2
  have r0 : w1.cell? ⟨w.heap.size + 1, 0, none⟩ = some (.slice none 0 0) := R.cell 0
  have r1 : w1.cell? ⟨w.heap.size + 1, 1, none⟩ = some (.int .i64 0) := R.cell 1
  have r2 : w1.cell? ⟨w.heap.size + 1, 2, none⟩ = some (.int .i64 0) := R.cell 2
  have f0 := R.free 0
  have f1 := R.free 1
  have f2 := R.free 2
  have rz := R.lt
  have xz := X.lt
  have C1 : ∀ j, Calls Try.prog 35 #[.slice Ab nb cb] (w1.drewN j) fun e w' => e = .returned (.int .i64 (secT nb : Nat)) ∧ w' = w1.drewN j := fun j => jSectors_big Ab nb cb (w1.drewN j) (by omega)
  have C2 : ∀ j, Calls Try.prog 36 #[.slice A n c] (w1.drewN j) fun e w' => e = .returned (.int .i64 (usedT l.records : Nat)) ∧ w' = w1.drewN j := fun j => by
    have := jUsed_any l.records A c S (w1.drewN j) (Lib.hid (by rw [hn.out]; exact h.out.keep (Keeps.of (below_drewN hB j)))) hs.out
    rwa [hn.out] at this
  have hu2 : usedT l.records ≤ 4194304 := by have := usedT_le l.records; have := hs.out; omega
  have hsec : secT nb ≤ 9223372036854775000 := by unfold secT; omega
  have HCL : Hid (l.records.length ≤ 4194304) := Lib.hid (by have := length_le_sumB l.records; have := hs.out; omega)
  have hbl : b.length ≤ 1048576 := by
    have h1 : secT nb ≤ 4096 := by omega
    rw [hnb.out]
    unfold secT at h1
    omega
  have HW1 := Lib.hid (show w.heap.size + 1 < w1.heap.size from R.lt)
  generalize usedT l.records = u at *
  generalize secT nb = v at *
  have wr1 : IntKind.i64.wrap (many - (u : Int)) = many - (u : Int) := IntWalk.i64_in _ (by omega)
  have lt1 : decide (many - (u : Int) < (v : Int)) = false := by simp; omega
  have HLIM := Lib.hid hlim
  clear hlim
  go_upto_region 4 with fail
  go_quiet (first | (go_at_call 35; exact Calls.quiet_of_same (C1 _)) | (go_at_call 36; exact Calls.quiet_of_same (C2 _)))
  have hB12 := (below_drewN (Below.refl w1.heap.size w1) nq).size
  have HB12 := Lib.hid hB12
  clear hB12
  have hB := below_drewN hB nq
  have R := R.drewN nq
  have X := X.drewN nq
  generalize w1.drewN nq = w2 at hB R X HB12 ⊢
  clear C1 C2 x0 x1 x2 r0 r1 r2 f0 f1 f2 rz xz lt1 wr1 hu2 hsec hnb2 hc
  have x0 : w2.cell? ⟨w.heap.size, 0, none⟩ = some (.slice A n c) := X.cell 0
  have x1 : w2.cell? ⟨w.heap.size, 1, none⟩ = some (.int .i64 many) := X.cell 1
  have x2 : w2.cell? ⟨w.heap.size, 2, none⟩ = some (.int .i64 sync) := X.cell 2
  have xz := X.lt
  go_wp2_with fail
  refine (jClip_any l.records A n c (fun b => S b ∧ b < w.heap.size) w2 ((h.out.weak fun b hs hl => ⟨hs, hl⟩).keep (Keeps.of hB))).mono ?_
  rintro e w3 ⟨rfl, hK, rfl⟩
  go_wp2_with fail
  refine (jCloneB_any b _ S w2 (hb.out.keep (Keeps.of hB)) hbl).mono ?_
  rintro e w3 ⟨V, rfl, ho, hb3⟩
  obtain ⟨Av, cv, rfl⟩ := ho.form'
  rw [hnb.out] at ho ⊢
  have hB3 := hB.trans (hb3.mono hB.size)
  have X := X.later hb3
  have R := R.later hb3
  have hbs : BsAt w3 (fun b => (S b ∧ b < w.heap.size) ∨ w1.heap.size ≤ b) (.slice Av nb cv) b := (ho.bs (by simp only [maxLen]; omega)).weak fun g hg _ => .inr (Nat.le_trans HB12.out hg)
  have hkr : RwAt w3 (fun b => (S b ∧ b < w.heap.size) ∨ w1.heap.size ≤ b) (.slice A n n) l.records := (hK.out.keep (Keeps.of hb3)).weak fun g hg _ => .inl hg
  have ha := (Below.refl w3.heap.size w3).alloc (Nat.le_refl _) (.cells #[.slice Av nb cv] 35)
  obtain ⟨A', c', w4, hr, hrw, hb4⟩ := run_clipApp (hkr.keep (Keeps.of ha)) (Box.new w3 [.slice Av nb cv] 35) (hbs.keep (Keeps.of ha)) (by rw [← hn.out]; exact HCL.out)
  have h3w := hB3.size
  have hB4 := (hB3.alloc hB3.size (.cells #[.slice Av nb cv] 35)).trans (hb4.mono (by simp; omega))
  have hrw := hrw.weak (S' := fun b => (S b ∧ b < w.heap.size) ∨ w1.heap.size ≤ b) fun g hg _ => by
    rcases hg with hg | hg
    · exact hg
    · exact .inr (by have := HB12.out; have := hb3.size; simp at hg; omega)
  have X := (X.alloc (.cells #[.slice Av nb cv] 35)).later hb4
  have R := (R.alloc (.cells #[.slice Av nb cv] 35)).later hb4
  have x0 : w4.cell? ⟨w.heap.size, 0, none⟩ = some (.slice A n c) := X.cell 0
  have x1 : w4.cell? ⟨w.heap.size, 1, none⟩ = some (.int .i64 many) := X.cell 1
  have x2 : w4.cell? ⟨w.heap.size, 2, none⟩ = some (.int .i64 sync) := X.cell 2
  have r0 : w4.cell? ⟨w.heap.size + 1, 0, none⟩ = some (.slice none 0 0) := R.cell 0
  have r1 : w4.cell? ⟨w.heap.size + 1, 1, none⟩ = some (.int .i64 0) := R.cell 1
  have r2 : w4.cell? ⟨w.heap.size + 1, 2, none⟩ = some (.int .i64 0) := R.cell 2
  have f0 := R.free 0
  have f1 := R.free 1
  have f2 := R.free 2
  have g0 := X.free 0
  have rz := R.lt
  have xz4 := X.lt
  go_wp2
  have hQ : ∀ (W : World) (a o : Nat) (u : Value), a = w.heap.size ∨ a = w.heap.size + 1 → Keeps (fun b => (S b ∧ b < w.heap.size) ∨ w1.heap.size ≤ b) W (W.setCell ⟨a, o, none⟩ u) := fun W a o u h => Keeps.set W (by have := HW1.out; simp; omega) u
  have hrw := (((hrw.keep (hQ _ w.heap.size 0 (.slice A' (n + 1) c') (.inl rfl))).keep (hQ _ (w.heap.size + 1) 0 (.slice A' (n + 1) c') (.inr rfl))).keep (hQ _ (w.heap.size + 1) 1 (.int .i64 many) (.inr rfl))).keep (hQ _ (w.heap.size + 1) 2 (.int .i64 sync) (.inr rfl))
  have R := (((R.other (a := ⟨w.heap.size, 0, none⟩) (by simp) (.slice A' (n + 1) c')).set 0 (.slice A' (n + 1) c')).set 1 (.int .i64 many)).set 2 (.int .i64 sync)
  have hB := (((hB4.setCell (p := ⟨w.heap.size, 0, none⟩) (by simp) (.slice A' (n + 1) c')).setCell (p := ⟨w.heap.size + 1, 0, none⟩) (by simp) (.slice A' (n + 1) c')).setCell (p := ⟨w.heap.size + 1, 1, none⟩) (by simp) (.int .i64 many)).setCell (p := ⟨w.heap.size + 1, 2, none⟩) (by simp) (.int .i64 sync)
  generalize (((w4.setCell ⟨w.heap.size, 0, none⟩ (.slice A' (n + 1) c')).setCell ⟨w.heap.size + 1, 0, none⟩ (.slice A' (n + 1) c')).setCell ⟨w.heap.size + 1, 1, none⟩ (.int .i64 many)).setCell ⟨w.heap.size + 1, 2, none⟩ (.int .i64 sync) = W at hrw R hB ⊢
  have y0 : W.cell? ⟨w.heap.size + 1, 0, none⟩ = some (.slice A' (n + 1) c') := R.cell 0
  have y1 : W.cell? ⟨w.heap.size + 1, 1, none⟩ = some (.int .i64 many) := R.cell 1
  have y2 : W.cell? ⟨w.heap.size + 1, 2, none⟩ = some (.int .i64 sync) := R.cell 2
  refine bodyPost_ret (v := .tuple #[.agg #[.slice A' (n + 1) c', .int .i64 many, .int .i64 sync], .int .i64 0]) (by simp [results, Try.results15, go_sem, y0, y1, y2]) rfl ?_
  exact ⟨A', n + 1, c', ⟨l.records ++ [b], many, sync⟩, 0, rfl, hT, Lib.hid (by rw [List.length_append, List.length_singleton, hn.out]), Lib.hid (hrw.weak fun g hg _ => by
    rcases hg with hg | hg
    · exact .inl hg.1
    · exact .inr (by have := HW1.out; omega)), hB⟩
set_option maxRecDepth 100000 in
set_option maxHeartbeats 8000000 in
theorem jRAppend_1 (l : Jn) (A : Option Addr) (n c : Nat) (many sync : Int) (b : Bs) (Ab : Option Addr) (nb cb : Nat) (S : Nat → Prop) (w : World) (h : Hid (RwAt w S (.slice A n c) l.records)) (hn : Hid (l.records.length = n)) (hm : Hid (l.many = many)) (hy : Hid (l.synced = sync)) (hs : Hid (sumB l.records ≤ 4194304)) (_hb : Hid (BsAt w S (.slice Ab nb cb) b)) (_hnb : Hid (b.length = nb)) (_hnb2 : nb ≤ 9223372036854775000) (hT : Hid (appendT l b = (Jn.zero, 1))) (hc : Hid (l.checkT = 1)) : Calls Try.prog 16 #[.agg #[.slice A n c, .int .i64 many, .int .i64 sync], .slice Ab nb cb] w (RetJn (appendT l b) S w) := by
  have HB0 := ((Below.refl w.heap.size w).alloc (Nat.le_refl _) (.cells #[.slice A n c, .int .i64 many, .int .i64 sync] 29)).alloc (by simp) (.cells #[.slice none 0 0, .int .i64 0, .int .i64 0] 29)
  have HC := jRCheck_any l A n c many sync S ((w.alloc (.cells #[.slice A n c, .int .i64 many, .int .i64 sync] 29)).alloc (.cells #[.slice none 0 0, .int .i64 0, .int .i64 0] 29)) (Lib.hid (h.out.keep (Keeps.of HB0))) hn hm hy hs
  rw [hc.out] at HC
  go_enter Try.func16, Try.ntmps16
  go_wp2_with fail
  refine HC.mono ?_
  rintro e w1 ⟨rfl, hb1⟩
  have X := ((Box.new w [.slice A n c, .int .i64 many, .int .i64 sync] 29).alloc (.cells #[.slice none 0 0, .int .i64 0, .int .i64 0] 29)).later hb1
  have R := (Box.newAt (w := w.alloc (.cells #[.slice A n c, .int .i64 many, .int .i64 sync] 29)) (n := w.heap.size + 1) [.slice none 0 0, .int .i64 0, .int .i64 0] 29 (by simp)).later hb1
  have hB := HB0.trans (hb1.mono HB0.size)
  clear hb1 HB0 HC
  have x0 : w1.cell? ⟨w.heap.size, 0, none⟩ = some (.slice A n c) := X.cell 0
  have x1 : w1.cell? ⟨w.heap.size, 1, none⟩ = some (.int .i64 many) := X.cell 1
  have x2 : w1.cell? ⟨w.heap.size, 2, none⟩ = some (.int .i64 sync) := X.cell 2
  have r0 : w1.cell? ⟨w.heap.size + 1, 0, none⟩ = some (.slice none 0 0) := R.cell 0
  have r1 : w1.cell? ⟨w.heap.size + 1, 1, none⟩ = some (.int .i64 0) := R.cell 1
  have r2 : w1.cell? ⟨w.heap.size + 1, 2, none⟩ = some (.int .i64 0) := R.cell 2
  have f0 := R.free 0
  have f1 := R.free 1
  have f2 := R.free 2
  have rz := R.lt
  have xz := X.lt
  clear X hs hm hy hn h hc
  go_wp2
  have R := ((R.set 0 (.slice none 0 0)).set 1 (.int .i64 0)).set 2 (.int .i64 0)
  have hB := ((hB.setCell (p := ⟨w.heap.size + 1, 0, none⟩) (by simp) (.slice none 0 0)).setCell (p := ⟨w.heap.size + 1, 1, none⟩) (by simp) (.int .i64 0)).setCell (p := ⟨w.heap.size + 1, 2, none⟩) (by simp) (.int .i64 0)
  generalize ((w1.setCell ⟨w.heap.size + 1, 0, none⟩ (.slice none 0 0)).setCell ⟨w.heap.size + 1, 1, none⟩ (.int .i64 0)).setCell ⟨w.heap.size + 1, 2, none⟩ (.int .i64 0) = W at R hB ⊢
  have y0 : W.cell? ⟨w.heap.size + 1, 0, none⟩ = some (.slice none 0 0) := R.cell 0
  have y1 : W.cell? ⟨w.heap.size + 1, 1, none⟩ = some (.int .i64 0) := R.cell 1
  have y2 : W.cell? ⟨w.heap.size + 1, 2, none⟩ = some (.int .i64 0) := R.cell 2
  refine bodyPost_ret (v := .tuple #[.agg #[.slice none 0 0, .int .i64 0, .int .i64 0], .int .i64 1]) (by simp [results, Try.results16, go_sem, y0, y1, y2]) rfl ?_
  exact ⟨none, 0, 0, Jn.zero, 1, rfl, hT, rfl, Lib.hid (rwAt_nil _ _), hB⟩
set_option maxRecDepth 100000 in
set_option maxHeartbeats 8000000 in
theorem jRAppend_2 (l : Jn) (A : Option Addr) (n c : Nat) (many sync : Int) (b : Bs) (Ab : Option Addr) (nb cb : Nat) (S : Nat → Prop) (w : World) (h : Hid (RwAt w S (.slice A n c) l.records)) (hn : Hid (l.records.length = n)) (hm : Hid (l.many = many)) (hy : Hid (l.synced = sync)) (hs : Hid (sumB l.records ≤ 4194304)) (hb : Hid (BsAt w S (.slice Ab nb cb) b)) (hnb : Hid (b.length = nb)) (hnb2 : nb ≤ 9223372036854775000) (hT : Hid (appendT l b = (Jn.zero, 2))) (hc : Hid (l.checkT = 0)) (hq1 : 1 ≤ many) (hq2 : many ≤ 4096) (hlim : many - (usedT l.records : Int) < (secT nb : Int)) : Calls Try.prog 16 #[.agg #[.slice A n c, .int .i64 many, .int .i64 sync], .slice Ab nb cb] w (RetJn (appendT l b) S w) := by
  have HB0 := ((Below.refl w.heap.size w).alloc (Nat.le_refl _) (.cells #[.slice A n c, .int .i64 many, .int .i64 sync] 29)).alloc (by simp) (.cells #[.slice none 0 0, .int .i64 0, .int .i64 0] 29)
  have HC := jRCheck_any l A n c many sync S ((w.alloc (.cells #[.slice A n c, .int .i64 many, .int .i64 sync] 29)).alloc (.cells #[.slice none 0 0, .int .i64 0, .int .i64 0] 29)) (Lib.hid (h.out.keep (Keeps.of HB0))) hn hm hy hs
  rw [hc.out] at HC
  go_enter Try.func16, Try.ntmps16
  go_wp2_with fail
  refine HC.mono ?_
  rintro e w1 ⟨rfl, hb1⟩
  have X := ((Box.new w [.slice A n c, .int .i64 many, .int .i64 sync] 29).alloc (.cells #[.slice none 0 0, .int .i64 0, .int .i64 0] 29)).later hb1
  have R := (Box.newAt (w := w.alloc (.cells #[.slice A n c, .int .i64 many, .int .i64 sync] 29)) (n := w.heap.size + 1) [.slice none 0 0, .int .i64 0, .int .i64 0] 29 (by simp)).later hb1
  have hB := HB0.trans (hb1.mono HB0.size)
  clear hb1 HB0 HC
  have x0 : w1.cell? ⟨w.heap.size, 0, none⟩ = some (.slice A n c) := X.cell 0
  have x1 : w1.cell? ⟨w.heap.size, 1, none⟩ = some (.int .i64 many) := X.cell 1
  have x2 : w1.cell? ⟨w.heap.size, 2, none⟩ = some (.int .i64 sync) := X.cell 2
  have r0 : w1.cell? ⟨w.heap.size + 1, 0, none⟩ = some (.slice none 0 0) := R.cell 0
  have r1 : w1.cell? ⟨w.heap.size + 1, 1, none⟩ = some (.int .i64 0) := R.cell 1
  have r2 : w1.cell? ⟨w.heap.size + 1, 2, none⟩ = some (.int .i64 0) := R.cell 2
  have f0 := R.free 0
  have f1 := R.free 1
  have f2 := R.free 2
  have rz := R.lt
  have xz := X.lt
  have C1 : ∀ j, Calls Try.prog 39 #[.int .i64 (nb : Int)] (w1.drewN j) fun e w' => e = .returned (.int .i64 (secT nb : Nat)) ∧ w' = w1.drewN j := fun j => jRSectors_big nb (w1.drewN j) (by omega)
  have C2 : ∀ j, Calls Try.prog 40 #[.slice A n c] (w1.drewN j) fun e w' => e = .returned (.int .i64 (usedT l.records : Nat)) ∧ w' = w1.drewN j := fun j => by
    have := jRUsed_any l.records A c S (w1.drewN j) (Lib.hid (by rw [hn.out]; exact h.out.keep (Keeps.of (below_drewN hB j)))) hs.out
    rwa [hn.out] at this
  have hu2 : usedT l.records ≤ 4194304 := by have := usedT_le l.records; have := hs.out; omega
  have hsec : secT nb ≤ 9223372036854775000 := by unfold secT; omega
  have HCL : Hid (l.records.length ≤ 4194304) := Lib.hid (by have := length_le_sumB l.records; have := hs.out; omega)
  generalize usedT l.records = u at *
  generalize secT nb = v at *
  have wr1 : IntKind.i64.wrap (many - (u : Int)) = many - (u : Int) := IntWalk.i64_in _ (by omega)
  have lt1 : decide (many - (u : Int) < (v : Int)) = true := by simp; omega
  clear hm hy hn h hc hnb hb hs HCL hlim
  go_upto_region 4 with fail
  go_quiet (first | (go_at_call 39; exact Calls.quiet_of_same (C1 _)) | (go_at_call 40; exact Calls.quiet_of_same (C2 _)))
  have hB12 := (below_drewN (Below.refl w1.heap.size w1) nq).size
  have HB12 := Lib.hid hB12
  clear hB12
  have hB := below_drewN hB nq
  have R := R.drewN nq
  have X := X.drewN nq
  generalize w1.drewN nq = w2 at hB R X HB12 ⊢
  have r0 : w2.cell? ⟨w.heap.size + 1, 0, none⟩ = some (.slice none 0 0) := R.cell 0
  have r1 : w2.cell? ⟨w.heap.size + 1, 1, none⟩ = some (.int .i64 0) := R.cell 1
  have r2 : w2.cell? ⟨w.heap.size + 1, 2, none⟩ = some (.int .i64 0) := R.cell 2
  have f0 := R.free 0
  have f1 := R.free 1
  have f2 := R.free 2
  have rz := R.lt
  clear X
  go_wp2
  have R := ((R.set 0 (.slice none 0 0)).set 1 (.int .i64 0)).set 2 (.int .i64 0)
  have hB := ((hB.setCell (p := ⟨w.heap.size + 1, 0, none⟩) (by simp) (.slice none 0 0)).setCell (p := ⟨w.heap.size + 1, 1, none⟩) (by simp) (.int .i64 0)).setCell (p := ⟨w.heap.size + 1, 2, none⟩) (by simp) (.int .i64 0)
  generalize ((w2.setCell ⟨w.heap.size + 1, 0, none⟩ (.slice none 0 0)).setCell ⟨w.heap.size + 1, 1, none⟩ (.int .i64 0)).setCell ⟨w.heap.size + 1, 2, none⟩ (.int .i64 0) = W at R hB ⊢
  have y0 : W.cell? ⟨w.heap.size + 1, 0, none⟩ = some (.slice none 0 0) := R.cell 0
  have y1 : W.cell? ⟨w.heap.size + 1, 1, none⟩ = some (.int .i64 0) := R.cell 1
  have y2 : W.cell? ⟨w.heap.size + 1, 2, none⟩ = some (.int .i64 0) := R.cell 2
  refine bodyPost_ret (v := .tuple #[.agg #[.slice none 0 0, .int .i64 0, .int .i64 0], .int .i64 2]) (by simp [results, Try.results16, go_sem, y0, y1, y2]) rfl ?_
  exact ⟨none, 0, 0, Jn.zero, 2, rfl, hT, rfl, Lib.hid (rwAt_nil _ _), hB⟩
set_option maxRecDepth 100000 in
set_option maxHeartbeats 8000000 in
theorem jRAppend_3 (l : Jn) (A : Option Addr) (n c : Nat) (many sync : Int) (b : Bs) (Ab : Option Addr) (nb cb : Nat) (S : Nat → Prop) (w : World) (h : Hid (RwAt w S (.slice A n c) l.records)) (hn : Hid (l.records.length = n)) (hm : Hid (l.many = many)) (hy : Hid (l.synced = sync)) (hs : Hid (sumB l.records ≤ 4194304)) (hb : Hid (BsAt w S (.slice Ab nb cb) b)) (hnb : Hid (b.length = nb)) (hnb2 : nb ≤ 9223372036854775000) (hT : Hid (appendT l b = (⟨l.records ++ [b], many, sync⟩, 0))) (hc : Hid (l.checkT = 0)) (hq1 : 1 ≤ many) (hq2 : many ≤ 4096) (hlim : (secT nb : Int) ≤ many - (usedT l.records : Int)) : Calls Try.prog 16 #[.agg #[.slice A n c, .int .i64 many, .int .i64 sync], .slice Ab nb cb] w (RetJn (appendT l b) S w) := by
  have HB0 := ((Below.refl w.heap.size w).alloc (Nat.le_refl _) (.cells #[.slice A n c, .int .i64 many, .int .i64 sync] 29)).alloc (by simp) (.cells #[.slice none 0 0, .int .i64 0, .int .i64 0] 29)
  have HC := jRCheck_any l A n c many sync S ((w.alloc (.cells #[.slice A n c, .int .i64 many, .int .i64 sync] 29)).alloc (.cells #[.slice none 0 0, .int .i64 0, .int .i64 0] 29)) (Lib.hid (h.out.keep (Keeps.of HB0))) hn hm hy hs
  rw [hc.out] at HC
  go_enter Try.func16, Try.ntmps16
  go_wp2_with fail
  refine HC.mono ?_
  rintro e w1 ⟨rfl, hb1⟩
  have X := ((Box.new w [.slice A n c, .int .i64 many, .int .i64 sync] 29).alloc (.cells #[.slice none 0 0, .int .i64 0, .int .i64 0] 29)).later hb1
  have R := (Box.newAt (w := w.alloc (.cells #[.slice A n c, .int .i64 many, .int .i64 sync] 29)) (n := w.heap.size + 1) [.slice none 0 0, .int .i64 0, .int .i64 0] 29 (by simp)).later hb1
  have hB := HB0.trans (hb1.mono HB0.size)
  clear hb1 HB0 HC
  have x0 : w1.cell? ⟨w.heap.size, 0, none⟩ = some (.slice A n c) := X.cell 0
  have x1 : w1.cell? ⟨w.heap.size, 1, none⟩ = some (.int .i64 many) := X.cell 1
  have x2 : w1.cell? ⟨w.heap.size, 2, none⟩ = some (.int .i64 sync) := X.cell 2
  have r0 : w1.cell? ⟨w.heap.size + 1, 0, none⟩ = some (.slice none 0 0) := R.cell 0
  have r1 : w1.cell? ⟨w.heap.size + 1, 1, none⟩ = some (.int .i64 0) := R.cell 1
  have r2 : w1.cell? ⟨w.heap.size + 1, 2, none⟩ = some (.int .i64 0) := R.cell 2
  have f0 := R.free 0
  have f1 := R.free 1
  have f2 := R.free 2
  have rz := R.lt
  have xz := X.lt
  have C1 : ∀ j, Calls Try.prog 39 #[.int .i64 (nb : Int)] (w1.drewN j) fun e w' => e = .returned (.int .i64 (secT nb : Nat)) ∧ w' = w1.drewN j := fun j => jRSectors_big nb (w1.drewN j) (by omega)
  have C2 : ∀ j, Calls Try.prog 40 #[.slice A n c] (w1.drewN j) fun e w' => e = .returned (.int .i64 (usedT l.records : Nat)) ∧ w' = w1.drewN j := fun j => by
    have := jRUsed_any l.records A c S (w1.drewN j) (Lib.hid (by rw [hn.out]; exact h.out.keep (Keeps.of (below_drewN hB j)))) hs.out
    rwa [hn.out] at this
  have hu2 : usedT l.records ≤ 4194304 := by have := usedT_le l.records; have := hs.out; omega
  have hsec : secT nb ≤ 9223372036854775000 := by unfold secT; omega
  have HCL : Hid (l.records.length ≤ 4194304) := Lib.hid (by have := length_le_sumB l.records; have := hs.out; omega)
  have hbl : b.length ≤ 1048576 := by
    have h1 : secT nb ≤ 4096 := by omega
    rw [hnb.out]
    unfold secT at h1
    omega
  have HW1 := Lib.hid (show w.heap.size + 1 < w1.heap.size from R.lt)
  generalize usedT l.records = u at *
  generalize secT nb = v at *
  have wr1 : IntKind.i64.wrap (many - (u : Int)) = many - (u : Int) := IntWalk.i64_in _ (by omega)
  have lt1 : decide (many - (u : Int) < (v : Int)) = false := by simp; omega
  have HLIM := Lib.hid hlim
  clear hlim
  go_upto_region 4 with fail
  go_quiet (first | (go_at_call 39; exact Calls.quiet_of_same (C1 _)) | (go_at_call 40; exact Calls.quiet_of_same (C2 _)))
  have hB12 := (below_drewN (Below.refl w1.heap.size w1) nq).size
  have HB12 := Lib.hid hB12
  clear hB12
  have hB := below_drewN hB nq
  have R := R.drewN nq
  have X := X.drewN nq
  generalize w1.drewN nq = w2 at hB R X HB12 ⊢
  clear C1 C2 x0 x1 x2 r0 r1 r2 f0 f1 f2 rz xz lt1 wr1 hu2 hsec hnb2 hc
  have x0 : w2.cell? ⟨w.heap.size, 0, none⟩ = some (.slice A n c) := X.cell 0
  have x1 : w2.cell? ⟨w.heap.size, 1, none⟩ = some (.int .i64 many) := X.cell 1
  have x2 : w2.cell? ⟨w.heap.size, 2, none⟩ = some (.int .i64 sync) := X.cell 2
  have xz := X.lt
  have hS2 : w.heap.size ≤ w2.heap.size := hB.size
  have ha := (Below.refl w2.heap.size w2).alloc (Nat.le_refl _) (.cells #[] 35)
  have hQ2 : ∀ g, (S g ∧ g < w.heap.size) → g < w2.heap.size := fun g hg => Nat.lt_of_lt_of_le hg.2 hS2
  have hO := h.out.weak (S' := fun g => S g ∧ g < w.heap.size) fun g hs hl => ⟨hs, hl⟩
  have hob := hb.out.weak (S' := fun g => S g ∧ g < w.heap.size) fun g hs hl => ⟨hs, hl⟩
  have hm0 : OwnRw (w2.alloc (.cells #[] 35)) w2.heap.size (fun g => S g ∧ g < w.heap.size) (.slice (some ⟨w2.heap.size, 0, none⟩) 0 0) [] := by
    obtain ⟨xs, h1, _⟩ := ownRw_made w2 35 rfl
    exact ⟨xs, h1, fun i x u h => by simp at h⟩
  obtain ⟨v1, w3, hr1, ho1, hb3⟩ := run_appRows hm0 hQ2 ((hO.keep (Keeps.of hB)).keep (Keeps.of ha)) ha.size (by have := HCL.out; simpa using this)
  rw [List.nil_append] at ho1
  have hB3 := (hB.alloc hB.size (.cells #[] 35)).trans (hb3.mono hS2)
  obtain ⟨A1, c1, rfl⟩ := ho1.form
  have ha3 := (Below.refl w3.heap.size w3).alloc (Nat.le_refl _) (.cells #[.slice Ab nb cb] 35)
  have hs3 : w2.heap.size ≤ w3.heap.size := by have := hb3.size; simp at this; omega
  obtain ⟨v2, w4, hr2, ho2, hb4⟩ := run_ownQ (ho1.keep ha3) hQ2 (Box.new w3 [.slice Ab nb cb] 35) ((hob.keep (Keeps.of hB3)).keep (Keeps.of ha3)) (by have := ha3.size; omega) HCL.out
  obtain ⟨A', c', hv2⟩ := ho2.form
  rw [List.length_append, List.length_singleton, hn.out] at hv2
  subst hv2
  rw [hn.out] at hr1 hr2 ho1
  have hB4 := (hB3.alloc hB3.size (.cells #[.slice Ab nb cb] 35)).trans (hb4.mono hS2)
  have hrw : RwAt w4 (fun b => (S b ∧ b < w.heap.size) ∨ w1.heap.size ≤ b) (.slice A' (n + 1) c') (l.records ++ [b]) := ho2.rows (by simp only [maxLen, List.length_append, List.length_singleton]; have := HCL.out; omega) (fun b hb _ => .inl hb) (fun b hb => .inr (Nat.le_trans HB12.out hb))
  have hX3 : ∀ g, g < w2.heap.size → w4.heap[g]? = w2.heap[g]? := fun g hg => by
    rw [hb4.block g hg, ha3.block g (by omega), hb3.block g hg, ha.block g hg]
  have xz2 := X.lt
  have rz2 := R.lt
  have X := X.same (hX3 _ xz2)
  have R := R.same (hX3 _ rz2)
  clear hX3
  have x0 : w4.cell? ⟨w.heap.size, 0, none⟩ = some (.slice A n c) := X.cell 0
  have x1 : w4.cell? ⟨w.heap.size, 1, none⟩ = some (.int .i64 many) := X.cell 1
  have x2 : w4.cell? ⟨w.heap.size, 2, none⟩ = some (.int .i64 sync) := X.cell 2
  have r0 : w4.cell? ⟨w.heap.size + 1, 0, none⟩ = some (.slice none 0 0) := R.cell 0
  have r1 : w4.cell? ⟨w.heap.size + 1, 1, none⟩ = some (.int .i64 0) := R.cell 1
  have r2 : w4.cell? ⟨w.heap.size + 1, 2, none⟩ = some (.int .i64 0) := R.cell 2
  have f0 := R.free 0
  have f1 := R.free 1
  have f2 := R.free 2
  have g0 := X.free 0
  have rz := R.lt
  have xz4 := X.lt
  go_wp2
  have hQ : ∀ (W : World) (a o : Nat) (u : Value), a = w.heap.size ∨ a = w.heap.size + 1 → Keeps (fun b => (S b ∧ b < w.heap.size) ∨ w1.heap.size ≤ b) W (W.setCell ⟨a, o, none⟩ u) := fun W a o u h => Keeps.set W (by have := HW1.out; simp; omega) u
  have hrw := (((hrw.keep (hQ _ w.heap.size 0 (.slice A' (n + 1) c') (.inl rfl))).keep (hQ _ (w.heap.size + 1) 0 (.slice A' (n + 1) c') (.inr rfl))).keep (hQ _ (w.heap.size + 1) 1 (.int .i64 many) (.inr rfl))).keep (hQ _ (w.heap.size + 1) 2 (.int .i64 sync) (.inr rfl))
  have R := (((R.other (a := ⟨w.heap.size, 0, none⟩) (by simp) (.slice A' (n + 1) c')).set 0 (.slice A' (n + 1) c')).set 1 (.int .i64 many)).set 2 (.int .i64 sync)
  have hB := (((hB4.setCell (p := ⟨w.heap.size, 0, none⟩) (by simp) (.slice A' (n + 1) c')).setCell (p := ⟨w.heap.size + 1, 0, none⟩) (by simp) (.slice A' (n + 1) c')).setCell (p := ⟨w.heap.size + 1, 1, none⟩) (by simp) (.int .i64 many)).setCell (p := ⟨w.heap.size + 1, 2, none⟩) (by simp) (.int .i64 sync)
  generalize (((w4.setCell ⟨w.heap.size, 0, none⟩ (.slice A' (n + 1) c')).setCell ⟨w.heap.size + 1, 0, none⟩ (.slice A' (n + 1) c')).setCell ⟨w.heap.size + 1, 1, none⟩ (.int .i64 many)).setCell ⟨w.heap.size + 1, 2, none⟩ (.int .i64 sync) = W at hrw R hB ⊢
  have y0 : W.cell? ⟨w.heap.size + 1, 0, none⟩ = some (.slice A' (n + 1) c') := R.cell 0
  have y1 : W.cell? ⟨w.heap.size + 1, 1, none⟩ = some (.int .i64 many) := R.cell 1
  have y2 : W.cell? ⟨w.heap.size + 1, 2, none⟩ = some (.int .i64 sync) := R.cell 2
  refine bodyPost_ret (v := .tuple #[.agg #[.slice A' (n + 1) c', .int .i64 many, .int .i64 sync], .int .i64 0]) (by simp [results, Try.results16, go_sem, y0, y1, y2]) rfl ?_
  exact ⟨A', n + 1, c', ⟨l.records ++ [b], many, sync⟩, 0, rfl, hT, Lib.hid (by rw [List.length_append, List.length_singleton, hn.out]), Lib.hid (hrw.weak fun g hg _ => by
    rcases hg with hg | hg
    · exact .inl hg.1
    · exact .inr (by have := HW1.out; omega)), hB⟩
theorem jAppend_any (l : Jn) (A : Option Addr) (n c : Nat) (many sync : Int) (b : Bs) (Ab : Option Addr) (nb cb : Nat) (S : Nat → Prop) (w : World) (h : Hid (RwAt w S (.slice A n c) l.records)) (hn : Hid (l.records.length = n)) (hm : Hid (l.many = many)) (hy : Hid (l.synced = sync)) (hs : Hid (sumB l.records ≤ 4194304)) (hb : Hid (BsAt w S (.slice Ab nb cb) b)) (hnb : Hid (b.length = nb)) (hnb2 : nb ≤ 9223372036854775000) : Calls Try.prog 15 #[.agg #[.slice A n c, .int .i64 many, .int .i64 sync], .slice Ab nb cb] w (RetJn (appendT l b) S w) := by
  rcases hok : l.okB with _ | _
  · exact jAppend_1 l A n c many sync b Ab nb cb S w h hn hm hy hs hb hnb hnb2 (Lib.hid (by rw [appendT, hok]; rfl)) (Lib.hid (Jn.bad hok))
  · obtain ⟨g1, g2, _, _, g5⟩ := l.okB_iff.1 hok
    have hc := Lib.hid (Jn.good hok)
    by_cases hlim : l.many - (usedT l.records : Int) < (secT b.length : Int)
    · exact jAppend_2 l A n c many sync b Ab nb cb S w h hn hm hy hs hb hnb hnb2 (Lib.hid (by rw [appendT, if_pos hok, if_pos hlim])) hc (by rw [← hm.out]; exact g1) (by rw [← hm.out]; exact g2) (by rw [← hm.out, ← hnb.out]; exact hlim)
    · exact jAppend_3 l A n c many sync b Ab nb cb S w h hn hm hy hs hb hnb hnb2 (Lib.hid (by rw [appendT, if_pos hok, if_neg hlim, hm.out, hy.out])) hc (by rw [← hm.out]; exact g1) (by rw [← hm.out]; exact g2) (by rw [← hm.out, ← hnb.out]; omega)
theorem jRAppend_any (l : Jn) (A : Option Addr) (n c : Nat) (many sync : Int) (b : Bs) (Ab : Option Addr) (nb cb : Nat) (S : Nat → Prop) (w : World) (h : Hid (RwAt w S (.slice A n c) l.records)) (hn : Hid (l.records.length = n)) (hm : Hid (l.many = many)) (hy : Hid (l.synced = sync)) (hs : Hid (sumB l.records ≤ 4194304)) (hb : Hid (BsAt w S (.slice Ab nb cb) b)) (hnb : Hid (b.length = nb)) (hnb2 : nb ≤ 9223372036854775000) : Calls Try.prog 16 #[.agg #[.slice A n c, .int .i64 many, .int .i64 sync], .slice Ab nb cb] w (RetJn (appendT l b) S w) := by
  rcases hok : l.okB with _ | _
  · exact jRAppend_1 l A n c many sync b Ab nb cb S w h hn hm hy hs hb hnb hnb2 (Lib.hid (by rw [appendT, hok]; rfl)) (Lib.hid (Jn.bad hok))
  · obtain ⟨g1, g2, _, _, g5⟩ := l.okB_iff.1 hok
    have hc := Lib.hid (Jn.good hok)
    by_cases hlim : l.many - (usedT l.records : Int) < (secT b.length : Int)
    · exact jRAppend_2 l A n c many sync b Ab nb cb S w h hn hm hy hs hb hnb hnb2 (Lib.hid (by rw [appendT, if_pos hok, if_pos hlim])) hc (by rw [← hm.out]; exact g1) (by rw [← hm.out]; exact g2) (by rw [← hm.out, ← hnb.out]; exact hlim)
    · exact jRAppend_3 l A n c many sync b Ab nb cb S w h hn hm hy hs hb hnb hnb2 (Lib.hid (by rw [appendT, if_pos hok, if_neg hlim, hm.out, hy.out])) hc (by rw [← hm.out]; exact g1) (by rw [← hm.out]; exact g2) (by rw [← hm.out, ← hnb.out]; omega)

end Go.Proofs.Ythlidhfahaalgaa
