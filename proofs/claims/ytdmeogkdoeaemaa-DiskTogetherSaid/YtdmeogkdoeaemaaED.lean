/-
  The laws DiskNewSpec, DiskWriteSpec and DiskSyncSpec. (Printed by gen_ed.py.)
-/
import Derived.Test.YtdmeogkdoeaemaaEG
namespace Go.Proofs.Ytdmeogkdoeaemaa
open Go.RowKit
attribute [local go_sem ↓ high] app_named cop_named

theorem live_out {w : World} {Vs Vp : Value} {d : Dk} (h : DkAt w (fun b => b < w.heap.size) Vs Vp d) : Hid (DkAt w (Out []) Vs Vp d) := Lib.hid (h.weak fun b _ _ hc => by cases hc)
theorem live_bs {w : World} {V : Value} {b : Bs} (h : BsAt w (fun b => b < w.heap.size) V b) : Hid (BsAt w (Out []) V b) := Lib.hid (h.weak fun b _ _ hc => by cases hc)
theorem dk_start {w : World} {L : List Nat} {Vs Vp : Value} {d : Dk} (h : Hid (DkAt w (Out L) Vs Vp d)) (o : Obj) : Hid (DkAt (w.alloc o) (Out L) Vs Vp d) := dk_later h ((Below.refl _ _).alloc (Nat.le_refl _) o)
theorem bs_start {w : World} {L : List Nat} {V : Value} {b : Bs} (h : Hid (BsAt w (Out L) V b)) (o : Obj) : Hid (BsAt (w.alloc o) (Out L) V b) := bs_later h ((Below.refl _ _).alloc (Nat.le_refl _) o)

set_option maxRecDepth 100000 in
set_option maxHeartbeats 8000000 in
theorem lawW_1 (d : Dk) (As : Option Addr) (ns cs : Nat) (Ap : Option Addr) (np cp : Nat) (dl : Int) (ds : Bool) (w : World) (hD : Hid (DkAt w (Out []) (.slice As ns cs) (.slice Ap np cp) d)) (hd : DkIs d dl ds) (hsm : Hid d.small) (i : Int) (Ab : Option Addr) (nb cb : Nat) (b : Bs) (hb0 : Hid (BsAt w (Out []) (.slice Ab nb cb) b)) (hf : Hid (fewB d = false)) : Calls Try.prog 4 #[.agg #[.slice As ns cs, .slice Ap np cp, .int .i64 dl, .bool ds], .int .i64 i, .slice Ab nb cb] w (fun e w' => e = .returned (.bool true) ∧ Below w.heap.size w w') := by
  have hd := Lib.hid hd
  have hB := Below.refl w.heap.size w
  go_enter Try.func4, Try.ntmps4
  go_wp2_with fail
  have hst := ((Below.refl w.heap.size w).alloc (by simp <;> omega) (.cells #[.slice As ns cs, .slice Ap np cp, .int .i64 dl, .bool ds] 25))
  have hBo := hB
  have hD := dk_later hD hst
  have hb0 := bs_later hb0 hst
  have hB := hB.trans (hst.mono hB.size)
  have X0 := (Box.newAt (w := w) (n := w.heap.size) [.slice As ns cs, .slice Ap np cp, .int .i64 dl, .bool ds] 25 (by simp))
  clear hst
  generalize (w.alloc (.cells #[.slice As ns cs, .slice Ap np cp, .int .i64 dl, .bool ds] 25)) = w1 at hB  X0 hD hb0 ⊢
  generalize w.heap.size = X0a at X0 ⊢
  refine (dSane_any _).mono ?_
  rintro e w2 ⟨rfl, hb⟩
  have X0 := X0.later hb
  have hD := dk_later hD hb
  have hb0 := bs_later hb0 hb
  have hB := hB.trans (hb.mono hB.size)
  clear hb
  have X0c0 : w2.cell? ⟨X0a, 0, none⟩ = some (.slice As ns cs) := X0.cell 0
  have X0c1 : w2.cell? ⟨X0a, 1, none⟩ = some (.slice Ap np cp) := X0.cell 1
  have X0c2 : w2.cell? ⟨X0a, 2, none⟩ = some (.int .i64 dl) := X0.cell 2
  have X0c3 : w2.cell? ⟨X0a, 3, none⟩ = some (.bool ds) := X0.cell 3
  have X0z : X0a < w2.heap.size := X0.lt
  go_wp2_with fail
  clear X0c0 X0c1 X0c2 X0c3 X0z
  refine (dFew_is hD hd.out hsm hf).mono ?_
  rintro e w3 ⟨rfl, hb⟩
  have X0 := X0.later hb
  have hD := dk_later hD hb
  have hb0 := bs_later hb0 hb
  have hB := hB.trans (hb.mono hB.size)
  clear hb
  go_wp2
  go_ret
  exact ⟨rfl, hB⟩

set_option maxRecDepth 100000 in
set_option maxHeartbeats 8000000 in
theorem lawW_2 (d : Dk) (As : Option Addr) (ns cs : Nat) (Ap : Option Addr) (np cp : Nat) (dl : Int) (ds : Bool) (w : World) (hD : Hid (DkAt w (Out []) (.slice As ns cs) (.slice Ap np cp) d)) (hd : DkIs d dl ds) (hsm : Hid d.small) (i : Int) (Ab : Option Addr) (nb cb : Nat) (b : Bs) (hb0 : Hid (BsAt w (Out []) (.slice Ab nb cb) b)) (hf : Hid (fewB d = true)) (hl : 1000 < nb) (hl2 : nb ≤ 9223372036854775807) : Calls Try.prog 4 #[.agg #[.slice As ns cs, .slice Ap np cp, .int .i64 dl, .bool ds], .int .i64 i, .slice Ab nb cb] w (fun e w' => e = .returned (.bool true) ∧ Below w.heap.size w w') := by
  have hd := Lib.hid hd
  have hB := Below.refl w.heap.size w
  go_enter Try.func4, Try.ntmps4
  go_wp2_with fail
  have hst := ((Below.refl w.heap.size w).alloc (by simp <;> omega) (.cells #[.slice As ns cs, .slice Ap np cp, .int .i64 dl, .bool ds] 25))
  have hBo := hB
  have hD := dk_later hD hst
  have hb0 := bs_later hb0 hst
  have hB := hB.trans (hst.mono hB.size)
  have X0 := (Box.newAt (w := w) (n := w.heap.size) [.slice As ns cs, .slice Ap np cp, .int .i64 dl, .bool ds] 25 (by simp))
  clear hst
  generalize (w.alloc (.cells #[.slice As ns cs, .slice Ap np cp, .int .i64 dl, .bool ds] 25)) = w1 at hB  X0 hD hb0 ⊢
  generalize w.heap.size = X0a at X0 ⊢
  refine (dSane_any _).mono ?_
  rintro e w2 ⟨rfl, hb⟩
  have X0 := X0.later hb
  have hD := dk_later hD hb
  have hb0 := bs_later hb0 hb
  have hB := hB.trans (hb.mono hB.size)
  clear hb
  have X0c0 : w2.cell? ⟨X0a, 0, none⟩ = some (.slice As ns cs) := X0.cell 0
  have X0c1 : w2.cell? ⟨X0a, 1, none⟩ = some (.slice Ap np cp) := X0.cell 1
  have X0c2 : w2.cell? ⟨X0a, 2, none⟩ = some (.int .i64 dl) := X0.cell 2
  have X0c3 : w2.cell? ⟨X0a, 3, none⟩ = some (.bool ds) := X0.cell 3
  have X0z : X0a < w2.heap.size := X0.lt
  go_wp2_with fail
  clear X0c0 X0c1 X0c2 X0c3 X0z
  refine (dFew_is hD hd.out hsm hf).mono ?_
  rintro e w3 ⟨rfl, hb⟩
  have X0 := X0.later hb
  have hD := dk_later hD hb
  have hb0 := bs_later hb0 hb
  have hB := hB.trans (hb.mono hB.size)
  clear hb
  go_wp2
  go_ret
  exact ⟨rfl, hB⟩

set_option maxRecDepth 100000 in
set_option maxHeartbeats 8000000 in
theorem lawW_3 (d : Dk) (As : Option Addr) (ns cs : Nat) (Ap : Option Addr) (np cp : Nat) (dl : Int) (ds : Bool) (w : World) (hD : Hid (DkAt w (Out []) (.slice As ns cs) (.slice Ap np cp) d)) (hd : DkIs d dl ds) (hsm : Hid d.small) (i : Int) (Ab : Option Addr) (nb cb : Nat) (b : Bs) (hb0 : Hid (BsAt w (Out []) (.slice Ab nb cb) b)) (hf : Hid (fewB d = true)) (hl : nb ≤ 1000) : Calls Try.prog 4 #[.agg #[.slice As ns cs, .slice Ap np cp, .int .i64 dl, .bool ds], .int .i64 i, .slice Ab nb cb] w (fun e w' => e = .returned (.bool true) ∧ Below w.heap.size w w') := by
  have hd := Lib.hid hd
  have hB := Below.refl w.heap.size w
  go_enter Try.func4, Try.ntmps4
  go_wp2_with fail
  have hst := ((Below.refl w.heap.size w).alloc (by simp <;> omega) (.cells #[.slice As ns cs, .slice Ap np cp, .int .i64 dl, .bool ds] 25))
  have hBo := hB
  have hD := dk_later hD hst
  have hb0 := bs_later hb0 hst
  have hB := hB.trans (hst.mono hB.size)
  have X0 := (Box.newAt (w := w) (n := w.heap.size) [.slice As ns cs, .slice Ap np cp, .int .i64 dl, .bool ds] 25 (by simp))
  clear hst
  generalize (w.alloc (.cells #[.slice As ns cs, .slice Ap np cp, .int .i64 dl, .bool ds] 25)) = w1 at hB  X0 hD hb0 ⊢
  generalize w.heap.size = X0a at X0 ⊢
  refine (dSane_any _).mono ?_
  rintro e w2 ⟨rfl, hb⟩
  have X0 := X0.later hb
  have hD := dk_later hD hb
  have hb0 := bs_later hb0 hb
  have hB := hB.trans (hb.mono hB.size)
  clear hb
  have X0c0 : w2.cell? ⟨X0a, 0, none⟩ = some (.slice As ns cs) := X0.cell 0
  have X0c1 : w2.cell? ⟨X0a, 1, none⟩ = some (.slice Ap np cp) := X0.cell 1
  have X0c2 : w2.cell? ⟨X0a, 2, none⟩ = some (.int .i64 dl) := X0.cell 2
  have X0c3 : w2.cell? ⟨X0a, 3, none⟩ = some (.bool ds) := X0.cell 3
  have X0z : X0a < w2.heap.size := X0.lt
  go_wp2_with fail
  clear X0c0 X0c1 X0c2 X0c3 X0z
  refine (dFew_is hD hd.out hsm hf).mono ?_
  rintro e w3 ⟨rfl, hb⟩
  have X0 := X0.later hb
  have hD := dk_later hD hb
  have hb0 := bs_later hb0 hb
  have hB := hB.trans (hb.mono hB.size)
  clear hb
  obtain ⟨⟨m1, er1⟩, h1⟩ : ∃ p, writeT d i b = p := ⟨_, rfl⟩
  obtain ⟨s1, hs1⟩ : ∃ k, m1.sectors.length = k := ⟨_, rfl⟩
  obtain ⟨n1, hp1⟩ : ∃ k, m1.pending.length = k := ⟨_, rfl⟩
  obtain ⟨l1, hl1⟩ : ∃ k, m1.left = k := ⟨_, rfl⟩
  obtain ⟨t1, ht1⟩ : ∃ k, m1.stopped = k := ⟨_, rfl⟩
  have hi1 := Lib.hid (DkIs.mk hl1 ht1)
  replace h1 := Lib.hid h1
  replace hs1 := Lib.hid hs1
  replace hp1 := Lib.hid hp1
  replace hl1 := Lib.hid hl1
  replace ht1 := Lib.hid ht1
  have X0c0 : w3.cell? ⟨X0a, 0, none⟩ = some (.slice As ns cs) := X0.cell 0
  have X0c1 : w3.cell? ⟨X0a, 1, none⟩ = some (.slice Ap np cp) := X0.cell 1
  have X0c2 : w3.cell? ⟨X0a, 2, none⟩ = some (.int .i64 dl) := X0.cell 2
  have X0c3 : w3.cell? ⟨X0a, 3, none⟩ = some (.bool ds) := X0.cell 3
  have X0z : X0a < w3.heap.size := X0.lt
  go_wp2_with fail
  clear X0c0 X0c1 X0c2 X0c3 X0z
  refine (dWrite_at i hD hd.out hb0).mono ?_
  rintro e w4 hh
  obtain ⟨A1a, c1a, P1a, q1a, rfl, D1a, hb⟩ := RetDk.is hh (InW.nil _) h1 hs1 hp1 hl1 ht1
  have X0 := X0.later hb
  have hD := dk_later hD hb
  have hb0 := bs_later hb0 hb
  have hB := hB.trans (hb.mono hB.size)
  clear hb
  have X0c0 : w4.cell? ⟨X0a, 0, none⟩ = some (.slice As ns cs) := X0.cell 0
  have X0c1 : w4.cell? ⟨X0a, 1, none⟩ = some (.slice Ap np cp) := X0.cell 1
  have X0c2 : w4.cell? ⟨X0a, 2, none⟩ = some (.int .i64 dl) := X0.cell 2
  have X0c3 : w4.cell? ⟨X0a, 3, none⟩ = some (.bool ds) := X0.cell 3
  have X0z : X0a < w4.heap.size := X0.lt
  go_wp2_with fail
  clear X0c0 X0c1 X0c2 X0c3 X0z
  have hst := ((Below.refl w4.heap.size w4).alloc (by simp <;> omega) (.cells #[.slice A1a s1 c1a, .slice P1a n1 q1a, .int .i64 l1, .bool t1] 25))
  have hBo := hB
  have X0o := X0
  have X0 := X0.later hst
  have hD := dk_later hD hst
  have hb0 := bs_later hb0 hst
  have D1a := dk_later D1a hst
  have hB := hB.trans (hst.mono hB.size)
  have Y1a := (Box.newAt (w := w4) (n := w4.heap.size) [.slice A1a s1 c1a, .slice P1a n1 q1a, .int .i64 l1, .bool t1] 25 (by simp))
  clear hst
  generalize (w4.alloc (.cells #[.slice A1a s1 c1a, .slice P1a n1 q1a, .int .i64 l1, .bool t1] 25)) = w5 at hB X0 Y1a hD hb0 D1a ⊢
  generalize w4.heap.size = Y1aa at Y1a ⊢
  refine (dRWrite_at i hD hd.out hb0).mono ?_
  rintro e w6 hh
  obtain ⟨A1b, c1b, P1b, q1b, rfl, D1b, hb⟩ := RetDk.is hh (InW.nil _) h1 hs1 hp1 hl1 ht1
  have X0 := X0.later hb
  have Y1a := Y1a.later hb
  have hD := dk_later hD hb
  have hb0 := bs_later hb0 hb
  have D1a := dk_later D1a hb
  have hB := hB.trans (hb.mono hB.size)
  clear hb
  obtain ⟨⟨m2, er2⟩, h2⟩ : ∃ p, readT d i = p := ⟨_, rfl⟩
  obtain ⟨n2, hn2⟩ : ∃ k, m2.length = k := ⟨_, rfl⟩
  replace h2 := Lib.hid h2
  replace hn2 := Lib.hid hn2
  have X0c0 : w6.cell? ⟨X0a, 0, none⟩ = some (.slice As ns cs) := X0.cell 0
  have X0c1 : w6.cell? ⟨X0a, 1, none⟩ = some (.slice Ap np cp) := X0.cell 1
  have X0c2 : w6.cell? ⟨X0a, 2, none⟩ = some (.int .i64 dl) := X0.cell 2
  have X0c3 : w6.cell? ⟨X0a, 3, none⟩ = some (.bool ds) := X0.cell 3
  have X0z : X0a < w6.heap.size := X0.lt
  go_wp2_with fail
  clear X0c0 X0c1 X0c2 X0c3 X0z
  have hst := ((Below.refl w6.heap.size w6).alloc (by simp <;> omega) (.cells #[.slice A1b s1 c1b, .slice P1b n1 q1b, .int .i64 l1, .bool t1] 25))
  have hBo := hB
  have X0o := X0
  have X0 := X0.later hst
  have Y1ao := Y1a
  have Y1a := Y1a.later hst
  have hD := dk_later hD hst
  have hb0 := bs_later hb0 hst
  have D1a := dk_later D1a hst
  have D1b := dk_later D1b hst
  have hB := hB.trans (hst.mono hB.size)
  have Y1b := (Box.newAt (w := w6) (n := w6.heap.size) [.slice A1b s1 c1b, .slice P1b n1 q1b, .int .i64 l1, .bool t1] 25 (by simp))
  clear hst
  generalize (w6.alloc (.cells #[.slice A1b s1 c1b, .slice P1b n1 q1b, .int .i64 l1, .bool t1] 25)) = w7 at hB X0 Y1a Y1b hD hb0 D1a D1b ⊢
  generalize w6.heap.size = Y1ba at Y1b ⊢
  refine (dRead_at i hD hd.out).mono ?_
  rintro e w8 hh
  obtain ⟨A2a, c2a, rfl, D2a, hb⟩ := RetBs.is hh (InW.nil _) h2 hn2
  have X0 := X0.later hb
  have Y1a := Y1a.later hb
  have Y1b := Y1b.later hb
  have hD := dk_later hD hb
  have hb0 := bs_later hb0 hb
  have D1a := dk_later D1a hb
  have D1b := dk_later D1b hb
  have hB := hB.trans (hb.mono hB.size)
  clear hb
  have X0c0 : w8.cell? ⟨X0a, 0, none⟩ = some (.slice As ns cs) := X0.cell 0
  have X0c1 : w8.cell? ⟨X0a, 1, none⟩ = some (.slice Ap np cp) := X0.cell 1
  have X0c2 : w8.cell? ⟨X0a, 2, none⟩ = some (.int .i64 dl) := X0.cell 2
  have X0c3 : w8.cell? ⟨X0a, 3, none⟩ = some (.bool ds) := X0.cell 3
  have X0z : X0a < w8.heap.size := X0.lt
  go_wp2_with fail
  clear X0c0 X0c1 X0c2 X0c3 X0z
  refine (dRRead_at i hD hd.out).mono ?_
  rintro e w9 hh
  obtain ⟨A2b, c2b, rfl, D2b, hb⟩ := RetBs.is hh (InW.nil _) h2 hn2
  have X0 := X0.later hb
  have Y1a := Y1a.later hb
  have Y1b := Y1b.later hb
  have hD := dk_later hD hb
  have hb0 := bs_later hb0 hb
  have D1a := dk_later D1a hb
  have D1b := dk_later D1b hb
  have D2a := bs_later D2a hb
  have hB := hB.trans (hb.mono hB.size)
  clear hb
  have Y1ac0 : w9.cell? ⟨Y1aa, 0, none⟩ = some (.slice A1a s1 c1a) := Y1a.cell 0
  have Y1ac1 : w9.cell? ⟨Y1aa, 1, none⟩ = some (.slice P1a n1 q1a) := Y1a.cell 1
  have Y1ac2 : w9.cell? ⟨Y1aa, 2, none⟩ = some (.int .i64 l1) := Y1a.cell 2
  have Y1ac3 : w9.cell? ⟨Y1aa, 3, none⟩ = some (.bool t1) := Y1a.cell 3
  have Y1az : Y1aa < w9.heap.size := Y1a.lt
  have Y1bc0 : w9.cell? ⟨Y1ba, 0, none⟩ = some (.slice A1b s1 c1b) := Y1b.cell 0
  have Y1bc1 : w9.cell? ⟨Y1ba, 1, none⟩ = some (.slice P1b n1 q1b) := Y1b.cell 1
  have Y1bc2 : w9.cell? ⟨Y1ba, 2, none⟩ = some (.int .i64 l1) := Y1b.cell 2
  have Y1bc3 : w9.cell? ⟨Y1ba, 3, none⟩ = some (.bool t1) := Y1b.cell 3
  have Y1bz : Y1ba < w9.heap.size := Y1b.lt
  go_wp2_with fail
  clear Y1ac0 Y1ac1 Y1ac2 Y1ac3 Y1az Y1bc0 Y1bc1 Y1bc2 Y1bc3 Y1bz
  refine (dSame_is D1a D1b hi1.out hi1.out (Lib.hid (sameD_refl _))).mono ?_
  rintro e w10 ⟨rfl, hb⟩
  have X0 := X0.later hb
  have Y1a := Y1a.later hb
  have Y1b := Y1b.later hb
  have hD := dk_later hD hb
  have hb0 := bs_later hb0 hb
  have D1a := dk_later D1a hb
  have D1b := dk_later D1b hb
  have D2a := bs_later D2a hb
  have D2b := bs_later D2b hb
  have hB := hB.trans (hb.mono hB.size)
  clear hb
  have ca := D2a.out.str
  have cb := D2b.out.str
  generalize strB m2 = sb at ca cb
  go_wp2
  go_ret
  exact ⟨by first | rfl | simp, hB⟩

theorem law_DiskWriteSpec (d : Dk) (Vs Vp : Value) (i : Int) (b : Bs) (Vb : Value) (w : World) (hD : DkAt w (fun b => b < w.heap.size) Vs Vp d) (hsm : d.small) (hb : BsAt w (fun b => b < w.heap.size) Vb b) :
    Calls Try.prog 4 #[.agg #[Vs, Vp, .int .i64 d.left, .bool d.stopped], .int .i64 i, Vb] w fun e w' => e = .returned (.bool true) ∧ Below w.heap.size w w' := by
  obtain ⟨As, cs, rfl, _⟩ := hD.sectors.form
  obtain ⟨Ap, cp, rfl, _⟩ := hD.pending.form
  obtain ⟨Ab, cb, rfl, hbm⟩ := hb.form
  unfold maxLen at hbm
  rcases hf : fewB d with _ | _
  · exact lawW_1 d As _ cs Ap _ cp _ _ w (live_out hD) ⟨rfl, rfl⟩ hsm i Ab _ cb b (live_bs hb) hf
  · by_cases hl : b.length ≤ 1000
    · exact lawW_3 d As _ cs Ap _ cp _ _ w (live_out hD) ⟨rfl, rfl⟩ hsm i Ab _ cb b (live_bs hb) hf hl
    · exact lawW_2 d As _ cs Ap _ cp _ _ w (live_out hD) ⟨rfl, rfl⟩ hsm i Ab _ cb b (live_bs hb) hf (by omega) (by omega)

end Go.Proofs.Ytdmeogkdoeaemaa
