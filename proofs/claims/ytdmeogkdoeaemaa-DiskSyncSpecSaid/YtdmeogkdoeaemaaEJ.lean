/-
  The law DiskSyncSpec. (Printed by gen_ed.py.)
-/
import Derived.Test.YtdmeogkdoeaemaaED
import Derived.Test.YtdmeogkdoeaemaaEK
namespace Go.Proofs.Ytdmeogkdoeaemaa
open Go.RowKit
attribute [local go_sem ↓ high] app_named cop_named

set_option maxRecDepth 100000 in
set_option maxHeartbeats 8000000 in
theorem lawS_1 (d : Dk) (As : Option Addr) (ns cs : Nat) (Ap : Option Addr) (np cp : Nat) (dl : Int) (ds : Bool) (w : World) (hD : Hid (DkAt w (Out []) (.slice As ns cs) (.slice Ap np cp) d)) (hd : DkIs d dl ds) (hsm : Hid d.small) (k : Int) (hf : Hid (fewB d = false)) : Calls Try.prog 5 #[.agg #[.slice As ns cs, .slice Ap np cp, .int .i64 dl, .bool ds], .int .i64 k] w (fun e w' => e = .returned (.bool true) ∧ Below w.heap.size w w') := by
  have hd := Lib.hid hd
  have hB := Below.refl w.heap.size w
  go_enter Try.func5, Try.ntmps5
  go_wp2_with fail
  have hst := ((Below.refl w.heap.size w).alloc (by simp <;> omega) (.cells #[.slice As ns cs, .slice Ap np cp, .int .i64 dl, .bool ds] 25))
  have hBo := hB
  have hD := dk_later hD hst
  have hB := hB.trans (hst.mono hB.size)
  have X0 := (Box.newAt (w := w) (n := w.heap.size) [.slice As ns cs, .slice Ap np cp, .int .i64 dl, .bool ds] 25 (by simp))
  clear hst
  generalize (w.alloc (.cells #[.slice As ns cs, .slice Ap np cp, .int .i64 dl, .bool ds] 25)) = w1 at hB  X0 hD ⊢
  generalize w.heap.size = X0a at X0 ⊢
  refine (dSane_any _).mono ?_
  rintro e w2 ⟨rfl, hb⟩
  have X0 := X0.later hb
  have hD := dk_later hD hb
  have hB := hB.trans (hb.mono hB.size)
  clear hb
  have X0c0 : w2.cell? ⟨X0a, 0, none⟩ = some (.slice As ns cs) := X0.cell 0
  have X0c1 : w2.cell? ⟨X0a, 1, none⟩ = some (.slice Ap np cp) := X0.cell 1
  have X0c2 : w2.cell? ⟨X0a, 2, none⟩ = some (.int .i64 dl) := X0.cell 2
  have X0c3 : w2.cell? ⟨X0a, 3, none⟩ = some (.bool ds) := X0.cell 3
  have X0z : X0a < w2.heap.size := X0.lt
  go_wp2_with fail
  clear X0c0 X0c1 X0c2 X0c3 X0z
  refine (dFew_is hD hd.out hsm hf).mono ?_
  rintro e w3 ⟨rfl, hb⟩
  have X0 := X0.later hb
  have hD := dk_later hD hb
  have hB := hB.trans (hb.mono hB.size)
  clear hb
  go_wp2
  go_ret
  exact ⟨rfl, hB⟩

set_option maxRecDepth 100000 in
set_option maxHeartbeats 8000000 in
theorem lawS_2 (d : Dk) (As : Option Addr) (ns cs : Nat) (Ap : Option Addr) (np cp : Nat) (dl : Int) (ds : Bool) (w : World) (hD : Hid (DkAt w (Out []) (.slice As ns cs) (.slice Ap np cp) d)) (hd : DkIs d dl ds) (hsm : Hid d.small) (k : Int) (hf : Hid (fewB d = true)) : Calls Try.prog 5 #[.agg #[.slice As ns cs, .slice Ap np cp, .int .i64 dl, .bool ds], .int .i64 k] w (fun e w' => e = .returned (.bool true) ∧ Below w.heap.size w w') := by
  have hd := Lib.hid hd
  have hB := Below.refl w.heap.size w
  go_enter Try.func5, Try.ntmps5
  go_wp2_with fail
  have hst := ((Below.refl w.heap.size w).alloc (by simp <;> omega) (.cells #[.slice As ns cs, .slice Ap np cp, .int .i64 dl, .bool ds] 25))
  have hBo := hB
  have hD := dk_later hD hst
  have hB := hB.trans (hst.mono hB.size)
  have X0 := (Box.newAt (w := w) (n := w.heap.size) [.slice As ns cs, .slice Ap np cp, .int .i64 dl, .bool ds] 25 (by simp))
  clear hst
  generalize (w.alloc (.cells #[.slice As ns cs, .slice Ap np cp, .int .i64 dl, .bool ds] 25)) = w1 at hB  X0 hD ⊢
  generalize w.heap.size = X0a at X0 ⊢
  refine (dSane_any _).mono ?_
  rintro e w2 ⟨rfl, hb⟩
  have X0 := X0.later hb
  have hD := dk_later hD hb
  have hB := hB.trans (hb.mono hB.size)
  clear hb
  have X0c0 : w2.cell? ⟨X0a, 0, none⟩ = some (.slice As ns cs) := X0.cell 0
  have X0c1 : w2.cell? ⟨X0a, 1, none⟩ = some (.slice Ap np cp) := X0.cell 1
  have X0c2 : w2.cell? ⟨X0a, 2, none⟩ = some (.int .i64 dl) := X0.cell 2
  have X0c3 : w2.cell? ⟨X0a, 3, none⟩ = some (.bool ds) := X0.cell 3
  have X0z : X0a < w2.heap.size := X0.lt
  go_wp2_with fail
  clear X0c0 X0c1 X0c2 X0c3 X0z
  refine (dFew_is hD hd.out hsm hf).mono ?_
  rintro e w3 ⟨rfl, hb⟩
  have X0 := X0.later hb
  have hD := dk_later hD hb
  have hB := hB.trans (hb.mono hB.size)
  clear hb
  obtain ⟨⟨m1, er1⟩, h1⟩ : ∃ p, syncT d = p := ⟨_, rfl⟩
  obtain ⟨s1, hs1⟩ : ∃ k, m1.sectors.length = k := ⟨_, rfl⟩
  obtain ⟨n1, hp1⟩ : ∃ k, m1.pending.length = k := ⟨_, rfl⟩
  obtain ⟨l1, hl1⟩ : ∃ k, m1.left = k := ⟨_, rfl⟩
  obtain ⟨t1, ht1⟩ : ∃ k, m1.stopped = k := ⟨_, rfl⟩
  have hi1 := Lib.hid (DkIs.mk hl1 ht1)
  replace h1 := Lib.hid h1
  replace hs1 := Lib.hid hs1
  replace hp1 := Lib.hid hp1
  replace hl1 := Lib.hid hl1
  replace ht1 := Lib.hid ht1
  have X0c0 : w3.cell? ⟨X0a, 0, none⟩ = some (.slice As ns cs) := X0.cell 0
  have X0c1 : w3.cell? ⟨X0a, 1, none⟩ = some (.slice Ap np cp) := X0.cell 1
  have X0c2 : w3.cell? ⟨X0a, 2, none⟩ = some (.int .i64 dl) := X0.cell 2
  have X0c3 : w3.cell? ⟨X0a, 3, none⟩ = some (.bool ds) := X0.cell 3
  have X0z : X0a < w3.heap.size := X0.lt
  go_wp2_with fail
  clear X0c0 X0c1 X0c2 X0c3 X0z
  refine (dSync_at hD hd.out).mono ?_
  rintro e w4 hh
  obtain ⟨A1a, c1a, P1a, q1a, rfl, D1a, hb⟩ := RetDk.is hh (InW.nil _) h1 hs1 hp1 hl1 ht1
  have X0 := X0.later hb
  have hD := dk_later hD hb
  have hB := hB.trans (hb.mono hB.size)
  clear hb
  have X0c0 : w4.cell? ⟨X0a, 0, none⟩ = some (.slice As ns cs) := X0.cell 0
  have X0c1 : w4.cell? ⟨X0a, 1, none⟩ = some (.slice Ap np cp) := X0.cell 1
  have X0c2 : w4.cell? ⟨X0a, 2, none⟩ = some (.int .i64 dl) := X0.cell 2
  have X0c3 : w4.cell? ⟨X0a, 3, none⟩ = some (.bool ds) := X0.cell 3
  have X0z : X0a < w4.heap.size := X0.lt
  go_wp2_with fail
  clear X0c0 X0c1 X0c2 X0c3 X0z
  have hst := ((Below.refl w4.heap.size w4).alloc (by simp <;> omega) (.cells #[.slice A1a s1 c1a, .slice P1a n1 q1a, .int .i64 l1, .bool t1] 25))
  have hBo := hB
  have X0o := X0
  have X0 := X0.later hst
  have hD := dk_later hD hst
  have D1a := dk_later D1a hst
  have hB := hB.trans (hst.mono hB.size)
  have Y1a := (Box.newAt (w := w4) (n := w4.heap.size) [.slice A1a s1 c1a, .slice P1a n1 q1a, .int .i64 l1, .bool t1] 25 (by simp))
  clear hst
  generalize (w4.alloc (.cells #[.slice A1a s1 c1a, .slice P1a n1 q1a, .int .i64 l1, .bool t1] 25)) = w5 at hB X0 Y1a hD D1a ⊢
  generalize w4.heap.size = Y1aa at Y1a ⊢
  refine (dRSync_at hD hd.out).mono ?_
  rintro e w6 hh
  obtain ⟨A1b, c1b, P1b, q1b, rfl, D1b, hb⟩ := RetDk.is hh (InW.nil _) h1 hs1 hp1 hl1 ht1
  have X0 := X0.later hb
  have Y1a := Y1a.later hb
  have hD := dk_later hD hb
  have D1a := dk_later D1a hb
  have hB := hB.trans (hb.mono hB.size)
  clear hb
  obtain ⟨⟨m2, er2⟩, h2⟩ : ∃ p, stopT d k = p := ⟨_, rfl⟩
  obtain ⟨s2, hs2⟩ : ∃ k, m2.sectors.length = k := ⟨_, rfl⟩
  obtain ⟨n2, hp2⟩ : ∃ k, m2.pending.length = k := ⟨_, rfl⟩
  obtain ⟨l2, hl2⟩ : ∃ k, m2.left = k := ⟨_, rfl⟩
  obtain ⟨t2, ht2⟩ : ∃ k, m2.stopped = k := ⟨_, rfl⟩
  have hi2 := Lib.hid (DkIs.mk hl2 ht2)
  replace h2 := Lib.hid h2
  replace hs2 := Lib.hid hs2
  replace hp2 := Lib.hid hp2
  replace hl2 := Lib.hid hl2
  replace ht2 := Lib.hid ht2
  have X0c0 : w6.cell? ⟨X0a, 0, none⟩ = some (.slice As ns cs) := X0.cell 0
  have X0c1 : w6.cell? ⟨X0a, 1, none⟩ = some (.slice Ap np cp) := X0.cell 1
  have X0c2 : w6.cell? ⟨X0a, 2, none⟩ = some (.int .i64 dl) := X0.cell 2
  have X0c3 : w6.cell? ⟨X0a, 3, none⟩ = some (.bool ds) := X0.cell 3
  have X0z : X0a < w6.heap.size := X0.lt
  go_wp2_with fail
  clear X0c0 X0c1 X0c2 X0c3 X0z
  have hst := ((Below.refl w6.heap.size w6).alloc (by simp <;> omega) (.cells #[.slice A1b s1 c1b, .slice P1b n1 q1b, .int .i64 l1, .bool t1] 25))
  have hBo := hB
  have X0o := X0
  have X0 := X0.later hst
  have Y1ao := Y1a
  have Y1a := Y1a.later hst
  have hD := dk_later hD hst
  have D1a := dk_later D1a hst
  have D1b := dk_later D1b hst
  have hB := hB.trans (hst.mono hB.size)
  have Y1b := (Box.newAt (w := w6) (n := w6.heap.size) [.slice A1b s1 c1b, .slice P1b n1 q1b, .int .i64 l1, .bool t1] 25 (by simp))
  clear hst
  generalize (w6.alloc (.cells #[.slice A1b s1 c1b, .slice P1b n1 q1b, .int .i64 l1, .bool t1] 25)) = w7 at hB X0 Y1a Y1b hD D1a D1b ⊢
  generalize w6.heap.size = Y1ba at Y1b ⊢
  refine (dStop_at k hD hd.out).mono ?_
  rintro e w8 hh
  obtain ⟨A2a, c2a, P2a, q2a, rfl, D2a, hb⟩ := RetDk.is hh (InW.nil _) h2 hs2 hp2 hl2 ht2
  have X0 := X0.later hb
  have Y1a := Y1a.later hb
  have Y1b := Y1b.later hb
  have hD := dk_later hD hb
  have D1a := dk_later D1a hb
  have D1b := dk_later D1b hb
  have hB := hB.trans (hb.mono hB.size)
  clear hb
  have X0c0 : w8.cell? ⟨X0a, 0, none⟩ = some (.slice As ns cs) := X0.cell 0
  have X0c1 : w8.cell? ⟨X0a, 1, none⟩ = some (.slice Ap np cp) := X0.cell 1
  have X0c2 : w8.cell? ⟨X0a, 2, none⟩ = some (.int .i64 dl) := X0.cell 2
  have X0c3 : w8.cell? ⟨X0a, 3, none⟩ = some (.bool ds) := X0.cell 3
  have X0z : X0a < w8.heap.size := X0.lt
  go_wp2_with fail
  clear X0c0 X0c1 X0c2 X0c3 X0z
  have hst := ((Below.refl w8.heap.size w8).alloc (by simp <;> omega) (.cells #[.slice A2a s2 c2a, .slice P2a n2 q2a, .int .i64 l2, .bool t2] 25))
  have hBo := hB
  have X0o := X0
  have X0 := X0.later hst
  have Y1ao := Y1a
  have Y1a := Y1a.later hst
  have Y1bo := Y1b
  have Y1b := Y1b.later hst
  have hD := dk_later hD hst
  have D1a := dk_later D1a hst
  have D1b := dk_later D1b hst
  have D2a := dk_later D2a hst
  have hB := hB.trans (hst.mono hB.size)
  have Y2a := (Box.newAt (w := w8) (n := w8.heap.size) [.slice A2a s2 c2a, .slice P2a n2 q2a, .int .i64 l2, .bool t2] 25 (by simp))
  clear hst
  generalize (w8.alloc (.cells #[.slice A2a s2 c2a, .slice P2a n2 q2a, .int .i64 l2, .bool t2] 25)) = w9 at hB X0 Y1a Y1b Y2a hD D1a D1b D2a ⊢
  generalize w8.heap.size = Y2aa at Y2a ⊢
  refine (dRStop_at k hD hd.out).mono ?_
  rintro e w10 hh
  obtain ⟨A2b, c2b, P2b, q2b, rfl, D2b, hb⟩ := RetDk.is hh (InW.nil _) h2 hs2 hp2 hl2 ht2
  have X0 := X0.later hb
  have Y1a := Y1a.later hb
  have Y1b := Y1b.later hb
  have Y2a := Y2a.later hb
  have hD := dk_later hD hb
  have D1a := dk_later D1a hb
  have D1b := dk_later D1b hb
  have D2a := dk_later D2a hb
  have hB := hB.trans (hb.mono hB.size)
  clear hb
  have Y1ac0 : w10.cell? ⟨Y1aa, 0, none⟩ = some (.slice A1a s1 c1a) := Y1a.cell 0
  have Y1ac1 : w10.cell? ⟨Y1aa, 1, none⟩ = some (.slice P1a n1 q1a) := Y1a.cell 1
  have Y1ac2 : w10.cell? ⟨Y1aa, 2, none⟩ = some (.int .i64 l1) := Y1a.cell 2
  have Y1ac3 : w10.cell? ⟨Y1aa, 3, none⟩ = some (.bool t1) := Y1a.cell 3
  have Y1az : Y1aa < w10.heap.size := Y1a.lt
  have Y1bc0 : w10.cell? ⟨Y1ba, 0, none⟩ = some (.slice A1b s1 c1b) := Y1b.cell 0
  have Y1bc1 : w10.cell? ⟨Y1ba, 1, none⟩ = some (.slice P1b n1 q1b) := Y1b.cell 1
  have Y1bc2 : w10.cell? ⟨Y1ba, 2, none⟩ = some (.int .i64 l1) := Y1b.cell 2
  have Y1bc3 : w10.cell? ⟨Y1ba, 3, none⟩ = some (.bool t1) := Y1b.cell 3
  have Y1bz : Y1ba < w10.heap.size := Y1b.lt
  go_wp2_with fail
  clear Y1ac0 Y1ac1 Y1ac2 Y1ac3 Y1az Y1bc0 Y1bc1 Y1bc2 Y1bc3 Y1bz
  have hst := ((Below.refl w10.heap.size w10).alloc (by simp <;> omega) (.cells #[.slice A2b s2 c2b, .slice P2b n2 q2b, .int .i64 l2, .bool t2] 25))
  have hBo := hB
  have X0o := X0
  have X0 := X0.later hst
  have Y1ao := Y1a
  have Y1a := Y1a.later hst
  have Y1bo := Y1b
  have Y1b := Y1b.later hst
  have Y2ao := Y2a
  have Y2a := Y2a.later hst
  have hD := dk_later hD hst
  have D1a := dk_later D1a hst
  have D1b := dk_later D1b hst
  have D2a := dk_later D2a hst
  have D2b := dk_later D2b hst
  have hB := hB.trans (hst.mono hB.size)
  have Y2b := (Box.newAt (w := w10) (n := w10.heap.size) [.slice A2b s2 c2b, .slice P2b n2 q2b, .int .i64 l2, .bool t2] 25 (by simp))
  clear hst
  generalize (w10.alloc (.cells #[.slice A2b s2 c2b, .slice P2b n2 q2b, .int .i64 l2, .bool t2] 25)) = w11 at hB X0 Y1a Y1b Y2a Y2b hD D1a D1b D2a D2b ⊢
  generalize w10.heap.size = Y2ba at Y2b ⊢
  refine (dSame_is D1a D1b hi1.out hi1.out (Lib.hid (sameD_refl _))).mono ?_
  rintro e w12 ⟨rfl, hb⟩
  have X0 := X0.later hb
  have Y1a := Y1a.later hb
  have Y1b := Y1b.later hb
  have Y2a := Y2a.later hb
  have Y2b := Y2b.later hb
  have hD := dk_later hD hb
  have D1a := dk_later D1a hb
  have D1b := dk_later D1b hb
  have D2a := dk_later D2a hb
  have D2b := dk_later D2b hb
  have hB := hB.trans (hb.mono hB.size)
  clear hb
  have Y2ac0 : w12.cell? ⟨Y2aa, 0, none⟩ = some (.slice A2a s2 c2a) := Y2a.cell 0
  have Y2ac1 : w12.cell? ⟨Y2aa, 1, none⟩ = some (.slice P2a n2 q2a) := Y2a.cell 1
  have Y2ac2 : w12.cell? ⟨Y2aa, 2, none⟩ = some (.int .i64 l2) := Y2a.cell 2
  have Y2ac3 : w12.cell? ⟨Y2aa, 3, none⟩ = some (.bool t2) := Y2a.cell 3
  have Y2az : Y2aa < w12.heap.size := Y2a.lt
  have Y2bc0 : w12.cell? ⟨Y2ba, 0, none⟩ = some (.slice A2b s2 c2b) := Y2b.cell 0
  have Y2bc1 : w12.cell? ⟨Y2ba, 1, none⟩ = some (.slice P2b n2 q2b) := Y2b.cell 1
  have Y2bc2 : w12.cell? ⟨Y2ba, 2, none⟩ = some (.int .i64 l2) := Y2b.cell 2
  have Y2bc3 : w12.cell? ⟨Y2ba, 3, none⟩ = some (.bool t2) := Y2b.cell 3
  have Y2bz : Y2ba < w12.heap.size := Y2b.lt
  go_wp2_with fail
  clear Y2ac0 Y2ac1 Y2ac2 Y2ac3 Y2az Y2bc0 Y2bc1 Y2bc2 Y2bc3 Y2bz
  refine (dSame_is D2a D2b hi2.out hi2.out (Lib.hid (sameD_refl _))).mono ?_
  rintro e w13 ⟨rfl, hb⟩
  have X0 := X0.later hb
  have Y1a := Y1a.later hb
  have Y1b := Y1b.later hb
  have Y2a := Y2a.later hb
  have Y2b := Y2b.later hb
  have hD := dk_later hD hb
  have D1a := dk_later D1a hb
  have D1b := dk_later D1b hb
  have D2a := dk_later D2a hb
  have D2b := dk_later D2b hb
  have hB := hB.trans (hb.mono hB.size)
  clear hb
  go_wp2
  go_ret
  exact ⟨by first | rfl | simp, hB⟩

theorem law_DiskSyncSpec (d : Dk) (Vs Vp : Value) (k : Int) (w : World) (hD : DkAt w (fun b => b < w.heap.size) Vs Vp d) (hsm : d.small) :
    Calls Try.prog 5 #[.agg #[Vs, Vp, .int .i64 d.left, .bool d.stopped], .int .i64 k] w fun e w' => e = .returned (.bool true) ∧ Below w.heap.size w w' := by
  obtain ⟨As, cs, rfl, _⟩ := hD.sectors.form
  obtain ⟨Ap, cp, rfl, _⟩ := hD.pending.form
  rcases hf : fewB d with _ | _
  · exact lawS_1 d As _ cs Ap _ cp _ _ w (live_out hD) ⟨rfl, rfl⟩ hsm k hf
  · exact lawS_2 d As _ cs Ap _ cp _ _ w (live_out hD) ⟨rfl, rfl⟩ hsm k hf

end Go.Proofs.Ytdmeogkdoeaemaa
