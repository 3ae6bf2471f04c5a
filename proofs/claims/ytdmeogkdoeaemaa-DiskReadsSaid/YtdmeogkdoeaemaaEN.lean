/-
  The law DiskReads. (Printed by gen_en.py.)
-/
import Derived.Test.YtdmeogkdoeaemaaEM
import Derived.Test.YtdmeogkdoeaemaaDX
namespace Go.Proofs.Ytdmeogkdoeaemaa
open Go.RowKit
attribute [local go_sem ↓ high] app_named cop_named

set_option maxRecDepth 100000 in
set_option maxHeartbeats 8000000 in
theorem lawR_1 (d : Dk) (As : Option Addr) (ns cs : Nat) (Ap : Option Addr) (np cp : Nat) (dl : Int) (ds : Bool) (w : World) (hD : Hid (DkAt w (Out []) (.slice As ns cs) (.slice Ap np cp) d)) (hd : Hid (DkIs d dl ds)) (hsm : Hid d.small) (i o : Int) (Ab : Option Addr) (nb cb : Nat) (b : Bs) (hb0 : Hid (BsAt w (Out []) (.slice Ab nb cb) b)) (Ac : Option Addr) (nc cc : Nat) (c : Bs) (hc0 : Hid (BsAt w (Out []) (.slice Ac nc cc) c)) (hf : Hid (fewB d = false)) : Calls Try.prog 7 #[.agg #[.slice As ns cs, .slice Ap np cp, .int .i64 dl, .bool ds], .int .i64 i, .int .i64 o, .slice Ab nb cb, .slice Ac nc cc] w (fun e w' => e = .returned (.bool true) ∧ Below w.heap.size w w') := by
  have hB := Below.refl w.heap.size w
  have hL := InW.nil w
  go_enter Try.func7, Try.ntmps7
  go_wp2_with fail
  have hst := (Below.refl w.heap.size w).alloc (Nat.le_refl _) (.cells #[.slice As ns cs, .slice Ap np cp, .int .i64 dl, .bool ds] 25)
  replace hD := dk_later hD hst
  replace hb0 := bs_later hb0 hst
  replace hc0 := bs_later hc0 hst
  replace hL := hL.later hst.size
  replace hB := hB.trans (hst.mono hB.size)
  have X0 := Box.new w [.slice As ns cs, .slice Ap np cp, .int .i64 dl, .bool ds] 25
  have hzX0 : Hid ((w.alloc (.cells #[.slice As ns cs, .slice Ap np cp, .int .i64 dl, .bool ds] 25)).heap.size = w.heap.size + 1) := Lib.hid (by simp)
  clear hst
  generalize w.alloc (.cells #[.slice As ns cs, .slice Ap np cp, .int .i64 dl, .bool ds] 25) = w1 at hB hL hzX0 X0 hD hb0 hc0 ⊢
  generalize hga : w.heap.size = X0a at hzX0 X0 ⊢
  clear hga
  refine (dSane_any _).mono ?_
  rintro e w2 ⟨rfl, hb⟩
  replace X0 := X0.later hb
  replace hD := dk_later hD hb
  replace hb0 := bs_later hb0 hb
  replace hc0 := bs_later hc0 hb
  replace hB := hB.trans (hb.mono hB.size)
  replace hL := hL.later hb.size
  clear hb
  clear hzX0
  have X0c0 : w2.cell? ⟨X0a, 0, none⟩ = some (.slice As ns cs) := X0.cell 0
  have X0c1 : w2.cell? ⟨X0a, 1, none⟩ = some (.slice Ap np cp) := X0.cell 1
  have X0c2 : w2.cell? ⟨X0a, 2, none⟩ = some (.int .i64 dl) := X0.cell 2
  have X0c3 : w2.cell? ⟨X0a, 3, none⟩ = some (.bool ds) := X0.cell 3
  have X0z : X0a < w2.heap.size := X0.lt
  go_wp2_with fail
  clear X0c0 X0c1 X0c2 X0c3 X0z
  refine (dFew_is hD hd.out hsm hf).mono ?_
  rintro e w3 ⟨rfl, hb⟩
  replace X0 := X0.later hb
  replace hD := dk_later hD hb
  replace hb0 := bs_later hb0 hb
  replace hc0 := bs_later hc0 hb
  replace hB := hB.trans (hb.mono hB.size)
  replace hL := hL.later hb.size
  clear hb
  go_wp2
  go_ret
  exact ⟨rfl, hB⟩

set_option maxRecDepth 100000 in
set_option maxHeartbeats 8000000 in
theorem lawR_2 (d : Dk) (As : Option Addr) (ns cs : Nat) (Ap : Option Addr) (np cp : Nat) (dl : Int) (ds : Bool) (w : World) (hD : Hid (DkAt w (Out []) (.slice As ns cs) (.slice Ap np cp) d)) (hd : Hid (DkIs d dl ds)) (hsm : Hid d.small) (i o : Int) (Ab : Option Addr) (nb cb : Nat) (b : Bs) (hb0 : Hid (BsAt w (Out []) (.slice Ab nb cb) b)) (Ac : Option Addr) (nc cc : Nat) (c : Bs) (hc0 : Hid (BsAt w (Out []) (.slice Ac nc cc) c)) (hf : Hid (fewB d = true)) (hl : 128 < nb) (hl2 : nb ≤ 9223372036854775807) : Calls Try.prog 7 #[.agg #[.slice As ns cs, .slice Ap np cp, .int .i64 dl, .bool ds], .int .i64 i, .int .i64 o, .slice Ab nb cb, .slice Ac nc cc] w (fun e w' => e = .returned (.bool true) ∧ Below w.heap.size w w') := by
  have hB := Below.refl w.heap.size w
  have hL := InW.nil w
  go_enter Try.func7, Try.ntmps7
  go_wp2_with fail
  have hst := (Below.refl w.heap.size w).alloc (Nat.le_refl _) (.cells #[.slice As ns cs, .slice Ap np cp, .int .i64 dl, .bool ds] 25)
  replace hD := dk_later hD hst
  replace hb0 := bs_later hb0 hst
  replace hc0 := bs_later hc0 hst
  replace hL := hL.later hst.size
  replace hB := hB.trans (hst.mono hB.size)
  have X0 := Box.new w [.slice As ns cs, .slice Ap np cp, .int .i64 dl, .bool ds] 25
  have hzX0 : Hid ((w.alloc (.cells #[.slice As ns cs, .slice Ap np cp, .int .i64 dl, .bool ds] 25)).heap.size = w.heap.size + 1) := Lib.hid (by simp)
  clear hst
  generalize w.alloc (.cells #[.slice As ns cs, .slice Ap np cp, .int .i64 dl, .bool ds] 25) = w1 at hB hL hzX0 X0 hD hb0 hc0 ⊢
  generalize hga : w.heap.size = X0a at hzX0 X0 ⊢
  clear hga
  refine (dSane_any _).mono ?_
  rintro e w2 ⟨rfl, hb⟩
  replace X0 := X0.later hb
  replace hD := dk_later hD hb
  replace hb0 := bs_later hb0 hb
  replace hc0 := bs_later hc0 hb
  replace hB := hB.trans (hb.mono hB.size)
  replace hL := hL.later hb.size
  clear hb
  clear hzX0
  have X0c0 : w2.cell? ⟨X0a, 0, none⟩ = some (.slice As ns cs) := X0.cell 0
  have X0c1 : w2.cell? ⟨X0a, 1, none⟩ = some (.slice Ap np cp) := X0.cell 1
  have X0c2 : w2.cell? ⟨X0a, 2, none⟩ = some (.int .i64 dl) := X0.cell 2
  have X0c3 : w2.cell? ⟨X0a, 3, none⟩ = some (.bool ds) := X0.cell 3
  have X0z : X0a < w2.heap.size := X0.lt
  go_wp2_with fail
  clear X0c0 X0c1 X0c2 X0c3 X0z
  refine (dFew_is hD hd.out hsm hf).mono ?_
  rintro e w3 ⟨rfl, hb⟩
  replace X0 := X0.later hb
  replace hD := dk_later hD hb
  replace hb0 := bs_later hb0 hb
  replace hc0 := bs_later hc0 hb
  replace hB := hB.trans (hb.mono hB.size)
  replace hL := hL.later hb.size
  clear hb
  go_wp2
  go_ret
  exact ⟨rfl, hB⟩

set_option maxRecDepth 100000 in
set_option maxHeartbeats 8000000 in
theorem lawR_3 (d : Dk) (As : Option Addr) (ns cs : Nat) (Ap : Option Addr) (np cp : Nat) (dl : Int) (ds : Bool) (w : World) (hD : Hid (DkAt w (Out []) (.slice As ns cs) (.slice Ap np cp) d)) (hd : Hid (DkIs d dl ds)) (hsm : Hid d.small) (i o : Int) (Ab : Option Addr) (nb cb : Nat) (b : Bs) (hb0 : Hid (BsAt w (Out []) (.slice Ab nb cb) b)) (Ac : Option Addr) (nc cc : Nat) (c : Bs) (hc0 : Hid (BsAt w (Out []) (.slice Ac nc cc) c)) (hf : Hid (fewB d = true)) (hl : nb ≤ 128) (hl2 : 128 < nc) (hl3 : nc ≤ 9223372036854775807) : Calls Try.prog 7 #[.agg #[.slice As ns cs, .slice Ap np cp, .int .i64 dl, .bool ds], .int .i64 i, .int .i64 o, .slice Ab nb cb, .slice Ac nc cc] w (fun e w' => e = .returned (.bool true) ∧ Below w.heap.size w w') := by
  have hB := Below.refl w.heap.size w
  have hL := InW.nil w
  go_enter Try.func7, Try.ntmps7
  go_wp2_with fail
  have hst := (Below.refl w.heap.size w).alloc (Nat.le_refl _) (.cells #[.slice As ns cs, .slice Ap np cp, .int .i64 dl, .bool ds] 25)
  replace hD := dk_later hD hst
  replace hb0 := bs_later hb0 hst
  replace hc0 := bs_later hc0 hst
  replace hL := hL.later hst.size
  replace hB := hB.trans (hst.mono hB.size)
  have X0 := Box.new w [.slice As ns cs, .slice Ap np cp, .int .i64 dl, .bool ds] 25
  have hzX0 : Hid ((w.alloc (.cells #[.slice As ns cs, .slice Ap np cp, .int .i64 dl, .bool ds] 25)).heap.size = w.heap.size + 1) := Lib.hid (by simp)
  clear hst
  generalize w.alloc (.cells #[.slice As ns cs, .slice Ap np cp, .int .i64 dl, .bool ds] 25) = w1 at hB hL hzX0 X0 hD hb0 hc0 ⊢
  generalize hga : w.heap.size = X0a at hzX0 X0 ⊢
  clear hga
  refine (dSane_any _).mono ?_
  rintro e w2 ⟨rfl, hb⟩
  replace X0 := X0.later hb
  replace hD := dk_later hD hb
  replace hb0 := bs_later hb0 hb
  replace hc0 := bs_later hc0 hb
  replace hB := hB.trans (hb.mono hB.size)
  replace hL := hL.later hb.size
  clear hb
  clear hzX0
  have X0c0 : w2.cell? ⟨X0a, 0, none⟩ = some (.slice As ns cs) := X0.cell 0
  have X0c1 : w2.cell? ⟨X0a, 1, none⟩ = some (.slice Ap np cp) := X0.cell 1
  have X0c2 : w2.cell? ⟨X0a, 2, none⟩ = some (.int .i64 dl) := X0.cell 2
  have X0c3 : w2.cell? ⟨X0a, 3, none⟩ = some (.bool ds) := X0.cell 3
  have X0z : X0a < w2.heap.size := X0.lt
  go_wp2_with fail
  clear X0c0 X0c1 X0c2 X0c3 X0z
  refine (dFew_is hD hd.out hsm hf).mono ?_
  rintro e w3 ⟨rfl, hb⟩
  replace X0 := X0.later hb
  replace hD := dk_later hD hb
  replace hb0 := bs_later hb0 hb
  replace hc0 := bs_later hc0 hb
  replace hB := hB.trans (hb.mono hB.size)
  replace hL := hL.later hb.size
  clear hb
  go_wp2
  go_ret
  exact ⟨rfl, hB⟩

set_option maxRecDepth 100000 in
set_option maxHeartbeats 8000000 in
theorem lawR_4 (d : Dk) (As : Option Addr) (ns cs : Nat) (Ap : Option Addr) (np cp : Nat) (dl : Int) (ds : Bool) (w : World) (hD : Hid (DkAt w (Out []) (.slice As ns cs) (.slice Ap np cp) d)) (hd : Hid (DkIs d dl ds)) (hsm : Hid d.small) (i o : Int) (Ab : Option Addr) (nb cb : Nat) (b : Bs) (hb0 : Hid (BsAt w (Out []) (.slice Ab nb cb) b)) (Ac : Option Addr) (nc cc : Nat) (c : Bs) (hc0 : Hid (BsAt w (Out []) (.slice Ac nc cc) c)) (hf : Hid (fewB d = true)) (hl : nb ≤ 128) (hl2 : nc ≤ 128) (hre : Hid (readT d o = ([], 40))) : Calls Try.prog 7 #[.agg #[.slice As ns cs, .slice Ap np cp, .int .i64 dl, .bool ds], .int .i64 i, .int .i64 o, .slice Ab nb cb, .slice Ac nc cc] w (fun e w' => e = .returned (.bool true) ∧ Below w.heap.size w w') := by
  have hB := Below.refl w.heap.size w
  have hL := InW.nil w
  go_enter Try.func7, Try.ntmps7
  go_wp2_with fail
  have hst := (Below.refl w.heap.size w).alloc (Nat.le_refl _) (.cells #[.slice As ns cs, .slice Ap np cp, .int .i64 dl, .bool ds] 25)
  replace hD := dk_later hD hst
  replace hb0 := bs_later hb0 hst
  replace hc0 := bs_later hc0 hst
  replace hL := hL.later hst.size
  replace hB := hB.trans (hst.mono hB.size)
  have X0 := Box.new w [.slice As ns cs, .slice Ap np cp, .int .i64 dl, .bool ds] 25
  have hzX0 : Hid ((w.alloc (.cells #[.slice As ns cs, .slice Ap np cp, .int .i64 dl, .bool ds] 25)).heap.size = w.heap.size + 1) := Lib.hid (by simp)
  clear hst
  generalize w.alloc (.cells #[.slice As ns cs, .slice Ap np cp, .int .i64 dl, .bool ds] 25) = w1 at hB hL hzX0 X0 hD hb0 hc0 ⊢
  generalize hga : w.heap.size = X0a at hzX0 X0 ⊢
  clear hga
  refine (dSane_any _).mono ?_
  rintro e w2 ⟨rfl, hb⟩
  replace X0 := X0.later hb
  replace hD := dk_later hD hb
  replace hb0 := bs_later hb0 hb
  replace hc0 := bs_later hc0 hb
  replace hB := hB.trans (hb.mono hB.size)
  replace hL := hL.later hb.size
  clear hb
  clear hzX0
  have X0c0 : w2.cell? ⟨X0a, 0, none⟩ = some (.slice As ns cs) := X0.cell 0
  have X0c1 : w2.cell? ⟨X0a, 1, none⟩ = some (.slice Ap np cp) := X0.cell 1
  have X0c2 : w2.cell? ⟨X0a, 2, none⟩ = some (.int .i64 dl) := X0.cell 2
  have X0c3 : w2.cell? ⟨X0a, 3, none⟩ = some (.bool ds) := X0.cell 3
  have X0z : X0a < w2.heap.size := X0.lt
  go_wp2_with fail
  clear X0c0 X0c1 X0c2 X0c3 X0z
  refine (dFew_is hD hd.out hsm hf).mono ?_
  rintro e w3 ⟨rfl, hb⟩
  replace X0 := X0.later hb
  replace hD := dk_later hD hb
  replace hb0 := bs_later hb0 hb
  replace hc0 := bs_later hc0 hb
  replace hB := hB.trans (hb.mono hB.size)
  replace hL := hL.later hb.size
  clear hb
  have X0c0 : w3.cell? ⟨X0a, 0, none⟩ = some (.slice As ns cs) := X0.cell 0
  have X0c1 : w3.cell? ⟨X0a, 1, none⟩ = some (.slice Ap np cp) := X0.cell 1
  have X0c2 : w3.cell? ⟨X0a, 2, none⟩ = some (.int .i64 dl) := X0.cell 2
  have X0c3 : w3.cell? ⟨X0a, 3, none⟩ = some (.bool ds) := X0.cell 3
  have X0z : X0a < w3.heap.size := X0.lt
  go_wp2_with fail
  clear X0c0 X0c1 X0c2 X0c3 X0z
  refine (dRead_at o hD hd.out).mono ?_
  rintro e w4 hh
  obtain ⟨Ar, cr, rfl, Rr, hb⟩ := RetBs.is hh hL hre (n := 0) rfl
  replace X0 := X0.later hb
  replace hD := dk_later hD hb
  replace hb0 := bs_later hb0 hb
  replace hc0 := bs_later hc0 hb
  replace hB := hB.trans (hb.mono hB.size)
  replace hL := hL.later hb.size
  clear hb
  obtain ⟨⟨m1, er1⟩, h1⟩ : ∃ p, writeT d i b = p := ⟨_, rfl⟩
  obtain ⟨s1, hs1⟩ : ∃ k, m1.sectors.length = k := ⟨_, rfl⟩
  obtain ⟨n1, hp1⟩ : ∃ k, m1.pending.length = k := ⟨_, rfl⟩
  obtain ⟨l1, hl1⟩ : ∃ k, m1.left = k := ⟨_, rfl⟩
  obtain ⟨t1, ht1⟩ : ∃ k, m1.stopped = k := ⟨_, rfl⟩
  replace h1 := Lib.hid h1
  replace hs1 := Lib.hid hs1
  replace hp1 := Lib.hid hp1
  replace hl1 := Lib.hid hl1
  replace ht1 := Lib.hid ht1
  have X0c0 : w4.cell? ⟨X0a, 0, none⟩ = some (.slice As ns cs) := X0.cell 0
  have X0c1 : w4.cell? ⟨X0a, 1, none⟩ = some (.slice Ap np cp) := X0.cell 1
  have X0c2 : w4.cell? ⟨X0a, 2, none⟩ = some (.int .i64 dl) := X0.cell 2
  have X0c3 : w4.cell? ⟨X0a, 3, none⟩ = some (.bool ds) := X0.cell 3
  have X0z : X0a < w4.heap.size := X0.lt
  go_wp2_with fail
  clear X0c0 X0c1 X0c2 X0c3 X0z
  refine (dWrite_at i hD hd.out hb0).mono ?_
  rintro e w5 hh
  obtain ⟨A1, c1, P1, q1, rfl, D1, hb⟩ := RetDk.is hh hL h1 hs1 hp1 hl1 ht1
  replace X0 := X0.later hb
  replace hD := dk_later hD hb
  replace hb0 := bs_later hb0 hb
  replace hc0 := bs_later hc0 hb
  replace Rr := bs_later Rr hb
  replace hB := hB.trans (hb.mono hB.size)
  replace hL := hL.later hb.size
  clear hb
  have hst := (Below.refl w5.heap.size w5).alloc (Nat.le_refl _) (.cells #[.slice A1 s1 c1, .slice P1 n1 q1, .int .i64 l1, .bool t1] 25)
  go_wp2
  go_ret
  exact ⟨rfl, hB.trans (hst.mono hB.size)⟩

set_option maxRecDepth 100000 in
set_option maxHeartbeats 8000000 in
theorem lawR_5 (d : Dk) (As : Option Addr) (ns cs : Nat) (Ap : Option Addr) (np cp : Nat) (dl : Int) (ds : Bool) (w : World) (hD : Hid (DkAt w (Out []) (.slice As ns cs) (.slice Ap np cp) d)) (hd : Hid (DkIs d dl ds)) (hsm : Hid d.small) (i o : Int) (Ab : Option Addr) (nb cb : Nat) (b : Bs) (hb0 : Hid (BsAt w (Out []) (.slice Ab nb cb) b)) (Ac : Option Addr) (nc cc : Nat) (c : Bs) (hc0 : Hid (BsAt w (Out []) (.slice Ac nc cc) c)) (hf : Hid (fewB d = true)) (hl : nb ≤ 128) (hl2 : nc ≤ 128) (b0 : Bs) (hre : Hid (readT d o = (b0, 0))) (hb0l : Hid (b0.length = 128)) (er1 : Int) (m1 : Dk) (h1 : Hid (writeT d i b = (m1, er1))) (her : (er1 != 0) = true) : Calls Try.prog 7 #[.agg #[.slice As ns cs, .slice Ap np cp, .int .i64 dl, .bool ds], .int .i64 i, .int .i64 o, .slice Ab nb cb, .slice Ac nc cc] w (fun e w' => e = .returned (.bool true) ∧ Below w.heap.size w w') := by
  have hB := Below.refl w.heap.size w
  have hL := InW.nil w
  go_enter Try.func7, Try.ntmps7
  go_wp2_with fail
  have hst := (Below.refl w.heap.size w).alloc (Nat.le_refl _) (.cells #[.slice As ns cs, .slice Ap np cp, .int .i64 dl, .bool ds] 25)
  replace hD := dk_later hD hst
  replace hb0 := bs_later hb0 hst
  replace hc0 := bs_later hc0 hst
  replace hL := hL.later hst.size
  replace hB := hB.trans (hst.mono hB.size)
  have X0 := Box.new w [.slice As ns cs, .slice Ap np cp, .int .i64 dl, .bool ds] 25
  have hzX0 : Hid ((w.alloc (.cells #[.slice As ns cs, .slice Ap np cp, .int .i64 dl, .bool ds] 25)).heap.size = w.heap.size + 1) := Lib.hid (by simp)
  clear hst
  generalize w.alloc (.cells #[.slice As ns cs, .slice Ap np cp, .int .i64 dl, .bool ds] 25) = w1 at hB hL hzX0 X0 hD hb0 hc0 ⊢
  generalize hga : w.heap.size = X0a at hzX0 X0 ⊢
  clear hga
  refine (dSane_any _).mono ?_
  rintro e w2 ⟨rfl, hb⟩
  replace X0 := X0.later hb
  replace hD := dk_later hD hb
  replace hb0 := bs_later hb0 hb
  replace hc0 := bs_later hc0 hb
  replace hB := hB.trans (hb.mono hB.size)
  replace hL := hL.later hb.size
  clear hb
  clear hzX0
  have X0c0 : w2.cell? ⟨X0a, 0, none⟩ = some (.slice As ns cs) := X0.cell 0
  have X0c1 : w2.cell? ⟨X0a, 1, none⟩ = some (.slice Ap np cp) := X0.cell 1
  have X0c2 : w2.cell? ⟨X0a, 2, none⟩ = some (.int .i64 dl) := X0.cell 2
  have X0c3 : w2.cell? ⟨X0a, 3, none⟩ = some (.bool ds) := X0.cell 3
  have X0z : X0a < w2.heap.size := X0.lt
  go_wp2_with fail
  clear X0c0 X0c1 X0c2 X0c3 X0z
  refine (dFew_is hD hd.out hsm hf).mono ?_
  rintro e w3 ⟨rfl, hb⟩
  replace X0 := X0.later hb
  replace hD := dk_later hD hb
  replace hb0 := bs_later hb0 hb
  replace hc0 := bs_later hc0 hb
  replace hB := hB.trans (hb.mono hB.size)
  replace hL := hL.later hb.size
  clear hb
  have X0c0 : w3.cell? ⟨X0a, 0, none⟩ = some (.slice As ns cs) := X0.cell 0
  have X0c1 : w3.cell? ⟨X0a, 1, none⟩ = some (.slice Ap np cp) := X0.cell 1
  have X0c2 : w3.cell? ⟨X0a, 2, none⟩ = some (.int .i64 dl) := X0.cell 2
  have X0c3 : w3.cell? ⟨X0a, 3, none⟩ = some (.bool ds) := X0.cell 3
  have X0z : X0a < w3.heap.size := X0.lt
  go_wp2_with fail
  clear X0c0 X0c1 X0c2 X0c3 X0z
  refine (dRead_at o hD hd.out).mono ?_
  rintro e w4 hh
  obtain ⟨Ar, cr, rfl, Rr, hb⟩ := RetBs.is hh hL hre hb0l
  replace X0 := X0.later hb
  replace hD := dk_later hD hb
  replace hb0 := bs_later hb0 hb
  replace hc0 := bs_later hc0 hb
  replace hB := hB.trans (hb.mono hB.size)
  replace hL := hL.later hb.size
  clear hb
  obtain ⟨s1, hs1⟩ : ∃ k, m1.sectors.length = k := ⟨_, rfl⟩
  obtain ⟨n1, hp1⟩ : ∃ k, m1.pending.length = k := ⟨_, rfl⟩
  obtain ⟨l1, hl1⟩ : ∃ k, m1.left = k := ⟨_, rfl⟩
  obtain ⟨t1, ht1⟩ : ∃ k, m1.stopped = k := ⟨_, rfl⟩
  replace hs1 := Lib.hid hs1
  replace hp1 := Lib.hid hp1
  replace hl1 := Lib.hid hl1
  replace ht1 := Lib.hid ht1
  have X0c0 : w4.cell? ⟨X0a, 0, none⟩ = some (.slice As ns cs) := X0.cell 0
  have X0c1 : w4.cell? ⟨X0a, 1, none⟩ = some (.slice Ap np cp) := X0.cell 1
  have X0c2 : w4.cell? ⟨X0a, 2, none⟩ = some (.int .i64 dl) := X0.cell 2
  have X0c3 : w4.cell? ⟨X0a, 3, none⟩ = some (.bool ds) := X0.cell 3
  have X0z : X0a < w4.heap.size := X0.lt
  go_wp2_with fail
  clear X0c0 X0c1 X0c2 X0c3 X0z
  refine (dWrite_at i hD hd.out hb0).mono ?_
  rintro e w5 hh
  obtain ⟨A1, c1, P1, q1, rfl, D1, hb⟩ := RetDk.is hh hL h1 hs1 hp1 hl1 ht1
  replace X0 := X0.later hb
  replace hD := dk_later hD hb
  replace hb0 := bs_later hb0 hb
  replace hc0 := bs_later hc0 hb
  replace Rr := bs_later Rr hb
  replace hB := hB.trans (hb.mono hB.size)
  replace hL := hL.later hb.size
  clear hb
  have hst := (Below.refl w5.heap.size w5).alloc (Nat.le_refl _) (.cells #[.slice A1 s1 c1, .slice P1 n1 q1, .int .i64 l1, .bool t1] 25)
  go_wp2
  go_ret
  exact ⟨rfl, hB.trans (hst.mono hB.size)⟩

set_option maxRecDepth 100000 in
set_option maxHeartbeats 16000000 in
theorem lawR_e_full (d : Dk) (As : Option Addr) (ns cs : Nat) (Ap : Option Addr) (np cp : Nat) (dl : Int) (w : World) (hD : Hid (DkAt w (Out []) (.slice As ns cs) (.slice Ap np cp) d)) (hd : Hid (DkIs d dl false)) (hsm : Hid d.small) (i o : Int) (Ab : Option Addr) (nb cb : Nat) (b : Bs) (hb0 : Hid (BsAt w (Out []) (.slice Ab nb cb) b)) (Ac : Option Addr) (nc cc : Nat) (c : Bs) (hc0 : Hid (BsAt w (Out []) (.slice Ac nc cc) c)) (hf : Hid (fewB d = true)) (hl : nb ≤ 128) (hl2 : nc ≤ 128) (hok : Hid (d.okB = true)) (hio : Hid (d.hasB i = true)) (hoo : Hid (d.hasB o = true)) (hns : Hid (d.sectors.length = ns)) (hnp : Hid (d.pending.length = np)) (hbl : Hid (b.length = nb)) (hcl : Hid (c.length = nc)) (hns6 : Hid (ns ≤ 4096)) (hnp6 : np < 4096) (hne : Hid ((i != o) = false)) (hfull : Hid (np + 1 = 4096)) : Calls Try.prog 7 #[.agg #[.slice As ns cs, .slice Ap np cp, .int .i64 dl, .bool false], .int .i64 i, .int .i64 o, .slice Ab nb cb, .slice Ac nc cc] w (fun e w' => e = .returned (.bool true) ∧ Below w.heap.size w w') := by
  have hB := Below.refl w.heap.size w
  have hL := InW.nil w
  go_enter Try.func7, Try.ntmps7
  go_wp2_with fail
  have hst := (Below.refl w.heap.size w).alloc (Nat.le_refl _) (.cells #[.slice As ns cs, .slice Ap np cp, .int .i64 dl, .bool false] 25)
  replace hD := dk_later hD hst
  replace hb0 := bs_later hb0 hst
  replace hc0 := bs_later hc0 hst
  replace hL := hL.later hst.size
  replace hB := hB.trans (hst.mono hB.size)
  have X0 := Box.new w [.slice As ns cs, .slice Ap np cp, .int .i64 dl, .bool false] 25
  have hzX0 : Hid ((w.alloc (.cells #[.slice As ns cs, .slice Ap np cp, .int .i64 dl, .bool false] 25)).heap.size = w.heap.size + 1) := Lib.hid (by simp)
  clear hst
  generalize w.alloc (.cells #[.slice As ns cs, .slice Ap np cp, .int .i64 dl, .bool false] 25) = w1 at hB hL hzX0 X0 hD hb0 hc0 ⊢
  generalize hga : w.heap.size = X0a at hzX0 X0 ⊢
  clear hga
  refine (dSane_any _).mono ?_
  rintro e w2 ⟨rfl, hb⟩
  replace X0 := X0.later hb
  replace hD := dk_later hD hb
  replace hb0 := bs_later hb0 hb
  replace hc0 := bs_later hc0 hb
  replace hB := hB.trans (hb.mono hB.size)
  replace hL := hL.later hb.size
  clear hb
  clear hzX0
  have X0c0 : w2.cell? ⟨X0a, 0, none⟩ = some (.slice As ns cs) := X0.cell 0
  have X0c1 : w2.cell? ⟨X0a, 1, none⟩ = some (.slice Ap np cp) := X0.cell 1
  have X0c2 : w2.cell? ⟨X0a, 2, none⟩ = some (.int .i64 dl) := X0.cell 2
  have X0c3 : w2.cell? ⟨X0a, 3, none⟩ = some (.bool false) := X0.cell 3
  have X0z : X0a < w2.heap.size := X0.lt
  go_wp2_with fail
  clear X0c0 X0c1 X0c2 X0c3 X0z
  refine (dFew_is hD hd.out hsm hf).mono ?_
  rintro e w3 ⟨rfl, hb⟩
  replace X0 := X0.later hb
  replace hD := dk_later hD hb
  replace hb0 := bs_later hb0 hb
  replace hc0 := bs_later hc0 hb
  replace hB := hB.trans (hb.mono hB.size)
  replace hL := hL.later hb.size
  clear hb
  have hst0 : d.stopped = false := hd.out.stopped
  obtain ⟨b0, hre, hb0l⟩ := readable hok.out hst0 hoo.out
  have hok1 : (d.put i b).okB = true := put_ok hok.out hio.out (by rw [hbl.out]; exact hl) (by rw [hnp.out]; exact hnp6)
  have hw1 : writeT d i b = (d.put i b, 0) := write_eq (runs_of hok.out hst0) hio.out (by rw [hbl.out]; exact hl) (by rw [hnp.out]; omega)
  have hm1 : readT (d.put i b) i = (padTo b, 0) := read_put_same hok1 hst0 hio.out
  have hpl : (padTo b).length = 128 := padTo_length (by rw [hbl.out]; exact hl)
  have hp1 : (d.put i b).pending.length = np + 1 := by rw [Dk.put, List.length_append, hnp.out]; rfl
  have hi1 : DkIs (d.put i b) dl false := ⟨hd.out.left, hst0⟩
  obtain rfl : i = o := by simpa using hne.out
  have ha1 : readT (d.put i b) i = (padTo b, 0) := hm1
  replace hre := Lib.hid hre
  replace hb0l := Lib.hid hb0l
  replace hok1 := Lib.hid hok1
  replace hw1 := Lib.hid hw1
  replace hm1 := Lib.hid hm1
  replace hpl := Lib.hid hpl
  replace hp1 := Lib.hid hp1
  replace hi1 := Lib.hid hi1
  replace ha1 := Lib.hid ha1
  have hst0 := Lib.hid hst0
  have X0c0 : w3.cell? ⟨X0a, 0, none⟩ = some (.slice As ns cs) := X0.cell 0
  have X0c1 : w3.cell? ⟨X0a, 1, none⟩ = some (.slice Ap np cp) := X0.cell 1
  have X0c2 : w3.cell? ⟨X0a, 2, none⟩ = some (.int .i64 dl) := X0.cell 2
  have X0c3 : w3.cell? ⟨X0a, 3, none⟩ = some (.bool false) := X0.cell 3
  have X0z : X0a < w3.heap.size := X0.lt
  go_wp2_with fail
  clear X0c0 X0c1 X0c2 X0c3 X0z
  refine (dRead_at i hD hd.out).mono ?_
  rintro e w4 hh
  obtain ⟨Ar, cr, rfl, Rr, hb⟩ := RetBs.is hh hL hre hb0l
  replace X0 := X0.later hb
  replace hD := dk_later hD hb
  replace hb0 := bs_later hb0 hb
  replace hc0 := bs_later hc0 hb
  replace hB := hB.trans (hb.mono hB.size)
  replace hL := hL.later hb.size
  clear hb
  have X0c0 : w4.cell? ⟨X0a, 0, none⟩ = some (.slice As ns cs) := X0.cell 0
  have X0c1 : w4.cell? ⟨X0a, 1, none⟩ = some (.slice Ap np cp) := X0.cell 1
  have X0c2 : w4.cell? ⟨X0a, 2, none⟩ = some (.int .i64 dl) := X0.cell 2
  have X0c3 : w4.cell? ⟨X0a, 3, none⟩ = some (.bool false) := X0.cell 3
  have X0z : X0a < w4.heap.size := X0.lt
  go_wp2_with fail
  clear X0c0 X0c1 X0c2 X0c3 X0z
  refine (dWrite_at i hD hd.out hb0).mono ?_
  rintro e w5 hh
  obtain ⟨A1, c1, P1, q1, rfl, D1, hb⟩ := RetDk.is hh hL hw1 hns hp1 (Lib.hid hi1.out.left) (Lib.hid hi1.out.stopped)
  replace X0 := X0.later hb
  replace hD := dk_later hD hb
  replace hb0 := bs_later hb0 hb
  replace hc0 := bs_later hc0 hb
  replace Rr := bs_later Rr hb
  replace hB := hB.trans (hb.mono hB.size)
  replace hL := hL.later hb.size
  clear hb
  go_wp2_with fail
  have hst := (Below.refl w5.heap.size w5).alloc (Nat.le_refl _) (.cells #[.slice A1 ns c1, .slice P1 (np + 1) q1, .int .i64 dl, .bool false] 25)
  replace X0 := X0.later hst
  replace hD := dk_later hD hst
  replace hb0 := bs_later hb0 hst
  replace hc0 := bs_later hc0 hst
  replace Rr := bs_later Rr hst
  replace D1 := dk_later D1 hst
  replace hL := hL.later hst.size
  replace hB := hB.trans (hst.mono hB.size)
  have X1 := Box.new w5 [.slice A1 ns c1, .slice P1 (np + 1) q1, .int .i64 dl, .bool false] 25
  have hzX1 : Hid ((w5.alloc (.cells #[.slice A1 ns c1, .slice P1 (np + 1) q1, .int .i64 dl, .bool false] 25)).heap.size = w5.heap.size + 1) := Lib.hid (by simp)
  clear hst
  generalize w5.alloc (.cells #[.slice A1 ns c1, .slice P1 (np + 1) q1, .int .i64 dl, .bool false] 25) = w6 at hB hL hzX1 X1 X0 hD hb0 hc0 Rr D1 ⊢
  generalize hga : w5.heap.size = X1a at hzX1 X1 ⊢
  clear hga
  refine (dRead_at i D1 hi1.out).mono ?_
  rintro e w7 hh
  obtain ⟨Aa, ca, rfl, Ra, hb⟩ := RetBs.is hh hL ha1 hpl
  replace X0 := X0.later hb
  replace X1 := X1.later hb
  replace hD := dk_later hD hb
  replace hb0 := bs_later hb0 hb
  replace hc0 := bs_later hc0 hb
  replace Rr := bs_later Rr hb
  replace D1 := dk_later D1 hb
  replace hB := hB.trans (hb.mono hB.size)
  replace hL := hL.later hb.size
  clear hb
  clear hzX1
  have X1c0 : w7.cell? ⟨X1a, 0, none⟩ = some (.slice A1 ns c1) := X1.cell 0
  have X1c1 : w7.cell? ⟨X1a, 1, none⟩ = some (.slice P1 (np + 1) q1) := X1.cell 1
  have X1c2 : w7.cell? ⟨X1a, 2, none⟩ = some (.int .i64 dl) := X1.cell 2
  have X1c3 : w7.cell? ⟨X1a, 3, none⟩ = some (.bool false) := X1.cell 3
  have X1z : X1a < w7.heap.size := X1.lt
  go_wp2_with fail
  clear X1c0 X1c1 X1c2 X1c3 X1z
  refine (dRead_at i D1 hi1.out).mono ?_
  rintro e w8 hh
  obtain ⟨Am, cm, rfl, Rm, hb⟩ := RetBs.is hh hL hm1 hpl
  replace X0 := X0.later hb
  replace X1 := X1.later hb
  replace hD := dk_later hD hb
  replace hb0 := bs_later hb0 hb
  replace hc0 := bs_later hc0 hb
  replace Rr := bs_later Rr hb
  replace D1 := dk_later D1 hb
  replace Ra := bs_later Ra hb
  replace hB := hB.trans (hb.mono hB.size)
  replace hL := hL.later hb.size
  clear hb
  obtain ⟨mb, mo, rfl, hcm, hcm2, _, _⟩ := Rm.out.row (by decide)
  have vt := Later.str (Rm.out.take (k := nb) hl ⟨hcm, hcm2⟩)
  have vb := Later.str hb0.out
  have vr := Later.str Rr.out
  have va := Later.str Ra.out
  rw [take_pad hbl.out] at vt
  unfold maxLen at hcm2
  have e1 : (nb : Int) ≤ (cm : Int) := by omega
  have e2 : (nb : Int) ≤ 128 := by omega
  generalize strB b = sb at vt vb
  generalize strB b0 = s0 at vr
  generalize strB (padTo b) = sp at va
  go_wp2_with fail
  refine wp_region_later (by kernel_rfl) (by kernel_rfl) ?_
  repeat (go_big_quiet_step (fail))
  refine wpQuiet_nil ?_
  intro _ hw'
  obtain ⟨yq, hw''⟩ := hw'
  subst hw''
  clear vt vb vr va e1 e2
  obtain ⟨wq, hz, hb⟩ : ∃ z, yq.w = z ∧ Below w8.heap.size w8 z := ⟨_, rfl, yq.below⟩
  rw [hz]
  clear hz
  replace X0 := X0.later hb
  replace X1 := X1.later hb
  replace hD := dk_later hD hb
  replace hb0 := bs_later hb0 hb
  replace hc0 := bs_later hc0 hb
  replace Rr := bs_later Rr hb
  replace D1 := dk_later D1 hb
  replace Ra := bs_later Ra hb
  replace Rm := bs_later Rm hb
  replace hB := hB.trans (hb.mono hB.size)
  replace hL := hL.later hb.size
  clear hb
  clear Rm Ra Rr
  have hw2 : Hid (writeT (d.put i b) i c = (Dk.zero, 2)) := by rw [Hid, writeT, if_pos ⟨runs_of hok1.out hst0.out, hoo.out⟩, if_pos (by rw [hcl.out]; exact hl2), if_pos (by rw [hp1.out]; exact hfull.out)]
  have X1c0 : wq.cell? ⟨X1a, 0, none⟩ = some (.slice A1 ns c1) := X1.cell 0
  have X1c1 : wq.cell? ⟨X1a, 1, none⟩ = some (.slice P1 (np + 1) q1) := X1.cell 1
  have X1c2 : wq.cell? ⟨X1a, 2, none⟩ = some (.int .i64 dl) := X1.cell 2
  have X1c3 : wq.cell? ⟨X1a, 3, none⟩ = some (.bool false) := X1.cell 3
  have X1z : X1a < wq.heap.size := X1.lt
  go_wp2_with fail
  clear X1c0 X1c1 X1c2 X1c3 X1z
  refine (dWrite_at i D1 hi1.out hc0).mono ?_
  rintro e w9 hh
  obtain ⟨A2, c2, P2, q2, rfl, D2, hb⟩ := RetDk.is hh hL hw2 (ns := 0) (np := 0) (dl := 0) (ds := false) rfl rfl rfl rfl
  replace X0 := X0.later hb
  replace X1 := X1.later hb
  replace hD := dk_later hD hb
  replace hb0 := bs_later hb0 hb
  replace hc0 := bs_later hc0 hb
  replace D1 := dk_later D1 hb
  replace hB := hB.trans (hb.mono hB.size)
  replace hL := hL.later hb.size
  clear hb
  have hst := (Below.refl w9.heap.size w9).alloc (Nat.le_refl _) (.cells #[.slice A2 0 c2, .slice P2 0 q2, .int .i64 0, .bool false] 25)
  go_wp2
  go_ret
  exact ⟨rfl, hB.trans (hst.mono hB.size)⟩

set_option maxRecDepth 100000 in
set_option maxHeartbeats 16000000 in
theorem lawR_e_tear (d : Dk) (As : Option Addr) (ns cs : Nat) (Ap : Option Addr) (np cp : Nat) (dl : Int) (w : World) (hD : Hid (DkAt w (Out []) (.slice As ns cs) (.slice Ap np cp) d)) (hd : Hid (DkIs d dl false)) (hsm : Hid d.small) (i o : Int) (Ab : Option Addr) (nb cb : Nat) (b : Bs) (hb0 : Hid (BsAt w (Out []) (.slice Ab nb cb) b)) (Ac : Option Addr) (nc cc : Nat) (c : Bs) (hc0 : Hid (BsAt w (Out []) (.slice Ac nc cc) c)) (hf : Hid (fewB d = true)) (hl : nb ≤ 128) (hl2 : nc ≤ 128) (hok : Hid (d.okB = true)) (hio : Hid (d.hasB i = true)) (hoo : Hid (d.hasB o = true)) (hns : Hid (d.sectors.length = ns)) (hnp : Hid (d.pending.length = np)) (hbl : Hid (b.length = nb)) (hcl : Hid (c.length = nc)) (hns6 : Hid (ns ≤ 4096)) (hnp6 : np < 4096) (hne : Hid ((i != o) = false)) (hfull : Hid (np + 1 < 4096)) (htr : Hid (tearB ((d.put i b).put o c) = true)) : Calls Try.prog 7 #[.agg #[.slice As ns cs, .slice Ap np cp, .int .i64 dl, .bool false], .int .i64 i, .int .i64 o, .slice Ab nb cb, .slice Ac nc cc] w (fun e w' => e = .returned (.bool true) ∧ Below w.heap.size w w') := by
  have hB := Below.refl w.heap.size w
  have hL := InW.nil w
  go_enter Try.func7, Try.ntmps7
  go_wp2_with fail
  have hst := (Below.refl w.heap.size w).alloc (Nat.le_refl _) (.cells #[.slice As ns cs, .slice Ap np cp, .int .i64 dl, .bool false] 25)
  replace hD := dk_later hD hst
  replace hb0 := bs_later hb0 hst
  replace hc0 := bs_later hc0 hst
  replace hL := hL.later hst.size
  replace hB := hB.trans (hst.mono hB.size)
  have X0 := Box.new w [.slice As ns cs, .slice Ap np cp, .int .i64 dl, .bool false] 25
  have hzX0 : Hid ((w.alloc (.cells #[.slice As ns cs, .slice Ap np cp, .int .i64 dl, .bool false] 25)).heap.size = w.heap.size + 1) := Lib.hid (by simp)
  clear hst
  generalize w.alloc (.cells #[.slice As ns cs, .slice Ap np cp, .int .i64 dl, .bool false] 25) = w1 at hB hL hzX0 X0 hD hb0 hc0 ⊢
  generalize hga : w.heap.size = X0a at hzX0 X0 ⊢
  clear hga
  refine (dSane_any _).mono ?_
  rintro e w2 ⟨rfl, hb⟩
  replace X0 := X0.later hb
  replace hD := dk_later hD hb
  replace hb0 := bs_later hb0 hb
  replace hc0 := bs_later hc0 hb
  replace hB := hB.trans (hb.mono hB.size)
  replace hL := hL.later hb.size
  clear hb
  clear hzX0
  have X0c0 : w2.cell? ⟨X0a, 0, none⟩ = some (.slice As ns cs) := X0.cell 0
  have X0c1 : w2.cell? ⟨X0a, 1, none⟩ = some (.slice Ap np cp) := X0.cell 1
  have X0c2 : w2.cell? ⟨X0a, 2, none⟩ = some (.int .i64 dl) := X0.cell 2
  have X0c3 : w2.cell? ⟨X0a, 3, none⟩ = some (.bool false) := X0.cell 3
  have X0z : X0a < w2.heap.size := X0.lt
  go_wp2_with fail
  clear X0c0 X0c1 X0c2 X0c3 X0z
  refine (dFew_is hD hd.out hsm hf).mono ?_
  rintro e w3 ⟨rfl, hb⟩
  replace X0 := X0.later hb
  replace hD := dk_later hD hb
  replace hb0 := bs_later hb0 hb
  replace hc0 := bs_later hc0 hb
  replace hB := hB.trans (hb.mono hB.size)
  replace hL := hL.later hb.size
  clear hb
  have hst0 : d.stopped = false := hd.out.stopped
  obtain ⟨b0, hre, hb0l⟩ := readable hok.out hst0 hoo.out
  have hok1 : (d.put i b).okB = true := put_ok hok.out hio.out (by rw [hbl.out]; exact hl) (by rw [hnp.out]; exact hnp6)
  have hw1 : writeT d i b = (d.put i b, 0) := write_eq (runs_of hok.out hst0) hio.out (by rw [hbl.out]; exact hl) (by rw [hnp.out]; omega)
  have hm1 : readT (d.put i b) i = (padTo b, 0) := read_put_same hok1 hst0 hio.out
  have hpl : (padTo b).length = 128 := padTo_length (by rw [hbl.out]; exact hl)
  have hp1 : (d.put i b).pending.length = np + 1 := by rw [Dk.put, List.length_append, hnp.out]; rfl
  have hi1 : DkIs (d.put i b) dl false := ⟨hd.out.left, hst0⟩
  obtain rfl : i = o := by simpa using hne.out
  have ha1 : readT (d.put i b) i = (padTo b, 0) := hm1
  replace hre := Lib.hid hre
  replace hb0l := Lib.hid hb0l
  replace hok1 := Lib.hid hok1
  replace hw1 := Lib.hid hw1
  replace hm1 := Lib.hid hm1
  replace hpl := Lib.hid hpl
  replace hp1 := Lib.hid hp1
  replace hi1 := Lib.hid hi1
  replace ha1 := Lib.hid ha1
  have hst0 := Lib.hid hst0
  have X0c0 : w3.cell? ⟨X0a, 0, none⟩ = some (.slice As ns cs) := X0.cell 0
  have X0c1 : w3.cell? ⟨X0a, 1, none⟩ = some (.slice Ap np cp) := X0.cell 1
  have X0c2 : w3.cell? ⟨X0a, 2, none⟩ = some (.int .i64 dl) := X0.cell 2
  have X0c3 : w3.cell? ⟨X0a, 3, none⟩ = some (.bool false) := X0.cell 3
  have X0z : X0a < w3.heap.size := X0.lt
  go_wp2_with fail
  clear X0c0 X0c1 X0c2 X0c3 X0z
  refine (dRead_at i hD hd.out).mono ?_
  rintro e w4 hh
  obtain ⟨Ar, cr, rfl, Rr, hb⟩ := RetBs.is hh hL hre hb0l
  replace X0 := X0.later hb
  replace hD := dk_later hD hb
  replace hb0 := bs_later hb0 hb
  replace hc0 := bs_later hc0 hb
  replace hB := hB.trans (hb.mono hB.size)
  replace hL := hL.later hb.size
  clear hb
  have X0c0 : w4.cell? ⟨X0a, 0, none⟩ = some (.slice As ns cs) := X0.cell 0
  have X0c1 : w4.cell? ⟨X0a, 1, none⟩ = some (.slice Ap np cp) := X0.cell 1
  have X0c2 : w4.cell? ⟨X0a, 2, none⟩ = some (.int .i64 dl) := X0.cell 2
  have X0c3 : w4.cell? ⟨X0a, 3, none⟩ = some (.bool false) := X0.cell 3
  have X0z : X0a < w4.heap.size := X0.lt
  go_wp2_with fail
  clear X0c0 X0c1 X0c2 X0c3 X0z
  refine (dWrite_at i hD hd.out hb0).mono ?_
  rintro e w5 hh
  obtain ⟨A1, c1, P1, q1, rfl, D1, hb⟩ := RetDk.is hh hL hw1 hns hp1 (Lib.hid hi1.out.left) (Lib.hid hi1.out.stopped)
  replace X0 := X0.later hb
  replace hD := dk_later hD hb
  replace hb0 := bs_later hb0 hb
  replace hc0 := bs_later hc0 hb
  replace Rr := bs_later Rr hb
  replace hB := hB.trans (hb.mono hB.size)
  replace hL := hL.later hb.size
  clear hb
  go_wp2_with fail
  have hst := (Below.refl w5.heap.size w5).alloc (Nat.le_refl _) (.cells #[.slice A1 ns c1, .slice P1 (np + 1) q1, .int .i64 dl, .bool false] 25)
  replace X0 := X0.later hst
  replace hD := dk_later hD hst
  replace hb0 := bs_later hb0 hst
  replace hc0 := bs_later hc0 hst
  replace Rr := bs_later Rr hst
  replace D1 := dk_later D1 hst
  replace hL := hL.later hst.size
  replace hB := hB.trans (hst.mono hB.size)
  have X1 := Box.new w5 [.slice A1 ns c1, .slice P1 (np + 1) q1, .int .i64 dl, .bool false] 25
  have hzX1 : Hid ((w5.alloc (.cells #[.slice A1 ns c1, .slice P1 (np + 1) q1, .int .i64 dl, .bool false] 25)).heap.size = w5.heap.size + 1) := Lib.hid (by simp)
  clear hst
  generalize w5.alloc (.cells #[.slice A1 ns c1, .slice P1 (np + 1) q1, .int .i64 dl, .bool false] 25) = w6 at hB hL hzX1 X1 X0 hD hb0 hc0 Rr D1 ⊢
  generalize hga : w5.heap.size = X1a at hzX1 X1 ⊢
  clear hga
  refine (dRead_at i D1 hi1.out).mono ?_
  rintro e w7 hh
  obtain ⟨Aa, ca, rfl, Ra, hb⟩ := RetBs.is hh hL ha1 hpl
  replace X0 := X0.later hb
  replace X1 := X1.later hb
  replace hD := dk_later hD hb
  replace hb0 := bs_later hb0 hb
  replace hc0 := bs_later hc0 hb
  replace Rr := bs_later Rr hb
  replace D1 := dk_later D1 hb
  replace hB := hB.trans (hb.mono hB.size)
  replace hL := hL.later hb.size
  clear hb
  clear hzX1
  have X1c0 : w7.cell? ⟨X1a, 0, none⟩ = some (.slice A1 ns c1) := X1.cell 0
  have X1c1 : w7.cell? ⟨X1a, 1, none⟩ = some (.slice P1 (np + 1) q1) := X1.cell 1
  have X1c2 : w7.cell? ⟨X1a, 2, none⟩ = some (.int .i64 dl) := X1.cell 2
  have X1c3 : w7.cell? ⟨X1a, 3, none⟩ = some (.bool false) := X1.cell 3
  have X1z : X1a < w7.heap.size := X1.lt
  go_wp2_with fail
  clear X1c0 X1c1 X1c2 X1c3 X1z
  refine (dRead_at i D1 hi1.out).mono ?_
  rintro e w8 hh
  obtain ⟨Am, cm, rfl, Rm, hb⟩ := RetBs.is hh hL hm1 hpl
  replace X0 := X0.later hb
  replace X1 := X1.later hb
  replace hD := dk_later hD hb
  replace hb0 := bs_later hb0 hb
  replace hc0 := bs_later hc0 hb
  replace Rr := bs_later Rr hb
  replace D1 := dk_later D1 hb
  replace Ra := bs_later Ra hb
  replace hB := hB.trans (hb.mono hB.size)
  replace hL := hL.later hb.size
  clear hb
  obtain ⟨mb, mo, rfl, hcm, hcm2, _, _⟩ := Rm.out.row (by decide)
  have vt := Later.str (Rm.out.take (k := nb) hl ⟨hcm, hcm2⟩)
  have vb := Later.str hb0.out
  have vr := Later.str Rr.out
  have va := Later.str Ra.out
  rw [take_pad hbl.out] at vt
  unfold maxLen at hcm2
  have e1 : (nb : Int) ≤ (cm : Int) := by omega
  have e2 : (nb : Int) ≤ 128 := by omega
  generalize strB b = sb at vt vb
  generalize strB b0 = s0 at vr
  generalize strB (padTo b) = sp at va
  go_wp2_with fail
  refine wp_region_later (by kernel_rfl) (by kernel_rfl) ?_
  repeat (go_big_quiet_step (fail))
  refine wpQuiet_nil ?_
  intro _ hw'
  obtain ⟨yq, hw''⟩ := hw'
  subst hw''
  clear vt vb vr va e1 e2
  obtain ⟨wq, hz, hb⟩ : ∃ z, yq.w = z ∧ Below w8.heap.size w8 z := ⟨_, rfl, yq.below⟩
  rw [hz]
  clear hz
  replace X0 := X0.later hb
  replace X1 := X1.later hb
  replace hD := dk_later hD hb
  replace hb0 := bs_later hb0 hb
  replace hc0 := bs_later hc0 hb
  replace Rr := bs_later Rr hb
  replace D1 := dk_later D1 hb
  replace Ra := bs_later Ra hb
  replace Rm := bs_later Rm hb
  replace hB := hB.trans (hb.mono hB.size)
  replace hL := hL.later hb.size
  clear hb
  clear Rm Ra Rr
  have hw2 : Hid (writeT (d.put i b) i c = ((d.put i b).put i c, 0)) := Lib.hid (write_eq (runs_of hok1.out hst0.out) hoo.out (by rw [hcl.out]; exact hl2) (by rw [hp1.out]; have := hfull.out; omega))
  have hok2 : Hid (((d.put i b).put i c).okB = true) := Lib.hid (put_ok hok1.out hoo.out (by rw [hcl.out]; exact hl2) (by rw [hp1.out]; exact hfull.out))
  have hp2 : Hid (((d.put i b).put i c).pending.length = np + 1 + 1) := by rw [Hid, Dk.put, List.length_append, hp1.out]; rfl
  have hi2 : Hid (DkIs ((d.put i b).put i c) dl false) := ⟨hd.out.left, hst0.out⟩
  have X1c0 : wq.cell? ⟨X1a, 0, none⟩ = some (.slice A1 ns c1) := X1.cell 0
  have X1c1 : wq.cell? ⟨X1a, 1, none⟩ = some (.slice P1 (np + 1) q1) := X1.cell 1
  have X1c2 : wq.cell? ⟨X1a, 2, none⟩ = some (.int .i64 dl) := X1.cell 2
  have X1c3 : wq.cell? ⟨X1a, 3, none⟩ = some (.bool false) := X1.cell 3
  have X1z : X1a < wq.heap.size := X1.lt
  go_wp2_with fail
  clear X1c0 X1c1 X1c2 X1c3 X1z
  refine (dWrite_at i D1 hi1.out hc0).mono ?_
  rintro e w9 hh
  obtain ⟨A2, c2, P2, q2, rfl, D2, hb⟩ := RetDk.is hh hL hw2 hns hp2 (Lib.hid hi2.out.left) (Lib.hid hi2.out.stopped)
  replace X0 := X0.later hb
  replace X1 := X1.later hb
  replace hD := dk_later hD hb
  replace hb0 := bs_later hb0 hb
  replace hc0 := bs_later hc0 hb
  replace D1 := dk_later D1 hb
  replace hB := hB.trans (hb.mono hB.size)
  replace hL := hL.later hb.size
  clear hb
  have hsy : Hid (syncT ((d.put i b).put i c) = (⟨tornS ((d.put i b).put i c), [], 0, true⟩, 40)) := Lib.hid (sync_tear (runs_of hok2.out hst0.out) htr.out)
  have hts : Hid ((tornS ((d.put i b).put i c)).length = ns) := by rw [Hid, tornS_length]; exact hns.out
  go_wp2_with fail
  have hst := (Below.refl w9.heap.size w9).alloc (Nat.le_refl _) (.cells #[.slice A2 ns c2, .slice P2 (np + 1 + 1) q2, .int .i64 dl, .bool false] 25)
  replace X0 := X0.later hst
  replace X1 := X1.later hst
  replace hD := dk_later hD hst
  replace hb0 := bs_later hb0 hst
  replace hc0 := bs_later hc0 hst
  replace D1 := dk_later D1 hst
  replace D2 := dk_later D2 hst
  replace hL := hL.later hst.size
  replace hB := hB.trans (hst.mono hB.size)
  have Y := Box.new w9 [.slice A2 ns c2, .slice P2 (np + 1 + 1) q2, .int .i64 dl, .bool false] 25
  have hzY : Hid ((w9.alloc (.cells #[.slice A2 ns c2, .slice P2 (np + 1 + 1) q2, .int .i64 dl, .bool false] 25)).heap.size = w9.heap.size + 1) := Lib.hid (by simp)
  clear hst
  generalize w9.alloc (.cells #[.slice A2 ns c2, .slice P2 (np + 1 + 1) q2, .int .i64 dl, .bool false] 25) = w10 at hB hL hzY Y X0 X1 hD hb0 hc0 D1 D2 ⊢
  generalize hga : w9.heap.size = Ya at hzY Y ⊢
  clear hga
  refine (dSync_at D2 hi2.out).mono ?_
  rintro e w11 hh
  obtain ⟨A3, c3, P3, q3, rfl, D3, hb⟩ := RetDk.is hh hL hsy hts (np := 0) (dl := 0) (ds := true) rfl rfl rfl
  replace X0 := X0.later hb
  replace X1 := X1.later hb
  replace Y := Y.later hb
  replace hD := dk_later hD hb
  replace hb0 := bs_later hb0 hb
  replace hc0 := bs_later hc0 hb
  replace D1 := dk_later D1 hb
  replace D2 := dk_later D2 hb
  replace hB := hB.trans (hb.mono hB.size)
  replace hL := hL.later hb.size
  clear hb
  clear hzY
  have hst := (Below.refl w11.heap.size w11).alloc (Nat.le_refl _) (.cells #[.slice A3 ns c3, .slice P3 0 q3, .int .i64 0, .bool true] 25)
  go_wp2
  go_ret
  exact ⟨rfl, hB.trans (hst.mono hB.size)⟩

set_option maxRecDepth 100000 in
set_option maxHeartbeats 16000000 in
theorem lawR_e_go (d : Dk) (As : Option Addr) (ns cs : Nat) (Ap : Option Addr) (np cp : Nat) (dl : Int) (w : World) (hD : Hid (DkAt w (Out []) (.slice As ns cs) (.slice Ap np cp) d)) (hd : Hid (DkIs d dl false)) (hsm : Hid d.small) (i o : Int) (Ab : Option Addr) (nb cb : Nat) (b : Bs) (hb0 : Hid (BsAt w (Out []) (.slice Ab nb cb) b)) (Ac : Option Addr) (nc cc : Nat) (c : Bs) (hc0 : Hid (BsAt w (Out []) (.slice Ac nc cc) c)) (hf : Hid (fewB d = true)) (hl : nb ≤ 128) (hl2 : nc ≤ 128) (hok : Hid (d.okB = true)) (hio : Hid (d.hasB i = true)) (hoo : Hid (d.hasB o = true)) (hns : Hid (d.sectors.length = ns)) (hnp : Hid (d.pending.length = np)) (hbl : Hid (b.length = nb)) (hcl : Hid (c.length = nc)) (hns6 : Hid (ns ≤ 4096)) (hnp6 : np < 4096) (hne : Hid ((i != o) = false)) (hfull : Hid (np + 1 < 4096)) (htr : Hid (tearB ((d.put i b).put o c) = false)) : Calls Try.prog 7 #[.agg #[.slice As ns cs, .slice Ap np cp, .int .i64 dl, .bool false], .int .i64 i, .int .i64 o, .slice Ab nb cb, .slice Ac nc cc] w (fun e w' => e = .returned (.bool true) ∧ Below w.heap.size w w') := by
  have hB := Below.refl w.heap.size w
  have hL := InW.nil w
  go_enter Try.func7, Try.ntmps7
  go_wp2_with fail
  have hst := (Below.refl w.heap.size w).alloc (Nat.le_refl _) (.cells #[.slice As ns cs, .slice Ap np cp, .int .i64 dl, .bool false] 25)
  replace hD := dk_later hD hst
  replace hb0 := bs_later hb0 hst
  replace hc0 := bs_later hc0 hst
  replace hL := hL.later hst.size
  replace hB := hB.trans (hst.mono hB.size)
  have X0 := Box.new w [.slice As ns cs, .slice Ap np cp, .int .i64 dl, .bool false] 25
  have hzX0 : Hid ((w.alloc (.cells #[.slice As ns cs, .slice Ap np cp, .int .i64 dl, .bool false] 25)).heap.size = w.heap.size + 1) := Lib.hid (by simp)
  clear hst
  generalize w.alloc (.cells #[.slice As ns cs, .slice Ap np cp, .int .i64 dl, .bool false] 25) = w1 at hB hL hzX0 X0 hD hb0 hc0 ⊢
  generalize hga : w.heap.size = X0a at hzX0 X0 ⊢
  clear hga
  refine (dSane_any _).mono ?_
  rintro e w2 ⟨rfl, hb⟩
  replace X0 := X0.later hb
  replace hD := dk_later hD hb
  replace hb0 := bs_later hb0 hb
  replace hc0 := bs_later hc0 hb
  replace hB := hB.trans (hb.mono hB.size)
  replace hL := hL.later hb.size
  clear hb
  clear hzX0
  have X0c0 : w2.cell? ⟨X0a, 0, none⟩ = some (.slice As ns cs) := X0.cell 0
  have X0c1 : w2.cell? ⟨X0a, 1, none⟩ = some (.slice Ap np cp) := X0.cell 1
  have X0c2 : w2.cell? ⟨X0a, 2, none⟩ = some (.int .i64 dl) := X0.cell 2
  have X0c3 : w2.cell? ⟨X0a, 3, none⟩ = some (.bool false) := X0.cell 3
  have X0z : X0a < w2.heap.size := X0.lt
  go_wp2_with fail
  clear X0c0 X0c1 X0c2 X0c3 X0z
  refine (dFew_is hD hd.out hsm hf).mono ?_
  rintro e w3 ⟨rfl, hb⟩
  replace X0 := X0.later hb
  replace hD := dk_later hD hb
  replace hb0 := bs_later hb0 hb
  replace hc0 := bs_later hc0 hb
  replace hB := hB.trans (hb.mono hB.size)
  replace hL := hL.later hb.size
  clear hb
  have hst0 : d.stopped = false := hd.out.stopped
  obtain ⟨b0, hre, hb0l⟩ := readable hok.out hst0 hoo.out
  have hok1 : (d.put i b).okB = true := put_ok hok.out hio.out (by rw [hbl.out]; exact hl) (by rw [hnp.out]; exact hnp6)
  have hw1 : writeT d i b = (d.put i b, 0) := write_eq (runs_of hok.out hst0) hio.out (by rw [hbl.out]; exact hl) (by rw [hnp.out]; omega)
  have hm1 : readT (d.put i b) i = (padTo b, 0) := read_put_same hok1 hst0 hio.out
  have hpl : (padTo b).length = 128 := padTo_length (by rw [hbl.out]; exact hl)
  have hp1 : (d.put i b).pending.length = np + 1 := by rw [Dk.put, List.length_append, hnp.out]; rfl
  have hi1 : DkIs (d.put i b) dl false := ⟨hd.out.left, hst0⟩
  obtain rfl : i = o := by simpa using hne.out
  have ha1 : readT (d.put i b) i = (padTo b, 0) := hm1
  replace hre := Lib.hid hre
  replace hb0l := Lib.hid hb0l
  replace hok1 := Lib.hid hok1
  replace hw1 := Lib.hid hw1
  replace hm1 := Lib.hid hm1
  replace hpl := Lib.hid hpl
  replace hp1 := Lib.hid hp1
  replace hi1 := Lib.hid hi1
  replace ha1 := Lib.hid ha1
  have hst0 := Lib.hid hst0
  have X0c0 : w3.cell? ⟨X0a, 0, none⟩ = some (.slice As ns cs) := X0.cell 0
  have X0c1 : w3.cell? ⟨X0a, 1, none⟩ = some (.slice Ap np cp) := X0.cell 1
  have X0c2 : w3.cell? ⟨X0a, 2, none⟩ = some (.int .i64 dl) := X0.cell 2
  have X0c3 : w3.cell? ⟨X0a, 3, none⟩ = some (.bool false) := X0.cell 3
  have X0z : X0a < w3.heap.size := X0.lt
  go_wp2_with fail
  clear X0c0 X0c1 X0c2 X0c3 X0z
  refine (dRead_at i hD hd.out).mono ?_
  rintro e w4 hh
  obtain ⟨Ar, cr, rfl, Rr, hb⟩ := RetBs.is hh hL hre hb0l
  replace X0 := X0.later hb
  replace hD := dk_later hD hb
  replace hb0 := bs_later hb0 hb
  replace hc0 := bs_later hc0 hb
  replace hB := hB.trans (hb.mono hB.size)
  replace hL := hL.later hb.size
  clear hb
  have X0c0 : w4.cell? ⟨X0a, 0, none⟩ = some (.slice As ns cs) := X0.cell 0
  have X0c1 : w4.cell? ⟨X0a, 1, none⟩ = some (.slice Ap np cp) := X0.cell 1
  have X0c2 : w4.cell? ⟨X0a, 2, none⟩ = some (.int .i64 dl) := X0.cell 2
  have X0c3 : w4.cell? ⟨X0a, 3, none⟩ = some (.bool false) := X0.cell 3
  have X0z : X0a < w4.heap.size := X0.lt
  go_wp2_with fail
  clear X0c0 X0c1 X0c2 X0c3 X0z
  refine (dWrite_at i hD hd.out hb0).mono ?_
  rintro e w5 hh
  obtain ⟨A1, c1, P1, q1, rfl, D1, hb⟩ := RetDk.is hh hL hw1 hns hp1 (Lib.hid hi1.out.left) (Lib.hid hi1.out.stopped)
  replace X0 := X0.later hb
  replace hD := dk_later hD hb
  replace hb0 := bs_later hb0 hb
  replace hc0 := bs_later hc0 hb
  replace Rr := bs_later Rr hb
  replace hB := hB.trans (hb.mono hB.size)
  replace hL := hL.later hb.size
  clear hb
  go_wp2_with fail
  have hst := (Below.refl w5.heap.size w5).alloc (Nat.le_refl _) (.cells #[.slice A1 ns c1, .slice P1 (np + 1) q1, .int .i64 dl, .bool false] 25)
  replace X0 := X0.later hst
  replace hD := dk_later hD hst
  replace hb0 := bs_later hb0 hst
  replace hc0 := bs_later hc0 hst
  replace Rr := bs_later Rr hst
  replace D1 := dk_later D1 hst
  replace hL := hL.later hst.size
  replace hB := hB.trans (hst.mono hB.size)
  have X1 := Box.new w5 [.slice A1 ns c1, .slice P1 (np + 1) q1, .int .i64 dl, .bool false] 25
  have hzX1 : Hid ((w5.alloc (.cells #[.slice A1 ns c1, .slice P1 (np + 1) q1, .int .i64 dl, .bool false] 25)).heap.size = w5.heap.size + 1) := Lib.hid (by simp)
  clear hst
  generalize w5.alloc (.cells #[.slice A1 ns c1, .slice P1 (np + 1) q1, .int .i64 dl, .bool false] 25) = w6 at hB hL hzX1 X1 X0 hD hb0 hc0 Rr D1 ⊢
  generalize hga : w5.heap.size = X1a at hzX1 X1 ⊢
  clear hga
  refine (dRead_at i D1 hi1.out).mono ?_
  rintro e w7 hh
  obtain ⟨Aa, ca, rfl, Ra, hb⟩ := RetBs.is hh hL ha1 hpl
  replace X0 := X0.later hb
  replace X1 := X1.later hb
  replace hD := dk_later hD hb
  replace hb0 := bs_later hb0 hb
  replace hc0 := bs_later hc0 hb
  replace Rr := bs_later Rr hb
  replace D1 := dk_later D1 hb
  replace hB := hB.trans (hb.mono hB.size)
  replace hL := hL.later hb.size
  clear hb
  clear hzX1
  have X1c0 : w7.cell? ⟨X1a, 0, none⟩ = some (.slice A1 ns c1) := X1.cell 0
  have X1c1 : w7.cell? ⟨X1a, 1, none⟩ = some (.slice P1 (np + 1) q1) := X1.cell 1
  have X1c2 : w7.cell? ⟨X1a, 2, none⟩ = some (.int .i64 dl) := X1.cell 2
  have X1c3 : w7.cell? ⟨X1a, 3, none⟩ = some (.bool false) := X1.cell 3
  have X1z : X1a < w7.heap.size := X1.lt
  go_wp2_with fail
  clear X1c0 X1c1 X1c2 X1c3 X1z
  refine (dRead_at i D1 hi1.out).mono ?_
  rintro e w8 hh
  obtain ⟨Am, cm, rfl, Rm, hb⟩ := RetBs.is hh hL hm1 hpl
  replace X0 := X0.later hb
  replace X1 := X1.later hb
  replace hD := dk_later hD hb
  replace hb0 := bs_later hb0 hb
  replace hc0 := bs_later hc0 hb
  replace Rr := bs_later Rr hb
  replace D1 := dk_later D1 hb
  replace Ra := bs_later Ra hb
  replace hB := hB.trans (hb.mono hB.size)
  replace hL := hL.later hb.size
  clear hb
  obtain ⟨mb, mo, rfl, hcm, hcm2, _, _⟩ := Rm.out.row (by decide)
  have vt := Later.str (Rm.out.take (k := nb) hl ⟨hcm, hcm2⟩)
  have vb := Later.str hb0.out
  have vr := Later.str Rr.out
  have va := Later.str Ra.out
  rw [take_pad hbl.out] at vt
  unfold maxLen at hcm2
  have e1 : (nb : Int) ≤ (cm : Int) := by omega
  have e2 : (nb : Int) ≤ 128 := by omega
  generalize strB b = sb at vt vb
  generalize strB b0 = s0 at vr
  generalize strB (padTo b) = sp at va
  go_wp2_with fail
  refine wp_region_later (by kernel_rfl) (by kernel_rfl) ?_
  repeat (go_big_quiet_step (fail))
  refine wpQuiet_nil ?_
  intro _ hw'
  obtain ⟨yq, hw''⟩ := hw'
  subst hw''
  clear vt vb vr va e1 e2
  obtain ⟨wq, hz, hb⟩ : ∃ z, yq.w = z ∧ Below w8.heap.size w8 z := ⟨_, rfl, yq.below⟩
  rw [hz]
  clear hz
  replace X0 := X0.later hb
  replace X1 := X1.later hb
  replace hD := dk_later hD hb
  replace hb0 := bs_later hb0 hb
  replace hc0 := bs_later hc0 hb
  replace Rr := bs_later Rr hb
  replace D1 := dk_later D1 hb
  replace Ra := bs_later Ra hb
  replace Rm := bs_later Rm hb
  replace hB := hB.trans (hb.mono hB.size)
  replace hL := hL.later hb.size
  clear hb
  clear Rm Ra Rr
  have hw2 : Hid (writeT (d.put i b) i c = ((d.put i b).put i c, 0)) := Lib.hid (write_eq (runs_of hok1.out hst0.out) hoo.out (by rw [hcl.out]; exact hl2) (by rw [hp1.out]; have := hfull.out; omega))
  have hok2 : Hid (((d.put i b).put i c).okB = true) := Lib.hid (put_ok hok1.out hoo.out (by rw [hcl.out]; exact hl2) (by rw [hp1.out]; exact hfull.out))
  have hp2 : Hid (((d.put i b).put i c).pending.length = np + 1 + 1) := by rw [Hid, Dk.put, List.length_append, hp1.out]; rfl
  have hi2 : Hid (DkIs ((d.put i b).put i c) dl false) := ⟨hd.out.left, hst0.out⟩
  have X1c0 : wq.cell? ⟨X1a, 0, none⟩ = some (.slice A1 ns c1) := X1.cell 0
  have X1c1 : wq.cell? ⟨X1a, 1, none⟩ = some (.slice P1 (np + 1) q1) := X1.cell 1
  have X1c2 : wq.cell? ⟨X1a, 2, none⟩ = some (.int .i64 dl) := X1.cell 2
  have X1c3 : wq.cell? ⟨X1a, 3, none⟩ = some (.bool false) := X1.cell 3
  have X1z : X1a < wq.heap.size := X1.lt
  go_wp2_with fail
  clear X1c0 X1c1 X1c2 X1c3 X1z
  refine (dWrite_at i D1 hi1.out hc0).mono ?_
  rintro e w9 hh
  obtain ⟨A2, c2, P2, q2, rfl, D2, hb⟩ := RetDk.is hh hL hw2 hns hp2 (Lib.hid hi2.out.left) (Lib.hid hi2.out.stopped)
  replace X0 := X0.later hb
  replace X1 := X1.later hb
  replace hD := dk_later hD hb
  replace hb0 := bs_later hb0 hb
  replace hc0 := bs_later hc0 hb
  replace D1 := dk_later D1 hb
  replace hB := hB.trans (hb.mono hB.size)
  replace hL := hL.later hb.size
  clear hb
  have hsy : Hid (syncT ((d.put i b).put i c) = (((d.put i b).put i c).synced, 0)) := Lib.hid (sync_go (runs_of hok2.out hst0.out) htr.out)
  have hts : Hid (((d.put i b).put i c).synced.sectors.length = ns) := by
    rw [Hid]
    show (perf _ _).length = ns
    rw [perf_length]
    exact hns.out
  obtain ⟨lz, hlz⟩ : ∃ l, ((d.put i b).put i c).synced.left = l := ⟨_, rfl⟩
  replace hlz := Lib.hid hlz
  have hi3 : Hid (DkIs ((d.put i b).put i c).synced lz false) := ⟨hlz.out, rfl⟩
  have hck : Hid (((d.put i b).put i c).synced.checkT = 0) := Lib.hid (check_good (synced_ok hok2.out htr.out))
  have hrs : Hid (∀ k : Nat, k < ns → readT ((d.put i b).put i c).synced k = readT ((d.put i b).put i c) k) := fun k hk => read_synced hok2.out hst0.out htr.out (by show k < d.sectors.length; rw [hns.out]; exact hk)
  have hrd : Hid (∀ k : Nat, k < ns → ∃ u, readT ((d.put i b).put i c) k = (u, 0) ∧ u.length = 128) := fun k hk => readable hok2.out hst0.out (hasB_of (by omega) (by show (k : Int) < (d.sectors.length : Int); rw [hns.out]; omega))
  go_wp2_with fail
  have hst := (Below.refl w9.heap.size w9).alloc (Nat.le_refl _) (.cells #[.slice A2 ns c2, .slice P2 (np + 1 + 1) q2, .int .i64 dl, .bool false] 25)
  replace X0 := X0.later hst
  replace X1 := X1.later hst
  replace hD := dk_later hD hst
  replace hb0 := bs_later hb0 hst
  replace hc0 := bs_later hc0 hst
  replace D1 := dk_later D1 hst
  replace D2 := dk_later D2 hst
  replace hL := hL.later hst.size
  replace hB := hB.trans (hst.mono hB.size)
  have Y := Box.new w9 [.slice A2 ns c2, .slice P2 (np + 1 + 1) q2, .int .i64 dl, .bool false] 25
  have hzY : Hid ((w9.alloc (.cells #[.slice A2 ns c2, .slice P2 (np + 1 + 1) q2, .int .i64 dl, .bool false] 25)).heap.size = w9.heap.size + 1) := Lib.hid (by simp)
  clear hst
  generalize w9.alloc (.cells #[.slice A2 ns c2, .slice P2 (np + 1 + 1) q2, .int .i64 dl, .bool false] 25) = w10 at hB hL hzY Y X0 X1 hD hb0 hc0 D1 D2 ⊢
  generalize hga : w9.heap.size = Ya at hzY Y ⊢
  clear hga
  refine (dSync_at D2 hi2.out).mono ?_
  rintro e w11 hh
  obtain ⟨A3, c3, P3, q3, rfl, D3, hb⟩ := RetDk.is hh hL hsy hts (np := 0) rfl hlz (ds := false) rfl
  replace X0 := X0.later hb
  replace X1 := X1.later hb
  replace Y := Y.later hb
  replace hD := dk_later hD hb
  replace hb0 := bs_later hb0 hb
  replace hc0 := bs_later hc0 hb
  replace D1 := dk_later D1 hb
  replace D2 := dk_later D2 hb
  replace hB := hB.trans (hb.mono hB.size)
  replace hL := hL.later hb.size
  clear hb
  clear hzY
  go_wp2_with fail
  have hst := (Below.refl w11.heap.size w11).alloc (Nat.le_refl _) (.cells #[.slice A3 ns c3, .slice P3 0 q3, .int .i64 lz, .bool false] 25)
  replace X0 := X0.later hst
  replace X1 := X1.later hst
  replace Y := Y.later hst
  replace hD := dk_later hD hst
  replace hb0 := bs_later hb0 hst
  replace hc0 := bs_later hc0 hst
  replace D1 := dk_later D1 hst
  replace D2 := dk_later D2 hst
  replace D3 := dk_later D3 hst
  replace hL := hL.later hst.size
  replace hB := hB.trans (hst.mono hB.size)
  have Z := Box.new w11 [.slice A3 ns c3, .slice P3 0 q3, .int .i64 lz, .bool false] 25
  have hzZ : Hid ((w11.alloc (.cells #[.slice A3 ns c3, .slice P3 0 q3, .int .i64 lz, .bool false] 25)).heap.size = w11.heap.size + 1) := Lib.hid (by simp)
  clear hst
  generalize w11.alloc (.cells #[.slice A3 ns c3, .slice P3 0 q3, .int .i64 lz, .bool false] 25) = w12 at hB hL hzZ Z X0 X1 Y hD hb0 hc0 D1 D2 D3 ⊢
  generalize hga : w11.heap.size = Za at hzZ Z ⊢
  clear hga
  clear hzZ
  have hL := InW.nil w12
  go_loopw [23] (fun j wr => ∃ k : Nat, k ≤ ns ∧ j = .int .i64 k ∧ Box wr X0a [.slice As ns cs, .slice Ap np cp, .int .i64 dl, .bool false] ∧ Box wr Ya [.slice A2 ns c2, .slice P2 (np + 1 + 1) q2, .int .i64 dl, .bool false] ∧ Box wr Za [.slice A3 ns c3, .slice P3 0 q3, .int .i64 lz, .bool false] ∧ Hid (DkAt wr (Out []) (.slice A2 ns c2) (.slice P2 (np + 1 + 1) q2) ((d.put i b).put i c)) ∧ Hid (DkAt wr (Out []) (.slice A3 ns c3) (.slice P3 0 q3) ((d.put i b).put i c).synced) ∧ Below w.heap.size w wr) (fun i _ => ns - (intOf i).toNat)
  case atStart => exact ⟨0, by omega, rfl, X0, Y, Z, D2, D3, hB⟩
  case round =>
    clear X0 Y Z D2 D3 hB hL
    obtain ⟨k, hk, rfl, X0, Y, Z, D2, D3, hB⟩ := hrel
    have hL := InW.nil wr
    have x0 : wr.cell? ⟨X0a, 0, none⟩ = some (.slice As ns cs) := X0.cell 0
    have xz := X0.lt
    by_cases hlt : k < ns
    · obtain ⟨u, hu, hul⟩ := hrd.out k hlt
      have hu2 := Lib.hid ((hrs.out k hlt).trans hu)
      replace hu := Lib.hid hu
      replace hul := Lib.hid hul
      have Yc0 : wr.cell? ⟨Ya, 0, none⟩ = some (.slice A2 ns c2) := Y.cell 0
      have Yc1 : wr.cell? ⟨Ya, 1, none⟩ = some (.slice P2 (np + 1 + 1) q2) := Y.cell 1
      have Yc2 : wr.cell? ⟨Ya, 2, none⟩ = some (.int .i64 dl) := Y.cell 2
      have Yc3 : wr.cell? ⟨Ya, 3, none⟩ = some (.bool false) := Y.cell 3
      have Yz : Ya < wr.heap.size := Y.lt
      go_wp2_with fail
      clear Yc0 Yc1 Yc2 Yc3 Yz
      clear x0 xz
      refine (dRead_at k D2 hi2.out).mono ?_
      rintro e w13 hh
      obtain ⟨Au, cu, rfl, Ru, hb⟩ := RetBs.is hh hL hu hul
      replace X0 := X0.later hb
      replace Y := Y.later hb
      replace Z := Z.later hb
      replace D2 := dk_later D2 hb
      replace D3 := dk_later D3 hb
      replace hB := hB.trans (hb.mono hB.size)
      replace hL := hL.later hb.size
      clear hb
      have Zc0 : w13.cell? ⟨Za, 0, none⟩ = some (.slice A3 ns c3) := Z.cell 0
      have Zc1 : w13.cell? ⟨Za, 1, none⟩ = some (.slice P3 0 q3) := Z.cell 1
      have Zc2 : w13.cell? ⟨Za, 2, none⟩ = some (.int .i64 lz) := Z.cell 2
      have Zc3 : w13.cell? ⟨Za, 3, none⟩ = some (.bool false) := Z.cell 3
      have Zz : Za < w13.heap.size := Z.lt
      go_wp2_with fail
      clear Zc0 Zc1 Zc2 Zc3 Zz
      refine (dRead_at k D3 hi3.out).mono ?_
      rintro e w14 hh
      obtain ⟨Av, cv, rfl, Rv, hb⟩ := RetBs.is hh hL hu2 hul
      replace X0 := X0.later hb
      replace Y := Y.later hb
      replace Z := Z.later hb
      replace D2 := dk_later D2 hb
      replace D3 := dk_later D3 hb
      replace Ru := bs_later Ru hb
      replace hB := hB.trans (hb.mono hB.size)
      replace hL := hL.later hb.size
      clear hb
      have vu := Ru.out.str
      have vv := Rv.out.str
      generalize strB u = su at vu vv
      have q6 := hns6.out
      go_wp2
      exact ⟨⟨k + 1, by omega, by go_num, X0, Y, Z, D2, D3, hB⟩, by simp [intOf]; omega⟩
    · obtain rfl : ns = k := by omega
      have Zc0 : wr.cell? ⟨Za, 0, none⟩ = some (.slice A3 ns c3) := Z.cell 0
      have Zc1 : wr.cell? ⟨Za, 1, none⟩ = some (.slice P3 0 q3) := Z.cell 1
      have Zc2 : wr.cell? ⟨Za, 2, none⟩ = some (.int .i64 lz) := Z.cell 2
      have Zc3 : wr.cell? ⟨Za, 3, none⟩ = some (.bool false) := Z.cell 3
      have Zz : Za < wr.heap.size := Z.lt
      go_wp2_with fail
      clear Zc0 Zc1 Zc2 Zc3 Zz
      clear x0 xz
      refine (dCheck_is D3 hi3.out hck).mono ?_
      rintro e wl ⟨rfl, hb⟩
      replace hB := hB.trans (hb.mono hB.size)
      go_wp2
      go_ret
      exact ⟨rfl, hB⟩

set_option maxRecDepth 100000 in
set_option maxHeartbeats 16000000 in
theorem lawR_n_full (d : Dk) (As : Option Addr) (ns cs : Nat) (Ap : Option Addr) (np cp : Nat) (dl : Int) (w : World) (hD : Hid (DkAt w (Out []) (.slice As ns cs) (.slice Ap np cp) d)) (hd : Hid (DkIs d dl false)) (hsm : Hid d.small) (i o : Int) (Ab : Option Addr) (nb cb : Nat) (b : Bs) (hb0 : Hid (BsAt w (Out []) (.slice Ab nb cb) b)) (Ac : Option Addr) (nc cc : Nat) (c : Bs) (hc0 : Hid (BsAt w (Out []) (.slice Ac nc cc) c)) (hf : Hid (fewB d = true)) (hl : nb ≤ 128) (hl2 : nc ≤ 128) (hok : Hid (d.okB = true)) (hio : Hid (d.hasB i = true)) (hoo : Hid (d.hasB o = true)) (hns : Hid (d.sectors.length = ns)) (hnp : Hid (d.pending.length = np)) (hbl : Hid (b.length = nb)) (hcl : Hid (c.length = nc)) (hns6 : Hid (ns ≤ 4096)) (hnp6 : np < 4096) (hne : Hid ((i != o) = true)) (hfull : Hid (np + 1 = 4096)) : Calls Try.prog 7 #[.agg #[.slice As ns cs, .slice Ap np cp, .int .i64 dl, .bool false], .int .i64 i, .int .i64 o, .slice Ab nb cb, .slice Ac nc cc] w (fun e w' => e = .returned (.bool true) ∧ Below w.heap.size w w') := by
  have hB := Below.refl w.heap.size w
  have hL := InW.nil w
  go_enter Try.func7, Try.ntmps7
  go_wp2_with fail
  have hst := (Below.refl w.heap.size w).alloc (Nat.le_refl _) (.cells #[.slice As ns cs, .slice Ap np cp, .int .i64 dl, .bool false] 25)
  replace hD := dk_later hD hst
  replace hb0 := bs_later hb0 hst
  replace hc0 := bs_later hc0 hst
  replace hL := hL.later hst.size
  replace hB := hB.trans (hst.mono hB.size)
  have X0 := Box.new w [.slice As ns cs, .slice Ap np cp, .int .i64 dl, .bool false] 25
  have hzX0 : Hid ((w.alloc (.cells #[.slice As ns cs, .slice Ap np cp, .int .i64 dl, .bool false] 25)).heap.size = w.heap.size + 1) := Lib.hid (by simp)
  clear hst
  generalize w.alloc (.cells #[.slice As ns cs, .slice Ap np cp, .int .i64 dl, .bool false] 25) = w1 at hB hL hzX0 X0 hD hb0 hc0 ⊢
  generalize hga : w.heap.size = X0a at hzX0 X0 ⊢
  clear hga
  refine (dSane_any _).mono ?_
  rintro e w2 ⟨rfl, hb⟩
  replace X0 := X0.later hb
  replace hD := dk_later hD hb
  replace hb0 := bs_later hb0 hb
  replace hc0 := bs_later hc0 hb
  replace hB := hB.trans (hb.mono hB.size)
  replace hL := hL.later hb.size
  clear hb
  clear hzX0
  have X0c0 : w2.cell? ⟨X0a, 0, none⟩ = some (.slice As ns cs) := X0.cell 0
  have X0c1 : w2.cell? ⟨X0a, 1, none⟩ = some (.slice Ap np cp) := X0.cell 1
  have X0c2 : w2.cell? ⟨X0a, 2, none⟩ = some (.int .i64 dl) := X0.cell 2
  have X0c3 : w2.cell? ⟨X0a, 3, none⟩ = some (.bool false) := X0.cell 3
  have X0z : X0a < w2.heap.size := X0.lt
  go_wp2_with fail
  clear X0c0 X0c1 X0c2 X0c3 X0z
  refine (dFew_is hD hd.out hsm hf).mono ?_
  rintro e w3 ⟨rfl, hb⟩
  replace X0 := X0.later hb
  replace hD := dk_later hD hb
  replace hb0 := bs_later hb0 hb
  replace hc0 := bs_later hc0 hb
  replace hB := hB.trans (hb.mono hB.size)
  replace hL := hL.later hb.size
  clear hb
  have hst0 : d.stopped = false := hd.out.stopped
  obtain ⟨b0, hre, hb0l⟩ := readable hok.out hst0 hoo.out
  have hok1 : (d.put i b).okB = true := put_ok hok.out hio.out (by rw [hbl.out]; exact hl) (by rw [hnp.out]; exact hnp6)
  have hw1 : writeT d i b = (d.put i b, 0) := write_eq (runs_of hok.out hst0) hio.out (by rw [hbl.out]; exact hl) (by rw [hnp.out]; omega)
  have hm1 : readT (d.put i b) i = (padTo b, 0) := read_put_same hok1 hst0 hio.out
  have hpl : (padTo b).length = 128 := padTo_length (by rw [hbl.out]; exact hl)
  have hp1 : (d.put i b).pending.length = np + 1 := by rw [Dk.put, List.length_append, hnp.out]; rfl
  have hi1 : DkIs (d.put i b) dl false := ⟨hd.out.left, hst0⟩
  have hne2 : i ≠ o := by simpa using hne.out
  have ha1 : readT (d.put i b) o = (b0, 0) := (read_put_other hok.out hok1 hst0 hoo.out hne2).trans hre
  clear hne2
  replace hre := Lib.hid hre
  replace hb0l := Lib.hid hb0l
  replace hok1 := Lib.hid hok1
  replace hw1 := Lib.hid hw1
  replace hm1 := Lib.hid hm1
  replace hpl := Lib.hid hpl
  replace hp1 := Lib.hid hp1
  replace hi1 := Lib.hid hi1
  replace ha1 := Lib.hid ha1
  have hst0 := Lib.hid hst0
  have X0c0 : w3.cell? ⟨X0a, 0, none⟩ = some (.slice As ns cs) := X0.cell 0
  have X0c1 : w3.cell? ⟨X0a, 1, none⟩ = some (.slice Ap np cp) := X0.cell 1
  have X0c2 : w3.cell? ⟨X0a, 2, none⟩ = some (.int .i64 dl) := X0.cell 2
  have X0c3 : w3.cell? ⟨X0a, 3, none⟩ = some (.bool false) := X0.cell 3
  have X0z : X0a < w3.heap.size := X0.lt
  go_wp2_with fail
  clear X0c0 X0c1 X0c2 X0c3 X0z
  refine (dRead_at o hD hd.out).mono ?_
  rintro e w4 hh
  obtain ⟨Ar, cr, rfl, Rr, hb⟩ := RetBs.is hh hL hre hb0l
  replace X0 := X0.later hb
  replace hD := dk_later hD hb
  replace hb0 := bs_later hb0 hb
  replace hc0 := bs_later hc0 hb
  replace hB := hB.trans (hb.mono hB.size)
  replace hL := hL.later hb.size
  clear hb
  have X0c0 : w4.cell? ⟨X0a, 0, none⟩ = some (.slice As ns cs) := X0.cell 0
  have X0c1 : w4.cell? ⟨X0a, 1, none⟩ = some (.slice Ap np cp) := X0.cell 1
  have X0c2 : w4.cell? ⟨X0a, 2, none⟩ = some (.int .i64 dl) := X0.cell 2
  have X0c3 : w4.cell? ⟨X0a, 3, none⟩ = some (.bool false) := X0.cell 3
  have X0z : X0a < w4.heap.size := X0.lt
  go_wp2_with fail
  clear X0c0 X0c1 X0c2 X0c3 X0z
  refine (dWrite_at i hD hd.out hb0).mono ?_
  rintro e w5 hh
  obtain ⟨A1, c1, P1, q1, rfl, D1, hb⟩ := RetDk.is hh hL hw1 hns hp1 (Lib.hid hi1.out.left) (Lib.hid hi1.out.stopped)
  replace X0 := X0.later hb
  replace hD := dk_later hD hb
  replace hb0 := bs_later hb0 hb
  replace hc0 := bs_later hc0 hb
  replace Rr := bs_later Rr hb
  replace hB := hB.trans (hb.mono hB.size)
  replace hL := hL.later hb.size
  clear hb
  go_wp2_with fail
  have hst := (Below.refl w5.heap.size w5).alloc (Nat.le_refl _) (.cells #[.slice A1 ns c1, .slice P1 (np + 1) q1, .int .i64 dl, .bool false] 25)
  replace X0 := X0.later hst
  replace hD := dk_later hD hst
  replace hb0 := bs_later hb0 hst
  replace hc0 := bs_later hc0 hst
  replace Rr := bs_later Rr hst
  replace D1 := dk_later D1 hst
  replace hL := hL.later hst.size
  replace hB := hB.trans (hst.mono hB.size)
  have X1 := Box.new w5 [.slice A1 ns c1, .slice P1 (np + 1) q1, .int .i64 dl, .bool false] 25
  have hzX1 : Hid ((w5.alloc (.cells #[.slice A1 ns c1, .slice P1 (np + 1) q1, .int .i64 dl, .bool false] 25)).heap.size = w5.heap.size + 1) := Lib.hid (by simp)
  clear hst
  generalize w5.alloc (.cells #[.slice A1 ns c1, .slice P1 (np + 1) q1, .int .i64 dl, .bool false] 25) = w6 at hB hL hzX1 X1 X0 hD hb0 hc0 Rr D1 ⊢
  generalize hga : w5.heap.size = X1a at hzX1 X1 ⊢
  clear hga
  refine (dRead_at o D1 hi1.out).mono ?_
  rintro e w7 hh
  obtain ⟨Aa, ca, rfl, Ra, hb⟩ := RetBs.is hh hL ha1 hb0l
  replace X0 := X0.later hb
  replace X1 := X1.later hb
  replace hD := dk_later hD hb
  replace hb0 := bs_later hb0 hb
  replace hc0 := bs_later hc0 hb
  replace Rr := bs_later Rr hb
  replace D1 := dk_later D1 hb
  replace hB := hB.trans (hb.mono hB.size)
  replace hL := hL.later hb.size
  clear hb
  clear hzX1
  have X1c0 : w7.cell? ⟨X1a, 0, none⟩ = some (.slice A1 ns c1) := X1.cell 0
  have X1c1 : w7.cell? ⟨X1a, 1, none⟩ = some (.slice P1 (np + 1) q1) := X1.cell 1
  have X1c2 : w7.cell? ⟨X1a, 2, none⟩ = some (.int .i64 dl) := X1.cell 2
  have X1c3 : w7.cell? ⟨X1a, 3, none⟩ = some (.bool false) := X1.cell 3
  have X1z : X1a < w7.heap.size := X1.lt
  go_wp2_with fail
  clear X1c0 X1c1 X1c2 X1c3 X1z
  refine (dRead_at i D1 hi1.out).mono ?_
  rintro e w8 hh
  obtain ⟨Am, cm, rfl, Rm, hb⟩ := RetBs.is hh hL hm1 hpl
  replace X0 := X0.later hb
  replace X1 := X1.later hb
  replace hD := dk_later hD hb
  replace hb0 := bs_later hb0 hb
  replace hc0 := bs_later hc0 hb
  replace Rr := bs_later Rr hb
  replace D1 := dk_later D1 hb
  replace Ra := bs_later Ra hb
  replace hB := hB.trans (hb.mono hB.size)
  replace hL := hL.later hb.size
  clear hb
  obtain ⟨mb, mo, rfl, hcm, hcm2, _, _⟩ := Rm.out.row (by decide)
  have vt := Later.str (Rm.out.take (k := nb) hl ⟨hcm, hcm2⟩)
  have vb := Later.str hb0.out
  have vr := Later.str Rr.out
  have va := Later.str Ra.out
  rw [take_pad hbl.out] at vt
  unfold maxLen at hcm2
  have e1 : (nb : Int) ≤ (cm : Int) := by omega
  have e2 : (nb : Int) ≤ 128 := by omega
  have qn1 : (i != o) = true := hne.out
  have qn2 : (i == o) = false := by simpa using hne.out
  have qn3 : i ≠ o := by simpa using hne.out
  have qn4 : decide (i = o) = false := by simpa using hne.out
  have qn5 : decide (i ≠ o) = true := by simpa using hne.out
  generalize strB b = sb at vt vb
  generalize strB b0 = s0 at vr va

  go_wp2_with fail
  refine wp_region_later (by kernel_rfl) (by kernel_rfl) ?_
  repeat (go_big_quiet_step (fail))
  refine wpQuiet_nil ?_
  intro _ hw'
  obtain ⟨yq, hw''⟩ := hw'
  subst hw''
  clear vt vb vr va e1 e2 qn1 qn2 qn3 qn4 qn5
  obtain ⟨wq, hz, hb⟩ : ∃ z, yq.w = z ∧ Below w8.heap.size w8 z := ⟨_, rfl, yq.below⟩
  rw [hz]
  clear hz
  replace X0 := X0.later hb
  replace X1 := X1.later hb
  replace hD := dk_later hD hb
  replace hb0 := bs_later hb0 hb
  replace hc0 := bs_later hc0 hb
  replace Rr := bs_later Rr hb
  replace D1 := dk_later D1 hb
  replace Ra := bs_later Ra hb
  replace Rm := bs_later Rm hb
  replace hB := hB.trans (hb.mono hB.size)
  replace hL := hL.later hb.size
  clear hb
  clear Rm Ra Rr
  have hw2 : Hid (writeT (d.put i b) o c = (Dk.zero, 2)) := by rw [Hid, writeT, if_pos ⟨runs_of hok1.out hst0.out, hoo.out⟩, if_pos (by rw [hcl.out]; exact hl2), if_pos (by rw [hp1.out]; exact hfull.out)]
  have X1c0 : wq.cell? ⟨X1a, 0, none⟩ = some (.slice A1 ns c1) := X1.cell 0
  have X1c1 : wq.cell? ⟨X1a, 1, none⟩ = some (.slice P1 (np + 1) q1) := X1.cell 1
  have X1c2 : wq.cell? ⟨X1a, 2, none⟩ = some (.int .i64 dl) := X1.cell 2
  have X1c3 : wq.cell? ⟨X1a, 3, none⟩ = some (.bool false) := X1.cell 3
  have X1z : X1a < wq.heap.size := X1.lt
  go_wp2_with fail
  clear X1c0 X1c1 X1c2 X1c3 X1z
  refine (dWrite_at o D1 hi1.out hc0).mono ?_
  rintro e w9 hh
  obtain ⟨A2, c2, P2, q2, rfl, D2, hb⟩ := RetDk.is hh hL hw2 (ns := 0) (np := 0) (dl := 0) (ds := false) rfl rfl rfl rfl
  replace X0 := X0.later hb
  replace X1 := X1.later hb
  replace hD := dk_later hD hb
  replace hb0 := bs_later hb0 hb
  replace hc0 := bs_later hc0 hb
  replace D1 := dk_later D1 hb
  replace hB := hB.trans (hb.mono hB.size)
  replace hL := hL.later hb.size
  clear hb
  have hst := (Below.refl w9.heap.size w9).alloc (Nat.le_refl _) (.cells #[.slice A2 0 c2, .slice P2 0 q2, .int .i64 0, .bool false] 25)
  go_wp2
  go_ret
  exact ⟨rfl, hB.trans (hst.mono hB.size)⟩

set_option maxRecDepth 100000 in
set_option maxHeartbeats 16000000 in
theorem lawR_n_tear (d : Dk) (As : Option Addr) (ns cs : Nat) (Ap : Option Addr) (np cp : Nat) (dl : Int) (w : World) (hD : Hid (DkAt w (Out []) (.slice As ns cs) (.slice Ap np cp) d)) (hd : Hid (DkIs d dl false)) (hsm : Hid d.small) (i o : Int) (Ab : Option Addr) (nb cb : Nat) (b : Bs) (hb0 : Hid (BsAt w (Out []) (.slice Ab nb cb) b)) (Ac : Option Addr) (nc cc : Nat) (c : Bs) (hc0 : Hid (BsAt w (Out []) (.slice Ac nc cc) c)) (hf : Hid (fewB d = true)) (hl : nb ≤ 128) (hl2 : nc ≤ 128) (hok : Hid (d.okB = true)) (hio : Hid (d.hasB i = true)) (hoo : Hid (d.hasB o = true)) (hns : Hid (d.sectors.length = ns)) (hnp : Hid (d.pending.length = np)) (hbl : Hid (b.length = nb)) (hcl : Hid (c.length = nc)) (hns6 : Hid (ns ≤ 4096)) (hnp6 : np < 4096) (hne : Hid ((i != o) = true)) (hfull : Hid (np + 1 < 4096)) (htr : Hid (tearB ((d.put i b).put o c) = true)) : Calls Try.prog 7 #[.agg #[.slice As ns cs, .slice Ap np cp, .int .i64 dl, .bool false], .int .i64 i, .int .i64 o, .slice Ab nb cb, .slice Ac nc cc] w (fun e w' => e = .returned (.bool true) ∧ Below w.heap.size w w') := by
  have hB := Below.refl w.heap.size w
  have hL := InW.nil w
  go_enter Try.func7, Try.ntmps7
  go_wp2_with fail
  have hst := (Below.refl w.heap.size w).alloc (Nat.le_refl _) (.cells #[.slice As ns cs, .slice Ap np cp, .int .i64 dl, .bool false] 25)
  replace hD := dk_later hD hst
  replace hb0 := bs_later hb0 hst
  replace hc0 := bs_later hc0 hst
  replace hL := hL.later hst.size
  replace hB := hB.trans (hst.mono hB.size)
  have X0 := Box.new w [.slice As ns cs, .slice Ap np cp, .int .i64 dl, .bool false] 25
  have hzX0 : Hid ((w.alloc (.cells #[.slice As ns cs, .slice Ap np cp, .int .i64 dl, .bool false] 25)).heap.size = w.heap.size + 1) := Lib.hid (by simp)
  clear hst
  generalize w.alloc (.cells #[.slice As ns cs, .slice Ap np cp, .int .i64 dl, .bool false] 25) = w1 at hB hL hzX0 X0 hD hb0 hc0 ⊢
  generalize hga : w.heap.size = X0a at hzX0 X0 ⊢
  clear hga
  refine (dSane_any _).mono ?_
  rintro e w2 ⟨rfl, hb⟩
  replace X0 := X0.later hb
  replace hD := dk_later hD hb
  replace hb0 := bs_later hb0 hb
  replace hc0 := bs_later hc0 hb
  replace hB := hB.trans (hb.mono hB.size)
  replace hL := hL.later hb.size
  clear hb
  clear hzX0
  have X0c0 : w2.cell? ⟨X0a, 0, none⟩ = some (.slice As ns cs) := X0.cell 0
  have X0c1 : w2.cell? ⟨X0a, 1, none⟩ = some (.slice Ap np cp) := X0.cell 1
  have X0c2 : w2.cell? ⟨X0a, 2, none⟩ = some (.int .i64 dl) := X0.cell 2
  have X0c3 : w2.cell? ⟨X0a, 3, none⟩ = some (.bool false) := X0.cell 3
  have X0z : X0a < w2.heap.size := X0.lt
  go_wp2_with fail
  clear X0c0 X0c1 X0c2 X0c3 X0z
  refine (dFew_is hD hd.out hsm hf).mono ?_
  rintro e w3 ⟨rfl, hb⟩
  replace X0 := X0.later hb
  replace hD := dk_later hD hb
  replace hb0 := bs_later hb0 hb
  replace hc0 := bs_later hc0 hb
  replace hB := hB.trans (hb.mono hB.size)
  replace hL := hL.later hb.size
  clear hb
  have hst0 : d.stopped = false := hd.out.stopped
  obtain ⟨b0, hre, hb0l⟩ := readable hok.out hst0 hoo.out
  have hok1 : (d.put i b).okB = true := put_ok hok.out hio.out (by rw [hbl.out]; exact hl) (by rw [hnp.out]; exact hnp6)
  have hw1 : writeT d i b = (d.put i b, 0) := write_eq (runs_of hok.out hst0) hio.out (by rw [hbl.out]; exact hl) (by rw [hnp.out]; omega)
  have hm1 : readT (d.put i b) i = (padTo b, 0) := read_put_same hok1 hst0 hio.out
  have hpl : (padTo b).length = 128 := padTo_length (by rw [hbl.out]; exact hl)
  have hp1 : (d.put i b).pending.length = np + 1 := by rw [Dk.put, List.length_append, hnp.out]; rfl
  have hi1 : DkIs (d.put i b) dl false := ⟨hd.out.left, hst0⟩
  have hne2 : i ≠ o := by simpa using hne.out
  have ha1 : readT (d.put i b) o = (b0, 0) := (read_put_other hok.out hok1 hst0 hoo.out hne2).trans hre
  clear hne2
  replace hre := Lib.hid hre
  replace hb0l := Lib.hid hb0l
  replace hok1 := Lib.hid hok1
  replace hw1 := Lib.hid hw1
  replace hm1 := Lib.hid hm1
  replace hpl := Lib.hid hpl
  replace hp1 := Lib.hid hp1
  replace hi1 := Lib.hid hi1
  replace ha1 := Lib.hid ha1
  have hst0 := Lib.hid hst0
  have X0c0 : w3.cell? ⟨X0a, 0, none⟩ = some (.slice As ns cs) := X0.cell 0
  have X0c1 : w3.cell? ⟨X0a, 1, none⟩ = some (.slice Ap np cp) := X0.cell 1
  have X0c2 : w3.cell? ⟨X0a, 2, none⟩ = some (.int .i64 dl) := X0.cell 2
  have X0c3 : w3.cell? ⟨X0a, 3, none⟩ = some (.bool false) := X0.cell 3
  have X0z : X0a < w3.heap.size := X0.lt
  go_wp2_with fail
  clear X0c0 X0c1 X0c2 X0c3 X0z
  refine (dRead_at o hD hd.out).mono ?_
  rintro e w4 hh
  obtain ⟨Ar, cr, rfl, Rr, hb⟩ := RetBs.is hh hL hre hb0l
  replace X0 := X0.later hb
  replace hD := dk_later hD hb
  replace hb0 := bs_later hb0 hb
  replace hc0 := bs_later hc0 hb
  replace hB := hB.trans (hb.mono hB.size)
  replace hL := hL.later hb.size
  clear hb
  have X0c0 : w4.cell? ⟨X0a, 0, none⟩ = some (.slice As ns cs) := X0.cell 0
  have X0c1 : w4.cell? ⟨X0a, 1, none⟩ = some (.slice Ap np cp) := X0.cell 1
  have X0c2 : w4.cell? ⟨X0a, 2, none⟩ = some (.int .i64 dl) := X0.cell 2
  have X0c3 : w4.cell? ⟨X0a, 3, none⟩ = some (.bool false) := X0.cell 3
  have X0z : X0a < w4.heap.size := X0.lt
  go_wp2_with fail
  clear X0c0 X0c1 X0c2 X0c3 X0z
  refine (dWrite_at i hD hd.out hb0).mono ?_
  rintro e w5 hh
  obtain ⟨A1, c1, P1, q1, rfl, D1, hb⟩ := RetDk.is hh hL hw1 hns hp1 (Lib.hid hi1.out.left) (Lib.hid hi1.out.stopped)
  replace X0 := X0.later hb
  replace hD := dk_later hD hb
  replace hb0 := bs_later hb0 hb
  replace hc0 := bs_later hc0 hb
  replace Rr := bs_later Rr hb
  replace hB := hB.trans (hb.mono hB.size)
  replace hL := hL.later hb.size
  clear hb
  go_wp2_with fail
  have hst := (Below.refl w5.heap.size w5).alloc (Nat.le_refl _) (.cells #[.slice A1 ns c1, .slice P1 (np + 1) q1, .int .i64 dl, .bool false] 25)
  replace X0 := X0.later hst
  replace hD := dk_later hD hst
  replace hb0 := bs_later hb0 hst
  replace hc0 := bs_later hc0 hst
  replace Rr := bs_later Rr hst
  replace D1 := dk_later D1 hst
  replace hL := hL.later hst.size
  replace hB := hB.trans (hst.mono hB.size)
  have X1 := Box.new w5 [.slice A1 ns c1, .slice P1 (np + 1) q1, .int .i64 dl, .bool false] 25
  have hzX1 : Hid ((w5.alloc (.cells #[.slice A1 ns c1, .slice P1 (np + 1) q1, .int .i64 dl, .bool false] 25)).heap.size = w5.heap.size + 1) := Lib.hid (by simp)
  clear hst
  generalize w5.alloc (.cells #[.slice A1 ns c1, .slice P1 (np + 1) q1, .int .i64 dl, .bool false] 25) = w6 at hB hL hzX1 X1 X0 hD hb0 hc0 Rr D1 ⊢
  generalize hga : w5.heap.size = X1a at hzX1 X1 ⊢
  clear hga
  refine (dRead_at o D1 hi1.out).mono ?_
  rintro e w7 hh
  obtain ⟨Aa, ca, rfl, Ra, hb⟩ := RetBs.is hh hL ha1 hb0l
  replace X0 := X0.later hb
  replace X1 := X1.later hb
  replace hD := dk_later hD hb
  replace hb0 := bs_later hb0 hb
  replace hc0 := bs_later hc0 hb
  replace Rr := bs_later Rr hb
  replace D1 := dk_later D1 hb
  replace hB := hB.trans (hb.mono hB.size)
  replace hL := hL.later hb.size
  clear hb
  clear hzX1
  have X1c0 : w7.cell? ⟨X1a, 0, none⟩ = some (.slice A1 ns c1) := X1.cell 0
  have X1c1 : w7.cell? ⟨X1a, 1, none⟩ = some (.slice P1 (np + 1) q1) := X1.cell 1
  have X1c2 : w7.cell? ⟨X1a, 2, none⟩ = some (.int .i64 dl) := X1.cell 2
  have X1c3 : w7.cell? ⟨X1a, 3, none⟩ = some (.bool false) := X1.cell 3
  have X1z : X1a < w7.heap.size := X1.lt
  go_wp2_with fail
  clear X1c0 X1c1 X1c2 X1c3 X1z
  refine (dRead_at i D1 hi1.out).mono ?_
  rintro e w8 hh
  obtain ⟨Am, cm, rfl, Rm, hb⟩ := RetBs.is hh hL hm1 hpl
  replace X0 := X0.later hb
  replace X1 := X1.later hb
  replace hD := dk_later hD hb
  replace hb0 := bs_later hb0 hb
  replace hc0 := bs_later hc0 hb
  replace Rr := bs_later Rr hb
  replace D1 := dk_later D1 hb
  replace Ra := bs_later Ra hb
  replace hB := hB.trans (hb.mono hB.size)
  replace hL := hL.later hb.size
  clear hb
  obtain ⟨mb, mo, rfl, hcm, hcm2, _, _⟩ := Rm.out.row (by decide)
  have vt := Later.str (Rm.out.take (k := nb) hl ⟨hcm, hcm2⟩)
  have vb := Later.str hb0.out
  have vr := Later.str Rr.out
  have va := Later.str Ra.out
  rw [take_pad hbl.out] at vt
  unfold maxLen at hcm2
  have e1 : (nb : Int) ≤ (cm : Int) := by omega
  have e2 : (nb : Int) ≤ 128 := by omega
  have qn1 : (i != o) = true := hne.out
  have qn2 : (i == o) = false := by simpa using hne.out
  have qn3 : i ≠ o := by simpa using hne.out
  have qn4 : decide (i = o) = false := by simpa using hne.out
  have qn5 : decide (i ≠ o) = true := by simpa using hne.out
  generalize strB b = sb at vt vb
  generalize strB b0 = s0 at vr va

  go_wp2_with fail
  refine wp_region_later (by kernel_rfl) (by kernel_rfl) ?_
  repeat (go_big_quiet_step (fail))
  refine wpQuiet_nil ?_
  intro _ hw'
  obtain ⟨yq, hw''⟩ := hw'
  subst hw''
  clear vt vb vr va e1 e2 qn1 qn2 qn3 qn4 qn5
  obtain ⟨wq, hz, hb⟩ : ∃ z, yq.w = z ∧ Below w8.heap.size w8 z := ⟨_, rfl, yq.below⟩
  rw [hz]
  clear hz
  replace X0 := X0.later hb
  replace X1 := X1.later hb
  replace hD := dk_later hD hb
  replace hb0 := bs_later hb0 hb
  replace hc0 := bs_later hc0 hb
  replace Rr := bs_later Rr hb
  replace D1 := dk_later D1 hb
  replace Ra := bs_later Ra hb
  replace Rm := bs_later Rm hb
  replace hB := hB.trans (hb.mono hB.size)
  replace hL := hL.later hb.size
  clear hb
  clear Rm Ra Rr
  have hw2 : Hid (writeT (d.put i b) o c = ((d.put i b).put o c, 0)) := Lib.hid (write_eq (runs_of hok1.out hst0.out) hoo.out (by rw [hcl.out]; exact hl2) (by rw [hp1.out]; have := hfull.out; omega))
  have hok2 : Hid (((d.put i b).put o c).okB = true) := Lib.hid (put_ok hok1.out hoo.out (by rw [hcl.out]; exact hl2) (by rw [hp1.out]; exact hfull.out))
  have hp2 : Hid (((d.put i b).put o c).pending.length = np + 1 + 1) := by rw [Hid, Dk.put, List.length_append, hp1.out]; rfl
  have hi2 : Hid (DkIs ((d.put i b).put o c) dl false) := ⟨hd.out.left, hst0.out⟩
  have X1c0 : wq.cell? ⟨X1a, 0, none⟩ = some (.slice A1 ns c1) := X1.cell 0
  have X1c1 : wq.cell? ⟨X1a, 1, none⟩ = some (.slice P1 (np + 1) q1) := X1.cell 1
  have X1c2 : wq.cell? ⟨X1a, 2, none⟩ = some (.int .i64 dl) := X1.cell 2
  have X1c3 : wq.cell? ⟨X1a, 3, none⟩ = some (.bool false) := X1.cell 3
  have X1z : X1a < wq.heap.size := X1.lt
  go_wp2_with fail
  clear X1c0 X1c1 X1c2 X1c3 X1z
  refine (dWrite_at o D1 hi1.out hc0).mono ?_
  rintro e w9 hh
  obtain ⟨A2, c2, P2, q2, rfl, D2, hb⟩ := RetDk.is hh hL hw2 hns hp2 (Lib.hid hi2.out.left) (Lib.hid hi2.out.stopped)
  replace X0 := X0.later hb
  replace X1 := X1.later hb
  replace hD := dk_later hD hb
  replace hb0 := bs_later hb0 hb
  replace hc0 := bs_later hc0 hb
  replace D1 := dk_later D1 hb
  replace hB := hB.trans (hb.mono hB.size)
  replace hL := hL.later hb.size
  clear hb
  have hsy : Hid (syncT ((d.put i b).put o c) = (⟨tornS ((d.put i b).put o c), [], 0, true⟩, 40)) := Lib.hid (sync_tear (runs_of hok2.out hst0.out) htr.out)
  have hts : Hid ((tornS ((d.put i b).put o c)).length = ns) := by rw [Hid, tornS_length]; exact hns.out
  go_wp2_with fail
  have hst := (Below.refl w9.heap.size w9).alloc (Nat.le_refl _) (.cells #[.slice A2 ns c2, .slice P2 (np + 1 + 1) q2, .int .i64 dl, .bool false] 25)
  replace X0 := X0.later hst
  replace X1 := X1.later hst
  replace hD := dk_later hD hst
  replace hb0 := bs_later hb0 hst
  replace hc0 := bs_later hc0 hst
  replace D1 := dk_later D1 hst
  replace D2 := dk_later D2 hst
  replace hL := hL.later hst.size
  replace hB := hB.trans (hst.mono hB.size)
  have Y := Box.new w9 [.slice A2 ns c2, .slice P2 (np + 1 + 1) q2, .int .i64 dl, .bool false] 25
  have hzY : Hid ((w9.alloc (.cells #[.slice A2 ns c2, .slice P2 (np + 1 + 1) q2, .int .i64 dl, .bool false] 25)).heap.size = w9.heap.size + 1) := Lib.hid (by simp)
  clear hst
  generalize w9.alloc (.cells #[.slice A2 ns c2, .slice P2 (np + 1 + 1) q2, .int .i64 dl, .bool false] 25) = w10 at hB hL hzY Y X0 X1 hD hb0 hc0 D1 D2 ⊢
  generalize hga : w9.heap.size = Ya at hzY Y ⊢
  clear hga
  refine (dSync_at D2 hi2.out).mono ?_
  rintro e w11 hh
  obtain ⟨A3, c3, P3, q3, rfl, D3, hb⟩ := RetDk.is hh hL hsy hts (np := 0) (dl := 0) (ds := true) rfl rfl rfl
  replace X0 := X0.later hb
  replace X1 := X1.later hb
  replace Y := Y.later hb
  replace hD := dk_later hD hb
  replace hb0 := bs_later hb0 hb
  replace hc0 := bs_later hc0 hb
  replace D1 := dk_later D1 hb
  replace D2 := dk_later D2 hb
  replace hB := hB.trans (hb.mono hB.size)
  replace hL := hL.later hb.size
  clear hb
  clear hzY
  have hst := (Below.refl w11.heap.size w11).alloc (Nat.le_refl _) (.cells #[.slice A3 ns c3, .slice P3 0 q3, .int .i64 0, .bool true] 25)
  go_wp2
  go_ret
  exact ⟨rfl, hB.trans (hst.mono hB.size)⟩

set_option maxRecDepth 100000 in
set_option maxHeartbeats 16000000 in
theorem lawR_n_go (d : Dk) (As : Option Addr) (ns cs : Nat) (Ap : Option Addr) (np cp : Nat) (dl : Int) (w : World) (hD : Hid (DkAt w (Out []) (.slice As ns cs) (.slice Ap np cp) d)) (hd : Hid (DkIs d dl false)) (hsm : Hid d.small) (i o : Int) (Ab : Option Addr) (nb cb : Nat) (b : Bs) (hb0 : Hid (BsAt w (Out []) (.slice Ab nb cb) b)) (Ac : Option Addr) (nc cc : Nat) (c : Bs) (hc0 : Hid (BsAt w (Out []) (.slice Ac nc cc) c)) (hf : Hid (fewB d = true)) (hl : nb ≤ 128) (hl2 : nc ≤ 128) (hok : Hid (d.okB = true)) (hio : Hid (d.hasB i = true)) (hoo : Hid (d.hasB o = true)) (hns : Hid (d.sectors.length = ns)) (hnp : Hid (d.pending.length = np)) (hbl : Hid (b.length = nb)) (hcl : Hid (c.length = nc)) (hns6 : Hid (ns ≤ 4096)) (hnp6 : np < 4096) (hne : Hid ((i != o) = true)) (hfull : Hid (np + 1 < 4096)) (htr : Hid (tearB ((d.put i b).put o c) = false)) : Calls Try.prog 7 #[.agg #[.slice As ns cs, .slice Ap np cp, .int .i64 dl, .bool false], .int .i64 i, .int .i64 o, .slice Ab nb cb, .slice Ac nc cc] w (fun e w' => e = .returned (.bool true) ∧ Below w.heap.size w w') := by
  have hB := Below.refl w.heap.size w
  have hL := InW.nil w
  go_enter Try.func7, Try.ntmps7
  go_wp2_with fail
  have hst := (Below.refl w.heap.size w).alloc (Nat.le_refl _) (.cells #[.slice As ns cs, .slice Ap np cp, .int .i64 dl, .bool false] 25)
  replace hD := dk_later hD hst
  replace hb0 := bs_later hb0 hst
  replace hc0 := bs_later hc0 hst
  replace hL := hL.later hst.size
  replace hB := hB.trans (hst.mono hB.size)
  have X0 := Box.new w [.slice As ns cs, .slice Ap np cp, .int .i64 dl, .bool false] 25
  have hzX0 : Hid ((w.alloc (.cells #[.slice As ns cs, .slice Ap np cp, .int .i64 dl, .bool false] 25)).heap.size = w.heap.size + 1) := Lib.hid (by simp)
  clear hst
  generalize w.alloc (.cells #[.slice As ns cs, .slice Ap np cp, .int .i64 dl, .bool false] 25) = w1 at hB hL hzX0 X0 hD hb0 hc0 ⊢
  generalize hga : w.heap.size = X0a at hzX0 X0 ⊢
  clear hga
  refine (dSane_any _).mono ?_
  rintro e w2 ⟨rfl, hb⟩
  replace X0 := X0.later hb
  replace hD := dk_later hD hb
  replace hb0 := bs_later hb0 hb
  replace hc0 := bs_later hc0 hb
  replace hB := hB.trans (hb.mono hB.size)
  replace hL := hL.later hb.size
  clear hb
  clear hzX0
  have X0c0 : w2.cell? ⟨X0a, 0, none⟩ = some (.slice As ns cs) := X0.cell 0
  have X0c1 : w2.cell? ⟨X0a, 1, none⟩ = some (.slice Ap np cp) := X0.cell 1
  have X0c2 : w2.cell? ⟨X0a, 2, none⟩ = some (.int .i64 dl) := X0.cell 2
  have X0c3 : w2.cell? ⟨X0a, 3, none⟩ = some (.bool false) := X0.cell 3
  have X0z : X0a < w2.heap.size := X0.lt
  go_wp2_with fail
  clear X0c0 X0c1 X0c2 X0c3 X0z
  refine (dFew_is hD hd.out hsm hf).mono ?_
  rintro e w3 ⟨rfl, hb⟩
  replace X0 := X0.later hb
  replace hD := dk_later hD hb
  replace hb0 := bs_later hb0 hb
  replace hc0 := bs_later hc0 hb
  replace hB := hB.trans (hb.mono hB.size)
  replace hL := hL.later hb.size
  clear hb
  have hst0 : d.stopped = false := hd.out.stopped
  obtain ⟨b0, hre, hb0l⟩ := readable hok.out hst0 hoo.out
  have hok1 : (d.put i b).okB = true := put_ok hok.out hio.out (by rw [hbl.out]; exact hl) (by rw [hnp.out]; exact hnp6)
  have hw1 : writeT d i b = (d.put i b, 0) := write_eq (runs_of hok.out hst0) hio.out (by rw [hbl.out]; exact hl) (by rw [hnp.out]; omega)
  have hm1 : readT (d.put i b) i = (padTo b, 0) := read_put_same hok1 hst0 hio.out
  have hpl : (padTo b).length = 128 := padTo_length (by rw [hbl.out]; exact hl)
  have hp1 : (d.put i b).pending.length = np + 1 := by rw [Dk.put, List.length_append, hnp.out]; rfl
  have hi1 : DkIs (d.put i b) dl false := ⟨hd.out.left, hst0⟩
  have hne2 : i ≠ o := by simpa using hne.out
  have ha1 : readT (d.put i b) o = (b0, 0) := (read_put_other hok.out hok1 hst0 hoo.out hne2).trans hre
  clear hne2
  replace hre := Lib.hid hre
  replace hb0l := Lib.hid hb0l
  replace hok1 := Lib.hid hok1
  replace hw1 := Lib.hid hw1
  replace hm1 := Lib.hid hm1
  replace hpl := Lib.hid hpl
  replace hp1 := Lib.hid hp1
  replace hi1 := Lib.hid hi1
  replace ha1 := Lib.hid ha1
  have hst0 := Lib.hid hst0
  have X0c0 : w3.cell? ⟨X0a, 0, none⟩ = some (.slice As ns cs) := X0.cell 0
  have X0c1 : w3.cell? ⟨X0a, 1, none⟩ = some (.slice Ap np cp) := X0.cell 1
  have X0c2 : w3.cell? ⟨X0a, 2, none⟩ = some (.int .i64 dl) := X0.cell 2
  have X0c3 : w3.cell? ⟨X0a, 3, none⟩ = some (.bool false) := X0.cell 3
  have X0z : X0a < w3.heap.size := X0.lt
  go_wp2_with fail
  clear X0c0 X0c1 X0c2 X0c3 X0z
  refine (dRead_at o hD hd.out).mono ?_
  rintro e w4 hh
  obtain ⟨Ar, cr, rfl, Rr, hb⟩ := RetBs.is hh hL hre hb0l
  replace X0 := X0.later hb
  replace hD := dk_later hD hb
  replace hb0 := bs_later hb0 hb
  replace hc0 := bs_later hc0 hb
  replace hB := hB.trans (hb.mono hB.size)
  replace hL := hL.later hb.size
  clear hb
  have X0c0 : w4.cell? ⟨X0a, 0, none⟩ = some (.slice As ns cs) := X0.cell 0
  have X0c1 : w4.cell? ⟨X0a, 1, none⟩ = some (.slice Ap np cp) := X0.cell 1
  have X0c2 : w4.cell? ⟨X0a, 2, none⟩ = some (.int .i64 dl) := X0.cell 2
  have X0c3 : w4.cell? ⟨X0a, 3, none⟩ = some (.bool false) := X0.cell 3
  have X0z : X0a < w4.heap.size := X0.lt
  go_wp2_with fail
  clear X0c0 X0c1 X0c2 X0c3 X0z
  refine (dWrite_at i hD hd.out hb0).mono ?_
  rintro e w5 hh
  obtain ⟨A1, c1, P1, q1, rfl, D1, hb⟩ := RetDk.is hh hL hw1 hns hp1 (Lib.hid hi1.out.left) (Lib.hid hi1.out.stopped)
  replace X0 := X0.later hb
  replace hD := dk_later hD hb
  replace hb0 := bs_later hb0 hb
  replace hc0 := bs_later hc0 hb
  replace Rr := bs_later Rr hb
  replace hB := hB.trans (hb.mono hB.size)
  replace hL := hL.later hb.size
  clear hb
  go_wp2_with fail
  have hst := (Below.refl w5.heap.size w5).alloc (Nat.le_refl _) (.cells #[.slice A1 ns c1, .slice P1 (np + 1) q1, .int .i64 dl, .bool false] 25)
  replace X0 := X0.later hst
  replace hD := dk_later hD hst
  replace hb0 := bs_later hb0 hst
  replace hc0 := bs_later hc0 hst
  replace Rr := bs_later Rr hst
  replace D1 := dk_later D1 hst
  replace hL := hL.later hst.size
  replace hB := hB.trans (hst.mono hB.size)
  have X1 := Box.new w5 [.slice A1 ns c1, .slice P1 (np + 1) q1, .int .i64 dl, .bool false] 25
  have hzX1 : Hid ((w5.alloc (.cells #[.slice A1 ns c1, .slice P1 (np + 1) q1, .int .i64 dl, .bool false] 25)).heap.size = w5.heap.size + 1) := Lib.hid (by simp)
  clear hst
  generalize w5.alloc (.cells #[.slice A1 ns c1, .slice P1 (np + 1) q1, .int .i64 dl, .bool false] 25) = w6 at hB hL hzX1 X1 X0 hD hb0 hc0 Rr D1 ⊢
  generalize hga : w5.heap.size = X1a at hzX1 X1 ⊢
  clear hga
  refine (dRead_at o D1 hi1.out).mono ?_
  rintro e w7 hh
  obtain ⟨Aa, ca, rfl, Ra, hb⟩ := RetBs.is hh hL ha1 hb0l
  replace X0 := X0.later hb
  replace X1 := X1.later hb
  replace hD := dk_later hD hb
  replace hb0 := bs_later hb0 hb
  replace hc0 := bs_later hc0 hb
  replace Rr := bs_later Rr hb
  replace D1 := dk_later D1 hb
  replace hB := hB.trans (hb.mono hB.size)
  replace hL := hL.later hb.size
  clear hb
  clear hzX1
  have X1c0 : w7.cell? ⟨X1a, 0, none⟩ = some (.slice A1 ns c1) := X1.cell 0
  have X1c1 : w7.cell? ⟨X1a, 1, none⟩ = some (.slice P1 (np + 1) q1) := X1.cell 1
  have X1c2 : w7.cell? ⟨X1a, 2, none⟩ = some (.int .i64 dl) := X1.cell 2
  have X1c3 : w7.cell? ⟨X1a, 3, none⟩ = some (.bool false) := X1.cell 3
  have X1z : X1a < w7.heap.size := X1.lt
  go_wp2_with fail
  clear X1c0 X1c1 X1c2 X1c3 X1z
  refine (dRead_at i D1 hi1.out).mono ?_
  rintro e w8 hh
  obtain ⟨Am, cm, rfl, Rm, hb⟩ := RetBs.is hh hL hm1 hpl
  replace X0 := X0.later hb
  replace X1 := X1.later hb
  replace hD := dk_later hD hb
  replace hb0 := bs_later hb0 hb
  replace hc0 := bs_later hc0 hb
  replace Rr := bs_later Rr hb
  replace D1 := dk_later D1 hb
  replace Ra := bs_later Ra hb
  replace hB := hB.trans (hb.mono hB.size)
  replace hL := hL.later hb.size
  clear hb
  obtain ⟨mb, mo, rfl, hcm, hcm2, _, _⟩ := Rm.out.row (by decide)
  have vt := Later.str (Rm.out.take (k := nb) hl ⟨hcm, hcm2⟩)
  have vb := Later.str hb0.out
  have vr := Later.str Rr.out
  have va := Later.str Ra.out
  rw [take_pad hbl.out] at vt
  unfold maxLen at hcm2
  have e1 : (nb : Int) ≤ (cm : Int) := by omega
  have e2 : (nb : Int) ≤ 128 := by omega
  have qn1 : (i != o) = true := hne.out
  have qn2 : (i == o) = false := by simpa using hne.out
  have qn3 : i ≠ o := by simpa using hne.out
  have qn4 : decide (i = o) = false := by simpa using hne.out
  have qn5 : decide (i ≠ o) = true := by simpa using hne.out
  generalize strB b = sb at vt vb
  generalize strB b0 = s0 at vr va

  go_wp2_with fail
  refine wp_region_later (by kernel_rfl) (by kernel_rfl) ?_
  repeat (go_big_quiet_step (fail))
  refine wpQuiet_nil ?_
  intro _ hw'
  obtain ⟨yq, hw''⟩ := hw'
  subst hw''
  clear vt vb vr va e1 e2 qn1 qn2 qn3 qn4 qn5
  obtain ⟨wq, hz, hb⟩ : ∃ z, yq.w = z ∧ Below w8.heap.size w8 z := ⟨_, rfl, yq.below⟩
  rw [hz]
  clear hz
  replace X0 := X0.later hb
  replace X1 := X1.later hb
  replace hD := dk_later hD hb
  replace hb0 := bs_later hb0 hb
  replace hc0 := bs_later hc0 hb
  replace Rr := bs_later Rr hb
  replace D1 := dk_later D1 hb
  replace Ra := bs_later Ra hb
  replace Rm := bs_later Rm hb
  replace hB := hB.trans (hb.mono hB.size)
  replace hL := hL.later hb.size
  clear hb
  clear Rm Ra Rr
  have hw2 : Hid (writeT (d.put i b) o c = ((d.put i b).put o c, 0)) := Lib.hid (write_eq (runs_of hok1.out hst0.out) hoo.out (by rw [hcl.out]; exact hl2) (by rw [hp1.out]; have := hfull.out; omega))
  have hok2 : Hid (((d.put i b).put o c).okB = true) := Lib.hid (put_ok hok1.out hoo.out (by rw [hcl.out]; exact hl2) (by rw [hp1.out]; exact hfull.out))
  have hp2 : Hid (((d.put i b).put o c).pending.length = np + 1 + 1) := by rw [Hid, Dk.put, List.length_append, hp1.out]; rfl
  have hi2 : Hid (DkIs ((d.put i b).put o c) dl false) := ⟨hd.out.left, hst0.out⟩
  have X1c0 : wq.cell? ⟨X1a, 0, none⟩ = some (.slice A1 ns c1) := X1.cell 0
  have X1c1 : wq.cell? ⟨X1a, 1, none⟩ = some (.slice P1 (np + 1) q1) := X1.cell 1
  have X1c2 : wq.cell? ⟨X1a, 2, none⟩ = some (.int .i64 dl) := X1.cell 2
  have X1c3 : wq.cell? ⟨X1a, 3, none⟩ = some (.bool false) := X1.cell 3
  have X1z : X1a < wq.heap.size := X1.lt
  go_wp2_with fail
  clear X1c0 X1c1 X1c2 X1c3 X1z
  refine (dWrite_at o D1 hi1.out hc0).mono ?_
  rintro e w9 hh
  obtain ⟨A2, c2, P2, q2, rfl, D2, hb⟩ := RetDk.is hh hL hw2 hns hp2 (Lib.hid hi2.out.left) (Lib.hid hi2.out.stopped)
  replace X0 := X0.later hb
  replace X1 := X1.later hb
  replace hD := dk_later hD hb
  replace hb0 := bs_later hb0 hb
  replace hc0 := bs_later hc0 hb
  replace D1 := dk_later D1 hb
  replace hB := hB.trans (hb.mono hB.size)
  replace hL := hL.later hb.size
  clear hb
  have hsy : Hid (syncT ((d.put i b).put o c) = (((d.put i b).put o c).synced, 0)) := Lib.hid (sync_go (runs_of hok2.out hst0.out) htr.out)
  have hts : Hid (((d.put i b).put o c).synced.sectors.length = ns) := by
    rw [Hid]
    show (perf _ _).length = ns
    rw [perf_length]
    exact hns.out
  obtain ⟨lz, hlz⟩ : ∃ l, ((d.put i b).put o c).synced.left = l := ⟨_, rfl⟩
  replace hlz := Lib.hid hlz
  have hi3 : Hid (DkIs ((d.put i b).put o c).synced lz false) := ⟨hlz.out, rfl⟩
  have hck : Hid (((d.put i b).put o c).synced.checkT = 0) := Lib.hid (check_good (synced_ok hok2.out htr.out))
  have hrs : Hid (∀ k : Nat, k < ns → readT ((d.put i b).put o c).synced k = readT ((d.put i b).put o c) k) := fun k hk => read_synced hok2.out hst0.out htr.out (by show k < d.sectors.length; rw [hns.out]; exact hk)
  have hrd : Hid (∀ k : Nat, k < ns → ∃ u, readT ((d.put i b).put o c) k = (u, 0) ∧ u.length = 128) := fun k hk => readable hok2.out hst0.out (hasB_of (by omega) (by show (k : Int) < (d.sectors.length : Int); rw [hns.out]; omega))
  go_wp2_with fail
  have hst := (Below.refl w9.heap.size w9).alloc (Nat.le_refl _) (.cells #[.slice A2 ns c2, .slice P2 (np + 1 + 1) q2, .int .i64 dl, .bool false] 25)
  replace X0 := X0.later hst
  replace X1 := X1.later hst
  replace hD := dk_later hD hst
  replace hb0 := bs_later hb0 hst
  replace hc0 := bs_later hc0 hst
  replace D1 := dk_later D1 hst
  replace D2 := dk_later D2 hst
  replace hL := hL.later hst.size
  replace hB := hB.trans (hst.mono hB.size)
  have Y := Box.new w9 [.slice A2 ns c2, .slice P2 (np + 1 + 1) q2, .int .i64 dl, .bool false] 25
  have hzY : Hid ((w9.alloc (.cells #[.slice A2 ns c2, .slice P2 (np + 1 + 1) q2, .int .i64 dl, .bool false] 25)).heap.size = w9.heap.size + 1) := Lib.hid (by simp)
  clear hst
  generalize w9.alloc (.cells #[.slice A2 ns c2, .slice P2 (np + 1 + 1) q2, .int .i64 dl, .bool false] 25) = w10 at hB hL hzY Y X0 X1 hD hb0 hc0 D1 D2 ⊢
  generalize hga : w9.heap.size = Ya at hzY Y ⊢
  clear hga
  refine (dSync_at D2 hi2.out).mono ?_
  rintro e w11 hh
  obtain ⟨A3, c3, P3, q3, rfl, D3, hb⟩ := RetDk.is hh hL hsy hts (np := 0) rfl hlz (ds := false) rfl
  replace X0 := X0.later hb
  replace X1 := X1.later hb
  replace Y := Y.later hb
  replace hD := dk_later hD hb
  replace hb0 := bs_later hb0 hb
  replace hc0 := bs_later hc0 hb
  replace D1 := dk_later D1 hb
  replace D2 := dk_later D2 hb
  replace hB := hB.trans (hb.mono hB.size)
  replace hL := hL.later hb.size
  clear hb
  clear hzY
  go_wp2_with fail
  have hst := (Below.refl w11.heap.size w11).alloc (Nat.le_refl _) (.cells #[.slice A3 ns c3, .slice P3 0 q3, .int .i64 lz, .bool false] 25)
  replace X0 := X0.later hst
  replace X1 := X1.later hst
  replace Y := Y.later hst
  replace hD := dk_later hD hst
  replace hb0 := bs_later hb0 hst
  replace hc0 := bs_later hc0 hst
  replace D1 := dk_later D1 hst
  replace D2 := dk_later D2 hst
  replace D3 := dk_later D3 hst
  replace hL := hL.later hst.size
  replace hB := hB.trans (hst.mono hB.size)
  have Z := Box.new w11 [.slice A3 ns c3, .slice P3 0 q3, .int .i64 lz, .bool false] 25
  have hzZ : Hid ((w11.alloc (.cells #[.slice A3 ns c3, .slice P3 0 q3, .int .i64 lz, .bool false] 25)).heap.size = w11.heap.size + 1) := Lib.hid (by simp)
  clear hst
  generalize w11.alloc (.cells #[.slice A3 ns c3, .slice P3 0 q3, .int .i64 lz, .bool false] 25) = w12 at hB hL hzZ Z X0 X1 Y hD hb0 hc0 D1 D2 D3 ⊢
  generalize hga : w11.heap.size = Za at hzZ Z ⊢
  clear hga
  clear hzZ
  have hL := InW.nil w12
  go_loopw [23] (fun j wr => ∃ k : Nat, k ≤ ns ∧ j = .int .i64 k ∧ Box wr X0a [.slice As ns cs, .slice Ap np cp, .int .i64 dl, .bool false] ∧ Box wr Ya [.slice A2 ns c2, .slice P2 (np + 1 + 1) q2, .int .i64 dl, .bool false] ∧ Box wr Za [.slice A3 ns c3, .slice P3 0 q3, .int .i64 lz, .bool false] ∧ Hid (DkAt wr (Out []) (.slice A2 ns c2) (.slice P2 (np + 1 + 1) q2) ((d.put i b).put o c)) ∧ Hid (DkAt wr (Out []) (.slice A3 ns c3) (.slice P3 0 q3) ((d.put i b).put o c).synced) ∧ Below w.heap.size w wr) (fun i _ => ns - (intOf i).toNat)
  case atStart => exact ⟨0, by omega, rfl, X0, Y, Z, D2, D3, hB⟩
  case round =>
    clear X0 Y Z D2 D3 hB hL
    obtain ⟨k, hk, rfl, X0, Y, Z, D2, D3, hB⟩ := hrel
    have hL := InW.nil wr
    have x0 : wr.cell? ⟨X0a, 0, none⟩ = some (.slice As ns cs) := X0.cell 0
    have xz := X0.lt
    by_cases hlt : k < ns
    · obtain ⟨u, hu, hul⟩ := hrd.out k hlt
      have hu2 := Lib.hid ((hrs.out k hlt).trans hu)
      replace hu := Lib.hid hu
      replace hul := Lib.hid hul
      have Yc0 : wr.cell? ⟨Ya, 0, none⟩ = some (.slice A2 ns c2) := Y.cell 0
      have Yc1 : wr.cell? ⟨Ya, 1, none⟩ = some (.slice P2 (np + 1 + 1) q2) := Y.cell 1
      have Yc2 : wr.cell? ⟨Ya, 2, none⟩ = some (.int .i64 dl) := Y.cell 2
      have Yc3 : wr.cell? ⟨Ya, 3, none⟩ = some (.bool false) := Y.cell 3
      have Yz : Ya < wr.heap.size := Y.lt
      go_wp2_with fail
      clear Yc0 Yc1 Yc2 Yc3 Yz
      clear x0 xz
      refine (dRead_at k D2 hi2.out).mono ?_
      rintro e w13 hh
      obtain ⟨Au, cu, rfl, Ru, hb⟩ := RetBs.is hh hL hu hul
      replace X0 := X0.later hb
      replace Y := Y.later hb
      replace Z := Z.later hb
      replace D2 := dk_later D2 hb
      replace D3 := dk_later D3 hb
      replace hB := hB.trans (hb.mono hB.size)
      replace hL := hL.later hb.size
      clear hb
      have Zc0 : w13.cell? ⟨Za, 0, none⟩ = some (.slice A3 ns c3) := Z.cell 0
      have Zc1 : w13.cell? ⟨Za, 1, none⟩ = some (.slice P3 0 q3) := Z.cell 1
      have Zc2 : w13.cell? ⟨Za, 2, none⟩ = some (.int .i64 lz) := Z.cell 2
      have Zc3 : w13.cell? ⟨Za, 3, none⟩ = some (.bool false) := Z.cell 3
      have Zz : Za < w13.heap.size := Z.lt
      go_wp2_with fail
      clear Zc0 Zc1 Zc2 Zc3 Zz
      refine (dRead_at k D3 hi3.out).mono ?_
      rintro e w14 hh
      obtain ⟨Av, cv, rfl, Rv, hb⟩ := RetBs.is hh hL hu2 hul
      replace X0 := X0.later hb
      replace Y := Y.later hb
      replace Z := Z.later hb
      replace D2 := dk_later D2 hb
      replace D3 := dk_later D3 hb
      replace Ru := bs_later Ru hb
      replace hB := hB.trans (hb.mono hB.size)
      replace hL := hL.later hb.size
      clear hb
      have vu := Ru.out.str
      have vv := Rv.out.str
      generalize strB u = su at vu vv
      have q6 := hns6.out
      go_wp2
      exact ⟨⟨k + 1, by omega, by go_num, X0, Y, Z, D2, D3, hB⟩, by simp [intOf]; omega⟩
    · obtain rfl : ns = k := by omega
      have Zc0 : wr.cell? ⟨Za, 0, none⟩ = some (.slice A3 ns c3) := Z.cell 0
      have Zc1 : wr.cell? ⟨Za, 1, none⟩ = some (.slice P3 0 q3) := Z.cell 1
      have Zc2 : wr.cell? ⟨Za, 2, none⟩ = some (.int .i64 lz) := Z.cell 2
      have Zc3 : wr.cell? ⟨Za, 3, none⟩ = some (.bool false) := Z.cell 3
      have Zz : Za < wr.heap.size := Z.lt
      go_wp2_with fail
      clear Zc0 Zc1 Zc2 Zc3 Zz
      clear x0 xz
      refine (dCheck_is D3 hi3.out hck).mono ?_
      rintro e wl ⟨rfl, hb⟩
      replace hB := hB.trans (hb.mono hB.size)
      go_wp2
      go_ret
      exact ⟨rfl, hB⟩

theorem law_DiskReads (d : Dk) (Vs Vp : Value) (i o : Int) (b c : Bs) (Vb Vc : Value) (w : World) (hD : DkAt w (fun b => b < w.heap.size) Vs Vp d) (hsm : d.small) (hb : BsAt w (fun b => b < w.heap.size) Vb b) (hc : BsAt w (fun b => b < w.heap.size) Vc c) :
    Calls Try.prog 7 #[.agg #[Vs, Vp, .int .i64 d.left, .bool d.stopped], .int .i64 i, .int .i64 o, Vb, Vc] w fun e w' => e = .returned (.bool true) ∧ Below w.heap.size w w' := by
  obtain ⟨As, cs, rfl, hm1⟩ := hD.sectors.form
  obtain ⟨Ap, cp, rfl, _⟩ := hD.pending.form
  obtain ⟨Ab, cb, rfl, hbm⟩ := hb.form
  obtain ⟨Ac, cc, rfl, hcm⟩ := hc.form
  unfold maxLen at hbm hcm hm1
  have LD := live_out hD
  have LB := live_bs hb
  have LC := live_bs hc
  rcases hf : fewB d with _ | _
  · exact lawR_1 d As _ cs Ap _ cp _ _ w LD ⟨rfl, rfl⟩ hsm i o Ab _ cb b LB Ac _ cc c LC hf
  by_cases hl : b.length ≤ 128
  case neg => exact lawR_2 d As _ cs Ap _ cp _ _ w LD ⟨rfl, rfl⟩ hsm i o Ab _ cb b LB Ac _ cc c LC hf (by omega) (by omega)
  by_cases hl2 : c.length ≤ 128
  case neg => exact lawR_3 d As _ cs Ap _ cp _ _ w LD ⟨rfl, rfl⟩ hsm i o Ab _ cb b LB Ac _ cc c LC hf hl (by omega) (by omega)
  by_cases hr : d.runs = true ∧ d.hasB o = true
  case neg =>
    refine lawR_4 d As _ cs Ap _ cp _ _ w LD ⟨rfl, rfl⟩ hsm i o Ab _ cb b LB Ac _ cc c LC hf hl hl2 (read_fails ?_)
    rcases h1 : d.runs with _ | _
    · exact Or.inl rfl
    · rcases h2 : d.hasB o with _ | _
      · exact Or.inr rfl
      · exact absurd ⟨h1, h2⟩ hr
  obtain ⟨hr, hoo⟩ := hr
  obtain ⟨hok, hst⟩ := runs_ok hr
  obtain ⟨b0, hre, hb0l⟩ := readable hok hst hoo
  by_cases hio : d.hasB i = true
  case neg => exact lawR_5 d As _ cs Ap _ cp _ _ w LD ⟨rfl, rfl⟩ hsm i o Ab _ cb b LB Ac _ cc c LC hf hl hl2 b0 hre hb0l 40 Dk.zero (by rw [Hid, writeT, if_neg (fun h => hio h.2)]) (by decide)
  obtain ⟨p1, p2, p3, _⟩ := okB_parts hok
  by_cases hp : d.pending.length = 4096
  · exact lawR_5 d As _ cs Ap _ cp _ _ w LD ⟨rfl, rfl⟩ hsm i o Ab _ cb b LB Ac _ cc c LC hf hl hl2 b0 hre hb0l 2 Dk.zero (by rw [Hid, writeT, if_pos ⟨hr, hio⟩, if_pos hl, if_pos hp]) (by decide)
  have hd : DkIs d d.left false := ⟨rfl, hst⟩
  have hp6 : d.pending.length < 4096 := by omega
  rw [hst]
  rcases hne : (i != o) with _ | _
  · by_cases hfu : d.pending.length + 1 = 4096
    · exact lawR_e_full d As _ cs Ap _ cp _ w LD hd hsm i o Ab _ cb b LB Ac _ cc c LC hf hl hl2 hok hio hoo rfl rfl rfl rfl p2 hp6 hne hfu
    · rcases ht : tearB ((d.put i b).put o c) with _ | _
      · exact lawR_e_go d As _ cs Ap _ cp _ w LD hd hsm i o Ab _ cb b LB Ac _ cc c LC hf hl hl2 hok hio hoo rfl rfl rfl rfl p2 hp6 hne (show d.pending.length + 1 < 4096 by omega) ht
      · exact lawR_e_tear d As _ cs Ap _ cp _ w LD hd hsm i o Ab _ cb b LB Ac _ cc c LC hf hl hl2 hok hio hoo rfl rfl rfl rfl p2 hp6 hne (show d.pending.length + 1 < 4096 by omega) ht
  · by_cases hfu : d.pending.length + 1 = 4096
    · exact lawR_n_full d As _ cs Ap _ cp _ w LD hd hsm i o Ab _ cb b LB Ac _ cc c LC hf hl hl2 hok hio hoo rfl rfl rfl rfl p2 hp6 hne hfu
    · rcases ht : tearB ((d.put i b).put o c) with _ | _
      · exact lawR_n_go d As _ cs Ap _ cp _ w LD hd hsm i o Ab _ cb b LB Ac _ cc c LC hf hl hl2 hok hio hoo rfl rfl rfl rfl p2 hp6 hne (show d.pending.length + 1 < 4096 by omega) ht
      · exact lawR_n_tear d As _ cs Ap _ cp _ w LD hd hsm i o Ab _ cb b LB Ac _ cc c LC hf hl hl2 hok hio hoo rfl rfl rfl rfl p2 hp6 hne (show d.pending.length + 1 < 4096 by omega) ht

end Go.Proofs.Ytdmeogkdoeaemaa
