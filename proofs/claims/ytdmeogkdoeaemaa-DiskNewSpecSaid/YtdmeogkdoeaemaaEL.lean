/-
  The law DiskNewSpec. (Printed by gen_el.py.)
-/
import Derived.Test.YtdmeogkdoeaemaaEI
namespace Go.Proofs.Ytdmeogkdoeaemaa
open Go.RowKit
attribute [local go_sem ↓ high] app_named cop_named

set_option maxRecDepth 100000 in
set_option maxHeartbeats 8000000 in
theorem lawN_1 (k : Int) (d : Dk) (As : Option Addr) (ns cs : Nat) (Ap : Option Addr) (np cp : Nat) (dl : Int) (ds : Bool) (w : World) (hD : Hid (DkAt w (Out []) (.slice As ns cs) (.slice Ap np cp) d)) (hd : Hid (DkIs d dl ds)) (hsm : Hid d.small) (h1 : 60 < k) (h2 : k ≤ 4096) : Calls Try.prog 3 #[.int .i64 k, .agg #[.slice As ns cs, .slice Ap np cp, .int .i64 dl, .bool ds]] w (fun e w' => e = .returned (.bool true) ∧ Below w.heap.size w w') := by
  have hB := Below.refl w.heap.size w
  have hL := InW.nil w
  go_enter Try.func3, Try.ntmps3
  go_wp2_with fail
  have hst := (Below.refl w.heap.size w).alloc (Nat.le_refl _) (.cells #[.slice As ns cs, .slice Ap np cp, .int .i64 dl, .bool ds] 25)
  replace hD := dk_later hD hst
  replace hL := hL.later hst.size
  replace hB := hB.trans (hst.mono hB.size)
  have X0 := Box.new w [.slice As ns cs, .slice Ap np cp, .int .i64 dl, .bool ds] 25
  have hzX0 : Hid ((w.alloc (.cells #[.slice As ns cs, .slice Ap np cp, .int .i64 dl, .bool ds] 25)).heap.size = w.heap.size + 1) := Lib.hid (by simp)
  clear hst
  generalize w.alloc (.cells #[.slice As ns cs, .slice Ap np cp, .int .i64 dl, .bool ds] 25) = w1 at hB hL hzX0 X0 hD ⊢
  generalize hga : w.heap.size = X0a at hzX0 X0 ⊢
  clear hga
  refine (dSane_any _).mono ?_
  rintro e w2 ⟨rfl, hb⟩
  replace X0 := X0.later hb
  replace hD := dk_later hD hb
  replace hB := hB.trans (hb.mono hB.size)
  replace hL := hL.later hb.size
  clear hb
  clear hzX0
  go_wp2
  go_ret
  exact ⟨rfl, hB⟩

set_option maxRecDepth 100000 in
set_option maxHeartbeats 8000000 in
theorem lawN_2a (k : Int) (d : Dk) (As : Option Addr) (ns cs : Nat) (Ap : Option Addr) (np cp : Nat) (dl : Int) (ds : Bool) (w : World) (hD : Hid (DkAt w (Out []) (.slice As ns cs) (.slice Ap np cp) d)) (hd : Hid (DkIs d dl ds)) (hsm : Hid d.small) (hk : k ≤ 60) (hf : Hid (fewB d = false)) : Calls Try.prog 3 #[.int .i64 k, .agg #[.slice As ns cs, .slice Ap np cp, .int .i64 dl, .bool ds]] w (fun e w' => e = .returned (.bool true) ∧ Below w.heap.size w w') := by
  have hB := Below.refl w.heap.size w
  have hL := InW.nil w
  go_enter Try.func3, Try.ntmps3
  go_wp2_with fail
  have hst := (Below.refl w.heap.size w).alloc (Nat.le_refl _) (.cells #[.slice As ns cs, .slice Ap np cp, .int .i64 dl, .bool ds] 25)
  replace hD := dk_later hD hst
  replace hL := hL.later hst.size
  replace hB := hB.trans (hst.mono hB.size)
  have X0 := Box.new w [.slice As ns cs, .slice Ap np cp, .int .i64 dl, .bool ds] 25
  have hzX0 : Hid ((w.alloc (.cells #[.slice As ns cs, .slice Ap np cp, .int .i64 dl, .bool ds] 25)).heap.size = w.heap.size + 1) := Lib.hid (by simp)
  clear hst
  generalize w.alloc (.cells #[.slice As ns cs, .slice Ap np cp, .int .i64 dl, .bool ds] 25) = w1 at hB hL hzX0 X0 hD ⊢
  generalize hga : w.heap.size = X0a at hzX0 X0 ⊢
  clear hga
  refine (dSane_any _).mono ?_
  rintro e w2 ⟨rfl, hb⟩
  replace X0 := X0.later hb
  replace hD := dk_later hD hb
  replace hB := hB.trans (hb.mono hB.size)
  replace hL := hL.later hb.size
  clear hb
  clear hzX0
  have X0c0 : w2.cell? ⟨X0a, 0, none⟩ = some (.slice As ns cs) := X0.cell 0
  have X0c1 : w2.cell? ⟨X0a, 1, none⟩ = some (.slice Ap np cp) := X0.cell 1
  have X0c2 : w2.cell? ⟨X0a, 2, none⟩ = some (.int .i64 dl) := X0.cell 2
  have X0c3 : w2.cell? ⟨X0a, 3, none⟩ = some (.bool ds) := X0.cell 3
  have X0z : X0a < w2.heap.size := X0.lt
  go_wp2_with fail
  clear X0c0 X0c1 X0c2 X0c3 X0z
  refine (dFew_is hD hd.out hsm hf).mono ?_
  rintro e w3 ⟨rfl, hb⟩
  replace X0 := X0.later hb
  replace hD := dk_later hD hb
  replace hB := hB.trans (hb.mono hB.size)
  replace hL := hL.later hb.size
  clear hb
  go_wp2
  go_ret
  exact ⟨rfl, hB⟩

set_option maxRecDepth 100000 in
set_option maxHeartbeats 8000000 in
theorem lawN_3a (k : Int) (d : Dk) (As : Option Addr) (ns cs : Nat) (Ap : Option Addr) (np cp : Nat) (dl : Int) (ds : Bool) (w : World) (hD : Hid (DkAt w (Out []) (.slice As ns cs) (.slice Ap np cp) d)) (hd : Hid (DkIs d dl ds)) (hsm : Hid d.small) (hk : k ≤ 60) (hf : Hid (fewB d = true)) : Calls Try.prog 3 #[.int .i64 k, .agg #[.slice As ns cs, .slice Ap np cp, .int .i64 dl, .bool ds]] w (fun e w' => e = .returned (.bool true) ∧ Below w.heap.size w w') := by
  have hB := Below.refl w.heap.size w
  have hL := InW.nil w
  go_enter Try.func3, Try.ntmps3
  go_wp2_with fail
  have hst := (Below.refl w.heap.size w).alloc (Nat.le_refl _) (.cells #[.slice As ns cs, .slice Ap np cp, .int .i64 dl, .bool ds] 25)
  replace hD := dk_later hD hst
  replace hL := hL.later hst.size
  replace hB := hB.trans (hst.mono hB.size)
  have X0 := Box.new w [.slice As ns cs, .slice Ap np cp, .int .i64 dl, .bool ds] 25
  have hzX0 : Hid ((w.alloc (.cells #[.slice As ns cs, .slice Ap np cp, .int .i64 dl, .bool ds] 25)).heap.size = w.heap.size + 1) := Lib.hid (by simp)
  clear hst
  generalize w.alloc (.cells #[.slice As ns cs, .slice Ap np cp, .int .i64 dl, .bool ds] 25) = w1 at hB hL hzX0 X0 hD ⊢
  generalize hga : w.heap.size = X0a at hzX0 X0 ⊢
  clear hga
  refine (dSane_any _).mono ?_
  rintro e w2 ⟨rfl, hb⟩
  replace X0 := X0.later hb
  replace hD := dk_later hD hb
  replace hB := hB.trans (hb.mono hB.size)
  replace hL := hL.later hb.size
  clear hb
  clear hzX0
  have X0c0 : w2.cell? ⟨X0a, 0, none⟩ = some (.slice As ns cs) := X0.cell 0
  have X0c1 : w2.cell? ⟨X0a, 1, none⟩ = some (.slice Ap np cp) := X0.cell 1
  have X0c2 : w2.cell? ⟨X0a, 2, none⟩ = some (.int .i64 dl) := X0.cell 2
  have X0c3 : w2.cell? ⟨X0a, 3, none⟩ = some (.bool ds) := X0.cell 3
  have X0z : X0a < w2.heap.size := X0.lt
  go_wp2_with fail
  clear X0c0 X0c1 X0c2 X0c3 X0z
  refine (dFew_is hD hd.out hsm hf).mono ?_
  rintro e w3 ⟨rfl, hb⟩
  replace X0 := X0.later hb
  replace hD := dk_later hD hb
  replace hB := hB.trans (hb.mono hB.size)
  replace hL := hL.later hb.size
  clear hb
  obtain ⟨⟨m1, er1⟩, h1⟩ : ∃ p, newT k = p := ⟨_, rfl⟩
  obtain ⟨s1, hs1⟩ : ∃ k, m1.sectors.length = k := ⟨_, rfl⟩
  obtain ⟨n1, hp1⟩ : ∃ k, m1.pending.length = k := ⟨_, rfl⟩
  obtain ⟨l1, hl1⟩ : ∃ k, m1.left = k := ⟨_, rfl⟩
  obtain ⟨t1, ht1⟩ : ∃ k, m1.stopped = k := ⟨_, rfl⟩
  have hi1 := Lib.hid (DkIs.mk hl1 ht1)
  replace h1 := Lib.hid h1
  replace hs1 := Lib.hid hs1
  replace hp1 := Lib.hid hp1
  replace hl1 := Lib.hid hl1
  replace ht1 := Lib.hid ht1
  obtain ⟨ck, hck⟩ : ∃ k, d.checkT = k := ⟨_, rfl⟩
  replace hck := Lib.hid hck
  go_wp2_with fail
  refine (dNew_any k (Out []) _).mono ?_
  rintro e w4 hh
  obtain ⟨A1a, c1a, P1a, q1a, rfl, D1a, hb⟩ := RetDk.is hh hL h1 hs1 hp1 hl1 ht1
  replace X0 := X0.later hb
  replace hD := dk_later hD hb
  replace hB := hB.trans (hb.mono hB.size)
  replace hL := hL.later hb.size
  clear hb
  go_wp2_with fail
  have hst := (Below.refl w4.heap.size w4).alloc (Nat.le_refl _) (.cells #[.slice A1a s1 c1a, .slice P1a n1 q1a, .int .i64 l1, .bool t1] 25)
  replace X0 := X0.later hst
  replace hD := dk_later hD hst
  replace D1a := dk_later D1a hst
  replace hL := hL.later hst.size
  replace hB := hB.trans (hst.mono hB.size)
  have Ya := Box.new w4 [.slice A1a s1 c1a, .slice P1a n1 q1a, .int .i64 l1, .bool t1] 25
  have hzYa : Hid ((w4.alloc (.cells #[.slice A1a s1 c1a, .slice P1a n1 q1a, .int .i64 l1, .bool t1] 25)).heap.size = w4.heap.size + 1) := Lib.hid (by simp)
  clear hst
  generalize w4.alloc (.cells #[.slice A1a s1 c1a, .slice P1a n1 q1a, .int .i64 l1, .bool t1] 25) = w5 at hB hL hzYa Ya X0 hD D1a ⊢
  generalize hga : w4.heap.size = Yaa at hzYa Ya ⊢
  clear hga
  refine (dRNew_any k (Out []) _).mono ?_
  rintro e w6 hh
  obtain ⟨A1b, c1b, P1b, q1b, rfl, D1b, hb⟩ := RetDk.is hh hL h1 hs1 hp1 hl1 ht1
  replace X0 := X0.later hb
  replace Ya := Ya.later hb
  replace hD := dk_later hD hb
  replace D1a := dk_later D1a hb
  replace hB := hB.trans (hb.mono hB.size)
  replace hL := hL.later hb.size
  clear hb
  go_wp2_with fail
  have hst := (Below.refl w6.heap.size w6).alloc (Nat.le_refl _) (.cells #[.slice A1b s1 c1b, .slice P1b n1 q1b, .int .i64 l1, .bool t1] 25)
  replace X0 := X0.later hst
  replace Ya := Ya.later hst
  replace hD := dk_later hD hst
  replace D1a := dk_later D1a hst
  replace D1b := dk_later D1b hst
  replace hL := hL.later hst.size
  replace hB := hB.trans (hst.mono hB.size)
  have Yb := Box.new w6 [.slice A1b s1 c1b, .slice P1b n1 q1b, .int .i64 l1, .bool t1] 25
  have hzYb : Hid ((w6.alloc (.cells #[.slice A1b s1 c1b, .slice P1b n1 q1b, .int .i64 l1, .bool t1] 25)).heap.size = w6.heap.size + 1) := Lib.hid (by simp)
  clear hst
  generalize w6.alloc (.cells #[.slice A1b s1 c1b, .slice P1b n1 q1b, .int .i64 l1, .bool t1] 25) = w7 at hB hL hzYb Yb X0 Ya hD D1a D1b ⊢
  generalize hga : w6.heap.size = Yba at hzYb Yb ⊢
  clear hga
  have Yal0 : ∀ zz : Later w7, zz.w.cell? ⟨Yaa, 0, none⟩ = some (.slice A1a s1 c1a) := Later.cell (Ya.cell 0) Ya.lt
  have Yal1 : ∀ zz : Later w7, zz.w.cell? ⟨Yaa, 1, none⟩ = some (.slice P1a n1 q1a) := Later.cell (Ya.cell 1) Ya.lt
  have Yal2 : ∀ zz : Later w7, zz.w.cell? ⟨Yaa, 2, none⟩ = some (.int .i64 l1) := Later.cell (Ya.cell 2) Ya.lt
  have Yal3 : ∀ zz : Later w7, zz.w.cell? ⟨Yaa, 3, none⟩ = some (.bool t1) := Later.cell (Ya.cell 3) Ya.lt
  have Ybl0 : ∀ zz : Later w7, zz.w.cell? ⟨Yba, 0, none⟩ = some (.slice A1b s1 c1b) := Later.cell (Yb.cell 0) Yb.lt
  have Ybl1 : ∀ zz : Later w7, zz.w.cell? ⟨Yba, 1, none⟩ = some (.slice P1b n1 q1b) := Later.cell (Yb.cell 1) Yb.lt
  have Ybl2 : ∀ zz : Later w7, zz.w.cell? ⟨Yba, 2, none⟩ = some (.int .i64 l1) := Later.cell (Yb.cell 2) Yb.lt
  have Ybl3 : ∀ zz : Later w7, zz.w.cell? ⟨Yba, 3, none⟩ = some (.bool t1) := Later.cell (Yb.cell 3) Yb.lt
  have X0l0 : ∀ zz : Later w7, zz.w.cell? ⟨X0a, 0, none⟩ = some (.slice As ns cs) := Later.cell (X0.cell 0) X0.lt
  have X0l1 : ∀ zz : Later w7, zz.w.cell? ⟨X0a, 1, none⟩ = some (.slice Ap np cp) := Later.cell (X0.cell 1) X0.lt
  have X0l2 : ∀ zz : Later w7, zz.w.cell? ⟨X0a, 2, none⟩ = some (.int .i64 dl) := Later.cell (X0.cell 2) X0.lt
  have X0l3 : ∀ zz : Later w7, zz.w.cell? ⟨X0a, 3, none⟩ = some (.bool ds) := Later.cell (X0.cell 3) X0.lt
  refine wp_region_later (by kernel_rfl) (by kernel_rfl) ?_
  repeat (go_big_quiet_step ((first | (go_at_call 14; with_reducible exact Later.call _ (dSame_is (dk_later D1a (Later.below _)) (dk_later D1b (Later.below _)) hi1.out hi1.out (Lib.hid (sameD_refl _)))) | (go_at_call 15; with_reducible exact Later.call _ (dCheck_is (dk_later hD (Later.below _)) hd.out hck)) | (go_at_call 16; with_reducible exact Later.call _ (dRCheck_is (dk_later hD (Later.below _)) hd.out hck)) | (go_at_call 17; with_reducible exact Later.call _ (dRestart_eq _ _ _ _ _ _ _)) | (go_at_call 18; with_reducible exact Later.call _ (dRRestart_eq _ _ _ _ _ _ _)) | (go_at_call 14; with_reducible exact Later.call _ (dSame_is (restart_at (dk_later hD (Later.below _))) (restart_at (dk_later hD (Later.below _))) ⟨rfl, rfl⟩ ⟨rfl, rfl⟩ (Lib.hid (sameD_refl _)))))))
  refine wpQuiet_nil ?_
  intro _ hw'
  obtain ⟨yq, hw''⟩ := hw'
  subst hw''
  clear Yal0 Yal1 Yal2 Yal3 Ybl0 Ybl1 Ybl2 Ybl3 X0l0 X0l1 X0l2 X0l3
  obtain ⟨w8, hz, hb⟩ : ∃ z, yq.w = z ∧ Below w7.heap.size w7 z := ⟨_, rfl, yq.below⟩
  rw [hz]
  clear hz
  have X0 := X0.later hb
  have Ya := Ya.later hb
  have Yb := Yb.later hb
  have hD := dk_later hD hb
  have D1a := dk_later D1a hb
  have D1b := dk_later D1b hb
  have hB := hB.trans (hb.mono hB.size)
  clear hb
  go_wp2
  go_ret
  exact ⟨rfl, hB⟩

set_option maxRecDepth 100000 in
set_option maxHeartbeats 8000000 in
theorem lawN_2b (k : Int) (d : Dk) (As : Option Addr) (ns cs : Nat) (Ap : Option Addr) (np cp : Nat) (dl : Int) (ds : Bool) (w : World) (hD : Hid (DkAt w (Out []) (.slice As ns cs) (.slice Ap np cp) d)) (hd : Hid (DkIs d dl ds)) (hsm : Hid d.small) (hk0 : 60 < k) (hk : 4096 < k) (hf : Hid (fewB d = false)) : Calls Try.prog 3 #[.int .i64 k, .agg #[.slice As ns cs, .slice Ap np cp, .int .i64 dl, .bool ds]] w (fun e w' => e = .returned (.bool true) ∧ Below w.heap.size w w') := by
  have hB := Below.refl w.heap.size w
  have hL := InW.nil w
  go_enter Try.func3, Try.ntmps3
  go_wp2_with fail
  have hst := (Below.refl w.heap.size w).alloc (Nat.le_refl _) (.cells #[.slice As ns cs, .slice Ap np cp, .int .i64 dl, .bool ds] 25)
  replace hD := dk_later hD hst
  replace hL := hL.later hst.size
  replace hB := hB.trans (hst.mono hB.size)
  have X0 := Box.new w [.slice As ns cs, .slice Ap np cp, .int .i64 dl, .bool ds] 25
  have hzX0 : Hid ((w.alloc (.cells #[.slice As ns cs, .slice Ap np cp, .int .i64 dl, .bool ds] 25)).heap.size = w.heap.size + 1) := Lib.hid (by simp)
  clear hst
  generalize w.alloc (.cells #[.slice As ns cs, .slice Ap np cp, .int .i64 dl, .bool ds] 25) = w1 at hB hL hzX0 X0 hD ⊢
  generalize hga : w.heap.size = X0a at hzX0 X0 ⊢
  clear hga
  refine (dSane_any _).mono ?_
  rintro e w2 ⟨rfl, hb⟩
  replace X0 := X0.later hb
  replace hD := dk_later hD hb
  replace hB := hB.trans (hb.mono hB.size)
  replace hL := hL.later hb.size
  clear hb
  clear hzX0
  have X0c0 : w2.cell? ⟨X0a, 0, none⟩ = some (.slice As ns cs) := X0.cell 0
  have X0c1 : w2.cell? ⟨X0a, 1, none⟩ = some (.slice Ap np cp) := X0.cell 1
  have X0c2 : w2.cell? ⟨X0a, 2, none⟩ = some (.int .i64 dl) := X0.cell 2
  have X0c3 : w2.cell? ⟨X0a, 3, none⟩ = some (.bool ds) := X0.cell 3
  have X0z : X0a < w2.heap.size := X0.lt
  go_wp2_with fail
  clear X0c0 X0c1 X0c2 X0c3 X0z
  refine (dFew_is hD hd.out hsm hf).mono ?_
  rintro e w3 ⟨rfl, hb⟩
  replace X0 := X0.later hb
  replace hD := dk_later hD hb
  replace hB := hB.trans (hb.mono hB.size)
  replace hL := hL.later hb.size
  clear hb
  go_wp2
  go_ret
  exact ⟨rfl, hB⟩

set_option maxRecDepth 100000 in
set_option maxHeartbeats 8000000 in
theorem lawN_3b (k : Int) (d : Dk) (As : Option Addr) (ns cs : Nat) (Ap : Option Addr) (np cp : Nat) (dl : Int) (ds : Bool) (w : World) (hD : Hid (DkAt w (Out []) (.slice As ns cs) (.slice Ap np cp) d)) (hd : Hid (DkIs d dl ds)) (hsm : Hid d.small) (hk0 : 60 < k) (hk : 4096 < k) (hf : Hid (fewB d = true)) : Calls Try.prog 3 #[.int .i64 k, .agg #[.slice As ns cs, .slice Ap np cp, .int .i64 dl, .bool ds]] w (fun e w' => e = .returned (.bool true) ∧ Below w.heap.size w w') := by
  have hB := Below.refl w.heap.size w
  have hL := InW.nil w
  go_enter Try.func3, Try.ntmps3
  go_wp2_with fail
  have hst := (Below.refl w.heap.size w).alloc (Nat.le_refl _) (.cells #[.slice As ns cs, .slice Ap np cp, .int .i64 dl, .bool ds] 25)
  replace hD := dk_later hD hst
  replace hL := hL.later hst.size
  replace hB := hB.trans (hst.mono hB.size)
  have X0 := Box.new w [.slice As ns cs, .slice Ap np cp, .int .i64 dl, .bool ds] 25
  have hzX0 : Hid ((w.alloc (.cells #[.slice As ns cs, .slice Ap np cp, .int .i64 dl, .bool ds] 25)).heap.size = w.heap.size + 1) := Lib.hid (by simp)
  clear hst
  generalize w.alloc (.cells #[.slice As ns cs, .slice Ap np cp, .int .i64 dl, .bool ds] 25) = w1 at hB hL hzX0 X0 hD ⊢
  generalize hga : w.heap.size = X0a at hzX0 X0 ⊢
  clear hga
  refine (dSane_any _).mono ?_
  rintro e w2 ⟨rfl, hb⟩
  replace X0 := X0.later hb
  replace hD := dk_later hD hb
  replace hB := hB.trans (hb.mono hB.size)
  replace hL := hL.later hb.size
  clear hb
  clear hzX0
  have X0c0 : w2.cell? ⟨X0a, 0, none⟩ = some (.slice As ns cs) := X0.cell 0
  have X0c1 : w2.cell? ⟨X0a, 1, none⟩ = some (.slice Ap np cp) := X0.cell 1
  have X0c2 : w2.cell? ⟨X0a, 2, none⟩ = some (.int .i64 dl) := X0.cell 2
  have X0c3 : w2.cell? ⟨X0a, 3, none⟩ = some (.bool ds) := X0.cell 3
  have X0z : X0a < w2.heap.size := X0.lt
  go_wp2_with fail
  clear X0c0 X0c1 X0c2 X0c3 X0z
  refine (dFew_is hD hd.out hsm hf).mono ?_
  rintro e w3 ⟨rfl, hb⟩
  replace X0 := X0.later hb
  replace hD := dk_later hD hb
  replace hB := hB.trans (hb.mono hB.size)
  replace hL := hL.later hb.size
  clear hb
  obtain ⟨⟨m1, er1⟩, h1⟩ : ∃ p, newT k = p := ⟨_, rfl⟩
  obtain ⟨s1, hs1⟩ : ∃ k, m1.sectors.length = k := ⟨_, rfl⟩
  obtain ⟨n1, hp1⟩ : ∃ k, m1.pending.length = k := ⟨_, rfl⟩
  obtain ⟨l1, hl1⟩ : ∃ k, m1.left = k := ⟨_, rfl⟩
  obtain ⟨t1, ht1⟩ : ∃ k, m1.stopped = k := ⟨_, rfl⟩
  have hi1 := Lib.hid (DkIs.mk hl1 ht1)
  replace h1 := Lib.hid h1
  replace hs1 := Lib.hid hs1
  replace hp1 := Lib.hid hp1
  replace hl1 := Lib.hid hl1
  replace ht1 := Lib.hid ht1
  obtain ⟨ck, hck⟩ : ∃ k, d.checkT = k := ⟨_, rfl⟩
  replace hck := Lib.hid hck
  go_wp2_with fail
  refine (dNew_any k (Out []) _).mono ?_
  rintro e w4 hh
  obtain ⟨A1a, c1a, P1a, q1a, rfl, D1a, hb⟩ := RetDk.is hh hL h1 hs1 hp1 hl1 ht1
  replace X0 := X0.later hb
  replace hD := dk_later hD hb
  replace hB := hB.trans (hb.mono hB.size)
  replace hL := hL.later hb.size
  clear hb
  go_wp2_with fail
  have hst := (Below.refl w4.heap.size w4).alloc (Nat.le_refl _) (.cells #[.slice A1a s1 c1a, .slice P1a n1 q1a, .int .i64 l1, .bool t1] 25)
  replace X0 := X0.later hst
  replace hD := dk_later hD hst
  replace D1a := dk_later D1a hst
  replace hL := hL.later hst.size
  replace hB := hB.trans (hst.mono hB.size)
  have Ya := Box.new w4 [.slice A1a s1 c1a, .slice P1a n1 q1a, .int .i64 l1, .bool t1] 25
  have hzYa : Hid ((w4.alloc (.cells #[.slice A1a s1 c1a, .slice P1a n1 q1a, .int .i64 l1, .bool t1] 25)).heap.size = w4.heap.size + 1) := Lib.hid (by simp)
  clear hst
  generalize w4.alloc (.cells #[.slice A1a s1 c1a, .slice P1a n1 q1a, .int .i64 l1, .bool t1] 25) = w5 at hB hL hzYa Ya X0 hD D1a ⊢
  generalize hga : w4.heap.size = Yaa at hzYa Ya ⊢
  clear hga
  refine (dRNew_any k (Out []) _).mono ?_
  rintro e w6 hh
  obtain ⟨A1b, c1b, P1b, q1b, rfl, D1b, hb⟩ := RetDk.is hh hL h1 hs1 hp1 hl1 ht1
  replace X0 := X0.later hb
  replace Ya := Ya.later hb
  replace hD := dk_later hD hb
  replace D1a := dk_later D1a hb
  replace hB := hB.trans (hb.mono hB.size)
  replace hL := hL.later hb.size
  clear hb
  go_wp2_with fail
  have hst := (Below.refl w6.heap.size w6).alloc (Nat.le_refl _) (.cells #[.slice A1b s1 c1b, .slice P1b n1 q1b, .int .i64 l1, .bool t1] 25)
  replace X0 := X0.later hst
  replace Ya := Ya.later hst
  replace hD := dk_later hD hst
  replace D1a := dk_later D1a hst
  replace D1b := dk_later D1b hst
  replace hL := hL.later hst.size
  replace hB := hB.trans (hst.mono hB.size)
  have Yb := Box.new w6 [.slice A1b s1 c1b, .slice P1b n1 q1b, .int .i64 l1, .bool t1] 25
  have hzYb : Hid ((w6.alloc (.cells #[.slice A1b s1 c1b, .slice P1b n1 q1b, .int .i64 l1, .bool t1] 25)).heap.size = w6.heap.size + 1) := Lib.hid (by simp)
  clear hst
  generalize w6.alloc (.cells #[.slice A1b s1 c1b, .slice P1b n1 q1b, .int .i64 l1, .bool t1] 25) = w7 at hB hL hzYb Yb X0 Ya hD D1a D1b ⊢
  generalize hga : w6.heap.size = Yba at hzYb Yb ⊢
  clear hga
  have Yal0 : ∀ zz : Later w7, zz.w.cell? ⟨Yaa, 0, none⟩ = some (.slice A1a s1 c1a) := Later.cell (Ya.cell 0) Ya.lt
  have Yal1 : ∀ zz : Later w7, zz.w.cell? ⟨Yaa, 1, none⟩ = some (.slice P1a n1 q1a) := Later.cell (Ya.cell 1) Ya.lt
  have Yal2 : ∀ zz : Later w7, zz.w.cell? ⟨Yaa, 2, none⟩ = some (.int .i64 l1) := Later.cell (Ya.cell 2) Ya.lt
  have Yal3 : ∀ zz : Later w7, zz.w.cell? ⟨Yaa, 3, none⟩ = some (.bool t1) := Later.cell (Ya.cell 3) Ya.lt
  have Ybl0 : ∀ zz : Later w7, zz.w.cell? ⟨Yba, 0, none⟩ = some (.slice A1b s1 c1b) := Later.cell (Yb.cell 0) Yb.lt
  have Ybl1 : ∀ zz : Later w7, zz.w.cell? ⟨Yba, 1, none⟩ = some (.slice P1b n1 q1b) := Later.cell (Yb.cell 1) Yb.lt
  have Ybl2 : ∀ zz : Later w7, zz.w.cell? ⟨Yba, 2, none⟩ = some (.int .i64 l1) := Later.cell (Yb.cell 2) Yb.lt
  have Ybl3 : ∀ zz : Later w7, zz.w.cell? ⟨Yba, 3, none⟩ = some (.bool t1) := Later.cell (Yb.cell 3) Yb.lt
  have X0l0 : ∀ zz : Later w7, zz.w.cell? ⟨X0a, 0, none⟩ = some (.slice As ns cs) := Later.cell (X0.cell 0) X0.lt
  have X0l1 : ∀ zz : Later w7, zz.w.cell? ⟨X0a, 1, none⟩ = some (.slice Ap np cp) := Later.cell (X0.cell 1) X0.lt
  have X0l2 : ∀ zz : Later w7, zz.w.cell? ⟨X0a, 2, none⟩ = some (.int .i64 dl) := Later.cell (X0.cell 2) X0.lt
  have X0l3 : ∀ zz : Later w7, zz.w.cell? ⟨X0a, 3, none⟩ = some (.bool ds) := Later.cell (X0.cell 3) X0.lt
  refine wp_region_later (by kernel_rfl) (by kernel_rfl) ?_
  repeat (go_big_quiet_step ((first | (go_at_call 14; with_reducible exact Later.call _ (dSame_is (dk_later D1a (Later.below _)) (dk_later D1b (Later.below _)) hi1.out hi1.out (Lib.hid (sameD_refl _)))) | (go_at_call 15; with_reducible exact Later.call _ (dCheck_is (dk_later hD (Later.below _)) hd.out hck)) | (go_at_call 16; with_reducible exact Later.call _ (dRCheck_is (dk_later hD (Later.below _)) hd.out hck)) | (go_at_call 17; with_reducible exact Later.call _ (dRestart_eq _ _ _ _ _ _ _)) | (go_at_call 18; with_reducible exact Later.call _ (dRRestart_eq _ _ _ _ _ _ _)) | (go_at_call 14; with_reducible exact Later.call _ (dSame_is (restart_at (dk_later hD (Later.below _))) (restart_at (dk_later hD (Later.below _))) ⟨rfl, rfl⟩ ⟨rfl, rfl⟩ (Lib.hid (sameD_refl _)))))))
  refine wpQuiet_nil ?_
  intro _ hw'
  obtain ⟨yq, hw''⟩ := hw'
  subst hw''
  clear Yal0 Yal1 Yal2 Yal3 Ybl0 Ybl1 Ybl2 Ybl3 X0l0 X0l1 X0l2 X0l3
  obtain ⟨w8, hz, hb⟩ : ∃ z, yq.w = z ∧ Below w7.heap.size w7 z := ⟨_, rfl, yq.below⟩
  rw [hz]
  clear hz
  have X0 := X0.later hb
  have Ya := Ya.later hb
  have Yb := Yb.later hb
  have hD := dk_later hD hb
  have D1a := dk_later D1a hb
  have D1b := dk_later D1b hb
  have hB := hB.trans (hb.mono hB.size)
  clear hb
  go_wp2
  go_ret
  exact ⟨rfl, hB⟩

theorem law_DiskNewSpec (k : Int) (d : Dk) (Vs Vp : Value) (w : World) (hD : DkAt w (fun b => b < w.heap.size) Vs Vp d) (hsm : d.small) :
    Calls Try.prog 3 #[.int .i64 k, .agg #[Vs, Vp, .int .i64 d.left, .bool d.stopped]] w fun e w' => e = .returned (.bool true) ∧ Below w.heap.size w w' := by
  obtain ⟨As, cs, rfl, hm1⟩ := hD.sectors.form
  obtain ⟨Ap, cp, rfl, _⟩ := hD.pending.form
  by_cases h1 : k ≤ 60
  · rcases hf : fewB d with _ | _
    · exact lawN_2a k d As _ cs Ap _ cp _ _ w (live_out hD) ⟨rfl, rfl⟩ hsm h1 hf
    · exact lawN_3a k d As _ cs Ap _ cp _ _ w (live_out hD) ⟨rfl, rfl⟩ hsm h1 hf
  · by_cases h2 : k ≤ 4096
    · exact lawN_1 k d As _ cs Ap _ cp _ _ w (live_out hD) ⟨rfl, rfl⟩ hsm (by omega) h2
    · rcases hf : fewB d with _ | _
      · exact lawN_2b k d As _ cs Ap _ cp _ _ w (live_out hD) ⟨rfl, rfl⟩ hsm (by omega) (by omega) hf
      · exact lawN_3b k d As _ cs Ap _ cp _ _ w (live_out hD) ⟨rfl, rfl⟩ hsm (by omega) (by omega) hf

end Go.Proofs.Ytdmeogkdoeaemaa
