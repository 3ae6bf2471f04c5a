/- The laws JournalOpenSpec, JournalAppendSpec and JournalSyncSpec; the last two where the records' lengths together are bounded. (Printed by gen_md.py.) -/
import Derived.Test.YthlidhfahaalgaaQMB
set_option linter.unusedVariables false
set_option linter.unusedSimpArgs false
namespace Go.Proofs.Ythlidhfahaalgaa
open Go.RowKit
attribute [local go_sem ↓ high] app_named cop_named

theorem nil_rw (w : World) (L : List Nat) : Hid (RwAt w (Out L) (.slice none 0 0) []) := Lib.hid (rwAt_nil _ _)
set_option maxRecDepth 100000 in
set_option maxHeartbeats 8000000 in
theorem lawO (d : Dk) (As : Option Addr) (ns cs : Nat) (Ap : Option Addr) (np cp : Nat) (dl : Int) (ds : Bool) (w : World) (hD : Hid (DkAt w (Out []) (.slice As ns cs) (.slice Ap np cp) d)) (hd : Hid (DkIs d dl ds)) (hns : Hid (d.sectors.length = ns)) (hnp : Hid (d.pending.length = np)) : Calls Try.prog 3 #[.agg #[.slice As ns cs, .slice Ap np cp, .int .i64 dl, .bool ds]] w (fun e w' => e = .returned (.bool true) ∧ Below w.heap.size w w') := by
  have hB := Below.refl w.heap.size w
  have hL := InW.nil w
  go_enter Try.func3, Try.ntmps3
  go_wp2_with fail
  have hst := (Below.refl w.heap.size w).alloc (Nat.le_refl _) (.cells #[.slice As ns cs, .slice Ap np cp, .int .i64 dl, .bool ds] 25)
  replace hD := dk_later hD hst
  replace hL := hL.later hst.size
  replace hB := hB.trans (hst.mono hB.size)
  have X0 := Box.new w [.slice As ns cs, .slice Ap np cp, .int .i64 dl, .bool ds] 25
  have hzX0 : Hid ((w.alloc (.cells #[.slice As ns cs, .slice Ap np cp, .int .i64 dl, .bool ds] 25)).heap.size = w.heap.size + 1) := Lib.hid (by simp)
  clear hst
  generalize w.alloc (.cells #[.slice As ns cs, .slice Ap np cp, .int .i64 dl, .bool ds] 25) = w1 at hB hL hzX0 X0 hD ⊢
  generalize hga : w.heap.size = X0a at hzX0 X0 ⊢
  clear hga
  refine (jSane_any _).mono ?_
  rintro e w2 ⟨rfl, hb⟩
  replace X0 := X0.later hb
  replace hD := dk_later hD hb
  replace hB := hB.trans (hb.mono hB.size)
  replace hL := hL.later hb.size
  clear hb
  clear hzX0
  have X0c0 : w2.cell? ⟨X0a, 0, none⟩ = some (.slice As ns cs) := X0.cell 0
  have X0c1 : w2.cell? ⟨X0a, 1, none⟩ = some (.slice Ap np cp) := X0.cell 1
  have X0c2 : w2.cell? ⟨X0a, 2, none⟩ = some (.int .i64 dl) := X0.cell 2
  have X0c3 : w2.cell? ⟨X0a, 3, none⟩ = some (.bool ds) := X0.cell 3
  have X0z : X0a < w2.heap.size := X0.lt
  go_wp2_with fail
  clear X0c0 X0c1 X0c2 X0c3 X0z
  refine (jFew_at (nil_rw _ []) (Lib.hid rfl)).mono ?_
  rintro e w3 ⟨t, rfl, ht, hb⟩
  replace X0 := X0.later hb
  replace hD := dk_later hD hb
  replace hB := hB.trans (hb.mono hB.size)
  replace hL := hL.later hb.size
  clear hb
  clear ht
  rcases t with _ | _
  · go_wp2
    go_ret
    exact ⟨rfl, hB⟩
  obtain ⟨⟨J1, er1⟩, h1⟩ : ∃ p, openT d = p := ⟨_, rfl⟩
  obtain ⟨n1, hn1⟩ : ∃ k, J1.records.length = k := ⟨_, rfl⟩
  obtain ⟨m1, hm1⟩ : ∃ k, J1.many = k := ⟨_, rfl⟩
  obtain ⟨s1, hs1⟩ : ∃ k, J1.synced = k := ⟨_, rfl⟩
  have hj1 : Hid (JnIs J1 n1 m1 s1) := ⟨hn1, hm1, hs1⟩
  clear hn1 hm1 hs1
  replace h1 := Lib.hid h1
  have X0c0 : w3.cell? ⟨X0a, 0, none⟩ = some (.slice As ns cs) := X0.cell 0
  have X0c1 : w3.cell? ⟨X0a, 1, none⟩ = some (.slice Ap np cp) := X0.cell 1
  have X0c2 : w3.cell? ⟨X0a, 2, none⟩ = some (.int .i64 dl) := X0.cell 2
  have X0c3 : w3.cell? ⟨X0a, 3, none⟩ = some (.bool ds) := X0.cell 3
  have X0z : X0a < w3.heap.size := X0.lt
  go_wp2_with fail
  clear X0c0 X0c1 X0c2 X0c3 X0z
  refine (jOpen_at hD hd).mono ?_
  rintro e w4 hh
  obtain ⟨A1a, c1a, rfl, R1a, hb⟩ := RetJn.is hh hL h1 hj1
  replace X0 := X0.later hb
  replace hD := dk_later hD hb
  replace hB := hB.trans (hb.mono hB.size)
  replace hL := hL.later hb.size
  clear hb
  have X0c0 : w4.cell? ⟨X0a, 0, none⟩ = some (.slice As ns cs) := X0.cell 0
  have X0c1 : w4.cell? ⟨X0a, 1, none⟩ = some (.slice Ap np cp) := X0.cell 1
  have X0c2 : w4.cell? ⟨X0a, 2, none⟩ = some (.int .i64 dl) := X0.cell 2
  have X0c3 : w4.cell? ⟨X0a, 3, none⟩ = some (.bool ds) := X0.cell 3
  have X0z : X0a < w4.heap.size := X0.lt
  go_wp2_with fail
  clear X0c0 X0c1 X0c2 X0c3 X0z
  have hst := (Below.refl w4.heap.size w4).alloc (Nat.le_refl _) (.cells #[.slice A1a n1 c1a, .int .i64 m1, .int .i64 s1] 29)
  replace X0 := X0.later hst
  replace hD := dk_later hD hst
  replace R1a := rw_later R1a hst
  replace hL := hL.later hst.size
  replace hB := hB.trans (hst.mono hB.size)
  have Ya := Box.new w4 [.slice A1a n1 c1a, .int .i64 m1, .int .i64 s1] 29
  have hzYa : Hid ((w4.alloc (.cells #[.slice A1a n1 c1a, .int .i64 m1, .int .i64 s1] 29)).heap.size = w4.heap.size + 1) := Lib.hid (by simp)
  clear hst
  generalize w4.alloc (.cells #[.slice A1a n1 c1a, .int .i64 m1, .int .i64 s1] 29) = w5 at hB hL hzYa Ya X0 hD R1a ⊢
  generalize hga : w4.heap.size = Yaa at hzYa Ya ⊢
  clear hga
  refine (jROpen_at hD hd).mono ?_
  rintro e w6 hh
  obtain ⟨A1b, c1b, rfl, R1b, hb⟩ := RetJn.is hh hL h1 hj1
  replace X0 := X0.later hb
  replace Ya := Ya.later hb
  replace hD := dk_later hD hb
  replace R1a := rw_later R1a hb
  replace hB := hB.trans (hb.mono hB.size)
  replace hL := hL.later hb.size
  clear hb
  have Yac0 : w6.cell? ⟨Yaa, 0, none⟩ = some (.slice A1a n1 c1a) := Ya.cell 0
  have Yac1 : w6.cell? ⟨Yaa, 1, none⟩ = some (.int .i64 m1) := Ya.cell 1
  have Yac2 : w6.cell? ⟨Yaa, 2, none⟩ = some (.int .i64 s1) := Ya.cell 2
  have Yaz : Yaa < w6.heap.size := Ya.lt
  go_wp2_with fail
  clear Yac0 Yac1 Yac2 Yaz
  have hst := (Below.refl w6.heap.size w6).alloc (Nat.le_refl _) (.cells #[.slice A1b n1 c1b, .int .i64 m1, .int .i64 s1] 29)
  replace X0 := X0.later hst
  replace Ya := Ya.later hst
  replace hD := dk_later hD hst
  replace R1a := rw_later R1a hst
  replace R1b := rw_later R1b hst
  replace hL := hL.later hst.size
  replace hB := hB.trans (hst.mono hB.size)
  have Yb := Box.new w6 [.slice A1b n1 c1b, .int .i64 m1, .int .i64 s1] 29
  have hzYb : Hid ((w6.alloc (.cells #[.slice A1b n1 c1b, .int .i64 m1, .int .i64 s1] 29)).heap.size = w6.heap.size + 1) := Lib.hid (by simp)
  clear hst
  generalize w6.alloc (.cells #[.slice A1b n1 c1b, .int .i64 m1, .int .i64 s1] 29) = w7 at hB hL hzYb Yb X0 Ya hD R1a R1b ⊢
  generalize hga : w6.heap.size = Yba at hzYb Yb ⊢
  clear hga
  refine (jSame_at R1a hj1 R1b hj1 (Lib.hid (sameJ_refl _))).mono ?_
  rintro e w8 ⟨rfl, hb⟩
  replace X0 := X0.later hb
  replace Ya := Ya.later hb
  replace Yb := Yb.later hb
  replace hD := dk_later hD hb
  replace R1a := rw_later R1a hb
  replace R1b := rw_later R1b hb
  replace hB := hB.trans (hb.mono hB.size)
  replace hL := hL.later hb.size
  clear hb
  go_wp2
  go_ret
  exact ⟨rfl, hB⟩

set_option maxRecDepth 100000 in
set_option maxHeartbeats 8000000 in
theorem lawS (J : Jn) (A : Option Addr) (n c : Nat) (many sync : Int) (d : Dk) (As : Option Addr) (ns cs : Nat) (Ap : Option Addr) (np cp : Nat) (dl : Int) (ds : Bool) (w : World) (hR : Hid (RwAt w (Out []) (.slice A n c) J.records)) (hj : Hid (JnIs J n many sync)) (hs : Hid (sumB J.records ≤ 4194304)) (hD : Hid (DkAt w (Out []) (.slice As ns cs) (.slice Ap np cp) d)) (hd : Hid (DkIs d dl ds)) (hns : Hid (d.sectors.length = ns)) (hnp : Hid (d.pending.length = np)) : Calls Try.prog 5 #[.agg #[.slice A n c, .int .i64 many, .int .i64 sync], .agg #[.slice As ns cs, .slice Ap np cp, .int .i64 dl, .bool ds]] w (fun e w' => e = .returned (.bool true) ∧ Below w.heap.size w w') := by
  have hB := Below.refl w.heap.size w
  have hL := InW.nil w
  go_enter Try.func5, Try.ntmps5
  go_wp2_with fail
  have hst := ((Below.refl w.heap.size w).alloc (Nat.le_refl _) (.cells #[.slice A n c, .int .i64 many, .int .i64 sync] 29)).alloc (by simp) (.cells #[.slice As ns cs, .slice Ap np cp, .int .i64 dl, .bool ds] 25)
  replace hR := rw_later hR hst
  replace hD := dk_later hD hst
  replace hL := hL.later hst.size
  replace hB := hB.trans (hst.mono hB.size)
  have X0 := (Box.new w [.slice A n c, .int .i64 many, .int .i64 sync] 29).alloc (.cells #[.slice As ns cs, .slice Ap np cp, .int .i64 dl, .bool ds] 25)
  have X1 := Box.newAt (w := w.alloc (.cells #[.slice A n c, .int .i64 many, .int .i64 sync] 29)) (n := w.heap.size + 1) [.slice As ns cs, .slice Ap np cp, .int .i64 dl, .bool ds] 25 (by simp)
  clear hst
  generalize (w.alloc (.cells #[.slice A n c, .int .i64 many, .int .i64 sync] 29)).alloc (.cells #[.slice As ns cs, .slice Ap np cp, .int .i64 dl, .bool ds] 25) = w1 at hB hL X0 X1 hR hD ⊢
  generalize hga2 : w.heap.size + 1 = X1a at X1 ⊢
  clear hga2
  generalize hga1 : w.heap.size = X0a at X0 ⊢
  clear hga1
  refine (jSane_any _).mono ?_
  rintro e w2 ⟨rfl, hb⟩
  replace X0 := X0.later hb
  replace X1 := X1.later hb
  replace hR := rw_later hR hb
  replace hD := dk_later hD hb
  replace hB := hB.trans (hb.mono hB.size)
  replace hL := hL.later hb.size
  clear hb
  have X0c0 : w2.cell? ⟨X0a, 0, none⟩ = some (.slice A n c) := X0.cell 0
  have X0c1 : w2.cell? ⟨X0a, 1, none⟩ = some (.int .i64 many) := X0.cell 1
  have X0c2 : w2.cell? ⟨X0a, 2, none⟩ = some (.int .i64 sync) := X0.cell 2
  have X0z : X0a < w2.heap.size := X0.lt
  have X1c0 : w2.cell? ⟨X1a, 0, none⟩ = some (.slice As ns cs) := X1.cell 0
  have X1c1 : w2.cell? ⟨X1a, 1, none⟩ = some (.slice Ap np cp) := X1.cell 1
  have X1c2 : w2.cell? ⟨X1a, 2, none⟩ = some (.int .i64 dl) := X1.cell 2
  have X1c3 : w2.cell? ⟨X1a, 3, none⟩ = some (.bool ds) := X1.cell 3
  have X1z : X1a < w2.heap.size := X1.lt
  go_wp2_with fail
  clear X0c0 X0c1 X0c2 X0z X1c0 X1c1 X1c2 X1c3 X1z
  refine (jFew_at hR (Lib.hid hj.out.len)).mono ?_
  rintro e w3 ⟨t, rfl, ht, hb⟩
  replace X0 := X0.later hb
  replace X1 := X1.later hb
  replace hR := rw_later hR hb
  replace hD := dk_later hD hb
  replace hB := hB.trans (hb.mono hB.size)
  replace hL := hL.later hb.size
  clear hb
  clear ht
  rcases t with _ | _
  · go_wp2
    go_ret
    exact ⟨rfl, hB⟩
  obtain ⟨⟨J1, D1, er1⟩, h1⟩ : ∃ p, syncJ J d = p := ⟨_, rfl⟩
  obtain ⟨n1, hn1⟩ : ∃ k, J1.records.length = k := ⟨_, rfl⟩
  obtain ⟨m1, hm1⟩ : ∃ k, J1.many = k := ⟨_, rfl⟩
  obtain ⟨s1, hs1⟩ : ∃ k, J1.synced = k := ⟨_, rfl⟩
  have hj1 : Hid (JnIs J1 n1 m1 s1) := ⟨hn1, hm1, hs1⟩
  clear hn1 hm1 hs1
  obtain ⟨u1, hu1⟩ : ∃ k, D1.sectors.length = k := ⟨_, rfl⟩
  obtain ⟨v1, hv1⟩ : ∃ k, D1.pending.length = k := ⟨_, rfl⟩
  obtain ⟨l1, hl1⟩ : ∃ k, D1.left = k := ⟨_, rfl⟩
  obtain ⟨t1, ht1⟩ : ∃ k, D1.stopped = k := ⟨_, rfl⟩
  have hi1 := Lib.hid (DkIs.mk hl1 ht1)
  replace hu1 := Lib.hid hu1
  replace hv1 := Lib.hid hv1
  replace hl1 := Lib.hid hl1
  replace ht1 := Lib.hid ht1
  replace h1 := Lib.hid h1
  have X0c0 : w3.cell? ⟨X0a, 0, none⟩ = some (.slice A n c) := X0.cell 0
  have X0c1 : w3.cell? ⟨X0a, 1, none⟩ = some (.int .i64 many) := X0.cell 1
  have X0c2 : w3.cell? ⟨X0a, 2, none⟩ = some (.int .i64 sync) := X0.cell 2
  have X0z : X0a < w3.heap.size := X0.lt
  have X1c0 : w3.cell? ⟨X1a, 0, none⟩ = some (.slice As ns cs) := X1.cell 0
  have X1c1 : w3.cell? ⟨X1a, 1, none⟩ = some (.slice Ap np cp) := X1.cell 1
  have X1c2 : w3.cell? ⟨X1a, 2, none⟩ = some (.int .i64 dl) := X1.cell 2
  have X1c3 : w3.cell? ⟨X1a, 3, none⟩ = some (.bool ds) := X1.cell 3
  have X1z : X1a < w3.heap.size := X1.lt
  go_wp2_with fail
  clear X0c0 X0c1 X0c2 X0z X1c0 X1c1 X1c2 X1c3 X1z
  refine (jSync_at hR hj hs hD hd hns hnp).mono ?_
  rintro e w4 hh
  obtain ⟨A1a, c1a, S1a, p1a, P1a, q1a, rfl, R1a, E1a, hb⟩ := RetJD.is hh hL h1 hj1 hu1 hv1 hl1 ht1
  replace X0 := X0.later hb
  replace X1 := X1.later hb
  replace hR := rw_later hR hb
  replace hD := dk_later hD hb
  replace hB := hB.trans (hb.mono hB.size)
  replace hL := hL.later hb.size
  clear hb
  have X0c0 : w4.cell? ⟨X0a, 0, none⟩ = some (.slice A n c) := X0.cell 0
  have X0c1 : w4.cell? ⟨X0a, 1, none⟩ = some (.int .i64 many) := X0.cell 1
  have X0c2 : w4.cell? ⟨X0a, 2, none⟩ = some (.int .i64 sync) := X0.cell 2
  have X0z : X0a < w4.heap.size := X0.lt
  have X1c0 : w4.cell? ⟨X1a, 0, none⟩ = some (.slice As ns cs) := X1.cell 0
  have X1c1 : w4.cell? ⟨X1a, 1, none⟩ = some (.slice Ap np cp) := X1.cell 1
  have X1c2 : w4.cell? ⟨X1a, 2, none⟩ = some (.int .i64 dl) := X1.cell 2
  have X1c3 : w4.cell? ⟨X1a, 3, none⟩ = some (.bool ds) := X1.cell 3
  have X1z : X1a < w4.heap.size := X1.lt
  go_wp2_with fail
  clear X0c0 X0c1 X0c2 X0z X1c0 X1c1 X1c2 X1c3 X1z
  have hst := ((Below.refl w4.heap.size w4).alloc (Nat.le_refl _) (.cells #[.slice A1a n1 c1a, .int .i64 m1, .int .i64 s1] 29)).alloc (by simp) (.cells #[.slice S1a u1 p1a, .slice P1a v1 q1a, .int .i64 l1, .bool t1] 25)
  replace X0 := X0.later hst
  replace X1 := X1.later hst
  replace hR := rw_later hR hst
  replace hD := dk_later hD hst
  replace R1a := rw_later R1a hst
  replace E1a := dk_later E1a hst
  replace hL := hL.later hst.size
  replace hB := hB.trans (hst.mono hB.size)
  have Ya := (Box.new w4 [.slice A1a n1 c1a, .int .i64 m1, .int .i64 s1] 29).alloc (.cells #[.slice S1a u1 p1a, .slice P1a v1 q1a, .int .i64 l1, .bool t1] 25)
  have Za := Box.newAt (w := w4.alloc (.cells #[.slice A1a n1 c1a, .int .i64 m1, .int .i64 s1] 29)) (n := w4.heap.size + 1) [.slice S1a u1 p1a, .slice P1a v1 q1a, .int .i64 l1, .bool t1] 25 (by simp)
  clear hst
  generalize (w4.alloc (.cells #[.slice A1a n1 c1a, .int .i64 m1, .int .i64 s1] 29)).alloc (.cells #[.slice S1a u1 p1a, .slice P1a v1 q1a, .int .i64 l1, .bool t1] 25) = w5 at hB hL Ya Za X0 X1 hR hD R1a E1a ⊢
  generalize hga2 : w4.heap.size + 1 = Zaa at Za ⊢
  clear hga2
  generalize hga1 : w4.heap.size = Yaa at Ya ⊢
  clear hga1
  refine (jRSync_at hR hj hs hD hd hns hnp).mono ?_
  rintro e w6 hh
  obtain ⟨A1b, c1b, S1b, p1b, P1b, q1b, rfl, R1b, E1b, hb⟩ := RetJD.is hh hL h1 hj1 hu1 hv1 hl1 ht1
  replace X0 := X0.later hb
  replace X1 := X1.later hb
  replace Ya := Ya.later hb
  replace Za := Za.later hb
  replace hR := rw_later hR hb
  replace hD := dk_later hD hb
  replace R1a := rw_later R1a hb
  replace E1a := dk_later E1a hb
  replace hB := hB.trans (hb.mono hB.size)
  replace hL := hL.later hb.size
  clear hb
  have Yac0 : w6.cell? ⟨Yaa, 0, none⟩ = some (.slice A1a n1 c1a) := Ya.cell 0
  have Yac1 : w6.cell? ⟨Yaa, 1, none⟩ = some (.int .i64 m1) := Ya.cell 1
  have Yac2 : w6.cell? ⟨Yaa, 2, none⟩ = some (.int .i64 s1) := Ya.cell 2
  have Yaz : Yaa < w6.heap.size := Ya.lt
  go_wp2_with fail
  clear Yac0 Yac1 Yac2 Yaz
  have hst := ((Below.refl w6.heap.size w6).alloc (Nat.le_refl _) (.cells #[.slice A1b n1 c1b, .int .i64 m1, .int .i64 s1] 29)).alloc (by simp) (.cells #[.slice S1b u1 p1b, .slice P1b v1 q1b, .int .i64 l1, .bool t1] 25)
  replace X0 := X0.later hst
  replace X1 := X1.later hst
  replace Ya := Ya.later hst
  replace Za := Za.later hst
  replace hR := rw_later hR hst
  replace hD := dk_later hD hst
  replace R1a := rw_later R1a hst
  replace E1a := dk_later E1a hst
  replace R1b := rw_later R1b hst
  replace E1b := dk_later E1b hst
  replace hL := hL.later hst.size
  replace hB := hB.trans (hst.mono hB.size)
  have Yb := (Box.new w6 [.slice A1b n1 c1b, .int .i64 m1, .int .i64 s1] 29).alloc (.cells #[.slice S1b u1 p1b, .slice P1b v1 q1b, .int .i64 l1, .bool t1] 25)
  have Zb := Box.newAt (w := w6.alloc (.cells #[.slice A1b n1 c1b, .int .i64 m1, .int .i64 s1] 29)) (n := w6.heap.size + 1) [.slice S1b u1 p1b, .slice P1b v1 q1b, .int .i64 l1, .bool t1] 25 (by simp)
  clear hst
  generalize (w6.alloc (.cells #[.slice A1b n1 c1b, .int .i64 m1, .int .i64 s1] 29)).alloc (.cells #[.slice S1b u1 p1b, .slice P1b v1 q1b, .int .i64 l1, .bool t1] 25) = w7 at hB hL Yb Zb X0 X1 Ya Za hR hD R1a E1a R1b E1b ⊢
  generalize hga2 : w6.heap.size + 1 = Zba at Zb ⊢
  clear hga2
  generalize hga1 : w6.heap.size = Yba at Yb ⊢
  clear hga1
  refine (jSame_at R1a hj1 R1b hj1 (Lib.hid (sameJ_refl _))).mono ?_
  rintro e w8 ⟨rfl, hb⟩
  replace X0 := X0.later hb
  replace X1 := X1.later hb
  replace Ya := Ya.later hb
  replace Za := Za.later hb
  replace Yb := Yb.later hb
  replace Zb := Zb.later hb
  replace hR := rw_later hR hb
  replace hD := dk_later hD hb
  replace R1a := rw_later R1a hb
  replace E1a := dk_later E1a hb
  replace R1b := rw_later R1b hb
  replace E1b := dk_later E1b hb
  replace hB := hB.trans (hb.mono hB.size)
  replace hL := hL.later hb.size
  clear hb
  have Zac0 : w8.cell? ⟨Zaa, 0, none⟩ = some (.slice S1a u1 p1a) := Za.cell 0
  have Zac1 : w8.cell? ⟨Zaa, 1, none⟩ = some (.slice P1a v1 q1a) := Za.cell 1
  have Zac2 : w8.cell? ⟨Zaa, 2, none⟩ = some (.int .i64 l1) := Za.cell 2
  have Zac3 : w8.cell? ⟨Zaa, 3, none⟩ = some (.bool t1) := Za.cell 3
  have Zaz : Zaa < w8.heap.size := Za.lt
  have Zbc0 : w8.cell? ⟨Zba, 0, none⟩ = some (.slice S1b u1 p1b) := Zb.cell 0
  have Zbc1 : w8.cell? ⟨Zba, 1, none⟩ = some (.slice P1b v1 q1b) := Zb.cell 1
  have Zbc2 : w8.cell? ⟨Zba, 2, none⟩ = some (.int .i64 l1) := Zb.cell 2
  have Zbc3 : w8.cell? ⟨Zba, 3, none⟩ = some (.bool t1) := Zb.cell 3
  have Zbz : Zba < w8.heap.size := Zb.lt
  go_wp2_with fail
  clear Zac0 Zac1 Zac2 Zac3 Zaz Zbc0 Zbc1 Zbc2 Zbc3 Zbz
  refine (dSame_is E1a E1b hi1.out hi1.out (Lib.hid (sameD_refl _))).mono ?_
  rintro e w9 ⟨rfl, hb⟩
  replace X0 := X0.later hb
  replace X1 := X1.later hb
  replace Ya := Ya.later hb
  replace Za := Za.later hb
  replace Yb := Yb.later hb
  replace Zb := Zb.later hb
  replace hR := rw_later hR hb
  replace hD := dk_later hD hb
  replace R1a := rw_later R1a hb
  replace E1a := dk_later E1a hb
  replace R1b := rw_later R1b hb
  replace E1b := dk_later E1b hb
  replace hB := hB.trans (hb.mono hB.size)
  replace hL := hL.later hb.size
  clear hb
  go_wp2
  go_ret
  exact ⟨rfl, hB⟩

set_option maxRecDepth 100000 in
set_option maxHeartbeats 8000000 in
theorem lawA_1 (J : Jn) (A : Option Addr) (n c : Nat) (many sync : Int) (b : Bs) (Ab : Option Addr) (nb cb : Nat) (w : World) (hR : Hid (RwAt w (Out []) (.slice A n c) J.records)) (hj : Hid (JnIs J n many sync)) (hs : Hid (sumB J.records ≤ 4194304)) (hb0 : Hid (BsAt w (Out []) (.slice Ab nb cb) b)) (hnb : Hid (b.length = nb)) (hl : 70000 < nb) : Calls Try.prog 4 #[.agg #[.slice A n c, .int .i64 many, .int .i64 sync], .slice Ab nb cb] w (fun e w' => e = .returned (.bool true) ∧ Below w.heap.size w w') := by
  have hB := Below.refl w.heap.size w
  have hL := InW.nil w
  go_enter Try.func4, Try.ntmps4
  go_wp2_with fail
  have hst := (Below.refl w.heap.size w).alloc (Nat.le_refl _) (.cells #[.slice A n c, .int .i64 many, .int .i64 sync] 29)
  replace hR := rw_later hR hst
  replace hb0 := bs_later hb0 hst
  replace hL := hL.later hst.size
  replace hB := hB.trans (hst.mono hB.size)
  have X0 := Box.new w [.slice A n c, .int .i64 many, .int .i64 sync] 29
  have hzX0 : Hid ((w.alloc (.cells #[.slice A n c, .int .i64 many, .int .i64 sync] 29)).heap.size = w.heap.size + 1) := Lib.hid (by simp)
  clear hst
  generalize w.alloc (.cells #[.slice A n c, .int .i64 many, .int .i64 sync] 29) = w1 at hB hL hzX0 X0 hR hb0 ⊢
  generalize hga : w.heap.size = X0a at hzX0 X0 ⊢
  clear hga
  refine (jSane_any _).mono ?_
  rintro e w2 ⟨rfl, hb⟩
  replace X0 := X0.later hb
  replace hR := rw_later hR hb
  replace hb0 := bs_later hb0 hb
  replace hB := hB.trans (hb.mono hB.size)
  replace hL := hL.later hb.size
  clear hb
  clear hzX0
  have X0c0 : w2.cell? ⟨X0a, 0, none⟩ = some (.slice A n c) := X0.cell 0
  have X0c1 : w2.cell? ⟨X0a, 1, none⟩ = some (.int .i64 many) := X0.cell 1
  have X0c2 : w2.cell? ⟨X0a, 2, none⟩ = some (.int .i64 sync) := X0.cell 2
  have X0z : X0a < w2.heap.size := X0.lt
  go_wp2_with fail
  clear X0c0 X0c1 X0c2 X0z
  refine (jFew_at hR (Lib.hid hj.out.len)).mono ?_
  rintro e w3 ⟨t, rfl, ht, hb⟩
  replace X0 := X0.later hb
  replace hR := rw_later hR hb
  replace hb0 := bs_later hb0 hb
  replace hB := hB.trans (hb.mono hB.size)
  replace hL := hL.later hb.size
  clear hb
  clear ht
  have hdl : decide ((nb : Int) > 70000) = true := by simp; omega
  rcases t with _ | _
  · go_wp2
    go_ret
    exact ⟨rfl, hB⟩
  go_wp2
  go_ret
  exact ⟨rfl, hB⟩

set_option maxRecDepth 100000 in
set_option maxHeartbeats 8000000 in
theorem lawA_2 (J : Jn) (A : Option Addr) (n c : Nat) (many sync : Int) (b : Bs) (Ab : Option Addr) (nb cb : Nat) (w : World) (hR : Hid (RwAt w (Out []) (.slice A n c) J.records)) (hj : Hid (JnIs J n many sync)) (hs : Hid (sumB J.records ≤ 4194304)) (hb0 : Hid (BsAt w (Out []) (.slice Ab nb cb) b)) (hnb : Hid (b.length = nb)) (hl : nb ≤ 70000) : Calls Try.prog 4 #[.agg #[.slice A n c, .int .i64 many, .int .i64 sync], .slice Ab nb cb] w (fun e w' => e = .returned (.bool true) ∧ Below w.heap.size w w') := by
  have hB := Below.refl w.heap.size w
  have hL := InW.nil w
  go_enter Try.func4, Try.ntmps4
  go_wp2_with fail
  have hst := (Below.refl w.heap.size w).alloc (Nat.le_refl _) (.cells #[.slice A n c, .int .i64 many, .int .i64 sync] 29)
  replace hR := rw_later hR hst
  replace hb0 := bs_later hb0 hst
  replace hL := hL.later hst.size
  replace hB := hB.trans (hst.mono hB.size)
  have X0 := Box.new w [.slice A n c, .int .i64 many, .int .i64 sync] 29
  have hzX0 : Hid ((w.alloc (.cells #[.slice A n c, .int .i64 many, .int .i64 sync] 29)).heap.size = w.heap.size + 1) := Lib.hid (by simp)
  clear hst
  generalize w.alloc (.cells #[.slice A n c, .int .i64 many, .int .i64 sync] 29) = w1 at hB hL hzX0 X0 hR hb0 ⊢
  generalize hga : w.heap.size = X0a at hzX0 X0 ⊢
  clear hga
  refine (jSane_any _).mono ?_
  rintro e w2 ⟨rfl, hb⟩
  replace X0 := X0.later hb
  replace hR := rw_later hR hb
  replace hb0 := bs_later hb0 hb
  replace hB := hB.trans (hb.mono hB.size)
  replace hL := hL.later hb.size
  clear hb
  clear hzX0
  have X0c0 : w2.cell? ⟨X0a, 0, none⟩ = some (.slice A n c) := X0.cell 0
  have X0c1 : w2.cell? ⟨X0a, 1, none⟩ = some (.int .i64 many) := X0.cell 1
  have X0c2 : w2.cell? ⟨X0a, 2, none⟩ = some (.int .i64 sync) := X0.cell 2
  have X0z : X0a < w2.heap.size := X0.lt
  go_wp2_with fail
  clear X0c0 X0c1 X0c2 X0z
  refine (jFew_at hR (Lib.hid hj.out.len)).mono ?_
  rintro e w3 ⟨t, rfl, ht, hb⟩
  replace X0 := X0.later hb
  replace hR := rw_later hR hb
  replace hb0 := bs_later hb0 hb
  replace hB := hB.trans (hb.mono hB.size)
  replace hL := hL.later hb.size
  clear hb
  clear ht
  have hdl : decide ((nb : Int) > 70000) = false := by simp; omega
  rcases t with _ | _
  · go_wp2
    go_ret
    exact ⟨rfl, hB⟩
  obtain ⟨⟨J1, er1⟩, h1⟩ : ∃ p, appendT J b = p := ⟨_, rfl⟩
  obtain ⟨n1, hn1⟩ : ∃ k, J1.records.length = k := ⟨_, rfl⟩
  obtain ⟨m1, hm1⟩ : ∃ k, J1.many = k := ⟨_, rfl⟩
  obtain ⟨s1, hs1⟩ : ∃ k, J1.synced = k := ⟨_, rfl⟩
  have hj1 : Hid (JnIs J1 n1 m1 s1) := ⟨hn1, hm1, hs1⟩
  clear hn1 hm1 hs1
  replace h1 := Lib.hid h1
  have hnb2 : nb ≤ 9223372036854775000 := by omega
  obtain ⟨ck, hck⟩ : ∃ k, Hid (J.checkT = k) := ⟨_, Lib.hid rfl⟩
  obtain ⟨rm, hrm⟩ : ∃ k, Hid (J.roomT = k) := ⟨_, Lib.hid rfl⟩
  have X0c0 : w3.cell? ⟨X0a, 0, none⟩ = some (.slice A n c) := X0.cell 0
  have X0c1 : w3.cell? ⟨X0a, 1, none⟩ = some (.int .i64 many) := X0.cell 1
  have X0c2 : w3.cell? ⟨X0a, 2, none⟩ = some (.int .i64 sync) := X0.cell 2
  have X0z : X0a < w3.heap.size := X0.lt
  go_wp2_with fail
  clear X0c0 X0c1 X0c2 X0z
  refine (jAppend_at hR hj hs hb0 hnb hnb2).mono ?_
  rintro e w4 hh
  obtain ⟨A1a, c1a, rfl, R1a, hb⟩ := RetJn.is hh hL h1 hj1
  replace X0 := X0.later hb
  replace hR := rw_later hR hb
  replace hb0 := bs_later hb0 hb
  replace hB := hB.trans (hb.mono hB.size)
  replace hL := hL.later hb.size
  clear hb
  have X0c0 : w4.cell? ⟨X0a, 0, none⟩ = some (.slice A n c) := X0.cell 0
  have X0c1 : w4.cell? ⟨X0a, 1, none⟩ = some (.int .i64 many) := X0.cell 1
  have X0c2 : w4.cell? ⟨X0a, 2, none⟩ = some (.int .i64 sync) := X0.cell 2
  have X0z : X0a < w4.heap.size := X0.lt
  go_wp2_with fail
  clear X0c0 X0c1 X0c2 X0z
  have hst := (Below.refl w4.heap.size w4).alloc (Nat.le_refl _) (.cells #[.slice A1a n1 c1a, .int .i64 m1, .int .i64 s1] 29)
  replace X0 := X0.later hst
  replace hR := rw_later hR hst
  replace hb0 := bs_later hb0 hst
  replace R1a := rw_later R1a hst
  replace hL := hL.later hst.size
  replace hB := hB.trans (hst.mono hB.size)
  have Ya := Box.new w4 [.slice A1a n1 c1a, .int .i64 m1, .int .i64 s1] 29
  have hzYa : Hid ((w4.alloc (.cells #[.slice A1a n1 c1a, .int .i64 m1, .int .i64 s1] 29)).heap.size = w4.heap.size + 1) := Lib.hid (by simp)
  clear hst
  generalize w4.alloc (.cells #[.slice A1a n1 c1a, .int .i64 m1, .int .i64 s1] 29) = w5 at hB hL hzYa Ya X0 hR hb0 R1a ⊢
  generalize hga : w4.heap.size = Yaa at hzYa Ya ⊢
  clear hga
  refine (jRAppend_at hR hj hs hb0 hnb hnb2).mono ?_
  rintro e w6 hh
  obtain ⟨A1b, c1b, rfl, R1b, hb⟩ := RetJn.is hh hL h1 hj1
  replace X0 := X0.later hb
  replace Ya := Ya.later hb
  replace hR := rw_later hR hb
  replace hb0 := bs_later hb0 hb
  replace R1a := rw_later R1a hb
  replace hB := hB.trans (hb.mono hB.size)
  replace hL := hL.later hb.size
  clear hb
  go_wp2_with fail
  have hst := (Below.refl w6.heap.size w6).alloc (Nat.le_refl _) (.cells #[.slice A1b n1 c1b, .int .i64 m1, .int .i64 s1] 29)
  replace X0 := X0.later hst
  replace Ya := Ya.later hst
  replace hR := rw_later hR hst
  replace hb0 := bs_later hb0 hst
  replace R1a := rw_later R1a hst
  replace R1b := rw_later R1b hst
  replace hL := hL.later hst.size
  replace hB := hB.trans (hst.mono hB.size)
  have Yb := Box.new w6 [.slice A1b n1 c1b, .int .i64 m1, .int .i64 s1] 29
  have hzYb : Hid ((w6.alloc (.cells #[.slice A1b n1 c1b, .int .i64 m1, .int .i64 s1] 29)).heap.size = w6.heap.size + 1) := Lib.hid (by simp)
  clear hst
  generalize w6.alloc (.cells #[.slice A1b n1 c1b, .int .i64 m1, .int .i64 s1] 29) = w7 at hB hL hzYb Yb X0 Ya hR hb0 R1a R1b ⊢
  generalize hga : w6.heap.size = Yba at hzYb Yb ⊢
  clear hga
  have X0l0 : ∀ zz : Later w7, zz.w.cell? ⟨X0a, 0, none⟩ = some (.slice A n c) := Later.cell (X0.cell 0) X0.lt
  have X0l1 : ∀ zz : Later w7, zz.w.cell? ⟨X0a, 1, none⟩ = some (.int .i64 many) := Later.cell (X0.cell 1) X0.lt
  have X0l2 : ∀ zz : Later w7, zz.w.cell? ⟨X0a, 2, none⟩ = some (.int .i64 sync) := Later.cell (X0.cell 2) X0.lt
  have Yal0 : ∀ zz : Later w7, zz.w.cell? ⟨Yaa, 0, none⟩ = some (.slice A1a n1 c1a) := Later.cell (Ya.cell 0) Ya.lt
  have Yal1 : ∀ zz : Later w7, zz.w.cell? ⟨Yaa, 1, none⟩ = some (.int .i64 m1) := Later.cell (Ya.cell 1) Ya.lt
  have Yal2 : ∀ zz : Later w7, zz.w.cell? ⟨Yaa, 2, none⟩ = some (.int .i64 s1) := Later.cell (Ya.cell 2) Ya.lt
  have Ybl0 : ∀ zz : Later w7, zz.w.cell? ⟨Yba, 0, none⟩ = some (.slice A1b n1 c1b) := Later.cell (Yb.cell 0) Yb.lt
  have Ybl1 : ∀ zz : Later w7, zz.w.cell? ⟨Yba, 1, none⟩ = some (.int .i64 m1) := Later.cell (Yb.cell 1) Yb.lt
  have Ybl2 : ∀ zz : Later w7, zz.w.cell? ⟨Yba, 2, none⟩ = some (.int .i64 s1) := Later.cell (Yb.cell 2) Yb.lt
  refine wp_region_later (by kernel_rfl) (by kernel_rfl) ?_
  repeat (go_big_quiet_step ((first | (go_at_call 17; with_reducible exact Later.call _ (jCheck_at (rw_later hR (Later.below _)) hj hs hck)) | (go_at_call 18; with_reducible exact Later.call _ (jRCheck_at (rw_later hR (Later.below _)) hj hs hck)) | (go_at_call 19; with_reducible exact Later.call _ (jRoom_at (rw_later hR (Later.below _)) hj hs hrm)) | (go_at_call 20; with_reducible exact Later.call _ (jRRoom_at (rw_later hR (Later.below _)) hj hs hrm)) | (go_at_call 14; with_reducible exact Later.call _ (jSame_at (rw_later R1a (Later.below _)) hj1 (rw_later R1b (Later.below _)) hj1 (Lib.hid (sameJ_refl _)))))))
  refine wpQuiet_nil ?_
  intro _ hw'
  obtain ⟨yq, hw''⟩ := hw'
  subst hw''
  clear X0l0 X0l1 X0l2 Yal0 Yal1 Yal2 Ybl0 Ybl1 Ybl2
  obtain ⟨w8, hz, hb⟩ : ∃ z, yq.w = z ∧ Below w7.heap.size w7 z := ⟨_, rfl, yq.below⟩
  rw [hz]
  clear hz
  have X0 := X0.later hb
  have Ya := Ya.later hb
  have Yb := Yb.later hb
  have hR := rw_later hR hb
  have hb0 := bs_later hb0 hb
  have R1a := rw_later R1a hb
  have R1b := rw_later R1b hb
  have hB := hB.trans (hb.mono hB.size)
  clear hb
  go_wp2
  go_ret
  exact ⟨rfl, hB⟩

theorem law_JournalOpenSpec (d : Dk) (Vs Vp : Value) (w : World) (hD : DkAt w (fun b => b < w.heap.size) Vs Vp d) : Calls Try.prog 3 #[.agg #[Vs, Vp, .int .i64 d.left, .bool d.stopped]] w fun e w' => e = .returned (.bool true) ∧ Below w.heap.size w w' := by
  obtain ⟨As, cs, rfl, hm1⟩ := hD.sectors.form
  obtain ⟨Ap, cp, rfl, _⟩ := hD.pending.form
  exact lawO d As _ cs Ap _ cp _ _ w (live_dk hD) (Lib.hid ⟨rfl, rfl⟩) (Lib.hid rfl) (Lib.hid rfl)
theorem law_JournalSyncSpec (J : Jn) (V : Value) (d : Dk) (Vs Vp : Value) (w : World) (hR : RwAt w (fun b => b < w.heap.size) V J.records) (hs : sumB J.records ≤ 4194304) (hD : DkAt w (fun b => b < w.heap.size) Vs Vp d) : Calls Try.prog 5 #[.agg #[V, .int .i64 J.many, .int .i64 J.synced], .agg #[Vs, Vp, .int .i64 d.left, .bool d.stopped]] w fun e w' => e = .returned (.bool true) ∧ Below w.heap.size w w' := by
  obtain ⟨As, cs, rfl, hm1⟩ := hD.sectors.form
  obtain ⟨Ap, cp, rfl, _⟩ := hD.pending.form
  obtain ⟨A, c, rfl, _⟩ := hR.form
  exact lawS J A _ c _ _ d As _ cs Ap _ cp _ _ w (live_rw hR) (Lib.hid ⟨rfl, rfl, rfl⟩) hs (live_dk hD) (Lib.hid ⟨rfl, rfl⟩) (Lib.hid rfl) (Lib.hid rfl)
theorem law_JournalAppendSpec (J : Jn) (V : Value) (b : Bs) (Vb : Value) (w : World) (hR : RwAt w (fun b => b < w.heap.size) V J.records) (hs : sumB J.records ≤ 4194304) (hb : BsAt w (fun b => b < w.heap.size) Vb b) : Calls Try.prog 4 #[.agg #[V, .int .i64 J.many, .int .i64 J.synced], Vb] w fun e w' => e = .returned (.bool true) ∧ Below w.heap.size w w' := by
  obtain ⟨A, c, rfl, _⟩ := hR.form
  obtain ⟨Ab, cb, rfl, _⟩ := hb.form
  by_cases hl : b.length ≤ 70000
  · exact lawA_2 J A _ c _ _ b Ab _ cb w (live_rw hR) (Lib.hid ⟨rfl, rfl, rfl⟩) hs (live_bs hb) (Lib.hid rfl) hl
  · exact lawA_1 J A _ c _ _ b Ab _ cb w (live_rw hR) (Lib.hid ⟨rfl, rfl, rfl⟩) hs (live_bs hb) (Lib.hid rfl) (by omega)

end Go.Proofs.Ythlidhfahaalgaa
