/- The law JournalDamage. (Printed by gen_mn.py.) -/
import Derived.Test.YthlidhfahaalgaaQMK
import Derived.Test.YthlidhfahaalgaaQMD
set_option linter.unusedVariables false
set_option linter.unusedSimpArgs false
namespace Go.Proofs.Ythlidhfahaalgaa
open Go.RowKit
attribute [local go_sem ↓ high] app_named cop_named

theorem dup_rw {w : World} {a : Nat} {V : Value} {l : List Bs} (h : Hid (RwAt w (Out [a]) V l)) : Hid (RwAt w (Out [a, a]) V l) := Lib.hid (h.out.weak fun b hb _ hc => hb (by simpa using hc))
theorem dup_dk {w : World} {a : Nat} {V U : Value} {d : Dk} (h : Hid (DkAt w (Out [a]) V U d)) : Hid (DkAt w (Out [a, a]) V U d) := Lib.hid (h.out.weak fun b hb _ hc => hb (by simpa using hc))
theorem jnd40 : Jnd ⟨[], 40, 0⟩ [] [] 40 := ⟨opened_ok new40, rfl⟩
theorem new_is40 : newT 40 = (⟨S40, [], -1, false⟩, 0) := rfl
theorem fit_of {J J1 : Jn} {N : List Bs} {b : Bs} (hJ : Jnd J [] N 40) (h1 : appendT J b = (J1, 0)) : b.length ≤ 4480 ∧ secT b.length ≤ 40 := by
  have h := hJ.more (b := b) (by rw [h1])
  have hu := h.used
  rw [usedT_append, usedT_cons] at hu
  have : secT b.length ≤ 40 := by omega
  refine ⟨?_, this⟩
  unfold secT at this
  omega

set_option maxRecDepth 100000 in
set_option maxHeartbeats 16000000 in
theorem lawD_0 (L : List Bs) (Ar : Option Addr) (nr cr : Nat) (sec at' by' : Int) (w : World) (hrec : Hid (RwAt w (Out []) (.slice Ar nr cr) L)) (hnr : Hid (L.length = nr)) (hrl : Hid (∀ b ∈ L, b.length ≤ 140737488351232)) (hby : 0 ≤ by' ∧ by' ≤ 255) (h0 : Hid (nr = 0)) : Calls Try.prog 7 #[.slice Ar nr cr, .int .i64 sec, .int .i64 at', .int .u8 by'] w (fun e w' => e = .returned (.bool true) ∧ Below w.heap.size w w') := by
  have hB := Below.refl w.heap.size w
  have hL := InW.nil w
  go_enter Try.func7, Try.ntmps7
  go_wp2_with fail
  refine (jSane_any _).mono ?_
  rintro e w1 ⟨rfl, hb⟩
  replace hrec := rw_later hrec hb
  replace hB := hB.trans (hb.mono hB.size)
  replace hL := hL.later hb.size
  clear hb
  go_wp2_with fail
  refine (dNew_any 40 (Out []) _).mono ?_
  rintro e w2 hh
  obtain ⟨As, cs, Ap, cp, rfl, hD, hb⟩ := RetDk.is hh hL (Lib.hid new_is40) (ns := 40) (np := 0) (dl := -1) (ds := false) (Lib.hid List.length_replicate) rfl rfl rfl
  replace hrec := rw_later hrec hb
  replace hB := hB.trans (hb.mono hB.size)
  replace hL := hL.later hb.size
  clear hb
  go_wp2_with fail
  have hst := (Below.refl w2.heap.size w2).alloc (Nat.le_refl _) (.cells #[.slice As 40 cs, .slice Ap 0 cp, .int .i64 (-1), .bool false] 25)
  replace hrec := rw_later hrec hst
  replace hD := dk_later hD hst
  replace hL := hL.later hst.size
  replace hB := hB.trans (hst.mono hB.size)
  have X := Box.new w2 [.slice As 40 cs, .slice Ap 0 cp, .int .i64 (-1), .bool false] 25
  have hzX : Hid ((w2.alloc (.cells #[.slice As 40 cs, .slice Ap 0 cp, .int .i64 (-1), .bool false] 25)).heap.size = w2.heap.size + 1) := Lib.hid (by simp)
  clear hst
  generalize w2.alloc (.cells #[.slice As 40 cs, .slice Ap 0 cp, .int .i64 (-1), .bool false] 25) = w3 at hB hL hzX X hrec hD ⊢
  generalize hga : w2.heap.size = Xa at hzX X ⊢
  clear hga
  refine (jFew_at hrec hnr).mono ?_
  rintro e w4 ⟨t, rfl, ht, hb⟩
  replace X := X.later hb
  replace hrec := rw_later hrec hb
  replace hD := dk_later hD hb
  replace hB := hB.trans (hb.mono hB.size)
  replace hL := hL.later hb.size
  clear hb
  clear ht
  rcases t with _ | _
  · go_wp2
    go_ret
    exact ⟨rfl, hB⟩
  have hz : ((nr : Int) == 0) = true := by rw [h0.out]; rfl
  clear h0
  go_wp2
  go_ret
  exact ⟨rfl, hB⟩

set_option maxRecDepth 100000 in
set_option maxHeartbeats 16000000 in
theorem lawD_1 (L : List Bs) (Ar : Option Addr) (nr cr : Nat) (sec at' by' : Int) (w : World) (hrec : Hid (RwAt w (Out []) (.slice Ar nr cr) L)) (hnr : Hid (L.length = nr)) (hrl : Hid (∀ b ∈ L, b.length ≤ 140737488351232)) (hby : 0 ≤ by' ∧ by' ≤ 255) (h0 : 0 < nr) (h1 : by' = 0) : Calls Try.prog 7 #[.slice Ar nr cr, .int .i64 sec, .int .i64 at', .int .u8 by'] w (fun e w' => e = .returned (.bool true) ∧ Below w.heap.size w w') := by
  have hB := Below.refl w.heap.size w
  have hL := InW.nil w
  go_enter Try.func7, Try.ntmps7
  go_wp2_with fail
  refine (jSane_any _).mono ?_
  rintro e w1 ⟨rfl, hb⟩
  replace hrec := rw_later hrec hb
  replace hB := hB.trans (hb.mono hB.size)
  replace hL := hL.later hb.size
  clear hb
  go_wp2_with fail
  refine (dNew_any 40 (Out []) _).mono ?_
  rintro e w2 hh
  obtain ⟨As, cs, Ap, cp, rfl, hD, hb⟩ := RetDk.is hh hL (Lib.hid new_is40) (ns := 40) (np := 0) (dl := -1) (ds := false) (Lib.hid List.length_replicate) rfl rfl rfl
  replace hrec := rw_later hrec hb
  replace hB := hB.trans (hb.mono hB.size)
  replace hL := hL.later hb.size
  clear hb
  go_wp2_with fail
  have hst := (Below.refl w2.heap.size w2).alloc (Nat.le_refl _) (.cells #[.slice As 40 cs, .slice Ap 0 cp, .int .i64 (-1), .bool false] 25)
  replace hrec := rw_later hrec hst
  replace hD := dk_later hD hst
  replace hL := hL.later hst.size
  replace hB := hB.trans (hst.mono hB.size)
  have X := Box.new w2 [.slice As 40 cs, .slice Ap 0 cp, .int .i64 (-1), .bool false] 25
  have hzX : Hid ((w2.alloc (.cells #[.slice As 40 cs, .slice Ap 0 cp, .int .i64 (-1), .bool false] 25)).heap.size = w2.heap.size + 1) := Lib.hid (by simp)
  clear hst
  generalize w2.alloc (.cells #[.slice As 40 cs, .slice Ap 0 cp, .int .i64 (-1), .bool false] 25) = w3 at hB hL hzX X hrec hD ⊢
  generalize hga : w2.heap.size = Xa at hzX X ⊢
  clear hga
  refine (jFew_at hrec hnr).mono ?_
  rintro e w4 ⟨t, rfl, ht, hb⟩
  replace X := X.later hb
  replace hrec := rw_later hrec hb
  replace hD := dk_later hD hb
  replace hB := hB.trans (hb.mono hB.size)
  replace hL := hL.later hb.size
  clear hb
  clear ht
  rcases t with _ | _
  · go_wp2
    go_ret
    exact ⟨rfl, hB⟩
  have hz : ((nr : Int) == 0) = false := by simp; omega
  have hz0 : nr ≠ 0 := by omega
  subst h1
  go_wp2
  go_ret
  exact ⟨rfl, hB⟩

set_option maxRecDepth 100000 in
set_option maxHeartbeats 16000000 in
theorem lawD_2 (L : List Bs) (Ar : Option Addr) (nr cr : Nat) (sec at' by' : Int) (w : World) (hrec : Hid (RwAt w (Out []) (.slice Ar nr cr) L)) (hnr : Hid (L.length = nr)) (hrl : Hid (∀ b ∈ L, b.length ≤ 140737488351232)) (hby : 0 ≤ by' ∧ by' ≤ 255) (h0 : 0 < nr) (hbn : by' ≠ 0) (hsec : -9223372036854775808 ≤ sec ∧ sec ≤ 9223372036854775807) (hat : -9223372036854775808 ≤ at' ∧ at' ≤ 9223372036854775807) : Calls Try.prog 7 #[.slice Ar nr cr, .int .i64 sec, .int .i64 at', .int .u8 by'] w (fun e w' => e = .returned (.bool true) ∧ Below w.heap.size w w') := by
  have hB := Below.refl w.heap.size w
  have hL := InW.nil w
  go_enter Try.func7, Try.ntmps7
  go_wp2_with fail
  refine (jSane_any _).mono ?_
  rintro e w1 ⟨rfl, hb⟩
  replace hrec := rw_later hrec hb
  replace hB := hB.trans (hb.mono hB.size)
  replace hL := hL.later hb.size
  clear hb
  go_wp2_with fail
  refine (dNew_any 40 (Out []) _).mono ?_
  rintro e w2 hh
  obtain ⟨As, cs, Ap, cp, rfl, hD, hb⟩ := RetDk.is hh hL (Lib.hid new_is40) (ns := 40) (np := 0) (dl := -1) (ds := false) (Lib.hid List.length_replicate) rfl rfl rfl
  replace hrec := rw_later hrec hb
  replace hB := hB.trans (hb.mono hB.size)
  replace hL := hL.later hb.size
  clear hb
  go_wp2_with fail
  have hst := (Below.refl w2.heap.size w2).alloc (Nat.le_refl _) (.cells #[.slice As 40 cs, .slice Ap 0 cp, .int .i64 (-1), .bool false] 25)
  replace hrec := rw_later hrec hst
  replace hD := dk_later hD hst
  replace hL := hL.later hst.size
  replace hB := hB.trans (hst.mono hB.size)
  have X := Box.new w2 [.slice As 40 cs, .slice Ap 0 cp, .int .i64 (-1), .bool false] 25
  have hzX : Hid ((w2.alloc (.cells #[.slice As 40 cs, .slice Ap 0 cp, .int .i64 (-1), .bool false] 25)).heap.size = w2.heap.size + 1) := Lib.hid (by simp)
  clear hst
  generalize w2.alloc (.cells #[.slice As 40 cs, .slice Ap 0 cp, .int .i64 (-1), .bool false] 25) = w3 at hB hL hzX X hrec hD ⊢
  generalize hga : w2.heap.size = Xa at hzX X ⊢
  clear hga
  refine (jFew_at hrec hnr).mono ?_
  rintro e w4 ⟨t, rfl, ht, hb⟩
  replace X := X.later hb
  replace hrec := rw_later hrec hb
  replace hD := dk_later hD hb
  replace hB := hB.trans (hb.mono hB.size)
  replace hL := hL.later hb.size
  clear hb
  clear ht
  rcases t with _ | _
  · go_wp2
    go_ret
    exact ⟨rfl, hB⟩
  have hz0 : nr ≠ 0 := by omega
  have hz1 : (by' == 0) = false := by simpa using hbn
  have HOP : Hid (openT ⟨S40, [], -1, false⟩ = (⟨[], 40, 0⟩, 0)) := Lib.hid (open_good new40 (by omega))
  have hdi : Hid (DkIs ⟨S40, [], -1, false⟩ (-1) false) := Lib.hid ⟨rfl, rfl⟩
  have Xc0 : w4.cell? ⟨Xa, 0, none⟩ = some (.slice As 40 cs) := X.cell 0
  have Xc1 : w4.cell? ⟨Xa, 1, none⟩ = some (.slice Ap 0 cp) := X.cell 1
  have Xc2 : w4.cell? ⟨Xa, 2, none⟩ = some (.int .i64 (-1)) := X.cell 2
  have Xc3 : w4.cell? ⟨Xa, 3, none⟩ = some (.bool false) := X.cell 3
  have Xz : Xa < w4.heap.size := X.lt
  go_wp2_with fail
  clear Xc0 Xc1 Xc2 Xc3 Xz
  refine (jOpen_at hD hdi).mono ?_
  rintro e w5 hh
  obtain ⟨A0, c0, rfl, R0, hb⟩ := RetJn.is hh hL HOP (Lib.hid ⟨rfl, rfl, rfl⟩) (n := 0) (many := 40) (sync := 0)
  replace X := X.later hb
  replace hrec := rw_later hrec hb
  replace hD := dk_later hD hb
  replace hB := hB.trans (hb.mono hB.size)
  replace hL := hL.later hb.size
  clear hb
  go_wp2_with fail
  have hst := (Below.refl w5.heap.size w5).alloc (Nat.le_refl _) (.cells #[.slice A0 0 c0, .int .i64 40, .int .i64 0] 29)
  have nXLb : Xa ≠ w5.heap.size := by have := X.lt; omega
  have hg0 : w.heap.size ≤ w5.heap.size := hB.size
  replace X := X.later hst
  replace hrec := rw_more (a := w5.heap.size) (Nat.le_refl _) hrec
  replace hrec := rw_later hrec hst
  replace hD := dk_more (a := w5.heap.size) (Nat.le_refl _) hD
  replace hD := dk_later hD hst
  replace R0 := rw_more (a := w5.heap.size) (Nat.le_refl _) R0
  replace R0 := rw_later R0 hst
  replace hL := hL.later hst.size
  replace hL := hL.cons (a := w5.heap.size) (by simp)
  replace hB := hB.trans (hst.mono hB.size)
  have Lb := Box.new w5 [.slice A0 0 c0, .int .i64 40, .int .i64 0] 29
  have hzLb : Hid ((w5.alloc (.cells #[.slice A0 0 c0, .int .i64 40, .int .i64 0] 29)).heap.size = w5.heap.size + 1) := Lib.hid (by simp)
  clear hst
  generalize w5.alloc (.cells #[.slice A0 0 c0, .int .i64 40, .int .i64 0] 29) = w6 at hB hL hzLb Lb X hrec hD R0 ⊢
  generalize hga : w5.heap.size = Lba at hzLb Lb nXLb hL hrec hD R0 ⊢
  have gLb : w.heap.size ≤ Lba := by rw [← hga]; exact hg0
  clear hg0
  clear hga
  obtain ⟨B, hBe⟩ : ∃ x, w6.heap.size = x := ⟨_, rfl⟩
  have hBs : Hid (B ≤ w6.heap.size) := Lib.hid (by omega)
  have hXB : Xa < B := by have := X.lt; omega
  have hLB : Lba < B := by have := Lb.lt; omega
  have hO := Lib.hid (ownIs_nil w6 B)
  have hnr9 : nr ≤ 9223372036854775807 := by have h := hrec.out.caps; omega
  replace hrec := dup_rw hrec
  replace R0 := dup_rw R0
  replace hD := dup_dk hD
  replace hL := hL.cons (hL Lba (by simp))
  clear hzLb HOP hBe
  go_loopw [13, 62] (fun v13 j wr => ∃ (q m ga : Nat) (N : List Bs) (J : Jn) (A : Option Addr) (c : Nat) (A13 : Option Addr) (c13 : Nat), q ≤ nr ∧ j = .int .i64 (q : Int) ∧ v13 = .slice A13 m c13 ∧ Hid (N.length = m) ∧ Hid (Jnd J [] N 40) ∧ Box wr Lba [.slice A m c, .int .i64 40, .int .i64 0] ∧ Hid (RwAt wr (Out [ga, Lba]) (.slice A m c) J.records) ∧ Box wr Xa [.slice As 40 cs, .slice Ap 0 cp, .int .i64 (-1), .bool false] ∧ Hid (DkAt wr (Out [ga, Lba]) (.slice As 40 cs) (.slice Ap 0 cp) ⟨S40, [], -1, false⟩) ∧ Hid (RwAt wr (Out [ga, Lba]) (.slice Ar nr cr) L) ∧ Hid (OwnIs wr B (.slice A13 m c13) (endsT N)) ∧ Hid ((Value.slice A13 m c13).ownBlock = none ∨ (Value.slice A13 m c13).ownBlock = some ga ∧ B ≤ ga) ∧ InW [ga, Lba] wr ∧ Hid (B ≤ wr.heap.size) ∧ Below w.heap.size w wr) (fun _ j _ => nr - (intOf j).toNat)
  case atStart => exact ⟨0, 0, Lba, [], ⟨[], 40, 0⟩, A0, c0, none, 0, Nat.zero_le _, rfl, rfl, rfl, jnd40, Lb, R0, X, hD, hrec, hO, .inl rfl, hL, hBs, hB⟩
  case round =>
    clear Lb R0 X hD hrec hO hL hBs hB
    obtain ⟨q, m, ga, N, J, A, c, A13, c13, hq, rfl, rfl, hm, hJ, Lb, hR, X, hD, hrec, hO, hga, hL, hBs, hB⟩ := hrel
    have hJs : Hid (sumB J.records ≤ 4194304) := Lib.hid (ok_sum hJ.out.ok)
    have hJi : Hid (JnIs J m 40 0) := Lib.hid (by have := hJ.out.jn; rwa [show ([] : List Bs).length = 0 from rfl, Nat.zero_add, hm.out] at this)
    have hu40 : Hid (usedT N ≤ 40) := Lib.hid hJ.out.used
    have hm40 : m ≤ 40 := by have := hu40.out; have := len_used N; have := hm.out; omega
    have hneL : (Value.slice A13 m c13).ownBlock ≠ some Lba := by
      rcases hga.out with h | ⟨h, h2⟩
      · rw [h]; simp
      · rw [h]; intro e; have := Option.some.inj e; omega
    rcases Nat.lt_or_ge q nr with hlt | hge
    rotate_left
    · obtain rfl : nr = q := by omega
      have hqn : decide ((nr : Int) < (nr : Int)) = false := decide_eq_false (by omega)
      obtain ⟨S', hG2, hsy, hSp⟩ := sync_fresh hJ.out
      have HSY : Hid (syncJ J ⟨S40, [], -1, false⟩ = (⟨N, 40, (N.length : Nat)⟩, ⟨S', [], -1, false⟩, 0)) := Lib.hid hsy
      replace hG2 := Lib.hid hG2
      replace hSp := Lib.hid hSp
      clear hsy
      have hj2 : Hid (JnIs ⟨N, 40, (N.length : Nat)⟩ m 40 m) := Lib.hid ⟨hm.out, rfl, by rw [← hm.out]⟩
      have Xc0 : wr.cell? ⟨Xa, 0, none⟩ = some (.slice As 40 cs) := X.cell 0
      have Xc1 : wr.cell? ⟨Xa, 1, none⟩ = some (.slice Ap 0 cp) := X.cell 1
      have Xc2 : wr.cell? ⟨Xa, 2, none⟩ = some (.int .i64 (-1)) := X.cell 2
      have Xc3 : wr.cell? ⟨Xa, 3, none⟩ = some (.bool false) := X.cell 3
      have Xz : Xa < wr.heap.size := X.lt
      have Lbc0 : wr.cell? ⟨Lba, 0, none⟩ = some (.slice A m c) := Lb.cell 0
      have Lbc1 : wr.cell? ⟨Lba, 1, none⟩ = some (.int .i64 40) := Lb.cell 1
      have Lbc2 : wr.cell? ⟨Lba, 2, none⟩ = some (.int .i64 0) := Lb.cell 2
      have Lbz : Lba < wr.heap.size := Lb.lt
      go_wp2_with fail
      clear Xc0 Xc1 Xc2 Xc3 Xz Lbc0 Lbc1 Lbc2 Lbz
      refine (jSync_at hR hJi hJs hD hdi (Lib.hid List.length_replicate) (Lib.hid rfl)).mono ?_
      rintro e w7 hh
      obtain ⟨A2, c2, S2, p2, P2, q2, rfl, R2, E2, hb⟩ := RetJD.is hh hL HSY hj2 (ns := 40) (np := 0) (dl := -1) (ds := false) (Lib.hid hG2.out.len) rfl rfl rfl
      replace X := X.later hb
      replace Lb := Lb.later hb
      replace hD := dk_later hD hb
      replace hrec := rw_later hrec hb
      replace hR := rw_later hR hb
      replace hO := ownI_later hO hb
      replace hBs := hbs_later hBs hb
      replace hB := hB.trans (hb.mono hB.size)
      replace hL := hL.later hb.size
      clear hb
      clear HSY hj2
      go_upto_region 22 with fail
      have hst := (Below.refl w7.heap.size w7).alloc (Nat.le_refl _) (.cells #[.slice A2 m c2, .int .i64 40, .int .i64 m] 29)
      have nLbY2 : Lba ≠ w7.heap.size := by have := Lb.lt; omega
      replace X := X.later hst
      replace Lb := Lb.later hst
      replace hD := dk_later hD hst
      replace hrec := rw_later hrec hst
      replace hR := rw_later hR hst
      replace hO := ownI_later hO hst
      replace hBs := hbs_later hBs hst
      replace E2 := dk_later E2 hst
      replace hL := hL.later hst.size
      replace hB := hB.trans (hst.mono hB.size)
      have Y2 := Box.new w7 [.slice A2 m c2, .int .i64 40, .int .i64 m] 29
      have hzY2 : Hid ((w7.alloc (.cells #[.slice A2 m c2, .int .i64 40, .int .i64 m] 29)).heap.size = w7.heap.size + 1) := Lib.hid (by simp)
      clear hst
      generalize w7.alloc (.cells #[.slice A2 m c2, .int .i64 40, .int .i64 m] 29) = w8 at hB hL hzY2 Y2 X Lb hD hrec hR hO hBs E2 ⊢
      generalize hga : w7.heap.size = Y2a at hzY2 Y2 nLbY2 ⊢
      clear hga
      rw [← hzY2.out]
      have hgaS := hL ga (by simp)
      have hst := (Below.refl w8.heap.size w8).alloc (Nat.le_refl _) (.cells #[.slice S2 40 p2, .slice P2 0 q2, .int .i64 (-1), .bool false] 25)
      have nXZ : Xa ≠ w8.heap.size := by have := X.lt; omega
      have nLbZ : Lba ≠ w8.heap.size := by have := Lb.lt; omega
      have nY2Z : Y2a ≠ w8.heap.size := by have := Y2.lt; omega
      have hg0 : w.heap.size ≤ w8.heap.size := hB.size
      replace X := X.later hst
      replace Lb := Lb.later hst
      replace Y2 := Y2.later hst
      replace hD := dk_more (a := w8.heap.size) (Nat.le_refl _) hD
      replace hD := dk_later hD hst
      replace hrec := rw_more (a := w8.heap.size) (Nat.le_refl _) hrec
      replace hrec := rw_later hrec hst
      replace hR := rw_more (a := w8.heap.size) (Nat.le_refl _) hR
      replace hR := rw_later hR hst
      replace hO := ownI_more (a := w8.heap.size) (Nat.le_refl _) hO
      replace hO := ownI_later hO hst
      replace hBs := hbs_more (a := w8.heap.size) (Nat.le_refl _) hBs
      replace hBs := hbs_later hBs hst
      replace E2 := dk_more (a := w8.heap.size) (Nat.le_refl _) E2
      replace E2 := dk_later E2 hst
      replace hL := hL.later hst.size
      replace hL := hL.cons (a := w8.heap.size) (by simp)
      replace hB := hB.trans (hst.mono hB.size)
      have Z := Box.new w8 [.slice S2 40 p2, .slice P2 0 q2, .int .i64 (-1), .bool false] 25
      have hzZ : Hid ((w8.alloc (.cells #[.slice S2 40 p2, .slice P2 0 q2, .int .i64 (-1), .bool false] 25)).heap.size = w8.heap.size + 1) := Lib.hid (by simp)
      clear hst
      generalize w8.alloc (.cells #[.slice S2 40 p2, .slice P2 0 q2, .int .i64 (-1), .bool false] 25) = w9 at hB hL hzZ Z X Lb Y2 hD hrec hR hO hBs E2 ⊢
      generalize hga : w8.heap.size = Za at hzZ Z nXZ nLbZ nY2Z hL hD hrec hR hO hBs E2 hgaS ⊢
      have gZ : w.heap.size ≤ Za := by rw [← hga]; exact hg0
      clear hg0
      clear hga
      clear Y2 X hD
      have hel : (endsT N).length = m := by rw [endsT_length, hm.out]
      obtain ⟨u, hu⟩ : ∃ x, usedT N = x := ⟨_, rfl⟩
      have hu4 : u ≤ 40 := by rw [← hu]; exact hu40.out
      have hlast : Hid (∀ p, m = p + 1 → (endsT N).getD p 0 = (u : Int)) := Lib.hid fun p e => by
        have hp : p < N.length := by rw [hm.out]; omega
        rw [List.getD_eq_getElem?_getD, endsT_get hp, List.take_of_length_le (by rw [hm.out]; omega), hu]
        rfl
      replace hu := Lib.hid hu
      obtain rfl | ⟨p, rfl⟩ : m = 0 ∨ ∃ p, m = p + 1 := by rcases m with _ | p; exact .inl rfl; exact .inr ⟨p, rfl⟩
      · clear hlast hel
        go_wp2
        go_ret
        exact ⟨rfl, hB⟩
      · obtain ⟨hx, gg, hA13, hxb, hgz, hgc⟩ := hO.out.cell (i := p) (Nat.lt_succ_self p)
        clear hx
        subst hA13
        rw [hlast.out p rfl] at hgc
        have hN0 : N ≠ [] := fun e => by have := hm.out; rw [e] at this; cases this
        have hu1 : 1 ≤ u := by rw [← hu.out]; have := len_used N; have := hm.out; omega
        clear hlast
        have hp1 : (p : Int) < (p : Int) + 1 := by omega
        have hp0 : (0 : Int) ≤ (p : Int) := by omega
        have hpp : ((p : Int) + 1 == 0) = false := by simp; omega
        have hppn : p + 1 ≠ 0 := by omega
        clear hel
        go_upto_region 25 with fail
        obtain ⟨kk, hkk, hku⟩ := kk_of sec hu1 (show u ≤ 128 by omega)
        have hkw : wrap64 ((IntKind.u64.wrap sec).tmod (u : Int)) = (kk : Int) := by rw [hkk]; exact IntWalk.wrap64_in _ (by omega)
        rw [hkw]
        clear hkw hkk
        have hk40 : kk < 40 := by omega
        have hkS : kk < S'.length := by rw [hG2.out.len]; exact hk40
        obtain ⟨zb, zo, V, hS2, hzx, hzz, hzc, hzb⟩ := E2.out.sectors.row (k := kk) hkS
        clear hzx
        subst hS2
        have hl128 := hG2.out.rows _ (List.getElem_mem hkS)
        obtain ⟨s, hs0⟩ : ∃ s, S'[kk] = s := ⟨_, rfl⟩
        have hsk : Hid (S'[kk]? = some s) := Lib.hid (by rw [List.getElem?_eq_getElem hkS, hs0])
        rw [hs0] at hzb hl128
        clear hs0
        obtain ⟨Av, cv, hV, _⟩ := hzb.form
        rw [hl128] at hV
        subst hV
        obtain ⟨ii, hii, hi⟩ := kk_of at' (u := 128) (by decide) (by decide)
        have hii2 : (IntKind.u64.wrap at').tmod 128 = (ii : Int) := hii
        clear hii
        have hisl : ii < s.length := by rw [hl128]; exact hi
        obtain ⟨y, hy, hyne⟩ := xor_u8 s[ii] hby hbn
        obtain ⟨mm, hmm, hm1, hm2, hGd⟩ := damaged (hSp.out hN0) hG2.out hu40.out (by rw [hu.out]; exact hku) hsk.out hi hl128 hyne
        have hl2 : (s.set ii y).length = 128 := by rw [List.length_set, hl128]
        obtain ⟨hwr, hsy⟩ := put_back hG2.out hk40 hl2
        replace hwr := Lib.hid hwr
        replace hsy := Lib.hid hsy
        replace hGd := Lib.hid hGd
        have hmp : mm < p + 1 := by rw [← hm.out]; exact hmm
        have hb1 : Hid (∀ q, q < mm → usedT (N.take (q + 1)) ≤ kk) := Lib.hid fun q hq => Nat.le_trans (usedT_mono (show q + 1 ≤ mm from hq)) hm1
        have hb2 : Hid (kk < usedT (N.take (mm + 1))) := Lib.hid hm2
        clear hmm hm1 hm2 hsk hyne hN0
        obtain ⟨g', c', w', hr, hO8, hb8⟩ := run_dup 35 (w := w9) rfl hzb hl128 (by decide) (by decide)
        obtain ⟨hgg, hgl, hc8, hf8⟩ := ownB_cell hO8 hl128 hisl
        have hi0 : (0 : Int) ≤ (ii : Int) := by omega
        have hi1 : (ii : Int) < 128 := by omega
        have k0 : (0 : Int) ≤ (kk : Int) := by omega
        have k1 : (kk : Int) < 40 := by omega
        have k2 : ¬ (40 ≤ kk) := by omega
        have k3 : decide ((kk : Int) ≥ 40) = false := decide_eq_false (by omega)
        have hb9 : Below w9.heap.size w9 (w'.setCell ⟨g', ii, none⟩ (.int .u8 (y.toNat : Int))) := hb8.setCell (p := ⟨g', ii, none⟩) hgg _
        have hO9 := ownB_set (i := ii) hO8 hl128 y
        have hbs9 := hO9.bs (by rw [hl2]; simp [maxLen])
        clear hO8 hO9 hzb
        have Zc0 : w9.cell? ⟨Za, 0, none⟩ = some (.slice (some ⟨zb, zo, none⟩) 40 p2) := Z.cell 0
        have Zc1 : w9.cell? ⟨Za, 1, none⟩ = some (.slice P2 0 q2) := Z.cell 1
        have Zc2 : w9.cell? ⟨Za, 2, none⟩ = some (.int .i64 (-1)) := Z.cell 2
        have Zc3 : w9.cell? ⟨Za, 3, none⟩ = some (.bool false) := Z.cell 3
        have Zz : Za < w9.heap.size := Z.lt
        have Lbc0 : w9.cell? ⟨Lba, 0, none⟩ = some (.slice A (p + 1) c) := Lb.cell 0
        have Lbc1 : w9.cell? ⟨Lba, 1, none⟩ = some (.int .i64 40) := Lb.cell 1
        have Lbc2 : w9.cell? ⟨Lba, 2, none⟩ = some (.int .i64 0) := Lb.cell 2
        have Lbz : Lba < w9.heap.size := Lb.lt
        go_upto_region 29 with fail
        clear Zc0 Zc1 Zc2 Zc3 Zz Lbc0 Lbc1 Lbc2 Lbz
        have hLo := hL
        generalize w'.setCell ⟨g', ii, none⟩ (.int .u8 (y.toNat : Int)) = wz at hb9 hbs9 ⊢
        have hb := hb9
        clear hb8 hb9 hc8 hf8 hr
        replace Lb := Lb.later hb
        replace Z := Z.later hb
        replace hrec := rw_later hrec hb
        replace hR := rw_later hR hb
        replace hO := ownI_later hO hb
        replace hBs := hbs_later hBs hb
        replace E2 := dk_later E2 hb
        replace hB := hB.trans (hb.mono hB.size)
        replace hL := hL.later hb.size
        clear hb
        have hs9 : Hid (BsAt wz (Out [Za, ga, Lba]) (.slice (some ⟨g', 0, none⟩) 128 c') (s.set ii y)) := Lib.hid (by
          refine hbs9.weak fun b hb _ hc => ?_
          have h1 := hLo b hc
          have hb : w9.heap.size ≤ b := hb
          omega)
        clear hbs9 hLo
        have hgq : ga = gg := by
          rcases hga.out with h | ⟨h, _⟩
          · cases h
          · exact (Option.some.inj h).symm
        subst hgq
        have hneZ : (Value.slice (some ⟨ga, 0, none⟩) (p + 1) c13).ownBlock ≠ some Za := fun e => by
          have : ga = Za := Option.some.inj e
          omega
        have hdi2 : Hid (DkIs ⟨S', [], -1, false⟩ (-1) false) := Lib.hid ⟨rfl, rfl⟩
        have Zc0 : wz.cell? ⟨Za, 0, none⟩ = some (.slice (some ⟨zb, zo, none⟩) 40 p2) := Z.cell 0
        have Zc1 : wz.cell? ⟨Za, 1, none⟩ = some (.slice P2 0 q2) := Z.cell 1
        have Zc2 : wz.cell? ⟨Za, 2, none⟩ = some (.int .i64 (-1)) := Z.cell 2
        have Zc3 : wz.cell? ⟨Za, 3, none⟩ = some (.bool false) := Z.cell 3
        have Zz : Za < wz.heap.size := Z.lt
        go_wp2_with fail
        clear Zc0 Zc1 Zc2 Zc3 Zz
        refine (dWrite_at (kk : Int) E2 hdi2.out hs9).mono ?_
        rintro e w10 hh
        obtain ⟨S3, p3, P3, q3, rfl, E3, hb⟩ := RetDk.is hh hL hwr (ns := 40) (np := 1) (dl := -1) (ds := false) (Lib.hid hG2.out.len) rfl rfl rfl
        replace Lb := Lb.later hb
        replace Z := Z.later hb
        replace hrec := rw_later hrec hb
        replace hR := rw_later hR hb
        replace hO := ownI_later hO hb
        replace hBs := hbs_later hBs hb
        replace E2 := dk_later E2 hb
        replace hs9 := bs_later hs9 hb
        replace hB := hB.trans (hb.mono hB.size)
        replace hL := hL.later hb.size
        clear hb
        clear E2 hs9
        have Zc0 : w10.cell? ⟨Za, 0, none⟩ = some (.slice (some ⟨zb, zo, none⟩) 40 p2) := Z.cell 0
        have Zc1 : w10.cell? ⟨Za, 1, none⟩ = some (.slice P2 0 q2) := Z.cell 1
        have Zc2 : w10.cell? ⟨Za, 2, none⟩ = some (.int .i64 (-1)) := Z.cell 2
        have Zc3 : w10.cell? ⟨Za, 3, none⟩ = some (.bool false) := Z.cell 3
        have Zz : Za < w10.heap.size := Z.lt
        have Zf0 : w10.frozen? ⟨Za, 0, none⟩ = false := Z.free 0
        have Zf1 : w10.frozen? ⟨Za, 1, none⟩ = false := Z.free 1
        have Zf2 : w10.frozen? ⟨Za, 2, none⟩ = false := Z.free 2
        have Zf3 : w10.frozen? ⟨Za, 3, none⟩ = false := Z.free 3
        go_upto_region 30 with fail
        clear Zc0 Zc1 Zc2 Zc3 Zz
        clear Zf0 Zf1 Zf2 Zf3
        replace hO := (ownI_set (a := Za) hneZ (ownI_set (a := Za) hneZ (ownI_set (a := Za) hneZ (ownI_set (a := Za) hneZ hO 0 (.slice S3 40 p3)) 1 (.slice P3 1 q3)) 2 (.int .i64 (-1))) 3 (.bool false))
        replace hrec := (rw_set (a := Za) (by simp) (rw_set (a := Za) (by simp) (rw_set (a := Za) (by simp) (rw_set (a := Za) (by simp) hrec 0 (.slice S3 40 p3)) 1 (.slice P3 1 q3)) 2 (.int .i64 (-1))) 3 (.bool false))
        replace hR := (rw_set (a := Za) (by simp) (rw_set (a := Za) (by simp) (rw_set (a := Za) (by simp) (rw_set (a := Za) (by simp) hR 0 (.slice S3 40 p3)) 1 (.slice P3 1 q3)) 2 (.int .i64 (-1))) 3 (.bool false))
        replace hBs := (hbs_set (a := Za) (by simp) (hbs_set (a := Za) (by simp) (hbs_set (a := Za) (by simp) (hbs_set (a := Za) (by simp) hBs 0 (.slice S3 40 p3)) 1 (.slice P3 1 q3)) 2 (.int .i64 (-1))) 3 (.bool false))
        replace E3 := (dk_set (a := Za) (by simp) (dk_set (a := Za) (by simp) (dk_set (a := Za) (by simp) (dk_set (a := Za) (by simp) E3 0 (.slice S3 40 p3)) 1 (.slice P3 1 q3)) 2 (.int .i64 (-1))) 3 (.bool false))
        replace hB := ((((hB.setCell (p := ⟨Za, 0, none⟩) gZ (.slice S3 40 p3)).setCell (p := ⟨Za, 1, none⟩) gZ (.slice P3 1 q3)).setCell (p := ⟨Za, 2, none⟩) gZ (.int .i64 (-1))).setCell (p := ⟨Za, 3, none⟩) gZ (.bool false))
        replace Lb := ((((Lb.other (a := ⟨Za, 0, none⟩) nLbZ (.slice S3 40 p3)).other (a := ⟨Za, 1, none⟩) nLbZ (.slice P3 1 q3)).other (a := ⟨Za, 2, none⟩) nLbZ (.int .i64 (-1))).other (a := ⟨Za, 3, none⟩) nLbZ (.bool false))
        replace Z := ((((Z.set 0 (.slice S3 40 p3)).set 1 (.slice P3 1 q3)).set 2 (.int .i64 (-1))).set 3 (.bool false))
        have hLs : InW [Za, ga, Lba] ((((w10.setCell ⟨Za, 0, none⟩ (.slice S3 40 p3)).setCell ⟨Za, 1, none⟩ (.slice P3 1 q3)).setCell ⟨Za, 2, none⟩ (.int .i64 (-1))).setCell ⟨Za, 3, none⟩ (.bool false)) := hL.later (by simp)
        replace hL := hLs
        clear hLs
        generalize ((((w10.setCell ⟨Za, 0, none⟩ (.slice S3 40 p3)).setCell ⟨Za, 1, none⟩ (.slice P3 1 q3)).setCell ⟨Za, 2, none⟩ (.int .i64 (-1))).setCell ⟨Za, 3, none⟩ (.bool false)) = w11 at hB hL Lb Z hrec hR hBs E3 hO ⊢
        have hdi3 : Hid (DkIs ⟨S', [⟨(kk : Int), s.set ii y⟩], -1, false⟩ (-1) false) := Lib.hid ⟨rfl, rfl⟩
        have Zc0 : w11.cell? ⟨Za, 0, none⟩ = some (.slice S3 40 p3) := Z.cell 0
        have Zc1 : w11.cell? ⟨Za, 1, none⟩ = some (.slice P3 1 q3) := Z.cell 1
        have Zc2 : w11.cell? ⟨Za, 2, none⟩ = some (.int .i64 (-1)) := Z.cell 2
        have Zc3 : w11.cell? ⟨Za, 3, none⟩ = some (.bool false) := Z.cell 3
        have Zz : Za < w11.heap.size := Z.lt
        go_wp2_with fail
        clear Zc0 Zc1 Zc2 Zc3 Zz
        refine (dSync_at E3 hdi3.out).mono ?_
        rintro e w12 hh
        obtain ⟨S4, p4, P4, q4, rfl, E4, hb⟩ := RetDk.is hh hL hsy (ns := 40) (np := 0) (dl := -1) (ds := false) (Lib.hid hGd.out.len) rfl rfl rfl
        replace Lb := Lb.later hb
        replace Z := Z.later hb
        replace hrec := rw_later hrec hb
        replace hR := rw_later hR hb
        replace hBs := hbs_later hBs hb
        replace E3 := dk_later E3 hb
        replace hO := ownI_later hO hb
        replace hB := hB.trans (hb.mono hB.size)
        replace hL := hL.later hb.size
        clear hb
        clear E3
        have Zc0 : w12.cell? ⟨Za, 0, none⟩ = some (.slice S3 40 p3) := Z.cell 0
        have Zc1 : w12.cell? ⟨Za, 1, none⟩ = some (.slice P3 1 q3) := Z.cell 1
        have Zc2 : w12.cell? ⟨Za, 2, none⟩ = some (.int .i64 (-1)) := Z.cell 2
        have Zc3 : w12.cell? ⟨Za, 3, none⟩ = some (.bool false) := Z.cell 3
        have Zz : Za < w12.heap.size := Z.lt
        have Zf0 : w12.frozen? ⟨Za, 0, none⟩ = false := Z.free 0
        have Zf1 : w12.frozen? ⟨Za, 1, none⟩ = false := Z.free 1
        have Zf2 : w12.frozen? ⟨Za, 2, none⟩ = false := Z.free 2
        have Zf3 : w12.frozen? ⟨Za, 3, none⟩ = false := Z.free 3
        go_upto_region 31 with fail
        clear Zc0 Zc1 Zc2 Zc3 Zz
        clear Zf0 Zf1 Zf2 Zf3
        replace hO := (ownI_set (a := Za) hneZ (ownI_set (a := Za) hneZ (ownI_set (a := Za) hneZ (ownI_set (a := Za) hneZ hO 0 (.slice S4 40 p4)) 1 (.slice P4 0 q4)) 2 (.int .i64 (-1))) 3 (.bool false))
        replace hrec := (rw_set (a := Za) (by simp) (rw_set (a := Za) (by simp) (rw_set (a := Za) (by simp) (rw_set (a := Za) (by simp) hrec 0 (.slice S4 40 p4)) 1 (.slice P4 0 q4)) 2 (.int .i64 (-1))) 3 (.bool false))
        replace hR := (rw_set (a := Za) (by simp) (rw_set (a := Za) (by simp) (rw_set (a := Za) (by simp) (rw_set (a := Za) (by simp) hR 0 (.slice S4 40 p4)) 1 (.slice P4 0 q4)) 2 (.int .i64 (-1))) 3 (.bool false))
        replace hBs := (hbs_set (a := Za) (by simp) (hbs_set (a := Za) (by simp) (hbs_set (a := Za) (by simp) (hbs_set (a := Za) (by simp) hBs 0 (.slice S4 40 p4)) 1 (.slice P4 0 q4)) 2 (.int .i64 (-1))) 3 (.bool false))
        replace E4 := (dk_set (a := Za) (by simp) (dk_set (a := Za) (by simp) (dk_set (a := Za) (by simp) (dk_set (a := Za) (by simp) E4 0 (.slice S4 40 p4)) 1 (.slice P4 0 q4)) 2 (.int .i64 (-1))) 3 (.bool false))
        replace hB := ((((hB.setCell (p := ⟨Za, 0, none⟩) gZ (.slice S4 40 p4)).setCell (p := ⟨Za, 1, none⟩) gZ (.slice P4 0 q4)).setCell (p := ⟨Za, 2, none⟩) gZ (.int .i64 (-1))).setCell (p := ⟨Za, 3, none⟩) gZ (.bool false))
        replace Lb := ((((Lb.other (a := ⟨Za, 0, none⟩) nLbZ (.slice S4 40 p4)).other (a := ⟨Za, 1, none⟩) nLbZ (.slice P4 0 q4)).other (a := ⟨Za, 2, none⟩) nLbZ (.int .i64 (-1))).other (a := ⟨Za, 3, none⟩) nLbZ (.bool false))
        replace Z := ((((Z.set 0 (.slice S4 40 p4)).set 1 (.slice P4 0 q4)).set 2 (.int .i64 (-1))).set 3 (.bool false))
        have hLs : InW [Za, ga, Lba] ((((w12.setCell ⟨Za, 0, none⟩ (.slice S4 40 p4)).setCell ⟨Za, 1, none⟩ (.slice P4 0 q4)).setCell ⟨Za, 2, none⟩ (.int .i64 (-1))).setCell ⟨Za, 3, none⟩ (.bool false)) := hL.later (by simp)
        replace hL := hLs
        clear hLs
        generalize ((((w12.setCell ⟨Za, 0, none⟩ (.slice S4 40 p4)).setCell ⟨Za, 1, none⟩ (.slice P4 0 q4)).setCell ⟨Za, 2, none⟩ (.int .i64 (-1))).setCell ⟨Za, 3, none⟩ (.bool false)) = w13 at hB hL Lb Z hrec hR hBs E4 hO ⊢
        have hdi4 : Hid (DkIs ⟨S'.set kk (s.set ii y), [], -1, false⟩ (-1) false) := Lib.hid ⟨rfl, rfl⟩
        have hlm : Hid ((N.take mm).length = mm) := Lib.hid (by rw [List.length_take, hm.out]; omega)
        have HO4 : Hid (openT ⟨S'.set kk (s.set ii y), [], -1, false⟩ = (⟨N.take mm, 40, (N.take mm).length⟩, 0)) := Lib.hid (open_good hGd.out (by omega))
        have HJ4 : Hid (JnIs ⟨N.take mm, 40, (N.take mm).length⟩ mm 40 mm) := Lib.hid ⟨hlm.out, rfl, by rw [hlm.out]⟩
        have Zc0 : w13.cell? ⟨Za, 0, none⟩ = some (.slice S4 40 p4) := Z.cell 0
        have Zc1 : w13.cell? ⟨Za, 1, none⟩ = some (.slice P4 0 q4) := Z.cell 1
        have Zc2 : w13.cell? ⟨Za, 2, none⟩ = some (.int .i64 (-1)) := Z.cell 2
        have Zc3 : w13.cell? ⟨Za, 3, none⟩ = some (.bool false) := Z.cell 3
        have Zz : Za < w13.heap.size := Z.lt
        go_wp2_with fail
        clear Zc0 Zc1 Zc2 Zc3 Zz
        refine (jOpen_at E4 hdi4).mono ?_
        rintro e w14 hh
        obtain ⟨A5, c5, rfl, R5, hb⟩ := RetJn.is hh hL HO4 HJ4
        replace Lb := Lb.later hb
        replace Z := Z.later hb
        replace hrec := rw_later hrec hb
        replace hR := rw_later hR hb
        replace hBs := hbs_later hBs hb
        replace E4 := dk_later E4 hb
        replace hO := ownI_later hO hb
        replace hB := hB.trans (hb.mono hB.size)
        replace hL := hL.later hb.size
        clear hb
        clear E4
        clear HO4 HJ4
        go_wp2_with fail
        have hst := (Below.refl w14.heap.size w14).alloc (Nat.le_refl _) (.cells #[.slice A5 mm c5, .int .i64 40, .int .i64 mm] 29)
        have nLbY5 : Lba ≠ w14.heap.size := by have := Lb.lt; omega
        have nZY5 : Za ≠ w14.heap.size := by have := Z.lt; omega
        replace Lb := Lb.later hst
        replace Z := Z.later hst
        replace hrec := rw_later hrec hst
        replace hR := rw_later hR hst
        replace hBs := hbs_later hBs hst
        replace hO := ownI_later hO hst
        replace R5 := rw_later R5 hst
        replace hL := hL.later hst.size
        replace hB := hB.trans (hst.mono hB.size)
        have Y5 := Box.new w14 [.slice A5 mm c5, .int .i64 40, .int .i64 mm] 29
        have hzY5 : Hid ((w14.alloc (.cells #[.slice A5 mm c5, .int .i64 40, .int .i64 mm] 29)).heap.size = w14.heap.size + 1) := Lib.hid (by simp)
        clear hst
        generalize w14.alloc (.cells #[.slice A5 mm c5, .int .i64 40, .int .i64 mm] 29) = w15 at hB hL hzY5 Y5 Lb Z hrec hR hBs hO R5 ⊢
        generalize hga : w14.heap.size = Y5a at hzY5 Y5 nLbY5 nZY5 ⊢
        clear hga
        clear Z
        clear hzY5 hsy hwr
        go_loopw [27] (fun v wq => ∃ q : Nat, q ≤ mm ∧ v = .int .i64 (q : Int) ∧ w15 = wq) (fun v _ => mm - (intOf v).toNat)
        case atStart => exact ⟨0, Nat.zero_le _, rfl, rfl⟩
        case round =>
          obtain ⟨q, hq, rfl, hw⟩ := hrel
          subst hw
          obtain ⟨hx1, g2, hx2, hx3, hx4, hcq⟩ := hO.out.cell (i := q) (show q < p + 1 by omega)
          clear hx1 hx3
          cases hx2
          have hqe : (endsT N).getD q 0 = (usedT (N.take (q + 1)) : Int) := by rw [List.getD_eq_getElem?_getD, endsT_get (by rw [hm.out]; omega)]; rfl
          rw [hqe] at hcq
          clear hqe
          have b1 : Hid (q < mm → usedT (N.take (q + 1)) ≤ kk) := Lib.hid fun h => hb1.out q h
          have b2 : Hid (q = mm → kk < usedT (N.take (q + 1))) := Lib.hid fun h => by rw [h]; exact hb2.out
          generalize usedT (N.take (q + 1)) = uq at hcq b1 b2
          have q0 : (0 : Int) ≤ (q : Int) := by omega
          have q1 : (q : Int) < (p : Int) + 1 := by omega
          have q2 : q < p + 1 := by omega
          rcases Nat.lt_or_ge q mm with hlt2 | hge2
          · have b3 : uq ≤ kk := b1.out hlt2
            go_wp2
            exact ⟨⟨q + 1, by omega, by go_num, trivial⟩, by simp [intOf] <;> omega⟩
          · obtain rfl : mm = q := by omega
            have b4 : ¬ (uq ≤ kk) := by have := b2.out rfl; omega
            obtain ⟨la, lo, V, hA, _⟩ := hR.out.row (k := 0) (by rw [hJi.out.len]; omega)
            subst hA
            have hca := hR.out.caps
            have k5 : mm ≤ c := by omega
            have k6 : (mm : Int) ≤ (c : Int) := by omega
            have k7 : c ≤ 9223372036854775807 := hca.2.1
            clear hca
            go_wp2_with fail
            have HT := Lib.hid (hR.out.taken hJi.out.len (show mm ≤ p + 1 by omega))
            have htk : Hid (J.records.take mm = N.take mm) := Lib.hid (by rw [hJ.out.is]; rfl)
            have HCS : Hid (∀ z : Later w15, Calls Try.prog 24 #[.slice A5 mm c5, .slice (some ⟨la, lo, none⟩) mm c] z.w fun e w' => e = .returned (.bool true) ∧ Below z.w.heap.size z.w w') := Lib.hid fun z => jRSameRecs_any (N.take mm) (J.records.take mm) _ _ _ _ _ _ (Out [Za, ga, Lba]) (Out [Za, ga, Lba]) z.w (rw_later R5 z.below) (rw_later HT z.below) hlm (Lib.hid (by rw [htk.out]; exact hlm.out)) (by omega) (by omega) true (Lib.hid (decide_eq_true htk.out.symm))
            clear HT
            go_wp2_with fail
            have Y5l0 : ∀ zz : Later w15, zz.w.cell? ⟨Y5a, 0, none⟩ = some (.slice A5 mm c5) := Later.cell (Y5.cell 0) Y5.lt
            have Y5l1 : ∀ zz : Later w15, zz.w.cell? ⟨Y5a, 1, none⟩ = some (.int .i64 40) := Later.cell (Y5.cell 1) Y5.lt
            have Y5l2 : ∀ zz : Later w15, zz.w.cell? ⟨Y5a, 2, none⟩ = some (.int .i64 mm) := Later.cell (Y5.cell 2) Y5.lt
            have Lbl0 : ∀ zz : Later w15, zz.w.cell? ⟨Lba, 0, none⟩ = some (.slice (some ⟨la, lo, none⟩) (p + 1) c) := Later.cell (Lb.cell 0) Lb.lt
            have Lbl1 : ∀ zz : Later w15, zz.w.cell? ⟨Lba, 1, none⟩ = some (.int .i64 40) := Later.cell (Lb.cell 1) Lb.lt
            have Lbl2 : ∀ zz : Later w15, zz.w.cell? ⟨Lba, 2, none⟩ = some (.int .i64 0) := Later.cell (Lb.cell 2) Lb.lt
            refine wp_region_later (by kernel_rfl) (by kernel_rfl) ?_
            repeat (go_big_quiet_step ((first | (go_at_call 24; with_reducible exact Later.call _ (HCS.out _)))))
            refine wpQuiet_nil ?_
            intro _ hw'
            obtain ⟨yq, hw''⟩ := hw'
            subst hw''
            clear Y5l0 Y5l1 Y5l2 Lbl0 Lbl1 Lbl2
            obtain ⟨w16, hz, hb⟩ : ∃ z, yq.w = z ∧ Below w15.heap.size w15 z := ⟨_, rfl, yq.below⟩
            rw [hz]
            clear hz
            have Lb := Lb.later hb
            have Y5 := Y5.later hb
            have hrec := rw_later hrec hb
            have hR := rw_later hR hb
            have hBs := hbs_later hBs hb
            have hO := ownI_later hO hb
            have R5 := rw_later R5 hb
            have hB := hB.trans (hb.mono hB.size)
            replace hL := hL.later hb.size
            clear hb
            clear HCS
            go_wp2
            go_ret
            exact ⟨rfl, hB⟩
    have hqn : decide ((q : Int) < (nr : Int)) = true := decide_eq_true (by omega)
    have j0 : (0 : Int) ≤ (q : Int) := by omega
    have j1 : (q : Int) < (nr : Int) := by omega
    obtain ⟨rb, ro, V, hAr, hrL, hrz, hrc, hrb⟩ := hrec.out.row (k := q) (by rw [hnr.out]; exact hlt)
    subst hAr
    obtain ⟨Ab, cb, hV, hbm⟩ := hrb.form
    subst hV
    obtain ⟨b, hb0⟩ : ∃ x, L[q]'(by rw [hnr.out]; exact hlt) = x := ⟨_, rfl⟩
    rw [hb0] at hrc hrb hbm
    have hnb3 := hrl.out b (by rw [← hb0]; exact List.getElem_mem _)
    clear hb0
    obtain ⟨nb, hnb⟩ : ∃ x, b.length = x := ⟨_, rfl⟩
    rw [hnb] at hrc hrb hnb3
    replace hnb := Lib.hid hnb
    have hnb2 : nb ≤ 9223372036854775000 := by omega
    replace hrb := Lib.hid hrb
    clear hbm hrL hnb3
    obtain ⟨⟨J1, er1⟩, h1⟩ : ∃ p, appendT J b = p := ⟨_, rfl⟩
    obtain ⟨n1, hn1⟩ : ∃ k, J1.records.length = k := ⟨_, rfl⟩
    obtain ⟨m1, hm1⟩ : ∃ k, J1.many = k := ⟨_, rfl⟩
    obtain ⟨s1, hs1⟩ : ∃ k, J1.synced = k := ⟨_, rfl⟩
    have hj1 : Hid (JnIs J1 n1 m1 s1) := ⟨hn1, hm1, hs1⟩
    clear hn1 hm1 hs1
    replace h1 := Lib.hid h1
    have Lbc0 : wr.cell? ⟨Lba, 0, none⟩ = some (.slice A m c) := Lb.cell 0
    have Lbc1 : wr.cell? ⟨Lba, 1, none⟩ = some (.int .i64 40) := Lb.cell 1
    have Lbc2 : wr.cell? ⟨Lba, 2, none⟩ = some (.int .i64 0) := Lb.cell 2
    have Lbz : Lba < wr.heap.size := Lb.lt
    go_wp2_with fail
    clear Lbc0 Lbc1 Lbc2 Lbz
    refine (jAppend_at hR hJi hJs hrb hnb hnb2).mono ?_
    rintro e w17 hh
    obtain ⟨A1, c1, rfl, R1, hb⟩ := RetJn.is hh hL h1 hj1
    replace X := X.later hb
    replace Lb := Lb.later hb
    replace hD := dk_later hD hb
    replace hrec := rw_later hrec hb
    replace hR := rw_later hR hb
    replace hO := ownI_later hO hb
    replace hBs := hbs_later hBs hb
    replace hrb := bs_later hrb hb
    replace hB := hB.trans (hb.mono hB.size)
    replace hL := hL.later hb.size
    clear hb
    clear hrc hrz
    by_cases he : er1 = 0
    rotate_left
    · have he2 : (er1 == 0) = false := by simpa using he
      have he3 : (er1 != 0) = true := by simp [he]
      clear hrb
      obtain ⟨S', hG2, hsy, hSp⟩ := sync_fresh hJ.out
      have HSY : Hid (syncJ J ⟨S40, [], -1, false⟩ = (⟨N, 40, (N.length : Nat)⟩, ⟨S', [], -1, false⟩, 0)) := Lib.hid hsy
      replace hG2 := Lib.hid hG2
      replace hSp := Lib.hid hSp
      clear hsy
      have hj2 : Hid (JnIs ⟨N, 40, (N.length : Nat)⟩ m 40 m) := Lib.hid ⟨hm.out, rfl, by rw [← hm.out]⟩
      have Xc0 : w17.cell? ⟨Xa, 0, none⟩ = some (.slice As 40 cs) := X.cell 0
      have Xc1 : w17.cell? ⟨Xa, 1, none⟩ = some (.slice Ap 0 cp) := X.cell 1
      have Xc2 : w17.cell? ⟨Xa, 2, none⟩ = some (.int .i64 (-1)) := X.cell 2
      have Xc3 : w17.cell? ⟨Xa, 3, none⟩ = some (.bool false) := X.cell 3
      have Xz : Xa < w17.heap.size := X.lt
      have Lbc0 : w17.cell? ⟨Lba, 0, none⟩ = some (.slice A m c) := Lb.cell 0
      have Lbc1 : w17.cell? ⟨Lba, 1, none⟩ = some (.int .i64 40) := Lb.cell 1
      have Lbc2 : w17.cell? ⟨Lba, 2, none⟩ = some (.int .i64 0) := Lb.cell 2
      have Lbz : Lba < w17.heap.size := Lb.lt
      go_wp2_with fail
      clear Xc0 Xc1 Xc2 Xc3 Xz Lbc0 Lbc1 Lbc2 Lbz
      have hst := (Below.refl w17.heap.size w17).alloc (Nat.le_refl _) (.cells #[.slice A1 n1 c1, .int .i64 m1, .int .i64 s1] 29)
      have nLbY : Lba ≠ w17.heap.size := by have := Lb.lt; omega
      replace X := X.later hst
      replace Lb := Lb.later hst
      replace hD := dk_later hD hst
      replace hrec := rw_later hrec hst
      replace hR := rw_later hR hst
      replace hO := ownI_later hO hst
      replace hBs := hbs_later hBs hst
      replace R1 := rw_later R1 hst
      replace hL := hL.later hst.size
      replace hB := hB.trans (hst.mono hB.size)
      have Y := Box.new w17 [.slice A1 n1 c1, .int .i64 m1, .int .i64 s1] 29
      have hzY : Hid ((w17.alloc (.cells #[.slice A1 n1 c1, .int .i64 m1, .int .i64 s1] 29)).heap.size = w17.heap.size + 1) := Lib.hid (by simp)
      clear hst
      generalize w17.alloc (.cells #[.slice A1 n1 c1, .int .i64 m1, .int .i64 s1] 29) = w18 at hB hL hzY Y X Lb hD hrec hR hO hBs R1 ⊢
      generalize hga : w17.heap.size = Ya at hzY Y nLbY ⊢
      clear hga
      refine (jSync_at hR hJi hJs hD hdi (Lib.hid List.length_replicate) (Lib.hid rfl)).mono ?_
      rintro e w19 hh
      obtain ⟨A2, c2, S2, p2, P2, q2, rfl, R2, E2, hb⟩ := RetJD.is hh hL HSY hj2 (ns := 40) (np := 0) (dl := -1) (ds := false) (Lib.hid hG2.out.len) rfl rfl rfl
      replace X := X.later hb
      replace Lb := Lb.later hb
      replace Y := Y.later hb
      replace hD := dk_later hD hb
      replace hrec := rw_later hrec hb
      replace hR := rw_later hR hb
      replace hO := ownI_later hO hb
      replace hBs := hbs_later hBs hb
      replace R1 := rw_later R1 hb
      replace hB := hB.trans (hb.mono hB.size)
      replace hL := hL.later hb.size
      clear hb
      clear HSY hj2
      go_upto_region 22 with fail
      have hst := (Below.refl w19.heap.size w19).alloc (Nat.le_refl _) (.cells #[.slice A2 m c2, .int .i64 40, .int .i64 m] 29)
      have nLbY2 : Lba ≠ w19.heap.size := by have := Lb.lt; omega
      replace X := X.later hst
      replace Lb := Lb.later hst
      replace Y := Y.later hst
      replace hD := dk_later hD hst
      replace hrec := rw_later hrec hst
      replace hR := rw_later hR hst
      replace hO := ownI_later hO hst
      replace hBs := hbs_later hBs hst
      replace R1 := rw_later R1 hst
      replace E2 := dk_later E2 hst
      replace hL := hL.later hst.size
      replace hB := hB.trans (hst.mono hB.size)
      have Y2 := Box.new w19 [.slice A2 m c2, .int .i64 40, .int .i64 m] 29
      have hzY2 : Hid ((w19.alloc (.cells #[.slice A2 m c2, .int .i64 40, .int .i64 m] 29)).heap.size = w19.heap.size + 1) := Lib.hid (by simp)
      clear hst
      generalize w19.alloc (.cells #[.slice A2 m c2, .int .i64 40, .int .i64 m] 29) = w20 at hB hL hzY2 Y2 X Lb Y hD hrec hR hO hBs R1 E2 ⊢
      generalize hga : w19.heap.size = Y2a at hzY2 Y2 nLbY2 ⊢
      clear hga
      rw [← hzY2.out]
      have hgaS := hL ga (by simp)
      have hst := (Below.refl w20.heap.size w20).alloc (Nat.le_refl _) (.cells #[.slice S2 40 p2, .slice P2 0 q2, .int .i64 (-1), .bool false] 25)
      have nXZ : Xa ≠ w20.heap.size := by have := X.lt; omega
      have nLbZ : Lba ≠ w20.heap.size := by have := Lb.lt; omega
      have nYZ : Ya ≠ w20.heap.size := by have := Y.lt; omega
      have nY2Z : Y2a ≠ w20.heap.size := by have := Y2.lt; omega
      have hg0 : w.heap.size ≤ w20.heap.size := hB.size
      replace X := X.later hst
      replace Lb := Lb.later hst
      replace Y := Y.later hst
      replace Y2 := Y2.later hst
      replace hD := dk_more (a := w20.heap.size) (Nat.le_refl _) hD
      replace hD := dk_later hD hst
      replace hrec := rw_more (a := w20.heap.size) (Nat.le_refl _) hrec
      replace hrec := rw_later hrec hst
      replace hR := rw_more (a := w20.heap.size) (Nat.le_refl _) hR
      replace hR := rw_later hR hst
      replace hO := ownI_more (a := w20.heap.size) (Nat.le_refl _) hO
      replace hO := ownI_later hO hst
      replace hBs := hbs_more (a := w20.heap.size) (Nat.le_refl _) hBs
      replace hBs := hbs_later hBs hst
      replace R1 := rw_more (a := w20.heap.size) (Nat.le_refl _) R1
      replace R1 := rw_later R1 hst
      replace E2 := dk_more (a := w20.heap.size) (Nat.le_refl _) E2
      replace E2 := dk_later E2 hst
      replace hL := hL.later hst.size
      replace hL := hL.cons (a := w20.heap.size) (by simp)
      replace hB := hB.trans (hst.mono hB.size)
      have Z := Box.new w20 [.slice S2 40 p2, .slice P2 0 q2, .int .i64 (-1), .bool false] 25
      have hzZ : Hid ((w20.alloc (.cells #[.slice S2 40 p2, .slice P2 0 q2, .int .i64 (-1), .bool false] 25)).heap.size = w20.heap.size + 1) := Lib.hid (by simp)
      clear hst
      generalize w20.alloc (.cells #[.slice S2 40 p2, .slice P2 0 q2, .int .i64 (-1), .bool false] 25) = w21 at hB hL hzZ Z X Lb Y Y2 hD hrec hR hO hBs R1 E2 ⊢
      generalize hga : w20.heap.size = Za at hzZ Z nXZ nLbZ nYZ nY2Z hL hD hrec hR hO hBs R1 E2 hgaS ⊢
      have gZ : w.heap.size ≤ Za := by rw [← hga]; exact hg0
      clear hg0
      clear hga
      clear Y2 X hD
      have hel : (endsT N).length = m := by rw [endsT_length, hm.out]
      obtain ⟨u, hu⟩ : ∃ x, usedT N = x := ⟨_, rfl⟩
      have hu4 : u ≤ 40 := by rw [← hu]; exact hu40.out
      have hlast : Hid (∀ p, m = p + 1 → (endsT N).getD p 0 = (u : Int)) := Lib.hid fun p e => by
        have hp : p < N.length := by rw [hm.out]; omega
        rw [List.getD_eq_getElem?_getD, endsT_get hp, List.take_of_length_le (by rw [hm.out]; omega), hu]
        rfl
      replace hu := Lib.hid hu
      obtain rfl | ⟨p, rfl⟩ : m = 0 ∨ ∃ p, m = p + 1 := by rcases m with _ | p; exact .inl rfl; exact .inr ⟨p, rfl⟩
      · clear hlast hel
        go_wp2
        go_ret
        exact ⟨rfl, hB⟩
      · obtain ⟨hx, gg, hA13, hxb, hgz, hgc⟩ := hO.out.cell (i := p) (Nat.lt_succ_self p)
        clear hx
        subst hA13
        rw [hlast.out p rfl] at hgc
        have hN0 : N ≠ [] := fun e => by have := hm.out; rw [e] at this; cases this
        have hu1 : 1 ≤ u := by rw [← hu.out]; have := len_used N; have := hm.out; omega
        clear hlast
        have hp1 : (p : Int) < (p : Int) + 1 := by omega
        have hp0 : (0 : Int) ≤ (p : Int) := by omega
        have hpp : ((p : Int) + 1 == 0) = false := by simp; omega
        have hppn : p + 1 ≠ 0 := by omega
        clear hel
        go_upto_region 25 with fail
        obtain ⟨kk, hkk, hku⟩ := kk_of sec hu1 (show u ≤ 128 by omega)
        have hkw : wrap64 ((IntKind.u64.wrap sec).tmod (u : Int)) = (kk : Int) := by rw [hkk]; exact IntWalk.wrap64_in _ (by omega)
        rw [hkw]
        clear hkw hkk
        have hk40 : kk < 40 := by omega
        have hkS : kk < S'.length := by rw [hG2.out.len]; exact hk40
        obtain ⟨zb, zo, V, hS2, hzx, hzz, hzc, hzb⟩ := E2.out.sectors.row (k := kk) hkS
        clear hzx
        subst hS2
        have hl128 := hG2.out.rows _ (List.getElem_mem hkS)
        obtain ⟨s, hs0⟩ : ∃ s, S'[kk] = s := ⟨_, rfl⟩
        have hsk : Hid (S'[kk]? = some s) := Lib.hid (by rw [List.getElem?_eq_getElem hkS, hs0])
        rw [hs0] at hzb hl128
        clear hs0
        obtain ⟨Av, cv, hV, _⟩ := hzb.form
        rw [hl128] at hV
        subst hV
        obtain ⟨ii, hii, hi⟩ := kk_of at' (u := 128) (by decide) (by decide)
        have hii2 : (IntKind.u64.wrap at').tmod 128 = (ii : Int) := hii
        clear hii
        have hisl : ii < s.length := by rw [hl128]; exact hi
        obtain ⟨y, hy, hyne⟩ := xor_u8 s[ii] hby hbn
        obtain ⟨mm, hmm, hm1, hm2, hGd⟩ := damaged (hSp.out hN0) hG2.out hu40.out (by rw [hu.out]; exact hku) hsk.out hi hl128 hyne
        have hl2 : (s.set ii y).length = 128 := by rw [List.length_set, hl128]
        obtain ⟨hwr, hsy⟩ := put_back hG2.out hk40 hl2
        replace hwr := Lib.hid hwr
        replace hsy := Lib.hid hsy
        replace hGd := Lib.hid hGd
        have hmp : mm < p + 1 := by rw [← hm.out]; exact hmm
        have hb1 : Hid (∀ q, q < mm → usedT (N.take (q + 1)) ≤ kk) := Lib.hid fun q hq => Nat.le_trans (usedT_mono (show q + 1 ≤ mm from hq)) hm1
        have hb2 : Hid (kk < usedT (N.take (mm + 1))) := Lib.hid hm2
        clear hmm hm1 hm2 hsk hyne hN0
        obtain ⟨g', c', w', hr, hO8, hb8⟩ := run_dup 35 (w := w21) rfl hzb hl128 (by decide) (by decide)
        obtain ⟨hgg, hgl, hc8, hf8⟩ := ownB_cell hO8 hl128 hisl
        have hi0 : (0 : Int) ≤ (ii : Int) := by omega
        have hi1 : (ii : Int) < 128 := by omega
        have k0 : (0 : Int) ≤ (kk : Int) := by omega
        have k1 : (kk : Int) < 40 := by omega
        have k2 : ¬ (40 ≤ kk) := by omega
        have k3 : decide ((kk : Int) ≥ 40) = false := decide_eq_false (by omega)
        have hb9 : Below w21.heap.size w21 (w'.setCell ⟨g', ii, none⟩ (.int .u8 (y.toNat : Int))) := hb8.setCell (p := ⟨g', ii, none⟩) hgg _
        have hO9 := ownB_set (i := ii) hO8 hl128 y
        have hbs9 := hO9.bs (by rw [hl2]; simp [maxLen])
        clear hO8 hO9 hzb
        have Zc0 : w21.cell? ⟨Za, 0, none⟩ = some (.slice (some ⟨zb, zo, none⟩) 40 p2) := Z.cell 0
        have Zc1 : w21.cell? ⟨Za, 1, none⟩ = some (.slice P2 0 q2) := Z.cell 1
        have Zc2 : w21.cell? ⟨Za, 2, none⟩ = some (.int .i64 (-1)) := Z.cell 2
        have Zc3 : w21.cell? ⟨Za, 3, none⟩ = some (.bool false) := Z.cell 3
        have Zz : Za < w21.heap.size := Z.lt
        have Lbc0 : w21.cell? ⟨Lba, 0, none⟩ = some (.slice A (p + 1) c) := Lb.cell 0
        have Lbc1 : w21.cell? ⟨Lba, 1, none⟩ = some (.int .i64 40) := Lb.cell 1
        have Lbc2 : w21.cell? ⟨Lba, 2, none⟩ = some (.int .i64 0) := Lb.cell 2
        have Lbz : Lba < w21.heap.size := Lb.lt
        go_upto_region 29 with fail
        clear Zc0 Zc1 Zc2 Zc3 Zz Lbc0 Lbc1 Lbc2 Lbz
        have hLo := hL
        generalize w'.setCell ⟨g', ii, none⟩ (.int .u8 (y.toNat : Int)) = wz at hb9 hbs9 ⊢
        have hb := hb9
        clear hb8 hb9 hc8 hf8 hr
        replace Lb := Lb.later hb
        replace Y := Y.later hb
        replace Z := Z.later hb
        replace hrec := rw_later hrec hb
        replace hR := rw_later hR hb
        replace hO := ownI_later hO hb
        replace hBs := hbs_later hBs hb
        replace R1 := rw_later R1 hb
        replace E2 := dk_later E2 hb
        replace hB := hB.trans (hb.mono hB.size)
        replace hL := hL.later hb.size
        clear hb
        have hs9 : Hid (BsAt wz (Out [Za, ga, Lba]) (.slice (some ⟨g', 0, none⟩) 128 c') (s.set ii y)) := Lib.hid (by
          refine hbs9.weak fun b hb _ hc => ?_
          have h1 := hLo b hc
          have hb : w21.heap.size ≤ b := hb
          omega)
        clear hbs9 hLo
        have hgq : ga = gg := by
          rcases hga.out with h | ⟨h, _⟩
          · cases h
          · exact (Option.some.inj h).symm
        subst hgq
        have hneZ : (Value.slice (some ⟨ga, 0, none⟩) (p + 1) c13).ownBlock ≠ some Za := fun e => by
          have : ga = Za := Option.some.inj e
          omega
        have hdi2 : Hid (DkIs ⟨S', [], -1, false⟩ (-1) false) := Lib.hid ⟨rfl, rfl⟩
        have Zc0 : wz.cell? ⟨Za, 0, none⟩ = some (.slice (some ⟨zb, zo, none⟩) 40 p2) := Z.cell 0
        have Zc1 : wz.cell? ⟨Za, 1, none⟩ = some (.slice P2 0 q2) := Z.cell 1
        have Zc2 : wz.cell? ⟨Za, 2, none⟩ = some (.int .i64 (-1)) := Z.cell 2
        have Zc3 : wz.cell? ⟨Za, 3, none⟩ = some (.bool false) := Z.cell 3
        have Zz : Za < wz.heap.size := Z.lt
        go_wp2_with fail
        clear Zc0 Zc1 Zc2 Zc3 Zz
        refine (dWrite_at (kk : Int) E2 hdi2.out hs9).mono ?_
        rintro e w22 hh
        obtain ⟨S3, p3, P3, q3, rfl, E3, hb⟩ := RetDk.is hh hL hwr (ns := 40) (np := 1) (dl := -1) (ds := false) (Lib.hid hG2.out.len) rfl rfl rfl
        replace Lb := Lb.later hb
        replace Y := Y.later hb
        replace Z := Z.later hb
        replace hrec := rw_later hrec hb
        replace hR := rw_later hR hb
        replace hO := ownI_later hO hb
        replace hBs := hbs_later hBs hb
        replace R1 := rw_later R1 hb
        replace E2 := dk_later E2 hb
        replace hs9 := bs_later hs9 hb
        replace hB := hB.trans (hb.mono hB.size)
        replace hL := hL.later hb.size
        clear hb
        clear E2 hs9
        have Zc0 : w22.cell? ⟨Za, 0, none⟩ = some (.slice (some ⟨zb, zo, none⟩) 40 p2) := Z.cell 0
        have Zc1 : w22.cell? ⟨Za, 1, none⟩ = some (.slice P2 0 q2) := Z.cell 1
        have Zc2 : w22.cell? ⟨Za, 2, none⟩ = some (.int .i64 (-1)) := Z.cell 2
        have Zc3 : w22.cell? ⟨Za, 3, none⟩ = some (.bool false) := Z.cell 3
        have Zz : Za < w22.heap.size := Z.lt
        have Zf0 : w22.frozen? ⟨Za, 0, none⟩ = false := Z.free 0
        have Zf1 : w22.frozen? ⟨Za, 1, none⟩ = false := Z.free 1
        have Zf2 : w22.frozen? ⟨Za, 2, none⟩ = false := Z.free 2
        have Zf3 : w22.frozen? ⟨Za, 3, none⟩ = false := Z.free 3
        go_upto_region 30 with fail
        clear Zc0 Zc1 Zc2 Zc3 Zz
        clear Zf0 Zf1 Zf2 Zf3
        replace hO := (ownI_set (a := Za) hneZ (ownI_set (a := Za) hneZ (ownI_set (a := Za) hneZ (ownI_set (a := Za) hneZ hO 0 (.slice S3 40 p3)) 1 (.slice P3 1 q3)) 2 (.int .i64 (-1))) 3 (.bool false))
        replace hrec := (rw_set (a := Za) (by simp) (rw_set (a := Za) (by simp) (rw_set (a := Za) (by simp) (rw_set (a := Za) (by simp) hrec 0 (.slice S3 40 p3)) 1 (.slice P3 1 q3)) 2 (.int .i64 (-1))) 3 (.bool false))
        replace hR := (rw_set (a := Za) (by simp) (rw_set (a := Za) (by simp) (rw_set (a := Za) (by simp) (rw_set (a := Za) (by simp) hR 0 (.slice S3 40 p3)) 1 (.slice P3 1 q3)) 2 (.int .i64 (-1))) 3 (.bool false))
        replace hBs := (hbs_set (a := Za) (by simp) (hbs_set (a := Za) (by simp) (hbs_set (a := Za) (by simp) (hbs_set (a := Za) (by simp) hBs 0 (.slice S3 40 p3)) 1 (.slice P3 1 q3)) 2 (.int .i64 (-1))) 3 (.bool false))
        replace R1 := (rw_set (a := Za) (by simp) (rw_set (a := Za) (by simp) (rw_set (a := Za) (by simp) (rw_set (a := Za) (by simp) R1 0 (.slice S3 40 p3)) 1 (.slice P3 1 q3)) 2 (.int .i64 (-1))) 3 (.bool false))
        replace E3 := (dk_set (a := Za) (by simp) (dk_set (a := Za) (by simp) (dk_set (a := Za) (by simp) (dk_set (a := Za) (by simp) E3 0 (.slice S3 40 p3)) 1 (.slice P3 1 q3)) 2 (.int .i64 (-1))) 3 (.bool false))
        replace hB := ((((hB.setCell (p := ⟨Za, 0, none⟩) gZ (.slice S3 40 p3)).setCell (p := ⟨Za, 1, none⟩) gZ (.slice P3 1 q3)).setCell (p := ⟨Za, 2, none⟩) gZ (.int .i64 (-1))).setCell (p := ⟨Za, 3, none⟩) gZ (.bool false))
        replace Lb := ((((Lb.other (a := ⟨Za, 0, none⟩) nLbZ (.slice S3 40 p3)).other (a := ⟨Za, 1, none⟩) nLbZ (.slice P3 1 q3)).other (a := ⟨Za, 2, none⟩) nLbZ (.int .i64 (-1))).other (a := ⟨Za, 3, none⟩) nLbZ (.bool false))
        replace Y := ((((Y.other (a := ⟨Za, 0, none⟩) nYZ (.slice S3 40 p3)).other (a := ⟨Za, 1, none⟩) nYZ (.slice P3 1 q3)).other (a := ⟨Za, 2, none⟩) nYZ (.int .i64 (-1))).other (a := ⟨Za, 3, none⟩) nYZ (.bool false))
        replace Z := ((((Z.set 0 (.slice S3 40 p3)).set 1 (.slice P3 1 q3)).set 2 (.int .i64 (-1))).set 3 (.bool false))
        have hLs : InW [Za, ga, Lba] ((((w22.setCell ⟨Za, 0, none⟩ (.slice S3 40 p3)).setCell ⟨Za, 1, none⟩ (.slice P3 1 q3)).setCell ⟨Za, 2, none⟩ (.int .i64 (-1))).setCell ⟨Za, 3, none⟩ (.bool false)) := hL.later (by simp)
        replace hL := hLs
        clear hLs
        generalize ((((w22.setCell ⟨Za, 0, none⟩ (.slice S3 40 p3)).setCell ⟨Za, 1, none⟩ (.slice P3 1 q3)).setCell ⟨Za, 2, none⟩ (.int .i64 (-1))).setCell ⟨Za, 3, none⟩ (.bool false)) = w23 at hB hL Lb Y Z hrec hR hBs R1 E3 hO ⊢
        have hdi3 : Hid (DkIs ⟨S', [⟨(kk : Int), s.set ii y⟩], -1, false⟩ (-1) false) := Lib.hid ⟨rfl, rfl⟩
        have Zc0 : w23.cell? ⟨Za, 0, none⟩ = some (.slice S3 40 p3) := Z.cell 0
        have Zc1 : w23.cell? ⟨Za, 1, none⟩ = some (.slice P3 1 q3) := Z.cell 1
        have Zc2 : w23.cell? ⟨Za, 2, none⟩ = some (.int .i64 (-1)) := Z.cell 2
        have Zc3 : w23.cell? ⟨Za, 3, none⟩ = some (.bool false) := Z.cell 3
        have Zz : Za < w23.heap.size := Z.lt
        go_wp2_with fail
        clear Zc0 Zc1 Zc2 Zc3 Zz
        refine (dSync_at E3 hdi3.out).mono ?_
        rintro e w24 hh
        obtain ⟨S4, p4, P4, q4, rfl, E4, hb⟩ := RetDk.is hh hL hsy (ns := 40) (np := 0) (dl := -1) (ds := false) (Lib.hid hGd.out.len) rfl rfl rfl
        replace Lb := Lb.later hb
        replace Y := Y.later hb
        replace Z := Z.later hb
        replace hrec := rw_later hrec hb
        replace hR := rw_later hR hb
        replace hBs := hbs_later hBs hb
        replace R1 := rw_later R1 hb
        replace E3 := dk_later E3 hb
        replace hO := ownI_later hO hb
        replace hB := hB.trans (hb.mono hB.size)
        replace hL := hL.later hb.size
        clear hb
        clear E3
        have Zc0 : w24.cell? ⟨Za, 0, none⟩ = some (.slice S3 40 p3) := Z.cell 0
        have Zc1 : w24.cell? ⟨Za, 1, none⟩ = some (.slice P3 1 q3) := Z.cell 1
        have Zc2 : w24.cell? ⟨Za, 2, none⟩ = some (.int .i64 (-1)) := Z.cell 2
        have Zc3 : w24.cell? ⟨Za, 3, none⟩ = some (.bool false) := Z.cell 3
        have Zz : Za < w24.heap.size := Z.lt
        have Zf0 : w24.frozen? ⟨Za, 0, none⟩ = false := Z.free 0
        have Zf1 : w24.frozen? ⟨Za, 1, none⟩ = false := Z.free 1
        have Zf2 : w24.frozen? ⟨Za, 2, none⟩ = false := Z.free 2
        have Zf3 : w24.frozen? ⟨Za, 3, none⟩ = false := Z.free 3
        go_upto_region 31 with fail
        clear Zc0 Zc1 Zc2 Zc3 Zz
        clear Zf0 Zf1 Zf2 Zf3
        replace hO := (ownI_set (a := Za) hneZ (ownI_set (a := Za) hneZ (ownI_set (a := Za) hneZ (ownI_set (a := Za) hneZ hO 0 (.slice S4 40 p4)) 1 (.slice P4 0 q4)) 2 (.int .i64 (-1))) 3 (.bool false))
        replace hrec := (rw_set (a := Za) (by simp) (rw_set (a := Za) (by simp) (rw_set (a := Za) (by simp) (rw_set (a := Za) (by simp) hrec 0 (.slice S4 40 p4)) 1 (.slice P4 0 q4)) 2 (.int .i64 (-1))) 3 (.bool false))
        replace hR := (rw_set (a := Za) (by simp) (rw_set (a := Za) (by simp) (rw_set (a := Za) (by simp) (rw_set (a := Za) (by simp) hR 0 (.slice S4 40 p4)) 1 (.slice P4 0 q4)) 2 (.int .i64 (-1))) 3 (.bool false))
        replace hBs := (hbs_set (a := Za) (by simp) (hbs_set (a := Za) (by simp) (hbs_set (a := Za) (by simp) (hbs_set (a := Za) (by simp) hBs 0 (.slice S4 40 p4)) 1 (.slice P4 0 q4)) 2 (.int .i64 (-1))) 3 (.bool false))
        replace R1 := (rw_set (a := Za) (by simp) (rw_set (a := Za) (by simp) (rw_set (a := Za) (by simp) (rw_set (a := Za) (by simp) R1 0 (.slice S4 40 p4)) 1 (.slice P4 0 q4)) 2 (.int .i64 (-1))) 3 (.bool false))
        replace E4 := (dk_set (a := Za) (by simp) (dk_set (a := Za) (by simp) (dk_set (a := Za) (by simp) (dk_set (a := Za) (by simp) E4 0 (.slice S4 40 p4)) 1 (.slice P4 0 q4)) 2 (.int .i64 (-1))) 3 (.bool false))
        replace hB := ((((hB.setCell (p := ⟨Za, 0, none⟩) gZ (.slice S4 40 p4)).setCell (p := ⟨Za, 1, none⟩) gZ (.slice P4 0 q4)).setCell (p := ⟨Za, 2, none⟩) gZ (.int .i64 (-1))).setCell (p := ⟨Za, 3, none⟩) gZ (.bool false))
        replace Lb := ((((Lb.other (a := ⟨Za, 0, none⟩) nLbZ (.slice S4 40 p4)).other (a := ⟨Za, 1, none⟩) nLbZ (.slice P4 0 q4)).other (a := ⟨Za, 2, none⟩) nLbZ (.int .i64 (-1))).other (a := ⟨Za, 3, none⟩) nLbZ (.bool false))
        replace Y := ((((Y.other (a := ⟨Za, 0, none⟩) nYZ (.slice S4 40 p4)).other (a := ⟨Za, 1, none⟩) nYZ (.slice P4 0 q4)).other (a := ⟨Za, 2, none⟩) nYZ (.int .i64 (-1))).other (a := ⟨Za, 3, none⟩) nYZ (.bool false))
        replace Z := ((((Z.set 0 (.slice S4 40 p4)).set 1 (.slice P4 0 q4)).set 2 (.int .i64 (-1))).set 3 (.bool false))
        have hLs : InW [Za, ga, Lba] ((((w24.setCell ⟨Za, 0, none⟩ (.slice S4 40 p4)).setCell ⟨Za, 1, none⟩ (.slice P4 0 q4)).setCell ⟨Za, 2, none⟩ (.int .i64 (-1))).setCell ⟨Za, 3, none⟩ (.bool false)) := hL.later (by simp)
        replace hL := hLs
        clear hLs
        generalize ((((w24.setCell ⟨Za, 0, none⟩ (.slice S4 40 p4)).setCell ⟨Za, 1, none⟩ (.slice P4 0 q4)).setCell ⟨Za, 2, none⟩ (.int .i64 (-1))).setCell ⟨Za, 3, none⟩ (.bool false)) = w25 at hB hL Lb Y Z hrec hR hBs R1 E4 hO ⊢
        have hdi4 : Hid (DkIs ⟨S'.set kk (s.set ii y), [], -1, false⟩ (-1) false) := Lib.hid ⟨rfl, rfl⟩
        have hlm : Hid ((N.take mm).length = mm) := Lib.hid (by rw [List.length_take, hm.out]; omega)
        have HO4 : Hid (openT ⟨S'.set kk (s.set ii y), [], -1, false⟩ = (⟨N.take mm, 40, (N.take mm).length⟩, 0)) := Lib.hid (open_good hGd.out (by omega))
        have HJ4 : Hid (JnIs ⟨N.take mm, 40, (N.take mm).length⟩ mm 40 mm) := Lib.hid ⟨hlm.out, rfl, by rw [hlm.out]⟩
        have Zc0 : w25.cell? ⟨Za, 0, none⟩ = some (.slice S4 40 p4) := Z.cell 0
        have Zc1 : w25.cell? ⟨Za, 1, none⟩ = some (.slice P4 0 q4) := Z.cell 1
        have Zc2 : w25.cell? ⟨Za, 2, none⟩ = some (.int .i64 (-1)) := Z.cell 2
        have Zc3 : w25.cell? ⟨Za, 3, none⟩ = some (.bool false) := Z.cell 3
        have Zz : Za < w25.heap.size := Z.lt
        go_wp2_with fail
        clear Zc0 Zc1 Zc2 Zc3 Zz
        refine (jOpen_at E4 hdi4).mono ?_
        rintro e w26 hh
        obtain ⟨A5, c5, rfl, R5, hb⟩ := RetJn.is hh hL HO4 HJ4
        replace Lb := Lb.later hb
        replace Y := Y.later hb
        replace Z := Z.later hb
        replace hrec := rw_later hrec hb
        replace hR := rw_later hR hb
        replace hBs := hbs_later hBs hb
        replace R1 := rw_later R1 hb
        replace E4 := dk_later E4 hb
        replace hO := ownI_later hO hb
        replace hB := hB.trans (hb.mono hB.size)
        replace hL := hL.later hb.size
        clear hb
        clear E4
        clear HO4 HJ4
        go_wp2_with fail
        have hst := (Below.refl w26.heap.size w26).alloc (Nat.le_refl _) (.cells #[.slice A5 mm c5, .int .i64 40, .int .i64 mm] 29)
        have nLbY5 : Lba ≠ w26.heap.size := by have := Lb.lt; omega
        have nZY5 : Za ≠ w26.heap.size := by have := Z.lt; omega
        replace Lb := Lb.later hst
        replace Y := Y.later hst
        replace Z := Z.later hst
        replace hrec := rw_later hrec hst
        replace hR := rw_later hR hst
        replace hBs := hbs_later hBs hst
        replace R1 := rw_later R1 hst
        replace hO := ownI_later hO hst
        replace R5 := rw_later R5 hst
        replace hL := hL.later hst.size
        replace hB := hB.trans (hst.mono hB.size)
        have Y5 := Box.new w26 [.slice A5 mm c5, .int .i64 40, .int .i64 mm] 29
        have hzY5 : Hid ((w26.alloc (.cells #[.slice A5 mm c5, .int .i64 40, .int .i64 mm] 29)).heap.size = w26.heap.size + 1) := Lib.hid (by simp)
        clear hst
        generalize w26.alloc (.cells #[.slice A5 mm c5, .int .i64 40, .int .i64 mm] 29) = w27 at hB hL hzY5 Y5 Lb Y Z hrec hR hBs R1 hO R5 ⊢
        generalize hga : w26.heap.size = Y5a at hzY5 Y5 nLbY5 nZY5 ⊢
        clear hga
        clear Z
        clear hzY5 hsy hwr
        go_loopw [27] (fun v wq => ∃ q : Nat, q ≤ mm ∧ v = .int .i64 (q : Int) ∧ w27 = wq) (fun v _ => mm - (intOf v).toNat)
        case atStart => exact ⟨0, Nat.zero_le _, rfl, rfl⟩
        case round =>
          obtain ⟨q, hq, rfl, hw⟩ := hrel
          subst hw
          obtain ⟨hx1, g2, hx2, hx3, hx4, hcq⟩ := hO.out.cell (i := q) (show q < p + 1 by omega)
          clear hx1 hx3
          cases hx2
          have hqe : (endsT N).getD q 0 = (usedT (N.take (q + 1)) : Int) := by rw [List.getD_eq_getElem?_getD, endsT_get (by rw [hm.out]; omega)]; rfl
          rw [hqe] at hcq
          clear hqe
          have b1 : Hid (q < mm → usedT (N.take (q + 1)) ≤ kk) := Lib.hid fun h => hb1.out q h
          have b2 : Hid (q = mm → kk < usedT (N.take (q + 1))) := Lib.hid fun h => by rw [h]; exact hb2.out
          generalize usedT (N.take (q + 1)) = uq at hcq b1 b2
          have q0 : (0 : Int) ≤ (q : Int) := by omega
          have q1 : (q : Int) < (p : Int) + 1 := by omega
          have q2 : q < p + 1 := by omega
          rcases Nat.lt_or_ge q mm with hlt2 | hge2
          · have b3 : uq ≤ kk := b1.out hlt2
            go_wp2
            exact ⟨⟨q + 1, by omega, by go_num, trivial⟩, by simp [intOf] <;> omega⟩
          · obtain rfl : mm = q := by omega
            have b4 : ¬ (uq ≤ kk) := by have := b2.out rfl; omega
            obtain ⟨la, lo, V, hA, _⟩ := hR.out.row (k := 0) (by rw [hJi.out.len]; omega)
            subst hA
            have hca := hR.out.caps
            have k5 : mm ≤ c := by omega
            have k6 : (mm : Int) ≤ (c : Int) := by omega
            have k7 : c ≤ 9223372036854775807 := hca.2.1
            clear hca
            go_wp2_with fail
            have HT := Lib.hid (hR.out.taken hJi.out.len (show mm ≤ p + 1 by omega))
            have htk : Hid (J.records.take mm = N.take mm) := Lib.hid (by rw [hJ.out.is]; rfl)
            have HCS : Hid (∀ z : Later w27, Calls Try.prog 24 #[.slice A5 mm c5, .slice (some ⟨la, lo, none⟩) mm c] z.w fun e w' => e = .returned (.bool true) ∧ Below z.w.heap.size z.w w') := Lib.hid fun z => jRSameRecs_any (N.take mm) (J.records.take mm) _ _ _ _ _ _ (Out [Za, ga, Lba]) (Out [Za, ga, Lba]) z.w (rw_later R5 z.below) (rw_later HT z.below) hlm (Lib.hid (by rw [htk.out]; exact hlm.out)) (by omega) (by omega) true (Lib.hid (decide_eq_true htk.out.symm))
            clear HT
            go_wp2_with fail
            have Y5l0 : ∀ zz : Later w27, zz.w.cell? ⟨Y5a, 0, none⟩ = some (.slice A5 mm c5) := Later.cell (Y5.cell 0) Y5.lt
            have Y5l1 : ∀ zz : Later w27, zz.w.cell? ⟨Y5a, 1, none⟩ = some (.int .i64 40) := Later.cell (Y5.cell 1) Y5.lt
            have Y5l2 : ∀ zz : Later w27, zz.w.cell? ⟨Y5a, 2, none⟩ = some (.int .i64 mm) := Later.cell (Y5.cell 2) Y5.lt
            have Lbl0 : ∀ zz : Later w27, zz.w.cell? ⟨Lba, 0, none⟩ = some (.slice (some ⟨la, lo, none⟩) (p + 1) c) := Later.cell (Lb.cell 0) Lb.lt
            have Lbl1 : ∀ zz : Later w27, zz.w.cell? ⟨Lba, 1, none⟩ = some (.int .i64 40) := Later.cell (Lb.cell 1) Lb.lt
            have Lbl2 : ∀ zz : Later w27, zz.w.cell? ⟨Lba, 2, none⟩ = some (.int .i64 0) := Later.cell (Lb.cell 2) Lb.lt
            refine wp_region_later (by kernel_rfl) (by kernel_rfl) ?_
            repeat (go_big_quiet_step ((first | (go_at_call 24; with_reducible exact Later.call _ (HCS.out _)))))
            refine wpQuiet_nil ?_
            intro _ hw'
            obtain ⟨yq, hw''⟩ := hw'
            subst hw''
            clear Y5l0 Y5l1 Y5l2 Lbl0 Lbl1 Lbl2
            obtain ⟨w28, hz, hb⟩ : ∃ z, yq.w = z ∧ Below w27.heap.size w27 z := ⟨_, rfl, yq.below⟩
            rw [hz]
            clear hz
            have Lb := Lb.later hb
            have Y := Y.later hb
            have Y5 := Y5.later hb
            have hrec := rw_later hrec hb
            have hR := rw_later hR hb
            have hBs := hbs_later hBs hb
            have R1 := rw_later R1 hb
            have hO := ownI_later hO hb
            have R5 := rw_later R5 hb
            have hB := hB.trans (hb.mono hB.size)
            replace hL := hL.later hb.size
            clear hb
            clear HCS
            go_wp2
            go_ret
            exact ⟨rfl, hB⟩
    subst he
    obtain ⟨hnb4, hsb4⟩ := fit_of hJ.out h1.out
    rw [hnb.out] at hnb4 hsb4
    have hJ1 : Hid (Jnd J1 [] (N ++ [b]) 40) := Lib.hid (by have := hJ.out.more (b := b) (by rw [h1.out]); rwa [h1.out] at this)
    have hm1 : Hid ((N ++ [b]).length = m + 1) := Lib.hid (by rw [List.length_append, hm.out]; rfl)
    have hji := hJ1.out.jn
    rw [show ([] : List Bs).length = 0 from rfl, Nat.zero_add, hm1.out] at hji
    obtain rfl : n1 = m + 1 := hj1.out.len.symm.trans hji.len
    obtain rfl : m1 = 40 := hj1.out.many.symm.trans hji.many
    obtain rfl : s1 = 0 := hj1.out.sync.symm.trans hji.sync
    clear hji
    go_upto_region 15 with fail
    have hst := (Below.refl w17.heap.size w17).alloc (Nat.le_refl _) (.cells #[.slice A1 (m + 1) c1, .int .i64 40, .int .i64 0] 29)
    have nLbY : Lba ≠ w17.heap.size := by have := Lb.lt; omega
    replace X := X.later hst
    replace Lb := Lb.later hst
    replace hD := dk_later hD hst
    replace hrec := rw_later hrec hst
    replace hR := rw_later hR hst
    replace hO := ownI_later hO hst
    replace hBs := hbs_later hBs hst
    replace hrb := bs_later hrb hst
    replace R1 := rw_later R1 hst
    replace hL := hL.later hst.size
    replace hB := hB.trans (hst.mono hB.size)
    have Y := Box.new w17 [.slice A1 (m + 1) c1, .int .i64 40, .int .i64 0] 29
    have hzY : Hid ((w17.alloc (.cells #[.slice A1 (m + 1) c1, .int .i64 40, .int .i64 0] 29)).heap.size = w17.heap.size + 1) := Lib.hid (by simp)
    clear hst
    generalize w17.alloc (.cells #[.slice A1 (m + 1) c1, .int .i64 40, .int .i64 0] 29) = w18 at hB hL hzY Y X Lb hD hrec hR hO hBs hrb R1 ⊢
    generalize hga : w17.heap.size = Ya at hzY Y nLbY ⊢
    clear hga
    have Lbc0 : w18.cell? ⟨Lba, 0, none⟩ = some (.slice A m c) := Lb.cell 0
    have Lbc1 : w18.cell? ⟨Lba, 1, none⟩ = some (.int .i64 40) := Lb.cell 1
    have Lbc2 : w18.cell? ⟨Lba, 2, none⟩ = some (.int .i64 0) := Lb.cell 2
    have Lbz : Lba < w18.heap.size := Lb.lt
    have Yc0 : w18.cell? ⟨Ya, 0, none⟩ = some (.slice A1 (m + 1) c1) := Y.cell 0
    have Yc1 : w18.cell? ⟨Ya, 1, none⟩ = some (.int .i64 40) := Y.cell 1
    have Yc2 : w18.cell? ⟨Ya, 2, none⟩ = some (.int .i64 0) := Y.cell 2
    have Yz : Ya < w18.heap.size := Y.lt
    have Lbf0 : w18.frozen? ⟨Lba, 0, none⟩ = false := Lb.free 0
    have Lbf1 : w18.frozen? ⟨Lba, 1, none⟩ = false := Lb.free 1
    have Lbf2 : w18.frozen? ⟨Lba, 2, none⟩ = false := Lb.free 2
    go_upto_region 16 with fail
    clear Lbc0 Lbc1 Lbc2 Lbz Yc0 Yc1 Yc2 Yz
    clear Lbf0 Lbf1 Lbf2
    replace hO := (ownI_set (a := Lba) hneL (ownI_set (a := Lba) hneL (ownI_set (a := Lba) hneL hO 0 (.slice A1 (m + 1) c1)) 1 (.int .i64 40)) 2 (.int .i64 0))
    replace hD := (dk_set (a := Lba) (by simp) (dk_set (a := Lba) (by simp) (dk_set (a := Lba) (by simp) hD 0 (.slice A1 (m + 1) c1)) 1 (.int .i64 40)) 2 (.int .i64 0))
    replace hrec := (rw_set (a := Lba) (by simp) (rw_set (a := Lba) (by simp) (rw_set (a := Lba) (by simp) hrec 0 (.slice A1 (m + 1) c1)) 1 (.int .i64 40)) 2 (.int .i64 0))
    replace hR := (rw_set (a := Lba) (by simp) (rw_set (a := Lba) (by simp) (rw_set (a := Lba) (by simp) hR 0 (.slice A1 (m + 1) c1)) 1 (.int .i64 40)) 2 (.int .i64 0))
    replace hBs := (hbs_set (a := Lba) (by simp) (hbs_set (a := Lba) (by simp) (hbs_set (a := Lba) (by simp) hBs 0 (.slice A1 (m + 1) c1)) 1 (.int .i64 40)) 2 (.int .i64 0))
    replace hrb := (bs_set (a := Lba) (by simp) (bs_set (a := Lba) (by simp) (bs_set (a := Lba) (by simp) hrb 0 (.slice A1 (m + 1) c1)) 1 (.int .i64 40)) 2 (.int .i64 0))
    replace R1 := (rw_set (a := Lba) (by simp) (rw_set (a := Lba) (by simp) (rw_set (a := Lba) (by simp) R1 0 (.slice A1 (m + 1) c1)) 1 (.int .i64 40)) 2 (.int .i64 0))
    replace hB := (((hB.setCell (p := ⟨Lba, 0, none⟩) gLb (.slice A1 (m + 1) c1)).setCell (p := ⟨Lba, 1, none⟩) gLb (.int .i64 40)).setCell (p := ⟨Lba, 2, none⟩) gLb (.int .i64 0))
    replace X := (((X.other (a := ⟨Lba, 0, none⟩) nXLb (.slice A1 (m + 1) c1)).other (a := ⟨Lba, 1, none⟩) nXLb (.int .i64 40)).other (a := ⟨Lba, 2, none⟩) nXLb (.int .i64 0))
    replace Y := (((Y.other (a := ⟨Lba, 0, none⟩) (Ne.symm nLbY) (.slice A1 (m + 1) c1)).other (a := ⟨Lba, 1, none⟩) (Ne.symm nLbY) (.int .i64 40)).other (a := ⟨Lba, 2, none⟩) (Ne.symm nLbY) (.int .i64 0))
    replace Lb := (((Lb.set 0 (.slice A1 (m + 1) c1)).set 1 (.int .i64 40)).set 2 (.int .i64 0))
    have hLs : InW [ga, Lba] (((w18.setCell ⟨Lba, 0, none⟩ (.slice A1 (m + 1) c1)).setCell ⟨Lba, 1, none⟩ (.int .i64 40)).setCell ⟨Lba, 2, none⟩ (.int .i64 0)) := hL.later (by simp)
    replace hL := hLs
    clear hLs
    generalize (((w18.setCell ⟨Lba, 0, none⟩ (.slice A1 (m + 1) c1)).setCell ⟨Lba, 1, none⟩ (.int .i64 40)).setCell ⟨Lba, 2, none⟩ (.int .i64 0)) = w19 at hB hL X Lb Y hD hrec hR hBs hrb R1 hO ⊢
    obtain ⟨sb, hsb⟩ : ∃ x, secT nb = x := ⟨_, rfl⟩
    rw [hsb] at hsb4
    have hmx : max 1 (((nb : Int) + 111) / 112) = (sb : Int) := by rw [← hsb]; unfold secT; omega
    replace hsb := Lib.hid hsb
    obtain ⟨u, hu⟩ : ∃ x, usedT N = x := ⟨_, rfl⟩
    have hu4 : u ≤ 40 := by rw [← hu]; exact hu40.out
    have hes : Hid (endsT (N ++ [b]) = endsT N ++ [((u + sb : Nat) : Int)]) := Lib.hid (by rw [endsT_snoc, hu, hnb.out, hsb.out])
    have hu0 : Hid (m = 0 → u = 0) := Lib.hid fun e => by
      have : N = [] := List.length_eq_zero_iff.1 (by rw [hm.out, e])
      rw [← hu, this]; rfl
    have hlast : Hid (∀ p, m = p + 1 → (endsT N).getD p 0 = (u : Int)) := Lib.hid fun p e => by
      have hp : p < N.length := by rw [hm.out]; omega
      rw [List.getD_eq_getElem?_getD, endsT_get hp, List.take_of_length_le (by rw [hm.out]; omega), hu]
      rfl
    replace hu := Lib.hid hu
    have hdw : w.heap.size ≤ B := by have := gLb; omega
    have hneX : (Value.slice A13 m c13).ownBlock ≠ some Xa := by
      rcases hga.out with h | ⟨h, h2⟩
      · rw [h]; simp
      · rw [h]; intro e; have := Option.some.inj e; omega
    have ho : (Value.slice A13 m c13).ownBlock = none ∨ (Value.slice A13 m c13).ownBlock = some ga := hga.out.imp id And.left
    have hel : (endsT N).length = m := by rw [endsT_length, hm.out]
    rcases m with _ | p
    · have hu1 := hu0.out rfl
      obtain ⟨g', c', w', hr, hO2, hg, hl, hBg, hgl⟩ := run_appI ((sb : Int)) 47 rfl hO.out hBs.out (by rw [hel]; omega)
      have hst := (Below.refl w19.heap.size w19).alloc (Nat.le_refl _) (.cells #[.int .i64 ((sb : Int))] 3)
      rw [hel] at hr hO2
      have hl2 := moved hl hga.out
      replace X := box_move (X.later hst) hg hneX
      replace Lb := box_move (Lb.later hst) hg hneL
      replace hD := dk_move (dk_later hD hst) ho hg hl2
      replace hrec := rw_move (rw_later hrec hst) ho hg hl2
      replace R1 := rw_move (rw_later R1 hst) ho hg hl2
      have hL2 : InW [g', Lba] w' := by
        intro a ha
        simp only [List.mem_cons, List.not_mem_nil, or_false] at ha
        rcases ha with rfl | rfl
        · exact hgl
        · exact Lb.lt
      have hB2 := below_own (hB.trans (hst.mono hB.size)) hdw (Nat.le_trans hB.size hst.size) hga.out hg
      have hBs2 : Hid (B ≤ w'.heap.size) := Lib.hid (Nat.le_trans hBs.out (Nat.le_trans hst.size hg.size))
      have hO3 : Hid (OwnIs w' B (.slice (some ⟨g', 0, none⟩) (0 + 1) c') (endsT (N ++ [b]))) := Lib.hid (by rw [hes.out]; first | exact hO2 | (rw [show ((u + sb : Nat) : Int) = (sb : Int) by omega]; exact hO2))
      clear hg hst hl hl2 hO2 hO hR hB hL hBs ho hneX hneL hga hel hes hlast hu0 hrb Y
      go_wp2_with fail
      exact ⟨⟨q + 1, 0 + 1, g', N ++ [b], J1, A1, c1, _, c', by omega, by go_num, rfl, hm1, hJ1, Lb, R1, X, hD, hrec, hO3, Lib.hid (.inr ⟨rfl, hBg⟩), hL2, hBs2, hB2⟩, by simp [intOf] <;> omega⟩
    · obtain ⟨hx, gg, hA13, hxb, hgz, hgc⟩ := hO.out.cell (i := p) (Nat.lt_succ_self p)
      clear hx hxb
      subst hA13
      rw [hlast.out p rfl] at hgc
      have hp1 : (p : Int) < (p : Int) + 1 := by omega
      have hp0 : (0 : Int) ≤ (p : Int) := by omega
      obtain ⟨g', c', w', hr, hO2, hg, hl, hBg, hgl⟩ := run_appI ((sb : Int) + (u : Int)) 47 rfl hO.out hBs.out (by rw [hel]; omega)
      have hst := (Below.refl w19.heap.size w19).alloc (Nat.le_refl _) (.cells #[.int .i64 ((sb : Int) + (u : Int))] 3)
      rw [hel] at hr hO2
      have hl2 := moved hl hga.out
      replace X := box_move (X.later hst) hg hneX
      replace Lb := box_move (Lb.later hst) hg hneL
      replace hD := dk_move (dk_later hD hst) ho hg hl2
      replace hrec := rw_move (rw_later hrec hst) ho hg hl2
      replace R1 := rw_move (rw_later R1 hst) ho hg hl2
      have hL2 : InW [g', Lba] w' := by
        intro a ha
        simp only [List.mem_cons, List.not_mem_nil, or_false] at ha
        rcases ha with rfl | rfl
        · exact hgl
        · exact Lb.lt
      have hB2 := below_own (hB.trans (hst.mono hB.size)) hdw (Nat.le_trans hB.size hst.size) hga.out hg
      have hBs2 : Hid (B ≤ w'.heap.size) := Lib.hid (Nat.le_trans hBs.out (Nat.le_trans hst.size hg.size))
      have hO3 : Hid (OwnIs w' B (.slice (some ⟨g', 0, none⟩) ((p + 1) + 1) c') (endsT (N ++ [b]))) := Lib.hid (by rw [hes.out]; first | exact hO2 | (rw [show ((u + sb : Nat) : Int) = (sb : Int) + (u : Int) by omega]; exact hO2))
      clear hg hst hl hl2 hO2 hO hR hB hL hBs ho hneX hneL hga hel hes hlast hu0 hrb Y
      go_wp2_with fail
      exact ⟨⟨q + 1, (p + 1) + 1, g', N ++ [b], J1, A1, c1, _, c', by omega, by go_num, rfl, hm1, hJ1, Lb, R1, X, hD, hrec, hO3, Lib.hid (.inr ⟨rfl, hBg⟩), hL2, hBs2, hB2⟩, by simp [intOf] <;> omega⟩

theorem law_JournalDamage (L : List Bs) (V : Value) (sec at' by' : Int) (w : World) (hL : RwAt w (fun b => b < w.heap.size) V L) (hf : ∀ b ∈ L, b.length ≤ 140737488351232) (hsec : -9223372036854775808 ≤ sec ∧ sec ≤ 9223372036854775807) (hat : -9223372036854775808 ≤ at' ∧ at' ≤ 9223372036854775807) (hby : 0 ≤ by' ∧ by' ≤ 255) :
    Calls Try.prog 7 #[V, .int .i64 sec, .int .i64 at', .int .u8 by'] w fun e w' => e = .returned (.bool true) ∧ Below w.heap.size w w' := by
  obtain ⟨A, c, rfl, _⟩ := hL.form
  rcases Nat.eq_zero_or_pos L.length with h0 | h0
  · exact lawD_0 L A _ c sec at' by' w (live_rw hL) (Lib.hid rfl) hf hby (Lib.hid h0)
  · by_cases h1 : by' = 0
    · exact lawD_1 L A _ c sec at' by' w (live_rw hL) (Lib.hid rfl) hf hby h0 h1
    · exact lawD_2 L A _ c sec at' by' w (live_rw hL) (Lib.hid rfl) hf hby h0 h1 hsec hat
end Go.Proofs.Ythlidhfahaalgaa
