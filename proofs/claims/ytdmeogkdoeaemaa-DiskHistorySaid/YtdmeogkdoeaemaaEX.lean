/-
  The law DiskHistory: the walk. (Printed by gen_ex.py.)
-/
import Derived.Test.YtdmeogkdoeaemaaEV
import Derived.Test.YtdmeogkdoeaemaaES
import Derived.Deep.CutBlock
namespace Go.Proofs.Ytdmeogkdoeaemaa
open Go.RowKit
attribute [local go_sem ↓ high] app_named cop_named

set_option maxRecDepth 100000 in
set_option maxHeartbeats 8000000 in
theorem lawH_1 (Av : Option Addr) (n cv : Nat) (rm : Nat) (w : World) (hn : 40 < n) (hn2 : n ≤ 9223372036854775807) : Calls Try.prog 6 #[.slice Av n cv, .int .u8 (rm : Int)] w (fun e w' => e = .returned (.bool true) ∧ Below w.heap.size w w') := by
  go_enter Try.func6, Try.ntmps6
  go_wp2_with fail
  refine (dSane_any _).mono ?_
  rintro e w1 ⟨rfl, hb⟩
  have e40 : decide ((40 : Int) < (n : Int)) = true := decide_eq_true (by omega)
  go_wp2_with fail
  go_ret
  exact ⟨rfl, hb⟩

set_option maxRecDepth 100000 in
set_option maxHeartbeats 16000000 in
theorem lawH_go (Av : Option Addr) (n cv : Nat) (sc : List Ac) (rm0 : Nat) (w : World) (hA : Hid (AcsAt w (Out []) (.slice Av n cv) sc)) (hscn : Hid (sc.length = n)) (hr : Hid (rm0 ≤ 255)) (hn : n ≤ 40) : Calls Try.prog 6 #[.slice Av n cv, .int .u8 (rm0 : Int)] w (fun e w' => e = .returned (.bool true) ∧ Below w.heap.size w w') := by
  have hB := Below.refl w.heap.size w
  have hL := InW.nil w
  have hN := HI.new rm0 hr.out
  have HS := Lib.hid hN.1
  have H0 := Lib.hid hN.2
  have hrm : (rm0 : Int) ≤ 255 := by have := hr.out; omega
  have H4 : Hid (newT 4 = (⟨List.replicate 4 zeros, [], -1, false⟩, 0)) := Lib.hid (new_eq (by decide) (by decide))
  clear hN
  go_enter Try.func6, Try.ntmps6
  go_wp2_with fail
  refine (dSane_any _).mono ?_
  rintro e w1 ⟨rfl, hb⟩
  replace hA := acs_later hA hb
  replace hB := hB.trans (hb.mono hB.size)
  replace hL := hL.later hb.size
  clear hb
  have e40 : decide ((40 : Int) < (n : Int)) = false := decide_eq_false (by omega)
  go_wp2_with fail
  refine (dNew_any 4 (Out []) _).mono ?_
  rintro e w2 hh
  obtain ⟨AN, cN, PN, qN, rfl, DN, hb⟩ := RetDk.is hh hL H4 (ns := 4) (np := 0) (dl := (-1)) (ds := false) rfl rfl rfl rfl
  replace hA := acs_later hA hb
  replace hB := hB.trans (hb.mono hB.size)
  replace hL := hL.later hb.size
  clear hb
  go_wp2_with fail
  have hst := (Below.refl w2.heap.size w2).alloc (Nat.le_refl _) (.cells #[.slice AN 4 cN, .slice PN 0 qN, .int .i64 (-1), .bool false] 25)
  have hg0 : w.heap.size ≤ w2.heap.size := hB.size
  replace hA := acs_more (a := w2.heap.size) (Nat.le_refl _) hA
  replace hA := acs_later hA hst
  replace DN := dk_more (a := w2.heap.size) (Nat.le_refl _) DN
  replace DN := dk_later DN hst
  replace hL := hL.later hst.size
  replace hL := hL.cons (a := w2.heap.size) (by simp)
  replace hB := hB.trans (hst.mono hB.size)
  have X := Box.new w2 [.slice AN 4 cN, .slice PN 0 qN, .int .i64 (-1), .bool false] 25
  have hzX : Hid ((w2.alloc (.cells #[.slice AN 4 cN, .slice PN 0 qN, .int .i64 (-1), .bool false] 25)).heap.size = w2.heap.size + 1) := Lib.hid (by simp)
  clear hst
  generalize w2.alloc (.cells #[.slice AN 4 cN, .slice PN 0 qN, .int .i64 (-1), .bool false] 25) = w3 at hB hL hzX X hA DN ⊢
  generalize hga : w2.heap.size = Xa at hzX X hL hA DN ⊢
  have gX : w.heap.size ≤ Xa := by rw [← hga]; exact hg0
  clear hg0
  clear hga
  refine (dStop_at (rm0 : Int) DN ⟨rfl, rfl⟩).mono ?_
  rintro e w4 hh
  obtain ⟨AS, cS, PS, qS, rfl, DS, hb⟩ := RetDk.is hh hL HS (ns := 4) (np := 0) (dl := (rm0 : Int)) (ds := false) rfl rfl rfl rfl
  replace X := X.later hb
  replace hA := acs_later hA hb
  replace DN := dk_later DN hb
  replace hB := hB.trans (hb.mono hB.size)
  replace hL := hL.later hb.size
  clear hb
  clear e40
  have Xc0 : w4.cell? ⟨Xa, 0, none⟩ = some (.slice AN 4 cN) := X.cell 0
  have Xc1 : w4.cell? ⟨Xa, 1, none⟩ = some (.slice PN 0 qN) := X.cell 1
  have Xc2 : w4.cell? ⟨Xa, 2, none⟩ = some (.int .i64 (-1)) := X.cell 2
  have Xc3 : w4.cell? ⟨Xa, 3, none⟩ = some (.bool false) := X.cell 3
  have Xz : Xa < w4.heap.size := X.lt
  have Xf0 : w4.frozen? ⟨Xa, 0, none⟩ = false := X.free 0
  have Xf1 : w4.frozen? ⟨Xa, 1, none⟩ = false := X.free 1
  have Xf2 : w4.frozen? ⟨Xa, 2, none⟩ = false := X.free 2
  have Xf3 : w4.frozen? ⟨Xa, 3, none⟩ = false := X.free 3
  go_wp2_with fail
  clear Xc0 Xc1 Xc2 Xc3 Xz Xf0 Xf1 Xf2 Xf3
  have hP := X.put4 (.slice AS 4 cS) (.slice PS 0 qS) (.int .i64 (rm0 : Int)) (.bool false)
  have DP := dk_put4 (b := Xa) (by simp) DS (.slice AS 4 cS) (.slice PS 0 qS) (.int .i64 (rm0 : Int)) (.bool false)
  have AP := acs_put4 (b := Xa) (by simp) hA (.slice AS 4 cS) (.slice PS 0 qS) (.int .i64 (rm0 : Int)) (.bool false)
  have BP := below_put4 (b := Xa) hB gX (.slice AS 4 cS) (.slice PS 0 qS) (.int .i64 (rm0 : Int)) (.bool false)
  have hs : (put4 w4 Xa (.slice AS 4 cS) (.slice PS 0 qS) (.int .i64 (rm0 : Int)) (.bool false)).heap.size = w4.heap.size := by simp
  have hX4 := X.lt
  have D5 := dk_more (a := w4.heap.size + 1 + 1 + 1) (by rw [hs]; omega) (dk_more (a := w4.heap.size + 1 + 1) (by rw [hs]; omega) (dk_more (a := w4.heap.size + 1) (by rw [hs]; omega) (dk_more (a := w4.heap.size) (by rw [hs]; omega) DP)))
  have A5 := acs_more (a := w4.heap.size + 1 + 1 + 1) (by rw [hs]; omega) (acs_more (a := w4.heap.size + 1 + 1) (by rw [hs]; omega) (acs_more (a := w4.heap.size + 1) (by rw [hs]; omega) (acs_more (a := w4.heap.size) (by rw [hs]; omega) AP)))
  have hst := ((((Below.refl (put4 w4 Xa (.slice AS 4 cS) (.slice PS 0 qS) (.int .i64 (rm0 : Int)) (.bool false)).heap.size (put4 w4 Xa (.slice AS 4 cS) (.slice PS 0 qS) (.int .i64 (rm0 : Int)) (.bool false))).alloc (Nat.le_refl _) (.cells #[.int .u8 0, .int .u8 0, .int .u8 0, .int .u8 0] 44)).alloc (by simp <;> omega) (.cells #[.int .u8 0, .int .u8 0, .int .u8 0, .int .u8 0] 44)).alloc (by simp <;> omega) (.cells #[.int .u8 0, .int .u8 0, .int .u8 0, .int .u8 0] 44)).alloc (by simp <;> omega) (.cells #[] 46)
  have bl := (((Box.newAt (w := (put4 w4 Xa (.slice AS 4 cS) (.slice PS 0 qS) (.int .i64 (rm0 : Int)) (.bool false))) (n := w4.heap.size) [.int .u8 0, .int .u8 0, .int .u8 0, .int .u8 0] 44 (by simp)).alloc (.cells #[.int .u8 0, .int .u8 0, .int .u8 0, .int .u8 0] 44)).alloc (.cells #[.int .u8 0, .int .u8 0, .int .u8 0, .int .u8 0] 44)).alloc (.cells #[] 46)
  have bf := ((Box.newAt (w := (put4 w4 Xa (.slice AS 4 cS) (.slice PS 0 qS) (.int .i64 (rm0 : Int)) (.bool false)).alloc (.cells #[.int .u8 0, .int .u8 0, .int .u8 0, .int .u8 0] 44)) (n := w4.heap.size + 1) [.int .u8 0, .int .u8 0, .int .u8 0, .int .u8 0] 44 (by simp)).alloc (.cells #[.int .u8 0, .int .u8 0, .int .u8 0, .int .u8 0] 44)).alloc (.cells #[] 46)
  have bs := (Box.newAt (w := ((put4 w4 Xa (.slice AS 4 cS) (.slice PS 0 qS) (.int .i64 (rm0 : Int)) (.bool false)).alloc (.cells #[.int .u8 0, .int .u8 0, .int .u8 0, .int .u8 0] 44)).alloc (.cells #[.int .u8 0, .int .u8 0, .int .u8 0, .int .u8 0] 44)) (n := w4.heap.size + 1 + 1) [.int .u8 0, .int .u8 0, .int .u8 0, .int .u8 0] 44 (by simp)).alloc (.cells #[] 46)
  have hO0 := ownAc_new ((((put4 w4 Xa (.slice AS 4 cS) (.slice PS 0 qS) (.int .i64 (rm0 : Int)) (.bool false)).alloc (.cells #[.int .u8 0, .int .u8 0, .int .u8 0, .int .u8 0] 44)).alloc (.cells #[.int .u8 0, .int .u8 0, .int .u8 0, .int .u8 0] 44)).alloc (.cells #[.int .u8 0, .int .u8 0, .int .u8 0, .int .u8 0] 44)) (w4.heap.size + 1 + 1 + 1) (by simp)
  have hga : ((((put4 w4 Xa (.slice AS 4 cS) (.slice PS 0 qS) (.int .i64 (rm0 : Int)) (.bool false)).alloc (.cells #[.int .u8 0, .int .u8 0, .int .u8 0, .int .u8 0] 44)).alloc (.cells #[.int .u8 0, .int .u8 0, .int .u8 0, .int .u8 0] 44)).alloc (.cells #[.int .u8 0, .int .u8 0, .int .u8 0, .int .u8 0] 44)).heap.size = w4.heap.size + 1 + 1 + 1 := by simp
  rw [hga] at hO0
  have hO := Lib.hid hO0
  clear hO0 hga
  replace X := hP.later hst
  replace hD := dk_later D5 hst
  replace hA := acs_later A5 hst
  have hB4 := hB.size
  replace hB := BP.trans (hst.mono (by rw [hs]; exact hB4))
  have hL5 : InW [w4.heap.size + 1 + 1 + 1, w4.heap.size + 1 + 1, w4.heap.size + 1, w4.heap.size, Xa] (((((put4 w4 Xa (.slice AS 4 cS) (.slice PS 0 qS) (.int .i64 (rm0 : Int)) (.bool false)).alloc (.cells #[.int .u8 0, .int .u8 0, .int .u8 0, .int .u8 0] 44)).alloc (.cells #[.int .u8 0, .int .u8 0, .int .u8 0, .int .u8 0] 44)).alloc (.cells #[.int .u8 0, .int .u8 0, .int .u8 0, .int .u8 0] 44)).alloc (.cells #[] 46)) := fun a ha => by
    have e : (((((put4 w4 Xa (.slice AS 4 cS) (.slice PS 0 qS) (.int .i64 (rm0 : Int)) (.bool false)).alloc (.cells #[.int .u8 0, .int .u8 0, .int .u8 0, .int .u8 0] 44)).alloc (.cells #[.int .u8 0, .int .u8 0, .int .u8 0, .int .u8 0] 44)).alloc (.cells #[.int .u8 0, .int .u8 0, .int .u8 0, .int .u8 0] 44)).alloc (.cells #[] 46)).heap.size = w4.heap.size + 1 + 1 + 1 + 1 := by simp
    rw [e]
    simp only [List.mem_cons, List.not_mem_nil, or_false] at ha
    omega
  clear hst hP DP AP BP D5 A5 DS DN hs hL
  generalize (((((put4 w4 Xa (.slice AS 4 cS) (.slice PS 0 qS) (.int .i64 (rm0 : Int)) (.bool false)).alloc (.cells #[.int .u8 0, .int .u8 0, .int .u8 0, .int .u8 0] 44)).alloc (.cells #[.int .u8 0, .int .u8 0, .int .u8 0, .int .u8 0] 44)).alloc (.cells #[.int .u8 0, .int .u8 0, .int .u8 0, .int .u8 0] 44)).alloc (.cells #[] 46)) = wr at X hD hA hB hL5 bl bf bs hO ⊢
  obtain ⟨la, hla⟩ : ∃ x, w4.heap.size = x := ⟨_, rfl⟩
  obtain ⟨fa, hfa⟩ : ∃ x, w4.heap.size + 1 = x := ⟨_, rfl⟩
  obtain ⟨sa, hsa⟩ : ∃ x, w4.heap.size + 1 + 1 = x := ⟨_, rfl⟩
  obtain ⟨B, hBB⟩ : ∃ x, w4.heap.size + 1 + 1 + 1 = x := ⟨_, rfl⟩
  rw [hBB, hsa, hfa, hla] at hD hA hL5
  rw [hBB] at hO
  rw [hsa] at bs
  rw [hfa] at bf
  rw [hla] at bl
  have o1 : Xa < la := by omega
  have o2 : la < fa := by omega
  have o3 : fa < sa := by omega
  have o4 : sa < B := by omega
  have hwX := gX
  have hwl : w.heap.size ≤ la := by omega
  have hwf : w.heap.size ≤ fa := by omega
  have hws : w.heap.size ≤ sa := by omega
  have hwB : w.heap.size ≤ B := by omega
  rw [hBB, hsa, hfa, hla]
  clear hBB hsa hfa hla hX4 gX hB4
  have r0 : (rm0 : Int) = ((rm0 : Nat) : Int) := rfl
  clear r0 HS H4
  have hn2 : (n : Int) ≤ 40 := by omega
  go_loopw [11, 12, 13] (fun v r i wr => ∃ (k : Nat) (d : Dk) (rm : Nat) (F G : Nat → UInt8) (wt : List Ac) (nw ga c : Nat) (Az : Option Addr) (cz : Nat) (Pz : Option Addr) (qz : Nat), k ≤ n ∧ nw ≤ k ∧ i = .int .i64 k ∧ r = .int .i64 (rm : Int) ∧ v = .slice (some ⟨ga, 0, none⟩) nw c ∧ Hid (HI d wt rm F G) ∧ Hid (rm ≤ 255) ∧ Box wr Xa [.slice Az 4 cz, .slice Pz nw qz, .int .i64 (rm : Int), .bool false] ∧ Hid (DkAt wr (Out [ga, sa, fa, la, Xa]) (.slice Az 4 cz) (.slice Pz nw qz) d) ∧ Box wr la (arrC F) ∧ Box wr fa (arrC G) ∧ Box wr sa (arrC G) ∧ Hid (OwnAc wr B ga nw c wt) ∧ Hid (AcsAt wr (Out [ga, sa, fa, la, Xa]) (.slice Av n cv) sc) ∧ InW [ga, sa, fa, la, Xa] wr ∧ Below w.heap.size w wr) (fun _ _ i _ => n - (intOf i).toNat)
  case atStart => exact ⟨0, _, rm0, (fun _ => 0), (fun _ => 0), [], 0, B, 0, AS, cS, PS, qS, Nat.zero_le _, Nat.le_refl _, rfl, rfl, rfl, H0, hr, X, hD, bl, bf, bs, hO, hA, hL5, hB⟩
  case round =>
    clear X hD bl bf bs hO hA hL5 hB H0 hr hrm
    obtain ⟨k, d, rm, F, G, wt, nw, ga, c, Az, cz, Pz, qz, hk, hnk, rfl, rfl, rfl, hH, hr, X, hD, bl, bf, bs, hO, hA, hL, hB⟩ := hrel
    have hdi : DkIs d (rm : Int) false := ⟨hH.out.left, hH.out.run⟩
    have hrmN := hr.out
    have o5 : B ≤ ga := hO.out.2.2.1
    rcases Nat.lt_or_ge k n with hlt | hge
    rotate_left
    · obtain rfl : k = n := by omega
      have HR := Lib.hid hH.out.restart
      have hkn : decide ((k : Int) < (k : Int)) = false := decide_eq_false (by omega)
      go_wp2_with fail
      have lq0 : ∀ zz : Later wr, zz.w.cell? ⟨Xa, 0, none⟩ = some (.slice Az 4 cz) := Later.cell (X.cell 0) X.lt
      have lq1 : ∀ zz : Later wr, zz.w.cell? ⟨Xa, 1, none⟩ = some (.slice Pz nw qz) := Later.cell (X.cell 1) X.lt
      have lq2 : ∀ zz : Later wr, zz.w.cell? ⟨Xa, 2, none⟩ = some (.int .i64 (rm : Int)) := Later.cell (X.cell 2) X.lt
      have lq3 : ∀ zz : Later wr, zz.w.cell? ⟨Xa, 3, none⟩ = some (.bool false) := Later.cell (X.cell 3) X.lt
      have lq4 : ∀ zz : Later wr, zz.w.cell? ⟨fa, 0, none⟩ = some (.int .u8 ((G 0).toNat : Int)) := Later.cell (bf.cell 0) bf.lt
      have lq5 : ∀ zz : Later wr, zz.w.cell? ⟨fa, 1, none⟩ = some (.int .u8 ((G 1).toNat : Int)) := Later.cell (bf.cell 1) bf.lt
      have lq6 : ∀ zz : Later wr, zz.w.cell? ⟨fa, 2, none⟩ = some (.int .u8 ((G 2).toNat : Int)) := Later.cell (bf.cell 2) bf.lt
      have lq7 : ∀ zz : Later wr, zz.w.cell? ⟨fa, 3, none⟩ = some (.int .u8 ((G 3).toNat : Int)) := Later.cell (bf.cell 3) bf.lt
      have lq8 : ∀ zz : Later wr, zz.w.cell? ⟨sa, 0, none⟩ = some (.int .u8 ((G 0).toNat : Int)) := Later.cell (bs.cell 0) bs.lt
      have lq9 : ∀ zz : Later wr, zz.w.cell? ⟨sa, 1, none⟩ = some (.int .u8 ((G 1).toNat : Int)) := Later.cell (bs.cell 1) bs.lt
      have lq10 : ∀ zz : Later wr, zz.w.cell? ⟨sa, 2, none⟩ = some (.int .u8 ((G 2).toNat : Int)) := Later.cell (bs.cell 2) bs.lt
      have lq11 : ∀ zz : Later wr, zz.w.cell? ⟨sa, 3, none⟩ = some (.int .u8 ((G 3).toNat : Int)) := Later.cell (bs.cell 3) bs.lt
      refine wp_region_later (by kernel_rfl) (by kernel_rfl) ?_
      repeat (go_big_quiet_step ((first | (go_at_call 17; with_reducible exact Later.call _ (dRestart_eq _ _ _ _ _ _ _)) | (go_at_call 28; with_reducible exact Later.call _ (hHolds_yes ⟨d.sectors, [], -1, false⟩ _ _ _ _ [ga, sa, fa, la, Xa] _ G G (restart_at (dk_later hD (Later.below _))) (Lib.hid ⟨rfl, rfl⟩) (hL.later (Later.below _).size) HR)))))
      refine wpQuiet_nil ?_
      intro _ hw'
      obtain ⟨yq, hw''⟩ := hw'
      subst hw''
      clear lq0 lq1 lq2 lq3 lq4 lq5 lq6 lq7 lq8 lq9 lq10 lq11
      obtain ⟨wz, hz, hb⟩ : ∃ z, yq.w = z ∧ Below wr.heap.size wr z := ⟨_, rfl, yq.below⟩
      rw [hz]
      clear hz
      replace hB := hB.trans (hb.mono hB.size)
      go_wp2
      go_ret
      exact ⟨rfl, hB⟩
    obtain ⟨ab, ao, rfl, habL, habz, a0, a1, a2⟩ := hA.out.cell (k := k) (by rw [hscn.out]; exact hlt)
    generalize sc[k]'(by rw [hscn.out]; exact hlt) = act at a0 a1 a2
    obtain ⟨asy, aat, aby⟩ := act
    dsimp only at a0 a1 a2
    have hkn : (k : Int) < (n : Int) := by omega
    rcases asy with _ | _
    · go_upto_region 17 with fail
      have hst := (Below.refl wr.heap.size wr).alloc (Nat.le_refl _) (.cells #[.bool false, .int .u8 (aat.toNat : Int), .int .u8 (aby.toNat : Int)] 46)
      have hL0 := hL
      have A := Box.new wr [.bool false, .int .u8 (aat.toNat : Int), .int .u8 (aby.toNat : Int)] 46
      replace X := X.later hst
      replace bl := bl.later hst
      replace bf := bf.later hst
      replace bs := bs.later hst
      replace hD := dk_later hD hst
      replace hO := Lib.hid (hO.out.later hst)
      replace hA := acs_later hA hst
      replace hL := hL.later hst.size
      replace hB := hB.trans (hst.mono hB.size)
      clear hst a0 a1 a2 habz habL
      have e1 := hL0 ga (by simp)
      have e2 := hL0 sa (by simp)
      clear hL0
      generalize wr.alloc (.cells #[.bool false, .int .u8 (aat.toNat : Int), .int .u8 (aby.toNat : Int)] 46) = W at A X bl bf bs hD hO hA hL hB ⊢
      generalize wr.heap.size = aa at A e1 e2 ⊢
      have hw := hH.out.write (by have := hO.out.2.1; omega) ⟨false, aat, aby⟩
      have hiv : acI ⟨false, aat, aby⟩ = aat.toNat % 4 := rfl
      have hIN := Lib.hid hw.2
      have hat : aat.toNat < 256 := aat.toNat_lt
      have hwi : IntKind.i64.wrap ((aat.toNat : Int).tmod 4) = ((acI ⟨false, aat, aby⟩ : Nat) : Int) := by
        rw [hiv, show ((aat.toNat : Int).tmod 4) = ((aat.toNat % 4 : Nat) : Int) from rfl, IntWalk.i64_in _ (by omega)]
      have hww := hw.1
      rw [← hwi] at hww
      have hnwl : wt.length = nw := hO.out.2.1
      obtain ⟨K1, K2, K3⟩ := (wrC hD hdi hL hww (ns := 4) hH.out.four (np' := nw + 1) (by show (d.pending ++ [acD ⟨false, aat, aby⟩]).length = nw + 1; rw [List.length_append, hH.out.pend, List.length_map, hnwl]; rfl) (l' := (rm : Int)) hH.out.left (s' := false) hH.out.run)
      have HK1 := Lib.hid K1
      have HK2 := Lib.hid K2
      have HK3 := Lib.hid K3
      clear K1 K2 K3
      have HDB := Lib.hid (dbC W aby)
      have hXl := X.lt
      have hAl := A.lt
      have hSS : Hid (∀ E, Below W.heap.size W E → E.cell? ⟨Xa, 0, none⟩ = some (.slice Az 4 cz) ∧ E.cell? ⟨Xa, 1, none⟩ = some (.slice Pz nw qz) ∧ E.cell? ⟨Xa, 2, none⟩ = some (.int .i64 (rm : Int)) ∧ E.cell? ⟨Xa, 3, none⟩ = some (.bool false) ∧ E.cell? ⟨aa, 1, none⟩ = some (.int .u8 (aat.toNat : Int)) ∧ E.cell? ⟨aa, 2, none⟩ = some (.int .u8 (aby.toNat : Int))) := Lib.hid fun E h => ⟨(h.cell (p := ⟨Xa, 0, none⟩) hXl).trans (X.cell 0), (h.cell (p := ⟨Xa, 1, none⟩) hXl).trans (X.cell 1), (h.cell (p := ⟨Xa, 2, none⟩) hXl).trans (X.cell 2), (h.cell (p := ⟨Xa, 3, none⟩) hXl).trans (X.cell 3), (h.cell (p := ⟨aa, 1, none⟩) hAl).trans (A.cell 1), (h.cell (p := ⟨aa, 2, none⟩) hAl).trans (A.cell 2)⟩
      clear hw hwi hww hnwl hiv
      go_cut [15, 16] from 46 to 157 (fun s15 s16 wx => s16 = .int .i64 0 ∧ ∃ (za : Nat) (A1 : Option Addr) (c1 : Nat) (P1 : Option Addr) (q1 : Nat), s15 = .pointer (some ⟨za, 0, none⟩) ∧ Box wx za [.slice A1 4 c1, .slice P1 (nw + 1) q1, .int .i64 (rm : Int), .bool false] ∧ Hid (DkAt wx (Out [ga, sa, fa, la, Xa]) (.slice A1 4 c1) (.slice P1 (nw + 1) q1) ⟨d.sectors, d.pending ++ [acD ⟨false, aat, aby⟩], d.left, d.stopped⟩) ∧ W.heap.size ≤ za ∧ Below W.heap.size W wx)
      case first =>
        have s0 := hSS.out W (Below.refl _ _)
        go_region_held3 (fun w' => w'.cell? ⟨Xa, 0, none⟩ = some (.slice Az 4 cz) ∧ w'.cell? ⟨Xa, 1, none⟩ = some (.slice Pz nw qz) ∧ w'.cell? ⟨Xa, 2, none⟩ = some (.int .i64 (rm : Int)) ∧ w'.cell? ⟨Xa, 3, none⟩ = some (.bool false) ∧ w'.cell? ⟨aa, 1, none⟩ = some (.int .u8 (aat.toNat : Int)) ∧ w'.cell? ⟨aa, 2, none⟩ = some (.int .u8 (aby.toNat : Int))) ((refine hSS.out _ ?_; repeat (first | with_reducible assumption | ((with_reducible refine Below.setCell ?_ ?_ _); rotate_left; first | exact Nat.le_refl _ | assumption | (simp <;> omega)) | ((with_reducible refine Below.alloc ?_ ?_ _); rotate_left; first | exact Nat.le_refl _ | assumption | (simp <;> omega)) | with_reducible exact Below.refl _ _ | with_reducible refine Below.drew ?_))) (first | (go_at_call 27; first | ((refine (HDB.out.1 _ ?_ ?_).mono ?_); (focus (simp; done)); exact (Below.refl W.heap.size W).drew; rintro e wd ⟨g, rfl, hbs, hbd, hWd⟩; have hWds := hWd.size) | ((refine (HDB.out.2 _ ?_ ?_).mono ?_); (focus (simp; done)); exact ((Below.refl W.heap.size W).alloc (Nat.le_refl _) _).drew; rintro e wd ⟨g, rfl, hbs, hbd, hWd⟩; have hWds := hWd.size; have Zb := (Box.new W [.slice none 0 0, .slice none 0 0, .int .i64 0, .bool false] 25).drew.later hbd)) | (go_at_call 19; first | ((with_reducible refine (HK2.out wd _ hWd Zb.lt hbs).mono ?_); rintro e wz ⟨A1, c1, P1, q1, rfl, Dz, hbW, hbz⟩; have hWs := hbW.size; have Z := Zb.later hbz; obtain ⟨z0, z1, z2, z3, z4, z5, z6, z7, z8⟩ := box_facts Z) | ((with_reducible refine (HK3.out wd _ hWd hbs).mono ?_); rintro e wz ⟨A1, c1, P1, q1, rfl, Dz, hbW, hbz⟩; have hWs := hbW.size; have Z := (Box.new wd [.slice none 0 0, .slice none 0 0, .int .i64 0, .bool false] 25).later hbz; obtain ⟨z0, z1, z2, z3, z4, z5, z6, z7, z8⟩ := box_facts Z) | ((with_reducible refine (HK1.out wd _ hWd hbs).mono ?_); rintro e wz ⟨A1, c1, P1, q1, rfl, Dz, hbW, hbz⟩; have hWs := hbW.size)))
        all_goals (go_wp2_with fail; go_meet)
        all_goals
          first
          | exact ⟨rfl, _, A1, c1, P1, q1, rfl, Box.new wz [.slice A1 4 c1, .slice P1 (nw + 1) q1, .int .i64 (rm : Int), .bool false] 25, dk_later Dz ((Below.refl _ _).alloc (Nat.le_refl _) _), hbW.size, hbW.alloc hbW.size _⟩
          | exact ⟨rfl, _, A1, c1, P1, q1, rfl, Z.put4 (.slice A1 4 c1) (.slice P1 (nw + 1) q1) (.int .i64 (rm : Int)) (.bool false), dk_less (dk_put4 (by simp) Dz (.slice A1 4 c1) (.slice P1 (nw + 1) q1) (.int .i64 (rm : Int)) (.bool false)), by omega, below_put4 hbW (by omega) (.slice A1 4 c1) (.slice P1 (nw + 1) q1) (.int .i64 (rm : Int)) (.bool false)⟩
      case rest =>
        obtain ⟨rfl, za, A1, c1, P1, q1, rfl, Z, Dz, hza, hb⟩ := hcut
        replace X := X.later hb
        replace bl := bl.later hb
        replace bf := bf.later hb
        replace bs := bs.later hb
        replace A := A.later hb
        replace hO := Lib.hid (hO.out.later hb)
        replace hA := acs_later hA hb
        replace hL := hL.later hb.size
        replace hB := hB.trans (hb.mono hB.size)
        clear hb hD HK1 HK2 HK3 HDB hSS hXl hAl hza
        have m4 : aat.toNat % 4 < 4 := Nat.mod_lt _ (by decide)
        have s2 : ((put4 wc Xa (.slice A1 4 c1) (.slice P1 (nw + 1) q1) (.int .i64 (rm : Int)) (.bool false)).setCell ⟨la, aat.toNat % 4, none⟩ (.int .u8 (aby.toNat : Int))).heap.size = wc.heap.size := by simp
        have ha3 := (Below.refl ((put4 wc Xa (.slice A1 4 c1) (.slice P1 (nw + 1) q1) (.int .i64 (rm : Int)) (.bool false)).setCell ⟨la, aat.toNat % 4, none⟩ (.int .u8 (aby.toNat : Int))).heap.size ((put4 wc Xa (.slice A1 4 c1) (.slice P1 (nw + 1) q1) (.int .i64 (rm : Int)) (.bool false)).setCell ⟨la, aat.toNat % 4, none⟩ (.int .u8 (aby.toNat : Int)))).alloc (Nat.le_refl _) (.cells #[.bool false, .int .u8 (aat.toNat : Int), .int .u8 (aby.toNat : Int)] 46)
        have X3 := ((X.put4 (.slice A1 4 c1) (.slice P1 (nw + 1) q1) (.int .i64 (rm : Int)) (.bool false)).other (a := ⟨la, aat.toNat % 4, none⟩) (by show Xa ≠ la; omega) (.int .u8 (aby.toNat : Int))).later ha3
        have f3 := ((box_past bf (by omega : fa ≠ Xa) (.slice A1 4 c1) (.slice P1 (nw + 1) q1) (.int .i64 (rm : Int)) (.bool false)).other (a := ⟨la, aat.toNat % 4, none⟩) (by show fa ≠ la; omega) (.int .u8 (aby.toNat : Int))).later ha3
        have s3 := ((box_past bs (by omega : sa ≠ Xa) (.slice A1 4 c1) (.slice P1 (nw + 1) q1) (.int .i64 (rm : Int)) (.bool false)).other (a := ⟨la, aat.toNat % 4, none⟩) (by show sa ≠ la; omega) (.int .u8 (aby.toNat : Int))).later ha3
        have l3 := ((box_past bl (by omega : la ≠ Xa) (.slice A1 4 c1) (.slice P1 (nw + 1) q1) (.int .i64 (rm : Int)) (.bool false)).set (aat.toNat % 4) (.int .u8 (aby.toNat : Int))).later ha3
        rw [arrC_set F m4] at l3
        have D3 := dk_later (dk_set (a := la) (by simp) (dk_put4 (b := Xa) (by simp) Dz (.slice A1 4 c1) (.slice P1 (nw + 1) q1) (.int .i64 (rm : Int)) (.bool false)) (aat.toNat % 4) (.int .u8 (aby.toNat : Int))) ha3
        have A3 := acs_later (acs_set (a := la) (by simp) (acs_put4 (b := Xa) (by simp) hA (.slice A1 4 c1) (.slice P1 (nw + 1) q1) (.int .i64 (rm : Int)) (.bool false)) (aat.toNat % 4) (.int .u8 (aby.toNat : Int))) ha3
        have O3 := (((((hO.out.set (a := ⟨Xa, 0, none⟩) (by show ga ≠ Xa; omega) (.slice A1 4 c1)).set (a := ⟨Xa, 1, none⟩) (by show ga ≠ Xa; omega) (.slice P1 (nw + 1) q1)).set (a := ⟨Xa, 2, none⟩) (by show ga ≠ Xa; omega) (.int .i64 (rm : Int))).set (a := ⟨Xa, 3, none⟩) (by show ga ≠ Xa; omega) (.bool false)).set (a := ⟨la, aat.toNat % 4, none⟩) (by show ga ≠ la; omega) (.int .u8 (aby.toNat : Int))).later ha3
        have L3 : InW [ga, sa, fa, la, Xa] (((put4 wc Xa (.slice A1 4 c1) (.slice P1 (nw + 1) q1) (.int .i64 (rm : Int)) (.bool false)).setCell ⟨la, aat.toNat % 4, none⟩ (.int .u8 (aby.toNat : Int))).alloc (.cells #[.bool false, .int .u8 (aat.toNat : Int), .int .u8 (aby.toNat : Int)] 46)) := hL.later (by simp)
        have B3 := (((below_put4 hB hwX (.slice A1 4 c1) (.slice P1 (nw + 1) q1) (.int .i64 (rm : Int)) (.bool false)).setCell (p := ⟨la, aat.toNat % 4, none⟩) hwl (.int .u8 (aby.toNat : Int))).alloc (by have := hB.size; rw [s2]; exact this) (.cells #[.bool false, .int .u8 (aat.toNat : Int), .int .u8 (aby.toNat : Int)] 46))
        have hgB : B ≤ (((put4 wc Xa (.slice A1 4 c1) (.slice P1 (nw + 1) q1) (.int .i64 (rm : Int)) (.bool false)).setCell ⟨la, aat.toNat % 4, none⟩ (.int .u8 (aby.toNat : Int))).alloc (.cells #[.bool false, .int .u8 (aat.toNat : Int), .int .u8 (aby.toNat : Int)] 46)).heap.size := by have := hL ga (by simp); simp; omega
        obtain ⟨g', c', W4, happ, O4, hg4, hl4⟩ := app_ac (x := ⟨false, aat, aby⟩) O3 (Box.newAt (w := ((put4 wc Xa (.slice A1 4 c1) (.slice P1 (nw + 1) q1) (.int .i64 (rm : Int)) (.bool false)).setCell ⟨la, aat.toNat % 4, none⟩ (.int .u8 (aby.toNat : Int)))) (n := wc.heap.size) [.bool false, .int .u8 (aat.toNat : Int), .int .u8 (aby.toNat : Int)] 46 s2.symm) (by omega) hgB
        have X4 := box_move X3 hg4 (by omega)
        have l4 := box_move l3 hg4 (by omega)
        have f4 := box_move f3 hg4 (by omega)
        have s4 := box_move s3 hg4 (by omega)
        have D4 := dk_move D3 hg4 hl4
        have A4 := acs_move A3 hg4 hl4
        have L4 : InW [g', sa, fa, la, Xa] W4 := fun a ha => by
          rcases List.mem_cons.1 ha with rfl | ha
          · exact O4.2.2.2
          · exact Nat.lt_of_lt_of_le (L3 a (List.mem_cons_of_mem _ ha)) hg4.size
        have hgw : w.heap.size ≤ ga := by omega
        have B4 := B3.grown hg4 B3.size (fun k hk => by injection hk with hk; rw [← hk]; exact hgw)
        have O4 := Lib.hid O4
        clear X3 l3 f3 s3 D3 A3 O3 L3 B3 ha3 s2 hL hB hA hO Dz hgB hg4 hl4
        dsimp only [put4] at happ
        obtain ⟨z0, z1, z2, z3, z4, z5, z6, z7, z8⟩ := box_facts Z
        obtain ⟨x0, x1, x2, x3, x4, x5, x6, x7, x8⟩ := box_facts X
        have q0' : wc.cell? ⟨aa, 0, none⟩ = some (.bool false) := A.cell 0
        have q1' : wc.cell? ⟨aa, 1, none⟩ = some (.int .u8 (aat.toNat : Int)) := A.cell 1
        have q2' : wc.cell? ⟨aa, 2, none⟩ = some (.int .u8 (aby.toNat : Int)) := A.cell 2
        have q8' := A.lt
        have l0 : wc.cell? ⟨la, aat.toNat % 4, none⟩ = some (.int .u8 ((F (aat.toNat % 4)).toNat : Int)) := (bl.cell _).trans (arrC_get F m4)
        have l1 : wc.frozen? ⟨la, aat.toNat % 4, none⟩ = false := bl.free _
        have l8 := bl.lt
        have n1 : aa ≠ Xa := by omega
        have n2 : aa ≠ la := by omega
        have n3 : la ≠ Xa := by omega
        obtain ⟨x0', x1', x2', x3', _, _, _, _, x8'⟩ := box_facts X4
        have m0 : W4.cell? ⟨la, 0, none⟩ = some (.int .u8 ((upd F (aat.toNat % 4) aby 0).toNat : Int)) := l4.cell 0
        have m1 : W4.cell? ⟨la, 1, none⟩ = some (.int .u8 ((upd F (aat.toNat % 4) aby 1).toNat : Int)) := l4.cell 1
        have m2 : W4.cell? ⟨la, 2, none⟩ = some (.int .u8 ((upd F (aat.toNat % 4) aby 2).toNat : Int)) := l4.cell 2
        have m3 : W4.cell? ⟨la, 3, none⟩ = some (.int .u8 ((upd F (aat.toNat % 4) aby 3).toNat : Int)) := l4.cell 3
        have m8 := l4.lt
        have HR : Hid (∀ k : Nat, k < 4 → ∃ b, readT (⟨d.sectors, d.pending ++ [acD ⟨false, aat, aby⟩], d.left, d.stopped⟩ : Dk) k = (b, 0) ∧ secH b (upd F (aat.toNat % 4) aby k) (upd F (aat.toNat % 4) aby k)) := Lib.hid hIN.out.read
        go_wp2_with fail
        clear happ z0 z1 z2 z3 z4 z5 z6 z7 z8 x0 x1 x2 x3 x4 x5 x6 x7 x8 q0' q1' q2' q8' l0 l1 l8 X A bl bf bs Z
        refine (hHolds_yes ⟨d.sectors, d.pending ++ [acD ⟨false, aat, aby⟩], d.left, d.stopped⟩ _ _ _ _ [g', sa, fa, la, Xa] _ (upd F (aat.toNat % 4) aby) (upd F (aat.toNat % 4) aby) D4 (Lib.hid ⟨hH.out.left, hH.out.run⟩) L4 HR).mono ?_
        rintro e w8 ⟨rfl, hb⟩
        clear x0' x1' x2' x3' x8' m0 m1 m2 m3 m8
        go_wp2_with fail
        exact ⟨⟨k + 1, _, rm, _, G, _, nw + 1, g', c', A1, c1, P1, q1, hlt, by omega, by go_num, rfl, rfl, hIN, hr, X4.later hb, dk_later D4 hb, l4.later hb, f4.later hb, s4.later hb, Lib.hid (O4.out.later hb), acs_later A4 hb, L4.later hb.size, B4.trans (hb.mono B4.size)⟩, by simp [intOf]; omega⟩
    · have hst := (Below.refl wr.heap.size wr).alloc (Nat.le_refl _) (.cells #[.bool true, .int .u8 (aat.toNat : Int), .int .u8 (aby.toNat : Int)] 46)
      have hx0 := X.cell 0
      obtain ⟨x0, x1, x2, x3, _, _, _, _, x8⟩ := box_facts X
      have e1 := hL ga (by simp)
      go_wp2_with fail
      clear x0 x1 x2 x3 x8 hx0
      replace X := X.later hst
      replace bl := bl.later hst
      replace bf := bf.later hst
      replace bs := bs.later hst
      replace hD := dk_later hD hst
      replace hO := Lib.hid (hO.out.later hst)
      replace hA := acs_later hA hst
      replace hL := hL.later hst.size
      replace hB := hB.trans (hst.mono hB.size)
      clear hst a0 a1 a2 habz habL e1
      generalize wr.alloc (.cells #[.bool true, .int .u8 (aat.toNat : Int), .int .u8 (aby.toNat : Int)] 46) = W at X bl bf bs hD hO hA hL hB ⊢
      have hnwl : wt.length = nw := hO.out.2.1
      rcases Nat.lt_or_ge rm nw with hst | hst
      · obtain ⟨t1, t2, t3⟩ := hH.out.stop (by omega)
        have HT := Lib.hid t1
        have H1 : Hid ((⟨tornS d, [], 0, true⟩ : Dk).sectors.length = 4) := Lib.hid t2
        have H2 : Hid ((⟨tornS d, [], 0, true⟩ : Dk).pending.length = 0) := Lib.hid rfl
        have H3 : Hid ((⟨tornS d, [], 0, true⟩ : Dk).left = 0) := Lib.hid rfl
        have H4 : Hid ((⟨tornS d, [], 0, true⟩ : Dk).stopped = true) := Lib.hid rfl
        have HR := Lib.hid t3
        clear t1 t2 t3 hnwl
        have hdec : (rm : Int) < (nw : Int) := by omega
        refine (dSync_at hD hdi).mono ?_
        rintro e wy hh
        obtain ⟨A1, c1, P1, q1, rfl, hDx, hb⟩ := RetDk.is hh hL HT H1 H2 (dl := 0) H3 (ds := true) H4
        clear hh hD
        replace X := X.later hb
        replace bl := bl.later hb
        replace bf := bf.later hb
        replace bs := bs.later hb
        replace hO := Lib.hid (hO.out.later hb)
        replace hA := acs_later hA hb
        replace hL := hL.later hb.size
        replace hB := hB.trans (hb.mono hB.size)
        clear hb
        have Y := Box.new wy [.slice A1 4 c1, .slice P1 0 q1, .int .i64 0, .bool true] 25
        have hst := (Below.refl wy.heap.size wy).alloc (Nat.le_refl _) (.cells #[.slice A1 4 c1, .slice P1 0 q1, .int .i64 0, .bool true] 25)
        have hyX : Xa < wy.heap.size := X.lt
        have hyg := hL ga (by simp)
        have hys := hL sa (by simp)
        replace X := X.later hst
        replace bl := bl.later hst
        replace bf := bf.later hst
        replace bs := bs.later hst
        replace hDx := dk_later hDx hst
        replace hO := Lib.hid (hO.out.later hst)
        replace hA := acs_later hA hst
        replace hL := hL.later hst.size
        replace hB := hB.trans (hst.mono hB.size)
        clear hst
        go_wp2_with fail
        generalize wy.alloc (.cells #[.slice A1 4 c1, .slice P1 0 q1, .int .i64 0, .bool true] 25) = V1 at X bl bf bs Y hDx hO hA hL hB ⊢
        generalize wy.heap.size = ya at Y hyX hyg hys ⊢
        go_loopw [20] (fun i wr => ∃ j : Nat, j ≤ nw ∧ j ≤ rm + 1 ∧ i = .int .i64 j ∧ Box wr fa (arrC (foldA G (wt.take j))) ∧ Box wr sa (arrC (foldA G (wt.take (Nat.min j rm)))) ∧ Box wr Xa [.slice Az 4 cz, .slice Pz nw qz, .int .i64 (rm : Int), .bool false] ∧ Box wr la (arrC F) ∧ Box wr ya [.slice A1 4 c1, .slice P1 0 q1, .int .i64 0, .bool true] ∧ Hid (DkAt wr (Out [ga, sa, fa, la, Xa]) (.slice A1 4 c1) (.slice P1 0 q1) ⟨tornS d, [], 0, true⟩) ∧ Hid (OwnAc wr B ga nw c wt) ∧ Hid (AcsAt wr (Out [ga, sa, fa, la, Xa]) (.slice (some ⟨ab, ao, none⟩) n cv) sc) ∧ InW [ga, sa, fa, la, Xa] wr ∧ Below w.heap.size w wr) (fun i _ => nw - (intOf i).toNat)
        case atStart => exact ⟨0, Nat.zero_le _, Nat.zero_le _, rfl, bf, by rw [show Nat.min 0 rm = 0 from Nat.zero_min _]; exact bs, X, bl, Y, hDx, hO, hA, hL, hB⟩
        case round =>
          clear X bl bf bs Y hDx hO hA hL hB
          obtain ⟨j, hj1, hj2, rfl, bf, bs, X, bl, Y, hDx, hO, hA, hL, hB⟩ := hrel
          have hjn : (j : Int) ≤ 40 := by omega
          by_cases hgo : j < nw ∧ j ≤ rm
          · obtain ⟨hg1, hg2⟩ := hgo
            have hnwl : wt.length = nw := hO.out.2.1
            have hjl : j < wt.length := by omega
            obtain ⟨q0, q1c, q2c⟩ := hO.out.cell hjl
            have hft := foldA_take (F := G) hjl
            generalize hact : wt[j] = act at q0 q1c q2c hft
            obtain ⟨as2, at2, by2⟩ := act
            dsimp only at q0 q1c q2c
            have HQ := Lib.hid hact
            have m4 : at2.toNat % 4 < 4 := Nat.mod_lt _ (by decide)
            have hft2 : foldA G (wt.take (j + 1)) = upd (foldA G (wt.take j)) (at2.toNat % 4) by2 := hft
            have HF := Lib.hid hft2
            clear hft hft2 hnwl q0 hact
            have c1 : (j : Int) < (nw : Int) := by omega
            have c2 : (j : Int) ≤ (rm : Int) := by omega
            have g8 := hO.out.2.2.2
            have f0 : wr.cell? ⟨fa, at2.toNat % 4, none⟩ = some (.int .u8 ((foldA G (wt.take j) (at2.toNat % 4)).toNat : Int)) := (bf.cell _).trans (arrC_get _ m4)
            have f1 : wr.frozen? ⟨fa, at2.toNat % 4, none⟩ = false := bf.free _
            have f8 := bf.lt
            have n1 : ga ≠ fa := by omega
            have n2 : fa ≠ ga := by omega
            have n3 : (at2.toNat : Int).tmod 4 = ((at2.toNat % 4 : Nat) : Int) := rfl
            go_wp2_with fail
            go_region
            have hd1 : Below (wr.setCell ⟨fa, at2.toNat % 4, none⟩ (.int .u8 (by2.toNat : Int))).heap.size (wr.setCell ⟨fa, at2.toNat % 4, none⟩ (.int .u8 (by2.toNat : Int))) (wr.setCell ⟨fa, at2.toNat % 4, none⟩ (.int .u8 (by2.toNat : Int))).drew := (Below.refl _ _).drew
            clear f0 f1 f8
            replace bs := bs.other (a := ⟨fa, at2.toNat % 4, none⟩) (by show sa ≠ fa; omega) (.int .u8 (by2.toNat : Int))
            replace X := X.other (a := ⟨fa, at2.toNat % 4, none⟩) (by show Xa ≠ fa; omega) (.int .u8 (by2.toNat : Int))
            replace bl := bl.other (a := ⟨fa, at2.toNat % 4, none⟩) (by show la ≠ fa; omega) (.int .u8 (by2.toNat : Int))
            replace Y := Y.other (a := ⟨fa, at2.toNat % 4, none⟩) (by show ya ≠ fa; omega) (.int .u8 (by2.toNat : Int))
            replace bf := bf.set (at2.toNat % 4) (.int .u8 (by2.toNat : Int))
            rw [arrC_set _ m4] at bf
            replace hDx := dk_set (a := fa) (by simp) hDx (at2.toNat % 4) (.int .u8 (by2.toNat : Int))
            replace hA := acs_set (a := fa) (by simp) hA (at2.toNat % 4) (.int .u8 (by2.toNat : Int))
            replace hO := Lib.hid (hO.out.set (a := ⟨fa, at2.toNat % 4, none⟩) (by show ga ≠ fa; omega) (.int .u8 (by2.toNat : Int)))
            rw [← HF.out] at bf
            replace hL : InW [ga, sa, fa, la, Xa] (wr.setCell ⟨fa, at2.toNat % 4, none⟩ (.int .u8 (by2.toNat : Int))) := hL.later (by simp)
            replace hB := hB.setCell (p := ⟨fa, at2.toNat % 4, none⟩) hwf (.int .u8 (by2.toNat : Int))
            replace X := X.later hd1
            replace bl := bl.later hd1
            replace bf := bf.later hd1
            replace bs := bs.later hd1
            replace Y := Y.later hd1
            replace hDx := dk_later hDx hd1
            replace hO := Lib.hid (hO.out.later hd1)
            replace hA := acs_later hA hd1
            replace hL := hL.later hd1.size
            replace hB := hB.trans (hd1.mono hB.size)
            clear hd1
            generalize (wr.setCell ⟨fa, at2.toNat % 4, none⟩ (.int .u8 (by2.toNat : Int))).drew = V2 at X bl bf bs Y hDx hO hA hL hB ⊢
            have q1c : V2.cell? ⟨ga, j * 3 + 1, none⟩ = some (.int .u8 (at2.toNat : Int)) := by
              have := (hO.out.cell (k := j) (by have := hO.out.2.1; omega)).2.1
              rwa [HQ.out] at this
            have q2c : V2.cell? ⟨ga, j * 3 + 2, none⟩ = some (.int .u8 (by2.toNat : Int)) := by
              have := (hO.out.cell (k := j) (by have := hO.out.2.1; omega)).2.2
              rwa [HQ.out] at this
            have g8 := hO.out.2.2.2
            by_cases hjr : j < rm
            · have c3 : (j : Int) < (rm : Int) := by omega
              have em : Nat.min j rm = j := Nat.min_eq_left (by omega)
              have em2 : Nat.min (j + 1) rm = j + 1 := Nat.min_eq_left (by omega)
              rw [em] at bs
              have f0 : V2.cell? ⟨sa, at2.toNat % 4, none⟩ = some (.int .u8 ((foldA G (wt.take j) (at2.toNat % 4)).toNat : Int)) := (bs.cell _).trans (arrC_get _ m4)
              have f1 : V2.frozen? ⟨sa, at2.toNat % 4, none⟩ = false := bs.free _
              have f8 := bs.lt
              have n1 : ga ≠ sa := by omega
              have n2 : sa ≠ ga := by omega
              clear em
              have HM := Lib.hid em2
              clear em2
              go_wp2_with fail
              go_region
              have hd1 : Below (V2.setCell ⟨sa, at2.toNat % 4, none⟩ (.int .u8 (by2.toNat : Int))).heap.size (V2.setCell ⟨sa, at2.toNat % 4, none⟩ (.int .u8 (by2.toNat : Int))) (V2.setCell ⟨sa, at2.toNat % 4, none⟩ (.int .u8 (by2.toNat : Int))).drew := (Below.refl _ _).drew
              clear f0 f1 f8
              replace bf := bf.other (a := ⟨sa, at2.toNat % 4, none⟩) (by show fa ≠ sa; omega) (.int .u8 (by2.toNat : Int))
              replace X := X.other (a := ⟨sa, at2.toNat % 4, none⟩) (by show Xa ≠ sa; omega) (.int .u8 (by2.toNat : Int))
              replace bl := bl.other (a := ⟨sa, at2.toNat % 4, none⟩) (by show la ≠ sa; omega) (.int .u8 (by2.toNat : Int))
              replace Y := Y.other (a := ⟨sa, at2.toNat % 4, none⟩) (by show ya ≠ sa; omega) (.int .u8 (by2.toNat : Int))
              replace bs := bs.set (at2.toNat % 4) (.int .u8 (by2.toNat : Int))
              rw [arrC_set _ m4] at bs
              replace hDx := dk_set (a := sa) (by simp) hDx (at2.toNat % 4) (.int .u8 (by2.toNat : Int))
              replace hA := acs_set (a := sa) (by simp) hA (at2.toNat % 4) (.int .u8 (by2.toNat : Int))
              replace hO := Lib.hid (hO.out.set (a := ⟨sa, at2.toNat % 4, none⟩) (by show ga ≠ sa; omega) (.int .u8 (by2.toNat : Int)))
              rw [← HF.out] at bs
              replace hL : InW [ga, sa, fa, la, Xa] (V2.setCell ⟨sa, at2.toNat % 4, none⟩ (.int .u8 (by2.toNat : Int))) := hL.later (by simp)
              replace hB := hB.setCell (p := ⟨sa, at2.toNat % 4, none⟩) hws (.int .u8 (by2.toNat : Int))
              replace X := X.later hd1
              replace bl := bl.later hd1
              replace bf := bf.later hd1
              replace bs := bs.later hd1
              replace Y := Y.later hd1
              replace hDx := dk_later hDx hd1
              replace hO := Lib.hid (hO.out.later hd1)
              replace hA := acs_later hA hd1
              replace hL := hL.later hd1.size
              replace hB := hB.trans (hd1.mono hB.size)
              clear hd1 q1c q2c
              generalize (V2.setCell ⟨sa, at2.toNat % 4, none⟩ (.int .u8 (by2.toNat : Int))).drew = V3 at X bl bf bs Y hDx hO hA hL hB ⊢
              go_wp2_with fail
              exact ⟨⟨j + 1, by omega, by omega, by go_num, bf, by rw [HM.out]; exact bs, X, bl, Y, hDx, hO, hA, hL, hB⟩, by simp [intOf]; omega⟩
            · obtain rfl : j = rm := by omega
              have c3 : ¬ (j : Int) < (j : Int) := by omega
              clear q1c q2c
              rw [show Nat.min j j = j from Nat.min_self j] at bs
              go_wp2_with fail
              exact ⟨⟨j + 1, by omega, by omega, by go_num, bf, by rw [show Nat.min (j + 1) j = j from Nat.min_eq_right (by omega)]; exact bs, X, bl, Y, hDx, hO, hA, hL, hB⟩, by simp [intOf]; omega⟩
          · have hlist : wt.take j = wt.take (rm + 1) ∧ wt.take (Nat.min j rm) = wt.take rm := by
              have hnwl : wt.length = nw := hO.out.2.1
              have : j = rm + 1 := by omega
              subst this
              exact ⟨rfl, by rw [show Nat.min (rm + 1) rm = rm from Nat.min_eq_right (by omega)]⟩
            rw [hlist.1] at bf
            rw [hlist.2] at bs
            clear hlist
            have hj : j = rm + 1 := by omega
            have HJ := Lib.hid hj
            clear hj
            by_cases hjw : j < nw
            all_goals
              have hjr : (rm : Int) < (j : Int) := by have := HJ.out; omega
              have hb1 : decide ((j : Int) ≤ (rm : Int)) = false := decide_eq_false (by omega)
              first
              | have hb2 : decide ((j : Int) < (nw : Int)) = true := decide_eq_true (by omega)
              | have hb2 : decide ((j : Int) < (nw : Int)) = false := decide_eq_false (by omega)
              go_wp2_with fail
              have lq0 : ∀ zz : Later wr, zz.w.cell? ⟨ya, 0, none⟩ = some (.slice A1 4 c1) := Later.cell (Y.cell 0) Y.lt
              have lq1 : ∀ zz : Later wr, zz.w.cell? ⟨ya, 1, none⟩ = some (.slice P1 0 q1) := Later.cell (Y.cell 1) Y.lt
              have lq2 : ∀ zz : Later wr, zz.w.cell? ⟨ya, 2, none⟩ = some (.int .i64 0) := Later.cell (Y.cell 2) Y.lt
              have lq3 : ∀ zz : Later wr, zz.w.cell? ⟨ya, 3, none⟩ = some (.bool true) := Later.cell (Y.cell 3) Y.lt
              have lq4 : ∀ zz : Later wr, zz.w.cell? ⟨fa, 0, none⟩ = some (.int .u8 ((foldA G (wt.take (rm + 1)) 0).toNat : Int)) := Later.cell (bf.cell 0) bf.lt
              have lq5 : ∀ zz : Later wr, zz.w.cell? ⟨fa, 1, none⟩ = some (.int .u8 ((foldA G (wt.take (rm + 1)) 1).toNat : Int)) := Later.cell (bf.cell 1) bf.lt
              have lq6 : ∀ zz : Later wr, zz.w.cell? ⟨fa, 2, none⟩ = some (.int .u8 ((foldA G (wt.take (rm + 1)) 2).toNat : Int)) := Later.cell (bf.cell 2) bf.lt
              have lq7 : ∀ zz : Later wr, zz.w.cell? ⟨fa, 3, none⟩ = some (.int .u8 ((foldA G (wt.take (rm + 1)) 3).toNat : Int)) := Later.cell (bf.cell 3) bf.lt
              have lq8 : ∀ zz : Later wr, zz.w.cell? ⟨sa, 0, none⟩ = some (.int .u8 ((foldA G (wt.take rm) 0).toNat : Int)) := Later.cell (bs.cell 0) bs.lt
              have lq9 : ∀ zz : Later wr, zz.w.cell? ⟨sa, 1, none⟩ = some (.int .u8 ((foldA G (wt.take rm) 1).toNat : Int)) := Later.cell (bs.cell 1) bs.lt
              have lq10 : ∀ zz : Later wr, zz.w.cell? ⟨sa, 2, none⟩ = some (.int .u8 ((foldA G (wt.take rm) 2).toNat : Int)) := Later.cell (bs.cell 2) bs.lt
              have lq11 : ∀ zz : Later wr, zz.w.cell? ⟨sa, 3, none⟩ = some (.int .u8 ((foldA G (wt.take rm) 3).toNat : Int)) := Later.cell (bs.cell 3) bs.lt
              refine wp_region_later (by kernel_rfl) (by kernel_rfl) ?_
              repeat (go_big_quiet_step ((first | (go_at_call 17; with_reducible exact Later.call _ (dRestart_eq _ _ _ _ _ _ _)) | (go_at_call 28; with_reducible exact Later.call _ (hHolds_yes ⟨tornS d, [], -1, false⟩ _ _ _ _ [ga, sa, fa, la, Xa] _ (foldA G (wt.take (rm + 1))) (foldA G (wt.take rm)) (restart_at (dk_later hDx (Later.below _))) (Lib.hid ⟨rfl, rfl⟩) (hL.later (Later.below _).size) HR)))))
              refine wpQuiet_nil ?_
              intro _ hw'
              obtain ⟨yq, hw''⟩ := hw'
              subst hw''
              clear lq0 lq1 lq2 lq3 lq4 lq5 lq6 lq7 lq8 lq9 lq10 lq11
              obtain ⟨wz, hz, hb⟩ : ∃ z, yq.w = z ∧ Below wr.heap.size wr z := ⟨_, rfl, yq.below⟩
              rw [hz]
              clear hz
              replace hB := hB.trans (hb.mono hB.size)
              go_wp2
              go_ret
              exact ⟨rfl, hB⟩
      · obtain ⟨x, t1, t2, t3⟩ := hH.out.sync (by omega)
        have HT := Lib.hid t1
        have HX := Lib.hid t3
        rw [hnwl] at HX
        have H1 : Hid (x.sectors.length = 4) := Lib.hid t3.four
        have H2 : Hid (x.pending.length = 0) := Lib.hid (by rw [t2]; rfl)
        have H3 : Hid (x.left = ((rm - nw : Nat) : Int)) := Lib.hid HX.out.left
        have H4 : Hid (x.stopped = false) := Lib.hid t3.run
        clear t1 t2 t3 hnwl
        have hdec : ¬ (rm : Int) < (nw : Int) := by omega
        refine (dSync_at hD hdi).mono ?_
        rintro e wy hh
        obtain ⟨A1, c1, P1, q1, rfl, hDx, hb⟩ := RetDk.is hh hL HT H1 H2 (dl := ((rm - nw : Nat) : Int)) H3 (ds := false) H4
        clear hh hD
        replace X := X.later hb
        replace bl := bl.later hb
        replace bf := bf.later hb
        replace bs := bs.later hb
        replace hO := Lib.hid (hO.out.later hb)
        replace hA := acs_later hA hb
        replace hL := hL.later hb.size
        replace hB := hB.trans (hb.mono hB.size)
        clear hb
        have Y := Box.new wy [.slice A1 4 c1, .slice P1 0 q1, .int .i64 ((rm - nw : Nat) : Int), .bool false] 25
        have hst := (Below.refl wy.heap.size wy).alloc (Nat.le_refl _) (.cells #[.slice A1 4 c1, .slice P1 0 q1, .int .i64 ((rm - nw : Nat) : Int), .bool false] 25)
        have hyX : Xa < wy.heap.size := X.lt
        have hyg := hL ga (by simp)
        have hys := hL sa (by simp)
        replace X := X.later hst
        replace bl := bl.later hst
        replace bf := bf.later hst
        replace bs := bs.later hst
        replace hDx := dk_later hDx hst
        replace hO := Lib.hid (hO.out.later hst)
        replace hA := acs_later hA hst
        replace hL := hL.later hst.size
        replace hB := hB.trans (hst.mono hB.size)
        clear hst
        go_wp2_with fail
        generalize wy.alloc (.cells #[.slice A1 4 c1, .slice P1 0 q1, .int .i64 ((rm - nw : Nat) : Int), .bool false] 25) = V1 at X bl bf bs Y hDx hO hA hL hB ⊢
        generalize wy.heap.size = ya at Y hyX hyg hys ⊢
        go_loopw [20] (fun i wr => ∃ j : Nat, j ≤ nw ∧ j ≤ rm + 1 ∧ i = .int .i64 j ∧ Box wr fa (arrC (foldA G (wt.take j))) ∧ Box wr sa (arrC (foldA G (wt.take (Nat.min j rm)))) ∧ Box wr Xa [.slice Az 4 cz, .slice Pz nw qz, .int .i64 (rm : Int), .bool false] ∧ Box wr la (arrC F) ∧ Box wr ya [.slice A1 4 c1, .slice P1 0 q1, .int .i64 ((rm - nw : Nat) : Int), .bool false] ∧ Hid (DkAt wr (Out [ga, sa, fa, la, Xa]) (.slice A1 4 c1) (.slice P1 0 q1) x) ∧ Hid (OwnAc wr B ga nw c wt) ∧ Hid (AcsAt wr (Out [ga, sa, fa, la, Xa]) (.slice (some ⟨ab, ao, none⟩) n cv) sc) ∧ InW [ga, sa, fa, la, Xa] wr ∧ Below w.heap.size w wr) (fun i _ => nw - (intOf i).toNat)
        case atStart => exact ⟨0, Nat.zero_le _, Nat.zero_le _, rfl, bf, by rw [show Nat.min 0 rm = 0 from Nat.zero_min _]; exact bs, X, bl, Y, hDx, hO, hA, hL, hB⟩
        case round =>
          clear X bl bf bs Y hDx hO hA hL hB
          obtain ⟨j, hj1, hj2, rfl, bf, bs, X, bl, Y, hDx, hO, hA, hL, hB⟩ := hrel
          have hjn : (j : Int) ≤ 40 := by omega
          by_cases hgo : j < nw ∧ j ≤ rm
          · obtain ⟨hg1, hg2⟩ := hgo
            have hnwl : wt.length = nw := hO.out.2.1
            have hjl : j < wt.length := by omega
            obtain ⟨q0, q1c, q2c⟩ := hO.out.cell hjl
            have hft := foldA_take (F := G) hjl
            generalize hact : wt[j] = act at q0 q1c q2c hft
            obtain ⟨as2, at2, by2⟩ := act
            dsimp only at q0 q1c q2c
            have HQ := Lib.hid hact
            have m4 : at2.toNat % 4 < 4 := Nat.mod_lt _ (by decide)
            have hft2 : foldA G (wt.take (j + 1)) = upd (foldA G (wt.take j)) (at2.toNat % 4) by2 := hft
            have HF := Lib.hid hft2
            clear hft hft2 hnwl q0 hact
            have c1 : (j : Int) < (nw : Int) := by omega
            have c2 : (j : Int) ≤ (rm : Int) := by omega
            have g8 := hO.out.2.2.2
            have f0 : wr.cell? ⟨fa, at2.toNat % 4, none⟩ = some (.int .u8 ((foldA G (wt.take j) (at2.toNat % 4)).toNat : Int)) := (bf.cell _).trans (arrC_get _ m4)
            have f1 : wr.frozen? ⟨fa, at2.toNat % 4, none⟩ = false := bf.free _
            have f8 := bf.lt
            have n1 : ga ≠ fa := by omega
            have n2 : fa ≠ ga := by omega
            have n3 : (at2.toNat : Int).tmod 4 = ((at2.toNat % 4 : Nat) : Int) := rfl
            go_wp2_with fail
            go_region
            have hd1 : Below (wr.setCell ⟨fa, at2.toNat % 4, none⟩ (.int .u8 (by2.toNat : Int))).heap.size (wr.setCell ⟨fa, at2.toNat % 4, none⟩ (.int .u8 (by2.toNat : Int))) (wr.setCell ⟨fa, at2.toNat % 4, none⟩ (.int .u8 (by2.toNat : Int))).drew := (Below.refl _ _).drew
            clear f0 f1 f8
            replace bs := bs.other (a := ⟨fa, at2.toNat % 4, none⟩) (by show sa ≠ fa; omega) (.int .u8 (by2.toNat : Int))
            replace X := X.other (a := ⟨fa, at2.toNat % 4, none⟩) (by show Xa ≠ fa; omega) (.int .u8 (by2.toNat : Int))
            replace bl := bl.other (a := ⟨fa, at2.toNat % 4, none⟩) (by show la ≠ fa; omega) (.int .u8 (by2.toNat : Int))
            replace Y := Y.other (a := ⟨fa, at2.toNat % 4, none⟩) (by show ya ≠ fa; omega) (.int .u8 (by2.toNat : Int))
            replace bf := bf.set (at2.toNat % 4) (.int .u8 (by2.toNat : Int))
            rw [arrC_set _ m4] at bf
            replace hDx := dk_set (a := fa) (by simp) hDx (at2.toNat % 4) (.int .u8 (by2.toNat : Int))
            replace hA := acs_set (a := fa) (by simp) hA (at2.toNat % 4) (.int .u8 (by2.toNat : Int))
            replace hO := Lib.hid (hO.out.set (a := ⟨fa, at2.toNat % 4, none⟩) (by show ga ≠ fa; omega) (.int .u8 (by2.toNat : Int)))
            rw [← HF.out] at bf
            replace hL : InW [ga, sa, fa, la, Xa] (wr.setCell ⟨fa, at2.toNat % 4, none⟩ (.int .u8 (by2.toNat : Int))) := hL.later (by simp)
            replace hB := hB.setCell (p := ⟨fa, at2.toNat % 4, none⟩) hwf (.int .u8 (by2.toNat : Int))
            replace X := X.later hd1
            replace bl := bl.later hd1
            replace bf := bf.later hd1
            replace bs := bs.later hd1
            replace Y := Y.later hd1
            replace hDx := dk_later hDx hd1
            replace hO := Lib.hid (hO.out.later hd1)
            replace hA := acs_later hA hd1
            replace hL := hL.later hd1.size
            replace hB := hB.trans (hd1.mono hB.size)
            clear hd1
            generalize (wr.setCell ⟨fa, at2.toNat % 4, none⟩ (.int .u8 (by2.toNat : Int))).drew = V2 at X bl bf bs Y hDx hO hA hL hB ⊢
            have q1c : V2.cell? ⟨ga, j * 3 + 1, none⟩ = some (.int .u8 (at2.toNat : Int)) := by
              have := (hO.out.cell (k := j) (by have := hO.out.2.1; omega)).2.1
              rwa [HQ.out] at this
            have q2c : V2.cell? ⟨ga, j * 3 + 2, none⟩ = some (.int .u8 (by2.toNat : Int)) := by
              have := (hO.out.cell (k := j) (by have := hO.out.2.1; omega)).2.2
              rwa [HQ.out] at this
            have g8 := hO.out.2.2.2
            by_cases hjr : j < rm
            · have c3 : (j : Int) < (rm : Int) := by omega
              have em : Nat.min j rm = j := Nat.min_eq_left (by omega)
              have em2 : Nat.min (j + 1) rm = j + 1 := Nat.min_eq_left (by omega)
              rw [em] at bs
              have f0 : V2.cell? ⟨sa, at2.toNat % 4, none⟩ = some (.int .u8 ((foldA G (wt.take j) (at2.toNat % 4)).toNat : Int)) := (bs.cell _).trans (arrC_get _ m4)
              have f1 : V2.frozen? ⟨sa, at2.toNat % 4, none⟩ = false := bs.free _
              have f8 := bs.lt
              have n1 : ga ≠ sa := by omega
              have n2 : sa ≠ ga := by omega
              clear em
              have HM := Lib.hid em2
              clear em2
              go_wp2_with fail
              go_region
              have hd1 : Below (V2.setCell ⟨sa, at2.toNat % 4, none⟩ (.int .u8 (by2.toNat : Int))).heap.size (V2.setCell ⟨sa, at2.toNat % 4, none⟩ (.int .u8 (by2.toNat : Int))) (V2.setCell ⟨sa, at2.toNat % 4, none⟩ (.int .u8 (by2.toNat : Int))).drew := (Below.refl _ _).drew
              clear f0 f1 f8
              replace bf := bf.other (a := ⟨sa, at2.toNat % 4, none⟩) (by show fa ≠ sa; omega) (.int .u8 (by2.toNat : Int))
              replace X := X.other (a := ⟨sa, at2.toNat % 4, none⟩) (by show Xa ≠ sa; omega) (.int .u8 (by2.toNat : Int))
              replace bl := bl.other (a := ⟨sa, at2.toNat % 4, none⟩) (by show la ≠ sa; omega) (.int .u8 (by2.toNat : Int))
              replace Y := Y.other (a := ⟨sa, at2.toNat % 4, none⟩) (by show ya ≠ sa; omega) (.int .u8 (by2.toNat : Int))
              replace bs := bs.set (at2.toNat % 4) (.int .u8 (by2.toNat : Int))
              rw [arrC_set _ m4] at bs
              replace hDx := dk_set (a := sa) (by simp) hDx (at2.toNat % 4) (.int .u8 (by2.toNat : Int))
              replace hA := acs_set (a := sa) (by simp) hA (at2.toNat % 4) (.int .u8 (by2.toNat : Int))
              replace hO := Lib.hid (hO.out.set (a := ⟨sa, at2.toNat % 4, none⟩) (by show ga ≠ sa; omega) (.int .u8 (by2.toNat : Int)))
              rw [← HF.out] at bs
              replace hL : InW [ga, sa, fa, la, Xa] (V2.setCell ⟨sa, at2.toNat % 4, none⟩ (.int .u8 (by2.toNat : Int))) := hL.later (by simp)
              replace hB := hB.setCell (p := ⟨sa, at2.toNat % 4, none⟩) hws (.int .u8 (by2.toNat : Int))
              replace X := X.later hd1
              replace bl := bl.later hd1
              replace bf := bf.later hd1
              replace bs := bs.later hd1
              replace Y := Y.later hd1
              replace hDx := dk_later hDx hd1
              replace hO := Lib.hid (hO.out.later hd1)
              replace hA := acs_later hA hd1
              replace hL := hL.later hd1.size
              replace hB := hB.trans (hd1.mono hB.size)
              clear hd1 q1c q2c
              generalize (V2.setCell ⟨sa, at2.toNat % 4, none⟩ (.int .u8 (by2.toNat : Int))).drew = V3 at X bl bf bs Y hDx hO hA hL hB ⊢
              go_wp2_with fail
              exact ⟨⟨j + 1, by omega, by omega, by go_num, bf, by rw [HM.out]; exact bs, X, bl, Y, hDx, hO, hA, hL, hB⟩, by simp [intOf]; omega⟩
            · obtain rfl : j = rm := by omega
              have c3 : ¬ (j : Int) < (j : Int) := by omega
              clear q1c q2c
              rw [show Nat.min j j = j from Nat.min_self j] at bs
              go_wp2_with fail
              exact ⟨⟨j + 1, by omega, by omega, by go_num, bf, by rw [show Nat.min (j + 1) j = j from Nat.min_eq_right (by omega)]; exact bs, X, bl, Y, hDx, hO, hA, hL, hB⟩, by simp [intOf]; omega⟩
          · have hj : j = nw := by omega
            subst hj
            have hlist : wt.take j = wt := List.take_of_length_le (by have := hO.out.2.1; omega)
            rw [show Nat.min j rm = j from Nat.min_eq_left (by omega), hlist] at bs
            rw [hlist] at bf
            clear hlist hgo
            have hs : (put4 wr Xa (.slice A1 4 c1) (.slice P1 0 q1) (.int .i64 ((rm - j : Nat) : Int)) (.bool false)).heap.size = wr.heap.size := by simp
            have hst := (Below.refl (put4 wr Xa (.slice A1 4 c1) (.slice P1 0 q1) (.int .i64 ((rm - j : Nat) : Int)) (.bool false)).heap.size (put4 wr Xa (.slice A1 4 c1) (.slice P1 0 q1) (.int .i64 ((rm - j : Nat) : Int)) (.bool false))).alloc (Nat.le_refl _) (.cells #[] 46)
            have X4 := (X.put4 (.slice A1 4 c1) (.slice P1 0 q1) (.int .i64 ((rm - j : Nat) : Int)) (.bool false)).later hst
            have l4 := (box_past bl (by omega : la ≠ Xa) (.slice A1 4 c1) (.slice P1 0 q1) (.int .i64 ((rm - j : Nat) : Int)) (.bool false)).later hst
            have f4 := (box_past bf (by omega : fa ≠ Xa) (.slice A1 4 c1) (.slice P1 0 q1) (.int .i64 ((rm - j : Nat) : Int)) (.bool false)).later hst
            have s4 := (box_past bs (by omega : sa ≠ Xa) (.slice A1 4 c1) (.slice P1 0 q1) (.int .i64 ((rm - j : Nat) : Int)) (.bool false)).later hst
            have D4 : Hid (DkAt ((put4 wr Xa (.slice A1 4 c1) (.slice P1 0 q1) (.int .i64 ((rm - j : Nat) : Int)) (.bool false)).alloc (.cells #[] 46)) (Out [wr.heap.size, sa, fa, la, Xa]) (.slice A1 4 c1) (.slice P1 0 q1) x) := dk_later (Lib.hid ((dk_put4 (b := Xa) (by simp) hDx (.slice A1 4 c1) (.slice P1 0 q1) (.int .i64 ((rm - j : Nat) : Int)) (.bool false)).out.weak fun b hb hl hc => by
              rcases List.mem_cons.1 hc with rfl | hc
              · rw [hs] at hl; omega
              · exact hb (List.mem_cons_of_mem _ hc))) hst
            have A4 : Hid (AcsAt ((put4 wr Xa (.slice A1 4 c1) (.slice P1 0 q1) (.int .i64 ((rm - j : Nat) : Int)) (.bool false)).alloc (.cells #[] 46)) (Out [wr.heap.size, sa, fa, la, Xa]) (.slice (some ⟨ab, ao, none⟩) n cv) sc) := acs_later (Lib.hid ((acs_put4 (b := Xa) (by simp) hA (.slice A1 4 c1) (.slice P1 0 q1) (.int .i64 ((rm - j : Nat) : Int)) (.bool false)).out.weak fun b hb hl hc => by
              rcases List.mem_cons.1 hc with rfl | hc
              · rw [hs] at hl; omega
              · exact hb (List.mem_cons_of_mem _ hc))) hst
            have hBs : B ≤ wr.heap.size := by have := hO.out.2.2; omega
            have O4 := ownAc_new (put4 wr Xa (.slice A1 4 c1) (.slice P1 0 q1) (.int .i64 ((rm - j : Nat) : Int)) (.bool false)) B (by rw [hs]; exact hBs)
            rw [hs] at O4
            have L4 : InW [wr.heap.size, sa, fa, la, Xa] ((put4 wr Xa (.slice A1 4 c1) (.slice P1 0 q1) (.int .i64 ((rm - j : Nat) : Int)) (.bool false)).alloc (.cells #[] 46)) := fun a ha => by
              have e : ((put4 wr Xa (.slice A1 4 c1) (.slice P1 0 q1) (.int .i64 ((rm - j : Nat) : Int)) (.bool false)).alloc (.cells #[] 46)).heap.size = wr.heap.size + 1 := by simp
              rw [e]
              rcases List.mem_cons.1 ha with rfl | ha
              · omega
              · have := hL a (List.mem_cons_of_mem _ ha); omega
            have B4 := (below_put4 hB hwX (.slice A1 4 c1) (.slice P1 0 q1) (.int .i64 ((rm - j : Nat) : Int)) (.bool false)).alloc (by rw [hs]; exact hB.size) (.cells #[] 46)
            have O4 := Lib.hid O4
            clear hs hst
            have hsub : ((rm : Int) - (j : Int)) = ((rm - j : Nat) : Int) := by omega
            have hb2 : decide ((j : Int) < (j : Int)) = false := decide_eq_false (by omega)
            obtain ⟨x0, x1, x2, x3, x4, x5, x6, x7, x8⟩ := box_facts X
            obtain ⟨y0, y1, y2, y3, _, _, _, _, y8⟩ := box_facts Y
            have n3 : la ≠ Xa := by omega
            have n4 : ya ≠ Xa := by omega
            have m0 : wr.cell? ⟨la, 0, none⟩ = some (.int .u8 ((F 0).toNat : Int)) := bl.cell 0
            have m1 : wr.cell? ⟨la, 1, none⟩ = some (.int .u8 ((F 1).toNat : Int)) := bl.cell 1
            have m2 : wr.cell? ⟨la, 2, none⟩ = some (.int .u8 ((F 2).toNat : Int)) := bl.cell 2
            have m3 : wr.cell? ⟨la, 3, none⟩ = some (.int .u8 ((F 3).toNat : Int)) := bl.cell 3
            have m8 := bl.lt
            have HR : Hid (∀ k : Nat, k < 4 → ∃ b, readT x k = (b, 0) ∧ secH b (F k) (F k)) := Lib.hid HX.out.read
            go_wp2_with fail
            refine (hHolds_yes x _ _ _ _ [wr.heap.size, sa, fa, la, Xa] _ F F D4 (Lib.hid ⟨H3.out, H4.out⟩) L4 HR).mono ?_
            rintro e w8 ⟨rfl, hb⟩
            clear x0 x1 x2 x3 x4 x5 x6 x7 x8 y0 y1 y2 y3 y8 m0 m1 m2 m3 m8 hsub hb2
            go_wp2_with fail
            exact ⟨⟨k + 1, x, rm - j, F, _, [], 0, wr.heap.size, 0, A1, c1, P1, q1, hlt, by omega, by go_num, rfl, rfl, HX, Lib.hid (by omega), X4.later hb, dk_later D4 hb, l4.later hb, f4.later hb, s4.later hb, Lib.hid (O4.out.later hb), acs_later A4 hb, L4.later hb.size, B4.trans (hb.mono B4.size)⟩, by simp [intOf]; omega⟩

end Go.Proofs.Ytdmeogkdoeaemaa
