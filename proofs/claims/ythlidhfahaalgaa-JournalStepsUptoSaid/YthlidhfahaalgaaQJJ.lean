/- The walk of good of chapter 5. A sector has 128 bytes. -/
import Derived.Test.YthlidhfahaalgaaQJF
import Derived.Deep.CutBlock
set_option linter.unusedVariables false
set_option linter.unusedSimpArgs false
set_option maxRecDepth 100000
set_option maxHeartbeats 4000000
namespace Go.Proofs.Ythlidhfahaalgaa
open Go.RowKit
theorem good_no1 {s : Bs} {k : Nat} (h : kindB (kindT s) (manyT s) = false) : goodT s k = false := by simp [goodT, h]
theorem good_no2 {s : Bs} {k : Nat} (h : genT s = 0) : goodT s k = false := by simp [goodT, h]
theorem kind_ways (c n : Nat) : (112 < n ∧ kindB c n = false) ∨ (n ≤ 112 ∧ 3 < c ∧ kindB c n = false) ∨ (n ≤ 112 ∧ (c = 0 ∨ c = 1) ∧ n < 112 ∧ kindB c n = false) ∨ (n ≤ 112 ∧ (c = 0 ∨ c = 2) ∧ n = 0 ∧ kindB c n = false) ∨ (kindB c n = true ∧ ((c = 0 ∧ n = 112) ∨ (c = 1 ∧ n = 112) ∨ (c = 2 ∧ 0 < n ∧ n ≤ 112) ∨ (c = 3 ∧ n ≤ 112))) := by
  unfold kindB
  by_cases h1 : n ≤ 112
  · by_cases h2 : c ≤ 3
    · rcases (show c = 0 ∨ c = 1 ∨ c = 2 ∨ c = 3 by omega) with rfl | rfl | rfl | rfl
      · by_cases h3 : n = 112
        · subst h3; exact .inr (.inr (.inr (.inr ⟨rfl, .inl ⟨rfl, rfl⟩⟩)))
        · exact .inr (.inr (.inl ⟨h1, .inl rfl, by omega, by simp [h3]⟩))
      · by_cases h3 : n = 112
        · subst h3; exact .inr (.inr (.inr (.inr ⟨rfl, .inr (.inl ⟨rfl, rfl⟩)⟩)))
        · exact .inr (.inr (.inl ⟨h1, .inr rfl, by omega, by simp [h3]⟩))
      · by_cases h3 : n = 0
        · subst h3; exact .inr (.inr (.inr (.inl ⟨h1, .inr rfl, rfl, rfl⟩)))
        · exact .inr (.inr (.inr (.inr ⟨by simp [h1, h3], .inr (.inr (.inl ⟨rfl, by omega, h1⟩))⟩)))
      · exact .inr (.inr (.inr (.inr ⟨by simp [h1], .inr (.inr (.inr ⟨rfl, h1⟩))⟩)))
    · exact .inr (.inl ⟨h1, by omega, by simp [h2]⟩)
  · exact .inl ⟨by omega, by simp [h1]⟩
theorem jGood_any (s : Bs) (k : Nat) (A : Option Addr) (c : Nat) (S : Nat → Prop) (w : World) (h : Hid (BsAt w S (.slice A 128 c) s)) (hs : Hid (s.length = 128)) (hk : k < 65536) :
    Calls Try.prog 61 #[.slice A 128 c, .int .i64 k] w fun e w' => e = .returned (.bool (goodT s k)) ∧ Below w.heap.size w w' := by
  obtain ⟨T, hT⟩ : ∃ T, goodT s k = T := ⟨_, rfl⟩
  rw [hT]
  have HT := Lib.hid hT
  clear hT
  obtain ⟨b, off, rfl, hSb, hbz, c10⟩ := h.out.cell (k := 10) (by rw [hs.out]; decide)
  obtain ⟨_, _, e, _, _, c11⟩ := h.out.cell (k := 11) (by rw [hs.out]; decide)
  cases e
  have hcm : c ≤ maxLen ∧ 128 ≤ c := by
    rcases h.out.1 with e | ⟨_, _, _, e, h1, h2⟩
    · cases e
    · cases e; exact ⟨h2, h1⟩
  have hca := hcm.2
  have hcb := hcm.1
  clear hcm
  have hcl : (c : Int) ≤ 9223372036854775807 := by simp only [maxLen] at hcb; omega
  have hkd : ((s.getD 10 0).toNat) = kindT s := rfl
  have hmn : ((s.getD 11 0).toNat) = manyT s := rfl
  rw [hkd] at c10
  rw [hmn] at c11
  have hn255 : manyT s < 256 := u8_lt _
  have hways := kind_ways (kindT s) (manyT s)
  rcases hways with ⟨q1, q⟩ | ⟨q1, q2, q⟩ | ⟨q1, q2, q3, q⟩ | ⟨q1, q2, q3, q⟩ | ⟨q, q1⟩
  · obtain rfl : T = false := HT.out.symm.trans (good_no1 q)
    generalize manyT s = n at *
    generalize kindT s = x at *
    clear hkd hmn q h hs HT
    go_enter Try.func61, Try.ntmps61
    go_wp2
    go_ret
    exact ⟨rfl, Below.refl _ _⟩
  · obtain rfl : T = false := HT.out.symm.trans (good_no1 q)
    have hx : kindT s < 256 := u8_lt _
    generalize manyT s = n at *
    generalize kindT s = x at *
    clear hkd hmn q h hs HT
    go_enter Try.func61, Try.ntmps61
    go_wp2
    go_ret
    exact ⟨rfl, Below.refl _ _⟩
  · obtain rfl : T = false := HT.out.symm.trans (good_no1 q)
    generalize manyT s = n at *
    generalize kindT s = x at *
    clear hkd hmn q h hs HT
    rcases q2 with rfl | rfl
    · have e2 : bits .and .u8 ((0 : Nat) : Int) 2 = 0 := by decide
      go_enter Try.func61, Try.ntmps61
      go_wp2
      go_ret
      exact ⟨rfl, Below.refl _ _⟩
    · have e2 : bits .and .u8 ((1 : Nat) : Int) 2 = 0 := by decide
      go_enter Try.func61, Try.ntmps61
      go_wp2
      go_ret
      exact ⟨rfl, Below.refl _ _⟩
  · obtain rfl : T = false := HT.out.symm.trans (good_no1 q)
    generalize manyT s = n at *
    generalize kindT s = x at *
    clear hkd hmn q h hs HT
    subst q3
    have e2 : bits .and .u8 ((0 : Nat) : Int) 2 = 0 := by decide
    have e3 : bits .and .u8 ((2 : Nat) : Int) 2 = 2 := by decide
    have e4 : bits .and .u8 ((2 : Nat) : Int) 1 = 0 := by decide
    rcases q2 with rfl | rfl
    all_goals
      go_enter Try.func61, Try.ntmps61
      go_wp2
      go_ret
      exact ⟨rfl, Below.refl _ _⟩
  · have hdl := data_length hs.out (show manyT s ≤ 112 by omega)
    have hC := fun hg => good_enc hs.out hk hg q
    have hN := good_no2 (s := s) (k := k)
    have hG := jGet_at (w := w) (n := 4) (c := c) (T := genT s) (by have := h.out.sub 0 4 c (by omega) (by omega) hcb hs.out; exact this) (by simp; have := hs.out; omega) (by omega) rfl
    have hD := h.out.sub 12 (manyT s) (c - 12) (by omega) (by omega) (by omega) hs.out
    have hE := fun (u : World) (hu : Below w.heap.size w u) => jEncode_any (genT s) k (s.getD 10 0) (dataT s) (some ⟨b, off + 12, none⟩) (manyT s) (c - 12) S u (Lib.hid (hD.keep (Keeps.of hu))) hdl (by omega) hk
    have hU := fun (u : World) (hu : Below w.heap.size w u) => h.out.keep (Keeps.of hu)
    have hel : (encT (genT s) k (s.getD 10 0) (dataT s)).length = 128 := encT_length _ _ _ (by omega)
    have HU := Lib.hid hU
    have HE := Lib.hid hE
    have HC := Lib.hid hC
    have HN := Lib.hid hN
    have HEL := Lib.hid hel
    clear hU hE hC hN hel hD hdl h hs
    rw [hkd] at HE
    clear hkd hmn hk
    generalize manyT s = n at *
    generalize kindT s = x at *
    generalize genT s = g at *
    generalize encT g k (s.getD 10 0) (dataT s) = en at *
    clear q
    have a1 : bits .and .u8 0 2 = 0 := by decide
    have a2 : bits .and .u8 0 1 = 0 := by decide
    have b1 : bits .and .u8 1 2 = 0 := by decide
    have b2 : bits .and .u8 1 1 = 1 := by decide
    have c1 : bits .and .u8 2 2 = 2 := by decide
    have c2 : bits .and .u8 2 1 = 0 := by decide
    have d1 : bits .and .u8 3 2 = 2 := by decide
    have d2 : bits .and .u8 3 1 = 1 := by decide
    have hcb := Lib.hid hcb
    clear hn255
    have h112 : decide (112 < (n : Int)) = false := by simp; omega
    have h0n : x = 2 → ((n : Int) == 0) = false := fun hx => by simp; omega
    rcases q1 with ⟨rfl, rfl⟩ | ⟨rfl, rfl⟩ | ⟨rfl, q1, q2⟩ | ⟨rfl, q1⟩
    all_goals
      first | (have h0 := h0n rfl; clear h0n) | clear h0n
      go_enter Try.func61, Try.ntmps61
      go_wp2_with fail
      refine hG.mono ?_
      rintro e wz ⟨rfl, rfl⟩
      rcases Nat.eq_zero_or_pos g with g0 | g0
      · subst g0
        obtain rfl : T = false := HT.out.symm.trans (HN.out rfl)
        go_upto_region 5 with fail
        go_quiet (fail)
        go_wp2
        go_ret
        exact ⟨rfl, below_drewN (Below.refl _ _) _⟩
      · have ht : decide (s = en) = T := by rw [← HC.out (by omega)]; exact HT.out
        have g1 : decide (0 < (g : Int)) = true := by simp; omega
        go_upto_region 5 with fail
        have c10 : ∀ x : Later wz, x.w.cell? ⟨b, off + 10, none⟩ = some _ := Later.cell c10 hbz
        refine wp_region_heads (C := fun w' => ∃ x : Later wz, w' = x.w) [0, 1, 2, 3, 4, 5, 6, 7, 8, 9, 10, 11, 12] (by kernel_rfl) (by kernel_rfl) (Later.mk' (Below.refl _ _).drew) (fun _ _ h => h) ?_
        simp only [headOps, List.filterMap_cons, List.filterMap_nil, List.getElem?_toArray, List.getElem?_cons_succ, List.getElem?_cons_zero]
        repeat (first | go_big_quiet_skip | (show wpQuiet _ _ _ _ (_ :: _) _; go_big_quiet_want; go_big_quiet_op; go_big_quiet_on))
        refine wpQuiet_nil ?_
        have hb0 := (Below.refl wz.heap.size wz).drew
        refine anyC_call (n := 3) (i := 13) (by kernel_rfl) rfl rfl (Later.mk' hb0) ?_ ((HE.out wz.drew hb0).mono ?_)
        · go_simp
        rintro e w6 ⟨gb, rfl, hgb, X6, hb⟩
        refine ⟨_, rfl, ?_⟩
        have hb1 := hb0.trans hb
        have hen : BsAt w6 (fun b => b = gb) (.slice (some ⟨gb, 0, none⟩) 128 128) en := by
          have := box_bs X6 0 128 128 HEL.out (by omega) (by omega) (by omega)
          rwa [List.drop_zero, List.take_of_length_le (by rw [HEL.out]; omega)] at this
        refine anyC_call (n := 2) (i := 14) (by kernel_rfl) rfl rfl (Later.mk' hb1) ?_ ((jEqual_any (HU.out w6 hb1) hen ht).mono ?_)
        · go_simp
        rintro e w7 ⟨rfl, rfl⟩
        refine ⟨_, rfl, ?_⟩
        refine anyC_val (n := 1) (i := 15) (v := .bool T) (by kernel_rfl) rfl rfl (Later.mk' hb1) (by first | rfl | go_simp) ?_
        refine anyC_val (n := 0) (i := 16) (v := .bool T) (by kernel_rfl) rfl rfl (Later.mk' hb1) (by first | rfl | go_simp) ?_
        refine anyC_done (by kernel_rfl) (Later.mk' hb1) ?_
        go_wp2
        go_ret
        exact ⟨rfl, hb1⟩
end Go.Proofs.Ythlidhfahaalgaa
