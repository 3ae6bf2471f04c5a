/-
  The example of chapter 1. No condition.
-/
import Derived.Test.YtcokkloaljaanaaGC
namespace Go.Proofs.Ytcokkloaljaanaa
open Go.RowKit
attribute [local go_sem ↓ high] app_named

theorem RetDec.open {x : Val} {er : Int} {w : World} {e : Ending} {w' : World} (h : RetDec (x, er) w e w') : ∃ A c, e = .returned (.tuple #[.agg #[.int .i64 x.kind, .int .i64 x.num, .string (strB x.str), .slice A x.elems.length c], .int .i64 er]) ∧ ValsP w' (fun b => w.heap.size ≤ b) 16 (.slice A x.elems.length c) x.elems ∧ Below w.heap.size w w' := by
  obtain ⟨L, rfl, h1, h2⟩ := h
  obtain ⟨A, c, hv, _⟩ := h1.form
  dsimp only at hv h1 ⊢
  subst hv
  exact ⟨A, c, rfl, h1, h2⟩
def badStrs : List Bs := [[], [1, 128, 0], [1, 5, 0], [2, 3, 97]]
theorem badStrs_at {k : Nat} (h : k < 4) : ∃ s : Bs, ([.string ⟨#[]⟩, .string ⟨#[1, 128, 0]⟩, .string ⟨#[1, 5, 0]⟩, .string ⟨#[2, 3, 97]⟩] : List Value)[k]? = some (.string (strB s)) ∧ decT s = (Val.zero, 10) ∧ s.length ≤ 3 := by
  rcases (show k = 0 ∨ k = 1 ∨ k = 2 ∨ k = 3 by omega) with rfl | rfl | rfl | rfl
  · exact ⟨[], rfl, dec_bad1, by decide⟩
  · exact ⟨[1, 128, 0], rfl, dec_bad2, by decide⟩
  · exact ⟨[1, 5, 0], rfl, dec_bad3, by decide⟩
  · exact ⟨[2, 3, 97], rfl, dec_bad4, by decide⟩
theorem eV_nest : nestL eV.elems ≤ 16 := by decide
set_option maxRecDepth 100000 in
set_option maxHeartbeats 8000000 in
theorem sane_any (w : World) : Calls Try.prog 10 #[] w fun e w' => e = .returned (.bool true) ∧ Below w.heap.size w w' := by
  go_enter Try.func10, Try.ntmps10
  go_wp2_with fail
  refine (rInt_any _ _).mono ?_
  rintro e w1 ⟨rfl, hB⟩
  go_wp2_with fail
  have H1 := cEncode_any 0 (by decide) eX (.slice none 0 0) w1 (valsAt_nil _ _ _) eX_fits (by rw [eX_enc]; decide)
  rw [eX_enc'] at H1
  refine (show Calls Try.prog 12 #[.agg #[.int .i64 1, .int .i64 (-3), .string ⟨#[]⟩, .slice none 0 0]] w1 _ from H1).mono ?_
  rintro e w2 ⟨Va, rfl, hA, hb⟩
  clear H1
  obtain ⟨Aa, ca, rfl, _⟩ := hA.form
  replace hA := Lib.hid hA
  replace hB := hB.trans (hb.mono hB.size)
  clear hb
  dsimp only
  go_wp2_with fail
  refine (rInt_any _ _).mono ?_
  rintro e w3 ⟨rfl, hb⟩
  replace hA := Lib.hid (hA.out.keep (Keeps.of hb))
  replace hB := hB.trans (hb.mono hB.size)
  clear hb
  go_wp2_with fail
  refine (rText_any _ _).mono ?_
  rintro e w4 ⟨rfl, hb⟩
  replace hA := Lib.hid (hA.out.keep (Keeps.of hb))
  replace hB := hB.trans (hb.mono hB.size)
  clear hb
  go_wp2_with fail
  have hst := (Below.refl w4.heap.size w4).alloc (Nat.le_refl _) (.cells #[.int .i64 1, .int .i64 100, .string ⟨#[]⟩, .slice none 0 0, .int .i64 2, .int .i64 0, .string ⟨#[97, 98]⟩, .slice none 0 0] 24)
  have Y := Box.new w4 [.int .i64 1, .int .i64 100, .string ⟨#[]⟩, .slice none 0 0, .int .i64 2, .int .i64 0, .string ⟨#[97, 98]⟩, .slice none 0 0] 24
  replace hA := Lib.hid (hA.out.keep (Keeps.of hst))
  replace hB := hB.trans (hst.mono hB.size)
  generalize w4.alloc (.cells #[.int .i64 1, .int .i64 100, .string ⟨#[]⟩, .slice none 0 0, .int .i64 2, .int .i64 0, .string ⟨#[97, 98]⟩, .slice none 0 0] 24) = w5 at hA hB Y ⊢
  clear hst
  generalize w4.heap.size = yb at Y ⊢
  refine (rList_any _ _ _ _).mono ?_
  rintro e w6 ⟨rfl, hb⟩
  replace hA := Lib.hid (hA.out.keep (Keeps.of hb))
  replace Y := Y.later hb
  replace hB := hB.trans (hb.mono hB.size)
  clear hb
  go_wp2_with fail
  have hst := (Below.refl w6.heap.size w6).alloc (Nat.le_refl _) (.cells #[.int .i64 3, .int .i64 0, .string ⟨#[]⟩, .slice (some ⟨yb, 0, none⟩) 2 2] 24)
  have X := Box.new w6 [.int .i64 3, .int .i64 0, .string ⟨#[]⟩, .slice (some ⟨yb, 0, none⟩) 2 2] 24
  replace hA := Lib.hid (hA.out.keep (Keeps.of hst))
  replace Y := Y.later hst
  replace hB := hB.trans (hst.mono hB.size)
  generalize w6.alloc (.cells #[.int .i64 3, .int .i64 0, .string ⟨#[]⟩, .slice (some ⟨yb, 0, none⟩) 2 2] 24) = w7 at hA hB Y X ⊢
  clear hst
  generalize w6.heap.size = xb at X ⊢
  have H2 := cEncode_any 1 (by decide) eV _ w7 (eV_at Y) eV_fits (by rw [eV_enc]; decide)
  rw [eV_enc'] at H2
  refine (show Calls Try.prog 12 #[.agg #[.int .i64 3, .int .i64 0, .string ⟨#[]⟩, .slice (some ⟨yb, 0, none⟩) 2 2]] w7 _ from H2).mono ?_
  rintro e w8 ⟨Vb, rfl, hE, hb⟩
  clear H2
  obtain ⟨Ab, cb, rfl, _⟩ := hE.form
  dsimp only at hE ⊢
  replace hE := Lib.hid (hE.weak (S' := fun b => b < w8.heap.size) fun b _ hl => hl)
  replace hA := Lib.hid (hA.out.keep (Keeps.of hb))
  replace Y := Y.later hb
  replace X := X.later hb
  replace hB := hB.trans (hb.mono hB.size)
  clear hb
  go_wp2_with fail
  have H3 := cDecode_any _ _ w8 hE.out (by decide)
  rw [eV_dec] at H3
  refine (show Calls Try.prog 18 #[.slice Ab 9 cb] w8 _ from H3).mono ?_
  intro e w9 hret
  obtain ⟨AL, cL, he, hD, hb⟩ := RetDec.open hret
  replace he : e = .returned (.tuple #[.agg #[.int .i64 3, .int .i64 0, .string ⟨#[]⟩, .slice AL 2 cL], .int .i64 0]) := he
  subst he
  clear hret H3
  replace hE := Lib.hid (hE.out.keep (Keeps.of hb))
  replace hA := Lib.hid (hA.out.keep (Keeps.of hb))
  replace Y := Y.later hb
  replace X := X.later hb
  replace hB := hB.trans (hb.mono hB.size)
  clear hb
  have x0 : w9.cell? ⟨xb, 0, none⟩ = some (.int .i64 3) := X.cell 0
  have x1 : w9.cell? ⟨xb, 1, none⟩ = some (.int .i64 0) := X.cell 1
  have x2 : w9.cell? ⟨xb, 2, none⟩ = some (.string ⟨#[]⟩) := X.cell 2
  have x3 : w9.cell? ⟨xb, 3, none⟩ = some (.slice (some ⟨yb, 0, none⟩) 2 2) := X.cell 3
  have xz := X.lt
  go_wp2_with fail
  clear x0 x1 x2 x3 xz
  have hb := (Below.refl w9.heap.size w9).alloc (Nat.le_refl _) (.cells #[.int .i64 3, .int .i64 0, .string ⟨#[]⟩, .slice AL 2 cL] 24)
  have Z := Box.new w9 [.int .i64 3, .int .i64 0, .string ⟨#[]⟩, .slice AL 2 cL] 24
  replace hD := Lib.hid (hD.keep (Keeps.of hb))
  replace hE := Lib.hid (hE.out.keep (Keeps.of hb))
  replace hA := Lib.hid (hA.out.keep (Keeps.of hb))
  replace Y := Y.later hb
  replace X := X.later hb
  replace hB := hB.trans (hb.mono hB.size)
  generalize w9.alloc (.cells #[.int .i64 3, .int .i64 0, .string ⟨#[]⟩, .slice AL 2 cL] 24) = w10 at hA hB hE hD Y X Z ⊢
  clear hb
  generalize w9.heap.size = zb at Z hD ⊢
  have H4 := cSize_any 1 (by decide) eV _ w10 (eV_at Y) eV_fits (by rw [eV_enc]; decide)
  rw [eV_enc'] at H4
  refine (show Calls Try.prog 14 #[.agg #[.int .i64 3, .int .i64 0, .string ⟨#[]⟩, .slice (some ⟨yb, 0, none⟩) 2 2]] w10 (fun e w' => e = .returned (.tuple #[.int .i64 9, .int .i64 0]) ∧ Below w10.heap.size w10 w') from H4).mono ?_
  rintro e w11 ⟨rfl, hb⟩
  clear H4
  replace hE := Lib.hid (hE.out.keep (Keeps.of hb))
  replace hA := Lib.hid (hA.out.keep (Keeps.of hb))
  replace Y := Y.later hb
  replace X := X.later hb
  replace Z := Z.later hb
  replace hD := Lib.hid (hD.out.keep (Keeps.of hb))
  replace hB := hB.trans (hb.mono hB.size)
  clear hb
  have c1 : (convert 27 9 (.slice Aa 2 ca)).run Try.prog w11 = .ok (.string ⟨#[1, 5]⟩) w11 := hA.out.str
  have c2 : (convert 27 9 (.slice Ab 9 cb)).run Try.prog w11 = .ok (.string ⟨#[3, 2, 1, 200, 1, 2, 2, 97, 98]⟩) w11 := hE.out.str
  have x0 : w11.cell? ⟨xb, 0, none⟩ = some (.int .i64 3) := X.cell 0
  have x1 : w11.cell? ⟨xb, 1, none⟩ = some (.int .i64 0) := X.cell 1
  have x2 : w11.cell? ⟨xb, 2, none⟩ = some (.string ⟨#[]⟩) := X.cell 2
  have x3 : w11.cell? ⟨xb, 3, none⟩ = some (.slice (some ⟨yb, 0, none⟩) 2 2) := X.cell 3
  have xz := X.lt
  have z0 : w11.cell? ⟨zb, 0, none⟩ = some (.int .i64 3) := Z.cell 0
  have z1 : w11.cell? ⟨zb, 1, none⟩ = some (.int .i64 0) := Z.cell 1
  have z2 : w11.cell? ⟨zb, 2, none⟩ = some (.string ⟨#[]⟩) := Z.cell 2
  have z3 : w11.cell? ⟨zb, 3, none⟩ = some (.slice AL 2 cL) := Z.cell 3
  have zz := Z.lt
  go_wp2_with fail
  clear x0 x1 x2 x3 xz z0 z1 z2 z3 zz c1 c2
  have H5 := SameC.all 16 eV eV (.slice (some ⟨yb, 0, none⟩) 2 2) (.slice AL 2 cL) w11 ((eV_at Y).fit eV_nest) hD.out.vals
  rw [Val.same_refl] at H5
  refine (show Calls Try.prog 21 #[.agg #[.int .i64 3, .int .i64 0, .string ⟨#[]⟩, .slice (some ⟨yb, 0, none⟩) 2 2], .agg #[.int .i64 3, .int .i64 0, .string ⟨#[]⟩, .slice AL 2 cL]] w11 _ from H5).mono ?_
  rintro e w12 ⟨rfl, hb⟩
  clear H5
  replace hB := hB.trans (hb.mono hB.size)
  clear hb hA hE hD X Y Z
  go_wp2_with fail
  refine (rText_any _ _).mono ?_
  rintro e w13 ⟨rfl, hb⟩
  replace hB := hB.trans (hb.mono hB.size)
  clear hb
  go_wp2_with fail
  refine (rList_any _ _ _ _).mono ?_
  rintro e w14 ⟨rfl, hb⟩
  replace hB := hB.trans (hb.mono hB.size)
  clear hb
  go_wp2_with fail
  have H6 := SameC.all 0 (.mk 2 0 [] []) (.mk 3 0 [] []) (.slice none 0 0) (.slice none 0 0) w14 (valsAt_nil _ _ _) (valsAt_nil _ _ _)
  rw [show (Val.mk 2 0 [] []).same (.mk 3 0 [] []) = false from rfl] at H6
  refine (show Calls Try.prog 21 #[.agg #[.int .i64 2, .int .i64 0, .string ⟨#[]⟩, .slice none 0 0], .agg #[.int .i64 3, .int .i64 0, .string ⟨#[]⟩, .slice none 0 0]] w14 _ from H6).mono ?_
  rintro e w15 ⟨rfl, hb⟩
  clear H6
  replace hB := hB.trans (hb.mono hB.size)
  clear hb
  go_wp2_with fail
  have hb := (Below.refl w15.heap.size w15).alloc (Nat.le_refl _) (.cells #[.string ⟨#[]⟩, .string ⟨#[1, 128, 0]⟩, .string ⟨#[1, 5, 0]⟩, .string ⟨#[2, 3, 97]⟩] 9)
  have S := Box.new w15 [.string ⟨#[]⟩, .string ⟨#[1, 128, 0]⟩, .string ⟨#[1, 5, 0]⟩, .string ⟨#[2, 3, 97]⟩] 9
  replace hB := hB.trans (hb.mono hB.size)
  generalize w15.alloc (.cells #[.string ⟨#[]⟩, .string ⟨#[1, 128, 0]⟩, .string ⟨#[1, 5, 0]⟩, .string ⟨#[2, 3, 97]⟩] 9) = w16 at hB S ⊢
  clear hb
  generalize w15.heap.size = sb at S ⊢
  go_loopw [79] (fun i wr => ∃ k : Nat, k ≤ 4 ∧ i = .int .i64 k ∧ Box wr sb [.string ⟨#[]⟩, .string ⟨#[1, 128, 0]⟩, .string ⟨#[1, 5, 0]⟩, .string ⟨#[2, 3, 97]⟩] ∧ Below w.heap.size w wr) (fun i _ => 4 - (intOf i).toNat)
  case atStart => exact ⟨0, by omega, rfl, S, hB⟩
  case round =>
    clear S hB
    obtain ⟨k, hk, rfl, S, hB⟩ := hrel
    by_cases hlt : k < 4
    · obtain ⟨s, hs, hd, hl⟩ := badStrs_at hlt
      have s0 : wr.cell? ⟨sb, k, none⟩ = some (.string (strB s)) := (S.cell k).trans hs
      have sz := S.lt
      obtain ⟨c, wc, hr, hbs, hbc⟩ := conv_bytes wr s (by simp only [maxLen]; omega)
      have H7 := cDecode_any s _ wc hbs (by omega)
      rw [hd] at H7
      replace H7 := Lib.hid H7
      replace hbs := Lib.hid hbs
      have S2 := S.later hbc
      have hB2 := hB.trans (hbc.mono hB.size)
      clear hd hs hbc hB S
      generalize strB s = ss at s0 hr
      generalize wr.heap.size = wz at hr H7 hbs
      generalize s.length = sl at hr H7 hbs hl
      have k0 : (0 : Int) ≤ (k : Int) := by omega
      have k1 : (k : Int) < 4 := by omega
      go_wp2_with fail
      refine H7.out.mono ?_
      intro e w17 hret
      obtain ⟨A7, c7, he, hD, hb⟩ := RetDec.open hret
      replace he : e = .returned (.tuple #[.agg #[.int .i64 0, .int .i64 0, .string ⟨#[]⟩, .slice A7 0 c7], .int .i64 10]) := he
      subst he
      have hst := (Below.refl w17.heap.size w17).alloc (Nat.le_refl _) (.cells #[.int .i64 0, .int .i64 0, .string ⟨#[]⟩, .slice A7 0 c7] 24)
      have S3 := (S2.later hb).later hst
      have hB3 := (hB2.trans (hb.mono hB2.size)).trans (hst.mono (hB2.trans (hb.mono hB2.size)).size)
      clear hret hD hb hst S2 hB2 H7 hbs hr s0
      go_wp2
      exact ⟨⟨k + 1, by omega, by go_num, S3, hB3⟩, by simp [intOf]; omega⟩
    · obtain rfl : k = 4 := by omega
      go_wp2_with fail
      have H8 := cCheck_any 0 (by decide) Val.zero (.slice none 0 0) wr (valsAt_nil _ _ _)
      rw [zero_chk] at H8
      refine (show Calls Try.prog 16 #[.agg #[.int .i64 0, .int .i64 0, .string ⟨#[]⟩, .slice none 0 0]] wr _ from H8).mono ?_
      rintro e w18 ⟨rfl, hb⟩
      clear H8
      have hB2 := hB.trans (hb.mono hB.size)
      clear hb hB S
      go_wp2
      go_ret
      exact ⟨rfl, hB2⟩

end Go.Proofs.Ytcokkloaljaanaa
