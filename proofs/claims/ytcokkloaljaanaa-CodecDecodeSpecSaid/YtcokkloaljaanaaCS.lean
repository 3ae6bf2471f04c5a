/-
  Contracts of encode, Encode and Size of the reference. No condition.
-/
import Derived.Test.YtcokkloaljaanaaCR
namespace Go.Proofs.Ytcokkloaljaanaa
open Go.RowKit
attribute [local go_sem ↓ high] app_named

set_option maxRecDepth 100000 in
set_option maxHeartbeats 4000000 in
theorem rEncode_3 (d : Nat) (ih : ∀ d', d' < d → EncR d') (n0 : Int) (sb : ByteArray) (l : List Val) (A : Option Addr) (c : Nat) (w : World) (hV : ValsAt w w.heap.size d (.slice A l.length c) l) (hok : okL l = true) (hfit : fitsL l) (hlen : ([3] ++ numT l.length ++ encL l).length ≤ 79000000) :
    Calls Try.prog 27 #[.agg #[.int .i64 3, .int .i64 n0, .string sb, .slice A l.length c]] w (RetOwn ([3] ++ numT l.length ++ encL l) w) := by
  obtain ⟨_, _, _, hm⟩ := hV.form
  unfold maxLen at hm
  obtain ⟨T, hT⟩ : ∃ T, [3] ++ numT l.length ++ encL l = T := ⟨_, rfl⟩
  rw [hT] at hlen ⊢
  have HT := Lib.hid hT
  have HLEN := Lib.hid hlen
  obtain ⟨n, hn⟩ : ∃ n, l.length = n := ⟨_, rfl⟩
  rw [hn] at hm hV HT ⊢
  have HN := Lib.hid hn
  have IH := Lib.hid ih
  have hst := (Below.refl w.heap.size w).alloc (Nat.le_refl _) (.cells #[.int .i64 3, .int .i64 n0, .string sb, .slice A n c] 24)
  have ST := Lib.hid hst
  have X := Box.new w [.int .i64 3, .int .i64 n0, .string sb, .slice A n c] 24
  have HV := Lib.hid (hV.later hst)
  have HOK := Lib.hid hok
  have HFIT := Lib.hid hfit
  have hnl := numT_le (u := n) (by omega)
  have hsz : (w.alloc (.cells #[.int .i64 3, .int .i64 n0, .string sb, .slice A n c] 24)).heap.size = w.heap.size + 1 := by simp
  have HNM := Lib.hid (rNumeral_any n (by omega))
  clear hT hlen hn hV ih hst hok hfit
  go_enter Try.func27, Try.ntmps27
  go_wp2_with fail
  refine (HNM.out _).mono ?_
  rintro e w1 ⟨U, rfl, hO, hb1⟩
  obtain ⟨v2, w2, hr, hO2, hB2⟩ := lit_app (w := w.alloc (.cells #[.int .i64 3, .int .i64 n0, .string sb, .slice A n c] 24)) (x := 3) hO hb1 (by omega)
  rw [hsz] at hr
  obtain ⟨AU, cU, rfl⟩ := hO.form'
  have HZ := Lib.hid hsz
  have hS : Hid (w.heap.size + 1 ≤ (w.alloc (.cells #[.int .i64 3, .int .i64 n0, .string sb, .slice A n c] 24)).heap.size) := by rw [Hid, hsz]; exact Nat.le_refl _
  have HO2 := Lib.hid hO2
  have HB2 := Lib.hid hB2
  have x3 : w2.cell? ⟨w.heap.size, 3, none⟩ = some (.slice A n c) := (X.later hB2).cell 3
  clear hO hb1 hO2 hB2 HNM hsz
  go_wp2_with fail
  clear x3
  generalize w.alloc (.cells #[.int .i64 3, .int .i64 n0, .string sb, .slice A n c] 24) = W at ST X HV hS HO2 HB2 HZ ⊢
  go_loopw [3, 4] (fun o i wr => ∃ (k : Nat) (V : Value), k ≤ n ∧ i = .int .i64 k ∧ o = V ∧ Hid (OwnBs wr W.heap.size V ((3 :: numT n) ++ encL (l.take k))) ∧ Hid (Below W.heap.size W wr)) (fun _ i _ => n - (intOf i).toNat)
  case atStart => exact ⟨0, v2, Nat.zero_le _, rfl, rfl, by rw [List.take_zero, encL, List.append_nil]; exact HO2, HB2⟩
  case round =>
    clear HO2 HB2
    obtain ⟨k, V, hk, rfl, hVe, HO, HB⟩ := hrel
    replace hVe := hVe.symm
    subst hVe
    have Xr := X.later HB.out
    have x3 : wr.cell? ⟨w.heap.size, 3, none⟩ = some (.slice A n c) := Xr.cell 3
    have xz := Xr.lt
    by_cases hlt : k < n
    · have hlt' : k < l.length := by rw [HN.out]; exact hlt
      obtain ⟨d', b, off, U, rfl, rfl, hb, c0, c1, c2, c3, hE⟩ := HV.out.elem hlt'
      have htk := List.take_succ_eq_append_getElem hlt'
      have hxo := okL_at HOK.out (List.getElem_mem hlt')
      have hxf := fits_mem HFIT.out (List.getElem_mem hlt')
      generalize l[k] = x at c0 c1 c2 c3 hE htk hxo hxf
      have hsp : (encL (l.take (k + 1))).length ≤ (encL l).length := by
        have e := encL_append (l.take (k + 1)) (l.drop (k + 1))
        rw [List.take_append_drop] at e
        rw [e, List.length_append]
        omega
      have hsn : encL (l.take (k + 1)) = encL (l.take k) ++ x.enc := by rw [htk, encL_snoc]
      have hlT : 1 + (numT n).length + (encL l).length ≤ 79000000 := by
        have := HLEN.out
        rw [← HT.out] at this
        simp only [List.length_append, List.length_singleton] at this
        omega
      have hsum : (encL (l.take k)).length + x.enc.length ≤ (encL l).length := by rw [hsn, List.length_append] at hsp; exact hsp
      have HS : Hid ((3 :: numT n) ++ encL (l.take (k + 1)) = ((3 :: numT n) ++ encL (l.take k)) ++ x.enc) := by rw [Hid, hsn, List.append_assoc]
      obtain ⟨A', c', rfl, _⟩ := hE.form
      replace c0 := (HB.out.cell (p := ⟨b, off + k * 4, none⟩) hb).trans c0
      replace c1 := (HB.out.cell (p := ⟨b, off + k * 4 + 1, none⟩) hb).trans c1
      replace c2 := (HB.out.cell (p := ⟨b, off + k * 4 + 2, none⟩) hb).trans c2
      replace c3 := (HB.out.cell (p := ⟨b, off + k * 4 + 3, none⟩) hb).trans c3
      have HC := Lib.hid (IH.out d' (by omega) x _ _ (hE.later HB.out) hxo hxf (by omega))
      have HLX : Hid (((3 :: numT n) ++ encL (l.take k)).length + x.enc.length ≤ 1000000000) := by
        rw [Hid]
        simp only [List.length_append, List.length_cons]
        omega
      clear hE htk hsp hsn hlT hsum hxo hxf
      generalize (3 :: numT n) ++ encL (l.take k) = P at HO HS HLX
      generalize x.enc = xe at HC HS HLX
      dsimp only [Val.v] at HC
      generalize x.kind = ak, x.num = an, strB x.str = as', x.elems.length = al at c0 c1 c2 c3 HC
      go_wp2_with fail
      refine HC.out.mono ?_
      rintro e w3 ⟨U2, rfl, hO3, hb3⟩
      have ho3 := HO.out.below hb3
      obtain ⟨v4, w4, hr4, hO4, hg4, _⟩ := app_bytes ho3 (hO3.bs (by have := HLX.out; simp only [maxLen]; omega)) (Nat.le_trans HB.out.size hb3.size) HLX.out
      have HB4 := Lib.hid (below_grown (HB.out.trans (hb3.mono HB.out.size)) ho3 (Nat.le_refl _) (Nat.le_trans HB.out.size hb3.size) hg4)
      rw [← HS.out] at hO4
      have HO4 := Lib.hid hO4
      obtain ⟨AU, cU, rfl⟩ := hO3.form'
      clear hO3 hb3 ho3 hO4 hg4 HC c0 c1 c2 c3 x3 xz Xr HO HB HLX HS
      go_wp2
      exact ⟨⟨k + 1, v4, by omega, by go_num, rfl, HO4, HB4⟩, by simp [intOf]; omega⟩
    · obtain rfl : k = n := by omega
      have hfull : l.take k = l := List.take_of_length_le (by rw [HN.out]; exact Nat.le_refl _)
      rw [hfull] at HO
      have hTT : (3 :: numT k) ++ encL l = T := by rw [← HT.out]; rfl
      rw [hTT] at HO
      have HR : Hid (RetOwn T w (.returned V) wr) := ⟨V, rfl, HO.out.mono (by have := HZ.out; omega), ST.out.trans (HB.out.mono (by have := HZ.out; omega))⟩
      clear hfull hTT HO HB
      go_wp2
      go_ret
      exact HR.out

theorem EncR.all (d : Nat) : EncR d := by
  induction d using Nat.strongRecOn with
  | _ d ih =>
    intro x L w hV hok hf hlen
    obtain ⟨A, c, rfl, hm⟩ := hV.form
    have hk := okB_kind hok
    obtain ⟨k, n, s, l⟩ := x
    dsimp only [Val.v, Val.kind, Val.num, Val.str, Val.elems] at *
    rcases hk with rfl | rfl | rfl
    · have h := hf.nums
      rw [enc_1]
      exact rEncode_1 n h.1 h.2 (strB s) A _ c w
    · have h := hf.strs
      rw [enc_2] at hlen ⊢
      unfold maxLen at h
      exact rEncode_2 n s (by simp [Val.str] at h; omega) A _ c w (by simp at hlen; omega)
    · obtain ⟨_, _, ho3⟩ := okB_three hok
      rw [enc_3] at hlen ⊢
      exact rEncode_3 d ih n (strB s) l A c w hV ho3 hf.els hlen

set_option maxHeartbeats 1000000 in
theorem rEncode_any (d : Nat) (hd : d ≤ 1000) (x : Val) (L : Value) (w : World) (hV : ValsAt w w.heap.size d L x.elems) (hf : x.fits) (hlen : x.enc.length ≤ 79000000) :
    Calls Try.prog 13 #[x.v L] w (RetEnc (encT x) w) := by
  obtain ⟨A, c, rfl, hm⟩ := hV.form
  have hst := (Below.refl w.heap.size w).alloc (Nat.le_refl _) (.cells #[.int .i64 x.kind, .int .i64 x.num, .string (strB x.str), .slice A x.elems.length c] 24)
  have HC := Lib.hid (rCheck_any d hd x _ _ (hV.later hst))
  have ST := Lib.hid hst
  have X := Box.new w [.int .i64 x.kind, .int .i64 x.num, .string (strB x.str), .slice A x.elems.length c] 24
  by_cases hc : chkT x = 0
  · rw [enc_ok hc]
    obtain ⟨hok, _⟩ := chk_zero hc
    have HE := Lib.hid (fun w' (hb : Below (w.alloc (.cells #[.int .i64 x.kind, .int .i64 x.num, .string (strB x.str), .slice A x.elems.length c] 24)).heap.size (w.alloc (.cells #[.int .i64 x.kind, .int .i64 x.num, .string (strB x.str), .slice A x.elems.length c] 24)) w') => EncR.all d x _ w' ((hV.later hst).later hb) hok hf hlen)
    have HL := Lib.hid hlen
    rw [hc] at HC
    clear hV hst hf hlen hc hok
    dsimp only [Val.v] at HC ST HE X ⊢
    generalize x.enc = T at HE HL ⊢
    generalize x.kind = ak, x.num = an, strB x.str = as', x.elems.length = al at HC ST HE X ⊢
    go_enter Try.func13, Try.ntmps13
    go_wp2_with fail
    refine HC.out.mono ?_
    rintro e w1 ⟨rfl, hb1⟩
    have X1 := X.later hb1
    have x0 : w1.cell? ⟨w.heap.size, 0, none⟩ = some (.int .i64 ak) := X1.cell 0
    have x1 : w1.cell? ⟨w.heap.size, 1, none⟩ = some (.int .i64 an) := X1.cell 1
    have x2 : w1.cell? ⟨w.heap.size, 2, none⟩ = some (.string as') := X1.cell 2
    have x3 : w1.cell? ⟨w.heap.size, 3, none⟩ = some (.slice A al c) := X1.cell 3
    go_wp2_with fail
    refine (HE.out _ hb1).mono ?_
    rintro e w2 ⟨V, rfl, hO, hb2⟩
    have hBw := ST.out.trans ((hb1.trans (hb2.mono hb1.size)).mono (by simp))
    have HR : Hid (RetEnc (T, 0) w (.returned (.tuple #[V, .int .i64 0])) w2) := ⟨V, rfl, (hO.bs (by have := HL.out; simp only [maxLen]; omega)).weak (fun b hb _ => by have := hb1.size; simp at this; omega), hBw⟩
    clear hBw hO hb1 hb2 x0 x1 x2 x3 X1 X ST HC HE
    go_wp2
    go_ret2
    exact HR.out
  · rw [enc_err hc]
    have hc2 : (chkT x != 0) = true := by simpa using hc
    clear hV hst hf hlen hc X
    dsimp only [Val.v] at HC ST ⊢
    generalize chkT x = er at HC hc2 ⊢
    generalize x.kind = ak, x.num = an, strB x.str = as', x.elems.length = al at HC ST ⊢
    go_enter Try.func13, Try.ntmps13
    go_wp2_with fail
    refine HC.out.mono ?_
    rintro e w1 ⟨rfl, hb1⟩
    have HR : Hid (RetEnc ([], er) w (.returned (.tuple #[.slice none 0 0, .int .i64 er])) w1) := ⟨_, rfl, bsAt_nil _ _, ST.out.trans (hb1.mono (by simp))⟩
    clear hb1 HC ST
    go_wp2
    go_ret2
    exact HR.out

set_option maxHeartbeats 1000000 in
theorem rSize_any (d : Nat) (hd : d ≤ 1000) (x : Val) (L : Value) (w : World) (hV : ValsAt w w.heap.size d L x.elems) (hf : x.fits) (hlen : x.enc.length ≤ 79000000) :
    Calls Try.prog 15 #[x.v L] w fun e w' => e = .returned (.tuple #[.int .i64 ((encT x).1.length : Nat), .int .i64 (encT x).2]) ∧ Below w.heap.size w w' := by
  obtain ⟨A, c, rfl, hm⟩ := hV.form
  have hst := (Below.refl w.heap.size w).alloc (Nat.le_refl _) (.cells #[.int .i64 x.kind, .int .i64 x.num, .string (strB x.str), .slice A x.elems.length c] 24)
  have HC := Lib.hid (rEncode_any d hd x _ _ (hV.later hst) hf hlen)
  have HL := encT_le hlen
  have ST := Lib.hid hst
  clear hV hst hf hlen
  dsimp only [Val.v] at HC ST ⊢
  generalize encT x = t at HC HL ⊢
  obtain ⟨T, er⟩ := t
  dsimp only at HL ⊢
  obtain ⟨tl, htl⟩ : ∃ tl, T.length = tl := ⟨_, rfl⟩
  rw [htl] at HL ⊢
  replace htl := Lib.hid htl
  generalize x.kind = ak, x.num = an, strB x.str = as', x.elems.length = al at HC ST ⊢
  go_enter Try.func15, Try.ntmps15
  go_wp2_with fail
  refine HC.out.mono ?_
  rintro e w1 ⟨V, rfl, hb, hB1⟩
  obtain ⟨A2, c2, rfl, _⟩ := hb.form
  rw [htl.out]
  have hB := Lib.hid (ST.out.trans (hB1.mono (by simp)))
  clear hB1 ST HC hb
  go_wp2
  go_ret2
  exact ⟨rfl, hB.out⟩

end Go.Proofs.Ytcokkloaljaanaa
