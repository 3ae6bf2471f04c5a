/-
  The law CodecLists. (Printed by gen_gi.py.)
-/
import Derived.Test.YtcokkloaljaanaaGI
import Derived.BigQuiet
namespace Go.Proofs.Ytcokkloaljaanaa
open Go.RowKit
attribute [local go_sem ↓ high] app_named

set_option maxRecDepth 100000 in
set_option maxHeartbeats 8000000 in
theorem lawL_no (l : List Val) (A : Option Addr) (n c d : Nat) (w : World) (hV : Hid (ValsAt w w.heap.size d (.slice A n c) l)) (hx : Hid (fitsL l)) (hq : Hid (l.all fewV = false)) : Calls Try.prog 8 #[.slice A n c] w (fun e w' => e = .returned (.bool true) ∧ Below w.heap.size w w') := by
  have hB := Below.refl w.heap.size w
  go_enter Try.func8, Try.ntmps8
  go_wp2_with fail
  refine (sane_any _).mono ?_
  rintro e w1 ⟨rfl, hb⟩
  have hV := vals_later hV hb
  have hB := hB.trans (hb.mono hB.size)
  clear hb
  go_wp2_with fail
  have HF := few_any _ l _ _ hV.out hx.out false hq
  go_wp2_with fail
  refine (HF).mono ?_
  rintro e w2 ⟨rfl, hb⟩
  have hV := vals_later hV hb
  have hB := hB.trans (hb.mono hB.size)
  clear hb
  clear HF
  go_wp2
  go_ret
  exact ⟨rfl, hB⟩

set_option maxRecDepth 100000 in
set_option maxHeartbeats 8000000 in
theorem lawL_long (l : List Val) (A : Option Addr) (n c d : Nat) (w : World) (hV : Hid (ValsAt w w.heap.size d (.slice A n c) l)) (hx : Hid (fitsL l)) (hq : Hid (l.all fewV = true)) (hl : 20 < n) (hn : n ≤ 9223372036854775807) : Calls Try.prog 8 #[.slice A n c] w (fun e w' => e = .returned (.bool true) ∧ Below w.heap.size w w') := by
  have hB := Below.refl w.heap.size w
  go_enter Try.func8, Try.ntmps8
  go_wp2_with fail
  refine (sane_any _).mono ?_
  rintro e w1 ⟨rfl, hb⟩
  have hV := vals_later hV hb
  have hB := hB.trans (hb.mono hB.size)
  clear hb
  go_wp2_with fail
  have HF := few_any _ l _ _ hV.out hx.out true hq
  go_wp2_with fail
  refine (HF).mono ?_
  rintro e w2 ⟨rfl, hb⟩
  have hV := vals_later hV hb
  have hB := hB.trans (hb.mono hB.size)
  clear hb
  clear HF
  go_wp2
  go_ret
  exact ⟨rfl, hB⟩

set_option maxRecDepth 100000 in
set_option maxHeartbeats 8000000 in
theorem lawL_go (l : List Val) (A : Option Addr) (n c d : Nat) (w : World) (hV : Hid (ValsAt w w.heap.size d (.slice A n c) l)) (hx : Hid (fitsL l)) (hd : Hid (d ≤ 100)) (hq : Hid (l.all fewV = true)) (hn20 : n ≤ 20) (hn : Hid (l.length = n)) (hel : Hid (∀ x ∈ l, x.enc.length ≤ 42000)) (hsum : Hid ((encL l).length ≤ 840000)) (hLl : Hid ((Val.mk 3 0 [] l).enc.length ≤ 79000000)) (T : Bs) (er : Int) (ht : Hid (encT (.mk 3 0 [] l) = (T, er))) (tn : Nat) (htn : Hid (T.length = tn)) : Calls Try.prog 8 #[.slice A n c] w (fun e w' => e = .returned (.bool true) ∧ Below w.heap.size w w') := by
  have hB := Below.refl w.heap.size w
  go_enter Try.func8, Try.ntmps8
  have hV0 := hV
  go_wp2_with fail
  refine (sane_any _).mono ?_
  rintro e w1 ⟨rfl, hb⟩
  have hV := vals_later hV hb
  have hB := hB.trans (hb.mono hB.size)
  clear hb
  go_wp2_with fail
  have HF := few_any _ l _ _ hV.out hx.out true hq
  go_wp2_with fail
  refine (HF).mono ?_
  rintro e w2 ⟨rfl, hb⟩
  have hV := vals_later hV hb
  have hB := hB.trans (hb.mono hB.size)
  clear hb
  clear HF
  clear hq
  go_wp2
  generalize hW : w2 = W at hB hV ⊢
  clear hW
  go_loopw [3, 4, 5, 31] (fun p z s i wr => ∃ (k : Nat) (P Z : Value), k ≤ n ∧ i = .int .i64 k ∧ p = P ∧ z = Z ∧ s = .int .i64 ((encL (l.take k)).length : Nat) ∧ Hid (OwnBs wr w.heap.size P (encL (l.take k))) ∧ Hid (OwnVals wr w.heap.size 0 Z (List.replicate k nul)) ∧ Hid (Apart P Z) ∧ Hid (∀ x ∈ l.take k, chkT x = 0) ∧ Below w.heap.size w wr) (fun _ _ _ i _ => n - (intOf i).toNat)
  case atStart => exact ⟨0, _, _, Nat.zero_le _, rfl, rfl, rfl, rfl, Lib.hid (by rw [List.take_zero, encL]; exact ownBs_nil _ _), Lib.hid (ownVals_nil _ _ _), Lib.hid (fun g hg => by cases hg), Lib.hid (fun x hx => by simp at hx), hB⟩
  case round =>
    clear hB hV
    obtain ⟨k, P, Z, hk, rfl, hPe, hZe, rfl, HP, HZ, HA, HC, hB⟩ := hrel
    replace hPe := hPe.symm
    subst hPe
    replace hZe := hZe.symm
    subst hZe
    by_cases hlt : k < n
    · have hlt' : k < l.length := by rw [hn.out]; exact hlt
      obtain ⟨d', b, off, U, rfl, rfl, hb, c0, c1, c2, c3, hE⟩ := (hV0.out.later hB).elem hlt'
      have htk := List.take_succ_eq_append_getElem hlt'
      have hxm := List.getElem_mem hlt'
      have hxf := Lib.hid (fits_mem hx.out hxm)
      have hxl := Lib.hid (hel.out _ hxm)
      generalize l[k] = x at c0 c1 c2 c3 hE htk hxm hxf hxl
      obtain ⟨xk, xn, xs, xl⟩ := x
      obtain ⟨A', c', rfl, _⟩ := hE.form
      dsimp only [Val.kind, Val.num, Val.str, Val.elems] at c0 c1 c2 c3 hE
      have HE : Hid (ValsAt wr wr.heap.size d' (.slice A' xl.length c') xl) := Lib.hid hE
      have hsn : Hid (encL (l.take (k + 1)) = encL (l.take k) ++ (Val.mk xk xn xs xl).enc) := by rw [Hid, htk, encL_snoc]
      have hsp : Hid ((encL (l.take k)).length ≤ 840000) := by
        have e := encL_append (l.take k) (l.drop k)
        rw [List.take_append_drop] at e
        have := hsum.out
        rw [e, List.length_append] at this
        rw [Hid]; omega
      replace htk := Lib.hid htk
      replace hxm := Lib.hid hxm
      have hd1 : d' ≤ 1000 := by have := hd.out; omega
      clear hE
      generalize xl.length = m at c3 HE
      rcases (Classical.em (chkT (Val.mk xk xn xs xl) = 0)).symm with hc | hc
      · have hTx : Hid (encT (Val.mk xk xn xs xl) = ([], chkT (Val.mk xk xn xs xl))) := Lib.hid (enc_err hc)
        have her : er ≠ 0 := by
          have e := ht.out
          rw [enc_err (list_bad hxm.out hc)] at e
          injection e with _ e
          rw [← e]
          exact list_bad hxm.out hc
        generalize chkT (Val.mk xk xn xs xl) = ex at hc hTx
        go_wp2_with fail
        have hst := ((Below.refl wr.heap.size wr).alloc (by simp <;> omega) (.cells #[.int .i64 xk, .int .i64 xn, .string (strB xs), .slice A' m c'] 24))
        have hBo := hB
        have HE := vals_later HE hst
        have HP := hp_later HP hst
        have HZ := hz_later HZ hst
        have hB := hB.trans (hst.mono hB.size)
        have X0 := (Box.newAt (w := wr) (n := wr.heap.size) [.int .i64 xk, .int .i64 xn, .string (strB xs), .slice A' m c'] 24 (by simp))
        clear hst
        generalize (wr.alloc (.cells #[.int .i64 xk, .int .i64 xn, .string (strB xs), .slice A' m c'] 24)) = w21 at hB  X0 HE HP HZ ⊢
        generalize wr.heap.size = X0a at X0 ⊢
        have HQ : Calls Try.prog 12 #[.agg #[.int .i64 xk, .int .i64 xn, .string (strB xs), .slice A' m c']] w21 (RetEnc ([], ex) w21) := by
          have := cEncode_any d' hd1 (.mk xk xn xs xl) _ w21 HE.out hxf.out (Nat.le_trans hxl.out (by decide))
          rw [hTx.out] at this
          exact this
        refine HQ.mono ?_
        intro e w22 hh
        obtain ⟨Ax, cx, rfl, Bx, hb⟩ := RetEnc.open hh (Lib.hid (rfl : ([] : Bs).length = 0))
        clear hh HQ
        have X0 := X0.later hb
        have HE := vals_later HE hb
        have HP := hp_later HP hb
        have HZ := hz_later HZ hb
        have hB := hB.trans (hb.mono hB.size)
        clear hb
        clear c0 c1 c2 c3
        have X0c0 : w22.cell? ⟨X0a, 0, none⟩ = some (.int .i64 xk) := X0.cell 0
        have X0c1 : w22.cell? ⟨X0a, 1, none⟩ = some (.int .i64 xn) := X0.cell 1
        have X0c2 : w22.cell? ⟨X0a, 2, none⟩ = some (.string (strB xs)) := X0.cell 2
        have X0c3 : w22.cell? ⟨X0a, 3, none⟩ = some (.slice A' m c') := X0.cell 3
        have X0z : X0a < w22.heap.size := X0.lt
        go_wp2_with fail
        clear X0c0 X0c1 X0c2 X0c3 X0z
        have HQ : Calls Try.prog 14 #[.agg #[.int .i64 xk, .int .i64 xn, .string (strB xs), .slice A' m c']] w22 (fun e w' => e = .returned (.tuple #[.int .i64 (0 : Nat), .int .i64 ex]) ∧ Below w22.heap.size w22 w') := by
          have := cSize_any d' hd1 (.mk xk xn xs xl) _ w22 HE.out hxf.out (Nat.le_trans hxl.out (by decide))
          rw [hTx.out] at this
          dsimp only at this
          rw [show ([] : Bs).length = 0 from rfl] at this
          exact this
        go_wp2_with fail
        refine (HQ).mono ?_
        rintro e w23 ⟨rfl, hb⟩
        have X0 := X0.later hb
        have HE := vals_later HE hb
        have HP := hp_later HP hb
        have HZ := hz_later HZ hb
        have Bx := by_later Bx hb
        have hB := hB.trans (hb.mono hB.size)
        clear hb
        clear HQ
        go_wp2_with fail
        refine (rList_any _ _ _ _).mono ?_
        rintro e w24 ⟨rfl, hb⟩
        have X0 := X0.later hb
        have HE := vals_later HE hb
        have HP := hp_later HP hb
        have HZ := hz_later HZ hb
        have Bx := by_later Bx hb
        have hB := hB.trans (hb.mono hB.size)
        clear hb
        have HL := Lib.hid (hV0.out.later hB)
        go_wp2_with fail
        have HQ : Calls Try.prog 12 #[.agg #[.int .i64 3, .int .i64 0, .string ⟨#[]⟩, .slice (some ⟨b, off, none⟩) n c]] w24 (RetEnc (T, er) w24) := by
          have := cEncode_any (d' + 1) (Nat.le_trans hd.out (by decide)) (.mk 3 0 [] l) _ w24 HL.out (list_fits hx.out (by rw [hn.out]; exact hn20)) hLl.out
          rw [ht.out] at this
          exact this
        refine HQ.mono ?_
        intro e w25 hh
        obtain ⟨Ae, ce, rfl, Be, hb⟩ := RetEnc.open hh htn
        clear hh HQ
        have X0 := X0.later hb
        have HE := vals_later HE hb
        have HP := hp_later HP hb
        have HZ := hz_later HZ hb
        have Bx := by_later Bx hb
        have hB := hB.trans (hb.mono hB.size)
        clear hb
        go_wp2
        go_ret
        exact ⟨by show Ending.returned (.bool (er != 0)) = _; rw [bne_iff_ne.2 her], hB⟩

      · have hTx : Hid (encT (Val.mk xk xn xs xl) = ((Val.mk xk xn xs xl).enc, 0)) := Lib.hid (enc_ok hc)
        have hc' := Lib.hid hc
        clear hc
        obtain ⟨tx, htx⟩ : ∃ tx, (Val.mk xk xn xs xl).enc.length = tx := ⟨_, rfl⟩
        have htl : tx ≤ 42000 := by rw [← htx]; exact hxl.out
        replace htx := Lib.hid htx
        go_wp2_with fail
        have hst := ((Below.refl wr.heap.size wr).alloc (by simp <;> omega) (.cells #[.int .i64 xk, .int .i64 xn, .string (strB xs), .slice A' m c'] 24))
        have hBo := hB
        have HE := vals_later HE hst
        have HP := hp_later HP hst
        have HZ := hz_later HZ hst
        have hB := hB.trans (hst.mono hB.size)
        have X0 := (Box.newAt (w := wr) (n := wr.heap.size) [.int .i64 xk, .int .i64 xn, .string (strB xs), .slice A' m c'] 24 (by simp))
        clear hst
        generalize (wr.alloc (.cells #[.int .i64 xk, .int .i64 xn, .string (strB xs), .slice A' m c'] 24)) = w21 at hB  X0 HE HP HZ ⊢
        generalize wr.heap.size = X0a at X0 ⊢
        have HQ : Calls Try.prog 12 #[.agg #[.int .i64 xk, .int .i64 xn, .string (strB xs), .slice A' m c']] w21 (RetEnc ((Val.mk xk xn xs xl).enc, 0) w21) := by
          have := cEncode_any d' hd1 (.mk xk xn xs xl) _ w21 HE.out hxf.out (Nat.le_trans hxl.out (by decide))
          rw [hTx.out] at this
          exact this
        refine HQ.mono ?_
        intro e w22 hh
        obtain ⟨Ax, cx, rfl, Bx, hb⟩ := RetEnc.open hh htx
        clear hh HQ
        have X0 := X0.later hb
        have HE := vals_later HE hb
        have HP := hp_later HP hb
        have HZ := hz_later HZ hb
        have hB := hB.trans (hb.mono hB.size)
        clear hb
        clear c0 c1 c2 c3
        have X0c0 : w22.cell? ⟨X0a, 0, none⟩ = some (.int .i64 xk) := X0.cell 0
        have X0c1 : w22.cell? ⟨X0a, 1, none⟩ = some (.int .i64 xn) := X0.cell 1
        have X0c2 : w22.cell? ⟨X0a, 2, none⟩ = some (.string (strB xs)) := X0.cell 2
        have X0c3 : w22.cell? ⟨X0a, 3, none⟩ = some (.slice A' m c') := X0.cell 3
        have X0z : X0a < w22.heap.size := X0.lt
        go_wp2_with fail
        clear X0c0 X0c1 X0c2 X0c3 X0z
        have HQ : Calls Try.prog 14 #[.agg #[.int .i64 xk, .int .i64 xn, .string (strB xs), .slice A' m c']] w22 (fun e w' => e = .returned (.tuple #[.int .i64 tx, .int .i64 0]) ∧ Below w22.heap.size w22 w') := by
          have := cSize_any d' hd1 (.mk xk xn xs xl) _ w22 HE.out hxf.out (Nat.le_trans hxl.out (by decide))
          rw [hTx.out] at this
          dsimp only at this
          rw [htx.out] at this
          exact this
        go_wp2_with fail
        refine (HQ).mono ?_
        rintro e w23 ⟨rfl, hb⟩
        have X0 := X0.later hb
        have HE := vals_later HE hb
        have HP := hp_later HP hb
        have HZ := hz_later HZ hb
        have Bx := by_later Bx hb
        have hB := hB.trans (hb.mono hB.size)
        clear hb
        clear HQ
        obtain ⟨P', w30, ha, hP', hgP, hlP⟩ := app_bytes HP.out Bx.out hB.size (by rw [htx.out]; have := hsp.out; omega)
        go_wp2_with fail
        clear ha
        have hB := hB.grown hgP hB.size (fun k hk => (HP.out.lt hk).1)
        have HZ1 := Lib.hid (HZ.out.keep0 hgP (fun g hz hp => HA.out g hp hz))
        have HA1 := Lib.hid (Apart.first HA.out hlP (fun g hg => (HZ.out.lt hg).2))
        have HP1 : Hid (OwnBs w30 w.heap.size P' (encL (l.take (k + 1)))) := Lib.hid (by rw [hsn.out]; exact hP')
        clear HP HZ HA hP' hgP hlP X0 HE Bx
        refine (rInt_any 0 _).mono ?_
        rintro e w31 ⟨rfl, hb⟩
        have hst := (Below.refl w31.heap.size w31).alloc (Nat.le_refl _) (.cells #[.int .i64 1, .int .i64 0, .string ⟨#[]⟩, .slice none 0 0] 24)
        have ZX := Box.new w31 [.int .i64 1, .int .i64 0, .string ⟨#[]⟩, .slice none 0 0] 24
        have HZ2 := (HZ1.out.below hb).below hst
        have HP2 := (HP1.out.below hb).below hst
        have hB := (hB.trans (hb.mono hB.size))
        have hB := (hB.trans (hst.mono hB.size))
        clear hb hst HZ1 HP1
        obtain ⟨Z', w32, ha, hZ', hgZ, hlZ⟩ := app_val2 (x := nul) HZ2 ZX (valsP_nil _ (fun b => (w31.alloc (.cells #[.int .i64 1, .int .i64 0, .string ⟨#[]⟩, .slice none 0 0] 24)).heap.size ≤ b) 0) hB.size (fun g hg => (HZ2.lt hg).2) hB.size (by rw [List.length_replicate]; omega)
        have hB := hB.grown hgZ hB.size (fun k hk => (HZ2.lt hk).1)
        have HP3 := Lib.hid (row_keep HP2 hgZ (fun g hp hz => HA1.out g hp hz))
        have HA3 := Lib.hid (Apart.second HA1.out hlZ (fun g hg => (HP2.lt hg).2))
        have HZ3 : Hid (OwnVals w32 w.heap.size 0 Z' (List.replicate (k + 1) nul)) := Lib.hid (by rw [List.replicate_succ']; exact hZ')
        have HC3 : Hid (∀ x ∈ l.take (k + 1), chkT x = 0) := Lib.hid fun x hx => by
          rw [htk.out] at hx
          rcases List.mem_append.1 hx with hx | hx
          · exact HC.out x hx
          · rw [List.mem_singleton.1 hx]
            exact hc'.out
        have hlen : (encL (l.take (k + 1))).length = (encL (l.take k)).length + tx := by rw [hsn.out, List.length_append, htx.out]
        have hsp' := hsp.out
        generalize (encL (l.take k)).length = sk at hlen hsp' ⊢
        clear hgZ hlZ HZ2 HP2 HA1 hZ' ZX
        go_wp2
        exact ⟨⟨k + 1, P', Z', by omega, by go_num, rfl, rfl, by rw [hlen]; go_num, HP3, HZ3, HA3, HC3, hB⟩, by simp [intOf]; omega⟩

    · have hkn : n = k := by omega
      subst hkn
      have htk : l.take n = l := List.take_of_length_le (by rw [hn.out]; exact Nat.le_refl _)
      rw [htk] at HP HC ⊢
      have her : (er = 0 ∧ T = (Val.mk 3 0 [] l).enc) ∨ er = 2 := by
        have e := ht.out
        rcases list_limit HC.out with h | h
        · rw [enc_ok h] at e
          injection e with e1 e2
          exact .inl ⟨e2.symm, e1.symm⟩
        · rw [enc_err (by rw [h]; decide), h] at e
          injection e with _ e
          exact .inr e.symm
      obtain ⟨Ap, cp, hPe⟩ := HP.out.form'
      obtain ⟨Az, cz, hZe⟩ := HZ.out.form
      rw [List.length_replicate] at hZe
      subst hPe
      subst hZe
      obtain ⟨sz, hsz⟩ : ∃ sz, (encL l).length = sz := ⟨_, rfl⟩
      have hsz2 : sz ≤ 840000 := by rw [← hsz]; exact hsum.out
      rw [hsz] at HP ⊢
      replace hsz := Lib.hid hsz
      clear htk HC HA hk hlt
      go_wp2_with fail
      refine (rList_any _ _ _ _).mono ?_
      rintro e w21 ⟨rfl, hb⟩
      have HP := hp_later HP hb
      have HZ := hz_later HZ hb
      have hB := hB.trans (hb.mono hB.size)
      clear hb
      have HL := Lib.hid (hV0.out.later hB)
      go_wp2_with fail
      have HQ : Calls Try.prog 12 #[.agg #[.int .i64 3, .int .i64 0, .string ⟨#[]⟩, .slice A n c]] w21 (RetEnc (T, er) w21) := by
        have := cEncode_any d (Nat.le_trans hd.out (by decide)) (.mk 3 0 [] l) _ w21 HL.out (list_fits hx.out (by rw [hn.out]; exact hn20)) hLl.out
        rw [ht.out] at this
        exact this
      refine HQ.mono ?_
      intro e w22 hh
      obtain ⟨Ae, ce, rfl, Be, hb⟩ := RetEnc.open hh htn
      clear hh HQ
      have HP := hp_later HP hb
      have HZ := hz_later HZ hb
      have hB := hB.trans (hb.mono hB.size)
      clear hb
      rcases her with ⟨rfl, hTe⟩ | rfl
      rotate_left
      · go_wp2
        go_ret
        exact ⟨rfl, hB⟩
      obtain ⟨a, ha⟩ : ∃ a, 1 + (numT n).length = a := ⟨_, rfl⟩
      have ha2 : 2 ≤ a ∧ a ≤ 100 := by
        have h1 := numT_pos n
        have h2 := numT_le (u := n) (by omega)
        omega
      have hte : tn = a + sz := by
        have := htn.out
        rw [hTe, list_len, hn.out, ha, hsz.out] at this
        exact this.symm
      subst hte
      have hdr : Hid (T.drop a = encL l) := by rw [Hid, hTe, ← ha, ← hn.out]; exact list_drop l
      have HZN : Hid (ValsAt w22 w22.heap.size 1 (.slice Az n cz) (List.replicate n nul)) := Lib.hid (HZ.out.done (by rw [List.length_replicate]; unfold maxLen; omega)).vals
      have hzl : Hid ((Val.mk 3 0 [] (List.replicate n nul)).enc.length = a + 2 * n) := by rw [Hid, list_len, zeros_encL, List.length_replicate, ha]
      clear hTe ha HL
      clear HZ
      go_wp2_with fail
      refine (rList_any _ _ _ _).mono ?_
      rintro e w23 ⟨rfl, hb⟩
      have HP := hp_later HP hb
      have HZN := vals_later HZN hb
      have Be := by_later Be hb
      have hB := hB.trans (hb.mono hB.size)
      clear hb
      have hzl2 := hzl.out
      go_wp2_with fail
      have HQ : Calls Try.prog 14 #[.agg #[.int .i64 3, .int .i64 0, .string ⟨#[]⟩, .slice Az n cz]] w23 (fun e w' => e = .returned (.tuple #[.int .i64 (a + 2 * n : Nat), .int .i64 0]) ∧ Below w23.heap.size w23 w') := by
        have := cSize_any 1 (by decide) (.mk 3 0 [] (List.replicate n nul)) _ w23 HZN.out (zeros_fits hn20) (by omega)
        rw [enc_ok (zeros_chk n)] at this
        dsimp only at this
        rw [hzl2] at this
        exact this
      go_wp2_with fail
      refine (HQ).mono ?_
      rintro e w24 ⟨rfl, hb⟩
      have HP := hp_later HP hb
      have HZN := vals_later HZN hb
      have Be := by_later Be hb
      have hB := hB.trans (hb.mono hB.size)
      clear hb
      clear HQ
      clear hzl2
      go_wp2
      have v2 : ∀ j, (convert 27 9 (.slice Ap sz cp)).run Try.prog (w24.drewN j) = .ok (.string (strB (encL l))) (w24.drewN j) := fun j => by
        have hq := (HP.out.bs (by rw [hsz.out]; unfold maxLen; omega)).keep (Keeps.of (below_drewN (Below.refl w24.heap.size w24) j))
        exact hq.str
      obtain ⟨be, oe, rfl, he1, he2, -, -⟩ := Be.out.row (by omega)
      have hk1 := fun j => (Be.out.keep (Keeps.of (below_drewN (Below.refl w24.heap.size w24) j)))
      have hcm : ce ≤ 9223372036854775807 := by unfold maxLen at he2; omega
      have e1 : IntKind.i64.wrap (2 * (n : Int)) = 2 * (n : Int) := by simp [IntKind.wrap, IntKind.bits, IntKind.signed]; omega
      have e2 : IntKind.i64.wrap ((a : Int) + 2 * (n : Int) - 2 * (n : Int)) = (a : Int) := by simp [IntKind.wrap, IntKind.bits, IntKind.signed]; omega
      have e3 : IntKind.i64.wrap (a : Int) = (a : Int) := by simp [IntKind.wrap, IntKind.bits, IntKind.signed]; omega
      have e4 : IntKind.i64.wrap ((a : Int) + (sz : Int)) = (a : Int) + (sz : Int) := by simp [IntKind.wrap, IntKind.bits, IntKind.signed]; omega
      have e5 : decide ((2 : Int) ≤ (a : Int)) = true := decide_eq_true (by omega)
      by_cases hca : ce = a
      · obtain rfl : sz = 0 := by omega
        subst hca
        have v1 := fun j => (hk1 j).drop0.str
        have e0 : encL l = [] := List.eq_nil_of_length_eq_zero hsz.out
        rw [e0] at v2
        generalize strB [] = st at v1 v2
        go_quiet (fail)
        go_wp2
        go_ret
        exact ⟨rfl, below_drewN hB _⟩
      · have v1 := fun j => ((hk1 j).drop (a := a) (by rw [htn.out]; omega) hca).str
        simp only [htn.out, hdr.out, Nat.add_sub_cancel_left] at v1
        generalize strB (encL l) = st at v1 v2
        go_quiet (fail)
        go_wp2
        go_ret
        exact ⟨rfl, below_drewN hB _⟩


theorem fews_nest {l : List Val} (hx : fitsL l) (hq : l.all fewV = true) : nestL l ≤ 21 ∧ ∀ x ∈ l, x.enc.length ≤ 42000 := by
  have h : ∀ x ∈ l, x.nest ≤ 20 ∧ x.enc.length ≤ 42000 := fun x hm => few_enc (fits_mem hx hm) (List.all_eq_true.1 hq x hm)
  exact ⟨nestL_le fun x hm => Nat.succ_le_succ (h x hm).1, fun x hm => (h x hm).2⟩
theorem encL_le {l : List Val} (h : ∀ x ∈ l, x.enc.length ≤ 42000) : (encL l).length ≤ 42000 * l.length := by
  induction l with
  | nil => simp [encL]
  | cons x l ih =>
    rw [encL, List.length_append, List.length_cons]
    have h1 := h x (List.mem_cons_self ..)
    have h2 := ih fun y hy => h y (List.mem_cons_of_mem _ hy)
    omega
theorem law_CodecLists (l : List Val) (V : Value) (d : Nat) (w : World) (hV : ValsAt w w.heap.size d V l) (hx : fitsL l) : Calls Try.prog 8 #[V] w (fun e w' => e = .returned (.bool true) ∧ Below w.heap.size w w') := by
  obtain ⟨A, c, rfl, hm⟩ := hV.form
  unfold maxLen at hm
  rcases hq : l.all fewV with _ | _
  · exact lawL_no l A _ c d w hV hx hq
  rcases Nat.lt_or_ge 20 l.length with hl | hl
  · exact lawL_long l A _ c d w hV hx hq hl hm
  obtain ⟨h1, h2⟩ := fews_nest hx hq
  have h3 := encL_le h2
  have h4 := numT_le (u := l.length) (by omega)
  exact lawL_go l A _ c 21 w (hV.fit h1) hx (Lib.hid (by decide)) hq hl rfl (Lib.hid h2) (Lib.hid (by omega)) (Lib.hid (by rw [list_len]; omega)) _ _ rfl _ rfl

end Go.Proofs.Ytcokkloaljaanaa
