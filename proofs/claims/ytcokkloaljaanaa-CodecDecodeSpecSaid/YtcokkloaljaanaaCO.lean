/-
  Contract of newWriter's closure for lists. (Printed by gen_co.py.)
-/
import Derived.Test.YtcokkloaljaanaaCN
import Derived.Deep.DrawnRows
namespace Go.Proofs.Ytcokkloaljaanaa
open Go.RowKit
attribute [local go_sem ↓ high] app_named

def W3 (d : Nat) : Prop := ∀ (n : Int) (sb : ByteArray) (l' : List Val) (A : Option Addr) (c : Nat) (base pb cb : Nat) (v : Value) (l : Bs) (w : World), okL l' = true → fitsL l' → ValsAt w base d (.slice A l'.length c) l' → OwnBs w base v l → base ≤ w.heap.size → Wtr w pb cb → pb < base → cb < base → l.length + (Val.mk 3 0 [] l').enc.length ≤ 80000000 →
    Calls Try.prog 41 #[v, .agg #[.int .i64 3, .int .i64 n, .string sb, .slice A l'.length c], .pointer (some ⟨cb, 0, none⟩)] w (RetApp (l ++ (Val.mk 3 0 [] l').enc) base v w)
theorem row_below {base B : Nat} {v : Value} {w w' : World} {l0 : Bs} (ho : OwnBs w base v l0) (hB : B ≤ base) (hs : base ≤ w.heap.size) (hg : w.grownBy w' v.ownBlock) : Below B w w' := below_grown (Below.refl B w) ho hB (Nat.le_trans hB hs) hg
theorem okB_kind {x : Val} (h : x.okB = true) : x.kind = 1 ∨ x.kind = 2 ∨ x.kind = 3 := by
  obtain ⟨k, n, s, l⟩ := x
  rw [Val.okB] at h
  dsimp only [Val.kind]
  split at h
  · exact .inl ‹_›
  · split at h
    · exact .inr (.inl ‹_›)
    · split at h
      · exact .inr (.inr ‹_›)
      · cases h
theorem okB_three {n : Int} {s : Bs} {l : List Val} (h : (Val.mk 3 n s l).okB = true) : n = 0 ∧ s = [] ∧ okL l = true := by
  rw [ok_of_list, Bool.and_eq_true, Bool.and_eq_true, decide_eq_true_eq] at h
  exact ⟨h.1, List.isEmpty_iff.1 h.2.1, h.2.2⟩
theorem okL_at {l : List Val} (h : okL l = true) {x : Val} (hx : x ∈ l) : x.okB = true := by
  rw [okL_all, List.all_eq_true] at h
  exact h x hx

set_option maxRecDepth 100000 in
set_option maxHeartbeats 8000000 in
theorem cW3_step (d : Nat) (ih : ∀ d', d' < d → W3 d') : W3 d := by
  intro m sb l' A c base pb cb v l w hok hfit hV ho hbase hW hpb hcb hlen
  obtain ⟨_, _, _, hm⟩ := hV.form
  unfold maxLen at hm
  have hE : l ++ (Val.mk 3 0 [] l').enc = ((l ++ [3]) ++ numT l'.length) ++ encL l' := by rw [enc_3]; simp only [List.append_assoc]
  have hlen2 : (l ++ [3]).length + (numT l'.length).length + (encL l').length ≤ 80000000 := by
    rw [enc_3] at hlen
    simp only [List.length_append, List.length_singleton] at hlen ⊢
    omega
  rw [hE]
  obtain ⟨T, hT⟩ : ∃ T, ((l ++ [3]) ++ numT l'.length) ++ encL l' = T := ⟨_, rfl⟩
  rw [hT]
  have HT := Lib.hid hT
  have HLEN := Lib.hid hlen2
  have HOK := Lib.hid hok
  have HFIT := Lib.hid hfit
  have HV := Lib.hid hV
  have HW := Lib.hid hW
  have IH := Lib.hid ih
  have HBASE := Lib.hid hbase
  have hst := (Below.refl w.heap.size w).alloc (Nat.le_refl _) (.cells #[.int .i64 3, .int .i64 m, .string sb, .slice A l'.length c] 24)
  have hst2 := (hst.drew).alloc (by simp) (.cells #[.int .u8 3] 5)
  have X := Box.newAt (w := (w.alloc (.cells #[.int .i64 3, .int .i64 m, .string sb, .slice A l'.length c] 24)).drew) (n := w.heap.size + 1) [.int .u8 3] 5 (by simp)
  have hl0 : (l ++ [3]).length ≤ 80000000 := by omega
  obtain ⟨v', w', hr, hO, hg, hL⟩ := app_one 3 (ho.below hst2) X (Nat.le_trans hbase hst2.size) (by simp at hl0; omega)
  have HN := Lib.hid (cNumeral_any l'.length (by omega) base v' (l ++ [3]) w' hO (Nat.le_trans hbase (Nat.le_trans hst2.size hg.size)) (by omega))
  have HG := Lib.hid (grownBy_below hst2 hg)
  have HL := Lib.hid (hL.below hst2)
  have HH := Lib.hid (Nat.le_trans hst2.size hg.size)
  have R : (appF #[27, 27] 27 #[v, .slice (some ⟨w.heap.size + 1, 0, none⟩) 1 1]).run Try.prog ((w.alloc (.cells #[.int .i64 3, .int .i64 m, .string sb, .slice A l'.length c] 24)).alloc (.cells #[.int .u8 3] 5)).drew = .ok v' w' := hr
  have Y := (Box.new w [.int .i64 3, .int .i64 m, .string sb, .slice A l'.length c] 24).drew.alloc (.cells #[.int .u8 3] 5)
  have Y2 := Y.grown hg (fun e => by have := (ho.lt e.symm).2; omega)
  have hne : Hid (some w.heap.size ≠ v'.ownBlock) := by
    rcases hL with h | ⟨g, h, hg2⟩
    · rw [Hid, h]
      exact fun e => by have := (ho.lt e.symm).2; omega
    · rw [Hid, h]
      intro e
      injection e with e
      simp at hg2
      omega
  obtain ⟨n, hn⟩ : ∃ n, l'.length = n := ⟨_, rfl⟩
  have HN2 := Lib.hid hn
  rw [hn] at HV HN R Y2 hm HT HLEN ⊢
  have y1 : w'.cell? ⟨w.heap.size, 3, none⟩ = some (.slice A n c) := Y2.cell 3
  have yz : w.heap.size < w'.heap.size := Y2.lt
  have HO0 := Lib.hid ho
  clear hr hO hg hL hst hst2 X Y Y2 hn hT hlen2 hok hfit hV hW ih hlen hE hl0 ho
  have hwr : IntKind.u64.wrap (n : Int) = (n : Int) := by rw [wrap_u64']; omega
  go_enter Try.func41, Try.ntmps41
  go_wp2_with fail
  go_region_held3 (fun w' => w'.cell? ⟨w.heap.size, 3, none⟩ = some (.slice A n c)) (go_keep) (((go_at_call 38; (with_reducible refine HN.out.mono ?_); rintro e w9 ⟨V, rfl, hOV, hGV, hLV⟩; have y9 := hGV.cell y1 hne.out)))
  have HG9 := Lib.hid (grownBy_trans HG.out HL.out hGV)
  have HL9 := Lib.hid (HL.out.trans HH.out hLV)
  have HO9 := Lib.hid hOV
  have yz9 : w.heap.size < w9.heap.size := Nat.lt_of_lt_of_le yz hGV.size
  clear hOV hGV hLV HG HL HH R HN y1 yz hne hwr
  go_wp2
  clear y9
  go_loopw [0, 19] (fun b i wr => ∃ (k : Nat) (V : Value), k ≤ n ∧ i = .int .i64 k ∧ b = V ∧ Hid (OwnBs wr base V (((l ++ [3]) ++ numT n) ++ encL (l'.take k))) ∧ Hid (w.grownBy wr v.ownBlock) ∧ Hid (Lies w v V)) (fun _ i _ => n - (intOf i).toNat)
  case atStart => exact ⟨0, V, Nat.zero_le _, rfl, rfl, by rw [List.take_zero, encL, List.append_nil]; exact HO9, HG9, HL9⟩
  case round =>
    clear HO9 HG9 HL9 yz9
    obtain ⟨k, V, hk, rfl, hVe, HO, HG, HL⟩ := hrel
    replace hVe := hVe.symm
    subst hVe
    have hBb : Below base w wr := row_below HO0.out (Nat.le_refl _) HBASE.out HG.out
    have hbw := Nat.le_trans HBASE.out HG.out.size
    by_cases hlt : k < n
    · have hlt' : k < l'.length := by rw [HN2.out]; exact hlt
      obtain ⟨d', b, off, U, rfl, rfl, hb, c0, c1, c2, c3, hE⟩ := HV.out.elem hlt'
      have htk := List.take_succ_eq_append_getElem hlt'
      have hxo := okL_at HOK.out (List.getElem_mem hlt')
      have hxf := fits_mem HFIT.out (List.getElem_mem hlt')
      generalize l'[k] = x at c0 c1 c2 c3 hE htk hxo hxf
      have hsp : (encL (l'.take (k + 1))).length ≤ (encL l').length := by
        have e := encL_append (l'.take (k + 1)) (l'.drop (k + 1))
        rw [List.take_append_drop] at e
        rw [e, List.length_append]
        omega
      have hsn : encL (l'.take (k + 1)) = encL (l'.take k) ++ x.enc := by rw [htk, encL_snoc]
      obtain ⟨xk, xn, xs, xl⟩ := x
      obtain ⟨A', c', rfl, _⟩ := hE.form
      dsimp only [Val.kind, Val.num, Val.str, Val.elems] at c0 c1 c2 c3 hE
      replace c0 := (hBb.cell (p := ⟨b, off + k * 4, none⟩) hb).trans c0
      replace c1 := (hBb.cell (p := ⟨b, off + k * 4 + 1, none⟩) hb).trans c1
      replace c2 := (hBb.cell (p := ⟨b, off + k * 4 + 2, none⟩) hb).trans c2
      replace c3 := (hBb.cell (p := ⟨b, off + k * 4 + 3, none⟩) hb).trans c3
      have HWr := HW.out.below hpb hcb hBb
      have HOB : Hid ((((l ++ [3]) ++ numT n) ++ encL (l'.take k)).length + (Val.mk xk xn xs xl).enc.length ≤ 80000000) := by
        have h1 := HLEN.out
        rw [hsn] at hsp
        rw [Hid]
        simp only [List.length_append] at h1 hsp ⊢
        omega
      have HS : Hid (((l ++ [3]) ++ numT n) ++ encL (l'.take (k + 1)) = (((l ++ [3]) ++ numT n) ++ encL (l'.take k)) ++ (Val.mk xk xn xs xl).enc) := by rw [Hid, hsn]; simp only [List.append_assoc]
      have HE := Lib.hid (hE.below hBb)
      have HBB := Lib.hid hBb
      clear hE htk hsp hsn hBb
      generalize ((l ++ [3]) ++ numT n) ++ encL (l'.take k) = P at HO HOB HS
      have hWx := HWr.1.lt
      have hCx := HWr.2.lt
      have HXF := Lib.hid hxf
      clear hxf
      rcases okB_kind hxo with rfl | rfl | rfl
      · have hst := (Below.refl wr.heap.size wr).alloc (Nat.le_refl _) (.cells #[.int .i64 1, .int .i64 xn, .string (strB xs), .slice A' xl.length c'] 24)
        have HC : Hid (∀ z, Below (wr.alloc (.cells #[.int .i64 1, .int .i64 xn, .string (strB xs), .slice A' xl.length c'] 24)).heap.size (wr.alloc (.cells #[.int .i64 1, .int .i64 xn, .string (strB xs), .slice A' xl.length c'] 24)) z → Calls Try.prog 37 #[V, .agg #[.int .i64 1, .int .i64 xn, .string (strB xs), .slice A' xl.length c']] z (RetApp (P ++ (Val.mk 1 xn xs xl).enc) base V z)) := Lib.hid fun z hz => by
          have h := HXF.out.nums
          have hl := HOB.out
          rw [enc_1] at hl ⊢
          rw [List.length_append] at hl
          exact cW1_any xn h.1 h.2 (strB xs) A' _ c' base V P z (HO.out.below (hst.trans (hz.mono hst.size))) (Nat.le_trans hbw (Nat.le_trans hst.size hz.size)) (by omega)
        rw [← HS.out] at HC
        have ST := Lib.hid hst
        have X := Box.new wr [.int .i64 1, .int .i64 xn, .string (strB xs), .slice A' xl.length c'] 24
        have Wp := HWr.1.later hst
        have Wc := HWr.2.later hst
        have HOw := Lib.hid (HO.out.below hst)
        have nX : Hid (some wr.heap.size ≠ V.ownBlock) := fun e => by have := (HO.out.lt e.symm).2; omega
        have nP : Hid (some pb ≠ V.ownBlock) := fun e => by have := (HO.out.lt e.symm).1; omega
        have nC : Hid (some cb ≠ V.ownBlock) := fun e => by have := (HO.out.lt e.symm).1; omega
        clear hst HS HE HOB HXF hxo
        generalize strB xs = xsb, xl.length = xll at c2 c3 HC ST X Wp Wc HOw
        go_wp2_with fail
        clear c0 c1 c2 c3
        generalize wr.alloc (.cells #[.int .i64 1, .int .i64 xn, .string xsb, .slice A' xll c'] 24) = W at HC ST X Wp Wc HOw ⊢
        generalize hbx : wr.heap.size = bx at X nX ⊢
        have hbx' := Lib.hid hbx
        clear hbx
        have x0 : W.cell? ⟨bx, 0, none⟩ = some (.int .i64 1) := X.cell 0
        have x1 : W.cell? ⟨bx, 1, none⟩ = some (.int .i64 xn) := X.cell 1
        have x2 : W.cell? ⟨bx, 2, none⟩ = some (.string xsb) := X.cell 2
        have x3 : W.cell? ⟨bx, 3, none⟩ = some (.slice A' xll c') := X.cell 3
        have p0 : W.cell? ⟨pb, 1, none⟩ = some (.func (.func 37) #[] #[]) := Wp.cell 1
        have q0 : W.cell? ⟨cb, 0, none⟩ = some (.pointer (some ⟨pb, 0, none⟩)) := Wc.cell 0
        go_region_held3 (fun w' => w'.cell? ⟨bx, 0, none⟩ = some (.int .i64 1) ∧ w'.cell? ⟨bx, 1, none⟩ = some (.int .i64 xn) ∧ w'.cell? ⟨bx, 2, none⟩ = some (.string xsb) ∧ w'.cell? ⟨bx, 3, none⟩ = some (.slice A' xll c') ∧ w'.cell? ⟨pb, 1, none⟩ = some (.func (.func 37) #[] #[]) ∧ w'.cell? ⟨cb, 0, none⟩ = some (.pointer (some ⟨pb, 0, none⟩))) (go_keep) (((go_at_call 37; (with_reducible refine (HC.out _ ((Below.refl _ _).drew)).mono ?_); rintro e w9 ⟨V2, rfl, hOV, hGV, hLV⟩; have g0 := (hGV.cell (w := W.drew) x0 nX.out); have g1 := (hGV.cell (w := W.drew) x1 nX.out); have g2 := (hGV.cell (w := W.drew) x2 nX.out); have g3 := (hGV.cell (w := W.drew) x3 nX.out); have g4 := (hGV.cell (w := W.drew) p0 nP.out); have g5 := (hGV.cell (w := W.drew) q0 nC.out))))
        have HG2 : Hid (w.grownBy w9 v.ownBlock) := Lib.hid (grownBy_trans HG.out HL.out (grownBy_below ST.out.drew hGV))
        have HL2 : Hid (Lies w v V2) := Lib.hid (HL.out.trans HG.out.size (Lies.below (w1 := W.drew) ST.out.drew hLV))
        have HO2 := Lib.hid hOV
        clear g0 g1 g2 g3 g4 g5 x0 x1 x2 x3 p0 q0 hOV hGV hLV HC X Wp Wc HOw nX nP nC ST HBB HO HG HL hbx'
        go_wp2
        exact ⟨⟨k + 1, V2, by omega, by go_num, rfl, HO2, HG2, HL2⟩, by simp [intOf]; omega⟩
      · have hst := (Below.refl wr.heap.size wr).alloc (Nat.le_refl _) (.cells #[.int .i64 2, .int .i64 xn, .string (strB xs), .slice A' xl.length c'] 24)
        have HC : Hid (∀ z, Below (wr.alloc (.cells #[.int .i64 2, .int .i64 xn, .string (strB xs), .slice A' xl.length c'] 24)).heap.size (wr.alloc (.cells #[.int .i64 2, .int .i64 xn, .string (strB xs), .slice A' xl.length c'] 24)) z → Calls Try.prog 40 #[V, .agg #[.int .i64 2, .int .i64 xn, .string (strB xs), .slice A' xl.length c']] z (RetApp (P ++ (Val.mk 2 xn xs xl).enc) base V z)) := Lib.hid fun z hz => by
          have h := HXF.out.strs
          have hl := HOB.out
          rw [enc_2] at hl ⊢
          rw [List.length_append, List.length_append] at hl
          unfold maxLen at h
          exact cW2_any xn xs (by simp [Val.str] at h; omega) A' _ c' base V P z (HO.out.below (hst.trans (hz.mono hst.size))) (Nat.le_trans hbw (Nat.le_trans hst.size hz.size)) (by omega)
        rw [← HS.out] at HC
        have ST := Lib.hid hst
        have X := Box.new wr [.int .i64 2, .int .i64 xn, .string (strB xs), .slice A' xl.length c'] 24
        have Wp := HWr.1.later hst
        have Wc := HWr.2.later hst
        have HOw := Lib.hid (HO.out.below hst)
        have nX : Hid (some wr.heap.size ≠ V.ownBlock) := fun e => by have := (HO.out.lt e.symm).2; omega
        have nP : Hid (some pb ≠ V.ownBlock) := fun e => by have := (HO.out.lt e.symm).1; omega
        have nC : Hid (some cb ≠ V.ownBlock) := fun e => by have := (HO.out.lt e.symm).1; omega
        clear hst HS HE HOB HXF hxo
        generalize strB xs = xsb, xl.length = xll at c2 c3 HC ST X Wp Wc HOw
        go_wp2_with fail
        clear c0 c1 c2 c3
        generalize wr.alloc (.cells #[.int .i64 2, .int .i64 xn, .string xsb, .slice A' xll c'] 24) = W at HC ST X Wp Wc HOw ⊢
        generalize hbx : wr.heap.size = bx at X nX ⊢
        have hbx' := Lib.hid hbx
        clear hbx
        have x0 : W.cell? ⟨bx, 0, none⟩ = some (.int .i64 2) := X.cell 0
        have x1 : W.cell? ⟨bx, 1, none⟩ = some (.int .i64 xn) := X.cell 1
        have x2 : W.cell? ⟨bx, 2, none⟩ = some (.string xsb) := X.cell 2
        have x3 : W.cell? ⟨bx, 3, none⟩ = some (.slice A' xll c') := X.cell 3
        have p0 : W.cell? ⟨pb, 2, none⟩ = some (.func (.func 40) #[] #[]) := Wp.cell 2
        have q0 : W.cell? ⟨cb, 0, none⟩ = some (.pointer (some ⟨pb, 0, none⟩)) := Wc.cell 0
        go_region_held3 (fun w' => w'.cell? ⟨bx, 0, none⟩ = some (.int .i64 2) ∧ w'.cell? ⟨bx, 1, none⟩ = some (.int .i64 xn) ∧ w'.cell? ⟨bx, 2, none⟩ = some (.string xsb) ∧ w'.cell? ⟨bx, 3, none⟩ = some (.slice A' xll c') ∧ w'.cell? ⟨pb, 2, none⟩ = some (.func (.func 40) #[] #[]) ∧ w'.cell? ⟨cb, 0, none⟩ = some (.pointer (some ⟨pb, 0, none⟩))) (go_keep) (((go_at_call 40; (with_reducible refine (HC.out _ ((Below.refl _ _).drew)).mono ?_); rintro e w9 ⟨V2, rfl, hOV, hGV, hLV⟩; have g0 := (hGV.cell (w := W.drew) x0 nX.out); have g1 := (hGV.cell (w := W.drew) x1 nX.out); have g2 := (hGV.cell (w := W.drew) x2 nX.out); have g3 := (hGV.cell (w := W.drew) x3 nX.out); have g4 := (hGV.cell (w := W.drew) p0 nP.out); have g5 := (hGV.cell (w := W.drew) q0 nC.out))))
        have HG2 : Hid (w.grownBy w9 v.ownBlock) := Lib.hid (grownBy_trans HG.out HL.out (grownBy_below ST.out.drew hGV))
        have HL2 : Hid (Lies w v V2) := Lib.hid (HL.out.trans HG.out.size (Lies.below (w1 := W.drew) ST.out.drew hLV))
        have HO2 := Lib.hid hOV
        clear g0 g1 g2 g3 g4 g5 x0 x1 x2 x3 p0 q0 hOV hGV hLV HC X Wp Wc HOw nX nP nC ST HBB HO HG HL hbx'
        go_wp2
        exact ⟨⟨k + 1, V2, by omega, by go_num, rfl, HO2, HG2, HL2⟩, by simp [intOf]; omega⟩
      · have hst := (Below.refl wr.heap.size wr).alloc (Nat.le_refl _) (.cells #[.int .i64 3, .int .i64 xn, .string (strB xs), .slice A' xl.length c'] 24)
        have HC : Hid (∀ z, Below (wr.alloc (.cells #[.int .i64 3, .int .i64 xn, .string (strB xs), .slice A' xl.length c'] 24)).heap.size (wr.alloc (.cells #[.int .i64 3, .int .i64 xn, .string (strB xs), .slice A' xl.length c'] 24)) z → Calls Try.prog 41 #[V, .agg #[.int .i64 3, .int .i64 xn, .string (strB xs), .slice A' xl.length c'], .pointer (some ⟨cb, 0, none⟩)] z (RetApp (P ++ (Val.mk 3 xn xs xl).enc) base V z)) := Lib.hid fun z hz => by
          obtain ⟨rfl, rfl, ho3⟩ := okB_three hxo
          have hbz : Below base wr z := (hst.trans (hz.mono hst.size)).mono hbw
          exact IH.out d' (by omega) 0 (strB []) xl A' c' base pb cb V P z ho3 HXF.out.els (HE.out.below hbz) (HO.out.below (hst.trans (hz.mono hst.size))) (Nat.le_trans hbw (Nat.le_trans hst.size hz.size)) (HWr.below hpb hcb hbz) hpb hcb (by have := HOB.out; omega)
        rw [← HS.out] at HC
        have ST := Lib.hid hst
        have X := Box.new wr [.int .i64 3, .int .i64 xn, .string (strB xs), .slice A' xl.length c'] 24
        have Wp := HWr.1.later hst
        have Wc := HWr.2.later hst
        have HOw := Lib.hid (HO.out.below hst)
        have nX : Hid (some wr.heap.size ≠ V.ownBlock) := fun e => by have := (HO.out.lt e.symm).2; omega
        have nP : Hid (some pb ≠ V.ownBlock) := fun e => by have := (HO.out.lt e.symm).1; omega
        have nC : Hid (some cb ≠ V.ownBlock) := fun e => by have := (HO.out.lt e.symm).1; omega
        clear hst HS HE HOB HXF hxo
        generalize strB xs = xsb, xl.length = xll at c2 c3 HC ST X Wp Wc HOw
        go_wp2_with fail
        clear c0 c1 c2 c3
        generalize wr.alloc (.cells #[.int .i64 3, .int .i64 xn, .string xsb, .slice A' xll c'] 24) = W at HC ST X Wp Wc HOw ⊢
        generalize hbx : wr.heap.size = bx at X nX ⊢
        have hbx' := Lib.hid hbx
        clear hbx
        have x0 : W.cell? ⟨bx, 0, none⟩ = some (.int .i64 3) := X.cell 0
        have x1 : W.cell? ⟨bx, 1, none⟩ = some (.int .i64 xn) := X.cell 1
        have x2 : W.cell? ⟨bx, 2, none⟩ = some (.string xsb) := X.cell 2
        have x3 : W.cell? ⟨bx, 3, none⟩ = some (.slice A' xll c') := X.cell 3
        have p0 : W.cell? ⟨pb, 3, none⟩ = some (.func (.func 41) #[] #[.pointer (some ⟨cb, 0, none⟩)]) := Wp.cell 3
        have q0 : W.cell? ⟨cb, 0, none⟩ = some (.pointer (some ⟨pb, 0, none⟩)) := Wc.cell 0
        go_region_held3 (fun w' => w'.cell? ⟨bx, 0, none⟩ = some (.int .i64 3) ∧ w'.cell? ⟨bx, 1, none⟩ = some (.int .i64 xn) ∧ w'.cell? ⟨bx, 2, none⟩ = some (.string xsb) ∧ w'.cell? ⟨bx, 3, none⟩ = some (.slice A' xll c') ∧ w'.cell? ⟨pb, 3, none⟩ = some (.func (.func 41) #[] #[.pointer (some ⟨cb, 0, none⟩)]) ∧ w'.cell? ⟨cb, 0, none⟩ = some (.pointer (some ⟨pb, 0, none⟩))) (go_keep) (((go_at_call 41; (with_reducible refine (HC.out _ ((Below.refl _ _).drew)).mono ?_); rintro e w9 ⟨V2, rfl, hOV, hGV, hLV⟩; have g0 := (hGV.cell (w := W.drew) x0 nX.out); have g1 := (hGV.cell (w := W.drew) x1 nX.out); have g2 := (hGV.cell (w := W.drew) x2 nX.out); have g3 := (hGV.cell (w := W.drew) x3 nX.out); have g4 := (hGV.cell (w := W.drew) p0 nP.out); have g5 := (hGV.cell (w := W.drew) q0 nC.out))))
        have HG2 : Hid (w.grownBy w9 v.ownBlock) := Lib.hid (grownBy_trans HG.out HL.out (grownBy_below ST.out.drew hGV))
        have HL2 : Hid (Lies w v V2) := Lib.hid (HL.out.trans HG.out.size (Lies.below (w1 := W.drew) ST.out.drew hLV))
        have HO2 := Lib.hid hOV
        clear g0 g1 g2 g3 g4 g5 x0 x1 x2 x3 p0 q0 hOV hGV hLV HC X Wp Wc HOw nX nP nC ST HBB HO HG HL hbx'
        go_wp2
        exact ⟨⟨k + 1, V2, by omega, by go_num, rfl, HO2, HG2, HL2⟩, by simp [intOf]; omega⟩
    · obtain rfl : k = n := by omega
      have hfull : l'.take k = l' := List.take_of_length_le (by rw [HN2.out]; exact Nat.le_refl _)
      rw [hfull, HT.out] at HO
      have HR : Hid (RetApp T base v w (.returned V) wr) := ⟨V, rfl, HO.out, HG.out, HL.out⟩
      clear hfull HO HG HL
      go_wp2
      go_ret
      exact HR.out

theorem W3.all (d : Nat) : W3 d := by
  induction d using Nat.strongRecOn with
  | _ d ih => exact cW3_step d ih

end Go.Proofs.Ytcokkloaljaanaa
