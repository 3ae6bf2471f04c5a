/- Contract of newWriter's closure for lists. (Printed by gen_co.py.) -/
import Derived.Test.YtmbifmmkccghfaaGreatQK
import Derived.Test.YtmbifmmkccghfaaGreatQCK
import Derived.Deep.DrawnRows
set_option linter.unusedVariables false
set_option linter.unusedSimpArgs false
set_option maxRecDepth 100000
set_option maxHeartbeats 8000000
namespace Go.Proofs.YtmbifmmkccghfaaGreat
open Go.RowKit
attribute [local go_sem ↓ high] app_named
def W3 (d : Nat) : Prop := ∀ (n : Int) (sb : ByteArray) (l' : List Val) (A : Option Addr) (c : Nat) (base pb cb : Nat) (v : Value) (l : Bs) (w : World), okL l' = true → fitsL l' → ValsAt w base d (.slice A l'.length c) l' → OwnBs w base v l → base ≤ w.heap.size → Wtr w pb cb → pb < base → cb < base → l.length + (Val.mk 3 0 [] l').enc.length ≤ 80000000 →
    Calls Tryz.prog 95 #[v, .agg #[.int .i64 3, .int .i64 n, .string sb, .slice A l'.length c], .pointer (some ⟨cb, 0, none⟩)] w (RetApp (l ++ (Val.mk 3 0 [] l').enc) base v w)
theorem row_below {base B : Nat} {v : Value} {w w' : World} {l0 : Bs} (ho : OwnBs w base v l0) (hB : B ≤ base) (hs : base ≤ w.heap.size) (hg : w.grownBy w' v.ownBlock) : Below B w w' := below_grown (Below.refl B w) ho hB (Nat.le_trans hB hs) hg
theorem okB_kind {x : Val} (h : x.okB = true) : x.kind = 1 ∨ x.kind = 2 ∨ x.kind = 3 := by
  obtain ⟨k, n, s, l⟩ := x
  rw [Val.okB] at h
  dsimp only [Val.kind]
  split at h
  · exact .inl ‹_›
  · split at h
    · exact .inr (.inl ‹_›)
    · split at h
      · exact .inr (.inr ‹_›)
      · cases h
theorem okB_three {n : Int} {s : Bs} {l : List Val} (h : (Val.mk 3 n s l).okB = true) : n = 0 ∧ s = [] ∧ okL l = true := by
  rw [ok_of_list, Bool.and_eq_true, Bool.and_eq_true, decide_eq_true_eq] at h
  exact ⟨h.1, List.isEmpty_iff.1 h.2.1, h.2.2⟩
theorem okL_at {l : List Val} (h : okL l = true) {x : Val} (hx : x ∈ l) : x.okB = true := by
  rw [okL_all, List.all_eq_true] at h
  exact h x hx
theorem cW3_step (d : Nat) (ih : ∀ d', d' < d → W3 d') : W3 d := by
  intro m sb l' A c base pb cb v l w hok hfit hV ho hbase hW hpb hcb hlen
  obtain ⟨_, _, _, hm⟩ := hV.form
  unfold maxLen at hm
  have hE : l ++ (Val.mk 3 0 [] l').enc = ((l ++ [3]) ++ numT l'.length) ++ encL l' := by rw [enc_3]; simp only [List.append_assoc]
  have hlen2 : (l ++ [3]).length + (numT l'.length).length + (encL l').length ≤ 80000000 := by
    rw [enc_3] at hlen
    simp only [List.length_append, List.length_singleton] at hlen ⊢
    omega
  rw [hE]
  obtain ⟨T, hT⟩ : ∃ T, ((l ++ [3]) ++ numT l'.length) ++ encL l' = T := ⟨_, rfl⟩
  rw [hT]
  have HT := Lib.hid hT
  have HLEN := Lib.hid hlen2
  have HOK := Lib.hid hok
  have HFIT := Lib.hid hfit
  have HV := Lib.hid hV
  have HW := Lib.hid hW
  have IH := Lib.hid ih
  have HBASE := Lib.hid hbase
  have hst := (Below.refl w.heap.size w).alloc (Nat.le_refl _) (.cells #[.int .i64 3, .int .i64 m, .string sb, .slice A l'.length c] 151)
  have hst2 := (hst.drew).alloc (by simp) (.cells #[.int .u8 3] 5)
  have X := Box.newAt (w := (w.alloc (.cells #[.int .i64 3, .int .i64 m, .string sb, .slice A l'.length c] 151)).drew) (n := w.heap.size + 1) [.int .u8 3] 5 (by simp)
  have hl0 : (l ++ [3]).length ≤ 80000000 := by omega
  obtain ⟨v', w', hr, hO, hg, hL⟩ := app_one 3 (ho.below hst2) X (Nat.le_trans hbase hst2.size) (by simp at hl0; omega)
  have HN := Lib.hid (cNumeral_any l'.length (by omega) base v' (l ++ [3]) w' hO (Nat.le_trans hbase (Nat.le_trans hst2.size hg.size)) (by omega))
  have HG := Lib.hid (grownBy_below hst2 hg)
  have HL := Lib.hid (hL.below hst2)
  have HH := Lib.hid (Nat.le_trans hst2.size hg.size)
  have R : (appF #[91, 91] 91 #[v, .slice (some ⟨w.heap.size + 1, 0, none⟩) 1 1]).run Tryz.prog ((w.alloc (.cells #[.int .i64 3, .int .i64 m, .string sb, .slice A l'.length c] 151)).alloc (.cells #[.int .u8 3] 5)).drew = .ok v' w' := hr
  have Y := (Box.new w [.int .i64 3, .int .i64 m, .string sb, .slice A l'.length c] 151).drew.alloc (.cells #[.int .u8 3] 5)
  have Y2 := Y.grown hg (fun e => by have := (ho.lt e.symm).2; omega)
  have hne : Hid (some w.heap.size ≠ v'.ownBlock) := by
    rcases hL with h | ⟨g, h, hg2⟩
    · rw [Hid, h]
      exact fun e => by have := (ho.lt e.symm).2; omega
    · rw [Hid, h]
      intro e
      injection e with e
      simp at hg2
      omega
  obtain ⟨n, hn⟩ : ∃ n, l'.length = n := ⟨_, rfl⟩
  have HN2 := Lib.hid hn
  rw [hn] at HV HN R Y2 hm HT HLEN ⊢
  have y1 : w'.cell? ⟨w.heap.size, 3, none⟩ = some (.slice A n c) := Y2.cell 3
  have yz : w.heap.size < w'.heap.size := Y2.lt
  have HO0 := Lib.hid ho
  clear hr hO hg hL hst hst2 X Y Y2 hn hT hlen2 hok hfit hV hW ih hlen hE hl0 ho
  have hwr : IntKind.u64.wrap (n : Int) = (n : Int) := by rw [wrap_u64']; omega
  go_enter Tryz.func95, Tryz.ntmps95
  go_wp2_with fail
  go_region_held3 (fun w' => w'.cell? ⟨w.heap.size, 3, none⟩ = some (.slice A n c)) (go_keep) (((go_at_call 92; (with_reducible refine HN.out.mono ?_); rintro e w9 ⟨V, rfl, hOV, hGV, hLV⟩; have y9 := hGV.cell y1 hne.out)))
  have HG9 := Lib.hid (grownBy_trans HG.out HL.out hGV)
  have HL9 := Lib.hid (HL.out.trans HH.out hLV)
  have HO9 := Lib.hid hOV
  have yz9 : w.heap.size < w9.heap.size := Nat.lt_of_lt_of_le yz hGV.size
  clear hOV hGV hLV HG HL HH R HN y1 yz hne hwr
  go_wp2
  clear y9
  go_loopw [0, 19] (fun b i wr => ∃ (k : Nat) (V : Value), k ≤ n ∧ i = .int .i64 k ∧ b = V ∧ Hid (OwnBs wr base V (((l ++ [3]) ++ numT n) ++ encL (l'.take k))) ∧ Hid (w.grownBy wr v.ownBlock) ∧ Hid (Lies w v V)) (fun _ i _ => n - (intOf i).toNat)
  case atStart => exact ⟨0, V, Nat.zero_le _, rfl, rfl, by rw [List.take_zero, encL, List.append_nil]; exact HO9, HG9, HL9⟩
  case round =>
    clear HO9 HG9 HL9 yz9
    obtain ⟨k, V, hk, rfl, hVe, HO, HG, HL⟩ := hrel
    replace hVe := hVe.symm
    subst hVe
    have hBb : Below base w wr := row_below HO0.out (Nat.le_refl _) HBASE.out HG.out
    have hbw := Nat.le_trans HBASE.out HG.out.size
    by_cases hlt : k < n
    · have hlt' : k < l'.length := by rw [HN2.out]; exact hlt
      obtain ⟨d', b, off, U, rfl, rfl, hb, c0, c1, c2, c3, hE⟩ := HV.out.elem hlt'
      have htk := List.take_succ_eq_append_getElem hlt'
      have hxo := okL_at HOK.out (List.getElem_mem hlt')
      have hxf := fits_mem HFIT.out (List.getElem_mem hlt')
      generalize l'[k] = x at c0 c1 c2 c3 hE htk hxo hxf
      have hsp : (encL (l'.take (k + 1))).length ≤ (encL l').length := by
        have e := encL_append (l'.take (k + 1)) (l'.drop (k + 1))
        rw [List.take_append_drop] at e
        rw [e, List.length_append]
        omega
      have hsn : encL (l'.take (k + 1)) = encL (l'.take k) ++ x.enc := by rw [htk, encL_snoc]
      obtain ⟨xk, xn, xs, xl⟩ := x
      obtain ⟨A', c', rfl, _⟩ := hE.form
      dsimp only [Val.kind, Val.num, Val.str, Val.elems] at c0 c1 c2 c3 hE
      replace c0 := (hBb.cell (p := ⟨b, off + k * 4, none⟩) hb).trans c0
      replace c1 := (hBb.cell (p := ⟨b, off + k * 4 + 1, none⟩) hb).trans c1
      replace c2 := (hBb.cell (p := ⟨b, off + k * 4 + 2, none⟩) hb).trans c2
      replace c3 := (hBb.cell (p := ⟨b, off + k * 4 + 3, none⟩) hb).trans c3
      have HWr := HW.out.below hpb hcb hBb
      have HOB : Hid ((((l ++ [3]) ++ numT n) ++ encL (l'.take k)).length + (Val.mk xk xn xs xl).enc.length ≤ 80000000) := by
        have h1 := HLEN.out
        rw [hsn] at hsp
        rw [Hid]
        simp only [List.length_append] at h1 hsp ⊢
        omega
      have HS : Hid (((l ++ [3]) ++ numT n) ++ encL (l'.take (k + 1)) = (((l ++ [3]) ++ numT n) ++ encL (l'.take k)) ++ (Val.mk xk xn xs xl).enc) := by rw [Hid, hsn]; simp only [List.append_assoc]
      have HE := Lib.hid (hE.below hBb)
      have HBB := Lib.hid hBb
      clear hE htk hsp hsn hBb
      generalize ((l ++ [3]) ++ numT n) ++ encL (l'.take k) = P at HO HOB HS
      have hWx := HWr.1.lt
      have hCx := HWr.2.lt
      have HXF := Lib.hid hxf
      clear hxf
      rcases okB_kind hxo with rfl | rfl | rfl
      · have hst := (Below.refl wr.heap.size wr).alloc (Nat.le_refl _) (.cells #[.int .i64 1, .int .i64 xn, .string (strB xs), .slice A' xl.length c'] 151)
        have HC : Hid (∀ z, Below (wr.alloc (.cells #[.int .i64 1, .int .i64 xn, .string (strB xs), .slice A' xl.length c'] 151)).heap.size (wr.alloc (.cells #[.int .i64 1, .int .i64 xn, .string (strB xs), .slice A' xl.length c'] 151)) z → Calls Tryz.prog 91 #[V, .agg #[.int .i64 1, .int .i64 xn, .string (strB xs), .slice A' xl.length c']] z (RetApp (P ++ (Val.mk 1 xn xs xl).enc) base V z)) := Lib.hid fun z hz => by
          have h := HXF.out.nums
          have hl := HOB.out
          rw [enc_1] at hl ⊢
          rw [List.length_append] at hl
          exact cW1_any xn h.1 h.2 (strB xs) A' _ c' base V P z (HO.out.below (hst.trans (hz.mono hst.size))) (Nat.le_trans hbw (Nat.le_trans hst.size hz.size)) (by omega)
        rw [← HS.out] at HC
        have ST := Lib.hid hst
        have X := Box.new wr [.int .i64 1, .int .i64 xn, .string (strB xs), .slice A' xl.length c'] 151
        have Wp := HWr.1.later hst
        have Wc := HWr.2.later hst
        have HOw := Lib.hid (HO.out.below hst)
        have nX : Hid (some wr.heap.size ≠ V.ownBlock) := fun e => by have := (HO.out.lt e.symm).2; omega
        have nP : Hid (some pb ≠ V.ownBlock) := fun e => by have := (HO.out.lt e.symm).1; omega
        have nC : Hid (some cb ≠ V.ownBlock) := fun e => by have := (HO.out.lt e.symm).1; omega
        clear hst HS HE HOB HXF hxo
        generalize strB xs = xsb, xl.length = xll at c2 c3 HC ST X Wp Wc HOw
        go_wp2_with fail
        clear c0 c1 c2 c3
        generalize wr.alloc (.cells #[.int .i64 1, .int .i64 xn, .string xsb, .slice A' xll c'] 151) = W at HC ST X Wp Wc HOw ⊢
        generalize hbx : wr.heap.size = bx at X nX ⊢
        have hbx' := Lib.hid hbx
        clear hbx
        obtain ⟨x0, x1, x2, x3⟩ := X.c4
        have p0 : W.cell? ⟨pb, 1, none⟩ = some (.func (.func 91) #[] #[]) := Wp.cell 1
        have q0 : W.cell? ⟨cb, 0, none⟩ = some (.pointer (some ⟨pb, 0, none⟩)) := Wc.cell 0
        go_region_held3 (fun w' => w'.cell? ⟨bx, 0, none⟩ = some (.int .i64 1) ∧ w'.cell? ⟨bx, 1, none⟩ = some (.int .i64 xn) ∧ w'.cell? ⟨bx, 2, none⟩ = some (.string xsb) ∧ w'.cell? ⟨bx, 3, none⟩ = some (.slice A' xll c') ∧ w'.cell? ⟨pb, 1, none⟩ = some (.func (.func 91) #[] #[]) ∧ w'.cell? ⟨cb, 0, none⟩ = some (.pointer (some ⟨pb, 0, none⟩))) (go_keep) (((go_at_call 91; (with_reducible refine (HC.out _ ((Below.refl _ _).drew)).mono ?_); rintro e w9 ⟨V2, rfl, hOV, hGV, hLV⟩; have g0 := (hGV.cell (w := W.drew) x0 nX.out); have g1 := (hGV.cell (w := W.drew) x1 nX.out); have g2 := (hGV.cell (w := W.drew) x2 nX.out); have g3 := (hGV.cell (w := W.drew) x3 nX.out); have g4 := (hGV.cell (w := W.drew) p0 nP.out); have g5 := (hGV.cell (w := W.drew) q0 nC.out))))
        have HG2 : Hid (w.grownBy w9 v.ownBlock) := Lib.hid (grownBy_trans HG.out HL.out (grownBy_below ST.out.drew hGV))
        have HL2 : Hid (Lies w v V2) := Lib.hid (HL.out.trans HG.out.size (Lies.below (w1 := W.drew) ST.out.drew hLV))
        have HO2 := Lib.hid hOV
        clear g0 g1 g2 g3 g4 g5 x0 x1 x2 x3 p0 q0 hOV hGV hLV HC X Wp Wc HOw nX nP nC ST HBB HO HG HL hbx'
        go_wp2
        exact ⟨⟨k + 1, V2, by omega, by go_num, rfl, HO2, HG2, HL2⟩, by simp [intOf]; omega⟩
      · have hst := (Below.refl wr.heap.size wr).alloc (Nat.le_refl _) (.cells #[.int .i64 2, .int .i64 xn, .string (strB xs), .slice A' xl.length c'] 151)
        have HC : Hid (∀ z, Below (wr.alloc (.cells #[.int .i64 2, .int .i64 xn, .string (strB xs), .slice A' xl.length c'] 151)).heap.size (wr.alloc (.cells #[.int .i64 2, .int .i64 xn, .string (strB xs), .slice A' xl.length c'] 151)) z → Calls Tryz.prog 94 #[V, .agg #[.int .i64 2, .int .i64 xn, .string (strB xs), .slice A' xl.length c']] z (RetApp (P ++ (Val.mk 2 xn xs xl).enc) base V z)) := Lib.hid fun z hz => by
          have h := HXF.out.strs
          have hl := HOB.out
          rw [enc_2] at hl ⊢
          rw [List.length_append, List.length_append] at hl
          unfold maxLen at h
          exact cW2_any xn xs (by simp [Val.str] at h; omega) A' _ c' base V P z (HO.out.below (hst.trans (hz.mono hst.size))) (Nat.le_trans hbw (Nat.le_trans hst.size hz.size)) (by omega)
        rw [← HS.out] at HC
        have ST := Lib.hid hst
        have X := Box.new wr [.int .i64 2, .int .i64 xn, .string (strB xs), .slice A' xl.length c'] 151
        have Wp := HWr.1.later hst
        have Wc := HWr.2.later hst
        have HOw := Lib.hid (HO.out.below hst)
        have nX : Hid (some wr.heap.size ≠ V.ownBlock) := fun e => by have := (HO.out.lt e.symm).2; omega
        have nP : Hid (some pb ≠ V.ownBlock) := fun e => by have := (HO.out.lt e.symm).1; omega
        have nC : Hid (some cb ≠ V.ownBlock) := fun e => by have := (HO.out.lt e.symm).1; omega
        clear hst HS HE HOB HXF hxo
        generalize strB xs = xsb, xl.length = xll at c2 c3 HC ST X Wp Wc HOw
        go_wp2_with fail
        clear c0 c1 c2 c3
        generalize wr.alloc (.cells #[.int .i64 2, .int .i64 xn, .string xsb, .slice A' xll c'] 151) = W at HC ST X Wp Wc HOw ⊢
        generalize hbx : wr.heap.size = bx at X nX ⊢
        have hbx' := Lib.hid hbx
        clear hbx
        obtain ⟨x0, x1, x2, x3⟩ := X.c4
        have p0 : W.cell? ⟨pb, 2, none⟩ = some (.func (.func 94) #[] #[]) := Wp.cell 2
        have q0 : W.cell? ⟨cb, 0, none⟩ = some (.pointer (some ⟨pb, 0, none⟩)) := Wc.cell 0
        go_region_held3 (fun w' => w'.cell? ⟨bx, 0, none⟩ = some (.int .i64 2) ∧ w'.cell? ⟨bx, 1, none⟩ = some (.int .i64 xn) ∧ w'.cell? ⟨bx, 2, none⟩ = some (.string xsb) ∧ w'.cell? ⟨bx, 3, none⟩ = some (.slice A' xll c') ∧ w'.cell? ⟨pb, 2, none⟩ = some (.func (.func 94) #[] #[]) ∧ w'.cell? ⟨cb, 0, none⟩ = some (.pointer (some ⟨pb, 0, none⟩))) (go_keep) (((go_at_call 94; (with_reducible refine (HC.out _ ((Below.refl _ _).drew)).mono ?_); rintro e w9 ⟨V2, rfl, hOV, hGV, hLV⟩; have g0 := (hGV.cell (w := W.drew) x0 nX.out); have g1 := (hGV.cell (w := W.drew) x1 nX.out); have g2 := (hGV.cell (w := W.drew) x2 nX.out); have g3 := (hGV.cell (w := W.drew) x3 nX.out); have g4 := (hGV.cell (w := W.drew) p0 nP.out); have g5 := (hGV.cell (w := W.drew) q0 nC.out))))
        have HG2 : Hid (w.grownBy w9 v.ownBlock) := Lib.hid (grownBy_trans HG.out HL.out (grownBy_below ST.out.drew hGV))
        have HL2 : Hid (Lies w v V2) := Lib.hid (HL.out.trans HG.out.size (Lies.below (w1 := W.drew) ST.out.drew hLV))
        have HO2 := Lib.hid hOV
        clear g0 g1 g2 g3 g4 g5 x0 x1 x2 x3 p0 q0 hOV hGV hLV HC X Wp Wc HOw nX nP nC ST HBB HO HG HL hbx'
        go_wp2
        exact ⟨⟨k + 1, V2, by omega, by go_num, rfl, HO2, HG2, HL2⟩, by simp [intOf]; omega⟩
      · have hst := (Below.refl wr.heap.size wr).alloc (Nat.le_refl _) (.cells #[.int .i64 3, .int .i64 xn, .string (strB xs), .slice A' xl.length c'] 151)
        have HC : Hid (∀ z, Below (wr.alloc (.cells #[.int .i64 3, .int .i64 xn, .string (strB xs), .slice A' xl.length c'] 151)).heap.size (wr.alloc (.cells #[.int .i64 3, .int .i64 xn, .string (strB xs), .slice A' xl.length c'] 151)) z → Calls Tryz.prog 95 #[V, .agg #[.int .i64 3, .int .i64 xn, .string (strB xs), .slice A' xl.length c'], .pointer (some ⟨cb, 0, none⟩)] z (RetApp (P ++ (Val.mk 3 xn xs xl).enc) base V z)) := Lib.hid fun z hz => by
          obtain ⟨rfl, rfl, ho3⟩ := okB_three hxo
          have hbz : Below base wr z := (hst.trans (hz.mono hst.size)).mono hbw
          exact IH.out d' (by omega) 0 (strB []) xl A' c' base pb cb V P z ho3 HXF.out.els (HE.out.below hbz) (HO.out.below (hst.trans (hz.mono hst.size))) (Nat.le_trans hbw (Nat.le_trans hst.size hz.size)) (HWr.below hpb hcb hbz) hpb hcb (by have := HOB.out; omega)
        rw [← HS.out] at HC
        have ST := Lib.hid hst
        have X := Box.new wr [.int .i64 3, .int .i64 xn, .string (strB xs), .slice A' xl.length c'] 151
        have Wp := HWr.1.later hst
        have Wc := HWr.2.later hst
        have HOw := Lib.hid (HO.out.below hst)
        have nX : Hid (some wr.heap.size ≠ V.ownBlock) := fun e => by have := (HO.out.lt e.symm).2; omega
        have nP : Hid (some pb ≠ V.ownBlock) := fun e => by have := (HO.out.lt e.symm).1; omega
        have nC : Hid (some cb ≠ V.ownBlock) := fun e => by have := (HO.out.lt e.symm).1; omega
        clear hst HS HE HOB HXF hxo
        generalize strB xs = xsb, xl.length = xll at c2 c3 HC ST X Wp Wc HOw
        go_wp2_with fail
        clear c0 c1 c2 c3
        generalize wr.alloc (.cells #[.int .i64 3, .int .i64 xn, .string xsb, .slice A' xll c'] 151) = W at HC ST X Wp Wc HOw ⊢
        generalize hbx : wr.heap.size = bx at X nX ⊢
        have hbx' := Lib.hid hbx
        clear hbx
        obtain ⟨x0, x1, x2, x3⟩ := X.c4
        have p0 : W.cell? ⟨pb, 3, none⟩ = some (.func (.func 95) #[] #[.pointer (some ⟨cb, 0, none⟩)]) := Wp.cell 3
        have q0 : W.cell? ⟨cb, 0, none⟩ = some (.pointer (some ⟨pb, 0, none⟩)) := Wc.cell 0
        go_region_held3 (fun w' => w'.cell? ⟨bx, 0, none⟩ = some (.int .i64 3) ∧ w'.cell? ⟨bx, 1, none⟩ = some (.int .i64 xn) ∧ w'.cell? ⟨bx, 2, none⟩ = some (.string xsb) ∧ w'.cell? ⟨bx, 3, none⟩ = some (.slice A' xll c') ∧ w'.cell? ⟨pb, 3, none⟩ = some (.func (.func 95) #[] #[.pointer (some ⟨cb, 0, none⟩)]) ∧ w'.cell? ⟨cb, 0, none⟩ = some (.pointer (some ⟨pb, 0, none⟩))) (go_keep) (((go_at_call 95; (with_reducible refine (HC.out _ ((Below.refl _ _).drew)).mono ?_); rintro e w9 ⟨V2, rfl, hOV, hGV, hLV⟩; have g0 := (hGV.cell (w := W.drew) x0 nX.out); have g1 := (hGV.cell (w := W.drew) x1 nX.out); have g2 := (hGV.cell (w := W.drew) x2 nX.out); have g3 := (hGV.cell (w := W.drew) x3 nX.out); have g4 := (hGV.cell (w := W.drew) p0 nP.out); have g5 := (hGV.cell (w := W.drew) q0 nC.out))))
        have HG2 : Hid (w.grownBy w9 v.ownBlock) := Lib.hid (grownBy_trans HG.out HL.out (grownBy_below ST.out.drew hGV))
        have HL2 : Hid (Lies w v V2) := Lib.hid (HL.out.trans HG.out.size (Lies.below (w1 := W.drew) ST.out.drew hLV))
        have HO2 := Lib.hid hOV
        clear g0 g1 g2 g3 g4 g5 x0 x1 x2 x3 p0 q0 hOV hGV hLV HC X Wp Wc HOw nX nP nC ST HBB HO HG HL hbx'
        go_wp2
        exact ⟨⟨k + 1, V2, by omega, by go_num, rfl, HO2, HG2, HL2⟩, by simp [intOf]; omega⟩
    · obtain rfl : k = n := by omega
      have hfull : l'.take k = l' := List.take_of_length_le (by rw [HN2.out]; exact Nat.le_refl _)
      rw [hfull, HT.out] at HO
      have HR : Hid (RetApp T base v w (.returned V) wr) := ⟨V, rfl, HO.out, HG.out, HL.out⟩
      clear hfull HO HG HL
      go_wp2
      go_ret
      exact HR.out
theorem W3.all (d : Nat) : W3 d := by
  induction d using Nat.strongRecOn with
  | _ d ih => exact cW3_step d ih
end Go.Proofs.YtmbifmmkccghfaaGreat
namespace Go.Proofs.YtmbifmmkccghfaaGreat
open Go.RowKit
attribute [local go_sem ↓ high] app_named
def encT (x : Val) : Bs × Int := if chkT x = 0 then (x.enc, 0) else ([], chkT x)
def RetEnc (t : Bs × Int) (w : World) (e : Ending) (w' : World) : Prop := ∃ V, e = .returned (.tuple #[V, .int .i64 t.2]) ∧ BsAt w' (fun b => w.heap.size ≤ b) V t.1 ∧ Below w.heap.size w w'
theorem enc_err {x : Val} (h : chkT x ≠ 0) : encT x = ([], chkT x) := if_neg h
theorem enc_ok {x : Val} (h : chkT x = 0) : encT x = (x.enc, 0) := if_pos h
theorem chk_zero {x : Val} (h : chkT x = 0) : x.okB = true ∧ x.depth ≤ 16 := by
  unfold chkT at h
  split at h
  · rename_i h1
    split at h
    · cases h
    · exact ⟨h1, by omega⟩
  · cases h
theorem cEncode_err (d : Nat) (hd : d ≤ 1000) (x : Val) (L : Value) (w : World) (hV : ValsAt w w.heap.size d L x.elems) (hc : chkT x ≠ 0) :
    Calls Tryz.prog 64 #[x.v L] w (RetEnc (encT x) w) := by
  obtain ⟨A, c, rfl, hm⟩ := hV.form
  rw [enc_err hc]
  have hst := (Below.refl w.heap.size w).alloc (Nat.le_refl _) (.cells #[.int .i64 x.kind, .int .i64 x.num, .string (strB x.str), .slice A x.elems.length c] 151)
  have HC := Lib.hid (cCheck_any d hd x _ _ (hV.later hst))
  have ST := Lib.hid hst
  clear hV hst
  dsimp only [Val.v] at HC ST ⊢
  have hc2 : (chkT x != 0) = true := by simpa using hc
  clear hc
  generalize chkT x = er at HC hc2 ⊢
  generalize x.kind = ak, x.num = an, strB x.str = as', x.elems.length = al at HC ST ⊢
  go_enter Tryz.func64, Tryz.ntmps64
  go_wp2_with fail
  refine HC.out.mono ?_
  rintro e w1 ⟨rfl, hb1⟩
  have HR : Hid (RetEnc ([], er) w (.returned (.tuple #[.slice none 0 0, .int .i64 er])) w1) := ⟨_, rfl, bsAt_nil _ _, ST.out.trans (hb1.mono (by simp))⟩
  clear hb1 HC ST
  go_wp2
  go_ret2
  exact HR.out
theorem cEncode_1 (d : Nat) (hd : d ≤ 1000) (xn : Int) (xs : Bs) (xl : List Val) (A : Option Addr) (c : Nat) (w : World) (hV : ValsAt w w.heap.size d (.slice A xl.length c) xl) (hc : chkT (.mk 1 xn xs xl) = 0) (hf : (Val.mk 1 xn xs xl).fits) (hlen : (Val.mk 1 xn xs xl).enc.length ≤ 79000000) :
    Calls Tryz.prog 64 #[.agg #[.int .i64 1, .int .i64 xn, .string (strB xs), .slice A xl.length c]] w (RetEnc (encT (.mk 1 xn xs xl)) w) := by
  rw [enc_ok hc]
  obtain ⟨hok, _⟩ := chk_zero hc
  have hst := (Below.refl w.heap.size w).alloc (Nat.le_refl _) (.cells #[.int .i64 1, .int .i64 xn, .string (strB xs), .slice A xl.length c] 151)
  have HC := Lib.hid (cCheck_any d hd (.mk 1 xn xs xl) _ _ (hV.later hst))
  rw [hc] at HC
  dsimp only [Val.v, Val.kind, Val.num, Val.str, Val.elems] at HC
  have HW : Hid (∀ z pb cb, ValsAt z z.heap.size d (.slice A xl.length c) xl → Wtr z pb cb → pb < z.heap.size → cb < z.heap.size → Calls Tryz.prog 91 #[.slice none 0 0, .agg #[.int .i64 1, .int .i64 xn, .string (strB xs), .slice A xl.length c]] z (RetApp (Val.mk 1 xn xs xl).enc z.heap.size (.slice none 0 0) z)) := Lib.hid fun z pb cb hz1 hz2 hz3 hz4 => by
    have h := hf.nums
    rw [enc_1, ← List.nil_append ([1] ++ _)]
    exact cW1_any xn h.1 h.2 (strB xs) A _ c z.heap.size (.slice none 0 0) [] z (nilOwn z _) (Nat.le_refl _) (by simp)
  have HLEN := Lib.hid hlen
  have HV := Lib.hid hV
  have ST := Lib.hid hst
  have X := Box.new w [.int .i64 1, .int .i64 xn, .string (strB xs), .slice A xl.length c] 151
  clear hV hst hc hok hf hlen
  generalize (Val.mk 1 xn xs xl).enc = T at HW HLEN ⊢
  generalize strB xs = xsb, hxll : xl.length = xll at HC HW ST X HV ⊢
  clear hxll
  go_enter Tryz.func64, Tryz.ntmps64
  go_wp2_with fail
  refine HC.out.mono ?_
  rintro e w1 ⟨rfl, hb1⟩
  replace X := X.later hb1
  have HB1 := Lib.hid (ST.out.trans (hb1.mono (by simp)))
  clear hb1 HC ST
  obtain ⟨x0, x1, x2, x3⟩ := X.c4
  have xz := X.lt
  go_wp2_with fail
  go_region_with (first | (go_at_call 79; refine (newWriter_any _).mono ?_; rintro e w2 ⟨rfl, hW2, hb2, hz2⟩; have X2 := Box.later X (Below.drew (Below.refl w1.heap.size w1)) |>.later hb2; have g0 := X2.cell 0; have g1 := X2.cell 1; have g2 := X2.cell 2; have g3 := X2.cell 3; simp only [List.getElem?_cons_succ, List.getElem?_cons_zero] at g0 g1 g2 g3; have p0 : w2.cell? ⟨w1.heap.size, 1, none⟩ = some (.func (.func 91) #[] #[]) := hW2.out.1.cell 1; have pz : w1.heap.size < w2.heap.size := hW2.out.1.lt; have HV2 := HV.out.later (HB1.out.drew.trans (hb2.mono HB1.out.size)); have hW3 : Hid (Wtr w2 w1.heap.size (w1.heap.size + 1)) := hW2; have hz3 : w1.heap.size + 2 ≤ w2.heap.size := hz2) | (go_at_call 91; (with_reducible refine (HW.out w2 w1.heap.size (w1.heap.size + 1) HV2 hW3.out (by omega) (by omega)).mono ?_); rintro e w3 ⟨V, rfl, hOV, hGV, hLV⟩; have k0 := hGV.cell g0 (by simp [Value.ownBlock]); have k1 := hGV.cell g1 (by simp [Value.ownBlock]); have k2 := hGV.cell g2 (by simp [Value.ownBlock]); have k3 := hGV.cell g3 (by simp [Value.ownBlock])))
  all_goals
    have hBw := ((HB1.out.drew.trans (hb2.mono HB1.out.size)).grown hGV (Nat.le_trans HB1.out.size (by omega)) (fun k hk => by simp [Value.ownBlock] at hk))
    have HR : Hid (RetEnc (T, 0) w (.returned (.tuple #[V, .int .i64 0])) w3) := ⟨V, rfl, (hOV.bs (by have := HLEN.out; simp only [maxLen]; omega)).weak (fun b hb _ => by omega), hBw⟩
    clear k0 k1 k2 k3 g0 g1 g2 g3 x0 x1 x2 x3 p0 hOV hGV hLV hW2 hW3 hb2 hz2 X2 X HV2 hBw HB1 HW HV HLEN
    go_wp2
    go_ret2
    exact HR.out
theorem cEncode_2 (d : Nat) (hd : d ≤ 1000) (xn : Int) (xs : Bs) (xl : List Val) (A : Option Addr) (c : Nat) (w : World) (hV : ValsAt w w.heap.size d (.slice A xl.length c) xl) (hc : chkT (.mk 2 xn xs xl) = 0) (hf : (Val.mk 2 xn xs xl).fits) (hlen : (Val.mk 2 xn xs xl).enc.length ≤ 79000000) :
    Calls Tryz.prog 64 #[.agg #[.int .i64 2, .int .i64 xn, .string (strB xs), .slice A xl.length c]] w (RetEnc (encT (.mk 2 xn xs xl)) w) := by
  rw [enc_ok hc]
  obtain ⟨hok, _⟩ := chk_zero hc
  have hst := (Below.refl w.heap.size w).alloc (Nat.le_refl _) (.cells #[.int .i64 2, .int .i64 xn, .string (strB xs), .slice A xl.length c] 151)
  have HC := Lib.hid (cCheck_any d hd (.mk 2 xn xs xl) _ _ (hV.later hst))
  rw [hc] at HC
  dsimp only [Val.v, Val.kind, Val.num, Val.str, Val.elems] at HC
  have HW : Hid (∀ z pb cb, ValsAt z z.heap.size d (.slice A xl.length c) xl → Wtr z pb cb → pb < z.heap.size → cb < z.heap.size → Calls Tryz.prog 94 #[.slice none 0 0, .agg #[.int .i64 2, .int .i64 xn, .string (strB xs), .slice A xl.length c]] z (RetApp (Val.mk 2 xn xs xl).enc z.heap.size (.slice none 0 0) z)) := Lib.hid fun z pb cb hz1 hz2 hz3 hz4 => by
    have h := hf.strs
    rw [enc_2] at hlen
    rw [enc_2, ← List.nil_append ([2] ++ _ ++ _)]
    unfold maxLen at h
    exact cW2_any xn xs (by simp [Val.str] at h; omega) A _ c z.heap.size (.slice none 0 0) [] z (nilOwn z _) (Nat.le_refl _) (by simp at hlen ⊢; omega)
  have HLEN := Lib.hid hlen
  have HV := Lib.hid hV
  have ST := Lib.hid hst
  have X := Box.new w [.int .i64 2, .int .i64 xn, .string (strB xs), .slice A xl.length c] 151
  clear hV hst hc hok hf hlen
  generalize (Val.mk 2 xn xs xl).enc = T at HW HLEN ⊢
  generalize strB xs = xsb, hxll : xl.length = xll at HC HW ST X HV ⊢
  clear hxll
  go_enter Tryz.func64, Tryz.ntmps64
  go_wp2_with fail
  refine HC.out.mono ?_
  rintro e w1 ⟨rfl, hb1⟩
  replace X := X.later hb1
  have HB1 := Lib.hid (ST.out.trans (hb1.mono (by simp)))
  clear hb1 HC ST
  obtain ⟨x0, x1, x2, x3⟩ := X.c4
  have xz := X.lt
  go_wp2_with fail
  go_region_with (first | (go_at_call 79; refine (newWriter_any _).mono ?_; rintro e w2 ⟨rfl, hW2, hb2, hz2⟩; have X2 := Box.later X (Below.drew (Below.refl w1.heap.size w1)) |>.later hb2; have g0 := X2.cell 0; have g1 := X2.cell 1; have g2 := X2.cell 2; have g3 := X2.cell 3; simp only [List.getElem?_cons_succ, List.getElem?_cons_zero] at g0 g1 g2 g3; have p0 : w2.cell? ⟨w1.heap.size, 2, none⟩ = some (.func (.func 94) #[] #[]) := hW2.out.1.cell 2; have pz : w1.heap.size < w2.heap.size := hW2.out.1.lt; have HV2 := HV.out.later (HB1.out.drew.trans (hb2.mono HB1.out.size)); have hW3 : Hid (Wtr w2 w1.heap.size (w1.heap.size + 1)) := hW2; have hz3 : w1.heap.size + 2 ≤ w2.heap.size := hz2) | (go_at_call 94; (with_reducible refine (HW.out w2 w1.heap.size (w1.heap.size + 1) HV2 hW3.out (by omega) (by omega)).mono ?_); rintro e w3 ⟨V, rfl, hOV, hGV, hLV⟩; have k0 := hGV.cell g0 (by simp [Value.ownBlock]); have k1 := hGV.cell g1 (by simp [Value.ownBlock]); have k2 := hGV.cell g2 (by simp [Value.ownBlock]); have k3 := hGV.cell g3 (by simp [Value.ownBlock])))
  all_goals
    have hBw := ((HB1.out.drew.trans (hb2.mono HB1.out.size)).grown hGV (Nat.le_trans HB1.out.size (by omega)) (fun k hk => by simp [Value.ownBlock] at hk))
    have HR : Hid (RetEnc (T, 0) w (.returned (.tuple #[V, .int .i64 0])) w3) := ⟨V, rfl, (hOV.bs (by have := HLEN.out; simp only [maxLen]; omega)).weak (fun b hb _ => by omega), hBw⟩
    clear k0 k1 k2 k3 g0 g1 g2 g3 x0 x1 x2 x3 p0 hOV hGV hLV hW2 hW3 hb2 hz2 X2 X HV2 hBw HB1 HW HV HLEN
    go_wp2
    go_ret2
    exact HR.out
theorem cEncode_3 (d : Nat) (hd : d ≤ 1000) (xn : Int) (xs : Bs) (xl : List Val) (A : Option Addr) (c : Nat) (w : World) (hV : ValsAt w w.heap.size d (.slice A xl.length c) xl) (hc : chkT (.mk 3 xn xs xl) = 0) (hf : (Val.mk 3 xn xs xl).fits) (hlen : (Val.mk 3 xn xs xl).enc.length ≤ 79000000) :
    Calls Tryz.prog 64 #[.agg #[.int .i64 3, .int .i64 xn, .string (strB xs), .slice A xl.length c]] w (RetEnc (encT (.mk 3 xn xs xl)) w) := by
  rw [enc_ok hc]
  obtain ⟨hok, _⟩ := chk_zero hc
  have hst := (Below.refl w.heap.size w).alloc (Nat.le_refl _) (.cells #[.int .i64 3, .int .i64 xn, .string (strB xs), .slice A xl.length c] 151)
  have HC := Lib.hid (cCheck_any d hd (.mk 3 xn xs xl) _ _ (hV.later hst))
  rw [hc] at HC
  dsimp only [Val.v, Val.kind, Val.num, Val.str, Val.elems] at HC
  have HW : Hid (∀ z pb cb, ValsAt z z.heap.size d (.slice A xl.length c) xl → Wtr z pb cb → pb < z.heap.size → cb < z.heap.size → Calls Tryz.prog 95 #[.slice none 0 0, .agg #[.int .i64 3, .int .i64 xn, .string (strB xs), .slice A xl.length c], .pointer (some ⟨cb, 0, none⟩)] z (RetApp (Val.mk 3 xn xs xl).enc z.heap.size (.slice none 0 0) z)) := Lib.hid fun z pb cb hz1 hz2 hz3 hz4 => by
    obtain ⟨rfl, rfl, ho3⟩ := okB_three hok
    rw [← List.nil_append (Val.enc _)]
    exact W3.all d 0 (strB []) xl A c z.heap.size pb cb (.slice none 0 0) [] z ho3 hf.els hz1 (nilOwn z _) (Nat.le_refl _) hz2 hz3 hz4 (by simp; omega)
  have HLEN := Lib.hid hlen
  have HV := Lib.hid hV
  have ST := Lib.hid hst
  have X := Box.new w [.int .i64 3, .int .i64 xn, .string (strB xs), .slice A xl.length c] 151
  clear hV hst hc hok hf hlen
  generalize (Val.mk 3 xn xs xl).enc = T at HW HLEN ⊢
  generalize strB xs = xsb, hxll : xl.length = xll at HC HW ST X HV ⊢
  clear hxll
  go_enter Tryz.func64, Tryz.ntmps64
  go_wp2_with fail
  refine HC.out.mono ?_
  rintro e w1 ⟨rfl, hb1⟩
  replace X := X.later hb1
  have HB1 := Lib.hid (ST.out.trans (hb1.mono (by simp)))
  clear hb1 HC ST
  obtain ⟨x0, x1, x2, x3⟩ := X.c4
  have xz := X.lt
  go_wp2_with fail
  go_region_with (first | (go_at_call 79; refine (newWriter_any _).mono ?_; rintro e w2 ⟨rfl, hW2, hb2, hz2⟩; have X2 := Box.later X (Below.drew (Below.refl w1.heap.size w1)) |>.later hb2; have g0 := X2.cell 0; have g1 := X2.cell 1; have g2 := X2.cell 2; have g3 := X2.cell 3; simp only [List.getElem?_cons_succ, List.getElem?_cons_zero] at g0 g1 g2 g3; have p0 : w2.cell? ⟨w1.heap.size, 3, none⟩ = some (.func (.func 95) #[] #[.pointer (some ⟨w1.heap.size + 1, 0, none⟩)]) := hW2.out.1.cell 3; have pz : w1.heap.size < w2.heap.size := hW2.out.1.lt; have HV2 := HV.out.later (HB1.out.drew.trans (hb2.mono HB1.out.size)); have hW3 : Hid (Wtr w2 w1.heap.size (w1.heap.size + 1)) := hW2; have hz3 : w1.heap.size + 2 ≤ w2.heap.size := hz2) | (go_at_call 95; (with_reducible refine (HW.out w2 w1.heap.size (w1.heap.size + 1) HV2 hW3.out (by omega) (by omega)).mono ?_); rintro e w3 ⟨V, rfl, hOV, hGV, hLV⟩; have k0 := hGV.cell g0 (by simp [Value.ownBlock]); have k1 := hGV.cell g1 (by simp [Value.ownBlock]); have k2 := hGV.cell g2 (by simp [Value.ownBlock]); have k3 := hGV.cell g3 (by simp [Value.ownBlock])))
  all_goals
    have hBw := ((HB1.out.drew.trans (hb2.mono HB1.out.size)).grown hGV (Nat.le_trans HB1.out.size (by omega)) (fun k hk => by simp [Value.ownBlock] at hk))
    have HR : Hid (RetEnc (T, 0) w (.returned (.tuple #[V, .int .i64 0])) w3) := ⟨V, rfl, (hOV.bs (by have := HLEN.out; simp only [maxLen]; omega)).weak (fun b hb _ => by omega), hBw⟩
    clear k0 k1 k2 k3 g0 g1 g2 g3 x0 x1 x2 x3 p0 hOV hGV hLV hW2 hW3 hb2 hz2 X2 X HV2 hBw HB1 HW HV HLEN
    go_wp2
    go_ret2
    exact HR.out
theorem cEncode_any (d : Nat) (hd : d ≤ 1000) (x : Val) (L : Value) (w : World) (hV : ValsAt w w.heap.size d L x.elems) (hf : x.fits) (hlen : x.enc.length ≤ 79000000) :
    Calls Tryz.prog 64 #[x.v L] w (RetEnc (encT x) w) := by
  by_cases hc : chkT x = 0
  · obtain ⟨hok, _⟩ := chk_zero hc
    obtain ⟨A, c, rfl, hm⟩ := hV.form
    have hk := okB_kind hok
    obtain ⟨k, n, s, l⟩ := x
    dsimp only [Val.v, Val.kind, Val.num, Val.str, Val.elems] at *
    rcases hk with rfl | rfl | rfl
    · exact cEncode_1 d hd n s l A c w hV hc hf hlen
    · exact cEncode_2 d hd n s l A c w hV hc hf hlen
    · exact cEncode_3 d hd n s l A c w hV hc hf hlen
  · exact cEncode_err d hd x L w hV hc
end Go.Proofs.YtmbifmmkccghfaaGreat
namespace Go.Proofs.YtmbifmmkccghfaaGreat
open Go.RowKit
end Go.Proofs.YtmbifmmkccghfaaGreat
namespace Go.Proofs.YtmbifmmkccghfaaGreat
open Go.RowKit
attribute [local go_sem ↓ high] app_named
theorem OwnBs.mono {w : World} {base base' : Nat} {v : Value} {l : Bs} (h : OwnBs w base v l) (hb : base' ≤ base) : OwnBs w base' v l := by
  obtain ⟨hl, h⟩ := h
  refine ⟨hl, ?_⟩
  rcases h with h | ⟨g, cap, cur, hv, hbg, hr⟩
  · exact .inl h
  · exact .inr ⟨g, cap, cur, hv, Nat.le_trans hb hbg, hr⟩
end Go.Proofs.YtmbifmmkccghfaaGreat
namespace Go.Proofs.YtmbifmmkccghfaaGreat
open Go.RowKit
attribute [local go_sem ↓ high] app_named
end Go.Proofs.YtmbifmmkccghfaaGreat
namespace Go.Proofs.YtmbifmmkccghfaaGreat
open Go.RowKit
def bad : List PanicEntry := [{ v := .iface 38 (.int .i64 10), recovered := false }]
theorem want_yes (p : Value) (w : World) : Calls Tryz.prog 83 #[p, .bool true] w fun e w' => e = .returned (.tuple #[]) ∧ w = w' := by
  go_enter Tryz.func83, Tryz.ntmps83
  go_wp2
  go_end0
  exact ⟨rfl, rfl⟩
theorem want_no (p : Value) (w : World) : Calls Tryz.prog 83 #[p, .bool false] w fun e w' => e = .panicked bad ∧ w = w' := by
  go_enter Tryz.func83, Tryz.ntmps83
  go_wp2
  exact ⟨rfl, rfl, rfl⟩
def RdAt (w : World) (D rb : Nat) (l : Bs) : Prop := ∃ A c, Box w rb [.slice A l.length c] ∧ BsAt w (fun b => b < D ∧ b ≠ rb) (.slice A l.length c) l
theorem BsAt.part {w : World} {S : Nat → Prop} {b : Addr} {n c : Nat} {l : Bs} (h : BsAt w S (.slice (some b) n c) l) (k : Nat) (hk : k ≤ n) : BsAt w S (.slice (some b) k k) (l.take k) := by
  obtain ⟨hf, A, c', hv, hm, h1⟩ := h
  cases hv
  refine ⟨.inr ⟨_, _, _, rfl, Nat.le_refl _, by omega⟩, some b, k, by rw [List.length_take]; congr 1; omega, by rw [List.length_take]; omega, fun i hi => ?_⟩
  rw [List.length_take] at hi
  obtain ⟨b', off, hb, hS, hlt, h2⟩ := h1 i (by omega)
  refine ⟨b', off, hb, hS, hlt, fun j hj => ?_⟩
  rw [h2 j hj]
  simp only [List.getD_eq_getElem?_getD, List.getElem?_take, if_pos (show i < k by omega)]
theorem BsAt.rest {w : World} {S : Nat → Prop} {b off n c : Nat} {l : Bs} (h : BsAt w S (.slice (some ⟨b, off, none⟩) n c) l) (k : Nat) (hk : k ≤ n) : BsAt w S (.slice (some ⟨b, off + k, none⟩) (n - k) (c - k)) (l.drop k) := by
  obtain ⟨hf, A, c', hv, hm, h1⟩ := h
  cases hv
  have hc : l.length ≤ c ∧ c ≤ maxLen := by
    rcases hf with h | ⟨a, n', c', h, h3, h4⟩
    · cases h
    · injection h with _ h5 h6; omega
  refine ⟨.inr ⟨_, _, _, rfl, by omega, by omega⟩, some ⟨b, off + k, none⟩, c - k, by rw [List.length_drop], by rw [List.length_drop]; omega, fun i hi => ?_⟩
  rw [List.length_drop] at hi
  obtain ⟨b', off', hb, hS, hlt, h2⟩ := h1 (i + k) (by omega)
  cases hb
  refine ⟨b, off + k, rfl, hS, hlt, fun j hj => ?_⟩
  have := h2 j hj
  simp only [List.getD_eq_getElem?_getD, List.getElem?_drop]
  rw [Nat.add_comm k i, ← List.getD_eq_getElem?_getD, ← this]
  congr 2
  omega
theorem bsAt_end {w : World} {S : Nat → Prop} {A : Option Addr} (hA : A = none ∨ ∃ a, A = some a) (l : Bs) : BsAt w S (.slice A 0 0) (l.drop l.length) := by
  rw [List.drop_length]
  refine ⟨?_, A, 0, rfl, Nat.zero_le _, fun i hi => by simp at hi⟩
  rcases hA with rfl | ⟨a, rfl⟩
  · exact .inl rfl
  · exact .inr ⟨a, 0, 0, rfl, Nat.le_refl _, Nat.zero_le _⟩
theorem RdAt.keep {w w' : World} {D rb : Nat} {l : Bs} (h : RdAt w D rb l) (hb : Below w.heap.size w w') : RdAt w' D rb l := by
  obtain ⟨A, c, h1, h2⟩ := h
  exact ⟨A, c, h1.later hb, h2.keep (Keeps.of hb)⟩
theorem RdAt.keepG {w w' : World} {D rb : Nat} {l : Bs} {r : Option Nat} (h : RdAt w D rb l) (hg : w.grownBy w' r) (hr : ∀ k, r = some k → D ≤ k ∧ k ≠ rb) : RdAt w' D rb l := by
  obtain ⟨A, c, h1, h2⟩ := h
  refine ⟨A, c, h1.same (hg.block rb h1.lt fun e => (hr rb e.symm).2 rfl), h2.keep ⟨hg.size, fun b hb hl => hg.block b hl fun e => by have := (hr b e.symm).1; omega⟩⟩
theorem RdAt.lt {w : World} {D rb : Nat} {l : Bs} (h : RdAt w D rb l) : rb < w.heap.size := by
  obtain ⟨A, c, h1, _⟩ := h
  exact h1.lt
def Fails (rb : Nat) (w : World) (e : Ending) (w' : World) : Prop := e = .panicked bad ∧ w.grownBy w' (some rb)
def RetTake (l : Bs) (k D rb : Nat) (w : World) (e : Ending) (w' : World) : Prop :=
  ∃ A c, e = .returned (.slice A k c) ∧ BsAt w' (fun b => b < D ∧ b ≠ rb) (.slice A k c) (l.take k) ∧ RdAt w' D rb (l.drop k) ∧ w.grownBy w' (some rb) ∧ w'.heap.size = w.heap.size
theorem grownBy_set {w : World} {a : Addr} (v : Value) : w.grownBy (w.setCell a v) (some a.block) :=
  ⟨rfl, rfl, rfl, by simp, fun k _ hne => Below.heap_setCell w a v k (fun e => hne (by rw [e]))⟩
theorem take_no (l : Bs) (k D rb : Nat) (w : World) (h : RdAt w D rb l) (hk : l.length < k) : Calls Tryz.prog 96 #[.pointer (some ⟨rb, 0, none⟩), .int .i64 k] w (Fails rb w) := by
  obtain ⟨A, c, X, hB⟩ := h
  have HR : Hid (Fails rb w (.panicked bad) w) := ⟨rfl, grownBy_refl _ _⟩
  clear hB
  generalize l.length = n at X hk
  have x0 : w.cell? ⟨rb, 0, none⟩ = some (.slice A n c) := X.cell 0
  have hd : decide (k ≤ n) = false := decide_eq_false (by omega)
  go_enter Tryz.func96, Tryz.ntmps96
  go_wp2_with fail
  refine (want_no _ _).mono ?_
  rintro e w1 ⟨rfl, rfl⟩
  go_wp2
  exact ⟨rfl, HR.out⟩
theorem take_close {w : World} {D rb n c k : Nat} {a a' : Addr} {l : Bs} {n' c' : Nat} (hB : BsAt w (fun b => b < D ∧ b ≠ rb) (.slice (some a) l.length c) l) (X : Box w rb [.slice (some a) l.length c]) (hsp : l.length ≠ 0 → ∃ b off, a = ⟨b, off, none⟩ ∧ b ≠ rb) (hn : l.length = n) (hk : k ≤ n)
    (h : (k = n ∧ n' = 0 ∧ c' = 0) ∨ Value.slice (some a') n' c' = .slice (some (a.add k)) (n - k) (c - k)) : RetTake l k D rb w (.returned (.slice (some a) k k)) (w.setCell ⟨rb, 0, none⟩ (.slice (some a') n' c')) := by
  subst hn
  have hkp : Keeps (fun b => b < D ∧ b ≠ rb) w (w.setCell ⟨rb, 0, none⟩ (.slice (some a') n' c')) := Keeps.set w (a := ⟨rb, 0, none⟩) (fun h => h.2 rfl) _
  refine ⟨some a, k, rfl, (hB.part k hk).keep hkp, ?_, grownBy_set _, by simp⟩
  rcases h with ⟨rfl, rfl, rfl⟩ | h
  · have hz : (l.drop l.length).length = 0 := by simp
    refine ⟨some a', 0, ?_, ?_⟩
    · rw [hz]
      exact X.set 0 _
    · rw [hz]
      exact bsAt_end (.inr ⟨a', rfl⟩) l
  · injection h with h1 h2 h3
    injection h1 with h1
    subst h1 h2 h3
    have hdl : (l.drop k).length = l.length - k := List.length_drop
    refine ⟨some (a.add k), c - k, ?_, ?_⟩
    · rw [hdl]
      exact X.set 0 _
    · rw [hdl]
      by_cases h0 : l.length = 0
      · have hl : l = [] := List.eq_nil_of_length_eq_zero h0
        subst hl
        have hcc : c ≤ maxLen := by
          rcases hB.1 with h | ⟨a, n', c', h, h3, h4⟩
          · cases h
          · injection h with _ h5 h6; omega
        refine ⟨.inr ⟨a.add k, [].length - k, c - k, rfl, by simp, by omega⟩, some (a.add k), c - k, by simp, by simp, fun i hi => by simp at hi⟩
      · obtain ⟨b, off, rfl, hne⟩ := hsp h0
        rw [add_at] at hkp ⊢
        exact (hB.rest k hk).keep hkp
theorem take_yes (l : Bs) (k D rb : Nat) (w : World) (h : RdAt w D rb l) (hk : k ≤ l.length) : Calls Tryz.prog 96 #[.pointer (some ⟨rb, 0, none⟩), .int .i64 k] w (RetTake l k D rb w) := by
  obtain ⟨A, c, X, hB⟩ := h
  obtain ⟨_, _, _, hm⟩ := hB.form
  unfold maxLen at hm
  rcases A with _ | a
  · have h0 : l.length = 0 := hB.2.sl.none_zero.2
    obtain rfl : k = 0 := by omega
    have hc0 : c = 0 := by
      rcases hB.1 with h | ⟨a, n', c', h, _⟩
      · injection h
      · cases h
    subst hc0
    rw [h0] at X
    have hR : RetTake l 0 D rb w (.returned (.slice none 0 0)) (w.setCell ⟨rb, 0, none⟩ (.slice none 0 0)) := by
      have hl : l = [] := List.eq_nil_of_length_eq_zero h0
      subst hl
      exact ⟨none, 0, rfl, bsAt_nil _ _, ⟨none, 0, X.set 0 _, bsAt_nil _ _⟩, grownBy_set _, by simp⟩
    have HR := Lib.hid hR
    have x0 : w.cell? ⟨rb, 0, none⟩ = some (.slice none 0 0) := X.cell 0
    have xf := X.free 0
    have xz := X.lt
    clear hR hB hm hk h0
    go_enter Tryz.func96, Tryz.ntmps96
    go_wp2_with fail
    refine (want_yes _ _).mono ?_
    rintro e w1 ⟨rfl, rfl⟩
    go_wp2
    go_ret
    exact HR.out
  · have hsp : l.length ≠ 0 → ∃ b off, a = ⟨b, off, none⟩ ∧ b ≠ rb := by
      intro h0
      obtain ⟨_, A', c', hv, _, h1⟩ := hB
      cases hv
      obtain ⟨b, off, hb, hS, _⟩ := h1 0 (by omega)
      cases hb
      exact ⟨b, off, rfl, hS.2⟩
    have hcc : l.length ≤ c ∧ c ≤ maxLen := by
      rcases hB.1 with h | ⟨a, n', c', h, h3, h4⟩
      · cases h
      · injection h with _ h5 h6; omega
    have hkp : Keeps (fun b => b < D ∧ b ≠ rb) w (w.setCell ⟨rb, 0, none⟩ (.slice (some a) (l.length - k) (c - k))) := Keeps.set w (a := ⟨rb, 0, none⟩) (fun h => h.2 rfl) _
    obtain ⟨hcl, hcm⟩ := hcc
    unfold maxLen at hcm
    have x0 : w.cell? ⟨rb, 0, none⟩ = some (.slice (some a) l.length c) := X.cell 0
    have xf := X.free 0
    have xz := X.lt
    obtain ⟨n, hn⟩ : ∃ n, l.length = n := ⟨_, rfl⟩
    have HB := Lib.hid hB
    have HX := Lib.hid X
    have HN := Lib.hid hn
    have HSP := Lib.hid hsp
    rw [hn] at x0 hk hcl hm
    clear hB X hn hsp hkp
    have h1 : (0 : Int) ≤ (k : Int) := by omega
    have h2 : (k : Int) ≤ (n : Int) := by omega
    have h3 : (k : Int) ≤ (c : Int) := by omega
    have hd : decide (k ≤ n) = true := decide_eq_true hk
    go_enter Tryz.func96, Tryz.ntmps96
    go_wp2_with fail
    refine (want_yes _ _).mono ?_
    rintro e w1 ⟨rfl, rfl⟩
    go_wp2
    all_goals
      go_ret
      refine take_close HB.out HX.out HSP.out HN.out hk ?_
      first
        | (exact .inr rfl)
        | (refine .inl ⟨?_, ?_, ?_⟩ <;> omega)
end Go.Proofs.YtmbifmmkccghfaaGreat
namespace Go.Proofs.YtmbifmmkccghfaaGreat
open Go.RowKit
def rdNum : Nat → Nat → Bs → Option (Nat × Bs)
  | _, _, [] => none
  | i, acc, c :: t => if (i = 0 ∨ c.toNat ≠ 0) ∧ (i < 9 ∨ c.toNat ≤ 1) then (if c.toNat < 128 then some (acc + c.toNat % 128 * 128 ^ i, t) else rdNum (i + 1) (acc + c.toNat % 128 * 128 ^ i) t) else none
theorem rdNum_bad {i acc : Nat} {c : UInt8} {t : Bs} (h : ¬ ((i = 0 ∨ c.toNat ≠ 0) ∧ (i < 9 ∨ c.toNat ≤ 1))) : rdNum i acc (c :: t) = none := by rw [rdNum, if_neg h]
theorem rdNum_end {i acc : Nat} {c : UInt8} {t : Bs} (h : (i = 0 ∨ c.toNat ≠ 0) ∧ (i < 9 ∨ c.toNat ≤ 1)) (h2 : c.toNat < 128) : rdNum i acc (c :: t) = some (acc + c.toNat % 128 * 128 ^ i, t) := by rw [rdNum, if_pos h, if_pos h2]
theorem rdNum_go {i acc : Nat} {c : UInt8} {t : Bs} (h : (i = 0 ∨ c.toNat ≠ 0) ∧ (i < 9 ∨ c.toNat ≤ 1)) (h2 : ¬ c.toNat < 128) : rdNum i acc (c :: t) = rdNum (i + 1) (acc + c.toNat % 128 * 128 ^ i) t := by rw [rdNum, if_pos h, if_neg h2]
theorem pow_le9 {k : Nat} (h : k ≤ 9) : 128 ^ k ≤ 9223372036854775808 := by
  have := Nat.pow_le_pow_right (n := 128) (by decide) h
  have e : 128 ^ 9 = 9223372036854775808 := by decide
  omega
theorem acc_step {k acc cn : Nat} (hk : k ≤ 9) (hacc : acc < 128 ^ k) (h9 : k < 9 ∨ cn ≤ 1) (hc : cn < 256) : (k < 9 → acc + cn % 128 * 128 ^ k < 128 ^ (k + 1)) ∧ acc + cn % 128 * 128 ^ k < 18446744073709551616 ∧ cn % 128 * 128 ^ k < 18446744073709551616 := by
  have hp := pow_le9 hk
  have hm : cn % 128 * 128 ^ k ≤ 127 * 128 ^ k := Nat.mul_le_mul_right _ (by omega)
  have e : 128 ^ (k + 1) = 128 * 128 ^ k := by rw [Nat.pow_succ, Nat.mul_comm]
  refine ⟨fun _ => by omega, ?_⟩
  by_cases h : k < 9
  · have h8 : 128 ^ k ≤ 72057594037927936 := by
      have := Nat.pow_le_pow_right (n := 128) (by decide) (show k ≤ 8 by omega)
      have e : 128 ^ 8 = 72057594037927936 := by decide
      omega
    omega
  · have h1 : cn ≤ 1 := by omega
    have hm : cn % 128 * 128 ^ k ≤ 1 * 128 ^ k := Nat.mul_le_mul_right _ (by omega)
    omega
theorem and_127 : ∀ n : Fin 256, bits .and .u8 (n.val : Int) 127 = ((n.val % 128 : Nat) : Int) := by decide +kernel
theorem nat_or_add {a m k : Nat} (h : a < 2 ^ k) : a ||| m * 2 ^ k = a + m * 2 ^ k := by
  have := Nat.two_pow_add_eq_or_of_lt h m
  rw [Nat.or_comm, Nat.mul_comm, ← this, Nat.add_comm]
theorem acc_bits {k acc cn : Nat} (hk : k ≤ 9) (hacc : acc < 128 ^ k) (h9 : k < 9 ∨ cn ≤ 1) (hc : cn < 256) :
    bits .or .u64 (acc : Int) (IntKind.u64.wrap (IntKind.u64.wrap (bits .and .u8 (cn : Int) 127) * 2 ^ (7 * k))) = ((acc + cn % 128 * 128 ^ k : Nat) : Int) := by
  obtain ⟨_, h2, h3⟩ := acc_step hk hacc h9 hc
  have ha := and_127 ⟨cn, hc⟩
  dsimp only at ha
  have hpw : (2 : Int) ^ (7 * k) = ((128 ^ k : Nat) : Int) := by
    rw [Int.pow_mul]
    have : (2 : Int) ^ 7 = ((128 : Nat) : Int) := by decide
    rw [this, Int.natCast_pow]
  have hp := pow_le9 hk
  have e1 : IntKind.u64.wrap ((cn % 128 : Nat) : Int) = ((cn % 128 : Nat) : Int) := by rw [wrap_u64']; omega
  rw [ha, e1, hpw, ← Int.natCast_mul, wrap_u64']
  have e2 : ((cn % 128 * 128 ^ k : Nat) : Int) % 18446744073709551616 = ((cn % 128 * 128 ^ k : Nat) : Int) := by omega
  rw [e2, bits_or_u64_nat _ _ (by omega) h3]
  have e3 : 128 ^ k = 2 ^ (7 * k) := by rw [Nat.pow_mul]
  rw [e3] at hacc ⊢
  rw [nat_or_add hacc]
theorem rdNum_lt {l : Bs} : ∀ {i acc u : Nat} {r : Bs}, i ≤ 9 → acc < 128 ^ i → rdNum i acc l = some (u, r) → u < 18446744073709551616 ∧ r.length < l.length := by
  induction l with
  | nil => intro i acc u r _ _ h; cases h
  | cons c t ih =>
    intro i acc u r hi ha h
    have hc : c.toNat < 256 := c.toNat_lt
    by_cases hv : (i = 0 ∨ c.toNat ≠ 0) ∧ (i < 9 ∨ c.toNat ≤ 1)
    · obtain ⟨h1, h2, _⟩ := acc_step hi ha hv.2 hc
      by_cases h128 : c.toNat < 128
      · rw [rdNum_end hv h128] at h
        cases h
        exact ⟨h2, by simp⟩
      · rw [rdNum_go hv h128] at h
        have h9 : i < 9 := by omega
        obtain ⟨h3, h4⟩ := ih (by omega) (h1 h9) h
        exact ⟨h3, by simp; omega⟩
    · rw [rdNum_bad hv] at h
      cases h
def RetNum (t : Option (Nat × Bs)) (D rb : Nat) (w : World) (e : Ending) (w' : World) : Prop :=
  match t with
  | some (u, r) => e = .returned (.int .u64 u) ∧ RdAt w' D rb r ∧ w.grownBy w' (some rb)
  | none => Fails rb w e w'
theorem grown_two {w w1 w2 : World} {r : Option Nat} (h1 : w.grownBy w1 r) (h2 : w1.grownBy w2 r) : w.grownBy w2 r :=
  ⟨h2.os.trans h1.os, h2.tape.trans h1.tape, h2.output.trans h1.output, Nat.le_trans h1.size h2.size, fun k hk hne => (h2.block k (Nat.lt_of_lt_of_le hk h1.size) hne).trans (h1.block k hk hne)⟩
theorem RetTake.byte {c : UInt8} {t : Bs} {D rb : Nat} {w : World} {e : Ending} {w' : World} (h : RetTake (c :: t) 1 D rb w e w') : ∃ b off cc, e = .returned (.slice (some ⟨b, off, none⟩) 1 cc) ∧ w'.cell? ⟨b, off, none⟩ = some (.int .u8 (c.toNat : Int)) ∧ RdAt w' D rb t ∧ w.grownBy w' (some rb) := by
  obtain ⟨A, cc, he, hB, hR, hG, _⟩ := h
  obtain ⟨b, off, rfl, _, _, hc⟩ := hB.cell (k := 0) (by simp)
  exact ⟨b, off, cc, he, hc, hR, hG⟩
theorem number_any (l : Bs) (D rb : Nat) (w : World) (h : RdAt w D rb l) (T : Option (Nat × Bs)) (hT : Hid (rdNum 0 0 l = T)) : Calls Tryz.prog 98 #[.pointer (some ⟨rb, 0, none⟩)] w (RetNum T D rb w) := by
  have hR := Lib.hid h
  have hG := Lib.hid (grownBy_refl w (some rb))
  clear h
  go_enter Tryz.func98, Tryz.ntmps98
  go_wp2
  go_loopw [2, 3] (fun u i wr => ∃ (k acc : Nat) (r : Bs), k ≤ 9 ∧ acc < 9223372036854775808 ∧ i = .int .i64 k ∧ u = .int .u64 acc ∧ Hid (acc < 128 ^ k) ∧ Hid (rdNum k acc r = T) ∧ Hid (RdAt wr D rb r) ∧ Hid (w.grownBy wr (some rb))) (fun _ i _ => 10 - (intOf i).toNat)
  case atStart => exact ⟨0, 0, l, by omega, by omega, rfl, rfl, Lib.hid (by decide), hT, hR, hG⟩
  case round =>
    clear hT hR hG
    obtain ⟨k, acc, r, hk, hacc0, rfl, rfl, hacc, hT, hR, hG⟩ := hrel
    rcases r with _ | ⟨c, t⟩
    · go_wp2_with fail
      refine (take_no [] 1 D rb _ hR.out (by simp)).mono ?_
      rintro e w1 ⟨rfl, hg⟩
      have HF : Hid (RetNum T D rb w (.panicked bad) w1) := by
        rw [← hT.out]
        exact ⟨rfl, grown_two hG.out hg⟩
      clear hg hR hG hT
      go_wp2
      exact ⟨rfl, HF.out⟩
    · have hcn : c.toNat < 256 := c.toNat_lt
      go_wp2_with fail
      refine (take_yes (c :: t) 1 D rb _ hR.out (by simp)).mono ?_
      intro e w1 hret
      obtain ⟨b, off, cc, rfl, hc, hR1, hg⟩ := hret.byte
      have HR1 := Lib.hid hR1
      have HG1 := Lib.hid (grown_two hG.out hg)
      clear hret hR1 hg hR hG
      have hbad : ¬ ((k = 0 ∨ c.toNat ≠ 0) ∧ (k < 9 ∨ c.toNat ≤ 1)) → none = T := fun h => (rdNum_bad h).symm.trans hT.out
      have hend : (k = 0 ∨ c.toNat ≠ 0) ∧ (k < 9 ∨ c.toNat ≤ 1) → c.toNat < 128 → some (acc + c.toNat % 128 * 128 ^ k, t) = T := fun h1 h2 => (rdNum_end h1 h2).symm.trans hT.out
      have hgo : (k = 0 ∨ c.toNat ≠ 0) ∧ (k < 9 ∨ c.toNat ≤ 1) → ¬ c.toNat < 128 → rdNum (k + 1) (acc + c.toNat % 128 * 128 ^ k) t = T := fun h1 h2 => (rdNum_go h1 h2).symm.trans hT.out
      clear hT
      generalize c.toNat = cn at *
      by_cases hv : (k = 0 ∨ cn ≠ 0) ∧ (k < 9 ∨ cn ≤ 1)
      · have hsum := acc_bits hk hacc.out hv.2 hcn
        obtain ⟨hs1, hs2, _⟩ := acc_step hk hacc.out hv.2 hcn
        have HS := Lib.hid hsum
        have HS1 := Lib.hid hs1
        have HE := Lib.hid (hend hv)
        have HGO := Lib.hid (hgo hv)
        clear hsum hs1 hs2 hend hgo hbad hacc
        have e0 : ((k : Int) == 0) = decide (k = 0) := by rw [Bool.eq_iff_iff]; simp
        have e1 : ((cn : Int) != 0) = decide (cn ≠ 0) := by rw [Bool.eq_iff_iff]; simp
        have e3 : decide ((cn : Int) ≤ 1) = decide (cn ≤ 1) := decide_eq_decide.2 (by omega)
        by_cases hk0 : k = 0
        · rw [decide_eq_true hk0] at e0
          clear e1 hv e3
          have hk9 : k < 9 := by omega
          have e2 : decide ((k : Int) < 9) = true := by simp; omega
          clear hk0
          go_wp2_with fail
          refine (want_yes _ _).mono ?_
          rintro e w2 ⟨rfl, rfl⟩
          by_cases h128 : cn < 128
          · have HR : Hid (RetNum T D rb w (.returned (.int .u64 ((acc + cn % 128 * 128 ^ k : Nat) : Int))) w1) := by
              rw [← HE.out h128]
              exact ⟨rfl, HR1.out, HG1.out⟩
            clear HR1 HG1 HE HGO
            go_wp2
            go_ret
            have h := HR.out
            rw [← HS.out] at h
            exact h
          · have HN := Lib.hid (HGO.out h128)
            have hs1 := HS1.out (by omega)
            have hp := pow_le9 (show k + 1 ≤ 9 by omega)
            have HS2 := Lib.hid hs1
            have hs3 : acc + cn % 128 * 128 ^ k < 9223372036854775808 := by omega
            clear HE HGO HS1 hs1 hp
            go_wp2
            exact ⟨⟨k + 1, _, t, by omega, hs3, by go_num, by rw [HS.out], HS2, HN, HR1, HG1⟩, by simp [intOf]; omega⟩
        · rw [decide_eq_false hk0] at e0
          have hc0 : cn ≠ 0 := by omega
          rw [decide_eq_true hc0] at e1
          by_cases hk9 : k < 9
          · have e2 : decide ((k : Int) < 9) = true := by simp; omega
            clear e3 hv
            go_wp2_with fail
            refine (want_yes _ _).mono ?_
            rintro e w2 ⟨rfl, rfl⟩
            by_cases h128 : cn < 128
            · have HR : Hid (RetNum T D rb w (.returned (.int .u64 ((acc + cn % 128 * 128 ^ k : Nat) : Int))) w1) := by
                rw [← HE.out h128]
                exact ⟨rfl, HR1.out, HG1.out⟩
              clear HR1 HG1 HE HGO
              go_wp2
              go_ret
              have h := HR.out
              rw [← HS.out] at h
              exact h
            · have HN := Lib.hid (HGO.out h128)
              have hs1 := HS1.out (by omega)
              have hp := pow_le9 (show k + 1 ≤ 9 by omega)
              have HS2 := Lib.hid hs1
              have hs3 : acc + cn % 128 * 128 ^ k < 9223372036854775808 := by omega
              clear HE HGO HS1 hs1 hp
              go_wp2
              exact ⟨⟨k + 1, _, t, by omega, hs3, by go_num, by rw [HS.out], HS2, HN, HR1, HG1⟩, by simp [intOf]; omega⟩
          · have e2 : decide ((k : Int) < 9) = false := by simp; omega
            have hc1 : cn ≤ 1 := by omega
            rw [decide_eq_true hc1] at e3
            clear hv
            go_wp2_with fail
            refine (want_yes _ _).mono ?_
            rintro e w2 ⟨rfl, rfl⟩
            by_cases h128 : cn < 128
            · have HR : Hid (RetNum T D rb w (.returned (.int .u64 ((acc + cn % 128 * 128 ^ k : Nat) : Int))) w1) := by
                rw [← HE.out h128]
                exact ⟨rfl, HR1.out, HG1.out⟩
              clear HR1 HG1 HE HGO
              go_wp2
              go_ret
              have h := HR.out
              rw [← HS.out] at h
              exact h
            · omega
      · have HB := Lib.hid (hbad hv)
        have e0 : ((k : Int) == 0) = false := by simp; omega
        have e1 : ((cn : Int) != 0) = decide (cn ≠ 0) := by rw [Bool.eq_iff_iff]; simp
        clear hend hgo hbad hacc
        by_cases hc0 : cn = 0
        · subst hc0
          clear e1 hv
          go_wp2_with fail
          refine (want_no _ _).mono ?_
          rintro e w2 ⟨rfl, rfl⟩
          have HF : Hid (RetNum T D rb w (.panicked bad) w1) := by
            rw [← HB.out]
            exact ⟨rfl, HG1.out⟩
          clear HR1 HG1 HB
          go_wp2
          exact ⟨rfl, HF.out⟩
        · rw [decide_eq_true hc0] at e1
          have e2 : decide ((k : Int) < 9) = false := by simp; omega
          have e3 : decide ((cn : Int) ≤ 1) = false := by simp; omega
          clear hv
          go_wp2_with fail
          refine (want_no _ _).mono ?_
          rintro e w2 ⟨rfl, rfl⟩
          have HF : Hid (RetNum T D rb w (.panicked bad) w1) := by
            rw [← HB.out]
            exact ⟨rfl, HG1.out⟩
          clear HR1 HG1 HB
          go_wp2
          exact ⟨rfl, HF.out⟩
end Go.Proofs.YtmbifmmkccghfaaGreat
