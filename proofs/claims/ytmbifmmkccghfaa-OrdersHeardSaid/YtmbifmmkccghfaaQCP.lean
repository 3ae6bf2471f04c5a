/- Contracts of Encode and Size of codec. (Printed by gen_cp.py.) -/
import Derived.Test.YtmbifmmkccghfaaQCC
set_option linter.unusedVariables false
set_option linter.unusedSimpArgs false
namespace Go.Proofs.Ytmbifmmkccghfaa
open Go.RowKit
attribute [local go_sem ↓ high] app_named

def encT (x : Val) : Bs × Int := if chkT x = 0 then (x.enc, 0) else ([], chkT x)
def RetEnc (t : Bs × Int) (w : World) (e : Ending) (w' : World) : Prop := ∃ V, e = .returned (.tuple #[V, .int .i64 t.2]) ∧ BsAt w' (fun b => w.heap.size ≤ b) V t.1 ∧ Below w.heap.size w w'
theorem enc_err {x : Val} (h : chkT x ≠ 0) : encT x = ([], chkT x) := if_neg h
theorem enc_ok {x : Val} (h : chkT x = 0) : encT x = (x.enc, 0) := if_pos h
theorem chk_zero {x : Val} (h : chkT x = 0) : x.okB = true ∧ x.depth ≤ 16 := by
  unfold chkT at h
  split at h
  · rename_i h1
    split at h
    · cases h
    · exact ⟨h1, by omega⟩
  · cases h

set_option maxRecDepth 100000 in
set_option maxHeartbeats 4000000 in
theorem cEncode_err (d : Nat) (hd : d ≤ 1000) (x : Val) (L : Value) (w : World) (hV : ValsAt w w.heap.size d L x.elems) (hc : chkT x ≠ 0) :
    Calls Try.prog 55 #[x.v L] w (RetEnc (encT x) w) := by
  obtain ⟨A, c, rfl, hm⟩ := hV.form
  rw [enc_err hc]
  have hst := (Below.refl w.heap.size w).alloc (Nat.le_refl _) (.cells #[.int .i64 x.kind, .int .i64 x.num, .string (strB x.str), .slice A x.elems.length c] 85)
  have HC := Lib.hid (cCheck_any d hd x _ _ (hV.later hst))
  have ST := Lib.hid hst
  clear hV hst
  dsimp only [Val.v] at HC ST ⊢
  have hc2 : (chkT x != 0) = true := by simpa using hc
  clear hc
  generalize chkT x = er at HC hc2 ⊢
  generalize x.kind = ak, x.num = an, strB x.str = as', x.elems.length = al at HC ST ⊢
  go_enter Try.func55, Try.ntmps55
  go_wp2_with fail
  refine HC.out.mono ?_
  rintro e w1 ⟨rfl, hb1⟩
  have HR : Hid (RetEnc ([], er) w (.returned (.tuple #[.slice none 0 0, .int .i64 er])) w1) := ⟨_, rfl, bsAt_nil _ _, ST.out.trans (hb1.mono (by simp))⟩
  clear hb1 HC ST
  go_wp2
  go_ret2
  exact HR.out

set_option maxRecDepth 100000 in
set_option maxHeartbeats 4000000 in
theorem cEncode_1 (d : Nat) (hd : d ≤ 1000) (xn : Int) (xs : Bs) (xl : List Val) (A : Option Addr) (c : Nat) (w : World) (hV : ValsAt w w.heap.size d (.slice A xl.length c) xl) (hc : chkT (.mk 1 xn xs xl) = 0) (hf : (Val.mk 1 xn xs xl).fits) (hlen : (Val.mk 1 xn xs xl).enc.length ≤ 79000000) :
    Calls Try.prog 55 #[.agg #[.int .i64 1, .int .i64 xn, .string (strB xs), .slice A xl.length c]] w (RetEnc (encT (.mk 1 xn xs xl)) w) := by
  rw [enc_ok hc]
  obtain ⟨hok, _⟩ := chk_zero hc
  have hst := (Below.refl w.heap.size w).alloc (Nat.le_refl _) (.cells #[.int .i64 1, .int .i64 xn, .string (strB xs), .slice A xl.length c] 85)
  have HC := Lib.hid (cCheck_any d hd (.mk 1 xn xs xl) _ _ (hV.later hst))
  rw [hc] at HC
  dsimp only [Val.v, Val.kind, Val.num, Val.str, Val.elems] at HC
  have HW : Hid (∀ z pb cb, ValsAt z z.heap.size d (.slice A xl.length c) xl → Wtr z pb cb → pb < z.heap.size → cb < z.heap.size → Calls Try.prog 95 #[.slice none 0 0, .agg #[.int .i64 1, .int .i64 xn, .string (strB xs), .slice A xl.length c]] z (RetApp (Val.mk 1 xn xs xl).enc z.heap.size (.slice none 0 0) z)) := Lib.hid fun z pb cb hz1 hz2 hz3 hz4 => by
    have h := hf.nums
    rw [enc_1, ← List.nil_append ([1] ++ _)]
    exact cW1_any xn h.1 h.2 (strB xs) A _ c z.heap.size (.slice none 0 0) [] z (nilOwn z _) (Nat.le_refl _) (by simp)
  have HLEN := Lib.hid hlen
  have HV := Lib.hid hV
  have ST := Lib.hid hst
  have X := Box.new w [.int .i64 1, .int .i64 xn, .string (strB xs), .slice A xl.length c] 85
  clear hV hst hc hok hf hlen
  generalize (Val.mk 1 xn xs xl).enc = T at HW HLEN ⊢
  generalize strB xs = xsb, hxll : xl.length = xll at HC HW ST X HV ⊢
  clear hxll
  go_enter Try.func55, Try.ntmps55
  go_wp2_with fail
  refine HC.out.mono ?_
  rintro e w1 ⟨rfl, hb1⟩
  replace X := X.later hb1
  have HB1 := Lib.hid (ST.out.trans (hb1.mono (by simp)))
  clear hb1 HC ST
  have x0 : w1.cell? ⟨w.heap.size, 0, none⟩ = some (.int .i64 1) := X.cell 0
  have x1 : w1.cell? ⟨w.heap.size, 1, none⟩ = some (.int .i64 xn) := X.cell 1
  have x2 : w1.cell? ⟨w.heap.size, 2, none⟩ = some (.string xsb) := X.cell 2
  have x3 : w1.cell? ⟨w.heap.size, 3, none⟩ = some (.slice A xll c) := X.cell 3
  have xz := X.lt
  go_wp2_with fail
  go_region_with (first | (go_at_call 80; refine (newWriter_any _).mono ?_; rintro e w2 ⟨rfl, hW2, hb2, hz2⟩; have X2 := Box.later X (Below.drew (Below.refl w1.heap.size w1)) |>.later hb2; have g0 := X2.cell 0; have g1 := X2.cell 1; have g2 := X2.cell 2; have g3 := X2.cell 3; simp only [List.getElem?_cons_succ, List.getElem?_cons_zero] at g0 g1 g2 g3; have p0 : w2.cell? ⟨w1.heap.size, 1, none⟩ = some (.func (.func 95) #[] #[]) := hW2.out.1.cell 1; have pz : w1.heap.size < w2.heap.size := hW2.out.1.lt; have HV2 := HV.out.later (HB1.out.drew.trans (hb2.mono HB1.out.size)); have hW3 : Hid (Wtr w2 w1.heap.size (w1.heap.size + 1)) := hW2; have hz3 : w1.heap.size + 2 ≤ w2.heap.size := hz2) | (go_at_call 95; (with_reducible refine (HW.out w2 w1.heap.size (w1.heap.size + 1) HV2 hW3.out (by omega) (by omega)).mono ?_); rintro e w3 ⟨V, rfl, hOV, hGV, hLV⟩; have k0 := hGV.cell g0 (by simp [Value.ownBlock]); have k1 := hGV.cell g1 (by simp [Value.ownBlock]); have k2 := hGV.cell g2 (by simp [Value.ownBlock]); have k3 := hGV.cell g3 (by simp [Value.ownBlock])))
  all_goals
    have hBw := ((HB1.out.drew.trans (hb2.mono HB1.out.size)).grown hGV (Nat.le_trans HB1.out.size (by omega)) (fun k hk => by simp [Value.ownBlock] at hk))
    have HR : Hid (RetEnc (T, 0) w (.returned (.tuple #[V, .int .i64 0])) w3) := ⟨V, rfl, (hOV.bs (by have := HLEN.out; simp only [maxLen]; omega)).weak (fun b hb _ => by omega), hBw⟩
    clear k0 k1 k2 k3 g0 g1 g2 g3 x0 x1 x2 x3 p0 hOV hGV hLV hW2 hW3 hb2 hz2 X2 X HV2 hBw HB1 HW HV HLEN
    go_wp2
    go_ret2
    exact HR.out

set_option maxRecDepth 100000 in
set_option maxHeartbeats 4000000 in
theorem cEncode_2 (d : Nat) (hd : d ≤ 1000) (xn : Int) (xs : Bs) (xl : List Val) (A : Option Addr) (c : Nat) (w : World) (hV : ValsAt w w.heap.size d (.slice A xl.length c) xl) (hc : chkT (.mk 2 xn xs xl) = 0) (hf : (Val.mk 2 xn xs xl).fits) (hlen : (Val.mk 2 xn xs xl).enc.length ≤ 79000000) :
    Calls Try.prog 55 #[.agg #[.int .i64 2, .int .i64 xn, .string (strB xs), .slice A xl.length c]] w (RetEnc (encT (.mk 2 xn xs xl)) w) := by
  rw [enc_ok hc]
  obtain ⟨hok, _⟩ := chk_zero hc
  have hst := (Below.refl w.heap.size w).alloc (Nat.le_refl _) (.cells #[.int .i64 2, .int .i64 xn, .string (strB xs), .slice A xl.length c] 85)
  have HC := Lib.hid (cCheck_any d hd (.mk 2 xn xs xl) _ _ (hV.later hst))
  rw [hc] at HC
  dsimp only [Val.v, Val.kind, Val.num, Val.str, Val.elems] at HC
  have HW : Hid (∀ z pb cb, ValsAt z z.heap.size d (.slice A xl.length c) xl → Wtr z pb cb → pb < z.heap.size → cb < z.heap.size → Calls Try.prog 98 #[.slice none 0 0, .agg #[.int .i64 2, .int .i64 xn, .string (strB xs), .slice A xl.length c]] z (RetApp (Val.mk 2 xn xs xl).enc z.heap.size (.slice none 0 0) z)) := Lib.hid fun z pb cb hz1 hz2 hz3 hz4 => by
    have h := hf.strs
    rw [enc_2] at hlen
    rw [enc_2, ← List.nil_append ([2] ++ _ ++ _)]
    unfold maxLen at h
    exact cW2_any xn xs (by simp [Val.str] at h; omega) A _ c z.heap.size (.slice none 0 0) [] z (nilOwn z _) (Nat.le_refl _) (by simp at hlen ⊢; omega)
  have HLEN := Lib.hid hlen
  have HV := Lib.hid hV
  have ST := Lib.hid hst
  have X := Box.new w [.int .i64 2, .int .i64 xn, .string (strB xs), .slice A xl.length c] 85
  clear hV hst hc hok hf hlen
  generalize (Val.mk 2 xn xs xl).enc = T at HW HLEN ⊢
  generalize strB xs = xsb, hxll : xl.length = xll at HC HW ST X HV ⊢
  clear hxll
  go_enter Try.func55, Try.ntmps55
  go_wp2_with fail
  refine HC.out.mono ?_
  rintro e w1 ⟨rfl, hb1⟩
  replace X := X.later hb1
  have HB1 := Lib.hid (ST.out.trans (hb1.mono (by simp)))
  clear hb1 HC ST
  have x0 : w1.cell? ⟨w.heap.size, 0, none⟩ = some (.int .i64 2) := X.cell 0
  have x1 : w1.cell? ⟨w.heap.size, 1, none⟩ = some (.int .i64 xn) := X.cell 1
  have x2 : w1.cell? ⟨w.heap.size, 2, none⟩ = some (.string xsb) := X.cell 2
  have x3 : w1.cell? ⟨w.heap.size, 3, none⟩ = some (.slice A xll c) := X.cell 3
  have xz := X.lt
  go_wp2_with fail
  go_region_with (first | (go_at_call 80; refine (newWriter_any _).mono ?_; rintro e w2 ⟨rfl, hW2, hb2, hz2⟩; have X2 := Box.later X (Below.drew (Below.refl w1.heap.size w1)) |>.later hb2; have g0 := X2.cell 0; have g1 := X2.cell 1; have g2 := X2.cell 2; have g3 := X2.cell 3; simp only [List.getElem?_cons_succ, List.getElem?_cons_zero] at g0 g1 g2 g3; have p0 : w2.cell? ⟨w1.heap.size, 2, none⟩ = some (.func (.func 98) #[] #[]) := hW2.out.1.cell 2; have pz : w1.heap.size < w2.heap.size := hW2.out.1.lt; have HV2 := HV.out.later (HB1.out.drew.trans (hb2.mono HB1.out.size)); have hW3 : Hid (Wtr w2 w1.heap.size (w1.heap.size + 1)) := hW2; have hz3 : w1.heap.size + 2 ≤ w2.heap.size := hz2) | (go_at_call 98; (with_reducible refine (HW.out w2 w1.heap.size (w1.heap.size + 1) HV2 hW3.out (by omega) (by omega)).mono ?_); rintro e w3 ⟨V, rfl, hOV, hGV, hLV⟩; have k0 := hGV.cell g0 (by simp [Value.ownBlock]); have k1 := hGV.cell g1 (by simp [Value.ownBlock]); have k2 := hGV.cell g2 (by simp [Value.ownBlock]); have k3 := hGV.cell g3 (by simp [Value.ownBlock])))
  all_goals
    have hBw := ((HB1.out.drew.trans (hb2.mono HB1.out.size)).grown hGV (Nat.le_trans HB1.out.size (by omega)) (fun k hk => by simp [Value.ownBlock] at hk))
    have HR : Hid (RetEnc (T, 0) w (.returned (.tuple #[V, .int .i64 0])) w3) := ⟨V, rfl, (hOV.bs (by have := HLEN.out; simp only [maxLen]; omega)).weak (fun b hb _ => by omega), hBw⟩
    clear k0 k1 k2 k3 g0 g1 g2 g3 x0 x1 x2 x3 p0 hOV hGV hLV hW2 hW3 hb2 hz2 X2 X HV2 hBw HB1 HW HV HLEN
    go_wp2
    go_ret2
    exact HR.out

set_option maxRecDepth 100000 in
set_option maxHeartbeats 4000000 in
theorem cEncode_3 (d : Nat) (hd : d ≤ 1000) (xn : Int) (xs : Bs) (xl : List Val) (A : Option Addr) (c : Nat) (w : World) (hV : ValsAt w w.heap.size d (.slice A xl.length c) xl) (hc : chkT (.mk 3 xn xs xl) = 0) (hf : (Val.mk 3 xn xs xl).fits) (hlen : (Val.mk 3 xn xs xl).enc.length ≤ 79000000) :
    Calls Try.prog 55 #[.agg #[.int .i64 3, .int .i64 xn, .string (strB xs), .slice A xl.length c]] w (RetEnc (encT (.mk 3 xn xs xl)) w) := by
  rw [enc_ok hc]
  obtain ⟨hok, _⟩ := chk_zero hc
  have hst := (Below.refl w.heap.size w).alloc (Nat.le_refl _) (.cells #[.int .i64 3, .int .i64 xn, .string (strB xs), .slice A xl.length c] 85)
  have HC := Lib.hid (cCheck_any d hd (.mk 3 xn xs xl) _ _ (hV.later hst))
  rw [hc] at HC
  dsimp only [Val.v, Val.kind, Val.num, Val.str, Val.elems] at HC
  have HW : Hid (∀ z pb cb, ValsAt z z.heap.size d (.slice A xl.length c) xl → Wtr z pb cb → pb < z.heap.size → cb < z.heap.size → Calls Try.prog 99 #[.slice none 0 0, .agg #[.int .i64 3, .int .i64 xn, .string (strB xs), .slice A xl.length c], .pointer (some ⟨cb, 0, none⟩)] z (RetApp (Val.mk 3 xn xs xl).enc z.heap.size (.slice none 0 0) z)) := Lib.hid fun z pb cb hz1 hz2 hz3 hz4 => by
    obtain ⟨rfl, rfl, ho3⟩ := okB_three hok
    rw [← List.nil_append (Val.enc _)]
    exact W3.all d 0 (strB []) xl A c z.heap.size pb cb (.slice none 0 0) [] z ho3 hf.els hz1 (nilOwn z _) (Nat.le_refl _) hz2 hz3 hz4 (by simp; omega)
  have HLEN := Lib.hid hlen
  have HV := Lib.hid hV
  have ST := Lib.hid hst
  have X := Box.new w [.int .i64 3, .int .i64 xn, .string (strB xs), .slice A xl.length c] 85
  clear hV hst hc hok hf hlen
  generalize (Val.mk 3 xn xs xl).enc = T at HW HLEN ⊢
  generalize strB xs = xsb, hxll : xl.length = xll at HC HW ST X HV ⊢
  clear hxll
  go_enter Try.func55, Try.ntmps55
  go_wp2_with fail
  refine HC.out.mono ?_
  rintro e w1 ⟨rfl, hb1⟩
  replace X := X.later hb1
  have HB1 := Lib.hid (ST.out.trans (hb1.mono (by simp)))
  clear hb1 HC ST
  have x0 : w1.cell? ⟨w.heap.size, 0, none⟩ = some (.int .i64 3) := X.cell 0
  have x1 : w1.cell? ⟨w.heap.size, 1, none⟩ = some (.int .i64 xn) := X.cell 1
  have x2 : w1.cell? ⟨w.heap.size, 2, none⟩ = some (.string xsb) := X.cell 2
  have x3 : w1.cell? ⟨w.heap.size, 3, none⟩ = some (.slice A xll c) := X.cell 3
  have xz := X.lt
  go_wp2_with fail
  go_region_with (first | (go_at_call 80; refine (newWriter_any _).mono ?_; rintro e w2 ⟨rfl, hW2, hb2, hz2⟩; have X2 := Box.later X (Below.drew (Below.refl w1.heap.size w1)) |>.later hb2; have g0 := X2.cell 0; have g1 := X2.cell 1; have g2 := X2.cell 2; have g3 := X2.cell 3; simp only [List.getElem?_cons_succ, List.getElem?_cons_zero] at g0 g1 g2 g3; have p0 : w2.cell? ⟨w1.heap.size, 3, none⟩ = some (.func (.func 99) #[] #[.pointer (some ⟨w1.heap.size + 1, 0, none⟩)]) := hW2.out.1.cell 3; have pz : w1.heap.size < w2.heap.size := hW2.out.1.lt; have HV2 := HV.out.later (HB1.out.drew.trans (hb2.mono HB1.out.size)); have hW3 : Hid (Wtr w2 w1.heap.size (w1.heap.size + 1)) := hW2; have hz3 : w1.heap.size + 2 ≤ w2.heap.size := hz2) | (go_at_call 99; (with_reducible refine (HW.out w2 w1.heap.size (w1.heap.size + 1) HV2 hW3.out (by omega) (by omega)).mono ?_); rintro e w3 ⟨V, rfl, hOV, hGV, hLV⟩; have k0 := hGV.cell g0 (by simp [Value.ownBlock]); have k1 := hGV.cell g1 (by simp [Value.ownBlock]); have k2 := hGV.cell g2 (by simp [Value.ownBlock]); have k3 := hGV.cell g3 (by simp [Value.ownBlock])))
  all_goals
    have hBw := ((HB1.out.drew.trans (hb2.mono HB1.out.size)).grown hGV (Nat.le_trans HB1.out.size (by omega)) (fun k hk => by simp [Value.ownBlock] at hk))
    have HR : Hid (RetEnc (T, 0) w (.returned (.tuple #[V, .int .i64 0])) w3) := ⟨V, rfl, (hOV.bs (by have := HLEN.out; simp only [maxLen]; omega)).weak (fun b hb _ => by omega), hBw⟩
    clear k0 k1 k2 k3 g0 g1 g2 g3 x0 x1 x2 x3 p0 hOV hGV hLV hW2 hW3 hb2 hz2 X2 X HV2 hBw HB1 HW HV HLEN
    go_wp2
    go_ret2
    exact HR.out

theorem cEncode_any (d : Nat) (hd : d ≤ 1000) (x : Val) (L : Value) (w : World) (hV : ValsAt w w.heap.size d L x.elems) (hf : x.fits) (hlen : x.enc.length ≤ 79000000) :
    Calls Try.prog 55 #[x.v L] w (RetEnc (encT x) w) := by
  by_cases hc : chkT x = 0
  · obtain ⟨hok, _⟩ := chk_zero hc
    obtain ⟨A, c, rfl, hm⟩ := hV.form
    have hk := okB_kind hok
    obtain ⟨k, n, s, l⟩ := x
    dsimp only [Val.v, Val.kind, Val.num, Val.str, Val.elems] at *
    rcases hk with rfl | rfl | rfl
    · exact cEncode_1 d hd n s l A c w hV hc hf hlen
    · exact cEncode_2 d hd n s l A c w hV hc hf hlen
    · exact cEncode_3 d hd n s l A c w hV hc hf hlen
  · exact cEncode_err d hd x L w hV hc
end Go.Proofs.Ytmbifmmkccghfaa
