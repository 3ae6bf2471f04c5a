/- Contract of Size of codec. (Printed by gen_cp.py.) -/
import Derived.Test.YtmbifmmkccghfaaQCP
set_option linter.unusedVariables false
set_option linter.unusedSimpArgs false
namespace Go.Proofs.Ytmbifmmkccghfaa
open Go.RowKit

end Go.Proofs.Ytmbifmmkccghfaa

/-
  Contracts of numeral and encode of the reference. No condition.
-/
namespace Go.Proofs.Ytmbifmmkccghfaa
open Go.RowKit
attribute [local go_sem ↓ high] app_named

def RetOwn (l : Bs) (w : World) (e : Ending) (w' : World) : Prop := ∃ V, e = .returned V ∧ OwnBs w' w.heap.size V l ∧ Below w.heap.size w w'
theorem own_lit (w : World) (x : UInt8) : OwnBs (w.alloc (.cells #[.int .u8 (x.toNat : Int)] 5)) w.heap.size (.slice (some ⟨w.heap.size, 0, none⟩) 1 1) [x] :=
  ⟨rfl, .inr ⟨w.heap.size, 1, _, rfl, Nat.le_refl _, heap_alloc_new w _, Nat.le_refl _, by simp [maxLen], rfl, rfl⟩⟩
theorem OwnBs.mono {w : World} {base base' : Nat} {v : Value} {l : Bs} (h : OwnBs w base v l) (hb : base' ≤ base) : OwnBs w base' v l := by
  obtain ⟨hl, h⟩ := h
  refine ⟨hl, ?_⟩
  rcases h with h | ⟨g, cap, cur, hv, hbg, hr⟩
  · exact .inl h
  · exact .inr ⟨g, cap, cur, hv, Nat.le_trans hb hbg, hr⟩
theorem lit_app {w w1 : World} {x : UInt8} {V : Value} {l : Bs} (hO : OwnBs w1 (w.alloc (.cells #[.int .u8 (x.toNat : Int)] 5)).heap.size V l) (hB' : Below (w.alloc (.cells #[.int .u8 (x.toNat : Int)] 5)).heap.size (w.alloc (.cells #[.int .u8 (x.toNat : Int)] 5)) w1) (hl : l.length ≤ 100000000) :
    ∃ v' w', (appF #[43, 43] 43 #[.slice (some ⟨w.heap.size, 0, none⟩) 1 1, V]).run Try.prog w1 = .ok v' w' ∧ OwnBs w' w.heap.size v' (x :: l) ∧ Below w.heap.size w w' := by
  have hst := (Below.refl w.heap.size w).alloc (Nat.le_refl _) (.cells #[.int .u8 (x.toNat : Int)] 5)
  have ho := (own_lit w x).below hB'
  obtain ⟨v', w', hr, h1, h2, _⟩ := app_bytes ho (hO.bs (by simp only [maxLen]; omega)) (Nat.le_trans hst.size hB'.size) (by simp; omega)
  exact ⟨v', w', hr, h1, below_grown (hst.trans (hB'.mono hst.size)) ho (Nat.le_refl _) (Nat.le_trans hst.size hB'.size) h2⟩

set_option maxRecDepth 100000 in
set_option maxHeartbeats 1000000 in
theorem rNumeral_any (u : Nat) (hu : u < 18446744073709551616) : ∀ w : World, Calls Try.prog 90 #[.int .u64 u] w (RetOwn (numT u) w) := by
  induction u using Nat.strongRecOn with
  | _ u ih =>
    intro w
    by_cases h : u < 128
    · rw [numT_small h]
      have hx := own_lit w (UInt8.ofNat u)
      rw [u8_nat (by omega)] at hx
      have HR : Hid (RetOwn [UInt8.ofNat u] w (.returned (.slice (some ⟨w.heap.size, 0, none⟩) 1 1)) (w.alloc (.cells #[.int .u8 (u : Int)] 5))) := ⟨_, rfl, hx, (Below.refl _ _).alloc (Nat.le_refl _) _⟩
      clear hx ih
      go_enter Try.func90, Try.ntmps90
      go_wp2_with fail
      go_ret
      exact HR.out
    · have IH := Lib.hid (ih (u / 128) (by omega) (by omega))
      obtain ⟨T, hT⟩ : ∃ T, numT u = T := ⟨_, rfl⟩
      rw [hT]
      have HT : Hid (UInt8.ofNat (u % 128 + 128) :: numT (u / 128) = T) := by rw [Hid, ← numT_big h, hT]
      have hb : ((UInt8.ofNat (u % 128 + 128)).toNat : Int) = (u : Int) % 128 + 128 := by rw [u8_nat (by omega)]; omega
      have HB := Lib.hid hb
      clear ih hT hb
      go_enter Try.func90, Try.ntmps90
      go_wp2_with fail
      have e : (u : Int) / 128 = ((u / 128 : Nat) : Int) := by omega
      rw [e]
      refine (IH.out _).mono ?_
      rintro e w1 ⟨V, rfl, hO, hb1⟩
      rw [← HB.out] at hO hb1
      have hl := numT_le (u := u / 128) (by omega)
      obtain ⟨v2, w2, hr, hO2, hB2⟩ := lit_app hO hb1 (by omega)
      rw [HT.out] at hO2
      have HR : Hid (RetOwn T w (.returned v2) w2) := ⟨_, rfl, hO2, hB2⟩
      obtain ⟨A, cc, rfl⟩ := hO.form'
      clear hO hb1 hO2 hB2 HB HT IH e
      go_wp2
      go_ret
      exact HR.out

def EncR (d : Nat) : Prop := ∀ (x : Val) (L : Value) (w : World), ValsAt w w.heap.size d L x.elems → x.okB = true → x.fits → x.enc.length ≤ 79000000 →
    Calls Try.prog 69 #[x.v L] w (RetOwn x.enc w)

set_option maxRecDepth 100000 in
set_option maxHeartbeats 4000000 in
theorem rEncode_1 (n : Int) (h1 : -9223372036854775808 ≤ n) (h2 : n ≤ 9223372036854775807) (sb : ByteArray) (A : Option Addr) (m c : Nat) (w : World) :
    Calls Try.prog 69 #[.agg #[.int .i64 1, .int .i64 n, .string sb, .slice A m c]] w (RetOwn ([1] ++ numT (zig n)) w) := by
  have hst := (Below.refl w.heap.size w).alloc (Nat.le_refl _) (.cells #[.int .i64 1, .int .i64 n, .string sb, .slice A m c] 85)
  have ST := Lib.hid hst
  have X := (Box.new w [.int .i64 1, .int .i64 n, .string sb, .slice A m c] 85)
  clear hst
  have hl := numT_le (u := zig n) (zig_lt h1 h2)
  have HL := Lib.hid hl
  have HZ := Lib.hid (zig_lt h1 h2)
  clear hl
  go_enter Try.func69, Try.ntmps69
  go_wp2_with (go_at_call 91; refine (rUnsigned_any n _ h1 h2).mono ?_; rintro e w9 ⟨rfl, rfl⟩)
  refine (rNumeral_any _ HZ.out _).mono ?_
  rintro e w1 ⟨V, rfl, hO, hb1⟩
  obtain ⟨v2, w2, hr, hO2, hB2⟩ := lit_app (w := w.alloc (.cells #[.int .i64 1, .int .i64 n, .string sb, .slice A m c] 85)) (x := 1) hO hb1 (by have := HL.out; omega)
  have hz : (w.alloc (.cells #[.int .i64 1, .int .i64 n, .string sb, .slice A m c] 85)).heap.size = w.heap.size + 1 := by simp
  rw [hz] at hr
  have HR : Hid (RetOwn ([1] ++ numT (zig n)) w (.returned v2) w2) := ⟨_, rfl, hO2.mono (by simp), ST.out.trans (hB2.mono (by simp))⟩
  obtain ⟨A, cc, rfl⟩ := hO.form'
  clear hO hb1 hO2 hB2 HL HZ ST X hz
  go_wp2
  go_ret
  exact HR.out

theorem lit_app2 {w w1 : World} {x : UInt8} {V : Value} {l : Bs} (hO : OwnBs w1 w.heap.size V l) (hB : Below w.heap.size w w1) (hl : l.length ≤ 100000000) :
    ∃ v' w', (appF #[43, 43] 43 #[.slice (some ⟨w1.heap.size, 0, none⟩) 1 1, V]).run Try.prog (w1.alloc (.cells #[.int .u8 (x.toNat : Int)] 5)) = .ok v' w' ∧ OwnBs w' w.heap.size v' (x :: l) ∧ Below w.heap.size w w' := by
  have hst := (Below.refl w1.heap.size w1).alloc (Nat.le_refl _) (.cells #[.int .u8 (x.toNat : Int)] 5)
  have ho := (own_lit w1 x).mono hB.size
  obtain ⟨v', w', hr, h1, h2, _⟩ := app_bytes ho ((hO.below hst).bs (by simp only [maxLen]; omega)) (Nat.le_trans hB.size hst.size) (by simp; omega)
  exact ⟨v', w', hr, h1, below_grown (hB.trans (hst.mono hB.size)) ho (Nat.le_refl _) (Nat.le_trans hB.size hst.size) h2⟩

set_option maxRecDepth 100000 in
set_option maxHeartbeats 4000000 in
theorem rEncode_2 (n : Int) (s : Bs) (hs : s.length ≤ 9223372036854775807) (A : Option Addr) (m c : Nat) (w : World) (hl : s.length ≤ 90000000) :
    Calls Try.prog 69 #[.agg #[.int .i64 2, .int .i64 n, .string (strB s), .slice A m c]] w (RetOwn ([2] ++ numT s.length ++ s) w) := by
  have hst := (Below.refl w.heap.size w).alloc (Nat.le_refl _) (.cells #[.int .i64 2, .int .i64 n, .string (strB s), .slice A m c] 85)
  have ST := Lib.hid hst
  have X := (Box.new w [.int .i64 2, .int .i64 n, .string (strB s), .slice A m c] 85)
  have hz0 : (w.alloc (.cells #[.int .i64 2, .int .i64 n, .string (strB s), .slice A m c] 85)).heap.size = w.heap.size + 1 := by simp
  have hsz : (strB s).size = s.length := rfl
  have HN := Lib.hid (rNumeral_any s.length (by omega))
  have hnl := numT_le (u := s.length) (by omega)
  rw [← hsz] at HN
  have hsz2 : (strB s).size ≤ 9223372036854775807 := by rw [hsz]; omega
  have hwr : IntKind.u64.wrap ((strB s).size : Int) = ((strB s).size : Int) := by rw [wrap_u64']; omega
  -- what becomes of the bytes of the numeral, whichever comes first
  have hA : ∀ (v2 : Value) (w2 : World), Below (w.alloc (.cells #[.int .i64 2, .int .i64 n, .string (strB s), .slice A m c] 85)).heap.size (w.alloc (.cells #[.int .i64 2, .int .i64 n, .string (strB s), .slice A m c] 85)) w2 → OwnBs w2 (w.alloc (.cells #[.int .i64 2, .int .i64 n, .string (strB s), .slice A m c] 85)).heap.size v2 (2 :: numT s.length) → ∃ v3 w3, (appF #[43, 9] 43 #[v2, .string (strB s)]).run Try.prog w2 = .ok v3 w3 ∧ Hid (RetOwn ([2] ++ numT s.length ++ s) w (.returned v3) w3) ∧ w2.cell? ⟨w.heap.size, 2, none⟩ = some (.string (strB s)) ∧ w3.cell? ⟨w.heap.size, 2, none⟩ = some (.string (strB s)) := by
    intro v2 w2 hb ho
    obtain ⟨v3, w3, hr, h1, h2, _⟩ := app_str (s := s) ho hb.size (by simp; omega)
    have hb3 := below_grown hb ho (Nat.le_refl _) hb.size h2
    exact ⟨v3, w3, hr, ⟨v3, rfl, h1.mono (by simp), hst.trans (hb3.mono (by simp))⟩, (X.later hb).cell 2, (X.later hb3).cell 2⟩
  have HA := Lib.hid hA
  have HNL := Lib.hid hnl
  clear hst hA hnl
  rw [hsz] at HN
  generalize numT s.length = N at HN HA HNL ⊢
  rw [← hsz] at HN
  clear hsz
  generalize hT : [2] ++ N ++ s = T at HA ⊢
  clear hT
  generalize strB s = sb at ST X HN HA hsz2 hwr hz0 ⊢
  go_enter Try.func69, Try.ntmps69
  go_wp2_with fail
  have x2 : (w.alloc (.cells #[.int .i64 2, .int .i64 n, .string sb, .slice A m c] 85)).cell? ⟨w.heap.size, 2, none⟩ = some (.string sb) := X.cell 2
  have xz : w.heap.size < (w.alloc (.cells #[.int .i64 2, .int .i64 n, .string sb, .slice A m c] 85)).heap.size := X.lt
  generalize (w.alloc (.cells #[.int .i64 2, .int .i64 n, .string sb, .slice A m c] 85)) = W at ST X HA hz0 x2 xz ⊢
  have hz1 := Lib.hid hz0
  clear hz0
  go_region_held3 (fun w' => w'.cell? ⟨w.heap.size, 2, none⟩ = some (.string sb)) (go_keep) (((go_at_call 90; (with_reducible refine (HN.out _).mono ?_); rintro e w1 ⟨V, rfl, hO, hb1⟩; have hN : Hid (∃ A cc, V = .slice A N.length cc) := hO.form'; (first | (have hW := ((Below.refl W.heap.size W).alloc (Nat.le_refl _) (.cells #[.int .u8 2] 5)).drew.trans (hb1.mono (by simp)); obtain ⟨v2, w2, hr, hO2, hB2⟩ := lit_app (w := W) (x := 2) hO ((Below.refl _ _).drew.trans hb1) (by have := HNL.out; omega); have hr : (appF #[43, 43] 43 #[.slice (some ⟨W.heap.size, 0, none⟩) 1 1, V]).run Try.prog w1 = .ok v2 w2 := hr) | (have hW := (Below.refl W.heap.size W).drew.trans hb1; obtain ⟨v2, w2, hr, hO2, hB2⟩ := lit_app2 (w := W) (x := 2) hO hW (by have := HNL.out; omega); have hr : (appF #[43, 43] 43 #[.slice (some ⟨w1.heap.size, 0, none⟩) 1 1, V]).run Try.prog (w1.alloc (.cells #[.int .u8 2] 5)) = .ok v2 w2 := hr)); obtain ⟨v3, w3, hr3, HR, hc2, hc3⟩ := HA.out v2 w2 hB2 hO2; have hc1 : w1.cell? ⟨w.heap.size, 2, none⟩ = some (.string sb) := (X.later hW).cell 2; have hz1' : w.heap.size < w1.heap.size := (X.later hW).lt)))
  all_goals
    clear hO hb1 hO2 hB2 HNL hc1 hc2 hc3 hr hr3 x2 xz hW hN
    go_wp2
    go_ret
    exact HR.out

end Go.Proofs.Ytmbifmmkccghfaa

/-
  Contracts of encode, Encode and Size of the reference. No condition.
-/
namespace Go.Proofs.Ytmbifmmkccghfaa
open Go.RowKit
attribute [local go_sem ↓ high] app_named

set_option maxRecDepth 100000 in
set_option maxHeartbeats 4000000 in
theorem rEncode_3 (d : Nat) (ih : ∀ d', d' < d → EncR d') (n0 : Int) (sb : ByteArray) (l : List Val) (A : Option Addr) (c : Nat) (w : World) (hV : ValsAt w w.heap.size d (.slice A l.length c) l) (hok : okL l = true) (hfit : fitsL l) (hlen : ([3] ++ numT l.length ++ encL l).length ≤ 79000000) :
    Calls Try.prog 69 #[.agg #[.int .i64 3, .int .i64 n0, .string sb, .slice A l.length c]] w (RetOwn ([3] ++ numT l.length ++ encL l) w) := by
  obtain ⟨_, _, _, hm⟩ := hV.form
  unfold maxLen at hm
  obtain ⟨T, hT⟩ : ∃ T, [3] ++ numT l.length ++ encL l = T := ⟨_, rfl⟩
  rw [hT] at hlen ⊢
  have HT := Lib.hid hT
  have HLEN := Lib.hid hlen
  obtain ⟨n, hn⟩ : ∃ n, l.length = n := ⟨_, rfl⟩
  rw [hn] at hm hV HT ⊢
  have HN := Lib.hid hn
  have IH := Lib.hid ih
  have hst := (Below.refl w.heap.size w).alloc (Nat.le_refl _) (.cells #[.int .i64 3, .int .i64 n0, .string sb, .slice A n c] 85)
  have ST := Lib.hid hst
  have X := Box.new w [.int .i64 3, .int .i64 n0, .string sb, .slice A n c] 85
  have HV := Lib.hid (hV.later hst)
  have HOK := Lib.hid hok
  have HFIT := Lib.hid hfit
  have hnl := numT_le (u := n) (by omega)
  have hsz : (w.alloc (.cells #[.int .i64 3, .int .i64 n0, .string sb, .slice A n c] 85)).heap.size = w.heap.size + 1 := by simp
  have HNM := Lib.hid (rNumeral_any n (by omega))
  clear hT hlen hn hV ih hst hok hfit
  go_enter Try.func69, Try.ntmps69
  go_wp2_with fail
  refine (HNM.out _).mono ?_
  rintro e w1 ⟨U, rfl, hO, hb1⟩
  obtain ⟨v2, w2, hr, hO2, hB2⟩ := lit_app (w := w.alloc (.cells #[.int .i64 3, .int .i64 n0, .string sb, .slice A n c] 85)) (x := 3) hO hb1 (by omega)
  rw [hsz] at hr
  obtain ⟨AU, cU, rfl⟩ := hO.form'
  have HZ := Lib.hid hsz
  have hS : Hid (w.heap.size + 1 ≤ (w.alloc (.cells #[.int .i64 3, .int .i64 n0, .string sb, .slice A n c] 85)).heap.size) := by rw [Hid, hsz]; exact Nat.le_refl _
  have HO2 := Lib.hid hO2
  have HB2 := Lib.hid hB2
  have x3 : w2.cell? ⟨w.heap.size, 3, none⟩ = some (.slice A n c) := (X.later hB2).cell 3
  clear hO hb1 hO2 hB2 HNM hsz
  go_wp2_with fail
  clear x3
  generalize w.alloc (.cells #[.int .i64 3, .int .i64 n0, .string sb, .slice A n c] 85) = W at ST X HV hS HO2 HB2 HZ ⊢
  go_loopw [3, 4] (fun o i wr => ∃ (k : Nat) (V : Value), k ≤ n ∧ i = .int .i64 k ∧ o = V ∧ Hid (OwnBs wr W.heap.size V ((3 :: numT n) ++ encL (l.take k))) ∧ Hid (Below W.heap.size W wr)) (fun _ i _ => n - (intOf i).toNat)
  case atStart => exact ⟨0, v2, Nat.zero_le _, rfl, rfl, by rw [List.take_zero, encL, List.append_nil]; exact HO2, HB2⟩
  case round =>
    clear HO2 HB2
    obtain ⟨k, V, hk, rfl, hVe, HO, HB⟩ := hrel
    replace hVe := hVe.symm
    subst hVe
    have Xr := X.later HB.out
    have x3 : wr.cell? ⟨w.heap.size, 3, none⟩ = some (.slice A n c) := Xr.cell 3
    have xz := Xr.lt
    by_cases hlt : k < n
    · have hlt' : k < l.length := by rw [HN.out]; exact hlt
      obtain ⟨d', b, off, U, rfl, rfl, hb, c0, c1, c2, c3, hE⟩ := HV.out.elem hlt'
      have htk := List.take_succ_eq_append_getElem hlt'
      have hxo := okL_at HOK.out (List.getElem_mem hlt')
      have hxf := fits_mem HFIT.out (List.getElem_mem hlt')
      generalize l[k] = x at c0 c1 c2 c3 hE htk hxo hxf
      have hsp : (encL (l.take (k + 1))).length ≤ (encL l).length := by
        have e := encL_append (l.take (k + 1)) (l.drop (k + 1))
        rw [List.take_append_drop] at e
        rw [e, List.length_append]
        omega
      have hsn : encL (l.take (k + 1)) = encL (l.take k) ++ x.enc := by rw [htk, encL_snoc]
      have hlT : 1 + (numT n).length + (encL l).length ≤ 79000000 := by
        have := HLEN.out
        rw [← HT.out] at this
        simp only [List.length_append, List.length_singleton] at this
        omega
      have hsum : (encL (l.take k)).length + x.enc.length ≤ (encL l).length := by rw [hsn, List.length_append] at hsp; exact hsp
      have HS : Hid ((3 :: numT n) ++ encL (l.take (k + 1)) = ((3 :: numT n) ++ encL (l.take k)) ++ x.enc) := by rw [Hid, hsn, List.append_assoc]
      obtain ⟨A', c', rfl, _⟩ := hE.form
      replace c0 := (HB.out.cell (p := ⟨b, off + k * 4, none⟩) hb).trans c0
      replace c1 := (HB.out.cell (p := ⟨b, off + k * 4 + 1, none⟩) hb).trans c1
      replace c2 := (HB.out.cell (p := ⟨b, off + k * 4 + 2, none⟩) hb).trans c2
      replace c3 := (HB.out.cell (p := ⟨b, off + k * 4 + 3, none⟩) hb).trans c3
      have HC := Lib.hid (IH.out d' (by omega) x _ _ (hE.later HB.out) hxo hxf (by omega))
      have HLX : Hid (((3 :: numT n) ++ encL (l.take k)).length + x.enc.length ≤ 1000000000) := by
        rw [Hid]
        simp only [List.length_append, List.length_cons]
        omega
      clear hE htk hsp hsn hlT hsum hxo hxf
      generalize (3 :: numT n) ++ encL (l.take k) = P at HO HS HLX
      generalize x.enc = xe at HC HS HLX
      dsimp only [Val.v] at HC
      generalize x.kind = ak, x.num = an, strB x.str = as', x.elems.length = al at c0 c1 c2 c3 HC
      go_wp2_with fail
      refine HC.out.mono ?_
      rintro e w3 ⟨U2, rfl, hO3, hb3⟩
      have ho3 := HO.out.below hb3
      obtain ⟨v4, w4, hr4, hO4, hg4, _⟩ := app_bytes ho3 (hO3.bs (by have := HLX.out; simp only [maxLen]; omega)) (Nat.le_trans HB.out.size hb3.size) HLX.out
      have HB4 := Lib.hid (below_grown (HB.out.trans (hb3.mono HB.out.size)) ho3 (Nat.le_refl _) (Nat.le_trans HB.out.size hb3.size) hg4)
      rw [← HS.out] at hO4
      have HO4 := Lib.hid hO4
      obtain ⟨AU, cU, rfl⟩ := hO3.form'
      clear hO3 hb3 ho3 hO4 hg4 HC c0 c1 c2 c3 x3 xz Xr HO HB HLX HS
      go_wp2
      exact ⟨⟨k + 1, v4, by omega, by go_num, rfl, HO4, HB4⟩, by simp [intOf]; omega⟩
    · obtain rfl : k = n := by omega
      have hfull : l.take k = l := List.take_of_length_le (by rw [HN.out]; exact Nat.le_refl _)
      rw [hfull] at HO
      have hTT : (3 :: numT k) ++ encL l = T := by rw [← HT.out]; rfl
      rw [hTT] at HO
      have HR : Hid (RetOwn T w (.returned V) wr) := ⟨V, rfl, HO.out.mono (by have := HZ.out; omega), ST.out.trans (HB.out.mono (by have := HZ.out; omega))⟩
      clear hfull hTT HO HB
      go_wp2
      go_ret
      exact HR.out

theorem EncR.all (d : Nat) : EncR d := by
  induction d using Nat.strongRecOn with
  | _ d ih =>
    intro x L w hV hok hf hlen
    obtain ⟨A, c, rfl, hm⟩ := hV.form
    have hk := okB_kind hok
    obtain ⟨k, n, s, l⟩ := x
    dsimp only [Val.v, Val.kind, Val.num, Val.str, Val.elems] at *
    rcases hk with rfl | rfl | rfl
    · have h := hf.nums
      rw [enc_1]
      exact rEncode_1 n h.1 h.2 (strB s) A _ c w
    · have h := hf.strs
      rw [enc_2] at hlen ⊢
      unfold maxLen at h
      exact rEncode_2 n s (by simp [Val.str] at h; omega) A _ c w (by simp at hlen; omega)
    · obtain ⟨_, _, ho3⟩ := okB_three hok
      rw [enc_3] at hlen ⊢
      exact rEncode_3 d ih n (strB s) l A c w hV ho3 hf.els hlen

end Go.Proofs.Ytmbifmmkccghfaa

/-
  Contracts of the reader's want and take. No condition.
-/
namespace Go.Proofs.Ytmbifmmkccghfaa
open Go.RowKit

def bad : List PanicEntry := [{ v := .iface 33 (.int .i64 10), recovered := false }]
theorem want_yes (p : Value) (w : World) : Calls Try.prog 85 #[p, .bool true] w fun e w' => e = .returned (.tuple #[]) ∧ w = w' := by
  go_enter Try.func85, Try.ntmps85
  go_wp2
  go_end0
  exact ⟨rfl, rfl⟩
theorem want_no (p : Value) (w : World) : Calls Try.prog 85 #[p, .bool false] w fun e w' => e = .panicked bad ∧ w = w' := by
  go_enter Try.func85, Try.ntmps85
  go_wp2
  exact ⟨rfl, rfl, rfl⟩

def RdAt (w : World) (D rb : Nat) (l : Bs) : Prop := ∃ A c, Box w rb [.slice A l.length c] ∧ BsAt w (fun b => b < D ∧ b ≠ rb) (.slice A l.length c) l
theorem BsAt.part {w : World} {S : Nat → Prop} {b : Addr} {n c : Nat} {l : Bs} (h : BsAt w S (.slice (some b) n c) l) (k : Nat) (hk : k ≤ n) : BsAt w S (.slice (some b) k k) (l.take k) := by
  obtain ⟨hf, A, c', hv, hm, h1⟩ := h
  cases hv
  refine ⟨.inr ⟨_, _, _, rfl, Nat.le_refl _, by omega⟩, some b, k, by rw [List.length_take]; congr 1; omega, by rw [List.length_take]; omega, fun i hi => ?_⟩
  rw [List.length_take] at hi
  obtain ⟨b', off, hb, hS, hlt, h2⟩ := h1 i (by omega)
  refine ⟨b', off, hb, hS, hlt, fun j hj => ?_⟩
  rw [h2 j hj]
  simp only [List.getD_eq_getElem?_getD, List.getElem?_take, if_pos (show i < k by omega)]
theorem BsAt.rest {w : World} {S : Nat → Prop} {b off n c : Nat} {l : Bs} (h : BsAt w S (.slice (some ⟨b, off, none⟩) n c) l) (k : Nat) (hk : k ≤ n) : BsAt w S (.slice (some ⟨b, off + k, none⟩) (n - k) (c - k)) (l.drop k) := by
  obtain ⟨hf, A, c', hv, hm, h1⟩ := h
  cases hv
  have hc : l.length ≤ c ∧ c ≤ maxLen := by
    rcases hf with h | ⟨a, n', c', h, h3, h4⟩
    · cases h
    · injection h with _ h5 h6; omega
  refine ⟨.inr ⟨_, _, _, rfl, by omega, by omega⟩, some ⟨b, off + k, none⟩, c - k, by rw [List.length_drop], by rw [List.length_drop]; omega, fun i hi => ?_⟩
  rw [List.length_drop] at hi
  obtain ⟨b', off', hb, hS, hlt, h2⟩ := h1 (i + k) (by omega)
  cases hb
  refine ⟨b, off + k, rfl, hS, hlt, fun j hj => ?_⟩
  have := h2 j hj
  simp only [List.getD_eq_getElem?_getD, List.getElem?_drop]
  rw [Nat.add_comm k i, ← List.getD_eq_getElem?_getD, ← this]
  congr 2
  omega
theorem bsAt_end {w : World} {S : Nat → Prop} {A : Option Addr} (hA : A = none ∨ ∃ a, A = some a) (l : Bs) : BsAt w S (.slice A 0 0) (l.drop l.length) := by
  rw [List.drop_length]
  refine ⟨?_, A, 0, rfl, Nat.zero_le _, fun i hi => by simp at hi⟩
  rcases hA with rfl | ⟨a, rfl⟩
  · exact .inl rfl
  · exact .inr ⟨a, 0, 0, rfl, Nat.le_refl _, Nat.zero_le _⟩
theorem RdAt.keep {w w' : World} {D rb : Nat} {l : Bs} (h : RdAt w D rb l) (hb : Below w.heap.size w w') : RdAt w' D rb l := by
  obtain ⟨A, c, h1, h2⟩ := h
  exact ⟨A, c, h1.later hb, h2.keep (Keeps.of hb)⟩
theorem RdAt.keepG {w w' : World} {D rb : Nat} {l : Bs} {r : Option Nat} (h : RdAt w D rb l) (hg : w.grownBy w' r) (hr : ∀ k, r = some k → D ≤ k ∧ k ≠ rb) : RdAt w' D rb l := by
  obtain ⟨A, c, h1, h2⟩ := h
  refine ⟨A, c, h1.same (hg.block rb h1.lt fun e => (hr rb e.symm).2 rfl), h2.keep ⟨hg.size, fun b hb hl => hg.block b hl fun e => by have := (hr b e.symm).1; omega⟩⟩
theorem RdAt.lt {w : World} {D rb : Nat} {l : Bs} (h : RdAt w D rb l) : rb < w.heap.size := by
  obtain ⟨A, c, h1, _⟩ := h
  exact h1.lt
def Fails (rb : Nat) (w : World) (e : Ending) (w' : World) : Prop := e = .panicked bad ∧ w.grownBy w' (some rb)
def RetTake (l : Bs) (k D rb : Nat) (w : World) (e : Ending) (w' : World) : Prop :=
  ∃ A c, e = .returned (.slice A k c) ∧ BsAt w' (fun b => b < D ∧ b ≠ rb) (.slice A k c) (l.take k) ∧ RdAt w' D rb (l.drop k) ∧ w.grownBy w' (some rb) ∧ w'.heap.size = w.heap.size
theorem grownBy_set {w : World} {a : Addr} (v : Value) : w.grownBy (w.setCell a v) (some a.block) :=
  ⟨rfl, rfl, rfl, by simp, fun k _ hne => Below.heap_setCell w a v k (fun e => hne (by rw [e]))⟩

set_option maxRecDepth 100000 in
set_option maxHeartbeats 2000000 in
theorem take_no (l : Bs) (k D rb : Nat) (w : World) (h : RdAt w D rb l) (hk : l.length < k) : Calls Try.prog 101 #[.pointer (some ⟨rb, 0, none⟩), .int .i64 k] w (Fails rb w) := by
  obtain ⟨A, c, X, hB⟩ := h
  have HR : Hid (Fails rb w (.panicked bad) w) := ⟨rfl, grownBy_refl _ _⟩
  clear hB
  generalize l.length = n at X hk
  have x0 : w.cell? ⟨rb, 0, none⟩ = some (.slice A n c) := X.cell 0
  have hd : decide (k ≤ n) = false := decide_eq_false (by omega)
  go_enter Try.func101, Try.ntmps101
  go_wp2_with fail
  refine (want_no _ _).mono ?_
  rintro e w1 ⟨rfl, rfl⟩
  go_wp2
  exact ⟨rfl, HR.out⟩

theorem take_close {w : World} {D rb n c k : Nat} {a a' : Addr} {l : Bs} {n' c' : Nat} (hB : BsAt w (fun b => b < D ∧ b ≠ rb) (.slice (some a) l.length c) l) (X : Box w rb [.slice (some a) l.length c]) (hsp : l.length ≠ 0 → ∃ b off, a = ⟨b, off, none⟩ ∧ b ≠ rb) (hn : l.length = n) (hk : k ≤ n)
    (h : (k = n ∧ n' = 0 ∧ c' = 0) ∨ Value.slice (some a') n' c' = .slice (some (a.add k)) (n - k) (c - k)) : RetTake l k D rb w (.returned (.slice (some a) k k)) (w.setCell ⟨rb, 0, none⟩ (.slice (some a') n' c')) := by
  subst hn
  have hkp : Keeps (fun b => b < D ∧ b ≠ rb) w (w.setCell ⟨rb, 0, none⟩ (.slice (some a') n' c')) := Keeps.set w (a := ⟨rb, 0, none⟩) (fun h => h.2 rfl) _
  refine ⟨some a, k, rfl, (hB.part k hk).keep hkp, ?_, grownBy_set _, by simp⟩
  rcases h with ⟨rfl, rfl, rfl⟩ | h
  · have hz : (l.drop l.length).length = 0 := by simp
    refine ⟨some a', 0, ?_, ?_⟩
    · rw [hz]
      exact X.set 0 _
    · rw [hz]
      exact bsAt_end (.inr ⟨a', rfl⟩) l
  · injection h with h1 h2 h3
    injection h1 with h1
    subst h1 h2 h3
    have hdl : (l.drop k).length = l.length - k := List.length_drop
    refine ⟨some (a.add k), c - k, ?_, ?_⟩
    · rw [hdl]
      exact X.set 0 _
    · rw [hdl]
      by_cases h0 : l.length = 0
      · have hl : l = [] := List.eq_nil_of_length_eq_zero h0
        subst hl
        have hcc : c ≤ maxLen := by
          rcases hB.1 with h | ⟨a, n', c', h, h3, h4⟩
          · cases h
          · injection h with _ h5 h6; omega
        refine ⟨.inr ⟨a.add k, [].length - k, c - k, rfl, by simp, by omega⟩, some (a.add k), c - k, by simp, by simp, fun i hi => by simp at hi⟩
      · obtain ⟨b, off, rfl, hne⟩ := hsp h0
        rw [add_at] at hkp ⊢
        exact (hB.rest k hk).keep hkp

set_option maxRecDepth 100000 in
set_option maxHeartbeats 2000000 in
theorem take_yes (l : Bs) (k D rb : Nat) (w : World) (h : RdAt w D rb l) (hk : k ≤ l.length) : Calls Try.prog 101 #[.pointer (some ⟨rb, 0, none⟩), .int .i64 k] w (RetTake l k D rb w) := by
  obtain ⟨A, c, X, hB⟩ := h
  obtain ⟨_, _, _, hm⟩ := hB.form
  unfold maxLen at hm
  rcases A with _ | a
  · have h0 : l.length = 0 := hB.2.sl.none_zero.2
    obtain rfl : k = 0 := by omega
    have hc0 : c = 0 := by
      rcases hB.1 with h | ⟨a, n', c', h, _⟩
      · injection h
      · cases h
    subst hc0
    rw [h0] at X
    have hR : RetTake l 0 D rb w (.returned (.slice none 0 0)) (w.setCell ⟨rb, 0, none⟩ (.slice none 0 0)) := by
      have hl : l = [] := List.eq_nil_of_length_eq_zero h0
      subst hl
      exact ⟨none, 0, rfl, bsAt_nil _ _, ⟨none, 0, X.set 0 _, bsAt_nil _ _⟩, grownBy_set _, by simp⟩
    have HR := Lib.hid hR
    have x0 : w.cell? ⟨rb, 0, none⟩ = some (.slice none 0 0) := X.cell 0
    have xf := X.free 0
    have xz := X.lt
    clear hR hB hm hk h0
    go_enter Try.func101, Try.ntmps101
    go_wp2_with fail
    refine (want_yes _ _).mono ?_
    rintro e w1 ⟨rfl, rfl⟩
    go_wp2
    go_ret
    exact HR.out
  · have hsp : l.length ≠ 0 → ∃ b off, a = ⟨b, off, none⟩ ∧ b ≠ rb := by
      intro h0
      obtain ⟨_, A', c', hv, _, h1⟩ := hB
      cases hv
      obtain ⟨b, off, hb, hS, _⟩ := h1 0 (by omega)
      cases hb
      exact ⟨b, off, rfl, hS.2⟩
    have hcc : l.length ≤ c ∧ c ≤ maxLen := by
      rcases hB.1 with h | ⟨a, n', c', h, h3, h4⟩
      · cases h
      · injection h with _ h5 h6; omega
    have hkp : Keeps (fun b => b < D ∧ b ≠ rb) w (w.setCell ⟨rb, 0, none⟩ (.slice (some a) (l.length - k) (c - k))) := Keeps.set w (a := ⟨rb, 0, none⟩) (fun h => h.2 rfl) _
    obtain ⟨hcl, hcm⟩ := hcc
    unfold maxLen at hcm
    have x0 : w.cell? ⟨rb, 0, none⟩ = some (.slice (some a) l.length c) := X.cell 0
    have xf := X.free 0
    have xz := X.lt
    obtain ⟨n, hn⟩ : ∃ n, l.length = n := ⟨_, rfl⟩
    have HB := Lib.hid hB
    have HX := Lib.hid X
    have HN := Lib.hid hn
    have HSP := Lib.hid hsp
    rw [hn] at x0 hk hcl hm
    clear hB X hn hsp hkp
    have h1 : (0 : Int) ≤ (k : Int) := by omega
    have h2 : (k : Int) ≤ (n : Int) := by omega
    have h3 : (k : Int) ≤ (c : Int) := by omega
    have hd : decide (k ≤ n) = true := decide_eq_true hk
    go_enter Try.func101, Try.ntmps101
    go_wp2_with fail
    refine (want_yes _ _).mono ?_
    rintro e w1 ⟨rfl, rfl⟩
    go_wp2
    all_goals
      go_ret
      refine take_close HB.out HX.out HSP.out HN.out hk ?_
      first
        | (exact .inr rfl)
        | (refine .inl ⟨?_, ?_, ?_⟩ <;> omega)

end Go.Proofs.Ytmbifmmkccghfaa

/-
  Numerals that are read: as data, and the contract of the reader's number. No condition.
-/
namespace Go.Proofs.Ytmbifmmkccghfaa
open Go.RowKit

def rdNum : Nat → Nat → Bs → Option (Nat × Bs)
  | _, _, [] => none
  | i, acc, c :: t => if (i = 0 ∨ c.toNat ≠ 0) ∧ (i < 9 ∨ c.toNat ≤ 1) then (if c.toNat < 128 then some (acc + c.toNat % 128 * 128 ^ i, t) else rdNum (i + 1) (acc + c.toNat % 128 * 128 ^ i) t) else none
theorem rdNum_bad {i acc : Nat} {c : UInt8} {t : Bs} (h : ¬ ((i = 0 ∨ c.toNat ≠ 0) ∧ (i < 9 ∨ c.toNat ≤ 1))) : rdNum i acc (c :: t) = none := by rw [rdNum, if_neg h]
theorem rdNum_end {i acc : Nat} {c : UInt8} {t : Bs} (h : (i = 0 ∨ c.toNat ≠ 0) ∧ (i < 9 ∨ c.toNat ≤ 1)) (h2 : c.toNat < 128) : rdNum i acc (c :: t) = some (acc + c.toNat % 128 * 128 ^ i, t) := by rw [rdNum, if_pos h, if_pos h2]
theorem rdNum_go {i acc : Nat} {c : UInt8} {t : Bs} (h : (i = 0 ∨ c.toNat ≠ 0) ∧ (i < 9 ∨ c.toNat ≤ 1)) (h2 : ¬ c.toNat < 128) : rdNum i acc (c :: t) = rdNum (i + 1) (acc + c.toNat % 128 * 128 ^ i) t := by rw [rdNum, if_pos h, if_neg h2]
theorem pow_le9 {k : Nat} (h : k ≤ 9) : 128 ^ k ≤ 9223372036854775808 := by
  have := Nat.pow_le_pow_right (n := 128) (by decide) h
  have e : 128 ^ 9 = 9223372036854775808 := by decide
  omega
theorem acc_step {k acc cn : Nat} (hk : k ≤ 9) (hacc : acc < 128 ^ k) (h9 : k < 9 ∨ cn ≤ 1) (hc : cn < 256) : (k < 9 → acc + cn % 128 * 128 ^ k < 128 ^ (k + 1)) ∧ acc + cn % 128 * 128 ^ k < 18446744073709551616 ∧ cn % 128 * 128 ^ k < 18446744073709551616 := by
  have hp := pow_le9 hk
  have hm : cn % 128 * 128 ^ k ≤ 127 * 128 ^ k := Nat.mul_le_mul_right _ (by omega)
  have e : 128 ^ (k + 1) = 128 * 128 ^ k := by rw [Nat.pow_succ, Nat.mul_comm]
  refine ⟨fun _ => by omega, ?_⟩
  by_cases h : k < 9
  · have h8 : 128 ^ k ≤ 72057594037927936 := by
      have := Nat.pow_le_pow_right (n := 128) (by decide) (show k ≤ 8 by omega)
      have e : 128 ^ 8 = 72057594037927936 := by decide
      omega
    omega
  · have h1 : cn ≤ 1 := by omega
    have hm : cn % 128 * 128 ^ k ≤ 1 * 128 ^ k := Nat.mul_le_mul_right _ (by omega)
    omega
theorem and_127 : ∀ n : Fin 256, bits .and .u8 (n.val : Int) 127 = ((n.val % 128 : Nat) : Int) := by decide +kernel
theorem nat_or_add {a m k : Nat} (h : a < 2 ^ k) : a ||| m * 2 ^ k = a + m * 2 ^ k := by
  have := Nat.two_pow_add_eq_or_of_lt h m
  rw [Nat.or_comm, Nat.mul_comm, ← this, Nat.add_comm]
theorem acc_bits {k acc cn : Nat} (hk : k ≤ 9) (hacc : acc < 128 ^ k) (h9 : k < 9 ∨ cn ≤ 1) (hc : cn < 256) :
    bits .or .u64 (acc : Int) (IntKind.u64.wrap (IntKind.u64.wrap (bits .and .u8 (cn : Int) 127) * 2 ^ (7 * k))) = ((acc + cn % 128 * 128 ^ k : Nat) : Int) := by
  obtain ⟨_, h2, h3⟩ := acc_step hk hacc h9 hc
  have ha := and_127 ⟨cn, hc⟩
  dsimp only at ha
  have hpw : (2 : Int) ^ (7 * k) = ((128 ^ k : Nat) : Int) := by
    rw [Int.pow_mul]
    have : (2 : Int) ^ 7 = ((128 : Nat) : Int) := by decide
    rw [this, Int.natCast_pow]
  have hp := pow_le9 hk
  have e1 : IntKind.u64.wrap ((cn % 128 : Nat) : Int) = ((cn % 128 : Nat) : Int) := by rw [wrap_u64']; omega
  rw [ha, e1, hpw, ← Int.natCast_mul, wrap_u64']
  have e2 : ((cn % 128 * 128 ^ k : Nat) : Int) % 18446744073709551616 = ((cn % 128 * 128 ^ k : Nat) : Int) := by omega
  rw [e2, bits_or_u64_nat _ _ (by omega) h3]
  have e3 : 128 ^ k = 2 ^ (7 * k) := by rw [Nat.pow_mul]
  rw [e3] at hacc ⊢
  rw [nat_or_add hacc]
theorem rdNum_lt {l : Bs} : ∀ {i acc u : Nat} {r : Bs}, i ≤ 9 → acc < 128 ^ i → rdNum i acc l = some (u, r) → u < 18446744073709551616 ∧ r.length < l.length := by
  induction l with
  | nil => intro i acc u r _ _ h; cases h
  | cons c t ih =>
    intro i acc u r hi ha h
    have hc : c.toNat < 256 := c.toNat_lt
    by_cases hv : (i = 0 ∨ c.toNat ≠ 0) ∧ (i < 9 ∨ c.toNat ≤ 1)
    · obtain ⟨h1, h2, _⟩ := acc_step hi ha hv.2 hc
      by_cases h128 : c.toNat < 128
      · rw [rdNum_end hv h128] at h
        cases h
        exact ⟨h2, by simp⟩
      · rw [rdNum_go hv h128] at h
        have h9 : i < 9 := by omega
        obtain ⟨h3, h4⟩ := ih (by omega) (h1 h9) h
        exact ⟨h3, by simp; omega⟩
    · rw [rdNum_bad hv] at h
      cases h
def RetNum (t : Option (Nat × Bs)) (D rb : Nat) (w : World) (e : Ending) (w' : World) : Prop :=
  match t with
  | some (u, r) => e = .returned (.int .u64 u) ∧ RdAt w' D rb r ∧ w.grownBy w' (some rb)
  | none => Fails rb w e w'
theorem grown_two {w w1 w2 : World} {r : Option Nat} (h1 : w.grownBy w1 r) (h2 : w1.grownBy w2 r) : w.grownBy w2 r :=
  ⟨h2.os.trans h1.os, h2.tape.trans h1.tape, h2.output.trans h1.output, Nat.le_trans h1.size h2.size, fun k hk hne => (h2.block k (Nat.lt_of_lt_of_le hk h1.size) hne).trans (h1.block k hk hne)⟩
theorem RetTake.byte {c : UInt8} {t : Bs} {D rb : Nat} {w : World} {e : Ending} {w' : World} (h : RetTake (c :: t) 1 D rb w e w') : ∃ b off cc, e = .returned (.slice (some ⟨b, off, none⟩) 1 cc) ∧ w'.cell? ⟨b, off, none⟩ = some (.int .u8 (c.toNat : Int)) ∧ RdAt w' D rb t ∧ w.grownBy w' (some rb) := by
  obtain ⟨A, cc, he, hB, hR, hG, _⟩ := h
  obtain ⟨b, off, rfl, _, _, hc⟩ := hB.cell (k := 0) (by simp)
  exact ⟨b, off, cc, he, hc, hR, hG⟩

set_option maxRecDepth 100000 in
set_option maxHeartbeats 4000000 in
theorem number_any (l : Bs) (D rb : Nat) (w : World) (h : RdAt w D rb l) (T : Option (Nat × Bs)) (hT : Hid (rdNum 0 0 l = T)) : Calls Try.prog 103 #[.pointer (some ⟨rb, 0, none⟩)] w (RetNum T D rb w) := by
  have hR := Lib.hid h
  have hG := Lib.hid (grownBy_refl w (some rb))
  clear h
  go_enter Try.func103, Try.ntmps103
  go_wp2
  go_loopw [2, 3] (fun u i wr => ∃ (k acc : Nat) (r : Bs), k ≤ 9 ∧ acc < 9223372036854775808 ∧ i = .int .i64 k ∧ u = .int .u64 acc ∧ Hid (acc < 128 ^ k) ∧ Hid (rdNum k acc r = T) ∧ Hid (RdAt wr D rb r) ∧ Hid (w.grownBy wr (some rb))) (fun _ i _ => 10 - (intOf i).toNat)
  case atStart => exact ⟨0, 0, l, by omega, by omega, rfl, rfl, Lib.hid (by decide), hT, hR, hG⟩
  case round =>
    clear hT hR hG
    obtain ⟨k, acc, r, hk, hacc0, rfl, rfl, hacc, hT, hR, hG⟩ := hrel
    rcases r with _ | ⟨c, t⟩
    · go_wp2_with fail
      refine (take_no [] 1 D rb _ hR.out (by simp)).mono ?_
      rintro e w1 ⟨rfl, hg⟩
      have HF : Hid (RetNum T D rb w (.panicked bad) w1) := by
        rw [← hT.out]
        exact ⟨rfl, grown_two hG.out hg⟩
      clear hg hR hG hT
      go_wp2
      exact ⟨rfl, HF.out⟩
    · have hcn : c.toNat < 256 := c.toNat_lt
      go_wp2_with fail
      refine (take_yes (c :: t) 1 D rb _ hR.out (by simp)).mono ?_
      intro e w1 hret
      obtain ⟨b, off, cc, rfl, hc, hR1, hg⟩ := hret.byte
      have HR1 := Lib.hid hR1
      have HG1 := Lib.hid (grown_two hG.out hg)
      clear hret hR1 hg hR hG
      have hbad : ¬ ((k = 0 ∨ c.toNat ≠ 0) ∧ (k < 9 ∨ c.toNat ≤ 1)) → none = T := fun h => (rdNum_bad h).symm.trans hT.out
      have hend : (k = 0 ∨ c.toNat ≠ 0) ∧ (k < 9 ∨ c.toNat ≤ 1) → c.toNat < 128 → some (acc + c.toNat % 128 * 128 ^ k, t) = T := fun h1 h2 => (rdNum_end h1 h2).symm.trans hT.out
      have hgo : (k = 0 ∨ c.toNat ≠ 0) ∧ (k < 9 ∨ c.toNat ≤ 1) → ¬ c.toNat < 128 → rdNum (k + 1) (acc + c.toNat % 128 * 128 ^ k) t = T := fun h1 h2 => (rdNum_go h1 h2).symm.trans hT.out
      clear hT
      generalize c.toNat = cn at *
      by_cases hv : (k = 0 ∨ cn ≠ 0) ∧ (k < 9 ∨ cn ≤ 1)
      · have hsum := acc_bits hk hacc.out hv.2 hcn
        obtain ⟨hs1, hs2, _⟩ := acc_step hk hacc.out hv.2 hcn
        have HS := Lib.hid hsum
        have HS1 := Lib.hid hs1
        have HE := Lib.hid (hend hv)
        have HGO := Lib.hid (hgo hv)
        clear hsum hs1 hs2 hend hgo hbad hacc
        have e0 : ((k : Int) == 0) = decide (k = 0) := by rw [Bool.eq_iff_iff]; simp
        have e1 : ((cn : Int) != 0) = decide (cn ≠ 0) := by rw [Bool.eq_iff_iff]; simp
        have e3 : decide ((cn : Int) ≤ 1) = decide (cn ≤ 1) := decide_eq_decide.2 (by omega)
        by_cases hk0 : k = 0
        · rw [decide_eq_true hk0] at e0
          clear e1 hv e3
          have hk9 : k < 9 := by omega
          have e2 : decide ((k : Int) < 9) = true := by simp; omega
          clear hk0
          go_wp2_with fail
          refine (want_yes _ _).mono ?_
          rintro e w2 ⟨rfl, rfl⟩
          by_cases h128 : cn < 128
          · have HR : Hid (RetNum T D rb w (.returned (.int .u64 ((acc + cn % 128 * 128 ^ k : Nat) : Int))) w1) := by
              rw [← HE.out h128]
              exact ⟨rfl, HR1.out, HG1.out⟩
            clear HR1 HG1 HE HGO
            go_wp2
            go_ret
            have h := HR.out
            rw [← HS.out] at h
            exact h
          · have HN := Lib.hid (HGO.out h128)
            have hs1 := HS1.out (by omega)
            have hp := pow_le9 (show k + 1 ≤ 9 by omega)
            have HS2 := Lib.hid hs1
            have hs3 : acc + cn % 128 * 128 ^ k < 9223372036854775808 := by omega
            clear HE HGO HS1 hs1 hp
            go_wp2
            exact ⟨⟨k + 1, _, t, by omega, hs3, by go_num, by rw [HS.out], HS2, HN, HR1, HG1⟩, by simp [intOf]; omega⟩
        · rw [decide_eq_false hk0] at e0
          have hc0 : cn ≠ 0 := by omega
          rw [decide_eq_true hc0] at e1
          by_cases hk9 : k < 9
          · have e2 : decide ((k : Int) < 9) = true := by simp; omega
            clear e3 hv
            go_wp2_with fail
            refine (want_yes _ _).mono ?_
            rintro e w2 ⟨rfl, rfl⟩
            by_cases h128 : cn < 128
            · have HR : Hid (RetNum T D rb w (.returned (.int .u64 ((acc + cn % 128 * 128 ^ k : Nat) : Int))) w1) := by
                rw [← HE.out h128]
                exact ⟨rfl, HR1.out, HG1.out⟩
              clear HR1 HG1 HE HGO
              go_wp2
              go_ret
              have h := HR.out
              rw [← HS.out] at h
              exact h
            · have HN := Lib.hid (HGO.out h128)
              have hs1 := HS1.out (by omega)
              have hp := pow_le9 (show k + 1 ≤ 9 by omega)
              have HS2 := Lib.hid hs1
              have hs3 : acc + cn % 128 * 128 ^ k < 9223372036854775808 := by omega
              clear HE HGO HS1 hs1 hp
              go_wp2
              exact ⟨⟨k + 1, _, t, by omega, hs3, by go_num, by rw [HS.out], HS2, HN, HR1, HG1⟩, by simp [intOf]; omega⟩
          · have e2 : decide ((k : Int) < 9) = false := by simp; omega
            have hc1 : cn ≤ 1 := by omega
            rw [decide_eq_true hc1] at e3
            clear hv
            go_wp2_with fail
            refine (want_yes _ _).mono ?_
            rintro e w2 ⟨rfl, rfl⟩
            by_cases h128 : cn < 128
            · have HR : Hid (RetNum T D rb w (.returned (.int .u64 ((acc + cn % 128 * 128 ^ k : Nat) : Int))) w1) := by
                rw [← HE.out h128]
                exact ⟨rfl, HR1.out, HG1.out⟩
              clear HR1 HG1 HE HGO
              go_wp2
              go_ret
              have h := HR.out
              rw [← HS.out] at h
              exact h
            · omega
      · have HB := Lib.hid (hbad hv)
        have e0 : ((k : Int) == 0) = false := by simp; omega
        have e1 : ((cn : Int) != 0) = decide (cn ≠ 0) := by rw [Bool.eq_iff_iff]; simp
        clear hend hgo hbad hacc
        by_cases hc0 : cn = 0
        · subst hc0
          clear e1 hv
          go_wp2_with fail
          refine (want_no _ _).mono ?_
          rintro e w2 ⟨rfl, rfl⟩
          have HF : Hid (RetNum T D rb w (.panicked bad) w1) := by
            rw [← HB.out]
            exact ⟨rfl, HG1.out⟩
          clear HR1 HG1 HB
          go_wp2
          exact ⟨rfl, HF.out⟩
        · rw [decide_eq_true hc0] at e1
          have e2 : decide ((k : Int) < 9) = false := by simp; omega
          have e3 : decide ((cn : Int) ≤ 1) = false := by simp; omega
          clear hv
          go_wp2_with fail
          refine (want_no _ _).mono ?_
          rintro e w2 ⟨rfl, rfl⟩
          have HF : Hid (RetNum T D rb w (.panicked bad) w1) := by
            rw [← HB.out]
            exact ⟨rfl, HG1.out⟩
          clear HR1 HG1 HB
          go_wp2
          exact ⟨rfl, HF.out⟩

end Go.Proofs.Ytmbifmmkccghfaa

/-
  Values that are read: as data, in rows that the call owns; the contract of the reader's length. No condition.
-/
namespace Go.Proofs.Ytmbifmmkccghfaa
open Go.RowKit

def rdLen (l : Bs) : Option (Nat × Bs) := (rdNum 0 0 l).bind fun p => if p.1 ≤ p.2.length then some p else none
def rdMany (f : Bs → Option (Val × Bs)) : Nat → Bs → Option (List Val × Bs)
  | 0, r => some ([], r)
  | n + 1, r => (f r).bind fun p => (rdMany f n p.2).map fun q => (p.1 :: q.1, q.2)
def rdHead (g : Bs → Option (Val × Bs)) : Bs → Option (Val × Bs)
  | [] => none
  | c :: t => if c = 1 then (rdNum 0 0 t).map fun p => (.mk 1 (zag p.1) [] [], p.2) else if c = 2 then (rdLen t).map fun p => (.mk 2 0 (p.2.take p.1) [], p.2.drop p.1) else if c = 3 then g t else none
def rdVal : Nat → Bs → Option (Val × Bs)
  | 0 => rdHead fun _ => none
  | m + 1 => rdHead fun t => (rdLen t).bind fun p => (rdMany (rdVal m) p.1 p.2).map fun q => (.mk 3 0 [] q.1, q.2)
theorem rdLen_some {l : Bs} {u : Nat} {r : Bs} (h : rdLen l = some (u, r)) : rdNum 0 0 l = some (u, r) ∧ u ≤ r.length := by
  unfold rdLen at h
  rcases hn : rdNum 0 0 l with _ | ⟨u', r'⟩
  · rw [hn] at h; cases h
  · rw [hn] at h
    simp only [Option.bind_some] at h
    split at h
    · cases h
      exact ⟨rfl, ‹_›⟩
    · cases h
theorem rdLen_none {l : Bs} (h : rdNum 0 0 l = none) : rdLen l = none := by rw [rdLen, h]; rfl
theorem rdLen_over {l : Bs} {u : Nat} {r : Bs} (h : rdNum 0 0 l = some (u, r)) (h2 : ¬ u ≤ r.length) : rdLen l = none := by rw [rdLen, h]; simp [h2]
theorem rdLen_of {l : Bs} {u : Nat} {r : Bs} (h : rdNum 0 0 l = some (u, r)) (h2 : u ≤ r.length) : rdLen l = some (u, r) := by rw [rdLen, h]; simp [h2]

def RetLen (t : Option (Nat × Bs)) (D rb : Nat) (w : World) (e : Ending) (w' : World) : Prop :=
  match t with
  | some (u, r) => e = .returned (.int .i64 u) ∧ RdAt w' D rb r ∧ w.grownBy w' (some rb)
  | none => Fails rb w e w'
theorem RdAt.len {w : World} {D rb : Nat} {l : Bs} (h : RdAt w D rb l) : l.length ≤ maxLen := by
  obtain ⟨A, c, _, h2⟩ := h
  obtain ⟨_, _, _, hm⟩ := h2.form
  exact hm

set_option maxRecDepth 100000 in
set_option maxHeartbeats 2000000 in
theorem length_any (l : Bs) (D rb : Nat) (w : World) (h : RdAt w D rb l) (T : Option (Nat × Bs)) (hT : Hid (rdLen l = T)) : Calls Try.prog 104 #[.pointer (some ⟨rb, 0, none⟩)] w (RetLen T D rb w) := by
  rcases hn : rdNum 0 0 l with _ | ⟨u, r⟩
  · have HC := Lib.hid (number_any l D rb w h none (Lib.hid hn))
    obtain rfl : none = T := (rdLen_none hn).symm.trans hT.out
    clear hn h hT
    go_enter Try.func104, Try.ntmps104
    go_wp2_with fail
    refine HC.out.mono ?_
    rintro e w1 ⟨rfl, hg⟩
    have HF : Hid (RetLen none D rb w (.panicked bad) w1) := ⟨rfl, hg⟩
    clear hg HC
    go_wp2
    exact ⟨rfl, HF.out⟩
  · have HC := Lib.hid (number_any l D rb w h (some (u, r)) (Lib.hid hn))
    obtain ⟨hu, _⟩ := rdNum_lt (by omega) (by decide) hn
    by_cases hle : u ≤ r.length
    · obtain rfl : some (u, r) = T := (rdLen_of hn hle).symm.trans hT.out
      clear hn h hT
      go_enter Try.func104, Try.ntmps104
      go_wp2_with fail
      refine HC.out.mono ?_
      rintro e w1 ⟨rfl, hR, hg⟩
      have hm := hR.len
      unfold maxLen at hm
      have HF : Hid (RetLen (some (u, r)) D rb w (.returned (.int .i64 u)) w1) := ⟨rfl, hR, hg⟩
      obtain ⟨A, c, X, _⟩ := hR
      generalize r.length = n at X hle hm
      have x0 : w1.cell? ⟨rb, 0, none⟩ = some (.slice A n c) := X.cell 0
      have hd : decide (u ≤ n) = true := decide_eq_true hle
      clear hg HC X
      go_wp2_with fail
      refine (want_yes _ _).mono ?_
      rintro e w2 ⟨rfl, rfl⟩
      go_wp2
      go_ret
      exact HF.out
    · obtain rfl : none = T := (rdLen_over hn hle).symm.trans hT.out
      clear hn h hT
      go_enter Try.func104, Try.ntmps104
      go_wp2_with fail
      refine HC.out.mono ?_
      rintro e w1 ⟨rfl, hR, hg⟩
      have hm := hR.len
      unfold maxLen at hm
      have HF : Hid (RetLen none D rb w (.panicked bad) w1) := ⟨rfl, hg⟩
      obtain ⟨A, c, X, _⟩ := hR
      generalize r.length = n at X hle hm
      have x0 : w1.cell? ⟨rb, 0, none⟩ = some (.slice A n c) := X.cell 0
      have hd : decide (u ≤ n) = false := decide_eq_false hle
      clear hg HC X
      go_wp2_with fail
      refine (want_no _ _).mono ?_
      rintro e w2 ⟨rfl, rfl⟩
      go_wp2
      exact ⟨rfl, HF.out⟩

def ValsP (w : World) (S : Nat → Prop) : Nat → Value → List Val → Prop
  | 0, L, l => SlF L ∧ l = [] ∧ SlP w S 4 0 (valCells [] fun _ => undef) L
  | d + 1, L, l => SlF L ∧ ∃ V : Nat → Value, SlP w S 4 l.length (valCells l V) L ∧ ∀ (i : Nat) (x : Val), l[i]? = some x → ValsP w S d (V i) x.elems
theorem ValsP.keep {w w' : World} {S : Nat → Prop} (hk : Keeps S w w') : ∀ {d : Nat} {L : Value} {l : List Val}, ValsP w S d L l → ValsP w' S d L l
  | 0, _, _, h => ⟨h.1, h.2.1, h.2.2.keep hk⟩
  | _ + 1, _, _, ⟨f, V, s, b⟩ => ⟨f, V, s.keep hk, fun i x hx => (b i x hx).keep hk⟩
theorem ValsP.weak {w : World} {S S' : Nat → Prop} (hk : ∀ b, S b → b < w.heap.size → S' b) : ∀ {d : Nat} {L : Value} {l : List Val}, ValsP w S d L l → ValsP w S' d L l
  | 0, _, _, h => ⟨h.1, h.2.1, h.2.2.weak hk⟩
  | _ + 1, _, _, ⟨f, V, s, b⟩ => ⟨f, V, s.weak hk, fun i x hx => (b i x hx).weak hk⟩
theorem ValsP.vals {w : World} {S : Nat → Prop} : ∀ {d : Nat} {L : Value} {l : List Val}, ValsP w S d L l → ValsAt w w.heap.size d L l
  | 0, _, _, h => ⟨h.1, h.2.1, h.2.2.sl⟩
  | _ + 1, _, _, ⟨f, V, s, b⟩ => ⟨f, V, s.sl, fun i x hx => (b i x hx).vals⟩
theorem valsP_nil (w : World) (S : Nat → Prop) (d : Nat) : ValsP w S d (.slice none 0 0) [] := by
  cases d with
  | zero => exact ⟨.inl rfl, rfl, slP_nil w S 4 _⟩
  | succ d => exact ⟨.inl rfl, fun _ => undef, slP_nil w S 4 _, fun i x hx => by simp at hx⟩
theorem ValsP.slf {w : World} {S : Nat → Prop} {d : Nat} {L : Value} {l : List Val} (h : ValsP w S d L l) : SlF L := by
  cases d with
  | zero => exact h.1
  | succ d => exact h.1
theorem ValsP.form {w : World} {S : Nat → Prop} {d : Nat} {L : Value} {l : List Val} (h : ValsP w S d L l) : ∃ A c, L = .slice A l.length c ∧ l.length ≤ maxLen := by
  cases d with
  | zero =>
    obtain ⟨_, rfl, A, c, hv, hm, _⟩ := h
    exact ⟨A, c, hv, hm⟩
  | succ d =>
    obtain ⟨_, V, ⟨A, c, hv, hm, _⟩, _⟩ := h
    exact ⟨A, c, hv, hm⟩

def OwnVals (w : World) (B d : Nat) (v : Value) (l : List Val) : Prop :=
  ∃ U : Nat → Value, w.ownsRow B 85 4 v l.length (flat l.length 4 (valCells l U)) ∧ ∀ (i : Nat) (x : Val), l[i]? = some x → ValsP w (fun b => B ≤ b ∧ some b ≠ v.ownBlock) d (U i) x.elems
theorem ownVals_nil (w : World) (B d : Nat) : OwnVals w B d (.slice none 0 0) [] := ⟨fun _ => undef, ⟨by simp [flat], .inl ⟨rfl, rfl⟩⟩, fun i x hx => by simp at hx⟩
theorem OwnVals.keep {w w' : World} {B d : Nat} {v : Value} {l : List Val} (h : OwnVals w B d v l) {r : Nat} (hr : r < B) (hg : w.grownBy w' (some r)) : OwnVals w' B d v l := by
  obtain ⟨U, h1, h2⟩ := h
  refine ⟨U, ?_, fun i x hx => (h2 i x hx).keep ⟨hg.size, fun b hb hl => hg.block b hl (fun e => by injection e with e; have := hb.1; omega)⟩⟩
  obtain ⟨hl, h1⟩ := h1
  refine ⟨hl, ?_⟩
  rcases h1 with h1 | ⟨g, cap, cur, hv, hbg, hgg, hrr⟩
  · exact .inl h1
  · exact .inr ⟨g, cap, cur, hv, hbg, (hg.block g (Array.getElem?_eq_some_iff.1 hgg).1 (fun e => by injection e with e; omega)).trans hgg, hrr⟩
theorem OwnVals.below {w w' : World} {B d : Nat} {v : Value} {l : List Val} (h : OwnVals w B d v l) (hb : Below w.heap.size w w') : OwnVals w' B d v l := by
  obtain ⟨U, h1, h2⟩ := h
  refine ⟨U, ?_, fun i x hx => (h2 i x hx).keep (Keeps.of hb)⟩
  obtain ⟨hl, h1⟩ := h1
  refine ⟨hl, ?_⟩
  rcases h1 with h1 | ⟨g, cap, cur, hv, hbg, hgg, hrr⟩
  · exact .inl h1
  · exact .inr ⟨g, cap, cur, hv, hbg, (hb.block g (Array.getElem?_eq_some_iff.1 hgg).1).trans hgg, hrr⟩
theorem OwnVals.lt {w : World} {B d : Nat} {v : Value} {l : List Val} (h : OwnVals w B d v l) {k : Nat} (hk : v.ownBlock = some k) : B ≤ k ∧ k < w.heap.size := by
  obtain ⟨U, h1, _⟩ := h
  exact World.ownsRow.lt h1 k hk
theorem OwnVals.done {w : World} {B d : Nat} {v : Value} {l : List Val} (h : OwnVals w B d v l) (hm : l.length ≤ maxLen) : ValsP w (fun b => B ≤ b) (d + 1) v l := by
  obtain ⟨U, h1, h2⟩ := h
  obtain ⟨s, f⟩ := own_slp h1 hm
  exact ⟨f, U, s, fun i x hx => (h2 i x hx).weak fun b hb _ => hb.1⟩
theorem OwnVals.form {w : World} {B d : Nat} {v : Value} {l : List Val} (h : OwnVals w B d v l) : ∃ A c, v = .slice A l.length c := by
  obtain ⟨U, h1, _⟩ := h
  rcases h1.2 with ⟨rfl, h0⟩ | ⟨g, cap, cur, hv, _⟩
  · exact ⟨none, 0, by rw [h0]⟩
  · exact ⟨_, _, hv⟩
theorem info_val : (Try.prog.info? 85).map (fun i => (i.zero, i.size, i.bytes)) = some (some (.agg #[.int .i64 0, .int .i64 0, .string ⟨#[]⟩, .slice none 0 0]), 4, 56) := by kernel_rfl
theorem elem_val : ∃ i, Elem 83 85 i (.agg #[.int .i64 0, .int .i64 0, .string ⟨#[]⟩, .slice none 0 0]) 4 56 := by
  obtain ⟨i, hi, h0, h1, h2⟩ := info_parts info_val
  exact ⟨i, Try.underlying83, hi, h0, h1, h2, rfl, by decide⟩
theorem app_val {w : World} {B d bb W0 : Nat} {v : Value} {l : List Val} {x : Val} {L : Value} (ho : OwnVals w B d v l) (hX : Box w bb [.int .i64 x.kind, .int .i64 x.num, .string (strB x.str), L]) (hL : ValsP w (fun b => W0 ≤ b) d L x.elems) (hW : B ≤ W0) (hrow : ∀ k, v.ownBlock = some k → k < W0) (hbase : B ≤ w.heap.size) (hl : l.length ≤ 100000000) :
    ∃ v' w', (appF #[83, 83] 83 #[v, .slice (some ⟨bb, 0, none⟩) 1 1]).run Try.prog w = .ok v' w' ∧ OwnVals w' B d v' (l ++ [x]) ∧ w.grownBy w' v.ownBlock := by
  obtain ⟨i, E⟩ := elem_val
  obtain ⟨U, h1, h2⟩ := ho
  obtain ⟨v', w', hr, ho2, hg, _, hlies⟩ := run_append_own_at (P := Try.prog) w B 83 83 85 i _ 4 56 E.ht E.hi E.hz E.hsize E.hby E.hzs E.hsz v l.length _ h1 ⟨bb, 0, none⟩ 1 1 [.int .i64 x.kind, .int .i64 x.num, .string (strB x.str), L] rfl
    (fun j u hu => by
      rw [add_at, Nat.zero_add, hX.cell j]
      exact hu)
    (fun u hu => by
      simp only [List.mem_cons, List.not_mem_nil, or_false] at hu
      rcases hu with rfl | rfl | rfl | rfl
      · rfl
      · rfl
      · rfl
      · rcases hL.slf with h | ⟨a, n, c, h, _⟩
        · rw [h]; rfl
        · rw [h]; rfl) (by simp only [maxLen]; omega) (by omega) hbase
  have hU : flat (l ++ [x]).length 4 (valCells (l ++ [x]) (fun i => if i < l.length then U i else L)) = flat l.length 4 (valCells l U) ++ [.int .i64 x.kind, .int .i64 x.num, .string (strB x.str), L] := by
    have e1 : (l ++ [x]).length = l.length + 1 := by simp
    have e2 : [Value.int .i64 x.kind, .int .i64 x.num, .string (strB x.str), L] = flat 1 4 (valCells [x] fun _ => L) := by rfl
    rw [e1, e2, ← flat_cat l.length 1 4 (by decide)]
    refine flat_congr' (by decide) fun i j hi hj => ?_
    unfold cat
    by_cases h : i < l.length
    · rw [if_pos h]
      simp only [valCells, List.getD_eq_getElem?_getD, List.getElem?_append_left h, if_pos h]
    · obtain rfl : i = l.length := by omega
      rw [if_neg h]
      simp only [valCells, List.getD_eq_getElem?_getD, if_neg h, Nat.sub_self]
      simp
  have hne : ∀ b, (B ≤ b ∧ some b ≠ v.ownBlock) → b < w.heap.size → (B ≤ b ∧ some b ≠ v'.ownBlock) := by
    intro b hb hlt
    refine ⟨hb.1, fun e => ?_⟩
    rcases hlies with h | h
    · rw [h] at e; exact hb.2 e
    · rw [h] at e; injection e with e; omega
  have hkp : Keeps (fun b => B ≤ b ∧ some b ≠ v.ownBlock) w w' := ⟨hg.size, fun b hb hl => hg.block b hl hb.2⟩
  refine ⟨v', w', hr, ⟨fun i => if i < l.length then U i else L, ?_, fun i y hy => ?_⟩, hg⟩
  · rw [hU, List.length_append]
    exact ho2
  · have up : ∀ {L' : Value} {m : List Val}, ValsP w (fun b => B ≤ b ∧ some b ≠ v.ownBlock) d L' m → ValsP w' (fun b => B ≤ b ∧ some b ≠ v'.ownBlock) d L' m := fun h =>
      ((h.weak (S' := fun b => (B ≤ b ∧ some b ≠ v.ownBlock) ∧ (B ≤ b ∧ some b ≠ v'.ownBlock)) fun b hb hlt => ⟨hb, hne b hb hlt⟩).keep ⟨hkp.1, fun b hb hl => hkp.2 b hb.1 hl⟩).weak fun b hb _ => hb.2
    by_cases h : i < l.length
    · rw [List.getElem?_append_left h] at hy
      dsimp only
      rw [if_pos h]
      exact up (h2 i y hy)
    · have hi : i = l.length := by
        have := (List.getElem?_eq_some_iff.1 hy).1
        rw [List.length_append, List.length_singleton] at this
        omega
      subst hi
      rw [List.getElem?_append_right (Nat.le_refl _), Nat.sub_self] at hy
      cases hy
      dsimp only
      rw [if_neg h]
      exact up (hL.weak fun b hb _ => ⟨Nat.le_trans hW hb, fun e => by have := hrow b e.symm; omega⟩)

end Go.Proofs.Ytmbifmmkccghfaa
