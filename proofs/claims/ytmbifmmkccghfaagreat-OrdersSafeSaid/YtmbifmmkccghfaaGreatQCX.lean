/- Contract of the reader's value: lists. (Printed by gen_cw.py.) -/
import Derived.Test.YtmbifmmkccghfaaGreatQK
import Derived.Test.YtmbifmmkccghfaaGreatQCV
import Derived.Defers
import Derived.Recover
import Derived.Tactics2
set_option linter.unusedVariables false
set_option linter.unusedSimpArgs false
set_option maxRecDepth 100000
set_option maxHeartbeats 4000000
namespace Go.Proofs.YtmbifmmkccghfaaGreat
open Go.RowKit
attribute [local go_sem ↓ high] app_named
def ValR (m : Nat) : Prop := ∀ (l : Bs) (D rb : Nat) (w : World) (dep : Int) (T : Option (Val × Bs)), RdAt w D rb l → D ≤ w.heap.size → l.length ≤ 100000000 → 0 ≤ dep → dep + m = 16 → Hid (rdVal m l = T) → Calls Tryz.prog 82 #[.pointer (some ⟨rb, 0, none⟩), .int .i64 dep] w (RetVal T m D rb w)
theorem OwnVals.set_other {w : World} {B d : Nat} {v : Value} {l : List Val} (h : OwnVals w B d v l) (_hB : B ≤ w.heap.size) {a : Addr} (ha : a.block < B) (u : Value) : OwnVals (w.setCell a u) B d v l := h.keep (r := a.block) ha (grownBy_set u)
theorem Rd.grown_row {w w4 w5 : World} {rb : Nat} {v : Value} {o : Obj} (h : w.grownBy w4 (some rb)) (h5 : (w4.alloc o).grownBy w5 v.ownBlock) (hv : ∀ g, v.ownBlock = some g → w.heap.size ≤ g) : w.grownBy w5 (some rb) := by
  have hst := (Below.refl w4.heap.size w4).alloc (Nat.le_refl _) o
  refine ⟨h5.os.trans h.os, h5.tape.trans h.tape, h5.output.trans h.output, Nat.le_trans h.size (Nat.le_trans hst.size h5.size), fun k hk hne => ?_⟩
  have hk4 := Nat.lt_of_lt_of_le hk h.size
  exact ((h5.block k (Nat.lt_of_lt_of_le hk4 hst.size) (fun e => by have := hv k e.symm; omega)).trans (hst.block k hk4)).trans (h.block k hk hne)
theorem RetVal.open {x : Val} {r : Bs} {m D rb : Nat} {w : World} {e : Ending} {w' : World} (h : RetVal (some (x, r)) m D rb w e w') : ∃ A c, e = .returned (.agg #[.int .i64 x.kind, .int .i64 x.num, .string (strB x.str), .slice A x.elems.length c]) ∧ ValsP w' (fun b => w.heap.size ≤ b) m (.slice A x.elems.length c) x.elems ∧ RdAt w' D rb r ∧ w.grownBy w' (some rb) := by
  obtain ⟨L, rfl, h1, h2, h3⟩ := h
  obtain ⟨A, c, rfl, _⟩ := h1.form
  exact ⟨A, c, rfl, h1, h2, h3⟩
theorem rdVal_list (m : Nat) (t : Bs) : rdVal (m + 1) (3 :: t) = (rdLen t).bind fun p => (rdMany (rdVal m) p.1 p.2).map fun q => (.mk 3 0 [] q.1, q.2) := rfl
theorem rdVal_one (m : Nat) (t : Bs) : rdVal m (1 :: t) = (rdNum 0 0 t).map fun p => (.mk 1 (zag p.1) [] [], p.2) := by cases m <;> rfl
theorem rdVal_two (m : Nat) (t : Bs) : rdVal m (2 :: t) = (rdLen t).map fun p => (.mk 2 0 (p.2.take p.1) [], p.2.drop p.1) := by cases m <;> rfl
theorem rdVal_nil (m : Nat) : rdVal m [] = none := by cases m <;> rfl
theorem rdVal_zero (t : Bs) : rdVal 0 (3 :: t) = none := rfl
theorem rdVal_no (m : Nat) {c : UInt8} (t : Bs) (h1 : c ≠ 1) (h2 : c ≠ 2) (h3 : c ≠ 3) : rdVal m (c :: t) = none := by
  cases m <;> rw [rdVal, rdHead, if_neg h1, if_neg h2, if_neg h3]
theorem rdMany_len {f : Bs → Option (Val × Bs)} (hf : ∀ r x r', f r = some (x, r') → r'.length ≤ r.length) (n : Nat) : ∀ r l r', rdMany f n r = some (l, r') → r'.length ≤ r.length := by
  induction n with
  | zero => intro r l r' h; cases h; exact Nat.le_refl _
  | succ n ih =>
    intro r l r' h
    rw [rdMany] at h
    rcases h1 : f r with _ | ⟨x, r1⟩
    · rw [h1] at h; cases h
    · rw [h1, Option.bind_some] at h
      rcases h2 : rdMany f n r1 with _ | ⟨l2, r2⟩
      · rw [h2] at h; cases h
      · rw [h2] at h
        cases h
        exact Nat.le_trans (ih _ _ _ h2) (hf _ _ _ h1)
theorem rdVal_len (m : Nat) : ∀ r x r', rdVal m r = some (x, r') → r'.length ≤ r.length := by
  induction m with
  | zero =>
    intro r x r' h
    rcases r with _ | ⟨c, t⟩
    · cases h
    · by_cases h1 : c = 1
      · subst h1
        rw [rdVal_one] at h
        rcases hn : rdNum 0 0 t with _ | ⟨u, q⟩
        · rw [hn] at h; cases h
        · rw [hn] at h; cases h
          have := (rdNum_lt (by omega) (by decide) hn).2
          simp only [List.length_cons]; omega
      · by_cases h2 : c = 2
        · subst h2
          rw [rdVal_two] at h
          rcases hn : rdLen t with _ | ⟨u, q⟩
          · rw [hn] at h; cases h
          · rw [hn] at h; cases h
            have := (rdNum_lt (by omega) (by decide) (rdLen_some hn).1).2
            simp only [List.length_cons, List.length_drop]; omega
        · by_cases h3 : c = 3
          · subst h3; rw [rdVal_zero] at h; cases h
          · rw [rdVal_no 0 t h1 h2 h3] at h; cases h
  | succ m ih =>
    intro r x r' h
    rcases r with _ | ⟨c, t⟩
    · cases h
    · by_cases h1 : c = 1
      · subst h1
        rw [rdVal_one] at h
        rcases hn : rdNum 0 0 t with _ | ⟨u, q⟩
        · rw [hn] at h; cases h
        · rw [hn] at h; cases h
          have := (rdNum_lt (by omega) (by decide) hn).2
          simp only [List.length_cons]; omega
      · by_cases h2 : c = 2
        · subst h2
          rw [rdVal_two] at h
          rcases hn : rdLen t with _ | ⟨u, q⟩
          · rw [hn] at h; cases h
          · rw [hn] at h; cases h
            have := (rdNum_lt (by omega) (by decide) (rdLen_some hn).1).2
            simp only [List.length_cons, List.length_drop]; omega
        · by_cases h3 : c = 3
          · subst h3
            rw [rdVal_list] at h
            rcases hn : rdLen t with _ | ⟨u, q⟩
            · rw [hn] at h; cases h
            · rw [hn, Option.bind_some] at h
              rcases hm : rdMany (rdVal m) u q with _ | ⟨l2, r2⟩
              · rw [hm] at h; cases h
              · rw [hm] at h; cases h
                have h1 := (rdNum_lt (by omega) (by decide) (rdLen_some hn).1).2
                have h2 := rdMany_len ih u q l2 _ hm
                simp only [List.length_cons]; omega
          · rw [rdVal_no _ t h1 h2 h3] at h; cases h
theorem value_3 (t : Bs) (m D rb : Nat) (w : World) (hR : RdAt w D rb (3 :: t)) (hD : D ≤ w.heap.size) (dep : Int) (hdep0 : 0 ≤ dep) (hdep : dep + ((m + 1 : Nat) : Int) = 16) (ih : ValR m) (hlen : t.length ≤ 100000000) (T : Option (Val × Bs)) (hT : Hid (((rdLen t).bind fun p => (rdMany (rdVal m) p.1 p.2).map fun q => (Val.mk 3 0 [] q.1, q.2)) = T)) : Calls Tryz.prog 82 #[.pointer (some ⟨rb, 0, none⟩), .int .i64 dep] w (RetVal T (m + 1) D rb w) := by
  have hst := (Below.refl w.heap.size w).alloc (Nat.le_refl _) (.cells #[.int .i64 0, .int .i64 0, .string ⟨#[]⟩, .slice none 0 0] 151)
  have X := Box.new w [.int .i64 0, .int .i64 0, .string ⟨#[]⟩, .slice none 0 0] 151
  have hrb := hR.lt
  have HR := Lib.hid (hR.keep hst)
  have ST := Lib.hid hst
  have HD := Lib.hid hD
  have hne : rb ≠ w.heap.size := by omega
  have hne' : w.heap.size ≠ rb := by omega
  have IH := Lib.hid ih
  clear hst hR hD ih
  go_enter Tryz.func82, Tryz.ntmps82
  go_wp2_with fail
  refine (take_yes (3 :: t) 1 D rb _ HR.out (by simp)).mono ?_
  intro e w1 hret
  obtain ⟨b, off, cc, rfl, hc, hR1, hg⟩ := hret.byte
  replace hc : w1.cell? ⟨b, off, none⟩ = some (.int .u8 3) := hc
  have X1 := X.same (hg.block _ X.lt (by intro e; injection e with e; omega))
  have hG1 := grown_of ST.out hg
  have xz := X1.lt
  have x0 : w1.cell? ⟨w.heap.size, 0, none⟩ = some (.int .i64 0) := X1.cell 0
  have xf := X1.free 0
  have X2 := X1.set 0 (.int .i64 3)
  have HG2 := Lib.hid (grown_set hG1 (a := ⟨w.heap.size, 0, none⟩) (Nat.le_refl _) (.int .i64 3))
  have HR2 := Lib.hid (hR1.keepG (grownBy_set (w := w1) (a := ⟨w.heap.size, 0, none⟩) (.int .i64 3)) (fun k hk => by injection hk with hk; subst hk; exact ⟨HD.out, hne'⟩))
  clear hret hR1 hg X X1 HR ST hG1
  have hd : decide (dep < 16) = true := decide_eq_true (by omega)
  go_wp2_with fail
  generalize w1.setCell ⟨w.heap.size, 0, none⟩ (.int .i64 3) = w2 at X2 HG2 HR2 ⊢
  clear hc x0 xf xz
  refine (want_yes _ _).mono ?_
  rintro e w3 ⟨rfl, rfl⟩
  rcases hn : rdLen t with _ | ⟨n, r⟩
  · have hT0 : none = T := by rw [← hT.out, hn]; rfl
    subst hT0
    replace hn := Lib.hid hn
    clear hT
    go_wp2_with fail
    refine (length_any t D rb _ HR2.out none hn).mono ?_
    rintro e w3 ⟨rfl, hg⟩
    have HF : Hid (RetVal none (m + 1) D rb w (.panicked bad) w3) := ⟨rfl, grown_two HG2.out hg⟩
    clear hg HR2 X2 HG2
    go_wp2
    exact ⟨rfl, HF.out⟩
  · obtain ⟨hnn, hur⟩ := rdLen_some hn
    have hrl := (rdNum_lt (by omega) (by decide) hnn).2
    have hn8 : n ≤ 100000000 := by omega
    have hr8 : Hid (r.length ≤ 100000000) := by rw [Hid]; omega
    have hT0 : ((rdMany (rdVal m) n r).map fun q => (Val.mk 3 0 [] q.1, q.2)) = T := by rw [← hT.out, hn]; rfl
    replace hn := Lib.hid hn
    replace hT0 := Lib.hid hT0
    clear hT hnn hur hrl hlen
    go_wp2_with fail
    refine (length_any t D rb _ HR2.out _ hn).mono ?_
    rintro e w3 ⟨rfl, hR3, hg⟩
    have X3 := X2.same (hg.block _ X2.lt (by intro e; injection e with e; omega))
    have HG3 := Lib.hid (grown_two HG2.out hg)
    have HR3 := Lib.hid hR3
    obtain ⟨TT, hTT⟩ : ∃ TT, rdMany (rdVal m) n r = TT := ⟨_, rfl⟩
    rw [hTT] at hT0
    have HTT : Hid (((rdMany (rdVal m) (n - 0) r).map fun q => (([] : List Val) ++ q.1, q.2)) = TT) := by
      rw [Hid, Nat.sub_zero, hTT]
      cases TT <;> rfl
    clear hR3 hg X2 HG2 HR2 hTT hn
    go_wp2_with fail
    go_loopw [37] (fun i wr => ∃ (k : Nat) (xs : List Val) (V : Value) (q : Bs), k ≤ n ∧ i = .int .i64 k ∧ Hid (xs.length = k) ∧ Hid (OwnVals wr (w.heap.size + 1) m V xs) ∧ Box wr w.heap.size [.int .i64 3, .int .i64 0, .string ⟨#[]⟩, V] ∧ Hid (RdAt wr D rb q) ∧ Hid (w.grownBy wr (some rb)) ∧ Hid (((rdMany (rdVal m) (n - k) q).map fun z => (xs ++ z.1, z.2)) = TT) ∧ Hid (q.length ≤ 100000000)) (fun i _ => n - (intOf i).toNat)
    case atStart => exact ⟨0, [], .slice none 0 0, r, Nat.zero_le _, rfl, Lib.hid rfl, Lib.hid (ownVals_nil w3 _ m), X3, HR3, HG3, HTT, hr8⟩
    case round =>
      clear X3 HR3 HG3 HTT hr8
      obtain ⟨k, xs, V, q, hk, rfl, hxl, HO, X, HR, HG, HTT, hq8⟩ := hrel
      obtain ⟨A, cv, hVe⟩ := HO.out.form
      rw [hxl.out] at hVe
      subst hVe
      by_cases hlt : k < n
      · obtain ⟨j, hj⟩ : ∃ j, n - k = j + 1 := ⟨n - k - 1, by omega⟩
        have hj2 : n - (k + 1) = j := by omega
        have y3 : wr.cell? ⟨w.heap.size, 3, none⟩ = some (.slice A k cv) := X.cell 3
        have y3' : wr.drew.cell? ⟨w.heap.size, 3, none⟩ = some (.slice A k cv) := X.cell 3
        have yz := X.lt
        have hwr : IntKind.i64.wrap (dep + 1) = dep + 1 := by simp [IntKind.wrap, IntKind.bits, IntKind.signed]; omega
        rcases hv : rdVal m q with _ | p
        · have hN : none = TT := by rw [← HTT.out, hj, rdMany, hv]; rfl
          subst hN
          have hTn : none = T := hT0.out
          subst hTn
          have HC := fun (z : World) (hz : Below wr.heap.size wr z) => IH.out q D rb z (dep + 1) none (HR.out.keep hz) (Nat.le_trans HD.out (Nat.le_trans HG.out.size hz.size)) hq8.out (by omega) (by omega) (Lib.hid hv)
          replace HC := Lib.hid HC
          clear hv hj hj2
          go_wp2_with fail
          refine wp_region_any (by kernel_rfl) ?_
          change wpAny _ _ _ _ _ _ _ (World.drew _)
          refine wpAny_take (i := 0) (v := ?_) rfl (by kernel_rfl) (by kernel_rfl) (by kernel_rfl) (fun _ _ _ h => h) (Or.inl ⟨by rfl, ?_⟩) ?_
          rotate_left
          · intro wz; go_simp; try with_reducible rfl
          refine wpAny_take (i := 2) (v := ?_) rfl (by kernel_rfl) (by kernel_rfl) (by kernel_rfl) (fun _ _ _ h => h) (Or.inl ⟨by rfl, ?_⟩) ?_
          rotate_left
          · intro wz; go_simp; try with_reducible rfl
          refine wpAny_take (i := 3) (v := ?_) rfl (by kernel_rfl) (by kernel_rfl) (by kernel_rfl) (fun _ _ _ h => h) (Or.inl ⟨by rfl, ?_⟩) ?_
          rotate_left
          · intro wz; go_simp; try with_reducible rfl
          refine wpAny_take (i := 4) (v := ?_) rfl (by kernel_rfl) (by kernel_rfl) (by kernel_rfl) (fun _ _ _ h => h) (Or.inl ⟨by rfl, ?_⟩) ?_
          rotate_left
          · intro wz; go_simp; try with_reducible rfl
          refine wpAny_ready (rs := [1, 5]) (by kernel_rfl) (by simp) ?_
          refine (AllReady.cons rfl (fun K hK => ?_) (AllReady.cons rfl (fun K hK => ?_) AllReady.nil))
          · go_simp
            refine hK _ _ ?_
            clear hK K
            refine wpAny_ready (rs := [5]) (by kernel_rfl) (by simp) ?_
            refine (AllReady.cons rfl (fun K hK => ?_) AllReady.nil)
            · go_simp
              refine (HC.out _ ((Below.refl _ _).drew)).mono ?_
              rintro e w4 ⟨rfl, hg⟩
              exact ⟨rfl, rfl, grown_two HG.out (grown_of (Below.refl _ _).drew hg)⟩
          · go_simp
            refine (HC.out _ ((Below.refl _ _).drew)).mono ?_
            rintro e w4 ⟨rfl, hg⟩
            exact ⟨rfl, rfl, grown_two HG.out (grown_of (Below.refl _ _).drew hg)⟩
        · obtain ⟨x, q2⟩ := p
          have hql := rdVal_len m q x q2 hv
          have HQ8 : Hid (q2.length ≤ 100000000) := by have := hq8.out; rw [Hid]; omega
          have HT2 : Hid (((rdMany (rdVal m) (n - (k + 1)) q2).map fun z => ((xs ++ [x]) ++ z.1, z.2)) = TT) := by
            rw [Hid, ← HTT.out, hj, hj2, rdMany, hv, Option.bind_some]
            rcases rdMany (rdVal m) j q2 with _ | ⟨l2, q3⟩
            · rfl
            · simp only [Option.map_some, List.append_assoc, List.singleton_append]
          have HC := fun (z : World) (hz : Below wr.heap.size wr z) => IH.out q D rb z (dep + 1) (some (x, q2)) (HR.out.keep hz) (Nat.le_trans HD.out (Nat.le_trans HG.out.size hz.size)) hq8.out (by omega) (by omega) (Lib.hid hv)
          replace HC := Lib.hid HC
          have hrow : ∀ g, Value.ownBlock (.slice A k cv) = some g → g < wr.heap.size := fun g hg => (HO.out.lt hg).2
          have HROW := Lib.hid hrow
          have hBw : w.heap.size + 1 ≤ wr.heap.size := yz
          have HXL : Hid (xs.length ≤ 100000000) := by rw [Hid, hxl.out]; omega
          have HXL2 : Hid ((xs ++ [x]).length = k + 1) := by rw [Hid, List.length_append, hxl.out]; rfl
          clear hv hj hj2 hql hrow HTT hq8
          go_wp2_with fail
          refine wp_region_any (by kernel_rfl) ?_
          change wpAny _ _ _ _ _ _ _ (World.drew _)
          refine wpAny_take (i := 0) (v := ?_) rfl (by kernel_rfl) (by kernel_rfl) (by kernel_rfl) (fun _ _ _ h => h) (Or.inl ⟨by rfl, ?_⟩) ?_
          rotate_left
          · intro wz; go_simp; try with_reducible rfl
          refine wpAny_take (i := 2) (v := ?_) rfl (by kernel_rfl) (by kernel_rfl) (by kernel_rfl) (fun _ _ _ h => h) (Or.inl ⟨by rfl, ?_⟩) ?_
          rotate_left
          · intro wz; go_simp; try with_reducible rfl
          refine wpAny_take (i := 3) (v := ?_) rfl (by kernel_rfl) (by kernel_rfl) (by kernel_rfl) (fun _ _ _ h => h) (Or.inl ⟨by rfl, ?_⟩) ?_
          rotate_left
          · intro wz; go_simp; try with_reducible rfl
          refine wpAny_take (i := 4) (v := ?_) rfl (by kernel_rfl) (by kernel_rfl) (by kernel_rfl) (fun _ _ _ h => h) (Or.inl ⟨by rfl, ?_⟩) ?_
          rotate_left
          · intro wz; go_simp; try with_reducible rfl
          refine wpAny_ready (rs := [1, 5]) (by kernel_rfl) (by simp) ?_
          refine (AllReady.cons rfl (fun K hK => ?_) (AllReady.cons rfl (fun K hK => ?_) AllReady.nil))
          · go_simp
            refine hK _ _ ?_
            clear hK K
            refine wpAny_ready (rs := [5]) (by kernel_rfl) (by simp) ?_
            refine (AllReady.cons rfl (fun K hK => ?_) AllReady.nil)
            · go_simp
              refine (HC.out _ ((Below.refl _ _).drew)).mono ?_
              intro e w4 hret
              obtain ⟨Ax, cx, rfl, hL, hR4, hg⟩ := RetVal.open hret
              obtain ⟨v5, w5, hr5, hO5, hg5⟩ := app_val (W0 := wr.heap.size) (x := x) (((HO.out.keep (r := rb) (by omega) (w' := w4) (grown_of (Below.refl _ _).drew hg))).below ((Below.refl w4.heap.size w4).alloc (Nat.le_refl _) (.cells #[.int .i64 x.kind, .int .i64 x.num, .string (strB x.str), .slice Ax x.elems.length cx] 151))) (Box.new w4 [.int .i64 x.kind, .int .i64 x.num, .string (strB x.str), .slice Ax x.elems.length cx] 151) ((hL.keep (Keeps.of ((Below.refl w4.heap.size w4).alloc (Nat.le_refl _) (.cells #[.int .i64 x.kind, .int .i64 x.num, .string (strB x.str), .slice Ax x.elems.length cx] 151))))) hBw HROW.out (by have := hg.size; simp at this ⊢; omega) HXL.out
              obtain ⟨A5, c5, hv5⟩ := hO5.form
              rw [HXL2.out] at hv5
              subst hv5
              have X4 := X.same (w' := w4) (hg.block w.heap.size yz (by intro e; injection e with e; omega))
              have y4 : w4.cell? ⟨w.heap.size, 3, none⟩ = some (.slice A k cv) := X4.cell 3
              have yz4 : w.heap.size < w4.heap.size := X4.lt
              refine hK _ _ ?_
              clear hK K
              refine wpAny_ready (rs := [6]) (by kernel_rfl) (by simp) ?_
              refine (AllReady.cons rfl (fun K hK => ?_) AllReady.nil)
              · go_simp
                refine hK _ _ ?_
                clear hK K
                refine wpAny_ready (rs := [7]) (by kernel_rfl) (by simp) ?_
                refine (AllReady.cons rfl (fun K hK => ?_) AllReady.nil)
                · refine step_app (by rfl) _ _ _ (by rfl) _ _ (by rfl) (by rfl) hr5 ?_
                  refine hK _ _ ?_
                  clear hK K
                  have X5 := (X4.alloc (.cells #[.int .i64 x.kind, .int .i64 x.num, .string (strB x.str), .slice Ax x.elems.length cx] 151)).same (w' := w5) (hg5.block w.heap.size (by simp; omega) (fun e => by have := (HO.out.lt e.symm).1; omega))
                  have y5 : w5.cell? ⟨w.heap.size, 3, none⟩ = some (.slice A k cv) := X5.cell 3
                  have f5 := X5.free 3
                  have yz5 := X5.lt
                  refine wpAny_ready (rs := [8]) (by kernel_rfl) (by simp) ?_
                  refine (AllReady.cons rfl (fun K hK => ?_) AllReady.nil)
                  · go_simp
                    refine hK _ _ ?_
                    clear hK K
                    refine wpAny_ready (rs := [9]) (by kernel_rfl) (by simp) ?_
                    refine (AllReady.cons rfl (fun K hK => ?_) AllReady.nil)
                    · go_simp
                      refine hK _ _ ?_
                      clear hK K
                      refine wpAny_done (by kernel_rfl) ?_ _
                      have HO6 := Lib.hid (hO5.set_other (by omega) (a := ⟨w.heap.size, 3, none⟩) (Nat.lt_succ_self _) (.slice A5 (k + 1) c5))
                      have X6 := X5.set 3 (.slice A5 (k + 1) c5)
                      have hg6 : w.grownBy w5 (some rb) := Rd.grown_row (grown_two HG.out (grown_of (Below.refl _ _).drew hg)) hg5 (fun g hgo => by have := (HO.out.lt hgo).1; omega) 
                      have HG6 := Lib.hid (grown_set hg6 (a := ⟨w.heap.size, 3, none⟩) (Nat.le_refl _) (.slice A5 (k + 1) c5))
                      have HR6 := Lib.hid (((hR4.keep ((Below.refl w4.heap.size w4).alloc (Nat.le_refl _) (.cells #[.int .i64 x.kind, .int .i64 x.num, .string (strB x.str), .slice Ax x.elems.length cx] 151))).keepG hg5 (fun g hgo => by have := (HO.out.lt hgo).1; have := HD.out; omega)).set (a := ⟨w.heap.size, 3, none⟩) HD.out hne' (.slice A5 (k + 1) c5))
                      clear hret hL hR4 hg hg5 hr5 hO5 X4 y4 yz4 X5 y5 f5 yz5 hg6 HO X HR HG HC HROW HXL y3 y3' yz
                      go_wp2
                      exact ⟨⟨k + 1, xs ++ [x], _, q2, by omega, by go_num, HXL2, HO6, X6, HR6, HG6, HT2, HQ8⟩, by simp [intOf]; omega⟩
          · go_simp
            refine (HC.out _ ((Below.refl _ _).drew)).mono ?_
            intro e w4 hret
            obtain ⟨Ax, cx, rfl, hL, hR4, hg⟩ := RetVal.open hret
            obtain ⟨v5, w5, hr5, hO5, hg5⟩ := app_val (W0 := wr.heap.size) (x := x) (((HO.out.keep (r := rb) (by omega) (w' := w4) (grown_of (Below.refl _ _).drew hg))).below ((Below.refl w4.heap.size w4).alloc (Nat.le_refl _) (.cells #[.int .i64 x.kind, .int .i64 x.num, .string (strB x.str), .slice Ax x.elems.length cx] 151))) (Box.new w4 [.int .i64 x.kind, .int .i64 x.num, .string (strB x.str), .slice Ax x.elems.length cx] 151) ((hL.keep (Keeps.of ((Below.refl w4.heap.size w4).alloc (Nat.le_refl _) (.cells #[.int .i64 x.kind, .int .i64 x.num, .string (strB x.str), .slice Ax x.elems.length cx] 151))))) hBw HROW.out (by have := hg.size; simp at this ⊢; omega) HXL.out
            obtain ⟨A5, c5, hv5⟩ := hO5.form
            rw [HXL2.out] at hv5
            subst hv5
            have X4 := X.same (w' := w4) (hg.block w.heap.size yz (by intro e; injection e with e; omega))
            have y4 : w4.cell? ⟨w.heap.size, 3, none⟩ = some (.slice A k cv) := X4.cell 3
            have yz4 : w.heap.size < w4.heap.size := X4.lt
            refine hK _ _ ?_
            clear hK K
            refine wpAny_ready (rs := [1, 6]) (by kernel_rfl) (by simp) ?_
            refine (AllReady.cons rfl (fun K hK => ?_) (AllReady.cons rfl (fun K hK => ?_) AllReady.nil))
            · go_simp
              refine hK _ _ ?_
              clear hK K
              refine wpAny_ready (rs := [6]) (by kernel_rfl) (by simp) ?_
              refine (AllReady.cons rfl (fun K hK => ?_) AllReady.nil)
              · go_simp
                refine hK _ _ ?_
                clear hK K
                refine wpAny_ready (rs := [7]) (by kernel_rfl) (by simp) ?_
                refine (AllReady.cons rfl (fun K hK => ?_) AllReady.nil)
                · refine step_app (by rfl) _ _ _ (by rfl) _ _ (by rfl) (by rfl) hr5 ?_
                  refine hK _ _ ?_
                  clear hK K
                  have X5 := (X4.alloc (.cells #[.int .i64 x.kind, .int .i64 x.num, .string (strB x.str), .slice Ax x.elems.length cx] 151)).same (w' := w5) (hg5.block w.heap.size (by simp; omega) (fun e => by have := (HO.out.lt e.symm).1; omega))
                  have y5 : w5.cell? ⟨w.heap.size, 3, none⟩ = some (.slice A k cv) := X5.cell 3
                  have f5 := X5.free 3
                  have yz5 := X5.lt
                  refine wpAny_ready (rs := [8]) (by kernel_rfl) (by simp) ?_
                  refine (AllReady.cons rfl (fun K hK => ?_) AllReady.nil)
                  · go_simp
                    refine hK _ _ ?_
                    clear hK K
                    refine wpAny_ready (rs := [9]) (by kernel_rfl) (by simp) ?_
                    refine (AllReady.cons rfl (fun K hK => ?_) AllReady.nil)
                    · go_simp
                      refine hK _ _ ?_
                      clear hK K
                      refine wpAny_done (by kernel_rfl) ?_ _
                      have HO6 := Lib.hid (hO5.set_other (by omega) (a := ⟨w.heap.size, 3, none⟩) (Nat.lt_succ_self _) (.slice A5 (k + 1) c5))
                      have X6 := X5.set 3 (.slice A5 (k + 1) c5)
                      have hg6 : w.grownBy w5 (some rb) := Rd.grown_row (grown_two HG.out (grown_of (Below.refl _ _).drew hg)) hg5 (fun g hgo => by have := (HO.out.lt hgo).1; omega) 
                      have HG6 := Lib.hid (grown_set hg6 (a := ⟨w.heap.size, 3, none⟩) (Nat.le_refl _) (.slice A5 (k + 1) c5))
                      have HR6 := Lib.hid (((hR4.keep ((Below.refl w4.heap.size w4).alloc (Nat.le_refl _) (.cells #[.int .i64 x.kind, .int .i64 x.num, .string (strB x.str), .slice Ax x.elems.length cx] 151))).keepG hg5 (fun g hgo => by have := (HO.out.lt hgo).1; have := HD.out; omega)).set (a := ⟨w.heap.size, 3, none⟩) HD.out hne' (.slice A5 (k + 1) c5))
                      clear hret hL hR4 hg hg5 hr5 hO5 X4 y4 yz4 X5 y5 f5 yz5 hg6 HO X HR HG HC HROW HXL y3 y3' yz
                      go_wp2
                      exact ⟨⟨k + 1, xs ++ [x], _, q2, by omega, by go_num, HXL2, HO6, X6, HR6, HG6, HT2, HQ8⟩, by simp [intOf]; omega⟩
            · go_simp
              refine hK _ _ ?_
              clear hK K
              refine wpAny_ready (rs := [1]) (by kernel_rfl) (by simp) ?_
              refine (AllReady.cons rfl (fun K hK => ?_) AllReady.nil)
              · go_simp
                refine hK _ _ ?_
                clear hK K
                refine wpAny_ready (rs := [7]) (by kernel_rfl) (by simp) ?_
                refine (AllReady.cons rfl (fun K hK => ?_) AllReady.nil)
                · refine step_app (by rfl) _ _ _ (by rfl) _ _ (by rfl) (by rfl) hr5 ?_
                  refine hK _ _ ?_
                  clear hK K
                  have X5 := (X4.alloc (.cells #[.int .i64 x.kind, .int .i64 x.num, .string (strB x.str), .slice Ax x.elems.length cx] 151)).same (w' := w5) (hg5.block w.heap.size (by simp; omega) (fun e => by have := (HO.out.lt e.symm).1; omega))
                  have y5 : w5.cell? ⟨w.heap.size, 3, none⟩ = some (.slice A k cv) := X5.cell 3
                  have f5 := X5.free 3
                  have yz5 := X5.lt
                  refine wpAny_ready (rs := [8]) (by kernel_rfl) (by simp) ?_
                  refine (AllReady.cons rfl (fun K hK => ?_) AllReady.nil)
                  · go_simp
                    refine hK _ _ ?_
                    clear hK K
                    refine wpAny_ready (rs := [9]) (by kernel_rfl) (by simp) ?_
                    refine (AllReady.cons rfl (fun K hK => ?_) AllReady.nil)
                    · go_simp
                      refine hK _ _ ?_
                      clear hK K
                      refine wpAny_done (by kernel_rfl) ?_ _
                      have HO6 := Lib.hid (hO5.set_other (by omega) (a := ⟨w.heap.size, 3, none⟩) (Nat.lt_succ_self _) (.slice A5 (k + 1) c5))
                      have X6 := X5.set 3 (.slice A5 (k + 1) c5)
                      have hg6 : w.grownBy w5 (some rb) := Rd.grown_row (grown_two HG.out (grown_of (Below.refl _ _).drew hg)) hg5 (fun g hgo => by have := (HO.out.lt hgo).1; omega) 
                      have HG6 := Lib.hid (grown_set hg6 (a := ⟨w.heap.size, 3, none⟩) (Nat.le_refl _) (.slice A5 (k + 1) c5))
                      have HR6 := Lib.hid (((hR4.keep ((Below.refl w4.heap.size w4).alloc (Nat.le_refl _) (.cells #[.int .i64 x.kind, .int .i64 x.num, .string (strB x.str), .slice Ax x.elems.length cx] 151))).keepG hg5 (fun g hgo => by have := (HO.out.lt hgo).1; have := HD.out; omega)).set (a := ⟨w.heap.size, 3, none⟩) HD.out hne' (.slice A5 (k + 1) c5))
                      clear hret hL hR4 hg hg5 hr5 hO5 X4 y4 yz4 X5 y5 f5 yz5 hg6 HO X HR HG HC HROW HXL y3 y3' yz
                      go_wp2
                      exact ⟨⟨k + 1, xs ++ [x], _, q2, by omega, by go_num, HXL2, HO6, X6, HR6, HG6, HT2, HQ8⟩, by simp [intOf]; omega⟩
      · obtain rfl : k = n := by omega
        have hTn : some (xs, q) = TT := by
          rw [← HTT.out, Nat.sub_self, rdMany]
          simp
        subst hTn
        have hT3 : some (Val.mk 3 0 [] xs, q) = T := hT0.out
        subst hT3
        have HV := Lib.hid (HO.out.done (by rw [hxl.out]; simp only [maxLen]; omega))
        replace hxl := Lib.hid hxl.out
        have yz := X.lt
        obtain ⟨y0, y1, y2, y3⟩ := X.c4
        have f0 := X.free 0
        have f1 := X.free 1
        have f2 := X.free 2
        have f3 := X.free 3
        clear HO HTT hT0
        go_wp2
        clear y0 y1 y2 y3 f0 f1 f2 f3 yz
        have XZ := ((((X.set 0 (.int .i64 3)).set 1 (.int .i64 0)).set 2 (.string ⟨#[]⟩)).set 3 (.slice A k cv))
        have HGZ := Lib.hid (grown_set (grown_set (grown_set (grown_set HG.out (a := ⟨w.heap.size, 0, none⟩) (Nat.le_refl _) (.int .i64 3)) (a := ⟨w.heap.size, 1, none⟩) (Nat.le_refl _) (.int .i64 0)) (a := ⟨w.heap.size, 2, none⟩) (Nat.le_refl _) (.string ⟨#[]⟩)) (a := ⟨w.heap.size, 3, none⟩) (Nat.le_refl _) (.slice A k cv))
        have HRZ := Lib.hid ((((HR.out.set (a := ⟨w.heap.size, 0, none⟩) HD.out hne' (.int .i64 3)).set (a := ⟨w.heap.size, 1, none⟩) HD.out hne' (.int .i64 0)).set (a := ⟨w.heap.size, 2, none⟩) HD.out hne' (.string ⟨#[]⟩)).set (a := ⟨w.heap.size, 3, none⟩) HD.out hne' (.slice A k cv))
        have HVZ := Lib.hid ((ValsP.set (ValsP.set (ValsP.set (ValsP.set HV.out (a := ⟨w.heap.size, 0, none⟩) (fun h => by have := h; simp at this; omega) (.int .i64 3)) (a := ⟨w.heap.size, 1, none⟩) (fun h => by have := h; simp at this; omega) (.int .i64 0)) (a := ⟨w.heap.size, 2, none⟩) (fun h => by have := h; simp at this; omega) (.string ⟨#[]⟩)) (a := ⟨w.heap.size, 3, none⟩) (fun h => by have := h; simp at this; omega) (.slice A k cv)))
        clear X HG HR
        generalize ((((wr.setCell ⟨w.heap.size, 0, none⟩ (.int .i64 3)).setCell ⟨w.heap.size, 1, none⟩ (.int .i64 0)).setCell ⟨w.heap.size, 2, none⟩ (.string ⟨#[]⟩)).setCell ⟨w.heap.size, 3, none⟩ (.slice A k cv)) = Z at XZ HGZ HRZ HVZ ⊢
        obtain ⟨z0, z1, z2, z3⟩ := XZ.c4
        refine bodyPost_ret (v := .agg #[.int .i64 3, .int .i64 0, .string ⟨#[]⟩, .slice A k cv]) (by simp [results, Tryz.results82, go_sem, z0, z1, z2, z3]) rfl ?_
        exact ⟨.slice A k cv, by rw [← hxl.out]; rfl, HVZ.out.weak (fun b hb _ => Nat.le_of_succ_le hb), HRZ.out, HGZ.out⟩
end Go.Proofs.YtmbifmmkccghfaaGreat
namespace Go.Proofs.YtmbifmmkccghfaaGreat
open Go.RowKit
theorem ValR.all (m : Nat) : ValR m := by
  induction m with
  | zero =>
    intro l D rb w dep T hR hD hl h0 hd hT
    rcases l with _ | ⟨c, t⟩
    · obtain rfl : none = T := (rdVal_nil 0).symm.trans hT.out
      exact value_0 0 D rb w hR hD dep
    · by_cases h1 : c = 1
      · subst h1
        exact value_1 t 0 D rb w hR hD dep T (by rw [rdVal_one] at hT; exact hT)
      · by_cases h2 : c = 2
        · subst h2
          exact value_2 t 0 D rb w hR hD dep T (by rw [rdVal_two] at hT; exact hT)
        · by_cases h3 : c = 3
          · subst h3
            obtain rfl : none = T := (rdVal_zero t).symm.trans hT.out
            exact value_3no t 0 D rb w hR hD dep (by omega)
          · obtain rfl : none = T := (rdVal_no 0 t h1 h2 h3).symm.trans hT.out
            exact value_no c t h1 h2 h3 0 D rb w hR hD dep
  | succ m ih =>
    intro l D rb w dep T hR hD hl h0 hd hT
    rcases l with _ | ⟨c, t⟩
    · obtain rfl : none = T := (rdVal_nil _).symm.trans hT.out
      exact value_0 _ D rb w hR hD dep
    · by_cases h1 : c = 1
      · subst h1
        exact value_1 t _ D rb w hR hD dep T (by rw [rdVal_one] at hT; exact hT)
      · by_cases h2 : c = 2
        · subst h2
          exact value_2 t _ D rb w hR hD dep T (by rw [rdVal_two] at hT; exact hT)
        · by_cases h3 : c = 3
          · subst h3
            exact value_3 t m D rb w hR hD dep h0 hd ih (by simp at hl; omega) T (by rw [rdVal_list] at hT; exact hT)
          · obtain rfl : none = T := (rdVal_no _ t h1 h2 h3).symm.trans hT.out
            exact value_no c t h1 h2 h3 _ D rb w hR hD dep
structure TwoC (w w' : World) (v e : Nat) : Prop where
  os : w'.os = w.os
  tape : w'.tape = w.tape
  output : w'.output = w.output
  size : w'.heap.size = w.heap.size
  block : ∀ k, k ≠ v → k ≠ e → w'.heap[k]? = w.heap[k]?
theorem TwoC.refl (w : World) (v e : Nat) : TwoC w w v e := ⟨rfl, rfl, rfl, rfl, fun _ _ _ => rfl⟩
theorem TwoC.setv {w w' : World} {v e : Nat} (h : TwoC w w' v e) (o : Nat) (u : Value) : TwoC w (w'.setCell ⟨v, o, none⟩ u) v e :=
  ⟨h.os, h.tape, h.output, by simpa using h.size, fun k h1 h2 => (Below.heap_setCell w' ⟨v, o, none⟩ u k h1).trans (h.block k h1 h2)⟩
theorem TwoC.sete {w w' : World} {v e : Nat} (h : TwoC w w' v e) (o : Nat) (u : Value) : TwoC w (w'.setCell ⟨e, o, none⟩ u) v e :=
  ⟨h.os, h.tape, h.output, by simpa using h.size, fun k h1 h2 => (Below.heap_setCell w' ⟨e, o, none⟩ u k h2).trans (h.block k h1 h2)⟩
theorem TwoC.drew {w w' : World} {v e : Nat} (h : TwoC w w' v e) : TwoC w w'.drew v e := ⟨h.os, h.tape, h.output, h.size, h.block⟩
theorem TwoC.below {w0 w w' : World} {v e B : Nat} (h : TwoC w w' v e) (hb : Below B w0 w) (h1 : B ≤ v) (h2 : B ≤ e) : Below B w0 w' :=
  ⟨h.os.trans hb.os, h.tape.trans hb.tape, h.output.trans hb.output, by rw [h.size]; exact hb.size, fun k hk => (h.block k (by omega) (by omega)).trans (hb.block k hk)⟩
def Caught (vb eb : Nat) (w : World) (w' : World) : Prop := Box w' vb [.int .i64 0, .int .i64 0, .string ⟨#[]⟩, .slice none 0 0] ∧ Box w' eb [.int .i64 10] ∧ TwoC w w' vb eb
theorem Caught.drew {vb eb : Nat} {w w' : World} (h : Caught vb eb w w') : Caught vb eb w w'.drew := ⟨h.1.drew, h.2.1.drew, h.2.2.drew⟩
theorem caughtA {vb eb : Nat} {v0 v1 v2 v3 e0 : Value} {w : World} (hne : vb ≠ eb) (hv : Box w vb [v0, v1, v2, v3]) (he : Box w eb [e0]) : Caught vb eb w (((((w.setCell ⟨vb, 0, none⟩ (.int .i64 0)).setCell ⟨vb, 1, none⟩ (.int .i64 0)).setCell ⟨vb, 2, none⟩ (.string ⟨#[]⟩)).setCell ⟨vb, 3, none⟩ (.slice none 0 0)).setCell ⟨eb, 0, none⟩ (.int .i64 10)) :=
  ⟨(((((hv.set 0 _).set 1 _).set 2 _).set 3 _).other (a := ⟨eb, 0, none⟩) hne _), (((((he.other (a := ⟨vb, 0, none⟩) (Ne.symm hne) _).other (a := ⟨vb, 1, none⟩) (Ne.symm hne) _).other (a := ⟨vb, 2, none⟩) (Ne.symm hne) _).other (a := ⟨vb, 3, none⟩) (Ne.symm hne) _).set 0 _), ((((((TwoC.refl w vb eb).setv 0 _).setv 1 _).setv 2 _).setv 3 _).sete 0 _)⟩
theorem caughtB {vb eb : Nat} {v0 v1 v2 v3 e0 : Value} {w : World} (hne : vb ≠ eb) (hv : Box w vb [v0, v1, v2, v3]) (he : Box w eb [e0]) : Caught vb eb w (((((w.setCell ⟨eb, 0, none⟩ (.int .i64 10)).setCell ⟨vb, 0, none⟩ (.int .i64 0)).setCell ⟨vb, 1, none⟩ (.int .i64 0)).setCell ⟨vb, 2, none⟩ (.string ⟨#[]⟩)).setCell ⟨vb, 3, none⟩ (.slice none 0 0)) :=
  ⟨(((((hv.other (a := ⟨eb, 0, none⟩) hne _).set 0 _).set 1 _).set 2 _).set 3 _), (((((he.set 0 _).other (a := ⟨vb, 0, none⟩) (Ne.symm hne) _).other (a := ⟨vb, 1, none⟩) (Ne.symm hne) _).other (a := ⟨vb, 2, none⟩) (Ne.symm hne) _).other (a := ⟨vb, 3, none⟩) (Ne.symm hne) _), ((((((TwoC.refl w vb eb).sete 0 _).setv 0 _).setv 1 _).setv 2 _).setv 3 _)⟩
theorem catch_panicking (vb eb : Nat) (v0 v1 v2 v3 e0 : Value) (w : World) (hne : vb ≠ eb) (hv : Box w vb [v0, v1, v2, v3]) (he : Box w eb [e0]) :
    CallsD Tryz.prog 81 #[.pointer (some ⟨vb, 0, none⟩), .pointer (some ⟨eb, 0, none⟩)] (.panicking bad) w fun e u' w' =>
      e = .returned (.tuple #[]) ∧ u' = .panicking [{ v := .iface 38 (.int .i64 10), recovered := true }] ∧ Caught vb eb w w' := by
  refine callsD_of_wpS Tryz.func81 rfl fun c₀ cs hu => ?_
  apply wpS_seq
  apply wpS_region
  simp [wpOpsS, go_sem, recoverD, hu, Tryz.ntmps81, Exit.thenS, bad]
  refine wpS_of_wp ?_
  obtain ⟨x0, x1, x2, x3⟩ := hv.c4
  have f0 := hv.free 0
  have f1 := hv.free 1
  have f2 := hv.free 2
  have f3 := hv.free 3
  have y0 : w.cell? ⟨eb, 0, none⟩ = some e0 := he.cell 0
  have g0 := he.free 0
  have vz := hv.lt
  have ez := he.lt
  have hne' : eb ≠ vb := Ne.symm hne
  have hta : ∀ w : World, (Instr.typeAssert (.iface 38 (.int .i64 10)) 20 38 false).run Tryz.prog w = .ok (.int .i64 10) w := fun _ => by rfl
  go_wp2_with fail
  go_region
  all_goals
    refine ⟨rfl, _, rfl, .tuple #[], by simp [results, Tryz.results81, go_sem], rfl, rfl, ?_⟩
    first
      | exact (caughtA hne hv he).drew
      | exact (caughtB hne hv he).drew
theorem catch_idle (vb eb : Nat) (w : World) :
    CallsD Tryz.prog 81 #[.pointer (some ⟨vb, 0, none⟩), .pointer (some ⟨eb, 0, none⟩)] .returning w fun e u' w' => e = .returned (.tuple #[]) ∧ u' = .returning ∧ w' = w := by
  refine callsD_of_wpS Tryz.func81 rfl fun c₀ cs hu => ?_
  apply wpS_seq
  apply wpS_region
  simp [wpOpsS, go_sem, recoverD, hu, Tryz.ntmps81, Exit.thenS]
  refine wpS_of_wp ?_
  go_wp2_with fail
  refine ⟨rfl, .returning, ?_, .tuple #[], by simp [results, Tryz.results81, go_sem], rfl, rfl, rfl⟩
  cases c₀
  simp_all
end Go.Proofs.YtmbifmmkccghfaaGreat
namespace Go.Proofs.YtmbifmmkccghfaaGreat
open Go.RowKit
attribute [local go_sem ↓ high] app_named
def decT (l : Bs) : Val × Int := match rdVal 16 l with
  | some (x, []) => (x, 0)
  | _ => (Val.zero, 10)
theorem dec_none {l : Bs} (h : rdVal 16 l = none) : decT l = (Val.zero, 10) := by rw [decT, h]
theorem dec_more {l : Bs} {x : Val} {r : Bs} (h : rdVal 16 l = some (x, r)) (hr : r ≠ []) : decT l = (Val.zero, 10) := by
  rw [decT, h]
  cases r with
  | nil => exact absurd rfl hr
  | cons c t => rfl
theorem dec_some {l : Bs} {x : Val} (h : rdVal 16 l = some (x, [])) : decT l = (x, 0) := by rw [decT, h]
def RetDec (t : Val × Int) (w : World) (e : Ending) (w' : World) : Prop := ∃ L, e = .returned (.tuple #[t.1.v L, .int .i64 t.2]) ∧ ValsP w' (fun b => w.heap.size ≤ b) 16 L t.1.elems ∧ Below w.heap.size w w'
theorem below_of_grown {w w0 w1 : World} {rb : Nat} (h0 : Below w.heap.size w w0) (h1 : w0.grownBy w1 (some rb)) (hr : w.heap.size ≤ rb) : Below w.heap.size w w1 :=
  h0.grown h1 h0.size fun k hk => by injection hk with hk; omega
theorem dec_start {w : World} {A : Option Addr} {c : Nat} {l : Bs} (hb : BsAt w (fun b => b < w.heap.size) (.slice A l.length c) l) :
    RdAt (((w.alloc (.cells #[.int .i64 0, .int .i64 0, .string ⟨#[]⟩, .slice none 0 0] 151)).alloc (.cells #[.int .i64 0] 38)).alloc (.cells #[.slice A l.length c] 175)) w.heap.size (w.heap.size + 1 + 1) l ∧ Box (((w.alloc (.cells #[.int .i64 0, .int .i64 0, .string ⟨#[]⟩, .slice none 0 0] 151)).alloc (.cells #[.int .i64 0] 38)).alloc (.cells #[.slice A l.length c] 175)) w.heap.size [.int .i64 0, .int .i64 0, .string ⟨#[]⟩, .slice none 0 0] ∧ Box (((w.alloc (.cells #[.int .i64 0, .int .i64 0, .string ⟨#[]⟩, .slice none 0 0] 151)).alloc (.cells #[.int .i64 0] 38)).alloc (.cells #[.slice A l.length c] 175)) (w.heap.size + 1) [.int .i64 0] ∧ Below w.heap.size w (((w.alloc (.cells #[.int .i64 0, .int .i64 0, .string ⟨#[]⟩, .slice none 0 0] 151)).alloc (.cells #[.int .i64 0] 38)).alloc (.cells #[.slice A l.length c] 175)) := by
  have hst : Below w.heap.size w (((w.alloc (.cells #[.int .i64 0, .int .i64 0, .string ⟨#[]⟩, .slice none 0 0] 151)).alloc (.cells #[.int .i64 0] 38)).alloc (.cells #[.slice A l.length c] 175)) := (((Below.refl w.heap.size w).alloc (Nat.le_refl _) _).alloc (by simp) _).alloc (by simp <;> omega) _
  refine ⟨⟨A, c, Box.newAt _ _ (by simp), (hb.keep (Keeps.of hst)).weak fun b hb _ => ⟨hb, by omega⟩⟩, ?_, ?_, hst⟩
  · exact ((Box.new w [.int .i64 0, .int .i64 0, .string ⟨#[]⟩, .slice none 0 0] _).alloc _).alloc _
  · exact (Box.newAt [.int .i64 0] _ (by simp)).alloc _
theorem cDecode_none (l : Bs) (A : Option Addr) (c : Nat) (w : World) (hb : BsAt w (fun b => b < w.heap.size) (.slice A l.length c) l) (hl : l.length ≤ 100000000) (hn : rdVal 16 l = none) :
    Calls Tryz.prog 68 #[.slice A l.length c] w (RetDec (decT l) w) := by
  rw [dec_none hn]
  have HS := dec_start hb
  obtain ⟨n, hn0⟩ : ∃ n, l.length = n := ⟨_, rfl⟩
  rw [hn0] at HS ⊢
  obtain ⟨hR, hV, hE, hB⟩ := HS
  have HC := Lib.hid (ValR.all 16 l w.heap.size (w.heap.size + 1 + 1) _ 0 none hR (hB.size) hl (by decide) (by decide) (Lib.hid hn))
  clear hb hR hn
  have hmf : ∀ (fn : Fn) (first cap : Array Value) (w : World), (Instr.makeFunc fn first cap).run Tryz.prog w = .ok (.func fn first cap) w := fun _ _ _ _ => rfl
  go_enter_defers Tryz.func68, Tryz.ntmps68
  go_wp2_with fail
  refine HC.out.mono ?_
  rintro e w1 ⟨rfl, hg⟩
  have hB1 := below_of_grown hB hg (by omega)
  have hV1 := hV.same (hg.block _ hV.lt (by intro e; injection e with e; omega))
  have hE1 := hE.same (hg.block _ hE.lt (by intro e; injection e with e; omega))
  clear HC hg hV hE hB
  go_wp2
  refine leaves_cons (f := 81) (args := #[.pointer (some ⟨w.heap.size, 0, none⟩), .pointer (some ⟨w.heap.size + 1, 0, none⟩)]) (by simp) (by simp [go_sem]) ?_
  refine (catch_panicking w.heap.size (w.heap.size + 1) _ _ _ _ _ _ (by omega) hV1 hE1).mono ?_
  rintro e u' w2 ⟨rfl, rfl, hc⟩
  obtain ⟨z0, z1, z2, z3⟩ := hc.1.c4
  have y0 : w2.cell? ⟨w.heap.size + 1, 0, none⟩ = some (.int .i64 10) := hc.2.1.cell 0
  have HR : Hid (RetDec (Val.zero, 10) w (.returned (.tuple #[.agg #[.int .i64 0, .int .i64 0, .string ⟨#[]⟩, .slice none 0 0], .int .i64 10])) w2) := ⟨.slice none 0 0, rfl, valsP_nil _ _ _, hc.2.2.below hB1 (Nat.le_refl _) (by omega)⟩
  clear hc hB1 hV1 hE1
  simp [Leaves, settle, results, Tryz.results68, go_sem, z0, z1, z2, z3, y0]
  exact HR.out
theorem cDecode_more (l : Bs) (A : Option Addr) (c : Nat) (w : World) (hb : BsAt w (fun b => b < w.heap.size) (.slice A l.length c) l) (hl : l.length ≤ 100000000) (x : Val) (r : Bs) (hn : rdVal 16 l = some (x, r)) (hr : r ≠ []) :
    Calls Tryz.prog 68 #[.slice A l.length c] w (RetDec (decT l) w) := by
  rw [dec_more hn hr]
  have HS := dec_start hb
  obtain ⟨n, hn0⟩ : ∃ n, l.length = n := ⟨_, rfl⟩
  rw [hn0] at HS ⊢
  obtain ⟨hR, hV, hE, hB⟩ := HS
  have HC := Lib.hid (ValR.all 16 l w.heap.size (w.heap.size + 1 + 1) _ 0 _ hR (hB.size) hl (by decide) (by decide) (Lib.hid hn))
  clear hb hR hn
  have hmf : ∀ (fn : Fn) (first cap : Array Value) (w : World), (Instr.makeFunc fn first cap).run Tryz.prog w = .ok (.func fn first cap) w := fun _ _ _ _ => rfl
  go_enter_defers Tryz.func68, Tryz.ntmps68
  go_wp2_with fail
  refine HC.out.mono ?_
  intro e w1 hret
  obtain ⟨Ax, cx, rfl, hL, hR1, hg⟩ := RetVal.open hret
  have hB1 := below_of_grown hB hg (by omega)
  have hV1 := hV.same (hg.block _ hV.lt (by intro e; injection e with e; omega))
  have hE1 := hE.same (hg.block _ hE.lt (by intro e; injection e with e; omega))
  have hz0 := hB.size
  have hL1 : ValsP w1 (fun b => w.heap.size + 1 + 1 ≤ b) 16 (.slice Ax x.elems.length cx) x.elems := hL.weak fun b hb _ => by have : _ ≤ b := hb; simp at this; omega
  obtain ⟨x0, x1, x2, x3⟩ := hV1.c4
  have f0 := hV1.free 0
  have f1 := hV1.free 1
  have f2 := hV1.free 2
  have f3 := hV1.free 3
  have vz := hV1.lt
  clear HC hret hg hV hE hB hL hz0
  obtain ⟨Ar, cr, hX, hXB⟩ := hR1
  clear hXB
  have hrl : r.length ≠ 0 := fun h => hr (List.eq_nil_of_length_eq_zero h)
  generalize r.length = rl at hX hrl
  have q0 : w1.cell? ⟨w.heap.size + 1 + 1, 0, none⟩ = some (.slice Ar rl cr) := hX.cell 0
  have hd : ((rl : Int) == 0) = false := by simp; omega
  have hV2 := (((hV1.set 0 (.int .i64 x.kind)).set 1 (.int .i64 x.num)).set 2 (.string (strB x.str))).set 3 (.slice Ax x.elems.length cx)
  have hE2 := (((hE1.other (a := ⟨w.heap.size, 0, none⟩) (by simp) (.int .i64 x.kind)).other (a := ⟨w.heap.size, 1, none⟩) (by simp) (.int .i64 x.num)).other (a := ⟨w.heap.size, 2, none⟩) (by simp) (.string (strB x.str))).other (a := ⟨w.heap.size, 3, none⟩) (by simp) (.slice Ax x.elems.length cx)
  have hX2 := (((hX.other (a := ⟨w.heap.size, 0, none⟩) (by simp; omega) (.int .i64 x.kind)).other (a := ⟨w.heap.size, 1, none⟩) (by simp; omega) (.int .i64 x.num)).other (a := ⟨w.heap.size, 2, none⟩) (by simp; omega) (.string (strB x.str))).other (a := ⟨w.heap.size, 3, none⟩) (by simp; omega) (.slice Ax x.elems.length cx)
  have hB2 := (((hB1.setCell (p := ⟨w.heap.size, 0, none⟩) (Nat.le_refl _) (.int .i64 x.kind)).setCell (p := ⟨w.heap.size, 1, none⟩) (Nat.le_refl _) (.int .i64 x.num)).setCell (p := ⟨w.heap.size, 2, none⟩) (Nat.le_refl _) (.string (strB x.str))).setCell (p := ⟨w.heap.size, 3, none⟩) (Nat.le_refl _) (.slice Ax x.elems.length cx)
  have hL2 := (((hL1.set (a := ⟨w.heap.size, 0, none⟩) (fun h => by have h2 : w.heap.size + 1 + 1 ≤ w.heap.size := h; omega) (.int .i64 x.kind)).set (a := ⟨w.heap.size, 1, none⟩) (fun h => by have h2 : w.heap.size + 1 + 1 ≤ w.heap.size := h; omega) (.int .i64 x.num)).set (a := ⟨w.heap.size, 2, none⟩) (fun h => by have h2 : w.heap.size + 1 + 1 ≤ w.heap.size := h; omega) (.string (strB x.str))).set (a := ⟨w.heap.size, 3, none⟩) (fun h => by have h2 : w.heap.size + 1 + 1 ≤ w.heap.size := h; omega) (.slice Ax x.elems.length cx)
  replace hV2 := Lib.hid hV2
  replace hE2 := Lib.hid hE2
  replace hX2 := Lib.hid hX2
  replace hB2 := Lib.hid hB2
  replace hL2 := Lib.hid hL2
  clear hV1 hE1 hB1 hL1 hX
  go_wp2_with fail
  clear x0 x1 x2 x3 f0 f1 f2 f3 vz q0
  generalize (((w1.setCell ⟨w.heap.size, 0, none⟩ (.int .i64 x.kind)).setCell ⟨w.heap.size, 1, none⟩ (.int .i64 x.num)).setCell ⟨w.heap.size, 2, none⟩ (.string (strB x.str))).setCell ⟨w.heap.size, 3, none⟩ (.slice Ax x.elems.length cx) = w2 at hV2 hE2 hX2 hB2 hL2 ⊢
  refine (want_no _ _).mono ?_
  rintro e w3 ⟨rfl, rfl⟩
  go_wp2
  refine leaves_cons (f := 81) (args := #[.pointer (some ⟨w.heap.size, 0, none⟩), .pointer (some ⟨w.heap.size + 1, 0, none⟩)]) (by simp) (by simp [go_sem]) ?_
  refine (catch_panicking w.heap.size (w.heap.size + 1) _ _ _ _ _ _ (by omega) hV2.out hE2.out).mono ?_
  rintro e u' w4 ⟨rfl, rfl, hc⟩
  obtain ⟨z0, z1, z2, z3⟩ := hc.1.c4
  have y0 : w4.cell? ⟨w.heap.size + 1, 0, none⟩ = some (.int .i64 10) := hc.2.1.cell 0
  have HR : Hid (RetDec (Val.zero, 10) w (.returned (.tuple #[.agg #[.int .i64 0, .int .i64 0, .string ⟨#[]⟩, .slice none 0 0], .int .i64 10])) w4) := ⟨.slice none 0 0, rfl, valsP_nil _ _ _, hc.2.2.below hB2.out (Nat.le_refl _) (by omega)⟩
  clear hc hB2 hV2 hE2 hL2 hX2
  simp [Leaves, settle, results, Tryz.results68, go_sem, z0, z1, z2, z3, y0]
  exact HR.out
theorem cDecode_some (l : Bs) (A : Option Addr) (c : Nat) (w : World) (hb : BsAt w (fun b => b < w.heap.size) (.slice A l.length c) l) (hl : l.length ≤ 100000000) (x : Val) (hn : rdVal 16 l = some (x, [])) :
    Calls Tryz.prog 68 #[.slice A l.length c] w (RetDec (decT l) w) := by
  rw [dec_some hn]
  have HS := dec_start hb
  obtain ⟨n, hn0⟩ : ∃ n, l.length = n := ⟨_, rfl⟩
  rw [hn0] at HS ⊢
  obtain ⟨hR, hV, hE, hB⟩ := HS
  have HC := Lib.hid (ValR.all 16 l w.heap.size (w.heap.size + 1 + 1) _ 0 _ hR (hB.size) hl (by decide) (by decide) (Lib.hid hn))
  clear hb hR hn
  have hmf : ∀ (fn : Fn) (first cap : Array Value) (w : World), (Instr.makeFunc fn first cap).run Tryz.prog w = .ok (.func fn first cap) w := fun _ _ _ _ => rfl
  go_enter_defers Tryz.func68, Tryz.ntmps68
  go_wp2_with fail
  refine HC.out.mono ?_
  intro e w1 hret
  obtain ⟨Ax, cx, rfl, hL, hR1, hg⟩ := RetVal.open hret
  have hB1 := below_of_grown hB hg (by omega)
  have hV1 := hV.same (hg.block _ hV.lt (by intro e; injection e with e; omega))
  have hE1 := hE.same (hg.block _ hE.lt (by intro e; injection e with e; omega))
  have hz0 := hB.size
  have hL1 : ValsP w1 (fun b => w.heap.size + 1 + 1 ≤ b) 16 (.slice Ax x.elems.length cx) x.elems := hL.weak fun b hb _ => by have : _ ≤ b := hb; simp at this; omega
  obtain ⟨x0, x1, x2, x3⟩ := hV1.c4
  have f0 := hV1.free 0
  have f1 := hV1.free 1
  have f2 := hV1.free 2
  have f3 := hV1.free 3
  have vz := hV1.lt
  clear HC hret hg hV hE hB hL hz0
  obtain ⟨Ar, cr, hX, hXB⟩ := hR1
  have q0 : w1.cell? ⟨w.heap.size + 1 + 1, 0, none⟩ = some (.slice Ar 0 cr) := hX.cell 0
  have hV2 := (((hV1.set 0 (.int .i64 x.kind)).set 1 (.int .i64 x.num)).set 2 (.string (strB x.str))).set 3 (.slice Ax x.elems.length cx)
  have hE2 := (((hE1.other (a := ⟨w.heap.size, 0, none⟩) (by simp) (.int .i64 x.kind)).other (a := ⟨w.heap.size, 1, none⟩) (by simp) (.int .i64 x.num)).other (a := ⟨w.heap.size, 2, none⟩) (by simp) (.string (strB x.str))).other (a := ⟨w.heap.size, 3, none⟩) (by simp) (.slice Ax x.elems.length cx)
  have hX2 := (((hX.other (a := ⟨w.heap.size, 0, none⟩) (by simp; omega) (.int .i64 x.kind)).other (a := ⟨w.heap.size, 1, none⟩) (by simp; omega) (.int .i64 x.num)).other (a := ⟨w.heap.size, 2, none⟩) (by simp; omega) (.string (strB x.str))).other (a := ⟨w.heap.size, 3, none⟩) (by simp; omega) (.slice Ax x.elems.length cx)
  have hB2 := (((hB1.setCell (p := ⟨w.heap.size, 0, none⟩) (Nat.le_refl _) (.int .i64 x.kind)).setCell (p := ⟨w.heap.size, 1, none⟩) (Nat.le_refl _) (.int .i64 x.num)).setCell (p := ⟨w.heap.size, 2, none⟩) (Nat.le_refl _) (.string (strB x.str))).setCell (p := ⟨w.heap.size, 3, none⟩) (Nat.le_refl _) (.slice Ax x.elems.length cx)
  have hL2 := (((hL1.set (a := ⟨w.heap.size, 0, none⟩) (fun h => by have h2 : w.heap.size + 1 + 1 ≤ w.heap.size := h; omega) (.int .i64 x.kind)).set (a := ⟨w.heap.size, 1, none⟩) (fun h => by have h2 : w.heap.size + 1 + 1 ≤ w.heap.size := h; omega) (.int .i64 x.num)).set (a := ⟨w.heap.size, 2, none⟩) (fun h => by have h2 : w.heap.size + 1 + 1 ≤ w.heap.size := h; omega) (.string (strB x.str))).set (a := ⟨w.heap.size, 3, none⟩) (fun h => by have h2 : w.heap.size + 1 + 1 ≤ w.heap.size := h; omega) (.slice Ax x.elems.length cx)
  replace hV2 := Lib.hid hV2
  replace hE2 := Lib.hid hE2
  replace hX2 := Lib.hid hX2
  replace hB2 := Lib.hid hB2
  replace hL2 := Lib.hid hL2
  clear hV1 hE1 hB1 hL1 hX hXB
  go_wp2_with fail
  clear x0 x1 x2 x3 f0 f1 f2 f3 vz q0
  generalize (((w1.setCell ⟨w.heap.size, 0, none⟩ (.int .i64 x.kind)).setCell ⟨w.heap.size, 1, none⟩ (.int .i64 x.num)).setCell ⟨w.heap.size, 2, none⟩ (.string (strB x.str))).setCell ⟨w.heap.size, 3, none⟩ (.slice Ax x.elems.length cx) = w2 at hV2 hE2 hX2 hB2 hL2 ⊢
  refine (want_yes _ _).mono ?_
  rintro e w3 ⟨rfl, rfl⟩
  obtain ⟨x0, x1, x2, x3⟩ := hV2.out.c4
  have f0 := hV2.out.free 0
  have f1 := hV2.out.free 1
  have f2 := hV2.out.free 2
  have f3 := hV2.out.free 3
  have vz := hV2.out.lt
  have y0 : w2.cell? ⟨w.heap.size + 1, 0, none⟩ = some (.int .i64 0) := hE2.out.cell 0
  have g0 := hE2.out.free 0
  have ez := hE2.out.lt
  go_wp2
  have hVz := (((((hV2.out.set 0 (.int .i64 x.kind)).set 1 (.int .i64 x.num)).set 2 (.string (strB x.str))).set 3 (.slice Ax x.elems.length cx)).other (a := ⟨w.heap.size + 1, 0, none⟩) (by simp) (.int .i64 0))
  have hEz := (((((hE2.out.other (a := ⟨w.heap.size, 0, none⟩) (by simp) (.int .i64 x.kind)).other (a := ⟨w.heap.size, 1, none⟩) (by simp) (.int .i64 x.num)).other (a := ⟨w.heap.size, 2, none⟩) (by simp) (.string (strB x.str))).other (a := ⟨w.heap.size, 3, none⟩) (by simp) (.slice Ax x.elems.length cx)).set 0 (.int .i64 0))
  have hBz := (((((hB2.out.setCell (p := ⟨w.heap.size, 0, none⟩) (Nat.le_refl _) (.int .i64 x.kind)).setCell (p := ⟨w.heap.size, 1, none⟩) (Nat.le_refl _) (.int .i64 x.num)).setCell (p := ⟨w.heap.size, 2, none⟩) (Nat.le_refl _) (.string (strB x.str))).setCell (p := ⟨w.heap.size, 3, none⟩) (Nat.le_refl _) (.slice Ax x.elems.length cx)).setCell (p := ⟨w.heap.size + 1, 0, none⟩) (by simp) (.int .i64 0))
  have hLz : Hid (ValsP (((((w2.setCell ⟨w.heap.size, 0, none⟩ (.int .i64 x.kind)).setCell ⟨w.heap.size, 1, none⟩ (.int .i64 x.num)).setCell ⟨w.heap.size, 2, none⟩ (.string (strB x.str))).setCell ⟨w.heap.size, 3, none⟩ (.slice Ax x.elems.length cx)).setCell ⟨w.heap.size + 1, 0, none⟩ (.int .i64 0)) (fun b => w.heap.size ≤ b) 16 (.slice Ax x.elems.length cx) x.elems) := by
    exact Lib.hid ((((((hL2.out.set (a := ⟨w.heap.size, 0, none⟩) (fun h => by have h2 : w.heap.size + 1 + 1 ≤ w.heap.size := h; omega) (.int .i64 x.kind)).set (a := ⟨w.heap.size, 1, none⟩) (fun h => by have h2 : w.heap.size + 1 + 1 ≤ w.heap.size := h; omega) (.int .i64 x.num)).set (a := ⟨w.heap.size, 2, none⟩) (fun h => by have h2 : w.heap.size + 1 + 1 ≤ w.heap.size := h; omega) (.string (strB x.str))).set (a := ⟨w.heap.size, 3, none⟩) (fun h => by have h2 : w.heap.size + 1 + 1 ≤ w.heap.size := h; omega) (.slice Ax x.elems.length cx)).set (a := ⟨w.heap.size + 1, 0, none⟩) (fun h => by have h2 : w.heap.size + 1 + 1 ≤ w.heap.size + 1 := h; omega) (.int .i64 0)).weak fun b hb _ => by omega)
  clear x0 x1 x2 x3 f0 f1 f2 f3 vz y0 g0 ez hV2 hE2 hX2 hB2 hL2
  generalize (((((w2.setCell ⟨w.heap.size, 0, none⟩ (.int .i64 x.kind)).setCell ⟨w.heap.size, 1, none⟩ (.int .i64 x.num)).setCell ⟨w.heap.size, 2, none⟩ (.string (strB x.str))).setCell ⟨w.heap.size, 3, none⟩ (.slice Ax x.elems.length cx)).setCell ⟨w.heap.size + 1, 0, none⟩ (.int .i64 0)) = Z at hVz hEz hBz hLz ⊢
  obtain ⟨z0, z1, z2, z3⟩ := hVz.c4
  have y0 : Z.cell? ⟨w.heap.size + 1, 0, none⟩ = some (.int .i64 0) := hEz.cell 0
  refine leaves_cons (f := 81) (args := #[.pointer (some ⟨w.heap.size, 0, none⟩), .pointer (some ⟨w.heap.size + 1, 0, none⟩)]) (by simp) (by simp [go_sem]) ?_
  refine (catch_idle w.heap.size (w.heap.size + 1) _).mono ?_
  rintro e u' w4 ⟨rfl, rfl, rfl⟩
  have HR : Hid (RetDec (x, 0) w (.returned (.tuple #[.agg #[.int .i64 x.kind, .int .i64 x.num, .string (strB x.str), .slice Ax x.elems.length cx], .int .i64 0])) w4) := ⟨.slice Ax x.elems.length cx, rfl, hLz.out, hBz⟩
  clear hVz hEz hBz hLz
  simp [Leaves, settle, results, Tryz.results68, go_sem, z0, z1, z2, z3, y0]
  exact HR.out
theorem cDecode_any (l : Bs) (V : Value) (w : World) (hb : BsAt w (fun b => b < w.heap.size) V l) (hl : l.length ≤ 100000000) : Calls Tryz.prog 68 #[V] w (RetDec (decT l) w) := by
  obtain ⟨A, c, rfl, _⟩ := hb.form
  rcases hn : rdVal 16 l with _ | ⟨x, r⟩
  · exact cDecode_none l A c w hb hl hn
  · rcases r with _ | ⟨b, t⟩
    · exact cDecode_some l A c w hb hl x hn
    · exact cDecode_more l A c w hb hl x (b :: t) hn (by simp)
end Go.Proofs.YtmbifmmkccghfaaGreat
