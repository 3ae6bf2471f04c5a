/-
  The reference's Decode on bytes that are an encoding. No condition.
-/
import Derived.Test.YtcokkloaljaanaaGO
namespace Go.Proofs.Ytcokkloaljaanaa
open Go.RowKit
attribute [local go_sem ↓ high] app_named

set_option maxRecDepth 100000 in
set_option maxHeartbeats 8000000 in
theorem rDecode_good (l : Bs) (A : Option Addr) (n c : Nat) (w : World) (hb : BsAt w (fun b => b < w.heap.size) (.slice A n c) l) (hn0 : l.length = n) (hl : n ≤ 100000000) (k nn : Int) (s : Bs) (es : List Val) (m : Nat) (hm : Hid (es.length = m)) (hrd : Hid (rdVal 16 l = some (.mk k nn s es, []))) (henc : Hid ((Val.mk k nn s es).enc = l)) (hok : Hid ((Val.mk k nn s es).okB = true)) (hfit : Hid (Val.mk k nn s es).fits) (hchk : Hid (chkT (.mk k nn s es) = 0)) (hlen : Hid ((Val.mk k nn s es).enc.length ≤ 79000000)) :
    Calls Try.prog 19 #[.slice A n c] w (RetDec (.mk k nn s es, 0) w) := by
  obtain ⟨hR, hV, hB⟩ := rdec_start hb hn0
  have HC := Lib.hid (VR.all 16 w.heap.size (w.heap.size + 1) n c 0 A l _ 0 (some (.mk k nn s es, [])) hR hB.size hl (by decide) (by decide) (Lib.hid (by rw [List.drop_zero]; exact hrd.out)))
  clear hb hR hrd
  go_enter Try.func19, Try.ntmps19
  go_wp2_with fail
  refine HC.out.mono ?_
  intro e w1 hret
  obtain ⟨hg, x, L, p, bd, rfl, hL, hR1, rfl, rfl, hp⟩ := hret
  have hpn : p = n := drop_nil_iff hn0 hR1.2.2.2 hp
  subst hpn
  have hB1 := below_of_grown hB hg (by omega)
  have hV1 := hV.same (hg.block _ hV.lt (by intro e; injection e with e; omega))
  obtain ⟨AL, cL, hLe, _⟩ := hL.form
  rw [show (Val.mk k nn s es).elems.length = m from hm.out] at hLe
  subst hLe
  dsimp only [Val.v, Val.kind, Val.num, Val.str]
  have hL1 : ValsP w1 (fun b => w.heap.size + 1 ≤ b) 16 (.slice AL m cL) es := hL.weak fun b hb _ => by have : _ ≤ b := hb; simp at this; omega
  have hst := (Below.refl w1.heap.size w1).alloc (Nat.le_refl _) (.cells #[.int .i64 k, .int .i64 nn, .string (strB s), .slice AL m cL] 24)
  have TB := Box.new w1 [.int .i64 k, .int .i64 nn, .string (strB s), .slice AL m cL] 24
  have HW := Lib.hid (hB1.trans (hst.mono hB1.size))
  have HVW := Lib.hid (hV1.later hst)
  have HRW := Lib.hid (hR1.keep hst)
  have HLW := Lib.hid (hL1.keep (Keeps.of hst))
  clear HC hg hV hB hL hB1 hV1 hR1 hst hL1 hp
  go_wp2_with fail
  generalize htb : w1.heap.size = tb at TB ⊢
  clear htb
  generalize w1.alloc (.cells #[.int .i64 k, .int .i64 nn, .string (strB s), .slice AL m cL] 24) = W at HW HVW HRW HLW TB ⊢
  have K1 : Hid (∀ z, Below W.heap.size W z → Calls Try.prog 17 #[.agg #[.int .i64 k, .int .i64 nn, .string (strB s), .slice AL m cL]] z fun e w' => e = .returned (.int .i64 0) ∧ Below z.heap.size z w') := Lib.hid fun z hz => by
    have := rCheck_any 16 (by decide) (.mk k nn s es) _ z ((HLW.out.keep (Keeps.of hz)).vals)
    rw [hchk.out] at this
    exact this
  have K2 : Hid (∀ z, Below W.heap.size W z → Calls Try.prog 27 #[.agg #[.int .i64 k, .int .i64 nn, .string (strB s), .slice AL m cL]] z (RetOwn l z)) := Lib.hid fun z hz => by
    have := EncR.all 16 (.mk k nn s es) _ z ((HLW.out.keep (Keeps.of hz)).vals) hok.out hfit.out hlen.out
    rw [henc.out] at this
    exact this
  have y0 : W.cell? ⟨w.heap.size + 1, 0, none⟩ = some (.slice A p c) := HRW.out.1.cell 0
  have y1 : W.cell? ⟨w.heap.size + 1, 1, none⟩ = some (.int .i64 p) := HRW.out.1.cell 1
  have y2 : W.cell? ⟨w.heap.size + 1, 2, none⟩ = some (.bool false) := HRW.out.1.cell 2
  have hyz := HRW.out.lt
  have c0 : W.cell? ⟨tb, 0, none⟩ = some (.int .i64 k) := TB.cell 0
  have c1 : W.cell? ⟨tb, 1, none⟩ = some (.int .i64 nn) := TB.cell 1
  have c2 : W.cell? ⟨tb, 2, none⟩ = some (.string (strB s)) := TB.cell 2
  have c3 : W.cell? ⟨tb, 3, none⟩ = some (.slice AL m cL) := TB.cell 3
  have ctz := TB.lt
  have HT := Lib.hid TB
  have V0 := Lib.hid HRW.out.2.1
  have hlm : Hid (l.length ≤ maxLen) := by rw [Hid, hn0]; unfold maxLen; omega
  have hB0 := Lib.hid (Below.refl W.heap.size W).drew
  clear TB hm hok hfit hchk hlen henc
  generalize hsb : strB s = sb at K1 K2 c2 HT ⊢
  replace hsb := Lib.hid hsb
  go_region_with (first | (go_at_call 17; refine (K1.out _ hB0.out).mono ?_; rintro e w5 ⟨rfl, hb5⟩; have B5 := Lib.hid (hB0.out.trans hb5); have g0 : w5.cell? ⟨tb, 0, none⟩ = some (.int .i64 k) := (HT.out.later B5.out).cell 0; have g1 : w5.cell? ⟨tb, 1, none⟩ = some (.int .i64 nn) := (HT.out.later B5.out).cell 1; have g2 : w5.cell? ⟨tb, 2, none⟩ = some (.string sb) := (HT.out.later B5.out).cell 2; have g3 : w5.cell? ⟨tb, 3, none⟩ = some (.slice AL m cL) := (HT.out.later B5.out).cell 3; have gz := (HT.out.later B5.out).lt; have v5 := (V0.out.keep (Keeps.of B5.out)).str) | (go_at_call 27; refine (K2.out _ B5.out).mono ?_; rintro e w6 ⟨VV, rfl, hO, hb6⟩; have B6 := Lib.hid (B5.out.trans (hb6.mono B5.out.size)); have v6 := (V0.out.keep (Keeps.of B6.out)).str; have v7 := (hO.bs hlm.out).str))
  all_goals
    have hX6 := HVW.out.later B6.out
    have hT6 := HT.out.later B6.out
    have hB6 := HW.out.trans (B6.out.mono HW.out.size)
    have hL6 := HLW.out.keep (Keeps.of B6.out)
    have no : ∀ j : Nat, ¬ (w.heap.size + 1 ≤ (⟨w.heap.size, j, none⟩ : Addr).block) := fun j hj => by
      have : w.heap.size + 1 ≤ w.heap.size := hj
      omega
    have x0 : w6.cell? ⟨w.heap.size, 0, none⟩ = some (.int .i64 0) := hX6.cell 0
    have f0 := hX6.free 0
    have t0 : w6.cell? ⟨tb, 0, none⟩ = some (.int .i64 k) := hT6.cell 0
    have x1 : w6.cell? ⟨w.heap.size, 1, none⟩ = some (.int .i64 0) := hX6.cell 1
    have f1 := hX6.free 1
    have t1 : w6.cell? ⟨tb, 1, none⟩ = some (.int .i64 nn) := hT6.cell 1
    have x2 : w6.cell? ⟨w.heap.size, 2, none⟩ = some (.string ⟨#[]⟩) := hX6.cell 2
    have f2 := hX6.free 2
    have t2 : w6.cell? ⟨tb, 2, none⟩ = some (.string sb) := hT6.cell 2
    have x3 : w6.cell? ⟨w.heap.size, 3, none⟩ = some (.slice none 0 0) := hX6.cell 3
    have f3 := hX6.free 3
    have t3 : w6.cell? ⟨tb, 3, none⟩ = some (.slice AL m cL) := hT6.cell 3
    have xz := hX6.lt
    have tz := hT6.lt
    have hBZ := ((((hB6.setCell (p := ⟨w.heap.size, 0, none⟩) (Nat.le_refl _) (.int .i64 k)).setCell (p := ⟨w.heap.size, 1, none⟩) (Nat.le_refl _) (.int .i64 nn)).setCell (p := ⟨w.heap.size, 2, none⟩) (Nat.le_refl _) (.string sb)).setCell (p := ⟨w.heap.size, 3, none⟩) (Nat.le_refl _) (.slice AL m cL))
    have hLZ := Lib.hid (((((hL6.set (a := ⟨w.heap.size, 0, none⟩) (no 0) (.int .i64 k)).set (a := ⟨w.heap.size, 1, none⟩) (no 1) (.int .i64 nn)).set (a := ⟨w.heap.size, 2, none⟩) (no 2) (.string sb)).set (a := ⟨w.heap.size, 3, none⟩) (no 3) (.slice AL m cL)))
    have hVZ := ((((hX6.set 0 (.int .i64 k)).set 1 (.int .i64 nn)).set 2 (.string sb)).set 3 (.slice AL m cL))
    clear HW HVW HRW HLW HT V0 hB0 B5 B6 v5 v6 v7 K1 K2 hX6 hT6 hB6 hL6 no y0 y1 y2 hyz c0 c1 c2 c3 ctz g0 g1 g2 g3 gz
    go_wp2
    clear x0 x1 x2 x3 f0 f1 f2 f3 t0 t1 t2 t3 xz tz
    generalize ((((w6.setCell ⟨w.heap.size, 0, none⟩ (.int .i64 k)).setCell ⟨w.heap.size, 1, none⟩ (.int .i64 nn)).setCell ⟨w.heap.size, 2, none⟩ (.string sb)).setCell ⟨w.heap.size, 3, none⟩ (.slice AL m cL)) = Z at hBZ hLZ hVZ ⊢
    have z0 : Z.cell? ⟨w.heap.size, 0, none⟩ = some (.int .i64 k) := hVZ.cell 0
    have z1 : Z.cell? ⟨w.heap.size, 1, none⟩ = some (.int .i64 nn) := hVZ.cell 1
    have z2 : Z.cell? ⟨w.heap.size, 2, none⟩ = some (.string sb) := hVZ.cell 2
    have z3 : Z.cell? ⟨w.heap.size, 3, none⟩ = some (.slice AL m cL) := hVZ.cell 3
    refine bodyPost_ret (v := .tuple #[.agg #[.int .i64 k, .int .i64 nn, .string sb, .slice AL m cL], .int .i64 0]) (by simp [results, Try.results19, go_sem, z0, z1, z2, z3]) rfl ?_
    exact ⟨.slice AL m cL, by rw [← hsb.out]; rfl, hLZ.out.weak fun b hb _ => Nat.le_of_succ_le hb, hBZ⟩

end Go.Proofs.Ytcokkloaljaanaa
