/-
  The reference's reader: Value: texts. (Printed by gen_gl.py.)
-/
import Derived.Test.YtcokkloaljaanaaGL
import Derived.BigQuiet
namespace Go.Proofs.Ytcokkloaljaanaa
open Go.RowKit
attribute [local go_sem ↓ high] app_named

theorem grown_drew {w w' : World} {r : Option Nat} (h : w.grownBy w' r) : w.grownBy w'.drew r := ⟨h.os, h.tape, h.output, h.size, h.block⟩
theorem BsAt.cutTo {w : World} {S : Nat → Prop} {A : Option Addr} {n c : Nat} {l : Bs} (h : BsAt w S (.slice A n c) l) {m : Nat} (hm : m ≤ l.length) : BsAt w S (.slice A m c) (l.take m) := by
  obtain ⟨hf, A', c', hv, hn, h1⟩ := h
  have e1 : n = l.length := by injection hv
  have e2 : A' = A := by injection hv with h _ _; exact h.symm
  have e3 : c' = c := by injection hv with _ _ h; exact h.symm
  subst e2 e3
  refine ⟨?_, A', c', by rw [List.length_take, Nat.min_eq_left hm], by rw [List.length_take]; omega, fun i hi => ?_⟩
  · rcases hf with h2 | ⟨a, n', c'', h2, h3, h4⟩
    · injection h2 with h5 h6 h7
      subst h5 h7
      obtain rfl : m = 0 := by omega
      exact .inl rfl
    · injection h2 with h5 h6 h7
      subst h5 h7
      exact .inr ⟨a, m, _, rfl, by omega, h4⟩
  · rw [List.length_take] at hi
    obtain ⟨b, off, e, hS, hb, h3⟩ := h1 i (by omega)
    refine ⟨b, off, e, hS, hb, fun j hj => ?_⟩
    rw [h3 j hj]
    simp [List.getD_eq_getElem?_getD, show i < m by omega]
/-- The text that lies from p on. -/
theorem Rc.text {w : World} {D rb n c p q u : Nat} {A : Option Addr} {l : Bs} {bd : Bool} (h : Rc w D rb A n c l q bd) (hp : p + u ≤ n) (h0 : 0 < n) : ∃ b off, A = some ⟨b, off, none⟩ ∧ n ≤ c ∧ c ≤ 9223372036854775807 ∧ (c = p → u = 0 ∧ (convert 27 9 (.slice (some ⟨b, off, none⟩) 0 0)).run Try.prog w = .ok (.string (strB ((l.drop p).take u))) w) ∧ (c ≠ p → (convert 27 9 (.slice (some ⟨b, off + p, none⟩) u (c - p))).run Try.prog w = .ok (.string (strB ((l.drop p).take u))) w) := by
  obtain ⟨_, hB, hl, hq⟩ := h
  obtain ⟨b, off, rfl, h1, h2, -, -⟩ := hB.row h0
  unfold maxLen at h2
  refine ⟨b, off, rfl, h1, by omega, fun hc => ?_, fun hc => ?_⟩
  · have hu : u = 0 := by omega
    subst hu
    refine ⟨rfl, ?_⟩
    have h3 := (hB.cutTo (m := 0) (Nat.zero_le _)).part 0 (Nat.le_refl _)
    have := h3.str
    rw [List.take_zero] at this ⊢
    exact this
  · have h3 := (hB.rest p (by omega)).cutTo (m := u) (by rw [List.length_drop, hl]; omega)
    exact h3.str

set_option maxRecDepth 100000 in
set_option maxHeartbeats 4000000 in
theorem valueR_2 (D rb n c p0 : Nat) (A : Option Addr) (l : Bs) (w : World) (h : Rc w D rb A n c l p0 false) (hD : D ≤ w.heap.size) (dep : Int) (m : Nat) (t : Bs) (hq : l.drop p0 = 2 :: t) (T : Option (Val × Bs)) (hT : Hid (((rdLen t).map fun p => (Val.mk 2 0 (p.2.take p.1) [], p.2.drop p.1)) = T)) : Calls Try.prog 34 #[.pointer (some ⟨rb, 0, none⟩), .int .i64 dep] w (RetV (T) (m) D rb A n c l w) := by
  have hst := (Below.refl w.heap.size w).alloc (Nat.le_refl _) (.cells #[.int .i64 0, .int .i64 0, .string ⟨#[]⟩, .slice none 0 0] 24)
  have X := Box.new w [.int .i64 0, .int .i64 0, .string ⟨#[]⟩, .slice none 0 0] 24
  have hrb := h.lt
  have HR := Lib.hid (h.keep hst)
  have ST := Lib.hid hst
  have HD := Lib.hid hD
  have hne : rb ≠ w.heap.size := by omega
  have hne' : w.heap.size ≠ rb := by omega
  obtain ⟨hpn, hpx, hpt⟩ := drop_cons_lt h.2.2.1 hq
  clear hst h hD
  go_enter Try.func34, Try.ntmps34
  go_wp2_with fail
  refine (next_yes D rb n c p0 A l _ HR.out hpn).mono ?_
  rintro e w1 ⟨rfl, hR1, hg⟩
  rw [hpx]
  have X1 := X.same (hg.block _ X.lt (by intro e; injection e with e; omega))
  have HG1 := Lib.hid (grown_of ST.out hg)
  have HR1 := Lib.hid hR1
  replace hpt := Lib.hid hpt
  clear hg hR1 X HR ST hpx
  have ht1 : ∀ y r, rdNum 0 0 (l.drop (p0 + 1)) = some (y, r) → y < 18446744073709551616 := fun y r h => (rdNum_lt (by omega) (by decide) h).1
  have HT1 := Lib.hid ht1
  clear ht1
  go_wp2_with fail
  refine (numberR_any D rb n c A l (p0 + 1) _ HR1.out _ rfl).mono ?_
  intro e w2 hret
  obtain ⟨u, p, bd, rfl, hR2, hg2, hu, hm1, hm2⟩ := hret.any HT1.out
  have X2 := X1.same (hg2.block _ X1.lt (by intro e; injection e with e; omega))
  have HG2 := Lib.hid (grown_two HG1.out hg2)
  have HR2 := Lib.hid hR2
  rw [hpt.out] at hm1 hm2
  clear hret hR2 hg2 X1 HG1 HR1 HT1
  have y0 : w2.cell? ⟨rb, 0, none⟩ = some (.slice A n c) := HR2.out.1.cell 0
  have y1 : w2.cell? ⟨rb, 1, none⟩ = some (.int .i64 p) := HR2.out.1.cell 1
  have y2 : w2.cell? ⟨rb, 2, none⟩ = some (.bool bd) := HR2.out.1.cell 2
  have yf := HR2.out.1.free 2
  have yf1 := HR2.out.1.free 1
  have yz := HR2.out.lt
  have hpn2 := HR2.out.2.2.2
  have hnm : n ≤ 9223372036854775807 := by
    obtain ⟨_, _, _, hm⟩ := HR2.out.2.1.form
    rw [HR2.out.2.2.1] at hm
    unfold maxLen at hm
    exact hm
  have xf0 := X2.free 0
  have xc0 : w2.cell? ⟨w.heap.size, 0, none⟩ = some (.int .i64 0) := X2.cell 0
  have xf1 := X2.free 1
  have xc1 : w2.cell? ⟨w.heap.size, 1, none⟩ = some (.int .i64 0) := X2.cell 1
  have xf2 := X2.free 2
  have xc2 : w2.cell? ⟨w.heap.size, 2, none⟩ = some (.string ⟨#[]⟩) := X2.cell 2
  have xf3 := X2.free 3
  have xc3 : w2.cell? ⟨w.heap.size, 3, none⟩ = some (.slice none 0 0) := X2.cell 3
  have xz := X2.lt
  rcases bd with _ | _
  rotate_left
  · have hn : rdNum 0 0 t = none := by
      rcases hn : rdNum 0 0 t with _ | ⟨y, r⟩
      · rfl
      · have := (hm1 y r hn).2.1
        cases this
    obtain rfl : none = T := by rw [← hT.out, rdLen_none hn]; rfl
    clear hT hm1 hm2 hn
    go_wp2
    go_quiet (fail)
    go_wp2
    clear y0 y1 y2 yf yf1 yz xf0 xf1 xf2 xf3 xz xc0 xc1 xc2 xc3
    have X3 := (X2.later (below_drewN (Below.refl w2.heap.size w2) nq)).other (a := ⟨rb, 2, none⟩) hne' (.bool true)
    have HG3 := grown_two (grown_drewN HG2.out nq) (grownBy_set (a := ⟨rb, 2, none⟩) (.bool true))
    have HR3 := (HR2.out.drewN nq).setBad true
    obtain ⟨XZ, HGZ, HRZ, HVZ⟩ := fin_value X3 HG3 HR3 (valsP_nil _ _ m) HD.out hne' (.int .i64 0) (.int .i64 0) (.string ⟨#[]⟩) (.slice none 0 0)
    generalize ((((((w2.drewN nq).setCell ⟨rb, 2, none⟩ (.bool true)).setCell ⟨w.heap.size, 0, none⟩ (.int .i64 0)).setCell ⟨w.heap.size, 1, none⟩ (.int .i64 0)).setCell ⟨w.heap.size, 2, none⟩ (.string ⟨#[]⟩)).setCell ⟨w.heap.size, 3, none⟩ (.slice none 0 0)) = Z at XZ HGZ HRZ HVZ ⊢
    have z0 : Z.cell? ⟨w.heap.size, 0, none⟩ = some (.int .i64 0) := XZ.cell 0
    have z1 : Z.cell? ⟨w.heap.size, 1, none⟩ = some (.int .i64 0) := XZ.cell 1
    have z2 : Z.cell? ⟨w.heap.size, 2, none⟩ = some (.string ⟨#[]⟩) := XZ.cell 2
    have z3 : Z.cell? ⟨w.heap.size, 3, none⟩ = some (.slice none 0 0) := XZ.cell 3
    refine bodyPost_ret (v := .agg #[.int .i64 0, .int .i64 0, .string ⟨#[]⟩, .slice none 0 0]) (by simp [results, Try.results34, go_sem, z0, z1, z2, z3]) rfl ?_
    exact ⟨HGZ, Val.zero, _, _, _, rfl, HVZ, HRZ, rfl⟩
  rcases hn : rdNum 0 0 t with _ | ⟨y, r⟩
  · have := hm2 hn
    cases this
  obtain ⟨huy, -, hpr⟩ := hm1 y r hn
  subst huy
  have hrl : r.length = n - p := by rw [← hpr, List.length_drop, HR2.out.2.2.1]
  have w1' : IntKind.i64.wrap ((n : Int) - (p : Int)) = (n : Int) - (p : Int) := by simp [IntKind.wrap, IntKind.bits, IntKind.signed]; omega
  have w2' : IntKind.u64.wrap ((n : Int) - (p : Int)) = (n : Int) - (p : Int) := by rw [wrap_u64']; omega
  clear hm1 hm2
  rcases Nat.lt_or_ge (n - p) u with hlt | hle
  · obtain rfl : none = T := by rw [← hT.out, rdLen_over hn (by omega)]; rfl
    clear hT
    have d1 : decide ((n : Int) - (p : Int) < (u : Int)) = true := decide_eq_true (by omega)
    clear hn hrl hpr
    go_wp2
    go_quiet (fail)
    go_wp2
    clear y0 y1 y2 yf yf1 yz xf0 xf1 xf2 xf3 xz xc0 xc1 xc2 xc3
    have X3 := (X2.later (below_drewN (Below.refl w2.heap.size w2) nq)).other (a := ⟨rb, 2, none⟩) hne' (.bool true)
    have HG3 := grown_two (grown_drewN HG2.out nq) (grownBy_set (a := ⟨rb, 2, none⟩) (.bool true))
    have HR3 := (HR2.out.drewN nq).setBad true
    obtain ⟨XZ, HGZ, HRZ, HVZ⟩ := fin_value X3 HG3 HR3 (valsP_nil _ _ m) HD.out hne' (.int .i64 0) (.int .i64 0) (.string ⟨#[]⟩) (.slice none 0 0)
    generalize ((((((w2.drewN nq).setCell ⟨rb, 2, none⟩ (.bool true)).setCell ⟨w.heap.size, 0, none⟩ (.int .i64 0)).setCell ⟨w.heap.size, 1, none⟩ (.int .i64 0)).setCell ⟨w.heap.size, 2, none⟩ (.string ⟨#[]⟩)).setCell ⟨w.heap.size, 3, none⟩ (.slice none 0 0)) = Z at XZ HGZ HRZ HVZ ⊢
    have z0 : Z.cell? ⟨w.heap.size, 0, none⟩ = some (.int .i64 0) := XZ.cell 0
    have z1 : Z.cell? ⟨w.heap.size, 1, none⟩ = some (.int .i64 0) := XZ.cell 1
    have z2 : Z.cell? ⟨w.heap.size, 2, none⟩ = some (.string ⟨#[]⟩) := XZ.cell 2
    have z3 : Z.cell? ⟨w.heap.size, 3, none⟩ = some (.slice none 0 0) := XZ.cell 3
    refine bodyPost_ret (v := .agg #[.int .i64 0, .int .i64 0, .string ⟨#[]⟩, .slice none 0 0]) (by simp [results, Try.results34, go_sem, z0, z1, z2, z3]) rfl ?_
    exact ⟨HGZ, Val.zero, _, _, _, rfl, HVZ, HRZ, rfl⟩
  · obtain rfl : some (Val.mk 2 0 (r.take u) [], r.drop u) = T := by rw [← hT.out, rdLen_of hn (by omega)]; rfl
    clear hT
    have d1 : decide ((n : Int) - (p : Int) < (u : Int)) = false := decide_eq_false (by omega)
    have e1 : IntKind.i64.wrap (u : Int) = (u : Int) := by simp [IntKind.wrap, IntKind.bits, IntKind.signed]; omega
    have e2 : IntKind.i64.wrap ((p : Int) + (u : Int)) = (p : Int) + (u : Int) := by simp [IntKind.wrap, IntKind.bits, IntKind.signed]; omega
    clear hn hrl
    go_wp2
    go_quiet (fail)
    go_wp2_with fail
    clear y0 y1 y2 yf yf1 yz xf0 xf1 xf2 xf3 xz xc0 xc1 xc2 xc3
    have X3 := (X2.later (below_drewN (Below.refl w2.heap.size w2) nq)).other (a := ⟨rb, 1, none⟩) hne' (.int .i64 ((p : Int) + (u : Int)))
    have HG3 := Lib.hid (grown_two (grown_drewN HG2.out nq) (grownBy_set (a := ⟨rb, 1, none⟩) (.int .i64 ((p : Int) + (u : Int)))))
    have HR3 := Lib.hid ((HR2.out.drewN nq).setAt (q := p + u) (by omega))
    rw [Int.natCast_add] at HR3
    generalize (w2.drewN nq).setCell ⟨rb, 1, none⟩ (.int .i64 ((p : Int) + (u : Int))) = W at X3 HG3 HR3 ⊢
    obtain ⟨b, off, rfl, hnc, hcm, t1, t2⟩ := (HR3.out.keep (Below.refl W.heap.size W).drew).text (p := p) (u := u) (by omega) (by omega)
    have y0 : W.cell? ⟨rb, 0, none⟩ = some (.slice (some ⟨b, off, none⟩) n c) := HR3.out.1.cell 0
    have y1 : W.cell? ⟨rb, 1, none⟩ = some (.int .i64 ((p : Int) + (u : Int))) := by have := HR3.out.1.cell 1; rw [Int.natCast_add] at this; exact this
    have yz := HR3.out.lt
    have e3 : IntKind.i64.wrap (p : Int) = (p : Int) := by simp [IntKind.wrap, IntKind.bits, IntKind.signed]; omega
    rw [hpr] at t1 t2
    have hd3 : l.drop (p + u) = r.drop u := by rw [← hpr, List.drop_drop]
    generalize hst : strB (r.take u) = st at t1 t2
    replace hst := Lib.hid hst
    replace hd3 := Lib.hid hd3
    have xf0 := X3.free 0
    have xc0 : W.cell? ⟨w.heap.size, 0, none⟩ = some (.int .i64 0) := X3.cell 0
    have xf1 := X3.free 1
    have xc1 : W.cell? ⟨w.heap.size, 1, none⟩ = some (.int .i64 0) := X3.cell 1
    have xf2 := X3.free 2
    have xc2 : W.cell? ⟨w.heap.size, 2, none⟩ = some (.string ⟨#[]⟩) := X3.cell 2
    have xf3 := X3.free 3
    have xc3 : W.cell? ⟨w.heap.size, 3, none⟩ = some (.slice none 0 0) := X3.cell 3
    have xz := X3.lt
    rcases Nat.decEq c p with hc | hc
    rotate_left
    · obtain ⟨hu0, v1⟩ := t1 hc
      subst hc
      subst hu0
      clear t1 t2
      go_region
      go_wp2
      clear y0 y1 yz xf0 xf1 xf2 xf3 xz xc0 xc1 xc2 xc3
      obtain ⟨XZ, HGZ, HRZ, HVZ⟩ := fin_value X3 HG3.out HR3.out (valsP_nil _ _ m) HD.out hne' (.int .i64 2) (.int .i64 0) (.string st) (.slice none 0 0)
      generalize ((((W.setCell ⟨w.heap.size, 0, none⟩ (.int .i64 2)).setCell ⟨w.heap.size, 1, none⟩ (.int .i64 0)).setCell ⟨w.heap.size, 2, none⟩ (.string st)).setCell ⟨w.heap.size, 3, none⟩ (.slice none 0 0)) = Z at XZ HGZ HRZ HVZ ⊢
      have z0 : Z.cell? ⟨w.heap.size, 0, none⟩ = some (.int .i64 2) := XZ.cell 0
      have z1 : Z.cell? ⟨w.heap.size, 1, none⟩ = some (.int .i64 0) := XZ.cell 1
      have z2 : Z.cell? ⟨w.heap.size, 2, none⟩ = some (.string st) := XZ.cell 2
      have z3 : Z.cell? ⟨w.heap.size, 3, none⟩ = some (.slice none 0 0) := XZ.cell 3
      refine bodyPost_ret (v := .agg #[.int .i64 2, .int .i64 0, .string st, .slice none 0 0]) (by simp [results, Try.results34, go_sem, z0, z1, z2, z3]) rfl ?_
      exact ⟨grown_drew HGZ, Val.mk 2 0 (r.take 0) [], _, _, _, by rw [← hst.out]; rfl, HVZ.keep (Keeps.of (Below.refl Z.heap.size Z).drew), HRZ.keep (Below.refl Z.heap.size Z).drew, ⟨rfl, rfl, hd3.out⟩⟩
    · have v1 := t2 hc
      clear t1 t2
      go_region
      go_wp2
      clear y0 y1 yz xf0 xf1 xf2 xf3 xz xc0 xc1 xc2 xc3
      obtain ⟨XZ, HGZ, HRZ, HVZ⟩ := fin_value X3 HG3.out HR3.out (valsP_nil _ _ m) HD.out hne' (.int .i64 2) (.int .i64 0) (.string st) (.slice none 0 0)
      generalize ((((W.setCell ⟨w.heap.size, 0, none⟩ (.int .i64 2)).setCell ⟨w.heap.size, 1, none⟩ (.int .i64 0)).setCell ⟨w.heap.size, 2, none⟩ (.string st)).setCell ⟨w.heap.size, 3, none⟩ (.slice none 0 0)) = Z at XZ HGZ HRZ HVZ ⊢
      have z0 : Z.cell? ⟨w.heap.size, 0, none⟩ = some (.int .i64 2) := XZ.cell 0
      have z1 : Z.cell? ⟨w.heap.size, 1, none⟩ = some (.int .i64 0) := XZ.cell 1
      have z2 : Z.cell? ⟨w.heap.size, 2, none⟩ = some (.string st) := XZ.cell 2
      have z3 : Z.cell? ⟨w.heap.size, 3, none⟩ = some (.slice none 0 0) := XZ.cell 3
      refine bodyPost_ret (v := .agg #[.int .i64 2, .int .i64 0, .string st, .slice none 0 0]) (by simp [results, Try.results34, go_sem, z0, z1, z2, z3]) rfl ?_
      exact ⟨grown_drew HGZ, Val.mk 2 0 (r.take u) [], _, _, _, by rw [← hst.out]; rfl, HVZ.keep (Keeps.of (Below.refl Z.heap.size Z).drew), HRZ.keep (Below.refl Z.heap.size Z).drew, ⟨rfl, rfl, hd3.out⟩⟩

end Go.Proofs.Ytcokkloaljaanaa
