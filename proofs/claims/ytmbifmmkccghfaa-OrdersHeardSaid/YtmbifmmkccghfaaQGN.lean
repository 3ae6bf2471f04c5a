/- The reference's reader: Value: lists. (Printed by gen_gl.py.) -/
import Derived.Test.YtmbifmmkccghfaaQGK
import Derived.BigQuiet
set_option linter.unusedVariables false
set_option linter.unusedSimpArgs false
namespace Go.Proofs.Ytmbifmmkccghfaa
open Go.RowKit
attribute [local go_sem ↓ high] app_named

def VR (m : Nat) : Prop := ∀ (D rb n c p : Nat) (A : Option Addr) (l : Bs) (w : World) (dep : Int) (T : Option (Val × Bs)), Rc w D rb A n c l p false → D ≤ w.heap.size → n ≤ 100000000 → 0 ≤ dep → dep + m = 16 → Hid (rdVal m (l.drop p) = T) → Calls Try.prog 67 #[.pointer (some ⟨rb, 0, none⟩), .int .i64 dep] w (RetV T m D rb A n c l w)
def Way (m u k : Nat) (xs : List Val) (q : Bs) (bd : Bool) (TT : Option (List Val × Bs)) : Prop := match bd with
  | true => none = TT
  | false => ((rdMany (rdVal m) (u - k) q).map fun z => (xs ++ z.1, z.2)) = TT
theorem Way.step {m u k : Nat} {xs : List Val} {q q2 : Bs} {x : Val} {bd : Bool} {TT : Option (List Val × Bs)} (hk : k < u) (h : Way m u k xs q false TT) (hm : match rdVal m q with | some (y, r) => bd = false ∧ x = y ∧ q2 = r | none => bd = true) : Way m u (k + 1) (xs ++ [x]) q2 bd TT := by
  obtain ⟨j, hj⟩ : ∃ j, u - k = j + 1 := ⟨u - k - 1, by omega⟩
  have hj2 : u - (k + 1) = j := by omega
  unfold Way at h ⊢
  dsimp only at h
  rw [hj, rdMany] at h
  rcases hv : rdVal m q with _ | ⟨y, r⟩
  · rw [hv] at h hm
    dsimp only at hm
    subst hm
    exact h
  · rw [hv] at h hm
    obtain ⟨rfl, rfl, rfl⟩ := hm
    rw [Option.bind_some] at h
    dsimp only
    rw [hj2, ← h]
    rcases rdMany (rdVal m) j q2 with _ | ⟨l2, q3⟩
    · rfl
    · simp only [Option.map_some, List.append_assoc, List.singleton_append]
theorem Way.done {m u : Nat} {xs : List Val} {q : Bs} {TT : Option (List Val × Bs)} (h : Way m u u xs q false TT) : TT = some (xs, q) := by
  unfold Way at h
  dsimp only at h
  rw [← h, Nat.sub_self, rdMany]
  simp

set_option maxRecDepth 100000 in
set_option maxHeartbeats 4000000 in
theorem valueR_3z (D rb n c p0 : Nat) (A : Option Addr) (l : Bs) (w : World) (h : Rc w D rb A n c l p0 false) (hD : D ≤ w.heap.size) (dep : Int) (_m : Nat) (t : Bs) (hq : l.drop p0 = 3 :: t) (hdep : dep = 16) : Calls Try.prog 67 #[.pointer (some ⟨rb, 0, none⟩), .int .i64 dep] w (RetV (none) (0) D rb A n c l w) := by
  have hst := (Below.refl w.heap.size w).alloc (Nat.le_refl _) (.cells #[.int .i64 0, .int .i64 0, .string ⟨#[]⟩, .slice none 0 0] 85)
  have X := Box.new w [.int .i64 0, .int .i64 0, .string ⟨#[]⟩, .slice none 0 0] 85
  have hrb := h.lt
  have HR := Lib.hid (h.keep hst)
  have ST := Lib.hid hst
  have HD := Lib.hid hD
  have hne : rb ≠ w.heap.size := by omega
  have hne' : w.heap.size ≠ rb := by omega
  obtain ⟨hpn, hpx, hpt⟩ := drop_cons_lt h.2.2.1 hq
  clear hst h hD
  go_enter Try.func67, Try.ntmps67
  go_wp2_with fail
  refine (next_yes D rb n c p0 A l _ HR.out hpn).mono ?_
  rintro e w1 ⟨rfl, hR1, hg⟩
  rw [hpx]
  have X1 := X.same (hg.block _ X.lt (by intro e; injection e with e; omega))
  have HG1 := Lib.hid (grown_of ST.out hg)
  have HR1 := Lib.hid hR1
  replace hpt := Lib.hid hpt
  clear hg hR1 X HR ST hpx
  have ht1 : ∀ y r, rdNum 0 0 (l.drop (p0 + 1)) = some (y, r) → y < 18446744073709551616 := fun y r h => (rdNum_lt (by omega) (by decide) h).1
  have HT1 := Lib.hid ht1
  clear ht1
  go_wp2_with fail
  refine (numberR_any D rb n c A l (p0 + 1) _ HR1.out _ rfl).mono ?_
  intro e w2 hret
  obtain ⟨u, p, bd, rfl, hR2, hg2, hu, hm1, hm2⟩ := hret.any HT1.out
  have X2 := X1.same (hg2.block _ X1.lt (by intro e; injection e with e; omega))
  have HG2 := Lib.hid (grown_two HG1.out hg2)
  have HR2 := Lib.hid hR2
  rw [hpt.out] at hm1 hm2
  clear hret hR2 hg2 X1 HG1 HR1 HT1
  have y0 : w2.cell? ⟨rb, 0, none⟩ = some (.slice A n c) := HR2.out.1.cell 0
  have y1 : w2.cell? ⟨rb, 1, none⟩ = some (.int .i64 p) := HR2.out.1.cell 1
  have y2 : w2.cell? ⟨rb, 2, none⟩ = some (.bool bd) := HR2.out.1.cell 2
  have yf := HR2.out.1.free 2
  have yf1 := HR2.out.1.free 1
  have yz := HR2.out.lt
  have hpn2 := HR2.out.2.2.2
  have hnm : n ≤ 9223372036854775807 := by
    obtain ⟨_, _, _, hm⟩ := HR2.out.2.1.form
    rw [HR2.out.2.2.1] at hm
    unfold maxLen at hm
    exact hm
  have xf0 := X2.free 0
  have xc0 : w2.cell? ⟨w.heap.size, 0, none⟩ = some (.int .i64 0) := X2.cell 0
  have xf1 := X2.free 1
  have xc1 : w2.cell? ⟨w.heap.size, 1, none⟩ = some (.int .i64 0) := X2.cell 1
  have xf2 := X2.free 2
  have xc2 : w2.cell? ⟨w.heap.size, 2, none⟩ = some (.string ⟨#[]⟩) := X2.cell 2
  have xf3 := X2.free 3
  have xc3 : w2.cell? ⟨w.heap.size, 3, none⟩ = some (.slice none 0 0) := X2.cell 3
  have xz := X2.lt
  subst hdep
  rcases bd with _ | _
  rotate_left
  · have hn : rdNum 0 0 t = none := by
      rcases hn : rdNum 0 0 t with _ | ⟨y, r⟩
      · rfl
      · have := (hm1 y r hn).2.1
        cases this
    clear hm1 hm2 hn
    go_wp2
    go_quiet (fail)
    go_wp2
    clear y0 y1 y2 yf yf1 yz xf0 xf1 xf2 xf3 xz xc0 xc1 xc2 xc3
    have X3 := (X2.later (below_drewN (Below.refl w2.heap.size w2) nq)).other (a := ⟨rb, 2, none⟩) hne' (.bool true)
    have HG3 := grown_two (grown_drewN HG2.out nq) (grownBy_set (a := ⟨rb, 2, none⟩) (.bool true))
    have HR3 := (HR2.out.drewN nq).setBad true
    obtain ⟨XZ, HGZ, HRZ, HVZ⟩ := fin_value X3 HG3 HR3 (valsP_nil _ _ _) HD.out hne' (.int .i64 0) (.int .i64 0) (.string ⟨#[]⟩) (.slice none 0 0)
    generalize ((((((w2.drewN nq).setCell ⟨rb, 2, none⟩ (.bool true)).setCell ⟨w.heap.size, 0, none⟩ (.int .i64 0)).setCell ⟨w.heap.size, 1, none⟩ (.int .i64 0)).setCell ⟨w.heap.size, 2, none⟩ (.string ⟨#[]⟩)).setCell ⟨w.heap.size, 3, none⟩ (.slice none 0 0)) = Z at XZ HGZ HRZ HVZ ⊢
    have z0 : Z.cell? ⟨w.heap.size, 0, none⟩ = some (.int .i64 0) := XZ.cell 0
    have z1 : Z.cell? ⟨w.heap.size, 1, none⟩ = some (.int .i64 0) := XZ.cell 1
    have z2 : Z.cell? ⟨w.heap.size, 2, none⟩ = some (.string ⟨#[]⟩) := XZ.cell 2
    have z3 : Z.cell? ⟨w.heap.size, 3, none⟩ = some (.slice none 0 0) := XZ.cell 3
    refine bodyPost_ret (v := .agg #[.int .i64 0, .int .i64 0, .string ⟨#[]⟩, .slice none 0 0]) (by simp [results, Try.results67, go_sem, z0, z1, z2, z3]) rfl ?_
    exact ⟨HGZ, Val.zero, _, _, _, rfl, HVZ, HRZ, rfl⟩
  rcases hn : rdNum 0 0 t with _ | ⟨y, r⟩
  · have := hm2 hn
    cases this
  obtain ⟨huy, -, hpr⟩ := hm1 y r hn
  subst huy
  have hrl : r.length = n - p := by rw [← hpr, List.length_drop, HR2.out.2.2.1]
  have w1' : IntKind.i64.wrap ((n : Int) - (p : Int)) = (n : Int) - (p : Int) := by simp [IntKind.wrap, IntKind.bits, IntKind.signed]; omega
  have w2' : IntKind.u64.wrap ((n : Int) - (p : Int)) = (n : Int) - (p : Int) := by rw [wrap_u64']; omega
  clear hm1 hm2
  rcases Nat.lt_or_ge (n - p) u with hlt | hle
  · have d1 : decide ((n : Int) - (p : Int) < (u : Int)) = true := decide_eq_true (by omega)
    clear hn hrl hpr
    go_wp2
    go_quiet (fail)
    go_wp2
    clear y0 y1 y2 yf yf1 yz xf0 xf1 xf2 xf3 xz xc0 xc1 xc2 xc3
    have X3 := (X2.later (below_drewN (Below.refl w2.heap.size w2) nq)).other (a := ⟨rb, 2, none⟩) hne' (.bool true)
    have HG3 := grown_two (grown_drewN HG2.out nq) (grownBy_set (a := ⟨rb, 2, none⟩) (.bool true))
    have HR3 := (HR2.out.drewN nq).setBad true
    obtain ⟨XZ, HGZ, HRZ, HVZ⟩ := fin_value X3 HG3 HR3 (valsP_nil _ _ _) HD.out hne' (.int .i64 0) (.int .i64 0) (.string ⟨#[]⟩) (.slice none 0 0)
    generalize ((((((w2.drewN nq).setCell ⟨rb, 2, none⟩ (.bool true)).setCell ⟨w.heap.size, 0, none⟩ (.int .i64 0)).setCell ⟨w.heap.size, 1, none⟩ (.int .i64 0)).setCell ⟨w.heap.size, 2, none⟩ (.string ⟨#[]⟩)).setCell ⟨w.heap.size, 3, none⟩ (.slice none 0 0)) = Z at XZ HGZ HRZ HVZ ⊢
    have z0 : Z.cell? ⟨w.heap.size, 0, none⟩ = some (.int .i64 0) := XZ.cell 0
    have z1 : Z.cell? ⟨w.heap.size, 1, none⟩ = some (.int .i64 0) := XZ.cell 1
    have z2 : Z.cell? ⟨w.heap.size, 2, none⟩ = some (.string ⟨#[]⟩) := XZ.cell 2
    have z3 : Z.cell? ⟨w.heap.size, 3, none⟩ = some (.slice none 0 0) := XZ.cell 3
    refine bodyPost_ret (v := .agg #[.int .i64 0, .int .i64 0, .string ⟨#[]⟩, .slice none 0 0]) (by simp [results, Try.results67, go_sem, z0, z1, z2, z3]) rfl ?_
    exact ⟨HGZ, Val.zero, _, _, _, rfl, HVZ, HRZ, rfl⟩
  have d1 : decide ((n : Int) - (p : Int) < (u : Int)) = false := decide_eq_false (by omega)
  clear hn hrl hpr
  go_wp2
  go_quiet (fail)
  go_wp2
  clear y0 y1 y2 yf yf1 yz xf0 xf1 xf2 xf3 xz xc0 xc1 xc2 xc3
  have X3 := (X2.later (below_drewN (Below.refl w2.heap.size w2) nq)).other (a := ⟨rb, 2, none⟩) hne' (.bool true)
  have HG3 := grown_two (grown_drewN HG2.out nq) (grownBy_set (a := ⟨rb, 2, none⟩) (.bool true))
  have HR3 := (HR2.out.drewN nq).setBad true
  obtain ⟨XZ, HGZ, HRZ, HVZ⟩ := fin_value X3 HG3 HR3 (valsP_nil _ _ _) HD.out hne' (.int .i64 0) (.int .i64 0) (.string ⟨#[]⟩) (.slice none 0 0)
  generalize ((((((w2.drewN nq).setCell ⟨rb, 2, none⟩ (.bool true)).setCell ⟨w.heap.size, 0, none⟩ (.int .i64 0)).setCell ⟨w.heap.size, 1, none⟩ (.int .i64 0)).setCell ⟨w.heap.size, 2, none⟩ (.string ⟨#[]⟩)).setCell ⟨w.heap.size, 3, none⟩ (.slice none 0 0)) = Z at XZ HGZ HRZ HVZ ⊢
  have z0 : Z.cell? ⟨w.heap.size, 0, none⟩ = some (.int .i64 0) := XZ.cell 0
  have z1 : Z.cell? ⟨w.heap.size, 1, none⟩ = some (.int .i64 0) := XZ.cell 1
  have z2 : Z.cell? ⟨w.heap.size, 2, none⟩ = some (.string ⟨#[]⟩) := XZ.cell 2
  have z3 : Z.cell? ⟨w.heap.size, 3, none⟩ = some (.slice none 0 0) := XZ.cell 3
  refine bodyPost_ret (v := .agg #[.int .i64 0, .int .i64 0, .string ⟨#[]⟩, .slice none 0 0]) (by simp [results, Try.results67, go_sem, z0, z1, z2, z3]) rfl ?_
  exact ⟨HGZ, Val.zero, _, _, _, rfl, HVZ, HRZ, rfl⟩

set_option maxRecDepth 100000 in
set_option maxHeartbeats 4000000 in
theorem valueR_3 (D rb n c p0 : Nat) (A : Option Addr) (l : Bs) (w : World) (h : Rc w D rb A n c l p0 false) (hD : D ≤ w.heap.size) (dep : Int) (m : Nat) (t : Bs) (hq : l.drop p0 = 3 :: t) (hdep0 : 0 ≤ dep) (hdep : dep + ((m + 1 : Nat) : Int) = 16) (ih : VR m) (hn8 : n ≤ 100000000) (T : Option (Val × Bs)) (hT : Hid (((rdLen t).bind fun p => (rdMany (rdVal m) p.1 p.2).map fun q => (Val.mk 3 0 [] q.1, q.2)) = T)) : Calls Try.prog 67 #[.pointer (some ⟨rb, 0, none⟩), .int .i64 dep] w (RetV (T) (m + 1) D rb A n c l w) := by
  have hst := (Below.refl w.heap.size w).alloc (Nat.le_refl _) (.cells #[.int .i64 0, .int .i64 0, .string ⟨#[]⟩, .slice none 0 0] 85)
  have X := Box.new w [.int .i64 0, .int .i64 0, .string ⟨#[]⟩, .slice none 0 0] 85
  have hrb := h.lt
  have HR := Lib.hid (h.keep hst)
  have ST := Lib.hid hst
  have HD := Lib.hid hD
  have hne : rb ≠ w.heap.size := by omega
  have hne' : w.heap.size ≠ rb := by omega
  have IH := Lib.hid ih
  clear ih
  obtain ⟨hpn, hpx, hpt⟩ := drop_cons_lt h.2.2.1 hq
  clear hst h hD
  go_enter Try.func67, Try.ntmps67
  go_wp2_with fail
  refine (next_yes D rb n c p0 A l _ HR.out hpn).mono ?_
  rintro e w1 ⟨rfl, hR1, hg⟩
  rw [hpx]
  have X1 := X.same (hg.block _ X.lt (by intro e; injection e with e; omega))
  have HG1 := Lib.hid (grown_of ST.out hg)
  have HR1 := Lib.hid hR1
  replace hpt := Lib.hid hpt
  clear hg hR1 X HR ST hpx
  have ht1 : ∀ y r, rdNum 0 0 (l.drop (p0 + 1)) = some (y, r) → y < 18446744073709551616 := fun y r h => (rdNum_lt (by omega) (by decide) h).1
  have HT1 := Lib.hid ht1
  clear ht1
  go_wp2_with fail
  refine (numberR_any D rb n c A l (p0 + 1) _ HR1.out _ rfl).mono ?_
  intro e w2 hret
  obtain ⟨u, p, bd, rfl, hR2, hg2, hu, hm1, hm2⟩ := hret.any HT1.out
  have X2 := X1.same (hg2.block _ X1.lt (by intro e; injection e with e; omega))
  have HG2 := Lib.hid (grown_two HG1.out hg2)
  have HR2 := Lib.hid hR2
  rw [hpt.out] at hm1 hm2
  clear hret hR2 hg2 X1 HG1 HR1 HT1
  have y0 : w2.cell? ⟨rb, 0, none⟩ = some (.slice A n c) := HR2.out.1.cell 0
  have y1 : w2.cell? ⟨rb, 1, none⟩ = some (.int .i64 p) := HR2.out.1.cell 1
  have y2 : w2.cell? ⟨rb, 2, none⟩ = some (.bool bd) := HR2.out.1.cell 2
  have yf := HR2.out.1.free 2
  have yf1 := HR2.out.1.free 1
  have yz := HR2.out.lt
  have hpn2 := HR2.out.2.2.2
  have hnm : n ≤ 9223372036854775807 := by
    obtain ⟨_, _, _, hm⟩ := HR2.out.2.1.form
    rw [HR2.out.2.2.1] at hm
    unfold maxLen at hm
    exact hm
  have xf0 := X2.free 0
  have xc0 : w2.cell? ⟨w.heap.size, 0, none⟩ = some (.int .i64 0) := X2.cell 0
  have xf1 := X2.free 1
  have xc1 : w2.cell? ⟨w.heap.size, 1, none⟩ = some (.int .i64 0) := X2.cell 1
  have xf2 := X2.free 2
  have xc2 : w2.cell? ⟨w.heap.size, 2, none⟩ = some (.string ⟨#[]⟩) := X2.cell 2
  have xf3 := X2.free 3
  have xc3 : w2.cell? ⟨w.heap.size, 3, none⟩ = some (.slice none 0 0) := X2.cell 3
  have xz := X2.lt
  rcases bd with _ | _
  rotate_left
  · have hn : rdNum 0 0 t = none := by
      rcases hn : rdNum 0 0 t with _ | ⟨y, r⟩
      · rfl
      · have := (hm1 y r hn).2.1
        cases this
    obtain rfl : none = T := by rw [← hT.out, rdLen_none hn]; rfl
    clear hT
    clear hm1 hm2 hn
    go_wp2
    go_quiet (fail)
    go_wp2
    clear y0 y1 y2 yf yf1 yz xf0 xf1 xf2 xf3 xz xc0 xc1 xc2 xc3
    have X3 := (X2.later (below_drewN (Below.refl w2.heap.size w2) nq)).other (a := ⟨rb, 2, none⟩) hne' (.bool true)
    have HG3 := grown_two (grown_drewN HG2.out nq) (grownBy_set (a := ⟨rb, 2, none⟩) (.bool true))
    have HR3 := (HR2.out.drewN nq).setBad true
    obtain ⟨XZ, HGZ, HRZ, HVZ⟩ := fin_value X3 HG3 HR3 (valsP_nil _ _ _) HD.out hne' (.int .i64 0) (.int .i64 0) (.string ⟨#[]⟩) (.slice none 0 0)
    generalize ((((((w2.drewN nq).setCell ⟨rb, 2, none⟩ (.bool true)).setCell ⟨w.heap.size, 0, none⟩ (.int .i64 0)).setCell ⟨w.heap.size, 1, none⟩ (.int .i64 0)).setCell ⟨w.heap.size, 2, none⟩ (.string ⟨#[]⟩)).setCell ⟨w.heap.size, 3, none⟩ (.slice none 0 0)) = Z at XZ HGZ HRZ HVZ ⊢
    have z0 : Z.cell? ⟨w.heap.size, 0, none⟩ = some (.int .i64 0) := XZ.cell 0
    have z1 : Z.cell? ⟨w.heap.size, 1, none⟩ = some (.int .i64 0) := XZ.cell 1
    have z2 : Z.cell? ⟨w.heap.size, 2, none⟩ = some (.string ⟨#[]⟩) := XZ.cell 2
    have z3 : Z.cell? ⟨w.heap.size, 3, none⟩ = some (.slice none 0 0) := XZ.cell 3
    refine bodyPost_ret (v := .agg #[.int .i64 0, .int .i64 0, .string ⟨#[]⟩, .slice none 0 0]) (by simp [results, Try.results67, go_sem, z0, z1, z2, z3]) rfl ?_
    exact ⟨HGZ, Val.zero, _, _, _, rfl, HVZ, HRZ, rfl⟩
  rcases hn : rdNum 0 0 t with _ | ⟨y, r⟩
  · have := hm2 hn
    cases this
  obtain ⟨huy, -, hpr⟩ := hm1 y r hn
  subst huy
  have hrl : r.length = n - p := by rw [← hpr, List.length_drop, HR2.out.2.2.1]
  have w1' : IntKind.i64.wrap ((n : Int) - (p : Int)) = (n : Int) - (p : Int) := by simp [IntKind.wrap, IntKind.bits, IntKind.signed]; omega
  have w2' : IntKind.u64.wrap ((n : Int) - (p : Int)) = (n : Int) - (p : Int) := by rw [wrap_u64']; omega
  clear hm1 hm2
  rcases Nat.lt_or_ge (n - p) u with hlt | hle
  · have d1 : decide ((n : Int) - (p : Int) < (u : Int)) = true := decide_eq_true (by omega)
    obtain rfl : none = T := by rw [← hT.out, rdLen_over hn (by omega)]; rfl
    clear hT
    clear hn hrl hpr
    go_wp2
    go_quiet (fail)
    go_wp2
    clear y0 y1 y2 yf yf1 yz xf0 xf1 xf2 xf3 xz xc0 xc1 xc2 xc3
    have X3 := (X2.later (below_drewN (Below.refl w2.heap.size w2) nq)).other (a := ⟨rb, 2, none⟩) hne' (.bool true)
    have HG3 := grown_two (grown_drewN HG2.out nq) (grownBy_set (a := ⟨rb, 2, none⟩) (.bool true))
    have HR3 := (HR2.out.drewN nq).setBad true
    obtain ⟨XZ, HGZ, HRZ, HVZ⟩ := fin_value X3 HG3 HR3 (valsP_nil _ _ _) HD.out hne' (.int .i64 0) (.int .i64 0) (.string ⟨#[]⟩) (.slice none 0 0)
    generalize ((((((w2.drewN nq).setCell ⟨rb, 2, none⟩ (.bool true)).setCell ⟨w.heap.size, 0, none⟩ (.int .i64 0)).setCell ⟨w.heap.size, 1, none⟩ (.int .i64 0)).setCell ⟨w.heap.size, 2, none⟩ (.string ⟨#[]⟩)).setCell ⟨w.heap.size, 3, none⟩ (.slice none 0 0)) = Z at XZ HGZ HRZ HVZ ⊢
    have z0 : Z.cell? ⟨w.heap.size, 0, none⟩ = some (.int .i64 0) := XZ.cell 0
    have z1 : Z.cell? ⟨w.heap.size, 1, none⟩ = some (.int .i64 0) := XZ.cell 1
    have z2 : Z.cell? ⟨w.heap.size, 2, none⟩ = some (.string ⟨#[]⟩) := XZ.cell 2
    have z3 : Z.cell? ⟨w.heap.size, 3, none⟩ = some (.slice none 0 0) := XZ.cell 3
    refine bodyPost_ret (v := .agg #[.int .i64 0, .int .i64 0, .string ⟨#[]⟩, .slice none 0 0]) (by simp [results, Try.results67, go_sem, z0, z1, z2, z3]) rfl ?_
    exact ⟨HGZ, Val.zero, _, _, _, rfl, HVZ, HRZ, rfl⟩
  have d1 : decide ((n : Int) - (p : Int) < (u : Int)) = false := decide_eq_false (by omega)
  have hT0 : Hid (((rdMany (rdVal m) u r).map fun q => (Val.mk 3 0 [] q.1, q.2)) = T) := by rw [Hid, ← hT.out, rdLen_of hn (by omega)]; rfl
  have e16 : (dep == 16) = false := by simp; omega
  have huo : u ≤ 100000000 := by omega
  clear hn hrl hT
  go_wp2
  go_quiet (fail)
  clear y0 y1 y2 yf yf1 yz xf0 xf1 xf2 xf3 xz xc0 xc1 xc2 xc3
  have X3 := X2.later (below_drewN (Below.refl w2.heap.size w2) nq)
  have HG3 := Lib.hid (grown_drewN HG2.out nq)
  have HR3 := Lib.hid (HR2.out.drewN nq)
  generalize w2.drewN nq = W at X3 HG3 HR3 ⊢
  have hst := (Below.refl W.heap.size W).alloc (Nat.le_refl _) (.cells #[.int .i64 3, .int .i64 0, .string ⟨#[]⟩, .slice none 0 0] 85)
  have Y := Box.new W [.int .i64 3, .int .i64 0, .string ⟨#[]⟩, .slice none 0 0] 85
  have hvb : w.heap.size + 1 ≤ W.heap.size := X3.lt
  have X4 := X3.later hst
  have HR4 := Lib.hid (HR3.out.keep hst)
  have HG4 := Lib.hid (grown_two HG3.out (grown_of hst (grownBy_refl _ _)))
  obtain ⟨TT, hTT⟩ : ∃ TT, rdMany (rdVal m) u r = TT := ⟨_, rfl⟩
  rw [hTT] at hT0
  have HW : Hid (Way m u 0 [] (l.drop p) false TT) := by
    rw [Hid, Way]
    rw [Nat.sub_zero, hpr, hTT]
    cases TT <;> rfl
  clear hst X2 X3 HG2 HG3 HR2 HR3 hTT hpr
  go_wp2_with fail
  generalize hve : W.heap.size = vb at hvb Y ⊢
  clear hve
  go_loopw [9] (fun i wr => ∃ (k : Nat) (xs : List Val) (V : Value) (p : Nat) (bd : Bool), k ≤ u ∧ i = .int .u64 k ∧ Hid (xs.length = k) ∧ Hid (OwnVals wr (vb + 1) m V xs) ∧ Box wr vb [.int .i64 3, .int .i64 0, .string ⟨#[]⟩, V] ∧ Box wr w.heap.size [.int .i64 0, .int .i64 0, .string ⟨#[]⟩, .slice none 0 0] ∧ Hid (Rc wr D rb A n c l p bd) ∧ Hid (w.grownBy wr (some rb)) ∧ Hid (Way m u k xs (l.drop p) bd TT)) (fun i _ => u - (intOf i).toNat)
  case atStart => exact ⟨0, [], .slice none 0 0, p, false, Nat.zero_le _, rfl, Lib.hid rfl, Lib.hid (ownVals_nil _ _ m), Y, X4, HR4, HG4, HW⟩
  case round =>
    clear Y X4 HR4 HG4 HW w1' w2' hle d1 e16
    have hvb' : w.heap.size ≤ vb := by omega
    have hvr : vb ≠ rb := by omega
    have hxv : w.heap.size ≠ vb := by omega
    clear hpn2
    obtain ⟨k, xs, V, p, bd, hk, rfl, hxl, HO, Y, X, HR, HG, HW⟩ := hrel
    obtain ⟨AV, cv, hVe⟩ := HO.out.form
    rw [hxl.out] at hVe
    subst hVe
    rcases bd with _ | _
    rotate_left
    · have hTn : none = TT := HW.out
      subst hTn
      have hT3 : none = T := hT0.out
      subst hT3
      rcases Nat.lt_or_ge k u with hlt | hge
      · skip
        have HV := Lib.hid ((HO.out.done (by rw [hxl.out]; unfold maxLen; omega)).weak (S' := fun b => w.heap.size + 1 ≤ b) fun b hb _ => Nat.le_trans hvb (Nat.le_trans (Nat.le_succ vb) hb))
        have yz := Y.lt
        have xz := X.lt
        have g2 : wr.cell? ⟨rb, 2, none⟩ = some (.bool true) := HR.out.1.cell 2
        have gz := HR.out.lt
        have v0 : wr.cell? ⟨vb, 0, none⟩ = some (.int .i64 3) := Y.cell 0
        have v1 : wr.cell? ⟨vb, 1, none⟩ = some (.int .i64 0) := Y.cell 1
        have v2 : wr.cell? ⟨vb, 2, none⟩ = some (.string ⟨#[]⟩) := Y.cell 2
        have v3 : wr.cell? ⟨vb, 3, none⟩ = some (.slice AV k cv) := Y.cell 3
        have xf0 := X.free 0
        have xc0 : wr.cell? ⟨w.heap.size, 0, none⟩ = some (.int .i64 0) := X.cell 0
        have xf1 := X.free 1
        have xc1 : wr.cell? ⟨w.heap.size, 1, none⟩ = some (.int .i64 0) := X.cell 1
        have xf2 := X.free 2
        have xc2 : wr.cell? ⟨w.heap.size, 2, none⟩ = some (.string ⟨#[]⟩) := X.cell 2
        have xf3 := X.free 3
        have xc3 : wr.cell? ⟨w.heap.size, 3, none⟩ = some (.slice none 0 0) := X.cell 3
        skip
        clear HO Y HW
        go_wp2
        clear v0 v1 v2 v3 g2 gz yz xf0 xf1 xf2 xf3 xz xc0 xc1 xc2 xc3
        obtain ⟨XZ, HGZ, HRZ, HVZ⟩ := fin_value X HG.out HR.out (HV.out) HD.out hne' (.int .i64 3) (.int .i64 0) (.string ⟨#[]⟩) (.slice AV k cv)
        generalize ((((wr.setCell ⟨w.heap.size, 0, none⟩ (.int .i64 3)).setCell ⟨w.heap.size, 1, none⟩ (.int .i64 0)).setCell ⟨w.heap.size, 2, none⟩ (.string ⟨#[]⟩)).setCell ⟨w.heap.size, 3, none⟩ (.slice AV k cv)) = Z at XZ HGZ HRZ HVZ ⊢
        have z0 : Z.cell? ⟨w.heap.size, 0, none⟩ = some (.int .i64 3) := XZ.cell 0
        have z1 : Z.cell? ⟨w.heap.size, 1, none⟩ = some (.int .i64 0) := XZ.cell 1
        have z2 : Z.cell? ⟨w.heap.size, 2, none⟩ = some (.string ⟨#[]⟩) := XZ.cell 2
        have z3 : Z.cell? ⟨w.heap.size, 3, none⟩ = some (.slice AV k cv) := XZ.cell 3
        refine bodyPost_ret (v := .agg #[.int .i64 3, .int .i64 0, .string ⟨#[]⟩, .slice AV k cv]) (by simp [results, Try.results67, go_sem, z0, z1, z2, z3]) rfl ?_
        exact ⟨HGZ, Val.mk 3 0 [] xs, .slice AV k cv, _, _, rfl, HVZ, HRZ, rfl⟩
      · skip
        have HV := Lib.hid ((HO.out.done (by rw [hxl.out]; unfold maxLen; omega)).weak (S' := fun b => w.heap.size + 1 ≤ b) fun b hb _ => Nat.le_trans hvb (Nat.le_trans (Nat.le_succ vb) hb))
        have yz := Y.lt
        have xz := X.lt
        have g2 : wr.cell? ⟨rb, 2, none⟩ = some (.bool true) := HR.out.1.cell 2
        have gz := HR.out.lt
        have v0 : wr.cell? ⟨vb, 0, none⟩ = some (.int .i64 3) := Y.cell 0
        have v1 : wr.cell? ⟨vb, 1, none⟩ = some (.int .i64 0) := Y.cell 1
        have v2 : wr.cell? ⟨vb, 2, none⟩ = some (.string ⟨#[]⟩) := Y.cell 2
        have v3 : wr.cell? ⟨vb, 3, none⟩ = some (.slice AV k cv) := Y.cell 3
        have xf0 := X.free 0
        have xc0 : wr.cell? ⟨w.heap.size, 0, none⟩ = some (.int .i64 0) := X.cell 0
        have xf1 := X.free 1
        have xc1 : wr.cell? ⟨w.heap.size, 1, none⟩ = some (.int .i64 0) := X.cell 1
        have xf2 := X.free 2
        have xc2 : wr.cell? ⟨w.heap.size, 2, none⟩ = some (.string ⟨#[]⟩) := X.cell 2
        have xf3 := X.free 3
        have xc3 : wr.cell? ⟨w.heap.size, 3, none⟩ = some (.slice none 0 0) := X.cell 3
        skip
        clear HO Y HW
        go_wp2
        clear v0 v1 v2 v3 g2 gz yz xf0 xf1 xf2 xf3 xz xc0 xc1 xc2 xc3
        obtain ⟨XZ, HGZ, HRZ, HVZ⟩ := fin_value X HG.out HR.out (HV.out) HD.out hne' (.int .i64 3) (.int .i64 0) (.string ⟨#[]⟩) (.slice AV k cv)
        generalize ((((wr.setCell ⟨w.heap.size, 0, none⟩ (.int .i64 3)).setCell ⟨w.heap.size, 1, none⟩ (.int .i64 0)).setCell ⟨w.heap.size, 2, none⟩ (.string ⟨#[]⟩)).setCell ⟨w.heap.size, 3, none⟩ (.slice AV k cv)) = Z at XZ HGZ HRZ HVZ ⊢
        have z0 : Z.cell? ⟨w.heap.size, 0, none⟩ = some (.int .i64 3) := XZ.cell 0
        have z1 : Z.cell? ⟨w.heap.size, 1, none⟩ = some (.int .i64 0) := XZ.cell 1
        have z2 : Z.cell? ⟨w.heap.size, 2, none⟩ = some (.string ⟨#[]⟩) := XZ.cell 2
        have z3 : Z.cell? ⟨w.heap.size, 3, none⟩ = some (.slice AV k cv) := XZ.cell 3
        refine bodyPost_ret (v := .agg #[.int .i64 3, .int .i64 0, .string ⟨#[]⟩, .slice AV k cv]) (by simp [results, Try.results67, go_sem, z0, z1, z2, z3]) rfl ?_
        exact ⟨HGZ, Val.mk 3 0 [] xs, .slice AV k cv, _, _, rfl, HVZ, HRZ, rfl⟩
    by_cases hlt : k < u
    · have y3 : wr.cell? ⟨vb, 3, none⟩ = some (.slice AV k cv) := Y.cell 3
      have y3' : wr.drew.cell? ⟨vb, 3, none⟩ = some (.slice AV k cv) := Y.cell 3
      have yz := Y.lt
      have g2 : wr.cell? ⟨rb, 2, none⟩ = some (.bool false) := HR.out.1.cell 2
      have gz := HR.out.lt
      have hwr : IntKind.i64.wrap (dep + 1) = dep + 1 := by simp [IntKind.wrap, IntKind.bits, IntKind.signed]; omega
      have HC := fun (z : World) (hz : Below wr.heap.size wr z) => IH.out D rb n c p A l z (dep + 1) _ (HR.out.keep hz) (Nat.le_trans HD.out (Nat.le_trans HG.out.size hz.size)) hn8 (by omega) (by omega) (Lib.hid rfl)
      replace HC := Lib.hid HC
      have hrow : ∀ g, Value.ownBlock (.slice AV k cv) = some g → g < wr.heap.size := fun g hg => (HO.out.lt hg).2
      have HROW := Lib.hid hrow
      have hBw : vb + 1 ≤ wr.heap.size := yz
      clear hrow
      go_wp2_with fail
      refine wp_region_any (by kernel_rfl) ?_
      change wpAny _ _ _ _ _ _ _ (World.drew _)
      refine wpAny_take (i := 0) (v := ?_) rfl (by kernel_rfl) (by kernel_rfl) (by kernel_rfl) (fun _ _ _ h => h) (Or.inl ⟨by rfl, ?_⟩) ?_
      rotate_left
      · intro wz; go_simp; try with_reducible rfl
      refine wpAny_take (i := 2) (v := ?_) rfl (by kernel_rfl) (by kernel_rfl) (by kernel_rfl) (fun _ _ _ h => h) (Or.inl ⟨by rfl, ?_⟩) ?_
      rotate_left
      · intro wz; go_simp; try with_reducible rfl
      refine wpAny_take (i := 3) (v := ?_) rfl (by kernel_rfl) (by kernel_rfl) (by kernel_rfl) (fun _ _ _ h => h) (Or.inl ⟨by rfl, ?_⟩) ?_
      rotate_left
      · intro wz; go_simp; try with_reducible rfl
      refine wpAny_take (i := 4) (v := ?_) rfl (by kernel_rfl) (by kernel_rfl) (by kernel_rfl) (fun _ _ _ h => h) (Or.inl ⟨by rfl, ?_⟩) ?_
      rotate_left
      · intro wz; go_simp; try with_reducible rfl
      refine wpAny_ready (rs := [1, 5]) (by kernel_rfl) (by simp) ?_
      refine (AllReady.cons rfl (fun K hK => ?_) (AllReady.cons rfl (fun K hK => ?_) AllReady.nil))
      · go_simp
        refine hK _ _ ?_
        clear hK K
        refine wpAny_ready (rs := [5]) (by kernel_rfl) (by simp) ?_
        refine (AllReady.cons rfl (fun K hK => ?_) AllReady.nil)
        · go_simp
          refine (HC.out _ ((Below.refl _ _).drew)).mono ?_
          intro e w4 hret
          obtain ⟨hg, x, L, p2, bd2, rfl, hL, hR4, hmt⟩ := hret
          obtain ⟨Ax, cx, rfl, _⟩ := hL.form
          have HW2 : Hid (Way m u (k + 1) (xs ++ [x]) (l.drop p2) bd2 TT) := Lib.hid (HW.out.step hlt hmt)
          have HXL2 : Hid ((xs ++ [x]).length = k + 1) := by rw [Hid, List.length_append, hxl.out]; rfl
          obtain ⟨v5, w5, hr5, hO5, hg5⟩ := app_val (W0 := wr.heap.size) (x := x) (((HO.out.keep (r := rb) (by omega) (w' := w4) (grown_of (Below.refl _ _).drew hg))).below ((Below.refl w4.heap.size w4).alloc (Nat.le_refl _) (.cells #[.int .i64 x.kind, .int .i64 x.num, .string (strB x.str), .slice Ax x.elems.length cx] 85))) (Box.new w4 [.int .i64 x.kind, .int .i64 x.num, .string (strB x.str), .slice Ax x.elems.length cx] 85) ((hL.keep (Keeps.of ((Below.refl w4.heap.size w4).alloc (Nat.le_refl _) (.cells #[.int .i64 x.kind, .int .i64 x.num, .string (strB x.str), .slice Ax x.elems.length cx] 85))))) hBw HROW.out (by have := hg.size; simp at this ⊢; omega) (by rw [hxl.out]; omega)
          obtain ⟨A5, c5, hv5⟩ := hO5.form
          rw [HXL2.out] at hv5
          subst hv5
          have Y4 := Y.same (w' := w4) (hg.block vb yz (by intro e; injection e with e; omega))
          have X4 := X.same (w' := w4) (hg.block w.heap.size X.lt (by intro e; injection e with e; omega))
          have y4 : w4.cell? ⟨vb, 3, none⟩ = some (.slice AV k cv) := Y4.cell 3
          have yz4 : vb < w4.heap.size := Y4.lt
          refine hK _ _ ?_
          clear hK K
          refine wpAny_ready (rs := [6]) (by kernel_rfl) (by simp) ?_
          refine (AllReady.cons rfl (fun K hK => ?_) AllReady.nil)
          · go_simp
            refine hK _ _ ?_
            clear hK K
            refine wpAny_ready (rs := [7]) (by kernel_rfl) (by simp) ?_
            refine (AllReady.cons rfl (fun K hK => ?_) AllReady.nil)
            · refine step_app (by rfl) _ _ _ (by rfl) _ _ (by rfl) (by rfl) hr5 ?_
              refine hK _ _ ?_
              clear hK K
              have Y5 := (Y4.alloc (.cells #[.int .i64 x.kind, .int .i64 x.num, .string (strB x.str), .slice Ax x.elems.length cx] 85)).same (w' := w5) (hg5.block vb (by simp; omega) (fun e => by have := (HO.out.lt e.symm).1; omega))
              have X5 := (X4.alloc (.cells #[.int .i64 x.kind, .int .i64 x.num, .string (strB x.str), .slice Ax x.elems.length cx] 85)).same (w' := w5) (hg5.block w.heap.size (by simp; omega) (fun e => by have := (HO.out.lt e.symm).1; omega))
              have y5 : w5.cell? ⟨vb, 3, none⟩ = some (.slice AV k cv) := Y5.cell 3
              have f5 := Y5.free 3
              have yz5 := Y5.lt
              refine wpAny_ready (rs := [8]) (by kernel_rfl) (by simp) ?_
              refine (AllReady.cons rfl (fun K hK => ?_) AllReady.nil)
              · go_simp
                refine hK _ _ ?_
                clear hK K
                refine wpAny_ready (rs := [9]) (by kernel_rfl) (by simp) ?_
                refine (AllReady.cons rfl (fun K hK => ?_) AllReady.nil)
                · go_simp
                  refine hK _ _ ?_
                  clear hK K
                  refine wpAny_done (by kernel_rfl) ?_ _
                  have HO6 := Lib.hid (hO5.set_other (by omega) (a := ⟨vb, 3, none⟩) (Nat.lt_succ_self _) (.slice A5 (k + 1) c5))
                  have Y6 := Y5.set 3 (.slice A5 (k + 1) c5)
                  have X6 := X5.other (a := ⟨vb, 3, none⟩) hxv (.slice A5 (k + 1) c5)
                  have hg6 : w.grownBy w5 (some rb) := Rd.grown_row (grown_two HG.out (grown_of (Below.refl _ _).drew hg)) hg5 (fun g hgo => by have := (HO.out.lt hgo).1; omega)
                  have HG6 := Lib.hid (grown_set hg6 (a := ⟨vb, 3, none⟩) hvb' (.slice A5 (k + 1) c5))
                  have HR6 := Lib.hid (((hR4.keep ((Below.refl w4.heap.size w4).alloc (Nat.le_refl _) (.cells #[.int .i64 x.kind, .int .i64 x.num, .string (strB x.str), .slice Ax x.elems.length cx] 85))).keepG hg5 (fun g hgo => by have := (HO.out.lt hgo).1; have := HD.out; omega)).setX (a := ⟨vb, 3, none⟩) (Nat.le_trans HD.out hvb') hvr (.slice A5 (k + 1) c5))
                  clear hL hR4 hg hg5 hr5 hO5 X4 y4 yz4 X5 Y4 Y5 y5 f5 yz5 hg6 HO X Y HR HG HC HROW y3 y3' yz hmt HW
                  go_wp2
                  exact ⟨⟨k + 1, xs ++ [x], _, p2, bd2, by omega, by go_num, HXL2, HO6, Y6, X6, HR6, HG6, HW2⟩, by simp [intOf]; omega⟩
      · go_simp
        refine (HC.out _ ((Below.refl _ _).drew)).mono ?_
        intro e w4 hret
        obtain ⟨hg, x, L, p2, bd2, rfl, hL, hR4, hmt⟩ := hret
        obtain ⟨Ax, cx, rfl, _⟩ := hL.form
        have HW2 : Hid (Way m u (k + 1) (xs ++ [x]) (l.drop p2) bd2 TT) := Lib.hid (HW.out.step hlt hmt)
        have HXL2 : Hid ((xs ++ [x]).length = k + 1) := by rw [Hid, List.length_append, hxl.out]; rfl
        obtain ⟨v5, w5, hr5, hO5, hg5⟩ := app_val (W0 := wr.heap.size) (x := x) (((HO.out.keep (r := rb) (by omega) (w' := w4) (grown_of (Below.refl _ _).drew hg))).below ((Below.refl w4.heap.size w4).alloc (Nat.le_refl _) (.cells #[.int .i64 x.kind, .int .i64 x.num, .string (strB x.str), .slice Ax x.elems.length cx] 85))) (Box.new w4 [.int .i64 x.kind, .int .i64 x.num, .string (strB x.str), .slice Ax x.elems.length cx] 85) ((hL.keep (Keeps.of ((Below.refl w4.heap.size w4).alloc (Nat.le_refl _) (.cells #[.int .i64 x.kind, .int .i64 x.num, .string (strB x.str), .slice Ax x.elems.length cx] 85))))) hBw HROW.out (by have := hg.size; simp at this ⊢; omega) (by rw [hxl.out]; omega)
        obtain ⟨A5, c5, hv5⟩ := hO5.form
        rw [HXL2.out] at hv5
        subst hv5
        have Y4 := Y.same (w' := w4) (hg.block vb yz (by intro e; injection e with e; omega))
        have X4 := X.same (w' := w4) (hg.block w.heap.size X.lt (by intro e; injection e with e; omega))
        have y4 : w4.cell? ⟨vb, 3, none⟩ = some (.slice AV k cv) := Y4.cell 3
        have yz4 : vb < w4.heap.size := Y4.lt
        refine hK _ _ ?_
        clear hK K
        refine wpAny_ready (rs := [1, 6]) (by kernel_rfl) (by simp) ?_
        refine (AllReady.cons rfl (fun K hK => ?_) (AllReady.cons rfl (fun K hK => ?_) AllReady.nil))
        · go_simp
          refine hK _ _ ?_
          clear hK K
          refine wpAny_ready (rs := [6]) (by kernel_rfl) (by simp) ?_
          refine (AllReady.cons rfl (fun K hK => ?_) AllReady.nil)
          · go_simp
            refine hK _ _ ?_
            clear hK K
            refine wpAny_ready (rs := [7]) (by kernel_rfl) (by simp) ?_
            refine (AllReady.cons rfl (fun K hK => ?_) AllReady.nil)
            · refine step_app (by rfl) _ _ _ (by rfl) _ _ (by rfl) (by rfl) hr5 ?_
              refine hK _ _ ?_
              clear hK K
              have Y5 := (Y4.alloc (.cells #[.int .i64 x.kind, .int .i64 x.num, .string (strB x.str), .slice Ax x.elems.length cx] 85)).same (w' := w5) (hg5.block vb (by simp; omega) (fun e => by have := (HO.out.lt e.symm).1; omega))
              have X5 := (X4.alloc (.cells #[.int .i64 x.kind, .int .i64 x.num, .string (strB x.str), .slice Ax x.elems.length cx] 85)).same (w' := w5) (hg5.block w.heap.size (by simp; omega) (fun e => by have := (HO.out.lt e.symm).1; omega))
              have y5 : w5.cell? ⟨vb, 3, none⟩ = some (.slice AV k cv) := Y5.cell 3
              have f5 := Y5.free 3
              have yz5 := Y5.lt
              refine wpAny_ready (rs := [8]) (by kernel_rfl) (by simp) ?_
              refine (AllReady.cons rfl (fun K hK => ?_) AllReady.nil)
              · go_simp
                refine hK _ _ ?_
                clear hK K
                refine wpAny_ready (rs := [9]) (by kernel_rfl) (by simp) ?_
                refine (AllReady.cons rfl (fun K hK => ?_) AllReady.nil)
                · go_simp
                  refine hK _ _ ?_
                  clear hK K
                  refine wpAny_done (by kernel_rfl) ?_ _
                  have HO6 := Lib.hid (hO5.set_other (by omega) (a := ⟨vb, 3, none⟩) (Nat.lt_succ_self _) (.slice A5 (k + 1) c5))
                  have Y6 := Y5.set 3 (.slice A5 (k + 1) c5)
                  have X6 := X5.other (a := ⟨vb, 3, none⟩) hxv (.slice A5 (k + 1) c5)
                  have hg6 : w.grownBy w5 (some rb) := Rd.grown_row (grown_two HG.out (grown_of (Below.refl _ _).drew hg)) hg5 (fun g hgo => by have := (HO.out.lt hgo).1; omega)
                  have HG6 := Lib.hid (grown_set hg6 (a := ⟨vb, 3, none⟩) hvb' (.slice A5 (k + 1) c5))
                  have HR6 := Lib.hid (((hR4.keep ((Below.refl w4.heap.size w4).alloc (Nat.le_refl _) (.cells #[.int .i64 x.kind, .int .i64 x.num, .string (strB x.str), .slice Ax x.elems.length cx] 85))).keepG hg5 (fun g hgo => by have := (HO.out.lt hgo).1; have := HD.out; omega)).setX (a := ⟨vb, 3, none⟩) (Nat.le_trans HD.out hvb') hvr (.slice A5 (k + 1) c5))
                  clear hL hR4 hg hg5 hr5 hO5 X4 y4 yz4 X5 Y4 Y5 y5 f5 yz5 hg6 HO X Y HR HG HC HROW y3 y3' yz hmt HW
                  go_wp2
                  exact ⟨⟨k + 1, xs ++ [x], _, p2, bd2, by omega, by go_num, HXL2, HO6, Y6, X6, HR6, HG6, HW2⟩, by simp [intOf]; omega⟩
        · go_simp
          refine hK _ _ ?_
          clear hK K
          refine wpAny_ready (rs := [1]) (by kernel_rfl) (by simp) ?_
          refine (AllReady.cons rfl (fun K hK => ?_) AllReady.nil)
          · go_simp
            refine hK _ _ ?_
            clear hK K
            refine wpAny_ready (rs := [7]) (by kernel_rfl) (by simp) ?_
            refine (AllReady.cons rfl (fun K hK => ?_) AllReady.nil)
            · refine step_app (by rfl) _ _ _ (by rfl) _ _ (by rfl) (by rfl) hr5 ?_
              refine hK _ _ ?_
              clear hK K
              have Y5 := (Y4.alloc (.cells #[.int .i64 x.kind, .int .i64 x.num, .string (strB x.str), .slice Ax x.elems.length cx] 85)).same (w' := w5) (hg5.block vb (by simp; omega) (fun e => by have := (HO.out.lt e.symm).1; omega))
              have X5 := (X4.alloc (.cells #[.int .i64 x.kind, .int .i64 x.num, .string (strB x.str), .slice Ax x.elems.length cx] 85)).same (w' := w5) (hg5.block w.heap.size (by simp; omega) (fun e => by have := (HO.out.lt e.symm).1; omega))
              have y5 : w5.cell? ⟨vb, 3, none⟩ = some (.slice AV k cv) := Y5.cell 3
              have f5 := Y5.free 3
              have yz5 := Y5.lt
              refine wpAny_ready (rs := [8]) (by kernel_rfl) (by simp) ?_
              refine (AllReady.cons rfl (fun K hK => ?_) AllReady.nil)
              · go_simp
                refine hK _ _ ?_
                clear hK K
                refine wpAny_ready (rs := [9]) (by kernel_rfl) (by simp) ?_
                refine (AllReady.cons rfl (fun K hK => ?_) AllReady.nil)
                · go_simp
                  refine hK _ _ ?_
                  clear hK K
                  refine wpAny_done (by kernel_rfl) ?_ _
                  have HO6 := Lib.hid (hO5.set_other (by omega) (a := ⟨vb, 3, none⟩) (Nat.lt_succ_self _) (.slice A5 (k + 1) c5))
                  have Y6 := Y5.set 3 (.slice A5 (k + 1) c5)
                  have X6 := X5.other (a := ⟨vb, 3, none⟩) hxv (.slice A5 (k + 1) c5)
                  have hg6 : w.grownBy w5 (some rb) := Rd.grown_row (grown_two HG.out (grown_of (Below.refl _ _).drew hg)) hg5 (fun g hgo => by have := (HO.out.lt hgo).1; omega)
                  have HG6 := Lib.hid (grown_set hg6 (a := ⟨vb, 3, none⟩) hvb' (.slice A5 (k + 1) c5))
                  have HR6 := Lib.hid (((hR4.keep ((Below.refl w4.heap.size w4).alloc (Nat.le_refl _) (.cells #[.int .i64 x.kind, .int .i64 x.num, .string (strB x.str), .slice Ax x.elems.length cx] 85))).keepG hg5 (fun g hgo => by have := (HO.out.lt hgo).1; have := HD.out; omega)).setX (a := ⟨vb, 3, none⟩) (Nat.le_trans HD.out hvb') hvr (.slice A5 (k + 1) c5))
                  clear hL hR4 hg hg5 hr5 hO5 X4 y4 yz4 X5 Y4 Y5 y5 f5 yz5 hg6 HO X Y HR HG HC HROW y3 y3' yz hmt HW
                  go_wp2
                  exact ⟨⟨k + 1, xs ++ [x], _, p2, bd2, by omega, by go_num, HXL2, HO6, Y6, X6, HR6, HG6, HW2⟩, by simp [intOf]; omega⟩
    · obtain rfl : k = u := by omega
      have hTd := HW.out.done
      subst hTd
      have hT3 : some (Val.mk 3 0 [] xs, l.drop p) = T := hT0.out
      subst hT3
      have HV := Lib.hid ((HO.out.done (by rw [hxl.out]; unfold maxLen; omega)).weak (S' := fun b => w.heap.size + 1 ≤ b) fun b hb _ => Nat.le_trans hvb (Nat.le_trans (Nat.le_succ vb) hb))
      have yz := Y.lt
      have xz := X.lt
      have g2 : wr.cell? ⟨rb, 2, none⟩ = some (.bool false) := HR.out.1.cell 2
      have gz := HR.out.lt
      have v0 : wr.cell? ⟨vb, 0, none⟩ = some (.int .i64 3) := Y.cell 0
      have v1 : wr.cell? ⟨vb, 1, none⟩ = some (.int .i64 0) := Y.cell 1
      have v2 : wr.cell? ⟨vb, 2, none⟩ = some (.string ⟨#[]⟩) := Y.cell 2
      have v3 : wr.cell? ⟨vb, 3, none⟩ = some (.slice AV k cv) := Y.cell 3
      have xf0 := X.free 0
      have xc0 : wr.cell? ⟨w.heap.size, 0, none⟩ = some (.int .i64 0) := X.cell 0
      have xf1 := X.free 1
      have xc1 : wr.cell? ⟨w.heap.size, 1, none⟩ = some (.int .i64 0) := X.cell 1
      have xf2 := X.free 2
      have xc2 : wr.cell? ⟨w.heap.size, 2, none⟩ = some (.string ⟨#[]⟩) := X.cell 2
      have xf3 := X.free 3
      have xc3 : wr.cell? ⟨w.heap.size, 3, none⟩ = some (.slice none 0 0) := X.cell 3
      skip
      clear HO Y HW
      go_wp2
      clear v0 v1 v2 v3 g2 gz yz xf0 xf1 xf2 xf3 xz xc0 xc1 xc2 xc3
      obtain ⟨XZ, HGZ, HRZ, HVZ⟩ := fin_value X HG.out HR.out (HV.out) HD.out hne' (.int .i64 3) (.int .i64 0) (.string ⟨#[]⟩) (.slice AV k cv)
      generalize ((((wr.setCell ⟨w.heap.size, 0, none⟩ (.int .i64 3)).setCell ⟨w.heap.size, 1, none⟩ (.int .i64 0)).setCell ⟨w.heap.size, 2, none⟩ (.string ⟨#[]⟩)).setCell ⟨w.heap.size, 3, none⟩ (.slice AV k cv)) = Z at XZ HGZ HRZ HVZ ⊢
      have z0 : Z.cell? ⟨w.heap.size, 0, none⟩ = some (.int .i64 3) := XZ.cell 0
      have z1 : Z.cell? ⟨w.heap.size, 1, none⟩ = some (.int .i64 0) := XZ.cell 1
      have z2 : Z.cell? ⟨w.heap.size, 2, none⟩ = some (.string ⟨#[]⟩) := XZ.cell 2
      have z3 : Z.cell? ⟨w.heap.size, 3, none⟩ = some (.slice AV k cv) := XZ.cell 3
      refine bodyPost_ret (v := .agg #[.int .i64 3, .int .i64 0, .string ⟨#[]⟩, .slice AV k cv]) (by simp [results, Try.results67, go_sem, z0, z1, z2, z3]) rfl ?_
      exact ⟨HGZ, Val.mk 3 0 [] xs, .slice AV k cv, _, _, rfl, HVZ, HRZ, ⟨rfl, rfl, rfl⟩⟩

end Go.Proofs.Ytmbifmmkccghfaa

/-
  The reference's Decode. No condition.
-/
namespace Go.Proofs.Ytmbifmmkccghfaa
open Go.RowKit
attribute [local go_sem ↓ high] app_named

theorem VR.all (m : Nat) : VR m := by
  induction m with
  | zero =>
    intro D rb n c p A l w dep T h hD hn8 h0 hdep hT
    rcases hq : l.drop p with _ | ⟨b0, t⟩
    · obtain rfl : none = T := by rw [← hT.out, hq, rdVal_nil]
      exact valueR_0 D rb n c p A l w h hD dep 0 (drop_nil_iff h.2.2.1 h.2.2.2 hq)
    · rw [hq] at hT
      by_cases h1 : b0 = 1
      · subst h1
        rw [rdVal_one] at hT
        rw [← hT.out]
        exact valueR_1 D rb n c p A l w h hD dep 0 t hq
      · by_cases h2 : b0 = 2
        · subst h2
          rw [rdVal_two] at hT
          exact valueR_2 D rb n c p A l w h hD dep 0 t hq T hT
        · by_cases h3 : b0 = 3
          · subst h3
            obtain rfl : none = T := by rw [← hT.out, rdVal_zero]
            exact valueR_3z D rb n c p A l w h hD dep 0 t hq (by simpa using hdep)
          · obtain rfl : none = T := by rw [← hT.out, rdVal_no 0 t h1 h2 h3]
            exact valueR_x D rb n c p A l w h hD dep 0 b0 t hq (fun e => h1 (UInt8.toNat_inj.1 e)) (fun e => h2 (UInt8.toNat_inj.1 e)) (fun e => h3 (UInt8.toNat_inj.1 e))
  | succ m ih =>
    intro D rb n c p A l w dep T h hD hn8 h0 hdep hT
    rcases hq : l.drop p with _ | ⟨b0, t⟩
    · obtain rfl : none = T := by rw [← hT.out, hq, rdVal_nil]
      exact valueR_0 D rb n c p A l w h hD dep (m + 1) (drop_nil_iff h.2.2.1 h.2.2.2 hq)
    · rw [hq] at hT
      by_cases h1 : b0 = 1
      · subst h1
        rw [rdVal_one] at hT
        rw [← hT.out]
        exact valueR_1 D rb n c p A l w h hD dep (m + 1) t hq
      · by_cases h2 : b0 = 2
        · subst h2
          rw [rdVal_two] at hT
          exact valueR_2 D rb n c p A l w h hD dep (m + 1) t hq T hT
        · by_cases h3 : b0 = 3
          · subst h3
            rw [rdVal_list] at hT
            exact valueR_3 D rb n c p A l w h hD dep m t hq h0 hdep ih hn8 T hT
          · obtain rfl : none = T := by rw [← hT.out, rdVal_no (m + 1) t h1 h2 h3]
            exact valueR_x D rb n c p A l w h hD dep (m + 1) b0 t hq (fun e => h1 (UInt8.toNat_inj.1 e)) (fun e => h2 (UInt8.toNat_inj.1 e)) (fun e => h3 (UInt8.toNat_inj.1 e))
end Go.Proofs.Ytmbifmmkccghfaa
