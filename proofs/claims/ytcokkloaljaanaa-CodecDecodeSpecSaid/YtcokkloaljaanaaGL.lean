/-
  The reference's reader: Value: all but lists. (Printed by gen_gl.py.)
-/
import Derived.Test.YtcokkloaljaanaaGK
import Derived.BigQuiet
namespace Go.Proofs.Ytcokkloaljaanaa
open Go.RowKit
attribute [local go_sem ↓ high] app_named

/-- What the reference's Value does. -/
def RetV (t : Option (Val × Bs)) (m D rb : Nat) (A : Option Addr) (n c : Nat) (l : Bs) (w : World) (e : Ending) (w' : World) : Prop :=
  w.grownBy w' (some rb) ∧ ∃ (x : Val) (L : Value) (p : Nat) (bd : Bool), e = .returned (x.v L) ∧ ValsP w' (fun b => w.heap.size ≤ b) m L x.elems ∧ Rc w' D rb A n c l p bd ∧ match t with
  | some (y, r) => bd = false ∧ x = y ∧ l.drop p = r
  | none => bd = true
theorem RetNumR.any {t : Option (Nat × Bs)} {D rb n c : Nat} {A : Option Addr} {l : Bs} {w : World} {e : Ending} {w' : World} (ht : ∀ y r, t = some (y, r) → y < 18446744073709551616) (h : RetNumR t D rb A n c l w e w') : ∃ (u p : Nat) (bd : Bool), e = .returned (.int .u64 u) ∧ Rc w' D rb A n c l p bd ∧ w.grownBy w' (some rb) ∧ u < 18446744073709551616 ∧ (∀ y r, t = some (y, r) → u = y ∧ bd = false ∧ l.drop p = r) ∧ (t = none → bd = true) := by
  obtain ⟨hg, h⟩ := h
  rcases t with _ | ⟨y, r⟩
  · obtain ⟨rfl, p, hR⟩ := h
    exact ⟨0, p, true, rfl, hR, hg, by decide, fun y r h => (by cases h), fun _ => rfl⟩
  · obtain ⟨rfl, p, hp, hR⟩ := h
    exact ⟨y, p, false, rfl, hR, hg, ht y r rfl, fun y1 r1 h => (by cases h; exact ⟨rfl, rfl, hp⟩), fun h => (by cases h)⟩
theorem Rc.setX {w : World} {D rb n c p : Nat} {A : Option Addr} {l : Bs} {bd : Bool} (h : Rc w D rb A n c l p bd) {a : Addr} (h1 : D ≤ a.block) (h2 : a.block ≠ rb) (v : Value) : Rc (w.setCell a v) D rb A n c l p bd :=
  h.keepG (grownBy_set (w := w) (a := a) v) fun k hk => by injection hk with hk; subst hk; exact ⟨h1, h2⟩
/-- The result is stored into its box. -/
theorem fin_value {w wp : World} {D rb n c p m : Nat} {A : Option Addr} {l : Bs} {bd : Bool} {xs : List Value} {L : Value} {es : List Val} (X : Box wp w.heap.size xs) (HG : w.grownBy wp (some rb)) (HR : Rc wp D rb A n c l p bd) (HV : ValsP wp (fun b => w.heap.size + 1 ≤ b) m L es) (hD : D ≤ w.heap.size) (hne : w.heap.size ≠ rb) (a0 a1 a2 a3 : Value) :
    Box ((((wp.setCell ⟨w.heap.size, 0, none⟩ a0).setCell ⟨w.heap.size, 1, none⟩ a1).setCell ⟨w.heap.size, 2, none⟩ a2).setCell ⟨w.heap.size, 3, none⟩ a3) w.heap.size ((((xs.set 0 a0).set 1 a1).set 2 a2).set 3 a3) ∧ w.grownBy ((((wp.setCell ⟨w.heap.size, 0, none⟩ a0).setCell ⟨w.heap.size, 1, none⟩ a1).setCell ⟨w.heap.size, 2, none⟩ a2).setCell ⟨w.heap.size, 3, none⟩ a3) (some rb) ∧ Rc ((((wp.setCell ⟨w.heap.size, 0, none⟩ a0).setCell ⟨w.heap.size, 1, none⟩ a1).setCell ⟨w.heap.size, 2, none⟩ a2).setCell ⟨w.heap.size, 3, none⟩ a3) D rb A n c l p bd ∧ ValsP ((((wp.setCell ⟨w.heap.size, 0, none⟩ a0).setCell ⟨w.heap.size, 1, none⟩ a1).setCell ⟨w.heap.size, 2, none⟩ a2).setCell ⟨w.heap.size, 3, none⟩ a3) (fun b => w.heap.size ≤ b) m L es := by
  refine ⟨(((X.set 0 a0).set 1 a1).set 2 a2).set 3 a3, ?_, (((HR.setX (a := ⟨w.heap.size, 0, none⟩) hD hne a0).setX (a := ⟨w.heap.size, 1, none⟩) hD hne a1).setX (a := ⟨w.heap.size, 2, none⟩) hD hne a2).setX (a := ⟨w.heap.size, 3, none⟩) hD hne a3, ?_⟩
  · exact grown_set (grown_set (grown_set (grown_set HG (a := ⟨w.heap.size, 0, none⟩) (Nat.le_refl _) a0) (a := ⟨w.heap.size, 1, none⟩) (Nat.le_refl _) a1) (a := ⟨w.heap.size, 2, none⟩) (Nat.le_refl _) a2) (a := ⟨w.heap.size, 3, none⟩) (Nat.le_refl _) a3
  · have no : ∀ j : Nat, ¬ (w.heap.size + 1 ≤ (⟨w.heap.size, j, none⟩ : Addr).block) := fun j hj => by
      have : w.heap.size + 1 ≤ w.heap.size := hj
      omega
    exact (((((HV.set (a := ⟨w.heap.size, 0, none⟩) (no 0) a0).set (a := ⟨w.heap.size, 1, none⟩) (no 1) a1).set (a := ⟨w.heap.size, 2, none⟩) (no 2) a2).set (a := ⟨w.heap.size, 3, none⟩) (no 3) a3).weak fun b hb _ => Nat.le_of_succ_le hb)

set_option maxRecDepth 100000 in
set_option maxHeartbeats 4000000 in
theorem valueR_0 (D rb n c p0 : Nat) (A : Option Addr) (l : Bs) (w : World) (h : Rc w D rb A n c l p0 false) (hD : D ≤ w.heap.size) (dep : Int) (m : Nat) (hp : p0 = n) : Calls Try.prog 34 #[.pointer (some ⟨rb, 0, none⟩), .int .i64 dep] w (RetV (none) (m) D rb A n c l w) := by
  have hst := (Below.refl w.heap.size w).alloc (Nat.le_refl _) (.cells #[.int .i64 0, .int .i64 0, .string ⟨#[]⟩, .slice none 0 0] 24)
  have X := Box.new w [.int .i64 0, .int .i64 0, .string ⟨#[]⟩, .slice none 0 0] 24
  have hrb := h.lt
  have HR := Lib.hid (h.keep hst)
  have ST := Lib.hid hst
  have HD := Lib.hid hD
  have hne : rb ≠ w.heap.size := by omega
  have hne' : w.heap.size ≠ rb := by omega
  clear hst h hD
  go_enter Try.func34, Try.ntmps34
  go_wp2_with fail
  refine (next_no D rb n c p0 A l _ HR.out hp).mono ?_
  rintro e w1 ⟨rfl, hR1, hg⟩
  have X1 := X.same (hg.block _ X.lt (by intro e; injection e with e; omega))
  have HG1 := Lib.hid (grown_of ST.out hg)
  have HR1 := Lib.hid hR1
  clear hg hR1 X HR ST
  have y2 : w1.cell? ⟨rb, 2, none⟩ = some (.bool true) := HR1.out.1.cell 2
  have yf := HR1.out.1.free 2
  have yz := HR1.out.lt
  have xf0 := X1.free 0
  have xc0 : w1.cell? ⟨w.heap.size, 0, none⟩ = some (.int .i64 0) := X1.cell 0
  have xf1 := X1.free 1
  have xc1 : w1.cell? ⟨w.heap.size, 1, none⟩ = some (.int .i64 0) := X1.cell 1
  have xf2 := X1.free 2
  have xc2 : w1.cell? ⟨w.heap.size, 2, none⟩ = some (.string ⟨#[]⟩) := X1.cell 2
  have xf3 := X1.free 3
  have xc3 : w1.cell? ⟨w.heap.size, 3, none⟩ = some (.slice none 0 0) := X1.cell 3
  have xz := X1.lt
  go_wp2
  clear y2 yf yz xf0 xf1 xf2 xf3 xz xc0 xc1 xc2 xc3
  have X2 := X1.other (a := ⟨rb, 2, none⟩) hne' (.bool true)
  have HG2 := grown_two HG1.out (grownBy_set (a := ⟨rb, 2, none⟩) (.bool true))
  have HR2 := HR1.out.setBad true
  obtain ⟨XZ, HGZ, HRZ, HVZ⟩ := fin_value X2 HG2 HR2 (valsP_nil _ _ m) HD.out hne' (.int .i64 0) (.int .i64 0) (.string ⟨#[]⟩) (.slice none 0 0)
  generalize (((((w1.setCell ⟨rb, 2, none⟩ (.bool true)).setCell ⟨w.heap.size, 0, none⟩ (.int .i64 0)).setCell ⟨w.heap.size, 1, none⟩ (.int .i64 0)).setCell ⟨w.heap.size, 2, none⟩ (.string ⟨#[]⟩)).setCell ⟨w.heap.size, 3, none⟩ (.slice none 0 0)) = Z at XZ HGZ HRZ HVZ ⊢
  have z0 : Z.cell? ⟨w.heap.size, 0, none⟩ = some (.int .i64 0) := XZ.cell 0
  have z1 : Z.cell? ⟨w.heap.size, 1, none⟩ = some (.int .i64 0) := XZ.cell 1
  have z2 : Z.cell? ⟨w.heap.size, 2, none⟩ = some (.string ⟨#[]⟩) := XZ.cell 2
  have z3 : Z.cell? ⟨w.heap.size, 3, none⟩ = some (.slice none 0 0) := XZ.cell 3
  refine bodyPost_ret (v := .agg #[.int .i64 0, .int .i64 0, .string ⟨#[]⟩, .slice none 0 0]) (by simp [results, Try.results34, go_sem, z0, z1, z2, z3]) rfl ?_
  exact ⟨HGZ, Val.zero, _, _, _, rfl, HVZ, HRZ, rfl⟩

set_option maxRecDepth 100000 in
set_option maxHeartbeats 4000000 in
theorem valueR_x (D rb n c p0 : Nat) (A : Option Addr) (l : Bs) (w : World) (h : Rc w D rb A n c l p0 false) (hD : D ≤ w.heap.size) (dep : Int) (m : Nat) (b0 : UInt8) (t : Bs) (hq : l.drop p0 = b0 :: t) (h1 : b0.toNat ≠ 1) (h2 : b0.toNat ≠ 2) (h3 : b0.toNat ≠ 3) : Calls Try.prog 34 #[.pointer (some ⟨rb, 0, none⟩), .int .i64 dep] w (RetV (none) (m) D rb A n c l w) := by
  have hst := (Below.refl w.heap.size w).alloc (Nat.le_refl _) (.cells #[.int .i64 0, .int .i64 0, .string ⟨#[]⟩, .slice none 0 0] 24)
  have X := Box.new w [.int .i64 0, .int .i64 0, .string ⟨#[]⟩, .slice none 0 0] 24
  have hrb := h.lt
  have HR := Lib.hid (h.keep hst)
  have ST := Lib.hid hst
  have HD := Lib.hid hD
  have hne : rb ≠ w.heap.size := by omega
  have hne' : w.heap.size ≠ rb := by omega
  obtain ⟨hpn, hpx, hpt⟩ := drop_cons_lt h.2.2.1 hq
  clear hst h hD
  go_enter Try.func34, Try.ntmps34
  go_wp2_with fail
  refine (next_yes D rb n c p0 A l _ HR.out hpn).mono ?_
  rintro e w1 ⟨rfl, hR1, hg⟩
  rw [hpx]
  have X1 := X.same (hg.block _ X.lt (by intro e; injection e with e; omega))
  have HG1 := Lib.hid (grown_of ST.out hg)
  have HR1 := Lib.hid hR1
  replace hpt := Lib.hid hpt
  clear hg hR1 X HR ST hpx
  have y2 : w1.cell? ⟨rb, 2, none⟩ = some (.bool false) := HR1.out.1.cell 2
  have yf := HR1.out.1.free 2
  have yz := HR1.out.lt
  generalize b0.toNat = bn at h1 h2 h3 ⊢
  have e1 : ((bn : Int) == 1) = false := by simp; omega
  have e2 : ((bn : Int) == 2) = false := by simp; omega
  have e3 : ((bn : Int) == 3) = false := by simp; omega
  have xf0 := X1.free 0
  have xc0 : w1.cell? ⟨w.heap.size, 0, none⟩ = some (.int .i64 0) := X1.cell 0
  have xf1 := X1.free 1
  have xc1 : w1.cell? ⟨w.heap.size, 1, none⟩ = some (.int .i64 0) := X1.cell 1
  have xf2 := X1.free 2
  have xc2 : w1.cell? ⟨w.heap.size, 2, none⟩ = some (.string ⟨#[]⟩) := X1.cell 2
  have xf3 := X1.free 3
  have xc3 : w1.cell? ⟨w.heap.size, 3, none⟩ = some (.slice none 0 0) := X1.cell 3
  have xz := X1.lt
  go_wp2
  clear y2 yf yz xf0 xf1 xf2 xf3 xz xc0 xc1 xc2 xc3
  have X2 := X1.other (a := ⟨rb, 2, none⟩) hne' (.bool true)
  have HG2 := grown_two HG1.out (grownBy_set (a := ⟨rb, 2, none⟩) (.bool true))
  have HR2 := HR1.out.setBad true
  obtain ⟨XZ, HGZ, HRZ, HVZ⟩ := fin_value X2 HG2 HR2 (valsP_nil _ _ m) HD.out hne' (.int .i64 0) (.int .i64 0) (.string ⟨#[]⟩) (.slice none 0 0)
  generalize (((((w1.setCell ⟨rb, 2, none⟩ (.bool true)).setCell ⟨w.heap.size, 0, none⟩ (.int .i64 0)).setCell ⟨w.heap.size, 1, none⟩ (.int .i64 0)).setCell ⟨w.heap.size, 2, none⟩ (.string ⟨#[]⟩)).setCell ⟨w.heap.size, 3, none⟩ (.slice none 0 0)) = Z at XZ HGZ HRZ HVZ ⊢
  have z0 : Z.cell? ⟨w.heap.size, 0, none⟩ = some (.int .i64 0) := XZ.cell 0
  have z1 : Z.cell? ⟨w.heap.size, 1, none⟩ = some (.int .i64 0) := XZ.cell 1
  have z2 : Z.cell? ⟨w.heap.size, 2, none⟩ = some (.string ⟨#[]⟩) := XZ.cell 2
  have z3 : Z.cell? ⟨w.heap.size, 3, none⟩ = some (.slice none 0 0) := XZ.cell 3
  refine bodyPost_ret (v := .agg #[.int .i64 0, .int .i64 0, .string ⟨#[]⟩, .slice none 0 0]) (by simp [results, Try.results34, go_sem, z0, z1, z2, z3]) rfl ?_
  exact ⟨HGZ, Val.zero, _, _, _, rfl, HVZ, HRZ, rfl⟩

set_option maxRecDepth 100000 in
set_option maxHeartbeats 4000000 in
theorem valueR_1 (D rb n c p0 : Nat) (A : Option Addr) (l : Bs) (w : World) (h : Rc w D rb A n c l p0 false) (hD : D ≤ w.heap.size) (dep : Int) (m : Nat) (t : Bs) (hq : l.drop p0 = 1 :: t) : Calls Try.prog 34 #[.pointer (some ⟨rb, 0, none⟩), .int .i64 dep] w (RetV ((rdNum 0 0 t).map fun p => (Val.mk 1 (zag p.1) [] [], p.2)) (m) D rb A n c l w) := by
  have hst := (Below.refl w.heap.size w).alloc (Nat.le_refl _) (.cells #[.int .i64 0, .int .i64 0, .string ⟨#[]⟩, .slice none 0 0] 24)
  have X := Box.new w [.int .i64 0, .int .i64 0, .string ⟨#[]⟩, .slice none 0 0] 24
  have hrb := h.lt
  have HR := Lib.hid (h.keep hst)
  have ST := Lib.hid hst
  have HD := Lib.hid hD
  have hne : rb ≠ w.heap.size := by omega
  have hne' : w.heap.size ≠ rb := by omega
  obtain ⟨hpn, hpx, hpt⟩ := drop_cons_lt h.2.2.1 hq
  clear hst h hD
  go_enter Try.func34, Try.ntmps34
  go_wp2_with fail
  refine (next_yes D rb n c p0 A l _ HR.out hpn).mono ?_
  rintro e w1 ⟨rfl, hR1, hg⟩
  rw [hpx]
  have X1 := X.same (hg.block _ X.lt (by intro e; injection e with e; omega))
  have HG1 := Lib.hid (grown_of ST.out hg)
  have HR1 := Lib.hid hR1
  replace hpt := Lib.hid hpt
  clear hg hR1 X HR ST hpx
  have ht1 : ∀ y r, rdNum 0 0 (l.drop (p0 + 1)) = some (y, r) → y < 18446744073709551616 := fun y r h => (rdNum_lt (by omega) (by decide) h).1
  have HT1 := Lib.hid ht1
  clear ht1
  go_wp2_with fail
  refine (numberR_any D rb n c A l (p0 + 1) _ HR1.out _ rfl).mono ?_
  intro e w2 hret
  obtain ⟨u, p, bd, rfl, hR2, hg2, hu, hm1, hm2⟩ := hret.any HT1.out
  have X2 := X1.same (hg2.block _ X1.lt (by intro e; injection e with e; omega))
  have HG2 := Lib.hid (grown_two HG1.out hg2)
  have HR2 := Lib.hid hR2
  have HM : Hid (match (rdNum 0 0 t).map fun p => (Val.mk 1 (zag p.1) [] [], p.2) with | some (y, r) => bd = false ∧ Val.mk 1 (zag u) [] [] = y ∧ l.drop p = r | none => bd = true) := by
    rw [hpt.out] at hm1 hm2
    rcases hn : rdNum 0 0 t with _ | ⟨y, r⟩
    · exact hm2 hn
    · obtain ⟨h1, h2, h3⟩ := hm1 y r hn
      subst h1
      exact ⟨h2, rfl, h3⟩
  clear hret hR2 hg2 hm1 hm2 X1 HG1 HR1 HT1
  have xf0 := X2.free 0
  have xc0 : w2.cell? ⟨w.heap.size, 0, none⟩ = some (.int .i64 0) := X2.cell 0
  have xf1 := X2.free 1
  have xc1 : w2.cell? ⟨w.heap.size, 1, none⟩ = some (.int .i64 0) := X2.cell 1
  have xf2 := X2.free 2
  have xc2 : w2.cell? ⟨w.heap.size, 2, none⟩ = some (.string ⟨#[]⟩) := X2.cell 2
  have xf3 := X2.free 3
  have xc3 : w2.cell? ⟨w.heap.size, 3, none⟩ = some (.slice none 0 0) := X2.cell 3
  have xz := X2.lt
  rcases Nat.mod_two_eq_zero_or_one u with ho | ho
  · have hz : zag u = ((u / 2 : Nat) : Int) := by rw [zag, if_neg (by omega)]
    have e1 : ((u : Int) % 2 == 1) = false := by simp; omega
    rw [hz] at HM
    have e2 : (u : Int) / 2 = ((u / 2 : Nat) : Int) := by omega
    have hu2 : u / 2 ≤ 9223372036854775807 := by omega
    generalize u / 2 = v at *
    have e3 : IntKind.i64.wrap (v : Int) = (v : Int) := by simp [IntKind.wrap, IntKind.bits, IntKind.signed]; omega
    go_wp2
    clear xf0 xf1 xf2 xf3 xz xc0 xc1 xc2 xc3
    obtain ⟨XZ, HGZ, HRZ, HVZ⟩ := fin_value X2 HG2.out HR2.out (valsP_nil _ _ m) HD.out hne' (.int .i64 1) (.int .i64 (v : Int)) (.string ⟨#[]⟩) (.slice none 0 0)
    generalize ((((w2.setCell ⟨w.heap.size, 0, none⟩ (.int .i64 1)).setCell ⟨w.heap.size, 1, none⟩ (.int .i64 (v : Int))).setCell ⟨w.heap.size, 2, none⟩ (.string ⟨#[]⟩)).setCell ⟨w.heap.size, 3, none⟩ (.slice none 0 0)) = Z at XZ HGZ HRZ HVZ ⊢
    have z0 : Z.cell? ⟨w.heap.size, 0, none⟩ = some (.int .i64 1) := XZ.cell 0
    have z1 : Z.cell? ⟨w.heap.size, 1, none⟩ = some (.int .i64 (v : Int)) := XZ.cell 1
    have z2 : Z.cell? ⟨w.heap.size, 2, none⟩ = some (.string ⟨#[]⟩) := XZ.cell 2
    have z3 : Z.cell? ⟨w.heap.size, 3, none⟩ = some (.slice none 0 0) := XZ.cell 3
    refine bodyPost_ret (v := .agg #[.int .i64 1, .int .i64 (v : Int), .string ⟨#[]⟩, .slice none 0 0]) (by simp [results, Try.results34, go_sem, z0, z1, z2, z3]) rfl ?_
    exact ⟨HGZ, Val.mk 1 v [] [], _, _, _, rfl, HVZ, HRZ, HM.out⟩
  · have hz : zag u = -((u / 2 : Nat) : Int) - 1 := by rw [zag, if_pos ho]
    have e1 : ((u : Int) % 2 == 1) = true := by simp; omega
    rw [hz] at HM
    have e2 : (u : Int) / 2 = ((u / 2 : Nat) : Int) := by omega
    have hu2 : u / 2 ≤ 9223372036854775807 := by omega
    generalize u / 2 = v at *
    have e3 : IntKind.i64.wrap (v : Int) = (v : Int) := by simp [IntKind.wrap, IntKind.bits, IntKind.signed]; omega
    have e4 : IntKind.i64.wrap (-(v : Int)) = -(v : Int) := by simp [IntKind.wrap, IntKind.bits, IntKind.signed]; omega
    have e5 : IntKind.i64.wrap (-(v : Int) - 1) = -(v : Int) - 1 := by simp [IntKind.wrap, IntKind.bits, IntKind.signed]; omega
    go_wp2
    clear xf0 xf1 xf2 xf3 xz xc0 xc1 xc2 xc3
    obtain ⟨XZ, HGZ, HRZ, HVZ⟩ := fin_value X2 HG2.out HR2.out (valsP_nil _ _ m) HD.out hne' (.int .i64 1) (.int .i64 (-(v : Int) - 1)) (.string ⟨#[]⟩) (.slice none 0 0)
    generalize ((((w2.setCell ⟨w.heap.size, 0, none⟩ (.int .i64 1)).setCell ⟨w.heap.size, 1, none⟩ (.int .i64 (-(v : Int) - 1))).setCell ⟨w.heap.size, 2, none⟩ (.string ⟨#[]⟩)).setCell ⟨w.heap.size, 3, none⟩ (.slice none 0 0)) = Z at XZ HGZ HRZ HVZ ⊢
    have z0 : Z.cell? ⟨w.heap.size, 0, none⟩ = some (.int .i64 1) := XZ.cell 0
    have z1 : Z.cell? ⟨w.heap.size, 1, none⟩ = some (.int .i64 (-(v : Int) - 1)) := XZ.cell 1
    have z2 : Z.cell? ⟨w.heap.size, 2, none⟩ = some (.string ⟨#[]⟩) := XZ.cell 2
    have z3 : Z.cell? ⟨w.heap.size, 3, none⟩ = some (.slice none 0 0) := XZ.cell 3
    refine bodyPost_ret (v := .agg #[.int .i64 1, .int .i64 (-(v : Int) - 1), .string ⟨#[]⟩, .slice none 0 0]) (by simp [results, Try.results34, go_sem, z0, z1, z2, z3]) rfl ?_
    exact ⟨HGZ, Val.mk 1 (-(v : Int) - 1) [] [], _, _, _, rfl, HVZ, HRZ, HM.out⟩

end Go.Proofs.Ytcokkloaljaanaa
