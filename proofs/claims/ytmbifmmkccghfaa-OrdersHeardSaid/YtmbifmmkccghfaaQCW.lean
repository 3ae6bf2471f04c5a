/- Contract of the reader's value: all but lists. (Printed by gen_cw.py.) -/
import Derived.Test.YtmbifmmkccghfaaQCQ
import Derived.Defers
import Derived.Recover
import Derived.Tactics2
set_option linter.unusedVariables false
set_option linter.unusedSimpArgs false
namespace Go.Proofs.Ytmbifmmkccghfaa
open Go.RowKit
attribute [local go_sem ↓ high] app_named

def RetVal (t : Option (Val × Bs)) (m D rb : Nat) (w : World) (e : Ending) (w' : World) : Prop :=
  match t with
  | some (x, r) => ∃ L, e = .returned (x.v L) ∧ ValsP w' (fun b => w.heap.size ≤ b) m L x.elems ∧ RdAt w' D rb r ∧ w.grownBy w' (some rb)
  | none => Fails rb w e w'
theorem grown_set {w w1 : World} {r : Option Nat} (h : w.grownBy w1 r) {a : Addr} (ha : w.heap.size ≤ a.block) (v : Value) : w.grownBy (w1.setCell a v) r :=
  ⟨h.os, h.tape, h.output, by simpa using h.size, fun k hk hne => (Below.heap_setCell w1 a v k (by omega)).trans (h.block k hk hne)⟩
theorem grown_of {w w1 w2 : World} {r : Option Nat} (h1 : Below w.heap.size w w1) (h2 : w1.grownBy w2 r) : w.grownBy w2 r :=
  ⟨h2.os.trans h1.os, h2.tape.trans h1.tape, h2.output.trans h1.output, Nat.le_trans h1.size h2.size, fun k hk hne => (h2.block k (Nat.lt_of_lt_of_le hk h1.size) hne).trans (h1.block k hk)⟩
theorem RdAt.set {w : World} {D rb : Nat} {l : Bs} (h : RdAt w D rb l) {a : Addr} (h1 : D ≤ a.block) (h2 : a.block ≠ rb) (v : Value) : RdAt (w.setCell a v) D rb l :=
  h.keepG (grownBy_set (w := w) (a := a) v) fun k hk => by injection hk with hk; subst hk; exact ⟨h1, h2⟩
theorem ValsP.set {w : World} {S : Nat → Prop} {d : Nat} {L : Value} {l : List Val} (h : ValsP w S d L l) {a : Addr} (h1 : ¬ S a.block) (v : Value) : ValsP (w.setCell a v) S d L l := h.keep (Keeps.set w h1 v)
theorem take_str {w : World} {S : Nat → Prop} {V : Value} {l : Bs} (h : BsAt w S V l) : (convert 43 9 V).run Try.prog w = .ok (.string (strB l)) w := h.str

set_option maxRecDepth 100000 in
set_option maxHeartbeats 4000000 in
theorem value_0 (m D rb : Nat) (w : World) (hR : RdAt w D rb []) (hD : D ≤ w.heap.size) (dep : Int) : Calls Try.prog 84 #[.pointer (some ⟨rb, 0, none⟩), .int .i64 dep] w (RetVal none m D rb w) := by
  have hst := (Below.refl w.heap.size w).alloc (Nat.le_refl _) (.cells #[.int .i64 0, .int .i64 0, .string ⟨#[]⟩, .slice none 0 0] 85)
  have X := Box.new w [.int .i64 0, .int .i64 0, .string ⟨#[]⟩, .slice none 0 0] 85
  have hrb := hR.lt
  have HR := Lib.hid (hR.keep hst)
  have ST := Lib.hid hst
  have HD := Lib.hid hD
  have hne : rb ≠ w.heap.size := by omega
  have hne' : w.heap.size ≠ rb := by omega
  clear hst hR hD
  go_enter Try.func84, Try.ntmps84
  go_wp2_with fail
  refine (take_no [] 1 D rb _ HR.out (by simp)).mono ?_
  rintro e w1 ⟨rfl, hg⟩
  have HF : Hid (RetVal none m D rb w (.panicked bad) w1) := ⟨rfl, grown_of ST.out hg⟩
  clear hg HR X ST
  go_wp2
  exact ⟨rfl, HF.out⟩

set_option maxRecDepth 100000 in
set_option maxHeartbeats 4000000 in
theorem value_1 (t : Bs) (m D rb : Nat) (w : World) (hR : RdAt w D rb (1 :: t)) (hD : D ≤ w.heap.size) (dep : Int) (T : Option (Val × Bs)) (hT : Hid ((rdNum 0 0 t).map (fun p => (Val.mk 1 (zag p.1) [] [], p.2)) = T)) : Calls Try.prog 84 #[.pointer (some ⟨rb, 0, none⟩), .int .i64 dep] w (RetVal T m D rb w) := by
  have hst := (Below.refl w.heap.size w).alloc (Nat.le_refl _) (.cells #[.int .i64 0, .int .i64 0, .string ⟨#[]⟩, .slice none 0 0] 85)
  have X := Box.new w [.int .i64 0, .int .i64 0, .string ⟨#[]⟩, .slice none 0 0] 85
  have hrb := hR.lt
  have HR := Lib.hid (hR.keep hst)
  have ST := Lib.hid hst
  have HD := Lib.hid hD
  have hne : rb ≠ w.heap.size := by omega
  have hne' : w.heap.size ≠ rb := by omega
  clear hst hR hD
  go_enter Try.func84, Try.ntmps84
  go_wp2_with fail
  refine (take_yes (1 :: t) 1 D rb _ HR.out (by simp)).mono ?_
  intro e w1 hret
  obtain ⟨b, off, cc, rfl, hc, hR1, hg⟩ := hret.byte
  replace hc : w1.cell? ⟨b, off, none⟩ = some (.int .u8 1) := hc
  have X1 := X.same (hg.block _ X.lt (by intro e; injection e with e; omega))
  have hG1 := grown_of ST.out hg
  have xz := X1.lt
  have x0 : w1.cell? ⟨w.heap.size, 0, none⟩ = some (.int .i64 0) := X1.cell 0
  have xf := X1.free 0
  have X2 := X1.set 0 (.int .i64 1)
  have HG2 := Lib.hid (grown_set hG1 (a := ⟨w.heap.size, 0, none⟩) (Nat.le_refl _) (.int .i64 1))
  have HR2 := Lib.hid (hR1.keepG (grownBy_set (w := w1) (a := ⟨w.heap.size, 0, none⟩) (.int .i64 1)) (fun k hk => by injection hk with hk; subst hk; exact ⟨HD.out, hne'⟩))
  clear hret hR1 hg X X1 HR ST hG1
  rcases hn : rdNum 0 0 t with _ | ⟨u, r⟩
  · have hT0 : none = T := by rw [← hT.out, hn]; rfl
    subst hT0
    replace hn := Lib.hid hn
    clear hT
    go_wp2_with fail
    generalize w1.setCell ⟨w.heap.size, 0, none⟩ (.int .i64 1) = w2 at X2 HG2 HR2 ⊢
    clear hc x0 xf xz
    refine (number_any t D rb _ HR2.out none hn).mono ?_
    rintro e w3 ⟨rfl, hg⟩
    have HF : Hid (RetVal none m D rb w (.panicked bad) w3) := ⟨rfl, grown_two HG2.out hg⟩
    clear hg HR2 X2 HG2
    go_wp2
    exact ⟨rfl, HF.out⟩
  · obtain ⟨hu, _⟩ := rdNum_lt (by omega) (by decide) hn
    have hT0 : some (Val.mk 1 (zag u) [] [], r) = T := by rw [← hT.out, hn]; rfl
    subst hT0
    replace hn := Lib.hid hn
    replace hu := Lib.hid hu
    clear hT
    go_wp2_with fail
    generalize w1.setCell ⟨w.heap.size, 0, none⟩ (.int .i64 1) = w2 at X2 HG2 HR2 ⊢
    clear hc x0 xf xz
    refine (number_any t D rb _ HR2.out _ hn).mono ?_
    rintro e w3 ⟨rfl, hR3, hg⟩
    have X3 := X2.same (hg.block _ X2.lt (by intro e; injection e with e; omega))
    have HG3 := Lib.hid (grown_two HG2.out hg)
    have HR3 := Lib.hid hR3
    have y0 : w3.cell? ⟨w.heap.size, 0, none⟩ = some (.int .i64 1) := X3.cell 0
    have y1 : w3.cell? ⟨w.heap.size, 1, none⟩ = some (.int .i64 0) := X3.cell 1
    have y2 : w3.cell? ⟨w.heap.size, 2, none⟩ = some (.string ⟨#[]⟩) := X3.cell 2
    have y3 : w3.cell? ⟨w.heap.size, 3, none⟩ = some (.slice none 0 0) := X3.cell 3
    have f0 := X3.free 0
    have f1 := X3.free 1
    have f2 := X3.free 2
    have f3 := X3.free 3
    have yz := X3.lt
    clear hR3 hg X2 HG2 HR2
    go_wp2_with (go_at_call 102; refine (cSigned_any u _ hu.out).mono ?_; rintro e w9 ⟨rfl, rfl⟩)
    clear y0 y1 y2 y3 f0 f1 f2 f3 yz
    have XZ := (((((X3.set 1 (.int .i64 (zag u))).set 0 (.int .i64 1)).set 1 (.int .i64 (zag u))).set 2 (.string ⟨#[]⟩)).set 3 (.slice none 0 0))
    have HGZ := Lib.hid (grown_set (grown_set (grown_set (grown_set (grown_set HG3.out (a := ⟨w.heap.size, 1, none⟩) (Nat.le_refl _) (.int .i64 (zag u))) (a := ⟨w.heap.size, 0, none⟩) (Nat.le_refl _) (.int .i64 1)) (a := ⟨w.heap.size, 1, none⟩) (Nat.le_refl _) (.int .i64 (zag u))) (a := ⟨w.heap.size, 2, none⟩) (Nat.le_refl _) (.string ⟨#[]⟩)) (a := ⟨w.heap.size, 3, none⟩) (Nat.le_refl _) (.slice none 0 0))
    have HRZ := Lib.hid (((((HR3.out.set (a := ⟨w.heap.size, 1, none⟩) HD.out hne' (.int .i64 (zag u))).set (a := ⟨w.heap.size, 0, none⟩) HD.out hne' (.int .i64 1)).set (a := ⟨w.heap.size, 1, none⟩) HD.out hne' (.int .i64 (zag u))).set (a := ⟨w.heap.size, 2, none⟩) HD.out hne' (.string ⟨#[]⟩)).set (a := ⟨w.heap.size, 3, none⟩) HD.out hne' (.slice none 0 0))
    have HVZ := Lib.hid ((ValsP.set (ValsP.set (ValsP.set (ValsP.set (ValsP.set (valsP_nil w3 (fun b => w.heap.size + 1 ≤ b) m) (a := ⟨w.heap.size, 1, none⟩) (fun h => by have := h; simp at this; omega) (.int .i64 (zag u))) (a := ⟨w.heap.size, 0, none⟩) (fun h => by have := h; simp at this; omega) (.int .i64 1)) (a := ⟨w.heap.size, 1, none⟩) (fun h => by have := h; simp at this; omega) (.int .i64 (zag u))) (a := ⟨w.heap.size, 2, none⟩) (fun h => by have := h; simp at this; omega) (.string ⟨#[]⟩)) (a := ⟨w.heap.size, 3, none⟩) (fun h => by have := h; simp at this; omega) (.slice none 0 0)))
    clear X3 HG3 HR3
    generalize (((((w3.setCell ⟨w.heap.size, 1, none⟩ (.int .i64 (zag u))).setCell ⟨w.heap.size, 0, none⟩ (.int .i64 1)).setCell ⟨w.heap.size, 1, none⟩ (.int .i64 (zag u))).setCell ⟨w.heap.size, 2, none⟩ (.string ⟨#[]⟩)).setCell ⟨w.heap.size, 3, none⟩ (.slice none 0 0)) = Z at XZ HGZ HRZ HVZ ⊢
    have z0 : Z.cell? ⟨w.heap.size, 0, none⟩ = some (.int .i64 1) := XZ.cell 0
    have z1 : Z.cell? ⟨w.heap.size, 1, none⟩ = some (.int .i64 (zag u)) := XZ.cell 1
    have z2 : Z.cell? ⟨w.heap.size, 2, none⟩ = some (.string ⟨#[]⟩) := XZ.cell 2
    have z3 : Z.cell? ⟨w.heap.size, 3, none⟩ = some (.slice none 0 0) := XZ.cell 3
    refine bodyPost_ret (v := .agg #[.int .i64 1, .int .i64 (zag u), .string ⟨#[]⟩, .slice none 0 0]) (by simp [results, Try.results84, go_sem, z0, z1, z2, z3]) rfl ?_
    exact ⟨.slice none 0 0, rfl, HVZ.out.weak (fun b hb _ => Nat.le_of_succ_le hb), HRZ.out, HGZ.out⟩

set_option maxRecDepth 100000 in
set_option maxHeartbeats 4000000 in
theorem value_2 (t : Bs) (m D rb : Nat) (w : World) (hR : RdAt w D rb (2 :: t)) (hD : D ≤ w.heap.size) (dep : Int) (T : Option (Val × Bs)) (hT : Hid ((rdLen t).map (fun p => (Val.mk 2 0 (p.2.take p.1) [], p.2.drop p.1)) = T)) : Calls Try.prog 84 #[.pointer (some ⟨rb, 0, none⟩), .int .i64 dep] w (RetVal T m D rb w) := by
  have hst := (Below.refl w.heap.size w).alloc (Nat.le_refl _) (.cells #[.int .i64 0, .int .i64 0, .string ⟨#[]⟩, .slice none 0 0] 85)
  have X := Box.new w [.int .i64 0, .int .i64 0, .string ⟨#[]⟩, .slice none 0 0] 85
  have hrb := hR.lt
  have HR := Lib.hid (hR.keep hst)
  have ST := Lib.hid hst
  have HD := Lib.hid hD
  have hne : rb ≠ w.heap.size := by omega
  have hne' : w.heap.size ≠ rb := by omega
  clear hst hR hD
  go_enter Try.func84, Try.ntmps84
  go_wp2_with fail
  refine (take_yes (2 :: t) 1 D rb _ HR.out (by simp)).mono ?_
  intro e w1 hret
  obtain ⟨b, off, cc, rfl, hc, hR1, hg⟩ := hret.byte
  replace hc : w1.cell? ⟨b, off, none⟩ = some (.int .u8 2) := hc
  have X1 := X.same (hg.block _ X.lt (by intro e; injection e with e; omega))
  have hG1 := grown_of ST.out hg
  have xz := X1.lt
  have x0 : w1.cell? ⟨w.heap.size, 0, none⟩ = some (.int .i64 0) := X1.cell 0
  have xf := X1.free 0
  have X2 := X1.set 0 (.int .i64 2)
  have HG2 := Lib.hid (grown_set hG1 (a := ⟨w.heap.size, 0, none⟩) (Nat.le_refl _) (.int .i64 2))
  have HR2 := Lib.hid (hR1.keepG (grownBy_set (w := w1) (a := ⟨w.heap.size, 0, none⟩) (.int .i64 2)) (fun k hk => by injection hk with hk; subst hk; exact ⟨HD.out, hne'⟩))
  clear hret hR1 hg X X1 HR ST hG1
  rcases hn : rdLen t with _ | ⟨u, r⟩
  · have hT0 : none = T := by rw [← hT.out, hn]; rfl
    subst hT0
    replace hn := Lib.hid hn
    clear hT
    go_wp2_with fail
    generalize w1.setCell ⟨w.heap.size, 0, none⟩ (.int .i64 2) = w2 at X2 HG2 HR2 ⊢
    clear hc x0 xf xz
    refine (length_any t D rb _ HR2.out none hn).mono ?_
    rintro e w3 ⟨rfl, hg⟩
    have HF : Hid (RetVal none m D rb w (.panicked bad) w3) := ⟨rfl, grown_two HG2.out hg⟩
    clear hg HR2 X2 HG2
    go_wp2
    exact ⟨rfl, HF.out⟩
  · obtain ⟨_, hur⟩ := rdLen_some hn
    have hT0 : some (Val.mk 2 0 (r.take u) [], r.drop u) = T := by rw [← hT.out, hn]; rfl
    subst hT0
    replace hn := Lib.hid hn
    clear hT
    go_wp2_with fail
    generalize w1.setCell ⟨w.heap.size, 0, none⟩ (.int .i64 2) = w2 at X2 HG2 HR2 ⊢
    clear hc x0 xf xz
    refine (length_any t D rb _ HR2.out _ hn).mono ?_
    rintro e w3 ⟨rfl, hR3, hg⟩
    have X3 := X2.same (hg.block _ X2.lt (by intro e; injection e with e; omega))
    have HG3 := Lib.hid (grown_two HG2.out hg)
    have HR3 := Lib.hid hR3
    clear hR3 hg X2 HG2 HR2
    go_wp2_with fail
    refine (take_yes r u D rb _ HR3.out hur).mono ?_
    rintro e w4 ⟨At, ct, rfl, hBt, hR4, hg, _⟩
    have X4 := X3.same (hg.block _ X3.lt (by intro e; injection e with e; omega))
    have HG4 := Lib.hid (grown_two HG3.out hg)
    have HR4 := Lib.hid hR4
    have hstr := take_str hBt
    have hsl : Hid ((r.take u).length = u) := by rw [Hid, List.length_take]; omega
    clear hR4 hg X3 HG3 HR3 hBt
    generalize hs : r.take u = s at hstr hsl
    replace hs := Lib.hid hs
    have HSB : Hid (strB s = strB s) := rfl
    generalize hsb : strB s = sb at hstr HSB
    replace hsb := Lib.hid hsb
    clear HSB
    have y0 : w4.cell? ⟨w.heap.size, 0, none⟩ = some (.int .i64 2) := X4.cell 0
    have y1 : w4.cell? ⟨w.heap.size, 1, none⟩ = some (.int .i64 0) := X4.cell 1
    have y2 : w4.cell? ⟨w.heap.size, 2, none⟩ = some (.string ⟨#[]⟩) := X4.cell 2
    have y3 : w4.cell? ⟨w.heap.size, 3, none⟩ = some (.slice none 0 0) := X4.cell 3
    have f0 := X4.free 0
    have f1 := X4.free 1
    have f2 := X4.free 2
    have f3 := X4.free 3
    have yz := X4.lt
    go_wp2
    clear y0 y1 y2 y3 f0 f1 f2 f3 yz hstr
    have XZ := (((((X4.set 2 (.string sb)).set 0 (.int .i64 2)).set 1 (.int .i64 0)).set 2 (.string sb)).set 3 (.slice none 0 0))
    have HGZ := Lib.hid (grown_set (grown_set (grown_set (grown_set (grown_set HG4.out (a := ⟨w.heap.size, 2, none⟩) (Nat.le_refl _) (.string sb)) (a := ⟨w.heap.size, 0, none⟩) (Nat.le_refl _) (.int .i64 2)) (a := ⟨w.heap.size, 1, none⟩) (Nat.le_refl _) (.int .i64 0)) (a := ⟨w.heap.size, 2, none⟩) (Nat.le_refl _) (.string sb)) (a := ⟨w.heap.size, 3, none⟩) (Nat.le_refl _) (.slice none 0 0))
    have HRZ := Lib.hid (((((HR4.out.set (a := ⟨w.heap.size, 2, none⟩) HD.out hne' (.string sb)).set (a := ⟨w.heap.size, 0, none⟩) HD.out hne' (.int .i64 2)).set (a := ⟨w.heap.size, 1, none⟩) HD.out hne' (.int .i64 0)).set (a := ⟨w.heap.size, 2, none⟩) HD.out hne' (.string sb)).set (a := ⟨w.heap.size, 3, none⟩) HD.out hne' (.slice none 0 0))
    have HVZ := Lib.hid ((ValsP.set (ValsP.set (ValsP.set (ValsP.set (ValsP.set (valsP_nil w4 (fun b => w.heap.size + 1 ≤ b) m) (a := ⟨w.heap.size, 2, none⟩) (fun h => by have := h; simp at this; omega) (.string sb)) (a := ⟨w.heap.size, 0, none⟩) (fun h => by have := h; simp at this; omega) (.int .i64 2)) (a := ⟨w.heap.size, 1, none⟩) (fun h => by have := h; simp at this; omega) (.int .i64 0)) (a := ⟨w.heap.size, 2, none⟩) (fun h => by have := h; simp at this; omega) (.string sb)) (a := ⟨w.heap.size, 3, none⟩) (fun h => by have := h; simp at this; omega) (.slice none 0 0)))
    clear X4 HG4 HR4
    generalize (((((w4.setCell ⟨w.heap.size, 2, none⟩ (.string sb)).setCell ⟨w.heap.size, 0, none⟩ (.int .i64 2)).setCell ⟨w.heap.size, 1, none⟩ (.int .i64 0)).setCell ⟨w.heap.size, 2, none⟩ (.string sb)).setCell ⟨w.heap.size, 3, none⟩ (.slice none 0 0)) = Z at XZ HGZ HRZ HVZ ⊢
    have z0 : Z.cell? ⟨w.heap.size, 0, none⟩ = some (.int .i64 2) := XZ.cell 0
    have z1 : Z.cell? ⟨w.heap.size, 1, none⟩ = some (.int .i64 0) := XZ.cell 1
    have z2 : Z.cell? ⟨w.heap.size, 2, none⟩ = some (.string sb) := XZ.cell 2
    have z3 : Z.cell? ⟨w.heap.size, 3, none⟩ = some (.slice none 0 0) := XZ.cell 3
    refine bodyPost_ret (v := .agg #[.int .i64 2, .int .i64 0, .string sb, .slice none 0 0]) (by simp [results, Try.results84, go_sem, z0, z1, z2, z3]) rfl ?_
    exact ⟨.slice none 0 0, by rw [← hsb.out, ← hs.out]; rfl, HVZ.out.weak (fun b hb _ => Nat.le_of_succ_le hb), HRZ.out, HGZ.out⟩

set_option maxRecDepth 100000 in
set_option maxHeartbeats 4000000 in
theorem value_no (c : UInt8) (t : Bs) (h1 : c ≠ 1) (h2 : c ≠ 2) (h3 : c ≠ 3) (m D rb : Nat) (w : World) (hR : RdAt w D rb (c :: t)) (hD : D ≤ w.heap.size) (dep : Int) : Calls Try.prog 84 #[.pointer (some ⟨rb, 0, none⟩), .int .i64 dep] w (RetVal none m D rb w) := by
  have hst := (Below.refl w.heap.size w).alloc (Nat.le_refl _) (.cells #[.int .i64 0, .int .i64 0, .string ⟨#[]⟩, .slice none 0 0] 85)
  have X := Box.new w [.int .i64 0, .int .i64 0, .string ⟨#[]⟩, .slice none 0 0] 85
  have hrb := hR.lt
  have HR := Lib.hid (hR.keep hst)
  have ST := Lib.hid hst
  have HD := Lib.hid hD
  have hne : rb ≠ w.heap.size := by omega
  have hne' : w.heap.size ≠ rb := by omega
  have e1 : ((c.toNat : Int) == 1) = false := by have h : c.toNat ≠ 1 := fun h => h1 (UInt8.toNat_inj.1 h); simp; omega
  have e2 : ((c.toNat : Int) == 2) = false := by have h : c.toNat ≠ 2 := fun h => h2 (UInt8.toNat_inj.1 h); simp; omega
  have e3 : ((c.toNat : Int) == 3) = false := by have h : c.toNat ≠ 3 := fun h => h3 (UInt8.toNat_inj.1 h); simp; omega
  clear hst hR hD h1 h2 h3
  go_enter Try.func84, Try.ntmps84
  go_wp2_with fail
  refine (take_yes (c :: t) 1 D rb _ HR.out (by simp)).mono ?_
  intro e w1 hret
  obtain ⟨b, off, cc, rfl, hc, hR1, hg⟩ := hret.byte
  replace hc : w1.cell? ⟨b, off, none⟩ = some (.int .u8 (c.toNat : Int)) := hc
  have X1 := X.same (hg.block _ X.lt (by intro e; injection e with e; omega))
  have hG1 := grown_of ST.out hg
  have xz := X1.lt
  have x0 : w1.cell? ⟨w.heap.size, 0, none⟩ = some (.int .i64 0) := X1.cell 0
  have xf := X1.free 0
  have X2 := X1.set 0 (.int .i64 (c.toNat : Int))
  have HG2 := Lib.hid (grown_set hG1 (a := ⟨w.heap.size, 0, none⟩) (Nat.le_refl _) (.int .i64 (c.toNat : Int)))
  have HR2 := Lib.hid (hR1.keepG (grownBy_set (w := w1) (a := ⟨w.heap.size, 0, none⟩) (.int .i64 (c.toNat : Int))) (fun k hk => by injection hk with hk; subst hk; exact ⟨HD.out, hne'⟩))
  clear hret hR1 hg X X1 HR ST hG1
  have hcn : c.toNat < 256 := c.toNat_lt
  generalize c.toNat = cn at hc X2 HG2 HR2 e1 e2 e3 hcn
  go_wp2_with fail
  generalize w1.setCell ⟨w.heap.size, 0, none⟩ (.int .i64 cn) = w2 at X2 HG2 HR2 ⊢
  clear hc x0 xf xz
  refine (want_no _ _).mono ?_
  rintro e w3 ⟨rfl, rfl⟩
  have HF : Hid (RetVal none m D rb w (.panicked bad) w2) := ⟨rfl, HG2.out⟩
  clear HR2 X2 HG2
  go_wp2
  exact ⟨rfl, HF.out⟩

set_option maxRecDepth 100000 in
set_option maxHeartbeats 4000000 in
theorem value_3no (t : Bs) (m D rb : Nat) (w : World) (hR : RdAt w D rb (3 :: t)) (hD : D ≤ w.heap.size) (dep : Int) (hdep : 16 ≤ dep) : Calls Try.prog 84 #[.pointer (some ⟨rb, 0, none⟩), .int .i64 dep] w (RetVal none m D rb w) := by
  have hst := (Below.refl w.heap.size w).alloc (Nat.le_refl _) (.cells #[.int .i64 0, .int .i64 0, .string ⟨#[]⟩, .slice none 0 0] 85)
  have X := Box.new w [.int .i64 0, .int .i64 0, .string ⟨#[]⟩, .slice none 0 0] 85
  have hrb := hR.lt
  have HR := Lib.hid (hR.keep hst)
  have ST := Lib.hid hst
  have HD := Lib.hid hD
  have hne : rb ≠ w.heap.size := by omega
  have hne' : w.heap.size ≠ rb := by omega
  clear hst hR hD
  go_enter Try.func84, Try.ntmps84
  go_wp2_with fail
  refine (take_yes (3 :: t) 1 D rb _ HR.out (by simp)).mono ?_
  intro e w1 hret
  obtain ⟨b, off, cc, rfl, hc, hR1, hg⟩ := hret.byte
  replace hc : w1.cell? ⟨b, off, none⟩ = some (.int .u8 3) := hc
  have X1 := X.same (hg.block _ X.lt (by intro e; injection e with e; omega))
  have hG1 := grown_of ST.out hg
  have xz := X1.lt
  have x0 : w1.cell? ⟨w.heap.size, 0, none⟩ = some (.int .i64 0) := X1.cell 0
  have xf := X1.free 0
  have X2 := X1.set 0 (.int .i64 3)
  have HG2 := Lib.hid (grown_set hG1 (a := ⟨w.heap.size, 0, none⟩) (Nat.le_refl _) (.int .i64 3))
  have HR2 := Lib.hid (hR1.keepG (grownBy_set (w := w1) (a := ⟨w.heap.size, 0, none⟩) (.int .i64 3)) (fun k hk => by injection hk with hk; subst hk; exact ⟨HD.out, hne'⟩))
  clear hret hR1 hg X X1 HR ST hG1
  have hd : decide (dep < 16) = false := decide_eq_false (by omega)
  go_wp2_with fail
  generalize w1.setCell ⟨w.heap.size, 0, none⟩ (.int .i64 3) = w2 at X2 HG2 HR2 ⊢
  clear hc x0 xf xz
  refine (want_no _ _).mono ?_
  rintro e w3 ⟨rfl, rfl⟩
  have HF : Hid (RetVal none m D rb w (.panicked bad) w2) := ⟨rfl, HG2.out⟩
  clear HR2 X2 HG2
  go_wp2
  exact ⟨rfl, HF.out⟩

end Go.Proofs.Ytmbifmmkccghfaa

/-
  Contract of the reader's value: lists. (Printed by gen_cw.py.)
-/
namespace Go.Proofs.Ytmbifmmkccghfaa
open Go.RowKit
attribute [local go_sem ↓ high] app_named

def ValR (m : Nat) : Prop := ∀ (l : Bs) (D rb : Nat) (w : World) (dep : Int) (T : Option (Val × Bs)), RdAt w D rb l → D ≤ w.heap.size → l.length ≤ 100000000 → 0 ≤ dep → dep + m = 16 → Hid (rdVal m l = T) → Calls Try.prog 84 #[.pointer (some ⟨rb, 0, none⟩), .int .i64 dep] w (RetVal T m D rb w)
theorem OwnVals.set_other {w : World} {B d : Nat} {v : Value} {l : List Val} (h : OwnVals w B d v l) (_hB : B ≤ w.heap.size) {a : Addr} (ha : a.block < B) (u : Value) : OwnVals (w.setCell a u) B d v l := h.keep (r := a.block) ha (grownBy_set u)
theorem Rd.grown_row {w w4 w5 : World} {rb : Nat} {v : Value} {o : Obj} (h : w.grownBy w4 (some rb)) (h5 : (w4.alloc o).grownBy w5 v.ownBlock) (hv : ∀ g, v.ownBlock = some g → w.heap.size ≤ g) : w.grownBy w5 (some rb) := by
  have hst := (Below.refl w4.heap.size w4).alloc (Nat.le_refl _) o
  refine ⟨h5.os.trans h.os, h5.tape.trans h.tape, h5.output.trans h.output, Nat.le_trans h.size (Nat.le_trans hst.size h5.size), fun k hk hne => ?_⟩
  have hk4 := Nat.lt_of_lt_of_le hk h.size
  exact ((h5.block k (Nat.lt_of_lt_of_le hk4 hst.size) (fun e => by have := hv k e.symm; omega)).trans (hst.block k hk4)).trans (h.block k hk hne)
theorem RetVal.open {x : Val} {r : Bs} {m D rb : Nat} {w : World} {e : Ending} {w' : World} (h : RetVal (some (x, r)) m D rb w e w') : ∃ A c, e = .returned (.agg #[.int .i64 x.kind, .int .i64 x.num, .string (strB x.str), .slice A x.elems.length c]) ∧ ValsP w' (fun b => w.heap.size ≤ b) m (.slice A x.elems.length c) x.elems ∧ RdAt w' D rb r ∧ w.grownBy w' (some rb) := by
  obtain ⟨L, rfl, h1, h2, h3⟩ := h
  obtain ⟨A, c, rfl, _⟩ := h1.form
  exact ⟨A, c, rfl, h1, h2, h3⟩
theorem rdVal_list (m : Nat) (t : Bs) : rdVal (m + 1) (3 :: t) = (rdLen t).bind fun p => (rdMany (rdVal m) p.1 p.2).map fun q => (.mk 3 0 [] q.1, q.2) := rfl
theorem rdVal_one (m : Nat) (t : Bs) : rdVal m (1 :: t) = (rdNum 0 0 t).map fun p => (.mk 1 (zag p.1) [] [], p.2) := by cases m <;> rfl
theorem rdVal_two (m : Nat) (t : Bs) : rdVal m (2 :: t) = (rdLen t).map fun p => (.mk 2 0 (p.2.take p.1) [], p.2.drop p.1) := by cases m <;> rfl
theorem rdVal_nil (m : Nat) : rdVal m [] = none := by cases m <;> rfl
theorem rdVal_zero (t : Bs) : rdVal 0 (3 :: t) = none := rfl
theorem rdVal_no (m : Nat) {c : UInt8} (t : Bs) (h1 : c ≠ 1) (h2 : c ≠ 2) (h3 : c ≠ 3) : rdVal m (c :: t) = none := by
  cases m <;> rw [rdVal, rdHead, if_neg h1, if_neg h2, if_neg h3]
theorem rdMany_len {f : Bs → Option (Val × Bs)} (hf : ∀ r x r', f r = some (x, r') → r'.length ≤ r.length) (n : Nat) : ∀ r l r', rdMany f n r = some (l, r') → r'.length ≤ r.length := by
  induction n with
  | zero => intro r l r' h; cases h; exact Nat.le_refl _
  | succ n ih =>
    intro r l r' h
    rw [rdMany] at h
    rcases h1 : f r with _ | ⟨x, r1⟩
    · rw [h1] at h; cases h
    · rw [h1, Option.bind_some] at h
      rcases h2 : rdMany f n r1 with _ | ⟨l2, r2⟩
      · rw [h2] at h; cases h
      · rw [h2] at h
        cases h
        exact Nat.le_trans (ih _ _ _ h2) (hf _ _ _ h1)
theorem rdVal_len (m : Nat) : ∀ r x r', rdVal m r = some (x, r') → r'.length ≤ r.length := by
  induction m with
  | zero =>
    intro r x r' h
    rcases r with _ | ⟨c, t⟩
    · cases h
    · by_cases h1 : c = 1
      · subst h1
        rw [rdVal_one] at h
        rcases hn : rdNum 0 0 t with _ | ⟨u, q⟩
        · rw [hn] at h; cases h
        · rw [hn] at h; cases h
          have := (rdNum_lt (by omega) (by decide) hn).2
          simp only [List.length_cons]; omega
      · by_cases h2 : c = 2
        · subst h2
          rw [rdVal_two] at h
          rcases hn : rdLen t with _ | ⟨u, q⟩
          · rw [hn] at h; cases h
          · rw [hn] at h; cases h
            have := (rdNum_lt (by omega) (by decide) (rdLen_some hn).1).2
            simp only [List.length_cons, List.length_drop]; omega
        · by_cases h3 : c = 3
          · subst h3; rw [rdVal_zero] at h; cases h
          · rw [rdVal_no 0 t h1 h2 h3] at h; cases h
  | succ m ih =>
    intro r x r' h
    rcases r with _ | ⟨c, t⟩
    · cases h
    · by_cases h1 : c = 1
      · subst h1
        rw [rdVal_one] at h
        rcases hn : rdNum 0 0 t with _ | ⟨u, q⟩
        · rw [hn] at h; cases h
        · rw [hn] at h; cases h
          have := (rdNum_lt (by omega) (by decide) hn).2
          simp only [List.length_cons]; omega
      · by_cases h2 : c = 2
        · subst h2
          rw [rdVal_two] at h
          rcases hn : rdLen t with _ | ⟨u, q⟩
          · rw [hn] at h; cases h
          · rw [hn] at h; cases h
            have := (rdNum_lt (by omega) (by decide) (rdLen_some hn).1).2
            simp only [List.length_cons, List.length_drop]; omega
        · by_cases h3 : c = 3
          · subst h3
            rw [rdVal_list] at h
            rcases hn : rdLen t with _ | ⟨u, q⟩
            · rw [hn] at h; cases h
            · rw [hn, Option.bind_some] at h
              rcases hm : rdMany (rdVal m) u q with _ | ⟨l2, r2⟩
              · rw [hm] at h; cases h
              · rw [hm] at h; cases h
                have h1 := (rdNum_lt (by omega) (by decide) (rdLen_some hn).1).2
                have h2 := rdMany_len ih u q l2 _ hm
                simp only [List.length_cons]; omega
          · rw [rdVal_no _ t h1 h2 h3] at h; cases h

set_option maxRecDepth 100000 in
set_option maxHeartbeats 4000000 in
theorem value_3 (t : Bs) (m D rb : Nat) (w : World) (hR : RdAt w D rb (3 :: t)) (hD : D ≤ w.heap.size) (dep : Int) (hdep0 : 0 ≤ dep) (hdep : dep + ((m + 1 : Nat) : Int) = 16) (ih : ValR m) (hlen : t.length ≤ 100000000) (T : Option (Val × Bs)) (hT : Hid (((rdLen t).bind fun p => (rdMany (rdVal m) p.1 p.2).map fun q => (Val.mk 3 0 [] q.1, q.2)) = T)) : Calls Try.prog 84 #[.pointer (some ⟨rb, 0, none⟩), .int .i64 dep] w (RetVal T (m + 1) D rb w) := by
  have hst := (Below.refl w.heap.size w).alloc (Nat.le_refl _) (.cells #[.int .i64 0, .int .i64 0, .string ⟨#[]⟩, .slice none 0 0] 85)
  have X := Box.new w [.int .i64 0, .int .i64 0, .string ⟨#[]⟩, .slice none 0 0] 85
  have hrb := hR.lt
  have HR := Lib.hid (hR.keep hst)
  have ST := Lib.hid hst
  have HD := Lib.hid hD
  have hne : rb ≠ w.heap.size := by omega
  have hne' : w.heap.size ≠ rb := by omega
  have IH := Lib.hid ih
  clear hst hR hD ih
  go_enter Try.func84, Try.ntmps84
  go_wp2_with fail
  refine (take_yes (3 :: t) 1 D rb _ HR.out (by simp)).mono ?_
  intro e w1 hret
  obtain ⟨b, off, cc, rfl, hc, hR1, hg⟩ := hret.byte
  replace hc : w1.cell? ⟨b, off, none⟩ = some (.int .u8 3) := hc
  have X1 := X.same (hg.block _ X.lt (by intro e; injection e with e; omega))
  have hG1 := grown_of ST.out hg
  have xz := X1.lt
  have x0 : w1.cell? ⟨w.heap.size, 0, none⟩ = some (.int .i64 0) := X1.cell 0
  have xf := X1.free 0
  have X2 := X1.set 0 (.int .i64 3)
  have HG2 := Lib.hid (grown_set hG1 (a := ⟨w.heap.size, 0, none⟩) (Nat.le_refl _) (.int .i64 3))
  have HR2 := Lib.hid (hR1.keepG (grownBy_set (w := w1) (a := ⟨w.heap.size, 0, none⟩) (.int .i64 3)) (fun k hk => by injection hk with hk; subst hk; exact ⟨HD.out, hne'⟩))
  clear hret hR1 hg X X1 HR ST hG1
  have hd : decide (dep < 16) = true := decide_eq_true (by omega)
  go_wp2_with fail
  generalize w1.setCell ⟨w.heap.size, 0, none⟩ (.int .i64 3) = w2 at X2 HG2 HR2 ⊢
  clear hc x0 xf xz
  refine (want_yes _ _).mono ?_
  rintro e w3 ⟨rfl, rfl⟩
  rcases hn : rdLen t with _ | ⟨n, r⟩
  · have hT0 : none = T := by rw [← hT.out, hn]; rfl
    subst hT0
    replace hn := Lib.hid hn
    clear hT
    go_wp2_with fail
    refine (length_any t D rb _ HR2.out none hn).mono ?_
    rintro e w3 ⟨rfl, hg⟩
    have HF : Hid (RetVal none (m + 1) D rb w (.panicked bad) w3) := ⟨rfl, grown_two HG2.out hg⟩
    clear hg HR2 X2 HG2
    go_wp2
    exact ⟨rfl, HF.out⟩
  · obtain ⟨hnn, hur⟩ := rdLen_some hn
    have hrl := (rdNum_lt (by omega) (by decide) hnn).2
    have hn8 : n ≤ 100000000 := by omega
    have hr8 : Hid (r.length ≤ 100000000) := by rw [Hid]; omega
    have hT0 : ((rdMany (rdVal m) n r).map fun q => (Val.mk 3 0 [] q.1, q.2)) = T := by rw [← hT.out, hn]; rfl
    replace hn := Lib.hid hn
    replace hT0 := Lib.hid hT0
    clear hT hnn hur hrl hlen
    go_wp2_with fail
    refine (length_any t D rb _ HR2.out _ hn).mono ?_
    rintro e w3 ⟨rfl, hR3, hg⟩
    have X3 := X2.same (hg.block _ X2.lt (by intro e; injection e with e; omega))
    have HG3 := Lib.hid (grown_two HG2.out hg)
    have HR3 := Lib.hid hR3
    obtain ⟨TT, hTT⟩ : ∃ TT, rdMany (rdVal m) n r = TT := ⟨_, rfl⟩
    rw [hTT] at hT0
    have HTT : Hid (((rdMany (rdVal m) (n - 0) r).map fun q => (([] : List Val) ++ q.1, q.2)) = TT) := by
      rw [Hid, Nat.sub_zero, hTT]
      cases TT <;> rfl
    clear hR3 hg X2 HG2 HR2 hTT hn
    go_wp2_with fail
    go_loopw [37] (fun i wr => ∃ (k : Nat) (xs : List Val) (V : Value) (q : Bs), k ≤ n ∧ i = .int .i64 k ∧ Hid (xs.length = k) ∧ Hid (OwnVals wr (w.heap.size + 1) m V xs) ∧ Box wr w.heap.size [.int .i64 3, .int .i64 0, .string ⟨#[]⟩, V] ∧ Hid (RdAt wr D rb q) ∧ Hid (w.grownBy wr (some rb)) ∧ Hid (((rdMany (rdVal m) (n - k) q).map fun z => (xs ++ z.1, z.2)) = TT) ∧ Hid (q.length ≤ 100000000)) (fun i _ => n - (intOf i).toNat)
    case atStart => exact ⟨0, [], .slice none 0 0, r, Nat.zero_le _, rfl, Lib.hid rfl, Lib.hid (ownVals_nil w3 _ m), X3, HR3, HG3, HTT, hr8⟩
    case round =>
      clear X3 HR3 HG3 HTT hr8
      obtain ⟨k, xs, V, q, hk, rfl, hxl, HO, X, HR, HG, HTT, hq8⟩ := hrel
      obtain ⟨A, cv, hVe⟩ := HO.out.form
      rw [hxl.out] at hVe
      subst hVe
      by_cases hlt : k < n
      · obtain ⟨j, hj⟩ : ∃ j, n - k = j + 1 := ⟨n - k - 1, by omega⟩
        have hj2 : n - (k + 1) = j := by omega
        have y3 : wr.cell? ⟨w.heap.size, 3, none⟩ = some (.slice A k cv) := X.cell 3
        have y3' : wr.drew.cell? ⟨w.heap.size, 3, none⟩ = some (.slice A k cv) := X.cell 3
        have yz := X.lt
        have hwr : IntKind.i64.wrap (dep + 1) = dep + 1 := by simp [IntKind.wrap, IntKind.bits, IntKind.signed]; omega
        rcases hv : rdVal m q with _ | p
        · have hN : none = TT := by rw [← HTT.out, hj, rdMany, hv]; rfl
          subst hN
          have hTn : none = T := hT0.out
          subst hTn
          have HC := fun (z : World) (hz : Below wr.heap.size wr z) => IH.out q D rb z (dep + 1) none (HR.out.keep hz) (Nat.le_trans HD.out (Nat.le_trans HG.out.size hz.size)) hq8.out (by omega) (by omega) (Lib.hid hv)
          replace HC := Lib.hid HC
          clear hv hj hj2
          go_wp2_with fail
          refine wp_region_any (by kernel_rfl) ?_
          change wpAny _ _ _ _ _ _ _ (World.drew _)
          refine wpAny_take (i := 0) (v := ?_) rfl (by kernel_rfl) (by kernel_rfl) (by kernel_rfl) (fun _ _ _ h => h) (Or.inl ⟨by rfl, ?_⟩) ?_
          rotate_left
          · intro wz; go_simp; try with_reducible rfl
          refine wpAny_take (i := 2) (v := ?_) rfl (by kernel_rfl) (by kernel_rfl) (by kernel_rfl) (fun _ _ _ h => h) (Or.inl ⟨by rfl, ?_⟩) ?_
          rotate_left
          · intro wz; go_simp; try with_reducible rfl
          refine wpAny_take (i := 3) (v := ?_) rfl (by kernel_rfl) (by kernel_rfl) (by kernel_rfl) (fun _ _ _ h => h) (Or.inl ⟨by rfl, ?_⟩) ?_
          rotate_left
          · intro wz; go_simp; try with_reducible rfl
          refine wpAny_take (i := 4) (v := ?_) rfl (by kernel_rfl) (by kernel_rfl) (by kernel_rfl) (fun _ _ _ h => h) (Or.inl ⟨by rfl, ?_⟩) ?_
          rotate_left
          · intro wz; go_simp; try with_reducible rfl
          refine wpAny_ready (rs := [1, 5]) (by kernel_rfl) (by simp) ?_
          refine (AllReady.cons rfl (fun K hK => ?_) (AllReady.cons rfl (fun K hK => ?_) AllReady.nil))
          · go_simp
            refine hK _ _ ?_
            clear hK K
            refine wpAny_ready (rs := [5]) (by kernel_rfl) (by simp) ?_
            refine (AllReady.cons rfl (fun K hK => ?_) AllReady.nil)
            · go_simp
              refine (HC.out _ ((Below.refl _ _).drew)).mono ?_
              rintro e w4 ⟨rfl, hg⟩
              exact ⟨rfl, rfl, grown_two HG.out (grown_of (Below.refl _ _).drew hg)⟩
          · go_simp
            refine (HC.out _ ((Below.refl _ _).drew)).mono ?_
            rintro e w4 ⟨rfl, hg⟩
            exact ⟨rfl, rfl, grown_two HG.out (grown_of (Below.refl _ _).drew hg)⟩
        · obtain ⟨x, q2⟩ := p
          have hql := rdVal_len m q x q2 hv
          have HQ8 : Hid (q2.length ≤ 100000000) := by have := hq8.out; rw [Hid]; omega
          have HT2 : Hid (((rdMany (rdVal m) (n - (k + 1)) q2).map fun z => ((xs ++ [x]) ++ z.1, z.2)) = TT) := by
            rw [Hid, ← HTT.out, hj, hj2, rdMany, hv, Option.bind_some]
            rcases rdMany (rdVal m) j q2 with _ | ⟨l2, q3⟩
            · rfl
            · simp only [Option.map_some, List.append_assoc, List.singleton_append]
          have HC := fun (z : World) (hz : Below wr.heap.size wr z) => IH.out q D rb z (dep + 1) (some (x, q2)) (HR.out.keep hz) (Nat.le_trans HD.out (Nat.le_trans HG.out.size hz.size)) hq8.out (by omega) (by omega) (Lib.hid hv)
          replace HC := Lib.hid HC
          have hrow : ∀ g, Value.ownBlock (.slice A k cv) = some g → g < wr.heap.size := fun g hg => (HO.out.lt hg).2
          have HROW := Lib.hid hrow
          have hBw : w.heap.size + 1 ≤ wr.heap.size := yz
          have HXL : Hid (xs.length ≤ 100000000) := by rw [Hid, hxl.out]; omega
          have HXL2 : Hid ((xs ++ [x]).length = k + 1) := by rw [Hid, List.length_append, hxl.out]; rfl
          clear hv hj hj2 hql hrow HTT hq8
          go_wp2_with fail
          refine wp_region_any (by kernel_rfl) ?_
          change wpAny _ _ _ _ _ _ _ (World.drew _)
          refine wpAny_take (i := 0) (v := ?_) rfl (by kernel_rfl) (by kernel_rfl) (by kernel_rfl) (fun _ _ _ h => h) (Or.inl ⟨by rfl, ?_⟩) ?_
          rotate_left
          · intro wz; go_simp; try with_reducible rfl
          refine wpAny_take (i := 2) (v := ?_) rfl (by kernel_rfl) (by kernel_rfl) (by kernel_rfl) (fun _ _ _ h => h) (Or.inl ⟨by rfl, ?_⟩) ?_
          rotate_left
          · intro wz; go_simp; try with_reducible rfl
          refine wpAny_take (i := 3) (v := ?_) rfl (by kernel_rfl) (by kernel_rfl) (by kernel_rfl) (fun _ _ _ h => h) (Or.inl ⟨by rfl, ?_⟩) ?_
          rotate_left
          · intro wz; go_simp; try with_reducible rfl
          refine wpAny_take (i := 4) (v := ?_) rfl (by kernel_rfl) (by kernel_rfl) (by kernel_rfl) (fun _ _ _ h => h) (Or.inl ⟨by rfl, ?_⟩) ?_
          rotate_left
          · intro wz; go_simp; try with_reducible rfl
          refine wpAny_ready (rs := [1, 5]) (by kernel_rfl) (by simp) ?_
          refine (AllReady.cons rfl (fun K hK => ?_) (AllReady.cons rfl (fun K hK => ?_) AllReady.nil))
          · go_simp
            refine hK _ _ ?_
            clear hK K
            refine wpAny_ready (rs := [5]) (by kernel_rfl) (by simp) ?_
            refine (AllReady.cons rfl (fun K hK => ?_) AllReady.nil)
            · go_simp
              refine (HC.out _ ((Below.refl _ _).drew)).mono ?_
              intro e w4 hret
              obtain ⟨Ax, cx, rfl, hL, hR4, hg⟩ := RetVal.open hret
              obtain ⟨v5, w5, hr5, hO5, hg5⟩ := app_val (W0 := wr.heap.size) (x := x) (((HO.out.keep (r := rb) (by omega) (w' := w4) (grown_of (Below.refl _ _).drew hg))).below ((Below.refl w4.heap.size w4).alloc (Nat.le_refl _) (.cells #[.int .i64 x.kind, .int .i64 x.num, .string (strB x.str), .slice Ax x.elems.length cx] 85))) (Box.new w4 [.int .i64 x.kind, .int .i64 x.num, .string (strB x.str), .slice Ax x.elems.length cx] 85) ((hL.keep (Keeps.of ((Below.refl w4.heap.size w4).alloc (Nat.le_refl _) (.cells #[.int .i64 x.kind, .int .i64 x.num, .string (strB x.str), .slice Ax x.elems.length cx] 85))))) hBw HROW.out (by have := hg.size; simp at this ⊢; omega) HXL.out
              obtain ⟨A5, c5, hv5⟩ := hO5.form
              rw [HXL2.out] at hv5
              subst hv5
              have X4 := X.same (w' := w4) (hg.block w.heap.size yz (by intro e; injection e with e; omega))
              have y4 : w4.cell? ⟨w.heap.size, 3, none⟩ = some (.slice A k cv) := X4.cell 3
              have yz4 : w.heap.size < w4.heap.size := X4.lt
              refine hK _ _ ?_
              clear hK K
              refine wpAny_ready (rs := [6]) (by kernel_rfl) (by simp) ?_
              refine (AllReady.cons rfl (fun K hK => ?_) AllReady.nil)
              · go_simp
                refine hK _ _ ?_
                clear hK K
                refine wpAny_ready (rs := [7]) (by kernel_rfl) (by simp) ?_
                refine (AllReady.cons rfl (fun K hK => ?_) AllReady.nil)
                · refine step_app (by rfl) _ _ _ (by rfl) _ _ (by rfl) (by rfl) hr5 ?_
                  refine hK _ _ ?_
                  clear hK K
                  have X5 := (X4.alloc (.cells #[.int .i64 x.kind, .int .i64 x.num, .string (strB x.str), .slice Ax x.elems.length cx] 85)).same (w' := w5) (hg5.block w.heap.size (by simp; omega) (fun e => by have := (HO.out.lt e.symm).1; omega))
                  have y5 : w5.cell? ⟨w.heap.size, 3, none⟩ = some (.slice A k cv) := X5.cell 3
                  have f5 := X5.free 3
                  have yz5 := X5.lt
                  refine wpAny_ready (rs := [8]) (by kernel_rfl) (by simp) ?_
                  refine (AllReady.cons rfl (fun K hK => ?_) AllReady.nil)
                  · go_simp
                    refine hK _ _ ?_
                    clear hK K
                    refine wpAny_ready (rs := [9]) (by kernel_rfl) (by simp) ?_
                    refine (AllReady.cons rfl (fun K hK => ?_) AllReady.nil)
                    · go_simp
                      refine hK _ _ ?_
                      clear hK K
                      refine wpAny_done (by kernel_rfl) ?_ _
                      have HO6 := Lib.hid (hO5.set_other (by omega) (a := ⟨w.heap.size, 3, none⟩) (Nat.lt_succ_self _) (.slice A5 (k + 1) c5))
                      have X6 := X5.set 3 (.slice A5 (k + 1) c5)
                      have hg6 : w.grownBy w5 (some rb) := Rd.grown_row (grown_two HG.out (grown_of (Below.refl _ _).drew hg)) hg5 (fun g hgo => by have := (HO.out.lt hgo).1; omega) 
                      have HG6 := Lib.hid (grown_set hg6 (a := ⟨w.heap.size, 3, none⟩) (Nat.le_refl _) (.slice A5 (k + 1) c5))
                      have HR6 := Lib.hid (((hR4.keep ((Below.refl w4.heap.size w4).alloc (Nat.le_refl _) (.cells #[.int .i64 x.kind, .int .i64 x.num, .string (strB x.str), .slice Ax x.elems.length cx] 85))).keepG hg5 (fun g hgo => by have := (HO.out.lt hgo).1; have := HD.out; omega)).set (a := ⟨w.heap.size, 3, none⟩) HD.out hne' (.slice A5 (k + 1) c5))
                      clear hret hL hR4 hg hg5 hr5 hO5 X4 y4 yz4 X5 y5 f5 yz5 hg6 HO X HR HG HC HROW HXL y3 y3' yz
                      go_wp2
                      exact ⟨⟨k + 1, xs ++ [x], _, q2, by omega, by go_num, HXL2, HO6, X6, HR6, HG6, HT2, HQ8⟩, by simp [intOf]; omega⟩
          · go_simp
            refine (HC.out _ ((Below.refl _ _).drew)).mono ?_
            intro e w4 hret
            obtain ⟨Ax, cx, rfl, hL, hR4, hg⟩ := RetVal.open hret
            obtain ⟨v5, w5, hr5, hO5, hg5⟩ := app_val (W0 := wr.heap.size) (x := x) (((HO.out.keep (r := rb) (by omega) (w' := w4) (grown_of (Below.refl _ _).drew hg))).below ((Below.refl w4.heap.size w4).alloc (Nat.le_refl _) (.cells #[.int .i64 x.kind, .int .i64 x.num, .string (strB x.str), .slice Ax x.elems.length cx] 85))) (Box.new w4 [.int .i64 x.kind, .int .i64 x.num, .string (strB x.str), .slice Ax x.elems.length cx] 85) ((hL.keep (Keeps.of ((Below.refl w4.heap.size w4).alloc (Nat.le_refl _) (.cells #[.int .i64 x.kind, .int .i64 x.num, .string (strB x.str), .slice Ax x.elems.length cx] 85))))) hBw HROW.out (by have := hg.size; simp at this ⊢; omega) HXL.out
            obtain ⟨A5, c5, hv5⟩ := hO5.form
            rw [HXL2.out] at hv5
            subst hv5
            have X4 := X.same (w' := w4) (hg.block w.heap.size yz (by intro e; injection e with e; omega))
            have y4 : w4.cell? ⟨w.heap.size, 3, none⟩ = some (.slice A k cv) := X4.cell 3
            have yz4 : w.heap.size < w4.heap.size := X4.lt
            refine hK _ _ ?_
            clear hK K
            refine wpAny_ready (rs := [1, 6]) (by kernel_rfl) (by simp) ?_
            refine (AllReady.cons rfl (fun K hK => ?_) (AllReady.cons rfl (fun K hK => ?_) AllReady.nil))
            · go_simp
              refine hK _ _ ?_
              clear hK K
              refine wpAny_ready (rs := [6]) (by kernel_rfl) (by simp) ?_
              refine (AllReady.cons rfl (fun K hK => ?_) AllReady.nil)
              · go_simp
                refine hK _ _ ?_
                clear hK K
                refine wpAny_ready (rs := [7]) (by kernel_rfl) (by simp) ?_
                refine (AllReady.cons rfl (fun K hK => ?_) AllReady.nil)
                · refine step_app (by rfl) _ _ _ (by rfl) _ _ (by rfl) (by rfl) hr5 ?_
                  refine hK _ _ ?_
                  clear hK K
                  have X5 := (X4.alloc (.cells #[.int .i64 x.kind, .int .i64 x.num, .string (strB x.str), .slice Ax x.elems.length cx] 85)).same (w' := w5) (hg5.block w.heap.size (by simp; omega) (fun e => by have := (HO.out.lt e.symm).1; omega))
                  have y5 : w5.cell? ⟨w.heap.size, 3, none⟩ = some (.slice A k cv) := X5.cell 3
                  have f5 := X5.free 3
                  have yz5 := X5.lt
                  refine wpAny_ready (rs := [8]) (by kernel_rfl) (by simp) ?_
                  refine (AllReady.cons rfl (fun K hK => ?_) AllReady.nil)
                  · go_simp
                    refine hK _ _ ?_
                    clear hK K
                    refine wpAny_ready (rs := [9]) (by kernel_rfl) (by simp) ?_
                    refine (AllReady.cons rfl (fun K hK => ?_) AllReady.nil)
                    · go_simp
                      refine hK _ _ ?_
                      clear hK K
                      refine wpAny_done (by kernel_rfl) ?_ _
                      have HO6 := Lib.hid (hO5.set_other (by omega) (a := ⟨w.heap.size, 3, none⟩) (Nat.lt_succ_self _) (.slice A5 (k + 1) c5))
                      have X6 := X5.set 3 (.slice A5 (k + 1) c5)
                      have hg6 : w.grownBy w5 (some rb) := Rd.grown_row (grown_two HG.out (grown_of (Below.refl _ _).drew hg)) hg5 (fun g hgo => by have := (HO.out.lt hgo).1; omega) 
                      have HG6 := Lib.hid (grown_set hg6 (a := ⟨w.heap.size, 3, none⟩) (Nat.le_refl _) (.slice A5 (k + 1) c5))
                      have HR6 := Lib.hid (((hR4.keep ((Below.refl w4.heap.size w4).alloc (Nat.le_refl _) (.cells #[.int .i64 x.kind, .int .i64 x.num, .string (strB x.str), .slice Ax x.elems.length cx] 85))).keepG hg5 (fun g hgo => by have := (HO.out.lt hgo).1; have := HD.out; omega)).set (a := ⟨w.heap.size, 3, none⟩) HD.out hne' (.slice A5 (k + 1) c5))
                      clear hret hL hR4 hg hg5 hr5 hO5 X4 y4 yz4 X5 y5 f5 yz5 hg6 HO X HR HG HC HROW HXL y3 y3' yz
                      go_wp2
                      exact ⟨⟨k + 1, xs ++ [x], _, q2, by omega, by go_num, HXL2, HO6, X6, HR6, HG6, HT2, HQ8⟩, by simp [intOf]; omega⟩
            · go_simp
              refine hK _ _ ?_
              clear hK K
              refine wpAny_ready (rs := [1]) (by kernel_rfl) (by simp) ?_
              refine (AllReady.cons rfl (fun K hK => ?_) AllReady.nil)
              · go_simp
                refine hK _ _ ?_
                clear hK K
                refine wpAny_ready (rs := [7]) (by kernel_rfl) (by simp) ?_
                refine (AllReady.cons rfl (fun K hK => ?_) AllReady.nil)
                · refine step_app (by rfl) _ _ _ (by rfl) _ _ (by rfl) (by rfl) hr5 ?_
                  refine hK _ _ ?_
                  clear hK K
                  have X5 := (X4.alloc (.cells #[.int .i64 x.kind, .int .i64 x.num, .string (strB x.str), .slice Ax x.elems.length cx] 85)).same (w' := w5) (hg5.block w.heap.size (by simp; omega) (fun e => by have := (HO.out.lt e.symm).1; omega))
                  have y5 : w5.cell? ⟨w.heap.size, 3, none⟩ = some (.slice A k cv) := X5.cell 3
                  have f5 := X5.free 3
                  have yz5 := X5.lt
                  refine wpAny_ready (rs := [8]) (by kernel_rfl) (by simp) ?_
                  refine (AllReady.cons rfl (fun K hK => ?_) AllReady.nil)
                  · go_simp
                    refine hK _ _ ?_
                    clear hK K
                    refine wpAny_ready (rs := [9]) (by kernel_rfl) (by simp) ?_
                    refine (AllReady.cons rfl (fun K hK => ?_) AllReady.nil)
                    · go_simp
                      refine hK _ _ ?_
                      clear hK K
                      refine wpAny_done (by kernel_rfl) ?_ _
                      have HO6 := Lib.hid (hO5.set_other (by omega) (a := ⟨w.heap.size, 3, none⟩) (Nat.lt_succ_self _) (.slice A5 (k + 1) c5))
                      have X6 := X5.set 3 (.slice A5 (k + 1) c5)
                      have hg6 : w.grownBy w5 (some rb) := Rd.grown_row (grown_two HG.out (grown_of (Below.refl _ _).drew hg)) hg5 (fun g hgo => by have := (HO.out.lt hgo).1; omega) 
                      have HG6 := Lib.hid (grown_set hg6 (a := ⟨w.heap.size, 3, none⟩) (Nat.le_refl _) (.slice A5 (k + 1) c5))
                      have HR6 := Lib.hid (((hR4.keep ((Below.refl w4.heap.size w4).alloc (Nat.le_refl _) (.cells #[.int .i64 x.kind, .int .i64 x.num, .string (strB x.str), .slice Ax x.elems.length cx] 85))).keepG hg5 (fun g hgo => by have := (HO.out.lt hgo).1; have := HD.out; omega)).set (a := ⟨w.heap.size, 3, none⟩) HD.out hne' (.slice A5 (k + 1) c5))
                      clear hret hL hR4 hg hg5 hr5 hO5 X4 y4 yz4 X5 y5 f5 yz5 hg6 HO X HR HG HC HROW HXL y3 y3' yz
                      go_wp2
                      exact ⟨⟨k + 1, xs ++ [x], _, q2, by omega, by go_num, HXL2, HO6, X6, HR6, HG6, HT2, HQ8⟩, by simp [intOf]; omega⟩
      · obtain rfl : k = n := by omega
        have hTn : some (xs, q) = TT := by
          rw [← HTT.out, Nat.sub_self, rdMany]
          simp
        subst hTn
        have hT3 : some (Val.mk 3 0 [] xs, q) = T := hT0.out
        subst hT3
        have HV := Lib.hid (HO.out.done (by rw [hxl.out]; simp only [maxLen]; omega))
        replace hxl := Lib.hid hxl.out
        have yz := X.lt
        have y0 : wr.cell? ⟨w.heap.size, 0, none⟩ = some (.int .i64 3) := X.cell 0
        have y1 : wr.cell? ⟨w.heap.size, 1, none⟩ = some (.int .i64 0) := X.cell 1
        have y2 : wr.cell? ⟨w.heap.size, 2, none⟩ = some (.string ⟨#[]⟩) := X.cell 2
        have y3 : wr.cell? ⟨w.heap.size, 3, none⟩ = some (.slice A k cv) := X.cell 3
        have f0 := X.free 0
        have f1 := X.free 1
        have f2 := X.free 2
        have f3 := X.free 3
        clear HO HTT hT0
        go_wp2
        clear y0 y1 y2 y3 f0 f1 f2 f3 yz
        have XZ := ((((X.set 0 (.int .i64 3)).set 1 (.int .i64 0)).set 2 (.string ⟨#[]⟩)).set 3 (.slice A k cv))
        have HGZ := Lib.hid (grown_set (grown_set (grown_set (grown_set HG.out (a := ⟨w.heap.size, 0, none⟩) (Nat.le_refl _) (.int .i64 3)) (a := ⟨w.heap.size, 1, none⟩) (Nat.le_refl _) (.int .i64 0)) (a := ⟨w.heap.size, 2, none⟩) (Nat.le_refl _) (.string ⟨#[]⟩)) (a := ⟨w.heap.size, 3, none⟩) (Nat.le_refl _) (.slice A k cv))
        have HRZ := Lib.hid ((((HR.out.set (a := ⟨w.heap.size, 0, none⟩) HD.out hne' (.int .i64 3)).set (a := ⟨w.heap.size, 1, none⟩) HD.out hne' (.int .i64 0)).set (a := ⟨w.heap.size, 2, none⟩) HD.out hne' (.string ⟨#[]⟩)).set (a := ⟨w.heap.size, 3, none⟩) HD.out hne' (.slice A k cv))
        have HVZ := Lib.hid ((ValsP.set (ValsP.set (ValsP.set (ValsP.set HV.out (a := ⟨w.heap.size, 0, none⟩) (fun h => by have := h; simp at this; omega) (.int .i64 3)) (a := ⟨w.heap.size, 1, none⟩) (fun h => by have := h; simp at this; omega) (.int .i64 0)) (a := ⟨w.heap.size, 2, none⟩) (fun h => by have := h; simp at this; omega) (.string ⟨#[]⟩)) (a := ⟨w.heap.size, 3, none⟩) (fun h => by have := h; simp at this; omega) (.slice A k cv)))
        clear X HG HR
        generalize ((((wr.setCell ⟨w.heap.size, 0, none⟩ (.int .i64 3)).setCell ⟨w.heap.size, 1, none⟩ (.int .i64 0)).setCell ⟨w.heap.size, 2, none⟩ (.string ⟨#[]⟩)).setCell ⟨w.heap.size, 3, none⟩ (.slice A k cv)) = Z at XZ HGZ HRZ HVZ ⊢
        have z0 : Z.cell? ⟨w.heap.size, 0, none⟩ = some (.int .i64 3) := XZ.cell 0
        have z1 : Z.cell? ⟨w.heap.size, 1, none⟩ = some (.int .i64 0) := XZ.cell 1
        have z2 : Z.cell? ⟨w.heap.size, 2, none⟩ = some (.string ⟨#[]⟩) := XZ.cell 2
        have z3 : Z.cell? ⟨w.heap.size, 3, none⟩ = some (.slice A k cv) := XZ.cell 3
        refine bodyPost_ret (v := .agg #[.int .i64 3, .int .i64 0, .string ⟨#[]⟩, .slice A k cv]) (by simp [results, Try.results84, go_sem, z0, z1, z2, z3]) rfl ?_
        exact ⟨.slice A k cv, by rw [← hxl.out]; rfl, HVZ.out.weak (fun b hb _ => Nat.le_of_succ_le hb), HRZ.out, HGZ.out⟩


end Go.Proofs.Ytmbifmmkccghfaa

/-
  Contract of the reader's value, whole; the deferred function of Decode. No condition.
-/
namespace Go.Proofs.Ytmbifmmkccghfaa
open Go.RowKit

theorem ValR.all (m : Nat) : ValR m := by
  induction m with
  | zero =>
    intro l D rb w dep T hR hD hl h0 hd hT
    rcases l with _ | ⟨c, t⟩
    · obtain rfl : none = T := (rdVal_nil 0).symm.trans hT.out
      exact value_0 0 D rb w hR hD dep
    · by_cases h1 : c = 1
      · subst h1
        exact value_1 t 0 D rb w hR hD dep T (by rw [rdVal_one] at hT; exact hT)
      · by_cases h2 : c = 2
        · subst h2
          exact value_2 t 0 D rb w hR hD dep T (by rw [rdVal_two] at hT; exact hT)
        · by_cases h3 : c = 3
          · subst h3
            obtain rfl : none = T := (rdVal_zero t).symm.trans hT.out
            exact value_3no t 0 D rb w hR hD dep (by omega)
          · obtain rfl : none = T := (rdVal_no 0 t h1 h2 h3).symm.trans hT.out
            exact value_no c t h1 h2 h3 0 D rb w hR hD dep
  | succ m ih =>
    intro l D rb w dep T hR hD hl h0 hd hT
    rcases l with _ | ⟨c, t⟩
    · obtain rfl : none = T := (rdVal_nil _).symm.trans hT.out
      exact value_0 _ D rb w hR hD dep
    · by_cases h1 : c = 1
      · subst h1
        exact value_1 t _ D rb w hR hD dep T (by rw [rdVal_one] at hT; exact hT)
      · by_cases h2 : c = 2
        · subst h2
          exact value_2 t _ D rb w hR hD dep T (by rw [rdVal_two] at hT; exact hT)
        · by_cases h3 : c = 3
          · subst h3
            exact value_3 t m D rb w hR hD dep h0 hd ih (by simp at hl; omega) T (by rw [rdVal_list] at hT; exact hT)
          · obtain rfl : none = T := (rdVal_no _ t h1 h2 h3).symm.trans hT.out
            exact value_no c t h1 h2 h3 _ D rb w hR hD dep

structure TwoC (w w' : World) (v e : Nat) : Prop where
  os : w'.os = w.os
  tape : w'.tape = w.tape
  output : w'.output = w.output
  size : w'.heap.size = w.heap.size
  block : ∀ k, k ≠ v → k ≠ e → w'.heap[k]? = w.heap[k]?
theorem TwoC.refl (w : World) (v e : Nat) : TwoC w w v e := ⟨rfl, rfl, rfl, rfl, fun _ _ _ => rfl⟩
theorem TwoC.setv {w w' : World} {v e : Nat} (h : TwoC w w' v e) (o : Nat) (u : Value) : TwoC w (w'.setCell ⟨v, o, none⟩ u) v e :=
  ⟨h.os, h.tape, h.output, by simpa using h.size, fun k h1 h2 => (Below.heap_setCell w' ⟨v, o, none⟩ u k h1).trans (h.block k h1 h2)⟩
theorem TwoC.sete {w w' : World} {v e : Nat} (h : TwoC w w' v e) (o : Nat) (u : Value) : TwoC w (w'.setCell ⟨e, o, none⟩ u) v e :=
  ⟨h.os, h.tape, h.output, by simpa using h.size, fun k h1 h2 => (Below.heap_setCell w' ⟨e, o, none⟩ u k h2).trans (h.block k h1 h2)⟩
theorem TwoC.drew {w w' : World} {v e : Nat} (h : TwoC w w' v e) : TwoC w w'.drew v e := ⟨h.os, h.tape, h.output, h.size, h.block⟩
theorem TwoC.below {w0 w w' : World} {v e B : Nat} (h : TwoC w w' v e) (hb : Below B w0 w) (h1 : B ≤ v) (h2 : B ≤ e) : Below B w0 w' :=
  ⟨h.os.trans hb.os, h.tape.trans hb.tape, h.output.trans hb.output, by rw [h.size]; exact hb.size, fun k hk => (h.block k (by omega) (by omega)).trans (hb.block k hk)⟩

def Caught (vb eb : Nat) (w : World) (w' : World) : Prop := Box w' vb [.int .i64 0, .int .i64 0, .string ⟨#[]⟩, .slice none 0 0] ∧ Box w' eb [.int .i64 10] ∧ TwoC w w' vb eb

theorem Caught.drew {vb eb : Nat} {w w' : World} (h : Caught vb eb w w') : Caught vb eb w w'.drew := ⟨h.1.drew, h.2.1.drew, h.2.2.drew⟩
theorem caughtA {vb eb : Nat} {v0 v1 v2 v3 e0 : Value} {w : World} (hne : vb ≠ eb) (hv : Box w vb [v0, v1, v2, v3]) (he : Box w eb [e0]) : Caught vb eb w (((((w.setCell ⟨vb, 0, none⟩ (.int .i64 0)).setCell ⟨vb, 1, none⟩ (.int .i64 0)).setCell ⟨vb, 2, none⟩ (.string ⟨#[]⟩)).setCell ⟨vb, 3, none⟩ (.slice none 0 0)).setCell ⟨eb, 0, none⟩ (.int .i64 10)) :=
  ⟨(((((hv.set 0 _).set 1 _).set 2 _).set 3 _).other (a := ⟨eb, 0, none⟩) hne _), (((((he.other (a := ⟨vb, 0, none⟩) (Ne.symm hne) _).other (a := ⟨vb, 1, none⟩) (Ne.symm hne) _).other (a := ⟨vb, 2, none⟩) (Ne.symm hne) _).other (a := ⟨vb, 3, none⟩) (Ne.symm hne) _).set 0 _), ((((((TwoC.refl w vb eb).setv 0 _).setv 1 _).setv 2 _).setv 3 _).sete 0 _)⟩
theorem caughtB {vb eb : Nat} {v0 v1 v2 v3 e0 : Value} {w : World} (hne : vb ≠ eb) (hv : Box w vb [v0, v1, v2, v3]) (he : Box w eb [e0]) : Caught vb eb w (((((w.setCell ⟨eb, 0, none⟩ (.int .i64 10)).setCell ⟨vb, 0, none⟩ (.int .i64 0)).setCell ⟨vb, 1, none⟩ (.int .i64 0)).setCell ⟨vb, 2, none⟩ (.string ⟨#[]⟩)).setCell ⟨vb, 3, none⟩ (.slice none 0 0)) :=
  ⟨(((((hv.other (a := ⟨eb, 0, none⟩) hne _).set 0 _).set 1 _).set 2 _).set 3 _), (((((he.set 0 _).other (a := ⟨vb, 0, none⟩) (Ne.symm hne) _).other (a := ⟨vb, 1, none⟩) (Ne.symm hne) _).other (a := ⟨vb, 2, none⟩) (Ne.symm hne) _).other (a := ⟨vb, 3, none⟩) (Ne.symm hne) _), ((((((TwoC.refl w vb eb).sete 0 _).setv 0 _).setv 1 _).setv 2 _).setv 3 _)⟩

set_option maxRecDepth 100000 in
set_option maxHeartbeats 2000000 in
theorem catch_panicking (vb eb : Nat) (v0 v1 v2 v3 e0 : Value) (w : World) (hne : vb ≠ eb) (hv : Box w vb [v0, v1, v2, v3]) (he : Box w eb [e0]) :
    CallsD Try.prog 83 #[.pointer (some ⟨vb, 0, none⟩), .pointer (some ⟨eb, 0, none⟩)] (.panicking bad) w fun e u' w' =>
      e = .returned (.tuple #[]) ∧ u' = .panicking [{ v := .iface 33 (.int .i64 10), recovered := true }] ∧ Caught vb eb w w' := by
  refine callsD_of_wpS Try.func83 rfl fun c₀ cs hu => ?_
  apply wpS_seq
  apply wpS_region
  simp [wpOpsS, go_sem, recoverD, hu, Try.ntmps83, Exit.thenS, bad]
  refine wpS_of_wp ?_
  have x0 : w.cell? ⟨vb, 0, none⟩ = some v0 := hv.cell 0
  have x1 : w.cell? ⟨vb, 1, none⟩ = some v1 := hv.cell 1
  have x2 : w.cell? ⟨vb, 2, none⟩ = some v2 := hv.cell 2
  have x3 : w.cell? ⟨vb, 3, none⟩ = some v3 := hv.cell 3
  have f0 := hv.free 0
  have f1 := hv.free 1
  have f2 := hv.free 2
  have f3 := hv.free 3
  have y0 : w.cell? ⟨eb, 0, none⟩ = some e0 := he.cell 0
  have g0 := he.free 0
  have vz := hv.lt
  have ez := he.lt
  have hne' : eb ≠ vb := Ne.symm hne
  have hta : ∀ w : World, (Instr.typeAssert (.iface 33 (.int .i64 10)) 20 33 false).run Try.prog w = .ok (.int .i64 10) w := fun _ => by rfl
  go_wp2_with fail
  go_region
  all_goals
    refine ⟨rfl, _, rfl, .tuple #[], by simp [results, Try.results83, go_sem], rfl, rfl, ?_⟩
    first
      | exact (caughtA hne hv he).drew
      | exact (caughtB hne hv he).drew

theorem catch_idle (vb eb : Nat) (w : World) :
    CallsD Try.prog 83 #[.pointer (some ⟨vb, 0, none⟩), .pointer (some ⟨eb, 0, none⟩)] .returning w fun e u' w' => e = .returned (.tuple #[]) ∧ u' = .returning ∧ w' = w := by
  refine callsD_of_wpS Try.func83 rfl fun c₀ cs hu => ?_
  apply wpS_seq
  apply wpS_region
  simp [wpOpsS, go_sem, recoverD, hu, Try.ntmps83, Exit.thenS]
  refine wpS_of_wp ?_
  go_wp2_with fail
  refine ⟨rfl, .returning, ?_, .tuple #[], by simp [results, Try.results83, go_sem], rfl, rfl, rfl⟩
  cases c₀
  simp_all

end Go.Proofs.Ytmbifmmkccghfaa
