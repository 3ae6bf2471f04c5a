/-
  Contract of the reader's value: all but lists. (Printed by gen_cw.py.)
-/
import Derived.Test.YtcokkloaljaanaaCV
namespace Go.Proofs.Ytcokkloaljaanaa
open Go.RowKit
attribute [local go_sem ↓ high] app_named

/-- What value does. -/
def RetVal (t : Option (Val × Bs)) (m D rb : Nat) (w : World) (e : Ending) (w' : World) : Prop :=
  match t with
  | some (x, r) => ∃ L, e = .returned (x.v L) ∧ ValsP w' (fun b => w.heap.size ≤ b) m L x.elems ∧ RdAt w' D rb r ∧ w.grownBy w' (some rb)
  | none => Fails rb w e w'
theorem grown_set {w w1 : World} {r : Option Nat} (h : w.grownBy w1 r) {a : Addr} (ha : w.heap.size ≤ a.block) (v : Value) : w.grownBy (w1.setCell a v) r :=
  ⟨h.os, h.tape, h.output, by simpa using h.size, fun k hk hne => (Below.heap_setCell w1 a v k (by omega)).trans (h.block k hk hne)⟩
theorem grown_of {w w1 w2 : World} {r : Option Nat} (h1 : Below w.heap.size w w1) (h2 : w1.grownBy w2 r) : w.grownBy w2 r :=
  ⟨h2.os.trans h1.os, h2.tape.trans h1.tape, h2.output.trans h1.output, Nat.le_trans h1.size h2.size, fun k hk hne => (h2.block k (Nat.lt_of_lt_of_le hk h1.size) hne).trans (h1.block k hk)⟩
theorem RdAt.set {w : World} {D rb : Nat} {l : Bs} (h : RdAt w D rb l) {a : Addr} (h1 : D ≤ a.block) (h2 : a.block ≠ rb) (v : Value) : RdAt (w.setCell a v) D rb l :=
  h.keepG (grownBy_set (w := w) (a := a) v) fun k hk => by injection hk with hk; subst hk; exact ⟨h1, h2⟩
theorem ValsP.set {w : World} {S : Nat → Prop} {d : Nat} {L : Value} {l : List Val} (h : ValsP w S d L l) {a : Addr} (h1 : ¬ S a.block) (v : Value) : ValsP (w.setCell a v) S d L l := h.keep (Keeps.set w h1 v)
theorem RdAt.ne {w : World} {D rb : Nat} {l : Bs} (h : RdAt w D rb l) : rb < w.heap.size := h.lt
/-- A slice of bytes that was taken, as a string. -/
theorem take_str {w : World} {S : Nat → Prop} {V : Value} {l : Bs} (h : BsAt w S V l) : (convert 27 9 V).run Try.prog w = .ok (.string (strB l)) w := h.str

set_option maxRecDepth 100000 in
set_option maxHeartbeats 4000000 in
theorem value_0 (m D rb : Nat) (w : World) (hR : RdAt w D rb []) (hD : D ≤ w.heap.size) (dep : Int) : Calls Try.prog 32 #[.pointer (some ⟨rb, 0, none⟩), .int .i64 dep] w (RetVal none m D rb w) := by
  have hst := (Below.refl w.heap.size w).alloc (Nat.le_refl _) (.cells #[.int .i64 0, .int .i64 0, .string ⟨#[]⟩, .slice none 0 0] 24)
  have X := Box.new w [.int .i64 0, .int .i64 0, .string ⟨#[]⟩, .slice none 0 0] 24
  have hrb := hR.lt
  have HR := Lib.hid (hR.keep hst)
  have ST := Lib.hid hst
  have HD := Lib.hid hD
  have hne : rb ≠ w.heap.size := by omega
  have hne' : w.heap.size ≠ rb := by omega
  clear hst hR hD
  go_enter Try.func32, Try.ntmps32
  go_wp2_with fail
  refine (take_no [] 1 D rb _ HR.out (by simp)).mono ?_
  rintro e w1 ⟨rfl, hg⟩
  have HF : Hid (RetVal none m D rb w (.panicked bad) w1) := ⟨rfl, grown_of ST.out hg⟩
  clear hg HR X ST
  go_wp2
  exact ⟨rfl, HF.out⟩

set_option maxRecDepth 100000 in
set_option maxHeartbeats 4000000 in
theorem value_1 (t : Bs) (m D rb : Nat) (w : World) (hR : RdAt w D rb (1 :: t)) (hD : D ≤ w.heap.size) (dep : Int) (T : Option (Val × Bs)) (hT : Hid ((rdNum 0 0 t).map (fun p => (Val.mk 1 (zag p.1) [] [], p.2)) = T)) : Calls Try.prog 32 #[.pointer (some ⟨rb, 0, none⟩), .int .i64 dep] w (RetVal T m D rb w) := by
  have hst := (Below.refl w.heap.size w).alloc (Nat.le_refl _) (.cells #[.int .i64 0, .int .i64 0, .string ⟨#[]⟩, .slice none 0 0] 24)
  have X := Box.new w [.int .i64 0, .int .i64 0, .string ⟨#[]⟩, .slice none 0 0] 24
  have hrb := hR.lt
  have HR := Lib.hid (hR.keep hst)
  have ST := Lib.hid hst
  have HD := Lib.hid hD
  have hne : rb ≠ w.heap.size := by omega
  have hne' : w.heap.size ≠ rb := by omega
  clear hst hR hD
  go_enter Try.func32, Try.ntmps32
  go_wp2_with fail
  refine (take_yes (1 :: t) 1 D rb _ HR.out (by simp)).mono ?_
  intro e w1 hret
  obtain ⟨b, off, cc, rfl, hc, hR1, hg⟩ := hret.byte
  replace hc : w1.cell? ⟨b, off, none⟩ = some (.int .u8 1) := hc
  have X1 := X.same (hg.block _ X.lt (by intro e; injection e with e; omega))
  have hG1 := grown_of ST.out hg
  have xz := X1.lt
  have x0 : w1.cell? ⟨w.heap.size, 0, none⟩ = some (.int .i64 0) := X1.cell 0
  have xf := X1.free 0
  have X2 := X1.set 0 (.int .i64 1)
  have HG2 := Lib.hid (grown_set hG1 (a := ⟨w.heap.size, 0, none⟩) (Nat.le_refl _) (.int .i64 1))
  have HR2 := Lib.hid (hR1.keepG (grownBy_set (w := w1) (a := ⟨w.heap.size, 0, none⟩) (.int .i64 1)) (fun k hk => by injection hk with hk; subst hk; exact ⟨HD.out, hne'⟩))
  clear hret hR1 hg X X1 HR ST hG1
  rcases hn : rdNum 0 0 t with _ | ⟨u, r⟩
  · have hT0 : none = T := by rw [← hT.out, hn]; rfl
    subst hT0
    replace hn := Lib.hid hn
    clear hT
    go_wp2_with fail
    generalize w1.setCell ⟨w.heap.size, 0, none⟩ (.int .i64 1) = w2 at X2 HG2 HR2 ⊢
    clear hc x0 xf xz
    refine (number_any t D rb _ HR2.out none hn).mono ?_
    rintro e w3 ⟨rfl, hg⟩
    have HF : Hid (RetVal none m D rb w (.panicked bad) w3) := ⟨rfl, grown_two HG2.out hg⟩
    clear hg HR2 X2 HG2
    go_wp2
    exact ⟨rfl, HF.out⟩
  · obtain ⟨hu, _⟩ := rdNum_lt (by omega) (by decide) hn
    have hT0 : some (Val.mk 1 (zag u) [] [], r) = T := by rw [← hT.out, hn]; rfl
    subst hT0
    replace hn := Lib.hid hn
    replace hu := Lib.hid hu
    clear hT
    go_wp2_with fail
    generalize w1.setCell ⟨w.heap.size, 0, none⟩ (.int .i64 1) = w2 at X2 HG2 HR2 ⊢
    clear hc x0 xf xz
    refine (number_any t D rb _ HR2.out _ hn).mono ?_
    rintro e w3 ⟨rfl, hR3, hg⟩
    have X3 := X2.same (hg.block _ X2.lt (by intro e; injection e with e; omega))
    have HG3 := Lib.hid (grown_two HG2.out hg)
    have HR3 := Lib.hid hR3
    have y0 : w3.cell? ⟨w.heap.size, 0, none⟩ = some (.int .i64 1) := X3.cell 0
    have y1 : w3.cell? ⟨w.heap.size, 1, none⟩ = some (.int .i64 0) := X3.cell 1
    have y2 : w3.cell? ⟨w.heap.size, 2, none⟩ = some (.string ⟨#[]⟩) := X3.cell 2
    have y3 : w3.cell? ⟨w.heap.size, 3, none⟩ = some (.slice none 0 0) := X3.cell 3
    have f0 := X3.free 0
    have f1 := X3.free 1
    have f2 := X3.free 2
    have f3 := X3.free 3
    have yz := X3.lt
    clear hR3 hg X2 HG2 HR2
    go_wp2_with (go_at_call 45; refine (cSigned_any u _ hu.out).mono ?_; rintro e w9 ⟨rfl, rfl⟩)
    clear y0 y1 y2 y3 f0 f1 f2 f3 yz
    have XZ := (((((X3.set 1 (.int .i64 (zag u))).set 0 (.int .i64 1)).set 1 (.int .i64 (zag u))).set 2 (.string ⟨#[]⟩)).set 3 (.slice none 0 0))
    have HGZ := Lib.hid (grown_set (grown_set (grown_set (grown_set (grown_set HG3.out (a := ⟨w.heap.size, 1, none⟩) (Nat.le_refl _) (.int .i64 (zag u))) (a := ⟨w.heap.size, 0, none⟩) (Nat.le_refl _) (.int .i64 1)) (a := ⟨w.heap.size, 1, none⟩) (Nat.le_refl _) (.int .i64 (zag u))) (a := ⟨w.heap.size, 2, none⟩) (Nat.le_refl _) (.string ⟨#[]⟩)) (a := ⟨w.heap.size, 3, none⟩) (Nat.le_refl _) (.slice none 0 0))
    have HRZ := Lib.hid (((((HR3.out.set (a := ⟨w.heap.size, 1, none⟩) HD.out hne' (.int .i64 (zag u))).set (a := ⟨w.heap.size, 0, none⟩) HD.out hne' (.int .i64 1)).set (a := ⟨w.heap.size, 1, none⟩) HD.out hne' (.int .i64 (zag u))).set (a := ⟨w.heap.size, 2, none⟩) HD.out hne' (.string ⟨#[]⟩)).set (a := ⟨w.heap.size, 3, none⟩) HD.out hne' (.slice none 0 0))
    have HVZ := Lib.hid ((ValsP.set (ValsP.set (ValsP.set (ValsP.set (ValsP.set (valsP_nil w3 (fun b => w.heap.size + 1 ≤ b) m) (a := ⟨w.heap.size, 1, none⟩) (fun h => by have := h; simp at this; omega) (.int .i64 (zag u))) (a := ⟨w.heap.size, 0, none⟩) (fun h => by have := h; simp at this; omega) (.int .i64 1)) (a := ⟨w.heap.size, 1, none⟩) (fun h => by have := h; simp at this; omega) (.int .i64 (zag u))) (a := ⟨w.heap.size, 2, none⟩) (fun h => by have := h; simp at this; omega) (.string ⟨#[]⟩)) (a := ⟨w.heap.size, 3, none⟩) (fun h => by have := h; simp at this; omega) (.slice none 0 0)))
    clear X3 HG3 HR3
    generalize (((((w3.setCell ⟨w.heap.size, 1, none⟩ (.int .i64 (zag u))).setCell ⟨w.heap.size, 0, none⟩ (.int .i64 1)).setCell ⟨w.heap.size, 1, none⟩ (.int .i64 (zag u))).setCell ⟨w.heap.size, 2, none⟩ (.string ⟨#[]⟩)).setCell ⟨w.heap.size, 3, none⟩ (.slice none 0 0)) = Z at XZ HGZ HRZ HVZ ⊢
    have z0 : Z.cell? ⟨w.heap.size, 0, none⟩ = some (.int .i64 1) := XZ.cell 0
    have z1 : Z.cell? ⟨w.heap.size, 1, none⟩ = some (.int .i64 (zag u)) := XZ.cell 1
    have z2 : Z.cell? ⟨w.heap.size, 2, none⟩ = some (.string ⟨#[]⟩) := XZ.cell 2
    have z3 : Z.cell? ⟨w.heap.size, 3, none⟩ = some (.slice none 0 0) := XZ.cell 3
    refine bodyPost_ret (v := .agg #[.int .i64 1, .int .i64 (zag u), .string ⟨#[]⟩, .slice none 0 0]) (by simp [results, Try.results32, go_sem, z0, z1, z2, z3]) rfl ?_
    exact ⟨.slice none 0 0, rfl, HVZ.out.weak (fun b hb _ => Nat.le_of_succ_le hb), HRZ.out, HGZ.out⟩

set_option maxRecDepth 100000 in
set_option maxHeartbeats 4000000 in
theorem value_2 (t : Bs) (m D rb : Nat) (w : World) (hR : RdAt w D rb (2 :: t)) (hD : D ≤ w.heap.size) (dep : Int) (T : Option (Val × Bs)) (hT : Hid ((rdLen t).map (fun p => (Val.mk 2 0 (p.2.take p.1) [], p.2.drop p.1)) = T)) : Calls Try.prog 32 #[.pointer (some ⟨rb, 0, none⟩), .int .i64 dep] w (RetVal T m D rb w) := by
  have hst := (Below.refl w.heap.size w).alloc (Nat.le_refl _) (.cells #[.int .i64 0, .int .i64 0, .string ⟨#[]⟩, .slice none 0 0] 24)
  have X := Box.new w [.int .i64 0, .int .i64 0, .string ⟨#[]⟩, .slice none 0 0] 24
  have hrb := hR.lt
  have HR := Lib.hid (hR.keep hst)
  have ST := Lib.hid hst
  have HD := Lib.hid hD
  have hne : rb ≠ w.heap.size := by omega
  have hne' : w.heap.size ≠ rb := by omega
  clear hst hR hD
  go_enter Try.func32, Try.ntmps32
  go_wp2_with fail
  refine (take_yes (2 :: t) 1 D rb _ HR.out (by simp)).mono ?_
  intro e w1 hret
  obtain ⟨b, off, cc, rfl, hc, hR1, hg⟩ := hret.byte
  replace hc : w1.cell? ⟨b, off, none⟩ = some (.int .u8 2) := hc
  have X1 := X.same (hg.block _ X.lt (by intro e; injection e with e; omega))
  have hG1 := grown_of ST.out hg
  have xz := X1.lt
  have x0 : w1.cell? ⟨w.heap.size, 0, none⟩ = some (.int .i64 0) := X1.cell 0
  have xf := X1.free 0
  have X2 := X1.set 0 (.int .i64 2)
  have HG2 := Lib.hid (grown_set hG1 (a := ⟨w.heap.size, 0, none⟩) (Nat.le_refl _) (.int .i64 2))
  have HR2 := Lib.hid (hR1.keepG (grownBy_set (w := w1) (a := ⟨w.heap.size, 0, none⟩) (.int .i64 2)) (fun k hk => by injection hk with hk; subst hk; exact ⟨HD.out, hne'⟩))
  clear hret hR1 hg X X1 HR ST hG1
  rcases hn : rdLen t with _ | ⟨u, r⟩
  · have hT0 : none = T := by rw [← hT.out, hn]; rfl
    subst hT0
    replace hn := Lib.hid hn
    clear hT
    go_wp2_with fail
    generalize w1.setCell ⟨w.heap.size, 0, none⟩ (.int .i64 2) = w2 at X2 HG2 HR2 ⊢
    clear hc x0 xf xz
    refine (length_any t D rb _ HR2.out none hn).mono ?_
    rintro e w3 ⟨rfl, hg⟩
    have HF : Hid (RetVal none m D rb w (.panicked bad) w3) := ⟨rfl, grown_two HG2.out hg⟩
    clear hg HR2 X2 HG2
    go_wp2
    exact ⟨rfl, HF.out⟩
  · obtain ⟨_, hur⟩ := rdLen_some hn
    have hT0 : some (Val.mk 2 0 (r.take u) [], r.drop u) = T := by rw [← hT.out, hn]; rfl
    subst hT0
    replace hn := Lib.hid hn
    clear hT
    go_wp2_with fail
    generalize w1.setCell ⟨w.heap.size, 0, none⟩ (.int .i64 2) = w2 at X2 HG2 HR2 ⊢
    clear hc x0 xf xz
    refine (length_any t D rb _ HR2.out _ hn).mono ?_
    rintro e w3 ⟨rfl, hR3, hg⟩
    have X3 := X2.same (hg.block _ X2.lt (by intro e; injection e with e; omega))
    have HG3 := Lib.hid (grown_two HG2.out hg)
    have HR3 := Lib.hid hR3
    clear hR3 hg X2 HG2 HR2
    go_wp2_with fail
    refine (take_yes r u D rb _ HR3.out hur).mono ?_
    rintro e w4 ⟨At, ct, rfl, hBt, hR4, hg, _⟩
    have X4 := X3.same (hg.block _ X3.lt (by intro e; injection e with e; omega))
    have HG4 := Lib.hid (grown_two HG3.out hg)
    have HR4 := Lib.hid hR4
    have hstr := take_str hBt
    have hsl : Hid ((r.take u).length = u) := by rw [Hid, List.length_take]; omega
    clear hR4 hg X3 HG3 HR3 hBt
    generalize hs : r.take u = s at hstr hsl
    replace hs := Lib.hid hs
    have HSB : Hid (strB s = strB s) := rfl
    generalize hsb : strB s = sb at hstr HSB
    replace hsb := Lib.hid hsb
    clear HSB
    have y0 : w4.cell? ⟨w.heap.size, 0, none⟩ = some (.int .i64 2) := X4.cell 0
    have y1 : w4.cell? ⟨w.heap.size, 1, none⟩ = some (.int .i64 0) := X4.cell 1
    have y2 : w4.cell? ⟨w.heap.size, 2, none⟩ = some (.string ⟨#[]⟩) := X4.cell 2
    have y3 : w4.cell? ⟨w.heap.size, 3, none⟩ = some (.slice none 0 0) := X4.cell 3
    have f0 := X4.free 0
    have f1 := X4.free 1
    have f2 := X4.free 2
    have f3 := X4.free 3
    have yz := X4.lt
    go_wp2
    clear y0 y1 y2 y3 f0 f1 f2 f3 yz hstr
    have XZ := (((((X4.set 2 (.string sb)).set 0 (.int .i64 2)).set 1 (.int .i64 0)).set 2 (.string sb)).set 3 (.slice none 0 0))
    have HGZ := Lib.hid (grown_set (grown_set (grown_set (grown_set (grown_set HG4.out (a := ⟨w.heap.size, 2, none⟩) (Nat.le_refl _) (.string sb)) (a := ⟨w.heap.size, 0, none⟩) (Nat.le_refl _) (.int .i64 2)) (a := ⟨w.heap.size, 1, none⟩) (Nat.le_refl _) (.int .i64 0)) (a := ⟨w.heap.size, 2, none⟩) (Nat.le_refl _) (.string sb)) (a := ⟨w.heap.size, 3, none⟩) (Nat.le_refl _) (.slice none 0 0))
    have HRZ := Lib.hid (((((HR4.out.set (a := ⟨w.heap.size, 2, none⟩) HD.out hne' (.string sb)).set (a := ⟨w.heap.size, 0, none⟩) HD.out hne' (.int .i64 2)).set (a := ⟨w.heap.size, 1, none⟩) HD.out hne' (.int .i64 0)).set (a := ⟨w.heap.size, 2, none⟩) HD.out hne' (.string sb)).set (a := ⟨w.heap.size, 3, none⟩) HD.out hne' (.slice none 0 0))
    have HVZ := Lib.hid ((ValsP.set (ValsP.set (ValsP.set (ValsP.set (ValsP.set (valsP_nil w4 (fun b => w.heap.size + 1 ≤ b) m) (a := ⟨w.heap.size, 2, none⟩) (fun h => by have := h; simp at this; omega) (.string sb)) (a := ⟨w.heap.size, 0, none⟩) (fun h => by have := h; simp at this; omega) (.int .i64 2)) (a := ⟨w.heap.size, 1, none⟩) (fun h => by have := h; simp at this; omega) (.int .i64 0)) (a := ⟨w.heap.size, 2, none⟩) (fun h => by have := h; simp at this; omega) (.string sb)) (a := ⟨w.heap.size, 3, none⟩) (fun h => by have := h; simp at this; omega) (.slice none 0 0)))
    clear X4 HG4 HR4
    generalize (((((w4.setCell ⟨w.heap.size, 2, none⟩ (.string sb)).setCell ⟨w.heap.size, 0, none⟩ (.int .i64 2)).setCell ⟨w.heap.size, 1, none⟩ (.int .i64 0)).setCell ⟨w.heap.size, 2, none⟩ (.string sb)).setCell ⟨w.heap.size, 3, none⟩ (.slice none 0 0)) = Z at XZ HGZ HRZ HVZ ⊢
    have z0 : Z.cell? ⟨w.heap.size, 0, none⟩ = some (.int .i64 2) := XZ.cell 0
    have z1 : Z.cell? ⟨w.heap.size, 1, none⟩ = some (.int .i64 0) := XZ.cell 1
    have z2 : Z.cell? ⟨w.heap.size, 2, none⟩ = some (.string sb) := XZ.cell 2
    have z3 : Z.cell? ⟨w.heap.size, 3, none⟩ = some (.slice none 0 0) := XZ.cell 3
    refine bodyPost_ret (v := .agg #[.int .i64 2, .int .i64 0, .string sb, .slice none 0 0]) (by simp [results, Try.results32, go_sem, z0, z1, z2, z3]) rfl ?_
    exact ⟨.slice none 0 0, by rw [← hsb.out, ← hs.out]; rfl, HVZ.out.weak (fun b hb _ => Nat.le_of_succ_le hb), HRZ.out, HGZ.out⟩

set_option maxRecDepth 100000 in
set_option maxHeartbeats 4000000 in
theorem value_no (c : UInt8) (t : Bs) (h1 : c ≠ 1) (h2 : c ≠ 2) (h3 : c ≠ 3) (m D rb : Nat) (w : World) (hR : RdAt w D rb (c :: t)) (hD : D ≤ w.heap.size) (dep : Int) : Calls Try.prog 32 #[.pointer (some ⟨rb, 0, none⟩), .int .i64 dep] w (RetVal none m D rb w) := by
  have hst := (Below.refl w.heap.size w).alloc (Nat.le_refl _) (.cells #[.int .i64 0, .int .i64 0, .string ⟨#[]⟩, .slice none 0 0] 24)
  have X := Box.new w [.int .i64 0, .int .i64 0, .string ⟨#[]⟩, .slice none 0 0] 24
  have hrb := hR.lt
  have HR := Lib.hid (hR.keep hst)
  have ST := Lib.hid hst
  have HD := Lib.hid hD
  have hne : rb ≠ w.heap.size := by omega
  have hne' : w.heap.size ≠ rb := by omega
  have e1 : ((c.toNat : Int) == 1) = false := by have h : c.toNat ≠ 1 := fun h => h1 (UInt8.toNat_inj.1 h); simp; omega
  have e2 : ((c.toNat : Int) == 2) = false := by have h : c.toNat ≠ 2 := fun h => h2 (UInt8.toNat_inj.1 h); simp; omega
  have e3 : ((c.toNat : Int) == 3) = false := by have h : c.toNat ≠ 3 := fun h => h3 (UInt8.toNat_inj.1 h); simp; omega
  clear hst hR hD h1 h2 h3
  go_enter Try.func32, Try.ntmps32
  go_wp2_with fail
  refine (take_yes (c :: t) 1 D rb _ HR.out (by simp)).mono ?_
  intro e w1 hret
  obtain ⟨b, off, cc, rfl, hc, hR1, hg⟩ := hret.byte
  replace hc : w1.cell? ⟨b, off, none⟩ = some (.int .u8 (c.toNat : Int)) := hc
  have X1 := X.same (hg.block _ X.lt (by intro e; injection e with e; omega))
  have hG1 := grown_of ST.out hg
  have xz := X1.lt
  have x0 : w1.cell? ⟨w.heap.size, 0, none⟩ = some (.int .i64 0) := X1.cell 0
  have xf := X1.free 0
  have X2 := X1.set 0 (.int .i64 (c.toNat : Int))
  have HG2 := Lib.hid (grown_set hG1 (a := ⟨w.heap.size, 0, none⟩) (Nat.le_refl _) (.int .i64 (c.toNat : Int)))
  have HR2 := Lib.hid (hR1.keepG (grownBy_set (w := w1) (a := ⟨w.heap.size, 0, none⟩) (.int .i64 (c.toNat : Int))) (fun k hk => by injection hk with hk; subst hk; exact ⟨HD.out, hne'⟩))
  clear hret hR1 hg X X1 HR ST hG1
  have hcn : c.toNat < 256 := c.toNat_lt
  generalize c.toNat = cn at hc X2 HG2 HR2 e1 e2 e3 hcn
  go_wp2_with fail
  generalize w1.setCell ⟨w.heap.size, 0, none⟩ (.int .i64 cn) = w2 at X2 HG2 HR2 ⊢
  clear hc x0 xf xz
  refine (want_no _ _).mono ?_
  rintro e w3 ⟨rfl, rfl⟩
  have HF : Hid (RetVal none m D rb w (.panicked bad) w2) := ⟨rfl, HG2.out⟩
  clear HR2 X2 HG2
  go_wp2
  exact ⟨rfl, HF.out⟩

set_option maxRecDepth 100000 in
set_option maxHeartbeats 4000000 in
theorem value_3no (t : Bs) (m D rb : Nat) (w : World) (hR : RdAt w D rb (3 :: t)) (hD : D ≤ w.heap.size) (dep : Int) (hdep : 16 ≤ dep) : Calls Try.prog 32 #[.pointer (some ⟨rb, 0, none⟩), .int .i64 dep] w (RetVal none m D rb w) := by
  have hst := (Below.refl w.heap.size w).alloc (Nat.le_refl _) (.cells #[.int .i64 0, .int .i64 0, .string ⟨#[]⟩, .slice none 0 0] 24)
  have X := Box.new w [.int .i64 0, .int .i64 0, .string ⟨#[]⟩, .slice none 0 0] 24
  have hrb := hR.lt
  have HR := Lib.hid (hR.keep hst)
  have ST := Lib.hid hst
  have HD := Lib.hid hD
  have hne : rb ≠ w.heap.size := by omega
  have hne' : w.heap.size ≠ rb := by omega
  clear hst hR hD
  go_enter Try.func32, Try.ntmps32
  go_wp2_with fail
  refine (take_yes (3 :: t) 1 D rb _ HR.out (by simp)).mono ?_
  intro e w1 hret
  obtain ⟨b, off, cc, rfl, hc, hR1, hg⟩ := hret.byte
  replace hc : w1.cell? ⟨b, off, none⟩ = some (.int .u8 3) := hc
  have X1 := X.same (hg.block _ X.lt (by intro e; injection e with e; omega))
  have hG1 := grown_of ST.out hg
  have xz := X1.lt
  have x0 : w1.cell? ⟨w.heap.size, 0, none⟩ = some (.int .i64 0) := X1.cell 0
  have xf := X1.free 0
  have X2 := X1.set 0 (.int .i64 3)
  have HG2 := Lib.hid (grown_set hG1 (a := ⟨w.heap.size, 0, none⟩) (Nat.le_refl _) (.int .i64 3))
  have HR2 := Lib.hid (hR1.keepG (grownBy_set (w := w1) (a := ⟨w.heap.size, 0, none⟩) (.int .i64 3)) (fun k hk => by injection hk with hk; subst hk; exact ⟨HD.out, hne'⟩))
  clear hret hR1 hg X X1 HR ST hG1
  have hd : decide (dep < 16) = false := decide_eq_false (by omega)
  go_wp2_with fail
  generalize w1.setCell ⟨w.heap.size, 0, none⟩ (.int .i64 3) = w2 at X2 HG2 HR2 ⊢
  clear hc x0 xf xz
  refine (want_no _ _).mono ?_
  rintro e w3 ⟨rfl, rfl⟩
  have HF : Hid (RetVal none m D rb w (.panicked bad) w2) := ⟨rfl, HG2.out⟩
  clear HR2 X2 HG2
  go_wp2
  exact ⟨rfl, HF.out⟩

end Go.Proofs.Ytcokkloaljaanaa
