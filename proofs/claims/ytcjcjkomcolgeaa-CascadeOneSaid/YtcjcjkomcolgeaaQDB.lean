/- Contracts of must, demand and of the deferred function of Check. No condition. -/
import Derived.Test.YtcjcjkomcolgeaaQG
import Derived.Test.YtcjcjkomcolgeaaQBR
import Derived.Defers
import Derived.Recover
import Derived.Tactics2
set_option linter.unusedVariables false
set_option linter.unusedSimpArgs false
namespace Go.Proofs.Ytcjcjkomcolgeaa
open Go.RowKit

def refu (er : Int) : List PanicEntry := [{ v := .iface 128 (.agg #[.int .i64 er]), recovered := false }]
def Refuses (er : Int) (w : World) (e : Ending) (w' : World) : Prop := (if er = 0 then e = .returned (.tuple #[]) else e = .panicked (refu er)) ∧ Below w.heap.size w w'
theorem must_ok (w : World) : Calls Try.prog 39 #[.int .i64 0] w fun e w' => e = .returned (.tuple #[]) ∧ w = w' := by
  go_enter Try.func39, Try.ntmps39
  go_wp2
  go_end0
  exact ⟨rfl, rfl⟩
theorem must_no {er : Int} (h : er ≠ 0) (w : World) : Calls Try.prog 39 #[.int .i64 er] w fun e w' => e = .panicked (refu er) ∧ w = w' := by
  have hd : (er != 0) = true := by simp [h]
  go_enter Try.func39, Try.ntmps39
  go_wp2
  exact ⟨rfl, rfl, rfl⟩
theorem demand_ok (er : Int) (w : World) : Calls Try.prog 38 #[.bool true, .int .i64 er] w fun e w' => e = .returned (.tuple #[]) ∧ w = w' := by
  go_enter Try.func38, Try.ntmps38
  go_wp2
  go_end0
  exact ⟨rfl, rfl⟩
theorem demand_no {er : Int} (h : er ≠ 0) (w : World) : Calls Try.prog 38 #[.bool false, .int .i64 er] w fun e w' => e = .panicked (refu er) ∧ w = w' := by
  go_enter Try.func38, Try.ntmps38
  go_wp2_with fail
  refine (must_no h w).mono ?_
  rintro e w1 ⟨rfl, rfl⟩
  go_wp2
  exact ⟨rfl, rfl, rfl⟩
theorem caught_nil (w : World) : Calls Try.prog 32 #[.nilIface] w fun e w' => e = .returned (.int .i64 0) ∧ w = w' := by
  go_enter Try.func32, Try.ntmps32
  go_wp2
  go_ret
  exact ⟨rfl, rfl⟩
set_option maxRecDepth 100000 in
theorem caught_some (er : Int) (w : World) : Calls Try.prog 32 #[.iface 128 (.agg #[.int .i64 er])] w fun e w' => e = .returned (.int .i64 er) ∧ Below w.heap.size w w' := by
  have hta : ∀ w : World, (Instr.typeAssert (.iface 128 (.agg #[.int .i64 er])) 20 128 true).run Try.prog w = .ok (.tuple #[.agg #[.int .i64 er], .bool true]) w := fun _ => by rfl
  go_enter Try.func32, Try.ntmps32
  go_wp2
  go_ret
  exact ⟨rfl, (Below.refl _ _).alloc (Nat.le_refl _) _⟩
end Go.Proofs.Ytcjcjkomcolgeaa

/-
  Contract of examine of package cascade. (Printed by pp.py.) No condition.
-/
namespace Go.Proofs.Ytcjcjkomcolgeaa
open Go.RowKit

theorem PlsAt.cells12 {w : World} {B : Nat} {A : Option Addr} {n c : Nat} {l : List Pl} (h : PlsAt w B (.slice A n c) l) {k : Nat} (hk : k < l.length) :
    ∃ b off, A = some ⟨b, off, none⟩ ∧ b < B ∧ w.cell? ⟨b, off + k * 12, none⟩ = some (.int .i64 (l[k]).top) ∧ w.cell? ⟨b, off + k * 12 + 1, none⟩ = some (.int .i64 (l[k]).bank) ∧ w.cell? ⟨b, off + k * 12 + 2, none⟩ = some (.int .i64 (l[k]).siphon) ∧ w.cell? ⟨b, off + k * 12 + 3, none⟩ = some (.int .i64 (l[k]).start) ∧
      w.cell? ⟨b, off + k * 12 + 4, none⟩ = some (.int .i64 (l[k]).positions) ∧ w.cell? ⟨b, off + k * 12 + 5, none⟩ = some (.int .i64 (l[k]).rate) ∧ w.cell? ⟨b, off + k * 12 + 6, none⟩ = some (.int .i64 (l[k]).step) ∧ w.cell? ⟨b, off + k * 12 + 7, none⟩ = some (.int .i64 (l[k]).pass) ∧
      w.cell? ⟨b, off + k * 12 + 8, none⟩ = some (.int .i64 (l[k]).feed) ∧ w.cell? ⟨b, off + k * 12 + 9, none⟩ = some (.int .i64 (l[k]).pipe) ∧ w.cell? ⟨b, off + k * 12 + 10, none⟩ = some (.int .i64 (l[k]).orders) ∧ w.cell? ⟨b, off + k * 12 + 11, none⟩ = some (.int .i64 (l[k]).age) := by
  obtain ⟨b, off, rfl, hb, h1⟩ := h.plant hk
  have h2 : ∀ j, j < 12 → w.cell? ⟨b, off + k * 12 + j, none⟩ = some (((l[k]).cells).getD j undef) := fun j hj => by rw [Nat.add_assoc]; exact h1 j hj
  exact ⟨b, off, rfl, hb, h2 0 (by omega), h2 1 (by omega), h2 2 (by omega), h2 3 (by omega), h2 4 (by omega), h2 5 (by omega), h2 6 (by omega), h2 7 (by omega), h2 8 (by omega), h2 9 (by omega), h2 10 (by omega), h2 11 (by omega)⟩
theorem PlsAt.form {w : World} {B : Nat} {v : Value} {l : List Pl} (h : PlsAt w B v l) : ∃ A c, v = .slice A l.length c ∧ l.length ≤ maxLen := by
  obtain ⟨A, c, hv, hn, _⟩ := h
  exact ⟨A, c, hv, hn⟩
theorem CodesAt.form {w : World} {B : Nat} {v : Value} {l : List (List Ln)} (h : CodesAt w B v l) : ∃ A c, v = .slice A l.length c ∧ l.length ≤ maxLen := by
  obtain ⟨V, ⟨A, c, hv, hn, _⟩, _⟩ := h
  exact ⟨A, c, hv, hn⟩
theorem BarsAt.form {w : World} {B : Nat} {v : Value} {l : List (List Iq)} (h : BarsAt w B v l) : ∃ A c, v = .slice A l.length c ∧ l.length ≤ maxLen := by
  obtain ⟨V, ⟨A, c, hv, hn, _⟩, _⟩ := h
  exact ⟨A, c, hv, hn⟩
theorem getD_at {α : Type} {l : List α} {d : α} {k : Nat} (hk : k < l.length) : l.getD k d = l[k] := by rw [List.getD_eq_getElem?_getD, List.getElem?_eq_getElem hk]; rfl
theorem firstErr_zero {f : Nat → Int} : ∀ {l : List Nat}, (∀ i ∈ l, f i = 0) → firstErr f l = 0
  | [], _ => rfl
  | i :: l, h => by rw [firstErr, if_pos (h i (by simp))]; exact firstErr_zero fun j hj => h j (by simp [hj])
theorem firstErr_at {f : Nat → Int} {n k : Nat} (hk : k < n) (h : ∀ i, i < k → f i = 0) (hx : f k ≠ 0) : firstErr f (List.range n) = f k := by
  have key : ∀ l : List Nat, ∀ pre : List Nat, (∀ i ∈ pre, f i = 0) → firstErr f (pre ++ l) = firstErr f l := by
    intro l pre
    induction pre with
    | nil => intro _; rfl
    | cons a pre ih => intro hp; rw [List.cons_append, firstErr, if_pos (hp a (by simp))]; exact ih fun i hi => hp i (by simp [hi])
  obtain ⟨r, hr⟩ : ∃ r, List.range n = List.range k ++ (k :: r) := by
    refine ⟨(List.range n).drop (k + 1), ?_⟩
    have h1 := List.take_append_drop (k + 1) (List.range n)
    rw [List.take_range, Nat.min_eq_left (by omega), List.range_succ, List.append_assoc] at h1
    exact h1.symm
  rw [hr, key _ _ (fun i hi => h i (List.mem_range.1 hi)), firstErr, if_neg hx]
theorem holds_zero (b : List Iq) : (holdsT b St.zero).2 = barT b := by
  unfold holdsT
  split
  · rename_i h
    rw [if_pos (by decide)]
    exact h.symm
  · rfl
def Cs.okTo (x : Cs) (i : Nat) : Prop := ∀ j, j < i → x.gateT j = 0

set_option maxRecDepth 100000 in
set_option maxHeartbeats 2000000 in
theorem mExamine_long (x : Cs) (Ap Ac Ab : Option Addr) (n nc nb kp kc kb : Nat) (w : World) (hn : 8 < n) (hm : n ≤ 9223372036854775807) : Calls Try.prog 33 #[.agg #[.slice Ap n kp, .slice Ac nc kc, .slice Ab nb kb]] w (Refuses 2 w) := by
  have hd : decide ((n : Int) ≤ 8) = false := decide_eq_false (by omega)
  have hd2 : ¬ ((n : Int) ≤ 8) := by omega
  have hB := (Below.refl w.heap.size w).alloc (Nat.le_refl _) (.cells #[.slice Ap n kp, .slice Ac nc kc, .slice Ab nb kb] 26)
  go_enter Try.func33, Try.ntmps33
  go_wp2_with fail
  refine (demand_no (er := 2) (by decide) _).mono ?_
  rintro e w1 ⟨rfl, rfl⟩
  go_wp2
  exact ⟨rfl, by rw [if_neg (by decide)], hB⟩
set_option maxRecDepth 100000 in
set_option maxHeartbeats 2000000 in
theorem mExamine_bad (Ap Ac Ab : Option Addr) (n nc nb kp kc kb : Nat) (w : World) (hn : n ≤ 8) (hm1 : nc ≤ 9223372036854775807) (hm2 : nb ≤ 9223372036854775807) (h : n = 0 ∨ nc ≠ n ∨ nb ≠ n) : Calls Try.prog 33 #[.agg #[.slice Ap n kp, .slice Ac nc kc, .slice Ab nb kb]] w (Refuses 350 w) := by
  have hd1 : decide ((n : Int) ≤ 8) = true := decide_eq_true (by omega)
  have hd2 : (n : Int) ≤ 8 := by omega
  have hB := (Below.refl w.heap.size w).alloc (Nat.le_refl _) (.cells #[.slice Ap n kp, .slice Ac nc kc, .slice Ab nb kb] 26)
  rcases Nat.eq_zero_or_pos n with h0 | h0
  · subst h0
    go_enter Try.func33, Try.ntmps33
    go_wp2_with fail
    refine (demand_ok 2 _).mono ?_
    rintro e w1 ⟨rfl, rfl⟩
    go_wp2_with fail
    refine (demand_no (er := 350) (by decide) _).mono ?_
    rintro e w1 ⟨rfl, rfl⟩
    go_wp2
    exact ⟨rfl, by rw [if_neg (by decide)], hB⟩
  have hp : decide ((0 : Int) < (n : Int)) = true := decide_eq_true (by omega)
  have hp2 : (0 : Int) < (n : Int) := by omega
  by_cases h1 : nc = n
  · have hc : ((nc : Int) == (n : Int)) = true := by simp [h1]
    have hc2 : decide ((nc : Int) = (n : Int)) = true := by simp [h1]
    have hb : ((nb : Int) == (n : Int)) = false := by simp; omega
    have hb2 : decide ((nb : Int) = (n : Int)) = false := by simp; omega
    clear h
    have H1 := Lib.hid h1
    clear h1
    go_enter Try.func33, Try.ntmps33
    go_wp2_with fail
    refine (demand_ok 2 _).mono ?_
    rintro e w1 ⟨rfl, rfl⟩
    go_wp2_with fail
    refine (demand_no (er := 350) (by decide) _).mono ?_
    rintro e w1 ⟨rfl, rfl⟩
    go_wp2
    exact ⟨rfl, by rw [if_neg (by decide)], hB⟩
  · have hc : ((nc : Int) == (n : Int)) = false := by simp; omega
    have hc2 : decide ((nc : Int) = (n : Int)) = false := by simp; omega
    clear h
    go_enter Try.func33, Try.ntmps33
    go_wp2_with fail
    refine (demand_ok 2 _).mono ?_
    rintro e w1 ⟨rfl, rfl⟩
    go_wp2_with fail
    refine (demand_no (er := 350) (by decide) _).mono ?_
    rintro e w1 ⟨rfl, rfl⟩
    go_wp2
    exact ⟨rfl, by rw [if_neg (by decide)], hB⟩
set_option maxRecDepth 100000 in
set_option maxHeartbeats 4000000 in
theorem mExamine_loop (x : Cs) (Ap Ac Ab : Option Addr) (n kp kc kb : Nat) (w : World) (hn : n ≤ 8) (h0 : 0 < n) (hnp : Hid (x.plants.length = n)) (hnc : Hid (x.codes.length = n)) (hnb : Hid (x.bars.length = n)) (hx : Hid (CsAt w w.heap.size (.slice Ap n kp) (.slice Ac n kc) (.slice Ab n kb) x)) (er : Int) (hT : Hid (firstErr x.gateT (List.range n) = er)) :
    Calls Try.prog 33 #[.agg #[.slice Ap n kp, .slice Ac n kc, .slice Ab n kb]] w (Refuses er w) := by
  have hd1 : decide ((n : Int) ≤ 8) = true := decide_eq_true (by omega)
  have hd2 : (n : Int) ≤ 8 := by omega
  have hp : decide ((0 : Int) < (n : Int)) = true := decide_eq_true (by omega)
  have hp2 : (0 : Int) < (n : Int) := by omega
  have hB := (Below.refl w.heap.size w).alloc (Nat.le_refl _) (.cells #[.slice Ap n kp, .slice Ac n kc, .slice Ab n kb] 26)
  have X1 := Box.new w [.slice Ap n kp, .slice Ac n kc, .slice Ab n kb] 26
  go_enter Try.func33, Try.ntmps33
  go_wp2_with fail
  refine (demand_ok 2 _).mono ?_
  rintro e w1 ⟨rfl, rfl⟩
  go_wp2_with fail
  refine (demand_ok 350 _).mono ?_
  rintro e w1 ⟨rfl, rfl⟩
  go_wp2_with fail
  clear hd1 hd2 hp hp2
  generalize w.alloc (.cells #[.slice Ap n kp, .slice Ac n kc, .slice Ab n kb] 26) = w1 at hB X1 ⊢
  go_loopw [30] (fun i wr => ∃ k : Nat, k ≤ n ∧ i = .int .i64 k ∧ Below w1.heap.size w1 wr ∧ Hid (x.okTo k)) (fun i _ => n - (intOf i).toNat)
  case atStart => exact ⟨0, by omega, rfl, Below.refl _ _, Lib.hid (fun j hj => by omega)⟩
  case round =>
    obtain ⟨k, hk, rfl, hb, hok⟩ := hrel
    obtain ⟨wo, rfl⟩ : ∃ wo : World, wo = wr := ⟨_, rfl⟩
    have hbw := hB.trans (hb.mono hB.size)
    rcases Nat.lt_or_ge k n with hlt | hge
    rotate_left
    · obtain rfl : k = n := by omega
      have hF := hT.out
      rw [firstErr_zero (fun i hi => hok.out i (List.mem_range.1 hi))] at hF
      have HF := Lib.hid hF
      clear hF
      have hd3 : ¬ ((k : Int) < (k : Int)) := by omega
      go_wp2
      go_end0
      exact ⟨by rw [if_pos HF.out.symm], hbw⟩
    have hd3 : decide ((k : Int) < (n : Int)) = true := decide_eq_true (by omega)
    have hkp : k < x.plants.length := by rw [hnp.out]; exact hlt
    have hkc : k < x.codes.length := by rw [hnc.out]; exact hlt
    have hkb : k < x.bars.length := by rw [hnb.out]; exact hlt
    have hgT : x.gateT k = if (x.plants[k]).checkT = 0 then (if gateT x.codes[k] = 0 then barT x.bars[k] else gateT x.codes[k]) else (x.plants[k]).checkT := by
      rw [Cs.gateT, getD_at hkp, getD_at hkc, getD_at hkb]
    obtain ⟨bp, op, rfl, hbp, p0, p1, p2, p3, p4, p5, p6, p7, p8, p9, p10, p11⟩ := hx.out.plants.cells12 hkp
    obtain ⟨bc, oc, Vc, rfl, hbc, q0, hVc⟩ := hx.out.codes.code hkc
    obtain ⟨bb, ob, Vb, rfl, hbb, r0, hVb⟩ := hx.out.bars.bar hkb
    obtain ⟨p, hpe⟩ : ∃ p, x.plants[k] = p := ⟨_, rfl⟩
    obtain ⟨c, hce⟩ : ∃ c, x.codes[k] = c := ⟨_, rfl⟩
    obtain ⟨b, hbe⟩ : ∃ b, x.bars[k] = b := ⟨_, rfl⟩
    rw [hpe, hce, hbe] at hgT
    rw [hpe] at p0 p1 p2 p3 p4 p5 p6 p7 p8 p9 p10 p11
    rw [hce] at hVc
    rw [hbe] at hVb
    have HG := Lib.hid hgT
    have HVc := Lib.hid hVc
    have HVb := Lib.hid hVb
    clear hgT hpe hce hbe hVc hVb
    have p0 := (hbw.cell hbp).trans p0
    have p1 := (hbw.cell hbp).trans p1
    have p2 := (hbw.cell hbp).trans p2
    have p3 := (hbw.cell hbp).trans p3
    have p4 := (hbw.cell hbp).trans p4
    have p5 := (hbw.cell hbp).trans p5
    have p6 := (hbw.cell hbp).trans p6
    have p7 := (hbw.cell hbp).trans p7
    have p8 := (hbw.cell hbp).trans p8
    have p9 := (hbw.cell hbp).trans p9
    have p10 := (hbw.cell hbp).trans p10
    have p11 := (hbw.cell hbp).trans p11
    have x1 := X1.later hb
    have x1z := x1.lt
    have x1c0 : wo.cell? ⟨w.heap.size, 0, none⟩ = some (.slice (some ⟨bp, op, none⟩) n kp) := x1.cell 0
    have x1c1 : wo.cell? ⟨w.heap.size, 1, none⟩ = some (.slice (some ⟨bc, oc, none⟩) n kc) := x1.cell 1
    have x1c2 : wo.cell? ⟨w.heap.size, 2, none⟩ = some (.slice (some ⟨bb, ob, none⟩) n kb) := x1.cell 2
    obtain ⟨e1, he1⟩ : ∃ e1, Hid (p.checkT = e1) := ⟨_, rfl⟩
    have hbpz := Nat.lt_of_lt_of_le hbp hbw.size
    go_wp2_with fail
    refine (check_at he1 _).mono ?_
    rintro e w2 ⟨rfl, hb2⟩
    clear p0 p1 p2 p3 p4 p5 p6 p7 p8 p9 p10 p11 x1c0 x1c1 x1c2 x1z hbpz
    have x1 := x1.later hb2
    have hb := hb.trans (hb2.mono hb.size)
    have hbw := hbw.trans (hb2.mono hbw.size)
    clear hb2
    by_cases h1 : e1 = 0
    rotate_left
    · have hE := Lib.hid (firstErr_at hlt hok.out (by rw [HG.out, if_neg (by rw [he1.out]; exact h1), he1.out]; exact h1))
      have hEe : Hid (er = e1) := by
        rw [Hid, ← hT.out, hE.out, HG.out, if_neg (by rw [he1.out]; exact h1), he1.out]
      go_wp2_with fail
      refine (must_no h1 _).mono ?_
      rintro e w3 ⟨rfl, rfl⟩
      go_wp2
      refine ⟨rfl, ?_, hbw⟩
      rw [hEe.out, if_neg h1]
    subst h1
    go_wp2_with fail
    refine (must_ok _).mono ?_
    rintro e w3 ⟨rfl, rfl⟩
    have x1z := x1.lt
    have x1c0 : w2.cell? ⟨w.heap.size, 0, none⟩ = some (.slice (some ⟨bp, op, none⟩) n kp) := x1.cell 0
    have x1c1 : w2.cell? ⟨w.heap.size, 1, none⟩ = some (.slice (some ⟨bc, oc, none⟩) n kc) := x1.cell 1
    have x1c2 : w2.cell? ⟨w.heap.size, 2, none⟩ = some (.slice (some ⟨bb, ob, none⟩) n kb) := x1.cell 2
    have q0' := (hbw.cell hbc).trans q0
    obtain ⟨e2, he2⟩ : ∃ e2, Hid (gateT c = e2) := ⟨_, rfl⟩
    go_wp2_with fail
    refine (gcheck_at he2 ((HVc.out.below hbw).more hbw.size)).mono ?_
    rintro e w3 ⟨rfl, hb2⟩
    clear q0' x1c0 x1c1 x1c2 x1z
    have x1 := x1.later hb2
    have hb := hb.trans (hb2.mono hb.size)
    have hbw := hbw.trans (hb2.mono hbw.size)
    clear hb2
    by_cases h2 : e2 = 0
    rotate_left
    · have hE := Lib.hid (firstErr_at hlt hok.out (by rw [HG.out, if_pos he1.out, if_neg (by rw [he2.out]; exact h2), he2.out]; exact h2))
      have hEe : Hid (er = e2) := by
        rw [Hid, ← hT.out, hE.out, HG.out, if_pos he1.out, if_neg (by rw [he2.out]; exact h2), he2.out]
      go_wp2_with fail
      refine (must_no h2 _).mono ?_
      rintro e w4 ⟨rfl, rfl⟩
      go_wp2
      refine ⟨rfl, ?_, hbw⟩
      rw [hEe.out, if_neg h2]
    subst h2
    go_wp2_with fail
    refine (must_ok _).mono ?_
    rintro e w4 ⟨rfl, rfl⟩
    have x1z := x1.lt
    have x1c0 : w3.cell? ⟨w.heap.size, 0, none⟩ = some (.slice (some ⟨bp, op, none⟩) n kp) := x1.cell 0
    have x1c1 : w3.cell? ⟨w.heap.size, 1, none⟩ = some (.slice (some ⟨bc, oc, none⟩) n kc) := x1.cell 1
    have x1c2 : w3.cell? ⟨w.heap.size, 2, none⟩ = some (.slice (some ⟨bb, ob, none⟩) n kb) := x1.cell 2
    have r0' := (hbw.cell hbb).trans r0
    obtain ⟨t3, e3, he3⟩ : ∃ t3 e3, Hid (holdsT b St.zero = (t3, e3)) := ⟨_, _, rfl⟩
    have he4 : Hid (barT b = e3) := by rw [Hid, ← holds_zero, he3.out]
    go_wp2_with fail
    refine (bHolds_is he3 ((HVb.out.below hbw).more hbw.size)).mono ?_
    rintro e w4 ⟨rfl, hb2⟩
    clear r0' x1c0 x1c1 x1c2 x1z
    have x1 := x1.later hb2
    have hb := hb.trans (hb2.mono hb.size)
    have hbw := hbw.trans (hb2.mono hbw.size)
    clear hb2
    by_cases h3 : e3 = 0
    rotate_left
    · have hE := Lib.hid (firstErr_at hlt hok.out (by rw [HG.out, if_pos he1.out, if_pos he2.out, he4.out]; exact h3))
      have hEe : Hid (er = e3) := by
        rw [Hid, ← hT.out, hE.out, HG.out, if_pos he1.out, if_pos he2.out, he4.out]
      go_wp2_with fail
      refine (must_no h3 _).mono ?_
      rintro e w5 ⟨rfl, rfl⟩
      go_wp2
      refine ⟨rfl, ?_, hbw⟩
      rw [hEe.out, if_neg h3]
    subst h3
    go_wp2_with fail
    refine (must_ok _).mono ?_
    rintro e w5 ⟨rfl, rfl⟩
    go_wp2
    refine ⟨⟨k + 1, by omega, by go_num, hb, Lib.hid (fun j hj => ?_)⟩, by simp [intOf]; omega⟩
    rcases Nat.lt_or_ge j k with hjk | hjk
    · exact hok.out j hjk
    · obtain rfl : j = k := by omega
      rw [HG.out, if_pos he1.out, if_pos he2.out, he4.out]
theorem mExamine_is {x : Cs} {Vp Vc Vb : Value} {w : World} {er : Int} (hT : Hid (x.checkT = er)) (hx : CsAt w w.heap.size Vp Vc Vb x) : Calls Try.prog 33 #[.agg #[Vp, Vc, Vb]] w (Refuses er w) := by
  obtain ⟨Ap, kp, rfl, hmp⟩ := hx.plants.form
  obtain ⟨Ac, kc, rfl, hmc⟩ := hx.codes.form
  obtain ⟨Ab, kb, rfl, hmb⟩ := hx.bars.form
  simp only [maxLen] at hmp hmc hmb
  have h := hT.out
  unfold Cs.checkT at h
  by_cases h8 : x.plants.length ≤ 8
  · rw [if_pos h8] at h
    by_cases hb : x.plants.length = 0 ∨ x.codes.length ≠ x.plants.length ∨ x.bars.length ≠ x.plants.length
    · rw [if_pos hb] at h
      subst h
      exact mExamine_bad Ap Ac Ab _ _ _ kp kc kb w h8 (by omega) (by omega) hb
    · rw [if_neg hb] at h
      obtain ⟨n, hn⟩ : ∃ n, x.plants.length = n := ⟨_, rfl⟩
      have h1 : x.codes.length = n := by rw [← hn]; exact Decidable.byContradiction fun h => hb (.inr (.inl h))
      have h2 : x.bars.length = n := by rw [← hn]; exact Decidable.byContradiction fun h => hb (.inr (.inr h))
      have h3 : 0 < n := by rw [← hn]; exact Nat.pos_of_ne_zero fun h => hb (.inl h)
      rw [hn, h1, h2] at hx ⊢
      rw [hn] at h h8
      exact mExamine_loop x Ap Ac Ab n kp kc kb w h8 h3 hn h1 h2 hx er h
  · rw [if_neg h8] at h
    subst h
    exact mExamine_long x Ap Ac Ab _ _ _ kp kc kb w (by omega) (by omega)
end Go.Proofs.Ytcjcjkomcolgeaa
