/- The reference's reader: next and number. No condition. -/
import Derived.Test.YtmbifmmkccghfaaQKG
import Derived.BigQuiet
set_option linter.unusedVariables false
set_option linter.unusedSimpArgs false
namespace Go.Proofs.Ytmbifmmkccghfaa
open Go.RowKit

def Rc (w : World) (D rb : Nat) (A : Option Addr) (n c : Nat) (l : Bs) (p : Nat) (bd : Bool) : Prop := Box w rb [.slice A n c, .int .i64 p, .bool bd] ∧ BsAt w (fun b => b < D ∧ b ≠ rb) (.slice A n c) l ∧ l.length = n ∧ p ≤ n
theorem Rc.keep {w w' : World} {D rb n c p : Nat} {A : Option Addr} {l : Bs} {bd : Bool} (h : Rc w D rb A n c l p bd) (hb : Below w.heap.size w w') : Rc w' D rb A n c l p bd := ⟨h.1.later hb, h.2.1.keep (Keeps.of hb), h.2.2⟩
theorem Rc.keepG {w w' : World} {D rb n c p : Nat} {A : Option Addr} {l : Bs} {bd : Bool} {r : Option Nat} (h : Rc w D rb A n c l p bd) (hg : w.grownBy w' r) (hr : ∀ k, r = some k → D ≤ k ∧ k ≠ rb) : Rc w' D rb A n c l p bd :=
  ⟨h.1.same (hg.block rb h.1.lt fun e => (hr rb e.symm).2 rfl), h.2.1.keep ⟨hg.size, fun b hb hl => hg.block b hl fun e => by have := (hr b e.symm).1; omega⟩, h.2.2⟩
theorem Rc.lt {w : World} {D rb n c p : Nat} {A : Option Addr} {l : Bs} {bd : Bool} (h : Rc w D rb A n c l p bd) : rb < w.heap.size := h.1.lt
theorem Rc.setAt {w : World} {D rb n c p q : Nat} {A : Option Addr} {l : Bs} {bd : Bool} (h : Rc w D rb A n c l p bd) (hq : q ≤ n) : Rc (w.setCell ⟨rb, 1, none⟩ (.int .i64 q)) D rb A n c l q bd :=
  ⟨h.1.set 1 _, h.2.1.keep ⟨by simp, fun b hb hl => Below.heap_setCell w ⟨rb, 1, none⟩ _ b hb.2⟩, h.2.2.1, hq⟩
theorem Rc.setAt1 {w : World} {D rb n c p : Nat} {A : Option Addr} {l : Bs} {bd : Bool} (h : Rc w D rb A n c l p bd) (hq : p < n) : Rc (w.setCell ⟨rb, 1, none⟩ (.int .i64 ((p : Int) + 1))) D rb A n c l (p + 1) bd := h.setAt (q := p + 1) hq
theorem Rc.drewN {w : World} {D rb n c p : Nat} {A : Option Addr} {l : Bs} {bd : Bool} (h : Rc w D rb A n c l p bd) (j : Nat) : Rc (w.drewN j) D rb A n c l p bd := h.keep (below_drewN (Below.refl w.heap.size w) j)
theorem Rc.setBad {w : World} {D rb n c p : Nat} {A : Option Addr} {l : Bs} {bd : Bool} (h : Rc w D rb A n c l p bd) (b2 : Bool) : Rc (w.setCell ⟨rb, 2, none⟩ (.bool b2)) D rb A n c l p b2 :=
  ⟨h.1.set 2 _, h.2.1.keep ⟨by simp, fun b hb hl => Below.heap_setCell w ⟨rb, 2, none⟩ _ b hb.2⟩, h.2.2⟩
theorem grown_drewN {w w' : World} {r : Option Nat} (h : w.grownBy w' r) (j : Nat) : w.grownBy (w'.drewN j) r := ⟨h.os, h.tape, h.output, h.size, h.block⟩

set_option maxRecDepth 100000 in
set_option maxHeartbeats 4000000 in
theorem next_yes (D rb n c p : Nat) (A : Option Addr) (l : Bs) (w : World) (h : Rc w D rb A n c l p false) (hp : p < n) : Calls Try.prog 86 #[.pointer (some ⟨rb, 0, none⟩)] w fun e w' => e = .returned (.int .u8 ((l.getD p 0).toNat : Int)) ∧ Rc w' D rb A n c l (p + 1) false ∧ w.grownBy w' (some rb) := by
  obtain ⟨b, off, rfl, ⟨hbD, hbr⟩, hb, hc⟩ := h.2.1.cell (k := p) (by rw [h.2.2.1]; exact hp)
  have hn2 : c ≤ maxLen ∧ n ≤ c := by
    obtain ⟨_, _, _, h1, h2, _⟩ := h.2.1.row (by omega)
    exact ⟨h2, h1⟩
  have hnm : n ≤ 9223372036854775807 := by unfold maxLen at hn2; omega
  clear hn2
  have x0 : w.cell? ⟨rb, 0, none⟩ = some (.slice (some ⟨b, off, none⟩) n c) := h.1.cell 0
  have x1 : w.cell? ⟨rb, 1, none⟩ = some (.int .i64 p) := h.1.cell 1
  have f1 : w.frozen? ⟨rb, 1, none⟩ = false := h.1.free 1
  have hz := h.lt
  have hd : decide ((n : Int) ≤ (p : Int)) = false := decide_eq_false (by omega)
  have h2 := Lib.hid h
  have hne : ¬ b = rb := hbr
  clear h
  go_enter Try.func86, Try.ntmps86
  go_wp2
  go_quiet (fail)
  go_wp2_with fail
  have h3 := Lib.hid ((h2.out.drewN nq).setAt1 hp)
  have g3 : Hid (w.grownBy ((w.drewN nq).setCell ⟨rb, 1, none⟩ (.int .i64 ((p : Int) + 1))) (some rb)) := Lib.hid (grown_two (grown_drewN (grownBy_refl w _) nq) (grownBy_set (a := ⟨rb, 1, none⟩) _))
  have hc3 : ((w.drewN nq).setCell ⟨rb, 1, none⟩ (.int .i64 ((p : Int) + 1))).cell? ⟨b, off + p, none⟩ = some (.int .u8 ((l.getD p 0).toNat : Int)) := by
    obtain ⟨b2, off2, e, _, _, h⟩ := h3.out.2.1.cell (k := p) (by rw [h3.out.2.2.1]; exact hp)
    cases e
    exact h
  generalize (w.drewN nq).setCell ⟨rb, 1, none⟩ (.int .i64 ((p : Int) + 1)) = W at h3 g3 hc3 ⊢
  clear hc x0 x1 f1 hz hd h2 hb
  have x0 : W.cell? ⟨rb, 0, none⟩ = some (.slice (some ⟨b, off, none⟩) n c) := h3.out.1.cell 0
  have x1 : W.cell? ⟨rb, 1, none⟩ = some (.int .i64 ((p : Int) + 1)) := h3.out.1.cell 1
  have hz := h3.out.lt
  have hlt : (p : Int) < (n : Int) := by omega
  have hwp : IntKind.i64.wrap (p : Int) = (p : Int) := by simp [IntKind.wrap, IntKind.bits, IntKind.signed]; omega
  go_quiet (fail)
  go_wp2_with fail
  go_ret
  exact ⟨rfl, h3.out.drewN _, grown_drewN g3.out _⟩

set_option maxRecDepth 100000 in
set_option maxHeartbeats 4000000 in
theorem next_no (D rb n c p : Nat) (A : Option Addr) (l : Bs) (w : World) (h : Rc w D rb A n c l p false) (hp : p = n) : Calls Try.prog 86 #[.pointer (some ⟨rb, 0, none⟩)] w fun e w' => e = .returned (.int .u8 0) ∧ Rc w' D rb A n c l p true ∧ w.grownBy w' (some rb) := by
  have x0 : w.cell? ⟨rb, 0, none⟩ = some (.slice A n c) := h.1.cell 0
  have x1 : w.cell? ⟨rb, 1, none⟩ = some (.int .i64 p) := h.1.cell 1
  have f2 : w.frozen? ⟨rb, 2, none⟩ = false := h.1.free 2
  have x2 : w.cell? ⟨rb, 2, none⟩ = some (.bool false) := h.1.cell 2
  have hz := h.lt
  have hd : decide ((n : Int) ≤ (p : Int)) = true := decide_eq_true (by omega)
  have h2 := Lib.hid h
  clear h
  go_enter Try.func86, Try.ntmps86
  go_wp2
  go_quiet (fail)
  go_wp2_with fail
  go_ret
  exact ⟨rfl, (h2.out.drewN _).setBad true, grown_two (grown_drewN (grownBy_refl w _) _) (grownBy_set (a := ⟨rb, 2, none⟩) _)⟩

def RetNumR (t : Option (Nat × Bs)) (D rb : Nat) (A : Option Addr) (n c : Nat) (l : Bs) (w : World) (e : Ending) (w' : World) : Prop :=
  w.grownBy w' (some rb) ∧ match t with
  | some (u, r) => e = .returned (.int .u64 u) ∧ ∃ p, l.drop p = r ∧ Rc w' D rb A n c l p false
  | none => e = .returned (.int .u64 0) ∧ ∃ p, Rc w' D rb A n c l p true
theorem drop_nil_iff {l : Bs} {p n : Nat} (hn : l.length = n) (hp : p ≤ n) (h : l.drop p = []) : p = n := by
  have := List.drop_eq_nil_iff.1 h
  omega
theorem drop_cons_lt {l : Bs} {p n : Nat} {c : UInt8} {t : Bs} (hn : l.length = n) (h : l.drop p = c :: t) : p < n ∧ l.getD p 0 = c ∧ l.drop (p + 1) = t := by
  have h1 : p < l.length := by
    rcases Nat.lt_or_ge p l.length with h1 | h1
    · exact h1
    · rw [List.drop_eq_nil_iff.2 h1] at h; cases h
  rw [List.drop_eq_getElem_cons h1] at h
  injection h with h2 h3
  refine ⟨by omega, ?_, h3⟩
  rw [List.getD_eq_getElem?_getD, List.getElem?_eq_getElem h1]
  exact h2
theorem accR {acc k cn : Nat} (h2 : acc + cn % 128 * 128 ^ k < 18446744073709551616) (h3 : cn % 128 * 128 ^ k < 18446744073709551616) : IntKind.u64.wrap ((acc : Int) + IntKind.u64.wrap ((cn : Int) % 128 * 2 ^ (7 * k))) = ((acc + cn % 128 * 128 ^ k : Nat) : Int) := by
  have hpw : (2 : Int) ^ (7 * k) = ((128 ^ k : Nat) : Int) := by
    rw [Int.pow_mul]
    have : (2 : Int) ^ 7 = ((128 : Nat) : Int) := by decide
    rw [this, Int.natCast_pow]
  have e1 : (cn : Int) % 128 = ((cn % 128 : Nat) : Int) := by omega
  rw [hpw, e1, ← Int.natCast_mul, wrap_u64', wrap_u64']
  have e2 : ((cn % 128 * 128 ^ k : Nat) : Int) % 18446744073709551616 = ((cn % 128 * 128 ^ k : Nat) : Int) := by omega
  rw [e2]
  omega

set_option maxRecDepth 100000 in
set_option maxHeartbeats 4000000 in
theorem numberR_any (D rb n c : Nat) (A : Option Addr) (l : Bs) (p0 : Nat) (w : World) (h : Rc w D rb A n c l p0 false) (T : Option (Nat × Bs)) (hT : Hid (rdNum 0 0 (l.drop p0) = T)) : Calls Try.prog 87 #[.pointer (some ⟨rb, 0, none⟩)] w (RetNumR T D rb A n c l w) := by
  have hR := Lib.hid h
  have hG := Lib.hid (grownBy_refl w (some rb))
  clear h
  go_enter Try.func87, Try.ntmps87
  go_wp2
  go_loopw [3, 4] (fun u i wr => ∃ (k acc p : Nat), k ≤ 9 ∧ acc < 9223372036854775808 ∧ i = .int .i64 k ∧ u = .int .u64 acc ∧ Hid (acc < 128 ^ k) ∧ Hid (rdNum k acc (l.drop p) = T) ∧ Hid (Rc wr D rb A n c l p false) ∧ Hid (w.grownBy wr (some rb))) (fun _ i _ => 10 - (intOf i).toNat)
  case atStart => exact ⟨0, 0, p0, by omega, by omega, rfl, rfl, Lib.hid (by decide), hT, hR, hG⟩
  case round =>
    clear hT hR hG
    obtain ⟨k, acc, p, hk, hacc0, rfl, rfl, hacc, hT, hR, hG⟩ := hrel
    have y2 : wr.cell? ⟨rb, 2, none⟩ = some (.bool false) := hR.out.1.cell 2
    have yz := hR.out.lt
    rcases hq : l.drop p with _ | ⟨x, t⟩
    · have hp := drop_nil_iff hR.out.2.2.1 hR.out.2.2.2 hq
      go_wp2_with fail
      clear y2 yz
      refine (next_no D rb n c p A l _ hR.out hp).mono ?_
      rintro e w1 ⟨rfl, hR1, hg⟩
      have HF : Hid (RetNumR T D rb A n c l w (.returned (.int .u64 0)) (w1.setCell ⟨rb, 2, none⟩ (.bool true))) := by
        rw [← hT.out, hq]
        exact ⟨grown_two (grown_two hG.out hg) (grownBy_set (a := ⟨rb, 2, none⟩) _), rfl, p, hR1.setBad true⟩
      have HF2 : Hid (k = 0 → RetNumR T D rb A n c l w (.returned (.int .u64 0)) w1) := by
        intro _
        rw [← hT.out, hq]
        exact ⟨grown_two hG.out hg, rfl, p, hR1⟩
      have z2 : w1.cell? ⟨rb, 2, none⟩ = some (.bool true) := hR1.1.cell 2
      have f2 := hR1.1.free 2
      have zz := hR1.lt
      clear hg hR1 hR hG hT
      by_cases hk0 : k = 0
      · subst hk0
        have HF3 := HF2.out rfl
        obtain rfl : acc = 0 := by have := hacc.out; simp at this; exact this
        clear HF HF2
        go_wp2
        go_ret
        exact HF3
      · have e0 : decide ((0 : Int) < (k : Int)) = true := decide_eq_true (by omega)
        clear HF2
        go_wp2
        all_goals
          go_ret
          exact HF.out
    · obtain ⟨hpn, hpx, hpt⟩ := drop_cons_lt hR.out.2.2.1 hq
      have hxn : x.toNat < 256 := x.toNat_lt
      go_wp2_with fail
      clear y2 yz
      refine (next_yes D rb n c p A l _ hR.out hpn).mono ?_
      rintro e w1 ⟨rfl, hR1, hg⟩
      rw [hpx]
      have hnn := hR1.2.2.2
      have hbad : ¬ ((k = 0 ∨ x.toNat ≠ 0) ∧ (k < 9 ∨ x.toNat ≤ 1)) → Hid (none = T) := fun h => (rdNum_bad h).symm.trans (by rw [← hT.out, hq])
      have hend : (k = 0 ∨ x.toNat ≠ 0) ∧ (k < 9 ∨ x.toNat ≤ 1) → x.toNat < 128 → Hid (some (acc + x.toNat % 128 * 128 ^ k, t) = T) := fun h1 h2 => (rdNum_end h1 h2).symm.trans (by rw [← hT.out, hq])
      have hgo : (k = 0 ∨ x.toNat ≠ 0) ∧ (k < 9 ∨ x.toNat ≤ 1) → ¬ x.toNat < 128 → Hid (rdNum (k + 1) (acc + x.toNat % 128 * 128 ^ k) t = T) := fun h1 h2 => (rdNum_go h1 h2).symm.trans (by rw [← hT.out, hq])
      have HR1 := Lib.hid hR1
      have HG1 := Lib.hid (grown_two hG.out hg)
      have HPT := Lib.hid hpt
      clear hT hq hR hG hg hR1 hpx hpt
      generalize x.toNat = cn at *
      have z2 : w1.cell? ⟨rb, 2, none⟩ = some (.bool false) := HR1.out.1.cell 2
      have f2 := HR1.out.1.free 2
      have zz := HR1.out.lt
      rcases (show (k = 9 ∧ 1 < cn) ∨ (k = 9 ∧ cn = 0) ∨ (0 < k ∧ k < 9 ∧ cn = 0) ∨ k = 0 ∨ (0 < k ∧ k < 9 ∧ cn ≠ 0) ∨ (k = 9 ∧ cn = 1) by omega) with h | h | h | h | h | h
      · have e1 : ((k : Int) == 9) = true := by simp; omega
        have e2 : decide ((1 : Int) < (cn : Int)) = true := by simp; omega
        have HF : Hid (RetNumR T D rb A n c l w (.returned (.int .u64 0)) (w1.setCell ⟨rb, 2, none⟩ (.bool true))) := by
          rw [← (hbad (by omega)).out]
          exact ⟨grown_two HG1.out (grownBy_set (a := ⟨rb, 2, none⟩) _), rfl, p + 1, HR1.out.setBad true⟩
        clear hbad hend hgo HR1 HG1 h
        go_wp2
        go_ret
        exact HF.out
      · have e1 : ((k : Int) == 9) = true := by simp; omega
        have e2 : decide ((1 : Int) < (cn : Int)) = false := by simp; omega
        have e3 : decide ((0 : Int) < (k : Int)) = true := by simp; omega
        have e5 : 0 < k := by omega
        have e4 : ((cn : Int) == 0) = true := by simp; omega
        have HF : Hid (RetNumR T D rb A n c l w (.returned (.int .u64 0)) (w1.setCell ⟨rb, 2, none⟩ (.bool true))) := by
          rw [← (hbad (by omega)).out]
          exact ⟨grown_two HG1.out (grownBy_set (a := ⟨rb, 2, none⟩) _), rfl, p + 1, HR1.out.setBad true⟩
        clear hbad hend hgo HR1 HG1 h
        go_wp2
        go_ret
        exact HF.out
      · have e1 : ((k : Int) == 9) = false := by simp; omega
        have e3 : decide ((0 : Int) < (k : Int)) = true := by simp; omega
        have e5 : 0 < k := by omega
        have e4 : ((cn : Int) == 0) = true := by simp; omega
        have HF : Hid (RetNumR T D rb A n c l w (.returned (.int .u64 0)) (w1.setCell ⟨rb, 2, none⟩ (.bool true))) := by
          rw [← (hbad (by omega)).out]
          exact ⟨grown_two HG1.out (grownBy_set (a := ⟨rb, 2, none⟩) _), rfl, p + 1, HR1.out.setBad true⟩
        clear hbad hend hgo HR1 HG1 h
        go_wp2
        go_ret
        exact HF.out
      · have e1 : ((k : Int) == 9) = false := by simp; omega
        have e3 : decide ((0 : Int) < (k : Int)) = false := by simp; omega
        have e5 : ¬ 0 < k := by omega
        have HE := hend (by omega)
        have HGO := hgo (by omega)
        obtain ⟨hs1, hs2, hs3⟩ := acc_step hk hacc.out (by omega) hxn
        have HS := Lib.hid (accR (acc := acc) (k := k) hs2 hs3)
        have hk9 : k < 9 := by omega
        clear hbad hend hgo z2 f2 zz h hs3
        by_cases h128 : cn < 128
        · have HR : Hid (RetNumR T D rb A n c l w (.returned (.int .u64 ((acc + cn % 128 * 128 ^ k : Nat) : Int))) w1) := by
            rw [← HE h128]
            exact ⟨HG1.out, rfl, p + 1, HPT.out, HR1.out⟩
          clear HE HGO HR1 HG1 hs1 hs2
          go_wp2
          go_ret
          have h := HR.out
          rw [← HS.out] at h
          exact h
        · have hs1' := hs1 (by omega)
          have hp := pow_le9 (show k + 1 ≤ 9 by omega)
          have hs3 : acc + cn % 128 * 128 ^ k < 9223372036854775808 := by omega
          have HS2 := Lib.hid hs1'
          clear hs1 hs1' hp
          have HN := HGO h128
          rw [← HPT.out] at HN
          clear HE HGO HPT hs2
          go_wp2
          exact ⟨⟨k + 1, _, p + 1, by omega, hs3, by go_num, by rw [HS.out], HS2, HN, HR1, HG1⟩, by simp [intOf]; omega⟩
      · have e1 : ((k : Int) == 9) = false := by simp; omega
        have e3 : decide ((0 : Int) < (k : Int)) = true := by simp; omega
        have e5 : 0 < k := by omega
        have e4 : ((cn : Int) == 0) = false := by simp; omega
        have HE := hend (by omega)
        have HGO := hgo (by omega)
        obtain ⟨hs1, hs2, hs3⟩ := acc_step hk hacc.out (by omega) hxn
        have HS := Lib.hid (accR (acc := acc) (k := k) hs2 hs3)
        have hk9 : k < 9 := by omega
        clear hbad hend hgo z2 f2 zz h hs3
        by_cases h128 : cn < 128
        · have HR : Hid (RetNumR T D rb A n c l w (.returned (.int .u64 ((acc + cn % 128 * 128 ^ k : Nat) : Int))) w1) := by
            rw [← HE h128]
            exact ⟨HG1.out, rfl, p + 1, HPT.out, HR1.out⟩
          clear HE HGO HR1 HG1 hs1 hs2
          go_wp2
          go_ret
          have h := HR.out
          rw [← HS.out] at h
          exact h
        · have hs1' := hs1 (by omega)
          have hp := pow_le9 (show k + 1 ≤ 9 by omega)
          have hs3 : acc + cn % 128 * 128 ^ k < 9223372036854775808 := by omega
          have HS2 := Lib.hid hs1'
          clear hs1 hs1' hp
          have HN := HGO h128
          rw [← HPT.out] at HN
          clear HE HGO HPT hs2
          go_wp2
          exact ⟨⟨k + 1, _, p + 1, by omega, hs3, by go_num, by rw [HS.out], HS2, HN, HR1, HG1⟩, by simp [intOf]; omega⟩
      · have e1 : ((k : Int) == 9) = true := by simp; omega
        have e2 : decide ((1 : Int) < (cn : Int)) = false := by simp; omega
        have e3 : decide ((0 : Int) < (k : Int)) = true := by simp; omega
        have e5 : 0 < k := by omega
        have e4 : ((cn : Int) == 0) = false := by simp; omega
        have HE := hend (by omega)
        have HGO := hgo (by omega)
        obtain ⟨hs1, hs2, hs3⟩ := acc_step hk hacc.out (by omega) hxn
        have HS := Lib.hid (accR (acc := acc) (k := k) hs2 hs3)
        have hc1 := Lib.hid (show cn = 1 by omega)
        clear hbad hend hgo z2 f2 zz h hs3
        by_cases h128 : cn < 128
        · have HR : Hid (RetNumR T D rb A n c l w (.returned (.int .u64 ((acc + cn % 128 * 128 ^ k : Nat) : Int))) w1) := by
            rw [← HE h128]
            exact ⟨HG1.out, rfl, p + 1, HPT.out, HR1.out⟩
          clear HE HGO HR1 HG1 hs1 hs2
          go_wp2
          go_ret
          have h := HR.out
          rw [← HS.out] at h
          exact h
        · exact absurd hc1.out (by omega)

end Go.Proofs.Ytmbifmmkccghfaa

/-
  The reference's reader: Value: all but lists. (Printed by gen_gl.py.)
-/
namespace Go.Proofs.Ytmbifmmkccghfaa
open Go.RowKit
attribute [local go_sem ↓ high] app_named

def RetV (t : Option (Val × Bs)) (m D rb : Nat) (A : Option Addr) (n c : Nat) (l : Bs) (w : World) (e : Ending) (w' : World) : Prop :=
  w.grownBy w' (some rb) ∧ ∃ (x : Val) (L : Value) (p : Nat) (bd : Bool), e = .returned (x.v L) ∧ ValsP w' (fun b => w.heap.size ≤ b) m L x.elems ∧ Rc w' D rb A n c l p bd ∧ match t with
  | some (y, r) => bd = false ∧ x = y ∧ l.drop p = r
  | none => bd = true
theorem RetNumR.any {t : Option (Nat × Bs)} {D rb n c : Nat} {A : Option Addr} {l : Bs} {w : World} {e : Ending} {w' : World} (ht : ∀ y r, t = some (y, r) → y < 18446744073709551616) (h : RetNumR t D rb A n c l w e w') : ∃ (u p : Nat) (bd : Bool), e = .returned (.int .u64 u) ∧ Rc w' D rb A n c l p bd ∧ w.grownBy w' (some rb) ∧ u < 18446744073709551616 ∧ (∀ y r, t = some (y, r) → u = y ∧ bd = false ∧ l.drop p = r) ∧ (t = none → bd = true) := by
  obtain ⟨hg, h⟩ := h
  rcases t with _ | ⟨y, r⟩
  · obtain ⟨rfl, p, hR⟩ := h
    exact ⟨0, p, true, rfl, hR, hg, by decide, fun y r h => (by cases h), fun _ => rfl⟩
  · obtain ⟨rfl, p, hp, hR⟩ := h
    exact ⟨y, p, false, rfl, hR, hg, ht y r rfl, fun y1 r1 h => (by cases h; exact ⟨rfl, rfl, hp⟩), fun h => (by cases h)⟩
theorem Rc.setX {w : World} {D rb n c p : Nat} {A : Option Addr} {l : Bs} {bd : Bool} (h : Rc w D rb A n c l p bd) {a : Addr} (h1 : D ≤ a.block) (h2 : a.block ≠ rb) (v : Value) : Rc (w.setCell a v) D rb A n c l p bd :=
  h.keepG (grownBy_set (w := w) (a := a) v) fun k hk => by injection hk with hk; subst hk; exact ⟨h1, h2⟩
theorem fin_value {w wp : World} {D rb n c p m : Nat} {A : Option Addr} {l : Bs} {bd : Bool} {xs : List Value} {L : Value} {es : List Val} (X : Box wp w.heap.size xs) (HG : w.grownBy wp (some rb)) (HR : Rc wp D rb A n c l p bd) (HV : ValsP wp (fun b => w.heap.size + 1 ≤ b) m L es) (hD : D ≤ w.heap.size) (hne : w.heap.size ≠ rb) (a0 a1 a2 a3 : Value) :
    Box ((((wp.setCell ⟨w.heap.size, 0, none⟩ a0).setCell ⟨w.heap.size, 1, none⟩ a1).setCell ⟨w.heap.size, 2, none⟩ a2).setCell ⟨w.heap.size, 3, none⟩ a3) w.heap.size ((((xs.set 0 a0).set 1 a1).set 2 a2).set 3 a3) ∧ w.grownBy ((((wp.setCell ⟨w.heap.size, 0, none⟩ a0).setCell ⟨w.heap.size, 1, none⟩ a1).setCell ⟨w.heap.size, 2, none⟩ a2).setCell ⟨w.heap.size, 3, none⟩ a3) (some rb) ∧ Rc ((((wp.setCell ⟨w.heap.size, 0, none⟩ a0).setCell ⟨w.heap.size, 1, none⟩ a1).setCell ⟨w.heap.size, 2, none⟩ a2).setCell ⟨w.heap.size, 3, none⟩ a3) D rb A n c l p bd ∧ ValsP ((((wp.setCell ⟨w.heap.size, 0, none⟩ a0).setCell ⟨w.heap.size, 1, none⟩ a1).setCell ⟨w.heap.size, 2, none⟩ a2).setCell ⟨w.heap.size, 3, none⟩ a3) (fun b => w.heap.size ≤ b) m L es := by
  refine ⟨(((X.set 0 a0).set 1 a1).set 2 a2).set 3 a3, ?_, (((HR.setX (a := ⟨w.heap.size, 0, none⟩) hD hne a0).setX (a := ⟨w.heap.size, 1, none⟩) hD hne a1).setX (a := ⟨w.heap.size, 2, none⟩) hD hne a2).setX (a := ⟨w.heap.size, 3, none⟩) hD hne a3, ?_⟩
  · exact grown_set (grown_set (grown_set (grown_set HG (a := ⟨w.heap.size, 0, none⟩) (Nat.le_refl _) a0) (a := ⟨w.heap.size, 1, none⟩) (Nat.le_refl _) a1) (a := ⟨w.heap.size, 2, none⟩) (Nat.le_refl _) a2) (a := ⟨w.heap.size, 3, none⟩) (Nat.le_refl _) a3
  · have no : ∀ j : Nat, ¬ (w.heap.size + 1 ≤ (⟨w.heap.size, j, none⟩ : Addr).block) := fun j hj => by
      have : w.heap.size + 1 ≤ w.heap.size := hj
      omega
    exact (((((HV.set (a := ⟨w.heap.size, 0, none⟩) (no 0) a0).set (a := ⟨w.heap.size, 1, none⟩) (no 1) a1).set (a := ⟨w.heap.size, 2, none⟩) (no 2) a2).set (a := ⟨w.heap.size, 3, none⟩) (no 3) a3).weak fun b hb _ => Nat.le_of_succ_le hb)

set_option maxRecDepth 100000 in
set_option maxHeartbeats 4000000 in
theorem valueR_0 (D rb n c p0 : Nat) (A : Option Addr) (l : Bs) (w : World) (h : Rc w D rb A n c l p0 false) (hD : D ≤ w.heap.size) (dep : Int) (m : Nat) (hp : p0 = n) : Calls Try.prog 67 #[.pointer (some ⟨rb, 0, none⟩), .int .i64 dep] w (RetV (none) (m) D rb A n c l w) := by
  have hst := (Below.refl w.heap.size w).alloc (Nat.le_refl _) (.cells #[.int .i64 0, .int .i64 0, .string ⟨#[]⟩, .slice none 0 0] 85)
  have X := Box.new w [.int .i64 0, .int .i64 0, .string ⟨#[]⟩, .slice none 0 0] 85
  have hrb := h.lt
  have HR := Lib.hid (h.keep hst)
  have ST := Lib.hid hst
  have HD := Lib.hid hD
  have hne : rb ≠ w.heap.size := by omega
  have hne' : w.heap.size ≠ rb := by omega
  clear hst h hD
  go_enter Try.func67, Try.ntmps67
  go_wp2_with fail
  refine (next_no D rb n c p0 A l _ HR.out hp).mono ?_
  rintro e w1 ⟨rfl, hR1, hg⟩
  have X1 := X.same (hg.block _ X.lt (by intro e; injection e with e; omega))
  have HG1 := Lib.hid (grown_of ST.out hg)
  have HR1 := Lib.hid hR1
  clear hg hR1 X HR ST
  have y2 : w1.cell? ⟨rb, 2, none⟩ = some (.bool true) := HR1.out.1.cell 2
  have yf := HR1.out.1.free 2
  have yz := HR1.out.lt
  have xf0 := X1.free 0
  have xc0 : w1.cell? ⟨w.heap.size, 0, none⟩ = some (.int .i64 0) := X1.cell 0
  have xf1 := X1.free 1
  have xc1 : w1.cell? ⟨w.heap.size, 1, none⟩ = some (.int .i64 0) := X1.cell 1
  have xf2 := X1.free 2
  have xc2 : w1.cell? ⟨w.heap.size, 2, none⟩ = some (.string ⟨#[]⟩) := X1.cell 2
  have xf3 := X1.free 3
  have xc3 : w1.cell? ⟨w.heap.size, 3, none⟩ = some (.slice none 0 0) := X1.cell 3
  have xz := X1.lt
  go_wp2
  clear y2 yf yz xf0 xf1 xf2 xf3 xz xc0 xc1 xc2 xc3
  have X2 := X1.other (a := ⟨rb, 2, none⟩) hne' (.bool true)
  have HG2 := grown_two HG1.out (grownBy_set (a := ⟨rb, 2, none⟩) (.bool true))
  have HR2 := HR1.out.setBad true
  obtain ⟨XZ, HGZ, HRZ, HVZ⟩ := fin_value X2 HG2 HR2 (valsP_nil _ _ m) HD.out hne' (.int .i64 0) (.int .i64 0) (.string ⟨#[]⟩) (.slice none 0 0)
  generalize (((((w1.setCell ⟨rb, 2, none⟩ (.bool true)).setCell ⟨w.heap.size, 0, none⟩ (.int .i64 0)).setCell ⟨w.heap.size, 1, none⟩ (.int .i64 0)).setCell ⟨w.heap.size, 2, none⟩ (.string ⟨#[]⟩)).setCell ⟨w.heap.size, 3, none⟩ (.slice none 0 0)) = Z at XZ HGZ HRZ HVZ ⊢
  have z0 : Z.cell? ⟨w.heap.size, 0, none⟩ = some (.int .i64 0) := XZ.cell 0
  have z1 : Z.cell? ⟨w.heap.size, 1, none⟩ = some (.int .i64 0) := XZ.cell 1
  have z2 : Z.cell? ⟨w.heap.size, 2, none⟩ = some (.string ⟨#[]⟩) := XZ.cell 2
  have z3 : Z.cell? ⟨w.heap.size, 3, none⟩ = some (.slice none 0 0) := XZ.cell 3
  refine bodyPost_ret (v := .agg #[.int .i64 0, .int .i64 0, .string ⟨#[]⟩, .slice none 0 0]) (by simp [results, Try.results67, go_sem, z0, z1, z2, z3]) rfl ?_
  exact ⟨HGZ, Val.zero, _, _, _, rfl, HVZ, HRZ, rfl⟩

set_option maxRecDepth 100000 in
set_option maxHeartbeats 4000000 in
theorem valueR_x (D rb n c p0 : Nat) (A : Option Addr) (l : Bs) (w : World) (h : Rc w D rb A n c l p0 false) (hD : D ≤ w.heap.size) (dep : Int) (m : Nat) (b0 : UInt8) (t : Bs) (hq : l.drop p0 = b0 :: t) (h1 : b0.toNat ≠ 1) (h2 : b0.toNat ≠ 2) (h3 : b0.toNat ≠ 3) : Calls Try.prog 67 #[.pointer (some ⟨rb, 0, none⟩), .int .i64 dep] w (RetV (none) (m) D rb A n c l w) := by
  have hst := (Below.refl w.heap.size w).alloc (Nat.le_refl _) (.cells #[.int .i64 0, .int .i64 0, .string ⟨#[]⟩, .slice none 0 0] 85)
  have X := Box.new w [.int .i64 0, .int .i64 0, .string ⟨#[]⟩, .slice none 0 0] 85
  have hrb := h.lt
  have HR := Lib.hid (h.keep hst)
  have ST := Lib.hid hst
  have HD := Lib.hid hD
  have hne : rb ≠ w.heap.size := by omega
  have hne' : w.heap.size ≠ rb := by omega
  obtain ⟨hpn, hpx, hpt⟩ := drop_cons_lt h.2.2.1 hq
  clear hst h hD
  go_enter Try.func67, Try.ntmps67
  go_wp2_with fail
  refine (next_yes D rb n c p0 A l _ HR.out hpn).mono ?_
  rintro e w1 ⟨rfl, hR1, hg⟩
  rw [hpx]
  have X1 := X.same (hg.block _ X.lt (by intro e; injection e with e; omega))
  have HG1 := Lib.hid (grown_of ST.out hg)
  have HR1 := Lib.hid hR1
  replace hpt := Lib.hid hpt
  clear hg hR1 X HR ST hpx
  have y2 : w1.cell? ⟨rb, 2, none⟩ = some (.bool false) := HR1.out.1.cell 2
  have yf := HR1.out.1.free 2
  have yz := HR1.out.lt
  generalize b0.toNat = bn at h1 h2 h3 ⊢
  have e1 : ((bn : Int) == 1) = false := by simp; omega
  have e2 : ((bn : Int) == 2) = false := by simp; omega
  have e3 : ((bn : Int) == 3) = false := by simp; omega
  have xf0 := X1.free 0
  have xc0 : w1.cell? ⟨w.heap.size, 0, none⟩ = some (.int .i64 0) := X1.cell 0
  have xf1 := X1.free 1
  have xc1 : w1.cell? ⟨w.heap.size, 1, none⟩ = some (.int .i64 0) := X1.cell 1
  have xf2 := X1.free 2
  have xc2 : w1.cell? ⟨w.heap.size, 2, none⟩ = some (.string ⟨#[]⟩) := X1.cell 2
  have xf3 := X1.free 3
  have xc3 : w1.cell? ⟨w.heap.size, 3, none⟩ = some (.slice none 0 0) := X1.cell 3
  have xz := X1.lt
  go_wp2
  clear y2 yf yz xf0 xf1 xf2 xf3 xz xc0 xc1 xc2 xc3
  have X2 := X1.other (a := ⟨rb, 2, none⟩) hne' (.bool true)
  have HG2 := grown_two HG1.out (grownBy_set (a := ⟨rb, 2, none⟩) (.bool true))
  have HR2 := HR1.out.setBad true
  obtain ⟨XZ, HGZ, HRZ, HVZ⟩ := fin_value X2 HG2 HR2 (valsP_nil _ _ m) HD.out hne' (.int .i64 0) (.int .i64 0) (.string ⟨#[]⟩) (.slice none 0 0)
  generalize (((((w1.setCell ⟨rb, 2, none⟩ (.bool true)).setCell ⟨w.heap.size, 0, none⟩ (.int .i64 0)).setCell ⟨w.heap.size, 1, none⟩ (.int .i64 0)).setCell ⟨w.heap.size, 2, none⟩ (.string ⟨#[]⟩)).setCell ⟨w.heap.size, 3, none⟩ (.slice none 0 0)) = Z at XZ HGZ HRZ HVZ ⊢
  have z0 : Z.cell? ⟨w.heap.size, 0, none⟩ = some (.int .i64 0) := XZ.cell 0
  have z1 : Z.cell? ⟨w.heap.size, 1, none⟩ = some (.int .i64 0) := XZ.cell 1
  have z2 : Z.cell? ⟨w.heap.size, 2, none⟩ = some (.string ⟨#[]⟩) := XZ.cell 2
  have z3 : Z.cell? ⟨w.heap.size, 3, none⟩ = some (.slice none 0 0) := XZ.cell 3
  refine bodyPost_ret (v := .agg #[.int .i64 0, .int .i64 0, .string ⟨#[]⟩, .slice none 0 0]) (by simp [results, Try.results67, go_sem, z0, z1, z2, z3]) rfl ?_
  exact ⟨HGZ, Val.zero, _, _, _, rfl, HVZ, HRZ, rfl⟩

set_option maxRecDepth 100000 in
set_option maxHeartbeats 4000000 in
theorem valueR_1 (D rb n c p0 : Nat) (A : Option Addr) (l : Bs) (w : World) (h : Rc w D rb A n c l p0 false) (hD : D ≤ w.heap.size) (dep : Int) (m : Nat) (t : Bs) (hq : l.drop p0 = 1 :: t) : Calls Try.prog 67 #[.pointer (some ⟨rb, 0, none⟩), .int .i64 dep] w (RetV ((rdNum 0 0 t).map fun p => (Val.mk 1 (zag p.1) [] [], p.2)) (m) D rb A n c l w) := by
  have hst := (Below.refl w.heap.size w).alloc (Nat.le_refl _) (.cells #[.int .i64 0, .int .i64 0, .string ⟨#[]⟩, .slice none 0 0] 85)
  have X := Box.new w [.int .i64 0, .int .i64 0, .string ⟨#[]⟩, .slice none 0 0] 85
  have hrb := h.lt
  have HR := Lib.hid (h.keep hst)
  have ST := Lib.hid hst
  have HD := Lib.hid hD
  have hne : rb ≠ w.heap.size := by omega
  have hne' : w.heap.size ≠ rb := by omega
  obtain ⟨hpn, hpx, hpt⟩ := drop_cons_lt h.2.2.1 hq
  clear hst h hD
  go_enter Try.func67, Try.ntmps67
  go_wp2_with fail
  refine (next_yes D rb n c p0 A l _ HR.out hpn).mono ?_
  rintro e w1 ⟨rfl, hR1, hg⟩
  rw [hpx]
  have X1 := X.same (hg.block _ X.lt (by intro e; injection e with e; omega))
  have HG1 := Lib.hid (grown_of ST.out hg)
  have HR1 := Lib.hid hR1
  replace hpt := Lib.hid hpt
  clear hg hR1 X HR ST hpx
  have ht1 : ∀ y r, rdNum 0 0 (l.drop (p0 + 1)) = some (y, r) → y < 18446744073709551616 := fun y r h => (rdNum_lt (by omega) (by decide) h).1
  have HT1 := Lib.hid ht1
  clear ht1
  go_wp2_with fail
  refine (numberR_any D rb n c A l (p0 + 1) _ HR1.out _ rfl).mono ?_
  intro e w2 hret
  obtain ⟨u, p, bd, rfl, hR2, hg2, hu, hm1, hm2⟩ := hret.any HT1.out
  have X2 := X1.same (hg2.block _ X1.lt (by intro e; injection e with e; omega))
  have HG2 := Lib.hid (grown_two HG1.out hg2)
  have HR2 := Lib.hid hR2
  have HM : Hid (match (rdNum 0 0 t).map fun p => (Val.mk 1 (zag p.1) [] [], p.2) with | some (y, r) => bd = false ∧ Val.mk 1 (zag u) [] [] = y ∧ l.drop p = r | none => bd = true) := by
    rw [hpt.out] at hm1 hm2
    rcases hn : rdNum 0 0 t with _ | ⟨y, r⟩
    · exact hm2 hn
    · obtain ⟨h1, h2, h3⟩ := hm1 y r hn
      subst h1
      exact ⟨h2, rfl, h3⟩
  clear hret hR2 hg2 hm1 hm2 X1 HG1 HR1 HT1
  have xf0 := X2.free 0
  have xc0 : w2.cell? ⟨w.heap.size, 0, none⟩ = some (.int .i64 0) := X2.cell 0
  have xf1 := X2.free 1
  have xc1 : w2.cell? ⟨w.heap.size, 1, none⟩ = some (.int .i64 0) := X2.cell 1
  have xf2 := X2.free 2
  have xc2 : w2.cell? ⟨w.heap.size, 2, none⟩ = some (.string ⟨#[]⟩) := X2.cell 2
  have xf3 := X2.free 3
  have xc3 : w2.cell? ⟨w.heap.size, 3, none⟩ = some (.slice none 0 0) := X2.cell 3
  have xz := X2.lt
  rcases Nat.mod_two_eq_zero_or_one u with ho | ho
  · have hz : zag u = ((u / 2 : Nat) : Int) := by rw [zag, if_neg (by omega)]
    have e1 : ((u : Int) % 2 == 1) = false := by simp; omega
    rw [hz] at HM
    have e2 : (u : Int) / 2 = ((u / 2 : Nat) : Int) := by omega
    have hu2 : u / 2 ≤ 9223372036854775807 := by omega
    generalize u / 2 = v at *
    have e3 : IntKind.i64.wrap (v : Int) = (v : Int) := by simp [IntKind.wrap, IntKind.bits, IntKind.signed]; omega
    go_wp2
    clear xf0 xf1 xf2 xf3 xz xc0 xc1 xc2 xc3
    obtain ⟨XZ, HGZ, HRZ, HVZ⟩ := fin_value X2 HG2.out HR2.out (valsP_nil _ _ m) HD.out hne' (.int .i64 1) (.int .i64 (v : Int)) (.string ⟨#[]⟩) (.slice none 0 0)
    generalize ((((w2.setCell ⟨w.heap.size, 0, none⟩ (.int .i64 1)).setCell ⟨w.heap.size, 1, none⟩ (.int .i64 (v : Int))).setCell ⟨w.heap.size, 2, none⟩ (.string ⟨#[]⟩)).setCell ⟨w.heap.size, 3, none⟩ (.slice none 0 0)) = Z at XZ HGZ HRZ HVZ ⊢
    have z0 : Z.cell? ⟨w.heap.size, 0, none⟩ = some (.int .i64 1) := XZ.cell 0
    have z1 : Z.cell? ⟨w.heap.size, 1, none⟩ = some (.int .i64 (v : Int)) := XZ.cell 1
    have z2 : Z.cell? ⟨w.heap.size, 2, none⟩ = some (.string ⟨#[]⟩) := XZ.cell 2
    have z3 : Z.cell? ⟨w.heap.size, 3, none⟩ = some (.slice none 0 0) := XZ.cell 3
    refine bodyPost_ret (v := .agg #[.int .i64 1, .int .i64 (v : Int), .string ⟨#[]⟩, .slice none 0 0]) (by simp [results, Try.results67, go_sem, z0, z1, z2, z3]) rfl ?_
    exact ⟨HGZ, Val.mk 1 v [] [], _, _, _, rfl, HVZ, HRZ, HM.out⟩
  · have hz : zag u = -((u / 2 : Nat) : Int) - 1 := by rw [zag, if_pos ho]
    have e1 : ((u : Int) % 2 == 1) = true := by simp; omega
    rw [hz] at HM
    have e2 : (u : Int) / 2 = ((u / 2 : Nat) : Int) := by omega
    have hu2 : u / 2 ≤ 9223372036854775807 := by omega
    generalize u / 2 = v at *
    have e3 : IntKind.i64.wrap (v : Int) = (v : Int) := by simp [IntKind.wrap, IntKind.bits, IntKind.signed]; omega
    have e4 : IntKind.i64.wrap (-(v : Int)) = -(v : Int) := by simp [IntKind.wrap, IntKind.bits, IntKind.signed]; omega
    have e5 : IntKind.i64.wrap (-(v : Int) - 1) = -(v : Int) - 1 := by simp [IntKind.wrap, IntKind.bits, IntKind.signed]; omega
    go_wp2
    clear xf0 xf1 xf2 xf3 xz xc0 xc1 xc2 xc3
    obtain ⟨XZ, HGZ, HRZ, HVZ⟩ := fin_value X2 HG2.out HR2.out (valsP_nil _ _ m) HD.out hne' (.int .i64 1) (.int .i64 (-(v : Int) - 1)) (.string ⟨#[]⟩) (.slice none 0 0)
    generalize ((((w2.setCell ⟨w.heap.size, 0, none⟩ (.int .i64 1)).setCell ⟨w.heap.size, 1, none⟩ (.int .i64 (-(v : Int) - 1))).setCell ⟨w.heap.size, 2, none⟩ (.string ⟨#[]⟩)).setCell ⟨w.heap.size, 3, none⟩ (.slice none 0 0)) = Z at XZ HGZ HRZ HVZ ⊢
    have z0 : Z.cell? ⟨w.heap.size, 0, none⟩ = some (.int .i64 1) := XZ.cell 0
    have z1 : Z.cell? ⟨w.heap.size, 1, none⟩ = some (.int .i64 (-(v : Int) - 1)) := XZ.cell 1
    have z2 : Z.cell? ⟨w.heap.size, 2, none⟩ = some (.string ⟨#[]⟩) := XZ.cell 2
    have z3 : Z.cell? ⟨w.heap.size, 3, none⟩ = some (.slice none 0 0) := XZ.cell 3
    refine bodyPost_ret (v := .agg #[.int .i64 1, .int .i64 (-(v : Int) - 1), .string ⟨#[]⟩, .slice none 0 0]) (by simp [results, Try.results67, go_sem, z0, z1, z2, z3]) rfl ?_
    exact ⟨HGZ, Val.mk 1 (-(v : Int) - 1) [] [], _, _, _, rfl, HVZ, HRZ, HM.out⟩

end Go.Proofs.Ytmbifmmkccghfaa

/-
  The reference's reader: Value: texts. (Printed by gen_gl.py.)
-/
namespace Go.Proofs.Ytmbifmmkccghfaa
open Go.RowKit
attribute [local go_sem ↓ high] app_named

theorem grown_drew {w w' : World} {r : Option Nat} (h : w.grownBy w' r) : w.grownBy w'.drew r := ⟨h.os, h.tape, h.output, h.size, h.block⟩
theorem BsAt.cutTo {w : World} {S : Nat → Prop} {A : Option Addr} {n c : Nat} {l : Bs} (h : BsAt w S (.slice A n c) l) {m : Nat} (hm : m ≤ l.length) : BsAt w S (.slice A m c) (l.take m) := by
  obtain ⟨hf, A', c', hv, hn, h1⟩ := h
  have e1 : n = l.length := by injection hv
  have e2 : A' = A := by injection hv with h _ _; exact h.symm
  have e3 : c' = c := by injection hv with _ _ h; exact h.symm
  subst e2 e3
  refine ⟨?_, A', c', by rw [List.length_take, Nat.min_eq_left hm], by rw [List.length_take]; omega, fun i hi => ?_⟩
  · rcases hf with h2 | ⟨a, n', c'', h2, h3, h4⟩
    · injection h2 with h5 h6 h7
      subst h5 h7
      obtain rfl : m = 0 := by omega
      exact .inl rfl
    · injection h2 with h5 h6 h7
      subst h5 h7
      exact .inr ⟨a, m, _, rfl, by omega, h4⟩
  · rw [List.length_take] at hi
    obtain ⟨b, off, e, hS, hb, h3⟩ := h1 i (by omega)
    refine ⟨b, off, e, hS, hb, fun j hj => ?_⟩
    rw [h3 j hj]
    simp [List.getD_eq_getElem?_getD, show i < m by omega]
theorem Rc.text {w : World} {D rb n c p q u : Nat} {A : Option Addr} {l : Bs} {bd : Bool} (h : Rc w D rb A n c l q bd) (hp : p + u ≤ n) (h0 : 0 < n) : ∃ b off, A = some ⟨b, off, none⟩ ∧ n ≤ c ∧ c ≤ 9223372036854775807 ∧ (c = p → u = 0 ∧ (convert 43 9 (.slice (some ⟨b, off, none⟩) 0 0)).run Try.prog w = .ok (.string (strB ((l.drop p).take u))) w) ∧ (c ≠ p → (convert 43 9 (.slice (some ⟨b, off + p, none⟩) u (c - p))).run Try.prog w = .ok (.string (strB ((l.drop p).take u))) w) := by
  obtain ⟨_, hB, hl, hq⟩ := h
  obtain ⟨b, off, rfl, h1, h2, -, -⟩ := hB.row h0
  unfold maxLen at h2
  refine ⟨b, off, rfl, h1, by omega, fun hc => ?_, fun hc => ?_⟩
  · have hu : u = 0 := by omega
    subst hu
    refine ⟨rfl, ?_⟩
    have h3 := (hB.cutTo (m := 0) (Nat.zero_le _)).part 0 (Nat.le_refl _)
    have := h3.str
    rw [List.take_zero] at this ⊢
    exact this
  · have h3 := (hB.rest p (by omega)).cutTo (m := u) (by rw [List.length_drop, hl]; omega)
    exact h3.str

set_option maxRecDepth 100000 in
set_option maxHeartbeats 4000000 in
theorem valueR_2 (D rb n c p0 : Nat) (A : Option Addr) (l : Bs) (w : World) (h : Rc w D rb A n c l p0 false) (hD : D ≤ w.heap.size) (dep : Int) (m : Nat) (t : Bs) (hq : l.drop p0 = 2 :: t) (T : Option (Val × Bs)) (hT : Hid (((rdLen t).map fun p => (Val.mk 2 0 (p.2.take p.1) [], p.2.drop p.1)) = T)) : Calls Try.prog 67 #[.pointer (some ⟨rb, 0, none⟩), .int .i64 dep] w (RetV (T) (m) D rb A n c l w) := by
  have hst := (Below.refl w.heap.size w).alloc (Nat.le_refl _) (.cells #[.int .i64 0, .int .i64 0, .string ⟨#[]⟩, .slice none 0 0] 85)
  have X := Box.new w [.int .i64 0, .int .i64 0, .string ⟨#[]⟩, .slice none 0 0] 85
  have hrb := h.lt
  have HR := Lib.hid (h.keep hst)
  have ST := Lib.hid hst
  have HD := Lib.hid hD
  have hne : rb ≠ w.heap.size := by omega
  have hne' : w.heap.size ≠ rb := by omega
  obtain ⟨hpn, hpx, hpt⟩ := drop_cons_lt h.2.2.1 hq
  clear hst h hD
  go_enter Try.func67, Try.ntmps67
  go_wp2_with fail
  refine (next_yes D rb n c p0 A l _ HR.out hpn).mono ?_
  rintro e w1 ⟨rfl, hR1, hg⟩
  rw [hpx]
  have X1 := X.same (hg.block _ X.lt (by intro e; injection e with e; omega))
  have HG1 := Lib.hid (grown_of ST.out hg)
  have HR1 := Lib.hid hR1
  replace hpt := Lib.hid hpt
  clear hg hR1 X HR ST hpx
  have ht1 : ∀ y r, rdNum 0 0 (l.drop (p0 + 1)) = some (y, r) → y < 18446744073709551616 := fun y r h => (rdNum_lt (by omega) (by decide) h).1
  have HT1 := Lib.hid ht1
  clear ht1
  go_wp2_with fail
  refine (numberR_any D rb n c A l (p0 + 1) _ HR1.out _ rfl).mono ?_
  intro e w2 hret
  obtain ⟨u, p, bd, rfl, hR2, hg2, hu, hm1, hm2⟩ := hret.any HT1.out
  have X2 := X1.same (hg2.block _ X1.lt (by intro e; injection e with e; omega))
  have HG2 := Lib.hid (grown_two HG1.out hg2)
  have HR2 := Lib.hid hR2
  rw [hpt.out] at hm1 hm2
  clear hret hR2 hg2 X1 HG1 HR1 HT1
  have y0 : w2.cell? ⟨rb, 0, none⟩ = some (.slice A n c) := HR2.out.1.cell 0
  have y1 : w2.cell? ⟨rb, 1, none⟩ = some (.int .i64 p) := HR2.out.1.cell 1
  have y2 : w2.cell? ⟨rb, 2, none⟩ = some (.bool bd) := HR2.out.1.cell 2
  have yf := HR2.out.1.free 2
  have yf1 := HR2.out.1.free 1
  have yz := HR2.out.lt
  have hpn2 := HR2.out.2.2.2
  have hnm : n ≤ 9223372036854775807 := by
    obtain ⟨_, _, _, hm⟩ := HR2.out.2.1.form
    rw [HR2.out.2.2.1] at hm
    unfold maxLen at hm
    exact hm
  have xf0 := X2.free 0
  have xc0 : w2.cell? ⟨w.heap.size, 0, none⟩ = some (.int .i64 0) := X2.cell 0
  have xf1 := X2.free 1
  have xc1 : w2.cell? ⟨w.heap.size, 1, none⟩ = some (.int .i64 0) := X2.cell 1
  have xf2 := X2.free 2
  have xc2 : w2.cell? ⟨w.heap.size, 2, none⟩ = some (.string ⟨#[]⟩) := X2.cell 2
  have xf3 := X2.free 3
  have xc3 : w2.cell? ⟨w.heap.size, 3, none⟩ = some (.slice none 0 0) := X2.cell 3
  have xz := X2.lt
  rcases bd with _ | _
  rotate_left
  · have hn : rdNum 0 0 t = none := by
      rcases hn : rdNum 0 0 t with _ | ⟨y, r⟩
      · rfl
      · have := (hm1 y r hn).2.1
        cases this
    obtain rfl : none = T := by rw [← hT.out, rdLen_none hn]; rfl
    clear hT hm1 hm2 hn
    go_wp2
    go_quiet (fail)
    go_wp2
    clear y0 y1 y2 yf yf1 yz xf0 xf1 xf2 xf3 xz xc0 xc1 xc2 xc3
    have X3 := (X2.later (below_drewN (Below.refl w2.heap.size w2) nq)).other (a := ⟨rb, 2, none⟩) hne' (.bool true)
    have HG3 := grown_two (grown_drewN HG2.out nq) (grownBy_set (a := ⟨rb, 2, none⟩) (.bool true))
    have HR3 := (HR2.out.drewN nq).setBad true
    obtain ⟨XZ, HGZ, HRZ, HVZ⟩ := fin_value X3 HG3 HR3 (valsP_nil _ _ m) HD.out hne' (.int .i64 0) (.int .i64 0) (.string ⟨#[]⟩) (.slice none 0 0)
    generalize ((((((w2.drewN nq).setCell ⟨rb, 2, none⟩ (.bool true)).setCell ⟨w.heap.size, 0, none⟩ (.int .i64 0)).setCell ⟨w.heap.size, 1, none⟩ (.int .i64 0)).setCell ⟨w.heap.size, 2, none⟩ (.string ⟨#[]⟩)).setCell ⟨w.heap.size, 3, none⟩ (.slice none 0 0)) = Z at XZ HGZ HRZ HVZ ⊢
    have z0 : Z.cell? ⟨w.heap.size, 0, none⟩ = some (.int .i64 0) := XZ.cell 0
    have z1 : Z.cell? ⟨w.heap.size, 1, none⟩ = some (.int .i64 0) := XZ.cell 1
    have z2 : Z.cell? ⟨w.heap.size, 2, none⟩ = some (.string ⟨#[]⟩) := XZ.cell 2
    have z3 : Z.cell? ⟨w.heap.size, 3, none⟩ = some (.slice none 0 0) := XZ.cell 3
    refine bodyPost_ret (v := .agg #[.int .i64 0, .int .i64 0, .string ⟨#[]⟩, .slice none 0 0]) (by simp [results, Try.results67, go_sem, z0, z1, z2, z3]) rfl ?_
    exact ⟨HGZ, Val.zero, _, _, _, rfl, HVZ, HRZ, rfl⟩
  rcases hn : rdNum 0 0 t with _ | ⟨y, r⟩
  · have := hm2 hn
    cases this
  obtain ⟨huy, -, hpr⟩ := hm1 y r hn
  subst huy
  have hrl : r.length = n - p := by rw [← hpr, List.length_drop, HR2.out.2.2.1]
  have w1' : IntKind.i64.wrap ((n : Int) - (p : Int)) = (n : Int) - (p : Int) := by simp [IntKind.wrap, IntKind.bits, IntKind.signed]; omega
  have w2' : IntKind.u64.wrap ((n : Int) - (p : Int)) = (n : Int) - (p : Int) := by rw [wrap_u64']; omega
  clear hm1 hm2
  rcases Nat.lt_or_ge (n - p) u with hlt | hle
  · obtain rfl : none = T := by rw [← hT.out, rdLen_over hn (by omega)]; rfl
    clear hT
    have d1 : decide ((n : Int) - (p : Int) < (u : Int)) = true := decide_eq_true (by omega)
    clear hn hrl hpr
    go_wp2
    go_quiet (fail)
    go_wp2
    clear y0 y1 y2 yf yf1 yz xf0 xf1 xf2 xf3 xz xc0 xc1 xc2 xc3
    have X3 := (X2.later (below_drewN (Below.refl w2.heap.size w2) nq)).other (a := ⟨rb, 2, none⟩) hne' (.bool true)
    have HG3 := grown_two (grown_drewN HG2.out nq) (grownBy_set (a := ⟨rb, 2, none⟩) (.bool true))
    have HR3 := (HR2.out.drewN nq).setBad true
    obtain ⟨XZ, HGZ, HRZ, HVZ⟩ := fin_value X3 HG3 HR3 (valsP_nil _ _ m) HD.out hne' (.int .i64 0) (.int .i64 0) (.string ⟨#[]⟩) (.slice none 0 0)
    generalize ((((((w2.drewN nq).setCell ⟨rb, 2, none⟩ (.bool true)).setCell ⟨w.heap.size, 0, none⟩ (.int .i64 0)).setCell ⟨w.heap.size, 1, none⟩ (.int .i64 0)).setCell ⟨w.heap.size, 2, none⟩ (.string ⟨#[]⟩)).setCell ⟨w.heap.size, 3, none⟩ (.slice none 0 0)) = Z at XZ HGZ HRZ HVZ ⊢
    have z0 : Z.cell? ⟨w.heap.size, 0, none⟩ = some (.int .i64 0) := XZ.cell 0
    have z1 : Z.cell? ⟨w.heap.size, 1, none⟩ = some (.int .i64 0) := XZ.cell 1
    have z2 : Z.cell? ⟨w.heap.size, 2, none⟩ = some (.string ⟨#[]⟩) := XZ.cell 2
    have z3 : Z.cell? ⟨w.heap.size, 3, none⟩ = some (.slice none 0 0) := XZ.cell 3
    refine bodyPost_ret (v := .agg #[.int .i64 0, .int .i64 0, .string ⟨#[]⟩, .slice none 0 0]) (by simp [results, Try.results67, go_sem, z0, z1, z2, z3]) rfl ?_
    exact ⟨HGZ, Val.zero, _, _, _, rfl, HVZ, HRZ, rfl⟩
  · obtain rfl : some (Val.mk 2 0 (r.take u) [], r.drop u) = T := by rw [← hT.out, rdLen_of hn (by omega)]; rfl
    clear hT
    have d1 : decide ((n : Int) - (p : Int) < (u : Int)) = false := decide_eq_false (by omega)
    have e1 : IntKind.i64.wrap (u : Int) = (u : Int) := by simp [IntKind.wrap, IntKind.bits, IntKind.signed]; omega
    have e2 : IntKind.i64.wrap ((p : Int) + (u : Int)) = (p : Int) + (u : Int) := by simp [IntKind.wrap, IntKind.bits, IntKind.signed]; omega
    clear hn hrl
    go_wp2
    go_quiet (fail)
    go_wp2_with fail
    clear y0 y1 y2 yf yf1 yz xf0 xf1 xf2 xf3 xz xc0 xc1 xc2 xc3
    have X3 := (X2.later (below_drewN (Below.refl w2.heap.size w2) nq)).other (a := ⟨rb, 1, none⟩) hne' (.int .i64 ((p : Int) + (u : Int)))
    have HG3 := Lib.hid (grown_two (grown_drewN HG2.out nq) (grownBy_set (a := ⟨rb, 1, none⟩) (.int .i64 ((p : Int) + (u : Int)))))
    have HR3 := Lib.hid ((HR2.out.drewN nq).setAt (q := p + u) (by omega))
    rw [Int.natCast_add] at HR3
    generalize (w2.drewN nq).setCell ⟨rb, 1, none⟩ (.int .i64 ((p : Int) + (u : Int))) = W at X3 HG3 HR3 ⊢
    obtain ⟨b, off, rfl, hnc, hcm, t1, t2⟩ := (HR3.out.keep (Below.refl W.heap.size W).drew).text (p := p) (u := u) (by omega) (by omega)
    have y0 : W.cell? ⟨rb, 0, none⟩ = some (.slice (some ⟨b, off, none⟩) n c) := HR3.out.1.cell 0
    have y1 : W.cell? ⟨rb, 1, none⟩ = some (.int .i64 ((p : Int) + (u : Int))) := by have := HR3.out.1.cell 1; rw [Int.natCast_add] at this; exact this
    have yz := HR3.out.lt
    have e3 : IntKind.i64.wrap (p : Int) = (p : Int) := by simp [IntKind.wrap, IntKind.bits, IntKind.signed]; omega
    rw [hpr] at t1 t2
    have hd3 : l.drop (p + u) = r.drop u := by rw [← hpr, List.drop_drop]
    generalize hst : strB (r.take u) = st at t1 t2
    replace hst := Lib.hid hst
    replace hd3 := Lib.hid hd3
    have xf0 := X3.free 0
    have xc0 : W.cell? ⟨w.heap.size, 0, none⟩ = some (.int .i64 0) := X3.cell 0
    have xf1 := X3.free 1
    have xc1 : W.cell? ⟨w.heap.size, 1, none⟩ = some (.int .i64 0) := X3.cell 1
    have xf2 := X3.free 2
    have xc2 : W.cell? ⟨w.heap.size, 2, none⟩ = some (.string ⟨#[]⟩) := X3.cell 2
    have xf3 := X3.free 3
    have xc3 : W.cell? ⟨w.heap.size, 3, none⟩ = some (.slice none 0 0) := X3.cell 3
    have xz := X3.lt
    rcases Nat.decEq c p with hc | hc
    rotate_left
    · obtain ⟨hu0, v1⟩ := t1 hc
      subst hc
      subst hu0
      clear t1 t2
      go_region
      go_wp2
      clear y0 y1 yz xf0 xf1 xf2 xf3 xz xc0 xc1 xc2 xc3
      obtain ⟨XZ, HGZ, HRZ, HVZ⟩ := fin_value X3 HG3.out HR3.out (valsP_nil _ _ m) HD.out hne' (.int .i64 2) (.int .i64 0) (.string st) (.slice none 0 0)
      generalize ((((W.setCell ⟨w.heap.size, 0, none⟩ (.int .i64 2)).setCell ⟨w.heap.size, 1, none⟩ (.int .i64 0)).setCell ⟨w.heap.size, 2, none⟩ (.string st)).setCell ⟨w.heap.size, 3, none⟩ (.slice none 0 0)) = Z at XZ HGZ HRZ HVZ ⊢
      have z0 : Z.cell? ⟨w.heap.size, 0, none⟩ = some (.int .i64 2) := XZ.cell 0
      have z1 : Z.cell? ⟨w.heap.size, 1, none⟩ = some (.int .i64 0) := XZ.cell 1
      have z2 : Z.cell? ⟨w.heap.size, 2, none⟩ = some (.string st) := XZ.cell 2
      have z3 : Z.cell? ⟨w.heap.size, 3, none⟩ = some (.slice none 0 0) := XZ.cell 3
      refine bodyPost_ret (v := .agg #[.int .i64 2, .int .i64 0, .string st, .slice none 0 0]) (by simp [results, Try.results67, go_sem, z0, z1, z2, z3]) rfl ?_
      exact ⟨grown_drew HGZ, Val.mk 2 0 (r.take 0) [], _, _, _, by rw [← hst.out]; rfl, HVZ.keep (Keeps.of (Below.refl Z.heap.size Z).drew), HRZ.keep (Below.refl Z.heap.size Z).drew, ⟨rfl, rfl, hd3.out⟩⟩
    · have v1 := t2 hc
      clear t1 t2
      go_region
      go_wp2
      clear y0 y1 yz xf0 xf1 xf2 xf3 xz xc0 xc1 xc2 xc3
      obtain ⟨XZ, HGZ, HRZ, HVZ⟩ := fin_value X3 HG3.out HR3.out (valsP_nil _ _ m) HD.out hne' (.int .i64 2) (.int .i64 0) (.string st) (.slice none 0 0)
      generalize ((((W.setCell ⟨w.heap.size, 0, none⟩ (.int .i64 2)).setCell ⟨w.heap.size, 1, none⟩ (.int .i64 0)).setCell ⟨w.heap.size, 2, none⟩ (.string st)).setCell ⟨w.heap.size, 3, none⟩ (.slice none 0 0)) = Z at XZ HGZ HRZ HVZ ⊢
      have z0 : Z.cell? ⟨w.heap.size, 0, none⟩ = some (.int .i64 2) := XZ.cell 0
      have z1 : Z.cell? ⟨w.heap.size, 1, none⟩ = some (.int .i64 0) := XZ.cell 1
      have z2 : Z.cell? ⟨w.heap.size, 2, none⟩ = some (.string st) := XZ.cell 2
      have z3 : Z.cell? ⟨w.heap.size, 3, none⟩ = some (.slice none 0 0) := XZ.cell 3
      refine bodyPost_ret (v := .agg #[.int .i64 2, .int .i64 0, .string st, .slice none 0 0]) (by simp [results, Try.results67, go_sem, z0, z1, z2, z3]) rfl ?_
      exact ⟨grown_drew HGZ, Val.mk 2 0 (r.take u) [], _, _, _, by rw [← hst.out]; rfl, HVZ.keep (Keeps.of (Below.refl Z.heap.size Z).drew), HRZ.keep (Below.refl Z.heap.size Z).drew, ⟨rfl, rfl, hd3.out⟩⟩

end Go.Proofs.Ytmbifmmkccghfaa
