/-
  The reference's reader: next and number. No condition.
-/
import Derived.Test.YtcokkloaljaanaaGE
import Derived.BigQuiet
namespace Go.Proofs.Ytcokkloaljaanaa
open Go.RowKit

/-- The reference's reader in block rb: the bytes l, read up to p; bd: it has failed. -/
def Rc (w : World) (D rb : Nat) (A : Option Addr) (n c : Nat) (l : Bs) (p : Nat) (bd : Bool) : Prop := Box w rb [.slice A n c, .int .i64 p, .bool bd] ∧ BsAt w (fun b => b < D ∧ b ≠ rb) (.slice A n c) l ∧ l.length = n ∧ p ≤ n
theorem Rc.keep {w w' : World} {D rb n c p : Nat} {A : Option Addr} {l : Bs} {bd : Bool} (h : Rc w D rb A n c l p bd) (hb : Below w.heap.size w w') : Rc w' D rb A n c l p bd := ⟨h.1.later hb, h.2.1.keep (Keeps.of hb), h.2.2⟩
theorem Rc.keepG {w w' : World} {D rb n c p : Nat} {A : Option Addr} {l : Bs} {bd : Bool} {r : Option Nat} (h : Rc w D rb A n c l p bd) (hg : w.grownBy w' r) (hr : ∀ k, r = some k → D ≤ k ∧ k ≠ rb) : Rc w' D rb A n c l p bd :=
  ⟨h.1.same (hg.block rb h.1.lt fun e => (hr rb e.symm).2 rfl), h.2.1.keep ⟨hg.size, fun b hb hl => hg.block b hl fun e => by have := (hr b e.symm).1; omega⟩, h.2.2⟩
theorem Rc.lt {w : World} {D rb n c p : Nat} {A : Option Addr} {l : Bs} {bd : Bool} (h : Rc w D rb A n c l p bd) : rb < w.heap.size := h.1.lt
theorem Rc.setAt {w : World} {D rb n c p q : Nat} {A : Option Addr} {l : Bs} {bd : Bool} (h : Rc w D rb A n c l p bd) (hq : q ≤ n) : Rc (w.setCell ⟨rb, 1, none⟩ (.int .i64 q)) D rb A n c l q bd :=
  ⟨h.1.set 1 _, h.2.1.keep ⟨by simp, fun b hb hl => Below.heap_setCell w ⟨rb, 1, none⟩ _ b hb.2⟩, h.2.2.1, hq⟩
theorem Rc.setAt1 {w : World} {D rb n c p : Nat} {A : Option Addr} {l : Bs} {bd : Bool} (h : Rc w D rb A n c l p bd) (hq : p < n) : Rc (w.setCell ⟨rb, 1, none⟩ (.int .i64 ((p : Int) + 1))) D rb A n c l (p + 1) bd := h.setAt (q := p + 1) hq
theorem Rc.drewN {w : World} {D rb n c p : Nat} {A : Option Addr} {l : Bs} {bd : Bool} (h : Rc w D rb A n c l p bd) (j : Nat) : Rc (w.drewN j) D rb A n c l p bd := h.keep (below_drewN (Below.refl w.heap.size w) j)
theorem Rc.setBad {w : World} {D rb n c p : Nat} {A : Option Addr} {l : Bs} {bd : Bool} (h : Rc w D rb A n c l p bd) (b2 : Bool) : Rc (w.setCell ⟨rb, 2, none⟩ (.bool b2)) D rb A n c l p b2 :=
  ⟨h.1.set 2 _, h.2.1.keep ⟨by simp, fun b hb hl => Below.heap_setCell w ⟨rb, 2, none⟩ _ b hb.2⟩, h.2.2⟩
theorem grown_drewN {w w' : World} {r : Option Nat} (h : w.grownBy w' r) (j : Nat) : w.grownBy (w'.drewN j) r := ⟨h.os, h.tape, h.output, h.size, h.block⟩

set_option maxRecDepth 100000 in
set_option maxHeartbeats 4000000 in
theorem next_yes (D rb n c p : Nat) (A : Option Addr) (l : Bs) (w : World) (h : Rc w D rb A n c l p false) (hp : p < n) : Calls Try.prog 48 #[.pointer (some ⟨rb, 0, none⟩)] w fun e w' => e = .returned (.int .u8 ((l.getD p 0).toNat : Int)) ∧ Rc w' D rb A n c l (p + 1) false ∧ w.grownBy w' (some rb) := by
  obtain ⟨b, off, rfl, ⟨hbD, hbr⟩, hb, hc⟩ := h.2.1.cell (k := p) (by rw [h.2.2.1]; exact hp)
  have hn2 : c ≤ maxLen ∧ n ≤ c := by
    obtain ⟨_, _, _, h1, h2, _⟩ := h.2.1.row (by omega)
    exact ⟨h2, h1⟩
  have hnm : n ≤ 9223372036854775807 := by unfold maxLen at hn2; omega
  clear hn2
  have x0 : w.cell? ⟨rb, 0, none⟩ = some (.slice (some ⟨b, off, none⟩) n c) := h.1.cell 0
  have x1 : w.cell? ⟨rb, 1, none⟩ = some (.int .i64 p) := h.1.cell 1
  have f1 : w.frozen? ⟨rb, 1, none⟩ = false := h.1.free 1
  have hz := h.lt
  have hd : decide ((n : Int) ≤ (p : Int)) = false := decide_eq_false (by omega)
  have h2 := Lib.hid h
  have hne : ¬ b = rb := hbr
  clear h
  go_enter Try.func48, Try.ntmps48
  go_wp2
  go_quiet (fail)
  go_wp2_with fail
  have h3 := Lib.hid ((h2.out.drewN nq).setAt1 hp)
  have g3 : Hid (w.grownBy ((w.drewN nq).setCell ⟨rb, 1, none⟩ (.int .i64 ((p : Int) + 1))) (some rb)) := Lib.hid (grown_two (grown_drewN (grownBy_refl w _) nq) (grownBy_set (a := ⟨rb, 1, none⟩) _))
  have hc3 : ((w.drewN nq).setCell ⟨rb, 1, none⟩ (.int .i64 ((p : Int) + 1))).cell? ⟨b, off + p, none⟩ = some (.int .u8 ((l.getD p 0).toNat : Int)) := by
    obtain ⟨b2, off2, e, _, _, h⟩ := h3.out.2.1.cell (k := p) (by rw [h3.out.2.2.1]; exact hp)
    cases e
    exact h
  generalize (w.drewN nq).setCell ⟨rb, 1, none⟩ (.int .i64 ((p : Int) + 1)) = W at h3 g3 hc3 ⊢
  clear hc x0 x1 f1 hz hd h2 hb
  have x0 : W.cell? ⟨rb, 0, none⟩ = some (.slice (some ⟨b, off, none⟩) n c) := h3.out.1.cell 0
  have x1 : W.cell? ⟨rb, 1, none⟩ = some (.int .i64 ((p : Int) + 1)) := h3.out.1.cell 1
  have hz := h3.out.lt
  have hlt : (p : Int) < (n : Int) := by omega
  have hwp : IntKind.i64.wrap (p : Int) = (p : Int) := by simp [IntKind.wrap, IntKind.bits, IntKind.signed]; omega
  go_quiet (fail)
  go_wp2_with fail
  go_ret
  exact ⟨rfl, h3.out.drewN _, grown_drewN g3.out _⟩

set_option maxRecDepth 100000 in
set_option maxHeartbeats 4000000 in
theorem next_no (D rb n c p : Nat) (A : Option Addr) (l : Bs) (w : World) (h : Rc w D rb A n c l p false) (hp : p = n) : Calls Try.prog 48 #[.pointer (some ⟨rb, 0, none⟩)] w fun e w' => e = .returned (.int .u8 0) ∧ Rc w' D rb A n c l p true ∧ w.grownBy w' (some rb) := by
  have x0 : w.cell? ⟨rb, 0, none⟩ = some (.slice A n c) := h.1.cell 0
  have x1 : w.cell? ⟨rb, 1, none⟩ = some (.int .i64 p) := h.1.cell 1
  have f2 : w.frozen? ⟨rb, 2, none⟩ = false := h.1.free 2
  have x2 : w.cell? ⟨rb, 2, none⟩ = some (.bool false) := h.1.cell 2
  have hz := h.lt
  have hd : decide ((n : Int) ≤ (p : Int)) = true := decide_eq_true (by omega)
  have h2 := Lib.hid h
  clear h
  go_enter Try.func48, Try.ntmps48
  go_wp2
  go_quiet (fail)
  go_wp2_with fail
  go_ret
  exact ⟨rfl, (h2.out.drewN _).setBad true, grown_two (grown_drewN (grownBy_refl w _) _) (grownBy_set (a := ⟨rb, 2, none⟩) _)⟩

/-- What the reference's number does. -/
def RetNumR (t : Option (Nat × Bs)) (D rb : Nat) (A : Option Addr) (n c : Nat) (l : Bs) (w : World) (e : Ending) (w' : World) : Prop :=
  w.grownBy w' (some rb) ∧ match t with
  | some (u, r) => e = .returned (.int .u64 u) ∧ ∃ p, l.drop p = r ∧ Rc w' D rb A n c l p false
  | none => e = .returned (.int .u64 0) ∧ ∃ p, Rc w' D rb A n c l p true
theorem drop_nil_iff {l : Bs} {p n : Nat} (hn : l.length = n) (hp : p ≤ n) (h : l.drop p = []) : p = n := by
  have := List.drop_eq_nil_iff.1 h
  omega
theorem drop_cons_lt {l : Bs} {p n : Nat} {c : UInt8} {t : Bs} (hn : l.length = n) (h : l.drop p = c :: t) : p < n ∧ l.getD p 0 = c ∧ l.drop (p + 1) = t := by
  have h1 : p < l.length := by
    rcases Nat.lt_or_ge p l.length with h1 | h1
    · exact h1
    · rw [List.drop_eq_nil_iff.2 h1] at h; cases h
  rw [List.drop_eq_getElem_cons h1] at h
  injection h with h2 h3
  refine ⟨by omega, ?_, h3⟩
  rw [List.getD_eq_getElem?_getD, List.getElem?_eq_getElem h1]
  exact h2
theorem accR {acc k cn : Nat} (h2 : acc + cn % 128 * 128 ^ k < 18446744073709551616) (h3 : cn % 128 * 128 ^ k < 18446744073709551616) : IntKind.u64.wrap ((acc : Int) + IntKind.u64.wrap ((cn : Int) % 128 * 2 ^ (7 * k))) = ((acc + cn % 128 * 128 ^ k : Nat) : Int) := by
  have hpw : (2 : Int) ^ (7 * k) = ((128 ^ k : Nat) : Int) := by
    rw [Int.pow_mul]
    have : (2 : Int) ^ 7 = ((128 : Nat) : Int) := by decide
    rw [this, Int.natCast_pow]
  have e1 : (cn : Int) % 128 = ((cn % 128 : Nat) : Int) := by omega
  rw [hpw, e1, ← Int.natCast_mul, wrap_u64', wrap_u64']
  have e2 : ((cn % 128 * 128 ^ k : Nat) : Int) % 18446744073709551616 = ((cn % 128 * 128 ^ k : Nat) : Int) := by omega
  rw [e2]
  omega

set_option maxRecDepth 100000 in
set_option maxHeartbeats 4000000 in
theorem numberR_any (D rb n c : Nat) (A : Option Addr) (l : Bs) (p0 : Nat) (w : World) (h : Rc w D rb A n c l p0 false) (T : Option (Nat × Bs)) (hT : Hid (rdNum 0 0 (l.drop p0) = T)) : Calls Try.prog 49 #[.pointer (some ⟨rb, 0, none⟩)] w (RetNumR T D rb A n c l w) := by
  have hR := Lib.hid h
  have hG := Lib.hid (grownBy_refl w (some rb))
  clear h
  go_enter Try.func49, Try.ntmps49
  go_wp2
  go_loopw [3, 4] (fun u i wr => ∃ (k acc p : Nat), k ≤ 9 ∧ acc < 9223372036854775808 ∧ i = .int .i64 k ∧ u = .int .u64 acc ∧ Hid (acc < 128 ^ k) ∧ Hid (rdNum k acc (l.drop p) = T) ∧ Hid (Rc wr D rb A n c l p false) ∧ Hid (w.grownBy wr (some rb))) (fun _ i _ => 10 - (intOf i).toNat)
  case atStart => exact ⟨0, 0, p0, by omega, by omega, rfl, rfl, Lib.hid (by decide), hT, hR, hG⟩
  case round =>
    clear hT hR hG
    obtain ⟨k, acc, p, hk, hacc0, rfl, rfl, hacc, hT, hR, hG⟩ := hrel
    have y2 : wr.cell? ⟨rb, 2, none⟩ = some (.bool false) := hR.out.1.cell 2
    have yz := hR.out.lt
    rcases hq : l.drop p with _ | ⟨x, t⟩
    · have hp := drop_nil_iff hR.out.2.2.1 hR.out.2.2.2 hq
      go_wp2_with fail
      clear y2 yz
      refine (next_no D rb n c p A l _ hR.out hp).mono ?_
      rintro e w1 ⟨rfl, hR1, hg⟩
      have HF : Hid (RetNumR T D rb A n c l w (.returned (.int .u64 0)) (w1.setCell ⟨rb, 2, none⟩ (.bool true))) := by
        rw [← hT.out, hq]
        exact ⟨grown_two (grown_two hG.out hg) (grownBy_set (a := ⟨rb, 2, none⟩) _), rfl, p, hR1.setBad true⟩
      have HF2 : Hid (k = 0 → RetNumR T D rb A n c l w (.returned (.int .u64 0)) w1) := by
        intro _
        rw [← hT.out, hq]
        exact ⟨grown_two hG.out hg, rfl, p, hR1⟩
      have z2 : w1.cell? ⟨rb, 2, none⟩ = some (.bool true) := hR1.1.cell 2
      have f2 := hR1.1.free 2
      have zz := hR1.lt
      clear hg hR1 hR hG hT
      by_cases hk0 : k = 0
      · subst hk0
        have HF3 := HF2.out rfl
        obtain rfl : acc = 0 := by have := hacc.out; simp at this; exact this
        clear HF HF2
        go_wp2
        go_ret
        exact HF3
      · have e0 : decide ((0 : Int) < (k : Int)) = true := decide_eq_true (by omega)
        clear HF2
        go_wp2
        all_goals
          go_ret
          exact HF.out
    · obtain ⟨hpn, hpx, hpt⟩ := drop_cons_lt hR.out.2.2.1 hq
      have hxn : x.toNat < 256 := x.toNat_lt
      go_wp2_with fail
      clear y2 yz
      refine (next_yes D rb n c p A l _ hR.out hpn).mono ?_
      rintro e w1 ⟨rfl, hR1, hg⟩
      rw [hpx]
      have hnn := hR1.2.2.2
      have hbad : ¬ ((k = 0 ∨ x.toNat ≠ 0) ∧ (k < 9 ∨ x.toNat ≤ 1)) → Hid (none = T) := fun h => (rdNum_bad h).symm.trans (by rw [← hT.out, hq])
      have hend : (k = 0 ∨ x.toNat ≠ 0) ∧ (k < 9 ∨ x.toNat ≤ 1) → x.toNat < 128 → Hid (some (acc + x.toNat % 128 * 128 ^ k, t) = T) := fun h1 h2 => (rdNum_end h1 h2).symm.trans (by rw [← hT.out, hq])
      have hgo : (k = 0 ∨ x.toNat ≠ 0) ∧ (k < 9 ∨ x.toNat ≤ 1) → ¬ x.toNat < 128 → Hid (rdNum (k + 1) (acc + x.toNat % 128 * 128 ^ k) t = T) := fun h1 h2 => (rdNum_go h1 h2).symm.trans (by rw [← hT.out, hq])
      have HR1 := Lib.hid hR1
      have HG1 := Lib.hid (grown_two hG.out hg)
      have HPT := Lib.hid hpt
      clear hT hq hR hG hg hR1 hpx hpt
      generalize x.toNat = cn at *
      have z2 : w1.cell? ⟨rb, 2, none⟩ = some (.bool false) := HR1.out.1.cell 2
      have f2 := HR1.out.1.free 2
      have zz := HR1.out.lt
      rcases (show (k = 9 ∧ 1 < cn) ∨ (k = 9 ∧ cn = 0) ∨ (0 < k ∧ k < 9 ∧ cn = 0) ∨ k = 0 ∨ (0 < k ∧ k < 9 ∧ cn ≠ 0) ∨ (k = 9 ∧ cn = 1) by omega) with h | h | h | h | h | h
      · have e1 : ((k : Int) == 9) = true := by simp; omega
        have e2 : decide ((1 : Int) < (cn : Int)) = true := by simp; omega
        have HF : Hid (RetNumR T D rb A n c l w (.returned (.int .u64 0)) (w1.setCell ⟨rb, 2, none⟩ (.bool true))) := by
          rw [← (hbad (by omega)).out]
          exact ⟨grown_two HG1.out (grownBy_set (a := ⟨rb, 2, none⟩) _), rfl, p + 1, HR1.out.setBad true⟩
        clear hbad hend hgo HR1 HG1 h
        go_wp2
        go_ret
        exact HF.out
      · have e1 : ((k : Int) == 9) = true := by simp; omega
        have e2 : decide ((1 : Int) < (cn : Int)) = false := by simp; omega
        have e3 : decide ((0 : Int) < (k : Int)) = true := by simp; omega
        have e5 : 0 < k := by omega
        have e4 : ((cn : Int) == 0) = true := by simp; omega
        have HF : Hid (RetNumR T D rb A n c l w (.returned (.int .u64 0)) (w1.setCell ⟨rb, 2, none⟩ (.bool true))) := by
          rw [← (hbad (by omega)).out]
          exact ⟨grown_two HG1.out (grownBy_set (a := ⟨rb, 2, none⟩) _), rfl, p + 1, HR1.out.setBad true⟩
        clear hbad hend hgo HR1 HG1 h
        go_wp2
        go_ret
        exact HF.out
      · have e1 : ((k : Int) == 9) = false := by simp; omega
        have e3 : decide ((0 : Int) < (k : Int)) = true := by simp; omega
        have e5 : 0 < k := by omega
        have e4 : ((cn : Int) == 0) = true := by simp; omega
        have HF : Hid (RetNumR T D rb A n c l w (.returned (.int .u64 0)) (w1.setCell ⟨rb, 2, none⟩ (.bool true))) := by
          rw [← (hbad (by omega)).out]
          exact ⟨grown_two HG1.out (grownBy_set (a := ⟨rb, 2, none⟩) _), rfl, p + 1, HR1.out.setBad true⟩
        clear hbad hend hgo HR1 HG1 h
        go_wp2
        go_ret
        exact HF.out
      · have e1 : ((k : Int) == 9) = false := by simp; omega
        have e3 : decide ((0 : Int) < (k : Int)) = false := by simp; omega
        have e5 : ¬ 0 < k := by omega
        have HE := hend (by omega)
        have HGO := hgo (by omega)
        obtain ⟨hs1, hs2, hs3⟩ := acc_step hk hacc.out (by omega) hxn
        have HS := Lib.hid (accR (acc := acc) (k := k) hs2 hs3)
        have hk9 : k < 9 := by omega
        clear hbad hend hgo z2 f2 zz h hs3
        by_cases h128 : cn < 128
        · have HR : Hid (RetNumR T D rb A n c l w (.returned (.int .u64 ((acc + cn % 128 * 128 ^ k : Nat) : Int))) w1) := by
            rw [← HE h128]
            exact ⟨HG1.out, rfl, p + 1, HPT.out, HR1.out⟩
          clear HE HGO HR1 HG1 hs1 hs2
          go_wp2
          go_ret
          have h := HR.out
          rw [← HS.out] at h
          exact h
        · have hs1' := hs1 (by omega)
          have hp := pow_le9 (show k + 1 ≤ 9 by omega)
          have hs3 : acc + cn % 128 * 128 ^ k < 9223372036854775808 := by omega
          have HS2 := Lib.hid hs1'
          clear hs1 hs1' hp
          have HN := HGO h128
          rw [← HPT.out] at HN
          clear HE HGO HPT hs2
          go_wp2
          exact ⟨⟨k + 1, _, p + 1, by omega, hs3, by go_num, by rw [HS.out], HS2, HN, HR1, HG1⟩, by simp [intOf]; omega⟩
      · have e1 : ((k : Int) == 9) = false := by simp; omega
        have e3 : decide ((0 : Int) < (k : Int)) = true := by simp; omega
        have e5 : 0 < k := by omega
        have e4 : ((cn : Int) == 0) = false := by simp; omega
        have HE := hend (by omega)
        have HGO := hgo (by omega)
        obtain ⟨hs1, hs2, hs3⟩ := acc_step hk hacc.out (by omega) hxn
        have HS := Lib.hid (accR (acc := acc) (k := k) hs2 hs3)
        have hk9 : k < 9 := by omega
        clear hbad hend hgo z2 f2 zz h hs3
        by_cases h128 : cn < 128
        · have HR : Hid (RetNumR T D rb A n c l w (.returned (.int .u64 ((acc + cn % 128 * 128 ^ k : Nat) : Int))) w1) := by
            rw [← HE h128]
            exact ⟨HG1.out, rfl, p + 1, HPT.out, HR1.out⟩
          clear HE HGO HR1 HG1 hs1 hs2
          go_wp2
          go_ret
          have h := HR.out
          rw [← HS.out] at h
          exact h
        · have hs1' := hs1 (by omega)
          have hp := pow_le9 (show k + 1 ≤ 9 by omega)
          have hs3 : acc + cn % 128 * 128 ^ k < 9223372036854775808 := by omega
          have HS2 := Lib.hid hs1'
          clear hs1 hs1' hp
          have HN := HGO h128
          rw [← HPT.out] at HN
          clear HE HGO HPT hs2
          go_wp2
          exact ⟨⟨k + 1, _, p + 1, by omega, hs3, by go_num, by rw [HS.out], HS2, HN, HR1, HG1⟩, by simp [intOf]; omega⟩
      · have e1 : ((k : Int) == 9) = true := by simp; omega
        have e2 : decide ((1 : Int) < (cn : Int)) = false := by simp; omega
        have e3 : decide ((0 : Int) < (k : Int)) = true := by simp; omega
        have e5 : 0 < k := by omega
        have e4 : ((cn : Int) == 0) = false := by simp; omega
        have HE := hend (by omega)
        have HGO := hgo (by omega)
        obtain ⟨hs1, hs2, hs3⟩ := acc_step hk hacc.out (by omega) hxn
        have HS := Lib.hid (accR (acc := acc) (k := k) hs2 hs3)
        have hc1 := Lib.hid (show cn = 1 by omega)
        clear hbad hend hgo z2 f2 zz h hs3
        by_cases h128 : cn < 128
        · have HR : Hid (RetNumR T D rb A n c l w (.returned (.int .u64 ((acc + cn % 128 * 128 ^ k : Nat) : Int))) w1) := by
            rw [← HE h128]
            exact ⟨HG1.out, rfl, p + 1, HPT.out, HR1.out⟩
          clear HE HGO HR1 HG1 hs1 hs2
          go_wp2
          go_ret
          have h := HR.out
          rw [← HS.out] at h
          exact h
        · exact absurd hc1.out (by omega)

end Go.Proofs.Ytcokkloaljaanaa
