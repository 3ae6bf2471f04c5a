/-
  Numerals that are read: as data, and the contract of the reader's number. No condition.
-/
import Derived.Test.YtcokkloaljaanaaCT
namespace Go.Proofs.Ytcokkloaljaanaa
open Go.RowKit

/-- The number at the head of some bytes, from byte i on. -/
def rdNum : Nat → Nat → Bs → Option (Nat × Bs)
  | _, _, [] => none
  | i, acc, c :: t => if (i = 0 ∨ c.toNat ≠ 0) ∧ (i < 9 ∨ c.toNat ≤ 1) then (if c.toNat < 128 then some (acc + c.toNat % 128 * 128 ^ i, t) else rdNum (i + 1) (acc + c.toNat % 128 * 128 ^ i) t) else none
theorem rdNum_nil (i acc : Nat) : rdNum i acc [] = none := rfl
theorem rdNum_bad {i acc : Nat} {c : UInt8} {t : Bs} (h : ¬ ((i = 0 ∨ c.toNat ≠ 0) ∧ (i < 9 ∨ c.toNat ≤ 1))) : rdNum i acc (c :: t) = none := by rw [rdNum, if_neg h]
theorem rdNum_end {i acc : Nat} {c : UInt8} {t : Bs} (h : (i = 0 ∨ c.toNat ≠ 0) ∧ (i < 9 ∨ c.toNat ≤ 1)) (h2 : c.toNat < 128) : rdNum i acc (c :: t) = some (acc + c.toNat % 128 * 128 ^ i, t) := by rw [rdNum, if_pos h, if_pos h2]
theorem rdNum_go {i acc : Nat} {c : UInt8} {t : Bs} (h : (i = 0 ∨ c.toNat ≠ 0) ∧ (i < 9 ∨ c.toNat ≤ 1)) (h2 : ¬ c.toNat < 128) : rdNum i acc (c :: t) = rdNum (i + 1) (acc + c.toNat % 128 * 128 ^ i) t := by rw [rdNum, if_pos h, if_neg h2]
theorem pow_le9 {k : Nat} (h : k ≤ 9) : 128 ^ k ≤ 9223372036854775808 := by
  have := Nat.pow_le_pow_right (n := 128) (by decide) h
  have e : 128 ^ 9 = 9223372036854775808 := by decide
  omega
theorem acc_step {k acc cn : Nat} (hk : k ≤ 9) (hacc : acc < 128 ^ k) (h9 : k < 9 ∨ cn ≤ 1) (hc : cn < 256) : (k < 9 → acc + cn % 128 * 128 ^ k < 128 ^ (k + 1)) ∧ acc + cn % 128 * 128 ^ k < 18446744073709551616 ∧ cn % 128 * 128 ^ k < 18446744073709551616 := by
  have hp := pow_le9 hk
  have hm : cn % 128 * 128 ^ k ≤ 127 * 128 ^ k := Nat.mul_le_mul_right _ (by omega)
  have e : 128 ^ (k + 1) = 128 * 128 ^ k := by rw [Nat.pow_succ, Nat.mul_comm]
  refine ⟨fun _ => by omega, ?_⟩
  by_cases h : k < 9
  · have h8 : 128 ^ k ≤ 72057594037927936 := by
      have := Nat.pow_le_pow_right (n := 128) (by decide) (show k ≤ 8 by omega)
      have e : 128 ^ 8 = 72057594037927936 := by decide
      omega
    omega
  · have h1 : cn ≤ 1 := by omega
    have hm : cn % 128 * 128 ^ k ≤ 1 * 128 ^ k := Nat.mul_le_mul_right _ (by omega)
    omega
theorem and_127 : ∀ n : Fin 256, bits .and .u8 (n.val : Int) 127 = ((n.val % 128 : Nat) : Int) := by decide +kernel
theorem nat_or_add {a m k : Nat} (h : a < 2 ^ k) : a ||| m * 2 ^ k = a + m * 2 ^ k := by
  have := Nat.two_pow_add_eq_or_of_lt h m
  rw [Nat.or_comm, Nat.mul_comm, ← this, Nat.add_comm]
/-- What the walk makes of the sum. -/
theorem acc_bits {k acc cn : Nat} (hk : k ≤ 9) (hacc : acc < 128 ^ k) (h9 : k < 9 ∨ cn ≤ 1) (hc : cn < 256) :
    bits .or .u64 (acc : Int) (IntKind.u64.wrap (IntKind.u64.wrap (bits .and .u8 (cn : Int) 127) * 2 ^ (7 * k))) = ((acc + cn % 128 * 128 ^ k : Nat) : Int) := by
  obtain ⟨_, h2, h3⟩ := acc_step hk hacc h9 hc
  have ha := and_127 ⟨cn, hc⟩
  dsimp only at ha
  have hpw : (2 : Int) ^ (7 * k) = ((128 ^ k : Nat) : Int) := by
    rw [Int.pow_mul]
    have : (2 : Int) ^ 7 = ((128 : Nat) : Int) := by decide
    rw [this, Int.natCast_pow]
  have hp := pow_le9 hk
  have e1 : IntKind.u64.wrap ((cn % 128 : Nat) : Int) = ((cn % 128 : Nat) : Int) := by rw [wrap_u64']; omega
  rw [ha, e1, hpw, ← Int.natCast_mul, wrap_u64']
  have e2 : ((cn % 128 * 128 ^ k : Nat) : Int) % 18446744073709551616 = ((cn % 128 * 128 ^ k : Nat) : Int) := by omega
  rw [e2, bits_or_u64_nat _ _ (by omega) h3]
  have e3 : 128 ^ k = 2 ^ (7 * k) := by rw [Nat.pow_mul]
  rw [e3] at hacc ⊢
  rw [nat_or_add hacc]
theorem rdNum_lt {l : Bs} : ∀ {i acc u : Nat} {r : Bs}, i ≤ 9 → acc < 128 ^ i → rdNum i acc l = some (u, r) → u < 18446744073709551616 ∧ r.length < l.length := by
  induction l with
  | nil => intro i acc u r _ _ h; cases h
  | cons c t ih =>
    intro i acc u r hi ha h
    have hc : c.toNat < 256 := c.toNat_lt
    by_cases hv : (i = 0 ∨ c.toNat ≠ 0) ∧ (i < 9 ∨ c.toNat ≤ 1)
    · obtain ⟨h1, h2, _⟩ := acc_step hi ha hv.2 hc
      by_cases h128 : c.toNat < 128
      · rw [rdNum_end hv h128] at h
        cases h
        exact ⟨h2, by simp⟩
      · rw [rdNum_go hv h128] at h
        have h9 : i < 9 := by omega
        obtain ⟨h3, h4⟩ := ih (by omega) (h1 h9) h
        exact ⟨h3, by simp; omega⟩
    · rw [rdNum_bad hv] at h
      cases h
/-- What number does. -/
def RetNum (t : Option (Nat × Bs)) (D rb : Nat) (w : World) (e : Ending) (w' : World) : Prop :=
  match t with
  | some (u, r) => e = .returned (.int .u64 u) ∧ RdAt w' D rb r ∧ w.grownBy w' (some rb)
  | none => Fails rb w e w'
theorem grown_two {w w1 w2 : World} {r : Option Nat} (h1 : w.grownBy w1 r) (h2 : w1.grownBy w2 r) : w.grownBy w2 r :=
  ⟨h2.os.trans h1.os, h2.tape.trans h1.tape, h2.output.trans h1.output, Nat.le_trans h1.size h2.size, fun k hk hne => (h2.block k (Nat.lt_of_lt_of_le hk h1.size) hne).trans (h1.block k hk hne)⟩
theorem RetTake.byte {c : UInt8} {t : Bs} {D rb : Nat} {w : World} {e : Ending} {w' : World} (h : RetTake (c :: t) 1 D rb w e w') : ∃ b off cc, e = .returned (.slice (some ⟨b, off, none⟩) 1 cc) ∧ w'.cell? ⟨b, off, none⟩ = some (.int .u8 (c.toNat : Int)) ∧ RdAt w' D rb t ∧ w.grownBy w' (some rb) := by
  obtain ⟨A, cc, he, hB, hR, hG, _⟩ := h
  obtain ⟨b, off, rfl, _, _, hc⟩ := hB.cell (k := 0) (by simp)
  exact ⟨b, off, cc, he, hc, hR, hG⟩

set_option maxRecDepth 100000 in
set_option maxHeartbeats 4000000 in
theorem number_any (l : Bs) (D rb : Nat) (w : World) (h : RdAt w D rb l) (T : Option (Nat × Bs)) (hT : Hid (rdNum 0 0 l = T)) : Calls Try.prog 46 #[.pointer (some ⟨rb, 0, none⟩)] w (RetNum T D rb w) := by
  have hR := Lib.hid h
  have hG := Lib.hid (grownBy_refl w (some rb))
  clear h
  go_enter Try.func46, Try.ntmps46
  go_wp2
  go_loopw [2, 3] (fun u i wr => ∃ (k acc : Nat) (r : Bs), k ≤ 9 ∧ acc < 9223372036854775808 ∧ i = .int .i64 k ∧ u = .int .u64 acc ∧ Hid (acc < 128 ^ k) ∧ Hid (rdNum k acc r = T) ∧ Hid (RdAt wr D rb r) ∧ Hid (w.grownBy wr (some rb))) (fun _ i _ => 10 - (intOf i).toNat)
  case atStart => exact ⟨0, 0, l, by omega, by omega, rfl, rfl, Lib.hid (by decide), hT, hR, hG⟩
  case round =>
    clear hT hR hG
    obtain ⟨k, acc, r, hk, hacc0, rfl, rfl, hacc, hT, hR, hG⟩ := hrel
    rcases r with _ | ⟨c, t⟩
    · go_wp2_with fail
      refine (take_no [] 1 D rb _ hR.out (by simp)).mono ?_
      rintro e w1 ⟨rfl, hg⟩
      have HF : Hid (RetNum T D rb w (.panicked bad) w1) := by
        rw [← hT.out]
        exact ⟨rfl, grown_two hG.out hg⟩
      clear hg hR hG hT
      go_wp2
      exact ⟨rfl, HF.out⟩
    · have hcn : c.toNat < 256 := c.toNat_lt
      go_wp2_with fail
      refine (take_yes (c :: t) 1 D rb _ hR.out (by simp)).mono ?_
      intro e w1 hret
      obtain ⟨b, off, cc, rfl, hc, hR1, hg⟩ := hret.byte
      have HR1 := Lib.hid hR1
      have HG1 := Lib.hid (grown_two hG.out hg)
      clear hret hR1 hg hR hG
      have hbad : ¬ ((k = 0 ∨ c.toNat ≠ 0) ∧ (k < 9 ∨ c.toNat ≤ 1)) → none = T := fun h => (rdNum_bad h).symm.trans hT.out
      have hend : (k = 0 ∨ c.toNat ≠ 0) ∧ (k < 9 ∨ c.toNat ≤ 1) → c.toNat < 128 → some (acc + c.toNat % 128 * 128 ^ k, t) = T := fun h1 h2 => (rdNum_end h1 h2).symm.trans hT.out
      have hgo : (k = 0 ∨ c.toNat ≠ 0) ∧ (k < 9 ∨ c.toNat ≤ 1) → ¬ c.toNat < 128 → rdNum (k + 1) (acc + c.toNat % 128 * 128 ^ k) t = T := fun h1 h2 => (rdNum_go h1 h2).symm.trans hT.out
      clear hT
      generalize c.toNat = cn at *
      by_cases hv : (k = 0 ∨ cn ≠ 0) ∧ (k < 9 ∨ cn ≤ 1)
      · have hsum := acc_bits hk hacc.out hv.2 hcn
        obtain ⟨hs1, hs2, _⟩ := acc_step hk hacc.out hv.2 hcn
        have HS := Lib.hid hsum
        have HS1 := Lib.hid hs1
        have HE := Lib.hid (hend hv)
        have HGO := Lib.hid (hgo hv)
        clear hsum hs1 hs2 hend hgo hbad hacc
        have e0 : ((k : Int) == 0) = decide (k = 0) := by rw [Bool.eq_iff_iff]; simp
        have e1 : ((cn : Int) != 0) = decide (cn ≠ 0) := by rw [Bool.eq_iff_iff]; simp
        have e3 : decide ((cn : Int) ≤ 1) = decide (cn ≤ 1) := decide_eq_decide.2 (by omega)
        by_cases hk0 : k = 0
        · rw [decide_eq_true hk0] at e0
          clear e1 hv e3
          have hk9 : k < 9 := by omega
          have e2 : decide ((k : Int) < 9) = true := by simp; omega
          clear hk0
          go_wp2_with fail
          refine (want_yes _ _).mono ?_
          rintro e w2 ⟨rfl, rfl⟩
          by_cases h128 : cn < 128
          · have HR : Hid (RetNum T D rb w (.returned (.int .u64 ((acc + cn % 128 * 128 ^ k : Nat) : Int))) w1) := by
              rw [← HE.out h128]
              exact ⟨rfl, HR1.out, HG1.out⟩
            clear HR1 HG1 HE HGO
            go_wp2
            go_ret
            have h := HR.out
            rw [← HS.out] at h
            exact h
          · have HN := Lib.hid (HGO.out h128)
            have hs1 := HS1.out (by omega)
            have hp := pow_le9 (show k + 1 ≤ 9 by omega)
            have HS2 := Lib.hid hs1
            have hs3 : acc + cn % 128 * 128 ^ k < 9223372036854775808 := by omega
            clear HE HGO HS1 hs1 hp
            go_wp2
            exact ⟨⟨k + 1, _, t, by omega, hs3, by go_num, by rw [HS.out], HS2, HN, HR1, HG1⟩, by simp [intOf]; omega⟩
        · rw [decide_eq_false hk0] at e0
          have hc0 : cn ≠ 0 := by omega
          rw [decide_eq_true hc0] at e1
          by_cases hk9 : k < 9
          · have e2 : decide ((k : Int) < 9) = true := by simp; omega
            clear e3 hv
            go_wp2_with fail
            refine (want_yes _ _).mono ?_
            rintro e w2 ⟨rfl, rfl⟩
            by_cases h128 : cn < 128
            · have HR : Hid (RetNum T D rb w (.returned (.int .u64 ((acc + cn % 128 * 128 ^ k : Nat) : Int))) w1) := by
                rw [← HE.out h128]
                exact ⟨rfl, HR1.out, HG1.out⟩
              clear HR1 HG1 HE HGO
              go_wp2
              go_ret
              have h := HR.out
              rw [← HS.out] at h
              exact h
            · have HN := Lib.hid (HGO.out h128)
              have hs1 := HS1.out (by omega)
              have hp := pow_le9 (show k + 1 ≤ 9 by omega)
              have HS2 := Lib.hid hs1
              have hs3 : acc + cn % 128 * 128 ^ k < 9223372036854775808 := by omega
              clear HE HGO HS1 hs1 hp
              go_wp2
              exact ⟨⟨k + 1, _, t, by omega, hs3, by go_num, by rw [HS.out], HS2, HN, HR1, HG1⟩, by simp [intOf]; omega⟩
          · have e2 : decide ((k : Int) < 9) = false := by simp; omega
            have hc1 : cn ≤ 1 := by omega
            rw [decide_eq_true hc1] at e3
            clear hv
            go_wp2_with fail
            refine (want_yes _ _).mono ?_
            rintro e w2 ⟨rfl, rfl⟩
            by_cases h128 : cn < 128
            · have HR : Hid (RetNum T D rb w (.returned (.int .u64 ((acc + cn % 128 * 128 ^ k : Nat) : Int))) w1) := by
                rw [← HE.out h128]
                exact ⟨rfl, HR1.out, HG1.out⟩
              clear HR1 HG1 HE HGO
              go_wp2
              go_ret
              have h := HR.out
              rw [← HS.out] at h
              exact h
            · omega
      · have HB := Lib.hid (hbad hv)
        have e0 : ((k : Int) == 0) = false := by simp; omega
        have e1 : ((cn : Int) != 0) = decide (cn ≠ 0) := by rw [Bool.eq_iff_iff]; simp
        clear hend hgo hbad hacc
        by_cases hc0 : cn = 0
        · subst hc0
          clear e1 hv
          go_wp2_with fail
          refine (want_no _ _).mono ?_
          rintro e w2 ⟨rfl, rfl⟩
          have HF : Hid (RetNum T D rb w (.panicked bad) w1) := by
            rw [← HB.out]
            exact ⟨rfl, HG1.out⟩
          clear HR1 HG1 HB
          go_wp2
          exact ⟨rfl, HF.out⟩
        · rw [decide_eq_true hc0] at e1
          have e2 : decide ((k : Int) < 9) = false := by simp; omega
          have e3 : decide ((cn : Int) ≤ 1) = false := by simp; omega
          clear hv
          go_wp2_with fail
          refine (want_no _ _).mono ?_
          rintro e w2 ⟨rfl, rfl⟩
          have HF : Hid (RetNum T D rb w (.panicked bad) w1) := by
            rw [← HB.out]
            exact ⟨rfl, HG1.out⟩
          clear HR1 HG1 HB
          go_wp2
          exact ⟨rfl, HF.out⟩

end Go.Proofs.Ytcokkloaljaanaa
