/-
  IntervalRoots: the plain law.
-/
import Derived.Test.YtmjbcmicjhgciaaZL
import Derived.Test.YtmjbcmicjhgciaaT
import Derived.Test.YtmjbcmicjhgciaaS
namespace Go.Proofs.Ytmjbcmicjhgciaa
open Go.RowKit

theorem Ret.at {t : Int × Int × Int} {lo hi er : Int} {w : World} {e : Ending} {w' : World} (ht : Hid (t = (lo, hi, er))) (h : Ret t w e w') : e = .returned (.tuple #[rng lo hi, .int .i64 er]) ∧ Below w.heap.size w w' :=
  Ret.const ht.out h
theorem RetO.at {t : Bool × Int} {ok : Bool} {er : Int} {w : World} {e : Ending} {w' : World} (ht : Hid (t = (ok, er))) (h : RetO t w e w') : e = .returned (.tuple #[.bool ok, .int .i64 er]) ∧ Below w.heap.size w w' :=
  RetO.const ht.out h

theorem fit4_sq {a b : Int} (h : fit4 a b a b = true) : (a * a ≤ 1099511627776) ∧ (-1099511627776 ≤ a * b ∧ a * b ≤ 1099511627776) ∧ b * b ≤ 1099511627776 := by
  have := fit4_bd h
  exact ⟨this.1.2, this.2.1, this.2.2.2.2⟩

theorem roots_fit {a b x : Int} (hok : okR a b = true) (hf : fit4 a b a b = true) (hx : holB a b x = true) :
    ∃ lo hi p : Int, Hid (sqT a b = (lo, hi, 0)) ∧ Hid (mulT a b a b = (p, hi, 0)) ∧ Hid (insT lo hi p hi = (true, 0)) ∧ Hid (holB lo hi (x * x) = true) ∧ 0 ≤ lo ∧ (0 ≤ x * x ∧ x * x ≤ 1099511627776) := by
  have hx' : a ≤ x ∧ x ≤ b := of_decide_eq_true hx
  obtain ⟨o1, o2, o3⟩ := okR_bd hok
  obtain ⟨s1, s2, s3⟩ := fit4_sq hf
  have hm : mulT a b a b = (min (min (min (a * a) (a * b)) (b * a)) (b * b), max (max (max (a * a) (a * b)) (b * a)) (b * b), 0) := by
    rw [mulT, if_pos (by rw [hok]; rfl), if_pos hf]
  have hs : sqT a b = (lstT a b * lstT a b, max (max (max (a * a) (a * b)) (b * a)) (b * b), 0) := by
    rw [sqT, if_pos hok, if_pos hf, hm]
  have hba : b * a = a * b := Int.mul_comm _ _
  rw [hba] at hm hs
  have n1 := sq_nonneg a
  have n2 := sq_nonneg b
  have n3 := sq_nonneg x
  -- the products between
  have hl : (lstT a b * lstT a b = a * a ∧ lstT a b * lstT a b ≤ x * x) ∨ (lstT a b * lstT a b = b * b ∧ lstT a b * lstT a b ≤ x * x) ∨ (lstT a b * lstT a b = 0 ∧ a * b ≤ 0) := by
    rcases (show lstT a b = a ∧ 0 ≤ a ∨ lstT a b = -b ∧ b ≤ 0 ∨ lstT a b = 0 ∧ a ≤ 0 ∧ 0 ≤ b by unfold lstT; omega) with ⟨e, h⟩ | ⟨e, h⟩ | ⟨e, h, h'⟩
    · exact .inl ⟨by rw [e], by rw [e]; exact sq_le h hx'.1⟩
    · refine .inr (.inl ⟨by rw [e, Int.neg_mul_neg], ?_⟩)
      rw [e]
      have := sq_le (show 0 ≤ -b by omega) (show -b ≤ -x by omega)
      rw [Int.neg_mul_neg x x] at this
      exact this
    · refine .inr (.inr ⟨by rw [e]; rfl, ?_⟩)
      exact Int.mul_nonpos_of_nonpos_of_nonneg h h'
  have hxx : x * x ≤ a * a ∨ x * x ≤ b * b := by
    rcases Int.le_total 0 x with h | h
    · exact .inr (sq_le h hx'.2)
    · left
      have := sq_le (show 0 ≤ -x by omega) (show -x ≤ -a by omega)
      rwa [Int.neg_mul_neg, Int.neg_mul_neg] at this
  generalize lstT a b * lstT a b = L at *
  generalize a * a = A at *
  generalize a * b = B at *
  generalize b * b = C at *
  refine ⟨L, max (max (max A B) B) C, min (min (min A B) B) C, hs, hm, ?_, ?_, by omega, n3, by omega⟩
  · have k1 : okR L (max (max (max A B) B) C) = true := okR_mk (by omega)
    have k2 : okR (min (min (min A B) B) C) (max (max (max A B) B) C) = true := okR_mk (by omega)
    rw [Hid, insT, k1, k2, if_pos (by rfl)]
    have : decide (min (min (min A B) B) C ≤ L ∧ max (max (max A B) B) C ≤ max (max (max A B) B) C) = true := decide_eq_true ⟨by omega, Int.le_refl _⟩
    rw [this]
  · rw [Hid, holB]
    exact decide_eq_true ⟨by omega, by omega⟩

theorem roots_nofit {a b : Int} (hok : okR a b = true) (hf : fit4 a b a b = false) : Hid (sqT a b = (0, 0, 2)) ∧ Hid (mulT a b a b = (0, 0, 2)) := by
  constructor
  · rw [Hid, sqT, if_pos hok, if_neg (by rw [hf]; decide)]
  · rw [Hid, mulT, if_pos (by rw [hok]; rfl), if_neg (by rw [hf]; decide)]

theorem roots_neg {a b : Int} (hok : okR a b = true) (h : a < 0) : Hid (rootT a b = (0, 0, 1)) := by
  rw [Hid, rootT, if_pos hok, if_pos h]

theorem roots_pos {a b : Int} (hok : okR a b = true) (h : 0 ≤ a) :
    ∃ r s : Int, Hid (rootT a b = (r, s, 0)) ∧ (0 ≤ r ∧ r ≤ s ∧ s ≤ 1048576) ∧ r * r ≤ a ∧ a < (r + 1) * (r + 1) ∧ b ≤ s * s ∧ (s = 0 ∨ 1 ≤ s ∧ (s - 1) * (s - 1) < b) := by
  obtain ⟨o1, o2, o3⟩ := okR_bd hok
  obtain ⟨i1, i2, i3⟩ := sqrtI_is h (by omega)
  obtain ⟨j1, j2, j3⟩ := sqrtI_is (show 0 ≤ b by omega) o3
  obtain ⟨_, kb⟩ := sqrtI_bd (show 0 ≤ b by omega) o3
  obtain ⟨_, ka⟩ := sqrtI_bd h (show a ≤ 1099511627776 by omega)
  have hr : rootT a b = (sqrtI a, rupI b, 0) := by rw [rootT, if_pos hok, if_neg (by omega)]
  have hmono : ∀ s, 0 ≤ s → b ≤ s * s → sqrtI a ≤ s := by
    intro s hs hb
    rcases Int.lt_or_le s (sqrtI a) with hlt | hle
    · have h2 := sq_le (show 0 ≤ s + 1 by omega) (show s + 1 ≤ sqrtI a by omega)
      have h3 := sq_le hs (show s ≤ s + 1 by omega)
      have h4 : (s + 1) * (s + 1) = s * s + 2 * s + 1 := by grind
      omega
    · exact hle
  refine ⟨sqrtI a, rupI b, hr, ?_⟩
  unfold rupI
  by_cases hc : sqrtI b * sqrtI b < b
  · rw [if_pos hc]
    refine ⟨⟨i1, hmono _ (by omega) (by omega), ?_⟩, i2, i3, by omega, .inr ⟨by omega, ?_⟩⟩
    · rcases Int.lt_or_le (sqrtI b) 1048576 with h5 | h5
      · omega
      · have := sq_le (show (0 : Int) ≤ 1048576 by omega) h5
        omega
    · rw [show sqrtI b + 1 - 1 = sqrtI b from by omega]; exact hc
  · rw [if_neg hc]
    refine ⟨⟨i1, hmono _ j1 (by omega), kb⟩, i2, i3, by omega, ?_⟩
    rcases Int.lt_or_le 0 (sqrtI b) with h5 | h5
    · right
      refine ⟨by omega, ?_⟩
      have h6 := sq_le (show 0 ≤ sqrtI b - 1 by omega) (show sqrtI b - 1 ≤ sqrtI b by omega)
      have h7 : (sqrtI b - 1) * (sqrtI b - 1) = sqrtI b * sqrtI b - 2 * sqrtI b + 1 := by grind
      omega
    · left; omega

end Go.Proofs.Ytmjbcmicjhgciaa
