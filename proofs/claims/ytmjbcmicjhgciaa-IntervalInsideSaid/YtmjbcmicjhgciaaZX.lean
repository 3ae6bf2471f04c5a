/-
  IntervalScaled: the plain law.
-/
import Derived.Test.YtmjbcmicjhgciaaZE
import Derived.Test.YtmjbcmicjhgciaaZT
namespace Go.Proofs.Ytmjbcmicjhgciaa
open Go.RowKit

theorem flo_spec (p : Int) {d : Int} (hd : 0 < d) : flo p d * d ≤ p ∧ p < flo p d * d + d := by
  have h1 := Int.ediv_mul_le p (show d ≠ 0 by omega)
  have h2 := Int.lt_ediv_add_one_mul_self p hd
  rw [Int.add_mul, Int.one_mul] at h2
  exact ⟨h1, h2⟩
theorem cei_spec (p : Int) {d : Int} (hd : 0 < d) : p ≤ cei p d * d ∧ cei p d * d < p + d := by
  obtain ⟨h1, h2⟩ := flo_spec (-p) hd
  have e : cei p d * d = -(flo (-p) d * d) := by rw [← Int.neg_mul]; rfl
  omega
/-- Go's quotient is one of the integers around the fraction. -/
theorem tdiv_near (p : Int) {d : Int} (hd : 0 < d) : p.tdiv d - 1 ≤ flo p d ∧ flo p d ≤ p.tdiv d ∧ p.tdiv d ≤ cei p d ∧ cei p d ≤ p.tdiv d + 1 := by
  obtain ⟨h1, h2⟩ := flo_spec p hd
  obtain ⟨h3, h4⟩ := cei_spec p hd
  have h5 := Int.tmod_add_mul_tdiv p d
  have h6 : (p.tmod d).natAbs < d.natAbs := by
    rw [Int.natAbs_tmod]; exact Nat.mod_lt _ (by omega)
  have h8 : 0 ≤ p → 0 ≤ p.tmod d := fun h => Int.tmod_nonneg d h
  have h9 : p ≤ 0 → p.tmod d ≤ 0 := fun h => by
    have := Int.tmod_nonneg d (show 0 ≤ -p by omega)
    rw [Int.neg_tmod] at this; omega
  rw [Int.mul_comm d] at h5
  have key : ∀ {x y : Int}, x * d < y * d + d → x ≤ y := fun {x y} h => by
    have : x * d < (y + 1) * d := by rw [Int.add_mul, Int.one_mul]; exact h
    have := Int.lt_of_mul_lt_mul_right this (by omega)
    omega
  have e1 : (p.tdiv d + 1) * d = p.tdiv d * d + d := by rw [Int.add_mul, Int.one_mul]
  have e2 : (flo p d + 1) * d = flo p d * d + d := by rw [Int.add_mul, Int.one_mul]
  refine ⟨?_, key (by omega), key (by omega), key (by omega)⟩
  have : p.tdiv d ≤ flo p d + 1 := key (by omega)
  omega

/-- What Scale hands back where it succeeds, for numbers that are not great. -/
structure ScFacts (a b n d lo hi : Int) : Prop where
  bd : -1099511627776 ≤ lo ∧ lo ≤ hi ∧ hi ≤ 1099511627776
  lo_ : lo = flo (min (n * a) (n * b)) d
  hi_ : hi = cei (max (n * a) (n * b)) d

theorem flo_min {p q d : Int} (hd : 0 < d) : min (flo p d) (flo q d) = flo (min p q) d := by
  rcases Int.le_total p q with h | h
  · rw [Int.min_eq_left h, Int.min_eq_left (flo_mono hd h)]
  · rw [Int.min_eq_right h, Int.min_eq_right (flo_mono hd h)]
theorem cei_max {p q d : Int} (hd : 0 < d) : max (cei p d) (cei q d) = cei (max p q) d := by
  rcases Int.le_total p q with h | h
  · rw [Int.max_eq_right h, Int.max_eq_right (cei_mono hd h)]
  · rw [Int.max_eq_left h, Int.max_eq_left (cei_mono hd h)]

/-- The three ends of Scale: refused with nothing, or reckoned. -/
theorem scale_ends (a b n d : Int) : (∃ e : Int, Hid (scT a b n d (ratC n d) = (0, 0, e)) ∧ (e == 0) = false ∧ (okR a b = true → ratC n d = 0 → e = 2)) ∨
    (∃ lo hi : Int, Hid (scT a b n d (ratC n d) = (lo, hi, 0)) ∧ okR a b = true ∧ ratC n d = 0 ∧ ScFacts a b n d lo hi) := by
  unfold scT
  split
  · rename_i hok
    split
    · rename_i hr
      have hd := (ratB_bd hr).1.1
      unfold cutT
      split
      · rename_i hc
        refine .inr ⟨_, _, rfl, hok, hr, okR_bd hc, ?_, ?_⟩
        · rw [flo_min (by omega), Int.mul_comm a, Int.mul_comm b]
        · rw [cei_max (by omega), Int.mul_comm a, Int.mul_comm b]
      · exact .inl ⟨2, rfl, rfl, fun _ _ => rfl⟩
    · rename_i hr
      exact .inl ⟨_, rfl, by simpa using hr, fun _ h => absurd h hr⟩
  · rename_i hok
    exact .inl ⟨130, rfl, rfl, fun h => absurd h hok⟩

theorem ratC_back {n d : Int} (h : ratC n d = 0) (hn : 0 < n) : ratC d n = 0 := by
  unfold ratC at *
  split at h
  · rename_i hk
    have hk := of_decide_eq_true hk
    rw [if_pos]
    refine decide_eq_true ⟨by omega, by omega, by omega, by omega, ?_⟩
    rw [Nat.gcd_comm]; exact hk.2.2.2.2
  · omega
theorem ratC_back_neg {n d : Int} (h : ratC n d = 0) (hn : n < 0) : ratC (-d) (-n) = 0 := by
  unfold ratC at *
  split at h
  · rename_i hk
    have hk := of_decide_eq_true hk
    rw [if_pos]
    refine decide_eq_true ⟨by omega, by omega, by omega, by omega, ?_⟩
    rw [Nat.gcd_comm, Int.natAbs_neg, Int.natAbs_neg]; exact hk.2.2.2.2
  · omega

/-- What was scaled and scaled back encloses. -/
theorem back_encl {a b n d lo hi : Int} (hab : a ≤ b) (hd : 0 < d) (hn : 0 < n) (h1 : lo = flo (min (n * a) (n * b)) d) (h2 : hi = cei (max (n * a) (n * b)) d) :
    flo (min (d * lo) (d * hi)) n ≤ a ∧ b ≤ cei (max (d * lo) (d * hi)) n := by
  have hm : n * a ≤ n * b := Int.mul_le_mul_of_nonneg_left hab (by omega)
  rw [Int.min_eq_left hm] at h1
  rw [Int.max_eq_right hm] at h2
  obtain ⟨s1, _⟩ := flo_spec (n * a) hd
  obtain ⟨s2, _⟩ := cei_spec (n * b) hd
  rw [← h1] at s1
  rw [← h2] at s2
  rw [Int.mul_comm] at s1
  rw [Int.mul_comm hi] at s2
  constructor
  · have : flo (min (d * lo) (d * hi)) n ≤ flo (n * a) n := flo_mono hn (by omega)
    rwa [show flo (n * a) n = a from Int.mul_ediv_cancel_left a (by omega)] at this
  · have : cei (n * b) n ≤ cei (max (d * lo) (d * hi)) n := cei_mono hn (by omega)
    rwa [show cei (n * b) n = b from by
      show -(-(n * b) / n) = b
      rw [← Int.mul_neg, Int.mul_ediv_cancel_left _ (show n ≠ 0 by omega), Int.neg_neg]] at this
theorem back_encl_neg {a b n d lo hi : Int} (hab : a ≤ b) (hd : 0 < d) (hn : n < 0) (h1 : lo = flo (min (n * a) (n * b)) d) (h2 : hi = cei (max (n * a) (n * b)) d) :
    flo (min (-d * lo) (-d * hi)) (-n) ≤ a ∧ b ≤ cei (max (-d * lo) (-d * hi)) (-n) := by
  have hm : n * b ≤ n * a := Int.mul_le_mul_of_nonpos_left (by omega) hab
  rw [Int.min_eq_right hm] at h1
  rw [Int.max_eq_left hm] at h2
  obtain ⟨s1, _⟩ := flo_spec (n * b) hd
  obtain ⟨s2, _⟩ := cei_spec (n * a) hd
  rw [← h1] at s1
  rw [← h2] at s2
  rw [Int.mul_comm] at s1
  rw [Int.mul_comm hi] at s2
  have e1 : -d * lo = -(d * lo) := Int.neg_mul _ _
  have e2 : -d * hi = -(d * hi) := Int.neg_mul _ _
  have e3 : -n * a = -(n * a) := Int.neg_mul _ _
  have e4 : -n * b = -(n * b) := Int.neg_mul _ _
  constructor
  · have : flo (min (-d * lo) (-d * hi)) (-n) ≤ flo (-n * a) (-n) := flo_mono (by omega) (by omega)
    rwa [show flo (-n * a) (-n) = a from Int.mul_ediv_cancel_left a (by omega)] at this
  · have : cei (-n * b) (-n) ≤ cei (max (-d * lo) (-d * hi)) (-n) := cei_mono (by omega) (by omega)
    rwa [show cei (-n * b) (-n) = b from by
      show -(-(-n * b) / -n) = b
      rw [← Int.mul_neg, Int.mul_ediv_cancel_left _ (show -n ≠ 0 by omega), Int.neg_neg]] at this

/-- The numbers that IntervalScaled reckons. -/
structure ScNums (a b n d lo hi L M q1 q2 : Int) : Prop where
  m1 : IntKind.i64.wrap (n * a) = n * a
  m2 : IntKind.i64.wrap (n * b) = n * b
  hL : min (n * a) (n * b) = L
  hM : max (n * a) (n * b) = M
  hq1 : IntKind.i64.wrap (L.tdiv d) = q1
  hq2 : IntKind.i64.wrap (M.tdiv d) = q2
  s1 : IntKind.i64.wrap (q1 + 1) = q1 + 1
  s2 : IntKind.i64.wrap (q1 - 1) = q1 - 1
  s3 : IntKind.i64.wrap (q2 + 1) = q2 + 1
  s4 : IntKind.i64.wrap (q2 - 1) = q2 - 1
  t1 : decide (q1 + 1 < lo) = false
  t2 : decide (lo < q1 - 1) = false
  t3 : decide (q2 + 1 < hi) = false
  t4 : decide (hi < q2 - 1) = false
  m3 : IntKind.i64.wrap (lo * d) = lo * d
  m4 : IntKind.i64.wrap (hi * d) = hi * d
  m5 : IntKind.i64.wrap (L - lo * d) = L - lo * d
  m6 : IntKind.i64.wrap (hi * d - M) = hi * d - M
  l1 : lo * d ≤ L
  l2 : L < lo * d + d
  l3 : M ≤ hi * d
  l4 : hi * d < M + d

theorem mul_small {x y : Int} (h1 : -1073741824 ≤ x ∧ x ≤ 1073741824) (h2 : -1073741824 ≤ y ∧ y ≤ 1073741824) : -1152921504606846976 ≤ x * y ∧ x * y ≤ 1152921504606846976 := by
  have h3 := mul_between (y := y) h1
  have h4 := mul_between (y := 1073741824) h2
  rw [Int.mul_comm y] at h4
  omega

theorem sc_nums {a b n d lo hi : Int} (F : ScFacts a b n d lo hi) (hab : a ≤ b) (ha : -1073741824 ≤ a) (hb : b ≤ 1073741824) (hd : 1 ≤ d ∧ d ≤ 1073741824) (hn : -1073741824 ≤ n ∧ n ≤ 1073741824) :
    ∃ L M q1 q2 : Int, ScNums a b n d lo hi L M q1 q2 := by
  have p1 := mul_small hn (show -1073741824 ≤ a ∧ a ≤ 1073741824 by omega)
  have p2 := mul_small hn (show -1073741824 ≤ b ∧ b ≤ 1073741824 by omega)
  obtain ⟨⟨f1, f2, f3⟩, f4, f5⟩ := F
  have hd0 : 0 < d := by omega
  obtain ⟨L, hL⟩ : ∃ L, min (n * a) (n * b) = L := ⟨_, rfl⟩
  obtain ⟨M, hM⟩ : ∃ M, max (n * a) (n * b) = M := ⟨_, rfl⟩
  have w1 : IntKind.i64.wrap (n * a) = n * a := by rw [IntKind.wrap_i64]; omega
  have w2 : IntKind.i64.wrap (n * b) = n * b := by rw [IntKind.wrap_i64]; omega
  have b1 : -1152921504606846976 ≤ L ∧ L ≤ M ∧ M ≤ 1152921504606846976 := by omega
  rw [hL] at f4
  rw [hM] at f5
  obtain ⟨g1, g2⟩ := flo_spec L hd0
  obtain ⟨g3, g4⟩ := cei_spec M hd0
  obtain ⟨k1, k2, _, _⟩ := tdiv_near L hd0
  obtain ⟨_, _, k3, k4⟩ := tdiv_near M hd0
  rw [← f4] at g1 g2 k1 k2
  rw [← f5] at g3 g4 k3 k4
  have q1 : IntKind.i64.wrap (L.tdiv d) = L.tdiv d := by rw [IntKind.wrap_i64]; omega
  have q2 : IntKind.i64.wrap (M.tdiv d) = M.tdiv d := by rw [IntKind.wrap_i64]; omega
  clear f4 f5 p1 p2
  refine ⟨L, M, L.tdiv d, M.tdiv d, w1, w2, hL, hM, q1, q2, ?_, ?_, ?_, ?_, decide_eq_false ?_, decide_eq_false ?_, decide_eq_false ?_, decide_eq_false ?_, ?_, ?_, ?_, ?_, g1, g2, g3, g4⟩
  all_goals clear w1 w2 hL hM q1 q2
  all_goals first | omega | (rw [IntKind.wrap_i64]; omega)

end Go.Proofs.Ytmjbcmicjhgciaa
