/-
  IntervalScaled: the cases joined. (Printed by gen_scaled.py.)
-/
import Derived.Test.YtmjbcmicjhgciaaYCA
import Derived.Test.YtmjbcmicjhgciaaYCB
import Derived.Test.YtmjbcmicjhgciaaYCC
namespace Go.Proofs.Ytmjbcmicjhgciaa
open Go.RowKit

theorem ins_yes {a b c d : Int} (h : okR a b = true) (h' : okR c d = true) (h1 : c ≤ a) (h2 : b ≤ d) : Hid (insT a b c d = (true, 0)) := by
  rw [Hid, insT, if_pos (by rw [h, h']; rfl), decide_eq_true (show c ≤ a ∧ b ≤ d from ⟨h1, h2⟩)]
theorem law_Scaled (a b n d : Int) (w : World) : Calls Try.prog 8 #[rng a b, rat n d] w fun e w' => e = .returned (.bool true) ∧ Below w.heap.size w w' := by
  rcases scale_ends a b n d with ⟨e, H1, he, _⟩ | ⟨lo, hi, H1, hok, hr, F⟩
  · exact sc_no a b n d e w H1 he (by simp [bne, he])
  obtain ⟨o1, o2, o3⟩ := okR_bd hok
  rcases Int.lt_or_le a (-1073741824) with k1 | k1
  · exact sc_low a b n d lo hi w H1 k1
  rcases Int.lt_or_le 1073741824 b with k2 | k2
  · exact sc_high a b n d lo hi w H1 k1 k2
  obtain ⟨⟨d1, d2⟩, n1, n2⟩ := ratB_bd hr
  obtain ⟨f1, f2, f3⟩ := F.bd
  obtain ⟨L, M, q1, q2, S⟩ := sc_nums F o2 k1 k2 ⟨d1, d2⟩ ⟨n1, n2⟩
  have S' := Lib.hid S
  have okl : okR lo hi = true := okR_mk ⟨f1, f2, f3⟩
  rcases Int.lt_trichotomy n 0 with hn | hn | hn
  · have hz : (n == 0) = false := by simp; omega
    have hc := ratC_back_neg hr hn
    rcases scale_ends lo hi (-d) (-n) with ⟨e, H2, _, he⟩ | ⟨y, z, H2, hok2, _, F2⟩
    · obtain rfl := he okl hc
      exact sc_neg_lim a b n d lo hi L M q1 q2 w H1 k1 o2 k2 d1 d2 n1 n2 f1 f2 f3 S' hz hn H2
    · have hb := back_encl_neg o2 (show 0 < d by omega) hn F.lo_ F.hi_
      rw [← F2.lo_, ← F2.hi_] at hb
      exact sc_neg_ok a b n d lo hi L M q1 q2 y z w H1 k1 o2 k2 d1 d2 n1 n2 f1 f2 f3 S' hz hn H2 (ins_yes hok (okR_mk F2.bd) hb.1 hb.2)
  · have hz : (n == 0) = true := by simp [hn]
    have e1 : lo = 0 := by rw [F.lo_, hn, Int.zero_mul, Int.zero_mul]; exact Int.zero_ediv d
    have e2 : hi = 0 := by rw [F.hi_, hn, Int.zero_mul, Int.zero_mul]; simp [cei]
    exact sc_zero a b n d lo hi L M q1 q2 w H1 k1 o2 k2 d1 d2 n1 n2 f1 f2 f3 S' hz ⟨e1, e2⟩
  · have hz : (n == 0) = false := by simp; omega
    have hc := ratC_back hr hn
    rcases scale_ends lo hi d n with ⟨e, H2, _, he⟩ | ⟨y, z, H2, hok2, _, F2⟩
    · obtain rfl := he okl hc
      exact sc_pos_lim a b n d lo hi L M q1 q2 w H1 k1 o2 k2 d1 d2 n1 n2 f1 f2 f3 S' hz hn H2
    · have hb := back_encl o2 (show 0 < d by omega) hn F.lo_ F.hi_
      rw [← F2.lo_, ← F2.hi_] at hb
      exact sc_pos_ok a b n d lo hi L M q1 q2 y z w H1 k1 o2 k2 d1 d2 n1 n2 f1 f2 f3 S' hz hn H2 (ins_yes hok (okR_mk F2.bd) hb.1 hb.2)

end Go.Proofs.Ytmjbcmicjhgciaa
