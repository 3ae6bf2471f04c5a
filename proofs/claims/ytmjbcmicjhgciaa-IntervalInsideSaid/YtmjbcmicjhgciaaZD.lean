/-
  Scale of the specification: floor and scaled.
-/
import Derived.Test.YtmjbcmicjhgciaaZC
import Derived.Test.YtmjbcmicjhgciaaZ
namespace Go.Proofs.Ytmjbcmicjhgciaa
open Go.RowKit

theorem abs_q (x : Int) (w : World) (h : -4611686018427387904 ≤ x ∧ x ≤ 4611686018427387904) : Calls Try.prog 51 #[.int .i64 x] w fun e w' => e = .returned (.int .i64 (absI x)) ∧ w' = w := by
  obtain ⟨h1, h2⟩ := h
  go_enter Try.func51, Try.ntmps51
  go_wp2
  go_ret
  refine ⟨?_, rfl⟩
  have he : absI x = max x (-x) := by simp only [absI]; omega
  rw [he]; rfl

theorem floor_q (x d : Int) (w : World) (hx : -4611686018427387904 ≤ x ∧ x ≤ 4611686018427387904) (hd : 1 ≤ d ∧ d ≤ 1073741824) : Calls Try.prog 57 #[.int .i64 x, .int .i64 d] w fun e w' => e = .returned (.int .i64 (flo x d)) ∧ w' = w := by
  obtain ⟨t, ht⟩ : ∃ t, x.tdiv d = t := ⟨_, rfl⟩
  obtain ⟨r, hr⟩ : ∃ r, x.tmod d = r := ⟨_, rfl⟩
  have e := Int.mul_tdiv_add_tmod x d
  rw [ht, hr] at e
  have r1 := Int.tmod_lt_of_pos x (show 0 < d by omega)
  have r2 := Int.lt_tmod_of_pos x (show 0 < d by omega)
  have r3 := Int.natAbs_tdiv_le_natAbs x d
  rw [hr] at r1 r2
  rw [ht] at r3
  have e' : t * d = x - r := by rw [Int.mul_comm]; omega
  have hd0 : d ≠ 0 := by omega
  have hd1 : (d == 0) = false := by simp; omega
  have hdm : (d == -1) = false := by simp; omega
  by_cases h : r < 0
  · have hf : flo x d = t - 1 := by
      apply ediv_is (by omega)
      · rw [Int.sub_mul]; omega
      · rw [show t - 1 + 1 = t from by omega]; omega
    rw [hf]
    have hlt : x < t * d := by omega
    have hwm : IntKind.i64.wrap (t * d) = t * d := by rw [IntKind.wrap_i64]; omega
    clear hr e e'
    go_enter Try.func57, Try.ntmps57
    go_wp2
    go_ret
    exact ⟨rfl, rfl⟩
  · have hf : flo x d = t := by
      apply ediv_is (by omega)
      · omega
      · rw [Int.add_mul]; omega
    rw [hf]
    have hlt : ¬ x < t * d := by omega
    have hwm : IntKind.i64.wrap (t * d) = t * d := by rw [IntKind.wrap_i64]; omega
    clear hr e e'
    go_enter Try.func57, Try.ntmps57
    go_wp2
    go_ret
    exact ⟨rfl, rfl⟩

theorem scaled_far {q r x n D : Int} (hD : 1 ≤ D) (hn : -1073741824 ≤ n ∧ n ≤ 1073741824) (e : x = q * D + r) (hr : 0 ≤ r ∧ r < D) (h : 2199023255552 / absI n < absI q) (hn0 : n ≠ 0) (lo hi : Int) : aroundP x n D lo hi false := by
  refine .inr ⟨rfl, ?_⟩
  have ha : 0 < absI n := by simp only [absI]; omega
  have h1 : 2199023255552 < absI q * absI n := (Int.ediv_lt_iff_lt_mul ha).1 h
  have h2 : absI q * absI n = ((q * n).natAbs : Int) := by rw [absI_nat, absI_nat, Int.natAbs_mul, Int.natCast_mul]
  rw [h2] at h1
  have h3 : x * n = (q * n) * D + r * n := by
    rw [e, Int.add_mul, Int.mul_assoc, Int.mul_comm D n, ← Int.mul_assoc]
  have r0 : -(1073741824 * D) ≤ r * n := by
    have := Int.mul_le_mul_of_nonneg_left hn.1 hr.1
    have := Int.mul_le_mul_of_nonneg_right (Int.le_of_lt hr.2) (show (0 : Int) ≤ 1073741824 by omega)
    omega
  have r1 : r * n ≤ 1073741824 * D := by
    have := Int.mul_le_mul_of_nonneg_left hn.2 hr.1
    have := Int.mul_le_mul_of_nonneg_right (Int.le_of_lt hr.2) (show (0 : Int) ≤ 1073741824 by omega)
    omega
  rw [h3]
  by_cases hs : 0 ≤ q * n
  · have := Int.mul_le_mul_of_nonneg_right (show 2199023255553 ≤ q * n by omega) (show 0 ≤ D by omega)
    left; omega
  · have := Int.mul_le_mul_of_nonneg_right (show q * n ≤ -2199023255553 by omega) (show 0 ≤ D by omega)
    right; omega

theorem scaled_near {q r x n D : Int} (hD : 1 ≤ D) (e : x = q * D + r) : aroundP x n D (q * n + flo (r * n) D) (q * n - flo (0 - r * n) D) true := by
  have h3 : x * n = r * n + (q * n) * D := by
    rw [e, Int.add_mul, Int.mul_assoc, Int.mul_comm D n, ← Int.mul_assoc]; omega
  refine .inl ⟨rfl, ?_, ?_⟩
  · rw [h3, flo, flo, Int.add_mul_ediv_right _ _ (by omega)]; omega
  · rw [h3, flo, cei, show -(r * n + q * n * D) = (0 - r * n) + (-(q * n)) * D from by rw [Int.neg_mul]; omega, Int.add_mul_ediv_right _ _ (by omega)]; omega

theorem flo_bd {v d : Int} (hd : 1 ≤ d) (h : -1152921504606846976 ≤ v ∧ v ≤ 1152921504606846976) : -1152921504606846976 ≤ flo v d ∧ flo v d ≤ 1152921504606846976 := by
  constructor
  · refine (Int.le_ediv_iff_mul_le (by omega)).2 ?_
    omega
  · have : v / d < 1152921504606846977 := (Int.ediv_lt_iff_lt_mul (by omega)).2 (by omega)
    show v / d ≤ _; omega
theorem rn_bd {r n d : Int} (h0 : 0 ≤ r) (h1 : r < d) (hd : d ≤ 1073741824) (hn : -1073741824 ≤ n ∧ n ≤ 1073741824) : -1152921504606846976 ≤ r * n ∧ r * n ≤ 1152921504606846976 := by
  have a1 := Int.mul_le_mul_of_nonneg_left hn.1 h0
  have a2 := Int.mul_le_mul_of_nonneg_left hn.2 h0
  omega
theorem qn_bd {q n : Int} (hn : n ≠ 0) (h : ¬ 2199023255552 / absI n < absI q) : -2199023255552 ≤ q * n ∧ q * n ≤ 2199023255552 := by
  have ha : 0 < absI n := by simp only [absI]; omega
  have h1 : absI q * absI n ≤ 2199023255552 := (Int.le_ediv_iff_mul_le ha).1 (by omega)
  have h2 : absI q * absI n = ((q * n).natAbs : Int) := by rw [absI_nat, absI_nat, Int.natAbs_mul, Int.natCast_mul]
  omega

set_option maxRecDepth 100000 in
set_option maxHeartbeats 2000000 in
theorem scaled_any (x n d : Int) (w : World) (hd : 1 ≤ d ∧ d ≤ 1073741824) (hn : -1073741824 ≤ n ∧ n ≤ 1073741824) (hx : -1099511627776 ≤ x ∧ x ≤ 1099511627776) :
    Calls Try.prog 50 #[.int .i64 x, .agg #[.int .i64 n, .int .i64 d]] w fun e w' => ∃ (lo hi : Int) (ok : Bool), e = .returned (.tuple #[.int .i64 lo, .int .i64 hi, .bool ok]) ∧ Hid (aroundP x n d lo hi ok) ∧ Below w.heap.size w w' := by
  have X : Box (w.alloc (.cells #[.int .i64 n, .int .i64 d] 31)) w.heap.size [.int .i64 n, .int .i64 d] := Box.new w _ 31
  have hB := (Below.refl w.heap.size w).alloc (Nat.le_refl _) (.cells #[.int .i64 n, .int .i64 d] 31)
  obtain ⟨q, hq⟩ : ∃ q, flo x d = q := ⟨_, rfl⟩
  obtain ⟨r, hr⟩ : ∃ r, x - q * d = r := ⟨_, rfl⟩
  have r0 : 0 ≤ r := by
    have := Int.ediv_mul_le x (show d ≠ 0 by omega)
    rw [← hr, ← hq]; show 0 ≤ x - x / d * d; omega
  have r1 : r < d := by
    have := Int.lt_ediv_add_one_mul_self x (show 0 < d by omega)
    rw [Int.add_mul] at this
    rw [← hr, ← hq]; show x - x / d * d < d; omega
  have q0 : -1099511627776 ≤ q := by
    rw [← hq]; exact (Int.le_ediv_iff_mul_le (by omega)).2 (by omega)
  have q1 : q ≤ 1099511627776 := by
    have : x / d < 1099511627777 := (Int.ediv_lt_iff_lt_mul (by omega)).2 (by omega)
    rw [← hq]; show x / d ≤ _; omega
  have C1 : ∀ w, Calls Try.prog 57 #[.int .i64 x, .int .i64 d] w fun e w' => e = .returned (.int .i64 q) ∧ w' = w := fun w => by rw [← hq]; exact floor_q x d w ⟨by omega, by omega⟩ hd
  have Cq : ∀ w, Calls Try.prog 51 #[.int .i64 q] w fun e w' => e = .returned (.int .i64 (absI q)) ∧ w' = w := fun w => abs_q q w ⟨by omega, by omega⟩
  have Cn : ∀ w, Calls Try.prog 51 #[.int .i64 n] w fun e w' => e = .returned (.int .i64 (absI n)) ∧ w' = w := fun w => abs_q n w ⟨by omega, by omega⟩
  have e : Hid (x = q * d + r) := by show _ = _; omega
  have hqd : IntKind.i64.wrap (q * d) = q * d := by rw [IntKind.wrap_i64]; omega
  have hqd0 : -1101659111424 ≤ q * d ∧ q * d ≤ 1099511627777 := by omega
  have Hx := Lib.hid hx
  have Hd := Lib.hid hd
  have Hn := Lib.hid hn
  have hws : IntKind.i64.wrap (x - q * d) = r := by rw [hr, IntKind.wrap_i64]; omega
  obtain ⟨⟨c0, c1⟩, f0, f1⟩ := X.two
  have hwr : wrap64 r = r := by unfold wrap64; omega
  have hw0 : IntKind.i64.wrap 0 = 0 := by rw [IntKind.wrap_i64]; omega
  clear hq hx hd hn
  have hf1 : Hid (-1099511627776 ≤ q ∧ q ≤ 1099511627776 ∧ 0 ≤ r ∧ r < d) := ⟨q0, q1, r0, r1⟩
  go_enter Try.func50, Try.ntmps50
  go_wp2_with fail
  refine (C1 _).mono ?_
  rintro e1 w1 ⟨rfl, rfl⟩
  generalize w.alloc (.cells #[.int .i64 n, .int .i64 d] 31) = W at *
  have hd1 := Hd.out
  have hn1 := Hn.out
  have hv := rn_bd hf1.out.2.2.1 hf1.out.2.2.2 hd1.2 hn1
  obtain ⟨f, hf⟩ : ∃ f, flo (r * n) d = f := ⟨_, rfl⟩
  obtain ⟨g, hg⟩ : ∃ g, flo (0 - r * n) d = g := ⟨_, rfl⟩
  have hfb := flo_bd hd1.1 hv
  have hgb := flo_bd (v := 0 - r * n) hd1.1 ⟨by omega, by omega⟩
  rw [hf] at hfb
  rw [hg] at hgb
  have C5 : ∀ w, Calls Try.prog 57 #[.int .i64 (r * n), .int .i64 d] w fun e w' => e = .returned (.int .i64 f) ∧ w' = w := fun w => by rw [← hf]; exact floor_q _ d w ⟨by omega, by omega⟩ hd1
  have C6 : ∀ w, Calls Try.prog 57 #[.int .i64 (0 - r * n), .int .i64 d] w fun e w' => e = .returned (.int .i64 g) ∧ w' = w := fun w => by rw [← hg]; exact floor_q _ d w ⟨by omega, by omega⟩ hd1
  have C6' : ∀ w, Calls Try.prog 57 #[.int .i64 (-(r * n)), .int .i64 d] w fun e w' => e = .returned (.int .i64 g) ∧ w' = w := fun w => by have := C6 w; rwa [Int.zero_sub] at this
  have hne := scaled_near (n := n) hd1.1 e.out
  rw [hf, hg] at hne
  have Hne := Lib.hid hne
  clear hf hg hne hd1 hn1
  have hw2 : IntKind.i64.wrap (r * n) = r * n := by rw [IntKind.wrap_i64]; omega
  have hw3 : IntKind.i64.wrap (0 - r * n) = 0 - r * n := by rw [IntKind.wrap_i64]; omega
  have hw3' : IntKind.i64.wrap (-(r * n)) = -(r * n) := by rw [IntKind.wrap_i64]; omega
  rcases hn0 : (n != 0) with _ | _
  · have hn' : n = 0 := by simpa using hn0
    subst hn'
    have C5z : ∀ w, Calls Try.prog 57 #[.int .i64 0, .int .i64 d] w fun e w' => e = .returned (.int .i64 f) ∧ w' = w := fun w => by have := C5 w; rwa [Int.mul_zero] at this
    have C6z : ∀ w, Calls Try.prog 57 #[.int .i64 0, .int .i64 d] w fun e w' => e = .returned (.int .i64 g) ∧ w' = w := fun w => by have := C6 w; rwa [Int.mul_zero, Int.sub_zero] at this
    have Hne' : Hid (aroundP x 0 d f (-g) true) := by have := Hne.out; rw [Int.mul_zero, Int.zero_add, Int.zero_sub] at this; exact this
    clear C5 C6 C6' Hne hw2 hw3 hw3' hqd hws hv
    have hw4 : IntKind.i64.wrap f = f := by rw [IntKind.wrap_i64]; omega
    have hw5 : IntKind.i64.wrap (0 - g) = 0 - g := by rw [IntKind.wrap_i64]; omega
    have hw6 : IntKind.i64.wrap (-g) = -g := by rw [IntKind.wrap_i64]; omega
    go_wp2_with fail
    go_quiet (fail)
    go_wp2_with fail
    have X1 : Box (W.drewN nq) _ _ := X
    have hB1 := Below.drewN hB nq
    clear c0 c1 f0 f1 X hB
    generalize W.drewN nq = W1 at *
    obtain ⟨⟨c0, c1⟩, f0, f1⟩ := X1.two
    go_quiet (first | (go_at_call 57; exact Calls.quiet_of_same (C5z _)))
    go_wp2_with fail
    have X2 : Box (W1.drewN nq) _ _ := X1
    have hB2 := Below.drewN hB1 nq
    clear c0 c1 f0 f1 X1 hB1
    generalize W1.drewN nq = W2 at *
    obtain ⟨⟨c0, c1⟩, f0, f1⟩ := X2.two
    go_quiet (first | (go_at_call 57; exact Calls.quiet_of_same (C6z _)))
    go_wp2
    refine bodyPost_ret (results_tmp3 Try.results50 _) rfl ?_
    exact ⟨_, _, true, rfl, Hne'.out, Below.drewN hB2 _⟩
  · have hn' : n ≠ 0 := by simpa using hn0
    have := Hn.out
    have ha : 1 ≤ absI n ∧ absI n ≤ 1073741824 := by simp only [absI]; omega
    have ha0 : (absI n == 0) = false := by simp; omega
    have hdv : (2199023255552 : Int).tdiv (absI n) = 2199023255552 / absI n := Int.tdiv_eq_ediv_of_nonneg (by omega)
    have hdb : 0 ≤ 2199023255552 / absI n := Int.ediv_nonneg (by omega) (by omega)
    have hdb' : 2199023255552 / absI n ≤ 2199023255552 := Int.ediv_le_self _ (by omega)
    rcases hgt : decide (2199023255552 / absI n < absI q) with _ | _
    · have hle := of_decide_eq_false hgt
      have hqn := qn_bd hn' hle
      have hw1 : IntKind.i64.wrap (q * n) = q * n := by rw [IntKind.wrap_i64]; omega
      have hw4 : IntKind.i64.wrap (q * n + f) = q * n + f := by rw [IntKind.wrap_i64]; omega
      have hw5 : IntKind.i64.wrap (q * n - g) = q * n - g := by rw [IntKind.wrap_i64]; omega
      clear hqd hws
      go_wp2_with fail
      go_quiet (first | (go_at_call 51; first | exact Calls.quiet_of_same (Cq _) | exact Calls.quiet_of_same (Cn _)))
      go_wp2_with fail
      have X1 : Box (W.drewN nq) _ _ := X
      have hB1 := Below.drewN hB nq
      clear c0 c1 f0 f1 X hB
      generalize W.drewN nq = W1 at *
      obtain ⟨⟨c0, c1⟩, f0, f1⟩ := X1.two
      go_quiet (first | (go_at_call 57; exact Calls.quiet_of_same (C5 _)))
      go_wp2_with fail
      have X2 : Box (W1.drewN nq) _ _ := X1
      have hB2 := Below.drewN hB1 nq
      clear c0 c1 f0 f1 X1 hB1
      generalize W1.drewN nq = W2 at *
      obtain ⟨⟨c0, c1⟩, f0, f1⟩ := X2.two
      go_quiet (first | (go_at_call 57; with_reducible exact Calls.quiet_of_same (C6 _)) | (go_at_call 57; with_reducible exact Calls.quiet_of_same (C6' _)))
      go_wp2
      refine bodyPost_ret (results_tmp3 Try.results50 _) rfl ?_
      exact ⟨_, _, true, rfl, Hne.out, Below.drewN hB2 _⟩
    · have hlt := of_decide_eq_true hgt
      go_wp2_with fail
      go_quiet (first | (go_at_call 51; first | exact Calls.quiet_of_same (Cq _) | exact Calls.quiet_of_same (Cn _)))
      go_wp2
      refine bodyPost_ret (results_tmp3 Try.results50 _) rfl ?_
      exact ⟨0, 0, false, rfl, scaled_far Hd.out.1 Hn.out e.out ⟨hf1.out.2.2.1, hf1.out.2.2.2⟩ hlt hn' 0 0, Below.drewN hB _⟩

end Go.Proofs.Ytmjbcmicjhgciaa
