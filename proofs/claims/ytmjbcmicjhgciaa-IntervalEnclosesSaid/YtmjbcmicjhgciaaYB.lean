/-
  IntervalEncloses: the cases joined. (Printed by gen_encl3.py.)
-/
import Derived.Test.YtmjbcmicjhgciaaZM
import Derived.Test.YtmjbcmicjhgciaaYAA
import Derived.Test.YtmjbcmicjhgciaaYAB
import Derived.Test.YtmjbcmicjhgciaaYAC
import Derived.Test.YtmjbcmicjhgciaaYAD
import Derived.Test.YtmjbcmicjhgciaaYAE
import Derived.Test.YtmjbcmicjhgciaaYAF
import Derived.Test.YtmjbcmicjhgciaaYAG
import Derived.Test.YtmjbcmicjhgciaaYAH
import Derived.Test.YtmjbcmicjhgciaaYAI
namespace Go.Proofs.Ytmjbcmicjhgciaa
open Go.RowKit

theorem sum_holds {a b c d x y : Int} (h : a ≤ x ∧ x ≤ b) (h' : c ≤ y ∧ y ≤ d) : Hid (holB (a + c) (b + d) (x + y) = true) := decide_eq_true ⟨by omega, by omega⟩
theorem dif_holds {a b c d x y : Int} (h : a ≤ x ∧ x ≤ b) (h' : c ≤ y ∧ y ≤ d) : Hid (holB (a - d) (b - c) (x - y) = true) := decide_eq_true ⟨by omega, by omega⟩
theorem add_three {a b c d : Int} (h1 : okR a b = true) (h2 : okR c d = true) : Hid (addT a b c d = (a + c, b + d, 0)) ∨ (Hid (addT a b c d = (0, 0, 2)) ∧ (a + c < -1099511627776 ∨ (-1099511627776 ≤ a + c ∧ 1099511627776 < b + d))) := by
  rcases hr : addT a b c d with ⟨p, q, e⟩
  rcases add_cases h1 h2 hr with ⟨rfl, rfl, rfl, _, _⟩ | ⟨rfl, rfl, rfl, hn⟩
  · exact .inl rfl
  · exact .inr ⟨rfl, by omega⟩
theorem sub_three {a b c d : Int} (h1 : okR a b = true) (h2 : okR c d = true) : Hid (subT a b c d = (a - d, b - c, 0)) ∨ (Hid (subT a b c d = (0, 0, 2)) ∧ (a - d < -1099511627776 ∨ (-1099511627776 ≤ a - d ∧ 1099511627776 < b - c))) := by
  rcases hr : subT a b c d with ⟨p, q, e⟩
  rcases sub_cases h1 h2 hr with ⟨rfl, rfl, rfl, _, _⟩ | ⟨rfl, rfl, rfl, hn⟩
  · exact .inl rfl
  · exact .inr ⟨rfl, by omega⟩
theorem mul_bad {a b c d : Int} (h1 : okR a b = true) (h2 : okR c d = true) (h : fit4 a b c d = false) : Hid (mulT a b c d = (0, 0, 2)) := mul_no (by rw [h1, h2]; rfl) h
theorem mul_good {a b c d x y : Int} (h1 : okR a b = true) (h2 : okR c d = true) (hx : a ≤ x ∧ x ≤ b) (hy : c ≤ y ∧ y ≤ d) (h : fit4 a b c d = true) : ∃ u v : Int, Hid (mulT a b c d = (u, v, 0)) ∧ Hid (holB u v (x * y) = true) ∧
    Hid (u = a * c ∨ u = a * d ∨ u = b * c ∨ u = b * d) ∧ Hid (v = a * c ∨ v = a * d ∨ v = b * c ∨ v = b * d) ∧ IntKind.i64.wrap (a * c) = a * c ∧ IntKind.i64.wrap (a * d) = a * d ∧ IntKind.i64.wrap (b * c) = b * c ∧ IntKind.i64.wrap (b * d) = b * d ∧ IntKind.i64.wrap (x * y) = x * y := by
  obtain ⟨p1, p2, p3, p4⟩ := fit4_bd h
  have hm := mul_encl hx hy
  refine ⟨_, _, mul_yes (by rw [h1, h2]; rfl) h, decide_eq_true hm, min4 _ _ _ _, max4 _ _ _ _, ?_, ?_, ?_, ?_, ?_⟩
  all_goals
    rw [IntKind.wrap_i64]
    omega
theorem law_Encloses (a b c d x y : Int) (w : World) : Calls Try.prog 6 #[rng a b, rng c d, .int .i64 x, .int .i64 y] w fun e w' => e = .returned (.bool true) ∧ Below w.heap.size w w' := by
  rcases h1 : okR a b with _ | _
  · exact encl_1 a b c d x y w (chk_no h1)
  rcases h2 : okR c d with _ | _
  · exact encl_2 a b c d x y w (chk_yes h1) (chk_no h2)
  rcases h3 : holB a b x with _ | _
  · exact encl_3 a b c d x y w (chk_yes h1) (chk_yes h2) h3
  rcases h4 : holB c d y with _ | _
  · exact encl_4 a b c d x y w (chk_yes h1) (chk_yes h2) h3 h4
  obtain ⟨b1, b2, b3⟩ := okR_bd h1
  obtain ⟨b4, b5, b6⟩ := okR_bd h2
  have hx : a ≤ x ∧ x ≤ b := of_decide_eq_true h3
  have hy : c ≤ y ∧ y ≤ d := of_decide_eq_true h4
  obtain ⟨b7, b8⟩ := hx
  obtain ⟨b9, b10⟩ := hy
  have J1 := sum_holds ⟨b7, b8⟩ ⟨b9, b10⟩
  have J2 := dif_holds ⟨b7, b8⟩ ⟨b9, b10⟩
  rcases add_three h1 h2 with H1 | ⟨H1, m1 | ⟨m1, n1⟩⟩
  · rcases sub_three h1 h2 with H2 | ⟨H2, m2 | ⟨m2, n2⟩⟩
    · rcases k0 : fitB a c with _ | _
      · exact encl_ok_ok_0 a b c d x y w b1 b2 b3 b4 b5 b6 b7 b8 b9 b10 h1 h2 h3 h4 H1 J1 H2 J2 (mul_bad h1 h2 (by simp [fit4, k0])) k0
      rcases k1 : fitB a d with _ | _
      · exact encl_ok_ok_1 a b c d x y w b1 b2 b3 b4 b5 b6 b7 b8 b9 b10 h1 h2 h3 h4 H1 J1 H2 J2 (mul_bad h1 h2 (by simp [fit4, k0, k1])) k0 k1
      rcases k2 : fitB b c with _ | _
      · exact encl_ok_ok_2 a b c d x y w b1 b2 b3 b4 b5 b6 b7 b8 b9 b10 h1 h2 h3 h4 H1 J1 H2 J2 (mul_bad h1 h2 (by simp [fit4, k0, k1, k2])) k0 k1 k2
      rcases k3 : fitB b d with _ | _
      · exact encl_ok_ok_3 a b c d x y w b1 b2 b3 b4 b5 b6 b7 b8 b9 b10 h1 h2 h3 h4 H1 J1 H2 J2 (mul_bad h1 h2 (by simp [fit4, k0, k1, k2, k3])) k0 k1 k2 k3
      obtain ⟨u, v, H3, J3, Hu, Hv, v1, v2, v3, v4, v5⟩ := mul_good h1 h2 ⟨b7, b8⟩ ⟨b9, b10⟩ (show fit4 a b c d = true by rw [fit4, k0, k1, k2, k3]; rfl)
      exact encl_ok_ok_ok a b c d x y u v w b1 b2 b3 b4 b5 b6 b7 b8 b9 b10 h1 h2 h3 h4 H1 J1 H2 J2 H3 k0 k1 k2 k3 J3 Hu Hv v1 v2 v3 v4 v5
    · rcases k0 : fitB a c with _ | _
      · exact encl_ok_lo_0 a b c d x y w b1 b2 b3 b4 b5 b6 b7 b8 b9 b10 h1 h2 h3 h4 H1 J1 H2 m2 (mul_bad h1 h2 (by simp [fit4, k0])) k0
      rcases k1 : fitB a d with _ | _
      · exact encl_ok_lo_1 a b c d x y w b1 b2 b3 b4 b5 b6 b7 b8 b9 b10 h1 h2 h3 h4 H1 J1 H2 m2 (mul_bad h1 h2 (by simp [fit4, k0, k1])) k0 k1
      rcases k2 : fitB b c with _ | _
      · exact encl_ok_lo_2 a b c d x y w b1 b2 b3 b4 b5 b6 b7 b8 b9 b10 h1 h2 h3 h4 H1 J1 H2 m2 (mul_bad h1 h2 (by simp [fit4, k0, k1, k2])) k0 k1 k2
      rcases k3 : fitB b d with _ | _
      · exact encl_ok_lo_3 a b c d x y w b1 b2 b3 b4 b5 b6 b7 b8 b9 b10 h1 h2 h3 h4 H1 J1 H2 m2 (mul_bad h1 h2 (by simp [fit4, k0, k1, k2, k3])) k0 k1 k2 k3
      obtain ⟨u, v, H3, J3, Hu, Hv, v1, v2, v3, v4, v5⟩ := mul_good h1 h2 ⟨b7, b8⟩ ⟨b9, b10⟩ (show fit4 a b c d = true by rw [fit4, k0, k1, k2, k3]; rfl)
      exact encl_ok_lo_ok a b c d x y u v w b1 b2 b3 b4 b5 b6 b7 b8 b9 b10 h1 h2 h3 h4 H1 J1 H2 m2 H3 k0 k1 k2 k3 J3 Hu Hv v1 v2 v3 v4 v5
    · rcases k0 : fitB a c with _ | _
      · exact encl_ok_hi_0 a b c d x y w b1 b2 b3 b4 b5 b6 b7 b8 b9 b10 h1 h2 h3 h4 H1 J1 H2 m2 n2 (mul_bad h1 h2 (by simp [fit4, k0])) k0
      rcases k1 : fitB a d with _ | _
      · exact encl_ok_hi_1 a b c d x y w b1 b2 b3 b4 b5 b6 b7 b8 b9 b10 h1 h2 h3 h4 H1 J1 H2 m2 n2 (mul_bad h1 h2 (by simp [fit4, k0, k1])) k0 k1
      rcases k2 : fitB b c with _ | _
      · exact encl_ok_hi_2 a b c d x y w b1 b2 b3 b4 b5 b6 b7 b8 b9 b10 h1 h2 h3 h4 H1 J1 H2 m2 n2 (mul_bad h1 h2 (by simp [fit4, k0, k1, k2])) k0 k1 k2
      rcases k3 : fitB b d with _ | _
      · exact encl_ok_hi_3 a b c d x y w b1 b2 b3 b4 b5 b6 b7 b8 b9 b10 h1 h2 h3 h4 H1 J1 H2 m2 n2 (mul_bad h1 h2 (by simp [fit4, k0, k1, k2, k3])) k0 k1 k2 k3
      obtain ⟨u, v, H3, J3, Hu, Hv, v1, v2, v3, v4, v5⟩ := mul_good h1 h2 ⟨b7, b8⟩ ⟨b9, b10⟩ (show fit4 a b c d = true by rw [fit4, k0, k1, k2, k3]; rfl)
      exact encl_ok_hi_ok a b c d x y u v w b1 b2 b3 b4 b5 b6 b7 b8 b9 b10 h1 h2 h3 h4 H1 J1 H2 m2 n2 H3 k0 k1 k2 k3 J3 Hu Hv v1 v2 v3 v4 v5
  · rcases sub_three h1 h2 with H2 | ⟨H2, m2 | ⟨m2, n2⟩⟩
    · rcases k0 : fitB a c with _ | _
      · exact encl_lo_ok_0 a b c d x y w b1 b2 b3 b4 b5 b6 b7 b8 b9 b10 h1 h2 h3 h4 H1 m1 H2 J2 (mul_bad h1 h2 (by simp [fit4, k0])) k0
      rcases k1 : fitB a d with _ | _
      · exact encl_lo_ok_1 a b c d x y w b1 b2 b3 b4 b5 b6 b7 b8 b9 b10 h1 h2 h3 h4 H1 m1 H2 J2 (mul_bad h1 h2 (by simp [fit4, k0, k1])) k0 k1
      rcases k2 : fitB b c with _ | _
      · exact encl_lo_ok_2 a b c d x y w b1 b2 b3 b4 b5 b6 b7 b8 b9 b10 h1 h2 h3 h4 H1 m1 H2 J2 (mul_bad h1 h2 (by simp [fit4, k0, k1, k2])) k0 k1 k2
      rcases k3 : fitB b d with _ | _
      · exact encl_lo_ok_3 a b c d x y w b1 b2 b3 b4 b5 b6 b7 b8 b9 b10 h1 h2 h3 h4 H1 m1 H2 J2 (mul_bad h1 h2 (by simp [fit4, k0, k1, k2, k3])) k0 k1 k2 k3
      obtain ⟨u, v, H3, J3, Hu, Hv, v1, v2, v3, v4, v5⟩ := mul_good h1 h2 ⟨b7, b8⟩ ⟨b9, b10⟩ (show fit4 a b c d = true by rw [fit4, k0, k1, k2, k3]; rfl)
      exact encl_lo_ok_ok a b c d x y u v w b1 b2 b3 b4 b5 b6 b7 b8 b9 b10 h1 h2 h3 h4 H1 m1 H2 J2 H3 k0 k1 k2 k3 J3 Hu Hv v1 v2 v3 v4 v5
    · rcases k0 : fitB a c with _ | _
      · exact encl_lo_lo_0 a b c d x y w b1 b2 b3 b4 b5 b6 b7 b8 b9 b10 h1 h2 h3 h4 H1 m1 H2 m2 (mul_bad h1 h2 (by simp [fit4, k0])) k0
      rcases k1 : fitB a d with _ | _
      · exact encl_lo_lo_1 a b c d x y w b1 b2 b3 b4 b5 b6 b7 b8 b9 b10 h1 h2 h3 h4 H1 m1 H2 m2 (mul_bad h1 h2 (by simp [fit4, k0, k1])) k0 k1
      rcases k2 : fitB b c with _ | _
      · exact encl_lo_lo_2 a b c d x y w b1 b2 b3 b4 b5 b6 b7 b8 b9 b10 h1 h2 h3 h4 H1 m1 H2 m2 (mul_bad h1 h2 (by simp [fit4, k0, k1, k2])) k0 k1 k2
      rcases k3 : fitB b d with _ | _
      · exact encl_lo_lo_3 a b c d x y w b1 b2 b3 b4 b5 b6 b7 b8 b9 b10 h1 h2 h3 h4 H1 m1 H2 m2 (mul_bad h1 h2 (by simp [fit4, k0, k1, k2, k3])) k0 k1 k2 k3
      obtain ⟨u, v, H3, J3, Hu, Hv, v1, v2, v3, v4, v5⟩ := mul_good h1 h2 ⟨b7, b8⟩ ⟨b9, b10⟩ (show fit4 a b c d = true by rw [fit4, k0, k1, k2, k3]; rfl)
      exact encl_lo_lo_ok a b c d x y u v w b1 b2 b3 b4 b5 b6 b7 b8 b9 b10 h1 h2 h3 h4 H1 m1 H2 m2 H3 k0 k1 k2 k3 J3 Hu Hv v1 v2 v3 v4 v5
    · rcases k0 : fitB a c with _ | _
      · exact encl_lo_hi_0 a b c d x y w b1 b2 b3 b4 b5 b6 b7 b8 b9 b10 h1 h2 h3 h4 H1 m1 H2 m2 n2 (mul_bad h1 h2 (by simp [fit4, k0])) k0
      rcases k1 : fitB a d with _ | _
      · exact encl_lo_hi_1 a b c d x y w b1 b2 b3 b4 b5 b6 b7 b8 b9 b10 h1 h2 h3 h4 H1 m1 H2 m2 n2 (mul_bad h1 h2 (by simp [fit4, k0, k1])) k0 k1
      rcases k2 : fitB b c with _ | _
      · exact encl_lo_hi_2 a b c d x y w b1 b2 b3 b4 b5 b6 b7 b8 b9 b10 h1 h2 h3 h4 H1 m1 H2 m2 n2 (mul_bad h1 h2 (by simp [fit4, k0, k1, k2])) k0 k1 k2
      rcases k3 : fitB b d with _ | _
      · exact encl_lo_hi_3 a b c d x y w b1 b2 b3 b4 b5 b6 b7 b8 b9 b10 h1 h2 h3 h4 H1 m1 H2 m2 n2 (mul_bad h1 h2 (by simp [fit4, k0, k1, k2, k3])) k0 k1 k2 k3
      obtain ⟨u, v, H3, J3, Hu, Hv, v1, v2, v3, v4, v5⟩ := mul_good h1 h2 ⟨b7, b8⟩ ⟨b9, b10⟩ (show fit4 a b c d = true by rw [fit4, k0, k1, k2, k3]; rfl)
      exact encl_lo_hi_ok a b c d x y u v w b1 b2 b3 b4 b5 b6 b7 b8 b9 b10 h1 h2 h3 h4 H1 m1 H2 m2 n2 H3 k0 k1 k2 k3 J3 Hu Hv v1 v2 v3 v4 v5
  · rcases sub_three h1 h2 with H2 | ⟨H2, m2 | ⟨m2, n2⟩⟩
    · rcases k0 : fitB a c with _ | _
      · exact encl_hi_ok_0 a b c d x y w b1 b2 b3 b4 b5 b6 b7 b8 b9 b10 h1 h2 h3 h4 H1 m1 n1 H2 J2 (mul_bad h1 h2 (by simp [fit4, k0])) k0
      rcases k1 : fitB a d with _ | _
      · exact encl_hi_ok_1 a b c d x y w b1 b2 b3 b4 b5 b6 b7 b8 b9 b10 h1 h2 h3 h4 H1 m1 n1 H2 J2 (mul_bad h1 h2 (by simp [fit4, k0, k1])) k0 k1
      rcases k2 : fitB b c with _ | _
      · exact encl_hi_ok_2 a b c d x y w b1 b2 b3 b4 b5 b6 b7 b8 b9 b10 h1 h2 h3 h4 H1 m1 n1 H2 J2 (mul_bad h1 h2 (by simp [fit4, k0, k1, k2])) k0 k1 k2
      rcases k3 : fitB b d with _ | _
      · exact encl_hi_ok_3 a b c d x y w b1 b2 b3 b4 b5 b6 b7 b8 b9 b10 h1 h2 h3 h4 H1 m1 n1 H2 J2 (mul_bad h1 h2 (by simp [fit4, k0, k1, k2, k3])) k0 k1 k2 k3
      obtain ⟨u, v, H3, J3, Hu, Hv, v1, v2, v3, v4, v5⟩ := mul_good h1 h2 ⟨b7, b8⟩ ⟨b9, b10⟩ (show fit4 a b c d = true by rw [fit4, k0, k1, k2, k3]; rfl)
      exact encl_hi_ok_ok a b c d x y u v w b1 b2 b3 b4 b5 b6 b7 b8 b9 b10 h1 h2 h3 h4 H1 m1 n1 H2 J2 H3 k0 k1 k2 k3 J3 Hu Hv v1 v2 v3 v4 v5
    · rcases k0 : fitB a c with _ | _
      · exact encl_hi_lo_0 a b c d x y w b1 b2 b3 b4 b5 b6 b7 b8 b9 b10 h1 h2 h3 h4 H1 m1 n1 H2 m2 (mul_bad h1 h2 (by simp [fit4, k0])) k0
      rcases k1 : fitB a d with _ | _
      · exact encl_hi_lo_1 a b c d x y w b1 b2 b3 b4 b5 b6 b7 b8 b9 b10 h1 h2 h3 h4 H1 m1 n1 H2 m2 (mul_bad h1 h2 (by simp [fit4, k0, k1])) k0 k1
      rcases k2 : fitB b c with _ | _
      · exact encl_hi_lo_2 a b c d x y w b1 b2 b3 b4 b5 b6 b7 b8 b9 b10 h1 h2 h3 h4 H1 m1 n1 H2 m2 (mul_bad h1 h2 (by simp [fit4, k0, k1, k2])) k0 k1 k2
      rcases k3 : fitB b d with _ | _
      · exact encl_hi_lo_3 a b c d x y w b1 b2 b3 b4 b5 b6 b7 b8 b9 b10 h1 h2 h3 h4 H1 m1 n1 H2 m2 (mul_bad h1 h2 (by simp [fit4, k0, k1, k2, k3])) k0 k1 k2 k3
      obtain ⟨u, v, H3, J3, Hu, Hv, v1, v2, v3, v4, v5⟩ := mul_good h1 h2 ⟨b7, b8⟩ ⟨b9, b10⟩ (show fit4 a b c d = true by rw [fit4, k0, k1, k2, k3]; rfl)
      exact encl_hi_lo_ok a b c d x y u v w b1 b2 b3 b4 b5 b6 b7 b8 b9 b10 h1 h2 h3 h4 H1 m1 n1 H2 m2 H3 k0 k1 k2 k3 J3 Hu Hv v1 v2 v3 v4 v5
    · rcases k0 : fitB a c with _ | _
      · exact encl_hi_hi_0 a b c d x y w b1 b2 b3 b4 b5 b6 b7 b8 b9 b10 h1 h2 h3 h4 H1 m1 n1 H2 m2 n2 (mul_bad h1 h2 (by simp [fit4, k0])) k0
      rcases k1 : fitB a d with _ | _
      · exact encl_hi_hi_1 a b c d x y w b1 b2 b3 b4 b5 b6 b7 b8 b9 b10 h1 h2 h3 h4 H1 m1 n1 H2 m2 n2 (mul_bad h1 h2 (by simp [fit4, k0, k1])) k0 k1
      rcases k2 : fitB b c with _ | _
      · exact encl_hi_hi_2 a b c d x y w b1 b2 b3 b4 b5 b6 b7 b8 b9 b10 h1 h2 h3 h4 H1 m1 n1 H2 m2 n2 (mul_bad h1 h2 (by simp [fit4, k0, k1, k2])) k0 k1 k2
      rcases k3 : fitB b d with _ | _
      · exact encl_hi_hi_3 a b c d x y w b1 b2 b3 b4 b5 b6 b7 b8 b9 b10 h1 h2 h3 h4 H1 m1 n1 H2 m2 n2 (mul_bad h1 h2 (by simp [fit4, k0, k1, k2, k3])) k0 k1 k2 k3
      obtain ⟨u, v, H3, J3, Hu, Hv, v1, v2, v3, v4, v5⟩ := mul_good h1 h2 ⟨b7, b8⟩ ⟨b9, b10⟩ (show fit4 a b c d = true by rw [fit4, k0, k1, k2, k3]; rfl)
      exact encl_hi_hi_ok a b c d x y u v w b1 b2 b3 b4 b5 b6 b7 b8 b9 b10 h1 h2 h3 h4 H1 m1 n1 H2 m2 n2 H3 k0 k1 k2 k3 J3 Hu Hv v1 v2 v3 v4 v5

end Go.Proofs.Ytmjbcmicjhgciaa
