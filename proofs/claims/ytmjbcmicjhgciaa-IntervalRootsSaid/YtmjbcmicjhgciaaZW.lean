/-
  IntervalRoots: the cases joined. (Printed by gen_roots.py.)
-/
import Derived.Test.YtmjbcmicjhgciaaZU
import Derived.Test.YtmjbcmicjhgciaaZV
namespace Go.Proofs.Ytmjbcmicjhgciaa
open Go.RowKit

theorem wrap_sq {r : Int} (h0 : 0 ≤ r * r) (h1 : r * r ≤ 9223372036854775807) : IntKind.i64.wrap (r * r) = r * r := by
  rw [IntKind.wrap_i64]; omega
theorem law_Roots (a b x : Int) (w : World) : Calls Try.prog 7 #[rng a b, .int .i64 x] w fun e w' => e = .returned (.bool true) ∧ Below w.heap.size w w' := by
  rcases h1 : okR a b with _ | _
  · exact roots_1 a b x w h1
  rcases h2 : holB a b x with _ | _
  · exact roots_2 a b x w h1 h2
  rcases hf : fit4 a b a b with _ | _
  · obtain ⟨H1, H2⟩ := roots_nofit h1 hf
    rcases Int.lt_or_le a 0 with k1 | k1
    · exact roots_no_neg a b x w h1 h2 H1 H2 k1 (roots_neg h1 k1)
    · obtain ⟨r, s, H3, ⟨k2, k3, k4⟩, k5, k6, k7, k8⟩ := roots_pos h1 k1
      have q1 := sq_bd k2 (show r ≤ 1048577 by omega)
      have q2 := sq_bd (show 0 ≤ r + 1 by omega) (show r + 1 ≤ 1048577 by omega)
      have q3 := sq_bd (show 0 ≤ s by omega) (show s ≤ 1048577 by omega)
      rcases k8 with rfl | ⟨k8, k9⟩
      · exact roots_no_zero a b x r w h1 h2 H1 H2 k1 H3 k2 k3 k5 k6 (by simpa using k7) (wrap_sq q1.1 (by omega)) (wrap_sq q2.1 (by omega))
      · have q4 := sq_bd (show 0 ≤ s - 1 by omega) (show s - 1 ≤ 1048577 by omega)
        exact roots_no_pos a b x r s w h1 h2 H1 H2 k1 H3 k2 k3 k4 k5 k6 k7 (wrap_sq q1.1 (by omega)) (wrap_sq q2.1 (by omega)) (wrap_sq q3.1 (by omega)) k8 k9 (wrap_sq q4.1 (by omega))
  · obtain ⟨lo, hi, p, H1, H2, H4, H5, k0, v0, v0'⟩ := roots_fit h1 hf h2
    have v := wrap_sq v0 (show x * x ≤ 9223372036854775807 by omega)
    rcases Int.lt_or_le a 0 with k1 | k1
    · exact roots_yes_neg a b x lo hi p w h1 h2 H1 H2 H4 H5 k0 v k1 (roots_neg h1 k1)
    · obtain ⟨r, s, H3, ⟨k2, k3, k4⟩, k5, k6, k7, k8⟩ := roots_pos h1 k1
      have q1 := sq_bd k2 (show r ≤ 1048577 by omega)
      have q2 := sq_bd (show 0 ≤ r + 1 by omega) (show r + 1 ≤ 1048577 by omega)
      have q3 := sq_bd (show 0 ≤ s by omega) (show s ≤ 1048577 by omega)
      rcases k8 with rfl | ⟨k8, k9⟩
      · exact roots_yes_zero a b x lo hi p r w h1 h2 H1 H2 H4 H5 k0 v k1 H3 k2 k3 k5 k6 (by simpa using k7) (wrap_sq q1.1 (by omega)) (wrap_sq q2.1 (by omega))
      · have q4 := sq_bd (show 0 ≤ s - 1 by omega) (show s - 1 ≤ 1048577 by omega)
        exact roots_yes_pos a b x lo hi p r s w h1 h2 H1 H2 H4 H5 k0 v k1 H3 k2 k3 k4 k5 k6 k7 (wrap_sq q1.1 (by omega)) (wrap_sq q2.1 (by omega)) (wrap_sq q3.1 (by omega)) k8 k9 (wrap_sq q4.1 (by omega))

end Go.Proofs.Ytmjbcmicjhgciaa
