/-
  IntervalLattice: the cases joined. (Printed by gen_lattice.py.)
-/
import Derived.Test.YtmjbcmicjhgciaaYEA
import Derived.Test.YtmjbcmicjhgciaaYEB
import Derived.Test.YtmjbcmicjhgciaaYEC
import Derived.Test.YtmjbcmicjhgciaaYED
import Derived.Test.YtmjbcmicjhgciaaYD
namespace Go.Proofs.Ytmjbcmicjhgciaa
open Go.RowKit

theorem ins_no {a b c d : Int} (h : okR a b = true) (h' : okR c d = false) : Hid (insT a b c d = (false, 130)) := by
  rw [Hid, insT, if_neg (by rw [h, h']; decide)]
theorem ins_is {a b c d : Int} (h : okR a b = true) (h' : okR c d = true) : Hid (insT a b c d = (decide (c ≤ a ∧ b ≤ d), 0)) := by
  rw [Hid, insT, if_pos (by rw [h, h']; rfl)]
theorem ins_fail {a b c d : Int} (h : okR a b = true) (h' : okR c d = true) (h1 : ¬ (c ≤ a ∧ b ≤ d)) : Hid (insT a b c d = (false, 0)) := by
  rw [Hid, insT, if_pos (by rw [h, h']; rfl), decide_eq_false h1]
theorem hol_no {lo hi n : Int} (h : ¬ (lo ≤ n ∧ n ≤ hi)) : holB lo hi n = false := decide_eq_false h
theorem hol_yes {lo hi n : Int} (h : lo ≤ n ∧ n ≤ hi) : holB lo hi n = true := decide_eq_true h
theorem law_Lattice (a b c d p q x : Int) (w : World) : Calls Try.prog 11 #[rng a b, rng c d, rng p q, .int .i64 x] w fun e w' => e = .returned (.bool true) ∧ Below w.heap.size w w' := by
  rcases hk : (okR a b && okR c d) with _ | _
  · exact lat_no a b c d p q x w (show meetT a b c d = _ by rw [meetT, if_neg (by rw [hk]; decide)]) (show hul2T a b c d = _ by rw [hul2T, if_neg (by rw [hk]; decide)])
  have ho : okR a b = true ∧ okR c d = true := by simpa using hk
  obtain ⟨h1, h2⟩ := ho
  obtain ⟨b1, b2, b3⟩ := okR_bd h1
  obtain ⟨b4, b5, b6⟩ := okR_bd h2
  have H2 := hul2_yes h1 h2 (lo := min a c) (hi := max b d) ⟨rfl, rfl⟩
  have hu : okR (min a c) (max b d) = true := okR_mk (by omega)
  have H3 := ins_yes h1 hu (show min a c ≤ a by omega) (show b ≤ max b d by omega)
  have H4 := ins_yes h2 hu (show min a c ≤ c by omega) (show d ≤ max b d by omega)
  by_cases hm : max a c ≤ min b d
  · have H1 := meet_yes hk (lo := max a c) (hi := min b d) ⟨hm, rfl, rfl⟩
    have C : Hid ((holB (max a c) (min b d) x = true ∧ holB a b x = true ∧ holB c d x = true) ∨ (holB (max a c) (min b d) x = false ∧ holB a b x = false) ∨ (holB (max a c) (min b d) x = false ∧ holB a b x = true ∧ holB c d x = false)) := by
      by_cases e1 : a ≤ x ∧ x ≤ b
      · by_cases e2 : c ≤ x ∧ x ≤ d
        · exact .inl ⟨hol_yes (by omega), hol_yes e1, hol_yes e2⟩
        · exact .inr (.inr ⟨hol_no (by omega), hol_yes e1, hol_no e2⟩)
      · exact .inr (.inl ⟨hol_no (by omega), hol_no e1⟩)
    have k2 : decide (min b d < max a c) = false := decide_eq_false (by omega)
    rcases h5 : okR p q with _ | _
    · exact lat_ok_bad a b c d p q x _ _ _ _ w H1 H2 hm k2 C H3 H4 (ins_no h1 h5) (ins_no h2 h5) (ins_no hu h5)
    by_cases e1 : p ≤ a ∧ b ≤ q
    · by_cases e2 : p ≤ c ∧ d ≤ q
      · exact lat_ok_tt a b c d p q x _ _ _ _ w H1 H2 hm k2 C H3 H4 (ins_yes h1 h5 e1.1 e1.2) (ins_yes h2 h5 e2.1 e2.2) (ins_yes hu h5 (by omega) (by omega))
      · exact lat_ok_tf a b c d p q x _ _ _ _ w H1 H2 hm k2 C H3 H4 (ins_yes h1 h5 e1.1 e1.2) (ins_fail h2 h5 e2) (ins_fail hu h5 (by omega))
    · exact lat_ok_f a b c d p q x _ _ _ _ w _ H1 H2 hm k2 C H3 H4 (ins_fail h1 h5 e1) (ins_is h2 h5) (ins_fail hu h5 (by omega))
  · have H1 := meet_no hk hm
    have C : Hid (holB a b x = false ∨ (holB a b x = true ∧ holB c d x = false)) := by
      by_cases e1 : a ≤ x ∧ x ≤ b
      · exact .inr ⟨hol_yes e1, hol_no (by omega)⟩
      · exact .inl (hol_no e1)
    rcases h5 : okR p q with _ | _
    · exact lat_apart_bad a b c d p q x _ _ w H1 H2 C H3 H4 (ins_no h1 h5) (ins_no h2 h5) (ins_no hu h5)
    by_cases e1 : p ≤ a ∧ b ≤ q
    · by_cases e2 : p ≤ c ∧ d ≤ q
      · exact lat_apart_tt a b c d p q x _ _ w H1 H2 C H3 H4 (ins_yes h1 h5 e1.1 e1.2) (ins_yes h2 h5 e2.1 e2.2) (ins_yes hu h5 (by omega) (by omega))
      · exact lat_apart_tf a b c d p q x _ _ w H1 H2 C H3 H4 (ins_yes h1 h5 e1.1 e1.2) (ins_fail h2 h5 e2) (ins_fail hu h5 (by omega))
    · exact lat_apart_f a b c d p q x _ _ w _ H1 H2 C H3 H4 (ins_fail h1 h5 e1) (ins_is h2 h5) (ins_fail hu h5 (by omega))

end Go.Proofs.Ytmjbcmicjhgciaa
