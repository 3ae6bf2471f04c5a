/-
  The law IntervalInside, joined. No condition.
-/
import Derived.Test.YtmjbcmicjhgciaaYK
namespace Go.Proofs.Ytmjbcmicjhgciaa
open Go.RowKit

theorem insT_err (a b c d : Int) : ∃ o e, Hid (insT a b c d = (o, e)) ∧ ((e = 130 ∧ o = false) ∨ e = 0) := by
  unfold insT
  split
  · exact ⟨_, _, rfl, .inr rfl⟩
  · exact ⟨_, _, rfl, .inl ⟨rfl, rfl⟩⟩
theorem law_Inside (a b c d a2 b2 c2 d2 nn rr : Int) (w : World) : Calls Try.prog 9 #[rng a b, rng c d, rng a2 b2, rng c2 d2, rat nn rr] w fun e w' => e = .returned (.bool true) ∧ Below w.heap.size w w' := by
  obtain ⟨o1, e, I1, h1⟩ := insT_err a b a2 b2
  obtain ⟨o2, f, I2, h2⟩ := insT_err c d c2 d2
  rcases h1 with h1 | rfl
  · exact inside_early _ _ _ _ _ _ _ _ _ _ _ _ w o1 o2 I1 I2 (.inl h1)
  rcases h2 with h2 | rfl
  · exact inside_early _ _ _ _ _ _ _ _ _ _ _ _ w o1 o2 I1 I2 (.inr (.inl ⟨rfl, h2⟩))
  cases o1
  · exact inside_early _ _ _ _ _ _ _ _ _ _ _ _ w false o2 I1 I2 (.inr (.inr (.inl ⟨rfl, rfl, rfl⟩)))
  cases o2
  · exact inside_early _ _ _ _ _ _ _ _ _ _ _ _ w true false I1 I2 (.inr (.inr (.inr ⟨rfl, rfl, rfl, rfl⟩)))
  exact inside_go _ _ _ _ _ _ _ _ _ _ w I1 I2

end Go.Proofs.Ytmjbcmicjhgciaa
