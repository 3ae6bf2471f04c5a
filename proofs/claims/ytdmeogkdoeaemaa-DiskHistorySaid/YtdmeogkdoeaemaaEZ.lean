/-
  The law DiskHistory. No condition.
-/
import Derived.Test.YtdmeogkdoeaemaaEX
namespace Go.Proofs.Ytdmeogkdoeaemaa
open Go.RowKit

theorem law_DiskHistory (sc : List Ac) (Va : Value) (x : Int) (w : World) (ha : AcsAt w (Live w) Va sc) (hx : 0 ≤ x ∧ x ≤ 255) :
    Calls Try.prog 6 #[Va, .int .u8 x] w fun e w' => e = .returned (.bool true) ∧ Below w.heap.size w w' := by
  obtain ⟨Av, cv, rfl, hm3⟩ := ha.form
  unfold maxLen at hm3
  obtain ⟨rm, rfl⟩ : ∃ rm : Nat, x = (rm : Int) := ⟨x.toNat, by omega⟩
  have LA : Hid (AcsAt w (Out []) (.slice Av sc.length cv) sc) := Lib.hid (ha.weak fun b _ _ hc => by cases hc)
  by_cases hn : sc.length ≤ 40
  · exact lawH_go Av _ cv sc rm w LA (Lib.hid rfl) (Lib.hid (by omega)) hn
  · exact lawH_1 Av _ cv rm w (by omega) (by omega)

end Go.Proofs.Ytdmeogkdoeaemaa
