/-
  The law DiskTogether. No condition.
-/
import Derived.Test.YtdmeogkdoeaemaaER
import Derived.Test.YtdmeogkdoeaemaaED
namespace Go.Proofs.Ytdmeogkdoeaemaa
open Go.RowKit

theorem law_DiskTogether (d : Dk) (Vs Vp : Value) (sc : List Ac) (Va : Value) (w : World) (hD : DkAt w (fun b => b < w.heap.size) Vs Vp d) (hsm : d.small) (ha : AcsAt w (Live w) Va sc) :
    Calls Try.prog 8 #[.agg #[Vs, Vp, .int .i64 d.left, .bool d.stopped], Va] w fun e w' => e = .returned (.bool true) ∧ Below w.heap.size w w' := by
  obtain ⟨As, cs, rfl, hm1⟩ := hD.sectors.form
  obtain ⟨Ap, cp, rfl, hm2⟩ := hD.pending.form
  obtain ⟨Av, cv, rfl, hm3⟩ := ha.form
  unfold maxLen at hm1 hm2 hm3
  have LD := live_out hD
  have LA : Hid (AcsAt w (Out []) (.slice Av sc.length cv) sc) := Lib.hid (ha.weak fun b _ _ hc => by cases hc)
  rcases hf : fewB d with _ | _
  · exact lawT_1 d As _ cs Ap _ cp _ _ w LD ⟨rfl, rfl⟩ hsm Av _ cv sc LA hf
  by_cases hn : sc.length ≤ 20
  case neg => exact lawT_2 d As _ cs Ap _ cp _ _ w LD ⟨rfl, rfl⟩ hsm Av _ cv sc LA hf (by omega) (by omega)
  by_cases hp : d.pending = []
  case neg => exact lawT_3 d As _ cs Ap _ cp _ _ w LD ⟨rfl, rfl⟩ hsm Av _ cv sc LA hf hn (List.length_pos_iff.2 hp) (by omega)
  have hp0 : d.pending.length = 0 := by rw [hp]; rfl
  by_cases hs : d.sectors = []
  · have hs0 : d.sectors.length = 0 := by rw [hs]; rfl
    rw [hp0, hs0] at LD
    rw [hp0, hs0]
    exact lawT_4 d As cs Ap cp _ _ w LD ⟨rfl, rfl⟩ hsm Av _ cv sc LA hf hn
  have hs0 : 0 < d.sectors.length := List.length_pos_iff.2 hs
  rw [hp0] at LD
  rw [hp0]
  rcases hok : d.okB with _ | _
  · exact lawT_5 d As _ cs Ap cp _ _ w LD ⟨rfl, rfl⟩ hsm Av _ cv sc LA hf hn hs0 (by omega) (by rw [Hid, Dk.checkT, hok]; rfl)
  have hck : Hid (d.checkT = 0) := by rw [Hid, Dk.checkT, hok]; rfl
  obtain ⟨k1, k2, k3, k4, k5, k6, k7⟩ := okB_parts hok
  rcases hst : d.stopped with _ | _
  · exact lawT_go d As _ cs Ap cp _ w LD ⟨rfl, hst⟩ hsm Av _ cv sc LA (sc.map fun a => acW d.sectors.length a.at'.toNat a.byte) (Lib.hid rfl) (by
      have := acW_ok (d := d) rfl hs0 (sc.map fun a => (a.at'.toNat, a.byte))
      rw [List.map_map] at this
      exact Lib.hid this) (Lib.hid (by rw [List.length_map])) (Lib.hid rfl) hok (Lib.hid rfl) hp hf hn hs0 k2 hck
  · exact lawT_6 d As _ cs Ap cp _ w LD ⟨rfl, hst⟩ hsm Av _ cv sc LA hf hn hs0 (by omega) hck

end Go.Proofs.Ytdmeogkdoeaemaa
