/-
  Contract of Sync of the reference of chapter 4, whole. No condition.
-/
import Derived.Test.YtdmeogkdoeaemaaDY
import Derived.Test.YtdmeogkdoeaemaaDZ
import Derived.Test.YtdmeogkdoeaemaaED
namespace Go.Proofs.Ytdmeogkdoeaemaa
open Go.RowKit

theorem dRSync_any (d : Dk) (Vs Vp : Value) (S : Nat → Prop) (w : World) (hD : DkAt w S Vs Vp d) : Calls Try.prog 24 #[d.v Vs Vp] w (RetDk (syncT d) S w) := by
  obtain ⟨As, cs, rfl, _⟩ := hD.sectors.form
  obtain ⟨Ap, cp, rfl, _⟩ := hD.pending.form
  obtain ⟨ns, hns⟩ : ∃ k, d.sectors.length = k := ⟨_, rfl⟩
  obtain ⟨np, hnp⟩ : ∃ k, d.pending.length = k := ⟨_, rfl⟩
  obtain ⟨dl, hdl⟩ : ∃ k, d.left = k := ⟨_, rfl⟩
  obtain ⟨ds, hds⟩ : ∃ k, d.stopped = k := ⟨_, rfl⟩
  rw [Dk.v, hns, hnp, hdl, hds]
  rw [hns, hnp] at hD
  rcases hok : d.okB with _ | _
  · have hr : d.runs = false := by rw [Dk.runs, hok]; rfl
    exact dRSync_1 d As ns cs Ap np cp dl ds S w hD hdl hds (Lib.hid (by rw [Dk.checkT, hok]; rfl)) (Lib.hid (by rw [syncT, hr]; rfl))
  · have hc : d.checkT = 0 := by rw [Dk.checkT, hok]; rfl
    rcases ds with _ | _
    · have hr : d.runs = true := by rw [Dk.runs, hok, hds]; rfl
      obtain ⟨k1, k2, k3, k4, k5, _⟩ := okB_parts hok
      rw [hdl] at k4 k5
      by_cases h0 : dl < 0
      · refine dRSync_5 d As ns cs Ap np cp dl S w hD hdl hds hc hr hnp hns h0 (Lib.hid ?_)
        have ht : tearB d = false := by rw [tearB, hdl, decide_eq_false (by omega)]; rfl
        rw [syncT, if_pos hr, ht, if_neg (by decide), hdl, if_neg (by omega)]
      · by_cases h1 : dl < (np : Int)
        · obtain ⟨j, rfl⟩ : ∃ j : Nat, dl = j := ⟨dl.toNat, by omega⟩
          refine dRSync_3 d As ns cs Ap np cp j S w hD hdl hds hc hr hnp hns (by omega) (Lib.hid ?_)
          have ht : tearB d = true := by rw [tearB, hdl, hnp, decide_eq_true (by omega), decide_eq_true h1]; rfl
          rw [syncT, if_pos hr, if_pos ht]
        · refine dRSync_4 d As ns cs Ap np cp dl S w hD hdl hds hc hr hnp hns (by omega) (by omega) (by omega) (Lib.hid ?_)
          have ht : tearB d = false := by rw [tearB, hdl, hnp, decide_eq_false h1, Bool.and_false]
          rw [syncT, if_pos hr, ht, if_neg (by decide), hdl, hnp, if_pos (by omega)]
    · have hr : d.runs = false := by rw [Dk.runs, hds]; simp
      exact dRSync_2 d As ns cs Ap np cp dl S w hD hdl hds hc (Lib.hid (by rw [syncT, hr]; rfl))
theorem dRSync_at {d : Dk} {Vs Vp : Value} {L : List Nat} {w : World} {l : Int} {s : Bool} (hD : Hid (DkAt w (Out L) Vs Vp d)) (hd : DkIs d l s) : Calls Try.prog 24 #[.agg #[Vs, Vp, .int .i64 l, .bool s]] w (RetDk (syncT d) (Out L) w) := by
  have := dRSync_any d Vs Vp (Out L) w hD.out
  rwa [Dk.v, hd.left, hd.stopped] at this

end Go.Proofs.Ytdmeogkdoeaemaa
