/-
  Contracts of the small functions of chapter 4, and of slices.ContainsFunc over writes and sectors. No condition.
-/
import Derived.Test.YtdmeogkdoeaemaaDG
import Derived.Lib.MinMax
import Derived.RegionTactic
import Derived.BigRegion
import Derived.Laws.EntriesVeiled
namespace Go.Proofs.Ytdmeogkdoeaemaa
open Go.RowKit

abbrev Wr.v (x : Wr) (V : Value) : Value := .agg #[.int .i64 x.at', V]
theorem decide_cast {n k : Nat} : decide ((n : Int) = (k : Int)) = decide (n = k) := decide_eq_decide.2 (by omega)

theorem dSector_any (b : Bs) (V : Value) (S : Nat → Prop) (w : World) (h : BsAt w S V b) : Calls Try.prog 31 #[V] w fun e w' => e = .returned (.bool (secB b)) ∧ w = w' := by
  obtain ⟨A, c, rfl, hm⟩ := h.form
  unfold maxLen at hm
  have hs : secB b = decide ((b.length : Int) = 128) := by rw [secB]; exact decide_eq_decide.2 (by omega)
  rw [hs]
  clear hs h
  generalize b.length = n at hm ⊢
  go_enter Try.func31, Try.ntmps31
  go_wp2
  go_ret
  refine ⟨?_, rfl⟩
  rfl
theorem dSector2_any (b : Bs) (V : Value) (S : Nat → Prop) (w : World) (h : BsAt w S V b) : Calls Try.prog 34 #[V] w fun e w' => e = .returned (.bool (!secB b)) ∧ w = w' := by
  obtain ⟨q, hq⟩ : ∃ q, secB b = q := ⟨_, rfl⟩
  have H := dSector_any b V S w h
  rw [hq] at H ⊢
  have H := Lib.hid H
  clear hq h
  go_enter Try.func34, Try.ntmps34
  go_wp2_with fail
  refine H.out.mono ?_
  rintro e w1 ⟨rfl, rfl⟩
  go_wp2
  go_ret
  exact ⟨rfl, rfl⟩
theorem wrB_eq (n : Nat) (a : Int) (d : Bs) : wrB n ⟨a, d⟩ = (decide (0 ≤ a) && (decide (a < (n : Int)) && decide ((d.length : Int) = 128))) := by
  have : decide (d.length = 128) = decide ((d.length : Int) = 128) := decide_eq_decide.2 (by omega)
  rw [Bool.eq_iff_iff]
  simp only [wrB, secB, this, Bool.and_eq_true, decide_eq_true_eq, and_assoc]
set_option maxHeartbeats 1000000 in
theorem dWrite1_any (x : Wr) (n : Nat) (c : Nat) (V : Value) (S : Nat → Prop) (w : World) (h : BsAt w S V x.data) (hc : w.cell? ⟨c, 0, none⟩ = some (.int .i64 n)) (hcw : c < w.heap.size) :
    Calls Try.prog 30 #[x.v V, .pointer (some ⟨c, 0, none⟩)] w fun e w' => e = .returned (.bool (!wrB n x)) ∧ Below w.heap.size w w' := by
  obtain ⟨xa, xd⟩ := x
  obtain ⟨A, cc, rfl, hm⟩ := h.form
  rw [wrB_eq]
  unfold maxLen at hm
  dsimp only at hm h ⊢
  generalize xd.length = dl at hm h ⊢
  have hb0 := (Below.refl w.heap.size w).alloc (Nat.le_refl _) (.cells #[.int .i64 xa, .slice A dl cc] 54)
  clear h
  by_cases h1 : xa < 0
  · have h1' : decide (0 ≤ xa) = false := decide_eq_false (by omega)
    go_enter Try.func30, Try.ntmps30
    go_wp2
    go_ret
    refine ⟨?_, hb0⟩
    first | (simp; done) | (simp; omega) | (simp; rfl) | (simp [h1]; done)
  · have h1' : decide (0 ≤ xa) = true := decide_eq_true (by omega)
    by_cases h3 : (n : Int) ≤ xa
    · have h3' : decide (xa < (n : Int)) = false := decide_eq_false (by omega)
      go_enter Try.func30, Try.ntmps30
      go_wp2
      go_ret
      refine ⟨?_, hb0⟩
      first | (simp; done) | (simp; omega) | (simp; rfl) | (simp [h1]; done)
    · have h3' : decide (xa < (n : Int)) = true := decide_eq_true (by omega)
      go_enter Try.func30, Try.ntmps30
      go_wp2
      go_ret
      refine ⟨?_, hb0⟩
      first | (simp; done) | (simp; omega) | (simp; rfl) | (simp [h1]; done)

end Go.Proofs.Ytdmeogkdoeaemaa
