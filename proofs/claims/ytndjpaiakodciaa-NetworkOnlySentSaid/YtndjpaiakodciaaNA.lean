/-
  Contracts of the small functions of chapter 6. No condition.
-/
import Derived.Test.YtndjpaiakodciaaNG
import Derived.Lib.MinMax
import Derived.RegionTactic
import Derived.BigRegion
import Derived.Laws.EntriesVeiled
namespace Go.Proofs.Ytndjpaiakodciaa
open Go.RowKit

abbrev Pk.v (p : Pk) (V : Value) : Value := .agg #[.int .i64 p.src, .int .i64 p.dst, V]
abbrev pairV (a b : Int) : Value := .agg #[.int .i64 a, .int .i64 b]

theorem nSite_any (n : Int) (w : World) : Calls Try.prog 34 #[.int .i64 n] w fun e w' => e = .returned (.bool (siteB n)) ∧ w = w' := by
  go_enter Try.func34, Try.ntmps34
  go_wp2
  all_goals
    go_ret
    refine ⟨?_, rfl⟩
    simp_all [siteB] <;> omega
theorem nBetween_any (a b : Int) (w : World) : Calls Try.prog 37 #[.int .i64 a, .int .i64 b] w fun e w' => e = .returned (pairV (min a b) (max a b)) ∧ Below w.heap.size w w' := by
  go_enter Try.func37, Try.ntmps37
  go_wp2
  refine bodyPost_ret (v := pairV (min a b) (max a b)) (by simp [results, Try.results37, go_sem]) rfl ?_
  exact ⟨rfl, (Below.refl _ _).alloc (Nat.le_refl _) _⟩
theorem nValid_any (a b : Int) (w : World) : Calls Try.prog 32 #[pairV a b] w fun e w' => e = .returned (.bool (linkB a b)) ∧ Below w.heap.size w w' := by
  go_enter Try.func32, Try.ntmps32
  go_wp2
  all_goals
    go_ret
    refine ⟨?_, (Below.refl _ _).alloc (Nat.le_refl _) _⟩
    simp_all [linkB] <;> omega
theorem nIsNaN_any (n : Int) (w : World) : Calls Try.prog 47 #[.int .i64 n] w fun e w' => e = .returned (.bool false) ∧ w = w' := by
  go_enter Try.func47, Try.ntmps47
  go_wp2
  go_ret
  exact ⟨rfl, rfl⟩
theorem nCmp_any (a b : Int) (w : World) : Calls Try.prog 44 #[.int .i64 a, .int .i64 b] w fun e w' => e = .returned (.int .i64 (cmpI a b)) ∧ w = w' := by
  go_enter Try.func44, Try.ntmps44
  go_wp2_with (go_at_call 47; refine (nIsNaN_any _ _).mono ?_; rintro e w' ⟨rfl, rfl⟩)
  all_goals
    go_ret
    refine ⟨?_, rfl⟩
    unfold cmpI
    first
      | (rw [if_pos (by assumption)]; rfl)
      | (rw [if_neg (by omega), if_pos (by assumption)]; rfl)
      | (rw [if_neg (by omega), if_neg (by omega)]; rfl)

set_option maxHeartbeats 1000000 in
theorem nPacket_any (p : Pk) (V : Value) (w : World) (hV : BytesAt w w.heap.size V p.data) : Calls Try.prog 28 #[p.v V] w fun e w' => e = .returned (.bool p.okB) ∧ Below w.heap.size w w' := by
  obtain ⟨A, c, rfl, hm⟩ := hV.form
  unfold maxLen at hm
  obtain ⟨n, hn⟩ : ∃ n, p.data.length = n := ⟨_, rfl⟩
  have hp : p.okB = (linkB (min p.src p.dst) (max p.src p.dst) && decide ((n : Int) ≤ 1048576)) := by
    rw [Pk.okB, hn, show decide (n ≤ 1048576) = decide ((n : Int) ≤ 1048576) from decide_eq_decide.2 (by omega)]
  rw [hn] at hm hV ⊢
  rw [hp]
  clear hp hn hV
  obtain ⟨q, hq⟩ : ∃ q, linkB (min p.src p.dst) (max p.src p.dst) = q := ⟨_, rfl⟩
  rw [hq]
  have hq := Lib.hid hq
  go_enter Try.func28, Try.ntmps28
  go_wp2_with fail
  refine (nBetween_any _ _ _).mono ?_
  rintro e w1 ⟨rfl, hb⟩
  have X := (Box.new w [.int .i64 p.src, .int .i64 p.dst, .slice A n c] 28).later hb
  have hB := ((Below.refl w.heap.size w).alloc (Nat.le_refl _) (.cells #[.int .i64 p.src, .int .i64 p.dst, .slice A n c] 28)).trans (hb.mono (by simp))
  clear hb
  go_wp2_with fail
  refine (((nValid_any _ _ _).mono fun _ _ ⟨he, hb⟩ => ⟨by rw [he, hq.out], hb⟩) : Calls Try.prog 32 #[pairV (min p.src p.dst) (max p.src p.dst)] _ fun e w' => e = .returned (.bool q) ∧ Below _ _ w').mono ?_
  rintro e w2 ⟨rfl, hb⟩
  have X := X.later hb
  have hB := hB.trans (hb.mono hB.size)
  clear hb
  have x2 : w2.cell? ⟨w.heap.size, 2, none⟩ = some (.slice A n c) := X.cell 2
  have xz := X.lt
  rcases q with _ | _
  all_goals
    go_wp2
    go_ret
    exact ⟨rfl, hB⟩

theorem nPacket1_any (p : Pk) (V : Value) (w : World) (hV : BytesAt w w.heap.size V p.data) : Calls Try.prog 31 #[p.v V] w fun e w' => e = .returned (.bool (!p.okB)) ∧ Below w.heap.size w w' := by
  obtain ⟨q, hq⟩ : ∃ q, p.okB = q := ⟨_, rfl⟩
  rw [hq]
  have hq := Lib.hid hq
  have hb0 := (Below.refl w.heap.size w).alloc (Nat.le_refl _) (.cells #[.int .i64 p.src, .int .i64 p.dst, V] 28)
  have hV2 := Lib.hid (hV.later hb0)
  clear hV
  go_enter Try.func31, Try.ntmps31
  go_wp2_with fail
  refine (((nPacket_any p V _ hV2.out).mono fun _ _ ⟨he, hb⟩ => ⟨by rw [he, hq.out], hb⟩) : Calls Try.prog 28 #[p.v V] _ fun e w' => e = .returned (.bool q) ∧ Below _ _ w').mono ?_
  rintro e w2 ⟨rfl, hb⟩
  go_wp2
  go_ret
  exact ⟨rfl, hb0.trans (hb.mono hb0.size)⟩

end Go.Proofs.Ytndjpaiakodciaa
