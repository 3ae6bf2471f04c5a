/-
  Contracts of valid, hull, Check, Add, Sub, Meet, Hull, Inside of package interval. No condition.
-/
import Derived.Test.YtmjbcmicjhgciaaK
namespace Go.Proofs.Ytmjbcmicjhgciaa
open Go.RowKit

set_option maxHeartbeats 400000 in
theorem valid1 (b : Nat) (lo hi : Int) (w : World) (h0 : w.cell? ⟨b, 0, none⟩ = some (.int .i64 lo)) (h1 : w.cell? ⟨b, 1, none⟩ = some (.int .i64 hi)) :
    Calls Try.prog 37 #[.slice (some ⟨b, 0, none⟩) 1 1] w (RetB (okR lo hi) w) := by
  go_enter Try.func37, Try.ntmps37
  go_wp2
  refine wp_loop_rounds 2 ?_
  rw [rounds_succ]
  go_wp2
  all_goals try (rw [rounds_succ]; go_wp2)
  all_goals
    go_ret
    exact ⟨_, rfl, by simp [Hid, okR]; omega, (Below.refl _ _).alloc (Nat.le_refl _) _⟩

set_option maxHeartbeats 400000 in
theorem valid2 (b : Nat) (lo hi lo' hi' : Int) (w : World) (hb : b < w.heap.size) (h0 : w.cell? ⟨b, 0, none⟩ = some (.int .i64 lo)) (h1 : w.cell? ⟨b, 1, none⟩ = some (.int .i64 hi))
    (h2 : w.cell? ⟨b, 2, none⟩ = some (.int .i64 lo')) (h3 : w.cell? ⟨b, 3, none⟩ = some (.int .i64 hi')) :
    Calls Try.prog 37 #[.slice (some ⟨b, 0, none⟩) 2 2] w (RetB (okR lo hi && okR lo' hi') w) := by
  go_enter Try.func37, Try.ntmps37
  go_wp2
  refine wp_loop_rounds 3 ?_
  rw [rounds_succ]
  go_wp2
  all_goals try (rw [rounds_succ]; go_wp2)
  all_goals try (rw [rounds_succ]; go_wp2)
  all_goals
    go_ret
    exact ⟨_, rfl, by simp [Hid, okR]; omega, by repeat (first | exact Below.refl _ _ | refine Below.alloc ?_ (by simp) _)⟩

set_option maxHeartbeats 1000000 in
theorem hull_any (f : Int) (b off cap : Nat) (xs : List Int) (w : World) (hl : xs.length ≤ 100) (hb : b < w.heap.size)
    (hc : ∀ i, i < xs.length → w.cell? ⟨b, off + i, none⟩ = some (.int .i64 (xs[i]?.getD 0))) :
    Calls Try.prog 38 #[.int .i64 f, .slice (some ⟨b, off, none⟩) xs.length cap] w (Ret (hullT f xs) w) := by
  go_enter Try.func38, Try.ntmps38
  go_wp2
  go_loopw [13] (fun i wr => ∃ k : Nat, k ≤ xs.length ∧ i = .int .i64 k ∧ wr.cell? ⟨w.heap.size, 0, none⟩ = some (.int .i64 (loL f (xs.take k))) ∧ wr.cell? ⟨w.heap.size, 1, none⟩ = some (.int .i64 (hiL f (xs.take k))) ∧ wr.frozen? ⟨w.heap.size, 0, none⟩ = false ∧ wr.frozen? ⟨w.heap.size, 1, none⟩ = false ∧ w.heap.size < wr.heap.size ∧ Below w.heap.size w wr)
     (fun i _ => xs.length - (intOf i).toNat)
  case atStart =>
    exact ⟨0, Nat.zero_le _, rfl, by go_simp; rfl, by go_simp; rfl, by go_simp, by go_simp, by simp, (Below.refl _ _).alloc (Nat.le_refl _) _⟩
  case round =>
    obtain ⟨k, hk, rfl, c0, c1, f0, f1, hz, hB⟩ := hrel
    by_cases hlt : k < xs.length
    · have hx := (hB.cell (p := ⟨b, off + k, none⟩) hb).trans (hc k hlt)
      go_wp2
      go_roundw
      case rel =>
        refine ⟨k + 1, by omega, by go_num, ?_, ?_, by go_simp, by go_simp, by go_simp, (hB.setCell (Nat.le_refl _) _).setCell (Nat.le_refl _) _⟩
        · rw [loL_take _ _ _ hlt]; go_simp
        · rw [hiL_take _ _ _ hlt]; go_simp
      case measure => simp [intOf]; omega
    · obtain rfl : k = xs.length := by omega
      rw [List.take_length] at c0 c1
      obtain ⟨lo, hlo⟩ : ∃ lo, lo = loL f xs := ⟨_, rfl⟩
      obtain ⟨hi, hhi⟩ : ∃ hi, hi = hiL f xs := ⟨_, rfl⟩
      rw [← hlo] at c0
      rw [← hhi] at c1
      have Hlo := Lib.hid hlo
      have Hhi := Lib.hid hhi
      clear hlo hhi
      go_wp2_with fail
      refine (valid1 _ lo hi _ (by go_simp) (by go_simp)).mono ?_
      rintro e w1 ⟨q, rfl, hq, hB1⟩
      have d0 := (hB1.cell (p := ⟨w.heap.size, 0, none⟩) (by simp; omega)).trans ((World.cell?_alloc_past _ _ _ hz).trans c0)
      have d1 := (hB1.cell (p := ⟨w.heap.size, 1, none⟩) (by simp; omega)).trans ((World.cell?_alloc_past _ _ _ hz).trans c1)
      have e0 := (hB1.frozen (p := ⟨w.heap.size, 0, none⟩) (by simp; omega)).trans ((World.frozen?_alloc_old _ _ _ (Nat.ne_of_lt hz)).trans f0)
      have e1 := (hB1.frozen (p := ⟨w.heap.size, 1, none⟩) (by simp; omega)).trans ((World.frozen?_alloc_old _ _ _ (Nat.ne_of_lt hz)).trans f1)
      have hz1 : w.heap.size < w1.heap.size := by have := hB1.size; simp at this; omega
      have hB2 := hB.trans ((((Below.refl _ wr).alloc (Nat.le_refl _) _).trans (hB1.mono (by simp))).mono hB.size)
      clear hB1
      cases q
      · go_wp2
        refine bodyPost_ret (v := .tuple #[rng 0 0, .int .i64 2]) (by simp [results, Try.results38, go_sem, d0, d1]) rfl ⟨0, 0, 2, rfl, ?_, by repeat (first | assumption | refine Below.setCell ?_ (by simp) _)⟩
        have h := hq.out
        rw [Hlo.out, Hhi.out] at h
        simp [Hid, hullT, cutT, h]
      · go_wp2
        refine bodyPost_ret (v := .tuple #[rng lo hi, .int .i64 0]) (by simp [results, Try.results38, go_sem, d0, d1]) rfl ⟨lo, hi, 0, rfl, ?_, by repeat (first | assumption | refine Below.setCell ?_ (by simp) _)⟩
        have h := hq.out
        rw [Hlo.out, Hhi.out] at h
        simp [Hid, hullT, cutT, h, Hlo.out, Hhi.out]

end Go.Proofs.Ytmjbcmicjhgciaa
