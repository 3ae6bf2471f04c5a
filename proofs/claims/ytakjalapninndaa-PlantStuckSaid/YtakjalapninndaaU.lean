/-
  Contracts of example and sane of the law's file. (Printed by gen_u.py.)
-/
import Derived.Test.YtakjalapninndaaV
namespace Go.Proofs.Ytakjalapninndaa
open Go.RowKit

theorem codeAt_one {w : World} {B b1 b2 : Nat} {c : Cn} {n : Int} (h1 : Box w b1 [.int .i64 c.var, .int .i64 c.op, .int .i64 c.n]) (h2 : Box w b2 [.slice (some ⟨b1, 0, none⟩) 1 1, .int .i64 n]) (l1 : b1 < B) (l2 : b2 < B) :
    CodeAt w B (.slice (some ⟨b2, 0, none⟩) 1 1) [⟨[c], n⟩] := by
  refine ⟨fun _ => .slice (some ⟨b1, 0, none⟩) 1 1, ⟨_, _, rfl, by simp [maxLen], fun i hi => ⟨b2, 0, rfl, l2, fun j hj => ?_⟩⟩, fun i l hl => ?_⟩
  · obtain rfl : i = 0 := by simpa using hi
    rcases (show j = 0 ∨ j = 1 by omega) with rfl | rfl
    · exact h2.cell 0
    · exact h2.cell 1
  · rcases i with _ | i
    · obtain rfl : (⟨[c], n⟩ : Ln) = l := by simpa using hl
      refine ⟨_, _, rfl, by simp [maxLen], fun k hk => ⟨b1, 0, rfl, l1, fun j hj => ?_⟩⟩
      obtain rfl : k = 0 := by simpa using hk
      rcases (show j = 0 ∨ j = 1 ∨ j = 2 by omega) with rfl | rfl | rfl
      · exact h1.cell 0
      · exact h1.cell 1
      · exact h1.cell 2
    · simp at hl

theorem ex_count : (⟨15, 12, 2, 6, 3, 2, 1, 4, 4, 1, 2, 3⟩ : Pl).countT = (3840, 0) := by decide +kernel
theorem ex_begin : (⟨15, 12, 2, 6, 3, 2, 1, 4, 4, 1, 2, 3⟩ : Pl).beginT = ((⟨6, 0, 0, 0, 0, 3⟩ : St), 0) := by kernel_rfl
theorem ex_safe0 : (⟨15, 12, 2, 6, 3, 2, 1, 4, 4, 1, 2, 3⟩ : Pl).safeT (⟨6, 0, 0, 0, 0, 3⟩ : St) = (true, 0) := by decide +kernel
theorem ex_next1 : nextT (⟨15, 12, 2, 6, 3, 2, 1, 4, 4, 1, 2, 3⟩ : Pl) [⟨[⟨2, 3, 2⟩], 9⟩] (⟨6, 0, 0, 0, 0, 3⟩ : St) ⟨3, 2⟩ = ((⟨4, 1, 3, 0, 2, 0⟩ : St), 2, 0) := by kernel_rfl
theorem ex_next2 : nextT (⟨15, 12, 2, 6, 3, 2, 1, 4, 4, 1, 2, 3⟩ : Pl) [⟨[⟨2, 3, 2⟩], 9⟩] (⟨4, 1, 3, 0, 2, 0⟩ : St) ⟨4, -1⟩ = ((⟨3, 2, 4, 0, 2, 1⟩ : St), 4, 0) := by kernel_rfl
theorem ex_next3 : nextT (⟨15, 12, 2, 6, 3, 2, 1, 4, 4, 1, 2, 3⟩ : Pl) [⟨[⟨2, 3, 2⟩], 9⟩] (⟨3, 2, 4, 0, 2, 1⟩ : St) ⟨0, -1⟩ = ((⟨1, 3, 0, 0, 2, 2⟩ : St), 6, 0) := by kernel_rfl
theorem ex_safe3 : (⟨15, 12, 2, 6, 3, 2, 1, 4, 4, 1, 2, 3⟩ : Pl).safeT (⟨1, 3, 0, 0, 2, 2⟩ : St) = (false, 0) := by decide +kernel
theorem ex_next4 : nextT (⟨15, 12, 2, 6, 3, 2, 1, 4, 4, 1, 2, 3⟩ : Pl) [⟨[⟨2, 3, 2⟩], 9⟩] (⟨64, 0, 0, 0, 0, 0⟩ : St) ⟨0, 0⟩ = ((⟨0, 0, 0, 0, 0, 0⟩ : St), 0, 320) := by kernel_rfl
theorem ex_next5 : nextT (⟨15, 12, 2, 6, 3, 2, 1, 4, 4, 1, 2, 3⟩ : Pl) [⟨[⟨2, 3, 2⟩], 9⟩] (⟨6, 0, 0, 0, 0, 3⟩ : St) ⟨0, -2⟩ = ((⟨0, 0, 0, 0, 0, 0⟩ : St), 0, 1) := by kernel_rfl
theorem ex_check2 : (⟨15, 12, 2, 6, 3, 2, 1, 4, 15, 2, 2, 3⟩ : Pl).checkT = 2 := by decide +kernel
theorem ex_check0 : (⟨0, 0, 0, 0, 0, 0, 0, 0, 0, 0, 0, 0⟩ : Pl).checkT = 320 := by decide +kernel
theorem ex_check : (⟨15, 12, 2, 6, 3, 2, 1, 4, 4, 1, 2, 3⟩ : Pl).checkT = 0 := by decide +kernel

theorem example_any (w : World) : Calls Try.prog 25 #[] w fun e w' => e = .returned (.agg #[.int .i64 15, .int .i64 12, .int .i64 2, .int .i64 6, .int .i64 3, .int .i64 2, .int .i64 1, .int .i64 4, .int .i64 4, .int .i64 1, .int .i64 2, .int .i64 3]) ∧ Below w.heap.size w w' := by
  go_enter Try.func25, Try.ntmps25
  go_wp2
  refine bodyPost_ret (v := .agg #[.int .i64 15, .int .i64 12, .int .i64 2, .int .i64 6, .int .i64 3, .int .i64 2, .int .i64 1, .int .i64 4, .int .i64 4, .int .i64 1, .int .i64 2, .int .i64 3]) (by simp [results, Try.results25, go_sem]) rfl ?_
  exact ⟨rfl, (Below.refl _ _).alloc (Nat.le_refl _) _⟩

set_option maxRecDepth 100000 in
set_option maxHeartbeats 4000000 in
theorem sane_any (w : World) : Calls Try.prog 10 #[] w fun e w' => e = .returned (.bool true) ∧ Below w.heap.size w w' := by
  go_enter Try.func10, Try.ntmps10
  go_wp2_with fail
  refine (example_any _).mono ?_
  rintro e w1 ⟨rfl, hB⟩
  go_wp2_with fail
  refine (count_is ex_count).mono ?_
  rintro e w2 ⟨rfl, hb⟩
  have P := (((((Box.newAt (w := w1) (n := w1.heap.size) [.int .i64 15, .int .i64 12, .int .i64 2, .int .i64 6, .int .i64 3, .int .i64 2, .int .i64 1, .int .i64 4, .int .i64 4, .int .i64 1, .int .i64 2, .int .i64 3] 23 (by simp)).alloc (.cells #[.int .i64 2, .int .i64 3, .int .i64 2] 55)).alloc (.cells #[.slice (some ⟨w1.heap.size + 1, 0, none⟩) 1 1, .int .i64 9] 53)).alloc (.cells #[.slice (some ⟨w1.heap.size + 1 + 1, 0, none⟩) 1 1] 39))).later hb
  have Q1 := ((((Box.newAt (w := (w1.alloc (.cells #[.int .i64 15, .int .i64 12, .int .i64 2, .int .i64 6, .int .i64 3, .int .i64 2, .int .i64 1, .int .i64 4, .int .i64 4, .int .i64 1, .int .i64 2, .int .i64 3] 23))) (n := w1.heap.size + 1) [.int .i64 2, .int .i64 3, .int .i64 2] 55 (by simp)).alloc (.cells #[.slice (some ⟨w1.heap.size + 1, 0, none⟩) 1 1, .int .i64 9] 53)).alloc (.cells #[.slice (some ⟨w1.heap.size + 1 + 1, 0, none⟩) 1 1] 39))).later hb
  have Q2 := (((Box.newAt (w := ((w1.alloc (.cells #[.int .i64 15, .int .i64 12, .int .i64 2, .int .i64 6, .int .i64 3, .int .i64 2, .int .i64 1, .int .i64 4, .int .i64 4, .int .i64 1, .int .i64 2, .int .i64 3] 23)).alloc (.cells #[.int .i64 2, .int .i64 3, .int .i64 2] 55))) (n := w1.heap.size + 1 + 1) [.slice (some ⟨w1.heap.size + 1, 0, none⟩) 1 1, .int .i64 9] 53 (by simp)).alloc (.cells #[.slice (some ⟨w1.heap.size + 1 + 1, 0, none⟩) 1 1] 39))).later hb
  have C := ((Box.newAt (w := (((w1.alloc (.cells #[.int .i64 15, .int .i64 12, .int .i64 2, .int .i64 6, .int .i64 3, .int .i64 2, .int .i64 1, .int .i64 4, .int .i64 4, .int .i64 1, .int .i64 2, .int .i64 3] 23)).alloc (.cells #[.int .i64 2, .int .i64 3, .int .i64 2] 55)).alloc (.cells #[.slice (some ⟨w1.heap.size + 1, 0, none⟩) 1 1, .int .i64 9] 53))) (n := w1.heap.size + 1 + 1 + 1) [.slice (some ⟨w1.heap.size + 1 + 1, 0, none⟩) 1 1] 39 (by simp))).later hb
  have hB := ((((hB.alloc hB.size (.cells #[.int .i64 15, .int .i64 12, .int .i64 2, .int .i64 6, .int .i64 3, .int .i64 2, .int .i64 1, .int .i64 4, .int .i64 4, .int .i64 1, .int .i64 2, .int .i64 3] 23)).alloc (by have := hB.size; simp; omega) (.cells #[.int .i64 2, .int .i64 3, .int .i64 2] 55)).alloc (by have := hB.size; simp; omega) (.cells #[.slice (some ⟨w1.heap.size + 1, 0, none⟩) 1 1, .int .i64 9] 53)).alloc (by have := hB.size; simp; omega) (.cells #[.slice (some ⟨w1.heap.size + 1 + 1, 0, none⟩) 1 1] 39)).trans (hb.mono (by have := hB.size; simp; omega))
  clear hb
  have Pc0 : w2.cell? ⟨w1.heap.size, 0, none⟩ = some (.int .i64 15) := P.cell 0
  have Pf0 : w2.frozen? ⟨w1.heap.size, 0, none⟩ = false := P.free 0
  have Pc1 : w2.cell? ⟨w1.heap.size, 1, none⟩ = some (.int .i64 12) := P.cell 1
  have Pf1 : w2.frozen? ⟨w1.heap.size, 1, none⟩ = false := P.free 1
  have Pc2 : w2.cell? ⟨w1.heap.size, 2, none⟩ = some (.int .i64 2) := P.cell 2
  have Pf2 : w2.frozen? ⟨w1.heap.size, 2, none⟩ = false := P.free 2
  have Pc3 : w2.cell? ⟨w1.heap.size, 3, none⟩ = some (.int .i64 6) := P.cell 3
  have Pf3 : w2.frozen? ⟨w1.heap.size, 3, none⟩ = false := P.free 3
  have Pc4 : w2.cell? ⟨w1.heap.size, 4, none⟩ = some (.int .i64 3) := P.cell 4
  have Pf4 : w2.frozen? ⟨w1.heap.size, 4, none⟩ = false := P.free 4
  have Pc5 : w2.cell? ⟨w1.heap.size, 5, none⟩ = some (.int .i64 2) := P.cell 5
  have Pf5 : w2.frozen? ⟨w1.heap.size, 5, none⟩ = false := P.free 5
  have Pc6 : w2.cell? ⟨w1.heap.size, 6, none⟩ = some (.int .i64 1) := P.cell 6
  have Pf6 : w2.frozen? ⟨w1.heap.size, 6, none⟩ = false := P.free 6
  have Pc7 : w2.cell? ⟨w1.heap.size, 7, none⟩ = some (.int .i64 4) := P.cell 7
  have Pf7 : w2.frozen? ⟨w1.heap.size, 7, none⟩ = false := P.free 7
  have Pc8 : w2.cell? ⟨w1.heap.size, 8, none⟩ = some (.int .i64 4) := P.cell 8
  have Pf8 : w2.frozen? ⟨w1.heap.size, 8, none⟩ = false := P.free 8
  have Pc9 : w2.cell? ⟨w1.heap.size, 9, none⟩ = some (.int .i64 1) := P.cell 9
  have Pf9 : w2.frozen? ⟨w1.heap.size, 9, none⟩ = false := P.free 9
  have Pc10 : w2.cell? ⟨w1.heap.size, 10, none⟩ = some (.int .i64 2) := P.cell 10
  have Pf10 : w2.frozen? ⟨w1.heap.size, 10, none⟩ = false := P.free 10
  have Pc11 : w2.cell? ⟨w1.heap.size, 11, none⟩ = some (.int .i64 3) := P.cell 11
  have Pf11 : w2.frozen? ⟨w1.heap.size, 11, none⟩ = false := P.free 11
  have Pz : w1.heap.size < w2.heap.size := P.lt
  go_wp2_with fail
  refine (begin_is ex_begin).mono ?_
  rintro e w3 ⟨rfl, hb⟩
  clear Pc0 Pf0 Pc1 Pf1 Pc2 Pf2 Pc3 Pf3 Pc4 Pf4 Pc5 Pf5 Pc6 Pf6 Pc7 Pf7 Pc8 Pf8 Pc9 Pf9 Pc10 Pf10 Pc11 Pf11 Pz
  have P := P.later hb
  have Q1 := Q1.later hb
  have Q2 := Q2.later hb
  have C := C.later hb
  have hB := hB.trans (hb.mono hB.size)
  clear hb
  have Pc0 : w3.cell? ⟨w1.heap.size, 0, none⟩ = some (.int .i64 15) := P.cell 0
  have Pf0 : w3.frozen? ⟨w1.heap.size, 0, none⟩ = false := P.free 0
  have Pc1 : w3.cell? ⟨w1.heap.size, 1, none⟩ = some (.int .i64 12) := P.cell 1
  have Pf1 : w3.frozen? ⟨w1.heap.size, 1, none⟩ = false := P.free 1
  have Pc2 : w3.cell? ⟨w1.heap.size, 2, none⟩ = some (.int .i64 2) := P.cell 2
  have Pf2 : w3.frozen? ⟨w1.heap.size, 2, none⟩ = false := P.free 2
  have Pc3 : w3.cell? ⟨w1.heap.size, 3, none⟩ = some (.int .i64 6) := P.cell 3
  have Pf3 : w3.frozen? ⟨w1.heap.size, 3, none⟩ = false := P.free 3
  have Pc4 : w3.cell? ⟨w1.heap.size, 4, none⟩ = some (.int .i64 3) := P.cell 4
  have Pf4 : w3.frozen? ⟨w1.heap.size, 4, none⟩ = false := P.free 4
  have Pc5 : w3.cell? ⟨w1.heap.size, 5, none⟩ = some (.int .i64 2) := P.cell 5
  have Pf5 : w3.frozen? ⟨w1.heap.size, 5, none⟩ = false := P.free 5
  have Pc6 : w3.cell? ⟨w1.heap.size, 6, none⟩ = some (.int .i64 1) := P.cell 6
  have Pf6 : w3.frozen? ⟨w1.heap.size, 6, none⟩ = false := P.free 6
  have Pc7 : w3.cell? ⟨w1.heap.size, 7, none⟩ = some (.int .i64 4) := P.cell 7
  have Pf7 : w3.frozen? ⟨w1.heap.size, 7, none⟩ = false := P.free 7
  have Pc8 : w3.cell? ⟨w1.heap.size, 8, none⟩ = some (.int .i64 4) := P.cell 8
  have Pf8 : w3.frozen? ⟨w1.heap.size, 8, none⟩ = false := P.free 8
  have Pc9 : w3.cell? ⟨w1.heap.size, 9, none⟩ = some (.int .i64 1) := P.cell 9
  have Pf9 : w3.frozen? ⟨w1.heap.size, 9, none⟩ = false := P.free 9
  have Pc10 : w3.cell? ⟨w1.heap.size, 10, none⟩ = some (.int .i64 2) := P.cell 10
  have Pf10 : w3.frozen? ⟨w1.heap.size, 10, none⟩ = false := P.free 10
  have Pc11 : w3.cell? ⟨w1.heap.size, 11, none⟩ = some (.int .i64 3) := P.cell 11
  have Pf11 : w3.frozen? ⟨w1.heap.size, 11, none⟩ = false := P.free 11
  have Pz : w1.heap.size < w3.heap.size := P.lt
  go_wp2_with fail
  refine (safe_is ex_safe0).mono ?_
  rintro e w4 ⟨rfl, hb⟩
  clear Pc0 Pf0 Pc1 Pf1 Pc2 Pf2 Pc3 Pf3 Pc4 Pf4 Pc5 Pf5 Pc6 Pf6 Pc7 Pf7 Pc8 Pf8 Pc9 Pf9 Pc10 Pf10 Pc11 Pf11 Pz
  have S0 := ((Box.newAt (w := w3) (n := w3.heap.size) [.int .i64 6, .int .i64 0, .int .i64 0, .int .i64 0, .int .i64 0, .int .i64 3] 26 (by simp))).later hb
  have P := ((P.alloc (.cells #[.int .i64 6, .int .i64 0, .int .i64 0, .int .i64 0, .int .i64 0, .int .i64 3] 26))).later hb
  have Q1 := ((Q1.alloc (.cells #[.int .i64 6, .int .i64 0, .int .i64 0, .int .i64 0, .int .i64 0, .int .i64 3] 26))).later hb
  have Q2 := ((Q2.alloc (.cells #[.int .i64 6, .int .i64 0, .int .i64 0, .int .i64 0, .int .i64 0, .int .i64 3] 26))).later hb
  have C := ((C.alloc (.cells #[.int .i64 6, .int .i64 0, .int .i64 0, .int .i64 0, .int .i64 0, .int .i64 3] 26))).later hb
  have hB := (hB.alloc hB.size (.cells #[.int .i64 6, .int .i64 0, .int .i64 0, .int .i64 0, .int .i64 0, .int .i64 3] 26)).trans (hb.mono (by have := hB.size; simp; omega))
  clear hb
  have Pc0 : w4.cell? ⟨w1.heap.size, 0, none⟩ = some (.int .i64 15) := P.cell 0
  have Pf0 : w4.frozen? ⟨w1.heap.size, 0, none⟩ = false := P.free 0
  have Pc1 : w4.cell? ⟨w1.heap.size, 1, none⟩ = some (.int .i64 12) := P.cell 1
  have Pf1 : w4.frozen? ⟨w1.heap.size, 1, none⟩ = false := P.free 1
  have Pc2 : w4.cell? ⟨w1.heap.size, 2, none⟩ = some (.int .i64 2) := P.cell 2
  have Pf2 : w4.frozen? ⟨w1.heap.size, 2, none⟩ = false := P.free 2
  have Pc3 : w4.cell? ⟨w1.heap.size, 3, none⟩ = some (.int .i64 6) := P.cell 3
  have Pf3 : w4.frozen? ⟨w1.heap.size, 3, none⟩ = false := P.free 3
  have Pc4 : w4.cell? ⟨w1.heap.size, 4, none⟩ = some (.int .i64 3) := P.cell 4
  have Pf4 : w4.frozen? ⟨w1.heap.size, 4, none⟩ = false := P.free 4
  have Pc5 : w4.cell? ⟨w1.heap.size, 5, none⟩ = some (.int .i64 2) := P.cell 5
  have Pf5 : w4.frozen? ⟨w1.heap.size, 5, none⟩ = false := P.free 5
  have Pc6 : w4.cell? ⟨w1.heap.size, 6, none⟩ = some (.int .i64 1) := P.cell 6
  have Pf6 : w4.frozen? ⟨w1.heap.size, 6, none⟩ = false := P.free 6
  have Pc7 : w4.cell? ⟨w1.heap.size, 7, none⟩ = some (.int .i64 4) := P.cell 7
  have Pf7 : w4.frozen? ⟨w1.heap.size, 7, none⟩ = false := P.free 7
  have Pc8 : w4.cell? ⟨w1.heap.size, 8, none⟩ = some (.int .i64 4) := P.cell 8
  have Pf8 : w4.frozen? ⟨w1.heap.size, 8, none⟩ = false := P.free 8
  have Pc9 : w4.cell? ⟨w1.heap.size, 9, none⟩ = some (.int .i64 1) := P.cell 9
  have Pf9 : w4.frozen? ⟨w1.heap.size, 9, none⟩ = false := P.free 9
  have Pc10 : w4.cell? ⟨w1.heap.size, 10, none⟩ = some (.int .i64 2) := P.cell 10
  have Pf10 : w4.frozen? ⟨w1.heap.size, 10, none⟩ = false := P.free 10
  have Pc11 : w4.cell? ⟨w1.heap.size, 11, none⟩ = some (.int .i64 3) := P.cell 11
  have Pf11 : w4.frozen? ⟨w1.heap.size, 11, none⟩ = false := P.free 11
  have Pz : w1.heap.size < w4.heap.size := P.lt
  have Cc0 : w4.cell? ⟨w1.heap.size + 1 + 1 + 1, 0, none⟩ = some (.slice (some ⟨w1.heap.size + 1 + 1, 0, none⟩) 1 1) := C.cell 0
  have Cf0 : w4.frozen? ⟨w1.heap.size + 1 + 1 + 1, 0, none⟩ = false := C.free 0
  have Cz : w1.heap.size + 1 + 1 + 1 < w4.heap.size := C.lt
  have S0c0 : w4.cell? ⟨w3.heap.size, 0, none⟩ = some (.int .i64 6) := S0.cell 0
  have S0f0 : w4.frozen? ⟨w3.heap.size, 0, none⟩ = false := S0.free 0
  have S0c1 : w4.cell? ⟨w3.heap.size, 1, none⟩ = some (.int .i64 0) := S0.cell 1
  have S0f1 : w4.frozen? ⟨w3.heap.size, 1, none⟩ = false := S0.free 1
  have S0c2 : w4.cell? ⟨w3.heap.size, 2, none⟩ = some (.int .i64 0) := S0.cell 2
  have S0f2 : w4.frozen? ⟨w3.heap.size, 2, none⟩ = false := S0.free 2
  have S0c3 : w4.cell? ⟨w3.heap.size, 3, none⟩ = some (.int .i64 0) := S0.cell 3
  have S0f3 : w4.frozen? ⟨w3.heap.size, 3, none⟩ = false := S0.free 3
  have S0c4 : w4.cell? ⟨w3.heap.size, 4, none⟩ = some (.int .i64 0) := S0.cell 4
  have S0f4 : w4.frozen? ⟨w3.heap.size, 4, none⟩ = false := S0.free 4
  have S0c5 : w4.cell? ⟨w3.heap.size, 5, none⟩ = some (.int .i64 3) := S0.cell 5
  have S0f5 : w4.frozen? ⟨w3.heap.size, 5, none⟩ = false := S0.free 5
  have S0z : w3.heap.size < w4.heap.size := S0.lt
  go_wp2_with fail
  refine (next_is ex_next1 (codeAt_one (c := ⟨2, 3, 2⟩) (n := 9) (Q1) (Q2) (Q1).lt (Q2).lt)).mono ?_
  rintro e w5 ⟨rfl, hb⟩
  clear Pc0 Pf0 Pc1 Pf1 Pc2 Pf2 Pc3 Pf3 Pc4 Pf4 Pc5 Pf5 Pc6 Pf6 Pc7 Pf7 Pc8 Pf8 Pc9 Pf9 Pc10 Pf10 Pc11 Pf11 Pz Cc0 Cf0 Cz S0c0 S0f0 S0c1 S0f1 S0c2 S0f2 S0c3 S0f3 S0c4 S0f4 S0c5 S0f5 S0z
  have P := P.later hb
  have Q1 := Q1.later hb
  have Q2 := Q2.later hb
  have C := C.later hb
  have S0 := S0.later hb
  have hB := hB.trans (hb.mono hB.size)
  clear hb
  have Pc0 : w5.cell? ⟨w1.heap.size, 0, none⟩ = some (.int .i64 15) := P.cell 0
  have Pf0 : w5.frozen? ⟨w1.heap.size, 0, none⟩ = false := P.free 0
  have Pc1 : w5.cell? ⟨w1.heap.size, 1, none⟩ = some (.int .i64 12) := P.cell 1
  have Pf1 : w5.frozen? ⟨w1.heap.size, 1, none⟩ = false := P.free 1
  have Pc2 : w5.cell? ⟨w1.heap.size, 2, none⟩ = some (.int .i64 2) := P.cell 2
  have Pf2 : w5.frozen? ⟨w1.heap.size, 2, none⟩ = false := P.free 2
  have Pc3 : w5.cell? ⟨w1.heap.size, 3, none⟩ = some (.int .i64 6) := P.cell 3
  have Pf3 : w5.frozen? ⟨w1.heap.size, 3, none⟩ = false := P.free 3
  have Pc4 : w5.cell? ⟨w1.heap.size, 4, none⟩ = some (.int .i64 3) := P.cell 4
  have Pf4 : w5.frozen? ⟨w1.heap.size, 4, none⟩ = false := P.free 4
  have Pc5 : w5.cell? ⟨w1.heap.size, 5, none⟩ = some (.int .i64 2) := P.cell 5
  have Pf5 : w5.frozen? ⟨w1.heap.size, 5, none⟩ = false := P.free 5
  have Pc6 : w5.cell? ⟨w1.heap.size, 6, none⟩ = some (.int .i64 1) := P.cell 6
  have Pf6 : w5.frozen? ⟨w1.heap.size, 6, none⟩ = false := P.free 6
  have Pc7 : w5.cell? ⟨w1.heap.size, 7, none⟩ = some (.int .i64 4) := P.cell 7
  have Pf7 : w5.frozen? ⟨w1.heap.size, 7, none⟩ = false := P.free 7
  have Pc8 : w5.cell? ⟨w1.heap.size, 8, none⟩ = some (.int .i64 4) := P.cell 8
  have Pf8 : w5.frozen? ⟨w1.heap.size, 8, none⟩ = false := P.free 8
  have Pc9 : w5.cell? ⟨w1.heap.size, 9, none⟩ = some (.int .i64 1) := P.cell 9
  have Pf9 : w5.frozen? ⟨w1.heap.size, 9, none⟩ = false := P.free 9
  have Pc10 : w5.cell? ⟨w1.heap.size, 10, none⟩ = some (.int .i64 2) := P.cell 10
  have Pf10 : w5.frozen? ⟨w1.heap.size, 10, none⟩ = false := P.free 10
  have Pc11 : w5.cell? ⟨w1.heap.size, 11, none⟩ = some (.int .i64 3) := P.cell 11
  have Pf11 : w5.frozen? ⟨w1.heap.size, 11, none⟩ = false := P.free 11
  have Pz : w1.heap.size < w5.heap.size := P.lt
  have Cc0 : w5.cell? ⟨w1.heap.size + 1 + 1 + 1, 0, none⟩ = some (.slice (some ⟨w1.heap.size + 1 + 1, 0, none⟩) 1 1) := C.cell 0
  have Cf0 : w5.frozen? ⟨w1.heap.size + 1 + 1 + 1, 0, none⟩ = false := C.free 0
  have Cz : w1.heap.size + 1 + 1 + 1 < w5.heap.size := C.lt
  go_wp2_with fail
  refine (next_is ex_next2 (codeAt_one (c := ⟨2, 3, 2⟩) (n := 9) (Q1.alloc _) (Q2.alloc _) (Q1.alloc _).lt (Q2.alloc _).lt)).mono ?_
  rintro e w6 ⟨rfl, hb⟩
  clear Pc0 Pf0 Pc1 Pf1 Pc2 Pf2 Pc3 Pf3 Pc4 Pf4 Pc5 Pf5 Pc6 Pf6 Pc7 Pf7 Pc8 Pf8 Pc9 Pf9 Pc10 Pf10 Pc11 Pf11 Pz Cc0 Cf0 Cz
  have S1 := ((Box.newAt (w := w5) (n := w5.heap.size) [.int .i64 4, .int .i64 1, .int .i64 3, .int .i64 0, .int .i64 2, .int .i64 0] 26 (by simp))).later hb
  have P := ((P.alloc (.cells #[.int .i64 4, .int .i64 1, .int .i64 3, .int .i64 0, .int .i64 2, .int .i64 0] 26))).later hb
  have Q1 := ((Q1.alloc (.cells #[.int .i64 4, .int .i64 1, .int .i64 3, .int .i64 0, .int .i64 2, .int .i64 0] 26))).later hb
  have Q2 := ((Q2.alloc (.cells #[.int .i64 4, .int .i64 1, .int .i64 3, .int .i64 0, .int .i64 2, .int .i64 0] 26))).later hb
  have C := ((C.alloc (.cells #[.int .i64 4, .int .i64 1, .int .i64 3, .int .i64 0, .int .i64 2, .int .i64 0] 26))).later hb
  have S0 := ((S0.alloc (.cells #[.int .i64 4, .int .i64 1, .int .i64 3, .int .i64 0, .int .i64 2, .int .i64 0] 26))).later hb
  have hB := (hB.alloc hB.size (.cells #[.int .i64 4, .int .i64 1, .int .i64 3, .int .i64 0, .int .i64 2, .int .i64 0] 26)).trans (hb.mono (by have := hB.size; simp; omega))
  clear hb
  have Pc0 : w6.cell? ⟨w1.heap.size, 0, none⟩ = some (.int .i64 15) := P.cell 0
  have Pf0 : w6.frozen? ⟨w1.heap.size, 0, none⟩ = false := P.free 0
  have Pc1 : w6.cell? ⟨w1.heap.size, 1, none⟩ = some (.int .i64 12) := P.cell 1
  have Pf1 : w6.frozen? ⟨w1.heap.size, 1, none⟩ = false := P.free 1
  have Pc2 : w6.cell? ⟨w1.heap.size, 2, none⟩ = some (.int .i64 2) := P.cell 2
  have Pf2 : w6.frozen? ⟨w1.heap.size, 2, none⟩ = false := P.free 2
  have Pc3 : w6.cell? ⟨w1.heap.size, 3, none⟩ = some (.int .i64 6) := P.cell 3
  have Pf3 : w6.frozen? ⟨w1.heap.size, 3, none⟩ = false := P.free 3
  have Pc4 : w6.cell? ⟨w1.heap.size, 4, none⟩ = some (.int .i64 3) := P.cell 4
  have Pf4 : w6.frozen? ⟨w1.heap.size, 4, none⟩ = false := P.free 4
  have Pc5 : w6.cell? ⟨w1.heap.size, 5, none⟩ = some (.int .i64 2) := P.cell 5
  have Pf5 : w6.frozen? ⟨w1.heap.size, 5, none⟩ = false := P.free 5
  have Pc6 : w6.cell? ⟨w1.heap.size, 6, none⟩ = some (.int .i64 1) := P.cell 6
  have Pf6 : w6.frozen? ⟨w1.heap.size, 6, none⟩ = false := P.free 6
  have Pc7 : w6.cell? ⟨w1.heap.size, 7, none⟩ = some (.int .i64 4) := P.cell 7
  have Pf7 : w6.frozen? ⟨w1.heap.size, 7, none⟩ = false := P.free 7
  have Pc8 : w6.cell? ⟨w1.heap.size, 8, none⟩ = some (.int .i64 4) := P.cell 8
  have Pf8 : w6.frozen? ⟨w1.heap.size, 8, none⟩ = false := P.free 8
  have Pc9 : w6.cell? ⟨w1.heap.size, 9, none⟩ = some (.int .i64 1) := P.cell 9
  have Pf9 : w6.frozen? ⟨w1.heap.size, 9, none⟩ = false := P.free 9
  have Pc10 : w6.cell? ⟨w1.heap.size, 10, none⟩ = some (.int .i64 2) := P.cell 10
  have Pf10 : w6.frozen? ⟨w1.heap.size, 10, none⟩ = false := P.free 10
  have Pc11 : w6.cell? ⟨w1.heap.size, 11, none⟩ = some (.int .i64 3) := P.cell 11
  have Pf11 : w6.frozen? ⟨w1.heap.size, 11, none⟩ = false := P.free 11
  have Pz : w1.heap.size < w6.heap.size := P.lt
  have Cc0 : w6.cell? ⟨w1.heap.size + 1 + 1 + 1, 0, none⟩ = some (.slice (some ⟨w1.heap.size + 1 + 1, 0, none⟩) 1 1) := C.cell 0
  have Cf0 : w6.frozen? ⟨w1.heap.size + 1 + 1 + 1, 0, none⟩ = false := C.free 0
  have Cz : w1.heap.size + 1 + 1 + 1 < w6.heap.size := C.lt
  go_wp2_with fail
  refine (next_is ex_next3 (codeAt_one (c := ⟨2, 3, 2⟩) (n := 9) (Q1.alloc _) (Q2.alloc _) (Q1.alloc _).lt (Q2.alloc _).lt)).mono ?_
  rintro e w7 ⟨rfl, hb⟩
  clear Pc0 Pf0 Pc1 Pf1 Pc2 Pf2 Pc3 Pf3 Pc4 Pf4 Pc5 Pf5 Pc6 Pf6 Pc7 Pf7 Pc8 Pf8 Pc9 Pf9 Pc10 Pf10 Pc11 Pf11 Pz Cc0 Cf0 Cz
  have S2 := ((Box.newAt (w := w6) (n := w6.heap.size) [.int .i64 3, .int .i64 2, .int .i64 4, .int .i64 0, .int .i64 2, .int .i64 1] 26 (by simp))).later hb
  have P := ((P.alloc (.cells #[.int .i64 3, .int .i64 2, .int .i64 4, .int .i64 0, .int .i64 2, .int .i64 1] 26))).later hb
  have Q1 := ((Q1.alloc (.cells #[.int .i64 3, .int .i64 2, .int .i64 4, .int .i64 0, .int .i64 2, .int .i64 1] 26))).later hb
  have Q2 := ((Q2.alloc (.cells #[.int .i64 3, .int .i64 2, .int .i64 4, .int .i64 0, .int .i64 2, .int .i64 1] 26))).later hb
  have C := ((C.alloc (.cells #[.int .i64 3, .int .i64 2, .int .i64 4, .int .i64 0, .int .i64 2, .int .i64 1] 26))).later hb
  have S0 := ((S0.alloc (.cells #[.int .i64 3, .int .i64 2, .int .i64 4, .int .i64 0, .int .i64 2, .int .i64 1] 26))).later hb
  have S1 := ((S1.alloc (.cells #[.int .i64 3, .int .i64 2, .int .i64 4, .int .i64 0, .int .i64 2, .int .i64 1] 26))).later hb
  have hB := (hB.alloc hB.size (.cells #[.int .i64 3, .int .i64 2, .int .i64 4, .int .i64 0, .int .i64 2, .int .i64 1] 26)).trans (hb.mono (by have := hB.size; simp; omega))
  clear hb
  have Pc0 : w7.cell? ⟨w1.heap.size, 0, none⟩ = some (.int .i64 15) := P.cell 0
  have Pf0 : w7.frozen? ⟨w1.heap.size, 0, none⟩ = false := P.free 0
  have Pc1 : w7.cell? ⟨w1.heap.size, 1, none⟩ = some (.int .i64 12) := P.cell 1
  have Pf1 : w7.frozen? ⟨w1.heap.size, 1, none⟩ = false := P.free 1
  have Pc2 : w7.cell? ⟨w1.heap.size, 2, none⟩ = some (.int .i64 2) := P.cell 2
  have Pf2 : w7.frozen? ⟨w1.heap.size, 2, none⟩ = false := P.free 2
  have Pc3 : w7.cell? ⟨w1.heap.size, 3, none⟩ = some (.int .i64 6) := P.cell 3
  have Pf3 : w7.frozen? ⟨w1.heap.size, 3, none⟩ = false := P.free 3
  have Pc4 : w7.cell? ⟨w1.heap.size, 4, none⟩ = some (.int .i64 3) := P.cell 4
  have Pf4 : w7.frozen? ⟨w1.heap.size, 4, none⟩ = false := P.free 4
  have Pc5 : w7.cell? ⟨w1.heap.size, 5, none⟩ = some (.int .i64 2) := P.cell 5
  have Pf5 : w7.frozen? ⟨w1.heap.size, 5, none⟩ = false := P.free 5
  have Pc6 : w7.cell? ⟨w1.heap.size, 6, none⟩ = some (.int .i64 1) := P.cell 6
  have Pf6 : w7.frozen? ⟨w1.heap.size, 6, none⟩ = false := P.free 6
  have Pc7 : w7.cell? ⟨w1.heap.size, 7, none⟩ = some (.int .i64 4) := P.cell 7
  have Pf7 : w7.frozen? ⟨w1.heap.size, 7, none⟩ = false := P.free 7
  have Pc8 : w7.cell? ⟨w1.heap.size, 8, none⟩ = some (.int .i64 4) := P.cell 8
  have Pf8 : w7.frozen? ⟨w1.heap.size, 8, none⟩ = false := P.free 8
  have Pc9 : w7.cell? ⟨w1.heap.size, 9, none⟩ = some (.int .i64 1) := P.cell 9
  have Pf9 : w7.frozen? ⟨w1.heap.size, 9, none⟩ = false := P.free 9
  have Pc10 : w7.cell? ⟨w1.heap.size, 10, none⟩ = some (.int .i64 2) := P.cell 10
  have Pf10 : w7.frozen? ⟨w1.heap.size, 10, none⟩ = false := P.free 10
  have Pc11 : w7.cell? ⟨w1.heap.size, 11, none⟩ = some (.int .i64 3) := P.cell 11
  have Pf11 : w7.frozen? ⟨w1.heap.size, 11, none⟩ = false := P.free 11
  have Pz : w1.heap.size < w7.heap.size := P.lt
  go_wp2_with fail
  refine (safe_is ex_safe3).mono ?_
  rintro e w8 ⟨rfl, hb⟩
  clear Pc0 Pf0 Pc1 Pf1 Pc2 Pf2 Pc3 Pf3 Pc4 Pf4 Pc5 Pf5 Pc6 Pf6 Pc7 Pf7 Pc8 Pf8 Pc9 Pf9 Pc10 Pf10 Pc11 Pf11 Pz
  have S3 := ((Box.newAt (w := w7) (n := w7.heap.size) [.int .i64 1, .int .i64 3, .int .i64 0, .int .i64 0, .int .i64 2, .int .i64 2] 26 (by simp))).later hb
  have P := ((P.alloc (.cells #[.int .i64 1, .int .i64 3, .int .i64 0, .int .i64 0, .int .i64 2, .int .i64 2] 26))).later hb
  have Q1 := ((Q1.alloc (.cells #[.int .i64 1, .int .i64 3, .int .i64 0, .int .i64 0, .int .i64 2, .int .i64 2] 26))).later hb
  have Q2 := ((Q2.alloc (.cells #[.int .i64 1, .int .i64 3, .int .i64 0, .int .i64 0, .int .i64 2, .int .i64 2] 26))).later hb
  have C := ((C.alloc (.cells #[.int .i64 1, .int .i64 3, .int .i64 0, .int .i64 0, .int .i64 2, .int .i64 2] 26))).later hb
  have S0 := ((S0.alloc (.cells #[.int .i64 1, .int .i64 3, .int .i64 0, .int .i64 0, .int .i64 2, .int .i64 2] 26))).later hb
  have S1 := ((S1.alloc (.cells #[.int .i64 1, .int .i64 3, .int .i64 0, .int .i64 0, .int .i64 2, .int .i64 2] 26))).later hb
  have S2 := ((S2.alloc (.cells #[.int .i64 1, .int .i64 3, .int .i64 0, .int .i64 0, .int .i64 2, .int .i64 2] 26))).later hb
  have hB := (hB.alloc hB.size (.cells #[.int .i64 1, .int .i64 3, .int .i64 0, .int .i64 0, .int .i64 2, .int .i64 2] 26)).trans (hb.mono (by have := hB.size; simp; omega))
  clear hb
  have Pc0 : w8.cell? ⟨w1.heap.size, 0, none⟩ = some (.int .i64 15) := P.cell 0
  have Pf0 : w8.frozen? ⟨w1.heap.size, 0, none⟩ = false := P.free 0
  have Pc1 : w8.cell? ⟨w1.heap.size, 1, none⟩ = some (.int .i64 12) := P.cell 1
  have Pf1 : w8.frozen? ⟨w1.heap.size, 1, none⟩ = false := P.free 1
  have Pc2 : w8.cell? ⟨w1.heap.size, 2, none⟩ = some (.int .i64 2) := P.cell 2
  have Pf2 : w8.frozen? ⟨w1.heap.size, 2, none⟩ = false := P.free 2
  have Pc3 : w8.cell? ⟨w1.heap.size, 3, none⟩ = some (.int .i64 6) := P.cell 3
  have Pf3 : w8.frozen? ⟨w1.heap.size, 3, none⟩ = false := P.free 3
  have Pc4 : w8.cell? ⟨w1.heap.size, 4, none⟩ = some (.int .i64 3) := P.cell 4
  have Pf4 : w8.frozen? ⟨w1.heap.size, 4, none⟩ = false := P.free 4
  have Pc5 : w8.cell? ⟨w1.heap.size, 5, none⟩ = some (.int .i64 2) := P.cell 5
  have Pf5 : w8.frozen? ⟨w1.heap.size, 5, none⟩ = false := P.free 5
  have Pc6 : w8.cell? ⟨w1.heap.size, 6, none⟩ = some (.int .i64 1) := P.cell 6
  have Pf6 : w8.frozen? ⟨w1.heap.size, 6, none⟩ = false := P.free 6
  have Pc7 : w8.cell? ⟨w1.heap.size, 7, none⟩ = some (.int .i64 4) := P.cell 7
  have Pf7 : w8.frozen? ⟨w1.heap.size, 7, none⟩ = false := P.free 7
  have Pc8 : w8.cell? ⟨w1.heap.size, 8, none⟩ = some (.int .i64 4) := P.cell 8
  have Pf8 : w8.frozen? ⟨w1.heap.size, 8, none⟩ = false := P.free 8
  have Pc9 : w8.cell? ⟨w1.heap.size, 9, none⟩ = some (.int .i64 1) := P.cell 9
  have Pf9 : w8.frozen? ⟨w1.heap.size, 9, none⟩ = false := P.free 9
  have Pc10 : w8.cell? ⟨w1.heap.size, 10, none⟩ = some (.int .i64 2) := P.cell 10
  have Pf10 : w8.frozen? ⟨w1.heap.size, 10, none⟩ = false := P.free 10
  have Pc11 : w8.cell? ⟨w1.heap.size, 11, none⟩ = some (.int .i64 3) := P.cell 11
  have Pf11 : w8.frozen? ⟨w1.heap.size, 11, none⟩ = false := P.free 11
  have Pz : w1.heap.size < w8.heap.size := P.lt
  have Cc0 : w8.cell? ⟨w1.heap.size + 1 + 1 + 1, 0, none⟩ = some (.slice (some ⟨w1.heap.size + 1 + 1, 0, none⟩) 1 1) := C.cell 0
  have Cf0 : w8.frozen? ⟨w1.heap.size + 1 + 1 + 1, 0, none⟩ = false := C.free 0
  have Cz : w1.heap.size + 1 + 1 + 1 < w8.heap.size := C.lt
  go_wp2_with fail
  refine (next_is ex_next4 (codeAt_one (c := ⟨2, 3, 2⟩) (n := 9) (Q1) (Q2) (Q1).lt (Q2).lt)).mono ?_
  rintro e w9 ⟨rfl, hb⟩
  clear Pc0 Pf0 Pc1 Pf1 Pc2 Pf2 Pc3 Pf3 Pc4 Pf4 Pc5 Pf5 Pc6 Pf6 Pc7 Pf7 Pc8 Pf8 Pc9 Pf9 Pc10 Pf10 Pc11 Pf11 Pz Cc0 Cf0 Cz
  have P := P.later hb
  have Q1 := Q1.later hb
  have Q2 := Q2.later hb
  have C := C.later hb
  have S0 := S0.later hb
  have S1 := S1.later hb
  have S2 := S2.later hb
  have S3 := S3.later hb
  have hB := hB.trans (hb.mono hB.size)
  clear hb
  have Pc0 : w9.cell? ⟨w1.heap.size, 0, none⟩ = some (.int .i64 15) := P.cell 0
  have Pf0 : w9.frozen? ⟨w1.heap.size, 0, none⟩ = false := P.free 0
  have Pc1 : w9.cell? ⟨w1.heap.size, 1, none⟩ = some (.int .i64 12) := P.cell 1
  have Pf1 : w9.frozen? ⟨w1.heap.size, 1, none⟩ = false := P.free 1
  have Pc2 : w9.cell? ⟨w1.heap.size, 2, none⟩ = some (.int .i64 2) := P.cell 2
  have Pf2 : w9.frozen? ⟨w1.heap.size, 2, none⟩ = false := P.free 2
  have Pc3 : w9.cell? ⟨w1.heap.size, 3, none⟩ = some (.int .i64 6) := P.cell 3
  have Pf3 : w9.frozen? ⟨w1.heap.size, 3, none⟩ = false := P.free 3
  have Pc4 : w9.cell? ⟨w1.heap.size, 4, none⟩ = some (.int .i64 3) := P.cell 4
  have Pf4 : w9.frozen? ⟨w1.heap.size, 4, none⟩ = false := P.free 4
  have Pc5 : w9.cell? ⟨w1.heap.size, 5, none⟩ = some (.int .i64 2) := P.cell 5
  have Pf5 : w9.frozen? ⟨w1.heap.size, 5, none⟩ = false := P.free 5
  have Pc6 : w9.cell? ⟨w1.heap.size, 6, none⟩ = some (.int .i64 1) := P.cell 6
  have Pf6 : w9.frozen? ⟨w1.heap.size, 6, none⟩ = false := P.free 6
  have Pc7 : w9.cell? ⟨w1.heap.size, 7, none⟩ = some (.int .i64 4) := P.cell 7
  have Pf7 : w9.frozen? ⟨w1.heap.size, 7, none⟩ = false := P.free 7
  have Pc8 : w9.cell? ⟨w1.heap.size, 8, none⟩ = some (.int .i64 4) := P.cell 8
  have Pf8 : w9.frozen? ⟨w1.heap.size, 8, none⟩ = false := P.free 8
  have Pc9 : w9.cell? ⟨w1.heap.size, 9, none⟩ = some (.int .i64 1) := P.cell 9
  have Pf9 : w9.frozen? ⟨w1.heap.size, 9, none⟩ = false := P.free 9
  have Pc10 : w9.cell? ⟨w1.heap.size, 10, none⟩ = some (.int .i64 2) := P.cell 10
  have Pf10 : w9.frozen? ⟨w1.heap.size, 10, none⟩ = false := P.free 10
  have Pc11 : w9.cell? ⟨w1.heap.size, 11, none⟩ = some (.int .i64 3) := P.cell 11
  have Pf11 : w9.frozen? ⟨w1.heap.size, 11, none⟩ = false := P.free 11
  have Pz : w1.heap.size < w9.heap.size := P.lt
  have Cc0 : w9.cell? ⟨w1.heap.size + 1 + 1 + 1, 0, none⟩ = some (.slice (some ⟨w1.heap.size + 1 + 1, 0, none⟩) 1 1) := C.cell 0
  have Cf0 : w9.frozen? ⟨w1.heap.size + 1 + 1 + 1, 0, none⟩ = false := C.free 0
  have Cz : w1.heap.size + 1 + 1 + 1 < w9.heap.size := C.lt
  have S0c0 : w9.cell? ⟨w3.heap.size, 0, none⟩ = some (.int .i64 6) := S0.cell 0
  have S0f0 : w9.frozen? ⟨w3.heap.size, 0, none⟩ = false := S0.free 0
  have S0c1 : w9.cell? ⟨w3.heap.size, 1, none⟩ = some (.int .i64 0) := S0.cell 1
  have S0f1 : w9.frozen? ⟨w3.heap.size, 1, none⟩ = false := S0.free 1
  have S0c2 : w9.cell? ⟨w3.heap.size, 2, none⟩ = some (.int .i64 0) := S0.cell 2
  have S0f2 : w9.frozen? ⟨w3.heap.size, 2, none⟩ = false := S0.free 2
  have S0c3 : w9.cell? ⟨w3.heap.size, 3, none⟩ = some (.int .i64 0) := S0.cell 3
  have S0f3 : w9.frozen? ⟨w3.heap.size, 3, none⟩ = false := S0.free 3
  have S0c4 : w9.cell? ⟨w3.heap.size, 4, none⟩ = some (.int .i64 0) := S0.cell 4
  have S0f4 : w9.frozen? ⟨w3.heap.size, 4, none⟩ = false := S0.free 4
  have S0c5 : w9.cell? ⟨w3.heap.size, 5, none⟩ = some (.int .i64 3) := S0.cell 5
  have S0f5 : w9.frozen? ⟨w3.heap.size, 5, none⟩ = false := S0.free 5
  have S0z : w3.heap.size < w9.heap.size := S0.lt
  go_wp2_with fail
  refine (next_is ex_next5 (codeAt_one (c := ⟨2, 3, 2⟩) (n := 9) (Q1.alloc _) (Q2.alloc _) (Q1.alloc _).lt (Q2.alloc _).lt)).mono ?_
  rintro e w10 ⟨rfl, hb⟩
  clear Pc0 Pf0 Pc1 Pf1 Pc2 Pf2 Pc3 Pf3 Pc4 Pf4 Pc5 Pf5 Pc6 Pf6 Pc7 Pf7 Pc8 Pf8 Pc9 Pf9 Pc10 Pf10 Pc11 Pf11 Pz Cc0 Cf0 Cz S0c0 S0f0 S0c1 S0f1 S0c2 S0f2 S0c3 S0f3 S0c4 S0f4 S0c5 S0f5 S0z
  have T4 := ((Box.newAt (w := w9) (n := w9.heap.size) [.int .i64 0, .int .i64 0, .int .i64 0, .int .i64 0, .int .i64 0, .int .i64 0] 26 (by simp))).later hb
  have P := ((P.alloc (.cells #[.int .i64 0, .int .i64 0, .int .i64 0, .int .i64 0, .int .i64 0, .int .i64 0] 26))).later hb
  have Q1 := ((Q1.alloc (.cells #[.int .i64 0, .int .i64 0, .int .i64 0, .int .i64 0, .int .i64 0, .int .i64 0] 26))).later hb
  have Q2 := ((Q2.alloc (.cells #[.int .i64 0, .int .i64 0, .int .i64 0, .int .i64 0, .int .i64 0, .int .i64 0] 26))).later hb
  have C := ((C.alloc (.cells #[.int .i64 0, .int .i64 0, .int .i64 0, .int .i64 0, .int .i64 0, .int .i64 0] 26))).later hb
  have S0 := ((S0.alloc (.cells #[.int .i64 0, .int .i64 0, .int .i64 0, .int .i64 0, .int .i64 0, .int .i64 0] 26))).later hb
  have S1 := ((S1.alloc (.cells #[.int .i64 0, .int .i64 0, .int .i64 0, .int .i64 0, .int .i64 0, .int .i64 0] 26))).later hb
  have S2 := ((S2.alloc (.cells #[.int .i64 0, .int .i64 0, .int .i64 0, .int .i64 0, .int .i64 0, .int .i64 0] 26))).later hb
  have S3 := ((S3.alloc (.cells #[.int .i64 0, .int .i64 0, .int .i64 0, .int .i64 0, .int .i64 0, .int .i64 0] 26))).later hb
  have hB := (hB.alloc hB.size (.cells #[.int .i64 0, .int .i64 0, .int .i64 0, .int .i64 0, .int .i64 0, .int .i64 0] 26)).trans (hb.mono (by have := hB.size; simp; omega))
  clear hb
  have Pc0 : w10.cell? ⟨w1.heap.size, 0, none⟩ = some (.int .i64 15) := P.cell 0
  have Pf0 : w10.frozen? ⟨w1.heap.size, 0, none⟩ = false := P.free 0
  have Pc1 : w10.cell? ⟨w1.heap.size, 1, none⟩ = some (.int .i64 12) := P.cell 1
  have Pf1 : w10.frozen? ⟨w1.heap.size, 1, none⟩ = false := P.free 1
  have Pc2 : w10.cell? ⟨w1.heap.size, 2, none⟩ = some (.int .i64 2) := P.cell 2
  have Pf2 : w10.frozen? ⟨w1.heap.size, 2, none⟩ = false := P.free 2
  have Pc3 : w10.cell? ⟨w1.heap.size, 3, none⟩ = some (.int .i64 6) := P.cell 3
  have Pf3 : w10.frozen? ⟨w1.heap.size, 3, none⟩ = false := P.free 3
  have Pc4 : w10.cell? ⟨w1.heap.size, 4, none⟩ = some (.int .i64 3) := P.cell 4
  have Pf4 : w10.frozen? ⟨w1.heap.size, 4, none⟩ = false := P.free 4
  have Pc5 : w10.cell? ⟨w1.heap.size, 5, none⟩ = some (.int .i64 2) := P.cell 5
  have Pf5 : w10.frozen? ⟨w1.heap.size, 5, none⟩ = false := P.free 5
  have Pc6 : w10.cell? ⟨w1.heap.size, 6, none⟩ = some (.int .i64 1) := P.cell 6
  have Pf6 : w10.frozen? ⟨w1.heap.size, 6, none⟩ = false := P.free 6
  have Pc7 : w10.cell? ⟨w1.heap.size, 7, none⟩ = some (.int .i64 4) := P.cell 7
  have Pf7 : w10.frozen? ⟨w1.heap.size, 7, none⟩ = false := P.free 7
  have Pc8 : w10.cell? ⟨w1.heap.size, 8, none⟩ = some (.int .i64 4) := P.cell 8
  have Pf8 : w10.frozen? ⟨w1.heap.size, 8, none⟩ = false := P.free 8
  have Pc9 : w10.cell? ⟨w1.heap.size, 9, none⟩ = some (.int .i64 1) := P.cell 9
  have Pf9 : w10.frozen? ⟨w1.heap.size, 9, none⟩ = false := P.free 9
  have Pc10 : w10.cell? ⟨w1.heap.size, 10, none⟩ = some (.int .i64 2) := P.cell 10
  have Pf10 : w10.frozen? ⟨w1.heap.size, 10, none⟩ = false := P.free 10
  have Pc11 : w10.cell? ⟨w1.heap.size, 11, none⟩ = some (.int .i64 3) := P.cell 11
  have Pf11 : w10.frozen? ⟨w1.heap.size, 11, none⟩ = false := P.free 11
  have Pz : w1.heap.size < w10.heap.size := P.lt
  go_wp2_with fail
  refine (check_at ex_check2 _).mono ?_
  rintro e w11 ⟨rfl, hb⟩
  clear Pc0 Pf0 Pc1 Pf1 Pc2 Pf2 Pc3 Pf3 Pc4 Pf4 Pc5 Pf5 Pc6 Pf6 Pc7 Pf7 Pc8 Pf8 Pc9 Pf9 Pc10 Pf10 Pc11 Pf11 Pz
  have T5 := (((Box.newAt (w := w10) (n := w10.heap.size) [.int .i64 0, .int .i64 0, .int .i64 0, .int .i64 0, .int .i64 0, .int .i64 0] 26 (by simp)).alloc (.cells #[.int .i64 15, .int .i64 12, .int .i64 2, .int .i64 6, .int .i64 3, .int .i64 2, .int .i64 1, .int .i64 4, .int .i64 15, .int .i64 2, .int .i64 2, .int .i64 3] 23))).later hb
  have P2 := ((Box.newAt (w := (w10.alloc (.cells #[.int .i64 0, .int .i64 0, .int .i64 0, .int .i64 0, .int .i64 0, .int .i64 0] 26))) (n := w10.heap.size + 1) [.int .i64 15, .int .i64 12, .int .i64 2, .int .i64 6, .int .i64 3, .int .i64 2, .int .i64 1, .int .i64 4, .int .i64 15, .int .i64 2, .int .i64 2, .int .i64 3] 23 (by simp))).later hb
  have P := (((P.alloc (.cells #[.int .i64 0, .int .i64 0, .int .i64 0, .int .i64 0, .int .i64 0, .int .i64 0] 26)).alloc (.cells #[.int .i64 15, .int .i64 12, .int .i64 2, .int .i64 6, .int .i64 3, .int .i64 2, .int .i64 1, .int .i64 4, .int .i64 15, .int .i64 2, .int .i64 2, .int .i64 3] 23))).later hb
  have Q1 := (((Q1.alloc (.cells #[.int .i64 0, .int .i64 0, .int .i64 0, .int .i64 0, .int .i64 0, .int .i64 0] 26)).alloc (.cells #[.int .i64 15, .int .i64 12, .int .i64 2, .int .i64 6, .int .i64 3, .int .i64 2, .int .i64 1, .int .i64 4, .int .i64 15, .int .i64 2, .int .i64 2, .int .i64 3] 23))).later hb
  have Q2 := (((Q2.alloc (.cells #[.int .i64 0, .int .i64 0, .int .i64 0, .int .i64 0, .int .i64 0, .int .i64 0] 26)).alloc (.cells #[.int .i64 15, .int .i64 12, .int .i64 2, .int .i64 6, .int .i64 3, .int .i64 2, .int .i64 1, .int .i64 4, .int .i64 15, .int .i64 2, .int .i64 2, .int .i64 3] 23))).later hb
  have C := (((C.alloc (.cells #[.int .i64 0, .int .i64 0, .int .i64 0, .int .i64 0, .int .i64 0, .int .i64 0] 26)).alloc (.cells #[.int .i64 15, .int .i64 12, .int .i64 2, .int .i64 6, .int .i64 3, .int .i64 2, .int .i64 1, .int .i64 4, .int .i64 15, .int .i64 2, .int .i64 2, .int .i64 3] 23))).later hb
  have S0 := (((S0.alloc (.cells #[.int .i64 0, .int .i64 0, .int .i64 0, .int .i64 0, .int .i64 0, .int .i64 0] 26)).alloc (.cells #[.int .i64 15, .int .i64 12, .int .i64 2, .int .i64 6, .int .i64 3, .int .i64 2, .int .i64 1, .int .i64 4, .int .i64 15, .int .i64 2, .int .i64 2, .int .i64 3] 23))).later hb
  have S1 := (((S1.alloc (.cells #[.int .i64 0, .int .i64 0, .int .i64 0, .int .i64 0, .int .i64 0, .int .i64 0] 26)).alloc (.cells #[.int .i64 15, .int .i64 12, .int .i64 2, .int .i64 6, .int .i64 3, .int .i64 2, .int .i64 1, .int .i64 4, .int .i64 15, .int .i64 2, .int .i64 2, .int .i64 3] 23))).later hb
  have S2 := (((S2.alloc (.cells #[.int .i64 0, .int .i64 0, .int .i64 0, .int .i64 0, .int .i64 0, .int .i64 0] 26)).alloc (.cells #[.int .i64 15, .int .i64 12, .int .i64 2, .int .i64 6, .int .i64 3, .int .i64 2, .int .i64 1, .int .i64 4, .int .i64 15, .int .i64 2, .int .i64 2, .int .i64 3] 23))).later hb
  have S3 := (((S3.alloc (.cells #[.int .i64 0, .int .i64 0, .int .i64 0, .int .i64 0, .int .i64 0, .int .i64 0] 26)).alloc (.cells #[.int .i64 15, .int .i64 12, .int .i64 2, .int .i64 6, .int .i64 3, .int .i64 2, .int .i64 1, .int .i64 4, .int .i64 15, .int .i64 2, .int .i64 2, .int .i64 3] 23))).later hb
  have T4 := (((T4.alloc (.cells #[.int .i64 0, .int .i64 0, .int .i64 0, .int .i64 0, .int .i64 0, .int .i64 0] 26)).alloc (.cells #[.int .i64 15, .int .i64 12, .int .i64 2, .int .i64 6, .int .i64 3, .int .i64 2, .int .i64 1, .int .i64 4, .int .i64 15, .int .i64 2, .int .i64 2, .int .i64 3] 23))).later hb
  have hB := ((hB.alloc hB.size (.cells #[.int .i64 0, .int .i64 0, .int .i64 0, .int .i64 0, .int .i64 0, .int .i64 0] 26)).alloc (by have := hB.size; simp; omega) (.cells #[.int .i64 15, .int .i64 12, .int .i64 2, .int .i64 6, .int .i64 3, .int .i64 2, .int .i64 1, .int .i64 4, .int .i64 15, .int .i64 2, .int .i64 2, .int .i64 3] 23)).trans (hb.mono (by have := hB.size; simp; omega))
  clear hb
  go_wp2_with fail
  refine (check_at ex_check0 _).mono ?_
  rintro e w12 ⟨rfl, hb⟩
  have P := P.later hb
  have Q1 := Q1.later hb
  have Q2 := Q2.later hb
  have C := C.later hb
  have S0 := S0.later hb
  have S1 := S1.later hb
  have S2 := S2.later hb
  have S3 := S3.later hb
  have T4 := T4.later hb
  have T5 := T5.later hb
  have P2 := P2.later hb
  have hB := hB.trans (hb.mono hB.size)
  clear hb
  have Pc0 : w12.cell? ⟨w1.heap.size, 0, none⟩ = some (.int .i64 15) := P.cell 0
  have Pf0 : w12.frozen? ⟨w1.heap.size, 0, none⟩ = false := P.free 0
  have Pc1 : w12.cell? ⟨w1.heap.size, 1, none⟩ = some (.int .i64 12) := P.cell 1
  have Pf1 : w12.frozen? ⟨w1.heap.size, 1, none⟩ = false := P.free 1
  have Pc2 : w12.cell? ⟨w1.heap.size, 2, none⟩ = some (.int .i64 2) := P.cell 2
  have Pf2 : w12.frozen? ⟨w1.heap.size, 2, none⟩ = false := P.free 2
  have Pc3 : w12.cell? ⟨w1.heap.size, 3, none⟩ = some (.int .i64 6) := P.cell 3
  have Pf3 : w12.frozen? ⟨w1.heap.size, 3, none⟩ = false := P.free 3
  have Pc4 : w12.cell? ⟨w1.heap.size, 4, none⟩ = some (.int .i64 3) := P.cell 4
  have Pf4 : w12.frozen? ⟨w1.heap.size, 4, none⟩ = false := P.free 4
  have Pc5 : w12.cell? ⟨w1.heap.size, 5, none⟩ = some (.int .i64 2) := P.cell 5
  have Pf5 : w12.frozen? ⟨w1.heap.size, 5, none⟩ = false := P.free 5
  have Pc6 : w12.cell? ⟨w1.heap.size, 6, none⟩ = some (.int .i64 1) := P.cell 6
  have Pf6 : w12.frozen? ⟨w1.heap.size, 6, none⟩ = false := P.free 6
  have Pc7 : w12.cell? ⟨w1.heap.size, 7, none⟩ = some (.int .i64 4) := P.cell 7
  have Pf7 : w12.frozen? ⟨w1.heap.size, 7, none⟩ = false := P.free 7
  have Pc8 : w12.cell? ⟨w1.heap.size, 8, none⟩ = some (.int .i64 4) := P.cell 8
  have Pf8 : w12.frozen? ⟨w1.heap.size, 8, none⟩ = false := P.free 8
  have Pc9 : w12.cell? ⟨w1.heap.size, 9, none⟩ = some (.int .i64 1) := P.cell 9
  have Pf9 : w12.frozen? ⟨w1.heap.size, 9, none⟩ = false := P.free 9
  have Pc10 : w12.cell? ⟨w1.heap.size, 10, none⟩ = some (.int .i64 2) := P.cell 10
  have Pf10 : w12.frozen? ⟨w1.heap.size, 10, none⟩ = false := P.free 10
  have Pc11 : w12.cell? ⟨w1.heap.size, 11, none⟩ = some (.int .i64 3) := P.cell 11
  have Pf11 : w12.frozen? ⟨w1.heap.size, 11, none⟩ = false := P.free 11
  have Pz : w1.heap.size < w12.heap.size := P.lt
  go_wp2_with fail
  refine (check_at ex_check _).mono ?_
  rintro e w13 ⟨rfl, hb⟩
  clear Pc0 Pf0 Pc1 Pf1 Pc2 Pf2 Pc3 Pf3 Pc4 Pf4 Pc5 Pf5 Pc6 Pf6 Pc7 Pf7 Pc8 Pf8 Pc9 Pf9 Pc10 Pf10 Pc11 Pf11 Pz
  have P := P.later hb
  have Q1 := Q1.later hb
  have Q2 := Q2.later hb
  have C := C.later hb
  have S0 := S0.later hb
  have S1 := S1.later hb
  have S2 := S2.later hb
  have S3 := S3.later hb
  have T4 := T4.later hb
  have T5 := T5.later hb
  have P2 := P2.later hb
  have hB := hB.trans (hb.mono hB.size)
  clear hb
  have S0c0 : w13.cell? ⟨w3.heap.size, 0, none⟩ = some (.int .i64 6) := S0.cell 0
  have S0f0 : w13.frozen? ⟨w3.heap.size, 0, none⟩ = false := S0.free 0
  have S0c1 : w13.cell? ⟨w3.heap.size, 1, none⟩ = some (.int .i64 0) := S0.cell 1
  have S0f1 : w13.frozen? ⟨w3.heap.size, 1, none⟩ = false := S0.free 1
  have S0c2 : w13.cell? ⟨w3.heap.size, 2, none⟩ = some (.int .i64 0) := S0.cell 2
  have S0f2 : w13.frozen? ⟨w3.heap.size, 2, none⟩ = false := S0.free 2
  have S0c3 : w13.cell? ⟨w3.heap.size, 3, none⟩ = some (.int .i64 0) := S0.cell 3
  have S0f3 : w13.frozen? ⟨w3.heap.size, 3, none⟩ = false := S0.free 3
  have S0c4 : w13.cell? ⟨w3.heap.size, 4, none⟩ = some (.int .i64 0) := S0.cell 4
  have S0f4 : w13.frozen? ⟨w3.heap.size, 4, none⟩ = false := S0.free 4
  have S0c5 : w13.cell? ⟨w3.heap.size, 5, none⟩ = some (.int .i64 3) := S0.cell 5
  have S0f5 : w13.frozen? ⟨w3.heap.size, 5, none⟩ = false := S0.free 5
  have S0z : w3.heap.size < w13.heap.size := S0.lt
  have S1c0 : w13.cell? ⟨w5.heap.size, 0, none⟩ = some (.int .i64 4) := S1.cell 0
  have S1f0 : w13.frozen? ⟨w5.heap.size, 0, none⟩ = false := S1.free 0
  have S1c1 : w13.cell? ⟨w5.heap.size, 1, none⟩ = some (.int .i64 1) := S1.cell 1
  have S1f1 : w13.frozen? ⟨w5.heap.size, 1, none⟩ = false := S1.free 1
  have S1c2 : w13.cell? ⟨w5.heap.size, 2, none⟩ = some (.int .i64 3) := S1.cell 2
  have S1f2 : w13.frozen? ⟨w5.heap.size, 2, none⟩ = false := S1.free 2
  have S1c3 : w13.cell? ⟨w5.heap.size, 3, none⟩ = some (.int .i64 0) := S1.cell 3
  have S1f3 : w13.frozen? ⟨w5.heap.size, 3, none⟩ = false := S1.free 3
  have S1c4 : w13.cell? ⟨w5.heap.size, 4, none⟩ = some (.int .i64 2) := S1.cell 4
  have S1f4 : w13.frozen? ⟨w5.heap.size, 4, none⟩ = false := S1.free 4
  have S1c5 : w13.cell? ⟨w5.heap.size, 5, none⟩ = some (.int .i64 0) := S1.cell 5
  have S1f5 : w13.frozen? ⟨w5.heap.size, 5, none⟩ = false := S1.free 5
  have S1z : w5.heap.size < w13.heap.size := S1.lt
  have S2c0 : w13.cell? ⟨w6.heap.size, 0, none⟩ = some (.int .i64 3) := S2.cell 0
  have S2f0 : w13.frozen? ⟨w6.heap.size, 0, none⟩ = false := S2.free 0
  have S2c1 : w13.cell? ⟨w6.heap.size, 1, none⟩ = some (.int .i64 2) := S2.cell 1
  have S2f1 : w13.frozen? ⟨w6.heap.size, 1, none⟩ = false := S2.free 1
  have S2c2 : w13.cell? ⟨w6.heap.size, 2, none⟩ = some (.int .i64 4) := S2.cell 2
  have S2f2 : w13.frozen? ⟨w6.heap.size, 2, none⟩ = false := S2.free 2
  have S2c3 : w13.cell? ⟨w6.heap.size, 3, none⟩ = some (.int .i64 0) := S2.cell 3
  have S2f3 : w13.frozen? ⟨w6.heap.size, 3, none⟩ = false := S2.free 3
  have S2c4 : w13.cell? ⟨w6.heap.size, 4, none⟩ = some (.int .i64 2) := S2.cell 4
  have S2f4 : w13.frozen? ⟨w6.heap.size, 4, none⟩ = false := S2.free 4
  have S2c5 : w13.cell? ⟨w6.heap.size, 5, none⟩ = some (.int .i64 1) := S2.cell 5
  have S2f5 : w13.frozen? ⟨w6.heap.size, 5, none⟩ = false := S2.free 5
  have S2z : w6.heap.size < w13.heap.size := S2.lt
  have S3c0 : w13.cell? ⟨w7.heap.size, 0, none⟩ = some (.int .i64 1) := S3.cell 0
  have S3f0 : w13.frozen? ⟨w7.heap.size, 0, none⟩ = false := S3.free 0
  have S3c1 : w13.cell? ⟨w7.heap.size, 1, none⟩ = some (.int .i64 3) := S3.cell 1
  have S3f1 : w13.frozen? ⟨w7.heap.size, 1, none⟩ = false := S3.free 1
  have S3c2 : w13.cell? ⟨w7.heap.size, 2, none⟩ = some (.int .i64 0) := S3.cell 2
  have S3f2 : w13.frozen? ⟨w7.heap.size, 2, none⟩ = false := S3.free 2
  have S3c3 : w13.cell? ⟨w7.heap.size, 3, none⟩ = some (.int .i64 0) := S3.cell 3
  have S3f3 : w13.frozen? ⟨w7.heap.size, 3, none⟩ = false := S3.free 3
  have S3c4 : w13.cell? ⟨w7.heap.size, 4, none⟩ = some (.int .i64 2) := S3.cell 4
  have S3f4 : w13.frozen? ⟨w7.heap.size, 4, none⟩ = false := S3.free 4
  have S3c5 : w13.cell? ⟨w7.heap.size, 5, none⟩ = some (.int .i64 2) := S3.cell 5
  have S3f5 : w13.frozen? ⟨w7.heap.size, 5, none⟩ = false := S3.free 5
  have S3z : w7.heap.size < w13.heap.size := S3.lt
  go_wp2
  go_ret
  exact ⟨rfl, hB⟩

end Go.Proofs.Ytakjalapninndaa
