/-
  Contracts of New of disk and of its reference. (Printed by gen_do.py.)
-/
import Derived.Test.YtdmeogkdoeaemaaDN
namespace Go.Proofs.Ytdmeogkdoeaemaa
open Go.RowKit
attribute [local go_sem ↓ high] app_named cop_named

theorem rep_rows {w : World} {base k : Nat} {S : Nat → Prop} {U v : Value} {x : Bs} (ho : w.ownsRow base 35 1 v k (List.replicate k U)) (hU : BsAt w S U x) : OwnRw w base S v (List.replicate k x) := by
  refine ⟨List.replicate k U, by rw [List.length_replicate]; exact ho, fun i y u hy hu => ?_⟩
  rw [List.getElem?_replicate] at hy hu
  split at hy
  · rename_i h
    rw [if_pos h] at hu
    cases hy
    cases hu
    exact hU
  · cases hy
theorem dNew_1 (k : Int) (hk : k < 1) (S : Nat → Prop) (w : World) (hs : Hid (newT k = (Dk.zero, 1))) : Calls Try.prog 12 #[.int .i64 k] w (RetDk (newT k) S w) := by
  have hB : Below w.heap.size w (w.alloc (.cells #[.slice none 0 0, .slice none 0 0, .int .i64 0, .bool false] 25)) := ((Below.refl w.heap.size w).alloc (by simp <;> omega) (.cells #[.slice none 0 0, .slice none 0 0, .int .i64 0, .bool false] 25))
  go_enter Try.func12, Try.ntmps12
  go_wp2
  refine bodyPost_ret (v := .tuple #[.agg #[.slice none 0 0, .slice none 0 0, .int .i64 0, .bool false], .int .i64 1]) (by simp [results, Try.results12, go_sem]) rfl ?_
  exact ⟨_, _, Dk.zero, 1, rfl, hs, dkAt_zero _ _, hB⟩

theorem dNew_2 (k : Int) (hk1 : 1 ≤ k) (hk : 4096 < k) (S : Nat → Prop) (w : World) (hs : Hid (newT k = (Dk.zero, 1))) : Calls Try.prog 12 #[.int .i64 k] w (RetDk (newT k) S w) := by
  have hB : Below w.heap.size w (w.alloc (.cells #[.slice none 0 0, .slice none 0 0, .int .i64 0, .bool false] 25)) := ((Below.refl w.heap.size w).alloc (by simp <;> omega) (.cells #[.slice none 0 0, .slice none 0 0, .int .i64 0, .bool false] 25))
  go_enter Try.func12, Try.ntmps12
  go_wp2
  refine bodyPost_ret (v := .tuple #[.agg #[.slice none 0 0, .slice none 0 0, .int .i64 0, .bool false], .int .i64 1]) (by simp [results, Try.results12, go_sem]) rfl ?_
  exact ⟨_, _, Dk.zero, 1, rfl, hs, dkAt_zero _ _, hB⟩

set_option maxRecDepth 100000 in
set_option maxHeartbeats 4000000 in
theorem dNew_3 (k : Nat) (hk1 : 1 ≤ k) (hk : k ≤ 4096) (S : Nat → Prop) (w : World) (hs : Hid (newT k = (⟨List.replicate k zeros, [], -1, false⟩, 0))) : Calls Try.prog 12 #[.int .i64 k] w (RetDk (newT k) S w) := by
  have hB1 := (Below.refl w.heap.size w).alloc (Nat.le_refl _) (.cells #[.slice none 0 0, .slice none 0 0, .int .i64 0, .bool false] 25)
  have R1 := Box.new w [.slice none 0 0, .slice none 0 0, .int .i64 0, .bool false] 25
  obtain ⟨w2, hmk0, hz2, hb2⟩ := make_bs (w.alloc (.cells #[.slice none 0 0, .slice none 0 0, .int .i64 0, .bool false] 25))
  obtain ⟨z, hz⟩ : ∃ z, (w.alloc (.cells #[.slice none 0 0, .slice none 0 0, .int .i64 0, .bool false] 25)).heap.size = z := ⟨_, rfl⟩
  have hzw : z = w.heap.size + 1 := by rw [← hz]; simp
  rw [hz] at hmk0 hz2
  subst hzw
  have hmk : (Instr.makeSlice 35 (.int .i64 128) (.int .i64 128)).run Try.prog (w.alloc (.cells #[.slice none 0 0, .slice none 0 0, .int .i64 0, .bool false] 25)) = .ok (.slice (some ⟨w.heap.size + 1, 0, none⟩) 128 128) w2 := hmk0
  have R2 := R1.later hb2
  have hB2 := hB1.trans (hb2.mono hB1.size)
  have hZ2 : BsAt w2 (fun b => w.heap.size + 1 ≤ b) (.slice (some ⟨w.heap.size + 1, 0, none⟩) 128 128) zeros := hz2.bs (by rw [zeros_length]; simp [maxLen])
  have HZ2 := Lib.hid hZ2
  have HMK := Lib.hid hmk
  have hb3 := (Below.refl w2.heap.size w2).alloc (Nat.le_refl _) (.cells #[.slice (some ⟨w.heap.size + 1, 0, none⟩) 128 128] 35)
  have Y3 := Box.new w2 [.slice (some ⟨w.heap.size + 1, 0, none⟩) 128 128] 35
  have C := Lib.hid (dRepeat_any w2.heap.size k (some ⟨w.heap.size + 1, 0, none⟩) 128 128 _ hk1 hk (Y3.cell 0) Y3.lt)
  have hk2 : (1 : Int) ≤ (k : Int) := by omega
  have hk3 : (k : Int) ≤ 4096 := by omega
  have R3 := R2.later hb3
  have hB3 := hB2.trans (hb3.mono hB2.size)
  have hZ3 := Lib.hid (HZ2.out.keep (Keeps.of hb3))
  clear hz hmk0 hz2 hb2 hZ2 R1 hB1 R2 hB2 hb3 Y3 HZ2 HMK
  go_enter Try.func12, Try.ntmps12
  go_wp2_with fail
  refine C.out.mono ?_
  rintro e w4 ⟨g, rfl, ho, hb⟩
  have R4 := R3.later hb
  have hB4 := hB3.trans (hb.mono hB3.size)
  have hO4 := rep_rows ho (hZ3.out.keep (Keeps.of hb))
  have hs3 : w.heap.size < (w2.alloc (.cells #[.slice (some ⟨w.heap.size + 1, 0, none⟩) 128 128] 35)).heap.size := R3.lt
  obtain ⟨bs, hbs⟩ : ∃ bs, (w2.alloc (.cells #[.slice (some ⟨w.heap.size + 1, 0, none⟩) 128 128] 35)).heap.size = bs := ⟨_, rfl⟩
  rw [hbs] at hO4 hs3
  have HO4 := Lib.hid hO4
  clear ho hb hO4 R3 hB3 hZ3 C hbs
  have r0 : w4.cell? ⟨w.heap.size, 0, none⟩ = some (.slice none 0 0) := R4.cell 0
  have r1 : w4.cell? ⟨w.heap.size, 1, none⟩ = some (.slice none 0 0) := R4.cell 1
  have r2 : w4.cell? ⟨w.heap.size, 2, none⟩ = some (.int .i64 0) := R4.cell 2
  have r3 : w4.cell? ⟨w.heap.size, 3, none⟩ = some (.bool false) := R4.cell 3
  have rf0 := R4.free 0
  have rf1 := R4.free 1
  have rf2 := R4.free 2
  have rf3 := R4.free 3
  have rz : w.heap.size < w4.heap.size := R4.lt
  go_wp2
  have nK : ∀ W : World, ¬ (Old (fun b => w.heap.size + 1 ≤ b ∨ bs ≤ b) W) (w.heap.size) := by
    intro W h
    rcases h.1 with h | h <;> omega
  have ZR := ((((R4.set 0 (.slice (some ⟨g, 0, none⟩) k k)).set 1 (.slice none 0 0)).set 2 (.int .i64 (-1))).set 3 (.bool false))
  have HB := ((((hB4.setCell (p := ⟨w.heap.size, 0, none⟩) (Nat.le_refl _) (.slice (some ⟨g, 0, none⟩) k k)).setCell (p := ⟨w.heap.size, 1, none⟩) (Nat.le_refl _) (.slice none 0 0)).setCell (p := ⟨w.heap.size, 2, none⟩) (Nat.le_refl _) (.int .i64 (-1))).setCell (p := ⟨w.heap.size, 3, none⟩) (Nat.le_refl _) (.bool false))
  have hO9 := HO4.out.keepK (w' := ((((w4.setCell ⟨w.heap.size, 0, none⟩ (.slice (some ⟨g, 0, none⟩) k k)).setCell ⟨w.heap.size, 1, none⟩ (.slice none 0 0)).setCell ⟨w.heap.size, 2, none⟩ (.int .i64 (-1))).setCell ⟨w.heap.size, 3, none⟩ (.bool false))) (Keeps.trans (Keeps.trans (Keeps.trans (Keeps.set _ (nK _) _) (Keeps.set _ (nK _) _)) (Keeps.set _ (nK _) _)) (Keeps.set _ (nK _) _))
  clear r0 r1 r2 r3 rf0 rf1 rf2 rf3 rz
  generalize ((((w4.setCell ⟨w.heap.size, 0, none⟩ (.slice (some ⟨g, 0, none⟩) k k)).setCell ⟨w.heap.size, 1, none⟩ (.slice none 0 0)).setCell ⟨w.heap.size, 2, none⟩ (.int .i64 (-1))).setCell ⟨w.heap.size, 3, none⟩ (.bool false)) = W at ZR HB hO9 ⊢
  have z0 : W.cell? ⟨w.heap.size, 0, none⟩ = some (.slice (some ⟨g, 0, none⟩) k k) := ZR.cell 0
  have z1 : W.cell? ⟨w.heap.size, 1, none⟩ = some (.slice none 0 0) := ZR.cell 1
  have z2 : W.cell? ⟨w.heap.size, 2, none⟩ = some (.int .i64 (-1)) := ZR.cell 2
  have z3 : W.cell? ⟨w.heap.size, 3, none⟩ = some (.bool false) := ZR.cell 3
  refine bodyPost_ret (v := .tuple #[.agg #[.slice (some ⟨g, 0, none⟩) k k, .slice none 0 0, .int .i64 (-1), .bool false], .int .i64 0]) (by simp [results, Try.results12, go_sem, z0, z1, z2, z3]) rfl ?_
  refine ⟨_, _, _, 0, rfl, hs, Lib.hid ⟨?_, wsAt_nil _ _⟩, HB⟩
  exact hO9.rows (by rw [List.length_replicate]; simp only [maxLen]; omega) (fun b h _ => .inr (by omega)) (fun b h => .inr (by omega))

theorem dNew_any (k : Int) (S : Nat → Prop) (w : World) : Calls Try.prog 12 #[.int .i64 k] w (RetDk (newT k) S w) := by
  by_cases h1 : k < 1
  · exact dNew_1 k h1 S w (by rw [Hid, newT, if_neg (by omega)])
  · by_cases h2 : 4096 < k
    · exact dNew_2 k (by omega) h2 S w (by rw [Hid, newT, if_neg (by omega)])
    · obtain ⟨n, rfl⟩ : ∃ n : Nat, k = n := ⟨k.toNat, by omega⟩
      exact dNew_3 n (by omega) (by omega) S w (by rw [Hid, newT, if_pos (by omega)]; rfl)

end Go.Proofs.Ytdmeogkdoeaemaa
