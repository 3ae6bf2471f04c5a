/-
  Contract of New of the reference of chapter 4. (Printed by gen_du.py.)
-/
import Derived.Test.YtdmeogkdoeaemaaDW
namespace Go.Proofs.Ytdmeogkdoeaemaa
open Go.RowKit
attribute [local go_sem ↓ high] app_named cop_named

/-- Blocks from base on, but for the row's own. -/
def Side (base : Nat) (v : Value) : Nat → Prop := fun b => base ≤ b ∧ some b ≠ v.ownBlock
theorem run_ownR {w : World} {base bb : Nat} {v U : Value} {l : List Bs} {x : Bs} (ho : OwnRw w base (Side base v) v l) (hX : Box w bb [U]) (hU : BsAt w (Side base v) U x) (hbase : base ≤ w.heap.size) (hl : l.length ≤ 1048576) :
    ∃ v' w', (appF #[22, 22] 22 #[v, .slice (some ⟨bb, 0, none⟩) 1 1]).run Try.prog w = .ok v' w' ∧ OwnRw w' base (Side base v') v' (l ++ [x]) ∧ Below base w w' := by
  obtain ⟨i, E⟩ := elem_rw
  obtain ⟨xs, ho, hb⟩ := ho
  have hxl : xs.length = l.length := by simpa using ho.1
  have hrow : ∀ k, v.ownBlock = some k → base ≤ k := by
    intro k hk
    rcases ho.2 with ⟨rfl, _⟩ | ⟨g, cap, cur, rfl, hbg, _⟩
    · cases hk
    · cases hk; exact hbg
  obtain ⟨v', w', hr, ho', hg, _, hown⟩ := run_append_own_at (P := Try.prog) (w := w) base 22 22 35 i (.slice none 0 0) 1 24 E.ht E.hi E.hz E.hsize E.hby E.hzs E.hsz v l.length xs ho ⟨bb, 0, none⟩ 1 1 [U] rfl (fun j u hu => by
    obtain rfl : j = 0 := by
      have := (List.getElem?_eq_some_iff.1 hu).1
      simpa using this
    rw [add_at, Nat.zero_add, hX.cell 0]
    exact hu) (fun u hu => by rw [List.mem_singleton.1 hu]; exact bsAt_one hU) (by simp only [maxLen]; omega) (by omega) hbase
  have key : ∀ {y : Bs} {u : Value}, BsAt w (Side base v) u y → BsAt w' (Side base v') u y := by
    intro y u h
    have h1 : BsAt w (fun b => Side base v b ∧ some b ≠ v'.ownBlock) u y := h.weak fun b hb hl => ⟨hb, by
      rcases hown with e | e
      · rw [e]; exact hb.2
      · rw [e]; intro e2; injection e2 with e2; omega⟩
    exact (h1.keep (Keeps.grown hg fun k hk hS => hS.1.2 hk.symm)).weak fun b hb _ => ⟨hb.1.1, hb.2⟩
  refine ⟨v', w', hr, ⟨xs ++ [U], by rw [List.length_append]; exact ho', fun j y u hy hu => ?_⟩, (Below.refl base w).grown hg hbase (fun k hk => hrow k hk)⟩
  rcases Nat.lt_or_ge j l.length with hj | hj
  · rw [List.getElem?_append_left hj] at hy
    rw [List.getElem?_append_left (by omega)] at hu
    exact key (hb j y u hy hu)
  · rw [List.getElem?_append_right hj] at hy
    rw [List.getElem?_append_right (by omega), hxl] at hu
    have h0 : j - l.length = 0 := by
      rcases Nat.eq_zero_or_pos (j - l.length) with h0 | h0
      · exact h0
      · rw [List.getElem?_eq_none (by simp; omega)] at hy; cases hy
    rw [h0] at hy hu
    obtain rfl : x = y := by simpa using hy
    obtain rfl : U = u := by simpa using hu
    exact key hU
theorem OwnRw.form {w : World} {base : Nat} {S : Nat → Prop} {v : Value} {l : List Bs} (h : OwnRw w base S v l) : ∃ A c, v = .slice A l.length c := by
  obtain ⟨xs, ho, _⟩ := h
  rcases ho.2 with ⟨h1, h2⟩ | ⟨g, cap, cur, hv, _⟩
  · exact ⟨none, 0, by rw [h1, h2]⟩
  · exact ⟨_, _, hv⟩
theorem dRNew_1 (k : Int) (hk : k < 1) (S : Nat → Prop) (w : World) (hs : Hid (newT k = (Dk.zero, 1))) : Calls Try.prog 13 #[.int .i64 k] w (RetDk (newT k) S w) := by
  have hB : Below w.heap.size w (w.alloc (.cells #[.slice none 0 0, .slice none 0 0, .int .i64 0, .bool false] 25)) := ((Below.refl w.heap.size w).alloc (by simp <;> omega) (.cells #[.slice none 0 0, .slice none 0 0, .int .i64 0, .bool false] 25))
  go_enter Try.func13, Try.ntmps13
  go_wp2
  refine bodyPost_ret (v := .tuple #[.agg #[.slice none 0 0, .slice none 0 0, .int .i64 0, .bool false], .int .i64 1]) (by simp [results, Try.results13, go_sem]) rfl ?_
  exact ⟨_, _, Dk.zero, 1, rfl, hs, dkAt_zero _ _, hB⟩

theorem dRNew_2 (k : Int) (hk1 : 1 ≤ k) (hk : 4096 < k) (S : Nat → Prop) (w : World) (hs : Hid (newT k = (Dk.zero, 1))) : Calls Try.prog 13 #[.int .i64 k] w (RetDk (newT k) S w) := by
  have hB : Below w.heap.size w (w.alloc (.cells #[.slice none 0 0, .slice none 0 0, .int .i64 0, .bool false] 25)) := ((Below.refl w.heap.size w).alloc (by simp <;> omega) (.cells #[.slice none 0 0, .slice none 0 0, .int .i64 0, .bool false] 25))
  go_enter Try.func13, Try.ntmps13
  go_wp2
  refine bodyPost_ret (v := .tuple #[.agg #[.slice none 0 0, .slice none 0 0, .int .i64 0, .bool false], .int .i64 1]) (by simp [results, Try.results13, go_sem]) rfl ?_
  exact ⟨_, _, Dk.zero, 1, rfl, hs, dkAt_zero _ _, hB⟩

set_option maxRecDepth 100000 in
set_option maxHeartbeats 8000000 in
theorem dRNew_3 (k : Nat) (hk1 : 1 ≤ k) (hk : k ≤ 4096) (S : Nat → Prop) (w : World) (hs : Hid (newT k = (⟨List.replicate k zeros, [], -1, false⟩, 0))) : Calls Try.prog 13 #[.int .i64 k] w (RetDk (newT k) S w) := by
  have hB : Below w.heap.size w ((w.alloc (.cells #[.slice none 0 0, .slice none 0 0, .int .i64 0, .bool false] 25)).alloc (.cells #[.slice none 0 0, .slice none 0 0, .int .i64 (-1), .bool false] 25)) := (((Below.refl w.heap.size w).alloc (by simp <;> omega) (.cells #[.slice none 0 0, .slice none 0 0, .int .i64 0, .bool false] 25)).alloc (by simp <;> omega) (.cells #[.slice none 0 0, .slice none 0 0, .int .i64 (-1), .bool false] 25))
  have R0 := (Box.new w [.slice none 0 0, .slice none 0 0, .int .i64 0, .bool false] 25).alloc (.cells #[.slice none 0 0, .slice none 0 0, .int .i64 (-1), .bool false] 25)
  have Y0 := Box.newAt (w := (w.alloc (.cells #[.slice none 0 0, .slice none 0 0, .int .i64 0, .bool false] 25))) (n := w.heap.size + 1) [.slice none 0 0, .slice none 0 0, .int .i64 (-1), .bool false] 25 (by simp)
  have hsz : ((w.alloc (.cells #[.slice none 0 0, .slice none 0 0, .int .i64 0, .bool false] 25)).alloc (.cells #[.slice none 0 0, .slice none 0 0, .int .i64 (-1), .bool false] 25)).heap.size = w.heap.size + 1 + 1 := by simp
  have hk2 : (1 : Int) ≤ (k : Int) := by omega
  have hk3 : (k : Int) ≤ 4096 := by omega
  go_enter Try.func13, Try.ntmps13
  go_wp2
  generalize ((w.alloc (.cells #[.slice none 0 0, .slice none 0 0, .int .i64 0, .bool false] 25)).alloc (.cells #[.slice none 0 0, .slice none 0 0, .int .i64 (-1), .bool false] 25)) = W at hB R0 Y0 hsz ⊢
  go_loopw [5] (fun i wr => ∃ (j : Nat) (A : Option Addr) (c : Nat), j ≤ k ∧ i = .int .i64 j ∧ Hid (OwnRw wr (w.heap.size + 1 + 1) (Side (w.heap.size + 1 + 1) (.slice A j c)) (.slice A j c) (List.replicate j zeros)) ∧ Box wr (w.heap.size) [.slice none 0 0, .slice none 0 0, .int .i64 0, .bool false] ∧ Box wr (w.heap.size + 1) [.slice A j c, .slice none 0 0, .int .i64 (-1), .bool false] ∧ Below w.heap.size w wr ∧ w.heap.size + 1 + 1 ≤ wr.heap.size) (fun i _ => k - (intOf i).toNat)
  case atStart => exact ⟨0, none, 0, by omega, rfl, ⟨[], ⟨rfl, .inl ⟨rfl, rfl⟩⟩, fun i x u hx _ => by simp at hx⟩, R0, Y0, hB, by omega⟩
  case round =>
    clear hB R0 Y0 hsz
    obtain ⟨j, A, c, hj, rfl, ho, R1, Y1, hb, hle⟩ := hrel
    by_cases hlt : j < k
    · obtain ⟨w2, hmk, hz2, hb2⟩ := make_bs wr.drew
      have hb2' : Below wr.heap.size wr w2 := ((Below.refl wr.heap.size wr).drew).trans hb2
      have hmk : (Instr.makeSlice 35 (.int .i64 128) (.int .i64 128)).run Try.prog wr.drew = .ok (.slice (some ⟨wr.heap.size, 0, none⟩) 128 128) w2 := hmk
      have hz2 : OwnBs w2 wr.heap.size (.slice (some ⟨wr.heap.size, 0, none⟩) 128 128) zeros := hz2
      have hZ : BsAt w2 (Side (w.heap.size + 1 + 1) (.slice A j c)) (.slice (some ⟨wr.heap.size, 0, none⟩) 128 128) zeros := by
        refine (hz2.bs (by rw [zeros_length]; simp [maxLen])).weak fun b hb _ => ⟨by omega, fun e => ?_⟩
        obtain ⟨xs, hoo, _⟩ := ho.out
        rcases hoo.2 with ⟨h1, _⟩ | ⟨g, cap, cur, h1, hbg, hg, _⟩
        · rw [h1] at e; cases e
        · rw [h1] at e
          injection e with e
          have hlt2 := (Array.getElem?_eq_some_iff.1 hg).1
          simp only at e
          omega
      have hst3 := (Below.refl w2.heap.size w2).alloc (Nat.le_refl _) (.cells #[.slice (some ⟨wr.heap.size, 0, none⟩) 128 128] 35)
      have hO3 := (ho.out.keep hb2').keep hst3
      obtain ⟨v', w4, hap, hO4, hb4⟩ := run_ownR hO3 (Box.new w2 [.slice (some ⟨wr.heap.size, 0, none⟩) 128 128] 35) (hZ.keep (Keeps.of hst3)) (by have := hb2'.size; simp; omega) (by rw [List.length_replicate]; omega)
      have hrep : Hid (List.replicate j zeros ++ [zeros] = List.replicate (j + 1) zeros) := by rw [Hid, List.replicate_succ']
      rw [hrep.out] at hO4
      obtain ⟨A4, c4, hv4⟩ := hO4.form
      rw [List.length_replicate] at hv4
      subst hv4
      have HO4 := Lib.hid hO4
      have hs2 := hb2'.size
      have Y2 := Y1.later hb2'
      have Y3 := Y2.later hst3
      have Y4 := Y3.keep (D := w.heap.size + 1 + 1) (by omega) hb4
      have R4 := ((R1.later hb2').later hst3).keep (D := w.heap.size + 1 + 1) (by omega) hb4
      have hB4 := (hb.trans (hb2'.mono hb.size)).trans ((hst3.mono (Nat.le_trans hb.size hb2'.size)).trans (hb4.mono (by omega)))
      have hs4 := Nat.le_trans hst3.size hb4.size
      have y1 : wr.cell? ⟨w.heap.size + 1, 0, none⟩ = some (.slice A j c) := Y1.cell 0
      have y2 : w2.cell? ⟨w.heap.size + 1, 0, none⟩ = some (.slice A j c) := Y2.cell 0
      have y3 : w4.cell? ⟨w.heap.size + 1, 0, none⟩ = some (.slice A4 (j + 1) c4) ∨ True := .inr trivial
      have y4 : w4.cell? ⟨w.heap.size + 1, 0, none⟩ = some (.slice A j c) := Y4.cell 0
      have yf4 := Y4.free 0
      have yz1 := Y1.lt
      have yz2 := Y2.lt
      have yz4 := Y4.lt
      clear y3 hz2 hZ hO3 hO4 hb2 hb2' hst3 hb4 Y1 Y2 Y3 R1 ho hb hle
      go_wp2_with fail
      go_region
      go_wp2
      have nK : ∀ V W, ¬ (Old (fun b => Side (w.heap.size + 1 + 1) V b ∨ w.heap.size + 1 + 1 ≤ b) W) (w.heap.size + 1) := by
        intro V W h
        rcases h.1 with h | h
        · have := h.1; omega
        · omega
      refine ⟨⟨j + 1, A4, c4, by omega, by go_num, Lib.hid (HO4.out.keepK (Keeps.set _ (nK _ _) _)), R4.other (by simp <;> omega) _, Y4.set 0 _, hB4.setCell (by simp <;> omega) _, by simp; omega⟩, by simp [intOf]; omega⟩
    · obtain rfl : j = k := by omega
      have y0 : wr.cell? ⟨w.heap.size + 1, 0, none⟩ = some (.slice A j c) := Y1.cell 0
      have y1 : wr.cell? ⟨w.heap.size + 1, 1, none⟩ = some (.slice none 0 0) := Y1.cell 1
      have y2 : wr.cell? ⟨w.heap.size + 1, 2, none⟩ = some (.int .i64 (-1)) := Y1.cell 2
      have y3 : wr.cell? ⟨w.heap.size + 1, 3, none⟩ = some (.bool false) := Y1.cell 3
      have yz := Y1.lt
      have r0 : wr.cell? ⟨w.heap.size, 0, none⟩ = some (.slice none 0 0) := R1.cell 0
      have r1 : wr.cell? ⟨w.heap.size, 1, none⟩ = some (.slice none 0 0) := R1.cell 1
      have r2 : wr.cell? ⟨w.heap.size, 2, none⟩ = some (.int .i64 0) := R1.cell 2
      have r3 : wr.cell? ⟨w.heap.size, 3, none⟩ = some (.bool false) := R1.cell 3
      have rf0 := R1.free 0
      have rf1 := R1.free 1
      have rf2 := R1.free 2
      have rf3 := R1.free 3
      have rz := R1.lt
      go_wp2
      have nK : ∀ V W, ¬ (Old (fun b => Side (w.heap.size + 1 + 1) V b ∨ w.heap.size + 1 + 1 ≤ b) W) (w.heap.size) := by
        intro V W h
        rcases h.1 with h | h
        · have := h.1; omega
        · omega
      have ZR := (((R1.set 0 (.slice A j c)).set 1 (.slice none 0 0)).set 2 (.int .i64 (-1))).set 3 (.bool false)
      have HB := (((hb.setCell (p := ⟨w.heap.size, 0, none⟩) (Nat.le_refl _) (.slice A j c)).setCell (p := ⟨w.heap.size, 1, none⟩) (Nat.le_refl _) (.slice none 0 0)).setCell (p := ⟨w.heap.size, 2, none⟩) (Nat.le_refl _) (.int .i64 (-1))).setCell (p := ⟨w.heap.size, 3, none⟩) (Nat.le_refl _) (.bool false)
      have hO9 := ho.out.keepK (w' := (((wr.setCell ⟨w.heap.size, 0, none⟩ (.slice A j c)).setCell ⟨w.heap.size, 1, none⟩ (.slice none 0 0)).setCell ⟨w.heap.size, 2, none⟩ (.int .i64 (-1))).setCell ⟨w.heap.size, 3, none⟩ (.bool false)) (Keeps.trans (Keeps.trans (Keeps.trans (Keeps.set _ (nK _ _) _) (Keeps.set _ (nK _ _) _)) (Keeps.set _ (nK _ _) _)) (Keeps.set _ (nK _ _) _))
      clear y0 y1 y2 y3 yz r0 r1 r2 r3 rf0 rf1 rf2 rf3 rz
      generalize (((wr.setCell ⟨w.heap.size, 0, none⟩ (.slice A j c)).setCell ⟨w.heap.size, 1, none⟩ (.slice none 0 0)).setCell ⟨w.heap.size, 2, none⟩ (.int .i64 (-1))).setCell ⟨w.heap.size, 3, none⟩ (.bool false) = W at ZR HB hO9 ⊢
      have z0 : W.cell? ⟨w.heap.size, 0, none⟩ = some (.slice A j c) := ZR.cell 0
      have z1 : W.cell? ⟨w.heap.size, 1, none⟩ = some (.slice none 0 0) := ZR.cell 1
      have z2 : W.cell? ⟨w.heap.size, 2, none⟩ = some (.int .i64 (-1)) := ZR.cell 2
      have z3 : W.cell? ⟨w.heap.size, 3, none⟩ = some (.bool false) := ZR.cell 3
      refine bodyPost_ret (v := .tuple #[.agg #[.slice A j c, .slice none 0 0, .int .i64 (-1), .bool false], .int .i64 0]) (by simp [results, Try.results13, go_sem, z0, z1, z2, z3]) rfl ?_
      refine ⟨_, _, _, 0, rfl, hs, Lib.hid ⟨?_, wsAt_nil _ _⟩, HB⟩
      exact hO9.rows (by rw [List.length_replicate]; simp only [maxLen]; omega) (fun b h _ => .inr (by have := h.1; omega)) (fun b h => .inr (by omega))

theorem dRNew_any (k : Int) (S : Nat → Prop) (w : World) : Calls Try.prog 13 #[.int .i64 k] w (RetDk (newT k) S w) := by
  by_cases h1 : k < 1
  · exact dRNew_1 k h1 S w (by rw [Hid, newT, if_neg (by omega)])
  · by_cases h2 : 4096 < k
    · exact dRNew_2 k (by omega) h2 S w (by rw [Hid, newT, if_neg (by omega)])
    · obtain ⟨n, rfl⟩ : ∃ n : Nat, k = n := ⟨k.toNat, by omega⟩
      exact dRNew_3 n (by omega) (by omega) S w (by rw [Hid, newT, if_pos (by omega)]; rfl)

end Go.Proofs.Ytdmeogkdoeaemaa
