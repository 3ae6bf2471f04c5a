/-
  Contract of Write of disk. (Printed by gen_df.py.)
-/
import Derived.Test.YtdmeogkdoeaemaaDE
namespace Go.Proofs.Ytdmeogkdoeaemaa
open Go.RowKit
attribute [local go_sem ↓ high] app_named cop_named

/-- A result that is a disk and an error. -/
def RetDk (t : Dk × Int) (S : Nat → Prop) (w : World) (e : Ending) (w' : World) : Prop := ∃ (Vs Vp : Value) (m : Dk) (er : Int), e = .returned (.tuple #[m.v Vs Vp, .int .i64 er]) ∧ Hid (t = (m, er)) ∧ Hid (DkAt w' (Grow S w) Vs Vp m) ∧ Below w.heap.size w w'
theorem dRuns_at {d : Dk} {Vs Vp : Value} {S : Nat → Prop} {w : World} {l : Int} {s r : Bool} (hr : Hid (d.runs = r)) (hD : DkAt w S Vs Vp d) (hl : Hid (d.left = l)) (hs : Hid (d.stopped = s)) :
    Calls Try.prog 35 #[.agg #[Vs, Vp, .int .i64 l, .bool s]] w fun e w' => e = .returned (.bool r) ∧ Below w.heap.size w w' := by
  have := dRuns_any d Vs Vp S w hD
  rw [hr.out] at this
  rw [← hl.out, ← hs.out]
  exact this
theorem dHas_at {d : Dk} {Vs Vp : Value} {S : Nat → Prop} {w : World} {l i : Int} {s r : Bool} (hr : Hid (d.hasB i = r)) (hD : DkAt w S Vs Vp d) (hl : Hid (d.left = l)) (hs : Hid (d.stopped = s)) :
    Calls Try.prog 36 #[.agg #[Vs, Vp, .int .i64 l, .bool s], .int .i64 i] w fun e w' => e = .returned (.bool r) ∧ Below w.heap.size w w' := by
  have := dHas_any d Vs Vp i S w hD
  rw [hr.out] at this
  rw [← hl.out, ← hs.out]
  exact this

/-- One more write is appended to a slice without room. -/
theorem run_appW (l : List Wr) (x : Wr) {w : World} {S U : Nat → Prop} {A : Option Addr} {n bb : Nat} {V : Value} (h : WsAt w S (.slice A n n) l) (hn : l.length = n) (hX : Box w bb [.int .i64 x.at', V]) (hV : BsAt w U V x.data) (hm : n ≤ 1048576) :
    ∃ v' w', (appF #[23, 23] 23 #[.slice A n n, .slice (some ⟨bb, 0, none⟩) 1 1]).run Try.prog w = .ok v' w' ∧ WsAt w' (fun b => (Grow S w) b ∨ U b) v' (l ++ [x]) ∧ Below w.heap.size w w' := by
  obtain ⟨i, E⟩ := elem_wr
  obtain ⟨hf, g, hs, hb⟩ := h
  subst hn
  have hx : Sl w w.heap.size 2 1 (wrCells [x] fun _ => V) (.slice (some ⟨bb, 0, none⟩) 1 1) := by
    refine ⟨_, _, rfl, by simp [maxLen], fun i hi => ⟨bb, 0, rfl, hX.lt, fun j hj => ?_⟩⟩
    obtain rfl : i = 0 := by omega
    rcases (show j = 0 ∨ j = 1 by omega) with rfl | rfl
    · exact hX.cell 0
    · exact hX.cell 1
  have hone : ∀ k j, k < 1 → j < 2 → (wrCells [x] (fun _ => V) k j).oneCell' = true := by
    intro k j hk _
    obtain rfl : k = 0 := by omega
    unfold wrCells
    split
    · rfl
    · exact bsAt_one hV
  obtain ⟨v', w', hr, hs', hf', hbel⟩ := run_app_p E 23 hs hf hx (.inr ⟨_, _, _, rfl, Nat.le_refl _, by simp [maxLen]⟩) hone (.inl (by omega)) (by simp only [maxLen]; omega) (by omega)
  refine ⟨v', w', hr, ⟨hf', fun i => if i < l.length then g i else V, ?_, fun j y hy => ?_⟩, hbel⟩
  · rw [List.length_append]
    refine (hs'.weak (fun b hb _ => .inl hb)).congr fun i j hi hj => ?_
    unfold cat wrCells
    by_cases h : i < l.length
    · simp only [if_pos h, List.getD_eq_getElem?_getD, List.getElem?_append_left h]
    · obtain rfl : i = l.length := by omega
      simp
  · by_cases h : j < l.length
    · rw [List.getElem?_append_left h] at hy
      simp only [if_pos h]
      exact ((hb j y hy).keep (Keeps.of hbel)).weak fun b hb _ => .inl (.inl hb)
    · rw [List.getElem?_append_right (by omega)] at hy
      have hj : j - l.length = 0 := by
        rcases Nat.eq_zero_or_pos (j - l.length) with h0 | h0
        · exact h0
        · rw [List.getElem?_eq_none (by simp; omega)] at hy; cases hy
      rw [hj] at hy
      obtain rfl : x = y := by simpa using hy
      simp only [if_neg h]
      exact (hV.keep (Keeps.of hbel)).weak fun b hb _ => .inr hb

set_option maxRecDepth 100000 in
set_option maxHeartbeats 4000000 in
theorem dWrite_1 (d : Dk) (As : Option Addr) (ns cs : Nat) (Ap : Option Addr) (np cp : Nat) (dl : Int) (ds : Bool) (S : Nat → Prop) (w : World) (hD : Hid (DkAt w S (.slice As ns cs) (.slice Ap np cp) d)) (hdl : Hid (d.left = dl)) (hds : Hid (d.stopped = ds)) (i : Int) (Ab : Option Addr) (nb cb : Nat) (b : Bs) (hr : Hid (d.runs = false)) (hs : Hid (writeT d i b = (Dk.zero, 40))) : Calls Try.prog 19 #[.agg #[.slice As ns cs, .slice Ap np cp, .int .i64 dl, .bool ds], .int .i64 i, .slice Ab nb cb] w (RetDk (writeT d i b) S w) := by
  have HB0 : Below w.heap.size w ((w.alloc (.cells #[.slice As ns cs, .slice Ap np cp, .int .i64 dl, .bool ds] 25)).alloc (.cells #[.slice none 0 0, .slice none 0 0, .int .i64 0, .bool false] 25)) := (((Below.refl w.heap.size w).alloc (by simp <;> omega) (.cells #[.slice As ns cs, .slice Ap np cp, .int .i64 dl, .bool ds] 25)).alloc (by simp <;> omega) (.cells #[.slice none 0 0, .slice none 0 0, .int .i64 0, .bool false] 25))
  have HD0 := Lib.hid (hD.out.keep (Keeps.of HB0))
  go_enter Try.func19, Try.ntmps19
  go_wp2_with fail
  refine (dRuns_at hr HD0.out hdl hds).mono ?_
  rintro e w1 ⟨rfl, hb⟩
  have X0 := (((Box.newAt (n := w.heap.size) [.slice As ns cs, .slice Ap np cp, .int .i64 dl, .bool ds] 25 (by simp)).alloc _)).later hb
  have R := ((Box.newAt (n := w.heap.size + 1) [.slice none 0 0, .slice none 0 0, .int .i64 0, .bool false] 25 (by simp))).later hb
  have hB : Below w.heap.size w w1 := ((((Below.refl w.heap.size w).alloc (by simp <;> omega) _).alloc (by simp <;> omega) _)).trans (hb.mono (by simp <;> omega))
  clear hb
  have Rc0 : w1.cell? ⟨w.heap.size + 1, 0, none⟩ = some (.slice none 0 0) := R.cell 0
  have Rf0 : w1.frozen? ⟨w.heap.size + 1, 0, none⟩ = false := R.free 0
  have Rc1 : w1.cell? ⟨w.heap.size + 1, 1, none⟩ = some (.slice none 0 0) := R.cell 1
  have Rf1 : w1.frozen? ⟨w.heap.size + 1, 1, none⟩ = false := R.free 1
  have Rc2 : w1.cell? ⟨w.heap.size + 1, 2, none⟩ = some (.int .i64 0) := R.cell 2
  have Rf2 : w1.frozen? ⟨w.heap.size + 1, 2, none⟩ = false := R.free 2
  have Rc3 : w1.cell? ⟨w.heap.size + 1, 3, none⟩ = some (.bool false) := R.cell 3
  have Rf3 : w1.frozen? ⟨w.heap.size + 1, 3, none⟩ = false := R.free 3
  have Rz : w.heap.size + 1 < w1.heap.size := R.lt
  go_wp2
  have hY := ((((R.set 0 (.slice none 0 0)).set 1 (.slice none 0 0)).set 2 (.int .i64 0)).set 3 (.bool false))
  have hB := ((((hB.setCell (p := ⟨w.heap.size + 1, 0, none⟩) (by simp <;> omega) (.slice none 0 0)).setCell (p := ⟨w.heap.size + 1, 1, none⟩) (by simp <;> omega) (.slice none 0 0)).setCell (p := ⟨w.heap.size + 1, 2, none⟩) (by simp <;> omega) (.int .i64 0)).setCell (p := ⟨w.heap.size + 1, 3, none⟩) (by simp <;> omega) (.bool false))
  generalize ((((w1.setCell ⟨w.heap.size + 1, 0, none⟩ (.slice none 0 0)).setCell ⟨w.heap.size + 1, 1, none⟩ (.slice none 0 0)).setCell ⟨w.heap.size + 1, 2, none⟩ (.int .i64 0)).setCell ⟨w.heap.size + 1, 3, none⟩ (.bool false)) = W at hY hB ⊢
  have y0 : W.cell? ⟨w.heap.size + 1, 0, none⟩ = some (.slice none 0 0) := hY.cell 0
  have y1 : W.cell? ⟨w.heap.size + 1, 1, none⟩ = some (.slice none 0 0) := hY.cell 1
  have y2 : W.cell? ⟨w.heap.size + 1, 2, none⟩ = some (.int .i64 0) := hY.cell 2
  have y3 : W.cell? ⟨w.heap.size + 1, 3, none⟩ = some (.bool false) := hY.cell 3
  refine bodyPost_ret (v := .tuple #[.agg #[.slice none 0 0, .slice none 0 0, .int .i64 0, .bool false], .int .i64 40]) (by simp [results, Try.results19, go_sem, y0, y1, y2, y3]) rfl ?_
  exact ⟨_, _, Dk.zero, 40, rfl, hs, dkAt_zero _ _, hB⟩

set_option maxRecDepth 100000 in
set_option maxHeartbeats 4000000 in
theorem dWrite_2 (d : Dk) (As : Option Addr) (ns cs : Nat) (Ap : Option Addr) (np cp : Nat) (dl : Int) (ds : Bool) (S : Nat → Prop) (w : World) (hD : Hid (DkAt w S (.slice As ns cs) (.slice Ap np cp) d)) (hdl : Hid (d.left = dl)) (hds : Hid (d.stopped = ds)) (i : Int) (Ab : Option Addr) (nb cb : Nat) (b : Bs) (hr : Hid (d.runs = true)) (hh : Hid (d.hasB i = false)) (hs : Hid (writeT d i b = (Dk.zero, 40))) : Calls Try.prog 19 #[.agg #[.slice As ns cs, .slice Ap np cp, .int .i64 dl, .bool ds], .int .i64 i, .slice Ab nb cb] w (RetDk (writeT d i b) S w) := by
  have HB0 : Below w.heap.size w ((w.alloc (.cells #[.slice As ns cs, .slice Ap np cp, .int .i64 dl, .bool ds] 25)).alloc (.cells #[.slice none 0 0, .slice none 0 0, .int .i64 0, .bool false] 25)) := (((Below.refl w.heap.size w).alloc (by simp <;> omega) (.cells #[.slice As ns cs, .slice Ap np cp, .int .i64 dl, .bool ds] 25)).alloc (by simp <;> omega) (.cells #[.slice none 0 0, .slice none 0 0, .int .i64 0, .bool false] 25))
  have HD0 := Lib.hid (hD.out.keep (Keeps.of HB0))
  go_enter Try.func19, Try.ntmps19
  go_wp2_with fail
  refine (dRuns_at hr HD0.out hdl hds).mono ?_
  rintro e w1 ⟨rfl, hb⟩
  have X0 := (((Box.newAt (n := w.heap.size) [.slice As ns cs, .slice Ap np cp, .int .i64 dl, .bool ds] 25 (by simp)).alloc _)).later hb
  have R := ((Box.newAt (n := w.heap.size + 1) [.slice none 0 0, .slice none 0 0, .int .i64 0, .bool false] 25 (by simp))).later hb
  have hB : Below w.heap.size w w1 := ((((Below.refl w.heap.size w).alloc (by simp <;> omega) _).alloc (by simp <;> omega) _)).trans (hb.mono (by simp <;> omega))
  clear hb
  have X0c0 : w1.cell? ⟨w.heap.size, 0, none⟩ = some (.slice As ns cs) := X0.cell 0
  have X0f0 : w1.frozen? ⟨w.heap.size, 0, none⟩ = false := X0.free 0
  have X0c1 : w1.cell? ⟨w.heap.size, 1, none⟩ = some (.slice Ap np cp) := X0.cell 1
  have X0f1 : w1.frozen? ⟨w.heap.size, 1, none⟩ = false := X0.free 1
  have X0c2 : w1.cell? ⟨w.heap.size, 2, none⟩ = some (.int .i64 dl) := X0.cell 2
  have X0f2 : w1.frozen? ⟨w.heap.size, 2, none⟩ = false := X0.free 2
  have X0c3 : w1.cell? ⟨w.heap.size, 3, none⟩ = some (.bool ds) := X0.cell 3
  have X0f3 : w1.frozen? ⟨w.heap.size, 3, none⟩ = false := X0.free 3
  have X0z : w.heap.size < w1.heap.size := X0.lt
  go_wp2_with fail
  refine (dHas_at hh (hD.out.keep (Keeps.of hB)) hdl hds).mono ?_
  rintro e w2 ⟨rfl, hb⟩
  clear X0c0 X0f0 X0c1 X0f1 X0c2 X0f2 X0c3 X0f3 X0z
  have X0 := X0.later hb
  have R := R.later hb
  have hB := hB.trans (hb.mono hB.size)
  clear hb
  have Rc0 : w2.cell? ⟨w.heap.size + 1, 0, none⟩ = some (.slice none 0 0) := R.cell 0
  have Rf0 : w2.frozen? ⟨w.heap.size + 1, 0, none⟩ = false := R.free 0
  have Rc1 : w2.cell? ⟨w.heap.size + 1, 1, none⟩ = some (.slice none 0 0) := R.cell 1
  have Rf1 : w2.frozen? ⟨w.heap.size + 1, 1, none⟩ = false := R.free 1
  have Rc2 : w2.cell? ⟨w.heap.size + 1, 2, none⟩ = some (.int .i64 0) := R.cell 2
  have Rf2 : w2.frozen? ⟨w.heap.size + 1, 2, none⟩ = false := R.free 2
  have Rc3 : w2.cell? ⟨w.heap.size + 1, 3, none⟩ = some (.bool false) := R.cell 3
  have Rf3 : w2.frozen? ⟨w.heap.size + 1, 3, none⟩ = false := R.free 3
  have Rz : w.heap.size + 1 < w2.heap.size := R.lt
  go_wp2
  have hY := ((((R.set 0 (.slice none 0 0)).set 1 (.slice none 0 0)).set 2 (.int .i64 0)).set 3 (.bool false))
  have hB := ((((hB.setCell (p := ⟨w.heap.size + 1, 0, none⟩) (by simp <;> omega) (.slice none 0 0)).setCell (p := ⟨w.heap.size + 1, 1, none⟩) (by simp <;> omega) (.slice none 0 0)).setCell (p := ⟨w.heap.size + 1, 2, none⟩) (by simp <;> omega) (.int .i64 0)).setCell (p := ⟨w.heap.size + 1, 3, none⟩) (by simp <;> omega) (.bool false))
  generalize ((((w2.setCell ⟨w.heap.size + 1, 0, none⟩ (.slice none 0 0)).setCell ⟨w.heap.size + 1, 1, none⟩ (.slice none 0 0)).setCell ⟨w.heap.size + 1, 2, none⟩ (.int .i64 0)).setCell ⟨w.heap.size + 1, 3, none⟩ (.bool false)) = W at hY hB ⊢
  have y0 : W.cell? ⟨w.heap.size + 1, 0, none⟩ = some (.slice none 0 0) := hY.cell 0
  have y1 : W.cell? ⟨w.heap.size + 1, 1, none⟩ = some (.slice none 0 0) := hY.cell 1
  have y2 : W.cell? ⟨w.heap.size + 1, 2, none⟩ = some (.int .i64 0) := hY.cell 2
  have y3 : W.cell? ⟨w.heap.size + 1, 3, none⟩ = some (.bool false) := hY.cell 3
  refine bodyPost_ret (v := .tuple #[.agg #[.slice none 0 0, .slice none 0 0, .int .i64 0, .bool false], .int .i64 40]) (by simp [results, Try.results19, go_sem, y0, y1, y2, y3]) rfl ?_
  exact ⟨_, _, Dk.zero, 40, rfl, hs, dkAt_zero _ _, hB⟩

set_option maxRecDepth 100000 in
set_option maxHeartbeats 4000000 in
theorem dWrite_3 (d : Dk) (As : Option Addr) (ns cs : Nat) (Ap : Option Addr) (np cp : Nat) (dl : Int) (ds : Bool) (S : Nat → Prop) (w : World) (hD : Hid (DkAt w S (.slice As ns cs) (.slice Ap np cp) d)) (hdl : Hid (d.left = dl)) (hds : Hid (d.stopped = ds)) (i : Int) (Ab : Option Addr) (nb cb : Nat) (b : Bs) (hr : Hid (d.runs = true)) (hh : Hid (d.hasB i = true)) (hl : 128 < nb) (hnb : nb ≤ 9223372036854775807) (hs : Hid (writeT d i b = (Dk.zero, 1))) : Calls Try.prog 19 #[.agg #[.slice As ns cs, .slice Ap np cp, .int .i64 dl, .bool ds], .int .i64 i, .slice Ab nb cb] w (RetDk (writeT d i b) S w) := by
  have HB0 : Below w.heap.size w ((w.alloc (.cells #[.slice As ns cs, .slice Ap np cp, .int .i64 dl, .bool ds] 25)).alloc (.cells #[.slice none 0 0, .slice none 0 0, .int .i64 0, .bool false] 25)) := (((Below.refl w.heap.size w).alloc (by simp <;> omega) (.cells #[.slice As ns cs, .slice Ap np cp, .int .i64 dl, .bool ds] 25)).alloc (by simp <;> omega) (.cells #[.slice none 0 0, .slice none 0 0, .int .i64 0, .bool false] 25))
  have HD0 := Lib.hid (hD.out.keep (Keeps.of HB0))
  go_enter Try.func19, Try.ntmps19
  go_wp2_with fail
  refine (dRuns_at hr HD0.out hdl hds).mono ?_
  rintro e w1 ⟨rfl, hb⟩
  have X0 := (((Box.newAt (n := w.heap.size) [.slice As ns cs, .slice Ap np cp, .int .i64 dl, .bool ds] 25 (by simp)).alloc _)).later hb
  have R := ((Box.newAt (n := w.heap.size + 1) [.slice none 0 0, .slice none 0 0, .int .i64 0, .bool false] 25 (by simp))).later hb
  have hB : Below w.heap.size w w1 := ((((Below.refl w.heap.size w).alloc (by simp <;> omega) _).alloc (by simp <;> omega) _)).trans (hb.mono (by simp <;> omega))
  clear hb
  have X0c0 : w1.cell? ⟨w.heap.size, 0, none⟩ = some (.slice As ns cs) := X0.cell 0
  have X0f0 : w1.frozen? ⟨w.heap.size, 0, none⟩ = false := X0.free 0
  have X0c1 : w1.cell? ⟨w.heap.size, 1, none⟩ = some (.slice Ap np cp) := X0.cell 1
  have X0f1 : w1.frozen? ⟨w.heap.size, 1, none⟩ = false := X0.free 1
  have X0c2 : w1.cell? ⟨w.heap.size, 2, none⟩ = some (.int .i64 dl) := X0.cell 2
  have X0f2 : w1.frozen? ⟨w.heap.size, 2, none⟩ = false := X0.free 2
  have X0c3 : w1.cell? ⟨w.heap.size, 3, none⟩ = some (.bool ds) := X0.cell 3
  have X0f3 : w1.frozen? ⟨w.heap.size, 3, none⟩ = false := X0.free 3
  have X0z : w.heap.size < w1.heap.size := X0.lt
  go_wp2_with fail
  refine (dHas_at hh (hD.out.keep (Keeps.of hB)) hdl hds).mono ?_
  rintro e w2 ⟨rfl, hb⟩
  clear X0c0 X0f0 X0c1 X0f1 X0c2 X0f2 X0c3 X0f3 X0z
  have X0 := X0.later hb
  have R := R.later hb
  have hB := hB.trans (hb.mono hB.size)
  clear hb
  have Rc0 : w2.cell? ⟨w.heap.size + 1, 0, none⟩ = some (.slice none 0 0) := R.cell 0
  have Rf0 : w2.frozen? ⟨w.heap.size + 1, 0, none⟩ = false := R.free 0
  have Rc1 : w2.cell? ⟨w.heap.size + 1, 1, none⟩ = some (.slice none 0 0) := R.cell 1
  have Rf1 : w2.frozen? ⟨w.heap.size + 1, 1, none⟩ = false := R.free 1
  have Rc2 : w2.cell? ⟨w.heap.size + 1, 2, none⟩ = some (.int .i64 0) := R.cell 2
  have Rf2 : w2.frozen? ⟨w.heap.size + 1, 2, none⟩ = false := R.free 2
  have Rc3 : w2.cell? ⟨w.heap.size + 1, 3, none⟩ = some (.bool false) := R.cell 3
  have Rf3 : w2.frozen? ⟨w.heap.size + 1, 3, none⟩ = false := R.free 3
  have Rz : w.heap.size + 1 < w2.heap.size := R.lt
  go_wp2
  have hY := ((((R.set 0 (.slice none 0 0)).set 1 (.slice none 0 0)).set 2 (.int .i64 0)).set 3 (.bool false))
  have hB := ((((hB.setCell (p := ⟨w.heap.size + 1, 0, none⟩) (by simp <;> omega) (.slice none 0 0)).setCell (p := ⟨w.heap.size + 1, 1, none⟩) (by simp <;> omega) (.slice none 0 0)).setCell (p := ⟨w.heap.size + 1, 2, none⟩) (by simp <;> omega) (.int .i64 0)).setCell (p := ⟨w.heap.size + 1, 3, none⟩) (by simp <;> omega) (.bool false))
  generalize ((((w2.setCell ⟨w.heap.size + 1, 0, none⟩ (.slice none 0 0)).setCell ⟨w.heap.size + 1, 1, none⟩ (.slice none 0 0)).setCell ⟨w.heap.size + 1, 2, none⟩ (.int .i64 0)).setCell ⟨w.heap.size + 1, 3, none⟩ (.bool false)) = W at hY hB ⊢
  have y0 : W.cell? ⟨w.heap.size + 1, 0, none⟩ = some (.slice none 0 0) := hY.cell 0
  have y1 : W.cell? ⟨w.heap.size + 1, 1, none⟩ = some (.slice none 0 0) := hY.cell 1
  have y2 : W.cell? ⟨w.heap.size + 1, 2, none⟩ = some (.int .i64 0) := hY.cell 2
  have y3 : W.cell? ⟨w.heap.size + 1, 3, none⟩ = some (.bool false) := hY.cell 3
  refine bodyPost_ret (v := .tuple #[.agg #[.slice none 0 0, .slice none 0 0, .int .i64 0, .bool false], .int .i64 1]) (by simp [results, Try.results19, go_sem, y0, y1, y2, y3]) rfl ?_
  exact ⟨_, _, Dk.zero, 1, rfl, hs, dkAt_zero _ _, hB⟩

set_option maxRecDepth 100000 in
set_option maxHeartbeats 4000000 in
theorem dWrite_4 (d : Dk) (As : Option Addr) (ns cs : Nat) (Ap : Option Addr) (np cp : Nat) (dl : Int) (ds : Bool) (S : Nat → Prop) (w : World) (hD : Hid (DkAt w S (.slice As ns cs) (.slice Ap np cp) d)) (hdl : Hid (d.left = dl)) (hds : Hid (d.stopped = ds)) (i : Int) (Ab : Option Addr) (nb cb : Nat) (b : Bs) (hr : Hid (d.runs = true)) (hh : Hid (d.hasB i = true)) (hl : nb ≤ 128) (hp : (np == 4096) = true) (hs : Hid (writeT d i b = (Dk.zero, 2))) : Calls Try.prog 19 #[.agg #[.slice As ns cs, .slice Ap np cp, .int .i64 dl, .bool ds], .int .i64 i, .slice Ab nb cb] w (RetDk (writeT d i b) S w) := by
  have HB0 : Below w.heap.size w ((w.alloc (.cells #[.slice As ns cs, .slice Ap np cp, .int .i64 dl, .bool ds] 25)).alloc (.cells #[.slice none 0 0, .slice none 0 0, .int .i64 0, .bool false] 25)) := (((Below.refl w.heap.size w).alloc (by simp <;> omega) (.cells #[.slice As ns cs, .slice Ap np cp, .int .i64 dl, .bool ds] 25)).alloc (by simp <;> omega) (.cells #[.slice none 0 0, .slice none 0 0, .int .i64 0, .bool false] 25))
  have HD0 := Lib.hid (hD.out.keep (Keeps.of HB0))
  go_enter Try.func19, Try.ntmps19
  go_wp2_with fail
  refine (dRuns_at hr HD0.out hdl hds).mono ?_
  rintro e w1 ⟨rfl, hb⟩
  have X0 := (((Box.newAt (n := w.heap.size) [.slice As ns cs, .slice Ap np cp, .int .i64 dl, .bool ds] 25 (by simp)).alloc _)).later hb
  have R := ((Box.newAt (n := w.heap.size + 1) [.slice none 0 0, .slice none 0 0, .int .i64 0, .bool false] 25 (by simp))).later hb
  have hB : Below w.heap.size w w1 := ((((Below.refl w.heap.size w).alloc (by simp <;> omega) _).alloc (by simp <;> omega) _)).trans (hb.mono (by simp <;> omega))
  clear hb
  have X0c0 : w1.cell? ⟨w.heap.size, 0, none⟩ = some (.slice As ns cs) := X0.cell 0
  have X0f0 : w1.frozen? ⟨w.heap.size, 0, none⟩ = false := X0.free 0
  have X0c1 : w1.cell? ⟨w.heap.size, 1, none⟩ = some (.slice Ap np cp) := X0.cell 1
  have X0f1 : w1.frozen? ⟨w.heap.size, 1, none⟩ = false := X0.free 1
  have X0c2 : w1.cell? ⟨w.heap.size, 2, none⟩ = some (.int .i64 dl) := X0.cell 2
  have X0f2 : w1.frozen? ⟨w.heap.size, 2, none⟩ = false := X0.free 2
  have X0c3 : w1.cell? ⟨w.heap.size, 3, none⟩ = some (.bool ds) := X0.cell 3
  have X0f3 : w1.frozen? ⟨w.heap.size, 3, none⟩ = false := X0.free 3
  have X0z : w.heap.size < w1.heap.size := X0.lt
  go_wp2_with fail
  refine (dHas_at hh (hD.out.keep (Keeps.of hB)) hdl hds).mono ?_
  rintro e w2 ⟨rfl, hb⟩
  clear X0c0 X0f0 X0c1 X0f1 X0c2 X0f2 X0c3 X0f3 X0z
  have X0 := X0.later hb
  have R := R.later hb
  have hB := hB.trans (hb.mono hB.size)
  clear hb
  have X0c0 : w2.cell? ⟨w.heap.size, 0, none⟩ = some (.slice As ns cs) := X0.cell 0
  have X0f0 : w2.frozen? ⟨w.heap.size, 0, none⟩ = false := X0.free 0
  have X0c1 : w2.cell? ⟨w.heap.size, 1, none⟩ = some (.slice Ap np cp) := X0.cell 1
  have X0f1 : w2.frozen? ⟨w.heap.size, 1, none⟩ = false := X0.free 1
  have X0c2 : w2.cell? ⟨w.heap.size, 2, none⟩ = some (.int .i64 dl) := X0.cell 2
  have X0f2 : w2.frozen? ⟨w.heap.size, 2, none⟩ = false := X0.free 2
  have X0c3 : w2.cell? ⟨w.heap.size, 3, none⟩ = some (.bool ds) := X0.cell 3
  have X0f3 : w2.frozen? ⟨w.heap.size, 3, none⟩ = false := X0.free 3
  have X0z : w.heap.size < w2.heap.size := X0.lt
  have Rc0 : w2.cell? ⟨w.heap.size + 1, 0, none⟩ = some (.slice none 0 0) := R.cell 0
  have Rf0 : w2.frozen? ⟨w.heap.size + 1, 0, none⟩ = false := R.free 0
  have Rc1 : w2.cell? ⟨w.heap.size + 1, 1, none⟩ = some (.slice none 0 0) := R.cell 1
  have Rf1 : w2.frozen? ⟨w.heap.size + 1, 1, none⟩ = false := R.free 1
  have Rc2 : w2.cell? ⟨w.heap.size + 1, 2, none⟩ = some (.int .i64 0) := R.cell 2
  have Rf2 : w2.frozen? ⟨w.heap.size + 1, 2, none⟩ = false := R.free 2
  have Rc3 : w2.cell? ⟨w.heap.size + 1, 3, none⟩ = some (.bool false) := R.cell 3
  have Rf3 : w2.frozen? ⟨w.heap.size + 1, 3, none⟩ = false := R.free 3
  have Rz : w.heap.size + 1 < w2.heap.size := R.lt
  go_wp2
  have hY := ((((R.set 0 (.slice none 0 0)).set 1 (.slice none 0 0)).set 2 (.int .i64 0)).set 3 (.bool false))
  have hB := ((((hB.setCell (p := ⟨w.heap.size + 1, 0, none⟩) (by simp <;> omega) (.slice none 0 0)).setCell (p := ⟨w.heap.size + 1, 1, none⟩) (by simp <;> omega) (.slice none 0 0)).setCell (p := ⟨w.heap.size + 1, 2, none⟩) (by simp <;> omega) (.int .i64 0)).setCell (p := ⟨w.heap.size + 1, 3, none⟩) (by simp <;> omega) (.bool false))
  generalize ((((w2.setCell ⟨w.heap.size + 1, 0, none⟩ (.slice none 0 0)).setCell ⟨w.heap.size + 1, 1, none⟩ (.slice none 0 0)).setCell ⟨w.heap.size + 1, 2, none⟩ (.int .i64 0)).setCell ⟨w.heap.size + 1, 3, none⟩ (.bool false)) = W at hY hB ⊢
  have y0 : W.cell? ⟨w.heap.size + 1, 0, none⟩ = some (.slice none 0 0) := hY.cell 0
  have y1 : W.cell? ⟨w.heap.size + 1, 1, none⟩ = some (.slice none 0 0) := hY.cell 1
  have y2 : W.cell? ⟨w.heap.size + 1, 2, none⟩ = some (.int .i64 0) := hY.cell 2
  have y3 : W.cell? ⟨w.heap.size + 1, 3, none⟩ = some (.bool false) := hY.cell 3
  refine bodyPost_ret (v := .tuple #[.agg #[.slice none 0 0, .slice none 0 0, .int .i64 0, .bool false], .int .i64 2]) (by simp [results, Try.results19, go_sem, y0, y1, y2, y3]) rfl ?_
  exact ⟨_, _, Dk.zero, 2, rfl, hs, dkAt_zero _ _, hB⟩

set_option maxRecDepth 100000 in
set_option maxHeartbeats 4000000 in
theorem dWrite_5 (d : Dk) (As : Option Addr) (ns cs : Nat) (Ap : Option Addr) (np cp : Nat) (dl : Int) (ds : Bool) (S : Nat → Prop) (w : World) (hD : Hid (DkAt w S (.slice As ns cs) (.slice Ap np cp) d)) (hdl : Hid (d.left = dl)) (hds : Hid (d.stopped = ds)) (i : Int) (Ab : Option Addr) (nb cb : Nat) (b : Bs) (hr : Hid (d.runs = true)) (hh : Hid (d.hasB i = true)) (hl : nb ≤ 128) (hp : (np == 4096) = false) (hnp : Hid (np ≤ 4096)) (hpl : Hid (d.pending.length = np)) (hbl : Hid (b.length = nb)) (hb : Hid (BsAt w S (.slice Ab nb cb) b)) (hs : Hid (writeT d i b = (⟨d.sectors, d.pending ++ [⟨i, padTo b⟩], d.left, d.stopped⟩, 0))) : Calls Try.prog 19 #[.agg #[.slice As ns cs, .slice Ap np cp, .int .i64 dl, .bool ds], .int .i64 i, .slice Ab nb cb] w (RetDk (writeT d i b) S w) := by
  have HB0 : Below w.heap.size w ((w.alloc (.cells #[.slice As ns cs, .slice Ap np cp, .int .i64 dl, .bool ds] 25)).alloc (.cells #[.slice none 0 0, .slice none 0 0, .int .i64 0, .bool false] 25)) := (((Below.refl w.heap.size w).alloc (by simp <;> omega) (.cells #[.slice As ns cs, .slice Ap np cp, .int .i64 dl, .bool ds] 25)).alloc (by simp <;> omega) (.cells #[.slice none 0 0, .slice none 0 0, .int .i64 0, .bool false] 25))
  have HD0 := Lib.hid (hD.out.keep (Keeps.of HB0))
  go_enter Try.func19, Try.ntmps19
  go_wp2_with fail
  refine (dRuns_at hr HD0.out hdl hds).mono ?_
  rintro e w1 ⟨rfl, hb⟩
  have X0 := (((Box.newAt (n := w.heap.size) [.slice As ns cs, .slice Ap np cp, .int .i64 dl, .bool ds] 25 (by simp)).alloc _)).later hb
  have R := ((Box.newAt (n := w.heap.size + 1) [.slice none 0 0, .slice none 0 0, .int .i64 0, .bool false] 25 (by simp))).later hb
  have hB : Below w.heap.size w w1 := ((((Below.refl w.heap.size w).alloc (by simp <;> omega) _).alloc (by simp <;> omega) _)).trans (hb.mono (by simp <;> omega))
  clear hb
  have X0c0 : w1.cell? ⟨w.heap.size, 0, none⟩ = some (.slice As ns cs) := X0.cell 0
  have X0f0 : w1.frozen? ⟨w.heap.size, 0, none⟩ = false := X0.free 0
  have X0c1 : w1.cell? ⟨w.heap.size, 1, none⟩ = some (.slice Ap np cp) := X0.cell 1
  have X0f1 : w1.frozen? ⟨w.heap.size, 1, none⟩ = false := X0.free 1
  have X0c2 : w1.cell? ⟨w.heap.size, 2, none⟩ = some (.int .i64 dl) := X0.cell 2
  have X0f2 : w1.frozen? ⟨w.heap.size, 2, none⟩ = false := X0.free 2
  have X0c3 : w1.cell? ⟨w.heap.size, 3, none⟩ = some (.bool ds) := X0.cell 3
  have X0f3 : w1.frozen? ⟨w.heap.size, 3, none⟩ = false := X0.free 3
  have X0z : w.heap.size < w1.heap.size := X0.lt
  go_wp2_with fail
  refine (dHas_at hh (hD.out.keep (Keeps.of hB)) hdl hds).mono ?_
  rintro e w2 ⟨rfl, hb⟩
  clear X0c0 X0f0 X0c1 X0f1 X0c2 X0f2 X0c3 X0f3 X0z
  have X0 := X0.later hb
  have R := R.later hb
  have hB := hB.trans (hb.mono hB.size)
  clear hb
  obtain ⟨w3, hmk, ho3, hb3⟩ := make_bs w2
  obtain ⟨w4, hcp0, ho4, hg4⟩ := run_copB (S := S) 3 ho3 zeros_length (Nat.le_refl 128) (((hb.out.keep (Keeps.of hB)).keep (Keeps.of hb3))) hbl.out
  obtain ⟨g, hg⟩ : ∃ g, w2.heap.size = g := ⟨_, rfl⟩
  have hb4 : Below w2.heap.size w2 w4 := hb3.grown hg4 hb3.size (fun k hk => by cases hk; exact Nat.le_refl _)
  have hcp : (copF #[35, 35] 3 #[.slice (some ⟨w2.heap.size, 0, none⟩) 128 128, .slice Ab nb cb]).run Try.prog w3 = .ok (goInt (Nat.min nb 128)) w4 := hcp0
  have hpad : b.take (Nat.min nb 128) ++ zeros.drop (Nat.min nb 128) = padTo b := by
    rw [show Nat.min nb 128 = nb from Nat.min_eq_left hl, List.take_of_length_le (Nat.le_of_eq hbl.out), padTo, hbl.out]
    rw [zeros, List.drop_replicate]
  rw [hpad] at ho4
  have HO4 := Lib.hid ho4
  have X4 := X0.later hb4
  have R4 := R.later hb4
  have hB4 := hB.trans (hb4.mono hB.size)
  clear hcp0 ho3 ho4 hg4 hpad hb3
  rw [hg] at hmk hcp HO4 hb4
  have X0c0 : w2.cell? ⟨w.heap.size, 0, none⟩ = some (.slice As ns cs) := X0.cell 0
  have X0f0 : w2.frozen? ⟨w.heap.size, 0, none⟩ = false := X0.free 0
  have X0c1 : w2.cell? ⟨w.heap.size, 1, none⟩ = some (.slice Ap np cp) := X0.cell 1
  have X0f1 : w2.frozen? ⟨w.heap.size, 1, none⟩ = false := X0.free 1
  have X0c2 : w2.cell? ⟨w.heap.size, 2, none⟩ = some (.int .i64 dl) := X0.cell 2
  have X0f2 : w2.frozen? ⟨w.heap.size, 2, none⟩ = false := X0.free 2
  have X0c3 : w2.cell? ⟨w.heap.size, 3, none⟩ = some (.bool ds) := X0.cell 3
  have X0f3 : w2.frozen? ⟨w.heap.size, 3, none⟩ = false := X0.free 3
  have X0z : w.heap.size < w2.heap.size := X0.lt
  have y1 : w4.cell? ⟨w.heap.size, 1, none⟩ = some (.slice Ap np cp) := X4.cell 1
  have yz : w.heap.size < w4.heap.size := X4.lt
  go_wp2_with fail
  clear X0c0 X0f0 X0c1 X0f1 X0c2 X0f2 X0c3 X0f3 X0z y1 yz hmk hcp
  refine (dCloneW_any d.pending _ (Old S w) _ (hD.out.old.keep (Keeps.of hB4)).pending (by rw [hpl.out]; have := hnp.out; omega)).mono ?_
  rintro e w5 ⟨V, rfl, hV, hb5⟩
  obtain ⟨Av, cv, rfl, _⟩ := hV.form
  rw [hpl.out] at hV
  have X5 := X4.later hb5
  have R5 := R4.later hb5
  have hB5 := hB4.trans (hb5.mono hB4.size)
  have hO5 : BsAt w5 (fun k => g ≤ k) (.slice (some ⟨g, 0, none⟩) 128 128) (padTo b) := by
    have hlen : (padTo b).length = 128 := by rw [padTo, List.length_append, List.length_replicate, hbl.out]; omega
    exact (HO4.out.bs (by rw [hlen]; simp [maxLen])).keep (Keeps.of hb5)
  have HO5 := Lib.hid hO5
  have HV := Lib.hid hV
  have hg4 : w.heap.size + 1 < g := by rw [← hg]; exact R.lt
  have hw4 : w.heap.size + 1 < w4.heap.size := R4.lt
  clear hb5 hV hO5 X4 R4 hB4 HO4 hb4 X0 R hB
  rw [hpl.out]
  go_wp2_with fail
  refine (dClipW_any d.pending _ _ _ _ _ HV.out).mono ?_
  rintro e w6 ⟨rfl, hV, rfl⟩
  clear HV
  have hbA := (Below.refl w5.heap.size w5).alloc (Nat.le_refl _) (.cells #[.int .i64 i, .slice (some ⟨g, 0, none⟩) 128 128] 54)
  have BX := Box.new w5 [.int .i64 i, .slice (some ⟨g, 0, none⟩) 128 128] 54
  obtain ⟨v', w7, hr0, hW, hb7⟩ := run_appW d.pending ⟨i, padTo b⟩ (hV.out.keep (Keeps.of hbA)) hpl.out BX ((HO5.out.keep (Keeps.of hbA))) (by have := hnp.out; omega)
  obtain ⟨A7, c7, rfl, _⟩ := hW.form
  have hr : (appF #[23, 23] 23 #[.slice Av np np, .slice (some ⟨w5.heap.size, 0, none⟩) 1 1]).run Try.prog (w5.alloc (.cells #[.int .i64 i, .slice (some ⟨g, 0, none⟩) 128 128] 54)) = .ok _ w7 := hr0
  clear hr0
  have hlen : Hid ((d.pending ++ [(⟨i, padTo b⟩ : Wr)]).length = np + 1) := by rw [Hid, List.length_append, hpl.out]; rfl
  rw [hlen.out] at hr hW
  have HW := Lib.hid hW
  have hb75 := hbA.trans (hb7.mono hbA.size)
  have X7 := X5.later hb75
  have R7 := R5.later hb75
  have hB7 := hB5.trans (hb75.mono hB5.size)
  have X5z := R5.lt
  clear hV hW hbA BX hb7 hb75 X5 R5 hB5
  have y0 : w7.cell? ⟨w.heap.size, 0, none⟩ = some (.slice As ns cs) := X7.cell 0
  have y1 : w7.cell? ⟨w.heap.size, 1, none⟩ = some (.slice Ap np cp) := X7.cell 1
  have y2 : w7.cell? ⟨w.heap.size, 2, none⟩ = some (.int .i64 dl) := X7.cell 2
  have y3 : w7.cell? ⟨w.heap.size, 3, none⟩ = some (.bool ds) := X7.cell 3
  have yf := X7.free 1
  have yz : w.heap.size < w7.heap.size := X7.lt
  have r0 : w7.cell? ⟨w.heap.size + 1, 0, none⟩ = some (.slice none 0 0) := R7.cell 0
  have r1 : w7.cell? ⟨w.heap.size + 1, 1, none⟩ = some (.slice none 0 0) := R7.cell 1
  have r2 : w7.cell? ⟨w.heap.size + 1, 2, none⟩ = some (.int .i64 0) := R7.cell 2
  have r3 : w7.cell? ⟨w.heap.size + 1, 3, none⟩ = some (.bool false) := R7.cell 3
  have f0 := R7.free 0
  have f1 := R7.free 1
  have f2 := R7.free 2
  have f3 := R7.free 3
  have rz : w.heap.size + 1 < w7.heap.size := R7.lt
  go_wp2
  have hne : w.heap.size + 1 ≠ w.heap.size := by omega
  have hs5 : w.heap.size + 1 < (w5.alloc (.cells #[.int .i64 i, .slice (some ⟨g, 0, none⟩) 128 128] 54)).heap.size := by have := X5z; simp; omega
  have ZR := ((((R7.other (a := ⟨w.heap.size, 1, none⟩) hne (.slice A7 (np + 1) c7)).set 0 (.slice As ns cs)).set 1 (.slice A7 (np + 1) c7)).set 2 (.int .i64 dl)).set 3 (.bool ds)
  have HB := ((((hB7.setCell (p := ⟨w.heap.size, 1, none⟩) (Nat.le_refl _) (.slice A7 (np + 1) c7)).setCell (p := ⟨w.heap.size + 1, 0, none⟩) (Nat.le_succ _) (.slice As ns cs)).setCell (p := ⟨w.heap.size + 1, 1, none⟩) (Nat.le_succ _) (.slice A7 (np + 1) c7)).setCell (p := ⟨w.heap.size + 1, 2, none⟩) (Nat.le_succ _) (.int .i64 dl)).setCell (p := ⟨w.heap.size + 1, 3, none⟩) (Nat.le_succ _) (.bool ds)
  have n1 : ∀ x, (x = w.heap.size ∨ x = w.heap.size + 1) → ¬ ((Grow (Grow (Old S w) w4) (w5.alloc (.cells #[.int .i64 i, .slice (some ⟨g, 0, none⟩) 128 128] 54))) x ∨ g ≤ x) := by
    intro x hx h
    rcases h with ((⟨_, h⟩ | h) | h) | h <;> omega
  have HK : Keeps (fun x => (Grow (Grow (Old S w) w4) (w5.alloc (.cells #[.int .i64 i, .slice (some ⟨g, 0, none⟩) 128 128] 54))) x ∨ g ≤ x) w7 (((((w7.setCell ⟨w.heap.size, 1, none⟩ (.slice A7 (np + 1) c7)).setCell ⟨w.heap.size + 1, 0, none⟩ (.slice As ns cs)).setCell ⟨w.heap.size + 1, 1, none⟩ (.slice A7 (np + 1) c7)).setCell ⟨w.heap.size + 1, 2, none⟩ (.int .i64 dl)).setCell ⟨w.heap.size + 1, 3, none⟩ (.bool ds)) :=
    Keeps.trans (Keeps.trans (Keeps.trans (Keeps.trans (Keeps.set _ (n1 _ (.inl rfl)) _) (Keeps.set _ (n1 _ (.inr rfl)) _)) (Keeps.set _ (n1 _ (.inr rfl)) _)) (Keeps.set _ (n1 _ (.inr rfl)) _)) (Keeps.set _ (n1 _ (.inr rfl)) _)
  have HP := HW.out.keep HK
  generalize ((((w7.setCell ⟨w.heap.size, 1, none⟩ (.slice A7 (np + 1) c7)).setCell ⟨w.heap.size + 1, 0, none⟩ (.slice As ns cs)).setCell ⟨w.heap.size + 1, 1, none⟩ (.slice A7 (np + 1) c7)).setCell ⟨w.heap.size + 1, 2, none⟩ (.int .i64 dl)).setCell ⟨w.heap.size + 1, 3, none⟩ (.bool ds) = W at ZR HB HP ⊢
  have z0 : W.cell? ⟨w.heap.size + 1, 0, none⟩ = some (.slice As ns cs) := ZR.cell 0
  have z1 : W.cell? ⟨w.heap.size + 1, 1, none⟩ = some (.slice A7 (np + 1) c7) := ZR.cell 1
  have z2 : W.cell? ⟨w.heap.size + 1, 2, none⟩ = some (.int .i64 dl) := ZR.cell 2
  have z3 : W.cell? ⟨w.heap.size + 1, 3, none⟩ = some (.bool ds) := ZR.cell 3
  refine bodyPost_ret (v := .tuple #[.agg #[.slice As ns cs, .slice A7 (np + 1) c7, .int .i64 dl, .bool ds], .int .i64 0]) (by simp [results, Try.results19, go_sem, z0, z1, z2, z3]) rfl ?_
  refine ⟨_, _, _, 0, by rw [Dk.v, hdl.out, hds.out], hs, Lib.hid ⟨(hD.out.sectors.keep (Keeps.of HB)).weak (fun b h _ => .inl h), HP.weak (fun b h _ => ?_)⟩, HB⟩
  rcases h with ((⟨h, _⟩ | h) | h) | h
  · exact .inl h
  · exact .inr (by omega)
  · exact .inr (by omega)
  · exact .inr (by omega)

theorem dWrite_any (d : Dk) (Vs Vp : Value) (i : Int) (Vb : Value) (b : Bs) (S : Nat → Prop) (w : World) (hD : DkAt w S Vs Vp d) (hb : BsAt w S Vb b) : Calls Try.prog 19 #[d.v Vs Vp, .int .i64 i, Vb] w (RetDk (writeT d i b) S w) := by
  obtain ⟨As, cs, rfl, _⟩ := hD.sectors.form
  obtain ⟨Ap, cp, rfl, _⟩ := hD.pending.form
  obtain ⟨Ab, cb, rfl, hbm⟩ := hb.form
  rcases hr : d.runs with _ | _
  · exact dWrite_1 d As _ cs Ap _ cp _ _ S w hD rfl rfl i Ab _ cb b hr (by rw [Hid, writeT, if_neg (by rw [hr]; simp)])
  · rcases hh : d.hasB i with _ | _
    · exact dWrite_2 d As _ cs Ap _ cp _ _ S w hD rfl rfl i Ab _ cb b hr hh (by rw [Hid, writeT, if_neg (by rw [hh]; simp)])
    · by_cases hl : b.length ≤ 128
      · by_cases hp : d.pending.length = 4096
        · exact dWrite_4 d As _ cs Ap _ cp _ _ S w hD rfl rfl i Ab _ cb b hr hh hl (by simp [hp]) (by rw [Hid, writeT, if_pos ⟨hr, hh⟩, if_pos hl, if_pos hp])
        · exact dWrite_5 d As _ cs Ap _ cp _ _ S w hD rfl rfl i Ab _ cb b hr hh hl (by simp [hp]) (okB_parts (runs_ok hr).1).2.2.1 rfl rfl hb (by rw [Hid, writeT, if_pos ⟨hr, hh⟩, if_pos hl, if_neg hp])
      · exact dWrite_3 d As _ cs Ap _ cp _ _ S w hD rfl rfl i Ab _ cb b hr hh (by omega) (by simpa [maxLen] using hbm) (by rw [Hid, writeT, if_pos ⟨hr, hh⟩, if_neg hl])

end Go.Proofs.Ytdmeogkdoeaemaa
