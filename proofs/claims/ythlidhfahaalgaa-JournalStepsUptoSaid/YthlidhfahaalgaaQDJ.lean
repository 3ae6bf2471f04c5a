/- Contract of Sync of disk. (Printed by gen_dj.py.) -/
import Derived.Test.YthlidhfahaalgaaQK
import Derived.Test.YthlidhfahaalgaaQJB
import Derived.Deep.RegionHeld3
import Derived.Deep.DrawnRows
set_option linter.unusedVariables false
set_option linter.unusedSimpArgs false
set_option maxRecDepth 100000
set_option maxHeartbeats 8000000
namespace Go.Proofs.Ythlidhfahaalgaa
open Go.RowKit
attribute [local go_sem ↓ high] app_named cop_named
attribute [local go_sem ↓] Go.wp_at_zero Go.wp_at_succ
theorem dSync_1 (d : Dk) (As : Option Addr) (ns cs : Nat) (Ap : Option Addr) (np cp : Nat) (dl : Int) (ds : Bool) (S : Nat → Prop) (w : World) (hD : Hid (DkAt w S (.slice As ns cs) (.slice Ap np cp) d)) (hdl : Hid (d.left = dl)) (hds : Hid (d.stopped = ds)) (hr : Hid (d.runs = false)) (hs : Hid (syncT d = (Dk.zero, 40))) : Calls Try.prog 27 #[.agg #[.slice As ns cs, .slice Ap np cp, .int .i64 dl, .bool ds]] w (RetDk (syncT d) S w) := by
  have HB0 : Below w.heap.size w ((w.alloc (.cells #[.slice As ns cs, .slice Ap np cp, .int .i64 dl, .bool ds] 25)).alloc (.cells #[.slice none 0 0, .slice none 0 0, .int .i64 0, .bool false] 25)) := (((Below.refl w.heap.size w).alloc (by simp <;> omega) (.cells #[.slice As ns cs, .slice Ap np cp, .int .i64 dl, .bool ds] 25)).alloc (by simp <;> omega) (.cells #[.slice none 0 0, .slice none 0 0, .int .i64 0, .bool false] 25))
  have HD0 := Lib.hid (hD.out.keep (Keeps.of HB0))
  go_enter Try.func27, Try.ntmps27
  go_wp2_with fail
  refine (dRuns_at hr HD0.out hdl hds).mono ?_
  rintro e w1 ⟨rfl, hb⟩
  have X0 := (((Box.newAt (n := w.heap.size) [.slice As ns cs, .slice Ap np cp, .int .i64 dl, .bool ds] 25 (by simp)).alloc _)).later hb
  have R := ((Box.newAt (n := w.heap.size + 1) [.slice none 0 0, .slice none 0 0, .int .i64 0, .bool false] 25 (by simp))).later hb
  have hB : Below w.heap.size w w1 := ((((Below.refl w.heap.size w).alloc (by simp <;> omega) _).alloc (by simp <;> omega) _)).trans (hb.mono (by simp <;> omega))
  clear hb
  obtain ⟨Rc0, Rf0, Rc1, Rf1, Rc2, Rf2, Rc3, Rf3⟩ := R.f4
  have Rz : w.heap.size + 1 < w1.heap.size := R.lt
  go_wp2
  have hY := ((((R.set 0 (.slice none 0 0)).set 1 (.slice none 0 0)).set 2 (.int .i64 0)).set 3 (.bool false))
  have hB := ((((hB.setCell (p := ⟨w.heap.size + 1, 0, none⟩) (by simp <;> omega) (.slice none 0 0)).setCell (p := ⟨w.heap.size + 1, 1, none⟩) (by simp <;> omega) (.slice none 0 0)).setCell (p := ⟨w.heap.size + 1, 2, none⟩) (by simp <;> omega) (.int .i64 0)).setCell (p := ⟨w.heap.size + 1, 3, none⟩) (by simp <;> omega) (.bool false))
  generalize ((((w1.setCell ⟨w.heap.size + 1, 0, none⟩ (.slice none 0 0)).setCell ⟨w.heap.size + 1, 1, none⟩ (.slice none 0 0)).setCell ⟨w.heap.size + 1, 2, none⟩ (.int .i64 0)).setCell ⟨w.heap.size + 1, 3, none⟩ (.bool false)) = W at hY hB ⊢
  obtain ⟨y0, y1, y2, y3⟩ := hY.c4
  refine bodyPost_ret (v := .tuple #[.agg #[.slice none 0 0, .slice none 0 0, .int .i64 0, .bool false], .int .i64 40]) (by simp [results, Try.results27, go_sem, y0, y1, y2, y3]) rfl ?_
  exact ⟨_, _, Dk.zero, 40, rfl, hs, dkAt_zero _ _, hB⟩
theorem dSync_2 (d : Dk) (As : Option Addr) (ns cs : Nat) (Ap : Option Addr) (np cp : Nat) (j : Nat) (ds : Bool) (S : Nat → Prop) (w : World) (hD : Hid (DkAt w S (.slice As ns cs) (.slice Ap np cp) d)) (hdl : Hid (d.left = (j : Int))) (hds : Hid (d.stopped = ds)) (hr : Hid (d.runs = true)) (hj : j < np) (hnp : Hid (d.pending.length = np)) (hns : Hid (d.sectors.length = ns)) (hs : Hid (syncT d = (⟨tornS d, [], 0, true⟩, 40))) : Calls Try.prog 27 #[.agg #[.slice As ns cs, .slice Ap np cp, .int .i64 j, .bool ds]] w (RetDk (syncT d) S w) := by
  obtain ⟨k1, k2, k3, k4, k5, k6, k7⟩ := okB_parts (runs_ok hr.out).1
  have hjl : j < d.pending.length := by rw [hnp.out]; exact hj
  obtain ⟨bp, offp, U, rfl, hSp, hbw, q0, q1, hU⟩ := hD.out.pending.wr hjl
  obtain ⟨hx1, hx2, hx3⟩ := k6 _ (List.getElem_mem hjl)
  have HIN : Hid (∀ x ∈ d.pending.take j, 0 ≤ x.at' ∧ x.at' < (d.sectors.length : Int)) := fun x hx => ⟨(k6 x (List.mem_of_mem_take hx)).1, (k6 x (List.mem_of_mem_take hx)).2.1⟩
  have HLEN : Hid (∀ x ∈ perf d.sectors (d.pending.take j), x.length = 128) := perf_len k7 (fun x hx => (k6 x (List.mem_of_mem_take hx)).2.2)
  have HPL : Hid ((perf d.sectors (d.pending.take j)).length = ns) := by rw [Hid, perf_length, hns.out]
  have hT : Hid (tornS d = (perf d.sectors (d.pending.take j)).set (d.pending[j]).at'.toNat ((d.pending[j]).data.take 64 ++ ((perf d.sectors (d.pending.take j)).getD (d.pending[j]).at'.toNat []).drop 64)) := by
    have e : d.left.toNat = j := by rw [hdl.out]; rfl
    have e2 : d.pending.getD j Wr.zero = d.pending[j] := by rw [List.getD_eq_getElem?_getD, List.getElem?_eq_getElem hjl]; rfl
    rw [Hid, tornS, e]
    simp only [e2]
  have hns4 : d.sectors.length ≤ 1048576 := by omega
  have hcpn : np ≤ cp ∧ cp ≤ maxLen := by
    rcases hD.out.pending.1 with h | ⟨a, n', c', h, h1, h2⟩
    · injection h with h; cases h
    · injection h with _ h3 h4; omega
  obtain ⟨hcpn, hcpm⟩ := hcpn
  unfold maxLen at hcpm
  obtain ⟨⟨xa, xd⟩, hx⟩ : ∃ x, d.pending[j] = x := ⟨_, rfl⟩
  rw [hx] at q0 hU hx1 hx2 hx3 hT
  dsimp only at q0 hU hx1 hx2 hx3 hT
  rw [hns.out] at hx2
  obtain ⟨Au, cu, rfl, _⟩ := hU.form
  rw [hx3] at q1 hU
  obtain ⟨a, rfl⟩ : ∃ a : Nat, xa = a := ⟨xa.toNat, by omega⟩
  rw [Int.toNat_natCast] at hT
  have ha : a < ns := by omega
  have HU := Lib.hid hU
  have HX3 := Lib.hid hx3
  have HTT := hT
  clear hx hU hx1 hx3 k1 k2 k3 k4 k5 k6 k7 hjl hSp
  have HB0 : Below w.heap.size w ((w.alloc (.cells #[.slice As ns cs, .slice (some ⟨bp, offp, none⟩) np cp, .int .i64 j, .bool ds] 25)).alloc (.cells #[.slice none 0 0, .slice none 0 0, .int .i64 0, .bool false] 25)) := (((Below.refl w.heap.size w).alloc (by simp <;> omega) (.cells #[.slice As ns cs, .slice (some ⟨bp, offp, none⟩) np cp, .int .i64 j, .bool ds] 25)).alloc (by simp <;> omega) (.cells #[.slice none 0 0, .slice none 0 0, .int .i64 0, .bool false] 25))
  have HD0 := Lib.hid (hD.out.keep (Keeps.of HB0))
  go_enter Try.func27, Try.ntmps27
  go_wp2_with fail
  refine (dRuns_at hr HD0.out hdl hds).mono ?_
  rintro e w1 ⟨rfl, hb⟩
  have X0 := (((Box.newAt (n := w.heap.size) [.slice As ns cs, .slice (some ⟨bp, offp, none⟩) np cp, .int .i64 j, .bool ds] 25 (by simp)).alloc _)).later hb
  have R := ((Box.newAt (n := w.heap.size + 1) [.slice none 0 0, .slice none 0 0, .int .i64 0, .bool false] 25 (by simp))).later hb
  have hB : Below w.heap.size w w1 := ((((Below.refl w.heap.size w).alloc (by simp <;> omega) _).alloc (by simp <;> omega) _)).trans (hb.mono (by simp <;> omega))
  clear hb
  have q0 := (hB.cell hbw).trans q0
  have q1 := (hB.cell hbw).trans q1
  have hbw1 := Nat.lt_of_lt_of_le hbw hB.size
  have j1 : (0 : Int) ≤ (j : Int) := by omega
  have j2 : (j : Int) < (np : Int) := by omega
  have j3 : (j : Int) ≤ (cp : Int) := by omega
  obtain ⟨X0c0, X0f0, X0c1, X0f1, X0c2, X0f2, X0c3, X0f3⟩ := X0.f4
  have X0z : w.heap.size < w1.heap.size := X0.lt
  obtain ⟨Rc0, Rf0, Rc1, Rf1, Rc2, Rf2, Rc3, Rf3⟩ := R.f4
  have Rz : w.heap.size + 1 < w1.heap.size := R.lt
  go_wp2_with fail
  clear X0c0 X0f0 X0c1 X0f1 X0c2 X0f2 X0c3 X0f3 X0z Rc0 Rf0 Rc1 Rf1 Rc2 Rf2 Rc3 Rf3 Rz
  have hD1 := hD.out.old.keep (Keeps.of hB)
  refine (dPerform_any d.sectors (d.pending.take j) _ _ (Old S w) _ hD1.sectors (hD1.pending.take (Nat.le_of_lt hj)) hns4 HIN).mono ?_
  rintro e w2 ⟨V, rfl, ho, hb2⟩
  clear hD1
  obtain ⟨g, c, rfl, hgc, hg1, hg2, hg3, hg4⟩ := ho.row HPL.out (by omega)
  obtain ⟨u, hu, hub⟩ := hg3 a ha
  have hul : ((perf d.sectors (d.pending.take j)).getD a []).length = 128 := by
    have hpa : a < (perf d.sectors (d.pending.take j)).length := by rw [HPL.out]; exact ha
    refine HLEN.out _ ?_
    rw [List.getD_eq_getElem?_getD, List.getElem?_eq_getElem hpa]
    exact List.getElem_mem hpa
  have HUL := Lib.hid hul
  obtain ⟨Ao, co, rfl, _⟩ := hub.form
  rw [hul] at hu hub
  clear hul hg3
  have hgf := hg4 a
  have hR1 : w.heap.size + 1 < w1.heap.size := R.lt
  have hs12 := hb2.size
  have X2 := X0.later hb2
  have R2 := R.later hb2
  have hB2 := hB.trans (hb2.mono hB.size)
  have q0 := (hb2.cell hbw1).trans q0
  have q1 := (hb2.cell hbw1).trans q1
  have hbw2 := Nat.lt_of_lt_of_le hbw1 hb2.size
  have HO := Lib.hid ho
  have HUB := Lib.hid hub
  have hgR : g ≠ w.heap.size + 1 := by omega
  have hgX : g ≠ w.heap.size := by omega
  have hbR : bp ≠ w.heap.size + 1 := by omega
  have hXR : w.heap.size ≠ w.heap.size + 1 := by omega
  have hac : (a : Int) < (ns : Int) := by omega
  have ha0 : (0 : Int) ≤ (a : Int) := by omega
  clear hb2 ho hub X0 R hB hg4 hx2
  obtain ⟨y0, y1, y2⟩ := X2.c3
  have yz : w.heap.size < w2.heap.size := X2.lt
  obtain ⟨r0, r1, r2, r3⟩ := R2.c4
  have rf0 := R2.free 0
  have rf1 := R2.free 1
  have rf2 := R2.free 2
  have rf3 := R2.free 3
  have rz : w.heap.size + 1 < w2.heap.size := R2.lt
  go_wp2_with fail
  clear y0 y1 y2 yz r0 r1 r2 r3 rf0 rf1 rf2 rf3 rz hu
  have X4 := (((X2.other (a := ⟨w.heap.size + 1, 0, none⟩) hXR (.slice (some ⟨g, 0, none⟩) ns c)).other (a := ⟨w.heap.size + 1, 1, none⟩) hXR (.slice none 0 0)).other (a := ⟨w.heap.size + 1, 2, none⟩) hXR (.int .i64 0)).other (a := ⟨w.heap.size + 1, 3, none⟩) hXR (.bool true)
  have R4 := ((((R2.set 0 (.slice (some ⟨g, 0, none⟩) ns c)).set 1 (.slice none 0 0)).set 2 (.int .i64 0)).set 3 (.bool true))
  have nK : ¬ (Old (fun b => Old (Old S w) w1 b ∨ w1.heap.size ≤ b) w2) (w.heap.size + 1) := by
    intro h
    rcases h.1 with h | h
    · have := h.1.2; omega
    · omega
  have hK4 : Keeps (Old (fun b => Old (Old S w) w1 b ∨ w1.heap.size ≤ b) w2) w2 ((((w2.setCell ⟨w.heap.size + 1, 0, none⟩ (.slice (some ⟨g, 0, none⟩) ns c)).setCell ⟨w.heap.size + 1, 1, none⟩ (.slice none 0 0)).setCell ⟨w.heap.size + 1, 2, none⟩ (.int .i64 0)).setCell ⟨w.heap.size + 1, 3, none⟩ (.bool true)) :=
    Keeps.trans (Keeps.trans (Keeps.trans (Keeps.set _ nK _) (Keeps.set _ nK _)) (Keeps.set _ nK _)) (Keeps.set _ nK _)
  have hB4 := (((hB2.setCell (p := ⟨w.heap.size + 1, 0, none⟩) (Nat.le_succ _) (.slice (some ⟨g, 0, none⟩) ns c)).setCell (p := ⟨w.heap.size + 1, 1, none⟩) (Nat.le_succ _) (.slice none 0 0)).setCell (p := ⟨w.heap.size + 1, 2, none⟩) (Nat.le_succ _) (.int .i64 0)).setCell (p := ⟨w.heap.size + 1, 3, none⟩) (Nat.le_succ _) (.bool true)
  have hz4 : ((((w2.setCell ⟨w.heap.size + 1, 0, none⟩ (.slice (some ⟨g, 0, none⟩) ns c)).setCell ⟨w.heap.size + 1, 1, none⟩ (.slice none 0 0)).setCell ⟨w.heap.size + 1, 2, none⟩ (.int .i64 0)).setCell ⟨w.heap.size + 1, 3, none⟩ (.bool true)).heap.size = w2.heap.size := by simp
  clear X2 R2 hB2 nK
  generalize (((w2.setCell ⟨w.heap.size + 1, 0, none⟩ (.slice (some ⟨g, 0, none⟩) ns c)).setCell ⟨w.heap.size + 1, 1, none⟩ (.slice none 0 0)).setCell ⟨w.heap.size + 1, 2, none⟩ (.int .i64 0)).setCell ⟨w.heap.size + 1, 3, none⟩ (.bool true) = w4 at X4 R4 hK4 hB4 hz4 ⊢
  have Y := Box.new w4 [.int .i64 a, .slice Au 128 cu] 76
  have X5 := X4.alloc (.cells #[.int .i64 a, .slice Au 128 cu] 76)
  have R5 := R4.alloc (.cells #[.int .i64 a, .slice Au 128 cu] 76)
  have hK5 := hK4.trans (Keeps.of ((Below.refl w4.heap.size w4).alloc (Nat.le_refl _) (.cells #[.int .i64 a, .slice Au 128 cu] 76)))
  have hB5 := hB4.alloc hB4.size (.cells #[.int .i64 a, .slice Au 128 cu] 76)
  have hz5 : (w4.alloc (.cells #[.int .i64 a, .slice Au 128 cu] 76)).heap.size = w2.heap.size + 1 := by simp [hz4]
  rw [hz4] at Y
  clear X4 R4 hK4 hB4 hz4
  generalize w4.alloc (.cells #[.int .i64 a, .slice Au 128 cu] 76) = w5 at X5 R5 hK5 hB5 hz5 Y ⊢
  refine (dCloneB_any ((perf d.sectors (d.pending.take j)).getD a []) _ (Old (fun b => Old (Old S w) w1 b ∨ w1.heap.size ≤ b) w2) _ ?_ (by rw [HUL.out]; decide) (by rw [HUL.out]; decide)).mono ?_
  · exact (HUB.out.weak (fun b hb hl => ⟨.inl hb, hl⟩)).keep hK5
  rintro e w6 ⟨T, rfl, hT6, hb6⟩
  obtain ⟨tg, tc, rfl, ht1, ht2, ht3, ht4⟩ := hT6.form (by rw [HUL.out]; decide)
  rw [HUL.out] at hT6 ht3 ⊢
  obtain ⟨w7, hcp0, hT7, hg7⟩ := run_copB (S := Old S w) (w := w6.drew) 3 (d := 64) (dc := tc) hT6 HUL.out (by decide) ((HU.out.old.keep (Keeps.of (hB5.trans (hb6.mono hB5.size)))) : BsAt w6 (Old S w) (.slice Au 128 cu) xd) HX3.out
  have hcp : (copF #[35, 35] 3 #[.slice (some ⟨tg, 0, none⟩) 64 tc, .slice Au 128 cu]).run Try.prog w6.drew = .ok (goInt 64) w7 := hcp0
  have hb7 : Below w5.heap.size w6 w7 := ((Below.refl w5.heap.size w6).drew).grown hg7 hb6.size (fun k hk => by cases hk; exact ht1)
  have Y7 := (Y.later hb6).keep (D := w5.heap.size) Y.lt hb7
  have X7 := (X5.later hb6).keep (D := w5.heap.size) X5.lt hb7
  have R7 := (R5.later hb6).keep (D := w5.heap.size) R5.lt hb7
  have Y6 := Y.later hb6
  have hK7 := (hK5.trans (Keeps.of hb6)).trans (Keeps.from hb7 (fun b h _ => by have := h.2; omega))
  have hB7 := (hB5.trans (hb6.mono hB5.size)).trans (hb7.mono hB5.size)
  have hO7 := HO.out.keepK hK7
  have HO7 := Lib.hid hO7
  have HT7 := Lib.hid hT7
  have hz7 : tg < w7.heap.size := Nat.lt_of_lt_of_le ht2 hb7.size
  have v1 : w6.cell? ⟨w2.heap.size, 1, none⟩ = some (.slice Au 128 cu) := Y6.cell 1
  have vz : w2.heap.size < w6.heap.size := Y6.lt
  have t64 : (64 : Int) ≤ (tc : Int) := by omega
  clear hcp0 hT6 hT7 hg7 hK5 hK7 hB5 hb6 hO7 X5 R5 Y Y6
  go_wp2_with fail
  go_region
  clear hcp v1 vz
  have y0 : w7.cell? ⟨w2.heap.size, 0, none⟩ = some (.int .i64 a) := Y7.cell 0
  have yz : w2.heap.size < w7.heap.size := Y7.lt
  obtain ⟨r0, r1, r2, r3⟩ := R7.c4
  have rf0 := R7.free 0
  have rf1 := R7.free 1
  have rf2 := R7.free 2
  have rf3 := R7.free 3
  have rz : w.heap.size + 1 < w7.heap.size := R7.lt
  obtain ⟨g', c', e', _, _, g7, h7, f7⟩ := HO7.out.row HPL.out (by omega)
  cases e'
  obtain ⟨u7, hu7, _⟩ := h7 a ha
  have fu7 := f7 a
  clear h7 f7
  go_wp2
  have ZR := (((((R7.other (a := ⟨g, a, none⟩) (Ne.symm hgR) (.slice (some ⟨tg, 0, none⟩) 128 tc)).set 0 (.slice (some ⟨g, 0, none⟩) ns c)).set 1 (.slice none 0 0)).set 2 (.int .i64 0)).set 3 (.bool true))
  have hgw : w.heap.size ≤ g := by omega
  have HB := ((((hB7.setCell (p := ⟨g, a, none⟩) hgw (.slice (some ⟨tg, 0, none⟩) 128 tc)).setCell (p := ⟨w.heap.size + 1, 0, none⟩) (Nat.le_succ _) (.slice (some ⟨g, 0, none⟩) ns c)).setCell (p := ⟨w.heap.size + 1, 1, none⟩) (Nat.le_succ _) (.slice none 0 0)).setCell (p := ⟨w.heap.size + 1, 2, none⟩) (Nat.le_succ _) (.int .i64 0)).setCell (p := ⟨w.heap.size + 1, 3, none⟩) (Nat.le_succ _) (.bool true)
  have hTB : BsAt w7 (fun b => Old (Old S w) w1 b ∨ w5.heap.size ≤ b) (.slice (some ⟨tg, 0, none⟩) 128 tc) (xd.take 64 ++ ((perf d.sectors (d.pending.take j)).getD a []).drop 64) := by
    have hl : (xd.take (Nat.min 128 64) ++ ((perf d.sectors (d.pending.take j)).getD a []).drop (Nat.min 128 64)).length = 128 := by
      rw [List.length_append, List.length_take, List.length_drop, HX3.out, HUL.out]; rfl
    obtain ⟨f, s⟩ := HT7.out.bs (by rw [hl]; simp [maxLen])
    refine ⟨.inr ⟨_, _, _, rfl, ht3, ht4⟩, ?_⟩
    obtain ⟨A', c'', e1, e2, e3⟩ := s
    rw [hl] at e1 e2 e3
    have hl2 : (xd.take 64 ++ ((perf d.sectors (d.pending.take j)).getD a []).drop 64).length = 128 := hl
    rw [hl2]
    refine ⟨_, _, rfl, by simp [maxLen], fun k hk => ?_⟩
    obtain ⟨b, off, h1, h2, h3, h4⟩ := HT7.own hl k hk
    exact ⟨b, off, h1, .inr h2, h3, h4⟩
  have hO8 := (HO7.out.weak (S' := fun b => Old (Old S w) w1 b ∨ w5.heap.size ≤ b) (fun b h _ => .inl h)).set (i := a) (fun h => h.elim (fun h => by have := h.2; omega) (fun h => by omega)) ha HPL.out hTB
  rw [← HTT.out] at hO8
  have nK : ¬ (Old (fun b => (Old (Old S w) w1 b ∨ w5.heap.size ≤ b) ∨ w1.heap.size ≤ b) (w7.setCell ⟨g, a, none⟩ (.slice (some ⟨tg, 0, none⟩) 128 tc))) (w.heap.size + 1) := by
    intro h
    rcases h.1 with (h | h) | h
    · have := h.1.2; omega
    · omega
    · omega
  have hO9 := hO8.keepK (w' := ((((w7.setCell ⟨g, a, none⟩ (.slice (some ⟨tg, 0, none⟩) 128 tc)).setCell ⟨w.heap.size + 1, 0, none⟩ (.slice (some ⟨g, 0, none⟩) ns c)).setCell ⟨w.heap.size + 1, 1, none⟩ (.slice none 0 0)).setCell ⟨w.heap.size + 1, 2, none⟩ (.int .i64 0)).setCell ⟨w.heap.size + 1, 3, none⟩ (.bool true)) (Keeps.trans (Keeps.trans (Keeps.trans (Keeps.set _ nK _) (Keeps.set _ nK _)) (Keeps.set _ nK _)) (Keeps.set _ nK _))
  have hTL : Hid ((tornS d).length = ns) := by rw [Hid, HTT.out, List.length_set, HPL.out]
  generalize ((((w7.setCell ⟨g, a, none⟩ (.slice (some ⟨tg, 0, none⟩) 128 tc)).setCell ⟨w.heap.size + 1, 0, none⟩ (.slice (some ⟨g, 0, none⟩) ns c)).setCell ⟨w.heap.size + 1, 1, none⟩ (.slice none 0 0)).setCell ⟨w.heap.size + 1, 2, none⟩ (.int .i64 0)).setCell ⟨w.heap.size + 1, 3, none⟩ (.bool true) = W at ZR HB hO9 ⊢
  obtain ⟨z0, z1, z2, z3⟩ := ZR.c4
  refine bodyPost_ret (v := .tuple #[.agg #[.slice (some ⟨g, 0, none⟩) ns c, .slice none 0 0, .int .i64 0, .bool true], .int .i64 40]) (by simp [results, Try.results27, go_sem, z0, z1, z2, z3]) rfl ?_
  refine ⟨_, _, _, 40, rfl, hs, Lib.hid ⟨?_, wsAt_nil _ _⟩, HB⟩
  refine hO9.rows (by rw [hTL.out]; have := hns.out; unfold maxLen; omega) (fun b h _ => ?_) (fun b h => .inr (by omega))
  rcases h with h | h
  · exact .inl h.1.1
  · exact .inr (by omega)
end Go.Proofs.Ythlidhfahaalgaa
namespace Go.Proofs.Ythlidhfahaalgaa
open Go.RowKit
attribute [local go_sem ↓ high] app_named cop_named
attribute [local go_sem ↓] Go.wp_at_zero Go.wp_at_succ
theorem dSync_3 (d : Dk) (As : Option Addr) (ns cs : Nat) (Ap : Option Addr) (np cp : Nat) (dl : Int) (ds : Bool) (S : Nat → Prop) (w : World) (hD : Hid (DkAt w S (.slice As ns cs) (.slice Ap np cp) d)) (hdl : Hid (d.left = dl)) (hds : Hid (d.stopped = ds)) (hr : Hid (d.runs = true)) (hnp : Hid (d.pending.length = np)) (hns : Hid (d.sectors.length = ns)) (hl : dl < 0) (hs : Hid (syncT d = (⟨perf d.sectors d.pending, [], dl, false⟩, 0))) : Calls Try.prog 27 #[.agg #[.slice As ns cs, .slice Ap np cp, .int .i64 dl, .bool ds]] w (RetDk (syncT d) S w) := by
  have HB0 : Below w.heap.size w ((w.alloc (.cells #[.slice As ns cs, .slice Ap np cp, .int .i64 dl, .bool ds] 25)).alloc (.cells #[.slice none 0 0, .slice none 0 0, .int .i64 0, .bool false] 25)) := (((Below.refl w.heap.size w).alloc (by simp <;> omega) (.cells #[.slice As ns cs, .slice Ap np cp, .int .i64 dl, .bool ds] 25)).alloc (by simp <;> omega) (.cells #[.slice none 0 0, .slice none 0 0, .int .i64 0, .bool false] 25))
  have HD0 := Lib.hid (hD.out.keep (Keeps.of HB0))
  obtain ⟨k1, k2, k3, k4, k5, k6, k7⟩ := okB_parts (runs_ok hr.out).1
  have HIN : Hid (∀ x ∈ d.pending, 0 ≤ x.at' ∧ x.at' < (d.sectors.length : Int)) := fun x hx => ⟨(k6 x hx).1, (k6 x hx).2.1⟩
  have HPL : Hid ((perf d.sectors d.pending).length = ns) := by rw [Hid, perf_length, hns.out]
  have hns4 : d.sectors.length ≤ 1048576 := by omega
  have hns0 : 0 < ns := by rw [← hns.out]; omega
  have hnp4 : np ≤ 4096 := by rw [← hnp.out]; omega
  have hns5 := Lib.hid hns4
  clear k1 k2 k3 k4 k5 k6 k7 hns4
  go_enter Try.func27, Try.ntmps27
  go_wp2_with fail
  refine (dRuns_at hr HD0.out hdl hds).mono ?_
  rintro e w1 ⟨rfl, hb⟩
  have X0 := (((Box.newAt (n := w.heap.size) [.slice As ns cs, .slice Ap np cp, .int .i64 dl, .bool ds] 25 (by simp)).alloc _)).later hb
  have R := ((Box.newAt (n := w.heap.size + 1) [.slice none 0 0, .slice none 0 0, .int .i64 0, .bool false] 25 (by simp))).later hb
  have hB : Below w.heap.size w w1 := ((((Below.refl w.heap.size w).alloc (by simp <;> omega) _).alloc (by simp <;> omega) _)).trans (hb.mono (by simp <;> omega))
  clear hb
  obtain ⟨X0c0, X0f0, X0c1, X0f1, X0c2, X0f2, X0c3, X0f3⟩ := X0.f4
  have X0z : w.heap.size < w1.heap.size := X0.lt
  obtain ⟨Rc0, Rf0, Rc1, Rf1, Rc2, Rf2, Rc3, Rf3⟩ := R.f4
  have Rz : w.heap.size + 1 < w1.heap.size := R.lt
  go_wp2_with fail
  clear X0c0 X0f0 X0c1 X0f1 X0c2 X0f2 X0c3 X0f3 X0z Rc0 Rf0 Rc1 Rf1 Rc2 Rf2 Rc3 Rf3 Rz
  have hR1 : w.heap.size + 1 < w1.heap.size := R.lt
  obtain ⟨wA, hwA⟩ : ∃ wA, w1.drew = wA := ⟨_, rfl⟩
  have hBA : Below w.heap.size w w1.drew := hB.drew
  have CP : Hid (Calls Try.prog 54 #[.slice As ns cs, .slice Ap np cp] w1.drew (RetOwn (perf d.sectors d.pending) (Old S w) w1.drew)) :=
    dPerform_any d.sectors d.pending _ _ (Old S w) _ (hD.out.old.keep (Keeps.of hBA)).sectors (hD.out.old.keep (Keeps.of hBA)).pending hns5.out HIN
  clear hwA hBA
  obtain ⟨x0, x1, x2⟩ := X0.c3
  have xz : w.heap.size < w1.heap.size := X0.lt
  have rz1 : w.heap.size + 1 < w1.heap.size := R.lt
  go_region_held3 (fun w' => w'.cell? ⟨w.heap.size, 0, none⟩ = some (.slice As ns cs) ∧ w'.cell? ⟨w.heap.size, 1, none⟩ = some (.slice Ap np cp) ∧ w'.cell? ⟨w.heap.size, 2, none⟩ = some (.int .i64 dl)) (first | exact ⟨s0, s1, s2⟩ | (go_keep; done)) ((go_at_call 54; refine CP.out.mono ?_; rintro e w3 ⟨V, rfl, ho, hb⟩; obtain ⟨g, c, rfl, _, hg1, _⟩ := ho.row HPL.out hns0; have X3 := (X0.drew).later hb; have R3 := (R.drew).later hb; have HO := Lib.hid ho; clear ho; have s0 : w3.cell? ⟨w.heap.size, 0, none⟩ = some (.slice As ns cs) := X3.cell 0; have s1 : w3.cell? ⟨w.heap.size, 1, none⟩ = some (.slice Ap np cp) := X3.cell 1; have s2 : w3.cell? ⟨w.heap.size, 2, none⟩ = some (.int .i64 dl) := X3.cell 2; have r0 : w3.cell? ⟨w.heap.size + 1, 0, none⟩ = some (.slice none 0 0) := R3.cell 0; have r1 : w3.cell? ⟨w.heap.size + 1, 1, none⟩ = some (.slice none 0 0) := R3.cell 1; have r2 : w3.cell? ⟨w.heap.size + 1, 2, none⟩ = some (.int .i64 0) := R3.cell 2; have r3 : w3.cell? ⟨w.heap.size + 1, 3, none⟩ = some (.bool false) := R3.cell 3; have rf0 := R3.free 0; have rf1 := R3.free 1; have rf2 := R3.free 2; have rf3 := R3.free 3; have rz := R3.lt))
  clear x0 x1 x2 xz rz1 CP X0 R s0 s1 s2 r0 r1 r2 r3 rf0 rf1 rf2 rf3 rz
  have R4 := ((((R3.set 0 (.slice (some ⟨g, 0, none⟩) ns c)).set 1 (.slice none 0 0)).set 2 (.int .i64 dl)).set 3 (.bool false))
  have hs3 : w1.heap.size ≤ w3.heap.size := hb.size
  have HB3 : Below w.heap.size w w3 := hB.drew.trans (hb.mono hB.drew.size)
  have nK : ∀ W : World, ¬ (Old (fun b => Old (Old S w) w1.drew b ∨ w1.drew.heap.size ≤ b) W) (w.heap.size + 1) := by
    intro W h
    rcases h.1 with h | h
    · have := h.1.2; omega
    · have h : w1.heap.size ≤ w.heap.size + 1 := h
      omega
  have hO4 := HO.out.keepK (w' := ((((w3.setCell ⟨w.heap.size + 1, 0, none⟩ (.slice (some ⟨g, 0, none⟩) ns c)).setCell ⟨w.heap.size + 1, 1, none⟩ (.slice none 0 0)).setCell ⟨w.heap.size + 1, 2, none⟩ (.int .i64 dl)).setCell ⟨w.heap.size + 1, 3, none⟩ (.bool false))) (Keeps.trans (Keeps.trans (Keeps.trans (Keeps.set _ (nK _) _) (Keeps.set _ (nK _) _)) (Keeps.set _ (nK _) _)) (Keeps.set _ (nK _) _))
  have HB4 := (((HB3.setCell (p := ⟨w.heap.size + 1, 0, none⟩) (Nat.le_succ _) (.slice (some ⟨g, 0, none⟩) ns c)).setCell (p := ⟨w.heap.size + 1, 1, none⟩) (Nat.le_succ _) (.slice none 0 0)).setCell (p := ⟨w.heap.size + 1, 2, none⟩) (Nat.le_succ _) (.int .i64 dl)).setCell (p := ⟨w.heap.size + 1, 3, none⟩) (Nat.le_succ _) (.bool false)
  rename_i hheld
  clear hheld X3 R3 HO hb HB3 hB
  generalize ((((w3.setCell ⟨w.heap.size + 1, 0, none⟩ (.slice (some ⟨g, 0, none⟩) ns c)).setCell ⟨w.heap.size + 1, 1, none⟩ (.slice none 0 0)).setCell ⟨w.heap.size + 1, 2, none⟩ (.int .i64 dl)).setCell ⟨w.heap.size + 1, 3, none⟩ (.bool false)) = w4 at R4 hO4 HB4 ⊢
  have HO := Lib.hid hO4
  clear hO4
  obtain ⟨r0, r1, r2, r3⟩ := R4.c4
  have rf0 := R4.free 0
  have rf1 := R4.free 1
  have rf2 := R4.free 2
  have rf3 := R4.free 3
  have rz : w.heap.size + 1 < w4.heap.size := R4.lt
  go_wp2
  have ZR := ((((R4.set 0 (.slice (some ⟨g, 0, none⟩) ns c)).set 1 (.slice none 0 0)).set 2 (.int .i64 (dl))).set 3 (.bool false))
  have HB := ((((HB4.setCell (p := ⟨w.heap.size + 1, 0, none⟩) (Nat.le_succ _) (.slice (some ⟨g, 0, none⟩) ns c)).setCell (p := ⟨w.heap.size + 1, 1, none⟩) (Nat.le_succ _) (.slice none 0 0)).setCell (p := ⟨w.heap.size + 1, 2, none⟩) (Nat.le_succ _) (.int .i64 (dl))).setCell (p := ⟨w.heap.size + 1, 3, none⟩) (Nat.le_succ _) (.bool false))
  have hO9 := HO.out.keepK (w' := ((((w4.setCell ⟨w.heap.size + 1, 0, none⟩ (.slice (some ⟨g, 0, none⟩) ns c)).setCell ⟨w.heap.size + 1, 1, none⟩ (.slice none 0 0)).setCell ⟨w.heap.size + 1, 2, none⟩ (.int .i64 (dl))).setCell ⟨w.heap.size + 1, 3, none⟩ (.bool false))) (Keeps.trans (Keeps.trans (Keeps.trans (Keeps.set _ (nK _) _) (Keeps.set _ (nK _) _)) (Keeps.set _ (nK _) _)) (Keeps.set _ (nK _) _))
  clear r0 r1 r2 r3 rf0 rf1 rf2 rf3 rz
  generalize ((((w4.setCell ⟨w.heap.size + 1, 0, none⟩ (.slice (some ⟨g, 0, none⟩) ns c)).setCell ⟨w.heap.size + 1, 1, none⟩ (.slice none 0 0)).setCell ⟨w.heap.size + 1, 2, none⟩ (.int .i64 (dl))).setCell ⟨w.heap.size + 1, 3, none⟩ (.bool false)) = W at ZR HB hO9 ⊢
  obtain ⟨z0, z1, z2, z3⟩ := ZR.c4
  refine bodyPost_ret (v := .tuple #[.agg #[.slice (some ⟨g, 0, none⟩) ns c, .slice none 0 0, .int .i64 (dl), .bool false], .int .i64 0]) (by simp [results, Try.results27, go_sem, z0, z1, z2, z3]) rfl ?_
  refine ⟨_, _, _, 0, rfl, hs, Lib.hid ⟨?_, wsAt_nil _ _⟩, HB⟩
  refine hO9.rows (by rw [HPL.out]; have := hns5.out; rw [hns.out] at this; unfold maxLen; omega) (fun b h _ => .inl h.1.1) (fun b h => .inr ?_)
  have h : w1.heap.size ≤ b := h
  omega
theorem dSync_4 (d : Dk) (As : Option Addr) (ns cs : Nat) (Ap : Option Addr) (np cp : Nat) (dl : Int) (ds : Bool) (S : Nat → Prop) (w : World) (hD : Hid (DkAt w S (.slice As ns cs) (.slice Ap np cp) d)) (hdl : Hid (d.left = dl)) (hds : Hid (d.stopped = ds)) (hr : Hid (d.runs = true)) (hnp : Hid (d.pending.length = np)) (hns : Hid (d.sectors.length = ns)) (hl : 0 ≤ dl) (hl2 : (np : Int) ≤ dl) (hl3 : dl ≤ 65536) (hs : Hid (syncT d = (⟨perf d.sectors d.pending, [], dl - (np : Int), false⟩, 0))) : Calls Try.prog 27 #[.agg #[.slice As ns cs, .slice Ap np cp, .int .i64 dl, .bool ds]] w (RetDk (syncT d) S w) := by
  have HB0 : Below w.heap.size w ((w.alloc (.cells #[.slice As ns cs, .slice Ap np cp, .int .i64 dl, .bool ds] 25)).alloc (.cells #[.slice none 0 0, .slice none 0 0, .int .i64 0, .bool false] 25)) := (((Below.refl w.heap.size w).alloc (by simp <;> omega) (.cells #[.slice As ns cs, .slice Ap np cp, .int .i64 dl, .bool ds] 25)).alloc (by simp <;> omega) (.cells #[.slice none 0 0, .slice none 0 0, .int .i64 0, .bool false] 25))
  have HD0 := Lib.hid (hD.out.keep (Keeps.of HB0))
  obtain ⟨k1, k2, k3, k4, k5, k6, k7⟩ := okB_parts (runs_ok hr.out).1
  have HIN : Hid (∀ x ∈ d.pending, 0 ≤ x.at' ∧ x.at' < (d.sectors.length : Int)) := fun x hx => ⟨(k6 x hx).1, (k6 x hx).2.1⟩
  have HPL : Hid ((perf d.sectors d.pending).length = ns) := by rw [Hid, perf_length, hns.out]
  have hns4 : d.sectors.length ≤ 1048576 := by omega
  have hns0 : 0 < ns := by rw [← hns.out]; omega
  have hnp4 : np ≤ 4096 := by rw [← hnp.out]; omega
  have hns5 := Lib.hid hns4
  clear k1 k2 k3 k4 k5 k6 k7 hns4
  go_enter Try.func27, Try.ntmps27
  go_wp2_with fail
  refine (dRuns_at hr HD0.out hdl hds).mono ?_
  rintro e w1 ⟨rfl, hb⟩
  have X0 := (((Box.newAt (n := w.heap.size) [.slice As ns cs, .slice Ap np cp, .int .i64 dl, .bool ds] 25 (by simp)).alloc _)).later hb
  have R := ((Box.newAt (n := w.heap.size + 1) [.slice none 0 0, .slice none 0 0, .int .i64 0, .bool false] 25 (by simp))).later hb
  have hB : Below w.heap.size w w1 := ((((Below.refl w.heap.size w).alloc (by simp <;> omega) _).alloc (by simp <;> omega) _)).trans (hb.mono (by simp <;> omega))
  clear hb
  obtain ⟨X0c0, X0f0, X0c1, X0f1, X0c2, X0f2, X0c3, X0f3⟩ := X0.f4
  have X0z : w.heap.size < w1.heap.size := X0.lt
  obtain ⟨Rc0, Rf0, Rc1, Rf1, Rc2, Rf2, Rc3, Rf3⟩ := R.f4
  have Rz : w.heap.size + 1 < w1.heap.size := R.lt
  go_wp2_with fail
  clear X0c0 X0f0 X0c1 X0f1 X0c2 X0f2 X0c3 X0f3 X0z Rc0 Rf0 Rc1 Rf1 Rc2 Rf2 Rc3 Rf3 Rz
  have hR1 : w.heap.size + 1 < w1.heap.size := R.lt
  obtain ⟨wA, hwA⟩ : ∃ wA, w1.drew = wA := ⟨_, rfl⟩
  have hBA : Below w.heap.size w w1.drew := hB.drew
  have CP : Hid (Calls Try.prog 54 #[.slice As ns cs, .slice Ap np cp] w1.drew (RetOwn (perf d.sectors d.pending) (Old S w) w1.drew)) :=
    dPerform_any d.sectors d.pending _ _ (Old S w) _ (hD.out.old.keep (Keeps.of hBA)).sectors (hD.out.old.keep (Keeps.of hBA)).pending hns5.out HIN
  clear hwA hBA
  obtain ⟨x0, x1, x2⟩ := X0.c3
  have xz : w.heap.size < w1.heap.size := X0.lt
  have rz1 : w.heap.size + 1 < w1.heap.size := R.lt
  go_region_held3 (fun w' => w'.cell? ⟨w.heap.size, 0, none⟩ = some (.slice As ns cs) ∧ w'.cell? ⟨w.heap.size, 1, none⟩ = some (.slice Ap np cp) ∧ w'.cell? ⟨w.heap.size, 2, none⟩ = some (.int .i64 dl)) (first | exact ⟨s0, s1, s2⟩ | (go_keep; done)) ((go_at_call 54; refine CP.out.mono ?_; rintro e w3 ⟨V, rfl, ho, hb⟩; obtain ⟨g, c, rfl, _, hg1, _⟩ := ho.row HPL.out hns0; have X3 := (X0.drew).later hb; have R3 := (R.drew).later hb; have HO := Lib.hid ho; clear ho; have s0 : w3.cell? ⟨w.heap.size, 0, none⟩ = some (.slice As ns cs) := X3.cell 0; have s1 : w3.cell? ⟨w.heap.size, 1, none⟩ = some (.slice Ap np cp) := X3.cell 1; have s2 : w3.cell? ⟨w.heap.size, 2, none⟩ = some (.int .i64 dl) := X3.cell 2; have r0 : w3.cell? ⟨w.heap.size + 1, 0, none⟩ = some (.slice none 0 0) := R3.cell 0; have r1 : w3.cell? ⟨w.heap.size + 1, 1, none⟩ = some (.slice none 0 0) := R3.cell 1; have r2 : w3.cell? ⟨w.heap.size + 1, 2, none⟩ = some (.int .i64 0) := R3.cell 2; have r3 : w3.cell? ⟨w.heap.size + 1, 3, none⟩ = some (.bool false) := R3.cell 3; have rf0 := R3.free 0; have rf1 := R3.free 1; have rf2 := R3.free 2; have rf3 := R3.free 3; have rz := R3.lt))
  clear x0 x1 x2 xz rz1 CP X0 R s0 s1 s2 r0 r1 r2 r3 rf0 rf1 rf2 rf3 rz
  have R4 := ((((R3.set 0 (.slice (some ⟨g, 0, none⟩) ns c)).set 1 (.slice none 0 0)).set 2 (.int .i64 dl)).set 3 (.bool false))
  have hs3 : w1.heap.size ≤ w3.heap.size := hb.size
  have HB3 : Below w.heap.size w w3 := hB.drew.trans (hb.mono hB.drew.size)
  have nK : ∀ W : World, ¬ (Old (fun b => Old (Old S w) w1.drew b ∨ w1.drew.heap.size ≤ b) W) (w.heap.size + 1) := by
    intro W h
    rcases h.1 with h | h
    · have := h.1.2; omega
    · have h : w1.heap.size ≤ w.heap.size + 1 := h
      omega
  have hO4 := HO.out.keepK (w' := ((((w3.setCell ⟨w.heap.size + 1, 0, none⟩ (.slice (some ⟨g, 0, none⟩) ns c)).setCell ⟨w.heap.size + 1, 1, none⟩ (.slice none 0 0)).setCell ⟨w.heap.size + 1, 2, none⟩ (.int .i64 dl)).setCell ⟨w.heap.size + 1, 3, none⟩ (.bool false))) (Keeps.trans (Keeps.trans (Keeps.trans (Keeps.set _ (nK _) _) (Keeps.set _ (nK _) _)) (Keeps.set _ (nK _) _)) (Keeps.set _ (nK _) _))
  have HB4 := (((HB3.setCell (p := ⟨w.heap.size + 1, 0, none⟩) (Nat.le_succ _) (.slice (some ⟨g, 0, none⟩) ns c)).setCell (p := ⟨w.heap.size + 1, 1, none⟩) (Nat.le_succ _) (.slice none 0 0)).setCell (p := ⟨w.heap.size + 1, 2, none⟩) (Nat.le_succ _) (.int .i64 dl)).setCell (p := ⟨w.heap.size + 1, 3, none⟩) (Nat.le_succ _) (.bool false)
  rename_i hheld
  clear hheld X3 R3 HO hb HB3 hB
  generalize ((((w3.setCell ⟨w.heap.size + 1, 0, none⟩ (.slice (some ⟨g, 0, none⟩) ns c)).setCell ⟨w.heap.size + 1, 1, none⟩ (.slice none 0 0)).setCell ⟨w.heap.size + 1, 2, none⟩ (.int .i64 dl)).setCell ⟨w.heap.size + 1, 3, none⟩ (.bool false)) = w4 at R4 hO4 HB4 ⊢
  have HO := Lib.hid hO4
  clear hO4
  obtain ⟨r0, r1, r2, r3⟩ := R4.c4
  have rf0 := R4.free 0
  have rf1 := R4.free 1
  have rf2 := R4.free 2
  have rf3 := R4.free 3
  have rz : w.heap.size + 1 < w4.heap.size := R4.lt
  go_wp2
  have ZR := (((((R4.set 2 (.int .i64 (dl - (np : Int)))).set 0 (.slice (some ⟨g, 0, none⟩) ns c)).set 1 (.slice none 0 0)).set 2 (.int .i64 (dl - (np : Int)))).set 3 (.bool false))
  have HB := (((((HB4.setCell (p := ⟨w.heap.size + 1, 2, none⟩) (Nat.le_succ _) (.int .i64 (dl - (np : Int)))).setCell (p := ⟨w.heap.size + 1, 0, none⟩) (Nat.le_succ _) (.slice (some ⟨g, 0, none⟩) ns c)).setCell (p := ⟨w.heap.size + 1, 1, none⟩) (Nat.le_succ _) (.slice none 0 0)).setCell (p := ⟨w.heap.size + 1, 2, none⟩) (Nat.le_succ _) (.int .i64 (dl - (np : Int)))).setCell (p := ⟨w.heap.size + 1, 3, none⟩) (Nat.le_succ _) (.bool false))
  have hO9 := HO.out.keepK (w' := (((((w4.setCell ⟨w.heap.size + 1, 2, none⟩ (.int .i64 (dl - (np : Int)))).setCell ⟨w.heap.size + 1, 0, none⟩ (.slice (some ⟨g, 0, none⟩) ns c)).setCell ⟨w.heap.size + 1, 1, none⟩ (.slice none 0 0)).setCell ⟨w.heap.size + 1, 2, none⟩ (.int .i64 (dl - (np : Int)))).setCell ⟨w.heap.size + 1, 3, none⟩ (.bool false))) (Keeps.trans (Keeps.trans (Keeps.trans (Keeps.trans (Keeps.set _ (nK _) _) (Keeps.set _ (nK _) _)) (Keeps.set _ (nK _) _)) (Keeps.set _ (nK _) _)) (Keeps.set _ (nK _) _))
  clear r0 r1 r2 r3 rf0 rf1 rf2 rf3 rz
  generalize (((((w4.setCell ⟨w.heap.size + 1, 2, none⟩ (.int .i64 (dl - (np : Int)))).setCell ⟨w.heap.size + 1, 0, none⟩ (.slice (some ⟨g, 0, none⟩) ns c)).setCell ⟨w.heap.size + 1, 1, none⟩ (.slice none 0 0)).setCell ⟨w.heap.size + 1, 2, none⟩ (.int .i64 (dl - (np : Int)))).setCell ⟨w.heap.size + 1, 3, none⟩ (.bool false)) = W at ZR HB hO9 ⊢
  obtain ⟨z0, z1, z2, z3⟩ := ZR.c4
  refine bodyPost_ret (v := .tuple #[.agg #[.slice (some ⟨g, 0, none⟩) ns c, .slice none 0 0, .int .i64 (dl - (np : Int)), .bool false], .int .i64 0]) (by simp [results, Try.results27, go_sem, z0, z1, z2, z3]) rfl ?_
  refine ⟨_, _, _, 0, rfl, hs, Lib.hid ⟨?_, wsAt_nil _ _⟩, HB⟩
  refine hO9.rows (by rw [HPL.out]; have := hns5.out; rw [hns.out] at this; unfold maxLen; omega) (fun b h _ => .inl h.1.1) (fun b h => .inr ?_)
  have h : w1.heap.size ≤ b := h
  omega
theorem dSync_any (d : Dk) (Vs Vp : Value) (S : Nat → Prop) (w : World) (hD : DkAt w S Vs Vp d) : Calls Try.prog 27 #[d.v Vs Vp] w (RetDk (syncT d) S w) := by
  obtain ⟨As, cs, rfl, _⟩ := hD.sectors.form
  obtain ⟨Ap, cp, rfl, _⟩ := hD.pending.form
  rcases hr : d.runs with _ | _
  · exact dSync_1 d As _ cs Ap _ cp _ _ S w hD rfl rfl hr (by rw [Hid, syncT, if_neg (by rw [hr]; simp)])
  · by_cases h1 : d.left < 0
    · have ht : tearB d = false := by rw [tearB, decide_eq_false (by omega)]; rfl
      exact dSync_3 d As _ cs Ap _ cp _ _ S w hD rfl rfl hr rfl rfl h1 (by rw [Hid, syncT, if_pos hr, if_neg (by rw [ht]; simp), if_neg (by omega)])
    · by_cases h2 : d.left < (d.pending.length : Int)
      · obtain ⟨j, hj⟩ : ∃ j : Nat, d.left = j := ⟨d.left.toNat, by omega⟩
        have ht : tearB d = true := by rw [tearB, decide_eq_true (by omega), decide_eq_true h2]; rfl
        have := dSync_2 d As _ cs Ap _ cp j _ S w hD hj rfl hr (by omega) rfl rfl (by rw [Hid, syncT, if_pos hr, if_pos ht])
        rw [← hj] at this
        exact this
      · have ht : tearB d = false := by rw [tearB, decide_eq_false h2]; simp
        exact dSync_4 d As _ cs Ap _ cp _ _ S w hD rfl rfl hr rfl rfl (by omega) (by omega) (okB_parts (runs_ok hr).1).2.2.2.2.1 (by rw [Hid, syncT, if_pos hr, if_neg (by rw [ht]; simp), if_pos (by omega)])
end Go.Proofs.Ythlidhfahaalgaa
