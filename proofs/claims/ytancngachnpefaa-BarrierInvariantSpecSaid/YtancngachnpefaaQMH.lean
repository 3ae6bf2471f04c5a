/- Invariant of package barrier: the first loop. (Printed by pp.py.) No condition. -/
import Derived.Test.YtancngachnpefaaQK
import Derived.Test.YtancngachnpefaaQMF
import Derived.StillTailTactics
import Derived.Sort.CutIn
import Derived.Test.YtancngachnpefaaQKL
set_option linter.unusedVariables false
set_option linter.unusedSimpArgs false
set_option maxRecDepth 100000
set_option maxHeartbeats 8000000
namespace Go.Proofs.Ytancngachnpefaa
open Go.RowKit Go.Shelf
attribute [local go_sem] Oper.semAt_some
attribute [local go_sem ↓ high] app_named
theorem bInv_1 (p : Pl) (c : List Ln) (A2 : Option Addr) (m2 k2 : Nat) (w : World) (h : Hid (askT p c = 0)) (hv : Hid p.Valid) (hcn : Hid (p.count ≤ 524288)) (hC : Hid (CodeAt w w.heap.size (.slice A2 m2 k2) c)) :
    Calls Try.prog 16 #[p.v, .agg #[.slice A2 m2 k2]] w (RetInv w (p.states.filter (fun s => !lostI p c s)) (!lostI p c p.beginT.1) 0) := by
  refine calls_of_wp_marks Try.func16 rfl ?_
  simp only [Try.ntmps16, List.size_toArray, List.length_cons, List.length_nil, Nat.reduceAdd, Nat.reduceSub, Array.replicate_succ, Array.replicate_zero, List.push_toArray, List.append_toArray, List.nil_append, List.cons_append]
  go_wp2_with fail
  have hB := (((Below.refl w.heap.size w).alloc (by simp <;> omega) (.cells #[.int .i64 p.top, .int .i64 p.bank, .int .i64 p.siphon, .int .i64 p.start, .int .i64 p.positions, .int .i64 p.rate, .int .i64 p.step, .int .i64 p.pass, .int .i64 p.feed, .int .i64 p.pipe, .int .i64 p.orders, .int .i64 p.age] 23)).alloc (by simp <;> omega) (.cells #[.slice A2 m2 k2] 26)).alloc (by simp <;> omega) (.cells #[.slice none 0 0] 43)
  have X2 := ((Box.newAt (w := w) (n := w.heap.size) [.int .i64 p.top, .int .i64 p.bank, .int .i64 p.siphon, .int .i64 p.start, .int .i64 p.positions, .int .i64 p.rate, .int .i64 p.step, .int .i64 p.pass, .int .i64 p.feed, .int .i64 p.pipe, .int .i64 p.orders, .int .i64 p.age] 23 rfl).alloc (.cells #[.slice A2 m2 k2] 26)).alloc (.cells #[.slice none 0 0] 43)
  have X4 := Box.newAt (w := (w.alloc (.cells #[.int .i64 p.top, .int .i64 p.bank, .int .i64 p.siphon, .int .i64 p.start, .int .i64 p.positions, .int .i64 p.rate, .int .i64 p.step, .int .i64 p.pass, .int .i64 p.feed, .int .i64 p.pipe, .int .i64 p.orders, .int .i64 p.age] 23)).alloc (.cells #[.slice A2 m2 k2] 26)) (n := w.heap.size + 1 + 1) [.slice none 0 0] 43 (by simp)
  generalize ((w.alloc (.cells #[.int .i64 p.top, .int .i64 p.bank, .int .i64 p.siphon, .int .i64 p.start, .int .i64 p.positions, .int .i64 p.rate, .int .i64 p.step, .int .i64 p.pass, .int .i64 p.feed, .int .i64 p.pipe, .int .i64 p.orders, .int .i64 p.age] 23)).alloc (.cells #[.slice A2 m2 k2] 26)).alloc (.cells #[.slice none 0 0] 43) = w0 at X2 X4 hB ⊢
  refine (bOpen_good p c _ _ (Lib.hid (ask_zero h.out).1) (Lib.hid (ask_zero h.out).2) (Lib.hid ((hC.out.below hB).more hB.size))).mono ?_
  rintro e w1 ⟨rfl, hb⟩
  have X2 := X2.later hb
  have X4 := X4.later hb
  have hB := hB.trans (hb.mono hB.size)
  clear hb
  go_upto_region 2 with fail
  have X7 := Box.new w1 [.int .i64 p.top, .int .i64 p.bank, .int .i64 p.siphon, .int .i64 p.start, .int .i64 p.positions, .int .i64 p.rate, .int .i64 p.step, .int .i64 p.pass, .int .i64 p.feed, .int .i64 p.pipe, .int .i64 p.orders, .int .i64 p.age, .slice A2 m2 k2] 83
  have hG : w.heap.size + 1 + 1 < w1.heap.size := X4.lt
  have X2 := X2.alloc (.cells #[.int .i64 p.top, .int .i64 p.bank, .int .i64 p.siphon, .int .i64 p.start, .int .i64 p.positions, .int .i64 p.rate, .int .i64 p.step, .int .i64 p.pass, .int .i64 p.feed, .int .i64 p.pipe, .int .i64 p.orders, .int .i64 p.age, .slice A2 m2 k2] 83)
  have X4 := X4.alloc (.cells #[.int .i64 p.top, .int .i64 p.bank, .int .i64 p.siphon, .int .i64 p.start, .int .i64 p.positions, .int .i64 p.rate, .int .i64 p.step, .int .i64 p.pass, .int .i64 p.feed, .int .i64 p.pipe, .int .i64 p.orders, .int .i64 p.age, .slice A2 m2 k2] 83)
  have hB := hB.alloc hB.size (.cells #[.int .i64 p.top, .int .i64 p.bank, .int .i64 p.siphon, .int .i64 p.start, .int .i64 p.positions, .int .i64 p.rate, .int .i64 p.step, .int .i64 p.pass, .int .i64 p.feed, .int .i64 p.pipe, .int .i64 p.orders, .int .i64 p.age, .slice A2 m2 k2] 83)
  generalize w1.alloc (.cells #[.int .i64 p.top, .int .i64 p.bank, .int .i64 p.siphon, .int .i64 p.start, .int .i64 p.positions, .int .i64 p.rate, .int .i64 p.step, .int .i64 p.pass, .int .i64 p.feed, .int .i64 p.pipe, .int .i64 p.orders, .int .i64 p.age, .slice A2 m2 k2] 83) = w2 at X2 X4 X7 hB ⊢
  generalize w1.heap.size = G at X7 hG ⊢
  have hGb : G < w2.heap.size := X7.lt
  have hmk1 : (Instr.makeMap 97 none).run Try.prog w2 = .ok (.map (some w2.heap.size)) (w2.alloc (.map #[] 0)) := rfl
  have hmk2 : (Instr.makeMap 56 none).run Try.prog (w2.alloc (.map #[] 0)) = .ok (.map (some (w2.heap.size + 1))) ((w2.alloc (.map #[] 0)).alloc (.map #[] 0)) := by
    rw [show w2.heap.size + 1 = (w2.alloc (.map #[] 0)).heap.size by simp]
    rfl
  go_upto_region 5 with fail
  clear hmk1 hmk2
  have M1 : ∀ D, RowsS (w2.alloc (.map #[] 0)) D w2.heap.size (fun k => quB (.slice none 0 0) = some k) (fun _ => []) := fun D => RowsS.made w2 D _
  have M2 : LostM ((w2.alloc (.map #[] 0)).alloc (.map #[] 0)) (w2.heap.size + 1) (fun _ => false) := by
    have := MapS.made (w2.alloc (.map #[] 0))
    rw [World.size_alloc] at this
    exact this
  have M1 := fun D => (M1 D).later ((Below.refl _ _).alloc (Nat.le_refl _) (.map #[] 0))
  have hU := (((Below.refl w2.heap.size w2).alloc (Nat.le_refl _) (.map #[] 0)).alloc (by simp) (.map #[] 0))
  have hsz : ((w2.alloc (.map #[] 0)).alloc (.map #[] 0)).heap.size = w2.heap.size + 1 + 1 := by simp
  generalize (w2.alloc (.map #[] 0)).alloc (.map #[] 0) = w3 at M1 M2 hU hsz ⊢
  go_upto_region 6 with fail
  have X2 := X2.later hU
  have X4 := X4.later hU
  have X7 := X7.later hU
  have hB := hB.trans (hU.mono hB.size)
  clear hU
  generalize hb2 : w2.heap.size = b at M1 M2 hsz hGb ⊢
  clear hb2
  have hV := ((Below.refl w3.heap.size w3).alloc (Nat.le_refl _) (.cells #[.map (some b)] 97)).alloc (by simp) (.cells #[.map (some (b + 1))] 56)
  have hV := hV.alloc hV.size (.cells #[.slice none 0 0] 43)
  have X8 := ((Box.newAt (w := w3) (n := b + 1 + 1) [.map (some b)] 97 hsz.symm).alloc (.cells #[.map (some (b + 1))] 56)).alloc (.cells #[.slice none 0 0] 43)
  have X9 := (Box.newAt (w := w3.alloc (.cells #[.map (some b)] 97)) (n := b + 1 + 1 + 1) [.map (some (b + 1))] 56 (by rw [World.size_alloc, hsz])).alloc (.cells #[.slice none 0 0] 43)
  have X10 := Box.newAt (w := (w3.alloc (.cells #[.map (some b)] 97)).alloc (.cells #[.map (some (b + 1))] 56)) (n := b + 1 + 1 + 1 + 1) [.slice none 0 0] 43 (by rw [World.size_alloc, World.size_alloc, hsz])
  generalize ((w3.alloc (.cells #[.map (some b)] 97)).alloc (.cells #[.map (some (b + 1))] 56)).alloc (.cells #[.slice none 0 0] 43) = w4 at hV X8 X9 X10 ⊢
  have hL : IvB w G b p (.slice A2 m2 k2) w4 := ⟨hB.trans (hV.mono hB.size), X2.later hV, X4.later hV, X7.later hV, X8, X9⟩
  have M1 := fun D => (M1 D).later hV
  have M2 := M2.later hV
  clear hV X8 X9 X2 X4 X7 hB hsz
  have X7 := hL.game
  have X7c0 : w4.cell? ⟨G, 0, none⟩ = some (.int .i64 p.top) := X7.cell 0
  have X7c1 : w4.cell? ⟨G, 1, none⟩ = some (.int .i64 p.bank) := X7.cell 1
  have X7c2 : w4.cell? ⟨G, 2, none⟩ = some (.int .i64 p.siphon) := X7.cell 2
  have X7c3 : w4.cell? ⟨G, 3, none⟩ = some (.int .i64 p.start) := X7.cell 3
  have X7c4 : w4.cell? ⟨G, 4, none⟩ = some (.int .i64 p.positions) := X7.cell 4
  have X7c5 : w4.cell? ⟨G, 5, none⟩ = some (.int .i64 p.rate) := X7.cell 5
  have X7c6 : w4.cell? ⟨G, 6, none⟩ = some (.int .i64 p.step) := X7.cell 6
  have X7c7 : w4.cell? ⟨G, 7, none⟩ = some (.int .i64 p.pass) := X7.cell 7
  have X7c8 : w4.cell? ⟨G, 8, none⟩ = some (.int .i64 p.feed) := X7.cell 8
  have X7c9 : w4.cell? ⟨G, 9, none⟩ = some (.int .i64 p.pipe) := X7.cell 9
  have X7c10 : w4.cell? ⟨G, 10, none⟩ = some (.int .i64 p.orders) := X7.cell 10
  have X7c11 : w4.cell? ⟨G, 11, none⟩ = some (.int .i64 p.age) := X7.cell 11
  have X7c12 : w4.cell? ⟨G, 12, none⟩ = some (.slice A2 m2 k2) := X7.cell 12
  have X7z := X7.lt
  go_wp2_with fail
  refine (bStates_any p _ _ hv.out.pipe).mono ?_
  rintro e v ⟨rfl, hM, hb⟩
  clear X7c0 X7c1 X7c2 X7c3 X7c4 X7c5 X7c6 X7c7 X7c8 X7c9 X7c10 X7c11 X7c12 X7 X7z
  have hBm1 : b + 1 + 1 + 1 + 1 < w4.heap.size + 1 := Nat.lt_succ_of_lt X10.lt
  have hL := hL.later hb
  have X10 := X10.later hb
  have M1 := fun D => (M1 D).later hb
  have M2 := M2.later hb
  clear hb
  have hBm2 : w4.heap.size + 1 < v.heap.size := hM.lt
  generalize w4.heap.size + 1 = Bm at hM hBm1 hBm2 ⊢
  go_wp2_with fail
  have hN : IvN w G b (v.heap.size + 3) := ⟨hG, hGb, by omega⟩
  refine wpIn_wide.1 (wpIn_rangeO_out (n := 6) rfl (by omega) (gf := 66) (lb := #[.pointer (some ⟨Bm, 0, none⟩)]) rfl trivial (enters_of Try.func66 (by kernel_rfl) rfl)
    (Kp := KeepsC 0 (fun k => ¬ (k = Bm ∨ k = v.heap.size + 2))) rfl (fun k hk => by cases hk; exact Nat.le_refl _) (fun A B C h1 h2 => h1.trans h2) (fun W l o o' hl ho hc => KeepsC.put ho hc (Nat.zero_le _) o')
    (states_seqO 5 p hv Bm v 0 (fun s k => ¬ (k = Bm ∨ k = s)) hM (fun s h => h (.inl rfl)) (fun s h => h (.inr rfl))) (Below.refl _ _) (fun _ => rfl)
    (fun pre W => v.heap.size + 2 ≤ W.heap.size ∧ IvB w G b p (.slice A2 m2 k2) W ∧ ∃ A n k, IvD (v.heap.size + 3) b (sweepI p c pre) A n k W)
    (fun _ _ _ => False)
    ?hI (fun _ _ _ _ _ _ _ _ h => h) ?hI2 (fun _ _ _ _ h _ => h) ?h0
    (fun pre x a' W => ∃ B11, v.heap.size + 2 ≤ B11 ∧ v.heap.size + 3 ≤ W.heap.size ∧ Box W B11 x.cells ∧ IvB w G b p (.slice A2 m2 k2) W ∧ (∃ A n k, IvD (v.heap.size + 3) b (sweepI p c pre) A n k W ∧ (∀ g, quB (.slice A n k) = some g → g < B11) ∧ RowsS W (v.heap.size + 3) b (fun g => B11 ≤ g ∨ quB (.slice A n k) = some g) (sweepI p c pre).fr) ∧ Hid (pre ++ [x] <+: p.states) ∧ a' = { tmps := #[p.v, .agg #[.slice A2 m2 k2], .pointer (some ⟨w.heap.size, 0, none⟩), .pointer (some ⟨w.heap.size + 1, 0, none⟩), .pointer (some ⟨w.heap.size + 1 + 1, 0, none⟩), .bool false, .int .i64 0, .pointer (some ⟨G, 0, none⟩), .pointer (some ⟨b + 1 + 1, 0, none⟩), .pointer (some ⟨b + 1 + 1 + 1, 0, none⟩), .pointer (some ⟨b + 1 + 1 + 1 + 1, 0, none⟩), .pointer (some ⟨B11, 0, none⟩), undef, undef, undef, undef, undef, undef, undef, undef, undef, .tuple #[gmV p (.slice A2 m2 k2), .int .i64 0], .agg #[.int .i64 p.top, .int .i64 p.bank, .int .i64 p.siphon, .int .i64 p.start, .int .i64 p.positions, .int .i64 p.rate, .int .i64 p.step, .int .i64 p.pass, .int .i64 p.feed, .int .i64 p.pipe, .int .i64 p.orders, .int .i64 p.age], .agg #[.slice A2 m2 k2], .tuple #[gmV p (.slice A2 m2 k2), .int .i64 0], gmV p (.slice A2 m2 k2), .int .i64 0, .int .i64 0, .bool false, undef, .map (some b), .map (some (b + 1)), gmV p (.slice A2 m2 k2), .func (.func 66) #[] #[.pointer (some ⟨Bm, 0, none⟩)], .agg #[.int .i64 x.level, .int .i64 x.position, .int .i64 x.p0, .int .i64 x.p1, .int .i64 x.order, .int .i64 x.age], undef, undef, undef, undef, undef, undef, undef, undef, undef, undef, undef, undef, undef, undef, undef, undef, undef, undef, undef, undef, undef, undef, undef, undef, undef, undef, undef, undef, undef, undef, undef, undef, undef, undef, undef, undef, undef, undef, undef, undef, undef, undef, undef, undef, undef, undef, undef, undef, undef, undef, undef, undef, undef, undef, undef, undef, undef, undef, undef, undef, undef, undef, undef, undef, undef, undef, undef, undef, undef, undef, undef, undef, undef, undef, undef, undef, undef, undef], defers := [] })
    ?hAx ?assign ?body ?done (fun _ _ _ _ _ _ h => h.elim))
  case hI =>
    rintro pre A l o r hl hr ⟨h1, h2, A3, n3, k3, h3⟩
    have hg := grown_put (o' := o) hr
    exact ⟨by simpa using h1, h2.grown hg (fun k hk => by cases hk; omega), A3, n3, k3, h3.grown hg (fun k hk => by cases hk; exact ⟨by omega, by omega, by omega, .inr ⟨_, hr, rfl⟩⟩)⟩
  case hI2 =>
    rintro pre A B ⟨h1, h2, A3, n3, k3, h3⟩ hg
    exact ⟨Nat.le_trans h1 hg.size, h2.grown hg (fun k hk => by cases hk; omega), A3, n3, k3, h3.grown hg (fun k hk => by cases hk; exact ⟨by omega, by omega, by omega, .inl (Nat.lt_succ_self _)⟩)⟩
  case h0 =>
    intro W hb hz
    exact ⟨Nat.le_of_eq hz.symm, hL.later hb, none, 0, 0, X10.later hb, Qu.nil _ _, (M1 _).later hb, M2.later hb⟩
  case hAx =>
    rintro pre x a' A l o o' hl ho hc ⟨B11, h1, h1', h2, h3, ⟨A3, n3, k3, h4, h6, h7⟩, h5, rfl⟩
    have hg := grown_put (o' := o') ho
    exact ⟨B11, h1, by simpa using h1', h2.record ho hc _, h3.grown hg (fun k hk => by cases hk; omega), ⟨A3, n3, k3, h4.grown hg (fun k hk => by cases hk; exact ⟨by omega, by omega, by omega, .inr ⟨_, ho, hc⟩⟩), h6, h7.kept hg (fun e => by have := Option.some.inj e; omega) (fun k hk => by cases hk; exact .inr (.inr ⟨_, ho, hc⟩))⟩, h5, rfl⟩
  case assign =>
    rintro l pre x W K ⟨h0, h1, A3, n3, k3, h2⟩ hT hK
    obtain ⟨x0, x1, x2, x3, x4, x5⟩ := x
    gi_wp2
    have hb := (Below.refl W.heap.size W).alloc (Nat.le_refl _) (.cells #[.int .i64 x0, .int .i64 x1, .int .i64 x2, .int .i64 x3, .int .i64 x4, .int .i64 x5] 30)
    exact hK _ _ (kfOf hb) (KeepsC.of hb (Nat.zero_le _)) ⟨W.heap.size, h0, by simp; omega, Box.new W [.int .i64 x0, .int .i64 x1, .int .i64 x2, .int .i64 x3, .int .i64 x4, .int .i64 x5] 30, h1.later hb, ⟨A3, n3, k3, h2.later hb, fun g hg => (h2.op.lt hg).2, (h2.fr.no (fun g hg => hg.elim (fun h => .inr h) (fun h => .inl h))).later hb⟩, Lib.hid hT, rfl⟩
  case body =>
    rintro l pre x a' W hl ⟨r0, hr0⟩ ⟨B11, hB11, hDW, bX, hLW, ⟨A3, n3, k3, hDa, hQb, hRb⟩, hT1, rfl⟩
    have hxs := Lib.hid (pre_mem hT1.out)
    obtain ⟨x0, x1, x2, x3, x4, x5⟩ := x
    gi_upto_region 8 with fail
    dsimp only
    have X7 := hLW.game
    have X7c0 : W.cell? ⟨G, 0, none⟩ = some (.int .i64 p.top) := X7.cell 0
    have X7c1 : W.cell? ⟨G, 1, none⟩ = some (.int .i64 p.bank) := X7.cell 1
    have X7c2 : W.cell? ⟨G, 2, none⟩ = some (.int .i64 p.siphon) := X7.cell 2
    have X7c3 : W.cell? ⟨G, 3, none⟩ = some (.int .i64 p.start) := X7.cell 3
    have X7c4 : W.cell? ⟨G, 4, none⟩ = some (.int .i64 p.positions) := X7.cell 4
    have X7c5 : W.cell? ⟨G, 5, none⟩ = some (.int .i64 p.rate) := X7.cell 5
    have X7c6 : W.cell? ⟨G, 6, none⟩ = some (.int .i64 p.step) := X7.cell 6
    have X7c7 : W.cell? ⟨G, 7, none⟩ = some (.int .i64 p.pass) := X7.cell 7
    have X7c8 : W.cell? ⟨G, 8, none⟩ = some (.int .i64 p.feed) := X7.cell 8
    have X7c9 : W.cell? ⟨G, 9, none⟩ = some (.int .i64 p.pipe) := X7.cell 9
    have X7c10 : W.cell? ⟨G, 10, none⟩ = some (.int .i64 p.orders) := X7.cell 10
    have X7c11 : W.cell? ⟨G, 11, none⟩ = some (.int .i64 p.age) := X7.cell 11
    have X7c12 : W.cell? ⟨G, 12, none⟩ = some (.slice A2 m2 k2) := X7.cell 12
    obtain ⟨bXc0, bXc1, bXc2, bXc3, bXc4, bXc5⟩ := bX.c6
    have X7z := X7.lt
    have bXz := bX.lt
    obtain ⟨q, er, hs⟩ : ∃ q er, Hid (p.safeT ⟨x0, x1, x2, x3, x4, x5⟩ = (q, er)) := ⟨_, _, rfl⟩
    gi_cut [38] from 113 (fun s38 wx => s38 = .bool (!q) ∧ Below W.heap.size W wx)
    case first =>
      gi_wp2_with fail
      refine ⟨trivial, ?_⟩
      refine (callsIn_wide.2 (bSafe_is (p := p) (V := .slice A2 m2 k2) (s := ⟨x0, x1, x2, x3, x4, x5⟩) hs)).mono ?_
      rintro e W1 ⟨rfl, hb1⟩
      gi_wp2
      gi_meet
      exact ⟨rfl, hb1⟩
    case rest =>
    obtain ⟨rfl, hb1⟩ := hcut
    clear X7c0 X7c1 X7c2 X7c3 X7c4 X7c5 X7c6 X7c7 X7c8 X7c9 X7c10 X7c11 X7c12 X7 X7z bXc0 bXc1 bXc2 bXc3 bXc4 bXc5 bXz
    gi_upto_if 38 with fail
    have hwide : (⟨x0, x1, x2, x3, x4, x5⟩ : St).Wide := states_wide hv.out hxs.out
    have hoplen : (sweepI p c pre).op.length ≤ 1048576 := by
      have h1 := sweep_op p c pre ivZero
      have h2 := (pre_len hT1.out)
      have h3 := hcn.out
      rw [states_len] at h2
      exact Nat.le_trans h1 (by show 0 + pre.length ≤ _; omega)
    gi_cut [] from 113 (fun wx => Did (xI b) (v.heap.size + 3) W wx ∧ Box wx B11 [.int .i64 x0, .int .i64 x1, .int .i64 x2, .int .i64 x3, .int .i64 x4, .int .i64 x5] ∧ ∃ A n k, IvD (v.heap.size + 3) b ⟨(sweepI p c pre).fr, if q = true then (sweepI p c pre).lost else updB (sweepI p c pre).lost ⟨x0, x1, x2, x3, x4, x5⟩, if q = true then (sweepI p c pre).op else (sweepI p c pre).op ++ [⟨x0, x1, x2, x3, x4, x5⟩]⟩ A n k wx ∧ RowsS wx (v.heap.size + 3) b (fun g => B11 ≤ g ∨ quB (.slice A n k) = some g) (sweepI p c pre).fr)
    case first =>
      cases q with
      | true =>
        simp only [Bool.not_true]
        gi_wp2
        gi_meet
        exact ⟨(Did.refl _ _ _).below hb1, bX.later hb1, A3, n3, k3, by simpa using hDa.later hb1, hRb.later hb1⟩
      | false =>
        simp only [Bool.not_false]
        gi_upto_region 9 with fail
        obtain ⟨wc', rfl⟩ : ∃ wc' : World, wc' = wc := ⟨_, rfl⟩
        have hd := (Below.refl wc'.heap.size wc').drew
        have Z9 := ((hLW.later hb1).lost).later hd
        have Z11 := (bX.later hb1).later hd
        have hDc := (hDa.later hb1).later hd
        have Z10 := hDc.box
        obtain ⟨HH, hHH⟩ : ∃ HH : World → Prop, ∀ w', HH w' ↔ (Box w' (b + 1 + 1 + 1) [.map (some (b + 1))] ∧ Box w' B11 [.int .i64 x0, .int .i64 x1, .int .i64 x2, .int .i64 x3, .int .i64 x4, .int .i64 x5] ∧ Box w' (b + 1 + 1 + 1 + 1) [.slice A3 n3 k3]) := ⟨_, fun _ => Iff.rfl⟩
        have hH0 : HH wc'.drew := (hHH _).2 ⟨Z9, Z11, Z10⟩
        have : Nonempty (HeldW HH) := ⟨⟨_, hH0⟩⟩
        have hgh : ∀ z : HeldW HH, Box z.w (b + 1 + 1 + 1) [.map (some (b + 1))] ∧ Box z.w B11 [.int .i64 x0, .int .i64 x1, .int .i64 x2, .int .i64 x3, .int .i64 x4, .int .i64 x5] ∧ Box z.w (b + 1 + 1 + 1 + 1) [.slice A3 n3 k3] := fun z => (hHH _).1 z.h
        have g9 : ∀ z : HeldW HH, z.w.cell? ⟨b + 1 + 1 + 1, 0, none⟩ = some (.map (some (b + 1))) := fun z => (hgh z).1.cell 0
        have g10 : ∀ z : HeldW HH, z.w.cell? ⟨b + 1 + 1 + 1 + 1, 0, none⟩ = some (.slice A3 n3 k3) := fun z => (hgh z).2.2.cell 0
        have y0 : ∀ z : HeldW HH, z.w.cell? ⟨B11, 0, none⟩ = some (.int .i64 x0) := fun z => (hgh z).2.1.cell 0
        have y1 : ∀ z : HeldW HH, z.w.cell? ⟨B11, 1, none⟩ = some (.int .i64 x1) := fun z => (hgh z).2.1.cell 1
        have y2 : ∀ z : HeldW HH, z.w.cell? ⟨B11, 2, none⟩ = some (.int .i64 x2) := fun z => (hgh z).2.1.cell 2
        have y3 : ∀ z : HeldW HH, z.w.cell? ⟨B11, 3, none⟩ = some (.int .i64 x3) := fun z => (hgh z).2.1.cell 3
        have y4 : ∀ z : HeldW HH, z.w.cell? ⟨B11, 4, none⟩ = some (.int .i64 x4) := fun z => (hgh z).2.1.cell 4
        have y5 : ∀ z : HeldW HH, z.w.cell? ⟨B11, 5, none⟩ = some (.int .i64 x5) := fun z => (hgh z).2.1.cell 5
        clear hgh
        refine wpIn_region_upto (C := fun w' => ∃ x : HeldW HH, w' = x.w) 6 [0, 1, 2, 3] (by kernel_rfl) (by kernel_rfl) (HeldW.mk' hH0) (fun _ _ h => h) ?_
        simp only [headOps, List.filterMap_cons, List.filterMap_nil, List.getElem?_toArray, List.getElem?_cons_succ, List.getElem?_cons_zero]
        repeat (first | go_big_quiet_skip | (show wpQuiet _ _ _ _ (_ :: _) _; go_big_quiet_skip) | (show wpQuiet _ _ _ _ (_ :: _) _; go_big_quiet_want; go_big_quiet_op; go_big_quiet_on))
        refine wpQuiet_nil ?_
        clear g9 g10 y0 y1 y2 y3 y4 y5
        have hbA := (Below.refl wc'.drew.heap.size wc'.drew).alloc (Nat.le_refl _) (.cells #[.int .i64 x0, .int .i64 x1, .int .i64 x2, .int .i64 x3, .int .i64 x4, .int .i64 x5] 30)
        have XL := Box.new wc'.drew [.int .i64 x0, .int .i64 x1, .int .i64 x2, .int .i64 x3, .int .i64 x4, .int .i64 x5] 30
        have hDc2 := hDc.later hbA
        have Z9 := Z9.later hbA
        have Z11 := Z11.later hbA
        have Z10 := Z10.later hbA
        have hRc := ((hRb.later hb1).later hd).later hbA
        have hH1 : HH (wc'.drew.alloc (.cells #[.int .i64 x0, .int .i64 x1, .int .i64 x2, .int .i64 x3, .int .i64 x4, .int .i64 x5] 30)) := (hHH _).2 ⟨Z9, Z11, Z10⟩
        have hDid0 := (((Did.refl (xI b) (v.heap.size + 3) W).below hb1).below hd).below hbA
        have hsz0 := hDid0.size
        have hz11 := Z11.lt
        obtain ⟨A4, n4, c4, wA, wB, hr, hrB, hDn, hRn, hQn, _, hDidn, hBx⟩ := hDc2.grow 43 (s := ⟨x0, x1, x2, x3, x4, x5⟩) XL (Nat.le_trans hDW hsz0) hN.hd hoplen hwide
        have hq9 : quB (.slice A3 n3 k3) ≠ some (b + 1 + 1 + 1) := fun e => by have := (hDc2.op.lt e).1; omega
        have hq10 : quB (.slice A3 n3 k3) ≠ some (b + 1 + 1 + 1 + 1) := fun e => by have := (hDc2.op.lt e).1; omega
        have hq11 : quB (.slice A3 n3 k3) ≠ some B11 := fun e => by have := hQb _ e; omega
        have hH2 : HH wA := (hHH _).2 ⟨(hBx _ _ Z9 hq9).1, (hBx _ _ Z11 hq11).1, (hBx _ _ Z10 hq10).1⟩
        have ZB := (hBx _ _ Z10 hq10).2.1
        have zc := ZB.cell 0
        have zf := ZB.free 0
        have zz := ZB.lt
        refine anyG_val (some 43) (n := 3) (i := 4) (v := .slice (some ⟨wc'.drew.heap.size, 0, none⟩) 1 1) (w' := wc'.drew.alloc (.cells #[.int .i64 x0, .int .i64 x1, .int .i64 x2, .int .i64 x3, .int .i64 x4, .int .i64 x5] 30)) (by kernel_rfl) rfl rfl rfl (fun _ => HeldW.mk' hH0) (by go_simp) ?_
        simp only [Act.put, List.setIfInBounds_toArray, List.set_cons_zero, List.set_cons_succ]
        refine anyG_val (some 44) (n := 2) (i := 5) (v := .slice A4 n4 c4) (w' := wA) (by kernel_rfl) rfl rfl rfl (fun _ => HeldW.mk' hH1) (run_app_op (x := .tmp 41) (y := .tmp 43) rfl rfl rfl rfl hr) ?_
        simp only [Act.put, List.setIfInBounds_toArray, List.set_cons_zero, List.set_cons_succ]
        refine anyG_store (n := 1) (i := 6) (w' := wB) (by kernel_rfl) rfl rfl rfl (fun _ => HeldW.mk' hH2) (run_put_op rfl rfl rfl rfl hrB) ?_
        refine anyG_store (n := 0) (i := 7) (w' := wB.setCell ⟨b + 1 + 1 + 1 + 1, 0, none⟩ (.slice A4 n4 c4)) (by kernel_rfl) rfl rfl rfl (fun h => by cases h) (by go_simp) ?_
        refine anyG_done (by kernel_rfl) rfl ?_
        clear zc zf zz ZB
        dsimp only [Exit.then]
        gi_wp2
        gi_meet
        exact ⟨hDidn W hDid0, (hBx _ _ Z11 hq11).2.2 (by omega), A4, n4, c4, by simpa using hDn, (hRn _ hRc (fun k hk => .inr hk)).no (fun g hg => .inl (hg.elim (fun h => .inl h) (fun h => (hQn g h).elim (fun h => .inr h) (fun h => .inl (by omega)))))⟩
    case rest =>
    obtain ⟨hDid, bX, A4, n4, c4, hDb, hRb⟩ := hcut
    clear hDa hb1
    obtain ⟨lo, hlo⟩ : ∃ lo, (if q = true then (sweepI p c pre).lost else updB (sweepI p c pre).lost ⟨x0, x1, x2, x3, x4, x5⟩) = lo := ⟨_, rfl⟩
    obtain ⟨oq, hoq⟩ : ∃ oq, (if q = true then (sweepI p c pre).op else (sweepI p c pre).op ++ [⟨x0, x1, x2, x3, x4, x5⟩]) = oq := ⟨_, rfl⟩
    rw [hlo, hoq] at hDb
    obtain ⟨Wc, rfl⟩ : ∃ Wc : World, Wc = wc := ⟨_, rfl⟩
    have hmk : (Instr.makeMap 56 none).run Try.prog Wc = .ok (.map (some Wc.heap.size)) (Wc.alloc (.map #[] 0)) := rfl
    gi_upto_region 11 with fail
    clear hmk
    have hsn : LostM (Wc.alloc (.map #[] 0)) Wc.heap.size (fun _ => false) := MapS.made Wc
    have hb2 := (Below.refl Wc.heap.size Wc).alloc (Nat.le_refl _) (.map #[] 0)
    have hb3 := (Below.refl (Wc.alloc (.map #[] 0)).heap.size (Wc.alloc (.map #[] 0))).alloc (Nat.le_refl _) (.cells #[.map (some Wc.heap.size)] 56)
    have S12 := Box.newAt (w := Wc.alloc (.map #[] 0)) (n := Wc.heap.size + 1) [.map (some Wc.heap.size)] 56 (by simp)
    have hsn := hsn.later hb3
    have hb4 := hb2.trans (hb3.mono hb2.size)
    have hz11 := bX.lt
    have hDid2 := hDid.below hb4
    have bX := bX.later hb4
    have hDb := hDb.later hb4
    have hRb := hRb.later hb4
    clear hb2 hb3
    have hB12 : Wc.heap.size + 1 < ((Wc.alloc (.map #[] 0)).alloc (.cells #[.map (some Wc.heap.size)] 56)).heap.size := S12.lt
    generalize (Wc.alloc (.map #[] 0)).alloc (.cells #[.map (some Wc.heap.size)] 56) = We at hsn S12 hDid2 bX hDb hRb hb4 hB12 ⊢
    have hWSn : W.heap.size ≤ Wc.heap.size := hDid.size
    generalize Wc.heap.size = Sn at hsn S12 hB12 hz11 hWSn hb4 ⊢
    have hLe := hLW.did hN hDid2
    have X7 := hLe.game
    have X7c0 : We.cell? ⟨G, 0, none⟩ = some (.int .i64 p.top) := X7.cell 0
    have X7c1 : We.cell? ⟨G, 1, none⟩ = some (.int .i64 p.bank) := X7.cell 1
    have X7c2 : We.cell? ⟨G, 2, none⟩ = some (.int .i64 p.siphon) := X7.cell 2
    have X7c3 : We.cell? ⟨G, 3, none⟩ = some (.int .i64 p.start) := X7.cell 3
    have X7c4 : We.cell? ⟨G, 4, none⟩ = some (.int .i64 p.positions) := X7.cell 4
    have X7c5 : We.cell? ⟨G, 5, none⟩ = some (.int .i64 p.rate) := X7.cell 5
    have X7c6 : We.cell? ⟨G, 6, none⟩ = some (.int .i64 p.step) := X7.cell 6
    have X7c7 : We.cell? ⟨G, 7, none⟩ = some (.int .i64 p.pass) := X7.cell 7
    have X7c8 : We.cell? ⟨G, 8, none⟩ = some (.int .i64 p.feed) := X7.cell 8
    have X7c9 : We.cell? ⟨G, 9, none⟩ = some (.int .i64 p.pipe) := X7.cell 9
    have X7c10 : We.cell? ⟨G, 10, none⟩ = some (.int .i64 p.orders) := X7.cell 10
    have X7c11 : We.cell? ⟨G, 11, none⟩ = some (.int .i64 p.age) := X7.cell 11
    have X7c12 : We.cell? ⟨G, 12, none⟩ = some (.slice A2 m2 k2) := X7.cell 12
    obtain ⟨bXc0, bXc1, bXc2, bXc3, bXc4, bXc5⟩ := bX.c6
    have X7z := X7.lt
    have bXz := bX.lt
    gi_wp2_with fail
    refine ⟨trivial, ?_⟩
    refine (callsIn_wide.2 (bNext_any p (.slice A2 m2 k2) ⟨x0, x1, x2, x3, x4, x5⟩ _)).mono ?_
    rintro e W3 ⟨rfl, hGg, hGs, hb5⟩
    clear X7c0 X7c1 X7c2 X7c3 X7c4 X7c5 X7c6 X7c7 X7c8 X7c9 X7c10 X7c11 X7c12 X7 X7z bXc0 bXc1 bXc2 bXc3 bXc4 bXc5 bXz
    have hDid3 := hDid2.below hb5
    have bX := bX.later hb5
    have hDb := hDb.later hb5
    have hRb := hRb.later hb5
    have hsn := hsn.later hb5
    have S12 := S12.later hb5
    have hz3 : We.heap.size + 1 < W3.heap.size := hGs.lt
    have hr3 : ∃ r3, W3.heap[l]? = some (.loop r3) := ⟨_, hDid3.high l _ (by unfold xI; omega) hr0 rfl⟩
    obtain ⟨r3, hr3⟩ := hr3
    generalize We.heap.size = Bg at hGg hGs hz3 hB12 ⊢
    have hIN : InN b (v.heap.size + 3) W B11 (Sn + 1) Sn Bg W3.heap.size := ⟨by omega, hN.hd, hWSn, hz11, Nat.lt_succ_self _, hB12, hz3⟩
    have hI3 : InI b p (.slice A2 m2 k2) (v.heap.size + 3) W B11 (Sn + 1) Sn Bg W3.heap.size ⟨x0, x1, x2, x3, x4, x5⟩ A4 n4 c4 oq lo (sweepI p c pre).fr (fun _ => false) W3 :=
      ⟨Nat.le_refl _, hDid3, bX, S12, hGg, hGs, hDb.box, hDb.op, hDb.lost, hsn, hRb.no (fun g hg => .inl (hg.elim (fun h => .inr h) (fun h => .inl h.1)))⟩
    clear hDb hRb hsn S12 bX hDid hDid2 hb4 hb5
    gi_wp2_with fail
    have hL3 := hLW.did hN hDid3
    have hw3 := hL3.low.size
    refine (wpIn_rangeO_in (F := Fence.wide.inRound l) (n := 4) (l₀ := l) rfl hr3 (by omega) (gf := 67) (lb := #[.pointer (some ⟨Bg, 0, none⟩), .pointer (some ⟨Bg + 1, 0, none⟩)]) rfl trivial (enters_of Try.func67 (by kernel_rfl) rfl)
      (encs := fun x : Sh × St => #[x.1.v, x.2.v]) (Kpn := fun _ => KeepsC w.heap.size (fun k => ¬ (k = Bg ∨ k = Bg + 1))) (Ow := fun _ => none) (Kp := KeepsC w.heap.size (fun k => ¬ (k = Bg ∨ k = Bg + 1))) rfl (fun k hk => by cases hk) (fun A B C h1 h2 => h1.trans h2) (fun W l o o' hl ho hc => KeepsC.put ho hc (Nat.le_trans hw3 hl) o')
      (next_seqO 3 p c (.slice A2 m2 k2) ⟨x0, x1, x2, x3, x4, x5⟩ hv Bg (Bg + 1) W3 w.heap.size (fun _ k => ¬ (k = Bg ∨ k = Bg + 1)) hw3 (Lib.hid (hC.out.below hL3.low)) hGg hGs (fun _ h => h (.inl rfl)) (fun _ h => h (.inr rfl))) (Below.refl _ _) (fun _ => rfl)
      (fun pre2 A => InI b p (.slice A2 m2 k2) (v.heap.size + 3) W B11 (Sn + 1) Sn Bg W3.heap.size ⟨x0, x1, x2, x3, x4, x5⟩ A4 n4 c4 oq lo (foldI ⟨x0, x1, x2, x3, x4, x5⟩ (sweepI p c pre).fr pre2).1 (foldI ⟨x0, x1, x2, x3, x4, x5⟩ (sweepI p c pre).fr pre2).2 A)
      (fun _ _ _ => False)
      ?hJ (fun _ _ _ _ _ _ _ _ h => h) ?hJ2 (fun _ _ _ _ h _ => h) ?h02
      (fun pre2 y a' A => ∃ B14, W3.heap.size ≤ B14 ∧ Box A B14 [.int .i64 y.2.level, .int .i64 y.2.position, .int .i64 y.2.p0, .int .i64 y.2.p1, .int .i64 y.2.order, .int .i64 y.2.age] ∧ InI b p (.slice A2 m2 k2) (v.heap.size + 3) W B11 (Sn + 1) Sn Bg W3.heap.size ⟨x0, x1, x2, x3, x4, x5⟩ A4 n4 c4 oq lo (foldI ⟨x0, x1, x2, x3, x4, x5⟩ (sweepI p c pre).fr pre2).1 (foldI ⟨x0, x1, x2, x3, x4, x5⟩ (sweepI p c pre).fr pre2).2 A ∧ Hid (pre2 ++ [y] <+: p.nexts c ⟨x0, x1, x2, x3, x4, x5⟩ (p.nf * p.nm)) ∧ a' = { tmps := #[p.v, .agg #[.slice A2 m2 k2], .pointer (some ⟨w.heap.size, 0, none⟩), .pointer (some ⟨w.heap.size + 1, 0, none⟩), .pointer (some ⟨w.heap.size + 1 + 1, 0, none⟩), .bool false, .int .i64 0, .pointer (some ⟨G, 0, none⟩), .pointer (some ⟨b + 1 + 1, 0, none⟩), .pointer (some ⟨b + 1 + 1 + 1, 0, none⟩), .pointer (some ⟨b + 1 + 1 + 1 + 1, 0, none⟩), .pointer (some ⟨B11, 0, none⟩), .pointer (some ⟨Sn + 1, 0, none⟩), undef, .pointer (some ⟨B14, 0, none⟩), undef, undef, undef, undef, undef, undef, .tuple #[gmV p (.slice A2 m2 k2), .int .i64 0], .agg #[.int .i64 p.top, .int .i64 p.bank, .int .i64 p.siphon, .int .i64 p.start, .int .i64 p.positions, .int .i64 p.rate, .int .i64 p.step, .int .i64 p.pass, .int .i64 p.feed, .int .i64 p.pipe, .int .i64 p.orders, .int .i64 p.age], .agg #[.slice A2 m2 k2], .tuple #[gmV p (.slice A2 m2 k2), .int .i64 0], gmV p (.slice A2 m2 k2), .int .i64 0, .int .i64 0, .bool false, undef, .map (some b), .map (some (b + 1)), gmV p (.slice A2 m2 k2), .func (.func 66) #[] #[.pointer (some ⟨Bm, 0, none⟩)], .agg #[.int .i64 x0, .int .i64 x1, .int .i64 x2, .int .i64 x3, .int .i64 x4, .int .i64 x5], u35, u36, u37, .bool !q, u39, u40, u41, u42, u43, u44, .map (some Sn), gmV p (.slice A2 m2 k2), .agg #[.int .i64 x0, .int .i64 x1, .int .i64 x2, .int .i64 x3, .int .i64 x4, .int .i64 x5], .func (.func 67) #[] #[.pointer (some ⟨Bg, 0, none⟩), .pointer (some ⟨Bg + 1, 0, none⟩)], .agg #[.int .i64 y.1.feed, .int .i64 y.1.msg], .agg #[.int .i64 y.2.level, .int .i64 y.2.position, .int .i64 y.2.p0, .int .i64 y.2.p1, .int .i64 y.2.order, .int .i64 y.2.age], undef, undef, undef, undef, undef, undef, undef, undef, undef, undef, undef, undef, undef, undef, undef, undef, undef, undef, undef, undef, undef, undef, undef, undef, undef, undef, undef, undef, undef, undef, undef, undef, undef, undef, undef, undef, undef, undef, undef, undef, undef, undef, undef, undef, undef, undef, undef, undef, undef, undef, undef, undef, undef, undef, undef, undef, undef, undef, undef, undef, undef, undef], defers := [] })
      ?hAx2 ?assign2 ?body2 ?done2 (fun _ _ _ _ h => h.elim))
    case hJ => exact fun pre2 A l2 o r hl2 hr2 h => h.grown hIN (grown_put (o' := o) hr2) (fun k hk => by cases hk; exact ⟨hl2, _, hr2, rfl⟩)
    case hJ2 => exact fun pre2 A B h hg => h.grown hIN hg (fun k hk => by cases hk)
    case h02 => exact fun A hb _ => hI3.later hIN hb
    case hAx2 =>
      rintro pre2 y a' A l2 o o' hl2 ho hc2 ⟨B14, h1, h2, h3, h4, rfl⟩
      exact ⟨B14, h1, h2.record ho hc2 _, h3.grown hIN (grown_put (o' := o') ho) (fun k hk => by cases hk; exact ⟨hl2, _, ho, hc2⟩), h4, rfl⟩
    case assign2 =>
      rintro l2 pre2 y A K h1 hT2 hK
      obtain ⟨⟨f0, f1⟩, y0, y1, y2, y3, y4, y5⟩ := y
      gi_wp2
      have hbs := (Below.refl A.heap.size A).alloc (Nat.le_refl _) (.cells #[.int .i64 y0, .int .i64 y1, .int .i64 y2, .int .i64 y3, .int .i64 y4, .int .i64 y5] 30)
      exact hK _ _ (kfOf hbs) (KeepsC.of hbs (Nat.le_trans hw3 h1.size)) ⟨A.heap.size, h1.size, Box.new A [.int .i64 y0, .int .i64 y1, .int .i64 y2, .int .i64 y3, .int .i64 y4, .int .i64 y5] 30, h1.later hIN hbs, Lib.hid hT2, rfl⟩
    case body2 =>
      rintro l2 pre2 y a' A hl2 ⟨r2, hr2⟩ ⟨B14, hB14, bY, hJA, hT2, rfl⟩
      have hym := nexts_mem (pre_mem hT2.out)
      have hyw : y.2.Wide := by
        rw [hym.2]
        exact has_wide hv.out (nextS_has h.out hxs.out hym.1)
      clear hym
      obtain ⟨⟨f0, f1⟩, y0, y1, y2, y3, y4, y5⟩ := y
      have hLA := hLW.did hN hJA.did
      have hlen : ((foldI ⟨x0, x1, x2, x3, x4, x5⟩ (sweepI p c pre).fr pre2).1 ⟨y0, y1, y2, y3, y4, y5⟩).length ≤ 1048576 := by
        have h1 := foldI_len (s := ⟨x0, x1, x2, x3, x4, x5⟩) (fr := (sweepI p c pre).fr) pre2 ⟨y0, y1, y2, y3, y4, y5⟩
        have h2 := sweep_len p c pre ⟨y0, y1, y2, y3, y4, y5⟩
        have h3 := pre_len hT1.out
        have h4 := hcn.out
        rw [states_len] at h3
        omega
      obtain ⟨f2, hf2⟩ : ∃ f2, foldI ⟨x0, x1, x2, x3, x4, x5⟩ (sweepI p c pre).fr pre2 = f2 := ⟨_, rfl⟩
      have hsnoc := foldI_snoc ⟨x0, x1, x2, x3, x4, x5⟩ (sweepI p c pre).fr pre2 (⟨f0, f1⟩, ⟨y0, y1, y2, y3, y4, y5⟩)
      rw [hf2] at hJA hlen hsnoc
      obtain ⟨fr2, sn2⟩ := f2
      dsimp only at hJA hlen hsnoc
      have hlk := lost_look hJA.seen hyw
      have bS := hJA.seenP
      have bX := hJA.s
      have bF := hLA.fm
      obtain ⟨t, ht⟩ : ∃ t, sn2 ⟨y0, y1, y2, y3, y4, y5⟩ = t := ⟨_, rfl⟩
      rw [ht] at hlk
      have HSN := Lib.hid hsnoc
      have HT := Lib.hid ht
      clear hsnoc ht hf2
      obtain ⟨bYc0, bYc1, bYc2, bYc3, bYc4, bYc5⟩ := bY.c6
      have bYz := bY.lt
      have bSc0 : A.cell? ⟨Sn + 1, 0, none⟩ = some (.map (some Sn)) := bS.cell 0
      have bSz := bS.lt
      cases t with
      | true =>
        gi_wp2
        refine ⟨⟨Nat.le_refl _, fun _ _ _ ho _ => ho⟩, KeepsC.refl _ _ _, ?_⟩
        dsimp only
        rw [HSN.out, addN_t HT.out]
        exact hJA
      | false =>
        obtain ⟨A1, w1, st, A0, n0, c0, w2, A5, n5, c5, w3, hr1, hr2, hr3, hr4, hbox, hJ3, hkf, hkc⟩ := hJA.push 43 hIN hN (by omega) hyw hlen
        have bY1 := hbox _ _ bY
        have bX1 := hbox _ _ bX
        have bF1 := hbox _ _ bF
        gi_upto_region 15 with fail
        clear hr1 hlk bYc0 bYc1 bYc2 bYc3 bYc4 bYc5 bYz bSc0 bSz bY bX bF bS
        obtain ⟨bY1c0, bY1c1, bY1c2, bY1c3, bY1c4, bY1c5⟩ := bY1.c6
        obtain ⟨bX1c0, bX1c1, bX1c2, bX1c3, bX1c4, bX1c5⟩ := bX1.c6
        have bF1c0 : A1.cell? ⟨b + 1 + 1, 0, none⟩ = some (.map (some b)) := bF1.cell 0
        have z1 := bY1.lt
        have z2 := bX1.lt
        have z3 := bF1.lt
        gi_wp2
        refine ⟨⟨hkf.size, hkf.same⟩, hkc.wider (fun k hk => not_or.1 hk), ?_⟩
        dsimp only
        rw [HSN.out, addN_f HT.out]
        exact hJ3
    case done2 =>
      rintro xs A hxs2 hJA
      have hLA := hLW.did hN hJA.did
      have hq1 : (p.safeT ⟨x0, x1, x2, x3, x4, x5⟩).1 = q := by rw [hs.out]
      have hfin : IvD (v.heap.size + 3) b (sweepI p c (pre ++ [⟨x0, x1, x2, x3, x4, x5⟩])) A4 n4 c4 A := by
        rw [sweep_snoc, stepI, hq1, hlo, hoq]
        refine ⟨hJA.q, hJA.op, ?_, hJA.lost⟩
        have := hJA.rows
        rw [hxs2] at this
        exact this.no (fun g hg => .inl (.inl hg))
      have hkf : KeepsFrom v.heap.size W A := hJA.did.kf (fun k hk => by unfold xI at hk; omega)
      have hkc : KeepsC 0 (fun k => ¬ (k = Bm ∨ k = v.heap.size + 2)) W A := hJA.did.kc (Nat.zero_le _) (Nat.zero_le _) (fun _ _ => Nat.zero_le _) (fun k hk => by
        have hk' : k = Bm ∨ k = v.heap.size + 2 := Classical.not_not.1 hk
        unfold xI
        omega)
      have hsz9 : v.heap.size + 2 ≤ A.heap.size := by
        have := hJA.did.size
        omega
      gi_wp2
      exact ⟨⟨hkf.size, hkf.same⟩, hkc, hsz9, hLA, A4, n4, c4, hfin⟩
  case done =>
    rintro E xs W hE hxs ⟨hsz, hLW, A3, n3, k3, hDa⟩ hK
    subst hxs
    clear hM X10 M1 M2 hL
    have hEz := (Array.getElem?_eq_some_iff.1 hK).1
    go_wp2_with fail
    obtain ⟨fr, hfr⟩ : ∃ fr, (sweepI p c p.states).fr = fr := ⟨_, rfl⟩
    have hfm : Hid (∀ y, ∀ s ∈ fr y, s ∈ p.states) := Lib.hid (by rw [← hfr]; exact sweep_mem p c p.states)
    have hfl : Hid (∀ y, (fr y).length ≤ 1048576) := Lib.hid (fun y => by
      have h1 := sweep_len p c p.states y
      rw [states_len, hfr] at h1
      exact Nat.le_trans h1 (Nat.le_trans hcn.out (by omega)))
    obtain ⟨fin, hfin⟩ : ∃ fin, lostI p c = fin := ⟨_, rfl⟩
    have h0 : Hid (bfsI fr (p.count + p.count) (sweepI p c p.states).lost (sweepI p c p.states).op = fin) := Lib.hid (by rw [← hfin, ← hfr]; rfl)
    have h0m : Hid ((sweepI p c p.states).op.length + leftI p.states (sweepI p c p.states).lost ≤ p.count + p.count) := Lib.hid (by
      have h1 := sweep_op p c p.states ivZero
      have h2 : leftI p.states (sweepI p c p.states).lost ≤ p.states.length := List.countP_le_length
      rw [states_len] at h1 h2
      refine Nat.add_le_add ?_ h2
      have : (ivZero.op).length = 0 := rfl
      rw [this, Nat.zero_add] at h1
      exact h1)
    have h0s : Hid (∀ s ∈ (sweepI p c p.states).op, s ∈ p.states) := Lib.hid (step_opmem p.states ivZero (fun x hx => by cases hx) (fun _ h => h))
    have hDa : IvD (v.heap.size + 3) b ⟨fr, (sweepI p c p.states).lost, (sweepI p c p.states).op⟩ A3 n3 k3 W := by rw [← hfr]; exact hDa
    go_loopg [] (p.count + p.count) (fun k wr => ∃ lost op A n c, Did (xI b) (v.heap.size + 3) W wr ∧ IvD (v.heap.size + 3) b ⟨fr, lost, op⟩ A n c wr ∧ Hid (bfsI fr k lost op = fin) ∧ Hid (op.length + leftI p.states lost ≤ k) ∧ Hid (∀ s ∈ op, s ∈ p.states) ∧ Hid (k ≤ p.count + p.count))
    case atStart => exact ⟨_, _, A3, n3, k3, Did.refl _ _ _, hDa, h0, h0m, h0s, Lib.hid (Nat.le_refl _)⟩
    case round =>
      clear hDa h0 h0m h0s
      obtain ⟨lost, op, A4, n4, c4, hDid, hDb, hbf, hms, hos, hgk⟩ := hrel
      obtain ⟨wo, rfl⟩ : ∃ wo : World, wo = wr := ⟨_, rfl⟩
      have hn4 : n4 = op.length := by
        obtain ⟨A', c', he⟩ := hDb.op.form
        injection he
      have Z10 := hDb.box
      rcases op with _ | ⟨y, r⟩
      · have hn5 : n4 = 0 := hn4
        have e0 : ¬ (0 : Int) < (n4 : Int) := by omega
        have HN4 := Lib.hid hn4
        clear hn4 hn5
        have Zc0 : wo.cell? ⟨b + 1 + 1 + 1 + 1, 0, none⟩ = some (.slice A4 n4 c4) := Z10.cell 0
        have Zz := Z10.lt
        go_upto_region 25 with fail
        clear Zc0 Zz e0
        have hlf : lost = fin := by
          have := hbf.out
          rw [bfs_nil] at this
          exact this
        subst hlf
        have HFIN := Lib.hid hfin
        have HFR := Lib.hid hfr
        clear hfin hfr hbf hms hos hfm hfl
        have hL9 := hLW.did hN hDid
        have hKE : Hid (wo.heap[E]? = some (.deferred (some []))) := Lib.hid (hDid.high E _ (by unfold xI; omega) hK rfl)
        have hEw : E < wo.heap.size := (Array.getElem?_eq_some_iff.1 hKE.out).1
        have M9 : LostM wo (b + 1) lost := hDb.lost
        have X7 := hL9.game
        have hz10 := hDb.box.lt
        clear hDb hDid hLW hK Z10
        have X7c0 : wo.cell? ⟨G, 0, none⟩ = some (.int .i64 p.top) := X7.cell 0
        have X7c1 : wo.cell? ⟨G, 1, none⟩ = some (.int .i64 p.bank) := X7.cell 1
        have X7c2 : wo.cell? ⟨G, 2, none⟩ = some (.int .i64 p.siphon) := X7.cell 2
        have X7c3 : wo.cell? ⟨G, 3, none⟩ = some (.int .i64 p.start) := X7.cell 3
        have X7c4 : wo.cell? ⟨G, 4, none⟩ = some (.int .i64 p.positions) := X7.cell 4
        have X7c5 : wo.cell? ⟨G, 5, none⟩ = some (.int .i64 p.rate) := X7.cell 5
        have X7c6 : wo.cell? ⟨G, 6, none⟩ = some (.int .i64 p.step) := X7.cell 6
        have X7c7 : wo.cell? ⟨G, 7, none⟩ = some (.int .i64 p.pass) := X7.cell 7
        have X7c8 : wo.cell? ⟨G, 8, none⟩ = some (.int .i64 p.feed) := X7.cell 8
        have X7c9 : wo.cell? ⟨G, 9, none⟩ = some (.int .i64 p.pipe) := X7.cell 9
        have X7c10 : wo.cell? ⟨G, 10, none⟩ = some (.int .i64 p.orders) := X7.cell 10
        have X7c11 : wo.cell? ⟨G, 11, none⟩ = some (.int .i64 p.age) := X7.cell 11
        have X7c12 : wo.cell? ⟨G, 12, none⟩ = some (.slice A2 m2 k2) := X7.cell 12
        have X7z := X7.lt
        go_wp2_with fail
        refine (bStates_any p _ _ hv.out.pipe).mono ?_
        rintro e v2 ⟨rfl, hM2, hb9⟩
        clear X7c0 X7c1 X7c2 X7c3 X7c4 X7c5 X7c6 X7c7 X7c8 X7c9 X7c10 X7c11 X7c12 X7 X7z
        have hL9 := hL9.later hb9
        have M9 := M9.later hb9
        have hKE : Hid (v2.heap[E]? = some (.deferred (some []))) := Lib.hid ((hb9.block E hEw).trans hKE.out)
        have hBm4 : wo.heap.size + 1 < v2.heap.size := hM2.lt
        have hE2 : E < wo.heap.size + 1 := Nat.lt_succ_of_lt hEw
        have hz11 : b + 1 + 1 + 1 + 1 < wo.heap.size + 1 := Nat.lt_succ_of_lt hz10
        clear hb9 hEw hz10
        generalize wo.heap.size + 1 = Bn at hM2 hBm4 hE2 hz11 ⊢
        go_wp2_with fail
        refine wpIn_wide.1 (wpIn_rangeO_out (n := 6) rfl (by omega) (gf := 66) (lb := #[.pointer (some ⟨Bn, 0, none⟩)]) rfl trivial (enters_of Try.func66 (by kernel_rfl) rfl)
          (Kp := KeepsC 0 (fun k => ¬ (k = Bn ∨ k = v2.heap.size + 2))) rfl (fun k hk => by cases hk; exact Nat.le_refl _) (fun A B C h1 h2 => h1.trans h2) (fun W l o o' hl ho hc => KeepsC.put ho hc (Nat.zero_le _) o')
          (states_seqO 5 p hv Bn v2 0 (fun s k => ¬ (k = Bn ∨ k = s)) hM2 (fun s h => h (.inl rfl)) (fun s h => h (.inr rfl))) (Below.refl _ _) (fun _ => rfl)
          (fun pre A => v2.heap.size + 2 ≤ A.heap.size ∧ ∃ Al nl cl, OutI w b (v2.heap.size + 3) E p lost (pre.filter (fun s => !lost s)) Al nl cl A)
          (fun _ _ _ => False)
          ?hO (fun _ _ _ _ _ _ _ _ h => h) ?hO2 (fun _ _ _ _ h _ => h) ?hO0
          (fun pre x a' A => ∃ (B18 : Nat) (z66 z67 : Value), v2.heap.size + 2 ≤ B18 ∧ v2.heap.size + 3 ≤ A.heap.size ∧ Box A B18 [.int .i64 x.level, .int .i64 x.position, .int .i64 x.p0, .int .i64 x.p1, .int .i64 x.order, .int .i64 x.age] ∧ (∃ Al nl cl, OutI w b (v2.heap.size + 3) E p lost (pre.filter (fun s => !lost s)) Al nl cl A ∧ ∀ g, (Value.slice Al nl cl).ownBlock = some g → g < B18) ∧ Hid (pre ++ [x] <+: p.states) ∧ a' = { tmps := #[p.v, .agg #[.slice A2 m2 k2], .pointer (some ⟨w.heap.size, 0, none⟩), .pointer (some ⟨w.heap.size + 1, 0, none⟩), .pointer (some ⟨w.heap.size + 1 + 1, 0, none⟩), .bool false, .int .i64 0, .pointer (some ⟨G, 0, none⟩), .pointer (some ⟨b + 1 + 1, 0, none⟩), .pointer (some ⟨b + 1 + 1 + 1, 0, none⟩), .pointer (some ⟨b + 1 + 1 + 1 + 1, 0, none⟩), undef, undef, undef, undef, u15, undef, u17, .pointer (some ⟨B18, 0, none⟩), undef, undef, .tuple #[gmV p (.slice A2 m2 k2), .int .i64 0], .agg #[.int .i64 p.top, .int .i64 p.bank, .int .i64 p.siphon, .int .i64 p.start, .int .i64 p.positions, .int .i64 p.rate, .int .i64 p.step, .int .i64 p.pass, .int .i64 p.feed, .int .i64 p.pipe, .int .i64 p.orders, .int .i64 p.age], .agg #[.slice A2 m2 k2], .tuple #[gmV p (.slice A2 m2 k2), .int .i64 0], gmV p (.slice A2 m2 k2), .int .i64 0, .int .i64 0, .bool false, undef, .map (some b), .map (some (b + 1)), gmV p (.slice A2 m2 k2), .func (.func 66) #[] #[.pointer (some ⟨Bm, 0, none⟩)], undef, undef, undef, undef, undef, undef, undef, undef, undef, undef, undef, undef, undef, undef, undef, undef, undef, undef, undef, undef, undef, undef, undef, undef, undef, undef, undef, undef, undef, undef, undef, .slice A4 n4 c4, z66, z67, u68, u69, u70, u71, u72, u73, u74, u75, u76, u77, u78, u79, u80, u81, u82, u83, u84, u85, u86, u87, u88, u89, u90, u91, gmV p (.slice A2 m2 k2), .func (.func 66) #[] #[.pointer (some ⟨Bn, 0, none⟩)], .agg #[.int .i64 x.level, .int .i64 x.position, .int .i64 x.p0, .int .i64 x.p1, .int .i64 x.order, .int .i64 x.age], undef, undef, undef, undef, undef, undef, undef, undef, undef, undef, undef, undef, undef, undef, undef, undef, undef, undef], defers := [] })
          ?hAxO ?assignO ?bodyO ?doneO (fun _ _ _ _ _ _ h => h.elim))
        case hO =>
          rintro pre A l o r hl hr ⟨h1, Al, nl, cl, h2⟩
          exact ⟨by simpa using h1, Al, nl, cl, h2.grown (grown_put (o' := o) hr) (fun k hk => by cases hk; exact ⟨by omega, by omega, by omega, .inr ⟨_, hr, rfl⟩⟩)⟩
        case hO2 =>
          rintro pre A B ⟨h1, Al, nl, cl, h2⟩ hg
          exact ⟨Nat.le_trans h1 hg.size, Al, nl, cl, h2.grown hg (fun k hk => by cases hk; exact ⟨by omega, by omega, by omega, .inl (Nat.lt_succ_self _)⟩)⟩
        case hO0 =>
          intro A hb hz
          have h9 : OutI w b (v2.heap.size + 3) E p lost [] none 0 0 v2 := ⟨hL9.low, hL9.pl, hL9.res, ownE_nil _ _ _ _ _, hL9.lost, M9, hKE.out⟩
          exact ⟨Nat.le_of_eq hz.symm, none, 0, 0, h9.later hb⟩
        case hAxO =>
          rintro pre x a' A l o o' hl ho hc ⟨B18, z66, z67, h1, h1', h2, ⟨Al, nl, cl, h3, h4⟩, h5, rfl⟩
          exact ⟨B18, z66, z67, h1, by simpa using h1', h2.record ho hc _, ⟨Al, nl, cl, h3.grown (grown_put (o' := o') ho) (fun k hk => by cases hk; exact ⟨by omega, by omega, by omega, .inr ⟨_, ho, hc⟩⟩), h4⟩, h5, rfl⟩
        case assignO =>
          rintro l pre x A K ⟨h1, Al, nl, cl, h2⟩ hT hK
          obtain ⟨x0, x1, x2, x3, x4, x5⟩ := x
          gi_wp2
          have hb := (Below.refl A.heap.size A).alloc (Nat.le_refl _) (.cells #[.int .i64 x0, .int .i64 x1, .int .i64 x2, .int .i64 x3, .int .i64 x4, .int .i64 x5] 30)
          exact hK _ _ (kfOf hb) (KeepsC.of hb (Nat.zero_le _)) ⟨A.heap.size, _, _, h1, by simp; omega, Box.new A [.int .i64 x0, .int .i64 x1, .int .i64 x2, .int .i64 x3, .int .i64 x4, .int .i64 x5] 30, ⟨Al, nl, cl, h2.later hb, fun g hg => (h2.row.lt hg).2⟩, Lib.hid hT, rfl⟩
        case bodyO =>
          rintro l pre x a' A hl ⟨r0, hr0⟩ ⟨B18, z66, z67, hB18, hDA, bX, ⟨Al, nl, cl, hO, hob⟩, hT1, rfl⟩
          have hxs := Lib.hid (pre_mem hT1.out)
          have hxw := states_wide hv.out hxs.out
          have hfl : (pre.filter (fun s => !lost s)).length ≤ 1048576 := by
            have h1 := pre_len hT1.out
            have h2 := hcn.out
            have h3 : (pre.filter (fun s => !lost s)).length ≤ pre.length := List.length_filter_le _ _
            rw [states_len] at h1
            omega
          obtain ⟨x0, x1, x2, x3, x4, x5⟩ := x
          have hlk := lost_look hO.lost hxw
          obtain ⟨t, ht⟩ : ∃ t, lost ⟨x0, x1, x2, x3, x4, x5⟩ = t := ⟨_, rfl⟩
          rw [ht] at hlk
          have hfil : Hid ((pre ++ [(⟨x0, x1, x2, x3, x4, x5⟩ : St)]).filter (fun s => !lost s) = pre.filter (fun s => !lost s) ++ (if t = true then [] else [(⟨x0, x1, x2, x3, x4, x5⟩ : St)])) := by
            rw [Hid, List.filter_append, List.filter_cons, ht, List.filter_nil]
            cases t <;> rfl
          clear ht
          have X9 := hO.lostP
          have X9c0 : A.cell? ⟨b + 1 + 1 + 1, 0, none⟩ = some (.map (some (b + 1))) := X9.cell 0
          have X9z := X9.lt
          obtain ⟨bXc0, bXc1, bXc2, bXc3, bXc4, bXc5⟩ := bX.c6
          have bXz := bX.lt
          cases t with
          | true =>
            gi_wp2
            refine ⟨⟨Nat.le_refl _, fun _ _ _ ho _ => ho⟩, KeepsC.refl _ _ _, by omega, Al, nl, cl, ?_⟩
            rw [hfil.out]
            simpa using hO
          | false =>
            gi_upto_region 28 with fail
            clear hlk X9c0 X9z X9
            have hb := (Below.refl A.heap.size A).alloc (Nat.le_refl _) (.cells #[.int .i64 x0, .int .i64 x1, .int .i64 x2, .int .i64 x3, .int .i64 x4, .int .i64 x5] 30)
            have XL := Box.new A [.int .i64 x0, .int .i64 x1, .int .i64 x2, .int .i64 x3, .int .i64 x4, .int .i64 x5] 30
            obtain ⟨g', c', Ac, hr, hres2, hOn, hDn⟩ := (hO.later hb).push 43 (s := ⟨x0, x1, x2, x3, x4, x5⟩) XL (by simp; omega) hfl (by omega) (by omega) (by omega) (by omega)
            have hdd := hDn A ((Did.refl _ _ A).below hb)
            have X4 := hO.res
            have X4c0 : A.cell? ⟨w.heap.size + 1 + 1, 0, none⟩ = some (.slice Al nl cl) := X4.cell 0
            have X4z := X4.lt
            have R2c0 : Ac.cell? ⟨w.heap.size + 1 + 1, 0, none⟩ = some (.slice Al nl cl) := hres2.cell 0
            have R2f0 : Ac.frozen? ⟨w.heap.size + 1 + 1, 0, none⟩ = false := hres2.free 0
            have R2z := hres2.lt
            clear hDn
            gi_wp2
            clear X4c0 X4z R2c0 R2f0 R2z hr bXc0 bXc1 bXc2 bXc3 bXc4 bXc5 bXz
            generalize Ac.setCell ⟨w.heap.size + 1 + 1, 0, none⟩ (.slice (some ⟨g', 0, none⟩) ((pre.filter (fun s => !lost s)).length + 1) c') = Ad at hOn hdd ⊢
            have hkf : KeepsFrom v2.heap.size A Ad := hdd.kf (fun k hk => by omega)
            have hkc : KeepsC 0 (fun k => ¬ (k = Bn ∨ k = v2.heap.size + 2)) A Ad := hdd.kc (Nat.zero_le _) (Nat.zero_le _) (fun _ _ => Nat.zero_le _) (fun k hk => by
              have hk' : k = Bn ∨ k = v2.heap.size + 2 := Classical.not_not.1 hk
              omega)
            have hsz9 := hdd.size
            refine ⟨⟨hkf.size, hkf.same⟩, hkc.wider (fun k hk => not_or.1 hk), by omega, some ⟨g', 0, none⟩, (pre.filter (fun s => !lost s)).length + 1, c', ?_⟩
            rw [hfil.out]
            simpa using hOn
        case doneO =>
          rintro E2 xs A hE2a hxs2 ⟨hsz2, Al, nl, cl, hO⟩ hK2
          subst hxs2
          have X2 := hO.pl
          obtain ⟨X2c0, X2c1, X2c2, X2c3, X2c4, X2c5, X2c6, X2c7, X2c8, X2c9, X2c10, X2c11⟩ := X2.c12
          have X2z := X2.lt
          obtain ⟨be, hbe⟩ : ∃ be, p.beginT = be := ⟨_, rfl⟩
          obtain ⟨⟨e0, e1, e2, e3, e4, e5⟩, ee⟩ := be
          have HBE := Lib.hid hbe
          clear hbe
          go_wp2_with fail
          refine (begin_is HBE).mono ?_
          rintro e A1 ⟨rfl, hb⟩
          clear X2c0 X2c1 X2c2 X2c3 X2c4 X2c5 X2c6 X2c7 X2c8 X2c9 X2c10 X2c11 X2z X2
          go_upto_region 30 with fail
          have hbw : (⟨e0, e1, e2, e3, e4, e5⟩ : St).Wide := by
            have h1 := (begin_nums (ask_zero h.out).1).out
            rw [HBE.out] at h1
            exact nums_wide h1
          have hO1 := hO.later hb
          have hK3 := (hb.block _ (Array.getElem?_eq_some_iff.1 hK2).1).trans hK2
          have hb2 := (Below.refl A1.heap.size A1).alloc (Nat.le_refl _) (.cells #[.int .i64 e0, .int .i64 e1, .int .i64 e2, .int .i64 e3, .int .i64 e4, .int .i64 e5] 30)
          have X19 := Box.new A1 [.int .i64 e0, .int .i64 e1, .int .i64 e2, .int .i64 e3, .int .i64 e4, .int .i64 e5] 30
          have hO2 := hO1.later hb2
          have hK4 := (hb2.block _ (Array.getElem?_eq_some_iff.1 hK3).1).trans hK3
          have hA1 : w.heap.size + 1 + 1 < A1.heap.size := hO1.res.lt
          clear hO hO1 hb hb2 hK2 hK3
          generalize A1.alloc (.cells #[.int .i64 e0, .int .i64 e1, .int .i64 e2, .int .i64 e3, .int .i64 e4, .int .i64 e5] 30) = A5 at X19 hO2 hK4 ⊢
          generalize A1.heap.size = B19 at X19 hA1 ⊢
          have hlk := lost_look (w := A5.drew) hO2.lost hbw
          obtain ⟨t, ht⟩ : ∃ t, lost ⟨e0, e1, e2, e3, e4, e5⟩ = t := ⟨_, rfl⟩
          rw [ht] at hlk
          have hlk2 := lost_look (w := (A5.setCell ⟨w.heap.size + 1 + 1, 0, none⟩ (.slice Al nl cl)).drew) (hO2.lost.set (a := ⟨w.heap.size + 1 + 1, 0, none⟩) (fun e => hO2.lost.notBox hO2.res e) _) hbw
          rw [ht] at hlk2
          have X4 := hO2.res
          have X9 := hO2.lostP
          have X9c0 : A5.cell? ⟨b + 1 + 1 + 1, 0, none⟩ = some (.map (some (b + 1))) := X9.cell 0
          have X9z := X9.lt
          have X4c0 : A5.cell? ⟨w.heap.size + 1 + 1, 0, none⟩ = some (.slice Al nl cl) := X4.cell 0
          have X4f0 : A5.frozen? ⟨w.heap.size + 1 + 1, 0, none⟩ = false := X4.free 0
          have X4z : w.heap.size + 1 + 1 < A5.heap.size := X4.lt
          obtain ⟨X19c0, X19c1, X19c2, X19c3, X19c4, X19c5⟩ := X19.c6
          have X19z := X19.lt
          have HT := Lib.hid ht
          clear ht
          go_region
          have hne2 : E2 ≠ w.heap.size + 1 + 1 := by omega
          have hneE : E ≠ w.heap.size + 1 + 1 := by omega
          have hneEE : E ≠ E2 := by omega
          have hK5 : (A5.setCell ⟨w.heap.size + 1 + 1, 0, none⟩ (.slice Al nl cl)).drew.heap[E2]? = some (.deferred (some [])) := (Below.heap_setCell A5 ⟨w.heap.size + 1 + 1, 0, none⟩ (.slice Al nl cl) E2 hne2).trans hK4
          have hK6 : (A5.setCell ⟨w.heap.size + 1 + 1, 0, none⟩ (.slice Al nl cl)).drew.heap[E]? = some (.deferred (some [])) := (Below.heap_setCell A5 ⟨w.heap.size + 1 + 1, 0, none⟩ (.slice Al nl cl) E hneE).trans hO2.mark
          have hR6 : Row (A5.setCell ⟨w.heap.size + 1 + 1, 0, none⟩ (.slice Al nl cl)).drew (v2.heap.size + 3) (.slice Al nl cl) (p.states.filter (fun s => !lost s)) := (hO2.row.set (a := ⟨w.heap.size + 1 + 1, 0, none⟩) (by dsimp only; omega) (.slice Al nl cl)).drew
          have hX6 : Box (A5.setCell ⟨w.heap.size + 1 + 1, 0, none⟩ (.slice Al nl cl)).drew (w.heap.size + 1 + 1) [.slice Al nl cl] := (hO2.res.set 0 (.slice Al nl cl)).drew
          have hB6 : Below w.heap.size w (A5.setCell ⟨w.heap.size + 1 + 1, 0, none⟩ (.slice Al nl cl)).drew := (hO2.low.setCell (p := ⟨w.heap.size + 1 + 1, 0, none⟩) (by simp <;> omega) (.slice Al nl cl)).drew
          clear hlk hlk2 X9c0 X9z X9 X4c0 X4f0 X4z X4 X19c0 X19c1 X19c2 X19c3 X19c4 X19c5 X19z X19 hO2 hK4
          generalize (A5.setCell ⟨w.heap.size + 1 + 1, 0, none⟩ (.slice Al nl cl)).drew = A6 at hK5 hK6 hR6 hX6 hB6 ⊢
          dsimp only [Exit.then]
          go_wp2
          refine ⟨by simp, .inl ⟨_, _, rfl, run_takeDeferred hK5, ?_⟩⟩
          have hK7 : (A6.putObj E2 (.deferred none)).heap[E]? = some (.deferred (some [])) := (World.putObj_heap_other hneEE).trans hK6
          refine ⟨by simp, .inl ⟨_, _, rfl, run_takeDeferred hK7, ?_⟩⟩
          have hR7 := (hR6.kept (grown_put (o' := .deferred none) hK5) (fun k hk e => by cases e; exact hR6.cellsOnly hk hK5 rfl))
          have hR8 := (hR7.kept (grown_put (o' := .deferred none) hK7) (fun k hk e => by cases e; exact hR7.cellsOnly hk hK7 rfl))
          have hX8 := (hX6.record hK5 rfl (.deferred none)).record hK7 rfl (.deferred none)
          have hB8 := (hB6.trans (below_put3 (n := w.heap.size) (l := E2) (by omega) (.deferred none))).trans (below_put3 (n := w.heap.size) (l := E) (by omega) (.deferred none))
          generalize (A6.putObj E2 (.deferred none)).putObj E (.deferred none) = A8 at hR8 hX8 hB8 ⊢
          have hX8c0 : A8.cell? ⟨w.heap.size + 1 + 1, 0, none⟩ = some (.slice Al nl cl) := hX8.cell 0
          refine ⟨_, (by simp [results, Try.results16, go_sem, hX8c0] : _ = Result.ok (Value.tuple #[.slice Al nl cl, .bool (!t), .int .i64 0]) _), ?_⟩
          rw [HFIN.out, HBE.out]
          dsimp only
          rw [HT.out]
          exact ⟨Al, nl, cl, rfl, hR8.low (by omega), hB8⟩
      obtain ⟨bq, off, cap, hV, hDq, hltq, hcells, hrest⟩ := hDb.op.head
      clear hn4
      cases hV
      have e0 : (0 : Int) < ((r.length + 1 : Nat) : Int) := by omega
      have Zc0 : wo.cell? ⟨b + 1 + 1 + 1 + 1, 0, none⟩ = some (.slice (some ⟨bq, off, none⟩) (r.length + 1) (cap + 1)) := Z10.cell 0
      have Zz := Z10.lt
      have hys := hos.out y (List.mem_cons_self ..)
      have hyw := states_wide hv.out hys
      obtain ⟨y0, y1, y2, y3, y4, y5⟩ := y
      have q0 := hcells 0 (by omega)
      have q1 := hcells 1 (by omega)
      have q2 := hcells 2 (by omega)
      have q3 := hcells 3 (by omega)
      have q4 := hcells 4 (by omega)
      have q5 := hcells 5 (by omega)
      simp only [St.cells, Nat.add_zero, List.getElem?_cons_zero, List.getElem?_cons_succ] at q0 q1 q2 q3 q4 q5
      go_upto_region 18 with fail
      clear q0 q1 q2 q3 q4 q5 e0 Zc0
      have hb := (Below.refl wo.heap.size wo).alloc (Nat.le_refl _) (.cells #[.int .i64 y0, .int .i64 y1, .int .i64 y2, .int .i64 y3, .int .i64 y4, .int .i64 y5] 30)
      have B15 := Box.new wo [.int .i64 y0, .int .i64 y1, .int .i64 y2, .int .i64 y3, .int .i64 y4, .int .i64 y5] 30
      have Z10o := Z10
      have Z10 := Z10.later hb
      have hDid1 := hDid.below hb
      have hDb1 := hDb.later hb
      have hDz := hDid.size
      have hDW0 : b + 1 + 1 + 1 + 1 < wo.heap.size := Z10o.lt
      generalize wo.alloc (.cells #[.int .i64 y0, .int .i64 y1, .int .i64 y2, .int .i64 y3, .int .i64 y4, .int .i64 y5] 30) = wp at B15 Z10 hDid1 hDb1 hb ⊢
      have Zc0 : wp.cell? ⟨b + 1 + 1 + 1 + 1, 0, none⟩ = some (.slice (some ⟨bq, off, none⟩) (r.length + 1) (cap + 1)) := Z10.cell 0
      have Zf0 : wp.frozen? ⟨b + 1 + 1 + 1 + 1, 0, none⟩ = false := Z10.free 0
      have Zz := Z10.lt
      obtain ⟨Ar, hAr⟩ : ∃ Ar, (if cap = 0 then some (⟨bq, off, none⟩ : Addr) else some ⟨bq, off + 6, none⟩) = Ar := ⟨_, rfl⟩
      obtain ⟨hqr, hqb⟩ := hrest Ar hAr.symm
      have HAR := Lib.hid hAr
      clear hrest hAr
      go_upto_region 19 with fail
      rw [HAR.out]
      clear Zc0 Zf0 Zz HAR
      have hDb2 := hDb1.pop (A' := Ar) (n' := r.length) (c' := cap) hN.hd (hqr.later hb) (fun k hk => by
        rcases hqb with h9 | h9
        · rw [h9] at hk
          cases hk
        · rw [h9] at hk
          exact hk)
      have hDid2 := hDid1.grown (row := some (b + 1 + 1 + 1 + 1)) (grown_cell (i := 0) (grown_refl wp _) (.slice Ar r.length cap)) (fun k hk => by cases hk; exact .inl (.inr (.inr rfl)))
      have B15 := B15.other (a := ⟨b + 1 + 1 + 1 + 1, 0, none⟩) (by have := hDW0; dsimp only; omega) (.slice Ar r.length cap)
      generalize wp.setCell ⟨b + 1 + 1 + 1 + 1, 0, none⟩ (.slice Ar r.length cap) = wq at hDb2 hDid2 B15 ⊢
      clear hDb1 hDid1 hb hqr hqb Z10
      obtain ⟨vr, hlk, hrow, hoff⟩ := hDb2.fr.look hyw (zero_states _)
      obtain ⟨Av, cv, hvr⟩ := hrow.form
      subst hvr
      have hLq := hLW.did hN hDid2
      have X8 := hLq.fm
      have X8c0 : wq.cell? ⟨b + 1 + 1, 0, none⟩ = some (.map (some b)) := X8.cell 0
      have X8z := X8.lt
      obtain ⟨B15c0, B15c1, B15c2, B15c3, B15c4, B15c5⟩ := B15.c6
      have B15z := B15.lt
      obtain ⟨L, hL⟩ : ∃ L, fr ⟨y0, y1, y2, y3, y4, y5⟩ = L := ⟨_, rfl⟩
      have hLm : Hid (∀ s ∈ L, s ∈ p.states) := by rw [← hL]; exact hfm.out _
      have hLl : Hid (L.length ≤ 1048576) := by rw [← hL]; exact hfl.out _
      have hbf1 : Hid (bfsI fr gk lost (⟨y0, y1, y2, y3, y4, y5⟩ :: r) = fin) := hbf
      dsimp only at hrow hlk hoff
      rw [hL] at hrow hlk hoff
      obtain ⟨m, hm⟩ : ∃ m, L.length = m := ⟨_, rfl⟩
      rw [hm] at hrow hlk hoff
      have HM := Lib.hid hm
      clear hm
      go_upto_region 20 with fail
      clear hlk X8c0 X8z X8 B15c0 B15c1 B15c2 B15c3 B15c4 B15c5 B15z B15
      have hml : m ≤ 1048576 := by rw [← HM.out]; exact hLl.out
      obtain ⟨mk, hmk⟩ : ∃ mk : Nat → (St → Bool) × List St, ∀ j, mk j = (L.take j).foldl markI (lost, r) := ⟨_, fun _ => rfl⟩
      have hmk0 : mk 0 = (lost, r) := hmk 0
      have HMK := Lib.hid hmk
      clear hmk
      go_loopw [77] (fun i wr => ∃ (j : Nat) (A : Option Addr) (n k : Nat), j ≤ m ∧ i = .int .i64 j ∧ Did (xI b) (v.heap.size + 3) W wr ∧ IvD (v.heap.size + 3) b ⟨fr, (mk j).1, (mk j).2⟩ A n k wr ∧ Hid (Row wr (v.heap.size + 3) (.slice Av m cv) L) ∧ Hid (∀ g, (Value.slice Av m cv).ownBlock = some g → quB (.slice A n k) ≠ some g)) (fun i _ => m - (intOf i).toNat)
      case atStart =>
        refine ⟨0, Ar, r.length, cap, Nat.zero_le _, rfl, hDid2, ?_, Lib.hid hrow, Lib.hid hoff⟩
        rw [hmk0]
        exact hDb2
      case round =>
        clear hDid2 hDb2 hrow hoff hmk0 hLq
        obtain ⟨j, A6, n6, c6, hj, rfl, hDid2, hDb2, hrow, hoff⟩ := hrel
        obtain ⟨wi, rfl⟩ : ∃ wi : World, wi = wr := ⟨_, rfl⟩
        rcases Nat.lt_or_ge j m with hlt | hge
        rotate_left
        · obtain rfl : m = j := by omega
          have hlm : ¬ ((m : Int) < (m : Int)) := by omega
          have HL := Lib.hid hL
          have hmm : (mk m) = (fr ⟨y0, y1, y2, y3, y4, y5⟩).foldl markI (lost, r) := by rw [HMK.out, ← HM.out, List.take_length, hL]
          have HMM := Lib.hid hmm
          clear hmm hL
          go_wp2
          clear hlm hge
          have hms1 := hms.out
          rw [List.length_cons] at hms1
          go_roundg (gk - 1)
          case measure => omega
          case rel =>
            refine ⟨(mk m).1, (mk m).2, A6, n6, c6, hDid2, hDb2, Lib.hid ?_, Lib.hid ?_, Lib.hid ?_, Lib.hid (by have := hgk.out; omega)⟩
            · have h1 := hbf1.out
              obtain ⟨g1, hg1⟩ : ∃ g1, gk = g1 + 1 := ⟨gk - 1, by omega⟩
              rw [hg1] at h1
              rw [HMM.out, hg1, Nat.add_sub_cancel]
              exact h1
            · have h1 := marks_left (l := p.states) (fr ⟨y0, y1, y2, y3, y4, y5⟩) (lost, r) (fun s hs => hfm.out _ s hs)
              rw [HMM.out]
              dsimp only at h1
              omega
            · rw [HMM.out]
              exact marks_mem _ _ (fun s hs => hos.out s (List.mem_cons_of_mem _ hs)) (fun s hs => hfm.out _ s hs)
        have hlm : (j : Int) < (m : Int) := by omega
        have hjL : j < L.length := by rw [HM.out]; exact hlt
        obtain ⟨A', c', hv', hc⟩ := hrow.out.sl (fun _ => rfl)
        obtain ⟨bv, hAv, hDv, hltv, hcl⟩ := hc j hjL
        injection hv' with hv1 hv2 hv3
        subst hv1
        subst hAv
        clear hv2 hv3 hc
        obtain ⟨s, hs⟩ : ∃ s, L[j] = s := ⟨_, rfl⟩
        rw [hs] at hcl
        have hsm : s ∈ p.states := hLm.out s (by rw [← hs]; exact List.getElem_mem hjL)
        have hsw := states_wide hv.out hsm
        have HMS : Hid (mk (j + 1) = markI (mk j) s) := by
          rw [Hid, HMK.out, HMK.out, List.take_succ_eq_append_getElem hjL, List.foldl_append, hs]
          rfl
        clear hs
        obtain ⟨x0, x1, x2, x3, x4, x5⟩ := s
        have q0 := hcl 0 (by omega)
        have q1 := hcl 1 (by omega)
        have q2 := hcl 2 (by omega)
        have q3 := hcl 3 (by omega)
        have q4 := hcl 4 (by omega)
        have q5 := hcl 5 (by omega)
        simp only [St.cells, Nat.add_zero, List.getElem?_cons_zero, List.getElem?_cons_succ] at q0 q1 q2 q3 q4 q5
        go_upto_region 22 with fail
        clear q0 q1 q2 q3 q4 q5 hlm hcl
        have hb := (Below.refl wi.heap.size wi).alloc (Nat.le_refl _) (.cells #[.int .i64 x0, .int .i64 x1, .int .i64 x2, .int .i64 x3, .int .i64 x4, .int .i64 x5] 30)
        have X17 := Box.new wi [.int .i64 x0, .int .i64 x1, .int .i64 x2, .int .i64 x3, .int .i64 x4, .int .i64 x5] 30
        have hDid3 := hDid2.below hb
        have hDb3 := hDb2.later hb
        have hrow3 := Lib.hid (hrow.out.later hb)
        have hq17 : quB (.slice A6 n6 c6) ≠ some wi.heap.size := fun e => by have := (hDb2.op.lt e).2; omega
        have hD17 : b + 1 + 1 + 1 + 1 < wi.heap.size := hDb2.box.lt
        have hWi := hDid2.size
        clear hb hDid2 hDb2 hrow
        generalize wi.alloc (.cells #[.int .i64 x0, .int .i64 x1, .int .i64 x2, .int .i64 x3, .int .i64 x4, .int .i64 x5] 30) = wj at X17 hDid3 hDb3 hrow3 ⊢
        generalize wi.heap.size = B17 at X17 hq17 hD17 hWi ⊢
        have hL9 := hLW.did hN hDid3
        have X9 := hL9.lost
        have hlk := lost_look hDb3.lost hsw
        obtain ⟨t, ht⟩ : ∃ t, (mk j).1 ⟨x0, x1, x2, x3, x4, x5⟩ = t := ⟨_, rfl⟩
        dsimp only at hlk
        rw [ht] at hlk
        have HT := Lib.hid ht
        clear ht
        have X9c0 : wj.cell? ⟨b + 1 + 1 + 1, 0, none⟩ = some (.map (some (b + 1))) := X9.cell 0
        have X9z := X9.lt
        obtain ⟨X17c0, X17c1, X17c2, X17c3, X17c4, X17c5⟩ := X17.c6
        have X17z := X17.lt
        cases t with
        | true =>
          go_wp2
          refine ⟨⟨j + 1, A6, n6, c6, Nat.succ_le_of_lt hlt, by go_num, hDid3, ?_, hrow3, hoff⟩, by simp [intOf]; omega⟩
          rw [HMS.out, markI_t HT.out]
          exact hDb3
        | false =>
          go_upto_region 23 with fail
          clear hlk X9c0 X9z X17c0 X17c1 X17c2 X17c3 X17c4 X17c5 X17z
          have hd := (Below.refl wj.heap.size wj).drew
          have Z9 := X9.later hd
          have Z11 := X17.later hd
          have hDc := hDb3.later hd
          have Z10 := hDc.box
          obtain ⟨HH, hHH⟩ : ∃ HH : World → Prop, ∀ w', HH w' ↔ (Box w' (b + 1 + 1 + 1) [.map (some (b + 1))] ∧ Box w' B17 [.int .i64 x0, .int .i64 x1, .int .i64 x2, .int .i64 x3, .int .i64 x4, .int .i64 x5] ∧ Box w' (b + 1 + 1 + 1 + 1) [.slice A6 n6 c6]) := ⟨_, fun _ => Iff.rfl⟩
          have hH0 : HH wj.drew := (hHH _).2 ⟨Z9, Z11, Z10⟩
          have : Nonempty (HeldW HH) := ⟨⟨_, hH0⟩⟩
          have hgh : ∀ z : HeldW HH, (Box z.w (b + 1 + 1 + 1) [.map (some (b + 1))] ∧ Box z.w B17 [.int .i64 x0, .int .i64 x1, .int .i64 x2, .int .i64 x3, .int .i64 x4, .int .i64 x5] ∧ Box z.w (b + 1 + 1 + 1 + 1) [.slice A6 n6 c6]) := fun z => (hHH _).1 z.h
          have g9 : ∀ z : HeldW HH, z.w.cell? ⟨b + 1 + 1 + 1, 0, none⟩ = some (.map (some (b + 1))) := fun z => (hgh z).1.cell 0
          have g10 : ∀ z : HeldW HH, z.w.cell? ⟨b + 1 + 1 + 1 + 1, 0, none⟩ = some (.slice A6 n6 c6) := fun z => (hgh z).2.2.cell 0
          have u0 : ∀ z : HeldW HH, z.w.cell? ⟨B17, 0, none⟩ = some (.int .i64 x0) := fun z => (hgh z).2.1.cell 0
          have u1 : ∀ z : HeldW HH, z.w.cell? ⟨B17, 1, none⟩ = some (.int .i64 x1) := fun z => (hgh z).2.1.cell 1
          have u2 : ∀ z : HeldW HH, z.w.cell? ⟨B17, 2, none⟩ = some (.int .i64 x2) := fun z => (hgh z).2.1.cell 2
          have u3 : ∀ z : HeldW HH, z.w.cell? ⟨B17, 3, none⟩ = some (.int .i64 x3) := fun z => (hgh z).2.1.cell 3
          have u4 : ∀ z : HeldW HH, z.w.cell? ⟨B17, 4, none⟩ = some (.int .i64 x4) := fun z => (hgh z).2.1.cell 4
          have u5 : ∀ z : HeldW HH, z.w.cell? ⟨B17, 5, none⟩ = some (.int .i64 x5) := fun z => (hgh z).2.1.cell 5
          clear hgh
          refine wp_region_upto (C := fun w' => ∃ x : HeldW HH, w' = x.w) 6 [0, 1, 2, 3] (by kernel_rfl) (by kernel_rfl) (HeldW.mk' hH0) (fun _ _ h => h) ?_
          simp only [headOps, List.filterMap_cons, List.filterMap_nil, List.getElem?_toArray, List.getElem?_cons_succ, List.getElem?_cons_zero]
          repeat (first | go_big_quiet_skip | (show wpQuiet _ _ _ _ (_ :: _) _; go_big_quiet_skip) | (show wpQuiet _ _ _ _ (_ :: _) _; go_big_quiet_want; go_big_quiet_op; go_big_quiet_on))
          refine wpQuiet_nil ?_
          clear g9 g10 u0 u1 u2 u3 u4 u5
          have hbA := (Below.refl wj.drew.heap.size wj.drew).alloc (Nat.le_refl _) (.cells #[.int .i64 x0, .int .i64 x1, .int .i64 x2, .int .i64 x3, .int .i64 x4, .int .i64 x5] 30)
          have XL := Box.new wj.drew [.int .i64 x0, .int .i64 x1, .int .i64 x2, .int .i64 x3, .int .i64 x4, .int .i64 x5] 30
          have hDc2 := hDc.later hbA
          have Z9 := Z9.later hbA
          have Z11 := Z11.later hbA
          have Z10 := Z10.later hbA
          have hrow4 := (hrow3.out.later hd).later hbA
          have hH1 : HH (wj.drew.alloc (.cells #[.int .i64 x0, .int .i64 x1, .int .i64 x2, .int .i64 x3, .int .i64 x4, .int .i64 x5] 30)) := (hHH _).2 ⟨Z9, Z11, Z10⟩
          have hDid0 := (hDid3.below hd).below hbA
          have hsz0 := hDid0.size
          have hoplen : (mk j).2.length ≤ 1048576 := by
            have h1 := marks_left (l := p.states) (L.take j) (lost, r) (fun s hs => hLm.out s (List.mem_of_mem_take hs))
            have h2 := hms.out
            have h3 := hgk.out
            have h4 := hcn.out
            rw [List.length_cons] at h2
            rw [HMK.out]
            dsimp only at h1
            omega
          have hsz1 := Z11.lt
          obtain ⟨A4, n4, c4, wA, wB, hr, hrB, hDn, hRn, hQn, hRw, hDidn, hBx⟩ := hDc2.grow 43 (s := ⟨x0, x1, x2, x3, x4, x5⟩) XL (by omega) hN.hd hoplen hsw
          have hq9 : quB (.slice A6 n6 c6) ≠ some (b + 1 + 1 + 1) := fun e => by have := (hDc2.op.lt e).1; omega
          have hq10 : quB (.slice A6 n6 c6) ≠ some (b + 1 + 1 + 1 + 1) := fun e => by have := (hDc2.op.lt e).1; omega
          have hH2 : HH wA := (hHH _).2 ⟨(hBx _ _ Z9 hq9).1, (hBx _ _ Z11 hq17).1, (hBx _ _ Z10 hq10).1⟩
          have ZB := (hBx _ _ Z10 hq10).2.1
          have zc := ZB.cell 0
          have zf := ZB.free 0
          have zz := ZB.lt
          refine anyG_val (some 89) (n := 3) (i := 4) (v := .slice (some ⟨wj.drew.heap.size, 0, none⟩) 1 1) (w' := wj.drew.alloc (.cells #[.int .i64 x0, .int .i64 x1, .int .i64 x2, .int .i64 x3, .int .i64 x4, .int .i64 x5] 30)) (by kernel_rfl) rfl rfl rfl (fun _ => HeldW.mk' hH0) (by go_simp) ?_
          simp only [Act.put, List.setIfInBounds_toArray, List.set_cons_zero, List.set_cons_succ]
          refine anyG_val (some 90) (n := 2) (i := 5) (v := .slice A4 n4 c4) (w' := wA) (by kernel_rfl) rfl rfl rfl (fun _ => HeldW.mk' hH1) (run_app_op (x := .tmp 87) (y := .tmp 89) rfl rfl rfl rfl hr) ?_
          simp only [Act.put, List.setIfInBounds_toArray, List.set_cons_zero, List.set_cons_succ]
          refine anyG_store (n := 1) (i := 6) (w' := wB) (by kernel_rfl) rfl rfl rfl (fun _ => HeldW.mk' hH2) (run_put_op rfl rfl rfl rfl hrB) ?_
          refine anyG_store (n := 0) (i := 7) (w' := wB.setCell ⟨b + 1 + 1 + 1 + 1, 0, none⟩ (.slice A4 n4 c4)) (by kernel_rfl) rfl rfl rfl (fun h => by cases h) (by go_simp) ?_
          refine anyG_done (by kernel_rfl) rfl ?_
          clear zc zf zz ZB
          have hDw := hDidn W hDid0
          have hrow5 := Lib.hid (hRw _ _ hrow4 hoff.out)
          have hoff5 : Hid (∀ g, (Value.slice (some ⟨bv, 0, none⟩) m cv).ownBlock = some g → quB (.slice A4 n4 c4) ≠ some g) := Lib.hid (fun g hg e => by
            rcases hQn g e with h9 | h9
            · exact hoff.out g hg h9
            · have := (Row.lt hrow4 hg).2
              omega)
          generalize wB.setCell ⟨b + 1 + 1 + 1 + 1, 0, none⟩ (.slice A4 n4 c4) = wk at hDn hDw hrow5 ⊢
          clear hr hrB hRn hQn hRw hDidn hBx hH2 hH1 hH0 hDc2 hDc hDb3 XL Z9 Z10 Z11 hrow4 hrow3 hDid0 hDid3
          dsimp only [Exit.inBlock, Exit.then]
          go_wp2
          refine ⟨⟨j + 1, A4, n4, c4, Nat.succ_le_of_lt hlt, by go_num, hDw, ?_, hrow5, hoff5⟩, by simp [intOf]; omega⟩
          rw [HMS.out, markI_f HT.out]
          exact hDn
end Go.Proofs.Ytancngachnpefaa
