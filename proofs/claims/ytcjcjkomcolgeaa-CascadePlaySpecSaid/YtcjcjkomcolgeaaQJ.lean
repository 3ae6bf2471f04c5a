/- Contract of Run of acequiaref31. No condition. -/
import Derived.Test.YtcjcjkomcolgeaaQI
set_option linter.unusedVariables false
set_option linter.unusedSimpArgs false
namespace Go.Proofs.Ytcjcjkomcolgeaa
open Go.RowKit

theorem rgcheck_at {code : List Ln} {v : Value} {w : World} {c : Int} (h : Hid (gateT code = c)) (hC : CodeAt w w.heap.size v code) : Calls Try.prog 35 #[.agg #[v]] w fun e w' => e = .returned (.int .i64 c) ∧ Below w.heap.size w w' :=
  (rgcheck_any code v w hC).mono fun _ _ ⟨he, hb⟩ => ⟨by rw [he, h.out], hb⟩
theorem gate_ok {code : List Ln} (h : gateB code = true) {k : Nat} (hk : k < code.length) {j : Nat} (hj : j < (code[k]).conds.length) : (0 ≤ ((code[k]).conds[j]).var ∧ ((code[k]).conds[j]).var ≤ 4) ∧ 1 ≤ ((code[k]).conds[j]).op ∧ ((code[k]).conds[j]).op ≤ 5 := by
  simp only [gateB, Bool.and_eq_true, List.all_eq_true] at h
  have h1 := h.2 _ (List.getElem_mem hk)
  simp only [Ln.okB, Bool.and_eq_true, List.all_eq_true] at h1
  have h2 := of_decide_eq_true (h1.2.2 _ (List.getElem_mem hj))
  exact ⟨h2.1, h2.2.1⟩
theorem gate_small {code : List Ln} (h : gateB code = true) : code.length ≤ 64 ∧ ∀ k (hk : k < code.length), (code[k]).conds.length ≤ 4 := by
  simp only [gateB, Bool.and_eq_true, List.all_eq_true] at h
  refine ⟨of_decide_eq_true h.1, fun k hk => ?_⟩
  have h1 := h.2 _ (List.getElem_mem hk)
  simp only [Ln.okB, Bool.and_eq_true] at h1
  exact of_decide_eq_true h1.1
theorem first_none {code : List Ln} {r : Vr} (h : code.all (fun l => !l.holdsB r) = true) : firstT code r = (0, false) := by
  unfold firstT
  rw [List.find?_eq_none.2 (fun x hx => by have := (List.all_eq_true.1 h) x hx; simpa using this)]
theorem first_some {code : List Ln} {r : Vr} {k : Nat} (hk : k < code.length) (h : (code.take k).all (fun l => !l.holdsB r) = true) (hh : (code[k]).holdsB r = true) : firstT code r = ((code[k]).set, true) := by
  unfold firstT
  have e : code = code.take k ++ code[k] :: code.drop (k + 1) := by rw [List.getElem_cons_drop, List.take_append_drop]
  have : code.find? (·.holdsB r) = some code[k] := by
    conv => lhs; rw [e]
    rw [List.find?_append, List.find?_eq_none.2 (fun x hx => by have := (List.all_eq_true.1 h) x hx; simpa using this)]
    simp only [Option.none_or, List.find?_cons, hh]
  rw [this]
theorem Vr.at_cell (r : Vr) (i : Nat) (hi : i < 5) : ([.int .i64 r.v0, .int .i64 r.v1, .int .i64 r.v2, .int .i64 r.v3, .int .i64 r.v4] : List Value)[i]? = some (.int .i64 (r.at (i : Int))) := by
  rcases (show i = 0 ∨ i = 1 ∨ i = 2 ∨ i = 3 ∨ i = 4 by omega) with rfl | rfl | rfl | rfl | rfl <;> rfl

set_option maxRecDepth 100000 in
set_option maxHeartbeats 4000000 in
theorem rrun_bad (code : List Ln) (v : Value) (r : Vr) (w : World) (hC : Hid (CodeAt w w.heap.size v code)) (h : Hid (gateT code = 310)) :
    Calls Try.prog 94 #[.agg #[v], r.v] w fun e w' => e = .returned (.tuple #[.int .i64 0, .bool false, .int .i64 310]) ∧ Below w.heap.size w w' := by
  go_enter Try.func94, Try.ntmps94
  go_wp2_with fail
  have hB : Below w.heap.size w ((w.alloc (.cells #[v] 63)).alloc (.cells #[.int .i64 r.v0, .int .i64 r.v1, .int .i64 r.v2, .int .i64 r.v3, .int .i64 r.v4] 141)) := ((Below.refl _ _).alloc (Nat.le_refl _) _).alloc (by simp) _
  refine (rgcheck_at h (hC.out.later hB)).mono ?_
  rintro e w1 ⟨rfl, hb⟩
  go_wp2
  go_ret3
  exact ⟨rfl, hB.trans (hb.mono hB.size)⟩

set_option maxRecDepth 100000 in
set_option maxHeartbeats 4000000 in
theorem rrun_good (code : List Ln) (A : Option Addr) (c : Nat) (r : Vr) (w : World) (hC : Hid (CodeAt w w.heap.size (.slice A code.length c) code)) (h : Hid (gateT code = 0)) (hg : Hid (gateB code = true)) :
    Calls Try.prog 94 #[.agg #[.slice A code.length c], r.v] w fun e w' => e = .returned (.tuple #[.int .i64 (firstT code r).1, .bool (firstT code r).2, .int .i64 0]) ∧ Below w.heap.size w w' := by
  obtain ⟨n, hnn⟩ : ∃ n, code.length = n := ⟨_, rfl⟩
  have hn := (gate_small hg.out).1
  rw [hnn] at hC hn ⊢
  have HN := Lib.hid hnn
  clear hnn
  go_enter Try.func94, Try.ntmps94
  go_wp2_with fail
  have hB0 : Below w.heap.size w ((w.alloc (.cells #[.slice A n c] 63)).alloc (.cells #[.int .i64 r.v0, .int .i64 r.v1, .int .i64 r.v2, .int .i64 r.v3, .int .i64 r.v4] 141)) := ((Below.refl _ _).alloc (Nat.le_refl _) _).alloc (by simp) _
  have hC1 := hC.out.later hB0
  refine (rgcheck_at h hC1).mono ?_
  rintro e W ⟨rfl, hb⟩
  have X0 := ((Box.new w [.slice A n c] 63).alloc _).later hb
  have X1 := (Box.newAt (w := w.alloc (.cells #[.slice A n c] 63)) (n := w.heap.size + 1) [.int .i64 r.v0, .int .i64 r.v1, .int .i64 r.v2, .int .i64 r.v3, .int .i64 r.v4] 141 (by simp)).later hb
  have HC := Lib.hid (hC1.later hb)
  have hB := hB0.trans (hb.mono hB0.size)
  clear hb hC1 hB0
  go_wp2_with fail
  go_loopw [8] (fun i wr => ∃ k : Nat, k ≤ n ∧ i = .int .i64 k ∧ Below W.heap.size W wr ∧ Hid ((code.take k).all (fun l => !l.holdsB r) = true)) (fun i _ => n - (intOf i).toNat)
  case atStart => exact ⟨0, by omega, rfl, Below.refl _ _, rfl⟩
  case round =>
    obtain ⟨k, hk, rfl, hb, hall⟩ := hrel
    have X0' := X0.later hb
    have x0 : wr.cell? ⟨w.heap.size, 0, none⟩ = some (.slice A n c) := X0'.cell 0
    have xz := X0'.lt
    by_cases hlt : k < n
    · have hkl : k < code.length := by rw [HN.out]; exact hlt
      obtain ⟨b, off, V, rfl, hbw, p0, p1, hV⟩ := HC.out.line hkl
      obtain ⟨A', c', rfl, hm⟩ := hV.form
      have hm4 := (gate_small hg.out).2 k hkl
      have htk := all_take code (fun l => !l.holdsB r) hkl
      have hfs := first_some (r := r) hkl hall.out
      obtain ⟨l, hl⟩ : ∃ l, code[k] = l := ⟨_, rfl⟩
      have hokc : ∀ (j : Nat) (hj : j < l.conds.length), (0 ≤ (l.conds[j]).var ∧ (l.conds[j]).var ≤ 4) ∧ 1 ≤ (l.conds[j]).op ∧ (l.conds[j]).op ≤ 5 := by
        subst hl
        exact fun j hj => gate_ok hg.out hkl hj
      rw [hl] at p0 p1 hV hm hm4 htk hfs
      rw [hall.out, Bool.true_and] at htk
      have htk := Lib.hid htk
      have hfs := Lib.hid hfs
      have hokc := Lib.hid hokc
      clear hl
      obtain ⟨m, hmm⟩ : ∃ m, l.conds.length = m := ⟨_, rfl⟩
      rw [hmm] at p0 hV hm hm4
      unfold maxLen at hm
      have HM := Lib.hid hmm
      clear hmm
      have HV := Lib.hid hV
      clear hV
      have P0 := Lib.hid p0
      have P1 := Lib.hid p1
      clear p0 p1
      have p0 := (hb.cell hbw).trans P0.out
      go_wp2_with fail
      clear x0 xz X0' p0
      go_loopw [9, 10] (fun a i wr => ∃ (j : Nat) (B : Bool), j ≤ m ∧ a = .bool B ∧ i = .int .i64 j ∧ Below W.heap.size W wr ∧ Hid ((l.conds.take j).all (fun y => y.holdsB (r.at y.var)) = B)) (fun _ i _ => m - (intOf i).toNat)
      case atStart => exact ⟨0, true, by omega, rfl, rfl, hb, rfl⟩
      case round =>
        obtain ⟨j, B, hj, rfl, rfl, hb2, hall2⟩ := hrel
        have X0' := X0.later hb2
        have x0 : wr.cell? ⟨w.heap.size, 0, none⟩ = some (.slice (some ⟨b, off, none⟩) n c) := X0'.cell 0
        have xz := X0'.lt
        have p0 := (hb2.cell hbw).trans P0.out
        have p1 := (hb2.cell hbw).trans P1.out
        by_cases hlt2 : j < m
        · have hjl : j < l.conds.length := by rw [HM.out]; exact hlt2
          obtain ⟨⟨v1, v2⟩, o1, o2⟩ := hokc.out j hjl
          obtain ⟨b', off', rfl, hbw', q0, q1, q2⟩ := (HV.out.below hb2).cond hjl
          have htk2 := all_take l.conds (fun y => y.holdsB (r.at y.var)) hjl
          obtain ⟨y, hy⟩ : ∃ y, l.conds[j] = y := ⟨_, rfl⟩
          rw [hy] at q0 q1 q2 v1 v2 o1 o2 htk2
          rw [hall2.out] at htk2
          have htk2 := Lib.hid htk2
          clear hy
          obtain ⟨yv, yo, yn⟩ := y
          dsimp only at *
          obtain ⟨vi, rfl⟩ := Int.eq_ofNat_of_zero_le v1
          go_wp2_with fail
          have Y := Box.new wr [.int .i64 (vi : Int), .int .i64 yo, .int .i64 yn] 106
          have hb3 := hb2.alloc hb2.size (.cells #[.int .i64 (vi : Int), .int .i64 yo, .int .i64 yn] 106)
          generalize wr.alloc (.cells #[.int .i64 (vi : Int), .int .i64 yo, .int .i64 yn] 106) = W3 at Y hb3 ⊢
          clear x0 xz X0' p0 p1 q0 q1 q2
          generalize wr.heap.size = D at Y ⊢
          have X1' := X1.later hb3
          rcases B with _ | _
          · refine wp_region_later (by kernel_rfl) (by kernel_rfl) ?_
            repeat (go_big_quiet_step (fail))
            refine wpQuiet_nil ?_
            intro _ hw'
            obtain ⟨yq, hw''⟩ := hw'
            subst hw''
            go_wp2
            refine ⟨⟨j + 1, false, by omega, rfl, by go_num, hb3.trans (yq.below.mono hb3.size), ?_⟩, by simp [intOf]; omega⟩
            rw [Hid, htk2.out]
            rfl
          · have c0 : ∀ z : Later W3, z.w.cell? ⟨D, 0, none⟩ = some (.int .i64 (vi : Int)) := Later.cell (Y.cell 0) Y.lt
            have c1 : ∀ z : Later W3, z.w.cell? ⟨D, 1, none⟩ = some (.int .i64 yo) := Later.cell (Y.cell 1) Y.lt
            have c2 : ∀ z : Later W3, z.w.cell? ⟨D, 2, none⟩ = some (.int .i64 yn) := Later.cell (Y.cell 2) Y.lt
            have c3 : ∀ z : Later W3, z.w.cell? ⟨w.heap.size + 1, vi, none⟩ = some (.int .i64 (r.at (vi : Int))) := Later.cell ((X1'.cell vi).trans (r.at_cell vi (by omega))) X1'.lt
            refine wp_region_later (by kernel_rfl) (by kernel_rfl) ?_
            repeat (go_big_quiet_step ((go_at_call 99; exact Later.call _ (rholds_any ⟨(vi : Int), yo, yn⟩ (r.at (vi : Int)) _ ⟨o1, o2⟩))))
            refine wpQuiet_nil ?_
            intro _ hw'
            obtain ⟨yq, hw''⟩ := hw'
            subst hw''
            clear c0 c1 c2 c3
            go_wp2
            refine ⟨⟨j + 1, _, by omega, rfl, by go_num, hb3.trans (yq.below.mono hb3.size), ?_⟩, by simp [intOf]; omega⟩
            rw [Hid, htk2.out]
            rfl
        · obtain rfl : j = m := by omega
          have hl : l.holdsB r = B := by
            have := hall2.out
            rw [← HM.out, List.take_length] at this
            exact this
          rcases B with _ | _
          · go_wp2
            refine ⟨⟨k + 1, by omega, by go_num, hb2, ?_⟩, by simp [intOf]; omega⟩
            rw [Hid, htk.out, hl]
            rfl
          · have hF := Lib.hid (hfs.out hl)
            clear hl
            go_wp2
            go_ret3
            exact ⟨by rw [hF.out]; rfl, hB.trans (hb2.mono hB.size)⟩
    · obtain rfl : k = n := by omega
      have hF : Hid (firstT code r = (0, false)) := by
        have := hall.out
        rw [← HN.out, List.take_length] at this
        exact first_none this
      go_wp2
      go_ret3
      exact ⟨by rw [hF.out]; rfl, hB.trans (hb.mono hB.size)⟩

theorem rrun_any (code : List Ln) (v : Value) (r : Vr) (w : World) (hC : CodeAt w w.heap.size v code) :
    Calls Try.prog 94 #[.agg #[v], r.v] w fun e w' => e = .returned (.tuple #[.int .i64 (runT code r).1, .bool (runT code r).2.1, .int .i64 (runT code r).2.2]) ∧ Below w.heap.size w w' := by
  rcases h : gateB code with _ | _
  · have e : runT code r = (0, false, 310) := by rw [runT, if_neg (by rw [h]; decide)]
    rw [e]
    exact rrun_bad code v r w hC (by rw [Hid, gateT, if_neg (by rw [h]; decide)])
  · have e : runT code r = ((firstT code r).1, (firstT code r).2, 0) := by rw [runT, if_pos h]
    rw [e]
    obtain ⟨A, c, rfl, _⟩ := hC.form
    exact rrun_good code A c r w hC (by rw [Hid, gateT, if_pos h]) h

end Go.Proofs.Ytcjcjkomcolgeaa
