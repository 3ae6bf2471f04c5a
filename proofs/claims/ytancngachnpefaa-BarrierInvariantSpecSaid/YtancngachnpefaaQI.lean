/- Contracts of Check, Few, Holds of acequiaref31. No condition. -/
import Derived.Test.YtancngachnpefaaQH
set_option linter.unusedVariables false
set_option linter.unusedSimpArgs false
set_option maxRecDepth 100000
set_option maxHeartbeats 4000000
namespace Go.Proofs.Ytancngachnpefaa
open Go.RowKit
theorem rwithin_any (n : Int) (w : World) : Calls Try.prog 75 #[.int .i64 n] w fun e w' => e = .returned (.bool (inI n 0 1099511627776)) ∧ w = w' := by
  by_cases h1 : 0 ≤ n
  · by_cases h2 : n ≤ 1099511627776
    · go_enter Try.func75, Try.ntmps75
      go_wp2
      go_ret
      exact ⟨by rw [inI, decide_eq_true ⟨h1, h2⟩]; rfl, rfl⟩
    · go_enter Try.func75, Try.ntmps75
      go_wp2
      go_ret
      exact ⟨by rw [inI, decide_eq_false (by omega)]; rfl, rfl⟩
  · go_enter Try.func75, Try.ntmps75
    go_wp2
    go_ret
    exact ⟨by rw [inI, decide_eq_false (by omega)]; rfl, rfl⟩
theorem rgcheck_small (code : List Ln) (A : Option Addr) (c : Nat) (w : World) (hC : CodeAt w w.heap.size (.slice A code.length c) code) (hn : code.length ≤ 64) :
    Calls Try.prog 68 #[.agg #[.slice A code.length c]] w fun e w' => e = .returned (.int .i64 (gateT code)) ∧ Below w.heap.size w w' := by
  obtain ⟨n, hnn⟩ : ∃ n, code.length = n := ⟨_, rfl⟩
  rw [hnn] at hn hC ⊢
  have HN := Lib.hid hnn
  clear hnn
  go_enter Try.func68, Try.ntmps68
  go_wp2_with fail
  have X := Box.new w [.slice A n c] 26
  have hB := (Below.refl w.heap.size w).alloc (Nat.le_refl _) (.cells #[.slice A n c] 26)
  have HC := Lib.hid (hC.later ((Below.refl w.heap.size w).alloc (Nat.le_refl _) (.cells #[.slice A n c] 26)))
  clear hC
  generalize w.alloc (.cells #[.slice A n c] 26) = W at X hB HC ⊢
  go_loopw [3] (fun i wr => ∃ k : Nat, k ≤ n ∧ i = .int .i64 k ∧ Below W.heap.size W wr ∧ Hid ((code.take k).all Ln.okB = true)) (fun i _ => n - (intOf i).toNat)
  case atStart => exact ⟨0, by omega, rfl, Below.refl _ _, rfl⟩
  case round =>
    obtain ⟨k, hk, rfl, hb, hall⟩ := hrel
    have X' := X.later hb
    have x0 : wr.cell? ⟨w.heap.size, 0, none⟩ = some (.slice A n c) := X'.cell 0
    have xz := X'.lt
    by_cases hlt : k < n
    · have hkl : k < code.length := by rw [HN.out]; exact hlt
      obtain ⟨b, off, V, rfl, hbw, p0, p1, hV⟩ := HC.out.line hkl
      have p0 := (hb.cell hbw).trans p0
      have p1 := (hb.cell hbw).trans p1
      obtain ⟨A', c', rfl, hm⟩ := hV.form
      obtain ⟨l, hl⟩ : ∃ l, code[k] = l := ⟨_, rfl⟩
      rw [hl] at p0 p1 hV hm
      have hbad := all_bad (f := Ln.okB) hkl
      have htk := all_take code Ln.okB hkl
      rw [hl] at hbad htk
      rw [hall.out, Bool.true_and] at htk
      have hbad := Lib.hid hbad
      have htk := Lib.hid htk
      clear hl
      obtain ⟨m, hmm⟩ : ∃ m, l.conds.length = m := ⟨_, rfl⟩
      rw [hmm] at p0 hV hm
      unfold maxLen at hm
      have HM := Lib.hid hmm
      clear hmm
      have HV := Lib.hid hV
      clear hV
      rcases hs : inI l.set 0 1099511627776 with _ | _
      · go_wp2_with (go_at_call 75; refine (rwithin_any _ _).mono ?_; rintro e w' ⟨rfl, rfl⟩)
        all_goals
          go_ret
          refine ⟨?_, hB.trans ((hb.alloc hb.size _).mono hB.size)⟩
          have : l.okB = false := by
            have h1 := inI_no hs
            simp only [Ln.okB, Bool.and_eq_false_iff, decide_eq_false_iff_not]
            exact .inr (.inl h1)
          rw [gateT, gateB, hbad.out this, Bool.and_false]
          rfl
      · by_cases h4 : m ≤ 4
        · go_wp2_with (go_at_call 75; refine (rwithin_any _ _).mono ?_; rintro e w' ⟨rfl, rfl⟩)
          have Y := Box.new wr [.slice A' m c', .int .i64 l.set] 74
          have hY := hb.alloc hb.size (.cells #[.slice A' m c', .int .i64 l.set] 74)
          generalize wr.alloc (.cells #[.slice A' m c', .int .i64 l.set] 74) = W2 at Y hY ⊢
          clear x0 p0 p1 xz X'
          generalize wr.heap.size = D at Y ⊢
          go_loopw [5] (fun i wr => ∃ j : Nat, j ≤ m ∧ i = .int .i64 j ∧ Below W2.heap.size W2 wr ∧ Hid ((l.conds.take j).all Cn.okB = true)) (fun i _ => m - (intOf i).toNat)
          case atStart => exact ⟨0, by omega, rfl, Below.refl _ _, rfl⟩
          case round =>
            obtain ⟨j, hj, rfl, hb2, hall2⟩ := hrel
            have Y' := Y.later hb2
            have y0 : wr.cell? ⟨D, 0, none⟩ = some (.slice A' m c') := Y'.cell 0
            have yz := Y'.lt
            by_cases hlt2 : j < m
            · have hjl : j < l.conds.length := by rw [HM.out]; exact hlt2
              have hb3 := hY.trans (hb2.mono hY.size)
              obtain ⟨b', off', rfl, hbw', q0, q1, q2⟩ := (HV.out.below hb3).cond hjl
              obtain ⟨y, hy⟩ : ∃ y, l.conds[j] = y := ⟨_, rfl⟩
              rw [hy] at q0 q1 q2
              have hbad2 := all_bad (f := Cn.okB) hjl
              have htk2 := all_take l.conds Cn.okB hjl
              rw [hy] at hbad2 htk2
              rw [hall2.out, Bool.true_and] at htk2
              have hbad2 := Lib.hid hbad2
              have htk2 := Lib.hid htk2
              clear hy
              rcases g2 : inI y.n 0 1099511627776 with _ | _
              all_goals go_wp2_with (go_at_call 75; refine (rwithin_any _ _).mono ?_; rintro e w' ⟨rfl, rfl⟩)
              all_goals first
                | (refine ⟨⟨j + 1, by omega, by go_num, hb2.alloc hb2.size _, ?_⟩, by simp [intOf]; omega⟩
                   rw [Hid, htk2.out, Cn.okB]
                   have := inI_yes g2
                   exact decide_eq_true (by omega))
                | (go_ret
                   refine ⟨?_, hB.trans ((hY.trans ((hb2.alloc hb2.size _).mono hY.size)).mono hB.size)⟩
                   have h1 : y.okB = false := by
                     rw [Cn.okB, decide_eq_false_iff_not]
                     first | omega | exact fun h => inI_no g2 h.2.2
                   have : l.okB = false := by
                     rw [Ln.okB, hbad2.out h1, Bool.and_false, Bool.and_false]
                   rw [gateT, gateB, hbad.out this, Bool.and_false]
                   rfl)
            · obtain rfl : j = m := by omega
              go_wp2
              refine ⟨⟨k + 1, by omega, by go_num, hY.trans (hb2.mono hY.size), ?_⟩, by simp [intOf]; omega⟩
              rw [Hid, htk.out, Ln.okB, decide_eq_true (show l.conds.length ≤ 4 by rw [HM.out]; exact h4), decide_eq_true (inI_yes hs)]
              have := hall2.out
              rw [← HM.out, List.take_length] at this
              rw [this]
              rfl
        · go_wp2_with (go_at_call 75; refine (rwithin_any _ _).mono ?_; rintro e w' ⟨rfl, rfl⟩)
          go_ret
          refine ⟨?_, hB.trans ((hb.alloc hb.size _).mono hB.size)⟩
          have : l.okB = false := by
            simp only [Ln.okB, Bool.and_eq_false_iff, decide_eq_false_iff_not]
            exact .inl (by rw [HM.out]; omega)
          rw [gateT, gateB, hbad.out this, Bool.and_false]
          rfl
    · obtain rfl : k = n := by omega
      go_wp2
      go_ret
      refine ⟨?_, hB.trans (hb.mono hB.size)⟩
      have h1 : code.all Ln.okB = true := by rw [← hall.out, ← HN.out, List.take_length]
      rw [gateT, gateB, h1, decide_eq_true (show code.length ≤ 64 by rw [HN.out]; exact hn)]
      rfl
theorem rgcheck_long (code : List Ln) (A : Option Addr) (c : Nat) (w : World) (hn : 64 < code.length) (hm : code.length ≤ 9223372036854775807) :
    Calls Try.prog 68 #[.agg #[.slice A code.length c]] w fun e w' => e = .returned (.int .i64 310) ∧ Below w.heap.size w w' := by
  obtain ⟨n, hnn⟩ : ∃ n, code.length = n := ⟨_, rfl⟩
  rw [hnn] at hn hm ⊢
  clear hnn
  go_enter Try.func68, Try.ntmps68
  go_wp2
  go_ret
  exact ⟨rfl, (Below.refl _ _).alloc (Nat.le_refl _) _⟩
theorem rgcheck_any (code : List Ln) (v : Value) (w : World) (hC : CodeAt w w.heap.size v code) :
    Calls Try.prog 68 #[.agg #[v]] w fun e w' => e = .returned (.int .i64 (gateT code)) ∧ Below w.heap.size w w' := by
  obtain ⟨A, c, rfl, hm⟩ := hC.form
  by_cases h : code.length ≤ 64
  · exact rgcheck_small code A c w hC h
  · have : gateT code = 310 := by rw [gateT, gateB, decide_eq_false h]; rfl
    rw [this]
    exact rgcheck_long code A c w (by omega) hm
abbrev Cn.v (c : Cn) : Value := .agg #[.int .i64 c.var, .int .i64 c.op, .int .i64 c.n]
theorem rholds_any (c : Cn) (x : Int) (w : World) (h : 1 ≤ c.op ∧ c.op ≤ 5) : Calls Try.prog 86 #[c.v, .int .i64 x] w fun e w' => e = .returned (.bool (c.holdsB x)) ∧ Below w.heap.size w w' := by
  obtain ⟨cv, co, cn⟩ := c
  dsimp only at h
  rcases (show co = 1 ∨ co = 2 ∨ co = 3 ∨ co = 4 ∨ co = 5 by omega) with rfl | rfl | rfl | rfl | rfl
  all_goals
    clear h
    go_enter Try.func86, Try.ntmps86
    go_wp2
    all_goals
      go_ret
      refine ⟨?_, (Below.refl _ _).alloc (Nat.le_refl _) _⟩
      simp [Cn.holdsB]
      try rfl
end Go.Proofs.Ytancngachnpefaa
namespace Go.Proofs.Ytancngachnpefaa
open Go.RowKit
theorem rgcheck_at {code : List Ln} {v : Value} {w : World} {c : Int} (h : Hid (gateT code = c)) (hC : CodeAt w w.heap.size v code) : Calls Try.prog 68 #[.agg #[v]] w fun e w' => e = .returned (.int .i64 c) ∧ Below w.heap.size w w' :=
  (rgcheck_any code v w hC).mono fun _ _ ⟨he, hb⟩ => ⟨by rw [he, h.out], hb⟩
theorem gate_ok {code : List Ln} (h : gateB code = true) {k : Nat} (hk : k < code.length) {j : Nat} (hj : j < (code[k]).conds.length) : (0 ≤ ((code[k]).conds[j]).var ∧ ((code[k]).conds[j]).var ≤ 4) ∧ 1 ≤ ((code[k]).conds[j]).op ∧ ((code[k]).conds[j]).op ≤ 5 := by
  simp only [gateB, Bool.and_eq_true, List.all_eq_true] at h
  have h1 := h.2 _ (List.getElem_mem hk)
  simp only [Ln.okB, Bool.and_eq_true, List.all_eq_true] at h1
  have h2 := of_decide_eq_true (h1.2.2 _ (List.getElem_mem hj))
  exact ⟨h2.1, h2.2.1⟩
theorem gate_small {code : List Ln} (h : gateB code = true) : code.length ≤ 64 ∧ ∀ k (hk : k < code.length), (code[k]).conds.length ≤ 4 := by
  simp only [gateB, Bool.and_eq_true, List.all_eq_true] at h
  refine ⟨of_decide_eq_true h.1, fun k hk => ?_⟩
  have h1 := h.2 _ (List.getElem_mem hk)
  simp only [Ln.okB, Bool.and_eq_true] at h1
  exact of_decide_eq_true h1.1
theorem first_none {code : List Ln} {r : Vr} (h : code.all (fun l => !l.holdsB r) = true) : firstT code r = (0, false) := by
  unfold firstT
  rw [List.find?_eq_none.2 (fun x hx => by have := (List.all_eq_true.1 h) x hx; simpa using this)]
theorem first_some {code : List Ln} {r : Vr} {k : Nat} (hk : k < code.length) (h : (code.take k).all (fun l => !l.holdsB r) = true) (hh : (code[k]).holdsB r = true) : firstT code r = ((code[k]).set, true) := by
  unfold firstT
  have e : code = code.take k ++ code[k] :: code.drop (k + 1) := by rw [List.getElem_cons_drop, List.take_append_drop]
  have : code.find? (·.holdsB r) = some code[k] := by
    conv => lhs; rw [e]
    rw [List.find?_append, List.find?_eq_none.2 (fun x hx => by have := (List.all_eq_true.1 h) x hx; simpa using this)]
    simp only [Option.none_or, List.find?_cons, hh]
  rw [this]
theorem Vr.at_cell (r : Vr) (i : Nat) (hi : i < 5) : ([.int .i64 r.v0, .int .i64 r.v1, .int .i64 r.v2, .int .i64 r.v3, .int .i64 r.v4] : List Value)[i]? = some (.int .i64 (r.at (i : Int))) := by
  rcases (show i = 0 ∨ i = 1 ∨ i = 2 ∨ i = 3 ∨ i = 4 by omega) with rfl | rfl | rfl | rfl | rfl <;> rfl
theorem rrun_bad (code : List Ln) (v : Value) (r : Vr) (w : World) (hC : Hid (CodeAt w w.heap.size v code)) (h : Hid (gateT code = 310)) :
    Calls Try.prog 81 #[.agg #[v], r.v] w fun e w' => e = .returned (.tuple #[.int .i64 0, .bool false, .int .i64 310]) ∧ Below w.heap.size w w' := by
  go_enter Try.func81, Try.ntmps81
  go_wp2_with fail
  have hB : Below w.heap.size w ((w.alloc (.cells #[v] 26)).alloc (.cells #[.int .i64 r.v0, .int .i64 r.v1, .int .i64 r.v2, .int .i64 r.v3, .int .i64 r.v4] 132)) := ((Below.refl _ _).alloc (Nat.le_refl _) _).alloc (by simp) _
  refine (rgcheck_at h (hC.out.later hB)).mono ?_
  rintro e w1 ⟨rfl, hb⟩
  go_wp2
  go_ret3
  exact ⟨rfl, hB.trans (hb.mono hB.size)⟩
theorem rrun_good (code : List Ln) (A : Option Addr) (c : Nat) (r : Vr) (w : World) (hC : Hid (CodeAt w w.heap.size (.slice A code.length c) code)) (h : Hid (gateT code = 0)) (hg : Hid (gateB code = true)) :
    Calls Try.prog 81 #[.agg #[.slice A code.length c], r.v] w fun e w' => e = .returned (.tuple #[.int .i64 (firstT code r).1, .bool (firstT code r).2, .int .i64 0]) ∧ Below w.heap.size w w' := by
  obtain ⟨n, hnn⟩ : ∃ n, code.length = n := ⟨_, rfl⟩
  have hn := (gate_small hg.out).1
  rw [hnn] at hC hn ⊢
  have HN := Lib.hid hnn
  clear hnn
  go_enter Try.func81, Try.ntmps81
  go_wp2_with fail
  have hB0 : Below w.heap.size w ((w.alloc (.cells #[.slice A n c] 26)).alloc (.cells #[.int .i64 r.v0, .int .i64 r.v1, .int .i64 r.v2, .int .i64 r.v3, .int .i64 r.v4] 132)) := ((Below.refl _ _).alloc (Nat.le_refl _) _).alloc (by simp) _
  have hC1 := hC.out.later hB0
  refine (rgcheck_at h hC1).mono ?_
  rintro e W ⟨rfl, hb⟩
  have X0 := ((Box.new w [.slice A n c] 26).alloc _).later hb
  have X1 := (Box.newAt (w := w.alloc (.cells #[.slice A n c] 26)) (n := w.heap.size + 1) [.int .i64 r.v0, .int .i64 r.v1, .int .i64 r.v2, .int .i64 r.v3, .int .i64 r.v4] 132 (by simp)).later hb
  have HC := Lib.hid (hC1.later hb)
  have hB := hB0.trans (hb.mono hB0.size)
  clear hb hC1 hB0
  go_wp2_with fail
  go_loopw [8] (fun i wr => ∃ k : Nat, k ≤ n ∧ i = .int .i64 k ∧ Below W.heap.size W wr ∧ Hid ((code.take k).all (fun l => !l.holdsB r) = true)) (fun i _ => n - (intOf i).toNat)
  case atStart => exact ⟨0, by omega, rfl, Below.refl _ _, rfl⟩
  case round =>
    obtain ⟨k, hk, rfl, hb, hall⟩ := hrel
    have X0' := X0.later hb
    have x0 : wr.cell? ⟨w.heap.size, 0, none⟩ = some (.slice A n c) := X0'.cell 0
    have xz := X0'.lt
    by_cases hlt : k < n
    · have hkl : k < code.length := by rw [HN.out]; exact hlt
      obtain ⟨b, off, V, rfl, hbw, p0, p1, hV⟩ := HC.out.line hkl
      obtain ⟨A', c', rfl, hm⟩ := hV.form
      have hm4 := (gate_small hg.out).2 k hkl
      have htk := all_take code (fun l => !l.holdsB r) hkl
      have hfs := first_some (r := r) hkl hall.out
      obtain ⟨l, hl⟩ : ∃ l, code[k] = l := ⟨_, rfl⟩
      have hokc : ∀ (j : Nat) (hj : j < l.conds.length), (0 ≤ (l.conds[j]).var ∧ (l.conds[j]).var ≤ 4) ∧ 1 ≤ (l.conds[j]).op ∧ (l.conds[j]).op ≤ 5 := by
        subst hl
        exact fun j hj => gate_ok hg.out hkl hj
      rw [hl] at p0 p1 hV hm hm4 htk hfs
      rw [hall.out, Bool.true_and] at htk
      have htk := Lib.hid htk
      have hfs := Lib.hid hfs
      have hokc := Lib.hid hokc
      clear hl
      obtain ⟨m, hmm⟩ : ∃ m, l.conds.length = m := ⟨_, rfl⟩
      rw [hmm] at p0 hV hm hm4
      unfold maxLen at hm
      have HM := Lib.hid hmm
      clear hmm
      have HV := Lib.hid hV
      clear hV
      have P0 := Lib.hid p0
      have P1 := Lib.hid p1
      clear p0 p1
      have p0 := (hb.cell hbw).trans P0.out
      go_wp2_with fail
      clear x0 xz X0' p0
      go_loopw [9, 10] (fun a i wr => ∃ (j : Nat) (B : Bool), j ≤ m ∧ a = .bool B ∧ i = .int .i64 j ∧ Below W.heap.size W wr ∧ Hid ((l.conds.take j).all (fun y => y.holdsB (r.at y.var)) = B)) (fun _ i _ => m - (intOf i).toNat)
      case atStart => exact ⟨0, true, by omega, rfl, rfl, hb, rfl⟩
      case round =>
        obtain ⟨j, B, hj, rfl, rfl, hb2, hall2⟩ := hrel
        have X0' := X0.later hb2
        have x0 : wr.cell? ⟨w.heap.size, 0, none⟩ = some (.slice (some ⟨b, off, none⟩) n c) := X0'.cell 0
        have xz := X0'.lt
        have p0 := (hb2.cell hbw).trans P0.out
        have p1 := (hb2.cell hbw).trans P1.out
        by_cases hlt2 : j < m
        · have hjl : j < l.conds.length := by rw [HM.out]; exact hlt2
          obtain ⟨⟨v1, v2⟩, o1, o2⟩ := hokc.out j hjl
          obtain ⟨b', off', rfl, hbw', q0, q1, q2⟩ := (HV.out.below hb2).cond hjl
          have htk2 := all_take l.conds (fun y => y.holdsB (r.at y.var)) hjl
          obtain ⟨y, hy⟩ : ∃ y, l.conds[j] = y := ⟨_, rfl⟩
          rw [hy] at q0 q1 q2 v1 v2 o1 o2 htk2
          rw [hall2.out] at htk2
          have htk2 := Lib.hid htk2
          clear hy
          obtain ⟨yv, yo, yn⟩ := y
          dsimp only at *
          obtain ⟨vi, rfl⟩ := Int.eq_ofNat_of_zero_le v1
          go_wp2_with fail
          have Y := Box.new wr [.int .i64 (vi : Int), .int .i64 yo, .int .i64 yn] 122
          have hb3 := hb2.alloc hb2.size (.cells #[.int .i64 (vi : Int), .int .i64 yo, .int .i64 yn] 122)
          generalize wr.alloc (.cells #[.int .i64 (vi : Int), .int .i64 yo, .int .i64 yn] 122) = W3 at Y hb3 ⊢
          clear x0 xz X0' p0 p1 q0 q1 q2
          generalize wr.heap.size = D at Y ⊢
          have X1' := X1.later hb3
          rcases B with _ | _
          · refine wp_region_later (by kernel_rfl) (by kernel_rfl) ?_
            repeat (go_big_quiet_step (fail))
            refine wpQuiet_nil ?_
            intro _ hw'
            obtain ⟨yq, hw''⟩ := hw'
            subst hw''
            go_wp2
            refine ⟨⟨j + 1, false, by omega, rfl, by go_num, hb3.trans (yq.below.mono hb3.size), ?_⟩, by simp [intOf]; omega⟩
            rw [Hid, htk2.out]
            rfl
          · have c0 : ∀ z : Later W3, z.w.cell? ⟨D, 0, none⟩ = some (.int .i64 (vi : Int)) := Later.cell (Y.cell 0) Y.lt
            have c1 : ∀ z : Later W3, z.w.cell? ⟨D, 1, none⟩ = some (.int .i64 yo) := Later.cell (Y.cell 1) Y.lt
            have c2 : ∀ z : Later W3, z.w.cell? ⟨D, 2, none⟩ = some (.int .i64 yn) := Later.cell (Y.cell 2) Y.lt
            have c3 : ∀ z : Later W3, z.w.cell? ⟨w.heap.size + 1, vi, none⟩ = some (.int .i64 (r.at (vi : Int))) := Later.cell ((X1'.cell vi).trans (r.at_cell vi (by omega))) X1'.lt
            refine wp_region_later (by kernel_rfl) (by kernel_rfl) ?_
            repeat (go_big_quiet_step ((go_at_call 86; exact Later.call _ (rholds_any ⟨(vi : Int), yo, yn⟩ (r.at (vi : Int)) _ ⟨o1, o2⟩))))
            refine wpQuiet_nil ?_
            intro _ hw'
            obtain ⟨yq, hw''⟩ := hw'
            subst hw''
            clear c0 c1 c2 c3
            go_wp2
            refine ⟨⟨j + 1, _, by omega, rfl, by go_num, hb3.trans (yq.below.mono hb3.size), ?_⟩, by simp [intOf]; omega⟩
            rw [Hid, htk2.out]
            rfl
        · obtain rfl : j = m := by omega
          have hl : l.holdsB r = B := by
            have := hall2.out
            rw [← HM.out, List.take_length] at this
            exact this
          rcases B with _ | _
          · go_wp2
            refine ⟨⟨k + 1, by omega, by go_num, hb2, ?_⟩, by simp [intOf]; omega⟩
            rw [Hid, htk.out, hl]
            rfl
          · have hF := Lib.hid (hfs.out hl)
            clear hl
            go_wp2
            go_ret3
            exact ⟨by rw [hF.out]; rfl, hB.trans (hb2.mono hB.size)⟩
    · obtain rfl : k = n := by omega
      have hF : Hid (firstT code r = (0, false)) := by
        have := hall.out
        rw [← HN.out, List.take_length] at this
        exact first_none this
      go_wp2
      go_ret3
      exact ⟨by rw [hF.out]; rfl, hB.trans (hb.mono hB.size)⟩
theorem rrun_any (code : List Ln) (v : Value) (r : Vr) (w : World) (hC : CodeAt w w.heap.size v code) :
    Calls Try.prog 81 #[.agg #[v], r.v] w fun e w' => e = .returned (.tuple #[.int .i64 (runT code r).1, .bool (runT code r).2.1, .int .i64 (runT code r).2.2]) ∧ Below w.heap.size w w' := by
  rcases h : gateB code with _ | _
  · have e : runT code r = (0, false, 310) := by rw [runT, if_neg (by rw [h]; decide)]
    rw [e]
    exact rrun_bad code v r w hC (by rw [Hid, gateT, if_neg (by rw [h]; decide)])
  · have e : runT code r = ((firstT code r).1, (firstT code r).2, 0) := by rw [runT, if_pos h]
    rw [e]
    obtain ⟨A, c, rfl, _⟩ := hC.form
    exact rrun_good code A c r w hC (by rw [Hid, gateT, if_pos h]) h
end Go.Proofs.Ytancngachnpefaa
