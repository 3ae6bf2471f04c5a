/-
  Contracts of Check, runs and has of chapter 4. No condition.
-/
import Derived.Test.YtdmeogkdoeaemaaDB
namespace Go.Proofs.Ytdmeogkdoeaemaa
open Go.RowKit

abbrev dkV (Vs Vp : Value) (l : Int) (s : Bool) : Value := .agg #[Vs, Vp, .int .i64 l, .bool s]
abbrev Dk.v (d : Dk) (Vs Vp : Value) : Value := dkV Vs Vp d.left d.stopped
theorem Dk.okB_eq (d : Dk) : d.okB = (boundsB d && (d.pending.all (wrB d.sectors.length) && d.sectors.all secB)) := rfl
theorem check_bad {d : Dk} (h : d.okB = false) : d.checkT = 40 := by rw [Dk.checkT, h]; rfl
theorem check_good {d : Dk} (h : d.okB = true) : d.checkT = 0 := by rw [Dk.checkT, h]; rfl
theorem boundsB_iff (d : Dk) : boundsB d = true ↔ (1 ≤ d.sectors.length ∧ d.sectors.length ≤ 4096 ∧ d.pending.length ≤ 4096 ∧ -1 ≤ d.left ∧ d.left ≤ 65536) := by
  simp only [boundsB, Bool.and_eq_true, decide_eq_true_eq]

set_option maxRecDepth 100000 in
set_option maxHeartbeats 4000000 in
theorem dCheck_any (d : Dk) (Vs Vp : Value) (S : Nat → Prop) (w : World) (hD : DkAt w S Vs Vp d) :
    Calls Try.prog 15 #[d.v Vs Vp] w fun e w' => e = .returned (.int .i64 d.checkT) ∧ Below w.heap.size w w' := by
  obtain ⟨As, cs, rfl, hms⟩ := hD.sectors.form
  obtain ⟨Ap, cp, rfl, hmp⟩ := hD.pending.form
  unfold maxLen at hms hmp
  obtain ⟨ns, hns⟩ : ∃ k, d.sectors.length = k := ⟨_, rfl⟩
  obtain ⟨np, hnp⟩ : ∃ k, d.pending.length = k := ⟨_, rfl⟩
  obtain ⟨dl, hdl⟩ : ∃ k, d.left = k := ⟨_, rfl⟩
  obtain ⟨ds, hds⟩ : ∃ k, d.stopped = k := ⟨_, rfl⟩
  have hbi := boundsB_iff d
  rw [hns, hnp, hdl] at hbi
  rw [hns] at hms
  rw [hnp] at hmp
  rw [hns, hnp] at hD
  show Calls Try.prog 15 #[.agg #[.slice As d.sectors.length cs, .slice Ap d.pending.length cp, .int .i64 d.left, .bool d.stopped]] w _
  rw [hns, hnp, hdl, hds]
  have HNS := Lib.hid hns
  have HNP := Lib.hid hnp
  have HD := Lib.hid hD
  clear hns hnp hdl hds hD
  have hst := ((Below.refl w.heap.size w).alloc (Nat.le_refl _) (.cells #[.slice As ns cs, .slice Ap np cp, .int .i64 dl, .bool ds] 25)).alloc (by simp) (.cells #[.int .i64 ns] 3)
  have X := (Box.new w [.slice As ns cs, .slice Ap np cp, .int .i64 dl, .bool ds] 25).alloc (.cells #[.int .i64 ns] 3)
  have N := Box.newAt (w := w.alloc (.cells #[.slice As ns cs, .slice Ap np cp, .int .i64 dl, .bool ds] 25)) (n := w.heap.size + 1) [.int .i64 ns] 3 (by simp)
  rcases hb : boundsB d with _ | _
  · rw [check_bad (by rw [Dk.okB_eq, hb]; rfl)]
    rw [hb] at hbi
    have hn : ns < 1 ∨ 4096 < ns ∨ 4096 < np ∨ dl < -1 ∨ 65536 < dl := by
      have := mt hbi.2 (by simp)
      omega
    clear hbi hb X N
    rcases hn with h | h | h | h | h
    all_goals
      go_enter Try.func15, Try.ntmps15
      go_wp2
      all_goals (go_ret; exact ⟨rfl, hst⟩)
  · rw [hb] at hbi
    obtain ⟨h1, h2, h3, h4, h5⟩ := hbi.1 rfl
    clear hbi
    have HBD := Lib.hid hb
    have HD2 := Lib.hid (HD.out.keep (Keeps.of hst))
    have n0 : ((w.alloc (.cells #[.slice As ns cs, .slice Ap np cp, .int .i64 dl, .bool ds] 25)).alloc (.cells #[.int .i64 ns] 3)).cell? ⟨w.heap.size + 1, 0, none⟩ = some (.int .i64 ns) := N.cell 0
    have N0 := Lib.hid n0
    have nz : w.heap.size + 1 < ((w.alloc (.cells #[.slice As ns cs, .slice Ap np cp, .int .i64 dl, .bool ds] 25)).alloc (.cells #[.int .i64 ns] 3)).heap.size := N.lt
    have NZ := Lib.hid nz
    obtain ⟨t, ht⟩ : ∃ t, (!d.pending.all (wrB ns)) = t := ⟨_, rfl⟩
    have HT := Lib.hid ht
    clear hb n0 nz ht N
    go_enter Try.func15, Try.ntmps15
    go_wp2_with fail
    refine (dCfW_any d.pending _ S _ t ns (w.heap.size + 1) N0.out NZ.out HT HD2.out.pending).mono ?_
    rintro e w1 ⟨rfl, hb⟩
    have X := X.later hb
    have HD3 := Lib.hid (HD2.out.keep (Keeps.of hb))
    have hst := hst.trans (hb.mono hst.size)
    clear hb
    rcases t with _ | _
    · have x0 : w1.cell? ⟨w.heap.size, 0, none⟩ = some (.slice As ns cs) := X.cell 0
      have xz := X.lt
      obtain ⟨u, hu⟩ : ∃ u, (!d.sectors.all secB) = u := ⟨_, rfl⟩
      have HU := Lib.hid hu
      clear hu
      go_wp2_with fail
      refine (dCfS_any d.sectors _ S _ u HU HD3.out.sectors).mono ?_
      rintro e w2 ⟨rfl, hb⟩
      have hst := hst.trans (hb.mono hst.size)
      have hok : Hid (d.okB = !u) := by
        have h1 := HT.out
        have h2 := HU.out
        rw [Hid, Dk.okB_eq, HBD.out, HNS.out, ← h2]
        rw [Bool.not_eq_false'] at h1
        rw [h1]
        simp
      clear hb x0 xz
      rcases u with _ | _
      · have hc := Lib.hid (check_good hok.out)
        go_wp2
        go_ret
        exact ⟨by rw [hc.out]; rfl, hst⟩
      · have hc := Lib.hid (check_bad hok.out)
        go_wp2
        go_ret
        exact ⟨by rw [hc.out]; rfl, hst⟩
    · have hc : Hid (d.checkT = 40) := check_bad (by
        have h1 := HT.out
        rw [Bool.not_eq_true'] at h1
        rw [Dk.okB_eq, HNS.out, h1]
        simp)
      go_wp2
      go_ret
      exact ⟨by rw [hc.out]; rfl, hst⟩

theorem dCheck_at {d : Dk} {Vs Vp : Value} {S : Nat → Prop} {w : World} {l : Int} {s : Bool} {c : Int} (hc : Hid (d.checkT = c)) (hD : DkAt w S Vs Vp d) (hl : d.left = l) (hs : d.stopped = s) :
    Calls Try.prog 15 #[dkV Vs Vp l s] w fun e w' => e = .returned (.int .i64 c) ∧ Below w.heap.size w w' := by
  subst hl hs
  exact (dCheck_any d Vs Vp S w hD).mono fun _ _ ⟨he, hb⟩ => ⟨by rw [he, hc.out], hb⟩
theorem runs_eq (d : Dk) : d.runs = (d.okB && !d.stopped) := rfl
theorem dRuns_any (d : Dk) (Vs Vp : Value) (S : Nat → Prop) (w : World) (hD : DkAt w S Vs Vp d) :
    Calls Try.prog 35 #[d.v Vs Vp] w fun e w' => e = .returned (.bool d.runs) ∧ Below w.heap.size w w' := by
  have hst := (Below.refl w.heap.size w).alloc (Nat.le_refl _) (.cells #[Vs, Vp, .int .i64 d.left, .bool d.stopped] 25)
  have X := Box.new w [Vs, Vp, .int .i64 d.left, .bool d.stopped] 25
  obtain ⟨As, cs, rfl, _⟩ := hD.sectors.form
  obtain ⟨Ap, cp, rfl, _⟩ := hD.pending.form
  have hr := runs_eq d
  obtain ⟨c, hc⟩ : ∃ c, d.checkT = c := ⟨_, rfl⟩
  have H := fun l s => dCheck_at (l := l) (s := s) (Lib.hid hc) (hD.keep (Keeps.of hst))
  have hck : (d.okB = true ∧ c = 0) ∨ (d.okB = false ∧ c = 40) := by
    rcases h : d.okB with _ | _
    · exact .inr ⟨rfl, by rw [← hc, check_bad h]⟩
    · exact .inl ⟨rfl, by rw [← hc, check_good h]⟩
  obtain ⟨ds, hds⟩ : ∃ k, d.stopped = k := ⟨_, rfl⟩
  obtain ⟨dl, hdl⟩ : ∃ k, d.left = k := ⟨_, rfl⟩
  rw [hds] at hr
  have H := Lib.hid (H dl ds hdl hds)
  rw [hr]
  show Calls Try.prog 35 #[.agg #[_, _, .int .i64 d.left, .bool d.stopped]] w _
  rw [hds, hdl] at X hst H ⊢
  generalize d.sectors.length = ns at X hst H hD ⊢
  generalize d.pending.length = np at X hst H hD ⊢
  clear hr hc hds hdl hD
  rcases hck with ⟨h1, rfl⟩ | ⟨h1, rfl⟩
  all_goals
    rw [h1]
    clear h1
    go_enter Try.func35, Try.ntmps35
    go_wp2_with fail
    refine H.out.mono ?_
    rintro e w1 ⟨rfl, hb⟩
    have X := X.later hb
    have hst := hst.trans (hb.mono hst.size)
    have x3 : w1.cell? ⟨w.heap.size, 3, none⟩ = some (.bool ds) := X.cell 3
    have xz := X.lt
    clear hb
    go_wp2
    go_ret
    exact ⟨by rfl, hst⟩
theorem dHas_any (d : Dk) (Vs Vp : Value) (i : Int) (S : Nat → Prop) (w : World) (hD : DkAt w S Vs Vp d) :
    Calls Try.prog 36 #[d.v Vs Vp, .int .i64 i] w fun e w' => e = .returned (.bool (d.hasB i)) ∧ Below w.heap.size w w' := by
  have hst := (Below.refl w.heap.size w).alloc (Nat.le_refl _) (.cells #[Vs, Vp, .int .i64 d.left, .bool d.stopped] 25)
  obtain ⟨As, cs, rfl, hm⟩ := hD.sectors.form
  rw [show d.hasB i = (decide (0 ≤ i) && decide (i < (d.sectors.length : Int))) from rfl]
  generalize d.sectors.length = ns at hst hm ⊢
  unfold maxLen at hm
  clear hD
  by_cases h : 0 ≤ i
  all_goals
    go_enter Try.func36, Try.ntmps36
    go_wp2
    go_ret
    refine ⟨?_, hst⟩
    first | (simp [h]; done) | (simp; omega)

end Go.Proofs.Ytdmeogkdoeaemaa
