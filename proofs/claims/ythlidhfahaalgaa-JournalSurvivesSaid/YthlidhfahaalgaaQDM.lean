/-
  Contract of the reference's Check of chapter 4. No condition.
-/
import Derived.Test.YthlidhfahaalgaaQDJ
namespace Go.Proofs.Ythlidhfahaalgaa
open Go.RowKit

theorem okB_bad1 {d : Dk} (h : d.sectors.all secB = false) : d.checkT = 40 := check_bad (by rw [Dk.okB_eq, h]; simp)
theorem okB_bad2 {d : Dk} (h : d.pending.all (wrB d.sectors.length) = false) : d.checkT = 40 := check_bad (by rw [Dk.okB_eq, h]; simp)
set_option maxRecDepth 100000 in
set_option maxHeartbeats 8000000 in
theorem dRCheck_any (d : Dk) (Vs Vp : Value) (S : Nat → Prop) (w : World) (hD : DkAt w S Vs Vp d) :
    Calls Try.prog 33 #[d.v Vs Vp] w fun e w' => e = .returned (.int .i64 d.checkT) ∧ Below w.heap.size w w' := by
  obtain ⟨As, cs, rfl, hms⟩ := hD.sectors.form
  obtain ⟨Ap, cp, rfl, hmp⟩ := hD.pending.form
  unfold maxLen at hms hmp
  obtain ⟨ns, hns⟩ : ∃ k, d.sectors.length = k := ⟨_, rfl⟩
  obtain ⟨np, hnp⟩ : ∃ k, d.pending.length = k := ⟨_, rfl⟩
  obtain ⟨dl, hdl⟩ : ∃ k, d.left = k := ⟨_, rfl⟩
  obtain ⟨ds, hds⟩ : ∃ k, d.stopped = k := ⟨_, rfl⟩
  have hbi := boundsB_iff d
  rw [hns, hnp, hdl] at hbi
  rw [hns] at hms
  rw [hnp] at hmp
  rw [hns, hnp] at hD
  show Calls Try.prog 33 #[.agg #[.slice As d.sectors.length cs, .slice Ap d.pending.length cp, .int .i64 d.left, .bool d.stopped]] w _
  rw [hns, hnp, hdl, hds]
  have HNS := Lib.hid hns
  have HNP := Lib.hid hnp
  have HD := Lib.hid hD
  clear hns hnp hdl hds hD
  have hst := (Below.refl w.heap.size w).alloc (Nat.le_refl _) (.cells #[.slice As ns cs, .slice Ap np cp, .int .i64 dl, .bool ds] 25)
  rcases hb : boundsB d with _ | _
  · rw [check_bad (by rw [Dk.okB_eq, hb]; rfl)]
    rw [hb] at hbi
    have hn : ns < 1 ∨ 4096 < ns ∨ 4096 < np ∨ dl < -1 ∨ 65536 < dl := by
      have := mt hbi.2 (by simp)
      omega
    clear hbi hb
    rcases hn with h | h | h | h | h
    all_goals
      go_enter Try.func33, Try.ntmps33
      go_wp2
      all_goals (go_ret; exact ⟨rfl, hst⟩)
  · rw [hb] at hbi
    obtain ⟨h1, h2, h3, h4, h5⟩ := hbi.1 rfl
    have HBD := Lib.hid hb
    have X := Box.new w [.slice As ns cs, .slice Ap np cp, .int .i64 dl, .bool ds] 25
    have HD1 := Lib.hid (HD.out.keep (Keeps.of hst))
    have xz := X.lt
    clear hbi hb
    go_enter Try.func33, Try.ntmps33
    go_wp2
    generalize w.alloc (.cells #[.slice As ns cs, .slice Ap np cp, .int .i64 dl, .bool ds] 25) = w1 at hst X HD1 xz ⊢
    have x0 : w1.cell? ⟨w.heap.size, 0, none⟩ = some (.slice As ns cs) := X.cell 0
    go_loop [4] (fun i => ∃ k : Nat, k ≤ ns ∧ i = .int .i64 k ∧ Hid ((d.sectors.take k).all secB = true)) (fun i => ns - (intOf i).toNat)
    case atStart => exact ⟨0, by omega, rfl, rfl⟩
    case round =>
      obtain ⟨k, hk, rfl, hall⟩ := hrel
      by_cases hlt : k < ns
      · have hkl : k < d.sectors.length := by rw [HNS.out]; exact hlt
        obtain ⟨b, off, V, rfl, hS, hbw, q0, hV⟩ := HD1.out.sectors.row hkl
        have htk := allTake d.sectors secB hkl
        have hbad := allBad (f := secB) hkl
        obtain ⟨y, hy⟩ : ∃ y, d.sectors[k] = y := ⟨_, rfl⟩
        rw [hy] at hV htk hbad
        rw [hall.out, Bool.true_and] at htk
        obtain ⟨Ay, cy, rfl, hmy⟩ := hV.form
        have hsb : secB y = decide ((y.length : Int) = 128) := by rw [secB]; exact decide_eq_decide.2 (by omega)
        unfold maxLen at hmy
        have htk := Lib.hid htk
        have hbad := Lib.hid hbad
        have hsb := Lib.hid hsb
        have hcs : (k : Int) < (ns : Int) := by omega
        clear hy hV
        obtain ⟨n, hn⟩ : ∃ n, y.length = n := ⟨_, rfl⟩
        rw [hn] at hmy q0 hsb
        clear hn
        by_cases hc : (n : Int) = 128
        · go_wp2
          refine ⟨⟨k + 1, by omega, by go_num, by rw [Hid, htk.out, hsb.out]; exact decide_eq_true hc⟩, by simp [intOf]; omega⟩
        · have hF := Lib.hid (okB_bad1 (hbad.out (by rw [hsb.out]; exact decide_eq_false hc)))
          have hc2 : ((n : Int) != 128) = true := by simpa using hc
          go_wp2
          go_ret
          exact ⟨by rw [hF.out]; rfl, hst⟩
      · obtain rfl : ns = k := by omega
        have hall1 : Hid (d.sectors.all secB = true) := by
          have := hall.out
          rw [← HNS.out, List.take_length] at this
          exact this
        have HP := Lib.hid HD1.out.pending
        clear HD1 x0 hall
        go_wp2
        go_loopw [5] (fun i wr => ∃ k : Nat, k ≤ np ∧ i = .int .i64 k ∧ Below w1.heap.size w1 wr ∧ Hid ((d.pending.take k).all (wrB d.sectors.length) = true)) (fun i _ => np - (intOf i).toNat)
        case atStart => exact ⟨0, by omega, rfl, Below.refl _ _, rfl⟩
        case round =>
          obtain ⟨j, hj, rfl, hb, hall⟩ := hrel
          have X' := X.later hb
          have x1 : wr.cell? ⟨w.heap.size, 1, none⟩ = some (.slice Ap np cp) := X'.cell 1
          have xz' := X'.lt
          by_cases hlt : j < np
          · have hjl : j < d.pending.length := by rw [HNP.out]; exact hlt
            obtain ⟨b, off, V, rfl, hS, hbw, q0, q1, hV⟩ := HP.out.wr hjl
            have q0 := (hb.cell hbw).trans q0
            have q1 := (hb.cell hbw).trans q1
            have htk := allTake d.pending (wrB d.sectors.length) hjl
            have hbad := allBad (f := wrB d.sectors.length) hjl
            obtain ⟨⟨xa, xd⟩, hy⟩ : ∃ y, d.pending[j] = y := ⟨_, rfl⟩
            rw [hy] at q0 hV htk hbad
            rw [hall.out, Bool.true_and] at htk
            dsimp only at q0 hV
            rw [wrB_eq] at htk hbad
            obtain ⟨Ay, cy, rfl, hmy⟩ := hV.form
            unfold maxLen at hmy
            obtain ⟨n, hn⟩ : ∃ n, xd.length = n := ⟨_, rfl⟩
            rw [hn] at hmy q1 htk hbad
            rw [HNS.out] at htk hbad
            have htk := Lib.hid htk
            have hbad := Lib.hid hbad
            have hcs : (j : Int) < (np : Int) := by omega
            clear hn hy hV
            have hb2 := hb.alloc hb.size (.cells #[.int .i64 xa, .slice Ay n cy] 76)
            by_cases c1 : 0 ≤ xa
            · by_cases c2 : xa < (ns : Int)
              · by_cases c3 : (n : Int) = 128
                · go_wp2
                  refine ⟨⟨j + 1, by omega, by go_num, hb2, ?_⟩, by simp [intOf]; omega⟩
                  rw [Hid, HNS.out, htk.out, decide_eq_true c1, decide_eq_true c2, decide_eq_true c3]
                  rfl
                · have hF : Hid (d.checkT = 40) := okB_bad2 (by rw [HNS.out]; exact hbad.out (by rw [decide_eq_false c3]; simp))
                  have hc2 : ((n : Int) != 128) = true := by simpa using c3
                  go_wp2
                  go_ret
                  exact ⟨by rw [hF.out]; rfl, hst.trans (hb2.mono hst.size)⟩
              · have hF : Hid (d.checkT = 40) := okB_bad2 (by rw [HNS.out]; exact hbad.out (by rw [decide_eq_false c2]; simp))
                go_wp2
                go_ret
                exact ⟨by rw [hF.out]; rfl, hst.trans (hb2.mono hst.size)⟩
            · have hF : Hid (d.checkT = 40) := okB_bad2 (by rw [HNS.out]; exact hbad.out (by rw [decide_eq_false c1]; simp))
              go_wp2
              go_ret
              exact ⟨by rw [hF.out]; rfl, hst.trans (hb2.mono hst.size)⟩
          · obtain rfl : j = np := by omega
            have hF : Hid (d.checkT = 0) := check_good (by
              have := hall.out
              rw [← HNP.out, List.take_length] at this
              rw [Dk.okB_eq, HBD.out, this, hall1.out]; rfl)
            go_wp2
            go_ret
            exact ⟨by rw [hF.out]; rfl, hst.trans (hb.mono hst.size)⟩
theorem dRCheck_at {d : Dk} {Vs Vp : Value} {S : Nat → Prop} {w : World} {l : Int} {s : Bool} {c : Int} (hc : Hid (d.checkT = c)) (hD : DkAt w S Vs Vp d) (hl : Hid (d.left = l)) (hs : Hid (d.stopped = s)) :
    Calls Try.prog 33 #[.agg #[Vs, Vp, .int .i64 l, .bool s]] w fun e w' => e = .returned (.int .i64 c) ∧ Below w.heap.size w w' := by
  rw [← hl.out, ← hs.out]
  exact (dRCheck_any d Vs Vp S w hD).mono fun _ _ ⟨he, hb⟩ => ⟨by rw [he, hc.out], hb⟩

end Go.Proofs.Ythlidhfahaalgaa
