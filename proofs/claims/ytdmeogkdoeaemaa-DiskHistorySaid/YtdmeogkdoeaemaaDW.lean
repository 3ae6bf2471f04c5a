/-
  Contract of Few of the reference of chapter 4. No condition.
-/
import Derived.Test.YtdmeogkdoeaemaaDV
namespace Go.Proofs.Ytdmeogkdoeaemaa
open Go.RowKit

theorem sumB_take {l : List Bs} {k : Nat} (hk : k < l.length) : sumB (l.take (k + 1)) = sumB (l.take k) + ((l[k]).length + 1) := by
  rw [List.take_succ_eq_append_getElem hk]
  generalize l.take k = m
  induction m with
  | nil => simp [sumB]
  | cons x m ih => simp only [List.cons_append, sumB, List.foldr_cons] at ih ⊢; omega
theorem sumB_le {l : List Bs} {k : Nat} : sumB (l.take k) ≤ sumB l := by
  induction l generalizing k with
  | nil => simp [sumB]
  | cons x l ih =>
    rcases k with _ | k
    · simp [sumB]
    · have := ih (k := k)
      simp only [List.take_succ_cons, sumB, List.foldr_cons] at this ⊢
      omega
theorem sumW_take {l : List Wr} {k : Nat} (hk : k < l.length) : sumW (l.take (k + 1)) = sumW (l.take k) + ((l[k]).data.length + 1) := by
  rw [List.take_succ_eq_append_getElem hk]
  generalize l.take k = m
  induction m with
  | nil => simp [sumW]
  | cons x m ih => simp only [List.cons_append, sumW, List.foldr_cons] at ih ⊢; omega
theorem sumW_le {l : List Wr} {k : Nat} : sumW (l.take k) ≤ sumW l := by
  induction l generalizing k with
  | nil => simp [sumW]
  | cons x l ih =>
    rcases k with _ | k
    · simp [sumW]
    · have := ih (k := k)
      simp only [List.take_succ_cons, sumW, List.foldr_cons] at this ⊢
      omega
/-- The byte slices are no longer than memory lets them be. -/
def Dk.small (d : Dk) : Prop := (∀ x ∈ d.sectors, x.length ≤ 140737488351232) ∧ ∀ x ∈ d.pending, x.data.length ≤ 140737488351232
theorem few_len {d : Dk} (h : fewB d = true) : sumB d.sectors + sumW d.pending ≤ 9000 := of_decide_eq_true h
set_option maxRecDepth 100000 in
set_option maxHeartbeats 8000000 in
theorem dFew_any (d : Dk) (Vs Vp : Value) (S : Nat → Prop) (w : World) (hD : DkAt w S Vs Vp d) (hsm : Hid d.small) :
    Calls Try.prog 11 #[d.v Vs Vp] w fun e w' => e = .returned (.bool (fewB d)) ∧ Below w.heap.size w w' := by
  obtain ⟨As, cs, rfl, hms⟩ := hD.sectors.form
  obtain ⟨Ap, cp, rfl, hmp⟩ := hD.pending.form
  unfold maxLen at hms hmp
  obtain ⟨ns, hns⟩ : ∃ k, d.sectors.length = k := ⟨_, rfl⟩
  obtain ⟨np, hnp⟩ : ∃ k, d.pending.length = k := ⟨_, rfl⟩
  obtain ⟨dl, hdl⟩ : ∃ k, d.left = k := ⟨_, rfl⟩
  obtain ⟨ds, hds⟩ : ∃ k, d.stopped = k := ⟨_, rfl⟩
  rw [hns] at hms
  rw [hnp] at hmp
  rw [hns, hnp] at hD
  show Calls Try.prog 11 #[.agg #[.slice As d.sectors.length cs, .slice Ap d.pending.length cp, .int .i64 d.left, .bool d.stopped]] w _
  rw [hns, hnp, hdl, hds]
  have HNS := Lib.hid hns
  have HNP := Lib.hid hnp
  have hst := (Below.refl w.heap.size w).alloc (Nat.le_refl _) (.cells #[.slice As ns cs, .slice Ap np cp, .int .i64 dl, .bool ds] 25)
  have X := Box.new w [.slice As ns cs, .slice Ap np cp, .int .i64 dl, .bool ds] 25
  have HD1 := Lib.hid (hD.keep (Keeps.of hst))
  have xz := X.lt
  obtain ⟨sb, hsb⟩ : ∃ sb, sumB d.sectors = sb := ⟨_, rfl⟩
  obtain ⟨sw, hsw⟩ : ∃ sw, sumW d.pending = sw := ⟨_, rfl⟩
  have HSB := Lib.hid hsb
  have HSW := Lib.hid hsw
  have hfe : Hid (fewB d = decide ((sb : Int) + (sw : Int) ≤ 9000)) := by
    rw [Hid, fewB, hsb, hsw]
    exact decide_eq_decide.2 (by omega)
  clear hns hnp hdl hds hD hsb hsw
  go_enter Try.func11, Try.ntmps11
  go_wp2
  generalize w.alloc (.cells #[.slice As ns cs, .slice Ap np cp, .int .i64 dl, .bool ds] 25) = w1 at hst X HD1 xz ⊢
  have x0 : w1.cell? ⟨w.heap.size, 0, none⟩ = some (.slice As ns cs) := X.cell 0
  have x1 : w1.cell? ⟨w.heap.size, 1, none⟩ = some (.slice Ap np cp) := X.cell 1
  go_loop [3, 4] (fun n i => ∃ k m : Nat, k ≤ ns ∧ i = .int .i64 k ∧ n = .int .i64 m ∧ Hid (m = sumB (d.sectors.take k)) ∧ m ≤ sb) (fun _ i => ns - (intOf i).toNat)
  case atStart => exact ⟨0, 0, by omega, rfl, rfl, rfl, by omega⟩
  case round =>
    obtain ⟨k, m, hk, rfl, rfl, hm, hms'⟩ := hrel
    by_cases hlt : k < ns ∧ m ≤ 9000
    · obtain ⟨hlt, hm9⟩ := hlt
      have hkl : k < d.sectors.length := by rw [HNS.out]; exact hlt
      obtain ⟨b, off, V, rfl, hS, hbw, q0, hV⟩ := HD1.out.sectors.row hkl
      have htk := sumB_take hkl
      have hle := sumB_le (l := d.sectors) (k := k + 1)
      obtain ⟨Ay, cy, rfl, hmy⟩ := hV.form
      obtain ⟨y, hy⟩ : ∃ y, (d.sectors[k]).length = y := ⟨_, rfl⟩
      rw [hy] at htk hmy q0
      unfold maxLen at hmy
      have hm2 : Hid (m + 1 + y = sumB (d.sectors.take (k + 1))) := by rw [Hid, htk, hm.out]; omega
      have hle2 : m + 1 + y ≤ sb := by rw [hm2.out, ← HSB.out]; exact hle
      have hcs : (k : Int) < (ns : Int) := by omega
      have hm9' : (m : Int) ≤ 9000 := by omega
      have hsz : (m : Int) + 1 + (y : Int) ≤ 9223372036854775807 := by
        have : y ≤ 140737488351232 := by rw [← hy]; exact hsm.out.1 _ (List.getElem_mem hkl)
        omega
      clear hy hV htk hle
      go_wp2
      refine ⟨⟨k + 1, m + 1 + y, by omega, by go_num, by go_num, hm2, hle2⟩, by simp [intOf]; omega⟩
    · have HE : Hid (¬ (k < ns ∧ m ≤ 9000)) := Lib.hid hlt
      have hend : Hid (9000 < m ∨ (m = sb ∧ k = ns)) := by
        rw [Hid]
        rcases Nat.lt_or_ge 9000 m with h | h
        · exact .inl h
        · have hkn : k = ns := by omega
          have h2 := hm.out
          rw [hkn, ← HNS.out, List.take_length, HSB.out] at h2
          exact .inr ⟨h2, hkn⟩
      have hx : (k < ns ∧ 9000 < m) ∨ ns ≤ k := by
        rcases hend.out with h | h <;> omega
      clear hlt HE
      rcases hx with ⟨hx1, hx2⟩ | hx
      all_goals
        go_wp2
        go_loop [3, 5] (fun n i => ∃ j t : Nat, j ≤ np ∧ i = .int .i64 j ∧ n = .int .i64 t ∧ Hid (t = m + sumW (d.pending.take j)) ∧ t ≤ m + sw) (fun _ i => np - (intOf i).toNat)
        case atStart => exact ⟨0, m, by omega, rfl, rfl, by rw [Hid]; simp [sumW], by omega⟩
        case round =>
          obtain ⟨j, t, hj, rfl, rfl, ht, hts⟩ := hrel
          by_cases hlt : j < np ∧ t ≤ 9000
          · obtain ⟨hlt, ht9⟩ := hlt
            have hjl : j < d.pending.length := by rw [HNP.out]; exact hlt
            obtain ⟨b, off, V, rfl, hS, hbw, q0, q1, hV⟩ := HD1.out.pending.wr hjl
            have htk := sumW_take hjl
            have hle := sumW_le (l := d.pending) (k := j + 1)
            obtain ⟨Ay, cy, rfl, hmy⟩ := hV.form
            obtain ⟨y, hy⟩ : ∃ y, (d.pending[j]).data.length = y := ⟨_, rfl⟩
            rw [hy] at htk hmy q1
            unfold maxLen at hmy
            have hm2 : Hid (t + 1 + y = m + sumW (d.pending.take (j + 1))) := by rw [Hid, htk, ht.out]; omega
            have hle2 : t + 1 + y ≤ m + sw := by rw [hm2.out, ← HSW.out]; omega
            have hcs : (j : Int) < (np : Int) := by omega
            have hm9' : (t : Int) ≤ 9000 := by omega
            have hsz : (t : Int) + 1 + (y : Int) ≤ 9223372036854775807 := by
              have : y ≤ 140737488351232 := by rw [← hy]; exact hsm.out.2 _ (List.getElem_mem hjl)
              omega
            clear hy hV htk hle
            go_wp2
            refine ⟨⟨j + 1, t + 1 + y, by omega, by go_num, by go_num, hm2, hle2⟩, by simp [intOf]; omega⟩
          · have hfin : Hid (decide ((t : Int) ≤ 9000) = fewB d) := by
              rw [Hid, hfe.out]
              refine decide_eq_decide.2 ?_
              have hle := sumW_le (l := d.pending) (k := j)
              rw [HSW.out] at hle
              have h1 := ht.out
              rcases hend.out with h | h
              · constructor
                · intro h2; omega
                · intro h2; omega
              · constructor
                · intro h2
                  have hjn : j = np := by omega
                  rw [hjn, ← HNP.out, List.take_length, HSW.out] at h1
                  omega
                · intro h2; omega
            have hx3 : (j < np ∧ 9000 < t) ∨ np ≤ j := by omega
            clear hlt
            rcases hx3 with ⟨hx3, hx4⟩ | hx3
            all_goals
              go_wp2
              all_goals (go_ret; refine ⟨?_, hst⟩; first | (rw [← hfin.out]; rfl) | (rw [← hfin.out]; congr 2; simp; omega) | (rw [← hfin.out, hx2]; rfl))

end Go.Proofs.Ytdmeogkdoeaemaa
