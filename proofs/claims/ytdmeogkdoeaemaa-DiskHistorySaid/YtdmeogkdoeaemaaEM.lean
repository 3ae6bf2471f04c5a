/-
  Plain facts for DiskReads: what is read after a write and after a sync. No condition.
-/
import Derived.Test.YtdmeogkdoeaemaaEG
namespace Go.Proofs.Ytdmeogkdoeaemaa
open Go.RowKit

theorem perf_getD {l : List Wr} {s : List Bs} {k : Nat} (hl : ∀ x ∈ l, 0 ≤ x.at') (hk : k < s.length) : (perf s l).getD k [] = lastW l k (s.getD k []) := by
  induction l generalizing s with
  | nil => rfl
  | cons x l ih =>
    rw [perf_cons, ih (fun y hy => hl y (List.mem_cons_of_mem _ hy)) (by rw [List.length_set]; exact hk), lastW, lastW, List.foldl_cons]
    congr 1
    have h0 := hl x List.mem_cons_self
    by_cases h : x.at' = (k : Int)
    · rw [if_pos h]
      have : x.at'.toNat = k := by omega
      rw [this, List.getD_eq_getElem?_getD, List.getElem?_set_self hk]
      rfl
    · rw [if_neg h]
      have : x.at'.toNat ≠ k := by omega
      rw [List.getD_eq_getElem?_getD, List.getElem?_set_ne this, List.getD_eq_getElem?_getD]
theorem rows_read {d : Dk} (h : d.okB = true) {o : Int} (ho : d.hasB o = true) : (lastW d.pending o (d.sectors.getD o.toNat [])).length = 128 := by
  obtain ⟨k1, k2, k3, k4, k5, k6, k7⟩ := okB_parts h
  obtain ⟨h1, h2⟩ := hasB_in ho
  have hk : o.toNat < d.sectors.length := by omega
  have h0 : (d.sectors.getD o.toNat []).length = 128 := by
    rw [List.getD_eq_getElem?_getD, List.getElem?_eq_getElem hk]
    exact k7 _ (List.getElem_mem hk)
  generalize d.sectors.getD o.toNat [] = s0 at h0
  revert h0 s0
  generalize d.pending = l at k6
  induction l with
  | nil => intro s0 h0; exact h0
  | cons x l ih =>
    intro s0 h0
    rw [lastW, List.foldl_cons]
    refine ih (fun y hy => k6 y (List.mem_cons_of_mem _ hy)) _ ?_
    split
    · exact (k6 x List.mem_cons_self).2.2
    · exact h0
theorem readable {d : Dk} (h : d.okB = true) (hs : d.stopped = false) {o : Int} (ho : d.hasB o = true) : ∃ b0, readT d o = (b0, 0) ∧ b0.length = 128 := ⟨_, read_eq (runs_of h hs) ho, rows_read h ho⟩
theorem put_has (d : Dk) (i o : Int) (b : Bs) : (d.put i b).hasB o = d.hasB o := rfl
theorem read_put_same {d : Dk} {i : Int} {b : Bs} (h : (d.put i b).okB = true) (hs : d.stopped = false) (hi : d.hasB i = true) : readT (d.put i b) i = (padTo b, 0) := by
  rw [read_eq (runs_of h hs) (show (d.put i b).hasB i = true from hi)]
  show (lastW (d.pending ++ [⟨i, padTo b⟩]) i _, (0 : Int)) = _
  rw [lastW_snoc, if_pos rfl]
theorem read_put_other {d : Dk} {i o : Int} {b : Bs} (h0 : d.okB = true) (h : (d.put i b).okB = true) (hs : d.stopped = false) (ho : d.hasB o = true) (hne : i ≠ o) : readT (d.put i b) o = readT d o := by
  rw [read_eq (runs_of h hs) (show (d.put i b).hasB o = true from ho), read_eq (runs_of h0 hs) ho]
  show (lastW (d.pending ++ [⟨i, padTo b⟩]) o _, (0 : Int)) = _
  rw [lastW_snoc, if_neg hne]
  rfl
theorem read_synced {d : Dk} (h : d.okB = true) (hs : d.stopped = false) (ht : tearB d = false) {k : Nat} (hk : k < d.sectors.length) : readT d.synced k = readT d k := by
  have hk2 : d.hasB k = true := hasB_of (by omega) (by omega)
  have hk3 : d.synced.hasB k = true := hasB_of (by omega) (by show (k : Int) < ((perf d.sectors d.pending).length : Int); rw [perf_length]; omega)
  rw [read_eq (runs_of (synced_ok h ht) rfl) hk3, read_eq (runs_of h hs) hk2]
  show ((perf d.sectors d.pending).getD ((k : Int).toNat) [], (0 : Int)) = _
  rw [Int.toNat_natCast, perf_getD (fun x hx => ((okB_parts h).2.2.2.2.2.1 x hx).1) hk]
theorem take_pad {b : Bs} {n : Nat} (h : b.length = n) : (padTo b).take n = b := by rw [padTo, ← h]; simp
theorem read_fails {d : Dk} {o : Int} (h : d.runs = false ∨ d.hasB o = false) : readT d o = ([], 40) := by
  rw [readT, if_neg]
  rintro ⟨h1, h2⟩
  rcases h with h | h
  · rw [h] at h1; cases h1
  · rw [h] at h2; cases h2

end Go.Proofs.Ytdmeogkdoeaemaa
