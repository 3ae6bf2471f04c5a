/-
  Plain facts on disks: what stays valid. No condition.
-/
import Derived.Test.YtdmeogkdoeaemaaEC
namespace Go.Proofs.Ytdmeogkdoeaemaa
open Go.RowKit

theorem okB_of {d : Dk} (h1 : 1 ≤ d.sectors.length) (h2 : d.sectors.length ≤ 4096) (h3 : d.pending.length ≤ 4096) (h4 : -1 ≤ d.left) (h5 : d.left ≤ 65536) (h6 : ∀ x ∈ d.pending, 0 ≤ x.at' ∧ x.at' < (d.sectors.length : Int) ∧ x.data.length = 128) (h7 : ∀ x ∈ d.sectors, x.length = 128) : d.okB = true := by
  simp only [Dk.okB, boundsB, wrB, secB, Bool.and_eq_true, decide_eq_true_eq, List.all_eq_true]
  exact ⟨⟨h1, h2, h3, h4, h5⟩, fun x hx => ⟨⟨(h6 x hx).1, (h6 x hx).2.1⟩, (h6 x hx).2.2⟩, h7⟩
theorem runs_of {d : Dk} (h : d.okB = true) (hs : d.stopped = false) : d.runs = true := by rw [runs_eq, h, hs]; rfl
theorem hasB_of {d : Dk} {i : Int} (h1 : 0 ≤ i) (h2 : i < (d.sectors.length : Int)) : d.hasB i = true := by rw [Dk.hasB, decide_eq_true h1, decide_eq_true h2]; rfl
theorem padTo_length {b : Bs} (h : b.length ≤ 128) : (padTo b).length = 128 := by rw [padTo, List.length_append, List.length_replicate]; omega
theorem padTo_full {b : Bs} (h : b.length = 128) : padTo b = b := by rw [padTo, h]; simp
/-- A disk after a write. -/
def Dk.put (d : Dk) (i : Int) (b : Bs) : Dk := ⟨d.sectors, d.pending ++ [⟨i, padTo b⟩], d.left, d.stopped⟩
theorem write_eq {d : Dk} {i : Int} {b : Bs} (hr : d.runs = true) (hh : d.hasB i = true) (hb : b.length ≤ 128) (hp : d.pending.length ≠ 4096) : writeT d i b = (d.put i b, 0) := by rw [writeT, if_pos ⟨hr, hh⟩, if_pos hb, if_neg hp]; rfl
theorem put_ok {d : Dk} {i : Int} {b : Bs} (h : d.okB = true) (hh : d.hasB i = true) (hb : b.length ≤ 128) (hp : d.pending.length < 4096) : (d.put i b).okB = true := by
  obtain ⟨h1, h2, h3, h4, h5, h6, h7⟩ := okB_parts h
  obtain ⟨k1, k2⟩ := hasB_in hh
  refine okB_of h1 h2 (by rw [Dk.put, List.length_append]; simp; omega) h4 h5 (fun x hx => ?_) h7
  rcases List.mem_append.1 hx with hx | hx
  · exact h6 x hx
  · rw [List.mem_singleton.1 hx]; exact ⟨k1, k2, padTo_length hb⟩
theorem stop_eq {d : Dk} {k : Int} (hr : d.runs = true) (h0 : 0 ≤ k) (h1 : k ≤ 65536) : stopT d k = (⟨d.sectors, d.pending, k, d.stopped⟩, 0) := by rw [stopT, if_pos hr, if_pos ⟨h0, h1⟩]
theorem stop_ok {d : Dk} {k : Int} (h : d.okB = true) (h0 : 0 ≤ k) (h1 : k ≤ 65536) : (⟨d.sectors, d.pending, k, d.stopped⟩ : Dk).okB = true := by
  obtain ⟨k1, k2, k3, k4, k5, k6, k7⟩ := okB_parts h
  exact okB_of k1 k2 k3 (by show -1 ≤ k; omega) h1 k6 k7
theorem restart_ok {d : Dk} (h : d.okB = true) : (restartT d).okB = true := by
  obtain ⟨k1, k2, k3, k4, k5, k6, k7⟩ := okB_parts h
  exact okB_of k1 k2 (by simp [restartT]) (by simp [restartT]) (by simp [restartT]) (fun x hx => by cases hx) k7
theorem perf_rows {d : Dk} (h : d.okB = true) (j : Nat) : ∀ x ∈ perf d.sectors (d.pending.take j), x.length = 128 := by
  obtain ⟨k1, k2, k3, k4, k5, k6, k7⟩ := okB_parts h
  exact perf_len k7 (fun x hx => (k6 x (List.mem_of_mem_take hx)).2.2)
theorem perf_rows' {d : Dk} (h : d.okB = true) : ∀ x ∈ perf d.sectors d.pending, x.length = 128 := by
  have := perf_rows h d.pending.length
  rwa [List.take_length] at this
theorem tornS_length {d : Dk} : (tornS d).length = d.sectors.length := by rw [tornS, List.length_set, perf_length]
theorem tornS_rows {d : Dk} (h : d.okB = true) (ht : tearB d = true) : ∀ x ∈ tornS d, x.length = 128 := by
  obtain ⟨k1, k2, k3, k4, k5, k6, k7⟩ := okB_parts h
  obtain ⟨t1, t2⟩ : 0 ≤ d.left ∧ d.left < (d.pending.length : Int) := by simpa [tearB] using ht
  have hj : d.left.toNat < d.pending.length := by omega
  have hp := perf_rows h d.left.toNat
  intro x hx
  rw [tornS] at hx
  rcases List.mem_or_eq_of_mem_set hx with hx | hx
  · exact hp x hx
  · have e : d.pending.getD d.left.toNat Wr.zero = d.pending[d.left.toNat] := by rw [List.getD_eq_getElem?_getD, List.getElem?_eq_getElem hj]; rfl
    obtain ⟨m1, m2, m3⟩ := k6 _ (List.getElem_mem hj)
    rw [hx, List.length_append, List.length_take, List.length_drop, e, m3]
    have hl : (d.pending[d.left.toNat]).at'.toNat < (perf d.sectors (d.pending.take d.left.toNat)).length := by rw [perf_length]; omega
    rw [List.getD_eq_getElem?_getD, List.getElem?_eq_getElem hl]
    have := hp _ (List.getElem_mem hl)
    simp only [Option.getD_some, this]
    rfl
theorem sync_tear {d : Dk} (hr : d.runs = true) (ht : tearB d = true) : syncT d = (⟨tornS d, [], 0, true⟩, 40) := by rw [syncT, if_pos hr, if_pos ht]
/-- A disk after a sync that does not stop. -/
def Dk.synced (d : Dk) : Dk := ⟨perf d.sectors d.pending, [], if 0 ≤ d.left then d.left - (d.pending.length : Int) else d.left, false⟩
theorem sync_go {d : Dk} (hr : d.runs = true) (ht : tearB d = false) : syncT d = (d.synced, 0) := by rw [syncT, if_pos hr, if_neg (by rw [ht]; simp)]; rfl
theorem synced_ok {d : Dk} (h : d.okB = true) (ht : tearB d = false) : d.synced.okB = true := by
  obtain ⟨k1, k2, k3, k4, k5, k6, k7⟩ := okB_parts h
  have ht' : 0 ≤ d.left → (d.pending.length : Int) ≤ d.left := by
    intro h0
    have : decide (d.left < (d.pending.length : Int)) = false := by rw [tearB, decide_eq_true h0, Bool.true_and] at ht; exact ht
    have := of_decide_eq_false this
    omega
  refine okB_of (by rw [Dk.synced, perf_length]; exact k1) (by rw [Dk.synced, perf_length]; exact k2) (by simp [Dk.synced]) ?_ ?_ (fun x hx => by cases hx) (perf_rows' h)
  · show -1 ≤ (if 0 ≤ d.left then d.left - (d.pending.length : Int) else d.left)
    split
    · rename_i h0; have := ht' h0; omega
    · exact k4
  · show (if 0 ≤ d.left then d.left - (d.pending.length : Int) else d.left) ≤ 65536
    split <;> omega
theorem torn_ok {d : Dk} (h : d.okB = true) (ht : tearB d = true) : (⟨tornS d, [], 0, true⟩ : Dk).okB = true := by
  obtain ⟨k1, k2, k3, k4, k5, k6, k7⟩ := okB_parts h
  exact okB_of (by show 1 ≤ (tornS d).length; rw [tornS_length]; exact k1) (by show (tornS d).length ≤ 4096; rw [tornS_length]; exact k2) (by simp) (by show (-1 : Int) ≤ 0; decide) (by show (0 : Int) ≤ 65536; decide) (fun x hx => by cases hx) (tornS_rows h ht)
theorem read_eq {d : Dk} {i : Int} (hr : d.runs = true) (hh : d.hasB i = true) : readT d i = (lastW d.pending i (d.sectors.getD i.toNat []), 0) := by rw [readT, if_pos ⟨hr, hh⟩]
theorem new_eq {k : Int} (h1 : 1 ≤ k) (h2 : k ≤ 4096) : newT k = (⟨List.replicate k.toNat zeros, [], -1, false⟩, 0) := by rw [newT, if_pos ⟨h1, h2⟩]
theorem new_ok {k : Nat} (h1 : 1 ≤ k) (h2 : k ≤ 4096) : (⟨List.replicate k zeros, [], -1, false⟩ : Dk).okB = true :=
  okB_of (by simpa using h1) (by simpa using h2) (by simp) (by show (-1 : Int) ≤ -1; decide) (by show (-1 : Int) ≤ 65536; decide) (fun x hx => by cases hx) (fun x hx => by rw [List.eq_of_mem_replicate hx]; exact zeros_length)

/-- The disks of the example. -/
def e7 : Bs := padTo [7]
def eN : Dk := ⟨[zeros, zeros], [], -1, false⟩
def eW : Dk := ⟨[zeros, zeros], [⟨1, e7⟩], -1, false⟩
def eS : Dk := ⟨[zeros, zeros], [⟨1, e7⟩], 1, false⟩
def e8 : Bs := doubleB 8
def eS2 : Dk := ⟨[zeros, zeros], [⟨1, e7⟩, ⟨0, e8⟩], 1, false⟩
def eT : Bs := e8.take 64 ++ zeros.drop 64
def eX : Dk := ⟨[eT, e7], [], 0, true⟩
def eX2 : Dk := ⟨[eT, e7], [], -1, false⟩
theorem e7_length : e7.length = 128 := padTo_length (by decide)
theorem e8_length : e8.length = 128 := double_length 8
theorem eT_length : eT.length = 128 := by rw [eT, List.length_append, List.length_take, List.length_drop, e8_length, zeros_length]; rfl
theorem eN_ok : eN.okB = true := new_ok (k := 2) (by decide) (by decide)
theorem sane_new0 : newT 0 = (Dk.zero, 1) := by rw [newT, if_neg (by decide)]
theorem sane_new : newT 2 = (eN, 0) := new_eq (by decide) (by decide)
theorem sane_write : writeT eN 1 [7] = (eW, 0) := write_eq (runs_of eN_ok rfl) (hasB_of (by decide) (by decide)) (by decide) (by decide)
theorem eW_ok : eW.okB = true := put_ok (d := eN) (i := 1) (b := [7]) eN_ok (hasB_of (by decide) (by decide)) (by decide) (by decide)
theorem sane_read : readT eW 1 = (e7, 0) := read_eq (runs_of eW_ok rfl) (hasB_of (by decide) (by decide))
theorem sane_read2 : readT eN 2 = ([], 40) := by rw [readT, if_neg (by rintro ⟨_, h⟩; have := (hasB_in h).2; simp [eN] at this)]
theorem sane_long {b : Bs} (hb : b.length = 129) : writeT eN 0 b = (Dk.zero, 1) := by rw [writeT, if_pos ⟨runs_of eN_ok rfl, hasB_of (by decide) (by decide)⟩, if_neg (by omega)]
theorem sane_stop : stopT eW 1 = (eS, 0) := stop_eq (runs_of eW_ok rfl) (by decide) (by decide)
theorem eS_ok : eS.okB = true := stop_ok (d := eW) (k := 1) eW_ok (by decide) (by decide)
theorem sane_write2 : writeT eS 0 e8 = (eS2, 0) := by
  rw [write_eq (runs_of eS_ok rfl) (hasB_of (by decide) (by decide)) (by rw [e8_length]; decide) (by decide), Dk.put, padTo_full e8_length]
  rfl
theorem eS2_ok : eS2.okB = true := by
  have := put_ok (d := eS) (i := 0) (b := e8) eS_ok (hasB_of (by decide) (by decide)) (by rw [e8_length]; decide) (by decide)
  rw [Dk.put, padTo_full e8_length] at this
  exact this
theorem sane_sync : syncT eS2 = (eX, 40) := by
  rw [sync_tear (runs_of eS2_ok rfl) (by decide)]
  rfl
theorem eX_ok : eX.okB = true := torn_ok (d := eS2) eS2_ok (by decide)
theorem eX2_ok : eX2.okB = true := restart_ok (d := eX) eX_ok
theorem sane_one : readT eX2 1 = (e7, 0) := read_eq (runs_of eX2_ok rfl) (hasB_of (by decide) (by decide))
theorem sane_none : readT eX2 0 = (eT, 0) := read_eq (runs_of eX2_ok rfl) (hasB_of (by decide) (by decide))
theorem sane_lost : readT (restartT eW) 1 = (zeros, 0) := read_eq (runs_of (restart_ok eW_ok) rfl) (hasB_of (by decide) (by decide))
theorem zero_check : Dk.zero.checkT = 40 := by decide
theorem e7_0 : e7.getD 0 0 = 7 := rfl
theorem eT_0 : eT.getD 0 0 = 8 := by decide +kernel
theorem eT_64 : eT.getD 64 0 = 0 := by decide +kernel
theorem z_0 : zeros.getD 0 0 = 0 := rfl

end Go.Proofs.Ytdmeogkdoeaemaa
