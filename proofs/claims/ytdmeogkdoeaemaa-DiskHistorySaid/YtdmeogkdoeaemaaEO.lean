/-
  Plain facts for DiskTogether: syncing after each write, and after the last. No condition.
-/
import Derived.Test.YtdmeogkdoeaemaaEE
import Derived.Test.YtdmeogkdoeaemaaDE
namespace Go.Proofs.Ytdmeogkdoeaemaa
open Go.RowKit

/-- The disk with the first k writes waiting. -/
def Dk.wait (d : Dk) (P : List Wr) (k : Nat) : Dk := ⟨d.sectors, P.take k, d.left, false⟩
/-- What syncing after each of the first k writes comes to. -/
def eachT (d : Dk) (P : List Wr) (k : Nat) : Dk × Int := syncT (d.wait P k)
def WrOk (d : Dk) (P : List Wr) : Prop := ∀ x ∈ P, 0 ≤ x.at' ∧ x.at' < (d.sectors.length : Int) ∧ x.data.length = 128
theorem wait_ok {d : Dk} {P : List Wr} (h : d.okB = true) (hP : WrOk d P) (hn : P.length ≤ 4096) (k : Nat) : (d.wait P k).okB = true := by
  obtain ⟨k1, k2, k3, k4, k5, k6, k7⟩ := okB_parts h
  exact okB_of k1 k2 (by show (P.take k).length ≤ 4096; rw [List.length_take]; omega) k4 k5 (fun x hx => hP x (List.mem_of_mem_take hx)) k7
theorem wait_runs {d : Dk} {P : List Wr} (h : d.okB = true) (hP : WrOk d P) (hn : P.length ≤ 4096) (k : Nat) : (d.wait P k).runs = true := runs_of (wait_ok h hP hn k) rfl
theorem wait_tear {d : Dk} {P : List Wr} {k : Nat} (hk : k ≤ P.length) : tearB (d.wait P k) = (decide (0 ≤ d.left) && decide (d.left < (k : Int))) := by
  have e : (P.take k).length = k := by rw [List.length_take]; omega
  show (decide (0 ≤ d.left) && decide (d.left < ((P.take k).length : Int))) = _
  rw [e]
theorem each_go {d : Dk} {P : List Wr} {k : Nat} (h : d.okB = true) (hP : WrOk d P) (hn : P.length ≤ 4096) (hk : k ≤ P.length) (hl : d.left < 0 ∨ (k : Int) ≤ d.left) : eachT d P k = (⟨perf d.sectors (P.take k), [], if 0 ≤ d.left then d.left - (k : Int) else d.left, false⟩, 0) := by
  have ht : tearB (d.wait P k) = false := by
    rw [wait_tear hk]
    rcases hl with hl | hl
    · rw [decide_eq_false (by omega)]; rfl
    · rw [decide_eq_false (p := d.left < (k : Int)) (by omega), Bool.and_false]
  rw [eachT, sync_go (wait_runs h hP hn k) ht]
  have e : (P.take k).length = k := by rw [List.length_take]; omega
  show ((⟨perf d.sectors (P.take k), [], if 0 ≤ d.left then d.left - ((P.take k).length : Int) else d.left, false⟩ : Dk), (0 : Int)) = _
  rw [e]
theorem tornS_wait {d : Dk} {P : List Wr} {k j : Nat} (hj : d.left = (j : Int)) (hk : j < k) : tornS (d.wait P k) = tornS (d.wait P (j + 1)) := by
  have e1 : (d.wait P k).left.toNat = j := by show d.left.toNat = j; omega
  have e2 : (d.wait P (j + 1)).left.toNat = j := by show d.left.toNat = j; omega
  have e3 : (P.take k).take j = (P.take (j + 1)).take j := by rw [List.take_take, List.take_take]; congr 1; omega
  have e4 : (P.take k).getD j Wr.zero = (P.take (j + 1)).getD j Wr.zero := by
    simp only [List.getD_eq_getElem?_getD, List.getElem?_take, if_pos hk, if_pos (Nat.lt_succ_self j)]
  unfold tornS
  rw [e1, e2]
  show (let x := (P.take k).getD j Wr.zero; let s := perf d.sectors ((P.take k).take j); s.set x.at'.toNat (x.data.take 64 ++ (s.getD x.at'.toNat []).drop 64)) = _
  rw [e3, e4]
  rfl
theorem each_torn {d : Dk} {P : List Wr} {k j : Nat} (h : d.okB = true) (hP : WrOk d P) (hn : P.length ≤ 4096) (hk : k ≤ P.length) (hj : d.left = (j : Int)) (hl : j < k) : eachT d P k = (⟨tornS (d.wait P (j + 1)), [], 0, true⟩, 40) := by
  have ht : tearB (d.wait P k) = true := by
    rw [wait_tear hk, decide_eq_true (by omega), decide_eq_true (p := d.left < (k : Int)) (by omega)]
    rfl
  rw [eachT, sync_tear (wait_runs h hP hn k) ht, tornS_wait hj hl]
theorem each_zero {d : Dk} {P : List Wr} (h : d.okB = true) (hp : d.pending = []) (hs : d.stopped = false) (hP : WrOk d P) (hn : P.length ≤ 4096) : eachT d P 0 = (d, 0) := by
  rw [each_go h hP hn (Nat.zero_le _) (by omega)]
  obtain ⟨a, b, c, e⟩ := d
  dsimp only at hp hs
  subst hp hs
  have e : (if 0 ≤ c then c - ((0 : Nat) : Int) else c) = c := by split <;> omega
  rw [e]
  rfl
/-- One more write, and a sync. -/
theorem each_step {d : Dk} {P : List Wr} {k : Nat} {w : Wr} (h : d.okB = true) (hP : WrOk d P) (hn : P.length ≤ 4096) (hk : k < P.length) (hl : d.left < 0 ∨ (k : Int) ≤ d.left) (hw : P[k] = w) : syncT ⟨(eachT d P k).1.sectors, [w], (eachT d P k).1.left, false⟩ = eachT d P (k + 1) := by
  have hok := synced_ok (wait_ok h hP hn k) (by
    rw [wait_tear (Nat.le_of_lt hk)]
    rcases hl with hl | hl
    · rw [decide_eq_false (by omega)]; rfl
    · rw [decide_eq_false (p := d.left < (k : Int)) (by omega), Bool.and_false])
  obtain ⟨k1, k2, k3, k4, k5, k6, k7⟩ := okB_parts h
  have hwk := hP w (by rw [← hw]; exact List.getElem_mem hk)
  rw [each_go h hP hn (Nat.le_of_lt hk) hl]
  dsimp only
  have hzl : -1 ≤ (if 0 ≤ d.left then d.left - (k : Int) else d.left) ∧ (if 0 ≤ d.left then d.left - (k : Int) else d.left) ≤ 65536 := by split <;> omega
  have hz : (⟨perf d.sectors (P.take k), [w], if 0 ≤ d.left then d.left - (k : Int) else d.left, false⟩ : Dk).okB = true :=
    okB_of (by rw [perf_length]; exact k1) (by rw [perf_length]; exact k2) (by simp) hzl.1 hzl.2 (fun x hx => by rw [List.mem_singleton.1 hx, perf_length]; exact hwk) (perf_len k7 fun x hx => (hP x (List.mem_of_mem_take hx)).2.2)
  rcases Classical.em (d.left = (k : Int)) with hlk | hlk
  · rw [each_torn h hP hn hk hlk (Nat.lt_succ_self k), sync_tear (runs_of hz rfl) (by
      rw [tearB]
      dsimp only
      rw [if_pos (by omega), decide_eq_true (by omega), decide_eq_true (by simp; omega)]
      rfl)]
    have e1 : (if 0 ≤ d.left then d.left - (k : Int) else d.left).toNat = 0 := by rw [if_pos (by omega)]; omega
    have e2 : (d.wait P (k + 1)).left.toNat = k := by show d.left.toNat = k; omega
    have e3 : (P.take (k + 1)).take k = P.take k := by rw [List.take_take]; congr 1; omega
    have e4 : (P.take (k + 1)).getD k Wr.zero = w := by
      simp only [List.getD_eq_getElem?_getD, List.getElem?_take, if_pos (Nat.lt_succ_self k), List.getElem?_eq_getElem hk, hw, Option.getD_some]
    have e5 : tornS (d.wait P (k + 1)) = tornS ⟨perf d.sectors (P.take k), [w], if 0 ≤ d.left then d.left - (k : Int) else d.left, false⟩ := by
      unfold tornS
      dsimp only
      rw [e1, e2]
      show (let x := (P.take (k + 1)).getD k Wr.zero; let s := perf d.sectors ((P.take (k + 1)).take k); s.set x.at'.toNat (x.data.take 64 ++ (s.getD x.at'.toNat []).drop 64)) = _
      rw [e3, e4]
      rfl
    rw [e5]
  · rw [each_go h hP hn hk (by omega), sync_go (runs_of hz rfl) (by
      rw [tearB]
      dsimp only
      rcases hl with hl | hl
      · rw [if_neg (by omega), decide_eq_false (by omega)]; rfl
      · rw [if_pos (by omega), decide_eq_false (p := d.left - (k : Int) < _) (by simp; omega), Bool.and_false])]
    have e1 : perf d.sectors (P.take (k + 1)) = perf (perf d.sectors (P.take k)) [w] := by rw [perf_take hk, hw]; rfl
    have e2 : (if 0 ≤ d.left then d.left - ((k + 1 : Nat) : Int) else d.left) = (if 0 ≤ (if 0 ≤ d.left then d.left - (k : Int) else d.left) then (if 0 ≤ d.left then d.left - (k : Int) else d.left) - (([w] : List Wr).length : Int) else (if 0 ≤ d.left then d.left - (k : Int) else d.left)) := by
      rcases hl with hl | hl
      · rw [if_neg (by omega), if_neg (by omega), if_neg (by omega)]
      · rw [if_pos (by omega), if_pos (by omega), if_pos (by omega)]
        simp
        omega
    rw [e1, e2]
    rfl
/-- Where it stops, the further writes do not matter. -/
theorem each_stop {d : Dk} {P : List Wr} {k : Nat} (h : d.okB = true) (hP : WrOk d P) (hn : P.length ≤ 4096) (hk : k ≤ P.length) (he : ¬ (d.left < 0 ∨ (k : Int) ≤ d.left)) : eachT d P P.length = eachT d P k := by
  obtain ⟨j, hj⟩ : ∃ j : Nat, d.left = (j : Int) := ⟨d.left.toNat, by omega⟩
  rw [each_torn h hP hn hk hj (by omega), each_torn h hP hn (Nat.le_refl _) hj (by omega)]

/-- What holds of the disk that syncs after each write. -/
theorem each_facts {d : Dk} {P : List Wr} {k : Nat} {x : Dk} {er : Int} (h : d.okB = true) (hP : WrOk d P) (hn : P.length ≤ 4096) (hk : k ≤ P.length) (hx : eachT d P k = (x, er)) :
    x.sectors.length = d.sectors.length ∧ x.pending = [] ∧ x.okB = true ∧ ((er = 0 ∧ x.stopped = false ∧ (d.left < 0 ∨ (k : Int) ≤ d.left)) ∨ (er = 40 ∧ ¬ (d.left < 0 ∨ (k : Int) ≤ d.left))) := by
  rcases Classical.em (d.left < 0 ∨ (k : Int) ≤ d.left) with hl | hl
  · have ht : tearB (d.wait P k) = false := by
      rw [wait_tear hk]
      rcases hl with hl | hl
      · rw [decide_eq_false (by omega)]; rfl
      · rw [decide_eq_false (p := d.left < (k : Int)) (by omega), Bool.and_false]
    have hok := synced_ok (wait_ok h hP hn k) ht
    rw [eachT, sync_go (wait_runs h hP hn k) ht] at hx
    injection hx with h1 h2
    subst h1 h2
    exact ⟨by show (perf d.sectors (P.take k)).length = _; rw [perf_length], rfl, hok, .inl ⟨rfl, rfl, hl⟩⟩
  · obtain ⟨j, hj⟩ : ∃ j : Nat, d.left = (j : Int) := ⟨d.left.toNat, by omega⟩
    have ht : tearB (d.wait P k) = true := by
      rw [wait_tear hk, decide_eq_true (by omega), decide_eq_true (p := d.left < (k : Int)) (by omega)]
      rfl
    have hok := torn_ok (wait_ok h hP hn k) ht
    rw [eachT, sync_tear (wait_runs h hP hn k) ht] at hx
    injection hx with h1 h2
    subst h1 h2
    exact ⟨by show (tornS (d.wait P k)).length = _; rw [tornS_length]; rfl, rfl, hok, .inr ⟨rfl, hl⟩⟩
/-- The write of an act. -/
def acW (ns at' : Nat) (b : UInt8) : Wr := ⟨((at' % ns : Nat) : Int), padTo [b]⟩
theorem acW_ok {d : Dk} {ns : Nat} (hs : d.sectors.length = ns) (h0 : 0 < ns) (l : List (Nat × UInt8)) : WrOk d (l.map fun a => acW ns a.1 a.2) := by
  intro x hx
  obtain ⟨a, _, rfl⟩ := List.mem_map.1 hx
  refine ⟨Int.natCast_nonneg _, ?_, padTo_length (by simp)⟩
  have := Nat.mod_lt a.1 h0
  show ((a.1 % ns : Nat) : Int) < _
  omega
/-- A write that is the next. -/
theorem wait_step {d : Dk} {P : List Wr} {k : Nat} (hk : k < P.length) : (d.wait P k).sectors = (d.wait P (k + 1)).sectors ∧ (d.wait P k).pending ++ [P[k]] = (d.wait P (k + 1)).pending :=
  ⟨rfl, (List.take_succ_eq_append_getElem hk).symm⟩
theorem wait_write {d : Dk} {P : List Wr} {k : Nat} {i : Nat} {b : UInt8} (h : d.okB = true) (hP : WrOk d P) (hn : P.length < 4096) (hk : k < P.length) (hw : P[k] = ⟨(i : Int), padTo [b]⟩) : writeT (d.wait P k) i [b] = (d.wait P (k + 1), 0) := by
  have h1 := hP _ (List.getElem_mem hk)
  rw [hw] at h1
  have e : (d.wait P k).pending.length = k := by show (P.take k).length = k; rw [List.length_take]; omega
  rw [write_eq (wait_runs h hP (by omega) k) (hasB_of h1.1 h1.2.1) (by simp) (by rw [e]; omega)]
  have e2 := (wait_step (d := d) hk).2
  rw [hw] at e2
  show ((⟨d.sectors, (d.wait P k).pending ++ [⟨(i : Int), padTo [b]⟩], d.left, false⟩ : Dk), (0 : Int)) = _
  rw [e2]
  rfl
theorem each_write {d : Dk} {P : List Wr} {k : Nat} {x : Dk} {i : Nat} {b : UInt8} (hx : x.okB = true) (hs : x.stopped = false) (hp : x.pending = []) (hsl : x.sectors.length = d.sectors.length) (hP : WrOk d P) (hk : k < P.length) (hw : P[k] = ⟨(i : Int), padTo [b]⟩) : writeT x i [b] = (⟨x.sectors, [⟨(i : Int), padTo [b]⟩], x.left, false⟩, 0) := by
  have h1 := hP _ (List.getElem_mem hk)
  rw [hw] at h1
  rw [write_eq (runs_of hx hs) (hasB_of h1.1 (by rw [hsl]; exact h1.2.1)) (by simp) (by rw [hp]; simp), Dk.put, hp, hs]
  rfl

end Go.Proofs.Ytdmeogkdoeaemaa
