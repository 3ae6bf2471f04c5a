/-
  Plain facts for DiskHistory: the halves of sectors after writes, a sync and a torn sync. No condition.
-/
import Derived.Test.YtdmeogkdoeaemaaEQ
import Derived.Test.YtdmeogkdoeaemaaEM
namespace Go.Proofs.Ytdmeogkdoeaemaa
open Go.RowKit

/-- The halves of a sector begin with two bytes. -/
def secH (b : Bs) (x y : UInt8) : Prop := b.length = 128 ∧ b.getD 0 0 = x ∧ b.getD 64 0 = y ∧ b.getD 1 0 = 0 ∧ b.getD 127 0 = 0
theorem secH_double (c : UInt8) : secH (doubleB c) c c := by
  refine ⟨double_length c, ?_, ?_, ?_, ?_⟩ <;> simp [doubleB, List.getD_eq_getElem?_getD, List.getElem?_set, zeros]
theorem secH_zero : secH zeros 0 0 := by
  refine ⟨zeros_length, ?_, ?_, ?_, ?_⟩ <;> simp [List.getD_eq_getElem?_getD, zeros]
theorem secH_torn {a b : Bs} {x y u v : UInt8} (ha : secH a x y) (hb : secH b u v) : secH (a.take 64 ++ b.drop 64) x v := by
  obtain ⟨a1, a2, a3, a4, a5⟩ := ha
  obtain ⟨b1, b2, b3, b4, b5⟩ := hb
  have hl : (a.take 64).length = 64 := by rw [List.length_take, a1]; rfl
  refine ⟨by rw [List.length_append, hl, List.length_drop, b1], ?_, ?_, ?_, ?_⟩
  · rw [List.getD_eq_getElem?_getD, List.getElem?_append_left (by rw [hl]; decide), List.getElem?_take, if_pos (by decide), ← List.getD_eq_getElem?_getD, a2]
  · rw [List.getD_eq_getElem?_getD, List.getElem?_append_right (by rw [hl]; decide), hl, List.getElem?_drop, ← List.getD_eq_getElem?_getD]
    exact b3
  · rw [List.getD_eq_getElem?_getD, List.getElem?_append_left (by rw [hl]; decide), List.getElem?_take, if_pos (by decide), ← List.getD_eq_getElem?_getD, a4]
  · rw [List.getD_eq_getElem?_getD, List.getElem?_append_right (by rw [hl]; decide), hl, List.getElem?_drop, ← List.getD_eq_getElem?_getD]
    exact b5
/-- An array of four bytes is written. -/
def upd (F : Nat → UInt8) (i : Nat) (c : UInt8) : Nat → UInt8 := fun k => if k = i then c else F k
def acI (a : Ac) : Nat := a.at'.toNat % 4
theorem acI_lt (a : Ac) : acI a < 4 := Nat.mod_lt _ (by decide)
def foldA (F : Nat → UInt8) (l : List Ac) : Nat → UInt8 := l.foldl (fun F a => upd F (acI a) a.byte) F
theorem foldA_snoc (F : Nat → UInt8) (l : List Ac) (a : Ac) : foldA F (l ++ [a]) = upd (foldA F l) (acI a) a.byte := by rw [foldA, List.foldl_append]; rfl
theorem foldA_take {F : Nat → UInt8} {l : List Ac} {k : Nat} (hk : k < l.length) : foldA F (l.take (k + 1)) = upd (foldA F (l.take k)) (acI l[k]) (l[k]).byte := by
  rw [List.take_succ_eq_append_getElem hk, foldA_snoc]
/-- The write of an act on four sectors. -/
def acD (a : Ac) : Wr := ⟨(acI a : Int), doubleB a.byte⟩
def Halves (s : List Bs) (F G : Nat → UInt8) : Prop := ∀ k, k < 4 → secH (s.getD k []) (F k) (G k)
theorem halves_set {s : List Bs} {F G : Nat → UInt8} {i : Nat} {b : Bs} {x y : UInt8} (h : Halves s F G) (hs : s.length = 4) (hb : secH b x y) : Halves (s.set i b) (upd F i x) (upd G i y) := by
  intro k hk
  by_cases e : k = i
  · subst e
    have : (s.set k b).getD k [] = b := by rw [List.getD_eq_getElem?_getD, List.getElem?_set_self (by omega)]; rfl
    rw [this, upd, upd, if_pos rfl, if_pos rfl]
    exact hb
  · have : (s.set i b).getD k [] = s.getD k [] := by rw [List.getD_eq_getElem?_getD, List.getElem?_set_ne (fun h => e h.symm), List.getD_eq_getElem?_getD]
    rw [this, upd, upd, if_neg e, if_neg e]
    exact h k hk
theorem halves_perf {l : List Ac} {s : List Bs} {F G : Nat → UInt8} (h : Halves s F G) (hs : s.length = 4) : Halves (perf s (l.map acD)) (foldA F l) (foldA G l) := by
  induction l generalizing s F G with
  | nil => exact h
  | cons a l ih => exact ih (halves_set (i := acI a) h hs (secH_double a.byte)) (by rw [List.length_set]; exact hs)
/-- After a torn sync. -/
theorem halves_torn {d : Dk} {l : List Ac} {F : Nat → UInt8} {j : Nat} (h : Halves d.sectors F F) (hs : d.sectors.length = 4) (hp : d.pending = l.map acD) (hj : d.left = (j : Int)) (hl : j < l.length) : Halves (tornS d) (foldA F (l.take (j + 1))) (foldA F (l.take j)) := by
  have hn : d.left.toNat = j := by omega
  have hx : d.pending.getD j Wr.zero = acD l[j] := by rw [hp, List.getD_eq_getElem?_getD, List.getElem?_map, List.getElem?_eq_getElem hl]; rfl
  have hP := halves_perf (l := l.take j) h hs
  have hP4 : (perf d.sectors ((l.take j).map acD)).length = 4 := by rw [perf_length, hs]
  rw [foldA_take hl, tornS, hn, hx, hp, ← List.map_take]
  have e : (acD l[j]).at'.toNat = acI l[j] := by simp [acD]
  have hk := acI_lt l[j]
  simp only [e]
  have hb := secH_torn (secH_double (l[j]).byte) (hP _ hk)
  have hu : foldA F (l.take j) = upd (foldA F (l.take j)) (acI l[j]) (foldA F (l.take j) (acI l[j])) := by
    funext k
    rw [upd]
    split
    · rename_i h; rw [h]
    · rfl
  have := halves_set (i := acI l[j]) hP hP4 hb
  rw [← hu] at this
  exact this
/-- What is read as it was written last. -/
def Last (d : Dk) (F : Nat → UInt8) : Prop := ∀ k : Nat, k < 4 → secH (lastW d.pending (k : Int) (d.sectors.getD k [])) (F k) (F k)
theorem last_put {d : Dk} {F : Nat → UInt8} (h : Last d F) (a : Ac) (l : Int) (s : Bool) : Last ⟨d.sectors, d.pending ++ [acD a], l, s⟩ (upd F (acI a) a.byte) := by
  intro k hk
  show secH (lastW (d.pending ++ [acD a]) (k : Int) (d.sectors.getD k [])) _ _
  rw [lastW_snoc]
  by_cases e : k = acI a
  · subst e
    have e1 : (acD a).at' = ((acI a : Nat) : Int) := rfl
    rw [if_pos e1, upd, if_pos rfl]
    exact secH_double a.byte
  · rw [if_neg (fun h => e (by have : (acI a : Int) = (k : Int) := h; omega)), upd, if_neg e]
    exact h k hk
/-- The state of DiskHistory ahead of an act. -/
structure HI (d : Dk) (l : List Ac) (rm : Nat) (F G : Nat → UInt8) : Prop where
  ok : d.okB = true
  run : d.stopped = false
  four : d.sectors.length = 4
  left : d.left = (rm : Int)
  pend : d.pending = l.map acD
  halves : Halves d.sectors G G
  last : Last d F
theorem HI.read {d : Dk} {l : List Ac} {rm : Nat} {F G : Nat → UInt8} (h : HI d l rm F G) : ∀ k : Nat, k < 4 → ∃ b, readT d k = (b, 0) ∧ secH b (F k) (F k) := fun k hk =>
  ⟨_, read_eq (runs_of h.ok h.run) (hasB_of (by omega) (by rw [h.four]; omega)), h.last k hk⟩
theorem HI.write {d : Dk} {l : List Ac} {rm : Nat} {F G : Nat → UInt8} (h : HI d l rm F G) (hl : l.length < 4096) (a : Ac) : writeT d (acI a : Int) (doubleB a.byte) = (⟨d.sectors, d.pending ++ [acD a], d.left, d.stopped⟩, 0) ∧ HI ⟨d.sectors, d.pending ++ [acD a], d.left, d.stopped⟩ (l ++ [a]) rm (upd F (acI a) a.byte) G := by
  have hk := acI_lt a
  have hh : d.hasB (acI a : Int) = true := hasB_of (by omega) (by rw [h.four]; omega)
  have hb := double_length a.byte
  have hp : d.pending.length = l.length := by rw [h.pend, List.length_map]
  have hput : d.put (acI a : Int) (doubleB a.byte) = ⟨d.sectors, d.pending ++ [acD a], d.left, d.stopped⟩ := by rw [Dk.put, padTo_full hb]; rfl
  have hok := put_ok h.ok hh (b := doubleB a.byte) (by omega) (by omega)
  rw [hput] at hok
  refine ⟨?_, ⟨hok, h.run, h.four, h.left, ?_, h.halves, last_put h.last a _ _⟩⟩
  · rw [write_eq (runs_of h.ok h.run) hh (by omega) (by omega), hput]
  · show d.pending ++ [acD a] = _
    rw [h.pend, List.map_append]
    rfl
theorem HI.tear {d : Dk} {l : List Ac} {rm : Nat} {F G : Nat → UInt8} (h : HI d l rm F G) : tearB d = decide (rm < l.length) := by
  have hp : d.pending.length = l.length := by rw [h.pend, List.length_map]
  rw [tearB, h.left, hp, decide_eq_true (p := (0 : Int) ≤ (rm : Int)) (by omega), Bool.true_and]
  exact decide_eq_decide.2 (by omega)
theorem HI.sync {d : Dk} {l : List Ac} {rm : Nat} {F G : Nat → UInt8} (h : HI d l rm F G) (hl : l.length ≤ rm) : ∃ x, syncT d = (x, 0) ∧ x.pending = [] ∧ HI x [] (rm - l.length) F (foldA G l) := by
  have hp : d.pending.length = l.length := by rw [h.pend, List.length_map]
  have ht : tearB d = false := by rw [h.tear]; exact decide_eq_false (by omega)
  refine ⟨d.synced, sync_go (runs_of h.ok h.run) ht, rfl, ⟨synced_ok h.ok ht, rfl, ?_, ?_, rfl, ?_, ?_⟩⟩
  · show (perf d.sectors d.pending).length = 4
    rw [perf_length, h.four]
  · show (if 0 ≤ d.left then d.left - (d.pending.length : Int) else d.left) = _
    rw [h.left, hp, if_pos (by omega)]
    omega
  · show Halves (perf d.sectors d.pending) _ _
    rw [h.pend]
    exact halves_perf h.halves h.four
  · intro k hk
    show secH ((perf d.sectors d.pending).getD k []) _ _
    rw [perf_getD (fun x hx => ((okB_parts h.ok).2.2.2.2.2.1 x hx).1) (by rw [h.four]; exact hk)]
    exact h.last k hk
theorem HI.stop {d : Dk} {l : List Ac} {rm : Nat} {F G : Nat → UInt8} (h : HI d l rm F G) (hl : rm < l.length) : syncT d = (⟨tornS d, [], 0, true⟩, 40) ∧ (tornS d).length = 4 ∧ ∀ k : Nat, k < 4 → ∃ b, readT (⟨tornS d, [], -1, false⟩ : Dk) k = (b, 0) ∧ secH b (foldA G (l.take (rm + 1)) k) (foldA G (l.take rm) k) := by
  have ht : tearB d = true := by rw [h.tear]; exact decide_eq_true hl
  have h4 : (tornS d).length = 4 := by rw [tornS_length, h.four]
  refine ⟨sync_tear (runs_of h.ok h.run) ht, h4, fun k hk => ?_⟩
  have hok : (⟨tornS d, [], -1, false⟩ : Dk).okB = true := restart_ok (torn_ok h.ok ht)
  refine ⟨_, read_eq (runs_of hok rfl) (hasB_of (by omega) (by show (k : Int) < ((tornS d).length : Int); rw [h4]; omega)), ?_⟩
  exact halves_torn h.halves h.four h.pend h.left hl k hk
theorem HI.restart {d : Dk} {l : List Ac} {rm : Nat} {F G : Nat → UInt8} (h : HI d l rm F G) : ∀ k : Nat, k < 4 → ∃ b, readT (⟨d.sectors, [], -1, false⟩ : Dk) k = (b, 0) ∧ secH b (G k) (G k) := fun k hk =>
  ⟨_, read_eq (runs_of (restart_ok h.ok) rfl) (hasB_of (by omega) (by show (k : Int) < (d.sectors.length : Int); rw [h.four]; omega)), h.halves k hk⟩
theorem HI.new (rm : Nat) (hr : rm ≤ 255) : stopT ⟨List.replicate 4 zeros, [], -1, false⟩ (rm : Int) = (⟨List.replicate 4 zeros, [], (rm : Int), false⟩, 0) ∧ HI ⟨List.replicate 4 zeros, [], (rm : Int), false⟩ [] rm (fun _ => 0) (fun _ => 0) := by
  have h0 : (⟨List.replicate 4 zeros, [], -1, false⟩ : Dk).okB = true := new_ok (k := 4) (by decide) (by decide)
  have hz : ∀ k, k < 4 → (List.replicate 4 zeros).getD k [] = zeros := fun k hk => by
    rw [List.getD_eq_getElem?_getD, List.getElem?_replicate, if_pos hk]; rfl
  refine ⟨stop_eq (runs_of h0 rfl) (by omega) (by omega), ⟨stop_ok h0 (by omega) (by omega), rfl, rfl, rfl, rfl, fun k hk => ?_, fun k hk => ?_⟩⟩
  · show secH ((List.replicate 4 zeros).getD k []) 0 0
    rw [hz k hk]; exact secH_zero
  · show secH ((List.replicate 4 zeros).getD k []) 0 0
    rw [hz k hk]; exact secH_zero
/-- The array's cells. -/
def arrC (F : Nat → UInt8) : List Value := [.int .u8 ((F 0).toNat : Int), .int .u8 ((F 1).toNat : Int), .int .u8 ((F 2).toNat : Int), .int .u8 ((F 3).toNat : Int)]
theorem arrC_get (F : Nat → UInt8) {k : Nat} (hk : k < 4) : (arrC F)[k]? = some (.int .u8 ((F k).toNat : Int)) := by
  rcases k with _ | _ | _ | _ | k
  · rfl
  · rfl
  · rfl
  · rfl
  · omega
theorem arrC_set (F : Nat → UInt8) {k : Nat} (hk : k < 4) (c : UInt8) : (arrC F).set k (.int .u8 (c.toNat : Int)) = arrC (upd F k c) := by
  rcases k with _ | _ | _ | _ | k
  · rfl
  · rfl
  · rfl
  · rfl
  · omega

end Go.Proofs.Ytdmeogkdoeaemaa
