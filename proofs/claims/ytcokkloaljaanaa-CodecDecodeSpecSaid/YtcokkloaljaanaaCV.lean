/-
  Values that are read: as data, in rows that the call owns; the contract of the reader's length. No condition.
-/
import Derived.Test.YtcokkloaljaanaaCU
namespace Go.Proofs.Ytcokkloaljaanaa
open Go.RowKit

/-- A number of bytes or elements that follow. -/
def rdLen (l : Bs) : Option (Nat × Bs) := (rdNum 0 0 l).bind fun p => if p.1 ≤ p.2.length then some p else none
def rdMany (f : Bs → Option (Val × Bs)) : Nat → Bs → Option (List Val × Bs)
  | 0, r => some ([], r)
  | n + 1, r => (f r).bind fun p => (rdMany f n p.2).map fun q => (p.1 :: q.1, q.2)
def rdHead (g : Bs → Option (Val × Bs)) : Bs → Option (Val × Bs)
  | [] => none
  | c :: t => if c = 1 then (rdNum 0 0 t).map fun p => (.mk 1 (zag p.1) [] [], p.2) else if c = 2 then (rdLen t).map fun p => (.mk 2 0 (p.2.take p.1) [], p.2.drop p.1) else if c = 3 then g t else none
/-- The value at the head of some bytes, with at most m lists within one another. -/
def rdVal : Nat → Bs → Option (Val × Bs)
  | 0 => rdHead fun _ => none
  | m + 1 => rdHead fun t => (rdLen t).bind fun p => (rdMany (rdVal m) p.1 p.2).map fun q => (.mk 3 0 [] q.1, q.2)
theorem rdLen_some {l : Bs} {u : Nat} {r : Bs} (h : rdLen l = some (u, r)) : rdNum 0 0 l = some (u, r) ∧ u ≤ r.length := by
  unfold rdLen at h
  rcases hn : rdNum 0 0 l with _ | ⟨u', r'⟩
  · rw [hn] at h; cases h
  · rw [hn] at h
    simp only [Option.bind_some] at h
    split at h
    · cases h
      exact ⟨rfl, ‹_›⟩
    · cases h
theorem rdLen_none {l : Bs} (h : rdNum 0 0 l = none) : rdLen l = none := by rw [rdLen, h]; rfl
theorem rdLen_over {l : Bs} {u : Nat} {r : Bs} (h : rdNum 0 0 l = some (u, r)) (h2 : ¬ u ≤ r.length) : rdLen l = none := by rw [rdLen, h]; simp [h2]
theorem rdLen_of {l : Bs} {u : Nat} {r : Bs} (h : rdNum 0 0 l = some (u, r)) (h2 : u ≤ r.length) : rdLen l = some (u, r) := by rw [rdLen, h]; simp [h2]

def RetLen (t : Option (Nat × Bs)) (D rb : Nat) (w : World) (e : Ending) (w' : World) : Prop :=
  match t with
  | some (u, r) => e = .returned (.int .i64 u) ∧ RdAt w' D rb r ∧ w.grownBy w' (some rb)
  | none => Fails rb w e w'
theorem RdAt.len {w : World} {D rb : Nat} {l : Bs} (h : RdAt w D rb l) : l.length ≤ maxLen := by
  obtain ⟨A, c, _, h2⟩ := h
  obtain ⟨_, _, _, hm⟩ := h2.form
  exact hm

set_option maxRecDepth 100000 in
set_option maxHeartbeats 2000000 in
theorem length_any (l : Bs) (D rb : Nat) (w : World) (h : RdAt w D rb l) (T : Option (Nat × Bs)) (hT : Hid (rdLen l = T)) : Calls Try.prog 47 #[.pointer (some ⟨rb, 0, none⟩)] w (RetLen T D rb w) := by
  rcases hn : rdNum 0 0 l with _ | ⟨u, r⟩
  · have HC := Lib.hid (number_any l D rb w h none (Lib.hid hn))
    obtain rfl : none = T := (rdLen_none hn).symm.trans hT.out
    clear hn h hT
    go_enter Try.func47, Try.ntmps47
    go_wp2_with fail
    refine HC.out.mono ?_
    rintro e w1 ⟨rfl, hg⟩
    have HF : Hid (RetLen none D rb w (.panicked bad) w1) := ⟨rfl, hg⟩
    clear hg HC
    go_wp2
    exact ⟨rfl, HF.out⟩
  · have HC := Lib.hid (number_any l D rb w h (some (u, r)) (Lib.hid hn))
    obtain ⟨hu, _⟩ := rdNum_lt (by omega) (by decide) hn
    by_cases hle : u ≤ r.length
    · obtain rfl : some (u, r) = T := (rdLen_of hn hle).symm.trans hT.out
      clear hn h hT
      go_enter Try.func47, Try.ntmps47
      go_wp2_with fail
      refine HC.out.mono ?_
      rintro e w1 ⟨rfl, hR, hg⟩
      have hm := hR.len
      unfold maxLen at hm
      have HF : Hid (RetLen (some (u, r)) D rb w (.returned (.int .i64 u)) w1) := ⟨rfl, hR, hg⟩
      obtain ⟨A, c, X, _⟩ := hR
      generalize r.length = n at X hle hm
      have x0 : w1.cell? ⟨rb, 0, none⟩ = some (.slice A n c) := X.cell 0
      have hd : decide (u ≤ n) = true := decide_eq_true hle
      clear hg HC X
      go_wp2_with fail
      refine (want_yes _ _).mono ?_
      rintro e w2 ⟨rfl, rfl⟩
      go_wp2
      go_ret
      exact HF.out
    · obtain rfl : none = T := (rdLen_over hn hle).symm.trans hT.out
      clear hn h hT
      go_enter Try.func47, Try.ntmps47
      go_wp2_with fail
      refine HC.out.mono ?_
      rintro e w1 ⟨rfl, hR, hg⟩
      have hm := hR.len
      unfold maxLen at hm
      have HF : Hid (RetLen none D rb w (.panicked bad) w1) := ⟨rfl, hg⟩
      obtain ⟨A, c, X, _⟩ := hR
      generalize r.length = n at X hle hm
      have x0 : w1.cell? ⟨rb, 0, none⟩ = some (.slice A n c) := X.cell 0
      have hd : decide (u ≤ n) = false := decide_eq_false hle
      clear hg HC X
      go_wp2_with fail
      refine (want_no _ _).mono ?_
      rintro e w2 ⟨rfl, rfl⟩
      go_wp2
      exact ⟨rfl, HF.out⟩

/-- L is a slice of the values l, at most d deep, in blocks of the kind S. -/
def ValsP (w : World) (S : Nat → Prop) : Nat → Value → List Val → Prop
  | 0, L, l => SlF L ∧ l = [] ∧ SlP w S 4 0 (valCells [] fun _ => undef) L
  | d + 1, L, l => SlF L ∧ ∃ V : Nat → Value, SlP w S 4 l.length (valCells l V) L ∧ ∀ (i : Nat) (x : Val), l[i]? = some x → ValsP w S d (V i) x.elems
theorem ValsP.keep {w w' : World} {S : Nat → Prop} (hk : Keeps S w w') : ∀ {d : Nat} {L : Value} {l : List Val}, ValsP w S d L l → ValsP w' S d L l
  | 0, _, _, h => ⟨h.1, h.2.1, h.2.2.keep hk⟩
  | _ + 1, _, _, ⟨f, V, s, b⟩ => ⟨f, V, s.keep hk, fun i x hx => (b i x hx).keep hk⟩
theorem ValsP.weak {w : World} {S S' : Nat → Prop} (hk : ∀ b, S b → b < w.heap.size → S' b) : ∀ {d : Nat} {L : Value} {l : List Val}, ValsP w S d L l → ValsP w S' d L l
  | 0, _, _, h => ⟨h.1, h.2.1, h.2.2.weak hk⟩
  | _ + 1, _, _, ⟨f, V, s, b⟩ => ⟨f, V, s.weak hk, fun i x hx => (b i x hx).weak hk⟩
theorem ValsP.vals {w : World} {S : Nat → Prop} : ∀ {d : Nat} {L : Value} {l : List Val}, ValsP w S d L l → ValsAt w w.heap.size d L l
  | 0, _, _, h => ⟨h.1, h.2.1, h.2.2.sl⟩
  | _ + 1, _, _, ⟨f, V, s, b⟩ => ⟨f, V, s.sl, fun i x hx => (b i x hx).vals⟩
theorem valsP_nil (w : World) (S : Nat → Prop) (d : Nat) : ValsP w S d (.slice none 0 0) [] := by
  cases d with
  | zero => exact ⟨.inl rfl, rfl, slP_nil w S 4 _⟩
  | succ d => exact ⟨.inl rfl, fun _ => undef, slP_nil w S 4 _, fun i x hx => by simp at hx⟩
theorem ValsP.slf {w : World} {S : Nat → Prop} {d : Nat} {L : Value} {l : List Val} (h : ValsP w S d L l) : SlF L := by
  cases d with
  | zero => exact h.1
  | succ d => exact h.1
theorem ValsP.form {w : World} {S : Nat → Prop} {d : Nat} {L : Value} {l : List Val} (h : ValsP w S d L l) : ∃ A c, L = .slice A l.length c ∧ l.length ≤ maxLen := by
  cases d with
  | zero =>
    obtain ⟨_, rfl, A, c, hv, hm, _⟩ := h
    exact ⟨A, c, hv, hm⟩
  | succ d =>
    obtain ⟨_, V, ⟨A, c, hv, hm, _⟩, _⟩ := h
    exact ⟨A, c, hv, hm⟩

/-- A row of values of the call's own, from block B on; what their slices hold lies from block B on too, and not in the row. -/
def OwnVals (w : World) (B d : Nat) (v : Value) (l : List Val) : Prop :=
  ∃ U : Nat → Value, w.ownsRow B 24 4 v l.length (flat l.length 4 (valCells l U)) ∧ ∀ (i : Nat) (x : Val), l[i]? = some x → ValsP w (fun b => B ≤ b ∧ some b ≠ v.ownBlock) d (U i) x.elems
theorem ownVals_nil (w : World) (B d : Nat) : OwnVals w B d (.slice none 0 0) [] := ⟨fun _ => undef, ⟨by simp [flat], .inl ⟨rfl, rfl⟩⟩, fun i x hx => by simp at hx⟩
theorem OwnVals.keep {w w' : World} {B d : Nat} {v : Value} {l : List Val} (h : OwnVals w B d v l) {r : Nat} (hr : r < B) (hg : w.grownBy w' (some r)) : OwnVals w' B d v l := by
  obtain ⟨U, h1, h2⟩ := h
  refine ⟨U, ?_, fun i x hx => (h2 i x hx).keep ⟨hg.size, fun b hb hl => hg.block b hl (fun e => by injection e with e; have := hb.1; omega)⟩⟩
  obtain ⟨hl, h1⟩ := h1
  refine ⟨hl, ?_⟩
  rcases h1 with h1 | ⟨g, cap, cur, hv, hbg, hgg, hrr⟩
  · exact .inl h1
  · exact .inr ⟨g, cap, cur, hv, hbg, (hg.block g (Array.getElem?_eq_some_iff.1 hgg).1 (fun e => by injection e with e; omega)).trans hgg, hrr⟩
theorem OwnVals.below {w w' : World} {B d : Nat} {v : Value} {l : List Val} (h : OwnVals w B d v l) (hb : Below w.heap.size w w') : OwnVals w' B d v l := by
  obtain ⟨U, h1, h2⟩ := h
  refine ⟨U, ?_, fun i x hx => (h2 i x hx).keep (Keeps.of hb)⟩
  obtain ⟨hl, h1⟩ := h1
  refine ⟨hl, ?_⟩
  rcases h1 with h1 | ⟨g, cap, cur, hv, hbg, hgg, hrr⟩
  · exact .inl h1
  · exact .inr ⟨g, cap, cur, hv, hbg, (hb.block g (Array.getElem?_eq_some_iff.1 hgg).1).trans hgg, hrr⟩
theorem OwnVals.lt {w : World} {B d : Nat} {v : Value} {l : List Val} (h : OwnVals w B d v l) {k : Nat} (hk : v.ownBlock = some k) : B ≤ k ∧ k < w.heap.size := by
  obtain ⟨U, h1, _⟩ := h
  exact World.ownsRow.lt h1 k hk
theorem OwnVals.done {w : World} {B d : Nat} {v : Value} {l : List Val} (h : OwnVals w B d v l) (hm : l.length ≤ maxLen) : ValsP w (fun b => B ≤ b) (d + 1) v l := by
  obtain ⟨U, h1, h2⟩ := h
  obtain ⟨s, f⟩ := own_slp h1 hm
  exact ⟨f, U, s, fun i x hx => (h2 i x hx).weak fun b hb _ => hb.1⟩
theorem OwnVals.form {w : World} {B d : Nat} {v : Value} {l : List Val} (h : OwnVals w B d v l) : ∃ A c, v = .slice A l.length c := by
  obtain ⟨U, h1, _⟩ := h
  rcases h1.2 with ⟨rfl, h0⟩ | ⟨g, cap, cur, hv, _⟩
  · exact ⟨none, 0, by rw [h0]⟩
  · exact ⟨_, _, hv⟩
theorem info_val : (Try.prog.info? 24).map (fun i => (i.zero, i.size, i.bytes)) = some (some (.agg #[.int .i64 0, .int .i64 0, .string ⟨#[]⟩, .slice none 0 0]), 4, 56) := by kernel_rfl
theorem elem_val : ∃ i, Elem 22 24 i (.agg #[.int .i64 0, .int .i64 0, .string ⟨#[]⟩, .slice none 0 0]) 4 56 := by
  obtain ⟨i, hi, h0, h1, h2⟩ := info_parts info_val
  exact ⟨i, Try.underlying22, hi, h0, h1, h2, rfl, by decide⟩
theorem valCells_one {l : List Val} {U : Nat → Value} (h : ∀ (i : Nat) (x : Val), l[i]? = some x → SlF (U i)) {i j : Nat} (hi : i < l.length) : (valCells l U i j).oneCell' = true := by
  unfold valCells
  split
  · rfl
  · split
    · rfl
    · split
      · rfl
      · rcases h i _ (List.getElem?_eq_getElem hi) with h | ⟨a, n, c, h, _⟩
        · rw [h]; rfl
        · rw [h]; rfl
/-- append of one value. -/
theorem app_val {w : World} {B d bb W0 : Nat} {v : Value} {l : List Val} {x : Val} {L : Value} (ho : OwnVals w B d v l) (hX : Box w bb [.int .i64 x.kind, .int .i64 x.num, .string (strB x.str), L]) (hL : ValsP w (fun b => W0 ≤ b) d L x.elems) (hW : B ≤ W0) (hrow : ∀ k, v.ownBlock = some k → k < W0) (hbase : B ≤ w.heap.size) (hl : l.length ≤ 100000000) :
    ∃ v' w', (appF #[22, 22] 22 #[v, .slice (some ⟨bb, 0, none⟩) 1 1]).run Try.prog w = .ok v' w' ∧ OwnVals w' B d v' (l ++ [x]) ∧ w.grownBy w' v.ownBlock := by
  obtain ⟨i, E⟩ := elem_val
  obtain ⟨U, h1, h2⟩ := ho
  obtain ⟨v', w', hr, ho2, hg, _, hlies⟩ := run_append_own_at (P := Try.prog) w B 22 22 24 i _ 4 56 E.ht E.hi E.hz E.hsize E.hby E.hzs E.hsz v l.length _ h1 ⟨bb, 0, none⟩ 1 1 [.int .i64 x.kind, .int .i64 x.num, .string (strB x.str), L] rfl
    (fun j u hu => by
      rw [add_at, Nat.zero_add, hX.cell j]
      exact hu)
    (fun u hu => by
      simp only [List.mem_cons, List.not_mem_nil, or_false] at hu
      rcases hu with rfl | rfl | rfl | rfl
      · rfl
      · rfl
      · rfl
      · rcases hL.slf with h | ⟨a, n, c, h, _⟩
        · rw [h]; rfl
        · rw [h]; rfl) (by simp only [maxLen]; omega) (by omega) hbase
  have hU : flat (l ++ [x]).length 4 (valCells (l ++ [x]) (fun i => if i < l.length then U i else L)) = flat l.length 4 (valCells l U) ++ [.int .i64 x.kind, .int .i64 x.num, .string (strB x.str), L] := by
    have e1 : (l ++ [x]).length = l.length + 1 := by simp
    have e2 : [Value.int .i64 x.kind, .int .i64 x.num, .string (strB x.str), L] = flat 1 4 (valCells [x] fun _ => L) := by rfl
    rw [e1, e2, ← flat_cat l.length 1 4 (by decide)]
    refine flat_congr' (by decide) fun i j hi hj => ?_
    unfold cat
    by_cases h : i < l.length
    · rw [if_pos h]
      simp only [valCells, List.getD_eq_getElem?_getD, List.getElem?_append_left h, if_pos h]
    · obtain rfl : i = l.length := by omega
      rw [if_neg h]
      simp only [valCells, List.getD_eq_getElem?_getD, if_neg h, Nat.sub_self]
      simp
  have hne : ∀ b, (B ≤ b ∧ some b ≠ v.ownBlock) → b < w.heap.size → (B ≤ b ∧ some b ≠ v'.ownBlock) := by
    intro b hb hlt
    refine ⟨hb.1, fun e => ?_⟩
    rcases hlies with h | h
    · rw [h] at e; exact hb.2 e
    · rw [h] at e; injection e with e; omega
  have hkp : Keeps (fun b => B ≤ b ∧ some b ≠ v.ownBlock) w w' := ⟨hg.size, fun b hb hl => hg.block b hl hb.2⟩
  refine ⟨v', w', hr, ⟨fun i => if i < l.length then U i else L, ?_, fun i y hy => ?_⟩, hg⟩
  · rw [hU, List.length_append]
    exact ho2
  · have up : ∀ {L' : Value} {m : List Val}, ValsP w (fun b => B ≤ b ∧ some b ≠ v.ownBlock) d L' m → ValsP w' (fun b => B ≤ b ∧ some b ≠ v'.ownBlock) d L' m := fun h =>
      ((h.weak (S' := fun b => (B ≤ b ∧ some b ≠ v.ownBlock) ∧ (B ≤ b ∧ some b ≠ v'.ownBlock)) fun b hb hlt => ⟨hb, hne b hb hlt⟩).keep ⟨hkp.1, fun b hb hl => hkp.2 b hb.1 hl⟩).weak fun b hb _ => hb.2
    by_cases h : i < l.length
    · rw [List.getElem?_append_left h] at hy
      dsimp only
      rw [if_pos h]
      exact up (h2 i y hy)
    · have hi : i = l.length := by
        have := (List.getElem?_eq_some_iff.1 hy).1
        rw [List.length_append, List.length_singleton] at this
        omega
      subst hi
      rw [List.getElem?_append_right (Nat.le_refl _), Nat.sub_self] at hy
      cases hy
      dsimp only
      rw [if_neg h]
      exact up (hL.weak fun b hb _ => ⟨Nat.le_trans hW hb, fun e => by have := hrow b e.symm; omega⟩)

end Go.Proofs.Ytcokkloaljaanaa
