/- Values that are read: as data, in rows that the call owns; the contract of the reader's length. No condition. -/
import Derived.Test.YtmbifmmkccghfaaGreatQCO
import Derived.Test.YtmbifmmkccghfaaGreatQK
set_option linter.unusedVariables false
set_option linter.unusedSimpArgs false
set_option maxRecDepth 100000
set_option maxHeartbeats 4000000
namespace Go.Proofs.YtmbifmmkccghfaaGreat
open Go.RowKit
def rdLen (l : Bs) : Option (Nat × Bs) := (rdNum 0 0 l).bind fun p => if p.1 ≤ p.2.length then some p else none
def rdMany (f : Bs → Option (Val × Bs)) : Nat → Bs → Option (List Val × Bs)
  | 0, r => some ([], r)
  | n + 1, r => (f r).bind fun p => (rdMany f n p.2).map fun q => (p.1 :: q.1, q.2)
def rdHead (g : Bs → Option (Val × Bs)) : Bs → Option (Val × Bs)
  | [] => none
  | c :: t => if c = 1 then (rdNum 0 0 t).map fun p => (.mk 1 (zag p.1) [] [], p.2) else if c = 2 then (rdLen t).map fun p => (.mk 2 0 (p.2.take p.1) [], p.2.drop p.1) else if c = 3 then g t else none
def rdVal : Nat → Bs → Option (Val × Bs)
  | 0 => rdHead fun _ => none
  | m + 1 => rdHead fun t => (rdLen t).bind fun p => (rdMany (rdVal m) p.1 p.2).map fun q => (.mk 3 0 [] q.1, q.2)
theorem rdLen_some {l : Bs} {u : Nat} {r : Bs} (h : rdLen l = some (u, r)) : rdNum 0 0 l = some (u, r) ∧ u ≤ r.length := by
  unfold rdLen at h
  rcases hn : rdNum 0 0 l with _ | ⟨u', r'⟩
  · rw [hn] at h; cases h
  · rw [hn] at h
    simp only [Option.bind_some] at h
    split at h
    · cases h
      exact ⟨rfl, ‹_›⟩
    · cases h
theorem rdLen_none {l : Bs} (h : rdNum 0 0 l = none) : rdLen l = none := by rw [rdLen, h]; rfl
theorem rdLen_over {l : Bs} {u : Nat} {r : Bs} (h : rdNum 0 0 l = some (u, r)) (h2 : ¬ u ≤ r.length) : rdLen l = none := by rw [rdLen, h]; simp [h2]
theorem rdLen_of {l : Bs} {u : Nat} {r : Bs} (h : rdNum 0 0 l = some (u, r)) (h2 : u ≤ r.length) : rdLen l = some (u, r) := by rw [rdLen, h]; simp [h2]
def RetLen (t : Option (Nat × Bs)) (D rb : Nat) (w : World) (e : Ending) (w' : World) : Prop :=
  match t with
  | some (u, r) => e = .returned (.int .i64 u) ∧ RdAt w' D rb r ∧ w.grownBy w' (some rb)
  | none => Fails rb w e w'
theorem RdAt.len {w : World} {D rb : Nat} {l : Bs} (h : RdAt w D rb l) : l.length ≤ maxLen := by
  obtain ⟨A, c, _, h2⟩ := h
  obtain ⟨_, _, _, hm⟩ := h2.form
  exact hm
theorem length_any (l : Bs) (D rb : Nat) (w : World) (h : RdAt w D rb l) (T : Option (Nat × Bs)) (hT : Hid (rdLen l = T)) : Calls Tryz.prog 99 #[.pointer (some ⟨rb, 0, none⟩)] w (RetLen T D rb w) := by
  rcases hn : rdNum 0 0 l with _ | ⟨u, r⟩
  · have HC := Lib.hid (number_any l D rb w h none (Lib.hid hn))
    obtain rfl : none = T := (rdLen_none hn).symm.trans hT.out
    clear hn h hT
    go_enter Tryz.func99, Tryz.ntmps99
    go_wp2_with fail
    refine HC.out.mono ?_
    rintro e w1 ⟨rfl, hg⟩
    have HF : Hid (RetLen none D rb w (.panicked bad) w1) := ⟨rfl, hg⟩
    clear hg HC
    go_wp2
    exact ⟨rfl, HF.out⟩
  · have HC := Lib.hid (number_any l D rb w h (some (u, r)) (Lib.hid hn))
    obtain ⟨hu, _⟩ := rdNum_lt (by omega) (by decide) hn
    by_cases hle : u ≤ r.length
    · obtain rfl : some (u, r) = T := (rdLen_of hn hle).symm.trans hT.out
      clear hn h hT
      go_enter Tryz.func99, Tryz.ntmps99
      go_wp2_with fail
      refine HC.out.mono ?_
      rintro e w1 ⟨rfl, hR, hg⟩
      have hm := hR.len
      unfold maxLen at hm
      have HF : Hid (RetLen (some (u, r)) D rb w (.returned (.int .i64 u)) w1) := ⟨rfl, hR, hg⟩
      obtain ⟨A, c, X, _⟩ := hR
      generalize r.length = n at X hle hm
      have x0 : w1.cell? ⟨rb, 0, none⟩ = some (.slice A n c) := X.cell 0
      have hd : decide (u ≤ n) = true := decide_eq_true hle
      clear hg HC X
      go_wp2_with fail
      refine (want_yes _ _).mono ?_
      rintro e w2 ⟨rfl, rfl⟩
      go_wp2
      go_ret
      exact HF.out
    · obtain rfl : none = T := (rdLen_over hn hle).symm.trans hT.out
      clear hn h hT
      go_enter Tryz.func99, Tryz.ntmps99
      go_wp2_with fail
      refine HC.out.mono ?_
      rintro e w1 ⟨rfl, hR, hg⟩
      have hm := hR.len
      unfold maxLen at hm
      have HF : Hid (RetLen none D rb w (.panicked bad) w1) := ⟨rfl, hg⟩
      obtain ⟨A, c, X, _⟩ := hR
      generalize r.length = n at X hle hm
      have x0 : w1.cell? ⟨rb, 0, none⟩ = some (.slice A n c) := X.cell 0
      have hd : decide (u ≤ n) = false := decide_eq_false hle
      clear hg HC X
      go_wp2_with fail
      refine (want_no _ _).mono ?_
      rintro e w2 ⟨rfl, rfl⟩
      go_wp2
      exact ⟨rfl, HF.out⟩
def ValsP (w : World) (S : Nat → Prop) : Nat → Value → List Val → Prop
  | 0, L, l => SlF L ∧ l = [] ∧ SlP w S 4 0 (valCells [] fun _ => undef) L
  | d + 1, L, l => SlF L ∧ ∃ V : Nat → Value, SlP w S 4 l.length (valCells l V) L ∧ ∀ (i : Nat) (x : Val), l[i]? = some x → ValsP w S d (V i) x.elems
theorem ValsP.keep {w w' : World} {S : Nat → Prop} (hk : Keeps S w w') : ∀ {d : Nat} {L : Value} {l : List Val}, ValsP w S d L l → ValsP w' S d L l
  | 0, _, _, h => ⟨h.1, h.2.1, h.2.2.keep hk⟩
  | _ + 1, _, _, ⟨f, V, s, b⟩ => ⟨f, V, s.keep hk, fun i x hx => (b i x hx).keep hk⟩
theorem ValsP.weak {w : World} {S S' : Nat → Prop} (hk : ∀ b, S b → b < w.heap.size → S' b) : ∀ {d : Nat} {L : Value} {l : List Val}, ValsP w S d L l → ValsP w S' d L l
  | 0, _, _, h => ⟨h.1, h.2.1, h.2.2.weak hk⟩
  | _ + 1, _, _, ⟨f, V, s, b⟩ => ⟨f, V, s.weak hk, fun i x hx => (b i x hx).weak hk⟩
theorem ValsP.vals {w : World} {S : Nat → Prop} : ∀ {d : Nat} {L : Value} {l : List Val}, ValsP w S d L l → ValsAt w w.heap.size d L l
  | 0, _, _, h => ⟨h.1, h.2.1, h.2.2.sl⟩
  | _ + 1, _, _, ⟨f, V, s, b⟩ => ⟨f, V, s.sl, fun i x hx => (b i x hx).vals⟩
theorem valsP_nil (w : World) (S : Nat → Prop) (d : Nat) : ValsP w S d (.slice none 0 0) [] := by
  cases d with
  | zero => exact ⟨.inl rfl, rfl, slP_nil w S 4 _⟩
  | succ d => exact ⟨.inl rfl, fun _ => undef, slP_nil w S 4 _, fun i x hx => by simp at hx⟩
theorem ValsP.slf {w : World} {S : Nat → Prop} {d : Nat} {L : Value} {l : List Val} (h : ValsP w S d L l) : SlF L := by
  cases d with
  | zero => exact h.1
  | succ d => exact h.1
theorem ValsP.form {w : World} {S : Nat → Prop} {d : Nat} {L : Value} {l : List Val} (h : ValsP w S d L l) : ∃ A c, L = .slice A l.length c ∧ l.length ≤ maxLen := by
  cases d with
  | zero =>
    obtain ⟨_, rfl, A, c, hv, hm, _⟩ := h
    exact ⟨A, c, hv, hm⟩
  | succ d =>
    obtain ⟨_, V, ⟨A, c, hv, hm, _⟩, _⟩ := h
    exact ⟨A, c, hv, hm⟩
def OwnVals (w : World) (B d : Nat) (v : Value) (l : List Val) : Prop :=
  ∃ U : Nat → Value, w.ownsRow B 151 4 v l.length (flat l.length 4 (valCells l U)) ∧ ∀ (i : Nat) (x : Val), l[i]? = some x → ValsP w (fun b => B ≤ b ∧ some b ≠ v.ownBlock) d (U i) x.elems
theorem ownVals_nil (w : World) (B d : Nat) : OwnVals w B d (.slice none 0 0) [] := ⟨fun _ => undef, ⟨by simp [flat], .inl ⟨rfl, rfl⟩⟩, fun i x hx => by simp at hx⟩
theorem OwnVals.keep {w w' : World} {B d : Nat} {v : Value} {l : List Val} (h : OwnVals w B d v l) {r : Nat} (hr : r < B) (hg : w.grownBy w' (some r)) : OwnVals w' B d v l := by
  obtain ⟨U, h1, h2⟩ := h
  refine ⟨U, ?_, fun i x hx => (h2 i x hx).keep ⟨hg.size, fun b hb hl => hg.block b hl (fun e => by injection e with e; have := hb.1; omega)⟩⟩
  obtain ⟨hl, h1⟩ := h1
  refine ⟨hl, ?_⟩
  rcases h1 with h1 | ⟨g, cap, cur, hv, hbg, hgg, hrr⟩
  · exact .inl h1
  · exact .inr ⟨g, cap, cur, hv, hbg, (hg.block g (Array.getElem?_eq_some_iff.1 hgg).1 (fun e => by injection e with e; omega)).trans hgg, hrr⟩
theorem OwnVals.below {w w' : World} {B d : Nat} {v : Value} {l : List Val} (h : OwnVals w B d v l) (hb : Below w.heap.size w w') : OwnVals w' B d v l := by
  obtain ⟨U, h1, h2⟩ := h
  refine ⟨U, ?_, fun i x hx => (h2 i x hx).keep (Keeps.of hb)⟩
  obtain ⟨hl, h1⟩ := h1
  refine ⟨hl, ?_⟩
  rcases h1 with h1 | ⟨g, cap, cur, hv, hbg, hgg, hrr⟩
  · exact .inl h1
  · exact .inr ⟨g, cap, cur, hv, hbg, (hb.block g (Array.getElem?_eq_some_iff.1 hgg).1).trans hgg, hrr⟩
theorem OwnVals.lt {w : World} {B d : Nat} {v : Value} {l : List Val} (h : OwnVals w B d v l) {k : Nat} (hk : v.ownBlock = some k) : B ≤ k ∧ k < w.heap.size := by
  obtain ⟨U, h1, _⟩ := h
  exact World.ownsRow.lt h1 k hk
theorem OwnVals.done {w : World} {B d : Nat} {v : Value} {l : List Val} (h : OwnVals w B d v l) (hm : l.length ≤ maxLen) : ValsP w (fun b => B ≤ b) (d + 1) v l := by
  obtain ⟨U, h1, h2⟩ := h
  obtain ⟨s, f⟩ := own_slp h1 hm
  exact ⟨f, U, s, fun i x hx => (h2 i x hx).weak fun b hb _ => hb.1⟩
theorem OwnVals.form {w : World} {B d : Nat} {v : Value} {l : List Val} (h : OwnVals w B d v l) : ∃ A c, v = .slice A l.length c := by
  obtain ⟨U, h1, _⟩ := h
  rcases h1.2 with ⟨rfl, h0⟩ | ⟨g, cap, cur, hv, _⟩
  · exact ⟨none, 0, by rw [h0]⟩
  · exact ⟨_, _, hv⟩
theorem info_val : (Tryz.prog.info? 151).map (fun i => (i.zero, i.size, i.bytes)) = some (some (.agg #[.int .i64 0, .int .i64 0, .string ⟨#[]⟩, .slice none 0 0]), 4, 56) := by kernel_rfl
theorem elem_val : ∃ i, Elem 149 151 i (.agg #[.int .i64 0, .int .i64 0, .string ⟨#[]⟩, .slice none 0 0]) 4 56 := by
  obtain ⟨i, hi, h0, h1, h2⟩ := info_parts info_val
  exact ⟨i, Tryz.underlying149, hi, h0, h1, h2, rfl, by decide⟩
theorem app_val {w : World} {B d bb W0 : Nat} {v : Value} {l : List Val} {x : Val} {L : Value} (ho : OwnVals w B d v l) (hX : Box w bb [.int .i64 x.kind, .int .i64 x.num, .string (strB x.str), L]) (hL : ValsP w (fun b => W0 ≤ b) d L x.elems) (hW : B ≤ W0) (hrow : ∀ k, v.ownBlock = some k → k < W0) (hbase : B ≤ w.heap.size) (hl : l.length ≤ 100000000) :
    ∃ v' w', (appF #[149, 149] 149 #[v, .slice (some ⟨bb, 0, none⟩) 1 1]).run Tryz.prog w = .ok v' w' ∧ OwnVals w' B d v' (l ++ [x]) ∧ w.grownBy w' v.ownBlock := by
  obtain ⟨i, E⟩ := elem_val
  obtain ⟨U, h1, h2⟩ := ho
  obtain ⟨v', w', hr, ho2, hg, _, hlies⟩ := run_append_own_at (P := Tryz.prog) w B 149 149 151 i _ 4 56 E.ht E.hi E.hz E.hsize E.hby E.hzs E.hsz v l.length _ h1 ⟨bb, 0, none⟩ 1 1 [.int .i64 x.kind, .int .i64 x.num, .string (strB x.str), L] rfl
    (fun j u hu => by
      rw [add_at, Nat.zero_add, hX.cell j]
      exact hu)
    (fun u hu => by
      simp only [List.mem_cons, List.not_mem_nil, or_false] at hu
      rcases hu with rfl | rfl | rfl | rfl
      · rfl
      · rfl
      · rfl
      · rcases hL.slf with h | ⟨a, n, c, h, _⟩
        · rw [h]; rfl
        · rw [h]; rfl) (by simp only [maxLen]; omega) (by omega) hbase
  have hU : flat (l ++ [x]).length 4 (valCells (l ++ [x]) (fun i => if i < l.length then U i else L)) = flat l.length 4 (valCells l U) ++ [.int .i64 x.kind, .int .i64 x.num, .string (strB x.str), L] := by
    have e1 : (l ++ [x]).length = l.length + 1 := by simp
    have e2 : [Value.int .i64 x.kind, .int .i64 x.num, .string (strB x.str), L] = flat 1 4 (valCells [x] fun _ => L) := by rfl
    rw [e1, e2, ← flat_cat l.length 1 4 (by decide)]
    refine flat_congr' (by decide) fun i j hi hj => ?_
    unfold cat
    by_cases h : i < l.length
    · rw [if_pos h]
      simp only [valCells, List.getD_eq_getElem?_getD, List.getElem?_append_left h, if_pos h]
    · obtain rfl : i = l.length := by omega
      rw [if_neg h]
      simp only [valCells, List.getD_eq_getElem?_getD, if_neg h, Nat.sub_self]
      simp
  have hne : ∀ b, (B ≤ b ∧ some b ≠ v.ownBlock) → b < w.heap.size → (B ≤ b ∧ some b ≠ v'.ownBlock) := by
    intro b hb hlt
    refine ⟨hb.1, fun e => ?_⟩
    rcases hlies with h | h
    · rw [h] at e; exact hb.2 e
    · rw [h] at e; injection e with e; omega
  have hkp : Keeps (fun b => B ≤ b ∧ some b ≠ v.ownBlock) w w' := ⟨hg.size, fun b hb hl => hg.block b hl hb.2⟩
  refine ⟨v', w', hr, ⟨fun i => if i < l.length then U i else L, ?_, fun i y hy => ?_⟩, hg⟩
  · rw [hU, List.length_append]
    exact ho2
  · have up : ∀ {L' : Value} {m : List Val}, ValsP w (fun b => B ≤ b ∧ some b ≠ v.ownBlock) d L' m → ValsP w' (fun b => B ≤ b ∧ some b ≠ v'.ownBlock) d L' m := fun h =>
      ((h.weak (S' := fun b => (B ≤ b ∧ some b ≠ v.ownBlock) ∧ (B ≤ b ∧ some b ≠ v'.ownBlock)) fun b hb hlt => ⟨hb, hne b hb hlt⟩).keep ⟨hkp.1, fun b hb hl => hkp.2 b hb.1 hl⟩).weak fun b hb _ => hb.2
    by_cases h : i < l.length
    · rw [List.getElem?_append_left h] at hy
      dsimp only
      rw [if_pos h]
      exact up (h2 i y hy)
    · have hi : i = l.length := by
        have := (List.getElem?_eq_some_iff.1 hy).1
        rw [List.length_append, List.length_singleton] at this
        omega
      subst hi
      rw [List.getElem?_append_right (Nat.le_refl _), Nat.sub_self] at hy
      cases hy
      dsimp only
      rw [if_neg h]
      exact up (hL.weak fun b hb _ => ⟨Nat.le_trans hW hb, fun e => by have := hrow b e.symm; omega⟩)
end Go.Proofs.YtmbifmmkccghfaaGreat
namespace Go.Proofs.YtmbifmmkccghfaaGreat
open Go.RowKit
attribute [local go_sem ↓ high] app_named
def RetVal (t : Option (Val × Bs)) (m D rb : Nat) (w : World) (e : Ending) (w' : World) : Prop :=
  match t with
  | some (x, r) => ∃ L, e = .returned (x.v L) ∧ ValsP w' (fun b => w.heap.size ≤ b) m L x.elems ∧ RdAt w' D rb r ∧ w.grownBy w' (some rb)
  | none => Fails rb w e w'
theorem grown_set {w w1 : World} {r : Option Nat} (h : w.grownBy w1 r) {a : Addr} (ha : w.heap.size ≤ a.block) (v : Value) : w.grownBy (w1.setCell a v) r :=
  ⟨h.os, h.tape, h.output, by simpa using h.size, fun k hk hne => (Below.heap_setCell w1 a v k (by omega)).trans (h.block k hk hne)⟩
theorem grown_of {w w1 w2 : World} {r : Option Nat} (h1 : Below w.heap.size w w1) (h2 : w1.grownBy w2 r) : w.grownBy w2 r :=
  ⟨h2.os.trans h1.os, h2.tape.trans h1.tape, h2.output.trans h1.output, Nat.le_trans h1.size h2.size, fun k hk hne => (h2.block k (Nat.lt_of_lt_of_le hk h1.size) hne).trans (h1.block k hk)⟩
theorem RdAt.set {w : World} {D rb : Nat} {l : Bs} (h : RdAt w D rb l) {a : Addr} (h1 : D ≤ a.block) (h2 : a.block ≠ rb) (v : Value) : RdAt (w.setCell a v) D rb l :=
  h.keepG (grownBy_set (w := w) (a := a) v) fun k hk => by injection hk with hk; subst hk; exact ⟨h1, h2⟩
theorem ValsP.set {w : World} {S : Nat → Prop} {d : Nat} {L : Value} {l : List Val} (h : ValsP w S d L l) {a : Addr} (h1 : ¬ S a.block) (v : Value) : ValsP (w.setCell a v) S d L l := h.keep (Keeps.set w h1 v)
theorem take_str {w : World} {S : Nat → Prop} {V : Value} {l : Bs} (h : BsAt w S V l) : (convert 91 9 V).run Tryz.prog w = .ok (.string (strB l)) w := h.str
theorem value_0 (m D rb : Nat) (w : World) (hR : RdAt w D rb []) (hD : D ≤ w.heap.size) (dep : Int) : Calls Tryz.prog 82 #[.pointer (some ⟨rb, 0, none⟩), .int .i64 dep] w (RetVal none m D rb w) := by
  have hst := (Below.refl w.heap.size w).alloc (Nat.le_refl _) (.cells #[.int .i64 0, .int .i64 0, .string ⟨#[]⟩, .slice none 0 0] 151)
  have X := Box.new w [.int .i64 0, .int .i64 0, .string ⟨#[]⟩, .slice none 0 0] 151
  have hrb := hR.lt
  have HR := Lib.hid (hR.keep hst)
  have ST := Lib.hid hst
  have HD := Lib.hid hD
  have hne : rb ≠ w.heap.size := by omega
  have hne' : w.heap.size ≠ rb := by omega
  clear hst hR hD
  go_enter Tryz.func82, Tryz.ntmps82
  go_wp2_with fail
  refine (take_no [] 1 D rb _ HR.out (by simp)).mono ?_
  rintro e w1 ⟨rfl, hg⟩
  have HF : Hid (RetVal none m D rb w (.panicked bad) w1) := ⟨rfl, grown_of ST.out hg⟩
  clear hg HR X ST
  go_wp2
  exact ⟨rfl, HF.out⟩
theorem value_1 (t : Bs) (m D rb : Nat) (w : World) (hR : RdAt w D rb (1 :: t)) (hD : D ≤ w.heap.size) (dep : Int) (T : Option (Val × Bs)) (hT : Hid ((rdNum 0 0 t).map (fun p => (Val.mk 1 (zag p.1) [] [], p.2)) = T)) : Calls Tryz.prog 82 #[.pointer (some ⟨rb, 0, none⟩), .int .i64 dep] w (RetVal T m D rb w) := by
  have hst := (Below.refl w.heap.size w).alloc (Nat.le_refl _) (.cells #[.int .i64 0, .int .i64 0, .string ⟨#[]⟩, .slice none 0 0] 151)
  have X := Box.new w [.int .i64 0, .int .i64 0, .string ⟨#[]⟩, .slice none 0 0] 151
  have hrb := hR.lt
  have HR := Lib.hid (hR.keep hst)
  have ST := Lib.hid hst
  have HD := Lib.hid hD
  have hne : rb ≠ w.heap.size := by omega
  have hne' : w.heap.size ≠ rb := by omega
  clear hst hR hD
  go_enter Tryz.func82, Tryz.ntmps82
  go_wp2_with fail
  refine (take_yes (1 :: t) 1 D rb _ HR.out (by simp)).mono ?_
  intro e w1 hret
  obtain ⟨b, off, cc, rfl, hc, hR1, hg⟩ := hret.byte
  replace hc : w1.cell? ⟨b, off, none⟩ = some (.int .u8 1) := hc
  have X1 := X.same (hg.block _ X.lt (by intro e; injection e with e; omega))
  have hG1 := grown_of ST.out hg
  have xz := X1.lt
  have x0 : w1.cell? ⟨w.heap.size, 0, none⟩ = some (.int .i64 0) := X1.cell 0
  have xf := X1.free 0
  have X2 := X1.set 0 (.int .i64 1)
  have HG2 := Lib.hid (grown_set hG1 (a := ⟨w.heap.size, 0, none⟩) (Nat.le_refl _) (.int .i64 1))
  have HR2 := Lib.hid (hR1.keepG (grownBy_set (w := w1) (a := ⟨w.heap.size, 0, none⟩) (.int .i64 1)) (fun k hk => by injection hk with hk; subst hk; exact ⟨HD.out, hne'⟩))
  clear hret hR1 hg X X1 HR ST hG1
  rcases hn : rdNum 0 0 t with _ | ⟨u, r⟩
  · have hT0 : none = T := by rw [← hT.out, hn]; rfl
    subst hT0
    replace hn := Lib.hid hn
    clear hT
    go_wp2_with fail
    generalize w1.setCell ⟨w.heap.size, 0, none⟩ (.int .i64 1) = w2 at X2 HG2 HR2 ⊢
    clear hc x0 xf xz
    refine (number_any t D rb _ HR2.out none hn).mono ?_
    rintro e w3 ⟨rfl, hg⟩
    have HF : Hid (RetVal none m D rb w (.panicked bad) w3) := ⟨rfl, grown_two HG2.out hg⟩
    clear hg HR2 X2 HG2
    go_wp2
    exact ⟨rfl, HF.out⟩
  · obtain ⟨hu, _⟩ := rdNum_lt (by omega) (by decide) hn
    have hT0 : some (Val.mk 1 (zag u) [] [], r) = T := by rw [← hT.out, hn]; rfl
    subst hT0
    replace hn := Lib.hid hn
    replace hu := Lib.hid hu
    clear hT
    go_wp2_with fail
    generalize w1.setCell ⟨w.heap.size, 0, none⟩ (.int .i64 1) = w2 at X2 HG2 HR2 ⊢
    clear hc x0 xf xz
    refine (number_any t D rb _ HR2.out _ hn).mono ?_
    rintro e w3 ⟨rfl, hR3, hg⟩
    have X3 := X2.same (hg.block _ X2.lt (by intro e; injection e with e; omega))
    have HG3 := Lib.hid (grown_two HG2.out hg)
    have HR3 := Lib.hid hR3
    obtain ⟨y0, y1, y2, y3⟩ := X3.c4
    have f0 := X3.free 0
    have f1 := X3.free 1
    have f2 := X3.free 2
    have f3 := X3.free 3
    have yz := X3.lt
    clear hR3 hg X2 HG2 HR2
    go_wp2_with (go_at_call 97; refine (cSigned_any u _ hu.out).mono ?_; rintro e w9 ⟨rfl, rfl⟩)
    clear y0 y1 y2 y3 f0 f1 f2 f3 yz
    have XZ := (((((X3.set 1 (.int .i64 (zag u))).set 0 (.int .i64 1)).set 1 (.int .i64 (zag u))).set 2 (.string ⟨#[]⟩)).set 3 (.slice none 0 0))
    have HGZ := Lib.hid (grown_set (grown_set (grown_set (grown_set (grown_set HG3.out (a := ⟨w.heap.size, 1, none⟩) (Nat.le_refl _) (.int .i64 (zag u))) (a := ⟨w.heap.size, 0, none⟩) (Nat.le_refl _) (.int .i64 1)) (a := ⟨w.heap.size, 1, none⟩) (Nat.le_refl _) (.int .i64 (zag u))) (a := ⟨w.heap.size, 2, none⟩) (Nat.le_refl _) (.string ⟨#[]⟩)) (a := ⟨w.heap.size, 3, none⟩) (Nat.le_refl _) (.slice none 0 0))
    have HRZ := Lib.hid (((((HR3.out.set (a := ⟨w.heap.size, 1, none⟩) HD.out hne' (.int .i64 (zag u))).set (a := ⟨w.heap.size, 0, none⟩) HD.out hne' (.int .i64 1)).set (a := ⟨w.heap.size, 1, none⟩) HD.out hne' (.int .i64 (zag u))).set (a := ⟨w.heap.size, 2, none⟩) HD.out hne' (.string ⟨#[]⟩)).set (a := ⟨w.heap.size, 3, none⟩) HD.out hne' (.slice none 0 0))
    have HVZ := Lib.hid ((ValsP.set (ValsP.set (ValsP.set (ValsP.set (ValsP.set (valsP_nil w3 (fun b => w.heap.size + 1 ≤ b) m) (a := ⟨w.heap.size, 1, none⟩) (fun h => by have := h; simp at this; omega) (.int .i64 (zag u))) (a := ⟨w.heap.size, 0, none⟩) (fun h => by have := h; simp at this; omega) (.int .i64 1)) (a := ⟨w.heap.size, 1, none⟩) (fun h => by have := h; simp at this; omega) (.int .i64 (zag u))) (a := ⟨w.heap.size, 2, none⟩) (fun h => by have := h; simp at this; omega) (.string ⟨#[]⟩)) (a := ⟨w.heap.size, 3, none⟩) (fun h => by have := h; simp at this; omega) (.slice none 0 0)))
    clear X3 HG3 HR3
    generalize (((((w3.setCell ⟨w.heap.size, 1, none⟩ (.int .i64 (zag u))).setCell ⟨w.heap.size, 0, none⟩ (.int .i64 1)).setCell ⟨w.heap.size, 1, none⟩ (.int .i64 (zag u))).setCell ⟨w.heap.size, 2, none⟩ (.string ⟨#[]⟩)).setCell ⟨w.heap.size, 3, none⟩ (.slice none 0 0)) = Z at XZ HGZ HRZ HVZ ⊢
    obtain ⟨z0, z1, z2, z3⟩ := XZ.c4
    refine bodyPost_ret (v := .agg #[.int .i64 1, .int .i64 (zag u), .string ⟨#[]⟩, .slice none 0 0]) (by simp [results, Tryz.results82, go_sem, z0, z1, z2, z3]) rfl ?_
    exact ⟨.slice none 0 0, rfl, HVZ.out.weak (fun b hb _ => Nat.le_of_succ_le hb), HRZ.out, HGZ.out⟩
theorem value_2 (t : Bs) (m D rb : Nat) (w : World) (hR : RdAt w D rb (2 :: t)) (hD : D ≤ w.heap.size) (dep : Int) (T : Option (Val × Bs)) (hT : Hid ((rdLen t).map (fun p => (Val.mk 2 0 (p.2.take p.1) [], p.2.drop p.1)) = T)) : Calls Tryz.prog 82 #[.pointer (some ⟨rb, 0, none⟩), .int .i64 dep] w (RetVal T m D rb w) := by
  have hst := (Below.refl w.heap.size w).alloc (Nat.le_refl _) (.cells #[.int .i64 0, .int .i64 0, .string ⟨#[]⟩, .slice none 0 0] 151)
  have X := Box.new w [.int .i64 0, .int .i64 0, .string ⟨#[]⟩, .slice none 0 0] 151
  have hrb := hR.lt
  have HR := Lib.hid (hR.keep hst)
  have ST := Lib.hid hst
  have HD := Lib.hid hD
  have hne : rb ≠ w.heap.size := by omega
  have hne' : w.heap.size ≠ rb := by omega
  clear hst hR hD
  go_enter Tryz.func82, Tryz.ntmps82
  go_wp2_with fail
  refine (take_yes (2 :: t) 1 D rb _ HR.out (by simp)).mono ?_
  intro e w1 hret
  obtain ⟨b, off, cc, rfl, hc, hR1, hg⟩ := hret.byte
  replace hc : w1.cell? ⟨b, off, none⟩ = some (.int .u8 2) := hc
  have X1 := X.same (hg.block _ X.lt (by intro e; injection e with e; omega))
  have hG1 := grown_of ST.out hg
  have xz := X1.lt
  have x0 : w1.cell? ⟨w.heap.size, 0, none⟩ = some (.int .i64 0) := X1.cell 0
  have xf := X1.free 0
  have X2 := X1.set 0 (.int .i64 2)
  have HG2 := Lib.hid (grown_set hG1 (a := ⟨w.heap.size, 0, none⟩) (Nat.le_refl _) (.int .i64 2))
  have HR2 := Lib.hid (hR1.keepG (grownBy_set (w := w1) (a := ⟨w.heap.size, 0, none⟩) (.int .i64 2)) (fun k hk => by injection hk with hk; subst hk; exact ⟨HD.out, hne'⟩))
  clear hret hR1 hg X X1 HR ST hG1
  rcases hn : rdLen t with _ | ⟨u, r⟩
  · have hT0 : none = T := by rw [← hT.out, hn]; rfl
    subst hT0
    replace hn := Lib.hid hn
    clear hT
    go_wp2_with fail
    generalize w1.setCell ⟨w.heap.size, 0, none⟩ (.int .i64 2) = w2 at X2 HG2 HR2 ⊢
    clear hc x0 xf xz
    refine (length_any t D rb _ HR2.out none hn).mono ?_
    rintro e w3 ⟨rfl, hg⟩
    have HF : Hid (RetVal none m D rb w (.panicked bad) w3) := ⟨rfl, grown_two HG2.out hg⟩
    clear hg HR2 X2 HG2
    go_wp2
    exact ⟨rfl, HF.out⟩
  · obtain ⟨_, hur⟩ := rdLen_some hn
    have hT0 : some (Val.mk 2 0 (r.take u) [], r.drop u) = T := by rw [← hT.out, hn]; rfl
    subst hT0
    replace hn := Lib.hid hn
    clear hT
    go_wp2_with fail
    generalize w1.setCell ⟨w.heap.size, 0, none⟩ (.int .i64 2) = w2 at X2 HG2 HR2 ⊢
    clear hc x0 xf xz
    refine (length_any t D rb _ HR2.out _ hn).mono ?_
    rintro e w3 ⟨rfl, hR3, hg⟩
    have X3 := X2.same (hg.block _ X2.lt (by intro e; injection e with e; omega))
    have HG3 := Lib.hid (grown_two HG2.out hg)
    have HR3 := Lib.hid hR3
    clear hR3 hg X2 HG2 HR2
    go_wp2_with fail
    refine (take_yes r u D rb _ HR3.out hur).mono ?_
    rintro e w4 ⟨At, ct, rfl, hBt, hR4, hg, _⟩
    have X4 := X3.same (hg.block _ X3.lt (by intro e; injection e with e; omega))
    have HG4 := Lib.hid (grown_two HG3.out hg)
    have HR4 := Lib.hid hR4
    have hstr := take_str hBt
    have hsl : Hid ((r.take u).length = u) := by rw [Hid, List.length_take]; omega
    clear hR4 hg X3 HG3 HR3 hBt
    generalize hs : r.take u = s at hstr hsl
    replace hs := Lib.hid hs
    have HSB : Hid (strB s = strB s) := rfl
    generalize hsb : strB s = sb at hstr HSB
    replace hsb := Lib.hid hsb
    clear HSB
    obtain ⟨y0, y1, y2, y3⟩ := X4.c4
    have f0 := X4.free 0
    have f1 := X4.free 1
    have f2 := X4.free 2
    have f3 := X4.free 3
    have yz := X4.lt
    go_wp2
    clear y0 y1 y2 y3 f0 f1 f2 f3 yz hstr
    have XZ := (((((X4.set 2 (.string sb)).set 0 (.int .i64 2)).set 1 (.int .i64 0)).set 2 (.string sb)).set 3 (.slice none 0 0))
    have HGZ := Lib.hid (grown_set (grown_set (grown_set (grown_set (grown_set HG4.out (a := ⟨w.heap.size, 2, none⟩) (Nat.le_refl _) (.string sb)) (a := ⟨w.heap.size, 0, none⟩) (Nat.le_refl _) (.int .i64 2)) (a := ⟨w.heap.size, 1, none⟩) (Nat.le_refl _) (.int .i64 0)) (a := ⟨w.heap.size, 2, none⟩) (Nat.le_refl _) (.string sb)) (a := ⟨w.heap.size, 3, none⟩) (Nat.le_refl _) (.slice none 0 0))
    have HRZ := Lib.hid (((((HR4.out.set (a := ⟨w.heap.size, 2, none⟩) HD.out hne' (.string sb)).set (a := ⟨w.heap.size, 0, none⟩) HD.out hne' (.int .i64 2)).set (a := ⟨w.heap.size, 1, none⟩) HD.out hne' (.int .i64 0)).set (a := ⟨w.heap.size, 2, none⟩) HD.out hne' (.string sb)).set (a := ⟨w.heap.size, 3, none⟩) HD.out hne' (.slice none 0 0))
    have HVZ := Lib.hid ((ValsP.set (ValsP.set (ValsP.set (ValsP.set (ValsP.set (valsP_nil w4 (fun b => w.heap.size + 1 ≤ b) m) (a := ⟨w.heap.size, 2, none⟩) (fun h => by have := h; simp at this; omega) (.string sb)) (a := ⟨w.heap.size, 0, none⟩) (fun h => by have := h; simp at this; omega) (.int .i64 2)) (a := ⟨w.heap.size, 1, none⟩) (fun h => by have := h; simp at this; omega) (.int .i64 0)) (a := ⟨w.heap.size, 2, none⟩) (fun h => by have := h; simp at this; omega) (.string sb)) (a := ⟨w.heap.size, 3, none⟩) (fun h => by have := h; simp at this; omega) (.slice none 0 0)))
    clear X4 HG4 HR4
    generalize (((((w4.setCell ⟨w.heap.size, 2, none⟩ (.string sb)).setCell ⟨w.heap.size, 0, none⟩ (.int .i64 2)).setCell ⟨w.heap.size, 1, none⟩ (.int .i64 0)).setCell ⟨w.heap.size, 2, none⟩ (.string sb)).setCell ⟨w.heap.size, 3, none⟩ (.slice none 0 0)) = Z at XZ HGZ HRZ HVZ ⊢
    obtain ⟨z0, z1, z2, z3⟩ := XZ.c4
    refine bodyPost_ret (v := .agg #[.int .i64 2, .int .i64 0, .string sb, .slice none 0 0]) (by simp [results, Tryz.results82, go_sem, z0, z1, z2, z3]) rfl ?_
    exact ⟨.slice none 0 0, by rw [← hsb.out, ← hs.out]; rfl, HVZ.out.weak (fun b hb _ => Nat.le_of_succ_le hb), HRZ.out, HGZ.out⟩
theorem value_no (c : UInt8) (t : Bs) (h1 : c ≠ 1) (h2 : c ≠ 2) (h3 : c ≠ 3) (m D rb : Nat) (w : World) (hR : RdAt w D rb (c :: t)) (hD : D ≤ w.heap.size) (dep : Int) : Calls Tryz.prog 82 #[.pointer (some ⟨rb, 0, none⟩), .int .i64 dep] w (RetVal none m D rb w) := by
  have hst := (Below.refl w.heap.size w).alloc (Nat.le_refl _) (.cells #[.int .i64 0, .int .i64 0, .string ⟨#[]⟩, .slice none 0 0] 151)
  have X := Box.new w [.int .i64 0, .int .i64 0, .string ⟨#[]⟩, .slice none 0 0] 151
  have hrb := hR.lt
  have HR := Lib.hid (hR.keep hst)
  have ST := Lib.hid hst
  have HD := Lib.hid hD
  have hne : rb ≠ w.heap.size := by omega
  have hne' : w.heap.size ≠ rb := by omega
  have e1 : ((c.toNat : Int) == 1) = false := by have h : c.toNat ≠ 1 := fun h => h1 (UInt8.toNat_inj.1 h); simp; omega
  have e2 : ((c.toNat : Int) == 2) = false := by have h : c.toNat ≠ 2 := fun h => h2 (UInt8.toNat_inj.1 h); simp; omega
  have e3 : ((c.toNat : Int) == 3) = false := by have h : c.toNat ≠ 3 := fun h => h3 (UInt8.toNat_inj.1 h); simp; omega
  clear hst hR hD h1 h2 h3
  go_enter Tryz.func82, Tryz.ntmps82
  go_wp2_with fail
  refine (take_yes (c :: t) 1 D rb _ HR.out (by simp)).mono ?_
  intro e w1 hret
  obtain ⟨b, off, cc, rfl, hc, hR1, hg⟩ := hret.byte
  replace hc : w1.cell? ⟨b, off, none⟩ = some (.int .u8 (c.toNat : Int)) := hc
  have X1 := X.same (hg.block _ X.lt (by intro e; injection e with e; omega))
  have hG1 := grown_of ST.out hg
  have xz := X1.lt
  have x0 : w1.cell? ⟨w.heap.size, 0, none⟩ = some (.int .i64 0) := X1.cell 0
  have xf := X1.free 0
  have X2 := X1.set 0 (.int .i64 (c.toNat : Int))
  have HG2 := Lib.hid (grown_set hG1 (a := ⟨w.heap.size, 0, none⟩) (Nat.le_refl _) (.int .i64 (c.toNat : Int)))
  have HR2 := Lib.hid (hR1.keepG (grownBy_set (w := w1) (a := ⟨w.heap.size, 0, none⟩) (.int .i64 (c.toNat : Int))) (fun k hk => by injection hk with hk; subst hk; exact ⟨HD.out, hne'⟩))
  clear hret hR1 hg X X1 HR ST hG1
  have hcn : c.toNat < 256 := c.toNat_lt
  generalize c.toNat = cn at hc X2 HG2 HR2 e1 e2 e3 hcn
  go_wp2_with fail
  generalize w1.setCell ⟨w.heap.size, 0, none⟩ (.int .i64 cn) = w2 at X2 HG2 HR2 ⊢
  clear hc x0 xf xz
  refine (want_no _ _).mono ?_
  rintro e w3 ⟨rfl, rfl⟩
  have HF : Hid (RetVal none m D rb w (.panicked bad) w2) := ⟨rfl, HG2.out⟩
  clear HR2 X2 HG2
  go_wp2
  exact ⟨rfl, HF.out⟩
theorem value_3no (t : Bs) (m D rb : Nat) (w : World) (hR : RdAt w D rb (3 :: t)) (hD : D ≤ w.heap.size) (dep : Int) (hdep : 16 ≤ dep) : Calls Tryz.prog 82 #[.pointer (some ⟨rb, 0, none⟩), .int .i64 dep] w (RetVal none m D rb w) := by
  have hst := (Below.refl w.heap.size w).alloc (Nat.le_refl _) (.cells #[.int .i64 0, .int .i64 0, .string ⟨#[]⟩, .slice none 0 0] 151)
  have X := Box.new w [.int .i64 0, .int .i64 0, .string ⟨#[]⟩, .slice none 0 0] 151
  have hrb := hR.lt
  have HR := Lib.hid (hR.keep hst)
  have ST := Lib.hid hst
  have HD := Lib.hid hD
  have hne : rb ≠ w.heap.size := by omega
  have hne' : w.heap.size ≠ rb := by omega
  clear hst hR hD
  go_enter Tryz.func82, Tryz.ntmps82
  go_wp2_with fail
  refine (take_yes (3 :: t) 1 D rb _ HR.out (by simp)).mono ?_
  intro e w1 hret
  obtain ⟨b, off, cc, rfl, hc, hR1, hg⟩ := hret.byte
  replace hc : w1.cell? ⟨b, off, none⟩ = some (.int .u8 3) := hc
  have X1 := X.same (hg.block _ X.lt (by intro e; injection e with e; omega))
  have hG1 := grown_of ST.out hg
  have xz := X1.lt
  have x0 : w1.cell? ⟨w.heap.size, 0, none⟩ = some (.int .i64 0) := X1.cell 0
  have xf := X1.free 0
  have X2 := X1.set 0 (.int .i64 3)
  have HG2 := Lib.hid (grown_set hG1 (a := ⟨w.heap.size, 0, none⟩) (Nat.le_refl _) (.int .i64 3))
  have HR2 := Lib.hid (hR1.keepG (grownBy_set (w := w1) (a := ⟨w.heap.size, 0, none⟩) (.int .i64 3)) (fun k hk => by injection hk with hk; subst hk; exact ⟨HD.out, hne'⟩))
  clear hret hR1 hg X X1 HR ST hG1
  have hd : decide (dep < 16) = false := decide_eq_false (by omega)
  go_wp2_with fail
  generalize w1.setCell ⟨w.heap.size, 0, none⟩ (.int .i64 3) = w2 at X2 HG2 HR2 ⊢
  clear hc x0 xf xz
  refine (want_no _ _).mono ?_
  rintro e w3 ⟨rfl, rfl⟩
  have HF : Hid (RetVal none m D rb w (.panicked bad) w2) := ⟨rfl, HG2.out⟩
  clear HR2 X2 HG2
  go_wp2
  exact ⟨rfl, HF.out⟩
end Go.Proofs.YtmbifmmkccghfaaGreat
