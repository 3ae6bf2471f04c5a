/-
  Slices of bytes as data; append onto a row of bytes that the call owns. No condition.
-/
import Derived.Test.YtcokkloaljaanaaCA
import Derived.Test.YtcokkloaljaanaaKC
import Derived.Laws.BytesArg
import Derived.Lib.AppendStr
import Derived.Maps.AppendAt
namespace Go.Proofs.Ytcokkloaljaanaa
open Go.RowKit

abbrev Bs := List UInt8
/-- v is a slice of the bytes l. -/
def BsAt (w : World) (S : Nat → Prop) (v : Value) (l : Bs) : Prop := SlF v ∧ SlP w S 1 l.length (fun i _ => .int .u8 ((l.getD i 0).toNat : Int)) v
theorem BsAt.keep {w w' : World} {S : Nat → Prop} {v : Value} {l : Bs} (h : BsAt w S v l) (hk : Keeps S w w') : BsAt w' S v l := ⟨h.1, h.2.keep hk⟩
theorem BsAt.weak {w : World} {S S' : Nat → Prop} {v : Value} {l : Bs} (h : BsAt w S v l) (hk : ∀ b, S b → b < w.heap.size → S' b) : BsAt w S' v l := ⟨h.1, h.2.weak hk⟩
theorem BsAt.form {w : World} {S : Nat → Prop} {v : Value} {l : Bs} (h : BsAt w S v l) : ∃ A c, v = .slice A l.length c ∧ l.length ≤ maxLen := h.2.form
theorem bsAt_nil (w : World) (S : Nat → Prop) : BsAt w S (.slice none 0 0) [] := ⟨.inl rfl, slP_nil w S 1 _⟩
theorem BsAt.cell {w : World} {S : Nat → Prop} {A : Option Addr} {n c : Nat} {l : Bs} (h : BsAt w S (.slice A n c) l) {k : Nat} (hk : k < l.length) :
    ∃ b off, A = some ⟨b, off, none⟩ ∧ S b ∧ b < w.heap.size ∧ w.cell? ⟨b, off + k, none⟩ = some (.int .u8 ((l.getD k 0).toNat : Int)) := by
  obtain ⟨_, A', c', hv, _, h1⟩ := h
  cases hv
  obtain ⟨b, off, rfl, hS, hb, h3⟩ := h1 k hk
  have := h3 0 (by omega)
  rw [Nat.mul_one, Nat.add_zero] at this
  exact ⟨b, off, rfl, hS, hb, this⟩

theorem Box.keep {w w' : World} {b D : Nat} {xs : List Value} (h : Box w b xs) (hb : b < D) (hB : Below D w w') : Box w' b xs := h.same (hB.block b hb)
theorem info_by : (Try.prog.info? 5).map (fun i => (i.zero, i.size, i.bytes)) = some (some (.int .u8 0), 1, 1) := by kernel_rfl
theorem elem_by : ∃ i, Elem 27 5 i (.int .u8 0) 1 1 := by
  obtain ⟨i, hi, h0, h1, h2⟩ := info_parts info_by
  exact ⟨i, Try.underlying27, hi, h0, h1, h2, rfl, by decide⟩
/-- The cells of bytes. -/
def byV (l : Bs) : List Value := l.map fun c => .int .u8 (c.toNat : Int)
theorem byV_length (l : Bs) : (byV l).length = l.length := by simp [byV]
theorem byV_append (l m : Bs) : byV (l ++ m) = byV l ++ byV m := by simp [byV]
theorem byV_flat (l : Bs) : flat l.length 1 (fun i _ => .int .u8 ((l.getD i 0).toNat : Int)) = byV l := by
  rw [flat_one]
  apply List.ext_getElem?
  intro i
  rcases Nat.lt_or_ge i l.length with hi | hi
  · simp [byV, hi]
  · simp [byV, hi]
theorem byV_range {l : Bs} {k : Nat} (h : k ≤ l.length) : (List.range k).map (fun i => Value.int .u8 ((l.getD i 0).toNat : Int)) = byV (l.take k) := by
  apply List.ext_getElem?
  intro i
  rcases Nat.lt_or_ge i k with hi | hi
  · have : i < l.length := by omega
    simp [byV, hi, this]
  · rw [List.getElem?_eq_none (by simp; omega), List.getElem?_eq_none (by simp [byV]; omega)]
/-- A row of bytes of the call's own. -/
def OwnBs (w : World) (base : Nat) (v : Value) (l : Bs) : Prop := w.ownsRow base 5 1 v l.length (byV l)
theorem OwnBs.bs {w : World} {base : Nat} {v : Value} {l : Bs} (h : OwnBs w base v l) (hm : l.length ≤ maxLen) : BsAt w (fun b => base ≤ b) v l := by
  unfold OwnBs at h
  rw [← byV_flat] at h
  obtain ⟨s, f⟩ := own_slp h hm
  exact ⟨f, s⟩
theorem OwnBs.form {w : World} {base : Nat} {v : Value} {l : Bs} (h : OwnBs w base v l) (h0 : 0 < l.length) : ∃ g c, v = .slice (some ⟨g, 0, none⟩) l.length c ∧ base ≤ g ∧ g < w.heap.size ∧ l.length ≤ c ∧ c ≤ maxLen := by
  rcases h.2 with ⟨_, h1⟩ | ⟨g, cap, cur, hv, hb, hg, hc, hcm, _⟩
  · omega
  · exact ⟨g, cap, hv, hb, (Array.getElem?_eq_some_iff.1 hg).1, hc, hcm⟩
theorem OwnBs.own {w : World} {base n c : Nat} {A : Option Addr} {l : Bs} (h : OwnBs w base (.slice A n c) l) (hl : l.length = n) (k : Nat) (hk : k < n) : ∃ b off, A = some ⟨b, off, none⟩ ∧ base ≤ b ∧ b < w.heap.size ∧ ∀ j, j < 1 → w.cell? ⟨b, off + (k * 1 + j), none⟩ = some (.int .u8 ((l.getD k 0).toNat : Int)) := by
  unfold OwnBs at h
  rw [hl, show byV l = flat n 1 (fun i _ => .int .u8 ((l.getD i 0).toNat : Int)) by rw [← hl, byV_flat]] at h
  rcases h.2 with ⟨h1, _⟩ | ⟨g, cap, cur, hv, hb, hg, hc, hcm, hs, hx⟩
  · injection h1 with _ h2; omega
  · cases hv
    have hlt : g < w.heap.size := (Array.getElem?_eq_some_iff.1 hg).1
    have hcell := h.cells (g := g) rfl
    refine ⟨g, 0, rfl, hb, hlt, fun j hj => ?_⟩
    have := hcell _ _ (flat_at (fun i _ => .int .u8 ((l.getD i 0).toNat : Int)) hk hj)
    rw [add_at] at this
    exact this
theorem strOfNums_bytes (l : Bs) : strOfNums (l.map fun x => (x.toNat : Int)) = strB l := by
  unfold strOfNums strB
  congr 1
  simp [List.map_map, Function.comp_def]
/-- A slice of bytes as a string. -/
theorem BsAt.str {w : World} {S : Nat → Prop} {v : Value} {l : Bs} (h : BsAt w S v l) : (convert 27 9 v).run Try.prog w = .ok (.string (strB l)) w := by
  obtain ⟨_, A, c, rfl, hn, h1⟩ := h
  rcases A with _ | a
  · have hl : l = [] := by
      rcases l with _ | ⟨x, l⟩
      · rfl
      · obtain ⟨b, off, e, _⟩ := h1 0 (by simp)
        cases e
    subst hl
    rw [run_convert_bytes_nil w _ _ Try.underlying27 Try.underlying5 _ _ _ Try.underlying9]
    rfl
  · rcases Nat.eq_zero_or_pos l.length with h0 | h0
    · have hl : l = [] := List.eq_nil_of_length_eq_zero h0
      subst hl
      have hl : (loadCells a 0).run Try.prog w = .ok (([] : List Int).map (Value.int .u8)).toArray w := by simpa using run_loadCells_list (P := Try.prog) w a [] (fun j v hj => by simp at hj)
      rw [run_convert_bytes_string w _ _ _ _ _ _ Try.underlying27 Try.underlying5 Try.underlying9, List.length_nil, run_bytesToString w a 0 c [] hl]
      rfl
    · obtain ⟨b, off, e, _⟩ := h1 0 h0
      cases e
      rw [run_convert_bytes_arg w _ _ Try.underlying27 Try.underlying5 b off l.length c (l.map fun x => (x.toNat : Int)) (by simp) (fun i hi => ?_) _ Try.underlying9, strOfNums_bytes]
      obtain ⟨b', off', e', _, _, h3⟩ := h1 i hi
      cases e'
      have := h3 0 (by omega)
      rw [Nat.mul_one, Nat.add_zero] at this
      rw [this]
      simp [List.getD_eq_getElem?_getD, List.getElem?_eq_getElem hi]
theorem BsAt.row {w : World} {S : Nat → Prop} {A : Option Addr} {n c : Nat} {l : Bs} (h : BsAt w S (.slice A n c) l) (h0 : 0 < n) : ∃ b off, A = some ⟨b, off, none⟩ ∧ n ≤ c ∧ c ≤ maxLen ∧ S b ∧ b < w.heap.size := by
  obtain ⟨hf, A', c', hv, _, h1⟩ := h
  cases hv
  obtain ⟨b, off, rfl, hS, hb, _⟩ := h1 0 h0
  rcases hf with h2 | ⟨a, n', c'', h2, h3, h4⟩
  · cases h2
  · injection h2 with _ e1 e2
    exact ⟨b, off, rfl, by omega, by omega, hS, hb⟩
theorem OwnBs.form' {w : World} {base : Nat} {v : Value} {l : Bs} (h : OwnBs w base v l) : ∃ A c, v = .slice A l.length c := by
  rcases h.2 with ⟨h1, h2⟩ | ⟨g, cap, cur, hv, _⟩
  · exact ⟨none, 0, by rw [h1, h2]⟩
  · exact ⟨_, _, hv⟩

theorem strCells_byV (l : Bs) : Lib.strCells (strB l) = byV l := rfl
/-- The new slice lies in the old one's row, or in a block that is new. -/
def Lies (w : World) (v V : Value) : Prop := V.ownBlock = v.ownBlock ∨ ∃ g, V.ownBlock = some g ∧ w.heap.size ≤ g
/-- What appending onto v leaves: a row of the call's own with the bytes l, all blocks but v's row as they were. -/
def RetApp (l : Bs) (base : Nat) (v : Value) (w : World) (e : Ending) (w' : World) : Prop := ∃ V, e = .returned V ∧ OwnBs w' base V l ∧ w.grownBy w' v.ownBlock ∧ Lies w v V
theorem grownBy_refl (w : World) (r : Option Nat) : w.grownBy w r := ⟨rfl, rfl, rfl, Nat.le_refl _, fun _ _ _ => rfl⟩
theorem grownBy_trans {w w1 w2 : World} {v V : Value} (h1 : w.grownBy w1 v.ownBlock) (hl : Lies w v V) (h2 : w1.grownBy w2 V.ownBlock) : w.grownBy w2 v.ownBlock := by
  refine ⟨h2.os.trans h1.os, h2.tape.trans h1.tape, h2.output.trans h1.output, Nat.le_trans h1.size h2.size, fun k hk hne => ?_⟩
  refine (h2.block k (Nat.lt_of_lt_of_le hk h1.size) fun e => ?_).trans (h1.block k hk hne)
  rcases hl with hl | ⟨g, hl, hg⟩
  · exact hne (e.trans hl)
  · rw [hl] at e
    cases e
    omega
theorem Lies.refl (w : World) (v : Value) : Lies w v v := .inl rfl
theorem Lies.trans {w w1 : World} {v V V2 : Value} (h1 : Lies w v V) (hs : w.heap.size ≤ w1.heap.size) (h2 : Lies w1 V V2) : Lies w v V2 := by
  rcases h2 with h2 | ⟨g, h2, hg⟩
  · rcases h1 with h1 | ⟨g, h1, hg⟩
    · exact .inl (h2.trans h1)
    · exact .inr ⟨g, h2.trans h1, hg⟩
  · exact .inr ⟨g, h2, by omega⟩
/-- First some new blocks, then writes to v's row. -/
theorem grownBy_below {w w1 w2 : World} {v : Value} (h1 : Below w.heap.size w w1) (h2 : w1.grownBy w2 v.ownBlock) : w.grownBy w2 v.ownBlock :=
  ⟨h2.os.trans h1.os, h2.tape.trans h1.tape, h2.output.trans h1.output, Nat.le_trans h1.size h2.size, fun k hk hne => (h2.block k (Nat.lt_of_lt_of_le hk h1.size) hne).trans (h1.block k hk)⟩
theorem Lies.below {w w1 : World} {v V : Value} (h1 : Below w.heap.size w w1) (h : Lies w1 v V) : Lies w v V := by
  rcases h with h | ⟨g, h, hg⟩
  · exact .inl h
  · exact .inr ⟨g, h, Nat.le_trans h1.size hg⟩
theorem OwnBs.lt {w : World} {base : Nat} {v : Value} {l : Bs} (h : OwnBs w base v l) {k : Nat} (hk : v.ownBlock = some k) : base ≤ k ∧ k < w.heap.size := World.ownsRow.lt h k hk
theorem OwnBs.below {w w1 : World} {base : Nat} {v : Value} {l : Bs} (h : OwnBs w base v l) (hb : Below w.heap.size w w1) : OwnBs w1 base v l := by
  obtain ⟨hl, h⟩ := h
  refine ⟨hl, ?_⟩
  rcases h with h | ⟨g, cap, cur, hv, hbg, hg, hr⟩
  · exact .inl h
  · exact .inr ⟨g, cap, cur, hv, hbg, (hb.block g (Array.getElem?_eq_some_iff.1 hg).1).trans hg, hr⟩
/-- A box that is not in v's row stays. -/
theorem Box.grown {w w' : World} {b : Nat} {xs : List Value} {v : Value} (h : Box w b xs) (hg : w.grownBy w' v.ownBlock) (hne : some b ≠ v.ownBlock) : Box w' b xs := h.same (hg.block b h.lt hne)
theorem below_grown {B : Nat} {a w w' : World} {base : Nat} {v : Value} {l : Bs} (h : Below B a w) (ho : OwnBs w base v l) (hB : B ≤ base) (hbs : B ≤ w.heap.size) (hg : w.grownBy w' v.ownBlock) : Below B a w' :=
  h.grown hg hbs fun k hk => Nat.le_trans hB (ho.lt hk).1

theorem nilOwn (w : World) (base : Nat) : OwnBs w base (.slice none 0 0) [] := ⟨rfl, .inl ⟨rfl, rfl⟩⟩
/-- append of one byte. -/
theorem app_one {w : World} {base bb : Nat} {v : Value} {l : Bs} (x : UInt8) (ho : OwnBs w base v l) (hX : Box w bb [.int .u8 (x.toNat : Int)]) (hbase : base ≤ w.heap.size) (hl : l.length ≤ 1000000000) :
    ∃ v' w', (appF #[27, 27] 27 #[v, .slice (some ⟨bb, 0, none⟩) 1 1]).run Try.prog w = .ok v' w' ∧ OwnBs w' base v' (l ++ [x]) ∧ w.grownBy w' v.ownBlock ∧ Lies w v v' := by
  obtain ⟨i, E⟩ := elem_by
  obtain ⟨v', w', hr, ho2, hg, _, hlies⟩ := run_append_own_at (P := Try.prog) w base 27 27 5 i (.int .u8 0) 1 1 E.ht E.hi E.hz E.hsize E.hby E.hzs E.hsz v l.length (byV l) ho ⟨bb, 0, none⟩ 1 1 [.int .u8 (x.toNat : Int)] rfl
    (fun j u hu => by
      rcases j with _ | j
      · cases hu
        exact hX.cell 0
      · cases hu)
    (fun u hu => by
      rw [List.mem_singleton] at hu
      subst hu
      rfl) (by simp only [maxLen]; omega) (by omega) hbase
  refine ⟨v', w', hr, ?_, hg, hlies.imp id fun h => ⟨_, h, Nat.le_refl _⟩⟩
  unfold OwnBs
  rw [List.length_append, byV_append]
  exact ho2
/-- append of bytes that lie elsewhere. -/
theorem app_bytes {w : World} {base : Nat} {v x : Value} {S : Nat → Prop} {l y : Bs} (ho : OwnBs w base v l) (hy : BsAt w S x y) (hbase : base ≤ w.heap.size) (hl : l.length + y.length ≤ 1000000000) :
    ∃ v' w', (appF #[27, 27] 27 #[v, x]).run Try.prog w = .ok v' w' ∧ OwnBs w' base v' (l ++ y) ∧ w.grownBy w' v.ownBlock ∧ Lies w v v' := by
  obtain ⟨i, E⟩ := elem_by
  obtain ⟨hf, hs⟩ := hy
  rcases hf with rfl | ⟨a, k, c, rfl, _, _⟩
  · have hl0 := hs.sl.none_zero.2
    obtain rfl : y = [] := List.eq_nil_of_length_eq_zero hl0
    exact ⟨v, w, run_append_owned_none (P := Try.prog) (w := w) base 27 27 5 i 1 E.ht E.hi v l.length _ ho, by rw [List.append_nil]; exact ho, grownBy_refl _ _, .inl rfl⟩
  · obtain ⟨rfl, hm, hsrc⟩ := hs.sl.src E.hsz
    rw [byV_flat] at hsrc
    obtain ⟨v', w', hr, ho2, hg, _, hlies⟩ := run_append_own_at (P := Try.prog) w base 27 27 5 i (.int .u8 0) 1 1 E.ht E.hi E.hz E.hsize E.hby E.hzs E.hsz v l.length (byV l) ho a y.length c (byV y) (by rw [byV_length, Nat.mul_one]) hsrc
      (fun u hu => by obtain ⟨b, _, rfl⟩ := List.mem_map.1 hu; rfl) (by simp only [maxLen]; omega) (by omega) hbase
    refine ⟨v', w', hr, ?_, hg, hlies.imp id fun h => ⟨_, h, Nat.le_refl _⟩⟩
    unfold OwnBs
    rw [List.length_append, byV_append]
    exact ho2
/-- append of a string's bytes. -/
theorem app_str {w : World} {base : Nat} {v : Value} {l s : Bs} (ho : OwnBs w base v l) (hbase : base ≤ w.heap.size) (hl : l.length + s.length ≤ 1000000000) :
    ∃ v' w', (appF #[27, 9] 27 #[v, .string (strB s)]).run Try.prog w = .ok v' w' ∧ OwnBs w' base v' (l ++ s) ∧ w.grownBy w' v.ownBlock ∧ Lies w v v' := by
  obtain ⟨i, E⟩ := elem_by
  have hsz : (strB s).size = s.length := rfl
  obtain ⟨v', w', hr, ho2, hg, _⟩ := Lib.run_append_own_string (P := Try.prog) w base 27 9 27 5 i E.ht Try.underlying9 E.hi E.hz E.hsize E.hby v l.length (byV l) ho (strB s) (by rw [hsz]; simp only [maxLen]; omega) (by rw [hsz]; omega) hbase
  rw [hsz, strCells_byV, ← byV_append] at ho2
  refine ⟨v', w', hr, ?_, hg, ?_⟩
  · unfold OwnBs
    rw [List.length_append]
    exact ho2
  · rcases ho.2 with ⟨rfl, h0⟩ | ⟨g, cap, cur, rfl, hbg, hgg, hnc, hcm, hcs, htake⟩
    · rcases Nat.eq_zero_or_pos s.length with h1 | h1
      · obtain rfl : s = [] := List.eq_nil_of_length_eq_zero h1
        obtain rfl : l = [] := List.eq_nil_of_length_eq_zero h0
        rcases ho2.2 with ⟨rfl, _⟩ | ⟨g, cap, cur, rfl, hbg, hgg, _⟩
        · exact .inl rfl
        · refine .inr ⟨g, rfl, ?_⟩
          rcases Nat.lt_or_ge g w.heap.size with hlt | hge
          · exfalso
            have hf := Lib.run_firstCells_string (P := Try.prog) w 1 (strB [])
            have hr2 : (appF #[27, 9] 27 #[.slice none 0 0, .string (strB [])]).run Try.prog w = .ok (.slice none 0 0) w := by
              have hz : (strB []).size = 0 := rfl
              rw [hz] at hf
              simp [appF, Builtin.append_, run_underlying Try.underlying27, run_underlying Try.underlying9, sizeOf, typeInfo, E.hi, E.hsize, Builtin.lenOf, hz, hf]
            have := hr.symm.trans hr2
            injection this with h3
            cases h3
          · exact hge
      · have hr2 := run_append_nil_string (P := Try.prog) w 27 9 27 5 i (.int .u8 0) E.ht Try.underlying9 E.hi E.hz (strB s) (by rw [hsz]; exact h1) (by rw [hsz]; omega) (by rw [hsz, E.hby]; omega)
        have := hr.symm.trans hr2
        injection this with h3
        rw [h3]
        exact .inr ⟨_, rfl, Nat.le_refl _⟩
    · have hcs' : cur.size = cap := by simpa using hcs
      by_cases hroom : l.length + (strB s).size ≤ cap
      · have hr2 := Lib.run_append_room_string (P := Try.prog) w 27 9 27 5 i E.ht Try.underlying9 E.hi E.hsize g l.length cap cur hgg (strB s) hroom (by omega)
        have := hr.symm.trans hr2
        injection this with h3
        rw [h3]
        exact .inl rfl
      · have hr2 := Lib.run_append_grow_string (P := Try.prog) w 27 9 27 5 i (.int .u8 0) E.ht Try.underlying9 E.hi E.hz ⟨g, 0, none⟩ l.length cap (byV l) (by rw [E.hsize, byV_length, Nat.mul_one]) (World.ownsRow.cells ho (g := g) rfl) (strB s) (by omega) (by rw [hsz]; omega) (by rw [E.hby]; exact growslice_fits (by omega) (by rw [hsz]; omega))
        have := hr.symm.trans hr2
        injection this with h3
        rw [h3]
        exact .inr ⟨_, rfl, Nat.le_refl _⟩

end Go.Proofs.Ytcokkloaljaanaa
