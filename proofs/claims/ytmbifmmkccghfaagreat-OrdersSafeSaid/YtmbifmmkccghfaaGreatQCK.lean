/- Slices of bytes as data; append onto a row of bytes that the call owns. No condition. -/
import Derived.Test.YtmbifmmkccghfaaGreatQBM
import Derived.Laws.BytesArg
import Derived.Lib.AppendStr
import Derived.Maps.AppendAt
import Derived.Laws.Bits64
import Derived.Laws.Bits64b
import Derived.Lib.MinMax
import Derived.BigQuiet
import Derived.Deep.QuietTactic
import Derived.Laws.EntriesVeiled
import Derived.RegionTactic
import Derived.BigRegion
import Derived.Deep.RegionHeld3
set_option linter.unusedVariables false
set_option linter.unusedSimpArgs false
set_option maxRecDepth 100000
set_option maxHeartbeats 4000000
namespace Go.Proofs.YtmbifmmkccghfaaGreat
open Go.RowKit
abbrev Bs := List UInt8
def BsAt (w : World) (S : Nat → Prop) (v : Value) (l : Bs) : Prop := SlF v ∧ SlP w S 1 l.length (fun i _ => .int .u8 ((l.getD i 0).toNat : Int)) v
theorem BsAt.keep {w w' : World} {S : Nat → Prop} {v : Value} {l : Bs} (h : BsAt w S v l) (hk : Keeps S w w') : BsAt w' S v l := ⟨h.1, h.2.keep hk⟩
theorem BsAt.weak {w : World} {S S' : Nat → Prop} {v : Value} {l : Bs} (h : BsAt w S v l) (hk : ∀ b, S b → b < w.heap.size → S' b) : BsAt w S' v l := ⟨h.1, h.2.weak hk⟩
theorem BsAt.form {w : World} {S : Nat → Prop} {v : Value} {l : Bs} (h : BsAt w S v l) : ∃ A c, v = .slice A l.length c ∧ l.length ≤ maxLen := h.2.form
theorem bsAt_nil (w : World) (S : Nat → Prop) : BsAt w S (.slice none 0 0) [] := ⟨.inl rfl, slP_nil w S 1 _⟩
theorem BsAt.cell {w : World} {S : Nat → Prop} {A : Option Addr} {n c : Nat} {l : Bs} (h : BsAt w S (.slice A n c) l) {k : Nat} (hk : k < l.length) :
    ∃ b off, A = some ⟨b, off, none⟩ ∧ S b ∧ b < w.heap.size ∧ w.cell? ⟨b, off + k, none⟩ = some (.int .u8 ((l.getD k 0).toNat : Int)) := by
  obtain ⟨_, A', c', hv, _, h1⟩ := h
  cases hv
  obtain ⟨b, off, rfl, hS, hb, h3⟩ := h1 k hk
  have := h3 0 (by omega)
  rw [Nat.mul_one, Nat.add_zero] at this
  exact ⟨b, off, rfl, hS, hb, this⟩
theorem Box.keep {w w' : World} {b D : Nat} {xs : List Value} (h : Box w b xs) (hb : b < D) (hB : Below D w w') : Box w' b xs := h.same (hB.block b hb)
theorem info_by : (Tryz.prog.info? 5).map (fun i => (i.zero, i.size, i.bytes)) = some (some (.int .u8 0), 1, 1) := by kernel_rfl
theorem elem_by : ∃ i, Elem 91 5 i (.int .u8 0) 1 1 := by
  obtain ⟨i, hi, h0, h1, h2⟩ := info_parts info_by
  exact ⟨i, Tryz.underlying91, hi, h0, h1, h2, rfl, by decide⟩
def byV (l : Bs) : List Value := l.map fun c => .int .u8 (c.toNat : Int)
theorem byV_length (l : Bs) : (byV l).length = l.length := by simp [byV]
theorem byV_append (l m : Bs) : byV (l ++ m) = byV l ++ byV m := by simp [byV]
theorem byV_flat (l : Bs) : flat l.length 1 (fun i _ => .int .u8 ((l.getD i 0).toNat : Int)) = byV l := by
  rw [flat_one]
  apply List.ext_getElem?
  intro i
  rcases Nat.lt_or_ge i l.length with hi | hi
  · simp [byV, hi]
  · simp [byV, hi]
def OwnBs (w : World) (base : Nat) (v : Value) (l : Bs) : Prop := w.ownsRow base 5 1 v l.length (byV l)
theorem OwnBs.bs {w : World} {base : Nat} {v : Value} {l : Bs} (h : OwnBs w base v l) (hm : l.length ≤ maxLen) : BsAt w (fun b => base ≤ b) v l := by
  unfold OwnBs at h
  rw [← byV_flat] at h
  obtain ⟨s, f⟩ := own_slp h hm
  exact ⟨f, s⟩
theorem OwnBs.form {w : World} {base : Nat} {v : Value} {l : Bs} (h : OwnBs w base v l) (h0 : 0 < l.length) : ∃ g c, v = .slice (some ⟨g, 0, none⟩) l.length c ∧ base ≤ g ∧ g < w.heap.size ∧ l.length ≤ c ∧ c ≤ maxLen := by
  rcases h.2 with ⟨_, h1⟩ | ⟨g, cap, cur, hv, hb, hg, hc, hcm, _⟩
  · omega
  · exact ⟨g, cap, hv, hb, (Array.getElem?_eq_some_iff.1 hg).1, hc, hcm⟩
theorem OwnBs.own {w : World} {base n c : Nat} {A : Option Addr} {l : Bs} (h : OwnBs w base (.slice A n c) l) (hl : l.length = n) (k : Nat) (hk : k < n) : ∃ b off, A = some ⟨b, off, none⟩ ∧ base ≤ b ∧ b < w.heap.size ∧ ∀ j, j < 1 → w.cell? ⟨b, off + (k * 1 + j), none⟩ = some (.int .u8 ((l.getD k 0).toNat : Int)) := by
  unfold OwnBs at h
  rw [hl, show byV l = flat n 1 (fun i _ => .int .u8 ((l.getD i 0).toNat : Int)) by rw [← hl, byV_flat]] at h
  rcases h.2 with ⟨h1, _⟩ | ⟨g, cap, cur, hv, hb, hg, hc, hcm, hs, hx⟩
  · injection h1 with _ h2; omega
  · cases hv
    have hlt : g < w.heap.size := (Array.getElem?_eq_some_iff.1 hg).1
    have hcell := h.cells (g := g) rfl
    refine ⟨g, 0, rfl, hb, hlt, fun j hj => ?_⟩
    have := hcell _ _ (flat_at (fun i _ => .int .u8 ((l.getD i 0).toNat : Int)) hk hj)
    rw [add_at] at this
    exact this
theorem strOfNums_bytes (l : Bs) : strOfNums (l.map fun x => (x.toNat : Int)) = strB l := by
  unfold strOfNums strB
  congr 1
  simp [List.map_map, Function.comp_def]
theorem BsAt.str {w : World} {S : Nat → Prop} {v : Value} {l : Bs} (h : BsAt w S v l) : (convert 91 9 v).run Tryz.prog w = .ok (.string (strB l)) w := by
  obtain ⟨_, A, c, rfl, hn, h1⟩ := h
  rcases A with _ | a
  · have hl : l = [] := by
      rcases l with _ | ⟨x, l⟩
      · rfl
      · obtain ⟨b, off, e, _⟩ := h1 0 (by simp)
        cases e
    subst hl
    rw [run_convert_bytes_nil w _ _ Tryz.underlying91 Tryz.underlying5 _ _ _ Tryz.underlying9]
    rfl
  · rcases Nat.eq_zero_or_pos l.length with h0 | h0
    · have hl : l = [] := List.eq_nil_of_length_eq_zero h0
      subst hl
      have hl : (loadCells a 0).run Tryz.prog w = .ok (([] : List Int).map (Value.int .u8)).toArray w := by simpa using run_loadCells_list (P := Tryz.prog) w a [] (fun j v hj => by simp at hj)
      rw [run_convert_bytes_string w _ _ _ _ _ _ Tryz.underlying91 Tryz.underlying5 Tryz.underlying9, List.length_nil, run_bytesToString w a 0 c [] hl]
      rfl
    · obtain ⟨b, off, e, _⟩ := h1 0 h0
      cases e
      rw [run_convert_bytes_arg w _ _ Tryz.underlying91 Tryz.underlying5 b off l.length c (l.map fun x => (x.toNat : Int)) (by simp) (fun i hi => ?_) _ Tryz.underlying9, strOfNums_bytes]
      obtain ⟨b', off', e', _, _, h3⟩ := h1 i hi
      cases e'
      have := h3 0 (by omega)
      rw [Nat.mul_one, Nat.add_zero] at this
      rw [this]
      simp [List.getD_eq_getElem?_getD, List.getElem?_eq_getElem hi]
theorem BsAt.row {w : World} {S : Nat → Prop} {A : Option Addr} {n c : Nat} {l : Bs} (h : BsAt w S (.slice A n c) l) (h0 : 0 < n) : ∃ b off, A = some ⟨b, off, none⟩ ∧ n ≤ c ∧ c ≤ maxLen ∧ S b ∧ b < w.heap.size := by
  obtain ⟨hf, A', c', hv, _, h1⟩ := h
  cases hv
  obtain ⟨b, off, rfl, hS, hb, _⟩ := h1 0 h0
  rcases hf with h2 | ⟨a, n', c'', h2, h3, h4⟩
  · cases h2
  · injection h2 with _ e1 e2
    exact ⟨b, off, rfl, by omega, by omega, hS, hb⟩
theorem strCells_byV (l : Bs) : Lib.strCells (strB l) = byV l := rfl
def Lies (w : World) (v V : Value) : Prop := V.ownBlock = v.ownBlock ∨ ∃ g, V.ownBlock = some g ∧ w.heap.size ≤ g
def RetApp (l : Bs) (base : Nat) (v : Value) (w : World) (e : Ending) (w' : World) : Prop := ∃ V, e = .returned V ∧ OwnBs w' base V l ∧ w.grownBy w' v.ownBlock ∧ Lies w v V
theorem grownBy_refl (w : World) (r : Option Nat) : w.grownBy w r := ⟨rfl, rfl, rfl, Nat.le_refl _, fun _ _ _ => rfl⟩
theorem grownBy_trans {w w1 w2 : World} {v V : Value} (h1 : w.grownBy w1 v.ownBlock) (hl : Lies w v V) (h2 : w1.grownBy w2 V.ownBlock) : w.grownBy w2 v.ownBlock := by
  refine ⟨h2.os.trans h1.os, h2.tape.trans h1.tape, h2.output.trans h1.output, Nat.le_trans h1.size h2.size, fun k hk hne => ?_⟩
  refine (h2.block k (Nat.lt_of_lt_of_le hk h1.size) fun e => ?_).trans (h1.block k hk hne)
  rcases hl with hl | ⟨g, hl, hg⟩
  · exact hne (e.trans hl)
  · rw [hl] at e
    cases e
    omega
theorem Lies.refl (w : World) (v : Value) : Lies w v v := .inl rfl
theorem Lies.trans {w w1 : World} {v V V2 : Value} (h1 : Lies w v V) (hs : w.heap.size ≤ w1.heap.size) (h2 : Lies w1 V V2) : Lies w v V2 := by
  rcases h2 with h2 | ⟨g, h2, hg⟩
  · rcases h1 with h1 | ⟨g, h1, hg⟩
    · exact .inl (h2.trans h1)
    · exact .inr ⟨g, h2.trans h1, hg⟩
  · exact .inr ⟨g, h2, by omega⟩
theorem grownBy_below {w w1 w2 : World} {v : Value} (h1 : Below w.heap.size w w1) (h2 : w1.grownBy w2 v.ownBlock) : w.grownBy w2 v.ownBlock :=
  ⟨h2.os.trans h1.os, h2.tape.trans h1.tape, h2.output.trans h1.output, Nat.le_trans h1.size h2.size, fun k hk hne => (h2.block k (Nat.lt_of_lt_of_le hk h1.size) hne).trans (h1.block k hk)⟩
theorem Lies.below {w w1 : World} {v V : Value} (h1 : Below w.heap.size w w1) (h : Lies w1 v V) : Lies w v V := by
  rcases h with h | ⟨g, h, hg⟩
  · exact .inl h
  · exact .inr ⟨g, h, Nat.le_trans h1.size hg⟩
theorem OwnBs.lt {w : World} {base : Nat} {v : Value} {l : Bs} (h : OwnBs w base v l) {k : Nat} (hk : v.ownBlock = some k) : base ≤ k ∧ k < w.heap.size := World.ownsRow.lt h k hk
theorem OwnBs.below {w w1 : World} {base : Nat} {v : Value} {l : Bs} (h : OwnBs w base v l) (hb : Below w.heap.size w w1) : OwnBs w1 base v l := by
  obtain ⟨hl, h⟩ := h
  refine ⟨hl, ?_⟩
  rcases h with h | ⟨g, cap, cur, hv, hbg, hg, hr⟩
  · exact .inl h
  · exact .inr ⟨g, cap, cur, hv, hbg, (hb.block g (Array.getElem?_eq_some_iff.1 hg).1).trans hg, hr⟩
theorem Box.grown {w w' : World} {b : Nat} {xs : List Value} {v : Value} (h : Box w b xs) (hg : w.grownBy w' v.ownBlock) (hne : some b ≠ v.ownBlock) : Box w' b xs := h.same (hg.block b h.lt hne)
theorem below_grown {B : Nat} {a w w' : World} {base : Nat} {v : Value} {l : Bs} (h : Below B a w) (ho : OwnBs w base v l) (hB : B ≤ base) (hbs : B ≤ w.heap.size) (hg : w.grownBy w' v.ownBlock) : Below B a w' :=
  h.grown hg hbs fun k hk => Nat.le_trans hB (ho.lt hk).1
theorem nilOwn (w : World) (base : Nat) : OwnBs w base (.slice none 0 0) [] := ⟨rfl, .inl ⟨rfl, rfl⟩⟩
theorem app_one {w : World} {base bb : Nat} {v : Value} {l : Bs} (x : UInt8) (ho : OwnBs w base v l) (hX : Box w bb [.int .u8 (x.toNat : Int)]) (hbase : base ≤ w.heap.size) (hl : l.length ≤ 1000000000) :
    ∃ v' w', (appF #[91, 91] 91 #[v, .slice (some ⟨bb, 0, none⟩) 1 1]).run Tryz.prog w = .ok v' w' ∧ OwnBs w' base v' (l ++ [x]) ∧ w.grownBy w' v.ownBlock ∧ Lies w v v' := by
  obtain ⟨i, E⟩ := elem_by
  obtain ⟨v', w', hr, ho2, hg, _, hlies⟩ := run_append_own_at (P := Tryz.prog) w base 91 91 5 i (.int .u8 0) 1 1 E.ht E.hi E.hz E.hsize E.hby E.hzs E.hsz v l.length (byV l) ho ⟨bb, 0, none⟩ 1 1 [.int .u8 (x.toNat : Int)] rfl
    (fun j u hu => by
      rcases j with _ | j
      · cases hu
        exact hX.cell 0
      · cases hu)
    (fun u hu => by
      rw [List.mem_singleton] at hu
      subst hu
      rfl) (by simp only [maxLen]; omega) (by omega) hbase
  refine ⟨v', w', hr, ?_, hg, hlies.imp id fun h => ⟨_, h, Nat.le_refl _⟩⟩
  unfold OwnBs
  rw [List.length_append, byV_append]
  exact ho2
theorem app_str {w : World} {base : Nat} {v : Value} {l s : Bs} (ho : OwnBs w base v l) (hbase : base ≤ w.heap.size) (hl : l.length + s.length ≤ 1000000000) :
    ∃ v' w', (appF #[91, 9] 91 #[v, .string (strB s)]).run Tryz.prog w = .ok v' w' ∧ OwnBs w' base v' (l ++ s) ∧ w.grownBy w' v.ownBlock ∧ Lies w v v' := by
  obtain ⟨i, E⟩ := elem_by
  have hsz : (strB s).size = s.length := rfl
  obtain ⟨v', w', hr, ho2, hg, _⟩ := Lib.run_append_own_string (P := Tryz.prog) w base 91 9 91 5 i E.ht Tryz.underlying9 E.hi E.hz E.hsize E.hby v l.length (byV l) ho (strB s) (by rw [hsz]; simp only [maxLen]; omega) (by rw [hsz]; omega) hbase
  rw [hsz, strCells_byV, ← byV_append] at ho2
  refine ⟨v', w', hr, ?_, hg, ?_⟩
  · unfold OwnBs
    rw [List.length_append]
    exact ho2
  · rcases ho.2 with ⟨rfl, h0⟩ | ⟨g, cap, cur, rfl, hbg, hgg, hnc, hcm, hcs, htake⟩
    · rcases Nat.eq_zero_or_pos s.length with h1 | h1
      · obtain rfl : s = [] := List.eq_nil_of_length_eq_zero h1
        obtain rfl : l = [] := List.eq_nil_of_length_eq_zero h0
        rcases ho2.2 with ⟨rfl, _⟩ | ⟨g, cap, cur, rfl, hbg, hgg, _⟩
        · exact .inl rfl
        · refine .inr ⟨g, rfl, ?_⟩
          rcases Nat.lt_or_ge g w.heap.size with hlt | hge
          · exfalso
            have hf := Lib.run_firstCells_string (P := Tryz.prog) w 1 (strB [])
            have hr2 : (appF #[91, 9] 91 #[.slice none 0 0, .string (strB [])]).run Tryz.prog w = .ok (.slice none 0 0) w := by
              have hz : (strB []).size = 0 := rfl
              rw [hz] at hf
              simp [appF, Builtin.append_, run_underlying Tryz.underlying91, run_underlying Tryz.underlying9, sizeOf, typeInfo, E.hi, E.hsize, Builtin.lenOf, hz, hf]
            have := hr.symm.trans hr2
            injection this with h3
            cases h3
          · exact hge
      · have hr2 := run_append_nil_string (P := Tryz.prog) w 91 9 91 5 i (.int .u8 0) E.ht Tryz.underlying9 E.hi E.hz (strB s) (by rw [hsz]; exact h1) (by rw [hsz]; omega) (by rw [hsz, E.hby]; omega)
        have := hr.symm.trans hr2
        injection this with h3
        rw [h3]
        exact .inr ⟨_, rfl, Nat.le_refl _⟩
    · have hcs' : cur.size = cap := by simpa using hcs
      by_cases hroom : l.length + (strB s).size ≤ cap
      · have hr2 := Lib.run_append_room_string (P := Tryz.prog) w 91 9 91 5 i E.ht Tryz.underlying9 E.hi E.hsize g l.length cap cur hgg (strB s) hroom (by omega)
        have := hr.symm.trans hr2
        injection this with h3
        rw [h3]
        exact .inl rfl
      · have hr2 := Lib.run_append_grow_string (P := Tryz.prog) w 91 9 91 5 i (.int .u8 0) E.ht Tryz.underlying9 E.hi E.hz ⟨g, 0, none⟩ l.length cap (byV l) (by rw [E.hsize, byV_length, Nat.mul_one]) (World.ownsRow.cells ho (g := g) rfl) (strB s) (by omega) (by rw [hsz]; omega) (by rw [E.hby]; exact growslice_fits (by omega) (by rw [hsz]; omega))
        have := hr.symm.trans hr2
        injection this with h3
        rw [h3]
        exact .inr ⟨_, rfl, Nat.le_refl _⟩
end Go.Proofs.YtmbifmmkccghfaaGreat
namespace Go.Proofs.YtmbifmmkccghfaaGreat
open Go.RowKit
def numT (u : Nat) : Bs := if u < 128 then [UInt8.ofNat u] else UInt8.ofNat (u % 128 + 128) :: numT (u / 128)
decreasing_by omega
theorem numT_small {u : Nat} (h : u < 128) : numT u = [UInt8.ofNat u] := by rw [numT, if_pos h]
theorem numT_big {u : Nat} (h : ¬ u < 128) : numT u = UInt8.ofNat (u % 128 + 128) :: numT (u / 128) := by rw [numT, if_neg h]
theorem numT_len (k : Nat) : ∀ u : Nat, u < 128 ^ k → 0 < k → (numT u).length ≤ k := by
  induction k with
  | zero => intro u _ h; omega
  | succ k ih =>
    intro u hu _
    by_cases h : u < 128
    · rw [numT_small h]; simp
    · rw [numT_big h, List.length_cons]
      rw [Nat.pow_succ] at hu
      have h2 : u / 128 < 128 ^ k := by omega
      have hk : 0 < k := by
        rcases Nat.eq_zero_or_pos k with rfl | hk
        · simp at h2; omega
        · exact hk
      have := ih _ h2 hk
      omega
theorem numT_le {u : Nat} (h : u < 18446744073709551616) : (numT u).length ≤ 10 := numT_len 10 u (by omega) (by decide)
theorem u8_nat {n : Nat} (h : n < 256) : ((UInt8.ofNat n).toNat : Int) = (n : Int) := by
  have : (UInt8.ofNat n).toNat = n := by simp; omega
  rw [this]
theorem or_128 : ∀ n : Fin 256, bits .or .u8 (n.val : Int) 128 = ((n.val % 128 + 128 : Nat) : Int) := by decide +kernel
theorem or_byte (u : Nat) : bits .or .u8 ((u : Int) % 256) 128 = ((UInt8.ofNat (u % 128 + 128)).toNat : Int) := by
  rw [u8_nat (by omega)]
  have h := or_128 ⟨u % 256, by omega⟩
  have e1 : ((u % 256 : Nat) : Int) = (u : Int) % 256 := by omega
  have e2 : u % 256 % 128 + 128 = u % 128 + 128 := by omega
  dsimp only at h
  rw [e1, e2] at h
  exact h
def zig (n : Int) : Nat := if 0 ≤ n then (2 * n).toNat else (-2 * n - 1).toNat
def zag (u : Nat) : Int := if u % 2 = 1 then -((u / 2 : Nat) : Int) - 1 else ((u / 2 : Nat) : Int)
theorem zig_lt {n : Int} (h1 : -9223372036854775808 ≤ n) (h2 : n ≤ 9223372036854775807) : zig n < 18446744073709551616 := by
  unfold zig; split <;> omega
theorem zag_zig (n : Int) : zag (zig n) = n := by
  unfold zig zag
  split
  · rw [if_neg (by omega)]; omega
  · rw [if_pos (by omega)]; omega
theorem zig_zag (u : Nat) : zig (zag u) = u := by
  unfold zig zag
  by_cases h : u % 2 = 1
  · rw [if_pos h, if_neg (by omega)]; omega
  · rw [if_neg h, if_pos (by omega)]; omega
theorem zag_range {u : Nat} (h : u < 18446744073709551616) : -9223372036854775808 ≤ zag u ∧ zag u ≤ 9223372036854775807 := by
  unfold zag; split <;> omega
theorem nat_xor_ones {a : Nat} (h : a < 18446744073709551616) : a ^^^ 18446744073709551615 = 18446744073709551615 - a := by
  have e : BitVec.ofNat 64 a ^^^ BitVec.allOnes 64 = ~~~ (BitVec.ofNat 64 a) := BitVec.xor_allOnes
  have e2 := congrArg BitVec.toNat e
  rw [BitVec.toNat_xor, BitVec.toNat_not, BitVec.toNat_ofNat, BitVec.toNat_allOnes, Nat.mod_eq_of_lt (by omega)] at e2
  exact e2
end Go.Proofs.YtmbifmmkccghfaaGreat
namespace Go.Proofs.YtmbifmmkccghfaaGreat
open Go.RowKit
attribute [local go_sem ↓ high] app_named
theorem cNumeral_any (u : Nat) (hu : u < 18446744073709551616) (base : Nat) (v : Value) (l : Bs) (w : World) (ho : OwnBs w base v l) (hbase : base ≤ w.heap.size) (hl : l.length ≤ 100000000) :
    Calls Tryz.prog 92 #[v, .int .u64 u] w (RetApp (l ++ numT u) base v w) := by
  have hlen := numT_le hu
  have HU := Lib.hid hu
  have hO := Lib.hid ho
  have hG := grownBy_refl w v.ownBlock
  have hL := Lies.refl w v
  have HL := Lib.hid hl
  have hlen2 : (l ++ numT u).length ≤ 100000010 := by rw [List.length_append]; omega
  obtain ⟨T, hT⟩ : ∃ T, l ++ numT u = T := ⟨_, rfl⟩
  rw [hT] at hlen2 ⊢
  have HT := Lib.hid hT
  clear hT hl ho hlen hu
  go_enter Tryz.func92, Tryz.ntmps92
  go_wp2
  go_loopw [0, 1] (fun b x wr => ∃ (V : Value) (un : Nat) (pre : Bs), b = V ∧ x = .int .u64 un ∧ Hid (un < 18446744073709551616) ∧ Hid (pre ++ numT un = T) ∧ Hid (OwnBs wr base V pre) ∧ w.grownBy wr v.ownBlock ∧ Lies w v V) (fun _ x _ => (intOf x).toNat)
  case atStart => exact ⟨v, u, l, rfl, rfl, HU, HT, hO, hG, hL⟩
  case round =>
    clear hO hG hL HU HL HT
    obtain ⟨V, un, pre, hVe, rfl, HU, HT, hO, hG, hL⟩ := hrel
    replace hVe := hVe.symm
    subst hVe
    have hpl : pre.length ≤ 100000010 := by
      have := congrArg List.length HT.out
      rw [List.length_append] at this
      omega
    have hbw := Nat.le_trans hbase hG.size
    have hun := HU.out
    have e1 : ∀ x : UInt8, ∃ v' w', (appF #[91, 91] 91 #[V, .slice (some ⟨wr.heap.size, 0, none⟩) 1 1]).run Tryz.prog (wr.alloc (.cells #[.int .u8 (x.toNat : Int)] 5)) = .ok v' w' ∧ OwnBs w' base v' (pre ++ [x]) ∧ w.grownBy w' v.ownBlock ∧ Lies w v v' := by
      intro x
      have hst := (Below.refl wr.heap.size wr).alloc (Nat.le_refl _) (.cells #[.int .u8 (x.toNat : Int)] 5)
      obtain ⟨v', w', hr, h1, h2, h3⟩ := app_one x (hO.out.below hst) (Box.new wr [.int .u8 (x.toNat : Int)] 5) (Nat.le_trans hbw hst.size) (by omega)
      exact ⟨v', w', hr, h1, grownBy_trans hG hL (grownBy_below hst h2), hL.trans hG.size (h3.below hst)⟩
    by_cases hlt : un < 128
    · obtain ⟨v', w', hr, h1, h2, h3⟩ := e1 (UInt8.ofNat un)
      rw [u8_nat (by omega)] at hr
      have HR : Hid (RetApp T base v w (.returned v') w') := ⟨v', rfl, by rw [← HT.out, numT_small hlt]; exact h1, h2, h3⟩
      clear h1 h2 h3 hO HT e1 hL hG HU hun hpl
      go_wp2
      go_ret
      exact HR.out
    · obtain ⟨v', w', hr, h1, h2, h3⟩ := e1 (UInt8.ofNat (un % 128 + 128))
      have hob := or_byte un
      rw [← hob] at hr
      have HT2 : Hid ((pre ++ [UInt8.ofNat (un % 128 + 128)]) ++ numT (un / 128) = T) := by
        rw [Hid, ← HT.out, numT_big hlt, List.append_assoc]
        rfl
      have HO2 := Lib.hid h1
      have HU2 : Hid (un / 128 < 18446744073709551616) := by rw [Hid]; omega
      clear h1 hO HT e1 hL hG HU hob
      have hn : 128 ≤ un := by omega
      clear hun
      go_wp2
      refine ⟨⟨v', un / 128, _, rfl, ?_, HU2, HT2, HO2, h2, h3⟩, ?_⟩
      · simp
      · simp [intOf]; omega
theorem wrap_u64' (n : Int) : IntKind.u64.wrap n = n % 18446744073709551616 := IntKind.wrap_u64 n
theorem cUnsigned_any (n : Int) (w : World) (h1 : -9223372036854775808 ≤ n) (h2 : n ≤ 9223372036854775807) :
    Calls Tryz.prog 93 #[.int .i64 n] w fun e w' => e = .returned (.int .u64 (zig n)) ∧ w = w' := by
  by_cases h0 : 0 ≤ n
  · have hz : bits .xor .u64 (n * 2) (n / 9223372036854775808) = (zig n : Int) := by
      have e1 : n * 2 = ((2 * n).toNat : Int) := by omega
      have e2 : n / 9223372036854775808 = ((0 : Nat) : Int) := by omega
      rw [e1, e2, bits_xor_u64_nat _ _ (by omega) (by decide), Nat.xor_zero, zig, if_pos h0]
    have HZ := Lib.hid hz
    clear hz
    go_enter Tryz.func93, Tryz.ntmps93
    go_wp2
    go_ret
    exact ⟨by rw [← HZ.out]; rfl, rfl⟩
  · have hz : bits .xor .u64 (IntKind.u64.wrap (IntKind.u64.wrap n * 2)) (IntKind.u64.wrap (n / 9223372036854775808)) = (zig n : Int) := by
      have e1 : IntKind.u64.wrap (IntKind.u64.wrap n * 2) = ((2 * n + 18446744073709551616).toNat : Int) := by rw [wrap_u64', wrap_u64']; omega
      have e2 : IntKind.u64.wrap (n / 9223372036854775808) = ((18446744073709551615 : Nat) : Int) := by rw [wrap_u64']; omega
      rw [e1, e2, bits_xor_u64_nat _ _ (by omega) (by decide), nat_xor_ones (by omega), zig, if_neg h0]
      omega
    have HZ := Lib.hid hz
    clear hz
    go_enter Tryz.func93, Tryz.ntmps93
    go_wp2
    go_ret
    exact ⟨by rw [← HZ.out]; rfl, rfl⟩
theorem bits_xor_i64_zero {a : Nat} (h : a < 9223372036854775808) : bits .xor .i64 (a : Int) 0 = (a : Int) := by
  show IntKind.i64.wrap ((BitVec.ofInt 64 (a : Int) ^^^ BitVec.ofInt 64 0).toNat : Int) = _
  have e : BitVec.ofInt 64 0 = 0#64 := rfl
  rw [e, BitVec.xor_zero, BitVec.ofInt_natCast, BitVec.toNat_ofNat, Nat.mod_eq_of_lt (by omega)]
  simp [IntKind.wrap, IntKind.bits, IntKind.signed]
  omega
theorem bits_xor_i64_ones {a : Nat} (h : a < 9223372036854775808) : bits .xor .i64 (a : Int) (-1) = -(a : Int) - 1 := by
  show IntKind.i64.wrap ((BitVec.ofInt 64 (a : Int) ^^^ BitVec.ofInt 64 (-1)).toNat : Int) = _
  have e : BitVec.ofInt 64 (-1) = BitVec.allOnes 64 := by decide
  rw [e, BitVec.xor_allOnes, BitVec.toNat_not, BitVec.ofInt_natCast, BitVec.toNat_ofNat, Nat.mod_eq_of_lt (by omega)]
  simp [IntKind.wrap, IntKind.bits, IntKind.signed]
  omega
theorem and_one (u : Nat) (h : u < 18446744073709551616) : bits .and .u64 (u : Int) 1 = ((u % 2 : Nat) : Int) := by
  have := bits_and_u64_nat u 1 h (by decide)
  rw [Nat.and_one_is_mod] at this
  exact this
theorem cSigned_any (u : Nat) (w : World) (h : u < 18446744073709551616) :
    Calls Tryz.prog 97 #[.int .u64 u] w fun e w' => e = .returned (.int .i64 (zag u)) ∧ w = w' := by
  have hz : bits .xor .i64 ((u : Int) / 2) (wrap64 (-wrap64 (bits .and .u64 (u : Int) 1))) = zag u := by
    rw [and_one u h]
    have e1 : (u : Int) / 2 = ((u / 2 : Nat) : Int) := by omega
    rw [e1, zag]
    by_cases h2 : u % 2 = 1
    · have e2 : wrap64 (-wrap64 ((u % 2 : Nat) : Int)) = -1 := by rw [h2]; simp [wrap64]
      rw [if_pos h2, e2, bits_xor_i64_ones (by omega)]
    · have h3 : u % 2 = 0 := by omega
      have e2 : wrap64 (-wrap64 ((u % 2 : Nat) : Int)) = 0 := by rw [h3]; simp [wrap64]
      rw [if_neg h2, e2, bits_xor_i64_zero (by omega)]
  have HZ := Lib.hid hz
  clear hz
  go_enter Tryz.func97, Tryz.ntmps97
  go_wp2
  go_ret
  exact ⟨by rw [← HZ.out]; rfl, rfl⟩
end Go.Proofs.YtmbifmmkccghfaaGreat
namespace Go.Proofs.YtmbifmmkccghfaaGreat
open Go.RowKit
def formT (x : Val) : Int × Bool := if x.okB = true then ((x.depth : Int), true) else (0, false)
theorem isEmpty_iff {s : List UInt8} : s.isEmpty = decide (s = []) := by cases s <;> rfl
theorem len_isEmpty {l : List Val} : l.isEmpty = decide (l.length = 0) := by cases l <;> rfl
theorem cFormed_other (k n : Int) (s : List UInt8) (A : Option Addr) (m c : Nat) (w : World) (h : k < 1 ∨ 3 < k) :
    Calls Tryz.prog 90 #[.agg #[.int .i64 k, .int .i64 n, .string (strB s), .slice A m c]] w fun e w' => e = .returned (.tuple #[.int .i64 0, .bool false]) ∧ Below w.heap.size w w' := by
  have hs := strB_toList s
  generalize strB s = b at *
  rcases h with h | h
  all_goals
    go_enter Tryz.func90, Tryz.ntmps90
    go_wp2
    all_goals first
      | omega
      | (go_ret2
         exact ⟨rfl, ((Below.refl _ _).alloc (Nat.le_refl _) _).alloc (by simp) _⟩)
theorem cFormed_1 (n : Int) (s : List UInt8) (A : Option Addr) (m c : Nat) (w : World) (hm : m ≤ 9223372036854775807) :
    Calls Tryz.prog 90 #[.agg #[.int .i64 1, .int .i64 n, .string (strB s), .slice A m c]] w fun e w' => e = .returned (.tuple #[.int .i64 0, .bool (decide (s = []) && decide (m = 0))]) ∧ Below w.heap.size w w' := by
  have hs := strB_toList s
  generalize strB s = b at *
  subst hs
  by_cases h1 : b.toList = []
  · by_cases h2 : m = 0
    · subst h2
      rw [h1]
      go_enter Tryz.func90, Tryz.ntmps90
      go_wp2
      all_goals
        go_ret2
        exact ⟨by simp, ((Below.refl _ _).alloc (Nat.le_refl _) _).alloc (by simp) _⟩
    · have e : (decide (b.toList = []) && decide (m = 0)) = false := by simp [h2]
      rw [e]
      have h3 : ((m : Int) == 0) = false := by simp; omega
      go_enter Tryz.func90, Tryz.ntmps90
      go_wp2
      all_goals
        go_ret2
        exact ⟨by simp, ((Below.refl _ _).alloc (Nat.le_refl _) _).alloc (by simp) _⟩
  · have e : (decide (b.toList = []) && decide (m = 0)) = false := by simp [h1]
    rw [e]
    clear e
    go_enter Tryz.func90, Tryz.ntmps90
    go_wp2
    all_goals
      go_ret2
      exact ⟨by simp, ((Below.refl _ _).alloc (Nat.le_refl _) _).alloc (by simp) _⟩
theorem cFormed_2 (n : Int) (s : List UInt8) (A : Option Addr) (m c : Nat) (w : World) (hm : m ≤ 9223372036854775807) :
    Calls Tryz.prog 90 #[.agg #[.int .i64 2, .int .i64 n, .string (strB s), .slice A m c]] w fun e w' => e = .returned (.tuple #[.int .i64 0, .bool (decide (n = 0) && decide (m = 0))]) ∧ Below w.heap.size w w' := by
  generalize strB s = b at *
  by_cases h1 : n = 0
  · subst h1
    by_cases h2 : m = 0
    · subst h2
      go_enter Tryz.func90, Tryz.ntmps90
      go_wp2
      all_goals
        go_ret2
        exact ⟨by simp, ((Below.refl _ _).alloc (Nat.le_refl _) _).alloc (by simp) _⟩
    · have e : (decide ((0 : Int) = 0) && decide (m = 0)) = false := by simp [h2]
      rw [e]
      have h3 : ((m : Int) == 0) = false := by simp; omega
      go_enter Tryz.func90, Tryz.ntmps90
      go_wp2
      all_goals
        go_ret2
        exact ⟨by simp, ((Below.refl _ _).alloc (Nat.le_refl _) _).alloc (by simp) _⟩
  · have e : (decide (n = 0) && decide (m = 0)) = false := by simp [h1]
    rw [e]
    clear e
    go_enter Tryz.func90, Tryz.ntmps90
    go_wp2
    all_goals
      go_ret2
      exact ⟨by simp, ((Below.refl _ _).alloc (Nat.le_refl _) _).alloc (by simp) _⟩
theorem cFormed_3no (n : Int) (s : List UInt8) (A : Option Addr) (m c : Nat) (w : World) (h : Hid (n ≠ 0 ∨ s ≠ [])) :
    Calls Tryz.prog 90 #[.agg #[.int .i64 3, .int .i64 n, .string (strB s), .slice A m c]] w fun e w' => e = .returned (.tuple #[.int .i64 0, .bool false]) ∧ Below w.heap.size w w' := by
  have hs := strB_toList s
  generalize strB s = b at *
  subst hs
  by_cases h1 : n = 0
  · have h2 : b.toList.isEmpty = false := by
      rcases h.out with h | h
      · exact absurd h1 h
      · cases hb : b.toList with
        | nil => exact absurd hb h
        | cons => rfl
    subst h1
    clear h
    go_enter Tryz.func90, Tryz.ntmps90
    go_wp2
    all_goals
      go_ret2
      exact ⟨rfl, ((Below.refl _ _).alloc (Nat.le_refl _) _).alloc (by simp) _⟩
  · clear h
    go_enter Tryz.func90, Tryz.ntmps90
    go_wp2
    all_goals
      go_ret2
      exact ⟨rfl, ((Below.refl _ _).alloc (Nat.le_refl _) _).alloc (by simp) _⟩
end Go.Proofs.YtmbifmmkccghfaaGreat
namespace Go.Proofs.YtmbifmmkccghfaaGreat
open Go.RowKit
def FormedAll (d : Nat) : Prop := ∀ (x : Val) (L : Value) (w : World), ValsAt w w.heap.size d L x.elems →
    Calls Tryz.prog 90 #[x.v L] w fun e w' => e = .returned (.tuple #[.int .i64 (formT x).1, .bool (formT x).2]) ∧ Below w.heap.size w w'
theorem form_ok {x : Val} (h : x.okB = true) : formT x = ((x.depth : Int), true) := if_pos h
theorem form_no {x : Val} (h : x.okB = false) : formT x = (0, false) := if_neg (by rw [h]; decide)
theorem form_leaf {x : Val} (h : x.depth = 0) : formT x = (0, x.okB) := by
  rcases hb : x.okB with _ | _
  · exact form_no hb
  · rw [form_ok hb, h]; rfl
theorem cFormed_3 (d : Nat) (hd : d ≤ 1000) (ih : ∀ d', d' < d → FormedAll d') (l : List Val) (A : Option Addr) (c : Nat) (w : World) (hV : ValsAt w w.heap.size d (.slice A l.length c) l) (rd : Int) (rb : Bool) (hr : Hid (formT (.mk 3 0 [] l) = (rd, rb))) :
    Calls Tryz.prog 90 #[.agg #[.int .i64 3, .int .i64 0, .string (strB []), .slice A l.length c]] w fun e w' => e = .returned (.tuple #[.int .i64 rd, .bool rb]) ∧ Below w.heap.size w w' := by
  obtain ⟨_, _, _, hm⟩ := hV.form
  unfold maxLen at hm
  have hs : (strB []).toList.isEmpty = true := by rw [strB_toList]; rfl
  obtain ⟨n, hn⟩ : ∃ n, l.length = n := ⟨_, rfl⟩
  rw [hn] at hm hV ⊢
  have HN := Lib.hid hn
  have HV := Lib.hid hV
  have IH := Lib.hid ih
  obtain ⟨z, hz⟩ : ∃ z, strB [] = z := ⟨_, rfl⟩
  rw [hz] at hs ⊢
  clear hn hV ih hz
  go_enter Tryz.func90, Tryz.ntmps90
  go_wp2
  go_loopw [2, 57] (fun dep i wr => ∃ k : Nat, k ≤ n ∧ i = .int .i64 k ∧ dep = .int .i64 (depthL (l.take k)) ∧ Hid (okL (l.take k) = true) ∧ Below w.heap.size w wr) (fun _ i _ => n - (intOf i).toNat)
  case atStart => exact ⟨0, Nat.zero_le _, rfl, by simp [depthL], Lib.hid rfl, ((Below.refl _ _).alloc (Nat.le_refl _) _).alloc (by simp) _⟩
  case round =>
    obtain ⟨k, hk, rfl, rfl, hok, hB⟩ := hrel
    by_cases hlt : k < n
    · have hlt' : k < l.length := by rw [HN.out]; exact hlt
      obtain ⟨d', b, off, V, rfl, rfl, hb, c0, c1, c2, c3, hE⟩ := HV.out.elem hlt'
      have htk := List.take_succ_eq_append_getElem hlt'
      have hnest := HV.out.depths k
      have hnx := hE.nest
      generalize l[k] = x at c0 c1 c2 c3 hE htk hnx
      obtain ⟨xk, xn, xs, xl⟩ := x
      obtain ⟨A', c', rfl, _⟩ := hE.form
      dsimp only [Val.kind, Val.num, Val.str, Val.elems] at c0 c1 c2 c3 hE
      have c0 := (hB.cell (p := ⟨b, off + k * 4, none⟩) hb).trans c0
      have c1 := (hB.cell (p := ⟨b, off + k * 4 + 1, none⟩) hb).trans c1
      have c2 := (hB.cell (p := ⟨b, off + k * 4 + 2, none⟩) hb).trans c2
      have c3 := (hB.cell (p := ⟨b, off + k * 4 + 3, none⟩) hb).trans c3
      have HE := Lib.hid ((hE.below hB).more hB.size)
      have HT := Lib.hid htk
      clear hE htk
      rcases hob : (Val.mk xk xn xs xl).okB with _ | _
      · have hno := form_no hob
        have hf : formT (.mk 3 0 [] l) = (0, false) := form_no (by
          have : okL (l.take (k + 1)) = false := by rw [HT.out, okL_snoc, hob, Bool.and_false]
          rw [Val.okB, if_neg (by decide), if_neg (by decide), if_pos rfl, okL_take this]
          simp)
        have HC := Lib.hid hno
        have HF := Lib.hid (hr.out.symm.trans hf)
        clear hob hno hf
        go_wp2_with fail
        refine (IH.out d' (by omega) (.mk xk xn xs xl) _ _ ((HE.out.below ((Below.refl _ _).alloc (Nat.le_refl _) _)).more (by simp))).mono ?_
        rw [HC.out]
        rintro e w1 ⟨rfl, hb1⟩
        have hB' := hB.trans ((((Below.refl wr.heap.size wr).alloc (Nat.le_refl _) _).trans (hb1.mono (by simp))).mono hB.size)
        clear hb1 hB
        go_wp2
        obtain ⟨h1, h2⟩ := Prod.mk.inj HF.out
        go_ret2
        exact ⟨by rw [h1, h2]; rfl, hB'⟩
      · have hyes := form_ok hob
        have hoe := hok.out
        obtain ⟨xd, hxd⟩ : ∃ xd, (Val.mk xk xn xs xl).depth = xd := ⟨_, rfl⟩
        have hxl : xd ≤ d' + 1 := by
          rw [← hxd]
          have := (Val.mk xk xn xs xl).depth_nest
          rw [Val.nest] at this
          simp only [Val.elems] at hnx
          omega
        rw [hxd] at hyes
        have HK := Lib.hid (show okL (l.take (k + 1)) = true by rw [HT.out, okL_snoc, hob, hoe]; rfl)
        have HD := Lib.hid (show depthL (l.take (k + 1)) = max (depthL (l.take k)) xd by rw [HT.out, depthL_snoc, hxd])
        have HC := Lib.hid hyes
        clear hob hyes hoe hxd hok
        generalize depthL (l.take k) = dl at hnest HD
        go_wp2_with fail
        refine (IH.out d' (by omega) (.mk xk xn xs xl) _ _ ((HE.out.below ((Below.refl _ _).alloc (Nat.le_refl _) _)).more (by simp))).mono ?_
        rw [HC.out]
        rintro e w1 ⟨rfl, hb1⟩
        have hB' := hB.trans ((((Below.refl wr.heap.size wr).alloc (Nat.le_refl _) _).trans (hb1.mono (by simp))).mono hB.size)
        clear hb1 hB
        go_wp2
        all_goals
          refine ⟨⟨k + 1, by omega, by go_num, ?_, HK, hB'⟩, by simp [intOf]; omega⟩
          rw [HD.out]
          first
            | rfl
            | (congr 1; omega)
    · obtain rfl : k = n := by omega
      have hfull : l.take k = l := List.take_of_length_le (by rw [HN.out]; exact Nat.le_refl _)
      have hdep := HV.out.depths k
      have hoe := hok.out
      rw [hfull] at hoe hdep ⊢
      have hf : formT (.mk 3 0 [] l) = (((depthL l + 1 : Nat) : Int), true) := by
        have h1 : (Val.mk 3 0 [] l).okB = true := by rw [Val.okB, if_neg (by decide), if_neg (by decide), if_pos rfl, hoe]; rfl
        rw [form_ok h1, Val.depth, if_pos rfl]
      have e : ((depthL l + 1 : Nat) : Int) = (depthL l : Int) + 1 := by omega
      rw [e] at hf
      have HF := Lib.hid (hr.out.symm.trans hf)
      clear hok hfull hoe hf e
      generalize depthL l = dl at hdep HF ⊢
      go_wp2
      obtain ⟨h1, h2⟩ := Prod.mk.inj HF.out
      go_ret2
      exact ⟨by rw [h1, h2]; rfl, hB⟩
theorem FormedAll.all (d : Nat) (hd : d ≤ 1000) : FormedAll d := by
  induction d using Nat.strongRecOn with
  | _ d ih =>
    intro x L w hV
    obtain ⟨k, n, s, l⟩ := x
    obtain ⟨A, c, rfl, hm⟩ := hV.form
    dsimp only [Val.elems] at hV hm
    dsimp only [Val.v, Val.kind, Val.num, Val.str]
    unfold maxLen at hm
    have hi : s.isEmpty = decide (s = []) := isEmpty_iff
    have hj : l.isEmpty = decide (l.length = 0) := len_isEmpty
    by_cases h1 : k = 1
    · subst h1
      have e : formT (.mk 1 n s l) = (0, (decide (s = []) && decide (l.length = 0))) := by
        have : (Val.mk 1 n s l).okB = (decide (s = []) && decide (l.length = 0)) := by rw [Val.okB, if_pos rfl, hi, hj]
        rw [form_leaf rfl, this]
      rw [e]
      exact cFormed_1 n s A _ c w (by simp [Val.elems] at hm ⊢; omega)
    by_cases h2 : k = 2
    · subst h2
      have e : formT (.mk 2 n s l) = (0, (decide (n = 0) && decide (l.length = 0))) := by
        have : (Val.mk 2 n s l).okB = (decide (n = 0) && decide (l.length = 0)) := by rw [Val.okB, if_neg (by decide), if_pos rfl, hj]
        rw [form_leaf rfl, this]
      rw [e]
      exact cFormed_2 n s A _ c w (by simp [Val.elems] at hm ⊢; omega)
    by_cases h3 : k = 3
    · subst h3
      by_cases h4 : n = 0 ∧ s = []
      · obtain ⟨rfl, rfl⟩ := h4
        exact cFormed_3 d hd (fun d' hd' => ih d' hd' (by omega)) l A c w hV _ _ (Lib.hid rfl)
      · have e : formT (.mk 3 n s l) = (0, false) := form_no (by
          rw [Val.okB, if_neg (by decide), if_neg (by decide), if_pos rfl, hi]
          by_cases h5 : n = 0
          · rw [decide_eq_false (p := s = []) (fun h6 => h4 ⟨h5, h6⟩)]; simp
          · rw [decide_eq_false h5]; rfl)
        rw [e]
        exact cFormed_3no n s A _ c w (by
          by_cases h5 : n = 0
          · exact Lib.hid (.inr fun h6 => h4 ⟨h5, h6⟩)
          · exact Lib.hid (.inl h5))
    · have e : formT (.mk k n s l) = (0, false) := form_no (by rw [Val.okB, if_neg h1, if_neg h2, if_neg h3])
      rw [e]
      exact cFormed_other k n s A _ c w (by omega)
end Go.Proofs.YtmbifmmkccghfaaGreat
namespace Go.Proofs.YtmbifmmkccghfaaGreat
open Go.RowKit
def chkT (x : Val) : Int := if x.okB = true then (if 16 < x.depth then 2 else 0) else 1
theorem chk_no {x : Val} (h : x.okB = false) : chkT x = 1 := if_neg (by rw [h]; decide)
theorem chk_deep {x : Val} (h : x.okB = true) (h2 : 16 < x.depth) : chkT x = 2 := by rw [chkT, if_pos h, if_pos h2]
theorem chk_ok {x : Val} (h : x.okB = true) (h2 : ¬ 16 < x.depth) : chkT x = 0 := by rw [chkT, if_pos h, if_neg h2]
theorem ValsAt.depth {w : World} {B d : Nat} {L : Value} {x : Val} (h : ValsAt w B d L x.elems) : x.depth ≤ d + 1 := by
  have h1 := h.nest
  have h2 := x.depth_nest
  rw [x.nest_elems] at h2
  omega
theorem cCheck_any (d : Nat) (hd : d ≤ 1000) (x : Val) (L : Value) (w : World) (hV : ValsAt w w.heap.size d L x.elems) :
    Calls Tryz.prog 78 #[x.v L] w fun e w' => e = .returned (.int .i64 (chkT x)) ∧ Below w.heap.size w w' := by
  obtain ⟨A, c, rfl, hm⟩ := hV.form
  have hst := (Below.refl w.heap.size w).alloc (Nat.le_refl _) (.cells #[.int .i64 x.kind, .int .i64 x.num, .string (strB x.str), .slice A x.elems.length c] 151)
  have HF := Lib.hid (FormedAll.all d hd x _ _ (hV.later hst))
  have hdep := hV.depth
  have hst := Lib.hid hst
  clear hV
  dsimp only [Val.v] at HF hst ⊢
  rcases hob : x.okB with _ | _
  · rw [form_no hob] at HF
    rw [chk_no hob]
    clear hob hdep
    generalize x.kind = k, x.num = n, strB x.str = s, x.elems.length = m at HF hst ⊢
    go_enter Tryz.func78, Tryz.ntmps78
    go_wp2_with fail
    refine HF.out.mono ?_
    rintro e w1 ⟨rfl, hb⟩
    go_wp2
    go_ret
    exact ⟨rfl, hst.out.trans (hb.mono (by simp))⟩
  · rw [form_ok hob] at HF
    by_cases h16 : 16 < x.depth
    · rw [chk_deep hob h16]
      clear hob
      generalize x.kind = k, x.num = n, strB x.str = s, x.elems.length = m, x.depth = dp at HF hst h16 hdep ⊢
      go_enter Tryz.func78, Tryz.ntmps78
      go_wp2_with fail
      refine HF.out.mono ?_
      rintro e w1 ⟨rfl, hb⟩
      go_wp2
      go_ret
      exact ⟨rfl, hst.out.trans (hb.mono (by simp))⟩
    · rw [chk_ok hob h16]
      clear hob
      generalize x.kind = k, x.num = n, strB x.str = s, x.elems.length = m, x.depth = dp at HF hst h16 hdep ⊢
      go_enter Tryz.func78, Tryz.ntmps78
      go_wp2_with fail
      refine HF.out.mono ?_
      rintro e w1 ⟨rfl, hb⟩
      go_wp2
      go_ret
      exact ⟨rfl, hst.out.trans (hb.mono (by simp))⟩
theorem ok_of_list {n : Int} {s : List UInt8} {l : List Val} : (Val.mk 3 n s l).okB = (decide (n = 0) && (s.isEmpty && okL l)) := by rw [Val.okB, if_neg (by decide), if_neg (by decide), if_pos rfl]
end Go.Proofs.YtmbifmmkccghfaaGreat
namespace Go.Proofs.YtmbifmmkccghfaaGreat
open Go.RowKit
theorem depth_list {n : Int} {s : List UInt8} {l : List Val} : (Val.mk 3 n s l).depth = depthL l + 1 := by rw [Val.depth, if_pos rfl]
end Go.Proofs.YtmbifmmkccghfaaGreat
namespace Go.Proofs.YtmbifmmkccghfaaGreat
open Go.RowKit
mutual
def Val.same : Val → Val → Bool
  | .mk k n s l, .mk k' n' s' l' => decide (k = k') && (decide (n = n') && (decide (s = s') && sameL l l'))
def sameL : List Val → List Val → Bool
  | [], [] => true
  | [], _ :: _ => false
  | _ :: _, [] => false
  | x :: l, y :: m => x.same y && sameL l m
end
mutual
theorem Val.same_iff : ∀ x y : Val, x.same y = true ↔ x = y
  | .mk k n s l, .mk k' n' s' l' => by
    rw [Val.same, Bool.and_eq_true, Bool.and_eq_true, Bool.and_eq_true, decide_eq_true_eq, decide_eq_true_eq, decide_eq_true_eq, sameL_iff l l', Val.mk.injEq]
theorem sameL_iff : ∀ l m : List Val, sameL l m = true ↔ l = m
  | [], [] => by simp [sameL]
  | [], _ :: _ => by simp [sameL]
  | _ :: _, [] => by simp [sameL]
  | x :: l, y :: m => by rw [sameL, Bool.and_eq_true, Val.same_iff x y, sameL_iff l m, List.cons.injEq]
end
theorem sameL_all {l m : List Val} (hl : l.length = m.length) (h : ∀ k (h1 : k < l.length) (h2 : k < m.length), (l[k]).same m[k] = true) : sameL l m = true := by
  refine (sameL_iff l m).2 (List.ext_getElem hl fun k h1 h2 => ((l[k]).same_iff m[k]).1 (h k h1 h2))
def SamePre (l m : List Val) (k : Nat) : Prop := ∀ j (h1 : j < l.length) (h2 : j < m.length), j < k → (l[j]).same m[j] = true
theorem SamePre.zero (l m : List Val) : SamePre l m 0 := fun j _ _ h => by omega
theorem SamePre.full {l m : List Val} {n : Nat} (h : SamePre l m n) (h1 : l.length = n) (h2 : m.length = n) : sameL l m = true :=
  sameL_all (h1.trans h2.symm) fun k a b => h k a b (by omega)
theorem strB_inj {s t : List UInt8} : strB s = strB t ↔ s = t := by
  constructor
  · intro h
    have := congrArg ByteArray.toList h
    rwa [strB_toList, strB_toList] at this
  · rintro rfl; rfl
end Go.Proofs.YtmbifmmkccghfaaGreat
namespace Go.Proofs.YtmbifmmkccghfaaGreat
open Go.RowKit
end Go.Proofs.YtmbifmmkccghfaaGreat
namespace Go.Proofs.YtmbifmmkccghfaaGreat
open Go.RowKit
end Go.Proofs.YtmbifmmkccghfaaGreat
namespace Go.Proofs.YtmbifmmkccghfaaGreat
open Go.RowKit
mutual
/-- Numbers are in their range, and no string is longer than a string can be. -/
def Val.fits : Val → Prop
  | .mk _ n s l => (-9223372036854775808 ≤ n ∧ n ≤ 9223372036854775807) ∧ (s.length ≤ maxLen ∧ l.length ≤ maxLen) ∧ fitsL l
def fitsL : List Val → Prop
  | [] => True
  | x :: l => x.fits ∧ fitsL l
end
theorem fits_mem {l : List Val} (h : fitsL l) {x : Val} (hx : x ∈ l) : x.fits := by
  induction l with
  | nil => cases hx
  | cons y l ih =>
    rw [fitsL] at h
    rcases List.mem_cons.1 hx with rfl | hx
    · exact h.1
    · exact ih h.2 hx
theorem Val.fits.parts {x : Val} (h : x.fits) : (-9223372036854775808 ≤ x.num ∧ x.num ≤ 9223372036854775807) ∧ (x.str.length ≤ maxLen ∧ x.elems.length ≤ maxLen) ∧ fitsL x.elems := by
  obtain ⟨k, n, s, l⟩ := x
  rw [Val.fits] at h
  exact h
theorem Val.fits.nums {x : Val} (h : x.fits) : -9223372036854775808 ≤ x.num ∧ x.num ≤ 9223372036854775807 := h.parts.1
theorem Val.fits.strs {x : Val} (h : x.fits) : x.str.length ≤ maxLen := h.parts.2.1.1
theorem Val.fits.lens {x : Val} (h : x.fits) : x.elems.length ≤ maxLen := h.parts.2.1.2
theorem Val.fits.els {x : Val} (h : x.fits) : fitsL x.elems := h.parts.2.2
end Go.Proofs.YtmbifmmkccghfaaGreat
namespace Go.Proofs.YtmbifmmkccghfaaGreat
open Go.RowKit
end Go.Proofs.YtmbifmmkccghfaaGreat
namespace Go.Proofs.YtmbifmmkccghfaaGreat
open Go.RowKit
attribute [local go_sem ↓ high] app_named
mutual
/-- The encoding of a value. -/
def Val.enc : Val → Bs
  | .mk k n s l => if k = 1 then 1 :: numT (zig n) else if k = 2 then 2 :: (numT s.length ++ s) else 3 :: (numT l.length ++ encL l)
def encL : List Val → Bs
  | [] => []
  | x :: l => x.enc ++ encL l
end
theorem enc_1 {n : Int} {s : Bs} {l : List Val} : (Val.mk 1 n s l).enc = [1] ++ numT (zig n) := by rw [Val.enc, if_pos rfl]; rfl
theorem enc_2 {n : Int} {s : Bs} {l : List Val} : (Val.mk 2 n s l).enc = [2] ++ numT s.length ++ s := by rw [Val.enc, if_neg (by decide), if_pos rfl, List.append_assoc]; rfl
theorem enc_3 {n : Int} {s : Bs} {l : List Val} : (Val.mk 3 n s l).enc = [3] ++ numT l.length ++ encL l := by rw [Val.enc, if_neg (by decide), if_neg (by decide), List.append_assoc]; rfl
theorem encL_append (l m : List Val) : encL (l ++ m) = encL l ++ encL m := by
  induction l with
  | nil => rfl
  | cons x l ih => rw [List.cons_append, encL, encL, ih, List.append_assoc]
theorem encL_snoc (l : List Val) (x : Val) : encL (l ++ [x]) = encL l ++ x.enc := by rw [encL_append, encL, encL, List.append_nil]
def Wtr (w : World) (pb cb : Nat) : Prop :=
  Box w pb [.nilFunc, .func (.func 91) #[] #[], .func (.func 94) #[] #[], .func (.func 95) #[] #[.pointer (some ⟨cb, 0, none⟩)]] ∧ Box w cb [.pointer (some ⟨pb, 0, none⟩)]
theorem Wtr.below {w w' : World} {pb cb B : Nat} (h : Wtr w pb cb) (h1 : pb < B) (h2 : cb < B) (hb : Below B w w') : Wtr w' pb cb := ⟨h.1.keep h1 hb, h.2.keep h2 hb⟩
theorem newWriter_any (w : World) : Calls Tryz.prog 79 #[] w fun e w' => e = .returned (.pointer (some ⟨w.heap.size, 0, none⟩)) ∧ Hid (Wtr w' w.heap.size (w.heap.size + 1)) ∧ Below w.heap.size w w' ∧ w.heap.size + 2 ≤ w'.heap.size := by
  go_enter Tryz.func79, Tryz.ntmps79
  go_wp2
  go_ret
  refine ⟨rfl, Lib.hid ⟨?_, ?_⟩, ((Below.refl _ _).alloc (Nat.le_refl _) _).alloc (by simp) _, by simp⟩
  · exact (Box.new w [.nilFunc, .func (.func 91) #[] #[], .func (.func 94) #[] #[], .func (.func 95) #[] #[.pointer (some ⟨w.heap.size + 1, 0, none⟩)]] _).alloc _
  · exact Box.newAt [.pointer (some ⟨w.heap.size, 0, none⟩)] _ (by simp)
theorem cW1_any (n : Int) (h1 : -9223372036854775808 ≤ n) (h2 : n ≤ 9223372036854775807) (sb : ByteArray) (A : Option Addr) (m c : Nat) (base : Nat) (v : Value) (l : Bs) (w : World) (ho : OwnBs w base v l) (hbase : base ≤ w.heap.size) (hl : l.length ≤ 90000000) :
    Calls Tryz.prog 91 #[v, .agg #[.int .i64 1, .int .i64 n, .string sb, .slice A m c]] w (RetApp (l ++ ([1] ++ numT (zig n))) base v w) := by
  have hst := (Below.refl w.heap.size w).alloc (Nat.le_refl _) (.cells #[.int .i64 1, .int .i64 n, .string sb, .slice A m c] 151)
  have hst2 := (hst.drew).alloc (by simp) (.cells #[.int .u8 1] 5)
  have X := Box.newAt (w := (w.alloc (.cells #[.int .i64 1, .int .i64 n, .string sb, .slice A m c] 151)).drew) (n := w.heap.size + 1) [.int .u8 1] 5 (by simp)
  obtain ⟨v', w', hr, hO, hg, hL⟩ := app_one 1 (ho.below hst2) X (Nat.le_trans hbase hst2.size) (by omega)
  have HN := Lib.hid (cNumeral_any (zig n) (zig_lt h1 h2) base v' (l ++ [1]) w' hO (Nat.le_trans hbase (Nat.le_trans hst2.size hg.size)) (by rw [List.length_append]; simp; omega))
  have HG := Lib.hid (grownBy_below hst2 hg)
  have HL := Lib.hid (hL.below hst2)
  have HH := Lib.hid (Nat.le_trans hst2.size hg.size)
  have hE : (l ++ [1]) ++ numT (zig n) = l ++ ([1] ++ numT (zig n)) := List.append_assoc _ _ _
  rw [hE] at HN
  generalize l ++ ([1] ++ numT (zig n)) = T at HN ⊢
  have R : (appF #[91, 91] 91 #[v, .slice (some ⟨w.heap.size + 1, 0, none⟩) 1 1]).run Tryz.prog ((w.alloc (.cells #[.int .i64 1, .int .i64 n, .string sb, .slice A m c] 151)).alloc (.cells #[.int .u8 1] 5)).drew = .ok v' w' := hr
  have Y := (Box.new w [.int .i64 1, .int .i64 n, .string sb, .slice A m c] 151).drew.alloc (.cells #[.int .u8 1] 5)
  have Y2 := Y.grown hg (fun e => by have := (ho.lt e.symm).2; omega)
  have y1 : w'.cell? ⟨w.heap.size, 1, none⟩ = some (.int .i64 n) := Y2.cell 1
  have yz : w.heap.size < w'.heap.size := Y2.lt
  have hne : Hid (some w.heap.size ≠ v'.ownBlock) := by
    rcases hL with h | ⟨g, h, hg2⟩
    · rw [Hid, h]
      exact fun e => by have := (ho.lt e.symm).2; omega
    · rw [Hid, h]
      intro e
      injection e with e
      simp at hg2
      omega
  clear hr hO hg hL hst hst2 X ho hE Y Y2
  go_enter Tryz.func91, Tryz.ntmps91
  go_wp2_with fail
  go_region_held3 (fun w' => w'.cell? ⟨w.heap.size, 1, none⟩ = some (.int .i64 n)) (go_keep) (first | (go_at_call 93; refine (cUnsigned_any n _ h1 h2).mono ?_; rintro e w9 ⟨rfl, rfl⟩) | (go_at_call 92; refine HN.out.mono ?_; rintro e w9 ⟨V, rfl, hOV, hGV, hLV⟩; have y9 := hGV.cell y1 hne.out))
  all_goals
    have HR : Hid (RetApp T base v w (.returned V) w9) := ⟨V, rfl, hOV, grownBy_trans HG.out HL.out hGV, HL.out.trans HH.out hLV⟩
    clear hOV hGV hLV HG HL HH R HN y9 y1
    go_wp2
    go_ret
    exact HR.out
theorem cW2_any (n : Int) (s : Bs) (hs : s.length ≤ 9223372036854775807) (A : Option Addr) (m c : Nat) (base : Nat) (v : Value) (l : Bs) (w : World) (ho : OwnBs w base v l) (hbase : base ≤ w.heap.size) (hl : l.length + s.length ≤ 90000000) :
    Calls Tryz.prog 94 #[v, .agg #[.int .i64 2, .int .i64 n, .string (strB s), .slice A m c]] w (RetApp (l ++ ([2] ++ numT s.length ++ s)) base v w) := by
  have hst := (Below.refl w.heap.size w).alloc (Nat.le_refl _) (.cells #[.int .i64 2, .int .i64 n, .string (strB s), .slice A m c] 151)
  have hst2 := (hst.drew).alloc (by simp) (.cells #[.int .u8 2] 5)
  have X := Box.newAt (w := (w.alloc (.cells #[.int .i64 2, .int .i64 n, .string (strB s), .slice A m c] 151)).drew) (n := w.heap.size + 1) [.int .u8 2] 5 (by simp)
  obtain ⟨v', w', hr, hO, hg, hL⟩ := app_one 2 (ho.below hst2) X (Nat.le_trans hbase hst2.size) (by omega)
  have HN := Lib.hid (cNumeral_any s.length (by omega) base v' (l ++ [2]) w' hO (Nat.le_trans hbase (Nat.le_trans hst2.size hg.size)) (by rw [List.length_append]; simp; omega))
  have HG := Lib.hid (grownBy_below hst2 hg)
  have HL := Lib.hid (hL.below hst2)
  have HH := Lib.hid (Nat.le_trans hst2.size hg.size)
  have R : (appF #[91, 91] 91 #[v, .slice (some ⟨w.heap.size + 1, 0, none⟩) 1 1]).run Tryz.prog ((w.alloc (.cells #[.int .i64 2, .int .i64 n, .string (strB s), .slice A m c] 151)).alloc (.cells #[.int .u8 2] 5)).drew = .ok v' w' := hr
  have Y := (Box.new w [.int .i64 2, .int .i64 n, .string (strB s), .slice A m c] 151).drew.alloc (.cells #[.int .u8 2] 5)
  have Y2 := Y.grown hg (fun e => by have := (ho.lt e.symm).2; omega)
  have y1 : w'.cell? ⟨w.heap.size, 2, none⟩ = some (.string (strB s)) := Y2.cell 2
  have yz : w.heap.size < w'.heap.size := Y2.lt
  have hne : Hid (some w.heap.size ≠ v'.ownBlock) := by
    rcases hL with h | ⟨g, h, hg2⟩
    · rw [Hid, h]
      exact fun e => by have := (ho.lt e.symm).2; omega
    · rw [Hid, h]
      intro e
      injection e with e
      simp at hg2
      omega
  have hE : ((l ++ [2]) ++ numT s.length) ++ s = l ++ ([2] ++ numT s.length ++ s) := by rw [List.append_assoc, List.append_assoc, List.append_assoc]
  have HE := Lib.hid hE
  have hll : ((l ++ [2]) ++ numT s.length).length + s.length ≤ 1000000000 := by
    have := numT_le (u := s.length) (by omega)
    simp only [List.length_append, List.length_singleton]
    omega
  have HLL := Lib.hid hll
  have hsz : (strB s).size = s.length := rfl
  have HSZ := Lib.hid hsz
  have hsz2 : (strB s).size ≤ 9223372036854775807 := by rw [hsz]; omega
  rw [← hsz] at HN
  have hap : ∀ V w9, Hid (w9.heap.size ≥ w'.heap.size) → OwnBs w9 base V ((l ++ [2]) ++ numT s.length) → ∃ v2 w10, (appF #[91, 9] 91 #[V, .string (strB s)]).run Tryz.prog w9 = .ok v2 w10 ∧ OwnBs w10 base v2 (l ++ ([2] ++ numT s.length ++ s)) ∧ w9.grownBy w10 V.ownBlock ∧ Lies w9 V v2 := by
    intro V w9 hz hO9
    rw [← HE.out]
    exact app_str hO9 (Nat.le_trans hbase (Nat.le_trans HH.out hz.out)) HLL.out
  have HAP := Lib.hid hap
  clear hap hr hO hg hL hst hst2 X hE Y Y2 hll HLL HE hsz
  generalize hT : l ++ ([2] ++ numT s.length ++ s) = T at HAP ⊢
  clear hT
  rw [HSZ.out] at HN
  generalize l ++ [2] ++ numT s.length = T1 at HN HAP
  rw [← HSZ.out] at HN
  clear HSZ
  generalize strB s = sb at R y1 HAP HN hsz2 ⊢
  go_enter Tryz.func94, Tryz.ntmps94
  go_wp2_with fail
  have hwr : IntKind.u64.wrap (sb.size : Int) = (sb.size : Int) := by rw [wrap_u64']; omega
  go_region_held3 (fun w' => w'.cell? ⟨w.heap.size, 2, none⟩ = some (.string sb)) (go_keep) (((go_at_call 92; (with_reducible refine HN.out.mono ?_); rintro e w9 ⟨V, rfl, hOV, hGV, hLV⟩; obtain ⟨v2, w10, hr2, hO2, hG2, hL2⟩ := HAP.out V w9 hGV.size hOV; have y9 := hGV.cell y1 hne.out; have hne9 : Hid (some w.heap.size ≠ V.ownBlock) := (by rcases hLV with h | ⟨g, h, hg9⟩ <;> rw [Hid, h]; exact hne.out; exact fun e => by injection e with e; omega); have y10 := hG2.cell y9 hne9.out)))
  all_goals
    have HR : Hid (RetApp T base v w (.returned v2) w10) := ⟨v2, rfl, hO2, grownBy_trans HG.out HL.out (grownBy_trans hGV hLV hG2), HL.out.trans HH.out (hLV.trans hGV.size hL2)⟩
    clear hOV hGV hLV HG HL HH R HN y9 y1 hr2 hO2 hG2 hL2 y10 HAP
    go_wp2
    go_ret
    exact HR.out
end Go.Proofs.YtmbifmmkccghfaaGreat
