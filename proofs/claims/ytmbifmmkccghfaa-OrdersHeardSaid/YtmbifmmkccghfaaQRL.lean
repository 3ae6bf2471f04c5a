/- Rows of messages sent: made, copied, grown by one; bytes both ways. No condition. -/
import Derived.Test.YtmbifmmkccghfaaQRI
import Derived.Test.YtmbifmmkccghfaaQRK
import Derived.Test.YtmbifmmkccghfaaQCA
import Derived.Test.YtmbifmmkccghfaaQKG
import Derived.Laws.CopyRow
import Derived.Test.YtmbifmmkccghfaaQGP
import Derived.Test.YtmbifmmkccghfaaQNR
set_option linter.unusedVariables false
set_option linter.unusedSimpArgs false
namespace Go.Proofs.Ytmbifmmkccghfaa
open Go.RowKit

theorem bytes_of {w : World} {S : Nat → Prop} {V : Value} {l : Bs} (h : BsAt w S V l) : BytesAt w w.heap.size V l := by
  obtain ⟨h0, A, c, hv, hn, h1⟩ := h
  refine ⟨h0, A, c, hv, hn, fun i hi => ?_⟩
  obtain ⟨b, off, hA, _, hb, h2⟩ := h1 i hi
  exact ⟨b, off, hA, hb, h2⟩
abbrev oEncM (m : Int × Int) : List Value := [.int .i64 m.1, .int .i64 m.2]
def lkL (l : List (Int × Int)) : List Value := l.flatMap oEncM
theorem lkL_length (l : List (Int × Int)) : (lkL l).length = l.length * 2 := by
  induction l with
  | nil => rfl
  | cons x l ih =>
    simp only [lkL, List.flatMap_cons, List.length_append, List.length_cons, List.length_nil] at ih ⊢
    omega
theorem lkL_append (l m : List (Int × Int)) : lkL (l ++ m) = lkL l ++ lkL m := List.flatMap_append
theorem oneM (m : Int × Int) : ∀ u ∈ oEncM m, u.oneCell' = true := by
  intro u hu
  simp at hu
  rcases hu with rfl | rfl <;> rfl
theorem one_lkL {l : List (Int × Int)} : ∀ u ∈ lkL l, u.oneCell' = true := by
  intro u hu
  obtain ⟨m, _, hm⟩ := List.mem_flatMap.1 hu
  exact oneM m u hm
theorem lkL_at {l : List (Int × Int)} {k : Nat} (hk : k < l.length) : (lkL l)[k * 2]? = some (.int .i64 (l.getD k (0, 0)).1) ∧ (lkL l)[k * 2 + 1]? = some (.int .i64 (l.getD k (0, 0)).2) := by
  have h0 := flatMap_at (enc := oEncM) (size := 2) (fun _ => rfl) l k 0 hk (by decide)
  have h1 := flatMap_at (enc := oEncM) (size := 2) (fun _ => rfl) l k 1 hk (by decide)
  rw [gd_at hk]
  exact ⟨h0, h1⟩
theorem oElemM : ∃ i, Elem 26 48 i (.agg #[.int .i64 0, .int .i64 0]) 2 16 := by
  obtain ⟨i, h1, h2, h3, h4⟩ := info_parts (show (Try.prog.info? 48).map (fun i => (i.zero, i.size, i.bytes)) = some (some (.agg #[.int .i64 0, .int .i64 0]), 2, 16) by kernel_rfl)
  exact ⟨i, Try.underlying26, h1, h2, h3, h4, by decide, by decide⟩
theorem oMade2 (v : Value) (n : Nat) : madeCells #[v, v] n = (List.replicate n v).toArray := by
  rw [madeCells]
  apply Array.ext'
  apply List.ext_getElem?
  intro i
  rcases Nat.lt_or_ge i n with hi | hi
  · rcases Nat.mod_two_eq_zero_or_one i with h | h <;> simp [hi, h]
  · simp [hi]
theorem oMakeM (n : Nat) (hn : n ≤ 8192) (w : World) : (Instr.makeSlice 26 (.int .i64 (n : Int)) (.int .i64 (n : Int))).run Try.prog w = .ok (.slice (some ⟨w.heap.size, 0, none⟩) n n) (w.alloc (.cells (List.replicate (n * 2) (Value.int .i64 0)).toArray 48)) := by
  obtain ⟨i, h1, h2, h3, h4⟩ := info_parts (show (Try.prog.info? 48).map (fun i => (i.zero, i.size, i.bytes)) = some (some (.agg #[.int .i64 0, .int .i64 0]), 2, 16) by kernel_rfl)
  have := run_makeSlice (P := Try.prog) w 26 48 i (.agg #[.int .i64 0, .int .i64 0]) Try.underlying26 h1 h2 .i64 .i64 n n (by omega) (Int.le_refl _) (by rw [h3]; simp; omega) (by rw [h4]; omega) (by omega)
  rw [h3] at this
  simp only [Int.toNat_natCast] at this
  rw [this, ← oMade2]
  rfl
theorem lks_box {w : World} {g : Nat} {l : List (Int × Int)} (h : Box w g (lkL l)) (hm : l.length ≤ maxLen) : LksAt w w.heap.size (.slice (some ⟨g, 0, none⟩) l.length l.length) l := by
  refine ⟨.inr ⟨_, _, _, rfl, Nat.le_refl _, hm⟩, _, _, rfl, hm, fun i hi => ⟨g, 0, rfl, h.lt, fun j hj => ?_⟩⟩
  obtain ⟨e0, e1⟩ := lkL_at hi
  rw [Nat.zero_add, h.cell]
  unfold lkCells
  rcases j with _ | _ | j
  · rw [Nat.add_zero, e0]; rfl
  · rw [e1]; rfl
  · omega
theorem OwnE.lks {w : World} {base : Nat} {V : Value} {l : List (Int × Int)} (h : OwnE oEncM 2 w base 48 V l) (hl : l.length ≤ maxLen) : LksAt w w.heap.size V l := by
  refine ⟨ownE_cap h, ?_⟩
  obtain ⟨A, c, hv, hc⟩ := OwnE.sl h (fun _ => rfl)
  refine ⟨A, c, hv, hl, fun k hk => ?_⟩
  obtain ⟨b, rfl, _, hb, h2⟩ := hc k hk
  refine ⟨b, 0, rfl, hb, fun j hj => ?_⟩
  rw [Nat.zero_add, h2 j hj]
  unfold lkCells
  rw [gd_at hk]
  rcases j with _ | _ | j
  · rfl
  · rfl
  · omega
theorem run_copy_rowS (w : World) (dT sT ty elem : TypeId) (g dLen dCap : Nat) (a : Addr) (sLen sCap size : Nat) (cur : Array Value) (t : TypeId) (cs : List Value) {k : Nat} (hk : Nat.min sLen dLen = k)
    (hu : Try.prog.underlying dT = some (.slice elem)) (hs : (Try.prog.info? elem).map (·.size) = some size)
    (hg : w.heap[g]? = some (.cells cur t (0, 0))) (hn : cs.length = k * size)
    (hsrc : ∀ j v, cs[j]? = some v → w.cell? (a.add j) = some v) (hfit : cs.length ≤ cur.size) (h1 : ∀ v ∈ cs, v.oneCell' = true) :
    (Builtin.copy_ #[dT, sT] ty #[.slice (some ⟨g, 0, none⟩) dLen dCap, .slice (some a) sLen sCap]).run Try.prog w =
      .ok (goInt k) (w.setRow g (cs ++ cur.toList.drop cs.length).toArray) := by
  have hl := run_loadCells_list (P := Try.prog) w a cs hsrc
  have hst := run_storeCells_at Try.prog g 0 t cs 0 cur w hg (by simpa using hfit) h1
  cases hq : Try.prog.info? elem with
  | none => simp [hq] at hs
  | some i =>
    have hi : i.size = size := by simpa [hq] using hs
    simp [Builtin.copy_, run_underlying hu, Builtin.lenOf, Builtin.firstCells, sizeOf, typeInfo, hq, hi, hk, ← hn, hl, hst]
theorem run_copy_noneS (w : World) (dT sT ty elem : TypeId) (d a : Option Addr) (dLen dCap sLen sCap : Nat) (hu : Try.prog.underlying dT = some (.slice elem)) (hs : ((Try.prog.info? elem).map (·.size)).isSome = true) (hn : Nat.min sLen dLen = 0) :
    (Builtin.copy_ #[dT, sT] ty #[.slice d dLen dCap, .slice a sLen sCap]).run Try.prog w = .ok (goInt 0) w := by
  cases hq : Try.prog.info? elem with
  | none => simp [hq] at hs
  | some i =>
    have hl : ∀ (x : Addr), (loadCells x 0).run Try.prog w = .ok #[] w := fun x => by simpa using run_loadCells_list (P := Try.prog) w x [] (by simp)
    cases d <;> cases a <;> simp [Builtin.copy_, run_underlying hu, Builtin.lenOf, Builtin.firstCells, sizeOf, typeInfo, hq, hn, storeCells, hl]
theorem copy_lks (ty : TypeId) {w : World} {g k c : Nat} {A : Option Addr} {l : List (Int × Int)} (hl : l.length = k) (hx : LksAt w w.heap.size (.slice A k c) l) (X : Box w g (List.replicate ((k + 1) * 2) (Value.int .i64 0))) :
    ∃ w', (copF #[26, 26] ty #[.slice (some ⟨g, 0, none⟩) (k + 1) (k + 1), .slice A k c]).run Try.prog w = .ok (.int .i64 (k : Int)) w' ∧ Box w' g (lkL l ++ [.int .i64 0, .int .i64 0]) ∧ Below g w w' := by
  have hs : (Try.prog.info? 48).map (·.size) = some 2 := by kernel_rfl
  have hmin : Nat.min k (k + 1) = k := Nat.min_eq_left (Nat.le_succ k)
  unfold copF
  rcases Nat.eq_zero_or_pos k with h0 | h0
  · subst h0
    obtain rfl : l = [] := List.eq_nil_of_length_eq_zero hl
    exact ⟨w, run_copy_noneS w _ _ ty 48 _ _ _ _ _ _ Try.underlying26 (by rw [hs]; rfl) hmin, X, Below.refl _ _⟩
  · obtain ⟨ab, ao, rfl, _, hc⟩ := hx.lk (by omega)
    obtain ⟨t, ht⟩ := X
    have hr := run_copy_rowS w 26 26 ty 48 g (k + 1) (k + 1) ⟨ab, ao, none⟩ k c 2 _ t (lkL l) hmin Try.underlying26 hs ht (by rw [lkL_length, hl]) (fun j v hv => by
      have hj : j < l.length * 2 := by have := (List.getElem?_eq_some_iff.1 hv).1; rwa [lkL_length] at this
      obtain ⟨e0, e1⟩ := lkL_at (l := l) (k := j / 2) (by omega)
      obtain ⟨c0, c1⟩ := hc (j / 2) (by omega)
      rw [add_at]
      rcases Nat.mod_two_eq_zero_or_one j with h2 | h2
      · have ej : j = j / 2 * 2 := by omega
        rw [ej] at hv
        show w.cell? ⟨ab, ao + j, none⟩ = _
        rw [ej, c0, ← e0, hv]
      · have ej : j = j / 2 * 2 + 1 := by omega
        rw [ej] at hv
        show w.cell? ⟨ab, ao + j, none⟩ = _
        rw [ej, ← Nat.add_assoc, c1, ← e1, hv]) (by rw [lkL_length]; simp; omega) one_lkL
    refine ⟨_, hr, ⟨t, ?_⟩, ⟨rfl, rfl, rfl, by simp [World.setRow], fun b hb => setRow_other w g b _ (by omega)⟩⟩
    rw [World.setRow, Array.getElem?_modify, if_pos rfl, ht]
    simp only [Option.map_some, Option.some.injEq, lkL_length, hl, List.drop_replicate]
    rw [show (k + 1) * 2 - k * 2 = 2 by omega]
    rfl
theorem Sl.set_netO {w : World} {B size n : Nat} {g : Nat → Nat → Value} {v : Value} (h : Sl w B size n g v) (hs : 0 < size) (hi : ∀ i, i < n → ∃ k z, g i 0 = .int k z) {x : Nat} {A1 A2 : Option Addr} {k1 c1 k2 c2 : Nat}
    (hx : Box w x [.slice A1 k1 c1, .slice A2 k2 c2]) (j : Nat) (u : Value) : Sl (w.setCell ⟨x, j, none⟩ u) B size n g v := by
  obtain ⟨A, c, hv, hm, h1⟩ := h
  refine ⟨A, c, hv, hm, fun i hin => ?_⟩
  obtain ⟨b, off, ha, hb, h3⟩ := h1 i hin
  have hne : b ≠ x := by
    rintro rfl
    have h4 := h3 0 hs
    rw [hx.cell] at h4
    obtain ⟨k, z, e⟩ := hi i hin
    rw [e] at h4
    generalize off + (i * size + 0) = m at h4
    match m with
    | 0 => simp at h4
    | 1 => simp at h4
    | m + 2 => simp at h4
  exact ⟨b, off, ha, hb, fun q hq => by rw [World.cell?_of_block (w := w) (Below.heap_setCell w ⟨x, j, none⟩ u b hne)]; exact h3 q hq⟩
theorem BytesAt.set_netO {w : World} {B : Nat} {v : Value} {l : List UInt8} (h : BytesAt w B v l) {x : Nat} {A1 A2 : Option Addr} {k1 c1 k2 c2 : Nat} (hx : Box w x [.slice A1 k1 c1, .slice A2 k2 c2]) (j : Nat) (u : Value) : BytesAt (w.setCell ⟨x, j, none⟩ u) B v l :=
  ⟨h.1, Sl.set_netO h.2 (by decide) (fun i _ => ⟨_, _, rfl⟩) hx j u⟩
theorem NetAt.set_netO {w : World} {B : Nat} {Vq Va : Value} {n : Net} (h : NetAt w B Vq Va n) {x : Nat} {A1 A2 : Option Addr} {k1 c1 k2 c2 : Nat} (hx : Box w x [.slice A1 k1 c1, .slice A2 k2 c2]) (j : Nat) (u : Value) : NetAt (w.setCell ⟨x, j, none⟩ u) B Vq Va n := by
  obtain ⟨f, V, s, b⟩ := h.queue
  exact ⟨⟨f, V, s.set_netO (by decide) (fun i _ => ⟨_, _, rfl⟩) hx j u, fun i p hp => (b i p hp).set_netO hx j u⟩, ⟨h.apart.1, h.apart.2.set_netO (by decide) (fun i _ => ⟨_, _, rfl⟩) hx j u⟩⟩
theorem net_setO {w : World} {Vq Va : Value} {n : Net} (h : Hid (NetAt w w.heap.size Vq Va n)) {x : Nat} {A1 A2 B1 B2 : Option Addr} {k1 c1 k2 c2 l1 d1 l2 d2 : Nat} (hx : Box w x [.slice A1 k1 c1, .slice A2 k2 c2]) :
    Hid (NetAt ((w.setCell ⟨x, 0, none⟩ (.slice B1 l1 d1)).setCell ⟨x, 1, none⟩ (.slice B2 l2 d2)) ((w.setCell ⟨x, 0, none⟩ (.slice B1 l1 d1)).setCell ⟨x, 1, none⟩ (.slice B2 l2 d2)).heap.size Vq Va n) := by
  have h2 := (h.out.set_netO hx 0 (.slice B1 l1 d1)).set_netO (hx.set 0 (.slice B1 l1 d1)) 1 (.slice B2 l2 d2)
  exact h2.more (by simp)
def SlBox (w : World) (x : Nat) : Prop := ∃ xs, Box w x xs ∧ ∀ v ∈ xs, ∃ A k c, v = .slice A k c
theorem SlBox.of {w : World} {x : Nat} {xs : List Value} (h : Box w x xs) (hs : ∀ v ∈ xs, ∃ A k c, v = .slice A k c) : SlBox w x := ⟨xs, h, hs⟩
theorem SlBox.set {w : World} {x : Nat} (h : SlBox w x) (i : Nat) (A : Option Addr) (k c : Nat) : SlBox (w.setCell ⟨x, i, none⟩ (.slice A k c)) x := by
  obtain ⟨xs, hb, hs⟩ := h
  refine ⟨_, hb.set i _, fun v hv => ?_⟩
  rcases List.mem_or_eq_of_mem_set hv with h1 | rfl
  · exact hs v h1
  · exact ⟨_, _, _, rfl⟩
theorem Sl.setS {w : World} {B size n : Nat} {g : Nat → Nat → Value} {v : Value} (h : Sl w B size n g v) (hs : 0 < size) (hi : ∀ i, i < n → ∃ k z, g i 0 = .int k z) {x : Nat} (hx : SlBox w x) (j : Nat) (u : Value) : Sl (w.setCell ⟨x, j, none⟩ u) B size n g v := by
  obtain ⟨A, c, hv, hm, h1⟩ := h
  obtain ⟨xs, hx, hxs⟩ := hx
  refine ⟨A, c, hv, hm, fun i hin => ?_⟩
  obtain ⟨b, off, ha, hb, h3⟩ := h1 i hin
  have hne : b ≠ x := by
    rintro rfl
    have h4 := h3 0 hs
    rw [hx.cell] at h4
    obtain ⟨k, z, e⟩ := hi i hin
    rw [e] at h4
    obtain ⟨A', k', c', e'⟩ := hxs _ (List.mem_of_getElem? h4)
    cases e'
  exact ⟨b, off, ha, hb, fun q hq => by rw [World.cell?_of_block (w := w) (Below.heap_setCell w ⟨x, j, none⟩ u b hne)]; exact h3 q hq⟩
theorem BytesAt.setS {w : World} {B : Nat} {v : Value} {l : List UInt8} (h : BytesAt w B v l) {x : Nat} (hx : SlBox w x) (j : Nat) (u : Value) : BytesAt (w.setCell ⟨x, j, none⟩ u) B v l :=
  ⟨h.1, Sl.setS h.2 (by decide) (fun i _ => ⟨_, _, rfl⟩) hx j u⟩
theorem NetAt.setS {w : World} {B : Nat} {Vq Va : Value} {n : Net} (h : NetAt w B Vq Va n) {x : Nat} (hx : SlBox w x) (j : Nat) (u : Value) : NetAt (w.setCell ⟨x, j, none⟩ u) B Vq Va n := by
  obtain ⟨f, V, s, b⟩ := h.queue
  exact ⟨⟨f, V, s.setS (by decide) (fun i _ => ⟨_, _, rfl⟩) hx j u, fun i p hp => (b i p hp).setS hx j u⟩, ⟨h.apart.1, h.apart.2.setS (by decide) (fun i _ => ⟨_, _, rfl⟩) hx j u⟩⟩
theorem NetAt.set2 {w : World} {B : Nat} {Vq Va : Value} {n : Net} (h : NetAt w B Vq Va n) {x : Nat} (hx : SlBox w x) (A0 A1 : Option Addr) (n0 c0 n1 c1 : Nat) :
    NetAt ((w.setCell ⟨x, 0, none⟩ (.slice A0 n0 c0)).setCell ⟨x, 1, none⟩ (.slice A1 n1 c1)) B Vq Va n ∧ SlBox ((w.setCell ⟨x, 0, none⟩ (.slice A0 n0 c0)).setCell ⟨x, 1, none⟩ (.slice A1 n1 c1)) x :=
  ⟨(h.setS hx 0 _).setS (hx.set 0 _ _ _) 1 _, (hx.set 0 _ _ _).set 1 _ _ _⟩
theorem NetAt.set5 {w : World} {B : Nat} {Vq Va : Value} {n : Net} (h : NetAt w B Vq Va n) {x : Nat} (hx : SlBox w x) (A0 A1 A2 A3 A4 : Option Addr) (n0 c0 n1 c1 n2 c2 n3 c3 n4 c4 : Nat) :
    NetAt (((((w.setCell ⟨x, 0, none⟩ (.slice A0 n0 c0)).setCell ⟨x, 1, none⟩ (.slice A1 n1 c1)).setCell ⟨x, 2, none⟩ (.slice A2 n2 c2)).setCell ⟨x, 3, none⟩ (.slice A3 n3 c3)).setCell ⟨x, 4, none⟩ (.slice A4 n4 c4)) B Vq Va n := by
  obtain ⟨h2, x2⟩ := h.set2 hx A0 A1 n0 c0 n1 c1
  exact ((h2.setS x2 2 _).setS (x2.set 2 _ _ _) 3 _).setS ((x2.set 2 _ _ _).set 3 _ _ _) 4 _
theorem lkL_last {l : List (Int × Int)} {k : Nat} (hl : l.length = k) (g o : Int) (u v : Value) : ((lkL l ++ [u, v]).set (k * 2) (.int .i64 g)).set (k * 2 + 1) (.int .i64 o) = lkL (l ++ [(g, o)]) := by
  subst hl
  rw [List.set_append_right _ _ (by rw [lkL_length]; omega), List.set_append_right _ _ (by rw [lkL_length]; omega), lkL_append, lkL_length]
  rw [show l.length * 2 - l.length * 2 = 0 by omega, show l.length * 2 + 1 - l.length * 2 = 1 by omega]
  rfl
theorem lkL_room {l : List (Int × Int)} {k : Nat} (hl : l.length = k) (u v : Value) : (lkL l ++ [u, v])[k * 2]? = some u ∧ (lkL l ++ [u, v])[k * 2 + 1]? = some v := by
  subst hl
  rw [List.getElem?_append_right (by rw [lkL_length]; omega), List.getElem?_append_right (by rw [lkL_length]; omega), lkL_length]
  rw [show l.length * 2 - l.length * 2 = 0 by omega, show l.length * 2 + 1 - l.length * 2 = 1 by omega]
  exact ⟨rfl, rfl⟩
end Go.Proofs.Ytmbifmmkccghfaa

/-
  Send of orders. (Printed by gen_rm.py and pp.py.) No condition.
-/
namespace Go.Proofs.Ytmbifmmkccghfaa
open Go.RowKit Go.Shelf
attribute [local go_sem] Oper.semAt_some
attribute [local go_sem ↓ high] app_named cop_named

theorem send_bad {b : Bx} {g o : Int} {c : Int} (h : b.checkT = c) (h0 : c ≠ 0) : b.sendT g o = (Bx.zero, c) := by
  unfold Bx.checkT at h
  unfold Bx.sendT
  by_cases hk : b.okB = true
  · rw [if_pos hk] at h
    exact absurd h.symm h0
  · rw [if_neg hk] at h ⊢
    rw [h]
theorem wrap64_next {n : Nat} (h : n ≤ 4096) : wrap64 ((n : Int) + 1) = (n : Int) + 1 := by unfold wrap64; omega
theorem wrapI_next {n : Nat} (h : n ≤ 4096) : IntKind.i64.wrap ((n : Int) + 1) = (n : Int) + 1 := by rw [IntKind.wrap_i64]; omega
theorem send_out {b : Bx} {g o : Int} (h : b.okB = true) (h1 : ¬ ((0 ≤ g ∧ g < (b.heard.length : Int)) ∧ (0 ≤ o ∧ o ≤ 7))) : b.sendT g o = (Bx.zero, 1) := by rw [Bx.sendT, if_pos h, if_neg h1]
theorem send_full {b : Bx} {g o : Int} (h : b.okB = true) (h1 : (0 ≤ g ∧ g < (b.heard.length : Int)) ∧ (0 ≤ o ∧ o ≤ 7)) (h2 : b.sent.length = 4096) : b.sendT g o = (Bx.zero, 2) := by rw [Bx.sendT, if_pos h, if_pos h1, if_pos h2]
theorem send_net {b : Bx} {g o : Int} (h : b.okB = true) (h1 : (0 ≤ g ∧ g < (b.heard.length : Int)) ∧ (0 ≤ o ∧ o ≤ 7)) (h2 : ¬ b.sent.length = 4096) {m : Net} {er : Int} (h3 : Go.Proofs.Ytmbifmmkccghfaa.sendT b.net ⟨0, g + 1, msgB b.sent.length o⟩ = (m, er)) :
    b.sendT g o = if er = 0 then (⟨m, b.sent ++ [(g, o)], b.heard, b.fresh⟩, 0) else (Bx.zero, er) := by rw [Bx.sendT, if_pos h, if_pos h1, if_neg h2, h3]
end Go.Proofs.Ytmbifmmkccghfaa

/-
  Lose and Repeat of the reference. (Printed by gen_rp.py and pp.py.) No condition.
-/
namespace Go.Proofs.Ytmbifmmkccghfaa
open Go.RowKit Go.Shelf
attribute [local go_sem] Oper.semAt_some

theorem do_bad {b : Bx} {c : Int} {r : Net × Int} (h : b.checkT = c) (h0 : c ≠ 0) : b.doT r = (Bx.zero, c) := by
  unfold Bx.checkT at h
  unfold Bx.doT
  by_cases hk : b.okB = true
  · rw [if_pos hk] at h
    exact absurd h.symm h0
  · rw [if_neg hk] at h ⊢
    rw [h]
theorem do_net {b : Bx} {m : Net} {er : Int} {r : Net × Int} (h : b.okB = true) (hr : r = (m, er)) : b.doT r = if er = 0 then (⟨m, b.sent, b.heard, b.fresh⟩, 0) else (Bx.zero, er) := by rw [Bx.doT, if_pos h, hr]
end Go.Proofs.Ytmbifmmkccghfaa

/-
  Lose and Repeat of orders. (Printed by gen_rq.py and pp.py.) No condition.
-/
namespace Go.Proofs.Ytmbifmmkccghfaa
open Go.RowKit Go.Shelf
attribute [local go_sem] Oper.semAt_some

theorem Sl.setSB {w : World} {B size n : Nat} {g : Nat → Nat → Value} {v : Value} (h : Sl w B size n g v) (hs : 0 < size) (hi : ∀ i, i < n → ∃ z, g i 0 = .bool z) {x : Nat} (hx : SlBox w x) (j : Nat) (u : Value) : Sl (w.setCell ⟨x, j, none⟩ u) B size n g v := by
  obtain ⟨A, c, hv, hm, h1⟩ := h
  obtain ⟨xs, hx, hxs⟩ := hx
  refine ⟨A, c, hv, hm, fun i hin => ?_⟩
  obtain ⟨b, off, ha, hb, h3⟩ := h1 i hin
  have hne : b ≠ x := by
    rintro rfl
    have h4 := h3 0 hs
    rw [hx.cell] at h4
    obtain ⟨z, e⟩ := hi i hin
    rw [e] at h4
    obtain ⟨A', k', c', e'⟩ := hxs _ (List.mem_of_getElem? h4)
    cases e'
  exact ⟨b, off, ha, hb, fun q hq => by rw [World.cell?_of_block (w := w) (Below.heap_setCell w ⟨x, j, none⟩ u b hne)]; exact h3 q hq⟩
theorem BxAt.setS {w : World} {B : Nat} {Vq Va Vs Vh Vf : Value} {b : Bx} (h : BxAt w B Vq Va Vs Vh Vf b) {x : Nat} (hx : SlBox w x) (j : Nat) (u : Value) : BxAt (w.setCell ⟨x, j, none⟩ u) B Vq Va Vs Vh Vf b :=
  ⟨h.net.setS hx j u, ⟨h.sent.1, Sl.setS h.sent.2 (by decide) (fun i _ => ⟨_, _, rfl⟩) hx j u⟩, ⟨h.heard.1, Sl.setS h.heard.2 (by decide) (fun i _ => ⟨_, _, rfl⟩) hx j u⟩, ⟨h.fresh.1, Sl.setSB h.fresh.2 (by decide) (fun i _ => ⟨_, rfl⟩) hx j u⟩⟩
theorem BxAt.set5 {w : World} {B : Nat} {Vq Va Vs Vh Vf : Value} {b : Bx} (h : BxAt w B Vq Va Vs Vh Vf b) {x : Nat} (hx : SlBox w x) (A0 A1 A2 A3 A4 : Option Addr) (n0 c0 n1 c1 n2 c2 n3 c3 n4 c4 : Nat) :
    BxAt (((((w.setCell ⟨x, 0, none⟩ (.slice A0 n0 c0)).setCell ⟨x, 1, none⟩ (.slice A1 n1 c1)).setCell ⟨x, 2, none⟩ (.slice A2 n2 c2)).setCell ⟨x, 3, none⟩ (.slice A3 n3 c3)).setCell ⟨x, 4, none⟩ (.slice A4 n4 c4)) B Vq Va Vs Vh Vf b := by
  have x1 := hx.set 0 A0 n0 c0
  have x2 := x1.set 1 A1 n1 c1
  have x3 := x2.set 2 A2 n2 c2
  exact ((((h.setS hx 0 _).setS x1 1 _).setS x2 2 _).setS x3 3 _).setS (x3.set 3 _ _ _) 4 _
theorem BxAt.forms5 {w : World} {B : Nat} {Vq Va Vs Vh Vf : Value} {b : Bx} (h : BxAt w B Vq Va Vs Vh Vf b) : ∃ Aq nq cq Aa na ca As ns cs Ah n ch Af nf cf, Vq = .slice Aq nq cq ∧ Va = .slice Aa na ca ∧ Vs = .slice As ns cs ∧ Vh = .slice Ah n ch ∧ Vf = .slice Af nf cf := by
  obtain ⟨Aq, cq, Aa, ca, As, cs, Ah, ch, Af, cf, h1, h2, h3, h4, h5, _⟩ := h.forms
  exact ⟨_, _, _, _, _, _, _, _, _, _, _, _, _, _, _, h1, h2, h3, h4, h5⟩
end Go.Proofs.Ytmbifmmkccghfaa

/-
  hear. (Printed by gen_ro.py and pp.py.) No condition.
-/
namespace Go.Proofs.Ytmbifmmkccghfaa
open Go.RowKit Go.Shelf
attribute [local go_sem] Oper.semAt_some
attribute [local go_sem ↓ high] app_named cop_named

theorem copy_row1 {α : Type} (enc : α → Value) (h1 : ∀ x, (enc x).oneCell' = true) {t e : TypeId} (ht : Try.prog.underlying t = some (.slice e)) (hs : (Try.prog.info? e).map (·.size) = some 1) (ty : TypeId) {w : World} {g n c : Nat} {A : Option Addr} {l : List α} {d : α} {xs : List Value} (hl : l.length = n)
    (hx : Sl w w.heap.size 1 n (fun i _ => enc (l.getD i d)) (.slice A n c)) (X : Box w g xs) (hxs : xs.length = n) :
    ∃ w', (copF #[t, t] ty #[.slice (some ⟨g, 0, none⟩) n n, .slice A n c]).run Try.prog w = .ok (.int .i64 (n : Int)) w' ∧ Box w' g (l.map enc) ∧ (∀ b ys, b ≠ g → Box w b ys → Box w' b ys) ∧ Below g w w' := by
  have hmin : Nat.min n n = n := Nat.min_self n
  unfold copF
  rcases Nat.eq_zero_or_pos n with h0 | h0
  · subst h0
    obtain rfl : l = [] := List.eq_nil_of_length_eq_zero hl
    obtain rfl : xs = [] := List.eq_nil_of_length_eq_zero hxs
    exact ⟨w, run_copy_noneS w _ _ ty e _ _ _ _ _ _ ht (by rw [hs]; rfl) hmin, X, fun _ _ _ h => h, Below.refl _ _⟩
  · obtain ⟨ab, ao, rfl, _, _⟩ := hx.one h0
    obtain ⟨tt, ht2⟩ := X
    have hr := run_copy_rowS w t t ty e g n n ⟨ab, ao, none⟩ n c 1 _ tt (l.map enc) hmin ht hs ht2 (by simp [hl]) (fun j v hv => by
      have hj : j < l.length := by have := (List.getElem?_eq_some_iff.1 hv).1; simpa using this
      obtain ⟨b', o', e', _, hc⟩ := hx.one (k := j) (by omega)
      cases e'
      rw [add_at, hc]
      rw [List.getElem?_map, List.getElem?_eq_getElem hj] at hv
      rw [gd_at hj]
      exact hv) (by simp [hl, hxs]) (fun v hv => by
      obtain ⟨x, _, rfl⟩ := List.mem_map.1 hv
      exact h1 x)
    refine ⟨_, hr, ⟨tt, ?_⟩, fun b ys hb ⟨t2, h2⟩ => ⟨t2, (setRow_other w g b _ hb).trans h2⟩, ⟨rfl, rfl, rfl, by simp [World.setRow], fun b hb => setRow_other w g b _ (by omega)⟩⟩
    rw [World.setRow, Array.getElem?_modify, if_pos rfl, ht2]
    simp [hl, hxs]
end Go.Proofs.Ytmbifmmkccghfaa

/-
  Plain facts on Deliver of orders. No condition.
-/
namespace Go.Proofs.Ytmbifmmkccghfaa
open Go.RowKit

theorem net_delivered {n : Net} {i : Int} {p : Pk} {m : Net} (h : Go.Proofs.Ytmbifmmkccghfaa.deliverT n i = (p, m, 0)) : p = Pk.zero ∨ p ∈ n.queue := by
  unfold Go.Proofs.Ytmbifmmkccghfaa.deliverT at h
  split at h
  · simp only [Prod.mk.injEq] at h
    obtain ⟨h1, -, -⟩ := h
    split at h1
    · exact .inl h1.symm
    · subst h1
      unfold Net.pk
      rw [List.getD_eq_getElem?_getD]
      rcases hq : n.queue[i.toNat]? with _ | x
      · exact .inl rfl
      · exact .inr (List.mem_of_getElem? hq)
  · next h0 =>
    simp only [Prod.mk.injEq] at h
    exact absurd h.2.2 h0
theorem pk_facts {b : Bx} {p : Pk} (hs : b.sentB = true) (h : b.pkB p = true) (hl : p.data.length ≤ maxLen) (h4 : b.sent.length ≤ 4096) :
    p.data.length ≤ 32 ∧ ∃ g : Nat, p.dst = (g : Int) + 1 ∧ g < b.heard.length ∧ p.src = 0 ∧ 0 ≤ numberT p.data ∧ numberT p.data < (b.sent.length : Int) ∧ ∃ o, readT p.data = some (numberT p.data, o) := by
  unfold Bx.pkB at h
  rcases hr : readT p.data with _ | ⟨n, o⟩
  · rw [hr] at h
    cases h
  rw [hr] at h
  obtain ⟨h1, h2, h3, h5, h6⟩ := of_decide_eq_true h
  have hnum := number_read hr h1
  obtain ⟨g1, g2, g3⟩ := read_inv hl hr
  obtain ⟨⟨k1, k2⟩, _, _⟩ := sent_at hs h1 h2
  refine ⟨by rw [g1]; exact msg_len g2 g3, (b.at n).1.toNat, by omega, by omega, h3, by omega, by omega, o, by rw [hnum]⟩
theorem deliver_bad {b : Bx} {i c : Int} (h : b.checkT = c) (h0 : c ≠ 0) : b.deliverT i = (Bx.zero, false, c) := by
  unfold Bx.checkT at h
  unfold Bx.deliverT
  by_cases hk : b.okB = true
  · rw [if_pos hk] at h
    exact absurd h.symm h0
  · rw [if_neg hk] at h ⊢
    rw [h]
theorem deliver_net {b : Bx} {i er : Int} {p : Pk} {m : Net} (h : b.okB = true) (hr : Go.Proofs.Ytmbifmmkccghfaa.deliverT b.net i = (p, m, er)) : b.deliverT i = if er = 0 then ((b.hear p m).1, (b.hear p m).2, 0) else (Bx.zero, false, er) := by rw [Bx.deliverT, if_pos h, hr]
theorem deliver_ok {b : Bx} {i : Int} {p : Pk} {m : Net} (h : b.okB = true) (hr : Go.Proofs.Ytmbifmmkccghfaa.deliverT b.net i = (p, m, 0)) (hl : p.data.length ≤ maxLen) :
    p.data.length ≤ 32 ∧ ((p.dst = 0 ∧ p.src = 0 ∧ p.data = []) ∨ ∃ g : Nat, p.dst = (g : Int) + 1 ∧ g < b.heard.length ∧ p.src = 0 ∧ 0 ≤ numberT p.data ∧ numberT p.data < (b.sent.length : Int) ∧ ∃ o, readT p.data = some (numberT p.data, o)) := by
  obtain ⟨hl1, hs, -, -, hq⟩ := okB_parts h
  have h4 := (of_decide_eq_true hl1).2.2
  rcases net_delivered hr with rfl | hm
  · exact ⟨Nat.zero_le _, .inl ⟨rfl, rfl, rfl⟩⟩
  · obtain ⟨e1, e2⟩ := pk_facts hs (hq p hm) hl h4
    exact ⟨e1, .inr e2⟩
theorem hear_none {b : Bx} {p : Pk} {m : Net} (h : ¬ (0 < p.dst ∧ b.h (p.dst - 1).toNat ≤ numberT p.data)) : b.hear p m = (⟨m, b.sent, b.heard, b.fresh⟩, false) := if_neg h
theorem hear_some {b : Bx} {p : Pk} {m : Net} {g : Nat} (hd : p.dst = (g : Int) + 1) (h : b.h g ≤ numberT p.data) : b.hear p m = (⟨m, b.sent, b.heard.set g (numberT p.data + 1), b.fresh.set g true⟩, true) := by
  have e : (p.dst - 1).toNat = g := by omega
  rw [Bx.hear, e, if_pos ⟨by omega, h⟩]
theorem hear_no {b : Bx} {p : Pk} {m : Net} {g : Nat} (hd : p.dst = (g : Int) + 1) (h : ¬ b.h g ≤ numberT p.data) : b.hear p m = (⟨m, b.sent, b.heard, b.fresh⟩, false) := by
  have e : (p.dst - 1).toNat = g := by omega
  exact hear_none (fun k => h (by rw [e] at k; exact k.2))
def RetDlv (T : Bx × Bool × Int) (w : World) (e : Ending) (w' : World) : Prop := ∃ Vq Va Vs Vh Vf, e = .returned (.tuple #[.agg #[Vq, Va, Vs, Vh, Vf], .bool T.2.1, .int .i64 T.2.2]) ∧ BxAt w' w'.heap.size Vq Va Vs Vh Vf T.1 ∧ Below w.heap.size w w'
end Go.Proofs.Ytmbifmmkccghfaa

/-
  Deliver of orders. (Printed by gen_rt.py and pp.py.) No condition.
-/
namespace Go.Proofs.Ytmbifmmkccghfaa
open Go.RowKit Go.Shelf
attribute [local go_sem] Oper.semAt_some

end Go.Proofs.Ytmbifmmkccghfaa
