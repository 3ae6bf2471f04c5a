/- Rows of messages sent: made, copied, grown by one; bytes both ways. No condition. -/
import Derived.Test.YtmbifmmkccghfaaQ1RI
import Derived.Test.YtmbifmmkccghfaaQ1RK
import Derived.Test.YtmbifmmkccghfaaQ1K
import Derived.Test.YtmbifmmkccghfaaQ1KG
import Derived.Test.YtmbifmmkccghfaaQ1NR
import Derived.Laws.CopyRow
import Derived.Test.YtmbifmmkccghfaaQ1GP
set_option linter.unusedVariables false
set_option linter.unusedSimpArgs false
namespace Go.Proofs.Ytmbifmmkccghfaa
open Go.RowKit

theorem bytes_of {w : World} {S : Nat → Prop} {V : Value} {l : Bs} (h : BsAt w S V l) : BytesAt w w.heap.size V l := by
  obtain ⟨h0, A, c, hv, hn, h1⟩ := h
  refine ⟨h0, A, c, hv, hn, fun i hi => ?_⟩
  obtain ⟨b, off, hA, _, hb, h2⟩ := h1 i hi
  exact ⟨b, off, hA, hb, h2⟩
abbrev oEncM (m : Int × Int) : List Value := [.int .i64 m.1, .int .i64 m.2]
def lkL (l : List (Int × Int)) : List Value := l.flatMap oEncM
theorem lkL_length (l : List (Int × Int)) : (lkL l).length = l.length * 2 := by
  induction l with
  | nil => rfl
  | cons x l ih =>
    simp only [lkL, List.flatMap_cons, List.length_append, List.length_cons, List.length_nil] at ih ⊢
    omega
theorem lkL_append (l m : List (Int × Int)) : lkL (l ++ m) = lkL l ++ lkL m := List.flatMap_append
theorem oneM (m : Int × Int) : ∀ u ∈ oEncM m, u.oneCell' = true := by
  intro u hu
  simp at hu
  rcases hu with rfl | rfl <;> rfl
theorem one_lkL {l : List (Int × Int)} : ∀ u ∈ lkL l, u.oneCell' = true := by
  intro u hu
  obtain ⟨m, _, hm⟩ := List.mem_flatMap.1 hu
  exact oneM m u hm
theorem lkL_at {l : List (Int × Int)} {k : Nat} (hk : k < l.length) : (lkL l)[k * 2]? = some (.int .i64 (l.getD k (0, 0)).1) ∧ (lkL l)[k * 2 + 1]? = some (.int .i64 (l.getD k (0, 0)).2) := by
  have h0 := flatMap_at (enc := oEncM) (size := 2) (fun _ => rfl) l k 0 hk (by decide)
  have h1 := flatMap_at (enc := oEncM) (size := 2) (fun _ => rfl) l k 1 hk (by decide)
  rw [gd_at hk]
  exact ⟨h0, h1⟩
theorem oElemM : ∃ i, Elem 26 48 i (.agg #[.int .i64 0, .int .i64 0]) 2 16 := by
  obtain ⟨i, h1, h2, h3, h4⟩ := info_parts (show (Try.prog.info? 48).map (fun i => (i.zero, i.size, i.bytes)) = some (some (.agg #[.int .i64 0, .int .i64 0]), 2, 16) by kernel_rfl)
  exact ⟨i, Try.underlying26, h1, h2, h3, h4, by decide, by decide⟩
theorem oMade2 (v : Value) (n : Nat) : madeCells #[v, v] n = (List.replicate n v).toArray := by
  rw [madeCells]
  apply Array.ext'
  apply List.ext_getElem?
  intro i
  rcases Nat.lt_or_ge i n with hi | hi
  · rcases Nat.mod_two_eq_zero_or_one i with h | h <;> simp [hi, h]
  · simp [hi]
theorem oMakeM (n : Nat) (hn : n ≤ 8192) (w : World) : (Instr.makeSlice 26 (.int .i64 (n : Int)) (.int .i64 (n : Int))).run Try.prog w = .ok (.slice (some ⟨w.heap.size, 0, none⟩) n n) (w.alloc (.cells (List.replicate (n * 2) (Value.int .i64 0)).toArray 48)) := by
  obtain ⟨i, h1, h2, h3, h4⟩ := info_parts (show (Try.prog.info? 48).map (fun i => (i.zero, i.size, i.bytes)) = some (some (.agg #[.int .i64 0, .int .i64 0]), 2, 16) by kernel_rfl)
  have := run_makeSlice (P := Try.prog) w 26 48 i (.agg #[.int .i64 0, .int .i64 0]) Try.underlying26 h1 h2 .i64 .i64 n n (by omega) (Int.le_refl _) (by rw [h3]; simp; omega) (by rw [h4]; omega) (by omega)
  rw [h3] at this
  simp only [Int.toNat_natCast] at this
  rw [this, ← oMade2]
  rfl
theorem lks_box {w : World} {g : Nat} {l : List (Int × Int)} (h : Box w g (lkL l)) (hm : l.length ≤ maxLen) : LksAt w w.heap.size (.slice (some ⟨g, 0, none⟩) l.length l.length) l := by
  refine ⟨.inr ⟨_, _, _, rfl, Nat.le_refl _, hm⟩, _, _, rfl, hm, fun i hi => ⟨g, 0, rfl, h.lt, fun j hj => ?_⟩⟩
  obtain ⟨e0, e1⟩ := lkL_at hi
  rw [Nat.zero_add, h.cell]
  unfold lkCells
  rcases j with _ | _ | j
  · rw [Nat.add_zero, e0]; rfl
  · rw [e1]; rfl
  · omega
theorem OwnE.lks {w : World} {base : Nat} {V : Value} {l : List (Int × Int)} (h : OwnE oEncM 2 w base 48 V l) (hl : l.length ≤ maxLen) : LksAt w w.heap.size V l := by
  refine ⟨ownE_cap h, ?_⟩
  obtain ⟨A, c, hv, hc⟩ := OwnE.sl h (fun _ => rfl)
  refine ⟨A, c, hv, hl, fun k hk => ?_⟩
  obtain ⟨b, rfl, _, hb, h2⟩ := hc k hk
  refine ⟨b, 0, rfl, hb, fun j hj => ?_⟩
  rw [Nat.zero_add, h2 j hj]
  unfold lkCells
  rw [gd_at hk]
  rcases j with _ | _ | j
  · rfl
  · rfl
  · omega
theorem run_copy_rowS (w : World) (dT sT ty elem : TypeId) (g dLen dCap : Nat) (a : Addr) (sLen sCap size : Nat) (cur : Array Value) (t : TypeId) (cs : List Value) {k : Nat} (hk : Nat.min sLen dLen = k)
    (hu : Try.prog.underlying dT = some (.slice elem)) (hs : (Try.prog.info? elem).map (·.size) = some size)
    (hg : w.heap[g]? = some (.cells cur t (0, 0))) (hn : cs.length = k * size)
    (hsrc : ∀ j v, cs[j]? = some v → w.cell? (a.add j) = some v) (hfit : cs.length ≤ cur.size) (h1 : ∀ v ∈ cs, v.oneCell' = true) :
    (Builtin.copy_ #[dT, sT] ty #[.slice (some ⟨g, 0, none⟩) dLen dCap, .slice (some a) sLen sCap]).run Try.prog w =
      .ok (goInt k) (w.setRow g (cs ++ cur.toList.drop cs.length).toArray) := by
  have hl := run_loadCells_list (P := Try.prog) w a cs hsrc
  have hst := run_storeCells_at Try.prog g 0 t cs 0 cur w hg (by simpa using hfit) h1
  cases hq : Try.prog.info? elem with
  | none => simp [hq] at hs
  | some i =>
    have hi : i.size = size := by simpa [hq] using hs
    simp [Builtin.copy_, run_underlying hu, Builtin.lenOf, Builtin.firstCells, sizeOf, typeInfo, hq, hi, hk, ← hn, hl, hst]
theorem run_copy_noneS (w : World) (dT sT ty elem : TypeId) (d a : Option Addr) (dLen dCap sLen sCap : Nat) (hu : Try.prog.underlying dT = some (.slice elem)) (hs : ((Try.prog.info? elem).map (·.size)).isSome = true) (hn : Nat.min sLen dLen = 0) :
    (Builtin.copy_ #[dT, sT] ty #[.slice d dLen dCap, .slice a sLen sCap]).run Try.prog w = .ok (goInt 0) w := by
  cases hq : Try.prog.info? elem with
  | none => simp [hq] at hs
  | some i =>
    have hl : ∀ (x : Addr), (loadCells x 0).run Try.prog w = .ok #[] w := fun x => by simpa using run_loadCells_list (P := Try.prog) w x [] (by simp)
    cases d <;> cases a <;> simp [Builtin.copy_, run_underlying hu, Builtin.lenOf, Builtin.firstCells, sizeOf, typeInfo, hq, hn, storeCells, hl]
theorem copy_lks (ty : TypeId) {w : World} {g k c : Nat} {A : Option Addr} {l : List (Int × Int)} (hl : l.length = k) (hx : LksAt w w.heap.size (.slice A k c) l) (X : Box w g (List.replicate ((k + 1) * 2) (Value.int .i64 0))) :
    ∃ w', (copF #[26, 26] ty #[.slice (some ⟨g, 0, none⟩) (k + 1) (k + 1), .slice A k c]).run Try.prog w = .ok (.int .i64 (k : Int)) w' ∧ Box w' g (lkL l ++ [.int .i64 0, .int .i64 0]) ∧ Below g w w' := by
  have hs : (Try.prog.info? 48).map (·.size) = some 2 := by kernel_rfl
  have hmin : Nat.min k (k + 1) = k := Nat.min_eq_left (Nat.le_succ k)
  unfold copF
  rcases Nat.eq_zero_or_pos k with h0 | h0
  · subst h0
    obtain rfl : l = [] := List.eq_nil_of_length_eq_zero hl
    exact ⟨w, run_copy_noneS w _ _ ty 48 _ _ _ _ _ _ Try.underlying26 (by rw [hs]; rfl) hmin, X, Below.refl _ _⟩
  · obtain ⟨ab, ao, rfl, _, hc⟩ := hx.lk (by omega)
    obtain ⟨t, ht⟩ := X
    have hr := run_copy_rowS w 26 26 ty 48 g (k + 1) (k + 1) ⟨ab, ao, none⟩ k c 2 _ t (lkL l) hmin Try.underlying26 hs ht (by rw [lkL_length, hl]) (fun j v hv => by
      have hj : j < l.length * 2 := by have := (List.getElem?_eq_some_iff.1 hv).1; rwa [lkL_length] at this
      obtain ⟨e0, e1⟩ := lkL_at (l := l) (k := j / 2) (by omega)
      obtain ⟨c0, c1⟩ := hc (j / 2) (by omega)
      rw [add_at]
      rcases Nat.mod_two_eq_zero_or_one j with h2 | h2
      · have ej : j = j / 2 * 2 := by omega
        rw [ej] at hv
        show w.cell? ⟨ab, ao + j, none⟩ = _
        rw [ej, c0, ← e0, hv]
      · have ej : j = j / 2 * 2 + 1 := by omega
        rw [ej] at hv
        show w.cell? ⟨ab, ao + j, none⟩ = _
        rw [ej, ← Nat.add_assoc, c1, ← e1, hv]) (by rw [lkL_length]; simp; omega) one_lkL
    refine ⟨_, hr, ⟨t, ?_⟩, ⟨rfl, rfl, rfl, by simp [World.setRow], fun b hb => setRow_other w g b _ (by omega)⟩⟩
    rw [World.setRow, Array.getElem?_modify, if_pos rfl, ht]
    simp only [Option.map_some, Option.some.injEq, lkL_length, hl, List.drop_replicate]
    rw [show (k + 1) * 2 - k * 2 = 2 by omega]
    rfl
theorem Sl.set_netO {w : World} {B size n : Nat} {g : Nat → Nat → Value} {v : Value} (h : Sl w B size n g v) (hs : 0 < size) (hi : ∀ i, i < n → ∃ k z, g i 0 = .int k z) {x : Nat} {A1 A2 : Option Addr} {k1 c1 k2 c2 : Nat}
    (hx : Box w x [.slice A1 k1 c1, .slice A2 k2 c2]) (j : Nat) (u : Value) : Sl (w.setCell ⟨x, j, none⟩ u) B size n g v := by
  obtain ⟨A, c, hv, hm, h1⟩ := h
  refine ⟨A, c, hv, hm, fun i hin => ?_⟩
  obtain ⟨b, off, ha, hb, h3⟩ := h1 i hin
  have hne : b ≠ x := by
    rintro rfl
    have h4 := h3 0 hs
    rw [hx.cell] at h4
    obtain ⟨k, z, e⟩ := hi i hin
    rw [e] at h4
    generalize off + (i * size + 0) = m at h4
    match m with
    | 0 => simp at h4
    | 1 => simp at h4
    | m + 2 => simp at h4
  exact ⟨b, off, ha, hb, fun q hq => by rw [World.cell?_of_block (w := w) (Below.heap_setCell w ⟨x, j, none⟩ u b hne)]; exact h3 q hq⟩
theorem BytesAt.set_netO {w : World} {B : Nat} {v : Value} {l : List UInt8} (h : BytesAt w B v l) {x : Nat} {A1 A2 : Option Addr} {k1 c1 k2 c2 : Nat} (hx : Box w x [.slice A1 k1 c1, .slice A2 k2 c2]) (j : Nat) (u : Value) : BytesAt (w.setCell ⟨x, j, none⟩ u) B v l :=
  ⟨h.1, Sl.set_netO h.2 (by decide) (fun i _ => ⟨_, _, rfl⟩) hx j u⟩
theorem NetAt.set_netO {w : World} {B : Nat} {Vq Va : Value} {n : Net} (h : NetAt w B Vq Va n) {x : Nat} {A1 A2 : Option Addr} {k1 c1 k2 c2 : Nat} (hx : Box w x [.slice A1 k1 c1, .slice A2 k2 c2]) (j : Nat) (u : Value) : NetAt (w.setCell ⟨x, j, none⟩ u) B Vq Va n := by
  obtain ⟨f, V, s, b⟩ := h.queue
  exact ⟨⟨f, V, s.set_netO (by decide) (fun i _ => ⟨_, _, rfl⟩) hx j u, fun i p hp => (b i p hp).set_netO hx j u⟩, ⟨h.apart.1, h.apart.2.set_netO (by decide) (fun i _ => ⟨_, _, rfl⟩) hx j u⟩⟩
theorem net_setO {w : World} {Vq Va : Value} {n : Net} (h : Hid (NetAt w w.heap.size Vq Va n)) {x : Nat} {A1 A2 B1 B2 : Option Addr} {k1 c1 k2 c2 l1 d1 l2 d2 : Nat} (hx : Box w x [.slice A1 k1 c1, .slice A2 k2 c2]) :
    Hid (NetAt ((w.setCell ⟨x, 0, none⟩ (.slice B1 l1 d1)).setCell ⟨x, 1, none⟩ (.slice B2 l2 d2)) ((w.setCell ⟨x, 0, none⟩ (.slice B1 l1 d1)).setCell ⟨x, 1, none⟩ (.slice B2 l2 d2)).heap.size Vq Va n) := by
  have h2 := (h.out.set_netO hx 0 (.slice B1 l1 d1)).set_netO (hx.set 0 (.slice B1 l1 d1)) 1 (.slice B2 l2 d2)
  exact h2.more (by simp)
def SlBox (w : World) (x : Nat) : Prop := ∃ xs, Box w x xs ∧ ∀ v ∈ xs, ∃ A k c, v = .slice A k c
theorem SlBox.of {w : World} {x : Nat} {xs : List Value} (h : Box w x xs) (hs : ∀ v ∈ xs, ∃ A k c, v = .slice A k c) : SlBox w x := ⟨xs, h, hs⟩
theorem SlBox.set {w : World} {x : Nat} (h : SlBox w x) (i : Nat) (A : Option Addr) (k c : Nat) : SlBox (w.setCell ⟨x, i, none⟩ (.slice A k c)) x := by
  obtain ⟨xs, hb, hs⟩ := h
  refine ⟨_, hb.set i _, fun v hv => ?_⟩
  rcases List.mem_or_eq_of_mem_set hv with h1 | rfl
  · exact hs v h1
  · exact ⟨_, _, _, rfl⟩
theorem Sl.setS {w : World} {B size n : Nat} {g : Nat → Nat → Value} {v : Value} (h : Sl w B size n g v) (hs : 0 < size) (hi : ∀ i, i < n → ∃ k z, g i 0 = .int k z) {x : Nat} (hx : SlBox w x) (j : Nat) (u : Value) : Sl (w.setCell ⟨x, j, none⟩ u) B size n g v := by
  obtain ⟨A, c, hv, hm, h1⟩ := h
  obtain ⟨xs, hx, hxs⟩ := hx
  refine ⟨A, c, hv, hm, fun i hin => ?_⟩
  obtain ⟨b, off, ha, hb, h3⟩ := h1 i hin
  have hne : b ≠ x := by
    rintro rfl
    have h4 := h3 0 hs
    rw [hx.cell] at h4
    obtain ⟨k, z, e⟩ := hi i hin
    rw [e] at h4
    obtain ⟨A', k', c', e'⟩ := hxs _ (List.mem_of_getElem? h4)
    cases e'
  exact ⟨b, off, ha, hb, fun q hq => by rw [World.cell?_of_block (w := w) (Below.heap_setCell w ⟨x, j, none⟩ u b hne)]; exact h3 q hq⟩
theorem BytesAt.setS {w : World} {B : Nat} {v : Value} {l : List UInt8} (h : BytesAt w B v l) {x : Nat} (hx : SlBox w x) (j : Nat) (u : Value) : BytesAt (w.setCell ⟨x, j, none⟩ u) B v l :=
  ⟨h.1, Sl.setS h.2 (by decide) (fun i _ => ⟨_, _, rfl⟩) hx j u⟩
theorem NetAt.setS {w : World} {B : Nat} {Vq Va : Value} {n : Net} (h : NetAt w B Vq Va n) {x : Nat} (hx : SlBox w x) (j : Nat) (u : Value) : NetAt (w.setCell ⟨x, j, none⟩ u) B Vq Va n := by
  obtain ⟨f, V, s, b⟩ := h.queue
  exact ⟨⟨f, V, s.setS (by decide) (fun i _ => ⟨_, _, rfl⟩) hx j u, fun i p hp => (b i p hp).setS hx j u⟩, ⟨h.apart.1, h.apart.2.setS (by decide) (fun i _ => ⟨_, _, rfl⟩) hx j u⟩⟩
theorem NetAt.set2 {w : World} {B : Nat} {Vq Va : Value} {n : Net} (h : NetAt w B Vq Va n) {x : Nat} (hx : SlBox w x) (A0 A1 : Option Addr) (n0 c0 n1 c1 : Nat) :
    NetAt ((w.setCell ⟨x, 0, none⟩ (.slice A0 n0 c0)).setCell ⟨x, 1, none⟩ (.slice A1 n1 c1)) B Vq Va n ∧ SlBox ((w.setCell ⟨x, 0, none⟩ (.slice A0 n0 c0)).setCell ⟨x, 1, none⟩ (.slice A1 n1 c1)) x :=
  ⟨(h.setS hx 0 _).setS (hx.set 0 _ _ _) 1 _, (hx.set 0 _ _ _).set 1 _ _ _⟩
theorem NetAt.set5 {w : World} {B : Nat} {Vq Va : Value} {n : Net} (h : NetAt w B Vq Va n) {x : Nat} (hx : SlBox w x) (A0 A1 A2 A3 A4 : Option Addr) (n0 c0 n1 c1 n2 c2 n3 c3 n4 c4 : Nat) :
    NetAt (((((w.setCell ⟨x, 0, none⟩ (.slice A0 n0 c0)).setCell ⟨x, 1, none⟩ (.slice A1 n1 c1)).setCell ⟨x, 2, none⟩ (.slice A2 n2 c2)).setCell ⟨x, 3, none⟩ (.slice A3 n3 c3)).setCell ⟨x, 4, none⟩ (.slice A4 n4 c4)) B Vq Va n := by
  obtain ⟨h2, x2⟩ := h.set2 hx A0 A1 n0 c0 n1 c1
  exact ((h2.setS x2 2 _).setS (x2.set 2 _ _ _) 3 _).setS ((x2.set 2 _ _ _).set 3 _ _ _) 4 _
theorem lk_cells_row (l : List (Int × Int)) : flat l.length 2 (lkCells l) = lkL l := by
  apply List.ext_getElem?
  intro j
  rcases Nat.lt_or_ge j (l.length * 2) with hj | hj
  · have hk : j / 2 < l.length := by omega
    obtain ⟨e0, e1⟩ := lkL_at hk
    have hf := flat_at (n := l.length) (size := 2) (lkCells l) (i := j / 2) (j := j % 2) hk (Nat.mod_lt _ (by decide))
    rw [show j / 2 * 2 + j % 2 = j by omega] at hf
    rw [hf]
    rcases Nat.mod_two_eq_zero_or_one j with h2 | h2
    · rw [show j / 2 * 2 = j by omega] at e0
      rw [e0, h2]
      rfl
    · rw [show j / 2 * 2 + 1 = j by omega] at e1
      rw [e1, h2]
      rfl
  · rw [List.getElem?_eq_none (by rw [flat_length]; exact hj), List.getElem?_eq_none (by rw [lkL_length]; exact hj)]
theorem cat_zero (g h : Nat → Nat → Value) : cat 0 g h = h := by
  funext i j
  simp [cat]
theorem ownM_empty (w : World) : OwnE oEncM 2 (w.alloc (.cells #[] 48)) w.heap.size 48 (.slice (some ⟨w.heap.size, 0, none⟩) 0 0) [] :=
  ⟨by simp, .inr ⟨w.heap.size, 0, #[], rfl, Nat.le_refl _, World.alloc_heap_new w _, Nat.le_refl _, Nat.zero_le _, by simp, by simp⟩⟩
theorem app_lks (ty : TypeId) {w : World} {base k : Nat} {V X : Value} {l : List (Int × Int)} (hl : l.length = k) (hk : k ≤ 4096) (ho : OwnE oEncM 2 w base 48 V []) (hx : LksAt w w.heap.size X l) (hb : base ≤ w.heap.size) :
    ∃ V' w', (appF #[26, 26] ty #[V, X]).run Try.prog w = .ok V' w' ∧ OwnE oEncM 2 w' base 48 V' l ∧ w.grownBy w' V.ownBlock := by
  obtain ⟨i, E⟩ := oElemM
  subst hl
  obtain ⟨V', w', hr, h2, h3⟩ := run_app_own E ty (n := 0) (g := fun _ _ => undef) ho hx.2 hx.1 (fun k j _ hj => by
    unfold lkCells
    split <;> rfl) (by unfold maxLen; omega) (by omega) hb
  refine ⟨V', w', hr, ?_, h3⟩
  rw [cat_zero, Nat.zero_add, lk_cells_row] at h2
  exact h2
theorem lkL_last {l : List (Int × Int)} {k : Nat} (hl : l.length = k) (g o : Int) (u v : Value) : ((lkL l ++ [u, v]).set (k * 2) (.int .i64 g)).set (k * 2 + 1) (.int .i64 o) = lkL (l ++ [(g, o)]) := by
  subst hl
  rw [List.set_append_right _ _ (by rw [lkL_length]; omega), List.set_append_right _ _ (by rw [lkL_length]; omega), lkL_append, lkL_length]
  rw [show l.length * 2 - l.length * 2 = 0 by omega, show l.length * 2 + 1 - l.length * 2 = 1 by omega]
  rfl
theorem lkL_room {l : List (Int × Int)} {k : Nat} (hl : l.length = k) (u v : Value) : (lkL l ++ [u, v])[k * 2]? = some u ∧ (lkL l ++ [u, v])[k * 2 + 1]? = some v := by
  subst hl
  rw [List.getElem?_append_right (by rw [lkL_length]; omega), List.getElem?_append_right (by rw [lkL_length]; omega), lkL_length]
  rw [show l.length * 2 - l.length * 2 = 0 by omega, show l.length * 2 + 1 - l.length * 2 = 1 by omega]
  exact ⟨rfl, rfl⟩
end Go.Proofs.Ytmbifmmkccghfaa

/-
  Send of orders. (Printed by gen_rm.py and pp.py.) No condition.
-/
namespace Go.Proofs.Ytmbifmmkccghfaa
open Go.RowKit Go.Shelf
attribute [local go_sem] Oper.semAt_some
attribute [local go_sem ↓ high] app_named cop_named

theorem send_bad {b : Bx} {g o : Int} {c : Int} (h : b.checkT = c) (h0 : c ≠ 0) : b.sendT g o = (Bx.zero, c) := by
  unfold Bx.checkT at h
  unfold Bx.sendT
  by_cases hk : b.okB = true
  · rw [if_pos hk] at h
    exact absurd h.symm h0
  · rw [if_neg hk] at h ⊢
    rw [h]
theorem wrap64_next {n : Nat} (h : n ≤ 4096) : wrap64 ((n : Int) + 1) = (n : Int) + 1 := by unfold wrap64; omega
theorem wrapI_next {n : Nat} (h : n ≤ 4096) : IntKind.i64.wrap ((n : Int) + 1) = (n : Int) + 1 := by rw [IntKind.wrap_i64]; omega
abbrev OwnHm (w : World) (base : Nat) (V : Value) (l : List (Int × Int)) : Prop := OwnE oEncM 2 w base 48 V l
theorem send_out {b : Bx} {g o : Int} (h : b.okB = true) (h1 : ¬ ((0 ≤ g ∧ g < (b.heard.length : Int)) ∧ (0 ≤ o ∧ o ≤ 7))) : b.sendT g o = (Bx.zero, 1) := by rw [Bx.sendT, if_pos h, if_neg h1]
theorem send_full {b : Bx} {g o : Int} (h : b.okB = true) (h1 : (0 ≤ g ∧ g < (b.heard.length : Int)) ∧ (0 ≤ o ∧ o ≤ 7)) (h2 : b.sent.length = 4096) : b.sendT g o = (Bx.zero, 2) := by rw [Bx.sendT, if_pos h, if_pos h1, if_pos h2]
theorem send_net {b : Bx} {g o : Int} (h : b.okB = true) (h1 : (0 ≤ g ∧ g < (b.heard.length : Int)) ∧ (0 ≤ o ∧ o ≤ 7)) (h2 : ¬ b.sent.length = 4096) {m : Net} {er : Int} (h3 : Go.Proofs.Ytmbifmmkccghfaa.sendT b.net ⟨0, g + 1, msgB b.sent.length o⟩ = (m, er)) :
    b.sendT g o = if er = 0 then (⟨m, b.sent ++ [(g, o)], b.heard, b.fresh⟩, 0) else (Bx.zero, er) := by rw [Bx.sendT, if_pos h, if_pos h1, if_neg h2, h3]
set_option maxRecDepth 100000 in
set_option maxHeartbeats 4000000 in
theorem oSend_any (b : Bx) (g o : Int) (Aq Aa As Ah Af : Option Addr) (nq cq na ca ns cs n ch nf cf : Nat) (w : World) (hx : Hid (BxAt w w.heap.size (.slice Aq nq cq) (.slice Aa na ca) (.slice As ns cs) (.slice Ah n ch) (.slice Af nf cf) b)) (hns : Hid (b.sent.length = ns)) (hn : Hid (b.heard.length = n)) {T : Bx × Int} (hT : Hid (b.sendT g o = T)) :
    Calls Try.prog 12 #[.agg #[.slice Aq nq cq, .slice Aa na ca, .slice As ns cs, .slice Ah n ch, .slice Af nf cf], .int .i64 g, .int .i64 o] w (RetBx T.1 #[.int .i64 T.2] w) := by
  go_enter Try.func12, Try.ntmps12
  have hB := ((Below.refl w.heap.size w).alloc (Nat.le_refl _) (.cells #[.slice Aq nq cq, .slice Aa na ca, .slice As ns cs, .slice Ah n ch, .slice Af nf cf] 30)).alloc (by simp) (.cells #[.slice none 0 0, .slice none 0 0, .slice none 0 0, .slice none 0 0, .slice none 0 0] 30)
  have X1 := (Box.new w [.slice Aq nq cq, .slice Aa na ca, .slice As ns cs, .slice Ah n ch, .slice Af nf cf] 30).alloc (.cells #[.slice none 0 0, .slice none 0 0, .slice none 0 0, .slice none 0 0, .slice none 0 0] 30)
  have X6 := Box.newAt (w := w.alloc (.cells #[.slice Aq nq cq, .slice Aa na ca, .slice As ns cs, .slice Ah n ch, .slice Af nf cf] 30)) (n := w.heap.size + 1) [.slice none 0 0, .slice none 0 0, .slice none 0 0, .slice none 0 0, .slice none 0 0] 30 (by simp)
  go_upto_region 1 with fail
  generalize (w.alloc (.cells #[.slice Aq nq cq, .slice Aa na ca, .slice As ns cs, .slice Ah n ch, .slice Af nf cf] 30)).alloc (.cells #[.slice none 0 0, .slice none 0 0, .slice none 0 0, .slice none 0 0, .slice none 0 0] 30) = w1 at hB X1 X6 ⊢
  have z1 := X1.lt
  have X1c0 : w1.cell? ⟨w.heap.size, 0, none⟩ = some (.slice Aq nq cq) := X1.cell 0
  have X1c1 : w1.cell? ⟨w.heap.size, 1, none⟩ = some (.slice Aa na ca) := X1.cell 1
  have X1c2 : w1.cell? ⟨w.heap.size, 2, none⟩ = some (.slice As ns cs) := X1.cell 2
  have X1c3 : w1.cell? ⟨w.heap.size, 3, none⟩ = some (.slice Ah n ch) := X1.cell 3
  have X1c4 : w1.cell? ⟨w.heap.size, 4, none⟩ = some (.slice Af nf cf) := X1.cell 4
  obtain ⟨c, hc⟩ : ∃ c, Hid (b.checkT = c) := ⟨_, Lib.hid rfl⟩
  go_wp2_with fail
  refine (oCheck_is hc (hx.out.later hB)).mono ?_
  rintro e w2 ⟨rfl, hb⟩
  have hB := hB.trans (hb.mono hB.size)
  have X1 := X1.later hb
  have X6 := X6.later hb
  clear hb z1 X1c0 X1c1 X1c2 X1c3 X1c4
  by_cases h0 : c = 0
  rotate_left
  · have d0 : (c != 0) = true := by simp [h0]
    obtain rfl := (send_bad hc.out h0).symm.trans hT.out
    have X6c0 : w2.cell? ⟨w.heap.size + 1, 0, none⟩ = some (.slice none 0 0) := X6.cell 0
    have X6f0 : w2.frozen? ⟨w.heap.size + 1, 0, none⟩ = false := X6.free 0
    have X6c1 : w2.cell? ⟨w.heap.size + 1, 1, none⟩ = some (.slice none 0 0) := X6.cell 1
    have X6f1 : w2.frozen? ⟨w.heap.size + 1, 1, none⟩ = false := X6.free 1
    have X6c2 : w2.cell? ⟨w.heap.size + 1, 2, none⟩ = some (.slice none 0 0) := X6.cell 2
    have X6f2 : w2.frozen? ⟨w.heap.size + 1, 2, none⟩ = false := X6.free 2
    have X6c3 : w2.cell? ⟨w.heap.size + 1, 3, none⟩ = some (.slice none 0 0) := X6.cell 3
    have X6f3 : w2.frozen? ⟨w.heap.size + 1, 3, none⟩ = false := X6.free 3
    have X6c4 : w2.cell? ⟨w.heap.size + 1, 4, none⟩ = some (.slice none 0 0) := X6.cell 4
    have X6f4 : w2.frozen? ⟨w.heap.size + 1, 4, none⟩ = false := X6.free 4
    have X6z : w.heap.size + 1 < w2.heap.size := X6.lt
    have Y6 := (((((X6.set 0 (.slice none 0 0)).set 1 (.slice none 0 0)).set 2 (.slice none 0 0)).set 3 (.slice none 0 0)).set 4 (.slice none 0 0))
    have hB2 := (((((hB.setCell (p := ⟨w.heap.size + 1, 0, none⟩) (by simp <;> omega) (.slice none 0 0)).setCell (p := ⟨w.heap.size + 1, 1, none⟩) (by simp <;> omega) (.slice none 0 0)).setCell (p := ⟨w.heap.size + 1, 2, none⟩) (by simp <;> omega) (.slice none 0 0)).setCell (p := ⟨w.heap.size + 1, 3, none⟩) (by simp <;> omega) (.slice none 0 0)).setCell (p := ⟨w.heap.size + 1, 4, none⟩) (by simp <;> omega) (.slice none 0 0))
    go_wp2
    clear X6c0 X6c1 X6c2 X6c3 X6c4 X6f0 X6f1 X6f2 X6f3 X6f4 X6z
    generalize (((((w2.setCell ⟨w.heap.size + 1, 0, none⟩ (.slice none 0 0)).setCell ⟨w.heap.size + 1, 1, none⟩ (.slice none 0 0)).setCell ⟨w.heap.size + 1, 2, none⟩ (.slice none 0 0)).setCell ⟨w.heap.size + 1, 3, none⟩ (.slice none 0 0)).setCell ⟨w.heap.size + 1, 4, none⟩ (.slice none 0 0)) = W8 at Y6 hB2 ⊢
    simp only [List.set_cons_zero, List.set_cons_succ] at Y6
    have Y6c0 : W8.cell? ⟨w.heap.size + 1, 0, none⟩ = some (.slice none 0 0) := Y6.cell 0
    have Y6c1 : W8.cell? ⟨w.heap.size + 1, 1, none⟩ = some (.slice none 0 0) := Y6.cell 1
    have Y6c2 : W8.cell? ⟨w.heap.size + 1, 2, none⟩ = some (.slice none 0 0) := Y6.cell 2
    have Y6c3 : W8.cell? ⟨w.heap.size + 1, 3, none⟩ = some (.slice none 0 0) := Y6.cell 3
    have Y6c4 : W8.cell? ⟨w.heap.size + 1, 4, none⟩ = some (.slice none 0 0) := Y6.cell 4
    refine bodyPost_ret (v := .tuple #[.agg #[.slice none 0 0, .slice none 0 0, .slice none 0 0, .slice none 0 0, .slice none 0 0], .int .i64 c]) (by simp [results, Try.results12, go_sem, Y6c0, Y6c1, Y6c2, Y6c3, Y6c4]) rfl ?_
    exact ⟨_, _, _, _, _, rfl, bxAt_zero _ _, hB2⟩
  subst h0
  have hok := check_ok hc.out
  have HOK := Lib.hid hok
  obtain ⟨hl1, -, -, -, -⟩ := okB_parts hok
  have hl1 := of_decide_eq_true hl1
  rw [hn.out, hns.out] at hl1
  obtain ⟨⟨hn1, hn8⟩, -, hn4⟩ := hl1
  clear hok
  have z1 := X1.lt
  have X1c3 : w2.cell? ⟨w.heap.size, 3, none⟩ = some (.slice Ah n ch) := X1.cell 3
  by_cases hin : (0 ≤ g ∧ g < (n : Int)) ∧ (0 ≤ o ∧ o ≤ 7)
  rotate_left
  · obtain rfl : T = (Bx.zero, 1) := by rw [← hT.out]; exact send_out HOK.out (by rw [hn.out]; exact hin)
    by_cases g1 : g < 0
    · have d1 : decide (g < 0) = true := decide_eq_true g1
      have X6c0 : w2.cell? ⟨w.heap.size + 1, 0, none⟩ = some (.slice none 0 0) := X6.cell 0
      have X6f0 : w2.frozen? ⟨w.heap.size + 1, 0, none⟩ = false := X6.free 0
      have X6c1 : w2.cell? ⟨w.heap.size + 1, 1, none⟩ = some (.slice none 0 0) := X6.cell 1
      have X6f1 : w2.frozen? ⟨w.heap.size + 1, 1, none⟩ = false := X6.free 1
      have X6c2 : w2.cell? ⟨w.heap.size + 1, 2, none⟩ = some (.slice none 0 0) := X6.cell 2
      have X6f2 : w2.frozen? ⟨w.heap.size + 1, 2, none⟩ = false := X6.free 2
      have X6c3 : w2.cell? ⟨w.heap.size + 1, 3, none⟩ = some (.slice none 0 0) := X6.cell 3
      have X6f3 : w2.frozen? ⟨w.heap.size + 1, 3, none⟩ = false := X6.free 3
      have X6c4 : w2.cell? ⟨w.heap.size + 1, 4, none⟩ = some (.slice none 0 0) := X6.cell 4
      have X6f4 : w2.frozen? ⟨w.heap.size + 1, 4, none⟩ = false := X6.free 4
      have X6z : w.heap.size + 1 < w2.heap.size := X6.lt
      have Y6 := (((((X6.set 0 (.slice none 0 0)).set 1 (.slice none 0 0)).set 2 (.slice none 0 0)).set 3 (.slice none 0 0)).set 4 (.slice none 0 0))
      have hB2 := (((((hB.setCell (p := ⟨w.heap.size + 1, 0, none⟩) (by simp <;> omega) (.slice none 0 0)).setCell (p := ⟨w.heap.size + 1, 1, none⟩) (by simp <;> omega) (.slice none 0 0)).setCell (p := ⟨w.heap.size + 1, 2, none⟩) (by simp <;> omega) (.slice none 0 0)).setCell (p := ⟨w.heap.size + 1, 3, none⟩) (by simp <;> omega) (.slice none 0 0)).setCell (p := ⟨w.heap.size + 1, 4, none⟩) (by simp <;> omega) (.slice none 0 0))
      go_wp2
      clear X6c0 X6c1 X6c2 X6c3 X6c4 X6f0 X6f1 X6f2 X6f3 X6f4 X6z
      generalize (((((w2.setCell ⟨w.heap.size + 1, 0, none⟩ (.slice none 0 0)).setCell ⟨w.heap.size + 1, 1, none⟩ (.slice none 0 0)).setCell ⟨w.heap.size + 1, 2, none⟩ (.slice none 0 0)).setCell ⟨w.heap.size + 1, 3, none⟩ (.slice none 0 0)).setCell ⟨w.heap.size + 1, 4, none⟩ (.slice none 0 0)) = W8 at Y6 hB2 ⊢
      simp only [List.set_cons_zero, List.set_cons_succ] at Y6
      have Y6c0 : W8.cell? ⟨w.heap.size + 1, 0, none⟩ = some (.slice none 0 0) := Y6.cell 0
      have Y6c1 : W8.cell? ⟨w.heap.size + 1, 1, none⟩ = some (.slice none 0 0) := Y6.cell 1
      have Y6c2 : W8.cell? ⟨w.heap.size + 1, 2, none⟩ = some (.slice none 0 0) := Y6.cell 2
      have Y6c3 : W8.cell? ⟨w.heap.size + 1, 3, none⟩ = some (.slice none 0 0) := Y6.cell 3
      have Y6c4 : W8.cell? ⟨w.heap.size + 1, 4, none⟩ = some (.slice none 0 0) := Y6.cell 4
      refine bodyPost_ret (v := .tuple #[.agg #[.slice none 0 0, .slice none 0 0, .slice none 0 0, .slice none 0 0, .slice none 0 0], .int .i64 1]) (by simp [results, Try.results12, go_sem, Y6c0, Y6c1, Y6c2, Y6c3, Y6c4]) rfl ?_
      exact ⟨_, _, _, _, _, rfl, bxAt_zero _ _, hB2⟩
    have d1 : decide (g < 0) = false := decide_eq_false g1
    by_cases g2 : (n : Int) ≤ g
    · have d2 : decide ((n : Int) ≤ g) = true := decide_eq_true g2
      have X6c0 : w2.cell? ⟨w.heap.size + 1, 0, none⟩ = some (.slice none 0 0) := X6.cell 0
      have X6f0 : w2.frozen? ⟨w.heap.size + 1, 0, none⟩ = false := X6.free 0
      have X6c1 : w2.cell? ⟨w.heap.size + 1, 1, none⟩ = some (.slice none 0 0) := X6.cell 1
      have X6f1 : w2.frozen? ⟨w.heap.size + 1, 1, none⟩ = false := X6.free 1
      have X6c2 : w2.cell? ⟨w.heap.size + 1, 2, none⟩ = some (.slice none 0 0) := X6.cell 2
      have X6f2 : w2.frozen? ⟨w.heap.size + 1, 2, none⟩ = false := X6.free 2
      have X6c3 : w2.cell? ⟨w.heap.size + 1, 3, none⟩ = some (.slice none 0 0) := X6.cell 3
      have X6f3 : w2.frozen? ⟨w.heap.size + 1, 3, none⟩ = false := X6.free 3
      have X6c4 : w2.cell? ⟨w.heap.size + 1, 4, none⟩ = some (.slice none 0 0) := X6.cell 4
      have X6f4 : w2.frozen? ⟨w.heap.size + 1, 4, none⟩ = false := X6.free 4
      have X6z : w.heap.size + 1 < w2.heap.size := X6.lt
      have Y6 := (((((X6.set 0 (.slice none 0 0)).set 1 (.slice none 0 0)).set 2 (.slice none 0 0)).set 3 (.slice none 0 0)).set 4 (.slice none 0 0))
      have hB2 := (((((hB.setCell (p := ⟨w.heap.size + 1, 0, none⟩) (by simp <;> omega) (.slice none 0 0)).setCell (p := ⟨w.heap.size + 1, 1, none⟩) (by simp <;> omega) (.slice none 0 0)).setCell (p := ⟨w.heap.size + 1, 2, none⟩) (by simp <;> omega) (.slice none 0 0)).setCell (p := ⟨w.heap.size + 1, 3, none⟩) (by simp <;> omega) (.slice none 0 0)).setCell (p := ⟨w.heap.size + 1, 4, none⟩) (by simp <;> omega) (.slice none 0 0))
      go_wp2
      clear X6c0 X6c1 X6c2 X6c3 X6c4 X6f0 X6f1 X6f2 X6f3 X6f4 X6z
      generalize (((((w2.setCell ⟨w.heap.size + 1, 0, none⟩ (.slice none 0 0)).setCell ⟨w.heap.size + 1, 1, none⟩ (.slice none 0 0)).setCell ⟨w.heap.size + 1, 2, none⟩ (.slice none 0 0)).setCell ⟨w.heap.size + 1, 3, none⟩ (.slice none 0 0)).setCell ⟨w.heap.size + 1, 4, none⟩ (.slice none 0 0)) = W8 at Y6 hB2 ⊢
      simp only [List.set_cons_zero, List.set_cons_succ] at Y6
      have Y6c0 : W8.cell? ⟨w.heap.size + 1, 0, none⟩ = some (.slice none 0 0) := Y6.cell 0
      have Y6c1 : W8.cell? ⟨w.heap.size + 1, 1, none⟩ = some (.slice none 0 0) := Y6.cell 1
      have Y6c2 : W8.cell? ⟨w.heap.size + 1, 2, none⟩ = some (.slice none 0 0) := Y6.cell 2
      have Y6c3 : W8.cell? ⟨w.heap.size + 1, 3, none⟩ = some (.slice none 0 0) := Y6.cell 3
      have Y6c4 : W8.cell? ⟨w.heap.size + 1, 4, none⟩ = some (.slice none 0 0) := Y6.cell 4
      refine bodyPost_ret (v := .tuple #[.agg #[.slice none 0 0, .slice none 0 0, .slice none 0 0, .slice none 0 0, .slice none 0 0], .int .i64 1]) (by simp [results, Try.results12, go_sem, Y6c0, Y6c1, Y6c2, Y6c3, Y6c4]) rfl ?_
      exact ⟨_, _, _, _, _, rfl, bxAt_zero _ _, hB2⟩
    have d2 : decide ((n : Int) ≤ g) = false := decide_eq_false g2
    by_cases g3 : o < 0
    · have d3 : decide (o < 0) = true := decide_eq_true g3
      have X6c0 : w2.cell? ⟨w.heap.size + 1, 0, none⟩ = some (.slice none 0 0) := X6.cell 0
      have X6f0 : w2.frozen? ⟨w.heap.size + 1, 0, none⟩ = false := X6.free 0
      have X6c1 : w2.cell? ⟨w.heap.size + 1, 1, none⟩ = some (.slice none 0 0) := X6.cell 1
      have X6f1 : w2.frozen? ⟨w.heap.size + 1, 1, none⟩ = false := X6.free 1
      have X6c2 : w2.cell? ⟨w.heap.size + 1, 2, none⟩ = some (.slice none 0 0) := X6.cell 2
      have X6f2 : w2.frozen? ⟨w.heap.size + 1, 2, none⟩ = false := X6.free 2
      have X6c3 : w2.cell? ⟨w.heap.size + 1, 3, none⟩ = some (.slice none 0 0) := X6.cell 3
      have X6f3 : w2.frozen? ⟨w.heap.size + 1, 3, none⟩ = false := X6.free 3
      have X6c4 : w2.cell? ⟨w.heap.size + 1, 4, none⟩ = some (.slice none 0 0) := X6.cell 4
      have X6f4 : w2.frozen? ⟨w.heap.size + 1, 4, none⟩ = false := X6.free 4
      have X6z : w.heap.size + 1 < w2.heap.size := X6.lt
      have Y6 := (((((X6.set 0 (.slice none 0 0)).set 1 (.slice none 0 0)).set 2 (.slice none 0 0)).set 3 (.slice none 0 0)).set 4 (.slice none 0 0))
      have hB2 := (((((hB.setCell (p := ⟨w.heap.size + 1, 0, none⟩) (by simp <;> omega) (.slice none 0 0)).setCell (p := ⟨w.heap.size + 1, 1, none⟩) (by simp <;> omega) (.slice none 0 0)).setCell (p := ⟨w.heap.size + 1, 2, none⟩) (by simp <;> omega) (.slice none 0 0)).setCell (p := ⟨w.heap.size + 1, 3, none⟩) (by simp <;> omega) (.slice none 0 0)).setCell (p := ⟨w.heap.size + 1, 4, none⟩) (by simp <;> omega) (.slice none 0 0))
      go_wp2
      clear X6c0 X6c1 X6c2 X6c3 X6c4 X6f0 X6f1 X6f2 X6f3 X6f4 X6z
      generalize (((((w2.setCell ⟨w.heap.size + 1, 0, none⟩ (.slice none 0 0)).setCell ⟨w.heap.size + 1, 1, none⟩ (.slice none 0 0)).setCell ⟨w.heap.size + 1, 2, none⟩ (.slice none 0 0)).setCell ⟨w.heap.size + 1, 3, none⟩ (.slice none 0 0)).setCell ⟨w.heap.size + 1, 4, none⟩ (.slice none 0 0)) = W8 at Y6 hB2 ⊢
      simp only [List.set_cons_zero, List.set_cons_succ] at Y6
      have Y6c0 : W8.cell? ⟨w.heap.size + 1, 0, none⟩ = some (.slice none 0 0) := Y6.cell 0
      have Y6c1 : W8.cell? ⟨w.heap.size + 1, 1, none⟩ = some (.slice none 0 0) := Y6.cell 1
      have Y6c2 : W8.cell? ⟨w.heap.size + 1, 2, none⟩ = some (.slice none 0 0) := Y6.cell 2
      have Y6c3 : W8.cell? ⟨w.heap.size + 1, 3, none⟩ = some (.slice none 0 0) := Y6.cell 3
      have Y6c4 : W8.cell? ⟨w.heap.size + 1, 4, none⟩ = some (.slice none 0 0) := Y6.cell 4
      refine bodyPost_ret (v := .tuple #[.agg #[.slice none 0 0, .slice none 0 0, .slice none 0 0, .slice none 0 0, .slice none 0 0], .int .i64 1]) (by simp [results, Try.results12, go_sem, Y6c0, Y6c1, Y6c2, Y6c3, Y6c4]) rfl ?_
      exact ⟨_, _, _, _, _, rfl, bxAt_zero _ _, hB2⟩
    have d3 : decide (o < 0) = false := decide_eq_false g3
    have d4 : decide ((7 : Int) < o) = true := decide_eq_true (by omega)
    have X6c0 : w2.cell? ⟨w.heap.size + 1, 0, none⟩ = some (.slice none 0 0) := X6.cell 0
    have X6f0 : w2.frozen? ⟨w.heap.size + 1, 0, none⟩ = false := X6.free 0
    have X6c1 : w2.cell? ⟨w.heap.size + 1, 1, none⟩ = some (.slice none 0 0) := X6.cell 1
    have X6f1 : w2.frozen? ⟨w.heap.size + 1, 1, none⟩ = false := X6.free 1
    have X6c2 : w2.cell? ⟨w.heap.size + 1, 2, none⟩ = some (.slice none 0 0) := X6.cell 2
    have X6f2 : w2.frozen? ⟨w.heap.size + 1, 2, none⟩ = false := X6.free 2
    have X6c3 : w2.cell? ⟨w.heap.size + 1, 3, none⟩ = some (.slice none 0 0) := X6.cell 3
    have X6f3 : w2.frozen? ⟨w.heap.size + 1, 3, none⟩ = false := X6.free 3
    have X6c4 : w2.cell? ⟨w.heap.size + 1, 4, none⟩ = some (.slice none 0 0) := X6.cell 4
    have X6f4 : w2.frozen? ⟨w.heap.size + 1, 4, none⟩ = false := X6.free 4
    have X6z : w.heap.size + 1 < w2.heap.size := X6.lt
    have Y6 := (((((X6.set 0 (.slice none 0 0)).set 1 (.slice none 0 0)).set 2 (.slice none 0 0)).set 3 (.slice none 0 0)).set 4 (.slice none 0 0))
    have hB2 := (((((hB.setCell (p := ⟨w.heap.size + 1, 0, none⟩) (by simp <;> omega) (.slice none 0 0)).setCell (p := ⟨w.heap.size + 1, 1, none⟩) (by simp <;> omega) (.slice none 0 0)).setCell (p := ⟨w.heap.size + 1, 2, none⟩) (by simp <;> omega) (.slice none 0 0)).setCell (p := ⟨w.heap.size + 1, 3, none⟩) (by simp <;> omega) (.slice none 0 0)).setCell (p := ⟨w.heap.size + 1, 4, none⟩) (by simp <;> omega) (.slice none 0 0))
    go_wp2
    clear X6c0 X6c1 X6c2 X6c3 X6c4 X6f0 X6f1 X6f2 X6f3 X6f4 X6z
    generalize (((((w2.setCell ⟨w.heap.size + 1, 0, none⟩ (.slice none 0 0)).setCell ⟨w.heap.size + 1, 1, none⟩ (.slice none 0 0)).setCell ⟨w.heap.size + 1, 2, none⟩ (.slice none 0 0)).setCell ⟨w.heap.size + 1, 3, none⟩ (.slice none 0 0)).setCell ⟨w.heap.size + 1, 4, none⟩ (.slice none 0 0)) = W8 at Y6 hB2 ⊢
    simp only [List.set_cons_zero, List.set_cons_succ] at Y6
    have Y6c0 : W8.cell? ⟨w.heap.size + 1, 0, none⟩ = some (.slice none 0 0) := Y6.cell 0
    have Y6c1 : W8.cell? ⟨w.heap.size + 1, 1, none⟩ = some (.slice none 0 0) := Y6.cell 1
    have Y6c2 : W8.cell? ⟨w.heap.size + 1, 2, none⟩ = some (.slice none 0 0) := Y6.cell 2
    have Y6c3 : W8.cell? ⟨w.heap.size + 1, 3, none⟩ = some (.slice none 0 0) := Y6.cell 3
    have Y6c4 : W8.cell? ⟨w.heap.size + 1, 4, none⟩ = some (.slice none 0 0) := Y6.cell 4
    refine bodyPost_ret (v := .tuple #[.agg #[.slice none 0 0, .slice none 0 0, .slice none 0 0, .slice none 0 0, .slice none 0 0], .int .i64 1]) (by simp [results, Try.results12, go_sem, Y6c0, Y6c1, Y6c2, Y6c3, Y6c4]) rfl ?_
    exact ⟨_, _, _, _, _, rfl, bxAt_zero _ _, hB2⟩
  have d1 : decide (g < 0) = false := decide_eq_false (by omega)
  have d2 : decide ((n : Int) ≤ g) = false := decide_eq_false (by omega)
  have d3 : decide (o < 0) = false := decide_eq_false (by omega)
  have d4 : decide ((7 : Int) < o) = false := decide_eq_false (by omega)
  have X1c2 : w2.cell? ⟨w.heap.size, 2, none⟩ = some (.slice As ns cs) := X1.cell 2
  have hin' : (0 ≤ g ∧ g < (b.heard.length : Int)) ∧ (0 ≤ o ∧ o ≤ 7) := by rw [hn.out]; exact hin
  have HIN := Lib.hid hin'
  have HI := Lib.hid hin
  clear hin hin'
  by_cases h4 : ns = 4096
  · obtain rfl : T = (Bx.zero, 2) := by rw [← hT.out]; exact send_full HOK.out HIN.out (by rw [hns.out]; exact h4)
    subst h4
    have d5 : (((4096 : Nat) : Int) == 4096) = true := by decide
    have X6c0 : w2.cell? ⟨w.heap.size + 1, 0, none⟩ = some (.slice none 0 0) := X6.cell 0
    have X6f0 : w2.frozen? ⟨w.heap.size + 1, 0, none⟩ = false := X6.free 0
    have X6c1 : w2.cell? ⟨w.heap.size + 1, 1, none⟩ = some (.slice none 0 0) := X6.cell 1
    have X6f1 : w2.frozen? ⟨w.heap.size + 1, 1, none⟩ = false := X6.free 1
    have X6c2 : w2.cell? ⟨w.heap.size + 1, 2, none⟩ = some (.slice none 0 0) := X6.cell 2
    have X6f2 : w2.frozen? ⟨w.heap.size + 1, 2, none⟩ = false := X6.free 2
    have X6c3 : w2.cell? ⟨w.heap.size + 1, 3, none⟩ = some (.slice none 0 0) := X6.cell 3
    have X6f3 : w2.frozen? ⟨w.heap.size + 1, 3, none⟩ = false := X6.free 3
    have X6c4 : w2.cell? ⟨w.heap.size + 1, 4, none⟩ = some (.slice none 0 0) := X6.cell 4
    have X6f4 : w2.frozen? ⟨w.heap.size + 1, 4, none⟩ = false := X6.free 4
    have X6z : w.heap.size + 1 < w2.heap.size := X6.lt
    have Y6 := (((((X6.set 0 (.slice none 0 0)).set 1 (.slice none 0 0)).set 2 (.slice none 0 0)).set 3 (.slice none 0 0)).set 4 (.slice none 0 0))
    have hB2 := (((((hB.setCell (p := ⟨w.heap.size + 1, 0, none⟩) (by simp <;> omega) (.slice none 0 0)).setCell (p := ⟨w.heap.size + 1, 1, none⟩) (by simp <;> omega) (.slice none 0 0)).setCell (p := ⟨w.heap.size + 1, 2, none⟩) (by simp <;> omega) (.slice none 0 0)).setCell (p := ⟨w.heap.size + 1, 3, none⟩) (by simp <;> omega) (.slice none 0 0)).setCell (p := ⟨w.heap.size + 1, 4, none⟩) (by simp <;> omega) (.slice none 0 0))
    go_wp2
    clear X6c0 X6c1 X6c2 X6c3 X6c4 X6f0 X6f1 X6f2 X6f3 X6f4 X6z
    generalize (((((w2.setCell ⟨w.heap.size + 1, 0, none⟩ (.slice none 0 0)).setCell ⟨w.heap.size + 1, 1, none⟩ (.slice none 0 0)).setCell ⟨w.heap.size + 1, 2, none⟩ (.slice none 0 0)).setCell ⟨w.heap.size + 1, 3, none⟩ (.slice none 0 0)).setCell ⟨w.heap.size + 1, 4, none⟩ (.slice none 0 0)) = W8 at Y6 hB2 ⊢
    simp only [List.set_cons_zero, List.set_cons_succ] at Y6
    have Y6c0 : W8.cell? ⟨w.heap.size + 1, 0, none⟩ = some (.slice none 0 0) := Y6.cell 0
    have Y6c1 : W8.cell? ⟨w.heap.size + 1, 1, none⟩ = some (.slice none 0 0) := Y6.cell 1
    have Y6c2 : W8.cell? ⟨w.heap.size + 1, 2, none⟩ = some (.slice none 0 0) := Y6.cell 2
    have Y6c3 : W8.cell? ⟨w.heap.size + 1, 3, none⟩ = some (.slice none 0 0) := Y6.cell 3
    have Y6c4 : W8.cell? ⟨w.heap.size + 1, 4, none⟩ = some (.slice none 0 0) := Y6.cell 4
    refine bodyPost_ret (v := .tuple #[.agg #[.slice none 0 0, .slice none 0 0, .slice none 0 0, .slice none 0 0, .slice none 0 0], .int .i64 2]) (by simp [results, Try.results12, go_sem, Y6c0, Y6c1, Y6c2, Y6c3, Y6c4]) rfl ?_
    exact ⟨_, _, _, _, _, rfl, bxAt_zero _ _, hB2⟩
  have d5 : ((ns : Int) == 4096) = false := by simp; omega
  go_upto_region 9 with fail
  clear d1 d2 d3 d4 d5 X1c2 X1c3
  obtain ⟨W, hWw⟩ : ∃ W, w2 = W := ⟨_, rfl⟩
  rw [hWw] at hB X1 X6 z1 ⊢
  clear hWw
  obtain ⟨tx, htx⟩ : ∃ tx, Hid (msgB (ns : Int) o = tx) := ⟨_, Lib.hid rfl⟩
  have hi1 : I64 (ns : Int) := ⟨by omega, by omega⟩
  have hi2 : I64 o := by have := HI.out; exact ⟨by omega, by omega⟩
  have HW3 := Lib.hid (wrap64_next (by omega : ns ≤ 4096))
  have HW4 := Lib.hid (wrapI_next (by omega : ns ≤ 4096))
  have htl : tx.length ≤ 32 := by rw [← htx.out]; exact msg_len hi1 hi2
  have hwg : wrap64 (g + 1) = g + 1 := by have := HI.out; unfold wrap64; omega
  have hwg2 : IntKind.i64.wrap (g + 1) = g + 1 := by have := HI.out; rw [IntKind.wrap_i64]; omega
  go_cut [9, 7] (fun s9 s7 wx => Below W.heap.size W wx ∧ ∃ G Aq2 nq2 cq2 Aa2 na2 ca2 m er, s9 = .pointer (some ⟨G, 0, none⟩) ∧ s7 = .int .i64 er ∧ W.heap.size ≤ G ∧ Box wx G [.slice Aq2 nq2 cq2, .slice Aa2 na2 ca2] ∧ Hid (Go.Proofs.Ytmbifmmkccghfaa.sendT b.net ⟨0, g + 1, tx⟩ = (m, er)) ∧ Hid (NetAt wx wx.heap.size (.slice Aq2 nq2 cq2) (.slice Aa2 na2 ca2) m))
  case first =>
    have hd := (Below.refl W.heap.size W).drew
    have u0 : ∀ z : Later W, z.w.cell? ⟨w.heap.size, 0, none⟩ = some (.slice Aq nq cq) := Later.cell (X1.cell 0) z1
    have u1 : ∀ z : Later W, z.w.cell? ⟨w.heap.size, 1, none⟩ = some (.slice Aa na ca) := Later.cell (X1.cell 1) z1
    have u2 : ∀ z : Later W, z.w.cell? ⟨w.heap.size, 2, none⟩ = some (.slice As ns cs) := Later.cell (X1.cell 2) z1
    have HN := Lib.hid ((hx.out.net.later hB).later hd)
    refine wp_region_heads (C := fun w' => ∃ x : Later W, w' = x.w) [0, 1, 2, 3, 4, 5] (by kernel_rfl) (by kernel_rfl) (Later.mk' hd) (fun _ _ h => h) ?_
    simp only [headOps, List.filterMap_cons, List.filterMap_nil, List.getElem?_toArray, List.getElem?_cons_succ, List.getElem?_cons_zero]
    repeat (first | go_big_quiet_skip | (show wpQuiet _ _ _ _ (_ :: _) _; go_big_quiet_skip) | (show wpQuiet _ _ _ _ (_ :: _) _; go_big_quiet_want; go_big_quiet_op; go_big_quiet_on))
    refine wpQuiet_nil ?_
    clear u0 u1 u2
    generalize W.drew = W0 at hd HN ⊢
    refine anyC_twoW (n := 10) (i := 6) (j := 13) (by kernel_rfl) (Later.mk' hd) ?_ ?_
    · refine wpOp_callD (some 48) (by rfl) rfl rfl ?_ ((oMessage_is hi1 hi2 htx W0).mono ?_)
      · go_simp
      rintro e W1 ⟨rfl, hb⟩
      refine ⟨_, rfl, ?_⟩
      simp only [Act.put, List.setIfInBounds_toArray, List.set_cons_zero, List.set_cons_succ]
      have HN := Lib.hid (HN.out.later hb)
      have hd := hd.trans (hb.mono hd.size)
      clear hb
      refine anyC_twoW (n := 9) (i := 7) (j := 13) (by kernel_rfl) (Later.mk' hd) ?_ ?_
      · obtain ⟨cd, W2, hr, hV, hb⟩ := conv_bytes W1 tx (by unfold maxLen; omega)
        refine wpOp_valD (some 49) (v := .slice (some ⟨W1.heap.size, 0, none⟩) tx.length cd) (w' := W2) (by rfl) rfl rfl ?_ ?_
        · first | exact hr | go_simp
        simp only [Act.put, List.setIfInBounds_toArray, List.set_cons_zero, List.set_cons_succ]
        have HN := Lib.hid (HN.out.later hb)
        have HD := Lib.hid (bytes_of hV)
        have hd := hd.trans (hb.mono hd.size)
        clear hb hV hr
        refine anyC_heads (by kernel_rfl) 7 W2 (Later.mk' hd) [8] _ _ (by kernel_rfl) ?_
        simp only [headOps, List.filterMap_cons, List.filterMap_nil, List.getElem?_toArray, List.getElem?_cons_succ, List.getElem?_cons_zero]
        repeat (first | go_big_quiet_skip | (show wpQuiet _ _ _ _ (_ :: _) _; go_big_quiet_skip) | (show wpQuiet _ _ _ _ (_ :: _) _; go_big_quiet_want; go_big_quiet_op; go_big_quiet_on))
        refine wpQuiet_nil ?_
        refine anyC_twoW (n := 7) (i := 9) (j := 13) (by kernel_rfl) (Later.mk' hd) ?_ ?_
        · refine wpOp_callD (some 51) (by rfl) rfl rfl ?_ ((nSend_is b.net ⟨0, g + 1, tx⟩ HN HD).mono ?_)
          · go_simp
          rintro e W3 ⟨Vq, Va, m, er, rfl, hT2, hN2, hb⟩
          refine ⟨_, rfl, ?_⟩
          simp only [Act.put, List.setIfInBounds_toArray, List.set_cons_zero, List.set_cons_succ]
          obtain ⟨Aq2, nq2, cq2, Aa2, na2, ca2, rfl, rfl⟩ := hN2.out.form
          have HM := Lib.hid (hN2.out.at hb.size)
          have hd := hd.trans (hb.mono hd.size)
          clear hb hN2
          refine anyC_heads (by kernel_rfl) 3 W3 (Later.mk' hd) [10, 11, 12] _ _ (by kernel_rfl) ?_
          simp only [headOps, List.filterMap_cons, List.filterMap_nil, List.getElem?_toArray, List.getElem?_cons_succ, List.getElem?_cons_zero]
          repeat (first | go_big_quiet_skip | (show wpQuiet _ _ _ _ (_ :: _) _; go_big_quiet_skip) | (show wpQuiet _ _ _ _ (_ :: _) _; go_big_quiet_want; go_big_quiet_op; go_big_quiet_on))
          refine wpQuiet_nil ?_
          refine anyC_oneW (n := 3) (i := 13) (by kernel_rfl) (Later.mk' hd) ?_
          refine wpOp_valD (some 9) (v := .pointer (some ⟨W3.heap.size, 0, none⟩)) (w' := W3.alloc (.cells #[.slice none 0 0, .slice none 0 0] 25)) (by rfl) rfl rfl ?_ ?_
          · go_simp
          simp only [Act.put, List.setIfInBounds_toArray, List.set_cons_zero, List.set_cons_succ]
          have hb := (Below.refl W3.heap.size W3).alloc (Nat.le_refl _) (.cells #[.slice none 0 0, .slice none 0 0] 25)
          have X9 := Box.new W3 [.slice none 0 0, .slice none 0 0] 25
          have hg9 := hd.size
          have HM := Lib.hid (HM.out.later hb)
          have hd := hd.trans (hb.mono hd.size)
          clear hb
          generalize W3.alloc (.cells #[.slice none 0 0, .slice none 0 0] 25) = W4 at hd X9 HM ⊢
          generalize W3.heap.size = G at X9 hg9 ⊢
          have X9c0 : W4.cell? ⟨G, 0, none⟩ = some (.slice none 0 0) := X9.cell 0
          have X9f0 : W4.frozen? ⟨G, 0, none⟩ = false := X9.free 0
          have X9c1 : W4.cell? ⟨G, 1, none⟩ = some (.slice none 0 0) := X9.cell 1
          have X9f1 : W4.frozen? ⟨G, 1, none⟩ = false := X9.free 1
          have X9z : G < W4.heap.size := X9.lt
          refine anyC_storeN (w' := ((W4.setCell ⟨G, 0, none⟩ (.slice Aq2 nq2 cq2)).setCell ⟨G, 1, none⟩ (.slice Aa2 na2 ca2))) (n := 1) (i := 14) (by kernel_rfl) rfl rfl rfl (Later.mk' hd) ?_ ?_
          · go_simp
          have Y9 := ((X9.set 0 (.slice Aq2 nq2 cq2)).set 1 (.slice Aa2 na2 ca2))
          have hd2 := ((hd.setCell (p := ⟨G, 0, none⟩) (by simp <;> omega) (.slice Aq2 nq2 cq2)).setCell (p := ⟨G, 1, none⟩) (by simp <;> omega) (.slice Aa2 na2 ca2))
          have HM2 := net_setO (B1 := Aq2) (l1 := nq2) (d1 := cq2) (B2 := Aa2) (l2 := na2) (d2 := ca2) HM X9
          clear X9c0 X9c1 X9f0 X9f1 X9z
          generalize ((W4.setCell ⟨G, 0, none⟩ (.slice Aq2 nq2 cq2)).setCell ⟨G, 1, none⟩ (.slice Aa2 na2 ca2)) = W9 at Y9 hd2 HM2 ⊢
          simp only [List.set_cons_zero, List.set_cons_succ] at Y9
          refine anyC_valD (some 7) (n := 0) (i := 15) (v := .int .i64 er) (w' := W9) (by kernel_rfl) rfl rfl rfl (Later.mk' hd2) (by first | rfl | go_simp) ?_
          simp only [Act.put, List.setIfInBounds_toArray, List.set_cons_zero, List.set_cons_succ]
          refine anyC_done (by kernel_rfl) (Later.mk' hd2) ?_
          go_wp2_with fail
          go_meet
          exact ⟨hd2, G, _, _, _, _, _, _, m, er, rfl, rfl, hg9, Y9, hT2, HM2⟩
        · refine wpOp_valD (some 9) (v := .pointer (some ⟨W2.heap.size, 0, none⟩)) (w' := W2.alloc (.cells #[.slice none 0 0, .slice none 0 0] 25)) (by rfl) rfl rfl ?_ ?_
          · go_simp
          simp only [Act.put, List.setIfInBounds_toArray, List.set_cons_zero, List.set_cons_succ]
          have hb := (Below.refl W2.heap.size W2).alloc (Nat.le_refl _) (.cells #[.slice none 0 0, .slice none 0 0] 25)
          have X9 := Box.new W2 [.slice none 0 0, .slice none 0 0] 25
          have hg9 := hd.size
          have HN := Lib.hid (HN.out.later hb)
          have HD := Lib.hid (HD.out.later hb)
          have hd := hd.trans (hb.mono hd.size)
          clear hb
          generalize W2.alloc (.cells #[.slice none 0 0, .slice none 0 0] 25) = W3 at hd X9 HD HN ⊢
          generalize W2.heap.size = G at X9 hg9 ⊢
          refine anyC_oneW (n := 6) (i := 9) (by kernel_rfl) (Later.mk' hd) ?_
          refine wpOp_callD (some 51) (by rfl) rfl rfl ?_ ((nSend_is b.net ⟨0, g + 1, tx⟩ HN HD).mono ?_)
          · go_simp
          rintro e W4 ⟨Vq, Va, m, er, rfl, hT2, hN2, hb⟩
          refine ⟨_, rfl, ?_⟩
          simp only [Act.put, List.setIfInBounds_toArray, List.set_cons_zero, List.set_cons_succ]
          obtain ⟨Aq2, nq2, cq2, Aa2, na2, ca2, rfl, rfl⟩ := hN2.out.form
          have X9 := X9.later hb
          have HM := Lib.hid (hN2.out.at hb.size)
          have hd := hd.trans (hb.mono hd.size)
          clear hb hN2
          refine anyC_heads (by kernel_rfl) 2 W4 (Later.mk' hd) [10, 11, 12] _ _ (by kernel_rfl) ?_
          simp only [headOps, List.filterMap_cons, List.filterMap_nil, List.getElem?_toArray, List.getElem?_cons_succ, List.getElem?_cons_zero]
          repeat (first | go_big_quiet_skip | (show wpQuiet _ _ _ _ (_ :: _) _; go_big_quiet_skip) | (show wpQuiet _ _ _ _ (_ :: _) _; go_big_quiet_want; go_big_quiet_op; go_big_quiet_on))
          refine wpQuiet_nil ?_
          have X9c0 : W4.cell? ⟨G, 0, none⟩ = some (.slice none 0 0) := X9.cell 0
          have X9f0 : W4.frozen? ⟨G, 0, none⟩ = false := X9.free 0
          have X9c1 : W4.cell? ⟨G, 1, none⟩ = some (.slice none 0 0) := X9.cell 1
          have X9f1 : W4.frozen? ⟨G, 1, none⟩ = false := X9.free 1
          have X9z : G < W4.heap.size := X9.lt
          refine anyC_storeN (w' := ((W4.setCell ⟨G, 0, none⟩ (.slice Aq2 nq2 cq2)).setCell ⟨G, 1, none⟩ (.slice Aa2 na2 ca2))) (n := 1) (i := 14) (by kernel_rfl) rfl rfl rfl (Later.mk' hd) ?_ ?_
          · go_simp
          have Y9 := ((X9.set 0 (.slice Aq2 nq2 cq2)).set 1 (.slice Aa2 na2 ca2))
          have hd2 := ((hd.setCell (p := ⟨G, 0, none⟩) (by simp <;> omega) (.slice Aq2 nq2 cq2)).setCell (p := ⟨G, 1, none⟩) (by simp <;> omega) (.slice Aa2 na2 ca2))
          have HM2 := net_setO (B1 := Aq2) (l1 := nq2) (d1 := cq2) (B2 := Aa2) (l2 := na2) (d2 := ca2) HM X9
          clear X9c0 X9c1 X9f0 X9f1 X9z
          generalize ((W4.setCell ⟨G, 0, none⟩ (.slice Aq2 nq2 cq2)).setCell ⟨G, 1, none⟩ (.slice Aa2 na2 ca2)) = W9 at Y9 hd2 HM2 ⊢
          simp only [List.set_cons_zero, List.set_cons_succ] at Y9
          refine anyC_valD (some 7) (n := 0) (i := 15) (v := .int .i64 er) (w' := W9) (by kernel_rfl) rfl rfl rfl (Later.mk' hd2) (by first | rfl | go_simp) ?_
          simp only [Act.put, List.setIfInBounds_toArray, List.set_cons_zero, List.set_cons_succ]
          refine anyC_done (by kernel_rfl) (Later.mk' hd2) ?_
          go_wp2_with fail
          go_meet
          exact ⟨hd2, G, _, _, _, _, _, _, m, er, rfl, rfl, hg9, Y9, hT2, HM2⟩
      · refine wpOp_valD (some 9) (v := .pointer (some ⟨W1.heap.size, 0, none⟩)) (w' := W1.alloc (.cells #[.slice none 0 0, .slice none 0 0] 25)) (by rfl) rfl rfl ?_ ?_
        · go_simp
        simp only [Act.put, List.setIfInBounds_toArray, List.set_cons_zero, List.set_cons_succ]
        have hb := (Below.refl W1.heap.size W1).alloc (Nat.le_refl _) (.cells #[.slice none 0 0, .slice none 0 0] 25)
        have X9 := Box.new W1 [.slice none 0 0, .slice none 0 0] 25
        have hg9 := hd.size
        have HN := Lib.hid (HN.out.later hb)
        have hd := hd.trans (hb.mono hd.size)
        clear hb
        generalize W1.alloc (.cells #[.slice none 0 0, .slice none 0 0] 25) = W2 at hd X9 HN ⊢
        generalize W1.heap.size = G at X9 hg9 ⊢
        refine anyC_oneW (n := 8) (i := 7) (by kernel_rfl) (Later.mk' hd) ?_
        obtain ⟨cd, W3, hr, hV, hb⟩ := conv_bytes W2 tx (by unfold maxLen; omega)
        refine wpOp_valD (some 49) (v := .slice (some ⟨W2.heap.size, 0, none⟩) tx.length cd) (w' := W3) (by rfl) rfl rfl ?_ ?_
        · first | exact hr | go_simp
        simp only [Act.put, List.setIfInBounds_toArray, List.set_cons_zero, List.set_cons_succ]
        have HN := Lib.hid (HN.out.later hb)
        have X9 := X9.later hb
        have HD := Lib.hid (bytes_of hV)
        have hd := hd.trans (hb.mono hd.size)
        clear hb hV hr
        refine anyC_heads (by kernel_rfl) 6 W3 (Later.mk' hd) [8] _ _ (by kernel_rfl) ?_
        simp only [headOps, List.filterMap_cons, List.filterMap_nil, List.getElem?_toArray, List.getElem?_cons_succ, List.getElem?_cons_zero]
        repeat (first | go_big_quiet_skip | (show wpQuiet _ _ _ _ (_ :: _) _; go_big_quiet_skip) | (show wpQuiet _ _ _ _ (_ :: _) _; go_big_quiet_want; go_big_quiet_op; go_big_quiet_on))
        refine wpQuiet_nil ?_
        refine anyC_oneW (n := 6) (i := 9) (by kernel_rfl) (Later.mk' hd) ?_
        refine wpOp_callD (some 51) (by rfl) rfl rfl ?_ ((nSend_is b.net ⟨0, g + 1, tx⟩ HN HD).mono ?_)
        · go_simp
        rintro e W4 ⟨Vq, Va, m, er, rfl, hT2, hN2, hb⟩
        refine ⟨_, rfl, ?_⟩
        simp only [Act.put, List.setIfInBounds_toArray, List.set_cons_zero, List.set_cons_succ]
        obtain ⟨Aq2, nq2, cq2, Aa2, na2, ca2, rfl, rfl⟩ := hN2.out.form
        have X9 := X9.later hb
        have HM := Lib.hid (hN2.out.at hb.size)
        have hd := hd.trans (hb.mono hd.size)
        clear hb hN2
        refine anyC_heads (by kernel_rfl) 2 W4 (Later.mk' hd) [10, 11, 12] _ _ (by kernel_rfl) ?_
        simp only [headOps, List.filterMap_cons, List.filterMap_nil, List.getElem?_toArray, List.getElem?_cons_succ, List.getElem?_cons_zero]
        repeat (first | go_big_quiet_skip | (show wpQuiet _ _ _ _ (_ :: _) _; go_big_quiet_skip) | (show wpQuiet _ _ _ _ (_ :: _) _; go_big_quiet_want; go_big_quiet_op; go_big_quiet_on))
        refine wpQuiet_nil ?_
        have X9c0 : W4.cell? ⟨G, 0, none⟩ = some (.slice none 0 0) := X9.cell 0
        have X9f0 : W4.frozen? ⟨G, 0, none⟩ = false := X9.free 0
        have X9c1 : W4.cell? ⟨G, 1, none⟩ = some (.slice none 0 0) := X9.cell 1
        have X9f1 : W4.frozen? ⟨G, 1, none⟩ = false := X9.free 1
        have X9z : G < W4.heap.size := X9.lt
        refine anyC_storeN (w' := ((W4.setCell ⟨G, 0, none⟩ (.slice Aq2 nq2 cq2)).setCell ⟨G, 1, none⟩ (.slice Aa2 na2 ca2))) (n := 1) (i := 14) (by kernel_rfl) rfl rfl rfl (Later.mk' hd) ?_ ?_
        · go_simp
        have Y9 := ((X9.set 0 (.slice Aq2 nq2 cq2)).set 1 (.slice Aa2 na2 ca2))
        have hd2 := ((hd.setCell (p := ⟨G, 0, none⟩) (by simp <;> omega) (.slice Aq2 nq2 cq2)).setCell (p := ⟨G, 1, none⟩) (by simp <;> omega) (.slice Aa2 na2 ca2))
        have HM2 := net_setO (B1 := Aq2) (l1 := nq2) (d1 := cq2) (B2 := Aa2) (l2 := na2) (d2 := ca2) HM X9
        clear X9c0 X9c1 X9f0 X9f1 X9z
        generalize ((W4.setCell ⟨G, 0, none⟩ (.slice Aq2 nq2 cq2)).setCell ⟨G, 1, none⟩ (.slice Aa2 na2 ca2)) = W9 at Y9 hd2 HM2 ⊢
        simp only [List.set_cons_zero, List.set_cons_succ] at Y9
        refine anyC_valD (some 7) (n := 0) (i := 15) (v := .int .i64 er) (w' := W9) (by kernel_rfl) rfl rfl rfl (Later.mk' hd2) (by first | rfl | go_simp) ?_
        simp only [Act.put, List.setIfInBounds_toArray, List.set_cons_zero, List.set_cons_succ]
        refine anyC_done (by kernel_rfl) (Later.mk' hd2) ?_
        go_wp2_with fail
        go_meet
        exact ⟨hd2, G, _, _, _, _, _, _, m, er, rfl, rfl, hg9, Y9, hT2, HM2⟩
    · refine wpOp_valD (some 9) (v := .pointer (some ⟨W0.heap.size, 0, none⟩)) (w' := W0.alloc (.cells #[.slice none 0 0, .slice none 0 0] 25)) (by rfl) rfl rfl ?_ ?_
      · go_simp
      simp only [Act.put, List.setIfInBounds_toArray, List.set_cons_zero, List.set_cons_succ]
      have hb := (Below.refl W0.heap.size W0).alloc (Nat.le_refl _) (.cells #[.slice none 0 0, .slice none 0 0] 25)
      have X9 := Box.new W0 [.slice none 0 0, .slice none 0 0] 25
      have hg9 := hd.size
      have HN := Lib.hid (HN.out.later hb)
      have hd := hd.trans (hb.mono hd.size)
      clear hb
      generalize W0.alloc (.cells #[.slice none 0 0, .slice none 0 0] 25) = W1 at hd X9 HN ⊢
      generalize W0.heap.size = G at X9 hg9 ⊢
      refine anyC_oneW (n := 9) (i := 6) (by kernel_rfl) (Later.mk' hd) ?_
      refine wpOp_callD (some 48) (by rfl) rfl rfl ?_ ((oMessage_is hi1 hi2 htx W1).mono ?_)
      · go_simp
      rintro e W2 ⟨rfl, hb⟩
      refine ⟨_, rfl, ?_⟩
      simp only [Act.put, List.setIfInBounds_toArray, List.set_cons_zero, List.set_cons_succ]
      have HN := Lib.hid (HN.out.later hb)
      have X9 := X9.later hb
      have hd := hd.trans (hb.mono hd.size)
      clear hb
      refine anyC_oneW (n := 8) (i := 7) (by kernel_rfl) (Later.mk' hd) ?_
      obtain ⟨cd, W3, hr, hV, hb⟩ := conv_bytes W2 tx (by unfold maxLen; omega)
      refine wpOp_valD (some 49) (v := .slice (some ⟨W2.heap.size, 0, none⟩) tx.length cd) (w' := W3) (by rfl) rfl rfl ?_ ?_
      · first | exact hr | go_simp
      simp only [Act.put, List.setIfInBounds_toArray, List.set_cons_zero, List.set_cons_succ]
      have HN := Lib.hid (HN.out.later hb)
      have X9 := X9.later hb
      have HD := Lib.hid (bytes_of hV)
      have hd := hd.trans (hb.mono hd.size)
      clear hb hV hr
      refine anyC_heads (by kernel_rfl) 6 W3 (Later.mk' hd) [8] _ _ (by kernel_rfl) ?_
      simp only [headOps, List.filterMap_cons, List.filterMap_nil, List.getElem?_toArray, List.getElem?_cons_succ, List.getElem?_cons_zero]
      repeat (first | go_big_quiet_skip | (show wpQuiet _ _ _ _ (_ :: _) _; go_big_quiet_skip) | (show wpQuiet _ _ _ _ (_ :: _) _; go_big_quiet_want; go_big_quiet_op; go_big_quiet_on))
      refine wpQuiet_nil ?_
      refine anyC_oneW (n := 6) (i := 9) (by kernel_rfl) (Later.mk' hd) ?_
      refine wpOp_callD (some 51) (by rfl) rfl rfl ?_ ((nSend_is b.net ⟨0, g + 1, tx⟩ HN HD).mono ?_)
      · go_simp
      rintro e W4 ⟨Vq, Va, m, er, rfl, hT2, hN2, hb⟩
      refine ⟨_, rfl, ?_⟩
      simp only [Act.put, List.setIfInBounds_toArray, List.set_cons_zero, List.set_cons_succ]
      obtain ⟨Aq2, nq2, cq2, Aa2, na2, ca2, rfl, rfl⟩ := hN2.out.form
      have X9 := X9.later hb
      have HM := Lib.hid (hN2.out.at hb.size)
      have hd := hd.trans (hb.mono hd.size)
      clear hb hN2
      refine anyC_heads (by kernel_rfl) 2 W4 (Later.mk' hd) [10, 11, 12] _ _ (by kernel_rfl) ?_
      simp only [headOps, List.filterMap_cons, List.filterMap_nil, List.getElem?_toArray, List.getElem?_cons_succ, List.getElem?_cons_zero]
      repeat (first | go_big_quiet_skip | (show wpQuiet _ _ _ _ (_ :: _) _; go_big_quiet_skip) | (show wpQuiet _ _ _ _ (_ :: _) _; go_big_quiet_want; go_big_quiet_op; go_big_quiet_on))
      refine wpQuiet_nil ?_
      have X9c0 : W4.cell? ⟨G, 0, none⟩ = some (.slice none 0 0) := X9.cell 0
      have X9f0 : W4.frozen? ⟨G, 0, none⟩ = false := X9.free 0
      have X9c1 : W4.cell? ⟨G, 1, none⟩ = some (.slice none 0 0) := X9.cell 1
      have X9f1 : W4.frozen? ⟨G, 1, none⟩ = false := X9.free 1
      have X9z : G < W4.heap.size := X9.lt
      refine anyC_storeN (w' := ((W4.setCell ⟨G, 0, none⟩ (.slice Aq2 nq2 cq2)).setCell ⟨G, 1, none⟩ (.slice Aa2 na2 ca2))) (n := 1) (i := 14) (by kernel_rfl) rfl rfl rfl (Later.mk' hd) ?_ ?_
      · go_simp
      have Y9 := ((X9.set 0 (.slice Aq2 nq2 cq2)).set 1 (.slice Aa2 na2 ca2))
      have hd2 := ((hd.setCell (p := ⟨G, 0, none⟩) (by simp <;> omega) (.slice Aq2 nq2 cq2)).setCell (p := ⟨G, 1, none⟩) (by simp <;> omega) (.slice Aa2 na2 ca2))
      have HM2 := net_setO (B1 := Aq2) (l1 := nq2) (d1 := cq2) (B2 := Aa2) (l2 := na2) (d2 := ca2) HM X9
      clear X9c0 X9c1 X9f0 X9f1 X9z
      generalize ((W4.setCell ⟨G, 0, none⟩ (.slice Aq2 nq2 cq2)).setCell ⟨G, 1, none⟩ (.slice Aa2 na2 ca2)) = W9 at Y9 hd2 HM2 ⊢
      simp only [List.set_cons_zero, List.set_cons_succ] at Y9
      refine anyC_valD (some 7) (n := 0) (i := 15) (v := .int .i64 er) (w' := W9) (by kernel_rfl) rfl rfl rfl (Later.mk' hd2) (by first | rfl | go_simp) ?_
      simp only [Act.put, List.setIfInBounds_toArray, List.set_cons_zero, List.set_cons_succ]
      refine anyC_done (by kernel_rfl) (Later.mk' hd2) ?_
      go_wp2_with fail
      go_meet
      exact ⟨hd2, G, _, _, _, _, _, _, m, er, rfl, rfl, hg9, Y9, hT2, HM2⟩
  case rest =>
    obtain ⟨hb, G, Aq2, nq2, cq2, Aa2, na2, ca2, m, er, rfl, rfl, hG, X9, hT2, HM⟩ := hcut
    have z6 := X6.lt
    have hB := hB.trans (hb.mono hB.size)
    have X1 := X1.later hb
    have X6 := X6.later hb
    have hsn := send_net (m := m) (er := er) HOK.out HIN.out (by rw [hns.out]; exact h4) (by rw [hns.out, htx.out]; exact hT2.out)
    rw [hT.out] at hsn
    by_cases he : er = 0
    rotate_left
    · have d6 : (er != 0) = true := by simp [he]
      obtain rfl : T = (Bx.zero, er) := by rw [hsn, if_neg he]
      have X6c0 : wc.cell? ⟨w.heap.size + 1, 0, none⟩ = some (.slice none 0 0) := X6.cell 0
      have X6f0 : wc.frozen? ⟨w.heap.size + 1, 0, none⟩ = false := X6.free 0
      have X6c1 : wc.cell? ⟨w.heap.size + 1, 1, none⟩ = some (.slice none 0 0) := X6.cell 1
      have X6f1 : wc.frozen? ⟨w.heap.size + 1, 1, none⟩ = false := X6.free 1
      have X6c2 : wc.cell? ⟨w.heap.size + 1, 2, none⟩ = some (.slice none 0 0) := X6.cell 2
      have X6f2 : wc.frozen? ⟨w.heap.size + 1, 2, none⟩ = false := X6.free 2
      have X6c3 : wc.cell? ⟨w.heap.size + 1, 3, none⟩ = some (.slice none 0 0) := X6.cell 3
      have X6f3 : wc.frozen? ⟨w.heap.size + 1, 3, none⟩ = false := X6.free 3
      have X6c4 : wc.cell? ⟨w.heap.size + 1, 4, none⟩ = some (.slice none 0 0) := X6.cell 4
      have X6f4 : wc.frozen? ⟨w.heap.size + 1, 4, none⟩ = false := X6.free 4
      have X6z : w.heap.size + 1 < wc.heap.size := X6.lt
      have Y6 := (((((X6.set 0 (.slice none 0 0)).set 1 (.slice none 0 0)).set 2 (.slice none 0 0)).set 3 (.slice none 0 0)).set 4 (.slice none 0 0))
      have hB2 := (((((hB.setCell (p := ⟨w.heap.size + 1, 0, none⟩) (by simp <;> omega) (.slice none 0 0)).setCell (p := ⟨w.heap.size + 1, 1, none⟩) (by simp <;> omega) (.slice none 0 0)).setCell (p := ⟨w.heap.size + 1, 2, none⟩) (by simp <;> omega) (.slice none 0 0)).setCell (p := ⟨w.heap.size + 1, 3, none⟩) (by simp <;> omega) (.slice none 0 0)).setCell (p := ⟨w.heap.size + 1, 4, none⟩) (by simp <;> omega) (.slice none 0 0))
      go_wp2
      clear X6c0 X6c1 X6c2 X6c3 X6c4 X6f0 X6f1 X6f2 X6f3 X6f4 X6z
      generalize (((((wc.setCell ⟨w.heap.size + 1, 0, none⟩ (.slice none 0 0)).setCell ⟨w.heap.size + 1, 1, none⟩ (.slice none 0 0)).setCell ⟨w.heap.size + 1, 2, none⟩ (.slice none 0 0)).setCell ⟨w.heap.size + 1, 3, none⟩ (.slice none 0 0)).setCell ⟨w.heap.size + 1, 4, none⟩ (.slice none 0 0)) = W8 at Y6 hB2 ⊢
      simp only [List.set_cons_zero, List.set_cons_succ] at Y6
      have Y6c0 : W8.cell? ⟨w.heap.size + 1, 0, none⟩ = some (.slice none 0 0) := Y6.cell 0
      have Y6c1 : W8.cell? ⟨w.heap.size + 1, 1, none⟩ = some (.slice none 0 0) := Y6.cell 1
      have Y6c2 : W8.cell? ⟨w.heap.size + 1, 2, none⟩ = some (.slice none 0 0) := Y6.cell 2
      have Y6c3 : W8.cell? ⟨w.heap.size + 1, 3, none⟩ = some (.slice none 0 0) := Y6.cell 3
      have Y6c4 : W8.cell? ⟨w.heap.size + 1, 4, none⟩ = some (.slice none 0 0) := Y6.cell 4
      refine bodyPost_ret (v := .tuple #[.agg #[.slice none 0 0, .slice none 0 0, .slice none 0 0, .slice none 0 0, .slice none 0 0], .int .i64 er]) (by simp [results, Try.results12, go_sem, Y6c0, Y6c1, Y6c2, Y6c3, Y6c4]) rfl ?_
      exact ⟨_, _, _, _, _, rfl, bxAt_zero _ _, hB2⟩
    subst he
    obtain rfl : T = (⟨m, b.sent ++ [(g, o)], b.heard, b.fresh⟩, 0) := by rw [hsn, if_pos rfl]
    clear hsn
    have hzb := hb.size
    have hmk := oMakeM (ns + 1) (by omega) wc
    rw [show ((ns + 1 : Nat) : Int) = (ns : Int) + 1 by omega] at hmk
    have hw3 := HW3.out
    have hw4 := HW4.out
    have hal := (Below.refl wc.heap.size wc).alloc (Nat.le_refl _) (.cells (List.replicate ((ns + 1) * 2) (Value.int .i64 0)).toArray 48)
    have XM := Box.new wc (List.replicate ((ns + 1) * 2) (Value.int .i64 0)) 48
    have X1 := X1.later hal
    have X6 := X6.later hal
    have zG := X9.lt
    have X9 := X9.later hal
    have hB := hB.trans (hal.mono hB.size)
    have HM2 := HM.out.below hal
    have HS := Lib.hid (hx.out.sent.later hB)
    have hza := hal.size
    clear hal
    generalize wc.alloc (.cells (List.replicate ((ns + 1) * 2) (Value.int .i64 0)).toArray 48) = W2 at hmk XM X1 X6 X9 hB HM2 HS hza
    go_upto_region 13 with fail
    clear hmk
    generalize wc.heap.size = gM at XM HM2 zG hzb hza ⊢
    obtain ⟨W3, hcp, XM, hb3⟩ := copy_lks 3 hns.out HS.out XM
    have x12 : W2.cell? ⟨w.heap.size, 2, none⟩ = some (.slice As ns cs) := X1.cell 2
    go_upto_region 14 with fail
    clear hcp x12
    obtain ⟨r0, r1⟩ := lkL_room hns.out (.int .i64 0) (.int .i64 0)
    have k0 : W3.cell? ⟨gM, ns * 2, none⟩ = some (.int .i64 0) := (XM.cell _).trans r0
    have k1 : W3.cell? ⟨gM, ns * 2 + 1, none⟩ = some (.int .i64 0) := (XM.cell _).trans r1
    have f0 := XM.free (ns * 2)
    have f1 := XM.free (ns * 2 + 1)
    have zM := XM.lt
    have hidx : (ns : Int) < (ns : Int) + 1 := by omega
    have hidx2 : (ns : Int) < ((ns + 1 : Nat) : Int) := by omega
    go_upto_region 15 with fail
    clear k0 k1 f0 f1 hidx hidx2 r0 r1
    have XM := (XM.set (ns * 2) (.int .i64 g)).set (ns * 2 + 1) (.int .i64 o)
    rw [lkL_last hns.out] at XM
    have X1 := ((X1.under hb3 (by omega)).other (a := ⟨gM, ns * 2, none⟩) (by simp <;> omega) (.int .i64 g)).other (a := ⟨gM, ns * 2 + 1, none⟩) (by simp <;> omega) (.int .i64 o)
    have X6 := ((X6.under hb3 (by omega)).other (a := ⟨gM, ns * 2, none⟩) (by simp <;> omega) (.int .i64 g)).other (a := ⟨gM, ns * 2 + 1, none⟩) (by simp <;> omega) (.int .i64 o)
    have X9 := ((X9.under hb3 zG).other (a := ⟨gM, ns * 2, none⟩) (by simp <;> omega) (.int .i64 g)).other (a := ⟨gM, ns * 2 + 1, none⟩) (by simp <;> omega) (.int .i64 o)
    have HM3 := ((HM2.below hb3).below ((Below.refl gM W3).setCell (p := ⟨gM, ns * 2, none⟩) (Nat.le_refl _) (.int .i64 g))).below ((Below.refl gM _).setCell (p := ⟨gM, ns * 2 + 1, none⟩) (Nat.le_refl _) (.int .i64 o))
    have hB := ((hB.trans (hb3.mono (by omega))).setCell (p := ⟨gM, ns * 2, none⟩) (by simp <;> omega) (.int .i64 g)).setCell (p := ⟨gM, ns * 2 + 1, none⟩) (by simp <;> omega) (.int .i64 o)
    have hsz3 : gM ≤ ((W3.setCell ⟨gM, ns * 2, none⟩ (.int .i64 g)).setCell ⟨gM, ns * 2 + 1, none⟩ (.int .i64 o)).heap.size := by simp; omega
    generalize (W3.setCell ⟨gM, ns * 2, none⟩ (.int .i64 g)).setCell ⟨gM, ns * 2 + 1, none⟩ (.int .i64 o) = W4 at XM X1 X6 X9 HM3 hB hsz3 ⊢
    have X1c0 : W4.cell? ⟨w.heap.size, 0, none⟩ = some (.slice Aq nq cq) := X1.cell 0
    have X1f0 : W4.frozen? ⟨w.heap.size, 0, none⟩ = false := X1.free 0
    have X1c1 : W4.cell? ⟨w.heap.size, 1, none⟩ = some (.slice Aa na ca) := X1.cell 1
    have X1f1 : W4.frozen? ⟨w.heap.size, 1, none⟩ = false := X1.free 1
    have X1c2 : W4.cell? ⟨w.heap.size, 2, none⟩ = some (.slice As ns cs) := X1.cell 2
    have X1f2 : W4.frozen? ⟨w.heap.size, 2, none⟩ = false := X1.free 2
    have X1c3 : W4.cell? ⟨w.heap.size, 3, none⟩ = some (.slice Ah n ch) := X1.cell 3
    have X1f3 : W4.frozen? ⟨w.heap.size, 3, none⟩ = false := X1.free 3
    have X1c4 : W4.cell? ⟨w.heap.size, 4, none⟩ = some (.slice Af nf cf) := X1.cell 4
    have X1f4 : W4.frozen? ⟨w.heap.size, 4, none⟩ = false := X1.free 4
    have X1z : w.heap.size < W4.heap.size := X1.lt
    have X9c0 : W4.cell? ⟨G, 0, none⟩ = some (.slice Aq2 nq2 cq2) := X9.cell 0
    have X9c1 : W4.cell? ⟨G, 1, none⟩ = some (.slice Aa2 na2 ca2) := X9.cell 1
    have z9 := X9.lt
    go_upto_region 16 with fail
    clear X1c0 X1c1 X1c2 X1c3 X1c4 X1f0 X1f1 X1f2 X1f3 X1f4 X1z X9c0 X9c1 z9
    obtain ⟨HM4, S1⟩ := HM3.set2 (SlBox.of X1 (by simp)) Aq2 Aa2 nq2 cq2 na2 ca2
    have HM4 := HM4.setS S1 2 (.slice (some ⟨gM, 0, none⟩) (ns + 1) (ns + 1))
    have XM := ((XM.other (a := ⟨w.heap.size, 0, none⟩) (by simp <;> omega) (.slice Aq2 nq2 cq2)).other (a := ⟨w.heap.size, 1, none⟩) (by simp <;> omega) (.slice Aa2 na2 ca2)).other (a := ⟨w.heap.size, 2, none⟩) (by simp <;> omega) (.slice (some ⟨gM, 0, none⟩) (ns + 1) (ns + 1))
    have X1 := ((X1.set 0 (.slice Aq2 nq2 cq2)).set 1 (.slice Aa2 na2 ca2)).set 2 (.slice (some ⟨gM, 0, none⟩) (ns + 1) (ns + 1))
    have X6 := ((X6.other (a := ⟨w.heap.size, 0, none⟩) (by simp <;> omega) (.slice Aq2 nq2 cq2)).other (a := ⟨w.heap.size, 1, none⟩) (by simp <;> omega) (.slice Aa2 na2 ca2)).other (a := ⟨w.heap.size, 2, none⟩) (by simp <;> omega) (.slice (some ⟨gM, 0, none⟩) (ns + 1) (ns + 1))
    have hB := ((hB.setCell (p := ⟨w.heap.size, 0, none⟩) (by simp) (.slice Aq2 nq2 cq2)).setCell (p := ⟨w.heap.size, 1, none⟩) (by simp) (.slice Aa2 na2 ca2)).setCell (p := ⟨w.heap.size, 2, none⟩) (by simp) (.slice (some ⟨gM, 0, none⟩) (ns + 1) (ns + 1))
    have hsz4 : gM ≤ (((W4.setCell ⟨w.heap.size, 0, none⟩ (.slice Aq2 nq2 cq2)).setCell ⟨w.heap.size, 1, none⟩ (.slice Aa2 na2 ca2)).setCell ⟨w.heap.size, 2, none⟩ (.slice (some ⟨gM, 0, none⟩) (ns + 1) (ns + 1))).heap.size := by simp; omega
    generalize ((W4.setCell ⟨w.heap.size, 0, none⟩ (.slice Aq2 nq2 cq2)).setCell ⟨w.heap.size, 1, none⟩ (.slice Aa2 na2 ca2)).setCell ⟨w.heap.size, 2, none⟩ (.slice (some ⟨gM, 0, none⟩) (ns + 1) (ns + 1)) = W5 at XM X1 X6 HM4 hB hsz4 ⊢
    simp only [List.set_cons_zero, List.set_cons_succ] at X1
    clear S1 X9 HM3 HM2
    have X1c0 : W5.cell? ⟨w.heap.size, 0, none⟩ = some (.slice Aq2 nq2 cq2) := X1.cell 0
    have X1c1 : W5.cell? ⟨w.heap.size, 1, none⟩ = some (.slice Aa2 na2 ca2) := X1.cell 1
    have X1c2 : W5.cell? ⟨w.heap.size, 2, none⟩ = some (.slice (some ⟨gM, 0, none⟩) (ns + 1) (ns + 1)) := X1.cell 2
    have X1c3 : W5.cell? ⟨w.heap.size, 3, none⟩ = some (.slice Ah n ch) := X1.cell 3
    have X1c4 : W5.cell? ⟨w.heap.size, 4, none⟩ = some (.slice Af nf cf) := X1.cell 4
    have z1 := X1.lt
    have X6c0 : W5.cell? ⟨w.heap.size + 1, 0, none⟩ = some (.slice none 0 0) := X6.cell 0
    have X6f0 : W5.frozen? ⟨w.heap.size + 1, 0, none⟩ = false := X6.free 0
    have X6c1 : W5.cell? ⟨w.heap.size + 1, 1, none⟩ = some (.slice none 0 0) := X6.cell 1
    have X6f1 : W5.frozen? ⟨w.heap.size + 1, 1, none⟩ = false := X6.free 1
    have X6c2 : W5.cell? ⟨w.heap.size + 1, 2, none⟩ = some (.slice none 0 0) := X6.cell 2
    have X6f2 : W5.frozen? ⟨w.heap.size + 1, 2, none⟩ = false := X6.free 2
    have X6c3 : W5.cell? ⟨w.heap.size + 1, 3, none⟩ = some (.slice none 0 0) := X6.cell 3
    have X6f3 : W5.frozen? ⟨w.heap.size + 1, 3, none⟩ = false := X6.free 3
    have X6c4 : W5.cell? ⟨w.heap.size + 1, 4, none⟩ = some (.slice none 0 0) := X6.cell 4
    have X6f4 : W5.frozen? ⟨w.heap.size + 1, 4, none⟩ = false := X6.free 4
    have X6z : w.heap.size + 1 < W5.heap.size := X6.lt
    go_wp2
    have HM5 := HM4.set5 (SlBox.of X6 (by simp)) Aq2 Aa2 (some ⟨gM, 0, none⟩) Ah Af nq2 cq2 na2 ca2 (ns + 1) (ns + 1) n ch nf cf
    have XM := (((((XM.other (a := ⟨w.heap.size + 1, 0, none⟩) (by simp <;> omega) (.slice Aq2 nq2 cq2)).other (a := ⟨w.heap.size + 1, 1, none⟩) (by simp <;> omega) (.slice Aa2 na2 ca2)).other (a := ⟨w.heap.size + 1, 2, none⟩) (by simp <;> omega) (.slice (some ⟨gM, 0, none⟩) (ns + 1) (ns + 1))).other (a := ⟨w.heap.size + 1, 3, none⟩) (by simp <;> omega) (.slice Ah n ch)).other (a := ⟨w.heap.size + 1, 4, none⟩) (by simp <;> omega) (.slice Af nf cf))
    have Y6 := (((((X6.set 0 (.slice Aq2 nq2 cq2)).set 1 (.slice Aa2 na2 ca2)).set 2 (.slice (some ⟨gM, 0, none⟩) (ns + 1) (ns + 1))).set 3 (.slice Ah n ch)).set 4 (.slice Af nf cf))
    have hB := (((((hB.setCell (p := ⟨w.heap.size + 1, 0, none⟩) (by simp <;> omega) (.slice Aq2 nq2 cq2)).setCell (p := ⟨w.heap.size + 1, 1, none⟩) (by simp <;> omega) (.slice Aa2 na2 ca2)).setCell (p := ⟨w.heap.size + 1, 2, none⟩) (by simp <;> omega) (.slice (some ⟨gM, 0, none⟩) (ns + 1) (ns + 1))).setCell (p := ⟨w.heap.size + 1, 3, none⟩) (by simp <;> omega) (.slice Ah n ch)).setCell (p := ⟨w.heap.size + 1, 4, none⟩) (by simp <;> omega) (.slice Af nf cf))
    have hsz5 : gM ≤ (((((W5.setCell ⟨w.heap.size + 1, 0, none⟩ (.slice Aq2 nq2 cq2)).setCell ⟨w.heap.size + 1, 1, none⟩ (.slice Aa2 na2 ca2)).setCell ⟨w.heap.size + 1, 2, none⟩ (.slice (some ⟨gM, 0, none⟩) (ns + 1) (ns + 1))).setCell ⟨w.heap.size + 1, 3, none⟩ (.slice Ah n ch)).setCell ⟨w.heap.size + 1, 4, none⟩ (.slice Af nf cf)).heap.size := by simp; omega
    clear X1c0 X1c1 X1c2 X1c3 X1c4 X6c0 X6c1 X6c2 X6c3 X6c4 X6f0 X6f1 X6f2 X6f3 X6f4 X6z
    generalize (((((W5.setCell ⟨w.heap.size + 1, 0, none⟩ (.slice Aq2 nq2 cq2)).setCell ⟨w.heap.size + 1, 1, none⟩ (.slice Aa2 na2 ca2)).setCell ⟨w.heap.size + 1, 2, none⟩ (.slice (some ⟨gM, 0, none⟩) (ns + 1) (ns + 1))).setCell ⟨w.heap.size + 1, 3, none⟩ (.slice Ah n ch)).setCell ⟨w.heap.size + 1, 4, none⟩ (.slice Af nf cf)) = W6 at XM Y6 HM5 hB hsz5 ⊢
    simp only [List.set_cons_zero, List.set_cons_succ] at Y6
    have Y6c0 : W6.cell? ⟨w.heap.size + 1, 0, none⟩ = some (.slice Aq2 nq2 cq2) := Y6.cell 0
    have Y6c1 : W6.cell? ⟨w.heap.size + 1, 1, none⟩ = some (.slice Aa2 na2 ca2) := Y6.cell 1
    have Y6c2 : W6.cell? ⟨w.heap.size + 1, 2, none⟩ = some (.slice (some ⟨gM, 0, none⟩) (ns + 1) (ns + 1)) := Y6.cell 2
    have Y6c3 : W6.cell? ⟨w.heap.size + 1, 3, none⟩ = some (.slice Ah n ch) := Y6.cell 3
    have Y6c4 : W6.cell? ⟨w.heap.size + 1, 4, none⟩ = some (.slice Af nf cf) := Y6.cell 4
    have hX := hx.out.later hB
    have hS := lks_box XM (by rw [List.length_append, hns.out]; simp [maxLen]; omega)
    rw [List.length_append, hns.out] at hS
    refine bodyPost_ret (v := .tuple #[.agg #[.slice Aq2 nq2 cq2, .slice Aa2 na2 ca2, .slice (some ⟨gM, 0, none⟩) (ns + 1) (ns + 1), .slice Ah n ch, .slice Af nf cf], .int .i64 0]) (by simp [results, Try.results12, go_sem, Y6c0, Y6c1, Y6c2, Y6c3, Y6c4]) rfl ?_
    exact ⟨_, _, _, _, _, rfl, ⟨HM5.more hsz5, hS, hX.heard, hX.fresh⟩, hB⟩
end Go.Proofs.Ytmbifmmkccghfaa

/-
  Lose and Repeat of the reference. (Printed by gen_rp.py and pp.py.) No condition.
-/
namespace Go.Proofs.Ytmbifmmkccghfaa
open Go.RowKit Go.Shelf
attribute [local go_sem] Oper.semAt_some

end Go.Proofs.Ytmbifmmkccghfaa

/-
  Lose and Repeat of orders. (Printed by gen_rq.py and pp.py.) No condition.
-/
namespace Go.Proofs.Ytmbifmmkccghfaa
open Go.RowKit Go.Shelf
attribute [local go_sem] Oper.semAt_some

theorem Sl.setSB {w : World} {B size n : Nat} {g : Nat → Nat → Value} {v : Value} (h : Sl w B size n g v) (hs : 0 < size) (hi : ∀ i, i < n → ∃ z, g i 0 = .bool z) {x : Nat} (hx : SlBox w x) (j : Nat) (u : Value) : Sl (w.setCell ⟨x, j, none⟩ u) B size n g v := by
  obtain ⟨A, c, hv, hm, h1⟩ := h
  obtain ⟨xs, hx, hxs⟩ := hx
  refine ⟨A, c, hv, hm, fun i hin => ?_⟩
  obtain ⟨b, off, ha, hb, h3⟩ := h1 i hin
  have hne : b ≠ x := by
    rintro rfl
    have h4 := h3 0 hs
    rw [hx.cell] at h4
    obtain ⟨z, e⟩ := hi i hin
    rw [e] at h4
    obtain ⟨A', k', c', e'⟩ := hxs _ (List.mem_of_getElem? h4)
    cases e'
  exact ⟨b, off, ha, hb, fun q hq => by rw [World.cell?_of_block (w := w) (Below.heap_setCell w ⟨x, j, none⟩ u b hne)]; exact h3 q hq⟩
theorem BxAt.setS {w : World} {B : Nat} {Vq Va Vs Vh Vf : Value} {b : Bx} (h : BxAt w B Vq Va Vs Vh Vf b) {x : Nat} (hx : SlBox w x) (j : Nat) (u : Value) : BxAt (w.setCell ⟨x, j, none⟩ u) B Vq Va Vs Vh Vf b :=
  ⟨h.net.setS hx j u, ⟨h.sent.1, Sl.setS h.sent.2 (by decide) (fun i _ => ⟨_, _, rfl⟩) hx j u⟩, ⟨h.heard.1, Sl.setS h.heard.2 (by decide) (fun i _ => ⟨_, _, rfl⟩) hx j u⟩, ⟨h.fresh.1, Sl.setSB h.fresh.2 (by decide) (fun i _ => ⟨_, rfl⟩) hx j u⟩⟩
theorem BxAt.set5 {w : World} {B : Nat} {Vq Va Vs Vh Vf : Value} {b : Bx} (h : BxAt w B Vq Va Vs Vh Vf b) {x : Nat} (hx : SlBox w x) (A0 A1 A2 A3 A4 : Option Addr) (n0 c0 n1 c1 n2 c2 n3 c3 n4 c4 : Nat) :
    BxAt (((((w.setCell ⟨x, 0, none⟩ (.slice A0 n0 c0)).setCell ⟨x, 1, none⟩ (.slice A1 n1 c1)).setCell ⟨x, 2, none⟩ (.slice A2 n2 c2)).setCell ⟨x, 3, none⟩ (.slice A3 n3 c3)).setCell ⟨x, 4, none⟩ (.slice A4 n4 c4)) B Vq Va Vs Vh Vf b := by
  have x1 := hx.set 0 A0 n0 c0
  have x2 := x1.set 1 A1 n1 c1
  have x3 := x2.set 2 A2 n2 c2
  exact ((((h.setS hx 0 _).setS x1 1 _).setS x2 2 _).setS x3 3 _).setS (x3.set 3 _ _ _) 4 _
theorem BxAt.forms5 {w : World} {B : Nat} {Vq Va Vs Vh Vf : Value} {b : Bx} (h : BxAt w B Vq Va Vs Vh Vf b) : ∃ Aq nq cq Aa na ca As ns cs Ah n ch Af nf cf, Vq = .slice Aq nq cq ∧ Va = .slice Aa na ca ∧ Vs = .slice As ns cs ∧ Vh = .slice Ah n ch ∧ Vf = .slice Af nf cf := by
  obtain ⟨Aq, cq, Aa, ca, As, cs, Ah, ch, Af, cf, h1, h2, h3, h4, h5, _⟩ := h.forms
  exact ⟨_, _, _, _, _, _, _, _, _, _, _, _, _, _, _, h1, h2, h3, h4, h5⟩
end Go.Proofs.Ytmbifmmkccghfaa

/-
  hear. (Printed by gen_ro.py and pp.py.) No condition.
-/
namespace Go.Proofs.Ytmbifmmkccghfaa
open Go.RowKit Go.Shelf
attribute [local go_sem] Oper.semAt_some
attribute [local go_sem ↓ high] app_named cop_named

theorem copy_row1 {α : Type} (enc : α → Value) (h1 : ∀ x, (enc x).oneCell' = true) {t e : TypeId} (ht : Try.prog.underlying t = some (.slice e)) (hs : (Try.prog.info? e).map (·.size) = some 1) (ty : TypeId) {w : World} {g n c : Nat} {A : Option Addr} {l : List α} {d : α} {xs : List Value} (hl : l.length = n)
    (hx : Sl w w.heap.size 1 n (fun i _ => enc (l.getD i d)) (.slice A n c)) (X : Box w g xs) (hxs : xs.length = n) :
    ∃ w', (copF #[t, t] ty #[.slice (some ⟨g, 0, none⟩) n n, .slice A n c]).run Try.prog w = .ok (.int .i64 (n : Int)) w' ∧ Box w' g (l.map enc) ∧ (∀ b ys, b ≠ g → Box w b ys → Box w' b ys) ∧ Below g w w' := by
  have hmin : Nat.min n n = n := Nat.min_self n
  unfold copF
  rcases Nat.eq_zero_or_pos n with h0 | h0
  · subst h0
    obtain rfl : l = [] := List.eq_nil_of_length_eq_zero hl
    obtain rfl : xs = [] := List.eq_nil_of_length_eq_zero hxs
    exact ⟨w, run_copy_noneS w _ _ ty e _ _ _ _ _ _ ht (by rw [hs]; rfl) hmin, X, fun _ _ _ h => h, Below.refl _ _⟩
  · obtain ⟨ab, ao, rfl, _, _⟩ := hx.one h0
    obtain ⟨tt, ht2⟩ := X
    have hr := run_copy_rowS w t t ty e g n n ⟨ab, ao, none⟩ n c 1 _ tt (l.map enc) hmin ht hs ht2 (by simp [hl]) (fun j v hv => by
      have hj : j < l.length := by have := (List.getElem?_eq_some_iff.1 hv).1; simpa using this
      obtain ⟨b', o', e', _, hc⟩ := hx.one (k := j) (by omega)
      cases e'
      rw [add_at, hc]
      rw [List.getElem?_map, List.getElem?_eq_getElem hj] at hv
      rw [gd_at hj]
      exact hv) (by simp [hl, hxs]) (fun v hv => by
      obtain ⟨x, _, rfl⟩ := List.mem_map.1 hv
      exact h1 x)
    refine ⟨_, hr, ⟨tt, ?_⟩, fun b ys hb ⟨t2, h2⟩ => ⟨t2, (setRow_other w g b _ hb).trans h2⟩, ⟨rfl, rfl, rfl, by simp [World.setRow], fun b hb => setRow_other w g b _ (by omega)⟩⟩
    rw [World.setRow, Array.getElem?_modify, if_pos rfl, ht2]
    simp [hl, hxs]
def RetHear (t : Bx) (w : World) (e : Ending) (w' : World) : Prop := ∃ Aq nq cq Aa na ca As ns cs Ah n ch Af nf cf, e = .returned (.agg #[.slice Aq nq cq, .slice Aa na ca, .slice As ns cs, .slice Ah n ch, .slice Af nf cf]) ∧ BxAt w' w'.heap.size (.slice Aq nq cq) (.slice Aa na ca) (.slice As ns cs) (.slice Ah n ch) (.slice Af nf cf) t ∧ Below w.heap.size w w'
set_option maxRecDepth 100000 in
set_option maxHeartbeats 4000000 in
theorem oHear_any (b : Bx) (g : Nat) (v : Int) (Aq Aa As Ah Af : Option Addr) (nq cq na ca ns cs n ch cf : Nat) (w : World) (hx : Hid (BxAt w w.heap.size (.slice Aq nq cq) (.slice Aa na ca) (.slice As ns cs) (.slice Ah n ch) (.slice Af n cf) b)) (hn : Hid (b.heard.length = n)) (hnf : Hid (b.fresh.length = n)) (hn8 : n ≤ 8) (hg : g < n) (hv : -1 ≤ v ∧ v ≤ 4096)
    {T : Bx} (hT : Hid (⟨b.net, b.sent, b.heard.set g (v + 1), b.fresh.set g true⟩ = T)) :
    Calls Try.prog 48 #[.agg #[.slice Aq nq cq, .slice Aa na ca, .slice As ns cs, .slice Ah n ch, .slice Af n cf], .int .i64 (g : Int), .int .i64 v] w (RetHear T w) := by
  go_enter Try.func48, Try.ntmps48
  have hB := ((Below.refl w.heap.size w).alloc (Nat.le_refl _) (.cells #[.slice Aq nq cq, .slice Aa na ca, .slice As ns cs, .slice Ah n ch, .slice Af n cf] 30)).alloc (by simp) (.cells #[.slice none 0 0, .slice none 0 0, .slice none 0 0, .slice none 0 0, .slice none 0 0] 30)
  have X1 := (Box.new w [.slice Aq nq cq, .slice Aa na ca, .slice As ns cs, .slice Ah n ch, .slice Af n cf] 30).alloc (.cells #[.slice none 0 0, .slice none 0 0, .slice none 0 0, .slice none 0 0, .slice none 0 0] 30)
  have X6 := Box.newAt (w := w.alloc (.cells #[.slice Aq nq cq, .slice Aa na ca, .slice As ns cs, .slice Ah n ch, .slice Af n cf] 30)) (n := w.heap.size + 1) [.slice none 0 0, .slice none 0 0, .slice none 0 0, .slice none 0 0, .slice none 0 0] 30 (by simp)
  go_upto_region 1 with fail
  generalize (w.alloc (.cells #[.slice Aq nq cq, .slice Aa na ca, .slice As ns cs, .slice Ah n ch, .slice Af n cf] 30)).alloc (.cells #[.slice none 0 0, .slice none 0 0, .slice none 0 0, .slice none 0 0, .slice none 0 0] 30) = W at hB X1 X6 ⊢
  have z1 := X1.lt
  have z6 := X6.lt
  go_cut [7, 8] (fun s7 s8 wx => Below W.heap.size W wx ∧ ∃ gH gF, s7 = .slice (some ⟨gH, 0, none⟩) n n ∧ s8 = .slice (some ⟨gF, 0, none⟩) n n ∧ W.heap.size ≤ gH ∧ W.heap.size ≤ gF ∧ gH ≠ gF ∧ Box wx gH (List.replicate n (Value.int .i64 0)) ∧ Box wx gF (List.replicate n (Value.bool false)))
  case first =>
    have hd := (Below.refl W.heap.size W).drew
    have u3 : ∀ z : Later W, z.w.cell? ⟨w.heap.size, 3, none⟩ = some (.slice Ah n ch) := Later.cell (X1.cell 3) z1
    have u4 : ∀ z : Later W, z.w.cell? ⟨w.heap.size, 4, none⟩ = some (.slice Af n cf) := Later.cell (X1.cell 4) z1
    refine wp_region_headsM (C := fun w' => ∃ x : Later W, w' = x.w) [0, 1, 2, 4, 5, 6] (by kernel_rfl) (by kernel_rfl) (Later.mk' hd) (fun _ _ h => h) ?_
    simp only [headOps, List.filterMap_cons, List.filterMap_nil, List.getElem?_toArray, List.getElem?_cons_succ, List.getElem?_cons_zero]
    repeat (first | go_big_quiet_skip | (show wpQuiet _ _ _ _ (_ :: _) _; go_big_quiet_skip) | (show wpQuiet _ _ _ _ (_ :: _) _; go_big_quiet_want; go_big_quiet_op; go_big_quiet_on))
    refine wpQuiet_nil ?_
    clear u3 u4
    generalize W.drew = W0 at hd ⊢
    refine anyC_twoW (n := 4) (i := 3) (j := 7) (by kernel_rfl) (Later.mk' hd) ?_ ?_
    · have hmk := oMakeI n (by omega) W0
      refine wpOp_valD (some 12) (v := .slice (some ⟨W0.heap.size, 0, none⟩) n n) (w' := W0.alloc (.cells (List.replicate n (Value.int .i64 0)).toArray 3)) (by rfl) rfl rfl ?_ ?_
      · go_simp
      simp only [Act.put, List.setIfInBounds_toArray, List.set_cons_zero, List.set_cons_succ]
      clear hmk
      have hb := (Below.refl W0.heap.size W0).alloc (Nat.le_refl _) (.cells (List.replicate n (Value.int .i64 0)).toArray 3)
      have XH := Box.new W0 (List.replicate n (Value.int .i64 0)) 3
      have hgH := hd.size
      have hd := hd.trans (hb.mono hd.size)
      clear hb
      generalize W0.alloc (.cells (List.replicate n (Value.int .i64 0)).toArray 3) = W1 at hd XH ⊢
      generalize W0.heap.size = gH at XH hgH  ⊢
      refine anyC_heads (by kernel_rfl) 2 W1 (Later.mk' hd) [8] _ _ (by kernel_rfl) ?_
      simp only [headOps, List.filterMap_cons, List.filterMap_nil, List.getElem?_toArray, List.getElem?_cons_succ, List.getElem?_cons_zero]
      repeat (first | go_big_quiet_skip | (show wpQuiet _ _ _ _ (_ :: _) _; go_big_quiet_skip) | (show wpQuiet _ _ _ _ (_ :: _) _; go_big_quiet_want; go_big_quiet_op; go_big_quiet_on))
      refine wpQuiet_nil ?_
      refine anyC_oneW (n := 2) (i := 7) (by kernel_rfl) (Later.mk' hd) ?_
      have hmk := oMakeB n (by omega) W1
      refine wpOp_valD (some 16) (v := .slice (some ⟨W1.heap.size, 0, none⟩) n n) (w' := W1.alloc (.cells (List.replicate n (Value.bool false)).toArray 4)) (by rfl) rfl rfl ?_ ?_
      · go_simp
      simp only [Act.put, List.setIfInBounds_toArray, List.set_cons_zero, List.set_cons_succ]
      clear hmk
      have hb := (Below.refl W1.heap.size W1).alloc (Nat.le_refl _) (.cells (List.replicate n (Value.bool false)).toArray 4)
      have XF := Box.new W1 (List.replicate n (Value.bool false)) 4
      have hgF := hd.size
      have hd := hd.trans (hb.mono hd.size)
      have hne := XH.lt
      have XH := XH.later hb
      clear hb
      generalize W1.alloc (.cells (List.replicate n (Value.bool false)).toArray 4) = W2 at hd XH XF ⊢
      generalize W1.heap.size = gF at XF hgF hne ⊢
      refine anyC_valD (some 8) (n := 0) (i := 9) (v := .slice (some ⟨gF, 0, none⟩) n n) (w' := W2) (by kernel_rfl) rfl rfl rfl (Later.mk' hd) (by first | rfl | go_simp) ?_
      simp only [Act.put, List.setIfInBounds_toArray, List.set_cons_zero, List.set_cons_succ]
      refine anyC_done (by kernel_rfl) (Later.mk' hd) ?_
      go_wp2_with fail
      go_meet
      exact ⟨hd, gH, gF, rfl, rfl, hgH, hgF, by omega, XH, XF⟩
    · have hmk := oMakeB n (by omega) W0
      refine wpOp_valD (some 16) (v := .slice (some ⟨W0.heap.size, 0, none⟩) n n) (w' := W0.alloc (.cells (List.replicate n (Value.bool false)).toArray 4)) (by rfl) rfl rfl ?_ ?_
      · go_simp
      simp only [Act.put, List.setIfInBounds_toArray, List.set_cons_zero, List.set_cons_succ]
      clear hmk
      have hb := (Below.refl W0.heap.size W0).alloc (Nat.le_refl _) (.cells (List.replicate n (Value.bool false)).toArray 4)
      have XF := Box.new W0 (List.replicate n (Value.bool false)) 4
      have hgF := hd.size
      have hd := hd.trans (hb.mono hd.size)
      clear hb
      generalize W0.alloc (.cells (List.replicate n (Value.bool false)).toArray 4) = W1 at hd XF ⊢
      generalize W0.heap.size = gF at XF hgF  ⊢
      refine anyC_oneW (n := 3) (i := 3) (by kernel_rfl) (Later.mk' hd) ?_
      have hmk := oMakeI n (by omega) W1
      refine wpOp_valD (some 12) (v := .slice (some ⟨W1.heap.size, 0, none⟩) n n) (w' := W1.alloc (.cells (List.replicate n (Value.int .i64 0)).toArray 3)) (by rfl) rfl rfl ?_ ?_
      · go_simp
      simp only [Act.put, List.setIfInBounds_toArray, List.set_cons_zero, List.set_cons_succ]
      clear hmk
      have hb := (Below.refl W1.heap.size W1).alloc (Nat.le_refl _) (.cells (List.replicate n (Value.int .i64 0)).toArray 3)
      have XH := Box.new W1 (List.replicate n (Value.int .i64 0)) 3
      have hgH := hd.size
      have hd := hd.trans (hb.mono hd.size)
      have hne := XF.lt
      have XF := XF.later hb
      clear hb
      generalize W1.alloc (.cells (List.replicate n (Value.int .i64 0)).toArray 3) = W2 at hd XH XF ⊢
      generalize W1.heap.size = gH at XH hgH hne ⊢
      refine anyC_valD (some 7) (n := 1) (i := 8) (v := .slice (some ⟨gH, 0, none⟩) n n) (w' := W2) (by kernel_rfl) rfl rfl rfl (Later.mk' hd) (by first | rfl | go_simp) ?_
      simp only [Act.put, List.setIfInBounds_toArray, List.set_cons_zero, List.set_cons_succ]
      refine anyC_valD (some 8) (n := 0) (i := 9) (v := .slice (some ⟨gF, 0, none⟩) n n) (w' := W2) (by kernel_rfl) rfl rfl rfl (Later.mk' hd) (by first | rfl | go_simp) ?_
      simp only [Act.put, List.setIfInBounds_toArray, List.set_cons_zero, List.set_cons_succ]
      refine anyC_done (by kernel_rfl) (Later.mk' hd) ?_
      go_wp2_with fail
      go_meet
      exact ⟨hd, gH, gF, rfl, rfl, hgH, hgF, by omega, XH, XF⟩
  case rest =>
    obtain ⟨hb, gH, gF, rfl, rfl, hgH, hgF, hne, XH, XF⟩ := hcut
    have hB := hB.trans (hb.mono hB.size)
    have X1 := X1.later hb
    have X6 := X6.later hb
    have hsI : (Try.prog.info? 3).map (·.size) = some 1 := by kernel_rfl
    have hsB : (Try.prog.info? 4).map (·.size) = some 1 := by kernel_rfl
    have HH := hx.out.heard.later hB
    obtain ⟨W2, hc1, XH, hk1, hb1⟩ := copy_row1 (Value.int .i64) (fun _ => rfl) Try.underlying27 hsI 3 hn.out (hn.out ▸ HH.2) XH (by simp)
    clear HH
    have X1a := hk1 _ _ (by omega) X1
    have X6 := hk1 _ _ (by omega) X6
    have XF := hk1 _ _ (by omega) XF
    have hBa := hB.trans (hb1.mono (by have := hB.size; omega))
    have HF := hx.out.fresh.later hBa
    obtain ⟨W3, hc2, XF, hk2, hb2⟩ := copy_row1 Value.bool (fun _ => rfl) Try.underlying28 hsB 3 hnf.out (hnf.out ▸ HF.2) XF (by simp)
    clear HF
    have X1b := hk2 _ _ (by omega) X1a
    have X6 := hk2 _ _ (by omega) X6
    have XH := hk2 _ _ (by omega) XH
    have hB := hBa.trans (hb2.mono (by have := hB.size; omega))
    have x13 : wc.cell? ⟨w.heap.size, 3, none⟩ = some (.slice Ah n ch) := X1.cell 3
    have x14 : W2.cell? ⟨w.heap.size, 4, none⟩ = some (.slice Af n cf) := X1a.cell 4
    have y1 := X1.lt
    have y2 := X1a.lt
    clear hk1 hk2 hb1 hb2 hb
    go_upto_region 4 with fail
    clear hc1 hc2 x13 x14 y1 y2 X1 X1a
    have hgi : (g : Int) < (n : Int) := by omega
    have hgz : (0 : Int) ≤ (g : Int) := by omega
    have hwv : wrap64 (v + 1) = v + 1 := by unfold wrap64; omega
    have hwv2 : IntKind.i64.wrap (v + 1) = v + 1 := wrapO (by omega) (by omega)
    have hgl : g < b.heard.length := by rw [hn.out]; exact hg
    have hgl2 : g < b.fresh.length := by rw [hnf.out]; exact hg
    have k0 : W3.cell? ⟨gH, g, none⟩ = some (.int .i64 b.heard[g]) := by rw [XH.cell]; simp [hgl]
    have k1 : W3.cell? ⟨gF, g, none⟩ = some (.bool b.fresh[g]) := by rw [XF.cell]; simp [hgl2]
    have f0 := XH.free g
    have f1 := XF.free g
    have zH := XH.lt
    have zF := XF.lt
    have hne2 : gF ≠ gH := fun h => hne h.symm
    go_upto_region 5 with fail
    clear k0 k1 f0 f1 hgi hgz hwv hwv2
    have XH := (XH.set g (.int .i64 (v + 1))).other (a := ⟨gF, g, none⟩) (by simp <;> omega) (.bool true)
    have XF := (XF.other (a := ⟨gH, g, none⟩) (by simp <;> omega) (.int .i64 (v + 1))).set g (.bool true)
    have X1 := (X1b.other (a := ⟨gH, g, none⟩) (by simp <;> omega) (.int .i64 (v + 1))).other (a := ⟨gF, g, none⟩) (by simp <;> omega) (.bool true)
    have X6 := (X6.other (a := ⟨gH, g, none⟩) (by simp <;> omega) (.int .i64 (v + 1))).other (a := ⟨gF, g, none⟩) (by simp <;> omega) (.bool true)
    have hB := (hB.setCell (p := ⟨gH, g, none⟩) (by simp <;> omega) (.int .i64 (v + 1))).setCell (p := ⟨gF, g, none⟩) (by simp <;> omega) (.bool true)
    generalize (W3.setCell ⟨gH, g, none⟩ (.int .i64 (v + 1))).setCell ⟨gF, g, none⟩ (.bool true) = W4 at XH XF X1 X6 hB ⊢
    have e1 : (b.heard.map (Value.int .i64)).set g (.int .i64 (v + 1)) = (b.heard.set g (v + 1)).map (Value.int .i64) := List.map_set.symm
    have e2 : (b.fresh.map Value.bool).set g (.bool true) = (b.fresh.set g true).map Value.bool := List.map_set.symm
    rw [e1] at XH
    rw [e2] at XF
    clear e1 e2 X1b
    have X1c0 : W4.cell? ⟨w.heap.size, 0, none⟩ = some (.slice Aq nq cq) := X1.cell 0
    have X1f0 : W4.frozen? ⟨w.heap.size, 0, none⟩ = false := X1.free 0
    have X1c1 : W4.cell? ⟨w.heap.size, 1, none⟩ = some (.slice Aa na ca) := X1.cell 1
    have X1f1 : W4.frozen? ⟨w.heap.size, 1, none⟩ = false := X1.free 1
    have X1c2 : W4.cell? ⟨w.heap.size, 2, none⟩ = some (.slice As ns cs) := X1.cell 2
    have X1f2 : W4.frozen? ⟨w.heap.size, 2, none⟩ = false := X1.free 2
    have X1c3 : W4.cell? ⟨w.heap.size, 3, none⟩ = some (.slice Ah n ch) := X1.cell 3
    have X1f3 : W4.frozen? ⟨w.heap.size, 3, none⟩ = false := X1.free 3
    have X1c4 : W4.cell? ⟨w.heap.size, 4, none⟩ = some (.slice Af n cf) := X1.cell 4
    have X1f4 : W4.frozen? ⟨w.heap.size, 4, none⟩ = false := X1.free 4
    have X1z : w.heap.size < W4.heap.size := X1.lt
    go_upto_region 6 with fail
    clear X1c0 X1c1 X1c2 X1c3 X1c4 X1f0 X1f1 X1f2 X1f3 X1f4 X1z
    have XH := (XH.other (a := ⟨w.heap.size, 3, none⟩) (by simp <;> omega) (.slice (some ⟨gH, 0, none⟩) n n)).other (a := ⟨w.heap.size, 4, none⟩) (by simp <;> omega) (.slice (some ⟨gF, 0, none⟩) n n)
    have XF := (XF.other (a := ⟨w.heap.size, 3, none⟩) (by simp <;> omega) (.slice (some ⟨gH, 0, none⟩) n n)).other (a := ⟨w.heap.size, 4, none⟩) (by simp <;> omega) (.slice (some ⟨gF, 0, none⟩) n n)
    have X1 := (X1.set 3 (.slice (some ⟨gH, 0, none⟩) n n)).set 4 (.slice (some ⟨gF, 0, none⟩) n n)
    have X6 := (X6.other (a := ⟨w.heap.size, 3, none⟩) (by simp <;> omega) (.slice (some ⟨gH, 0, none⟩) n n)).other (a := ⟨w.heap.size, 4, none⟩) (by simp <;> omega) (.slice (some ⟨gF, 0, none⟩) n n)
    have hB := (hB.setCell (p := ⟨w.heap.size, 3, none⟩) (by simp) (.slice (some ⟨gH, 0, none⟩) n n)).setCell (p := ⟨w.heap.size, 4, none⟩) (by simp) (.slice (some ⟨gF, 0, none⟩) n n)
    generalize (W4.setCell ⟨w.heap.size, 3, none⟩ (.slice (some ⟨gH, 0, none⟩) n n)).setCell ⟨w.heap.size, 4, none⟩ (.slice (some ⟨gF, 0, none⟩) n n) = W5 at XH XF X1 X6 hB ⊢
    simp only [List.set_cons_zero, List.set_cons_succ] at X1
    have X1c0 : W5.cell? ⟨w.heap.size, 0, none⟩ = some (.slice Aq nq cq) := X1.cell 0
    have X1c1 : W5.cell? ⟨w.heap.size, 1, none⟩ = some (.slice Aa na ca) := X1.cell 1
    have X1c2 : W5.cell? ⟨w.heap.size, 2, none⟩ = some (.slice As ns cs) := X1.cell 2
    have X1c3 : W5.cell? ⟨w.heap.size, 3, none⟩ = some (.slice (some ⟨gH, 0, none⟩) n n) := X1.cell 3
    have X1c4 : W5.cell? ⟨w.heap.size, 4, none⟩ = some (.slice (some ⟨gF, 0, none⟩) n n) := X1.cell 4
    have z1 := X1.lt
    have X6c0 : W5.cell? ⟨w.heap.size + 1, 0, none⟩ = some (.slice none 0 0) := X6.cell 0
    have X6f0 : W5.frozen? ⟨w.heap.size + 1, 0, none⟩ = false := X6.free 0
    have X6c1 : W5.cell? ⟨w.heap.size + 1, 1, none⟩ = some (.slice none 0 0) := X6.cell 1
    have X6f1 : W5.frozen? ⟨w.heap.size + 1, 1, none⟩ = false := X6.free 1
    have X6c2 : W5.cell? ⟨w.heap.size + 1, 2, none⟩ = some (.slice none 0 0) := X6.cell 2
    have X6f2 : W5.frozen? ⟨w.heap.size + 1, 2, none⟩ = false := X6.free 2
    have X6c3 : W5.cell? ⟨w.heap.size + 1, 3, none⟩ = some (.slice none 0 0) := X6.cell 3
    have X6f3 : W5.frozen? ⟨w.heap.size + 1, 3, none⟩ = false := X6.free 3
    have X6c4 : W5.cell? ⟨w.heap.size + 1, 4, none⟩ = some (.slice none 0 0) := X6.cell 4
    have X6f4 : W5.frozen? ⟨w.heap.size + 1, 4, none⟩ = false := X6.free 4
    have X6z : w.heap.size + 1 < W5.heap.size := X6.lt
    go_wp2
    have XH := (((((XH.other (a := ⟨w.heap.size + 1, 0, none⟩) (by simp <;> omega) (.slice Aq nq cq)).other (a := ⟨w.heap.size + 1, 1, none⟩) (by simp <;> omega) (.slice Aa na ca)).other (a := ⟨w.heap.size + 1, 2, none⟩) (by simp <;> omega) (.slice As ns cs)).other (a := ⟨w.heap.size + 1, 3, none⟩) (by simp <;> omega) (.slice (some ⟨gH, 0, none⟩) n n)).other (a := ⟨w.heap.size + 1, 4, none⟩) (by simp <;> omega) (.slice (some ⟨gF, 0, none⟩) n n))
    have XF := (((((XF.other (a := ⟨w.heap.size + 1, 0, none⟩) (by simp <;> omega) (.slice Aq nq cq)).other (a := ⟨w.heap.size + 1, 1, none⟩) (by simp <;> omega) (.slice Aa na ca)).other (a := ⟨w.heap.size + 1, 2, none⟩) (by simp <;> omega) (.slice As ns cs)).other (a := ⟨w.heap.size + 1, 3, none⟩) (by simp <;> omega) (.slice (some ⟨gH, 0, none⟩) n n)).other (a := ⟨w.heap.size + 1, 4, none⟩) (by simp <;> omega) (.slice (some ⟨gF, 0, none⟩) n n))
    have Y6 := (((((X6.set 0 (.slice Aq nq cq)).set 1 (.slice Aa na ca)).set 2 (.slice As ns cs)).set 3 (.slice (some ⟨gH, 0, none⟩) n n)).set 4 (.slice (some ⟨gF, 0, none⟩) n n))
    have hB := (((((hB.setCell (p := ⟨w.heap.size + 1, 0, none⟩) (by simp <;> omega) (.slice Aq nq cq)).setCell (p := ⟨w.heap.size + 1, 1, none⟩) (by simp <;> omega) (.slice Aa na ca)).setCell (p := ⟨w.heap.size + 1, 2, none⟩) (by simp <;> omega) (.slice As ns cs)).setCell (p := ⟨w.heap.size + 1, 3, none⟩) (by simp <;> omega) (.slice (some ⟨gH, 0, none⟩) n n)).setCell (p := ⟨w.heap.size + 1, 4, none⟩) (by simp <;> omega) (.slice (some ⟨gF, 0, none⟩) n n))
    clear X1c0 X1c1 X1c2 X1c3 X1c4 X6c0 X6c1 X6c2 X6c3 X6c4 X6f0 X6f1 X6f2 X6f3 X6f4 X6z
    generalize (((((W5.setCell ⟨w.heap.size + 1, 0, none⟩ (.slice Aq nq cq)).setCell ⟨w.heap.size + 1, 1, none⟩ (.slice Aa na ca)).setCell ⟨w.heap.size + 1, 2, none⟩ (.slice As ns cs)).setCell ⟨w.heap.size + 1, 3, none⟩ (.slice (some ⟨gH, 0, none⟩) n n)).setCell ⟨w.heap.size + 1, 4, none⟩ (.slice (some ⟨gF, 0, none⟩) n n)) = W6 at XH XF Y6 hB ⊢
    simp only [List.set_cons_zero, List.set_cons_succ] at Y6
    have Y6c0 : W6.cell? ⟨w.heap.size + 1, 0, none⟩ = some (.slice Aq nq cq) := Y6.cell 0
    have Y6c1 : W6.cell? ⟨w.heap.size + 1, 1, none⟩ = some (.slice Aa na ca) := Y6.cell 1
    have Y6c2 : W6.cell? ⟨w.heap.size + 1, 2, none⟩ = some (.slice As ns cs) := Y6.cell 2
    have Y6c3 : W6.cell? ⟨w.heap.size + 1, 3, none⟩ = some (.slice (some ⟨gH, 0, none⟩) n n) := Y6.cell 3
    have Y6c4 : W6.cell? ⟨w.heap.size + 1, 4, none⟩ = some (.slice (some ⟨gF, 0, none⟩) n n) := Y6.cell 4
    have hX := hx.out.later hB
    have hH := box_hd XH (by rw [List.length_set, hn.out]; unfold maxLen; omega)
    have hF := box_fr XF (by rw [List.length_set, hnf.out]; unfold maxLen; omega)
    rw [List.length_set, hn.out] at hH
    rw [List.length_set, hnf.out] at hF
    obtain rfl := hT.out
    refine bodyPost_ret (v := .agg #[.slice Aq nq cq, .slice Aa na ca, .slice As ns cs, .slice (some ⟨gH, 0, none⟩) n n, .slice (some ⟨gF, 0, none⟩) n n]) (by simp [results, Try.results48, go_sem, Y6c0, Y6c1, Y6c2, Y6c3, Y6c4]) rfl ?_
    exact ⟨_, _, _, _, _, _, _, _, _, _, _, _, _, _, _, rfl, ⟨hX.net, hX.sent, hH, hF⟩, hB⟩
end Go.Proofs.Ytmbifmmkccghfaa
