/- append on slices of packets and of pairs. No condition. -/
import Derived.Test.YtmbifmmkccghfaaQK
import Derived.Deep.DeepCutAuto
import Derived.Deep.RegionWith
import Derived.ChangeKeysEq
set_option linter.unusedVariables false
set_option linter.unusedSimpArgs false
namespace Go.Proofs.Ytmbifmmkccghfaa
open Go.RowKit

theorem Box.keepN {w w' : World} {b D : Nat} {xs : List Value} (h : Box w b xs) (hb : b < D) (hB : Below D w w') : Box w' b xs := h.same (hB.block b hb)
theorem info_pk : (Try.prog.info? 51).map (fun i => (i.zero, i.size, i.bytes)) = some (some (.agg #[.int .i64 0, .int .i64 0, .slice none 0 0]), 3, 40) := by kernel_rfl
theorem elem_pk : ∃ i, Elem 22 51 i (.agg #[.int .i64 0, .int .i64 0, .slice none 0 0]) 3 40 := by
  obtain ⟨i, hi, h0, h1, h2⟩ := info_parts info_pk
  exact ⟨i, Try.underlying22, hi, h0, h1, h2, rfl, by decide⟩
theorem info_lk : (Try.prog.info? 49).map (fun i => (i.zero, i.size, i.bytes)) = some (some (.agg #[.int .i64 0, .int .i64 0]), 2, 16) := by kernel_rfl
theorem elem_lk : ∃ i, Elem 23 49 i (.agg #[.int .i64 0, .int .i64 0]) 2 16 := by
  obtain ⟨i, hi, h0, h1, h2⟩ := info_parts info_lk
  exact ⟨i, Try.underlying23, hi, h0, h1, h2, rfl, by decide⟩
theorem Sl.congr {w : World} {B size n : Nat} {g h : Nat → Nat → Value} {v : Value} (hs : Sl w B size n g v) (he : ∀ i j, i < n → j < size → g i j = h i j) : Sl w B size n h v := by
  obtain ⟨A, c, hv, hm, h1⟩ := hs
  refine ⟨A, c, hv, hm, fun i hi => ?_⟩
  obtain ⟨b, off, ha, hb, h3⟩ := h1 i hi
  exact ⟨b, off, ha, hb, fun j hj => by rw [h3 j hj, he i j hi hj]⟩
theorem flat_congr {n size : Nat} {g h : Nat → Nat → Value} (hs : 0 < size) (he : ∀ i j, i < n → j < size → g i j = h i j) : flat n size g = flat n size h := by
  apply List.map_congr_left
  intro j hj
  have hj := List.mem_range.1 hj
  exact he _ _ ((Nat.div_lt_iff_lt_mul hs).2 hj) (Nat.mod_lt _ hs)
def catV (n : Nat) (V U : Nat → Value) : Nat → Value := fun i => if i < n then V i else U (i - n)
theorem pkCells_cat (q r : List Pk) (V U : Nat → Value) (i j : Nat) : cat q.length (pkCells q V) (pkCells r U) i j = pkCells (q ++ r) (catV q.length V U) i j := by
  unfold cat catV pkCells
  by_cases h : i < q.length
  · simp only [if_pos h, List.getD_eq_getElem?_getD, List.getElem?_append_left h]
  · simp only [if_neg h, List.getD_eq_getElem?_getD, List.getElem?_append_right (show q.length ≤ i by omega)]
theorem pkCells_one {q : List Pk} {V : Nat → Value} (hV : ∀ (i : Nat) (p : Pk), q[i]? = some p → ∃ w B, BytesAt w B (V i) p.data) {i j : Nat} (hi : i < q.length) : (pkCells q V i j).oneCell' = true := by
  unfold pkCells
  split
  · rfl
  · split
    · rfl
    · obtain ⟨w, B, h⟩ := hV i _ (List.getElem?_eq_getElem hi)
      obtain ⟨A, c, e, _⟩ := h.form
      rw [e]
      rfl
theorem bytes_cat {w : World} {B : Nat} {q r : List Pk} {V U : Nat → Value} (h1 : ∀ (i : Nat) (p : Pk), q[i]? = some p → BytesAt w B (V i) p.data) (h2 : ∀ (i : Nat) (p : Pk), r[i]? = some p → BytesAt w B (U i) p.data) :
    ∀ (i : Nat) (p : Pk), (q ++ r)[i]? = some p → BytesAt w B (catV q.length V U i) p.data := by
  intro i p hp
  unfold catV
  by_cases h : i < q.length
  · rw [if_pos h]
    exact h1 i p (by rw [List.getElem?_append_left h] at hp; exact hp)
  · rw [if_neg h]
    exact h2 _ p (by rw [List.getElem?_append_right (by omega)] at hp; exact hp)

def PksIn (w : World) (B D : Nat) (v : Value) (q : List Pk) : Prop :=
  SlF v ∧ ∃ V : Nat → Value, Sl w B 3 q.length (pkCells q V) v ∧ ∀ (i : Nat) (p : Pk), q[i]? = some p → BytesAt w D (V i) p.data
theorem PksAt.within {w : World} {B B' : Nat} {v : Value} {q : List Pk} (h : PksAt w B v q) (hB : B ≤ B') : PksIn w B' B v q := by
  obtain ⟨f, V, s, b⟩ := h
  exact ⟨f, V, s.more hB, b⟩
theorem PksIn.at {w : World} {B D : Nat} {v : Value} {q : List Pk} (h : PksIn w B D v q) (hD : D ≤ B) : PksAt w B v q := by
  obtain ⟨f, V, s, b⟩ := h
  exact ⟨f, V, s, fun i p hp => (b i p hp).more hD⟩
theorem pksIn_one {w : World} {b D : Nat} {p : Pk} {V : Value} (hX : Box w b [.int .i64 p.src, .int .i64 p.dst, V]) (hV : BytesAt w D V p.data) : PksIn w w.heap.size D (.slice (some ⟨b, 0, none⟩) 1 1) [p] := by
  refine ⟨.inr ⟨_, _, _, rfl, Nat.le_refl _, by simp [maxLen]⟩, fun _ => V, ⟨_, _, rfl, by simp [maxLen], fun i hi => ⟨b, 0, rfl, hX.lt, fun j hj => ?_⟩⟩, fun i x hx => ?_⟩
  · obtain rfl : i = 0 := by simpa using hi
    rcases (show j = 0 ∨ j = 1 ∨ j = 2 by omega) with rfl | rfl | rfl
    · exact hX.cell 0
    · exact hX.cell 1
    · exact hX.cell 2
  · rcases i with _ | i
    · obtain rfl : p = x := by simpa using hx
      exact hV
    · simp at hx
def Pks2 (w : World) (D base : Nat) (v : Value) (q : List Pk) : Prop :=
  SlF v ∧ ∃ V : Nat → Value, Sl2 w D base 3 q.length (pkCells q V) v ∧ ∀ (i : Nat) (p : Pk), q[i]? = some p → BytesAt w D (V i) p.data
theorem Pks2.at {w : World} {D base : Nat} {v : Value} {q : List Pk} (h : Pks2 w D base v q) (hD : D ≤ w.heap.size) : PksAt w w.heap.size v q := by
  obtain ⟨f, V, s, b⟩ := h
  exact ⟨f, V, s.sl, fun i p hp => (b i p hp).more hD⟩
theorem Pks2.set {w : World} {D base : Nat} {v : Value} {q : List Pk} (h : Pks2 w D base v q) {a : Addr} (h1 : D ≤ a.block) (h2 : a.block < base) (u : Value) : Pks2 (w.setCell a u) D base v q := by
  obtain ⟨f, V, s, b⟩ := h
  exact ⟨f, V, s.set h1 h2 u, fun i p hp => (b i p hp).below ((Below.refl D w).setCell h1 u)⟩
theorem Pks2.form {w : World} {D base : Nat} {v : Value} {q : List Pk} (h : Pks2 w D base v q) : ∃ A c, v = .slice A q.length c := by
  obtain ⟨_, _, ⟨A, c, hv, _⟩, _⟩ := h
  exact ⟨A, c, hv⟩
theorem run_app_pk (ty : TypeId) {w : World} {D : Nat} {A : Option Addr} {n cap : Nat} {q r : List Pk} {x : Value} (hq : PksAt w D (.slice A n cap) q) (hr : PksIn w w.heap.size D x r) (hD : D ≤ w.heap.size) (hcap : cap < q.length + r.length ∨ r.length = 0) (hsz : q.length + r.length ≤ 1048576) :
    ∃ A' n' c' w', (Builtin.append_ #[22, 22] ty #[.slice A n cap, x]).run Try.prog w = .ok (.slice A' n' c') w' ∧ Pks2 w' D w.heap.size (.slice A' n' c') (q ++ r) ∧ Below w.heap.size w w' := by
  obtain ⟨i, E⟩ := elem_pk
  obtain ⟨_, _, hv, _⟩ := hq.form
  obtain ⟨f1, V, s1, b1⟩ := hq
  obtain ⟨f2, U, s2, b2⟩ := hr
  have hn : n = q.length := by injection hv
  subst hn
  obtain ⟨v', w', hrun, s3, f3, hb⟩ := run_app E ty s1 hD f1 s2 f2 (fun k j hk _ => pkCells_one (fun i p hp => ⟨_, _, b2 i p hp⟩) hk) hcap (by simp only [maxLen]; omega) (by omega)
  have key : Pks2 w' D w.heap.size v' (q ++ r) := by
    refine ⟨f3, catV q.length V U, ?_, fun k p hp => (bytes_cat b1 b2 k p hp).below (hb.mono hD)⟩
    rw [List.length_append]
    obtain ⟨A2, c2, e1, e2, e3⟩ := s3
    refine ⟨A2, c2, e1, e2, fun i hi => ?_⟩
    obtain ⟨b, off, e4, e5, e6, e7⟩ := e3 i hi
    exact ⟨b, off, e4, e5, e6, fun j hj => by rw [e7 j hj, pkCells_cat]⟩
  obtain ⟨A', c', rfl⟩ := key.form
  exact ⟨_, _, _, w', hrun, key, hb⟩
def OwnPk (w : World) (base D : Nat) (v : Value) (q : List Pk) : Prop :=
  ∃ V : Nat → Value, w.ownsRow base 51 3 v q.length (flat q.length 3 (pkCells q V)) ∧ ∀ (i : Nat) (p : Pk), q[i]? = some p → BytesAt w D (V i) p.data
theorem OwnPk.two {w : World} {base D : Nat} {v : Value} {q : List Pk} (h : OwnPk w base D v q) (hn : q.length ≤ maxLen) : Pks2 w D base v q := by
  obtain ⟨V, h1, h2⟩ := h
  obtain ⟨s, f⟩ := own_sl2 (D := D) h1 hn
  exact ⟨f, V, s, h2⟩
theorem OwnPk.form {w : World} {base D : Nat} {v : Value} {q : List Pk} (h : OwnPk w base D v q) : ∃ A n c, v = .slice A n c := by
  obtain ⟨V, h1, _⟩ := h
  rcases h1.2 with ⟨rfl, _⟩ | ⟨g, cap, cur, rfl, _⟩
  · exact ⟨_, _, _, rfl⟩
  · exact ⟨_, _, _, rfl⟩
theorem OwnPk.alloc {w : World} {base D : Nat} {v : Value} {q : List Pk} (h : OwnPk w base D v q) (hD : D ≤ w.heap.size) (o : Obj) : OwnPk (w.alloc o) base D v q := by
  obtain ⟨V, h1, h2⟩ := h
  exact ⟨V, h1.alloc o, fun i p hp => (h2 i p hp).below ((Below.refl D w).alloc hD o)⟩
theorem lkCells_cat (q r : List (Int × Int)) (i j : Nat) : cat q.length (lkCells q) (lkCells r) i j = lkCells (q ++ r) i j := by
  unfold cat lkCells
  by_cases h : i < q.length
  · simp only [if_pos h, List.getD_eq_getElem?_getD, List.getElem?_append_left h]
  · simp only [if_neg h, List.getD_eq_getElem?_getD, List.getElem?_append_right (show q.length ≤ i by omega)]
theorem lkCells_one (q : List (Int × Int)) (i j : Nat) : (lkCells q i j).oneCell' = true := by
  unfold lkCells
  split <;> rfl
def OwnLk (w : World) (base : Nat) (v : Value) (l : List (Int × Int)) : Prop := w.ownsRow base 49 2 v l.length (flat l.length 2 (lkCells l))
theorem ownLk_nil (w : World) (base : Nat) : OwnLk w base (.slice none 0 0) [] := ⟨by simp [flat], .inl ⟨rfl, rfl⟩⟩
theorem OwnLk.lks {w : World} {base : Nat} {v : Value} {l : List (Int × Int)} (h : OwnLk w base v l) (hn : l.length ≤ maxLen) : LksAt w w.heap.size v l := by
  obtain ⟨s, f⟩ := own_sl h hn
  exact ⟨f, s⟩
theorem run_own_lk (ty : TypeId) {w : World} {base b : Nat} {v : Value} {l : List (Int × Int)} {x y : Int} (hl : OwnLk w base v l) (hX : Box w b [.int .i64 x, .int .i64 y]) (hbase : base ≤ w.heap.size) (hsz : l.length + 1 ≤ 1048576) :
    ∃ v' w', (Builtin.append_ #[23, 23] ty #[v, .slice (some ⟨b, 0, none⟩) 1 1]).run Try.prog w = .ok v' w' ∧ OwnLk w' base v' (l ++ [(x, y)]) ∧ Below base w w' ∧ w.grownBy w' v.ownBlock := by
  obtain ⟨i, E⟩ := elem_lk
  have hrow := World.ownsRow.lt hl
  have hs : Sl w w.heap.size 2 [(x, y)].length (lkCells [(x, y)]) (.slice (some ⟨b, 0, none⟩) 1 1) := by
    refine ⟨_, _, rfl, by simp [maxLen], fun i hi => ⟨b, 0, rfl, hX.lt, fun j hj => ?_⟩⟩
    obtain rfl : i = 0 := by simpa using hi
    rcases (show j = 0 ∨ j = 1 by omega) with rfl | rfl
    · exact hX.cell 0
    · exact hX.cell 1
  obtain ⟨v', w', hrun, o3, hg⟩ := run_app_own E ty hl hs (.inr ⟨_, _, _, rfl, Nat.le_refl _, by simp [maxLen]⟩) (fun k j _ _ => lkCells_one _ k j) (by simp only [maxLen, List.length_cons, List.length_nil]; omega) (by simp only [List.length_cons, List.length_nil]; omega) hbase
  refine ⟨v', w', hrun, ?_, (Below.refl base w).grown hg hbase (fun k hk => (hrow k hk).1), hg⟩
  rw [flat_congr (by decide) (fun i j _ _ => lkCells_cat l [(x, y)] i j)] at o3
  unfold OwnLk
  rw [List.length_append]
  exact o3

theorem Sl2.lower {w : World} {D base base' size n : Nat} {g : Nat → Nat → Value} {v : Value} (h : Sl2 w D base size n g v) (hb : base' ≤ base) : Sl2 w D base' size n g v := by
  obtain ⟨A, c, hv, hm, h1⟩ := h
  refine ⟨A, c, hv, hm, fun i hi => ?_⟩
  obtain ⟨b, off, ha, hb1, hl, h3⟩ := h1 i hi
  exact ⟨b, off, ha, by omega, hl, h3⟩
theorem Pks2.lower {w : World} {D base base' : Nat} {v : Value} {q : List Pk} (h : Pks2 w D base v q) (hb : base' ≤ base) : Pks2 w D base' v q := by
  obtain ⟨f, V, s, b⟩ := h
  exact ⟨f, V, s.lower hb, b⟩
theorem Pks2.later {w w' : World} {D base : Nat} {v : Value} {q : List Pk} (h : Pks2 w D base v q) (hD : D ≤ w.heap.size) (hb : Below w.heap.size w w') : Pks2 w' D base v q := by
  obtain ⟨f, V, s, b⟩ := h
  exact ⟨f, V, s.later hb, fun i p hp => (b i p hp).below (hb.mono hD)⟩
theorem PksAt.two {w : World} {D base : Nat} {v : Value} {q : List Pk} (h : PksAt w D v q) (hD : D ≤ w.heap.size) : Pks2 w D base v q := by
  obtain ⟨f, V, s, b⟩ := h
  exact ⟨f, V, s.sl2 hD, b⟩
def Lks2 (w : World) (D base : Nat) (v : Value) (l : List (Int × Int)) : Prop := SlF v ∧ Sl2 w D base 2 l.length (lkCells l) v
theorem LksAt.two {w : World} {D base : Nat} {v : Value} {l : List (Int × Int)} (h : LksAt w D v l) (hD : D ≤ w.heap.size) : Lks2 w D base v l := ⟨h.1, h.2.sl2 hD⟩
theorem OwnLk.two {w : World} {base D : Nat} {v : Value} {l : List (Int × Int)} (h : OwnLk w base v l) (hn : l.length ≤ maxLen) : Lks2 w D base v l := by
  obtain ⟨s, f⟩ := own_sl2 (D := D) h hn
  exact ⟨f, s⟩
theorem BytesAt.set1 {w : World} {D : Nat} {v : Value} {l : List UInt8} (h : BytesAt w D v l) {a : Addr} (h1 : D ≤ a.block) (u : Value) : BytesAt (w.setCell a u) D v l := h.below ((Below.refl D w).setCell h1 u)
structure Net2 (w : World) (D base : Nat) (Vq Va : Value) (n : Net) : Prop where
  queue : Pks2 w D base Vq n.queue
  apart : Lks2 w D base Va n.apart
theorem Net2.set {w : World} {D base : Nat} {Vq Va : Value} {n : Net} (h : Net2 w D base Vq Va n) {a : Addr} (h1 : D ≤ a.block) (h2 : a.block < base) (u : Value) : Net2 (w.setCell a u) D base Vq Va n := ⟨h.queue.set h1 h2 u, h.apart.1, h.apart.2.set h1 h2 u⟩
theorem Net2.later {w w' : World} {D base : Nat} {Vq Va : Value} {n : Net} (h : Net2 w D base Vq Va n) (hD : D ≤ w.heap.size) (hb : Below w.heap.size w w') : Net2 w' D base Vq Va n := ⟨h.queue.later hD hb, h.apart.1, h.apart.2.later hb⟩
theorem Net2.lower {w : World} {D base base' : Nat} {Vq Va : Value} {n : Net} (h : Net2 w D base Vq Va n) (hb : base' ≤ base) : Net2 w D base' Vq Va n := ⟨h.queue.lower hb, h.apart.1, h.apart.2.lower hb⟩
theorem Net2.at {w : World} {D base : Nat} {Vq Va : Value} {n : Net} (h : Net2 w D base Vq Va n) (hD : D ≤ w.heap.size) : NetAt w w.heap.size Vq Va n := ⟨h.queue.at hD, h.apart.1, h.apart.2.sl⟩
theorem NetAt.two {w : World} {D base : Nat} {Vq Va : Value} {n : Net} (h : NetAt w D Vq Va n) (hD : D ≤ w.heap.size) : Net2 w D base Vq Va n := ⟨h.queue.two hD, h.apart.two hD⟩
theorem net2_zero (w : World) (D base : Nat) : Net2 w D base (.slice none 0 0) (.slice none 0 0) Net.zero := ⟨⟨.inl rfl, fun _ => undef, ⟨none, 0, rfl, Nat.zero_le _, fun i hi => by simp [Net.zero] at hi⟩, fun i l hl => by simp [Net.zero] at hl⟩, .inl rfl, none, 0, rfl, Nat.zero_le _, fun i hi => by simp [Net.zero] at hi⟩

end Go.Proofs.Ytmbifmmkccghfaa

/-
  Contract of Send of network. (Printed by gen_nf.py.)
-/
namespace Go.Proofs.Ytmbifmmkccghfaa
open Go.RowKit

attribute [local go_sem ↓ high] app_named

theorem nCheck_at {n : Net} {Vq Va : Value} {w : World} {c : Int} (h : Hid (n.checkT = c)) (hN : NetAt w w.heap.size Vq Va n) : Calls Try.prog 38 #[.agg #[Vq, Va]] w fun e w' => e = .returned (.int .i64 c) ∧ Below w.heap.size w w' :=
  (nCheck_any n Vq Va w hN).mono fun _ _ ⟨he, hb⟩ => ⟨by rw [he, h.out], hb⟩
theorem nPacket_at {p : Pk} {V : Value} {w : World} {q : Bool} (h : Hid (p.okB = q)) (hV : BytesAt w w.heap.size V p.data) : Calls Try.prog 54 #[p.v V] w fun e w' => e = .returned (.bool q) ∧ Below w.heap.size w w' :=
  (nPacket_any p V w hV).mono fun _ _ ⟨he, hb⟩ => ⟨by rw [he, h.out], hb⟩
def RetNet (t : Net × Int) (D : Nat) (w : World) (e : Ending) (w' : World) : Prop := ∃ (Vq Va : Value) (m : Net) (er : Int), e = .returned (.tuple #[.agg #[Vq, Va], .int .i64 er]) ∧ Hid (t = (m, er)) ∧ Hid (Net2 w' D w.heap.size Vq Va m) ∧ Below w.heap.size w w'
theorem PksAt.clip {w : World} {B : Nat} {A : Option Addr} {n c : Nat} {q : List Pk} (h : PksAt w B (.slice A n c) q) : PksAt w B (.slice A n n) q ∧ (n = q.length) ∧ ((A = none ∧ n = 0 ∧ c = 0) ∨ ∃ a, A = some a) ∧ n ≤ c ∧ c ≤ maxLen := by
  obtain ⟨f, V, ⟨A', c', hv, hm, h1⟩, h2⟩ := h
  cases hv
  rcases f with h0 | ⟨a, n', c', h0, hnc, hcm⟩
  · obtain ⟨rfl, hl, rfl⟩ : A = none ∧ q.length = 0 ∧ c = 0 := by simpa using h0
    refine ⟨⟨.inl (by rw [hl]), V, ⟨none, q.length, rfl, hm, h1⟩, h2⟩, rfl, .inl ⟨rfl, hl, rfl⟩, by omega, Nat.zero_le _⟩
  · obtain ⟨rfl, hl, rfl⟩ : A = some a ∧ q.length = n' ∧ c = c' := by simpa using h0
    subst hl
    exact ⟨⟨.inr ⟨a, _, _, rfl, Nat.le_refl _, by omega⟩, V, ⟨some a, q.length, rfl, hm, h1⟩, h2⟩, rfl, .inr ⟨a, rfl⟩, hnc, hcm⟩

end Go.Proofs.Ytmbifmmkccghfaa

/-
  Contract of Send of the reference of chapter 6. (Printed by gen_ng.py.)
-/
namespace Go.Proofs.Ytmbifmmkccghfaa
open Go.RowKit

attribute [local go_sem ↓ high] app_named

end Go.Proofs.Ytmbifmmkccghfaa

/-
  Contracts of at of network, asked of the reference, slices.Contains over pairs, IsCut. (Printed by gen_ni.py.)
-/
namespace Go.Proofs.Ytmbifmmkccghfaa
open Go.RowKit

def RetPk (t : Pk × Int) (D : Nat) (w : World) (e : Ending) (w' : World) : Prop := ∃ (V : Value) (p : Pk) (er : Int), e = .returned (.tuple #[p.v V, .int .i64 er]) ∧ Hid (t = (p, er)) ∧ Hid (BytesAt w' D V p.data) ∧ Below w.heap.size w w'
def atT (n : Net) (i : Int) : Pk × Int := if askTN n i = 0 then (n.pk i, 0) else (Pk.zero, askTN n i)
theorem Net.pk_at {n : Net} {k : Nat} (h : k < n.queue.length) : n.pk (k : Int) = n.queue[k] := by
  rw [Net.pk, Int.toNat_natCast, List.getD_eq_getElem?_getD, List.getElem?_eq_getElem h]
  rfl

set_option maxRecDepth 100000 in
set_option maxHeartbeats 4000000 in
theorem nAt_1 (n : Net) (Aq : Option Addr) (nq cq : Nat) (Aa : Option Addr) (na ca : Nat) (i : Int) (w : World) (D : Nat) (hDw : D ≤ w.heap.size) (hN : Hid (NetAt w D (.slice Aq nq cq) (.slice Aa na ca) n)) (h : Hid (n.checkT = 60)) (hs : Hid (atT n i = (Pk.zero, 60))) : Calls Try.prog 70 #[.agg #[.slice Aq nq cq, .slice Aa na ca], .int .i64 i] w (RetPk (atT n i) D w) := by
  have HB0 : Below w.heap.size w ((w.alloc (.cells #[.slice Aq nq cq, .slice Aa na ca] 25)).alloc (.cells #[.int .i64 0, .int .i64 0, .slice none 0 0] 51)) := (((Below.refl w.heap.size w).alloc (by simp <;> omega) (.cells #[.slice Aq nq cq, .slice Aa na ca] 25)).alloc (by simp <;> omega) (.cells #[.int .i64 0, .int .i64 0, .slice none 0 0] 51))
  have HNB := Lib.hid (((hN.out.more hDw).below HB0).more HB0.size)
  go_enter Try.func70, Try.ntmps70
  go_wp2_with fail
  refine (nCheck_at h HNB.out).mono ?_
  rintro e w1 ⟨rfl, hb⟩
  have X0 := (((Box.newAt (n := w.heap.size) [.slice Aq nq cq, .slice Aa na ca] 25 (by simp)).alloc _)).later hb
  have R := ((Box.newAt (n := w.heap.size + 1) [.int .i64 0, .int .i64 0, .slice none 0 0] 51 (by simp))).later hb
  have hB : Below w.heap.size w w1 := ((((Below.refl w.heap.size w).alloc (by simp <;> omega) _).alloc (by simp <;> omega) _)).trans (hb.mono (by simp <;> omega))
  clear hb
  have Rc0 : w1.cell? ⟨w.heap.size + 1, 0, none⟩ = some (.int .i64 0) := R.cell 0
  have Rf0 : w1.frozen? ⟨w.heap.size + 1, 0, none⟩ = false := R.free 0
  have Rc1 : w1.cell? ⟨w.heap.size + 1, 1, none⟩ = some (.int .i64 0) := R.cell 1
  have Rf1 : w1.frozen? ⟨w.heap.size + 1, 1, none⟩ = false := R.free 1
  have Rc2 : w1.cell? ⟨w.heap.size + 1, 2, none⟩ = some (.slice none 0 0) := R.cell 2
  have Rf2 : w1.frozen? ⟨w.heap.size + 1, 2, none⟩ = false := R.free 2
  have Rz : w.heap.size + 1 < w1.heap.size := R.lt
  have hle : w.heap.size ≤ w.heap.size + 1 := by omega
  have hres := hs
  go_wp2
  have hY := (((R.set 0 (.int .i64 0)).set 1 (.int .i64 0)).set 2 (.slice none 0 0))
  have hB := (((hB.setCell (p := ⟨w.heap.size + 1, 0, none⟩) (by simp <;> omega) (.int .i64 0)).setCell (p := ⟨w.heap.size + 1, 1, none⟩) (by simp <;> omega) (.int .i64 0)).setCell (p := ⟨w.heap.size + 1, 2, none⟩) (by simp <;> omega) (.slice none 0 0))
  generalize (((w1.setCell ⟨w.heap.size + 1, 0, none⟩ (.int .i64 0)).setCell ⟨w.heap.size + 1, 1, none⟩ (.int .i64 0)).setCell ⟨w.heap.size + 1, 2, none⟩ (.slice none 0 0)) = W at hY hB ⊢
  have y0 : W.cell? ⟨w.heap.size + 1, 0, none⟩ = some (.int .i64 0) := hY.cell 0
  have y1 : W.cell? ⟨w.heap.size + 1, 1, none⟩ = some (.int .i64 0) := hY.cell 1
  have y2 : W.cell? ⟨w.heap.size + 1, 2, none⟩ = some (.slice none 0 0) := hY.cell 2
  refine bodyPost_ret (v := .tuple #[.agg #[.int .i64 0, .int .i64 0, .slice none 0 0], .int .i64 60]) (by simp [results, Try.results70, go_sem, y0, y1, y2]) rfl ?_
  exact ⟨_, Pk.zero, 60, rfl, hres, bytesAt_nil _ _, hB⟩

set_option maxRecDepth 100000 in
set_option maxHeartbeats 4000000 in
theorem nAt_2 (n : Net) (Aq : Option Addr) (nq cq : Nat) (Aa : Option Addr) (na ca : Nat) (i : Int) (w : World) (D : Nat) (hDw : D ≤ w.heap.size) (hN : Hid (NetAt w D (.slice Aq nq cq) (.slice Aa na ca) n)) (h : Hid (n.checkT = 0)) (_hi : i < 0) (hs : Hid (atT n i = (Pk.zero, 1))) : Calls Try.prog 70 #[.agg #[.slice Aq nq cq, .slice Aa na ca], .int .i64 i] w (RetPk (atT n i) D w) := by
  have HB0 : Below w.heap.size w ((w.alloc (.cells #[.slice Aq nq cq, .slice Aa na ca] 25)).alloc (.cells #[.int .i64 0, .int .i64 0, .slice none 0 0] 51)) := (((Below.refl w.heap.size w).alloc (by simp <;> omega) (.cells #[.slice Aq nq cq, .slice Aa na ca] 25)).alloc (by simp <;> omega) (.cells #[.int .i64 0, .int .i64 0, .slice none 0 0] 51))
  have HNB := Lib.hid (((hN.out.more hDw).below HB0).more HB0.size)
  go_enter Try.func70, Try.ntmps70
  go_wp2_with fail
  refine (nCheck_at h HNB.out).mono ?_
  rintro e w1 ⟨rfl, hb⟩
  have X0 := (((Box.newAt (n := w.heap.size) [.slice Aq nq cq, .slice Aa na ca] 25 (by simp)).alloc _)).later hb
  have R := ((Box.newAt (n := w.heap.size + 1) [.int .i64 0, .int .i64 0, .slice none 0 0] 51 (by simp))).later hb
  have hB : Below w.heap.size w w1 := ((((Below.refl w.heap.size w).alloc (by simp <;> omega) _).alloc (by simp <;> omega) _)).trans (hb.mono (by simp <;> omega))
  clear hb
  have X0c0 : w1.cell? ⟨w.heap.size, 0, none⟩ = some (.slice Aq nq cq) := X0.cell 0
  have X0f0 : w1.frozen? ⟨w.heap.size, 0, none⟩ = false := X0.free 0
  have X0c1 : w1.cell? ⟨w.heap.size, 1, none⟩ = some (.slice Aa na ca) := X0.cell 1
  have X0f1 : w1.frozen? ⟨w.heap.size, 1, none⟩ = false := X0.free 1
  have X0z : w.heap.size < w1.heap.size := X0.lt
  have Rc0 : w1.cell? ⟨w.heap.size + 1, 0, none⟩ = some (.int .i64 0) := R.cell 0
  have Rf0 : w1.frozen? ⟨w.heap.size + 1, 0, none⟩ = false := R.free 0
  have Rc1 : w1.cell? ⟨w.heap.size + 1, 1, none⟩ = some (.int .i64 0) := R.cell 1
  have Rf1 : w1.frozen? ⟨w.heap.size + 1, 1, none⟩ = false := R.free 1
  have Rc2 : w1.cell? ⟨w.heap.size + 1, 2, none⟩ = some (.slice none 0 0) := R.cell 2
  have Rf2 : w1.frozen? ⟨w.heap.size + 1, 2, none⟩ = false := R.free 2
  have Rz : w.heap.size + 1 < w1.heap.size := R.lt
  have hle : w.heap.size ≤ w.heap.size + 1 := by omega
  have hres := hs
  go_wp2
  have hY := (((R.set 0 (.int .i64 0)).set 1 (.int .i64 0)).set 2 (.slice none 0 0))
  have hB := (((hB.setCell (p := ⟨w.heap.size + 1, 0, none⟩) (by simp <;> omega) (.int .i64 0)).setCell (p := ⟨w.heap.size + 1, 1, none⟩) (by simp <;> omega) (.int .i64 0)).setCell (p := ⟨w.heap.size + 1, 2, none⟩) (by simp <;> omega) (.slice none 0 0))
  generalize (((w1.setCell ⟨w.heap.size + 1, 0, none⟩ (.int .i64 0)).setCell ⟨w.heap.size + 1, 1, none⟩ (.int .i64 0)).setCell ⟨w.heap.size + 1, 2, none⟩ (.slice none 0 0)) = W at hY hB ⊢
  have y0 : W.cell? ⟨w.heap.size + 1, 0, none⟩ = some (.int .i64 0) := hY.cell 0
  have y1 : W.cell? ⟨w.heap.size + 1, 1, none⟩ = some (.int .i64 0) := hY.cell 1
  have y2 : W.cell? ⟨w.heap.size + 1, 2, none⟩ = some (.slice none 0 0) := hY.cell 2
  refine bodyPost_ret (v := .tuple #[.agg #[.int .i64 0, .int .i64 0, .slice none 0 0], .int .i64 1]) (by simp [results, Try.results70, go_sem, y0, y1, y2]) rfl ?_
  exact ⟨_, Pk.zero, 1, rfl, hres, bytesAt_nil _ _, hB⟩

set_option maxRecDepth 100000 in
set_option maxHeartbeats 4000000 in
theorem nAt_3 (n : Net) (Aq : Option Addr) (nq cq : Nat) (Aa : Option Addr) (na ca : Nat) (i : Int) (w : World) (D : Nat) (hDw : D ≤ w.heap.size) (hN : Hid (NetAt w D (.slice Aq nq cq) (.slice Aa na ca) n)) (h : Hid (n.checkT = 0)) (_hi : 0 ≤ i) (_hl : (nq : Int) ≤ i) (hs : Hid (atT n i = (Pk.zero, 1))) : Calls Try.prog 70 #[.agg #[.slice Aq nq cq, .slice Aa na ca], .int .i64 i] w (RetPk (atT n i) D w) := by
  have HB0 : Below w.heap.size w ((w.alloc (.cells #[.slice Aq nq cq, .slice Aa na ca] 25)).alloc (.cells #[.int .i64 0, .int .i64 0, .slice none 0 0] 51)) := (((Below.refl w.heap.size w).alloc (by simp <;> omega) (.cells #[.slice Aq nq cq, .slice Aa na ca] 25)).alloc (by simp <;> omega) (.cells #[.int .i64 0, .int .i64 0, .slice none 0 0] 51))
  have HNB := Lib.hid (((hN.out.more hDw).below HB0).more HB0.size)
  go_enter Try.func70, Try.ntmps70
  go_wp2_with fail
  refine (nCheck_at h HNB.out).mono ?_
  rintro e w1 ⟨rfl, hb⟩
  have X0 := (((Box.newAt (n := w.heap.size) [.slice Aq nq cq, .slice Aa na ca] 25 (by simp)).alloc _)).later hb
  have R := ((Box.newAt (n := w.heap.size + 1) [.int .i64 0, .int .i64 0, .slice none 0 0] 51 (by simp))).later hb
  have hB : Below w.heap.size w w1 := ((((Below.refl w.heap.size w).alloc (by simp <;> omega) _).alloc (by simp <;> omega) _)).trans (hb.mono (by simp <;> omega))
  clear hb
  have X0c0 : w1.cell? ⟨w.heap.size, 0, none⟩ = some (.slice Aq nq cq) := X0.cell 0
  have X0f0 : w1.frozen? ⟨w.heap.size, 0, none⟩ = false := X0.free 0
  have X0c1 : w1.cell? ⟨w.heap.size, 1, none⟩ = some (.slice Aa na ca) := X0.cell 1
  have X0f1 : w1.frozen? ⟨w.heap.size, 1, none⟩ = false := X0.free 1
  have X0z : w.heap.size < w1.heap.size := X0.lt
  have Rc0 : w1.cell? ⟨w.heap.size + 1, 0, none⟩ = some (.int .i64 0) := R.cell 0
  have Rf0 : w1.frozen? ⟨w.heap.size + 1, 0, none⟩ = false := R.free 0
  have Rc1 : w1.cell? ⟨w.heap.size + 1, 1, none⟩ = some (.int .i64 0) := R.cell 1
  have Rf1 : w1.frozen? ⟨w.heap.size + 1, 1, none⟩ = false := R.free 1
  have Rc2 : w1.cell? ⟨w.heap.size + 1, 2, none⟩ = some (.slice none 0 0) := R.cell 2
  have Rf2 : w1.frozen? ⟨w.heap.size + 1, 2, none⟩ = false := R.free 2
  have Rz : w.heap.size + 1 < w1.heap.size := R.lt
  have hle : w.heap.size ≤ w.heap.size + 1 := by omega
  have hres := hs
  go_wp2
  have hY := (((R.set 0 (.int .i64 0)).set 1 (.int .i64 0)).set 2 (.slice none 0 0))
  have hB := (((hB.setCell (p := ⟨w.heap.size + 1, 0, none⟩) (by simp <;> omega) (.int .i64 0)).setCell (p := ⟨w.heap.size + 1, 1, none⟩) (by simp <;> omega) (.int .i64 0)).setCell (p := ⟨w.heap.size + 1, 2, none⟩) (by simp <;> omega) (.slice none 0 0))
  generalize (((w1.setCell ⟨w.heap.size + 1, 0, none⟩ (.int .i64 0)).setCell ⟨w.heap.size + 1, 1, none⟩ (.int .i64 0)).setCell ⟨w.heap.size + 1, 2, none⟩ (.slice none 0 0)) = W at hY hB ⊢
  have y0 : W.cell? ⟨w.heap.size + 1, 0, none⟩ = some (.int .i64 0) := hY.cell 0
  have y1 : W.cell? ⟨w.heap.size + 1, 1, none⟩ = some (.int .i64 0) := hY.cell 1
  have y2 : W.cell? ⟨w.heap.size + 1, 2, none⟩ = some (.slice none 0 0) := hY.cell 2
  refine bodyPost_ret (v := .tuple #[.agg #[.int .i64 0, .int .i64 0, .slice none 0 0], .int .i64 1]) (by simp [results, Try.results70, go_sem, y0, y1, y2]) rfl ?_
  exact ⟨_, Pk.zero, 1, rfl, hres, bytesAt_nil _ _, hB⟩

set_option maxRecDepth 100000 in
set_option maxHeartbeats 4000000 in
theorem nAt_4 (n : Net) (Aq : Option Addr) (nq cq : Nat) (Aa : Option Addr) (na ca : Nat) (i : Int) (w : World) (D : Nat) (hDw : D ≤ w.heap.size) (hN : Hid (NetAt w D (.slice Aq nq cq) (.slice Aa na ca) n)) (k : Nat) (_hk : i = (k : Int)) (hkn : k < nq) (h : Hid (n.checkT = 0)) (hnq : Hid (n.queue.length = nq)) (_hm : nq ≤ 9223372036854775807) : Calls Try.prog 70 #[.agg #[.slice Aq nq cq, .slice Aa na ca], .int .i64 i] w (RetPk (atT n i) D w) := by
  subst _hk
  have hkl : k < n.queue.length := by rw [hnq.out]; exact hkn
  have hs : Hid (atT n (k : Int) = (n.queue[k], 0)) := by
    have hok : askTN n (k : Int) = 0 := by
      have hh := h.out
      rw [Net.checkT] at hh
      rw [askTN, if_pos (by by_cases hx : n.okB = true; exact hx; rw [if_neg hx] at hh; omega), if_pos ⟨by omega, by omega⟩]
    rw [Hid, atT, if_pos hok, Net.pk_at hkl]
  obtain ⟨b, off, V, rfl, hbw, q0, q1, q2, hV⟩ := hN.out.queue.pk hkl
  obtain ⟨Ad, cd, rfl, _⟩ := hV.form
  obtain ⟨dl, hdl⟩ : ∃ dl, (n.queue[k]).data.length = dl := ⟨_, rfl⟩
  rw [hdl] at q2 hV
  obtain ⟨y, hy⟩ : ∃ y, n.queue[k] = y := ⟨_, rfl⟩
  rw [hy] at q0 q1 hV hs
  have HV := Lib.hid hV
  have Q0 := Lib.hid q0
  have Q1 := Lib.hid q1
  have Q2 := Lib.hid q2
  clear hdl hy hV q0 q1 q2
  have HB0 : Below w.heap.size w ((w.alloc (.cells #[.slice (some ⟨b, off, none⟩) nq cq, .slice Aa na ca] 25)).alloc (.cells #[.int .i64 0, .int .i64 0, .slice none 0 0] 51)) := (((Below.refl w.heap.size w).alloc (by simp <;> omega) (.cells #[.slice (some ⟨b, off, none⟩) nq cq, .slice Aa na ca] 25)).alloc (by simp <;> omega) (.cells #[.int .i64 0, .int .i64 0, .slice none 0 0] 51))
  have HNB := Lib.hid (((hN.out.more hDw).below HB0).more HB0.size)
  go_enter Try.func70, Try.ntmps70
  go_wp2_with fail
  refine (nCheck_at h HNB.out).mono ?_
  rintro e w1 ⟨rfl, hb⟩
  have X0 := (((Box.newAt (n := w.heap.size) [.slice (some ⟨b, off, none⟩) nq cq, .slice Aa na ca] 25 (by simp)).alloc _)).later hb
  have R := ((Box.newAt (n := w.heap.size + 1) [.int .i64 0, .int .i64 0, .slice none 0 0] 51 (by simp))).later hb
  have hB : Below w.heap.size w w1 := ((((Below.refl w.heap.size w).alloc (by simp <;> omega) _).alloc (by simp <;> omega) _)).trans (hb.mono (by simp <;> omega))
  clear hb
  have hbv := Nat.lt_of_lt_of_le hbw hDw
  have q0 := (hB.cell hbv).trans Q0.out
  have q1 := (hB.cell hbv).trans Q1.out
  have q2 := (hB.cell hbv).trans Q2.out
  have hbz : b < w1.heap.size := by have := hB.size; omega
  have X0c0 : w1.cell? ⟨w.heap.size, 0, none⟩ = some (.slice (some ⟨b, off, none⟩) nq cq) := X0.cell 0
  have X0f0 : w1.frozen? ⟨w.heap.size, 0, none⟩ = false := X0.free 0
  have X0c1 : w1.cell? ⟨w.heap.size, 1, none⟩ = some (.slice Aa na ca) := X0.cell 1
  have X0f1 : w1.frozen? ⟨w.heap.size, 1, none⟩ = false := X0.free 1
  have X0z : w.heap.size < w1.heap.size := X0.lt
  have Rc0 : w1.cell? ⟨w.heap.size + 1, 0, none⟩ = some (.int .i64 0) := R.cell 0
  have Rf0 : w1.frozen? ⟨w.heap.size + 1, 0, none⟩ = false := R.free 0
  have Rc1 : w1.cell? ⟨w.heap.size + 1, 1, none⟩ = some (.int .i64 0) := R.cell 1
  have Rf1 : w1.frozen? ⟨w.heap.size + 1, 1, none⟩ = false := R.free 1
  have Rc2 : w1.cell? ⟨w.heap.size + 1, 2, none⟩ = some (.slice none 0 0) := R.cell 2
  have Rf2 : w1.frozen? ⟨w.heap.size + 1, 2, none⟩ = false := R.free 2
  have Rz : w.heap.size + 1 < w1.heap.size := R.lt
  have hle : w.heap.size ≤ w.heap.size + 1 := by omega
  have hres := hs
  go_wp2
  have hY := (((R.set 0 (.int .i64 y.src)).set 1 (.int .i64 y.dst)).set 2 (.slice Ad dl cd))
  have hB := (((hB.setCell (p := ⟨w.heap.size + 1, 0, none⟩) (by simp <;> omega) (.int .i64 y.src)).setCell (p := ⟨w.heap.size + 1, 1, none⟩) (by simp <;> omega) (.int .i64 y.dst)).setCell (p := ⟨w.heap.size + 1, 2, none⟩) (by simp <;> omega) (.slice Ad dl cd))
  generalize (((w1.setCell ⟨w.heap.size + 1, 0, none⟩ (.int .i64 y.src)).setCell ⟨w.heap.size + 1, 1, none⟩ (.int .i64 y.dst)).setCell ⟨w.heap.size + 1, 2, none⟩ (.slice Ad dl cd)) = W at hY hB ⊢
  have y0 : W.cell? ⟨w.heap.size + 1, 0, none⟩ = some (.int .i64 y.src) := hY.cell 0
  have y1 : W.cell? ⟨w.heap.size + 1, 1, none⟩ = some (.int .i64 y.dst) := hY.cell 1
  have y2 : W.cell? ⟨w.heap.size + 1, 2, none⟩ = some (.slice Ad dl cd) := hY.cell 2
  refine bodyPost_ret (v := .tuple #[.agg #[.int .i64 y.src, .int .i64 y.dst, .slice Ad dl cd], .int .i64 0]) (by simp [results, Try.results70, go_sem, y0, y1, y2]) rfl ?_
  exact ⟨_, y, 0, rfl, hres, HV.out.below (hB.mono hDw), hB⟩

theorem nAt_any (n : Net) (Vq Va : Value) (i : Int) (w : World) (D : Nat) (hDw : D ≤ w.heap.size) (hN : NetAt w D Vq Va n) : Calls Try.prog 70 #[.agg #[Vq, Va], .int .i64 i] w (RetPk (atT n i) D w) := by
  obtain ⟨Aq, cq, rfl, hmq⟩ := hN.queue.form
  obtain ⟨Aa, ca, rfl, _⟩ := hN.apart.form
  rcases h : n.okB with _ | _
  · have ha : askTN n i = 60 := by rw [askTN, h]; rfl
    exact nAt_1 n Aq _ cq Aa _ ca i w D hDw hN (check_bad h) (by rw [Hid, atT, ha]; rfl)
  · by_cases hi : 0 ≤ i ∧ i < (n.queue.length : Int)
    · obtain ⟨k, rfl⟩ := Int.eq_ofNat_of_zero_le hi.1
      exact nAt_4 n Aq _ cq Aa _ ca _ w D hDw hN k rfl (by omega) (check_good h) rfl (by unfold maxLen at hmq; omega)
    · have ha : askTN n i = 1 := by rw [askTN, h, if_pos rfl, if_neg hi]
      have hs : Hid (atT n i = (Pk.zero, 1)) := by rw [Hid, atT, ha]; rfl
      by_cases h0 : i < 0
      · exact nAt_2 n Aq _ cq Aa _ ca i w D hDw hN (check_good h) h0 hs
      · exact nAt_3 n Aq _ cq Aa _ ca i w D hDw hN (check_good h) (by omega) (by omega) hs

end Go.Proofs.Ytmbifmmkccghfaa

/-
  Contracts of without of network and of the reference. (Printed by gen_nj.py.)
-/
namespace Go.Proofs.Ytmbifmmkccghfaa
open Go.RowKit

attribute [local go_sem ↓ high] app_named

theorem PksAt.take {w : World} {B b off n c k : Nat} {q : List Pk} (h : PksAt w B (.slice (some ⟨b, off, none⟩) n c) q) (hk : k ≤ q.length) (hc : k ≤ maxLen) : PksAt w B (.slice (some ⟨b, off, none⟩) k k) (q.take k) := by
  obtain ⟨f, V, ⟨A', c', hv, hm, h1⟩, h2⟩ := h
  cases hv
  have hl : (q.take k).length = k := by simp; omega
  refine ⟨.inr ⟨_, _, _, rfl, Nat.le_refl _, hc⟩, V, ⟨some ⟨b, off, none⟩, k, by rw [hl], by rw [hl]; exact hc, fun i hi => ?_⟩, fun i p hp => h2 i p ?_⟩
  · rw [hl] at hi
    obtain ⟨b', off', e, hb, h3⟩ := h1 i (by omega)
    refine ⟨b', off', e, hb, fun j hj => ?_⟩
    rw [h3 j hj]
    simp only [pkCells, List.getD_eq_getElem?_getD, List.getElem?_take_of_lt hi]
  · have hi : i < k := by
      have := (List.getElem?_eq_some_iff.1 hp).1
      omega
    rw [List.getElem?_take_of_lt hi] at hp
    exact hp
theorem PksAt.head {w : World} {B b off n c k c2 : Nat} {q : List Pk} (h : PksAt w B (.slice (some ⟨b, off, none⟩) n c) q) (hk : k ≤ q.length) (h1 : k ≤ c2) (h2 : c2 ≤ maxLen) : PksAt w B (.slice (some ⟨b, off, none⟩) k c2) (q.take k) := by
  obtain ⟨f, V, ⟨A', c', hv, hm, h3⟩, h4⟩ := h.take hk (Nat.le_trans h1 h2)
  have hl : (q.take k).length = k := by simp; omega
  obtain ⟨rfl, _, rfl⟩ : A' = some ⟨b, off, none⟩ ∧ k = (q.take k).length ∧ k = c' := by simpa [eq_comm] using hv
  exact ⟨.inr ⟨_, _, _, rfl, h1, h2⟩, V, ⟨some ⟨b, off, none⟩, c2, by rw [hl], hm, h3⟩, h4⟩
theorem PksAt.drop {w : World} {B b off n c k : Nat} {q : List Pk} (h : PksAt w B (.slice (some ⟨b, off, none⟩) n c) q) (hk : k ≤ q.length) (hc : q.length ≤ c) (hcm : c ≤ maxLen) : PksAt w B (.slice (some ⟨b, off + k * 3, none⟩) (q.length - k) (c - k)) (q.drop k) := by
  obtain ⟨f, V, ⟨A', c', hv, hm, h1⟩, h2⟩ := h
  cases hv
  have hl : (q.drop k).length = q.length - k := by simp
  refine ⟨.inr ⟨_, _, _, rfl, by omega, by omega⟩, fun i => V (k + i), ⟨some ⟨b, off + k * 3, none⟩, c - k, by rw [hl], by rw [hl]; omega, fun i hi => ?_⟩, fun i p hp => h2 (k + i) p ?_⟩
  · rw [hl] at hi
    obtain ⟨b', off', e, hb, h3⟩ := h1 (k + i) (by omega)
    cases e
    refine ⟨b, off + k * 3, rfl, hb, fun j hj => ?_⟩
    have := h3 j hj
    rw [show off + k * 3 + (i * 3 + j) = off + ((k + i) * 3 + j) by omega, this]
    simp only [pkCells, List.getD_eq_getElem?_getD, List.getElem?_drop]
  · rw [List.getElem?_drop] at hp
    exact hp
theorem PksAt.none_left {w : World} {B b off n c : Nat} {q : List Pk} (_h : PksAt w B (.slice (some ⟨b, off, none⟩) n c) q) : PksAt w B (.slice (some ⟨b, off, none⟩) 0 0) [] :=
  ⟨.inr ⟨_, _, _, rfl, Nat.le_refl _, Nat.zero_le _⟩, fun _ => undef, ⟨_, _, rfl, Nat.zero_le _, fun i hi => by simp at hi⟩, fun i p hp => by simp at hp⟩
theorem PksAt.addr {w : World} {B n c k : Nat} {A : Option Addr} {q : List Pk} (h : PksAt w B (.slice A n c) q) (hk : k < q.length) : ∃ b off, A = some ⟨b, off, none⟩ := by
  obtain ⟨f, V, ⟨A', c', hv, hm, h1⟩, h2⟩ := h
  cases hv
  obtain ⟨b, off, e, _⟩ := h1 k hk
  exact ⟨b, off, e⟩
def RetN1 (t : Net) (D : Nat) (w : World) (e : Ending) (w' : World) : Prop := ∃ (Vq Va : Value), e = .returned (.agg #[Vq, Va]) ∧ Hid (Net2 w' D w.heap.size Vq Va t) ∧ Below w.heap.size w w'

end Go.Proofs.Ytmbifmmkccghfaa

/-
  Contracts of Lose and Repeat of both packages. (Printed by gen_nk.py.)
-/
namespace Go.Proofs.Ytmbifmmkccghfaa
open Go.RowKit

theorem Net2.form {w : World} {D base : Nat} {Vq Va : Value} {n : Net} (h : Net2 w D base Vq Va n) : ∃ Aq nq cq Aa na ca, Vq = .slice Aq nq cq ∧ Va = .slice Aa na ca := by
  obtain ⟨A, c, rfl⟩ := h.queue.form
  obtain ⟨_, A', c', rfl, _⟩ := h.apart
  exact ⟨_, _, _, _, _, _, rfl, rfl⟩
def RetNs (t : Net) (D : Nat) (w : World) (e : Ending) (w' : World) : Prop := ∃ (Aq : Option Addr) (nq cq : Nat) (Aa : Option Addr) (na ca : Nat), e = .returned (.agg #[.slice Aq nq cq, .slice Aa na ca]) ∧ Hid (Net2 w' D w.heap.size (.slice Aq nq cq) (.slice Aa na ca) t) ∧ Below w.heap.size w w'
theorem RetN1.sl {t : Net} {D : Nat} {w w' : World} {e : Ending} (h : RetN1 t D w e w') : RetNs t D w e w' := by
  obtain ⟨Vq, Va, rfl, h2, hb⟩ := h
  obtain ⟨Aq, nq, cq, Aa, na, ca, rfl, rfl⟩ := h2.out.form
  exact ⟨_, _, _, _, _, _, rfl, h2, hb⟩
def RetNe (t : Net × Int) (D : Nat) (w : World) (e : Ending) (w' : World) : Prop := ∃ (Aq : Option Addr) (nq cq : Nat) (Aa : Option Addr) (na ca : Nat) (m : Net) (er : Int), e = .returned (.tuple #[.agg #[.slice Aq nq cq, .slice Aa na ca], .int .i64 er]) ∧ Hid (t = (m, er)) ∧ Hid (Net2 w' D w.heap.size (.slice Aq nq cq) (.slice Aa na ca) m) ∧ Below w.heap.size w w'
theorem RetNet.sl {t : Net × Int} {D : Nat} {w w' : World} {e : Ending} (h : RetNet t D w e w') : RetNe t D w e w' := by
  obtain ⟨Vq, Va, m, er, rfl, ht, h2, hb⟩ := h
  obtain ⟨Aq, nq, cq, Aa, na, ca, rfl, rfl⟩ := h2.out.form
  exact ⟨_, _, _, _, _, _, _, _, rfl, ht, h2, hb⟩
theorem nAt_err {n : Net} {Vq Va : Value} {i c : Int} {w : World} {D : Nat} (h : Hid (askTN n i = c)) (hDw : D ≤ w.heap.size) (hN : NetAt w D Vq Va n) : Calls Try.prog 70 #[.agg #[Vq, Va], .int .i64 i] w fun e w' => ∃ (a b : Int) (A : Option Addr) (k m : Nat), e = .returned (.tuple #[.agg #[.int .i64 a, .int .i64 b, .slice A k m], .int .i64 c]) ∧ Below w.heap.size w w' := by
  refine (nAt_any n Vq Va i w D hDw hN).mono fun _ _ ⟨V, p, er, he, ht, hV, hb⟩ => ?_
  obtain ⟨A, m, rfl, _⟩ := hV.out.form
  refine ⟨p.src, p.dst, A, p.data.length, m, ?_, hb⟩
  rw [he]
  have : er = c := by
    have h1 := ht.out
    have h2 := h.out
    rw [atT] at h1
    by_cases h0 : askTN n i = 0
    · rw [if_pos h0] at h1; injection h1; omega
    · rw [if_neg h0] at h1; injection h1; omega
  rw [this]
theorem nAt_ok {n : Net} {Vq Va : Value} {i : Int} {w : World} {D : Nat} (h : Hid (askTN n i = 0)) (hDw : D ≤ w.heap.size) (hN : NetAt w D Vq Va n) : Calls Try.prog 70 #[.agg #[Vq, Va], .int .i64 i] w fun e w' => ∃ (A : Option Addr) (k m : Nat), e = .returned (.tuple #[.agg #[.int .i64 (n.pk i).src, .int .i64 (n.pk i).dst, .slice A k m], .int .i64 0]) ∧ Hid (BytesAt w' D (.slice A k m) (n.pk i).data) ∧ Below w.heap.size w w' := by
  refine (nAt_any n Vq Va i w D hDw hN).mono fun _ _ ⟨V, p, er, he, ht, hV, hb⟩ => ?_
  have h1 := ht.out
  rw [atT, if_pos h.out] at h1
  injection h1 with h2 h3
  subst h2 h3
  obtain ⟨A, m, rfl, _⟩ := hV.out.form
  exact ⟨A, (n.pk i).data.length, m, he, hV, hb⟩
theorem ask_ways (n : Net) (i : Int) : (∃ c : Int, askTN n i = c ∧ (c != 0) = true) ∨ ∃ k : Nat, i = (k : Int) ∧ k < n.queue.length ∧ n.queue.length ≤ 4096 ∧ askTN n i = 0 := by
  rcases h : n.okB with _ | _
  · exact .inl ⟨60, by rw [askTN, h]; rfl, rfl⟩
  · by_cases hi : 0 ≤ i ∧ i < (n.queue.length : Int)
    · obtain ⟨k, rfl⟩ := Int.eq_ofNat_of_zero_le hi.1
      refine .inr ⟨k, rfl, by omega, ?_, by rw [askTN, h, if_pos rfl, if_pos hi]⟩
      have := h
      simp only [Net.okB_eq, Bool.and_eq_true, decide_eq_true_eq] at this
      exact this.1
    · exact .inl ⟨1, by rw [askTN, h, if_pos rfl, if_neg hi], rfl⟩

end Go.Proofs.Ytmbifmmkccghfaa

/-
  Contracts of slices.Index and slices.Contains over pairs. No condition.
-/
namespace Go.Proofs.Ytmbifmmkccghfaa
open Go.RowKit

theorem info_intN : (Try.prog.info? 3).map (fun i => i.size) = some 1 := by kernel_rfl
theorem eq_pair (d : Nat) (a b c e : Int) (w : World) : (Op.equalIn (d + 2) 49 (.agg #[.int .i64 a, .int .i64 b]) (.agg #[.int .i64 c, .int .i64 e])).run Try.prog w = .ok (decide (a = c) && decide (b = e)) w := by
  have hin := info_intN
  cases hi : Try.prog.info? 3 with
  | none => rw [hi] at hin; cases hin
  | some i =>
    rw [run_equalIn_array w (d + 1) _ _ Try.underlying49 hi]
    have hc : Try.prog.cellsOf 3 = 1 := by kernel_rfl
    have hr : List.range 2 = [0, 1] := rfl
    rw [hc, hr]
    simp [Op.eqItems, part, go_sem]
    by_cases h1 : a = c <;> by_cases h2 : b = e <;> simp [h1, h2]
attribute [go_sem] eq_pair
theorem eq_link (d : Nat) (a b c e : Int) (w : World) : (Op.equalIn (d + 2) 98 (.agg #[.int .i64 a, .int .i64 b]) (.agg #[.int .i64 c, .int .i64 e])).run Try.prog w = .ok (decide (a = c) && decide (b = e)) w := by
  have hin := info_intN
  cases hi : Try.prog.info? 3 with
  | none => rw [hi] at hin; cases hin
  | some i =>
    rw [run_equalIn_array w (d + 1) _ _ Try.underlying98 hi]
    have hc : Try.prog.cellsOf 3 = 1 := by kernel_rfl
    have hr : List.range 2 = [0, 1] := rfl
    rw [hc, hr]
    simp [Op.eqItems, part, go_sem]
    by_cases h1 : a = c <;> by_cases h2 : b = e <;> simp [h1, h2]
attribute [go_sem] eq_link
def hasB (l : List (Int × Int)) (a b : Int) : Bool := l.any fun x => decide (a = x.1) && decide (b = x.2)
theorem cutB_has (l : List (Int × Int)) (a b : Int) : cutB l a b = hasB l (min a b) (max a b) := by
  simp only [cutB, hasB, eq_comm]
theorem hasTake (l : List (Int × Int)) (a b : Int) {k : Nat} (hk : k < l.length) : hasB (l.take (k + 1)) a b = (hasB (l.take k) a b || (decide (a = (l.getD k (0, 0)).1) && decide (b = (l.getD k (0, 0)).2))) := by
  unfold hasB
  rw [List.take_succ_eq_append_getElem hk, List.any_append]
  simp [List.getD_eq_getElem?_getD, List.getElem?_eq_getElem hk]
theorem hasGood {l : List (Int × Int)} {a b : Int} {k : Nat} (hk : k < l.length) (h : (decide (a = (l.getD k (0, 0)).1) && decide (b = (l.getD k (0, 0)).2)) = true) : hasB l a b = true := by
  unfold hasB
  rw [List.any_eq_true]
  exact ⟨l[k], List.getElem_mem hk, by simpa [List.getD_eq_getElem?_getD, List.getElem?_eq_getElem hk] using h⟩

set_option maxRecDepth 100000 in
set_option maxHeartbeats 2000000 in
theorem nIndexLk_any (l : List (Int × Int)) (x y : Int) (v : Value) (w : World) (D : Nat) (hDw : D ≤ w.heap.size) (hL : LksAt w D v l) :
    Calls Try.prog 92 #[v, pairV x y] w (IxRes (hasB l x y) w) := by
  obtain ⟨A, c, rfl, hm⟩ := hL.form
  unfold maxLen at hm
  obtain ⟨n, hnn⟩ : ∃ n, l.length = n := ⟨_, rfl⟩
  rw [hnn] at hm hL ⊢
  have HN := Lib.hid hnn
  have HL := Lib.hid hL
  clear hnn hL
  have hX := Box.new w [.int .i64 x, .int .i64 y] 49
  have hB0 := (Below.refl w.heap.size w).alloc (Nat.le_refl _) (.cells #[.int .i64 x, .int .i64 y] 49)
  go_enter Try.func92, Try.ntmps92
  go_wp2_with fail
  generalize w.alloc (.cells #[.int .i64 x, .int .i64 y] 49) = W at hX hB0 ⊢
  go_loopw [8] (fun i wr => ∃ j : Nat, j ≤ n ∧ i = .int .i64 j ∧ Below w.heap.size w wr ∧ Box wr w.heap.size [.int .i64 x, .int .i64 y] ∧ Hid (hasB (l.take j) x y = false)) (fun i _ => n - (intOf i).toNat)
  case atStart => exact ⟨0, by omega, rfl, hB0, hX, rfl⟩
  case round =>
    obtain ⟨j, hj, rfl, hb, hY, hno⟩ := hrel
    have x0 : wr.cell? ⟨w.heap.size, 0, none⟩ = some (.int .i64 x) := hY.cell 0
    have x1 : wr.cell? ⟨w.heap.size, 1, none⟩ = some (.int .i64 y) := hY.cell 1
    have xz := hY.lt
    by_cases hlt : j < n
    · have hjl : j < l.length := by rw [HN.out]; exact hlt
      obtain ⟨b, off, rfl, hbw, hall⟩ := HL.out.lk (by omega)
      have hbv := Nat.lt_of_lt_of_le hbw hDw
      obtain ⟨q0, q1⟩ := hall j hjl
      have q0 := (hb.cell hbv).trans q0
      have q1 := (hb.cell hbv).trans q1
      have htk := hasTake l x y hjl
      have hgd := hasGood (a := x) (b := y) hjl
      obtain ⟨⟨z1, z2⟩, hz⟩ : ∃ z, l.getD j (0, 0) = z := ⟨_, rfl⟩
      rw [hz] at q0 q1 htk hgd
      dsimp only at q0 q1 htk hgd
      clear hall hz
      rw [hno.out, Bool.false_or] at htk
      have HT := Lib.hid htk
      have HG := Lib.hid hgd
      clear htk hgd
      have hbz : b < wr.heap.size := Nat.lt_of_lt_of_le hbv hb.size
      go_wp2_with fail
      go_region
      obtain ⟨t, ht⟩ : ∃ t, (decide (x = z1) && decide (y = z2)) = t := ⟨_, rfl⟩
      rw [ht] at HT HG
      rw [ht]
      have HF := hb.drew
      have hY := hY.drew
      clear ht
      rcases t with _ | _
      · go_wp2
        exact ⟨⟨j + 1, by omega, by go_num, HF, hY, HT⟩, by simp [intOf]; omega⟩
      · have hG := Lib.hid (HG.out rfl)
        go_wp2
        go_ret
        exact ⟨_, rfl, .inl ⟨hG.out, by omega⟩, HF⟩
    · obtain rfl : j = n := by omega
      have hF : Hid (hasB l x y = false) := by
        have := hno.out
        rw [← HN.out, List.take_length] at this
        exact this
      go_wp2
      go_ret
      exact ⟨_, rfl, .inr ⟨hF.out, by omega⟩, hb⟩

theorem nContainsLk_any (l : List (Int × Int)) (x y : Int) (v : Value) (w : World) (D : Nat) (hDw : D ≤ w.heap.size) (hL : LksAt w D v l) :
    Calls Try.prog 71 #[v, pairV x y] w fun e w' => e = .returned (.bool (hasB l x y)) ∧ Below w.heap.size w w' := by
  obtain ⟨A, c, rfl, hm⟩ := hL.form
  obtain ⟨n, hnn⟩ : ∃ n, l.length = n := ⟨_, rfl⟩
  obtain ⟨t, ht⟩ : ∃ t, hasB l x y = t := ⟨_, rfl⟩
  have hB0 := (Below.refl w.heap.size w).alloc (Nat.le_refl _) (.cells #[.int .i64 x, .int .i64 y] 49)
  have hI := nIndexLk_any l x y _ _ D (Nat.le_trans hDw hB0.size) (hL.below (hB0.mono hDw))
  rw [hnn] at hI ⊢
  rw [ht] at hI ⊢
  have HI := Lib.hid hI
  clear hI ht hL
  go_enter Try.func71, Try.ntmps71
  go_wp2_with fail
  refine HI.out.mono ?_
  rintro e w1 ⟨z, rfl, hz, hb1⟩
  have hb1 := hB0.trans (hb1.mono hB0.size)
  rcases hz.out with ⟨rfl, h0⟩ | ⟨rfl, h0⟩
  · have _hd : decide (0 ≤ z) = true := decide_eq_true h0
    go_wp2
    go_ret
    exact ⟨rfl, hb1⟩
  · have _hd : decide (0 ≤ z) = false := decide_eq_false (by omega)
    go_wp2
    go_ret
    exact ⟨rfl, hb1⟩

end Go.Proofs.Ytmbifmmkccghfaa
