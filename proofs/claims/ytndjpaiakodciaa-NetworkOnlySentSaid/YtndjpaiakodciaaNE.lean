/-
  append on slices of packets and of pairs. No condition.
-/
import Derived.Test.YtndjpaiakodciaaND
namespace Go.Proofs.Ytndjpaiakodciaa
open Go.RowKit

theorem Box.keep {w w' : World} {b D : Nat} {xs : List Value} (h : Box w b xs) (hb : b < D) (hB : Below D w w') : Box w' b xs := h.same (hB.block b hb)
theorem info_pk : (Try.prog.info? 28).map (fun i => (i.zero, i.size, i.bytes)) = some (some (.agg #[.int .i64 0, .int .i64 0, .slice none 0 0]), 3, 40) := by kernel_rfl
theorem elem_pk : ∃ i, Elem 22 28 i (.agg #[.int .i64 0, .int .i64 0, .slice none 0 0]) 3 40 := by
  obtain ⟨i, hi, h0, h1, h2⟩ := info_parts info_pk
  exact ⟨i, Try.underlying22, hi, h0, h1, h2, rfl, by decide⟩
theorem info_lk : (Try.prog.info? 55).map (fun i => (i.zero, i.size, i.bytes)) = some (some (.agg #[.int .i64 0, .int .i64 0]), 2, 16) := by kernel_rfl
theorem elem_lk : ∃ i, Elem 23 55 i (.agg #[.int .i64 0, .int .i64 0]) 2 16 := by
  obtain ⟨i, hi, h0, h1, h2⟩ := info_parts info_lk
  exact ⟨i, Try.underlying23, hi, h0, h1, h2, rfl, by decide⟩
theorem Sl.congr {w : World} {B size n : Nat} {g h : Nat → Nat → Value} {v : Value} (hs : Sl w B size n g v) (he : ∀ i j, i < n → j < size → g i j = h i j) : Sl w B size n h v := by
  obtain ⟨A, c, hv, hm, h1⟩ := hs
  refine ⟨A, c, hv, hm, fun i hi => ?_⟩
  obtain ⟨b, off, ha, hb, h3⟩ := h1 i hi
  exact ⟨b, off, ha, hb, fun j hj => by rw [h3 j hj, he i j hi hj]⟩
theorem flat_congr {n size : Nat} {g h : Nat → Nat → Value} (hs : 0 < size) (he : ∀ i j, i < n → j < size → g i j = h i j) : flat n size g = flat n size h := by
  apply List.map_congr_left
  intro j hj
  have hj := List.mem_range.1 hj
  exact he _ _ ((Nat.div_lt_iff_lt_mul hs).2 hj) (Nat.mod_lt _ hs)
def catV (n : Nat) (V U : Nat → Value) : Nat → Value := fun i => if i < n then V i else U (i - n)
theorem pkCells_cat (q r : List Pk) (V U : Nat → Value) (i j : Nat) : cat q.length (pkCells q V) (pkCells r U) i j = pkCells (q ++ r) (catV q.length V U) i j := by
  unfold cat catV pkCells
  by_cases h : i < q.length
  · simp only [if_pos h, List.getD_eq_getElem?_getD, List.getElem?_append_left h]
  · simp only [if_neg h, List.getD_eq_getElem?_getD, List.getElem?_append_right (show q.length ≤ i by omega)]
theorem pkCells_one {q : List Pk} {V : Nat → Value} (hV : ∀ (i : Nat) (p : Pk), q[i]? = some p → ∃ w B, BytesAt w B (V i) p.data) {i j : Nat} (hi : i < q.length) : (pkCells q V i j).oneCell' = true := by
  unfold pkCells
  split
  · rfl
  · split
    · rfl
    · obtain ⟨w, B, h⟩ := hV i _ (List.getElem?_eq_getElem hi)
      obtain ⟨A, c, e, _⟩ := h.form
      rw [e]
      rfl
theorem bytes_cat {w : World} {B : Nat} {q r : List Pk} {V U : Nat → Value} (h1 : ∀ (i : Nat) (p : Pk), q[i]? = some p → BytesAt w B (V i) p.data) (h2 : ∀ (i : Nat) (p : Pk), r[i]? = some p → BytesAt w B (U i) p.data) :
    ∀ (i : Nat) (p : Pk), (q ++ r)[i]? = some p → BytesAt w B (catV q.length V U i) p.data := by
  intro i p hp
  unfold catV
  by_cases h : i < q.length
  · rw [if_pos h]
    exact h1 i p (by rw [List.getElem?_append_left h] at hp; exact hp)
  · rw [if_neg h]
    exact h2 _ p (by rw [List.getElem?_append_right (by omega)] at hp; exact hp)

/-- A slice of packets below block B, whose data lie below block D. -/
def PksIn (w : World) (B D : Nat) (v : Value) (q : List Pk) : Prop :=
  SlF v ∧ ∃ V : Nat → Value, Sl w B 3 q.length (pkCells q V) v ∧ ∀ (i : Nat) (p : Pk), q[i]? = some p → BytesAt w D (V i) p.data
theorem PksAt.within {w : World} {B B' : Nat} {v : Value} {q : List Pk} (h : PksAt w B v q) (hB : B ≤ B') : PksIn w B' B v q := by
  obtain ⟨f, V, s, b⟩ := h
  exact ⟨f, V, s.more hB, b⟩
theorem PksIn.at {w : World} {B D : Nat} {v : Value} {q : List Pk} (h : PksIn w B D v q) (hD : D ≤ B) : PksAt w B v q := by
  obtain ⟨f, V, s, b⟩ := h
  exact ⟨f, V, s, fun i p hp => (b i p hp).more hD⟩
theorem pksIn_one {w : World} {b D : Nat} {p : Pk} {V : Value} (hX : Box w b [.int .i64 p.src, .int .i64 p.dst, V]) (hV : BytesAt w D V p.data) : PksIn w w.heap.size D (.slice (some ⟨b, 0, none⟩) 1 1) [p] := by
  refine ⟨.inr ⟨_, _, _, rfl, Nat.le_refl _, by simp [maxLen]⟩, fun _ => V, ⟨_, _, rfl, by simp [maxLen], fun i hi => ⟨b, 0, rfl, hX.lt, fun j hj => ?_⟩⟩, fun i x hx => ?_⟩
  · obtain rfl : i = 0 := by simpa using hi
    rcases (show j = 0 ∨ j = 1 ∨ j = 2 by omega) with rfl | rfl | rfl
    · exact hX.cell 0
    · exact hX.cell 1
    · exact hX.cell 2
  · rcases i with _ | i
    · obtain rfl : p = x := by simpa using hx
      exact hV
    · simp at hx
/-- A slice of packets in blocks below D or from base on, whose data lie below D. -/
def Pks2 (w : World) (D base : Nat) (v : Value) (q : List Pk) : Prop :=
  SlF v ∧ ∃ V : Nat → Value, Sl2 w D base 3 q.length (pkCells q V) v ∧ ∀ (i : Nat) (p : Pk), q[i]? = some p → BytesAt w D (V i) p.data
theorem Pks2.at {w : World} {D base : Nat} {v : Value} {q : List Pk} (h : Pks2 w D base v q) (hD : D ≤ w.heap.size) : PksAt w w.heap.size v q := by
  obtain ⟨f, V, s, b⟩ := h
  exact ⟨f, V, s.sl, fun i p hp => (b i p hp).more hD⟩
theorem Pks2.set {w : World} {D base : Nat} {v : Value} {q : List Pk} (h : Pks2 w D base v q) {a : Addr} (h1 : D ≤ a.block) (h2 : a.block < base) (u : Value) : Pks2 (w.setCell a u) D base v q := by
  obtain ⟨f, V, s, b⟩ := h
  exact ⟨f, V, s.set h1 h2 u, fun i p hp => (b i p hp).below ((Below.refl D w).setCell h1 u)⟩
theorem Pks2.form {w : World} {D base : Nat} {v : Value} {q : List Pk} (h : Pks2 w D base v q) : ∃ A c, v = .slice A q.length c := by
  obtain ⟨_, _, ⟨A, c, hv, _⟩, _⟩ := h
  exact ⟨A, c, hv⟩
/-- append of packets where there is no room, or nothing to append. -/
theorem run_app_pk (ty : TypeId) {w : World} {D : Nat} {A : Option Addr} {n cap : Nat} {q r : List Pk} {x : Value} (hq : PksAt w D (.slice A n cap) q) (hr : PksIn w w.heap.size D x r) (hD : D ≤ w.heap.size) (hcap : cap < q.length + r.length ∨ r.length = 0) (hsz : q.length + r.length ≤ 1048576) :
    ∃ A' n' c' w', (Builtin.append_ #[22, 22] ty #[.slice A n cap, x]).run Try.prog w = .ok (.slice A' n' c') w' ∧ Pks2 w' D w.heap.size (.slice A' n' c') (q ++ r) ∧ Below w.heap.size w w' := by
  obtain ⟨i, E⟩ := elem_pk
  obtain ⟨_, _, hv, _⟩ := hq.form
  obtain ⟨f1, V, s1, b1⟩ := hq
  obtain ⟨f2, U, s2, b2⟩ := hr
  have hn : n = q.length := by injection hv
  subst hn
  obtain ⟨v', w', hrun, s3, f3, hb⟩ := run_app E ty s1 hD f1 s2 f2 (fun k j hk _ => pkCells_one (fun i p hp => ⟨_, _, b2 i p hp⟩) hk) hcap (by simp only [maxLen]; omega) (by omega)
  have key : Pks2 w' D w.heap.size v' (q ++ r) := by
    refine ⟨f3, catV q.length V U, ?_, fun k p hp => (bytes_cat b1 b2 k p hp).below (hb.mono hD)⟩
    rw [List.length_append]
    obtain ⟨A2, c2, e1, e2, e3⟩ := s3
    refine ⟨A2, c2, e1, e2, fun i hi => ?_⟩
    obtain ⟨b, off, e4, e5, e6, e7⟩ := e3 i hi
    exact ⟨b, off, e4, e5, e6, fun j hj => by rw [e7 j hj, pkCells_cat]⟩
  obtain ⟨A', c', rfl⟩ := key.form
  exact ⟨_, _, _, w', hrun, key, hb⟩
/-- v is a slice of packets that owns its row; their data lie below block D. -/
def OwnPk (w : World) (base D : Nat) (v : Value) (q : List Pk) : Prop :=
  ∃ V : Nat → Value, w.ownsRow base 28 3 v q.length (flat q.length 3 (pkCells q V)) ∧ ∀ (i : Nat) (p : Pk), q[i]? = some p → BytesAt w D (V i) p.data
theorem OwnPk.two {w : World} {base D : Nat} {v : Value} {q : List Pk} (h : OwnPk w base D v q) (hn : q.length ≤ maxLen) : Pks2 w D base v q := by
  obtain ⟨V, h1, h2⟩ := h
  obtain ⟨s, f⟩ := own_sl2 (D := D) h1 hn
  exact ⟨f, V, s, h2⟩
theorem OwnPk.form {w : World} {base D : Nat} {v : Value} {q : List Pk} (h : OwnPk w base D v q) : ∃ A n c, v = .slice A n c := by
  obtain ⟨V, h1, _⟩ := h
  rcases h1.2 with ⟨rfl, _⟩ | ⟨g, cap, cur, rfl, _⟩
  · exact ⟨_, _, _, rfl⟩
  · exact ⟨_, _, _, rfl⟩
theorem OwnPk.alloc {w : World} {base D : Nat} {v : Value} {q : List Pk} (h : OwnPk w base D v q) (hD : D ≤ w.heap.size) (o : Obj) : OwnPk (w.alloc o) base D v q := by
  obtain ⟨V, h1, h2⟩ := h
  exact ⟨V, h1.alloc o, fun i p hp => (h2 i p hp).below ((Below.refl D w).alloc hD o)⟩
theorem run_own_pk (ty : TypeId) {w : World} {base D : Nat} {v x : Value} {q r : List Pk} (hq : OwnPk w base D v q) (hr : PksIn w w.heap.size D x r) (hDb : D ≤ base) (hbase : base ≤ w.heap.size) (hsz : q.length + r.length ≤ 1048576) :
    ∃ v' w', (Builtin.append_ #[22, 22] ty #[v, x]).run Try.prog w = .ok v' w' ∧ OwnPk w' base D v' (q ++ r) ∧ Below base w w' ∧ w.grownBy w' v.ownBlock := by
  obtain ⟨i, E⟩ := elem_pk
  obtain ⟨V, o1, b1⟩ := hq
  obtain ⟨f2, U, s2, b2⟩ := hr
  have hrow := o1.lt
  obtain ⟨v', w', hrun, o3, hg⟩ := run_app_own E ty o1 s2 f2 (fun k j hk _ => pkCells_one (fun i p hp => ⟨_, _, b2 i p hp⟩) hk) (by simp only [maxLen]; omega) (by omega) hbase
  have hb : Below base w w' := (Below.refl base w).grown hg hbase (fun k hk => (hrow k hk).1)
  refine ⟨v', w', hrun, ⟨catV q.length V U, ?_, fun k p hp => (bytes_cat b1 b2 k p hp).below (hb.mono hDb)⟩, hb, hg⟩
  rw [flat_congr (by decide) (fun i j _ _ => pkCells_cat q r V U i j)] at o3
  rw [List.length_append]
  exact o3

/-- Pairs. -/
theorem lkCells_cat (q r : List (Int × Int)) (i j : Nat) : cat q.length (lkCells q) (lkCells r) i j = lkCells (q ++ r) i j := by
  unfold cat lkCells
  by_cases h : i < q.length
  · simp only [if_pos h, List.getD_eq_getElem?_getD, List.getElem?_append_left h]
  · simp only [if_neg h, List.getD_eq_getElem?_getD, List.getElem?_append_right (show q.length ≤ i by omega)]
theorem lkCells_one (q : List (Int × Int)) (i j : Nat) : (lkCells q i j).oneCell' = true := by
  unfold lkCells
  split <;> rfl
/-- v is a slice of pairs that owns its row. -/
def OwnLk (w : World) (base : Nat) (v : Value) (l : List (Int × Int)) : Prop := w.ownsRow base 55 2 v l.length (flat l.length 2 (lkCells l))
theorem ownLk_nil (w : World) (base : Nat) : OwnLk w base (.slice none 0 0) [] := ⟨by simp [flat], .inl ⟨rfl, rfl⟩⟩
theorem OwnLk.lks {w : World} {base : Nat} {v : Value} {l : List (Int × Int)} (h : OwnLk w base v l) (hn : l.length ≤ maxLen) : LksAt w w.heap.size v l := by
  obtain ⟨s, f⟩ := own_sl h hn
  exact ⟨f, s⟩
theorem run_own_lk (ty : TypeId) {w : World} {base b : Nat} {v : Value} {l : List (Int × Int)} {x y : Int} (hl : OwnLk w base v l) (hX : Box w b [.int .i64 x, .int .i64 y]) (hbase : base ≤ w.heap.size) (hsz : l.length + 1 ≤ 1048576) :
    ∃ v' w', (Builtin.append_ #[23, 23] ty #[v, .slice (some ⟨b, 0, none⟩) 1 1]).run Try.prog w = .ok v' w' ∧ OwnLk w' base v' (l ++ [(x, y)]) ∧ Below base w w' ∧ w.grownBy w' v.ownBlock := by
  obtain ⟨i, E⟩ := elem_lk
  have hrow := World.ownsRow.lt hl
  have hs : Sl w w.heap.size 2 [(x, y)].length (lkCells [(x, y)]) (.slice (some ⟨b, 0, none⟩) 1 1) := by
    refine ⟨_, _, rfl, by simp [maxLen], fun i hi => ⟨b, 0, rfl, hX.lt, fun j hj => ?_⟩⟩
    obtain rfl : i = 0 := by simpa using hi
    rcases (show j = 0 ∨ j = 1 by omega) with rfl | rfl
    · exact hX.cell 0
    · exact hX.cell 1
  obtain ⟨v', w', hrun, o3, hg⟩ := run_app_own E ty hl hs (.inr ⟨_, _, _, rfl, Nat.le_refl _, by simp [maxLen]⟩) (fun k j _ _ => lkCells_one _ k j) (by simp only [maxLen, List.length_cons, List.length_nil]; omega) (by simp only [List.length_cons, List.length_nil]; omega) hbase
  refine ⟨v', w', hrun, ?_, (Below.refl base w).grown hg hbase (fun k hk => (hrow k hk).1), hg⟩
  rw [flat_congr (by decide) (fun i j _ _ => lkCells_cat l [(x, y)] i j)] at o3
  unfold OwnLk
  rw [List.length_append]
  exact o3

/-- Results: slices in blocks below D or from base on. -/
theorem Sl2.lower {w : World} {D base base' size n : Nat} {g : Nat → Nat → Value} {v : Value} (h : Sl2 w D base size n g v) (hb : base' ≤ base) : Sl2 w D base' size n g v := by
  obtain ⟨A, c, hv, hm, h1⟩ := h
  refine ⟨A, c, hv, hm, fun i hi => ?_⟩
  obtain ⟨b, off, ha, hb1, hl, h3⟩ := h1 i hi
  exact ⟨b, off, ha, by omega, hl, h3⟩
theorem Pks2.lower {w : World} {D base base' : Nat} {v : Value} {q : List Pk} (h : Pks2 w D base v q) (hb : base' ≤ base) : Pks2 w D base' v q := by
  obtain ⟨f, V, s, b⟩ := h
  exact ⟨f, V, s.lower hb, b⟩
theorem Pks2.later {w w' : World} {D base : Nat} {v : Value} {q : List Pk} (h : Pks2 w D base v q) (hD : D ≤ w.heap.size) (hb : Below w.heap.size w w') : Pks2 w' D base v q := by
  obtain ⟨f, V, s, b⟩ := h
  exact ⟨f, V, s.later hb, fun i p hp => (b i p hp).below (hb.mono hD)⟩
theorem PksAt.two {w : World} {D base : Nat} {v : Value} {q : List Pk} (h : PksAt w D v q) (hD : D ≤ w.heap.size) : Pks2 w D base v q := by
  obtain ⟨f, V, s, b⟩ := h
  exact ⟨f, V, s.sl2 hD, b⟩
def Lks2 (w : World) (D base : Nat) (v : Value) (l : List (Int × Int)) : Prop := SlF v ∧ Sl2 w D base 2 l.length (lkCells l) v
theorem LksAt.two {w : World} {D base : Nat} {v : Value} {l : List (Int × Int)} (h : LksAt w D v l) (hD : D ≤ w.heap.size) : Lks2 w D base v l := ⟨h.1, h.2.sl2 hD⟩
theorem OwnLk.two {w : World} {base D : Nat} {v : Value} {l : List (Int × Int)} (h : OwnLk w base v l) (hn : l.length ≤ maxLen) : Lks2 w D base v l := by
  obtain ⟨s, f⟩ := own_sl2 (D := D) h hn
  exact ⟨f, s⟩
theorem BytesAt.set1 {w : World} {D : Nat} {v : Value} {l : List UInt8} (h : BytesAt w D v l) {a : Addr} (h1 : D ≤ a.block) (u : Value) : BytesAt (w.setCell a u) D v l := h.below ((Below.refl D w).setCell h1 u)
/-- The two slices of a result that is a net. -/
structure Net2 (w : World) (D base : Nat) (Vq Va : Value) (n : Net) : Prop where
  queue : Pks2 w D base Vq n.queue
  apart : Lks2 w D base Va n.apart
theorem Net2.set {w : World} {D base : Nat} {Vq Va : Value} {n : Net} (h : Net2 w D base Vq Va n) {a : Addr} (h1 : D ≤ a.block) (h2 : a.block < base) (u : Value) : Net2 (w.setCell a u) D base Vq Va n := ⟨h.queue.set h1 h2 u, h.apart.1, h.apart.2.set h1 h2 u⟩
theorem Net2.later {w w' : World} {D base : Nat} {Vq Va : Value} {n : Net} (h : Net2 w D base Vq Va n) (hD : D ≤ w.heap.size) (hb : Below w.heap.size w w') : Net2 w' D base Vq Va n := ⟨h.queue.later hD hb, h.apart.1, h.apart.2.later hb⟩
theorem Net2.lower {w : World} {D base base' : Nat} {Vq Va : Value} {n : Net} (h : Net2 w D base Vq Va n) (hb : base' ≤ base) : Net2 w D base' Vq Va n := ⟨h.queue.lower hb, h.apart.1, h.apart.2.lower hb⟩
theorem Net2.at {w : World} {D base : Nat} {Vq Va : Value} {n : Net} (h : Net2 w D base Vq Va n) (hD : D ≤ w.heap.size) : NetAt w w.heap.size Vq Va n := ⟨h.queue.at hD, h.apart.1, h.apart.2.sl⟩
theorem NetAt.two {w : World} {D base : Nat} {Vq Va : Value} {n : Net} (h : NetAt w D Vq Va n) (hD : D ≤ w.heap.size) : Net2 w D base Vq Va n := ⟨h.queue.two hD, h.apart.two hD⟩
theorem net2_zero (w : World) (D base : Nat) : Net2 w D base (.slice none 0 0) (.slice none 0 0) Net.zero := ⟨⟨.inl rfl, fun _ => undef, ⟨none, 0, rfl, Nat.zero_le _, fun i hi => by simp [Net.zero] at hi⟩, fun i l hl => by simp [Net.zero] at hl⟩, .inl rfl, none, 0, rfl, Nat.zero_le _, fun i hi => by simp [Net.zero] at hi⟩

end Go.Proofs.Ytndjpaiakodciaa
