/- Rows of steps that a law builds by append. No condition. -/
import Derived.Test.YtcjcjkomcolgeaaQEI
import Derived.Test.YtcjcjkomcolgeaaQDX
set_option linter.unusedVariables false
set_option linter.unusedSimpArgs false
namespace Go.Proofs.Ytcjcjkomcolgeaa
open Go.RowKit

theorem elem_step : ∃ i, Elem 33 44 i (.agg #[.int .i64 0, .slice none 0 0, .slice none 0 0]) 3 56 := by
  obtain ⟨i, h1, h2, h3, h4⟩ := info_parts (show (Try.prog.info? 44).map (fun i => (i.zero, i.size, i.bytes)) = some (some (.agg #[.int .i64 0, .slice none 0 0, .slice none 0 0]), 3, 56) by kernel_rfl)
  exact ⟨i, Try.underlying33, h1, h2, h3, h4, by decide, by decide⟩
theorem OwnE.less {α : Type} {enc : α → List Value} {size base base' e : Nat} {w : World} {V : Value} {l : List α} (h : OwnE enc size w base e V l) (hb : base' ≤ base) : OwnE enc size w base' e V l := by
  refine ⟨h.1, ?_⟩
  rcases h.2 with hn | ⟨b, cap, cur, hv, h1, h2⟩
  · exact .inl hn
  · exact .inr ⟨b, cap, cur, hv, Nat.le_trans hb h1, h2⟩
theorem OwnE.intL {w : World} {base : Nat} {V : Value} {l : List Int} (h : OwnI w base V l) (hl : l.length ≤ maxLen) : IntL w w.heap.size V l := by
  obtain ⟨A, c, hv, hc⟩ := OwnE.sl h (fun _ => rfl)
  refine ⟨A, c, hv, hl, fun k hk => ?_⟩
  obtain ⟨b, rfl, _, hb, h2⟩ := hc k hk
  refine ⟨b, 0, rfl, hb, fun j hj => ?_⟩
  obtain rfl : j = 0 := by omega
  rw [Nat.zero_add, h2 0 (by omega)]
  simp [encI, hk]
theorem OwnE.boolL {w : World} {base : Nat} {V : Value} {l : List Bool} (h : OwnB w base V l) (hl : l.length ≤ maxLen) : BoolL w w.heap.size V l := by
  obtain ⟨A, c, hv, hc⟩ := OwnE.sl h (fun _ => rfl)
  refine ⟨A, c, hv, hl, fun k hk => ?_⟩
  obtain ⟨b, rfl, _, hb, h2⟩ := hc k hk
  refine ⟨b, 0, rfl, hb, fun j hj => ?_⟩
  obtain rfl : j = 0 := by omega
  rw [Nat.zero_add, h2 0 (by omega)]
  simp [encB, hk]
structure Sq where
  m : Value
  k : Value
  s : Sp
abbrev encS (q : Sq) : List Value := [.int .i64 q.s.feed, q.m, q.k]
structure Row (w : World) (base : Nat) (V : Value) (l : List Sq) : Prop where
  own : OwnE encS 3 w base 44 V l
  msg : ∀ q ∈ l, OwnI w base q.m q.s.msgs ∧ OwnB w base q.k q.s.stuck
  farm : ∀ q ∈ l, ∀ b, q.m.ownBlock = some b → V.ownBlock ≠ some b
  fark : ∀ q ∈ l, ∀ b, q.k.ownBlock = some b → V.ownBlock ≠ some b
theorem Row.nil (w : World) (base : Nat) : Row w base (.slice none 0 0) [] := ⟨ownE_nil _ _ _ _ _, by simp, by simp, by simp⟩
theorem Row.later {w w' : World} {base : Nat} {V : Value} {l : List Sq} (h : Row w base V l) (hb : Below w.heap.size w w') : Row w' base V l :=
  ⟨h.own.later hb, fun q hq => ⟨(h.msg q hq).1.later hb, (h.msg q hq).2.later hb⟩, h.farm, h.fark⟩
theorem own_one {α : Type} {enc : α → List Value} {size base e : Nat} {w : World} {V : Value} {l : List α} (h : OwnE enc size w base e V l) : V.oneCell' = true := by
  obtain ⟨A, c, rfl⟩ := ownE_shape h
  rfl
theorem Row.step {w : World} {base : Nat} {V : Value} {l : List Sq} (h : Row w base V l) (q : Sq) (hq : OwnI w base q.m q.s.msgs ∧ OwnB w base q.k q.s.stuck) (hqm : ∀ b, q.m.ownBlock = some b → V.ownBlock ≠ some b) (hqk : ∀ b, q.k.ownBlock = some b → V.ownBlock ≠ some b) {g : Nat} (ty : TypeId) (hx : Box w g (encS q)) (hbase : base ≤ w.heap.size) (hl : l.length ≤ 1024) :
    ∃ g' c' w', (appF #[33, 33] ty #[V, .slice (some ⟨g, 0, none⟩) 1 1]).run Try.prog w = .ok (.slice (some ⟨g', 0, none⟩) (l.length + 1) c') w' ∧ Row w' base (.slice (some ⟨g', 0, none⟩) (l.length + 1) c') (l ++ [q]) ∧
      w.heap.size ≤ w'.heap.size ∧ (∀ b xs, Box w b xs → (∀ c, V.ownBlock = some c → c ≠ b) → Box w' b xs) ∧ ∀ B a, Below B a w → B ≤ base → Below B a w' := by
  obtain ⟨i, E⟩ := elem_step
  obtain ⟨v', w', hr, h3, h2, _, h4⟩ := run_append_own_at (P := Try.prog) w base _ ty _ i _ 3 56 E.ht E.hi E.hz E.hsize E.hby E.hzs E.hsz _ _ _ h.own ⟨g, 0, none⟩ 1 1 (encS q) rfl
    (fun j u hu => by
      rw [add_at, Nat.zero_add, hx.cell j]
      exact hu)
    (fun u hu => by
      simp only [encS, List.mem_cons, List.not_mem_nil, or_false] at hu
      rcases hu with rfl | rfl | rfl
      · rfl
      · exact own_one hq.1
      · exact own_one hq.2) (by simp only [maxLen]; omega) (by omega) hbase
  have h5 := h3.2
  rcases h5 with ⟨_, h6⟩ | ⟨g', cap, cur, hv, _⟩
  · omega
  · subst hv
    have key : ∀ u : Sq, (OwnI w base u.m u.s.msgs ∧ OwnB w base u.k u.s.stuck) → (∀ b, u.m.ownBlock = some b → V.ownBlock ≠ some b) → (∀ b, u.k.ownBlock = some b → V.ownBlock ≠ some b) →
        (OwnI w' base u.m u.s.msgs ∧ OwnB w' base u.k u.s.stuck) ∧ (∀ b, u.m.ownBlock = some b → some g' ≠ some b) ∧ (∀ b, u.k.ownBlock = some b → some g' ≠ some b) := by
      intro u hu hm hk
      refine ⟨⟨hu.1.other h2 hm, hu.2.other h2 hk⟩, fun b hb he => ?_, fun b hb he => ?_⟩
      · have := hu.1.block_lt hb
        rcases h4 with h4 | h4
        · exact hm b hb (h4.symm.trans he)
        · have e := h4.symm.trans he
          have : w.heap.size = b := by simpa using e
          omega
      · have := hu.2.block_lt hb
        rcases h4 with h4 | h4
        · exact hk b hb (h4.symm.trans he)
        · have e := h4.symm.trans he
          have : w.heap.size = b := by simpa using e
          omega
    refine ⟨g', cap, w', hr, ⟨?_, fun u hu => ?_, fun u hu => ?_, fun u hu => ?_⟩, h2.size, fun b xs hbx hne => ?_, fun B a hB hBb => ?_⟩
    · rw [OwnE, List.length_append, List.flatMap_append]
      simpa using h3
    · rcases List.mem_append.1 hu with hu | hu
      · exact (key u (h.msg u hu) (h.farm u hu) (h.fark u hu)).1
      · obtain rfl := List.mem_singleton.1 hu
        exact (key _ hq hqm hqk).1
    · rcases List.mem_append.1 hu with hu | hu
      · exact (key u (h.msg u hu) (h.farm u hu) (h.fark u hu)).2.1
      · obtain rfl := List.mem_singleton.1 hu
        exact (key _ hq hqm hqk).2.1
    · rcases List.mem_append.1 hu with hu | hu
      · exact (key u (h.msg u hu) (h.farm u hu) (h.fark u hu)).2.2
      · obtain rfl := List.mem_singleton.1 hu
        exact (key _ hq hqm hqk).2.2
    · obtain ⟨t, ht⟩ := hbx
      exact ⟨t, (h2.block b (Array.getElem?_eq_some_iff.1 ht).1 (fun e => hne b e.symm rfl)).trans ht⟩
    · exact hB.grown h2 (Nat.le_trans hBb hbase) (fun k hk => by have := h.own.block_ge hk; omega)
theorem Row.steps {w : World} {base : Nat} {V : Value} {l : List Sq} (h : Row w base V l) (hl : l.length ≤ maxLen) (hm : ∀ q ∈ l, q.s.msgs.length ≤ maxLen ∧ q.s.stuck.length ≤ maxLen) : StepsAt w w.heap.size V (l.map (·.s)) := by
  obtain ⟨A, c, hv, hc⟩ := h.own.sl (fun _ => rfl)
  refine ⟨fun i => (l.getD i ⟨undef, undef, Sp.zero⟩).m, fun i => (l.getD i ⟨undef, undef, Sp.zero⟩).k, ⟨A, c, by rw [hv, List.length_map], by rw [List.length_map]; exact hl, fun k hk => ?_⟩, fun i s hs => ?_⟩
  · have hk : k < l.length := by simpa using hk
    obtain ⟨b, rfl, _, hb, h2⟩ := hc k hk
    refine ⟨b, 0, rfl, hb, fun j hj => ?_⟩
    rw [Nat.zero_add, h2 j hj]
    dsimp only
    rw [getD_at (show k < (l.map (·.s)).length by simpa using hk), getD_at hk]
    rcases (show j = 0 ∨ j = 1 ∨ j = 2 by omega) with rfl | rfl | rfl <;> simp
  · rw [List.getElem?_map] at hs
    cases hq : l[i]? with
    | none => rw [hq] at hs; cases hs
    | some q =>
      rw [hq] at hs
      obtain rfl : q.s = s := by simpa using hs
      have hmem : q ∈ l := List.mem_of_getElem? hq
      dsimp only
      rw [List.getD_eq_getElem?_getD, hq]
      exact ⟨(h.msg q hmem).1.intL (hm q hmem).1, (h.msg q hmem).2.boolL (hm q hmem).2⟩
end Go.Proofs.Ytcjcjkomcolgeaa

/-
  Play where nothing fails; rows of steps under stores; what the laws' hours come to. No condition.
-/
namespace Go.Proofs.Ytcjcjkomcolgeaa
open Go.RowKit

theorem Row.set {w : World} {base : Nat} {V : Value} {l : List Sq} (h : Row w base V l) {a : Addr} (ha : a.block < base) (u : Value) : Row (w.setCell a u) base V l :=
  ⟨h.own.set ha u, fun q hq => ⟨(h.msg q hq).1.set ha u, (h.msg q hq).2.set ha u⟩, h.farm, h.fark⟩
theorem row_steps {x : Cs} {n : Nat} {w : World} {base : Nat} {V : Value} {L : List Sq} {l : List Hr} (h : Row w base V L) (hL : L.map (·.s) = l.map x.stepT) (hn : x.plants.length = n) (h8 : n ≤ 8) (hl : l.length ≤ 24) : StepsAt w w.heap.size V (l.map x.stepT) := by
  have hlen : L.length = l.length := by simpa using congrArg List.length hL
  rw [← hL]
  refine h.steps (by simp only [maxLen]; omega) fun q hq => ?_
  have : q.s ∈ l.map x.stepT := by rw [← hL]; exact List.mem_map_of_mem hq
  obtain ⟨u, _, hu⟩ := List.mem_map.1 this
  rw [← hu]
  simp only [Cs.stepT, List.length_map, List.length_range, hn, maxLen]
  omega
theorem take_snoc_map {α β : Type} {f : α → β} {l : List α} {i : Nat} (hi : i < l.length) : (l.take (i + 1)).map f = (l.take i).map f ++ [f l[i]] := by
  rw [List.take_succ_eq_append_getElem hi, List.map_append]
  rfl
theorem Two.row {w : World} {base B : Nat} {V M K : Value} {l : List Sq} {s : Sp} (_h : Row w base V l) (hT : Two w B M K s.msgs s.stuck) (hB : base ≤ B) (hV : ∀ b, V.ownBlock = some b → b < B) :
    (OwnI w base M s.msgs ∧ OwnB w base K s.stuck) ∧ (∀ b, M.ownBlock = some b → V.ownBlock ≠ some b) ∧ (∀ b, K.ownBlock = some b → V.ownBlock ≠ some b) :=
  ⟨⟨hT.m.less hB, hT.k.less hB⟩, fun b hb hv => by have := hT.m.block_ge hb; have := hV b hv; omega, fun b hb hv => by have := hT.k.block_ge hb; have := hV b hv; omega⟩
end Go.Proofs.Ytcjcjkomcolgeaa
