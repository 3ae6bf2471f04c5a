/- The first gates of a cascade, as the law's file takes them. No condition. -/
import Derived.Test.YtcjcjkomcolgeaaQEM
import Derived.Test.YtcjcjkomcolgeaaQY
set_option linter.unusedVariables false
set_option linter.unusedSimpArgs false
namespace Go.Proofs.Ytcjcjkomcolgeaa
open Go.RowKit

end Go.Proofs.Ytcjcjkomcolgeaa

/-
  Arguments of chapter 35's laws opened: a cascade with its slices' capacities. No condition.
-/
namespace Go.Proofs.Ytcjcjkomcolgeaa
open Go.ChangeShapes Go.WideShapes Go.ChangeAt Go.RowKit Go.Joins Go.Deep

section
variable {H : Type} {enc : TypeId × Value → H} {w : World} {base : Nat} {spare : Nat → Bool} {held : Bool}
end
end Go.Proofs.Ytcjcjkomcolgeaa

/-
  Two rows of steps side by side, the one of the other's first gates. No condition.
-/
namespace Go.Proofs.Ytcjcjkomcolgeaa
open Go.RowKit

theorem flatMap_take {α : Type} {enc : α → List Value} {size : Nat} (hs : ∀ x, (enc x).length = size) : ∀ (l : List α) (m : Nat), (l.take m).flatMap enc = (l.flatMap enc).take (m * size)
  | [], m => by simp
  | a :: l, 0 => by simp
  | a :: l, m + 1 => by
    rw [List.take_succ_cons, List.flatMap_cons, List.flatMap_cons, flatMap_take hs l m, List.take_append, hs]
    have e1 : (m + 1) * size - size = m * size := by rw [Nat.add_mul, Nat.one_mul, Nat.add_sub_cancel]
    rw [e1, List.take_of_length_le (l := enc a) (by rw [hs, Nat.add_mul, Nat.one_mul]; omega)]
theorem OwnE.pre {α : Type} {enc : α → List Value} {size base e : Nat} {w : World} {A : Option Addr} {n c : Nat} {l : List α} (hs : ∀ x, (enc x).length = size) (h : OwnE enc size w base e (.slice A n c) l) {m : Nat} (hm : 0 < m) (hn : m ≤ l.length) : OwnE enc size w base e (.slice A m c) (l.take m) := by
  have hlen : (l.take m).length = m := by rw [List.length_take]; omega
  have hxs := h.1
  rcases h.2 with ⟨_, h0⟩ | ⟨g, cap, cur, hv, hb, hg, hcap, hcm, hsz, htk⟩
  · omega
  · cases hv
    have hf := flatMap_take hs l m
    refine ⟨?_, .inr ⟨g, c, cur, by rw [hlen], hb, hg, by omega, hcm, hsz, ?_⟩⟩
    · rw [hf, List.length_take, hxs, hlen]
      have := Nat.mul_le_mul_right size hn
      omega
    · rw [hf, hlen, ← htk, List.take_take]
      have := Nat.mul_le_mul_right size hn
      rw [Nat.min_eq_left this]
theorem OwnE.cap {α : Type} {enc : α → List Value} {size base e : Nat} {w : World} {V : Value} {l : List α} (h : OwnE enc size w base e V l) (hl : 0 < l.length) : ∃ b c, V = .slice (some ⟨b, 0, none⟩) l.length c ∧ l.length ≤ c := by
  rcases h.2 with ⟨_, h0⟩ | ⟨g, cap, cur, hv, hb, hg, hcap, hcm, hsz, htk⟩
  · omega
  · exact ⟨g, cap, hv, hcap⟩
def PlayAny (sts : List St) (ns : Nat) (bad er : Int) (w : World) (e : Ending) (w' : World) : Prop := ∃ A c, e = .returned (.tuple #[.slice A ns c, .int .i64 bad, .int .i64 er]) ∧ ns ≤ c ∧ StsAt w' w'.heap.size (.slice A ns c) sts ∧ Below w.heap.size w w'
theorem play_any {x : Cs} {l : List Sp} {Vp Vc Vb Vl : Value} {w : World} {sts : List St} {ns : Nat} {bad er : Int} (hT : Hid (x.playT l = (sts, bad, er))) (hn : Hid (sts.length = ns)) (hx : CsAt w w.heap.size Vp Vc Vb x) (hl : StepsAt w w.heap.size Vl l) : Calls Try.prog 15 #[.agg #[Vp, Vc, Vb], Vl] w (PlayAny sts ns bad er w) := by
  refine (mPlay_is hT hx hl).mono ?_
  rintro e w' ⟨A, c, rfl, h1, h2, h3⟩
  obtain rfl := hn.out
  exact ⟨A, c, rfl, h1, h2, h3⟩
def Sq.has (q : Sq) (b : Nat) : Prop := q.m.ownBlock = some b ∨ q.k.ownBlock = some b
theorem Row.other {w w' : World} {base : Nat} {V : Value} {l : List Sq} {r : Option Nat} (h : Row w base V l) (hg : w.grownBy w' r) (hV : ∀ b, V.ownBlock = some b → r ≠ some b) (hq : ∀ q ∈ l, ∀ b, q.has b → r ≠ some b) : Row w' base V l :=
  ⟨h.own.other hg hV, fun q hm => ⟨(h.msg q hm).1.other hg fun b hb => hq q hm b (.inl hb), (h.msg q hm).2.other hg fun b hb => hq q hm b (.inr hb)⟩, h.farm, h.fark⟩
structure Pair (w : World) (base : Nat) (V U : Value) (l k : List Sq) : Prop where
  a : Row w base V l
  b : Row w base U k
  far : ∀ c, V.ownBlock = some c → U.ownBlock ≠ some c
  ab : ∀ q ∈ k, ∀ c, q.has c → V.ownBlock ≠ some c
  ba : ∀ q ∈ l, ∀ c, q.has c → U.ownBlock ≠ some c
theorem Pair.symm {w : World} {base : Nat} {V U : Value} {l k : List Sq} (h : Pair w base V U l k) : Pair w base U V k l :=
  ⟨h.b, h.a, fun c h1 h2 => h.far c h2 h1, h.ba, h.ab⟩
theorem Pair.nil (w : World) (base : Nat) : Pair w base (.slice none 0 0) (.slice none 0 0) [] [] := ⟨Row.nil _ _, Row.nil _ _, fun _ h => (by cases h), by simp, by simp⟩
theorem Pair.later {w w' : World} {base : Nat} {V U : Value} {l k : List Sq} (h : Pair w base V U l k) (hb : Below w.heap.size w w') : Pair w' base V U l k := ⟨h.a.later hb, h.b.later hb, h.far, h.ab, h.ba⟩
theorem Row.has_lt {w : World} {base : Nat} {V : Value} {l : List Sq} (h : Row w base V l) {q : Sq} (hq : q ∈ l) {c : Nat} (hc : q.has c) : c < w.heap.size := by
  rcases hc with hc | hc
  · exact (h.msg q hq).1.block_lt hc
  · exact (h.msg q hq).2.block_lt hc
theorem Pair.step {w : World} {base : Nat} {V U : Value} {l k : List Sq} (h : Pair w base V U l k) (q : Sq) (hq : OwnI w base q.m q.s.msgs ∧ OwnB w base q.k q.s.stuck) (hqV : ∀ b, q.has b → V.ownBlock ≠ some b) (hqU : ∀ b, q.has b → U.ownBlock ≠ some b) {g : Nat} (ty : TypeId) (hx : Box w g (encS q)) (hbase : base ≤ w.heap.size) (hl : l.length ≤ 1024) :
    ∃ g' c' w', (appF #[33, 33] ty #[V, .slice (some ⟨g, 0, none⟩) 1 1]).run Try.prog w = .ok (.slice (some ⟨g', 0, none⟩) (l.length + 1) c') w' ∧ Pair w' base (.slice (some ⟨g', 0, none⟩) (l.length + 1) c') U (l ++ [q]) k ∧
      w.grownBy w' V.ownBlock ∧ (∀ b xs, Box w b xs → (∀ c, V.ownBlock = some c → c ≠ b) → Box w' b xs) ∧ (∀ B a, Below B a w → B ≤ base → Below B a w') := by
  obtain ⟨i, E⟩ := elem_step
  obtain ⟨v', w', hr, h3, h2, _, h4⟩ := run_append_own_at (P := Try.prog) w base _ ty _ i _ 3 56 E.ht E.hi E.hz E.hsize E.hby E.hzs E.hsz _ _ _ h.a.own ⟨g, 0, none⟩ 1 1 (encS q) rfl
    (fun j u hu => by
      rw [add_at, Nat.zero_add, hx.cell j]
      exact hu)
    (fun u hu => by
      simp only [encS, List.mem_cons, List.not_mem_nil, or_false] at hu
      rcases hu with rfl | rfl | rfl
      · rfl
      · exact own_one hq.1
      · exact own_one hq.2) (by simp only [maxLen]; omega) (by omega) hbase
  have h5 := h3.2
  rcases h5 with ⟨_, h6⟩ | ⟨g', cap, cur, hv, _⟩
  · omega
  · subst hv
    have hnew : ∀ b, b < w.heap.size → V.ownBlock ≠ some b → some g' ≠ some b := fun b hb hV he => by
      rcases h4 with h4 | h4
      · exact hV (h4.symm.trans he)
      · have e := h4.symm.trans he
        have : w.heap.size = b := by simpa using e
        omega
    have key : ∀ u : Sq, (OwnI w base u.m u.s.msgs ∧ OwnB w base u.k u.s.stuck) → (∀ b, u.has b → V.ownBlock ≠ some b) →
        (OwnI w' base u.m u.s.msgs ∧ OwnB w' base u.k u.s.stuck) ∧ (∀ b, u.has b → some g' ≠ some b) := by
      intro u hu hm
      refine ⟨⟨hu.1.other h2 fun b hb => hm b (.inl hb), hu.2.other h2 fun b hb => hm b (.inr hb)⟩, fun b hb => hnew b ?_ (hm b hb)⟩
      rcases hb with hb | hb
      · exact hu.1.block_lt hb
      · exact hu.2.block_lt hb
    have all : ∀ u ∈ l ++ [q], (OwnI w' base u.m u.s.msgs ∧ OwnB w' base u.k u.s.stuck) ∧ (∀ b, u.has b → some g' ≠ some b) := by
      intro u hu
      rcases List.mem_append.1 hu with hu | hu
      · exact key u (h.a.msg u hu) fun b hb => hb.elim (h.a.farm u hu b) (h.a.fark u hu b)
      · obtain rfl := List.mem_singleton.1 hu
        exact key _ hq hqV
    refine ⟨g', cap, w', hr, ⟨⟨?_, fun u hu => (all u hu).1, fun u hu b hb => (all u hu).2 b (.inl hb), fun u hu b hb => (all u hu).2 b (.inr hb)⟩, h.b.other h2 (fun b hb he => h.far b he hb) fun u hu b hb => h.ab u hu b hb, ?_, ?_, ?_⟩, h2, fun b xs hbx hne => ?_, fun B a hB hBb => ?_⟩
    · rw [OwnE, List.length_append, List.flatMap_append]
      simpa using h3
    · intro c hc hU
      have : g' = c := by simpa [Value.ownBlock] using hc
      subst this
      have hlt := h.b.own.block_lt hU
      refine hnew _ hlt (fun hV => h.far _ hV hU) rfl
    · intro u hu c hc
      exact hnew c (h.b.has_lt hu hc) (h.ab u hu c hc)
    · intro u hu c hc
      rcases List.mem_append.1 hu with hu | hu
      · exact h.ba u hu c hc
      · obtain rfl := List.mem_singleton.1 hu
        exact hqU c hc
    · obtain ⟨t, ht⟩ := hbx
      exact ⟨t, (h2.block b (Array.getElem?_eq_some_iff.1 ht).1 (fun e => hne b e.symm rfl)).trans ht⟩
    · exact hB.grown h2 (Nat.le_trans hBb hbase) (fun k hk => by have := h.a.own.block_ge hk; omega)
theorem Sl.pre {w : World} {B size n m : Nat} {g g' : Nat → Nat → Value} {A : Option Addr} {N c : Nat} (h : Sl w B size n g (.slice A N c)) (hm : m ≤ n) (hg : ∀ i, i < m → ∀ j, j < size → g i j = g' i j) : Sl w B size m g' (.slice A m c) := by
  obtain ⟨A', c', hv, hz, h1⟩ := h
  cases hv
  refine ⟨A, c, rfl, by omega, fun i hi => ?_⟩
  obtain ⟨b, off, hA, hb, h2⟩ := h1 i (by omega)
  exact ⟨b, off, hA, hb, fun j hj => by rw [h2 j hj, hg i hi j hj]⟩
theorem StsAt.pre {w : World} {B : Nat} {A : Option Addr} {n c m : Nat} {l : List St} (h : StsAt w B (.slice A n c) l) (hm : m ≤ l.length) : StsAt w B (.slice A m c) (l.take m) := by
  have hlen : (l.take m).length = m := by rw [List.length_take]; omega
  unfold StsAt
  rw [hlen]
  exact Sl.pre h hm fun i hi j hj => by rw [getD_take hi]
theorem CsAt.up {w : World} {B : Nat} {Ap Ac Ab : Option Addr} {n nc nb kp kc kb : Nat} {x : Cs} (h : CsAt w B (.slice Ap n kp) (.slice Ac nc kc) (.slice Ab nb kb) x) {m : Nat} (h1 : m ≤ x.plants.length) (h2 : m ≤ x.codes.length) (h3 : m ≤ x.bars.length) : CsAt w B (.slice Ap m kp) (.slice Ac m kc) (.slice Ab m kb) (x.up m) := by
  have e1 : (x.plants.take m).length = m := by rw [List.length_take]; omega
  have e2 : (x.codes.take m).length = m := by rw [List.length_take]; omega
  have e3 : (x.bars.take m).length = m := by rw [List.length_take]; omega
  have hget : ∀ {α : Type} {l : List α} {i : Nat} {a : α}, (l.take m)[i]? = some a → l[i]? = some a := by
    intro α l i a hi
    rw [List.getElem?_take] at hi
    split at hi
    · exact hi
    · cases hi
  refine ⟨?_, ?_, ?_⟩
  · show Sl w B 12 (x.plants.take m).length _ _
    rw [e1]
    exact Sl.pre h.plants h1 fun i hi j hj => by simp only [Cs.up]; rw [getD_take hi]
  · obtain ⟨V, hV, hq⟩ := h.codes
    refine ⟨V, ?_, fun i c hc => hq i c (hget hc)⟩
    show Sl w B 1 (x.codes.take m).length _ _
    rw [e2]
    exact Sl.pre hV h2 fun i hi j hj => rfl
  · obtain ⟨V, hV, hq⟩ := h.bars
    refine ⟨V, ?_, fun i c hc => hq i c (hget hc)⟩
    show Sl w B 1 (x.bars.take m).length _ _
    rw [e3]
    exact Sl.pre hV h3 fun i hi j hj => rfl
end Go.Proofs.Ytcjcjkomcolgeaa
