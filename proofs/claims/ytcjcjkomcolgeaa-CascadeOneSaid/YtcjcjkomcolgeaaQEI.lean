/- Hours of chapter 35's laws as plain data, and the steps that they make. No condition. -/
import Derived.Test.YtcjcjkomcolgeaaQDK
import Derived.Test.YtcjcjkomcolgeaaQKD
set_option linter.unusedVariables false
set_option linter.unusedSimpArgs false
namespace Go.Proofs.Ytcjcjkomcolgeaa
open Go.RowKit

structure Hr where
  feed : Int
  msgs : List Int
  stuck : List Int
def Hr.zero : Hr := ⟨0, [], []⟩
def U8L (w : World) (B : Nat) (v : Value) (l : List Int) : Prop := Sl w B 1 l.length (fun i _ => .int .u8 (l.getD i 0)) v ∧ ∀ u ∈ l, 0 ≤ u ∧ u ≤ 255
def HrsAt (w : World) (B : Nat) (v : Value) (l : List Hr) : Prop :=
  ∃ M K : Nat → Value, Sl w B 3 l.length (fun i j => if j = 0 then .int .u8 (l.getD i Hr.zero).feed else if j = 1 then M i else K i) v ∧ ∀ (i : Nat) (h : Hr), l[i]? = some h → (0 ≤ h.feed ∧ h.feed ≤ 255) ∧ U8L w B (M i) h.msgs ∧ U8L w B (K i) h.stuck
section
variable {w w' : World} {B B' : Nat} {v : Value}
theorem U8L.below {l : List Int} (h : U8L w B v l) (hb : Below B w w') : U8L w' B v l := ⟨Sl.below h.1 hb, h.2⟩
theorem U8L.more {l : List Int} (h : U8L w B v l) (hb : B ≤ B') : U8L w B' v l := ⟨Sl.more h.1 hb, h.2⟩
theorem U8L.form {l : List Int} (h : U8L w B v l) : ∃ A c, v = .slice A l.length c ∧ l.length ≤ maxLen := by
  obtain ⟨⟨A, c, hv, hn, _⟩, _⟩ := h
  exact ⟨A, c, hv, hn⟩
theorem U8L.at {A : Option Addr} {n c : Nat} {l : List Int} (h : U8L w B (.slice A n c) l) {k : Nat} (hk : k < l.length) : ∃ b off, A = some ⟨b, off, none⟩ ∧ b < B ∧ w.cell? ⟨b, off + k, none⟩ = some (.int .u8 l[k]) ∧ 0 ≤ l[k] ∧ l[k] ≤ 255 := by
  obtain ⟨⟨A', c', hv, _, h1⟩, h2⟩ := h
  cases hv
  obtain ⟨b, off, rfl, hb, h3⟩ := h1 k hk
  have := h3 0 (by omega)
  rw [Nat.mul_one, Nat.add_zero] at this
  dsimp only at this
  rw [getD_at hk] at this
  exact ⟨b, off, rfl, hb, this, h2 _ (List.getElem_mem hk)⟩
theorem HrsAt.below {l : List Hr} (h : HrsAt w B v l) (hb : Below B w w') : HrsAt w' B v l := by
  obtain ⟨M, K, h1, h2⟩ := h
  exact ⟨M, K, h1.below hb, fun i s hs => ⟨(h2 i s hs).1, (h2 i s hs).2.1.below hb, (h2 i s hs).2.2.below hb⟩⟩
theorem HrsAt.more {l : List Hr} (h : HrsAt w B v l) (hb : B ≤ B') : HrsAt w B' v l := by
  obtain ⟨M, K, h1, h2⟩ := h
  exact ⟨M, K, h1.more hb, fun i s hs => ⟨(h2 i s hs).1, (h2 i s hs).2.1.more hb, (h2 i s hs).2.2.more hb⟩⟩
theorem HrsAt.form {l : List Hr} (h : HrsAt w B v l) : ∃ A c, v = .slice A l.length c ∧ l.length ≤ maxLen := by
  obtain ⟨M, K, ⟨A, c, hv, hn, _⟩, _⟩ := h
  exact ⟨A, c, hv, hn⟩
theorem HrsAt.hour {A : Option Addr} {n c : Nat} {l : List Hr} (h : HrsAt w B (.slice A n c) l) {k : Nat} (hk : k < l.length) :
    ∃ b off M K, A = some ⟨b, off, none⟩ ∧ b < B ∧ w.cell? ⟨b, off + k * 3, none⟩ = some (.int .u8 (l[k]).feed) ∧ w.cell? ⟨b, off + k * 3 + 1, none⟩ = some M ∧ w.cell? ⟨b, off + k * 3 + 2, none⟩ = some K ∧ (0 ≤ (l[k]).feed ∧ (l[k]).feed ≤ 255) ∧ U8L w B M (l[k]).msgs ∧ U8L w B K (l[k]).stuck := by
  obtain ⟨M, K, ⟨A', c', hv, _, h1⟩, h2⟩ := h
  cases hv
  obtain ⟨b, off, rfl, hb, h3⟩ := h1 k hk
  have c0 := h3 0 (by omega)
  have c1 := h3 1 (by omega)
  have c2 := h3 2 (by omega)
  simp only [getD_at hk] at c0
  exact ⟨b, off, M k, K k, rfl, hb, c0, by rw [Nat.add_assoc]; exact c1, by rw [Nat.add_assoc]; exact c2, h2 k _ (List.getElem?_eq_getElem hk)⟩
end
def Cs.msgT (x : Cs) (h : Hr) (i : Nat) : Int := if i < h.msgs.length then (h.msgs.getD i 0).tmod ((x.plants.getD i Pl.zero).orders + 2) - 1 else -1
def Hr.stuckT (h : Hr) (i : Nat) : Bool := if i < h.stuck.length then decide ((h.stuck.getD i 0).tmod 4 = 0) else false
def Cs.stepT (x : Cs) (h : Hr) : Sp := ⟨h.feed.tmod ((x.plants.getD 0 Pl.zero).feed + 1), (List.range x.plants.length).map (x.msgT h), (List.range x.plants.length).map h.stuckT⟩
def Hr.Ok (h : Hr) : Prop := (0 ≤ h.feed ∧ h.feed ≤ 255) ∧ (∀ u ∈ h.msgs, 0 ≤ u ∧ u ≤ 255) ∧ ∀ u ∈ h.stuck, 0 ≤ u ∧ u ≤ 255
theorem tmod_in {a m : Int} (ha : 0 ≤ a) (hm : 0 < m) : 0 ≤ a.tmod m ∧ a.tmod m < m := by
  rw [Int.tmod_eq_emod_of_nonneg ha]
  exact ⟨Int.emod_nonneg _ (by omega), Int.emod_lt_of_pos _ hm⟩
theorem map_range_at {α : Type} {f : Nat → α} {d : α} {n i : Nat} (hi : i < n) : ((List.range n).map f).getD i d = f i := by
  rw [getD_at (by simpa using hi)]
  simp
theorem msgT_in {x : Cs} {n : Nat} {h : Hr} (hR : CsRight x n) (hm : ∀ u ∈ h.msgs, 0 ≤ u ∧ u ≤ 255) {i : Nat} (hi : i < n) : -1 ≤ x.msgT h i ∧ x.msgT h i ≤ (x.plants.getD i Pl.zero).orders := by
  have hv := (Pl.check_zero (hR.gate i hi).1).1
  have ho := hv.orders
  unfold Cs.msgT
  by_cases hl : i < h.msgs.length
  · rw [if_pos hl, getD_at hl]
    have := tmod_in (m := (x.plants.getD i Pl.zero).orders + 2) (hm _ (List.getElem_mem hl)).1 (by omega)
    omega
  · rw [if_neg hl]
    omega
theorem stepT_ok {x : Cs} {n : Nat} {h : Hr} (hR : CsRight x n) (hf : 0 ≤ h.feed) (hm : ∀ u ∈ h.msgs, 0 ≤ u ∧ u ≤ 255) : x.stepB (x.stepT h) = true := by
  have hv := (Pl.check_zero (hR.gate 0 hR.pos).1).1
  have h1 := tmod_in (m := (x.plants.getD 0 Pl.zero).feed + 1) hf (by have := hv.feed; omega)
  simp only [Cs.stepB, Cs.stepT, Bool.and_eq_true, decide_eq_true_eq, List.length_map, List.length_range, true_and]
  refine ⟨inI_in ⟨h1.1, by omega⟩, List.all_eq_true.2 fun i hi => ?_⟩
  have hi := List.mem_range.1 hi
  rw [hR.plants] at hi
  unfold Cs.msgB
  dsimp only
  rw [hR.plants, map_range_at hi]
  exact inI_in (msgT_in hR hm hi)
theorem steps_ok {x : Cs} {n : Nat} {l : List Hr} (hR : CsRight x n) (hl : ∀ h ∈ l, h.Ok) : (l.map x.stepT).all x.stepB = true := by
  rw [List.all_eq_true]
  intro s hs
  obtain ⟨h, hh, rfl⟩ := List.mem_map.1 hs
  exact stepT_ok hR (hl h hh).1.1 (hl h hh).2.1
theorem HrsAt.ok {w : World} {B : Nat} {v : Value} {l : List Hr} (h : HrsAt w B v l) : ∀ u ∈ l, u.Ok := by
  obtain ⟨M, K, _, h2⟩ := h
  intro u hu
  obtain ⟨i, hi⟩ := List.mem_iff_getElem?.1 hu
  obtain ⟨h3, h4, h5⟩ := h2 i u hi
  exact ⟨h3, h4.2, h5.2⟩
end Go.Proofs.Ytcjcjkomcolgeaa

/-
  Two rows that a function builds side by side. No condition.
-/
namespace Go.Proofs.Ytcjcjkomcolgeaa
open Go.RowKit

section
variable {α : Type} {enc : α → List Value} {size : Nat} {w w' : World} {base t e : Nat} {V : Value} {l : List α}
theorem run_appE2 {i : TypeInfo} {z : Value} {bytes : Nat} (E : Elem t e i z size bytes) (hs : ∀ x, (enc x).length = size) (h1 : ∀ x, ∀ u ∈ enc x, u.oneCell' = true) (hby : bytes ≤ 1000) (x : α) {g : Nat} (ty : TypeId) (ho : OwnE enc size w base e V l) (hx : Box w g (enc x)) (hbase : base ≤ w.heap.size) (hl : l.length ≤ 1048576) :
    ∃ g' c' w', (appF #[t, t] ty #[V, .slice (some ⟨g, 0, none⟩) 1 1]).run Try.prog w = .ok (.slice (some ⟨g', 0, none⟩) (l.length + 1) c') w' ∧ OwnE enc size w' base e (.slice (some ⟨g', 0, none⟩) (l.length + 1) c') (l ++ [x]) ∧ w.grownBy w' V.ownBlock ∧ (V.ownBlock = some g' ∨ g' = w.heap.size) := by
  obtain ⟨v', w', hr, h3, h2, _, h4⟩ := run_append_own_at (P := Try.prog) w base t ty e i _ size bytes E.ht E.hi E.hz E.hsize E.hby E.hzs E.hsz _ _ _ ho ⟨g, 0, none⟩ 1 1 (enc x) (by rw [hs, Nat.one_mul])
    (fun j u hu => by
      rw [add_at, Nat.zero_add, hx.cell j]
      exact hu)
    (h1 x) (by simp only [maxLen]; omega) (by have := Nat.mul_le_mul_left (l.length + 1) hby; omega) hbase
  have h5 := h3.2
  rcases h5 with ⟨_, h6⟩ | ⟨g', cap, cur, hv, _⟩
  · omega
  · subst hv
    refine ⟨g', cap, w', hr, ?_, h2, ?_⟩
    · rw [OwnE, List.length_append, List.flatMap_append]
      simpa using h3
    · rcases h4 with h4 | h4
      · exact .inl h4.symm
      · exact .inr (by simpa [Value.ownBlock] using h4)
theorem OwnE.other {r : Option Nat} (h : OwnE enc size w base e V l) (hg : w.grownBy w' r) (hr : ∀ b, V.ownBlock = some b → r ≠ some b) : OwnE enc size w' base e V l := by
  refine World.ownsRow.kept h hg ?_
  rcases hv : V.ownBlock with _ | b
  · exact .inl rfl
  · exact .inr fun hh => hr b hv hh.symm
theorem OwnE.block_lt {b : Nat} (h : OwnE enc size w base e V l) (hb : V.ownBlock = some b) : b < w.heap.size := by
  rcases h.2 with ⟨rfl, _⟩ | ⟨b', cap, cur, rfl, h1, h2, _⟩
  · cases hb
  · obtain rfl : b' = b := by simpa [Value.ownBlock] using hb
    exact (Array.getElem?_eq_some_iff.1 h2).1
theorem OwnE.block_ge {b : Nat} (h : OwnE enc size w base e V l) (hb : V.ownBlock = some b) : base ≤ b := by
  rcases h.2 with ⟨rfl, _⟩ | ⟨b', cap, cur, rfl, h1, h2, _⟩
  · cases hb
  · obtain rfl : b' = b := by simpa [Value.ownBlock] using hb
    exact h1
theorem ownE_shape (h : OwnE enc size w base e V l) : ∃ A c, V = .slice A l.length c := by
  rcases h.2 with ⟨rfl, h0⟩ | ⟨b', cap, cur, rfl, h1, h2, _⟩
  · exact ⟨_, _, by rw [h0]⟩
  · exact ⟨_, _, rfl⟩
end
theorem elem_int : ∃ i, Elem 42 3 i (.int .i64 0) 1 8 := by
  obtain ⟨i, h1, h2, h3, h4⟩ := info_parts (show (Try.prog.info? 3).map (fun i => (i.zero, i.size, i.bytes)) = some (some (.int .i64 0), 1, 8) by kernel_rfl)
  exact ⟨i, Try.underlying42, h1, h2, h3, h4, by decide, by decide⟩
theorem elem_bool : ∃ i, Elem 41 4 i (.bool false) 1 1 := by
  obtain ⟨i, h1, h2, h3, h4⟩ := info_parts (show (Try.prog.info? 4).map (fun i => (i.zero, i.size, i.bytes)) = some (some (.bool false), 1, 1) by kernel_rfl)
  exact ⟨i, Try.underlying41, h1, h2, h3, h4, by decide, by decide⟩
abbrev encI (n : Int) : List Value := [.int .i64 n]
abbrev encB (b : Bool) : List Value := [.bool b]
abbrev OwnI (w : World) (base : Nat) (V : Value) (l : List Int) : Prop := OwnE encI 1 w base 3 V l
abbrev OwnB (w : World) (base : Nat) (V : Value) (l : List Bool) : Prop := OwnE encB 1 w base 4 V l
theorem int_one (n : Int) : ∀ u ∈ encI n, u.oneCell' = true := by
  intro u hu
  obtain rfl := List.mem_singleton.1 hu
  rfl
theorem bool_one (n : Bool) : ∀ u ∈ encB n, u.oneCell' = true := by
  intro u hu
  obtain rfl := List.mem_singleton.1 hu
  rfl
structure Two (w : World) (base : Nat) (M K : Value) (lm : List Int) (lk : List Bool) : Prop where
  m : OwnI w base M lm
  k : OwnB w base K lk
  far : ∀ b, M.ownBlock = some b → K.ownBlock ≠ some b
theorem Two.nil (w : World) (base : Nat) : Two w base (.slice none 0 0) (.slice none 0 0) [] [] := ⟨ownE_nil _ _ _ _ _, ownE_nil _ _ _ _ _, fun _ h => by cases h⟩
theorem Two.later {w w' : World} {base : Nat} {M K : Value} {lm : List Int} {lk : List Bool} (h : Two w base M K lm lk) (hb : Below w.heap.size w w') : Two w' base M K lm lk := ⟨h.m.later hb, h.k.later hb, h.far⟩
theorem Two.set {w : World} {base : Nat} {M K : Value} {lm : List Int} {lk : List Bool} (h : Two w base M K lm lk) {a : Addr} (ha : a.block < base) (u : Value) : Two (w.setCell a u) base M K lm lk := ⟨h.m.set ha u, h.k.set ha u, h.far⟩
theorem Two.msg {w : World} {base : Nat} {M K : Value} {lm : List Int} {lk : List Bool} (h : Two w base M K lm lk) (x : Int) {g : Nat} (ty : TypeId) (hx : Box w g [.int .i64 x]) (hbase : base ≤ w.heap.size) (hl : lm.length ≤ 1024) :
    ∃ g' c' w', (appF #[42, 42] ty #[M, .slice (some ⟨g, 0, none⟩) 1 1]).run Try.prog w = .ok (.slice (some ⟨g', 0, none⟩) (lm.length + 1) c') w' ∧ Two w' base (.slice (some ⟨g', 0, none⟩) (lm.length + 1) c') K (lm ++ [x]) lk ∧
      w.heap.size ≤ w'.heap.size ∧ (∀ b xs, Box w b xs → (∀ c, M.ownBlock = some c → c ≠ b) → Box w' b xs) ∧ ∀ B a, Below B a w → B ≤ base → Below B a w' := by
  obtain ⟨i, E⟩ := elem_int
  obtain ⟨g', c', w', hr, h2, h3, h4⟩ := run_appE2 E (fun _ => rfl) int_one (by omega) x ty h.m hx hbase (by omega)
  refine ⟨g', c', w', hr, ⟨h2, h.k.other h3 (fun b hb he => h.far b he hb), fun b hb hk => ?_⟩, h3.size, fun b xs hbx hne => ?_, fun B a hB hBb => ?_⟩
  · obtain rfl : g' = b := by simpa [Value.ownBlock] using hb
    rcases h4 with h4 | rfl
    · exact h.far _ h4 hk
    · exact absurd (h.k.block_lt hk) (Nat.lt_irrefl _)
  · obtain ⟨t, ht⟩ := hbx
    exact ⟨t, (h3.block b (Array.getElem?_eq_some_iff.1 ht).1 (fun e => hne b e.symm rfl)).trans ht⟩
  · exact hB.grown h3 (Nat.le_trans hBb hbase) (fun k hk => by have := h.m.block_ge hk; omega)
theorem Two.stop {w : World} {base : Nat} {M K : Value} {lm : List Int} {lk : List Bool} (h : Two w base M K lm lk) (x : Bool) {g : Nat} (ty : TypeId) (hx : Box w g [.bool x]) (hbase : base ≤ w.heap.size) (hl : lk.length ≤ 1024) :
    ∃ g' c' w', (appF #[41, 41] ty #[K, .slice (some ⟨g, 0, none⟩) 1 1]).run Try.prog w = .ok (.slice (some ⟨g', 0, none⟩) (lk.length + 1) c') w' ∧ Two w' base M (.slice (some ⟨g', 0, none⟩) (lk.length + 1) c') lm (lk ++ [x]) ∧
      w.heap.size ≤ w'.heap.size ∧ (∀ b xs, Box w b xs → (∀ c, K.ownBlock = some c → c ≠ b) → Box w' b xs) ∧ ∀ B a, Below B a w → B ≤ base → Below B a w' := by
  obtain ⟨i, E⟩ := elem_bool
  obtain ⟨g', c', w', hr, h2, h3, h4⟩ := run_appE2 E (fun _ => rfl) bool_one (by omega) x ty h.k hx hbase (by omega)
  refine ⟨g', c', w', hr, ⟨h.m.other h3 (fun b hb he => h.far b hb he), h2, fun b hb hk => ?_⟩, h3.size, fun b xs hbx hne => ?_, fun B a hB hBb => ?_⟩
  · obtain rfl : g' = b := by simpa [Value.ownBlock] using hk
    rcases h4 with h4 | rfl
    · exact h.far _ hb h4
    · exact absurd (h.m.block_lt hb) (Nat.lt_irrefl _)
  · obtain ⟨t, ht⟩ := hbx
    exact ⟨t, (h3.block b (Array.getElem?_eq_some_iff.1 ht).1 (fun e => hne b e.symm rfl)).trans ht⟩
  · exact hB.grown h3 (Nat.le_trans hBb hbase) (fun k hk => by have := h.k.block_ge hk; omega)
end Go.Proofs.Ytcjcjkomcolgeaa

/-
  The step that an hour of chapter 35's laws makes. (Printed by pp.py.) No condition.
-/
namespace Go.Proofs.Ytcjcjkomcolgeaa
open Go.RowKit
attribute [local go_sem ↓ high] app_named

def StepPost (s : Sp) (w : World) (e : Ending) (w' : World) : Prop := ∃ M K B, e = .returned (.agg #[.int .i64 s.feed, M, K]) ∧ w.heap.size ≤ B ∧ Two w' B M K s.msgs s.stuck ∧ Below w.heap.size w w'
structure Held2 (S : Nat) (f1 f2 : Value) where
  w : World
  h1 : w.cell? ⟨S, 1, none⟩ = some f1
  h2 : w.cell? ⟨S, 2, none⟩ = some f2

theorem run_app_named {ats : Array TypeId} {ty : TypeId} {cs : Array Bool} {args : Array Value} {v : Value} {w w' : World} (h : (appF ats ty args).run Try.prog w = .ok v w') : (builtin .append ats ty cs args).run Try.prog w = .ok (.value v) w' := by
  rw [app_named]
  simp [go_sem, h]
theorem run_appOp {o : Oper} {ev : Operand → Value} {t : TypeId} {x y : Operand} {vx vy v : Value} {w w' : World} (ho : o.op = .call { callee := .builtin .append, args := #[x, y], argTypes := #[t, t] }) (hty : o.type = t) (hx : ev x = vx) (hy : ev y = vy) (h : (appF #[t, t] t #[vx, vy]).run Try.prog w = .ok v w') : (execOp ev o).run Try.prog w = .ok (.value v) w' := by
  subst hty hx hy
  have e : execOp ev o = (do let d ← resolve ev { callee := .builtin .append, args := #[x, y], argTypes := #[o.type, o.type] } o.type; invoke d.target d.args) := by
    unfold execOp
    rw [ho]
  have e2 : resolve ev { callee := .builtin .append, args := #[x, y], argTypes := #[o.type, o.type] } o.type = pure { target := .builtin .append #[o.type, o.type] o.type (#[x, y].map fun | .const _ => true | _ => false), args := #[ev x, ev y] } := by
    simp [resolve]
    rfl
  rw [e, e2]
  have h2 := run_app_named (cs := #[x, y].map fun | .const _ => true | _ => false) h
  have e3 : (do let d ← (pure { target := .builtin .append #[o.type, o.type] o.type (#[x, y].map fun | .const _ => true | _ => false), args := #[ev x, ev y] } : Sem Deferred); invoke d.target d.args) = builtin .append #[o.type, o.type] o.type (#[x, y].map fun | .const _ => true | _ => false) #[ev x, ev y] := rfl
  rw [e3]
  exact h2
set_option maxRecDepth 100000 in
set_option maxHeartbeats 4000000 in
theorem lStep_is (x : Cs) (n : Nat) (h : Hr) (Ap Ac Ab Am Ak : Option Addr) (kp kc kb cm ck nm nk : Nat) (w : World) (hR : Hid (CsRight x n)) (hx : Hid (CsAt w w.heap.size (.slice Ap n kp) (.slice Ac n kc) (.slice Ab n kb) x)) (hok : Hid h.Ok)
    (hM : Hid (U8L w w.heap.size (.slice Am nm cm) h.msgs)) (hnm : Hid (h.msgs.length = nm)) (hK : Hid (U8L w w.heap.size (.slice Ak nk ck) h.stuck)) (hnk : Hid (h.stuck.length = nk)) (f : Int) (hf : Hid (h.feed = f)) :
    Calls Try.prog 18 #[.agg #[.slice Ap n kp, .slice Ac n kc, .slice Ab n kb], .int .u8 f, .slice Am nm cm, .slice Ak nk ck] w (StepPost (x.stepT h) w) := by
  have hpos := hR.out.pos
  have hmost := hR.out.most
  have hpl := hR.out.plants
  have hf0 := hok.out.1
  rw [hf.out] at hf0
  obtain ⟨bp, op, e0, -, -⟩ := hx.out.plants.plant (k := 0) (by rw [hR.out.plants]; omega)
  subst e0
  go_enter Try.func18, Try.ntmps18
  go_upto_region 1 with fail
  have X1 := (Box.new w [.slice (some ⟨bp, op, none⟩) n kp, .slice Ac n kc, .slice Ab n kb] 26).alloc (.cells #[.int .i64 0, .slice none 0 0, .slice none 0 0] 44)
  have XS := Box.newAt (w := w.alloc (.cells #[.slice (some ⟨bp, op, none⟩) n kp, .slice Ac n kc, .slice Ab n kb] 26)) (n := w.heap.size + 1) [.int .i64 0, .slice none 0 0, .slice none 0 0] 44 (by simp)
  have hB := ((Below.refl w.heap.size w).alloc (Nat.le_refl _) (.cells #[.slice (some ⟨bp, op, none⟩) n kp, .slice Ac n kc, .slice Ab n kb] 26)).alloc (by simp) (.cells #[.int .i64 0, .slice none 0 0, .slice none 0 0] 44)
  have hsz : w.heap.size + 2 ≤ ((w.alloc (.cells #[.slice (some ⟨bp, op, none⟩) n kp, .slice Ac n kc, .slice Ab n kb] 26)).alloc (.cells #[.int .i64 0, .slice none 0 0, .slice none 0 0] 44)).heap.size := by simp
  generalize (w.alloc (.cells #[.slice (some ⟨bp, op, none⟩) n kp, .slice Ac n kc, .slice Ab n kb] 26)).alloc (.cells #[.int .i64 0, .slice none 0 0, .slice none 0 0] 44) = W at X1 XS hB hsz ⊢
  obtain ⟨q, hq⟩ : ∃ q, Hid (x.plants.getD 0 Pl.zero = q) := ⟨_, Lib.hid rfl⟩
  have hqf : 0 ≤ q.feed ∧ q.feed ≤ 15 := by
    have := (Pl.check_zero (hR.out.gate 0 hpos).1).1.feed
    rw [hq.out] at this
    exact this
  have p8 : W.cell? ⟨bp, op + 8, none⟩ = some (.int .i64 q.feed) := by
    obtain ⟨b1, o1, e1, _, pc⟩ := (hx.out.later hB).plants.plant (k := 0) (by rw [hpl]; omega)
    cases e1
    have := pc 8 (by omega)
    rw [Nat.zero_mul, Nat.zero_add, ← getD_at (d := Pl.zero), hq.out] at this
    exact this
  have x0 : W.cell? ⟨w.heap.size, 0, none⟩ = some (.slice (some ⟨bp, op, none⟩) n kp) := X1.cell 0
  have s0 : W.cell? ⟨w.heap.size + 1, 0, none⟩ = some (.int .i64 0) := XS.cell 0
  have sf0 : W.frozen? ⟨w.heap.size + 1, 0, none⟩ = false := XS.free 0
  have hz0 : ((q.feed + 1 : Int) == 0) = false := by simp; omega
  have hz1 : ¬ (q.feed + 1 = 0) := by omega
  have hn0 : (0 : Int) < n := by omega
  have hlx := X1.lt
  have hls := XS.lt
  obtain ⟨F, hF⟩ : ∃ F, f.tmod (q.feed + 1) = F := ⟨_, rfl⟩
  have hF0 := tmod_in (a := f) (m := q.feed + 1) hf0.1 (by omega)
  rw [hF] at hF0
  have hw1 : IntKind.i64.wrap (q.feed + 1) = q.feed + 1 := wrap_id (by omega) (by omega)
  have hw2 : IntKind.i64.wrap F = F := wrap_id (by omega) (by omega)
  have hw3 : IntKind.i64.wrap f = f := wrap_id (by omega) (by omega)
  go_upto_region 3 with fail
  clear p8 x0 s0 sf0 hz0 hz1 hlx hls X1 hw1 hw2 hw3 hn0
  have hB := hB.setCell (p := ⟨w.heap.size + 1, 0, none⟩) (by simp <;> omega) (.int .i64 F)
  have XS : Box (W.setCell ⟨w.heap.size + 1, 0, none⟩ (.int .i64 F)) (w.heap.size + 1) [.int .i64 F, .slice none 0 0, .slice none 0 0] := XS.set 0 (.int .i64 F)
  have hsz : w.heap.size + 2 ≤ (W.setCell ⟨w.heap.size + 1, 0, none⟩ (.int .i64 F)).heap.size := by simp; exact hsz
  generalize W.setCell ⟨w.heap.size + 1, 0, none⟩ (.int .i64 F) = W0 at hB XS hsz ⊢
  go_loopw [26] (fun i wr => ∃ (k : Nat) (M K : Value), k ≤ n ∧ i = .int .i64 k ∧ Hid (Two wr (w.heap.size + 2) M K ((List.range k).map (x.msgT h)) ((List.range k).map h.stuckT)) ∧ Box wr (w.heap.size + 1) [.int .i64 F, M, K] ∧ Below w.heap.size w wr ∧ w.heap.size + 2 ≤ wr.heap.size) (fun i _ => n - (intOf i).toNat)
  case atStart => exact ⟨0, _, _, by omega, rfl, Lib.hid (Two.nil _ _), XS, hB, hsz⟩
  case round =>
    clear XS hB hsz
    obtain ⟨k, M, K, hk, rfl, hT, XS, hb, hsz⟩ := hrel
    obtain ⟨wo, rfl⟩ : ∃ wo : World, wo = wr := ⟨_, rfl⟩
    rcases Nat.lt_or_ge k n with hlt | hge
    rotate_left
    · obtain rfl : k = n := by omega
      have hd3 : ¬ ((k : Int) < (k : Int)) := by omega
      have hfeed : F = (x.stepT h).feed := by
        show F = h.feed.tmod ((x.plants.getD 0 Pl.zero).feed + 1)
        rw [hf.out, hq.out, hF]
      have HF := Lib.hid hfeed
      clear hfeed
      have ⟨AM, cM, eM⟩ := ownE_shape hT.out.m
      have ⟨AK, cK, eK⟩ := ownE_shape hT.out.k
      rw [List.length_map, List.length_range] at eM eK
      subst eM eK
      have s0 : wo.cell? ⟨w.heap.size + 1, 0, none⟩ = some (.int .i64 F) := XS.cell 0
      have s1 : wo.cell? ⟨w.heap.size + 1, 1, none⟩ = some (.slice AM k cM) := XS.cell 1
      have s2 : wo.cell? ⟨w.heap.size + 1, 2, none⟩ = some (.slice AK k cK) := XS.cell 2
      have f0 : wo.frozen? ⟨w.heap.size + 1, 0, none⟩ = false := XS.free 0
      have f1 : wo.frozen? ⟨w.heap.size + 1, 1, none⟩ = false := XS.free 1
      have f2 : wo.frozen? ⟨w.heap.size + 1, 2, none⟩ = false := XS.free 2
      have hz := XS.lt
      have XS' : Box (((wo.setCell ⟨w.heap.size + 1, 0, none⟩ (.int .i64 F)).setCell ⟨w.heap.size + 1, 1, none⟩ (.slice AM k cM)).setCell ⟨w.heap.size + 1, 2, none⟩ (.slice AK k cK)) (w.heap.size + 1) [.int .i64 F, .slice AM k cM, .slice AK k cK] := ((XS.set 0 (.int .i64 F)).set 1 (.slice AM k cM)).set 2 (.slice AK k cK)
      have HT' := ((hT.out.set (a := ⟨w.heap.size + 1, 0, none⟩) (by show w.heap.size + 1 < w.heap.size + 2; omega) (.int .i64 F)).set (a := ⟨w.heap.size + 1, 1, none⟩) (by show w.heap.size + 1 < w.heap.size + 2; omega) (.slice AM k cM)).set (a := ⟨w.heap.size + 1, 2, none⟩) (by show w.heap.size + 1 < w.heap.size + 2; omega) (.slice AK k cK)
      have hb' := ((hb.setCell (p := ⟨w.heap.size + 1, 0, none⟩) (by simp <;> omega) (.int .i64 F)).setCell (p := ⟨w.heap.size + 1, 1, none⟩) (by simp <;> omega) (.slice AM k cM)).setCell (p := ⟨w.heap.size + 1, 2, none⟩) (by simp <;> omega) (.slice AK k cK)
      go_wp2_with fail
      clear s0 s1 s2 f0 f1 f2
      generalize ((wo.setCell ⟨w.heap.size + 1, 0, none⟩ (.int .i64 F)).setCell ⟨w.heap.size + 1, 1, none⟩ (.slice AM k cM)).setCell ⟨w.heap.size + 1, 2, none⟩ (.slice AK k cK) = wz at XS' HT' hb' ⊢
      have d0 : wz.cell? ⟨w.heap.size + 1, 0, none⟩ = some (.int .i64 F) := XS'.cell 0
      have d1 : wz.cell? ⟨w.heap.size + 1, 1, none⟩ = some (.slice AM k cM) := XS'.cell 1
      have d2 : wz.cell? ⟨w.heap.size + 1, 2, none⟩ = some (.slice AK k cK) := XS'.cell 2
      refine bodyPost_ret (v := .agg #[.int .i64 F, .slice AM k cM, .slice AK k cK]) (by simp [results, Try.results18, go_sem, d0, d1, d2]) rfl ?_
      refine ⟨_, _, w.heap.size + 2, by rw [HF.out], by omega, ?_, hb'⟩
      show Two wz _ _ _ ((List.range x.plants.length).map _) ((List.range x.plants.length).map _)
      rw [hpl]
      exact HT'
    have hd3 : (k : Int) < (n : Int) := by omega
    have hkp : k < x.plants.length := by rw [hpl]; exact hlt
    have hv := (Pl.check_zero (hR.out.gate k hlt).1).1
    obtain ⟨b1, o1, e1, hbp, p0, p1, p2, p3, p4, p5, p6, p7, p8, p9, p10, p11⟩ := hx.out.plants.cells12 hkp
    cases e1
    obtain ⟨p, hpe⟩ : ∃ p, x.plants[k] = p := ⟨_, rfl⟩
    rw [getD_at hkp, hpe] at hv
    rw [hpe] at p0 p1 p2 p3 p4 p5 p6 p7 p8 p9 p10 p11
    have HPE := Lib.hid hpe
    have ho := hv.orders
    have p0 := (hb.cell hbp).trans p0
    have p1 := (hb.cell hbp).trans p1
    have p2 := (hb.cell hbp).trans p2
    have p3 := (hb.cell hbp).trans p3
    have p4 := (hb.cell hbp).trans p4
    have p5 := (hb.cell hbp).trans p5
    have p6 := (hb.cell hbp).trans p6
    have p7 := (hb.cell hbp).trans p7
    have p8 := (hb.cell hbp).trans p8
    have p9 := (hb.cell hbp).trans p9
    have p10 := (hb.cell hbp).trans p10
    have p11 := (hb.cell hbp).trans p11
    have hbpz := Nat.lt_of_lt_of_le hbp hb.size
    go_upto_region 5 with fail
    clear p0 p1 p2 p3 p4 p5 p6 p7 p8 p9 p10 p11 hbpz hpe hv
    have X7 := Box.new wo [.int .i64 p.top, .int .i64 p.bank, .int .i64 p.siphon, .int .i64 p.start, .int .i64 p.positions, .int .i64 p.rate, .int .i64 p.step, .int .i64 p.pass, .int .i64 p.feed, .int .i64 p.pipe, .int .i64 p.orders, .int .i64 p.age] 55
    have hb7 := (Below.refl wo.heap.size wo).alloc (Nat.le_refl _) (.cells #[.int .i64 p.top, .int .i64 p.bank, .int .i64 p.siphon, .int .i64 p.start, .int .i64 p.positions, .int .i64 p.rate, .int .i64 p.step, .int .i64 p.pass, .int .i64 p.feed, .int .i64 p.pipe, .int .i64 p.orders, .int .i64 p.age] 55)
    have XS := XS.alloc (.cells #[.int .i64 p.top, .int .i64 p.bank, .int .i64 p.siphon, .int .i64 p.start, .int .i64 p.positions, .int .i64 p.rate, .int .i64 p.step, .int .i64 p.pass, .int .i64 p.feed, .int .i64 p.pipe, .int .i64 p.orders, .int .i64 p.age] 55)
    have HT := Lib.hid (hT.out.later hb7)
    have hb := hb.trans (hb7.mono hb.size)
    have hsz := Nat.le_trans hsz hb7.size
    clear hb7 hT
    generalize wo.alloc (.cells #[.int .i64 p.top, .int .i64 p.bank, .int .i64 p.siphon, .int .i64 p.start, .int .i64 p.positions, .int .i64 p.rate, .int .i64 p.step, .int .i64 p.pass, .int .i64 p.feed, .int .i64 p.pipe, .int .i64 p.orders, .int .i64 p.age] 55) = W at X7 XS HT hb hsz ⊢
    generalize wo.heap.size = D at X7 ⊢
    go_upto_if 34 with fail
    go_cut [11] (fun s11 wx => s11 = .int .i64 (x.msgT h k) ∧ Below W.heap.size W wx)
    case first =>
      have X7z := X7.lt
      by_cases hkm : k < nm
      · have hd : decide ((k : Int) < (nm : Int)) = true := decide_eq_true (by omega)
        obtain ⟨b2, o2, rfl, hb2, c2, hu0, hu1⟩ := hM.out.at (k := k) (by rw [hnm.out]; exact hkm)
        have c2 := (hb.cell hb2).trans c2
        have hb2z := Nat.lt_of_lt_of_le hb2 hb.size
        obtain ⟨u, hu⟩ : ∃ u, h.msgs[k]'(by rw [hnm.out]; exact hkm) = u := ⟨_, rfl⟩
        rw [hu] at c2 hu0 hu1
        have x10 : W.cell? ⟨D, 10, none⟩ = some (.int .i64 p.orders) := X7.cell 10
        obtain ⟨G, hG⟩ : ∃ G, u.tmod (p.orders + 2) = G := ⟨_, rfl⟩
        have hG0 := tmod_in (a := u) (m := p.orders + 2) hu0 (by omega)
        rw [hG] at hG0
        have hz0 : ((p.orders + 2 : Int) == 0) = false := by simp; omega
        have hz1 : ¬ (p.orders + 2 = 0) := by omega
        have hw1 : IntKind.i64.wrap (p.orders + 2) = p.orders + 2 := wrap_id (by omega) (by omega)
        have hw2 : IntKind.i64.wrap G = G := wrap_id (by omega) (by omega)
        have hw3 : IntKind.i64.wrap u = u := wrap_id (by omega) (by omega)
        have hw4 : IntKind.i64.wrap (G - 1) = G - 1 := wrap_id (by omega) (by omega)
        have hk2 : (k : Int) < (nm : Int) := by omega
        have hmt : x.msgT h k = G - 1 := by
          rw [Cs.msgT, if_pos (by rw [hnm.out]; exact hkm), getD_at (by rw [hnm.out]; exact hkm), hu, getD_at hkp, HPE.out, hG]
        go_upto_region 7 with fail
        go_quiet (fail)
        go_wp2_with fail
        go_meet
        exact ⟨by rw [hmt], bel_drewN (Below.refl _ _) _⟩
      · have hd : decide ((k : Int) < (nm : Int)) = false := decide_eq_false (by omega)
        have hk2 : ¬ ((k : Int) < (nm : Int)) := by omega
        have hmt : x.msgT h k = -1 := by rw [Cs.msgT, if_neg (by rw [hnm.out]; exact hkm)]
        go_wp2_with fail
        go_meet
        exact ⟨by rw [hmt], Below.refl _ _⟩
    case rest =>
      obtain ⟨rfl, hbc⟩ := hcut
      have XS := XS.later hbc
      have HT := Lib.hid (HT.out.later hbc)
      have hb := hb.trans (hbc.mono hb.size)
      have hsz := Nat.le_trans hsz hbc.size
      clear hbc X7
      go_upto_if 48 with fail
      go_cut [12] (fun s12 wx => s12 = .bool (h.stuckT k) ∧ Below wc.heap.size wc wx)
      case first =>
        by_cases hkm : k < nk
        · have hd : decide ((k : Int) < (nk : Int)) = true := decide_eq_true (by omega)
          obtain ⟨b2, o2, rfl, hb2, c2, hu0, hu1⟩ := hK.out.at (k := k) (by rw [hnk.out]; exact hkm)
          have c2 := (hb.cell hb2).trans c2
          have hb2z := Nat.lt_of_lt_of_le hb2 hb.size
          obtain ⟨u, hu⟩ : ∃ u, h.stuck[k]'(by rw [hnk.out]; exact hkm) = u := ⟨_, rfl⟩
          rw [hu] at c2 hu0 hu1
          obtain ⟨G, hG⟩ : ∃ G, u.tmod 4 = G := ⟨_, rfl⟩
          have hG0 := tmod_in (a := u) (m := 4) hu0 (by omega)
          rw [hG] at hG0
          have hw2 : IntKind.u8.wrap G = G := by rw [IntKind.wrap_u8]; omega
          have hk2 : (k : Int) < (nk : Int) := by omega
          have hmt : h.stuckT k = decide (G = 0) := by
            rw [Hr.stuckT, if_pos (by rw [hnk.out]; exact hkm), getD_at (by rw [hnk.out]; exact hkm), hu, hG]
          go_wp2_with fail
          go_meet
          exact ⟨by rw [hmt]; first | rfl | simp, Below.refl _ _⟩
        · have hd : decide ((k : Int) < (nk : Int)) = false := decide_eq_false (by omega)
          have hk2 : ¬ ((k : Int) < (nk : Int)) := by omega
          have hmt : h.stuckT k = false := by rw [Hr.stuckT, if_neg (by rw [hnk.out]; exact hkm)]
          go_wp2_with fail
          go_meet
          exact ⟨by rw [hmt], Below.refl _ _⟩
      case rest =>
        obtain ⟨rfl, hbc⟩ := hcut
        have XS := XS.later hbc
        have HT := Lib.hid (HT.out.later hbc)
        have hb := hb.trans (hbc.mono hb.size)
        have hsz := Nat.le_trans hsz hbc.size
        clear hbc
        have c1 : wc.cell? ⟨w.heap.size + 1, 1, none⟩ = some M := XS.cell 1
        have c2 : wc.cell? ⟨w.heap.size + 1, 2, none⟩ = some K := XS.cell 2
        have v1 : ∀ z : Held2 (w.heap.size + 1) M K, z.w.cell? ⟨w.heap.size + 1, 1, none⟩ = some M := fun z => z.h1
        have v2 : ∀ z : Held2 (w.heap.size + 1) M K, z.w.cell? ⟨w.heap.size + 1, 2, none⟩ = some K := fun z => z.h2
        haveI : Nonempty (Held2 (w.heap.size + 1) M K) := ⟨⟨wc, c1, c2⟩⟩
        go_upto_region 10 with fail
        refine wp_region_upto (C := fun w' => ∃ x : Held2 (w.heap.size + 1) M K, w' = x.w) 11 [0, 1, 2, 5, 6, 7] (by kernel_rfl) (by kernel_rfl) ⟨⟨wc.drew, c1, c2⟩, rfl⟩ (fun _ _ h => h) ?_
        simp only [headOps, List.filterMap_cons, List.filterMap_nil, List.getElem?_toArray, List.getElem?_cons_succ, List.getElem?_cons_zero]
        repeat (first | go_big_quiet_skip | (show wpQuiet _ _ _ _ (_ :: _) _; go_big_quiet_skip) | (show wpQuiet _ _ _ _ (_ :: _) _; go_big_quiet_want; go_big_quiet_op; go_big_quiet_on))
        refine wpQuiet_nil ?_
        generalize hw0 : wc.drew = w0
        have XS : Box w0 (w.heap.size + 1) [.int .i64 F, M, K] := by rw [← hw0]; exact XS.drew
        have HT : Hid (Two w0 (w.heap.size + 2) M K ((List.range k).map (x.msgT h)) ((List.range k).map h.stuckT)) := by rw [← hw0]; exact Lib.hid (HT.out.later ((Below.refl _ _).drew))
        have hb : Below w.heap.size w w0 := by rw [← hw0]; exact hb.drew
        have hsz : w.heap.size + 2 ≤ w0.heap.size := by rw [← hw0]; exact hsz
        clear hw0 c1 c2 v1 v2 this
        refine anyG_two (n := 7) (i := 3) (j := 8) (by kernel_rfl) (fun _ => ⟨⟨w0, XS.cell 1, XS.cell 2⟩, rfl⟩) ?_ ?_
        · refine wpOp_valD (some 58) (v := .slice (some ⟨w0.heap.size, 0, none⟩) 1 1) (w' := w0.alloc (.cells #[.int .i64 (x.msgT h k)] 3)) (by rfl) rfl rfl ?_ ?_
          · go_simp
          simp only [Act.put, List.setIfInBounds_toArray, List.set_cons_zero, List.set_cons_succ]
          have XM := Box.new w0 [.int .i64 (x.msgT h k)] 3
          have hal := (Below.refl w0.heap.size w0).alloc (Nat.le_refl _) (.cells #[.int .i64 (x.msgT h k)] 3)
          have XS := XS.alloc (.cells #[.int .i64 (x.msgT h k)] 3)
          have HT := Lib.hid (HT.out.later hal)
          have hb := hb.trans (hal.mono hb.size)
          have hsz := Nat.le_trans hsz hal.size
          clear hal
          generalize w0.alloc (.cells #[.int .i64 (x.msgT h k)] 3) = w1 at XS HT hb hsz XM ⊢
          generalize w0.heap.size = gm at XM ⊢
          refine anyG_two (n := 6) (i := 4) (j := 8) (by kernel_rfl) (fun _ => ⟨⟨w1, XS.cell 1, XS.cell 2⟩, rfl⟩) ?_ ?_
          · obtain ⟨gM, cM, w2, hr, hT2, hs2, hbx, hbb⟩ := HT.out.msg (x.msgT h k) 42 XM hsz (by rw [List.length_map, List.length_range]; omega)
            rw [List.length_map, List.length_range] at hr hT2
            refine wpOp_valD (some 59) (v := .slice (some ⟨gM, 0, none⟩) (k + 1) cM) (w' := w2) (by rfl) rfl rfl ?_ ?_
            · exact run_appOp (x := .tmp 56) (y := .tmp 58) rfl rfl rfl rfl hr
            simp only [Act.put, List.setIfInBounds_toArray, List.set_cons_zero, List.set_cons_succ]
            have XS := hbx _ _ XS (fun c hc => by have := HT.out.m.block_ge hc; omega)
            have HT := Lib.hid hT2
            have hb := hbb _ _ hb (by omega)
            have hsz := Nat.le_trans hsz hs2
            clear hr hT2 hs2 hbx hbb XM
            refine anyG_pures (by kernel_rfl) 5 w2 [10] _ _ ?_ (fun _ => ⟨⟨w2, XS.cell 1, XS.cell 2⟩, rfl⟩) (by kernel_rfl) (by kernel_rfl) ?_
            · exact closed_of (by kernel_rfl)
            simp only [headOps, List.filterMap_cons, List.filterMap_nil, List.getElem?_toArray, List.getElem?_cons_succ, List.getElem?_cons_zero]
            repeat (first | go_big_quiet_skip | (show wpQuiet _ _ _ _ (_ :: _) _; go_big_quiet_skip) | (show wpQuiet _ _ _ _ (_ :: _) _; go_big_quiet_want; go_big_quiet_op; go_big_quiet_on))
            refine wpQuiet_nil ?_
            refine anyG_val (some 63) (n := 4) (i := 8) (v := .slice (some ⟨w2.heap.size, 0, none⟩) 1 1) (w' := w2.alloc (.cells #[.bool (h.stuckT k)] 4)) (by kernel_rfl) rfl rfl rfl (fun _ => ⟨⟨w2, XS.cell 1, XS.cell 2⟩, rfl⟩) ?_ ?_
            · go_simp
            simp only [Act.put, List.setIfInBounds_toArray, List.set_cons_zero, List.set_cons_succ]
            have XK := Box.new w2 [.bool (h.stuckT k)] 4
            have hal := (Below.refl w2.heap.size w2).alloc (Nat.le_refl _) (.cells #[.bool (h.stuckT k)] 4)
            have XS := XS.alloc (.cells #[.bool (h.stuckT k)] 4)
            have HT := Lib.hid (HT.out.later hal)
            have hb := hb.trans (hal.mono hb.size)
            have hsz := Nat.le_trans hsz hal.size
            clear hal
            generalize w2.alloc (.cells #[.bool (h.stuckT k)] 4) = w3 at XS HT hb hsz XK ⊢
            generalize w2.heap.size = gk at XK ⊢
            obtain ⟨gK, cK, w4, hr, hT2, hs2, hbx, hbb⟩ := HT.out.stop (h.stuckT k) 41 XK hsz (by rw [List.length_map, List.length_range]; omega)
            rw [List.length_map, List.length_range] at hr hT2
            refine anyG_val (some 64) (n := 3) (i := 9) (v := .slice (some ⟨gK, 0, none⟩) (k + 1) cK) (w' := w4) (by kernel_rfl) rfl rfl rfl (fun _ => ⟨⟨w3, XS.cell 1, XS.cell 2⟩, rfl⟩) ?_ ?_
            · exact run_appOp (x := .tmp 61) (y := .tmp 63) rfl rfl rfl rfl hr
            simp only [Act.put, List.setIfInBounds_toArray, List.set_cons_zero, List.set_cons_succ]
            have XS := hbx _ _ XS (fun c hc => by have := HT.out.k.block_ge hc; omega)
            have HT := Lib.hid hT2
            have hb := hbb _ _ hb (by omega)
            have hsz := Nat.le_trans hsz hs2
            clear hr hT2 hs2 hbx hbb XK
            have s1 : w4.cell? ⟨w.heap.size + 1, 1, none⟩ = some M := XS.cell 1
            have f1 : w4.frozen? ⟨w.heap.size + 1, 1, none⟩ = false := XS.free 1
            refine anyG_store (n := 2) (i := 11) (w' := (w4.setCell ⟨w.heap.size + 1, 1, none⟩ (.slice (some ⟨gM, 0, none⟩) (k + 1) cM))) (by kernel_rfl) rfl rfl rfl (fun _ => ⟨⟨w4, XS.cell 1, XS.cell 2⟩, rfl⟩) ?_ ?_
            · go_simp
            have XS : Box (w4.setCell ⟨w.heap.size + 1, 1, none⟩ (.slice (some ⟨gM, 0, none⟩) (k + 1) cM)) (w.heap.size + 1) [.int .i64 F, .slice (some ⟨gM, 0, none⟩) (k + 1) cM, K] := XS.set 1 (.slice (some ⟨gM, 0, none⟩) (k + 1) cM)
            have HT := Lib.hid (HT.out.set (a := ⟨w.heap.size + 1, 1, none⟩) (by show w.heap.size + 1 < w.heap.size + 2; omega) (.slice (some ⟨gM, 0, none⟩) (k + 1) cM))
            have hb := hb.setCell (p := ⟨w.heap.size + 1, 1, none⟩) (by simp <;> omega) (.slice (some ⟨gM, 0, none⟩) (k + 1) cM)
            have hsz : w.heap.size + 2 ≤ (w4.setCell ⟨w.heap.size + 1, 1, none⟩ (.slice (some ⟨gM, 0, none⟩) (k + 1) cM)).heap.size := by simp; exact hsz
            clear s1 f1
            generalize (w4.setCell ⟨w.heap.size + 1, 1, none⟩ (.slice (some ⟨gM, 0, none⟩) (k + 1) cM)) = wy at XS HT hb hsz ⊢
            refine anyG_val (some 66) (n := 1) (i := 12) (v := .pointer (some ⟨w.heap.size + 1, 2, none⟩)) (w' := wy) (by kernel_rfl) rfl rfl rfl (fun h => absurd (h.symm.trans (by kernel_rfl : _ = true)) Bool.false_ne_true) ?_ ?_
            · go_simp
            simp only [Act.put, List.setIfInBounds_toArray, List.set_cons_zero, List.set_cons_succ]
            have s1 : wy.cell? ⟨w.heap.size + 1, 2, none⟩ = some K := XS.cell 2
            have f1 : wy.frozen? ⟨w.heap.size + 1, 2, none⟩ = false := XS.free 2
            refine anyG_store (n := 0) (i := 13) (w' := wy.setCell ⟨w.heap.size + 1, 2, none⟩ (.slice (some ⟨gK, 0, none⟩) (k + 1) cK)) (by kernel_rfl) rfl rfl rfl (fun h => absurd (h.symm.trans (by kernel_rfl : _ = true)) Bool.false_ne_true) ?_ ?_
            · go_simp
            have XS : Box (wy.setCell ⟨w.heap.size + 1, 2, none⟩ (.slice (some ⟨gK, 0, none⟩) (k + 1) cK)) (w.heap.size + 1) [.int .i64 F, .slice (some ⟨gM, 0, none⟩) (k + 1) cM, .slice (some ⟨gK, 0, none⟩) (k + 1) cK] := XS.set 2 (.slice (some ⟨gK, 0, none⟩) (k + 1) cK)
            have HT := Lib.hid (HT.out.set (a := ⟨w.heap.size + 1, 2, none⟩) (by show w.heap.size + 1 < w.heap.size + 2; omega) (.slice (some ⟨gK, 0, none⟩) (k + 1) cK))
            have hb := hb.setCell (p := ⟨w.heap.size + 1, 2, none⟩) (by simp <;> omega) (.slice (some ⟨gK, 0, none⟩) (k + 1) cK)
            have hsz : w.heap.size + 2 ≤ (wy.setCell ⟨w.heap.size + 1, 2, none⟩ (.slice (some ⟨gK, 0, none⟩) (k + 1) cK)).heap.size := by simp; exact hsz
            clear s1 f1
            generalize wy.setCell ⟨w.heap.size + 1, 2, none⟩ (.slice (some ⟨gK, 0, none⟩) (k + 1) cK) = wz at XS HT hb hsz ⊢
            refine anyG_done (by kernel_rfl) (by kernel_rfl) ?_
            go_wp2_with fail
            refine ⟨⟨k + 1, _, _, by omega, by go_num, ?_, XS, hb, hsz⟩, by simp [intOf]; omega⟩
            rw [List.range_succ, List.map_append, List.map_append]
            exact HT
          · refine wpOp_valD (some 63) (v := .slice (some ⟨w1.heap.size, 0, none⟩) 1 1) (w' := w1.alloc (.cells #[.bool (h.stuckT k)] 4)) (by rfl) rfl rfl ?_ ?_
            · go_simp
            simp only [Act.put, List.setIfInBounds_toArray, List.set_cons_zero, List.set_cons_succ]
            have XK := Box.new w1 [.bool (h.stuckT k)] 4
            have hal := (Below.refl w1.heap.size w1).alloc (Nat.le_refl _) (.cells #[.bool (h.stuckT k)] 4)
            have hgk : ∀ c, M.ownBlock = some c → c ≠ w1.heap.size := fun c hc => Nat.ne_of_lt (HT.out.m.block_lt hc)
            have XS := XS.alloc (.cells #[.bool (h.stuckT k)] 4)
            have HT := Lib.hid (HT.out.later hal)
            have hb := hb.trans (hal.mono hb.size)
            have hsz := Nat.le_trans hsz hal.size
            have XM := XM.alloc (.cells #[.bool (h.stuckT k)] 4)
            clear hal
            generalize w1.alloc (.cells #[.bool (h.stuckT k)] 4) = w2 at XS HT hb hsz XK XM ⊢
            generalize w1.heap.size = gk at XK hgk ⊢
            obtain ⟨gM, cM, w3, hr, hT2, hs2, hbx, hbb⟩ := HT.out.msg (x.msgT h k) 42 XM hsz (by rw [List.length_map, List.length_range]; omega)
            rw [List.length_map, List.length_range] at hr hT2
            refine anyG_val (some 59) (n := 5) (i := 4) (v := .slice (some ⟨gM, 0, none⟩) (k + 1) cM) (w' := w3) (by kernel_rfl) rfl rfl rfl (fun _ => ⟨⟨w2, XS.cell 1, XS.cell 2⟩, rfl⟩) ?_ ?_
            · exact run_appOp (x := .tmp 56) (y := .tmp 58) rfl rfl rfl rfl hr
            simp only [Act.put, List.setIfInBounds_toArray, List.set_cons_zero, List.set_cons_succ]
            have XS := hbx _ _ XS (fun c hc => by have := HT.out.m.block_ge hc; omega)
            have XK := hbx _ _ XK hgk
            clear hgk
            have HT := Lib.hid hT2
            have hb := hbb _ _ hb (by omega)
            have hsz := Nat.le_trans hsz hs2
            clear hr hT2 hs2 hbx hbb XM
            refine anyG_pures (by kernel_rfl) 4 w3 [10] _ _ ?_ (fun _ => ⟨⟨w3, XS.cell 1, XS.cell 2⟩, rfl⟩) (by kernel_rfl) (by kernel_rfl) ?_
            · exact closed_of (by kernel_rfl)
            simp only [headOps, List.filterMap_cons, List.filterMap_nil, List.getElem?_toArray, List.getElem?_cons_succ, List.getElem?_cons_zero]
            repeat (first | go_big_quiet_skip | (show wpQuiet _ _ _ _ (_ :: _) _; go_big_quiet_skip) | (show wpQuiet _ _ _ _ (_ :: _) _; go_big_quiet_want; go_big_quiet_op; go_big_quiet_on))
            refine wpQuiet_nil ?_
            obtain ⟨gK, cK, w4, hr, hT2, hs2, hbx, hbb⟩ := HT.out.stop (h.stuckT k) 41 XK hsz (by rw [List.length_map, List.length_range]; omega)
            rw [List.length_map, List.length_range] at hr hT2
            refine anyG_val (some 64) (n := 3) (i := 9) (v := .slice (some ⟨gK, 0, none⟩) (k + 1) cK) (w' := w4) (by kernel_rfl) rfl rfl rfl (fun _ => ⟨⟨w3, XS.cell 1, XS.cell 2⟩, rfl⟩) ?_ ?_
            · exact run_appOp (x := .tmp 61) (y := .tmp 63) rfl rfl rfl rfl hr
            simp only [Act.put, List.setIfInBounds_toArray, List.set_cons_zero, List.set_cons_succ]
            have XS := hbx _ _ XS (fun c hc => by have := HT.out.k.block_ge hc; omega)
            have HT := Lib.hid hT2
            have hb := hbb _ _ hb (by omega)
            have hsz := Nat.le_trans hsz hs2
            clear hr hT2 hs2 hbx hbb XK
            have s1 : w4.cell? ⟨w.heap.size + 1, 1, none⟩ = some M := XS.cell 1
            have f1 : w4.frozen? ⟨w.heap.size + 1, 1, none⟩ = false := XS.free 1
            refine anyG_store (n := 2) (i := 11) (w' := (w4.setCell ⟨w.heap.size + 1, 1, none⟩ (.slice (some ⟨gM, 0, none⟩) (k + 1) cM))) (by kernel_rfl) rfl rfl rfl (fun _ => ⟨⟨w4, XS.cell 1, XS.cell 2⟩, rfl⟩) ?_ ?_
            · go_simp
            have XS : Box (w4.setCell ⟨w.heap.size + 1, 1, none⟩ (.slice (some ⟨gM, 0, none⟩) (k + 1) cM)) (w.heap.size + 1) [.int .i64 F, .slice (some ⟨gM, 0, none⟩) (k + 1) cM, K] := XS.set 1 (.slice (some ⟨gM, 0, none⟩) (k + 1) cM)
            have HT := Lib.hid (HT.out.set (a := ⟨w.heap.size + 1, 1, none⟩) (by show w.heap.size + 1 < w.heap.size + 2; omega) (.slice (some ⟨gM, 0, none⟩) (k + 1) cM))
            have hb := hb.setCell (p := ⟨w.heap.size + 1, 1, none⟩) (by simp <;> omega) (.slice (some ⟨gM, 0, none⟩) (k + 1) cM)
            have hsz : w.heap.size + 2 ≤ (w4.setCell ⟨w.heap.size + 1, 1, none⟩ (.slice (some ⟨gM, 0, none⟩) (k + 1) cM)).heap.size := by simp; exact hsz
            clear s1 f1
            generalize (w4.setCell ⟨w.heap.size + 1, 1, none⟩ (.slice (some ⟨gM, 0, none⟩) (k + 1) cM)) = wy at XS HT hb hsz ⊢
            refine anyG_val (some 66) (n := 1) (i := 12) (v := .pointer (some ⟨w.heap.size + 1, 2, none⟩)) (w' := wy) (by kernel_rfl) rfl rfl rfl (fun h => absurd (h.symm.trans (by kernel_rfl : _ = true)) Bool.false_ne_true) ?_ ?_
            · go_simp
            simp only [Act.put, List.setIfInBounds_toArray, List.set_cons_zero, List.set_cons_succ]
            have s1 : wy.cell? ⟨w.heap.size + 1, 2, none⟩ = some K := XS.cell 2
            have f1 : wy.frozen? ⟨w.heap.size + 1, 2, none⟩ = false := XS.free 2
            refine anyG_store (n := 0) (i := 13) (w' := wy.setCell ⟨w.heap.size + 1, 2, none⟩ (.slice (some ⟨gK, 0, none⟩) (k + 1) cK)) (by kernel_rfl) rfl rfl rfl (fun h => absurd (h.symm.trans (by kernel_rfl : _ = true)) Bool.false_ne_true) ?_ ?_
            · go_simp
            have XS : Box (wy.setCell ⟨w.heap.size + 1, 2, none⟩ (.slice (some ⟨gK, 0, none⟩) (k + 1) cK)) (w.heap.size + 1) [.int .i64 F, .slice (some ⟨gM, 0, none⟩) (k + 1) cM, .slice (some ⟨gK, 0, none⟩) (k + 1) cK] := XS.set 2 (.slice (some ⟨gK, 0, none⟩) (k + 1) cK)
            have HT := Lib.hid (HT.out.set (a := ⟨w.heap.size + 1, 2, none⟩) (by show w.heap.size + 1 < w.heap.size + 2; omega) (.slice (some ⟨gK, 0, none⟩) (k + 1) cK))
            have hb := hb.setCell (p := ⟨w.heap.size + 1, 2, none⟩) (by simp <;> omega) (.slice (some ⟨gK, 0, none⟩) (k + 1) cK)
            have hsz : w.heap.size + 2 ≤ (wy.setCell ⟨w.heap.size + 1, 2, none⟩ (.slice (some ⟨gK, 0, none⟩) (k + 1) cK)).heap.size := by simp; exact hsz
            clear s1 f1
            generalize wy.setCell ⟨w.heap.size + 1, 2, none⟩ (.slice (some ⟨gK, 0, none⟩) (k + 1) cK) = wz at XS HT hb hsz ⊢
            refine anyG_done (by kernel_rfl) (by kernel_rfl) ?_
            go_wp2_with fail
            refine ⟨⟨k + 1, _, _, by omega, by go_num, ?_, XS, hb, hsz⟩, by simp [intOf]; omega⟩
            rw [List.range_succ, List.map_append, List.map_append]
            exact HT
        · refine wpOp_valD (some 63) (v := .slice (some ⟨w0.heap.size, 0, none⟩) 1 1) (w' := w0.alloc (.cells #[.bool (h.stuckT k)] 4)) (by rfl) rfl rfl ?_ ?_
          · go_simp
          simp only [Act.put, List.setIfInBounds_toArray, List.set_cons_zero, List.set_cons_succ]
          have XK := Box.new w0 [.bool (h.stuckT k)] 4
          have hal := (Below.refl w0.heap.size w0).alloc (Nat.le_refl _) (.cells #[.bool (h.stuckT k)] 4)
          have hgk : ∀ c, M.ownBlock = some c → c ≠ w0.heap.size := fun c hc => Nat.ne_of_lt (HT.out.m.block_lt hc)
          have XS := XS.alloc (.cells #[.bool (h.stuckT k)] 4)
          have HT := Lib.hid (HT.out.later hal)
          have hb := hb.trans (hal.mono hb.size)
          have hsz := Nat.le_trans hsz hal.size
          clear hal
          generalize w0.alloc (.cells #[.bool (h.stuckT k)] 4) = w1 at XS HT hb hsz XK ⊢
          generalize w0.heap.size = gk at XK hgk ⊢
          refine anyG_val (some 58) (n := 6) (i := 3) (v := .slice (some ⟨w1.heap.size, 0, none⟩) 1 1) (w' := w1.alloc (.cells #[.int .i64 (x.msgT h k)] 3)) (by kernel_rfl) rfl rfl rfl (fun _ => ⟨⟨w1, XS.cell 1, XS.cell 2⟩, rfl⟩) ?_ ?_
          · go_simp
          simp only [Act.put, List.setIfInBounds_toArray, List.set_cons_zero, List.set_cons_succ]
          have XM := Box.new w1 [.int .i64 (x.msgT h k)] 3
          have hal := (Below.refl w1.heap.size w1).alloc (Nat.le_refl _) (.cells #[.int .i64 (x.msgT h k)] 3)
          have XS := XS.alloc (.cells #[.int .i64 (x.msgT h k)] 3)
          have HT := Lib.hid (HT.out.later hal)
          have hb := hb.trans (hal.mono hb.size)
          have hsz := Nat.le_trans hsz hal.size
          have XK := XK.alloc (.cells #[.int .i64 (x.msgT h k)] 3)
          clear hal
          generalize w1.alloc (.cells #[.int .i64 (x.msgT h k)] 3) = w2 at XS HT hb hsz XM XK ⊢
          generalize w1.heap.size = gm at XM ⊢
          obtain ⟨gM, cM, w3, hr, hT2, hs2, hbx, hbb⟩ := HT.out.msg (x.msgT h k) 42 XM hsz (by rw [List.length_map, List.length_range]; omega)
          rw [List.length_map, List.length_range] at hr hT2
          refine anyG_val (some 59) (n := 5) (i := 4) (v := .slice (some ⟨gM, 0, none⟩) (k + 1) cM) (w' := w3) (by kernel_rfl) rfl rfl rfl (fun _ => ⟨⟨w2, XS.cell 1, XS.cell 2⟩, rfl⟩) ?_ ?_
          · exact run_appOp (x := .tmp 56) (y := .tmp 58) rfl rfl rfl rfl hr
          simp only [Act.put, List.setIfInBounds_toArray, List.set_cons_zero, List.set_cons_succ]
          have XS := hbx _ _ XS (fun c hc => by have := HT.out.m.block_ge hc; omega)
          have XK := hbx _ _ XK hgk
          clear hgk
          have HT := Lib.hid hT2
          have hb := hbb _ _ hb (by omega)
          have hsz := Nat.le_trans hsz hs2
          clear hr hT2 hs2 hbx hbb XM
          refine anyG_pures (by kernel_rfl) 4 w3 [10] _ _ ?_ (fun _ => ⟨⟨w3, XS.cell 1, XS.cell 2⟩, rfl⟩) (by kernel_rfl) (by kernel_rfl) ?_
          · exact closed_of (by kernel_rfl)
          simp only [headOps, List.filterMap_cons, List.filterMap_nil, List.getElem?_toArray, List.getElem?_cons_succ, List.getElem?_cons_zero]
          repeat (first | go_big_quiet_skip | (show wpQuiet _ _ _ _ (_ :: _) _; go_big_quiet_skip) | (show wpQuiet _ _ _ _ (_ :: _) _; go_big_quiet_want; go_big_quiet_op; go_big_quiet_on))
          refine wpQuiet_nil ?_
          obtain ⟨gK, cK, w4, hr, hT2, hs2, hbx, hbb⟩ := HT.out.stop (h.stuckT k) 41 XK hsz (by rw [List.length_map, List.length_range]; omega)
          rw [List.length_map, List.length_range] at hr hT2
          refine anyG_val (some 64) (n := 3) (i := 9) (v := .slice (some ⟨gK, 0, none⟩) (k + 1) cK) (w' := w4) (by kernel_rfl) rfl rfl rfl (fun _ => ⟨⟨w3, XS.cell 1, XS.cell 2⟩, rfl⟩) ?_ ?_
          · exact run_appOp (x := .tmp 61) (y := .tmp 63) rfl rfl rfl rfl hr
          simp only [Act.put, List.setIfInBounds_toArray, List.set_cons_zero, List.set_cons_succ]
          have XS := hbx _ _ XS (fun c hc => by have := HT.out.k.block_ge hc; omega)
          have HT := Lib.hid hT2
          have hb := hbb _ _ hb (by omega)
          have hsz := Nat.le_trans hsz hs2
          clear hr hT2 hs2 hbx hbb XK
          have s1 : w4.cell? ⟨w.heap.size + 1, 1, none⟩ = some M := XS.cell 1
          have f1 : w4.frozen? ⟨w.heap.size + 1, 1, none⟩ = false := XS.free 1
          refine anyG_store (n := 2) (i := 11) (w' := (w4.setCell ⟨w.heap.size + 1, 1, none⟩ (.slice (some ⟨gM, 0, none⟩) (k + 1) cM))) (by kernel_rfl) rfl rfl rfl (fun _ => ⟨⟨w4, XS.cell 1, XS.cell 2⟩, rfl⟩) ?_ ?_
          · go_simp
          have XS : Box (w4.setCell ⟨w.heap.size + 1, 1, none⟩ (.slice (some ⟨gM, 0, none⟩) (k + 1) cM)) (w.heap.size + 1) [.int .i64 F, .slice (some ⟨gM, 0, none⟩) (k + 1) cM, K] := XS.set 1 (.slice (some ⟨gM, 0, none⟩) (k + 1) cM)
          have HT := Lib.hid (HT.out.set (a := ⟨w.heap.size + 1, 1, none⟩) (by show w.heap.size + 1 < w.heap.size + 2; omega) (.slice (some ⟨gM, 0, none⟩) (k + 1) cM))
          have hb := hb.setCell (p := ⟨w.heap.size + 1, 1, none⟩) (by simp <;> omega) (.slice (some ⟨gM, 0, none⟩) (k + 1) cM)
          have hsz : w.heap.size + 2 ≤ (w4.setCell ⟨w.heap.size + 1, 1, none⟩ (.slice (some ⟨gM, 0, none⟩) (k + 1) cM)).heap.size := by simp; exact hsz
          clear s1 f1
          generalize (w4.setCell ⟨w.heap.size + 1, 1, none⟩ (.slice (some ⟨gM, 0, none⟩) (k + 1) cM)) = wy at XS HT hb hsz ⊢
          refine anyG_val (some 66) (n := 1) (i := 12) (v := .pointer (some ⟨w.heap.size + 1, 2, none⟩)) (w' := wy) (by kernel_rfl) rfl rfl rfl (fun h => absurd (h.symm.trans (by kernel_rfl : _ = true)) Bool.false_ne_true) ?_ ?_
          · go_simp
          simp only [Act.put, List.setIfInBounds_toArray, List.set_cons_zero, List.set_cons_succ]
          have s1 : wy.cell? ⟨w.heap.size + 1, 2, none⟩ = some K := XS.cell 2
          have f1 : wy.frozen? ⟨w.heap.size + 1, 2, none⟩ = false := XS.free 2
          refine anyG_store (n := 0) (i := 13) (w' := wy.setCell ⟨w.heap.size + 1, 2, none⟩ (.slice (some ⟨gK, 0, none⟩) (k + 1) cK)) (by kernel_rfl) rfl rfl rfl (fun h => absurd (h.symm.trans (by kernel_rfl : _ = true)) Bool.false_ne_true) ?_ ?_
          · go_simp
          have XS : Box (wy.setCell ⟨w.heap.size + 1, 2, none⟩ (.slice (some ⟨gK, 0, none⟩) (k + 1) cK)) (w.heap.size + 1) [.int .i64 F, .slice (some ⟨gM, 0, none⟩) (k + 1) cM, .slice (some ⟨gK, 0, none⟩) (k + 1) cK] := XS.set 2 (.slice (some ⟨gK, 0, none⟩) (k + 1) cK)
          have HT := Lib.hid (HT.out.set (a := ⟨w.heap.size + 1, 2, none⟩) (by show w.heap.size + 1 < w.heap.size + 2; omega) (.slice (some ⟨gK, 0, none⟩) (k + 1) cK))
          have hb := hb.setCell (p := ⟨w.heap.size + 1, 2, none⟩) (by simp <;> omega) (.slice (some ⟨gK, 0, none⟩) (k + 1) cK)
          have hsz : w.heap.size + 2 ≤ (wy.setCell ⟨w.heap.size + 1, 2, none⟩ (.slice (some ⟨gK, 0, none⟩) (k + 1) cK)).heap.size := by simp; exact hsz
          clear s1 f1
          generalize wy.setCell ⟨w.heap.size + 1, 2, none⟩ (.slice (some ⟨gK, 0, none⟩) (k + 1) cK) = wz at XS HT hb hsz ⊢
          refine anyG_done (by kernel_rfl) (by kernel_rfl) ?_
          go_wp2_with fail
          refine ⟨⟨k + 1, _, _, by omega, by go_num, ?_, XS, hb, hsz⟩, by simp [intOf]; omega⟩
          rw [List.range_succ, List.map_append, List.map_append]
          exact HT
end Go.Proofs.Ytcjcjkomcolgeaa
