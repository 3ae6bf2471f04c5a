/- What Escape of package barrier computes, as the program does it: plain. No condition. -/
import Derived.Test.YtancngachnpefaaQMH
import Derived.Test.YtancngachnpefaaQMB
import Derived.Test.YtancngachnpefaaQKL
import Derived.Test.YtancngachnpefaaQS
import Derived.Test.YtancngachnpefaaQK
set_option linter.unusedVariables false
set_option linter.unusedSimpArgs false
set_option maxRecDepth 100000
set_option maxHeartbeats 4000000
namespace Go.Proofs.Ytancngachnpefaa
open Go.RowKit
structure Wy where
  st : St
  sh : Sh
abbrev Wy.v (x : Wy) : Value := .agg #[.int .i64 x.st.level, .int .i64 x.st.position, .int .i64 x.st.p0, .int .i64 x.st.p1, .int .i64 x.st.order, .int .i64 x.st.age, .int .i64 x.sh.feed, .int .i64 x.sh.msg]
structure Ev where
  came : St → Option Wy
  op : List St
def innerE (p : Pl) (s : St) : List (Sh × St) → Ev → Ev × Option St
  | [], a => (a, none)
  | (x, y) :: r, a =>
    if (a.came y).isSome = true then innerE p s r a
    else if (p.safeT y).1 = true then innerE p s r ⟨updS a.came y ⟨s, x⟩, a.op ++ [y]⟩
    else (⟨updS a.came y ⟨s, x⟩, a.op⟩, some y)
def escE (p : Pl) (c : List Ln) : Nat → Ev → Ev × Option St
  | 0, a => (a, none)
  | n + 1, a =>
    match a.op with
    | [] => (a, none)
    | s :: _ =>
      match innerE p s (p.nexts c s (p.nf * p.nm)) a with
      | (a', some y) => (a', some y)
      | (a', none) => escE p c n ⟨a'.came, a'.op.tail⟩
def backE (came : St → Option Wy) (begin : St) : Nat → St → List Sh
  | 0, _ => []
  | n + 1, y => if y = begin then [] else match came y with
    | some x => x.sh :: backE came begin n x.st
    | none => []
def startE (p : Pl) : Ev := ⟨updS (fun _ => none) p.beginT.1 ⟨St.zero, Sh.zero⟩, [p.beginT.1]⟩
def escT (p : Pl) (c : List Ln) : List Sh × Bool × Int :=
  if askT p c = 0 then
    if (p.safeT p.beginT.1).1 = true then
      match escE p c (p.count + 1) (startE p) with
      | (a, some y) => ((backE a.came p.beginT.1 (p.count + 1) y).reverse, true, 0)
      | (_, none) => ([], false, 0)
    else ([], true, 0)
  else ([], false, askT p c)
def leftE (l : List St) (came : St → Option Wy) : Nat := l.countP fun s => (came s).isNone
theorem leftE_upd {l : List St} {came : St → Option Wy} {y : St} (hy : y ∈ l) (h : came y = none) (x : Wy) : leftE l (updS came y x) + 1 ≤ leftE l came := by
  refine countP_lt (f := fun s => (came s).isNone) (g := fun s => (updS came y x s).isNone) (fun z hz => ?_) (s := y) (by simp [h]) (by simp [updS]) l hy
  unfold updS at hz
  split at hz
  · cases hz
  · exact hz
def OrdE (begin : St) (came : St → Option Wy) (n : Nat) : Prop := ∃ rk : St → Nat, ∀ y x, came y = some x → rk y ≤ n ∧ (y ≠ begin → rk x.st < rk y ∧ (came x.st).isSome = true)
theorem ordE_start (b : St) (x : Wy) : OrdE b (updS (fun _ => none) b x) 0 := ⟨fun _ => 0, fun y z h => by
  unfold updS at h
  split at h
  · rename_i e
    exact ⟨Nat.le_refl _, fun hne => absurd e hne⟩
  · cases h⟩
theorem OrdE.upd {b : St} {came : St → Option Wy} {n : Nat} (h : OrdE b came n) {y s : St} (hy : came y = none) (hs : (came s).isSome = true) (x : Sh) : OrdE b (updS came y ⟨s, x⟩) (n + 1) := by
  obtain ⟨rk, h⟩ := h
  have hsn : rk s ≤ n := by
    cases hc : came s with
    | none => rw [hc] at hs; cases hs
    | some z => exact (h s z hc).1
  have hsy : s ≠ y := fun e => by rw [e, hy] at hs; cases hs
  refine ⟨fun z => if z = y then n + 1 else rk z, fun z u hz => ?_⟩
  unfold updS at hz
  split at hz
  · rename_i e
    cases hz
    subst e
    dsimp only
    rw [if_pos rfl, if_neg hsy]
    exact ⟨Nat.le_refl _, fun _ => ⟨by omega, by unfold updS; rw [if_neg hsy]; exact hs⟩⟩
  · rename_i e
    obtain ⟨h1, h2⟩ := h z u hz
    dsimp only
    rw [if_neg e]
    refine ⟨by omega, fun hne => ?_⟩
    obtain ⟨h3, h4⟩ := h2 hne
    have huy : u.st ≠ y := fun e2 => by rw [e2, hy] at h4; cases h4
    rw [if_neg huy]
    exact ⟨h3, by unfold updS; rw [if_neg huy]; exact h4⟩
end Go.Proofs.Ytancngachnpefaa
namespace Go.Proofs.Ytancngachnpefaa
open Go.RowKit
theorem begin_has {p : Pl} (hv : p.Valid) (h : p.checkT = 0) : p.hasB p.beginT.1 = true := by
  have h1 := hv.start
  have h2 := hv.positions
  have h3 := hv.orders
  have h4 := hv.age
  have h5 := hv.feed
  rw [Pl.beginT, if_pos h]
  simp only [Pl.hasB, Bool.and_eq_true]
  exact ⟨inI_in (by omega), inI_in (by omega), inI_in (by split <;> omega), inI_in (by split <;> omega), inI_in (by omega), inI_in (by omega)⟩
section
variable {p : Pl} {c : List Ln} {b s y : St} {x : Sh} {a a0 a' : Ev} {l r pre : List (Sh × St)}
theorem inner_none : ∀ (l : List (Sh × St)) (a a' : Ev), innerE p s l a = (a', none) → ∀ r, innerE p s (l ++ r) a = innerE p s r a'
  | [], a, a', h, r => by
    cases h
    rfl
  | (x, y) :: l, a, a', h, r => by
    rw [List.cons_append, innerE]
    rw [innerE] at h
    split
    · rename_i h1
      rw [if_pos h1] at h
      exact inner_none l _ _ h r
    · rename_i h1
      rw [if_neg h1] at h
      split
      · rename_i h2
        rw [if_pos h2] at h
        exact inner_none l _ _ h r
      · rename_i h2
        rw [if_neg h2] at h
        cases h
theorem inner_some : ∀ (l : List (Sh × St)) (a a' : Ev), innerE p s l a = (a', some y) → ∀ r, innerE p s (l ++ r) a = (a', some y)
  | [], a, a', h, r => by cases h
  | (x, z) :: l, a, a', h, r => by
    rw [List.cons_append, innerE]
    rw [innerE] at h
    split
    · rename_i h1
      rw [if_pos h1] at h
      exact inner_some l _ _ h r
    · rename_i h1
      rw [if_neg h1] at h
      split
      · rename_i h2
        rw [if_pos h2] at h
        exact inner_some l _ _ h r
      · rename_i h2
        rw [if_neg h2] at h
        exact h
theorem inner_known (h : innerE p s pre a0 = (a, none)) (hy : (a.came y).isSome = true) : innerE p s (pre ++ [(x, y)]) a0 = (a, none) := by
  rw [inner_none pre _ _ h]
  unfold innerE
  rw [if_pos hy]
  rfl
theorem inner_safe (h : innerE p s pre a0 = (a, none)) (hy : (a.came y).isSome = false) (hs : (p.safeT y).1 = true) : innerE p s (pre ++ [(x, y)]) a0 = (⟨updS a.came y ⟨s, x⟩, a.op ++ [y]⟩, none) := by
  rw [inner_none pre _ _ h]
  unfold innerE
  rw [if_neg (by rw [hy]; decide), if_pos hs]
  rfl
theorem inner_bad (h : innerE p s pre a0 = (a, none)) (hy : (a.came y).isSome = false) (hs : (p.safeT y).1 = false) : innerE p s (pre ++ [(x, y)]) a0 = (⟨updS a.came y ⟨s, x⟩, a.op⟩, some y) := by
  rw [inner_none pre _ _ h]
  unfold innerE
  rw [if_neg (by rw [hy]; decide), if_neg (by rw [hs]; decide)]
theorem inner_op : ∀ (l : List (Sh × St)) (a a' : Ev) (o : Option St), innerE p s l a = (a', o) → ∃ e, a'.op = a.op ++ e
  | [], a, a', o, h => by
    cases h
    exact ⟨[], by simp⟩
  | (x, z) :: l, a, a', o, h => by
    unfold innerE at h
    split at h
    · exact inner_op l _ _ _ h
    · split at h
      · obtain ⟨e, he⟩ := inner_op l _ _ _ h
        exact ⟨z :: e, by rw [he]; simp⟩
      · cases h
        exact ⟨[], by simp⟩
theorem esc_on {k : Nat} {came : St → Option Wy} {r : List St} {fin : Ev × Option St} (h : escE p c (k + 1) ⟨came, s :: r⟩ = fin) (hi : innerE p s (p.nexts c s (p.nf * p.nm)) ⟨came, s :: r⟩ = (a', none)) : escE p c k ⟨a'.came, a'.op.tail⟩ = fin := by
  rw [← h]
  show _ = (match innerE p s (p.nexts c s (p.nf * p.nm)) ⟨came, s :: r⟩ with
      | (a', some y) => (a', some y)
      | (a', none) => escE p c k ⟨a'.came, a'.op.tail⟩)
  rw [hi]
theorem esc_found {k : Nat} {came : St → Option Wy} {r : List St} {fin : Ev × Option St} (h : escE p c (k + 1) ⟨came, s :: r⟩ = fin) (hi : innerE p s (p.nexts c s (p.nf * p.nm)) ⟨came, s :: r⟩ = (a', some y)) : fin = (a', some y) := by
  rw [← h]
  show (match innerE p s (p.nexts c s (p.nf * p.nm)) ⟨came, s :: r⟩ with
      | (a', some y) => (a', some y)
      | (a', none) => escE p c k ⟨a'.came, a'.op.tail⟩) = _
  rw [hi]
theorem esc_end {k : Nat} {came : St → Option Wy} {fin : Ev × Option St} (h : escE p c k ⟨came, []⟩ = fin) : fin = (⟨came, []⟩, none) := by
  rw [← h]
  cases k <;> rfl
structure EvOk (p : Pl) (b : St) (a : Ev) (k : Nat) : Prop where
  dom : ∀ y, (a.came y).isSome = true → y ∈ p.states
  ops : ∀ y ∈ a.op, (a.came y).isSome = true
  bound : a.op.length + leftE p.states a.came ≤ k
  ord : ∃ n, n + leftE p.states a.came ≤ p.count ∧ OrdE b a.came n
  beg : (a.came b).isSome = true
theorem upd_some {f : St → Option Wy} {y z : St} {v : Wy} (h : (f z).isSome = true) : (updS f y v z).isSome = true := by
  unfold updS
  split
  · rfl
  · exact h
theorem upd_same (f : St → Option Wy) (y : St) (v : Wy) : updS f y v y = some v := if_pos rfl
theorem EvOk.bad {k : Nat} (h : EvOk p b a k) (hm : y ∈ p.states) (hy : (a.came y).isSome = false) (hs : (a.came s).isSome = true) : EvOk p b ⟨updS a.came y ⟨s, x⟩, a.op⟩ k := by
  have hn : a.came y = none := by
    cases h0 : a.came y with
    | none => rfl
    | some v => rw [h0] at hy; cases hy
  have hl := leftE_upd hm hn ⟨s, x⟩
  obtain ⟨n, h1, h2⟩ := h.ord
  have hb := h.bound
  refine ⟨fun z hz => ?_, fun z hz => upd_some (h.ops z hz), by dsimp only; omega, ⟨n + 1, by dsimp only; omega, h2.upd hn hs x⟩, upd_some h.beg⟩
  dsimp only at hz
  unfold updS at hz
  split at hz
  · rename_i e
    rw [e]
    exact hm
  · exact h.dom z hz
theorem EvOk.put {k : Nat} (h : EvOk p b a k) (hm : y ∈ p.states) (hy : (a.came y).isSome = false) (hs : (a.came s).isSome = true) : EvOk p b ⟨updS a.came y ⟨s, x⟩, a.op ++ [y]⟩ k := by
  have hn : a.came y = none := by
    cases h0 : a.came y with
    | none => rfl
    | some v => rw [h0] at hy; cases hy
  have hl := leftE_upd hm hn ⟨s, x⟩
  have h' := h.bad (x := x) hm hy hs
  refine ⟨h'.dom, fun z hz => ?_, ?_, h'.ord, h'.beg⟩
  · dsimp only at hz
    rcases List.mem_append.1 hz with h1 | h1
    · exact h'.ops z h1
    · rw [List.mem_singleton.1 h1]
      dsimp only
      rw [upd_same]
      rfl
  · have hb := h.bound
    dsimp only
    rw [List.length_append, List.length_cons, List.length_nil]
    omega
theorem EvOk.pop {k : Nat} {came : St → Option Wy} {r : List St} (h : EvOk p b ⟨came, s :: r⟩ (k + 1)) : EvOk p b ⟨came, r⟩ k :=
  ⟨h.dom, fun z hz => h.ops z (List.mem_cons_of_mem _ hz), by have := h.bound; dsimp only at this ⊢; rw [List.length_cons] at this; omega, h.ord, h.beg⟩
theorem evOk_start (hv : p.Valid) (h : p.hasB p.beginT.1 = true) : EvOk p p.beginT.1 (startE p) (p.count + 1) := by
  have hm := (states_mem hv).2 h
  have hl := leftE_upd (came := fun _ => none) hm rfl ⟨St.zero, Sh.zero⟩
  have hc : leftE p.states (fun _ => none) ≤ p.states.length := List.countP_le_length
  rw [states_len] at hc
  refine ⟨fun z hz => ?_, fun z hz => ?_, ?_, ⟨0, ?_, ordE_start _ _⟩, ?_⟩
  · unfold startE updS at hz
    dsimp only at hz
    split at hz
    · rename_i e
      rw [e]
      exact hm
    · cases hz
  · unfold startE at hz ⊢
    dsimp only at hz ⊢
    rw [List.mem_singleton.1 hz, upd_same]
    rfl
  · unfold startE
    dsimp only
    rw [List.length_cons, List.length_nil]
    omega
  · unfold startE
    dsimp only
    omega
  · unfold startE
    dsimp only
    rw [upd_same]
    rfl
def BackOk (came : St → Option Wy) (b : St) (k : Nat) (y : St) : Prop := ∃ rk : St → Nat, (∀ y x, came y = some x → y ≠ b → rk x.st < rk y ∧ (came x.st).isSome = true) ∧ (came y).isSome = true ∧ rk y < k
theorem EvOk.back {k : Nat} (h : EvOk p b a k) (hy : (a.came y).isSome = true) : BackOk a.came b (p.count + 1) y := by
  obtain ⟨n, h1, rk, h2⟩ := h.ord
  refine ⟨rk, fun y x hx hb => (h2 y x hx).2 hb, hy, ?_⟩
  cases h0 : a.came y with
  | none => rw [h0] at hy; cases hy
  | some v =>
    have := (h2 y v h0).1
    omega
theorem back_step {came : St → Option Wy} {k : Nat} (h : BackOk came b (k + 1) y) (hb : y ≠ b) : ∃ v, came y = some v ∧ BackOk came b k v.st ∧ backE came b (k + 1) y = v.sh :: backE came b k v.st := by
  obtain ⟨rk, h1, h2, h3⟩ := h
  cases h0 : came y with
  | none => rw [h0] at h2; cases h2
  | some v =>
    obtain ⟨h4, h5⟩ := h1 y v h0 hb
    refine ⟨v, rfl, ⟨rk, h1, h5, by omega⟩, ?_⟩
    rw [backE, if_neg hb, h0]
theorem back_end (came : St → Option Wy) (b : St) (k : Nat) : backE came b k b = [] := by
  cases k with
  | zero => rfl
  | succ k => rw [backE, if_pos rfl]
theorem back_len (came : St → Option Wy) (b : St) : ∀ (k : Nat) (y : St), (backE came b k y).length ≤ k
  | 0, _ => Nat.le_refl _
  | k + 1, y => by
    rw [backE]
    split
    · exact Nat.zero_le _
    · split
      · rw [List.length_cons]
        have := back_len came b k ‹Wy›.st
        omega
      · exact Nat.zero_le _
theorem back_pos {came : St → Option Wy} {k : Nat} (h : BackOk came b k y) : 0 < k := by
  obtain ⟨_, _, _, h⟩ := h
  omega
theorem escT_some (h : askT p c = 0) (hs : (p.safeT p.beginT.1).1 = true) (hf : escE p c (p.count + 1) (startE p) = (a, some y)) : escT p c = ((backE a.came p.beginT.1 (p.count + 1) y).reverse, true, 0) := by
  rw [escT, if_pos h, if_pos hs, hf]
theorem escT_none (h : askT p c = 0) (hs : (p.safeT p.beginT.1).1 = true) (hf : escE p c (p.count + 1) (startE p) = (a, none)) : escT p c = ([], false, 0) := by
  rw [escT, if_pos h, if_pos hs, hf]
theorem escT_unsafe (h : askT p c = 0) (hs : (p.safeT p.beginT.1).1 = false) : escT p c = ([], true, 0) := by
  rw [escT, if_pos h, if_neg (by rw [hs]; decide)]
theorem escT_err (h : askT p c ≠ 0) : escT p c = ([], false, askT p c) := by
  rw [escT, if_neg h]
end
end Go.Proofs.Ytancngachnpefaa
namespace Go.Proofs.Ytancngachnpefaa
open Go.RowKit
inductive OutP (p : Pl) (c : List Ln) : St → Prop
  | here {s : St} : (p.safeT s).1 = false → OutP p c s
  | next {s y : St} : y ∈ p.foll c s → OutP p c y → OutP p c s
section
variable {p : Pl} {c : List Ln}
theorem add_iff {s : St} : ∀ (ys : List St) (a : (St → List St) × (St → Bool)), (∀ y, a.2 y = true → s ∈ a.1 y) → ∀ y x, x ∈ (ys.foldl (addN s) a).1 y ↔ x ∈ a.1 y ∨ (x = s ∧ y ∈ ys)
  | [], _, _, y, x => by simp
  | z :: ys, a, h, y, x => by
    rw [List.foldl_cons]
    by_cases hz : a.2 z = true
    · rw [show addN s a z = a from if_pos hz, add_iff ys a h y x, List.mem_cons]
      constructor
      · rintro (h1 | ⟨h1, h2⟩)
        · exact .inl h1
        · exact .inr ⟨h1, .inr h2⟩
      · rintro (h1 | ⟨h1, h2 | h2⟩)
        · exact .inl h1
        · rw [h1, h2]
          exact .inl (h z hz)
        · exact .inr ⟨h1, h2⟩
    · rw [show addN s a z = (updF a.1 z (a.1 z ++ [s]), updB a.2 z) from if_neg hz]
      refine (add_iff ys _ (fun y hy => ?_) y x).trans ?_
      · dsimp only [updF, updB] at hy ⊢
        split
        · simp
        · rename_i hyz
          simp [hyz] at hy
          exact h y hy
      · dsimp only [updF]
        rw [List.mem_cons]
        by_cases hy : y = z
        · rw [if_pos hy, List.mem_append, List.mem_singleton, hy]
          constructor
          · rintro ((h1 | h1) | ⟨h1, h2⟩)
            · exact .inl h1
            · exact .inr ⟨h1, .inl rfl⟩
            · exact .inr ⟨h1, .inr h2⟩
          · rintro (h1 | ⟨h1, h2 | h2⟩)
            · exact .inl (.inl h1)
            · exact .inl (.inr h1)
            · exact .inr ⟨h1, h2⟩
        · rw [if_neg hy]
          constructor
          · rintro (h1 | ⟨h1, h2⟩)
            · exact .inl h1
            · exact .inr ⟨h1, .inr h2⟩
          · rintro (h1 | ⟨h1, h2 | h2⟩)
            · exact .inl h1
            · exact absurd h2 hy
            · exact .inr ⟨h1, h2⟩
theorem sweep_is (l : List St) : (∀ y x, x ∈ (sweepI p c l).fr y ↔ x ∈ l ∧ y ∈ p.foll c x) ∧ (∀ s, (sweepI p c l).lost s = true ↔ s ∈ l ∧ (p.safeT s).1 = false) ∧ ∀ s, s ∈ (sweepI p c l).op ↔ s ∈ l ∧ (p.safeT s).1 = false := by
  suffices H : ∀ (m : List St) (a : Iv), (∀ y x, x ∈ (m.foldl (stepI p c) a).fr y ↔ x ∈ a.fr y ∨ (x ∈ m ∧ y ∈ p.foll c x)) ∧ (∀ s, (m.foldl (stepI p c) a).lost s = true ↔ a.lost s = true ∨ (s ∈ m ∧ (p.safeT s).1 = false)) ∧ ∀ s, s ∈ (m.foldl (stepI p c) a).op ↔ s ∈ a.op ∨ (s ∈ m ∧ (p.safeT s).1 = false) by
    obtain ⟨h1, h2, h3⟩ := H l ivZero
    refine ⟨fun y x => ?_, fun s => ?_, fun s => ?_⟩
    · rw [sweepI, h1]; simp [ivZero]
    · rw [sweepI, h2]; simp [ivZero]
    · rw [sweepI, h3]; simp [ivZero]
  intro m
  induction m with
  | nil => intro a; simp
  | cons z m ih =>
    intro a
    rw [List.foldl_cons]
    obtain ⟨h1, h2, h3⟩ := ih (stepI p c a z)
    refine ⟨fun y x => ?_, fun s => ?_, fun s => ?_⟩
    · rw [h1]
      show x ∈ ((p.foll c z).foldl (addN z) (a.fr, fun _ => false)).1 y ∨ _ ↔ _
      rw [add_iff (p.foll c z) (a.fr, fun _ => false) (fun y hy => by cases hy), List.mem_cons]
      dsimp only
      constructor
      · rintro ((h | ⟨h, h'⟩) | ⟨h, h'⟩)
        · exact .inl h
        · exact .inr ⟨.inl h, by rw [h]; exact h'⟩
        · exact .inr ⟨.inr h, h'⟩
      · rintro (h | ⟨h | h, h'⟩)
        · exact .inl (.inl h)
        · exact .inl (.inr ⟨h, by rw [← h]; exact h'⟩)
        · exact .inr ⟨h, h'⟩
    · rw [h2, List.mem_cons]
      show (if (p.safeT z).1 = true then a.lost else updB a.lost z) s = true ∨ _ ↔ _
      cases hz : (p.safeT z).1 with
      | true =>
        rw [if_pos rfl]
        constructor
        · rintro (h | ⟨h, h'⟩)
          · exact .inl h
          · exact .inr ⟨.inr h, h'⟩
        · rintro (h | ⟨h | h, h'⟩)
          · exact .inl h
          · rw [h, hz] at h'
            cases h'
          · exact .inr ⟨h, h'⟩
      | false =>
        rw [if_neg (by decide)]
        unfold updB
        simp only [Bool.or_eq_true, decide_eq_true_eq]
        constructor
        · rintro ((h | h) | ⟨h, h'⟩)
          · exact .inr ⟨.inl h, by rw [h]; exact hz⟩
          · exact .inl h
          · exact .inr ⟨.inr h, h'⟩
        · rintro (h | ⟨h | h, h'⟩)
          · exact .inl (.inr h)
          · exact .inl (.inl h)
          · exact .inr ⟨h, h'⟩
    · rw [h3, List.mem_cons]
      show s ∈ (if (p.safeT z).1 = true then a.op else a.op ++ [z]) ∨ _ ↔ _
      cases hz : (p.safeT z).1 with
      | true =>
        rw [if_pos rfl]
        constructor
        · rintro (h | ⟨h, h'⟩)
          · exact .inl h
          · exact .inr ⟨.inr h, h'⟩
        · rintro (h | ⟨h | h, h'⟩)
          · exact .inl h
          · rw [h, hz] at h'
            cases h'
          · exact .inr ⟨h, h'⟩
      | false =>
        rw [if_neg (by decide), List.mem_append, List.mem_singleton]
        constructor
        · rintro ((h | h) | ⟨h, h'⟩)
          · exact .inl h
          · exact .inr ⟨.inl h, by rw [h]; exact hz⟩
          · exact .inr ⟨.inr h, h'⟩
        · rintro (h | ⟨h | h, h'⟩)
          · exact .inl (.inl h)
          · exact .inl (.inr h)
          · exact .inr ⟨h, h'⟩
theorem marks_is : ∀ (ss : List St) (a : (St → Bool) × List St), (∀ x, (ss.foldl markI a).1 x = true ↔ a.1 x = true ∨ x ∈ ss) ∧ (∀ x, x ∈ (ss.foldl markI a).2 → x ∈ a.2 ∨ (x ∈ ss)) ∧ ∀ x, x ∈ a.2 ∨ (x ∈ ss ∧ a.1 x = false) → x ∈ (ss.foldl markI a).2
  | [], a => by simp
  | s :: ss, a => by
    rw [List.foldl_cons]
    obtain ⟨h1, h2, h3⟩ := marks_is ss (markI a s)
    cases hs : a.1 s with
    | true =>
      have e : markI a s = a := if_pos hs
      rw [e] at h1 h2 h3
      rw [e]
      refine ⟨fun x => ?_, fun x hx => ?_, fun x hx => ?_⟩
      · rw [h1, List.mem_cons]
        constructor
        · rintro (h | h)
          · exact .inl h
          · exact .inr (.inr h)
        · rintro (h | h | h)
          · exact .inl h
          · rw [h]; exact .inl hs
          · exact .inr h
      · rcases h2 x hx with h | h
        · exact .inl h
        · exact .inr (List.mem_cons_of_mem _ h)
      · refine h3 x ?_
        rcases hx with h | ⟨h, h'⟩
        · exact .inl h
        · rcases List.mem_cons.1 h with rfl | h
          · rw [hs] at h'; cases h'
          · exact .inr ⟨h, h'⟩
    | false =>
      have e : markI a s = (updB a.1 s, a.2 ++ [s]) := if_neg (by rw [hs]; decide)
      rw [e] at h1 h2 h3
      rw [e]
      have hu : ∀ x, updB a.1 s x = true ↔ x = s ∨ a.1 x = true := fun x => by
        unfold updB
        simp
      refine ⟨fun x => ?_, fun x hx => ?_, fun x hx => ?_⟩
      · rw [h1]
        dsimp only
        rw [hu, List.mem_cons]
        constructor
        · rintro ((h | h) | h)
          · exact .inr (.inl h)
          · exact .inl h
          · exact .inr (.inr h)
        · rintro (h | h | h)
          · exact .inl (.inr h)
          · exact .inl (.inl h)
          · exact .inr h
      · rcases h2 x hx with h | h
        · dsimp only at h
          rcases List.mem_append.1 h with h | h
          · exact .inl h
          · exact .inr (by rw [List.mem_singleton.1 h]; exact List.mem_cons_self ..)
        · exact .inr (List.mem_cons_of_mem _ h)
      · refine h3 x ?_
        dsimp only
        rcases hx with h | ⟨h, h'⟩
        · exact .inl (List.mem_append_left _ h)
        · rcases List.mem_cons.1 h with rfl | h
          · exact .inl (by simp)
          · by_cases hxs : x = s
            · exact .inl (by simp [hxs])
            · exact .inr ⟨h, by
                cases hq : updB a.1 s x with
                | false => rfl
                | true =>
                  rcases (hu x).1 hq with h9 | h9
                  · exact absurd h9 hxs
                  · rw [h'] at h9; cases h9⟩
theorem bfs_is {fr : St → List St} {l : List St} (hfr : ∀ y, ∀ s ∈ fr y, s ∈ l) {Q : St → Prop} (hQ : ∀ y, Q y → ∀ s ∈ fr y, Q s) : ∀ (n : Nat) (lost : St → Bool) (op : List St), (∀ s, lost s = true → Q s) → (∀ s ∈ op, lost s = true) → (∀ y, lost y = true → y ∈ op ∨ ∀ s ∈ fr y, lost s = true) → op.length + leftI l lost ≤ n →
    (∀ s, bfsI fr n lost op s = true → Q s) ∧ (∀ s, lost s = true → bfsI fr n lost op s = true) ∧ ∀ y, bfsI fr n lost op y = true → ∀ s ∈ fr y, bfsI fr n lost op s = true
  | 0, lost, op, h1, h2, h3, hn => by
    have h0 : op = [] := List.eq_nil_of_length_eq_zero (by omega)
    subst h0
    refine ⟨h1, fun _ h => h, fun y hy => (h3 y hy).resolve_left (by simp)⟩
  | n + 1, lost, [], h1, h2, h3, hn => ⟨h1, fun _ h => h, fun y hy => (h3 y hy).resolve_left (by simp)⟩
  | n + 1, lost, y :: r, h1, h2, h3, hn => by
    obtain ⟨m1, m2, m3⟩ := marks_is (fr y) (lost, r)
    have hm := marks_left (l := l) (fr y) (lost, r) (hfr y)
    rw [List.length_cons] at hn
    dsimp only at hm
    have hy := h2 y (List.mem_cons_self ..)
    obtain ⟨r1, r2, r3⟩ := bfs_is hfr hQ n ((fr y).foldl markI (lost, r)).1 ((fr y).foldl markI (lost, r)).2 (fun s hs => by
        rcases (m1 s).1 hs with h | h
        · exact h1 s h
        · exact hQ y (h1 y hy) s h)
      (fun s hs => by
        rw [m1]
        rcases m2 s hs with h | h
        · exact .inl (h2 s (List.mem_cons_of_mem _ h))
        · exact .inr h)
      (fun z hz => by
        by_cases hzy : z = y
        · rw [hzy]
          exact .inr (fun s hs => (m1 s).2 (.inr hs))
        cases hlz : lost z with
        | true =>
          rcases h3 z hlz with h | h
          · rcases List.mem_cons.1 h with h | h
            · exact absurd h hzy
            · exact .inl (m3 z (.inl h))
          · exact .inr (fun s hs => (m1 s).2 (.inl (h s hs)))
        | false =>
          rcases (m1 z).1 hz with h | h
          · dsimp only at h
            rw [hlz] at h
            cases h
          · exact .inl (m3 z (.inr ⟨h, hlz⟩)))
      (by omega)
    exact ⟨r1, fun s hs => r2 s ((m1 s).2 (.inl hs)), r3⟩
theorem lost_iff (ha : askT p c = 0) {s : St} (hs : s ∈ p.states) : lostI p c s = true ↔ OutP p c s := by
  obtain ⟨f1, f2, f3⟩ := sweep_is (p := p) (c := c) p.states
  have hlen : (sweepI p c p.states).op.length + leftI p.states (sweepI p c p.states).lost ≤ p.count + p.count := by
    have h1 := sweep_op p c p.states ivZero
    have h2 : leftI p.states (sweepI p c p.states).lost ≤ p.states.length := List.countP_le_length
    rw [states_len] at h1 h2
    refine Nat.add_le_add ?_ h2
    have : (ivZero.op).length = 0 := rfl
    rw [this, Nat.zero_add] at h1
    exact h1
  obtain ⟨r1, r2, r3⟩ := bfs_is (fr := (sweepI p c p.states).fr) (l := p.states) (sweep_mem p c p.states) (Q := OutP p c) (fun y hy x hx => .next ((f1 y x).1 hx).2 hy) (p.count + p.count) (sweepI p c p.states).lost (sweepI p c p.states).op (fun x hx => .here ((f2 x).1 hx).2) (fun x hx => (f2 x).2 ((f3 x).1 hx)) (fun y hy => .inl ((f3 y).2 ((f2 y).1 hy))) hlen
  refine ⟨r1 s, fun h => ?_⟩
  induction h with
  | here h => exact r2 _ ((f2 _).2 ⟨hs, h⟩)
  | @next x y hy _ ih =>
    obtain ⟨hv, _⟩ := Pl.check_zero (ask_zero ha).1
    have hys : y ∈ p.states := by
      obtain ⟨z, hz, rfl⟩ := List.mem_map.1 hy
      obtain ⟨h1, h2⟩ := nexts_mem hz
      rw [h2]
      exact (states_mem hv).2 (nextS_has ha hs h1)
    exact r3 y (ih hys) x ((f1 y x).2 ⟨hs, hy⟩)
end
end Go.Proofs.Ytancngachnpefaa
namespace Go.Proofs.Ytancngachnpefaa
open Go.RowKit
section
variable {p : Pl} {c : List Ln} {b : St}
end
end Go.Proofs.Ytancngachnpefaa
namespace Go.Proofs.Ytancngachnpefaa
open Go.RowKit Go.Shelf
def RowF (w : World) (g n : Nat) (f : Nat → Sh) : Prop := ∃ xs, Box w g xs ∧ ∀ k, k < n → xs[k * 2]? = some (.int .i64 (f k).feed) ∧ xs[k * 2 + 1]? = some (.int .i64 (f k).msg)
section
variable {w : World} {g n : Nat} {f f' : Nat → Sh}
theorem RowF.fn (h : RowF w g n f) (hf : ∀ k, k < n → f k = f' k) : RowF w g n f' := h.imp fun _ h => ⟨h.1, fun k hk => by rw [← hf k hk]; exact h.2 k hk⟩
theorem RowF.cell (h : RowF w g n f) {k : Nat} (hk : k < n) : w.cell? ⟨g, k * 2, none⟩ = some (.int .i64 (f k).feed) ∧ w.cell? ⟨g, k * 2 + 1, none⟩ = some (.int .i64 (f k).msg) := by
  obtain ⟨xs, hx, h⟩ := h
  exact ⟨(hx.cell _).trans (h k hk).1, (hx.cell _).trans (h k hk).2⟩
theorem RowF.free (h : RowF w g n f) (i : Nat) : w.frozen? ⟨g, i, none⟩ = false := by
  obtain ⟨xs, hx, _⟩ := h
  exact hx.free i
theorem RowF.lt (h : RowF w g n f) : g < w.heap.size := by
  obtain ⟨xs, hx, _⟩ := h
  exact hx.lt
theorem RowF.put (h : RowF w g n f) {k : Nat} (hk : k < n) (x : Sh) : RowF ((w.setCell ⟨g, k * 2, none⟩ (.int .i64 x.feed)).setCell ⟨g, k * 2 + 1, none⟩ (.int .i64 x.msg)) g n (fun t => if t = k then x else f t) := by
  obtain ⟨xs, hx, h⟩ := h
  refine ⟨_, (hx.set (k * 2) _).set (k * 2 + 1) _, fun t ht => ?_⟩
  obtain ⟨h1, h2⟩ := h t ht
  obtain ⟨h3, h4⟩ := h k hk
  have l3 := (List.getElem?_eq_some_iff.1 h3).1
  have l4 := (List.getElem?_eq_some_iff.1 h4).1
  by_cases e : t = k
  · subst e
    dsimp only
    rw [if_pos rfl]
    constructor
    · rw [List.getElem?_set_ne (by omega), List.getElem?_set_self l3]
    · rw [List.getElem?_set_self (by rw [List.length_set]; exact l4)]
  · dsimp only
    rw [if_neg e]
    constructor
    · rw [List.getElem?_set_ne (by omega), List.getElem?_set_ne (by omega)]
      exact h1
    · rw [List.getElem?_set_ne (by omega), List.getElem?_set_ne (by omega)]
      exact h2
end
def revF (f : Nat → Sh) (n k t : Nat) : Sh := if t < k ∨ n - 1 - k < t then f (n - 1 - t) else f t
theorem rev_any (g n c : Nat) (f : Nat → Sh) (w : World) (hR : Hid (RowF w g n f)) (hn : n ≤ 1048576) :
    Calls Try.prog 52 #[.slice (some ⟨g, 0, none⟩) n c] w fun e w' => (∃ v, e = .returned v) ∧ RowF w' g n (fun t => f (n - 1 - t)) ∧ w.grownBy w' (some g) := by
  have w1 : IntKind.i64.wrap ((n : Int) - 1) = (n : Int) - 1 := by rw [IntKind.wrap_i64]; omega
  have w2 : wrap64 ((n : Int) - 1) = (n : Int) - 1 := by unfold wrap64; omega
  go_enter Try.func52, Try.ntmps52
  go_wp2_with fail
  clear w1 w2
  go_loopw [2, 3] (fun i j wr => ∃ k : Nat, i = .int .i64 k ∧ j = .int .i64 ((n : Int) - 1 - k) ∧ 2 * k ≤ n + 1 ∧ Hid (RowF wr g n (revF f n k)) ∧ w.grownBy wr (some g)) (fun i _ _ => n + 1 - (intOf i).toNat)
  case atStart =>
    refine ⟨0, rfl, by simp, by omega, Lib.hid (hR.out.fn (fun t ht => ?_)), grown_refl _ _⟩
    rw [revF, if_neg (by omega)]
  case round =>
    obtain ⟨k, rfl, rfl, hk, hR, hg⟩ := hrel
    obtain ⟨wo, rfl⟩ : ∃ wo : World, wo = wr := ⟨_, rfl⟩
    rcases Int.lt_or_le (k : Int) ((n : Int) - 1 - k) with hlt | hge
    rotate_left
    · have e0 : ¬ (k : Int) < (n : Int) - 1 - k := by omega
      go_wp2
      go_end0
      refine ⟨⟨_, rfl⟩, hR.out.fn (fun t ht => ?_), hg⟩
      unfold revF
      split
      · rfl
      · congr 1
        omega
    obtain ⟨m, hm⟩ : ∃ m : Nat, (n : Int) - 1 - k = m := ⟨n - 1 - k, by omega⟩
    rw [hm] at hlt ⊢
    have hmn : m + k + 1 = n := by omega
    have HMN := Lib.hid hmn
    have HM := Lib.hid hm
    have hkn : k < n := by omega
    have hmn2 : m < n := by omega
    clear hm hmn
    obtain ⟨a0, a1⟩ := hR.out.cell hkn
    obtain ⟨b0, b1⟩ := hR.out.cell hmn2
    obtain ⟨X, hX⟩ : ∃ X, revF f n k k = X := ⟨_, rfl⟩
    obtain ⟨Y, hY⟩ : ∃ Y, revF f n k m = Y := ⟨_, rfl⟩
    rw [hX] at a0 a1
    rw [hY] at b0 b1
    have HX := Lib.hid hX
    have HY := Lib.hid hY
    clear hX hY
    have fa0 := hR.out.free (k * 2)
    have fa1 := hR.out.free (k * 2 + 1)
    have fb0 := hR.out.free (m * 2)
    have fb1 := hR.out.free (m * 2 + 1)
    have hz := hR.out.lt
    have i0 : (k : Int) < (n : Int) := by omega
    have i1 : (m : Int) < (n : Int) := by omega
    have p1 : wrap64 ((k : Int) + 1) = (k : Int) + 1 := by unfold wrap64; omega
    have p2 : IntKind.i64.wrap ((k : Int) + 1) = (k : Int) + 1 := by rw [IntKind.wrap_i64]; omega
    have p3 : wrap64 ((m : Int) - 1) = (m : Int) - 1 := by unfold wrap64; omega
    have p4 : IntKind.i64.wrap ((m : Int) - 1) = (m : Int) - 1 := by rw [IntKind.wrap_i64]; omega
    have P1 := Lib.hid p1
    have P2 := Lib.hid p2
    have P3 := Lib.hid p3
    have P4 := Lib.hid p4
    clear p1 p2 p3 p4
    go_upto_region 3 with fail
    go_region
    have hR2 : RowF ((((wo.setCell ⟨g, k * 2, none⟩ (.int .i64 Y.feed)).setCell ⟨g, k * 2 + 1, none⟩ (.int .i64 Y.msg)).setCell ⟨g, m * 2, none⟩ (.int .i64 X.feed)).setCell ⟨g, m * 2 + 1, none⟩ (.int .i64 X.msg)).drew g n (fun t => if t = m then X else if t = k then Y else revF f n k t) := (hR.out.put hkn Y).put hmn2 X
    have hg2 : w.grownBy ((((wo.setCell ⟨g, k * 2, none⟩ (.int .i64 Y.feed)).setCell ⟨g, k * 2 + 1, none⟩ (.int .i64 Y.msg)).setCell ⟨g, m * 2, none⟩ (.int .i64 X.feed)).setCell ⟨g, m * 2 + 1, none⟩ (.int .i64 X.msg)).drew (some g) := grown_drewN (grown_cell (grown_cell (grown_cell (grown_cell hg _) _) _) _) 1
    clear a0 a1 b0 b1 fa0 fa1 fb0 fb1 hz hg hR
    generalize ((((wo.setCell ⟨g, k * 2, none⟩ (.int .i64 Y.feed)).setCell ⟨g, k * 2 + 1, none⟩ (.int .i64 Y.msg)).setCell ⟨g, m * 2, none⟩ (.int .i64 X.feed)).setCell ⟨g, m * 2 + 1, none⟩ (.int .i64 X.msg)).drew = wz at hR2 hg2 ⊢
    have HR2 := Lib.hid hR2
    clear hR2
    dsimp only [Exit.inBlock, Exit.then]
    go_wp2
    refine ⟨⟨k + 1, by go_num, ?_, by have := HMN.out; omega, Lib.hid (HR2.out.fn (fun t ht => ?_)), hg2⟩, by simp [intOf]; omega⟩
    · have h1 := HM.out
      congr 1
      omega
    · have h1 := HMN.out
      have h2 := HX.out
      have h3 := HY.out
      rw [← h2, ← h3]
      unfold revF
      by_cases e1 : t = m
      · subst e1
        rw [if_pos rfl, if_neg (by omega), if_pos (by omega)]
        congr 1
        omega
      · rw [if_neg e1]
        by_cases e2 : t = k
        · subst e2
          rw [if_pos rfl, if_neg (by omega), if_pos (by omega)]
          congr 1
          omega
        · rw [if_neg e2]
          by_cases e3 : t < k ∨ n - 1 - k < t
          · rw [if_pos e3, if_pos (by omega)]
          · rw [if_neg e3, if_neg (by omega)]
end Go.Proofs.Ytancngachnpefaa
namespace Go.Proofs.Ytancngachnpefaa
open Go.RowKit Go.Shelf
def markD (r : Nat) : Deferred := { target := .collected r, args := #[] }
structure Gone (rs : List Nat) (w w' : World) : Prop where
  os : w'.os = w.os
  tape : w'.tape = w.tape
  output : w'.output = w.output
  size : w'.heap.size = w.heap.size
  block : ∀ k, k ∉ rs → w'.heap[k]? = w.heap[k]?
theorem Gone.refl (w : World) : Gone [] w w := ⟨rfl, rfl, rfl, rfl, fun _ _ => rfl⟩
theorem Gone.low {rs : List Nat} {w w' : World} (h : Gone rs w w') {n : Nat} (hn : ∀ r ∈ rs, n ≤ r) : Below n w w' :=
  ⟨h.os, h.tape, h.output, Nat.le_of_eq h.size.symm, fun k hk => h.block k (fun hm => by have := hn k hm; omega)⟩
theorem Gone.box {rs : List Nat} {w w' : World} (h : Gone rs w w') (hm : ∀ r ∈ rs, w.heap[r]? = some (.deferred (some []))) {b : Nat} {xs : List Value} (hx : Box w b xs) : Box w' b xs := by
  refine hx.same (h.block b (fun hb => ?_))
  have h1 := hm b hb
  obtain ⟨t, ht⟩ := hx
  rw [h1] at ht
  cases ht
theorem leaves_marks {F : Fence} {n : Nat} {P : Program} {fn : Func} {tmps : Array Value} {R : Ending → World → Prop} {u : FrameMode} (hu : u ≠ .run) : ∀ (rs : List Nat) (w : World), rs.Nodup → (∀ r ∈ rs, w.heap[r]? = some (.deferred (some []))) →
    (∀ w', Gone rs w w' → LeavesIn F n P fn tmps R [] u w') → LeavesInM F n P fn tmps R (rs.map markD) u w
  | [], w, _, _, h => h w (Gone.refl w)
  | r :: rs, w, hd, hm, h => by
    have h1 := hm r (List.mem_cons_self ..)
    obtain ⟨hr, hd2⟩ := List.nodup_cons.1 hd
    refine ⟨hu, .inl ⟨r, _, rfl, run_takeDeferred h1, leaves_marks hu rs _ hd2 (fun q hq => ?_) (fun w' hg => h w' ?_)⟩⟩
    · have hne : q ≠ r := fun e => hr (by rw [← e]; exact hq)
      exact (World.putObj_heap_other hne).trans (hm q (List.mem_cons_of_mem _ hq))
    · refine ⟨hg.os, hg.tape, hg.output, hg.size.trans (by simp), fun k hk => ?_⟩
      have hk1 : k ≠ r := fun e => hk (by rw [e]; exact List.mem_cons_self ..)
      have hk2 : k ∉ rs := fun e => hk (List.mem_cons_of_mem _ e)
      exact (hg.block k hk2).trans (World.putObj_heap_other hk1)
end Go.Proofs.Ytancngachnpefaa
namespace Go.Proofs.Ytancngachnpefaa
open Go.RowKit Go.Shelf
attribute [local go_sem] Oper.semAt_some
theorem bEsc_0 (p : Pl) (c : List Ln) (A2 : Option Addr) (m2 k2 : Nat) (w : World) (er : Int) (h : Hid (askT p c = er)) (h0 : Hid (er ≠ 0)) (hC : Hid (CodeAt w w.heap.size (.slice A2 m2 k2) c)) :
    Calls Try.prog 19 #[p.v, .agg #[.slice A2 m2 k2]] w fun e w' => e = .returned (.tuple #[.slice none 0 0, .bool false, .int .i64 er]) ∧ Below w.heap.size w w' := by
  have hd : (er != 0) = true := by simp [h0.out]
  refine calls_of_wp_marks Try.func19 rfl ?_
  simp only [Try.ntmps19, List.size_toArray, List.length_cons, List.length_nil, Nat.reduceAdd, Nat.reduceSub, Array.replicate_succ, Array.replicate_zero, List.push_toArray, List.append_toArray, List.nil_append, List.cons_append]
  go_wp2_with fail
  have hB := (((((Below.refl w.heap.size w).alloc (by simp <;> omega) (.cells #[.int .i64 p.top, .int .i64 p.bank, .int .i64 p.siphon, .int .i64 p.start, .int .i64 p.positions, .int .i64 p.rate, .int .i64 p.step, .int .i64 p.pass, .int .i64 p.feed, .int .i64 p.pipe, .int .i64 p.orders, .int .i64 p.age] 23)).alloc (by simp <;> omega) (.cells #[.slice A2 m2 k2] 26)).alloc (by simp <;> omega) (.cells #[.slice none 0 0] 47)).alloc (by simp <;> omega) (.cells #[.bool false] 4)).alloc (by simp <;> omega) (.cells #[.int .i64 0] 33)
  have X2 := ((((Box.newAt (w := w) (n := w.heap.size) [.int .i64 p.top, .int .i64 p.bank, .int .i64 p.siphon, .int .i64 p.start, .int .i64 p.positions, .int .i64 p.rate, .int .i64 p.step, .int .i64 p.pass, .int .i64 p.feed, .int .i64 p.pipe, .int .i64 p.orders, .int .i64 p.age] 23 (by simp)).alloc (.cells #[.slice A2 m2 k2] 26)).alloc (.cells #[.slice none 0 0] 47)).alloc (.cells #[.bool false] 4)).alloc (.cells #[.int .i64 0] 33)
  have X3 := (((Box.newAt (w := (w.alloc (.cells #[.int .i64 p.top, .int .i64 p.bank, .int .i64 p.siphon, .int .i64 p.start, .int .i64 p.positions, .int .i64 p.rate, .int .i64 p.step, .int .i64 p.pass, .int .i64 p.feed, .int .i64 p.pipe, .int .i64 p.orders, .int .i64 p.age] 23))) (n := w.heap.size + 1) [.slice A2 m2 k2] 26 (by simp)).alloc (.cells #[.slice none 0 0] 47)).alloc (.cells #[.bool false] 4)).alloc (.cells #[.int .i64 0] 33)
  have X4 := ((Box.newAt (w := ((w.alloc (.cells #[.int .i64 p.top, .int .i64 p.bank, .int .i64 p.siphon, .int .i64 p.start, .int .i64 p.positions, .int .i64 p.rate, .int .i64 p.step, .int .i64 p.pass, .int .i64 p.feed, .int .i64 p.pipe, .int .i64 p.orders, .int .i64 p.age] 23)).alloc (.cells #[.slice A2 m2 k2] 26))) (n := w.heap.size + 1 + 1) [.slice none 0 0] 47 (by simp)).alloc (.cells #[.bool false] 4)).alloc (.cells #[.int .i64 0] 33)
  have X5 := (Box.newAt (w := (((w.alloc (.cells #[.int .i64 p.top, .int .i64 p.bank, .int .i64 p.siphon, .int .i64 p.start, .int .i64 p.positions, .int .i64 p.rate, .int .i64 p.step, .int .i64 p.pass, .int .i64 p.feed, .int .i64 p.pipe, .int .i64 p.orders, .int .i64 p.age] 23)).alloc (.cells #[.slice A2 m2 k2] 26)).alloc (.cells #[.slice none 0 0] 47))) (n := w.heap.size + 1 + 1 + 1) [.bool false] 4 (by simp)).alloc (.cells #[.int .i64 0] 33)
  have X6 := Box.newAt (w := ((((w.alloc (.cells #[.int .i64 p.top, .int .i64 p.bank, .int .i64 p.siphon, .int .i64 p.start, .int .i64 p.positions, .int .i64 p.rate, .int .i64 p.step, .int .i64 p.pass, .int .i64 p.feed, .int .i64 p.pipe, .int .i64 p.orders, .int .i64 p.age] 23)).alloc (.cells #[.slice A2 m2 k2] 26)).alloc (.cells #[.slice none 0 0] 47)).alloc (.cells #[.bool false] 4))) (n := w.heap.size + 1 + 1 + 1 + 1) [.int .i64 0] 33 (by simp)
  generalize (((((w.alloc (.cells #[.int .i64 p.top, .int .i64 p.bank, .int .i64 p.siphon, .int .i64 p.start, .int .i64 p.positions, .int .i64 p.rate, .int .i64 p.step, .int .i64 p.pass, .int .i64 p.feed, .int .i64 p.pipe, .int .i64 p.orders, .int .i64 p.age] 23)).alloc (.cells #[.slice A2 m2 k2] 26)).alloc (.cells #[.slice none 0 0] 47)).alloc (.cells #[.bool false] 4)).alloc (.cells #[.int .i64 0] 33)) = w0 at X2 X3 X4 X5 X6 hB ⊢
  refine (bOpen_bad h h0 (Lib.hid ((hC.out.below hB).more hB.size))).mono ?_
  rintro e w1 ⟨rfl, hb⟩
  replace X2 := X2.later hb
  replace X3 := X3.later hb
  replace X4 := X4.later hb
  replace X5 := X5.later hb
  replace X6 := X6.later hb
  replace hB := hB.trans (hb.mono hB.size)
  clear hb
  clear X2 X3
  simp only [Pl.zero0]
  have X6c0 : w1.cell? ⟨w.heap.size + 1 + 1 + 1 + 1, 0, none⟩ = some (.int .i64 0) := X6.cell 0
  have X6f0 : w1.frozen? ⟨w.heap.size + 1 + 1 + 1 + 1, 0, none⟩ = false := X6.free 0
  have X6z : w.heap.size + 1 + 1 + 1 + 1 < w1.heap.size := X6.lt
  go_upto_region 2 with fail
  clear X6c0 X6f0 X6z
  have hb := ((Below.refl w.heap.size w1).setCell (p := ⟨w.heap.size + 1 + 1 + 1 + 1, 0, none⟩) (by simp <;> omega) (.int .i64 er))
  replace hB := hB.trans hb
  clear hb
  replace X4 := X4.other (a := ⟨w.heap.size + 1 + 1 + 1 + 1, 0, none⟩) (by simp <;> omega) (.int .i64 er)
  replace X5 := X5.other (a := ⟨w.heap.size + 1 + 1 + 1 + 1, 0, none⟩) (by simp <;> omega) (.int .i64 er)
  replace X6 := X6.set 0 (.int .i64 er)
  simp only [List.set_cons_zero] at X6
  generalize w1.setCell ⟨w.heap.size + 1 + 1 + 1 + 1, 0, none⟩ (.int .i64 er) = wx at X4 X5 X6 hB ⊢
  have hb := (Below.refl wx.heap.size wx).alloc (Nat.le_refl _) (.cells #[.int .i64 0, .int .i64 0, .int .i64 0, .int .i64 0, .int .i64 0, .int .i64 0, .int .i64 0, .int .i64 0, .int .i64 0, .int .i64 0, .int .i64 0, .int .i64 0, .slice none 0 0] 83)
  replace X4 := X4.later hb
  replace X5 := X5.later hb
  replace X6 := X6.later hb
  replace hB := hB.trans (hb.mono hB.size)
  clear hb
  generalize wx.alloc (.cells #[.int .i64 0, .int .i64 0, .int .i64 0, .int .i64 0, .int .i64 0, .int .i64 0, .int .i64 0, .int .i64 0, .int .i64 0, .int .i64 0, .int .i64 0, .int .i64 0, .slice none 0 0] 83) = w2 at X4 X5 X6 hB ⊢
  have X4c0 : w2.cell? ⟨w.heap.size + 1 + 1, 0, none⟩ = some (.slice none 0 0) := X4.cell 0
  have X4f0 : w2.frozen? ⟨w.heap.size + 1 + 1, 0, none⟩ = false := X4.free 0
  have X4z : w.heap.size + 1 + 1 < w2.heap.size := X4.lt
  have X5c0 : w2.cell? ⟨w.heap.size + 1 + 1 + 1, 0, none⟩ = some (.bool false) := X5.cell 0
  have X5f0 : w2.frozen? ⟨w.heap.size + 1 + 1 + 1, 0, none⟩ = false := X5.free 0
  have X5z : w.heap.size + 1 + 1 + 1 < w2.heap.size := X5.lt
  have X6c0 : w2.cell? ⟨w.heap.size + 1 + 1 + 1 + 1, 0, none⟩ = some (.int .i64 er) := X6.cell 0
  have X6f0 : w2.frozen? ⟨w.heap.size + 1 + 1 + 1 + 1, 0, none⟩ = false := X6.free 0
  have X6z : w.heap.size + 1 + 1 + 1 + 1 < w2.heap.size := X6.lt
  go_upto_region 3 with fail
  go_region
  have Z4 : Box (((w2.setCell ⟨w.heap.size + 1 + 1, 0, none⟩ (.slice none 0 0)).setCell ⟨w.heap.size + 1 + 1 + 1, 0, none⟩ (.bool false)).setCell ⟨w.heap.size + 1 + 1 + 1 + 1, 0, none⟩ (.int .i64 er)).drew (w.heap.size + 1 + 1) [.slice none 0 0] := (((X4.set 0 (.slice none 0 0)).other (a := ⟨w.heap.size + 1 + 1 + 1, 0, none⟩) (by simp <;> omega) (.bool false)).other (a := ⟨w.heap.size + 1 + 1 + 1 + 1, 0, none⟩) (by simp <;> omega) (.int .i64 er)).drew
  have Z5 : Box (((w2.setCell ⟨w.heap.size + 1 + 1, 0, none⟩ (.slice none 0 0)).setCell ⟨w.heap.size + 1 + 1 + 1, 0, none⟩ (.bool false)).setCell ⟨w.heap.size + 1 + 1 + 1 + 1, 0, none⟩ (.int .i64 er)).drew (w.heap.size + 1 + 1 + 1) [.bool false] := (((X5.other (a := ⟨w.heap.size + 1 + 1, 0, none⟩) (by simp <;> omega) (.slice none 0 0)).set 0 (.bool false)).other (a := ⟨w.heap.size + 1 + 1 + 1 + 1, 0, none⟩) (by simp <;> omega) (.int .i64 er)).drew
  have Z6 : Box (((w2.setCell ⟨w.heap.size + 1 + 1, 0, none⟩ (.slice none 0 0)).setCell ⟨w.heap.size + 1 + 1 + 1, 0, none⟩ (.bool false)).setCell ⟨w.heap.size + 1 + 1 + 1 + 1, 0, none⟩ (.int .i64 er)).drew (w.heap.size + 1 + 1 + 1 + 1) [.int .i64 er] := (((X6.other (a := ⟨w.heap.size + 1 + 1, 0, none⟩) (by simp <;> omega) (.slice none 0 0)).other (a := ⟨w.heap.size + 1 + 1 + 1, 0, none⟩) (by simp <;> omega) (.bool false)).set 0 (.int .i64 er)).drew
  have hBz : Below w.heap.size w (((w2.setCell ⟨w.heap.size + 1 + 1, 0, none⟩ (.slice none 0 0)).setCell ⟨w.heap.size + 1 + 1 + 1, 0, none⟩ (.bool false)).setCell ⟨w.heap.size + 1 + 1 + 1 + 1, 0, none⟩ (.int .i64 er)).drew := (((hB.setCell (p := ⟨w.heap.size + 1 + 1, 0, none⟩) (by simp <;> omega) (.slice none 0 0)).setCell (p := ⟨w.heap.size + 1 + 1 + 1, 0, none⟩) (by simp <;> omega) (.bool false)).setCell (p := ⟨w.heap.size + 1 + 1 + 1 + 1, 0, none⟩) (by simp <;> omega) (.int .i64 er)).drew
  generalize (((w2.setCell ⟨w.heap.size + 1 + 1, 0, none⟩ (.slice none 0 0)).setCell ⟨w.heap.size + 1 + 1 + 1, 0, none⟩ (.bool false)).setCell ⟨w.heap.size + 1 + 1 + 1 + 1, 0, none⟩ (.int .i64 er)).drew = wz at Z4 Z5 Z6 hBz ⊢
  dsimp only [Exit.then]
  go_wp2
  have c4 : wz.cell? ⟨w.heap.size + 1 + 1, 0, none⟩ = some (.slice none 0 0) := Z4.cell 0
  have c5 : wz.cell? ⟨w.heap.size + 1 + 1 + 1, 0, none⟩ = some (.bool false) := Z5.cell 0
  have c6 : wz.cell? ⟨w.heap.size + 1 + 1 + 1 + 1, 0, none⟩ = some (.int .i64 er) := Z6.cell 0
  refine ⟨_, (by simp [results, Try.results19, go_sem, c4, c5, c6] : _ = Result.ok (Value.tuple #[.slice none 0 0, .bool false, .int .i64 er]) _), ?_⟩
  exact ⟨rfl, hBz⟩
theorem bEsc_1 (p : Pl) (c : List Ln) (A2 : Option Addr) (m2 k2 : Nat) (w : World) (h : Hid (askT p c = 0)) (b0 b1 b2 b3 b4 b5 be se : Int) (hbe : Hid (p.beginT = (⟨b0, b1, b2, b3, b4, b5⟩, be))) (hsf : Hid (p.safeT ⟨b0, b1, b2, b3, b4, b5⟩ = (false, se))) (hC : Hid (CodeAt w w.heap.size (.slice A2 m2 k2) c)) :
    Calls Try.prog 19 #[p.v, .agg #[.slice A2 m2 k2]] w fun e w' => e = .returned (.tuple #[.slice none 0 0, .bool true, .int .i64 0]) ∧ Below w.heap.size w w' := by
  refine calls_of_wp_marks Try.func19 rfl ?_
  simp only [Try.ntmps19, List.size_toArray, List.length_cons, List.length_nil, Nat.reduceAdd, Nat.reduceSub, Array.replicate_succ, Array.replicate_zero, List.push_toArray, List.append_toArray, List.nil_append, List.cons_append]
  go_wp2_with fail
  have hB := (((((Below.refl w.heap.size w).alloc (by simp <;> omega) (.cells #[.int .i64 p.top, .int .i64 p.bank, .int .i64 p.siphon, .int .i64 p.start, .int .i64 p.positions, .int .i64 p.rate, .int .i64 p.step, .int .i64 p.pass, .int .i64 p.feed, .int .i64 p.pipe, .int .i64 p.orders, .int .i64 p.age] 23)).alloc (by simp <;> omega) (.cells #[.slice A2 m2 k2] 26)).alloc (by simp <;> omega) (.cells #[.slice none 0 0] 47)).alloc (by simp <;> omega) (.cells #[.bool false] 4)).alloc (by simp <;> omega) (.cells #[.int .i64 0] 33)
  have X2 := ((((Box.newAt (w := w) (n := w.heap.size) [.int .i64 p.top, .int .i64 p.bank, .int .i64 p.siphon, .int .i64 p.start, .int .i64 p.positions, .int .i64 p.rate, .int .i64 p.step, .int .i64 p.pass, .int .i64 p.feed, .int .i64 p.pipe, .int .i64 p.orders, .int .i64 p.age] 23 (by simp)).alloc (.cells #[.slice A2 m2 k2] 26)).alloc (.cells #[.slice none 0 0] 47)).alloc (.cells #[.bool false] 4)).alloc (.cells #[.int .i64 0] 33)
  have X3 := (((Box.newAt (w := (w.alloc (.cells #[.int .i64 p.top, .int .i64 p.bank, .int .i64 p.siphon, .int .i64 p.start, .int .i64 p.positions, .int .i64 p.rate, .int .i64 p.step, .int .i64 p.pass, .int .i64 p.feed, .int .i64 p.pipe, .int .i64 p.orders, .int .i64 p.age] 23))) (n := w.heap.size + 1) [.slice A2 m2 k2] 26 (by simp)).alloc (.cells #[.slice none 0 0] 47)).alloc (.cells #[.bool false] 4)).alloc (.cells #[.int .i64 0] 33)
  have X4 := ((Box.newAt (w := ((w.alloc (.cells #[.int .i64 p.top, .int .i64 p.bank, .int .i64 p.siphon, .int .i64 p.start, .int .i64 p.positions, .int .i64 p.rate, .int .i64 p.step, .int .i64 p.pass, .int .i64 p.feed, .int .i64 p.pipe, .int .i64 p.orders, .int .i64 p.age] 23)).alloc (.cells #[.slice A2 m2 k2] 26))) (n := w.heap.size + 1 + 1) [.slice none 0 0] 47 (by simp)).alloc (.cells #[.bool false] 4)).alloc (.cells #[.int .i64 0] 33)
  have X5 := (Box.newAt (w := (((w.alloc (.cells #[.int .i64 p.top, .int .i64 p.bank, .int .i64 p.siphon, .int .i64 p.start, .int .i64 p.positions, .int .i64 p.rate, .int .i64 p.step, .int .i64 p.pass, .int .i64 p.feed, .int .i64 p.pipe, .int .i64 p.orders, .int .i64 p.age] 23)).alloc (.cells #[.slice A2 m2 k2] 26)).alloc (.cells #[.slice none 0 0] 47))) (n := w.heap.size + 1 + 1 + 1) [.bool false] 4 (by simp)).alloc (.cells #[.int .i64 0] 33)
  have X6 := Box.newAt (w := ((((w.alloc (.cells #[.int .i64 p.top, .int .i64 p.bank, .int .i64 p.siphon, .int .i64 p.start, .int .i64 p.positions, .int .i64 p.rate, .int .i64 p.step, .int .i64 p.pass, .int .i64 p.feed, .int .i64 p.pipe, .int .i64 p.orders, .int .i64 p.age] 23)).alloc (.cells #[.slice A2 m2 k2] 26)).alloc (.cells #[.slice none 0 0] 47)).alloc (.cells #[.bool false] 4))) (n := w.heap.size + 1 + 1 + 1 + 1) [.int .i64 0] 33 (by simp)
  generalize (((((w.alloc (.cells #[.int .i64 p.top, .int .i64 p.bank, .int .i64 p.siphon, .int .i64 p.start, .int .i64 p.positions, .int .i64 p.rate, .int .i64 p.step, .int .i64 p.pass, .int .i64 p.feed, .int .i64 p.pipe, .int .i64 p.orders, .int .i64 p.age] 23)).alloc (.cells #[.slice A2 m2 k2] 26)).alloc (.cells #[.slice none 0 0] 47)).alloc (.cells #[.bool false] 4)).alloc (.cells #[.int .i64 0] 33)) = w0 at X2 X3 X4 X5 X6 hB ⊢
  refine (bOpen_good p c _ _ (Lib.hid (ask_zero h.out).1) (Lib.hid (ask_zero h.out).2) (Lib.hid ((hC.out.below hB).more hB.size))).mono ?_
  rintro e w1 ⟨rfl, hb⟩
  replace X2 := X2.later hb
  replace X3 := X3.later hb
  replace X4 := X4.later hb
  replace X5 := X5.later hb
  replace X6 := X6.later hb
  replace hB := hB.trans (hb.mono hB.size)
  clear hb
  clear X3
  have X6c0 : w1.cell? ⟨w.heap.size + 1 + 1 + 1 + 1, 0, none⟩ = some (.int .i64 0) := X6.cell 0
  have X6f0 : w1.frozen? ⟨w.heap.size + 1 + 1 + 1 + 1, 0, none⟩ = false := X6.free 0
  have X6z : w.heap.size + 1 + 1 + 1 + 1 < w1.heap.size := X6.lt
  go_upto_region 2 with fail
  clear X6c0 X6f0 X6z
  have hb := ((Below.refl w.heap.size w1).setCell (p := ⟨w.heap.size + 1 + 1 + 1 + 1, 0, none⟩) (by simp <;> omega) (.int .i64 0))
  replace hB := hB.trans hb
  clear hb
  replace X2 := X2.other (a := ⟨w.heap.size + 1 + 1 + 1 + 1, 0, none⟩) (by simp <;> omega) (.int .i64 0)
  replace X4 := X4.other (a := ⟨w.heap.size + 1 + 1 + 1 + 1, 0, none⟩) (by simp <;> omega) (.int .i64 0)
  replace X5 := X5.other (a := ⟨w.heap.size + 1 + 1 + 1 + 1, 0, none⟩) (by simp <;> omega) (.int .i64 0)
  replace X6 := X6.set 0 (.int .i64 0)
  simp only [List.set_cons_zero] at X6
  have hG6 : w.heap.size + 1 + 1 + 1 + 1 < w1.heap.size := by simpa using X6.lt
  generalize hsz : w1.setCell ⟨w.heap.size + 1 + 1 + 1 + 1, 0, none⟩ (.int .i64 0) = wx at X2 X4 X5 X6 hB ⊢
  have hsz2 : wx.heap.size = w1.heap.size := by rw [← hsz]; simp
  clear hsz
  have hb := (Below.refl wx.heap.size wx).alloc (Nat.le_refl _) (.cells #[.int .i64 p.top, .int .i64 p.bank, .int .i64 p.siphon, .int .i64 p.start, .int .i64 p.positions, .int .i64 p.rate, .int .i64 p.step, .int .i64 p.pass, .int .i64 p.feed, .int .i64 p.pipe, .int .i64 p.orders, .int .i64 p.age, .slice A2 m2 k2] 83)
  have X7 := Box.newAt (w := wx) (n := w1.heap.size) [.int .i64 p.top, .int .i64 p.bank, .int .i64 p.siphon, .int .i64 p.start, .int .i64 p.positions, .int .i64 p.rate, .int .i64 p.step, .int .i64 p.pass, .int .i64 p.feed, .int .i64 p.pipe, .int .i64 p.orders, .int .i64 p.age, .slice A2 m2 k2] 83 hsz2.symm
  replace X2 := X2.later hb
  replace X4 := X4.later hb
  replace X5 := X5.later hb
  replace X6 := X6.later hb
  replace hB := hB.trans (hb.mono hB.size)
  clear hb
  generalize wx.alloc (.cells #[.int .i64 p.top, .int .i64 p.bank, .int .i64 p.siphon, .int .i64 p.start, .int .i64 p.positions, .int .i64 p.rate, .int .i64 p.step, .int .i64 p.pass, .int .i64 p.feed, .int .i64 p.pipe, .int .i64 p.orders, .int .i64 p.age, .slice A2 m2 k2] 83) = w2 at X2 X4 X5 X6 X7 hB ⊢
  clear hsz2
  generalize w1.heap.size = G at X7 hG6 ⊢
  have X6c0 : w2.cell? ⟨w.heap.size + 1 + 1 + 1 + 1, 0, none⟩ = some (.int .i64 0) := X6.cell 0
  have X6f0 : w2.frozen? ⟨w.heap.size + 1 + 1 + 1 + 1, 0, none⟩ = false := X6.free 0
  have X6z : w.heap.size + 1 + 1 + 1 + 1 < w2.heap.size := X6.lt
  obtain ⟨X2c0, X2f0, X2c1, X2f1, X2c2, X2f2, X2c3, X2f3, X2c4, X2f4, X2c5, X2f5, X2c6, X2f6, X2c7, X2f7, X2c8, X2f8, X2c9, X2f9, X2c10, X2f10, X2c11, X2f11⟩ := X2.f12
  have X2z : w.heap.size < w2.heap.size := X2.lt
  go_wp2_with fail
  clear X6c0 X6f0 X6z
  clear X2c0 X2f0 X2c1 X2f1 X2c2 X2f2 X2c3 X2f3 X2c4 X2f4 X2c5 X2f5 X2c6 X2f6 X2c7 X2f7 X2c8 X2f8 X2c9 X2f9 X2c10 X2f10 X2c11 X2f11 X2z
  refine (begin_is hbe).mono ?_
  rintro e w3 ⟨rfl, hb⟩
  replace X7 := X7.later hb
  replace X4 := X4.later hb
  replace X5 := X5.later hb
  replace X6 := X6.later hb
  replace hB := hB.trans (hb.mono hB.size)
  clear hb
  have hG7 : G < w3.heap.size := X7.lt
  go_upto_region 5 with fail
  have hb := (Below.refl w3.heap.size w3).alloc (Nat.le_refl _) (.cells #[.int .i64 b0, .int .i64 b1, .int .i64 b2, .int .i64 b3, .int .i64 b4, .int .i64 b5] 30)
  have X8 := Box.new w3 [.int .i64 b0, .int .i64 b1, .int .i64 b2, .int .i64 b3, .int .i64 b4, .int .i64 b5] 30
  replace X7 := X7.later hb
  replace X4 := X4.later hb
  replace X5 := X5.later hb
  replace X6 := X6.later hb
  replace hB := hB.trans (hb.mono hB.size)
  clear hb
  generalize w3.alloc (.cells #[.int .i64 b0, .int .i64 b1, .int .i64 b2, .int .i64 b3, .int .i64 b4, .int .i64 b5] 30) = w4 at X4 X5 X6 X7 X8 hB ⊢
  generalize w3.heap.size = B8 at X8 hG7 ⊢
  have X7c0 : w4.cell? ⟨G, 0, none⟩ = some (.int .i64 p.top) := X7.cell 0
  have X7c1 : w4.cell? ⟨G, 1, none⟩ = some (.int .i64 p.bank) := X7.cell 1
  have X7c2 : w4.cell? ⟨G, 2, none⟩ = some (.int .i64 p.siphon) := X7.cell 2
  have X7c3 : w4.cell? ⟨G, 3, none⟩ = some (.int .i64 p.start) := X7.cell 3
  have X7c4 : w4.cell? ⟨G, 4, none⟩ = some (.int .i64 p.positions) := X7.cell 4
  have X7c5 : w4.cell? ⟨G, 5, none⟩ = some (.int .i64 p.rate) := X7.cell 5
  have X7c6 : w4.cell? ⟨G, 6, none⟩ = some (.int .i64 p.step) := X7.cell 6
  have X7c7 : w4.cell? ⟨G, 7, none⟩ = some (.int .i64 p.pass) := X7.cell 7
  have X7c8 : w4.cell? ⟨G, 8, none⟩ = some (.int .i64 p.feed) := X7.cell 8
  have X7c9 : w4.cell? ⟨G, 9, none⟩ = some (.int .i64 p.pipe) := X7.cell 9
  have X7c10 : w4.cell? ⟨G, 10, none⟩ = some (.int .i64 p.orders) := X7.cell 10
  have X7c11 : w4.cell? ⟨G, 11, none⟩ = some (.int .i64 p.age) := X7.cell 11
  have X7c12 : w4.cell? ⟨G, 12, none⟩ = some (.slice A2 m2 k2) := X7.cell 12
  obtain ⟨X8c0, X8c1, X8c2, X8c3, X8c4, X8c5⟩ := X8.c6
  have z7 := X7.lt
  have z8 := X8.lt
  go_wp2_with fail
  clear z7 z8 X7c0 X7c1 X7c2 X7c3 X7c4 X7c5 X7c6 X7c7 X7c8 X7c9 X7c10 X7c11 X7c12 X8c0 X8c1 X8c2 X8c3 X8c4 X8c5
  refine (bSafe_is (p := p) (V := .slice A2 m2 k2) (s := ⟨b0, b1, b2, b3, b4, b5⟩) hsf).mono ?_
  rintro e w5 ⟨rfl, hb⟩
  replace X7 := X7.later hb
  replace X8 := X8.later hb
  replace X4 := X4.later hb
  replace X5 := X5.later hb
  replace X6 := X6.later hb
  replace hB := hB.trans (hb.mono hB.size)
  clear hb
  have X4c0 : w5.cell? ⟨w.heap.size + 1 + 1, 0, none⟩ = some (.slice none 0 0) := X4.cell 0
  have X4f0 : w5.frozen? ⟨w.heap.size + 1 + 1, 0, none⟩ = false := X4.free 0
  have X4z : w.heap.size + 1 + 1 < w5.heap.size := X4.lt
  have X5c0 : w5.cell? ⟨w.heap.size + 1 + 1 + 1, 0, none⟩ = some (.bool false) := X5.cell 0
  have X5f0 : w5.frozen? ⟨w.heap.size + 1 + 1 + 1, 0, none⟩ = false := X5.free 0
  have X5z : w.heap.size + 1 + 1 + 1 < w5.heap.size := X5.lt
  have X6c0 : w5.cell? ⟨w.heap.size + 1 + 1 + 1 + 1, 0, none⟩ = some (.int .i64 0) := X6.cell 0
  have X6f0 : w5.frozen? ⟨w.heap.size + 1 + 1 + 1 + 1, 0, none⟩ = false := X6.free 0
  have X6z : w.heap.size + 1 + 1 + 1 + 1 < w5.heap.size := X6.lt
  go_wp2_with fail
  have Z4 : Box (((w5.setCell ⟨w.heap.size + 1 + 1, 0, none⟩ (.slice none 0 0)).setCell ⟨w.heap.size + 1 + 1 + 1, 0, none⟩ (.bool true)).setCell ⟨w.heap.size + 1 + 1 + 1 + 1, 0, none⟩ (.int .i64 0)) (w.heap.size + 1 + 1) [.slice none 0 0] := (((X4.set 0 (.slice none 0 0)).other (a := ⟨w.heap.size + 1 + 1 + 1, 0, none⟩) (by simp <;> omega) (.bool true)).other (a := ⟨w.heap.size + 1 + 1 + 1 + 1, 0, none⟩) (by simp <;> omega) (.int .i64 0))
  have Z5 : Box (((w5.setCell ⟨w.heap.size + 1 + 1, 0, none⟩ (.slice none 0 0)).setCell ⟨w.heap.size + 1 + 1 + 1, 0, none⟩ (.bool true)).setCell ⟨w.heap.size + 1 + 1 + 1 + 1, 0, none⟩ (.int .i64 0)) (w.heap.size + 1 + 1 + 1) [.bool true] := (((X5.other (a := ⟨w.heap.size + 1 + 1, 0, none⟩) (by simp <;> omega) (.slice none 0 0)).set 0 (.bool true)).other (a := ⟨w.heap.size + 1 + 1 + 1 + 1, 0, none⟩) (by simp <;> omega) (.int .i64 0))
  have Z6 : Box (((w5.setCell ⟨w.heap.size + 1 + 1, 0, none⟩ (.slice none 0 0)).setCell ⟨w.heap.size + 1 + 1 + 1, 0, none⟩ (.bool true)).setCell ⟨w.heap.size + 1 + 1 + 1 + 1, 0, none⟩ (.int .i64 0)) (w.heap.size + 1 + 1 + 1 + 1) [.int .i64 0] := (((X6.other (a := ⟨w.heap.size + 1 + 1, 0, none⟩) (by simp <;> omega) (.slice none 0 0)).other (a := ⟨w.heap.size + 1 + 1 + 1, 0, none⟩) (by simp <;> omega) (.bool true)).set 0 (.int .i64 0))
  have hBz : Below w.heap.size w (((w5.setCell ⟨w.heap.size + 1 + 1, 0, none⟩ (.slice none 0 0)).setCell ⟨w.heap.size + 1 + 1 + 1, 0, none⟩ (.bool true)).setCell ⟨w.heap.size + 1 + 1 + 1 + 1, 0, none⟩ (.int .i64 0)) := (((hB.setCell (p := ⟨w.heap.size + 1 + 1, 0, none⟩) (by simp <;> omega) (.slice none 0 0)).setCell (p := ⟨w.heap.size + 1 + 1 + 1, 0, none⟩) (by simp <;> omega) (.bool true)).setCell (p := ⟨w.heap.size + 1 + 1 + 1 + 1, 0, none⟩) (by simp <;> omega) (.int .i64 0))
  generalize (((w5.setCell ⟨w.heap.size + 1 + 1, 0, none⟩ (.slice none 0 0)).setCell ⟨w.heap.size + 1 + 1 + 1, 0, none⟩ (.bool true)).setCell ⟨w.heap.size + 1 + 1 + 1 + 1, 0, none⟩ (.int .i64 0)) = wz at Z4 Z5 Z6 hBz ⊢
  have c4 : wz.cell? ⟨w.heap.size + 1 + 1, 0, none⟩ = some (.slice none 0 0) := Z4.cell 0
  have c5 : wz.cell? ⟨w.heap.size + 1 + 1 + 1, 0, none⟩ = some (.bool true) := Z5.cell 0
  have c6 : wz.cell? ⟨w.heap.size + 1 + 1 + 1 + 1, 0, none⟩ = some (.int .i64 0) := Z6.cell 0
  refine ⟨_, (by simp [results, Try.results19, go_sem, c4, c5, c6] : _ = Result.ok (Value.tuple #[.slice none 0 0, .bool true, .int .i64 0]) _), ?_⟩
  exact ⟨rfl, hBz⟩
end Go.Proofs.Ytancngachnpefaa
namespace Go.Proofs.Ytancngachnpefaa
open Go.RowKit Go.Shelf
abbrev wayZ : Value := .agg #[.int .i64 0, .int .i64 0, .int .i64 0, .int .i64 0, .int .i64 0, .int .i64 0, .int .i64 0, .int .i64 0]
abbrev CamM (w : World) (B : Nat) (came : St → Option Wy) : Prop := MapS w B (fun y => (came y).map Wy.v)
theorem cam_upd {came : St → Option Wy} (y : St) (x : Wy) : updS (fun z => (came z).map Wy.v) y x.v = fun z => (updS came y x z).map Wy.v := by
  funext z
  unfold updS
  split
  · rfl
  · rfl
theorem zero_way (w : World) : (zeroValue 104).run Try.prog w = .ok wayZ w := by kernel_rfl
theorem cam_none (w : World) : CamM (w.alloc (.map #[] 0)) w.heap.size (fun _ => none) := MapS.made w
theorem cam_look {w : World} {B : Nat} {came : St → Option Wy} {y : St} (h : CamM w B came) (hy : y.Wide) : (Instr.lookup 105 (.map (some B)) y.v false).run Try.prog w = .ok (((came y).map Wy.v).getD wayZ) w :=
  h.look Try.underlying105 (zero_way w) hy
theorem cam_look2 {w : World} {B : Nat} {came : St → Option Wy} {y : St} (h : CamM w B came) (hy : y.Wide) : (Instr.lookup 105 (.map (some B)) y.v true).run Try.prog w = .ok (.tuple #[((came y).map Wy.v).getD wayZ, .bool (came y).isSome]) w := by
  have := h.look2 Try.underlying105 (zero_way w) hy
  rw [Option.isSome_map] at this
  exact this
theorem cam_put {w : World} {B : Nat} {came : St → Option Wy} {y : St} (h : CamM w B came) (hy : y.Wide) (x : Wy) :
    ∃ w', (Instr.mapUpdate 105 (.map (some B)) y.v x.v).run Try.prog w = .ok () w' ∧ CamM w' B (updS came y x) ∧ w.grownBy w' (some B) ∧ w'.heap.size = w.heap.size := by
  obtain ⟨w', h1, h2, h3, h4⟩ := h.put Try.underlying105 hy x.v
  rw [cam_upd] at h2
  exact ⟨w', h1, h2, h3, h4⟩
end Go.Proofs.Ytancngachnpefaa
