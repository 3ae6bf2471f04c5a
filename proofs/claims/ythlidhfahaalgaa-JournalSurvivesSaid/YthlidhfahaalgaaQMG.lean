/-
  Records on sectors after a sync, whole or torn: plain facts. No condition.
-/
import Derived.Test.YthlidhfahaalgaaQJY
import Derived.Test.YthlidhfahaalgaaQJP
import Derived.Test.YthlidhfahaalgaaQMF
import Derived.Test.YthlidhfahaalgaaQMB
namespace Go.Proofs.Ythlidhfahaalgaa
open Go.RowKit

/-- Writes to sectors that follow one another. -/
def Consec (a : Nat) (ws : List Wr) : Prop := ∀ j x, ws[j]? = some x → x.at' = ((a + j : Nat) : Int)
theorem Consec.tail {a : Nat} {x : Wr} {ws : List Wr} (h : Consec a (x :: ws)) : Consec (a + 1) ws := fun j y hy => by
  have := h (j + 1) y (by simpa using hy)
  omega
theorem perf_out {ws : List Wr} : ∀ {S : List Bs} {a i : Nat}, Consec a ws → (i < a ∨ a + ws.length ≤ i) → (perf S ws)[i]? = S[i]? := by
  induction ws with
  | nil => intro S a i _ _; rfl
  | cons x ws ih =>
    intro S a i hc hi
    rw [perf_cons, ih hc.tail (by simp only [List.length_cons] at hi; omega)]
    have h0 := hc 0 x rfl
    rw [List.getElem?_set_ne (by simp only [List.length_cons] at hi; omega)]
theorem perf_in {ws : List Wr} : ∀ {S : List Bs} {a j : Nat} {x : Wr}, Consec a ws → a + ws.length ≤ S.length → ws[j]? = some x → (perf S ws)[a + j]? = some x.data := by
  induction ws with
  | nil => intro S a j x _ _ h; cases h
  | cons y ws ih =>
    intro S a j x hc hl hx
    simp only [List.length_cons] at hl
    rw [perf_cons]
    rcases j with _ | j
    · have h0 := hc 0 y rfl
      rw [perf_out hc.tail (by omega)]
      simp only [List.getElem?_cons_zero, Option.some.injEq] at hx
      subst hx
      have : y.at'.toNat = a := by omega
      rw [this, Nat.add_zero, List.getElem?_set_self (by omega)]
    · rw [show a + (j + 1) = a + 1 + j by omega]
      exact ih hc.tail (by rw [List.length_set]; omega) (by simpa using hx)
theorem Consec.append {a : Nat} {l r : List Wr} (hl : Consec a l) (hr : Consec (a + l.length) r) : Consec a (l ++ r) := fun j x h => by
  rw [List.getElem?_append] at h
  split at h
  · exact hl j x h
  · have := hr _ x h
    omega
theorem recW_get {g a : Nat} {b : Bs} {j : Nat} (hj : j < secT b.length) : (recW g a b)[j]? = some (pieceW g a b j) := by
  simp [recW, hj]
theorem recW_consec (g a : Nat) (b : Bs) : Consec a (recW g a b) := fun j x h => by
  have hj : j < secT b.length := by
    have := (List.getElem?_eq_some_iff.1 h).1
    rwa [recW_length] at this
  rw [recW_get hj] at h
  cases h
  rfl
theorem recsW_consec (g : Nat) (N : List Bs) : ∀ a, Consec a (recsW g a N) := by
  induction N with
  | nil => intro a j x h; cases h
  | cons b N ih => intro a; exact (recW_consec g a b).append (by rw [recW_length]; exact ih _)
/-- The sector of a record's j-th piece. -/
def pieceE (g a : Nat) (b : Bs) (j : Nat) : Bs := encT g (a + j) (kindK (decide (j = 0)) (decide (j + 1 = secT b.length))) (piece b j)

section
variable {S S' : List Bs}
theorem secT_pos (m : Nat) : 1 ≤ secT m := by unfold secT; omega
theorem kindK_nat (b e : Bool) : (kindK b e).toNat = (if b = true then 1 else 0) + (if e = true then 2 else 0) := by cases b <;> cases e <;> rfl
theorem kindB_piece {b : Bs} {j : Nat} (hj : j < secT b.length) : kindB (kindK (decide (j = 0)) (decide (j + 1 = secT b.length))).toNat (piece b j).length = true := by
  rw [kindK_nat, piece_length, kindB]
  unfold secT at *
  simp only [Bool.and_eq_true, decide_eq_true_eq]
  refine ⟨?_, by omega, ?_, ?_⟩
  · split <;> split <;> omega
  · intro h
    split at h <;> split at h <;> omega
  · intro h
    split at h <;> split at h <;> omega
/-- S' bears the record b of generation g at sector a, its first k pieces. -/
def Bears (S' : List Bs) (g a : Nat) (b : Bs) (k : Nat) : Prop := ∀ j, j < k → S'[a + j]? = some (pieceE g a b j)
theorem goodT_pieceE {g a : Nat} {b : Bs} {j : Nat} (hg : 0 < g) (hg2 : g < 4294967296) (ha : a + j < 65536) (hj : j < secT b.length) : goodT (pieceE g a b j) (a + j) = true := enc_good hg hg2 ha (piece_le _ _) (kindB_piece hj)
theorem kindT_pieceE (g a : Nat) (b : Bs) (j : Nat) : kindT (pieceE g a b j) = (if j = 0 then 1 else 0) + (if j + 1 = secT b.length then 2 else 0) := by
  rw [kindT, pieceE, enc_kind, kindK_nat]
  simp
theorem genT_pieceE {g a : Nat} {b : Bs} {j : Nat} (hg2 : g < 4294967296) : genT (pieceE g a b j) = g := enc_gen hg2
theorem recGo_at {g k : Nat} {f : Bool} {s : Bs} (hk : S'[k]? = some s) : recGo g k f (S'.drop k) = if goodT s k = true ∧ decide (kindT s % 2 = 1) = f ∧ genT s = g then (if 2 ≤ kindT s then some (dataT s, 1) else (recGo g (k + 1) false (S'.drop (k + 1))).map fun x => (dataT s ++ x.1, x.2 + 1)) else none := by
  obtain ⟨h, e⟩ := List.getElem?_eq_some_iff.1 hk
  rw [recGo_cons h, e]
theorem recGo_bears {g a : Nat} {b : Bs} (hg : 0 < g) (hg2 : g < 4294967296) (ha : a + secT b.length ≤ 65536) (h : Bears S' g a b (secT b.length)) : recGo g a true (S'.drop a) = some (b, secT b.length) := by
  suffices H : ∀ i j, secT b.length = j + (i + 1) → recGo g (a + j) (decide (j = 0)) (S'.drop (a + j)) = some (b.drop (112 * j), i + 1) by
    have h1 : recGo g a true (S'.drop a) = some (b.drop (112 * 0), secT b.length - 1 + 1) := H (secT b.length - 1) 0 (by have := secT_pos b.length; omega)
    rw [h1, Nat.mul_zero, List.drop_zero]
    congr 2
    have := secT_pos b.length; omega
  intro i
  induction i with
  | zero =>
    intro j hj
    have hjl : j < secT b.length := by omega
    rw [recGo_at (h j hjl), if_pos, if_pos]
    · congr 2
      rw [pieceE, enc_data (piece_le _ _), piece, List.take_of_length_le]
      rw [List.length_drop]
      unfold secT at hj
      omega
    · rw [kindT_pieceE, if_pos hj.symm]; omega
    · refine ⟨goodT_pieceE hg hg2 (by omega) hjl, ?_, genT_pieceE hg2⟩
      rw [kindT_pieceE, if_pos hj.symm]
      by_cases h0 : j = 0
      · rw [if_pos h0, decide_eq_true h0]; rfl
      · rw [if_neg h0, decide_eq_false h0]; rfl
  | succ i ih =>
    intro j hj
    have hjl : j < secT b.length := by omega
    have hne : ¬ j + 1 = secT b.length := by omega
    rw [recGo_at (h j hjl), if_pos, if_neg]
    · have := ih (j + 1) (by omega)
      rw [decide_eq_false (by omega : ¬ j + 1 = 0), ← Nat.add_assoc] at this
      rw [this, pieceE, enc_data (piece_le _ _), piece]
      simp only [Option.map_some]
      congr 2
      rw [show 112 * (j + 1) = 112 * j + 112 by omega, ← List.drop_drop, List.take_append_drop]
    · rw [kindT_pieceE, if_neg hne]; split <;> omega
    · refine ⟨goodT_pieceE hg hg2 (by omega) hjl, ?_, genT_pieceE hg2⟩
      rw [kindT_pieceE, if_neg hne]
      by_cases h0 : j = 0
      · rw [if_pos h0, decide_eq_true h0]; rfl
      · rw [if_neg h0, decide_eq_false h0]; rfl
/-- A record that breaks off at a sector that is not good. -/
theorem recGo_broken {g a k : Nat} {b t : Bs} (hk : k < secT b.length) (h : Bears S' g a b k) (ht : S'[a + k]? = some t) (hb : goodT t (a + k) = false) (g' : Nat) : recGo g' a true (S'.drop a) = none := by
  suffices H : ∀ i j, k = j + i → ∀ f, recGo g' (a + j) f (S'.drop (a + j)) = none from H k 0 (by omega) true
  intro i
  induction i with
  | zero =>
    intro j hj f
    obtain rfl : k = j := by omega
    rw [recGo_at ht, if_neg]
    rintro ⟨h1, _⟩
    rw [hb] at h1
    cases h1
  | succ i ih =>
    intro j hj f
    have hne : ¬ j + 1 = secT b.length := by omega
    have e := recGo_at (g := g') (f := f) (h j (by omega))
    rw [e]
    split
    · rw [if_neg (by rw [kindT_pieceE, if_neg hne]; split <;> omega)]
      have := ih (j + 1) (by omega) false
      rw [← Nat.add_assoc] at this
      rw [this]
      rfl
    · rfl
theorem goodT_kind {s : Bs} {k : Nat} (h : goodT s k = true) : kindB (kindT s) (manyT s) = true := by
  unfold goodT at h
  simp only [Bool.and_eq_true] at h
  exact h.2.1
theorem recGo_size {l : List Bs} (h128 : ∀ s ∈ l, s.length = 128) : ∀ {g k : Nat} {f : Bool} {b : Bs} {n : Nat}, recGo g k f l = some (b, n) → b.length ≤ 112 * n ∧ 112 * (n - 1) ≤ b.length ∧ (f = false ∨ 1 < n → 112 * (n - 1) < b.length) := by
  induction l with
  | nil => intro g k f b n h; cases h
  | cons s r ih =>
    intro g k f b n h
    rw [recGo] at h
    split at h
    · rename_i hc
      obtain ⟨h1, h2, _⟩ := hc
      have hk := goodT_kind h1
      simp only [kindB, Bool.and_eq_true, decide_eq_true_eq] at hk
      obtain ⟨k1, k2, k3, k4⟩ := hk
      have hd := data_length (h128 s List.mem_cons_self) k2
      split at h
      · simp only [Option.some.injEq, Prod.mk.injEq] at h
        obtain ⟨rfl, rfl⟩ := h
        rw [hd]
        refine ⟨by omega, by omega, fun hf => ?_⟩
        rcases hf with rfl | hf
        · have := k4 (by have := of_decide_eq_false h2; omega)
          omega
        · omega
      · cases hr : recGo g (k + 1) false r with
        | none => rw [hr] at h; cases h
        | some x =>
          obtain ⟨b', n'⟩ := x
          rw [hr] at h
          simp only [Option.map_some, Option.some.injEq, Prod.mk.injEq] at h
          obtain ⟨rfl, rfl⟩ := h
          obtain ⟨i1, i2, i3⟩ := ih (fun x hx => h128 x (List.mem_cons_of_mem _ hx)) hr
          have i3 := i3 (.inl rfl)
          have hp := recGo_pos hr
          have := k3 (by omega)
          rw [List.length_append, hd, this]
          refine ⟨by omega, by omega, fun _ => by omega⟩
    · cases h
theorem recGo_sec {l : List Bs} (h128 : ∀ s ∈ l, s.length = 128) {g k : Nat} {b : Bs} {n : Nat} (h : recGo g k true l = some (b, n)) : n = secT b.length := by
  obtain ⟨h1, h2, h3⟩ := recGo_size h128 h
  have hp := recGo_pos h
  unfold secT
  by_cases hn : 1 < n
  · have := h3 (.inr hn)
    omega
  · omega
theorem recGo_agree {g : Nat} : ∀ {n k : Nat} {f : Bool} {b : Bs}, recGo g k f (S.drop k) = some (b, n) → (∀ j, j < n → S'[k + j]? = S[k + j]?) → recGo g k f (S'.drop k) = some (b, n) := by
  intro n
  induction n with
  | zero => intro k f b h; exact absurd (recGo_pos h).1 (by omega)
  | succ n ih =>
    intro k f b h ha
    have hl := (recGo_pos h).2
    rw [List.length_drop] at hl
    have hk : k < S.length := by omega
    have e := List.getElem?_eq_getElem hk
    have e' := ha 0 (by omega)
    rw [Nat.add_zero, e] at e'
    rw [recGo_at e] at h
    rw [recGo_at e']
    split at h
    · rename_i hc
      rw [if_pos hc]
      split at h
      · rename_i h2
        rw [if_pos h2, h]
      · rename_i h2
        rw [if_neg h2]
        cases hr : recGo g (k + 1) false (S.drop (k + 1)) with
        | none => rw [hr] at h; cases h
        | some x =>
          obtain ⟨b', n'⟩ := x
          rw [hr] at h
          simp only [Option.map_some, Option.some.injEq, Prod.mk.injEq] at h
          obtain ⟨rfl, hn⟩ := h
          obtain rfl : n' = n := by omega
          rw [ih hr fun j hj => by rw [show k + 1 + j = k + (j + 1) by omega]; exact ha (j + 1) (by omega)]
          rfl
    · cases h
theorem leftT_inv {k last : Nat} {b : Bs} {R : List Bs} (h : leftT S k last = b :: R) : ∃ (n : Nat) (hk : k < S.length), recGo (genT S[k]) k true (S.drop k) = some (b, n) ∧ ¬ genT S[k] < last ∧ leftT S (k + n) (genT S[k]) = R := by
  rcases Nat.lt_or_ge k S.length with hk | hk
  · by_cases hl : genT S[k] < last
    · rw [leftT_old hk hl] at h; cases h
    · cases hr : recGo (genT S[k]) k true (S.drop k) with
      | none => rw [leftT_none hk hr] at h; cases h
      | some x =>
        obtain ⟨b', n⟩ := x
        rw [leftT_some hk hr hl] at h
        injection h with h1 h2
        subst h1
        exact ⟨n, hk, hr, hl, h2⟩
  · rw [leftT_end hk] at h; cases h
/-- The records that lie ahead of a change stay. -/
theorem left_keep (h128 : ∀ s ∈ S, s.length = 128) : ∀ (m : Nat) {k last : Nat} {R : List Bs}, leftT S k last = R → m ≤ R.length → (∀ i, k ≤ i → i < k + usedT (R.take m) → S'[i]? = S[i]?) →
    ∃ last', (∀ B, last ≤ B → (∀ s ∈ S, genT s ≤ B) → last' ≤ B) ∧ leftT S' k last = R.take m ++ leftT S' (k + usedT (R.take m)) last' ∧ leftT S (k + usedT (R.take m)) last' = R.drop m := by
  intro m
  induction m with
  | zero => intro k last R h _ _; exact ⟨last, fun _ h _ => h, by simp [usedT], by simpa [usedT] using h⟩
  | succ m ih =>
    intro k last R h hm ha
    match R, hm with
    | b :: R, hm =>
      obtain ⟨n, hk, h1, h2, h3⟩ := leftT_inv h
      obtain rfl : n = secT b.length := recGo_sec (fun s hs => h128 s (List.mem_of_mem_drop hs)) h1
      have hu : usedT ((b :: R).take (m + 1)) = secT b.length + usedT (R.take m) := by rw [List.take_succ_cons, usedT_cons]
      rw [hu] at ha ⊢
      have e1 := recGo_agree (S' := S') h1 fun j hj => ha (k + j) (by omega) (by omega)
      have e0 := ha k (Nat.le_refl _) (by have := secT_pos b.length; omega)
      rw [List.getElem?_eq_getElem hk] at e0
      obtain ⟨hk', e0⟩ := List.getElem?_eq_some_iff.1 e0
      obtain ⟨last', i1, i2, i3⟩ := ih h3 (by simpa using hm) fun i hi1 hi2 => ha i (by omega) (by omega)
      refine ⟨last', fun B hB hS => i1 B (hS _ (List.getElem_mem hk)) hS, ?_, ?_⟩
      · rw [leftT_some hk' (by rw [e0]; exact e1) (by rw [e0]; exact h2), e0, i2, List.take_succ_cons, Nat.add_assoc]
        rfl
      · rw [← Nat.add_assoc, i3]; rfl
/-- The first k of the sectors that the records N take, at a. -/
def Wrote (S' : List Bs) (g a : Nat) (N : List Bs) (k : Nat) : Prop := ∀ j x, j < k → (recsW g a N)[j]? = some x → S'[a + j]? = some x.data
theorem Wrote.first {g a k : Nat} {b : Bs} {N : List Bs} (h : Wrote S' g a (b :: N) k) {i : Nat} (hi : i ≤ k) (hi2 : i ≤ secT b.length) : Bears S' g a b i := fun j hj => by
  have e : (recsW g a (b :: N))[j]? = some (pieceW g a b j) := by
    rw [recsW, List.getElem?_append_left (by rw [recW_length]; omega), recW_get (by omega)]
  exact h j _ (by omega) e
theorem Wrote.rest {g a k : Nat} {b : Bs} {N : List Bs} (h : Wrote S' g a (b :: N) k) : Wrote S' g (a + secT b.length) N (k - secT b.length) := fun j x hj hx => by
  have e : (recsW g a (b :: N))[secT b.length + j]? = some x := by
    rw [recsW, List.getElem?_append_right (by rw [recW_length]; omega), recW_length, Nat.add_sub_cancel_left]; exact hx
  have := h _ _ (by omega) e
  rwa [← Nat.add_assoc] at this
theorem left_bears {g a last : Nat} {b : Bs} (hg : 0 < g) (hg2 : g < 4294967296) (ha : a + secT b.length ≤ 65536) (hl : last ≤ g) (h : Bears S' g a b (secT b.length)) : leftT S' a last = b :: leftT S' (a + secT b.length) g := by
  have e := h 0 (secT_pos _)
  rw [Nat.add_zero] at e
  obtain ⟨hk, e0⟩ := List.getElem?_eq_some_iff.1 e
  have eg : genT S'[a] = g := by rw [e0]; exact genT_pieceE hg2
  rw [leftT_some hk (by rw [eg]; exact recGo_bears hg hg2 ha h) (by rw [eg]; omega), eg]
theorem left_wrote {g : Nat} (hg : 0 < g) (hg2 : g < 4294967296) : ∀ {N : List Bs} {a last : Nat}, a + usedT N ≤ 65536 → last ≤ g → Wrote S' g a N (usedT N) → N ≠ [] → leftT S' a last = N ++ leftT S' (a + usedT N) g := by
  intro N
  induction N with
  | nil => intro a last _ _ _ h; exact absurd rfl h
  | cons b N ih =>
    intro a last ha hl hw _
    have hu := usedT_cons b N
    rw [left_bears hg hg2 (by omega) hl (hw.first (by omega) (Nat.le_refl _))]
    rcases N with _ | ⟨b', N'⟩
    · have : usedT [b] = secT b.length := by rw [hu]; rfl
      rw [this]; rfl
    · have := ih (a := a + secT b.length) (last := g) (by omega) (Nat.le_refl _) (by have := hw.rest; rwa [hu, Nat.add_sub_cancel_left] at this) (by simp)
      rw [this, hu, ← Nat.add_assoc]
      rfl
theorem left_torn {g : Nat} {t : Bs} (hg : 0 < g) (hg2 : g < 4294967296) : ∀ {N : List Bs} {a last k : Nat}, a + usedT N ≤ 65536 → last ≤ g → Wrote S' g a N k → k < usedT N → S'[a + k]? = some t → goodT t (a + k) = false → ∃ m, m < N.length ∧ usedT (N.take m) ≤ k ∧ k < usedT (N.take (m + 1)) ∧ leftT S' a last = N.take m := by
  intro N
  induction N with
  | nil => intro a last k _ _ _ h; simp [usedT] at h
  | cons b N ih =>
    intro a last k ha hl hw hk ht hb
    have hu := usedT_cons b N
    rcases Nat.lt_or_ge k (secT b.length) with hkb | hkb
    · refine ⟨0, by simp, by simp [usedT], by rw [List.take_succ_cons, usedT_cons]; omega, ?_⟩
      rcases Nat.eq_zero_or_pos k with rfl | h0
      · rw [Nat.add_zero] at ht
        obtain ⟨hka, e0⟩ := List.getElem?_eq_some_iff.1 ht
        rw [leftT_none hka (recGo_broken (g := g) (b := b) (t := t) (k := 0) hkb (fun j hj => by omega) ht hb _)]
        rfl
      · have hB := hw.first (Nat.le_refl k) (Nat.le_of_lt hkb)
        have e := hB 0 h0
        rw [Nat.add_zero] at e
        obtain ⟨hka, e0⟩ := List.getElem?_eq_some_iff.1 e
        rw [leftT_none hka (recGo_broken hkb hB ht hb _)]
        rfl
    · obtain ⟨m, hm, m1, m2, e⟩ := ih (a := a + secT b.length) (last := g) (k := k - secT b.length) (by omega) (Nat.le_refl _) hw.rest (by omega) (by rw [show a + secT b.length + (k - secT b.length) = a + k by omega]; exact ht) (by rw [show a + secT b.length + (k - secT b.length) = a + k by omega]; exact hb)
      refine ⟨m + 1, by simpa using hm, by rw [List.take_succ_cons, usedT_cons]; omega, by rw [List.take_succ_cons, usedT_cons]; omega, ?_⟩
      rw [left_bears hg hg2 (by omega) hl (hw.first hkb (Nat.le_refl _)), e, List.take_succ_cons]
/-- The records after a sync that was carried out. -/
theorem records_synced {R N : List Bs} {g : Nat} (h128 : ∀ s ∈ S, s.length = 128) (hR : recordsT S = R) (hg : 0 < g) (hg2 : g < 4294967296) (hS : ∀ s ∈ S, genT s < g) (hfit : usedT R + usedT N ≤ 65536) (hl : S'.length = S.length) (h1 : ∀ i, i < usedT R → S'[i]? = S[i]?) (h2 : Wrote S' g (usedT R) N (usedT N)) (h3 : ∀ i, usedT R + usedT N ≤ i → S'[i]? = S[i]?) (hN : N ≠ []) : recordsT S' = R ++ N := by
  obtain ⟨last', i1, i2, _⟩ := left_keep (S' := S') h128 R.length (k := 0) (last := 0) hR (Nat.le_refl _) fun i _ hi => h1 i (by rw [List.take_length] at hi; omega)
  rw [List.take_length, Nat.zero_add] at i2
  rw [recordsT_left, i2, left_wrote hg hg2 hfit (i1 g (Nat.zero_le _) fun s hs => Nat.le_of_lt (hS s hs)) h2 hN]
  have e : leftT S' (usedT R + usedT N) g = [] := by
    rcases Nat.lt_or_ge (usedT R + usedT N) S'.length with hk | hk
    · refine leftT_old hk ?_
      have e := h3 _ (Nat.le_refl _)
      rw [List.getElem?_eq_getElem hk, List.getElem?_eq_getElem (by omega)] at e
      rw [Option.some.inj e]
      exact hS _ (List.getElem_mem _)
    · exact leftT_end hk
  rw [e, List.append_nil]
/-- The records after a sync that was torn. -/
theorem records_torn {R N : List Bs} {g k : Nat} {t : Bs} (h128 : ∀ s ∈ S, s.length = 128) (hR : recordsT S = R) (hg : 0 < g) (hg2 : g < 4294967296) (hS : ∀ s ∈ S, genT s < g) (hfit : usedT R + usedT N ≤ 65536) (h1 : ∀ i, i < usedT R → S'[i]? = S[i]?) (h2 : Wrote S' g (usedT R) N k) (hk : k < usedT N) (ht : S'[usedT R + k]? = some t) (hb : goodT t (usedT R + k) = false) : ∃ m, m < N.length ∧ usedT (N.take m) ≤ k ∧ k < usedT (N.take (m + 1)) ∧ recordsT S' = R ++ N.take m := by
  obtain ⟨last', i1, i2, _⟩ := left_keep (S' := S') h128 R.length (k := 0) (last := 0) hR (Nat.le_refl _) fun i _ hi => h1 i (by rw [List.take_length] at hi; omega)
  rw [List.take_length, Nat.zero_add] at i2
  obtain ⟨m, hm, m1, m2, e⟩ := left_torn hg hg2 hfit (i1 g (Nat.zero_le _) fun s hs => Nat.le_of_lt (hS s hs)) h2 hk ht hb
  exact ⟨m, hm, m1, m2, by rw [recordsT_left, i2, e]⟩
end
end Go.Proofs.Ythlidhfahaalgaa

/-
  Journals on disks: opening, syncing, a stop in the middle, a damaged byte: plain facts. No condition.
-/
namespace Go.Proofs.Ythlidhfahaalgaa
open Go.RowKit

theorem genF_le {l : List Bs} {B : Nat} (h : ∀ s ∈ l, genT s ≤ B ∧ tailT s ≤ B) : ∀ n, n ≤ B → l.foldl genS n ≤ B := by
  induction l with
  | nil => intro n hn; exact hn
  | cons s l ih =>
    intro n hn
    obtain ⟨h1, h2⟩ := h s List.mem_cons_self
    exact ih (fun s hs => h s (List.mem_cons_of_mem _ hs)) _ (by unfold genS; omega)
theorem genM_le {l : List Bs} {B : Nat} (h : ∀ s ∈ l, genT s ≤ B ∧ tailT s ≤ B) : genM l ≤ B := genF_le h 0 (Nat.zero_le _)
theorem genF_ge (l : List Bs) : ∀ n, n ≤ l.foldl genS n := by
  induction l with
  | nil => intro n; exact Nat.le_refl _
  | cons s l ih => intro n; exact Nat.le_trans (by unfold genS; omega) (ih (genS n s))
theorem genF_mem {l : List Bs} {s : Bs} (h : s ∈ l) : ∀ n, genT s ≤ l.foldl genS n ∧ tailT s ≤ l.foldl genS n := by
  induction l with
  | nil => cases h
  | cons x l ih =>
    intro n
    rcases List.mem_cons.1 h with rfl | h
    · have := genF_ge l (genS n s)
      rw [List.foldl_cons]
      unfold genS at this ⊢
      omega
    · exact ih h _
theorem genM_mem {l : List Bs} {s : Bs} (h : s ∈ l) : genT s ≤ genM l ∧ tailT s ≤ genM l := genF_mem h 0
/-- Sectors on which a journal's records R lie. -/
structure GoodS (S : List Bs) (n : Nat) (R : List Bs) (g : Nat) : Prop where
  pos : 1 ≤ n
  le : n ≤ 4096
  len : S.length = n
  rows : ∀ s ∈ S, s.length = 128
  recs : recordsT S = R
  gen : genM S ≤ g
theorem GoodS.mono {S : List Bs} {n : Nat} {R : List Bs} {g g' : Nat} (h : GoodS S n R g) (hg : g ≤ g') : GoodS S n R g' := ⟨h.pos, h.le, h.len, h.rows, h.recs, Nat.le_trans h.gen hg⟩
theorem left_used {S : List Bs} (h128 : ∀ s ∈ S, s.length = 128) : ∀ {R : List Bs} {k last : Nat}, leftT S k last = R → k ≤ S.length → k + usedT R ≤ S.length := by
  intro R
  induction R with
  | nil => intro k last _ h; simpa [usedT] using h
  | cons b R ih =>
    intro k last h hk
    obtain ⟨n, hk', h1, _, h3⟩ := leftT_inv h
    obtain rfl : n = secT b.length := recGo_sec (fun s hs => h128 s (List.mem_of_mem_drop hs)) h1
    have hp := (recGo_pos h1).2
    rw [List.length_drop] at hp
    have := ih h3 (by omega)
    rw [usedT_cons]
    omega
theorem GoodS.used {S : List Bs} {n : Nat} {R : List Bs} {g : Nat} (h : GoodS S n R g) : usedT R ≤ n := by
  have := left_used h.rows (k := 0) (last := 0) h.recs (Nat.zero_le _)
  rw [h.len] at this
  omega
theorem disk_ok {S : List Bs} {n : Nat} {R : List Bs} {g : Nat} {l : Int} {s : Bool} (h : GoodS S n R g) (hl : -1 ≤ l ∧ l ≤ 65536) : (⟨S, [], l, s⟩ : Dk).okB = true :=
  okB_of (by rw [h.len]; exact h.pos) (by rw [h.len]; exact h.le) (Nat.zero_le _) hl.1 hl.2 (fun x hx => by cases hx) h.rows
theorem opened_ok {S : List Bs} {n : Nat} {R : List Bs} {g : Nat} (h : GoodS S n R g) : (⟨R, n, R.length⟩ : Jn).okB = true := by
  have hu := h.used
  have hp := h.pos
  have hl := h.le
  exact (Jn.okB_iff _).2 ⟨by show (1 : Int) ≤ (n : Int); omega, by show (n : Int) ≤ 4096; omega, by show (0 : Int) ≤ (R.length : Int); omega, Int.le_refl _, by show (usedT R : Int) ≤ (n : Int); omega⟩
theorem open_good {S : List Bs} {n : Nat} {R : List Bs} {g : Nat} {l : Int} (h : GoodS S n R g) (hl : -1 ≤ l ∧ l ≤ 65536) : openT ⟨S, [], l, false⟩ = (⟨R, n, R.length⟩, 0) := by
  have hc : (⟨S, [], l, false⟩ : Dk).checkT = 0 := check_good (disk_ok h hl)
  rw [openT, if_neg (by rw [hc]; simp), if_neg (by simp), if_neg (by simp)]
  show ((⟨recordsT S, (S.length : Int), ((recordsT S).length : Int)⟩ : Jn), (0 : Int)) = _
  rw [h.recs, h.len]
/-- What a sync writes. -/
theorem wrote_perf {S : List Bs} {g a k : Nat} {N : List Bs} (h : a + usedT N ≤ S.length) : Wrote (perf S ((recsW g a N).take k)) g a N k := fun j x hj hx => by
  have hl := (List.getElem?_eq_some_iff.1 hx).1
  rw [recsW_length] at hl
  refine perf_in (ws := (recsW g a N).take k) (fun i y hy => recsW_consec g N a i y ?_) ?_ ?_
  · rw [List.getElem?_take] at hy
    split at hy
    · exact hy
    · cases hy
  · rw [List.length_take, recsW_length]; omega
  · rw [List.getElem?_take, if_pos hj]; exact hx
theorem take_consec (g a k : Nat) (N : List Bs) : Consec a ((recsW g a N).take k) := fun i y hy => recsW_consec g N a i y (by
  rw [List.getElem?_take] at hy
  split at hy
  · exact hy
  · cases hy)
theorem enc_tailT {g k : Nat} {kind : UInt8} {b : Bs} (hb : b.length ≤ 112) (hg : g < 4294967296) : tailT (encT g k kind b) = g := enc_tail hb hg
theorem recW_gen {g a : Nat} {b : Bs} {x : Wr} (hg : g < 4294967296) (h : x ∈ recW g a b) : genT x.data = g ∧ tailT x.data = g := by
  obtain ⟨j, hj, rfl⟩ := List.mem_map.1 h
  exact ⟨enc_gen hg, enc_tailT (piece_le _ _) hg⟩
theorem recsW_gen {g : Nat} {N : List Bs} (hg : g < 4294967296) : ∀ {a : Nat} {x : Wr}, x ∈ recsW g a N → genT x.data = g ∧ tailT x.data = g := by
  induction N with
  | nil => intro a x h; cases h
  | cons b N ih =>
    intro a x h
    rw [recsW] at h
    rcases List.mem_append.1 h with h | h
    · exact recW_gen hg h
    · exact ih h
theorem perf_all {S : List Bs} {P : Bs → Prop} {ws : List Wr} (hS : ∀ s ∈ S, P s) (hw : ∀ x ∈ ws, P x.data) : ∀ s ∈ perf S ws, P s := by
  induction ws generalizing S with
  | nil => exact hS
  | cons x ws ih =>
    rw [perf_cons]
    refine ih (fun s hs => ?_) fun y hy => hw y (List.mem_cons_of_mem _ hy)
    rcases List.mem_or_eq_of_mem_set hs with hs | rfl
    · exact hS s hs
    · exact hw x List.mem_cons_self
section
variable {S R N : List Bs} {n g : Nat} {l : Int}
theorem GoodS.synced (h : GoodS S n R g) (hg : g + 1 ≤ 4294967295) (hfit : usedT R + usedT N ≤ n) (hN : N ≠ []) : GoodS (perf S (recsW (genM S + 1) (usedT R) N)) n (R ++ N) (g + 1) := by
  have hge := h.gen
  have hle := h.le
  have hgl : genM S + 1 < 4294967296 := by omega
  refine ⟨h.pos, h.le, by rw [perf_length, h.len], perf_len h.rows fun x hx => (recsW_mem hx).2.2, ?_, ?_⟩
  · have hlen := recsW_length (genM S + 1) (usedT R) N
    refine records_synced (g := genM S + 1) h.rows h.recs (Nat.succ_pos _) hgl (fun s hs => by have := (genM_mem hs).1; omega) (by omega) (perf_length _ _) (fun i hi => perf_out (recsW_consec _ _ _) (.inl hi)) ?_ (fun i hi => perf_out (recsW_consec _ _ _) (.inr (by rw [hlen]; exact hi))) hN
    have := wrote_perf (S := S) (g := genM S + 1) (a := usedT R) (k := usedT N) (N := N) (by rw [h.len]; exact hfit)
    rwa [List.take_of_length_le (by rw [hlen]; exact Nat.le_refl _)] at this
  · refine genM_le (perf_all (P := fun s => genT s ≤ g + 1 ∧ tailT s ≤ g + 1) (fun s hs => by have := genM_mem hs; omega) fun x hx => ?_)
    obtain ⟨e1, e2⟩ := recsW_gen hgl hx
    omega
theorem torn_bad {s t : Bs} {k : Nat} (hs : s.length = 128) (hne : genT s ≠ tailT t) : goodT (s.take 64 ++ t.drop 64) k = false := by
  rcases hb : goodT (s.take 64 ++ t.drop 64) k with _ | _
  · rfl
  · exfalso
    unfold goodT at hb
    simp only [Bool.and_eq_true, decide_eq_true_eq] at hb
    have e := hb.2.2.1
    have e1 : genT (s.take 64 ++ t.drop 64) = genT s := by
      rw [genT, genT, List.take_append_of_le_length (by simp [hs]), List.take_take]
      rfl
    have e2 : (s.take 64 ++ t.drop 64).drop 124 = t.drop 124 := by
      rw [List.drop_append, List.drop_of_length_le (by simp [hs]), List.length_take, hs, List.drop_drop]
      rfl
    rw [e1, e2] at e
    exact hne e
theorem torn_gen {s t : Bs} (hs : s.length = 128) : genT (s.take 64 ++ t.drop 64) = genT s ∧ tailT (s.take 64 ++ t.drop 64) = tailT t := by
  constructor
  · rw [genT, genT, List.take_append_of_le_length (by simp [hs]), List.take_take]
    rfl
  · rw [tailT, tailT, List.drop_append, List.drop_of_length_le (by simp [hs]), List.length_take, hs, List.drop_drop]
    rfl
theorem GoodS.torn {k : Nat} (h : GoodS S n R g) (hg : g + 1 ≤ 4294967295) (hfit : usedT R + usedT N ≤ n) (hk : k < usedT N) (d : Dk) (hd : d.sectors = S) (hp : d.pending = recsW (genM S + 1) (usedT R) N) (hl : d.left = (k : Int)) : ∃ m, m < N.length ∧ GoodS (tornS d) n (R ++ N.take m) (g + 1) := by
  have hge := h.gen
  have hle := h.le
  have hgl : genM S + 1 < 4294967296 := by omega
  have hlen := recsW_length (genM S + 1) (usedT R) N
  obtain ⟨x, hx⟩ : ∃ x, (recsW (genM S + 1) (usedT R) N)[k]? = some x := ⟨_, List.getElem?_eq_getElem (by rw [hlen]; exact hk)⟩
  have hxm := List.mem_of_getElem? hx
  have hat := recsW_consec _ _ _ _ _ hx
  obtain ⟨x1, x2⟩ := recsW_gen hgl hxm
  have x3 := (recsW_mem hxm).2.2
  have hSl := h.len
  have hkS : usedT R + k < S.length := by omega
  have e : tornS d = (perf S ((recsW (genM S + 1) (usedT R) N).take k)).set (usedT R + k) (x.data.take 64 ++ (S[usedT R + k]).drop 64) := by
    rw [tornS, hd, hp, hl]
    have e0 : ((k : Int)).toNat = k := by omega
    have e1 : (recsW (genM S + 1) (usedT R) N).getD k Wr.zero = x := by rw [List.getD_eq_getElem?_getD, hx]; rfl
    have e2 : x.at'.toNat = usedT R + k := by omega
    simp only [e0, e1, e2]
    rw [List.getD_eq_getElem?_getD, perf_out (take_consec _ _ _ _) (.inr (by rw [List.length_take]; omega)), List.getElem?_eq_getElem hkS]
    rfl
  have hpl : (perf S ((recsW (genM S + 1) (usedT R) N).take k)).length = n := by rw [perf_length, hSl]
  have hsk := genM_mem (List.getElem_mem hkS)
  have hbad : goodT (x.data.take 64 ++ (S[usedT R + k]).drop 64) (usedT R + k) = false := torn_bad x3 (by omega)
  have hrec : ∃ m, m < N.length ∧ usedT (N.take m) ≤ k ∧ k < usedT (N.take (m + 1)) ∧ recordsT (tornS d) = R ++ N.take m := by
    rw [e]
    refine records_torn (g := genM S + 1) (k := k) (t := x.data.take 64 ++ (S[usedT R + k]).drop 64) h.rows h.recs (Nat.succ_pos _) hgl (fun s hs => by have := (genM_mem hs).1; omega) (by omega) (fun i hi => ?_) (fun j y hj hy => ?_) hk ?_ hbad
    · rw [List.getElem?_set_ne (by omega), perf_out (take_consec _ _ _ _) (.inl hi)]
    · rw [List.getElem?_set_ne (by omega)]
      exact wrote_perf (by omega) j y hj hy
    · rw [List.getElem?_set_self (by rw [hpl]; omega)]
  obtain ⟨m, hm, _, _, er⟩ := hrec
  refine ⟨m, hm, h.pos, h.le, by rw [e, List.length_set, hpl], ?_, er, ?_⟩
  · rw [e]
    intro s hs
    rcases List.mem_or_eq_of_mem_set hs with hs | rfl
    · exact perf_len h.rows (fun y hy => (recsW_mem (List.mem_of_mem_take hy)).2.2) s hs
    · have := h.rows _ (List.getElem_mem hkS)
      simp [x3, this]
  · rw [e]
    refine genM_le fun s hs => ?_
    rcases List.mem_or_eq_of_mem_set hs with hs | rfl
    · refine perf_all (P := fun s => genT s ≤ g + 1 ∧ tailT s ≤ g + 1) (fun s hs => by have := genM_mem hs; omega) (fun x hx => ?_) s hs
      obtain ⟨e1, e2⟩ := recsW_gen hgl (List.mem_of_mem_take hx)
      omega
    · obtain ⟨t1, t2⟩ := torn_gen (s := x.data) (t := S[usedT R + k]) x3
      rw [t1, t2]
      omega
/-- A sync of a journal with its disk. -/
theorem sync_good (h : GoodS S n R g) (hg : g + 1 ≤ 4294967295) (hl : -1 ≤ l ∧ l ≤ 65536) (hJ : (⟨R ++ N, n, R.length⟩ : Jn).okB = true) :
    (∃ S' l', GoodS S' n (R ++ N) (g + 1) ∧ -1 ≤ l' ∧ l' ≤ 65536 ∧ (l = -1 → l' = -1) ∧ (N = [] → S' = S ∧ l' = l) ∧ (N ≠ [] → S' = perf S (recsW (genM S + 1) (usedT R) N)) ∧ syncJ ⟨R ++ N, n, R.length⟩ ⟨S, [], l, false⟩ = (⟨R ++ N, n, ((R ++ N).length : Nat)⟩, ⟨S', [], l', false⟩, 0)) ∨
    (0 ≤ l ∧ ∃ S' m, m < N.length ∧ GoodS S' n (R ++ N.take m) (g + 1) ∧ syncJ ⟨R ++ N, n, R.length⟩ ⟨S, [], l, false⟩ = (Jn.zero, ⟨S', [], 0, true⟩, 40)) := by
  have hge := h.gen
  have hle := h.le
  have hok := disk_ok (s := false) h hl
  have hc : (⟨S, [], l, false⟩ : Dk).checkT = 0 := check_good hok
  have hfit : usedT R + usedT N ≤ n := by
    obtain ⟨_, _, _, _, g5⟩ := (Jn.okB_iff _).1 hJ
    have g5 : (usedT (R ++ N) : Int) ≤ (n : Int) := g5
    rw [usedT_append] at g5
    omega
  have hrest : syncJ ⟨R ++ N, n, R.length⟩ ⟨S, [], l, false⟩ = if N = [] then (⟨R ++ N, n, R.length⟩, ⟨S, [], l, false⟩, 0) else (fun y : Dk × Int => if y.2 = 0 then (⟨R ++ N, n, ((R ++ N).length : Int)⟩, y.1, 0) else (Jn.zero, y.1, y.2)) (syncT ⟨S, recsW (genM S + 1) (usedT R) N, l, false⟩) := by
    have t1 : ((R.length : Int)).toNat = R.length := by omega
    rw [syncJ, if_pos hJ, if_neg (by rw [hc]; simp), if_neg (by simp), if_neg (by simp [h.len]), if_neg (by
      show ¬ (recordsT S ≠ (R ++ N).take ((R.length : Int)).toNat ∨ 4294967295 < genM S + 1)
      rintro (e | e)
      · exact e (by rw [h.recs, t1, List.take_left' rfl])
      · omega)]
    show (if ((R.length : Nat) : Int) = ((R ++ N).length : Int) then _ else _) = _
    have t2 : (((R.length : Nat) : Int) = ((R ++ N).length : Int)) ↔ N = [] := by
      rw [List.length_append, ← List.length_eq_zero_iff]
      omega
    show _ = if N = [] then _ else _
    by_cases hN : N = []
    · rw [if_pos (t2.2 hN), if_pos hN]
    · rw [if_neg (fun e => hN (t2.1 e)), if_neg hN]
      have t3 : (R ++ N).take ((R.length : Int)).toNat = R := by rw [t1, List.take_left']; rfl
      have t4 : (R ++ N).drop ((R.length : Int)).toNat = N := by rw [t1, List.drop_left']; rfl
      simp only [Dk.adds, List.nil_append, t3, t4]
  rw [hrest]
  by_cases hN : N = []
  · refine .inl ⟨S, l, ?_, hl.1, hl.2, fun h => h, fun _ => ⟨rfl, rfl⟩, fun h => absurd hN h, ?_⟩
    · rw [hN, List.append_nil]; exact h.mono (Nat.le_succ _)
    · rw [if_pos hN, hN, List.append_nil]
  · rw [if_neg hN]
    have hlen := recsW_length (genM S + 1) (usedT R) N
    have hsl := h.len
    have hok2 : (⟨S, recsW (genM S + 1) (usedT R) N, l, false⟩ : Dk).okB = true := by
      refine okB_of (by show 1 ≤ S.length; have := h.pos; omega) (by show S.length ≤ 4096; omega) (by show (recsW (genM S + 1) (usedT R) N).length ≤ 4096; omega) hl.1 hl.2 (fun x hx => ?_) h.rows
      obtain ⟨q1, q2, q3⟩ := recsW_mem hx
      exact ⟨by omega, by show x.at' < (S.length : Int); omega, q3⟩
    rcases ht : tearB (⟨S, recsW (genM S + 1) (usedT R) N, l, false⟩ : Dk) with _ | _
    · rw [sync_go (runs_of hok2 rfl) ht]
      refine .inl ⟨perf S (recsW (genM S + 1) (usedT R) N), if 0 ≤ l then l - ((recsW (genM S + 1) (usedT R) N).length : Int) else l, h.synced hg hfit hN, ?_, ?_, fun e => by rw [e]; rfl, fun e => absurd e hN, fun _ => rfl, rfl⟩
      · have hcond : ¬ (0 ≤ l ∧ l < ((recsW (genM S + 1) (usedT R) N).length : Int)) := by
          simpa [tearB] using ht
        split <;> omega
      · split <;> omega
    · rw [sync_tear (runs_of hok2 rfl) ht]
      have hcond : 0 ≤ l ∧ l < ((recsW (genM S + 1) (usedT R) N).length : Int) := by simpa [tearB] using ht
      obtain ⟨m, hm, hG⟩ := h.torn (N := N) (k := l.toNat) hg hfit (by omega) ⟨S, recsW (genM S + 1) (usedT R) N, l, false⟩ rfl rfl (by show l = _; omega)
      exact .inr ⟨hcond.1, _, m, hm, hG, rfl⟩
end
/-- A new disk. -/
theorem new_good {n : Nat} (h1 : 1 ≤ n) (h2 : n ≤ 4096) : GoodS (List.replicate n zeros) n [] 0 := by
  have hz : ∀ s ∈ List.replicate n zeros, s = zeros := fun s hs => (List.mem_replicate.1 hs).2
  refine ⟨h1, h2, List.length_replicate, fun s hs => by rw [hz s hs]; simp [zeros], ?_, genM_le fun s hs => by rw [hz s hs]; decide⟩
  have hk : 0 < (List.replicate n zeros).length := by rw [List.length_replicate]; exact h1
  rw [recordsT_left, leftT_none hk]
  have e : (List.replicate n zeros)[0]? = some zeros := by rw [List.getElem?_replicate, if_pos (Nat.lt_of_lt_of_le Nat.zero_lt_one h1)]
  rw [recGo_at e, if_neg]
  rintro ⟨h, _⟩
  revert h
  decide
/-- A damaged byte makes a sector bad. -/
theorem set_self {l : Bs} {i : Nat} {c : UInt8} (hi : i < l.length) (h : l.set i c = l) : c = l[i] := by
  have := congrArg (·[i]?) h
  simp only [List.getElem?_set_self hi, List.getElem?_eq_getElem hi] at this
  exact Option.some.inj this
theorem damage_bad {s : Bs} {k i : Nat} {c : UInt8} (hs : s.length = 128) (hi : i < 128) (hc : c ≠ s[i]) (h : goodT s k = true) : goodT (s.set i c) k = false := by
  rcases hb : goodT (s.set i c) k with _ | _
  · rfl
  · exfalso
    unfold goodT at h hb
    simp only [Bool.and_eq_true, decide_eq_true_eq] at h hb
    obtain ⟨_, _, a1, a2, _⟩ := h
    obtain ⟨_, _, b1, b2, _⟩ := hb
    have t4 : (s.set i c).take 4 = (s.take 4).set i c := List.take_set
    have key : ∀ (m : Nat) (l : Bs), l = s.drop m → m ≤ i → i - m < l.length → l.set (i - m) c = l → False := by
      intro m l hl hm hlt he
      subst hl
      have := set_self hlt he
      rw [List.getElem_drop] at this
      exact hc (by rw [this]; congr 1; omega)
    rcases Nat.lt_or_ge i 4 with h4 | h4
    · have e1 : (s.set i c).drop 124 = s.drop 124 := by rw [List.drop_set, if_pos (by omega)]
      rw [e1, ← a1, genT, genT, t4] at b1
      have := numT_inj (by simp) b1
      have := set_self (by simp; omega) this
      rw [List.getElem_take] at this
      exact hc this
    · have g0 : genT (s.set i c) = genT s := by rw [genT, genT, t4, List.set_eq_of_length_le (by simp; omega)]
      rcases Nat.lt_or_ge i 124 with h124 | h124
      · rcases Nat.lt_or_ge i 8 with h8 | h8
        · have e1 : (s.set i c).drop 8 = s.drop 8 := by rw [List.drop_set, if_pos h8]
          have e2 : ((s.set i c).drop 4).take 4 = ((s.drop 4).take 4).set (i - 4) c := by rw [List.drop_set, if_neg (by omega), List.take_set]
          rw [e1, ← a2, e2] at b2
          have := numT_inj (by simp) b2
          have := set_self (by simp; omega) this
          rw [List.getElem_take, List.getElem_drop] at this
          exact hc (by rw [this]; congr 1; omega)
        · have e1 : ((s.set i c).drop 4).take 4 = (s.drop 4).take 4 := by
            rw [List.drop_set, if_neg (by omega), List.take_set, List.set_eq_of_length_le (by simp; omega)]
          have e2 : ((s.set i c).drop 8).take 116 = ((s.drop 8).take 116).set (i - 8) c := by rw [List.drop_set, if_neg (by omega), List.take_set]
          rw [e1, e2, a2] at b2
          have hlt : i - 8 < ((s.drop 8).take 116).length := by simp; omega
          generalize hl : (s.drop 8).take 116 = l at b2 hlt
          have hx : l[i - 8] ≠ c := by
            subst hl
            rw [List.getElem_take, List.getElem_drop]
            intro e
            exact hc (by rw [← e]; congr 1; omega)
          have p1 : l = l.take (i - 8) ++ l[i - 8] :: l.drop (i - 8 + 1) := by rw [← List.drop_eq_getElem_cons hlt, List.take_append_drop]
          have p2 : l.set (i - 8) c = l.take (i - 8) ++ c :: l.drop (i - 8 + 1) := List.set_eq_take_append_cons_drop ▸ (by rw [if_pos hlt])
          rw [p2] at b2
          conv at b2 => lhs; rw [p1]
          exact sumT_ne _ _ hx b2
      · have e1 : (s.set i c).drop 124 = (s.drop 124).set (i - 124) c := by rw [List.drop_set, if_neg (by omega)]
        rw [g0, a1, e1] at b1
        have := numT_inj (by simp) b1
        exact key 124 (s.drop 124) rfl h124 (by simp; omega) this.symm
end Go.Proofs.Ythlidhfahaalgaa

/-
  JournalSurvives: its script as data, opened; records appended: plain facts. No condition.
-/
namespace Go.Proofs.Ythlidhfahaalgaa
open Go.ChangeShapes Go.WideShapes Go.ChangeAt Go.RowKit Go.Joins Go.Deep

theorem u8_is {x : Int} (h : (Lit.int .u8 x).wf = true) : ∃ c : UInt8, x = (c.toNat : Int) := by
  obtain ⟨h1, h2⟩ := bounds_u8 h
  refine ⟨UInt8.ofNat x.toNat, ?_⟩
  rw [UInt8.toNat_ofNat']
  omega
structure Cr where
  records : List Bs
  stop : Bool
  left : UInt8
def Cr.zero : Cr := ⟨[], false, 0⟩
def crCells (l : List Cr) (V : Nat → Value) (i j : Nat) : Value := if j = 0 then V i else if j = 1 then .bool (l.getD i Cr.zero).stop else .int .u8 (((l.getD i Cr.zero).left).toNat : Int)
/-- v is a slice of the writings l. -/
def CrAt (w : World) (S : Nat → Prop) (v : Value) (l : List Cr) : Prop := SlF v ∧ ∃ V : Nat → Value, SlP w S 3 l.length (crCells l V) v ∧ ∀ (i : Nat) (x : Cr), l[i]? = some x → RwAt w S (V i) x.records
theorem CrAt.keep {w w' : World} {S : Nat → Prop} {v : Value} {l : List Cr} (h : CrAt w S v l) (hk : Keeps S w w') : CrAt w' S v l := by
  obtain ⟨h0, V, h1, h2⟩ := h
  exact ⟨h0, V, h1.keep hk, fun i x hx => (h2 i x hx).keep hk⟩
theorem CrAt.weak {w : World} {S S' : Nat → Prop} {v : Value} {l : List Cr} (h : CrAt w S v l) (hk : ∀ b, S b → b < w.heap.size → S' b) : CrAt w S' v l := by
  obtain ⟨h0, V, h1, h2⟩ := h
  exact ⟨h0, V, h1.weak hk, fun i x hx => (h2 i x hx).weak hk⟩
theorem CrAt.form {w : World} {S : Nat → Prop} {v : Value} {l : List Cr} (h : CrAt w S v l) : ∃ A c, v = .slice A l.length c ∧ l.length ≤ maxLen := by
  obtain ⟨_, V, h1, _⟩ := h
  exact h1.form
theorem crAt_nil (w : World) (S : Nat → Prop) : CrAt w S (.slice none 0 0) [] := ⟨.inl rfl, fun _ => undef, slP_nil w S 3 _, fun i x hx => by simp at hx⟩
theorem CrAt.cell {w : World} {S : Nat → Prop} {A : Option Addr} {n c : Nat} {l : List Cr} (h : CrAt w S (.slice A n c) l) {k : Nat} (hk : k < l.length) :
    ∃ b off Ar cr, A = some ⟨b, off, none⟩ ∧ S b ∧ b < w.heap.size ∧ w.cell? ⟨b, off + k * 3, none⟩ = some (.slice Ar (l[k]).records.length cr) ∧ w.cell? ⟨b, off + k * 3 + 1, none⟩ = some (.bool (l[k]).stop) ∧ w.cell? ⟨b, off + k * 3 + 2, none⟩ = some (.int .u8 ((l[k]).left.toNat : Int)) ∧ RwAt w S (.slice Ar (l[k]).records.length cr) (l[k]).records := by
  obtain ⟨_, V, ⟨A', c', hv, _, h1⟩, h2⟩ := h
  cases hv
  obtain ⟨b, off, rfl, hS, hb, h3⟩ := h1 k hk
  have e : l.getD k Cr.zero = l[k] := by rw [List.getD_eq_getElem?_getD, List.getElem?_eq_getElem hk]; rfl
  have hr := h2 k _ (List.getElem?_eq_getElem hk)
  obtain ⟨Ar, cr, hV, _⟩ := hr.form
  have c0 := h3 0 (by omega)
  have c1 := h3 1 (by omega)
  have c2 := h3 2 (by omega)
  unfold crCells at c0 c1 c2
  rw [e] at c1 c2
  rw [hV] at hr
  exact ⟨b, off, Ar, cr, rfl, hS, hb, by simpa [hV] using c0, by simpa [Nat.add_assoc] using c1, by simpa [Nat.add_assoc] using c2, hr⟩
section
variable {H : Type} {enc : TypeId × Value → H} {w : World} {base : Nat} {spare : Nat → Bool} {held : Bool}
theorem trod_crs {n : Nat} {v : Value} {y : DataW H × List MemPlace} (h : DataW.trod enc Try.prog w base spare held n 53 [v] = some y) : ∃ q : List Cr, CrAt w (Live w) v q ∧ (Fits 53 y.1 → ∀ x ∈ q, ∀ b ∈ x.records, b.length ≤ reachBytes) := by
  rcases open_slice_fields Try.underlying53 Try.underlying55 (by kernel_rfl) (by kernel_rfl) h with ⟨h0, _⟩ | ⟨a, len, cap, m, D, Pl, h0, hb, hl, hc, hm, hx, hf⟩
  · obtain rfl : v = .slice none 0 0 := by simpa using h0
    exact ⟨[], crAt_nil _ _, fun _ x hx => by cases hx⟩
  · obtain rfl : v = .slice (some a) len cap := by simpa using h0
    have hlm : len ≤ m := by rw [hm]; split <;> omega
    obtain ⟨ls, hcs, hp⟩ := exists_list (fun i (l : Value × Cr) => w.cell? (a.add (i * 3 + 0)) = some l.1 ∧ w.cell? (a.add (i * 3 + 1)) = some (.bool l.2.stop) ∧ w.cell? (a.add (i * 3 + 2)) = some (.int .u8 (l.2.left.toNat : Int)) ∧ RwAt w (Live w) l.1 l.2.records ∧ (Fits 55 (D i) → ∀ b ∈ l.2.records, b.length ≤ reachBytes)) len (fun i hi => by
      obtain ⟨ys, k, hD, _, _, hj⟩ := hf i (by omega)
      obtain ⟨v0, y0, e0, g0, t0⟩ := hj 0 _ rfl
      obtain ⟨v1, y1, e1, _, t1⟩ := hj 1 _ rfl
      obtain ⟨v2, y2, e2, _, t2⟩ := hj 2 _ rfl
      obtain ⟨rs, hrs, hfit⟩ := trod_rows t0
      obtain ⟨b1, rfl⟩ := cell_bool t1
      obtain ⟨x2, rfl, w2⟩ := cell_int Try.underlying5 t2
      obtain ⟨c2, rfl⟩ := u8_is w2
      refine ⟨(v0, ⟨rs, b1, c2⟩), e0, e1, e2, hrs, fun hF => hfit ?_⟩
      rw [hD] at hF
      exact fits_field Try.underlying55 hF (j := 0) rfl (by rw [List.getElem?_map, g0]; rfl))
    refine ⟨ls.map (·.2), ⟨.inr ⟨a, len, cap, rfl, hl, hc⟩, fun i => (ls[i]?.map (·.1)).getD undef, ⟨some a, cap, by simp [hcs], by simp; omega, fun i hi => ?_⟩, fun i l hl => ?_⟩, fun hfit x hx' => ?_⟩
    · have hi : i < ls.length := by simpa using hi
      have hs : a.spot = none := by
        obtain ⟨q0, _⟩ := hp 0 _ (List.getElem?_eq_getElem (by omega))
        exact spot_none q0
      obtain ⟨b, off, sp⟩ := a
      obtain rfl : sp = none := hs
      obtain ⟨q0, q1, q2, _⟩ := hp i _ (List.getElem?_eq_getElem hi)
      rw [add_at] at q0 q1 q2
      refine ⟨b, off, rfl, World.block_lt_of_cell? _ _ q0, World.block_lt_of_cell? _ _ q0, fun j hj => ?_⟩
      dsimp only [crCells]
      rw [List.getD_eq_getElem?_getD, List.getElem?_map, List.getElem?_eq_getElem hi]
      rcases (show j = 0 ∨ j = 1 ∨ j = 2 by omega) with rfl | rfl | rfl
      · exact q0
      · exact q1
      · exact q2
    · rw [List.getElem?_map] at hl
      cases hq : ls[i]? with
      | none => rw [hq] at hl; cases hl
      | some q =>
        rw [hq] at hl
        cases hl
        obtain ⟨_, _, _, q3, _⟩ := hp i q hq
        dsimp only
        rw [hq]
        exact q3
    · obtain ⟨l, hl2, rfl⟩ := List.mem_map.1 hx'
      obtain ⟨i, hi, rfl⟩ := List.getElem_of_mem hl2
      refine (hp i _ (List.getElem?_eq_getElem hi)).2.2.2.2 ?_
      subst hx
      exact fits_elem Try.underlying53 hfit (List.mem_map.2 ⟨i, List.mem_range.2 (by omega), rfl⟩)
theorem open_crs {r : Reach} {b0 : Nat} {v : Value} {d : DataW H} {p : List MemPlace} (hv : Value.okWide Try.prog w r b0 53 v) (h : DataW.Trod enc Try.prog w base spare held 53 v d p) (hfit : Fits 53 d) : ∃ l, CrAt w (Live w) v l ∧ ∀ x ∈ l, ∀ b ∈ x.records, b.length ≤ 140737488351232 := by
  obtain ⟨A, len0, cap0, rfl⟩ := okWide_slice Try.underlying53 hv
  obtain ⟨n, h⟩ := h
  obtain ⟨l, h1, h2⟩ := trod_crs (show DataW.trod enc Try.prog w base spare held n 53 [.slice A len0 cap0] = some (d, p) from h)
  have e : reachBytes = 140737488351232 := rfl
  rw [← e]
  exact ⟨l, h1, h2 hfit⟩
end
/-! Records appended. -/
/-- The journal with records R, and N behind them. -/
structure Jnd (J : Jn) (R N : List Bs) (n : Nat) : Prop where
  ok : J.okB = true
  is : J = ⟨R ++ N, n, R.length⟩
theorem sumB_used (l : List Bs) : sumB l ≤ 113 * usedT l := by
  induction l with
  | nil => simp [sumB]
  | cons b l ih =>
    rw [usedT_cons]
    simp only [sumB, List.foldr_cons] at ih ⊢
    have : b.length ≤ 112 * secT b.length := by unfold secT; omega
    have := secT_pos b.length
    omega
theorem ok_sum {J : Jn} (h : J.okB = true) : sumB J.records ≤ 4194304 := by
  obtain ⟨g1, g2, g3, g4, g5⟩ := J.okB_iff.1 h
  have := sumB_used J.records
  omega
theorem Jnd.more {J : Jn} {R N : List Bs} {n : Nat} {b : Bs} (h : Jnd J R N n) (he : (appendT J b).2 = 0) : Jnd (appendT J b).1 R (N ++ [b]) n := by
  obtain ⟨ok, rfl⟩ := h
  rw [appendT, if_pos ok] at he ⊢
  obtain ⟨g1, g2, g3, g4, g5⟩ := (Jn.okB_iff _).1 ok
  by_cases hc : ((⟨R ++ N, n, R.length⟩ : Jn).many - (usedT (⟨R ++ N, n, R.length⟩ : Jn).records : Int) < (secT b.length : Int))
  · rw [if_pos hc] at he; cases he
  · rw [if_neg hc]
    dsimp only at hc g1 g2 g3 g4 g5
    refine ⟨(Jn.okB_iff _).2 ⟨g1, g2, g3, ?_, ?_⟩, by simp⟩
    · simp only [List.length_append, List.length_cons] at g4 ⊢; omega
    · simp only [usedT_append] at g5 hc ⊢
      have : usedT [b] = secT b.length := by rw [usedT_cons]; rfl
      omega
theorem append_err (J : Jn) (b : Bs) : (appendT J b).2 = 0 ∨ (appendT J b).2 ≠ 0 ∧ (appendT J b).1 = Jn.zero := by
  unfold appendT
  split
  · split
    · exact .inr ⟨by simp, rfl⟩
    · exact .inl rfl
  · exact .inr ⟨by simp, rfl⟩
theorem Jnd.jn {J : Jn} {R N : List Bs} {n : Nat} (h : Jnd J R N n) : JnIs J (R.length + N.length) n R.length := by
  obtain ⟨_, rfl⟩ := h
  exact ⟨by simp, rfl, rfl⟩
end Go.Proofs.Ythlidhfahaalgaa
