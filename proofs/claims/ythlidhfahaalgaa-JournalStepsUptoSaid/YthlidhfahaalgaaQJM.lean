/- Records on sectors, as plain data; bytes appended to an own row. No condition. -/
import Derived.Test.YthlidhfahaalgaaQJL
import Derived.RangeFuncNested
import Derived.RangeFuncBound
import Derived.RangeFuncCalls
import Derived.RangeFuncLeaves
import Derived.RangeFuncBox
import Derived.Shelf.Abstract
import Derived.Shelf.RegionOpen
import Derived.OwnWalkIn
import Derived.TacticsInMore
import Derived.LoopNIn
import Derived.LoopIn
import Derived.Test.YthlidhfahaalgaaQK
import Derived.Deep.CutBlock
import Derived.Deep.LoopGhost
import Derived.Test.YthlidhfahaalgaaQDM
set_option linter.unusedVariables false
set_option linter.unusedSimpArgs false
set_option maxRecDepth 100000
set_option maxHeartbeats 16000000
namespace Go.Proofs.Ythlidhfahaalgaa
open Go.RowKit
def recGo (g : Nat) (k : Nat) (first : Bool) : List Bs → Option (Bs × Nat)
  | [] => none
  | s :: r => if goodT s k = true ∧ decide (kindT s % 2 = 1) = first ∧ genT s = g then (if 2 ≤ kindT s then some (dataT s, 1) else (recGo g (k + 1) false r).map fun x => (dataT s ++ x.1, x.2 + 1)) else none
def recsT : Nat → Nat → Nat → List Bs → List Bs
  | 0, _, _, _ => []
  | f + 1, k, last, l => match l with
    | [] => []
    | s :: _ => match recGo (genT s) k true l with
      | none => []
      | some (b, n) => if genT s < last then [] else b :: recsT f (k + n) (genT s) (l.drop n)
def recordsT (l : List Bs) : List Bs := recsT (l.length + 1) 0 0 l
theorem recGo_pos {g k : Nat} {first : Bool} {l : List Bs} {b : Bs} {n : Nat} (h : recGo g k first l = some (b, n)) : 1 ≤ n ∧ n ≤ l.length := by
  induction l generalizing k first b n with
  | nil => cases h
  | cons s r ih =>
    rw [recGo] at h
    split at h
    · split at h
      · injection h with h; injection h with h1 h2; subst h2; simp
      · cases hr : recGo g (k + 1) false r with
        | none => rw [hr] at h; cases h
        | some x =>
          obtain ⟨b', n'⟩ := x
          rw [hr] at h
          injection h with h; injection h with h1 h2
          have := ih hr
          subst h2
          simp only [List.length_cons]
          omega
    · cases h
theorem recsT_fuel (f : Nat) : ∀ (f' k last : Nat) (l : List Bs), l.length < f → l.length < f' → recsT f k last l = recsT f' k last l := by
  induction f with
  | zero => intro f' k last l h; omega
  | succ f ih =>
    intro f' k last l h1 h2
    obtain ⟨f', rfl⟩ : ∃ m, f' = m + 1 := ⟨f' - 1, by omega⟩
    rcases l with _ | ⟨s, r⟩
    · rfl
    · unfold recsT
      dsimp only
      cases hr : recGo (genT s) k true (s :: r) with
      | none => rfl
      | some x =>
        obtain ⟨b, n⟩ := x
        have := recGo_pos hr
        dsimp only
        split
        · rfl
        · rw [ih f' _ _ _ (by rw [List.length_drop]; omega) (by rw [List.length_drop]; omega)]
def leftT (l : List Bs) (k last : Nat) : List Bs := recsT (l.length + 1) k last (l.drop k)
theorem recordsT_left (l : List Bs) : recordsT l = leftT l 0 0 := rfl
theorem leftT_end {l : List Bs} {k last : Nat} (h : l.length ≤ k) : leftT l k last = [] := by
  rw [leftT, List.drop_of_length_le h]; rfl
theorem leftT_none {l : List Bs} {k last : Nat} (hk : k < l.length) (h : recGo (genT l[k]) k true (l.drop k) = none) : leftT l k last = [] := by
  rw [List.drop_eq_getElem_cons hk] at h
  rw [leftT, List.drop_eq_getElem_cons hk, recsT, h]
theorem leftT_old {l : List Bs} {k last : Nat} (hk : k < l.length) (h : genT l[k] < last) : leftT l k last = [] := by
  rw [leftT, List.drop_eq_getElem_cons hk, recsT]
  cases recGo (genT l[k]) k true (l[k] :: l.drop (k + 1)) with
  | none => rfl
  | some x => obtain ⟨b, n⟩ := x; simp only [h, if_true]
theorem leftT_some {l : List Bs} {k last n : Nat} {b : Bs} (hk : k < l.length) (h : recGo (genT l[k]) k true (l.drop k) = some (b, n)) (hl : ¬ genT l[k] < last) : leftT l k last = b :: leftT l (k + n) (genT l[k]) := by
  have hp := recGo_pos h
  have h2 := h
  rw [List.drop_eq_getElem_cons hk] at h2
  rw [leftT, List.drop_eq_getElem_cons hk, recsT, h2]
  dsimp only
  rw [if_neg hl, ← List.drop_eq_getElem_cons hk, List.drop_drop, leftT]
  rw [recsT_fuel l.length (l.length + 1) _ _ _ (by rw [List.length_drop]; omega) (by rw [List.length_drop]; omega)]
theorem run_appB {w : World} {base n c : Nat} {A : Option Addr} {S : Nat → Prop} {V : Value} {l b : Bs} (ty : TypeId) (ho : OwnBs w base V l) (hb : BsAt w S (.slice A n c) b) (hbase : base ≤ w.heap.size) (hl : l.length + b.length ≤ 1048576) :
    ∃ V' w', (appF #[35, 35] ty #[V, .slice A n c]).run Try.prog w = .ok V' w' ∧ OwnBs w' base V' (l ++ b) ∧ w.grownBy w' V.ownBlock := by
  obtain ⟨i, E⟩ := elem_by
  have ho' : w.ownsRow base 5 1 V l.length (flat l.length 1 (fun i _ => .int .u8 ((l.getD i 0).toNat : Int))) := by rw [byV_flat]; exact ho
  obtain ⟨V', w', hr, h1, h2⟩ := run_app_own (E := E) ty ho' hb.2.sl hb.1 (fun _ _ _ _ => rfl) (by simp only [maxLen]; omega) (by omega) hbase
  refine ⟨V', w', hr, ?_, h2⟩
  rw [flat_cat _ _ _ (by decide), byV_flat, byV_flat, ← byV_append] at h1
  rw [OwnBs, List.length_append]
  exact h1
theorem ownBs_nil (w : World) (base : Nat) : OwnBs w base (.slice none 0 0) [] := by
  unfold OwnBs
  exact ⟨by simp [byV], .inl ⟨rfl, rfl⟩⟩
theorem own_below {w w' : World} {base n e : Nat} {V : Value} {xs : List Value} (h : w.ownsRow base e 1 V n xs) (hbase : base ≤ w.heap.size) (hg : w.grownBy w' V.ownBlock) : Below base w w' := by
  refine (Below.refl base w).grown hg hbase fun k hk => ?_
  rcases h.2 with ⟨rfl, _⟩ | ⟨g, cap, cur, rfl, hgb, _⟩
  · cases hk
  · have : g = k := by simpa [Value.ownBlock] using hk
    omega
end Go.Proofs.Ythlidhfahaalgaa
namespace Go.Proofs.Ythlidhfahaalgaa
open Go.RowKit Go.Shelf
theorem below_put2 {A B : World} {R : Nat} (h : Below A.heap.size A B) (hR : R < A.heap.size) (o : Obj) : Below (A.putObj R o).heap.size (A.putObj R o) (B.putObj R o) := by
  refine ⟨h.os, h.tape, h.output, by simpa using h.size, fun b hb => ?_⟩
  have hb : b < A.heap.size := by simpa using hb
  by_cases e : b = R
  · subst e
    rw [World.putObj_heap_same hR, World.putObj_heap_same (Nat.lt_of_lt_of_le hR h.size)]
  · rw [World.putObj_heap_other e, World.putObj_heap_other e]
    exact h.block b hb
theorem keeps_put {S : Nat → Prop} {A B : World} {R : Nat} (h : Keeps S A B) (hR : ¬ S R) (o : Obj) : Keeps S A (B.putObj R o) :=
  ⟨by simpa using h.1, fun b hb hl => (World.putObj_heap_other (fun e : b = R => hR (by rw [← e]; exact hb))).trans (h.2 b hb hl)⟩
theorem keeps_unput {S : Nat → Prop} {A B : World} {R : Nat} {o : Obj} (h : Keeps S (A.putObj R o) B) (hR : ¬ S R) : Keeps S A B :=
  ⟨by simpa using h.1, fun b hb hl => (h.2 b hb (by simpa using hl)).trans (World.putObj_heap_other (fun e : b = R => hR (by rw [← e]; exact hb)))⟩
def ToldPost {β : Type} (D : Nat) (Sd : Nat → Prop) (I : List β → World → Prop) (xs : List β) (W : World) : Exit → Act → World → Prop
  | .normal, _, W' => W'.heap[D]? = W.heap[D]? ∧ W'.heap[D + 1]? = W.heap[D + 1]? ∧ Keeps Sd W W' ∧ I xs W'
  | _, _, _ => False
theorem wp_rangeFunc_told {β : Type} {n : Nat} {P : Program} {g : Operand} {ps : Array Tmp} {assign body : Code} {Q : Exit → Act → World → Prop} {a : Act} {w : World}
    {gf : Nat} {lb : Array Value} (hg : a.eval g = .func (.func gf) #[] lb) (eg : ∀ args w, (callFunc gf args).run P w = .ok (.enter gf args) w)
    (S : List β → Prop) (T : List β → β → Array Value → World → World → Prop) (Sd : Nat → Prop) (hSd : ∀ b, Sd b → b < w.heap.size)
    (hTs : ∀ pre x vs wo W, T pre x vs wo W → vs.size = ps.size)
    (hTp : ∀ pre x vs wo W R o, R < wo.heap.size → T pre x vs wo W → T pre x vs (wo.putObj R o) (W.putObj R o))
    (hseq : ∀ (l : Nat) (J : List β → World → Prop) (W : World), Below w.heap.size w W → (∀ pre A B, J pre A → Below A.heap.size A B → J pre B) →
      (∀ pre x vs wo W1, J pre wo → Below wo.heap.size wo W1 → T pre x vs wo W1 → YieldAt Fence.wide (n - 1 - 1) P l vs W1 fun e W' => e = .returned (.bool true) ∧ J (pre ++ [x]) W' ∧ Keeps Sd W1 W') →
      J [] W → CallsIn Fence.wide (n - 1) P gf (#[.func (.yield l) #[] #[]] ++ lb) W fun e W' => (∃ v, e = .returned v) ∧ ∃ xs, S xs ∧ J xs W')
    (I : List β → World → Prop) (hI : ∀ pre A B, I pre A → Below A.heap.size A B → I pre B) (hIp : ∀ pre A o, w.heap.size + 1 < A.heap.size → I pre A → I pre (A.putObj (w.heap.size + 1) o)) (h0 : I [] w)
    (hround : ∀ (l : Nat) pre x vs wo W W2, w.heap.size + 1 < wo.heap.size → I pre wo → Below wo.heap.size wo W2 → T pre x vs wo W2 → assign.wpIn (Fence.wide.inRound l) (n - 1 - 1) P
      (Exit.then (fun a' W1 => W1 = W ∧ body.wpIn (Fence.wide.inRound l) (n - 1 - 1) P (ToldPost w.heap.size Sd I (pre ++ [x]) W2) a' W2) (fun _ _ _ => False)) { tmps := (ps.zip vs).foldl (fun t (p, v) => t.setIfInBounds p v) a.tmps, defers := [] } W)
    (hdone : ∀ (D : Nat) (xs : List β) (W : World), w.heap.size ≤ D → S xs → I xs W → W.heap[D]? = some (.deferred (some [])) → Q .normal { a with defers := { target := .collected D, args := #[] } :: a.defers } W) :
    (Code.rangeFunc g ps assign body).wpIn Fence.wide n P Q a w := by
  refine wpIn_rangeFunc ?_
  intro fn hfn
  obtain ⟨rec, hrec⟩ : ∃ rec : LoopState → Option Code → Loop, rec = fun st pe => { state := st, pending := pe, fn, tmps := a.tmps, params := ps, assign, body, defers := w.heap.size } := ⟨_, rfl⟩
  obtain ⟨W1, hW1⟩ : ∃ W1, (w.alloc (.deferred (some []))).alloc (.loop (rec .ready none)) = W1 := ⟨_, rfl⟩
  have hL1 : W1.heap[w.heap.size + 1]? = some (.loop (rec .ready none)) := by
    rw [← hW1]; have := World.alloc_heap_new (w.alloc (.deferred (some []))) (.loop (rec .ready none)); rwa [World.size_alloc] at this
  have hK1 : W1.heap[w.heap.size]? = some (.deferred (some [])) := by
    rw [← hW1]; exact (Below.heap_alloc _ _ _ (by simp)).trans (World.alloc_heap_new w _)
  have hb1 : Below w.heap.size w W1 := by
    rw [← hW1]; exact ((Below.refl _ w).alloc (Nat.le_refl _) _).alloc (by simp) _
  have hR : ¬ Sd (w.heap.size + 1) := fun h => by have := hSd _ h; omega
  refine ⟨w.heap.size + 1, [{ target := .collected w.heap.size, args := #[] }], W1, { target := .fn (.func gf) lb, args := #[.func (.yield (w.heap.size + 1)) #[] #[]] }, W1, gf,
    #[.func (.yield (w.heap.size + 1)) #[] #[]] ++ lb, W1, ?_, ?_, ?_, ?_, (fun h => by cases h), ?_⟩
  · rw [← hW1, hrec]; exact run_enterLoop_outer _ _ _ _ _
  · simp only [resolve, hg]
    simp [go_sem]
  · intro f' _; trivial
  · simp [invoke, go_sem, eg]
  · refine (hseq (w.heap.size + 1) (fun pre W => I pre W ∧ W.heap[w.heap.size + 1]? = some (.loop (rec .ready none)) ∧ W.heap[w.heap.size]? = some (.deferred (some []))) W1 hb1 ?_ ?_ ⟨hI _ _ _ h0 hb1, hL1, hK1⟩).mono ?_
    · rintro pre A B ⟨h1, h2, h3⟩ hb
      exact ⟨hI _ _ _ h1 hb, (hb.block _ (Array.getElem?_eq_some_iff.1 h2).1).trans h2, (hb.block _ (Array.getElem?_eq_some_iff.1 h3).1).trans h3⟩
    · rintro pre x vs wo W ⟨hi, hl, hk⟩ hb hT
      have hlt : w.heap.size + 1 < wo.heap.size := (Array.getElem?_eq_some_iff.1 hl).1
      have hlW : W.heap[w.heap.size + 1]? = some (.loop (rec .ready none)) := (hb.block _ hlt).trans hl
      have hkW : W.heap[w.heap.size]? = some (.deferred (some [])) := (hb.block _ (by omega)).trans hk
      have hltW := Nat.lt_of_lt_of_le hlt hb.size
      have hy := run_yield (P := P) (args := vs) hlW (by rw [hrec]; exact hTs _ _ _ _ _ hT)
      rw [hrec] at hy
      have hl2 : (W.putObj (w.heap.size + 1) (.loop { rec .ready none with state := .busy })).heap[w.heap.size + 1]? = some (.loop { rec .ready none with state := .busy }) := World.putObj_heap_same hltW
      have hk2 : (W.putObj (w.heap.size + 1) (.loop { rec .ready none with state := .busy })).heap[w.heap.size]? = some (.deferred (some [])) := (World.putObj_heap_other (by omega)).trans hkW
      refine ⟨fn, _, assign, body, hy, roundIn_of_wpIn hfn (wpIn_mono (hround _ pre x vs (wo.putObj (w.heap.size + 1) (.loop { rec .ready none with state := .busy })) W _ (by simpa using hlt) (hIp _ _ _ hlt hi) (below_put2 hb hlt _) (hTp _ _ _ _ _ _ _ hlt hT)) ?_)⟩
      rintro e a1 W1 hp1
      cases e with
      | normal =>
        obtain ⟨rfl, hp1⟩ := hp1
        refine ⟨_, run_beginRound hlW (by rw [hrec]), wpIn_mono hp1 ?_⟩
        rintro e a3 W3 hp
        cases e with
        | normal =>
          obtain ⟨hk3, hl3, hs3, hi3⟩ := hp
          rw [hk2] at hk3
          rw [hl2] at hl3
          have hlt3 : w.heap.size + 1 < W3.heap.size := (Array.getElem?_eq_some_iff.1 hl3).1
          have hend := run_endRound (P := P) none hl3
          rw [hrec] at hend
          refine ⟨_, _, hend, rfl, ⟨hIp _ _ _ hlt3 hi3, ?_, (World.putObj_heap_other (by omega)).trans hk3⟩, keeps_put (keeps_unput hs3 hR) hR _⟩
          rw [World.putObj_heap_same hlt3, hrec]
          rfl
        | _ => exact hp.elim
      | _ => exact hp1.elim
    · rintro e W' ⟨⟨v, rfl⟩, xs, hS, hi, hl, hk⟩
      have hend := run_endLoop (P := P) hl (by rw [hrec]; exact fun h => by cases h)
      rw [hrec] at hend
      exact ⟨_, _, hend, hdone _ _ _ (Nat.le_refl _) hS (hIp _ _ _ (Array.getElem?_eq_some_iff.1 hl).1 hi) ((World.putObj_heap_other (by omega)).trans hk)⟩
end Go.Proofs.Ythlidhfahaalgaa
namespace Go.Proofs.Ythlidhfahaalgaa
open Go.RowKit Go.Shelf
attribute [local go_sem] Oper.semAt_some
attribute [local go_sem ↓ high] app_named cop_named
theorem kind_bits {x : Nat} (h : x ≤ 3) : (bits .and .u8 (x : Int) 1 != 0) = decide (x % 2 = 1) ∧ (bits .and .u8 (x : Int) 2 != 0) = decide (2 ≤ x) := by
  rcases (show x = 0 ∨ x = 1 ∨ x = 2 ∨ x = 3 by omega) with rfl | rfl | rfl | rfl <;> decide
theorem good_kind {s : Bs} {k : Nat} (h : goodT s k = true) : kindT s ≤ 3 ∧ manyT s ≤ 112 := by
  simp only [goodT, kindB, Bool.and_eq_true, decide_eq_true_eq] at h
  exact ⟨h.2.1.1, h.2.1.2.1⟩
theorem recGo_cons {g k : Nat} {first : Bool} {l : List Bs} (hk : k < l.length) : recGo g k first (l.drop k) = if goodT l[k] k = true ∧ decide (kindT l[k] % 2 = 1) = first ∧ genT l[k] = g then (if 2 ≤ kindT l[k] then some (dataT l[k], 1) else (recGo g (k + 1) false (l.drop (k + 1))).map fun x => (dataT l[k] ++ x.1, x.2 + 1)) else none := by
  rw [List.drop_eq_getElem_cons hk, recGo]
theorem grownN {a w : World} (h : Below a.heap.size a w) : a.grownBy w none := ⟨h.os, h.tape, h.output, h.size, fun i hi _ => h.block i hi⟩
theorem OwnBs.later {w w' : World} {base : Nat} {v : Value} {l : Bs} (h : OwnBs w base v l) (hb : Below w.heap.size w w') : OwnBs w' base v l := World.ownsRow.kept h (grownN hb) (by rcases v.ownBlock with _ | _ <;> simp)
theorem sec_at {w : World} {S : Nat → Prop} {A : Option Addr} {m c q : Nat} {L : List Bs} (hL : RwAt w S (.slice A m c) L) (h128 : ∀ s ∈ L, s.length = 128) (hq : q < L.length) :
    ∃ lb lo bs os cs, A = some ⟨lb, lo, none⟩ ∧ S lb ∧ lb < w.heap.size ∧ w.cell? ⟨lb, lo + q, none⟩ = some (.slice (some ⟨bs, os, none⟩) 128 cs) ∧ BsAt w S (.slice (some ⟨bs, os, none⟩) 128 cs) L[q] ∧ 128 ≤ cs ∧ cs ≤ maxLen := by
  obtain ⟨lb, lo, V, e, hS, hz, hc, hb⟩ := hL.row hq
  have hl := h128 _ (List.getElem_mem hq)
  obtain ⟨Aq, cq, rfl, _⟩ := hb.form
  rw [hl] at hc hb
  obtain ⟨bs, os, rfl, _⟩ := hb.cell (k := 0) (by omega)
  refine ⟨lb, lo, bs, os, cq, e, hS, hz, hc, hb, ?_⟩
  rcases hb.1 with e | ⟨_, _, _, e, h1, h2⟩
  · cases e
  · cases e; exact ⟨h1, h2⟩
theorem good_at {s : Bs} {q b o c : Nat} {S : Nat → Prop} {w : World} {t : Bool} (h : BsAt w S (.slice (some ⟨b, o, none⟩) 128 c) s) (hs : s.length = 128) (hq : q < 65536) (ht : goodT s q = t) (x : Later w) :
    Calls Try.prog 61 #[.slice (some ⟨b, o, none⟩) 128 c, .int .i64 q] x.w fun e w' => e = .returned (.bool t) ∧ Below x.w.heap.size x.w w' := by
  subst ht
  exact jGood_any s q _ c S x.w (Lib.hid (h.keep (Keeps.of x.below))) (Lib.hid hs) hq
theorem get4_at {s : Bs} {b o c g : Nat} {S : Nat → Prop} {w : World} (h : BsAt w S (.slice (some ⟨b, o, none⟩) 128 c) s) (hs : s.length = 128) (hc : 128 ≤ c ∧ c ≤ maxLen) (hg : genT s = g) (x : Later w) :
    Calls Try.prog 41 #[.slice (some ⟨b, o, none⟩) 4 c] x.w fun e w' => e = .returned (.int .u64 (g : Nat)) ∧ x.w = w' :=
  (jGet_at (l := s.take 4) (n := 4) (S := S) (by have := (h.keep (Keeps.of x.below)).sub 0 4 c (by omega) (by omega) hc.2 hs; rwa [Nat.add_zero, List.drop_zero] at this) (by simp; omega) (by omega) hg).mono fun _ _ h => ⟨h.1, h.2.symm⟩
theorem Keeps.cell {S : Nat → Prop} {w w' : World} (h : Keeps S w w') {b o : Nat} {v : Value} (hS : S b) (hb : b < w.heap.size) (hc : w.cell? ⟨b, o, none⟩ = some v) : w'.cell? ⟨b, o, none⟩ = some v := by
  rw [World.cell?_of_block (w := w) (h.2 b hS hb)]
  exact hc
theorem rec_iter (n l : Nat) (L : List Bs) (A : Option Addr) (m c Bl : Nat) (Sd : Nat → Prop) (w : World)
    (hL : Hid (RwAt w Sd (.slice A m c) L)) (hm : Hid (L.length = m)) (hm2 : m ≤ 4096) (h128 : Hid (∀ s ∈ L, s.length = 128)) (hbx : Box w Bl [.slice A m c]) (hSB : Sd Bl) (hSd : Hid (∀ b, Sd b → b < w.heap.size))
    (J : List Bs → World → Prop) (hJ : Hid (∀ pre W W', J pre W → Below W.heap.size W W' → J pre W'))
    (hY : Hid (∀ (pre : List Bs) (k : Int) (V : Value) (b : Bs) (wo W1 : World), J pre wo → Below wo.heap.size wo W1 → BsAt W1 (fun g => wo.heap.size ≤ g) V b → b.length ≤ 458752 → pre.length < 4096 → YieldAt Fence.wide (n - 1) Try.prog l #[.int .i64 k, V] W1 fun e W' => e = .returned (.bool true) ∧ J (pre ++ [b]) W' ∧ Keeps Sd W1 W'))
    (h0 : J [] w) :
    CallsIn Fence.wide n Try.prog 60 #[.func (.yield l) #[] #[], .pointer (some ⟨Bl, 0, none⟩)] w fun e W' => (∃ v, e = .returned v) ∧ J (recordsT L) W' := by
  refine callsIn_of_wp Try.func60 rfl trivial ?_ rfl
  simp only [Try.ntmps60, List.size_toArray, List.length_cons, List.length_nil, Nat.reduceAdd, Nat.reduceSub, Array.replicate_succ, Array.replicate_zero, List.push_toArray, List.append_toArray, List.nil_append, List.cons_append]
  refine wpIn_wide.2 ?_
  have hRL : Hid (recordsT L = [] ++ leftT L 0 0) := rfl
  go_wp2
  go_step3
  go_wp2
  go_step3
  go_wp2
  go_loopg [3, 4] (m + 1) (fun g s3 s4 wo => ∃ (p last : Nat) (pre : List Bs), p + g = m + 1 ∧ p ≤ m ∧ s3 = .int .i64 p ∧ s4 = .int .u64 last ∧ last < 4294967296 ∧ Hid (recordsT L = pre ++ leftT L p last) ∧ pre.length ≤ p ∧ J pre wo ∧ Keeps Sd w wo)
  case atStart => exact ⟨0, 0, [], by omega, by omega, rfl, rfl, by omega, hRL, Nat.le_refl 0, h0, Keeps.refl _ _⟩
  case round =>
    clear h0 hRL
    obtain ⟨p, last, pre, hp, hpm, rfl, rfl, hlast, hR, hpl, hJ0, hK0⟩ := hrel
    obtain ⟨wo, rfl⟩ : ∃ wo : World, wo = wr := ⟨_, rfl⟩
    obtain ⟨G, rfl⟩ : ∃ G, G = gk := ⟨_, rfl⟩
    go_wp2
    go_loopg [3, 4, 5, 6] (m + 1 - p) (fun g s3 s4 s5 s6 wi => s3 = .int .i64 p ∧ s4 = .int .u64 last ∧ ∃ (q : Nat) (acc : Bs), q + g = m + 1 ∧ p ≤ q ∧ q ≤ m ∧ s6 = .int .i64 q ∧ Hid (OwnBs wi wo.heap.size s5 acc) ∧ acc.length ≤ (q - p) * 112 ∧ Keeps Sd w wi ∧ Below wo.heap.size wo wi ∧
      Hid (recGo (genT (L.getD p [])) p true (L.drop p) = (recGo (genT (L.getD p [])) q (decide (q = p)) (L.drop q)).map fun x => (acc ++ x.1, x.2 + (q - p))) ∧ Hid (p < q → ¬ genT (L.getD p []) < last))
    case atStart =>
      refine ⟨rfl, rfl, p, [], by omega, Nat.le_refl p, hpm, rfl, Lib.hid (ownBs_nil _ _), Nat.zero_le _, hK0, Below.refl _ _, Lib.hid ?_, Lib.hid fun h => absurd h (Nat.lt_irrefl p)⟩
      rw [decide_eq_true rfl, Nat.sub_self]
      cases recGo (genT (L.getD p [])) p true (L.drop p) <;> simp
    case round =>
      obtain ⟨rfl, rfl, q, acc, hqg, hpq, hqm, rfl, hown, hal, hKi, hBi, hrec, hold⟩ := hrel
      obtain ⟨wi, rfl⟩ : ∃ wi : World, wi = wr := ⟨_, rfl⟩
      have x0 : wi.cell? ⟨Bl, 0, none⟩ = some (.slice A m c) := by
        have := hKi.2 Bl hSB hbx.lt
        exact (hbx.same this).cell 0
      have xz := Nat.lt_of_lt_of_le hbx.lt hKi.1
      rcases Nat.lt_or_ge q m with hlt | hge
      rotate_left
      · obtain rfl : q = m := by omega
        have hEnd : recordsT L = pre := by
          rw [hR.out]
          rcases Nat.lt_or_ge p q with h | h
          · have hpl2 : p < L.length := by rw [hm.out]; exact h
            have h1 : genT (L.getD p []) = genT L[p] := by rw [List.getD_eq_getElem?_getD, List.getElem?_eq_getElem hpl2]; rfl
            have h2 := hrec.out
            rw [h1, show L.drop q = [] from List.drop_of_length_le (by rw [hm.out]; exact Nat.le_refl q)] at h2
            rw [leftT_none hpl2 (h2.trans rfl), List.append_nil]
          · rw [leftT_end (by rw [hm.out]; exact h), List.append_nil]
        have hJE := Lib.hid (hJ.out _ _ _ hJ0 hBi)
        rw [← hEnd] at hJE
        have hlt2 : ¬ ((q : Int) < (q : Int)) := by omega
        clear hJ hY hR hrec hold hEnd hJ0 hown
        go_wp2
        refine bodyPost_ret (results_none rfl _ _ _) rfl ?_
        exact ⟨⟨_, rfl⟩, hJE.out⟩
      have hqL : q < L.length := by rw [hm.out]; exact hlt
      have hpL : p < L.length := by omega
      obtain ⟨lb, lo, bs, os, cs, hA, hSl, hzl, hcq, hbq, hcs1, hcs2⟩ := sec_at hL.out h128.out hqL
      obtain ⟨lb2, lo2, b0, o0, c0, hA2, _, _, hcp, hb0, hc1, hc2⟩ := sec_at hL.out h128.out hpL
      rw [hA] at hA2
      cases hA2
      subst hA
      have gp : genT (L.getD p []) = genT L[p] := by rw [List.getD_eq_getElem?_getD, List.getElem?_eq_getElem hpL]; rfl
      have hsq := h128.out _ (List.getElem_mem hqL)
      have hsp := h128.out _ (List.getElem_mem hpL)
      obtain ⟨_, _, e, hSb, hbz, c10⟩ := hbq.cell (k := 10) (by rw [hsq]; decide)
      cases e
      obtain ⟨_, _, e, _, _, c11⟩ := hbq.cell (k := 11) (by rw [hsq]; decide)
      cases e
      rw [show ((L[q]).getD 10 0).toNat = kindT L[q] from rfl] at c10
      rw [show ((L[q]).getD 11 0).toNat = manyT L[q] from rfl] at c11
      obtain ⟨t, ht⟩ : ∃ t, goodT L[q] q = t := ⟨_, rfl⟩
      obtain ⟨gq, hgq⟩ : ∃ gq, genT L[q] = gq := ⟨_, rfl⟩
      obtain ⟨g0, hg0⟩ : ∃ g0, genT L[p] = g0 := ⟨_, rfl⟩
      obtain ⟨x, hx⟩ : ∃ x, kindT L[q] = x := ⟨_, rfl⟩
      obtain ⟨z, hz⟩ : ∃ z, manyT L[q] = z := ⟨_, rfl⟩
      have hk256 : x < 256 := by rw [← hx]; exact u8_lt _
      have hn256 : z < 256 := by rw [← hz]; exact u8_lt _
      have hg32 : gq < 4294967296 := by rw [← hgq]; exact numT_lt4 (by simp; omega)
      have hrc := recGo_cons (g := genT L[p]) (k := q) (first := decide (q = p)) hqL
      have HGP := Lib.hid (gp.trans hg0)
      rw [gp, hg0] at hrec
      rw [gp, hg0] at hold
      rw [hg0, ht, hx, hgq] at hrc
      rw [hx] at c10
      rw [hz] at c11
      -- what ends the walk where no record comes
      have hNone : recGo g0 q (decide (q = p)) (L.drop q) = none → recordsT L = pre := fun h => by
        have h2 := hrec.out
        rw [h] at h2
        rw [hR.out, leftT_none hpL (by rw [hg0]; exact h2.trans rfl), List.append_nil]
      have hOld : g0 < last → recordsT L = pre := fun h => by
        rw [hR.out, leftT_old hpL (by rw [hg0]; exact h), List.append_nil]
      have CG := good_at (hbq.keep hKi) hsq (by omega) ht
      have Cs := get4_at (hbq.keep hKi) hsq ⟨hcs1, hcs2⟩ hgq
      have C0 := get4_at (hb0.keep hKi) hsp ⟨hc1, hc2⟩ hg0
      have J0 := Later.cell x0 xz
      have y1 := hKi.cell hSl hzl hcq
      have y2 := hKi.cell hSl hzl hcp
      have y3 := hKi.cell hSb hbz c10
      have y4 := hKi.cell hSb hbz c11
      have z1 := Nat.lt_of_lt_of_le hzl hKi.1
      have z2 := Nat.lt_of_lt_of_le hbz hKi.1
      have J1 := Later.cell y1 z1
      have J2 := Later.cell y2 z1
      have J3 := Later.cell y3 z2
      have HD := Lib.hid (fun hn : manyT L[q] ≤ 112 => hbq.sub 12 (manyT L[q]) (cs - 12) (by omega) (by omega) (by omega) hsq)
      have HG7 := Lib.hid (fun (W : World) (h : Keeps Sd w W) => get4_at (hbq.keep h) hsq ⟨hcs1, hcs2⟩ hgq ⟨W, Below.refl _ _⟩)
      have hl1 : decide ((q : Int) < (m : Int)) = true := by simp; omega
      have hJ1 := Lib.hid fun (W : World) (hb : Below wi.heap.size wi W) => hJ.out _ _ _ hJ0 (hBi.trans (hb.mono hBi.size))
      have HRC := Lib.hid hrc
      have HNO := Lib.hid hNone
      have HOL := Lib.hid hOld
      have HGK := Lib.hid (fun h : t = true => good_kind (ht.trans h))
      have HT := Lib.hid ht
      have HGQ := Lib.hid hgq
      have HG0 := Lib.hid hg0
      have HX := Lib.hid hx
      have HZ := Lib.hid hz
      have HSQ := Lib.hid hsq
      have i0 : (0 : Int) ≤ (q : Int) := by omega
      have i1 : (q : Int) < (m : Int) := by omega
      have i2 : (0 : Int) ≤ (p : Int) := by omega
      have i3 : (p : Int) < (m : Int) := by omega
      clear hrc hNone hOld ht hgq hg0 hx hz gp hsq hsp hbq hb0 hcp y2
      rcases t with _ | _
      · -- no good sector
        have hE := HNO.out (by rw [HRC.out, if_neg (by simp)])
        have HE := Lib.hid hE
        clear hE c10 c11 HD HGK hcq hk256 hn256
        go_wp2_with fail
        refine wp_region_later (by kernel_rfl) (by kernel_rfl) ?_
        repeat (go_big_quiet_step (first | (go_at_call 61; exact Later.call _ (CG _)) | (go_at_call 41; first | with_reducible exact Later.same _ (Cs _) | with_reducible exact Later.same _ (C0 _))))
        refine wpQuiet_nil ?_
        intro _ hw'
        obtain ⟨yq, hw''⟩ := hw'
        subst hw''
        go_wp2
        have hE := HE.out
        rw [Exit.noGoto_ret]
        refine bodyPost_ret (results_none rfl _ _ _) rfl ?_
        exact ⟨⟨_, rfl⟩, by rw [hE]; exact hJ1.out yq.w yq.below⟩
      obtain ⟨hk3, hn112⟩ := HGK.out rfl
      rw [HX.out] at hk3
      rw [HZ.out] at hn112
      obtain ⟨kb1, kb2⟩ := kind_bits hk3
      obtain ⟨f1, hf1⟩ : ∃ f, decide (x % 2 = 1) = f := ⟨_, rfl⟩
      obtain ⟨f0, hf0⟩ : ∃ f, decide (q = p) = f := ⟨_, rfl⟩
      obtain ⟨f2, hf2⟩ : ∃ f, decide (2 ≤ x) = f := ⟨_, rfl⟩
      rw [hf1] at kb1
      rw [hf2] at kb2
      have kc1 : (bits .and .u8 (x : Int) 1 == 0) = !f1 := by rw [← kb1]; simp [bne]
      have kc2 : (bits .and .u8 (x : Int) 2 == 0) = !f2 := by rw [← kb2]; simp [bne]
      have qp1 : ((q : Int) == (p : Int)) = f0 := by rw [← hf0]; rw [Bool.eq_iff_iff]; simp; omega
      have qp2 : ((q : Int) != (p : Int)) = !f0 := by rw [bne, qp1]
      have HF1 := Lib.hid hf1
      have HF0 := Lib.hid hf0
      have HF2 := Lib.hid hf2
      clear hf1 hf0 hf2 HGK
      by_cases hff : f1 ≠ f0
      · have HE : Hid (recordsT L = pre) := HNO.out (by rw [HRC.out, if_neg (by rintro ⟨_, h, _⟩; rw [HF1.out, HF0.out] at h; exact hff h)])
        clear HD hcq c10 c11
        rcases f1 with _ | _ <;> rcases f0 with _ | _
        · exact absurd rfl hff
        rotate_right 1
        · exact absurd rfl hff
        all_goals
          clear hff
          go_wp2_with fail
          refine wp_region_later (by kernel_rfl) (by kernel_rfl) ?_
          repeat (go_big_quiet_step (first | (go_at_call 61; exact Later.call _ (CG _)) | (go_at_call 41; first | with_reducible exact Later.same _ (Cs _) | with_reducible exact Later.same _ (C0 _))))
          refine wpQuiet_nil ?_
          intro _ hw'
          obtain ⟨yq, hw''⟩ := hw'
          subst hw''
          go_wp2
          have hE := HE.out
          rw [Exit.noGoto_ret]
          refine bodyPost_ret (results_none rfl _ _ _) rfl ?_
          exact ⟨⟨_, rfl⟩, by rw [hE]; exact hJ1.out yq.w yq.below⟩
      obtain rfl : f1 = f0 := Classical.byContradiction hff
      clear hff
      by_cases hgg : gq ≠ g0
      · have HE : Hid (recordsT L = pre) := HNO.out (by rw [HRC.out, if_neg (by rintro ⟨_, _, h⟩; exact hgg h)])
        have gg1 : ((gq : Int) == (g0 : Int)) = false := by simp; omega
        have gg2 : ((gq : Int) != (g0 : Int)) = true := by simp; omega
        clear HD hcq c10 c11 hgg
        rcases f1 with _ | _
        all_goals
          go_wp2_with fail
          refine wp_region_later (by kernel_rfl) (by kernel_rfl) ?_
          repeat (go_big_quiet_step (first | (go_at_call 61; exact Later.call _ (CG _)) | (go_at_call 41; first | with_reducible exact Later.same _ (Cs _) | with_reducible exact Later.same _ (C0 _))))
          refine wpQuiet_nil ?_
          intro _ hw'
          obtain ⟨yq, hw''⟩ := hw'
          subst hw''
          go_wp2
          have hE := HE.out
          rw [Exit.noGoto_ret]
          refine bodyPost_ret (results_none rfl _ _ _) rfl ?_
          exact ⟨⟨_, rfl⟩, by rw [hE]; exact hJ1.out yq.w yq.below⟩
      obtain rfl : gq = g0 := Classical.byContradiction hgg
      clear hgg
      by_cases hll : gq < last
      · have HE : Hid (recordsT L = pre) := HOL.out hll
        have gl : decide ((gq : Int) < (last : Int)) = true := by simp; omega
        have gl2 : decide (gq < last) = true := by simp; omega
        clear HD hcq c10 c11 hll
        rcases f1 with _ | _
        all_goals
          go_wp2_with fail
          refine wp_region_later (by kernel_rfl) (by kernel_rfl) ?_
          repeat (go_big_quiet_step (first | (go_at_call 61; exact Later.call _ (CG _)) | (go_at_call 41; first | with_reducible exact Later.same _ (Cs _) | with_reducible exact Later.same _ (C0 _))))
          refine wpQuiet_nil ?_
          intro _ hw'
          obtain ⟨yq, hw''⟩ := hw'
          subst hw''
          go_wp2
          have hE := HE.out
          rw [Exit.noGoto_ret]
          refine bodyPost_ret (results_none rfl _ _ _) rfl ?_
          exact ⟨⟨_, rfl⟩, by rw [hE]; exact hJ1.out yq.w yq.below⟩
      have gl : decide ((gq : Int) < (last : Int)) = false := by simp; omega
      have gl2 : decide (gq < last) = false := by simp; omega
      have HLL := Lib.hid hll
      clear hll
      have HREC := Lib.hid (show recGo gq q f1 (L.drop q) = (if 2 ≤ x then some (dataT L[q], 1) else (recGo gq (q + 1) false (L.drop (q + 1))).map fun x => (dataT L[q] ++ x.1, x.2 + 1)) by
        have h := HRC.out
        rw [HF0.out] at h
        rw [h, if_pos ⟨rfl, HF1.out, rfl⟩])
      rw [HF0.out] at hrec
      -- the region's worlds: one world behind it
      go_upto_region 6 with fail
      go_cut [52] from 19 to 51 (fun s52 wx => s52 = .bool false ∧ Below wi.heap.size wi wx)
      case first =>
        rcases f1 with _ | _
        all_goals
          refine wp_region_later (by kernel_rfl) (by kernel_rfl) ?_
          repeat (go_big_quiet_step (first | (go_at_call 61; exact Later.call _ (CG _)) | (go_at_call 41; first | with_reducible exact Later.same _ (Cs _) | with_reducible exact Later.same _ (C0 _))))
          refine wpQuiet_nil ?_
          intro _ hw'
          obtain ⟨yq, hw''⟩ := hw'
          subst hw''
          go_wp2_with fail
          go_meet
          exact ⟨rfl, yq.below⟩
      case rest =>
        obtain ⟨rfl, hb6⟩ := hcut
        obtain ⟨Av, cv, hV⟩ := hown.out.form'
        subst hV
        have ho6 := hown.out.later hb6
        have hB6 := hBi.trans (hb6.mono hBi.size)
        have hK6 := hKi.trans (Keeps.of hb6)
        have hLQ : (dataT L[q]).length = z := by rw [data_length HSQ.out (by rw [HZ.out]; exact hn112), HZ.out]
        have hD6 := (HD.out (by rw [HZ.out]; exact hn112)).keep hK6
        rw [HZ.out] at hD6
        have hD6 : BsAt wc Sd (.slice (some ⟨bs, os + 12, none⟩) z (cs - 12)) (dataT L[q]) := by rw [dataT, HZ.out]; exact hD6
        have hbase6 : wo.heap.size ≤ wc.heap.size := hB6.size
        obtain ⟨V7, w7, hr7, ho7, hg7⟩ := run_appB 35 ho6 hD6 hbase6 (by rw [hLQ]; omega)
        have hb7 := own_below ho6 hbase6 hg7
        have hB7 := hB6.trans hb7
        have hK7 := hK6.trans (Keeps.from hb7 (fun b hS hl => Nat.lt_of_lt_of_le (hSd.out b hS) hK0.1))
        have hlen7 : (acc ++ dataT L[q]).length ≤ (q + 1 - p) * 112 := by rw [List.length_append, hLQ, show q + 1 - p = q - p + 1 by omega, Nat.add_mul]; omega
        have v4 := hK6.cell hSb hbz c11
        have v3 := hK7.cell hSb hbz c10
        have v3z := Nat.lt_of_lt_of_le hbz hK7.1
        have v4z := Nat.lt_of_lt_of_le hbz hK6.1
        have HOWN7 := Lib.hid ho7
        have G7 : Calls Try.prog 41 #[.slice (some ⟨bs, os, none⟩) 4 cs] w7 fun e w' => e = .returned (.int .u64 (gq : Nat)) ∧ w7 = w' := HG7.out w7 hK7
        have hcsl : (cs : Int) ≤ 9223372036854775807 := by simp only [maxLen] at hcs2; omega
        clear CG Cs C0 J0 J1 J2 J3 HD HG7 hown ho6 hD6 hg7 ho7 x0 xz y1 y3 y4 z1 z2 hl1 kb1 kc1 qp1 qp2 i0 i2 i3 gl gl2
        go_upto_region 8 with fail
        rcases f2 with _ | _
        · have hx2 : ¬ 2 ≤ x := by simpa using HF2.out
          have HN := Lib.hid (show recGo (genT (L.getD p [])) p true (L.drop p) = (recGo (genT (L.getD p [])) (q + 1) (decide (q + 1 = p)) (L.drop (q + 1))).map fun x => ((acc ++ dataT L[q]) ++ x.1, x.2 + (q + 1 - p)) by
            rw [HGP.out, hrec.out, HREC.out, if_neg hx2, decide_eq_false (show ¬ q + 1 = p by omega)]
            rcases recGo gq (q + 1) false (L.drop (q + 1)) with _ | ⟨b, k⟩
            · rfl
            · simp only [Option.map_some, List.append_assoc]
              congr 2
              omega)
          have HOLD := Lib.hid (show p < q + 1 → ¬ genT (L.getD p []) < last from fun _ => by rw [HGP.out]; exact HLL.out)
          clear hx2
          go_wp2
          go_roundg (m - q)
          case measure => omega
          case rel => exact ⟨rfl, rfl, q + 1, _, by omega, by omega, by omega, by go_num, HOWN7, hlen7, hK7, hB7, HN, HOLD⟩
        · have hx2 : 2 ≤ x := by simpa using HF2.out
          have HR2 := Lib.hid (show recordsT L = (pre ++ [acc ++ dataT L[q]]) ++ leftT L (q + 1) gq by
            rw [hR.out, leftT_some (n := q + 1 - p) (b := acc ++ dataT L[q]) hpL (by
              rw [HG0.out, hrec.out, HREC.out, if_pos hx2]
              simp only [Option.map_some]
              congr 2
              omega) (by rw [HG0.out]; exact HLL.out), HG0.out, show p + (q + 1 - p) = q + 1 by omega, List.append_assoc]
            rfl)
          have hlb : (acc ++ dataT L[q]).length ≤ 458752 := by
            have : (q + 1 - p) * 112 ≤ 4096 * 112 := Nat.mul_le_mul_right _ (by omega)
            omega
          obtain ⟨f0, t0, a0, c0, hy0, hR0⟩ := hY.out pre ((q : Int) + 1) V7 (acc ++ dataT L[q]) wo w7 hJ0 hB7 (HOWN7.out.bs (by simp only [maxLen]; omega)) hlb (by omega)
          clear hx2 hR hrec HREC hY
          go_wp2_with fail
          refine G7.mono ?_
          rintro e w8 ⟨rfl, rfl⟩
          go_upto_region 10 with fail
          refine (wpIn_wide (n := n)).1 ?_
          gi_wp2_with fail
          refine ⟨(fun h => by cases h), hR0.mono ?_⟩
          rintro e W2 ⟨rfl, hJ3, hK⟩
          dsimp only
          gi_wp2_with fail
          trace_state
          go_wp2
          go_roundg (m - q)
          case measure => omega
          case rel => exact ⟨q + 1, gq, _, by omega, by omega, by go_num, rfl, hg32, HR2, by rw [List.length_append]; simp; omega, hJ3, hK7.trans hK⟩
end Go.Proofs.Ythlidhfahaalgaa
namespace Go.Proofs.Ythlidhfahaalgaa
open Go.RowKit
def Dk.small (d : Dk) : Prop := (∀ x ∈ d.sectors, x.length ≤ 140737488351232) ∧ ∀ x ∈ d.pending, x.data.length ≤ 140737488351232
end Go.Proofs.Ythlidhfahaalgaa
namespace Go.Proofs.Ythlidhfahaalgaa
open Go.RowKit
attribute [local go_sem ↓ high] app_named cop_named
def Side (base : Nat) (v : Value) : Nat → Prop := fun b => base ≤ b ∧ some b ≠ v.ownBlock
theorem run_ownR {w : World} {base bb : Nat} {v U : Value} {l : List Bs} {x : Bs} (ho : OwnRw w base (Side base v) v l) (hX : Box w bb [U]) (hU : BsAt w (Side base v) U x) (hbase : base ≤ w.heap.size) (hl : l.length ≤ 1048576) :
    ∃ v' w', (appF #[22, 22] 22 #[v, .slice (some ⟨bb, 0, none⟩) 1 1]).run Try.prog w = .ok v' w' ∧ OwnRw w' base (Side base v') v' (l ++ [x]) ∧ Below base w w' := by
  obtain ⟨i, E⟩ := elem_rw
  obtain ⟨xs, ho, hb⟩ := ho
  have hxl : xs.length = l.length := by simpa using ho.1
  have hrow : ∀ k, v.ownBlock = some k → base ≤ k := by
    intro k hk
    rcases ho.2 with ⟨rfl, _⟩ | ⟨g, cap, cur, rfl, hbg, _⟩
    · cases hk
    · cases hk; exact hbg
  obtain ⟨v', w', hr, ho', hg, _, hown⟩ := run_append_own_at (P := Try.prog) (w := w) base 22 22 35 i (.slice none 0 0) 1 24 E.ht E.hi E.hz E.hsize E.hby E.hzs E.hsz v l.length xs ho ⟨bb, 0, none⟩ 1 1 [U] rfl (fun j u hu => by
    obtain rfl : j = 0 := by
      have := (List.getElem?_eq_some_iff.1 hu).1
      simpa using this
    rw [add_at, Nat.zero_add, hX.cell 0]
    exact hu) (fun u hu => by rw [List.mem_singleton.1 hu]; exact bsAt_one hU) (by simp only [maxLen]; omega) (by omega) hbase
  have key : ∀ {y : Bs} {u : Value}, BsAt w (Side base v) u y → BsAt w' (Side base v') u y := by
    intro y u h
    have h1 : BsAt w (fun b => Side base v b ∧ some b ≠ v'.ownBlock) u y := h.weak fun b hb hl => ⟨hb, by
      rcases hown with e | e
      · rw [e]; exact hb.2
      · rw [e]; intro e2; injection e2 with e2; omega⟩
    exact (h1.keep (Keeps.grown hg fun k hk hS => hS.1.2 hk.symm)).weak fun b hb _ => ⟨hb.1.1, hb.2⟩
  refine ⟨v', w', hr, ⟨xs ++ [U], by rw [List.length_append]; exact ho', fun j y u hy hu => ?_⟩, (Below.refl base w).grown hg hbase (fun k hk => hrow k hk)⟩
  rcases Nat.lt_or_ge j l.length with hj | hj
  · rw [List.getElem?_append_left hj] at hy
    rw [List.getElem?_append_left (by omega)] at hu
    exact key (hb j y u hy hu)
  · rw [List.getElem?_append_right hj] at hy
    rw [List.getElem?_append_right (by omega), hxl] at hu
    have h0 : j - l.length = 0 := by
      rcases Nat.eq_zero_or_pos (j - l.length) with h0 | h0
      · exact h0
      · rw [List.getElem?_eq_none (by simp; omega)] at hy; cases hy
    rw [h0] at hy hu
    obtain rfl : x = y := by simpa using hy
    obtain rfl : U = u := by simpa using hu
    exact key hU
theorem OwnRw.form {w : World} {base : Nat} {S : Nat → Prop} {v : Value} {l : List Bs} (h : OwnRw w base S v l) : ∃ A c, v = .slice A l.length c := by
  obtain ⟨xs, ho, _⟩ := h
  rcases ho.2 with ⟨h1, h2⟩ | ⟨g, cap, cur, hv, _⟩
  · exact ⟨none, 0, by rw [h1, h2]⟩
  · exact ⟨_, _, hv⟩
end Go.Proofs.Ythlidhfahaalgaa
