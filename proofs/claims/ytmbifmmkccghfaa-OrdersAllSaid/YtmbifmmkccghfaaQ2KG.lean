/- Rows that a function builds by append, element by element, of any element type. No condition. -/
import Derived.Test.YtmbifmmkccghfaaQ2K
import Derived.Maps.AppendAt
import Derived.Test.YtmbifmmkccghfaaQ2CX
import Derived.Lib.MinMax
import Derived.RegionTactic
import Derived.BigRegion
import Derived.Laws.EntriesVeiled
import Derived.Deep.DeepCutAuto
set_option linter.unusedVariables false
set_option linter.unusedSimpArgs false
namespace Go.Proofs.Ytmbifmmkccghfaa
open Go.RowKit

def OwnE {α : Type} (enc : α → List Value) (size : Nat) (w : World) (base e : Nat) (V : Value) (l : List α) : Prop := w.ownsRow base e size V l.length (l.flatMap enc)
section
variable {α : Type} {enc : α → List Value} {size : Nat} {w w' : World} {base t e : Nat} {V : Value} {l : List α}
theorem ownE_nil (enc : α → List Value) (size : Nat) (w : World) (base e : Nat) : OwnE enc size w base e (.slice none 0 0) ([] : List α) := ⟨by simp, .inl ⟨rfl, rfl⟩⟩
theorem OwnE.later (h : OwnE enc size w base e V l) (hb : Below w.heap.size w w') : OwnE enc size w' base e V l :=
  World.ownsRow.kept h (row := none) ⟨hb.os, hb.tape, hb.output, hb.size, fun i hi _ => hb.block i hi⟩ (by rcases V.ownBlock with _ | _ <;> simp)
theorem OwnE.set (h : OwnE enc size w base e V l) {a : Addr} (ha : a.block < base) (u : Value) : OwnE enc size (w.setCell a u) base e V l := by
  refine World.ownsRow.kept h (row := some a.block) ⟨rfl, rfl, rfl, by simp, fun i _ hi => Below.heap_setCell w a u i (fun e => hi (by rw [e]))⟩ ?_
  refine .inr fun hk => ?_
  have := World.ownsRow.lt h _ hk
  omega
theorem OwnE.drew (h : OwnE enc size w base e V l) : OwnE enc size w.drew base e V l := h.later ((Below.refl _ _).drew)
theorem flatMap_at {enc : α → List Value} {size : Nat} (hs : ∀ x, (enc x).length = size) : ∀ (l : List α) (k j : Nat) (hk : k < l.length), j < size → (l.flatMap enc)[k * size + j]? = (enc l[k])[j]?
  | [], k, _, hk, _ => absurd hk (Nat.not_lt_zero k)
  | x :: l, 0, j, _, hj => by
    rw [List.flatMap_cons, Nat.zero_mul, Nat.zero_add, List.getElem?_append_left (by rw [hs]; exact hj)]
    rfl
  | x :: l, k + 1, j, hk, hj => by
    rw [List.flatMap_cons, List.getElem?_append_right (by rw [hs, Nat.add_mul]; omega), hs, show (k + 1) * size + j - size = k * size + j by rw [Nat.add_mul]; omega]
    exact flatMap_at hs l k j (by simpa using hk) hj
theorem OwnE.sl (h : OwnE enc size w base e V l) (hs : ∀ x, (enc x).length = size) : ∃ A c, V = .slice A l.length c ∧ ∀ k (hk : k < l.length), ∃ b, A = some ⟨b, 0, none⟩ ∧ base ≤ b ∧ b < w.heap.size ∧ ∀ j, j < size → w.cell? ⟨b, k * size + j, none⟩ = (enc l[k])[j]? := by
  have hc := h.2
  rcases hc with ⟨rfl, hl⟩ | ⟨b, cap, cur, hv, hb, hg, hcap, hcm, _⟩
  · exact ⟨none, 0, by rw [hl], fun k hk => by omega⟩
  · refine ⟨some ⟨b, 0, none⟩, cap, hv, fun k hk => ⟨b, rfl, hb, (Array.getElem?_eq_some_iff.1 hg).1, fun j hj => ?_⟩⟩
    have e1 := flatMap_at hs l k j hk hj
    have hlt : j < (enc l[k]).length := by rw [hs]; exact hj
    rw [List.getElem?_eq_getElem hlt] at e1 ⊢
    have := World.ownsRow.cells h (g := b) (by rw [hv]; rfl) _ _ e1
    rw [add_at, Nat.zero_add] at this
    exact this
theorem OwnE.grown {B : Nat} {a : World} (h : OwnE enc size w base e V l) (hg : w.grownBy w' V.ownBlock) (hB : B ≤ base) (hb : Below B a w) (hs : B ≤ w.heap.size) : Below B a w' :=
  hb.grown hg hs (fun k hk => by have := World.ownsRow.lt h k hk; omega)
theorem box_grown {b : Nat} {xs : List Value} (h : OwnE enc size w base e V l) (hg : w.grownBy w' V.ownBlock) (hx : Box w b xs) (hb : b < base) : Box w' b xs := by
  obtain ⟨t, ht⟩ := hx
  refine ⟨t, (hg.block b (Array.getElem?_eq_some_iff.1 ht).1 (fun e => ?_)).trans ht⟩
  have := World.ownsRow.lt h b e.symm
  omega
theorem run_appE {i : TypeInfo} {z : Value} {bytes : Nat} (E : Elem t e i z size bytes) (hs : ∀ x, (enc x).length = size) (h1 : ∀ x, ∀ u ∈ enc x, u.oneCell' = true) (hby : bytes ≤ 1000) (x : α) {g : Nat} (ty : TypeId) (ho : OwnE enc size w base e V l) (hx : Box w g (enc x)) (hbase : base ≤ w.heap.size) (hl : l.length ≤ 1048576) :
    ∃ g' c' w', (appF #[t, t] ty #[V, .slice (some ⟨g, 0, none⟩) 1 1]).run Try.prog w = .ok (.slice (some ⟨g', 0, none⟩) (l.length + 1) c') w' ∧ OwnE enc size w' base e (.slice (some ⟨g', 0, none⟩) (l.length + 1) c') (l ++ [x]) ∧ w.grownBy w' V.ownBlock := by
  obtain ⟨v', w', hr, h3, h2, _, _⟩ := run_append_own_at (P := Try.prog) w base t ty e i _ size bytes E.ht E.hi E.hz E.hsize E.hby E.hzs E.hsz _ _ _ ho ⟨g, 0, none⟩ 1 1 (enc x) (by rw [hs, Nat.one_mul])
    (fun j u hu => by
      rw [add_at, Nat.zero_add, hx.cell j]
      exact hu)
    (h1 x) (by simp only [maxLen]; omega) (by have := Nat.mul_le_mul_left (l.length + 1) hby; omega) hbase
  have h5 := h3.2
  rcases h5 with ⟨_, h6⟩ | ⟨g', cap, cur, hv, _⟩
  · omega
  · subst hv
    refine ⟨g', cap, w', hr, ?_, h2⟩
    rw [OwnE, List.length_append, List.flatMap_append]
    simpa using h3
end
end Go.Proofs.Ytmbifmmkccghfaa

/-
  Ranges over functions that write memory above the range's own. No condition.
-/
namespace Go.Proofs.Ytmbifmmkccghfaa
open Go.RowKit Go.Shelf

def SeqN {α : Type} (F : Fence) (n : Nat) (P : Program) (g : Nat) (lb : Array Value) (encs : α → Array Value) (Kp : World → World → Prop) (S Sp : List α → Prop) (T : List α → α → Prop) (w : World) : Prop :=
  ∀ (l : Nat) (J Jx : List α → World → Prop) (W : World), Below w.heap.size w W →
    (∀ pre x W1, J pre W1 → T pre x → YieldAt F (n - 1) P l (encs x) W1 fun e W' =>
      (e = .returned (.bool true) ∧ J (pre ++ [x]) W' ∧ Kp W1 W') ∨ (e = .returned (.bool false) ∧ Jx (pre ++ [x]) W')) →
    J [] W →
    CallsIn F n P g (#[.func (.yield l) #[] #[]] ++ lb) W fun e W' => (∃ v, e = .returned v) ∧ ((∃ xs, S xs ∧ J xs W') ∨ (∃ pre, Sp pre ∧ Jx pre W'))
theorem SeqN.toB {α : Type} {F : Fence} {n : Nat} {P : Program} {g : Nat} {lb : Array Value} {encs : α → Array Value} {Kp : World → World → Prop} {S Sp : List α → Prop} {T : List α → α → Prop} {w : World} (h : SeqN F n P g lb encs Kp S Sp T w) : SeqB F n P g lb encs Kp S Sp T w := fun l J Jx W hW _ _ hY h0 => h l J Jx W hW hY h0

theorem yieldAt_roundN {α : Type} {F : Fence} {n : Nat} {P : Program} {B l D' : Nat} {Kp : World → World → Prop} (hKt : ∀ A B C : World, Kp A B → Kp B C → Kp A C) (hKb : ∀ (W : World) (l : Nat) (o o' : Obj), B ≤ l → W.heap[l]? = some o → o.isCells = false → Kp W (W.putObj l o')) (hB : B ≤ l) {fn : FuncId} {tmps : Array Value} {ps : Array Tmp} {assign body : Code} (hfn : F.fn fn)
    {I : List α → World → Prop} {Ix : Code → List α → World → Prop} {xs : List α} {vs : Array Value} {Ax : Act → World → Prop} {W : World} {rec : LoopState → Option Code → Loop}
    (hrec : rec = fun st pe => { state := st, pending := pe, fn, tmps, params := ps, assign, body, defers := D' })
    (hI : ∀ A o r, A.heap[l]? = some (.loop r) → I xs A → I xs (A.putObj l o)) (hIx : ∀ c A o r, A.heap[l]? = some (.loop r) → Ix c xs A → Ix c xs (A.putObj l o)) (hvs : vs.size = ps.size)
    (hl : W.heap[l]? = some (.loop (rec .ready none)))
    (hassign : ∀ K : Act → World → Prop, (∀ a' W', KeepsFrom B W W' → Kp W W' → Ax a' W' → K a' W') → assign.wpIn (F.inRound l) n P (Exit.then K (fun _ _ _ => False)) { tmps := (ps.zip vs).foldl (fun t (p, v) => t.setIfInBounds p v) tmps, defers := [] } W)
    (hbody : ∀ a' A, Ax a' A → A.heap[l]? = some (.loop (rec .ready none)) → body.wpIn (F.inRound l) n P (ownPostG B Kp I Ix xs (A.putObj l (.loop { rec .ready none with state := .busy }))) a' (A.putObj l (.loop { rec .ready none with state := .busy }))) :
    YieldAt F n P l vs W fun e W' => (e = .returned (.bool true) ∧ (I xs W' ∧ W'.heap[l]? = some (.loop (rec .ready none)) ∧ ∀ k o, B ≤ k → k ≠ l → W.heap[k]? = some o → o.isCells = false → W'.heap[k]? = some o) ∧ Kp W W') ∨
      (e = .returned (.bool false) ∧ ∃ c, Ix c xs W' ∧ W'.heap[l]? = some (.loop (rec .done (some c))) ∧ ∀ k o, B ≤ k → k ≠ l → W.heap[k]? = some o → o.isCells = false → W'.heap[k]? = some o) := by
  have hy := run_yield (P := P) (args := vs) hl (by rw [hrec]; exact hvs)
  rw [hrec] at hy
  refine ⟨fn, _, assign, body, hy, roundIn_of_wpIn hfn (hassign _ ?_)⟩
  intro a' Wa hkf hkc hax
  have hla := hkf.same _ _ hB hl rfl
  have hlt : l < Wa.heap.size := (Array.getElem?_eq_some_iff.1 hla).1
  refine ⟨_, run_beginRound hla (by rw [hrec]), wpIn_mono (hbody a' Wa hax hla) ?_⟩
  have hl2 : (Wa.putObj l (.loop { rec .ready none with state := .busy })).heap[l]? = some (.loop { rec .ready none with state := .busy }) := World.putObj_heap_same hlt
  have hk2 : Kp W (Wa.putObj l (.loop { rec .ready none with state := .busy })) := hKt _ _ _ hkc (hKb _ _ _ _ hB hla rfl)
  have fin : ∀ (jump : Option Code) (W3 : World), KeepsFrom B (Wa.putObj l (.loop { rec .ready none with state := .busy })) W3 →
      (Instr.endRound l jump).run P W3 = .ok (.bool jump.isNone) (W3.putObj l (.loop (rec (if jump.isNone then .ready else .done) jump))) ∧
      W3.heap[l]? = some (.loop { rec .ready none with state := .busy }) ∧
      (W3.putObj l (.loop (rec (if jump.isNone then .ready else .done) jump))).heap[l]? = some (.loop (rec (if jump.isNone then .ready else .done) jump)) ∧
      (∀ k o, B ≤ k → k ≠ l → W.heap[k]? = some o → o.isCells = false → (W3.putObj l (.loop (rec (if jump.isNone then .ready else .done) jump))).heap[k]? = some o) := by
    intro jump W3 hk3
    have hl3 := hk3.same _ _ hB hl2 rfl
    have he := run_endRound (P := P) jump hl3
    rw [hrec] at he ⊢
    refine ⟨he, by rw [hrec] at hl3; exact hl3, World.putObj_heap_same (Array.getElem?_eq_some_iff.1 hl3).1, fun k o hk hkl ho hc => ?_⟩
    refine (World.putObj_heap_other hkl).trans (hk3.same k o hk ?_ hc)
    exact (World.putObj_heap_other hkl).trans (hkf.same k o hk ho hc)
  rintro e a3 W3 hp
  cases e with
  | normal =>
    obtain ⟨hk3, hkp3, hi3⟩ := hp
    obtain ⟨hr, hl3, hl4, hk4⟩ := fin none W3 hk3
    exact ⟨_, _, hr, .inl ⟨rfl, ⟨hI _ _ _ hl3 hi3, hl4, hk4⟩, hKt _ _ _ hk2 (hKt _ _ _ hkp3 (hKb _ _ _ _ hB hl3 rfl))⟩⟩
  | ret =>
    obtain ⟨hk3, hi3⟩ := hp
    obtain ⟨hr, hl3, hl4, hk4⟩ := fin (some .ret) W3 hk3
    exact ⟨_, _, hr, .inr ⟨rfl, .ret, hIx _ _ _ _ hl3 hi3, hl4, hk4⟩⟩
  | exit id =>
    obtain ⟨hk3, hi3⟩ := hp
    obtain ⟨hr, hl3, hl4, hk4⟩ := fin (some (.exit id)) W3 hk3
    exact ⟨_, _, hr, .inr ⟨rfl, .exit id, hIx _ _ _ _ hl3 hi3, hl4, hk4⟩⟩
  | goto t =>
    obtain ⟨hk3, hi3⟩ := hp
    obtain ⟨hr, hl3, hl4, hk4⟩ := fin (some (.goto t)) W3 hk3
    exact ⟨_, _, hr, .inr ⟨rfl, .goto t, hIx _ _ _ _ hl3 hi3, hl4, hk4⟩⟩
  | panic ch => exact hp.elim
  | outgrown => exact hp.elim

theorem wpIn_rangeN_out {α : Type} {F : Fence} {n : Nat} {P : Program} {g : Operand} {ps : Array Tmp} {assign body : Code} {Q : Exit → Act → World → Prop} {a : Act} {w : World}
    (hro : F.round = none) (h1 : 1 ≤ n) {gf : Nat} {lb : Array Value} (hg : a.eval g = .func (.func gf) #[] lb) (hFg : F.fn gf) (eg : ∀ args w, (callFunc gf args).run P w = .ok (.enter gf args) w)
    {encs : α → Array Value} {Kp : World → World → Prop} (hKt : ∀ A B C : World, Kp A B → Kp B C → Kp A C) (hKb : ∀ (W : World) (l : Nat) (o o' : Obj), w.heap.size ≤ l → W.heap[l]? = some o → o.isCells = false → Kp W (W.putObj l o')) {S Sp : List α → Prop} {T : List α → α → Prop} {w0 : World} (hseq : SeqN F (n - 1) P gf lb encs Kp S Sp T w0) (hb0 : Below w0.heap.size w0 w) (hps : ∀ x, (encs x).size = ps.size)
    (I : List α → World → Prop) (Ix : Code → List α → World → Prop) (hI : ∀ s A l o r, w.heap.size ≤ l → A.heap[l]? = some (.loop r) → I s A → I s (A.putObj l o)) (hIx : ∀ c s A l o r, w.heap.size ≤ l → A.heap[l]? = some (.loop r) → Ix c s A → Ix c s (A.putObj l o)) (h0 : ∀ W, Below w.heap.size w W → I [] W)
    (Ax : List α → α → Act → World → Prop) (hAx : ∀ pre x a' A l o o', w.heap.size ≤ l → A.heap[l]? = some o → o.isCells = false → Ax pre x a' A → Ax pre x a' (A.putObj l o'))
    (hassign : ∀ (l : Nat) (pre : List α) (x : α) (W : World) (K : Act → World → Prop), I pre W → T pre x → (∀ a' W', KeepsFrom w.heap.size W W' → Kp W W' → Ax pre x a' W' → K a' W') →
      assign.wpIn (F.inRound l) (n - 1 - 1) P (Exit.then K (fun _ _ _ => False)) { tmps := (ps.zip (encs x)).foldl (fun t (p, v) => t.setIfInBounds p v) a.tmps, defers := [] } W)
    (hbody : ∀ (l : Nat) (pre : List α) (x : α) (a' : Act) (W : World), w.heap.size ≤ l → (∃ r, W.heap[l]? = some (.loop r)) → Ax pre x a' W → body.wpIn (F.inRound l) (n - 1 - 1) P (ownPostG w.heap.size Kp I Ix (pre ++ [x]) W) a' W)
    (hdone : ∀ (E : Nat) (xs : List α) (W : World), w.heap.size ≤ E → S xs → I xs W → W.heap[E]? = some (.deferred (some [])) → Q .normal { a with defers := { target := .collected E, args := #[] } :: a.defers } W)
    (hstop : ∀ (E : Nat) (c : Code) (pre : List α) (W : World), w.heap.size ≤ E → Sp pre → Ix c pre W → W.heap[E]? = some (.deferred (some [])) → c.wpIn F n P Q { a with defers := { target := .collected E, args := #[] } :: a.defers } W) :
    (Code.rangeFunc g ps assign body).wpIn F n P Q a w := by
  refine wpIn_rangeFunc ?_
  intro fn hfn
  rw [hro]
  obtain ⟨rec, hrec⟩ : ∃ rec : LoopState → Option Code → Loop, rec = fun st pe => { state := st, pending := pe, fn, tmps := a.tmps, params := ps, assign, body, defers := w.heap.size } := ⟨_, rfl⟩
  obtain ⟨W1, hW1⟩ : ∃ W1, (w.alloc (.deferred (some []))).alloc (.loop (rec .ready none)) = W1 := ⟨_, rfl⟩
  have hL1 : W1.heap[w.heap.size + 1]? = some (.loop (rec .ready none)) := by
    rw [← hW1]; have := World.alloc_heap_new (w.alloc (.deferred (some []))) (.loop (rec .ready none)); rwa [World.size_alloc] at this
  have hK1 : W1.heap[w.heap.size]? = some (.deferred (some [])) := by
    rw [← hW1]; exact (Below.heap_alloc _ _ _ (by simp)).trans (World.alloc_heap_new w _)
  have hb1 : Below w.heap.size w W1 := by
    rw [← hW1]; exact ((Below.refl _ w).alloc (Nat.le_refl _) _).alloc (by simp) _
  have hs1 : w.heap.size + 1 < W1.heap.size := (Array.getElem?_eq_some_iff.1 hL1).1
  refine ⟨w.heap.size + 1, [{ target := .collected w.heap.size, args := #[] }], W1, { target := .fn (.func gf) lb, args := #[.func (.yield (w.heap.size + 1)) #[] #[]] }, W1, gf,
    #[.func (.yield (w.heap.size + 1)) #[] #[]] ++ lb, W1, ?_, ?_, ?_, ?_, fun _ => h1, ?_⟩
  · rw [← hW1, hrec]; exact run_enterLoop_outer _ _ _ _ _
  · simp only [resolve, hg]
    simp [go_sem]
  · intro f' hf'; simp [Target.leads] at hf'; subst hf'; exact hFg
  · simp [invoke, go_sem, eg]
  · refine (hseq (w.heap.size + 1)
      (fun pre W => I pre W ∧ W.heap[w.heap.size + 1]? = some (.loop (rec .ready none)) ∧ W.heap[w.heap.size]? = some (.deferred (some [])))
      (fun pre W => ∃ c, Ix c pre W ∧ W.heap[w.heap.size + 1]? = some (.loop (rec .done (some c))) ∧ W.heap[w.heap.size]? = some (.deferred (some [])))
      W1 (hb0.trans (hb1.mono hb0.size)) ?_ ⟨h0 _ hb1, hL1, hK1⟩).mono ?_
    · rintro pre x W ⟨hi, hl, hk⟩ hlen
      refine (yieldAt_roundN (Ax := Ax pre x) (I := I) (Ix := Ix) (xs := pre ++ [x]) (D' := w.heap.size) hKt hKb (Nat.le_succ _) hfn hrec (fun A o r hr h => hI _ _ _ _ _ (Nat.le_succ _) hr h) (fun c A o r hr h => hIx _ _ _ _ _ _ (Nat.le_succ _) hr h) (hps x) hl
        (fun K hK => hassign _ pre x W K hi hlen hK) (fun a' A hax hla => hbody _ pre x a' _ (Nat.le_succ _) ⟨_, World.putObj_heap_same (Array.getElem?_eq_some_iff.1 hla).1⟩ (hAx _ _ _ _ _ _ _ (Nat.le_succ _) hla rfl hax))).mono ?_
      rintro e W' (⟨rfl, ⟨h1, h2, h3⟩, h4⟩ | ⟨rfl, c, h1, h2, h3⟩)
      · exact .inl ⟨rfl, ⟨h1, h2, h3 _ _ (Nat.le_refl _) (by omega) hk rfl⟩, h4⟩
      · exact .inr ⟨rfl, c, h1, h2, h3 _ _ (Nat.le_refl _) (by omega) hk rfl⟩
    · rintro e W2 ⟨⟨v, rfl⟩, (⟨xs, hS, hi, hl, hk⟩ | ⟨pre, hSp, c, hi, hl, hk⟩)⟩
      · exact ⟨none, _, by have := run_endLoop (P := P) hl (by rw [hrec]; simp); rw [hrec] at this; exact this, hdone _ xs _ (Nat.le_refl _) hS (hI _ _ _ _ _ (Nat.le_succ _) hl hi) ((World.putObj_heap_other (by omega)).trans hk)⟩
      · exact ⟨some c, _, by have := run_endLoop (P := P) hl (by rw [hrec]; simp); rw [hrec] at this; exact this, hstop _ c pre _ (Nat.le_refl _) hSp (hIx _ _ _ _ _ _ (Nat.le_succ _) hl hi) ((World.putObj_heap_other (by omega)).trans hk)⟩


section
variable {α : Type} {enc : α → List Value} {size : Nat} {w w' : World} {base e : Nat} {V : Value} {l : List α}
theorem OwnE.cellsAt (h : OwnE enc size w base e V l) {k : Nat} (hk : V.ownBlock = some k) {o : Obj} (ho : w.heap[k]? = some o) : o.isCells = true := by
  rcases h.2 with ⟨rfl, _⟩ | ⟨b, cap, cur, rfl, _, hg, _⟩
  · cases hk
  · obtain rfl : b = k := Option.some.inj hk
    rw [hg] at ho
    cases ho
    rfl
theorem OwnE.record (h : OwnE enc size w base e V l) {k : Nat} {o : Obj} (hl : w.heap[k]? = some o) (hc : o.isCells = false) (o' : Obj) : OwnE enc size (w.putObj k o') base e V l := by
  refine World.ownsRow.kept h (row := some k) ⟨rfl, rfl, rfl, by simp, fun i _ hi => World.putObj_heap_other (fun e => hi (by rw [e]))⟩ ?_
  refine .inr fun hk => ?_
  have := OwnE.cellsAt h hk hl
  rw [hc] at this
  cases this
theorem OwnE.kfGrown (h : OwnE enc size w base e V l) (hg : w.grownBy w' V.ownBlock) (B : Nat) : KeepsFrom B w w' :=
  ⟨hg.size, fun k o _ hk hc => (hg.block k (Array.getElem?_eq_some_iff.1 hk).1 (fun e => by have := OwnE.cellsAt h e.symm hk; rw [hc] at this; cases this)).trans hk⟩
theorem OwnE.kcGrown {D : Nat} {R : Nat → Prop} (h : OwnE enc size w base e V l) (hg : w.grownBy w' V.ownBlock) (hD : D ≤ base) (hs : D ≤ w.heap.size) (hR : ∀ b, base ≤ b → R b) : KeepsC D R w w' :=
  ⟨(Below.refl D w).grown hg hs (fun k hk => by have := World.ownsRow.lt h k hk; omega), fun b o hr ho _ => (hg.block b (Array.getElem?_eq_some_iff.1 ho).1 (fun e => hr (hR b (by have := World.ownsRow.lt h b e.symm; omega)))).trans ho⟩
theorem KeepsFrom.ofBelow {D : Nat} {A B : World} (h : Below A.heap.size A B) : KeepsFrom D A B := ⟨h.size, fun b _ _ ho _ => (h.block b (Array.getElem?_eq_some_iff.1 ho).1).trans ho⟩
theorem KeepsFrom.ofBox {D : Nat} {A : World} {b i : Nat} {xs : List Value} (h : Box A b xs) (v : Value) : KeepsFrom D A (A.setCell ⟨b, i, none⟩ v) := ⟨by simp, fun k o _ ho hc => (Below.heap_setCell A ⟨b, i, none⟩ v k (fun e => by
  obtain ⟨t, ht⟩ := h
  have : k = b := by simpa using e
  subst this
  rw [ht] at ho
  cases ho
  cases hc)).trans ho⟩
end
end Go.Proofs.Ytmbifmmkccghfaa

/-
  Contracts of the small functions of chapter 6. No condition.
-/
namespace Go.Proofs.Ytmbifmmkccghfaa
open Go.RowKit

abbrev Pk.v (p : Pk) (V : Value) : Value := .agg #[.int .i64 p.src, .int .i64 p.dst, V]
abbrev pairV (a b : Int) : Value := .agg #[.int .i64 a, .int .i64 b]

theorem nBetween_any (a b : Int) (w : World) : Calls Try.prog 72 #[.int .i64 a, .int .i64 b] w fun e w' => e = .returned (pairV (min a b) (max a b)) ∧ Below w.heap.size w w' := by
  go_enter Try.func72, Try.ntmps72
  go_wp2
  refine bodyPost_ret (v := pairV (min a b) (max a b)) (by simp [results, Try.results72, go_sem]) rfl ?_
  exact ⟨rfl, (Below.refl _ _).alloc (Nat.le_refl _) _⟩
theorem nValid_any (a b : Int) (w : World) : Calls Try.prog 61 #[pairV a b] w fun e w' => e = .returned (.bool (linkB a b)) ∧ Below w.heap.size w w' := by
  go_enter Try.func61, Try.ntmps61
  go_wp2
  all_goals
    go_ret
    refine ⟨?_, (Below.refl _ _).alloc (Nat.le_refl _) _⟩
    simp_all [linkB] <;> omega
theorem nIsNaN_any (n : Int) (w : World) : Calls Try.prog 100 #[.int .i64 n] w fun e w' => e = .returned (.bool false) ∧ w = w' := by
  go_enter Try.func100, Try.ntmps100
  go_wp2
  go_ret
  exact ⟨rfl, rfl⟩
theorem nCmp_any (a b : Int) (w : World) : Calls Try.prog 82 #[.int .i64 a, .int .i64 b] w fun e w' => e = .returned (.int .i64 (cmpI a b)) ∧ w = w' := by
  go_enter Try.func82, Try.ntmps82
  go_wp2_with (go_at_call 100; refine (nIsNaN_any _ _).mono ?_; rintro e w' ⟨rfl, rfl⟩)
  all_goals
    go_ret
    refine ⟨?_, rfl⟩
    unfold cmpI
    first
      | (rw [if_pos (by assumption)]; rfl)
      | (rw [if_neg (by omega), if_pos (by assumption)]; rfl)
      | (rw [if_neg (by omega), if_neg (by omega)]; rfl)

set_option maxHeartbeats 1000000 in
theorem nPacket_any (p : Pk) (V : Value) (w : World) (hV : BytesAt w w.heap.size V p.data) : Calls Try.prog 54 #[p.v V] w fun e w' => e = .returned (.bool p.okB) ∧ Below w.heap.size w w' := by
  obtain ⟨A, c, rfl, hm⟩ := hV.form
  unfold maxLen at hm
  obtain ⟨n, hn⟩ : ∃ n, p.data.length = n := ⟨_, rfl⟩
  have hp : p.okB = (linkB (min p.src p.dst) (max p.src p.dst) && decide ((n : Int) ≤ 1048576)) := by
    rw [Pk.okB, hn, show decide (n ≤ 1048576) = decide ((n : Int) ≤ 1048576) from decide_eq_decide.2 (by omega)]
  rw [hn] at hm hV ⊢
  rw [hp]
  clear hp hn hV
  obtain ⟨q, hq⟩ : ∃ q, linkB (min p.src p.dst) (max p.src p.dst) = q := ⟨_, rfl⟩
  rw [hq]
  have hq := Lib.hid hq
  go_enter Try.func54, Try.ntmps54
  go_wp2_with fail
  refine (nBetween_any _ _ _).mono ?_
  rintro e w1 ⟨rfl, hb⟩
  have X := (Box.new w [.int .i64 p.src, .int .i64 p.dst, .slice A n c] 51).later hb
  have hB := ((Below.refl w.heap.size w).alloc (Nat.le_refl _) (.cells #[.int .i64 p.src, .int .i64 p.dst, .slice A n c] 51)).trans (hb.mono (by simp))
  clear hb
  go_wp2_with fail
  refine (((nValid_any _ _ _).mono fun _ _ ⟨he, hb⟩ => ⟨by rw [he, hq.out], hb⟩) : Calls Try.prog 61 #[pairV (min p.src p.dst) (max p.src p.dst)] _ fun e w' => e = .returned (.bool q) ∧ Below _ _ w').mono ?_
  rintro e w2 ⟨rfl, hb⟩
  have X := X.later hb
  have hB := hB.trans (hb.mono hB.size)
  clear hb
  have x2 : w2.cell? ⟨w.heap.size, 2, none⟩ = some (.slice A n c) := X.cell 2
  have xz := X.lt
  rcases q with _ | _
  all_goals
    go_wp2
    go_ret
    exact ⟨rfl, hB⟩

theorem nPacket1_any (p : Pk) (V : Value) (w : World) (hV : BytesAt w w.heap.size V p.data) : Calls Try.prog 60 #[p.v V] w fun e w' => e = .returned (.bool (!p.okB)) ∧ Below w.heap.size w w' := by
  obtain ⟨q, hq⟩ : ∃ q, p.okB = q := ⟨_, rfl⟩
  rw [hq]
  have hq := Lib.hid hq
  have hb0 := (Below.refl w.heap.size w).alloc (Nat.le_refl _) (.cells #[.int .i64 p.src, .int .i64 p.dst, V] 51)
  have hV2 := Lib.hid (hV.later hb0)
  clear hV
  go_enter Try.func60, Try.ntmps60
  go_wp2_with fail
  refine (((nPacket_any p V _ hV2.out).mono fun _ _ ⟨he, hb⟩ => ⟨by rw [he, hq.out], hb⟩) : Calls Try.prog 54 #[p.v V] _ fun e w' => e = .returned (.bool q) ∧ Below _ _ w').mono ?_
  rintro e w2 ⟨rfl, hb⟩
  go_wp2
  go_ret
  exact ⟨rfl, hb0.trans (hb.mono hb0.size)⟩

end Go.Proofs.Ytmbifmmkccghfaa

/-
  Contracts of chapter 6: slices.ContainsFunc over packets, slices.Compare, the reference's test of a packet. No condition.
-/
namespace Go.Proofs.Ytmbifmmkccghfaa
open Go.RowKit

def IxRes (b : Bool) (w : World) (e : Ending) (w' : World) : Prop := ∃ z : Int, e = .returned (.int .i64 z) ∧ Hid ((b = true ∧ 0 ≤ z) ∨ (b = false ∧ z < 0)) ∧ Below w.heap.size w w'
theorem allTake {α : Type} (l : List α) (f : α → Bool) {k : Nat} (hk : k < l.length) : (l.take (k + 1)).all f = ((l.take k).all f && f l[k]) := by
  rw [List.take_succ_eq_append_getElem hk, List.all_append]
  simp
theorem allBad {α : Type} {l : List α} {f : α → Bool} {k : Nat} (hk : k < l.length) (h : f l[k] = false) : l.all f = false := by
  rw [List.all_eq_false]
  exact ⟨l[k], List.getElem_mem hk, by simp [h]⟩

set_option maxRecDepth 100000 in
set_option maxHeartbeats 2000000 in
theorem nIndexFunc_any (q : List Pk) (v : Value) (w : World) (hQ : PksAt w w.heap.size v q) :
    Calls Try.prog 81 #[v, .func (.func 60) #[] #[]] w (IxRes (!q.all Pk.okB) w) := by
  obtain ⟨A, c, rfl, hm⟩ := hQ.form
  unfold maxLen at hm
  obtain ⟨n, hnn⟩ : ∃ n, q.length = n := ⟨_, rfl⟩
  rw [hnn] at hm hQ ⊢
  have HN := Lib.hid hnn
  have HQ := Lib.hid hQ
  clear hnn hQ
  go_enter Try.func81, Try.ntmps81
  go_wp2_with fail
  go_loopw [8] (fun i wr => ∃ j : Nat, j ≤ n ∧ i = .int .i64 j ∧ Below w.heap.size w wr ∧ Hid ((q.take j).all Pk.okB = true)) (fun i _ => n - (intOf i).toNat)
  case atStart => exact ⟨0, by omega, rfl, Below.refl _ _, rfl⟩
  case round =>
    obtain ⟨j, hj, rfl, hb, hall⟩ := hrel
    by_cases hlt : j < n
    · have hjl : j < q.length := by rw [HN.out]; exact hlt
      obtain ⟨b, off, V, rfl, hbw, q0, q1, q2, hV⟩ := HQ.out.pk hjl
      have q0 := (hb.cell hbw).trans q0
      have q1 := (hb.cell hbw).trans q1
      have q2 := (hb.cell hbw).trans q2
      have hV2 := Lib.hid ((hV.below hb).more hb.size)
      have htk := allTake q Pk.okB hjl
      have hbad := allBad (f := Pk.okB) hjl
      obtain ⟨y, hy⟩ : ∃ y, q[j] = y := ⟨_, rfl⟩
      rw [hy] at q0 q1 hV2 htk hbad
      rw [hall.out, Bool.true_and] at htk
      have htk := Lib.hid htk
      have hbad := Lib.hid hbad
      clear hy hV
      go_wp2_with fail
      refine (nPacket1_any y V _ hV2.out).mono ?_
      rintro e w1 ⟨rfl, hb1⟩
      have hb2 := hb.trans (hb1.mono hb.size)
      rcases hh : y.okB with _ | _
      · have hF := Lib.hid (hbad.out hh)
        go_wp2
        go_ret
        exact ⟨_, rfl, .inl ⟨by rw [hF.out]; rfl, by omega⟩, hb2⟩
      · go_wp2
        refine ⟨⟨j + 1, by omega, by go_num, hb2, ?_⟩, by simp [intOf]; omega⟩
        rw [Hid, htk.out]
        exact hh
    · obtain rfl : j = n := by omega
      have hF : Hid (q.all Pk.okB = true) := by
        have := hall.out
        rw [← HN.out, List.take_length] at this
        exact this
      go_wp2
      go_ret
      exact ⟨_, rfl, .inr ⟨by rw [hF.out]; rfl, by omega⟩, hb⟩

theorem nContainsFunc_any (q : List Pk) (v : Value) (w : World) (hQ : PksAt w w.heap.size v q) :
    Calls Try.prog 59 #[v, .func (.func 60) #[] #[]] w fun e w' => e = .returned (.bool (!q.all Pk.okB)) ∧ Below w.heap.size w w' := by
  obtain ⟨t, ht⟩ : ∃ t, (!q.all Pk.okB) = t := ⟨_, rfl⟩
  have hI := nIndexFunc_any q v w hQ
  rw [ht] at hI ⊢
  have HI := Lib.hid hI
  clear hI ht hQ
  go_enter Try.func59, Try.ntmps59
  go_wp2_with fail
  refine HI.out.mono ?_
  rintro e w1 ⟨z, rfl, hz, hb1⟩
  rcases hz.out with ⟨rfl, h0⟩ | ⟨rfl, h0⟩
  · have _hd : decide (0 ≤ z) = true := decide_eq_true h0
    go_wp2
    go_ret
    exact ⟨rfl, hb1⟩
  · have _hd : decide (0 ≤ z) = false := decide_eq_false (by omega)
    go_wp2
    go_ret
    exact ⟨rfl, hb1⟩

set_option maxHeartbeats 1000000 in
theorem nCompare_any (x y : Int × Int) (b1 o1 c1 b2 o2 c2 : Nat) (w : World) (h1 : w.cell? ⟨b1, o1, none⟩ = some (.int .i64 x.1)) (h2 : w.cell? ⟨b1, o1 + 1, none⟩ = some (.int .i64 x.2)) (h3 : w.cell? ⟨b2, o2, none⟩ = some (.int .i64 y.1)) (h4 : w.cell? ⟨b2, o2 + 1, none⟩ = some (.int .i64 y.2)) :
    Calls Try.prog 62 #[.slice (some ⟨b1, o1, none⟩) 2 c1, .slice (some ⟨b2, o2, none⟩) 2 c2] w fun e w' => e = .returned (.int .i64 (cmpP x y)) ∧ w = w' := by
  have H : Hid (∀ k, k < 2 → w.cell? ⟨b1, o1 + k, none⟩ = some (.int .i64 (if k = 0 then x.1 else x.2)) ∧ w.cell? ⟨b2, o2 + k, none⟩ = some (.int .i64 (if k = 0 then y.1 else y.2))) := by
    intro k hk
    rcases (show k = 0 ∨ k = 1 by omega) with rfl | rfl
    · exact ⟨h1, h3⟩
    · exact ⟨h2, h4⟩
  clear h1 h2 h3 h4
  go_enter Try.func62, Try.ntmps62
  go_wp2_with fail
  go_loop [11] (fun i => ∃ k : Nat, k ≤ 2 ∧ i = .int .i64 k ∧ Hid (0 < k → cmpI x.1 y.1 = 0) ∧ Hid (1 < k → cmpI x.2 y.2 = 0)) (fun i => 2 - (intOf i).toNat)
  case atStart => exact ⟨0, by omega, rfl, fun h => absurd h (by omega), fun h => absurd h (by omega)⟩
  case round =>
    obtain ⟨k, hk, rfl, e1, e2⟩ := hrel
    by_cases hlt : k < 2
    · obtain ⟨q1, q2⟩ := H.out k hlt
      obtain ⟨c, hc⟩ : ∃ c, cmpI (if k = 0 then x.1 else x.2) (if k = 0 then y.1 else y.2) = c := ⟨_, rfl⟩
      have HC := Lib.hid hc
      have S : ∀ w, Calls Try.prog 82 #[.int .i64 (if k = 0 then x.1 else x.2), .int .i64 (if k = 0 then y.1 else y.2)] w fun e w' => e = .returned (.int .i64 c) ∧ w = w' := fun w => by rw [← hc]; exact nCmp_any _ _ w
      have S := Lib.hid S
      clear hc
      obtain ⟨u, hu⟩ : ∃ u, (if k = 0 then x.1 else x.2) = u := ⟨_, rfl⟩
      obtain ⟨v, hv⟩ : ∃ v, (if k = 0 then y.1 else y.2) = v := ⟨_, rfl⟩
      rw [hu, hv] at S HC
      rw [hu] at q1
      rw [hv] at q2
      have HU := Lib.hid hu
      have HV := Lib.hid hv
      clear hu hv
      by_cases h0 : c = 0
      · subst h0
        go_wp2_with (go_at_call 82; refine (S.out _).mono ?_; rintro e w' ⟨rfl, rfl⟩)
        refine ⟨⟨k + 1, by omega, by go_num, fun _ => ?_, fun h => ?_⟩, by simp [intOf]; omega⟩
        · rcases (show k = 0 ∨ k = 1 by omega) with rfl | rfl
          · have := HC.out; rw [← HU.out, ← HV.out] at this; simpa using this
          · exact e1.out (by omega)
        · obtain rfl : k = 1 := by omega
          have := HC.out; rw [← HU.out, ← HV.out] at this; simpa using this
      · have _h1 : (c != 0) = true := by simp [h0]
        go_wp2_with (go_at_call 82; refine (S.out _).mono ?_; rintro e w' ⟨rfl, rfl⟩)
        go_ret
        refine ⟨?_, rfl⟩
        have hc := HC.out
        rw [← HU.out, ← HV.out] at hc
        rcases (show k = 0 ∨ k = 1 by omega) with rfl | rfl
        · have hc : cmpI x.1 y.1 = c := by simpa using hc
          rw [cmpP, hc, if_pos h0]
          rfl
        · have hc : cmpI x.2 y.2 = c := by simpa using hc
          rw [cmpP, e1.out (by omega), if_neg (by simp), hc]
          rfl
    · obtain rfl : k = 2 := by omega
      go_wp2
      go_ret
      refine ⟨?_, rfl⟩
      rw [cmpP, e1.out (by omega), if_neg (by simp), e2.out (by omega)]
      rfl

end Go.Proofs.Ytmbifmmkccghfaa

/-
  Contracts of Check of network and of its reference. No condition.
-/
namespace Go.Proofs.Ytmbifmmkccghfaa
open Go.RowKit

theorem nValid_at {a b : Int} {q : Bool} (h : Hid (linkB a b = q)) (w : World) : Calls Try.prog 61 #[pairV a b] w fun e w' => e = .returned (.bool q) ∧ Below w.heap.size w w' :=
  (nValid_any a b w).mono fun _ _ ⟨he, hb⟩ => ⟨by rw [he, h.out], hb⟩
theorem nContainsFunc_at {q : List Pk} {v : Value} {w : World} {t : Bool} (h : Hid (q.all Pk.okB = t)) (hQ : PksAt w w.heap.size v q) :
    Calls Try.prog 59 #[v, .func (.func 60) #[] #[]] w fun e w' => e = .returned (.bool (!t)) ∧ Below w.heap.size w w' :=
  (nContainsFunc_any q v w hQ).mono fun _ _ ⟨he, hb⟩ => ⟨by rw [he, h.out], hb⟩
theorem rangeAll (f : Nat → Bool) (k : Nat) : (List.range (k + 1)).all f = ((List.range k).all f && f k) := by
  rw [List.range_succ, List.all_append]
  simp
theorem rangeBad {f : Nat → Bool} {n k : Nat} (hk : k < n) (h : f k = false) : (List.range n).all f = false := by
  rw [List.all_eq_false]
  exact ⟨k, List.mem_range.2 hk, by simp [h]⟩
theorem Net.okB_eq (n : Net) : n.okB = (decide (n.queue.length ≤ 4096) && (n.queue.all Pk.okB && apartB n.apart)) := rfl
theorem check_bad {n : Net} (h : n.okB = false) : n.checkT = 60 := by rw [Net.checkT, h]; rfl
theorem check_good {n : Net} (h : n.okB = true) : n.checkT = 0 := by rw [Net.checkT, h]; rfl

set_option maxRecDepth 100000 in
set_option maxHeartbeats 4000000 in
theorem nCheck_any (n : Net) (Vq Va : Value) (w : World) (hN : NetAt w w.heap.size Vq Va n) :
    Calls Try.prog 38 #[.agg #[Vq, Va]] w fun e w' => e = .returned (.int .i64 n.checkT) ∧ Below w.heap.size w w' := by
  obtain ⟨Aq, cq, rfl, hmq⟩ := hN.queue.form
  obtain ⟨Aa, ca, rfl, hma⟩ := hN.apart.form
  unfold maxLen at hmq hma
  obtain ⟨nq, hnq⟩ : ∃ k, n.queue.length = k := ⟨_, rfl⟩
  obtain ⟨na, hna⟩ : ∃ k, n.apart.length = k := ⟨_, rfl⟩
  rw [hnq] at hmq
  rw [hna] at hma
  rw [hnq, hna] at hN ⊢
  have HQ := Lib.hid hnq
  have HA := Lib.hid hna
  have HN := Lib.hid hN
  clear hnq hna hN
  by_cases hl : nq ≤ 4096
  · rcases hq : n.queue.all Pk.okB with _ | _
    · have hf : n.checkT = 60 := check_bad (by rw [Net.okB_eq, hq]; simp)
      rw [hf]
      have Hq := Lib.hid hq
      clear hf hq
      have hb0 := (Below.refl w.heap.size w).alloc (Nat.le_refl _) (.cells #[.slice Aq nq cq, .slice Aa na ca] 25)
      have HN1 := Lib.hid (HN.out.later hb0)
      go_enter Try.func38, Try.ntmps38
      go_wp2_with fail
      refine (nContainsFunc_at Hq HN1.out.queue).mono ?_
      rintro e w1 ⟨rfl, hb⟩
      go_wp2
      go_ret
      exact ⟨rfl, hb0.trans (hb.mono hb0.size)⟩
    · have Hq := Lib.hid hq
      clear hq
      have hb0 := (Below.refl w.heap.size w).alloc (Nat.le_refl _) (.cells #[.slice Aq nq cq, .slice Aa na ca] 25)
      have HN1 := Lib.hid (HN.out.later hb0)
      go_enter Try.func38, Try.ntmps38
      go_wp2_with fail
      refine (nContainsFunc_at Hq HN1.out.queue).mono ?_
      rintro e W ⟨rfl, hb⟩
      have X := (Box.new w [.slice Aq nq cq, .slice Aa na ca] 25).later hb
      have HL := Lib.hid (HN1.out.later hb).apart
      have hB := hb0.trans (hb.mono hb0.size)
      clear hb HN1 hb0
      have x1 : W.cell? ⟨w.heap.size, 1, none⟩ = some (.slice Aa na ca) := X.cell 1
      have xz := X.lt
      go_wp2_with fail
      clear x1 xz
      go_loopw [17] (fun i wr => ∃ k : Nat, k ≤ na ∧ i = .int .i64 k ∧ Below W.heap.size W wr ∧ Hid ((List.range k).all (okAt n.apart) = true)) (fun i _ => na - (intOf i).toNat)
      case atStart => exact ⟨0, by omega, rfl, Below.refl _ _, rfl⟩
      case round =>
        obtain ⟨k, hk, rfl, hb, hall⟩ := hrel
        have X' := X.later hb
        by_cases hlt : k < na
        · obtain ⟨b, off, rfl, hbw, hcs⟩ := HL.out.lk (by rw [HA.out]; omega)
          obtain ⟨g0, g1⟩ := hcs k (by rw [HA.out]; omega)
          have htk := rangeAll (okAt n.apart) k
          have hbad := rangeBad (f := okAt n.apart) (show k < n.apart.length by rw [HA.out]; exact hlt)
          have hok : okAt n.apart k = (linkB (n.apart.getD k (0, 0)).1 (n.apart.getD k (0, 0)).2 && (decide (k = 0) || decide (cmpP (n.apart.getD (k - 1) (0, 0)) (n.apart.getD k (0, 0)) < 0))) := rfl
          have hprev : 0 < k → W.cell? ⟨b, off + (k - 1) * 2, none⟩ = some (.int .i64 (n.apart.getD (k - 1) (0, 0)).1) ∧ W.cell? ⟨b, off + (k - 1) * 2 + 1, none⟩ = some (.int .i64 (n.apart.getD (k - 1) (0, 0)).2) := fun _ => hcs (k - 1) (by rw [HA.out]; omega)
          obtain ⟨p, hp⟩ : ∃ p, n.apart.getD (k - 1) (0, 0) = p := ⟨_, rfl⟩
          obtain ⟨l, hl'⟩ : ∃ l, n.apart.getD k (0, 0) = l := ⟨_, rfl⟩
          rw [hp, hl'] at hok
          rw [hl'] at g0 g1
          rw [hp] at hprev
          rw [hall.out, Bool.true_and] at htk
          have HPREV := Lib.hid hprev
          have HTK := Lib.hid htk
          have HBAD := Lib.hid hbad
          have HOK := Lib.hid hok
          have HB : Hid (okAt n.apart k = false → n.checkT = 60) := fun h => check_bad (by rw [Net.okB_eq, apartB, HBAD.out h]; simp)
          clear hprev htk hbad hok hp hl' hcs
          have g0 := (hb.cell hbw).trans g0
          have g1 := (hb.cell hbw).trans g1
          go_wp2_with fail
          have Y := Box.new wr [.int .i64 l.1, .int .i64 l.2] 49
          have hb2 := hb.alloc hb.size (.cells #[.int .i64 l.1, .int .i64 l.2] 49)
          have X2 := X'.alloc (.cells #[.int .i64 l.1, .int .i64 l.2] 49)
          generalize wr.alloc (.cells #[.int .i64 l.1, .int .i64 l.2] 49) = W2 at Y hb2 X2 ⊢
          clear g0 g1 X'
          generalize wr.heap.size = D at Y ⊢
          have y0 : ∀ z : Later W2, z.w.cell? ⟨D, 0, none⟩ = some (.int .i64 l.1) := Later.cell (Y.cell 0) Y.lt
          have y1 : ∀ z : Later W2, z.w.cell? ⟨D, 1, none⟩ = some (.int .i64 l.2) := Later.cell (Y.cell 1) Y.lt
          rcases hv : linkB l.1 l.2 with _ | _
          · have HV := Lib.hid hv
            clear hv
            refine wp_region_later (by kernel_rfl) (by kernel_rfl) ?_
            repeat (go_big_quiet_step ((go_at_call 61; exact Later.call _ (nValid_at HV _))))
            refine wpQuiet_nil ?_
            intro _ hw'
            obtain ⟨yq, hw''⟩ := hw'
            subst hw''
            clear y0 y1
            go_wp2
            go_ret
            exact ⟨by rw [HB.out (by rw [HOK.out, HV.out]; rfl)]; rfl, hB.trans ((hb2.trans (yq.below.mono hb2.size)).mono hB.size)⟩
          · have HV := Lib.hid hv
            clear hv
            by_cases hk0 : k = 0
            · subst hk0
              refine wp_region_later (by kernel_rfl) (by kernel_rfl) ?_
              repeat (go_big_quiet_step ((go_at_call 61; exact Later.call _ (nValid_at HV _))))
              refine wpQuiet_nil ?_
              intro _ hw'
              obtain ⟨yq, hw''⟩ := hw'
              subst hw''
              clear y0 y1
              go_wp2
              refine ⟨⟨0 + 1, by omega, by go_num, hb2.trans (yq.below.mono hb2.size), ?_⟩, by simp [intOf]; omega⟩
              rw [Hid, HTK.out, HOK.out, HV.out]
              rfl
            · obtain ⟨p0, p1⟩ := HPREV.out (by omega)
              have c0 : ∀ z : Later W2, z.w.cell? ⟨b, off + (k - 1) * 2, none⟩ = some (.int .i64 p.1) := Later.cell ((hb2.cell hbw).trans p0) (Nat.lt_of_lt_of_le hbw hb2.size)
              have c1 : ∀ z : Later W2, z.w.cell? ⟨b, off + (k - 1) * 2 + 1, none⟩ = some (.int .i64 p.2) := Later.cell ((hb2.cell hbw).trans p1) (Nat.lt_of_lt_of_le hbw hb2.size)
              have c2 : ∀ z : Later W2, z.w.cell? ⟨w.heap.size, 1, none⟩ = some (.slice (some ⟨b, off, none⟩) na ca) := Later.cell (X2.cell 1) X2.lt
              have CMP : Hid (∀ z : Later W2, Calls Try.prog 62 #[.slice (some ⟨b, off + (k - 1) * 2, none⟩) 2 2, .slice (some ⟨D, 0, none⟩) 2 2] z.w fun e w' => e = .returned (.int .i64 (cmpP p l)) ∧ z.w = w') := fun z => nCompare_any p l _ _ _ _ _ _ _ (c0 z) (c1 z) (y0 z) (y1 z)
              have kp : decide (0 < k) = true := decide_eq_true (by omega)
              have k0 : (0 : Int) ≤ (k : Int) - 1 := by omega
              have k1 : (k : Int) - 1 < (na : Int) := by omega
              have k2 : ((k : Int) - 1).toNat = k - 1 := by omega
              have k3 : IntKind.i64.wrap ((k : Int) - 1) = (k : Int) - 1 := IntWalk.i64_in _ (by omega)
              refine wp_region_later (by kernel_rfl) (by kernel_rfl) ?_
              repeat (go_big_quiet_step ((first | (go_at_call 61; exact Later.call _ (nValid_at HV _)) | (go_at_call 62; exact Later.same _ (CMP.out _)))))
              refine wpQuiet_nil ?_
              intro _ hw'
              obtain ⟨yq, hw''⟩ := hw'
              subst hw''
              clear y0 y1 c0 c1 c2 CMP k0 k1 k2 k3
              by_cases hc : cmpP p l < 0
              · go_wp2
                refine ⟨⟨k + 1, by omega, by go_num, hb2.trans (yq.below.mono hb2.size), ?_⟩, by simp [intOf]; omega⟩
                rw [Hid, HTK.out, HOK.out, HV.out, decide_eq_true hc]
                simp
              · go_wp2
                go_ret
                exact ⟨by rw [HB.out (by rw [HOK.out, HV.out, decide_eq_false (show ¬ cmpP p l < 0 by omega), decide_eq_false hk0]; rfl)]; rfl, hB.trans ((hb2.trans (yq.below.mono hb2.size)).mono hB.size)⟩
        · obtain rfl : k = na := by omega
          have hF : n.checkT = 0 := check_good (by rw [Net.okB_eq, Hq.out, apartB, HA.out, hall.out, decide_eq_true (by rw [HQ.out]; exact hl)]; rfl)
          have HF := Lib.hid hF
          clear hF
          go_wp2
          go_ret
          exact ⟨by rw [HF.out]; rfl, hB.trans (hb.mono hB.size)⟩
  · have hf : n.checkT = 60 := check_bad (by rw [Net.okB_eq, decide_eq_false (by rw [HQ.out]; exact hl)]; rfl)
    rw [hf]
    clear hf
    go_enter Try.func38, Try.ntmps38
    go_wp2
    go_ret
    exact ⟨rfl, (Below.refl _ _).alloc (Nat.le_refl _) _⟩

end Go.Proofs.Ytmbifmmkccghfaa

/-
  Contract of Check of the reference of chapter 6. No condition.
-/
namespace Go.Proofs.Ytmbifmmkccghfaa
open Go.RowKit

end Go.Proofs.Ytmbifmmkccghfaa

/-
  append on slices of packets and of pairs. No condition.
-/
namespace Go.Proofs.Ytmbifmmkccghfaa
open Go.RowKit

theorem info_pk : (Try.prog.info? 51).map (fun i => (i.zero, i.size, i.bytes)) = some (some (.agg #[.int .i64 0, .int .i64 0, .slice none 0 0]), 3, 40) := by kernel_rfl
theorem elem_pk : ∃ i, Elem 22 51 i (.agg #[.int .i64 0, .int .i64 0, .slice none 0 0]) 3 40 := by
  obtain ⟨i, hi, h0, h1, h2⟩ := info_parts info_pk
  exact ⟨i, Try.underlying22, hi, h0, h1, h2, rfl, by decide⟩
theorem Sl.congr {w : World} {B size n : Nat} {g h : Nat → Nat → Value} {v : Value} (hs : Sl w B size n g v) (he : ∀ i j, i < n → j < size → g i j = h i j) : Sl w B size n h v := by
  obtain ⟨A, c, hv, hm, h1⟩ := hs
  refine ⟨A, c, hv, hm, fun i hi => ?_⟩
  obtain ⟨b, off, ha, hb, h3⟩ := h1 i hi
  exact ⟨b, off, ha, hb, fun j hj => by rw [h3 j hj, he i j hi hj]⟩
def catV (n : Nat) (V U : Nat → Value) : Nat → Value := fun i => if i < n then V i else U (i - n)
theorem pkCells_cat (q r : List Pk) (V U : Nat → Value) (i j : Nat) : cat q.length (pkCells q V) (pkCells r U) i j = pkCells (q ++ r) (catV q.length V U) i j := by
  unfold cat catV pkCells
  by_cases h : i < q.length
  · simp only [if_pos h, List.getD_eq_getElem?_getD, List.getElem?_append_left h]
  · simp only [if_neg h, List.getD_eq_getElem?_getD, List.getElem?_append_right (show q.length ≤ i by omega)]
theorem pkCells_one {q : List Pk} {V : Nat → Value} (hV : ∀ (i : Nat) (p : Pk), q[i]? = some p → ∃ w B, BytesAt w B (V i) p.data) {i j : Nat} (hi : i < q.length) : (pkCells q V i j).oneCell' = true := by
  unfold pkCells
  split
  · rfl
  · split
    · rfl
    · obtain ⟨w, B, h⟩ := hV i _ (List.getElem?_eq_getElem hi)
      obtain ⟨A, c, e, _⟩ := h.form
      rw [e]
      rfl
theorem bytes_cat {w : World} {B : Nat} {q r : List Pk} {V U : Nat → Value} (h1 : ∀ (i : Nat) (p : Pk), q[i]? = some p → BytesAt w B (V i) p.data) (h2 : ∀ (i : Nat) (p : Pk), r[i]? = some p → BytesAt w B (U i) p.data) :
    ∀ (i : Nat) (p : Pk), (q ++ r)[i]? = some p → BytesAt w B (catV q.length V U i) p.data := by
  intro i p hp
  unfold catV
  by_cases h : i < q.length
  · rw [if_pos h]
    exact h1 i p (by rw [List.getElem?_append_left h] at hp; exact hp)
  · rw [if_neg h]
    exact h2 _ p (by rw [List.getElem?_append_right (by omega)] at hp; exact hp)

def PksIn (w : World) (B D : Nat) (v : Value) (q : List Pk) : Prop :=
  SlF v ∧ ∃ V : Nat → Value, Sl w B 3 q.length (pkCells q V) v ∧ ∀ (i : Nat) (p : Pk), q[i]? = some p → BytesAt w D (V i) p.data
theorem PksAt.within {w : World} {B B' : Nat} {v : Value} {q : List Pk} (h : PksAt w B v q) (hB : B ≤ B') : PksIn w B' B v q := by
  obtain ⟨f, V, s, b⟩ := h
  exact ⟨f, V, s.more hB, b⟩
theorem PksIn.at {w : World} {B D : Nat} {v : Value} {q : List Pk} (h : PksIn w B D v q) (hD : D ≤ B) : PksAt w B v q := by
  obtain ⟨f, V, s, b⟩ := h
  exact ⟨f, V, s, fun i p hp => (b i p hp).more hD⟩
theorem pksIn_one {w : World} {b D : Nat} {p : Pk} {V : Value} (hX : Box w b [.int .i64 p.src, .int .i64 p.dst, V]) (hV : BytesAt w D V p.data) : PksIn w w.heap.size D (.slice (some ⟨b, 0, none⟩) 1 1) [p] := by
  refine ⟨.inr ⟨_, _, _, rfl, Nat.le_refl _, by simp [maxLen]⟩, fun _ => V, ⟨_, _, rfl, by simp [maxLen], fun i hi => ⟨b, 0, rfl, hX.lt, fun j hj => ?_⟩⟩, fun i x hx => ?_⟩
  · obtain rfl : i = 0 := by simpa using hi
    rcases (show j = 0 ∨ j = 1 ∨ j = 2 by omega) with rfl | rfl | rfl
    · exact hX.cell 0
    · exact hX.cell 1
    · exact hX.cell 2
  · rcases i with _ | i
    · obtain rfl : p = x := by simpa using hx
      exact hV
    · simp at hx
def Pks2 (w : World) (D base : Nat) (v : Value) (q : List Pk) : Prop :=
  SlF v ∧ ∃ V : Nat → Value, Sl2 w D base 3 q.length (pkCells q V) v ∧ ∀ (i : Nat) (p : Pk), q[i]? = some p → BytesAt w D (V i) p.data
theorem Pks2.at {w : World} {D base : Nat} {v : Value} {q : List Pk} (h : Pks2 w D base v q) (hD : D ≤ w.heap.size) : PksAt w w.heap.size v q := by
  obtain ⟨f, V, s, b⟩ := h
  exact ⟨f, V, s.sl, fun i p hp => (b i p hp).more hD⟩
theorem Pks2.set {w : World} {D base : Nat} {v : Value} {q : List Pk} (h : Pks2 w D base v q) {a : Addr} (h1 : D ≤ a.block) (h2 : a.block < base) (u : Value) : Pks2 (w.setCell a u) D base v q := by
  obtain ⟨f, V, s, b⟩ := h
  exact ⟨f, V, s.set h1 h2 u, fun i p hp => (b i p hp).below ((Below.refl D w).setCell h1 u)⟩
theorem Pks2.form {w : World} {D base : Nat} {v : Value} {q : List Pk} (h : Pks2 w D base v q) : ∃ A c, v = .slice A q.length c := by
  obtain ⟨_, _, ⟨A, c, hv, _⟩, _⟩ := h
  exact ⟨A, c, hv⟩
theorem run_app_pk (ty : TypeId) {w : World} {D : Nat} {A : Option Addr} {n cap : Nat} {q r : List Pk} {x : Value} (hq : PksAt w D (.slice A n cap) q) (hr : PksIn w w.heap.size D x r) (hD : D ≤ w.heap.size) (hcap : cap < q.length + r.length ∨ r.length = 0) (hsz : q.length + r.length ≤ 1048576) :
    ∃ A' n' c' w', (Builtin.append_ #[22, 22] ty #[.slice A n cap, x]).run Try.prog w = .ok (.slice A' n' c') w' ∧ Pks2 w' D w.heap.size (.slice A' n' c') (q ++ r) ∧ Below w.heap.size w w' := by
  obtain ⟨i, E⟩ := elem_pk
  obtain ⟨_, _, hv, _⟩ := hq.form
  obtain ⟨f1, V, s1, b1⟩ := hq
  obtain ⟨f2, U, s2, b2⟩ := hr
  have hn : n = q.length := by injection hv
  subst hn
  obtain ⟨v', w', hrun, s3, f3, hb⟩ := run_app E ty s1 hD f1 s2 f2 (fun k j hk _ => pkCells_one (fun i p hp => ⟨_, _, b2 i p hp⟩) hk) hcap (by simp only [maxLen]; omega) (by omega)
  have key : Pks2 w' D w.heap.size v' (q ++ r) := by
    refine ⟨f3, catV q.length V U, ?_, fun k p hp => (bytes_cat b1 b2 k p hp).below (hb.mono hD)⟩
    rw [List.length_append]
    obtain ⟨A2, c2, e1, e2, e3⟩ := s3
    refine ⟨A2, c2, e1, e2, fun i hi => ?_⟩
    obtain ⟨b, off, e4, e5, e6, e7⟩ := e3 i hi
    exact ⟨b, off, e4, e5, e6, fun j hj => by rw [e7 j hj, pkCells_cat]⟩
  obtain ⟨A', c', rfl⟩ := key.form
  exact ⟨_, _, _, w', hrun, key, hb⟩
def OwnPk (w : World) (base D : Nat) (v : Value) (q : List Pk) : Prop :=
  ∃ V : Nat → Value, w.ownsRow base 51 3 v q.length (flat q.length 3 (pkCells q V)) ∧ ∀ (i : Nat) (p : Pk), q[i]? = some p → BytesAt w D (V i) p.data
theorem OwnPk.two {w : World} {base D : Nat} {v : Value} {q : List Pk} (h : OwnPk w base D v q) (hn : q.length ≤ maxLen) : Pks2 w D base v q := by
  obtain ⟨V, h1, h2⟩ := h
  obtain ⟨s, f⟩ := own_sl2 (D := D) h1 hn
  exact ⟨f, V, s, h2⟩
theorem OwnPk.form {w : World} {base D : Nat} {v : Value} {q : List Pk} (h : OwnPk w base D v q) : ∃ A n c, v = .slice A n c := by
  obtain ⟨V, h1, _⟩ := h
  rcases h1.2 with ⟨rfl, _⟩ | ⟨g, cap, cur, rfl, _⟩
  · exact ⟨_, _, _, rfl⟩
  · exact ⟨_, _, _, rfl⟩
theorem OwnPk.alloc {w : World} {base D : Nat} {v : Value} {q : List Pk} (h : OwnPk w base D v q) (hD : D ≤ w.heap.size) (o : Obj) : OwnPk (w.alloc o) base D v q := by
  obtain ⟨V, h1, h2⟩ := h
  exact ⟨V, h1.alloc o, fun i p hp => (h2 i p hp).below ((Below.refl D w).alloc hD o)⟩
def OwnLk (w : World) (base : Nat) (v : Value) (l : List (Int × Int)) : Prop := w.ownsRow base 49 2 v l.length (flat l.length 2 (lkCells l))
theorem Sl2.lower {w : World} {D base base' size n : Nat} {g : Nat → Nat → Value} {v : Value} (h : Sl2 w D base size n g v) (hb : base' ≤ base) : Sl2 w D base' size n g v := by
  obtain ⟨A, c, hv, hm, h1⟩ := h
  refine ⟨A, c, hv, hm, fun i hi => ?_⟩
  obtain ⟨b, off, ha, hb1, hl, h3⟩ := h1 i hi
  exact ⟨b, off, ha, by omega, hl, h3⟩
theorem Pks2.lower {w : World} {D base base' : Nat} {v : Value} {q : List Pk} (h : Pks2 w D base v q) (hb : base' ≤ base) : Pks2 w D base' v q := by
  obtain ⟨f, V, s, b⟩ := h
  exact ⟨f, V, s.lower hb, b⟩
theorem Pks2.later {w w' : World} {D base : Nat} {v : Value} {q : List Pk} (h : Pks2 w D base v q) (hD : D ≤ w.heap.size) (hb : Below w.heap.size w w') : Pks2 w' D base v q := by
  obtain ⟨f, V, s, b⟩ := h
  exact ⟨f, V, s.later hb, fun i p hp => (b i p hp).below (hb.mono hD)⟩
theorem PksAt.two {w : World} {D base : Nat} {v : Value} {q : List Pk} (h : PksAt w D v q) (hD : D ≤ w.heap.size) : Pks2 w D base v q := by
  obtain ⟨f, V, s, b⟩ := h
  exact ⟨f, V, s.sl2 hD, b⟩
def Lks2 (w : World) (D base : Nat) (v : Value) (l : List (Int × Int)) : Prop := SlF v ∧ Sl2 w D base 2 l.length (lkCells l) v
theorem LksAt.two {w : World} {D base : Nat} {v : Value} {l : List (Int × Int)} (h : LksAt w D v l) (hD : D ≤ w.heap.size) : Lks2 w D base v l := ⟨h.1, h.2.sl2 hD⟩
theorem OwnLk.two {w : World} {base D : Nat} {v : Value} {l : List (Int × Int)} (h : OwnLk w base v l) (hn : l.length ≤ maxLen) : Lks2 w D base v l := by
  obtain ⟨s, f⟩ := own_sl2 (D := D) h hn
  exact ⟨f, s⟩
theorem BytesAt.set1 {w : World} {D : Nat} {v : Value} {l : List UInt8} (h : BytesAt w D v l) {a : Addr} (h1 : D ≤ a.block) (u : Value) : BytesAt (w.setCell a u) D v l := h.below ((Below.refl D w).setCell h1 u)
structure Net2 (w : World) (D base : Nat) (Vq Va : Value) (n : Net) : Prop where
  queue : Pks2 w D base Vq n.queue
  apart : Lks2 w D base Va n.apart
theorem Net2.set {w : World} {D base : Nat} {Vq Va : Value} {n : Net} (h : Net2 w D base Vq Va n) {a : Addr} (h1 : D ≤ a.block) (h2 : a.block < base) (u : Value) : Net2 (w.setCell a u) D base Vq Va n := ⟨h.queue.set h1 h2 u, h.apart.1, h.apart.2.set h1 h2 u⟩
theorem Net2.later {w w' : World} {D base : Nat} {Vq Va : Value} {n : Net} (h : Net2 w D base Vq Va n) (hD : D ≤ w.heap.size) (hb : Below w.heap.size w w') : Net2 w' D base Vq Va n := ⟨h.queue.later hD hb, h.apart.1, h.apart.2.later hb⟩
theorem Net2.lower {w : World} {D base base' : Nat} {Vq Va : Value} {n : Net} (h : Net2 w D base Vq Va n) (hb : base' ≤ base) : Net2 w D base' Vq Va n := ⟨h.queue.lower hb, h.apart.1, h.apart.2.lower hb⟩
theorem Net2.at {w : World} {D base : Nat} {Vq Va : Value} {n : Net} (h : Net2 w D base Vq Va n) (hD : D ≤ w.heap.size) : NetAt w w.heap.size Vq Va n := ⟨h.queue.at hD, h.apart.1, h.apart.2.sl⟩
theorem NetAt.two {w : World} {D base : Nat} {Vq Va : Value} {n : Net} (h : NetAt w D Vq Va n) (hD : D ≤ w.heap.size) : Net2 w D base Vq Va n := ⟨h.queue.two hD, h.apart.two hD⟩
theorem net2_zero (w : World) (D base : Nat) : Net2 w D base (.slice none 0 0) (.slice none 0 0) Net.zero := ⟨⟨.inl rfl, fun _ => undef, ⟨none, 0, rfl, Nat.zero_le _, fun i hi => by simp [Net.zero] at hi⟩, fun i l hl => by simp [Net.zero] at hl⟩, .inl rfl, none, 0, rfl, Nat.zero_le _, fun i hi => by simp [Net.zero] at hi⟩

end Go.Proofs.Ytmbifmmkccghfaa

/-
  Boxes in memory; the iterator gates of orders. (Printed by pp.py.) No condition.
-/
namespace Go.Proofs.Ytmbifmmkccghfaa
open Go.RowKit Go.Shelf
attribute [local go_sem] Oper.semAt_some

def HdAt (w : World) (B : Nat) (v : Value) (l : List Int) : Prop := SlF v ∧ Sl w B 1 l.length (fun i _ => .int .i64 (l.getD i 0)) v
def FrAt (w : World) (B : Nat) (v : Value) (l : List Bool) : Prop := SlF v ∧ Sl w B 1 l.length (fun i _ => .bool (l.getD i false)) v
theorem Sl.one {w : World} {B n c N : Nat} {g : Nat → Nat → Value} {A : Option Addr} (h : Sl w B 1 n g (.slice A N c)) {k : Nat} (hk : k < n) : ∃ b off, A = some ⟨b, off, none⟩ ∧ b < B ∧ w.cell? ⟨b, off + k, none⟩ = some (g k 0) := by
  obtain ⟨A', c', hv, _, h1⟩ := h
  cases hv
  obtain ⟨b, off, rfl, hb, h3⟩ := h1 k hk
  have := h3 0 (by omega)
  rw [Nat.mul_one, Nat.add_zero] at this
  exact ⟨b, off, rfl, hb, this⟩
theorem Sl.form3 {w : World} {B size n : Nat} {g : Nat → Nat → Value} {v : Value} (h : Sl w B size n g v) : ∃ A c, v = .slice A n c ∧ n ≤ maxLen := by
  obtain ⟨A, c, hv, hn, _⟩ := h
  exact ⟨A, c, hv, hn⟩
theorem wrapO {x : Int} (h1 : -9223372036854775808 ≤ x) (h2 : x ≤ 9223372036854775807) : IntKind.i64.wrap x = x := by
  rw [IntKind.wrap_i64]
  omega
structure BxAt (w : World) (B : Nat) (Vq Va Vs Vh Vf : Value) (b : Bx) : Prop where
  net : NetAt w B Vq Va b.net
  sent : LksAt w B Vs b.sent
  heard : HdAt w B Vh b.heard
  fresh : FrAt w B Vf b.fresh
section
variable {w w' : World} {B B' : Nat} {Vq Va Vs Vh Vf : Value} {b : Bx}
theorem HdAt.below {v : Value} {l : List Int} (h : HdAt w B v l) (hb : Below B w w') : HdAt w' B v l := ⟨h.1, h.2.below hb⟩
theorem HdAt.more {v : Value} {l : List Int} (h : HdAt w B v l) (hb : B ≤ B') : HdAt w B' v l := ⟨h.1, h.2.more hb⟩
theorem HdAt.later {v : Value} {l : List Int} (h : HdAt w w.heap.size v l) (hb : Below w.heap.size w w') : HdAt w' w'.heap.size v l := (h.below hb).more hb.size
theorem FrAt.below {v : Value} {l : List Bool} (h : FrAt w B v l) (hb : Below B w w') : FrAt w' B v l := ⟨h.1, h.2.below hb⟩
theorem FrAt.more {v : Value} {l : List Bool} (h : FrAt w B v l) (hb : B ≤ B') : FrAt w B' v l := ⟨h.1, h.2.more hb⟩
theorem FrAt.later {v : Value} {l : List Bool} (h : FrAt w w.heap.size v l) (hb : Below w.heap.size w w') : FrAt w' w'.heap.size v l := (h.below hb).more hb.size
theorem BxAt.below (h : BxAt w B Vq Va Vs Vh Vf b) (hb : Below B w w') : BxAt w' B Vq Va Vs Vh Vf b := ⟨h.net.below hb, h.sent.below hb, h.heard.below hb, h.fresh.below hb⟩
theorem BxAt.more (h : BxAt w B Vq Va Vs Vh Vf b) (hb : B ≤ B') : BxAt w B' Vq Va Vs Vh Vf b := ⟨h.net.more hb, h.sent.more hb, h.heard.more hb, h.fresh.more hb⟩
theorem BxAt.later (h : BxAt w w.heap.size Vq Va Vs Vh Vf b) (hb : Below w.heap.size w w') : BxAt w' w'.heap.size Vq Va Vs Vh Vf b := (h.below hb).more hb.size
theorem hdAt_nil (w : World) (B : Nat) : HdAt w B (.slice none 0 0) [] := ⟨.inl rfl, none, 0, rfl, Nat.zero_le _, fun _ hi => absurd hi (Nat.not_lt_zero _)⟩
theorem frAt_nil (w : World) (B : Nat) : FrAt w B (.slice none 0 0) [] := ⟨.inl rfl, none, 0, rfl, Nat.zero_le _, fun _ hi => absurd hi (Nat.not_lt_zero _)⟩
theorem bxAt_zero (w : World) (B : Nat) : BxAt w B (.slice none 0 0) (.slice none 0 0) (.slice none 0 0) (.slice none 0 0) (.slice none 0 0) Bx.zero := ⟨netAt_zero w B, lksAt_nil w B, hdAt_nil w B, frAt_nil w B⟩
end
theorem oGates_any (Vq Va Vs Vh Vf : Value) (w : World) : Calls Try.prog 43 #[.agg #[Vq, Va, Vs, Vh, Vf]] w fun e w' =>
    e = .returned (.func (.func 65) #[] #[.pointer (some ⟨w.heap.size, 0, none⟩)]) ∧ Box w' w.heap.size [Vq, Va, Vs, Vh, Vf] ∧ Below w.heap.size w w' := by
  have hmf : ∀ (fn : Fn) (first cap : Array Value) (w : World), (Instr.makeFunc fn first cap).run Try.prog w = .ok (.func fn first cap) w := fun _ _ _ _ => rfl
  go_enter Try.func43, Try.ntmps43
  go_wp2
  have X0 := Box.new w [Vq, Va, Vs, Vh, Vf] 30
  have hB := (Below.refl w.heap.size w).alloc (Nat.le_refl _) (.cells #[Vq, Va, Vs, Vh, Vf] 30)
  go_ret
  exact ⟨rfl, X0, hB⟩
theorem range_pre {k n : Nat} (h : k ≤ n) : List.range k <+: List.range n := by
  rw [List.prefix_iff_eq_take, List.length_range, List.take_range]
  congr 1
  omega
set_option maxRecDepth 100000 in
set_option maxHeartbeats 4000000 in
theorem oGates_seq (d : Nat) (b : Bx) (n ch : Nat) (Ah : Option Addr) (Vq Va Vs Vf : Value) (Bg : Nat) (w : World) (D : Nat) (R : Nat → Prop) (hn : b.heard.length = n) (hn8 : n ≤ 8) (hh : HdAt w D (.slice Ah n ch) b.heard) (hg : Box w Bg [Vq, Va, Vs, .slice Ah n ch, Vf]) (hRg : ¬ R Bg) (hD : D ≤ w.heap.size)
    (hbd : ∀ k, k < n → -9223372036854775807 ≤ b.h k ∧ b.h k ≤ 9223372036854775807)
    (Kp : World → World → Prop) (hKp : ∀ A B, Kp A B → KeepsC D R A B) :
    SeqN Fence.wide d Try.prog 65 #[.pointer (some ⟨Bg, 0, none⟩)] (fun k : Nat => #[.int .i64 k, .int .i64 (b.h k - 1)]) Kp (fun xs => xs = List.range n) (fun pre => pre <+: List.range n) (fun pre k => pre = List.range k ∧ k < n) w := fun l J Jx W hW hY h0 => by
  have HY := Lib.hid hY
  have HKp := Lib.hid hKp
  have HN := Lib.hid hn
  have HBD := Lib.hid hbd
  clear hY hKp hn hbd
  have hg := hg.later hW
  have hh := hh.below (hW.mono hD)
  refine callsIn_of_wp Try.func65 rfl trivial ?_ rfl
  simp only [Try.ntmps65, List.size_toArray, List.length_cons, List.length_nil, Nat.reduceAdd, Nat.reduceSub, Array.replicate_succ, Array.replicate_zero, List.push_toArray, List.append_toArray, List.nil_append, List.cons_append]
  refine wpIn_wide.2 ?_
  have x3 : W.cell? ⟨Bg, 3, none⟩ = some (.slice Ah n ch) := hg.cell 3
  have z3 := hg.lt
  go_wp2_with fail
  clear x3 z3
  have hh := Lib.hid hh
  go_loopw [8] (fun i wr => ∃ k : Nat, k ≤ n ∧ i = .int .i64 k ∧ Box wr Bg [Vq, Va, Vs, .slice Ah n ch, Vf] ∧ Hid (HdAt wr D (.slice Ah n ch) b.heard) ∧ Hid (J (List.range k) wr)) (fun i _ => n - (intOf i).toNat)
  case atStart => exact ⟨0, by omega, rfl, hg, hh, Lib.hid h0⟩
  case round =>
    clear hg hh h0
    obtain ⟨k, hk, rfl, hg, hh, hJ0⟩ := hrel
    obtain ⟨wo, rfl⟩ : ∃ wo : World, wo = wr := ⟨_, rfl⟩
    rcases Nat.lt_or_ge k n with hlt | hge
    rotate_left
    · obtain rfl : k = n := by omega
      have hlm : ¬ ((k : Int) < (k : Int)) := by omega
      go_wp2
      go_end0
      exact ⟨⟨_, rfl⟩, .inl hJ0.out⟩
    have hlm : (k : Int) < (n : Int) := by omega
    obtain ⟨f0, t0, a0, c0, hy0, hR0⟩ := HY.out _ k wo hJ0.out ⟨rfl, hlt⟩
    rw [← List.range_succ] at hR0
    obtain ⟨bh, oh, rfl, hbh, ck⟩ := hh.out.2.one (k := k) (by rw [HN.out]; exact hlt)
    have hbd := HBD.out k hlt
    replace ck : wo.cell? ⟨bh, oh + k, none⟩ = some (.int .i64 (b.h k)) := ck
    generalize b.h k = u at ck hbd hy0 hR0
    have hw1 : IntKind.i64.wrap (u - 1) = u - 1 := wrapO (by omega) (by omega)
    have hw2 : wrap64 (u - 1) = u - 1 := by unfold wrap64; omega
    have z3 := hg.lt
    refine (wpIn_wide (n := d)).1 ?_
    gi_wp2_with fail
    refine ⟨(fun h => by cases h), hR0.mono ?_⟩
    rintro e W2 (⟨rfl, hJ3, hK⟩ | ⟨rfl, hx⟩)
    rotate_left
    · gi_wp2
      refine bodyPost_ret (results_none rfl _ _ _) rfl ?_
      exact ⟨⟨_, rfl⟩, .inr ⟨_, range_pre (by omega), hx⟩⟩
    have hKC := HKp.out _ _ hK
    have hg := hKC.box hg hRg
    have hh2 := Lib.hid (hh.out.below hKC.low)
    clear z3 hR0 hy0 hJ0 hK ck
    gi_wp2
    exact ⟨⟨k + 1, by omega, by go_num, hg, hh2, Lib.hid hJ3⟩, by simp [intOf]; omega⟩
end Go.Proofs.Ytmbifmmkccghfaa

/-
  Contract of Send of network. (Printed by gen_nf.py.)
-/
namespace Go.Proofs.Ytmbifmmkccghfaa
open Go.RowKit

attribute [local go_sem ↓ high] app_named

theorem nCheck_at {n : Net} {Vq Va : Value} {w : World} {c : Int} (h : Hid (n.checkT = c)) (hN : NetAt w w.heap.size Vq Va n) : Calls Try.prog 38 #[.agg #[Vq, Va]] w fun e w' => e = .returned (.int .i64 c) ∧ Below w.heap.size w w' :=
  (nCheck_any n Vq Va w hN).mono fun _ _ ⟨he, hb⟩ => ⟨by rw [he, h.out], hb⟩
theorem nPacket_at {p : Pk} {V : Value} {w : World} {q : Bool} (h : Hid (p.okB = q)) (hV : BytesAt w w.heap.size V p.data) : Calls Try.prog 54 #[p.v V] w fun e w' => e = .returned (.bool q) ∧ Below w.heap.size w w' :=
  (nPacket_any p V w hV).mono fun _ _ ⟨he, hb⟩ => ⟨by rw [he, h.out], hb⟩
def RetNet (t : Net × Int) (D : Nat) (w : World) (e : Ending) (w' : World) : Prop := ∃ (Vq Va : Value) (m : Net) (er : Int), e = .returned (.tuple #[.agg #[Vq, Va], .int .i64 er]) ∧ Hid (t = (m, er)) ∧ Hid (Net2 w' D w.heap.size Vq Va m) ∧ Below w.heap.size w w'
theorem PksAt.clip {w : World} {B : Nat} {A : Option Addr} {n c : Nat} {q : List Pk} (h : PksAt w B (.slice A n c) q) : PksAt w B (.slice A n n) q ∧ (n = q.length) ∧ ((A = none ∧ n = 0 ∧ c = 0) ∨ ∃ a, A = some a) ∧ n ≤ c ∧ c ≤ maxLen := by
  obtain ⟨f, V, ⟨A', c', hv, hm, h1⟩, h2⟩ := h
  cases hv
  rcases f with h0 | ⟨a, n', c', h0, hnc, hcm⟩
  · obtain ⟨rfl, hl, rfl⟩ : A = none ∧ q.length = 0 ∧ c = 0 := by simpa using h0
    refine ⟨⟨.inl (by rw [hl]), V, ⟨none, q.length, rfl, hm, h1⟩, h2⟩, rfl, .inl ⟨rfl, hl, rfl⟩, by omega, Nat.zero_le _⟩
  · obtain ⟨rfl, hl, rfl⟩ : A = some a ∧ q.length = n' ∧ c = c' := by simpa using h0
    subst hl
    exact ⟨⟨.inr ⟨a, _, _, rfl, Nat.le_refl _, by omega⟩, V, ⟨some a, q.length, rfl, hm, h1⟩, h2⟩, rfl, .inr ⟨a, rfl⟩, hnc, hcm⟩

set_option maxRecDepth 100000 in
set_option maxHeartbeats 4000000 in
theorem nSend_1 (n : Net) (Aq : Option Addr) (nq cq : Nat) (Aa : Option Addr) (na ca : Nat) (p : Pk) (Vd : Value) (w : World) (D : Nat) (hDw : D ≤ w.heap.size) (hN : Hid (NetAt w D (.slice Aq nq cq) (.slice Aa na ca) n)) (_hD : Hid (BytesAt w D Vd p.data)) (h : Hid (n.checkT = 60)) (hs : Hid (sendT n p = (Net.zero, 60))) : Calls Try.prog 32 #[.agg #[.slice Aq nq cq, .slice Aa na ca], p.v Vd] w (RetNet (sendT n p) D w) := by
  have HB0 : Below w.heap.size w (((w.alloc (.cells #[.slice Aq nq cq, .slice Aa na ca] 25)).alloc (.cells #[.int .i64 p.src, .int .i64 p.dst, Vd] 51)).alloc (.cells #[.slice none 0 0, .slice none 0 0] 25)) := ((((Below.refl w.heap.size w).alloc (by simp <;> omega) (.cells #[.slice Aq nq cq, .slice Aa na ca] 25)).alloc (by simp <;> omega) (.cells #[.int .i64 p.src, .int .i64 p.dst, Vd] 51)).alloc (by simp <;> omega) (.cells #[.slice none 0 0, .slice none 0 0] 25))
  have HNB := Lib.hid (((hN.out.more hDw).below HB0).more HB0.size)
  go_enter Try.func32, Try.ntmps32
  go_wp2_with fail
  refine (nCheck_at h HNB.out).mono ?_
  rintro e w1 ⟨rfl, hb⟩
  have X0 := ((((Box.newAt (n := w.heap.size) [.slice Aq nq cq, .slice Aa na ca] 25 (by simp)).alloc _).alloc _)).later hb
  have X1 := (((Box.newAt (n := w.heap.size + 1) [.int .i64 p.src, .int .i64 p.dst, Vd] 51 (by simp)).alloc _)).later hb
  have R := ((Box.newAt (n := w.heap.size + 1 + 1) [.slice none 0 0, .slice none 0 0] 25 (by simp))).later hb
  have hB : Below w.heap.size w w1 := (((((Below.refl w.heap.size w).alloc (by simp <;> omega) _).alloc (by simp <;> omega) _).alloc (by simp <;> omega) _)).trans (hb.mono (by simp <;> omega))
  clear hb
  have Rc0 : w1.cell? ⟨w.heap.size + 1 + 1, 0, none⟩ = some (.slice none 0 0) := R.cell 0
  have Rf0 : w1.frozen? ⟨w.heap.size + 1 + 1, 0, none⟩ = false := R.free 0
  have Rc1 : w1.cell? ⟨w.heap.size + 1 + 1, 1, none⟩ = some (.slice none 0 0) := R.cell 1
  have Rf1 : w1.frozen? ⟨w.heap.size + 1 + 1, 1, none⟩ = false := R.free 1
  have Rz : w.heap.size + 1 + 1 < w1.heap.size := R.lt
  have hle : w.heap.size ≤ w.heap.size + 1 + 1 := by omega
  have hres := hs
  go_wp2
  have hY := ((R.set 0 (.slice none 0 0)).set 1 (.slice none 0 0))
  have hB := ((hB.setCell (p := ⟨w.heap.size + 1 + 1, 0, none⟩) (by simp <;> omega) (.slice none 0 0)).setCell (p := ⟨w.heap.size + 1 + 1, 1, none⟩) (by simp <;> omega) (.slice none 0 0))
  generalize ((w1.setCell ⟨w.heap.size + 1 + 1, 0, none⟩ (.slice none 0 0)).setCell ⟨w.heap.size + 1 + 1, 1, none⟩ (.slice none 0 0)) = W at hY hB ⊢
  have y0 : W.cell? ⟨w.heap.size + 1 + 1, 0, none⟩ = some (.slice none 0 0) := hY.cell 0
  have y1 : W.cell? ⟨w.heap.size + 1 + 1, 1, none⟩ = some (.slice none 0 0) := hY.cell 1
  refine bodyPost_ret (v := .tuple #[.agg #[.slice none 0 0, .slice none 0 0], .int .i64 60]) (by simp [results, Try.results32, go_sem, y0, y1]) rfl ?_
  exact ⟨_, _, Net.zero, 60, rfl, hres, net2_zero _ _ _, hB⟩

set_option maxRecDepth 100000 in
set_option maxHeartbeats 4000000 in
theorem nSend_2 (n : Net) (Aq : Option Addr) (nq cq : Nat) (Aa : Option Addr) (na ca : Nat) (p : Pk) (Vd : Value) (w : World) (D : Nat) (hDw : D ≤ w.heap.size) (hN : Hid (NetAt w D (.slice Aq nq cq) (.slice Aa na ca) n)) (hD : Hid (BytesAt w D Vd p.data)) (h : Hid (n.checkT = 0)) (hp : Hid (p.okB = false)) (hs : Hid (sendT n p = (Net.zero, 60))) : Calls Try.prog 32 #[.agg #[.slice Aq nq cq, .slice Aa na ca], p.v Vd] w (RetNet (sendT n p) D w) := by
  have HB0 : Below w.heap.size w (((w.alloc (.cells #[.slice Aq nq cq, .slice Aa na ca] 25)).alloc (.cells #[.int .i64 p.src, .int .i64 p.dst, Vd] 51)).alloc (.cells #[.slice none 0 0, .slice none 0 0] 25)) := ((((Below.refl w.heap.size w).alloc (by simp <;> omega) (.cells #[.slice Aq nq cq, .slice Aa na ca] 25)).alloc (by simp <;> omega) (.cells #[.int .i64 p.src, .int .i64 p.dst, Vd] 51)).alloc (by simp <;> omega) (.cells #[.slice none 0 0, .slice none 0 0] 25))
  have HNB := Lib.hid (((hN.out.more hDw).below HB0).more HB0.size)
  go_enter Try.func32, Try.ntmps32
  go_wp2_with fail
  refine (nCheck_at h HNB.out).mono ?_
  rintro e w1 ⟨rfl, hb⟩
  have X0 := ((((Box.newAt (n := w.heap.size) [.slice Aq nq cq, .slice Aa na ca] 25 (by simp)).alloc _).alloc _)).later hb
  have X1 := (((Box.newAt (n := w.heap.size + 1) [.int .i64 p.src, .int .i64 p.dst, Vd] 51 (by simp)).alloc _)).later hb
  have R := ((Box.newAt (n := w.heap.size + 1 + 1) [.slice none 0 0, .slice none 0 0] 25 (by simp))).later hb
  have hB : Below w.heap.size w w1 := (((((Below.refl w.heap.size w).alloc (by simp <;> omega) _).alloc (by simp <;> omega) _).alloc (by simp <;> omega) _)).trans (hb.mono (by simp <;> omega))
  clear hb
  have X1c0 : w1.cell? ⟨w.heap.size + 1, 0, none⟩ = some (.int .i64 p.src) := X1.cell 0
  have X1f0 : w1.frozen? ⟨w.heap.size + 1, 0, none⟩ = false := X1.free 0
  have X1c1 : w1.cell? ⟨w.heap.size + 1, 1, none⟩ = some (.int .i64 p.dst) := X1.cell 1
  have X1f1 : w1.frozen? ⟨w.heap.size + 1, 1, none⟩ = false := X1.free 1
  have X1c2 : w1.cell? ⟨w.heap.size + 1, 2, none⟩ = some (Vd) := X1.cell 2
  have X1f2 : w1.frozen? ⟨w.heap.size + 1, 2, none⟩ = false := X1.free 2
  have X1z : w.heap.size + 1 < w1.heap.size := X1.lt
  go_wp2_with fail
  refine (nPacket_at hp (((hD.out.more hDw).below hB).more hB.size)).mono ?_
  rintro e w2 ⟨rfl, hb⟩
  clear X1c0 X1f0 X1c1 X1f1 X1c2 X1f2 X1z
  have X0 := X0.later hb
  have X1 := X1.later hb
  have R := R.later hb
  have hB := hB.trans (hb.mono hB.size)
  clear hb
  have Rc0 : w2.cell? ⟨w.heap.size + 1 + 1, 0, none⟩ = some (.slice none 0 0) := R.cell 0
  have Rf0 : w2.frozen? ⟨w.heap.size + 1 + 1, 0, none⟩ = false := R.free 0
  have Rc1 : w2.cell? ⟨w.heap.size + 1 + 1, 1, none⟩ = some (.slice none 0 0) := R.cell 1
  have Rf1 : w2.frozen? ⟨w.heap.size + 1 + 1, 1, none⟩ = false := R.free 1
  have Rz : w.heap.size + 1 + 1 < w2.heap.size := R.lt
  have hle : w.heap.size ≤ w.heap.size + 1 + 1 := by omega
  have hres := hs
  go_wp2
  have hY := ((R.set 0 (.slice none 0 0)).set 1 (.slice none 0 0))
  have hB := ((hB.setCell (p := ⟨w.heap.size + 1 + 1, 0, none⟩) (by simp <;> omega) (.slice none 0 0)).setCell (p := ⟨w.heap.size + 1 + 1, 1, none⟩) (by simp <;> omega) (.slice none 0 0))
  generalize ((w2.setCell ⟨w.heap.size + 1 + 1, 0, none⟩ (.slice none 0 0)).setCell ⟨w.heap.size + 1 + 1, 1, none⟩ (.slice none 0 0)) = W at hY hB ⊢
  have y0 : W.cell? ⟨w.heap.size + 1 + 1, 0, none⟩ = some (.slice none 0 0) := hY.cell 0
  have y1 : W.cell? ⟨w.heap.size + 1 + 1, 1, none⟩ = some (.slice none 0 0) := hY.cell 1
  refine bodyPost_ret (v := .tuple #[.agg #[.slice none 0 0, .slice none 0 0], .int .i64 60]) (by simp [results, Try.results32, go_sem, y0, y1]) rfl ?_
  exact ⟨_, _, Net.zero, 60, rfl, hres, net2_zero _ _ _, hB⟩

set_option maxRecDepth 100000 in
set_option maxHeartbeats 4000000 in
theorem nSend_3 (n : Net) (Aq : Option Addr) (nq cq : Nat) (Aa : Option Addr) (na ca : Nat) (p : Pk) (Vd : Value) (w : World) (D : Nat) (hDw : D ≤ w.heap.size) (hN : Hid (NetAt w D (.slice Aq nq cq) (.slice Aa na ca) n)) (hD : Hid (BytesAt w D Vd p.data)) (h : Hid (n.checkT = 0)) (hp : Hid (p.okB = true)) (_hl : (nq == 4096) = true) (hs : Hid (sendT n p = (Net.zero, 2))) : Calls Try.prog 32 #[.agg #[.slice Aq nq cq, .slice Aa na ca], p.v Vd] w (RetNet (sendT n p) D w) := by
  have HB0 : Below w.heap.size w (((w.alloc (.cells #[.slice Aq nq cq, .slice Aa na ca] 25)).alloc (.cells #[.int .i64 p.src, .int .i64 p.dst, Vd] 51)).alloc (.cells #[.slice none 0 0, .slice none 0 0] 25)) := ((((Below.refl w.heap.size w).alloc (by simp <;> omega) (.cells #[.slice Aq nq cq, .slice Aa na ca] 25)).alloc (by simp <;> omega) (.cells #[.int .i64 p.src, .int .i64 p.dst, Vd] 51)).alloc (by simp <;> omega) (.cells #[.slice none 0 0, .slice none 0 0] 25))
  have HNB := Lib.hid (((hN.out.more hDw).below HB0).more HB0.size)
  go_enter Try.func32, Try.ntmps32
  go_wp2_with fail
  refine (nCheck_at h HNB.out).mono ?_
  rintro e w1 ⟨rfl, hb⟩
  have X0 := ((((Box.newAt (n := w.heap.size) [.slice Aq nq cq, .slice Aa na ca] 25 (by simp)).alloc _).alloc _)).later hb
  have X1 := (((Box.newAt (n := w.heap.size + 1) [.int .i64 p.src, .int .i64 p.dst, Vd] 51 (by simp)).alloc _)).later hb
  have R := ((Box.newAt (n := w.heap.size + 1 + 1) [.slice none 0 0, .slice none 0 0] 25 (by simp))).later hb
  have hB : Below w.heap.size w w1 := (((((Below.refl w.heap.size w).alloc (by simp <;> omega) _).alloc (by simp <;> omega) _).alloc (by simp <;> omega) _)).trans (hb.mono (by simp <;> omega))
  clear hb
  have X1c0 : w1.cell? ⟨w.heap.size + 1, 0, none⟩ = some (.int .i64 p.src) := X1.cell 0
  have X1f0 : w1.frozen? ⟨w.heap.size + 1, 0, none⟩ = false := X1.free 0
  have X1c1 : w1.cell? ⟨w.heap.size + 1, 1, none⟩ = some (.int .i64 p.dst) := X1.cell 1
  have X1f1 : w1.frozen? ⟨w.heap.size + 1, 1, none⟩ = false := X1.free 1
  have X1c2 : w1.cell? ⟨w.heap.size + 1, 2, none⟩ = some (Vd) := X1.cell 2
  have X1f2 : w1.frozen? ⟨w.heap.size + 1, 2, none⟩ = false := X1.free 2
  have X1z : w.heap.size + 1 < w1.heap.size := X1.lt
  go_wp2_with fail
  refine (nPacket_at hp (((hD.out.more hDw).below hB).more hB.size)).mono ?_
  rintro e w2 ⟨rfl, hb⟩
  clear X1c0 X1f0 X1c1 X1f1 X1c2 X1f2 X1z
  have X0 := X0.later hb
  have X1 := X1.later hb
  have R := R.later hb
  have hB := hB.trans (hb.mono hB.size)
  clear hb
  have X0c0 : w2.cell? ⟨w.heap.size, 0, none⟩ = some (.slice Aq nq cq) := X0.cell 0
  have X0f0 : w2.frozen? ⟨w.heap.size, 0, none⟩ = false := X0.free 0
  have X0c1 : w2.cell? ⟨w.heap.size, 1, none⟩ = some (.slice Aa na ca) := X0.cell 1
  have X0f1 : w2.frozen? ⟨w.heap.size, 1, none⟩ = false := X0.free 1
  have X0z : w.heap.size < w2.heap.size := X0.lt
  have Rc0 : w2.cell? ⟨w.heap.size + 1 + 1, 0, none⟩ = some (.slice none 0 0) := R.cell 0
  have Rf0 : w2.frozen? ⟨w.heap.size + 1 + 1, 0, none⟩ = false := R.free 0
  have Rc1 : w2.cell? ⟨w.heap.size + 1 + 1, 1, none⟩ = some (.slice none 0 0) := R.cell 1
  have Rf1 : w2.frozen? ⟨w.heap.size + 1 + 1, 1, none⟩ = false := R.free 1
  have Rz : w.heap.size + 1 + 1 < w2.heap.size := R.lt
  have hle : w.heap.size ≤ w.heap.size + 1 + 1 := by omega
  have hres := hs
  go_wp2
  have hY := ((R.set 0 (.slice none 0 0)).set 1 (.slice none 0 0))
  have hB := ((hB.setCell (p := ⟨w.heap.size + 1 + 1, 0, none⟩) (by simp <;> omega) (.slice none 0 0)).setCell (p := ⟨w.heap.size + 1 + 1, 1, none⟩) (by simp <;> omega) (.slice none 0 0))
  generalize ((w2.setCell ⟨w.heap.size + 1 + 1, 0, none⟩ (.slice none 0 0)).setCell ⟨w.heap.size + 1 + 1, 1, none⟩ (.slice none 0 0)) = W at hY hB ⊢
  have y0 : W.cell? ⟨w.heap.size + 1 + 1, 0, none⟩ = some (.slice none 0 0) := hY.cell 0
  have y1 : W.cell? ⟨w.heap.size + 1 + 1, 1, none⟩ = some (.slice none 0 0) := hY.cell 1
  refine bodyPost_ret (v := .tuple #[.agg #[.slice none 0 0, .slice none 0 0], .int .i64 2]) (by simp [results, Try.results32, go_sem, y0, y1]) rfl ?_
  exact ⟨_, _, Net.zero, 2, rfl, hres, net2_zero _ _ _, hB⟩

set_option maxRecDepth 100000 in
set_option maxHeartbeats 4000000 in
theorem nSend_4n (n : Net) (Aq : Option Addr) (nq cq : Nat) (Aa : Option Addr) (na ca : Nat) (p : Pk) (Vd : Value) (w : World) (D : Nat) (hDw : D ≤ w.heap.size) (hN : Hid (NetAt w D (.slice Aq nq cq) (.slice Aa na ca) n)) (hD : Hid (BytesAt w D Vd p.data)) (h : Hid (n.checkT = 0)) (hp : Hid (p.okB = true)) (hnq : Hid (n.queue.length = nq)) (_hl : (nq == 4096) = false) (_hl2 : (nq : Int) < 4096) (hs : Hid (sendT n p = (⟨n.queue ++ [p], n.apart⟩, 0))) (hA : Aq = none ∧ nq = 0 ∧ cq = 0) : Calls Try.prog 32 #[.agg #[.slice Aq nq cq, .slice Aa na ca], p.v Vd] w (RetNet (sendT n p) D w) := by
  obtain ⟨rfl, rfl, rfl⟩ := hA
  have HB0 : Below w.heap.size w (((w.alloc (.cells #[.slice none 0 0, .slice Aa na ca] 25)).alloc (.cells #[.int .i64 p.src, .int .i64 p.dst, Vd] 51)).alloc (.cells #[.slice none 0 0, .slice none 0 0] 25)) := ((((Below.refl w.heap.size w).alloc (by simp <;> omega) (.cells #[.slice none 0 0, .slice Aa na ca] 25)).alloc (by simp <;> omega) (.cells #[.int .i64 p.src, .int .i64 p.dst, Vd] 51)).alloc (by simp <;> omega) (.cells #[.slice none 0 0, .slice none 0 0] 25))
  have HNB := Lib.hid (((hN.out.more hDw).below HB0).more HB0.size)
  go_enter Try.func32, Try.ntmps32
  go_wp2_with fail
  refine (nCheck_at h HNB.out).mono ?_
  rintro e w1 ⟨rfl, hb⟩
  have X0 := ((((Box.newAt (n := w.heap.size) [.slice none 0 0, .slice Aa na ca] 25 (by simp)).alloc _).alloc _)).later hb
  have X1 := (((Box.newAt (n := w.heap.size + 1) [.int .i64 p.src, .int .i64 p.dst, Vd] 51 (by simp)).alloc _)).later hb
  have R := ((Box.newAt (n := w.heap.size + 1 + 1) [.slice none 0 0, .slice none 0 0] 25 (by simp))).later hb
  have hB : Below w.heap.size w w1 := (((((Below.refl w.heap.size w).alloc (by simp <;> omega) _).alloc (by simp <;> omega) _).alloc (by simp <;> omega) _)).trans (hb.mono (by simp <;> omega))
  clear hb
  have X1c0 : w1.cell? ⟨w.heap.size + 1, 0, none⟩ = some (.int .i64 p.src) := X1.cell 0
  have X1f0 : w1.frozen? ⟨w.heap.size + 1, 0, none⟩ = false := X1.free 0
  have X1c1 : w1.cell? ⟨w.heap.size + 1, 1, none⟩ = some (.int .i64 p.dst) := X1.cell 1
  have X1f1 : w1.frozen? ⟨w.heap.size + 1, 1, none⟩ = false := X1.free 1
  have X1c2 : w1.cell? ⟨w.heap.size + 1, 2, none⟩ = some (Vd) := X1.cell 2
  have X1f2 : w1.frozen? ⟨w.heap.size + 1, 2, none⟩ = false := X1.free 2
  have X1z : w.heap.size + 1 < w1.heap.size := X1.lt
  go_wp2_with fail
  refine (nPacket_at hp (((hD.out.more hDw).below hB).more hB.size)).mono ?_
  rintro e w2 ⟨rfl, hb⟩
  clear X1c0 X1f0 X1c1 X1f1 X1c2 X1f2 X1z
  have X0 := X0.later hb
  have X1 := X1.later hb
  have R := R.later hb
  have hB := hB.trans (hb.mono hB.size)
  clear hb
  have hP := Box.new w2 [.int .i64 p.src, .int .i64 p.dst, Vd] 51
  have hBL := hB.alloc hB.size (.cells #[.int .i64 p.src, .int .i64 p.dst, Vd] 51)
  have hQ := (hN.out.below (hBL.mono hDw)).queue.clip.1
  have hI := pksIn_one hP (hD.out.below (hBL.mono hDw))
  obtain ⟨A', n', c', w5, hrun0, hq5, hb5⟩ := run_app_pk 22 (w := (w2.alloc (.cells #[.int .i64 p.src, .int .i64 p.dst, Vd] 51)).drew) hQ hI (Nat.le_trans hDw hBL.size) (.inl (by rw [hnq.out]; simp)) (by rw [hnq.out]; simp <;> omega)
  have hrun : (appF #[22, 22] 22 #[.slice none 0 0, .slice (some ⟨w2.heap.size, 0, none⟩) 1 1]).run Try.prog (w2.alloc (.cells #[.int .i64 p.src, .int .i64 p.dst, Vd] 51)).drew = .ok (.slice A' n' c') w5 := hrun0
  have hB5 : Below w.heap.size w w5 := hBL.drew.trans (hb5.mono hBL.size)
  have HQ5 := Lib.hid hq5
  have Y0 := ((X0.alloc (.cells #[.int .i64 p.src, .int .i64 p.dst, Vd] 51)).drew).later hb5
  have YR := ((R.alloc (.cells #[.int .i64 p.src, .int .i64 p.dst, Vd] 51)).drew).later hb5
  clear hq5 hQ hI hP hBL hrun0 hb5
  have y0 : w5.cell? ⟨w.heap.size, 0, none⟩ = some (.slice none 0 0) := Y0.cell 0
  have y1 : w5.cell? ⟨w.heap.size, 1, none⟩ = some (.slice Aa na ca) := Y0.cell 1
  have yf : w5.frozen? ⟨w.heap.size, 0, none⟩ = false := Y0.free 0
  have yz : w.heap.size < w5.heap.size := Y0.lt
  have r0 : w5.cell? ⟨w.heap.size + 1 + 1, 0, none⟩ = some (.slice none 0 0) := YR.cell 0
  have r1 : w5.cell? ⟨w.heap.size + 1 + 1, 1, none⟩ = some (.slice none 0 0) := YR.cell 1
  have rf0 : w5.frozen? ⟨w.heap.size + 1 + 1, 0, none⟩ = false := YR.free 0
  have rf1 : w5.frozen? ⟨w.heap.size + 1 + 1, 1, none⟩ = false := YR.free 1
  have rz : w.heap.size + 1 + 1 < w5.heap.size := YR.lt
  have X0c0 : w2.cell? ⟨w.heap.size, 0, none⟩ = some (.slice none 0 0) := X0.cell 0
  have X0f0 : w2.frozen? ⟨w.heap.size, 0, none⟩ = false := X0.free 0
  have X0c1 : w2.cell? ⟨w.heap.size, 1, none⟩ = some (.slice Aa na ca) := X0.cell 1
  have X0f1 : w2.frozen? ⟨w.heap.size, 1, none⟩ = false := X0.free 1
  have X0z : w.heap.size < w2.heap.size := X0.lt
  have X1c0 : w2.cell? ⟨w.heap.size + 1, 0, none⟩ = some (.int .i64 p.src) := X1.cell 0
  have X1f0 : w2.frozen? ⟨w.heap.size + 1, 0, none⟩ = false := X1.free 0
  have X1c1 : w2.cell? ⟨w.heap.size + 1, 1, none⟩ = some (.int .i64 p.dst) := X1.cell 1
  have X1f1 : w2.frozen? ⟨w.heap.size + 1, 1, none⟩ = false := X1.free 1
  have X1c2 : w2.cell? ⟨w.heap.size + 1, 2, none⟩ = some (Vd) := X1.cell 2
  have X1f2 : w2.frozen? ⟨w.heap.size + 1, 2, none⟩ = false := X1.free 2
  have X1z : w.heap.size + 1 < w2.heap.size := X1.lt
  go_wp2_with fail
  go_region
  go_wp2
  have hne : w.heap.size + 1 + 1 ≠ w.heap.size := by omega
  have hcur : w.heap.size + 1 + 1 < w2.heap.size := R.lt
  have ZR := ((YR.other (a := ⟨w.heap.size, 0, none⟩) hne (.slice A' n' c')).set 0 (.slice A' n' c')).set 1 (.slice Aa na ca)
  have HB := ((hB5.setCell (p := ⟨w.heap.size, 0, none⟩) (Nat.le_refl _) (.slice A' n' c')).setCell (p := ⟨w.heap.size + 1 + 1, 0, none⟩) (by simp; omega) (.slice A' n' c')).setCell (p := ⟨w.heap.size + 1 + 1, 1, none⟩) (by simp; omega) (.slice Aa na ca)
  have HQ := ((HQ5.out.set (a := ⟨w.heap.size, 0, none⟩) hDw (by simp; omega) (.slice A' n' c')).set (a := ⟨w.heap.size + 1 + 1, 0, none⟩) (by simp; omega) (by simp; omega) (.slice A' n' c')).set (a := ⟨w.heap.size + 1 + 1, 1, none⟩) (by simp; omega) (by simp; omega) (.slice Aa na ca)
  have hres := hs
  generalize ((w5.setCell ⟨w.heap.size, 0, none⟩ (.slice A' n' c')).setCell ⟨w.heap.size + 1 + 1, 0, none⟩ (.slice A' n' c')).setCell ⟨w.heap.size + 1 + 1, 1, none⟩ (.slice Aa na ca) = W at ZR HB HQ ⊢
  have z0 : W.cell? ⟨w.heap.size + 1 + 1, 0, none⟩ = some (.slice A' n' c') := ZR.cell 0
  have z1 : W.cell? ⟨w.heap.size + 1 + 1, 1, none⟩ = some (.slice Aa na ca) := ZR.cell 1
  refine bodyPost_ret (v := .tuple #[.agg #[(.slice A' n' c'), .slice Aa na ca], .int .i64 0]) (by simp [results, Try.results32, go_sem, z0, z1]) rfl ?_
  exact ⟨_, _, _, 0, rfl, hres, ⟨HQ.lower (by simp; omega), (hN.out.apart.below (HB.mono hDw)).two (Nat.le_trans hDw HB.size)⟩, HB⟩

set_option maxRecDepth 100000 in
set_option maxHeartbeats 4000000 in
theorem nSend_4s (n : Net) (Aq : Option Addr) (nq cq : Nat) (Aa : Option Addr) (na ca : Nat) (p : Pk) (Vd : Value) (w : World) (D : Nat) (hDw : D ≤ w.heap.size) (hN : Hid (NetAt w D (.slice Aq nq cq) (.slice Aa na ca) n)) (hD : Hid (BytesAt w D Vd p.data)) (h : Hid (n.checkT = 0)) (hp : Hid (p.okB = true)) (hnq : Hid (n.queue.length = nq)) (_hl : (nq == 4096) = false) (_hl2 : (nq : Int) < 4096) (hs : Hid (sendT n p = (⟨n.queue ++ [p], n.apart⟩, 0))) (a : Addr) (hA : Aq = some a) (_hcq : (nq : Int) ≤ (cq : Int)) (_hcm : cq ≤ maxLen) : Calls Try.prog 32 #[.agg #[.slice Aq nq cq, .slice Aa na ca], p.v Vd] w (RetNet (sendT n p) D w) := by
  subst hA
  unfold maxLen at _hcm
  have HB0 : Below w.heap.size w (((w.alloc (.cells #[.slice (some a) nq cq, .slice Aa na ca] 25)).alloc (.cells #[.int .i64 p.src, .int .i64 p.dst, Vd] 51)).alloc (.cells #[.slice none 0 0, .slice none 0 0] 25)) := ((((Below.refl w.heap.size w).alloc (by simp <;> omega) (.cells #[.slice (some a) nq cq, .slice Aa na ca] 25)).alloc (by simp <;> omega) (.cells #[.int .i64 p.src, .int .i64 p.dst, Vd] 51)).alloc (by simp <;> omega) (.cells #[.slice none 0 0, .slice none 0 0] 25))
  have HNB := Lib.hid (((hN.out.more hDw).below HB0).more HB0.size)
  go_enter Try.func32, Try.ntmps32
  go_wp2_with fail
  refine (nCheck_at h HNB.out).mono ?_
  rintro e w1 ⟨rfl, hb⟩
  have X0 := ((((Box.newAt (n := w.heap.size) [.slice (some a) nq cq, .slice Aa na ca] 25 (by simp)).alloc _).alloc _)).later hb
  have X1 := (((Box.newAt (n := w.heap.size + 1) [.int .i64 p.src, .int .i64 p.dst, Vd] 51 (by simp)).alloc _)).later hb
  have R := ((Box.newAt (n := w.heap.size + 1 + 1) [.slice none 0 0, .slice none 0 0] 25 (by simp))).later hb
  have hB : Below w.heap.size w w1 := (((((Below.refl w.heap.size w).alloc (by simp <;> omega) _).alloc (by simp <;> omega) _).alloc (by simp <;> omega) _)).trans (hb.mono (by simp <;> omega))
  clear hb
  have X1c0 : w1.cell? ⟨w.heap.size + 1, 0, none⟩ = some (.int .i64 p.src) := X1.cell 0
  have X1f0 : w1.frozen? ⟨w.heap.size + 1, 0, none⟩ = false := X1.free 0
  have X1c1 : w1.cell? ⟨w.heap.size + 1, 1, none⟩ = some (.int .i64 p.dst) := X1.cell 1
  have X1f1 : w1.frozen? ⟨w.heap.size + 1, 1, none⟩ = false := X1.free 1
  have X1c2 : w1.cell? ⟨w.heap.size + 1, 2, none⟩ = some (Vd) := X1.cell 2
  have X1f2 : w1.frozen? ⟨w.heap.size + 1, 2, none⟩ = false := X1.free 2
  have X1z : w.heap.size + 1 < w1.heap.size := X1.lt
  go_wp2_with fail
  refine (nPacket_at hp (((hD.out.more hDw).below hB).more hB.size)).mono ?_
  rintro e w2 ⟨rfl, hb⟩
  clear X1c0 X1f0 X1c1 X1f1 X1c2 X1f2 X1z
  have X0 := X0.later hb
  have X1 := X1.later hb
  have R := R.later hb
  have hB := hB.trans (hb.mono hB.size)
  clear hb
  have hP := Box.new w2 [.int .i64 p.src, .int .i64 p.dst, Vd] 51
  have hBL := hB.alloc hB.size (.cells #[.int .i64 p.src, .int .i64 p.dst, Vd] 51)
  have hQ := (hN.out.below (hBL.mono hDw)).queue.clip.1
  have hI := pksIn_one hP (hD.out.below (hBL.mono hDw))
  obtain ⟨A', n', c', w5, hrun0, hq5, hb5⟩ := run_app_pk 22 (w := (w2.alloc (.cells #[.int .i64 p.src, .int .i64 p.dst, Vd] 51)).drew) hQ hI (Nat.le_trans hDw hBL.size) (.inl (by rw [hnq.out]; simp)) (by rw [hnq.out]; simp <;> omega)
  have hrun : (appF #[22, 22] 22 #[.slice (some a) nq nq, .slice (some ⟨w2.heap.size, 0, none⟩) 1 1]).run Try.prog (w2.alloc (.cells #[.int .i64 p.src, .int .i64 p.dst, Vd] 51)).drew = .ok (.slice A' n' c') w5 := hrun0
  have hB5 : Below w.heap.size w w5 := hBL.drew.trans (hb5.mono hBL.size)
  have HQ5 := Lib.hid hq5
  have Y0 := ((X0.alloc (.cells #[.int .i64 p.src, .int .i64 p.dst, Vd] 51)).drew).later hb5
  have YR := ((R.alloc (.cells #[.int .i64 p.src, .int .i64 p.dst, Vd] 51)).drew).later hb5
  clear hq5 hQ hI hP hBL hrun0 hb5
  have y0 : w5.cell? ⟨w.heap.size, 0, none⟩ = some (.slice (some a) nq cq) := Y0.cell 0
  have y1 : w5.cell? ⟨w.heap.size, 1, none⟩ = some (.slice Aa na ca) := Y0.cell 1
  have yf : w5.frozen? ⟨w.heap.size, 0, none⟩ = false := Y0.free 0
  have yz : w.heap.size < w5.heap.size := Y0.lt
  have r0 : w5.cell? ⟨w.heap.size + 1 + 1, 0, none⟩ = some (.slice none 0 0) := YR.cell 0
  have r1 : w5.cell? ⟨w.heap.size + 1 + 1, 1, none⟩ = some (.slice none 0 0) := YR.cell 1
  have rf0 : w5.frozen? ⟨w.heap.size + 1 + 1, 0, none⟩ = false := YR.free 0
  have rf1 : w5.frozen? ⟨w.heap.size + 1 + 1, 1, none⟩ = false := YR.free 1
  have rz : w.heap.size + 1 + 1 < w5.heap.size := YR.lt
  have X0c0 : w2.cell? ⟨w.heap.size, 0, none⟩ = some (.slice (some a) nq cq) := X0.cell 0
  have X0f0 : w2.frozen? ⟨w.heap.size, 0, none⟩ = false := X0.free 0
  have X0c1 : w2.cell? ⟨w.heap.size, 1, none⟩ = some (.slice Aa na ca) := X0.cell 1
  have X0f1 : w2.frozen? ⟨w.heap.size, 1, none⟩ = false := X0.free 1
  have X0z : w.heap.size < w2.heap.size := X0.lt
  have X1c0 : w2.cell? ⟨w.heap.size + 1, 0, none⟩ = some (.int .i64 p.src) := X1.cell 0
  have X1f0 : w2.frozen? ⟨w.heap.size + 1, 0, none⟩ = false := X1.free 0
  have X1c1 : w2.cell? ⟨w.heap.size + 1, 1, none⟩ = some (.int .i64 p.dst) := X1.cell 1
  have X1f1 : w2.frozen? ⟨w.heap.size + 1, 1, none⟩ = false := X1.free 1
  have X1c2 : w2.cell? ⟨w.heap.size + 1, 2, none⟩ = some (Vd) := X1.cell 2
  have X1f2 : w2.frozen? ⟨w.heap.size + 1, 2, none⟩ = false := X1.free 2
  have X1z : w.heap.size + 1 < w2.heap.size := X1.lt
  go_wp2_with fail
  go_region
  go_wp2
  have hne : w.heap.size + 1 + 1 ≠ w.heap.size := by omega
  have hcur : w.heap.size + 1 + 1 < w2.heap.size := R.lt
  have ZR := ((YR.other (a := ⟨w.heap.size, 0, none⟩) hne (.slice A' n' c')).set 0 (.slice A' n' c')).set 1 (.slice Aa na ca)
  have HB := ((hB5.setCell (p := ⟨w.heap.size, 0, none⟩) (Nat.le_refl _) (.slice A' n' c')).setCell (p := ⟨w.heap.size + 1 + 1, 0, none⟩) (by simp; omega) (.slice A' n' c')).setCell (p := ⟨w.heap.size + 1 + 1, 1, none⟩) (by simp; omega) (.slice Aa na ca)
  have HQ := ((HQ5.out.set (a := ⟨w.heap.size, 0, none⟩) hDw (by simp; omega) (.slice A' n' c')).set (a := ⟨w.heap.size + 1 + 1, 0, none⟩) (by simp; omega) (by simp; omega) (.slice A' n' c')).set (a := ⟨w.heap.size + 1 + 1, 1, none⟩) (by simp; omega) (by simp; omega) (.slice Aa na ca)
  have hres := hs
  generalize ((w5.setCell ⟨w.heap.size, 0, none⟩ (.slice A' n' c')).setCell ⟨w.heap.size + 1 + 1, 0, none⟩ (.slice A' n' c')).setCell ⟨w.heap.size + 1 + 1, 1, none⟩ (.slice Aa na ca) = W at ZR HB HQ ⊢
  have z0 : W.cell? ⟨w.heap.size + 1 + 1, 0, none⟩ = some (.slice A' n' c') := ZR.cell 0
  have z1 : W.cell? ⟨w.heap.size + 1 + 1, 1, none⟩ = some (.slice Aa na ca) := ZR.cell 1
  refine bodyPost_ret (v := .tuple #[.agg #[(.slice A' n' c'), .slice Aa na ca], .int .i64 0]) (by simp [results, Try.results32, go_sem, z0, z1]) rfl ?_
  exact ⟨_, _, _, 0, rfl, hres, ⟨HQ.lower (by simp; omega), (hN.out.apart.below (HB.mono hDw)).two (Nat.le_trans hDw HB.size)⟩, HB⟩

theorem nSend_any (n : Net) (Vq Va : Value) (p : Pk) (Vd : Value) (w : World) (D : Nat) (hDw : D ≤ w.heap.size) (hN : NetAt w D Vq Va n) (hD : BytesAt w D Vd p.data) : Calls Try.prog 32 #[.agg #[Vq, Va], p.v Vd] w (RetNet (sendT n p) D w) := by
  obtain ⟨Aq, cq, rfl, hmq⟩ := hN.queue.form
  obtain ⟨Aa, ca, rfl, _⟩ := hN.apart.form
  rcases h : n.okB with _ | _
  · exact nSend_1 n Aq _ cq Aa _ ca p Vd w D hDw hN hD (check_bad h) (by rw [Hid, sendT, if_neg (by rw [h]; simp)])
  · rcases hp : p.okB with _ | _
    · exact nSend_2 n Aq _ cq Aa _ ca p Vd w D hDw hN hD (check_good h) hp (by rw [Hid, sendT, if_neg (by rw [hp]; simp)])
    · have hl : n.queue.length ≤ 4096 := by
        have := h
        simp only [Net.okB_eq, Bool.and_eq_true, decide_eq_true_eq] at this
        exact this.1
      by_cases h4 : n.queue.length = 4096
      · exact nSend_3 n Aq _ cq Aa _ ca p Vd w D hDw hN hD (check_good h) hp (by simp [h4]) (by rw [Hid, sendT, if_pos ⟨h, hp⟩, if_pos h4])
      · have hs : sendT n p = (⟨n.queue ++ [p], n.apart⟩, 0) := by rw [sendT, if_pos ⟨h, hp⟩, if_neg h4]
        obtain ⟨_, _, hf, hc, hcm⟩ := hN.queue.clip
        rcases hf with ⟨h1, h2, h3⟩ | ⟨a, ha⟩
        · exact nSend_4n n Aq _ cq Aa _ ca p Vd w D hDw hN hD (check_good h) hp rfl (by simp [h4]) (by omega) hs ⟨h1, h2, h3⟩
        · exact nSend_4s n Aq _ cq Aa _ ca p Vd w D hDw hN hD (check_good h) hp rfl (by simp [h4]) (by omega) hs a ha (by omega) hcm

end Go.Proofs.Ytmbifmmkccghfaa

/-
  Contract of Send of the reference of chapter 6. (Printed by gen_ng.py.)
-/
namespace Go.Proofs.Ytmbifmmkccghfaa
open Go.RowKit

attribute [local go_sem ↓ high] app_named

end Go.Proofs.Ytmbifmmkccghfaa
