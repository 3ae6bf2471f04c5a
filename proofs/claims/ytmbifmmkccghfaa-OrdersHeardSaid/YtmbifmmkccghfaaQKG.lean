/- Rows that a function builds by append, element by element, of any element type. No condition. -/
import Derived.Test.YtmbifmmkccghfaaQK
import Derived.Maps.AppendAt
import Derived.Test.YtmbifmmkccghfaaQCZ
import Derived.Test.YtmbifmmkccghfaaQNE
import Derived.Test.YtmbifmmkccghfaaQNR
import Derived.Deep.Cut
import Derived.Sort.CutIn
import Derived.Lib.ConvBytes
import Derived.Test.YtmbifmmkccghfaaQCQ
set_option linter.unusedVariables false
set_option linter.unusedSimpArgs false
namespace Go.Proofs.Ytmbifmmkccghfaa
open Go.RowKit

def OwnE {α : Type} (enc : α → List Value) (size : Nat) (w : World) (base e : Nat) (V : Value) (l : List α) : Prop := w.ownsRow base e size V l.length (l.flatMap enc)
section
variable {α : Type} {enc : α → List Value} {size : Nat} {w w' : World} {base t e : Nat} {V : Value} {l : List α}
theorem ownE_nil (enc : α → List Value) (size : Nat) (w : World) (base e : Nat) : OwnE enc size w base e (.slice none 0 0) ([] : List α) := ⟨by simp, .inl ⟨rfl, rfl⟩⟩
theorem OwnE.later (h : OwnE enc size w base e V l) (hb : Below w.heap.size w w') : OwnE enc size w' base e V l :=
  World.ownsRow.kept h (row := none) ⟨hb.os, hb.tape, hb.output, hb.size, fun i hi _ => hb.block i hi⟩ (by rcases V.ownBlock with _ | _ <;> simp)
theorem OwnE.set (h : OwnE enc size w base e V l) {a : Addr} (ha : a.block < base) (u : Value) : OwnE enc size (w.setCell a u) base e V l := by
  refine World.ownsRow.kept h (row := some a.block) ⟨rfl, rfl, rfl, by simp, fun i _ hi => Below.heap_setCell w a u i (fun e => hi (by rw [e]))⟩ ?_
  refine .inr fun hk => ?_
  have := World.ownsRow.lt h _ hk
  omega
theorem OwnE.drew (h : OwnE enc size w base e V l) : OwnE enc size w.drew base e V l := h.later ((Below.refl _ _).drew)
theorem flatMap_at {enc : α → List Value} {size : Nat} (hs : ∀ x, (enc x).length = size) : ∀ (l : List α) (k j : Nat) (hk : k < l.length), j < size → (l.flatMap enc)[k * size + j]? = (enc l[k])[j]?
  | [], k, _, hk, _ => absurd hk (Nat.not_lt_zero k)
  | x :: l, 0, j, _, hj => by
    rw [List.flatMap_cons, Nat.zero_mul, Nat.zero_add, List.getElem?_append_left (by rw [hs]; exact hj)]
    rfl
  | x :: l, k + 1, j, hk, hj => by
    rw [List.flatMap_cons, List.getElem?_append_right (by rw [hs, Nat.add_mul]; omega), hs, show (k + 1) * size + j - size = k * size + j by rw [Nat.add_mul]; omega]
    exact flatMap_at hs l k j (by simpa using hk) hj
theorem OwnE.sl (h : OwnE enc size w base e V l) (hs : ∀ x, (enc x).length = size) : ∃ A c, V = .slice A l.length c ∧ ∀ k (hk : k < l.length), ∃ b, A = some ⟨b, 0, none⟩ ∧ base ≤ b ∧ b < w.heap.size ∧ ∀ j, j < size → w.cell? ⟨b, k * size + j, none⟩ = (enc l[k])[j]? := by
  have hc := h.2
  rcases hc with ⟨rfl, hl⟩ | ⟨b, cap, cur, hv, hb, hg, hcap, hcm, _⟩
  · exact ⟨none, 0, by rw [hl], fun k hk => by omega⟩
  · refine ⟨some ⟨b, 0, none⟩, cap, hv, fun k hk => ⟨b, rfl, hb, (Array.getElem?_eq_some_iff.1 hg).1, fun j hj => ?_⟩⟩
    have e1 := flatMap_at hs l k j hk hj
    have hlt : j < (enc l[k]).length := by rw [hs]; exact hj
    rw [List.getElem?_eq_getElem hlt] at e1 ⊢
    have := World.ownsRow.cells h (g := b) (by rw [hv]; rfl) _ _ e1
    rw [add_at, Nat.zero_add] at this
    exact this
theorem OwnE.grown {B : Nat} {a : World} (h : OwnE enc size w base e V l) (hg : w.grownBy w' V.ownBlock) (hB : B ≤ base) (hb : Below B a w) (hs : B ≤ w.heap.size) : Below B a w' :=
  hb.grown hg hs (fun k hk => by have := World.ownsRow.lt h k hk; omega)
theorem box_grown {b : Nat} {xs : List Value} (h : OwnE enc size w base e V l) (hg : w.grownBy w' V.ownBlock) (hx : Box w b xs) (hb : b < base) : Box w' b xs := by
  obtain ⟨t, ht⟩ := hx
  refine ⟨t, (hg.block b (Array.getElem?_eq_some_iff.1 ht).1 (fun e => ?_)).trans ht⟩
  have := World.ownsRow.lt h b e.symm
  omega
theorem run_appE {i : TypeInfo} {z : Value} {bytes : Nat} (E : Elem t e i z size bytes) (hs : ∀ x, (enc x).length = size) (h1 : ∀ x, ∀ u ∈ enc x, u.oneCell' = true) (hby : bytes ≤ 1000) (x : α) {g : Nat} (ty : TypeId) (ho : OwnE enc size w base e V l) (hx : Box w g (enc x)) (hbase : base ≤ w.heap.size) (hl : l.length ≤ 1048576) :
    ∃ g' c' w', (appF #[t, t] ty #[V, .slice (some ⟨g, 0, none⟩) 1 1]).run Try.prog w = .ok (.slice (some ⟨g', 0, none⟩) (l.length + 1) c') w' ∧ OwnE enc size w' base e (.slice (some ⟨g', 0, none⟩) (l.length + 1) c') (l ++ [x]) ∧ w.grownBy w' V.ownBlock := by
  obtain ⟨v', w', hr, h3, h2, _, _⟩ := run_append_own_at (P := Try.prog) w base t ty e i _ size bytes E.ht E.hi E.hz E.hsize E.hby E.hzs E.hsz _ _ _ ho ⟨g, 0, none⟩ 1 1 (enc x) (by rw [hs, Nat.one_mul])
    (fun j u hu => by
      rw [add_at, Nat.zero_add, hx.cell j]
      exact hu)
    (h1 x) (by simp only [maxLen]; omega) (by have := Nat.mul_le_mul_left (l.length + 1) hby; omega) hbase
  have h5 := h3.2
  rcases h5 with ⟨_, h6⟩ | ⟨g', cap, cur, hv, _⟩
  · omega
  · subst hv
    refine ⟨g', cap, w', hr, ?_, h2⟩
    rw [OwnE, List.length_append, List.flatMap_append]
    simpa using h3
end
end Go.Proofs.Ytmbifmmkccghfaa

/-
  Ranges over functions that write memory above the range's own. No condition.
-/
namespace Go.Proofs.Ytmbifmmkccghfaa
open Go.RowKit Go.Shelf

def SeqN {α : Type} (F : Fence) (n : Nat) (P : Program) (g : Nat) (lb : Array Value) (encs : α → Array Value) (Kp : World → World → Prop) (S Sp : List α → Prop) (T : List α → α → Prop) (w : World) : Prop :=
  ∀ (l : Nat) (J Jx : List α → World → Prop) (W : World), Below w.heap.size w W →
    (∀ pre x W1, J pre W1 → T pre x → YieldAt F (n - 1) P l (encs x) W1 fun e W' =>
      (e = .returned (.bool true) ∧ J (pre ++ [x]) W' ∧ Kp W1 W') ∨ (e = .returned (.bool false) ∧ Jx (pre ++ [x]) W')) →
    J [] W →
    CallsIn F n P g (#[.func (.yield l) #[] #[]] ++ lb) W fun e W' => (∃ v, e = .returned v) ∧ ((∃ xs, S xs ∧ J xs W') ∨ (∃ pre, Sp pre ∧ Jx pre W'))
theorem SeqN.toB {α : Type} {F : Fence} {n : Nat} {P : Program} {g : Nat} {lb : Array Value} {encs : α → Array Value} {Kp : World → World → Prop} {S Sp : List α → Prop} {T : List α → α → Prop} {w : World} (h : SeqN F n P g lb encs Kp S Sp T w) : SeqB F n P g lb encs Kp S Sp T w := fun l J Jx W hW _ _ hY h0 => h l J Jx W hW hY h0

theorem yieldAt_roundN {α : Type} {F : Fence} {n : Nat} {P : Program} {B l D' : Nat} {Kp : World → World → Prop} (hKt : ∀ A B C : World, Kp A B → Kp B C → Kp A C) (hKb : ∀ (W : World) (l : Nat) (o o' : Obj), B ≤ l → W.heap[l]? = some o → o.isCells = false → Kp W (W.putObj l o')) (hB : B ≤ l) {fn : FuncId} {tmps : Array Value} {ps : Array Tmp} {assign body : Code} (hfn : F.fn fn)
    {I : List α → World → Prop} {Ix : Code → List α → World → Prop} {xs : List α} {vs : Array Value} {Ax : Act → World → Prop} {W : World} {rec : LoopState → Option Code → Loop}
    (hrec : rec = fun st pe => { state := st, pending := pe, fn, tmps, params := ps, assign, body, defers := D' })
    (hI : ∀ A o r, A.heap[l]? = some (.loop r) → I xs A → I xs (A.putObj l o)) (hIx : ∀ c A o r, A.heap[l]? = some (.loop r) → Ix c xs A → Ix c xs (A.putObj l o)) (hvs : vs.size = ps.size)
    (hl : W.heap[l]? = some (.loop (rec .ready none)))
    (hassign : ∀ K : Act → World → Prop, (∀ a' W', KeepsFrom B W W' → Kp W W' → Ax a' W' → K a' W') → assign.wpIn (F.inRound l) n P (Exit.then K (fun _ _ _ => False)) { tmps := (ps.zip vs).foldl (fun t (p, v) => t.setIfInBounds p v) tmps, defers := [] } W)
    (hbody : ∀ a' A, Ax a' A → A.heap[l]? = some (.loop (rec .ready none)) → body.wpIn (F.inRound l) n P (ownPostG B Kp I Ix xs (A.putObj l (.loop { rec .ready none with state := .busy }))) a' (A.putObj l (.loop { rec .ready none with state := .busy }))) :
    YieldAt F n P l vs W fun e W' => (e = .returned (.bool true) ∧ (I xs W' ∧ W'.heap[l]? = some (.loop (rec .ready none)) ∧ ∀ k o, B ≤ k → k ≠ l → W.heap[k]? = some o → o.isCells = false → W'.heap[k]? = some o) ∧ Kp W W') ∨
      (e = .returned (.bool false) ∧ ∃ c, Ix c xs W' ∧ W'.heap[l]? = some (.loop (rec .done (some c))) ∧ ∀ k o, B ≤ k → k ≠ l → W.heap[k]? = some o → o.isCells = false → W'.heap[k]? = some o) := by
  have hy := run_yield (P := P) (args := vs) hl (by rw [hrec]; exact hvs)
  rw [hrec] at hy
  refine ⟨fn, _, assign, body, hy, roundIn_of_wpIn hfn (hassign _ ?_)⟩
  intro a' Wa hkf hkc hax
  have hla := hkf.same _ _ hB hl rfl
  have hlt : l < Wa.heap.size := (Array.getElem?_eq_some_iff.1 hla).1
  refine ⟨_, run_beginRound hla (by rw [hrec]), wpIn_mono (hbody a' Wa hax hla) ?_⟩
  have hl2 : (Wa.putObj l (.loop { rec .ready none with state := .busy })).heap[l]? = some (.loop { rec .ready none with state := .busy }) := World.putObj_heap_same hlt
  have hk2 : Kp W (Wa.putObj l (.loop { rec .ready none with state := .busy })) := hKt _ _ _ hkc (hKb _ _ _ _ hB hla rfl)
  have fin : ∀ (jump : Option Code) (W3 : World), KeepsFrom B (Wa.putObj l (.loop { rec .ready none with state := .busy })) W3 →
      (Instr.endRound l jump).run P W3 = .ok (.bool jump.isNone) (W3.putObj l (.loop (rec (if jump.isNone then .ready else .done) jump))) ∧
      W3.heap[l]? = some (.loop { rec .ready none with state := .busy }) ∧
      (W3.putObj l (.loop (rec (if jump.isNone then .ready else .done) jump))).heap[l]? = some (.loop (rec (if jump.isNone then .ready else .done) jump)) ∧
      (∀ k o, B ≤ k → k ≠ l → W.heap[k]? = some o → o.isCells = false → (W3.putObj l (.loop (rec (if jump.isNone then .ready else .done) jump))).heap[k]? = some o) := by
    intro jump W3 hk3
    have hl3 := hk3.same _ _ hB hl2 rfl
    have he := run_endRound (P := P) jump hl3
    rw [hrec] at he ⊢
    refine ⟨he, by rw [hrec] at hl3; exact hl3, World.putObj_heap_same (Array.getElem?_eq_some_iff.1 hl3).1, fun k o hk hkl ho hc => ?_⟩
    refine (World.putObj_heap_other hkl).trans (hk3.same k o hk ?_ hc)
    exact (World.putObj_heap_other hkl).trans (hkf.same k o hk ho hc)
  rintro e a3 W3 hp
  cases e with
  | normal =>
    obtain ⟨hk3, hkp3, hi3⟩ := hp
    obtain ⟨hr, hl3, hl4, hk4⟩ := fin none W3 hk3
    exact ⟨_, _, hr, .inl ⟨rfl, ⟨hI _ _ _ hl3 hi3, hl4, hk4⟩, hKt _ _ _ hk2 (hKt _ _ _ hkp3 (hKb _ _ _ _ hB hl3 rfl))⟩⟩
  | ret =>
    obtain ⟨hk3, hi3⟩ := hp
    obtain ⟨hr, hl3, hl4, hk4⟩ := fin (some .ret) W3 hk3
    exact ⟨_, _, hr, .inr ⟨rfl, .ret, hIx _ _ _ _ hl3 hi3, hl4, hk4⟩⟩
  | exit id =>
    obtain ⟨hk3, hi3⟩ := hp
    obtain ⟨hr, hl3, hl4, hk4⟩ := fin (some (.exit id)) W3 hk3
    exact ⟨_, _, hr, .inr ⟨rfl, .exit id, hIx _ _ _ _ hl3 hi3, hl4, hk4⟩⟩
  | goto t =>
    obtain ⟨hk3, hi3⟩ := hp
    obtain ⟨hr, hl3, hl4, hk4⟩ := fin (some (.goto t)) W3 hk3
    exact ⟨_, _, hr, .inr ⟨rfl, .goto t, hIx _ _ _ _ hl3 hi3, hl4, hk4⟩⟩
  | panic ch => exact hp.elim
  | outgrown => exact hp.elim

theorem wpIn_rangeN_out {α : Type} {F : Fence} {n : Nat} {P : Program} {g : Operand} {ps : Array Tmp} {assign body : Code} {Q : Exit → Act → World → Prop} {a : Act} {w : World}
    (hro : F.round = none) (h1 : 1 ≤ n) {gf : Nat} {lb : Array Value} (hg : a.eval g = .func (.func gf) #[] lb) (hFg : F.fn gf) (eg : ∀ args w, (callFunc gf args).run P w = .ok (.enter gf args) w)
    {encs : α → Array Value} {Kp : World → World → Prop} (hKt : ∀ A B C : World, Kp A B → Kp B C → Kp A C) (hKb : ∀ (W : World) (l : Nat) (o o' : Obj), w.heap.size ≤ l → W.heap[l]? = some o → o.isCells = false → Kp W (W.putObj l o')) {S Sp : List α → Prop} {T : List α → α → Prop} {w0 : World} (hseq : SeqN F (n - 1) P gf lb encs Kp S Sp T w0) (hb0 : Below w0.heap.size w0 w) (hps : ∀ x, (encs x).size = ps.size)
    (I : List α → World → Prop) (Ix : Code → List α → World → Prop) (hI : ∀ s A l o r, w.heap.size ≤ l → A.heap[l]? = some (.loop r) → I s A → I s (A.putObj l o)) (hIx : ∀ c s A l o r, w.heap.size ≤ l → A.heap[l]? = some (.loop r) → Ix c s A → Ix c s (A.putObj l o)) (h0 : ∀ W, Below w.heap.size w W → I [] W)
    (Ax : List α → α → Act → World → Prop) (hAx : ∀ pre x a' A l o o', w.heap.size ≤ l → A.heap[l]? = some o → o.isCells = false → Ax pre x a' A → Ax pre x a' (A.putObj l o'))
    (hassign : ∀ (l : Nat) (pre : List α) (x : α) (W : World) (K : Act → World → Prop), I pre W → T pre x → (∀ a' W', KeepsFrom w.heap.size W W' → Kp W W' → Ax pre x a' W' → K a' W') →
      assign.wpIn (F.inRound l) (n - 1 - 1) P (Exit.then K (fun _ _ _ => False)) { tmps := (ps.zip (encs x)).foldl (fun t (p, v) => t.setIfInBounds p v) a.tmps, defers := [] } W)
    (hbody : ∀ (l : Nat) (pre : List α) (x : α) (a' : Act) (W : World), w.heap.size ≤ l → (∃ r, W.heap[l]? = some (.loop r)) → Ax pre x a' W → body.wpIn (F.inRound l) (n - 1 - 1) P (ownPostG w.heap.size Kp I Ix (pre ++ [x]) W) a' W)
    (hdone : ∀ (E : Nat) (xs : List α) (W : World), w.heap.size ≤ E → S xs → I xs W → W.heap[E]? = some (.deferred (some [])) → Q .normal { a with defers := { target := .collected E, args := #[] } :: a.defers } W)
    (hstop : ∀ (E : Nat) (c : Code) (pre : List α) (W : World), w.heap.size ≤ E → Sp pre → Ix c pre W → W.heap[E]? = some (.deferred (some [])) → c.wpIn F n P Q { a with defers := { target := .collected E, args := #[] } :: a.defers } W) :
    (Code.rangeFunc g ps assign body).wpIn F n P Q a w := by
  refine wpIn_rangeFunc ?_
  intro fn hfn
  rw [hro]
  obtain ⟨rec, hrec⟩ : ∃ rec : LoopState → Option Code → Loop, rec = fun st pe => { state := st, pending := pe, fn, tmps := a.tmps, params := ps, assign, body, defers := w.heap.size } := ⟨_, rfl⟩
  obtain ⟨W1, hW1⟩ : ∃ W1, (w.alloc (.deferred (some []))).alloc (.loop (rec .ready none)) = W1 := ⟨_, rfl⟩
  have hL1 : W1.heap[w.heap.size + 1]? = some (.loop (rec .ready none)) := by
    rw [← hW1]; have := World.alloc_heap_new (w.alloc (.deferred (some []))) (.loop (rec .ready none)); rwa [World.size_alloc] at this
  have hK1 : W1.heap[w.heap.size]? = some (.deferred (some [])) := by
    rw [← hW1]; exact (Below.heap_alloc _ _ _ (by simp)).trans (World.alloc_heap_new w _)
  have hb1 : Below w.heap.size w W1 := by
    rw [← hW1]; exact ((Below.refl _ w).alloc (Nat.le_refl _) _).alloc (by simp) _
  have hs1 : w.heap.size + 1 < W1.heap.size := (Array.getElem?_eq_some_iff.1 hL1).1
  refine ⟨w.heap.size + 1, [{ target := .collected w.heap.size, args := #[] }], W1, { target := .fn (.func gf) lb, args := #[.func (.yield (w.heap.size + 1)) #[] #[]] }, W1, gf,
    #[.func (.yield (w.heap.size + 1)) #[] #[]] ++ lb, W1, ?_, ?_, ?_, ?_, fun _ => h1, ?_⟩
  · rw [← hW1, hrec]; exact run_enterLoop_outer _ _ _ _ _
  · simp only [resolve, hg]
    simp [go_sem]
  · intro f' hf'; simp [Target.leads] at hf'; subst hf'; exact hFg
  · simp [invoke, go_sem, eg]
  · refine (hseq (w.heap.size + 1)
      (fun pre W => I pre W ∧ W.heap[w.heap.size + 1]? = some (.loop (rec .ready none)) ∧ W.heap[w.heap.size]? = some (.deferred (some [])))
      (fun pre W => ∃ c, Ix c pre W ∧ W.heap[w.heap.size + 1]? = some (.loop (rec .done (some c))) ∧ W.heap[w.heap.size]? = some (.deferred (some [])))
      W1 (hb0.trans (hb1.mono hb0.size)) ?_ ⟨h0 _ hb1, hL1, hK1⟩).mono ?_
    · rintro pre x W ⟨hi, hl, hk⟩ hlen
      refine (yieldAt_roundN (Ax := Ax pre x) (I := I) (Ix := Ix) (xs := pre ++ [x]) (D' := w.heap.size) hKt hKb (Nat.le_succ _) hfn hrec (fun A o r hr h => hI _ _ _ _ _ (Nat.le_succ _) hr h) (fun c A o r hr h => hIx _ _ _ _ _ _ (Nat.le_succ _) hr h) (hps x) hl
        (fun K hK => hassign _ pre x W K hi hlen hK) (fun a' A hax hla => hbody _ pre x a' _ (Nat.le_succ _) ⟨_, World.putObj_heap_same (Array.getElem?_eq_some_iff.1 hla).1⟩ (hAx _ _ _ _ _ _ _ (Nat.le_succ _) hla rfl hax))).mono ?_
      rintro e W' (⟨rfl, ⟨h1, h2, h3⟩, h4⟩ | ⟨rfl, c, h1, h2, h3⟩)
      · exact .inl ⟨rfl, ⟨h1, h2, h3 _ _ (Nat.le_refl _) (by omega) hk rfl⟩, h4⟩
      · exact .inr ⟨rfl, c, h1, h2, h3 _ _ (Nat.le_refl _) (by omega) hk rfl⟩
    · rintro e W2 ⟨⟨v, rfl⟩, (⟨xs, hS, hi, hl, hk⟩ | ⟨pre, hSp, c, hi, hl, hk⟩)⟩
      · exact ⟨none, _, by have := run_endLoop (P := P) hl (by rw [hrec]; simp); rw [hrec] at this; exact this, hdone _ xs _ (Nat.le_refl _) hS (hI _ _ _ _ _ (Nat.le_succ _) hl hi) ((World.putObj_heap_other (by omega)).trans hk)⟩
      · exact ⟨some c, _, by have := run_endLoop (P := P) hl (by rw [hrec]; simp); rw [hrec] at this; exact this, hstop _ c pre _ (Nat.le_refl _) hSp (hIx _ _ _ _ _ _ (Nat.le_succ _) hl hi) ((World.putObj_heap_other (by omega)).trans hk)⟩


section
variable {α : Type} {enc : α → List Value} {size : Nat} {w w' : World} {base e : Nat} {V : Value} {l : List α}
theorem OwnE.cellsAt (h : OwnE enc size w base e V l) {k : Nat} (hk : V.ownBlock = some k) {o : Obj} (ho : w.heap[k]? = some o) : o.isCells = true := by
  rcases h.2 with ⟨rfl, _⟩ | ⟨b, cap, cur, rfl, _, hg, _⟩
  · cases hk
  · obtain rfl : b = k := Option.some.inj hk
    rw [hg] at ho
    cases ho
    rfl
theorem OwnE.record (h : OwnE enc size w base e V l) {k : Nat} {o : Obj} (hl : w.heap[k]? = some o) (hc : o.isCells = false) (o' : Obj) : OwnE enc size (w.putObj k o') base e V l := by
  refine World.ownsRow.kept h (row := some k) ⟨rfl, rfl, rfl, by simp, fun i _ hi => World.putObj_heap_other (fun e => hi (by rw [e]))⟩ ?_
  refine .inr fun hk => ?_
  have := OwnE.cellsAt h hk hl
  rw [hc] at this
  cases this
theorem OwnE.kfGrown (h : OwnE enc size w base e V l) (hg : w.grownBy w' V.ownBlock) (B : Nat) : KeepsFrom B w w' :=
  ⟨hg.size, fun k o _ hk hc => (hg.block k (Array.getElem?_eq_some_iff.1 hk).1 (fun e => by have := OwnE.cellsAt h e.symm hk; rw [hc] at this; cases this)).trans hk⟩
theorem OwnE.kcGrown {D : Nat} {R : Nat → Prop} (h : OwnE enc size w base e V l) (hg : w.grownBy w' V.ownBlock) (hD : D ≤ base) (hs : D ≤ w.heap.size) (hR : ∀ b, base ≤ b → R b) : KeepsC D R w w' :=
  ⟨(Below.refl D w).grown hg hs (fun k hk => by have := World.ownsRow.lt h k hk; omega), fun b o hr ho _ => (hg.block b (Array.getElem?_eq_some_iff.1 ho).1 (fun e => hr (hR b (by have := World.ownsRow.lt h b e.symm; omega)))).trans ho⟩
theorem KeepsFrom.ofBelow {D : Nat} {A B : World} (h : Below A.heap.size A B) : KeepsFrom D A B := ⟨h.size, fun b _ _ ho _ => (h.block b (Array.getElem?_eq_some_iff.1 ho).1).trans ho⟩
theorem KeepsFrom.ofBox {D : Nat} {A : World} {b i : Nat} {xs : List Value} (h : Box A b xs) (v : Value) : KeepsFrom D A (A.setCell ⟨b, i, none⟩ v) := ⟨by simp, fun k o _ ho hc => (Below.heap_setCell A ⟨b, i, none⟩ v k (fun e => by
  obtain ⟨t, ht⟩ := h
  have : k = b := by simpa using e
  subst this
  rw [ht] at ho
  cases ho
  cases hc)).trans ho⟩
end
theorem run_app_op {o : Oper} {ev : Operand → Value} {t : TypeId} {x y : Operand} {vx vy v : Value} {w w' : World} (ho : o.op = .call { callee := .builtin .append, args := #[x, y], argTypes := #[t, t] }) (hty : o.type = t) (hx : ev x = vx) (hy : ev y = vy) (h : (appF #[t, t] t #[vx, vy]).run Try.prog w = .ok v w') : (execOp ev o).run Try.prog w = .ok (.value v) w' := by
  subst hty hx hy
  have e : execOp ev o = (do let d ← resolve ev { callee := .builtin .append, args := #[x, y], argTypes := #[o.type, o.type] } o.type; invoke d.target d.args) := by
    unfold execOp
    rw [ho]
  have e2 : resolve ev { callee := .builtin .append, args := #[x, y], argTypes := #[o.type, o.type] } o.type = pure { target := .builtin .append #[o.type, o.type] o.type (#[x, y].map fun | .const _ => true | _ => false), args := #[ev x, ev y] } := by
    simp [resolve]
    rfl
  rw [e, e2]
  have e3 : (do let d ← (pure { target := .builtin .append #[o.type, o.type] o.type (#[x, y].map fun | .const _ => true | _ => false), args := #[ev x, ev y] } : Sem Deferred); invoke d.target d.args) = builtin .append #[o.type, o.type] o.type (#[x, y].map fun | .const _ => true | _ => false) #[ev x, ev y] := rfl
  rw [e3, app_named]
  simp [go_sem, h]
end Go.Proofs.Ytmbifmmkccghfaa

/-
  Boxes in memory; the iterator gates of orders. (Printed by pp.py.) No condition.
-/
namespace Go.Proofs.Ytmbifmmkccghfaa
open Go.RowKit Go.Shelf
attribute [local go_sem] Oper.semAt_some

def HdAt (w : World) (B : Nat) (v : Value) (l : List Int) : Prop := SlF v ∧ Sl w B 1 l.length (fun i _ => .int .i64 (l.getD i 0)) v
def FrAt (w : World) (B : Nat) (v : Value) (l : List Bool) : Prop := SlF v ∧ Sl w B 1 l.length (fun i _ => .bool (l.getD i false)) v
theorem Sl.one {w : World} {B n c N : Nat} {g : Nat → Nat → Value} {A : Option Addr} (h : Sl w B 1 n g (.slice A N c)) {k : Nat} (hk : k < n) : ∃ b off, A = some ⟨b, off, none⟩ ∧ b < B ∧ w.cell? ⟨b, off + k, none⟩ = some (g k 0) := by
  obtain ⟨A', c', hv, _, h1⟩ := h
  cases hv
  obtain ⟨b, off, rfl, hb, h3⟩ := h1 k hk
  have := h3 0 (by omega)
  rw [Nat.mul_one, Nat.add_zero] at this
  exact ⟨b, off, rfl, hb, this⟩
theorem Sl.form3 {w : World} {B size n : Nat} {g : Nat → Nat → Value} {v : Value} (h : Sl w B size n g v) : ∃ A c, v = .slice A n c ∧ n ≤ maxLen := by
  obtain ⟨A, c, hv, hn, _⟩ := h
  exact ⟨A, c, hv, hn⟩
theorem wrapO {x : Int} (h1 : -9223372036854775808 ≤ x) (h2 : x ≤ 9223372036854775807) : IntKind.i64.wrap x = x := by
  rw [IntKind.wrap_i64]
  omega
structure BxAt (w : World) (B : Nat) (Vq Va Vs Vh Vf : Value) (b : Bx) : Prop where
  net : NetAt w B Vq Va b.net
  sent : LksAt w B Vs b.sent
  heard : HdAt w B Vh b.heard
  fresh : FrAt w B Vf b.fresh
section
variable {w w' : World} {B B' : Nat} {Vq Va Vs Vh Vf : Value} {b : Bx}
theorem HdAt.below {v : Value} {l : List Int} (h : HdAt w B v l) (hb : Below B w w') : HdAt w' B v l := ⟨h.1, h.2.below hb⟩
theorem HdAt.more {v : Value} {l : List Int} (h : HdAt w B v l) (hb : B ≤ B') : HdAt w B' v l := ⟨h.1, h.2.more hb⟩
theorem HdAt.later {v : Value} {l : List Int} (h : HdAt w w.heap.size v l) (hb : Below w.heap.size w w') : HdAt w' w'.heap.size v l := (h.below hb).more hb.size
theorem FrAt.below {v : Value} {l : List Bool} (h : FrAt w B v l) (hb : Below B w w') : FrAt w' B v l := ⟨h.1, h.2.below hb⟩
theorem FrAt.more {v : Value} {l : List Bool} (h : FrAt w B v l) (hb : B ≤ B') : FrAt w B' v l := ⟨h.1, h.2.more hb⟩
theorem FrAt.later {v : Value} {l : List Bool} (h : FrAt w w.heap.size v l) (hb : Below w.heap.size w w') : FrAt w' w'.heap.size v l := (h.below hb).more hb.size
theorem BxAt.below (h : BxAt w B Vq Va Vs Vh Vf b) (hb : Below B w w') : BxAt w' B Vq Va Vs Vh Vf b := ⟨h.net.below hb, h.sent.below hb, h.heard.below hb, h.fresh.below hb⟩
theorem BxAt.more (h : BxAt w B Vq Va Vs Vh Vf b) (hb : B ≤ B') : BxAt w B' Vq Va Vs Vh Vf b := ⟨h.net.more hb, h.sent.more hb, h.heard.more hb, h.fresh.more hb⟩
theorem BxAt.later (h : BxAt w w.heap.size Vq Va Vs Vh Vf b) (hb : Below w.heap.size w w') : BxAt w' w'.heap.size Vq Va Vs Vh Vf b := (h.below hb).more hb.size
theorem hdAt_nil (w : World) (B : Nat) : HdAt w B (.slice none 0 0) [] := ⟨.inl rfl, none, 0, rfl, Nat.zero_le _, fun _ hi => absurd hi (Nat.not_lt_zero _)⟩
theorem frAt_nil (w : World) (B : Nat) : FrAt w B (.slice none 0 0) [] := ⟨.inl rfl, none, 0, rfl, Nat.zero_le _, fun _ hi => absurd hi (Nat.not_lt_zero _)⟩
theorem bxAt_zero (w : World) (B : Nat) : BxAt w B (.slice none 0 0) (.slice none 0 0) (.slice none 0 0) (.slice none 0 0) (.slice none 0 0) Bx.zero := ⟨netAt_zero w B, lksAt_nil w B, hdAt_nil w B, frAt_nil w B⟩
end
theorem oGates_any (Vq Va Vs Vh Vf : Value) (w : World) : Calls Try.prog 43 #[.agg #[Vq, Va, Vs, Vh, Vf]] w fun e w' =>
    e = .returned (.func (.func 65) #[] #[.pointer (some ⟨w.heap.size, 0, none⟩)]) ∧ Box w' w.heap.size [Vq, Va, Vs, Vh, Vf] ∧ Below w.heap.size w w' := by
  have hmf : ∀ (fn : Fn) (first cap : Array Value) (w : World), (Instr.makeFunc fn first cap).run Try.prog w = .ok (.func fn first cap) w := fun _ _ _ _ => rfl
  go_enter Try.func43, Try.ntmps43
  go_wp2
  have X0 := Box.new w [Vq, Va, Vs, Vh, Vf] 30
  have hB := (Below.refl w.heap.size w).alloc (Nat.le_refl _) (.cells #[Vq, Va, Vs, Vh, Vf] 30)
  go_ret
  exact ⟨rfl, X0, hB⟩
theorem range_pre {k n : Nat} (h : k ≤ n) : List.range k <+: List.range n := by
  rw [List.prefix_iff_eq_take, List.length_range, List.take_range]
  congr 1
  omega
set_option maxRecDepth 100000 in
set_option maxHeartbeats 4000000 in
theorem oGates_seq (d : Nat) (b : Bx) (n ch : Nat) (Ah : Option Addr) (Vq Va Vs Vf : Value) (Bg : Nat) (w : World) (D : Nat) (R : Nat → Prop) (hn : b.heard.length = n) (hn8 : n ≤ 8) (hh : HdAt w D (.slice Ah n ch) b.heard) (hg : Box w Bg [Vq, Va, Vs, .slice Ah n ch, Vf]) (hRg : ¬ R Bg) (hD : D ≤ w.heap.size)
    (hbd : ∀ k, k < n → -9223372036854775807 ≤ b.h k ∧ b.h k ≤ 9223372036854775807)
    (Kp : World → World → Prop) (hKp : ∀ A B, Kp A B → KeepsC D R A B) :
    SeqN Fence.wide d Try.prog 65 #[.pointer (some ⟨Bg, 0, none⟩)] (fun k : Nat => #[.int .i64 k, .int .i64 (b.h k - 1)]) Kp (fun xs => xs = List.range n) (fun pre => pre <+: List.range n) (fun pre k => pre = List.range k ∧ k < n) w := fun l J Jx W hW hY h0 => by
  have HY := Lib.hid hY
  have HKp := Lib.hid hKp
  have HN := Lib.hid hn
  have HBD := Lib.hid hbd
  clear hY hKp hn hbd
  have hg := hg.later hW
  have hh := hh.below (hW.mono hD)
  refine callsIn_of_wp Try.func65 rfl trivial ?_ rfl
  simp only [Try.ntmps65, List.size_toArray, List.length_cons, List.length_nil, Nat.reduceAdd, Nat.reduceSub, Array.replicate_succ, Array.replicate_zero, List.push_toArray, List.append_toArray, List.nil_append, List.cons_append]
  refine wpIn_wide.2 ?_
  have x3 : W.cell? ⟨Bg, 3, none⟩ = some (.slice Ah n ch) := hg.cell 3
  have z3 := hg.lt
  go_wp2_with fail
  clear x3 z3
  have hh := Lib.hid hh
  go_loopw [8] (fun i wr => ∃ k : Nat, k ≤ n ∧ i = .int .i64 k ∧ Box wr Bg [Vq, Va, Vs, .slice Ah n ch, Vf] ∧ Hid (HdAt wr D (.slice Ah n ch) b.heard) ∧ Hid (J (List.range k) wr)) (fun i _ => n - (intOf i).toNat)
  case atStart => exact ⟨0, by omega, rfl, hg, hh, Lib.hid h0⟩
  case round =>
    clear hg hh h0
    obtain ⟨k, hk, rfl, hg, hh, hJ0⟩ := hrel
    obtain ⟨wo, rfl⟩ : ∃ wo : World, wo = wr := ⟨_, rfl⟩
    rcases Nat.lt_or_ge k n with hlt | hge
    rotate_left
    · obtain rfl : k = n := by omega
      have hlm : ¬ ((k : Int) < (k : Int)) := by omega
      go_wp2
      go_end0
      exact ⟨⟨_, rfl⟩, .inl hJ0.out⟩
    have hlm : (k : Int) < (n : Int) := by omega
    obtain ⟨f0, t0, a0, c0, hy0, hR0⟩ := HY.out _ k wo hJ0.out ⟨rfl, hlt⟩
    rw [← List.range_succ] at hR0
    obtain ⟨bh, oh, rfl, hbh, ck⟩ := hh.out.2.one (k := k) (by rw [HN.out]; exact hlt)
    have hbd := HBD.out k hlt
    replace ck : wo.cell? ⟨bh, oh + k, none⟩ = some (.int .i64 (b.h k)) := ck
    generalize b.h k = u at ck hbd hy0 hR0
    have hw1 : IntKind.i64.wrap (u - 1) = u - 1 := wrapO (by omega) (by omega)
    have hw2 : wrap64 (u - 1) = u - 1 := by unfold wrap64; omega
    have z3 := hg.lt
    refine (wpIn_wide (n := d)).1 ?_
    gi_wp2_with fail
    refine ⟨(fun h => by cases h), hR0.mono ?_⟩
    rintro e W2 (⟨rfl, hJ3, hK⟩ | ⟨rfl, hx⟩)
    rotate_left
    · gi_wp2
      refine bodyPost_ret (results_none rfl _ _ _) rfl ?_
      exact ⟨⟨_, rfl⟩, .inr ⟨_, range_pre (by omega), hx⟩⟩
    have hKC := HKp.out _ _ hK
    have hg := hKC.box hg hRg
    have hh2 := Lib.hid (hh.out.below hKC.low)
    clear z3 hR0 hy0 hJ0 hK ck
    gi_wp2
    exact ⟨⟨k + 1, by omega, by go_num, hg, hh2, Lib.hid hJ3⟩, by simp [intOf]; omega⟩
end Go.Proofs.Ytmbifmmkccghfaa

/-
  Contract of valid of orders. (Printed by pp.py.) No condition.
-/
namespace Go.Proofs.Ytmbifmmkccghfaa
open Go.RowKit Go.Shelf
attribute [local go_sem] Oper.semAt_some

theorem valid_lists {b : Bx} (h : b.listsB = false) : b.validB = false := by rw [Bx.validB, h]; rfl
theorem valid_sent {b : Bx} (h : b.sentB = false) : b.validB = false := by rw [Bx.validB, h, Bool.false_and, Bool.and_false]
theorem valid_gate {b : Bx} {g : Nat} (hg : g < b.heard.length) (h : b.gateB g = false) : b.validB = false := by
  have : (List.range b.heard.length).all b.gateB = false := List.all_eq_false.2 ⟨g, List.mem_range.2 hg, by rw [h]; decide⟩
  rw [Bx.validB, this, Bool.and_false, Bool.and_false]
theorem valid_yes {b : Bx} (h1 : b.listsB = true) (h2 : b.sentB = true) (h3 : ∀ g, g < b.heard.length → b.gateB g = true) : b.validB = true := by
  rw [Bx.validB, h1, h2, List.all_eq_true.2 fun g hg => h3 g (List.mem_range.1 hg)]
  rfl
theorem gate_out {b : Bx} {g : Nat} (h : ¬ (0 ≤ b.h g ∧ b.h g ≤ (b.sent.length : Int))) : b.gateB g = false := by
  unfold Bx.gateB
  rw [if_neg (by omega), decide_eq_false (fun h2 => h ⟨h2.1, h2.2.1⟩)]
theorem o_kfOf {D : Nat} {A B : World} (h : Below A.heap.size A B) : KeepsFrom D A B := ⟨h.size, fun b _ _ ho _ => (h.block b (Array.getElem?_eq_some_iff.1 ho).1).trans ho⟩
theorem o_kfCell {D : Nat} {A : World} {a : Addr} (h : a.block < D) (v : Value) : KeepsFrom D A (A.setCell a v) := ⟨by simp, fun b _ hk ho _ => (Below.heap_setCell A a v b (by omega)).trans ho⟩
theorem gate_zero {b : Bx} {g : Nat} (h : b.h g = 0) : b.gateB g = !b.f g := by rw [Bx.gateB, if_pos h]
theorem gate_pos {b : Bx} {g j : Nat} (h : b.h g = (j : Int) + 1) (hj : j < b.sent.length) : b.gateB g = decide ((b.sent.getD j (0, 0)).1 = (g : Int)) := by
  rw [Bx.gateB, if_neg (by omega), h]
  have e : (j : Int) + 1 - 1 = (j : Int) := by omega
  rw [e, Bx.at, Int.toNat_natCast]
  congr 1
  rw [eq_iff_iff]
  exact ⟨fun h => h.2.2, fun h => ⟨by omega, by omega, h⟩⟩
set_option maxRecDepth 100000 in
set_option maxHeartbeats 4000000 in
theorem oValid_is (b : Bx) (Vq Va : Value) (As Ah Af : Option Addr) (ns cs n ch nf cf : Nat) (w : World) {T : Bool} (hT : Hid (b.validB = T)) (hx : Hid (BxAt w w.heap.size Vq Va (.slice As ns cs) (.slice Ah n ch) (.slice Af nf cf) b)) (hns : Hid (b.sent.length = ns)) (hn : Hid (b.heard.length = n)) (hnf : Hid (b.fresh.length = nf)) (hcs : ns ≤ 9223372036854775807) (hcn : n ≤ 9223372036854775807) (hcf : nf ≤ 9223372036854775807) :
    Calls Try.prog 37 #[.agg #[Vq, Va, .slice As ns cs, .slice Ah n ch, .slice Af nf cf]] w fun e w' => e = .returned (.bool T) ∧ Below w.heap.size w w' := by
  refine calls_of_wp_marksN Try.func37 rfl ?_
  simp only [Try.ntmps37, List.size_toArray, List.length_cons, List.length_nil, Nat.reduceAdd, Nat.reduceSub, Array.replicate_succ, Array.replicate_zero, List.push_toArray, List.append_toArray, List.nil_append, List.cons_append]
  have hB := ((Below.refl w.heap.size w).alloc (Nat.le_refl _) (.cells #[Vq, Va, .slice As ns cs, .slice Ah n ch, .slice Af nf cf] 30)).alloc (by simp) (.cells #[.bool false] 4)
  have X1 := (Box.new w [Vq, Va, .slice As ns cs, .slice Ah n ch, .slice Af nf cf] 30).alloc (.cells #[.bool false] 4)
  have X2 := Box.newAt (w := w.alloc (.cells #[Vq, Va, .slice As ns cs, .slice Ah n ch, .slice Af nf cf] 30)) (n := w.heap.size + 1) [.bool false] 4 (by simp)
  go_upto_region 1 with fail
  generalize (w.alloc (.cells #[Vq, Va, .slice As ns cs, .slice Ah n ch, .slice Af nf cf] 30)).alloc (.cells #[.bool false] 4) = w1 at hB X1 X2 ⊢
  have z1 := X1.lt
  have z2 := X2.lt
  have X1c0 : w1.cell? ⟨w.heap.size, 0, none⟩ = some (Vq) := X1.cell 0
  have X1c1 : w1.cell? ⟨w.heap.size, 1, none⟩ = some (Va) := X1.cell 1
  have X1c2 : w1.cell? ⟨w.heap.size, 2, none⟩ = some (.slice As ns cs) := X1.cell 2
  have X1c3 : w1.cell? ⟨w.heap.size, 3, none⟩ = some (.slice Ah n ch) := X1.cell 3
  have X1c4 : w1.cell? ⟨w.heap.size, 4, none⟩ = some (.slice Af nf cf) := X1.cell 4
  have X2c0 : w1.cell? ⟨w.heap.size + 1, 0, none⟩ = some (.bool false) := X2.cell 0
  have X2f0 : w1.frozen? ⟨w.heap.size + 1, 0, none⟩ = false := X2.free 0
  have Y2 := X2.set 0 (.bool false)
  have hB2 := hB.setCell (p := ⟨w.heap.size + 1, 0, none⟩) (by simp) (.bool false)
  have y2 : (w1.setCell ⟨w.heap.size + 1, 0, none⟩ (.bool false)).cell? ⟨w.heap.size + 1, 0, none⟩ = some (.bool false) := Y2.cell 0
  by_cases h1 : n < 1
  · have d1 : decide ((n : Int) < 1) = true := decide_eq_true (by omega)
    have d2 : (n : Int) < 1 := by omega
    obtain rfl : T = false := by rw [← hT.out, valid_lists]; rw [Bx.listsB, hn.out]; exact decide_eq_false (by omega)
    go_wp2
    refine ⟨_, (by simp [results, Try.results37, go_sem, y2] : _ = Result.ok (.bool false) _), ?_⟩
    exact ⟨rfl, hB2⟩
  have d1 : decide ((n : Int) < 1) = false := decide_eq_false (by omega)
  have d2 : ¬ ((n : Int) < 1) := by omega
  by_cases h2 : 8 < n
  · have d3 : decide ((8 : Int) < (n : Int)) = true := decide_eq_true (by omega)
    have d4 : (8 : Int) < (n : Int) := by omega
    obtain rfl : T = false := by rw [← hT.out, valid_lists]; rw [Bx.listsB, hn.out]; exact decide_eq_false (by omega)
    go_wp2
    refine ⟨_, (by simp [results, Try.results37, go_sem, y2] : _ = Result.ok (.bool false) _), ?_⟩
    exact ⟨rfl, hB2⟩
  have d3 : decide ((8 : Int) < (n : Int)) = false := decide_eq_false (by omega)
  have d4 : ¬ ((8 : Int) < (n : Int)) := by omega
  by_cases h3 : nf = n
  rotate_left
  · have d5 : ((nf : Int) != (n : Int)) = true := by simp; omega
    obtain rfl : T = false := by rw [← hT.out, valid_lists]; rw [Bx.listsB, hn.out, hnf.out]; exact decide_eq_false (by omega)
    go_wp2
    refine ⟨_, (by simp [results, Try.results37, go_sem, y2] : _ = Result.ok (.bool false) _), ?_⟩
    exact ⟨rfl, hB2⟩
  subst h3
  have d5 : ((nf : Int) != (nf : Int)) = false := by simp
  by_cases h4 : 4096 < ns
  · have d6 : decide ((4096 : Int) < (ns : Int)) = true := decide_eq_true (by omega)
    have d7 : (4096 : Int) < (ns : Int) := by omega
    obtain rfl : T = false := by rw [← hT.out, valid_lists]; rw [Bx.listsB, hns.out]; exact decide_eq_false (by omega)
    go_wp2
    refine ⟨_, (by simp [results, Try.results37, go_sem, y2] : _ = Result.ok (.bool false) _), ?_⟩
    exact ⟨rfl, hB2⟩
  have d6 : decide ((4096 : Int) < (ns : Int)) = false := decide_eq_false (by omega)
  have d7 : ¬ ((4096 : Int) < (ns : Int)) := by omega
  have hL : Hid (b.listsB = true) := Lib.hid (by rw [Bx.listsB, hn.out, hns.out, hnf.out]; exact decide_eq_true (by omega))
  go_upto_region 4 with fail
  clear d1 d2 d3 d4 d5 d6 d7 X1c0 X1c1 X1c2 X1c3 X1c4 X2c0 X2f0 z1 z2 Y2 hB2 y2
  go_loopw [37] (fun s wr => ∃ k : Nat, k ≤ ns ∧ s = .int .i64 k ∧ Below w.heap.size w wr ∧ Box wr w.heap.size [Vq, Va, .slice As ns cs, .slice Ah nf ch, .slice Af nf cf] ∧ Box wr (w.heap.size + 1) [.bool false] ∧ Hid (∀ j (hj : j < b.sent.length), j < k → (0 ≤ (b.sent[j]).1 ∧ (b.sent[j]).1 < (nf : Int)) ∧ (0 ≤ (b.sent[j]).2 ∧ (b.sent[j]).2 ≤ 7))) (fun s _ => ns - (intOf s).toNat)
  case atStart => exact ⟨0, by omega, rfl, hB, X1, X2, Lib.hid (fun j _ hj => by omega)⟩
  case round =>
    clear hB X1 X2
    obtain ⟨k, hk, rfl, hB, X1, X2, hall⟩ := hrel
    obtain ⟨wo, rfl⟩ : ∃ wo : World, wo = wr := ⟨_, rfl⟩
    rcases Nat.lt_or_ge k ns with hlt | hge
    rotate_left
    · obtain rfl : k = ns := by omega
      have hk3 : ¬ ((k : Int) < (k : Int)) := by omega
      have hS : Hid (b.sentB = true) := Lib.hid (List.all_eq_true.2 fun m hm => by
        obtain ⟨j, hj, rfl⟩ := List.getElem_of_mem hm
        have := hall.out j hj (by rw [← hns.out]; exact hj)
        rw [hn.out]
        exact decide_eq_true this)
      have z1 := X1.lt
      have X1c0 : wo.cell? ⟨w.heap.size, 0, none⟩ = some (Vq) := X1.cell 0
      have X1c1 : wo.cell? ⟨w.heap.size, 1, none⟩ = some (Va) := X1.cell 1
      have X1c2 : wo.cell? ⟨w.heap.size, 2, none⟩ = some (.slice As k cs) := X1.cell 2
      have X1c3 : wo.cell? ⟨w.heap.size, 3, none⟩ = some (.slice Ah nf ch) := X1.cell 3
      have X1c4 : wo.cell? ⟨w.heap.size, 4, none⟩ = some (.slice Af nf cf) := X1.cell 4
      go_upto_region 10 with fail
      clear z1 X1c0 X1c1 X1c2 X1c3 X1c4 hall hk3
      go_loopw [66] (fun s wr => ∃ g : Nat, g ≤ nf ∧ s = .int .i64 g ∧ Below w.heap.size w wr ∧ Box wr w.heap.size [Vq, Va, .slice As k cs, .slice Ah nf ch, .slice Af nf cf] ∧ Box wr (w.heap.size + 1) [.bool false] ∧ Hid (∀ j, j < g → 0 ≤ b.h j ∧ b.h j ≤ (k : Int))) (fun s _ => nf - (intOf s).toNat)
      case atStart => exact ⟨0, by omega, rfl, hB, X1, X2, Lib.hid (fun j hj => by omega)⟩
      case round =>
        clear hB X1 X2
        obtain ⟨g, hg, rfl, hB, X1, X2, hall⟩ := hrel
        obtain ⟨wi, rfl⟩ : ∃ wi : World, wi = wr := ⟨_, rfl⟩
        rcases Nat.lt_or_ge g nf with hgl | hgg
        rotate_left
        · obtain rfl : nf = g := by omega
          have hk3 : ¬ ((nf : Int) < (nf : Int)) := by omega
          have z1 := X1.lt
          have X1c0 : wi.cell? ⟨w.heap.size, 0, none⟩ = some (Vq) := X1.cell 0
          have X1c1 : wi.cell? ⟨w.heap.size, 1, none⟩ = some (Va) := X1.cell 1
          have X1c2 : wi.cell? ⟨w.heap.size, 2, none⟩ = some (.slice As k cs) := X1.cell 2
          have X1c3 : wi.cell? ⟨w.heap.size, 3, none⟩ = some (.slice Ah nf ch) := X1.cell 3
          have X1c4 : wi.cell? ⟨w.heap.size, 4, none⟩ = some (.slice Af nf cf) := X1.cell 4
          go_wp2_with fail
          clear hk3
          refine (oGates_any Vq Va (.slice As k cs) (.slice Ah nf ch) (.slice Af nf cf) wi).mono ?_
          rintro e w2 ⟨rfl, Xg, hb⟩
          have hwi2 := X2.lt
          have X1 := X1.later hb
          have X2 := X2.later hb
          have hs1 := hB.size
          have hB := hB.trans (hb.mono hB.size)
          have hXg := Xg.lt
          have hwi := z1
          clear hb z1 X1c0 X1c1 X1c2 X1c3 X1c4
          generalize wi.heap.size = Bg at Xg hs1 hXg hwi hwi2 ⊢
          go_wp2_with fail
          -- RANGE
          have hsz := hB.size
          have hX1 := X1.lt
          have hX2 := X2.lt
          have HB := hx.out.heard.below hB
          refine wpIn_wide.1 (wpIn_rangeK_out (n := 6) rfl (by omega) (gf := 65) (lb := #[.pointer (some ⟨Bg, 0, none⟩)]) rfl trivial (enters_of Try.func65 (by kernel_rfl) rfl)
            (Kp := fun A B => KeepsC w.heap.size (fun b => b = w.heap.size + 1) A B)
            (fun A B C h1 h2 => h1.trans h2)
            (fun W l o o' hl ho hc => KeepsC.put ho hc (by omega) _)
            (oGates_seq 5 b nf ch Ah Vq Va (.slice As k cs) (.slice Af nf cf) Bg w2 w.heap.size (fun b => b = w.heap.size + 1) hn.out (by omega) HB Xg (by omega) hsz (fun j hj => by have := hall.out j hj; omega) _ (fun _ _ h => h)).toB (Below.refl _ _) (fun _ => rfl)
            (fun pre W => w2.heap.size ≤ W.heap.size ∧ Below w.heap.size w W ∧ Box W w.heap.size [Vq, Va, .slice As k cs, .slice Ah nf ch, .slice Af nf cf] ∧ Box W (w.heap.size + 1) [.bool false] ∧ Hid (∀ j, j < pre.length → b.gateB j = true))
            (fun cc pre W => cc = .ret ∧ T = false ∧ Below w.heap.size w W ∧ Box W (w.heap.size + 1) [.bool false])
            ?hI ?hIx ?h0
            (fun pre q a' W => w2.heap.size ≤ W.heap.size ∧ q < nf ∧ pre = List.range q ∧ Below w.heap.size w W ∧ Box W w.heap.size [Vq, Va, .slice As k cs, .slice Ah nf ch, .slice Af nf cf] ∧ Box W (w.heap.size + 1) [.bool false] ∧ Hid (∀ j, j < q → b.gateB j = true) ∧ a' = { tmps := #[.agg #[Vq, Va, .slice As k cs, .slice Ah nf ch, .slice Af nf cf], .pointer (some ⟨w.heap.size, 0, none⟩), .pointer (some ⟨w.heap.size + 1, 0, none⟩), undef, u4, undef, u6, .int .i64 (q : Int), .int .i64 (b.h q - 1), .pointer (some ⟨w.heap.size, 3, none⟩), .slice Ah nf ch, .int .i64 (nf : Int), .bool false, .bool false, .pointer (some ⟨w.heap.size, 3, none⟩), .slice Ah nf ch, .int .i64 (nf : Int), .bool false, .bool false, .bool false, .pointer (some ⟨w.heap.size, 4, none⟩), .slice Af nf cf, .int .i64 (nf : Int), .pointer (some ⟨w.heap.size, 3, none⟩), .slice Ah nf ch, .int .i64 (nf : Int), .bool false, .bool false, .bool false, .pointer (some ⟨w.heap.size, 2, none⟩), .slice As k cs, .int .i64 (k : Int), .bool false, .bool false, .pointer (some ⟨w.heap.size, 2, none⟩), .slice As k cs, .int .i64 (k : Int), .int .i64 (k : Int), .bool false, u39, u40, u41, u42, u43, u44, u45, u46, u47, u48, u49, u50, u51, u52, u53, u54, u55, u56, u57, u58, u59, u60, u61, u62, .pointer (some ⟨w.heap.size, 3, none⟩), .slice Ah nf ch, .int .i64 (nf : Int), .int .i64 (nf : Int), .bool false, u68, u69, u70, u71, u72, u73, u74, u75, u76, u77, u78, u79, .agg #[Vq, Va, .slice As k cs, .slice Ah nf ch, .slice Af nf cf], .func (.func 65) #[] #[.pointer (some ⟨Bg, 0, none⟩)], .int .i64 (q : Int), .int .i64 (b.h q - 1), undef, undef, undef, undef, undef, undef, undef, undef, undef, undef, undef, undef, undef, undef, undef, undef, undef, undef, undef, undef, undef, undef, undef], defers := [] })
            ?hAx ?assign ?body ?done ?stop)
          case hI =>
            rintro pre A B ⟨h1, h2, h3, h4, h5⟩ hb
            exact ⟨Nat.le_trans h1 hb.size, h2.trans (hb.mono hsz), h3.under hb hX1, h4.under hb hX2, h5⟩
          case hIx =>
            rintro cc pre A B ⟨rfl, h1, h2, h3⟩ hb
            exact ⟨rfl, h1, h2.trans (hb.mono hsz), h3.under hb hX2⟩
          case h0 => exact ⟨Nat.le_refl _, hB, X1, X2, Lib.hid (fun j hj => absurd hj (Nat.not_lt_zero _))⟩
          case hAx =>
            rintro pre q a' A l o o' hl ho hc ⟨h1, h2, h3, h4, h5, h6, h7, rfl⟩
            exact ⟨by simpa using h1, h2, h3, h4.trans (below_put3 (by omega) _), h5.record ho hc _, h6.record ho hc _, h7, rfl⟩
          case assign =>
            rintro l pre q W K ⟨h1, h2, h3, h4, h5⟩ ⟨rfl, hqn⟩ hK
            rw [List.length_range] at h5
            gi_wp2
            exact hK _ _ (o_kfOf (Below.refl _ _)) (KeepsC.refl _ _ _) ⟨h1, hqn, by trivial, h2, h3, h4, h5, rfl⟩
          case body =>
            rintro l pre q a' W hl ⟨r0, hr0⟩ ⟨hsW, hqn, rfl, hBW, X1W, X2W, hall2, rfl⟩
            have hlen : (List.range q ++ [q]).length = q + 1 := by rw [List.length_append, List.length_range]; rfl
            have HLN := Lib.hid hlen
            have hu := hall.out q hqn
            have hq2 : q < b.heard.length := by rw [hn.out]; exact hqn
            obtain ⟨bf, off, rfl, hbf, cf0⟩ := hx.out.fresh.2.one (k := q) (by rw [hnf.out]; exact hqn)
            replace cf0 : W.cell? ⟨bf, off + q, none⟩ = some (.bool (b.f q)) := (hBW.cell hbf).trans cf0
            have hfz := Nat.lt_of_lt_of_le hbf hBW.size
            have z1 := X1W.lt
            have z2 := X2W.lt
            have w12 : W.cell? ⟨w.heap.size, 2, none⟩ = some (.slice As k cs) := X1W.cell 2
            have w14 : W.cell? ⟨w.heap.size, 4, none⟩ = some (.slice (some ⟨bf, off, none⟩) nf cf) := X1W.cell 4
            have w20 : W.cell? ⟨w.heap.size + 1, 0, none⟩ = some (.bool false) := X2W.cell 0
            have w2f : W.frozen? ⟨w.heap.size + 1, 0, none⟩ = false := X2W.free 0
            have Y2 := X2W.set 0 (.bool false)
            have hB2 := hBW.setCell (p := ⟨w.heap.size + 1, 0, none⟩) (by simp) (.bool false)
            have hkc : KeepsC w.heap.size (fun b => b = w.heap.size + 1) W W := KeepsC.refl _ _ _
            have hkf : KeepsFrom w2.heap.size W (W.setCell ⟨w.heap.size + 1, 0, none⟩ (.bool false)) := o_kfCell (a := ⟨w.heap.size + 1, 0, none⟩) hX2 _
            have hbad : b.gateB q = false → T = false := fun h => by rw [← hT.out, valid_gate hq2 h]
            have hgood : b.gateB q = true → ∀ j, j < q + 1 → b.gateB j = true := fun h j hj => by
              rcases Nat.lt_or_ge j q with h9 | h9
              · exact hall2.out j h9
              · obtain rfl : j = q := by omega
                exact h
            by_cases h0 : b.h q = 0
            · have hG : b.gateB q = !b.f q := gate_zero h0
              rw [hG] at hbad hgood
              have HBAD := Lib.hid hbad
              have HG := Lib.hid hgood
              clear hbad hgood hG hall2
              generalize b.f q = f at cf0 HBAD HG
              rw [h0]
              clear h0 hu
              cases f with
              | true =>
                have hTf := Lib.hid (HBAD.out rfl)
                gi_wp2
                exact ⟨hkf, rfl, hTf.out, hB2, Y2⟩
              | false =>
                have hg1 := HG.out rfl
                gi_wp2
                refine ⟨o_kfOf (Below.refl _ _), hkc, hsW, hBW, X1W, X2W, Lib.hid (fun j hj => hg1 j (by rw [HLN.out] at hj; exact hj))⟩
            · obtain ⟨j0, hj0⟩ : ∃ j0 : Nat, b.h q = (j0 : Int) + 1 := ⟨(b.h q - 1).toNat, by omega⟩
              have hjk : j0 < k := by omega
              have hG : b.gateB q = decide ((b.sent.getD j0 (0, 0)).1 = (q : Int)) := gate_pos hj0 (by rw [hns.out]; exact hjk)
              obtain ⟨bs, os, rfl, hbs, hc⟩ := hx.out.sent.lk (by rw [hns.out]; omega)
              have c0 := (hBW.cell hbs).trans (hc j0 (by rw [hns.out]; exact hjk)).1
              have hsz2 := Nat.lt_of_lt_of_le hbs hBW.size
              rw [hG] at hbad hgood
              have HBAD := Lib.hid hbad
              have HG := Lib.hid hgood
              clear hbad hgood hG hall2 hc
              have e9 : b.h q - 1 = (j0 : Int) := by omega
              rw [e9]
              clear e9 hj0 h0 hu
              generalize (b.sent.getD j0 (0, 0)).1 = m at c0 HBAD HG
              have p0 : decide ((j0 : Int) < 0) = false := decide_eq_false (by omega)
              have p1 : decide ((0 : Int) ≤ (j0 : Int)) = true := decide_eq_true (by omega)
              have p2 : (j0 : Int) < (k : Int) := by omega
              have p3 : (0 : Int) ≤ (j0 : Int) := by omega
              have p4 : ¬ ((j0 : Int) < 0) := by omega
              by_cases hm : m = (q : Int)
              · have hg1 := HG.out (decide_eq_true hm)
                have p5 : (m != (q : Int)) = false := by simp [hm]
                gi_wp2
                refine ⟨o_kfOf (Below.refl _ _), hkc, hsW, hBW, X1W, X2W, Lib.hid (fun j hj => hg1 j (by rw [HLN.out] at hj; exact hj))⟩
              · have hTf := Lib.hid (HBAD.out (decide_eq_false hm))
                have p5 : (m != (q : Int)) = true := by simp [hm]
                gi_wp2
                exact ⟨hkf, rfl, hTf.out, hB2, Y2⟩
          case done =>
            rintro Ed xs W hEd rfl ⟨h1, h2, h3, h4, h5⟩ hK
            rw [List.length_range] at h5
            obtain rfl : T = true := by rw [← hT.out, valid_yes hL.out hS.out (fun g hg => h5.out g (by rw [← hn.out]; exact hg))]
            have hEz := Array.getElem?_eq_some_iff.1 hK |>.1
            have w20 : W.cell? ⟨w.heap.size + 1, 0, none⟩ = some (.bool false) := h4.cell 0
            have w2f : W.frozen? ⟨w.heap.size + 1, 0, none⟩ = false := h4.free 0
            have z2 := h4.lt
            have Y2 := h4.set 0 (.bool true)
            have hB2 := h2.setCell (p := ⟨w.heap.size + 1, 0, none⟩) (by simp) (.bool true)
            have hK2 : (W.setCell ⟨w.heap.size + 1, 0, none⟩ (.bool true)).heap[Ed]? = some (.deferred (some [])) := (Below.heap_setCell W _ _ Ed (by dsimp only; omega)).trans hK
            go_wp2
            generalize W.setCell ⟨w.heap.size + 1, 0, none⟩ (.bool true) = W9 at Y2 hB2 hK2 ⊢
            have Z := Y2.record hK2 rfl (.deferred none)
            have z0 := Z.cell 0
            refine ⟨by simp, .inl ⟨_, _, rfl, run_takeDeferred hK2, ?_⟩⟩
            refine ⟨_, (by simp [results, Try.results37, go_sem, z0] : _ = Result.ok (.bool true) _), ?_⟩
            exact ⟨rfl, hB2.trans (below_put3 (by omega) _)⟩
          case stop =>
            rintro Ed cc pre W hEd hpre ⟨rfl, h1, h2, h3⟩ hK
            subst h1
            refine wpIn_wide.2 ?_
            have Z := h3.record hK rfl (.deferred none)
            have z0 := Z.cell 0
            go_wp2
            refine ⟨by simp, .inl ⟨_, _, rfl, run_takeDeferred hK, ?_⟩⟩
            refine ⟨_, (by simp [results, Try.results37, go_sem, z0] : _ = Result.ok (.bool false) _), ?_⟩
            exact ⟨rfl, h2.trans (below_put3 (by omega) _)⟩
        have hk3 : (g : Int) < (nf : Int) := by omega
        have hgl2 : g < b.heard.length := by rw [hn.out]; exact hgl
        obtain ⟨bh, oh, rfl, hbh, c0⟩ := hx.out.heard.2.one (k := g) hgl2
        replace c0 : w.cell? ⟨bh, oh + g, none⟩ = some (.int .i64 (b.h g)) := c0
        have hbad : ¬ (0 ≤ b.h g ∧ b.h g ≤ (k : Int)) → T = false := fun h => by rw [← hT.out, valid_gate hgl2 (gate_out (by rw [hns.out]; exact h))]
        have hgood : (0 ≤ b.h g ∧ b.h g ≤ (k : Int)) → ∀ j, j < g + 1 → 0 ≤ b.h j ∧ b.h j ≤ (k : Int) := fun h j hj => by
          rcases Nat.lt_or_ge j g with h9 | h9
          · exact hall.out j h9
          · obtain rfl : j = g := by omega
            exact h
        generalize b.h g = u at c0 hbad hgood
        have HG := Lib.hid hgood
        have HBAD := Lib.hid hbad
        clear hbad hgood
        replace c0 := (hB.cell hbh).trans c0
        have hbz := Nat.lt_of_lt_of_le hbh hB.size
        have z1 := X1.lt
        have z2 := X2.lt
        have X1c2 : wi.cell? ⟨w.heap.size, 2, none⟩ = some (.slice As k cs) := X1.cell 2
        have X2c0 : wi.cell? ⟨w.heap.size + 1, 0, none⟩ = some (.bool false) := X2.cell 0
        have X2f0 : wi.frozen? ⟨w.heap.size + 1, 0, none⟩ = false := X2.free 0
        have Y2 := X2.set 0 (.bool false)
        have hB2 := hB.setCell (p := ⟨w.heap.size + 1, 0, none⟩) (by simp) (.bool false)
        have y2 : (wi.setCell ⟨w.heap.size + 1, 0, none⟩ (.bool false)).cell? ⟨w.heap.size + 1, 0, none⟩ = some (.bool false) := Y2.cell 0
        by_cases g1 : u < 0
        · have e1 : decide (u < 0) = true := decide_eq_true g1
          obtain rfl : T = false := HBAD.out (by omega)
          go_wp2
          refine ⟨_, (by simp [results, Try.results37, go_sem, y2] : _ = Result.ok (.bool false) _), ?_⟩
          exact ⟨rfl, hB2⟩
        have e1 : decide (u < 0) = false := decide_eq_false g1
        by_cases g2 : (k : Int) < u
        · have e2 : decide ((k : Int) < u) = true := decide_eq_true g2
          obtain rfl : T = false := HBAD.out (by omega)
          go_wp2
          refine ⟨_, (by simp [results, Try.results37, go_sem, y2] : _ = Result.ok (.bool false) _), ?_⟩
          exact ⟨rfl, hB2⟩
        have e2 : decide ((k : Int) < u) = false := decide_eq_false g2
        clear Y2 hB2 y2
        go_wp2
        exact ⟨⟨g + 1, by omega, by go_num, hB, X1, X2, Lib.hid (HG.out (by omega))⟩, by simp [intOf]; omega⟩
    have hk3 : (k : Int) < (ns : Int) := by omega
    have hkl : k < b.sent.length := by rw [hns.out]; exact hlt
    obtain ⟨bs, os, rfl, hbs, hc⟩ := hx.out.sent.lk (by omega)
    obtain ⟨c0, c1⟩ := hc k hkl
    rw [gd_at hkl] at c0 c1
    have hok : ∀ T' : Bool, b.sentB = T' → T' = false → T = false := fun T' h h' => by rw [← hT.out, valid_sent (by rw [h, h'])]
    have hbad : ¬ ((0 ≤ (b.sent[k]).1 ∧ (b.sent[k]).1 < (nf : Int)) ∧ (0 ≤ (b.sent[k]).2 ∧ (b.sent[k]).2 ≤ 7)) → T = false := fun h => hok _ rfl (by
      unfold Bx.sentB
      rw [List.all_eq_false]
      refine ⟨_, List.getElem_mem hkl, ?_⟩
      rw [hn.out, decide_eq_false h]
      decide)
    have hgood : ((0 ≤ (b.sent[k]).1 ∧ (b.sent[k]).1 < (nf : Int)) ∧ (0 ≤ (b.sent[k]).2 ∧ (b.sent[k]).2 ≤ 7)) → (∀ j (hj : j < b.sent.length), j < k + 1 → (0 ≤ (b.sent[j]).1 ∧ (b.sent[j]).1 < (nf : Int)) ∧ (0 ≤ (b.sent[j]).2 ∧ (b.sent[j]).2 ≤ 7)) := fun h j hj hjk => by
      rcases Nat.lt_or_ge j k with h9 | h9
      · exact hall.out j hj h9
      · obtain rfl : j = k := by omega
        exact h
    generalize b.sent[k] = p at c0 c1 hbad hgood
    have HG := Lib.hid hgood
    obtain ⟨m1, m2⟩ := p
    dsimp only at c0 c1 hbad HG
    have HBAD := Lib.hid hbad
    clear hok hbad hgood
    replace c0 := (hB.cell hbs).trans c0
    replace c1 := (hB.cell hbs).trans c1
    have hbz := Nat.lt_of_lt_of_le hbs hB.size
    go_upto_region 6 with fail
    have Y := Box.new wo [.int .i64 m1, .int .i64 m2] 48
    have hal := (Below.refl wo.heap.size wo).alloc (Nat.le_refl _) (.cells #[.int .i64 m1, .int .i64 m2] 48)
    have X1 := X1.later hal
    have X2 := X2.later hal
    have hB := hB.trans (hal.mono hB.size)
    clear hal c0 c1 hbz
    generalize wo.alloc (.cells #[.int .i64 m1, .int .i64 m2] 48) = W at Y X1 X2 hB ⊢
    generalize wo.heap.size = D at Y ⊢
    have y0 : W.cell? ⟨D, 0, none⟩ = some (.int .i64 m1) := Y.cell 0
    have y1 : W.cell? ⟨D, 1, none⟩ = some (.int .i64 m2) := Y.cell 1
    have yz := Y.lt
    have z1 := X1.lt
    have z2 := X2.lt
    have X1c3 : W.cell? ⟨w.heap.size, 3, none⟩ = some (.slice Ah nf ch) := X1.cell 3
    have X2c0 : W.cell? ⟨w.heap.size + 1, 0, none⟩ = some (.bool false) := X2.cell 0
    have X2f0 : W.frozen? ⟨w.heap.size + 1, 0, none⟩ = false := X2.free 0
    have Y2 := X2.set 0 (.bool false)
    have hB2 := hB.setCell (p := ⟨w.heap.size + 1, 0, none⟩) (by simp) (.bool false)
    have y2 : (W.setCell ⟨w.heap.size + 1, 0, none⟩ (.bool false)).cell? ⟨w.heap.size + 1, 0, none⟩ = some (.bool false) := Y2.cell 0
    by_cases g1 : m1 < 0
    · have e1 : decide (m1 < 0) = true := decide_eq_true g1
      obtain rfl : T = false := HBAD.out (by omega)
      go_wp2
      refine ⟨_, (by simp [results, Try.results37, go_sem, y2] : _ = Result.ok (.bool false) _), ?_⟩
      exact ⟨rfl, hB2⟩
    have e1 : decide (m1 < 0) = false := decide_eq_false g1
    by_cases g2 : (nf : Int) ≤ m1
    · have e2 : decide ((nf : Int) ≤ m1) = true := decide_eq_true g2
      obtain rfl : T = false := HBAD.out (by omega)
      go_wp2
      refine ⟨_, (by simp [results, Try.results37, go_sem, y2] : _ = Result.ok (.bool false) _), ?_⟩
      exact ⟨rfl, hB2⟩
    have e2 : decide ((nf : Int) ≤ m1) = false := decide_eq_false g2
    by_cases g3 : m2 < 0
    · have e3 : decide (m2 < 0) = true := decide_eq_true g3
      obtain rfl : T = false := HBAD.out (by omega)
      go_wp2
      refine ⟨_, (by simp [results, Try.results37, go_sem, y2] : _ = Result.ok (.bool false) _), ?_⟩
      exact ⟨rfl, hB2⟩
    have e3 : decide (m2 < 0) = false := decide_eq_false g3
    by_cases g4 : 7 < m2
    · have e4 : decide (7 < m2) = true := decide_eq_true g4
      obtain rfl : T = false := HBAD.out (by omega)
      go_wp2
      refine ⟨_, (by simp [results, Try.results37, go_sem, y2] : _ = Result.ok (.bool false) _), ?_⟩
      exact ⟨rfl, hB2⟩
    have e4 : decide (7 < m2) = false := decide_eq_false g4
    clear Y2 hB2 y2
    go_wp2
    exact ⟨⟨k + 1, by omega, by go_num, hB, X1, X2, Lib.hid (HG.out (by omega))⟩, by simp [intOf]; omega⟩
end Go.Proofs.Ytmbifmmkccghfaa

/-
  Contracts of Int, Text and List of the reference; strings as bytes; the values of the example. No condition.
-/
namespace Go.Proofs.Ytmbifmmkccghfaa
open Go.RowKit

theorem conv_bytes (w : World) (s : Bs) (hs : s.length ≤ maxLen) : ∃ c w', (convert 9 43 (.string (strB s))).run Try.prog w = .ok (.slice (some ⟨w.heap.size, 0, none⟩) s.length c) w' ∧ BsAt w' (fun b => b < w'.heap.size) (.slice (some ⟨w.heap.size, 0, none⟩) s.length c) s ∧ Below w.heap.size w w' := by
  have hr := Lib.run_convert_string_bytes (P := Try.prog) w 9 43 5 (strB s) Try.underlying9 Try.underlying43 Try.underlying5
  have hsz : (strB s).size = s.length := rfl
  rw [hsz] at hr
  refine ⟨_, _, hr, ⟨.inr ⟨_, _, _, rfl, grownCap_ge _ _ _ _, grownCap_le_maxLen _ _ _ _ hs⟩, _, _, rfl, hs, fun i hi => ⟨w.heap.size, 0, rfl, ?_, ?_, fun j hj => ?_⟩⟩, ?_⟩
  · rw [Lib.bytesWorld_size]; omega
  · rw [Lib.bytesWorld_size]; omega
  · obtain rfl : j = 0 := by omega
    have := Lib.bytesWorld_cell w 5 (strB s) i hi
    simp only [Nat.zero_add, Nat.mul_one, Nat.add_zero]
    exact this
  · exact ⟨rfl, rfl, rfl, by rw [Lib.bytesWorld_size]; omega, fun k hk => Lib.bytesWorld_at_old w _ _ k hk⟩

end Go.Proofs.Ytmbifmmkccghfaa

/-
  The example of chapter 1. No condition.
-/
namespace Go.Proofs.Ytmbifmmkccghfaa
open Go.RowKit
attribute [local go_sem ↓ high] app_named

theorem RetDec.open {x : Val} {er : Int} {w : World} {e : Ending} {w' : World} (h : RetDec (x, er) w e w') : ∃ A c, e = .returned (.tuple #[.agg #[.int .i64 x.kind, .int .i64 x.num, .string (strB x.str), .slice A x.elems.length c], .int .i64 er]) ∧ ValsP w' (fun b => w.heap.size ≤ b) 16 (.slice A x.elems.length c) x.elems ∧ Below w.heap.size w w' := by
  obtain ⟨L, rfl, h1, h2⟩ := h
  obtain ⟨A, c, hv, _⟩ := h1.form
  dsimp only at hv h1 ⊢
  subst hv
  exact ⟨A, c, rfl, h1, h2⟩
end Go.Proofs.Ytmbifmmkccghfaa

/-
  The laws CodecEncodeSpec and CodecSameSpec. (Printed by gen_ge.py.)
-/
namespace Go.Proofs.Ytmbifmmkccghfaa
open Go.RowKit
attribute [local go_sem ↓ high] app_named

def Any : Nat → Prop := fun _ => True
theorem RetEnc.open {T : Bs} {er : Int} {n : Nat} {w : World} {e : Ending} {w' : World} (h : RetEnc (T, er) w e w') (hn : Hid (T.length = n)) : ∃ A c, e = .returned (.tuple #[.slice A n c, .int .i64 er]) ∧ Hid (BsAt w' Any (.slice A n c) T) ∧ Below w.heap.size w w' := by
  obtain ⟨V, rfl, h1, h2⟩ := h
  obtain ⟨A, c, hv, _⟩ := h1.form
  dsimp only at hv h1 ⊢
  subst hv
  rw [hn.out] at h1 ⊢
  exact ⟨A, c, rfl, Lib.hid (h1.weak fun _ _ _ => trivial), h2⟩
theorem Later.str {W : World} {S : Nat → Prop} {v : Value} {l : Bs} (h : BsAt W S v l) (u : Later W) : (convert 43 9 v).run Try.prog u.w = .ok (.string (strB l)) u.w := (h.keep (Keeps.of u.below)).str
end Go.Proofs.Ytmbifmmkccghfaa
