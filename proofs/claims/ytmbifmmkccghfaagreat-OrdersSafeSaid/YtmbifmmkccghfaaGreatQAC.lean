/- Plain facts on a step of the plant, for laws 5 to 9 of chapter 32. No condition. -/
import Derived.Test.YtmbifmmkccghfaaGreatQR
import Derived.RangeFuncNested
import Derived.RangeFuncBound
import Derived.RangeFuncCalls
import Derived.RangeFuncLeaves
import Derived.RangeFuncBox
import Derived.Shelf.Abstract
import Derived.Shelf.RegionOpen
import Derived.OwnWalkIn
import Derived.TacticsInMore
import Derived.LoopNIn
import Derived.LoopIn
import Derived.Test.YtmbifmmkccghfaaGreatQK
import Derived.Lib.MinMax
import Derived.RegionTactic
import Derived.BigRegion
import Derived.Laws.EntriesVeiled
set_option linter.unusedVariables false
set_option linter.unusedSimpArgs false
set_option maxRecDepth 100000
set_option maxHeartbeats 2000000
namespace Go.Proofs.YtmbifmmkccghfaaGreat
open Go.RowKit
theorem inI_of {n lo hi : Int} (h : lo ≤ n ∧ n ≤ hi) : inI n lo hi = true := decide_eq_true h
theorem fed_bd {p : Pl} {s : St} {x : Sh} (S : Small p s x) : 0 ≤ (fedT p s x).1 ∧ (fedT p s x).1 ≤ 15 := by
  have h1 := S.feed
  have h2 := S.p0
  unfold fedT
  split
  · omega
  · split <;> omega
theorem movedT_bd {p : Pl} {code : List Ln} {s : St} {x : Sh} (S : Small p s x) (hg : gateB code = true) :
    (0 ≤ movedT p code s x ∧ movedT p code s x ≤ p.positions) ∧ s.position - p.step ≤ movedT p code s x ∧ movedT p code s x ≤ s.position + p.step := by
  have h0 := (firstT_bd (r := varsT p s x) hg).1
  have h1 := S.positions
  have h2 := S.step
  have h3 := S.position
  unfold movedT
  split <;> omega
structure Stepped (p : Pl) (s : St) (x : Sh) (t : St) (o f : Int) : Prop where
  level : 0 ≤ t.level ∧ t.level ≤ p.top
  position : 0 ≤ t.position ∧ t.position ≤ p.positions
  down : s.position - p.step ≤ t.position
  up : t.position ≤ s.position + p.step
  out : 0 ≤ o ∧ o ≤ p.rate * t.position
  most : p.rate * t.position ≤ 225
  fed : 0 ≤ f ∧ f ≤ 15
  spill : 0 ≤ s.level + f - o - t.level
  full : t.level = p.top ∨ s.level + f - o - t.level ≤ 0
  flow : p.rate * t.position ≤ o ∨ t.level ≤ 0
theorem stepped {p : Pl} {code : List Ln} {s : St} {x : Sh} (S : Small p s x) (hg : gateB code = true) : Stepped p s x (stepT p code s x) (outT p code s x) (fedT p s x).1 := by
  have hf := fed_bd S
  obtain ⟨h1, h2, h3⟩ := movedT_bd S hg
  have hl := S.level
  have ht := S.top
  have hr := mul_le4 (a := p.rate) (b := movedT p code s x) (A := 15) (B := 15) (by have := S.rate; omega) (by have := S.positions; omega)
  have e1 : (stepT p code s x).level = min p.top (s.level + (fedT p s x).1 - outT p code s x) := rfl
  have e2 : (stepT p code s x).position = movedT p code s x := rfl
  have e3 : outT p code s x = min (s.level + (fedT p s x).1) (p.rate * movedT p code s x) := rfl
  generalize (fedT p s x).1 = f at *
  generalize movedT p code s x = M at *
  generalize outT p code s x = o at *
  generalize hR : p.rate * M = R at *
  have e4 : p.rate * (stepT p code s x).position = R := by rw [e2, hR]
  have top0 : s.level ≤ 63 := hl.2
  refine ⟨by omega, by omega, by omega, by omega, by rw [e4]; omega, by rw [e4]; omega, hf, by omega, by omega, by rw [e4]; omega⟩
theorem step_has {p : Pl} {code : List Ln} {s : St} {x : Sh} (hv : p.Valid) (hs : p.hasB s = true) (hc : chosenB p x = true) (hg : gateB code = true) : p.hasB (stepT p code s x) = true := by
  have S := small_of hv hs hc
  have Z := stepped (code := code) S hg
  obtain ⟨_, _, h3, h4, h5, h6⟩ := Pl.hasB_bd hs
  simp only [chosenB, Bool.and_eq_true] at hc
  have c1 := inI_yes hc.1
  have c2 := inI_yes hc.2
  have e3 : (stepT p code s x).p0 = (fedT p s x).2.1 := rfl
  have e4 : (stepT p code s x).p1 = (fedT p s x).2.2 := rfl
  have e5 : (stepT p code s x).order = (heardT p s x).1 := rfl
  have e6 : (stepT p code s x).age = (heardT p s x).2 := rfl
  have ho : (0 ≤ (heardT p s x).1 ∧ (heardT p s x).1 ≤ p.orders) ∧ 0 ≤ (heardT p s x).2 ∧ (heardT p s x).2 ≤ p.age := by
    unfold heardT
    split
    · exact ⟨⟨by assumption, c2.2⟩, Int.le_refl _, by omega⟩
    · exact ⟨h5, by omega, by omega⟩
  have hq : (0 ≤ (fedT p s x).2.1 ∧ (fedT p s x).2.1 ≤ if 0 < p.pipe then p.feed else 0) ∧ 0 ≤ (fedT p s x).2.2 ∧ (fedT p s x).2.2 ≤ if 1 < p.pipe then p.feed else 0 := by
    have hp := hv.pipe
    rcases (show p.pipe = 0 ∨ p.pipe = 1 ∨ p.pipe = 2 by omega) with h | h | h
    all_goals
      simp [fedT, h] at h3 h4 ⊢
      omega
  simp only [Pl.hasB, Bool.and_eq_true]
  exact ⟨inI_of Z.level, inI_of Z.position, inI_of (by rw [e3]; exact hq.1), inI_of (by rw [e4]; exact hq.2), inI_of (by rw [e5]; exact ho.1), inI_of (by rw [e6]; exact ho.2)⟩
end Go.Proofs.YtmbifmmkccghfaaGreat
namespace Go.Proofs.YtmbifmmkccghfaaGreat
open Go.RowKit Go.Shelf
structure KeepsC (D : Nat) (R : Nat → Prop) (A B : World) : Prop where
  low : Below D A B
  cells : ∀ b o, ¬ R b → A.heap[b]? = some o → o.isCells = true → B.heap[b]? = some o
section
variable {D : Nat} {R : Nat → Prop} {A B C : World}
theorem KeepsC.refl (D : Nat) (R : Nat → Prop) (A : World) : KeepsC D R A A := ⟨Below.refl _ _, fun _ _ _ h _ => h⟩
theorem KeepsC.trans (h : KeepsC D R A B) (k : KeepsC D R B C) : KeepsC D R A C := ⟨h.low.trans k.low, fun b o hr ho hc => k.cells b o hr (h.cells b o hr ho hc) hc⟩
theorem KeepsC.of (h : Below A.heap.size A B) (hD : D ≤ A.heap.size) : KeepsC D R A B := ⟨h.mono hD, fun b _ _ ho _ => (h.block b (Array.getElem?_eq_some_iff.1 ho).1).trans ho⟩
theorem KeepsC.set (W : World) {a : Addr} (hD : D ≤ a.block) (hR : R a.block) (v : Value) : KeepsC D R W (W.setCell a v) :=
  ⟨(Below.refl _ _).setCell hD v, fun b _ hr ho _ => (Below.heap_setCell W a v b (fun e => hr (e ▸ hR))).trans ho⟩
theorem KeepsC.put {W : World} {l : Nat} {o : Obj} (hl : W.heap[l]? = some o) (hc : o.isCells = false) (hD : D ≤ l) (o' : Obj) : KeepsC D R W (W.putObj l o') :=
  ⟨⟨rfl, rfl, rfl, by simp, fun k hk => World.putObj_heap_other (by omega)⟩, fun b o2 _ ho h2 => (World.putObj_heap_other (fun e => by rw [e, hl] at ho; cases ho; rw [hc] at h2; cases h2)).trans ho⟩
theorem KeepsC.box (h : KeepsC D R A B) {b : Nat} {xs : List Value} (hx : Box A b xs) (hr : ¬ R b) : Box B b xs := by
  obtain ⟨t, ht⟩ := hx
  exact ⟨t, h.cells b _ hr ht rfl⟩
theorem Box.under {b n : Nat} {xs : List Value} (h : Box A b xs) (hb : Below n A B) (hl : b < n) : Box B b xs := h.same (hb.block _ hl)
theorem Box.record {b l : Nat} {xs : List Value} {o : Obj} (h : Box A b xs) (hl : A.heap[l]? = some o) (hc : o.isCells = false) (o' : Obj) : Box (A.putObj l o') b xs := by
  obtain ⟨t, ht⟩ := h
  refine ⟨t, (World.putObj_heap_other (fun e => ?_)).trans ht⟩
  rw [e, hl] at ht
  cases ht
  cases hc
theorem KeepsC.size (h : KeepsC D R A B) : A.heap.size ≤ B.heap.size := h.low.size
end
def SeqB {α : Type} (F : Fence) (n : Nat) (P : Program) (g : Nat) (lb : Array Value) (encs : α → Array Value) (Kp : World → World → Prop) (S Sp : List α → Prop) (T : List α → α → Prop) (w : World) : Prop :=
  ∀ (l : Nat) (J Jx : List α → World → Prop) (W : World), Below w.heap.size w W → (∀ s A B, J s A → Below W.heap.size A B → J s B) → (∀ s A B, Jx s A → Below W.heap.size A B → Jx s B) →
    (∀ pre x W1, J pre W1 → T pre x → YieldAt F (n - 1) P l (encs x) W1 fun e W' =>
      (e = .returned (.bool true) ∧ J (pre ++ [x]) W' ∧ Kp W1 W') ∨ (e = .returned (.bool false) ∧ Jx (pre ++ [x]) W')) →
    J [] W →
    CallsIn F n P g (#[.func (.yield l) #[] #[]] ++ lb) W fun e W' => (∃ v, e = .returned v) ∧ ((∃ xs, S xs ∧ J xs W') ∨ (∃ pre, Sp pre ∧ Jx pre W'))
theorem yieldAt_round {α : Type} {F : Fence} {n : Nat} {P : Program} {B l D' : Nat} {D : Nat} {R : Nat → Prop} (hB : B ≤ l) (hD : D ≤ B) {fn : FuncId} {tmps : Array Value} {ps : Array Tmp} {assign body : Code} (hfn : F.fn fn)
    {I : List α → World → Prop} {Ix : Code → List α → World → Prop} {xs : List α} {vs : Array Value} {Ax : Act → World → Prop} {W : World} {rec : LoopState → Option Code → Loop}
    (hrec : rec = fun st pe => { state := st, pending := pe, fn, tmps, params := ps, assign, body, defers := D' })
    (hI : ∀ A o, I xs A → I xs (A.putObj l o)) (hIx : ∀ c A o, Ix c xs A → Ix c xs (A.putObj l o)) (hvs : vs.size = ps.size)
    (hl : W.heap[l]? = some (.loop (rec .ready none)))
    (hassign : ∀ K : Act → World → Prop, (∀ a' W', KeepsFrom B W W' → KeepsC D R W W' → Ax a' W' → K a' W') → assign.wpIn (F.inRound l) n P (Exit.then K (fun _ _ _ => False)) { tmps := (ps.zip vs).foldl (fun t (p, v) => t.setIfInBounds p v) tmps, defers := [] } W)
    (hbody : ∀ a' A, Ax a' A → A.heap[l]? = some (.loop (rec .ready none)) → body.wpIn (F.inRound l) n P (ownPostG B (KeepsC D R) I Ix xs (A.putObj l (.loop { rec .ready none with state := .busy }))) a' (A.putObj l (.loop { rec .ready none with state := .busy }))) :
    YieldAt F n P l vs W fun e W' => (e = .returned (.bool true) ∧ (I xs W' ∧ W'.heap[l]? = some (.loop (rec .ready none)) ∧ ∀ k o, B ≤ k → k ≠ l → W.heap[k]? = some o → o.isCells = false → W'.heap[k]? = some o) ∧ KeepsC D R W W') ∨
      (e = .returned (.bool false) ∧ ∃ c, Ix c xs W' ∧ W'.heap[l]? = some (.loop (rec .done (some c))) ∧ ∀ k o, B ≤ k → k ≠ l → W.heap[k]? = some o → o.isCells = false → W'.heap[k]? = some o) := by
  have hy := run_yield (P := P) (args := vs) hl (by rw [hrec]; exact hvs)
  rw [hrec] at hy
  refine ⟨fn, _, assign, body, hy, roundIn_of_wpIn hfn (hassign _ ?_)⟩
  intro a' Wa hkf hkc hax
  have hla := hkf.same _ _ hB hl rfl
  have hlt : l < Wa.heap.size := (Array.getElem?_eq_some_iff.1 hla).1
  refine ⟨_, run_beginRound hla (by rw [hrec]), wpIn_mono (hbody a' Wa hax hla) ?_⟩
  have hl2 : (Wa.putObj l (.loop { rec .ready none with state := .busy })).heap[l]? = some (.loop { rec .ready none with state := .busy }) := World.putObj_heap_same hlt
  have hk2 : KeepsC D R W (Wa.putObj l (.loop { rec .ready none with state := .busy })) := hkc.trans (KeepsC.put hla rfl (by omega) _)
  have fin : ∀ (jump : Option Code) (W3 : World), KeepsFrom B (Wa.putObj l (.loop { rec .ready none with state := .busy })) W3 →
      (Instr.endRound l jump).run P W3 = .ok (.bool jump.isNone) (W3.putObj l (.loop (rec (if jump.isNone then .ready else .done) jump))) ∧
      W3.heap[l]? = some (.loop { rec .ready none with state := .busy }) ∧
      (W3.putObj l (.loop (rec (if jump.isNone then .ready else .done) jump))).heap[l]? = some (.loop (rec (if jump.isNone then .ready else .done) jump)) ∧
      (∀ k o, B ≤ k → k ≠ l → W.heap[k]? = some o → o.isCells = false → (W3.putObj l (.loop (rec (if jump.isNone then .ready else .done) jump))).heap[k]? = some o) := by
    intro jump W3 hk3
    have hl3 := hk3.same _ _ hB hl2 rfl
    have he := run_endRound (P := P) jump hl3
    rw [hrec] at he ⊢
    refine ⟨he, by rw [hrec] at hl3; exact hl3, World.putObj_heap_same (Array.getElem?_eq_some_iff.1 hl3).1, fun k o hk hkl ho hc => ?_⟩
    refine (World.putObj_heap_other hkl).trans (hk3.same k o hk ?_ hc)
    exact (World.putObj_heap_other hkl).trans (hkf.same k o hk ho hc)
  rintro e a3 W3 hp
  cases e with
  | normal =>
    obtain ⟨hk3, hkp3, hi3⟩ := hp
    obtain ⟨hr, hl3, hl4, hk4⟩ := fin none W3 hk3
    exact ⟨_, _, hr, .inl ⟨rfl, ⟨hI _ _ hi3, hl4, hk4⟩, hk2.trans (hkp3.trans (KeepsC.put hl3 rfl (by omega) _))⟩⟩
  | ret =>
    obtain ⟨hk3, hi3⟩ := hp
    obtain ⟨hr, hl3, hl4, hk4⟩ := fin (some .ret) W3 hk3
    exact ⟨_, _, hr, .inr ⟨rfl, .ret, hIx _ _ _ hi3, hl4, hk4⟩⟩
  | exit id =>
    obtain ⟨hk3, hi3⟩ := hp
    obtain ⟨hr, hl3, hl4, hk4⟩ := fin (some (.exit id)) W3 hk3
    exact ⟨_, _, hr, .inr ⟨rfl, .exit id, hIx _ _ _ hi3, hl4, hk4⟩⟩
  | goto t =>
    obtain ⟨hk3, hi3⟩ := hp
    obtain ⟨hr, hl3, hl4, hk4⟩ := fin (some (.goto t)) W3 hk3
    exact ⟨_, _, hr, .inr ⟨rfl, .goto t, hIx _ _ _ hi3, hl4, hk4⟩⟩
  | panic ch => exact hp.elim
  | outgrown => exact hp.elim
theorem below_put3 {n : Nat} {A : World} {l : Nat} (hl : n ≤ l) (o : Obj) : Below n A (A.putObj l o) := ⟨rfl, rfl, rfl, by simp, fun k hk => World.putObj_heap_other (by omega)⟩
theorem wpIn_range_out {α : Type} {F : Fence} {n : Nat} {P : Program} {g : Operand} {ps : Array Tmp} {assign body : Code} {Q : Exit → Act → World → Prop} {a : Act} {w : World}
    (hro : F.round = none) (h1 : 1 ≤ n) {gf : Nat} {lb : Array Value} (hg : a.eval g = .func (.func gf) #[] lb) (hFg : F.fn gf) (eg : ∀ args w, (callFunc gf args).run P w = .ok (.enter gf args) w)
    {encs : α → Array Value} {D : Nat} {R : Nat → Prop} {S Sp : List α → Prop} {T : List α → α → Prop} {w0 : World} (hseq : SeqB F (n - 1) P gf lb encs (KeepsC D R) S Sp T w0) (hb0 : Below w0.heap.size w0 w) (hD : D ≤ w.heap.size) (hps : ∀ x, (encs x).size = ps.size)
    (I : List α → World → Prop) (Ix : Code → List α → World → Prop) (hI : ∀ s A B, I s A → Below w.heap.size A B → I s B) (hIx : ∀ c s A B, Ix c s A → Below w.heap.size A B → Ix c s B) (h0 : I [] w)
    (Ax : List α → α → Act → World → Prop) (hAx : ∀ pre x a' A l o o', w.heap.size ≤ l → A.heap[l]? = some o → o.isCells = false → Ax pre x a' A → Ax pre x a' (A.putObj l o'))
    (hassign : ∀ (l : Nat) (pre : List α) (x : α) (W : World) (K : Act → World → Prop), I pre W → T pre x → (∀ a' W', KeepsFrom w.heap.size W W' → KeepsC D R W W' → Ax pre x a' W' → K a' W') →
      assign.wpIn (F.inRound l) (n - 1 - 1) P (Exit.then K (fun _ _ _ => False)) { tmps := (ps.zip (encs x)).foldl (fun t (p, v) => t.setIfInBounds p v) a.tmps, defers := [] } W)
    (hbody : ∀ (l : Nat) (pre : List α) (x : α) (a' : Act) (W : World), w.heap.size ≤ l → (∃ r, W.heap[l]? = some (.loop r)) → Ax pre x a' W → body.wpIn (F.inRound l) (n - 1 - 1) P (ownPostG w.heap.size (KeepsC D R) I Ix (pre ++ [x]) W) a' W)
    (hdone : ∀ (E : Nat) (xs : List α) (W : World), w.heap.size ≤ E → S xs → I xs W → W.heap[E]? = some (.deferred (some [])) → Q .normal { a with defers := { target := .collected E, args := #[] } :: a.defers } W)
    (hstop : ∀ (E : Nat) (c : Code) (pre : List α) (W : World), w.heap.size ≤ E → Sp pre → Ix c pre W → W.heap[E]? = some (.deferred (some [])) → c.wpIn F n P Q { a with defers := { target := .collected E, args := #[] } :: a.defers } W) :
    (Code.rangeFunc g ps assign body).wpIn F n P Q a w := by
  refine wpIn_rangeFunc ?_
  intro fn hfn
  rw [hro]
  obtain ⟨rec, hrec⟩ : ∃ rec : LoopState → Option Code → Loop, rec = fun st pe => { state := st, pending := pe, fn, tmps := a.tmps, params := ps, assign, body, defers := w.heap.size } := ⟨_, rfl⟩
  obtain ⟨W1, hW1⟩ : ∃ W1, (w.alloc (.deferred (some []))).alloc (.loop (rec .ready none)) = W1 := ⟨_, rfl⟩
  have hL1 : W1.heap[w.heap.size + 1]? = some (.loop (rec .ready none)) := by
    rw [← hW1]; have := World.alloc_heap_new (w.alloc (.deferred (some []))) (.loop (rec .ready none)); rwa [World.size_alloc] at this
  have hK1 : W1.heap[w.heap.size]? = some (.deferred (some [])) := by
    rw [← hW1]; exact (Below.heap_alloc _ _ _ (by simp)).trans (World.alloc_heap_new w _)
  have hb1 : Below w.heap.size w W1 := by
    rw [← hW1]; exact ((Below.refl _ w).alloc (Nat.le_refl _) _).alloc (by simp) _
  have hs1 : w.heap.size + 1 < W1.heap.size := (Array.getElem?_eq_some_iff.1 hL1).1
  refine ⟨w.heap.size + 1, [{ target := .collected w.heap.size, args := #[] }], W1, { target := .fn (.func gf) lb, args := #[.func (.yield (w.heap.size + 1)) #[] #[]] }, W1, gf,
    #[.func (.yield (w.heap.size + 1)) #[] #[]] ++ lb, W1, ?_, ?_, ?_, ?_, fun _ => h1, ?_⟩
  · rw [← hW1, hrec]; exact run_enterLoop_outer _ _ _ _ _
  · simp only [resolve, hg]
    simp [go_sem]
  · intro f' hf'; simp [Target.leads] at hf'; subst hf'; exact hFg
  · simp [invoke, go_sem, eg]
  · refine (hseq (w.heap.size + 1)
      (fun pre W => I pre W ∧ W.heap[w.heap.size + 1]? = some (.loop (rec .ready none)) ∧ W.heap[w.heap.size]? = some (.deferred (some [])))
      (fun pre W => ∃ c, Ix c pre W ∧ W.heap[w.heap.size + 1]? = some (.loop (rec .done (some c))) ∧ W.heap[w.heap.size]? = some (.deferred (some [])))
      W1 (hb0.trans (hb1.mono hb0.size)) ?_ ?_ ?_ ⟨hI _ _ _ h0 hb1, hL1, hK1⟩).mono ?_
    · rintro s A B ⟨h1, h2, h3⟩ hb
      exact ⟨hI _ _ _ h1 (hb.mono hb1.size), (hb.block _ hs1).trans h2, (hb.block _ (by omega)).trans h3⟩
    · rintro s A B ⟨c, h1, h2, h3⟩ hb
      exact ⟨c, hIx _ _ _ _ h1 (hb.mono hb1.size), (hb.block _ hs1).trans h2, (hb.block _ (by omega)).trans h3⟩
    · rintro pre x W ⟨hi, hl, hk⟩ hlen
      refine (yieldAt_round (Ax := Ax pre x) (I := I) (Ix := Ix) (xs := pre ++ [x]) (D' := w.heap.size) (Nat.le_succ _) hD hfn hrec (fun A o h => hI _ _ _ h (below_put3 (Nat.le_succ _) o)) (fun c A o h => hIx _ _ _ _ h (below_put3 (Nat.le_succ _) o)) (hps x) hl
        (fun K hK => hassign _ pre x W K hi hlen hK) (fun a' A hax hla => hbody _ pre x a' _ (Nat.le_succ _) ⟨_, World.putObj_heap_same (Array.getElem?_eq_some_iff.1 hla).1⟩ (hAx _ _ _ _ _ _ _ (Nat.le_succ _) hla rfl hax))).mono ?_
      rintro e W' (⟨rfl, ⟨h1, h2, h3⟩, h4⟩ | ⟨rfl, c, h1, h2, h3⟩)
      · exact .inl ⟨rfl, ⟨h1, h2, h3 _ _ (Nat.le_refl _) (by omega) hk rfl⟩, h4⟩
      · exact .inr ⟨rfl, c, h1, h2, h3 _ _ (Nat.le_refl _) (by omega) hk rfl⟩
    · rintro e W2 ⟨⟨v, rfl⟩, (⟨xs, hS, hi, hl, hk⟩ | ⟨pre, hSp, c, hi, hl, hk⟩)⟩
      · exact ⟨none, _, by have := run_endLoop (P := P) hl (by rw [hrec]; simp); rw [hrec] at this; exact this, hdone _ xs _ (Nat.le_refl _) hS (hI _ _ _ hi (below_put3 (Nat.le_succ _) _)) ((World.putObj_heap_other (by omega)).trans hk)⟩
      · exact ⟨some c, _, by have := run_endLoop (P := P) hl (by rw [hrec]; simp); rw [hrec] at this; exact this, hstop _ c pre _ (Nat.le_refl _) hSp (hIx _ _ _ _ hi (below_put3 (Nat.le_succ _) _)) ((World.putObj_heap_other (by omega)).trans hk)⟩
theorem wpIn_range_in {α : Type} {F : Fence} {n : Nat} {P : Program} {g : Operand} {ps : Array Tmp} {assign body : Code} {Q : Exit → Act → World → Prop} {a : Act} {w : World}
    {l₀ : Nat} {r₀ : Loop} (hro : F.round = some l₀) (hl₀ : w.heap[l₀]? = some (.loop r₀)) (h1 : 1 ≤ n) {gf : Nat} {lb : Array Value} (hg : a.eval g = .func (.func gf) #[] lb) (hFg : F.fn gf) (eg : ∀ args w, (callFunc gf args).run P w = .ok (.enter gf args) w)
    {encs : α → Array Value} {D : Nat} {R : Nat → Prop} {S Sp : List α → Prop} {T : List α → α → Prop} {w0 : World} (hseq : SeqB F (n - 1) P gf lb encs (KeepsC D R) S Sp T w0) (hb0 : Below w0.heap.size w0 w) (hD : D ≤ w.heap.size) (hps : ∀ x, (encs x).size = ps.size)
    (I : List α → World → Prop) (Ix : Code → List α → World → Prop) (hI : ∀ s A B, I s A → Below w.heap.size A B → I s B) (hIx : ∀ c s A B, Ix c s A → Below w.heap.size A B → Ix c s B) (h0 : I [] w)
    (Ax : List α → α → Act → World → Prop) (hAx : ∀ pre x a' A l o o', w.heap.size ≤ l → A.heap[l]? = some o → o.isCells = false → Ax pre x a' A → Ax pre x a' (A.putObj l o'))
    (hassign : ∀ (l : Nat) (pre : List α) (x : α) (W : World) (K : Act → World → Prop), I pre W → T pre x → (∀ a' W', KeepsFrom w.heap.size W W' → KeepsC D R W W' → Ax pre x a' W' → K a' W') →
      assign.wpIn (F.inRound l) (n - 1 - 1) P (Exit.then K (fun _ _ _ => False)) { tmps := (ps.zip (encs x)).foldl (fun t (p, v) => t.setIfInBounds p v) a.tmps, defers := [] } W)
    (hbody : ∀ (l : Nat) (pre : List α) (x : α) (a' : Act) (W : World), w.heap.size ≤ l → (∃ r, W.heap[l]? = some (.loop r)) → Ax pre x a' W → body.wpIn (F.inRound l) (n - 1 - 1) P (ownPostG w.heap.size (KeepsC D R) I Ix (pre ++ [x]) W) a' W)
    (hdone : ∀ (xs : List α) (W : World), S xs → I xs W → Q .normal a W)
    (hstop : ∀ (c : Code) (pre : List α) (W : World), Sp pre → Ix c pre W → c.wpIn F n P Q a W) :
    (Code.rangeFunc g ps assign body).wpIn F n P Q a w := by
  refine wpIn_rangeFunc ?_
  intro fn hfn
  rw [hro]
  obtain ⟨rec, hrec⟩ : ∃ rec : LoopState → Option Code → Loop, rec = fun st pe => { state := st, pending := pe, fn, tmps := a.tmps, params := ps, assign, body, defers := r₀.defers } := ⟨_, rfl⟩
  obtain ⟨W1, hW1⟩ : ∃ W1, w.alloc (.loop (rec .ready none)) = W1 := ⟨_, rfl⟩
  have hL1 : W1.heap[w.heap.size]? = some (.loop (rec .ready none)) := by rw [← hW1]; exact World.alloc_heap_new w _
  have hb1 : Below w.heap.size w W1 := by rw [← hW1]; exact (Below.refl _ w).alloc (Nat.le_refl _) _
  have hs1 : w.heap.size < W1.heap.size := (Array.getElem?_eq_some_iff.1 hL1).1
  refine ⟨w.heap.size, [], W1, { target := .fn (.func gf) lb, args := #[.func (.yield w.heap.size) #[] #[]] }, W1, gf,
    #[.func (.yield w.heap.size) #[] #[]] ++ lb, W1, ?_, ?_, ?_, ?_, fun _ => h1, ?_⟩
  · rw [← hW1, hrec]; exact run_enterLoop_inner hl₀ _ _ _ _ _
  · simp only [resolve, hg]
    simp [go_sem]
  · intro f' hf'; simp [Target.leads] at hf'; subst hf'; exact hFg
  · simp [invoke, go_sem, eg]
  · refine (hseq w.heap.size
      (fun pre W => I pre W ∧ W.heap[w.heap.size]? = some (.loop (rec .ready none)))
      (fun pre W => ∃ c, Ix c pre W ∧ W.heap[w.heap.size]? = some (.loop (rec .done (some c))))
      W1 (hb0.trans (hb1.mono hb0.size)) ?_ ?_ ?_ ⟨hI _ _ _ h0 hb1, hL1⟩).mono ?_
    · rintro s A B ⟨h1, h2⟩ hb
      exact ⟨hI _ _ _ h1 (hb.mono hb1.size), (hb.block _ hs1).trans h2⟩
    · rintro s A B ⟨c, h1, h2⟩ hb
      exact ⟨c, hIx _ _ _ _ h1 (hb.mono hb1.size), (hb.block _ hs1).trans h2⟩
    · rintro pre x W ⟨hi, hl⟩ hlen
      refine (yieldAt_round (Ax := Ax pre x) (I := I) (Ix := Ix) (xs := pre ++ [x]) (D' := r₀.defers) (Nat.le_refl _) hD hfn hrec (fun A o h => hI _ _ _ h (below_put3 (Nat.le_refl _) o)) (fun c A o h => hIx _ _ _ _ h (below_put3 (Nat.le_refl _) o)) (hps x) hl
        (fun K hK => hassign _ pre x W K hi hlen hK) (fun a' A hax hla => hbody _ pre x a' _ (Nat.le_refl _) ⟨_, World.putObj_heap_same (Array.getElem?_eq_some_iff.1 hla).1⟩ (hAx _ _ _ _ _ _ _ (Nat.le_refl _) hla rfl hax))).mono ?_
      rintro e W' (⟨rfl, ⟨h1, h2, _⟩, h4⟩ | ⟨rfl, c, h1, h2, _⟩)
      · exact .inl ⟨rfl, ⟨h1, h2⟩, h4⟩
      · exact .inr ⟨rfl, c, h1, h2⟩
    · rintro e W2 ⟨⟨v, rfl⟩, (⟨xs, hS, hi, hl⟩ | ⟨pre, hSp, c, hi, hl⟩)⟩
      · exact ⟨none, _, by have := run_endLoop (P := P) hl (by rw [hrec]; simp); rw [hrec] at this; exact this, hdone xs _ hS (hI _ _ _ hi (below_put3 (Nat.le_refl _) _))⟩
      · exact ⟨some c, _, by have := run_endLoop (P := P) hl (by rw [hrec]; simp); rw [hrec] at this; exact this, hstop c pre _ hSp (hIx _ _ _ _ hi (below_put3 (Nat.le_refl _) _))⟩
end Go.Proofs.YtmbifmmkccghfaaGreat
namespace Go.Proofs.YtmbifmmkccghfaaGreat
open Go.RowKit
structure Iq where
  (level position pipe order age most : Int)
structure Fw where
  kind : Int
  st : St
  sh : Sh
def Sh.zero : Sh := ⟨0, 0⟩
def Fw.zero : Fw := ⟨0, St.zero, Sh.zero⟩
abbrev Iq.v (x : Iq) : Value := .agg #[.int .i64 x.level, .int .i64 x.position, .int .i64 x.pipe, .int .i64 x.order, .int .i64 x.age, .int .i64 x.most]
abbrev Iq.cells (x : Iq) : List Value := [.int .i64 x.level, .int .i64 x.position, .int .i64 x.pipe, .int .i64 x.order, .int .i64 x.age, .int .i64 x.most]
def iqCell (x : Iq) (j : Nat) : Value := .int .i64 (if j = 0 then x.level else if j = 1 then x.position else if j = 2 then x.pipe else if j = 3 then x.order else if j = 4 then x.age else x.most)
def Iq.zero : Iq := ⟨0, 0, 0, 0, 0, 0⟩
def BarAt (w : World) (B : Nat) (v : Value) (b : List Iq) : Prop := Sl w B 6 b.length (fun i j => iqCell (b.getD i Iq.zero) j) v
theorem BarAt.below {w w' : World} {B : Nat} {v : Value} {b : List Iq} (h : BarAt w B v b) (hb : Below B w w') : BarAt w' B v b := Sl.below h hb
theorem BarAt.more {w : World} {B B' : Nat} {v : Value} {b : List Iq} (h : BarAt w B v b) (hb : B ≤ B') : BarAt w B' v b := Sl.more h hb
theorem BarAt.later {w w' : World} {v : Value} {b : List Iq} (h : BarAt w w.heap.size v b) (hb : Below w.heap.size w w') : BarAt w' w'.heap.size v b := (h.below hb).more hb.size
theorem BarAt.form {w : World} {B : Nat} {v : Value} {b : List Iq} (h : BarAt w B v b) : ∃ A c, v = .slice A b.length c ∧ b.length ≤ maxLen := by
  obtain ⟨A, c, hv, hn, _⟩ := h
  exact ⟨A, c, hv, hn⟩
theorem BarAt.ineq {w : World} {B : Nat} {A : Option Addr} {n c : Nat} {b : List Iq} (h : BarAt w B (.slice A n c) b) {k : Nat} (hk : k < b.length) :
    ∃ g off, A = some ⟨g, off, none⟩ ∧ g < B ∧ w.cell? ⟨g, off + k * 6, none⟩ = some (.int .i64 (b[k]).level) ∧ w.cell? ⟨g, off + k * 6 + 1, none⟩ = some (.int .i64 (b[k]).position) ∧ w.cell? ⟨g, off + k * 6 + 2, none⟩ = some (.int .i64 (b[k]).pipe) ∧ w.cell? ⟨g, off + k * 6 + 3, none⟩ = some (.int .i64 (b[k]).order) ∧ w.cell? ⟨g, off + k * 6 + 4, none⟩ = some (.int .i64 (b[k]).age) ∧ w.cell? ⟨g, off + k * 6 + 5, none⟩ = some (.int .i64 (b[k]).most) := by
  obtain ⟨A', c', hv, _, h1⟩ := h
  cases hv
  obtain ⟨g, off, rfl, hb, h3⟩ := h1 k hk
  have e : b.getD k Iq.zero = b[k] := by rw [List.getD_eq_getElem?_getD, List.getElem?_eq_getElem hk]; rfl
  have c0 := h3 0 (by omega)
  have c1 := h3 1 (by omega)
  have c2 := h3 2 (by omega)
  have c3 := h3 3 (by omega)
  have c4 := h3 4 (by omega)
  have c5 := h3 5 (by omega)
  simp only [e] at c0 c1 c2 c3 c4 c5
  exact ⟨g, off, rfl, hb, c0, by rw [Nat.add_assoc]; exact c1, by rw [Nat.add_assoc]; exact c2, by rw [Nat.add_assoc]; exact c3, by rw [Nat.add_assoc]; exact c4, by rw [Nat.add_assoc]; exact c5⟩
def Iq.okB (x : Iq) : Bool := inI x.level (-1048576) 1048576 && (inI x.position (-1048576) 1048576 && (inI x.pipe (-1048576) 1048576 && (inI x.order (-1048576) 1048576 && (inI x.age (-1048576) 1048576 && inI x.most (-1048576) 1048576))))
def barT (b : List Iq) : Int := if b.length ≤ 16 then (if b.all Iq.okB = true then 0 else 330) else 2
def Iq.sum (x : Iq) (s : St) : Int := x.level * s.level + x.position * s.position + x.pipe * (s.p0 + s.p1) + x.order * s.order + x.age * s.age
def inB (b : List Iq) (s : St) : Bool := b.all fun x => decide (x.sum s ≤ x.most)
def St.numsB (s : St) : Bool := inI s.level 0 1048576 && (inI s.position 0 1048576 && (inI s.p0 0 1048576 && (inI s.p1 0 1048576 && (inI s.order 0 1048576 && inI s.age 0 1048576))))
def holdsT (b : List Iq) (s : St) : Bool × Int := if barT b = 0 then (if s.numsB = true then (inB b s, 0) else (false, 1)) else (false, barT b)
def Pl.n0 (p : Pl) : Nat := (p.positions + 1).toNat
def Pl.nx (p : Pl) : Nat := if p.pipe = 0 then 1 else (p.feed + 1).toNat
def Pl.ny (p : Pl) : Nat := if p.pipe = 2 then (p.feed + 1).toNat else 1
def Pl.no (p : Pl) : Nat := (p.orders + 1).toNat
def Pl.na (p : Pl) : Nat := (p.age + 1).toNat
def Pl.count (p : Pl) : Nat := (p.top + 1).toNat * (p.n0 * (p.nx * (p.ny * (p.no * p.na))))
def Pl.stAt (p : Pl) (k : Nat) : St :=
  ⟨(k / (p.n0 * (p.nx * (p.ny * (p.no * p.na)))) : Nat), (k / (p.nx * (p.ny * (p.no * p.na))) % p.n0 : Nat), (k / (p.ny * (p.no * p.na)) % p.nx : Nat), (k / (p.no * p.na) % p.ny : Nat), (k / p.na % p.no : Nat), (k % p.na : Nat)⟩
def Pl.states (p : Pl) : List St := (List.range p.count).map p.stAt
def Pl.nm (p : Pl) : Nat := (p.orders + 2).toNat
def Pl.shAt (p : Pl) (k : Nat) : Sh := ⟨(k / p.nm : Nat), ((k % p.nm : Nat) : Int) - 1⟩
def Pl.shocks (p : Pl) : List Sh := (List.range ((p.feed + 1).toNat * p.nm)).map p.shAt
def Pl.safeB (p : Pl) (s : St) : Bool := (p.safeT s).1
def flawAt (p : Pl) (c : List Ln) (b : List Iq) (s : St) : Option Fw :=
  if inB b s = true then (if p.safeB s = true then (p.shocks.find? fun x => !inB b (nextT p c s x).1).map (fun x => ⟨3, s, x⟩) else some ⟨2, s, Sh.zero⟩) else none
def askT (p : Pl) (c : List Ln) : Int := if p.checkT = 0 then gateT c else p.checkT
def certT (p : Pl) (c : List Ln) (b : List Iq) : Bool × Fw × Int :=
  if askT p c = 0 then (if barT b = 0 then (if inB b p.beginT.1 = true then (match p.states.findSome? (flawAt p c b) with
    | some f => (false, f, 0)
    | none => (true, Fw.zero, 0)) else (false, ⟨1, p.beginT.1, Sh.zero⟩, 0)) else (false, Fw.zero, barT b)) else (false, Fw.zero, askT p c)
/-! The sums that decide whether a state is in fit into an int. -/
theorem mul_bd {a b A B : Int} (ha : -A ≤ a ∧ a ≤ A) (hb : -B ≤ b ∧ b ≤ B) : -(A * B) ≤ a * b ∧ a * b ≤ A * B := by
  have h1 : a.natAbs ≤ A.natAbs := by omega
  have h2 : b.natAbs ≤ B.natAbs := by omega
  have h3 : (a * b).natAbs ≤ A.natAbs * B.natAbs := by rw [Int.natAbs_mul]; exact Nat.mul_le_mul h1 h2
  have h4 : ((A.natAbs * B.natAbs : Nat) : Int) = A * B := by
    rw [Int.natCast_mul, Int.natAbs_of_nonneg (by omega), Int.natAbs_of_nonneg (by omega)]
  omega
end Go.Proofs.YtmbifmmkccghfaaGreat
namespace Go.Proofs.YtmbifmmkccghfaaGreat
open Go.RowKit
theorem inI_in {n lo hi : Int} (h : lo ≤ n ∧ n ≤ hi) : inI n lo hi = true := decide_eq_true h
theorem digits {n m : Nat} {k : Nat} (hm : 0 < m) : k / m < n ↔ k < n * m := Nat.div_lt_iff_lt_mul hm
section
variable {p : Pl}
theorem Pl.Valid.ns (hv : p.Valid) : 0 < p.n0 ∧ 0 < p.nx ∧ 0 < p.ny ∧ 0 < p.no ∧ 0 < p.na := by
  have h1 := hv.positions
  have h2 := hv.feed
  have h3 := hv.orders
  have h4 := hv.age
  refine ⟨?_, ?_, ?_, ?_, ?_⟩
  · unfold Pl.n0; omega
  · unfold Pl.nx; split <;> omega
  · unfold Pl.ny; split <;> omega
  · unfold Pl.no; omega
  · unfold Pl.na; omega
theorem Pl.Valid.maxes (hv : p.Valid) : ((p.nx : Int) - 1 = if 0 < p.pipe then p.feed else 0) ∧ ((p.ny : Int) - 1 = if 1 < p.pipe then p.feed else 0) := by
  have h2 := hv.feed
  have h3 := hv.pipe
  unfold Pl.nx Pl.ny
  constructor
  · split <;> split <;> omega
  · split <;> split <;> omega
theorem stAt_has (hv : p.Valid) {k : Nat} (hk : k < p.count) : p.hasB (p.stAt k) = true := by
  obtain ⟨a, b, c, d, e⟩ := hv.ns
  obtain ⟨m1, m2⟩ := hv.maxes
  have h1 := hv.positions
  have h2 := hv.top
  have h3 := hv.orders
  have h4 := hv.age
  have hM : 0 < p.n0 * (p.nx * (p.ny * (p.no * p.na))) := by
    refine Nat.mul_pos a (Nat.mul_pos b (Nat.mul_pos c (Nat.mul_pos d e)))
  have t0 : k / (p.n0 * (p.nx * (p.ny * (p.no * p.na)))) < (p.top + 1).toNat := (digits hM).2 hk
  have t1 := Nat.mod_lt (k / (p.nx * (p.ny * (p.no * p.na)))) a
  have t2 := Nat.mod_lt (k / (p.ny * (p.no * p.na))) b
  have t3 := Nat.mod_lt (k / (p.no * p.na)) c
  have t4 := Nat.mod_lt (k / p.na) d
  have t5 := Nat.mod_lt k e
  have e0 : (p.n0 : Int) = p.positions + 1 := by unfold Pl.n0; omega
  have e1 : (p.no : Int) = p.orders + 1 := by unfold Pl.no; omega
  have e2 : (p.na : Int) = p.age + 1 := by unfold Pl.na; omega
  rw [Pl.hasB, ← m1, ← m2]
  unfold Pl.stAt
  dsimp only
  generalize k / (p.n0 * (p.nx * (p.ny * (p.no * p.na)))) = q0 at t0 ⊢
  generalize k / (p.nx * (p.ny * (p.no * p.na))) % p.n0 = q1 at t1 ⊢
  generalize k / (p.ny * (p.no * p.na)) % p.nx = q2 at t2 ⊢
  generalize k / (p.no * p.na) % p.ny = q3 at t3 ⊢
  generalize k / p.na % p.no = q4 at t4 ⊢
  generalize k % p.na = q5 at t5 ⊢
  clear hM hk
  rw [inI_in (by omega), inI_in (by omega), inI_in (by omega), inI_in (by omega), inI_in (by omega), inI_in (by omega)]
  rfl
theorem states_has (hv : p.Valid) {s : St} (h : s ∈ p.states) : p.hasB s = true := by
  obtain ⟨k, hk, rfl⟩ := List.mem_map.1 h
  exact stAt_has hv (List.mem_range.1 hk)
def Pl.idx (p : Pl) (s : St) : Nat := ((((s.level.toNat * p.n0 + s.position.toNat) * p.nx + s.p0.toNat) * p.ny + s.p1.toNat) * p.no + s.order.toNat) * p.na + s.age.toNat
theorem div_step {q n r : Nat} (hr : r < n) : (q * n + r) / n = q ∧ (q * n + r) % n = r := by
  constructor
  · rw [Nat.add_comm, Nat.add_mul_div_right _ _ (by omega), Nat.div_eq_of_lt hr, Nat.zero_add]
  · rw [Nat.add_comm, Nat.add_mul_mod_self_right, Nat.mod_eq_of_lt hr]
theorem idx_spec (hv : p.Valid) {s : St} (h : p.hasB s = true) : p.idx s < p.count ∧ p.stAt (p.idx s) = s := by
  obtain ⟨m1, m2⟩ := hv.maxes
  simp only [Pl.hasB, Bool.and_eq_true, inI, decide_eq_true_eq, ← m1, ← m2] at h
  obtain ⟨l0, l1, l2, l3, l4, l5⟩ := h
  have h1 := hv.positions
  have h2 := hv.top
  have h3 := hv.orders
  have h4 := hv.age
  have e0 : (p.n0 : Int) = p.positions + 1 := by unfold Pl.n0; omega
  have e1 : (p.no : Int) = p.orders + 1 := by unfold Pl.no; omega
  have e2 : (p.na : Int) = p.age + 1 := by unfold Pl.na; omega
  have b0 : s.level.toNat < (p.top + 1).toNat := by omega
  have b1 : s.position.toNat < p.n0 := by omega
  have b2 : s.p0.toNat < p.nx := by omega
  have b3 : s.p1.toNat < p.ny := by omega
  have b4 : s.order.toNat < p.no := by omega
  have b5 : s.age.toNat < p.na := by omega
  obtain ⟨d5, r5⟩ := div_step (q := (((s.level.toNat * p.n0 + s.position.toNat) * p.nx + s.p0.toNat) * p.ny + s.p1.toNat) * p.no + s.order.toNat) b5
  obtain ⟨d4, r4⟩ := div_step (q := ((s.level.toNat * p.n0 + s.position.toNat) * p.nx + s.p0.toNat) * p.ny + s.p1.toNat) b4
  obtain ⟨d3, r3⟩ := div_step (q := (s.level.toNat * p.n0 + s.position.toNat) * p.nx + s.p0.toNat) b3
  obtain ⟨d2, r2⟩ := div_step (q := s.level.toNat * p.n0 + s.position.toNat) b2
  obtain ⟨d1, r1⟩ := div_step (q := s.level.toNat) b1
  have q5 : p.idx s / p.na = (((s.level.toNat * p.n0 + s.position.toNat) * p.nx + s.p0.toNat) * p.ny + s.p1.toNat) * p.no + s.order.toNat := d5
  have q4 : p.idx s / (p.no * p.na) = ((s.level.toNat * p.n0 + s.position.toNat) * p.nx + s.p0.toNat) * p.ny + s.p1.toNat := by rw [Nat.mul_comm p.no, ← Nat.div_div_eq_div_mul, q5, d4]
  have q3 : p.idx s / (p.ny * (p.no * p.na)) = (s.level.toNat * p.n0 + s.position.toNat) * p.nx + s.p0.toNat := by rw [Nat.mul_comm p.ny, ← Nat.div_div_eq_div_mul, q4, d3]
  have q2 : p.idx s / (p.nx * (p.ny * (p.no * p.na))) = s.level.toNat * p.n0 + s.position.toNat := by rw [Nat.mul_comm p.nx, ← Nat.div_div_eq_div_mul, q3, d2]
  have q1 : p.idx s / (p.n0 * (p.nx * (p.ny * (p.no * p.na)))) = s.level.toNat := by rw [Nat.mul_comm p.n0, ← Nat.div_div_eq_div_mul, q2, d1]
  constructor
  · obtain ⟨a, b, c, d, e⟩ := hv.ns
    have hM : 0 < p.n0 * (p.nx * (p.ny * (p.no * p.na))) := Nat.mul_pos a (Nat.mul_pos b (Nat.mul_pos c (Nat.mul_pos d e)))
    exact (digits hM).1 (by rw [q1]; exact b0)
  · unfold Pl.stAt
    rw [q1, q2, q3, q4, q5, r1, r2, r3, r4]
    have r5' : p.idx s % p.na = s.age.toNat := r5
    rw [r5']
    obtain ⟨x0, x1, x2, x3, x4, x5⟩ := s
    dsimp only at l0 l1 l2 l3 l4 l5 ⊢
    congr 1 <;> omega
theorem states_mem (hv : p.Valid) {s : St} : s ∈ p.states ↔ p.hasB s = true :=
  ⟨states_has hv, fun h => List.mem_map.2 ⟨p.idx s, List.mem_range.2 (idx_spec hv h).1, (idx_spec hv h).2⟩⟩
theorem shocks_mem (hv : p.Valid) {x : Sh} : x ∈ p.shocks ↔ chosenB p x = true := by
  have h2 := hv.feed
  have h3 := hv.orders
  have em : (p.nm : Int) = p.orders + 2 := by unfold Pl.nm; omega
  have hm : 0 < p.nm := by omega
  constructor
  · intro h
    obtain ⟨k, hk, rfl⟩ := List.mem_map.1 h
    have hk := List.mem_range.1 hk
    have t0 := (digits hm).2 hk
    have t1 := Nat.mod_lt k hm
    rw [chosenB]
    unfold Pl.shAt
    dsimp only
    generalize k / p.nm = q0 at t0 ⊢
    generalize k % p.nm = q1 at t1 ⊢
    rw [inI_in (by omega), inI_in (by omega)]
    rfl
  · intro h
    simp only [chosenB, Bool.and_eq_true, inI, decide_eq_true_eq] at h
    obtain ⟨d1, r1⟩ := div_step (q := x.feed.toNat) (n := p.nm) (r := (x.msg + 1).toNat) (by omega)
    refine List.mem_map.2 ⟨x.feed.toNat * p.nm + (x.msg + 1).toNat, List.mem_range.2 ((digits hm).1 (by rw [d1]; omega)), ?_⟩
    unfold Pl.shAt
    rw [d1, r1]
    obtain ⟨f, m⟩ := x
    dsimp only at h ⊢
    congr 1 <;> omega
end
structure Cert (p : Pl) (c : List Ln) (b : List Iq) : Prop where
  begin : inB b p.beginT.1 = true
  safe : ∀ s ∈ p.states, inB b s = true → p.safeB s = true
  stay : ∀ s ∈ p.states, inB b s = true → ∀ x ∈ p.shocks, inB b (nextT p c s x).1 = true
theorem flaw_none {p : Pl} {c : List Ln} {b : List Iq} {s : St} : flawAt p c b s = none ↔ (inB b s = true → p.safeB s = true ∧ ∀ x ∈ p.shocks, inB b (nextT p c s x).1 = true) := by
  unfold flawAt
  by_cases h1 : inB b s = true
  · rw [if_pos h1]
    by_cases h2 : p.safeB s = true
    · rw [if_pos h2]
      simp only [Option.map_eq_none_iff, List.find?_eq_none]
      simp [h1, h2]
    · rw [if_neg h2]
      simp [h1, h2]
  · rw [if_neg h1]
    simp [h1]
theorem cert_iff {p : Pl} {c : List Ln} {b : List Iq} (ha : askT p c = 0) (hb : barT b = 0) : (certT p c b).1 = true ↔ Cert p c b := by
  unfold certT
  rw [if_pos ha, if_pos hb]
  by_cases h1 : inB b p.beginT.1 = true
  · rw [if_pos h1]
    cases hf : p.states.findSome? (flawAt p c b) with
    | none =>
      have h := List.findSome?_eq_none_iff.1 hf
      constructor
      · intro _
        exact ⟨h1, fun s hs hi => ((flaw_none.1 (h s hs)) hi).1, fun s hs hi => ((flaw_none.1 (h s hs)) hi).2⟩
      · intro _; rfl
    | some f =>
      constructor
      · intro h; cases h
      · intro hC
        obtain ⟨s, hs, hfs⟩ := List.exists_of_findSome?_eq_some hf
        have : flawAt p c b s = none := flaw_none.2 fun hi => ⟨hC.safe s hs hi, hC.stay s hs hi⟩
        rw [this] at hfs
        cases hfs
  · rw [if_neg h1]
    constructor
    · intro h; cases h
    · intro hC; exact absurd hC.begin h1
theorem cert_err (p : Pl) (c : List Ln) (b : List Iq) : (certT p c b).2.2 = if askT p c = 0 then barT b else askT p c := by
  unfold certT
  split
  · split
    · rename_i hb
      split
      · split <;> exact hb.symm
      · exact hb.symm
    · rfl
  · rfl
theorem cert_err0 {p : Pl} {c : List Ln} {b : List Iq} : (certT p c b).2.2 = 0 ↔ askT p c = 0 ∧ barT b = 0 := by
  rw [cert_err]
  by_cases h : askT p c = 0
  · rw [if_pos h]; exact ⟨fun h2 => ⟨h, h2⟩, fun h2 => h2.2⟩
  · rw [if_neg h]; exact ⟨fun h2 => absurd h2 h, fun h2 => absurd h2.1 h⟩
end Go.Proofs.YtmbifmmkccghfaaGreat
namespace Go.Proofs.YtmbifmmkccghfaaGreat
open Go.RowKit
def Pl.fed (p : Pl) (f : Int) : Pl := ⟨p.top, p.bank, p.siphon, p.start, p.positions, p.rate, p.step, p.pass, f, p.pipe, p.orders, p.age⟩
theorem ask_zero {p : Pl} {c : List Ln} (h : askT p c = 0) : p.checkT = 0 ∧ gateT c = 0 := by
  unfold askT at h
  split at h
  · exact ⟨by assumption, h⟩
  · rename_i h2; exact absurd h h2
structure Said (p : Pl) (c : List Ln) (b : List Iq) (f : Fw) : Prop where
  is : (f.kind = 1 ∧ inB b f.st = false ∧ f.st = p.beginT.1 ∧ f.sh = Sh.zero) ∨ (f.kind = 2 ∧ p.hasB f.st = true ∧ inB b f.st = true ∧ p.safeB f.st = false ∧ f.sh = Sh.zero) ∨
    (f.kind = 3 ∧ p.hasB f.st = true ∧ inB b f.st = true ∧ p.safeB f.st = true ∧ chosenB p f.sh = true ∧ inB b (nextT p c f.st f.sh).1 = false)
end Go.Proofs.YtmbifmmkccghfaaGreat
namespace Go.Proofs.YtmbifmmkccghfaaGreat
open Go.RowKit
def IntsAt (w : World) (B : Nat) (v : Value) (l : List Int) : Prop :=
  ∃ g off c, v = .slice (some ⟨g, off, none⟩) l.length c ∧ l.length ≤ maxLen ∧ g < B ∧ ∀ k (hk : k < l.length), w.cell? ⟨g, off + k, none⟩ = some (.int .i64 l[k])
def smB (n : Int) : Bool := inI n (-1048576) 1048576
theorem bTake {α : Type} (l : List α) (f : α → Bool) {k : Nat} (hk : k < l.length) : (l.take (k + 1)).all f = ((l.take k).all f && f l[k]) := by
  rw [List.take_succ_eq_append_getElem hk, List.all_append]
  simp
theorem bBad {α : Type} {l : List α} {f : α → Bool} {k : Nat} (hk : k < l.length) (h : f l[k] = false) : l.all f = false := by
  rw [List.all_eq_false]
  exact ⟨l[k], List.getElem_mem hk, by simp [h]⟩
theorem bRight1_any (n : Int) (w : World) : Calls Tryz.prog 62 #[.int .i64 n] w fun e w' => e = .returned (.bool (!smB n)) ∧ w = w' := by
  by_cases h1 : n < -1048576
  · have _hd : decide (n < -1048576) = true := decide_eq_true h1
    have hs : (!smB n) = true := by unfold smB inI; simp; omega
    rw [hs]
    go_enter Tryz.func62, Tryz.ntmps62
    go_wp2
    go_ret
    refine ⟨?_, rfl⟩
    first | rfl | (simp; done)
  · have _hd : decide (n < -1048576) = false := decide_eq_false h1
    have hs : (!smB n) = decide (1048576 < n) := by unfold smB inI; rw [Bool.eq_iff_iff]; simp; omega
    rw [hs]
    go_enter Tryz.func62, Tryz.ntmps62
    go_wp2
    go_ret
    refine ⟨?_, rfl⟩
    first | rfl | (simp; done)
theorem bIx_any (q : List Int) (v : Value) (w : World) (hQ : IntsAt w w.heap.size v q) :
    Calls Tryz.prog 77 #[v, .func (.func 62) #[] #[]] w fun e w' => ∃ z : Int, e = .returned (.int .i64 z) ∧ Hid (((!q.all smB) = true ∧ 0 ≤ z) ∨ ((!q.all smB) = false ∧ z < 0)) ∧ w = w' := by
  obtain ⟨g, off, c, rfl, hm, hg, hc⟩ := hQ
  unfold maxLen at hm
  obtain ⟨m, hnn⟩ : ∃ m, q.length = m := ⟨_, rfl⟩
  rw [hnn] at hm ⊢
  have HN := Lib.hid hnn
  have HC := Lib.hid hc
  clear hnn hc
  go_enter Tryz.func77, Tryz.ntmps77
  go_wp2_with fail
  go_loopw [8] (fun i wr => ∃ j : Nat, j ≤ m ∧ i = .int .i64 j ∧ wr = w ∧ Hid ((q.take j).all smB = true)) (fun i _ => m - (intOf i).toNat)
  case atStart => exact ⟨0, by omega, rfl, rfl, rfl⟩
  case round =>
    obtain ⟨j, hj, rfl, rfl, hall⟩ := hrel
    by_cases hlt : j < m
    · have hjl : j < q.length := by rw [HN.out]; exact hlt
      have q0 := HC.out j hjl
      have htk := bTake q smB hjl
      have hbad := bBad (f := smB) hjl
      obtain ⟨y, hy⟩ : ∃ y, q[j] = y := ⟨_, rfl⟩
      rw [hy] at q0 htk hbad
      rw [hall.out, Bool.true_and] at htk
      have htk := Lib.hid htk
      have hbad := Lib.hid hbad
      clear hy
      go_wp2_with fail
      refine (bRight1_any y _).mono ?_
      rintro e w1 ⟨rfl, rfl⟩
      rcases hh : smB y with _ | _
      · have hF := Lib.hid (hbad.out hh)
        go_wp2
        go_ret
        exact ⟨_, rfl, .inl ⟨by rw [hF.out]; rfl, by omega⟩, rfl⟩
      · go_wp2
        refine ⟨⟨j + 1, by omega, by go_num, by first | rfl | trivial, ?_⟩, by simp [intOf]; omega⟩
        rw [Hid, htk.out]
        exact hh
    · obtain rfl : j = m := by omega
      have hF : Hid (q.all smB = true) := by
        have := hall.out
        rw [← HN.out, List.take_length] at this
        exact this
      go_wp2
      go_ret
      exact ⟨_, rfl, .inr ⟨by rw [hF.out]; rfl, by omega⟩, rfl⟩
theorem bCf_any (q : List Int) (v : Value) (w : World) (t : Bool) (ht : Hid ((!q.all smB) = t)) (hQ : IntsAt w w.heap.size v q) :
    Calls Tryz.prog 61 #[v, .func (.func 62) #[] #[]] w fun e w' => e = .returned (.bool t) ∧ w = w' := by
  have hI := bIx_any q v w hQ
  rw [ht.out] at hI
  have HI := Lib.hid hI
  clear hI ht hQ
  go_enter Tryz.func61, Tryz.ntmps61
  go_wp2_with fail
  refine HI.out.mono ?_
  rintro e w1 ⟨z, rfl, hz, rfl⟩
  rcases hz.out with ⟨rfl, h0⟩ | ⟨rfl, h0⟩
  · have _hd : decide (0 ≤ z) = true := decide_eq_true h0
    go_wp2
    go_ret
    exact ⟨rfl, rfl⟩
  · have _hd : decide (0 ≤ z) = false := decide_eq_false (by omega)
    go_wp2
    go_ret
    exact ⟨rfl, rfl⟩
theorem bRight_any (q : List Int) (v : Value) (w : World) (t : Bool) (ht : Hid (q.all smB = t)) (hQ : IntsAt w w.heap.size v q) :
    Calls Tryz.prog 38 #[v] w fun e w' => e = .returned (.bool t) ∧ w = w' := by
  have H := Lib.hid (bCf_any q v w (!t) (by rw [Hid, ht.out]) hQ)
  clear ht hQ
  go_enter Tryz.func38, Tryz.ntmps38
  go_wp2_with fail
  refine H.out.mono ?_
  rintro e w1 ⟨rfl, rfl⟩
  go_wp2
  go_ret
  exact ⟨by simp, rfl⟩
end Go.Proofs.YtmbifmmkccghfaaGreat
namespace Go.Proofs.YtmbifmmkccghfaaGreat
open Go.RowKit
def PairsAt (w : World) (B : Nat) (v : Value) (l : List (Int × Int)) : Prop :=
  ∃ g off c, v = .slice (some ⟨g, off, none⟩) l.length c ∧ l.length ≤ maxLen ∧ g < B ∧ ∀ k (hk : k < l.length), w.cell? ⟨g, off + k * 2, none⟩ = some (.int .i64 (l[k]).1) ∧ w.cell? ⟨g, off + k * 2 + 1, none⟩ = some (.int .i64 (l[k]).2)
def prodT (l : List (Int × Int)) : Int := (l.map fun x => x.1 * x.2).sum
theorem prodT_take (l : List (Int × Int)) {k : Nat} (hk : k < l.length) : prodT (l.take (k + 1)) = prodT (l.take k) + (l[k]).1 * (l[k]).2 := by
  unfold prodT
  rw [List.take_succ_eq_append_getElem hk, List.map_append, List.sum_append]
  simp
theorem bProduct_any (q : List (Int × Int)) (v : Value) (w : World) (t : Int) (ht : Hid (prodT q = t)) (hn5 : q.length ≤ 5) (hQ : PairsAt w w.heap.size v q)
    (hbd : Hid (∀ x ∈ q, (-1048576 ≤ x.1 ∧ x.1 ≤ 1048576) ∧ -2097152 ≤ x.2 ∧ x.2 ≤ 2097152)) :
    Calls Tryz.prog 48 #[v] w fun e w' => e = .returned (.int .i64 t) ∧ Below w.heap.size w w' := by
  obtain ⟨g, off, c, rfl, hm, hg, hc⟩ := hQ
  unfold maxLen at hm
  obtain ⟨m, hnn⟩ : ∃ m, q.length = m := ⟨_, rfl⟩
  rw [hnn] at hm hn5 ⊢
  have HN := Lib.hid hnn
  have HC := Lib.hid hc
  clear hnn hc
  go_enter Tryz.func48, Tryz.ntmps48
  go_wp2_with fail
  go_loopw [2, 7] (fun s i wr => ∃ (j : Nat) (a : Int), j ≤ m ∧ i = .int .i64 j ∧ s = .int .i64 a ∧ Hid (prodT (q.take j) = a) ∧ (-(j * 2199023255552 : Int) ≤ a ∧ a ≤ j * 2199023255552) ∧ Below w.heap.size w wr) (fun _ i _ => m - (intOf i).toNat)
  case atStart => exact ⟨0, 0, by omega, rfl, rfl, rfl, by omega, Below.refl _ _⟩
  case round =>
    obtain ⟨j, a, hj, rfl, rfl, hsum, hab, hb⟩ := hrel
    by_cases hlt : j < m
    · have hjl : j < q.length := by rw [HN.out]; exact hlt
      obtain ⟨q0, q1⟩ := HC.out j hjl
      have q0 := (hb.cell hg).trans q0
      have q1 := (hb.cell hg).trans q1
      have htk := prodT_take q hjl
      have hx := hbd.out q[j] (List.getElem_mem hjl)
      obtain ⟨y, hy⟩ : ∃ y, q[j] = y := ⟨_, rfl⟩
      rw [hy] at q0 q1 htk hx
      obtain ⟨y0, y1⟩ := y
      dsimp only at q0 q1 htk hx
      rw [hsum.out] at htk
      have htk := Lib.hid htk
      have hp := mul_bd (A := 1048576) (B := 2097152) hx.1 hx.2
      obtain ⟨p, hpe⟩ : ∃ p, y0 * y1 = p := ⟨_, rfl⟩
      rw [hpe] at hp htk
      have hP := Lib.hid hpe
      clear hy hpe hx
      go_wp2
      have e1 : wrap64 (y0 * y1) = p := by rw [hP.out]; unfold wrap64; omega
      have e2 : wrap64 (a + p) = a + p := by unfold wrap64; omega
      refine ⟨⟨j + 1, a + p, by omega, by go_num, by rw [e1, e2], htk.out, by omega, hb.alloc (by have := hb.size; omega) _⟩, by simp [intOf]; omega⟩
    · obtain rfl : j = m := by omega
      have hF : a = t := by
        have := hsum.out
        rw [← HN.out, List.take_length] at this
        rw [← this]
        exact ht.out
      go_wp2
      go_ret
      subst hF
      exact ⟨rfl, hb⟩
end Go.Proofs.YtmbifmmkccghfaaGreat
namespace Go.Proofs.YtmbifmmkccghfaaGreat
open Go.RowKit
def inP (s : St) (x : Iq) : Bool := decide (x.sum s ≤ x.most)
theorem inB_inP (b : List Iq) (s : St) : inB b s = b.all (inP s) := rfl
theorem sum_prodT (x : Iq) (s : St) : prodT [(x.level, s.level), (x.position, s.position), (x.pipe, s.p0 + s.p1), (x.order, s.order), (x.age, s.age)] = x.sum s := by
  simp only [prodT, Iq.sum, List.map_cons, List.map_nil, List.sum_cons, List.sum_nil]
  omega
theorem bIn_any (b : List Iq) (s : St) (v : Value) (w : World) (t : Bool) (ht : Hid (inB b s = t)) (hQ : BarAt w w.heap.size v b)
    (hok : Hid (∀ x ∈ b, x.okB = true)) (hs : Hid (s.numsB = true)) :
    Calls Tryz.prog 22 #[v, s.v] w fun e w' => e = .returned (.bool t) ∧ Below w.heap.size w w' := by
  obtain ⟨A, c, rfl, hm⟩ := hQ.form
  unfold maxLen at hm
  obtain ⟨m, hnn⟩ : ∃ m, b.length = m := ⟨_, rfl⟩
  rw [hnn] at hm hQ ⊢
  have HN := Lib.hid hnn
  have HQ := Lib.hid hQ
  clear hnn hQ
  obtain ⟨s0, s1, s2, s3, s4, s5⟩ := s
  go_enter Tryz.func22, Tryz.ntmps22
  go_wp2_with fail
  have Y := Box.new w [.int .i64 s0, .int .i64 s1, .int .i64 s2, .int .i64 s3, .int .i64 s4, .int .i64 s5] 33
  have hb0 := (Below.refl w.heap.size w).alloc (Nat.le_refl _) (.cells #[.int .i64 s0, .int .i64 s1, .int .i64 s2, .int .i64 s3, .int .i64 s4, .int .i64 s5] 33)
  generalize w.alloc (.cells #[.int .i64 s0, .int .i64 s1, .int .i64 s2, .int .i64 s3, .int .i64 s4, .int .i64 s5] 33) = W at Y hb0 ⊢
  go_loopw [10] (fun i wr => ∃ j : Nat, j ≤ m ∧ i = .int .i64 j ∧ Below W.heap.size W wr ∧ Hid ((b.take j).all (inP ⟨s0, s1, s2, s3, s4, s5⟩) = true)) (fun i _ => m - (intOf i).toNat)
  case atStart => exact ⟨0, by omega, rfl, Below.refl _ _, rfl⟩
  case round =>
    obtain ⟨j, hj, rfl, hb, hall⟩ := hrel
    have hbw := hb0.trans (hb.mono hb0.size)
    by_cases hlt : j < m
    · have hjl : j < b.length := by rw [HN.out]; exact hlt
      have HQ' := HQ.out
      rw [← HN.out] at HQ'
      obtain ⟨g, off, rfl, hg, c0, c1, c2, c3, c4, c5⟩ := HQ'.ineq hjl
      have c0 := (hbw.cell hg).trans c0
      have c1 := (hbw.cell hg).trans c1
      have c2 := (hbw.cell hg).trans c2
      have c3 := (hbw.cell hg).trans c3
      have c4 := (hbw.cell hg).trans c4
      have c5 := (hbw.cell hg).trans c5
      have htk := bTake b (inP ⟨s0, s1, s2, s3, s4, s5⟩) hjl
      have hbad := bBad (f := inP ⟨s0, s1, s2, s3, s4, s5⟩) hjl
      have hx := hok.out b[j] (List.getElem_mem hjl)
      obtain ⟨y, hy⟩ : ∃ y, b[j] = y := ⟨_, rfl⟩
      rw [hy] at c0 c1 c2 c3 c4 c5 htk hbad hx
      obtain ⟨y0, y1, y2, y3, y4, y5⟩ := y
      dsimp only at c0 c1 c2 c3 c4 c5
      rw [hall.out, Bool.true_and] at htk
      have htk := Lib.hid htk
      have hbad := Lib.hid hbad
      have hx := Lib.hid hx
      have hb2 := hb.alloc (by have := hb.size; omega) (.cells #[.int .i64 y0, .int .i64 y1, .int .i64 y2, .int .i64 y3, .int .i64 y4, .int .i64 y5] 120)
      have a0 : (wr.alloc (.cells #[.int .i64 y0, .int .i64 y1, .int .i64 y2, .int .i64 y3, .int .i64 y4, .int .i64 y5] 120)).cell? ⟨w.heap.size, 0, none⟩ = some (.int .i64 s0) := (hb2.cell Y.lt).trans (Y.cell 0)
      have a1 : (wr.alloc (.cells #[.int .i64 y0, .int .i64 y1, .int .i64 y2, .int .i64 y3, .int .i64 y4, .int .i64 y5] 120)).cell? ⟨w.heap.size, 1, none⟩ = some (.int .i64 s1) := (hb2.cell Y.lt).trans (Y.cell 1)
      have a2 : (wr.alloc (.cells #[.int .i64 y0, .int .i64 y1, .int .i64 y2, .int .i64 y3, .int .i64 y4, .int .i64 y5] 120)).cell? ⟨w.heap.size, 2, none⟩ = some (.int .i64 s2) := (hb2.cell Y.lt).trans (Y.cell 2)
      have a3 : (wr.alloc (.cells #[.int .i64 y0, .int .i64 y1, .int .i64 y2, .int .i64 y3, .int .i64 y4, .int .i64 y5] 120)).cell? ⟨w.heap.size, 3, none⟩ = some (.int .i64 s3) := (hb2.cell Y.lt).trans (Y.cell 3)
      have a4 : (wr.alloc (.cells #[.int .i64 y0, .int .i64 y1, .int .i64 y2, .int .i64 y3, .int .i64 y4, .int .i64 y5] 120)).cell? ⟨w.heap.size, 4, none⟩ = some (.int .i64 s4) := (hb2.cell Y.lt).trans (Y.cell 4)
      have a5 : (wr.alloc (.cells #[.int .i64 y0, .int .i64 y1, .int .i64 y2, .int .i64 y3, .int .i64 y4, .int .i64 y5] 120)).cell? ⟨w.heap.size, 5, none⟩ = some (.int .i64 s5) := (hb2.cell Y.lt).trans (Y.cell 5)
      clear hy HQ'
      go_wp2_with fail
      have hx' := hx.out
      have hs' := hs.out
      simp only [Iq.okB, St.numsB, inI, Bool.and_eq_true, decide_eq_true_eq] at hx' hs'
      have he : wrap64 (s2 + s3) = s2 + s3 := by unfold wrap64; omega
      rw [he]
      have hpb : Hid (∀ x ∈ [(y0, s0), (y1, s1), (y2, s2 + s3), (y3, s4), (y4, s5)], (-1048576 ≤ x.1 ∧ x.1 ≤ 1048576) ∧ -2097152 ≤ x.2 ∧ x.2 ≤ 2097152) := by
        intro x hxm
        simp only [List.mem_cons, List.not_mem_nil, or_false] at hxm
        rcases hxm with rfl | rfl | rfl | rfl | rfl <;> (dsimp only; omega)
      have X := Box.new wr [.int .i64 y0, .int .i64 y1, .int .i64 y2, .int .i64 y3, .int .i64 y4, .int .i64 y5] 120
      have hsz : wr.heap.size + 1 = (wr.alloc (.cells #[.int .i64 y0, .int .i64 y1, .int .i64 y2, .int .i64 y3, .int .i64 y4, .int .i64 y5] 120)).heap.size := by
        show _ = (wr.heap.push _).size
        simp
      generalize wr.alloc (.cells #[.int .i64 y0, .int .i64 y1, .int .i64 y2, .int .i64 y3, .int .i64 y4, .int .i64 y5] 120) = W2 at hb2 X hsz a0 a1 a2 a3 a4 a5 ⊢
      have Z := Box.newAt (w := W2) [.int .i64 y0, .int .i64 s0, .int .i64 y1, .int .i64 s1, .int .i64 y2, .int .i64 (s2 + s3), .int .i64 y3, .int .i64 s4, .int .i64 y4, .int .i64 s5] 31 hsz
      have hb3 := (Below.refl W2.heap.size W2).alloc (Nat.le_refl _) (.cells #[.int .i64 y0, .int .i64 s0, .int .i64 y1, .int .i64 s1, .int .i64 y2, .int .i64 (s2 + s3), .int .i64 y3, .int .i64 s4, .int .i64 y4, .int .i64 s5] 31)
      refine (bProduct_any [(y0, s0), (y1, s1), (y2, s2 + s3), (y3, s4), (y4, s5)] _ _ _ (sum_prodT ⟨y0, y1, y2, y3, y4, y5⟩ ⟨s0, s1, s2, s3, s4, s5⟩) (by simp) ⟨wr.heap.size + 1, 0, 5, rfl, by simp [maxLen], Z.lt, ?_⟩ hpb).mono ?_
      · intro k hk
        have hk5 : k < 5 := hk
        rcases (show k = 0 ∨ k = 1 ∨ k = 2 ∨ k = 3 ∨ k = 4 by omega) with rfl | rfl | rfl | rfl | rfl
        · exact ⟨Z.cell 0, Z.cell 1⟩
        · exact ⟨Z.cell 2, Z.cell 3⟩
        · exact ⟨Z.cell 4, Z.cell 5⟩
        · exact ⟨Z.cell 6, Z.cell 7⟩
        · exact ⟨Z.cell 8, Z.cell 9⟩
      rintro e w1 ⟨rfl, hb4⟩
      have hb5 := hb3.trans (hb4.mono hb3.size)
      have hb6 := hb2.trans (hb5.mono hb2.size)
      have x5 : w1.cell? ⟨wr.heap.size, 5, none⟩ = some (.int .i64 y5) := (hb5.cell X.lt).trans (X.cell 5)
      rcases hh : inP ⟨s0, s1, s2, s3, s4, s5⟩ ⟨y0, y1, y2, y3, y4, y5⟩ with _ | _
      · have hF : t = false := by
          rw [← ht.out, inB_inP]
          exact hbad.out hh
        have hd := of_decide_eq_false hh
        generalize Iq.sum ⟨y0, y1, y2, y3, y4, y5⟩ ⟨s0, s1, s2, s3, s4, s5⟩ = sm at hd ⊢
        have _hd : decide (y5 < sm) = true := decide_eq_true (by dsimp only at hd; omega)
        go_wp2
        go_ret
        subst hF
        exact ⟨rfl, hb0.trans (hb6.mono hb0.size)⟩
      · have hd := of_decide_eq_true hh
        generalize Iq.sum ⟨y0, y1, y2, y3, y4, y5⟩ ⟨s0, s1, s2, s3, s4, s5⟩ = sm at hd ⊢
        have _hd : decide (y5 < sm) = false := decide_eq_false (by dsimp only at hd; omega)
        go_wp2
        refine ⟨⟨j + 1, by omega, by go_num, hb6, ?_⟩, by simp [intOf]; omega⟩
        rw [Hid, htk.out]
        exact hh
    · obtain rfl : j = m := by omega
      have hF : t = true := by
        have := hall.out
        rw [← HN.out, List.take_length] at this
        rw [← ht.out, inB_inP]
        exact this
      go_wp2
      go_ret
      subst hF
      exact ⟨rfl, hbw⟩
end Go.Proofs.YtmbifmmkccghfaaGreat
