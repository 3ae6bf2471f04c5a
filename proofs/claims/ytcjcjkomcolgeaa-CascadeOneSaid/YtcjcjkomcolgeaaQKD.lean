/- Regions that draw their order and hold operations that make memory beside many that only read: the readers may be taken first. No condition. -/
import Derived.Test.YtcjcjkomcolgeaaQK
import Derived.Deep.Quiet
import Derived.RangeFuncNested
import Derived.RangeFuncBound
import Derived.RangeFuncCalls
import Derived.RangeFuncLeaves
import Derived.RangeFuncBox
import Derived.Shelf.Abstract
import Derived.Shelf.RegionOpen
import Derived.OwnWalkIn
import Derived.TacticsInMore
import Derived.LoopNIn
import Derived.LoopIn
import Derived.Deep.AppendLies
import Derived.Laws.AppendOwnNone
import Derived.ArgAppend
import Derived.OwnWalk
import Derived.Maps.AppendAt
set_option linter.unusedVariables false
set_option linter.unusedSimpArgs false
namespace Go.Proofs.Ytcjcjkomcolgeaa
open Go.RowKit

def Nrm (N : Act → World → Prop) : Exit → Act → World → Prop
  | .normal, a, w => N a w
  | _, _, _ => False
theorem nrm_out (N : Act → World → Prop) : ¬ LetsOut (Nrm N) := fun ⟨_, _, h⟩ => h

section
variable {P : Program} {ops : Array Oper} {md : Region.Mode} {N : Act → World → Prop} {C : World → Prop}

theorem wpOp_go {Q : Exit → Act → World → Prop} {j : Nat} {o : Oper} (hj : ops[j]? = some o) {K K' : Act → World → Prop} {a b : Act} {w : World} (hr : execOp b.eval o = execOp a.eval o)
    (hw : Region.wanted o (yielded ops b.tmps) = Region.wanted o (yielded ops a.tmps)) (hd : b.defers = a.defers) (h : wpOp P ops (Nrm N) j K b w)
    (hK : ∀ u D w', K (Act.put { b with defers := D } o.dst u) w' → K' (Act.put { a with defers := D } o.dst u) w') : wpOp P ops Q j K' a w := by
  have H : ∀ u w', K (b.put o.dst u) w' → K' (a.put o.dst u) w' := fun u w' hk => by
    have := hK u a.defers w'
    rw [← hd] at this
    rw [hd] at this
    have e : ({ b with defers := a.defers } : Act) = b := by rw [← hd]
    rw [e] at this
    exact this hk
  unfold wpOp at h ⊢
  simp only [hj, hw] at h ⊢
  split
  · rename_i hw
    simp only [hw, if_true] at h
    rcases h with h | h
    · refine .inl ?_
      unfold Oper.wp at h ⊢
      rw [hr] at h
      generalize (execOp a.eval o).run P w = r at h ⊢
      rcases r with ⟨n, w'⟩ | ⟨x, w'⟩
      · have HD : ∀ d, K (Act.put { b with defers := d :: b.defers } o.dst undef) w' → K' (Act.put { a with defers := d :: a.defers } o.dst undef) w' := fun d hk => by
          rw [hd] at hk
          exact hK undef (d :: a.defers) w' hk
        cases n
        all_goals first
          | exact H _ _ h
          | exact False.elim h
          | exact HD _ h
          | (refine Calls.mono h fun e w'' he => ?_; cases e <;> first | exact H _ _ he | exact he.elim | exact (nrm_out N he).elim)
          | exact Rows.mono h fun u w'' he => H _ _ he
      · cases x <;> exact False.elim h
    · exact (nrm_out N h.2).elim
  · rename_i hw
    simp only [hw] at h
    exact H _ _ h

def anyC (P : Program) (md : Region.Mode) (ops : Array Oper) (N : Act → World → Prop) (C : World → Prop) : Nat → Array Bool → Act → World → Prop
  | 0, listed, a, w => C w ∧ Region.ready md ops listed = [] ∧ N a w
  | n + 1, listed, a, w => C w ∧ (Region.ready md ops listed = [] → N a w) ∧ ∀ i ∈ Region.ready md ops listed, wpOp P ops (Nrm N) i (anyC P md ops N C n (listed.setIfInBounds i true)) a w
theorem anyC_world : ∀ {n : Nat} {listed : Array Bool} {a : Act} {w : World}, anyC P md ops N C n listed a w → C w
  | 0, _, _, _, h => h.1
  | _ + 1, _, _, _, h => h.1
theorem anyC_any {Q : Exit → Act → World → Prop} (hN : ∀ a w, N a w → Q .normal a w) : ∀ {n : Nat} {listed : Array Bool} {a : Act} {w : World}, anyC P md ops N C n listed a w → wpAny P md ops Q n listed a w
  | 0, _, _, _, h => ⟨h.2.1, hN _ _ h.2.2⟩
  | n + 1, listed, a, w, h => ⟨fun h0 => hN _ _ (h.2.1 h0), fun i hi => by
      obtain ⟨_, o, ho, _⟩ := mem_ready.1 hi
      exact wpOp_go ho rfl rfl rfl (h.2.2 i hi) fun _ _ _ hk => anyC_any hN hk⟩

def YieldsC (P : Program) (ops : Array Oper) (C : World → Prop) (o : Oper) (v : Value) (a : Act) : Prop :=
  (Region.wanted o (yielded ops a.tmps) = true ∧ ∀ w, C w → (execOp a.eval o).run P w = .ok (.value v) w) ∨ (Region.wanted o (yielded ops a.tmps) = false ∧ v = undef)
theorem YieldsC.wpOp {Q : Exit → Act → World → Prop} {i : Nat} {o : Oper} {v : Value} {a : Act} {w : World} (hi : ops[i]? = some o) (h : YieldsC P ops C o v a) (hC : C w) {K : Act → World → Prop} (hK : K (a.put o.dst v) w) : wpOp P ops Q i K a w := by
  unfold Go.wpOp
  rcases h with ⟨h1, h2⟩ | ⟨h1, rfl⟩
  · simp only [hi, h1, if_true]
    exact .inl (by unfold Oper.wp; rw [h2 w hC]; exact hK)
  · simp only [hi, h1, Bool.false_eq_true, if_false]
    exact hK

theorem anyC_first {i : Nat} {oi : Oper} {v : Value} (hi : ops[i]? = some oi) (hsel : ∀ (j : Nat) (o : Oper) cs b, ops[j]? = some o → o.op ≠ .select cs b) :
    ∀ (n : Nat) (listed : Array Bool) (a : Act) (w : World),
      (∀ j oj, ops[j]? = some oj → j ≠ i → listed.getD j true = false → (∀ e ∈ oj.after, Region.binds md e = true → e.on ≠ i) → oi.apart ops oj = true) →
      i ∈ Region.ready md ops listed → YieldsC P ops C oi v a →
      anyC P md ops N C n (listed.setIfInBounds i true) (a.put oi.dst v) w → anyC P md ops N C (n + 1) listed a w
  | n, listed, a, w, hfree, hr, hy, H => by
    have hC := anyC_world H
    refine ⟨hC, fun h => (by rw [h] at hr; cases hr), fun j hj => ?_⟩
    by_cases hji : j = i
    · subst hji; exact hy.wpOp hi hC H
    · have hjr := ready_mono (i := i) hj hji
      match n, H with
      | 0, H =>
        rw [H.2.1] at hjr
        cases hjr
      | n + 1, H =>
        obtain ⟨hjun, oj, hoj, hall⟩ := mem_ready.1 hj
        have hiun := (mem_ready.1 hr).1
        have hnot : ∀ e ∈ oj.after, Region.binds md e = true → e.on ≠ i := fun e he hb heq => by
          have h1 := hall e he hb
          rw [heq] at h1
          rcases Nat.lt_or_ge i listed.size with h' | h'
          · simp [h'] at hiun h1; rw [hiun] at h1; cases h1
          · simp [Array.getElem?_eq_none h'] at h1
        obtain ⟨h1, h2, h3⟩ := Oper.apart_spec (hfree j oj hoj hji hjun hnot)
        refine wpOp_go hoj (execOp_put oj (fun cs b => hsel j oj cs b hoj) a oi.dst v h1) (wanted_put oj a oi.dst v h1) (by cases oi.dst <;> rfl) (H.2.2 j hjr) fun u D w' hk => ?_
        refine anyC_first (v := v) hi hsel n _ _ _ (fun k ok hk hki hun hno => hfree k ok hk hki ?_ hno) (ready_mono hr (Ne.symm hji)) ?_ ?_
        · by_cases hjk : j = k
          · subst hjk; exact hjun
          · rw [getD_set_ne true hjk] at hun; exact hun
        · have e1 : execOp (Act.put { a with defers := D } oj.dst u).eval oi = execOp a.eval oi := execOp_put oi (fun cs b => hsel i oi cs b hi) { a with defers := D } oj.dst u h3
          have e2 := wanted_put oi { a with defers := D } oj.dst u h3
          rcases hy with ⟨y1, y2⟩ | ⟨y1, y2⟩
          · exact .inl ⟨e2.trans y1, fun w hw => by rw [e1]; exact y2 w hw⟩
          · exact .inr ⟨e2.trans y1, y2⟩
        · rw [Array.setIfInBounds_comm _ _ hji]
          have e3 : ({ a.put oi.dst v with defers := D } : Act) = Act.put { a with defers := D } oi.dst v := by cases oi.dst <;> rfl
          rw [e3, Act.put_comm _ v u h2] at hk
          exact hk

def valOp : Op → Bool
  | .move _ => true
  | .assign _ => true
  | .load _ _ => true
  | .build _ _ => true
  | .binOp _ _ _ _ _ => true
  | .fieldAddr _ _ _ => true
  | .indexAddr _ _ _ => true
  | .slice _ _ _ _ _ => true
  | .convert _ _ _ => true
  | .unOp _ _ _ => true
  | .pick _ _ _ => true
  | .extract _ _ => true
  | _ => false
theorem value_only {s : Sem Value} {w w' : World} {n : Next} (h : (do pure (Next.value (← s)) : Sem Next).run P w = .ok n w') : ∃ u, n = .value u := by
  rw [Sem.run_bind] at h
  generalize s.run P w = r at h
  rcases r with ⟨x, w1⟩ | ⟨x, w1⟩
  · simp only [Result.andThen_ok, Sem.run_pure, Result.ok.injEq] at h
    exact ⟨x, h.1.symm⟩
  · cases h
theorem pick_only {s : Sem Bool} {x y : Value} {w w' : World} {n : Next} (h : (do pure (Next.value (if (← s) then x else y)) : Sem Next).run P w = .ok n w') : ∃ u, n = .value u := by
  rw [Sem.run_bind] at h
  generalize s.run P w = r at h
  rcases r with ⟨b, w1⟩ | ⟨b, w1⟩
  · simp only [Result.andThen_ok, Sem.run_pure, Result.ok.injEq] at h
    exact ⟨_, h.1.symm⟩
  · cases h
theorem valOp_value {o : Oper} (ho : valOp o.op = true) {ρ : Operand → Value} {w w' : World} {n : Next} (h : (execOp ρ o).run P w = .ok n w') : ∃ u, n = .value u := by
  obtain ⟨dst, op, type, pos, after, guard⟩ := o
  cases op <;> first | (cases ho; done) | exact value_only h | exact pick_only h | (simp only [execOp, Sem.run_pure, Result.ok.injEq] at h; exact ⟨_, h.1.symm⟩)
theorem yieldsC_of {o : Oper} (ho : valOp o.op = true) {a : Act} {v : Value} (hw : Region.wanted o (yielded ops a.tmps) = true) (h : ∀ w, C w → o.quietAt P a C w v) : YieldsC P ops C o v a := by
  refine .inl ⟨hw, fun w hC => ?_⟩
  have h1 := h w hC
  unfold Oper.quietAt at h1
  generalize hr : (execOp a.eval o).run P w = r at h1 ⊢
  rcases r with ⟨n, w'⟩ | ⟨x, w'⟩
  · obtain ⟨u, rfl⟩ := valOp_value ho hr
    obtain ⟨rfl, rfl⟩ := h1
    rfl
  · cases h1

def headsB (md : Region.Mode) (ops : Array Oper) : List Nat → Array Bool → Bool
  | [], _ => true
  | k :: ks, listed => (Region.ready md ops listed).contains k && (Region.free md ops listed k && ((match ops[k]? with | some o => valOp o.op | none => false) && headsB md ops ks (listed.setIfInBounds k true)))
def headsL : List Nat → Array Bool → Array Bool
  | [], listed => listed
  | k :: ks, listed => headsL ks (listed.setIfInBounds k true)
def headOps (ops : Array Oper) (ks : List Nat) : List Oper := ks.filterMap fun k => ops[k]?
theorem anyC_heads (hs : Region.noSelect ops = true) (n : Nat) (w : World) (hC : C w) : ∀ (ks : List Nat) (listed : Array Bool) (a : Act),
    headsB md ops ks listed = true → wpQuiet P ops C (fun a' => anyC P md ops N C n (headsL ks listed) a' w) (headOps ops ks) a → anyC P md ops N C (n + ks.length) listed a w
  | [], _, _, _, h => h
  | k :: ks, listed, a, hB, h => by
    cases h0 : ops[k]? with
    | none => simp [headsB, h0] at hB
    | some o =>
    simp only [headsB, Bool.and_eq_true, h0] at hB
    obtain ⟨hr, hf, hv, hB⟩ := hB
    rw [headOps, List.filterMap_cons, h0] at h
    unfold wpQuiet at h
    by_cases hw : Region.wanted o (yielded ops a.tmps) = true
    · rw [if_pos hw] at h
      obtain ⟨v, h1, h2⟩ := h
      exact anyC_first h0 (Region.noSelect_spec hs) (n + ks.length) listed a w (Region.free_spec h0 hf) (by simpa using hr) (yieldsC_of hv hw h1) (anyC_heads hs n w hC ks _ _ hB h2)
    · rw [if_neg hw] at h
      exact anyC_first h0 (Region.noSelect_spec hs) (n + ks.length) listed a w (Region.free_spec h0 hf) (by simpa using hr) (.inr ⟨by simpa using hw, rfl⟩) (anyC_heads hs n w hC ks _ _ hB h)
theorem anyC_step {n i : Nat} {o : Oper} {listed : Array Bool} {a : Act} {w : World} (hr : Region.ready md ops listed = [i]) (hi : ops[i]? = some o) (hw : Region.wanted o (yielded ops a.tmps) = true) (hC : C w)
    (h : ∀ K : Act → World → Prop, (∀ a' w', anyC P md ops N C n (listed.setIfInBounds i true) a' w' → K a' w') → Oper.wp P o a w K (Nrm N)) : anyC P md ops N C (n + 1) listed a w := by
  refine ⟨hC, fun h0 => (by rw [h0] at hr; cases hr), fun j hj => ?_⟩
  rw [hr] at hj
  obtain rfl : j = i := by simpa using hj
  unfold wpOp
  simp only [hi, hw, if_true]
  exact .inl (h _ fun _ _ hk => hk)
theorem anyC_call {n i : Nat} {o : Oper} {f : FuncId} {args : Array Value} {listed : Array Bool} {a : Act} {w : World} (hr : Region.ready md ops listed = [i]) (hi : ops[i]? = some o) (hw : Region.wanted o (yielded ops a.tmps) = true) (hC : C w)
    (hrun : (execOp a.eval o).run P w = .ok (.enter f args) w) (h : Calls P f args w fun e w' => ∃ v, e = .returned v ∧ anyC P md ops N C n (listed.setIfInBounds i true) (a.put o.dst v) w') : anyC P md ops N C (n + 1) listed a w :=
  anyC_step hr hi hw hC fun K hK => by
    unfold Oper.wp
    rw [hrun]
    exact Calls.mono h fun e w' ⟨v, he, hk⟩ => by subst he; exact hK _ _ hk
theorem anyC_val {n i : Nat} {o : Oper} {v : Value} {listed : Array Bool} {a : Act} {w w' : World} (hr : Region.ready md ops listed = [i]) (hi : ops[i]? = some o) (hw : Region.wanted o (yielded ops a.tmps) = true) (hC : C w)
    (hrun : (execOp a.eval o).run P w = .ok (.value v) w') (h : anyC P md ops N C n (listed.setIfInBounds i true) (a.put o.dst v) w') : anyC P md ops N C (n + 1) listed a w :=
  anyC_step hr hi hw hC fun K hK => by
    unfold Oper.wp
    rw [hrun]
    exact hK _ _ h
theorem anyC_done {listed : Array Bool} {a : Act} {w : World} (hr : Region.ready md ops listed = []) (hC : C w) (h : N a w) : anyC P md ops N C 0 listed a w := ⟨hC, hr, h⟩
end

theorem wp_region_heads {P : Program} {N : Act → World → Prop} {C : World → Prop} {Q : Exit → Act → World → Prop} {id : Nat} {a : Act} {w : World} {l : List Oper} (ks : List Nat) (hm : P.follows .mixedOrders = true)
    (hB : (Region.noSelect l.toArray && (decide (ks.length ≤ l.length) && headsB .any l.toArray ks (Array.replicate l.length false))) = true) (hC : C w.drew) (hN : ∀ a w, N a w → Q .normal a w)
    (h : wpQuiet P l.toArray C (fun a' => anyC P .any l.toArray N C (l.length - ks.length) (headsL ks (Array.replicate l.length false)) a' w.drew) (headOps l.toArray ks) a) : (Code.region id l.toArray true).wp P Q a w := by
  simp only [Bool.and_eq_true, decide_eq_true_eq] at hB
  obtain ⟨hs, hn, hB⟩ := hB
  refine wp_region_any hm (anyC_any (C := C) hN ?_)
  have := anyC_heads (P := P) (md := .any) (N := N) hs (l.length - ks.length) w.drew hC ks (Array.replicate l.length false) a hB h
  rw [show l.length - ks.length + ks.length = l.length by omega] at this
  rw [List.size_toArray]
  exact this

end Go.Proofs.Ytcjcjkomcolgeaa

/-
  Ranges over functions whose iterators keep cells of their own between the elements; plain and within a round. No condition.
-/
namespace Go.Proofs.Ytcjcjkomcolgeaa
open Go.RowKit Go.Shelf

structure KeepsC (D : Nat) (R : Nat → Prop) (A B : World) : Prop where
  low : Below D A B
  cells : ∀ b o, ¬ R b → A.heap[b]? = some o → o.isCells = true → B.heap[b]? = some o
section
variable {D : Nat} {R : Nat → Prop} {A B C : World}
theorem KeepsC.refl (D : Nat) (R : Nat → Prop) (A : World) : KeepsC D R A A := ⟨Below.refl _ _, fun _ _ _ h _ => h⟩
theorem KeepsC.trans (h : KeepsC D R A B) (k : KeepsC D R B C) : KeepsC D R A C := ⟨h.low.trans k.low, fun b o hr ho hc => k.cells b o hr (h.cells b o hr ho hc) hc⟩
theorem KeepsC.wider {R' : Nat → Prop} (h : KeepsC D R A B) (hR : ∀ b, R b → R' b) : KeepsC D R' A B := ⟨h.low, fun b o hr => h.cells b o (fun e => hr (hR b e))⟩
theorem KeepsC.of (h : Below A.heap.size A B) (hD : D ≤ A.heap.size) : KeepsC D R A B := ⟨h.mono hD, fun b _ _ ho _ => (h.block b (Array.getElem?_eq_some_iff.1 ho).1).trans ho⟩
theorem KeepsC.set (W : World) {a : Addr} (hD : D ≤ a.block) (hR : R a.block) (v : Value) : KeepsC D R W (W.setCell a v) :=
  ⟨(Below.refl _ _).setCell hD v, fun b _ hr ho _ => (Below.heap_setCell W a v b (fun e => hr (e ▸ hR))).trans ho⟩
theorem KeepsC.put {W : World} {l : Nat} {o : Obj} (hl : W.heap[l]? = some o) (hc : o.isCells = false) (hD : D ≤ l) (o' : Obj) : KeepsC D R W (W.putObj l o') :=
  ⟨⟨rfl, rfl, rfl, by simp, fun k hk => World.putObj_heap_other (by omega)⟩, fun b o2 _ ho h2 => (World.putObj_heap_other (fun e => by rw [e, hl] at ho; cases ho; rw [hc] at h2; cases h2)).trans ho⟩
theorem KeepsC.box (h : KeepsC D R A B) {b : Nat} {xs : List Value} (hx : Box A b xs) (hr : ¬ R b) : Box B b xs := by
  obtain ⟨t, ht⟩ := hx
  exact ⟨t, h.cells b _ hr ht rfl⟩
theorem Box.under {b n : Nat} {xs : List Value} (h : Box A b xs) (hb : Below n A B) (hl : b < n) : Box B b xs := h.same (hb.block _ hl)
theorem Box.record {b l : Nat} {xs : List Value} {o : Obj} (h : Box A b xs) (hl : A.heap[l]? = some o) (hc : o.isCells = false) (o' : Obj) : Box (A.putObj l o') b xs := by
  obtain ⟨t, ht⟩ := h
  refine ⟨t, (World.putObj_heap_other (fun e => ?_)).trans ht⟩
  rw [e, hl] at ht
  cases ht
  cases hc
theorem KeepsC.size (h : KeepsC D R A B) : A.heap.size ≤ B.heap.size := h.low.size
end
def SeqB {α : Type} (F : Fence) (n : Nat) (P : Program) (g : Nat) (lb : Array Value) (encs : α → Array Value) (Kp : World → World → Prop) (S Sp : List α → Prop) (T : List α → α → Prop) (w : World) : Prop :=
  ∀ (l : Nat) (J Jx : List α → World → Prop) (W : World), Below w.heap.size w W → (∀ s A B, J s A → Below W.heap.size A B → J s B) → (∀ s A B, Jx s A → Below W.heap.size A B → Jx s B) →
    (∀ pre x W1, J pre W1 → T pre x → YieldAt F (n - 1) P l (encs x) W1 fun e W' =>
      (e = .returned (.bool true) ∧ J (pre ++ [x]) W' ∧ Kp W1 W') ∨ (e = .returned (.bool false) ∧ Jx (pre ++ [x]) W')) →
    J [] W →
    CallsIn F n P g (#[.func (.yield l) #[] #[]] ++ lb) W fun e W' => (∃ v, e = .returned v) ∧ ((∃ xs, S xs ∧ J xs W') ∨ (∃ pre, Sp pre ∧ Jx pre W'))

theorem yieldAt_round {α : Type} {F : Fence} {n : Nat} {P : Program} {B l D' : Nat} {D : Nat} {R : Nat → Prop} (hB : B ≤ l) (hD : D ≤ B) {fn : FuncId} {tmps : Array Value} {ps : Array Tmp} {assign body : Code} (hfn : F.fn fn)
    {I : List α → World → Prop} {Ix : Code → List α → World → Prop} {xs : List α} {vs : Array Value} {Ax : Act → World → Prop} {W : World} {rec : LoopState → Option Code → Loop}
    (hrec : rec = fun st pe => { state := st, pending := pe, fn, tmps, params := ps, assign, body, defers := D' })
    (hI : ∀ A o, I xs A → I xs (A.putObj l o)) (hIx : ∀ c A o, Ix c xs A → Ix c xs (A.putObj l o)) (hvs : vs.size = ps.size)
    (hl : W.heap[l]? = some (.loop (rec .ready none)))
    (hassign : ∀ K : Act → World → Prop, (∀ a' W', KeepsFrom B W W' → KeepsC D R W W' → Ax a' W' → K a' W') → assign.wpIn (F.inRound l) n P (Exit.then K (fun _ _ _ => False)) { tmps := (ps.zip vs).foldl (fun t (p, v) => t.setIfInBounds p v) tmps, defers := [] } W)
    (hbody : ∀ a' A, Ax a' A → A.heap[l]? = some (.loop (rec .ready none)) → body.wpIn (F.inRound l) n P (ownPostG B (KeepsC D R) I Ix xs (A.putObj l (.loop { rec .ready none with state := .busy }))) a' (A.putObj l (.loop { rec .ready none with state := .busy }))) :
    YieldAt F n P l vs W fun e W' => (e = .returned (.bool true) ∧ (I xs W' ∧ W'.heap[l]? = some (.loop (rec .ready none)) ∧ ∀ k o, B ≤ k → k ≠ l → W.heap[k]? = some o → o.isCells = false → W'.heap[k]? = some o) ∧ KeepsC D R W W') ∨
      (e = .returned (.bool false) ∧ ∃ c, Ix c xs W' ∧ W'.heap[l]? = some (.loop (rec .done (some c))) ∧ ∀ k o, B ≤ k → k ≠ l → W.heap[k]? = some o → o.isCells = false → W'.heap[k]? = some o) := by
  have hy := run_yield (P := P) (args := vs) hl (by rw [hrec]; exact hvs)
  rw [hrec] at hy
  refine ⟨fn, _, assign, body, hy, roundIn_of_wpIn hfn (hassign _ ?_)⟩
  intro a' Wa hkf hkc hax
  have hla := hkf.same _ _ hB hl rfl
  have hlt : l < Wa.heap.size := (Array.getElem?_eq_some_iff.1 hla).1
  refine ⟨_, run_beginRound hla (by rw [hrec]), wpIn_mono (hbody a' Wa hax hla) ?_⟩
  have hl2 : (Wa.putObj l (.loop { rec .ready none with state := .busy })).heap[l]? = some (.loop { rec .ready none with state := .busy }) := World.putObj_heap_same hlt
  have hk2 : KeepsC D R W (Wa.putObj l (.loop { rec .ready none with state := .busy })) := hkc.trans (KeepsC.put hla rfl (by omega) _)
  have fin : ∀ (jump : Option Code) (W3 : World), KeepsFrom B (Wa.putObj l (.loop { rec .ready none with state := .busy })) W3 →
      (Instr.endRound l jump).run P W3 = .ok (.bool jump.isNone) (W3.putObj l (.loop (rec (if jump.isNone then .ready else .done) jump))) ∧
      W3.heap[l]? = some (.loop { rec .ready none with state := .busy }) ∧
      (W3.putObj l (.loop (rec (if jump.isNone then .ready else .done) jump))).heap[l]? = some (.loop (rec (if jump.isNone then .ready else .done) jump)) ∧
      (∀ k o, B ≤ k → k ≠ l → W.heap[k]? = some o → o.isCells = false → (W3.putObj l (.loop (rec (if jump.isNone then .ready else .done) jump))).heap[k]? = some o) := by
    intro jump W3 hk3
    have hl3 := hk3.same _ _ hB hl2 rfl
    have he := run_endRound (P := P) jump hl3
    rw [hrec] at he ⊢
    refine ⟨he, by rw [hrec] at hl3; exact hl3, World.putObj_heap_same (Array.getElem?_eq_some_iff.1 hl3).1, fun k o hk hkl ho hc => ?_⟩
    refine (World.putObj_heap_other hkl).trans (hk3.same k o hk ?_ hc)
    exact (World.putObj_heap_other hkl).trans (hkf.same k o hk ho hc)
  rintro e a3 W3 hp
  cases e with
  | normal =>
    obtain ⟨hk3, hkp3, hi3⟩ := hp
    obtain ⟨hr, hl3, hl4, hk4⟩ := fin none W3 hk3
    exact ⟨_, _, hr, .inl ⟨rfl, ⟨hI _ _ hi3, hl4, hk4⟩, hk2.trans (hkp3.trans (KeepsC.put hl3 rfl (by omega) _))⟩⟩
  | ret =>
    obtain ⟨hk3, hi3⟩ := hp
    obtain ⟨hr, hl3, hl4, hk4⟩ := fin (some .ret) W3 hk3
    exact ⟨_, _, hr, .inr ⟨rfl, .ret, hIx _ _ _ hi3, hl4, hk4⟩⟩
  | exit id =>
    obtain ⟨hk3, hi3⟩ := hp
    obtain ⟨hr, hl3, hl4, hk4⟩ := fin (some (.exit id)) W3 hk3
    exact ⟨_, _, hr, .inr ⟨rfl, .exit id, hIx _ _ _ hi3, hl4, hk4⟩⟩
  | goto t =>
    obtain ⟨hk3, hi3⟩ := hp
    obtain ⟨hr, hl3, hl4, hk4⟩ := fin (some (.goto t)) W3 hk3
    exact ⟨_, _, hr, .inr ⟨rfl, .goto t, hIx _ _ _ hi3, hl4, hk4⟩⟩
  | panic ch => exact hp.elim
  | outgrown => exact hp.elim

theorem below_put3 {n : Nat} {A : World} {l : Nat} (hl : n ≤ l) (o : Obj) : Below n A (A.putObj l o) := ⟨rfl, rfl, rfl, by simp, fun k hk => World.putObj_heap_other (by omega)⟩

theorem wpIn_range_out {α : Type} {F : Fence} {n : Nat} {P : Program} {g : Operand} {ps : Array Tmp} {assign body : Code} {Q : Exit → Act → World → Prop} {a : Act} {w : World}
    (hro : F.round = none) (h1 : 1 ≤ n) {gf : Nat} {lb : Array Value} (hg : a.eval g = .func (.func gf) #[] lb) (hFg : F.fn gf) (eg : ∀ args w, (callFunc gf args).run P w = .ok (.enter gf args) w)
    {encs : α → Array Value} {D : Nat} {R : Nat → Prop} {S Sp : List α → Prop} {T : List α → α → Prop} {w0 : World} (hseq : SeqB F (n - 1) P gf lb encs (KeepsC D R) S Sp T w0) (hb0 : Below w0.heap.size w0 w) (hD : D ≤ w.heap.size) (hps : ∀ x, (encs x).size = ps.size)
    (I : List α → World → Prop) (Ix : Code → List α → World → Prop) (hI : ∀ s A B, I s A → Below w.heap.size A B → I s B) (hIx : ∀ c s A B, Ix c s A → Below w.heap.size A B → Ix c s B) (h0 : I [] w)
    (Ax : List α → α → Act → World → Prop) (hAx : ∀ pre x a' A l o o', w.heap.size ≤ l → A.heap[l]? = some o → o.isCells = false → Ax pre x a' A → Ax pre x a' (A.putObj l o'))
    (hassign : ∀ (l : Nat) (pre : List α) (x : α) (W : World) (K : Act → World → Prop), I pre W → T pre x → (∀ a' W', KeepsFrom w.heap.size W W' → KeepsC D R W W' → Ax pre x a' W' → K a' W') →
      assign.wpIn (F.inRound l) (n - 1 - 1) P (Exit.then K (fun _ _ _ => False)) { tmps := (ps.zip (encs x)).foldl (fun t (p, v) => t.setIfInBounds p v) a.tmps, defers := [] } W)
    (hbody : ∀ (l : Nat) (pre : List α) (x : α) (a' : Act) (W : World), w.heap.size ≤ l → (∃ r, W.heap[l]? = some (.loop r)) → Ax pre x a' W → body.wpIn (F.inRound l) (n - 1 - 1) P (ownPostG w.heap.size (KeepsC D R) I Ix (pre ++ [x]) W) a' W)
    (hdone : ∀ (E : Nat) (xs : List α) (W : World), w.heap.size ≤ E → S xs → I xs W → W.heap[E]? = some (.deferred (some [])) → Q .normal { a with defers := { target := .collected E, args := #[] } :: a.defers } W)
    (hstop : ∀ (E : Nat) (c : Code) (pre : List α) (W : World), w.heap.size ≤ E → Sp pre → Ix c pre W → W.heap[E]? = some (.deferred (some [])) → c.wpIn F n P Q { a with defers := { target := .collected E, args := #[] } :: a.defers } W) :
    (Code.rangeFunc g ps assign body).wpIn F n P Q a w := by
  refine wpIn_rangeFunc ?_
  intro fn hfn
  rw [hro]
  obtain ⟨rec, hrec⟩ : ∃ rec : LoopState → Option Code → Loop, rec = fun st pe => { state := st, pending := pe, fn, tmps := a.tmps, params := ps, assign, body, defers := w.heap.size } := ⟨_, rfl⟩
  obtain ⟨W1, hW1⟩ : ∃ W1, (w.alloc (.deferred (some []))).alloc (.loop (rec .ready none)) = W1 := ⟨_, rfl⟩
  have hL1 : W1.heap[w.heap.size + 1]? = some (.loop (rec .ready none)) := by
    rw [← hW1]; have := World.alloc_heap_new (w.alloc (.deferred (some []))) (.loop (rec .ready none)); rwa [World.size_alloc] at this
  have hK1 : W1.heap[w.heap.size]? = some (.deferred (some [])) := by
    rw [← hW1]; exact (Below.heap_alloc _ _ _ (by simp)).trans (World.alloc_heap_new w _)
  have hb1 : Below w.heap.size w W1 := by
    rw [← hW1]; exact ((Below.refl _ w).alloc (Nat.le_refl _) _).alloc (by simp) _
  have hs1 : w.heap.size + 1 < W1.heap.size := (Array.getElem?_eq_some_iff.1 hL1).1
  refine ⟨w.heap.size + 1, [{ target := .collected w.heap.size, args := #[] }], W1, { target := .fn (.func gf) lb, args := #[.func (.yield (w.heap.size + 1)) #[] #[]] }, W1, gf,
    #[.func (.yield (w.heap.size + 1)) #[] #[]] ++ lb, W1, ?_, ?_, ?_, ?_, fun _ => h1, ?_⟩
  · rw [← hW1, hrec]; exact run_enterLoop_outer _ _ _ _ _
  · simp only [resolve, hg]
    simp [go_sem]
  · intro f' hf'; simp [Target.leads] at hf'; subst hf'; exact hFg
  · simp [invoke, go_sem, eg]
  · refine (hseq (w.heap.size + 1)
      (fun pre W => I pre W ∧ W.heap[w.heap.size + 1]? = some (.loop (rec .ready none)) ∧ W.heap[w.heap.size]? = some (.deferred (some [])))
      (fun pre W => ∃ c, Ix c pre W ∧ W.heap[w.heap.size + 1]? = some (.loop (rec .done (some c))) ∧ W.heap[w.heap.size]? = some (.deferred (some [])))
      W1 (hb0.trans (hb1.mono hb0.size)) ?_ ?_ ?_ ⟨hI _ _ _ h0 hb1, hL1, hK1⟩).mono ?_
    · rintro s A B ⟨h1, h2, h3⟩ hb
      exact ⟨hI _ _ _ h1 (hb.mono hb1.size), (hb.block _ hs1).trans h2, (hb.block _ (by omega)).trans h3⟩
    · rintro s A B ⟨c, h1, h2, h3⟩ hb
      exact ⟨c, hIx _ _ _ _ h1 (hb.mono hb1.size), (hb.block _ hs1).trans h2, (hb.block _ (by omega)).trans h3⟩
    · rintro pre x W ⟨hi, hl, hk⟩ hlen
      refine (yieldAt_round (Ax := Ax pre x) (I := I) (Ix := Ix) (xs := pre ++ [x]) (D' := w.heap.size) (Nat.le_succ _) hD hfn hrec (fun A o h => hI _ _ _ h (below_put3 (Nat.le_succ _) o)) (fun c A o h => hIx _ _ _ _ h (below_put3 (Nat.le_succ _) o)) (hps x) hl
        (fun K hK => hassign _ pre x W K hi hlen hK) (fun a' A hax hla => hbody _ pre x a' _ (Nat.le_succ _) ⟨_, World.putObj_heap_same (Array.getElem?_eq_some_iff.1 hla).1⟩ (hAx _ _ _ _ _ _ _ (Nat.le_succ _) hla rfl hax))).mono ?_
      rintro e W' (⟨rfl, ⟨h1, h2, h3⟩, h4⟩ | ⟨rfl, c, h1, h2, h3⟩)
      · exact .inl ⟨rfl, ⟨h1, h2, h3 _ _ (Nat.le_refl _) (by omega) hk rfl⟩, h4⟩
      · exact .inr ⟨rfl, c, h1, h2, h3 _ _ (Nat.le_refl _) (by omega) hk rfl⟩
    · rintro e W2 ⟨⟨v, rfl⟩, (⟨xs, hS, hi, hl, hk⟩ | ⟨pre, hSp, c, hi, hl, hk⟩)⟩
      · exact ⟨none, _, by have := run_endLoop (P := P) hl (by rw [hrec]; simp); rw [hrec] at this; exact this, hdone _ xs _ (Nat.le_refl _) hS (hI _ _ _ hi (below_put3 (Nat.le_succ _) _)) ((World.putObj_heap_other (by omega)).trans hk)⟩
      · exact ⟨some c, _, by have := run_endLoop (P := P) hl (by rw [hrec]; simp); rw [hrec] at this; exact this, hstop _ c pre _ (Nat.le_refl _) hSp (hIx _ _ _ _ hi (below_put3 (Nat.le_succ _) _)) ((World.putObj_heap_other (by omega)).trans hk)⟩

theorem wpIn_range_in {α : Type} {F : Fence} {n : Nat} {P : Program} {g : Operand} {ps : Array Tmp} {assign body : Code} {Q : Exit → Act → World → Prop} {a : Act} {w : World}
    {l₀ : Nat} {r₀ : Loop} (hro : F.round = some l₀) (hl₀ : w.heap[l₀]? = some (.loop r₀)) (h1 : 1 ≤ n) {gf : Nat} {lb : Array Value} (hg : a.eval g = .func (.func gf) #[] lb) (hFg : F.fn gf) (eg : ∀ args w, (callFunc gf args).run P w = .ok (.enter gf args) w)
    {encs : α → Array Value} {D : Nat} {R : Nat → Prop} {S Sp : List α → Prop} {T : List α → α → Prop} {w0 : World} (hseq : SeqB F (n - 1) P gf lb encs (KeepsC D R) S Sp T w0) (hb0 : Below w0.heap.size w0 w) (hD : D ≤ w.heap.size) (hps : ∀ x, (encs x).size = ps.size)
    (I : List α → World → Prop) (Ix : Code → List α → World → Prop) (hI : ∀ s A B, I s A → Below w.heap.size A B → I s B) (hIx : ∀ c s A B, Ix c s A → Below w.heap.size A B → Ix c s B) (h0 : I [] w)
    (Ax : List α → α → Act → World → Prop) (hAx : ∀ pre x a' A l o o', w.heap.size ≤ l → A.heap[l]? = some o → o.isCells = false → Ax pre x a' A → Ax pre x a' (A.putObj l o'))
    (hassign : ∀ (l : Nat) (pre : List α) (x : α) (W : World) (K : Act → World → Prop), I pre W → T pre x → (∀ a' W', KeepsFrom w.heap.size W W' → KeepsC D R W W' → Ax pre x a' W' → K a' W') →
      assign.wpIn (F.inRound l) (n - 1 - 1) P (Exit.then K (fun _ _ _ => False)) { tmps := (ps.zip (encs x)).foldl (fun t (p, v) => t.setIfInBounds p v) a.tmps, defers := [] } W)
    (hbody : ∀ (l : Nat) (pre : List α) (x : α) (a' : Act) (W : World), w.heap.size ≤ l → (∃ r, W.heap[l]? = some (.loop r)) → Ax pre x a' W → body.wpIn (F.inRound l) (n - 1 - 1) P (ownPostG w.heap.size (KeepsC D R) I Ix (pre ++ [x]) W) a' W)
    (hdone : ∀ (xs : List α) (W : World), S xs → I xs W → Q .normal a W)
    (hstop : ∀ (c : Code) (pre : List α) (W : World), Sp pre → Ix c pre W → c.wpIn F n P Q a W) :
    (Code.rangeFunc g ps assign body).wpIn F n P Q a w := by
  refine wpIn_rangeFunc ?_
  intro fn hfn
  rw [hro]
  obtain ⟨rec, hrec⟩ : ∃ rec : LoopState → Option Code → Loop, rec = fun st pe => { state := st, pending := pe, fn, tmps := a.tmps, params := ps, assign, body, defers := r₀.defers } := ⟨_, rfl⟩
  obtain ⟨W1, hW1⟩ : ∃ W1, w.alloc (.loop (rec .ready none)) = W1 := ⟨_, rfl⟩
  have hL1 : W1.heap[w.heap.size]? = some (.loop (rec .ready none)) := by rw [← hW1]; exact World.alloc_heap_new w _
  have hb1 : Below w.heap.size w W1 := by rw [← hW1]; exact (Below.refl _ w).alloc (Nat.le_refl _) _
  have hs1 : w.heap.size < W1.heap.size := (Array.getElem?_eq_some_iff.1 hL1).1
  refine ⟨w.heap.size, [], W1, { target := .fn (.func gf) lb, args := #[.func (.yield w.heap.size) #[] #[]] }, W1, gf,
    #[.func (.yield w.heap.size) #[] #[]] ++ lb, W1, ?_, ?_, ?_, ?_, fun _ => h1, ?_⟩
  · rw [← hW1, hrec]; exact run_enterLoop_inner hl₀ _ _ _ _ _
  · simp only [resolve, hg]
    simp [go_sem]
  · intro f' hf'; simp [Target.leads] at hf'; subst hf'; exact hFg
  · simp [invoke, go_sem, eg]
  · refine (hseq w.heap.size
      (fun pre W => I pre W ∧ W.heap[w.heap.size]? = some (.loop (rec .ready none)))
      (fun pre W => ∃ c, Ix c pre W ∧ W.heap[w.heap.size]? = some (.loop (rec .done (some c))))
      W1 (hb0.trans (hb1.mono hb0.size)) ?_ ?_ ?_ ⟨hI _ _ _ h0 hb1, hL1⟩).mono ?_
    · rintro s A B ⟨h1, h2⟩ hb
      exact ⟨hI _ _ _ h1 (hb.mono hb1.size), (hb.block _ hs1).trans h2⟩
    · rintro s A B ⟨c, h1, h2⟩ hb
      exact ⟨c, hIx _ _ _ _ h1 (hb.mono hb1.size), (hb.block _ hs1).trans h2⟩
    · rintro pre x W ⟨hi, hl⟩ hlen
      refine (yieldAt_round (Ax := Ax pre x) (I := I) (Ix := Ix) (xs := pre ++ [x]) (D' := r₀.defers) (Nat.le_refl _) hD hfn hrec (fun A o h => hI _ _ _ h (below_put3 (Nat.le_refl _) o)) (fun c A o h => hIx _ _ _ _ h (below_put3 (Nat.le_refl _) o)) (hps x) hl
        (fun K hK => hassign _ pre x W K hi hlen hK) (fun a' A hax hla => hbody _ pre x a' _ (Nat.le_refl _) ⟨_, World.putObj_heap_same (Array.getElem?_eq_some_iff.1 hla).1⟩ (hAx _ _ _ _ _ _ _ (Nat.le_refl _) hla rfl hax))).mono ?_
      rintro e W' (⟨rfl, ⟨h1, h2, _⟩, h4⟩ | ⟨rfl, c, h1, h2, _⟩)
      · exact .inl ⟨rfl, ⟨h1, h2⟩, h4⟩
      · exact .inr ⟨rfl, c, h1, h2⟩
    · rintro e W2 ⟨⟨v, rfl⟩, (⟨xs, hS, hi, hl⟩ | ⟨pre, hSp, c, hi, hl⟩)⟩
      · exact ⟨none, _, by have := run_endLoop (P := P) hl (by rw [hrec]; simp); rw [hrec] at this; exact this, hdone xs _ hS (hI _ _ _ hi (below_put3 (Nat.le_refl _) _))⟩
      · exact ⟨some c, _, by have := run_endLoop (P := P) hl (by rw [hrec]; simp); rw [hrec] at this; exact this, hstop c pre _ hSp (hIx _ _ _ _ hi (below_put3 (Nat.le_refl _) _))⟩

end Go.Proofs.Ytcjcjkomcolgeaa

/-
  Regions that draw their order: two operations that may come up, calls and stores. No condition.
-/
namespace Go.Proofs.Ytcjcjkomcolgeaa
open Go.RowKit
section
variable {P : Program} {ops : Array Oper} {md : Region.Mode} {N : Act → World → Prop} {C : World → Prop}
theorem anyC_two {n i j : Nat} {listed : Array Bool} {a : Act} {w : World} (hr : Region.ready md ops listed = [i, j]) (hC : C w)
    (h1 : wpOp P ops (Nrm N) i (anyC P md ops N C n (listed.setIfInBounds i true)) a w) (h2 : wpOp P ops (Nrm N) j (anyC P md ops N C n (listed.setIfInBounds j true)) a w) : anyC P md ops N C (n + 1) listed a w := by
  refine ⟨hC, fun h0 => (by rw [h0] at hr; cases hr), fun k hk => ?_⟩
  rw [hr] at hk
  simp only [List.mem_cons, List.not_mem_nil, or_false] at hk
  rcases hk with rfl | rfl
  · exact h1
  · exact h2
theorem wpOp_call {i : Nat} {o : Oper} {f : FuncId} {args : Array Value} {a : Act} {w : World} {K : Act → World → Prop} (hi : ops[i]? = some o) (hw : Region.wanted o (yielded ops a.tmps) = true)
    (hrun : (execOp a.eval o).run P w = .ok (.enter f args) w) (h : Calls P f args w fun e w' => ∃ v, e = .returned v ∧ K (a.put o.dst v) w') : wpOp P ops (Nrm N) i K a w := by
  unfold wpOp
  simp only [hi, hw, if_true]
  refine .inl ?_
  unfold Oper.wp
  rw [hrun]
  exact Calls.mono h fun e w' ⟨v, he, hk⟩ => by subst he; exact hk
theorem wpOp_val {i : Nat} {o : Oper} {v : Value} {a : Act} {w w' : World} {K : Act → World → Prop} (hi : ops[i]? = some o) (hw : Region.wanted o (yielded ops a.tmps) = true)
    (hrun : (execOp a.eval o).run P w = .ok (.value v) w') (h : K (a.put o.dst v) w') : wpOp P ops (Nrm N) i K a w := by
  unfold wpOp
  simp only [hi, hw, if_true]
  refine .inl ?_
  unfold Oper.wp
  rw [hrun]
  exact h
theorem anyC_store {n i : Nat} {o : Oper} {listed : Array Bool} {a : Act} {w w' : World} (hr : Region.ready md ops listed = [i]) (hi : ops[i]? = some o) (hw : Region.wanted o (yielded ops a.tmps) = true) (hC : C w)
    (hrun : (execOp a.eval o).run P w = .ok .skip w') (h : anyC P md ops N C n (listed.setIfInBounds i true) (a.put o.dst undef) w') : anyC P md ops N C (n + 1) listed a w :=
  anyC_step hr hi hw hC fun K hK => by
    unfold Oper.wp
    rw [hrun]
    exact hK _ _ h
theorem wpOp_callD {i : Nat} {o : Oper} {f : FuncId} {args : Array Value} {a : Act} {w : World} {K : Act → World → Prop} (d : Option Tmp) (hi : ops[i]? = some o) (hd : o.dst = d) (hw : Region.wanted o (yielded ops a.tmps) = true)
    (hrun : (execOp a.eval o).run P w = .ok (.enter f args) w) (h : Calls P f args w fun e w' => ∃ v, e = .returned v ∧ K (a.put d v) w') : wpOp P ops (Nrm N) i K a w := by
  subst hd
  exact wpOp_call hi hw hrun h
theorem wpOp_valD {i : Nat} {o : Oper} {v : Value} {a : Act} {w w' : World} {K : Act → World → Prop} (d : Option Tmp) (hi : ops[i]? = some o) (hd : o.dst = d) (hw : Region.wanted o (yielded ops a.tmps) = true)
    (hrun : (execOp a.eval o).run P w = .ok (.value v) w') (h : K (a.put d v) w') : wpOp P ops (Nrm N) i K a w := by
  subst hd
  exact wpOp_val hi hw hrun h
theorem anyC_callD {n i : Nat} {o : Oper} {f : FuncId} {args : Array Value} {listed : Array Bool} {a : Act} {w : World} (d : Option Tmp) (hr : Region.ready md ops listed = [i]) (hi : ops[i]? = some o) (hd : o.dst = d) (hw : Region.wanted o (yielded ops a.tmps) = true) (hC : C w)
    (hrun : (execOp a.eval o).run P w = .ok (.enter f args) w) (h : Calls P f args w fun e w' => ∃ v, e = .returned v ∧ anyC P md ops N C n (listed.setIfInBounds i true) (a.put d v) w') : anyC P md ops N C (n + 1) listed a w := by
  subst hd
  exact anyC_call hr hi hw hC hrun h
theorem anyC_valD {n i : Nat} {o : Oper} {v : Value} {listed : Array Bool} {a : Act} {w w' : World} (d : Option Tmp) (hr : Region.ready md ops listed = [i]) (hi : ops[i]? = some o) (hd : o.dst = d) (hw : Region.wanted o (yielded ops a.tmps) = true) (hC : C w)
    (hrun : (execOp a.eval o).run P w = .ok (.value v) w') (h : anyC P md ops N C n (listed.setIfInBounds i true) (a.put d v) w') : anyC P md ops N C (n + 1) listed a w := by
  subst hd
  exact anyC_val hr hi hw hC hrun h
theorem anyC_storeN {n i : Nat} {o : Oper} {listed : Array Bool} {a : Act} {w w' : World} (hr : Region.ready md ops listed = [i]) (hi : ops[i]? = some o) (hd : o.dst = none) (hw : Region.wanted o (yielded ops a.tmps) = true) (hC : C w)
    (hrun : (execOp a.eval o).run P w = .ok .skip w') (h : anyC P md ops N C n (listed.setIfInBounds i true) a w') : anyC P md ops N C (n + 1) listed a w := by
  refine anyC_store hr hi hw hC hrun ?_
  rw [hd]
  exact h
end
end Go.Proofs.Ytcjcjkomcolgeaa

/-
  Regions that draw their order, within a round of a range over a function. No condition.
-/
namespace Go.Proofs.Ytcjcjkomcolgeaa
open Go.RowKit
set_option linter.unusedVariables false
section
variable {P : Program} {ops : Array Oper} {md : Region.Mode} {N : Act → World → Prop} {C : World → Prop} {l₀ m : Nat}
theorem rowsIn_round {row : String} {args : Array Value} {w : World} {R : Value → World → Prop} (h : Rows P row args w R) : RowsIn (Fence.wide.inRound l₀) m P row args w R :=
  fun c cs _ => let ⟨v, w', r, s⟩ := h c cs; ⟨v, w', r, stepsIn_wide.2 s⟩
def noDef (o : Oper) : Bool :=
  match o.op with | .defer _ => false | _ => true
theorem noDef_ne {o : Oper} (h : noDef o = true) : ∀ c, o.op ≠ .defer c := by
  intro c hc
  simp [noDef, hc] at h
theorem wpOpIn_round {Q : Exit → Act → World → Prop} {i : Nat} {K K' : Act → World → Prop} {a : Act} {w : World} (hd : ∀ o, ops[i]? = some o → noDef o = true) (h : wpOp P ops (Nrm N) i K a w) (hK : ∀ a w, K a w → K' a w) : wpOpIn (Fence.wide.inRound l₀) m P ops Q i K' a w := by
  unfold wpOp at h
  unfold wpOpIn
  split at h
  · rename_i h0
    simp only [h0]
    exact hK _ _ h
  · rename_i o h0
    simp only [h0]
    split at h
    · rename_i hw
      simp only [hw, if_true]
      rcases h with h | h
      · unfold Oper.wpIn
        refine ⟨fun _ _ => trivial, ?_⟩
        have e0 : Oper.semAt (Fence.wide.inRound l₀).round a.eval o = execOp a.eval o := Oper.semAt_plain _ _ _ (noDef_ne (hd o h0))
        rw [e0]
        unfold Oper.wp at h
        generalize (execOp a.eval o).run P w = r at h ⊢
        rcases r with ⟨n, w'⟩ | ⟨x, w'⟩
        · cases n
          all_goals first
            | exact hK _ _ h
            | exact False.elim h
            | (refine ⟨fun hd => (by cases hd), callsIn_wide.2 (Calls.mono h fun e w'' he => ?_)⟩; cases e <;> first | exact hK _ _ he | exact he.elim | exact (nrm_out N he).elim)
            | exact ⟨fun hd => (by cases hd), rowsIn_round (Rows.mono h fun u w'' he => hK _ _ he)⟩
        · cases x <;> exact False.elim h
      · exact (nrm_out N h.2).elim
    · rename_i hw
      simp only [hw]
      exact ⟨fun _ _ => trivial, hK _ _ h⟩
theorem anyC_in {Q : Exit → Act → World → Prop} (hd : ∀ (i : Nat) o, ops[i]? = some o → noDef o = true) (hN : ∀ a w, N a w → Q .normal a w) : ∀ {n : Nat} {listed : Array Bool} {a : Act} {w : World}, anyC P md ops N C n listed a w → wpAnyIn (Fence.wide.inRound l₀) m P md ops Q n listed a w
  | 0, _, _, _, h => ⟨h.2.1, hN _ _ h.2.2⟩
  | n + 1, listed, a, w, h => ⟨fun h0 => hN _ _ (h.2.1 h0), fun i hi => wpOpIn_round (hd i) (h.2.2 i hi) fun _ _ hk => anyC_in hd hN hk⟩
end
def valN : Op → Bool
  | .nilCheck _ => true
  | o => valOp o
theorem onlyV_bind {P : Program} {α : Type} {s : Sem α} {f : α → Sem Next} (hf : ∀ x w n w', (f x).run P w = .ok n w' → ∃ u, n = .value u) (w : World) (n : Next) (w' : World) (h : (s >>= f).run P w = .ok n w') : ∃ u, n = .value u := by
  rw [Sem.run_bind] at h
  generalize s.run P w = r at h
  rcases r with ⟨x, w1⟩ | ⟨x, w1⟩
  · exact hf _ _ _ _ h
  · cases h
theorem onlyV_pure {P : Program} (v : Value) (w : World) (n : Next) (w' : World) (h : (pure (Next.value v) : Sem Next).run P w = .ok n w') : ∃ u, n = .value u := by
  simp only [Sem.run_pure, Result.ok.injEq] at h
  exact ⟨_, h.1.symm⟩
theorem onlyV_nil {P : Program} {x : Operand} {d : Option Tmp} {t : TypeId} {pos : String} {af : Array Edge} {g : Option (Nat × Bool)} {ρ : Operand → Value} {w w' : World} {n : Next} (h : (execOp ρ ⟨d, .nilCheck x, t, pos, af, g⟩).run P w = .ok n w') : ∃ u, n = .value u := by
  unfold execOp at h
  dsimp only at h
  split at h
  · cases h
  · cases h
  · cases h
  · split at h
    · cases h
    · refine onlyV_bind (fun x w n w' h => onlyV_bind (fun b w n w' h => ?_) w n w' h) w n w' h
      split at h
      · exact onlyV_bind (fun _ => onlyV_pure _) _ _ _ h
      · first | exact onlyV_pure _ _ _ _ h | exact onlyV_bind (fun _ => onlyV_pure _) _ _ _ h
    · exact onlyV_pure _ _ _ _ h
  · exact onlyV_pure _ _ _ _ h
theorem valN_value {P : Program} {o : Oper} (ho : valN o.op = true) {ρ : Operand → Value} {w w' : World} {n : Next} (h : (execOp ρ o).run P w = .ok n w') : ∃ u, n = .value u := by
  by_cases hv : valOp o.op = true
  · exact valOp_value hv h
  · obtain ⟨dst, op, type, pos, after, guard⟩ := o
    cases op <;> first | (exact absurd ho hv) | exact onlyV_nil h
theorem yieldsN_of {P : Program} {ops : Array Oper} {C : World → Prop} {o : Oper} (ho : valN o.op = true) {a : Act} {v : Value} (hw : Region.wanted o (yielded ops a.tmps) = true) (h : ∀ w, C w → o.quietAt P a C w v) : YieldsC P ops C o v a := by
  refine .inl ⟨hw, fun w hC => ?_⟩
  have h1 := h w hC
  unfold Oper.quietAt at h1
  generalize hr : (execOp a.eval o).run P w = r at h1 ⊢
  rcases r with ⟨n, w'⟩ | ⟨x, w'⟩
  · obtain ⟨u, rfl⟩ := valN_value ho hr
    obtain ⟨rfl, rfl⟩ := h1
    rfl
  · cases h1
def headsN (md : Region.Mode) (ops : Array Oper) : List Nat → Array Bool → Bool
  | [], _ => true
  | k :: ks, listed => (Region.ready md ops listed).contains k && (Region.free md ops listed k && ((match ops[k]? with | some o => valN o.op | none => false) && headsN md ops ks (listed.setIfInBounds k true)))
theorem anyC_headsN {P : Program} {ops : Array Oper} {md : Region.Mode} {N : Act → World → Prop} {C : World → Prop} (hs : Region.noSelect ops = true) (n : Nat) (w : World) (hC : C w) : ∀ (ks : List Nat) (listed : Array Bool) (a : Act),
    headsN md ops ks listed = true → wpQuiet P ops C (fun a' => anyC P md ops N C n (headsL ks listed) a' w) (headOps ops ks) a → anyC P md ops N C (n + ks.length) listed a w
  | [], _, _, _, h => h
  | k :: ks, listed, a, hB, h => by
    cases h0 : ops[k]? with
    | none => simp [headsN, h0] at hB
    | some o =>
    simp only [headsN, Bool.and_eq_true, h0] at hB
    obtain ⟨hr, hf, hv, hB⟩ := hB
    rw [headOps, List.filterMap_cons, h0] at h
    unfold wpQuiet at h
    by_cases hw : Region.wanted o (yielded ops a.tmps) = true
    · rw [if_pos hw] at h
      obtain ⟨v, h1, h2⟩ := h
      exact anyC_first h0 (Region.noSelect_spec hs) (n + ks.length) listed a w (Region.free_spec h0 hf) (by simpa using hr) (yieldsN_of hv hw h1) (anyC_headsN hs n w hC ks _ _ hB h2)
    · rw [if_neg hw] at h
      exact anyC_first h0 (Region.noSelect_spec hs) (n + ks.length) listed a w (Region.free_spec h0 hf) (by simpa using hr) (.inr ⟨by simpa using hw, rfl⟩) (anyC_headsN hs n w hC ks _ _ hB h)
theorem wpIn_region_heads {P : Program} {N : Act → World → Prop} {C : World → Prop} {Q : Exit → Act → World → Prop} {id l₀ m : Nat} {a : Act} {w : World} {l : List Oper} (ks : List Nat) (hm : P.follows .mixedOrders = true)
    (hB : ((l.all noDef && Region.noSelect l.toArray) && (decide (ks.length ≤ l.length) && headsN .any l.toArray ks (Array.replicate l.length false))) = true) (hC : C w.drew) (hN : ∀ a w, N a w → Q .normal a w)
    (h : wpQuiet P l.toArray C (fun a' => anyC P .any l.toArray N C (l.length - ks.length) (headsL ks (Array.replicate l.length false)) a' w.drew) (headOps l.toArray ks) a) : (Code.region id l.toArray true).wpIn (Fence.wide.inRound l₀) m P Q a w := by
  simp only [Bool.and_eq_true, decide_eq_true_eq] at hB
  obtain ⟨⟨hd, hs⟩, hn, hB⟩ := hB
  have hd : ∀ (i : Nat) o, l.toArray[i]? = some o → noDef o = true := fun i o h => List.all_eq_true.1 hd o (List.mem_of_getElem? (by simpa using h))
  refine wpIn_region_any hm (anyC_in (C := C) hd hN ?_)
  have := anyC_headsN (P := P) (md := .any) (N := N) hs (l.length - ks.length) w.drew hC ks (Array.replicate l.length false) a hB h
  rw [show l.length - ks.length + ks.length = l.length by omega] at this
  rw [List.size_toArray]
  exact this
end Go.Proofs.Ytcjcjkomcolgeaa

/-
  Drawn regions whose last operation is a store that waits for all others: the readers are taken first, and what is read may be what is stored. No condition.
-/
namespace Go.Proofs.Ytcjcjkomcolgeaa
open Go.RowKit
section
variable {P : Program} {ops : Array Oper} {md : Region.Mode} {N : Act → World → Prop} {C : World → Prop} {l₀ m : Nat}
theorem getD_tf {listed : Array Bool} {k : Nat} (h : listed.getD k true = false) : listed.getD k false = false := by
  rw [Array.getD_eq_getD_getElem?] at h ⊢
  cases hk : listed[k]? with
  | none => rfl
  | some b => rw [hk] at h; exact h
def Closed (md : Region.Mode) (ops : Array Oper) (listed : Array Bool) : Prop := ∀ (k : Nat) (o : Oper), ops[k]? = some o → listed.getD k false = true → ∀ e ∈ o.after, Region.binds md e = true → listed.getD e.on false = true
theorem closed_set {listed : Array Bool} {j : Nat} (h : Closed md ops listed) (hj : j ∈ Region.ready md ops listed) : Closed md ops (listed.setIfInBounds j true) := by
  obtain ⟨_, oj, hoj, hall⟩ := mem_ready.1 hj
  intro k o hk hl e he hb
  by_cases hkj : k = j
  · subst hkj
    rw [hoj] at hk
    cases hk
    exact getD_set_true (hall e he hb)
  · rw [getD_set_ne false (Ne.symm hkj)] at hl
    exact getD_set_true (h k o hk hl e he hb)
def awaited (md : Region.Mode) (ops : Array Oper) (z : Nat) : Bool :=
  (List.range z).all fun k => (List.range (z + 1)).any fun d => decide (k < d) && (match ops[d]? with | some o => !(o.after.all fun e => !Region.binds md e || e.on != k) | none => false)
theorem all_listed {z : Nat} {listed : Array Bool} (hA : awaited md ops z = true) (hc : Closed md ops listed) (hz : z ∈ Region.ready md ops listed) : ∀ k, k < z → listed.getD k false = true := by
  obtain ⟨_, oz, hoz, hall⟩ := mem_ready.1 hz
  have key : ∀ m, ∀ k, k < z → z - k ≤ m → listed.getD k false = true := by
    intro m
    induction m with
    | zero => intro k hk hm; omega
    | succ m ih =>
      intro k hk hm
      have h1 := List.all_eq_true.1 hA k (List.mem_range.2 hk)
      obtain ⟨d, hd, h2⟩ := List.any_eq_true.1 h1
      have hd := List.mem_range.1 hd
      rw [Bool.and_eq_true, decide_eq_true_eq] at h2
      obtain ⟨hkd, h3⟩ := h2
      cases ho : ops[d]? with
      | none => rw [ho] at h3; cases h3
      | some o =>
        rw [ho] at h3
        dsimp only at h3
        refine Decidable.byContradiction fun hn => ?_
        have h4 : (o.after.all fun e => !Region.binds md e || e.on != k) = true := by
          refine Array.all_eq_true_iff_forall_mem.2 fun e he => ?_
          by_cases hb : Region.binds md e = true
          · have h5 : listed.getD e.on false = true := by
              by_cases hdz : d = z
              · subst hdz
                rw [hoz] at ho
                cases ho
                exact hall e he hb
              · exact hc d o ho (ih d (by omega) (by omega)) e he hb
            have h6 : e.on ≠ k := fun h => hn (h ▸ h5)
            simp [h6]
          · simp [hb]
        rw [h4] at h3
        cases h3
  exact fun k hk => key (z - k) k hk (Nat.le_refl _)
def anyE (P : Program) (md : Region.Mode) (ops : Array Oper) (N : Act → World → Prop) (C : World → Prop) (z : Nat) : Nat → Array Bool → Act → World → Prop
  | 0, listed, a, w => listed.getD z false = true ∧ Region.ready md ops listed = [] ∧ N a w
  | n + 1, listed, a, w => C w ∧ (Region.ready md ops listed = [] → N a w) ∧ ∀ i ∈ Region.ready md ops listed, wpOp P ops (Nrm N) i (anyE P md ops N C z n (listed.setIfInBounds i true)) a w
theorem anyE_in {z : Nat} {Q : Exit → Act → World → Prop} (hd : ∀ (i : Nat) o, ops[i]? = some o → noDef o = true) (hN : ∀ a w, N a w → Q .normal a w) : ∀ {n : Nat} {listed : Array Bool} {a : Act} {w : World}, anyE P md ops N C z n listed a w → wpAnyIn (Fence.wide.inRound l₀) m P md ops Q n listed a w
  | 0, _, _, _, h => ⟨h.2.1, hN _ _ h.2.2⟩
  | n + 1, listed, a, w, h => ⟨fun h0 => hN _ _ (h.2.1 h0), fun i hi => wpOpIn_round (hd i) (h.2.2 i hi) fun _ _ hk => anyE_in hd hN hk⟩
theorem anyE_first {z i : Nat} {oi : Oper} {v : Value} (hA : awaited md ops z = true) (hi : ops[i]? = some oi) (hiz : i < z) (hsel : ∀ (j : Nat) (o : Oper) cs b, ops[j]? = some o → o.op ≠ .select cs b) :
    ∀ (n : Nat) (listed : Array Bool) (a : Act) (w : World), Closed md ops listed → listed.getD z true = false →
      (∀ j oj, ops[j]? = some oj → j ≠ i → listed.getD j true = false → (∀ e ∈ oj.after, Region.binds md e = true → e.on ≠ i) → oi.apart ops oj = true) →
      i ∈ Region.ready md ops listed → YieldsC P ops C oi v a → C w →
      anyE P md ops N C z n (listed.setIfInBounds i true) (a.put oi.dst v) w → anyE P md ops N C z (n + 1) listed a w
  | n, listed, a, w, hc, hz, hfree, hr, hy, hC, H => by
    refine ⟨hC, fun h => (by rw [h] at hr; cases hr), fun j hj => ?_⟩
    by_cases hji : j = i
    · subst hji; exact hy.wpOp hi hC H
    · have hjz : j ≠ z := by
        rintro rfl
        have h1 := all_listed hA hc hj i hiz
        rw [getD_tf (mem_ready.1 hr).1] at h1
        cases h1
      have hjr := ready_mono (i := i) hj hji
      match n, H with
      | 0, H =>
        rw [H.2.1] at hjr
        cases hjr
      | n + 1, H =>
        obtain ⟨hjun, oj, hoj, hall⟩ := mem_ready.1 hj
        have hiun := (mem_ready.1 hr).1
        have hnot : ∀ e ∈ oj.after, Region.binds md e = true → e.on ≠ i := fun e he hb heq => by
          have h1 := hall e he hb
          rw [heq] at h1
          rw [getD_tf hiun] at h1
          cases h1
        obtain ⟨h1, h2, h3⟩ := Oper.apart_spec (hfree j oj hoj hji hjun hnot)
        refine wpOp_go hoj (execOp_put oj (fun cs b => hsel j oj cs b hoj) a oi.dst v h1) (wanted_put oj a oi.dst v h1) (by cases oi.dst <;> rfl) (H.2.2 j hjr) fun u D w' hk => ?_
        have hzj : (listed.setIfInBounds j true).getD z true = false := by rw [getD_set_ne true hjz]; exact hz
        have hCw : C w' := by
          cases n with
          | zero =>
            have h4 := hk.1
            rw [getD_set_ne false hjz, getD_set_ne false (by omega), getD_tf hz] at h4
            cases h4
          | succ n => exact hk.1
        refine anyE_first (v := v) hA hi hiz hsel n _ _ _ (closed_set hc hj) hzj (fun k ok hk hki hun hno => hfree k ok hk hki ?_ hno) (ready_mono hr (Ne.symm hji)) ?_ hCw ?_
        · by_cases hjk : j = k
          · subst hjk; exact hjun
          · rw [getD_set_ne true hjk] at hun; exact hun
        · have e1 : execOp (Act.put { a with defers := D } oj.dst u).eval oi = execOp a.eval oi := execOp_put oi (fun cs b => hsel i oi cs b hi) { a with defers := D } oj.dst u h3
          have e2 := wanted_put oi { a with defers := D } oj.dst u h3
          rcases hy with ⟨y1, y2⟩ | ⟨y1, y2⟩
          · exact .inl ⟨e2.trans y1, fun w hw => by rw [e1]; exact y2 w hw⟩
          · exact .inr ⟨e2.trans y1, y2⟩
        · rw [Array.setIfInBounds_comm _ _ hji]
          have e3 : ({ a.put oi.dst v with defers := D } : Act) = Act.put { a with defers := D } oi.dst v := by cases oi.dst <;> rfl
          rw [e3, Act.put_comm _ v u h2] at hk
          exact hk
theorem anyE_heads {z : Nat} (hA : awaited md ops z = true) (hs : Region.noSelect ops = true) (n : Nat) (w : World) (hC : C w) : ∀ (ks : List Nat) (listed : Array Bool) (a : Act), Closed md ops listed → listed.getD z true = false → ks.all (fun k => decide (k < z)) = true →
    headsN md ops ks listed = true → wpQuiet P ops C (fun a' => anyE P md ops N C z n (headsL ks listed) a' w) (headOps ops ks) a → anyE P md ops N C z (n + ks.length) listed a w
  | [], _, _, _, _, _, _, h => h
  | k :: ks, listed, a, hc, hz, hlt, hB, h => by
    cases h0 : ops[k]? with
    | none => simp [headsN, h0] at hB
    | some o =>
    simp only [headsN, Bool.and_eq_true, h0] at hB
    obtain ⟨hr, hf, hv, hB⟩ := hB
    rw [List.all_cons, Bool.and_eq_true, decide_eq_true_eq] at hlt
    have hr' : k ∈ Region.ready md ops listed := by simpa using hr
    have hc' := closed_set hc hr'
    have hz' : (listed.setIfInBounds k true).getD z true = false := by rw [getD_set_ne true (by omega)]; exact hz
    rw [headOps, List.filterMap_cons, h0] at h
    unfold wpQuiet at h
    by_cases hw : Region.wanted o (yielded ops a.tmps) = true
    · rw [if_pos hw] at h
      obtain ⟨v, h1, h2⟩ := h
      exact anyE_first hA h0 hlt.1 (Region.noSelect_spec hs) (n + ks.length) listed a w hc hz (Region.free_spec h0 hf) hr' (yieldsN_of hv hw h1) hC (anyE_heads hA hs n w hC ks _ _ hc' hz' hlt.2 hB h2)
    · rw [if_neg hw] at h
      exact anyE_first hA h0 hlt.1 (Region.noSelect_spec hs) (n + ks.length) listed a w hc hz (Region.free_spec h0 hf) hr' (.inr ⟨by simpa using hw, rfl⟩) hC (anyE_heads hA hs n w hC ks _ _ hc' hz' hlt.2 hB h)
theorem anyE_last {z : Nat} {o : Oper} {listed : Array Bool} {a : Act} {w w' : World} (hr : Region.ready md ops listed = [z]) (hi : ops[z]? = some o) (hd : o.dst = none) (hw : Region.wanted o (yielded ops a.tmps) = true) (hC : C w)
    (hrun : (execOp a.eval o).run P w = .ok .skip w') (hr2 : Region.ready md ops (listed.setIfInBounds z true) = []) (hz2 : (listed.setIfInBounds z true).getD z false = true) (h : N a w') : anyE P md ops N C z 1 listed a w := by
  refine ⟨hC, fun h0 => (by rw [h0] at hr; cases hr), fun j hj => ?_⟩
  rw [hr] at hj
  obtain rfl : j = z := by simpa using hj
  unfold wpOp
  simp only [hi, hw, if_true]
  refine .inl ?_
  unfold Oper.wp
  rw [hrun]
  show anyE P md ops N C j 0 _ (a.put o.dst undef) w'
  rw [hd]
  exact ⟨hz2, hr2, h⟩
end
theorem closed_none {md : Region.Mode} {ops : Array Oper} {n : Nat} : Closed md ops (Array.replicate n false) := by
  intro k o _ hl
  rw [Array.getD_eq_getD_getElem?, Array.getElem?_replicate] at hl
  split at hl <;> cases hl
theorem last_none {n : Nat} (h : 0 < n) : (Array.replicate n false).getD (n - 1) true = false := by
  rw [Array.getD_eq_getD_getElem?, Array.getElem?_replicate, if_pos (by omega)]
  rfl
theorem wpIn_region_last {P : Program} {N : Act → World → Prop} {C : World → Prop} {Q : Exit → Act → World → Prop} {id l₀ m : Nat} {a : Act} {w : World} {l : List Oper} (ks : List Nat) (hm : P.follows .mixedOrders = true)
    (hB : (((l.all noDef && Region.noSelect l.toArray) && (decide (ks.length ≤ l.length) && headsN .any l.toArray ks (Array.replicate l.length false))) && ((awaited .any l.toArray (l.length - 1) && decide (0 < l.length)) && ks.all (fun k => decide (k < l.length - 1)))) = true) (hC : C w.drew) (hN : ∀ a w, N a w → Q .normal a w)
    (h : wpQuiet P l.toArray C (fun a' => anyE P .any l.toArray N C (l.length - 1) (l.length - ks.length) (headsL ks (Array.replicate l.length false)) a' w.drew) (headOps l.toArray ks) a) : (Code.region id l.toArray true).wpIn (Fence.wide.inRound l₀) m P Q a w := by
  simp only [Bool.and_eq_true] at hB
  obtain ⟨⟨⟨hd, hs⟩, hn, hB⟩, ⟨hA, hp⟩, hlt⟩ := hB
  have hn := of_decide_eq_true hn
  have hp := of_decide_eq_true hp
  have hd : ∀ (i : Nat) o, l.toArray[i]? = some o → noDef o = true := fun i o h => List.all_eq_true.1 hd o (List.mem_of_getElem? (by simpa using h))
  refine wpIn_region_any hm (anyE_in (C := C) (z := l.length - 1) hd hN ?_)
  have := anyE_heads (P := P) (md := .any) (N := N) hA hs (l.length - ks.length) w.drew hC ks (Array.replicate l.length false) a closed_none (last_none hp) hlt hB h
  rw [show l.length - ks.length + ks.length = l.length by omega] at this
  rw [List.size_toArray]
  exact this
end Go.Proofs.Ytcjcjkomcolgeaa

/-
  Drawn regions whose last operation waits for all others, and may panic (a call): the readers, and builtin len, are taken first. No condition.
-/
namespace Go.Proofs.Ytcjcjkomcolgeaa
open Go.RowKit
def valM : Op → Bool
  | .call c => match c.callee with | .builtin .len => true | _ => false
  | o => valN o
theorem valM_value {P : Program} {o : Oper} (ho : valM o.op = true) {ρ : Operand → Value} {w w' : World} {n : Next} (h : (execOp ρ o).run P w = .ok n w') : ∃ u, n = .value u := by
  by_cases hv : valN o.op = true
  · exact valN_value hv h
  · obtain ⟨dst, op, type, pos, after, guard⟩ := o
    cases op
    case call c =>
      obtain ⟨callee, args, ats⟩ := c
      cases callee
      case builtin b =>
        cases b
        case len =>
          simp only [execOp, resolve, invoke, builtin, Sem.run_bind, Sem.run_pure, Result.andThen_ok] at h
          generalize (Builtin.len_ _ _ _).run P w = r at h
          rcases r with ⟨x, w1⟩ | ⟨x, w1⟩
          · simp only [Result.andThen_ok, Sem.run_pure, Result.ok.injEq] at h
            exact ⟨x, h.1.symm⟩
          · cases h
        all_goals cases ho
      all_goals cases ho
    all_goals exact absurd ho hv
theorem yieldsM_of {P : Program} {ops : Array Oper} {C : World → Prop} {o : Oper} (ho : valM o.op = true) {a : Act} {v : Value} (hw : Region.wanted o (yielded ops a.tmps) = true) (h : ∀ w, C w → o.quietAt P a C w v) : YieldsC P ops C o v a := by
  refine .inl ⟨hw, fun w hC => ?_⟩
  have h1 := h w hC
  unfold Oper.quietAt at h1
  generalize hr : (execOp a.eval o).run P w = r at h1 ⊢
  rcases r with ⟨n, w'⟩ | ⟨x, w'⟩
  · obtain ⟨u, rfl⟩ := valM_value ho hr
    obtain ⟨rfl, rfl⟩ := h1
    rfl
  · cases h1
def headsM (md : Region.Mode) (ops : Array Oper) : List Nat → Array Bool → Bool
  | [], _ => true
  | k :: ks, listed => (Region.ready md ops listed).contains k && (Region.free md ops listed k && ((match ops[k]? with | some o => valM o.op | none => false) && headsM md ops ks (listed.setIfInBounds k true)))
section
variable {P : Program} {ops : Array Oper} {md : Region.Mode} {N : Act → World → Prop} {Q : Exit → Act → World → Prop} {C : World → Prop}
def anyF (P : Program) (md : Region.Mode) (ops : Array Oper) (N : Act → World → Prop) (Q : Exit → Act → World → Prop) (C : World → Prop) (z : Nat) : Nat → Array Bool → Act → World → Prop
  | 0, listed, a, w => listed.getD z false = true ∧ Region.ready md ops listed = [] ∧ N a w
  | n + 1, listed, a, w => C w ∧ (Region.ready md ops listed = [] → N a w) ∧ ∀ i ∈ Region.ready md ops listed, (i ≠ z → wpOp P ops (Nrm N) i (anyF P md ops N Q C z n (listed.setIfInBounds i true)) a w) ∧ (i = z → wpOp P ops Q i (anyF P md ops N Q C z n (listed.setIfInBounds i true)) a w)
theorem anyF_any {z : Nat} (hN : ∀ a w, N a w → Q .normal a w) : ∀ {n : Nat} {listed : Array Bool} {a : Act} {w : World}, anyF P md ops N Q C z n listed a w → wpAny P md ops Q n listed a w
  | 0, _, _, _, h => ⟨h.2.1, hN _ _ h.2.2⟩
  | n + 1, listed, a, w, h => ⟨fun h0 => hN _ _ (h.2.1 h0), fun i hi => by
      obtain ⟨_, o, ho, _⟩ := mem_ready.1 hi
      by_cases hz : i = z
      · exact wpOp_mono (fun _ _ hk => anyF_any hN hk) ((h.2.2 i hi).2 hz)
      · exact wpOp_go ho rfl rfl rfl ((h.2.2 i hi).1 hz) fun _ _ _ hk => anyF_any hN hk⟩
theorem anyF_first {z i : Nat} {oi : Oper} {v : Value} (hA : awaited md ops z = true) (hi : ops[i]? = some oi) (hiz : i < z) (hsel : ∀ (j : Nat) (o : Oper) cs b, ops[j]? = some o → o.op ≠ .select cs b) :
    ∀ (n : Nat) (listed : Array Bool) (a : Act) (w : World), Closed md ops listed → listed.getD z true = false →
      (∀ j oj, ops[j]? = some oj → j ≠ i → listed.getD j true = false → (∀ e ∈ oj.after, Region.binds md e = true → e.on ≠ i) → oi.apart ops oj = true) →
      i ∈ Region.ready md ops listed → YieldsC P ops C oi v a → C w →
      anyF P md ops N Q C z n (listed.setIfInBounds i true) (a.put oi.dst v) w → anyF P md ops N Q C z (n + 1) listed a w
  | n, listed, a, w, hc, hz, hfree, hr, hy, hC, H => by
    refine ⟨hC, fun h => (by rw [h] at hr; cases hr), fun j hj => ?_⟩
    by_cases hji : j = i
    · subst hji; exact ⟨fun _ => hy.wpOp hi hC H, fun h => by omega⟩
    · have hjz : j ≠ z := by
        rintro rfl
        have h1 := all_listed hA hc hj i hiz
        rw [getD_tf (mem_ready.1 hr).1] at h1
        cases h1
      have hjr := ready_mono (i := i) hj hji
      match n, H with
      | 0, H =>
        rw [H.2.1] at hjr
        cases hjr
      | n + 1, H =>
        obtain ⟨hjun, oj, hoj, hall⟩ := mem_ready.1 hj
        have hiun := (mem_ready.1 hr).1
        have hnot : ∀ e ∈ oj.after, Region.binds md e = true → e.on ≠ i := fun e he hb heq => by
          have h1 := hall e he hb
          rw [heq] at h1
          rw [getD_tf hiun] at h1
          cases h1
        obtain ⟨h1, h2, h3⟩ := Oper.apart_spec (hfree j oj hoj hji hjun hnot)
        refine ⟨fun _ => ?_, fun h => absurd h hjz⟩
        refine wpOp_go hoj (execOp_put oj (fun cs b => hsel j oj cs b hoj) a oi.dst v h1) (wanted_put oj a oi.dst v h1) (by cases oi.dst <;> rfl) ((H.2.2 j hjr).1 hjz) fun u D w' hk => ?_
        have hzj : (listed.setIfInBounds j true).getD z true = false := by rw [getD_set_ne true hjz]; exact hz
        have hCw : C w' := by
          cases n with
          | zero =>
            have h4 := hk.1
            rw [getD_set_ne false hjz, getD_set_ne false (by omega), getD_tf hz] at h4
            cases h4
          | succ n => exact hk.1
        refine anyF_first (v := v) hA hi hiz hsel n _ _ _ (closed_set hc hj) hzj (fun k ok hk hki hun hno => hfree k ok hk hki ?_ hno) (ready_mono hr (Ne.symm hji)) ?_ hCw ?_
        · by_cases hjk : j = k
          · subst hjk; exact hjun
          · rw [getD_set_ne true hjk] at hun; exact hun
        · have e1 : execOp (Act.put { a with defers := D } oj.dst u).eval oi = execOp a.eval oi := execOp_put oi (fun cs b => hsel i oi cs b hi) { a with defers := D } oj.dst u h3
          have e2 := wanted_put oi { a with defers := D } oj.dst u h3
          rcases hy with ⟨y1, y2⟩ | ⟨y1, y2⟩
          · exact .inl ⟨e2.trans y1, fun w hw => by rw [e1]; exact y2 w hw⟩
          · exact .inr ⟨e2.trans y1, y2⟩
        · rw [Array.setIfInBounds_comm _ _ hji]
          have e3 : ({ a.put oi.dst v with defers := D } : Act) = Act.put { a with defers := D } oi.dst v := by cases oi.dst <;> rfl
          rw [e3, Act.put_comm _ v u h2] at hk
          exact hk
theorem anyF_heads {z : Nat} (hA : awaited md ops z = true) (hs : Region.noSelect ops = true) (n : Nat) (w : World) (hC : C w) : ∀ (ks : List Nat) (listed : Array Bool) (a : Act), Closed md ops listed → listed.getD z true = false → ks.all (fun k => decide (k < z)) = true →
    headsM md ops ks listed = true → wpQuiet P ops C (fun a' => anyF P md ops N Q C z n (headsL ks listed) a' w) (headOps ops ks) a → anyF P md ops N Q C z (n + ks.length) listed a w
  | [], _, _, _, _, _, _, h => h
  | k :: ks, listed, a, hc, hz, hlt, hB, h => by
    cases h0 : ops[k]? with
    | none => simp [headsM, h0] at hB
    | some o =>
    simp only [headsM, Bool.and_eq_true, h0] at hB
    obtain ⟨hr, hf, hv, hB⟩ := hB
    rw [List.all_cons, Bool.and_eq_true, decide_eq_true_eq] at hlt
    have hr' : k ∈ Region.ready md ops listed := by simpa using hr
    have hc' := closed_set hc hr'
    have hz' : (listed.setIfInBounds k true).getD z true = false := by rw [getD_set_ne true (by omega)]; exact hz
    rw [headOps, List.filterMap_cons, h0] at h
    unfold wpQuiet at h
    by_cases hw : Region.wanted o (yielded ops a.tmps) = true
    · rw [if_pos hw] at h
      obtain ⟨v, h1, h2⟩ := h
      exact anyF_first hA h0 hlt.1 (Region.noSelect_spec hs) (n + ks.length) listed a w hc hz (Region.free_spec h0 hf) hr' (yieldsM_of hv hw h1) hC (anyF_heads hA hs n w hC ks _ _ hc' hz' hlt.2 hB h2)
    · rw [if_neg hw] at h
      exact anyF_first hA h0 hlt.1 (Region.noSelect_spec hs) (n + ks.length) listed a w hc hz (Region.free_spec h0 hf) hr' (.inr ⟨by simpa using hw, rfl⟩) hC (anyF_heads hA hs n w hC ks _ _ hc' hz' hlt.2 hB h)
theorem anyF_call {z : Nat} {o : Oper} {f : FuncId} {args : Array Value} {listed : Array Bool} {a : Act} {w : World} (hr : Region.ready md ops listed = [z]) (hi : ops[z]? = some o) (hw : Region.wanted o (yielded ops a.tmps) = true) (hC : C w)
    (hrun : (execOp a.eval o).run P w = .ok (.enter f args) w) (hr2 : Region.ready md ops (listed.setIfInBounds z true) = []) (hz2 : (listed.setIfInBounds z true).getD z false = true)
    (h : Calls P f args w fun e w' => (∃ ch, e = .panicked ch ∧ Q (.panic ch) a w') ∨ ∃ v, e = .returned v ∧ N (a.put o.dst v) w') : anyF P md ops N Q C z 1 listed a w := by
  refine ⟨hC, fun h0 => (by rw [h0] at hr; cases hr), fun j hj => ?_⟩
  rw [hr] at hj
  obtain rfl : j = z := by simpa using hj
  refine ⟨fun h => absurd rfl h, fun _ => ?_⟩
  unfold wpOp
  simp only [hi, hw, if_true]
  refine .inl ?_
  unfold Oper.wp
  rw [hrun]
  refine Calls.mono h fun e w' he => ?_
  rcases he with ⟨ch, rfl, hq⟩ | ⟨v, rfl, hn⟩
  · exact hq
  · exact ⟨hz2, hr2, hn⟩
end
theorem wp_region_call {P : Program} {N : Act → World → Prop} {C : World → Prop} {Q : Exit → Act → World → Prop} {id : Nat} {a : Act} {w : World} {l : List Oper} (ks : List Nat) (hm : P.follows .mixedOrders = true)
    (hB : ((Region.noSelect l.toArray && (decide (ks.length ≤ l.length) && headsM .any l.toArray ks (Array.replicate l.length false))) && ((awaited .any l.toArray (l.length - 1) && decide (0 < l.length)) && ks.all (fun k => decide (k < l.length - 1)))) = true) (hC : C w.drew) (hN : ∀ a w, N a w → Q .normal a w)
    (h : wpQuiet P l.toArray C (fun a' => anyF P .any l.toArray N Q C (l.length - 1) (l.length - ks.length) (headsL ks (Array.replicate l.length false)) a' w.drew) (headOps l.toArray ks) a) : (Code.region id l.toArray true).wp P Q a w := by
  simp only [Bool.and_eq_true] at hB
  obtain ⟨⟨hs, hn, hB⟩, ⟨hA, hp⟩, hlt⟩ := hB
  have hn := of_decide_eq_true hn
  have hp := of_decide_eq_true hp
  refine wp_region_any hm (anyF_any (C := C) (z := l.length - 1) hN ?_)
  have := anyF_heads (P := P) (md := .any) (N := N) (Q := Q) hA hs (l.length - ks.length) w.drew hC ks (Array.replicate l.length false) a closed_none (last_none hp) hlt hB h
  rw [show l.length - ks.length + ks.length = l.length by omega] at this
  rw [List.size_toArray]
  exact this
end Go.Proofs.Ytcjcjkomcolgeaa

/-
  Drawn regions with operations that make memory in any order: what each yields is told by a property of its value and of the blocks that it made. No condition.
-/
namespace Go.Proofs.Ytcjcjkomcolgeaa
open Go.RowKit
section
variable {P : Program} {ops : Array Oper} {md : Region.Mode} {Q : Exit → Act → World → Prop}
theorem count_drop {p q : Nat → Bool} {i : Nat} (hp : p i = true) (hq : q i = false) (h : ∀ j, j ≠ i → q j = p j) : ∀ m, i < m → (List.range m).countP q + 1 = (List.range m).countP p
  | 0, hi => absurd hi (Nat.not_lt_zero _)
  | m + 1, hi => by
    rw [List.range_succ, List.countP_append, List.countP_append]
    by_cases him : i = m
    · subst him
      have e : (List.range i).countP q = (List.range i).countP p := List.countP_congr fun j hj => by
        have := List.mem_range.1 hj
        rw [h j (by omega)]
      rw [e]
      simp [hp, hq]
    · have := count_drop hp hq h m (by omega)
      have e2 : List.countP q [m] = List.countP p [m] := by simp [List.countP_cons, h m (fun e => him e.symm)]
      omega
def unlisted (ops : Array Oper) (listed : Array Bool) : Nat := (List.range ops.size).countP fun i => !listed.getD i true
theorem wpAny_inv (Inv : Array Bool → Act → World → Prop) (hstep : ∀ listed a w i, Inv listed a w → i ∈ Region.ready md ops listed → wpOp P ops Q i (Inv (listed.setIfInBounds i true)) a w)
    (hend : ∀ listed a w, Inv listed a w → Region.ready md ops listed = [] → Q .normal a w) : ∀ (n : Nat) (listed : Array Bool) (a : Act) (w : World), unlisted ops listed ≤ n → Inv listed a w → wpAny P md ops Q n listed a w
  | 0, listed, a, w, hn, h => by
    have hr : Region.ready md ops listed = [] := by
      refine List.eq_nil_iff_forall_not_mem.2 fun i hi => ?_
      obtain ⟨h0, o, ho, _⟩ := mem_ready.1 hi
      have hlt : i < ops.size := (Array.getElem?_eq_some_iff.1 ho).1
      have : 0 < unlisted ops listed := List.countP_pos_iff.2 ⟨i, List.mem_range.2 hlt, by rw [h0]; rfl⟩
      omega
    exact ⟨hr, hend _ _ _ h hr⟩
  | n + 1, listed, a, w, hn, h => ⟨fun h0 => hend _ _ _ h h0, fun i hi => by
      refine wpOp_mono (fun a' w' hk => ?_) (hstep listed a w i h hi)
      refine wpAny_inv Inv hstep hend n _ a' w' ?_ hk
      obtain ⟨h0, o, ho, _⟩ := mem_ready.1 hi
      have hlt : i < ops.size := (Array.getElem?_eq_some_iff.1 ho).1
      have hls : i < listed.size := by
        rcases Nat.lt_or_ge i listed.size with h1 | h1
        · exact h1
        · rw [Array.getD_eq_getD_getElem?, Array.getElem?_eq_none h1] at h0; cases h0
      have := count_drop (p := fun j => !listed.getD j true) (q := fun j => !(listed.setIfInBounds i true).getD j true) (i := i) (by simp only [h0]; rfl) (by simp [Array.getD_eq_getD_getElem?, hls]) (fun j hj => by
        simp only [getD_set_ne true (Ne.symm hj)]) ops.size hlt
      unfold unlisted at hn ⊢
      omega⟩
end
structure Own (ops : Array Oper) (z : Nat) (D : Nat → Nat) (T : Nat → Nat → Nat → Value → World → Prop) (a0 : Act) (W : World) (listed : Array Bool) (a : Act) (w : World) (lo hi : Nat → Nat) : Prop where
  low : Below W.heap.size W w
  defers : a.defers = a0.defers
  size : a.tmps.size = a0.tmps.size
  old : ∀ s, (∀ i, i < z → listed.getD i false = true → D i ≠ s) → a.tmps.getD s undef = a0.tmps.getD s undef
  has : ∀ i, i < z → listed.getD i false = true → W.heap.size ≤ lo i ∧ lo i ≤ hi i ∧ hi i ≤ w.heap.size ∧ T i (lo i) (hi i) (a.tmps.getD (D i) undef) w
  apart : ∀ i j, i < z → j < z → i ≠ j → listed.getD i false = true → listed.getD j false = true → hi i ≤ lo j ∨ hi j ≤ lo i
theorem put_same {a : Act} {d : Nat} {v : Value} (h : d < a.tmps.size) : (a.put (some d) v).tmps.getD d undef = v := by
  simp [Act.put, Array.getD_eq_getD_getElem?, h]
theorem put_far {a : Act} {d s : Nat} {v : Value} (h : d ≠ s) : (a.put (some d) v).tmps.getD s undef = a.tmps.getD s undef := by
  simp [Act.put, Array.getD_eq_getD_getElem?, Array.getElem?_setIfInBounds_ne h]
theorem put_size {a : Act} {d : Nat} {v : Value} : (a.put (some d) v).tmps.size = a.tmps.size := by simp [Act.put]
def backward (ops : List Oper) : Bool := (List.range ops.length).all fun i => match ops.toArray[i]? with | some o => o.after.all (fun e => !Region.binds .any e || decide (e.on < i)) | none => true
theorem wp_region_own {P : Program} {Q : Exit → Act → World → Prop} {id : Nat} {a0 : Act} {w0 : World} {l : List Oper} (z : Nat) (D : Nat → Nat) (T : Nat → Nat → Nat → Value → World → Prop) (hm : P.follows .mixedOrders = true) (hz : z + 1 = l.length)
    (hD : ∀ i, i < z → ∃ o, l.toArray[i]? = some o ∧ o.dst = some (D i) ∧ o.guard = none) (hinj : ∀ i j, i < z → j < z → D i = D j → i = j) (hDs : ∀ i, i < z → D i < a0.tmps.size) (hA : awaited .any l.toArray z = true) (hbk : backward l = true)
    (hT : ∀ i lo hi v w w', T i lo hi v w → hi ≤ w.heap.size → Below w.heap.size w w' → T i lo hi v w')
    (hop : ∀ i o listed a w lo hi, i < z → l.toArray[i]? = some o → Own l.toArray z D T a0 w0.drew listed a w lo hi → (∀ e ∈ o.after, Region.binds .any e = true → listed.getD e.on false = true) →
      Oper.wp P o a w (fun a' w' => ∃ v, a' = a.put (some (D i)) v ∧ Below w.heap.size w w' ∧ T i w.heap.size w'.heap.size v w') (Nrm fun _ _ => False))
    (hlast : ∀ o listed a w lo hi, l.toArray[z]? = some o → Own l.toArray z D T a0 w0.drew listed a w lo hi → (∀ i, i < z → listed.getD i false = true) → wpOp P l.toArray Q z (Q .normal) a w) :
    (Code.region id l.toArray true).wp P Q a0 w0 := by
  have hzs : z < l.toArray.size := by rw [List.size_toArray]; omega
  refine wp_region_any hm ?_
  refine wpAny_inv (md := .any) (fun listed a w => ((∀ i, i < l.length → listed.getD i true = true) ∧ Q .normal a w) ∨ (listed.getD z true = false ∧ listed.size = l.length ∧ Closed .any l.toArray listed ∧ ∃ lo hi, Own l.toArray z D T a0 w0.drew listed a w lo hi)) ?_ ?_ _ _ _ _ ?_ (.inr ⟨?_, by simp, closed_none, fun _ => 0, fun _ => 0, ⟨Below.refl _ _, rfl, rfl, fun _ _ => rfl, ?_, ?_⟩⟩)
  · rintro listed a w i (⟨h1, h2⟩ | ⟨h1, hls, hc, lo, hi, h2⟩) hir
    · exfalso
      obtain ⟨h0, o, ho, hall⟩ := mem_ready.1 hir
      have hlt : i < l.toArray.size := (Array.getElem?_eq_some_iff.1 ho).1
      rw [h1 i (by simpa using hlt)] at h0
      cases h0
    · obtain ⟨h0, o, ho, hall⟩ := mem_ready.1 hir
      have hlt : i < l.toArray.size := (Array.getElem?_eq_some_iff.1 ho).1
      rw [List.size_toArray] at hlt
      by_cases hiz : i = z
      · subst hiz
        have hal := all_listed hA hc hir
        refine wpOp_mono (fun a' w' hk => .inl ⟨fun j hj => ?_, hk⟩) (hlast o listed a w lo hi ho h2 hal)
        by_cases hji : j = i
        · subst hji
          rw [Array.getD_eq_getD_getElem?, Array.getElem?_setIfInBounds_self_of_lt (by omega)]
          rfl
        · rw [getD_set_ne true (Ne.symm hji)]
          have := hal j (by omega)
          rw [Array.getD_eq_getD_getElem?, Array.getElem?_eq_getElem (show j < listed.size by omega)] at this ⊢
          exact this
      · have hiz2 : i < z := by omega
        obtain ⟨o', ho', hdst, hg⟩ := hD i hiz2
        rw [ho] at ho'
        cases ho'
        have h3 := hop i o listed a w lo hi hiz2 ho h2 hall
        have h4 : wpOp P l.toArray (Nrm fun _ _ => False) i (fun a' w' => ∃ v, a' = a.put (some (D i)) v ∧ Below w.heap.size w w' ∧ T i w.heap.size w'.heap.size v w') a w := by
          unfold wpOp
          have hw : Region.wanted o (yielded l.toArray a.tmps) = true := by unfold Region.wanted; rw [hg]
          simp only [ho, hw, if_true]
          exact .inl h3
        refine wpOp_go ho rfl rfl rfl h4 ?_
        rintro u Dd w' ⟨v, he, hb, ht⟩
        rw [he]
        have hun : listed.getD i false = false := getD_tf h0
        have hset : ∀ j, (listed.setIfInBounds i true).getD j false = true → j = i ∨ (j ≠ i ∧ listed.getD j false = true) := fun j hj => by
          by_cases hji : j = i
          · exact .inl hji
          · rw [getD_set_ne false (Ne.symm hji)] at hj
            exact .inr ⟨hji, hj⟩
        have hDi := hDs i hiz2
        refine .inr ⟨by rw [getD_set_ne true hiz]; exact h1, by simpa using hls, closed_set hc hir, fun j => if j = i then w.heap.size else lo j, fun j => if j = i then w'.heap.size else hi j,
          ⟨h2.low.trans (hb.mono h2.low.size), h2.defers, by rw [put_size]; exact h2.size, fun s hs => ?_, fun j hj hl => ?_, fun j k hj hk hjk hlj hlk => ?_⟩⟩
        · have hne : D i ≠ s := hs i hiz2 (by rw [Array.getD_eq_getD_getElem?, Array.getElem?_setIfInBounds_self_of_lt (by omega)]; rfl)
          rw [put_far hne]
          exact h2.old s fun j hj hl => hs j hj (getD_set_true hl)
        · rcases hset j hl with rfl | ⟨hji, hl⟩
          · rw [if_pos rfl, if_pos rfl, put_same (by rw [h2.size]; exact hDi)]
            exact ⟨h2.low.size, hb.size, Nat.le_refl _, ht⟩
          · rw [if_neg hji, if_neg hji, put_far (fun e => hji (hinj j i hj hiz2 e.symm))]
            obtain ⟨k1, k2, k3, k4⟩ := h2.has j hj hl
            exact ⟨k1, k2, Nat.le_trans k3 hb.size, hT _ _ _ _ _ _ k4 k3 hb⟩
        · rcases hset j hlj with h7 | ⟨hji, hlj2⟩
          · rw [if_pos h7, if_pos h7]
            rcases hset k hlk with h8 | ⟨hki, hlk2⟩
            · exact absurd (h7.trans h8.symm) hjk
            · rw [if_neg hki, if_neg hki]
              exact .inr (h2.has k hk hlk2).2.2.1
          · rw [if_neg hji, if_neg hji]
            rcases hset k hlk with h8 | ⟨hki, hlk2⟩
            · rw [if_pos h8, if_pos h8]
              exact .inl (h2.has j hj hlj2).2.2.1
            · rw [if_neg hki, if_neg hki]
              exact h2.apart j k hj hk hjk hlj2 hlk2
  · rintro listed a w (⟨h1, h2⟩ | ⟨h1, hls, hc, lo, hi, h2⟩) hr
    · exact h2
    · exfalso
      have key : ∀ m, m ≤ l.length → ∀ i, i < m → listed.getD i false = true := by
        intro m
        induction m with
        | zero => intro _ i hi; omega
        | succ m ih =>
          intro hm1 i him
          rcases Nat.lt_or_ge i m with h | h
          · exact ih (by omega) i h
          · obtain rfl : i = m := by omega
            refine Decidable.byContradiction fun hn => ?_
            have hir : i ∈ Region.ready .any l.toArray listed := by
              refine mem_ready.2 ⟨?_, l.toArray[i]'(by rw [List.size_toArray]; omega), Array.getElem?_eq_getElem _, fun e he hb => ?_⟩
              · rw [Array.getD_eq_getD_getElem?, Array.getElem?_eq_getElem (show i < listed.size by omega)] at hn ⊢
                simpa using hn
              · have h5 := List.all_eq_true.1 hbk i (List.mem_range.2 (by omega))
                rw [Array.getElem?_eq_getElem (show i < l.toArray.size by rw [List.size_toArray]; omega)] at h5
                have h6 := Array.all_eq_true_iff_forall_mem.1 h5 e he
                rw [hb] at h6
                exact ih (by omega) e.on (by simpa using h6)
            rw [hr] at hir
            cases hir
      have := key l.length (Nat.le_refl _) z (by omega)
      rw [getD_tf h1] at this
      cases this
  · unfold unlisted
    refine Nat.le_trans List.countP_le_length ?_
    rw [List.length_range]
    exact Nat.le_refl _
  · have := last_none (n := l.length) (by omega)
    rw [← hz, Nat.add_sub_cancel] at this
    rw [List.size_toArray, ← hz]
    exact this
  · intro i hi hl
    rw [Array.getD_eq_getD_getElem?, Array.getElem?_replicate] at hl
    split at hl <;> cases hl
  · intro i j hi hj hij hl
    rw [Array.getD_eq_getD_getElem?, Array.getElem?_replicate] at hl
    split at hl <;> cases hl
end Go.Proofs.Ytcjcjkomcolgeaa

/-
  Drawn regions in which stores follow one another at the end: the readers are taken first. No condition.
-/
namespace Go.Proofs.Ytcjcjkomcolgeaa
open Go.RowKit
section
variable {P : Program} {ops : Array Oper} {md : Region.Mode} {N : Act → World → Prop} {C : World → Prop}
def anyG (P : Program) (md : Region.Mode) (ops : Array Oper) (N : Act → World → Prop) (C : World → Prop) (z : Nat) : Nat → Array Bool → Act → World → Prop
  | 0, listed, a, w => listed.getD z false = true ∧ Region.ready md ops listed = [] ∧ N a w
  | n + 1, listed, a, w => (listed.getD z true = false → C w) ∧ (Region.ready md ops listed = [] → N a w) ∧ ∀ i ∈ Region.ready md ops listed, wpOp P ops (Nrm N) i (anyG P md ops N C z n (listed.setIfInBounds i true)) a w
theorem anyG_any {z : Nat} {Q : Exit → Act → World → Prop} (hN : ∀ a w, N a w → Q .normal a w) : ∀ {n : Nat} {listed : Array Bool} {a : Act} {w : World}, anyG P md ops N C z n listed a w → wpAny P md ops Q n listed a w
  | 0, _, _, _, h => ⟨h.2.1, hN _ _ h.2.2⟩
  | n + 1, listed, a, w, h => ⟨fun h0 => hN _ _ (h.2.1 h0), fun i hi => by
      obtain ⟨_, o, ho, _⟩ := mem_ready.1 hi
      exact wpOp_go ho rfl rfl rfl (h.2.2 i hi) fun _ _ _ hk => anyG_any hN hk⟩
theorem anyG_first {z i : Nat} {oi : Oper} {v : Value} (hA : awaited md ops z = true) (hi : ops[i]? = some oi) (hiz : i < z) (hsel : ∀ (j : Nat) (o : Oper) cs b, ops[j]? = some o → o.op ≠ .select cs b) :
    ∀ (n : Nat) (listed : Array Bool) (a : Act) (w : World), Closed md ops listed → listed.getD z true = false →
      (∀ j oj, ops[j]? = some oj → j ≠ i → listed.getD j true = false → (∀ e ∈ oj.after, Region.binds md e = true → e.on ≠ i) → oi.apart ops oj = true) →
      i ∈ Region.ready md ops listed → YieldsC P ops C oi v a → C w →
      anyG P md ops N C z n (listed.setIfInBounds i true) (a.put oi.dst v) w → anyG P md ops N C z (n + 1) listed a w
  | n, listed, a, w, hc, hz, hfree, hr, hy, hC, H => by
    refine ⟨fun _ => hC, fun h => (by rw [h] at hr; cases hr), fun j hj => ?_⟩
    by_cases hji : j = i
    · subst hji; exact hy.wpOp hi hC H
    · have hjz : j ≠ z := by
        rintro rfl
        have h1 := all_listed hA hc hj i hiz
        rw [getD_tf (mem_ready.1 hr).1] at h1
        cases h1
      have hjr := ready_mono (i := i) hj hji
      match n, H with
      | 0, H =>
        rw [H.2.1] at hjr
        cases hjr
      | n + 1, H =>
        obtain ⟨hjun, oj, hoj, hall⟩ := mem_ready.1 hj
        have hiun := (mem_ready.1 hr).1
        have hnot : ∀ e ∈ oj.after, Region.binds md e = true → e.on ≠ i := fun e he hb heq => by
          have h1 := hall e he hb
          rw [heq] at h1
          rw [getD_tf hiun] at h1
          cases h1
        obtain ⟨h1, h2, h3⟩ := Oper.apart_spec (hfree j oj hoj hji hjun hnot)
        refine wpOp_go hoj (execOp_put oj (fun cs b => hsel j oj cs b hoj) a oi.dst v h1) (wanted_put oj a oi.dst v h1) (by cases oi.dst <;> rfl) (H.2.2 j hjr) fun u D w' hk => ?_
        have hzj : (listed.setIfInBounds j true).getD z true = false := by rw [getD_set_ne true hjz]; exact hz
        have hCw : C w' := by
          cases n with
          | zero =>
            have h4 := hk.1
            rw [getD_set_ne false hjz, getD_set_ne false (by omega), getD_tf hz] at h4
            cases h4
          | succ n => exact hk.1 (by rw [getD_set_ne true hjz, getD_set_ne true (by omega)]; exact hz)
        refine anyG_first (v := v) hA hi hiz hsel n _ _ _ (closed_set hc hj) hzj (fun k ok hk hki hun hno => hfree k ok hk hki ?_ hno) (ready_mono hr (Ne.symm hji)) ?_ hCw ?_
        · by_cases hjk : j = k
          · subst hjk; exact hjun
          · rw [getD_set_ne true hjk] at hun; exact hun
        · have e1 : execOp (Act.put { a with defers := D } oj.dst u).eval oi = execOp a.eval oi := execOp_put oi (fun cs b => hsel i oi cs b hi) { a with defers := D } oj.dst u h3
          have e2 := wanted_put oi { a with defers := D } oj.dst u h3
          rcases hy with ⟨y1, y2⟩ | ⟨y1, y2⟩
          · exact .inl ⟨e2.trans y1, fun w hw => by rw [e1]; exact y2 w hw⟩
          · exact .inr ⟨e2.trans y1, y2⟩
        · rw [Array.setIfInBounds_comm _ _ hji]
          have e3 : ({ a.put oi.dst v with defers := D } : Act) = Act.put { a with defers := D } oi.dst v := by cases oi.dst <;> rfl
          rw [e3, Act.put_comm _ v u h2] at hk
          exact hk
theorem anyG_heads {z : Nat} (hA : awaited md ops z = true) (hs : Region.noSelect ops = true) (n : Nat) (w : World) (hC : C w) : ∀ (ks : List Nat) (listed : Array Bool) (a : Act), Closed md ops listed → listed.getD z true = false → ks.all (fun k => decide (k < z)) = true →
    headsN md ops ks listed = true → wpQuiet P ops C (fun a' => anyG P md ops N C z n (headsL ks listed) a' w) (headOps ops ks) a → anyG P md ops N C z (n + ks.length) listed a w
  | [], _, _, _, _, _, _, h => h
  | k :: ks, listed, a, hc, hz, hlt, hB, h => by
    cases h0 : ops[k]? with
    | none => simp [headsN, h0] at hB
    | some o =>
    simp only [headsN, Bool.and_eq_true, h0] at hB
    obtain ⟨hr, hf, hv, hB⟩ := hB
    rw [List.all_cons, Bool.and_eq_true, decide_eq_true_eq] at hlt
    have hr' : k ∈ Region.ready md ops listed := by simpa using hr
    have hc' := closed_set hc hr'
    have hz' : (listed.setIfInBounds k true).getD z true = false := by rw [getD_set_ne true (by omega)]; exact hz
    rw [headOps, List.filterMap_cons, h0] at h
    unfold wpQuiet at h
    by_cases hw : Region.wanted o (yielded ops a.tmps) = true
    · rw [if_pos hw] at h
      obtain ⟨v, h1, h2⟩ := h
      exact anyG_first hA h0 hlt.1 (Region.noSelect_spec hs) (n + ks.length) listed a w hc hz (Region.free_spec h0 hf) hr' (yieldsN_of hv hw h1) hC (anyG_heads hA hs n w hC ks _ _ hc' hz' hlt.2 hB h2)
    · rw [if_neg hw] at h
      exact anyG_first hA h0 hlt.1 (Region.noSelect_spec hs) (n + ks.length) listed a w hc hz (Region.free_spec h0 hf) hr' (.inr ⟨by simpa using hw, rfl⟩) hC (anyG_heads hA hs n w hC ks _ _ hc' hz' hlt.2 hB h)
theorem anyG_val {z n i : Nat} {o : Oper} {v : Value} {listed : Array Bool} {a : Act} {w w' : World} (d : Option Tmp) (hr : Region.ready md ops listed = [i]) (hi : ops[i]? = some o) (hd : o.dst = d) (hw : Region.wanted o (yielded ops a.tmps) = true) (hC : listed.getD z true = false → C w)
    (hrun : (execOp a.eval o).run P w = .ok (.value v) w') (h : anyG P md ops N C z n (listed.setIfInBounds i true) (a.put d v) w') : anyG P md ops N C z (n + 1) listed a w := by
  subst hd
  refine ⟨hC, fun h0 => (by rw [h0] at hr; cases hr), fun j hj => ?_⟩
  rw [hr] at hj
  obtain rfl : j = i := by simpa using hj
  unfold wpOp
  simp only [hi, hw, if_true]
  refine .inl ?_
  unfold Oper.wp
  rw [hrun]
  exact h
theorem anyG_store {z n i : Nat} {o : Oper} {listed : Array Bool} {a : Act} {w w' : World} (hr : Region.ready md ops listed = [i]) (hi : ops[i]? = some o) (hd : o.dst = none) (hw : Region.wanted o (yielded ops a.tmps) = true) (hC : listed.getD z true = false → C w)
    (hrun : (execOp a.eval o).run P w = .ok .skip w') (h : anyG P md ops N C z n (listed.setIfInBounds i true) a w') : anyG P md ops N C z (n + 1) listed a w := by
  refine ⟨hC, fun h0 => (by rw [h0] at hr; cases hr), fun j hj => ?_⟩
  rw [hr] at hj
  obtain rfl : j = i := by simpa using hj
  unfold wpOp
  simp only [hi, hw, if_true]
  refine .inl ?_
  unfold Oper.wp
  rw [hrun]
  show anyG P md ops N C z n _ (a.put o.dst undef) w'
  rw [hd]
  exact h
theorem anyG_two {z n i j : Nat} {listed : Array Bool} {a : Act} {w : World} (hr : Region.ready md ops listed = [i, j]) (hC : listed.getD z true = false → C w)
    (h1 : wpOp P ops (Nrm N) i (anyG P md ops N C z n (listed.setIfInBounds i true)) a w) (h2 : wpOp P ops (Nrm N) j (anyG P md ops N C z n (listed.setIfInBounds j true)) a w) : anyG P md ops N C z (n + 1) listed a w := by
  refine ⟨hC, fun h0 => (by rw [h0] at hr; cases hr), fun k hk => ?_⟩
  rw [hr] at hk
  simp only [List.mem_cons, List.not_mem_nil, or_false] at hk
  rcases hk with rfl | rfl
  · exact h1
  · exact h2
theorem anyG_done {z : Nat} {listed : Array Bool} {a : Act} {w : World} (hr : Region.ready md ops listed = []) (hz : listed.getD z false = true) (h : N a w) : anyG P md ops N C z 0 listed a w := ⟨hz, hr, h⟩
end
theorem wp_region_upto {P : Program} {N : Act → World → Prop} {C : World → Prop} {Q : Exit → Act → World → Prop} {id : Nat} {a : Act} {w : World} {l : List Oper} (z : Nat) (ks : List Nat) (hm : P.follows .mixedOrders = true)
    (hB : ((Region.noSelect l.toArray && (decide (ks.length ≤ l.length) && headsN .any l.toArray ks (Array.replicate l.length false))) && ((awaited .any l.toArray z && decide (z < l.length)) && ks.all (fun k => decide (k < z)))) = true) (hC : C w.drew) (hN : ∀ a w, N a w → Q .normal a w)
    (h : wpQuiet P l.toArray C (fun a' => anyG P .any l.toArray N C z (l.length - ks.length) (headsL ks (Array.replicate l.length false)) a' w.drew) (headOps l.toArray ks) a) : (Code.region id l.toArray true).wp P Q a w := by
  simp only [Bool.and_eq_true] at hB
  obtain ⟨⟨hs, hn, hB⟩, ⟨hA, hp⟩, hlt⟩ := hB
  have hn := of_decide_eq_true hn
  have hp := of_decide_eq_true hp
  refine wp_region_any hm (anyG_any (C := C) (z := z) hN ?_)
  have hz0 : (Array.replicate l.length false).getD z true = false := by
    rw [Array.getD_eq_getD_getElem?, Array.getElem?_replicate, if_pos hp]
    rfl
  have := anyG_heads (P := P) (md := .any) (N := N) hA hs (l.length - ks.length) w.drew hC ks (Array.replicate l.length false) a closed_none hz0 hlt hB h
  rw [show l.length - ks.length + ks.length = l.length by omega] at this
  rw [List.size_toArray]
  exact this
end Go.Proofs.Ytcjcjkomcolgeaa

/-
  Drawn regions in which stores follow one another at the end: in the midst of such a region, operations that read no memory are taken first. No condition.
-/
namespace Go.Proofs.Ytcjcjkomcolgeaa
open Go.RowKit
section
variable {P : Program} {ops : Array Oper} {md : Region.Mode} {N : Act → World → Prop} {C : World → Prop}
theorem getD_set_eq {l : Array Bool} {j : Nat} : (l.setIfInBounds j true).getD j true = true := by
  rw [Array.getD_eq_getD_getElem?]
  rcases Nat.lt_or_ge j l.size with h | h
  · rw [Array.getElem?_setIfInBounds_self_of_lt h]; rfl
  · rw [Array.getElem?_eq_none (by simpa using h)]; rfl
theorem anyG_pure {z i : Nat} {oi : Oper} {v : Value} (hi : ops[i]? = some oi) (hiz : i ≠ z) (hsel : ∀ (j : Nat) (o : Oper) cs b, ops[j]? = some o → o.op ≠ .select cs b) :
    ∀ (n : Nat) (listed : Array Bool) (a : Act) (w : World), Closed md ops listed → (listed.getD z true = false → C w) →
      (∀ j oj, ops[j]? = some oj → j ≠ i → listed.getD j true = false → (∀ e ∈ oj.after, Region.binds md e = true → e.on ≠ i) → oi.apart ops oj = true) →
      i ∈ Region.ready md ops listed → YieldsC P ops (fun _ => True) oi v a →
      anyG P md ops N C z n (listed.setIfInBounds i true) (a.put oi.dst v) w → anyG P md ops N C z (n + 1) listed a w
  | n, listed, a, w, hc, hC, hfree, hr, hy, H => by
    refine ⟨hC, fun h => (by rw [h] at hr; cases hr), fun j hj => ?_⟩
    by_cases hji : j = i
    · subst hji; exact hy.wpOp hi trivial H
    · have hjr := ready_mono (i := i) hj hji
      match n, H with
      | 0, H =>
        rw [H.2.1] at hjr
        cases hjr
      | n + 1, H =>
        obtain ⟨hjun, oj, hoj, hall⟩ := mem_ready.1 hj
        have hiun := (mem_ready.1 hr).1
        have hnot : ∀ e ∈ oj.after, Region.binds md e = true → e.on ≠ i := fun e he hb heq => by
          have h1 := hall e he hb
          rw [heq] at h1
          rw [getD_tf hiun] at h1
          cases h1
        obtain ⟨h1, h2, h3⟩ := Oper.apart_spec (hfree j oj hoj hji hjun hnot)
        refine wpOp_go hoj (execOp_put oj (fun cs b => hsel j oj cs b hoj) a oi.dst v h1) (wanted_put oj a oi.dst v h1) (by cases oi.dst <;> rfl) (H.2.2 j hjr) fun u D w' hk => ?_
        have hCw : (listed.setIfInBounds j true).getD z true = false → C w' := fun h => by
          have hjz : j ≠ z := by
            rintro rfl
            rw [getD_set_eq] at h
            cases h
          rw [getD_set_ne true hjz] at h
          cases n with
          | zero =>
            have h4 := hk.1
            rw [getD_set_ne false hjz, getD_set_ne false hiz, getD_tf h] at h4
            cases h4
          | succ n => exact hk.1 (by rw [getD_set_ne true hjz, getD_set_ne true hiz]; exact h)
        refine anyG_pure (v := v) hi hiz hsel n _ _ _ (closed_set hc hj) hCw (fun k ok hk hki hun hno => hfree k ok hk hki ?_ hno) (ready_mono hr (Ne.symm hji)) ?_ ?_
        · by_cases hjk : j = k
          · subst hjk; exact hjun
          · rw [getD_set_ne true hjk] at hun; exact hun
        · have e1 : execOp (Act.put { a with defers := D } oj.dst u).eval oi = execOp a.eval oi := execOp_put oi (fun cs b => hsel i oi cs b hi) { a with defers := D } oj.dst u h3
          have e2 := wanted_put oi { a with defers := D } oj.dst u h3
          rcases hy with ⟨y1, y2⟩ | ⟨y1, y2⟩
          · exact .inl ⟨e2.trans y1, fun w hw => by rw [e1]; exact y2 w hw⟩
          · exact .inr ⟨e2.trans y1, y2⟩
        · rw [Array.setIfInBounds_comm _ _ hji]
          have e3 : ({ a.put oi.dst v with defers := D } : Act) = Act.put { a with defers := D } oi.dst v := by cases oi.dst <;> rfl
          rw [e3, Act.put_comm _ v u h2] at hk
          exact hk
theorem anyG_pures {z : Nat} (hs : Region.noSelect ops = true) (n : Nat) (w : World) : ∀ (ks : List Nat) (listed : Array Bool) (a : Act), Closed md ops listed → (listed.getD z true = false → C w) → ks.all (fun k => decide (k ≠ z)) = true →
    headsN md ops ks listed = true → wpQuiet P ops (fun _ => True) (fun a' => anyG P md ops N C z n (headsL ks listed) a' w) (headOps ops ks) a → anyG P md ops N C z (n + ks.length) listed a w
  | [], _, _, _, _, _, _, h => h
  | k :: ks, listed, a, hc, hC, hlt, hB, h => by
    cases h0 : ops[k]? with
    | none => simp [headsN, h0] at hB
    | some o =>
    simp only [headsN, Bool.and_eq_true, h0] at hB
    obtain ⟨hr, hf, hv, hB⟩ := hB
    rw [List.all_cons, Bool.and_eq_true, decide_eq_true_eq] at hlt
    have hr' : k ∈ Region.ready md ops listed := by simpa using hr
    have hc' := closed_set hc hr'
    have hC' : (listed.setIfInBounds k true).getD z true = false → C w := by rw [getD_set_ne true hlt.1]; exact hC
    rw [headOps, List.filterMap_cons, h0] at h
    unfold wpQuiet at h
    by_cases hw : Region.wanted o (yielded ops a.tmps) = true
    · rw [if_pos hw] at h
      obtain ⟨v, h1, h2⟩ := h
      exact anyG_pure h0 hlt.1 (Region.noSelect_spec hs) (n + ks.length) listed a w hc hC (Region.free_spec h0 hf) hr' (yieldsN_of hv hw h1) (anyG_pures hs n w ks _ _ hc' hC' hlt.2 hB h2)
    · rw [if_neg hw] at h
      exact anyG_pure h0 hlt.1 (Region.noSelect_spec hs) (n + ks.length) listed a w hc hC (Region.free_spec h0 hf) hr' (.inr ⟨by simpa using hw, rfl⟩) (anyG_pures hs n w ks _ _ hc' hC' hlt.2 hB h)
def closedB (md : Region.Mode) (ops : Array Oper) (listed : Array Bool) : Bool := (List.range ops.size).all fun k => match ops[k]? with | some o => !listed.getD k false || o.after.all (fun e => !Region.binds md e || listed.getD e.on false) | none => true
theorem closed_of {listed : Array Bool} (h : closedB md ops listed = true) : Closed md ops listed := by
  intro k o hk hl e he hb
  have hlt : k < ops.size := (Array.getElem?_eq_some_iff.1 hk).1
  have h1 := List.all_eq_true.1 h k (List.mem_range.2 hlt)
  rw [hk] at h1
  simp only [hl, Bool.not_true, Bool.false_or] at h1
  have h2 := Array.all_eq_true_iff_forall_mem.1 h1 e he
  rw [hb] at h2
  simpa using h2
end
end Go.Proofs.Ytcjcjkomcolgeaa

/-
  append on slices that are read as lists of elements. No condition.
-/
namespace Go.Proofs.Ytcjcjkomcolgeaa
open Go.RowKit

theorem add_at (b off n : Nat) : (⟨b, off, none⟩ : Addr).add n = ⟨b, off + n, none⟩ := by
  unfold Addr.add
  split
  · rename_i h; rw [h]; rfl
  · rfl
def Sl2 (w : World) (D base size n : Nat) (g : Nat → Nat → Value) (v : Value) : Prop :=
  ∃ A c, v = .slice A n c ∧ n ≤ maxLen ∧ ∀ i, i < n → ∃ b off, A = some ⟨b, off, none⟩ ∧ (b < D ∨ base ≤ b) ∧ b < w.heap.size ∧ ∀ j, j < size → w.cell? ⟨b, off + (i * size + j), none⟩ = some (g i j)
theorem Sl2.sl {w : World} {D base size n : Nat} {g : Nat → Nat → Value} {v : Value} (h : Sl2 w D base size n g v) : Sl w w.heap.size size n g v := by
  obtain ⟨A, c, hv, hm, h1⟩ := h
  refine ⟨A, c, hv, hm, fun i hi => ?_⟩
  obtain ⟨b, off, ha, _, hb, h3⟩ := h1 i hi
  exact ⟨b, off, ha, hb, h3⟩
theorem Sl2.keep {w w' : World} {D base size n : Nat} {g : Nat → Nat → Value} {v : Value} (h : Sl2 w D base size n g v) (hs : w.heap.size ≤ w'.heap.size) (hk : ∀ b, (b < D ∨ base ≤ b) → b < w.heap.size → w'.heap[b]? = w.heap[b]?) : Sl2 w' D base size n g v := by
  obtain ⟨A, c, hv, hm, h1⟩ := h
  refine ⟨A, c, hv, hm, fun i hi => ?_⟩
  obtain ⟨b, off, ha, hb, hl, h3⟩ := h1 i hi
  exact ⟨b, off, ha, hb, by omega, fun j hj => by rw [World.cell?_of_block (w := w) (hk b hb hl)]; exact h3 j hj⟩
theorem Sl2.set {w : World} {D base size n : Nat} {g : Nat → Nat → Value} {v : Value} (h : Sl2 w D base size n g v) {a : Addr} (h1 : D ≤ a.block) (h2 : a.block < base) (u : Value) : Sl2 (w.setCell a u) D base size n g v :=
  h.keep (by simp) fun b hb _ => Below.heap_setCell w a u b (by omega)
theorem Sl2.later {w w' : World} {D base size n : Nat} {g : Nat → Nat → Value} {v : Value} (h : Sl2 w D base size n g v) (hb : Below w.heap.size w w') : Sl2 w' D base size n g v :=
  h.keep hb.size fun b _ hl => hb.block b hl
section
variable {t e : TypeId} {i : TypeInfo} {z : Value} {size bytes : Nat}
structure Elem (t e : TypeId) (i : TypeInfo) (z : Value) (size bytes : Nat) : Prop where
  ht : Try.prog.underlying t = some (.slice e)
  hi : Try.prog.info? e = some i
  hz : i.zero = some z
  hsize : i.size = size
  hby : i.bytes = bytes
  hzs : z.cells.size = size
  hsz : 0 < size

end

noncomputable def appF (ats : Array TypeId) (ty : TypeId) (args : Array Value) : Sem Value := Builtin.append_ ats ty args
theorem app_named {ats : Array TypeId} {ty : TypeId} {cs : Array Bool} {args : Array Value} : builtin .append ats ty cs args = (do pure (.value (← appF ats ty args))) := rfl

end Go.Proofs.Ytcjcjkomcolgeaa

/-
  Rows that a function builds by append, element by element, of any element type. No condition.
-/
namespace Go.Proofs.Ytcjcjkomcolgeaa
open Go.RowKit

def OwnE {α : Type} (enc : α → List Value) (size : Nat) (w : World) (base e : Nat) (V : Value) (l : List α) : Prop := w.ownsRow base e size V l.length (l.flatMap enc)
section
variable {α : Type} {enc : α → List Value} {size : Nat} {w w' : World} {base t e : Nat} {V : Value} {l : List α}
theorem ownE_nil (enc : α → List Value) (size : Nat) (w : World) (base e : Nat) : OwnE enc size w base e (.slice none 0 0) ([] : List α) := ⟨by simp, .inl ⟨rfl, rfl⟩⟩
theorem OwnE.later (h : OwnE enc size w base e V l) (hb : Below w.heap.size w w') : OwnE enc size w' base e V l :=
  World.ownsRow.kept h (row := none) ⟨hb.os, hb.tape, hb.output, hb.size, fun i hi _ => hb.block i hi⟩ (by rcases V.ownBlock with _ | _ <;> simp)
theorem OwnE.set (h : OwnE enc size w base e V l) {a : Addr} (ha : a.block < base) (u : Value) : OwnE enc size (w.setCell a u) base e V l := by
  refine World.ownsRow.kept h (row := some a.block) ⟨rfl, rfl, rfl, by simp, fun i _ hi => Below.heap_setCell w a u i (fun e => hi (by rw [e]))⟩ ?_
  refine .inr fun hk => ?_
  have := World.ownsRow.lt h _ hk
  omega
theorem OwnE.drew (h : OwnE enc size w base e V l) : OwnE enc size w.drew base e V l := h.later ((Below.refl _ _).drew)
theorem flatMap_at {enc : α → List Value} {size : Nat} (hs : ∀ x, (enc x).length = size) : ∀ (l : List α) (k j : Nat) (hk : k < l.length), j < size → (l.flatMap enc)[k * size + j]? = (enc l[k])[j]?
  | [], k, _, hk, _ => absurd hk (Nat.not_lt_zero k)
  | x :: l, 0, j, _, hj => by
    rw [List.flatMap_cons, Nat.zero_mul, Nat.zero_add, List.getElem?_append_left (by rw [hs]; exact hj)]
    rfl
  | x :: l, k + 1, j, hk, hj => by
    rw [List.flatMap_cons, List.getElem?_append_right (by rw [hs, Nat.add_mul]; omega), hs, show (k + 1) * size + j - size = k * size + j by rw [Nat.add_mul]; omega]
    exact flatMap_at hs l k j (by simpa using hk) hj
theorem OwnE.sl (h : OwnE enc size w base e V l) (hs : ∀ x, (enc x).length = size) : ∃ A c, V = .slice A l.length c ∧ ∀ k (hk : k < l.length), ∃ b, A = some ⟨b, 0, none⟩ ∧ base ≤ b ∧ b < w.heap.size ∧ ∀ j, j < size → w.cell? ⟨b, k * size + j, none⟩ = (enc l[k])[j]? := by
  have hc := h.2
  rcases hc with ⟨rfl, hl⟩ | ⟨b, cap, cur, hv, hb, hg, hcap, hcm, _⟩
  · exact ⟨none, 0, by rw [hl], fun k hk => by omega⟩
  · refine ⟨some ⟨b, 0, none⟩, cap, hv, fun k hk => ⟨b, rfl, hb, (Array.getElem?_eq_some_iff.1 hg).1, fun j hj => ?_⟩⟩
    have e1 := flatMap_at hs l k j hk hj
    have hlt : j < (enc l[k]).length := by rw [hs]; exact hj
    rw [List.getElem?_eq_getElem hlt] at e1 ⊢
    have := World.ownsRow.cells h (g := b) (by rw [hv]; rfl) _ _ e1
    rw [add_at, Nat.zero_add] at this
    exact this
theorem OwnE.grown {B : Nat} {a : World} (h : OwnE enc size w base e V l) (hg : w.grownBy w' V.ownBlock) (hB : B ≤ base) (hb : Below B a w) (hs : B ≤ w.heap.size) : Below B a w' :=
  hb.grown hg hs (fun k hk => by have := World.ownsRow.lt h k hk; omega)
theorem box_grown {b : Nat} {xs : List Value} (h : OwnE enc size w base e V l) (hg : w.grownBy w' V.ownBlock) (hx : Box w b xs) (hb : b < base) : Box w' b xs := by
  obtain ⟨t, ht⟩ := hx
  refine ⟨t, (hg.block b (Array.getElem?_eq_some_iff.1 ht).1 (fun e => ?_)).trans ht⟩
  have := World.ownsRow.lt h b e.symm
  omega
theorem run_appE {i : TypeInfo} {z : Value} {bytes : Nat} (E : Elem t e i z size bytes) (hs : ∀ x, (enc x).length = size) (h1 : ∀ x, ∀ u ∈ enc x, u.oneCell' = true) (hby : bytes ≤ 1000) (x : α) {g : Nat} (ty : TypeId) (ho : OwnE enc size w base e V l) (hx : Box w g (enc x)) (hbase : base ≤ w.heap.size) (hl : l.length ≤ 1048576) :
    ∃ g' c' w', (appF #[t, t] ty #[V, .slice (some ⟨g, 0, none⟩) 1 1]).run Try.prog w = .ok (.slice (some ⟨g', 0, none⟩) (l.length + 1) c') w' ∧ OwnE enc size w' base e (.slice (some ⟨g', 0, none⟩) (l.length + 1) c') (l ++ [x]) ∧ w.grownBy w' V.ownBlock := by
  obtain ⟨v', w', hr, h3, h2, _, _⟩ := run_append_own_at (P := Try.prog) w base t ty e i _ size bytes E.ht E.hi E.hz E.hsize E.hby E.hzs E.hsz _ _ _ ho ⟨g, 0, none⟩ 1 1 (enc x) (by rw [hs, Nat.one_mul])
    (fun j u hu => by
      rw [add_at, Nat.zero_add, hx.cell j]
      exact hu)
    (h1 x) (by simp only [maxLen]; omega) (by have := Nat.mul_le_mul_left (l.length + 1) hby; omega) hbase
  have h5 := h3.2
  rcases h5 with ⟨_, h6⟩ | ⟨g', cap, cur, hv, _⟩
  · omega
  · subst hv
    refine ⟨g', cap, w', hr, ?_, h2⟩
    rw [OwnE, List.length_append, List.flatMap_append]
    simpa using h3
end
end Go.Proofs.Ytcjcjkomcolgeaa

/-
  Ranges over functions, what a round keeps said by a relation of the caller's; plain and within a round. No condition.
-/
namespace Go.Proofs.Ytcjcjkomcolgeaa
open Go.RowKit Go.Shelf

theorem yieldAt_roundK {α : Type} {F : Fence} {n : Nat} {P : Program} {B l D' : Nat} {Kp : World → World → Prop} (hKt : ∀ A B C : World, Kp A B → Kp B C → Kp A C) (hKb : ∀ (W : World) (l : Nat) (o o' : Obj), B ≤ l → W.heap[l]? = some o → o.isCells = false → Kp W (W.putObj l o')) (hB : B ≤ l) {fn : FuncId} {tmps : Array Value} {ps : Array Tmp} {assign body : Code} (hfn : F.fn fn)
    {I : List α → World → Prop} {Ix : Code → List α → World → Prop} {xs : List α} {vs : Array Value} {Ax : Act → World → Prop} {W : World} {rec : LoopState → Option Code → Loop}
    (hrec : rec = fun st pe => { state := st, pending := pe, fn, tmps, params := ps, assign, body, defers := D' })
    (hI : ∀ A o, I xs A → I xs (A.putObj l o)) (hIx : ∀ c A o, Ix c xs A → Ix c xs (A.putObj l o)) (hvs : vs.size = ps.size)
    (hl : W.heap[l]? = some (.loop (rec .ready none)))
    (hassign : ∀ K : Act → World → Prop, (∀ a' W', KeepsFrom B W W' → Kp W W' → Ax a' W' → K a' W') → assign.wpIn (F.inRound l) n P (Exit.then K (fun _ _ _ => False)) { tmps := (ps.zip vs).foldl (fun t (p, v) => t.setIfInBounds p v) tmps, defers := [] } W)
    (hbody : ∀ a' A, Ax a' A → A.heap[l]? = some (.loop (rec .ready none)) → body.wpIn (F.inRound l) n P (ownPostG B Kp I Ix xs (A.putObj l (.loop { rec .ready none with state := .busy }))) a' (A.putObj l (.loop { rec .ready none with state := .busy }))) :
    YieldAt F n P l vs W fun e W' => (e = .returned (.bool true) ∧ (I xs W' ∧ W'.heap[l]? = some (.loop (rec .ready none)) ∧ ∀ k o, B ≤ k → k ≠ l → W.heap[k]? = some o → o.isCells = false → W'.heap[k]? = some o) ∧ Kp W W') ∨
      (e = .returned (.bool false) ∧ ∃ c, Ix c xs W' ∧ W'.heap[l]? = some (.loop (rec .done (some c))) ∧ ∀ k o, B ≤ k → k ≠ l → W.heap[k]? = some o → o.isCells = false → W'.heap[k]? = some o) := by
  have hy := run_yield (P := P) (args := vs) hl (by rw [hrec]; exact hvs)
  rw [hrec] at hy
  refine ⟨fn, _, assign, body, hy, roundIn_of_wpIn hfn (hassign _ ?_)⟩
  intro a' Wa hkf hkc hax
  have hla := hkf.same _ _ hB hl rfl
  have hlt : l < Wa.heap.size := (Array.getElem?_eq_some_iff.1 hla).1
  refine ⟨_, run_beginRound hla (by rw [hrec]), wpIn_mono (hbody a' Wa hax hla) ?_⟩
  have hl2 : (Wa.putObj l (.loop { rec .ready none with state := .busy })).heap[l]? = some (.loop { rec .ready none with state := .busy }) := World.putObj_heap_same hlt
  have hk2 : Kp W (Wa.putObj l (.loop { rec .ready none with state := .busy })) := hKt _ _ _ hkc (hKb _ _ _ _ hB hla rfl)
  have fin : ∀ (jump : Option Code) (W3 : World), KeepsFrom B (Wa.putObj l (.loop { rec .ready none with state := .busy })) W3 →
      (Instr.endRound l jump).run P W3 = .ok (.bool jump.isNone) (W3.putObj l (.loop (rec (if jump.isNone then .ready else .done) jump))) ∧
      W3.heap[l]? = some (.loop { rec .ready none with state := .busy }) ∧
      (W3.putObj l (.loop (rec (if jump.isNone then .ready else .done) jump))).heap[l]? = some (.loop (rec (if jump.isNone then .ready else .done) jump)) ∧
      (∀ k o, B ≤ k → k ≠ l → W.heap[k]? = some o → o.isCells = false → (W3.putObj l (.loop (rec (if jump.isNone then .ready else .done) jump))).heap[k]? = some o) := by
    intro jump W3 hk3
    have hl3 := hk3.same _ _ hB hl2 rfl
    have he := run_endRound (P := P) jump hl3
    rw [hrec] at he ⊢
    refine ⟨he, by rw [hrec] at hl3; exact hl3, World.putObj_heap_same (Array.getElem?_eq_some_iff.1 hl3).1, fun k o hk hkl ho hc => ?_⟩
    refine (World.putObj_heap_other hkl).trans (hk3.same k o hk ?_ hc)
    exact (World.putObj_heap_other hkl).trans (hkf.same k o hk ho hc)
  rintro e a3 W3 hp
  cases e with
  | normal =>
    obtain ⟨hk3, hkp3, hi3⟩ := hp
    obtain ⟨hr, hl3, hl4, hk4⟩ := fin none W3 hk3
    exact ⟨_, _, hr, .inl ⟨rfl, ⟨hI _ _ hi3, hl4, hk4⟩, hKt _ _ _ hk2 (hKt _ _ _ hkp3 (hKb _ _ _ _ hB hl3 rfl))⟩⟩
  | ret =>
    obtain ⟨hk3, hi3⟩ := hp
    obtain ⟨hr, hl3, hl4, hk4⟩ := fin (some .ret) W3 hk3
    exact ⟨_, _, hr, .inr ⟨rfl, .ret, hIx _ _ _ hi3, hl4, hk4⟩⟩
  | exit id =>
    obtain ⟨hk3, hi3⟩ := hp
    obtain ⟨hr, hl3, hl4, hk4⟩ := fin (some (.exit id)) W3 hk3
    exact ⟨_, _, hr, .inr ⟨rfl, .exit id, hIx _ _ _ hi3, hl4, hk4⟩⟩
  | goto t =>
    obtain ⟨hk3, hi3⟩ := hp
    obtain ⟨hr, hl3, hl4, hk4⟩ := fin (some (.goto t)) W3 hk3
    exact ⟨_, _, hr, .inr ⟨rfl, .goto t, hIx _ _ _ hi3, hl4, hk4⟩⟩
  | panic ch => exact hp.elim
  | outgrown => exact hp.elim

theorem wpIn_rangeK_out {α : Type} {F : Fence} {n : Nat} {P : Program} {g : Operand} {ps : Array Tmp} {assign body : Code} {Q : Exit → Act → World → Prop} {a : Act} {w : World}
    (hro : F.round = none) (h1 : 1 ≤ n) {gf : Nat} {lb : Array Value} (hg : a.eval g = .func (.func gf) #[] lb) (hFg : F.fn gf) (eg : ∀ args w, (callFunc gf args).run P w = .ok (.enter gf args) w)
    {encs : α → Array Value} {Kp : World → World → Prop} (hKt : ∀ A B C : World, Kp A B → Kp B C → Kp A C) (hKb : ∀ (W : World) (l : Nat) (o o' : Obj), w.heap.size ≤ l → W.heap[l]? = some o → o.isCells = false → Kp W (W.putObj l o')) {S Sp : List α → Prop} {T : List α → α → Prop} {w0 : World} (hseq : SeqB F (n - 1) P gf lb encs Kp S Sp T w0) (hb0 : Below w0.heap.size w0 w) (hps : ∀ x, (encs x).size = ps.size)
    (I : List α → World → Prop) (Ix : Code → List α → World → Prop) (hI : ∀ s A B, I s A → Below w.heap.size A B → I s B) (hIx : ∀ c s A B, Ix c s A → Below w.heap.size A B → Ix c s B) (h0 : I [] w)
    (Ax : List α → α → Act → World → Prop) (hAx : ∀ pre x a' A l o o', w.heap.size ≤ l → A.heap[l]? = some o → o.isCells = false → Ax pre x a' A → Ax pre x a' (A.putObj l o'))
    (hassign : ∀ (l : Nat) (pre : List α) (x : α) (W : World) (K : Act → World → Prop), I pre W → T pre x → (∀ a' W', KeepsFrom w.heap.size W W' → Kp W W' → Ax pre x a' W' → K a' W') →
      assign.wpIn (F.inRound l) (n - 1 - 1) P (Exit.then K (fun _ _ _ => False)) { tmps := (ps.zip (encs x)).foldl (fun t (p, v) => t.setIfInBounds p v) a.tmps, defers := [] } W)
    (hbody : ∀ (l : Nat) (pre : List α) (x : α) (a' : Act) (W : World), w.heap.size ≤ l → (∃ r, W.heap[l]? = some (.loop r)) → Ax pre x a' W → body.wpIn (F.inRound l) (n - 1 - 1) P (ownPostG w.heap.size Kp I Ix (pre ++ [x]) W) a' W)
    (hdone : ∀ (E : Nat) (xs : List α) (W : World), w.heap.size ≤ E → S xs → I xs W → W.heap[E]? = some (.deferred (some [])) → Q .normal { a with defers := { target := .collected E, args := #[] } :: a.defers } W)
    (hstop : ∀ (E : Nat) (c : Code) (pre : List α) (W : World), w.heap.size ≤ E → Sp pre → Ix c pre W → W.heap[E]? = some (.deferred (some [])) → c.wpIn F n P Q { a with defers := { target := .collected E, args := #[] } :: a.defers } W) :
    (Code.rangeFunc g ps assign body).wpIn F n P Q a w := by
  refine wpIn_rangeFunc ?_
  intro fn hfn
  rw [hro]
  obtain ⟨rec, hrec⟩ : ∃ rec : LoopState → Option Code → Loop, rec = fun st pe => { state := st, pending := pe, fn, tmps := a.tmps, params := ps, assign, body, defers := w.heap.size } := ⟨_, rfl⟩
  obtain ⟨W1, hW1⟩ : ∃ W1, (w.alloc (.deferred (some []))).alloc (.loop (rec .ready none)) = W1 := ⟨_, rfl⟩
  have hL1 : W1.heap[w.heap.size + 1]? = some (.loop (rec .ready none)) := by
    rw [← hW1]; have := World.alloc_heap_new (w.alloc (.deferred (some []))) (.loop (rec .ready none)); rwa [World.size_alloc] at this
  have hK1 : W1.heap[w.heap.size]? = some (.deferred (some [])) := by
    rw [← hW1]; exact (Below.heap_alloc _ _ _ (by simp)).trans (World.alloc_heap_new w _)
  have hb1 : Below w.heap.size w W1 := by
    rw [← hW1]; exact ((Below.refl _ w).alloc (Nat.le_refl _) _).alloc (by simp) _
  have hs1 : w.heap.size + 1 < W1.heap.size := (Array.getElem?_eq_some_iff.1 hL1).1
  refine ⟨w.heap.size + 1, [{ target := .collected w.heap.size, args := #[] }], W1, { target := .fn (.func gf) lb, args := #[.func (.yield (w.heap.size + 1)) #[] #[]] }, W1, gf,
    #[.func (.yield (w.heap.size + 1)) #[] #[]] ++ lb, W1, ?_, ?_, ?_, ?_, fun _ => h1, ?_⟩
  · rw [← hW1, hrec]; exact run_enterLoop_outer _ _ _ _ _
  · simp only [resolve, hg]
    simp [go_sem]
  · intro f' hf'; simp [Target.leads] at hf'; subst hf'; exact hFg
  · simp [invoke, go_sem, eg]
  · refine (hseq (w.heap.size + 1)
      (fun pre W => I pre W ∧ W.heap[w.heap.size + 1]? = some (.loop (rec .ready none)) ∧ W.heap[w.heap.size]? = some (.deferred (some [])))
      (fun pre W => ∃ c, Ix c pre W ∧ W.heap[w.heap.size + 1]? = some (.loop (rec .done (some c))) ∧ W.heap[w.heap.size]? = some (.deferred (some [])))
      W1 (hb0.trans (hb1.mono hb0.size)) ?_ ?_ ?_ ⟨hI _ _ _ h0 hb1, hL1, hK1⟩).mono ?_
    · rintro s A B ⟨h1, h2, h3⟩ hb
      exact ⟨hI _ _ _ h1 (hb.mono hb1.size), (hb.block _ hs1).trans h2, (hb.block _ (by omega)).trans h3⟩
    · rintro s A B ⟨c, h1, h2, h3⟩ hb
      exact ⟨c, hIx _ _ _ _ h1 (hb.mono hb1.size), (hb.block _ hs1).trans h2, (hb.block _ (by omega)).trans h3⟩
    · rintro pre x W ⟨hi, hl, hk⟩ hlen
      refine (yieldAt_roundK (Ax := Ax pre x) (I := I) (Ix := Ix) (xs := pre ++ [x]) (D' := w.heap.size) hKt hKb (Nat.le_succ _) hfn hrec (fun A o h => hI _ _ _ h (below_put3 (Nat.le_succ _) o)) (fun c A o h => hIx _ _ _ _ h (below_put3 (Nat.le_succ _) o)) (hps x) hl
        (fun K hK => hassign _ pre x W K hi hlen hK) (fun a' A hax hla => hbody _ pre x a' _ (Nat.le_succ _) ⟨_, World.putObj_heap_same (Array.getElem?_eq_some_iff.1 hla).1⟩ (hAx _ _ _ _ _ _ _ (Nat.le_succ _) hla rfl hax))).mono ?_
      rintro e W' (⟨rfl, ⟨h1, h2, h3⟩, h4⟩ | ⟨rfl, c, h1, h2, h3⟩)
      · exact .inl ⟨rfl, ⟨h1, h2, h3 _ _ (Nat.le_refl _) (by omega) hk rfl⟩, h4⟩
      · exact .inr ⟨rfl, c, h1, h2, h3 _ _ (Nat.le_refl _) (by omega) hk rfl⟩
    · rintro e W2 ⟨⟨v, rfl⟩, (⟨xs, hS, hi, hl, hk⟩ | ⟨pre, hSp, c, hi, hl, hk⟩)⟩
      · exact ⟨none, _, by have := run_endLoop (P := P) hl (by rw [hrec]; simp); rw [hrec] at this; exact this, hdone _ xs _ (Nat.le_refl _) hS (hI _ _ _ hi (below_put3 (Nat.le_succ _) _)) ((World.putObj_heap_other (by omega)).trans hk)⟩
      · exact ⟨some c, _, by have := run_endLoop (P := P) hl (by rw [hrec]; simp); rw [hrec] at this; exact this, hstop _ c pre _ (Nat.le_refl _) hSp (hIx _ _ _ _ hi (below_put3 (Nat.le_succ _) _)) ((World.putObj_heap_other (by omega)).trans hk)⟩

end Go.Proofs.Ytcjcjkomcolgeaa

/-
  Ranges over functions whose rounds may panic. No condition.
-/
namespace Go.Proofs.Ytcjcjkomcolgeaa
open Go.RowKit Go.Shelf

def roundPostP (P : Program) (l : Nat) (R : Ending → World → Prop) (e : Exit) (a : Act) (w : World) : Prop :=
  roundPost P l R e a w ∨ ∃ ch, e = .panic ch ∧ a.defers = [] ∧ R (.panicked ch) w
theorem roundIn_panics {F : Fence} {n : Nat} {P : Program} {l : Nat} {f : FuncId} {tmps : Array Value} {assign body : Code} {w : World} {R : Ending → World → Prop} (hF : F.fn f) {fn : Func} (hfn : P.funcs[f]? = some fn)
    (h : assign.wpIn (F.inRound l) n P (Exit.then (fun a₁ w₁ => ∃ w₂, (Instr.beginRound l).run P w₁ = .ok () w₂ ∧ body.wpIn (F.inRound l) n P (roundPostP P l R) a₁ w₂) (fun _ _ _ => False)) { tmps := tmps, defers := [] } w) :
    RoundIn F n P l f tmps assign body w R := by
  refine ⟨hF, fun c cs hr => ?_⟩
  obtain ⟨b, hbe⟩ : ∃ b : Frame, b = { (default : Frame) with fn := f, kind := .normal, roundOf := some l } := ⟨_, rfl⟩
  have hround : Frame.round l f tmps assign body .normal = b.atR { tmps := tmps, defers := [] } [.code assign, .beginRound, .code body] := by
    rw [hbe]
    simp [Frame.round, Frame.atR]
  have hbl : b.roundOf = some l := by rw [hbe]
  have hbk : b.kind = .normal := by rw [hbe]
  have hbf : b.fn = f := by rw [hbe]
  have hr' : (F.inRound l).room ((c :: cs).length + 1 + n) := hr
  have hF' : (F.inRound l).fn b.fn := by rw [hbf]; exact hF
  obtain ⟨e, a₁, w₁, hq, harr⟩ := h b [.beginRound, .code body] (c :: cs) hbl hF' hr'
  rw [← hround] at harr
  cases e with
  | normal =>
    obtain ⟨w₂, hbr, hbody⟩ := hq
    have s1 := StepsIn.trans harr (.one (fenced_calm (fr := b.atR a₁ [.beginRound, .code body]) hF' hr' rfl) (stepR_beginRound hbl hbr))
    obtain ⟨e₂, a₂, w₃, hq₂, harr₂⟩ := hbody b [] (c :: cs) hbl hF' hr'
    rcases hq₂ with hq₂ | ⟨ch, rfl, hd, hR⟩
    · cases e₂ with
      | normal =>
        obtain ⟨v, w₄, hend, hR⟩ := hq₂
        exact ⟨.returned v, w₄, hR, s1.trans (StepsIn.trans harr₂ (.one (fenced_calm (fr := b.atR a₂ []) hF' hr' rfl) (stepR_round_end hbl hbk hend)))⟩
      | ret =>
        obtain ⟨v, w₄, hend, hR⟩ := hq₂
        obtain ⟨k₁, hs⟩ := harr₂.2 (by rw [hbl]; rfl)
        exact ⟨.returned v, w₄, hR, s1.trans (StepsIn.trans hs (.one (fenced_calm (fr := b.atR a₂ (.code .ret :: k₁)) hF' hr' rfl) (stepR_round_ret hbl hbk hend)))⟩
      | exit id =>
        obtain ⟨v, w₄, hend, hR⟩ := hq₂
        obtain ⟨k₁, hk, hs⟩ := harr₂.2 (by rw [hbl]; rfl) rfl
        exact ⟨.returned v, w₄, hR, s1.trans (StepsIn.trans hs (.one (fenced_calm (fr := b.atR a₂ (.code (.exit id) :: k₁)) hF' hr' rfl) (stepR_round_exit hbl hbk hk hend)))⟩
      | goto t =>
        obtain ⟨v, w₄, hend, hR⟩ := hq₂
        obtain ⟨k₁, hk, hs⟩ := harr₂.2 (by rw [hbl]; rfl) rfl
        exact ⟨.returned v, w₄, hR, s1.trans (StepsIn.trans hs (.one (fenced_calm (fr := b.atR a₂ (.code (.goto t) :: k₁)) hF' hr' rfl) (stepR_round_goto hbl hbk hk hend)))⟩
      | panic chain => exact hq₂.elim
      | outgrown => exact hq₂.elim
    · obtain ⟨todo, hs⟩ := harr₂
      have hleave : ({ b.atR a₂ todo with mode := .panicking ch } : Frame).leaving P w₃ (.panicked ch) := ⟨rfl, hd, fn, by show P.funcs[b.fn]? = some fn; rw [hbf]; exact hfn⟩
      exact ⟨.panicked ch, w₃, hR, s1.trans (StepsIn.trans hs (.one (fenced_leaving (F := F.inRound l) hF' hr' hleave) (step_leave_panicked hleave)))⟩
  | exit id => exact hq.elim
  | goto t => exact hq.elim
  | ret => exact hq.elim
  | panic chain => exact hq.elim
  | outgrown => exact hq.elim

def wpAt (f0 : FuncId) (P : Program) (c : Code) (Q : Exit → Act → World → Prop) (a : Act) (w : World) : Prop :=
  ∀ (b : Frame) (k : List Item) (cs : List Frame), b.roundOf = none → b.fn = f0 → ∃ e a' w', Q e a' w' ∧ ArrivesIn (Machine.fenced P Fence.wide) P (lone (b.atR a (.code c :: k)) cs w) b k cs e a' w'
section
variable {f0 : FuncId} {P : Program} {Q : Exit → Act → World → Prop} {a : Act} {w : World}
theorem wpAt_of_wp {c : Code} (h : c.wp P Q a w) : wpAt f0 P c Q a w := fun b k cs hro _ => (wpIn_wide (n := 0)).2 h b k cs hro trivial (room_wide _)
theorem wpAt_seq {x y : Code} (h : wpAt f0 P x (Exit.then (wpAt f0 P y Q) Q) a w) : wpAt f0 P (Code.seq x y) Q a w := by
  intro b k cs hro hb
  have h0 : (lone (b.atR a (.code (.seq x y) :: k)) cs w).fenced P Fence.wide := fenced_calm (n := 0) trivial (room_wide _) rfl
  obtain ⟨e, a₁, w₁, hq, harr⟩ := h b (.code y :: k) cs hro hb
  cases e
  case normal =>
    obtain ⟨e₂, a₂, w₂, hq₂, harr₂⟩ := hq b k cs hro hb
    exact ⟨e₂, a₂, w₂, hq₂, .of_steps (.head h0 stepR_seq harr) harr₂⟩
  all_goals exact ⟨_, a₁, w₁, hq, .of_steps (.one h0 stepR_seq) (.pass (x := .code y) rfl (fun _ _ => .inl (by simp)) harr)⟩
theorem wpAt_block {id : Nat} {c : Code} (h : wpAt f0 P c (fun e a w => (e = .normal ∧ Q .normal a w) ∨ ∃ ch, e = .panic ch ∧ Q (.panic ch) a w) a w) : wpAt f0 P (.block id c) Q a w := by
  intro b k cs hro hb
  have h0 : (lone (b.atR a (.code (.block id c) :: k)) cs w).fenced P Fence.wide := fenced_calm (n := 0) trivial (room_wide _) rfl
  obtain ⟨e, a₁, w₁, hq, harr⟩ := h b (.inBlock id :: k) cs hro hb
  rcases hq with ⟨rfl, hq⟩ | ⟨ch, rfl, hq⟩
  · exact ⟨.normal, a₁, w₁, hq, .head h0 stepR_block (StepsIn.trans harr (.one (fenced_calm (n := 0) trivial (room_wide _) rfl) stepR_inBlock))⟩
  · exact ⟨_, a₁, w₁, hq, .of_steps (.one h0 stepR_block) harr⟩
theorem wpAt_rangeFunc {g : Operand} {ps : Array Tmp} {assign body : Code} {l : Nat} {mark : List Deferred} {w₁ : World} {d : Deferred} {w₁' : World} {f : FuncId} {args : Array Value} {w₂ : World}
    (he : (Instr.enterLoop f0 a.tmps ps assign body none).run P w = .ok (l, mark) w₁) (hres : (resolve a.eval (rangeCall g l) 0).run P w₁ = .ok d w₁') (hinv : (invoke d.target d.args).run P w₁' = .ok (.enter f args) w₂)
    (hcall : CallsIn Fence.wide 5 P f args w₂ (fun e w₃ => (∃ v w₄, e = .returned v ∧ (Instr.endLoop l).run P w₃ = .ok none w₄ ∧ Q .normal { a with defers := mark ++ a.defers } w₄) ∨ ∃ ch, e = .panicked ch ∧ Q (.panic ch) { a with defers := mark ++ a.defers } w₃)) :
    wpAt f0 P (Code.rangeFunc g ps assign body) Q a w := by
  intro b k cs hro hb
  have h0 : (lone (b.atR a (.code (.rangeFunc g ps assign body) :: k)) cs w).fenced P Fence.wide := by
    refine fenced_lone (.inl trivial) (fun f' hf' => trivial) (room_wide _)
  rw [← hro, ← hb] at he
  have henter := stepR_rangeFunc (P := P) (b := b) (a := a) (k := k) (cs := cs) (w := w) he hres hinv
  obtain ⟨e, w₃, fr, hR, hsteps, hfn, hleave⟩ := hcall.2 (b.atR { a with defers := mark ++ a.defers } (.inRangeFunc l :: k) :: cs) (room_wide _)
  rcases hR with ⟨v, w₄, rfl, hend, hq⟩ | ⟨ch, rfl, hq⟩
  · have hl : (lone fr (b.atR { a with defers := mark ++ a.defers } (.inRangeFunc l :: k) :: cs) w₃).fenced P Fence.wide := fenced_leaving (n := 0) trivial (room_wide _) hleave
    refine ⟨.normal, _, w₄, hq, .head h0 henter (StepsIn.trans hsteps (.head hl ?_ (.one (fenced_calm (n := 0) (fr := b.atR { a with defers := mark ++ a.defers } (.endRangeFunc l :: k)) trivial (room_wide _) rfl) (stepR_endRangeFunc hend))))⟩
    rw [← finish_atR_inRangeFunc l v]
    exact step_leave_returned hleave
  · have hl : (lone fr (b.atR { a with defers := mark ++ a.defers } (.inRangeFunc l :: k) :: cs) w₃).fenced P Fence.wide := fenced_leaving (n := 0) trivial (room_wide _) hleave
    refine ⟨.panic ch, _, w₃, hq, .inRangeFunc l :: k, .head h0 henter (StepsIn.trans hsteps (.one hl ?_))⟩
    rw [← Frame.raise_atR]
    exact step_leave_panicked hleave
theorem calls_of_wpAt {f : FuncId} {fn : Func} {c : Code} {args : Array Value} {R : Ending → World → Prop} (hf : P.funcs[f]? = some fn) (hb : fn.body = some c)
    (h : wpAt f P c (bodyPostM Fence.wide 6 P fn R) { tmps := args ++ Array.replicate (fn.ntmps - args.size) undef, defers := [] } w) : Calls P f args w R := by
  refine (callsIn_wide (n := 6)).1 ⟨trivial, fun cs _ => ?_⟩
  obtain ⟨b, hbe⟩ : ∃ b : Frame, b = { (default : Frame) with fn := f, kind := .normal, roundOf := none } := ⟨_, rfl⟩
  have henter : Frame.enter P f args .normal = b.atR { tmps := args ++ Array.replicate (fn.ntmps - args.size) undef, defers := [] } [.code c] := by
    rw [hbe]
    simp [Frame.enter, Frame.atR, hf, hb]
  have hbn : b.roundOf = none := by rw [hbe]
  have hbk : b.kind = .normal := by rw [hbe]
  have hbf : b.fn = f := by rw [hbe]
  have hff : P.funcs[b.fn]? = some fn := by rw [hbf]; exact hf
  obtain ⟨e, a', w', hq, harr⟩ := h b [] cs hbn hbf
  rw [← henter] at harr
  cases e with
  | normal =>
    obtain ⟨e', w'', fr', hR, hs, hfn, hl⟩ := leaves_stepsInM (F := Fence.wide) (n := 6) a'.defers .returning w' { b.atR a' [] with mode := .returning } cs rfl rfl rfl hff hbk trivial (room_wide _) hq
    exact ⟨e', w'', fr', hR, ComesIn.of_steps (StepsIn.trans harr (.one (fenced_calm (n := 6) (fr := b.atR a' []) trivial (room_wide _) rfl) (stepR_end hbn))) hs, hfn.trans hbf, hl⟩
  | ret =>
    obtain ⟨todo, hs₀⟩ := harr.1 hbn
    obtain ⟨e', w'', fr', hR, hs, hfn, hl⟩ := leaves_stepsInM (F := Fence.wide) (n := 6) a'.defers .returning w' { b.atR a' todo with mode := .returning } cs rfl rfl rfl hff hbk trivial (room_wide _) hq
    exact ⟨e', w'', fr', hR, ComesIn.of_steps hs₀ hs, hfn.trans hbf, hl⟩
  | panic chain =>
    obtain ⟨todo, hs₀⟩ := harr
    obtain ⟨e', w'', fr', hR, hs, hfn, hl⟩ := leaves_stepsInM (F := Fence.wide) (n := 6) a'.defers (.panicking chain) w' { b.atR a' todo with mode := .panicking chain } cs rfl rfl rfl hff hbk trivial (room_wide _) hq
    exact ⟨e', w'', fr', hR, ComesIn.of_steps hs₀ hs, hfn.trans hbf, hl⟩
  | exit id => exact hq.elim
  | goto l => exact hq.elim
  | outgrown => exact ⟨.outgrown, w', b, hq, harr.resolve_left (by rw [hbk]; simp), hbf, trivial⟩
end
def SeqP {α : Type} (F : Fence) (n : Nat) (P : Program) (g : Nat) (lb : Array Value) (encs : α → Array Value) (Kp : World → World → Prop) (S : List α → Prop) (T : List α → α → Prop) (w : World) : Prop :=
  ∀ (l : Nat) (J : List α → World → Prop) (Jp : List PanicEntry → List α → World → Prop) (W : World), Below w.heap.size w W → (∀ s A B, J s A → Below W.heap.size A B → J s B) →
    (∀ pre x W1, J pre W1 → T pre x → YieldAt F (n - 1) P l (encs x) W1 fun e W' => (e = .returned (.bool true) ∧ J (pre ++ [x]) W' ∧ Kp W1 W') ∨ ∃ ch, e = .panicked ch ∧ Jp ch (pre ++ [x]) W') →
    J [] W →
    CallsIn F n P g (#[.func (.yield l) #[] #[]] ++ lb) W fun e W' => (∃ v xs, e = .returned v ∧ S xs ∧ J xs W') ∨ ∃ ch pre, e = .panicked ch ∧ Jp ch pre W'
def ownPostP {α : Type} (B : Nat) (Kp : World → World → Prop) (I : List α → World → Prop) (Ip : List PanicEntry → List α → World → Prop) (xs : List α) (W : World) : Exit → Act → World → Prop
  | .normal, _, W' => KeepsFrom B W W' ∧ Kp W W' ∧ I xs W'
  | .panic ch, a, W' => a.defers = [] ∧ KeepsFrom B W W' ∧ Ip ch xs W'
  | _, _, _ => False
theorem yieldAt_roundP {α : Type} {F : Fence} {n : Nat} {P : Program} {B l D' : Nat} {Kp : World → World → Prop} (hKt : ∀ A B C : World, Kp A B → Kp B C → Kp A C) (hKb : ∀ (W : World) (l : Nat) (o o' : Obj), B ≤ l → W.heap[l]? = some o → o.isCells = false → Kp W (W.putObj l o')) (hB : B ≤ l) {fn : FuncId} {tmps : Array Value} {ps : Array Tmp} {assign body : Code} (hfn : F.fn fn) {fd : Func} (hfd : P.funcs[fn]? = some fd)
    {I : List α → World → Prop} {Ip : List PanicEntry → List α → World → Prop} {xs : List α} {vs : Array Value} {Ax : Act → World → Prop} {W : World} {rec : LoopState → Option Code → Loop}
    (hrec : rec = fun st pe => { state := st, pending := pe, fn, tmps, params := ps, assign, body, defers := D' })
    (hI : ∀ A o, I xs A → I xs (A.putObj l o)) (hvs : vs.size = ps.size)
    (hl : W.heap[l]? = some (.loop (rec .ready none)))
    (hassign : ∀ K : Act → World → Prop, (∀ a' W', KeepsFrom B W W' → Kp W W' → Ax a' W' → K a' W') → assign.wpIn (F.inRound l) n P (Exit.then K (fun _ _ _ => False)) { tmps := (ps.zip vs).foldl (fun t (p, v) => t.setIfInBounds p v) tmps, defers := [] } W)
    (hbody : ∀ a' A, Ax a' A → A.heap[l]? = some (.loop (rec .ready none)) → body.wpIn (F.inRound l) n P (ownPostP B Kp I Ip xs (A.putObj l (.loop { rec .ready none with state := .busy }))) a' (A.putObj l (.loop { rec .ready none with state := .busy }))) :
    YieldAt F n P l vs W fun e W' => (e = .returned (.bool true) ∧ (I xs W' ∧ W'.heap[l]? = some (.loop (rec .ready none)) ∧ ∀ k o, B ≤ k → k ≠ l → W.heap[k]? = some o → o.isCells = false → W'.heap[k]? = some o) ∧ Kp W W') ∨
      ∃ ch, e = .panicked ch ∧ Ip ch xs W' ∧ ∀ k o, B ≤ k → k ≠ l → W.heap[k]? = some o → o.isCells = false → W'.heap[k]? = some o := by
  have hy := run_yield (P := P) (args := vs) hl (by rw [hrec]; exact hvs)
  rw [hrec] at hy
  refine ⟨fn, _, assign, body, hy, roundIn_panics hfn hfd (hassign _ ?_)⟩
  intro a' Wa hkf hkc hax
  have hla := hkf.same _ _ hB hl rfl
  have hlt : l < Wa.heap.size := (Array.getElem?_eq_some_iff.1 hla).1
  refine ⟨_, run_beginRound hla (by rw [hrec]), wpIn_mono (hbody a' Wa hax hla) ?_⟩
  have hl2 : (Wa.putObj l (.loop { rec .ready none with state := .busy })).heap[l]? = some (.loop { rec .ready none with state := .busy }) := World.putObj_heap_same hlt
  have hk2 : Kp W (Wa.putObj l (.loop { rec .ready none with state := .busy })) := hKt _ _ _ hkc (hKb _ _ _ _ hB hla rfl)
  rintro e a3 W3 hp
  cases e with
  | normal =>
    obtain ⟨hk3, hkp3, hi3⟩ := hp
    have hl3 := hk3.same _ _ hB hl2 rfl
    have he := run_endRound (P := P) none hl3
    have hl4 : (W3.putObj l (.loop (rec .ready none))).heap[l]? = some (.loop (rec .ready none)) := World.putObj_heap_same (Array.getElem?_eq_some_iff.1 hl3).1
    refine .inl ⟨_, _, he, .inl ⟨rfl, ⟨by rw [hrec]; exact hI _ _ hi3, by rw [hrec] at hl4 ⊢; exact hl4, fun k o hk hkl ho hc => ?_⟩, hKt _ _ _ hk2 (hKt _ _ _ hkp3 (hKb _ _ _ _ hB hl3 rfl))⟩⟩
    refine (World.putObj_heap_other hkl).trans (hk3.same k o hk ?_ hc)
    exact (World.putObj_heap_other hkl).trans (hkf.same k o hk ho hc)
  | panic ch =>
    obtain ⟨hd, hk3, hi3⟩ := hp
    exact .inr ⟨ch, rfl, hd, .inr ⟨ch, rfl, hi3, fun k o hk hkl ho hc => hk3.same k o hk ((World.putObj_heap_other hkl).trans (hkf.same k o hk ho hc)) hc⟩⟩
  | ret => exact hp.elim
  | exit id => exact hp.elim
  | goto t => exact hp.elim
  | outgrown => exact hp.elim
theorem wpAt_rangeP {α : Type} {f0 : FuncId} {fd : Func} {P : Program} {g : Operand} {ps : Array Tmp} {assign body : Code} {Q : Exit → Act → World → Prop} {a : Act} {w : World}
    (hfd : P.funcs[f0]? = some fd) {gf : Nat} {lb : Array Value} (hg : a.eval g = .func (.func gf) #[] lb) (eg : ∀ args w, (callFunc gf args).run P w = .ok (.enter gf args) w)
    {encs : α → Array Value} {Kp : World → World → Prop} (hKt : ∀ A B C : World, Kp A B → Kp B C → Kp A C) (hKb : ∀ (W : World) (l : Nat) (o o' : Obj), w.heap.size ≤ l → W.heap[l]? = some o → o.isCells = false → Kp W (W.putObj l o')) {S : List α → Prop} {T : List α → α → Prop} {w0 : World} (hseq : SeqP Fence.wide 5 P gf lb encs Kp S T w0) (hb0 : Below w0.heap.size w0 w) (hps : ∀ x, (encs x).size = ps.size)
    (I : List α → World → Prop) (Ip : List PanicEntry → List α → World → Prop) (hI : ∀ s A B, I s A → Below w.heap.size A B → I s B) (h0 : I [] w)
    (Ax : List α → α → Act → World → Prop) (hAx : ∀ pre x a' A l o o', w.heap.size ≤ l → A.heap[l]? = some o → o.isCells = false → Ax pre x a' A → Ax pre x a' (A.putObj l o'))
    (hassign : ∀ (l : Nat) (pre : List α) (x : α) (W : World) (K : Act → World → Prop), I pre W → T pre x → (∀ a' W', KeepsFrom w.heap.size W W' → Kp W W' → Ax pre x a' W' → K a' W') →
      assign.wpIn (Fence.wide.inRound l) 4 P (Exit.then K (fun _ _ _ => False)) { tmps := (ps.zip (encs x)).foldl (fun t (p, v) => t.setIfInBounds p v) a.tmps, defers := [] } W)
    (hbody : ∀ (l : Nat) (pre : List α) (x : α) (a' : Act) (W : World), w.heap.size ≤ l → (∃ r, W.heap[l]? = some (.loop r)) → Ax pre x a' W → body.wpIn (Fence.wide.inRound l) 4 P (ownPostP w.heap.size Kp I Ip (pre ++ [x]) W) a' W)
    (hdone : ∀ (E : Nat) (xs : List α) (W : World), w.heap.size ≤ E → S xs → I xs W → W.heap[E]? = some (.deferred (some [])) → Q .normal { a with defers := { target := .collected E, args := #[] } :: a.defers } W)
    (hpanic : ∀ (E : Nat) (ch : List PanicEntry) (pre : List α) (W : World), w.heap.size ≤ E → Ip ch pre W → W.heap[E]? = some (.deferred (some [])) → Q (.panic ch) { a with defers := { target := .collected E, args := #[] } :: a.defers } W) :
    wpAt f0 P (Code.rangeFunc g ps assign body) Q a w := by
  obtain ⟨rec, hrec⟩ : ∃ rec : LoopState → Option Code → Loop, rec = fun st pe => { state := st, pending := pe, fn := f0, tmps := a.tmps, params := ps, assign, body, defers := w.heap.size } := ⟨_, rfl⟩
  obtain ⟨W1, hW1⟩ : ∃ W1, (w.alloc (.deferred (some []))).alloc (.loop (rec .ready none)) = W1 := ⟨_, rfl⟩
  have hL1 : W1.heap[w.heap.size + 1]? = some (.loop (rec .ready none)) := by
    rw [← hW1]; have := World.alloc_heap_new (w.alloc (.deferred (some []))) (.loop (rec .ready none)); rwa [World.size_alloc] at this
  have hK1 : W1.heap[w.heap.size]? = some (.deferred (some [])) := by
    rw [← hW1]; exact (Below.heap_alloc _ _ _ (by simp)).trans (World.alloc_heap_new w _)
  have hb1 : Below w.heap.size w W1 := by
    rw [← hW1]; exact ((Below.refl _ w).alloc (Nat.le_refl _) _).alloc (by simp) _
  have hs1 : w.heap.size + 1 < W1.heap.size := (Array.getElem?_eq_some_iff.1 hL1).1
  refine wpAt_rangeFunc (l := w.heap.size + 1) (mark := [{ target := .collected w.heap.size, args := #[] }]) (w₁ := W1) (d := { target := .fn (.func gf) lb, args := #[.func (.yield (w.heap.size + 1)) #[] #[]] }) (w₁' := W1) (f := gf)
    (args := #[.func (.yield (w.heap.size + 1)) #[] #[]] ++ lb) (w₂ := W1) ?_ ?_ ?_ ?_
  · rw [← hW1, hrec]; exact run_enterLoop_outer _ _ _ _ _
  · simp only [resolve, hg]
    simp [go_sem]
  · simp [invoke, go_sem, eg]
  · refine (hseq (w.heap.size + 1)
      (fun pre W => I pre W ∧ W.heap[w.heap.size + 1]? = some (.loop (rec .ready none)) ∧ W.heap[w.heap.size]? = some (.deferred (some [])))
      (fun ch pre W => Ip ch pre W ∧ W.heap[w.heap.size]? = some (.deferred (some [])))
      W1 (hb0.trans (hb1.mono hb0.size)) ?_ ?_ ⟨hI _ _ _ h0 hb1, hL1, hK1⟩).mono ?_
    · rintro s A B ⟨h1, h2, h3⟩ hb
      exact ⟨hI _ _ _ h1 (hb.mono hb1.size), (hb.block _ hs1).trans h2, (hb.block _ (by omega)).trans h3⟩
    · rintro pre x W ⟨hi, hl, hk⟩ hlen
      refine (yieldAt_roundP (Ax := Ax pre x) (I := I) (Ip := Ip) (xs := pre ++ [x]) (D' := w.heap.size) hKt hKb (Nat.le_succ _) trivial hfd hrec (fun A o h => hI _ _ _ h (below_put3 (Nat.le_succ _) o)) (hps x) hl
        (fun K hK => hassign _ pre x W K hi hlen hK) (fun a' A hax hla => hbody _ pre x a' _ (Nat.le_succ _) ⟨_, World.putObj_heap_same (Array.getElem?_eq_some_iff.1 hla).1⟩ (hAx _ _ _ _ _ _ _ (Nat.le_succ _) hla rfl hax))).mono ?_
      rintro e W' (⟨rfl, ⟨h1, h2, h3⟩, h4⟩ | ⟨ch, rfl, h1, h3⟩)
      · exact .inl ⟨rfl, ⟨h1, h2, h3 _ _ (Nat.le_refl _) (by omega) hk rfl⟩, h4⟩
      · exact .inr ⟨ch, rfl, h1, h3 _ _ (Nat.le_refl _) (by omega) hk rfl⟩
    · rintro e W2 (⟨v, xs, rfl, hS, hi, hl, hk⟩ | ⟨ch, pre, rfl, hi, hk⟩)
      · exact .inl ⟨v, _, rfl, by have := run_endLoop (P := P) hl (by rw [hrec]; simp); rw [hrec] at this; exact this, hdone _ xs _ (Nat.le_refl _) hS (hI _ _ _ hi (below_put3 (Nat.le_succ _) _)) ((World.putObj_heap_other (by omega)).trans hk)⟩
      · exact .inr ⟨ch, rfl, hpanic _ ch pre _ (Nat.le_refl _) hi hk⟩
end Go.Proofs.Ytcjcjkomcolgeaa
