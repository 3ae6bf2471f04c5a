/-
  Regions that draw their order and hold operations that make memory beside many that only read: the readers may be taken first. No condition.
-/
import Derived.Test.YtmjbcmicjhgciaaK
import Derived.Deep.Quiet
namespace Go.Proofs.Ytmjbcmicjhgciaa
open Go.RowKit

/-- Only the way through. -/
def Nrm (N : Act → World → Prop) : Exit → Act → World → Prop
  | .normal, a, w => N a w
  | _, _, _ => False
theorem nrm_out (N : Act → World → Prop) : ¬ LetsOut (Nrm N) := fun ⟨_, _, h⟩ => h

section
variable {P : Program} {ops : Array Oper} {md : Region.Mode} {N : Act → World → Prop} {C : World → Prop}

/-- What an operation does hangs on its own operands alone. -/
theorem wpOp_go {Q : Exit → Act → World → Prop} {j : Nat} {o : Oper} (hj : ops[j]? = some o) {K K' : Act → World → Prop} {a b : Act} {w : World} (hr : execOp b.eval o = execOp a.eval o)
    (hw : Region.wanted o (yielded ops b.tmps) = Region.wanted o (yielded ops a.tmps)) (hd : b.defers = a.defers) (h : wpOp P ops (Nrm N) j K b w)
    (hK : ∀ u D w', K (Act.put { b with defers := D } o.dst u) w' → K' (Act.put { a with defers := D } o.dst u) w') : wpOp P ops Q j K' a w := by
  have H : ∀ u w', K (b.put o.dst u) w' → K' (a.put o.dst u) w' := fun u w' hk => by
    have := hK u a.defers w'
    rw [← hd] at this
    rw [hd] at this
    have e : ({ b with defers := a.defers } : Act) = b := by rw [← hd]
    rw [e] at this
    exact this hk
  unfold wpOp at h ⊢
  simp only [hj, hw] at h ⊢
  split
  · rename_i hw
    simp only [hw, if_true] at h
    rcases h with h | h
    · refine .inl ?_
      unfold Oper.wp at h ⊢
      rw [hr] at h
      generalize (execOp a.eval o).run P w = r at h ⊢
      rcases r with ⟨n, w'⟩ | ⟨x, w'⟩
      · have HD : ∀ d, K (Act.put { b with defers := d :: b.defers } o.dst undef) w' → K' (Act.put { a with defers := d :: a.defers } o.dst undef) w' := fun d hk => by
          rw [hd] at hk
          exact hK undef (d :: a.defers) w' hk
        cases n
        all_goals first
          | exact H _ _ h
          | exact False.elim h
          | exact HD _ h
          | (refine Calls.mono h fun e w'' he => ?_; cases e <;> first | exact H _ _ he | exact he.elim | exact (nrm_out N he).elim)
          | exact Rows.mono h fun u w'' he => H _ _ he
      · cases x <;> exact False.elim h
    · exact (nrm_out N h.2).elim
  · rename_i hw
    simp only [hw] at h
    exact H _ _ h

/-- Whatever order is picked, and every world on the way is of the class. -/
def anyC (P : Program) (md : Region.Mode) (ops : Array Oper) (N : Act → World → Prop) (C : World → Prop) : Nat → Array Bool → Act → World → Prop
  | 0, listed, a, w => C w ∧ Region.ready md ops listed = [] ∧ N a w
  | n + 1, listed, a, w => C w ∧ (Region.ready md ops listed = [] → N a w) ∧ ∀ i ∈ Region.ready md ops listed, wpOp P ops (Nrm N) i (anyC P md ops N C n (listed.setIfInBounds i true)) a w
theorem anyC_world : ∀ {n : Nat} {listed : Array Bool} {a : Act} {w : World}, anyC P md ops N C n listed a w → C w
  | 0, _, _, _, h => h.1
  | _ + 1, _, _, _, h => h.1
theorem anyC_any {Q : Exit → Act → World → Prop} (hN : ∀ a w, N a w → Q .normal a w) : ∀ {n : Nat} {listed : Array Bool} {a : Act} {w : World}, anyC P md ops N C n listed a w → wpAny P md ops Q n listed a w
  | 0, _, _, _, h => ⟨h.2.1, hN _ _ h.2.2⟩
  | n + 1, listed, a, w, h => ⟨fun h0 => hN _ _ (h.2.1 h0), fun i hi => by
      obtain ⟨_, o, ho, _⟩ := mem_ready.1 hi
      exact wpOp_go ho rfl rfl rfl (h.2.2 i hi) fun _ _ _ hk => anyC_any hN hk⟩

/-- In the frame a the operation yields v, in every world of the class, and leaves the world alone. -/
def YieldsC (P : Program) (ops : Array Oper) (C : World → Prop) (o : Oper) (v : Value) (a : Act) : Prop :=
  Region.wanted o (yielded ops a.tmps) = true ∧ ∀ w, C w → (execOp a.eval o).run P w = .ok (.value v) w
theorem YieldsC.wpOp {Q : Exit → Act → World → Prop} {i : Nat} {o : Oper} {v : Value} {a : Act} {w : World} (hi : ops[i]? = some o) (h : YieldsC P ops C o v a) (hC : C w) {K : Act → World → Prop} (hK : K (a.put o.dst v) w) : wpOp P ops Q i K a w := by
  unfold Go.wpOp
  simp only [hi, h.1, if_true]
  exact .inl (by unfold Oper.wp; rw [h.2 w hC]; exact hK)

theorem anyC_first {i : Nat} {oi : Oper} {v : Value} (hi : ops[i]? = some oi) (hsel : ∀ (j : Nat) (o : Oper) cs b, ops[j]? = some o → o.op ≠ .select cs b) :
    ∀ (n : Nat) (listed : Array Bool) (a : Act) (w : World),
      (∀ j oj, ops[j]? = some oj → j ≠ i → listed.getD j true = false → (∀ e ∈ oj.after, Region.binds md e = true → e.on ≠ i) → oi.apart ops oj = true) →
      i ∈ Region.ready md ops listed → YieldsC P ops C oi v a →
      anyC P md ops N C n (listed.setIfInBounds i true) (a.put oi.dst v) w → anyC P md ops N C (n + 1) listed a w
  | n, listed, a, w, hfree, hr, hy, H => by
    have hC := anyC_world H
    refine ⟨hC, fun h => (by rw [h] at hr; cases hr), fun j hj => ?_⟩
    by_cases hji : j = i
    · subst hji; exact hy.wpOp hi hC H
    · have hjr := ready_mono (i := i) hj hji
      match n, H with
      | 0, H =>
        rw [H.2.1] at hjr
        cases hjr
      | n + 1, H =>
        obtain ⟨hjun, oj, hoj, hall⟩ := mem_ready.1 hj
        have hiun := (mem_ready.1 hr).1
        have hnot : ∀ e ∈ oj.after, Region.binds md e = true → e.on ≠ i := fun e he hb heq => by
          have h1 := hall e he hb
          rw [heq] at h1
          rcases Nat.lt_or_ge i listed.size with h' | h'
          · simp [h'] at hiun h1; rw [hiun] at h1; cases h1
          · simp [Array.getElem?_eq_none h'] at h1
        obtain ⟨h1, h2, h3⟩ := Oper.apart_spec (hfree j oj hoj hji hjun hnot)
        refine wpOp_go hoj (execOp_put oj (fun cs b => hsel j oj cs b hoj) a oi.dst v h1) (wanted_put oj a oi.dst v h1) (by cases oi.dst <;> rfl) (H.2.2 j hjr) fun u D w' hk => ?_
        refine anyC_first (v := v) hi hsel n _ _ _ (fun k ok hk hki hun hno => hfree k ok hk hki ?_ hno) (ready_mono hr (Ne.symm hji)) ?_ ?_
        · by_cases hjk : j = k
          · subst hjk; exact hjun
          · rw [getD_set_ne true hjk] at hun; exact hun
        · have e1 : execOp (Act.put { a with defers := D } oj.dst u).eval oi = execOp a.eval oi := execOp_put oi (fun cs b => hsel i oi cs b hi) { a with defers := D } oj.dst u h3
          have e2 := wanted_put oi { a with defers := D } oj.dst u h3
          exact ⟨e2.trans hy.1, fun w hw => by rw [e1]; exact hy.2 w hw⟩
        · rw [Array.setIfInBounds_comm _ _ hji]
          have e3 : ({ a.put oi.dst v with defers := D } : Act) = Act.put { a with defers := D } oi.dst v := by cases oi.dst <;> rfl
          rw [e3, Act.put_comm _ v u h2] at hk
          exact hk

/-- Operations that yield a value or halt. -/
def valOp : Op → Bool
  | .move _ => true
  | .assign _ => true
  | .load _ _ => true
  | .build _ _ => true
  | .binOp _ _ _ _ _ => true
  | .fieldAddr _ _ _ => true
  | .indexAddr _ _ _ => true
  | _ => false
theorem value_only {s : Sem Value} {w w' : World} {n : Next} (h : (do pure (Next.value (← s)) : Sem Next).run P w = .ok n w') : ∃ u, n = .value u := by
  rw [Sem.run_bind] at h
  generalize s.run P w = r at h
  rcases r with ⟨x, w1⟩ | ⟨x, w1⟩
  · simp only [Result.andThen_ok, Sem.run_pure, Result.ok.injEq] at h
    exact ⟨x, h.1.symm⟩
  · cases h
theorem valOp_value {o : Oper} (ho : valOp o.op = true) {ρ : Operand → Value} {w w' : World} {n : Next} (h : (execOp ρ o).run P w = .ok n w') : ∃ u, n = .value u := by
  obtain ⟨dst, op, type, pos, after, guard⟩ := o
  cases op <;> first | (cases ho; done) | exact value_only h | (simp only [execOp, Sem.run_pure, Result.ok.injEq] at h; exact ⟨_, h.1.symm⟩)
theorem yieldsC_of {o : Oper} (ho : valOp o.op = true) {a : Act} {v : Value} (hw : Region.wanted o (yielded ops a.tmps) = true) (h : ∀ w, C w → o.quietAt P a C w v) : YieldsC P ops C o v a := by
  refine ⟨hw, fun w hC => ?_⟩
  have h1 := h w hC
  unfold Oper.quietAt at h1
  generalize hr : (execOp a.eval o).run P w = r at h1 ⊢
  rcases r with ⟨n, w'⟩ | ⟨x, w'⟩
  · obtain ⟨u, rfl⟩ := valOp_value ho hr
    obtain ⟨rfl, rfl⟩ := h1
    rfl
  · cases h1

def headsB (md : Region.Mode) (ops : Array Oper) : List Nat → Array Bool → Bool
  | [], _ => true
  | k :: ks, listed => (Region.ready md ops listed).contains k && (Region.free md ops listed k && ((match ops[k]? with | some o => valOp o.op && o.guard.isNone | none => false) && headsB md ops ks (listed.setIfInBounds k true)))
def headsL : List Nat → Array Bool → Array Bool
  | [], listed => listed
  | k :: ks, listed => headsL ks (listed.setIfInBounds k true)
def headOps (ops : Array Oper) (ks : List Nat) : List Oper := ks.filterMap fun k => ops[k]?
theorem anyC_heads (hs : Region.noSelect ops = true) (n : Nat) (w : World) (hC : C w) : ∀ (ks : List Nat) (listed : Array Bool) (a : Act),
    headsB md ops ks listed = true → wpQuiet P ops C (fun a' => anyC P md ops N C n (headsL ks listed) a' w) (headOps ops ks) a → anyC P md ops N C (n + ks.length) listed a w
  | [], _, _, _, h => h
  | k :: ks, listed, a, hB, h => by
    cases h0 : ops[k]? with
    | none => simp [headsB, h0] at hB
    | some o =>
    simp only [headsB, Bool.and_eq_true, h0] at hB
    obtain ⟨hr, hf, ⟨hv, hg⟩, hB⟩ := hB
    have hw : Region.wanted o (yielded ops a.tmps) = true := by
      unfold Region.wanted
      rw [Option.isNone_iff_eq_none.1 hg]
    rw [headOps, List.filterMap_cons, h0] at h
    unfold wpQuiet at h
    rw [if_pos hw] at h
    obtain ⟨v, h1, h2⟩ := h
    exact anyC_first h0 (Region.noSelect_spec hs) (n + ks.length) listed a w (Region.free_spec h0 hf) (by simpa using hr) (yieldsC_of hv hw h1) (anyC_heads hs n w hC ks _ _ hB h2)
/-- One operation alone may come up now. -/
theorem anyC_one {n i : Nat} {o : Oper} {v : Value} {listed : Array Bool} {a : Act} {w w' : World} (hr : Region.ready md ops listed = [i]) (hi : ops[i]? = some o) (hg : o.guard = none)
    (hrun : (execOp a.eval o).run P w = .ok (.value v) w') (hC : C w) (h : anyC P md ops N C n (listed.setIfInBounds i true) (a.put o.dst v) w') : anyC P md ops N C (n + 1) listed a w := by
  refine ⟨hC, fun h0 => (by rw [h0] at hr; cases hr), fun j hj => ?_⟩
  rw [hr] at hj
  obtain rfl : j = i := by simpa using hj
  unfold wpOp
  have hw : Region.wanted o (yielded ops a.tmps) = true := by
    unfold Region.wanted
    rw [hg]
  simp only [hi, hw, if_true]
  exact .inl (by unfold Oper.wp; rw [hrun]; exact h)
theorem anyC_done {listed : Array Bool} {a : Act} {w : World} (hr : Region.ready md ops listed = []) (hC : C w) (h : N a w) : anyC P md ops N C 0 listed a w := ⟨hC, hr, h⟩
end

/-- A region some of whose operations (ks) only read: they are walked in every world of the class, and the rest in any order behind them. -/
theorem wp_region_heads {P : Program} {N : Act → World → Prop} {C : World → Prop} {Q : Exit → Act → World → Prop} {id : Nat} {a : Act} {w : World} {l : List Oper} (ks : List Nat) (hm : P.follows .mixedOrders = true)
    (hB : (Region.noSelect l.toArray && (decide (ks.length ≤ l.length) && headsB .any l.toArray ks (Array.replicate l.length false))) = true) (hC : C w.drew) (hN : ∀ a w, N a w → Q .normal a w)
    (h : wpQuiet P l.toArray C (fun a' => anyC P .any l.toArray N C (l.length - ks.length) (headsL ks (Array.replicate l.length false)) a' w.drew) (headOps l.toArray ks) a) : (Code.region id l.toArray true).wp P Q a w := by
  simp only [Bool.and_eq_true, decide_eq_true_eq] at hB
  obtain ⟨hs, hn, hB⟩ := hB
  refine wp_region_any hm (anyC_any (C := C) hN ?_)
  have := anyC_heads (P := P) (md := .any) (N := N) hs (l.length - ks.length) w.drew hC ks (Array.replicate l.length false) a hB h
  rw [show l.length - ks.length + ks.length = l.length by omega] at this
  rw [List.size_toArray]
  exact this

end Go.Proofs.Ytmjbcmicjhgciaa
