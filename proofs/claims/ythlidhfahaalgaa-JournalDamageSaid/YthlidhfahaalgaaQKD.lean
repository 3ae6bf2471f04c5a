/-
  Regions that draw their order and hold operations that make memory beside many that only read: the readers may be taken first. No condition.
-/
import Derived.Test.YthlidhfahaalgaaQK
import Derived.Deep.Quiet
import Derived.Test.YthlidhfahaalgaaQJD
import Derived.Deep.CutBlock
namespace Go.Proofs.Ythlidhfahaalgaa
open Go.RowKit

/-- Only the way through. -/
def Nrm (N : Act → World → Prop) : Exit → Act → World → Prop
  | .normal, a, w => N a w
  | _, _, _ => False
theorem nrm_out (N : Act → World → Prop) : ¬ LetsOut (Nrm N) := fun ⟨_, _, h⟩ => h

section
variable {P : Program} {ops : Array Oper} {md : Region.Mode} {N : Act → World → Prop} {C : World → Prop}

/-- What an operation does hangs on its own operands alone. -/
theorem wpOp_go {Q : Exit → Act → World → Prop} {j : Nat} {o : Oper} (hj : ops[j]? = some o) {K K' : Act → World → Prop} {a b : Act} {w : World} (hr : execOp b.eval o = execOp a.eval o)
    (hw : Region.wanted o (yielded ops b.tmps) = Region.wanted o (yielded ops a.tmps)) (hd : b.defers = a.defers) (h : wpOp P ops (Nrm N) j K b w)
    (hK : ∀ u D w', K (Act.put { b with defers := D } o.dst u) w' → K' (Act.put { a with defers := D } o.dst u) w') : wpOp P ops Q j K' a w := by
  have H : ∀ u w', K (b.put o.dst u) w' → K' (a.put o.dst u) w' := fun u w' hk => by
    have := hK u a.defers w'
    rw [← hd] at this
    rw [hd] at this
    have e : ({ b with defers := a.defers } : Act) = b := by rw [← hd]
    rw [e] at this
    exact this hk
  unfold wpOp at h ⊢
  simp only [hj, hw] at h ⊢
  split
  · rename_i hw
    simp only [hw, if_true] at h
    rcases h with h | h
    · refine .inl ?_
      unfold Oper.wp at h ⊢
      rw [hr] at h
      generalize (execOp a.eval o).run P w = r at h ⊢
      rcases r with ⟨n, w'⟩ | ⟨x, w'⟩
      · have HD : ∀ d, K (Act.put { b with defers := d :: b.defers } o.dst undef) w' → K' (Act.put { a with defers := d :: a.defers } o.dst undef) w' := fun d hk => by
          rw [hd] at hk
          exact hK undef (d :: a.defers) w' hk
        cases n
        all_goals first
          | exact H _ _ h
          | exact False.elim h
          | exact HD _ h
          | (refine Calls.mono h fun e w'' he => ?_; cases e <;> first | exact H _ _ he | exact he.elim | exact (nrm_out N he).elim)
          | exact Rows.mono h fun u w'' he => H _ _ he
      · cases x <;> exact False.elim h
    · exact (nrm_out N h.2).elim
  · rename_i hw
    simp only [hw] at h
    exact H _ _ h

/-- Whatever order is picked, and every world on the way is of the class. -/
def anyC (P : Program) (md : Region.Mode) (ops : Array Oper) (N : Act → World → Prop) (C : World → Prop) : Nat → Array Bool → Act → World → Prop
  | 0, listed, a, w => C w ∧ Region.ready md ops listed = [] ∧ N a w
  | n + 1, listed, a, w => C w ∧ (Region.ready md ops listed = [] → N a w) ∧ ∀ i ∈ Region.ready md ops listed, wpOp P ops (Nrm N) i (anyC P md ops N C n (listed.setIfInBounds i true)) a w
theorem anyC_world : ∀ {n : Nat} {listed : Array Bool} {a : Act} {w : World}, anyC P md ops N C n listed a w → C w
  | 0, _, _, _, h => h.1
  | _ + 1, _, _, _, h => h.1
theorem anyC_any {Q : Exit → Act → World → Prop} (hN : ∀ a w, N a w → Q .normal a w) : ∀ {n : Nat} {listed : Array Bool} {a : Act} {w : World}, anyC P md ops N C n listed a w → wpAny P md ops Q n listed a w
  | 0, _, _, _, h => ⟨h.2.1, hN _ _ h.2.2⟩
  | n + 1, listed, a, w, h => ⟨fun h0 => hN _ _ (h.2.1 h0), fun i hi => by
      obtain ⟨_, o, ho, _⟩ := mem_ready.1 hi
      exact wpOp_go ho rfl rfl rfl (h.2.2 i hi) fun _ _ _ hk => anyC_any hN hk⟩

/-- In the frame a the operation yields v (or is passed over), in every world of the class, and leaves the world alone. -/
def YieldsC (P : Program) (ops : Array Oper) (C : World → Prop) (o : Oper) (v : Value) (a : Act) : Prop :=
  (Region.wanted o (yielded ops a.tmps) = true ∧ ∀ w, C w → (execOp a.eval o).run P w = .ok (.value v) w) ∨ (Region.wanted o (yielded ops a.tmps) = false ∧ v = undef)
theorem YieldsC.wpOp {Q : Exit → Act → World → Prop} {i : Nat} {o : Oper} {v : Value} {a : Act} {w : World} (hi : ops[i]? = some o) (h : YieldsC P ops C o v a) (hC : C w) {K : Act → World → Prop} (hK : K (a.put o.dst v) w) : wpOp P ops Q i K a w := by
  unfold Go.wpOp
  rcases h with ⟨h1, h2⟩ | ⟨h1, rfl⟩
  · simp only [hi, h1, if_true]
    exact .inl (by unfold Oper.wp; rw [h2 w hC]; exact hK)
  · simp only [hi, h1, Bool.false_eq_true, if_false]
    exact hK

theorem anyC_first {i : Nat} {oi : Oper} {v : Value} (hi : ops[i]? = some oi) (hsel : ∀ (j : Nat) (o : Oper) cs b, ops[j]? = some o → o.op ≠ .select cs b) :
    ∀ (n : Nat) (listed : Array Bool) (a : Act) (w : World),
      (∀ j oj, ops[j]? = some oj → j ≠ i → listed.getD j true = false → (∀ e ∈ oj.after, Region.binds md e = true → e.on ≠ i) → oi.apart ops oj = true) →
      i ∈ Region.ready md ops listed → YieldsC P ops C oi v a →
      anyC P md ops N C n (listed.setIfInBounds i true) (a.put oi.dst v) w → anyC P md ops N C (n + 1) listed a w
  | n, listed, a, w, hfree, hr, hy, H => by
    have hC := anyC_world H
    refine ⟨hC, fun h => (by rw [h] at hr; cases hr), fun j hj => ?_⟩
    by_cases hji : j = i
    · subst hji; exact hy.wpOp hi hC H
    · have hjr := ready_mono (i := i) hj hji
      match n, H with
      | 0, H =>
        rw [H.2.1] at hjr
        cases hjr
      | n + 1, H =>
        obtain ⟨hjun, oj, hoj, hall⟩ := mem_ready.1 hj
        have hiun := (mem_ready.1 hr).1
        have hnot : ∀ e ∈ oj.after, Region.binds md e = true → e.on ≠ i := fun e he hb heq => by
          have h1 := hall e he hb
          rw [heq] at h1
          rcases Nat.lt_or_ge i listed.size with h' | h'
          · simp [h'] at hiun h1; rw [hiun] at h1; cases h1
          · simp [Array.getElem?_eq_none h'] at h1
        obtain ⟨h1, h2, h3⟩ := Oper.apart_spec (hfree j oj hoj hji hjun hnot)
        refine wpOp_go hoj (execOp_put oj (fun cs b => hsel j oj cs b hoj) a oi.dst v h1) (wanted_put oj a oi.dst v h1) (by cases oi.dst <;> rfl) (H.2.2 j hjr) fun u D w' hk => ?_
        refine anyC_first (v := v) hi hsel n _ _ _ (fun k ok hk hki hun hno => hfree k ok hk hki ?_ hno) (ready_mono hr (Ne.symm hji)) ?_ ?_
        · by_cases hjk : j = k
          · subst hjk; exact hjun
          · rw [getD_set_ne true hjk] at hun; exact hun
        · have e1 : execOp (Act.put { a with defers := D } oj.dst u).eval oi = execOp a.eval oi := execOp_put oi (fun cs b => hsel i oi cs b hi) { a with defers := D } oj.dst u h3
          have e2 := wanted_put oi { a with defers := D } oj.dst u h3
          rcases hy with ⟨y1, y2⟩ | ⟨y1, y2⟩
          · exact .inl ⟨e2.trans y1, fun w hw => by rw [e1]; exact y2 w hw⟩
          · exact .inr ⟨e2.trans y1, y2⟩
        · rw [Array.setIfInBounds_comm _ _ hji]
          have e3 : ({ a.put oi.dst v with defers := D } : Act) = Act.put { a with defers := D } oi.dst v := by cases oi.dst <;> rfl
          rw [e3, Act.put_comm _ v u h2] at hk
          exact hk

/-- Operations that yield a value or halt. -/
def valOp : Op → Bool
  | .move _ => true
  | .assign _ => true
  | .load _ _ => true
  | .build _ _ => true
  | .binOp _ _ _ _ _ => true
  | .fieldAddr _ _ _ => true
  | .indexAddr _ _ _ => true
  | .slice _ _ _ _ _ => true
  | .convert _ _ _ => true
  | .unOp _ _ _ => true
  | .pick _ _ _ => true
  | .extract _ _ => true
  | _ => false
theorem value_only {s : Sem Value} {w w' : World} {n : Next} (h : (do pure (Next.value (← s)) : Sem Next).run P w = .ok n w') : ∃ u, n = .value u := by
  rw [Sem.run_bind] at h
  generalize s.run P w = r at h
  rcases r with ⟨x, w1⟩ | ⟨x, w1⟩
  · simp only [Result.andThen_ok, Sem.run_pure, Result.ok.injEq] at h
    exact ⟨x, h.1.symm⟩
  · cases h
theorem pick_only {s : Sem Bool} {x y : Value} {w w' : World} {n : Next} (h : (do pure (Next.value (if (← s) then x else y)) : Sem Next).run P w = .ok n w') : ∃ u, n = .value u := by
  rw [Sem.run_bind] at h
  generalize s.run P w = r at h
  rcases r with ⟨b, w1⟩ | ⟨b, w1⟩
  · simp only [Result.andThen_ok, Sem.run_pure, Result.ok.injEq] at h
    exact ⟨_, h.1.symm⟩
  · cases h
theorem valOp_value {o : Oper} (ho : valOp o.op = true) {ρ : Operand → Value} {w w' : World} {n : Next} (h : (execOp ρ o).run P w = .ok n w') : ∃ u, n = .value u := by
  obtain ⟨dst, op, type, pos, after, guard⟩ := o
  cases op <;> first | (cases ho; done) | exact value_only h | exact pick_only h | (simp only [execOp, Sem.run_pure, Result.ok.injEq] at h; exact ⟨_, h.1.symm⟩)
theorem yieldsC_of {o : Oper} (ho : valOp o.op = true) {a : Act} {v : Value} (hw : Region.wanted o (yielded ops a.tmps) = true) (h : ∀ w, C w → o.quietAt P a C w v) : YieldsC P ops C o v a := by
  refine .inl ⟨hw, fun w hC => ?_⟩
  have h1 := h w hC
  unfold Oper.quietAt at h1
  generalize hr : (execOp a.eval o).run P w = r at h1 ⊢
  rcases r with ⟨n, w'⟩ | ⟨x, w'⟩
  · obtain ⟨u, rfl⟩ := valOp_value ho hr
    obtain ⟨rfl, rfl⟩ := h1
    rfl
  · cases h1

def headsB (md : Region.Mode) (ops : Array Oper) : List Nat → Array Bool → Bool
  | [], _ => true
  | k :: ks, listed => (Region.ready md ops listed).contains k && (Region.free md ops listed k && ((match ops[k]? with | some o => valOp o.op | none => false) && headsB md ops ks (listed.setIfInBounds k true)))
def headsL : List Nat → Array Bool → Array Bool
  | [], listed => listed
  | k :: ks, listed => headsL ks (listed.setIfInBounds k true)
def headOps (ops : Array Oper) (ks : List Nat) : List Oper := ks.filterMap fun k => ops[k]?
theorem anyC_heads (hs : Region.noSelect ops = true) (n : Nat) (w : World) (hC : C w) : ∀ (ks : List Nat) (listed : Array Bool) (a : Act),
    headsB md ops ks listed = true → wpQuiet P ops C (fun a' => anyC P md ops N C n (headsL ks listed) a' w) (headOps ops ks) a → anyC P md ops N C (n + ks.length) listed a w
  | [], _, _, _, h => h
  | k :: ks, listed, a, hB, h => by
    cases h0 : ops[k]? with
    | none => simp [headsB, h0] at hB
    | some o =>
    simp only [headsB, Bool.and_eq_true, h0] at hB
    obtain ⟨hr, hf, hv, hB⟩ := hB
    rw [headOps, List.filterMap_cons, h0] at h
    unfold wpQuiet at h
    by_cases hw : Region.wanted o (yielded ops a.tmps) = true
    · rw [if_pos hw] at h
      obtain ⟨v, h1, h2⟩ := h
      exact anyC_first h0 (Region.noSelect_spec hs) (n + ks.length) listed a w (Region.free_spec h0 hf) (by simpa using hr) (yieldsC_of hv hw h1) (anyC_heads hs n w hC ks _ _ hB h2)
    · rw [if_neg hw] at h
      exact anyC_first h0 (Region.noSelect_spec hs) (n + ks.length) listed a w (Region.free_spec h0 hf) (by simpa using hr) (.inr ⟨by simpa using hw, rfl⟩) (anyC_heads hs n w hC ks _ _ hB h)
/-- One operation alone may come up now. -/
theorem anyC_one {n i : Nat} {o : Oper} {v : Value} {listed : Array Bool} {a : Act} {w w' : World} (hr : Region.ready md ops listed = [i]) (hi : ops[i]? = some o) (hg : o.guard = none)
    (hrun : (execOp a.eval o).run P w = .ok (.value v) w') (hC : C w) (h : anyC P md ops N C n (listed.setIfInBounds i true) (a.put o.dst v) w') : anyC P md ops N C (n + 1) listed a w := by
  refine ⟨hC, fun h0 => (by rw [h0] at hr; cases hr), fun j hj => ?_⟩
  rw [hr] at hj
  obtain rfl : j = i := by simpa using hj
  unfold wpOp
  have hw : Region.wanted o (yielded ops a.tmps) = true := by
    unfold Region.wanted
    rw [hg]
  simp only [hi, hw, if_true]
  exact .inl (by unfold Oper.wp; rw [hrun]; exact h)
/-- One operation alone may come up now: a call, what follows behind a variable. -/
theorem anyC_step {n i : Nat} {o : Oper} {listed : Array Bool} {a : Act} {w : World} (hr : Region.ready md ops listed = [i]) (hi : ops[i]? = some o) (hw : Region.wanted o (yielded ops a.tmps) = true) (hC : C w)
    (h : ∀ K : Act → World → Prop, (∀ a' w', anyC P md ops N C n (listed.setIfInBounds i true) a' w' → K a' w') → Oper.wp P o a w K (Nrm N)) : anyC P md ops N C (n + 1) listed a w := by
  refine ⟨hC, fun h0 => (by rw [h0] at hr; cases hr), fun j hj => ?_⟩
  rw [hr] at hj
  obtain rfl : j = i := by simpa using hj
  unfold wpOp
  simp only [hi, hw, if_true]
  exact .inl (h _ fun _ _ hk => hk)
theorem anyC_skip {n i : Nat} {o : Oper} {listed : Array Bool} {a : Act} {w : World} (hr : Region.ready md ops listed = [i]) (hi : ops[i]? = some o) (hw : Region.wanted o (yielded ops a.tmps) = false) (hC : C w)
    (h : anyC P md ops N C n (listed.setIfInBounds i true) (a.put o.dst undef) w) : anyC P md ops N C (n + 1) listed a w := by
  refine ⟨hC, fun h0 => (by rw [h0] at hr; cases hr), fun j hj => ?_⟩
  rw [hr] at hj
  obtain rfl : j = i := by simpa using hj
  unfold wpOp
  simp only [hi, hw, Bool.false_eq_true, if_false]
  exact h
/-- One operation alone may come up now, and it is a call. -/
theorem anyC_call {n i : Nat} {o : Oper} {f : FuncId} {args : Array Value} {listed : Array Bool} {a : Act} {w : World} (hr : Region.ready md ops listed = [i]) (hi : ops[i]? = some o) (hw : Region.wanted o (yielded ops a.tmps) = true) (hC : C w)
    (hrun : (execOp a.eval o).run P w = .ok (.enter f args) w) (h : Calls P f args w fun e w' => ∃ v, e = .returned v ∧ anyC P md ops N C n (listed.setIfInBounds i true) (a.put o.dst v) w') : anyC P md ops N C (n + 1) listed a w :=
  anyC_step hr hi hw hC fun K hK => by
    unfold Oper.wp
    rw [hrun]
    exact Calls.mono h fun e w' ⟨v, he, hk⟩ => by subst he; exact hK _ _ hk
/-- One operation alone may come up now, and it yields a value. -/
theorem anyC_val {n i : Nat} {o : Oper} {v : Value} {listed : Array Bool} {a : Act} {w w' : World} (hr : Region.ready md ops listed = [i]) (hi : ops[i]? = some o) (hw : Region.wanted o (yielded ops a.tmps) = true) (hC : C w)
    (hrun : (execOp a.eval o).run P w = .ok (.value v) w') (h : anyC P md ops N C n (listed.setIfInBounds i true) (a.put o.dst v) w') : anyC P md ops N C (n + 1) listed a w :=
  anyC_step hr hi hw hC fun K hK => by
    unfold Oper.wp
    rw [hrun]
    exact hK _ _ h
theorem anyC_done {listed : Array Bool} {a : Act} {w : World} (hr : Region.ready md ops listed = []) (hC : C w) (h : N a w) : anyC P md ops N C 0 listed a w := ⟨hC, hr, h⟩
end

/-- A region some of whose operations (ks) only read: they are walked in every world of the class, and the rest in any order behind them. -/
theorem wp_region_heads {P : Program} {N : Act → World → Prop} {C : World → Prop} {Q : Exit → Act → World → Prop} {id : Nat} {a : Act} {w : World} {l : List Oper} (ks : List Nat) (hm : P.follows .mixedOrders = true)
    (hB : (Region.noSelect l.toArray && (decide (ks.length ≤ l.length) && headsB .any l.toArray ks (Array.replicate l.length false))) = true) (hC : C w.drew) (hN : ∀ a w, N a w → Q .normal a w)
    (h : wpQuiet P l.toArray C (fun a' => anyC P .any l.toArray N C (l.length - ks.length) (headsL ks (Array.replicate l.length false)) a' w.drew) (headOps l.toArray ks) a) : (Code.region id l.toArray true).wp P Q a w := by
  simp only [Bool.and_eq_true, decide_eq_true_eq] at hB
  obtain ⟨hs, hn, hB⟩ := hB
  refine wp_region_any hm (anyC_any (C := C) hN ?_)
  have := anyC_heads (P := P) (md := .any) (N := N) hs (l.length - ks.length) w.drew hC ks (Array.replicate l.length false) a hB h
  rw [show l.length - ks.length + ks.length = l.length by omega] at this
  rw [List.size_toArray]
  exact this

end Go.Proofs.Ythlidhfahaalgaa

/-
  The walk of good of chapter 5. A sector has 128 bytes.
-/
namespace Go.Proofs.Ythlidhfahaalgaa
open Go.RowKit

theorem good_no1 {s : Bs} {k : Nat} (h : kindB (kindT s) (manyT s) = false) : goodT s k = false := by simp [goodT, h]
theorem good_no2 {s : Bs} {k : Nat} (h : genT s = 0) : goodT s k = false := by simp [goodT, h]
/-- Ways in which kind and length are wrong, and right. -/
theorem kind_ways (c n : Nat) : (112 < n ∧ kindB c n = false) ∨ (n ≤ 112 ∧ 3 < c ∧ kindB c n = false) ∨ (n ≤ 112 ∧ (c = 0 ∨ c = 1) ∧ n < 112 ∧ kindB c n = false) ∨ (n ≤ 112 ∧ (c = 0 ∨ c = 2) ∧ n = 0 ∧ kindB c n = false) ∨ (kindB c n = true ∧ ((c = 0 ∧ n = 112) ∨ (c = 1 ∧ n = 112) ∨ (c = 2 ∧ 0 < n ∧ n ≤ 112) ∨ (c = 3 ∧ n ≤ 112))) := by
  unfold kindB
  by_cases h1 : n ≤ 112
  · by_cases h2 : c ≤ 3
    · rcases (show c = 0 ∨ c = 1 ∨ c = 2 ∨ c = 3 by omega) with rfl | rfl | rfl | rfl
      · by_cases h3 : n = 112
        · subst h3; exact .inr (.inr (.inr (.inr ⟨rfl, .inl ⟨rfl, rfl⟩⟩)))
        · exact .inr (.inr (.inl ⟨h1, .inl rfl, by omega, by simp [h3]⟩))
      · by_cases h3 : n = 112
        · subst h3; exact .inr (.inr (.inr (.inr ⟨rfl, .inr (.inl ⟨rfl, rfl⟩)⟩)))
        · exact .inr (.inr (.inl ⟨h1, .inr rfl, by omega, by simp [h3]⟩))
      · by_cases h3 : n = 0
        · subst h3; exact .inr (.inr (.inr (.inl ⟨h1, .inr rfl, rfl, rfl⟩)))
        · exact .inr (.inr (.inr (.inr ⟨by simp [h1, h3], .inr (.inr (.inl ⟨rfl, by omega, h1⟩))⟩)))
      · exact .inr (.inr (.inr (.inr ⟨by simp [h1], .inr (.inr (.inr ⟨rfl, h1⟩))⟩)))
    · exact .inr (.inl ⟨h1, by omega, by simp [h2]⟩)
  · exact .inl ⟨by omega, by simp [h1]⟩

set_option maxRecDepth 100000 in
set_option maxHeartbeats 4000000 in
theorem jGood_any (s : Bs) (k : Nat) (A : Option Addr) (c : Nat) (S : Nat → Prop) (w : World) (h : Hid (BsAt w S (.slice A 128 c) s)) (hs : Hid (s.length = 128)) (hk : k < 65536) :
    Calls Try.prog 61 #[.slice A 128 c, .int .i64 k] w fun e w' => e = .returned (.bool (goodT s k)) ∧ Below w.heap.size w w' := by
  obtain ⟨T, hT⟩ : ∃ T, goodT s k = T := ⟨_, rfl⟩
  rw [hT]
  have HT := Lib.hid hT
  clear hT
  obtain ⟨b, off, rfl, hSb, hbz, c10⟩ := h.out.cell (k := 10) (by rw [hs.out]; decide)
  obtain ⟨_, _, e, _, _, c11⟩ := h.out.cell (k := 11) (by rw [hs.out]; decide)
  cases e
  have hcm : c ≤ maxLen ∧ 128 ≤ c := by
    rcases h.out.1 with e | ⟨_, _, _, e, h1, h2⟩
    · cases e
    · cases e; exact ⟨h2, h1⟩
  have hca := hcm.2
  have hcb := hcm.1
  clear hcm
  have hcl : (c : Int) ≤ 9223372036854775807 := by simp only [maxLen] at hcb; omega
  have hkd : ((s.getD 10 0).toNat) = kindT s := rfl
  have hmn : ((s.getD 11 0).toNat) = manyT s := rfl
  rw [hkd] at c10
  rw [hmn] at c11
  have hn255 : manyT s < 256 := u8_lt _
  have hways := kind_ways (kindT s) (manyT s)
  rcases hways with ⟨q1, q⟩ | ⟨q1, q2, q⟩ | ⟨q1, q2, q3, q⟩ | ⟨q1, q2, q3, q⟩ | ⟨q, q1⟩
  · obtain rfl : T = false := HT.out.symm.trans (good_no1 q)
    generalize manyT s = n at *
    generalize kindT s = x at *
    clear hkd hmn q h hs HT
    go_enter Try.func61, Try.ntmps61
    go_wp2
    go_ret
    exact ⟨rfl, Below.refl _ _⟩
  · obtain rfl : T = false := HT.out.symm.trans (good_no1 q)
    have hx : kindT s < 256 := u8_lt _
    generalize manyT s = n at *
    generalize kindT s = x at *
    clear hkd hmn q h hs HT
    go_enter Try.func61, Try.ntmps61
    go_wp2
    go_ret
    exact ⟨rfl, Below.refl _ _⟩
  · obtain rfl : T = false := HT.out.symm.trans (good_no1 q)
    generalize manyT s = n at *
    generalize kindT s = x at *
    clear hkd hmn q h hs HT
    rcases q2 with rfl | rfl
    · have e2 : bits .and .u8 ((0 : Nat) : Int) 2 = 0 := by decide
      go_enter Try.func61, Try.ntmps61
      go_wp2
      go_ret
      exact ⟨rfl, Below.refl _ _⟩
    · have e2 : bits .and .u8 ((1 : Nat) : Int) 2 = 0 := by decide
      go_enter Try.func61, Try.ntmps61
      go_wp2
      go_ret
      exact ⟨rfl, Below.refl _ _⟩
  · obtain rfl : T = false := HT.out.symm.trans (good_no1 q)
    generalize manyT s = n at *
    generalize kindT s = x at *
    clear hkd hmn q h hs HT
    subst q3
    have e2 : bits .and .u8 ((0 : Nat) : Int) 2 = 0 := by decide
    have e3 : bits .and .u8 ((2 : Nat) : Int) 2 = 2 := by decide
    have e4 : bits .and .u8 ((2 : Nat) : Int) 1 = 0 := by decide
    rcases q2 with rfl | rfl
    all_goals
      go_enter Try.func61, Try.ntmps61
      go_wp2
      go_ret
      exact ⟨rfl, Below.refl _ _⟩
  · have hdl := data_length hs.out (show manyT s ≤ 112 by omega)
    have hC := fun hg => good_enc hs.out hk hg q
    have hN := good_no2 (s := s) (k := k)
    have hG := jGet_at (w := w) (n := 4) (c := c) (T := genT s) (by have := h.out.sub 0 4 c (by omega) (by omega) hcb hs.out; exact this) (by simp; have := hs.out; omega) (by omega) rfl
    have hD := h.out.sub 12 (manyT s) (c - 12) (by omega) (by omega) (by omega) hs.out
    have hE := fun (u : World) (hu : Below w.heap.size w u) => jEncode_any (genT s) k (s.getD 10 0) (dataT s) (some ⟨b, off + 12, none⟩) (manyT s) (c - 12) S u (Lib.hid (hD.keep (Keeps.of hu))) hdl (by omega) hk
    have hU := fun (u : World) (hu : Below w.heap.size w u) => h.out.keep (Keeps.of hu)
    have hel : (encT (genT s) k (s.getD 10 0) (dataT s)).length = 128 := encT_length _ _ _ (by omega)
    have HU := Lib.hid hU
    have HE := Lib.hid hE
    have HC := Lib.hid hC
    have HN := Lib.hid hN
    have HEL := Lib.hid hel
    clear hU hE hC hN hel hD hdl h hs
    rw [hkd] at HE
    clear hkd hmn hk
    generalize manyT s = n at *
    generalize kindT s = x at *
    generalize genT s = g at *
    generalize encT g k (s.getD 10 0) (dataT s) = en at *
    clear q
    have a1 : bits .and .u8 0 2 = 0 := by decide
    have a2 : bits .and .u8 0 1 = 0 := by decide
    have b1 : bits .and .u8 1 2 = 0 := by decide
    have b2 : bits .and .u8 1 1 = 1 := by decide
    have c1 : bits .and .u8 2 2 = 2 := by decide
    have c2 : bits .and .u8 2 1 = 0 := by decide
    have d1 : bits .and .u8 3 2 = 2 := by decide
    have d2 : bits .and .u8 3 1 = 1 := by decide
    have hcb := Lib.hid hcb
    clear hn255
    have h112 : decide (112 < (n : Int)) = false := by simp; omega
    have h0n : x = 2 → ((n : Int) == 0) = false := fun hx => by simp; omega
    rcases q1 with ⟨rfl, rfl⟩ | ⟨rfl, rfl⟩ | ⟨rfl, q1, q2⟩ | ⟨rfl, q1⟩
    all_goals
      first | (have h0 := h0n rfl; clear h0n) | clear h0n
      go_enter Try.func61, Try.ntmps61
      go_wp2_with fail
      refine hG.mono ?_
      rintro e wz ⟨rfl, rfl⟩
      rcases Nat.eq_zero_or_pos g with g0 | g0
      · subst g0
        obtain rfl : T = false := HT.out.symm.trans (HN.out rfl)
        go_upto_region 5 with fail
        go_quiet (fail)
        go_wp2
        go_ret
        exact ⟨rfl, below_drewN (Below.refl _ _) _⟩
      · have ht : decide (s = en) = T := by rw [← HC.out (by omega)]; exact HT.out
        have g1 : decide (0 < (g : Int)) = true := by simp; omega
        go_upto_region 5 with fail
        have c10 : ∀ x : Later wz, x.w.cell? ⟨b, off + 10, none⟩ = some _ := Later.cell c10 hbz
        refine wp_region_heads (C := fun w' => ∃ x : Later wz, w' = x.w) [0, 1, 2, 3, 4, 5, 6, 7, 8, 9, 10, 11, 12] (by kernel_rfl) (by kernel_rfl) (Later.mk' (Below.refl _ _).drew) (fun _ _ h => h) ?_
        simp only [headOps, List.filterMap_cons, List.filterMap_nil, List.getElem?_toArray, List.getElem?_cons_succ, List.getElem?_cons_zero]
        repeat (first | go_big_quiet_skip | (show wpQuiet _ _ _ _ (_ :: _) _; go_big_quiet_want; go_big_quiet_op; go_big_quiet_on))
        refine wpQuiet_nil ?_
        have hb0 := (Below.refl wz.heap.size wz).drew
        refine anyC_call (n := 3) (i := 13) (by kernel_rfl) rfl rfl (Later.mk' hb0) ?_ ((HE.out wz.drew hb0).mono ?_)
        · go_simp
        rintro e w6 ⟨gb, rfl, hgb, X6, hb⟩
        refine ⟨_, rfl, ?_⟩
        have hb1 := hb0.trans hb
        have hen : BsAt w6 (fun b => b = gb) (.slice (some ⟨gb, 0, none⟩) 128 128) en := by
          have := box_bs X6 0 128 128 HEL.out (by omega) (by omega) (by omega)
          rwa [List.drop_zero, List.take_of_length_le (by rw [HEL.out]; omega)] at this
        refine anyC_call (n := 2) (i := 14) (by kernel_rfl) rfl rfl (Later.mk' hb1) ?_ ((jEqual_any (HU.out w6 hb1) hen ht).mono ?_)
        · go_simp
        rintro e w7 ⟨rfl, rfl⟩
        refine ⟨_, rfl, ?_⟩
        refine anyC_val (n := 1) (i := 15) (v := .bool T) (by kernel_rfl) rfl rfl (Later.mk' hb1) (by first | rfl | go_simp) ?_
        refine anyC_val (n := 0) (i := 16) (v := .bool T) (by kernel_rfl) rfl rfl (Later.mk' hb1) (by first | rfl | go_simp) ?_
        refine anyC_done (by kernel_rfl) (Later.mk' hb1) ?_
        go_wp2
        go_ret
        exact ⟨rfl, hb1⟩

end Go.Proofs.Ythlidhfahaalgaa
