/- The reference's Decode on bytes that are an encoding. No condition. -/
import Derived.Test.YtmbifmmkccghfaaQGN
import Derived.Test.YtmbifmmkccghfaaQCZ
import Derived.Test.YtmbifmmkccghfaaQCQ
import Derived.Test.YtmbifmmkccghfaaQCW
import Derived.Test.YtmbifmmkccghfaaQNR
import Derived.Deep.Cut
import Derived.Test.YtmbifmmkccghfaaQK
import Derived.Deep.Quiet
import Derived.RangeFuncNested
import Derived.OwnWalkIn
set_option linter.unusedVariables false
set_option linter.unusedSimpArgs false
namespace Go.Proofs.Ytmbifmmkccghfaa
open Go.RowKit
attribute [local go_sem ↓ high] app_named

end Go.Proofs.Ytmbifmmkccghfaa

/-
  The law CodecDecodeSpec. (Printed by gen_gq.py.)
-/
namespace Go.Proofs.Ytmbifmmkccghfaa
open Go.RowKit
attribute [local go_sem ↓ high] app_named

end Go.Proofs.Ytmbifmmkccghfaa

/-
  The messages of orders, written by the program and by the reference. No condition.
-/
namespace Go.Proofs.Ytmbifmmkccghfaa
open Go.RowKit

theorem vals_two {w : World} {b : Nat} {n o : Int} (X : Box w b [.int .i64 1, .int .i64 n, .string ⟨#[]⟩, .slice none 0 0, .int .i64 1, .int .i64 o, .string ⟨#[]⟩, .slice none 0 0]) : ValsAt w w.heap.size 1 (.slice (some ⟨b, 0, none⟩) 2 2) [intV n, intV o] := by
  refine ⟨.inr ⟨_, _, _, rfl, Nat.le_refl _, by simp [maxLen]⟩, fun _ => .slice none 0 0, ⟨_, _, rfl, by simp [maxLen], fun i hi => ⟨b, 0, rfl, X.lt, fun j hj => ?_⟩⟩, fun i x hx => ?_⟩
  · have hi : i < 2 := hi
    rw [Nat.zero_add, X.cell]
    rcases (show i = 0 ∨ i = 1 by omega) with rfl | rfl <;> rcases (show j = 0 ∨ j = 1 ∨ j = 2 ∨ j = 3 by omega) with rfl | rfl | rfl | rfl <;> rfl
  · match i, hx with
    | 0, hx =>
      obtain rfl : intV n = x := by simpa using hx
      exact valsAt_nil w _ 0
    | 1, hx =>
      obtain rfl : intV o = x := by simpa using hx
      exact valsAt_nil w _ 0
    | i + 2, hx => simp at hx
theorem enc_msg (n o : Int) : encT (msgV n o) = (msgB n o, 0) := enc_ok (msg_chk n o)

set_option maxRecDepth 100000 in
set_option maxHeartbeats 4000000 in
theorem oMessage_is {n o : Int} (h1 : I64 n) (h2 : I64 o) {T : Bs} (hT : Hid (msgB n o = T)) (w : World) : Calls Try.prog 33 #[.int .i64 n, .int .i64 o] w fun e w' => e = .returned (.string (strB T)) ∧ Below w.heap.size w w' := by
  have hl := msg_len h1 h2
  have hf := msg_fits h1 h2
  have he := enc_msg n o
  go_enter Try.func33, Try.ntmps33
  go_wp2_with fail
  have X := Box.new w [.int .i64 1, .int .i64 n, .string ⟨#[]⟩, .slice none 0 0, .int .i64 1, .int .i64 o, .string ⟨#[]⟩, .slice none 0 0] 85
  have hB := (Below.refl w.heap.size w).alloc (Nat.le_refl _) (.cells #[.int .i64 1, .int .i64 n, .string ⟨#[]⟩, .slice none 0 0, .int .i64 1, .int .i64 o, .string ⟨#[]⟩, .slice none 0 0] 85)
  generalize w.alloc (.cells #[.int .i64 1, .int .i64 n, .string ⟨#[]⟩, .slice none 0 0, .int .i64 1, .int .i64 o, .string ⟨#[]⟩, .slice none 0 0] 85) = w1 at X hB ⊢
  refine (cEncode_any 1 (by omega) (msgV n o) _ w1 (vals_two X) hf (by show (msgB n o).length ≤ _; omega)).mono ?_
  rintro e w2 ⟨V, rfl, hV, hb⟩
  have hB := hB.trans (hb.mono hB.size)
  rw [he] at hV ⊢
  dsimp only at hV ⊢
  rw [hT.out] at hV
  obtain ⟨A, c, rfl, -⟩ := hV.form
  have hs := take_str hV
  clear hV hb X he
  go_wp2
  go_ret
  exact ⟨rfl, hB⟩
theorem vals_pair {w : World} {B d : Nat} {L : Value} {a c : Val} (h : ValsAt w B (d + 1) L [a, c]) : ∃ b off cp, L = .slice (some ⟨b, off, none⟩) 2 cp ∧ b < B ∧ w.cell? ⟨b, off, none⟩ = some (.int .i64 a.kind) ∧ w.cell? ⟨b, off + 1, none⟩ = some (.int .i64 a.num) ∧ w.cell? ⟨b, off + 4, none⟩ = some (.int .i64 c.kind) ∧ w.cell? ⟨b, off + 4 + 1, none⟩ = some (.int .i64 c.num) := by
  obtain ⟨_, V, ⟨A, cp, hv, _, h1⟩, _⟩ := h
  obtain ⟨b, off, rfl, hb, h2⟩ := h1 0 (by simp)
  obtain ⟨b', off', e', _, h3⟩ := h1 1 (by simp)
  cases e'
  exact ⟨b, off, cp, hv, hb, h2 0 (by omega), h2 1 (by omega), h3 0 (by omega), h3 1 (by omega)⟩
theorem bs_of {w : World} {V : Value} {l : Bs} (h : BytesAt w w.heap.size V l) : BsAt w (fun b => b < w.heap.size) V l := by
  obtain ⟨h0, A, c, hv, hn, h1⟩ := h
  refine ⟨h0, A, c, hv, hn, fun i hi => ?_⟩
  obtain ⟨b, off, hA, hb, h2⟩ := h1 i hi
  exact ⟨b, off, hA, hb, hb, h2⟩
theorem two_of {es : List Val} (h : es.length = 2) : ∃ a c, es = [a, c] := by
  match es, h with
  | [a, c], _ => exact ⟨a, c, rfl⟩
set_option maxRecDepth 100000 in
set_option maxHeartbeats 4000000 in
theorem oNumber_is {l : Bs} {V : Value} {w : World} {T : Int} (hT : Hid (numberT l = T)) (hb : BytesAt w w.heap.size V l) (hl : l.length ≤ 79000000) : Calls Try.prog 39 #[V] w fun e w' => e = .returned (.int .i64 T) ∧ Below w.heap.size w w' := by
  obtain ⟨⟨⟨k, nn, s, es⟩, er⟩, hd⟩ : ∃ p, decT l = p := ⟨_, rfl⟩
  have hT := hT.out
  rw [numberT, hd] at hT
  dsimp only at hT
  have HD := Lib.hid hd
  have HT := Lib.hid hT
  clear hT hd
  have hbs := Lib.hid (bs_of hb)
  obtain ⟨A, c, rfl, -⟩ := hb.form
  clear hb
  go_enter Try.func39, Try.ntmps39
  go_wp2_with fail
  refine (cDecode_any l _ w hbs.out (by omega)).mono ?_
  rintro e w2 ⟨L, rfl, hV, hB⟩
  rw [HD.out] at hV ⊢
  dsimp only [Val.elems] at hV
  have hV := hV.vals
  obtain ⟨AL, cL, rfl, -⟩ := hV.form
  obtain ⟨m, hm⟩ : ∃ m, es.length = m := ⟨_, rfl⟩
  rw [hm] at hV ⊢
  dsimp only [Val.v, Val.kind, Val.num, Val.str]
  have HM := Lib.hid hm
  have HV := Lib.hid hV
  clear hm hV HD
  go_upto_region 2 with fail
  have X := Box.new w2 [.int .i64 k, .int .i64 nn, .string (strB s), .slice AL m cL] 85
  have hal := (Below.refl w2.heap.size w2).alloc (Nat.le_refl _) (.cells #[.int .i64 k, .int .i64 nn, .string (strB s), .slice AL m cL] 85)
  have HV := Lib.hid ((HV.out.below hal).more hal.size)
  have hB := hB.trans (hal.mono hB.size)
  clear hal
  generalize w2.alloc (.cells #[.int .i64 k, .int .i64 nn, .string (strB s), .slice AL m cL] 85) = w3 at X HV hB ⊢
  generalize w2.heap.size = D at X ⊢
  have x0 : w3.cell? ⟨D, 0, none⟩ = some (.int .i64 k) := X.cell 0
  have x3 : w3.cell? ⟨D, 3, none⟩ = some (.slice AL m cL) := X.cell 3
  have xz := X.lt
  by_cases h0 : er = 0
  rotate_left
  · have d0 : (er != 0) = true := by simp [h0]
    obtain rfl : T = -1 := by rw [← HT.out, if_neg h0]
    go_wp2
    go_ret
    exact ⟨rfl, hB⟩
  subst h0
  by_cases hk : k = 3
  rotate_left
  · have d0 : (k != 3) = true := by simp [hk]
    obtain rfl : T = -1 := by rw [← HT.out, if_pos rfl, first_kind hk]
    go_wp2
    go_ret
    exact ⟨rfl, hB⟩
  subst hk
  by_cases h2 : m = 2
  rotate_left
  · have d0 : ((m : Int) != 2) = true := by simp; omega
    obtain rfl : T = -1 := by rw [← HT.out, if_pos rfl, first_len (by rw [HM.out]; exact h2)]
    go_wp2
    go_ret
    exact ⟨rfl, hB⟩
  subst h2
  obtain ⟨a, c', rfl⟩ := two_of HM.out
  obtain ⟨b2, o2, cp, eL, hb2, v0, v1, v2, v3⟩ := vals_pair HV.out
  cases eL
  have d0 : ((2 : Int) != 2) = false := by decide
  by_cases ha : a.kind = 1
  rotate_left
  · have d1 : (a.kind != 1) = true := by simp [ha]
    obtain rfl : T = -1 := by rw [← HT.out, if_pos rfl, first_two, if_neg (fun h => ha h.1)]
    go_wp2
    go_ret
    exact ⟨rfl, hB⟩
  have hTT : T = if 0 ≤ a.num then a.num else -1 := by
    rw [← HT.out, if_pos rfl, first_two]
    simp only [ha, true_and]
  have HTT := Lib.hid hTT
  clear hTT
  rw [ha] at v0
  generalize a.num = u at v1 HTT
  by_cases h3 : 0 ≤ u
  · have d1 : decide (u < 0) = false := decide_eq_false (by omega)
    have d2 : ¬ (u < 0) := by omega
    obtain rfl : T = u := by rw [HTT.out, if_pos h3]
    go_wp2
    go_ret
    exact ⟨rfl, hB⟩
  · have d1 : decide (u < 0) = true := decide_eq_true (by omega)
    have d2 : u < 0 := by omega
    obtain rfl : T = -1 := by rw [HTT.out, if_neg h3]
    go_wp2
    go_ret
    exact ⟨rfl, hB⟩
end Go.Proofs.Ytmbifmmkccghfaa

/-
  Regions that draw their order and hold operations that make memory beside many that only read: the readers may be taken first. No condition.
-/
namespace Go.Proofs.Ytmbifmmkccghfaa
open Go.RowKit

def Nrm (N : Act → World → Prop) : Exit → Act → World → Prop
  | .normal, a, w => N a w
  | _, _, _ => False
theorem nrm_out (N : Act → World → Prop) : ¬ LetsOut (Nrm N) := fun ⟨_, _, h⟩ => h

section
variable {P : Program} {ops : Array Oper} {md : Region.Mode} {N : Act → World → Prop} {C : World → Prop}

theorem wpOp_go {Q : Exit → Act → World → Prop} {j : Nat} {o : Oper} (hj : ops[j]? = some o) {K K' : Act → World → Prop} {a b : Act} {w : World} (hr : execOp b.eval o = execOp a.eval o)
    (hw : Region.wanted o (yielded ops b.tmps) = Region.wanted o (yielded ops a.tmps)) (hd : b.defers = a.defers) (h : wpOp P ops (Nrm N) j K b w)
    (hK : ∀ u D w', K (Act.put { b with defers := D } o.dst u) w' → K' (Act.put { a with defers := D } o.dst u) w') : wpOp P ops Q j K' a w := by
  have H : ∀ u w', K (b.put o.dst u) w' → K' (a.put o.dst u) w' := fun u w' hk => by
    have := hK u a.defers w'
    rw [← hd] at this
    rw [hd] at this
    have e : ({ b with defers := a.defers } : Act) = b := by rw [← hd]
    rw [e] at this
    exact this hk
  unfold wpOp at h ⊢
  simp only [hj, hw] at h ⊢
  split
  · rename_i hw
    simp only [hw, if_true] at h
    rcases h with h | h
    · refine .inl ?_
      unfold Oper.wp at h ⊢
      rw [hr] at h
      generalize (execOp a.eval o).run P w = r at h ⊢
      rcases r with ⟨n, w'⟩ | ⟨x, w'⟩
      · have HD : ∀ d, K (Act.put { b with defers := d :: b.defers } o.dst undef) w' → K' (Act.put { a with defers := d :: a.defers } o.dst undef) w' := fun d hk => by
          rw [hd] at hk
          exact hK undef (d :: a.defers) w' hk
        cases n
        all_goals first
          | exact H _ _ h
          | exact False.elim h
          | exact HD _ h
          | (refine Calls.mono h fun e w'' he => ?_; cases e <;> first | exact H _ _ he | exact he.elim | exact (nrm_out N he).elim)
          | exact Rows.mono h fun u w'' he => H _ _ he
      · cases x <;> exact False.elim h
    · exact (nrm_out N h.2).elim
  · rename_i hw
    simp only [hw] at h
    exact H _ _ h

def anyC (P : Program) (md : Region.Mode) (ops : Array Oper) (N : Act → World → Prop) (C : World → Prop) : Nat → Array Bool → Act → World → Prop
  | 0, listed, a, w => C w ∧ Region.ready md ops listed = [] ∧ N a w
  | n + 1, listed, a, w => C w ∧ (Region.ready md ops listed = [] → N a w) ∧ ∀ i ∈ Region.ready md ops listed, wpOp P ops (Nrm N) i (anyC P md ops N C n (listed.setIfInBounds i true)) a w
theorem anyC_world : ∀ {n : Nat} {listed : Array Bool} {a : Act} {w : World}, anyC P md ops N C n listed a w → C w
  | 0, _, _, _, h => h.1
  | _ + 1, _, _, _, h => h.1
theorem anyC_any {Q : Exit → Act → World → Prop} (hN : ∀ a w, N a w → Q .normal a w) : ∀ {n : Nat} {listed : Array Bool} {a : Act} {w : World}, anyC P md ops N C n listed a w → wpAny P md ops Q n listed a w
  | 0, _, _, _, h => ⟨h.2.1, hN _ _ h.2.2⟩
  | n + 1, listed, a, w, h => ⟨fun h0 => hN _ _ (h.2.1 h0), fun i hi => by
      obtain ⟨_, o, ho, _⟩ := mem_ready.1 hi
      exact wpOp_go ho rfl rfl rfl (h.2.2 i hi) fun _ _ _ hk => anyC_any hN hk⟩

def YieldsC (P : Program) (ops : Array Oper) (C : World → Prop) (o : Oper) (v : Value) (a : Act) : Prop :=
  (Region.wanted o (yielded ops a.tmps) = true ∧ ∀ w, C w → (execOp a.eval o).run P w = .ok (.value v) w) ∨ (Region.wanted o (yielded ops a.tmps) = false ∧ v = undef)
theorem YieldsC.wpOp {Q : Exit → Act → World → Prop} {i : Nat} {o : Oper} {v : Value} {a : Act} {w : World} (hi : ops[i]? = some o) (h : YieldsC P ops C o v a) (hC : C w) {K : Act → World → Prop} (hK : K (a.put o.dst v) w) : wpOp P ops Q i K a w := by
  unfold Go.wpOp
  rcases h with ⟨h1, h2⟩ | ⟨h1, rfl⟩
  · simp only [hi, h1, if_true]
    exact .inl (by unfold Oper.wp; rw [h2 w hC]; exact hK)
  · simp only [hi, h1, Bool.false_eq_true, if_false]
    exact hK

theorem anyC_first {i : Nat} {oi : Oper} {v : Value} (hi : ops[i]? = some oi) (hsel : ∀ (j : Nat) (o : Oper) cs b, ops[j]? = some o → o.op ≠ .select cs b) :
    ∀ (n : Nat) (listed : Array Bool) (a : Act) (w : World),
      (∀ j oj, ops[j]? = some oj → j ≠ i → listed.getD j true = false → (∀ e ∈ oj.after, Region.binds md e = true → e.on ≠ i) → oi.apart ops oj = true) →
      i ∈ Region.ready md ops listed → YieldsC P ops C oi v a →
      anyC P md ops N C n (listed.setIfInBounds i true) (a.put oi.dst v) w → anyC P md ops N C (n + 1) listed a w
  | n, listed, a, w, hfree, hr, hy, H => by
    have hC := anyC_world H
    refine ⟨hC, fun h => (by rw [h] at hr; cases hr), fun j hj => ?_⟩
    by_cases hji : j = i
    · subst hji; exact hy.wpOp hi hC H
    · have hjr := ready_mono (i := i) hj hji
      match n, H with
      | 0, H =>
        rw [H.2.1] at hjr
        cases hjr
      | n + 1, H =>
        obtain ⟨hjun, oj, hoj, hall⟩ := mem_ready.1 hj
        have hiun := (mem_ready.1 hr).1
        have hnot : ∀ e ∈ oj.after, Region.binds md e = true → e.on ≠ i := fun e he hb heq => by
          have h1 := hall e he hb
          rw [heq] at h1
          rcases Nat.lt_or_ge i listed.size with h' | h'
          · simp [h'] at hiun h1; rw [hiun] at h1; cases h1
          · simp [Array.getElem?_eq_none h'] at h1
        obtain ⟨h1, h2, h3⟩ := Oper.apart_spec (hfree j oj hoj hji hjun hnot)
        refine wpOp_go hoj (execOp_put oj (fun cs b => hsel j oj cs b hoj) a oi.dst v h1) (wanted_put oj a oi.dst v h1) (by cases oi.dst <;> rfl) (H.2.2 j hjr) fun u D w' hk => ?_
        refine anyC_first (v := v) hi hsel n _ _ _ (fun k ok hk hki hun hno => hfree k ok hk hki ?_ hno) (ready_mono hr (Ne.symm hji)) ?_ ?_
        · by_cases hjk : j = k
          · subst hjk; exact hjun
          · rw [getD_set_ne true hjk] at hun; exact hun
        · have e1 : execOp (Act.put { a with defers := D } oj.dst u).eval oi = execOp a.eval oi := execOp_put oi (fun cs b => hsel i oi cs b hi) { a with defers := D } oj.dst u h3
          have e2 := wanted_put oi { a with defers := D } oj.dst u h3
          rcases hy with ⟨y1, y2⟩ | ⟨y1, y2⟩
          · exact .inl ⟨e2.trans y1, fun w hw => by rw [e1]; exact y2 w hw⟩
          · exact .inr ⟨e2.trans y1, y2⟩
        · rw [Array.setIfInBounds_comm _ _ hji]
          have e3 : ({ a.put oi.dst v with defers := D } : Act) = Act.put { a with defers := D } oi.dst v := by cases oi.dst <;> rfl
          rw [e3, Act.put_comm _ v u h2] at hk
          exact hk

def valOp : Op → Bool
  | .move _ => true
  | .assign _ => true
  | .load _ _ => true
  | .build _ _ => true
  | .binOp _ _ _ _ _ => true
  | .fieldAddr _ _ _ => true
  | .indexAddr _ _ _ => true
  | .slice _ _ _ _ _ => true
  | .convert _ _ _ => true
  | .unOp _ _ _ => true
  | .pick _ _ _ => true
  | .extract _ _ => true
  | _ => false
theorem value_only {s : Sem Value} {w w' : World} {n : Next} (h : (do pure (Next.value (← s)) : Sem Next).run P w = .ok n w') : ∃ u, n = .value u := by
  rw [Sem.run_bind] at h
  generalize s.run P w = r at h
  rcases r with ⟨x, w1⟩ | ⟨x, w1⟩
  · simp only [Result.andThen_ok, Sem.run_pure, Result.ok.injEq] at h
    exact ⟨x, h.1.symm⟩
  · cases h
theorem pick_only {s : Sem Bool} {x y : Value} {w w' : World} {n : Next} (h : (do pure (Next.value (if (← s) then x else y)) : Sem Next).run P w = .ok n w') : ∃ u, n = .value u := by
  rw [Sem.run_bind] at h
  generalize s.run P w = r at h
  rcases r with ⟨b, w1⟩ | ⟨b, w1⟩
  · simp only [Result.andThen_ok, Sem.run_pure, Result.ok.injEq] at h
    exact ⟨_, h.1.symm⟩
  · cases h
theorem valOp_value {o : Oper} (ho : valOp o.op = true) {ρ : Operand → Value} {w w' : World} {n : Next} (h : (execOp ρ o).run P w = .ok n w') : ∃ u, n = .value u := by
  obtain ⟨dst, op, type, pos, after, guard⟩ := o
  cases op <;> first | (cases ho; done) | exact value_only h | exact pick_only h | (simp only [execOp, Sem.run_pure, Result.ok.injEq] at h; exact ⟨_, h.1.symm⟩)
theorem yieldsC_of {o : Oper} (ho : valOp o.op = true) {a : Act} {v : Value} (hw : Region.wanted o (yielded ops a.tmps) = true) (h : ∀ w, C w → o.quietAt P a C w v) : YieldsC P ops C o v a := by
  refine .inl ⟨hw, fun w hC => ?_⟩
  have h1 := h w hC
  unfold Oper.quietAt at h1
  generalize hr : (execOp a.eval o).run P w = r at h1 ⊢
  rcases r with ⟨n, w'⟩ | ⟨x, w'⟩
  · obtain ⟨u, rfl⟩ := valOp_value ho hr
    obtain ⟨rfl, rfl⟩ := h1
    rfl
  · cases h1

def headsB (md : Region.Mode) (ops : Array Oper) : List Nat → Array Bool → Bool
  | [], _ => true
  | k :: ks, listed => (Region.ready md ops listed).contains k && (Region.free md ops listed k && ((match ops[k]? with | some o => valOp o.op | none => false) && headsB md ops ks (listed.setIfInBounds k true)))
def headsL : List Nat → Array Bool → Array Bool
  | [], listed => listed
  | k :: ks, listed => headsL ks (listed.setIfInBounds k true)
def headOps (ops : Array Oper) (ks : List Nat) : List Oper := ks.filterMap fun k => ops[k]?
theorem anyC_heads (hs : Region.noSelect ops = true) (n : Nat) (w : World) (hC : C w) : ∀ (ks : List Nat) (listed : Array Bool) (a : Act),
    headsB md ops ks listed = true → wpQuiet P ops C (fun a' => anyC P md ops N C n (headsL ks listed) a' w) (headOps ops ks) a → anyC P md ops N C (n + ks.length) listed a w
  | [], _, _, _, h => h
  | k :: ks, listed, a, hB, h => by
    cases h0 : ops[k]? with
    | none => simp [headsB, h0] at hB
    | some o =>
    simp only [headsB, Bool.and_eq_true, h0] at hB
    obtain ⟨hr, hf, hv, hB⟩ := hB
    rw [headOps, List.filterMap_cons, h0] at h
    unfold wpQuiet at h
    by_cases hw : Region.wanted o (yielded ops a.tmps) = true
    · rw [if_pos hw] at h
      obtain ⟨v, h1, h2⟩ := h
      exact anyC_first h0 (Region.noSelect_spec hs) (n + ks.length) listed a w (Region.free_spec h0 hf) (by simpa using hr) (yieldsC_of hv hw h1) (anyC_heads hs n w hC ks _ _ hB h2)
    · rw [if_neg hw] at h
      exact anyC_first h0 (Region.noSelect_spec hs) (n + ks.length) listed a w (Region.free_spec h0 hf) (by simpa using hr) (.inr ⟨by simpa using hw, rfl⟩) (anyC_heads hs n w hC ks _ _ hB h)
theorem anyC_step {n i : Nat} {o : Oper} {listed : Array Bool} {a : Act} {w : World} (hr : Region.ready md ops listed = [i]) (hi : ops[i]? = some o) (hw : Region.wanted o (yielded ops a.tmps) = true) (hC : C w)
    (h : ∀ K : Act → World → Prop, (∀ a' w', anyC P md ops N C n (listed.setIfInBounds i true) a' w' → K a' w') → Oper.wp P o a w K (Nrm N)) : anyC P md ops N C (n + 1) listed a w := by
  refine ⟨hC, fun h0 => (by rw [h0] at hr; cases hr), fun j hj => ?_⟩
  rw [hr] at hj
  obtain rfl : j = i := by simpa using hj
  unfold wpOp
  simp only [hi, hw, if_true]
  exact .inl (h _ fun _ _ hk => hk)
theorem anyC_skip {n i : Nat} {o : Oper} {listed : Array Bool} {a : Act} {w : World} (hr : Region.ready md ops listed = [i]) (hi : ops[i]? = some o) (hw : Region.wanted o (yielded ops a.tmps) = false) (hC : C w)
    (h : anyC P md ops N C n (listed.setIfInBounds i true) (a.put o.dst undef) w) : anyC P md ops N C (n + 1) listed a w := by
  refine ⟨hC, fun h0 => (by rw [h0] at hr; cases hr), fun j hj => ?_⟩
  rw [hr] at hj
  obtain rfl : j = i := by simpa using hj
  unfold wpOp
  simp only [hi, hw, Bool.false_eq_true, if_false]
  exact h
theorem anyC_call {n i : Nat} {o : Oper} {f : FuncId} {args : Array Value} {listed : Array Bool} {a : Act} {w : World} (hr : Region.ready md ops listed = [i]) (hi : ops[i]? = some o) (hw : Region.wanted o (yielded ops a.tmps) = true) (hC : C w)
    (hrun : (execOp a.eval o).run P w = .ok (.enter f args) w) (h : Calls P f args w fun e w' => ∃ v, e = .returned v ∧ anyC P md ops N C n (listed.setIfInBounds i true) (a.put o.dst v) w') : anyC P md ops N C (n + 1) listed a w :=
  anyC_step hr hi hw hC fun K hK => by
    unfold Oper.wp
    rw [hrun]
    exact Calls.mono h fun e w' ⟨v, he, hk⟩ => by subst he; exact hK _ _ hk
theorem anyC_val {n i : Nat} {o : Oper} {v : Value} {listed : Array Bool} {a : Act} {w w' : World} (hr : Region.ready md ops listed = [i]) (hi : ops[i]? = some o) (hw : Region.wanted o (yielded ops a.tmps) = true) (hC : C w)
    (hrun : (execOp a.eval o).run P w = .ok (.value v) w') (h : anyC P md ops N C n (listed.setIfInBounds i true) (a.put o.dst v) w') : anyC P md ops N C (n + 1) listed a w :=
  anyC_step hr hi hw hC fun K hK => by
    unfold Oper.wp
    rw [hrun]
    exact hK _ _ h
theorem anyC_done {listed : Array Bool} {a : Act} {w : World} (hr : Region.ready md ops listed = []) (hC : C w) (h : N a w) : anyC P md ops N C 0 listed a w := ⟨hC, hr, h⟩
end

theorem wp_region_heads {P : Program} {N : Act → World → Prop} {C : World → Prop} {Q : Exit → Act → World → Prop} {id : Nat} {a : Act} {w : World} {l : List Oper} (ks : List Nat) (hm : P.follows .mixedOrders = true)
    (hB : (Region.noSelect l.toArray && (decide (ks.length ≤ l.length) && headsB .any l.toArray ks (Array.replicate l.length false))) = true) (hC : C w.drew) (hN : ∀ a w, N a w → Q .normal a w)
    (h : wpQuiet P l.toArray C (fun a' => anyC P .any l.toArray N C (l.length - ks.length) (headsL ks (Array.replicate l.length false)) a' w.drew) (headOps l.toArray ks) a) : (Code.region id l.toArray true).wp P Q a w := by
  simp only [Bool.and_eq_true, decide_eq_true_eq] at hB
  obtain ⟨hs, hn, hB⟩ := hB
  refine wp_region_any hm (anyC_any (C := C) hN ?_)
  have := anyC_heads (P := P) (md := .any) (N := N) hs (l.length - ks.length) w.drew hC ks (Array.replicate l.length false) a hB h
  rw [show l.length - ks.length + ks.length = l.length by omega] at this
  rw [List.size_toArray]
  exact this

end Go.Proofs.Ytmbifmmkccghfaa

/-
  Regions that draw their order: two operations that may come up, calls and stores. No condition.
-/
namespace Go.Proofs.Ytmbifmmkccghfaa
open Go.RowKit
section
variable {P : Program} {ops : Array Oper} {md : Region.Mode} {N : Act → World → Prop} {C : World → Prop}
theorem wpOp_call {i : Nat} {o : Oper} {f : FuncId} {args : Array Value} {a : Act} {w : World} {K : Act → World → Prop} (hi : ops[i]? = some o) (hw : Region.wanted o (yielded ops a.tmps) = true)
    (hrun : (execOp a.eval o).run P w = .ok (.enter f args) w) (h : Calls P f args w fun e w' => ∃ v, e = .returned v ∧ K (a.put o.dst v) w') : wpOp P ops (Nrm N) i K a w := by
  unfold wpOp
  simp only [hi, hw, if_true]
  refine .inl ?_
  unfold Oper.wp
  rw [hrun]
  exact Calls.mono h fun e w' ⟨v, he, hk⟩ => by subst he; exact hk
theorem wpOp_val {i : Nat} {o : Oper} {v : Value} {a : Act} {w w' : World} {K : Act → World → Prop} (hi : ops[i]? = some o) (hw : Region.wanted o (yielded ops a.tmps) = true)
    (hrun : (execOp a.eval o).run P w = .ok (.value v) w') (h : K (a.put o.dst v) w') : wpOp P ops (Nrm N) i K a w := by
  unfold wpOp
  simp only [hi, hw, if_true]
  refine .inl ?_
  unfold Oper.wp
  rw [hrun]
  exact h
theorem anyC_store {n i : Nat} {o : Oper} {listed : Array Bool} {a : Act} {w w' : World} (hr : Region.ready md ops listed = [i]) (hi : ops[i]? = some o) (hw : Region.wanted o (yielded ops a.tmps) = true) (hC : C w)
    (hrun : (execOp a.eval o).run P w = .ok .skip w') (h : anyC P md ops N C n (listed.setIfInBounds i true) (a.put o.dst undef) w') : anyC P md ops N C (n + 1) listed a w :=
  anyC_step hr hi hw hC fun K hK => by
    unfold Oper.wp
    rw [hrun]
    exact hK _ _ h
theorem wpOp_callD {i : Nat} {o : Oper} {f : FuncId} {args : Array Value} {a : Act} {w : World} {K : Act → World → Prop} (d : Option Tmp) (hi : ops[i]? = some o) (hd : o.dst = d) (hw : Region.wanted o (yielded ops a.tmps) = true)
    (hrun : (execOp a.eval o).run P w = .ok (.enter f args) w) (h : Calls P f args w fun e w' => ∃ v, e = .returned v ∧ K (a.put d v) w') : wpOp P ops (Nrm N) i K a w := by
  subst hd
  exact wpOp_call hi hw hrun h
theorem wpOp_valD {i : Nat} {o : Oper} {v : Value} {a : Act} {w w' : World} {K : Act → World → Prop} (d : Option Tmp) (hi : ops[i]? = some o) (hd : o.dst = d) (hw : Region.wanted o (yielded ops a.tmps) = true)
    (hrun : (execOp a.eval o).run P w = .ok (.value v) w') (h : K (a.put d v) w') : wpOp P ops (Nrm N) i K a w := by
  subst hd
  exact wpOp_val hi hw hrun h
theorem anyC_callD {n i : Nat} {o : Oper} {f : FuncId} {args : Array Value} {listed : Array Bool} {a : Act} {w : World} (d : Option Tmp) (hr : Region.ready md ops listed = [i]) (hi : ops[i]? = some o) (hd : o.dst = d) (hw : Region.wanted o (yielded ops a.tmps) = true) (hC : C w)
    (hrun : (execOp a.eval o).run P w = .ok (.enter f args) w) (h : Calls P f args w fun e w' => ∃ v, e = .returned v ∧ anyC P md ops N C n (listed.setIfInBounds i true) (a.put d v) w') : anyC P md ops N C (n + 1) listed a w := by
  subst hd
  exact anyC_call hr hi hw hC hrun h
theorem anyC_valD {n i : Nat} {o : Oper} {v : Value} {listed : Array Bool} {a : Act} {w w' : World} (d : Option Tmp) (hr : Region.ready md ops listed = [i]) (hi : ops[i]? = some o) (hd : o.dst = d) (hw : Region.wanted o (yielded ops a.tmps) = true) (hC : C w)
    (hrun : (execOp a.eval o).run P w = .ok (.value v) w') (h : anyC P md ops N C n (listed.setIfInBounds i true) (a.put d v) w') : anyC P md ops N C (n + 1) listed a w := by
  subst hd
  exact anyC_val hr hi hw hC hrun h
theorem anyC_storeN {n i : Nat} {o : Oper} {listed : Array Bool} {a : Act} {w w' : World} (hr : Region.ready md ops listed = [i]) (hi : ops[i]? = some o) (hd : o.dst = none) (hw : Region.wanted o (yielded ops a.tmps) = true) (hC : C w)
    (hrun : (execOp a.eval o).run P w = .ok .skip w') (h : anyC P md ops N C n (listed.setIfInBounds i true) a w') : anyC P md ops N C (n + 1) listed a w := by
  refine anyC_store hr hi hw hC hrun ?_
  rw [hd]
  exact h
end
end Go.Proofs.Ytmbifmmkccghfaa

/-
  Regions that draw their order, within a round of a range over a function. No condition.
-/
namespace Go.Proofs.Ytmbifmmkccghfaa
open Go.RowKit
set_option linter.unusedVariables false
section
variable {P : Program} {ops : Array Oper} {md : Region.Mode} {N : Act → World → Prop} {C : World → Prop} {l₀ m : Nat}
end
def valN : Op → Bool
  | .nilCheck _ => true
  | o => valOp o
theorem onlyV_bind {P : Program} {α : Type} {s : Sem α} {f : α → Sem Next} (hf : ∀ x w n w', (f x).run P w = .ok n w' → ∃ u, n = .value u) (w : World) (n : Next) (w' : World) (h : (s >>= f).run P w = .ok n w') : ∃ u, n = .value u := by
  rw [Sem.run_bind] at h
  generalize s.run P w = r at h
  rcases r with ⟨x, w1⟩ | ⟨x, w1⟩
  · exact hf _ _ _ _ h
  · cases h
theorem onlyV_pure {P : Program} (v : Value) (w : World) (n : Next) (w' : World) (h : (pure (Next.value v) : Sem Next).run P w = .ok n w') : ∃ u, n = .value u := by
  simp only [Sem.run_pure, Result.ok.injEq] at h
  exact ⟨_, h.1.symm⟩
theorem onlyV_nil {P : Program} {x : Operand} {d : Option Tmp} {t : TypeId} {pos : String} {af : Array Edge} {g : Option (Nat × Bool)} {ρ : Operand → Value} {w w' : World} {n : Next} (h : (execOp ρ ⟨d, .nilCheck x, t, pos, af, g⟩).run P w = .ok n w') : ∃ u, n = .value u := by
  unfold execOp at h
  dsimp only at h
  split at h
  · cases h
  · cases h
  · cases h
  · split at h
    · cases h
    · refine onlyV_bind (fun x w n w' h => onlyV_bind (fun b w n w' h => ?_) w n w' h) w n w' h
      split at h
      · exact onlyV_bind (fun _ => onlyV_pure _) _ _ _ h
      · first | exact onlyV_pure _ _ _ _ h | exact onlyV_bind (fun _ => onlyV_pure _) _ _ _ h
    · exact onlyV_pure _ _ _ _ h
  · exact onlyV_pure _ _ _ _ h
theorem valN_value {P : Program} {o : Oper} (ho : valN o.op = true) {ρ : Operand → Value} {w w' : World} {n : Next} (h : (execOp ρ o).run P w = .ok n w') : ∃ u, n = .value u := by
  by_cases hv : valOp o.op = true
  · exact valOp_value hv h
  · obtain ⟨dst, op, type, pos, after, guard⟩ := o
    cases op <;> first | (exact absurd ho hv) | exact onlyV_nil h
theorem yieldsN_of {P : Program} {ops : Array Oper} {C : World → Prop} {o : Oper} (ho : valN o.op = true) {a : Act} {v : Value} (hw : Region.wanted o (yielded ops a.tmps) = true) (h : ∀ w, C w → o.quietAt P a C w v) : YieldsC P ops C o v a := by
  refine .inl ⟨hw, fun w hC => ?_⟩
  have h1 := h w hC
  unfold Oper.quietAt at h1
  generalize hr : (execOp a.eval o).run P w = r at h1 ⊢
  rcases r with ⟨n, w'⟩ | ⟨x, w'⟩
  · obtain ⟨u, rfl⟩ := valN_value ho hr
    obtain ⟨rfl, rfl⟩ := h1
    rfl
  · cases h1
def headsN (md : Region.Mode) (ops : Array Oper) : List Nat → Array Bool → Bool
  | [], _ => true
  | k :: ks, listed => (Region.ready md ops listed).contains k && (Region.free md ops listed k && ((match ops[k]? with | some o => valN o.op | none => false) && headsN md ops ks (listed.setIfInBounds k true)))
end Go.Proofs.Ytmbifmmkccghfaa

/-
  Drawn regions whose last operation is a store that waits for all others: the readers are taken first, and what is read may be what is stored. No condition.
-/
namespace Go.Proofs.Ytmbifmmkccghfaa
open Go.RowKit
section
variable {P : Program} {ops : Array Oper} {md : Region.Mode} {N : Act → World → Prop} {C : World → Prop} {l₀ m : Nat}
theorem getD_tf {listed : Array Bool} {k : Nat} (h : listed.getD k true = false) : listed.getD k false = false := by
  rw [Array.getD_eq_getD_getElem?] at h ⊢
  cases hk : listed[k]? with
  | none => rfl
  | some b => rw [hk] at h; exact h
def Closed (md : Region.Mode) (ops : Array Oper) (listed : Array Bool) : Prop := ∀ (k : Nat) (o : Oper), ops[k]? = some o → listed.getD k false = true → ∀ e ∈ o.after, Region.binds md e = true → listed.getD e.on false = true
theorem closed_set {listed : Array Bool} {j : Nat} (h : Closed md ops listed) (hj : j ∈ Region.ready md ops listed) : Closed md ops (listed.setIfInBounds j true) := by
  obtain ⟨_, oj, hoj, hall⟩ := mem_ready.1 hj
  intro k o hk hl e he hb
  by_cases hkj : k = j
  · subst hkj
    rw [hoj] at hk
    cases hk
    exact getD_set_true (hall e he hb)
  · rw [getD_set_ne false (Ne.symm hkj)] at hl
    exact getD_set_true (h k o hk hl e he hb)
def awaited (md : Region.Mode) (ops : Array Oper) (z : Nat) : Bool :=
  (List.range z).all fun k => (List.range (z + 1)).any fun d => decide (k < d) && (match ops[d]? with | some o => !(o.after.all fun e => !Region.binds md e || e.on != k) | none => false)
theorem all_listed {z : Nat} {listed : Array Bool} (hA : awaited md ops z = true) (hc : Closed md ops listed) (hz : z ∈ Region.ready md ops listed) : ∀ k, k < z → listed.getD k false = true := by
  obtain ⟨_, oz, hoz, hall⟩ := mem_ready.1 hz
  have key : ∀ m, ∀ k, k < z → z - k ≤ m → listed.getD k false = true := by
    intro m
    induction m with
    | zero => intro k hk hm; omega
    | succ m ih =>
      intro k hk hm
      have h1 := List.all_eq_true.1 hA k (List.mem_range.2 hk)
      obtain ⟨d, hd, h2⟩ := List.any_eq_true.1 h1
      have hd := List.mem_range.1 hd
      rw [Bool.and_eq_true, decide_eq_true_eq] at h2
      obtain ⟨hkd, h3⟩ := h2
      cases ho : ops[d]? with
      | none => rw [ho] at h3; cases h3
      | some o =>
        rw [ho] at h3
        dsimp only at h3
        refine Decidable.byContradiction fun hn => ?_
        have h4 : (o.after.all fun e => !Region.binds md e || e.on != k) = true := by
          refine Array.all_eq_true_iff_forall_mem.2 fun e he => ?_
          by_cases hb : Region.binds md e = true
          · have h5 : listed.getD e.on false = true := by
              by_cases hdz : d = z
              · subst hdz
                rw [hoz] at ho
                cases ho
                exact hall e he hb
              · exact hc d o ho (ih d (by omega) (by omega)) e he hb
            have h6 : e.on ≠ k := fun h => hn (h ▸ h5)
            simp [h6]
          · simp [hb]
        rw [h4] at h3
        cases h3
  exact fun k hk => key (z - k) k hk (Nat.le_refl _)
end
theorem closed_none {md : Region.Mode} {ops : Array Oper} {n : Nat} : Closed md ops (Array.replicate n false) := by
  intro k o _ hl
  rw [Array.getD_eq_getD_getElem?, Array.getElem?_replicate] at hl
  split at hl <;> cases hl
end Go.Proofs.Ytmbifmmkccghfaa

/-
  Drawn regions whose last operation waits for all others, and may panic (a call): the readers, and builtin len, are taken first. No condition.
-/
namespace Go.Proofs.Ytmbifmmkccghfaa
open Go.RowKit
def valM : Op → Bool
  | .call c => match c.callee with | .builtin .len => true | _ => false
  | o => valN o
theorem valM_value {P : Program} {o : Oper} (ho : valM o.op = true) {ρ : Operand → Value} {w w' : World} {n : Next} (h : (execOp ρ o).run P w = .ok n w') : ∃ u, n = .value u := by
  by_cases hv : valN o.op = true
  · exact valN_value hv h
  · obtain ⟨dst, op, type, pos, after, guard⟩ := o
    cases op
    case call c =>
      obtain ⟨callee, args, ats⟩ := c
      cases callee
      case builtin b =>
        cases b
        case len =>
          simp only [execOp, resolve, invoke, builtin, Sem.run_bind, Sem.run_pure, Result.andThen_ok] at h
          generalize (Builtin.len_ _ _ _).run P w = r at h
          rcases r with ⟨x, w1⟩ | ⟨x, w1⟩
          · simp only [Result.andThen_ok, Sem.run_pure, Result.ok.injEq] at h
            exact ⟨x, h.1.symm⟩
          · cases h
        all_goals cases ho
      all_goals cases ho
    all_goals exact absurd ho hv
theorem yieldsM_of {P : Program} {ops : Array Oper} {C : World → Prop} {o : Oper} (ho : valM o.op = true) {a : Act} {v : Value} (hw : Region.wanted o (yielded ops a.tmps) = true) (h : ∀ w, C w → o.quietAt P a C w v) : YieldsC P ops C o v a := by
  refine .inl ⟨hw, fun w hC => ?_⟩
  have h1 := h w hC
  unfold Oper.quietAt at h1
  generalize hr : (execOp a.eval o).run P w = r at h1 ⊢
  rcases r with ⟨n, w'⟩ | ⟨x, w'⟩
  · obtain ⟨u, rfl⟩ := valM_value ho hr
    obtain ⟨rfl, rfl⟩ := h1
    rfl
  · cases h1
def headsM (md : Region.Mode) (ops : Array Oper) : List Nat → Array Bool → Bool
  | [], _ => true
  | k :: ks, listed => (Region.ready md ops listed).contains k && (Region.free md ops listed k && ((match ops[k]? with | some o => valM o.op | none => false) && headsM md ops ks (listed.setIfInBounds k true)))
section
variable {P : Program} {ops : Array Oper} {md : Region.Mode} {N : Act → World → Prop} {Q : Exit → Act → World → Prop} {C : World → Prop}
end
end Go.Proofs.Ytmbifmmkccghfaa

/-
  Drawn regions by heads, builtin len among the readers; a guarded operation that is passed over. No condition.
-/
namespace Go.Proofs.Ytmbifmmkccghfaa
open Go.RowKit

section
variable {P : Program} {ops : Array Oper} {md : Region.Mode} {N : Act → World → Prop} {C : World → Prop}
theorem anyC_headsM (hs : Region.noSelect ops = true) (n : Nat) (w : World) (hC : C w) : ∀ (ks : List Nat) (listed : Array Bool) (a : Act),
    headsM md ops ks listed = true → wpQuiet P ops C (fun a' => anyC P md ops N C n (headsL ks listed) a' w) (headOps ops ks) a → anyC P md ops N C (n + ks.length) listed a w
  | [], _, _, _, h => h
  | k :: ks, listed, a, hB, h => by
    cases h0 : ops[k]? with
    | none => simp [headsM, h0] at hB
    | some o =>
    simp only [headsM, Bool.and_eq_true, h0] at hB
    obtain ⟨hr, hf, hv, hB⟩ := hB
    rw [headOps, List.filterMap_cons, h0] at h
    unfold wpQuiet at h
    by_cases hw : Region.wanted o (yielded ops a.tmps) = true
    · rw [if_pos hw] at h
      obtain ⟨v, h1, h2⟩ := h
      exact anyC_first h0 (Region.noSelect_spec hs) (n + ks.length) listed a w (Region.free_spec h0 hf) (by simpa using hr) (yieldsM_of hv hw h1) (anyC_headsM hs n w hC ks _ _ hB h2)
    · rw [if_neg hw] at h
      exact anyC_first h0 (Region.noSelect_spec hs) (n + ks.length) listed a w (Region.free_spec h0 hf) (by simpa using hr) (.inr ⟨by simpa using hw, rfl⟩) (anyC_headsM hs n w hC ks _ _ hB h)
theorem anyC_skipD {n i : Nat} {o : Oper} {listed : Array Bool} {a : Act} {w : World} (d : Option Tmp) (hr : Region.ready md ops listed = [i]) (hi : ops[i]? = some o) (hd : o.dst = d) (hw : Region.wanted o (yielded ops a.tmps) = false) (hC : C w)
    (h : anyC P md ops N C n (listed.setIfInBounds i true) (a.put d undef) w) : anyC P md ops N C (n + 1) listed a w := by
  subst hd
  exact anyC_skip hr hi hw hC h
theorem wp_region_headsM {Q : Exit → Act → World → Prop} {id : Nat} {a : Act} {w : World} {l : List Oper} (ks : List Nat) (hm : P.follows .mixedOrders = true)
    (hB : (Region.noSelect l.toArray && (decide (ks.length ≤ l.length) && headsM .any l.toArray ks (Array.replicate l.length false))) = true) (hC : C w.drew) (hN : ∀ a w, N a w → Q .normal a w)
    (h : wpQuiet P l.toArray C (fun a' => anyC P .any l.toArray N C (l.length - ks.length) (headsL ks (Array.replicate l.length false)) a' w.drew) (headOps l.toArray ks) a) : (Code.region id l.toArray true).wp P Q a w := by
  simp only [Bool.and_eq_true, decide_eq_true_eq] at hB
  obtain ⟨hs, hn, hB⟩ := hB
  refine wp_region_any hm (anyC_any (C := C) hN ?_)
  have := anyC_headsM (P := P) (md := .any) (N := N) hs (l.length - ks.length) w.drew hC ks (Array.replicate l.length false) a hB h
  rw [show l.length - ks.length + ks.length = l.length by omega] at this
  rw [List.size_toArray]
  exact this
end
end Go.Proofs.Ytmbifmmkccghfaa
