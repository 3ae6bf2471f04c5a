/- The messages of orders, written by the program and by the reference. No condition. -/
import Derived.Test.YtmbifmmkccghfaaQ2CX
import Derived.Test.YtmbifmmkccghfaaQ2CQ
import Derived.Test.YtmbifmmkccghfaaQ2NS
import Derived.Test.YtmbifmmkccghfaaQ2GN
import Derived.Deep.Cut
import Derived.Test.YtmbifmmkccghfaaQ2K
import Derived.Deep.Quiet
import Derived.RangeFuncNested
import Derived.OwnWalkIn
import Derived.Test.YtmbifmmkccghfaaQ2KG
import Derived.Laws.MakeOwn
set_option linter.unusedVariables false
set_option linter.unusedSimpArgs false
namespace Go.Proofs.Ytmbifmmkccghfaa
open Go.RowKit

theorem results_o3 {P : Program} {w : World} {fn : Func} {t u s : Tmp} (h : fn.results = #[.tmp t, .tmp u, .tmp s]) (tmps : Array Value) :
    (results fn tmps).run P w = .ok (.tuple #[tmps.getD t undef, tmps.getD u undef, tmps.getD s undef]) w := by
  simp [results, h, go_sem]
theorem vals_two {w : World} {b : Nat} {n o : Int} (X : Box w b [.int .i64 1, .int .i64 n, .string ⟨#[]⟩, .slice none 0 0, .int .i64 1, .int .i64 o, .string ⟨#[]⟩, .slice none 0 0]) : ValsAt w w.heap.size 1 (.slice (some ⟨b, 0, none⟩) 2 2) [intV n, intV o] := by
  refine ⟨.inr ⟨_, _, _, rfl, Nat.le_refl _, by simp [maxLen]⟩, fun _ => .slice none 0 0, ⟨_, _, rfl, by simp [maxLen], fun i hi => ⟨b, 0, rfl, X.lt, fun j hj => ?_⟩⟩, fun i x hx => ?_⟩
  · have hi : i < 2 := hi
    rw [Nat.zero_add, X.cell]
    rcases (show i = 0 ∨ i = 1 by omega) with rfl | rfl <;> rcases (show j = 0 ∨ j = 1 ∨ j = 2 ∨ j = 3 by omega) with rfl | rfl | rfl | rfl <;> rfl
  · match i, hx with
    | 0, hx =>
      obtain rfl : intV n = x := by simpa using hx
      exact valsAt_nil w _ 0
    | 1, hx =>
      obtain rfl : intV o = x := by simpa using hx
      exact valsAt_nil w _ 0
    | i + 2, hx => simp at hx
theorem enc_msg (n o : Int) : encT (msgV n o) = (msgB n o, 0) := enc_ok (msg_chk n o)

set_option maxRecDepth 100000 in
set_option maxHeartbeats 4000000 in
theorem oMessage_is {n o : Int} (h1 : I64 n) (h2 : I64 o) {T : Bs} (hT : Hid (msgB n o = T)) (w : World) : Calls Try.prog 33 #[.int .i64 n, .int .i64 o] w fun e w' => e = .returned (.string (strB T)) ∧ Below w.heap.size w w' := by
  have hl := msg_len h1 h2
  have hf := msg_fits h1 h2
  have he := enc_msg n o
  go_enter Try.func33, Try.ntmps33
  go_wp2_with fail
  have X := Box.new w [.int .i64 1, .int .i64 n, .string ⟨#[]⟩, .slice none 0 0, .int .i64 1, .int .i64 o, .string ⟨#[]⟩, .slice none 0 0] 85
  have hB := (Below.refl w.heap.size w).alloc (Nat.le_refl _) (.cells #[.int .i64 1, .int .i64 n, .string ⟨#[]⟩, .slice none 0 0, .int .i64 1, .int .i64 o, .string ⟨#[]⟩, .slice none 0 0] 85)
  generalize w.alloc (.cells #[.int .i64 1, .int .i64 n, .string ⟨#[]⟩, .slice none 0 0, .int .i64 1, .int .i64 o, .string ⟨#[]⟩, .slice none 0 0] 85) = w1 at X hB ⊢
  refine (cEncode_any 1 (by omega) (msgV n o) _ w1 (vals_two X) hf (by show (msgB n o).length ≤ _; omega)).mono ?_
  rintro e w2 ⟨V, rfl, hV, hb⟩
  have hB := hB.trans (hb.mono hB.size)
  rw [he] at hV ⊢
  dsimp only at hV ⊢
  rw [hT.out] at hV
  obtain ⟨A, c, rfl, -⟩ := hV.form
  have hs := take_str hV
  clear hV hb X he
  go_wp2
  go_ret
  exact ⟨rfl, hB⟩
theorem vals_pair {w : World} {B d : Nat} {L : Value} {a c : Val} (h : ValsAt w B (d + 1) L [a, c]) : ∃ b off cp, L = .slice (some ⟨b, off, none⟩) 2 cp ∧ b < B ∧ w.cell? ⟨b, off, none⟩ = some (.int .i64 a.kind) ∧ w.cell? ⟨b, off + 1, none⟩ = some (.int .i64 a.num) ∧ w.cell? ⟨b, off + 4, none⟩ = some (.int .i64 c.kind) ∧ w.cell? ⟨b, off + 4 + 1, none⟩ = some (.int .i64 c.num) := by
  obtain ⟨_, V, ⟨A, cp, hv, _, h1⟩, _⟩ := h
  obtain ⟨b, off, rfl, hb, h2⟩ := h1 0 (by simp)
  obtain ⟨b', off', e', _, h3⟩ := h1 1 (by simp)
  cases e'
  exact ⟨b, off, cp, hv, hb, h2 0 (by omega), h2 1 (by omega), h3 0 (by omega), h3 1 (by omega)⟩
theorem bs_of {w : World} {V : Value} {l : Bs} (h : BytesAt w w.heap.size V l) : BsAt w (fun b => b < w.heap.size) V l := by
  obtain ⟨h0, A, c, hv, hn, h1⟩ := h
  refine ⟨h0, A, c, hv, hn, fun i hi => ?_⟩
  obtain ⟨b, off, hA, hb, h2⟩ := h1 i hi
  exact ⟨b, off, hA, hb, hb, h2⟩
theorem two_of {es : List Val} (h : es.length = 2) : ∃ a c, es = [a, c] := by
  match es, h with
  | [a, c], _ => exact ⟨a, c, rfl⟩
set_option maxRecDepth 100000 in
set_option maxHeartbeats 4000000 in
theorem oNumber_is {l : Bs} {V : Value} {w : World} {T : Int} (hT : Hid (numberT l = T)) (hb : BytesAt w w.heap.size V l) (hl : l.length ≤ 79000000) : Calls Try.prog 39 #[V] w fun e w' => e = .returned (.int .i64 T) ∧ Below w.heap.size w w' := by
  obtain ⟨⟨⟨k, nn, s, es⟩, er⟩, hd⟩ : ∃ p, decT l = p := ⟨_, rfl⟩
  have hT := hT.out
  rw [numberT, hd] at hT
  dsimp only at hT
  have HD := Lib.hid hd
  have HT := Lib.hid hT
  clear hT hd
  have hbs := Lib.hid (bs_of hb)
  obtain ⟨A, c, rfl, -⟩ := hb.form
  clear hb
  go_enter Try.func39, Try.ntmps39
  go_wp2_with fail
  refine (cDecode_any l _ w hbs.out (by omega)).mono ?_
  rintro e w2 ⟨L, rfl, hV, hB⟩
  rw [HD.out] at hV ⊢
  dsimp only [Val.elems] at hV
  have hV := hV.vals
  obtain ⟨AL, cL, rfl, -⟩ := hV.form
  obtain ⟨m, hm⟩ : ∃ m, es.length = m := ⟨_, rfl⟩
  rw [hm] at hV ⊢
  dsimp only [Val.v, Val.kind, Val.num, Val.str]
  have HM := Lib.hid hm
  have HV := Lib.hid hV
  clear hm hV HD
  go_upto_region 2 with fail
  have X := Box.new w2 [.int .i64 k, .int .i64 nn, .string (strB s), .slice AL m cL] 85
  have hal := (Below.refl w2.heap.size w2).alloc (Nat.le_refl _) (.cells #[.int .i64 k, .int .i64 nn, .string (strB s), .slice AL m cL] 85)
  have HV := Lib.hid ((HV.out.below hal).more hal.size)
  have hB := hB.trans (hal.mono hB.size)
  clear hal
  generalize w2.alloc (.cells #[.int .i64 k, .int .i64 nn, .string (strB s), .slice AL m cL] 85) = w3 at X HV hB ⊢
  generalize w2.heap.size = D at X ⊢
  have x0 : w3.cell? ⟨D, 0, none⟩ = some (.int .i64 k) := X.cell 0
  have x3 : w3.cell? ⟨D, 3, none⟩ = some (.slice AL m cL) := X.cell 3
  have xz := X.lt
  by_cases h0 : er = 0
  rotate_left
  · have d0 : (er != 0) = true := by simp [h0]
    obtain rfl : T = -1 := by rw [← HT.out, if_neg h0]
    go_wp2
    go_ret
    exact ⟨rfl, hB⟩
  subst h0
  by_cases hk : k = 3
  rotate_left
  · have d0 : (k != 3) = true := by simp [hk]
    obtain rfl : T = -1 := by rw [← HT.out, if_pos rfl, first_kind hk]
    go_wp2
    go_ret
    exact ⟨rfl, hB⟩
  subst hk
  by_cases h2 : m = 2
  rotate_left
  · have d0 : ((m : Int) != 2) = true := by simp; omega
    obtain rfl : T = -1 := by rw [← HT.out, if_pos rfl, first_len (by rw [HM.out]; exact h2)]
    go_wp2
    go_ret
    exact ⟨rfl, hB⟩
  subst h2
  obtain ⟨a, c', rfl⟩ := two_of HM.out
  obtain ⟨b2, o2, cp, eL, hb2, v0, v1, v2, v3⟩ := vals_pair HV.out
  cases eL
  have d0 : ((2 : Int) != 2) = false := by decide
  by_cases ha : a.kind = 1
  rotate_left
  · have d1 : (a.kind != 1) = true := by simp [ha]
    obtain rfl : T = -1 := by rw [← HT.out, if_pos rfl, first_two, if_neg (fun h => ha h.1)]
    go_wp2
    go_ret
    exact ⟨rfl, hB⟩
  have hTT : T = if 0 ≤ a.num then a.num else -1 := by
    rw [← HT.out, if_pos rfl, first_two]
    simp only [ha, true_and]
  have HTT := Lib.hid hTT
  clear hTT
  rw [ha] at v0
  generalize a.num = u at v1 HTT
  by_cases h3 : 0 ≤ u
  · have d1 : decide (u < 0) = false := decide_eq_false (by omega)
    have d2 : ¬ (u < 0) := by omega
    obtain rfl : T = u := by rw [HTT.out, if_pos h3]
    go_wp2
    go_ret
    exact ⟨rfl, hB⟩
  · have d1 : decide (u < 0) = true := decide_eq_true (by omega)
    have d2 : u < 0 := by omega
    obtain rfl : T = -1 := by rw [HTT.out, if_neg h3]
    go_wp2
    go_ret
    exact ⟨rfl, hB⟩
def readV (o : Option (Int × Int)) : Value := match o with
  | some p => .tuple #[.int .i64 p.1, .int .i64 p.2, .bool true]
  | none => .tuple #[.int .i64 0, .int .i64 0, .bool false]
set_option maxRecDepth 100000 in
set_option maxHeartbeats 4000000 in
theorem rRead_is {l : Bs} {V : Value} {w : World} {T : Option (Int × Int)} (hT : Hid (readT l = T)) (hb : BytesAt w w.heap.size V l) (hl : l.length ≤ 79000000) : Calls Try.prog 22 #[V] w fun e w' => e = .returned (readV T) ∧ Below w.heap.size w w' := by
  obtain ⟨⟨⟨k, nn, s, es⟩, er⟩, hd⟩ : ∃ p, decT l = p := ⟨_, rfl⟩
  have hT := hT.out
  rw [readT, hd] at hT
  dsimp only at hT
  have HD := Lib.hid hd
  have HT := Lib.hid hT
  clear hT hd
  have hbs := Lib.hid (bs_of hb)
  obtain ⟨A, c, rfl, -⟩ := hb.form
  clear hb
  go_enter Try.func22, Try.ntmps22
  go_wp2_with fail
  refine (rDecode_any l _ w hbs.out (by omega)).mono ?_
  rintro e w2 ⟨L, rfl, hV, hB⟩
  rw [HD.out] at hV ⊢
  dsimp only [Val.elems] at hV
  have hV := hV.vals
  obtain ⟨AL, cL, rfl, -⟩ := hV.form
  obtain ⟨m, hm⟩ : ∃ m, es.length = m := ⟨_, rfl⟩
  rw [hm] at hV ⊢
  dsimp only [Val.v, Val.kind, Val.num, Val.str]
  have HM := Lib.hid hm
  have HV := Lib.hid hV
  clear hm hV HD
  go_upto_region 2 with fail
  have X := Box.new w2 [.int .i64 k, .int .i64 nn, .string (strB s), .slice AL m cL] 85
  have hal := (Below.refl w2.heap.size w2).alloc (Nat.le_refl _) (.cells #[.int .i64 k, .int .i64 nn, .string (strB s), .slice AL m cL] 85)
  have HV := Lib.hid ((HV.out.below hal).more hal.size)
  have hB := hB.trans (hal.mono hB.size)
  clear hal
  generalize w2.alloc (.cells #[.int .i64 k, .int .i64 nn, .string (strB s), .slice AL m cL] 85) = w3 at X HV hB ⊢
  generalize w2.heap.size = D at X ⊢
  have x0 : w3.cell? ⟨D, 0, none⟩ = some (.int .i64 k) := X.cell 0
  have x3 : w3.cell? ⟨D, 3, none⟩ = some (.slice AL m cL) := X.cell 3
  have xz := X.lt
  by_cases h0 : er = 0
  rotate_left
  · have d0 : (er != 0) = true := by simp [h0]
    obtain rfl : T = none := by rw [← HT.out, if_neg h0]
    go_wp2
    refine bodyPost_ret (results_o3 Try.results22 _) rfl ?_
    exact ⟨rfl, hB⟩
  subst h0
  by_cases hk : k = 3
  rotate_left
  · have d0 : (k != 3) = true := by simp [hk]
    obtain rfl : T = none := by rw [← HT.out, if_pos rfl, two_kind hk]
    go_wp2
    refine bodyPost_ret (results_o3 Try.results22 _) rfl ?_
    exact ⟨rfl, hB⟩
  subst hk
  by_cases h2 : m = 2
  rotate_left
  · have d0 : ((m : Int) != 2) = true := by simp; omega
    obtain rfl : T = none := by rw [← HT.out, if_pos rfl, two_len (by rw [HM.out]; exact h2)]
    go_wp2
    refine bodyPost_ret (results_o3 Try.results22 _) rfl ?_
    exact ⟨rfl, hB⟩
  subst h2
  obtain ⟨a, c', rfl⟩ := two_of HM.out
  obtain ⟨b2, o2, cp, eL, hb2, v0, v1, v2, v3⟩ := vals_pair HV.out
  cases eL
  have d0 : ((2 : Int) != 2) = false := by decide
  have hTT : T = if a.kind = 1 ∧ c'.kind = 1 then some (a.num, c'.num) else none := by rw [← HT.out, if_pos rfl, two_two]
  have HTT := Lib.hid hTT
  clear hTT HT
  generalize a.num = u at v1 HTT
  generalize c'.num = u' at v3 HTT
  generalize a.kind = ka at v0 HTT
  generalize c'.kind = kc at v2 HTT
  by_cases ha : ka = 1
  rotate_left
  · have d1 : (ka != 1) = true := by simp [ha]
    obtain rfl : T = none := by rw [HTT.out, if_neg (fun h => ha h.1)]
    go_wp2
    refine bodyPost_ret (results_o3 Try.results22 _) rfl ?_
    exact ⟨rfl, hB⟩
  subst ha
  by_cases hc : kc = 1
  rotate_left
  · have d1 : (kc != 1) = true := by simp [hc]
    obtain rfl : T = none := by rw [HTT.out, if_neg (fun h => hc h.2)]
    go_wp2
    refine bodyPost_ret (results_o3 Try.results22 _) rfl ?_
    exact ⟨rfl, hB⟩
  subst hc
  obtain rfl : T = some (u, u') := by rw [HTT.out, if_pos ⟨rfl, rfl⟩]
  go_wp2_with fail
  go_quiet (fail)
  go_wp2
  refine bodyPost_ret (results_o3 Try.results22 _) rfl ?_
  exact ⟨rfl, bel_drewN hB nq⟩
end Go.Proofs.Ytmbifmmkccghfaa

/-
  Regions that draw their order and hold operations that make memory beside many that only read: the readers may be taken first. No condition.
-/
namespace Go.Proofs.Ytmbifmmkccghfaa
open Go.RowKit

def Nrm (N : Act → World → Prop) : Exit → Act → World → Prop
  | .normal, a, w => N a w
  | _, _, _ => False
theorem nrm_out (N : Act → World → Prop) : ¬ LetsOut (Nrm N) := fun ⟨_, _, h⟩ => h

section
variable {P : Program} {ops : Array Oper} {md : Region.Mode} {N : Act → World → Prop} {C : World → Prop}

theorem wpOp_go {Q : Exit → Act → World → Prop} {j : Nat} {o : Oper} (hj : ops[j]? = some o) {K K' : Act → World → Prop} {a b : Act} {w : World} (hr : execOp b.eval o = execOp a.eval o)
    (hw : Region.wanted o (yielded ops b.tmps) = Region.wanted o (yielded ops a.tmps)) (hd : b.defers = a.defers) (h : wpOp P ops (Nrm N) j K b w)
    (hK : ∀ u D w', K (Act.put { b with defers := D } o.dst u) w' → K' (Act.put { a with defers := D } o.dst u) w') : wpOp P ops Q j K' a w := by
  have H : ∀ u w', K (b.put o.dst u) w' → K' (a.put o.dst u) w' := fun u w' hk => by
    have := hK u a.defers w'
    rw [← hd] at this
    rw [hd] at this
    have e : ({ b with defers := a.defers } : Act) = b := by rw [← hd]
    rw [e] at this
    exact this hk
  unfold wpOp at h ⊢
  simp only [hj, hw] at h ⊢
  split
  · rename_i hw
    simp only [hw, if_true] at h
    rcases h with h | h
    · refine .inl ?_
      unfold Oper.wp at h ⊢
      rw [hr] at h
      generalize (execOp a.eval o).run P w = r at h ⊢
      rcases r with ⟨n, w'⟩ | ⟨x, w'⟩
      · have HD : ∀ d, K (Act.put { b with defers := d :: b.defers } o.dst undef) w' → K' (Act.put { a with defers := d :: a.defers } o.dst undef) w' := fun d hk => by
          rw [hd] at hk
          exact hK undef (d :: a.defers) w' hk
        cases n
        all_goals first
          | exact H _ _ h
          | exact False.elim h
          | exact HD _ h
          | (refine Calls.mono h fun e w'' he => ?_; cases e <;> first | exact H _ _ he | exact he.elim | exact (nrm_out N he).elim)
          | exact Rows.mono h fun u w'' he => H _ _ he
      · cases x <;> exact False.elim h
    · exact (nrm_out N h.2).elim
  · rename_i hw
    simp only [hw] at h
    exact H _ _ h

def anyC (P : Program) (md : Region.Mode) (ops : Array Oper) (N : Act → World → Prop) (C : World → Prop) : Nat → Array Bool → Act → World → Prop
  | 0, listed, a, w => C w ∧ Region.ready md ops listed = [] ∧ N a w
  | n + 1, listed, a, w => C w ∧ (Region.ready md ops listed = [] → N a w) ∧ ∀ i ∈ Region.ready md ops listed, wpOp P ops (Nrm N) i (anyC P md ops N C n (listed.setIfInBounds i true)) a w
theorem anyC_world : ∀ {n : Nat} {listed : Array Bool} {a : Act} {w : World}, anyC P md ops N C n listed a w → C w
  | 0, _, _, _, h => h.1
  | _ + 1, _, _, _, h => h.1
theorem anyC_any {Q : Exit → Act → World → Prop} (hN : ∀ a w, N a w → Q .normal a w) : ∀ {n : Nat} {listed : Array Bool} {a : Act} {w : World}, anyC P md ops N C n listed a w → wpAny P md ops Q n listed a w
  | 0, _, _, _, h => ⟨h.2.1, hN _ _ h.2.2⟩
  | n + 1, listed, a, w, h => ⟨fun h0 => hN _ _ (h.2.1 h0), fun i hi => by
      obtain ⟨_, o, ho, _⟩ := mem_ready.1 hi
      exact wpOp_go ho rfl rfl rfl (h.2.2 i hi) fun _ _ _ hk => anyC_any hN hk⟩

def YieldsC (P : Program) (ops : Array Oper) (C : World → Prop) (o : Oper) (v : Value) (a : Act) : Prop :=
  (Region.wanted o (yielded ops a.tmps) = true ∧ ∀ w, C w → (execOp a.eval o).run P w = .ok (.value v) w) ∨ (Region.wanted o (yielded ops a.tmps) = false ∧ v = undef)
theorem YieldsC.wpOp {Q : Exit → Act → World → Prop} {i : Nat} {o : Oper} {v : Value} {a : Act} {w : World} (hi : ops[i]? = some o) (h : YieldsC P ops C o v a) (hC : C w) {K : Act → World → Prop} (hK : K (a.put o.dst v) w) : wpOp P ops Q i K a w := by
  unfold Go.wpOp
  rcases h with ⟨h1, h2⟩ | ⟨h1, rfl⟩
  · simp only [hi, h1, if_true]
    exact .inl (by unfold Oper.wp; rw [h2 w hC]; exact hK)
  · simp only [hi, h1, Bool.false_eq_true, if_false]
    exact hK

theorem anyC_first {i : Nat} {oi : Oper} {v : Value} (hi : ops[i]? = some oi) (hsel : ∀ (j : Nat) (o : Oper) cs b, ops[j]? = some o → o.op ≠ .select cs b) :
    ∀ (n : Nat) (listed : Array Bool) (a : Act) (w : World),
      (∀ j oj, ops[j]? = some oj → j ≠ i → listed.getD j true = false → (∀ e ∈ oj.after, Region.binds md e = true → e.on ≠ i) → oi.apart ops oj = true) →
      i ∈ Region.ready md ops listed → YieldsC P ops C oi v a →
      anyC P md ops N C n (listed.setIfInBounds i true) (a.put oi.dst v) w → anyC P md ops N C (n + 1) listed a w
  | n, listed, a, w, hfree, hr, hy, H => by
    have hC := anyC_world H
    refine ⟨hC, fun h => (by rw [h] at hr; cases hr), fun j hj => ?_⟩
    by_cases hji : j = i
    · subst hji; exact hy.wpOp hi hC H
    · have hjr := ready_mono (i := i) hj hji
      match n, H with
      | 0, H =>
        rw [H.2.1] at hjr
        cases hjr
      | n + 1, H =>
        obtain ⟨hjun, oj, hoj, hall⟩ := mem_ready.1 hj
        have hiun := (mem_ready.1 hr).1
        have hnot : ∀ e ∈ oj.after, Region.binds md e = true → e.on ≠ i := fun e he hb heq => by
          have h1 := hall e he hb
          rw [heq] at h1
          rcases Nat.lt_or_ge i listed.size with h' | h'
          · simp [h'] at hiun h1; rw [hiun] at h1; cases h1
          · simp [Array.getElem?_eq_none h'] at h1
        obtain ⟨h1, h2, h3⟩ := Oper.apart_spec (hfree j oj hoj hji hjun hnot)
        refine wpOp_go hoj (execOp_put oj (fun cs b => hsel j oj cs b hoj) a oi.dst v h1) (wanted_put oj a oi.dst v h1) (by cases oi.dst <;> rfl) (H.2.2 j hjr) fun u D w' hk => ?_
        refine anyC_first (v := v) hi hsel n _ _ _ (fun k ok hk hki hun hno => hfree k ok hk hki ?_ hno) (ready_mono hr (Ne.symm hji)) ?_ ?_
        · by_cases hjk : j = k
          · subst hjk; exact hjun
          · rw [getD_set_ne true hjk] at hun; exact hun
        · have e1 : execOp (Act.put { a with defers := D } oj.dst u).eval oi = execOp a.eval oi := execOp_put oi (fun cs b => hsel i oi cs b hi) { a with defers := D } oj.dst u h3
          have e2 := wanted_put oi { a with defers := D } oj.dst u h3
          rcases hy with ⟨y1, y2⟩ | ⟨y1, y2⟩
          · exact .inl ⟨e2.trans y1, fun w hw => by rw [e1]; exact y2 w hw⟩
          · exact .inr ⟨e2.trans y1, y2⟩
        · rw [Array.setIfInBounds_comm _ _ hji]
          have e3 : ({ a.put oi.dst v with defers := D } : Act) = Act.put { a with defers := D } oi.dst v := by cases oi.dst <;> rfl
          rw [e3, Act.put_comm _ v u h2] at hk
          exact hk

def valOp : Op → Bool
  | .move _ => true
  | .assign _ => true
  | .load _ _ => true
  | .build _ _ => true
  | .binOp _ _ _ _ _ => true
  | .fieldAddr _ _ _ => true
  | .indexAddr _ _ _ => true
  | .slice _ _ _ _ _ => true
  | .convert _ _ _ => true
  | .unOp _ _ _ => true
  | .pick _ _ _ => true
  | .extract _ _ => true
  | _ => false
theorem value_only {s : Sem Value} {w w' : World} {n : Next} (h : (do pure (Next.value (← s)) : Sem Next).run P w = .ok n w') : ∃ u, n = .value u := by
  rw [Sem.run_bind] at h
  generalize s.run P w = r at h
  rcases r with ⟨x, w1⟩ | ⟨x, w1⟩
  · simp only [Result.andThen_ok, Sem.run_pure, Result.ok.injEq] at h
    exact ⟨x, h.1.symm⟩
  · cases h
theorem pick_only {s : Sem Bool} {x y : Value} {w w' : World} {n : Next} (h : (do pure (Next.value (if (← s) then x else y)) : Sem Next).run P w = .ok n w') : ∃ u, n = .value u := by
  rw [Sem.run_bind] at h
  generalize s.run P w = r at h
  rcases r with ⟨b, w1⟩ | ⟨b, w1⟩
  · simp only [Result.andThen_ok, Sem.run_pure, Result.ok.injEq] at h
    exact ⟨_, h.1.symm⟩
  · cases h
theorem valOp_value {o : Oper} (ho : valOp o.op = true) {ρ : Operand → Value} {w w' : World} {n : Next} (h : (execOp ρ o).run P w = .ok n w') : ∃ u, n = .value u := by
  obtain ⟨dst, op, type, pos, after, guard⟩ := o
  cases op <;> first | (cases ho; done) | exact value_only h | exact pick_only h | (simp only [execOp, Sem.run_pure, Result.ok.injEq] at h; exact ⟨_, h.1.symm⟩)
theorem yieldsC_of {o : Oper} (ho : valOp o.op = true) {a : Act} {v : Value} (hw : Region.wanted o (yielded ops a.tmps) = true) (h : ∀ w, C w → o.quietAt P a C w v) : YieldsC P ops C o v a := by
  refine .inl ⟨hw, fun w hC => ?_⟩
  have h1 := h w hC
  unfold Oper.quietAt at h1
  generalize hr : (execOp a.eval o).run P w = r at h1 ⊢
  rcases r with ⟨n, w'⟩ | ⟨x, w'⟩
  · obtain ⟨u, rfl⟩ := valOp_value ho hr
    obtain ⟨rfl, rfl⟩ := h1
    rfl
  · cases h1

def headsB (md : Region.Mode) (ops : Array Oper) : List Nat → Array Bool → Bool
  | [], _ => true
  | k :: ks, listed => (Region.ready md ops listed).contains k && (Region.free md ops listed k && ((match ops[k]? with | some o => valOp o.op | none => false) && headsB md ops ks (listed.setIfInBounds k true)))
def headsL : List Nat → Array Bool → Array Bool
  | [], listed => listed
  | k :: ks, listed => headsL ks (listed.setIfInBounds k true)
def headOps (ops : Array Oper) (ks : List Nat) : List Oper := ks.filterMap fun k => ops[k]?
theorem anyC_heads (hs : Region.noSelect ops = true) (n : Nat) (w : World) (hC : C w) : ∀ (ks : List Nat) (listed : Array Bool) (a : Act),
    headsB md ops ks listed = true → wpQuiet P ops C (fun a' => anyC P md ops N C n (headsL ks listed) a' w) (headOps ops ks) a → anyC P md ops N C (n + ks.length) listed a w
  | [], _, _, _, h => h
  | k :: ks, listed, a, hB, h => by
    cases h0 : ops[k]? with
    | none => simp [headsB, h0] at hB
    | some o =>
    simp only [headsB, Bool.and_eq_true, h0] at hB
    obtain ⟨hr, hf, hv, hB⟩ := hB
    rw [headOps, List.filterMap_cons, h0] at h
    unfold wpQuiet at h
    by_cases hw : Region.wanted o (yielded ops a.tmps) = true
    · rw [if_pos hw] at h
      obtain ⟨v, h1, h2⟩ := h
      exact anyC_first h0 (Region.noSelect_spec hs) (n + ks.length) listed a w (Region.free_spec h0 hf) (by simpa using hr) (yieldsC_of hv hw h1) (anyC_heads hs n w hC ks _ _ hB h2)
    · rw [if_neg hw] at h
      exact anyC_first h0 (Region.noSelect_spec hs) (n + ks.length) listed a w (Region.free_spec h0 hf) (by simpa using hr) (.inr ⟨by simpa using hw, rfl⟩) (anyC_heads hs n w hC ks _ _ hB h)
theorem anyC_step {n i : Nat} {o : Oper} {listed : Array Bool} {a : Act} {w : World} (hr : Region.ready md ops listed = [i]) (hi : ops[i]? = some o) (hw : Region.wanted o (yielded ops a.tmps) = true) (hC : C w)
    (h : ∀ K : Act → World → Prop, (∀ a' w', anyC P md ops N C n (listed.setIfInBounds i true) a' w' → K a' w') → Oper.wp P o a w K (Nrm N)) : anyC P md ops N C (n + 1) listed a w := by
  refine ⟨hC, fun h0 => (by rw [h0] at hr; cases hr), fun j hj => ?_⟩
  rw [hr] at hj
  obtain rfl : j = i := by simpa using hj
  unfold wpOp
  simp only [hi, hw, if_true]
  exact .inl (h _ fun _ _ hk => hk)
theorem anyC_skip {n i : Nat} {o : Oper} {listed : Array Bool} {a : Act} {w : World} (hr : Region.ready md ops listed = [i]) (hi : ops[i]? = some o) (hw : Region.wanted o (yielded ops a.tmps) = false) (hC : C w)
    (h : anyC P md ops N C n (listed.setIfInBounds i true) (a.put o.dst undef) w) : anyC P md ops N C (n + 1) listed a w := by
  refine ⟨hC, fun h0 => (by rw [h0] at hr; cases hr), fun j hj => ?_⟩
  rw [hr] at hj
  obtain rfl : j = i := by simpa using hj
  unfold wpOp
  simp only [hi, hw, Bool.false_eq_true, if_false]
  exact h
theorem anyC_call {n i : Nat} {o : Oper} {f : FuncId} {args : Array Value} {listed : Array Bool} {a : Act} {w : World} (hr : Region.ready md ops listed = [i]) (hi : ops[i]? = some o) (hw : Region.wanted o (yielded ops a.tmps) = true) (hC : C w)
    (hrun : (execOp a.eval o).run P w = .ok (.enter f args) w) (h : Calls P f args w fun e w' => ∃ v, e = .returned v ∧ anyC P md ops N C n (listed.setIfInBounds i true) (a.put o.dst v) w') : anyC P md ops N C (n + 1) listed a w :=
  anyC_step hr hi hw hC fun K hK => by
    unfold Oper.wp
    rw [hrun]
    exact Calls.mono h fun e w' ⟨v, he, hk⟩ => by subst he; exact hK _ _ hk
theorem anyC_val {n i : Nat} {o : Oper} {v : Value} {listed : Array Bool} {a : Act} {w w' : World} (hr : Region.ready md ops listed = [i]) (hi : ops[i]? = some o) (hw : Region.wanted o (yielded ops a.tmps) = true) (hC : C w)
    (hrun : (execOp a.eval o).run P w = .ok (.value v) w') (h : anyC P md ops N C n (listed.setIfInBounds i true) (a.put o.dst v) w') : anyC P md ops N C (n + 1) listed a w :=
  anyC_step hr hi hw hC fun K hK => by
    unfold Oper.wp
    rw [hrun]
    exact hK _ _ h
theorem anyC_done {listed : Array Bool} {a : Act} {w : World} (hr : Region.ready md ops listed = []) (hC : C w) (h : N a w) : anyC P md ops N C 0 listed a w := ⟨hC, hr, h⟩
end

theorem wp_region_heads {P : Program} {N : Act → World → Prop} {C : World → Prop} {Q : Exit → Act → World → Prop} {id : Nat} {a : Act} {w : World} {l : List Oper} (ks : List Nat) (hm : P.follows .mixedOrders = true)
    (hB : (Region.noSelect l.toArray && (decide (ks.length ≤ l.length) && headsB .any l.toArray ks (Array.replicate l.length false))) = true) (hC : C w.drew) (hN : ∀ a w, N a w → Q .normal a w)
    (h : wpQuiet P l.toArray C (fun a' => anyC P .any l.toArray N C (l.length - ks.length) (headsL ks (Array.replicate l.length false)) a' w.drew) (headOps l.toArray ks) a) : (Code.region id l.toArray true).wp P Q a w := by
  simp only [Bool.and_eq_true, decide_eq_true_eq] at hB
  obtain ⟨hs, hn, hB⟩ := hB
  refine wp_region_any hm (anyC_any (C := C) hN ?_)
  have := anyC_heads (P := P) (md := .any) (N := N) hs (l.length - ks.length) w.drew hC ks (Array.replicate l.length false) a hB h
  rw [show l.length - ks.length + ks.length = l.length by omega] at this
  rw [List.size_toArray]
  exact this

end Go.Proofs.Ytmbifmmkccghfaa

/-
  Regions that draw their order: two operations that may come up, calls and stores. No condition.
-/
namespace Go.Proofs.Ytmbifmmkccghfaa
open Go.RowKit
section
variable {P : Program} {ops : Array Oper} {md : Region.Mode} {N : Act → World → Prop} {C : World → Prop}
theorem wpOp_call {i : Nat} {o : Oper} {f : FuncId} {args : Array Value} {a : Act} {w : World} {K : Act → World → Prop} (hi : ops[i]? = some o) (hw : Region.wanted o (yielded ops a.tmps) = true)
    (hrun : (execOp a.eval o).run P w = .ok (.enter f args) w) (h : Calls P f args w fun e w' => ∃ v, e = .returned v ∧ K (a.put o.dst v) w') : wpOp P ops (Nrm N) i K a w := by
  unfold wpOp
  simp only [hi, hw, if_true]
  refine .inl ?_
  unfold Oper.wp
  rw [hrun]
  exact Calls.mono h fun e w' ⟨v, he, hk⟩ => by subst he; exact hk
theorem wpOp_val {i : Nat} {o : Oper} {v : Value} {a : Act} {w w' : World} {K : Act → World → Prop} (hi : ops[i]? = some o) (hw : Region.wanted o (yielded ops a.tmps) = true)
    (hrun : (execOp a.eval o).run P w = .ok (.value v) w') (h : K (a.put o.dst v) w') : wpOp P ops (Nrm N) i K a w := by
  unfold wpOp
  simp only [hi, hw, if_true]
  refine .inl ?_
  unfold Oper.wp
  rw [hrun]
  exact h
theorem anyC_store {n i : Nat} {o : Oper} {listed : Array Bool} {a : Act} {w w' : World} (hr : Region.ready md ops listed = [i]) (hi : ops[i]? = some o) (hw : Region.wanted o (yielded ops a.tmps) = true) (hC : C w)
    (hrun : (execOp a.eval o).run P w = .ok .skip w') (h : anyC P md ops N C n (listed.setIfInBounds i true) (a.put o.dst undef) w') : anyC P md ops N C (n + 1) listed a w :=
  anyC_step hr hi hw hC fun K hK => by
    unfold Oper.wp
    rw [hrun]
    exact hK _ _ h
theorem wpOp_callD {i : Nat} {o : Oper} {f : FuncId} {args : Array Value} {a : Act} {w : World} {K : Act → World → Prop} (d : Option Tmp) (hi : ops[i]? = some o) (hd : o.dst = d) (hw : Region.wanted o (yielded ops a.tmps) = true)
    (hrun : (execOp a.eval o).run P w = .ok (.enter f args) w) (h : Calls P f args w fun e w' => ∃ v, e = .returned v ∧ K (a.put d v) w') : wpOp P ops (Nrm N) i K a w := by
  subst hd
  exact wpOp_call hi hw hrun h
theorem wpOp_valD {i : Nat} {o : Oper} {v : Value} {a : Act} {w w' : World} {K : Act → World → Prop} (d : Option Tmp) (hi : ops[i]? = some o) (hd : o.dst = d) (hw : Region.wanted o (yielded ops a.tmps) = true)
    (hrun : (execOp a.eval o).run P w = .ok (.value v) w') (h : K (a.put d v) w') : wpOp P ops (Nrm N) i K a w := by
  subst hd
  exact wpOp_val hi hw hrun h
theorem anyC_callD {n i : Nat} {o : Oper} {f : FuncId} {args : Array Value} {listed : Array Bool} {a : Act} {w : World} (d : Option Tmp) (hr : Region.ready md ops listed = [i]) (hi : ops[i]? = some o) (hd : o.dst = d) (hw : Region.wanted o (yielded ops a.tmps) = true) (hC : C w)
    (hrun : (execOp a.eval o).run P w = .ok (.enter f args) w) (h : Calls P f args w fun e w' => ∃ v, e = .returned v ∧ anyC P md ops N C n (listed.setIfInBounds i true) (a.put d v) w') : anyC P md ops N C (n + 1) listed a w := by
  subst hd
  exact anyC_call hr hi hw hC hrun h
theorem anyC_valD {n i : Nat} {o : Oper} {v : Value} {listed : Array Bool} {a : Act} {w w' : World} (d : Option Tmp) (hr : Region.ready md ops listed = [i]) (hi : ops[i]? = some o) (hd : o.dst = d) (hw : Region.wanted o (yielded ops a.tmps) = true) (hC : C w)
    (hrun : (execOp a.eval o).run P w = .ok (.value v) w') (h : anyC P md ops N C n (listed.setIfInBounds i true) (a.put d v) w') : anyC P md ops N C (n + 1) listed a w := by
  subst hd
  exact anyC_val hr hi hw hC hrun h
theorem anyC_storeN {n i : Nat} {o : Oper} {listed : Array Bool} {a : Act} {w w' : World} (hr : Region.ready md ops listed = [i]) (hi : ops[i]? = some o) (hd : o.dst = none) (hw : Region.wanted o (yielded ops a.tmps) = true) (hC : C w)
    (hrun : (execOp a.eval o).run P w = .ok .skip w') (h : anyC P md ops N C n (listed.setIfInBounds i true) a w') : anyC P md ops N C (n + 1) listed a w := by
  refine anyC_store hr hi hw hC hrun ?_
  rw [hd]
  exact h
end
end Go.Proofs.Ytmbifmmkccghfaa

/-
  Regions that draw their order, within a round of a range over a function. No condition.
-/
namespace Go.Proofs.Ytmbifmmkccghfaa
open Go.RowKit
set_option linter.unusedVariables false
section
variable {P : Program} {ops : Array Oper} {md : Region.Mode} {N : Act → World → Prop} {C : World → Prop} {l₀ m : Nat}
end
def valN : Op → Bool
  | .nilCheck _ => true
  | o => valOp o
theorem onlyV_bind {P : Program} {α : Type} {s : Sem α} {f : α → Sem Next} (hf : ∀ x w n w', (f x).run P w = .ok n w' → ∃ u, n = .value u) (w : World) (n : Next) (w' : World) (h : (s >>= f).run P w = .ok n w') : ∃ u, n = .value u := by
  rw [Sem.run_bind] at h
  generalize s.run P w = r at h
  rcases r with ⟨x, w1⟩ | ⟨x, w1⟩
  · exact hf _ _ _ _ h
  · cases h
theorem onlyV_pure {P : Program} (v : Value) (w : World) (n : Next) (w' : World) (h : (pure (Next.value v) : Sem Next).run P w = .ok n w') : ∃ u, n = .value u := by
  simp only [Sem.run_pure, Result.ok.injEq] at h
  exact ⟨_, h.1.symm⟩
theorem onlyV_nil {P : Program} {x : Operand} {d : Option Tmp} {t : TypeId} {pos : String} {af : Array Edge} {g : Option (Nat × Bool)} {ρ : Operand → Value} {w w' : World} {n : Next} (h : (execOp ρ ⟨d, .nilCheck x, t, pos, af, g⟩).run P w = .ok n w') : ∃ u, n = .value u := by
  unfold execOp at h
  dsimp only at h
  split at h
  · cases h
  · cases h
  · cases h
  · split at h
    · cases h
    · refine onlyV_bind (fun x w n w' h => onlyV_bind (fun b w n w' h => ?_) w n w' h) w n w' h
      split at h
      · exact onlyV_bind (fun _ => onlyV_pure _) _ _ _ h
      · first | exact onlyV_pure _ _ _ _ h | exact onlyV_bind (fun _ => onlyV_pure _) _ _ _ h
    · exact onlyV_pure _ _ _ _ h
  · exact onlyV_pure _ _ _ _ h
theorem valN_value {P : Program} {o : Oper} (ho : valN o.op = true) {ρ : Operand → Value} {w w' : World} {n : Next} (h : (execOp ρ o).run P w = .ok n w') : ∃ u, n = .value u := by
  by_cases hv : valOp o.op = true
  · exact valOp_value hv h
  · obtain ⟨dst, op, type, pos, after, guard⟩ := o
    cases op <;> first | (exact absurd ho hv) | exact onlyV_nil h
end Go.Proofs.Ytmbifmmkccghfaa

/-
  Drawn regions whose last operation is a store that waits for all others: the readers are taken first, and what is read may be what is stored. No condition.
-/
namespace Go.Proofs.Ytmbifmmkccghfaa
open Go.RowKit
section
variable {P : Program} {ops : Array Oper} {md : Region.Mode} {N : Act → World → Prop} {C : World → Prop} {l₀ m : Nat}
end
end Go.Proofs.Ytmbifmmkccghfaa

/-
  Drawn regions whose last operation waits for all others, and may panic (a call): the readers, and builtin len, are taken first. No condition.
-/
namespace Go.Proofs.Ytmbifmmkccghfaa
open Go.RowKit
def valM : Op → Bool
  | .call c => match c.callee with | .builtin .len => true | _ => false
  | o => valN o
theorem valM_value {P : Program} {o : Oper} (ho : valM o.op = true) {ρ : Operand → Value} {w w' : World} {n : Next} (h : (execOp ρ o).run P w = .ok n w') : ∃ u, n = .value u := by
  by_cases hv : valN o.op = true
  · exact valN_value hv h
  · obtain ⟨dst, op, type, pos, after, guard⟩ := o
    cases op
    case call c =>
      obtain ⟨callee, args, ats⟩ := c
      cases callee
      case builtin b =>
        cases b
        case len =>
          simp only [execOp, resolve, invoke, builtin, Sem.run_bind, Sem.run_pure, Result.andThen_ok] at h
          generalize (Builtin.len_ _ _ _).run P w = r at h
          rcases r with ⟨x, w1⟩ | ⟨x, w1⟩
          · simp only [Result.andThen_ok, Sem.run_pure, Result.ok.injEq] at h
            exact ⟨x, h.1.symm⟩
          · cases h
        all_goals cases ho
      all_goals cases ho
    all_goals exact absurd ho hv
theorem yieldsM_of {P : Program} {ops : Array Oper} {C : World → Prop} {o : Oper} (ho : valM o.op = true) {a : Act} {v : Value} (hw : Region.wanted o (yielded ops a.tmps) = true) (h : ∀ w, C w → o.quietAt P a C w v) : YieldsC P ops C o v a := by
  refine .inl ⟨hw, fun w hC => ?_⟩
  have h1 := h w hC
  unfold Oper.quietAt at h1
  generalize hr : (execOp a.eval o).run P w = r at h1 ⊢
  rcases r with ⟨n, w'⟩ | ⟨x, w'⟩
  · obtain ⟨u, rfl⟩ := valM_value ho hr
    obtain ⟨rfl, rfl⟩ := h1
    rfl
  · cases h1
def headsM (md : Region.Mode) (ops : Array Oper) : List Nat → Array Bool → Bool
  | [], _ => true
  | k :: ks, listed => (Region.ready md ops listed).contains k && (Region.free md ops listed k && ((match ops[k]? with | some o => valM o.op | none => false) && headsM md ops ks (listed.setIfInBounds k true)))
section
variable {P : Program} {ops : Array Oper} {md : Region.Mode} {N : Act → World → Prop} {Q : Exit → Act → World → Prop} {C : World → Prop}
end
end Go.Proofs.Ytmbifmmkccghfaa

/-
  Drawn regions by heads, builtin len among the readers; a guarded operation that is passed over. No condition.
-/
namespace Go.Proofs.Ytmbifmmkccghfaa
open Go.RowKit

section
variable {P : Program} {ops : Array Oper} {md : Region.Mode} {N : Act → World → Prop} {C : World → Prop}
theorem anyC_headsM (hs : Region.noSelect ops = true) (n : Nat) (w : World) (hC : C w) : ∀ (ks : List Nat) (listed : Array Bool) (a : Act),
    headsM md ops ks listed = true → wpQuiet P ops C (fun a' => anyC P md ops N C n (headsL ks listed) a' w) (headOps ops ks) a → anyC P md ops N C (n + ks.length) listed a w
  | [], _, _, _, h => h
  | k :: ks, listed, a, hB, h => by
    cases h0 : ops[k]? with
    | none => simp [headsM, h0] at hB
    | some o =>
    simp only [headsM, Bool.and_eq_true, h0] at hB
    obtain ⟨hr, hf, hv, hB⟩ := hB
    rw [headOps, List.filterMap_cons, h0] at h
    unfold wpQuiet at h
    by_cases hw : Region.wanted o (yielded ops a.tmps) = true
    · rw [if_pos hw] at h
      obtain ⟨v, h1, h2⟩ := h
      exact anyC_first h0 (Region.noSelect_spec hs) (n + ks.length) listed a w (Region.free_spec h0 hf) (by simpa using hr) (yieldsM_of hv hw h1) (anyC_headsM hs n w hC ks _ _ hB h2)
    · rw [if_neg hw] at h
      exact anyC_first h0 (Region.noSelect_spec hs) (n + ks.length) listed a w (Region.free_spec h0 hf) (by simpa using hr) (.inr ⟨by simpa using hw, rfl⟩) (anyC_headsM hs n w hC ks _ _ hB h)
theorem anyC_skipD {n i : Nat} {o : Oper} {listed : Array Bool} {a : Act} {w : World} (d : Option Tmp) (hr : Region.ready md ops listed = [i]) (hi : ops[i]? = some o) (hd : o.dst = d) (hw : Region.wanted o (yielded ops a.tmps) = false) (hC : C w)
    (h : anyC P md ops N C n (listed.setIfInBounds i true) (a.put d undef) w) : anyC P md ops N C (n + 1) listed a w := by
  subst hd
  exact anyC_skip hr hi hw hC h
theorem wp_region_headsM {Q : Exit → Act → World → Prop} {id : Nat} {a : Act} {w : World} {l : List Oper} (ks : List Nat) (hm : P.follows .mixedOrders = true)
    (hB : (Region.noSelect l.toArray && (decide (ks.length ≤ l.length) && headsM .any l.toArray ks (Array.replicate l.length false))) = true) (hC : C w.drew) (hN : ∀ a w, N a w → Q .normal a w)
    (h : wpQuiet P l.toArray C (fun a' => anyC P .any l.toArray N C (l.length - ks.length) (headsL ks (Array.replicate l.length false)) a' w.drew) (headOps l.toArray ks) a) : (Code.region id l.toArray true).wp P Q a w := by
  simp only [Bool.and_eq_true, decide_eq_true_eq] at hB
  obtain ⟨hs, hn, hB⟩ := hB
  refine wp_region_any hm (anyC_any (C := C) hN ?_)
  have := anyC_headsM (P := P) (md := .any) (N := N) hs (l.length - ks.length) w.drew hC ks (Array.replicate l.length false) a hB h
  rw [show l.length - ks.length + ks.length = l.length by omega] at this
  rw [List.size_toArray]
  exact this
end
end Go.Proofs.Ytmbifmmkccghfaa

/-
  Contract of Check of orders. (Printed by pp.py.) No condition.
-/
namespace Go.Proofs.Ytmbifmmkccghfaa
open Go.RowKit

theorem check_no {b : Bx} (h : b.okB = false) : b.checkT = 340 := by rw [Bx.checkT, if_neg (by rw [h]; decide)]
theorem check_yes {b : Bx} (h : b.okB = true) : b.checkT = 0 := by rw [Bx.checkT, if_pos h]
theorem net_chk {n : Net} : n.checkT = 0 ∧ n.okB = true ∨ n.checkT = 60 ∧ n.okB = false := by
  unfold Net.checkT
  cases h : n.okB with
  | true => exact .inl ⟨if_pos rfl, rfl⟩
  | false => exact .inr ⟨if_neg (by decide), rfl⟩
theorem net_data {n : Net} (h : n.okB = true) {p : Pk} (hp : p ∈ n.queue) : p.data.length ≤ 1048576 := by
  simp only [Net.okB, Bool.and_eq_true] at h
  have := List.all_eq_true.1 h.2.1 p hp
  simp only [Pk.okB, Bool.and_eq_true, decide_eq_true_eq] at this
  exact this.2
set_option maxRecDepth 100000 in
set_option maxHeartbeats 4000000 in
theorem oCheck_any (b : Bx) (Aq Aa As Ah Af : Option Addr) (nq cq na ca ns cs n ch nf cf : Nat) (w : World) {T : Int} (hT : Hid (b.checkT = T)) (hx : Hid (BxAt w w.heap.size (.slice Aq nq cq) (.slice Aa na ca) (.slice As ns cs) (.slice Ah n ch) (.slice Af nf cf) b)) (hnq : Hid (b.net.queue.length = nq)) (hna : Hid (b.net.apart.length = na)) (hns : Hid (b.sent.length = ns)) (hn : Hid (b.heard.length = n)) (hnf : Hid (b.fresh.length = nf)) (hcs : ns ≤ 9223372036854775807) (hcn : n ≤ 9223372036854775807) (hcf : nf ≤ 9223372036854775807) (hcq : nq ≤ 9223372036854775807) :
    Calls Try.prog 15 #[.agg #[.slice Aq nq cq, .slice Aa na ca, .slice As ns cs, .slice Ah n ch, .slice Af nf cf]] w fun e w' => e = .returned (.int .i64 T) ∧ Below w.heap.size w w' := by
  have hB := (Below.refl w.heap.size w).alloc (Nat.le_refl _) (.cells #[.slice Aq nq cq, .slice Aa na ca, .slice As ns cs, .slice Ah n ch, .slice Af nf cf] 30)
  have X1 := Box.new w [.slice Aq nq cq, .slice Aa na ca, .slice As ns cs, .slice Ah n ch, .slice Af nf cf] 30
  go_enter Try.func15, Try.ntmps15
  go_upto_region 1 with fail
  generalize w.alloc (.cells #[.slice Aq nq cq, .slice Aa na ca, .slice As ns cs, .slice Ah n ch, .slice Af nf cf] 30) = w1 at hB X1 ⊢
  have z1 := X1.lt
  have X1c0 : w1.cell? ⟨w.heap.size, 0, none⟩ = some (.slice Aq nq cq) := X1.cell 0
  have X1c1 : w1.cell? ⟨w.heap.size, 1, none⟩ = some (.slice Aa na ca) := X1.cell 1
  have X1c2 : w1.cell? ⟨w.heap.size, 2, none⟩ = some (.slice As ns cs) := X1.cell 2
  have X1c3 : w1.cell? ⟨w.heap.size, 3, none⟩ = some (.slice Ah n ch) := X1.cell 3
  have X1c4 : w1.cell? ⟨w.heap.size, 4, none⟩ = some (.slice Af nf cf) := X1.cell 4
  obtain ⟨v, hv⟩ : ∃ v, Hid (b.validB = v) := ⟨_, Lib.hid rfl⟩
  go_wp2_with fail
  refine (oValid_is b _ _ As Ah Af ns cs n ch nf cf w1 hv (Lib.hid (hx.out.later hB)) hns hn hnf hcs hcn hcf).mono ?_
  rintro e w2 ⟨rfl, hb⟩
  have hB := hB.trans (hb.mono hB.size)
  have X1 := X1.later hb
  clear hb z1 X1c0 X1c1 X1c2 X1c3 X1c4
  cases v with
  | false =>
    obtain rfl : T = 340 := by rw [← hT.out, check_no]; rw [Bx.okB, hv.out]; rfl
    go_wp2
    go_ret
    exact ⟨rfl, hB⟩
  | true =>
  have z1 := X1.lt
  have X1c0 : w2.cell? ⟨w.heap.size, 0, none⟩ = some (.slice Aq nq cq) := X1.cell 0
  have X1c1 : w2.cell? ⟨w.heap.size, 1, none⟩ = some (.slice Aa na ca) := X1.cell 1
  have X1c2 : w2.cell? ⟨w.heap.size, 2, none⟩ = some (.slice As ns cs) := X1.cell 2
  have X1c3 : w2.cell? ⟨w.heap.size, 3, none⟩ = some (.slice Ah n ch) := X1.cell 3
  have X1c4 : w2.cell? ⟨w.heap.size, 4, none⟩ = some (.slice Af nf cf) := X1.cell 4
  obtain ⟨c, hc⟩ : ∃ c, Hid (b.net.checkT = c) := ⟨_, Lib.hid rfl⟩
  go_wp2_with fail
  refine (nCheck_at hc (hx.out.later hB).net).mono ?_
  rintro e w3 ⟨rfl, hb⟩
  have hB := hB.trans (hb.mono hB.size)
  have X1 := X1.later hb
  clear hb z1 X1c0 X1c1 X1c2 X1c3 X1c4
  rcases net_chk (n := b.net) with ⟨h1, h2⟩ | ⟨h1, h2⟩
  rotate_left
  · obtain rfl : c = 60 := by rw [← hc.out]; exact h1
    obtain rfl : T = 340 := by rw [← hT.out, check_no]; rw [Bx.okB, hv.out, h2]; rfl
    clear h1 h2
    go_wp2
    go_ret
    exact ⟨rfl, hB⟩
  obtain rfl : c = 0 := by rw [← hc.out]; exact h1
  have HNO := Lib.hid h2
  clear h1 h2
  have z1 := X1.lt
  have X1c0 : w3.cell? ⟨w.heap.size, 0, none⟩ = some (.slice Aq nq cq) := X1.cell 0
  have X1c1 : w3.cell? ⟨w.heap.size, 1, none⟩ = some (.slice Aa na ca) := X1.cell 1
  have X1c2 : w3.cell? ⟨w.heap.size, 2, none⟩ = some (.slice As ns cs) := X1.cell 2
  have X1c3 : w3.cell? ⟨w.heap.size, 3, none⟩ = some (.slice Ah n ch) := X1.cell 3
  have X1c4 : w3.cell? ⟨w.heap.size, 4, none⟩ = some (.slice Af nf cf) := X1.cell 4
  go_upto_region 4 with fail
  clear z1 X1c0 X1c1 X1c2 X1c3 X1c4
  have hvp : b.listsB = true ∧ b.sentB = true := by
    have := hv.out
    simp only [Bx.validB, Bool.and_eq_true] at this
    exact ⟨this.1, this.2.1⟩
  have HVP := Lib.hid hvp
  clear hvp
  go_loopw [19] (fun s wr => ∃ k : Nat, k ≤ nq ∧ s = .int .i64 k ∧ Below w.heap.size w wr ∧ Box wr w.heap.size [.slice Aq nq cq, .slice Aa na ca, .slice As ns cs, .slice Ah n ch, .slice Af nf cf] ∧ Hid (∀ j (hj : j < b.net.queue.length), j < k → b.pkB b.net.queue[j] = true)) (fun s _ => nq - (intOf s).toNat)
  case atStart => exact ⟨0, by omega, rfl, hB, X1, Lib.hid (fun j _ hj => by omega)⟩
  case round =>
    clear hB X1
    obtain ⟨k, hk, rfl, hB, X1, hall⟩ := hrel
    obtain ⟨wo, rfl⟩ : ∃ wo : World, wo = wr := ⟨_, rfl⟩
    rcases Nat.lt_or_ge k nq with hlt | hge
    rotate_left
    · obtain rfl : k = nq := by omega
      have hk3 : ¬ ((k : Int) < (k : Int)) := by omega
      obtain rfl : T = 0 := by
        rw [← hT.out, check_yes]
        rw [Bx.okB, hv.out, HNO.out, Bool.true_and, Bool.true_and]
        refine List.all_eq_true.2 fun p hp => ?_
        obtain ⟨j, hj, rfl⟩ := List.getElem_of_mem hp
        exact hall.out j hj (by rw [← hnq.out]; exact hj)
      go_wp2
      go_ret
      exact ⟨rfl, hB⟩
    have hk3 : (k : Int) < (nq : Int) := by omega
    have hkl : k < b.net.queue.length := by rw [hnq.out]; exact hlt
    obtain ⟨bq, oq, Vd, rfl, hbq, c0, c1, c2, hd⟩ := hx.out.net.queue.pk hkl
    have hdl := net_data HNO.out (List.getElem_mem hkl)
    have hbad : b.pkB b.net.queue[k] = false → T = 340 := fun h => by
      rw [← hT.out, check_no]
      have : b.net.queue.all b.pkB = false := List.all_eq_false.2 ⟨_, List.getElem_mem hkl, by rw [h]; decide⟩
      rw [Bx.okB, this, Bool.and_false, Bool.and_false]
    have hgood : b.pkB b.net.queue[k] = true → ∀ j (hj : j < b.net.queue.length), j < k + 1 → b.pkB b.net.queue[j] = true := fun h j hj hjk => by
      rcases Nat.lt_or_ge j k with h9 | h9
      · exact hall.out j hj h9
      · obtain rfl : j = k := by omega
        exact h
    have hsame := pk_same (b := b) (p := b.net.queue[k]) (by simp only [maxLen]; omega) HVP.out.2 (by
      have := of_decide_eq_true HVP.out.1
      simp only [maxLen]
      omega)
    rw [← hsame] at hbad hgood
    clear hsame
    generalize b.net.queue[k] = p at c0 c1 c2 hd hdl hbad hgood
    have HBAD := Lib.hid hbad
    have HGOOD := Lib.hid hgood
    clear hbad hgood
    obtain ⟨Ad, cd, rfl, -⟩ := hd.form
    obtain ⟨dl, hdle⟩ : ∃ dl, p.data.length = dl := ⟨_, rfl⟩
    rw [hdle] at c2 hd hdl
    have HD := Lib.hid hd
    have HDL := Lib.hid hdle
    clear hd hdle
    obtain ⟨src, dst, data⟩ := p
    dsimp only at c0 c1 HD HDL
    replace c0 := (hB.cell hbq).trans c0
    replace c1 := (hB.cell hbq).trans c1
    replace c2 := (hB.cell hbq).trans c2
    have hqz := Nat.lt_of_lt_of_le hbq hB.size
    go_upto_region 6 with fail
    have Y := Box.new wo [.int .i64 src, .int .i64 dst, .slice Ad dl cd] 51
    have hal := (Below.refl wo.heap.size wo).alloc (Nat.le_refl _) (.cells #[.int .i64 src, .int .i64 dst, .slice Ad dl cd] 51)
    have X1 := X1.later hal
    have hB := hB.trans (hal.mono hB.size)
    clear hal c0 c1 c2 hqz
    generalize wo.alloc (.cells #[.int .i64 src, .int .i64 dst, .slice Ad dl cd] 51) = wa at Y X1 hB ⊢
    generalize wo.heap.size = D at Y ⊢
    have y2 : wa.cell? ⟨D, 2, none⟩ = some (.slice Ad dl cd) := Y.cell 2
    have yz := Y.lt
    obtain ⟨u, hu⟩ : ∃ u, Hid (numberT data = u) := ⟨_, Lib.hid rfl⟩
    go_wp2_with fail
    have hda : BytesAt wa wa.heap.size (.slice Ad dl cd) data := (HD.out.below hB).more hB.size
    refine (oNumber_is hu hda (by rw [HDL.out]; omega)).mono ?_
    rintro e W ⟨rfl, hb⟩
    have hB := hB.trans (hb.mono hB.size)
    have X1 := X1.later hb
    have Y := Y.later hb
    clear hb y2 yz hda
    go_upto_region 7 with fail
    -- REGION 7
    go_cut [65] (fun s65 wx => s65 = .bool (!b.pkP ⟨src, dst, data⟩) ∧ Below W.heap.size W wx)
    case first =>
      have hd := (Below.refl W.heap.size W).drew
      have z1 := X1.lt
      have zy := Y.lt
      have u0 : ∀ z : Later W, z.w.cell? ⟨w.heap.size, 2, none⟩ = some (.slice As ns cs) := Later.cell (X1.cell 2) z1
      have v0 : ∀ z : Later W, z.w.cell? ⟨D, 0, none⟩ = some (.int .i64 src) := Later.cell (Y.cell 0) zy
      have v1 : ∀ z : Later W, z.w.cell? ⟨D, 1, none⟩ = some (.int .i64 dst) := Later.cell (Y.cell 1) zy
      have v2 : ∀ z : Later W, z.w.cell? ⟨D, 2, none⟩ = some (.slice Ad dl cd) := Later.cell (Y.cell 2) zy
      by_cases h0 : u < 0
      · have e1 : decide (u < 0) = true := decide_eq_true h0
        have hP : b.pkP ⟨src, dst, data⟩ = false := decide_eq_false (fun h => by rw [hu.out] at h; omega)
        refine wp_region_headsM (C := fun w' => ∃ x : Later W, w' = x.w) [0, 1, 2, 3, 4, 5, 6, 7, 8, 9, 10, 11, 12, 13, 14, 15, 16, 17, 18, 19, 20, 21, 22, 23, 24, 25, 26, 27, 28, 29, 30, 31, 32, 33, 34, 35, 36] (by kernel_rfl) (by kernel_rfl) (Later.mk' hd) (fun _ _ h => h) ?_
        simp only [headOps, List.filterMap_cons, List.filterMap_nil, List.getElem?_toArray, List.getElem?_cons_succ, List.getElem?_cons_zero]
        repeat (first | go_big_quiet_skip | (show wpQuiet _ _ _ _ (_ :: _) _; go_big_quiet_skip) | (show wpQuiet _ _ _ _ (_ :: _) _; go_big_quiet_want; go_big_quiet_op; go_big_quiet_on))
        refine wpQuiet_nil ?_
        clear u0 v0 v1 v2
        refine anyC_skipD (some 63) (n := 2) (i := 37) (by kernel_rfl) rfl rfl rfl (Later.mk' hd) ?_
        simp only [Act.put, List.setIfInBounds_toArray, List.set_cons_zero, List.set_cons_succ]
        refine anyC_heads (by kernel_rfl) 0 W.drew (Later.mk' hd) [38, 39] _ _ (by kernel_rfl) ?_
        simp only [headOps, List.filterMap_cons, List.filterMap_nil, List.getElem?_toArray, List.getElem?_cons_succ, List.getElem?_cons_zero]
        repeat (first | go_big_quiet_skip | (show wpQuiet _ _ _ _ (_ :: _) _; go_big_quiet_skip) | (show wpQuiet _ _ _ _ (_ :: _) _; go_big_quiet_want; go_big_quiet_op; go_big_quiet_on))
        refine wpQuiet_nil ?_
        refine anyC_done (by kernel_rfl) (Later.mk' hd) ?_
        go_wp2_with fail
        go_meet
        exact ⟨by rw [hP]; rfl, hd⟩
      have e1 : decide (u < 0) = false := decide_eq_false h0
      by_cases h1 : (ns : Int) ≤ u
      · have e2 : decide ((ns : Int) ≤ u) = true := decide_eq_true h1
        have hP : b.pkP ⟨src, dst, data⟩ = false := decide_eq_false (fun h => by rw [hu.out, hns.out] at h; omega)
        refine wp_region_headsM (C := fun w' => ∃ x : Later W, w' = x.w) [0, 1, 2, 3, 4, 5, 6, 7, 8, 9, 10, 11, 12, 13, 14, 15, 16, 17, 18, 19, 20, 21, 22, 23, 24, 25, 26, 27, 28, 29, 30, 31, 32, 33, 34, 35, 36] (by kernel_rfl) (by kernel_rfl) (Later.mk' hd) (fun _ _ h => h) ?_
        simp only [headOps, List.filterMap_cons, List.filterMap_nil, List.getElem?_toArray, List.getElem?_cons_succ, List.getElem?_cons_zero]
        repeat (first | go_big_quiet_skip | (show wpQuiet _ _ _ _ (_ :: _) _; go_big_quiet_skip) | (show wpQuiet _ _ _ _ (_ :: _) _; go_big_quiet_want; go_big_quiet_op; go_big_quiet_on))
        refine wpQuiet_nil ?_
        clear u0 v0 v1 v2
        refine anyC_skipD (some 63) (n := 2) (i := 37) (by kernel_rfl) rfl rfl rfl (Later.mk' hd) ?_
        simp only [Act.put, List.setIfInBounds_toArray, List.set_cons_zero, List.set_cons_succ]
        refine anyC_heads (by kernel_rfl) 0 W.drew (Later.mk' hd) [38, 39] _ _ (by kernel_rfl) ?_
        simp only [headOps, List.filterMap_cons, List.filterMap_nil, List.getElem?_toArray, List.getElem?_cons_succ, List.getElem?_cons_zero]
        repeat (first | go_big_quiet_skip | (show wpQuiet _ _ _ _ (_ :: _) _; go_big_quiet_skip) | (show wpQuiet _ _ _ _ (_ :: _) _; go_big_quiet_want; go_big_quiet_op; go_big_quiet_on))
        refine wpQuiet_nil ?_
        refine anyC_done (by kernel_rfl) (Later.mk' hd) ?_
        go_wp2_with fail
        go_meet
        exact ⟨by rw [hP]; rfl, hd⟩
      have e2 : decide ((ns : Int) ≤ u) = false := decide_eq_false h1
      by_cases h2 : src = 0
      rotate_left
      · have e3 : (src != 0) = true := by simp [h2]
        have hP : b.pkP ⟨src, dst, data⟩ = false := decide_eq_false (fun h => by exact h2 h.2.2.1)
        refine wp_region_headsM (C := fun w' => ∃ x : Later W, w' = x.w) [0, 1, 2, 3, 4, 5, 6, 7, 8, 9, 10, 11, 12, 13, 14, 15, 16, 17, 18, 19, 20, 21, 22, 23, 24, 25, 26, 27, 28, 29, 30, 31, 32, 33, 34, 35, 36] (by kernel_rfl) (by kernel_rfl) (Later.mk' hd) (fun _ _ h => h) ?_
        simp only [headOps, List.filterMap_cons, List.filterMap_nil, List.getElem?_toArray, List.getElem?_cons_succ, List.getElem?_cons_zero]
        repeat (first | go_big_quiet_skip | (show wpQuiet _ _ _ _ (_ :: _) _; go_big_quiet_skip) | (show wpQuiet _ _ _ _ (_ :: _) _; go_big_quiet_want; go_big_quiet_op; go_big_quiet_on))
        refine wpQuiet_nil ?_
        clear u0 v0 v1 v2
        refine anyC_skipD (some 63) (n := 2) (i := 37) (by kernel_rfl) rfl rfl rfl (Later.mk' hd) ?_
        simp only [Act.put, List.setIfInBounds_toArray, List.set_cons_zero, List.set_cons_succ]
        refine anyC_heads (by kernel_rfl) 0 W.drew (Later.mk' hd) [38, 39] _ _ (by kernel_rfl) ?_
        simp only [headOps, List.filterMap_cons, List.filterMap_nil, List.getElem?_toArray, List.getElem?_cons_succ, List.getElem?_cons_zero]
        repeat (first | go_big_quiet_skip | (show wpQuiet _ _ _ _ (_ :: _) _; go_big_quiet_skip) | (show wpQuiet _ _ _ _ (_ :: _) _; go_big_quiet_want; go_big_quiet_op; go_big_quiet_on))
        refine wpQuiet_nil ?_
        refine anyC_done (by kernel_rfl) (Later.mk' hd) ?_
        go_wp2_with fail
        go_meet
        exact ⟨by rw [hP]; rfl, hd⟩
      subst h2
      obtain ⟨j, rfl⟩ : ∃ j : Nat, u = (j : Int) := ⟨u.toNat, by omega⟩
      have hjl : j < b.sent.length := by rw [hns.out]; omega
      obtain ⟨bs, os, rfl, hbs, hc9⟩ := hx.out.sent.lk (by omega)
      obtain ⟨s0, s1⟩ := hc9 j hjl
      have hsa := sent_at HVP.out.2 (n := (j : Int)) (by omega) (by rw [hns.out]; omega)
      have hat : b.at (j : Int) = b.sent.getD j (0, 0) := by rw [Bx.at, Int.toNat_natCast]
      have hlist := of_decide_eq_true HVP.out.1
      rw [hat, hn.out] at hsa
      rw [hn.out] at hlist
      have HAT := Lib.hid hat
      clear hc9 hat
      replace s0 := (hB.cell hbs).trans s0
      replace s1 := (hB.cell hbs).trans s1
      have hsz := Nat.lt_of_lt_of_le hbs hB.size
      obtain ⟨m, hm⟩ : ∃ m, b.sent.getD j (0, 0) = m := ⟨_, rfl⟩
      rw [hm] at s0 s1 hsa
      have HM := Lib.hid hm
      clear hm
      obtain ⟨m1, m2⟩ := m
      dsimp only at s0 s1 hsa
      have w0 : ∀ z : Later W, z.w.cell? ⟨bs, os + j * 2, none⟩ = some (.int .i64 m1) := Later.cell s0 hsz
      have w1' : ∀ z : Later W, z.w.cell? ⟨bs, os + j * 2 + 1, none⟩ = some (.int .i64 m2) := Later.cell s1 hsz
      have hw1 : IntKind.i64.wrap (m1 + 1) = m1 + 1 := wrapO (by omega) (by omega)
      have hw2 : wrap64 (m1 + 1) = m1 + 1 := by unfold wrap64; omega
      have hj3 : (j : Int) < (ns : Int) := by omega
      clear s0 s1
      by_cases h3 : dst = m1 + 1
      rotate_left
      · have e4 : (dst != m1 + 1) = true := by simp [h3]
        have hP : b.pkP ⟨0, dst, data⟩ = false := decide_eq_false (fun h => by rw [hu.out, HAT.out, HM.out] at h; exact h3 h.2.2.2.1)
        refine wp_region_headsM (C := fun w' => ∃ x : Later W, w' = x.w) [0, 1, 2, 3, 4, 5, 6, 7, 8, 9, 10, 11, 12, 13, 14, 15, 16, 17, 18, 19, 20, 21, 22, 23, 24, 25, 26, 27, 28, 29, 30, 31, 32, 33, 34, 35, 36] (by kernel_rfl) (by kernel_rfl) (Later.mk' hd) (fun _ _ h => h) ?_
        simp only [headOps, List.filterMap_cons, List.filterMap_nil, List.getElem?_toArray, List.getElem?_cons_succ, List.getElem?_cons_zero]
        repeat (first | go_big_quiet_skip | (show wpQuiet _ _ _ _ (_ :: _) _; go_big_quiet_skip) | (show wpQuiet _ _ _ _ (_ :: _) _; go_big_quiet_want; go_big_quiet_op; go_big_quiet_on))
        refine wpQuiet_nil ?_
        clear u0 v0 v1 v2 w0 w1'
        refine anyC_skipD (some 63) (n := 2) (i := 37) (by kernel_rfl) rfl rfl rfl (Later.mk' hd) ?_
        simp only [Act.put, List.setIfInBounds_toArray, List.set_cons_zero, List.set_cons_succ]
        refine anyC_heads (by kernel_rfl) 0 W.drew (Later.mk' hd) [38, 39] _ _ (by kernel_rfl) ?_
        simp only [headOps, List.filterMap_cons, List.filterMap_nil, List.getElem?_toArray, List.getElem?_cons_succ, List.getElem?_cons_zero]
        repeat (first | go_big_quiet_skip | (show wpQuiet _ _ _ _ (_ :: _) _; go_big_quiet_skip) | (show wpQuiet _ _ _ _ (_ :: _) _; go_big_quiet_want; go_big_quiet_op; go_big_quiet_on))
        refine wpQuiet_nil ?_
        refine anyC_done (by kernel_rfl) (Later.mk' hd) ?_
        go_wp2_with fail
        go_meet
        exact ⟨by rw [hP]; rfl, hd⟩
      subst h3
      have e4 : ((m1 + 1 : Int) != m1 + 1) = false := by simp
      obtain ⟨tx, htx⟩ : ∃ tx, Hid (msgB (j : Int) m2 = tx) := ⟨_, Lib.hid rfl⟩
      have hcv : ∀ z : Later W, (convert 43 9 (.slice Ad dl cd)).run Try.prog z.w = .ok (.string (strB data)) z.w := fun z => take_str (bs_of ((HD.out.below (hB.trans (z.below.mono hB.size))).more (Nat.le_trans hB.size z.below.size)))
      have hmsg := oMessage_is (n := (j : Int)) (o := m2) ⟨by omega, by omega⟩ ⟨by omega, by omega⟩ htx W.drew
      obtain ⟨t, ht⟩ : ∃ t, decide (data = tx) = t := ⟨_, rfl⟩
      have e5 : ((strB data).toList == (strB tx).toList) = t := by
        rw [← ht, Bool.eq_iff_iff, ByteArray.toList_eq, ByteArray.toList_eq]
        simp [strB]
      have e6 : decide (strB data = strB tx) = t := by rw [← ht]; exact decide_eq_decide.2 strB_inj
      have hP : b.pkP ⟨0, m1 + 1, data⟩ = t := by
        unfold Bx.pkP
        rw [hu.out, HAT.out, HM.out, htx.out, ← ht]
        refine decide_eq_decide.2 ⟨fun h => h.2.2.2.2, fun h => ⟨by omega, by rw [hns.out]; omega, rfl, rfl, h⟩⟩
      clear ht
      generalize strB data = q1 at hcv e5 e6
      generalize strB tx = q2 at hmsg e5 e6
      refine wp_region_headsM (C := fun w' => ∃ x : Later W, w' = x.w) [0, 1, 2, 3, 4, 5, 6, 7, 8, 9, 10, 11, 12, 13, 14, 15, 16, 17, 18, 19, 20, 21, 22, 23, 24, 25, 26, 27, 28, 29, 30, 31, 32, 33, 34, 35, 36] (by kernel_rfl) (by kernel_rfl) (Later.mk' hd) (fun _ _ h => h) ?_
      simp only [headOps, List.filterMap_cons, List.filterMap_nil, List.getElem?_toArray, List.getElem?_cons_succ, List.getElem?_cons_zero]
      repeat (first | go_big_quiet_skip | (show wpQuiet _ _ _ _ (_ :: _) _; go_big_quiet_skip) | (show wpQuiet _ _ _ _ (_ :: _) _; go_big_quiet_want; go_big_quiet_op; go_big_quiet_on))
      refine wpQuiet_nil ?_
      clear u0 v0 v1 v2 w0 w1' hcv
      refine anyC_callD (some 63) (n := 2) (i := 37) (by kernel_rfl) rfl rfl rfl (Later.mk' hd) ?_ (hmsg.mono ?_)
      · go_simp
      rintro e W2 ⟨rfl, hW2⟩
      refine ⟨_, rfl, ?_⟩
      simp only [Act.put, List.setIfInBounds_toArray, List.set_cons_zero, List.set_cons_succ]
      have hW2 := hd.trans hW2
      refine anyC_heads (by kernel_rfl) 0 W2 (Later.mk' hW2) [38, 39] _ _ (by kernel_rfl) ?_
      simp only [headOps, List.filterMap_cons, List.filterMap_nil, List.getElem?_toArray, List.getElem?_cons_succ, List.getElem?_cons_zero]
      repeat (first | go_big_quiet_skip | (show wpQuiet _ _ _ _ (_ :: _) _; go_big_quiet_skip) | (show wpQuiet _ _ _ _ (_ :: _) _; go_big_quiet_want; go_big_quiet_op; go_big_quiet_on))
      refine wpQuiet_nil ?_
      refine anyC_done (by kernel_rfl) (Later.mk' hW2) ?_
      go_wp2_with fail
      go_meet
      exact ⟨by rw [hP], hW2⟩
    case rest =>
      obtain ⟨rfl, hb⟩ := hcut
      have hB := hB.trans (hb.mono hB.size)
      have X1 := X1.later hb
      generalize b.pkP ⟨src, dst, data⟩ = t at HBAD HGOOD
      cases t with
      | false =>
        obtain rfl : T = 340 := HBAD.out rfl
        go_wp2
        go_ret
        exact ⟨rfl, hB⟩
      | true =>
        have hg := Lib.hid (HGOOD.out rfl)
        go_wp2
        exact ⟨⟨k + 1, by omega, by go_num, hB, X1, hg⟩, by simp [intOf]; omega⟩
end Go.Proofs.Ytmbifmmkccghfaa

/-
  Contract of Check of the reference. (Printed by pp.py.) No condition.
-/
namespace Go.Proofs.Ytmbifmmkccghfaa
open Go.RowKit

end Go.Proofs.Ytmbifmmkccghfaa

/-
  Contract of Check of the reference, joined. (Printed by pp.py.) No condition.
-/
namespace Go.Proofs.Ytmbifmmkccghfaa
open Go.RowKit

end Go.Proofs.Ytmbifmmkccghfaa

/-
  Rows of numbers that orders builds; Check of both by name; what functions that return a box promise. No condition.
-/
namespace Go.Proofs.Ytmbifmmkccghfaa
open Go.RowKit

theorem oElemI : ∃ i, Elem 27 3 i (.int .i64 0) 1 8 := by
  obtain ⟨i, h1, h2, h3, h4⟩ := info_parts (show (Try.prog.info? 3).map (fun i => (i.zero, i.size, i.bytes)) = some (some (.int .i64 0), 1, 8) by kernel_rfl)
  exact ⟨i, Try.underlying27, h1, h2, h3, h4, by decide, by decide⟩
abbrev oEncI (n : Int) : List Value := [.int .i64 n]
abbrev OwnHd (w : World) (base : Nat) (V : Value) (l : List Int) : Prop := OwnE oEncI 1 w base 3 V l
theorem oOneI (n : Int) : ∀ u ∈ oEncI n, u.oneCell' = true := by
  intro u hu
  obtain rfl := List.mem_singleton.1 hu
  rfl
theorem ownE_cap {α : Type} {enc : α → List Value} {size base e : Nat} {w : World} {V : Value} {l : List α} (h : OwnE enc size w base e V l) : SlF V := by
  rcases h.2 with ⟨hv, _⟩ | ⟨g, cap, cur, hv, hb, hg, hcap, hcm, _⟩
  · exact .inl hv
  · exact .inr ⟨_, _, _, hv, hcap, hcm⟩
theorem OwnHd.hd {w : World} {base : Nat} {V : Value} {l : List Int} (h : OwnHd w base V l) (hl : l.length ≤ maxLen) : HdAt w w.heap.size V l := by
  refine ⟨ownE_cap h, ?_⟩
  obtain ⟨A, c, hv, hc⟩ := OwnE.sl h (fun _ => rfl)
  refine ⟨A, c, hv, hl, fun k hk => ?_⟩
  obtain ⟨b, rfl, _, hb, h2⟩ := hc k hk
  refine ⟨b, 0, rfl, hb, fun j hj => ?_⟩
  obtain rfl : j = 0 := by omega
  rw [Nat.zero_add, h2 0 (by omega)]
  simp [oEncI, hk]
theorem oMade (v : Value) (h : v.cells = #[v]) (n : Nat) : madeCells v.cells (n * 1) = (List.replicate n v).toArray := by
  rw [h, madeCells]
  apply Array.ext'
  apply List.ext_getElem?
  intro i
  rcases Nat.lt_or_ge i n with hi | hi
  · simp [hi, Nat.mod_one]
  · simp [hi]
theorem oMakeB (n : Nat) (hn : n ≤ 1024) (w : World) : (Instr.makeSlice 28 (.int .i64 (n : Int)) (.int .i64 (n : Int))).run Try.prog w = .ok (.slice (some ⟨w.heap.size, 0, none⟩) n n) (w.alloc (.cells (List.replicate n (Value.bool false)).toArray 4)) := by
  obtain ⟨i, h1, h2, h3, h4⟩ := info_parts (show (Try.prog.info? 4).map (fun i => (i.zero, i.size, i.bytes)) = some (some (.bool false), 1, 1) by kernel_rfl)
  have := run_makeSlice (P := Try.prog) w 28 4 i (.bool false) Try.underlying28 h1 h2 .i64 .i64 n n (by omega) (Int.le_refl _) (by rw [h3]; simp; omega) (by rw [h4]; omega) (by omega)
  rw [h3] at this
  simp only [Int.toNat_natCast] at this
  rw [this, oMade _ rfl]
theorem oMakeI (n : Nat) (hn : n ≤ 1024) (w : World) : (Instr.makeSlice 27 (.int .i64 (n : Int)) (.int .i64 (n : Int))).run Try.prog w = .ok (.slice (some ⟨w.heap.size, 0, none⟩) n n) (w.alloc (.cells (List.replicate n (Value.int .i64 0)).toArray 3)) := by
  obtain ⟨i, h1, h2, h3, h4⟩ := info_parts (show (Try.prog.info? 3).map (fun i => (i.zero, i.size, i.bytes)) = some (some (.int .i64 0), 1, 8) by kernel_rfl)
  have := run_makeSlice (P := Try.prog) w 27 3 i (.int .i64 0) Try.underlying27 h1 h2 .i64 .i64 n n (by omega) (Int.le_refl _) (by rw [h3]; simp; omega) (by rw [h4]; omega) (by omega)
  rw [h3] at this
  simp only [Int.toNat_natCast] at this
  rw [this, oMade _ rfl]
theorem box_fr {w : World} {K : Nat} {l : List Bool} (h : Box w K (l.map Value.bool)) (hm : l.length ≤ maxLen) : FrAt w w.heap.size (.slice (some ⟨K, 0, none⟩) l.length l.length) l := by
  refine ⟨.inr ⟨_, _, _, rfl, Nat.le_refl _, hm⟩, _, _, rfl, hm, fun i hi => ⟨K, 0, rfl, h.lt, fun j hj => ?_⟩⟩
  obtain rfl : j = 0 := by omega
  rw [Nat.zero_add, Nat.mul_one, Nat.add_zero, h.cell, List.getElem?_map, List.getElem?_eq_getElem hi]
  dsimp only
  rw [gd_at hi]
  rfl
theorem box_hd {w : World} {K : Nat} {l : List Int} (h : Box w K (l.map (Value.int .i64))) (hm : l.length ≤ maxLen) : HdAt w w.heap.size (.slice (some ⟨K, 0, none⟩) l.length l.length) l := by
  refine ⟨.inr ⟨_, _, _, rfl, Nat.le_refl _, hm⟩, _, _, rfl, hm, fun i hi => ⟨K, 0, rfl, h.lt, fun j hj => ?_⟩⟩
  obtain rfl : j = 0 := by omega
  rw [Nat.zero_add, Nat.mul_one, Nat.add_zero, h.cell, List.getElem?_map, List.getElem?_eq_getElem hi]
  dsimp only
  rw [gd_at hi]
  rfl
theorem BxAt.forms {w : World} {B : Nat} {Vq Va Vs Vh Vf : Value} {b : Bx} (h : BxAt w B Vq Va Vs Vh Vf b) : ∃ Aq cq Aa ca As cs Ah ch Af cf, Vq = .slice Aq b.net.queue.length cq ∧ Va = .slice Aa b.net.apart.length ca ∧ Vs = .slice As b.sent.length cs ∧ Vh = .slice Ah b.heard.length ch ∧ Vf = .slice Af b.fresh.length cf ∧
    b.net.queue.length ≤ 9223372036854775807 ∧ b.sent.length ≤ 9223372036854775807 ∧ b.heard.length ≤ 9223372036854775807 ∧ b.fresh.length ≤ 9223372036854775807 := by
  obtain ⟨Aq, cq, h1, m1⟩ := h.net.queue.form
  obtain ⟨Aa, ca, h2, _⟩ := h.net.apart.form
  obtain ⟨As, cs, h3, m3⟩ := h.sent.form
  obtain ⟨Ah, ch, h4, m4⟩ := h.heard.2.form3
  obtain ⟨Af, cf, h5, m5⟩ := h.fresh.2.form3
  unfold maxLen at m1 m3 m4 m5
  exact ⟨Aq, cq, Aa, ca, As, cs, Ah, ch, Af, cf, h1, h2, h3, h4, h5, by omega, by omega, by omega, by omega⟩
theorem oCheck_is {b : Bx} {Vq Va Vs Vh Vf : Value} {w : World} {T : Int} (hT : Hid (b.checkT = T)) (hx : BxAt w w.heap.size Vq Va Vs Vh Vf b) :
    Calls Try.prog 15 #[.agg #[Vq, Va, Vs, Vh, Vf]] w fun e w' => e = .returned (.int .i64 T) ∧ Below w.heap.size w w' := by
  obtain ⟨Aq, cq, Aa, ca, As, cs, Ah, ch, Af, cf, rfl, rfl, rfl, rfl, rfl, m1, m2, m3, m4⟩ := hx.forms
  exact oCheck_any b Aq Aa As Ah Af _ cq _ ca _ cs _ ch _ cf w hT (Lib.hid hx) (Lib.hid rfl) (Lib.hid rfl) (Lib.hid rfl) (Lib.hid rfl) (Lib.hid rfl) m2 m3 m4 m1
def RetBx (t : Bx) (rest : Array Value) (w : World) (e : Ending) (w' : World) : Prop := ∃ Vq Va Vs Vh Vf, e = .returned (.tuple (#[.agg #[Vq, Va, Vs, Vh, Vf]] ++ rest)) ∧ BxAt w' w'.heap.size Vq Va Vs Vh Vf t ∧ Below w.heap.size w w'
end Go.Proofs.Ytmbifmmkccghfaa
