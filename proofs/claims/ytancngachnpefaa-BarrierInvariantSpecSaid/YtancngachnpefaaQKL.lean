/- Drawn regions whose last operation is a store that waits for all others: the readers are taken first, and what is read may be what is stored. No condition. -/
import Derived.Test.YtancngachnpefaaQMF
set_option linter.unusedVariables false
set_option linter.unusedSimpArgs false
namespace Go.Proofs.Ytancngachnpefaa
open Go.RowKit
section
variable {P : Program} {ops : Array Oper} {md : Region.Mode} {N : Act → World → Prop} {C : World → Prop} {l₀ m : Nat}
theorem getD_tf {listed : Array Bool} {k : Nat} (h : listed.getD k true = false) : listed.getD k false = false := by
  rw [Array.getD_eq_getD_getElem?] at h ⊢
  cases hk : listed[k]? with
  | none => rfl
  | some b => rw [hk] at h; exact h
def Closed (md : Region.Mode) (ops : Array Oper) (listed : Array Bool) : Prop := ∀ (k : Nat) (o : Oper), ops[k]? = some o → listed.getD k false = true → ∀ e ∈ o.after, Region.binds md e = true → listed.getD e.on false = true
theorem closed_set {listed : Array Bool} {j : Nat} (h : Closed md ops listed) (hj : j ∈ Region.ready md ops listed) : Closed md ops (listed.setIfInBounds j true) := by
  obtain ⟨_, oj, hoj, hall⟩ := mem_ready.1 hj
  intro k o hk hl e he hb
  by_cases hkj : k = j
  · subst hkj
    rw [hoj] at hk
    cases hk
    exact getD_set_true (hall e he hb)
  · rw [getD_set_ne false (Ne.symm hkj)] at hl
    exact getD_set_true (h k o hk hl e he hb)
def awaited (md : Region.Mode) (ops : Array Oper) (z : Nat) : Bool :=
  (List.range z).all fun k => (List.range (z + 1)).any fun d => decide (k < d) && (match ops[d]? with | some o => !(o.after.all fun e => !Region.binds md e || e.on != k) | none => false)
theorem all_listed {z : Nat} {listed : Array Bool} (hA : awaited md ops z = true) (hc : Closed md ops listed) (hz : z ∈ Region.ready md ops listed) : ∀ k, k < z → listed.getD k false = true := by
  obtain ⟨_, oz, hoz, hall⟩ := mem_ready.1 hz
  have key : ∀ m, ∀ k, k < z → z - k ≤ m → listed.getD k false = true := by
    intro m
    induction m with
    | zero => intro k hk hm; omega
    | succ m ih =>
      intro k hk hm
      have h1 := List.all_eq_true.1 hA k (List.mem_range.2 hk)
      obtain ⟨d, hd, h2⟩ := List.any_eq_true.1 h1
      have hd := List.mem_range.1 hd
      rw [Bool.and_eq_true, decide_eq_true_eq] at h2
      obtain ⟨hkd, h3⟩ := h2
      cases ho : ops[d]? with
      | none => rw [ho] at h3; cases h3
      | some o =>
        rw [ho] at h3
        dsimp only at h3
        refine Decidable.byContradiction fun hn => ?_
        have h4 : (o.after.all fun e => !Region.binds md e || e.on != k) = true := by
          refine Array.all_eq_true_iff_forall_mem.2 fun e he => ?_
          by_cases hb : Region.binds md e = true
          · have h5 : listed.getD e.on false = true := by
              by_cases hdz : d = z
              · subst hdz
                rw [hoz] at ho
                cases ho
                exact hall e he hb
              · exact hc d o ho (ih d (by omega) (by omega)) e he hb
            have h6 : e.on ≠ k := fun h => hn (h ▸ h5)
            simp [h6]
          · simp [hb]
        rw [h4] at h3
        cases h3
  exact fun k hk => key (z - k) k hk (Nat.le_refl _)
end
theorem closed_none {md : Region.Mode} {ops : Array Oper} {n : Nat} : Closed md ops (Array.replicate n false) := by
  intro k o _ hl
  rw [Array.getD_eq_getD_getElem?, Array.getElem?_replicate] at hl
  split at hl <;> cases hl
end Go.Proofs.Ytancngachnpefaa
namespace Go.Proofs.Ytancngachnpefaa
open Go.RowKit
section
variable {P : Program} {ops : Array Oper} {md : Region.Mode} {N : Act → World → Prop} {C : World → Prop}
def anyG (P : Program) (md : Region.Mode) (ops : Array Oper) (N : Act → World → Prop) (C : World → Prop) (z : Nat) : Nat → Array Bool → Act → World → Prop
  | 0, listed, a, w => listed.getD z false = true ∧ Region.ready md ops listed = [] ∧ N a w
  | n + 1, listed, a, w => (listed.getD z true = false → C w) ∧ (Region.ready md ops listed = [] → N a w) ∧ ∀ i ∈ Region.ready md ops listed, wpOp P ops (Nrm N) i (anyG P md ops N C z n (listed.setIfInBounds i true)) a w
theorem anyG_any {z : Nat} {Q : Exit → Act → World → Prop} (hN : ∀ a w, N a w → Q .normal a w) : ∀ {n : Nat} {listed : Array Bool} {a : Act} {w : World}, anyG P md ops N C z n listed a w → wpAny P md ops Q n listed a w
  | 0, _, _, _, h => ⟨h.2.1, hN _ _ h.2.2⟩
  | n + 1, listed, a, w, h => ⟨fun h0 => hN _ _ (h.2.1 h0), fun i hi => by
      obtain ⟨_, o, ho, _⟩ := mem_ready.1 hi
      exact wpOp_go ho rfl rfl rfl (h.2.2 i hi) fun _ _ _ hk => anyG_any hN hk⟩
theorem anyG_first {z i : Nat} {oi : Oper} {v : Value} (hA : awaited md ops z = true) (hi : ops[i]? = some oi) (hiz : i < z) (hsel : ∀ (j : Nat) (o : Oper) cs b, ops[j]? = some o → o.op ≠ .select cs b) :
    ∀ (n : Nat) (listed : Array Bool) (a : Act) (w : World), Closed md ops listed → listed.getD z true = false →
      (∀ j oj, ops[j]? = some oj → j ≠ i → listed.getD j true = false → (∀ e ∈ oj.after, Region.binds md e = true → e.on ≠ i) → oi.apart ops oj = true) →
      i ∈ Region.ready md ops listed → YieldsC P ops C oi v a → C w →
      anyG P md ops N C z n (listed.setIfInBounds i true) (a.put oi.dst v) w → anyG P md ops N C z (n + 1) listed a w
  | n, listed, a, w, hc, hz, hfree, hr, hy, hC, H => by
    refine ⟨fun _ => hC, fun h => (by rw [h] at hr; cases hr), fun j hj => ?_⟩
    by_cases hji : j = i
    · subst hji; exact hy.wpOp hi hC H
    · have hjz : j ≠ z := by
        rintro rfl
        have h1 := all_listed hA hc hj i hiz
        rw [getD_tf (mem_ready.1 hr).1] at h1
        cases h1
      have hjr := ready_mono (i := i) hj hji
      match n, H with
      | 0, H =>
        rw [H.2.1] at hjr
        cases hjr
      | n + 1, H =>
        obtain ⟨hjun, oj, hoj, hall⟩ := mem_ready.1 hj
        have hiun := (mem_ready.1 hr).1
        have hnot : ∀ e ∈ oj.after, Region.binds md e = true → e.on ≠ i := fun e he hb heq => by
          have h1 := hall e he hb
          rw [heq] at h1
          rw [getD_tf hiun] at h1
          cases h1
        obtain ⟨h1, h2, h3⟩ := Oper.apart_spec (hfree j oj hoj hji hjun hnot)
        refine wpOp_go hoj (execOp_put oj (fun cs b => hsel j oj cs b hoj) a oi.dst v h1) (wanted_put oj a oi.dst v h1) (by cases oi.dst <;> rfl) (H.2.2 j hjr) fun u D w' hk => ?_
        have hzj : (listed.setIfInBounds j true).getD z true = false := by rw [getD_set_ne true hjz]; exact hz
        have hCw : C w' := by
          cases n with
          | zero =>
            have h4 := hk.1
            rw [getD_set_ne false hjz, getD_set_ne false (by omega), getD_tf hz] at h4
            cases h4
          | succ n => exact hk.1 (by rw [getD_set_ne true hjz, getD_set_ne true (by omega)]; exact hz)
        refine anyG_first (v := v) hA hi hiz hsel n _ _ _ (closed_set hc hj) hzj (fun k ok hk hki hun hno => hfree k ok hk hki ?_ hno) (ready_mono hr (Ne.symm hji)) ?_ hCw ?_
        · by_cases hjk : j = k
          · subst hjk; exact hjun
          · rw [getD_set_ne true hjk] at hun; exact hun
        · have e1 : execOp (Act.put { a with defers := D } oj.dst u).eval oi = execOp a.eval oi := execOp_put oi (fun cs b => hsel i oi cs b hi) { a with defers := D } oj.dst u h3
          have e2 := wanted_put oi { a with defers := D } oj.dst u h3
          rcases hy with ⟨y1, y2⟩ | ⟨y1, y2⟩
          · exact .inl ⟨e2.trans y1, fun w hw => by rw [e1]; exact y2 w hw⟩
          · exact .inr ⟨e2.trans y1, y2⟩
        · rw [Array.setIfInBounds_comm _ _ hji]
          have e3 : ({ a.put oi.dst v with defers := D } : Act) = Act.put { a with defers := D } oi.dst v := by cases oi.dst <;> rfl
          rw [e3, Act.put_comm _ v u h2] at hk
          exact hk
theorem anyG_heads {z : Nat} (hA : awaited md ops z = true) (hs : Region.noSelect ops = true) (n : Nat) (w : World) (hC : C w) : ∀ (ks : List Nat) (listed : Array Bool) (a : Act), Closed md ops listed → listed.getD z true = false → ks.all (fun k => decide (k < z)) = true →
    headsN md ops ks listed = true → wpQuiet P ops C (fun a' => anyG P md ops N C z n (headsL ks listed) a' w) (headOps ops ks) a → anyG P md ops N C z (n + ks.length) listed a w
  | [], _, _, _, _, _, _, h => h
  | k :: ks, listed, a, hc, hz, hlt, hB, h => by
    cases h0 : ops[k]? with
    | none => simp [headsN, h0] at hB
    | some o =>
    simp only [headsN, Bool.and_eq_true, h0] at hB
    obtain ⟨hr, hf, hv, hB⟩ := hB
    rw [List.all_cons, Bool.and_eq_true, decide_eq_true_eq] at hlt
    have hr' : k ∈ Region.ready md ops listed := by simpa using hr
    have hc' := closed_set hc hr'
    have hz' : (listed.setIfInBounds k true).getD z true = false := by rw [getD_set_ne true (by omega)]; exact hz
    rw [headOps, List.filterMap_cons, h0] at h
    unfold wpQuiet at h
    by_cases hw : Region.wanted o (yielded ops a.tmps) = true
    · rw [if_pos hw] at h
      obtain ⟨v, h1, h2⟩ := h
      exact anyG_first hA h0 hlt.1 (Region.noSelect_spec hs) (n + ks.length) listed a w hc hz (Region.free_spec h0 hf) hr' (yieldsN_of hv hw h1) hC (anyG_heads hA hs n w hC ks _ _ hc' hz' hlt.2 hB h2)
    · rw [if_neg hw] at h
      exact anyG_first hA h0 hlt.1 (Region.noSelect_spec hs) (n + ks.length) listed a w hc hz (Region.free_spec h0 hf) hr' (.inr ⟨by simpa using hw, rfl⟩) hC (anyG_heads hA hs n w hC ks _ _ hc' hz' hlt.2 hB h)
theorem anyG_val {z n i : Nat} {o : Oper} {v : Value} {listed : Array Bool} {a : Act} {w w' : World} (d : Option Tmp) (hr : Region.ready md ops listed = [i]) (hi : ops[i]? = some o) (hd : o.dst = d) (hw : Region.wanted o (yielded ops a.tmps) = true) (hC : listed.getD z true = false → C w)
    (hrun : (execOp a.eval o).run P w = .ok (.value v) w') (h : anyG P md ops N C z n (listed.setIfInBounds i true) (a.put d v) w') : anyG P md ops N C z (n + 1) listed a w := by
  subst hd
  refine ⟨hC, fun h0 => (by rw [h0] at hr; cases hr), fun j hj => ?_⟩
  rw [hr] at hj
  obtain rfl : j = i := by simpa using hj
  unfold wpOp
  simp only [hi, hw, if_true]
  refine .inl ?_
  unfold Oper.wp
  rw [hrun]
  exact h
theorem anyG_store {z n i : Nat} {o : Oper} {listed : Array Bool} {a : Act} {w w' : World} (hr : Region.ready md ops listed = [i]) (hi : ops[i]? = some o) (hd : o.dst = none) (hw : Region.wanted o (yielded ops a.tmps) = true) (hC : listed.getD z true = false → C w)
    (hrun : (execOp a.eval o).run P w = .ok .skip w') (h : anyG P md ops N C z n (listed.setIfInBounds i true) a w') : anyG P md ops N C z (n + 1) listed a w := by
  refine ⟨hC, fun h0 => (by rw [h0] at hr; cases hr), fun j hj => ?_⟩
  rw [hr] at hj
  obtain rfl : j = i := by simpa using hj
  unfold wpOp
  simp only [hi, hw, if_true]
  refine .inl ?_
  unfold Oper.wp
  rw [hrun]
  show anyG P md ops N C z n _ (a.put o.dst undef) w'
  rw [hd]
  exact h
theorem anyG_two {z n i j : Nat} {listed : Array Bool} {a : Act} {w : World} (hr : Region.ready md ops listed = [i, j]) (hC : listed.getD z true = false → C w)
    (h1 : wpOp P ops (Nrm N) i (anyG P md ops N C z n (listed.setIfInBounds i true)) a w) (h2 : wpOp P ops (Nrm N) j (anyG P md ops N C z n (listed.setIfInBounds j true)) a w) : anyG P md ops N C z (n + 1) listed a w := by
  refine ⟨hC, fun h0 => (by rw [h0] at hr; cases hr), fun k hk => ?_⟩
  rw [hr] at hk
  simp only [List.mem_cons, List.not_mem_nil, or_false] at hk
  rcases hk with rfl | rfl
  · exact h1
  · exact h2
theorem anyG_done {z : Nat} {listed : Array Bool} {a : Act} {w : World} (hr : Region.ready md ops listed = []) (hz : listed.getD z false = true) (h : N a w) : anyG P md ops N C z 0 listed a w := ⟨hz, hr, h⟩
end
theorem wp_region_upto {P : Program} {N : Act → World → Prop} {C : World → Prop} {Q : Exit → Act → World → Prop} {id : Nat} {a : Act} {w : World} {l : List Oper} (z : Nat) (ks : List Nat) (hm : P.follows .mixedOrders = true)
    (hB : ((Region.noSelect l.toArray && (decide (ks.length ≤ l.length) && headsN .any l.toArray ks (Array.replicate l.length false))) && ((awaited .any l.toArray z && decide (z < l.length)) && ks.all (fun k => decide (k < z)))) = true) (hC : C w.drew) (hN : ∀ a w, N a w → Q .normal a w)
    (h : wpQuiet P l.toArray C (fun a' => anyG P .any l.toArray N C z (l.length - ks.length) (headsL ks (Array.replicate l.length false)) a' w.drew) (headOps l.toArray ks) a) : (Code.region id l.toArray true).wp P Q a w := by
  simp only [Bool.and_eq_true] at hB
  obtain ⟨⟨hs, hn, hB⟩, ⟨hA, hp⟩, hlt⟩ := hB
  have hn := of_decide_eq_true hn
  have hp := of_decide_eq_true hp
  refine wp_region_any hm (anyG_any (C := C) (z := z) hN ?_)
  have hz0 : (Array.replicate l.length false).getD z true = false := by
    rw [Array.getD_eq_getD_getElem?, Array.getElem?_replicate, if_pos hp]
    rfl
  have := anyG_heads (P := P) (md := .any) (N := N) hA hs (l.length - ks.length) w.drew hC ks (Array.replicate l.length false) a closed_none hz0 hlt hB h
  rw [show l.length - ks.length + ks.length = l.length by omega] at this
  rw [List.size_toArray]
  exact this
end Go.Proofs.Ytancngachnpefaa
namespace Go.Proofs.Ytancngachnpefaa
open Go.RowKit
section
variable {P : Program} {ops : Array Oper} {md : Region.Mode} {N : Act → World → Prop} {C : World → Prop} {l₀ m : Nat}
theorem anyG_in {z : Nat} {Q : Exit → Act → World → Prop} (hd : ∀ (i : Nat) o, ops[i]? = some o → noDef o = true) (hN : ∀ a w, N a w → Q .normal a w) : ∀ {n : Nat} {listed : Array Bool} {a : Act} {w : World}, anyG P md ops N C z n listed a w → wpAnyIn (Fence.wide.inRound l₀) m P md ops Q n listed a w
  | 0, _, _, _, h => ⟨h.2.1, hN _ _ h.2.2⟩
  | n + 1, listed, a, w, h => ⟨fun h0 => hN _ _ (h.2.1 h0), fun i hi => wpOpIn_round (hd i) (h.2.2 i hi) fun _ _ hk => anyG_in hd hN hk⟩
end
theorem wpIn_region_upto {P : Program} {N : Act → World → Prop} {C : World → Prop} {Q : Exit → Act → World → Prop} {id l₀ m : Nat} {a : Act} {w : World} {l : List Oper} (z : Nat) (ks : List Nat) (hm : P.follows .mixedOrders = true)
    (hB : (((l.all noDef && Region.noSelect l.toArray) && (decide (ks.length ≤ l.length) && headsN .any l.toArray ks (Array.replicate l.length false))) && ((awaited .any l.toArray z && decide (z < l.length)) && ks.all (fun k => decide (k < z)))) = true) (hC : C w.drew) (hN : ∀ a w, N a w → Q .normal a w)
    (h : wpQuiet P l.toArray C (fun a' => anyG P .any l.toArray N C z (l.length - ks.length) (headsL ks (Array.replicate l.length false)) a' w.drew) (headOps l.toArray ks) a) : (Code.region id l.toArray true).wpIn (Fence.wide.inRound l₀) m P Q a w := by
  simp only [Bool.and_eq_true] at hB
  obtain ⟨⟨⟨hd, hs⟩, hn, hB⟩, ⟨hA, hp⟩, hlt⟩ := hB
  have hn := of_decide_eq_true hn
  have hp := of_decide_eq_true hp
  have hd : ∀ (i : Nat) o, l.toArray[i]? = some o → noDef o = true := fun i o h => List.all_eq_true.1 hd o (List.mem_of_getElem? (by simpa using h))
  refine wpIn_region_any hm (anyG_in (C := C) (z := z) hd hN ?_)
  have hz0 : (Array.replicate l.length false).getD z true = false := by
    rw [Array.getD_eq_getD_getElem?, Array.getElem?_replicate, if_pos hp]
    rfl
  have := anyG_heads (P := P) (md := .any) (N := N) hA hs (l.length - ks.length) w.drew hC ks (Array.replicate l.length false) a closed_none hz0 hlt hB h
  rw [show l.length - ks.length + ks.length = l.length by omega] at this
  rw [List.size_toArray]
  exact this
structure HeldW (H : World → Prop) where
  w : World
  h : H w
theorem HeldW.mk' {H : World → Prop} {w : World} (h : H w) : ∃ x : HeldW H, w = x.w := ⟨⟨w, h⟩, rfl⟩
end Go.Proofs.Ytancngachnpefaa
