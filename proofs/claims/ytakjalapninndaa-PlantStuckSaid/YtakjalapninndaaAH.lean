/-
  Plain facts for laws 6 and 8 of chapter 32: programs with a line put ahead; runs of shocks. No condition.
-/
import Derived.Test.YtakjalapninndaaAC
namespace Go.Proofs.Ytakjalapninndaa
open Go.RowKit

/-- A line ahead of a program: never holds, or always. -/
theorem first_never (code : List Ln) (r : Vr) (n : Int) (h : 0 ≤ r.v0) : firstT (⟨[⟨0, 1, 0⟩], n⟩ :: code) r = firstT code r := by
  have e : (⟨[⟨0, 1, 0⟩], n⟩ : Ln).holdsB r = false := by
    have : ¬ r.v0 < 0 := by omega
    simp [Ln.holdsB, Cn.holdsB, Vr.at, this]
  rw [firstT, List.find?_cons_of_neg (by rw [e]; decide)]
  rfl
theorem first_always (code : List Ln) (r : Vr) (n : Int) : firstT (⟨[], n⟩ :: code) r = (n, true) := by
  rw [firstT, List.find?_cons_of_pos (by rfl)]
theorem gate_cons {code : List Ln} {l : Ln} (hl : l.okB = true) (hn : code.length ≤ 60) (h : gateB code = true) : gateB (l :: code) = true := by
  simp only [gateB, Bool.and_eq_true, decide_eq_true_eq, List.all_cons, List.length_cons] at h ⊢
  exact ⟨by omega, hl, h.2⟩
theorem gate_nil : gateB [] = true := rfl
theorem never_ok {n : Int} (h : 0 ≤ n ∧ n ≤ 255) : (⟨[⟨0, 1, 0⟩], n⟩ : Ln).okB = true := by
  simp [Ln.okB, Cn.okB]
  omega
theorem always_ok {n : Int} (h : 0 ≤ n ∧ n ≤ 255) : (⟨[], n⟩ : Ln).okB = true := by
  simp [Ln.okB]
  omega
theorem next_ok {p : Pl} {code : List Ln} {s : St} {x : Sh} {t : St} {o : Int} (h : nextT p code s x = (t, o, 0)) :
    p.checkT = 0 ∧ p.Valid ∧ gateB code = true ∧ p.hasB s = true ∧ chosenB p x = true ∧ t = stepT p code s x ∧ o = outT p code s x := by
  have hck : p.checkT = 0 := by
    by_cases hc : p.checkT = 0
    · exact hc
    · rw [nextT, if_neg hc] at h
      simp only [Prod.mk.injEq] at h
      exact absurd h.2.2 hc
  rcases next_error (p := p) (code := code) (s := s) (x := x) with ⟨er, h0, he⟩ | ⟨h1, h2, h3, h4, he⟩
  · rw [h] at he
    simp only [Prod.mk.injEq] at he
    exact absurd he.2.2.symm h0
  · rw [h] at he
    simp only [Prod.mk.injEq] at he
    exact ⟨hck, h1, h2, h3, h4, he.1, he.2.1⟩
theorem next_same {p : Pl} {code code' : List Ln} {s : St} {x : Sh} {t : St} {o : Int} (h : nextT p code s x = (t, o, 0)) (hg : gateB code' = true) (hf : firstT code' (varsT p s x) = firstT code (varsT p s x)) : nextT p code' s x = (t, o, 0) := by
  obtain ⟨h1, _, _, h4, h5, rfl, rfl⟩ := next_ok h
  have em : movedT p code' s x = movedT p code s x := by rw [movedT, movedT, hf]
  have eo : outT p code' s x = outT p code s x := by rw [outT, outT, em]
  rw [nextT, if_pos h1, if_pos (by rw [gateT, if_pos hg]), if_pos h4, if_pos h5, stepT, stepT, em, eo]
theorem next_other {p : Pl} {code : List Ln} {s : St} {x : Sh} {t : St} {o : Int} (h : nextT p code s x = (t, o, 0)) (code' : List Ln) (hg : gateB code' = true) : nextT p code' s x = (stepT p code' s x, outT p code' s x, 0) := by
  obtain ⟨h1, _, _, h4, h5, _, _⟩ := next_ok h
  rw [nextT, if_pos h1, if_pos (by rw [gateT, if_pos hg]), if_pos h4, if_pos h5]
theorem next_none {p : Pl} {s : St} {x : Sh} {t : St} {o : Int} (h : nextT p [] s x = (t, o, 0)) : t.position = s.position := by
  obtain ⟨_, _, _, _, _, rfl, _⟩ := next_ok h
  have : firstT [] (varsT p s x) = (0, false) := rfl
  show movedT p [] s x = s.position
  rw [movedT, this, if_neg (by decide)]
theorem vars_level {p : Pl} {s : St} {x : Sh} (h : p.hasB s = true) : 0 ≤ (varsT p s x).v0 := (Pl.hasB_bd h).1.1

/-- Law 8: what the four runs return. -/
theorem stuck_facts {p : Pl} {code : List Ln} {s : St} {x : Sh} {t : St} {o n : Int} (hn : 0 ≤ n ∧ n ≤ 255) (hl : code.length ≤ 60) (h : nextT p code s x = (t, o, 0)) :
    nextT p (⟨[⟨0, 1, 0⟩], n⟩ :: code) s x = (t, o, 0) ∧ ∃ t' o', nextT p [⟨[], n⟩] s x = (t', o', 0) ∧ nextT p (⟨[], n⟩ :: code) s x = (t', o', 0) := by
  obtain ⟨_, _, h3, h4, _, _, _⟩ := next_ok h
  refine ⟨next_same h (gate_cons (never_ok hn) hl h3) (first_never _ _ _ (vars_level h4)), _, _, next_other h _ (gate_cons (always_ok hn) (by simp) gate_nil), ?_⟩
  exact next_same (next_other h [⟨[], n⟩] (gate_cons (always_ok hn) (by simp) gate_nil)) (gate_cons (always_ok hn) hl h3) (by rw [first_always, first_always])

/-- Law 6: after k shocks. -/
def feedAt (l : List Sh) (k : Nat) (d : Int) : Int := if d ≤ (k : Int) ∧ 0 < d then (l.getD (k - d.toNat) ⟨0, 0⟩).feed else 0
structure RunAt (p : Pl) (l : List Sh) (k : Nat) (s : St) (fed arrived passed over : Int) : Prop where
  has : p.hasB s = true
  pipe0 : 0 < p.pipe → s.p0 = feedAt l k p.pipe
  pipe1 : 1 < p.pipe → s.p1 = feedAt l k 1
  fed0 : 0 ≤ fed ∧ fed ≤ 15 * k
  arr0 : 0 ≤ arrived ∧ arrived ≤ 15 * k
  pas0 : 0 ≤ passed ∧ passed ≤ 225 * k
  ovr0 : 0 ≤ over ∧ over ≤ 93 * k
  sum : fed = arrived + s.p0 + s.p1
  bal : p.start + arrived = s.level + passed + over
theorem run_begin {p : Pl} (l : List Sh) (h : p.checkT = 0) : RunAt p l 0 ⟨p.start, 0, 0, 0, 0, p.age⟩ 0 0 0 0 := by
  have hv := (Pl.check_zero h).1
  have h1 := hv.start
  have h2 := hv.positions
  have h3 := hv.orders
  have h4 := hv.age
  have h5 := hv.feed
  refine ⟨?_, fun hp => ?_, fun hp => ?_, by omega, by omega, by omega, by omega, by simp, by simp⟩
  · simp only [Pl.hasB, Bool.and_eq_true]
    refine ⟨inI_of h1, inI_of (by omega), inI_of ⟨Int.le_refl _, ?_⟩, inI_of ⟨Int.le_refl _, ?_⟩, inI_of (by omega), inI_of (by omega)⟩
    all_goals
      split <;> omega
  · rw [feedAt, if_neg (by omega)]
  · rw [feedAt, if_neg (by omega)]
theorem feedAt_yes {l : List Sh} {k : Nat} {d : Int} (h : d ≤ (k : Int)) (h0 : 0 < d) (hk : k - d.toNat < l.length) : feedAt l k d = (l[k - d.toNat]).feed := by
  rw [feedAt, if_pos ⟨h, h0⟩, List.getD_eq_getElem?_getD, List.getElem?_eq_getElem hk]
  rfl
theorem feedAt_no {l : List Sh} {k : Nat} {d : Int} (h : ¬ d ≤ (k : Int)) : feedAt l k d = 0 := by rw [feedAt, if_neg (by omega)]
theorem feedAt_one (l : List Sh) (k : Nat) (hk : k < l.length) : feedAt l (k + 1) 1 = (l[k]).feed := by
  rw [feedAt_yes (by omega) (by omega) (by simpa using hk)]
  rfl
theorem feedAt_two (l : List Sh) (k : Nat) (hk : k < l.length) : feedAt l (k + 1) 2 = feedAt l k 1 := by
  by_cases h : 1 ≤ k
  · rw [feedAt_yes (by omega) (by omega) (by omega), feedAt_yes (by omega) (by omega) (by omega)]
    congr 2
  · rw [feedAt_no (by omega), feedAt_no (by omega)]
/-- What arrives in hour k. -/
theorem run_now {p : Pl} {l : List Sh} {k : Nat} {s : St} {fed arrived passed over : Int} (R : RunAt p l k s fed arrived passed over) (hv : p.Valid) (hk : k < l.length) :
    (p.pipe ≤ (k : Int) → ∀ h : k - p.pipe.toNat < l.length, (fedT p s l[k]).1 = (l[k - p.pipe.toNat]).feed) ∧ (¬ p.pipe ≤ (k : Int) → (fedT p s l[k]).1 = 0) := by
  have hp := hv.pipe
  refine ⟨fun h hh => ?_, fun h => ?_⟩
  · rcases (show p.pipe = 0 ∨ 0 < p.pipe by omega) with h0 | h0
    · rw [fedT, if_pos h0]
      simp [h0]
    · have e : (fedT p s l[k]).1 = s.p0 := by rw [fedT, if_neg (by omega)]; split <;> rfl
      rw [e, R.pipe0 h0, feedAt_yes h h0 hh]
  · have e : (fedT p s l[k]).1 = s.p0 := by rw [fedT, if_neg (by omega)]; split <;> rfl
    rw [e, R.pipe0 (by omega), feedAt_no h]
theorem run_step {p : Pl} {code : List Ln} {l : List Sh} {k : Nat} {s : St} {fed arrived passed over : Int} (R : RunAt p l k s fed arrived passed over) (hv : p.Valid) (hk : k < l.length) (hc : chosenB p l[k] = true) (hg : gateB code = true) :
    RunAt p l (k + 1) (stepT p code s l[k]) (fed + (l[k]).feed) (arrived + (fedT p s l[k]).1) (passed + outT p code s l[k]) (over + (s.level + (fedT p s l[k]).1 - outT p code s l[k] - (stepT p code s l[k]).level)) ∧
      0 ≤ s.level + (fedT p s l[k]).1 - outT p code s l[k] - (stepT p code s l[k]).level := by
  have S := small_of hv R.has hc
  have Z := stepped (code := code) S hg
  have hb := step_has hv R.has hc hg
  obtain ⟨hl, _, h3, h4, _, _⟩ := Pl.hasB_bd R.has
  have hp := hv.pipe
  have ht := hv.top
  have hfd := hv.feed
  obtain ⟨r1, r3, r4, r5, r6, r7, r8, r9, r10⟩ := R
  have hcc := hc
  simp only [chosenB, Bool.and_eq_true] at hcc
  have c1 := inI_yes hcc.1
  have e3 : (stepT p code s l[k]).p0 = (fedT p s l[k]).2.1 := rfl
  have e4 : (stepT p code s l[k]).p1 = (fedT p s l[k]).2.2 := rfl
  have hz1 := Z.out
  have hz2 := Z.most
  have hz3 := Z.fed
  have hz4 := Z.spill
  have hz5 := Z.level
  have f1 := feedAt_one l k hk
  have f2 := feedAt_two l k hk
  refine ⟨⟨hb, fun h0 => ?_, fun h1 => ?_, by omega, by omega, by omega, by omega, ?_, by omega⟩, hz4⟩
  · rw [e3, fedT, if_neg (by omega)]
    split
    · rename_i h1
      rw [h1, f1]
    · have h2 : p.pipe = 2 := by omega
      rw [h2, f2]
      exact r4 (by omega)
  · rw [e4, fedT, if_neg (by omega), if_neg (by omega), f1]
  · rw [e3, e4]
    rcases (show p.pipe = 0 ∨ p.pipe = 1 ∨ p.pipe = 2 by omega) with h | h | h
    all_goals
      simp [fedT, h] at h3 h4 ⊢
      omega

end Go.Proofs.Ytakjalapninndaa
