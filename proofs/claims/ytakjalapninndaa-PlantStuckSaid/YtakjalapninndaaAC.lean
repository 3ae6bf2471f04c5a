/-
  Plain facts on a step of the plant, for laws 5 to 9 of chapter 32. No condition.
-/
import Derived.Test.YtakjalapninndaaT
namespace Go.Proofs.Ytakjalapninndaa
open Go.RowKit

theorem inI_of {n lo hi : Int} (h : lo ≤ n ∧ n ≤ hi) : inI n lo hi = true := decide_eq_true h
theorem fed_bd {p : Pl} {s : St} {x : Sh} (S : Small p s x) : 0 ≤ (fedT p s x).1 ∧ (fedT p s x).1 ≤ 15 := by
  have h1 := S.feed
  have h2 := S.p0
  unfold fedT
  split
  · omega
  · split <;> omega
theorem movedT_bd {p : Pl} {code : List Ln} {s : St} {x : Sh} (S : Small p s x) (hg : gateB code = true) :
    (0 ≤ movedT p code s x ∧ movedT p code s x ≤ p.positions) ∧ s.position - p.step ≤ movedT p code s x ∧ movedT p code s x ≤ s.position + p.step := by
  have h0 := (firstT_bd (r := varsT p s x) hg).1
  have h1 := S.positions
  have h2 := S.step
  have h3 := S.position
  unfold movedT
  split <;> omega

structure Stepped (p : Pl) (s : St) (x : Sh) (t : St) (o f : Int) : Prop where
  level : 0 ≤ t.level ∧ t.level ≤ p.top
  position : 0 ≤ t.position ∧ t.position ≤ p.positions
  down : s.position - p.step ≤ t.position
  up : t.position ≤ s.position + p.step
  out : 0 ≤ o ∧ o ≤ p.rate * t.position
  most : p.rate * t.position ≤ 225
  fed : 0 ≤ f ∧ f ≤ 15
  spill : 0 ≤ s.level + f - o - t.level
  full : t.level = p.top ∨ s.level + f - o - t.level ≤ 0
  flow : p.rate * t.position ≤ o ∨ t.level ≤ 0

theorem stepped {p : Pl} {code : List Ln} {s : St} {x : Sh} (S : Small p s x) (hg : gateB code = true) : Stepped p s x (stepT p code s x) (outT p code s x) (fedT p s x).1 := by
  have hf := fed_bd S
  obtain ⟨h1, h2, h3⟩ := movedT_bd S hg
  have hl := S.level
  have ht := S.top
  have hr := mul_le4 (a := p.rate) (b := movedT p code s x) (A := 15) (B := 15) (by have := S.rate; omega) (by have := S.positions; omega)
  have e1 : (stepT p code s x).level = min p.top (s.level + (fedT p s x).1 - outT p code s x) := rfl
  have e2 : (stepT p code s x).position = movedT p code s x := rfl
  have e3 : outT p code s x = min (s.level + (fedT p s x).1) (p.rate * movedT p code s x) := rfl
  generalize (fedT p s x).1 = f at *
  generalize movedT p code s x = M at *
  generalize outT p code s x = o at *
  generalize hR : p.rate * M = R at *
  have e4 : p.rate * (stepT p code s x).position = R := by rw [e2, hR]
  have top0 : s.level ≤ 63 := hl.2
  refine ⟨by omega, by omega, by omega, by omega, by rw [e4]; omega, by rw [e4]; omega, hf, by omega, by omega, by rw [e4]; omega⟩

theorem step_has {p : Pl} {code : List Ln} {s : St} {x : Sh} (hv : p.Valid) (hs : p.hasB s = true) (hc : chosenB p x = true) (hg : gateB code = true) : p.hasB (stepT p code s x) = true := by
  have S := small_of hv hs hc
  have Z := stepped (code := code) S hg
  obtain ⟨_, _, h3, h4, h5, h6⟩ := Pl.hasB_bd hs
  simp only [chosenB, Bool.and_eq_true] at hc
  have c1 := inI_yes hc.1
  have c2 := inI_yes hc.2
  have e3 : (stepT p code s x).p0 = (fedT p s x).2.1 := rfl
  have e4 : (stepT p code s x).p1 = (fedT p s x).2.2 := rfl
  have e5 : (stepT p code s x).order = (heardT p s x).1 := rfl
  have e6 : (stepT p code s x).age = (heardT p s x).2 := rfl
  have ho : (0 ≤ (heardT p s x).1 ∧ (heardT p s x).1 ≤ p.orders) ∧ 0 ≤ (heardT p s x).2 ∧ (heardT p s x).2 ≤ p.age := by
    unfold heardT
    split
    · exact ⟨⟨by assumption, c2.2⟩, Int.le_refl _, by omega⟩
    · exact ⟨h5, by omega, by omega⟩
  have hq : (0 ≤ (fedT p s x).2.1 ∧ (fedT p s x).2.1 ≤ if 0 < p.pipe then p.feed else 0) ∧ 0 ≤ (fedT p s x).2.2 ∧ (fedT p s x).2.2 ≤ if 1 < p.pipe then p.feed else 0 := by
    have hp := hv.pipe
    rcases (show p.pipe = 0 ∨ p.pipe = 1 ∨ p.pipe = 2 by omega) with h | h | h
    all_goals
      simp [fedT, h] at h3 h4 ⊢
      omega
  simp only [Pl.hasB, Bool.and_eq_true]
  exact ⟨inI_of Z.level, inI_of Z.position, inI_of (by rw [e3]; exact hq.1), inI_of (by rw [e4]; exact hq.2), inI_of (by rw [e5]; exact ho.1), inI_of (by rw [e6]; exact ho.2)⟩

theorem next_error {p : Pl} {code : List Ln} {s : St} {x : Sh} : (∃ er, er ≠ 0 ∧ nextT p code s x = (St.zero, 0, er)) ∨ (p.Valid ∧ gateB code = true ∧ p.hasB s = true ∧ chosenB p x = true ∧ nextT p code s x = (stepT p code s x, outT p code s x, 0)) := by
  by_cases h : p.checkT = 0
  · rcases gateT_two code with ⟨hg, hgb⟩ | hg
    · rcases hh : p.hasB s with _ | _
      · exact .inl ⟨320, by decide, by rw [nextT, if_pos h, if_pos hg, if_neg (by rw [hh]; decide)]⟩
      · rcases hc : chosenB p x with _ | _
        · exact .inl ⟨1, by decide, by rw [nextT, if_pos h, if_pos hg, if_pos hh, if_neg (by rw [hc]; decide)]⟩
        · exact .inr ⟨(Pl.check_zero h).1, hgb, rfl, rfl, by rw [nextT, if_pos h, if_pos hg, if_pos hh, if_pos hc]⟩
    · exact .inl ⟨310, by decide, by rw [nextT, if_pos h, if_neg (by omega), hg]⟩
  · exact .inl ⟨p.checkT, h, by rw [nextT, if_neg h]⟩

end Go.Proofs.Ytakjalapninndaa
