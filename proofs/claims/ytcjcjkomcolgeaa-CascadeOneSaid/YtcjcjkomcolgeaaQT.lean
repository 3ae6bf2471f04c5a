/- Contracts of Next of plant and of acequiaref32, joined; contracts with their results named. No condition. -/
import Derived.Test.YtcjcjkomcolgeaaQS
set_option linter.unusedVariables false
set_option linter.unusedSimpArgs false
namespace Go.Proofs.Ytcjcjkomcolgeaa
open Go.RowKit

def RetX (t : St × Int × Int) (w : World) (e : Ending) (w' : World) : Prop := ∃ (s : St) (o er : Int), e = .returned (.tuple #[s.v, .int .i64 o, .int .i64 er]) ∧ Hid (t = (s, o, er)) ∧ Below w.heap.size w w'

theorem gateT_two (code : List Ln) : (gateT code = 0 ∧ gateB code = true) ∨ gateT code = 310 := by
  unfold gateT
  split
  · exact .inl ⟨rfl, by assumption⟩
  · exact .inr rfl
theorem movedM_is (p : Pl) (code : List Ln) (s : St) (x : Sh) (hp : 0 ≤ s.position ∧ s.position ≤ p.positions) (hs : 1 ≤ p.step) : movedM p s (firstT code (varsT p s x)).1 (firstT code (varsT p s x)).2 = movedT p code s x := by
  unfold movedM movedT
  split <;> omega
theorem moved_bd {p : Pl} {code : List Ln} {s : St} {x : Sh} (S : Small p s x) (hg : 0 ≤ (firstT code (varsT p s x)).1) : 0 ≤ movedT p code s x ∧ movedT p code s x ≤ 15 := by
  obtain ⟨_, h1, _, h2, _, _, h3, _⟩ := S
  unfold movedT
  split <;> omega

theorem next_any (p : Pl) (code : List Ln) (V : Value) (s : St) (x : Sh) (w : World) (hC : CodeAt w w.heap.size V code) :
    Calls Try.prog 25 #[p.v, .agg #[V], s.v, x.v] w (RetX (nextT p code s x) w) := by
  by_cases h : p.checkT = 0
  · obtain ⟨hv, _⟩ := Pl.check_zero h
    rcases gateT_two code with ⟨hg, hgb⟩ | hg
    · rcases hh : p.hasB s with _ | _
      · have e : nextT p code s x = (St.zero, 0, 320) := by rw [nextT, if_pos h, if_pos hg, if_neg (by rw [hh]; decide)]
        rw [e]
        exact (next_has p code V s x w hC h hg hv.pipe hh).mono fun _ _ ⟨he, hb⟩ => ⟨St.zero, 0, 320, he, rfl, hb⟩
      · rcases hc : chosenB p x with _ | _
        · have e : nextT p code s x = (St.zero, 0, 1) := by rw [nextT, if_pos h, if_pos hg, if_pos hh, if_neg (by rw [hc]; decide)]
          rw [e]
          have hc' : ¬ ((0 ≤ x.feed ∧ x.feed ≤ p.feed) ∧ -1 ≤ x.msg ∧ x.msg ≤ p.orders) := by
            intro hk
            rw [chosenB, inI, inI, decide_eq_true hk.1, decide_eq_true hk.2] at hc
            cases hc
          by_cases k1 : 0 ≤ x.feed
          · by_cases k2 : x.feed ≤ p.feed
            · by_cases k3 : -1 ≤ x.msg
              · exact (next_chosen3 p code V s x w hC h hg hv.pipe hh k1 k2 k3 (by omega)).mono fun _ _ ⟨he, hb⟩ => ⟨St.zero, 0, 1, he, rfl, hb⟩
              · exact (next_chosen2 p code V s x w hC h hg hv.pipe hh k1 k2 (by omega)).mono fun _ _ ⟨he, hb⟩ => ⟨St.zero, 0, 1, he, rfl, hb⟩
            · exact (next_chosen1 p code V s x w hC h hg hv.pipe hh k1 (by omega)).mono fun _ _ ⟨he, hb⟩ => ⟨St.zero, 0, 1, he, rfl, hb⟩
          · exact (next_chosen0 p code V s x w hC h hg hv.pipe hh (by omega)).mono fun _ _ ⟨he, hb⟩ => ⟨St.zero, 0, 1, he, rfl, hb⟩
        · have e : nextT p code s x = (stepT p code s x, outT p code s x, 0) := by rw [nextT, if_pos h, if_pos hg, if_pos hh, if_pos hc]
          rw [e]
          have S := small_of hv hh hc
          have hgd := firstT_bd (r := varsT p s x) hgb
          have hMb := moved_bd S hgd.1
          have hM := movedM_is p code s x S.position S.step.1
          have hrm := mul_le4 (a := p.rate) (b := movedT p code s x) (A := 15) (B := 15) (by have := S.rate; omega) hMb
          have hck := hc
          simp only [chosenB, Bool.and_eq_true] at hck
          have c1 := inI_yes hck.1
          have c2 := inI_yes hck.2
          have hf : 0 ≤ (fedT p s x).1 ∧ (fedT p s x).1 ≤ 15 := by
            have := S.feed
            have := S.p0
            unfold fedT
            split
            · omega
            · split <;> omega
          have hR : runT code (varsT p s x) = ((firstT code (varsT p s x)).1, (firstT code (varsT p s x)).2, 0) := by rw [runT, if_pos hgb]
          refine (next_good p code V s x w hC h hg hv hh c1.1 c1.2 c2.1 c2.2 S (heardT p s x).1 (heardT p s x).2 (fedT p s x).1 (fedT p s x).2.1 (fedT p s x).2.2 (firstT code (varsT p s x)).1 (movedT p code s x) (firstT code (varsT p s x)).2 rfl rfl hR hgd hM hf (by rw [Hid]; exact ⟨hrm.1, by omega⟩)).mono ?_
          rintro _ _ ⟨he, hb⟩
          exact ⟨stepT p code s x, outT p code s x, 0, he, rfl, hb⟩
    · have e : nextT p code s x = (St.zero, 0, 310) := by rw [nextT, if_pos h, if_neg (by omega), hg]
      rw [e]
      exact (next_gate p code V s x w hC h hg).mono fun _ _ ⟨he, hb⟩ => ⟨St.zero, 0, 310, he, rfl, hb⟩
  · have e : nextT p code s x = (St.zero, 0, p.checkT) := by rw [nextT, if_neg h]
    rw [e]
    exact (next_check p code V s x w hC p.checkT rfl (by simp [h]) (by simp [h])).mono fun _ _ ⟨he, hb⟩ => ⟨St.zero, 0, p.checkT, he, rfl, hb⟩

theorem next_is {p : Pl} {code : List Ln} {V : Value} {s : St} {x : Sh} {w : World} {t : St} {o er : Int} (h : Hid (nextT p code s x = (t, o, er))) (hC : CodeAt w w.heap.size V code) :
    Calls Try.prog 25 #[p.v, .agg #[V], s.v, x.v] w fun e w' => e = .returned (.tuple #[t.v, .int .i64 o, .int .i64 er]) ∧ Below w.heap.size w w' :=
  (next_any p code V s x w hC).mono fun _ _ ⟨a, b, c, he, hq, hb⟩ => by
    have := hq.out.symm.trans h.out
    simp only [Prod.mk.injEq] at this
    obtain ⟨rfl, rfl, rfl⟩ := this
    exact ⟨he, hb⟩
theorem rcount_is {p : Pl} {w : World} {n er : Int} (h : Hid (p.countT = (n, er))) : Calls Try.prog 27 #[p.v] w fun e w' => e = .returned (.tuple #[.int .i64 n, .int .i64 er]) ∧ Below w.heap.size w w' :=
  (rCount_any p w).mono fun _ _ ⟨a, b, he, hq, hb⟩ => by
    have := hq.out.symm.trans h.out
    simp only [Prod.mk.injEq] at this
    obtain ⟨rfl, rfl⟩ := this
    exact ⟨he, hb⟩
theorem begin_is {p : Pl} {w : World} {t : St} {er : Int} (h : Hid (p.beginT = (t, er))) : Calls Try.prog 24 #[p.v] w fun e w' => e = .returned (.tuple #[t.v, .int .i64 er]) ∧ Below w.heap.size w w' :=
  (Begin_any p w).mono fun _ _ ⟨a, b, he, hq, hb⟩ => by
    have := hq.out.symm.trans h.out
    simp only [Prod.mk.injEq] at this
    obtain ⟨rfl, rfl⟩ := this
    exact ⟨he, hb⟩
theorem safe_is {p : Pl} {s : St} {w : World} {q : Bool} {er : Int} (h : Hid (p.safeT s = (q, er))) : Calls Try.prog 19 #[p.v, s.v] w fun e w' => e = .returned (.tuple #[.bool q, .int .i64 er]) ∧ Below w.heap.size w w' :=
  (Safe_any p s w).mono fun _ _ ⟨a, b, he, hq, hb⟩ => by
    have := hq.out.symm.trans h.out
    simp only [Prod.mk.injEq] at this
    obtain ⟨rfl, rfl⟩ := this
    exact ⟨he, hb⟩
end Go.Proofs.Ytcjcjkomcolgeaa

/-
  Plain facts on a step of the plant, for laws 5 to 9 of chapter 32. No condition.
-/
namespace Go.Proofs.Ytcjcjkomcolgeaa
open Go.RowKit

theorem inI_of {n lo hi : Int} (h : lo ≤ n ∧ n ≤ hi) : inI n lo hi = true := decide_eq_true h
theorem fed_bd {p : Pl} {s : St} {x : Sh} (S : Small p s x) : 0 ≤ (fedT p s x).1 ∧ (fedT p s x).1 ≤ 15 := by
  have h1 := S.feed
  have h2 := S.p0
  unfold fedT
  split
  · omega
  · split <;> omega
theorem movedT_bd {p : Pl} {code : List Ln} {s : St} {x : Sh} (S : Small p s x) (hg : gateB code = true) :
    (0 ≤ movedT p code s x ∧ movedT p code s x ≤ p.positions) ∧ s.position - p.step ≤ movedT p code s x ∧ movedT p code s x ≤ s.position + p.step := by
  have h0 := (firstT_bd (r := varsT p s x) hg).1
  have h1 := S.positions
  have h2 := S.step
  have h3 := S.position
  unfold movedT
  split <;> omega

structure Stepped (p : Pl) (s : St) (x : Sh) (t : St) (o f : Int) : Prop where
  level : 0 ≤ t.level ∧ t.level ≤ p.top
  position : 0 ≤ t.position ∧ t.position ≤ p.positions
  down : s.position - p.step ≤ t.position
  up : t.position ≤ s.position + p.step
  out : 0 ≤ o ∧ o ≤ p.rate * t.position
  most : p.rate * t.position ≤ 225
  fed : 0 ≤ f ∧ f ≤ 15
  spill : 0 ≤ s.level + f - o - t.level
  full : t.level = p.top ∨ s.level + f - o - t.level ≤ 0
  flow : p.rate * t.position ≤ o ∨ t.level ≤ 0

theorem stepped {p : Pl} {code : List Ln} {s : St} {x : Sh} (S : Small p s x) (hg : gateB code = true) : Stepped p s x (stepT p code s x) (outT p code s x) (fedT p s x).1 := by
  have hf := fed_bd S
  obtain ⟨h1, h2, h3⟩ := movedT_bd S hg
  have hl := S.level
  have ht := S.top
  have hr := mul_le4 (a := p.rate) (b := movedT p code s x) (A := 15) (B := 15) (by have := S.rate; omega) (by have := S.positions; omega)
  have e1 : (stepT p code s x).level = min p.top (s.level + (fedT p s x).1 - outT p code s x) := rfl
  have e2 : (stepT p code s x).position = movedT p code s x := rfl
  have e3 : outT p code s x = min (s.level + (fedT p s x).1) (p.rate * movedT p code s x) := rfl
  generalize (fedT p s x).1 = f at *
  generalize movedT p code s x = M at *
  generalize outT p code s x = o at *
  generalize hR : p.rate * M = R at *
  have e4 : p.rate * (stepT p code s x).position = R := by rw [e2, hR]
  have top0 : s.level ≤ 63 := hl.2
  refine ⟨by omega, by omega, by omega, by omega, by rw [e4]; omega, by rw [e4]; omega, hf, by omega, by omega, by rw [e4]; omega⟩

theorem step_has {p : Pl} {code : List Ln} {s : St} {x : Sh} (hv : p.Valid) (hs : p.hasB s = true) (hc : chosenB p x = true) (hg : gateB code = true) : p.hasB (stepT p code s x) = true := by
  have S := small_of hv hs hc
  have Z := stepped (code := code) S hg
  obtain ⟨_, _, h3, h4, h5, h6⟩ := Pl.hasB_bd hs
  simp only [chosenB, Bool.and_eq_true] at hc
  have c1 := inI_yes hc.1
  have c2 := inI_yes hc.2
  have e3 : (stepT p code s x).p0 = (fedT p s x).2.1 := rfl
  have e4 : (stepT p code s x).p1 = (fedT p s x).2.2 := rfl
  have e5 : (stepT p code s x).order = (heardT p s x).1 := rfl
  have e6 : (stepT p code s x).age = (heardT p s x).2 := rfl
  have ho : (0 ≤ (heardT p s x).1 ∧ (heardT p s x).1 ≤ p.orders) ∧ 0 ≤ (heardT p s x).2 ∧ (heardT p s x).2 ≤ p.age := by
    unfold heardT
    split
    · exact ⟨⟨by assumption, c2.2⟩, Int.le_refl _, by omega⟩
    · exact ⟨h5, by omega, by omega⟩
  have hq : (0 ≤ (fedT p s x).2.1 ∧ (fedT p s x).2.1 ≤ if 0 < p.pipe then p.feed else 0) ∧ 0 ≤ (fedT p s x).2.2 ∧ (fedT p s x).2.2 ≤ if 1 < p.pipe then p.feed else 0 := by
    have hp := hv.pipe
    rcases (show p.pipe = 0 ∨ p.pipe = 1 ∨ p.pipe = 2 by omega) with h | h | h
    all_goals
      simp [fedT, h] at h3 h4 ⊢
      omega
  simp only [Pl.hasB, Bool.and_eq_true]
  exact ⟨inI_of Z.level, inI_of Z.position, inI_of (by rw [e3]; exact hq.1), inI_of (by rw [e4]; exact hq.2), inI_of (by rw [e5]; exact ho.1), inI_of (by rw [e6]; exact ho.2)⟩

theorem next_error {p : Pl} {code : List Ln} {s : St} {x : Sh} : (∃ er, er ≠ 0 ∧ nextT p code s x = (St.zero, 0, er)) ∨ (p.Valid ∧ gateB code = true ∧ p.hasB s = true ∧ chosenB p x = true ∧ nextT p code s x = (stepT p code s x, outT p code s x, 0)) := by
  by_cases h : p.checkT = 0
  · rcases gateT_two code with ⟨hg, hgb⟩ | hg
    · rcases hh : p.hasB s with _ | _
      · exact .inl ⟨320, by decide, by rw [nextT, if_pos h, if_pos hg, if_neg (by rw [hh]; decide)]⟩
      · rcases hc : chosenB p x with _ | _
        · exact .inl ⟨1, by decide, by rw [nextT, if_pos h, if_pos hg, if_pos hh, if_neg (by rw [hc]; decide)]⟩
        · exact .inr ⟨(Pl.check_zero h).1, hgb, rfl, rfl, by rw [nextT, if_pos h, if_pos hg, if_pos hh, if_pos hc]⟩
    · exact .inl ⟨310, by decide, by rw [nextT, if_pos h, if_neg (by omega), hg]⟩
  · exact .inl ⟨p.checkT, h, by rw [nextT, if_neg h]⟩

end Go.Proofs.Ytcjcjkomcolgeaa
