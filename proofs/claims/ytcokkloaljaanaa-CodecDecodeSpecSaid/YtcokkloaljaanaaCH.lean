/-
  Contracts of Same of codec and of the reference. No condition.
-/
import Derived.Test.YtcokkloaljaanaaCF
namespace Go.Proofs.Ytcokkloaljaanaa
open Go.RowKit

theorem same_ne {x y : Val} (h : ¬ x = y) : x.same y = false := by
  rcases h2 : x.same y with _ | _
  · rfl
  · exact absurd ((x.same_iff y).1 h2) h
theorem same_kind {x y : Val} (h : x.kind ≠ y.kind) : x.same y = false := same_ne (by rintro rfl; exact h rfl)
theorem same_num {x y : Val} (h : x.num ≠ y.num) : x.same y = false := same_ne (by rintro rfl; exact h rfl)
theorem same_str {x y : Val} (h : x.str ≠ y.str) : x.same y = false := same_ne (by rintro rfl; exact h rfl)
theorem same_elems {x y : Val} (h1 : x.kind = y.kind) (h2 : x.num = y.num) (h3 : x.str = y.str) : x.same y = sameL x.elems y.elems := by
  obtain ⟨a, b, c, d⟩ := x
  obtain ⟨a', b', c', d'⟩ := y
  dsimp only [Val.kind, Val.num, Val.str, Val.elems] at *
  subst h1 h2 h3
  rw [Val.same, decide_eq_true rfl, decide_eq_true rfl, decide_eq_true rfl]
  rfl

set_option maxRecDepth 100000 in
set_option maxHeartbeats 4000000 in
theorem cSame_step (d : Nat) (ih : ∀ d', d' < d → SameC d') : SameC d := by
  intro x y L M w hV hW
  obtain ⟨A, c, rfl, hm1⟩ := hV.form
  obtain ⟨B, c2, rfl, hm2⟩ := hW.form
  have hst := (((Below.refl w.heap.size w).alloc (Nat.le_refl _) (.cells #[.int .i64 x.kind, .int .i64 x.num, .string (strB x.str), .slice A x.elems.length c] 24)).alloc (by simp) (.cells #[.int .i64 y.kind, .int .i64 y.num, .string (strB y.str), .slice B y.elems.length c2] 24))
  obtain ⟨rb, hrb⟩ : ∃ rb, sameL x.elems y.elems = rb := ⟨_, rfl⟩
  have HC := Lib.hid (equal_any d ih x.elems y.elems _ _ _ (hV.later hst) (hW.later hst) rb (Lib.hid hrb))
  have ST := Lib.hid hst
  obtain ⟨r, hr⟩ : ∃ r, x.same y = r := ⟨_, rfl⟩
  have h1 := same_kind (x := x) (y := y)
  have h2 := same_num (x := x) (y := y)
  have h3 := same_str (x := x) (y := y)
  have h4 := same_elems (x := x) (y := y)
  rw [hr] at h1 h2 h3 h4 ⊢
  rw [hrb] at h4
  clear hV hW hst hrb ih hr
  dsimp only [Val.v] at HC ST ⊢
  have hsi : x.str = y.str ↔ strB x.str = strB y.str := strB_inj.symm
  generalize x.kind = xk, x.num = xn, x.str = xs, x.elems.length = xl at HC ST h1 h2 h3 h4 hsi ⊢
  generalize y.kind = yk, y.num = yn, y.str = ys, y.elems.length = yl at HC ST h1 h2 h3 h4 hsi ⊢
  by_cases e1 : xk = yk
  · by_cases e2 : xn = yn
    · by_cases e3 : xs = ys
      · have e4 := h4 e1 e2 e3
        subst e1 e2 e3 e4
        clear h1 h2 h3 h4 hsi
        generalize strB xs = sb at HC ST ⊢
        go_enter Try.func21, Try.ntmps21
        go_wp2_with fail
        refine HC.out.mono ?_
        rintro e w1 ⟨rfl, hb⟩
        have hB := ST.out.trans (hb.mono (by simp <;> omega))
        clear ST HC hb
        go_wp2
        go_ret
        exact ⟨rfl, hB⟩
      · have e4 := h3 e3
        subst e1 e2 e4
        have e5 : ¬ strB xs = strB ys := fun h => e3 (hsi.2 h)
        have e6 : ¬ (strB xs).toList = (strB ys).toList := by rw [strB_toList, strB_toList]; exact e3
        clear h1 h2 h3 h4 hsi HC
        generalize strB xs = sb, strB ys = sc at ST e5 e6 ⊢
        go_enter Try.func21, Try.ntmps21
        go_wp2
        all_goals
          go_ret
          exact ⟨rfl, ST.out⟩
    · have e4 := h2 e2
      subst e1 e4
      have e5 : (xn == yn) = false := by simpa using e2
      clear h1 h2 h3 h4 hsi HC
      generalize strB xs = sb, strB ys = sc at ST ⊢
      go_enter Try.func21, Try.ntmps21
      go_wp2
      all_goals
        go_ret
        exact ⟨rfl, ST.out⟩
  · have e4 := h1 e1
    subst e4
    have e5 : (xk == yk) = false := by simpa using e1
    clear h1 h2 h3 h4 hsi HC
    generalize strB xs = sb, strB ys = sc at ST ⊢
    go_enter Try.func21, Try.ntmps21
    go_wp2
    all_goals
      go_ret
      exact ⟨rfl, ST.out⟩

theorem SameC.all (d : Nat) : SameC d := by
  induction d using Nat.strongRecOn with
  | _ d ih => exact cSame_step d ih

end Go.Proofs.Ytcokkloaljaanaa
