/-
  Ratios: Check and its specification.
-/
import Derived.Test.YtmjbcmicjhgciaaY
import Derived.RegionTactic
import Derived.Deep.QuietTactic
import Derived.BigQuiet
import Derived.Deep.RegionWith
namespace Go.Proofs.Ytmjbcmicjhgciaa
open Go.RowKit Go.Shelf

def ratB (n d : Int) : Bool := decide (1 ≤ d ∧ d ≤ 1073741824 ∧ -1073741824 ≤ n ∧ n ≤ 1073741824 ∧ Nat.gcd n.natAbs d.natAbs = 1)
def ratC (n d : Int) : Int := if ratB n d then 0 else 120
abbrev rat (n d : Int) : Value := .agg #[.int .i64 n, .int .i64 d]

theorem Below.drewN {B : Nat} {a w : World} (h : Below B a w) (n : Nat) : Below B a (w.drewN n) := by
  exact ⟨h.os, h.tape, h.output, h.size, h.block⟩

theorem rsize_any (x : Int) (w : World) (h : -1073741824 ≤ x ∧ x ≤ 1073741824) : Calls Try.prog 61 #[.int .i64 x] w fun e w' => e = .returned (.int .i64 (x.natAbs : Int)) ∧ w = w' := by
  obtain ⟨h1, h2⟩ := h
  by_cases hx : x < 0
  · go_enter Try.func61, Try.ntmps61
    go_wp2
    go_ret
    have he : -x = (x.natAbs : Int) := by omega
    refine ⟨?_, rfl⟩
    show Ending.returned (.int .i64 _) = _
    rw [← he]
  · go_enter Try.func61, Try.ntmps61
    go_wp2
    go_ret
    have he : x = (x.natAbs : Int) := by omega
    refine ⟨?_, rfl⟩
    show Ending.returned (.int .i64 _) = _
    rw [← he]

theorem rdivisor_any (a b : Nat) (w : World) (ha : a < 4294967296) (hb : b < 4294967296) : Calls Try.prog 60 #[.int .i64 (a : Int), .int .i64 (b : Int)] w fun e w' => e = .returned (.int .i64 (Nat.gcd a b : Int)) ∧ w = w' := by
  go_enter Try.func60, Try.ntmps60
  go_wp2
  go_loop [0, 1] (fun u v => ∃ x y : Nat, u = .int .i64 (x : Int) ∧ v = .int .i64 (y : Int) ∧ x < 4294967296 ∧ y < 4294967296 ∧ Hid (Nat.gcd x y = Nat.gcd a b)) (fun _ v => (intOf v).toNat)
  case atStart => exact ⟨a, b, rfl, rfl, ha, hb, rfl⟩
  case round =>
    obtain ⟨x, y, rfl, rfl, hx, hy, hg⟩ := hrel
    by_cases h0 : 0 < (y : Int)
    · obtain ⟨z, hz⟩ : ∃ z : Nat, Hid (z = x % y) := ⟨_, rfl⟩
      have hz1 : z < y := by rw [hz.out]; exact Nat.mod_lt _ (by omega)
      have hm : ((x : Int) % (y : Int)) = (z : Int) := by rw [hz.out]; simp
      have hm' : (x : Int).tmod (y : Int) = (z : Int) := by rw [hz.out]; rw [Int.tmod_eq_emod_of_nonneg (by omega)]; simp
      have hyn : (y : Int) ≠ 0 := by omega
      have hyn' : ((y : Int) == 0) = false := by simp; omega
      go_wp2
      go_round
      case measure => simpa [intOf] using hz1
      case rel =>
      refine ⟨y, z, rfl, rfl, hy, by omega, ?_⟩
      show Nat.gcd y z = Nat.gcd a b
      rw [← hg.out, hz.out, Nat.gcd_comm x y, Nat.gcd_rec y x, Nat.gcd_comm]
    · have e0 : y = 0 := by omega
      subst e0
      go_wp2
      go_ret
      refine ⟨?_, rfl⟩
      have := hg.out
      rw [Nat.gcd_zero_right] at this
      rw [← this]; rfl

set_option maxRecDepth 100000 in
set_option maxHeartbeats 1000000 in
theorem rCheckR_any (n d : Int) (w : World) : Calls Try.prog 56 #[rat n d] w fun e w' => ∃ q, e = .returned (.bool q) ∧ Hid (ratB n d = q) ∧ Below w.heap.size w w' := by
  have X : Box (w.alloc (.cells #[.int .i64 n, .int .i64 d] 31)) w.heap.size [.int .i64 n, .int .i64 d] := Box.new w _ 31
  obtain ⟨⟨c0, c1⟩, f0, f1⟩ := X.two
  have h : Hid (ratB n d = (decide (1 ≤ d) && decide (d ≤ 1073741824) && decide (-1073741824 ≤ n) && decide (n ≤ 1073741824) && decide (Nat.gcd n.natAbs d.natAbs = 1))) := by
    show _ = _
    simp [ratB, Bool.and_assoc]
  rcases h1 : decide (1 ≤ d) with _ | _
  · have := of_decide_eq_false h1
    go_enter Try.func56, Try.ntmps56
    go_wp2_with fail
    go_quiet (fail)
    go_wp2
    go_ret
    exact ⟨false, rfl, by rw [h.out, h1]; simp [Hid], by repeat (first | exact Below.refl _ _ | refine Below.drewN ?_ _ | refine Below.setCell ?_ (by simp <;> omega) _ | refine Below.alloc ?_ (by simp <;> omega) _)⟩
  rcases h2 : decide (d ≤ 1073741824) with _ | _
  · have := of_decide_eq_false h2
    go_enter Try.func56, Try.ntmps56
    go_wp2_with fail
    go_quiet (fail)
    go_wp2
    go_ret
    exact ⟨false, rfl, by rw [h.out, h1, h2]; simp [Hid], by repeat (first | exact Below.refl _ _ | refine Below.drewN ?_ _ | refine Below.setCell ?_ (by simp <;> omega) _ | refine Below.alloc ?_ (by simp <;> omega) _)⟩
  rcases h3 : decide (-1073741824 ≤ n) with _ | _
  · have := of_decide_eq_false h3
    go_enter Try.func56, Try.ntmps56
    go_wp2_with fail
    go_quiet (fail)
    go_wp2
    go_ret
    exact ⟨false, rfl, by rw [h.out, h1, h2, h3]; simp [Hid], by repeat (first | exact Below.refl _ _ | refine Below.drewN ?_ _ | refine Below.setCell ?_ (by simp <;> omega) _ | refine Below.alloc ?_ (by simp <;> omega) _)⟩
  rcases h4 : decide (n ≤ 1073741824) with _ | _
  · have := of_decide_eq_false h4
    go_enter Try.func56, Try.ntmps56
    go_wp2_with fail
    go_quiet (fail)
    go_wp2
    go_ret
    exact ⟨false, rfl, by rw [h.out, h1, h2, h3, h4]; simp [Hid], by repeat (first | exact Below.refl _ _ | refine Below.drewN ?_ _ | refine Below.setCell ?_ (by simp <;> omega) _ | refine Below.alloc ?_ (by simp <;> omega) _)⟩
  have k1 := of_decide_eq_true h1
  have k2 := of_decide_eq_true h2
  have k3 := of_decide_eq_true h3
  have k4 := of_decide_eq_true h4
  obtain ⟨m, hm⟩ : ∃ m : Nat, d = (m : Int) := ⟨d.toNat, by omega⟩
  have C1 := fun w => rsize_any n w ⟨k3, k4⟩
  have C1 := fun w => (C1 w).mono fun e w' (h : e = .returned (.int .i64 (n.natAbs : Int)) ∧ w = w') => (⟨h.1, h.2.symm⟩ : e = _ ∧ w' = w)
  have C2 := fun w => rdivisor_any n.natAbs m w (by omega) (by omega)
  have C2 := fun w => (C2 w).mono fun e w' (h : e = .returned (.int .i64 (Nat.gcd n.natAbs m : Int)) ∧ w = w') => (⟨h.1, h.2.symm⟩ : e = _ ∧ w' = w)
  subst hm
  have hh : Hid (ratB n (m : Int) = decide (((Nat.gcd n.natAbs m : Nat) : Int) = 1)) := by
    show _ = _
    rw [h.out, h1, h2, h3, h4]
    simp
    omega
  go_enter Try.func56, Try.ntmps56
  go_wp2_with fail
  go_quiet (first | (go_at_call 61; exact Calls.quiet_of_same (C1 _)) | (go_at_call 60; exact Calls.quiet_of_same (C2 _)))
  go_wp2
  go_ret
  exact ⟨_, rfl, hh.out, by repeat (first | exact Below.refl _ _ | refine Below.drewN ?_ _ | refine Below.setCell ?_ (by simp <;> omega) _ | refine Below.alloc ?_ (by simp <;> omega) _)⟩

end Go.Proofs.Ytmjbcmicjhgciaa
