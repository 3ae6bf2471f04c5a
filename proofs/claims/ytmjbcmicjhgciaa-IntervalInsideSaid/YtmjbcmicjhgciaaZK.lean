/-
  holds and reached, of package acequialaw13.
-/
import Derived.Test.YtmjbcmicjhgciaaK
namespace Go.Proofs.Ytmjbcmicjhgciaa
open Go.RowKit

def holB (lo hi n : Int) : Bool := decide (lo ≤ n ∧ n ≤ hi)

theorem holds_any (lo hi n : Int) (w : World) : Calls Try.prog 33 #[rng lo hi, .int .i64 n] w (RetB (holB lo hi n) w) := by
  go_enter Try.func33, Try.ntmps33
  go_wp2
  all_goals
    go_ret
    exact ⟨_, rfl, by simp [Hid, holB] <;> omega, (Below.refl _ _).alloc (Nat.le_refl _) _⟩
theorem holds_at {lo hi n : Int} {b : Bool} (h : holB lo hi n = b) (w : World) : Calls Try.prog 33 #[rng lo hi, .int .i64 n] w fun e w' => e = .returned (.bool b) ∧ Below w.heap.size w w' :=
  (holds_any lo hi n w).mono fun _ _ ⟨_, he, hq, hB⟩ => ⟨by rw [he, ← hq.out, h], hB⟩

set_option maxHeartbeats 400000 in
theorem reached4 (n x0 x1 x2 x3 : Int) (b : Nat) (w : World) (h0 : w.cell? ⟨b, 0, none⟩ = some (.int .i64 x0)) (h1 : w.cell? ⟨b, 1, none⟩ = some (.int .i64 x1)) (h2 : w.cell? ⟨b, 2, none⟩ = some (.int .i64 x2)) (h3 : w.cell? ⟨b, 3, none⟩ = some (.int .i64 x3))
    (h : n = x0 ∨ n = x1 ∨ n = x2 ∨ n = x3) :
    Calls Try.prog 35 #[.int .i64 n, .slice (some ⟨b, 0, none⟩) 4 4] w fun e w' => e = .returned (.bool true) ∧ Below w.heap.size w w' := by
  have H := Lib.hid h
  clear h
  go_enter Try.func35, Try.ntmps35
  go_wp2
  refine wp_loop_rounds 5 ?_
  rcases e0 : (x0 == n) with _ | _
  · rcases e1 : (x1 == n) with _ | _
    · rcases e2 : (x2 == n) with _ | _
      · rcases e3 : (x3 == n) with _ | _
        · have := H.out
          simp at e0 e1 e2 e3
          omega
        · rw [rounds_succ]; go_wp2; rw [rounds_succ]; go_wp2; rw [rounds_succ]; go_wp2; rw [rounds_succ]; go_wp2
          go_ret
          exact ⟨rfl, Below.refl _ _⟩
      · rw [rounds_succ]; go_wp2; rw [rounds_succ]; go_wp2; rw [rounds_succ]; go_wp2
        go_ret
        exact ⟨rfl, Below.refl _ _⟩
    · rw [rounds_succ]; go_wp2; rw [rounds_succ]; go_wp2
      go_ret
      exact ⟨rfl, Below.refl _ _⟩
  · rw [rounds_succ]; go_wp2
    go_ret
    exact ⟨rfl, Below.refl _ _⟩

end Go.Proofs.Ytmjbcmicjhgciaa
