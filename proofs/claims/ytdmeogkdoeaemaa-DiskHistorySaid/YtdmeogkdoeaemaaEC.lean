/-
  Restart with its result written out; double. No condition.
-/
import Derived.Test.YtdmeogkdoeaemaaEB
namespace Go.Proofs.Ytdmeogkdoeaemaa
open Go.RowKit
attribute [local go_sem ↓ high] app_named cop_named

abbrev restV (As : Option Addr) (ns cs : Nat) : Value := .agg #[.slice As ns cs, .slice none 0 0, .int .i64 (-1), .bool false]
theorem dRestart_eq (As : Option Addr) (ns cs : Nat) (Vp : Value) (l : Int) (s : Bool) (w : World) : Calls Try.prog 17 #[.agg #[.slice As ns cs, Vp, .int .i64 l, .bool s]] w fun e w' => e = .returned (restV As ns cs) ∧ Below w.heap.size w w' := by
  go_enter Try.func17, Try.ntmps17
  go_wp2
  refine bodyPost_ret (v := restV As ns cs) (by simp [results, Try.results17, go_sem]) rfl ?_
  exact ⟨rfl, ((Below.refl _ _).alloc (Nat.le_refl _) _).alloc (by simp) _⟩
theorem dRRestart_eq (As : Option Addr) (ns cs : Nat) (Vp : Value) (l : Int) (s : Bool) (w : World) : Calls Try.prog 18 #[.agg #[.slice As ns cs, Vp, .int .i64 l, .bool s]] w fun e w' => e = .returned (restV As ns cs) ∧ Below w.heap.size w w' := by
  go_enter Try.func18, Try.ntmps18
  go_wp2
  refine bodyPost_ret (v := restV As ns cs) (by simp [results, Try.results18, go_sem]) rfl ?_
  exact ⟨rfl, ((Below.refl _ _).alloc (Nat.le_refl _) _).alloc (by simp) _⟩
/-- What double returns. -/
def doubleB (c : UInt8) : Bs := (zeros.set 0 c).set 64 c
theorem double_length (c : UInt8) : (doubleB c).length = 128 := by rw [doubleB, List.length_set, List.length_set, zeros_length]
theorem byV_set (l : Bs) (i : Nat) (c : UInt8) : (byV l).set i (.int .u8 (c.toNat : Int)) = byV (l.set i c) := by simp [byV, List.map_set]
set_option maxHeartbeats 1000000 in
theorem dDouble_any (c : UInt8) (w : World) : Calls Try.prog 27 #[.int .u8 (c.toNat : Int)] w fun e w' => ∃ g, e = .returned (.slice (some ⟨g, 0, none⟩) 128 128) ∧ OwnBs w' w.heap.size (.slice (some ⟨g, 0, none⟩) 128 128) (doubleB c) ∧ Below w.heap.size w w' := by
  obtain ⟨w1, hmk, ho, hb⟩ := make_bs w
  have ho' : w1.ownsRow w.heap.size 5 1 (.slice (some ⟨w.heap.size, 0, none⟩) 128 128) 128 (byV zeros) := by
    have := ho
    unfold OwnBs at this
    rwa [zeros_length] at this
  obtain ⟨_, g1, g2, g3⟩ := own_cell ho'
  have h0 := own_set ho' (i := 0) (.int .u8 (c.toNat : Int))
  have h1 := own_set h0 (i := 64) (.int .u8 (c.toNat : Int))
  rw [byV_set, byV_set] at h1
  have HO : Hid (OwnBs ((w1.setCell ⟨w.heap.size, 0, none⟩ (.int .u8 (c.toNat : Int))).setCell ⟨w.heap.size, 64, none⟩ (.int .u8 (c.toNat : Int))) w.heap.size (.slice (some ⟨w.heap.size, 0, none⟩) 128 128) (doubleB c)) := by
    unfold OwnBs
    rw [Hid, double_length]
    exact h1
  have hz : ∀ i, i < 128 → ∃ v, w1.cell? ⟨w.heap.size, i, none⟩ = some v := fun i hi => by
    have h2 : i < (byV zeros).length := by rw [byV_length, zeros_length]; exact hi
    exact ⟨_, (g2 i hi).trans (List.getElem?_eq_getElem h2)⟩
  obtain ⟨v0, c0⟩ := hz 0 (by decide)
  obtain ⟨v64, c64⟩ := hz 64 (by decide)
  have f0 := g3 0
  have f64 := g3 64
  have HB := ((hb.setCell (p := ⟨w.heap.size, 0, none⟩) (Nat.le_refl _) (.int .u8 (c.toNat : Int))).setCell (p := ⟨w.heap.size, 64, none⟩) (Nat.le_refl _) (.int .u8 (c.toNat : Int)))
  clear ho ho' h0 h1 hz g2 g3 hb
  go_enter Try.func27, Try.ntmps27
  go_wp2
  go_ret
  exact ⟨_, rfl, HO.out, HB⟩

end Go.Proofs.Ytdmeogkdoeaemaa
