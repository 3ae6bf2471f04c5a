/-
  The contract of holds, where it says yes. No condition.
-/
import Derived.Test.YtdmeogkdoeaemaaET
namespace Go.Proofs.Ytdmeogkdoeaemaa
open Go.RowKit
attribute [local go_sem ↓ high] app_named cop_named

theorem bs_at {w : World} {L : List Nat} {A : Option Addr} {c : Nat} {b : Bs} {x y : UInt8} (h : Hid (BsAt w (Out L) (.slice A 128 c) b)) (hs : secH b x y) :
    ∃ g off, A = some ⟨g, off, none⟩ ∧ g < w.heap.size ∧ w.cell? ⟨g, off + 0, none⟩ = some (.int .u8 (x.toNat : Int)) ∧ w.cell? ⟨g, off + 64, none⟩ = some (.int .u8 (y.toNat : Int)) ∧ w.cell? ⟨g, off + 1, none⟩ = some (.int .u8 0) ∧ w.cell? ⟨g, off + 127, none⟩ = some (.int .u8 0) := by
  obtain ⟨h1, h2, h3, h4, h5⟩ := hs
  have h0 := h.out
  rw [← h1] at h0
  obtain ⟨_, A', c', hv, _, hc⟩ := h0
  cases hv
  obtain ⟨g, off, rfl, _, hl, _⟩ := hc 0 (by omega)
  have key : ∀ k, k < 128 → w.cell? ⟨g, off + k, none⟩ = some (.int .u8 ((b.getD k 0).toNat : Int)) := fun k hk => by
    obtain ⟨g', off', he, _, _, hj⟩ := hc k (by omega)
    cases he
    simpa using hj 0 (by omega)
  refine ⟨g, off, rfl, hl, ?_, ?_, ?_, ?_⟩
  · rw [key 0 (by omega), h2]
  · rw [key 64 (by omega), h3]
  · rw [key 1 (by omega), h4]; rfl
  · rw [key 127 (by omega), h5]; rfl
set_option maxRecDepth 100000 in
set_option maxHeartbeats 4000000 in
theorem hHolds_yes (d : Dk) (Vs Vp : Value) (l : Int) (s : Bool) (L : List Nat) (w : World) (F G : Nat → UInt8) (hD : Hid (DkAt w (Out L) Vs Vp d)) (hd : Hid (DkIs d l s)) (hL : InW L w) (hr : Hid (∀ k : Nat, k < 4 → ∃ b, readT d k = (b, 0) ∧ secH b (F k) (G k))) :
    Calls Try.prog 28 #[.agg #[Vs, Vp, .int .i64 l, .bool s], .agg #[.int .u8 ((F 0).toNat : Int), .int .u8 ((F 1).toNat : Int), .int .u8 ((F 2).toNat : Int), .int .u8 ((F 3).toNat : Int)], .agg #[.int .u8 ((G 0).toNat : Int), .int .u8 ((G 1).toNat : Int), .int .u8 ((G 2).toNat : Int), .int .u8 ((G 3).toNat : Int)]] w fun e w' => e = .returned (.bool true) ∧ Below w.heap.size w w' := by
  go_enter Try.func28, Try.ntmps28
  go_wp2_with fail
  have hst := (((Below.refl w.heap.size w).alloc (Nat.le_refl _) (.cells #[Vs, Vp, .int .i64 l, .bool s] 25)).alloc (by simp) (.cells #[.int .u8 ((F 0).toNat : Int), .int .u8 ((F 1).toNat : Int), .int .u8 ((F 2).toNat : Int), .int .u8 ((F 3).toNat : Int)] 44)).alloc (by simp <;> omega) (.cells #[.int .u8 ((G 0).toNat : Int), .int .u8 ((G 1).toNat : Int), .int .u8 ((G 2).toNat : Int), .int .u8 ((G 3).toNat : Int)] 44)
  have b1 := ((Box.new w [Vs, Vp, .int .i64 l, .bool s] 25).alloc (.cells #[.int .u8 ((F 0).toNat : Int), .int .u8 ((F 1).toNat : Int), .int .u8 ((F 2).toNat : Int), .int .u8 ((F 3).toNat : Int)] 44)).alloc (.cells #[.int .u8 ((G 0).toNat : Int), .int .u8 ((G 1).toNat : Int), .int .u8 ((G 2).toNat : Int), .int .u8 ((G 3).toNat : Int)] 44)
  have b2 := (Box.newAt (w := w.alloc (.cells #[Vs, Vp, .int .i64 l, .bool s] 25)) (n := w.heap.size + 1) (arrC F) 44 (by simp)).alloc (.cells #[.int .u8 ((G 0).toNat : Int), .int .u8 ((G 1).toNat : Int), .int .u8 ((G 2).toNat : Int), .int .u8 ((G 3).toNat : Int)] 44)
  have b3 := Box.newAt (w := (w.alloc (.cells #[Vs, Vp, .int .i64 l, .bool s] 25)).alloc (.cells #[.int .u8 ((F 0).toNat : Int), .int .u8 ((F 1).toNat : Int), .int .u8 ((F 2).toNat : Int), .int .u8 ((F 3).toNat : Int)] 44)) (n := w.heap.size + 1 + 1) (arrC G) 44 (by simp)
  replace hD := dk_later hD hst
  replace hL := hL.later hst.size
  have hB := hst
  clear hst
  dsimp only [arrC] at b2 b3
  generalize ((w.alloc (.cells #[Vs, Vp, .int .i64 l, .bool s] 25)).alloc (.cells #[.int .u8 ((F 0).toNat : Int), .int .u8 ((F 1).toNat : Int), .int .u8 ((F 2).toNat : Int), .int .u8 ((F 3).toNat : Int)] 44)).alloc (.cells #[.int .u8 ((G 0).toNat : Int), .int .u8 ((G 1).toNat : Int), .int .u8 ((G 2).toNat : Int), .int .u8 ((G 3).toNat : Int)] 44) = w1 at b1 b2 b3 hD hL hB ⊢
  generalize w.heap.size + 1 + 1 = a3 at b3 ⊢
  generalize w.heap.size + 1 = a2 at b2 ⊢
  generalize w.heap.size = a1 at b1 ⊢
  go_loopw [7] (fun i wr => ∃ k : Nat, k ≤ 4 ∧ i = .int .i64 k ∧ Box wr a1 [Vs, Vp, .int .i64 l, .bool s] ∧ Box wr a2 (arrC F) ∧ Box wr a3 (arrC G) ∧ Hid (DkAt wr (Out L) Vs Vp d) ∧ InW L wr ∧ Below w.heap.size w wr) (fun i _ => 4 - (intOf i).toNat)
  case atStart => exact ⟨0, by omega, rfl, b1, b2, b3, hD, hL, hB⟩
  case round =>
    clear b1 b2 b3 hD hL hB
    obtain ⟨k, hk, rfl, b1, b2, b3, hD, hL, hB⟩ := hrel
    rcases Nat.lt_or_ge k 4 with hlt | hge
    · have hkd : decide ((k : Int) < 4) = true := decide_eq_true (by omega)
      obtain ⟨b, hb, hs⟩ := hr.out k hlt
      have HT := Lib.hid hb
      have HS := Lib.hid hs
      clear hb hs
      obtain ⟨z0, z1, z2, z3, z4⟩ : wr.cell? ⟨a1, 0, none⟩ = some Vs ∧ wr.cell? ⟨a1, 1, none⟩ = some Vp ∧ wr.cell? ⟨a1, 2, none⟩ = some (.int .i64 l) ∧ wr.cell? ⟨a1, 3, none⟩ = some (.bool s) ∧ a1 < wr.heap.size := ⟨b1.cell 0, b1.cell 1, b1.cell 2, b1.cell 3, b1.lt⟩
      go_wp2_with fail
      refine (dRead_at k hD hd.out).mono ?_
      rintro e w2 hh
      obtain ⟨A, c, rfl, hb, hbl⟩ := RetBs.is hh hL HT (Lib.hid HS.out.1)
      obtain ⟨g, off, rfl, hgl, q0, q64, q1, q127⟩ := bs_at hb HS.out
      rw [Nat.add_zero] at q0
      clear hh z0 z1 z2 z3 z4
      replace b1 := b1.later hbl
      replace b2 := b2.later hbl
      replace b3 := b3.later hbl
      replace hD := dk_later hD hbl
      replace hL := hL.later hbl.size
      replace hB := hB.trans (hbl.mono hB.size)
      clear hbl hb
      have y2 : w2.cell? ⟨a2, k, none⟩ = some (.int .u8 ((F k).toNat : Int)) := (b2.cell k).trans (arrC_get F hlt)
      have y3 : w2.cell? ⟨a3, k, none⟩ = some (.int .u8 ((G k).toNat : Int)) := (b3.cell k).trans (arrC_get G hlt)
      have l2 := b2.lt
      have l3 := b3.lt
      have e2 : ((((F k).toNat : Nat) : Int) != ((F k).toNat : Int)) = false := by simp
      have e3 : ((((G k).toNat : Nat) : Int) != ((G k).toNat : Int)) = false := by simp
      go_wp2_with fail
      go_quiet (fail)
      go_wp2_with fail
      have hdn := below_drewN (Below.refl w2.heap.size w2) nq
      refine ⟨⟨k + 1, by omega, by go_num, b1.later hdn, b2.later hdn, b3.later hdn, dk_later hD hdn, hL.later hdn.size, hB.trans (hdn.mono hB.size)⟩, by simp [intOf]; omega⟩
    · obtain rfl : k = 4 := by omega
      go_wp2_with fail
      go_ret
      exact ⟨rfl, hB⟩

end Go.Proofs.Ytdmeogkdoeaemaa
