/-
  The law IntervalInside. (Printed by gen_inside.py.)
-/
import Derived.Test.YtmjbcmicjhgciaaYJ
import Derived.Test.YtmjbcmicjhgciaaZG
import Derived.Test.YtmjbcmicjhgciaaKD
import Derived.Test.YtmjbcmicjhgciaaZS
import Derived.StillTailTactics
namespace Go.Proofs.Ytmjbcmicjhgciaa
open Go.RowKit Go.Shelf

/-- The row of seven results. -/
def Row3 (w : World) (v : Value) (l : List (Int × Int × Int)) : Prop := ∃ g, v = .slice (some ⟨g, 0, none⟩) 7 7 ∧ Box w g (cells3 l)
theorem Row3.later {w w' : World} {v : Value} {l : List (Int × Int × Int)} (h : Row3 w v l) (hb : Below w.heap.size w w') : Row3 w' v l := by
  obtain ⟨g, hv, hg⟩ := h
  exact ⟨g, hv, hg.later hb⟩
/-- How far the first loop has come. -/
def ST (k : Nat) (v u : Value) (w : World) (r1 r2 : List (Int × Int × Int)) : Prop := (k = 0 ∧ v = .slice none 0 0 ∧ u = .slice none 0 0) ∨ (k = 1 ∧ v = .slice none 0 0 ∧ Row3 w u r1) ∨ (k = 2 ∧ Row3 w v r1 ∧ Row3 w u r2)
theorem ST.next {k : Nat} {v u u' : Value} {w w' : World} {r1 r2 r : List (Int × Int × Int)} (h : ST k v u w r1 r2) (hb : Below w.heap.size w w') (hr : Row3 w' u' r) (hk : (k = 0 ∧ r = r1) ∨ (k = 1 ∧ r = r2)) : ST (k + 1) u u' w' r1 r2 := by
  rcases hk with ⟨rfl, rfl⟩ | ⟨rfl, rfl⟩
  · rcases h with ⟨_, h2, h3⟩ | ⟨h1, _⟩ | ⟨h1, _⟩
    · exact .inr (.inl ⟨rfl, h3, hr⟩)
    · omega
    · omega
  · rcases h with ⟨h1, _⟩ | ⟨_, h2, h3⟩ | ⟨h1, _⟩
    · omega
    · exact .inr (.inr ⟨rfl, h3.later hb, hr⟩)
    · omega

set_option maxRecDepth 100000 in
set_option maxHeartbeats 4000000 in
theorem inside_early (a b c d a2 b2 c2 d2 nn rr e f : Int) (w : World) (o1 o2 : Bool) (I1 : Hid (insT a b a2 b2 = (o1, e))) (I2 : Hid (insT c d c2 d2 = (o2, f))) (H : Hid ((e = 130 ∧ o1 = false) ∨ (e = 0 ∧ f = 130 ∧ o2 = false) ∨ (e = 0 ∧ f = 0 ∧ o1 = false) ∨ (e = 0 ∧ f = 0 ∧ o1 = true ∧ o2 = false))) : Calls Try.prog 9 #[rng a b, rng c d, rng a2 b2, rng c2 d2, rat nn rr] w fun e w' => e = .returned (.bool true) ∧ Below w.heap.size w w' := by
  go_enter Try.func9, Try.ntmps9
  go_wp2_with fail
  refine (sane_any _).mono ?_
  rintro e w1 ⟨rfl, hb⟩
  have X0 := ((((((Box.newAt (n := w.heap.size) [.int .i64 a, .int .i64 b] 23 (by simp)).alloc _).alloc _).alloc _).alloc _)).later hb
  have X1 := (((((Box.newAt (n := w.heap.size + 1) [.int .i64 c, .int .i64 d] 23 (by simp)).alloc _).alloc _).alloc _)).later hb
  have X2 := ((((Box.newAt (n := w.heap.size + 1 + 1) [.int .i64 a2, .int .i64 b2] 23 (by simp)).alloc _).alloc _)).later hb
  have X3 := (((Box.newAt (n := w.heap.size + 1 + 1 + 1) [.int .i64 c2, .int .i64 d2] 23 (by simp)).alloc _)).later hb
  have X4 := ((Box.newAt (n := w.heap.size + 1 + 1 + 1 + 1) [.int .i64 nn, .int .i64 rr] 31 (by simp))).later hb
  have hB : Below w.heap.size w w1 := (((((((Below.refl w.heap.size w).alloc (by simp <;> omega) _).alloc (by simp <;> omega) _).alloc (by simp <;> omega) _).alloc (by simp <;> omega) _).alloc (by simp <;> omega) _)).trans (hb.mono (by simp <;> omega))
  clear hb
  have X0c0 : w1.cell? ⟨w.heap.size, 0, none⟩ = some (.int .i64 a) := X0.cell 0
  have X0f0 : w1.frozen? ⟨w.heap.size, 0, none⟩ = false := X0.free 0
  have X0c1 : w1.cell? ⟨w.heap.size, 1, none⟩ = some (.int .i64 b) := X0.cell 1
  have X0f1 : w1.frozen? ⟨w.heap.size, 1, none⟩ = false := X0.free 1
  have X0z : w.heap.size < w1.heap.size := X0.lt
  have X2c0 : w1.cell? ⟨w.heap.size + 1 + 1, 0, none⟩ = some (.int .i64 a2) := X2.cell 0
  have X2f0 : w1.frozen? ⟨w.heap.size + 1 + 1, 0, none⟩ = false := X2.free 0
  have X2c1 : w1.cell? ⟨w.heap.size + 1 + 1, 1, none⟩ = some (.int .i64 b2) := X2.cell 1
  have X2f1 : w1.frozen? ⟨w.heap.size + 1 + 1, 1, none⟩ = false := X2.free 1
  have X2z : w.heap.size + 1 + 1 < w1.heap.size := X2.lt
  go_wp2_with fail
  refine ((Inside_any a b a2 b2 _).mono fun _ _ => RetO.at I1).mono ?_
  rintro e w2 ⟨rfl, hb⟩
  clear X0c0 X0f0 X0c1 X0f1 X0z X2c0 X2f0 X2c1 X2f1 X2z
  have X0 := X0.later hb
  have X1 := X1.later hb
  have X2 := X2.later hb
  have X3 := X3.later hb
  have X4 := X4.later hb
  have hB := hB.trans (hb.mono hB.size)
  clear hb
  have X1c0 : w2.cell? ⟨w.heap.size + 1, 0, none⟩ = some (.int .i64 c) := X1.cell 0
  have X1f0 : w2.frozen? ⟨w.heap.size + 1, 0, none⟩ = false := X1.free 0
  have X1c1 : w2.cell? ⟨w.heap.size + 1, 1, none⟩ = some (.int .i64 d) := X1.cell 1
  have X1f1 : w2.frozen? ⟨w.heap.size + 1, 1, none⟩ = false := X1.free 1
  have X1z : w.heap.size + 1 < w2.heap.size := X1.lt
  have X3c0 : w2.cell? ⟨w.heap.size + 1 + 1 + 1, 0, none⟩ = some (.int .i64 c2) := X3.cell 0
  have X3f0 : w2.frozen? ⟨w.heap.size + 1 + 1 + 1, 0, none⟩ = false := X3.free 0
  have X3c1 : w2.cell? ⟨w.heap.size + 1 + 1 + 1, 1, none⟩ = some (.int .i64 d2) := X3.cell 1
  have X3f1 : w2.frozen? ⟨w.heap.size + 1 + 1 + 1, 1, none⟩ = false := X3.free 1
  have X3z : w.heap.size + 1 + 1 + 1 < w2.heap.size := X3.lt
  go_wp2_with fail
  refine ((Inside_any c d c2 d2 _).mono fun _ _ => RetO.at I2).mono ?_
  rintro e w3 ⟨rfl, hb⟩
  clear X1c0 X1f0 X1c1 X1f1 X1z X3c0 X3f0 X3c1 X3f1 X3z
  have X0 := X0.later hb
  have X1 := X1.later hb
  have X2 := X2.later hb
  have X3 := X3.later hb
  have X4 := X4.later hb
  have hB := hB.trans (hb.mono hB.size)
  clear hb
  rcases H.out with ⟨rfl, rfl⟩ | ⟨rfl, rfl, rfl⟩ | ⟨rfl, rfl, rfl⟩ | ⟨rfl, rfl, rfl, rfl⟩
  all_goals
    go_wp2
    go_ret
    exact ⟨rfl, hB⟩

set_option maxRecDepth 100000 in
set_option maxHeartbeats 4000000 in
theorem inside_go (a b c d a2 b2 c2 d2 nn rr : Int) (w : World) (I1 : Hid (insT a b a2 b2 = (true, 0))) (I2 : Hid (insT c d c2 d2 = (true, 0))) : Calls Try.prog 9 #[rng a b, rng c d, rng a2 b2, rng c2 d2, rat nn rr] w fun e w' => e = .returned (.bool true) ∧ Below w.heap.size w w' := by
  go_enter Try.func9, Try.ntmps9
  go_wp2_with fail
  refine (sane_any _).mono ?_
  rintro e w1 ⟨rfl, hb⟩
  have X0 := ((((((Box.newAt (n := w.heap.size) [.int .i64 a, .int .i64 b] 23 (by simp)).alloc _).alloc _).alloc _).alloc _)).later hb
  have X1 := (((((Box.newAt (n := w.heap.size + 1) [.int .i64 c, .int .i64 d] 23 (by simp)).alloc _).alloc _).alloc _)).later hb
  have X2 := ((((Box.newAt (n := w.heap.size + 1 + 1) [.int .i64 a2, .int .i64 b2] 23 (by simp)).alloc _).alloc _)).later hb
  have X3 := (((Box.newAt (n := w.heap.size + 1 + 1 + 1) [.int .i64 c2, .int .i64 d2] 23 (by simp)).alloc _)).later hb
  have X4 := ((Box.newAt (n := w.heap.size + 1 + 1 + 1 + 1) [.int .i64 nn, .int .i64 rr] 31 (by simp))).later hb
  have hB : Below w.heap.size w w1 := (((((((Below.refl w.heap.size w).alloc (by simp <;> omega) _).alloc (by simp <;> omega) _).alloc (by simp <;> omega) _).alloc (by simp <;> omega) _).alloc (by simp <;> omega) _)).trans (hb.mono (by simp <;> omega))
  clear hb
  have X0c0 : w1.cell? ⟨w.heap.size, 0, none⟩ = some (.int .i64 a) := X0.cell 0
  have X0f0 : w1.frozen? ⟨w.heap.size, 0, none⟩ = false := X0.free 0
  have X0c1 : w1.cell? ⟨w.heap.size, 1, none⟩ = some (.int .i64 b) := X0.cell 1
  have X0f1 : w1.frozen? ⟨w.heap.size, 1, none⟩ = false := X0.free 1
  have X0z : w.heap.size < w1.heap.size := X0.lt
  have X2c0 : w1.cell? ⟨w.heap.size + 1 + 1, 0, none⟩ = some (.int .i64 a2) := X2.cell 0
  have X2f0 : w1.frozen? ⟨w.heap.size + 1 + 1, 0, none⟩ = false := X2.free 0
  have X2c1 : w1.cell? ⟨w.heap.size + 1 + 1, 1, none⟩ = some (.int .i64 b2) := X2.cell 1
  have X2f1 : w1.frozen? ⟨w.heap.size + 1 + 1, 1, none⟩ = false := X2.free 1
  have X2z : w.heap.size + 1 + 1 < w1.heap.size := X2.lt
  go_wp2_with fail
  refine ((Inside_any a b a2 b2 _).mono fun _ _ => RetO.at I1).mono ?_
  rintro e w2 ⟨rfl, hb⟩
  clear X0c0 X0f0 X0c1 X0f1 X0z X2c0 X2f0 X2c1 X2f1 X2z
  have X0 := X0.later hb
  have X1 := X1.later hb
  have X2 := X2.later hb
  have X3 := X3.later hb
  have X4 := X4.later hb
  have hB := hB.trans (hb.mono hB.size)
  clear hb
  have X1c0 : w2.cell? ⟨w.heap.size + 1, 0, none⟩ = some (.int .i64 c) := X1.cell 0
  have X1f0 : w2.frozen? ⟨w.heap.size + 1, 0, none⟩ = false := X1.free 0
  have X1c1 : w2.cell? ⟨w.heap.size + 1, 1, none⟩ = some (.int .i64 d) := X1.cell 1
  have X1f1 : w2.frozen? ⟨w.heap.size + 1, 1, none⟩ = false := X1.free 1
  have X1z : w.heap.size + 1 < w2.heap.size := X1.lt
  have X3c0 : w2.cell? ⟨w.heap.size + 1 + 1 + 1, 0, none⟩ = some (.int .i64 c2) := X3.cell 0
  have X3f0 : w2.frozen? ⟨w.heap.size + 1 + 1 + 1, 0, none⟩ = false := X3.free 0
  have X3c1 : w2.cell? ⟨w.heap.size + 1 + 1 + 1, 1, none⟩ = some (.int .i64 d2) := X3.cell 1
  have X3f1 : w2.frozen? ⟨w.heap.size + 1 + 1 + 1, 1, none⟩ = false := X3.free 1
  have X3z : w.heap.size + 1 + 1 + 1 < w2.heap.size := X3.lt
  go_wp2_with fail
  refine ((Inside_any c d c2 d2 _).mono fun _ _ => RetO.at I2).mono ?_
  rintro e w3 ⟨rfl, hb⟩
  clear X1c0 X1f0 X1c1 X1f1 X1z X3c0 X3f0 X3c1 X3f1 X3z
  have X0 := X0.later hb
  have X1 := X1.later hb
  have X2 := X2.later hb
  have X3 := X3.later hb
  have X4 := X4.later hb
  have hB := hB.trans (hb.mono hB.size)
  clear hb
  have X0c0 : w3.cell? ⟨w.heap.size, 0, none⟩ = some (.int .i64 a) := X0.cell 0
  have X0f0 : w3.frozen? ⟨w.heap.size, 0, none⟩ = false := X0.free 0
  have X0c1 : w3.cell? ⟨w.heap.size, 1, none⟩ = some (.int .i64 b) := X0.cell 1
  have X0f1 : w3.frozen? ⟨w.heap.size, 1, none⟩ = false := X0.free 1
  have X0z : w.heap.size < w3.heap.size := X0.lt
  have X1c0 : w3.cell? ⟨w.heap.size + 1, 0, none⟩ = some (.int .i64 c) := X1.cell 0
  have X1f0 : w3.frozen? ⟨w.heap.size + 1, 0, none⟩ = false := X1.free 0
  have X1c1 : w3.cell? ⟨w.heap.size + 1, 1, none⟩ = some (.int .i64 d) := X1.cell 1
  have X1f1 : w3.frozen? ⟨w.heap.size + 1, 1, none⟩ = false := X1.free 1
  have X1z : w.heap.size + 1 < w3.heap.size := X1.lt
  have X2c0 : w3.cell? ⟨w.heap.size + 1 + 1, 0, none⟩ = some (.int .i64 a2) := X2.cell 0
  have X2f0 : w3.frozen? ⟨w.heap.size + 1 + 1, 0, none⟩ = false := X2.free 0
  have X2c1 : w3.cell? ⟨w.heap.size + 1 + 1, 1, none⟩ = some (.int .i64 b2) := X2.cell 1
  have X2f1 : w3.frozen? ⟨w.heap.size + 1 + 1, 1, none⟩ = false := X2.free 1
  have X2z : w.heap.size + 1 + 1 < w3.heap.size := X2.lt
  have X3c0 : w3.cell? ⟨w.heap.size + 1 + 1 + 1, 0, none⟩ = some (.int .i64 c2) := X3.cell 0
  have X3f0 : w3.frozen? ⟨w.heap.size + 1 + 1 + 1, 0, none⟩ = false := X3.free 0
  have X3c1 : w3.cell? ⟨w.heap.size + 1 + 1 + 1, 1, none⟩ = some (.int .i64 d2) := X3.cell 1
  have X3f1 : w3.frozen? ⟨w.heap.size + 1 + 1 + 1, 1, none⟩ = false := X3.free 1
  have X3z : w.heap.size + 1 + 1 + 1 < w3.heap.size := X3.lt
  go_wp2_with fail
  clear X0c0 X0f0 X0c1 X0f1 X0z X1c0 X1f0 X1c1 X1f1 X1z X2c0 X2f0 X2c1 X2f1 X2z X3c0 X3f0 X3c1 X3f1 X3z
  have hst := (Below.refl w3.heap.size w3).alloc (Nat.le_refl _) (.cells #[.int .i64 a, .int .i64 b, .int .i64 c, .int .i64 d, .int .i64 a2, .int .i64 b2, .int .i64 c2, .int .i64 d2] 44)
  have PX := Box.new w3 [.int .i64 a, .int .i64 b, .int .i64 c, .int .i64 d, .int .i64 a2, .int .i64 b2, .int .i64 c2, .int .i64 d2] 44
  have RX := X4.later hst
  have hB := hB.trans (hst.mono hB.size)
  clear hst X0 X1 X2 X3 X4
  generalize w3.alloc (.cells #[.int .i64 a, .int .i64 b, .int .i64 c, .int .i64 d, .int .i64 a2, .int .i64 b2, .int .i64 c2, .int .i64 d2] 44) = W0 at PX RX hB ⊢
  generalize w3.heap.size = pa at PX ⊢
  generalize w.heap.size + 1 + 1 + 1 + 1 = ra at RX ⊢
  go_loopw [15, 16, 72] (fun s15 s16 i wr => ∃ k : Nat, k ≤ 2 ∧ i = .int .i64 k ∧ Box wr pa [.int .i64 a, .int .i64 b, .int .i64 c, .int .i64 d, .int .i64 a2, .int .i64 b2, .int .i64 c2, .int .i64 d2] ∧ Box wr ra [.int .i64 nn, .int .i64 rr] ∧ Hid (ST k s15 s16 wr (resL a b c d nn rr) (resL a2 b2 c2 d2 nn rr)) ∧ Below w.heap.size w wr) (fun _ _ i _ => 2 - (intOf i).toNat)
  case atStart => exact ⟨0, by omega, rfl, PX, RX, Lib.hid (.inl ⟨rfl, rfl, rfl⟩), hB⟩
  case round =>
    clear PX RX hB
    obtain ⟨k, hk, rfl, PX, RX, hST, hB⟩ := hrel
    rcases Nat.lt_or_ge k 2 with hlt | hge
    rotate_left
    · obtain rfl : k = 2 := by omega
      obtain ⟨g1, g2, rfl, rfl, G1, G2⟩ : ∃ g1 g2 : Nat, u15 = .slice (some ⟨g1, 0, none⟩) 7 7 ∧ u16 = .slice (some ⟨g2, 0, none⟩) 7 7 ∧ Box wr g1 (cells3 (resL a b c d nn rr)) ∧ Box wr g2 (cells3 (resL a2 b2 c2 d2 nn rr)) := by
        rcases hST.out with ⟨h, _⟩ | ⟨h, _⟩ | ⟨_, ⟨g1, h1, G1⟩, ⟨g2, h2, G2⟩⟩
        · omega
        · omega
        · exact ⟨g1, g2, h1, h2, G1, G2⟩
      clear hST PX RX hk hge
      have HIN : Hid (∀ k, k < 7 → In3 (((resL a b c d nn rr)).getD k (0, 0, 0)) (((resL a2 b2 c2 d2 nn rr)).getD k (0, 0, 0))) := fun k hk => res_in I1.out I2.out nn rr hk
      have L1 : ((resL a b c d nn rr)).length = 7 := rfl
      have L2 : ((resL a2 b2 c2 d2 nn rr)).length = 7 := rfl
      generalize (resL a b c d nn rr) = l1 at G1 HIN L1
      generalize (resL a2 b2 c2 d2 nn rr) = l2 at G2 HIN L2
      go_wp2_with fail
      go_loopw [153] (fun i wq => ∃ k : Nat, k ≤ 7 ∧ i = .int .i64 k ∧ Box wq g1 (cells3 l1) ∧ Box wq g2 (cells3 l2) ∧ Below w.heap.size w wq) (fun i _ => 7 - (intOf i).toNat)
      case atStart => exact ⟨0, by omega, rfl, G1, G2, hB⟩
      case round =>
        clear G1 G2 hB
        obtain ⟨k, hk, rfl, G1, G2, hB⟩ := hrel
        obtain ⟨wq, rfl⟩ : ∃ wq : World, wq = wr := ⟨_, rfl⟩
        rcases Nat.lt_or_ge k 7 with hlt | hge
        rotate_left
        · obtain rfl : k = 7 := by omega
          go_wp2
          go_ret
          exact ⟨rfl, hB⟩
        have hk7 : (k : Int) < 7 := by omega
        obtain ⟨x, z, e, hx⟩ : ∃ x z e, l1.getD k (0, 0, 0) = (x, z, e) := ⟨_, _, _, rfl⟩
        obtain ⟨x2, z2, e2, hx2⟩ : ∃ x z e, l2.getD k (0, 0, 0) = (x, z, e) := ⟨_, _, _, rfl⟩
        have hin := HIN.out k hlt
        rw [hx, hx2] at hin
        obtain ⟨q0, q1, q2⟩ := cells3_get (l := l1) (k := k) (by omega)
        obtain ⟨p0, p1, p2⟩ := cells3_get (l := l2) (k := k) (by omega)
        rw [hx] at q0 q1 q2
        rw [hx2] at p0 p1 p2
        have u0 : wq.cell? ⟨g1, k * 3, none⟩ = some (.int .i64 x) := (G1.cell _).trans q0
        have u1 : wq.cell? ⟨g1, k * 3 + 1, none⟩ = some (.int .i64 z) := (G1.cell _).trans q1
        have u2 : wq.cell? ⟨g1, k * 3 + 2, none⟩ = some (.int .i64 e) := (G1.cell _).trans q2
        have v0 : wq.cell? ⟨g2, k * 3, none⟩ = some (.int .i64 x2) := (G2.cell _).trans p0
        have v1 : wq.cell? ⟨g2, k * 3 + 1, none⟩ = some (.int .i64 z2) := (G2.cell _).trans p1
        have v2 : wq.cell? ⟨g2, k * 3 + 2, none⟩ = some (.int .i64 e2) := (G2.cell _).trans p2
        have Hin := Lib.hid hin
        clear hin q0 q1 p0 p1 p2 hx hx2
        have uz := G1.lt
        have vz := G2.lt
        by_cases h0 : e2 = 0
        rotate_left
        · have hn : (e2 != 0) = true := by simpa using h0
          go_wp2
          exact ⟨⟨k + 1, by omega, by go_num, G1, G2, hB⟩, by simp [intOf] <;> omega⟩
        · subst h0
          obtain ⟨rfl, hi⟩ := Hin.out rfl
          have Hi := Lib.hid hi
          clear hi Hin
          go_upto_region 24 with fail
          go_cut [34, 35] from 163 to 175 (fun s34 s35 wx => s34 = .bool true ∧ s35 = .int .i64 0 ∧ Below wq.heap.size wq wx)
          case first =>
            go_region_with (first | (go_at_call 31; refine ((Inside_any x z x2 z2 _).mono fun _ _ => RetO.at Hi).mono ?_; rintro er wz ⟨rfl, hb⟩))
            all_goals (go_wp2_with fail; go_meet)
            all_goals exact ⟨rfl, rfl, (Below.refl _ _).drew.trans (hb.mono (by simp <;> omega))⟩
          case rest =>
            obtain ⟨rfl, rfl, hb⟩ := hcut
            replace G1 := G1.later hb
            replace G2 := G2.later hb
            replace hB := hB.trans (hb.mono hB.size)
            clear u0 u1 u2 v0 v1 v2 uz vz
            have u2 : wc.cell? ⟨g1, k * 3 + 2, none⟩ = some (.int .i64 0) := (G1.cell _).trans q2
            have uz := G1.lt
            go_wp2
            exact ⟨⟨k + 1, by omega, by go_num, G1, G2, hB⟩, by simp [intOf] <;> omega⟩
    have hk2 : (k : Int) < 2 := by omega
    have HP : ∃ p0 p1 q0 q1 : Int, wr.cell? ⟨pa, k * 4, none⟩ = some (.int .i64 p0) ∧ wr.cell? ⟨pa, k * 4 + 1, none⟩ = some (.int .i64 p1) ∧ wr.cell? ⟨pa, k * 4 + 2, none⟩ = some (.int .i64 q0) ∧ wr.cell? ⟨pa, k * 4 + 3, none⟩ = some (.int .i64 q1) ∧ ((k = 0 ∧ resL p0 p1 q0 q1 nn rr = (resL a b c d nn rr)) ∨ (k = 1 ∧ resL p0 p1 q0 q1 nn rr = (resL a2 b2 c2 d2 nn rr))) := by
      rcases (show k = 0 ∨ k = 1 by omega) with rfl | rfl
      · exact ⟨a, b, c, d, PX.cell 0, PX.cell 1, PX.cell 2, PX.cell 3, .inl ⟨rfl, rfl⟩⟩
      · exact ⟨a2, b2, c2, d2, PX.cell 4, PX.cell 5, PX.cell 6, PX.cell 7, .inr ⟨rfl, rfl⟩⟩
    obtain ⟨p0, p1, q0, q1, y0, y1, y2, y3, hp⟩ := HP
    have HP := Lib.hid hp
    clear hp
    have yz := PX.lt
    obtain ⟨x1, z1, e1, hr⟩ : ∃ x z e, addT p0 p1 q0 q1 = (x, z, e) := ⟨_, _, _, rfl⟩
    have A1 := Lib.hid hr
    obtain ⟨x2, z2, e2, hr⟩ : ∃ x z e, subT p0 p1 q0 q1 = (x, z, e) := ⟨_, _, _, rfl⟩
    have A2 := Lib.hid hr
    obtain ⟨x3, z3, e3, hr⟩ : ∃ x z e, mulT p0 p1 q0 q1 = (x, z, e) := ⟨_, _, _, rfl⟩
    have A3 := Lib.hid hr
    obtain ⟨x4, z4, e4, hr⟩ : ∃ x z e, sqT p0 p1 = (x, z, e) := ⟨_, _, _, rfl⟩
    have A4 := Lib.hid hr
    obtain ⟨x5, z5, e5, hr⟩ : ∃ x z e, scT p0 p1 nn rr (ratC nn rr) = (x, z, e) := ⟨_, _, _, rfl⟩
    have A5 := Lib.hid hr
    obtain ⟨x6, z6, e6, hr⟩ : ∃ x z e, rootT p0 p1 = (x, z, e) := ⟨_, _, _, rfl⟩
    have A6 := Lib.hid hr
    obtain ⟨x7, z7, e7, hr⟩ : ∃ x z e, hul2T p0 p1 q0 q1 = (x, z, e) := ⟨_, _, _, rfl⟩
    have A7 := Lib.hid hr
    clear hr
    have hW := Below.refl wr.heap.size wr
    go_wp2_with fail
    refine ((Add_any p0 p1 q0 q1 _).mono fun _ _ => Ret.at A1).mono ?_
    rintro e w11 ⟨rfl, hb⟩
    have Q := ((Box.newAt (w := wr) (n := wr.heap.size) [.int .i64 p0, .int .i64 p1, .int .i64 q0, .int .i64 q1] 44 (by simp))).later hb
    have PX := ((PX.alloc (.cells #[.int .i64 p0, .int .i64 p1, .int .i64 q0, .int .i64 q1] 44))).later hb
    have RX := ((RX.alloc (.cells #[.int .i64 p0, .int .i64 p1, .int .i64 q0, .int .i64 q1] 44))).later hb
    have hB := (hB.alloc hB.size (.cells #[.int .i64 p0, .int .i64 p1, .int .i64 q0, .int .i64 q1] 44)).trans (hb.mono (by have := hB.size; simp <;> omega))
    have hW := (hW.alloc hW.size (.cells #[.int .i64 p0, .int .i64 p1, .int .i64 q0, .int .i64 q1] 44)).trans (hb.mono (by have := hW.size; simp <;> omega))
    clear hb
    clear y0 y1 y2 y3 yz
    have Qc0 : w11.cell? ⟨wr.heap.size, 0, none⟩ = some (.int .i64 p0) := Q.cell 0
    have Qf0 : w11.frozen? ⟨wr.heap.size, 0, none⟩ = false := Q.free 0
    have Qc1 : w11.cell? ⟨wr.heap.size, 1, none⟩ = some (.int .i64 p1) := Q.cell 1
    have Qf1 : w11.frozen? ⟨wr.heap.size, 1, none⟩ = false := Q.free 1
    have Qc2 : w11.cell? ⟨wr.heap.size, 2, none⟩ = some (.int .i64 q0) := Q.cell 2
    have Qf2 : w11.frozen? ⟨wr.heap.size, 2, none⟩ = false := Q.free 2
    have Qc3 : w11.cell? ⟨wr.heap.size, 3, none⟩ = some (.int .i64 q1) := Q.cell 3
    have Qf3 : w11.frozen? ⟨wr.heap.size, 3, none⟩ = false := Q.free 3
    have Qz : wr.heap.size < w11.heap.size := Q.lt
    go_wp2_with fail
    refine ((Sub_any p0 p1 q0 q1 _).mono fun _ _ => Ret.at A2).mono ?_
    rintro e w12 ⟨rfl, hb⟩
    clear Qc0 Qf0 Qc1 Qf1 Qc2 Qf2 Qc3 Qf3 Qz
    have Y1 := ((Box.newAt (w := w11) (n := w11.heap.size) [.int .i64 x1, .int .i64 z1] 23 (by simp))).later hb
    have PX := ((PX.alloc (.cells #[.int .i64 x1, .int .i64 z1] 23))).later hb
    have RX := ((RX.alloc (.cells #[.int .i64 x1, .int .i64 z1] 23))).later hb
    have Q := ((Q.alloc (.cells #[.int .i64 x1, .int .i64 z1] 23))).later hb
    have hB := (hB.alloc hB.size (.cells #[.int .i64 x1, .int .i64 z1] 23)).trans (hb.mono (by have := hB.size; simp <;> omega))
    have hW := (hW.alloc hW.size (.cells #[.int .i64 x1, .int .i64 z1] 23)).trans (hb.mono (by have := hW.size; simp <;> omega))
    clear hb
    have Qc0 : w12.cell? ⟨wr.heap.size, 0, none⟩ = some (.int .i64 p0) := Q.cell 0
    have Qf0 : w12.frozen? ⟨wr.heap.size, 0, none⟩ = false := Q.free 0
    have Qc1 : w12.cell? ⟨wr.heap.size, 1, none⟩ = some (.int .i64 p1) := Q.cell 1
    have Qf1 : w12.frozen? ⟨wr.heap.size, 1, none⟩ = false := Q.free 1
    have Qc2 : w12.cell? ⟨wr.heap.size, 2, none⟩ = some (.int .i64 q0) := Q.cell 2
    have Qf2 : w12.frozen? ⟨wr.heap.size, 2, none⟩ = false := Q.free 2
    have Qc3 : w12.cell? ⟨wr.heap.size, 3, none⟩ = some (.int .i64 q1) := Q.cell 3
    have Qf3 : w12.frozen? ⟨wr.heap.size, 3, none⟩ = false := Q.free 3
    have Qz : wr.heap.size < w12.heap.size := Q.lt
    go_wp2_with fail
    refine ((Mul_any p0 p1 q0 q1 _).mono fun _ _ => Ret.at A3).mono ?_
    rintro e w13 ⟨rfl, hb⟩
    clear Qc0 Qf0 Qc1 Qf1 Qc2 Qf2 Qc3 Qf3 Qz
    have Y2 := ((Box.newAt (w := w12) (n := w12.heap.size) [.int .i64 x2, .int .i64 z2] 23 (by simp))).later hb
    have PX := ((PX.alloc (.cells #[.int .i64 x2, .int .i64 z2] 23))).later hb
    have RX := ((RX.alloc (.cells #[.int .i64 x2, .int .i64 z2] 23))).later hb
    have Q := ((Q.alloc (.cells #[.int .i64 x2, .int .i64 z2] 23))).later hb
    have Y1 := ((Y1.alloc (.cells #[.int .i64 x2, .int .i64 z2] 23))).later hb
    have hB := (hB.alloc hB.size (.cells #[.int .i64 x2, .int .i64 z2] 23)).trans (hb.mono (by have := hB.size; simp <;> omega))
    have hW := (hW.alloc hW.size (.cells #[.int .i64 x2, .int .i64 z2] 23)).trans (hb.mono (by have := hW.size; simp <;> omega))
    clear hb
    have Qc0 : w13.cell? ⟨wr.heap.size, 0, none⟩ = some (.int .i64 p0) := Q.cell 0
    have Qf0 : w13.frozen? ⟨wr.heap.size, 0, none⟩ = false := Q.free 0
    have Qc1 : w13.cell? ⟨wr.heap.size, 1, none⟩ = some (.int .i64 p1) := Q.cell 1
    have Qf1 : w13.frozen? ⟨wr.heap.size, 1, none⟩ = false := Q.free 1
    have Qc2 : w13.cell? ⟨wr.heap.size, 2, none⟩ = some (.int .i64 q0) := Q.cell 2
    have Qf2 : w13.frozen? ⟨wr.heap.size, 2, none⟩ = false := Q.free 2
    have Qc3 : w13.cell? ⟨wr.heap.size, 3, none⟩ = some (.int .i64 q1) := Q.cell 3
    have Qf3 : w13.frozen? ⟨wr.heap.size, 3, none⟩ = false := Q.free 3
    have Qz : wr.heap.size < w13.heap.size := Q.lt
    go_wp2_with fail
    refine ((Square_any p0 p1 _).mono fun _ _ => Ret.at A4).mono ?_
    rintro e w14 ⟨rfl, hb⟩
    clear Qc0 Qf0 Qc1 Qf1 Qc2 Qf2 Qc3 Qf3 Qz
    have Y3 := ((Box.newAt (w := w13) (n := w13.heap.size) [.int .i64 x3, .int .i64 z3] 23 (by simp))).later hb
    have PX := ((PX.alloc (.cells #[.int .i64 x3, .int .i64 z3] 23))).later hb
    have RX := ((RX.alloc (.cells #[.int .i64 x3, .int .i64 z3] 23))).later hb
    have Q := ((Q.alloc (.cells #[.int .i64 x3, .int .i64 z3] 23))).later hb
    have Y1 := ((Y1.alloc (.cells #[.int .i64 x3, .int .i64 z3] 23))).later hb
    have Y2 := ((Y2.alloc (.cells #[.int .i64 x3, .int .i64 z3] 23))).later hb
    have hB := (hB.alloc hB.size (.cells #[.int .i64 x3, .int .i64 z3] 23)).trans (hb.mono (by have := hB.size; simp <;> omega))
    have hW := (hW.alloc hW.size (.cells #[.int .i64 x3, .int .i64 z3] 23)).trans (hb.mono (by have := hW.size; simp <;> omega))
    clear hb
    have Qc0 : w14.cell? ⟨wr.heap.size, 0, none⟩ = some (.int .i64 p0) := Q.cell 0
    have Qf0 : w14.frozen? ⟨wr.heap.size, 0, none⟩ = false := Q.free 0
    have Qc1 : w14.cell? ⟨wr.heap.size, 1, none⟩ = some (.int .i64 p1) := Q.cell 1
    have Qf1 : w14.frozen? ⟨wr.heap.size, 1, none⟩ = false := Q.free 1
    have Qc2 : w14.cell? ⟨wr.heap.size, 2, none⟩ = some (.int .i64 q0) := Q.cell 2
    have Qf2 : w14.frozen? ⟨wr.heap.size, 2, none⟩ = false := Q.free 2
    have Qc3 : w14.cell? ⟨wr.heap.size, 3, none⟩ = some (.int .i64 q1) := Q.cell 3
    have Qf3 : w14.frozen? ⟨wr.heap.size, 3, none⟩ = false := Q.free 3
    have Qz : wr.heap.size < w14.heap.size := Q.lt
    have RXc0 : w14.cell? ⟨ra, 0, none⟩ = some (.int .i64 nn) := RX.cell 0
    have RXf0 : w14.frozen? ⟨ra, 0, none⟩ = false := RX.free 0
    have RXc1 : w14.cell? ⟨ra, 1, none⟩ = some (.int .i64 rr) := RX.cell 1
    have RXf1 : w14.frozen? ⟨ra, 1, none⟩ = false := RX.free 1
    have RXz : ra < w14.heap.size := RX.lt
    go_wp2_with fail
    refine ((Scale_any p0 p1 nn rr _).mono fun _ _ => Ret.at A5).mono ?_
    rintro e w15 ⟨rfl, hb⟩
    clear Qc0 Qf0 Qc1 Qf1 Qc2 Qf2 Qc3 Qf3 Qz RXc0 RXf0 RXc1 RXf1 RXz
    have Y4 := ((Box.newAt (w := w14) (n := w14.heap.size) [.int .i64 x4, .int .i64 z4] 23 (by simp))).later hb
    have PX := ((PX.alloc (.cells #[.int .i64 x4, .int .i64 z4] 23))).later hb
    have RX := ((RX.alloc (.cells #[.int .i64 x4, .int .i64 z4] 23))).later hb
    have Q := ((Q.alloc (.cells #[.int .i64 x4, .int .i64 z4] 23))).later hb
    have Y1 := ((Y1.alloc (.cells #[.int .i64 x4, .int .i64 z4] 23))).later hb
    have Y2 := ((Y2.alloc (.cells #[.int .i64 x4, .int .i64 z4] 23))).later hb
    have Y3 := ((Y3.alloc (.cells #[.int .i64 x4, .int .i64 z4] 23))).later hb
    have hB := (hB.alloc hB.size (.cells #[.int .i64 x4, .int .i64 z4] 23)).trans (hb.mono (by have := hB.size; simp <;> omega))
    have hW := (hW.alloc hW.size (.cells #[.int .i64 x4, .int .i64 z4] 23)).trans (hb.mono (by have := hW.size; simp <;> omega))
    clear hb
    have Qc0 : w15.cell? ⟨wr.heap.size, 0, none⟩ = some (.int .i64 p0) := Q.cell 0
    have Qf0 : w15.frozen? ⟨wr.heap.size, 0, none⟩ = false := Q.free 0
    have Qc1 : w15.cell? ⟨wr.heap.size, 1, none⟩ = some (.int .i64 p1) := Q.cell 1
    have Qf1 : w15.frozen? ⟨wr.heap.size, 1, none⟩ = false := Q.free 1
    have Qc2 : w15.cell? ⟨wr.heap.size, 2, none⟩ = some (.int .i64 q0) := Q.cell 2
    have Qf2 : w15.frozen? ⟨wr.heap.size, 2, none⟩ = false := Q.free 2
    have Qc3 : w15.cell? ⟨wr.heap.size, 3, none⟩ = some (.int .i64 q1) := Q.cell 3
    have Qf3 : w15.frozen? ⟨wr.heap.size, 3, none⟩ = false := Q.free 3
    have Qz : wr.heap.size < w15.heap.size := Q.lt
    go_wp2_with fail
    refine ((Root_any p0 p1 _).mono fun _ _ => Ret.at A6).mono ?_
    rintro e w16 ⟨rfl, hb⟩
    clear Qc0 Qf0 Qc1 Qf1 Qc2 Qf2 Qc3 Qf3 Qz
    have Y5 := ((Box.newAt (w := w15) (n := w15.heap.size) [.int .i64 x5, .int .i64 z5] 23 (by simp))).later hb
    have PX := ((PX.alloc (.cells #[.int .i64 x5, .int .i64 z5] 23))).later hb
    have RX := ((RX.alloc (.cells #[.int .i64 x5, .int .i64 z5] 23))).later hb
    have Q := ((Q.alloc (.cells #[.int .i64 x5, .int .i64 z5] 23))).later hb
    have Y1 := ((Y1.alloc (.cells #[.int .i64 x5, .int .i64 z5] 23))).later hb
    have Y2 := ((Y2.alloc (.cells #[.int .i64 x5, .int .i64 z5] 23))).later hb
    have Y3 := ((Y3.alloc (.cells #[.int .i64 x5, .int .i64 z5] 23))).later hb
    have Y4 := ((Y4.alloc (.cells #[.int .i64 x5, .int .i64 z5] 23))).later hb
    have hB := (hB.alloc hB.size (.cells #[.int .i64 x5, .int .i64 z5] 23)).trans (hb.mono (by have := hB.size; simp <;> omega))
    have hW := (hW.alloc hW.size (.cells #[.int .i64 x5, .int .i64 z5] 23)).trans (hb.mono (by have := hW.size; simp <;> omega))
    clear hb
    have Qc0 : w16.cell? ⟨wr.heap.size, 0, none⟩ = some (.int .i64 p0) := Q.cell 0
    have Qf0 : w16.frozen? ⟨wr.heap.size, 0, none⟩ = false := Q.free 0
    have Qc1 : w16.cell? ⟨wr.heap.size, 1, none⟩ = some (.int .i64 p1) := Q.cell 1
    have Qf1 : w16.frozen? ⟨wr.heap.size, 1, none⟩ = false := Q.free 1
    have Qc2 : w16.cell? ⟨wr.heap.size, 2, none⟩ = some (.int .i64 q0) := Q.cell 2
    have Qf2 : w16.frozen? ⟨wr.heap.size, 2, none⟩ = false := Q.free 2
    have Qc3 : w16.cell? ⟨wr.heap.size, 3, none⟩ = some (.int .i64 q1) := Q.cell 3
    have Qf3 : w16.frozen? ⟨wr.heap.size, 3, none⟩ = false := Q.free 3
    have Qz : wr.heap.size < w16.heap.size := Q.lt
    go_wp2_with fail
    refine ((Hull_any p0 p1 q0 q1 _).mono fun _ _ => Ret.at A7).mono ?_
    rintro e w17 ⟨rfl, hb⟩
    clear Qc0 Qf0 Qc1 Qf1 Qc2 Qf2 Qc3 Qf3 Qz
    have Y6 := ((Box.newAt (w := w16) (n := w16.heap.size) [.int .i64 x6, .int .i64 z6] 23 (by simp))).later hb
    have PX := ((PX.alloc (.cells #[.int .i64 x6, .int .i64 z6] 23))).later hb
    have RX := ((RX.alloc (.cells #[.int .i64 x6, .int .i64 z6] 23))).later hb
    have Q := ((Q.alloc (.cells #[.int .i64 x6, .int .i64 z6] 23))).later hb
    have Y1 := ((Y1.alloc (.cells #[.int .i64 x6, .int .i64 z6] 23))).later hb
    have Y2 := ((Y2.alloc (.cells #[.int .i64 x6, .int .i64 z6] 23))).later hb
    have Y3 := ((Y3.alloc (.cells #[.int .i64 x6, .int .i64 z6] 23))).later hb
    have Y4 := ((Y4.alloc (.cells #[.int .i64 x6, .int .i64 z6] 23))).later hb
    have Y5 := ((Y5.alloc (.cells #[.int .i64 x6, .int .i64 z6] 23))).later hb
    have hB := (hB.alloc hB.size (.cells #[.int .i64 x6, .int .i64 z6] 23)).trans (hb.mono (by have := hB.size; simp <;> omega))
    have hW := (hW.alloc hW.size (.cells #[.int .i64 x6, .int .i64 z6] 23)).trans (hb.mono (by have := hW.size; simp <;> omega))
    clear hb
    go_upto_region 18 with fail
    have PX := (PX.alloc (.cells #[.int .i64 x7, .int .i64 z7] 23))
    have RX := (RX.alloc (.cells #[.int .i64 x7, .int .i64 z7] 23))
    have Q := (Q.alloc (.cells #[.int .i64 x7, .int .i64 z7] 23))
    have Y1 := (Y1.alloc (.cells #[.int .i64 x7, .int .i64 z7] 23))
    have Y2 := (Y2.alloc (.cells #[.int .i64 x7, .int .i64 z7] 23))
    have Y3 := (Y3.alloc (.cells #[.int .i64 x7, .int .i64 z7] 23))
    have Y4 := (Y4.alloc (.cells #[.int .i64 x7, .int .i64 z7] 23))
    have Y5 := (Y5.alloc (.cells #[.int .i64 x7, .int .i64 z7] 23))
    have Y6 := (Y6.alloc (.cells #[.int .i64 x7, .int .i64 z7] 23))
    have Y7 := (Box.newAt (w := w17) (n := w17.heap.size) [.int .i64 x7, .int .i64 z7] 23 (by simp))
    have hB := (hB.alloc hB.size (.cells #[.int .i64 x7, .int .i64 z7] 23))
    have hW := (hW.alloc hW.size (.cells #[.int .i64 x7, .int .i64 z7] 23))
    generalize (w17.alloc (.cells #[.int .i64 x7, .int .i64 z7] 23)) = w18 at hB hW PX RX Q Y1 Y2 Y3 Y4 Y5 Y6 Y7 ⊢
    have d10 : ∀ x : Later w18, x.w.cell? ⟨w11.heap.size, 0, none⟩ = some (.int .i64 x1) := Later.cell (Y1.cell 0) Y1.lt
    have d11 : ∀ x : Later w18, x.w.cell? ⟨w11.heap.size, 1, none⟩ = some (.int .i64 z1) := Later.cell (Y1.cell 1) Y1.lt
    have d20 : ∀ x : Later w18, x.w.cell? ⟨w12.heap.size, 0, none⟩ = some (.int .i64 x2) := Later.cell (Y2.cell 0) Y2.lt
    have d21 : ∀ x : Later w18, x.w.cell? ⟨w12.heap.size, 1, none⟩ = some (.int .i64 z2) := Later.cell (Y2.cell 1) Y2.lt
    have d30 : ∀ x : Later w18, x.w.cell? ⟨w13.heap.size, 0, none⟩ = some (.int .i64 x3) := Later.cell (Y3.cell 0) Y3.lt
    have d31 : ∀ x : Later w18, x.w.cell? ⟨w13.heap.size, 1, none⟩ = some (.int .i64 z3) := Later.cell (Y3.cell 1) Y3.lt
    have d40 : ∀ x : Later w18, x.w.cell? ⟨w14.heap.size, 0, none⟩ = some (.int .i64 x4) := Later.cell (Y4.cell 0) Y4.lt
    have d41 : ∀ x : Later w18, x.w.cell? ⟨w14.heap.size, 1, none⟩ = some (.int .i64 z4) := Later.cell (Y4.cell 1) Y4.lt
    have d50 : ∀ x : Later w18, x.w.cell? ⟨w15.heap.size, 0, none⟩ = some (.int .i64 x5) := Later.cell (Y5.cell 0) Y5.lt
    have d51 : ∀ x : Later w18, x.w.cell? ⟨w15.heap.size, 1, none⟩ = some (.int .i64 z5) := Later.cell (Y5.cell 1) Y5.lt
    have d60 : ∀ x : Later w18, x.w.cell? ⟨w16.heap.size, 0, none⟩ = some (.int .i64 x6) := Later.cell (Y6.cell 0) Y6.lt
    have d61 : ∀ x : Later w18, x.w.cell? ⟨w16.heap.size, 1, none⟩ = some (.int .i64 z6) := Later.cell (Y6.cell 1) Y6.lt
    have d70 : ∀ x : Later w18, x.w.cell? ⟨w17.heap.size, 0, none⟩ = some (.int .i64 x7) := Later.cell (Y7.cell 0) Y7.lt
    have d71 : ∀ x : Later w18, x.w.cell? ⟨w17.heap.size, 1, none⟩ = some (.int .i64 z7) := Later.cell (Y7.cell 1) Y7.lt
    refine wp_region_heads (C := fun w' => ∃ x : Later w18, w' = x.w) [0, 1, 2, 3, 4, 5, 6, 7, 8, 9, 10, 11, 12, 13, 14, 15, 16, 17, 18, 19, 20, 21, 23] (by kernel_rfl) (by kernel_rfl) (Later.mk' (Below.refl _ _).drew) (fun _ _ h => h) ?_
    simp only [headOps, List.filterMap_cons, List.filterMap_nil, List.getElem?_toArray, List.getElem?_cons_succ, List.getElem?_cons_zero]
    repeat (first | (go_big_quiet_skip) | (show wpQuiet _ _ _ _ (_ :: _) _; go_big_quiet_want; go_big_quiet_op; go_big_quiet_on))
    refine wpQuiet_nil ?_
    have hst := (Below.refl w18.heap.size w18).drew.alloc (Nat.le_refl _) (.cells #[.int .i64 x1, .int .i64 z1, .int .i64 e1, .int .i64 x2, .int .i64 z2, .int .i64 e2, .int .i64 x3, .int .i64 z3, .int .i64 e3, .int .i64 x4, .int .i64 z4, .int .i64 e4, .int .i64 x5, .int .i64 z5, .int .i64 e5, .int .i64 x6, .int .i64 z6, .int .i64 e6, .int .i64 x7, .int .i64 z7, .int .i64 e7] 47)
    refine anyC_one (n := 1) (i := 22) (v := .slice (some ⟨w18.heap.size, 0, none⟩) 7 7) (w' := w18.drew.alloc (.cells #[.int .i64 x1, .int .i64 z1, .int .i64 e1, .int .i64 x2, .int .i64 z2, .int .i64 e2, .int .i64 x3, .int .i64 z3, .int .i64 e3, .int .i64 x4, .int .i64 z4, .int .i64 e4, .int .i64 x5, .int .i64 z5, .int .i64 e5, .int .i64 x6, .int .i64 z6, .int .i64 e6, .int .i64 x7, .int .i64 z7, .int .i64 e7] 47)) (by kernel_rfl) rfl rfl ?_ (Later.mk' (Below.refl _ _).drew) ?_
    · go_simp
    refine anyC_one (n := 0) (i := 24) (v := .slice (some ⟨w18.heap.size, 0, none⟩) 7 7) (by kernel_rfl) rfl rfl rfl (Later.mk' hst) ?_
    refine anyC_done (by kernel_rfl) (Later.mk' hst) ?_
    clear d10 d11 d20 d21 d30 d31 d40 d41 d50 d51 d60 d61 d70 d71
    go_wp2_with fail
    clear hst
    have hst := ((Below.refl w18.heap.size w18).alloc (Nat.le_refl _) (.cells #[.int .i64 x1, .int .i64 z1, .int .i64 e1, .int .i64 x2, .int .i64 z2, .int .i64 e2, .int .i64 x3, .int .i64 z3, .int .i64 e3, .int .i64 x4, .int .i64 z4, .int .i64 e4, .int .i64 x5, .int .i64 z5, .int .i64 e5, .int .i64 x6, .int .i64 z6, .int .i64 e6, .int .i64 x7, .int .i64 z7, .int .i64 e7] 47)).drew
    have hW2 := hW.trans (hst.mono hW.size)
    have hr : Row3 (w18.alloc (.cells #[.int .i64 x1, .int .i64 z1, .int .i64 e1, .int .i64 x2, .int .i64 z2, .int .i64 e2, .int .i64 x3, .int .i64 z3, .int .i64 e3, .int .i64 x4, .int .i64 z4, .int .i64 e4, .int .i64 x5, .int .i64 z5, .int .i64 e5, .int .i64 x6, .int .i64 z6, .int .i64 e6, .int .i64 x7, .int .i64 z7, .int .i64 e7] 47)).drew (.slice (some ⟨w18.heap.size, 0, none⟩) 7 7) (resL p0 p1 q0 q1 nn rr) := ⟨_, rfl, by
      have := (Box.new w18 [.int .i64 x1, .int .i64 z1, .int .i64 e1, .int .i64 x2, .int .i64 z2, .int .i64 e2, .int .i64 x3, .int .i64 z3, .int .i64 e3, .int .i64 x4, .int .i64 z4, .int .i64 e4, .int .i64 x5, .int .i64 z5, .int .i64 e5, .int .i64 x6, .int .i64 z6, .int .i64 e6, .int .i64 x7, .int .i64 z7, .int .i64 e7] 47).drew
      rw [resL, A1.out, A2.out, A3.out, A4.out, A5.out, A6.out, A7.out]
      exact this⟩
    exact ⟨⟨k + 1, by omega, by go_num, PX.later hst, RX.later hst, Lib.hid (hST.out.next hW2 hr HP.out), hB.trans (hst.mono hB.size)⟩, by simp [intOf]; omega⟩


end Go.Proofs.Ytmjbcmicjhgciaa
