/-
  The laws that compare with the specification. (Printed by gen_law.py.)
-/
import Derived.Test.YtmjbcmicjhgciaaZG
namespace Go.Proofs.Ytmjbcmicjhgciaa
open Go.RowKit
set_option maxRecDepth 100000 in
set_option maxHeartbeats 4000000 in
theorem law_RootSpec (a b n d : Int) (w : World) : Calls Try.prog 4 #[rng a b, rat n d] w fun e w' => e = .returned (.bool true) ∧ Below w.heap.size w w' := by
  go_enter Try.func4, Try.ntmps4
  go_wp2_with fail
  refine (sane_any _).mono ?_
  rintro e w1 ⟨rfl, hb⟩
  have X0 := (((Box.newAt (n := w.heap.size) [.int .i64 a, .int .i64 b] 23 (by simp)).alloc _)).later hb
  have X1 := ((Box.newAt (n := w.heap.size + 1) [.int .i64 n, .int .i64 d] 31 (by simp))).later hb
  have hB : Below w.heap.size w w1 := ((((Below.refl w.heap.size w).alloc (by simp <;> omega) _).alloc (by simp <;> omega) _)).trans (hb.mono (by simp <;> omega))
  have L : All w1 [] := All.nil
  clear hb
  obtain ⟨⟨c0, d0⟩, f0, g0⟩ := X0.two
  have z0 := X0.lt
  obtain ⟨⟨c1, d1⟩, f1, g1⟩ := X1.two
  have z1 := X1.lt
  go_wp2_with fail
  refine (Square_any a b _).mono ?_
  rintro e w2 ⟨p, q, e1, rfl, hq1, hb⟩
  clear c0 d0 f0 g0 z0 c1 d1 f1 g1 z1
  have hB := hB.trans (hb.mono hB.size)
  have L := L.later hb
  have X0 := X0.later hb
  have X1 := X1.later hb
  clear hb
  obtain ⟨⟨c0, d0⟩, f0, g0⟩ := X0.two
  have z0 := X0.lt
  obtain ⟨⟨c1, d1⟩, f1, g1⟩ := X1.two
  have z1 := X1.lt
  go_wp2_with fail
  refine (rSquare_any a b _).mono ?_
  rintro e w3 ⟨p', q', e1', rfl, hq2, hb⟩
  clear c0 d0 f0 g0 z0 c1 d1 f1 g1 z1
  have R := (Box.new w2 [.int .i64 p, .int .i64 q] 23).later hb
  have L := All.cons R ((L.alloc (.cells #[.int .i64 p, .int .i64 q] 23)).later hb)
  have hB := (hB.alloc hB.size (.cells #[.int .i64 p, .int .i64 q] 23)).trans (hb.mono (by have := hB.size; simp; omega))
  have X0 := (X0.alloc (.cells #[.int .i64 p, .int .i64 q] 23)).later hb
  have X1 := (X1.alloc (.cells #[.int .i64 p, .int .i64 q] 23)).later hb
  clear R
  clear hb
  have hE : (p', q', e1') = (p, q, e1) := hq2.out.symm.trans hq1.out
  cases hE
  clear hq1 hq2
  obtain ⟨⟨c0, d0⟩, f0, g0⟩ := X0.two
  have z0 := X0.lt
  obtain ⟨⟨c1, d1⟩, f1, g1⟩ := X1.two
  have z1 := X1.lt
  go_wp2_with fail
  refine (Root_any a b _).mono ?_
  rintro e w4 ⟨s, t, e2, rfl, hq1, hb⟩
  clear c0 d0 f0 g0 z0 c1 d1 f1 g1 z1
  have R := (Box.new w3 [.int .i64 p, .int .i64 q] 23).later hb
  have L := All.cons R ((L.alloc (.cells #[.int .i64 p, .int .i64 q] 23)).later hb)
  have hB := (hB.alloc hB.size (.cells #[.int .i64 p, .int .i64 q] 23)).trans (hb.mono (by have := hB.size; simp; omega))
  have X0 := (X0.alloc (.cells #[.int .i64 p, .int .i64 q] 23)).later hb
  have X1 := (X1.alloc (.cells #[.int .i64 p, .int .i64 q] 23)).later hb
  clear R
  clear hb
  obtain ⟨⟨c0, d0⟩, f0, g0⟩ := X0.two
  have z0 := X0.lt
  obtain ⟨⟨c1, d1⟩, f1, g1⟩ := X1.two
  have z1 := X1.lt
  go_wp2_with fail
  refine (rRoot_any a b _).mono ?_
  rintro e w5 ⟨s', t', e2', rfl, hq2, hb⟩
  clear c0 d0 f0 g0 z0 c1 d1 f1 g1 z1
  have R := (Box.new w4 [.int .i64 s, .int .i64 t] 23).later hb
  have L := All.cons R ((L.alloc (.cells #[.int .i64 s, .int .i64 t] 23)).later hb)
  have hB := (hB.alloc hB.size (.cells #[.int .i64 s, .int .i64 t] 23)).trans (hb.mono (by have := hB.size; simp; omega))
  have X0 := (X0.alloc (.cells #[.int .i64 s, .int .i64 t] 23)).later hb
  have X1 := (X1.alloc (.cells #[.int .i64 s, .int .i64 t] 23)).later hb
  clear R
  clear hb
  have hE : (s', t', e2') = (s, t, e2) := hq2.out.symm.trans hq1.out
  cases hE
  clear hq1 hq2
  obtain ⟨⟨c0, d0⟩, f0, g0⟩ := X0.two
  have z0 := X0.lt
  obtain ⟨⟨c1, d1⟩, f1, g1⟩ := X1.two
  have z1 := X1.lt
  go_wp2_with fail
  refine (Scale_any a b n d _).mono ?_
  rintro e w6 ⟨u, v, e3, rfl, hq1, hb⟩
  clear c0 d0 f0 g0 z0 c1 d1 f1 g1 z1
  have R := (Box.new w5 [.int .i64 s, .int .i64 t] 23).later hb
  have L := All.cons R ((L.alloc (.cells #[.int .i64 s, .int .i64 t] 23)).later hb)
  have hB := (hB.alloc hB.size (.cells #[.int .i64 s, .int .i64 t] 23)).trans (hb.mono (by have := hB.size; simp; omega))
  have X0 := (X0.alloc (.cells #[.int .i64 s, .int .i64 t] 23)).later hb
  have X1 := (X1.alloc (.cells #[.int .i64 s, .int .i64 t] 23)).later hb
  clear R
  clear hb
  obtain ⟨⟨c0, d0⟩, f0, g0⟩ := X0.two
  have z0 := X0.lt
  obtain ⟨⟨c1, d1⟩, f1, g1⟩ := X1.two
  have z1 := X1.lt
  go_wp2_with fail
  refine (rScale_any a b n d _).mono ?_
  rintro e w7 ⟨u', v', e3', rfl, hq2, hb⟩
  clear c0 d0 f0 g0 z0 c1 d1 f1 g1 z1
  have R := (Box.new w6 [.int .i64 u, .int .i64 v] 23).later hb
  have L := All.cons R ((L.alloc (.cells #[.int .i64 u, .int .i64 v] 23)).later hb)
  have hB := (hB.alloc hB.size (.cells #[.int .i64 u, .int .i64 v] 23)).trans (hb.mono (by have := hB.size; simp; omega))
  have X0 := (X0.alloc (.cells #[.int .i64 u, .int .i64 v] 23)).later hb
  have X1 := (X1.alloc (.cells #[.int .i64 u, .int .i64 v] 23)).later hb
  clear R
  clear hb
  have hE : (u', v', e3') = (u, v, e3) := hq2.out.symm.trans hq1.out
  cases hE
  clear hq1 hq2
  obtain ⟨⟨c0, d0⟩, f0, g0⟩ := X0.two
  have z0 := X0.lt
  obtain ⟨⟨c1, d1⟩, f1, g1⟩ := X1.two
  have z1 := X1.lt
  clear c0 d0 f0 g0 z0 c1 d1 f1 g1 z1
  obtain ⟨⟨r0, r1⟩, _, _⟩ := (L (w2.heap.size, p, q) (by simp)).two
  have y0 := (L (w2.heap.size, p, q) (by simp)).lt
  obtain ⟨⟨r2, r3⟩, _, _⟩ := (L (w3.heap.size, p, q) (by simp)).two
  have y1 := (L (w3.heap.size, p, q) (by simp)).lt
  obtain ⟨⟨r4, r5⟩, _, _⟩ := (L (w4.heap.size, s, t) (by simp)).two
  have y2 := (L (w4.heap.size, s, t) (by simp)).lt
  obtain ⟨⟨r6, r7⟩, _, _⟩ := (L (w5.heap.size, s, t) (by simp)).two
  have y3 := (L (w5.heap.size, s, t) (by simp)).lt
  obtain ⟨⟨r8, r9⟩, _, _⟩ := (L (w6.heap.size, u, v) (by simp)).two
  have y4 := (L (w6.heap.size, u, v) (by simp)).lt
  go_wp2
  go_ret
  exact ⟨rfl, hB.alloc hB.size _⟩

end Go.Proofs.Ytmjbcmicjhgciaa
