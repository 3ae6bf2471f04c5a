/-
  The laws that compare with the specification. (Printed by gen_law.py.)
-/
import Derived.Test.YtmjbcmicjhgciaaZG
namespace Go.Proofs.Ytmjbcmicjhgciaa
open Go.RowKit
set_option maxRecDepth 100000 in
set_option maxHeartbeats 4000000 in
theorem law_Spec (a b c d : Int) (w : World) : Calls Try.prog 3 #[rng a b, rng c d] w fun e w' => e = .returned (.bool true) ∧ Below w.heap.size w w' := by
  obtain ⟨x, hx⟩ : ∃ x, Hid (chkT a b = x) := ⟨_, rfl⟩
  go_enter Try.func3, Try.ntmps3
  go_wp2_with fail
  refine (sane_any _).mono ?_
  rintro e w1 ⟨rfl, hb⟩
  have X0 := (((Box.newAt (n := w.heap.size) [.int .i64 a, .int .i64 b] 23 (by simp)).alloc _)).later hb
  have X1 := ((Box.newAt (n := w.heap.size + 1) [.int .i64 c, .int .i64 d] 23 (by simp))).later hb
  have hB : Below w.heap.size w w1 := ((((Below.refl w.heap.size w).alloc (by simp <;> omega) _).alloc (by simp <;> omega) _)).trans (hb.mono (by simp <;> omega))
  have L : All w1 [] := All.nil
  clear hb
  obtain ⟨⟨c0, d0⟩, f0, g0⟩ := X0.two
  have z0 := X0.lt
  obtain ⟨⟨c1, d1⟩, f1, g1⟩ := X1.two
  have z1 := X1.lt
  go_wp2_with fail
  refine (Add_any a b c d _).mono ?_
  rintro e w2 ⟨p, q, e1, rfl, hq1, hb⟩
  clear c0 d0 f0 g0 z0 c1 d1 f1 g1 z1
  have hB := hB.trans (hb.mono hB.size)
  have L := L.later hb
  have X0 := X0.later hb
  have X1 := X1.later hb
  clear hb
  obtain ⟨⟨c0, d0⟩, f0, g0⟩ := X0.two
  have z0 := X0.lt
  obtain ⟨⟨c1, d1⟩, f1, g1⟩ := X1.two
  have z1 := X1.lt
  go_wp2_with fail
  refine (rAdd_any a b c d _).mono ?_
  rintro e w3 ⟨p', q', e1', rfl, hq2, hb⟩
  clear c0 d0 f0 g0 z0 c1 d1 f1 g1 z1
  have R := (Box.new w2 [.int .i64 p, .int .i64 q] 23).later hb
  have L := All.cons R ((L.alloc (.cells #[.int .i64 p, .int .i64 q] 23)).later hb)
  have hB := (hB.alloc hB.size (.cells #[.int .i64 p, .int .i64 q] 23)).trans (hb.mono (by have := hB.size; simp; omega))
  have X0 := (X0.alloc (.cells #[.int .i64 p, .int .i64 q] 23)).later hb
  have X1 := (X1.alloc (.cells #[.int .i64 p, .int .i64 q] 23)).later hb
  clear R
  clear hb
  have hE : (p', q', e1') = (p, q, e1) := hq2.out.symm.trans hq1.out
  cases hE
  clear hq1 hq2
  obtain ⟨⟨c0, d0⟩, f0, g0⟩ := X0.two
  have z0 := X0.lt
  obtain ⟨⟨c1, d1⟩, f1, g1⟩ := X1.two
  have z1 := X1.lt
  go_wp2_with fail
  refine (Sub_any a b c d _).mono ?_
  rintro e w4 ⟨s, t, e2, rfl, hq1, hb⟩
  clear c0 d0 f0 g0 z0 c1 d1 f1 g1 z1
  have R := (Box.new w3 [.int .i64 p, .int .i64 q] 23).later hb
  have L := All.cons R ((L.alloc (.cells #[.int .i64 p, .int .i64 q] 23)).later hb)
  have hB := (hB.alloc hB.size (.cells #[.int .i64 p, .int .i64 q] 23)).trans (hb.mono (by have := hB.size; simp; omega))
  have X0 := (X0.alloc (.cells #[.int .i64 p, .int .i64 q] 23)).later hb
  have X1 := (X1.alloc (.cells #[.int .i64 p, .int .i64 q] 23)).later hb
  clear R
  clear hb
  obtain ⟨⟨c0, d0⟩, f0, g0⟩ := X0.two
  have z0 := X0.lt
  obtain ⟨⟨c1, d1⟩, f1, g1⟩ := X1.two
  have z1 := X1.lt
  go_wp2_with fail
  refine (rSub_any a b c d _).mono ?_
  rintro e w5 ⟨s', t', e2', rfl, hq2, hb⟩
  clear c0 d0 f0 g0 z0 c1 d1 f1 g1 z1
  have R := (Box.new w4 [.int .i64 s, .int .i64 t] 23).later hb
  have L := All.cons R ((L.alloc (.cells #[.int .i64 s, .int .i64 t] 23)).later hb)
  have hB := (hB.alloc hB.size (.cells #[.int .i64 s, .int .i64 t] 23)).trans (hb.mono (by have := hB.size; simp; omega))
  have X0 := (X0.alloc (.cells #[.int .i64 s, .int .i64 t] 23)).later hb
  have X1 := (X1.alloc (.cells #[.int .i64 s, .int .i64 t] 23)).later hb
  clear R
  clear hb
  have hE : (s', t', e2') = (s, t, e2) := hq2.out.symm.trans hq1.out
  cases hE
  clear hq1 hq2
  obtain ⟨⟨c0, d0⟩, f0, g0⟩ := X0.two
  have z0 := X0.lt
  obtain ⟨⟨c1, d1⟩, f1, g1⟩ := X1.two
  have z1 := X1.lt
  go_wp2_with fail
  refine (Mul_any a b c d _).mono ?_
  rintro e w6 ⟨u, v, e3, rfl, hq1, hb⟩
  clear c0 d0 f0 g0 z0 c1 d1 f1 g1 z1
  have R := (Box.new w5 [.int .i64 s, .int .i64 t] 23).later hb
  have L := All.cons R ((L.alloc (.cells #[.int .i64 s, .int .i64 t] 23)).later hb)
  have hB := (hB.alloc hB.size (.cells #[.int .i64 s, .int .i64 t] 23)).trans (hb.mono (by have := hB.size; simp; omega))
  have X0 := (X0.alloc (.cells #[.int .i64 s, .int .i64 t] 23)).later hb
  have X1 := (X1.alloc (.cells #[.int .i64 s, .int .i64 t] 23)).later hb
  clear R
  clear hb
  obtain ⟨⟨c0, d0⟩, f0, g0⟩ := X0.two
  have z0 := X0.lt
  obtain ⟨⟨c1, d1⟩, f1, g1⟩ := X1.two
  have z1 := X1.lt
  go_wp2_with fail
  refine (rMul_any a b c d _).mono ?_
  rintro e w7 ⟨u', v', e3', rfl, hq2, hb⟩
  clear c0 d0 f0 g0 z0 c1 d1 f1 g1 z1
  have R := (Box.new w6 [.int .i64 u, .int .i64 v] 23).later hb
  have L := All.cons R ((L.alloc (.cells #[.int .i64 u, .int .i64 v] 23)).later hb)
  have hB := (hB.alloc hB.size (.cells #[.int .i64 u, .int .i64 v] 23)).trans (hb.mono (by have := hB.size; simp; omega))
  have X0 := (X0.alloc (.cells #[.int .i64 u, .int .i64 v] 23)).later hb
  have X1 := (X1.alloc (.cells #[.int .i64 u, .int .i64 v] 23)).later hb
  clear R
  clear hb
  have hE : (u', v', e3') = (u, v, e3) := hq2.out.symm.trans hq1.out
  cases hE
  clear hq1 hq2
  obtain ⟨⟨c0, d0⟩, f0, g0⟩ := X0.two
  have z0 := X0.lt
  obtain ⟨⟨c1, d1⟩, f1, g1⟩ := X1.two
  have z1 := X1.lt
  go_wp2_with fail
  clear c0 d0 f0 g0 z0 c1 d1 f1 g1 z1
  have R := Box.new w7 [.int .i64 u, .int .i64 v] 23
  have L := All.cons R (L.alloc (.cells #[.int .i64 u, .int .i64 v] 23))
  have hB := hB.alloc hB.size (.cells #[.int .i64 u, .int .i64 v] 23)
  have X0 := X0.alloc (.cells #[.int .i64 u, .int .i64 v] 23)
  have X1 := X1.alloc (.cells #[.int .i64 u, .int .i64 v] 23)
  clear R
  generalize hW : w7.alloc (.cells #[.int .i64 u, .int .i64 v] 23) = w8 at L hB X0 X1 ⊢
  clear hW
  have hB := hB.drew
  have L := L.drew
  obtain ⟨⟨c0, d0⟩, _, _⟩ := X0.drew.two
  obtain ⟨⟨r0, r1⟩, _, _⟩ := (L (w2.heap.size, p, q) (by simp)).two
  obtain ⟨⟨r2, r3⟩, _, _⟩ := (L (w3.heap.size, p, q) (by simp)).two
  obtain ⟨⟨r4, r5⟩, _, _⟩ := (L (w4.heap.size, s, t) (by simp)).two
  obtain ⟨⟨r6, r7⟩, _, _⟩ := (L (w5.heap.size, s, t) (by simp)).two
  obtain ⟨⟨r8, r9⟩, _, _⟩ := (L (w6.heap.size, u, v) (by simp)).two
  obtain ⟨⟨r10, r11⟩, _, _⟩ := (L (w7.heap.size, u, v) (by simp)).two
  go_region_held3 (fun w' => w'.cell? ⟨w.heap.size, 0, none⟩ = some (.int .i64 a) ∧ w'.cell? ⟨w.heap.size, 1, none⟩ = some (.int .i64 b) ∧ w'.cell? ⟨w2.heap.size, 0, none⟩ = some (.int .i64 p) ∧ w'.cell? ⟨w2.heap.size, 1, none⟩ = some (.int .i64 q) ∧ w'.cell? ⟨w3.heap.size, 0, none⟩ = some (.int .i64 p) ∧ w'.cell? ⟨w3.heap.size, 1, none⟩ = some (.int .i64 q) ∧ w'.cell? ⟨w4.heap.size, 0, none⟩ = some (.int .i64 s) ∧ w'.cell? ⟨w4.heap.size, 1, none⟩ = some (.int .i64 t) ∧ w'.cell? ⟨w5.heap.size, 0, none⟩ = some (.int .i64 s) ∧ w'.cell? ⟨w5.heap.size, 1, none⟩ = some (.int .i64 t) ∧ w'.cell? ⟨w6.heap.size, 0, none⟩ = some (.int .i64 u) ∧ w'.cell? ⟨w6.heap.size, 1, none⟩ = some (.int .i64 v) ∧ w'.cell? ⟨w7.heap.size, 0, none⟩ = some (.int .i64 u) ∧ w'.cell? ⟨w7.heap.size, 1, none⟩ = some (.int .i64 v))
    (first
      | (go_keep; done)
      | exact ⟨c0, d0, r0, r1, r2, r3, r4, r5, r6, r7, r8, r9, r10, r11⟩)
    (first
      | (go_simp; go_at_call 19; refine ((Check_any a b _).mono fun _ _ => RetI.const hx.out).mono ?_; rintro e wz ⟨rfl, hb⟩; have hB := hB.trans (hb.mono hB.size); have L := L.later hb; have c0 := cell_later hb c0; have d0 := cell_later hb d0; have r0 := cell_later hb r0; have r1 := cell_later hb r1; have r2 := cell_later hb r2; have r3 := cell_later hb r3; have r4 := cell_later hb r4; have r5 := cell_later hb r5; have r6 := cell_later hb r6; have r7 := cell_later hb r7; have r8 := cell_later hb r8; have r9 := cell_later hb r9; have r10 := cell_later hb r10; have r11 := cell_later hb r11; clear hb)
      | (go_simp; go_at_call 20; refine ((rCheck_any a b _).mono fun _ _ => RetI.const hx.out).mono ?_; rintro e wz ⟨rfl, hb⟩; have hB := hB.trans (hb.mono hB.size); have L := L.later hb; have c0 := cell_later hb c0; have d0 := cell_later hb d0; have r0 := cell_later hb r0; have r1 := cell_later hb r1; have r2 := cell_later hb r2; have r3 := cell_later hb r3; have r4 := cell_later hb r4; have r5 := cell_later hb r5; have r6 := cell_later hb r6; have r7 := cell_later hb r7; have r8 := cell_later hb r8; have r9 := cell_later hb r9; have r10 := cell_later hb r10; have r11 := cell_later hb r11; clear hb))
  clear c0 d0 r0 r1 r2 r3 r4 r5 r6 r7 r8 r9 r10 r11
  go_wp2
  go_ret
  exact ⟨rfl, hB⟩

end Go.Proofs.Ytmjbcmicjhgciaa
