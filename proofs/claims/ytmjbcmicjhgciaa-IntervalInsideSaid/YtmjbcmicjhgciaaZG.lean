/-
  sane: the examples hold. (Printed by gen_sane.py.)
-/
import Derived.Test.YtmjbcmicjhgciaaZF
import Derived.Deep.RegionHeld3
namespace Go.Proofs.Ytmjbcmicjhgciaa
open Go.RowKit

/-- Boxes that are kept. -/
def All (w : World) (l : List (Nat × Int × Int)) : Prop := ∀ p ∈ l, Box w p.1 [.int .i64 p.2.1, .int .i64 p.2.2]
theorem All.later {w w' : World} {l : List (Nat × Int × Int)} (h : All w l) (hB : Below w.heap.size w w') : All w' l := fun p hp => (h p hp).later hB
theorem All.alloc {w : World} {l : List (Nat × Int × Int)} (h : All w l) (o : Obj) : All (w.alloc o) l := fun p hp => (h p hp).alloc o
theorem All.drew {w : World} {l : List (Nat × Int × Int)} (h : All w l) : All w.drew l := h
theorem All.cons {w : World} {l : List (Nat × Int × Int)} {b : Nat} {lo hi : Int} (hb : Box w b [.int .i64 lo, .int .i64 hi]) (h : All w l) : All w ((b, lo, hi) :: l) := fun p hp => by
  rcases List.mem_cons.1 hp with rfl | hp
  · exact hb
  · exact h p hp
theorem All.nil {w : World} : All w [] := fun p hp => by cases hp

set_option maxRecDepth 100000 in
set_option maxHeartbeats 4000000 in
theorem sane_any (w : World) : Calls Try.prog 12 #[] w fun e w' => e = .returned (.bool true) ∧ Below w.heap.size w w' := by
  go_enter Try.func12, Try.ntmps12
  go_wp2_with fail
  refine (span_any _ _ _).mono ?_
  rintro e w1 ⟨rfl, hB⟩
  go_wp2_with fail
  refine (span_any _ _ _).mono ?_
  rintro e w2 ⟨rfl, hb⟩
  have hB := hB.trans (hb.mono hB.size)
  clear hb
  go_wp2_with fail
  refine (k_add _).mono ?_
  rintro e w3 ⟨rfl, hb⟩
  have hB := ((hB.alloc hB.size (.cells #[.int .i64 (-2), .int .i64 3] 23)).alloc (by have := hB.size; simp; omega) (.cells #[.int .i64 4, .int .i64 5] 23)).trans (hb.mono (by have := hB.size; simp; omega))
  have X1 := ((Box.new w2 [.int .i64 (-2), .int .i64 3] 23).alloc _).later hb
  have X2 := (Box.newAt (n := w2.heap.size + 1) [.int .i64 4, .int .i64 5] 23 (by simp)).later hb
  have L : All w3 [] := All.nil
  clear hb
  obtain ⟨⟨c1, c2⟩, _, _⟩ := X1.two
  obtain ⟨⟨c3, c4⟩, _, _⟩ := X2.two
  have z1 := X1.lt
  have z2 := X2.lt

  go_wp2_with fail
  refine (k_sub _).mono ?_
  rintro e w4 ⟨rfl, hb⟩
  clear c1 c2 c3 c4 z1 z2
  have R := (Box.new w3 [.int .i64 (2), .int .i64 (8)] 23).later hb
  have L := All.cons R ((L.alloc (.cells #[.int .i64 (2), .int .i64 (8)] 23)).later hb)
  have hB := (hB.alloc hB.size (.cells #[.int .i64 (2), .int .i64 (8)] 23)).trans (hb.mono (by have := hB.size; simp; omega))
  have X1 := (X1.alloc (.cells #[.int .i64 (2), .int .i64 (8)] 23)).later hb
  have X2 := (X2.alloc (.cells #[.int .i64 (2), .int .i64 (8)] 23)).later hb
  clear R
  clear hb
  obtain ⟨⟨c1, c2⟩, _, _⟩ := X1.two
  obtain ⟨⟨c3, c4⟩, _, _⟩ := X2.two
  have z1 := X1.lt
  have z2 := X2.lt
  go_wp2_with fail
  refine (k_mul _).mono ?_
  rintro e w5 ⟨rfl, hb⟩
  clear c1 c2 c3 c4 z1 z2
  have R := (Box.new w4 [.int .i64 (-7), .int .i64 (-1)] 23).later hb
  have L := All.cons R ((L.alloc (.cells #[.int .i64 (-7), .int .i64 (-1)] 23)).later hb)
  have hB := (hB.alloc hB.size (.cells #[.int .i64 (-7), .int .i64 (-1)] 23)).trans (hb.mono (by have := hB.size; simp; omega))
  have X1 := (X1.alloc (.cells #[.int .i64 (-7), .int .i64 (-1)] 23)).later hb
  have X2 := (X2.alloc (.cells #[.int .i64 (-7), .int .i64 (-1)] 23)).later hb
  clear R
  clear hb
  obtain ⟨⟨c1, c2⟩, _, _⟩ := X1.two
  obtain ⟨⟨c3, c4⟩, _, _⟩ := X2.two
  have z1 := X1.lt
  have z2 := X2.lt
  go_wp2_with fail
  refine (k_square _).mono ?_
  rintro e w6 ⟨rfl, hb⟩
  clear c1 c2 c3 c4 z1 z2
  have R := (Box.new w5 [.int .i64 (-10), .int .i64 (15)] 23).later hb
  have L := All.cons R ((L.alloc (.cells #[.int .i64 (-10), .int .i64 (15)] 23)).later hb)
  have hB := (hB.alloc hB.size (.cells #[.int .i64 (-10), .int .i64 (15)] 23)).trans (hb.mono (by have := hB.size; simp; omega))
  have X1 := (X1.alloc (.cells #[.int .i64 (-10), .int .i64 (15)] 23)).later hb
  have X2 := (X2.alloc (.cells #[.int .i64 (-10), .int .i64 (15)] 23)).later hb
  clear R
  clear hb
  obtain ⟨⟨c1, c2⟩, _, _⟩ := X1.two
  obtain ⟨⟨c3, c4⟩, _, _⟩ := X2.two
  have z1 := X1.lt
  have z2 := X2.lt
  go_wp2_with fail
  refine (span_any _ _ _).mono ?_
  rintro e w7 ⟨rfl, hb⟩
  clear c1 c2 c3 c4 z1 z2
  have R := (Box.new w6 [.int .i64 (0), .int .i64 (9)] 23).later hb
  have L := All.cons R ((L.alloc (.cells #[.int .i64 (0), .int .i64 (9)] 23)).later hb)
  have hB := (hB.alloc hB.size (.cells #[.int .i64 (0), .int .i64 (9)] 23)).trans (hb.mono (by have := hB.size; simp; omega))
  have X1 := (X1.alloc (.cells #[.int .i64 (0), .int .i64 (9)] 23)).later hb
  have X2 := (X2.alloc (.cells #[.int .i64 (0), .int .i64 (9)] 23)).later hb
  clear R
  clear hb
  obtain ⟨⟨c1, c2⟩, _, _⟩ := X1.two
  obtain ⟨⟨c3, c4⟩, _, _⟩ := X2.two
  have z1 := X1.lt
  have z2 := X2.lt
  go_wp2_with fail
  refine (k_root _).mono ?_
  rintro e w8 ⟨rfl, hb⟩
  clear c1 c2 c3 c4 z1 z2
  have hB := hB.trans (hb.mono hB.size)
  have L := L.later hb
  have X1 := X1.later hb
  have X2 := X2.later hb
  clear hb
  obtain ⟨⟨c1, c2⟩, _, _⟩ := X1.two
  obtain ⟨⟨c3, c4⟩, _, _⟩ := X2.two
  have z1 := X1.lt
  have z2 := X2.lt
  go_wp2_with fail
  refine (span_any _ _ _).mono ?_
  rintro e w9 ⟨rfl, hb⟩
  clear c1 c2 c3 c4 z1 z2
  have R := (Box.new w8 [.int .i64 (2), .int .i64 (4)] 23).later hb
  have L := All.cons R ((L.alloc (.cells #[.int .i64 (2), .int .i64 (4)] 23)).later hb)
  have hB := (hB.alloc hB.size (.cells #[.int .i64 (2), .int .i64 (4)] 23)).trans (hb.mono (by have := hB.size; simp; omega))
  have X1 := (X1.alloc (.cells #[.int .i64 (2), .int .i64 (4)] 23)).later hb
  have X2 := (X2.alloc (.cells #[.int .i64 (2), .int .i64 (4)] 23)).later hb
  clear R
  clear hb
  obtain ⟨⟨c1, c2⟩, _, _⟩ := X1.two
  obtain ⟨⟨c3, c4⟩, _, _⟩ := X2.two
  have z1 := X1.lt
  have z2 := X2.lt
  go_wp2_with fail
  refine (k_scale _).mono ?_
  rintro e w10 ⟨rfl, hb⟩
  clear c1 c2 c3 c4 z1 z2
  have hB := hB.trans (hb.mono hB.size)
  have L := L.later hb
  have X1 := X1.later hb
  have X2 := X2.later hb
  clear hb
  obtain ⟨⟨c1, c2⟩, _, _⟩ := X1.two
  obtain ⟨⟨c3, c4⟩, _, _⟩ := X2.two
  have z1 := X1.lt
  have z2 := X2.lt
  go_wp2_with fail
  refine (span_any _ _ _).mono ?_
  rintro e w11 ⟨rfl, hb⟩
  clear c1 c2 c3 c4 z1 z2
  have R := (Box.new w10 [.int .i64 (-1), .int .i64 (2)] 23).later hb
  have L := All.cons R ((L.alloc (.cells #[.int .i64 (-1), .int .i64 (2)] 23)).later hb)
  have hB := (hB.alloc hB.size (.cells #[.int .i64 (-1), .int .i64 (2)] 23)).trans (hb.mono (by have := hB.size; simp; omega))
  have X1 := (X1.alloc (.cells #[.int .i64 (-1), .int .i64 (2)] 23)).later hb
  have X2 := (X2.alloc (.cells #[.int .i64 (-1), .int .i64 (2)] 23)).later hb
  clear R
  clear hb
  obtain ⟨⟨c1, c2⟩, _, _⟩ := X1.two
  obtain ⟨⟨c3, c4⟩, _, _⟩ := X2.two
  have z1 := X1.lt
  have z2 := X2.lt
  go_wp2_with fail
  refine (span_any _ _ _).mono ?_
  rintro e w12 ⟨rfl, hb⟩
  clear c1 c2 c3 c4 z1 z2
  have hB := hB.trans (hb.mono hB.size)
  have L := L.later hb
  have X1 := X1.later hb
  have X2 := X2.later hb
  clear hb
  obtain ⟨⟨c1, c2⟩, _, _⟩ := X1.two
  obtain ⟨⟨c3, c4⟩, _, _⟩ := X2.two
  have z1 := X1.lt
  have z2 := X2.lt
  go_wp2_with fail
  refine (k_apart _).mono ?_
  rintro e w13 ⟨rfl, hb⟩
  clear c1 c2 c3 c4 z1 z2
  have hB := hB.trans (hb.mono hB.size)
  have L := L.later hb
  have X1 := X1.later hb
  have X2 := X2.later hb
  clear hb
  obtain ⟨⟨c1, c2⟩, _, _⟩ := X1.two
  obtain ⟨⟨c3, c4⟩, _, _⟩ := X2.two
  have z1 := X1.lt
  have z2 := X2.lt
  go_wp2_with fail
  refine (span_any _ _ _).mono ?_
  rintro e w14 ⟨rfl, hb⟩
  clear c1 c2 c3 c4 z1 z2
  have R := (Box.new w13 [.int .i64 (0), .int .i64 (0)] 23).later hb
  have L := All.cons R ((L.alloc (.cells #[.int .i64 (0), .int .i64 (0)] 23)).later hb)
  have hB := (hB.alloc hB.size (.cells #[.int .i64 (0), .int .i64 (0)] 23)).trans (hb.mono (by have := hB.size; simp; omega))
  have X1 := (X1.alloc (.cells #[.int .i64 (0), .int .i64 (0)] 23)).later hb
  have X2 := (X2.alloc (.cells #[.int .i64 (0), .int .i64 (0)] 23)).later hb
  clear R
  clear hb
  obtain ⟨⟨c1, c2⟩, _, _⟩ := X1.two
  obtain ⟨⟨c3, c4⟩, _, _⟩ := X2.two
  have z1 := X1.lt
  have z2 := X2.lt
  go_wp2_with fail
  refine (span_any _ _ _).mono ?_
  rintro e w15 ⟨rfl, hb⟩
  clear c1 c2 c3 c4 z1 z2
  have hB := hB.trans (hb.mono hB.size)
  have L := L.later hb
  have X1 := X1.later hb
  have X2 := X2.later hb
  clear hb
  obtain ⟨⟨c1, c2⟩, _, _⟩ := X1.two
  obtain ⟨⟨c3, c4⟩, _, _⟩ := X2.two
  have z1 := X1.lt
  have z2 := X2.lt
  go_wp2_with fail
  refine (k_common _).mono ?_
  rintro e w16 ⟨rfl, hb⟩
  clear c1 c2 c3 c4 z1 z2
  have hB := hB.trans (hb.mono hB.size)
  have L := L.later hb
  have X1 := X1.later hb
  have X2 := X2.later hb
  clear hb
  obtain ⟨⟨c1, c2⟩, _, _⟩ := X1.two
  obtain ⟨⟨c3, c4⟩, _, _⟩ := X2.two
  have z1 := X1.lt
  have z2 := X2.lt
  go_wp2_with fail
  refine (span_any _ _ _).mono ?_
  rintro e w17 ⟨rfl, hb⟩
  clear c1 c2 c3 c4 z1 z2
  have R := (Box.new w16 [.int .i64 (3), .int .i64 (3)] 23).later hb
  have L := All.cons R ((L.alloc (.cells #[.int .i64 (3), .int .i64 (3)] 23)).later hb)
  have hB := (hB.alloc hB.size (.cells #[.int .i64 (3), .int .i64 (3)] 23)).trans (hb.mono (by have := hB.size; simp; omega))
  have X1 := (X1.alloc (.cells #[.int .i64 (3), .int .i64 (3)] 23)).later hb
  have X2 := (X2.alloc (.cells #[.int .i64 (3), .int .i64 (3)] 23)).later hb
  clear R
  clear hb
  obtain ⟨⟨c1, c2⟩, _, _⟩ := X1.two
  obtain ⟨⟨c3, c4⟩, _, _⟩ := X2.two
  have z1 := X1.lt
  have z2 := X2.lt
  go_wp2_with fail
  refine (span_any _ _ _).mono ?_
  rintro e w18 ⟨rfl, hb⟩
  clear c1 c2 c3 c4 z1 z2
  have hB := hB.trans (hb.mono hB.size)
  have L := L.later hb
  have X1 := X1.later hb
  have X2 := X2.later hb
  clear hb
  obtain ⟨⟨c1, c2⟩, _, _⟩ := X1.two
  obtain ⟨⟨c3, c4⟩, _, _⟩ := X2.two
  have z1 := X1.lt
  have z2 := X2.lt
  go_wp2_with fail
  refine (k_hull _).mono ?_
  rintro e w19 ⟨rfl, hb⟩
  clear c1 c2 c3 c4 z1 z2
  have hB := hB.trans (hb.mono hB.size)
  have L := L.later hb
  have X1 := X1.later hb
  have X2 := X2.later hb
  clear hb
  obtain ⟨⟨c1, c2⟩, _, _⟩ := X1.two
  obtain ⟨⟨c3, c4⟩, _, _⟩ := X2.two
  have z1 := X1.lt
  have z2 := X2.lt
  go_wp2_with fail
  have R := Box.new w19 [.int .i64 (1), .int .i64 (6)] 23
  have L := All.cons R (L.alloc (.cells #[.int .i64 (1), .int .i64 (6)] 23))
  have hB := hB.alloc hB.size (.cells #[.int .i64 (1), .int .i64 (6)] 23)
  have X1 := X1.alloc (.cells #[.int .i64 (1), .int .i64 (6)] 23)
  clear c1 c2 c3 c4 z1 z2
  clear R
  generalize hW : w19.alloc (.cells #[.int .i64 (1), .int .i64 (6)] 23) = w20 at L hB X1 ⊢
  have hB := hB.drew
  have L := L.drew
  have X1 := X1.drew
  obtain ⟨⟨c1, c2⟩, _, _⟩ := X1.two
  go_region_held3 (fun w' => w'.cell? ⟨w2.heap.size, 0, none⟩ = some (.int .i64 (-2)) ∧ w'.cell? ⟨w2.heap.size, 1, none⟩ = some (.int .i64 3))
    (first
      | (go_keep; done)
      | exact ⟨c1, c2⟩)
    (first
      | (go_simp; go_at_call 36; refine (span_any _ _ _).mono ?_; rintro e wz ⟨rfl, hb⟩; have hB := hB.trans (hb.mono hB.size); have L := L.later hb; have c1 := cell_later hb c1; have c2 := cell_later hb c2; clear hb)
      | (go_simp; go_at_call 31; refine (k_within _).mono ?_; rintro e wz ⟨rfl, hb⟩; have hB := hB.trans (hb.mono hB.size); have L := L.later hb; have c1 := cell_later hb c1; have c2 := cell_later hb c2; clear hb))
  go_wp2_with fail
  have hB := hB.drew
  have L := L.drew
  have c1 : wz.drew.cell? ⟨w2.heap.size, 0, none⟩ = some (.int .i64 (-2)) := c1
  have c2 : wz.drew.cell? ⟨w2.heap.size, 1, none⟩ = some (.int .i64 3) := c2
  go_region_held3 (fun w' => w'.cell? ⟨w2.heap.size, 0, none⟩ = some (.int .i64 (-2)) ∧ w'.cell? ⟨w2.heap.size, 1, none⟩ = some (.int .i64 3))
    (first
      | (go_keep; done)
      | exact ⟨c1, c2⟩)
    (first
      | (go_simp; go_at_call 36; refine (span_any _ _ _).mono ?_; rintro e wz ⟨rfl, hb⟩; have hB := hB.trans (hb.mono hB.size); have L := L.later hb; have c1 := cell_later hb c1; have c2 := cell_later hb c2; clear hb)
      | (go_simp; go_at_call 31; refine (k_wide _).mono ?_; rintro e wz ⟨rfl, hb⟩; have hB := hB.trans (hb.mono hB.size); have L := L.later hb; have c1 := cell_later hb c1; have c2 := cell_later hb c2; clear hb))
  clear c1 c2
  go_wp2_with fail
  refine (span_any _ _ _).mono ?_
  rintro e w21 ⟨rfl, hb⟩
  have hB := hB.trans (hb.mono hB.size)
  have L := L.later hb
  clear hb
  go_wp2_with fail
  refine (span_any _ _ _).mono ?_
  rintro e w22 ⟨rfl, hb⟩
  have hB := hB.trans (hb.mono hB.size)
  have L := L.later hb
  clear hb
  go_wp2_with fail
  refine (k_limit _).mono ?_
  rintro e w23 ⟨rfl, hb⟩
  have hB := hB.trans (hb.mono hB.size)
  have L := L.later hb
  clear hb
  go_wp2_with fail
  refine (span_any _ _ _).mono ?_
  rintro e w24 ⟨rfl, hb⟩
  have R := (Box.new w23 [.int .i64 (0), .int .i64 (0)] 23).later hb
  have L := All.cons R ((L.alloc (.cells #[.int .i64 (0), .int .i64 (0)] 23)).later hb)
  have hB := (hB.alloc hB.size (.cells #[.int .i64 (0), .int .i64 (0)] 23)).trans (hb.mono (by have := hB.size; simp; omega))
  clear R
  clear hb
  go_wp2_with fail
  refine (k_arg _).mono ?_
  rintro e w25 ⟨rfl, hb⟩
  have hB := hB.trans (hb.mono hB.size)
  have L := L.later hb
  clear hb
  go_wp2_with fail
  refine (span_any _ _ _).mono ?_
  rintro e w26 ⟨rfl, hb⟩
  have R := (Box.new w25 [.int .i64 (0), .int .i64 (0)] 23).later hb
  have L := All.cons R ((L.alloc (.cells #[.int .i64 (0), .int .i64 (0)] 23)).later hb)
  have hB := (hB.alloc hB.size (.cells #[.int .i64 (0), .int .i64 (0)] 23)).trans (hb.mono (by have := hB.size; simp; omega))
  clear R
  clear hb
  go_wp2_with fail
  refine (span_any _ _ _).mono ?_
  rintro e w27 ⟨rfl, hb⟩
  have hB := hB.trans (hb.mono hB.size)
  have L := L.later hb
  clear hb
  go_wp2_with fail
  refine (k_zero _).mono ?_
  rintro e w28 ⟨rfl, hb⟩
  have hB := hB.trans (hb.mono hB.size)
  have L := L.later hb
  clear hb
  go_wp2_with fail
  refine (span_any _ _ _).mono ?_
  rintro e w29 ⟨rfl, hb⟩
  have R := (Box.new w28 [.int .i64 (0), .int .i64 (0)] 23).later hb
  have L := All.cons R ((L.alloc (.cells #[.int .i64 (0), .int .i64 (0)] 23)).later hb)
  have hB := (hB.alloc hB.size (.cells #[.int .i64 (0), .int .i64 (0)] 23)).trans (hb.mono (by have := hB.size; simp; omega))
  clear R
  clear hb
  go_wp2_with fail
  refine (k_most _).mono ?_
  rintro e w30 ⟨rfl, hb⟩
  have hB := hB.trans (hb.mono hB.size)
  have L := L.later hb
  clear hb
  go_wp2_with fail
  have R := Box.new w30 [.int .i64 (0), .int .i64 (1099511627776)] 23
  have L := All.cons R (L.alloc (.cells #[.int .i64 (0), .int .i64 (1099511627776)] 23))
  have hB := hB.alloc hB.size (.cells #[.int .i64 (0), .int .i64 (1099511627776)] 23)
  clear R
  generalize hW : w30.alloc (.cells #[.int .i64 (0), .int .i64 (1099511627776)] 23) = w31 at L hB  ⊢
  have hB := hB.drew
  have L := L.drew
  obtain ⟨⟨c22, c23⟩, _, _⟩ := (L (w28.heap.size, 0, 0) (by simp)).two
  obtain ⟨⟨c24, c25⟩, _, _⟩ := (L (w30.heap.size, 0, 1099511627776) (by simp)).two
  go_region_held3 (fun w' => w'.cell? ⟨w28.heap.size, 0, none⟩ = some (.int .i64 (0)) ∧ w'.cell? ⟨w28.heap.size, 1, none⟩ = some (.int .i64 (0)) ∧ w'.cell? ⟨w30.heap.size, 0, none⟩ = some (.int .i64 (0)) ∧ w'.cell? ⟨w30.heap.size, 1, none⟩ = some (.int .i64 (1099511627776)))
    (first
      | (go_keep; done)
      | exact ⟨c22, c23, c24, c25⟩)
    (first
      | (go_simp; go_at_call 36; refine (span_any _ _ _).mono ?_; rintro e wz ⟨rfl, hb⟩; have hB := hB.trans (hb.mono hB.size); have L := L.later hb; have c22 := cell_later hb c22; have c23 := cell_later hb c23; have c24 := cell_later hb c24; have c25 := cell_later hb c25; clear hb)
      | (go_simp; go_at_call 19; refine (k_bad _).mono ?_; rintro e wz ⟨rfl, hb⟩; have hB := hB.trans (hb.mono hB.size); have L := L.later hb; have c22 := cell_later hb c22; have c23 := cell_later hb c23; have c24 := cell_later hb c24; have c25 := cell_later hb c25; clear hb)
      | (go_simp; go_at_call 19; refine (k_good _).mono ?_; rintro e wz ⟨rfl, hb⟩; have hB := hB.trans (hb.mono hB.size); have L := L.later hb; have c22 := cell_later hb c22; have c23 := cell_later hb c23; have c24 := cell_later hb c24; have c25 := cell_later hb c25; clear hb))
  go_wp2_with fail
  clear c22 c23 c24 c25
  have hB := hB.drew
  have L := L.drew
  obtain ⟨⟨c0, c1⟩, _, _⟩ := (L (w3.heap.size, 2, 8) (by simp)).two
  obtain ⟨⟨c2, c3⟩, _, _⟩ := (L (w4.heap.size, -7, -1) (by simp)).two
  obtain ⟨⟨c4, c5⟩, _, _⟩ := (L (w5.heap.size, -10, 15) (by simp)).two
  obtain ⟨⟨c6, c7⟩, _, _⟩ := (L (w6.heap.size, 0, 9) (by simp)).two
  obtain ⟨⟨c8, c9⟩, _, _⟩ := (L (w8.heap.size, 2, 4) (by simp)).two
  obtain ⟨⟨c10, c11⟩, _, _⟩ := (L (w10.heap.size, -1, 2) (by simp)).two
  obtain ⟨⟨c14, c15⟩, _, _⟩ := (L (w16.heap.size, 3, 3) (by simp)).two
  obtain ⟨⟨c16, c17⟩, _, _⟩ := (L (w19.heap.size, 1, 6) (by simp)).two
  go_region_held3 (fun w' => w'.cell? ⟨w3.heap.size, 0, none⟩ = some (.int .i64 (2)) ∧ w'.cell? ⟨w3.heap.size, 1, none⟩ = some (.int .i64 (8)) ∧ w'.cell? ⟨w4.heap.size, 0, none⟩ = some (.int .i64 (-7)) ∧ w'.cell? ⟨w4.heap.size, 1, none⟩ = some (.int .i64 (-1)) ∧ w'.cell? ⟨w5.heap.size, 0, none⟩ = some (.int .i64 (-10)) ∧ w'.cell? ⟨w5.heap.size, 1, none⟩ = some (.int .i64 (15)) ∧ w'.cell? ⟨w6.heap.size, 0, none⟩ = some (.int .i64 (0)) ∧ w'.cell? ⟨w6.heap.size, 1, none⟩ = some (.int .i64 (9)) ∧ w'.cell? ⟨w8.heap.size, 0, none⟩ = some (.int .i64 (2)) ∧ w'.cell? ⟨w8.heap.size, 1, none⟩ = some (.int .i64 (4)) ∧ w'.cell? ⟨w10.heap.size, 0, none⟩ = some (.int .i64 (-1)) ∧ w'.cell? ⟨w10.heap.size, 1, none⟩ = some (.int .i64 (2)) ∧ w'.cell? ⟨w16.heap.size, 0, none⟩ = some (.int .i64 (3)) ∧ w'.cell? ⟨w16.heap.size, 1, none⟩ = some (.int .i64 (3)) ∧ w'.cell? ⟨w19.heap.size, 0, none⟩ = some (.int .i64 (1)) ∧ w'.cell? ⟨w19.heap.size, 1, none⟩ = some (.int .i64 (6)))
    (first
      | (go_keep; done)
      | exact ⟨c0, c1, c2, c3, c4, c5, c6, c7, c8, c9, c10, c11, c14, c15, c16, c17⟩)
    (first
      | (go_simp; go_at_call 36; refine (span_any _ _ _).mono ?_; rintro e wz ⟨rfl, hb⟩; have hB := hB.trans (hb.mono hB.size); have L := L.later hb; have c0 := cell_later hb c0; have c1 := cell_later hb c1; have c2 := cell_later hb c2; have c3 := cell_later hb c3; have c4 := cell_later hb c4; have c5 := cell_later hb c5; have c6 := cell_later hb c6; have c7 := cell_later hb c7; have c8 := cell_later hb c8; have c9 := cell_later hb c9; have c10 := cell_later hb c10; have c11 := cell_later hb c11; have c14 := cell_later hb c14; have c15 := cell_later hb c15; have c16 := cell_later hb c16; have c17 := cell_later hb c17; clear hb))
  clear c0 c1 c2 c3 c4 c5 c6 c7 c8 c9 c10 c11 c14 c15 c16 c17
  go_wp2
  go_ret
  exact ⟨rfl, hB⟩

end Go.Proofs.Ytmjbcmicjhgciaa
