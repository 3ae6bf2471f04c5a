/- The iterator over the states of a plant. (Printed by gen_bl.py.) No condition. -/
import Derived.Deep.CutBlock
import Derived.Deep.LoopGhost
import Derived.Test.YtcjcjkomcolgeaaQBK
import Derived.Test.YtcjcjkomcolgeaaQT
set_option linter.unusedVariables false
set_option linter.unusedSimpArgs false
namespace Go.Proofs.Ytcjcjkomcolgeaa
open Go.RowKit Go.Shelf
attribute [local go_sem] Oper.semAt_some

theorem mod_step {n q : Nat} (hn : 0 < n) : (q % n ≠ n - 1 ∧ (q + 1) % n = q % n + 1 ∧ (q + 1) / n = q / n) ∨ (q % n = n - 1 ∧ (q + 1) % n = 0 ∧ (q + 1) / n = q / n + 1) := by
  obtain ⟨c, hc⟩ : ∃ c, q / n = c := ⟨_, rfl⟩
  obtain ⟨r, hr⟩ : ∃ r, q % n = r := ⟨_, rfl⟩
  have hlt : r < n := hr ▸ Nat.mod_lt q hn
  have hq : q = c * n + r := by rw [← hc, ← hr, Nat.mul_comm]; exact (Nat.div_add_mod q n).symm
  rw [hc, hr]
  by_cases h : r = n - 1
  · right
    have e : q + 1 = (c + 1) * n + 0 := by rw [hq, Nat.add_mul, Nat.one_mul]; omega
    obtain ⟨h1, h2⟩ := div_step (q := c + 1) (n := n) (r := 0) hn
    rw [e]
    exact ⟨h, h2, h1⟩
  · left
    have e : q + 1 = c * n + (r + 1) := by rw [hq]; omega
    obtain ⟨h1, h2⟩ := div_step (q := c) (n := n) (r := r + 1) (by omega)
    rw [e]
    exact ⟨h, h2, h1⟩
theorem stAt_q (p : Pl) (k : Nat) : p.stAt k = ⟨(k / p.na / p.no / p.ny / p.nx / p.n0 : Nat), (k / p.na / p.no / p.ny / p.nx % p.n0 : Nat), (k / p.na / p.no / p.ny % p.nx : Nat), (k / p.na / p.no % p.ny : Nat), (k / p.na % p.no : Nat), (k % p.na : Nat)⟩ := by
  have e1 : k / (p.no * p.na) = k / p.na / p.no := by rw [Nat.mul_comm, Nat.div_div_eq_div_mul]
  have e2 : k / (p.ny * (p.no * p.na)) = k / p.na / p.no / p.ny := by rw [Nat.mul_comm p.ny, ← Nat.div_div_eq_div_mul, e1]
  have e3 : k / (p.nx * (p.ny * (p.no * p.na))) = k / p.na / p.no / p.ny / p.nx := by rw [Nat.mul_comm p.nx, ← Nat.div_div_eq_div_mul, e2]
  have e4 : k / (p.n0 * (p.nx * (p.ny * (p.no * p.na)))) = k / p.na / p.no / p.ny / p.nx / p.n0 := by rw [Nat.mul_comm p.n0, ← Nat.div_div_eq_div_mul, e3]
  unfold Pl.stAt
  rw [e1, e2, e3, e4]
structure Succ (p : Pl) (k : Nat) (x y : St) : Prop where
  d5 : x.age ≠ p.age → y = ⟨x.level, x.position, x.p0, x.p1, x.order, x.age + 1⟩
  d4 : x.age = p.age → x.order ≠ p.orders → y = ⟨x.level, x.position, x.p0, x.p1, x.order + 1, 0⟩
  d3 : x.age = p.age → x.order = p.orders → x.p1 ≠ p.m1 → y = ⟨x.level, x.position, x.p0, x.p1 + 1, 0, 0⟩
  d2 : x.age = p.age → x.order = p.orders → x.p1 = p.m1 → x.p0 ≠ p.m0 → y = ⟨x.level, x.position, x.p0 + 1, 0, 0, 0⟩
  d1 : x.age = p.age → x.order = p.orders → x.p1 = p.m1 → x.p0 = p.m0 → x.position ≠ p.positions → y = ⟨x.level, x.position + 1, 0, 0, 0, 0⟩
  d0 : x.age = p.age → x.order = p.orders → x.p1 = p.m1 → x.p0 = p.m0 → x.position = p.positions → x.level ≠ p.top → y = ⟨x.level + 1, 0, 0, 0, 0, 0⟩
theorem stAt_succ {p : Pl} (hv : p.Valid) (k : Nat) : Succ p k (p.stAt k) (p.stAt (k + 1)) := by
  obtain ⟨a, b, c, d, e⟩ := hv.ns
  obtain ⟨m1, m2⟩ := hv.maxes
  have h1 := hv.positions
  have h3 := hv.orders
  have h4 := hv.age
  have e0 : (p.n0 : Int) = p.positions + 1 := by unfold Pl.n0; omega
  have e1 : (p.no : Int) = p.orders + 1 := by unfold Pl.no; omega
  have e2 : (p.na : Int) = p.age + 1 := by unfold Pl.na; omega
  change (p.nx : Int) - 1 = p.m0 at m1
  change (p.ny : Int) - 1 = p.m1 at m2
  rw [stAt_q, stAt_q]
  have s5 := mod_step (q := k) e
  have s4 := mod_step (q := k / p.na) d
  have s3 := mod_step (q := k / p.na / p.no) c
  have s2 := mod_step (q := k / p.na / p.no / p.ny) b
  have s1 := mod_step (q := k / p.na / p.no / p.ny / p.nx) a
  constructor
  · intro g5
    dsimp only at g5
    obtain ⟨_, r5, q5⟩ := s5.resolve_right (fun h => g5 (by have := h.1; omega))
    simp only [r5, q5]
    congr 1
  · intro g5 g4
    dsimp only at g5 g4
    obtain ⟨_, r5, q5⟩ := s5.resolve_left (fun h => h.1 (by omega))
    obtain ⟨_, r4, q4⟩ := s4.resolve_right (fun h => g4 (by have := h.1; omega))
    simp only [r5, q5, r4, q4]
    congr 1
  · intro g5 g4 g3
    dsimp only at g5 g4 g3
    obtain ⟨_, r5, q5⟩ := s5.resolve_left (fun h => h.1 (by omega))
    obtain ⟨_, r4, q4⟩ := s4.resolve_left (fun h => h.1 (by omega))
    obtain ⟨_, r3, q3⟩ := s3.resolve_right (fun h => g3 (by have := h.1; omega))
    simp only [r5, q5, r4, q4, r3, q3]
    congr 1
  · intro g5 g4 g3 g2
    dsimp only at g5 g4 g3 g2
    obtain ⟨_, r5, q5⟩ := s5.resolve_left (fun h => h.1 (by omega))
    obtain ⟨_, r4, q4⟩ := s4.resolve_left (fun h => h.1 (by omega))
    obtain ⟨_, r3, q3⟩ := s3.resolve_left (fun h => h.1 (by omega))
    obtain ⟨_, r2, q2⟩ := s2.resolve_right (fun h => g2 (by have := h.1; omega))
    simp only [r5, q5, r4, q4, r3, q3, r2, q2]
    congr 1
  · intro g5 g4 g3 g2 g1
    dsimp only at g5 g4 g3 g2 g1
    obtain ⟨_, r5, q5⟩ := s5.resolve_left (fun h => h.1 (by omega))
    obtain ⟨_, r4, q4⟩ := s4.resolve_left (fun h => h.1 (by omega))
    obtain ⟨_, r3, q3⟩ := s3.resolve_left (fun h => h.1 (by omega))
    obtain ⟨_, r2, q2⟩ := s2.resolve_left (fun h => h.1 (by omega))
    obtain ⟨_, r1, q1⟩ := s1.resolve_right (fun h => g1 (by have := h.1; omega))
    simp only [r5, q5, r4, q4, r3, q3, r2, q2, r1, q1]
    congr 1
  · intro g5 g4 g3 g2 g1 g0
    dsimp only at g5 g4 g3 g2 g1 g0
    obtain ⟨_, r5, q5⟩ := s5.resolve_left (fun h => h.1 (by omega))
    obtain ⟨_, r4, q4⟩ := s4.resolve_left (fun h => h.1 (by omega))
    obtain ⟨_, r3, q3⟩ := s3.resolve_left (fun h => h.1 (by omega))
    obtain ⟨_, r2, q2⟩ := s2.resolve_left (fun h => h.1 (by omega))
    obtain ⟨_, r1, q1⟩ := s1.resolve_left (fun h => h.1 (by omega))
    simp only [r5, q5, r4, q4, r3, q3, r2, q2, r1, q1]
    congr 1

theorem mod_last {n q : Nat} (h : q % n = n - 1) (hn : 0 < n) : q + 1 = (q / n + 1) * n := by
  have := Nat.div_add_mod q n
  rw [Nat.add_mul, Nat.one_mul, Nat.mul_comm]
  omega
theorem stAt_last {p : Pl} (hv : p.Valid) {k : Nat} (hk : k < p.count) (g5 : (p.stAt k).age = p.age) (g4 : (p.stAt k).order = p.orders) (g3 : (p.stAt k).p1 = p.m1) (g2 : (p.stAt k).p0 = p.m0) (g1 : (p.stAt k).position = p.positions) (g0 : (p.stAt k).level = p.top) : k + 1 = p.count := by
  obtain ⟨a, b, c, d, e⟩ := hv.ns
  obtain ⟨m1, m2⟩ := hv.maxes
  have h1 := hv.positions
  have h2 := hv.top
  have h3 := hv.orders
  have h4 := hv.age
  have e0 : (p.n0 : Int) = p.positions + 1 := by unfold Pl.n0; omega
  have e1 : (p.no : Int) = p.orders + 1 := by unfold Pl.no; omega
  have e2 : (p.na : Int) = p.age + 1 := by unfold Pl.na; omega
  change (p.nx : Int) - 1 = p.m0 at m1
  change (p.ny : Int) - 1 = p.m1 at m2
  rw [stAt_q] at g5 g4 g3 g2 g1 g0
  dsimp only at g5 g4 g3 g2 g1 g0
  have s5 := mod_last (q := k) (n := p.na) (by omega) e
  have s4 := mod_last (q := k / p.na) (n := p.no) (by omega) d
  have s3 := mod_last (q := k / p.na / p.no) (n := p.ny) (by omega) c
  have s2 := mod_last (q := k / p.na / p.no / p.ny) (n := p.nx) (by omega) b
  have s1 := mod_last (q := k / p.na / p.no / p.ny / p.nx) (n := p.n0) (by omega) a
  have s0 : k / p.na / p.no / p.ny / p.nx / p.n0 + 1 = (p.top + 1).toNat := by omega
  rw [s5, s4, s3, s2, s1, s0]
  unfold Pl.count
  simp only [Nat.mul_assoc]
theorem stAt_zero (p : Pl) : p.stAt 0 = St.zero := by simp [stAt_q, St.zero]
theorem states_take (p : Pl) (k : Nat) : (List.range (k + 1)).map p.stAt = (List.range k).map p.stAt ++ [p.stAt k] := by
  rw [List.range_succ, List.map_append]; rfl
theorem count_pos {p : Pl} (hv : p.Valid) : 0 < p.count := by
  obtain ⟨a, b, c, d, e⟩ := hv.ns
  have := hv.top
  exact Nat.mul_pos (by omega) (Nat.mul_pos a (Nat.mul_pos b (Nat.mul_pos c (Nat.mul_pos d e))))
end Go.Proofs.Ytcjcjkomcolgeaa

/-
  What the iterator states of package barrier promises. (Printed by gen_bm.py.) No condition.
-/
namespace Go.Proofs.Ytcjcjkomcolgeaa
open Go.RowKit Go.Shelf
attribute [local go_sem] Oper.semAt_some

theorem small6 {p : Pl} (hv : p.Valid) {x0 x1 x2 x3 x4 x5 : Int} (h : (0 ≤ x0 ∧ x0 ≤ p.top) ∧ (0 ≤ x1 ∧ x1 ≤ p.positions) ∧ (0 ≤ x2 ∧ x2 ≤ if 0 < p.pipe then p.feed else 0) ∧ (0 ≤ x3 ∧ x3 ≤ if 1 < p.pipe then p.feed else 0) ∧ (0 ≤ x4 ∧ x4 ≤ p.orders) ∧ 0 ≤ x5 ∧ x5 ≤ p.age) :
    (0 ≤ x0 ∧ x0 ≤ 63) ∧ (0 ≤ x1 ∧ x1 ≤ 63) ∧ (0 ≤ x2 ∧ x2 ≤ 63) ∧ (0 ≤ x3 ∧ x3 ≤ 63) ∧ (0 ≤ x4 ∧ x4 ≤ 63) ∧ 0 ≤ x5 ∧ x5 ≤ 63 := by
  have h1 := hv.positions
  have h2 := hv.top
  have h3 := hv.orders
  have h4 := hv.age
  have h5 := hv.feed
  obtain ⟨a, b, c, d, e, f⟩ := h
  refine ⟨by omega, by omega, ?_, ?_, by omega, by omega⟩
  · split at c <;> omega
  · split at d <;> omega
theorem last_max {n q t : Nat} (hn : 0 < n) (h : q + 1 = t * n) : q % n = n - 1 ∧ q / n + 1 = t := by
  have h0 : (q + 1) % n = 0 := by rw [h]; exact Nat.mul_mod_left t n
  have h1 : (q + 1) / n = t := by rw [h]; exact Nat.mul_div_left t hn
  rcases mod_step (q := q) hn with ⟨_, h2, _⟩ | ⟨h2, _, h3⟩
  · omega
  · exact ⟨h2, by omega⟩
theorem stAt_end {p : Pl} (hv : p.Valid) {k : Nat} (h : k + 1 = p.count) : (p.stAt k).age = p.age ∧ (p.stAt k).order = p.orders ∧ (p.stAt k).p1 = p.m1 ∧ (p.stAt k).p0 = p.m0 ∧ (p.stAt k).position = p.positions ∧ (p.stAt k).level = p.top := by
  obtain ⟨a, b, c, d, e⟩ := hv.ns
  obtain ⟨m1, m2⟩ := hv.maxes
  have h1 := hv.positions
  have h2 := hv.top
  have h3 := hv.orders
  have h4 := hv.age
  have e0 : (p.n0 : Int) = p.positions + 1 := by unfold Pl.n0; omega
  have e1 : (p.no : Int) = p.orders + 1 := by unfold Pl.no; omega
  have e2 : (p.na : Int) = p.age + 1 := by unfold Pl.na; omega
  change (p.nx : Int) - 1 = p.m0 at m1
  change (p.ny : Int) - 1 = p.m1 at m2
  have hc : p.count = (((((p.top + 1).toNat * p.n0) * p.nx) * p.ny) * p.no) * p.na := by unfold Pl.count; simp only [Nat.mul_assoc]
  obtain ⟨r5, s5⟩ := last_max e (h.trans hc)
  obtain ⟨r4, s4⟩ := last_max d s5
  obtain ⟨r3, s3⟩ := last_max c s4
  obtain ⟨r2, s2⟩ := last_max b s3
  obtain ⟨r1, s1⟩ := last_max a s2
  rw [stAt_q]
  dsimp only
  refine ⟨?_, ?_, ?_, ?_, ?_, ?_⟩ <;> omega
set_option maxRecDepth 100000 in
set_option maxHeartbeats 4000000 in
theorem states_seq (n : Nat) (p : Pl) (hv : Hid p.Valid) (Bm : Nat) (w : World) (D : Nat) (R : Nat → Prop) (hm : Box w Bm (mostL p)) (hRm : ¬ R Bm) (hRw : Hid (∀ b, R b → b < w.heap.size)) :
    SeqB Fence.wide n Try.prog 78 #[.pointer (some ⟨Bm, 0, none⟩)] (fun x : St => #[x.v]) (KeepsC D R) (fun xs => xs = p.states) (fun pre => pre <+: p.states) (fun pre x => pre ++ [x] <+: p.states) w := fun l J Jx W hW hJ hJx hY h0 => by
  have HY := Lib.hid hY
  have HJ := Lib.hid hJ
  have HJx := Lib.hid hJx
  clear hY hJ hJx
  have hm := hm.later hW
  have hRa : ¬ R W.heap.size := fun h => by have := hRw.out _ h; have := hW.size; omega
  have hml := hm.lt
  have hne : Bm ≠ W.heap.size := Nat.ne_of_lt hml
  have hCP := Lib.hid (count_pos hv.out)
  refine callsIn_of_wp Try.func78 rfl trivial ?_ rfl
  simp only [Try.ntmps78, List.size_toArray, List.length_cons, List.length_nil, Nat.reduceAdd, Nat.reduceSub, Array.replicate_succ, Array.replicate_zero, List.push_toArray, List.append_toArray, List.nil_append, List.cons_append]
  refine wpIn_wide.2 ?_
  go_wp2_with fail
  have hbA := (Below.refl W.heap.size W).alloc (Nat.le_refl _) (.cells #[.int .i64 0, .int .i64 0, .int .i64 0, .int .i64 0, .int .i64 0, .int .i64 0] 142)
  have Y0 := Box.new W [.int .i64 0, .int .i64 0, .int .i64 0, .int .i64 0, .int .i64 0, .int .i64 0] 142
  have M0 := hm.alloc (.cells #[.int .i64 0, .int .i64 0, .int .i64 0, .int .i64 0, .int .i64 0, .int .i64 0] 142)
  have J0 := HJ.out _ _ _ h0 hbA
  generalize W.alloc (.cells #[.int .i64 0, .int .i64 0, .int .i64 0, .int .i64 0, .int .i64 0, .int .i64 0] 142) = W1 at hbA Y0 M0 J0 ⊢
  go_loopg [] p.count (fun g wr => ∃ k : Nat, k + g = p.count ∧ 0 < g ∧ Box wr W.heap.size (p.stAt k).cells ∧ Box wr Bm (mostL p) ∧ J ((List.range k).map p.stAt) wr)
  case atStart =>
    refine ⟨0, by omega, hCP.out, ?_, M0, J0⟩
    rw [stAt_zero]
    exact Y0
  case round =>
    obtain ⟨k, hkg, hg0, Y, M, hJ0⟩ := hrel
    clear Y0 M0 J0 hbA hm
    obtain ⟨wo, rfl⟩ : ∃ wo : World, wo = wr := ⟨_, rfl⟩
    obtain ⟨G, rfl⟩ : ∃ G, G = gk := ⟨_, rfl⟩
    have hkc : k < p.count := by omega
    have hsucc := Lib.hid (stAt_succ hv.out k)
    have hlast := Lib.hid (stAt_last hv.out hkc)
    obtain ⟨f0, t0, a0, c0, hy0, hR0⟩ := HY.out _ (p.stAt k) wo hJ0 (by rw [← states_take]; exact List.IsPrefix.map _ (by rw [List.prefix_iff_eq_take, List.length_range, List.take_range]; congr 1; omega))
    have HT := Lib.hid (states_take p k)
    rw [← HT.out] at hR0
    obtain ⟨y, hy⟩ : ∃ y, p.stAt k = y := ⟨_, rfl⟩
    rw [hy] at Y hy0 hsucc hlast
    obtain ⟨x0, x1, x2, x3, x4, x5⟩ := y
    simp only [St.v] at hy0
    have hbd := Pl.hasB_bd (stAt_has hv.out hkc)
    rw [hy] at hbd
    dsimp only at hbd
    have HB := Lib.hid (small6 hv.out hbd)
    have HS := Lib.hid hy
    clear hy hbd
    have hal := Y.lt
    have Yc0 : wo.cell? ⟨W.heap.size, 0, none⟩ = some (.int .i64 x0) := Y.cell 0
    have Yc1 : wo.cell? ⟨W.heap.size, 1, none⟩ = some (.int .i64 x1) := Y.cell 1
    have Yc2 : wo.cell? ⟨W.heap.size, 2, none⟩ = some (.int .i64 x2) := Y.cell 2
    have Yc3 : wo.cell? ⟨W.heap.size, 3, none⟩ = some (.int .i64 x3) := Y.cell 3
    have Yc4 : wo.cell? ⟨W.heap.size, 4, none⟩ = some (.int .i64 x4) := Y.cell 4
    have Yc5 : wo.cell? ⟨W.heap.size, 5, none⟩ = some (.int .i64 x5) := Y.cell 5
    refine (wpIn_wide (n := n)).1 ?_
    gi_wp2_with fail
    refine ⟨(fun h => by cases h), hR0.mono ?_⟩
    rintro e W2 (⟨rfl, hJ3, hK⟩ | ⟨rfl, hx⟩)
    rotate_left
    · gi_wp2
      refine bodyPost_ret (results_none rfl _ _ _) rfl ?_
      refine ⟨⟨_, rfl⟩, .inr ⟨_, ?_, hx⟩⟩
      show List.map _ _ <+: List.map _ _
      exact List.IsPrefix.map _ (by rw [List.prefix_iff_eq_take, List.length_range, List.take_range]; congr 1; omega)
    have Y := hK.box Y hRa
    have M := hK.box M hRm
    have hal := Nat.lt_of_lt_of_le hal hK.size
    clear hR0 hy0 hJ0 hK Yc0 Yc1 Yc2 Yc3 Yc4 Yc5 hml
    have hml := M.lt
    gi_wp2_with fail
    refine wpIn_wide.2 ?_
    go_loopw [4] (fun i wr => Below W.heap.size W2 wr ∧ Box wr Bm (mostL p) ∧ ((i = .int .i64 (5) ∧ Box wr W.heap.size [.int .i64 x0, .int .i64 x1, .int .i64 x2, .int .i64 x3, .int .i64 x4, .int .i64 x5]) ∨ (i = .int .i64 (4) ∧ x5 = p.age ∧ Box wr W.heap.size [.int .i64 x0, .int .i64 x1, .int .i64 x2, .int .i64 x3, .int .i64 x4, .int .i64 0]) ∨ (i = .int .i64 (3) ∧ x5 = p.age ∧ x4 = p.orders ∧ Box wr W.heap.size [.int .i64 x0, .int .i64 x1, .int .i64 x2, .int .i64 x3, .int .i64 0, .int .i64 0]) ∨ (i = .int .i64 (2) ∧ x5 = p.age ∧ x4 = p.orders ∧ x3 = p.m1 ∧ Box wr W.heap.size [.int .i64 x0, .int .i64 x1, .int .i64 x2, .int .i64 0, .int .i64 0, .int .i64 0]) ∨ (i = .int .i64 (1) ∧ x5 = p.age ∧ x4 = p.orders ∧ x3 = p.m1 ∧ x2 = p.m0 ∧ Box wr W.heap.size [.int .i64 x0, .int .i64 x1, .int .i64 0, .int .i64 0, .int .i64 0, .int .i64 0]) ∨ (i = .int .i64 (0) ∧ x5 = p.age ∧ x4 = p.orders ∧ x3 = p.m1 ∧ x2 = p.m0 ∧ x1 = p.positions ∧ Box wr W.heap.size [.int .i64 x0, .int .i64 0, .int .i64 0, .int .i64 0, .int .i64 0, .int .i64 0]) ∨ (i = .int .i64 (-1) ∧ x5 = p.age ∧ x4 = p.orders ∧ x3 = p.m1 ∧ x2 = p.m0 ∧ x1 = p.positions ∧ x0 = p.top ∧ Box wr W.heap.size [.int .i64 0, .int .i64 0, .int .i64 0, .int .i64 0, .int .i64 0, .int .i64 0]))) (fun i _ => (intOf i + 1).toNat)
    case atStart => exact ⟨Below.refl _ _, M, .inl ⟨rfl, Y⟩⟩
    case round =>
      clear Y M hal hml
      obtain ⟨hb2, M, hrel⟩ := hrel
      obtain ⟨wi, rfl⟩ : ∃ wi : World, wi = wr := ⟨_, rfl⟩
      have hJ4 := HJ.out _ _ _ hJ3 hb2
      have hml := M.lt
      rcases hrel with ⟨rfl, Y⟩ | ⟨rfl, g5, Y⟩ | ⟨rfl, g5, g4, Y⟩ | ⟨rfl, g5, g4, g3, Y⟩ | ⟨rfl, g5, g4, g3, g2, Y⟩ | ⟨rfl, g5, g4, g3, g2, g1, Y⟩ | ⟨rfl, g5, g4, g3, g2, g1, g0, Y⟩
      · have hal := Y.lt
        have Yc0 : wi.cell? ⟨W.heap.size, 0, none⟩ = some (.int .i64 x0) := Y.cell 0
        have Yf0 : wi.frozen? ⟨W.heap.size, 0, none⟩ = false := Y.free 0
        have Yc1 : wi.cell? ⟨W.heap.size, 1, none⟩ = some (.int .i64 x1) := Y.cell 1
        have Yf1 : wi.frozen? ⟨W.heap.size, 1, none⟩ = false := Y.free 1
        have Yc2 : wi.cell? ⟨W.heap.size, 2, none⟩ = some (.int .i64 x2) := Y.cell 2
        have Yf2 : wi.frozen? ⟨W.heap.size, 2, none⟩ = false := Y.free 2
        have Yc3 : wi.cell? ⟨W.heap.size, 3, none⟩ = some (.int .i64 x3) := Y.cell 3
        have Yf3 : wi.frozen? ⟨W.heap.size, 3, none⟩ = false := Y.free 3
        have Yc4 : wi.cell? ⟨W.heap.size, 4, none⟩ = some (.int .i64 x4) := Y.cell 4
        have Yf4 : wi.frozen? ⟨W.heap.size, 4, none⟩ = false := Y.free 4
        have Yc5 : wi.cell? ⟨W.heap.size, 5, none⟩ = some (.int .i64 x5) := Y.cell 5
        have Yf5 : wi.frozen? ⟨W.heap.size, 5, none⟩ = false := Y.free 5
        have Yz : W.heap.size < wi.heap.size := Y.lt
        have Mc0 : wi.cell? ⟨Bm, 0, none⟩ = some (.int .i64 p.top) := M.cell 0
        have Mc1 : wi.cell? ⟨Bm, 1, none⟩ = some (.int .i64 p.positions) := M.cell 1
        have Mc2 : wi.cell? ⟨Bm, 2, none⟩ = some (.int .i64 p.m0) := M.cell 2
        have Mc3 : wi.cell? ⟨Bm, 3, none⟩ = some (.int .i64 p.m1) := M.cell 3
        have Mc4 : wi.cell? ⟨Bm, 4, none⟩ = some (.int .i64 p.orders) := M.cell 4
        have Mc5 : wi.cell? ⟨Bm, 5, none⟩ = some (.int .i64 p.age) := M.cell 5
        by_cases g5 : x5 = p.age
        · have hd : decide (x5 = p.age) = true := decide_eq_true g5
          have hd2 : (x5 == p.age) = true := by simp [g5]
          have G5 := Lib.hid g5
          clear g5
          go_wp2_with (fail)
          go_quiet (fail)
          go_wp2
          refine ⟨⟨(bel_drewN hb2 nq).setCell (by simp) _, M.other (Ne.symm (Ne.symm hne)) _, .inr (.inl ⟨by go_num, G5.out, Y.set 5 _⟩)⟩, by simp [intOf]⟩
        · have hd : decide (x5 = p.age) = false := decide_eq_false g5
          have hd2 : (x5 == p.age) = false := by simp [g5]
          go_wp2_with (fail)
          go_quiet (fail)
          go_wp2
          have hB := HB.out
          have hw : wrap64 (x5 + 1) = x5 + 1 := by unfold wrap64; omega
          clear hB
          refine wpIn_wide.2 ?_
          go_wp2
          go_roundg (G - 1)
          case measure => omega
          case rel =>
            refine ⟨k + 1, by omega, ?_, ?_, M.other (a := ⟨W.heap.size, 5, none⟩) hne _, HJ.out _ _ _ hJ4 ((bel_drewN (Below.refl _ _) nq).setCell (p := ⟨W.heap.size, 5, none⟩) (Nat.le_refl _) _)⟩
            · rcases Nat.eq_zero_or_pos (G - 1) with hz | hz
              · exact absurd (by have := (stAt_end hv.out (k := k) (by omega)).1; rw [HS.out] at this; exact this) g5
              · exact hz
            · rw [show p.stAt (k + 1) = _ from hsucc.out.d5 g5]
              exact (Y.drewN nq).set 5 _
      · have hal := Y.lt
        have Yc0 : wi.cell? ⟨W.heap.size, 0, none⟩ = some (.int .i64 x0) := Y.cell 0
        have Yf0 : wi.frozen? ⟨W.heap.size, 0, none⟩ = false := Y.free 0
        have Yc1 : wi.cell? ⟨W.heap.size, 1, none⟩ = some (.int .i64 x1) := Y.cell 1
        have Yf1 : wi.frozen? ⟨W.heap.size, 1, none⟩ = false := Y.free 1
        have Yc2 : wi.cell? ⟨W.heap.size, 2, none⟩ = some (.int .i64 x2) := Y.cell 2
        have Yf2 : wi.frozen? ⟨W.heap.size, 2, none⟩ = false := Y.free 2
        have Yc3 : wi.cell? ⟨W.heap.size, 3, none⟩ = some (.int .i64 x3) := Y.cell 3
        have Yf3 : wi.frozen? ⟨W.heap.size, 3, none⟩ = false := Y.free 3
        have Yc4 : wi.cell? ⟨W.heap.size, 4, none⟩ = some (.int .i64 x4) := Y.cell 4
        have Yf4 : wi.frozen? ⟨W.heap.size, 4, none⟩ = false := Y.free 4
        have Yc5 : wi.cell? ⟨W.heap.size, 5, none⟩ = some (.int .i64 0) := Y.cell 5
        have Yf5 : wi.frozen? ⟨W.heap.size, 5, none⟩ = false := Y.free 5
        have Yz : W.heap.size < wi.heap.size := Y.lt
        have Mc0 : wi.cell? ⟨Bm, 0, none⟩ = some (.int .i64 p.top) := M.cell 0
        have Mc1 : wi.cell? ⟨Bm, 1, none⟩ = some (.int .i64 p.positions) := M.cell 1
        have Mc2 : wi.cell? ⟨Bm, 2, none⟩ = some (.int .i64 p.m0) := M.cell 2
        have Mc3 : wi.cell? ⟨Bm, 3, none⟩ = some (.int .i64 p.m1) := M.cell 3
        have Mc4 : wi.cell? ⟨Bm, 4, none⟩ = some (.int .i64 p.orders) := M.cell 4
        have Mc5 : wi.cell? ⟨Bm, 5, none⟩ = some (.int .i64 p.age) := M.cell 5
        by_cases g4 : x4 = p.orders
        · have hd : decide (x4 = p.orders) = true := decide_eq_true g4
          have hd2 : (x4 == p.orders) = true := by simp [g4]
          have G4 := Lib.hid g4
          clear g4
          go_wp2_with (fail)
          go_quiet (fail)
          go_wp2
          refine ⟨⟨(bel_drewN hb2 nq).setCell (by simp) _, M.other (Ne.symm (Ne.symm hne)) _, .inr (.inr (.inl ⟨by go_num, g5, G4.out, Y.set 4 _⟩))⟩, by simp [intOf]⟩
        · have hd : decide (x4 = p.orders) = false := decide_eq_false g4
          have hd2 : (x4 == p.orders) = false := by simp [g4]
          go_wp2_with (fail)
          go_quiet (fail)
          go_wp2
          have hB := HB.out
          have hw : wrap64 (x4 + 1) = x4 + 1 := by unfold wrap64; omega
          clear hB
          refine wpIn_wide.2 ?_
          go_wp2
          go_roundg (G - 1)
          case measure => omega
          case rel =>
            refine ⟨k + 1, by omega, ?_, ?_, M.other (a := ⟨W.heap.size, 4, none⟩) hne _, HJ.out _ _ _ hJ4 ((bel_drewN (Below.refl _ _) nq).setCell (p := ⟨W.heap.size, 4, none⟩) (Nat.le_refl _) _)⟩
            · rcases Nat.eq_zero_or_pos (G - 1) with hz | hz
              · exact absurd (by have := (stAt_end hv.out (k := k) (by omega)).2.1; rw [HS.out] at this; exact this) g4
              · exact hz
            · rw [show p.stAt (k + 1) = _ from hsucc.out.d4 g5 g4]
              exact (Y.drewN nq).set 4 _
      · have hal := Y.lt
        have Yc0 : wi.cell? ⟨W.heap.size, 0, none⟩ = some (.int .i64 x0) := Y.cell 0
        have Yf0 : wi.frozen? ⟨W.heap.size, 0, none⟩ = false := Y.free 0
        have Yc1 : wi.cell? ⟨W.heap.size, 1, none⟩ = some (.int .i64 x1) := Y.cell 1
        have Yf1 : wi.frozen? ⟨W.heap.size, 1, none⟩ = false := Y.free 1
        have Yc2 : wi.cell? ⟨W.heap.size, 2, none⟩ = some (.int .i64 x2) := Y.cell 2
        have Yf2 : wi.frozen? ⟨W.heap.size, 2, none⟩ = false := Y.free 2
        have Yc3 : wi.cell? ⟨W.heap.size, 3, none⟩ = some (.int .i64 x3) := Y.cell 3
        have Yf3 : wi.frozen? ⟨W.heap.size, 3, none⟩ = false := Y.free 3
        have Yc4 : wi.cell? ⟨W.heap.size, 4, none⟩ = some (.int .i64 0) := Y.cell 4
        have Yf4 : wi.frozen? ⟨W.heap.size, 4, none⟩ = false := Y.free 4
        have Yc5 : wi.cell? ⟨W.heap.size, 5, none⟩ = some (.int .i64 0) := Y.cell 5
        have Yf5 : wi.frozen? ⟨W.heap.size, 5, none⟩ = false := Y.free 5
        have Yz : W.heap.size < wi.heap.size := Y.lt
        have Mc0 : wi.cell? ⟨Bm, 0, none⟩ = some (.int .i64 p.top) := M.cell 0
        have Mc1 : wi.cell? ⟨Bm, 1, none⟩ = some (.int .i64 p.positions) := M.cell 1
        have Mc2 : wi.cell? ⟨Bm, 2, none⟩ = some (.int .i64 p.m0) := M.cell 2
        have Mc3 : wi.cell? ⟨Bm, 3, none⟩ = some (.int .i64 p.m1) := M.cell 3
        have Mc4 : wi.cell? ⟨Bm, 4, none⟩ = some (.int .i64 p.orders) := M.cell 4
        have Mc5 : wi.cell? ⟨Bm, 5, none⟩ = some (.int .i64 p.age) := M.cell 5
        by_cases g3 : x3 = p.m1
        · have hd : decide (x3 = p.m1) = true := decide_eq_true g3
          have hd2 : (x3 == p.m1) = true := by simp [g3]
          have G3 := Lib.hid g3
          clear g3
          go_wp2_with (fail)
          go_quiet (fail)
          go_wp2
          refine ⟨⟨(bel_drewN hb2 nq).setCell (by simp) _, M.other (Ne.symm (Ne.symm hne)) _, .inr (.inr (.inr (.inl ⟨by go_num, g5, g4, G3.out, Y.set 3 _⟩)))⟩, by simp [intOf]⟩
        · have hd : decide (x3 = p.m1) = false := decide_eq_false g3
          have hd2 : (x3 == p.m1) = false := by simp [g3]
          go_wp2_with (fail)
          go_quiet (fail)
          go_wp2
          have hB := HB.out
          have hw : wrap64 (x3 + 1) = x3 + 1 := by unfold wrap64; omega
          clear hB
          refine wpIn_wide.2 ?_
          go_wp2
          go_roundg (G - 1)
          case measure => omega
          case rel =>
            refine ⟨k + 1, by omega, ?_, ?_, M.other (a := ⟨W.heap.size, 3, none⟩) hne _, HJ.out _ _ _ hJ4 ((bel_drewN (Below.refl _ _) nq).setCell (p := ⟨W.heap.size, 3, none⟩) (Nat.le_refl _) _)⟩
            · rcases Nat.eq_zero_or_pos (G - 1) with hz | hz
              · exact absurd (by have := (stAt_end hv.out (k := k) (by omega)).2.2.1; rw [HS.out] at this; exact this) g3
              · exact hz
            · rw [show p.stAt (k + 1) = _ from hsucc.out.d3 g5 g4 g3]
              exact (Y.drewN nq).set 3 _
      · have hal := Y.lt
        have Yc0 : wi.cell? ⟨W.heap.size, 0, none⟩ = some (.int .i64 x0) := Y.cell 0
        have Yf0 : wi.frozen? ⟨W.heap.size, 0, none⟩ = false := Y.free 0
        have Yc1 : wi.cell? ⟨W.heap.size, 1, none⟩ = some (.int .i64 x1) := Y.cell 1
        have Yf1 : wi.frozen? ⟨W.heap.size, 1, none⟩ = false := Y.free 1
        have Yc2 : wi.cell? ⟨W.heap.size, 2, none⟩ = some (.int .i64 x2) := Y.cell 2
        have Yf2 : wi.frozen? ⟨W.heap.size, 2, none⟩ = false := Y.free 2
        have Yc3 : wi.cell? ⟨W.heap.size, 3, none⟩ = some (.int .i64 0) := Y.cell 3
        have Yf3 : wi.frozen? ⟨W.heap.size, 3, none⟩ = false := Y.free 3
        have Yc4 : wi.cell? ⟨W.heap.size, 4, none⟩ = some (.int .i64 0) := Y.cell 4
        have Yf4 : wi.frozen? ⟨W.heap.size, 4, none⟩ = false := Y.free 4
        have Yc5 : wi.cell? ⟨W.heap.size, 5, none⟩ = some (.int .i64 0) := Y.cell 5
        have Yf5 : wi.frozen? ⟨W.heap.size, 5, none⟩ = false := Y.free 5
        have Yz : W.heap.size < wi.heap.size := Y.lt
        have Mc0 : wi.cell? ⟨Bm, 0, none⟩ = some (.int .i64 p.top) := M.cell 0
        have Mc1 : wi.cell? ⟨Bm, 1, none⟩ = some (.int .i64 p.positions) := M.cell 1
        have Mc2 : wi.cell? ⟨Bm, 2, none⟩ = some (.int .i64 p.m0) := M.cell 2
        have Mc3 : wi.cell? ⟨Bm, 3, none⟩ = some (.int .i64 p.m1) := M.cell 3
        have Mc4 : wi.cell? ⟨Bm, 4, none⟩ = some (.int .i64 p.orders) := M.cell 4
        have Mc5 : wi.cell? ⟨Bm, 5, none⟩ = some (.int .i64 p.age) := M.cell 5
        by_cases g2 : x2 = p.m0
        · have hd : decide (x2 = p.m0) = true := decide_eq_true g2
          have hd2 : (x2 == p.m0) = true := by simp [g2]
          have G2 := Lib.hid g2
          clear g2
          go_wp2_with (fail)
          go_quiet (fail)
          go_wp2
          refine ⟨⟨(bel_drewN hb2 nq).setCell (by simp) _, M.other (Ne.symm (Ne.symm hne)) _, .inr (.inr (.inr (.inr (.inl ⟨by go_num, g5, g4, g3, G2.out, Y.set 2 _⟩))))⟩, by simp [intOf]⟩
        · have hd : decide (x2 = p.m0) = false := decide_eq_false g2
          have hd2 : (x2 == p.m0) = false := by simp [g2]
          go_wp2_with (fail)
          go_quiet (fail)
          go_wp2
          have hB := HB.out
          have hw : wrap64 (x2 + 1) = x2 + 1 := by unfold wrap64; omega
          clear hB
          refine wpIn_wide.2 ?_
          go_wp2
          go_roundg (G - 1)
          case measure => omega
          case rel =>
            refine ⟨k + 1, by omega, ?_, ?_, M.other (a := ⟨W.heap.size, 2, none⟩) hne _, HJ.out _ _ _ hJ4 ((bel_drewN (Below.refl _ _) nq).setCell (p := ⟨W.heap.size, 2, none⟩) (Nat.le_refl _) _)⟩
            · rcases Nat.eq_zero_or_pos (G - 1) with hz | hz
              · exact absurd (by have := (stAt_end hv.out (k := k) (by omega)).2.2.2.1; rw [HS.out] at this; exact this) g2
              · exact hz
            · rw [show p.stAt (k + 1) = _ from hsucc.out.d2 g5 g4 g3 g2]
              exact (Y.drewN nq).set 2 _
      · have hal := Y.lt
        have Yc0 : wi.cell? ⟨W.heap.size, 0, none⟩ = some (.int .i64 x0) := Y.cell 0
        have Yf0 : wi.frozen? ⟨W.heap.size, 0, none⟩ = false := Y.free 0
        have Yc1 : wi.cell? ⟨W.heap.size, 1, none⟩ = some (.int .i64 x1) := Y.cell 1
        have Yf1 : wi.frozen? ⟨W.heap.size, 1, none⟩ = false := Y.free 1
        have Yc2 : wi.cell? ⟨W.heap.size, 2, none⟩ = some (.int .i64 0) := Y.cell 2
        have Yf2 : wi.frozen? ⟨W.heap.size, 2, none⟩ = false := Y.free 2
        have Yc3 : wi.cell? ⟨W.heap.size, 3, none⟩ = some (.int .i64 0) := Y.cell 3
        have Yf3 : wi.frozen? ⟨W.heap.size, 3, none⟩ = false := Y.free 3
        have Yc4 : wi.cell? ⟨W.heap.size, 4, none⟩ = some (.int .i64 0) := Y.cell 4
        have Yf4 : wi.frozen? ⟨W.heap.size, 4, none⟩ = false := Y.free 4
        have Yc5 : wi.cell? ⟨W.heap.size, 5, none⟩ = some (.int .i64 0) := Y.cell 5
        have Yf5 : wi.frozen? ⟨W.heap.size, 5, none⟩ = false := Y.free 5
        have Yz : W.heap.size < wi.heap.size := Y.lt
        have Mc0 : wi.cell? ⟨Bm, 0, none⟩ = some (.int .i64 p.top) := M.cell 0
        have Mc1 : wi.cell? ⟨Bm, 1, none⟩ = some (.int .i64 p.positions) := M.cell 1
        have Mc2 : wi.cell? ⟨Bm, 2, none⟩ = some (.int .i64 p.m0) := M.cell 2
        have Mc3 : wi.cell? ⟨Bm, 3, none⟩ = some (.int .i64 p.m1) := M.cell 3
        have Mc4 : wi.cell? ⟨Bm, 4, none⟩ = some (.int .i64 p.orders) := M.cell 4
        have Mc5 : wi.cell? ⟨Bm, 5, none⟩ = some (.int .i64 p.age) := M.cell 5
        by_cases g1 : x1 = p.positions
        · have hd : decide (x1 = p.positions) = true := decide_eq_true g1
          have hd2 : (x1 == p.positions) = true := by simp [g1]
          have G1 := Lib.hid g1
          clear g1
          go_wp2_with (fail)
          go_quiet (fail)
          go_wp2
          refine ⟨⟨(bel_drewN hb2 nq).setCell (by simp) _, M.other (Ne.symm (Ne.symm hne)) _, .inr (.inr (.inr (.inr (.inr (.inl ⟨by go_num, g5, g4, g3, g2, G1.out, Y.set 1 _⟩)))))⟩, by simp [intOf]⟩
        · have hd : decide (x1 = p.positions) = false := decide_eq_false g1
          have hd2 : (x1 == p.positions) = false := by simp [g1]
          go_wp2_with (fail)
          go_quiet (fail)
          go_wp2
          have hB := HB.out
          have hw : wrap64 (x1 + 1) = x1 + 1 := by unfold wrap64; omega
          clear hB
          refine wpIn_wide.2 ?_
          go_wp2
          go_roundg (G - 1)
          case measure => omega
          case rel =>
            refine ⟨k + 1, by omega, ?_, ?_, M.other (a := ⟨W.heap.size, 1, none⟩) hne _, HJ.out _ _ _ hJ4 ((bel_drewN (Below.refl _ _) nq).setCell (p := ⟨W.heap.size, 1, none⟩) (Nat.le_refl _) _)⟩
            · rcases Nat.eq_zero_or_pos (G - 1) with hz | hz
              · exact absurd (by have := (stAt_end hv.out (k := k) (by omega)).2.2.2.2.1; rw [HS.out] at this; exact this) g1
              · exact hz
            · rw [show p.stAt (k + 1) = _ from hsucc.out.d1 g5 g4 g3 g2 g1]
              exact (Y.drewN nq).set 1 _
      · have hal := Y.lt
        have Yc0 : wi.cell? ⟨W.heap.size, 0, none⟩ = some (.int .i64 x0) := Y.cell 0
        have Yf0 : wi.frozen? ⟨W.heap.size, 0, none⟩ = false := Y.free 0
        have Yc1 : wi.cell? ⟨W.heap.size, 1, none⟩ = some (.int .i64 0) := Y.cell 1
        have Yf1 : wi.frozen? ⟨W.heap.size, 1, none⟩ = false := Y.free 1
        have Yc2 : wi.cell? ⟨W.heap.size, 2, none⟩ = some (.int .i64 0) := Y.cell 2
        have Yf2 : wi.frozen? ⟨W.heap.size, 2, none⟩ = false := Y.free 2
        have Yc3 : wi.cell? ⟨W.heap.size, 3, none⟩ = some (.int .i64 0) := Y.cell 3
        have Yf3 : wi.frozen? ⟨W.heap.size, 3, none⟩ = false := Y.free 3
        have Yc4 : wi.cell? ⟨W.heap.size, 4, none⟩ = some (.int .i64 0) := Y.cell 4
        have Yf4 : wi.frozen? ⟨W.heap.size, 4, none⟩ = false := Y.free 4
        have Yc5 : wi.cell? ⟨W.heap.size, 5, none⟩ = some (.int .i64 0) := Y.cell 5
        have Yf5 : wi.frozen? ⟨W.heap.size, 5, none⟩ = false := Y.free 5
        have Yz : W.heap.size < wi.heap.size := Y.lt
        have Mc0 : wi.cell? ⟨Bm, 0, none⟩ = some (.int .i64 p.top) := M.cell 0
        have Mc1 : wi.cell? ⟨Bm, 1, none⟩ = some (.int .i64 p.positions) := M.cell 1
        have Mc2 : wi.cell? ⟨Bm, 2, none⟩ = some (.int .i64 p.m0) := M.cell 2
        have Mc3 : wi.cell? ⟨Bm, 3, none⟩ = some (.int .i64 p.m1) := M.cell 3
        have Mc4 : wi.cell? ⟨Bm, 4, none⟩ = some (.int .i64 p.orders) := M.cell 4
        have Mc5 : wi.cell? ⟨Bm, 5, none⟩ = some (.int .i64 p.age) := M.cell 5
        by_cases g0 : x0 = p.top
        · have hd : decide (x0 = p.top) = true := decide_eq_true g0
          have hd2 : (x0 == p.top) = true := by simp [g0]
          have G0 := Lib.hid g0
          clear g0
          go_wp2_with (fail)
          go_quiet (fail)
          go_wp2
          refine ⟨⟨(bel_drewN hb2 nq).setCell (by simp) _, M.other (Ne.symm (Ne.symm hne)) _, .inr (.inr (.inr (.inr (.inr (.inr (⟨by go_num, g5, g4, g3, g2, g1, G0.out, Y.set 0 _⟩))))))⟩, by simp [intOf]⟩
        · have hd : decide (x0 = p.top) = false := decide_eq_false g0
          have hd2 : (x0 == p.top) = false := by simp [g0]
          go_wp2_with (fail)
          go_quiet (fail)
          go_wp2
          have hB := HB.out
          have hw : wrap64 (x0 + 1) = x0 + 1 := by unfold wrap64; omega
          clear hB
          refine wpIn_wide.2 ?_
          go_wp2
          go_roundg (G - 1)
          case measure => omega
          case rel =>
            refine ⟨k + 1, by omega, ?_, ?_, M.other (a := ⟨W.heap.size, 0, none⟩) hne _, HJ.out _ _ _ hJ4 ((bel_drewN (Below.refl _ _) nq).setCell (p := ⟨W.heap.size, 0, none⟩) (Nat.le_refl _) _)⟩
            · rcases Nat.eq_zero_or_pos (G - 1) with hz | hz
              · exact absurd (by have := (stAt_end hv.out (k := k) (by omega)).2.2.2.2.2; rw [HS.out] at this; exact this) g0
              · exact hz
            · rw [show p.stAt (k + 1) = _ from hsucc.out.d0 g5 g4 g3 g2 g1 g0]
              exact (Y.drewN nq).set 0 _
      · have hal := Y.lt
        go_wp2_with (fail)
        go_quiet (fail)
        go_wp2
        refine wpIn_wide.2 ?_
        go_wp2
        refine bodyPost_ret (results_none rfl _ _ _) rfl ?_
        refine ⟨⟨_, rfl⟩, .inl ⟨_, ?_, HJ.out _ _ _ hJ4 (bel_drewN (Below.refl _ _) nq)⟩⟩
        show _ = List.map _ (List.range p.count)
        rw [hlast.out g5 g4 g3 g2 g1 g0]
end Go.Proofs.Ytcjcjkomcolgeaa

/-
  What the iterator next of package barrier promises; safe. (Printed by pp.py.) No condition.
-/
namespace Go.Proofs.Ytcjcjkomcolgeaa
open Go.RowKit Go.Shelf
attribute [local go_sem] Oper.semAt_some

theorem bSafe_is {p : Pl} {V : Value} {s : St} {w : World} {q : Bool} {er : Int} (h : Hid (p.safeT s = (q, er))) : Calls Try.prog 62 #[gmV p V, s.v] w fun e w' => e = .returned (.bool q) ∧ Below w.heap.size w w' := by
  go_enter Try.func62, Try.ntmps62
  go_wp2_with fail
  have hB := ((Below.refl w.heap.size w).alloc (by simp <;> omega) (.cells #[.int .i64 p.top, .int .i64 p.bank, .int .i64 p.siphon, .int .i64 p.start, .int .i64 p.positions, .int .i64 p.rate, .int .i64 p.step, .int .i64 p.pass, .int .i64 p.feed, .int .i64 p.pipe, .int .i64 p.orders, .int .i64 p.age, V] 117)).alloc (by simp <;> omega) (.cells #[.int .i64 s.level, .int .i64 s.position, .int .i64 s.p0, .int .i64 s.p1, .int .i64 s.order, .int .i64 s.age] 51)
  refine (safe_is h).mono ?_
  rintro e w1 ⟨rfl, hb⟩
  go_wp2
  go_ret
  exact ⟨rfl, hB.trans (hb.mono hB.size)⟩

def Pl.nexts (p : Pl) (c : List Ln) (s : St) (k : Nat) : List (Sh × St) := (List.range k).map fun j => (p.shAt j, (nextT p c s (p.shAt j)).1)
theorem nexts_succ (p : Pl) (c : List Ln) (s : St) (k : Nat) : p.nexts c s (k + 1) = p.nexts c s k ++ [(p.shAt k, (nextT p c s (p.shAt k)).1)] := by
  rw [Pl.nexts, List.range_succ, List.map_append]; rfl
theorem nexts_pre (p : Pl) (c : List Ln) (s : St) {k m : Nat} (h : k ≤ m) : p.nexts c s k <+: p.nexts c s m :=
  List.IsPrefix.map _ (by rw [List.prefix_iff_eq_take, List.length_range, List.take_range]; congr 1; omega)
theorem shAt_at (p : Pl) {f m : Nat} (h : m < p.nm) : p.shAt (f * p.nm + m) = ⟨(f : Int), (m : Int) - 1⟩ := by
  obtain ⟨h1, h2⟩ := div_step (q := f) h
  rw [Pl.shAt, h1, h2]
def Pl.nf (p : Pl) : Nat := (p.feed + 1).toNat

set_option maxRecDepth 100000 in
set_option maxHeartbeats 4000000 in
theorem next_seq (n : Nat) (p : Pl) (c : List Ln) (V : Value) (s : St) (hv : Hid p.Valid) (Bg Bs : Nat) (w : World) (D : Nat) (R : Nat → Prop) (hDw : D ≤ w.heap.size) (hC : Hid (CodeAt w D V c)) (hg : Box w Bg (gmL p V)) (hs : Box w Bs s.cells) (hRg : ¬ R Bg) (hRs : ¬ R Bs) (hRw : Hid (∀ b, R b → b < w.heap.size)) :
    SeqB Fence.wide n Try.prog 79 #[.pointer (some ⟨Bg, 0, none⟩), .pointer (some ⟨Bs, 0, none⟩)] (fun x : Sh × St => #[x.1.v, x.2.v]) (KeepsC D R) (fun xs => xs = p.nexts c s (p.nf * p.nm)) (fun pre => pre <+: p.nexts c s (p.nf * p.nm)) (fun pre x => pre ++ [x] <+: p.nexts c s (p.nf * p.nm)) w := fun l J Jx W hW hJ hJx hY h0 => by
  have HY := Lib.hid hY
  have HJ := Lib.hid hJ
  have HJx := Lib.hid hJx
  clear hY hJ hJx
  have hg := hg.later hW
  have hs := hs.later hW
  have HC := Lib.hid (hC.out.below (hW.mono hDw))
  have hDW := Nat.le_trans hDw hW.size
  have hf := hv.out.feed
  have ho := hv.out.orders
  obtain ⟨nf, hnf⟩ : ∃ nf, p.nf = nf := ⟨_, rfl⟩
  obtain ⟨nm, hnm⟩ : ∃ nm, p.nm = nm := ⟨_, rfl⟩
  have ef : p.feed + 1 = (nf : Int) := by rw [← hnf, Pl.nf]; omega
  have eo : p.orders + 2 = (nm : Int) := by rw [← hnm, Pl.nm]; omega
  have HNF := Lib.hid hnf
  have HNM := Lib.hid hnm
  have EF := Lib.hid ef
  have EO := Lib.hid eo
  have hnf16 : nf ≤ 16 := by omega
  have hnm9 : nm ≤ 9 := by omega
  rw [hnf, hnm]
  have w1 : IntKind.i64.wrap (p.feed + 1) = (nf : Int) := by rw [wrap_id (by omega) (by omega), ef]
  have w2 : IntKind.i64.wrap (p.orders + 2) = (nm : Int) := by rw [wrap_id (by omega) (by omega), eo]
  have w3 : wrap64 (p.feed + 1) = (nf : Int) := by unfold wrap64; omega
  have w4 : wrap64 (p.orders + 2) = (nm : Int) := by unfold wrap64; omega
  clear ef eo hnf hnm hf ho
  refine callsIn_of_wp Try.func79 rfl trivial ?_ rfl
  simp only [Try.ntmps79, List.size_toArray, List.length_cons, List.length_nil, Nat.reduceAdd, Nat.reduceSub, Array.replicate_succ, Array.replicate_zero, List.push_toArray, List.append_toArray, List.nil_append, List.cons_append]
  refine wpIn_wide.2 ?_
  have hgz := hg.lt
  have x8 : W.cell? ⟨Bg, 8, none⟩ = some (.int .i64 p.feed) := hg.cell 8
  go_wp2_with fail
  clear x8
  go_loopw [14] (fun i wr => ∃ f : Nat, f ≤ nf ∧ i = .int .i64 f ∧ Below D W wr ∧ Box wr Bg (gmL p V) ∧ Box wr Bs s.cells ∧ Hid (J (p.nexts c s (f * nm)) wr)) (fun i _ => nf - (intOf i).toNat)
  case atStart =>
    refine ⟨0, by omega, rfl, Below.refl _ _, hg, hs, ?_⟩
    rw [Nat.zero_mul]
    exact Lib.hid h0
  case round =>
    clear hg hs h0 hgz
    obtain ⟨f, hf, rfl, hb, hg, hs, hJ0⟩ := hrel
    obtain ⟨wo, rfl⟩ : ∃ wo : World, wo = wr := ⟨_, rfl⟩
    have hgz := hg.lt
    rcases Nat.lt_or_ge f nf with hlt | hge
    rotate_left
    · obtain rfl : f = nf := by omega
      have hd1 : decide ((f : Int) < (f : Int)) = false := by simp
      go_wp2
      go_end0
      exact ⟨⟨_, rfl⟩, .inl ⟨_, rfl, hJ0.out⟩⟩
    have hd1 : decide ((f : Int) < (nf : Int)) = true := decide_eq_true (by omega)
    have x10 : wo.cell? ⟨Bg, 10, none⟩ = some (.int .i64 p.orders) := hg.cell 10
    go_wp2_with fail
    clear hd1 x10
    go_loopw [21] (fun i wr => ∃ m : Nat, m ≤ nm ∧ i = .int .i64 m ∧ Below D W wr ∧ Box wr Bg (gmL p V) ∧ Box wr Bs s.cells ∧ Hid (J (p.nexts c s (f * nm + m)) wr)) (fun i _ => nm - (intOf i).toNat)
    case atStart => exact ⟨0, by omega, rfl, hb, hg, hs, hJ0⟩
    case round =>
      clear hb hg hs hJ0 hgz
      obtain ⟨m, hm, rfl, hb, hg, hs, hJ0⟩ := hrel
      obtain ⟨wi, rfl⟩ : ∃ wi : World, wi = wr := ⟨_, rfl⟩
      rcases Nat.lt_or_ge m nm with hlm | hgm
      rotate_left
      · obtain rfl : m = nm := by omega
        have hd1 : decide ((m : Int) < (m : Int)) = false := by simp
        go_wp2
        refine ⟨⟨f + 1, by omega, by go_num, hb, hg, hs, ?_⟩, by simp [intOf]; omega⟩
        rw [Nat.add_mul, Nat.one_mul]
        exact hJ0
      have hd1 : decide ((m : Int) < (nm : Int)) = true := decide_eq_true (by omega)
      have hsh : p.shAt (f * nm + m) = ⟨(f : Int), (m : Int) - 1⟩ := by
        have := shAt_at p (f := f) (m := m) (by rw [HNM.out]; exact hlm)
        rw [HNM.out] at this
        exact this
      obtain ⟨t, o, er, HT⟩ : ∃ t o er, Hid (nextT p c s ⟨(f : Int), (m : Int) - 1⟩ = (t, o, er)) := ⟨_, _, _, rfl⟩
      have hnx := nexts_succ p c s (f * nm + m)
      rw [hsh, HT.out] at hnx
      dsimp only at hnx
      have HNX := Lib.hid hnx
      clear hnx hsh
      have hgz := hg.lt
      have hsz := hs.lt
      have hgc0 : wi.cell? ⟨Bg, 0, none⟩ = some (.int .i64 p.top) := hg.cell 0
      have hgc1 : wi.cell? ⟨Bg, 1, none⟩ = some (.int .i64 p.bank) := hg.cell 1
      have hgc2 : wi.cell? ⟨Bg, 2, none⟩ = some (.int .i64 p.siphon) := hg.cell 2
      have hgc3 : wi.cell? ⟨Bg, 3, none⟩ = some (.int .i64 p.start) := hg.cell 3
      have hgc4 : wi.cell? ⟨Bg, 4, none⟩ = some (.int .i64 p.positions) := hg.cell 4
      have hgc5 : wi.cell? ⟨Bg, 5, none⟩ = some (.int .i64 p.rate) := hg.cell 5
      have hgc6 : wi.cell? ⟨Bg, 6, none⟩ = some (.int .i64 p.step) := hg.cell 6
      have hgc7 : wi.cell? ⟨Bg, 7, none⟩ = some (.int .i64 p.pass) := hg.cell 7
      have hgc8 : wi.cell? ⟨Bg, 8, none⟩ = some (.int .i64 p.feed) := hg.cell 8
      have hgc9 : wi.cell? ⟨Bg, 9, none⟩ = some (.int .i64 p.pipe) := hg.cell 9
      have hgc10 : wi.cell? ⟨Bg, 10, none⟩ = some (.int .i64 p.orders) := hg.cell 10
      have hgc11 : wi.cell? ⟨Bg, 11, none⟩ = some (.int .i64 p.age) := hg.cell 11
      have hgc12 : wi.cell? ⟨Bg, 12, none⟩ = some (V) := hg.cell 12
      have hsc0 : wi.cell? ⟨Bs, 0, none⟩ = some (.int .i64 s.level) := hs.cell 0
      have hsc1 : wi.cell? ⟨Bs, 1, none⟩ = some (.int .i64 s.position) := hs.cell 1
      have hsc2 : wi.cell? ⟨Bs, 2, none⟩ = some (.int .i64 s.p0) := hs.cell 2
      have hsc3 : wi.cell? ⟨Bs, 3, none⟩ = some (.int .i64 s.p1) := hs.cell 3
      have hsc4 : wi.cell? ⟨Bs, 4, none⟩ = some (.int .i64 s.order) := hs.cell 4
      have hsc5 : wi.cell? ⟨Bs, 5, none⟩ = some (.int .i64 s.age) := hs.cell 5
      have X6 := Box.new wi [.int .i64 (f : Int), .int .i64 ((m : Int) - 1)] 71
      have hbS := (Below.refl wi.heap.size wi).alloc (Nat.le_refl _) (.cells #[.int .i64 (f : Int), .int .i64 ((m : Int) - 1)] 71)
      refine (wpIn_wide (n := n)).1 ?_
      gi_wp2_with fail
      refine ⟨trivial, (fun h => by cases h), ?_⟩
      have hg1 := hg.alloc (.cells #[.int .i64 (f : Int), .int .i64 ((m : Int) - 1)] 71)
      have hs1 := hs.alloc (.cells #[.int .i64 (f : Int), .int .i64 ((m : Int) - 1)] 71)
      have hJ1 := Lib.hid (HJ.out _ _ _ hJ0.out (hbS.mono hb.size))
      have hb1 := hb.trans (hbS.mono (Nat.le_trans hDW hb.size))
      have hz6 := X6.lt
      clear hgc0 hgc1 hgc2 hgc3 hgc4 hgc5 hgc6 hgc7 hgc8 hgc9 hgc10 hgc11 hgc12 hsc0 hsc1 hsc2 hsc3 hsc4 hsc5 hgz hsz hg hs hJ0 hb hbS
      generalize wi.heap.size = S6 at X6 hz6 ⊢
      generalize wi.alloc (.cells #[.int .i64 (f : Int), .int .i64 ((m : Int) - 1)] 71) = w1 at X6 hz6 hg1 hs1 hJ1 hb1 ⊢
      refine (callsIn_wide.2 (next_is (p := p) (s := s) (x := ⟨(f : Int), (m : Int) - 1⟩) HT ((HC.out.below hb1).more (Nat.le_trans hDW hb1.size)))).mono ?_
      rintro e w2 ⟨rfl, hb2⟩
      have X6 := X6.later hb2
      have hg2 := hg1.later hb2
      have hs2 := hs1.later hb2
      have hJ2 := Lib.hid (HJ.out _ _ _ hJ1.out (hb2.mono hb1.size))
      have hb3 := hb1.trans (hb2.mono (Nat.le_trans hDW hb1.size))
      obtain ⟨t0, t1, t2, t3, t4, t5⟩ := t
      have hbT := (Below.refl w2.heap.size w2).alloc (Nat.le_refl _) (.cells #[.int .i64 t0, .int .i64 t1, .int .i64 t2, .int .i64 t3, .int .i64 t4, .int .i64 t5] 51)
      have X6 := X6.alloc (.cells #[.int .i64 t0, .int .i64 t1, .int .i64 t2, .int .i64 t3, .int .i64 t4, .int .i64 t5] 51)
      have hg3 := hg2.alloc (.cells #[.int .i64 t0, .int .i64 t1, .int .i64 t2, .int .i64 t3, .int .i64 t4, .int .i64 t5] 51)
      have hs3 := hs2.alloc (.cells #[.int .i64 t0, .int .i64 t1, .int .i64 t2, .int .i64 t3, .int .i64 t4, .int .i64 t5] 51)
      have hJ3 := Lib.hid (HJ.out _ _ _ hJ2.out (hbT.mono (Nat.le_trans hb1.size hb2.size)))
      have hb4 := hb3.trans (hbT.mono (Nat.le_trans hDW hb3.size))
      clear hg1 hs1 hJ1 hb1 hz6 hg2 hs2 hJ2 hbT hb2 hb3
      have hz6 := X6.lt
      have x60 : (w2.alloc (.cells #[.int .i64 t0, .int .i64 t1, .int .i64 t2, .int .i64 t3, .int .i64 t4, .int .i64 t5] 51)).cell? ⟨S6, 0, none⟩ = some (.int .i64 (f : Int)) := X6.cell 0
      have x61 : (w2.alloc (.cells #[.int .i64 t0, .int .i64 t1, .int .i64 t2, .int .i64 t3, .int .i64 t4, .int .i64 t5] 51)).cell? ⟨S6, 1, none⟩ = some (.int .i64 ((m : Int) - 1)) := X6.cell 1
      have hlen : p.nexts c s (f * nm + m) ++ [(⟨(f : Int), (m : Int) - 1⟩, ⟨t0, t1, t2, t3, t4, t5⟩)] <+: p.nexts c s (nf * nm) := by
        rw [← HNX.out]
        refine nexts_pre p c s ?_
        have h2 := Nat.mul_le_mul_right nm (show f + 1 ≤ nf by omega)
        rw [Nat.add_mul, Nat.one_mul] at h2
        omega
      obtain ⟨f0, q0, a0, c0, hy0, hR0⟩ := HY.out _ (⟨(f : Int), (m : Int) - 1⟩, ⟨t0, t1, t2, t3, t4, t5⟩) _ hJ3.out (by rw [HNF.out, HNM.out]; exact hlen)
      rw [← HNX.out] at hR0
      simp only [St.v, Sh.v] at hy0
      gi_wp2_with fail
      refine ⟨(fun h => by cases h), hR0.mono ?_⟩
      rintro e W2 (⟨rfl, hJ4, hK⟩ | ⟨rfl, hx⟩)
      rotate_left
      · gi_wp2
        refine bodyPost_ret (results_none rfl _ _ _) rfl ?_
        refine ⟨⟨_, rfl⟩, .inr ⟨_, nexts_pre p c s ?_, hx⟩⟩
        have h2 := Nat.mul_le_mul_right nm (show f + 1 ≤ nf by omega)
        rw [Nat.add_mul, Nat.one_mul] at h2
        omega
      have hg := hK.box hg3 hRg
      have hs := hK.box hs3 hRs
      have hb := hb4.trans hK.low
      clear hR0 hy0 hJ3 hK hg3 hs3 hb4 x60 x61
      gi_wp2
      refine ⟨⟨m + 1, by omega, by go_num, hb, hg, hs, ?_⟩, by simp [intOf]; omega⟩
      rw [← Nat.add_assoc]
      exact Lib.hid hJ4
end Go.Proofs.Ytcjcjkomcolgeaa
