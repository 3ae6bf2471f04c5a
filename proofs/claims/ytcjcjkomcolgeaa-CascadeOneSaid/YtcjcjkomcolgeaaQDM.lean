/- The iterator gates of cascade. (Printed by pp.py.) No condition. -/
import Derived.Test.YtcjcjkomcolgeaaQDI
import Derived.Test.YtcjcjkomcolgeaaQKD
import Derived.Test.YtcjcjkomcolgeaaQT
import Derived.ChangeKeysEq
set_option linter.unusedVariables false
set_option linter.unusedSimpArgs false
namespace Go.Proofs.Ytcjcjkomcolgeaa
open Go.RowKit Go.Shelf
attribute [local go_sem] Oper.semAt_some

abbrev gameL (Vp Vc Vb Vs Vk : Value) (bad : Int) : List Value := [Vp, Vc, Vb, Vs, Vk, .int .i64 bad]
theorem mGates_any (G : Nat) (w : World) : Calls Try.prog 70 #[.pointer (some ⟨G, 0, none⟩)] w fun e w' =>
    e = .returned (.func (.func 86) #[] #[.pointer (some ⟨w.heap.size, 0, none⟩)]) ∧ Box w' w.heap.size [.pointer (some ⟨G, 0, none⟩)] ∧ Below w.heap.size w w' := by
  have hmf : ∀ (fn : Fn) (first cap : Array Value) (w : World), (Instr.makeFunc fn first cap).run Try.prog w = .ok (.func fn first cap) w := fun _ _ _ _ => rfl
  go_enter Try.func70, Try.ntmps70
  go_wp2
  have X0 := Box.new w [.pointer (some ⟨G, 0, none⟩)] 85
  have hB := (Below.refl w.heap.size w).alloc (Nat.le_refl _) (.cells #[.pointer (some ⟨G, 0, none⟩)] 85)
  go_ret
  exact ⟨rfl, X0, hB⟩
def gateL (k : Nat) : List Nat := List.range k
theorem gateL_succ (k : Nat) : gateL (k + 1) = gateL k ++ [k] := List.range_succ
theorem gateL_pre {k n : Nat} (h : k ≤ n) : gateL k <+: gateL n := by
  rw [gateL, gateL, List.prefix_iff_eq_take, List.length_range, List.take_range]
  congr 1
  omega
set_option maxRecDepth 100000 in
set_option maxHeartbeats 4000000 in
theorem gates_seq (d n sg so sc : Nat) (Vp Vc Vb Vk : Value) (G Bg : Nat) (w : World) (D : Nat) (R : Nat → Prop) (hn8 : n ≤ 8) (hG : ∃ bad, Box w G (gameL Vp Vc Vb (.slice (some ⟨sg, so, none⟩) n sc) Vk bad)) (hg : Box w Bg [.pointer (some ⟨G, 0, none⟩)]) (hRg : ¬ R Bg)
    (Kp : World → World → Prop) (hKp : ∀ A B, Kp A B → KeepsC D R A B ∧ ((∃ bad, Box A G (gameL Vp Vc Vb (.slice (some ⟨sg, so, none⟩) n sc) Vk bad)) → ∃ bad, Box B G (gameL Vp Vc Vb (.slice (some ⟨sg, so, none⟩) n sc) Vk bad))) :
    SeqB Fence.wide d Try.prog 86 #[.pointer (some ⟨Bg, 0, none⟩)] (fun k : Nat => #[.int .i64 k, .pointer (some ⟨sg, so + k * 6, none⟩)]) Kp (fun xs => xs = gateL n) (fun pre => pre <+: gateL n) (fun pre k => pre = gateL k ∧ k < n) w := fun l J Jx W hW hJ hJx hY h0 => by
  have HY := Lib.hid hY
  have HJ := Lib.hid hJ
  have HKp := Lib.hid hKp
  clear hY hJ hKp hJx
  have hG : ∃ bad, Box W G (gameL Vp Vc Vb (.slice (some ⟨sg, so, none⟩) n sc) Vk bad) := by
    obtain ⟨bad, h⟩ := hG
    exact ⟨bad, h.later hW⟩
  have hg := hg.later hW
  refine callsIn_of_wp Try.func86 rfl trivial ?_ rfl
  simp only [Try.ntmps86, List.size_toArray, List.length_cons, List.length_nil, Nat.reduceAdd, Nat.reduceSub, Array.replicate_succ, Array.replicate_zero, List.push_toArray, List.append_toArray, List.nil_append, List.cons_append]
  refine wpIn_wide.2 ?_
  obtain ⟨bad, hG0⟩ := hG
  have x0 : W.cell? ⟨Bg, 0, none⟩ = some (.pointer (some ⟨G, 0, none⟩)) := hg.cell 0
  have x3 : W.cell? ⟨G, 3, none⟩ = some (.slice (some ⟨sg, so, none⟩) n sc) := hG0.cell 3
  have z0 := hg.lt
  have z3 := hG0.lt
  go_wp2_with fail
  have hG1 : ∃ bad, Box W G (gameL Vp Vc Vb (.slice (some ⟨sg, so, none⟩) n sc) Vk bad) := ⟨bad, hG0⟩
  clear x0 x3 z0 z3 hG0
  go_loopw [9] (fun i wr => ∃ k : Nat, k ≤ n ∧ i = .int .i64 k ∧ Box wr Bg [.pointer (some ⟨G, 0, none⟩)] ∧ Hid (∃ bad, Box wr G (gameL Vp Vc Vb (.slice (some ⟨sg, so, none⟩) n sc) Vk bad)) ∧ J (gateL k) wr) (fun i _ => n - (intOf i).toNat)
  case atStart => exact ⟨0, by omega, rfl, hg, Lib.hid hG1, h0⟩
  case round =>
    clear hg hG1 h0
    obtain ⟨k, hk, rfl, hg, hG, hJ0⟩ := hrel
    obtain ⟨wo, rfl⟩ : ∃ wo : World, wo = wr := ⟨_, rfl⟩
    rcases Nat.lt_or_ge k n with hlt | hge
    rotate_left
    · obtain rfl : k = n := by omega
      have hlm : ¬ ((k : Int) < (k : Int)) := by omega
      go_wp2
      go_end0
      exact ⟨⟨_, rfl⟩, .inl hJ0⟩
    have hlm : (k : Int) < (n : Int) := by omega
    obtain ⟨f0, t0, a0, c0, hy0, hR0⟩ := HY.out _ k wo hJ0 ⟨rfl, hlt⟩
    have HT := Lib.hid (gateL_succ k)
    rw [← HT.out] at hR0
    obtain ⟨bad, hG0⟩ := hG.out
    have x0 : wo.cell? ⟨Bg, 0, none⟩ = some (.pointer (some ⟨G, 0, none⟩)) := hg.cell 0
    have x3 : wo.cell? ⟨G, 3, none⟩ = some (.slice (some ⟨sg, so, none⟩) n sc) := hG0.cell 3
    have z0 := hg.lt
    have z3 := hG0.lt
    refine (wpIn_wide (n := d)).1 ?_
    gi_wp2_with fail
    refine ⟨(fun h => by cases h), hR0.mono ?_⟩
    rintro e W2 (⟨rfl, hJ3, hK⟩ | ⟨rfl, hx⟩)
    rotate_left
    · gi_wp2
      refine bodyPost_ret (results_none rfl _ _ _) rfl ?_
      exact ⟨⟨_, rfl⟩, .inr ⟨_, gateL_pre (by omega), hx⟩⟩
    obtain ⟨hKC, hKG⟩ := HKp.out _ _ hK
    have hg := hKC.box hg hRg
    have hG2 := hKG ⟨bad, hG0⟩
    clear x0 x3 z0 z3 hG0 hR0 hy0 hJ0 hK
    gi_wp2
    exact ⟨⟨k + 1, by omega, by go_num, hg, Lib.hid hG2, hJ3⟩, by simp [intOf]; omega⟩
end Go.Proofs.Ytcjcjkomcolgeaa

/-
  Equality of two states' pipes, as the walk meets it. No condition.
-/
namespace Go.Proofs.Ytcjcjkomcolgeaa
open Go.RowKit
theorem info_int : (Try.prog.info? 3).map (fun i => i.size) = some 1 := by kernel_rfl
theorem eq_pipe (d : Nat) (a b c e : Int) (w : World) : (Op.equalIn (d + 2) 49 (.agg #[.int .i64 a, .int .i64 b]) (.agg #[.int .i64 c, .int .i64 e])).run Try.prog w = .ok (decide (a = c) && decide (b = e)) w := by
  have hin := info_int
  cases hi : Try.prog.info? 3 with
  | none => rw [hi] at hin; cases hin
  | some i =>
    rw [run_equalIn_array w (d + 1) _ _ Try.underlying49 hi]
    have hc : Try.prog.cellsOf 3 = 1 := by kernel_rfl
    have hr : List.range 2 = [0, 1] := rfl
    rw [hc, hr]
    simp [Op.eqItems, part, go_sem]
    by_cases h1 : a = c <;> by_cases h2 : b = e <;> simp [h1, h2]
attribute [go_sem] eq_pipe
end Go.Proofs.Ytcjcjkomcolgeaa

/-
  The reference of chapter 35: SameStates (of equal lists), FewSteps. (Printed by pp.py.) No condition.
-/
namespace Go.Proofs.Ytcjcjkomcolgeaa
open Go.RowKit

def StsAt (w : World) (B : Nat) (v : Value) (l : List St) : Prop := Sl w B 6 l.length (fun i j => ((l.getD i St.zero).cells).getD j undef) v
theorem StsAt.below {w w' : World} {B : Nat} {v : Value} {l : List St} (h : StsAt w B v l) (hb : Below B w w') : StsAt w' B v l := Sl.below h hb
theorem StsAt.more {w : World} {B B' : Nat} {v : Value} {l : List St} (h : StsAt w B v l) (hb : B ≤ B') : StsAt w B' v l := Sl.more h hb
theorem StsAt.form {w : World} {B : Nat} {v : Value} {l : List St} (h : StsAt w B v l) : ∃ A c, v = .slice A l.length c ∧ l.length ≤ maxLen := by
  obtain ⟨A, c, hv, hn, _⟩ := h
  exact ⟨A, c, hv, hn⟩
theorem StsAt.state {w : World} {B : Nat} {A : Option Addr} {n c : Nat} {l : List St} (h : StsAt w B (.slice A n c) l) {k : Nat} (hk : k < l.length) :
    ∃ g off, A = some ⟨g, off, none⟩ ∧ g < B ∧ w.cell? ⟨g, off + k * 6, none⟩ = some (.int .i64 (l[k]).level) ∧ w.cell? ⟨g, off + k * 6 + 1, none⟩ = some (.int .i64 (l[k]).position) ∧ w.cell? ⟨g, off + k * 6 + 2, none⟩ = some (.int .i64 (l[k]).p0) ∧ w.cell? ⟨g, off + k * 6 + 3, none⟩ = some (.int .i64 (l[k]).p1) ∧ w.cell? ⟨g, off + k * 6 + 4, none⟩ = some (.int .i64 (l[k]).order) ∧ w.cell? ⟨g, off + k * 6 + 5, none⟩ = some (.int .i64 (l[k]).age) := by
  obtain ⟨A', c', hv, _, h1⟩ := h
  cases hv
  obtain ⟨g, off, rfl, hb, h3⟩ := h1 k hk
  have h2 : ∀ j, j < 6 → w.cell? ⟨g, off + k * 6 + j, none⟩ = some (((l[k]).cells).getD j undef) := fun j hj => by
    rw [Nat.add_assoc]
    have := h3 j hj
    dsimp only at this
    rw [getD_at hk] at this
    exact this
  exact ⟨g, off, rfl, hb, h2 0 (by omega), h2 1 (by omega), h2 2 (by omega), h2 3 (by omega), h2 4 (by omega), h2 5 (by omega)⟩
set_option maxRecDepth 100000 in
set_option maxHeartbeats 2000000 in
theorem rSame_refl (l : List St) (v1 v2 : Value) (w : World) (h1 : StsAt w w.heap.size v1 l) (h2 : StsAt w w.heap.size v2 l) : Calls Try.prog 17 #[v1, v2] w fun e w' => e = .returned (.bool true) ∧ Below w.heap.size w w' := by
  obtain ⟨A, c, rfl, hm⟩ := h1.form
  obtain ⟨A2, c2, rfl, _⟩ := h2.form
  unfold maxLen at hm
  obtain ⟨m, hnn⟩ : ∃ m, l.length = m := ⟨_, rfl⟩
  rw [hnn] at hm h1 h2 ⊢
  have HN := Lib.hid hnn
  have H1 := Lib.hid h1
  have H2 := Lib.hid h2
  clear hnn h1 h2
  go_enter Try.func17, Try.ntmps17
  go_wp2_with fail
  go_loopw [5] (fun i wr => ∃ j : Nat, j ≤ m ∧ i = .int .i64 j ∧ Below w.heap.size w wr) (fun i _ => m - (intOf i).toNat)
  case atStart => exact ⟨0, by omega, rfl, Below.refl _ _⟩
  case round =>
    obtain ⟨j, hj, rfl, hb⟩ := hrel
    by_cases hlt : j < m
    · have hjl : j < l.length := by rw [HN.out]; exact hlt
      obtain ⟨g, off, rfl, hg, c0, c1, c2, c3, c4, c5⟩ := H1.out.state hjl
      obtain ⟨g2, off2, rfl, hg2, d0, d1, d2, d3, d4, d5⟩ := H2.out.state hjl
      obtain ⟨y, hy⟩ : ∃ y, l[j] = y := ⟨_, rfl⟩
      rw [hy] at c0 c1 c2 c3 c4 c5 d0 d1 d2 d3 d4 d5
      obtain ⟨y0, y1, y2, y3, y4, y5⟩ := y
      dsimp only at c0 c1 c2 c3 c4 c5 d0 d1 d2 d3 d4 d5
      clear hy
      have c0 := (hb.cell hg).trans c0
      have c1 := (hb.cell hg).trans c1
      have c2 := (hb.cell hg).trans c2
      have c3 := (hb.cell hg).trans c3
      have c4 := (hb.cell hg).trans c4
      have c5 := (hb.cell hg).trans c5
      have d0 := (hb.cell hg2).trans d0
      have d1 := (hb.cell hg2).trans d1
      have d2 := (hb.cell hg2).trans d2
      have d3 := (hb.cell hg2).trans d3
      have d4 := (hb.cell hg2).trans d4
      have d5 := (hb.cell hg2).trans d5
      have hgz := Nat.lt_of_lt_of_le hg hb.size
      have hgz2 := Nat.lt_of_lt_of_le hg2 hb.size
      have hlm : (j : Int) < (m : Int) := by omega
      go_wp2_with (fail)
      go_quiet (fail)
      go_wp2
      exact ⟨⟨j + 1, by omega, by go_num, bel_drewN hb nq⟩, by simp [intOf]; omega⟩
    · obtain rfl : j = m := by omega
      have hlm : ¬ ((j : Int) < (j : Int)) := by omega
      go_wp2
      go_ret
      exact ⟨rfl, hb⟩

end Go.Proofs.Ytcjcjkomcolgeaa
