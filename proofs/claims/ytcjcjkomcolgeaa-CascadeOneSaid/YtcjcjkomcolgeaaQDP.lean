/- The iterator gates of cascade, where the rounds may panic. (Printed by pp.py.) No condition. -/
import Derived.Test.YtcjcjkomcolgeaaQDN
import Derived.Test.YtcjcjkomcolgeaaQKD
set_option linter.unusedVariables false
set_option linter.unusedSimpArgs false
namespace Go.Proofs.Ytcjcjkomcolgeaa
open Go.RowKit Go.Shelf
attribute [local go_sem] Oper.semAt_some

set_option maxRecDepth 100000 in
set_option maxHeartbeats 4000000 in
theorem gates_seqP (d n sg so sc : Nat) (Vp Vc Vb Vk : Value) (G Bg : Nat) (w : World) (D : Nat) (R : Nat → Prop) (hn8 : n ≤ 8) (hG : ∃ bad, Box w G (gameL Vp Vc Vb (.slice (some ⟨sg, so, none⟩) n sc) Vk bad)) (hg : Box w Bg [.pointer (some ⟨G, 0, none⟩)]) (hRg : ¬ R Bg)
    (Kp : World → World → Prop) (hKp : ∀ A B, Kp A B → KeepsC D R A B ∧ ((∃ bad, Box A G (gameL Vp Vc Vb (.slice (some ⟨sg, so, none⟩) n sc) Vk bad)) → ∃ bad, Box B G (gameL Vp Vc Vb (.slice (some ⟨sg, so, none⟩) n sc) Vk bad))) :
    SeqP Fence.wide d Try.prog 86 #[.pointer (some ⟨Bg, 0, none⟩)] (fun k : Nat => #[.int .i64 k, .pointer (some ⟨sg, so + k * 6, none⟩)]) Kp (fun xs => xs = gateL n) (fun pre k => pre = gateL k ∧ k < n) w := fun l J Jp W hW hJ hY h0 => by
  have HY := Lib.hid hY
  have HJ := Lib.hid hJ
  have HKp := Lib.hid hKp
  clear hY hJ hKp
  have hG : ∃ bad, Box W G (gameL Vp Vc Vb (.slice (some ⟨sg, so, none⟩) n sc) Vk bad) := by
    obtain ⟨bad, h⟩ := hG
    exact ⟨bad, h.later hW⟩
  have hg := hg.later hW
  refine callsIn_of_wp Try.func86 rfl trivial ?_ rfl
  simp only [Try.ntmps86, List.size_toArray, List.length_cons, List.length_nil, Nat.reduceAdd, Nat.reduceSub, Array.replicate_succ, Array.replicate_zero, List.push_toArray, List.append_toArray, List.nil_append, List.cons_append]
  refine wpIn_wide.2 ?_
  obtain ⟨bad, hG0⟩ := hG
  have x0 : W.cell? ⟨Bg, 0, none⟩ = some (.pointer (some ⟨G, 0, none⟩)) := hg.cell 0
  have x3 : W.cell? ⟨G, 3, none⟩ = some (.slice (some ⟨sg, so, none⟩) n sc) := hG0.cell 3
  have z0 := hg.lt
  have z3 := hG0.lt
  go_wp2_with fail
  have hG1 : ∃ bad, Box W G (gameL Vp Vc Vb (.slice (some ⟨sg, so, none⟩) n sc) Vk bad) := ⟨bad, hG0⟩
  clear x0 x3 z0 z3 hG0
  go_loopw [9] (fun i wr => ∃ k : Nat, k ≤ n ∧ i = .int .i64 k ∧ Box wr Bg [.pointer (some ⟨G, 0, none⟩)] ∧ Hid (∃ bad, Box wr G (gameL Vp Vc Vb (.slice (some ⟨sg, so, none⟩) n sc) Vk bad)) ∧ J (gateL k) wr) (fun i _ => n - (intOf i).toNat)
  case atStart => exact ⟨0, by omega, rfl, hg, Lib.hid hG1, h0⟩
  case round =>
    clear hg hG1 h0
    obtain ⟨k, hk, rfl, hg, hG, hJ0⟩ := hrel
    obtain ⟨wo, rfl⟩ : ∃ wo : World, wo = wr := ⟨_, rfl⟩
    rcases Nat.lt_or_ge k n with hlt | hge
    rotate_left
    · obtain rfl : k = n := by omega
      have hlm : ¬ ((k : Int) < (k : Int)) := by omega
      go_wp2
      go_end0
      exact .inl ⟨⟨_, rfl⟩, hJ0⟩
    have hlm : (k : Int) < (n : Int) := by omega
    obtain ⟨f0, t0, a0, c0, hy0, hR0⟩ := HY.out _ k wo hJ0 ⟨rfl, hlt⟩
    have HT := Lib.hid (gateL_succ k)
    rw [← HT.out] at hR0
    obtain ⟨bad, hG0⟩ := hG.out
    have x0 : wo.cell? ⟨Bg, 0, none⟩ = some (.pointer (some ⟨G, 0, none⟩)) := hg.cell 0
    have x3 : wo.cell? ⟨G, 3, none⟩ = some (.slice (some ⟨sg, so, none⟩) n sc) := hG0.cell 3
    have z0 := hg.lt
    have z3 := hG0.lt
    refine (wpIn_wide (n := d)).1 ?_
    gi_wp2_with fail
    refine ⟨(fun h => by cases h), hR0.mono ?_⟩
    rintro e W2 (⟨rfl, hJ3, hK⟩ | ⟨ch, rfl, hx⟩)
    rotate_left
    · gi_wp2
      exact ⟨rfl, .inr ⟨_, _, rfl, hx⟩⟩
    obtain ⟨hKC, hKG⟩ := HKp.out _ _ hK
    have hg := hKC.box hg hRg
    have hG2 := hKG ⟨bad, hG0⟩
    clear x0 x3 z0 z3 hG0 hR0 hy0 hJ0 hK
    gi_wp2
    exact ⟨⟨k + 1, by omega, by go_num, hg, Lib.hid hG2, hJ3⟩, by simp [intOf]; omega⟩
end Go.Proofs.Ytcjcjkomcolgeaa

/-
  An hour of a cascade: what lies in memory in the midst of it. No condition.
-/
namespace Go.Proofs.Ytcjcjkomcolgeaa
open Go.RowKit Go.Shelf

def Cs.midS (x : Cs) (sts : List St) (s : Sp) (k i : Nat) : St :=
  if i < k then (match x.hourK sts s k with | some (_, l) => l.getD i St.zero | none => St.zero) else sts.getD i St.zero
def midK (stuck st : List Bool) (k i : Nat) : Bool := if i < k then stuck.getD i false || st.getD i false else stuck.getD i false
theorem hourK_yes {x : Cs} {sts : List St} {s : Sp} {k : Nat} {f : Int} {l : List St} (h : x.hourK sts s k = some (f, l)) (hf : f ≤ (x.plants.getD k Pl.zero).feed) : x.hourK sts s (k + 1) = some ((x.goT sts s k f).2.1, l ++ [(x.goT sts s k f).1]) := by
  rw [Cs.hourK, h]
  dsimp only
  rw [if_pos hf]
theorem hourK_no {x : Cs} {sts : List St} {s : Sp} {k : Nat} {f : Int} {l : List St} (h : x.hourK sts s k = some (f, l)) (hf : ¬ f ≤ (x.plants.getD k Pl.zero).feed) : x.hourK sts s (k + 1) = none := by
  rw [Cs.hourK, h]
  dsimp only
  rw [if_neg hf]
theorem hourK_none {x : Cs} {sts : List St} {s : Sp} {k : Nat} (h : x.hourK sts s k = none) : ∀ m, x.hourK sts s (k + m) = none
  | 0 => h
  | m + 1 => by
    rw [← Nat.add_assoc, Cs.hourK, hourK_none h m]
theorem midS_zero {x : Cs} {sts : List St} {s : Sp} {i : Nat} : x.midS sts s 0 i = sts.getD i St.zero := by
  unfold Cs.midS
  rw [if_neg (Nat.not_lt_zero i)]
theorem midS_now {x : Cs} {sts : List St} {s : Sp} {k : Nat} : x.midS sts s k k = sts.getD k St.zero := by
  unfold Cs.midS
  rw [if_neg (Nat.lt_irrefl k)]
theorem midS_new {x : Cs} {sts : List St} {s : Sp} {k : Nat} {f : Int} {l : List St} (h : x.hourK sts s k = some (f, l)) (hf : f ≤ (x.plants.getD k Pl.zero).feed) : x.midS sts s (k + 1) k = (x.goT sts s k f).1 := by
  unfold Cs.midS
  rw [if_pos (Nat.lt_succ_self k), hourK_yes h hf]
  exact getD_snoc (hourK_len h)
theorem midS_old {x : Cs} {sts : List St} {s : Sp} {k i : Nat} {f : Int} {l : List St} (h : x.hourK sts s k = some (f, l)) (hf : f ≤ (x.plants.getD k Pl.zero).feed) (hi : i ≠ k) : x.midS sts s (k + 1) i = x.midS sts s k i := by
  unfold Cs.midS
  rw [hourK_yes h hf, h]
  dsimp only
  by_cases hik : i < k
  · rw [if_pos hik, if_pos (by omega), getD_left (by rw [hourK_len h]; exact hik)]
  · rw [if_neg hik, if_neg (by omega)]
theorem midS_end {x : Cs} {sts : List St} {s : Sp} {n i : Nat} {f : Int} {l : List St} (h : x.hourK sts s n = some (f, l)) (hi : i < n) : x.midS sts s n i = l.getD i St.zero := by
  unfold Cs.midS
  rw [if_pos hi, h]
theorem midK_zero {a b : List Bool} {i : Nat} : midK a b 0 i = a.getD i false := by
  unfold midK
  rw [if_neg (Nat.not_lt_zero i)]
theorem midK_now {a b : List Bool} {k : Nat} : midK a b k k = a.getD k false := by
  unfold midK
  rw [if_neg (Nat.lt_irrefl k)]
theorem midK_new {a b : List Bool} {k : Nat} : midK a b (k + 1) k = (a.getD k false || b.getD k false) := by
  unfold midK
  rw [if_pos (Nat.lt_succ_self k)]
theorem midK_old {a b : List Bool} {k i : Nat} (hi : i ≠ k) : midK a b (k + 1) i = midK a b k i := by
  unfold midK
  by_cases hik : i < k
  · rw [if_pos hik, if_pos (by omega)]
  · rw [if_neg hik, if_neg (by omega)]
theorem midK_end {a b : List Bool} {n i : Nat} (hi : i < n) : midK a b n i = (orL a b n).getD i false := by
  unfold midK orL
  rw [if_pos hi, List.getD_eq_getElem?_getD (l := List.map _ _), List.getElem?_map, List.getElem?_range hi]
  rfl
structure HourAt (w : World) (D G : Nat) (x : Cs) (n : Nat) (sf : Nat → St) (kf : Nat → Bool) (Ap Ac : Option Addr) (kp kc sg so kb ko : Nat) : Prop where
  n8 : n ≤ 8
  plants : PlsAt w D (.slice Ap n kp) x.plants
  pn : x.plants.length = n
  codes : CodesAt w D (.slice Ac n kc) x.codes
  cn : x.codes.length = n
  DG : D ≤ G
  Dsg : D ≤ sg
  Dkb : D ≤ kb
  sG : sg ≠ G
  kG : kb ≠ G
  sk : sg ≠ kb
  sts : ∃ L, Box w sg L ∧ ∀ k, k < n → ∀ j, j < 6 → L[so + k * 6 + j]? = (sf k).cells[j]?
  stuck : ∃ L, Box w kb L ∧ ∀ k, k < n → L[ko + k]? = some (.bool (kf k))
section
variable {w w' : World} {D G n : Nat} {x : Cs} {sf : Nat → St} {kf : Nat → Bool} {Ap Ac : Option Addr} {kp kc sg so kb ko : Nat}
theorem HourAt.keeps {R : Nat → Prop} (h : HourAt w D G x n sf kf Ap Ac kp kc sg so kb ko) (hk : KeepsC D R w w') (h1 : ¬ R sg) (h2 : ¬ R kb) : HourAt w' D G x n sf kf Ap Ac kp kc sg so kb ko :=
  ⟨h.n8, h.plants.below hk.low, h.pn, h.codes.below hk.low, h.cn, h.DG, h.Dsg, h.Dkb, h.sG, h.kG, h.sk,
    let ⟨L, hL, hc⟩ := h.sts; ⟨L, hk.box hL h1, hc⟩, let ⟨L, hL, hc⟩ := h.stuck; ⟨L, hk.box hL h2, hc⟩⟩
theorem HourAt.under (h : HourAt w D G x n sf kf Ap Ac kp kc sg so kb ko) (hb : Below w.heap.size w w') (hD : D ≤ w.heap.size) : HourAt w' D G x n sf kf Ap Ac kp kc sg so kb ko :=
  h.keeps (R := fun _ => False) (KeepsC.of hb hD) (fun e => e) (fun e => e)
theorem HourAt.record {l : Nat} {o : Obj} (h : HourAt w D G x n sf kf Ap Ac kp kc sg so kb ko) (hl : w.heap[l]? = some o) (hc : o.isCells = false) (hD : D ≤ l) (o' : Obj) : HourAt (w.putObj l o') D G x n sf kf Ap Ac kp kc sg so kb ko :=
  h.keeps (R := fun _ => False) (KeepsC.put hl hc hD o') (fun e => e) (fun e => e)
theorem HourAt.game (h : HourAt w D G x n sf kf Ap Ac kp kc sg so kb ko) (o : Nat) (v : Value) : HourAt (w.setCell ⟨G, o, none⟩ v) D G x n sf kf Ap Ac kp kc sg so kb ko :=
  h.keeps (R := fun b => b = G) (KeepsC.set (R := fun b => b = G) w (a := ⟨G, o, none⟩) h.DG rfl v) h.sG h.kG
theorem HourAt.state (h : HourAt w D G x n sf kf Ap Ac kp kc sg so kb ko) {k : Nat} (hk : k < n) (j : Nat) (hj : j < 6) : w.cell? ⟨sg, so + k * 6 + j, none⟩ = (sf k).cells[j]? := by
  obtain ⟨L, hL, hc⟩ := h.sts
  exact (hL.cell _).trans (hc k hk j hj)
theorem HourAt.was (h : HourAt w D G x n sf kf Ap Ac kp kc sg so kb ko) {k : Nat} (hk : k < n) : w.cell? ⟨kb, ko + k, none⟩ = some (.bool (kf k)) := by
  obtain ⟨L, hL, hc⟩ := h.stuck
  exact (hL.cell _).trans (hc k hk)
theorem HourAt.free (h : HourAt w D G x n sf kf Ap Ac kp kc sg so kb ko) (o : Nat) : w.frozen? ⟨sg, o, none⟩ = false ∧ w.frozen? ⟨kb, o, none⟩ = false := by
  obtain ⟨L, hL, _⟩ := h.sts
  obtain ⟨L2, hL2, _⟩ := h.stuck
  exact ⟨hL.free _, hL2.free _⟩
theorem HourAt.lt (h : HourAt w D G x n sf kf Ap Ac kp kc sg so kb ko) : sg < w.heap.size ∧ kb < w.heap.size := by
  obtain ⟨L, hL, _⟩ := h.sts
  obtain ⟨L2, hL2, _⟩ := h.stuck
  exact ⟨hL.lt, hL2.lt⟩
theorem HourAt.setStuck (h : HourAt w D G x n sf kf Ap Ac kp kc sg so kb ko) {k : Nat} (hk : k < n) (b : Bool) : HourAt (w.setCell ⟨kb, ko + k, none⟩ (.bool b)) D G x n sf (fun i => if i = k then b else kf i) Ap Ac kp kc sg so kb ko := by
  obtain ⟨L, hL, hc⟩ := h.stuck
  have hkc : KeepsC D (fun c => c = kb) w (w.setCell ⟨kb, ko + k, none⟩ (.bool b)) := KeepsC.set (R := fun c => c = kb) w (a := ⟨kb, ko + k, none⟩) h.Dkb rfl _
  refine ⟨h.n8, h.plants.below hkc.low, h.pn, h.codes.below hkc.low, h.cn, h.DG, h.Dsg, h.Dkb, h.sG, h.kG, h.sk, ?_, ⟨_, hL.set (ko + k) (.bool b), fun i hi => ?_⟩⟩
  · obtain ⟨L2, hL2, hc2⟩ := h.sts
    exact ⟨L2, hkc.box hL2 h.sk, hc2⟩
  · rw [List.getElem?_set]
    by_cases hik : i = k
    · subst hik
      have := hc i hi
      have hlt := (List.getElem?_eq_some_iff.1 this).1
      simp [hlt]
    · rw [if_neg (by omega), if_neg hik]
      exact hc i hi
theorem HourAt.setState (h : HourAt w D G x n sf kf Ap Ac kp kc sg so kb ko) {k : Nat} (hk : k < n) (t : St) :
    HourAt ((((((w.setCell ⟨sg, so + k * 6, none⟩ (.int .i64 t.level)).setCell ⟨sg, so + k * 6 + 1, none⟩ (.int .i64 t.position)).setCell ⟨sg, so + k * 6 + 2, none⟩ (.int .i64 t.p0)).setCell ⟨sg, so + k * 6 + 3, none⟩ (.int .i64 t.p1)).setCell ⟨sg, so + k * 6 + 4, none⟩ (.int .i64 t.order)).setCell ⟨sg, so + k * 6 + 5, none⟩ (.int .i64 t.age))
      D G x n (fun i => if i = k then t else sf i) kf Ap Ac kp kc sg so kb ko := by
  obtain ⟨L, hL, hc⟩ := h.sts
  have hkc : ∀ (W : World) (o : Nat) (v : Value), KeepsC D (fun c => c = sg) W (W.setCell ⟨sg, o, none⟩ v) := fun W o v => KeepsC.set (R := fun c => c = sg) W (a := ⟨sg, o, none⟩) h.Dsg rfl v
  have hK := ((((((hkc w (so + k * 6) (.int .i64 t.level)).trans (hkc _ (so + k * 6 + 1) (.int .i64 t.position))).trans (hkc _ (so + k * 6 + 2) (.int .i64 t.p0))).trans (hkc _ (so + k * 6 + 3) (.int .i64 t.p1))).trans (hkc _ (so + k * 6 + 4) (.int .i64 t.order))).trans (hkc _ (so + k * 6 + 5) (.int .i64 t.age)))
  have hZ := (((((hL.set (so + k * 6) (.int .i64 t.level)).set (so + k * 6 + 1) (.int .i64 t.position)).set (so + k * 6 + 2) (.int .i64 t.p0)).set (so + k * 6 + 3) (.int .i64 t.p1)).set (so + k * 6 + 4) (.int .i64 t.order)).set (so + k * 6 + 5) (.int .i64 t.age)
  refine ⟨h.n8, h.plants.below hK.low, h.pn, h.codes.below hK.low, h.cn, h.DG, h.Dsg, h.Dkb, h.sG, h.kG, h.sk, ⟨_, hZ, fun i hi j hj => ?_⟩, ?_⟩
  · have hlt : so + k * 6 + 5 < L.length := by
      have := hc k hk 5 (by omega)
      have h2 : ∃ u, (sf k).cells[5]? = some u := ⟨_, List.getElem?_eq_getElem (by show 5 < 6; omega)⟩
      obtain ⟨u, hu⟩ := h2
      rw [hu] at this
      exact (List.getElem?_eq_some_iff.1 this).1
    simp only [List.getElem?_set, List.length_set]
    by_cases hik : i = k
    · subst hik
      rw [if_pos rfl]
      obtain rfl | rfl | rfl | rfl | rfl | rfl : j = 0 ∨ j = 1 ∨ j = 2 ∨ j = 3 ∨ j = 4 ∨ j = 5 := by omega
      all_goals
        simp only [St.cells, List.getElem?_cons_zero, List.getElem?_cons_succ]
        repeat (first | rw [if_pos trivial] | rw [if_pos rfl] | rw [if_pos (by omega)] | rw [if_neg (by omega)])
    · rw [if_neg hik]
      repeat (rw [if_neg (by omega)])
      exact hc i hi j hj
  · obtain ⟨L2, hL2, hc2⟩ := h.stuck
    exact ⟨L2, hK.box hL2 (fun e => h.sk e.symm), hc2⟩
end
end Go.Proofs.Ytcjcjkomcolgeaa
