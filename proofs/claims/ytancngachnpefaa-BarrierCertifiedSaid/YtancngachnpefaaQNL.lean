/- play and possible of the law's file of chapter 33. (Printed by gen_nl.py and pp.py.) No condition. -/
import Derived.Test.YtancngachnpefaaQK
import Derived.Test.YtancngachnpefaaQUB
import Derived.Test.YtancngachnpefaaQMQ
set_option linter.unusedVariables false
set_option linter.unusedSimpArgs false
set_option maxRecDepth 100000
set_option maxHeartbeats 4000000
namespace Go.Proofs.Ytancngachnpefaa
open Go.RowKit Go.Shelf
attribute [local go_sem] Oper.semAt_some
def ShRd (w : World) (V : Value) (l : List Sh) : Prop := ∃ A c, V = .slice A l.length c ∧ l.length ≤ 1048576 ∧ ∀ (k : Nat) (hk : k < l.length), ∃ g, A = some ⟨g, 0, none⟩ ∧ g < w.heap.size ∧ w.cell? ⟨g, k * 2, none⟩ = some (.int .i64 l[k].feed) ∧ w.cell? ⟨g, k * 2 + 1, none⟩ = some (.int .i64 l[k].msg)
theorem ShRd.later {w w' : World} {V : Value} {l : List Sh} (h : ShRd w V l) (hb : Below w.heap.size w w') : ShRd w' V l := by
  obtain ⟨A, c, h1, h2, h3⟩ := h
  refine ⟨A, c, h1, h2, fun k hk => ?_⟩
  obtain ⟨g, e1, e2, e3, e4⟩ := h3 k hk
  exact ⟨g, e1, Nat.lt_of_lt_of_le e2 hb.size, (hb.cell e2).trans e3, (hb.cell e2).trans e4⟩
theorem ShAt.rd {w : World} {D : Nat} {V : Value} {l : List Sh} (h : ShAt w D V l) : ShRd w V l := by
  rcases h with ⟨rfl, rfl⟩ | ⟨g, c, rfl, _, h2, h3⟩
  · exact ⟨none, 0, rfl, Nat.zero_le _, fun k hk => by simp at hk⟩
  · refine ⟨_, _, rfl, h2, fun k hk => ⟨g, rfl, h3.lt, ?_, ?_⟩⟩
    · have := (h3.cell hk).1
      rw [List.getD_eq_getElem?_getD, List.getElem?_eq_getElem hk] at this
      exact this
    · have := (h3.cell hk).2
      rw [List.getD_eq_getElem?_getD, List.getElem?_eq_getElem hk] at this
      exact this
theorem OwnSh.rd {w : World} {D : Nat} {V : Value} {l : List Sh} (h : OwnSh w D V l) (hl : l.length ≤ 1048576) : ShRd w V l := by
  obtain ⟨A, c, rfl⟩ := ownE_form h (fun _ => rfl)
  refine ⟨A, c, rfl, hl, fun k hk => ?_⟩
  obtain ⟨g, rfl, _, h1, h2, h3⟩ := ownSh_cells h hk
  exact ⟨g, rfl, h1, h2, h3⟩
theorem own_one {w : World} {s : St} : OwnSt (w.alloc (.cells #[.int .i64 s.level, .int .i64 s.position, .int .i64 s.p0, .int .i64 s.p1, .int .i64 s.order, .int .i64 s.age] 30)) w.heap.size (.slice (some ⟨w.heap.size, 0, none⟩) 1 1) [s] :=
  ⟨rfl, .inr ⟨w.heap.size, 1, #[.int .i64 s.level, .int .i64 s.position, .int .i64 s.p0, .int .i64 s.p1, .int .i64 s.order, .int .i64 s.age], rfl, Nat.le_refl _, World.alloc_heap_new w _, Nat.le_refl _, by simp only [maxLen]; omega, rfl, rfl⟩⟩
theorem go_ends (p : Pl) (c : List Ln) : ∀ (l : List Sh) (s : St), ∃ pre z, goT p c s l = pre ++ [z] ∧ pre.length = l.length
  | [], s => ⟨[], s, rfl, rfl⟩
  | x :: l, s => by
    obtain ⟨pre, z, h1, h2⟩ := go_ends p c l (nextT p c s x).1
    exact ⟨s :: pre, z, by rw [goT, h1]; rfl, by rw [List.length_cons, List.length_cons, h2]⟩
theorem go_len (p : Pl) (c : List Ln) (l : List Sh) (s : St) : (goT p c s l).length = l.length + 1 := by
  obtain ⟨pre, z, h1, h2⟩ := go_ends p c l s
  rw [h1, List.length_append, h2]
  rfl
def RetPlay (w : World) (l : List St) (e : Ending) (w' : World) : Prop := ∃ A n c, e = .returned (.tuple #[.slice A n c, .bool true]) ∧ OwnSt w' w.heap.size (.slice A n c) l ∧ Below w.heap.size w w'
theorem lPlay_any (p : Pl) (c : List Ln) (A2 : Option Addr) (m2 k2 : Nat) (U : Value) (l : List Sh) (w : World) (ha : Hid (askT p c = 0)) (hC : Hid (CodeAt w w.heap.size (.slice A2 m2 k2) c)) (hU : ShRd w U l) (hl : Hid (∀ x ∈ l, x ∈ p.shocks)) :
    Calls Try.prog 23 #[p.v, .agg #[.slice A2 m2 k2], U] w (RetPlay w (goT p c p.beginT.1 l)) := by
  obtain ⟨Au, cu, hUv, hlm, hcells⟩ := hU
  subst hUv
  obtain ⟨n, hn⟩ : ∃ n, l.length = n := ⟨_, rfl⟩
  rw [hn] at hlm ⊢
  have HN := Lib.hid hn
  have HCL := Lib.hid hcells
  have HLM := Lib.hid hlm
  clear hn hcells hlm
  obtain ⟨hv, _⟩ := Pl.check_zero (ask_zero ha.out).1
  have HV := Lib.hid hv
  have hbm := (states_mem hv).2 (begin_has hv (ask_zero ha.out).1)
  obtain ⟨⟨⟨b0, b1, b2, b3, b4, b5⟩, be⟩, hbe⟩ : ∃ t, p.beginT = t := ⟨_, rfl⟩
  have hbe0 : be = 0 := by
    have h9 := congrArg Prod.snd hbe
    rw [Pl.beginT, if_pos (ask_zero ha.out).1] at h9
    exact h9.symm
  subst hbe0
  rw [hbe] at hbm ⊢
  dsimp only at hbm ⊢
  have HBM := Lib.hid hbm
  have HBE := Lib.hid hbe
  clear hv hbm hbe
  go_enter Try.func23, Try.ntmps23
  go_wp2_with fail
  have hB := ((Below.refl w.heap.size w).alloc (by simp <;> omega) (.cells #[.int .i64 p.top, .int .i64 p.bank, .int .i64 p.siphon, .int .i64 p.start, .int .i64 p.positions, .int .i64 p.rate, .int .i64 p.step, .int .i64 p.pass, .int .i64 p.feed, .int .i64 p.pipe, .int .i64 p.orders, .int .i64 p.age] 23)).alloc (by simp <;> omega) (.cells #[.slice A2 m2 k2] 26)
  have X3 := (Box.newAt (w := w) (n := w.heap.size) [.int .i64 p.top, .int .i64 p.bank, .int .i64 p.siphon, .int .i64 p.start, .int .i64 p.positions, .int .i64 p.rate, .int .i64 p.step, .int .i64 p.pass, .int .i64 p.feed, .int .i64 p.pipe, .int .i64 p.orders, .int .i64 p.age] 23 rfl).alloc (.cells #[.slice A2 m2 k2] 26)
  have X4 := Box.newAt (w := w.alloc (.cells #[.int .i64 p.top, .int .i64 p.bank, .int .i64 p.siphon, .int .i64 p.start, .int .i64 p.positions, .int .i64 p.rate, .int .i64 p.step, .int .i64 p.pass, .int .i64 p.feed, .int .i64 p.pipe, .int .i64 p.orders, .int .i64 p.age] 23)) (n := w.heap.size + 1) [.slice A2 m2 k2] 26 (by simp)
  generalize (w.alloc (.cells #[.int .i64 p.top, .int .i64 p.bank, .int .i64 p.siphon, .int .i64 p.start, .int .i64 p.positions, .int .i64 p.rate, .int .i64 p.step, .int .i64 p.pass, .int .i64 p.feed, .int .i64 p.pipe, .int .i64 p.orders, .int .i64 p.age] 23)).alloc (.cells #[.slice A2 m2 k2] 26) = w0 at X3 X4 hB ⊢
  refine (begin_is HBE).mono ?_
  rintro e w1 ⟨rfl, hb⟩
  replace X3 := X3.later hb
  replace X4 := X4.later hb
  replace hB := hB.trans (hb.mono hB.size)
  clear hb
  have hz1 : w.heap.size + 1 < w1.heap.size := X4.lt
  go_upto_region 2 with fail
  have hb := (Below.refl w1.heap.size w1).alloc (Nat.le_refl _) (.cells #[.int .i64 b0, .int .i64 b1, .int .i64 b2, .int .i64 b3, .int .i64 b4, .int .i64 b5] 30)
  have X8 := Box.new w1 [.int .i64 b0, .int .i64 b1, .int .i64 b2, .int .i64 b3, .int .i64 b4, .int .i64 b5] 30
  replace X3 := X3.later hb
  replace X4 := X4.later hb
  replace hB := hB.trans (hb.mono hB.size)
  clear hb
  generalize w1.alloc (.cells #[.int .i64 b0, .int .i64 b1, .int .i64 b2, .int .i64 b3, .int .i64 b4, .int .i64 b5] 30) = w2 at X3 X4 X8 hB ⊢
  generalize w1.heap.size = B8 at X8 hz1 ⊢
  obtain ⟨X8c0, X8c1, X8c2, X8c3, X8c4, X8c5⟩ := X8.c6
  have hz2 : B8 < w2.heap.size := X8.lt
  go_upto_region 5 with fail
  clear X8c0 X8c1 X8c2 X8c3 X8c4 X8c5
  have hb := (Below.refl w2.heap.size w2).alloc (Nat.le_refl _) (.cells #[.int .i64 b0, .int .i64 b1, .int .i64 b2, .int .i64 b3, .int .i64 b4, .int .i64 b5] 30)
  have hO := own_one (w := w2) (s := ⟨b0, b1, b2, b3, b4, b5⟩)
  dsimp only at hO
  replace X8 := X8.later hb
  replace X3 := X3.later hb
  replace X4 := X4.later hb
  replace hB := hB.trans (hb.mono hB.size)
  clear hb
  generalize w2.alloc (.cells #[.int .i64 b0, .int .i64 b1, .int .i64 b2, .int .i64 b3, .int .i64 b4, .int .i64 b5] 30) = w3 at X3 X4 X8 hB hO ⊢
  generalize w2.heap.size = R at hO hz2 ⊢
  have HO := Lib.hid hO
  clear hO
  have hR3 : Hid (R ≤ w3.heap.size) := Lib.hid (by
    have h9 := (World.ownsRow.lt HO.out R rfl).2
    omega)
  go_wp2_with fail
  go_loopw [26, 6] (fun i V wr => ∃ (j : Nat) (pre : List St) (z : St) (Av : Option Addr) (nv cv : Nat), j ≤ n ∧ i = .int .i64 j ∧ V = .slice Av nv cv ∧ Below w.heap.size w wr ∧ R ≤ wr.heap.size ∧ Box wr w.heap.size [.int .i64 p.top, .int .i64 p.bank, .int .i64 p.siphon, .int .i64 p.start, .int .i64 p.positions, .int .i64 p.rate, .int .i64 p.step, .int .i64 p.pass, .int .i64 p.feed, .int .i64 p.pipe, .int .i64 p.orders, .int .i64 p.age] ∧ Box wr (w.heap.size + 1) [.slice A2 m2 k2] ∧ Box wr B8 z.cells ∧ Hid (OwnSt wr R (.slice Av nv cv) (pre ++ [z])) ∧ Hid (goT p c ⟨b0, b1, b2, b3, b4, b5⟩ (l.take j) = pre ++ [z]) ∧ Hid (z ∈ p.states)) (fun i _ _ => n - (intOf i).toNat)
  case atStart => exact ⟨0, [], ⟨b0, b1, b2, b3, b4, b5⟩, _, _, _, Nat.zero_le _, rfl, rfl, hB, hR3.out, X3, X4, X8, HO, Lib.hid rfl, HBM⟩
  case round =>
    clear hB X3 X4 X8 HO hR3 HBM
    obtain ⟨j, pre, z, Av, nv, cv, hj, rfl, rfl, hB, hR3, X3, X4, X8, hO, hgo, hzm⟩ := hrel
    obtain ⟨wo, rfl⟩ : ∃ wo : World, wo = wr := ⟨_, rfl⟩
    have hjN := HLM.out
    rcases Nat.lt_or_ge j n with hlt | hge
    rotate_left
    · obtain rfl : j = n := by omega
      have e0 : ¬ (j : Int) < (j : Int) := by omega
      clear hjN
      go_wp2
      refine bodyPost_ret (v := .tuple #[.slice Av nv cv, .bool true]) (by simp [results, Try.results23, go_sem]) rfl ?_
      have hgo2 := hgo.out
      rw [List.take_of_length_le (by rw [HN.out]; exact Nat.le_refl _)] at hgo2
      rw [hgo2]
      exact ⟨Av, nv, cv, rfl, Row.low hO.out (by omega), hB⟩
    have e0 : (j : Int) < (n : Int) := by omega
    have hjl : j < l.length := by rw [HN.out]; exact hlt
    obtain ⟨g, hAu, hgl, q0, q1⟩ := HCL.out j hjl
    subst hAu
    have hxm := hl.out _ (List.getElem_mem hjl)
    have htk : l.take (j + 1) = l.take j ++ [l[j]] := List.take_succ_eq_append_getElem hjl
    obtain ⟨x, hx⟩ : ∃ x, l[j] = x := ⟨_, rfl⟩
    rw [hx] at q0 q1 hxm htk
    obtain ⟨x0, x1⟩ := x
    dsimp only at q0 q1
    have q0 := (hB.cell hgl).trans q0
    have q1 := (hB.cell hgl).trans q1
    have hgz := Nat.lt_of_lt_of_le hgl hB.size
    have hnx : nextT p c z ⟨x0, x1⟩ = (stepT p c z ⟨x0, x1⟩, outT p c z ⟨x0, x1⟩, 0) := next_in (ask_zero ha.out).1 (ask_zero ha.out).2 (states_has HV.out hzm.out) ((shocks_mem HV.out).1 hxm)
    have hyh := nextS_has (x := ⟨x0, x1⟩) ha.out hzm.out hxm
    have hgs := run_snoc p c (l.take j) ⟨b0, b1, b2, b3, b4, b5⟩ z pre ⟨x0, x1⟩ hgo.out
    rw [← htk] at hgs
    rw [hnx] at hyh hgs
    dsimp only at hyh hgs
    obtain ⟨⟨t0, t1, t2, t3, t4, t5⟩, ht⟩ : ∃ t, stepT p c z ⟨x0, x1⟩ = t := ⟨_, rfl⟩
    obtain ⟨ou, hou⟩ : ∃ ou, outT p c z ⟨x0, x1⟩ = ou := ⟨_, rfl⟩
    rw [ht] at hyh hgs
    rw [ht, hou] at hnx
    have HNX := Lib.hid hnx
    have HYM := Lib.hid ((states_mem HV.out).2 hyh)
    have HGS := Lib.hid hgs
    have hnvl : nv = j + 1 := by
      have h9 := congrArg List.length hgo.out
      rw [go_len, List.length_take] at h9
      obtain ⟨A9, c9, h10⟩ := ownE_form hO.out (fun _ => rfl)
      cases h10
      omega
    have HNV := Lib.hid hnvl
    clear hxm htk hx hjl hnx hyh hgs ht hou hgl hnvl
    go_upto_region 8 with fail
    clear q0 q1 hgz e0
    have hb := (Below.refl wo.heap.size wo).alloc (Nat.le_refl _) (.cells #[.int .i64 x0, .int .i64 x1] 37)
    have X11 := Box.new wo [.int .i64 x0, .int .i64 x1] 37
    replace X8 := X8.later hb
    have hO2 := Lib.hid (OwnE.later hO.out hb)
    have hR4 := Nat.le_trans hR3 hb.size
    replace X3 := X3.later hb
    replace X4 := X4.later hb
    replace hB := hB.trans (hb.mono hB.size)
    clear hb
    generalize wo.alloc (.cells #[.int .i64 x0, .int .i64 x1] 37) = wp at X3 X4 X8 X11 hB hO2 hR4 ⊢
    generalize wo.heap.size = B11 at X11 ⊢
    clear hO hR3
    obtain ⟨z0, z1, z2, z3, z4, z5⟩ := z
    obtain ⟨X3c0, X3c1, X3c2, X3c3, X3c4, X3c5, X3c6, X3c7, X3c8, X3c9, X3c10, X3c11⟩ := X3.c12
    have X4c0 : wp.cell? ⟨w.heap.size + 1, 0, none⟩ = some (.slice A2 m2 k2) := X4.cell 0
    obtain ⟨X8c0, X8c1, X8c2, X8c3, X8c4, X8c5⟩ := X8.c6
    obtain ⟨X11c0, X11c1⟩ := X11.c2
    have X3z := X3.lt
    have X4z := X4.lt
    have X8z := X8.lt
    have X11z := X11.lt
    go_wp2_with fail
    refine (next_is HNX ((hC.out.below hB).more hB.size)).mono ?_
    rintro e wq ⟨rfl, hb⟩
    clear X3c0 X3c1 X3c2 X3c3 X3c4 X3c5 X3c6 X3c7 X3c8 X3c9 X3c10 X3c11 X3z X4c0 X4z X8c0 X8c1 X8c2 X8c3 X8c4 X8c5 X8z X11c0 X11c1 X11z X11
    replace X8 := X8.later hb
    have hO3 := Lib.hid (OwnE.later hO2.out hb)
    have hR5 := Nat.le_trans hR4 hb.size
    replace X3 := X3.later hb
    replace X4 := X4.later hb
    replace hB := hB.trans (hb.mono hB.size)
    clear hb
    clear hO2 hR4
    go_upto_region 11 with fail
    have hb := (Below.refl wq.heap.size wq).alloc (Nat.le_refl _) (.cells #[.int .i64 t0, .int .i64 t1, .int .i64 t2, .int .i64 t3, .int .i64 t4, .int .i64 t5] 30)
    have X12 := Box.new wq [.int .i64 t0, .int .i64 t1, .int .i64 t2, .int .i64 t3, .int .i64 t4, .int .i64 t5] 30
    replace X8 := X8.later hb
    have hO4 := Lib.hid (OwnE.later hO3.out hb)
    have hR6 := Nat.le_trans hR5 hb.size
    replace X3 := X3.later hb
    replace X4 := X4.later hb
    replace hB := hB.trans (hb.mono hB.size)
    clear hb
    have hq12 : wq.heap.size < (wq.alloc (.cells #[.int .i64 t0, .int .i64 t1, .int .i64 t2, .int .i64 t3, .int .i64 t4, .int .i64 t5] 30)).heap.size := X12.lt
    generalize wq.alloc (.cells #[.int .i64 t0, .int .i64 t1, .int .i64 t2, .int .i64 t3, .int .i64 t4, .int .i64 t5] 30) = ws at X3 X4 X8 X12 hB hO4 hR6 hq12 ⊢
    have hrow12 : ∀ g, (Value.slice Av nv cv).ownBlock = some g → g < wq.heap.size := fun g hg => (World.ownsRow.lt hO3.out g hg).2
    generalize wq.heap.size = B12 at X12 hq12 hR5 hrow12 ⊢
    have hrow12 : ∀ g, (Value.slice Av nv cv).ownBlock = some g → g < B12 := hrow12
    clear hO3
    have hd := (Below.refl ws.heap.size ws).drew
    obtain ⟨HH, hHH⟩ : ∃ HH : World → Prop, ∀ w', HH w' ↔ Box w' B12 [.int .i64 t0, .int .i64 t1, .int .i64 t2, .int .i64 t3, .int .i64 t4, .int .i64 t5] := ⟨_, fun _ => Iff.rfl⟩
    have X12d := X12.later hd
    have hQz : HH ws.drew := (hHH _).2 X12d
    have : Nonempty (HeldW HH) := ⟨⟨_, hQz⟩⟩
    have hgh : ∀ q : HeldW HH, Box q.w B12 [.int .i64 t0, .int .i64 t1, .int .i64 t2, .int .i64 t3, .int .i64 t4, .int .i64 t5] := fun q => (hHH _).1 q.h
    have u0 : ∀ q : HeldW HH, q.w.cell? ⟨B12, 0, none⟩ = some (.int .i64 t0) := fun q => (hgh q).cell 0
    have u1 : ∀ q : HeldW HH, q.w.cell? ⟨B12, 1, none⟩ = some (.int .i64 t1) := fun q => (hgh q).cell 1
    have u2 : ∀ q : HeldW HH, q.w.cell? ⟨B12, 2, none⟩ = some (.int .i64 t2) := fun q => (hgh q).cell 2
    have u3 : ∀ q : HeldW HH, q.w.cell? ⟨B12, 3, none⟩ = some (.int .i64 t3) := fun q => (hgh q).cell 3
    have u4 : ∀ q : HeldW HH, q.w.cell? ⟨B12, 4, none⟩ = some (.int .i64 t4) := fun q => (hgh q).cell 4
    have u5 : ∀ q : HeldW HH, q.w.cell? ⟨B12, 5, none⟩ = some (.int .i64 t5) := fun q => (hgh q).cell 5
    clear hgh
    refine wp_region_upto (C := fun w' => ∃ q : HeldW HH, w' = q.w) 5 [0, 1, 2] (by kernel_rfl) (by kernel_rfl) (HeldW.mk' hQz) (fun _ _ h => h) ?_
    simp only [headOps, List.filterMap_cons, List.filterMap_nil, List.getElem?_toArray, List.getElem?_cons_succ, List.getElem?_cons_zero]
    repeat (first | go_big_quiet_skip | (show wpQuiet _ _ _ _ (_ :: _) _; go_big_quiet_skip) | (show wpQuiet _ _ _ _ (_ :: _) _; go_big_quiet_want; go_big_quiet_op; go_big_quiet_on))
    refine wpQuiet_nil ?_
    clear u0 u1 u2 u3 u4 u5
    have hbA := (Below.refl ws.drew.heap.size ws.drew).alloc (Nat.le_refl _) (.cells #[.int .i64 t0, .int .i64 t1, .int .i64 t2, .int .i64 t3, .int .i64 t4, .int .i64 t5] 30)
    have XL := Box.new ws.drew [.int .i64 t0, .int .i64 t1, .int .i64 t2, .int .i64 t3, .int .i64 t4, .int .i64 t5] 30
    have hW1 := hd.trans (hbA.mono hd.size)
    have hO5 := OwnE.later hO4.out hW1
    have hlen9 : (pre ++ [(⟨z0, z1, z2, z3, z4, z5⟩ : St)]).length = j + 1 := by
      obtain ⟨A9, c9, h10⟩ := ownE_form hO4.out (fun _ => rfl)
      cases h10
      exact HNV.out
    obtain ⟨g', c', wA, hr, hO6, hgA, -⟩ := run_appS 43 (s := ⟨t0, t1, t2, t3, t4, t5⟩) hO5 XL (Nat.le_trans hR6 hW1.size) (by rw [hlen9]; omega)
    rw [hlen9] at hr hO6
    have hX12A : Box wA B12 [.int .i64 t0, .int .i64 t1, .int .i64 t2, .int .i64 t3, .int .i64 t4, .int .i64 t5] := (X12.later hW1).same (hgA.block _ (X12.later hW1).lt (fun e => by have := hrow12 _ e.symm; omega))
    have hQa : HH (ws.drew.alloc (.cells #[.int .i64 t0, .int .i64 t1, .int .i64 t2, .int .i64 t3, .int .i64 t4, .int .i64 t5] 30)) := (hHH _).2 (X12d.later hbA)
    have hQb : HH wA := (hHH _).2 hX12A
    have hX8A : Box wA B8 [.int .i64 z0, .int .i64 z1, .int .i64 z2, .int .i64 z3, .int .i64 z4, .int .i64 z5] := (X8.later hW1).same (hgA.block _ (X8.later hW1).lt (fun e => by have := (World.ownsRow.lt hO5 _ e.symm).1; omega))
    have hX3A : Box wA w.heap.size [.int .i64 p.top, .int .i64 p.bank, .int .i64 p.siphon, .int .i64 p.start, .int .i64 p.positions, .int .i64 p.rate, .int .i64 p.step, .int .i64 p.pass, .int .i64 p.feed, .int .i64 p.pipe, .int .i64 p.orders, .int .i64 p.age] := (X3.later hW1).same (hgA.block _ (X3.later hW1).lt (fun e => by have := (World.ownsRow.lt hO5 _ e.symm).1; omega))
    have hX4A : Box wA (w.heap.size + 1) [.slice A2 m2 k2] := (X4.later hW1).same (hgA.block _ (X4.later hW1).lt (fun e => by have := (World.ownsRow.lt hO5 _ e.symm).1; omega))
    have hBA : Below w.heap.size w wA := (hB.trans (hW1.mono hB.size)).trans ⟨hgA.os, hgA.tape, hgA.output, hgA.size, fun k hk => hgA.block k (Nat.lt_of_lt_of_le hk (Nat.le_trans hB.size hW1.size)) (fun e => by have := (World.ownsRow.lt hO5 _ e.symm).1; omega)⟩
    refine anyG_val (some 44) (n := 3) (i := 3) (v := .slice (some ⟨ws.drew.heap.size, 0, none⟩) 1 1) (w' := ws.drew.alloc (.cells #[.int .i64 t0, .int .i64 t1, .int .i64 t2, .int .i64 t3, .int .i64 t4, .int .i64 t5] 30)) (by kernel_rfl) rfl rfl rfl (fun _ => HeldW.mk' hQz) (by go_simp) ?_
    simp only [Act.put, List.setIfInBounds_toArray, List.set_cons_zero, List.set_cons_succ]
    refine anyG_val (some 45) (n := 2) (i := 4) (v := .slice (some ⟨g', 0, none⟩) (j + 1 + 1) c') (w' := wA) (by kernel_rfl) rfl rfl rfl (fun _ => HeldW.mk' hQa) (run_app_op (x := .tmp 42) (y := .tmp 44) rfl rfl rfl rfl hr) ?_
    simp only [Act.put, List.setIfInBounds_toArray, List.set_cons_zero, List.set_cons_succ]
    obtain ⟨hX8Ac0, hX8Af0, hX8Ac1, hX8Af1, hX8Ac2, hX8Af2, hX8Ac3, hX8Af3, hX8Ac4, hX8Af4, hX8Ac5, hX8Af5⟩ := hX8A.f6
    have hX8Az : B8 < wA.heap.size := hX8A.lt
    refine anyG_store (n := 1) (i := 5) (w' := (((((wA.setCell ⟨B8, 0, none⟩ (.int .i64 t0)).setCell ⟨B8, 1, none⟩ (.int .i64 t1)).setCell ⟨B8, 2, none⟩ (.int .i64 t2)).setCell ⟨B8, 3, none⟩ (.int .i64 t3)).setCell ⟨B8, 4, none⟩ (.int .i64 t4)).setCell ⟨B8, 5, none⟩ (.int .i64 t5)) (by kernel_rfl) rfl rfl rfl (fun _ => HeldW.mk' hQb) (by go_simp) ?_
    clear hX8Ac0 hX8Ac1 hX8Ac2 hX8Ac3 hX8Ac4 hX8Ac5 hX8Af0 hX8Af1 hX8Af2 hX8Af3 hX8Af4 hX8Af5
    have hcC : Chg (fun k => k = B8) wA ((((((wA.setCell ⟨B8, 0, none⟩ (.int .i64 t0)).setCell ⟨B8, 1, none⟩ (.int .i64 t1)).setCell ⟨B8, 2, none⟩ (.int .i64 t2)).setCell ⟨B8, 3, none⟩ (.int .i64 t3)).setCell ⟨B8, 4, none⟩ (.int .i64 t4)).setCell ⟨B8, 5, none⟩ (.int .i64 t5)) := ((((((Chg.refl (fun k => k = B8) wA).cell 0 _ (.inl rfl)).cell 1 _ (.inl rfl)).cell 2 _ (.inl rfl)).cell 3 _ (.inl rfl)).cell 4 _ (.inl rfl)).cell 5 _ (.inl rfl)
    have hX8B : Box ((((((wA.setCell ⟨B8, 0, none⟩ (.int .i64 t0)).setCell ⟨B8, 1, none⟩ (.int .i64 t1)).setCell ⟨B8, 2, none⟩ (.int .i64 t2)).setCell ⟨B8, 3, none⟩ (.int .i64 t3)).setCell ⟨B8, 4, none⟩ (.int .i64 t4)).setCell ⟨B8, 5, none⟩ (.int .i64 t5)) B8 [.int .i64 t0, .int .i64 t1, .int .i64 t2, .int .i64 t3, .int .i64 t4, .int .i64 t5] := (((((hX8A.set 0 (.int .i64 t0)).set 1 (.int .i64 t1)).set 2 (.int .i64 t2)).set 3 (.int .i64 t3)).set 4 (.int .i64 t4)).set 5 (.int .i64 t5)
    have hX3B := hcC.box hX3A (by omega)
    have hX4B := hcC.box hX4A (by omega)
    have hBB : Below w.heap.size w ((((((wA.setCell ⟨B8, 0, none⟩ (.int .i64 t0)).setCell ⟨B8, 1, none⟩ (.int .i64 t1)).setCell ⟨B8, 2, none⟩ (.int .i64 t2)).setCell ⟨B8, 3, none⟩ (.int .i64 t3)).setCell ⟨B8, 4, none⟩ (.int .i64 t4)).setCell ⟨B8, 5, none⟩ (.int .i64 t5)) := hBA.trans (hcC.low hBA.size (fun k hk => by omega))
    have hRA := Nat.le_trans (Nat.le_trans hR6 hW1.size) (Nat.le_trans hgA.size hcC.size)
    have hO7 := Lib.hid (Row.same hO6 (fun g hg => hcC.block g (World.ownsRow.lt hO6 g hg).2 (by have := (World.ownsRow.lt hO6 g hg).1; omega)))
    clear hcC hX8A hX3A hX4A hBA hO6 hgA hO5 hr hQz hQa hQb hX12A X12d XL hbA hd hW1 X3 X4 X8 X12 hO4 hHH
    generalize (((((wA.setCell ⟨B8, 0, none⟩ (.int .i64 t0)).setCell ⟨B8, 1, none⟩ (.int .i64 t1)).setCell ⟨B8, 2, none⟩ (.int .i64 t2)).setCell ⟨B8, 3, none⟩ (.int .i64 t3)).setCell ⟨B8, 4, none⟩ (.int .i64 t4)).setCell ⟨B8, 5, none⟩ (.int .i64 t5) = wB at hX8B hX3B hX4B hBB hRA hO7 ⊢
    refine anyG_val (some 6) (n := 0) (i := 6) (v := .slice (some ⟨g', 0, none⟩) (j + 1 + 1) c') (w' := wB) (by kernel_rfl) rfl rfl rfl (fun h => by cases h) (by first | rfl | go_simp) ?_
    simp only [Act.put, List.setIfInBounds_toArray, List.set_cons_zero, List.set_cons_succ]
    refine anyG_done (by kernel_rfl) rfl ?_
    dsimp only [Exit.inBlock, Exit.then]
    go_wp2
    refine ⟨⟨j + 1, pre ++ [(⟨z0, z1, z2, z3, z4, z5⟩ : St)], ⟨t0, t1, t2, t3, t4, t5⟩, _, _, _, Nat.succ_le_of_lt hlt, by go_num, rfl, hBB, hRA, hX3B, hX4B, hX8B, hO7, HGS, HYM⟩, by simp [intOf]; omega⟩
end Go.Proofs.Ytancngachnpefaa
