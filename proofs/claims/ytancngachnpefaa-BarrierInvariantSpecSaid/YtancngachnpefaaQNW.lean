/- table of the reference of chapter 33. (Printed by gen_nw.py and pp.py.) No condition. -/
import Derived.Test.YtancngachnpefaaQNL
import Derived.Laws.MakeOwn
import Derived.Test.YtancngachnpefaaQMI
set_option linter.unusedVariables false
set_option linter.unusedSimpArgs false
set_option maxRecDepth 100000
set_option maxHeartbeats 8000000
namespace Go.Proofs.Ytancngachnpefaa
open Go.RowKit
attribute [local go_sem] Oper.semAt_some
attribute [local go_sem ↓ high] app_named
theorem made_oneB (v : Value) (h : v.cells = #[v]) (n : Nat) : madeCells v.cells (n * 1) = (List.replicate n v).toArray := by
  rw [h, madeCells]
  apply Array.ext'
  apply List.ext_getElem?
  intro i
  rcases Nat.lt_or_ge i n with hi | hi
  · simp [hi, Nat.mod_one]
  · simp [hi]
theorem make_intsB (w : World) (n : Nat) (hn : n ≤ 1024) : (Instr.makeSlice 80 (.int .i64 (n : Int)) (.int .i64 (n : Int))).run Try.prog w = .ok (.slice (some ⟨w.heap.size, 0, none⟩) n n) (w.alloc (.cells (List.replicate n (Value.int .i64 0)).toArray 3)) := by
  obtain ⟨i, h1, h2, h3, h4⟩ := info_parts (show (Try.prog.info? 3).map (fun i => (i.zero, i.size, i.bytes)) = some (some (.int .i64 0), 1, 8) by kernel_rfl)
  have := run_makeSlice (P := Try.prog) w 80 3 i (.int .i64 0) Try.underlying80 h1 h2 .i64 .i64 n n (by omega) (Int.le_refl _) (by rw [h3]; simp; omega) (by rw [h4]; omega) (by omega)
  rw [h3] at this
  simp only [Int.toNat_natCast] at this
  rw [this, made_oneB _ rfl]
theorem set_heap {W : World} {r k : Nat} {cs : List Value} {v : Value} (h : W.heap[r]? = some (.cells cs.toArray 3 (0, 0))) : (W.setCell ⟨r, k, none⟩ v).heap[r]? = some (.cells (cs.set k v).toArray 3 (0, 0)) := by
  obtain ⟨hlt, hg⟩ := Array.getElem?_eq_some_iff.1 h
  simp [World.setCell, hlt, Array.getElem_modify, hg]
def RowI (W : World) (m r k : Nat) (f : Nat → Nat) : Prop := ∃ cs : List Value, W.heap[r]? = some (.cells cs.toArray 3 (0, 0)) ∧ cs.length = m ∧ ∀ j, j < k → cs[j]? = some (.int .i64 (f j : Nat))
theorem RowI.lt {W : World} {m r k : Nat} {f : Nat → Nat} (h : RowI W m r k f) : r < W.heap.size := by
  obtain ⟨cs, h1, _⟩ := h
  exact (Array.getElem?_eq_some_iff.1 h1).1
theorem RowI.same {W W' : World} {m r k : Nat} {f : Nat → Nat} (h : RowI W m r k f) (hb : W'.heap[r]? = W.heap[r]?) : RowI W' m r k f := by
  obtain ⟨cs, h1, h2⟩ := h
  exact ⟨cs, hb.trans h1, h2⟩
theorem RowI.later {W W' : World} {m r k : Nat} {f : Nat → Nat} (h : RowI W m r k f) (hb : Below W.heap.size W W') : RowI W' m r k f := h.same (hb.block r h.lt)
theorem RowI.box {W : World} {m r k : Nat} {f : Nat → Nat} (h : RowI W m r k f) : ∃ cs, Box W r cs ∧ cs.length = m := by
  obtain ⟨cs, h1, h2, _⟩ := h
  exact ⟨cs, ⟨_, h1⟩, h2⟩
theorem RowI.put {W : World} {m r k : Nat} {f : Nat → Nat} (h : RowI W m r k f) (hk : k < m) : RowI (W.setCell ⟨r, k, none⟩ (.int .i64 (f k : Nat))) m r (k + 1) f := by
  obtain ⟨cs, h1, h2, h3⟩ := h
  refine ⟨cs.set k (.int .i64 (f k : Nat)), ?_, by rw [List.length_set, h2], fun j hj => ?_⟩
  · have := set_heap (W := W) (r := r) (k := k) (cs := cs) (v := .int .i64 (f k : Nat)) h1
    exact this
  · rcases Nat.lt_or_ge j k with h4 | h4
    · rw [List.getElem?_set_ne (by omega)]
      exact h3 j h4
    · have h5 : j = k := by omega
      rw [h5, List.getElem?_set_self (by omega)]
theorem shocks_few {p : Pl} (hv : p.Valid) : p.shocks.length ≤ 1024 := by
  have h1 := hv.feed
  have h2 := hv.orders
  have h3 : p.nf ≤ 16 := by unfold Pl.nf; omega
  have h4 : p.nm ≤ 9 := by unfold Pl.nm; omega
  have h5 : p.shocks.length = p.nf * p.nm := by simp [Pl.shocks]; rfl
  have h6 : p.nf * p.nm ≤ 16 * 9 := Nat.mul_le_mul h3 h4
  omega
def tabF (p : Pl) (c : List Ln) (i k : Nat) : Nat := p.idx (nextT p c (p.states.getD i St.zero) (p.shocks.getD k Sh.zero)).1
abbrev encR (m : Nat) (r : Nat) : List Value := [.slice (some ⟨r, 0, none⟩) m m]
section
variable {P : Program} {ops : Array Oper} {md : Region.Mode} {N : Act → World → Prop} {C : World → Prop}
theorem anyG_one {z n i : Nat} {listed : Array Bool} {a : Act} {w : World} (hr : Region.ready md ops listed = [i]) (hC : listed.getD z true = false → C w) (h : wpOp P ops (Nrm N) i (anyG P md ops N C z n (listed.setIfInBounds i true)) a w) : anyG P md ops N C z (n + 1) listed a w := by
  refine ⟨hC, fun h0 => (by rw [h0] at hr; cases hr), fun k hk => ?_⟩
  rw [hr, List.mem_singleton] at hk
  subst hk
  exact h
end
theorem elem_row : ∃ i, Elem 98 80 i (.slice none 0 0) 1 24 := by
  obtain ⟨i, h1, h2, h3, h4⟩ := info_parts (show (Try.prog.info? 80).map (fun i => (i.zero, i.size, i.bytes)) = some (some (.slice none 0 0), 1, 24) by kernel_rfl)
  exact ⟨i, Try.underlying98, h1, h2, h3, h4, by decide, by decide⟩
theorem row_one (m r : Nat) : ∀ u ∈ encR m r, u.oneCell' = true := by
  intro u hu
  simp only [List.mem_cons, List.not_mem_nil, or_false] at hu
  rcases hu with rfl
  rfl
theorem ownE_same {α : Type} {enc : α → List Value} {size : Nat} {w w' : World} {base e : Nat} {V : Value} {l : List α} (h : OwnE enc size w base e V l) (hb : ∀ b, V.ownBlock = some b → w'.heap[b]? = w.heap[b]?) : OwnE enc size w' base e V l :=
  ⟨h.1, h.2.imp id fun ⟨g, cap, cur, hv, hD, hh, rest⟩ => ⟨g, cap, cur, hv, hD, (hb g (by rw [hv]; rfl)).trans hh, rest⟩⟩
theorem ownE_base {α : Type} {enc : α → List Value} {size : Nat} {w : World} {base base' e : Nat} {V : Value} {l : List α} (h : OwnE enc size w base e V l) (hb : base' ≤ base) : OwnE enc size w base' e V l :=
  ⟨h.1, h.2.imp id fun ⟨g, cap, cur, hv, hD, rest⟩ => ⟨g, cap, cur, hv, Nat.le_trans hb hD, rest⟩⟩
theorem ownE_obj {α : Type} {enc : α → List Value} {size : Nat} {w : World} {base e : Nat} {V : Value} {l : List α} (h : OwnE enc size w base e V l) {g : Nat} (hg : V.ownBlock = some g) : ∃ cur, w.heap[g]? = some (.cells cur e (0, 0)) := by
  rcases h.2 with ⟨rfl, _⟩ | ⟨g', cap, cur, rfl, _, hgg, _⟩
  · simp [Value.ownBlock] at hg
  · simp [Value.ownBlock] at hg
    subst hg
    exact ⟨cur, hgg⟩
theorem RowI.off {α : Type} {enc : α → List Value} {size : Nat} {w : World} {base m r k : Nat} {f : Nat → Nat} {V : Value} {l : List α} (h : RowI w m r k f) (ho : OwnE enc size w base 80 V l) : V.ownBlock ≠ some r := by
  intro hg
  obtain ⟨cur, h1⟩ := ownE_obj ho hg
  obtain ⟨cs, h2, _⟩ := h
  rw [h2] at h1
  simp at h1
theorem rows_more {w : World} {D m j R : Nat} {p : Pl} {c : List Ln} {rs : List Nat} (hl : rs.length = j) (h : ∀ (i : Nat) (hi : i < rs.length), D ≤ rs[i] ∧ RowI w m rs[i] m (tabF p c i)) (h2 : D ≤ R) (h3 : RowI w m R m (tabF p c j)) : ∀ (i : Nat) (hi : i < (rs ++ [R]).length), D ≤ (rs ++ [R])[i] ∧ RowI w m (rs ++ [R])[i] m (tabF p c i) := by
  intro i hi
  rcases Nat.lt_or_ge i rs.length with h4 | h4
  · rw [List.getElem_append_left h4]
    exact h i h4
  · have h5 : i = j := by rw [List.length_append, List.length_singleton] at hi; omega
    subst h5
    rw [List.getElem_append_right h4]
    simp only [hl, Nat.sub_self, List.getElem_singleton]
    exact ⟨h2, h3⟩
def RetTab (p : Pl) (c : List Ln) (w : World) (e : Ending) (w' : World) : Prop := ∃ (V : Value) (rs : List Nat), e = .returned V ∧ Below w.heap.size w w' ∧ rs.length = p.states.length ∧ OwnE (encR p.shocks.length) 1 w' w.heap.size 80 V rs ∧ ∀ (i : Nat) (hi : i < rs.length), w.heap.size ≤ rs[i] ∧ RowI w' p.shocks.length rs[i] p.shocks.length (tabF p c i)
theorem rbTable_is (p : Pl) (c : List Ln) (A2 : Option Addr) (m2 k2 : Nat) (VS VH : Value) (w : World) (ha : Hid (askT p c = 0)) (hC : Hid (CodeAt w w.heap.size (.slice A2 m2 k2) c)) (hS : StRd w VS p.states) (hH : ShRd w VH p.shocks) :
    Calls Try.prog 49 #[p.v, .agg #[.slice A2 m2 k2], VS, VH] w (RetTab p c w) := by
  obtain ⟨As, cs, rfl, hsl, kS⟩ := hS
  obtain ⟨Ah, ch, rfl, hhl, kH⟩ := hH
  have KS := Lib.hid kS
  have KH := Lib.hid kH
  clear kS kH
  obtain ⟨n, hn⟩ : ∃ n, p.states.length = n := ⟨_, rfl⟩
  obtain ⟨m, hm⟩ : ∃ m, p.shocks.length = m := ⟨_, rfl⟩
  have hn2 : n ≤ 4096 := by rw [← hn, states_len]; exact count_le (ask_zero ha.out).1
  have hm2 : m ≤ 1024 := by rw [← hm]; exact shocks_few (Pl.check_zero (ask_zero ha.out).1).1
  rw [hn, hm]
  have HN := Lib.hid hn
  have HM := Lib.hid hm
  have HV := Lib.hid (Pl.check_zero (ask_zero ha.out).1).1
  clear hsl hhl hn hm
  go_enter Try.func49, Try.ntmps49
  go_wp2_with fail
  have hB := ((Below.refl w.heap.size w).alloc (by simp <;> omega) (.cells #[.int .i64 p.top, .int .i64 p.bank, .int .i64 p.siphon, .int .i64 p.start, .int .i64 p.positions, .int .i64 p.rate, .int .i64 p.step, .int .i64 p.pass, .int .i64 p.feed, .int .i64 p.pipe, .int .i64 p.orders, .int .i64 p.age] 23)).alloc (by simp <;> omega) (.cells #[.slice A2 m2 k2] 26)
  have X4 := (Box.newAt (w := w) (n := w.heap.size) [.int .i64 p.top, .int .i64 p.bank, .int .i64 p.siphon, .int .i64 p.start, .int .i64 p.positions, .int .i64 p.rate, .int .i64 p.step, .int .i64 p.pass, .int .i64 p.feed, .int .i64 p.pipe, .int .i64 p.orders, .int .i64 p.age] 23 rfl).alloc (.cells #[.slice A2 m2 k2] 26)
  have X5 := Box.newAt (w := w.alloc (.cells #[.int .i64 p.top, .int .i64 p.bank, .int .i64 p.siphon, .int .i64 p.start, .int .i64 p.positions, .int .i64 p.rate, .int .i64 p.step, .int .i64 p.pass, .int .i64 p.feed, .int .i64 p.pipe, .int .i64 p.orders, .int .i64 p.age] 23)) (n := w.heap.size + 1) [.slice A2 m2 k2] 26 (by simp)
  generalize (w.alloc (.cells #[.int .i64 p.top, .int .i64 p.bank, .int .i64 p.siphon, .int .i64 p.start, .int .i64 p.positions, .int .i64 p.rate, .int .i64 p.step, .int .i64 p.pass, .int .i64 p.feed, .int .i64 p.pipe, .int .i64 p.orders, .int .i64 p.age] 23)).alloc (.cells #[.slice A2 m2 k2] 26) = w0 at X4 X5 hB ⊢
  go_wp2_with fail
  have hO0 : Hid (OwnE (encR m) 1 w0 (w.heap.size + 1 + 1) 80 (.slice none 0 0) []) := Lib.hid (ownE_nil _ _ _ _ _)
  go_loopw [10, 9] (fun i V wr => ∃ (j : Nat) (rs : List Nat) (Av : Option Addr) (nv cv : Nat), j ≤ n ∧ i = .int .i64 j ∧ V = .slice Av nv cv ∧ Below w.heap.size w wr ∧ Box wr w.heap.size [.int .i64 p.top, .int .i64 p.bank, .int .i64 p.siphon, .int .i64 p.start, .int .i64 p.positions, .int .i64 p.rate, .int .i64 p.step, .int .i64 p.pass, .int .i64 p.feed, .int .i64 p.pipe, .int .i64 p.orders, .int .i64 p.age] ∧ Box wr (w.heap.size + 1) [.slice A2 m2 k2] ∧ Hid (OwnE (encR m) 1 wr (w.heap.size + 1 + 1) 80 (.slice Av nv cv) rs) ∧ Hid (rs.length = j) ∧ Hid (∀ (i : Nat) (hi : i < rs.length), w.heap.size ≤ rs[i] ∧ RowI wr m rs[i] m (tabF p c i))) (fun i _ _ => n - (intOf i).toNat)
  case atStart => exact ⟨0, [], none, 0, 0, Nat.zero_le _, rfl, rfl, hB, X4, X5, hO0, Lib.hid rfl, Lib.hid (fun i hi => by simp at hi)⟩
  case round =>
    clear hB X4 X5 hO0
    obtain ⟨j, rs, Av, nv, cv, hj, rfl, rfl, hB, X4, X5, hO, hrl, hrows⟩ := hrel
    obtain ⟨wo, rfl⟩ : ∃ wo : World, wo = wr := ⟨_, rfl⟩
    rcases Nat.lt_or_ge j n with hlt | hge
    rotate_left
    · obtain rfl : j = n := by omega
      have e0 : ¬ (j : Int) < (j : Int) := by omega
      go_wp2
      go_ret
      unfold RetTab
      rw [HN.out, HM.out]
      exact ⟨_, rs, rfl, hB, hrl.out, ownE_base hO.out (by omega), hrows.out⟩
    have e0 : (j : Int) < (n : Int) := by omega
    have hmk := make_intsB wo m hm2
    have HM2 := Lib.hid hm2
    go_upto_region 6 with fail
    clear hmk e0
    have hb := (Below.refl wo.heap.size wo).alloc (Nat.le_refl _) (.cells (Array.replicate m (Value.int .i64 0)) 3)
    have hR0 : RowI (wo.alloc (.cells (Array.replicate m (Value.int .i64 0)) 3)) m wo.heap.size 0 (tabF p c j) := ⟨List.replicate m (Value.int .i64 0), (World.alloc_heap_new wo _).trans (by rw [List.toArray_replicate]), List.length_replicate, fun k hk => absurd hk (Nat.not_lt_zero k)⟩
    have hO1 := Lib.hid (OwnE.later hO.out hb)
    have hrows1 : Hid (∀ (i : Nat) (hi : i < rs.length), w.heap.size ≤ rs[i] ∧ RowI (wo.alloc (.cells (Array.replicate m (Value.int .i64 0)) 3)) m rs[i] m (tabF p c i) ∧ rs[i] < wo.heap.size) := Lib.hid (fun i hi => ⟨(hrows.out i hi).1, (hrows.out i hi).2.later hb, (hrows.out i hi).2.lt⟩)
    have hor : ∀ g, (Value.slice Av nv cv).ownBlock = some g → g < wo.heap.size := fun g hg => (World.ownsRow.lt hO.out g hg).2
    have hwr := hB.size
    have hz4 : w.heap.size + 1 < wo.heap.size := X5.lt
    replace X4 := X4.later hb
    replace X5 := X5.later hb
    replace hB := hB.trans (hb.mono hB.size)
    clear hb hO hrows
    generalize wo.alloc (.cells (Array.replicate m (Value.int .i64 0)) 3) = wa at hR0 hO1 hrows1 X4 X5 hB ⊢
    generalize wo.heap.size = R at hR0 hrows1 hor hwr hz4 ⊢
    go_wp2_with fail
    have HORW := Lib.hid hor
    have HWR := Lib.hid hwr
    have HZ4 := Lib.hid hz4
    have hjs : Hid (j < p.states.length) := Lib.hid (by rw [HN.out]; exact hlt)
    clear hor hm2
    go_loopw [12] (fun i wr => ∃ k : Nat, k ≤ m ∧ i = .int .i64 k ∧ Chg (fun b => b = R) wa wr ∧ RowI wr m R k (tabF p c j)) (fun i _ => m - (intOf i).toNat)
    case atStart => exact ⟨0, Nat.zero_le _, rfl, Chg.refl _ _, hR0⟩
    case round =>
      clear hR0
      obtain ⟨k, hk, rfl, hch, hR⟩ := hrel
      obtain ⟨wi, rfl⟩ : ∃ wi : World, wi = wr := ⟨_, rfl⟩
      have X4i := hch.box X4 (by omega)
      have X5i := hch.box X5 (by omega)
      have hBi := hB.trans (hch.low hB.size (fun b hb => by subst hb; exact hwr))
      have hm3 := HM2.out
      rcases Nat.lt_or_ge k m with hlk | hgk
      · have e0 : (k : Int) < (m : Int) := by omega
        have e1 : (j : Int) < (n : Int) := by omega
        have hks : k < p.shocks.length := by rw [HM.out]; exact hlk
        obtain ⟨g, hAs, hg, q0, q1, q2, q3, q4, q5⟩ := KS.out j hjs.out
        obtain ⟨g2, hAh, hg2, r0, r1⟩ := KH.out k hks
        have hsm : p.states[j]'hjs.out ∈ p.states := List.getElem_mem hjs.out
        have hxm : p.shocks[k] ∈ p.shocks := List.getElem_mem hks
        have hf0 : tabF p c j k = p.idx (nextT p c (p.states[j]'hjs.out) p.shocks[k]).1 := by
          unfold tabF
          rw [List.getD_eq_getElem?_getD, List.getD_eq_getElem?_getD, List.getElem?_eq_getElem hjs.out, List.getElem?_eq_getElem hks]
          rfl
        generalize p.states[j]'hjs.out = s at q0 q1 q2 q3 q4 q5 hsm hf0
        generalize p.shocks[k] = x at r0 r1 hxm hf0
        obtain ⟨x0, x1⟩ := x
        have hyh := nextS_has (x := ⟨x0, x1⟩) ha.out hsm hxm
        obtain ⟨⟨⟨t0, t1, t2, t3, t4, t5⟩, ou, er⟩, hnx⟩ : ∃ t, nextT p c s ⟨x0, x1⟩ = t := ⟨_, rfl⟩
        rw [hnx] at hyh hf0
        dsimp only at hyh hf0 r0 r1 q0 q1 q2 q3 q4 q5
        obtain ⟨s0, s1, s2, s3, s4, s5⟩ := s
        have HNX := Lib.hid hnx
        have HYH := Lib.hid hyh
        have HF0 := Lib.hid hf0
        subst hAs hAh
        clear hsm hxm hnx hyh hf0 hks
        have hd := (Below.refl wi.heap.size wi).drew
        have z4 := X4i.lt
        have z5 := X5i.lt
        have zg := Nat.lt_of_lt_of_le hg hBi.size
        have zg2 := Nat.lt_of_lt_of_le hg2 hBi.size
        have zR := hR.lt
        have u0 : ∀ q : Later wi, q.w.cell? ⟨w.heap.size, 0, none⟩ = some (.int .i64 p.top) := Later.cell (X4i.cell 0) z4
        have u1 : ∀ q : Later wi, q.w.cell? ⟨w.heap.size, 1, none⟩ = some (.int .i64 p.bank) := Later.cell (X4i.cell 1) z4
        have u2 : ∀ q : Later wi, q.w.cell? ⟨w.heap.size, 2, none⟩ = some (.int .i64 p.siphon) := Later.cell (X4i.cell 2) z4
        have u3 : ∀ q : Later wi, q.w.cell? ⟨w.heap.size, 3, none⟩ = some (.int .i64 p.start) := Later.cell (X4i.cell 3) z4
        have u4 : ∀ q : Later wi, q.w.cell? ⟨w.heap.size, 4, none⟩ = some (.int .i64 p.positions) := Later.cell (X4i.cell 4) z4
        have u5 : ∀ q : Later wi, q.w.cell? ⟨w.heap.size, 5, none⟩ = some (.int .i64 p.rate) := Later.cell (X4i.cell 5) z4
        have u6 : ∀ q : Later wi, q.w.cell? ⟨w.heap.size, 6, none⟩ = some (.int .i64 p.step) := Later.cell (X4i.cell 6) z4
        have u7 : ∀ q : Later wi, q.w.cell? ⟨w.heap.size, 7, none⟩ = some (.int .i64 p.pass) := Later.cell (X4i.cell 7) z4
        have u8 : ∀ q : Later wi, q.w.cell? ⟨w.heap.size, 8, none⟩ = some (.int .i64 p.feed) := Later.cell (X4i.cell 8) z4
        have u9 : ∀ q : Later wi, q.w.cell? ⟨w.heap.size, 9, none⟩ = some (.int .i64 p.pipe) := Later.cell (X4i.cell 9) z4
        have u10 : ∀ q : Later wi, q.w.cell? ⟨w.heap.size, 10, none⟩ = some (.int .i64 p.orders) := Later.cell (X4i.cell 10) z4
        have u11 : ∀ q : Later wi, q.w.cell? ⟨w.heap.size, 11, none⟩ = some (.int .i64 p.age) := Later.cell (X4i.cell 11) z4
        have v0 : ∀ q : Later wi, q.w.cell? ⟨w.heap.size + 1, 0, none⟩ = some (.slice A2 m2 k2) := Later.cell (X5i.cell 0) z5
        have a0 : ∀ q : Later wi, q.w.cell? ⟨g, j * 6, none⟩ = some (.int .i64 s0) := Later.cell ((hBi.cell hg).trans q0) zg
        have a1 : ∀ q : Later wi, q.w.cell? ⟨g, j * 6 + 1, none⟩ = some (.int .i64 s1) := Later.cell ((hBi.cell hg).trans q1) zg
        have a2 : ∀ q : Later wi, q.w.cell? ⟨g, j * 6 + 2, none⟩ = some (.int .i64 s2) := Later.cell ((hBi.cell hg).trans q2) zg
        have a3 : ∀ q : Later wi, q.w.cell? ⟨g, j * 6 + 3, none⟩ = some (.int .i64 s3) := Later.cell ((hBi.cell hg).trans q3) zg
        have a4 : ∀ q : Later wi, q.w.cell? ⟨g, j * 6 + 4, none⟩ = some (.int .i64 s4) := Later.cell ((hBi.cell hg).trans q4) zg
        have a5 : ∀ q : Later wi, q.w.cell? ⟨g, j * 6 + 5, none⟩ = some (.int .i64 s5) := Later.cell ((hBi.cell hg).trans q5) zg
        have b0 : ∀ q : Later wi, q.w.cell? ⟨g2, k * 2, none⟩ = some (.int .i64 x0) := Later.cell ((hBi.cell hg2).trans r0) zg2
        have b1 : ∀ q : Later wi, q.w.cell? ⟨g2, k * 2 + 1, none⟩ = some (.int .i64 x1) := Later.cell ((hBi.cell hg2).trans r1) zg2
        clear q0 q1 q2 q3 q4 q5 r0 r1 hg hg2
        have hCi := Lib.hid (hC.out.later hBi)
        go_upto_region 9 with fail
        refine wp_region_upto (C := fun w' => ∃ x : Later wi, w' = x.w) 16 [0, 1, 2, 3, 4, 5, 6, 7, 8, 9, 10, 11, 12] (by kernel_rfl) (by kernel_rfl) (Later.mk' hd) (fun _ _ h => h) ?_
        simp only [headOps, List.filterMap_cons, List.filterMap_nil, List.getElem?_toArray, List.getElem?_cons_succ, List.getElem?_cons_zero]
        repeat (first | go_big_quiet_skip | (show wpQuiet _ _ _ _ (_ :: _) _; go_big_quiet_skip) | (show wpQuiet _ _ _ _ (_ :: _) _; go_big_quiet_want; go_big_quiet_op; go_big_quiet_on))
        refine wpQuiet_nil ?_
        clear u0 u1 u2 u3 u4 u5 u6 u7 u8 u9 u10 u11 v0 a0 a1 a2 a3 a4 a5 b0 b1
        refine anyG_one (n := 3) (i := 13) (by kernel_rfl) (fun _ => Later.mk' hd) ?_
        refine wpOp_callD (some 41) (by rfl) rfl rfl ?_ ((rbNext_is (p := p) (s := ⟨s0, s1, s2, s3, s4, s5⟩) (x := ⟨x0, x1⟩) HNX (hCi.out.later hd)).mono ?_)
        · go_simp
        rintro e W1 ⟨rfl, hb1⟩
        refine ⟨_, rfl, ?_⟩
        simp only [Act.put, List.setIfInBounds_toArray, List.set_cons_zero, List.set_cons_succ]
        have h1 := hd.trans (hb1.mono hd.size)
        refine anyG_one (n := 2) (i := 14) (by kernel_rfl) (fun _ => Later.mk' h1) ?_
        refine wpOp_callD (some 42) (by rfl) rfl rfl ?_ ((rbIndex_is HV (s := ⟨t0, t1, t2, t3, t4, t5⟩) HYH W1).mono ?_)
        · go_simp
        rintro e W2 ⟨rfl, hb2⟩
        refine ⟨_, rfl, ?_⟩
        simp only [Act.put, List.setIfInBounds_toArray, List.set_cons_zero, List.set_cons_succ]
        have h2 := h1.trans (hb2.mono h1.size)
        rw [← HF0.out]
        have hR2 := hR.later h2
        obtain ⟨cs2, BX, hcl⟩ := hR2.box
        have f1 := BX.free k
        obtain ⟨vo, g1⟩ : ∃ vo, W2.cell? ⟨R, k, none⟩ = some vo := ⟨cs2[k]'(by omega), (BX.cell k).trans (List.getElem?_eq_getElem (by omega))⟩
        have zf := BX.lt
        refine anyG_val (some 43) (n := 1) (i := 15) (v := .pointer (some ⟨R, k, none⟩)) (w' := W2) (by kernel_rfl) rfl rfl rfl (fun _ => Later.mk' h2) (by go_simp) ?_
        simp only [Act.put, List.setIfInBounds_toArray, List.set_cons_zero, List.set_cons_succ]
        refine anyG_store (n := 0) (i := 16) (w' := W2.setCell ⟨R, k, none⟩ (.int .i64 (tabF p c j k : Nat))) (by kernel_rfl) rfl rfl rfl (fun _ => Later.mk' h2) (by go_simp) ?_
        refine anyG_done (by kernel_rfl) rfl ?_
        clear f1 zf BX g1 vo hcl cs2
        have hR3 := hR2.put hlk
        have hch3 := (hch.below h2).cell (b := R) k (.int .i64 (tabF p c j k : Nat)) (.inl rfl)
        clear hR2 h1 h2 hb1 hb2 hR hch hd hBi X4i X5i
        generalize W2.setCell ⟨R, k, none⟩ (.int .i64 (tabF p c j k : Nat)) = ws at hR3 hch3 ⊢
        dsimp only [Exit.inBlock, Exit.then]
        go_wp2
        refine ⟨⟨k + 1, hlk, by go_num, hch3, hR3⟩, by simp [intOf]; omega⟩
      · obtain rfl : k = m := by omega
        have e0 : ¬ (k : Int) < (k : Int) := by omega
        have hO2 : OwnE (encR k) 1 wi (w.heap.size + 1 + 1) 80 (.slice Av nv cv) rs := ownE_same hO1.out (fun g hg => hch.block g (World.ownsRow.lt hO1.out g hg).2 (by have := HORW.out g hg; omega))
        have hrows2 : Hid (∀ (i : Nat) (hi : i < rs.length), w.heap.size ≤ rs[i] ∧ RowI wi k rs[i] k (tabF p c i)) := Lib.hid (fun i hi => ⟨(hrows1.out i hi).1, (hrows1.out i hi).2.1.same (hch.block _ (hrows1.out i hi).2.1.lt (by have := (hrows1.out i hi).2.2; omega))⟩)
        have hbS := (Below.refl wi.heap.size wi).alloc (Nat.le_refl _) (.cells #[.slice (some ⟨R, 0, none⟩) k k] 80)
        have hO3 := hO2.later hbS
        have XN := Box.new wi [.slice (some ⟨R, 0, none⟩) k k] 80
        obtain ⟨E0, E⟩ := elem_row
        have hrl2 := hrl.out
        have hz5 := X5i.lt
        have hz6 := hbS.size
        obtain ⟨g', c', w9, hr, hO4, hg⟩ := run_appE E (fun _ => rfl) (row_one k) (by omega) R 98 hO3 XN (by omega) (by omega)
        have hB1 := hBi.trans (hbS.mono hBi.size)
        have hB2 := OwnE.grown hO3 hg (by omega) hB1 hB1.size
        have X42 : Box w9 w.heap.size [.int .i64 p.top, .int .i64 p.bank, .int .i64 p.siphon, .int .i64 p.start, .int .i64 p.positions, .int .i64 p.rate, .int .i64 p.step, .int .i64 p.pass, .int .i64 p.feed, .int .i64 p.pipe, .int .i64 p.orders, .int .i64 p.age] := box_grown hO3 hg (X4i.later hbS) (by omega)
        have X52 : Box w9 (w.heap.size + 1) [.slice A2 m2 k2] := box_grown hO3 hg (X5i.later hbS) (by omega)
        have hR9 : RowI w9 k R k (tabF p c j) := (hR.later hbS).same (hg.block _ (hR.later hbS).lt (fun e => (hR.later hbS).off hO3 e.symm))
        have hrows9 : ∀ (i : Nat) (hi : i < rs.length), w.heap.size ≤ rs[i] ∧ RowI w9 k rs[i] k (tabF p c i) := fun i hi => ⟨(hrows2.out i hi).1, ((hrows2.out i hi).2.later hbS).same (hg.block _ ((hrows2.out i hi).2.later hbS).lt (fun e => ((hrows2.out i hi).2.later hbS).off hO3 e.symm))⟩
        have hrowsN := Lib.hid (rows_more hrl.out hrows9 HWR.out hR9)
        have hO5 := Lib.hid hO4
        have hlN : Hid ((rs ++ [R]).length = j + 1) := Lib.hid (by rw [List.length_append, List.length_singleton, hrl.out])
        have hnv : nv = rs.length := by
          obtain ⟨A9, c9, h10⟩ := ownE_form hO2 (fun _ => rfl)
          cases h10
          rfl
        subst hnv
        have HJL := Lib.hid hlt
        clear hz5 hz6 hO4 hrows9 hR9 hg hB1 hO3 hbS hO2 XN hrl2 hrows2 hR hch hBi X4i X5i hlt hwr hz4 hm3
        go_wp2
        refine ⟨⟨j + 1, rs ++ [R], _, _, _, HJL.out, by go_num, rfl, hB2, X42, X52, hO5, hlN, hrowsN⟩, by have := HJL.out; simp [intOf]; omega⟩
end Go.Proofs.Ytancngachnpefaa
namespace Go.Proofs.Ytancngachnpefaa
open Go.RowKit
def staysT (p : Pl) (c : List Ln) (S : St → Bool) (s : St) : Bool := (p.foll c s).all S
def elimT (p : Pl) (c : List Ln) (a : (St → Bool) × Bool) (s : St) : (St → Bool) × Bool := if a.1 s = true ∧ staysT p c a.1 s = false then (fun x => if x = s then false else a.1 x, true) else a
def elimsT (p : Pl) (c : List Ln) (l : List St) (S : St → Bool) : (St → Bool) × Bool := l.foldl (elimT p c) (S, false)
theorem elims_snoc (p : Pl) (c : List Ln) (l : List St) (S : St → Bool) (s : St) : elimsT p c (l ++ [s]) S = elimT p c (elimsT p c l S) s := by
  rw [elimsT, List.foldl_append]
  rfl
section
variable {p : Pl} {c : List Ln}
theorem elim_no {a : (St → Bool) × Bool} {s : St} (h : a.1 s = false ∨ staysT p c a.1 s = true) : elimT p c a s = a := by
  refine if_neg (fun h9 => ?_)
  rcases h with h | h
  · rw [h] at h9
    cases h9.1
  · rw [h] at h9
    cases h9.2
theorem elim_yes {a : (St → Bool) × Bool} {s : St} (h1 : a.1 s = true) (h2 : staysT p c a.1 s = false) : elimT p c a s = (fun x => if x = s then false else a.1 x, true) := if_pos ⟨h1, h2⟩
theorem elims_out : ∀ (l : List St) (a : (St → Bool) × Bool), (∀ s, a.1 s = false → OutP p c s) → ∀ s, (l.foldl (elimT p c) a).1 s = false → OutP p c s
  | [], _, h, s, hs => h s hs
  | z :: l, a, h, s, hs => by
    rw [List.foldl_cons] at hs
    refine elims_out l _ (fun x hx => ?_) s hs
    unfold elimT at hx
    split at hx
    · rename_i h9
      dsimp only at hx
      split at hx
      · rename_i e
        rw [e]
        have h10 := h9.2
        unfold staysT at h10
        rw [List.all_eq_false] at h10
        obtain ⟨y, hy, hy2⟩ := h10
        exact .next hy (h y (by simpa using hy2))
      · exact h x hx
    · exact h x hx
theorem elims_sub : ∀ (l : List St) (a : (St → Bool) × Bool) (s : St), (l.foldl (elimT p c) a).1 s = true → a.1 s = true
  | [], _, _, h => h
  | z :: l, a, s, h => by
    rw [List.foldl_cons] at h
    have h1 := elims_sub l _ s h
    unfold elimT at h1
    split at h1
    · dsimp only at h1
      split at h1
      · cases h1
      · exact h1
    · exact h1
theorem elims_again : ∀ (l : List St) (a : (St → Bool) × Bool), a.2 = true → (l.foldl (elimT p c) a).2 = true
  | [], _, h => h
  | z :: l, a, h => by
    rw [List.foldl_cons]
    refine elims_again l _ ?_
    unfold elimT
    split
    · rfl
    · exact h
theorem elims_done : ∀ (l : List St) (a : (St → Bool) × Bool), (l.foldl (elimT p c) a).2 = false → l.foldl (elimT p c) a = a ∧ ∀ s ∈ l, a.1 s = true → staysT p c a.1 s = true
  | [], _, _ => ⟨rfl, fun s hs => by cases hs⟩
  | z :: l, a, h => by
    rw [List.foldl_cons] at h ⊢
    by_cases h9 : a.1 z = true ∧ staysT p c a.1 z = false
    · have e : elimT p c a z = (fun x => if x = z then false else a.1 x, true) := if_pos h9
      rw [e, elims_again l _ rfl] at h
      cases h
    · have e : elimT p c a z = a := if_neg h9
      rw [e] at h ⊢
      obtain ⟨h1, h2⟩ := elims_done l a h
      refine ⟨h1, fun s hs hm => ?_⟩
      rcases List.mem_cons.1 hs with rfl | hs
      · cases hq : staysT p c a.1 s with
        | true => rfl
        | false => exact (h9 ⟨hm, hq⟩).elim
      · exact h2 s hs hm
def inE (l : List St) (S : St → Bool) : Nat := l.countP S
theorem elims_less {L : List St} : ∀ (l : List St) (a : (St → Bool) × Bool), (∀ s ∈ l, s ∈ L) → inE L (l.foldl (elimT p c) a).1 ≤ inE L a.1 ∧ (a.2 = false → (l.foldl (elimT p c) a).2 = true → inE L (l.foldl (elimT p c) a).1 + 1 ≤ inE L a.1)
  | [], a, _ => ⟨Nat.le_refl _, fun h1 h2 => by rw [List.foldl_nil, h1] at h2; cases h2⟩
  | z :: l, a, hl => by
    rw [List.foldl_cons]
    obtain ⟨r1, r2⟩ := elims_less (L := L) l (elimT p c a z) (fun s hs => hl s (List.mem_cons_of_mem _ hs))
    by_cases h9 : a.1 z = true ∧ staysT p c a.1 z = false
    · have e : elimT p c a z = (fun x => if x = z then false else a.1 x, true) := if_pos h9
      have hlt : inE L (elimT p c a z).1 + 1 ≤ inE L a.1 := by
        rw [e]
        refine countP_lt (f := a.1) (g := fun x => if x = z then false else a.1 x) (fun x hx => ?_) (s := z) h9.1 (by simp) L (hl z (List.mem_cons_self ..))
        split at hx
        · cases hx
        · exact hx
      exact ⟨by omega, fun _ _ => by omega⟩
    · have e : elimT p c a z = a := if_neg h9
      rw [e] at r1 r2 ⊢
      exact ⟨r1, r2⟩
theorem left_is (ha : askT p c = 0) {S : St → Bool} (h1 : ∀ s, S s = false → OutP p c s) (h2 : ∀ s, S s = true → (p.safeT s).1 = true) (h3 : ∀ s ∈ p.states, S s = true → staysT p c S s = true) {s : St} (hs : s ∈ p.states) : S s = !lostI p c s := by
  have key : ∀ z, OutP p c z → z ∈ p.states → S z = true → False := fun z hz => by
    induction hz with
    | here h =>
      intro _ h5
      rw [h2 _ h5] at h
      cases h
    | @next x y hy _ ih =>
      intro h4 h5
      have h6 := h3 x h4 h5
      unfold staysT at h6
      rw [List.all_eq_true] at h6
      obtain ⟨q, hq, rfl⟩ := List.mem_map.1 hy
      obtain ⟨h7, h8⟩ := nexts_mem hq
      refine ih ?_ (h6 _ hy)
      rw [h8]
      exact (states_mem (Pl.check_zero (ask_zero ha).1).1).2 (nextS_has ha h4 h7)
  cases hS : S s with
  | true =>
    cases hl : lostI p c s with
    | false => rfl
    | true => exact (key s ((lost_iff ha hs).1 hl) hs hS).elim
  | false => rw [(lost_iff ha hs).2 (h1 s hS)]; rfl
end
end Go.Proofs.Ytancngachnpefaa
namespace Go.Proofs.Ytancngachnpefaa
open Go.RowKit
section
variable {p : Pl} {c : List Ln}
theorem dm (a b : Nat) : a / b * b + a % b = a := by rw [Nat.mul_comm]; exact Nat.div_add_mod a b
theorem idx_stAt (p : Pl) (k : Nat) : p.idx (p.stAt k) = k := by
  rw [stAt_q]
  unfold Pl.idx
  dsimp only
  simp only [Int.toNat_natCast]
  rw [dm, dm, dm, dm, dm]
theorem states_at {i : Nat} (hi : i < p.states.length) : p.states[i] = p.stAt i := by simp [Pl.states]
theorem states_get {i : Nat} (hi : i < p.count) : p.states[i]? = some (p.stAt i) := by simp [Pl.states, hi]
theorem bs_getD (hv : p.Valid) (S : St → Bool) {y : St} (h : p.hasB y = true) : (p.states.map S).getD (p.idx y) false = S y := by
  obtain ⟨h1, h2⟩ := idx_spec hv h
  rw [List.getD_eq_getElem?_getD, List.getElem?_map, states_get h1, h2]
  rfl
theorem bs_set (S : St → Bool) {i : Nat} (hi : i < p.states.length) : (p.states.map S).set i false = p.states.map (fun x => if x = p.states[i] then false else S x) := by
  apply List.ext_getElem?
  intro j
  rw [List.getElem?_set, List.getElem?_map, List.getElem?_map]
  by_cases hij : i = j
  · subst hij
    rw [if_pos rfl, List.length_map, if_pos hi, List.getElem?_eq_getElem hi]
    simp
  · rw [if_neg hij]
    rcases Nat.lt_or_ge j p.count with hj | hj
    · rw [states_get hj]
      simp only [Option.map_some, Option.some.injEq]
      rw [if_neg]
      intro h
      rw [states_at] at h
      have := congrArg p.idx h
      rw [idx_stAt, idx_stAt] at this
      exact hij this.symm
    · rw [List.getElem?_eq_none (by rw [states_len]; exact hj)]
      rfl
theorem bs_stays (ha : askT p c = 0) (S : St → Bool) {i : Nat} (hi : i < p.states.length) : (List.range p.shocks.length).all (fun k => (p.states.map S).getD (tabF p c i k) false) = staysT p c S p.states[i] := by
  have hv := (Pl.check_zero (ask_zero ha).1).1
  have e : p.nexts c p.states[i] (p.nf * p.nm) = (List.range p.shocks.length).map (fun k => (p.shocks.getD k Sh.zero, (nextT p c p.states[i] (p.shocks.getD k Sh.zero)).1)) := by
    have hl : p.shocks.length = p.nf * p.nm := by simp [Pl.shocks]; rfl
    rw [hl]
    unfold Pl.nexts
    apply List.map_congr_left
    intro k hk
    have h1 : p.shocks.getD k Sh.zero = p.shAt k := by
      rw [List.getD_eq_getElem?_getD]
      have : p.shocks[k]? = some (p.shAt k) := by
        have h2 := List.mem_range.1 hk
        have h3 : k < (p.feed + 1).toNat * p.nm := h2
        simp [Pl.shocks, h3]
      rw [this]
      rfl
    rw [h1]
    try rfl
  unfold staysT Pl.foll
  rw [e, List.map_map, List.all_map]
  apply Bool.eq_iff_iff.2
  rw [List.all_eq_true, List.all_eq_true]
  have key : ∀ k ∈ List.range p.shocks.length, (p.states.map S).getD (tabF p c i k) false = S (nextT p c p.states[i] (p.shocks.getD k Sh.zero)).1 := by
    intro k hk
    have hk2 := List.mem_range.1 hk
    have h1 : p.states.getD i St.zero = p.states[i] := by rw [List.getD_eq_getElem?_getD, List.getElem?_eq_getElem hi]; rfl
    have h2 : p.shocks.getD k Sh.zero = p.shocks[k] := by rw [List.getD_eq_getElem?_getD, List.getElem?_eq_getElem hk2]; rfl
    unfold tabF
    rw [h1, h2, bs_getD hv S (nextS_has ha (List.getElem_mem hi) (List.getElem_mem hk2))]
  constructor
  · intro h k hk
    have := h k hk
    rw [key k hk] at this
    exact this
  · intro h k hk
    rw [key k hk]
    exact h k hk
theorem tabF_lt (ha : askT p c = 0) {i k : Nat} (hi : i < p.states.length) (hk : k < p.shocks.length) : tabF p c i k < p.states.length := by
  have hv := (Pl.check_zero (ask_zero ha).1).1
  have h1 : p.states.getD i St.zero = p.states[i] := by rw [List.getD_eq_getElem?_getD, List.getElem?_eq_getElem hi]; rfl
  have h2 : p.shocks.getD k Sh.zero = p.shocks[k] := by rw [List.getD_eq_getElem?_getD, List.getElem?_eq_getElem hk]; rfl
  unfold tabF
  rw [h1, h2, states_len]
  exact (idx_spec hv (nextS_has ha (List.getElem_mem hi) (List.getElem_mem hk))).1
def fillL (p : Pl) (j : Nat) : List Bool := (p.states.take j).map p.safeB ++ List.replicate (p.states.length - j) false
theorem fill_len {j : Nat} (hj : j ≤ p.states.length) : (fillL p j).length = p.states.length := by simp [fillL]; omega
theorem fill_zero : fillL p 0 = List.replicate p.states.length false := by simp [fillL]
theorem fill_all : fillL p p.states.length = p.states.map p.safeB := by simp [fillL]
theorem fill_set {j : Nat} (hj : j < p.states.length) : (fillL p j).set j (p.safeB p.states[j]) = fillL p (j + 1) := by
  have h1 : ((p.states.take j).map p.safeB).length = j := by rw [List.length_map, List.length_take]; omega
  have h2 : p.states.length - j = (p.states.length - (j + 1)) + 1 := by omega
  unfold fillL
  rw [List.set_append_right _ _ (by omega), h1, Nat.sub_self, h2, List.replicate_succ, List.set_cons_zero, List.take_succ_eq_append_getElem hj, List.map_append, List.append_assoc]
  rfl
def isYes : Value → Bool
  | .bool true => true
  | _ => false
def yesIn (w : World) (b : Nat) : Nat := match w.heap[b]? with
  | some (.cells cur _ _) => cur.toList.countP isYes
  | _ => 0
theorem yes_box {w : World} {b : Nat} {l : List Bool} (h : Box w b (l.map Value.bool)) : yesIn w b = l.countP id := by
  obtain ⟨t, ht⟩ := h
  unfold yesIn
  rw [ht]
  dsimp only
  rw [List.countP_map]
  congr 1
  funext x
  cases x <;> rfl
theorem yes_states {w : World} {b : Nat} {S : St → Bool} (h : Box w b ((p.states.map S).map Value.bool)) : yesIn w b = inE p.states S := by
  rw [yes_box h, List.countP_map]
  rfl
theorem left_filter (ha : askT p c = 0) {S : St → Bool} (h1 : ∀ s, S s = false → OutP p c s) (h2 : ∀ s, S s = true → (p.safeT s).1 = true) (h3 : ∀ s ∈ p.states, S s = true → staysT p c S s = true) : p.states.filter S = p.states.filter (fun s => !lostI p c s) ∧ S p.beginT.1 = !lostI p c p.beginT.1 := by
  refine ⟨List.filter_congr fun s hs => left_is ha h1 h2 h3 hs, left_is ha h1 h2 h3 ?_⟩
  exact (states_mem (Pl.check_zero (ask_zero ha).1).1).2 (begin_has (Pl.check_zero (ask_zero ha).1).1 (ask_zero ha).1)
end
end Go.Proofs.Ytancngachnpefaa
namespace Go.Proofs.Ytancngachnpefaa
open Go.RowKit
inductive WayTo (came : St → Option Wy) (b : St) : St → List Sh → Prop
  | start : WayTo came b b []
  | step {y : St} {x : Wy} {l : List Sh} (h : came y = some x) (hb : y ≠ b) (hl : WayTo came b x.st l) : WayTo came b y (l ++ [x.sh])
section
variable {p : Pl} {c : List Ln} {b s y : St} {x : Sh} {came : St → Option Wy} {l : List Sh} {fin : Ev × Option St} {ways : List (St × List Sh)} {i j : Nat}
theorem WayTo.upd (h : WayTo came b y l) {z : St} (hz : came z = none) (v : Wy) : WayTo (updS came z v) b y l := by
  induction h with
  | start => exact .start
  | step h hb _ ih =>
    refine .step ?_ hb ih
    unfold updS
    rw [if_neg]
    · exact h
    · intro e
      rw [e, hz] at h
      cases h
theorem WayTo.back (h : WayTo came b y l) : ∀ k, l.length < k → backE came b k y = l.reverse := by
  induction h with
  | start =>
    intro k _
    exact back_end came b k
  | step h hb _ ih =>
    intro k hk
    rw [List.length_append, List.length_singleton] at hk
    obtain ⟨k, rfl⟩ : ∃ k', k = k' + 1 := ⟨k - 1, by omega⟩
    rw [backE, if_neg hb, h]
    dsimp only
    rw [ih k (by omega), List.reverse_append]
    rfl
theorem WayTo.len (h : WayTo came b y l) {rk : St → Nat} (hr : ∀ y x, came y = some x → y ≠ b → rk x.st < rk y) : l.length ≤ rk y := by
  induction h with
  | start => exact Nat.zero_le _
  | step h hb _ ih =>
    have := hr _ _ h hb
    rw [List.length_append, List.length_singleton]
    omega
theorem WayTo.short {k : Nat} {a : Ev} (h : WayTo a.came b y l) (he : EvOk p b a k) (hy : (a.came y).isSome = true) : l.length < p.count + 1 := by
  obtain ⟨n, h1, rk, h2⟩ := he.ord
  have h3 := h.len (rk := rk) (fun y x hx hb => ((h2 y x hx).2 hb).1)
  cases h0 : a.came y with
  | none => rw [h0] at hy; cases hy
  | some v =>
    have := (h2 y v h0).1
    omega
structure OutE (p : Pl) (c : List Ln) (b : St) (fin : Ev × Option St) (came : St → Option Wy) (i : Nat) (ways : List (St × List Sh)) : Prop where
  le : i ≤ p.count + 1
  run : escE p c (p.count + 1 - i) ⟨came, (ways.drop i).map Prod.fst⟩ = fin
  ok : EvOk p b ⟨came, (ways.drop i).map Prod.fst⟩ (p.count + 1 - i)
  way : ∀ u ∈ ways, WayTo came b u.1 u.2
  safe : ∀ y, (came y).isSome = true → (p.safeT y).1 = true
structure InnE (p : Pl) (c : List Ln) (b : St) (fin : Ev × Option St) (came : St → Option Wy) (i j : Nat) (s : St) (l : List Sh) (ways : List (St × List Sh)) : Prop where
  run : ∃ (k : Nat) (came0 : St → Option Wy) (r : List St), k + i = p.count ∧ escE p c (k + 1) ⟨came0, s :: r⟩ = fin ∧ innerE p s (p.nexts c s j) ⟨came0, s :: r⟩ = (⟨came, (ways.drop i).map Prod.fst⟩, none) ∧ EvOk p b ⟨came, (ways.drop i).map Prod.fst⟩ (k + 1)
  head : ways[i]? = some (s, l)
  way : ∀ u ∈ ways, WayTo came b u.1 u.2
  safe : ∀ y, (came y).isSome = true → (p.safeT y).1 = true
theorem drop_head {ways : List (St × List Sh)} {u : St × List Sh} (h : ways[i]? = some u) : (ways.drop i).map Prod.fst = u.1 :: (ways.drop (i + 1)).map Prod.fst := by
  obtain ⟨h1, h2⟩ := List.getElem?_eq_some_iff.1 h
  rw [List.drop_eq_getElem_cons h1, List.map_cons, h2]
theorem OutE.start (hv : p.Valid) (hc : p.checkT = 0) (hs : (p.safeT p.beginT.1).1 = true) : OutE p c p.beginT.1 (escE p c (p.count + 1) (startE p)) (startE p).came 0 [(p.beginT.1, [])] := by
  refine ⟨Nat.zero_le _, rfl, evOk_start hv (begin_has hv hc), fun u hu => ?_, fun y hy => ?_⟩
  · rw [List.mem_singleton.1 hu]
    exact .start
  · unfold startE updS at hy
    dsimp only at hy
    split at hy
    · rename_i e
      rw [e]
      exact hs
    · cases hy
theorem OutE.more (h : OutE p c b fin came i ways) : ways.length ≤ p.count + 1 := by
  have h1 := h.ok.bound
  have h2 := h.le
  dsimp only at h1
  rw [List.length_map, List.length_drop] at h1
  omega
theorem OutE.over (h : OutE p c b fin came i ways) (hi : ways.length ≤ i) : ∃ a, fin = (a, none) := by
  have h1 := h.run
  rw [List.drop_eq_nil_of_le hi, List.map_nil] at h1
  exact ⟨_, esc_end h1⟩
theorem OutE.inn (h : OutE p c b fin came i ways) (hw : ways[i]? = some (s, l)) : InnE p c b fin came i 0 s l ways := by
  have h1 := h.ok.bound
  have h2 := h.le
  have h3 := drop_head hw
  have h4 := h.run
  have h5 := h.ok
  dsimp only at h1
  rw [h3, List.length_cons] at h1
  obtain ⟨k, hk⟩ : ∃ k, p.count + 1 - i = k + 1 := ⟨p.count - i, by omega⟩
  rw [hk] at h4 h5
  refine ⟨⟨k, came, _, by omega, by rw [h3] at h4; exact h4, ?_, h5⟩, hw, h.way, h.safe⟩
  rw [h3]
  rfl
theorem InnE.known (h : InnE p c b fin came i j s l ways) (hx : p.shAt j = x) (hn : (nextT p c s x).1 = y) (hy : (came y).isSome = true) : InnE p c b fin came i (j + 1) s l ways := by
  obtain ⟨k, came0, r, h1, h2, h3, h4⟩ := h.run
  refine ⟨⟨k, came0, r, h1, h2, ?_, h4⟩, h.head, h.way, h.safe⟩
  rw [nexts_succ, hx, hn]
  exact inner_known h3 hy
theorem InnE.here (h : InnE p c b fin came i j s l ways) : (came s).isSome = true := by
  obtain ⟨k, came0, r, h1, h2, h3, h4⟩ := h.run
  have := h4.ops
  dsimp only at this
  rw [drop_head h.head] at this
  exact this s (by simp)
theorem InnE.mem (h : InnE p c b fin came i j s l ways) : s ∈ p.states := by
  obtain ⟨k, came0, r, h1, h2, h3, h4⟩ := h.run
  exact h4.dom s h.here
theorem InnE.short (h : InnE p c b fin came i j s l ways) : l.length ≤ p.count := by
  have hh := h.here
  obtain ⟨k, came0, r, h1, h2, h3, h4⟩ := h.run
  have h6 : WayTo came b s l := h.way (s, l) (List.mem_of_getElem? h.head)
  have := WayTo.short (a := ⟨came, (ways.drop i).map Prod.fst⟩) h6 h4 hh
  omega
theorem InnE.more (h : InnE p c b fin came i j s l ways) : ways.length ≤ p.count + 1 := by
  obtain ⟨k, came0, r, h1, h2, h3, h4⟩ := h.run
  have h5 := h4.bound
  dsimp only at h5
  rw [List.length_map, List.length_drop] at h5
  omega
theorem none_of {o : Option Wy} (h : o.isSome = false) : o = none := by
  cases o with
  | none => rfl
  | some v => cases h
theorem InnE.put (h : InnE p c b fin came i j s l ways) (hx : p.shAt j = x) (hn : (nextT p c s x).1 = y) (hm : y ∈ p.states) (hy : (came y).isSome = false) (hs : (p.safeT y).1 = true) : InnE p c b fin (updS came y ⟨s, x⟩) i (j + 1) s l (ways ++ [(y, l ++ [x])]) := by
  have hh := h.here
  obtain ⟨k, came0, r, h1, h2, h3, h4⟩ := h.run
  obtain ⟨hi, hw⟩ := List.getElem?_eq_some_iff.1 h.head
  have hd : ((ways ++ [(y, l ++ [x])]).drop i).map Prod.fst = (ways.drop i).map Prod.fst ++ [y] := by
    rw [List.drop_append_of_le_length (by omega), List.map_append]
    rfl
  have hyb : y ≠ b := fun e => by
    have := h4.beg
    dsimp only at this
    rw [← e, hy] at this
    cases this
  refine ⟨⟨k, came0, r, h1, h2, ?_, ?_⟩, ?_, fun u hu => ?_, fun z hz => ?_⟩
  · rw [nexts_succ, hx, hn, hd]
    exact inner_safe h3 hy hs
  · rw [hd]
    exact h4.put hm hy hh
  · rw [List.getElem?_append_left hi, h.head]
  · rcases List.mem_append.1 hu with h5 | h5
    · exact (h.way u h5).upd (none_of hy) _
    · rw [List.mem_singleton.1 h5]
      have h6 : WayTo came b s l := h.way (s, l) (List.mem_of_getElem? h.head)
      exact .step (x := ⟨s, x⟩) (upd_same came y ⟨s, x⟩) hyb (h6.upd (none_of hy) _)
  · unfold updS at hz
    split at hz
    · rename_i e
      rw [e]
      exact hs
    · exact h.safe z hz
theorem InnE.bad (h : InnE p c b fin came i j s l ways) (hx : p.shAt j = x) (hn : (nextT p c s x).1 = y) (hm : y ∈ p.states) (hj : j < p.nf * p.nm) (hs : (p.safeT y).1 = false) : ∃ a, fin = (a, some y) ∧ (backE a.came b (p.count + 1) y).reverse = l ++ [x] := by
  have hh := h.here
  obtain ⟨k, came0, r, h1, h2, h3, h4⟩ := h.run
  have hy : (came y).isSome = false := by
    cases h0 : (came y).isSome with
    | false => rfl
    | true =>
      have := h.safe y h0
      rw [hs] at this
      cases this
  have hyb : y ≠ b := fun e => by
    have := h4.beg
    dsimp only at this
    rw [← e, hy] at this
    cases this
  have h5 := inner_bad (x := x) h3 hy hs
  have h6 : p.nexts c s (j + 1) <+: p.nexts c s (p.nf * p.nm) := nexts_pre p c s (by omega)
  rw [nexts_succ, hx, hn] at h6
  obtain ⟨t, ht⟩ := h6
  have h7 := inner_some _ _ _ h5 t
  rw [ht] at h7
  refine ⟨_, esc_found h2 h7, ?_⟩
  have h8 : WayTo (updS came y ⟨s, x⟩) b y (l ++ [x]) := by
    have h6 : WayTo came b s l := h.way (s, l) (List.mem_of_getElem? h.head)
    exact .step (x := ⟨s, x⟩) (upd_same came y ⟨s, x⟩) hyb (h6.upd (none_of hy) _)
  have h9 := (h4.bad (x := x) hm hy hh)
  have h10 : (l ++ [x]).length < p.count + 1 := WayTo.short (a := ⟨updS came y ⟨s, x⟩, (ways.drop i).map Prod.fst⟩) h8 h9 (by dsimp only; rw [upd_same]; rfl)
  dsimp only
  rw [h8.back _ h10, List.reverse_reverse]
theorem InnE.over (h : InnE p c b fin came i (p.nf * p.nm) s l ways) : OutE p c b fin came (i + 1) ways := by
  obtain ⟨k, came0, r, h1, h2, h3, h4⟩ := h.run
  have h5 := drop_head h.head
  have h6 := esc_on h2 h3
  dsimp only at h6
  rw [h5] at h4 h6
  rw [List.tail_cons] at h6
  have hk : p.count + 1 - (i + 1) = k := by omega
  exact ⟨by omega, by rw [hk]; exact h6, by rw [hk]; exact h4.pop, h.way, h.safe⟩
def knownB (came : St → Option Wy) : St → Bool := fun y => (came y).isSome
theorem known_set {i : Nat} (hi : i < p.states.length) (v : Wy) (hy : p.states[i] = y) : (p.states.map (knownB came)).set i true = p.states.map (knownB (updS came y v)) := by
  apply List.ext_getElem?
  intro j
  rw [List.getElem?_set, List.getElem?_map, List.getElem?_map]
  by_cases hij : i = j
  · subst hij
    rw [if_pos rfl, List.length_map, if_pos hi, List.getElem?_eq_getElem hi, hy]
    simp [knownB, upd_same]
  · rw [if_neg hij]
    rcases Nat.lt_or_ge j p.count with hj | hj
    · rw [states_get hj]
      simp only [Option.map_some, Option.some.injEq]
      unfold knownB updS
      rw [if_neg]
      intro h
      rw [← hy, states_at] at h
      have := congrArg p.idx h
      rw [idx_stAt, idx_stAt] at this
      exact hij this.symm
    · rw [List.getElem?_eq_none (by rw [states_len]; exact hj)]
      rfl
theorem known_start (hb : p.idx b < p.states.length) (h : p.states[p.idx b] = b) (v : Wy) : (List.replicate p.states.length false).set (p.idx b) true = p.states.map (knownB (updS (fun _ => none) b v)) := by
  rw [← known_set (came := fun _ => none) hb v h]
  congr 1
  apply List.ext_getElem?
  intro j
  rw [List.getElem?_map]
  rcases Nat.lt_or_ge j p.states.length with hj | hj
  · rw [List.getElem?_eq_getElem hj, List.getElem?_eq_getElem (by rw [List.length_replicate]; exact hj)]
    simp [knownB]
  · rw [List.getElem?_eq_none hj, List.getElem?_eq_none (by rw [List.length_replicate]; exact hj)]
    rfl
theorem shocks_at {k : Nat} (hk : k < p.shocks.length) : p.shocks[k] = p.shAt k := by simp [Pl.shocks]
theorem shocks_len (p : Pl) : p.shocks.length = p.nf * p.nm := by simp [Pl.shocks]; rfl
end
end Go.Proofs.Ytancngachnpefaa
