/- The reference of chapter 35: Play. (Printed by gen_dy.py.) No condition. -/
import Derived.Test.YtcjcjkomcolgeaaQDX
import Derived.Test.YtcjcjkomcolgeaaQDV
set_option linter.unusedVariables false
set_option linter.unusedSimpArgs false
namespace Go.Proofs.Ytcjcjkomcolgeaa
open Go.RowKit
attribute [local go_sem ↓ high] app_named

def StsN (w : World) (K : Nat) (v : Value) (l : List St) : Prop := ∃ b c, v = .slice (some ⟨b, 0, none⟩) l.length c ∧ l.length ≤ c ∧ l.length ≤ maxLen ∧ b ≠ K ∧ b < w.heap.size ∧ ∀ i, i < l.length → ∀ j, j < 6 → w.cell? ⟨b, 0 + (i * 6 + j), none⟩ = some (((l.getD i St.zero).cells).getD j undef)
theorem StsN.at {w : World} {K : Nat} {v : Value} {l : List St} (h : StsN w K v l) : StsAt w w.heap.size v l := by
  obtain ⟨b, c, hv, _, hm, _, hb, hc⟩ := h
  exact ⟨_, c, hv, hm, fun i hi => ⟨b, 0, rfl, hb, hc i hi⟩⟩
theorem StsN.later {w w' : World} {K : Nat} {v : Value} {l : List St} (h : StsN w K v l) (hb : Below w.heap.size w w') : StsN w' K v l := by
  obtain ⟨b, c, hv, h1, hm, h2, h3, hc⟩ := h
  exact ⟨b, c, hv, h1, hm, h2, Nat.lt_of_lt_of_le h3 hb.size, fun i hi j hj => (hb.cell h3).trans (hc i hi j hj)⟩
theorem StsN.set {w : World} {K : Nat} {v : Value} {l : List St} (h : StsN w K v l) (o : Nat) (u : Value) : StsN (w.setCell ⟨K, o, none⟩ u) K v l := by
  obtain ⟨b, c, hv, h1, hm, h2, h3, hc⟩ := h
  exact ⟨b, c, hv, h1, hm, h2, by simpa using h3, fun i hi j hj => (World.cell?_setCell_far _ _ _ _ (by dsimp only; omega)).trans (hc i hi j hj)⟩
theorem stsN_of {w : World} {B K : Nat} {v : Value} {l : List St} (h : OwnSt w B v l) (hl : 0 < l.length) (hm : l.length ≤ maxLen) (hK : K < B ∨ ∀ b, B ≤ b → b < w.heap.size → b ≠ K) : StsN w K v l := by
  obtain ⟨b, c, L, hv, h1, h2, X, hc⟩ := h.box (fun _ => rfl) hl
  refine ⟨b, c, hv, h1, hm, ?_, X.lt, fun i hi j hj => ?_⟩
  · rcases hK with h3 | h3
    · omega
    · exact h3 b h2 X.lt
  · rw [Nat.zero_add, X.cell, hc i hi j hj, getD_at hi]
    exact st_cells _ hj
def midL (a b : List Bool) (n j : Nat) : List Bool := (List.range n).map (midK a b j)
theorem midL_len {a b : List Bool} {n j : Nat} : (midL a b n j).length = n := by simp [midL]
theorem midL_zero {a b : List Bool} {n : Nat} (h : a.length = n) : midL a b n 0 = a := by
  refine List.ext_getElem (by rw [midL_len, h]) fun i h1 h2 => ?_
  simp only [midL, List.getElem_map, List.getElem_range, midK_zero]
  exact getD_at h2
theorem midL_end {a b : List Bool} {n : Nat} : midL a b n n = orL a b n := by
  unfold midL orL
  refine List.map_congr_left fun i hi => ?_
  unfold midK
  rw [if_pos (List.mem_range.1 hi)]
theorem midL_set {a b : List Bool} {n j : Nat} (hj : j < n) : ((midL a b n j).map Value.bool).set j (.bool (a.getD j false || b.getD j false)) = (midL a b n (j + 1)).map Value.bool := by
  refine List.ext_getElem (by simp [midL]) fun i h1 h2 => ?_
  rw [List.getElem_set]
  by_cases hij : j = i
  · subst hij
    simp [midL, midK_new]
  · rw [if_neg hij]
    simp only [midL, List.getElem_map, List.getElem_range]
    rw [midK_old (by omega)]
theorem midL_at {a b : List Bool} {n j : Nat} (hj : j < n) : ((midL a b n j).map Value.bool)[j]? = some (.bool (a.getD j false)) := by
  rw [List.getElem?_eq_getElem (by rw [List.length_map, midL_len]; exact hj)]
  simp [midL, midK_now]
theorem box_bools {w : World} {K : Nat} {l : List Bool} (h : Box w K (l.map Value.bool)) (hm : l.length ≤ maxLen) : BoolL w w.heap.size (.slice (some ⟨K, 0, none⟩) l.length l.length) l := by
  refine ⟨_, _, rfl, hm, fun i hi => ⟨K, 0, rfl, h.lt, fun j hj => ?_⟩⟩
  obtain rfl : j = 0 := by omega
  rw [Nat.zero_add, Nat.mul_one, Nat.add_zero, h.cell, List.getElem?_map, List.getElem?_eq_getElem hi]
  dsimp only
  rw [getD_at hi]
  rfl
theorem results_t3 {P : Program} {w : World} {fn : Func} {t u s : Tmp} (h : fn.results = #[.tmp t, .tmp u, .tmp s]) (tmps : Array Value) :
    (results fn tmps).run P w = .ok (.tuple #[tmps.getD t undef, tmps.getD u undef, tmps.getD s undef]) w := by
  simp [results, h, go_sem]
set_option maxRecDepth 100000 in
set_option maxHeartbeats 40000000 in
theorem rPlay_bad (x : Cs) (Vp Vc Vb Vl : Value) (w : World) (er : Int) (hT : Hid (x.checkT = er)) (h0 : er ≠ 0) (hx : Hid (CsAt w w.heap.size Vp Vc Vb x)) : Calls Try.prog 16 #[.agg #[Vp, Vc, Vb], Vl] w (PlayPost ([], 0, er) w) := by
  have hne : (er != 0) = true := by simp [h0]
  have hB := (Below.refl w.heap.size w).alloc (Nat.le_refl _) (.cells #[Vp, Vc, Vb] 26)
  have X2 := Box.new w [Vp, Vc, Vb] 26
  go_enter Try.func16, Try.ntmps16
  go_wp2_with fail
  generalize w.alloc (.cells #[Vp, Vc, Vb] 26) = w1 at hB X2 ⊢
  refine (rCsCheck_is hT ⟨(hx.out.plants.below hB).more hB.size, (hx.out.codes.below hB).more hB.size, (hx.out.bars.below hB).more hB.size⟩).mono ?_
  rintro e w2 ⟨rfl, hb⟩
  have hB := hB.trans (hb.mono hB.size)
  go_wp2
  refine bodyPost_ret (results_t3 Try.results16 _) rfl ?_
  exact playPost_err hB
set_option maxRecDepth 100000 in
set_option maxHeartbeats 40000000 in
theorem rPlay_long (x : Cs) (Ap Ac Ab Al : Option Addr) (n m kp kc kb kl : Nat) (w : World) (hR : Hid (CsRight x n)) (hx : Hid (CsAt w w.heap.size (.slice Ap n kp) (.slice Ac n kc) (.slice Ab n kb) x)) (hm : 4096 < m) (hmm : m ≤ 9223372036854775807) : Calls Try.prog 16 #[.agg #[.slice Ap n kp, .slice Ac n kc, .slice Ab n kb], .slice Al m kl] w (PlayPost ([], 0, 2) w) := by
  have hd : decide ((4096 : Int) < (m : Int)) = true := decide_eq_true (by omega)
  have hB := (Below.refl w.heap.size w).alloc (Nat.le_refl _) (.cells #[.slice Ap n kp, .slice Ac n kc, .slice Ab n kb] 26)
  have X2 := Box.new w [.slice Ap n kp, .slice Ac n kc, .slice Ab n kb] 26
  go_enter Try.func16, Try.ntmps16
  go_wp2_with fail
  generalize w.alloc (.cells #[.slice Ap n kp, .slice Ac n kc, .slice Ab n kb] 26) = w1 at hB X2 ⊢
  refine (rCsCheck_is (Lib.hid (right_zero hR.out)) ⟨(hx.out.plants.below hB).more hB.size, (hx.out.codes.below hB).more hB.size, (hx.out.bars.below hB).more hB.size⟩).mono ?_
  rintro e w2 ⟨rfl, hb⟩
  have hB := hB.trans (hb.mono hB.size)
  have X2 := X2.later hb
  clear hb
  go_wp2
  refine bodyPost_ret (results_t3 Try.results16 _) rfl ?_
  exact playPost_err hB
set_option maxRecDepth 100000 in
set_option maxHeartbeats 40000000 in
theorem rPlay_main (x : Cs) (l : List Sp) (Ap Ac Ab Al : Option Addr) (n m kp kc kb kl : Nat) (w : World) (hR : Hid (CsRight x n)) (hx : Hid (CsAt w w.heap.size (.slice Ap n kp) (.slice Ac n kc) (.slice Ab n kb) x)) (hl : Hid (StepsAt w w.heap.size (.slice Al m kl) l)) (hm : Hid (l.length = m)) (hm4 : m ≤ 4096) (r : List St × Int × Int) (hT : Hid (x.playT l = r)) : Calls Try.prog 16 #[.agg #[.slice Ap n kp, .slice Ac n kc, .slice Ab n kb], .slice Al m kl] w (PlayPost r w) := by
  obtain ⟨i0, E⟩ := elem_state
  have hn8 := hR.out.most
  have hn0 := hR.out.pos
  have hd : decide ((4096 : Int) < (m : Int)) = false := decide_eq_false (by omega)
  have hB := (Below.refl w.heap.size w).alloc (Nat.le_refl _) (.cells #[.slice Ap n kp, .slice Ac n kc, .slice Ab n kb] 26)
  have X2 := Box.new w [.slice Ap n kp, .slice Ac n kc, .slice Ab n kb] 26
  go_enter Try.func16, Try.ntmps16
  go_wp2_with fail
  generalize w.alloc (.cells #[.slice Ap n kp, .slice Ac n kc, .slice Ab n kb] 26) = w1 at hB X2 ⊢
  refine (rCsCheck_is (Lib.hid (right_zero hR.out)) ⟨(hx.out.plants.below hB).more hB.size, (hx.out.codes.below hB).more hB.size, (hx.out.bars.below hB).more hB.size⟩).mono ?_
  rintro e w2 ⟨rfl, hb⟩
  have hB := hB.trans (hb.mono hB.size)
  have X2 := X2.later hb
  clear hb
  go_wp2_with fail
  clear hd
  go_loopw [8] (fun i wr => ∃ k : Nat, k ≤ m ∧ i = .int .i64 k ∧ Below w.heap.size w wr ∧ Box wr w.heap.size [.slice Ap n kp, .slice Ac n kc, .slice Ab n kb] ∧ Hid (∀ j (hj : j < l.length), j < k → x.stepB l[j] = true)) (fun i _ => m - (intOf i).toNat)
  case atStart => exact ⟨0, by omega, rfl, hB, X2, Lib.hid (fun j _ hj => by omega)⟩
  case round =>
    clear hB X2
    obtain ⟨k, hk, rfl, hB, X2, hall⟩ := hrel
    obtain ⟨wo, rfl⟩ : ∃ wo : World, wo = wr := ⟨_, rfl⟩
    rcases Nat.lt_or_ge k m with hlt | hge
    rotate_left
    · obtain rfl : m = k := by omega
      have hlm : ¬ ((m : Int) < (m : Int)) := by omega
      have hsB : Hid (l.all x.stepB = true) := Lib.hid (List.all_eq_true.2 fun s hs => by
        obtain ⟨j, hj, rfl⟩ := List.getElem_of_mem hs
        exact hall.out j hj (by rw [hm.out] at hj; exact hj))
      clear hall
      have hE : Hid (x.endT l = r) := Lib.hid ((playT_go (right_zero hR.out) (by rw [hm.out]; exact hm4) hsB.out).symm.trans hT.out)
      go_wp2_with fail
      have hO0 := Lib.hid (ownE_nil St.cells 6 wo (w.heap.size + 1) 51)
      go_loopw [9, 10] (fun V i wr => ∃ j : Nat, j ≤ n ∧ i = .int .i64 j ∧ Below w.heap.size w wr ∧ Box wr w.heap.size [.slice Ap n kp, .slice Ac n kc, .slice Ab n kb] ∧ Hid (OwnSt wr (w.heap.size + 1) V (x.begins.take j))) (fun _ i _ => n - (intOf i).toNat)
      case atStart => exact ⟨0, by omega, rfl, hB, X2, hO0⟩
      case round =>
        clear hB X2 hO0
        obtain ⟨j, hj, rfl, hB, X2, hO⟩ := hrel
        obtain ⟨wi, rfl⟩ : ∃ wi : World, wi = wr := ⟨_, rfl⟩
        have z2 := X2.lt
        rcases Nat.lt_or_ge j n with hlj | hgj
        rotate_left
        · obtain rfl : n = j := by omega
          have hlj : ¬ ((n : Int) < (n : Int)) := by omega
          have hbn : x.begins.length = n := by rw [begins_len, hR.out.plants]
          have hO := hO.out
          rw [List.take_of_length_le (by omega)] at hO
          have hN := stsN_of (K := wi.heap.size) hO (by omega) (by simp only [maxLen]; omega) (.inr fun b _ hb => by omega)
          have hmk := make_bools wi n (by omega)
          have hbk := (Below.refl wi.heap.size wi).alloc (Nat.le_refl _) (.cells (List.replicate n (Value.bool false)).toArray 4)
          have XK := Box.new wi (List.replicate n (Value.bool false)) 4
          have x20 : wi.cell? ⟨w.heap.size, 0, none⟩ = some (.slice Ap n kp) := X2.cell 0
          clear hO
          generalize wi.alloc (.cells (List.replicate n (Value.bool false)).toArray 4) = wk at hmk hbk XK
          go_upto_region 18 with fail
          have hN := hN.later hbk
          have X2 := X2.later hbk
          have hKw : w.heap.size < wi.heap.size := z2
          have hB := hB.trans (hbk.mono hB.size)
          clear hmk x20
          generalize wi.heap.size = Kb at hN XK hKw ⊢
          have XK : Box wk Kb ((List.replicate n false).map Value.bool) := by rw [List.map_replicate]; exact XK
          obtain ⟨bN, cN, rfl, hNrest⟩ := id hN
          rw [hbn] at hN ⊢
          clear hNrest
          have z2 := X2.lt
          have X2c0 : wk.cell? ⟨w.heap.size, 0, none⟩ = some (.slice Ap n kp) := X2.cell 0
          have X2c1 : wk.cell? ⟨w.heap.size, 1, none⟩ = some (.slice Ac n kc) := X2.cell 1
          have X2c2 : wk.cell? ⟨w.heap.size, 2, none⟩ = some (.slice Ab n kb) := X2.cell 2
          go_wp2_with fail
          refine (rFirstBad_is x x.begins (List.replicate n false) Ap Ac Ab (some ⟨bN, 0, none⟩) (some ⟨Kb, 0, none⟩) n kp kc kb cN n wk hn8 (Lib.hid hR.out.plants) (Lib.hid hbn) (Lib.hid (by simp)) (Lib.hid ((hx.out.plants.below hB).more hB.size)) (Lib.hid (by have := hN.at; exact this)) (Lib.hid (by have := box_bools XK (by simp only [List.length_replicate, maxLen]; omega); rw [List.length_replicate] at this; exact this)) _ (Lib.hid rfl)).mono ?_
          rintro e wl ⟨rfl, hb⟩
          have hB := hB.trans (hb.mono hB.size)
          have XK := XK.later hb
          have hN := Lib.hid (hN.later hb)
          have X2x := X2.later hb
          clear hb z2 X2c0 X2c1 X2c2 X2
          have X2 := X2x
          clear X2x
          have hstart : Hid (x.playK l 0 = some ⟨x.begins, List.replicate n false, x.badT x.begins (List.replicate n false)⟩) := Lib.hid (by rw [Cs.playK, Cs.start, hR.out.plants])
          go_wp2_with fail
          go_loopw [9, 14, 15] (fun V bd i wr => ∃ (k2 : Nat) (g : Pst), k2 ≤ m ∧ i = .int .i64 k2 ∧ bd = .int .i64 g.bad ∧ Below w.heap.size w wr ∧ Box wr w.heap.size [.slice Ap n kp, .slice Ac n kc, .slice Ab n kb] ∧ Box wr Kb (g.stuck.map Value.bool) ∧ Hid (x.playK l k2 = some g) ∧ Hid (StsN wr Kb V g.states)) (fun _ _ i _ => m - (intOf i).toNat)
          case atStart => exact ⟨0, _, by omega, rfl, rfl, hB, X2, XK, hstart, hN⟩
          case round =>
            clear hB X2 XK hstart hN
            obtain ⟨k2, g, hk2, rfl, rfl, hB, X2, XK, hP, hN⟩ := hrel
            obtain ⟨wh, rfl⟩ : ∃ wh : World, wh = wr := ⟨_, rfl⟩
            have hgok := playK_ok hR.out hsB.out (by rw [hm.out]; exact hk2) hP.out
            have hgl : g.states.length = n := hgok.1.1
            have hgs : g.stuck.length = n := hgok.2
            have HGS := Lib.hid hgs
            have hz2 := X2.lt
            obtain ⟨bN, cN, rfl, hcap, -⟩ := id hN.out
            rw [hgl] at hcap
            rcases Nat.lt_or_ge k2 m with hlk | hgk
            rotate_left
            · obtain rfl : m = k2 := by omega
              have hlk2 : ¬ ((m : Int) < (m : Int)) := by omega
              have hrr : r = (g.states, g.bad, 0) := hE.out.symm.trans (endT_some (by rw [hm.out]; exact hP.out))
              have HRR := Lib.hid hrr
              clear hrr hgl hgs
              go_wp2
              refine bodyPost_ret (results_t3 Try.results16 _) rfl ?_
              obtain rfl := HRR.out
              exact ⟨some ⟨bN, 0, none⟩, cN, rfl, by rw [hgok.1.1]; exact hcap, hN.out.at, hB⟩
            have hlk2 : (k2 : Int) < (m : Int) := by omega
            have hkl : k2 < l.length := by rw [hm.out]; exact hlk
            obtain ⟨gl, off, M, K, rfl, hglz, c0, c1, c2, hM, hK⟩ := hl.out.step hkl
            have hsv0 : x.stepB l[k2] = true := List.all_eq_true.1 hsB.out _ (List.getElem_mem hkl)
            have hgd := getD_at (d := Sp.zero) hkl
            obtain ⟨s, hs⟩ : ∃ s, l[k2] = s := ⟨_, rfl⟩
            rw [hs] at c0 hM hK hsv0 hgd
            have HSV := Lib.hid hsv0
            have HGD := Lib.hid hgd
            obtain ⟨a1, k1, rfl, -⟩ := hM.form
            obtain ⟨a2, k3, rfl, -⟩ := hK.form
            have hsl : s.msgs.length = n ∧ s.stuck.length = n := by
              simp only [Cs.stepB, Bool.and_eq_true, decide_eq_true_eq, hR.out.plants] at hsv0
              exact ⟨hsv0.1, hsv0.2.1⟩
            rw [hsl.1] at c1 hM
            rw [hsl.2] at c2 hK
            have HSL := Lib.hid hsl
            clear hs hsv0 hgd hsl
            have hwB := hB.size
            have HK0 := Lib.hid hK
            have C2 := Lib.hid c2
            have HM := Lib.hid ((hM.below hB).more hwB)
            have HK := Lib.hid ((hK.below hB).more hwB)
            have HX : Hid (CsAt wh wh.heap.size (.slice Ap n kp) (.slice Ac n kc) (.slice Ab n kb) x) := Lib.hid ⟨(hx.out.plants.below hB).more hwB, (hx.out.codes.below hB).more hwB, (hx.out.bars.below hB).more hwB⟩
            have HS : Hid (StsAt wh wh.heap.size (.slice (some ⟨bN, 0, none⟩) n cN) g.states) := Lib.hid (by have := hN.out.at; rw [hgl] at this; exact this)
            rw [hgl]
            clear hM hK hgl hgs
            have c0 := (hB.cell hglz).trans c0
            have c1 := (hB.cell hglz).trans c1
            have c2 := (hB.cell hglz).trans c2
            have hgz := Nat.lt_of_lt_of_le hglz hwB
            have hd := (Below.refl wh.heap.size wh).drew
            have u0 : ∀ z : Later wh, z.w.cell? ⟨w.heap.size, 0, none⟩ = some (.slice Ap n kp) := Later.cell (X2.cell 0) hz2
            have u1 : ∀ z : Later wh, z.w.cell? ⟨w.heap.size, 1, none⟩ = some (.slice Ac n kc) := Later.cell (X2.cell 1) hz2
            have u2 : ∀ z : Later wh, z.w.cell? ⟨w.heap.size, 2, none⟩ = some (.slice Ab n kb) := Later.cell (X2.cell 2) hz2
            have v0 : ∀ z : Later wh, z.w.cell? ⟨gl, off + k2 * 3, none⟩ = some (.int .i64 s.feed) := Later.cell c0 hgz
            have v1 : ∀ z : Later wh, z.w.cell? ⟨gl, off + k2 * 3 + 1, none⟩ = some (.slice a1 n k1) := Later.cell c1 hgz
            have v2 : ∀ z : Later wh, z.w.cell? ⟨gl, off + k2 * 3 + 2, none⟩ = some (.slice a2 n k3) := Later.cell c2 hgz
            have hh := rHour_is x n g.states s Ap Ac Ab (some ⟨bN, 0, none⟩) a1 a2 kp kc kb cN k1 k3 wh.drew hR (Lib.hid hgok.1) HSV (Lib.hid (HX.out.later hd)) (Lib.hid ((HS.out.below hd).more hd.size)) (Lib.hid ((HM.out.below hd).more hd.size)) (Lib.hid ((HK.out.below hd).more hd.size))
            go_upto_region 22 with fail
            refine wp_region_heads (C := fun w' => ∃ x : Later wh, w' = x.w) [0, 1, 2, 3, 4, 5] (by kernel_rfl) (by kernel_rfl) (Later.mk' hd) (fun _ _ h => h) ?_
            simp only [headOps, List.filterMap_cons, List.filterMap_nil, List.getElem?_toArray, List.getElem?_cons_succ, List.getElem?_cons_zero]
            repeat (first | go_big_quiet_skip | (show wpQuiet _ _ _ _ (_ :: _) _; go_big_quiet_skip) | (show wpQuiet _ _ _ _ (_ :: _) _; go_big_quiet_want; go_big_quiet_op; go_big_quiet_on))
            refine wpQuiet_nil ?_
            clear u0 u1 u2 v0 v1 v2
            refine anyC_callD (some 81) (n := 5) (i := 6) (by kernel_rfl) rfl rfl rfl (Later.mk' hd) ?_ (hh.mono ?_)
            · go_simp
            rintro e w2 ⟨hw2', (⟨hno, rfl⟩ | ⟨f, sts, V, B, hyes, rfl, hBB, hO⟩)⟩
            · have hw2 := hd.trans hw2'
              clear hw2' hh
              refine ⟨_, rfl, ?_⟩
              simp only [Act.put, List.setIfInBounds_toArray, List.set_cons_zero, List.set_cons_succ]
              refine anyC_heads (by kernel_rfl) 2 w2 (Later.mk' hw2) [7, 8, 9] _ _ (by kernel_rfl) ?_
              simp only [headOps, List.filterMap_cons, List.filterMap_nil, List.getElem?_toArray, List.getElem?_cons_succ, List.getElem?_cons_zero]
              repeat (first | go_big_quiet_skip | (show wpQuiet _ _ _ _ (_ :: _) _; go_big_quiet_skip) | (show wpQuiet _ _ _ _ (_ :: _) _; go_big_quiet_want; go_big_quiet_op; go_big_quiet_on))
              refine wpQuiet_nil ?_
              refine anyC_valD (some 16) (n := 1) (i := 10) (v := .slice none 0 0) (w' := w2) (by kernel_rfl) rfl rfl rfl (Later.mk' hw2) (by first | rfl | go_simp) ?_
              simp only [Act.put, List.setIfInBounds_toArray, List.set_cons_zero, List.set_cons_succ]
              refine anyC_valD (some 17) (n := 0) (i := 11) (v := .bool false) (w' := w2) (by kernel_rfl) rfl rfl rfl (Later.mk' hw2) (by first | rfl | go_simp) ?_
              simp only [Act.put, List.setIfInBounds_toArray, List.set_cons_zero, List.set_cons_succ]
              refine anyC_done (by kernel_rfl) (Later.mk' hw2) ?_
              have hP2 := playK_none (playK_stop hR.out.plants hP.out (by rw [HGD.out]; exact hno.out)) (m - (k2 + 1))
              rw [show k2 + 1 + (m - (k2 + 1)) = m by omega] at hP2
              have hrr : r = ([], 0, 350) := hE.out.symm.trans (endT_none (by rw [hm.out]; exact hP2))
              have HRR := Lib.hid hrr
              clear hrr hP2
              have hB := hB.trans (hw2.mono hwB)
              go_wp2
              refine bodyPost_ret (results_t3 Try.results16 _) rfl ?_
              obtain rfl := HRR.out
              exact playPost_err hB
            · have hw2 := hd.trans hw2'
              clear hw2' hh
              refine ⟨_, rfl, ?_⟩
              simp only [Act.put, List.setIfInBounds_toArray, List.set_cons_zero, List.set_cons_succ]
              refine anyC_heads (by kernel_rfl) 2 w2 (Later.mk' hw2) [7, 8, 9] _ _ (by kernel_rfl) ?_
              simp only [headOps, List.filterMap_cons, List.filterMap_nil, List.getElem?_toArray, List.getElem?_cons_succ, List.getElem?_cons_zero]
              repeat (first | go_big_quiet_skip | (show wpQuiet _ _ _ _ (_ :: _) _; go_big_quiet_skip) | (show wpQuiet _ _ _ _ (_ :: _) _; go_big_quiet_want; go_big_quiet_op; go_big_quiet_on))
              refine wpQuiet_nil ?_
              refine anyC_valD (some 16) (n := 1) (i := 10) (v := V) (w' := w2) (by kernel_rfl) rfl rfl rfl (Later.mk' hw2) (by first | rfl | go_simp) ?_
              simp only [Act.put, List.setIfInBounds_toArray, List.set_cons_zero, List.set_cons_succ]
              refine anyC_valD (some 17) (n := 0) (i := 11) (v := .bool true) (w' := w2) (by kernel_rfl) rfl rfl rfl (Later.mk' hw2) (by first | rfl | go_simp) ?_
              simp only [Act.put, List.setIfInBounds_toArray, List.set_cons_zero, List.set_cons_succ]
              refine anyC_done (by kernel_rfl) (Later.mk' hw2) ?_
              have hKz : Kb < wh.heap.size := XK.lt
              have hdz : wh.drew.heap.size = wh.heap.size := rfl
              have hB := hB.trans (hw2.mono hwB)
              have X2 := X2.later hw2
              have XK := XK.later hw2
              have hsn : sts.length = n := hourK_len hyes.out
              have hN2 := Lib.hid (stsN_of (K := Kb) hO.out (by omega) (by simp only [maxLen]; omega) (.inl (by omega)))
              clear hsn hO hN HM HX HS c0 c1 c2 hgz HK hd
              go_wp2_with fail
              go_loopw [18] (fun i wr => ∃ j : Nat, j ≤ n ∧ i = .int .i64 j ∧ Below w.heap.size w wr ∧ Box wr w.heap.size [.slice Ap n kp, .slice Ac n kc, .slice Ab n kb] ∧ Box wr Kb ((midL g.stuck s.stuck n j).map Value.bool) ∧ Hid (StsN wr Kb V sts) ∧ w2.heap.size ≤ wr.heap.size) (fun i _ => n - (intOf i).toNat)
              case atStart => exact ⟨0, by omega, rfl, hB, X2, by rw [midL_zero HGS.out]; exact XK, hN2, Nat.le_refl _⟩
              case round =>
                clear hB X2 XK hN2
                obtain ⟨j, hj, rfl, hB, X2, XK, hN2, hwr⟩ := hrel
                obtain ⟨wj, rfl⟩ : ∃ wj : World, wj = wr := ⟨_, rfl⟩
                rcases Nat.lt_or_ge j n with hlj | hgj
                rotate_left
                · obtain rfl : n = j := by omega
                  have hnn : ¬ ((n : Int) < (n : Int)) := by omega
                  rw [midL_end] at XK
                  have hsn : sts.length = n := hourK_len hyes.out
                  have hon : (orL g.stuck s.stuck n).length = n := by simp [orL]
                  obtain ⟨bV, cV, rfl, hcV, -⟩ := id hN2.out
                  have hz3 := X2.lt
                  have hnext : Hid (x.playK l (k2 + 1) = some ⟨sts, orL g.stuck s.stuck n, if g.bad = 0 then x.badT sts (orL g.stuck s.stuck n) else g.bad⟩) := Lib.hid (by rw [Cs.playK, hP.out, Option.bind_some, Cs.playStep, hR.out.plants, HGD.out, hyes.out, Option.map_some])
                  by_cases hb0 : g.bad = 0
                  · have hbb : (g.bad == 0) = true := by simp [hb0]
                    rw [if_pos hb0] at hnext
                    have HB0 := Lib.hid hb0
                    clear hb0
                    have X2c0 : wj.cell? ⟨w.heap.size, 0, none⟩ = some (.slice Ap n kp) := X2.cell 0
                    have X2c1 : wj.cell? ⟨w.heap.size, 1, none⟩ = some (.slice Ac n kc) := X2.cell 1
                    have X2c2 : wj.cell? ⟨w.heap.size, 2, none⟩ = some (.slice Ab n kb) := X2.cell 2
                    have hbs1 := box_bools XK (by rw [hon]; simp only [maxLen]; omega)
                    rw [hon] at hbs1
                    have hst1 := hN2.out.at
                    rw [hsn] at hst1 ⊢
                    have HB1 := Lib.hid hbs1
                    have HS1 := Lib.hid hst1
                    clear hbs1 hst1
                    go_wp2_with fail
                    refine (rFirstBad_is x sts (orL g.stuck s.stuck n) Ap Ac Ab (some ⟨bV, 0, none⟩) (some ⟨Kb, 0, none⟩) n kp kc kb cV n wj hn8 (Lib.hid hR.out.plants) (Lib.hid hsn) (Lib.hid hon) (Lib.hid ((hx.out.plants.below hB).more hB.size)) HS1 HB1 _ (Lib.hid rfl)).mono ?_
                    rintro e wl ⟨rfl, hb⟩
                    clear X2c0 X2c1 X2c2
                    go_wp2
                    refine ⟨⟨k2 + 1, ⟨sts, orL g.stuck s.stuck n, x.badT sts (orL g.stuck s.stuck n)⟩, by omega, by go_num, rfl, hB.trans (hb.mono hB.size), X2.later hb, XK.later hb, hnext, ?_⟩, by simp [intOf]; omega⟩
                    have := hN2.out.later hb
                    rw [hsn] at this
                    exact Lib.hid this
                  · have hbb : (g.bad == 0) = false := by simp [hb0]
                    rw [if_neg hb0] at hnext
                    rw [hsn]
                    go_wp2
                    refine ⟨⟨k2 + 1, ⟨sts, orL g.stuck s.stuck n, g.bad⟩, by omega, by go_num, rfl, hB, X2, XK, hnext, ?_⟩, by simp [intOf]; omega⟩
                    have := hN2.out
                    rw [hsn] at this
                    exact Lib.hid this
                have hlj2 : (j : Int) < (n : Int) := by omega
                have hjs : j < s.stuck.length := by rw [HSL.out.2]; exact hlj
                obtain ⟨bk, ok, rfl, hbk, k0⟩ := HK0.out.at hjs
                obtain ⟨u, hu⟩ : ∃ u, s.stuck[j] = u := ⟨_, rfl⟩
                rw [hu] at k0
                have HU : Hid (s.stuck.getD j false = u) := Lib.hid ((getD_at hjs).trans hu)
                clear hu
                have k0 := (hB.cell hbk).trans k0
                have c2 := (hB.cell hglz).trans C2.out
                have kz := Nat.lt_of_lt_of_le hbk hB.size
                have gz := Nat.lt_of_lt_of_le hglz hB.size
                obtain ⟨q, hq⟩ : ∃ q, Hid (g.stuck.getD j false = q) := ⟨_, rfl⟩
                have b0 : wj.cell? ⟨Kb, j, none⟩ = some (.bool q) := by rw [XK.cell, midL_at hlj, hq.out]
                have b1 := XK.free j
                have bz := XK.lt
                have hset := midL_set (a := g.stuck) (b := s.stuck) hlj
                rw [hq.out, HU.out] at hset
                have HSET := Lib.hid hset
                clear hset
                cases q <;> cases u
                · have XK2 := XK.set j (.bool false)
                  have hs2 : ((midL g.stuck s.stuck n j).map Value.bool).set j (.bool false) = (midL g.stuck s.stuck n (j + 1)).map Value.bool := HSET.out
                  rw [hs2] at XK2
                  have X22 := X2.other (a := ⟨Kb, j, none⟩) (by dsimp only; omega) (.bool false)
                  have hN3 := Lib.hid (hN2.out.set j (.bool false))
                  have hB3 := hB.setCell (p := ⟨Kb, j, none⟩) (by dsimp only; omega) (.bool false)
                  clear hs2
                  go_wp2
                  exact ⟨⟨j + 1, by omega, by go_num, hB3, X22, XK2, hN3, by simpa using hwr⟩, by simp [intOf]; omega⟩
                · have XK2 := XK.set j (.bool true)
                  have hs2 : ((midL g.stuck s.stuck n j).map Value.bool).set j (.bool true) = (midL g.stuck s.stuck n (j + 1)).map Value.bool := HSET.out
                  rw [hs2] at XK2
                  have X22 := X2.other (a := ⟨Kb, j, none⟩) (by dsimp only; omega) (.bool true)
                  have hN3 := Lib.hid (hN2.out.set j (.bool true))
                  have hB3 := hB.setCell (p := ⟨Kb, j, none⟩) (by dsimp only; omega) (.bool true)
                  clear hs2
                  go_wp2
                  exact ⟨⟨j + 1, by omega, by go_num, hB3, X22, XK2, hN3, by simpa using hwr⟩, by simp [intOf]; omega⟩
                · have XK2 := XK.set j (.bool true)
                  have hs2 : ((midL g.stuck s.stuck n j).map Value.bool).set j (.bool true) = (midL g.stuck s.stuck n (j + 1)).map Value.bool := HSET.out
                  rw [hs2] at XK2
                  have X22 := X2.other (a := ⟨Kb, j, none⟩) (by dsimp only; omega) (.bool true)
                  have hN3 := Lib.hid (hN2.out.set j (.bool true))
                  have hB3 := hB.setCell (p := ⟨Kb, j, none⟩) (by dsimp only; omega) (.bool true)
                  clear hs2
                  go_wp2
                  exact ⟨⟨j + 1, by omega, by go_num, hB3, X22, XK2, hN3, by simpa using hwr⟩, by simp [intOf]; omega⟩
                · have XK2 := XK.set j (.bool true)
                  have hs2 : ((midL g.stuck s.stuck n j).map Value.bool).set j (.bool true) = (midL g.stuck s.stuck n (j + 1)).map Value.bool := HSET.out
                  rw [hs2] at XK2
                  have X22 := X2.other (a := ⟨Kb, j, none⟩) (by dsimp only; omega) (.bool true)
                  have hN3 := Lib.hid (hN2.out.set j (.bool true))
                  have hB3 := hB.setCell (p := ⟨Kb, j, none⟩) (by dsimp only; omega) (.bool true)
                  clear hs2
                  go_wp2
                  exact ⟨⟨j + 1, by omega, by go_num, hB3, X22, XK2, hN3, by simpa using hwr⟩, by simp [intOf]; omega⟩
        have hlj2 : (j : Int) < (n : Int) := by omega
        have hjp : j < x.plants.length := by rw [hR.out.plants]; exact hlj
        obtain ⟨bp, op, rfl, hbp, p0, p1, p2, p3, p4, p5, p6, p7, p8, p9, p10, p11⟩ := hx.out.plants.cells12 hjp
        have hck := (hR.out.gate j hlj).1
        rw [getD_at hjp] at hck
        have hbs := begins_succ hjp
        have hbl : (x.begins.take j).length = j := by rw [List.length_take, begins_len, hR.out.plants]; omega
        obtain ⟨p, hp⟩ : ∃ p, x.plants[j] = p := ⟨_, rfl⟩
        rw [hp] at p0 p1 p2 p3 p4 p5 p6 p7 p8 p9 p10 p11 hck hbs
        obtain ⟨t, et, hbt⟩ : ∃ t et, Hid (p.beginT = (t, et)) := ⟨_, _, Lib.hid rfl⟩
        have het := begin_ok hck
        rw [hbt.out] at het hbs
        dsimp only at het hbs
        subst het
        have HBS := Lib.hid hbs
        clear hbs hck hp
        have p0 := (hB.cell hbp).trans p0
        have p1 := (hB.cell hbp).trans p1
        have p2 := (hB.cell hbp).trans p2
        have p3 := (hB.cell hbp).trans p3
        have p4 := (hB.cell hbp).trans p4
        have p5 := (hB.cell hbp).trans p5
        have p6 := (hB.cell hbp).trans p6
        have p7 := (hB.cell hbp).trans p7
        have p8 := (hB.cell hbp).trans p8
        have p9 := (hB.cell hbp).trans p9
        have p10 := (hB.cell hbp).trans p10
        have p11 := (hB.cell hbp).trans p11
        have hbpz := Nat.lt_of_lt_of_le hbp hB.size
        have x20 : wi.cell? ⟨w.heap.size, 0, none⟩ = some (.slice (some ⟨bp, op, none⟩) n kp) := X2.cell 0
        go_wp2_with fail
        refine (rbegin_is hbt).mono ?_
        rintro e wb ⟨rfl, hb1⟩
        clear p0 p1 p2 p3 p4 p5 p6 p7 p8 p9 p10 p11 hbpz x20
        go_upto_region 16 with fail
        have hb3 := hb1.alloc hb1.size (.cells #[.int .i64 t.level, .int .i64 t.position, .int .i64 t.p0, .int .i64 t.p1, .int .i64 t.order, .int .i64 t.age] 51)
        have X11 := Box.new wb [.int .i64 t.level, .int .i64 t.position, .int .i64 t.p0, .int .i64 t.p1, .int .i64 t.order, .int .i64 t.age] 51
        have hYz := hb1.size
        clear hb1
        generalize wb.alloc (.cells #[.int .i64 t.level, .int .i64 t.position, .int .i64 t.p0, .int .i64 t.p1, .int .i64 t.order, .int .i64 t.age] 51) = W at hb3 X11 ⊢
        generalize wb.heap.size = Y11 at X11 hYz ⊢
        have hbS := (Below.refl W.heap.size W).alloc (Nat.le_refl _) (.cells #[.int .i64 t.level, .int .i64 t.position, .int .i64 t.p0, .int .i64 t.p1, .int .i64 t.order, .int .i64 t.age] 51)
        have XN := Box.new W [.int .i64 t.level, .int .i64 t.position, .int .i64 t.p0, .int .i64 t.p1, .int .i64 t.order, .int .i64 t.age] 51
        have hO3 := (hO.out.later hb3).later hbS
        have hW3 := hb3.size
        obtain ⟨g', c', w', hr, hO4, hgr⟩ := run_appE E (fun _ => rfl) st_one (by omega) t 35 hO3 XN (by have := hbS.size; omega) (by rw [hbl]; omega)
        rw [← HBS.out] at hO4
        rw [hbl] at hO4 hr
        have hB1 := (hB.trans (hb3.mono hB.size)).trans (hbS.mono (Nat.le_trans hB.size hW3))
        have hB2 := OwnE.grown hO3 hgr (by omega) hB1 hB1.size
        have X22 := box_grown hO3 hgr ((X2.later hb3).later hbS) (by omega)
        have HO4 := Lib.hid hO4
        clear hO4 hgr hO3 hbS XN hB1
        have X11c0 : W.cell? ⟨Y11, 0, none⟩ = some (.int .i64 t.level) := X11.cell 0
        have X11c1 : W.cell? ⟨Y11, 1, none⟩ = some (.int .i64 t.position) := X11.cell 1
        have X11c2 : W.cell? ⟨Y11, 2, none⟩ = some (.int .i64 t.p0) := X11.cell 2
        have X11c3 : W.cell? ⟨Y11, 3, none⟩ = some (.int .i64 t.p1) := X11.cell 3
        have X11c4 : W.cell? ⟨Y11, 4, none⟩ = some (.int .i64 t.order) := X11.cell 4
        have X11c5 : W.cell? ⟨Y11, 5, none⟩ = some (.int .i64 t.age) := X11.cell 5
        have z11 := X11.lt
        go_wp2
        exact ⟨⟨j + 1, by omega, by go_num, hB2, X22, HO4⟩, by simp [intOf]; omega⟩
    have hlm : (k : Int) < (m : Int) := by omega
    have hkl : k < l.length := by rw [hm.out]; exact hlt
    obtain ⟨g, off, M, K, rfl, hg, c0, c1, c2, hM, hK⟩ := hl.out.step hkl
    have hbad := steps_bad (x := x) hkl
    obtain ⟨s, hs⟩ : ∃ s, l[k] = s := ⟨_, rfl⟩
    rw [hs] at c0 hbad hM hK
    have HS := Lib.hid hs
    obtain ⟨t, ht⟩ : ∃ t, Hid (x.stepB s = t) := ⟨_, Lib.hid rfl⟩
    clear hs
    obtain ⟨a1, k1, rfl, -⟩ := hM.form
    obtain ⟨a2, k2, rfl, -⟩ := hK.form
    have c0 := (hB.cell hg).trans c0
    have c1 := (hB.cell hg).trans c1
    have c2 := (hB.cell hg).trans c2
    have hgz := Nat.lt_of_lt_of_le hg hB.size
    have HM := Lib.hid ((hM.below hB).more hB.size)
    have HK := Lib.hid ((hK.below hB).more hB.size)
    have HPL := Lib.hid ((hx.out.plants.below hB).more hB.size)
    have HBAD := Lib.hid hbad
    obtain ⟨ms, hms⟩ : ∃ q, s.msgs.length = q := ⟨_, rfl⟩
    obtain ⟨ks, hks⟩ : ∃ q, s.stuck.length = q := ⟨_, rfl⟩
    rw [hms] at c1 HM
    rw [hks] at c2 HK
    have z2 := X2.lt
    have u0 : ∀ z : Later wo, z.w.cell? ⟨w.heap.size, 0, none⟩ = some (.slice Ap n kp) := Later.cell (X2.cell 0) z2
    have u1 : ∀ z : Later wo, z.w.cell? ⟨w.heap.size, 1, none⟩ = some (.slice Ac n kc) := Later.cell (X2.cell 1) z2
    have u2 : ∀ z : Later wo, z.w.cell? ⟨w.heap.size, 2, none⟩ = some (.slice Ab n kb) := Later.cell (X2.cell 2) z2
    have v0 : ∀ z : Later wo, z.w.cell? ⟨g, off + k * 3, none⟩ = some (.int .i64 s.feed) := Later.cell c0 hgz
    have v1 : ∀ z : Later wo, z.w.cell? ⟨g, off + k * 3 + 1, none⟩ = some (.slice a1 ms k1) := Later.cell c1 hgz
    have v2 : ∀ z : Later wo, z.w.cell? ⟨g, off + k * 3 + 2, none⟩ = some (.slice a2 ks k2) := Later.cell c2 hgz
    have hz : ∀ z : Later wo, Calls Try.prog 42 #[.agg #[.slice Ap n kp, .slice Ac n kc, .slice Ab n kb], .agg #[.int .i64 s.feed, .slice a1 ms k1, .slice a2 ks k2]] z.w (fun e w' => e = .returned (.bool t) ∧ Below z.w.heap.size z.w w') :=
      fun z => rValid_is x Ap Ac Ab n kp kc kb s.feed (.slice a1 ms k1) (.slice a2 ks k2) s z.w hR (Lib.hid ((HPL.out.below z.below).more z.below.size)) rfl (Lib.hid ((HM.out.below z.below).more z.below.size)) (Lib.hid ((HK.out.below z.below).more z.below.size)) t ht
    clear hbad hms hks c0 c1 c2 hM hK
    go_upto_region 9 with fail
    refine wp_region_later (by kernel_rfl) (by kernel_rfl) ?_
    repeat (first | go_big_quiet_skip | (show wpQuiet _ _ _ _ (_ :: _) _; go_big_quiet_want; go_big_quiet_op; first | go_big_quiet_on | go_big_quiet_call ((go_at_call 42; exact Later.call _ (hz _)))))
    refine wpQuiet_nil ?_
    intro _ hw'
    obtain ⟨yq, hw''⟩ := hw'
    subst hw''
    have hB := hB.trans (yq.below.mono hB.size)
    have X2 := X2.later yq.below
    clear u0 u1 u2 v0 v1 v2 hz
    generalize yq.w = wq at hB X2 ⊢
    cases t with
    | false =>
      have hr := hT.out.symm.trans (playT_arg (right_zero hR.out) (by rw [hm.out]; exact hm4) (HBAD.out ht.out))
      have HR := Lib.hid hr
      clear hr
      go_wp2
      refine bodyPost_ret (results_t3 Try.results16 _) rfl ?_
      obtain rfl := HR.out
      exact playPost_err hB
    | true =>
      go_wp2
      refine ⟨⟨k + 1, by omega, by go_num, hB, X2, Lib.hid (fun j hj hjk => ?_)⟩, by simp [intOf]; omega⟩
      rcases Nat.lt_or_ge j k with h | h
      · exact hall.out j hj h
      · obtain rfl : j = k := by omega
        rw [HS.out]
        exact ht.out
theorem rPlay_is {x : Cs} {l : List Sp} {Vp Vc Vb Vl : Value} {w : World} {r : List St × Int × Int} (hT : Hid (x.playT l = r)) (hx : CsAt w w.heap.size Vp Vc Vb x) (hl : StepsAt w w.heap.size Vl l) : Calls Try.prog 16 #[.agg #[Vp, Vc, Vb], Vl] w (PlayPost r w) := by
  by_cases h0 : x.checkT = 0
  · have hR := cs_right h0
    obtain ⟨Ap, kp, rfl, -⟩ := hx.plants.form
    obtain ⟨Ac, kc, rfl, -⟩ := hx.codes.form
    obtain ⟨Ab, kb, rfl, -⟩ := hx.bars.form
    obtain ⟨Al, kl, rfl, hm⟩ := hl.form
    rw [hR.codes, hR.bars] at hx ⊢
    by_cases h1 : l.length ≤ 4096
    · exact rPlay_main x l Ap Ac Ab Al _ _ kp kc kb kl w (Lib.hid hR) (Lib.hid hx) (Lib.hid hl) (Lib.hid rfl) h1 r hT
    · have hr : r = ([], 0, 2) := by rw [← hT.out, Cs.playT, if_pos h0, if_neg h1]
      subst hr
      unfold maxLen at hm
      exact rPlay_long x Ap Ac Ab Al _ _ kp kc kb kl w (Lib.hid hR) (Lib.hid hx) (by omega) (by omega)
  · have hr : r = ([], 0, x.checkT) := by rw [← hT.out, Cs.playT, if_neg h0]
    subst hr
    exact rPlay_bad x Vp Vc Vb Vl w x.checkT (Lib.hid rfl) h0 (Lib.hid hx)
end Go.Proofs.Ytcjcjkomcolgeaa
