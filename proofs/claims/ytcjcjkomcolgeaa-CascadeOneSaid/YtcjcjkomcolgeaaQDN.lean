/- look of cascade: the first gate that is not safe. (Printed by pp.py.) No condition. -/
import Derived.Test.YtcjcjkomcolgeaaQDM
import Derived.Test.YtcjcjkomcolgeaaQKD
set_option linter.unusedVariables false
set_option linter.unusedSimpArgs false
namespace Go.Proofs.Ytcjcjkomcolgeaa
open Go.RowKit Go.Shelf
attribute [local go_sem] Oper.semAt_some

def Cs.lookK (x : Cs) (sts : List St) (stuck : List Bool) (bad : Int) (k : Nat) : Int :=
  if bad > 0 then bad else match (List.range k).find? (x.badAt sts stuck) with
  | some i => (i : Int) + 1
  | none => bad
theorem lookK_zero {x : Cs} {sts : List St} {stuck : List Bool} {bad : Int} : x.lookK sts stuck bad 0 = bad := by
  unfold Cs.lookK
  split <;> rfl
theorem lookK_stay {x : Cs} {sts : List St} {stuck : List Bool} {bad : Int} {k m : Nat} (hkm : k ≤ m) (h : x.lookK sts stuck bad k > 0) : x.lookK sts stuck bad m = x.lookK sts stuck bad k := by
  unfold Cs.lookK at h ⊢
  split
  · rfl
  · rename_i hb
    rw [if_neg hb] at h
    cases hf : (List.range k).find? (x.badAt sts stuck) with
    | none =>
      rw [hf] at h
      exact absurd h hb
    | some i =>
      have : (List.range m).find? (x.badAt sts stuck) = some i := by
        rw [show List.range m = List.range k ++ (List.range m).drop k by
          conv => lhs; rw [← List.take_append_drop k (List.range m)]
          rw [List.take_range, Nat.min_eq_left hkm], List.find?_append, hf]
        rfl
      rw [this]
theorem lookK_next {x : Cs} {sts : List St} {stuck : List Bool} {bad : Int} {k : Nat} (h : ¬ x.lookK sts stuck bad k > 0) : x.lookK sts stuck bad (k + 1) = if x.badAt sts stuck k = true then (k : Int) + 1 else x.lookK sts stuck bad k := by
  unfold Cs.lookK at h ⊢
  split
  · rename_i hb
    rw [if_pos hb] at h
    exact absurd hb h
  · rename_i hb
    rw [if_neg hb] at h
    cases hf : (List.range k).find? (x.badAt sts stuck) with
    | some i =>
      rw [hf] at h
      dsimp only at h
      omega
    | none =>
      rw [List.range_succ, List.find?_append, hf]
      dsimp only [Option.none_or]
      rw [List.find?_cons]
      cases hb : x.badAt sts stuck k <;> simp
theorem KeepsC.cell {D : Nat} {R : Nat → Prop} {A B : World} (h : KeepsC D R A B) {a : Addr} {v : Value} (hr : ¬ R a.block) (hc : A.cell? a = some v) : B.cell? a = some v := by
  cases ho : A.heap[a.block]? with
  | none => unfold World.cell? at hc; rw [ho] at hc; cases hc
  | some o =>
    cases o with
    | cells c e f =>
      have := h.cells _ _ hr ho rfl
      unfold World.cell? at hc ⊢
      rw [ho] at hc
      rw [this]
      exact hc
    | _ => unfold World.cell? at hc; rw [ho] at hc; cases hc
theorem lt_of_cell {w : World} {a : Addr} {v : Value} (h : w.cell? a = some v) : a.block < w.heap.size := by
  unfold World.cell? at h
  cases ho : w.heap[a.block]? with
  | none => rw [ho] at h; cases h
  | some o => exact (Array.getElem?_eq_some_iff.1 ho).1
structure GameAt (w : World) (D G : Nat) (x : Cs) (n : Nat) (sts : List St) (stuck : List Bool) (Ap : Option Addr) (kp sg so kb ko : Nat) : Prop where
  n8 : n ≤ 8
  plants : PlsAt w D (.slice Ap n kp) x.plants
  pn : x.plants.length = n
  DG : D ≤ G
  sts : ∀ k, k < n → ∀ j, j < 6 → w.cell? ⟨sg, so + k * 6 + j, none⟩ = (sts.getD k St.zero).cells[j]?
  sg : sg ≠ G
  stuck : ∀ k, k < n → w.cell? ⟨kb, ko + k, none⟩ = some (.bool (stuck.getD k false))
  kb : kb ≠ G
theorem GameAt.keeps {w w' : World} {D G n : Nat} {x : Cs} {sts : List St} {stuck : List Bool} {Ap : Option Addr} {kp sg so kb ko : Nat} (h : GameAt w D G x n sts stuck Ap kp sg so kb ko) (hk : KeepsC D (fun b => b = G) w w') : GameAt w' D G x n sts stuck Ap kp sg so kb ko :=
  ⟨h.n8, h.plants.below hk.low, h.pn, h.DG, fun k hk1 j hj => by
    have h1 := h.sts k hk1 j hj
    obtain ⟨v, hv⟩ : ∃ v, (sts.getD k St.zero).cells[j]? = some v := ⟨_, List.getElem?_eq_getElem hj⟩
    rw [hv] at h1 ⊢
    exact hk.cell h.sg h1, h.sg, fun k hk1 => hk.cell h.kb (h.stuck k hk1), h.kb⟩
structure KG (D G : Nat) (w W : World) : Prop where
  keeps : KeepsC D (fun b => b = G) w W
  oth : ∀ b, b < w.heap.size → b ≠ G → W.heap[b]? = w.heap[b]?
theorem KG.of {D G : Nat} {w W : World} (h : Below w.heap.size w W) (hD : D ≤ w.heap.size) : KG D G w W := ⟨KeepsC.of h hD, fun b hb _ => h.block b hb⟩
theorem KG.under {D G n : Nat} {w A B : World} (h : KG D G w A) (hb : Below n A B) (hn : w.heap.size ≤ n) (hD : D ≤ n) : KG D G w B := ⟨h.keeps.under hb hn hD, fun b h1 h2 => (hb.block b (by omega)).trans (h.oth b h1 h2)⟩
theorem KG.put {D G l : Nat} {w A : World} {o : Obj} (h : KG D G w A) (hl : A.heap[l]? = some o) (hc : o.isCells = false) (hn : w.heap.size ≤ l) (hD : D ≤ l) (o' : Obj) : KG D G w (A.putObj l o') :=
  ⟨h.keeps.trans (KeepsC.put hl hc hD o'), fun b h1 h2 => (World.putObj_heap_other (by omega)).trans (h.oth b h1 h2)⟩
theorem KG.set {D G : Nat} {w A : World} (h : KG D G w A) (hDG : D ≤ G) (o : Nat) (v : Value) : KG D G w (A.setCell ⟨G, o, none⟩ v) :=
  ⟨h.keeps.trans (KeepsC.set (R := fun b => b = G) A (a := ⟨G, o, none⟩) hDG rfl v), fun b h1 h2 => (Below.heap_setCell A _ v b h2).trans (h.oth b h1 h2)⟩
abbrev gameC (Ap : Option Addr) (n kp : Nat) (Vc Vb : Value) (sg so sc kb ko kc : Nat) (bad : Int) : List Value := gameL (.slice Ap n kp) Vc Vb (.slice (some ⟨sg, so, none⟩) n sc) (.slice (some ⟨kb, ko, none⟩) n kc) bad
set_option maxRecDepth 100000 in
set_option maxHeartbeats 4000000 in
theorem mLook_is (x : Cs) (n : Nat) (sts : List St) (stuck : List Bool) (Ap : Option Addr) (Vc Vb : Value) (kp sg so sc kb ko kc D G : Nat) (bad : Int) (w : World) (hg : Box w G (gameC Ap n kp Vc Vb sg so sc kb ko kc bad)) (hx : Hid (GameAt w D G x n sts stuck Ap kp sg so kb ko)) :
    Calls Try.prog 40 #[.pointer (some ⟨G, 0, none⟩)] w fun e w' =>
    e = .returned (.tuple #[]) ∧ Box w' G (gameC Ap n kp Vc Vb sg so sc kb ko kc (x.lookK sts stuck bad n)) ∧ KG D G w w' := by
  obtain ⟨fin, hfin⟩ : ∃ fin, Hid (x.lookK sts stuck bad n = fin) := ⟨_, rfl⟩
  rw [hfin.out]
  have hn8 := hx.out.n8
  have hDG := hx.out.DG
  have hgz := hg.lt
  refine calls_of_wp_marks Try.func40 rfl ?_
  simp only [Try.ntmps40, List.size_toArray, List.length_cons, List.length_nil, Nat.reduceAdd, Nat.reduceSub, Array.replicate_succ, Array.replicate_zero, List.push_toArray, List.append_toArray, List.nil_append, List.cons_append]
  go_wp2_with fail
  have X0 := Box.new w [.pointer (some ⟨G, 0, none⟩)] 85
  have hB := (Below.refl w.heap.size w).alloc (Nat.le_refl _) (.cells #[.pointer (some ⟨G, 0, none⟩)] 85)
  have hg1 := hg.later hB
  generalize w.alloc (.cells #[.pointer (some ⟨G, 0, none⟩)] 85) = w1 at X0 hB hg1 ⊢
  refine (mGates_any G w1).mono ?_
  rintro e w2 ⟨rfl, Xg, hb⟩
  have X0 := X0.later hb
  have hg2 := hg1.later hb
  have hs1 := hB.size
  have hXg := Xg.lt
  have hX0 := X0.lt
  have hB := hB.trans (hb.mono hB.size)
  clear hb hg1
  generalize w1.heap.size = Bg at Xg hs1 hXg ⊢
  go_wp2_with fail
  have hI0 : KG D G w w2 := KG.of hB (by omega)
  have hsz := hB.size
  refine wpIn_wide.1 (wpIn_rangeK_out (n := 6) rfl (by omega) (gf := 86) (lb := #[.pointer (some ⟨Bg, 0, none⟩)]) rfl trivial (enters_of Try.func86 (by kernel_rfl) rfl)
    (Kp := fun A B => KeepsC D (fun b => b = G) A B ∧ ((∃ bad, Box A G (gameC Ap n kp Vc Vb sg so sc kb ko kc bad)) → ∃ bad, Box B G (gameC Ap n kp Vc Vb sg so sc kb ko kc bad)))
    (fun A B C h1 h2 => ⟨h1.1.trans h2.1, fun h => h2.2 (h1.2 h)⟩)
    (fun W l o o' hl ho hc => ⟨KeepsC.put ho hc (by omega) _, fun ⟨bd, hbd⟩ => ⟨bd, hbd.record ho hc _⟩⟩)
    (gates_seq 5 n sg so sc (.slice Ap n kp) Vc Vb (.slice (some ⟨kb, ko, none⟩) n kc) G Bg w2 D (fun b => b = G) hn8 ⟨_, hg2⟩ Xg (by omega) _ (fun _ _ h => h)) (Below.refl _ _) (fun _ => rfl)
    (fun pre W => w2.heap.size ≤ W.heap.size ∧ KG D G w W ∧ Box W w.heap.size [.pointer (some ⟨G, 0, none⟩)] ∧ ∃ b', Hid (x.lookK sts stuck bad pre.length = b') ∧ Box W G (gameC Ap n kp Vc Vb sg so sc kb ko kc b'))
    (fun cc pre W => cc = .ret ∧ KG D G w W ∧ ∃ k b', k ≤ n ∧ b' > 0 ∧ Hid (x.lookK sts stuck bad k = b') ∧ Box W G (gameC Ap n kp Vc Vb sg so sc kb ko kc b'))
    ?hI ?hIx ?h0
    (fun pre k a' W => w2.heap.size ≤ W.heap.size ∧ k < n ∧ pre = gateL k ∧ KG D G w W ∧ Box W w.heap.size [.pointer (some ⟨G, 0, none⟩)] ∧ (∃ b', Hid (x.lookK sts stuck bad k = b') ∧ Box W G (gameC Ap n kp Vc Vb sg so sc kb ko kc b')) ∧ a' = { tmps := #[.pointer (some ⟨G, 0, none⟩), .pointer (some ⟨w.heap.size, 0, none⟩), .int .i64 k, .pointer (some ⟨sg, so + k * 6, none⟩), undef, undef, .pointer (some ⟨G, 0, none⟩), .func (.func 86) #[] #[.pointer (some ⟨Bg, 0, none⟩)], .int .i64 k, .pointer (some ⟨sg, so + k * 6, none⟩), undef, undef, undef, undef, undef, undef, undef, undef, undef, undef, undef, undef, undef, undef, undef, undef, undef, undef, undef, undef, undef, undef, undef, undef, undef, undef, undef, undef, undef, undef, undef, undef, undef, undef, undef, undef, undef], defers := [] })
    ?hAx ?assign ?body ?done ?stop)
  case hI =>
    rintro pre A B ⟨h1, h2, h3, b', h4, h5⟩ hb
    exact ⟨Nat.le_trans h1 hb.size, h2.under hb hsz (by omega), h3.under hb hX0, b', h4, h5.under hb (by omega)⟩
  case hIx =>
    rintro cc pre A B ⟨rfl, h1, k, b', h2, h3, h4, h5⟩ hb
    exact ⟨rfl, h1.under hb hsz (by omega), k, b', h2, h3, h4, h5.under hb (by omega)⟩
  case h0 => exact ⟨Nat.le_refl _, hI0, X0, bad, Lib.hid lookK_zero, hg2⟩
  case hAx =>
    rintro pre k a' A l o o' hl ho hc ⟨h1, h2, h3, h4, h5, ⟨b', h6, h7⟩, rfl⟩
    refine ⟨by simpa using h1, h2, h3, ?_, h5.record ho hc _, ⟨b', h6, h7.record ho hc _⟩, rfl⟩
    exact h4.put ho hc (by omega) (by omega) _
  case assign =>
    rintro l pre k W K ⟨h0, h1, h2, b', h3, h4⟩ ⟨rfl, hkn⟩ hK
    rw [gateL, List.length_range] at h3
    gi_wp2
    exact hK _ _ (kfOf (Below.refl _ _)) ⟨KeepsC.refl _ _ _, fun h => h⟩ ⟨h0, hkn, by trivial, h1, h2, ⟨b', h3, h4⟩, rfl⟩
  case body =>
    rintro l pre k a' W hl ⟨r0, hr0⟩ ⟨hsW, hkn, rfl, hKw, X0W, ⟨b', hL, hgW⟩, rfl⟩
    have hlt0 : l < W.heap.size := (Array.getElem?_eq_some_iff.1 hr0).1
    have hX := hx.out.keeps hKw.keeps
    have hdf : (k : Int) < (n : Int) := by omega
    have hkp : k < x.plants.length := by rw [hX.pn]; exact hkn
    obtain ⟨bp, op, rfl, hbp, p0, p1, p2, p3, p4, p5, p6, p7, p8, p9, p10, p11⟩ := hX.plants.cells12 hkp
    have hst := hX.sts k hkn
    have hsk := hX.stuck k hkn
    have HX := Lib.hid hX
    clear hX
    obtain ⟨p, hpe⟩ : ∃ p, x.plants[k] = p := ⟨_, rfl⟩
    obtain ⟨t, hte⟩ : ∃ t, sts.getD k St.zero = t := ⟨_, rfl⟩
    obtain ⟨u, hue⟩ : ∃ u, stuck.getD k false = u := ⟨_, rfl⟩
    have HBA : Hid (x.badAt sts stuck k = (!p.safeB t && !u)) := by
      refine Lib.hid ?_
      rw [Cs.badAt, getD_at hkp, hpe, hte, hue]
    rw [hpe] at p0 p1 p2 p3 p4 p5 p6 p7 p8 p9 p10 p11
    rw [hte] at hst
    rw [hue] at hsk
    clear hpe hte hue
    obtain ⟨t0, t1, t2, t3, t4, t5⟩ := t
    have s0 : W.cell? ⟨sg, so + k * 6, none⟩ = some (.int .i64 t0) := hst 0 (by omega)
    have s1 : W.cell? ⟨sg, so + k * 6 + 1, none⟩ = some (.int .i64 t1) := hst 1 (by omega)
    have s2 : W.cell? ⟨sg, so + k * 6 + 2, none⟩ = some (.int .i64 t2) := hst 2 (by omega)
    have s3 : W.cell? ⟨sg, so + k * 6 + 3, none⟩ = some (.int .i64 t3) := hst 3 (by omega)
    have s4 : W.cell? ⟨sg, so + k * 6 + 4, none⟩ = some (.int .i64 t4) := hst 4 (by omega)
    have s5 : W.cell? ⟨sg, so + k * 6 + 5, none⟩ = some (.int .i64 t5) := hst 5 (by omega)
    clear hst
    obtain ⟨q, er, hs⟩ : ∃ q er, Hid (p.safeT ⟨t0, t1, t2, t3, t4, t5⟩ = (q, er)) := ⟨_, _, Lib.hid rfl⟩
    have hxz := X0W.lt
    have hgz2 := hgW.lt
    have x0 : W.cell? ⟨w.heap.size, 0, none⟩ = some (.pointer (some ⟨G, 0, none⟩)) := X0W.cell 0
    have g0 : W.cell? ⟨G, 0, none⟩ = some (.slice (some ⟨bp, op, none⟩) n kp) := hgW.cell 0
    have g4 : W.cell? ⟨G, 4, none⟩ = some (.slice (some ⟨kb, ko, none⟩) n kc) := hgW.cell 4
    have g5 : W.cell? ⟨G, 5, none⟩ = some (.int .i64 b') := hgW.cell 5
    rcases Int.lt_or_le 0 b' with hbp0 | hbp0
    · gi_wp2
      exact ⟨⟨Nat.le_refl _, fun _ _ _ h _ => h⟩, rfl, hKw, k, b', by omega, hbp0, hL, hgW⟩
    have hbn : ¬ (0 < b') := by omega
    gi_wp2_with fail
    have hd := (Below.refl W.heap.size W).drew
    have hbpz : bp < W.heap.size := by have := HX.out.DG; omega
    have hsgz : sg < W.heap.size := lt_of_cell s0
    have u0 : ∀ z : Later W, z.w.cell? ⟨w.heap.size, 0, none⟩ = some (.pointer (some ⟨G, 0, none⟩)) := Later.cell x0 hxz
    have u1 : ∀ z : Later W, z.w.cell? ⟨G, 0, none⟩ = some (.slice (some ⟨bp, op, none⟩) n kp) := Later.cell g0 hgz2
    have f0 : ∀ z : Later W, z.w.cell? ⟨bp, op + k * 12, none⟩ = some (.int .i64 p.top) := Later.cell p0 hbpz
    have f1 : ∀ z : Later W, z.w.cell? ⟨bp, op + k * 12 + 1, none⟩ = some (.int .i64 p.bank) := Later.cell p1 hbpz
    have f2 : ∀ z : Later W, z.w.cell? ⟨bp, op + k * 12 + 2, none⟩ = some (.int .i64 p.siphon) := Later.cell p2 hbpz
    have f3 : ∀ z : Later W, z.w.cell? ⟨bp, op + k * 12 + 3, none⟩ = some (.int .i64 p.start) := Later.cell p3 hbpz
    have f4 : ∀ z : Later W, z.w.cell? ⟨bp, op + k * 12 + 4, none⟩ = some (.int .i64 p.positions) := Later.cell p4 hbpz
    have f5 : ∀ z : Later W, z.w.cell? ⟨bp, op + k * 12 + 5, none⟩ = some (.int .i64 p.rate) := Later.cell p5 hbpz
    have f6 : ∀ z : Later W, z.w.cell? ⟨bp, op + k * 12 + 6, none⟩ = some (.int .i64 p.step) := Later.cell p6 hbpz
    have f7 : ∀ z : Later W, z.w.cell? ⟨bp, op + k * 12 + 7, none⟩ = some (.int .i64 p.pass) := Later.cell p7 hbpz
    have f8 : ∀ z : Later W, z.w.cell? ⟨bp, op + k * 12 + 8, none⟩ = some (.int .i64 p.feed) := Later.cell p8 hbpz
    have f9 : ∀ z : Later W, z.w.cell? ⟨bp, op + k * 12 + 9, none⟩ = some (.int .i64 p.pipe) := Later.cell p9 hbpz
    have f10 : ∀ z : Later W, z.w.cell? ⟨bp, op + k * 12 + 10, none⟩ = some (.int .i64 p.orders) := Later.cell p10 hbpz
    have f11 : ∀ z : Later W, z.w.cell? ⟨bp, op + k * 12 + 11, none⟩ = some (.int .i64 p.age) := Later.cell p11 hbpz
    have v0 : ∀ z : Later W, z.w.cell? ⟨sg, so + k * 6, none⟩ = some (.int .i64 t0) := Later.cell s0 hsgz
    have v1 : ∀ z : Later W, z.w.cell? ⟨sg, so + k * 6 + 1, none⟩ = some (.int .i64 t1) := Later.cell s1 hsgz
    have v2 : ∀ z : Later W, z.w.cell? ⟨sg, so + k * 6 + 2, none⟩ = some (.int .i64 t2) := Later.cell s2 hsgz
    have v3 : ∀ z : Later W, z.w.cell? ⟨sg, so + k * 6 + 3, none⟩ = some (.int .i64 t3) := Later.cell s3 hsgz
    have v4 : ∀ z : Later W, z.w.cell? ⟨sg, so + k * 6 + 4, none⟩ = some (.int .i64 t4) := Later.cell s4 hsgz
    have v5 : ∀ z : Later W, z.w.cell? ⟨sg, so + k * 6 + 5, none⟩ = some (.int .i64 t5) := Later.cell s5 hsgz
    have hz : Calls Try.prog 19 #[.agg #[.int .i64 p.top, .int .i64 p.bank, .int .i64 p.siphon, .int .i64 p.start, .int .i64 p.positions, .int .i64 p.rate, .int .i64 p.step, .int .i64 p.pass, .int .i64 p.feed, .int .i64 p.pipe, .int .i64 p.orders, .int .i64 p.age], .agg #[.int .i64 t0, .int .i64 t1, .int .i64 t2, .int .i64 t3, .int .i64 t4, .int .i64 t5]] W.drew (fun e w' => e = .returned (.tuple #[.bool q, .int .i64 er]) ∧ Below W.heap.size W w') :=
      (safe_is (p := p) (s := ⟨t0, t1, t2, t3, t4, t5⟩) (w := W.drew) hs).mono fun _ _ h => ⟨h.1, hd.trans h.2⟩
    refine wpIn_region_heads (C := fun w' => ∃ x : Later W, w' = x.w) [0, 1, 2, 3, 4, 5, 6, 7, 8, 9, 10] (by kernel_rfl) (by kernel_rfl) (Later.mk' hd) (fun _ _ h => h) ?_
    simp only [headOps, List.filterMap_cons, List.filterMap_nil, List.getElem?_toArray, List.getElem?_cons_succ, List.getElem?_cons_zero]
    repeat (first | go_big_quiet_skip | (show wpQuiet _ _ _ _ (_ :: _) _; go_big_quiet_want; go_big_quiet_op; go_big_quiet_on))
    refine wpQuiet_nil ?_
    clear f0 f1 f2 f3 f4 f5 f6 f7 f8 f9 f10 f11 u0 u1 v0 v1 v2 v3 v4 v5
    refine anyC_callD (some 27) (n := 5) (i := 11) (by kernel_rfl) rfl rfl rfl (Later.mk' hd) ?_ (hz.mono ?_)
    · go_simp
    rintro e W2 ⟨rfl, hW2⟩
    refine ⟨_, rfl, ?_⟩
    simp only [Act.put, List.setIfInBounds_toArray, List.set_cons_zero, List.set_cons_succ]
    refine anyC_heads (by kernel_rfl) 2 W2 (Later.mk' hW2) [12, 13, 14] _ _ (by kernel_rfl) ?_
    simp only [headOps, List.filterMap_cons, List.filterMap_nil, List.getElem?_toArray, List.getElem?_cons_succ, List.getElem?_cons_zero]
    repeat (first | go_big_quiet_skip | (show wpQuiet _ _ _ _ (_ :: _) _; go_big_quiet_want; go_big_quiet_op; go_big_quiet_on))
    refine wpQuiet_nil ?_
    refine anyC_valD (some 4) (n := 1) (i := 15) (v := .bool q) (w' := W2) (by kernel_rfl) rfl rfl rfl (Later.mk' hW2) (by first | rfl | go_simp) ?_
    simp only [Act.put, List.setIfInBounds_toArray, List.set_cons_zero, List.set_cons_succ]
    refine anyC_valD (some 5) (n := 0) (i := 16) (v := .int .i64 er) (w' := W2) (by kernel_rfl) rfl rfl rfl (Later.mk' hW2) (by first | rfl | go_simp) ?_
    simp only [Act.put, List.setIfInBounds_toArray, List.set_cons_zero, List.set_cons_succ]
    refine anyC_done (by kernel_rfl) (Later.mk' hW2) ?_
    have hsB : p.safeB ⟨t0, t1, t2, t3, t4, t5⟩ = q := congrArg Prod.fst hs.out
    have HN : Hid (x.lookK sts stuck bad (k + 1) = if (!q && !u) = true then (k : Int) + 1 else b') := by
      refine Lib.hid ?_
      rw [lookK_next (by rw [hL.out]; omega), HBA.out, hL.out, hsB]
    have hlen : (gateL k ++ [k]).length = k + 1 := by rw [gateL, List.length_append, List.length_range]; rfl
    have HLN := Lib.hid hlen
    have hkbz : kb < W.heap.size := lt_of_cell hsk
    have sk2 : W2.cell? ⟨kb, ko + k, none⟩ = some (.bool u) := (hW2.cell hkbz).trans hsk
    have hgW2 := hgW.under hW2 hgz2
    have X02 := X0W.under hW2 hxz
    have y0 : W2.cell? ⟨w.heap.size, 0, none⟩ = some (.pointer (some ⟨G, 0, none⟩)) := X02.cell 0
    have y4 : W2.cell? ⟨G, 4, none⟩ = some (.slice (some ⟨kb, ko, none⟩) n kc) := hgW2.cell 4
    have y5 : W2.cell? ⟨G, 5, none⟩ = some (.int .i64 b') := hgW2.cell 5
    have yf : W2.frozen? ⟨G, 5, none⟩ = false := hgW2.free 5
    have zx := X02.lt
    have zg := hgW2.lt
    have hkf : KeepsFrom w2.heap.size W W2 := kfOf hW2
    have hkc : KeepsC D (fun b => b = G) W W2 := KeepsC.of hW2 (by omega)
    have hsW2 := hW2.size
    have hKw2 : KG D G w W2 := hKw.under hW2 (by omega) (by omega)
    clear hz hd hbpz hsgz x0 g0 g4 g5 p0 p1 p2 p3 p4 p5 p6 p7 p8 p9 p10 p11 s0 s1 s2 s3 s4 s5 hsk hkbz HBA hsB hlen hbn hs
    cases q with
    | true =>
      gi_wp2
      refine ⟨hkf, ⟨hkc, fun _ => ⟨b', hgW2⟩⟩, by omega, hKw2, X02, b', ?_, hgW2⟩
      rw [HLN.out]
      exact HN
    | false =>
      cases u with
      | true =>
        gi_wp2
        refine ⟨hkf, ⟨hkc, fun _ => ⟨b', hgW2⟩⟩, by omega, hKw2, X02, b', ?_, hgW2⟩
        rw [HLN.out]
        exact HN
      | false =>
        gi_wp2
        have Z := hgW2.set 5 (.int .i64 ((k : Int) + 1))
        have Z2 := X02.other (a := ⟨G, 5, none⟩) (by simp <;> omega) (.int .i64 ((k : Int) + 1))
        have hkf := hkf.trans (kfCell (D := w2.heap.size) (A := W2) (a := ⟨G, 5, none⟩) (by dsimp only; omega) (.int .i64 ((k : Int) + 1)))
        have hkc := hkc.trans (KeepsC.set (R := fun b => b = G) W2 (a := ⟨G, 5, none⟩) hDG rfl (.int .i64 ((k : Int) + 1)))
        have hKw3 := hKw2.set hDG 5 (.int .i64 ((k : Int) + 1))
        generalize W2.setCell ⟨G, 5, none⟩ (.int .i64 ((k : Int) + 1)) = W3 at Z Z2 hkf hkc hKw3 ⊢
        have hs3 := hkf.size
        refine ⟨hkf, ⟨hkc, fun _ => ⟨_, Z⟩⟩, by omega, hKw3, Z2, _, ?_, Z⟩
        rw [HLN.out]
        exact HN
  case done =>
    rintro Ed xs W hEd rfl ⟨h1, h2, h3, b', h4, h5⟩ hK
    rw [gateL, List.length_range] at h4
    obtain rfl := h4.out.symm.trans hfin.out
    have hEz := Array.getElem?_eq_some_iff.1 hK |>.1
    go_wp2
    refine ⟨by simp, .inl ⟨_, _, rfl, run_takeDeferred hK, ?_⟩⟩
    refine ⟨_, (by simp [results, Try.results40, go_sem] : _ = Result.ok (Value.tuple #[]) _), ?_⟩
    exact ⟨rfl, h5.record hK rfl _, h2.put hK rfl (by omega) (by omega) _⟩
  case stop =>
    rintro Ed cc pre W hEd hpre ⟨rfl, h1, k, b', h2, h3, h4, h5⟩ hK
    obtain rfl := ((lookK_stay h2 (by rw [h4.out]; exact h3)).trans h4.out).symm.trans hfin.out
    refine wpIn_wide.2 ?_
    have hEz := Array.getElem?_eq_some_iff.1 hK |>.1
    go_wp2
    refine ⟨by simp, .inl ⟨_, _, rfl, run_takeDeferred hK, ?_⟩⟩
    refine ⟨_, (by simp [results, Try.results40, go_sem] : _ = Result.ok (Value.tuple #[]) _), ?_⟩
    exact ⟨rfl, h5.record hK rfl _, h1.put hK rfl (by omega) (by omega) _⟩
end Go.Proofs.Ytcjcjkomcolgeaa

/-
  game.code of cascade. (Printed by pp.py.) No condition.
-/
namespace Go.Proofs.Ytcjcjkomcolgeaa
open Go.RowKit Go.Shelf

set_option maxHeartbeats 4000000 in
theorem gCode_yes (G k : Nat) (w : World) : Calls Try.prog 71 #[.pointer (some ⟨G, 0, none⟩), .int .i64 k, .bool true] w fun e w' => e = .returned (.agg #[.slice none 0 0]) ∧ Below w.heap.size w w' := by
  go_enter Try.func71, Try.ntmps71
  go_upto_region 1 with fail
  have X0 := Box.new w [.slice none 0 0] 63
  have hB := (Below.refl w.heap.size w).alloc (Nat.le_refl _) (.cells #[.slice none 0 0] 63)
  generalize w.alloc (.cells #[.slice none 0 0] 63) = w1 at X0 hB ⊢
  have c0 : w1.cell? ⟨w.heap.size, 0, none⟩ = some (.slice none 0 0) := X0.cell 0
  have f0 : w1.frozen? ⟨w.heap.size, 0, none⟩ = false := X0.free 0
  have z0 := X0.lt
  go_wp2
  have Z := X0.set 0 (.slice none 0 0)
  have hB := hB.setCell (p := ⟨w.heap.size, 0, none⟩) (by simp <;> omega) (.slice none 0 0)
  generalize w1.setCell ⟨w.heap.size, 0, none⟩ (.slice none 0 0) = w2 at Z hB ⊢
  have d0 : w2.cell? ⟨w.heap.size, 0, none⟩ = some (.slice none 0 0) := Z.cell 0
  refine bodyPost_ret (v := .agg #[.slice none 0 0]) (by simp [results, Try.results71, go_sem, d0]) rfl ?_
  exact ⟨rfl, hB⟩
set_option maxHeartbeats 4000000 in
theorem gCode_no (Vp Vb Vs Vk : Value) (Av : Option Addr) (mv cv : Nat) (bc oc n kc G k : Nat) (bad : Int) (w : World) (hn : n ≤ 8) (hk : k < n) (hg : Box w G (gameL Vp (.slice (some ⟨bc, oc, none⟩) n kc) Vb Vs Vk bad)) (hV : w.cell? ⟨bc, oc + k, none⟩ = some (.slice Av mv cv)) :
    Calls Try.prog 71 #[.pointer (some ⟨G, 0, none⟩), .int .i64 k, .bool false] w fun e w' => e = .returned (.agg #[.slice Av mv cv]) ∧ Below w.heap.size w w' := by
  have hdf : (k : Int) < (n : Int) := by omega
  go_enter Try.func71, Try.ntmps71
  go_upto_region 1 with fail
  have X0 := Box.new w [.slice none 0 0] 63
  have hB := (Below.refl w.heap.size w).alloc (Nat.le_refl _) (.cells #[.slice none 0 0] 63)
  have hg := hg.later hB
  have hV := (hB.cell (lt_of_cell hV)).trans hV
  generalize w.alloc (.cells #[.slice none 0 0] 63) = w1 at X0 hB hg hV ⊢
  have c0 : w1.cell? ⟨w.heap.size, 0, none⟩ = some (.slice none 0 0) := X0.cell 0
  have f0 : w1.frozen? ⟨w.heap.size, 0, none⟩ = false := X0.free 0
  have z0 := X0.lt
  have g1 : w1.cell? ⟨G, 1, none⟩ = some (.slice (some ⟨bc, oc, none⟩) n kc) := hg.cell 1
  go_wp2
  have Z := X0.set 0 (.slice Av mv cv)
  have hB := hB.setCell (p := ⟨w.heap.size, 0, none⟩) (by simp <;> omega) (.slice Av mv cv)
  generalize w1.setCell ⟨w.heap.size, 0, none⟩ (.slice Av mv cv) = w2 at Z hB ⊢
  have d0 : w2.cell? ⟨w.heap.size, 0, none⟩ = some (.slice Av mv cv) := Z.cell 0
  refine bodyPost_ret (v := .agg #[.slice Av mv cv]) (by simp [results, Try.results71, go_sem, d0]) rfl ?_
  exact ⟨rfl, hB⟩
end Go.Proofs.Ytcjcjkomcolgeaa
