/- hour of cascade. (Printed by pp.py.) No condition. -/
import Derived.Test.YtcjcjkomcolgeaaQDP
import Derived.Sort.CutIn
import Derived.Test.YtcjcjkomcolgeaaQKD
set_option linter.unusedVariables false
set_option linter.unusedSimpArgs false
namespace Go.Proofs.Ytcjcjkomcolgeaa
open Go.RowKit Go.Shelf
attribute [local go_sem] Oper.semAt_some

theorem KeepsC.narrow {D : Nat} {R R' : Nat → Prop} {w W : World} (h : KeepsC D R' w W) (hR : ∀ b, b < w.heap.size → R' b → R b) : KeepsC D R w W := ⟨h.low, fun b o hr ho hc => h.cells b o (fun e => hr (hR b (Array.getElem?_eq_some_iff.1 ho).1 e)) ho hc⟩
theorem HourAt.congr {w : World} {D G n : Nat} {x : Cs} {sf sf2 : Nat → St} {kf kf2 : Nat → Bool} {Ap Ac : Option Addr} {kp kc sg so kb ko : Nat} (h : HourAt w D G x n sf kf Ap Ac kp kc sg so kb ko) (h1 : ∀ k, k < n → sf k = sf2 k) (h2 : ∀ k, k < n → kf k = kf2 k) : HourAt w D G x n sf2 kf2 Ap Ac kp kc sg so kb ko :=
  ⟨h.n8, h.plants, h.pn, h.codes, h.cn, h.DG, h.Dsg, h.Dkb, h.sG, h.kG, h.sk, let ⟨L, hL, hc⟩ := h.sts; ⟨L, hL, fun k hk j hj => by rw [← h1 k hk]; exact hc k hk j hj⟩, let ⟨L, hL, hc⟩ := h.stuck; ⟨L, hL, fun k hk => by rw [← h2 k hk]; exact hc k hk⟩⟩
theorem HourAt.low {w w' : World} {D G n N : Nat} {x : Cs} {sf : Nat → St} {kf : Nat → Bool} {Ap Ac : Option Addr} {kp kc sg so kb ko : Nat} (h : HourAt w D G x n sf kf Ap Ac kp kc sg so kb ko) (hb : Below N w w') (hD : D ≤ N) (h1 : sg < N) (h2 : kb < N) : HourAt w' D G x n sf kf Ap Ac kp kc sg so kb ko :=
  ⟨h.n8, h.plants.below (hb.mono hD), h.pn, h.codes.below (hb.mono hD), h.cn, h.DG, h.Dsg, h.Dkb, h.sG, h.kG, h.sk,
    let ⟨L, hL, hc⟩ := h.sts; ⟨L, hL.under hb h1, hc⟩, let ⟨L, hL, hc⟩ := h.stuck; ⟨L, hL.under hb h2, hc⟩⟩
set_option maxRecDepth 100000 in
set_option maxHeartbeats 40000000 in
theorem mHour_is (x : Cs) (n : Nat) (sts : List St) (stuck : List Bool) (s : Sp) (Ap Ac Am Ak : Option Addr) (Vb : Value) (kp kc cm ck sg so sc kb ko kcap D G : Nat) (bad : Int) (w : World) (hR : Hid (CsRight x n)) (hs : Hid (x.hasAll n sts)) (hv : Hid (x.stepB s = true))
    (hg : Box w G (gameL (.slice Ap n kp) (.slice Ac n kc) Vb (.slice (some ⟨sg, so, none⟩) n sc) (.slice (some ⟨kb, ko, none⟩) n kcap) bad)) (hx : Hid (HourAt w D G x n (sts.getD · St.zero) (stuck.getD · false) Ap Ac kp kc sg so kb ko)) (hM : Hid (IntL w D (.slice Am n cm) s.msgs)) (hK : Hid (BoolL w D (.slice Ak n ck) s.stuck)) :
    Calls Try.prog 41 #[.pointer (some ⟨G, 0, none⟩), .agg #[.int .i64 s.feed, .slice Am n cm, .slice Ak n ck]] w fun e w' =>
    (∃ f l, Hid (x.hourK sts s n = some (f, l)) ∧ e = .returned (.tuple #[]) ∧ HourAt w' D G x n (l.getD · St.zero) ((orL stuck s.stuck n).getD · false) Ap Ac kp kc sg so kb ko ∧ Box w' G (gameL (.slice Ap n kp) (.slice Ac n kc) Vb (.slice (some ⟨sg, so, none⟩) n sc) (.slice (some ⟨kb, ko, none⟩) n kcap) (x.lookK l (orL stuck s.stuck n) bad n)) ∧ KeepsC D (fun b => b = G ∨ b = sg ∨ b = kb) w w') ∨
    (Hid (x.hourK sts s n = none) ∧ e = .panicked (refu 350) ∧ KeepsC D (fun b => b = G ∨ b = sg ∨ b = kb) w w') := by
  have hn8 := hx.out.n8
  have hDG := hx.out.DG
  have hgz := hg.lt
  refine calls_of_wpAt Try.func41 rfl ?_
  simp only [Try.ntmps41, List.size_toArray, List.length_cons, List.length_nil, Nat.reduceAdd, Nat.reduceSub, Array.replicate_succ, Array.replicate_zero, List.push_toArray, List.append_toArray, List.nil_append, List.cons_append]
  refine wpAt_seq (wpAt_of_wp ?_)
  go_wp2_with fail
  have X2 := (Box.new w [.pointer (some ⟨G, 0, none⟩)] 85).alloc (.cells #[.int .i64 s.feed, .slice Am n cm, .slice Ak n ck] 44)
  have X3 := Box.newAt (w := w.alloc (.cells #[.pointer (some ⟨G, 0, none⟩)] 85)) (n := w.heap.size + 1) [.int .i64 s.feed, .slice Am n cm, .slice Ak n ck] 44 (by simp)
  have hB := ((Below.refl w.heap.size w).alloc (Nat.le_refl _) (.cells #[.pointer (some ⟨G, 0, none⟩)] 85)).alloc (by simp) (.cells #[.int .i64 s.feed, .slice Am n cm, .slice Ak n ck] 44)
  have hz : ((w.alloc (.cells #[.pointer (some ⟨G, 0, none⟩)] 85)).alloc (.cells #[.int .i64 s.feed, .slice Am n cm, .slice Ak n ck] 44)).heap.size = w.heap.size + 1 + 1 := by simp
  generalize (w.alloc (.cells #[.pointer (some ⟨G, 0, none⟩)] 85)).alloc (.cells #[.int .i64 s.feed, .slice Am n cm, .slice Ak n ck] 44) = w1 at X2 X3 hB hz ⊢
  have c20 : w1.cell? ⟨w.heap.size, 0, none⟩ = some (.pointer (some ⟨G, 0, none⟩)) := X2.cell 0
  have c30 : w1.cell? ⟨w.heap.size + 1, 0, none⟩ = some (.int .i64 s.feed) := X3.cell 0
  have z2 := X2.lt
  have z3 := X3.lt
  refine wpAt_seq (wpAt_of_wp (wp_mono (Q := fun e a' w' => e = .normal ∧ ∃ F C, F ≠ C ∧ w1.heap.size ≤ F ∧ w1.heap.size ≤ C ∧ Box w' F [.int .i64 s.feed] ∧ Box w' C [.func (.func 71) #[.pointer (some ⟨G, 0, none⟩)] #[]] ∧ Below w1.heap.size w1 w' ∧ a' = { tmps := #[.pointer (some ⟨G, 0, none⟩), .agg #[.int .i64 s.feed, .slice Am n cm, .slice Ak n ck], .pointer (some ⟨w.heap.size, 0, none⟩), .pointer (some ⟨w.heap.size + 1, 0, none⟩), .pointer (some ⟨F, 0, none⟩), .pointer (some ⟨C, 0, none⟩), undef, undef, undef, undef, undef, undef, .pointer (some ⟨w.heap.size + 1, 0, none⟩), .int .i64 s.feed, .pointer (some ⟨G, 0, none⟩), .func (.func 71) #[.pointer (some ⟨G, 0, none⟩)] #[], undef, undef, undef, undef, undef, undef, undef, undef, undef, undef, undef, undef, undef, undef, undef, undef, undef, undef, undef, undef, undef, undef, undef, undef, undef, undef, undef, undef, undef, undef, undef, undef, undef, undef, undef, undef, undef, undef, undef, undef, undef, undef, undef, undef, undef, undef, undef, undef, undef, undef, undef, undef, undef, undef, undef, undef, undef, undef, undef, undef, undef, undef, undef, undef, undef, undef, undef, undef, undef], defers := [] }) ?_ ?_))
  · go_region
    · exact ⟨rfl, w.heap.size + 1 + 1, w.heap.size + 1 + 1 + 1, by omega, by omega, by omega, ((Box.newAt (w := w1) (n := w.heap.size + 1 + 1) [.int .i64 s.feed] _ hz.symm).alloc _).drew, (Box.newAt (w := w1.alloc _) (n := w.heap.size + 1 + 1 + 1) [.func (.func 71) #[.pointer (some ⟨G, 0, none⟩)] #[]] _ (by rw [World.size_alloc, hz])).drew, (((Below.refl _ _).alloc (Nat.le_refl _) _).alloc (by simp) _).drew, rfl⟩
    · exact ⟨rfl, w.heap.size + 1 + 1 + 1, w.heap.size + 1 + 1, by omega, by omega, by omega, (Box.newAt (w := w1.alloc _) (n := w.heap.size + 1 + 1 + 1) [.int .i64 s.feed] _ (by rw [World.size_alloc, hz])).drew, ((Box.newAt (w := w1) (n := w.heap.size + 1 + 1) [.func (.func 71) #[.pointer (some ⟨G, 0, none⟩)] #[]] _ hz.symm).alloc _).drew, (((Below.refl _ _).alloc (Nat.le_refl _) _).alloc (by simp) _).drew, rfl⟩
  rintro e a' w2 ⟨rfl, F, C, hFC, hF, hC, XF, XC, hb2, rfl⟩
  have XF0 := XF
  dsimp only [Exit.then]
  refine wpAt_seq (wpAt_seq (wpAt_of_wp ?_))
  have X2 := X2.under hb2 z2
  have c20 : w2.cell? ⟨w.heap.size, 0, none⟩ = some (.pointer (some ⟨G, 0, none⟩)) := X2.cell 0
  have z2 := X2.lt
  go_wp2_with fail
  refine (mGates_any G w2).mono ?_
  rintro e w3 ⟨rfl, Xg, hb3⟩
  go_wp2_with fail
  have hs2 := hb2.size
  have X0 := X2
  have X2 := X2.later hb3
  have X3 := (X3.under hb2 z3).later hb3
  have hgl : G < w1.heap.size := by omega
  have hG3 := ((hg.later hB).under hb2 hgl).later hb3
  have XF := XF.later hb3
  have XC := XC.later hb3
  have hB3 := (hB.trans (hb2.mono hB.size)).trans (hb3.mono (by omega))
  have hsz := hB3.size
  have hXg := Xg.lt
  have hFl : F < w2.heap.size := by
    have := XF0.lt
    exact this
  generalize hBg : w2.heap.size = Bg at Xg hXg hFl ⊢
  have hFg : F < w3.heap.size := XF.lt
  have hCg : C < w3.heap.size := XC.lt
  have z2 := X2.lt
  have z3 := X3.lt
  have hI0 : KeepsC D (fun b => b = G ∨ b = sg ∨ b = kb ∨ b = F) w w3 := KeepsC.of hB3 (by omega)
  have hx3 := Lib.hid (hx.out.under hB3 (by omega))
  have hsgl : sg < w.heap.size := hx.out.lt.1
  have hkbl : kb < w.heap.size := hx.out.lt.2
  refine wpAt_block ?_
  refine wpAt_rangeP (w := w3) Try.func41 (gf := 86) (lb := #[.pointer (some ⟨Bg, 0, none⟩)]) rfl (enters_of Try.func86 (by kernel_rfl) rfl)
    (Kp := fun A B => KeepsC D (fun b => b = G ∨ b = sg ∨ b = kb ∨ b = F) A B ∧ ((∃ b1, Box A G (gameL (.slice Ap n kp) (.slice Ac n kc) Vb (.slice (some ⟨sg, so, none⟩) n sc) (.slice (some ⟨kb, ko, none⟩) n kcap) b1)) → ∃ b1, Box B G (gameL (.slice Ap n kp) (.slice Ac n kc) Vb (.slice (some ⟨sg, so, none⟩) n sc) (.slice (some ⟨kb, ko, none⟩) n kcap) b1)))
    (fun A B C h1 h2 => ⟨h1.1.trans h2.1, fun h => h2.2 (h1.2 h)⟩)
    (fun W l o o' hl ho hc => ⟨KeepsC.put ho hc (by omega) _, fun ⟨bd, hbd⟩ => ⟨bd, hbd.record ho hc _⟩⟩)
    (gates_seqP 5 n sg so sc (.slice Ap n kp) (.slice Ac n kc) Vb (.slice (some ⟨kb, ko, none⟩) n kcap) G Bg w3 D (fun b => b = G ∨ b = sg ∨ b = kb ∨ b = F) hn8 ⟨_, hG3⟩ Xg (by have := hx.out.lt; omega) _ (fun _ _ h => h)) (Below.refl _ _) (fun _ => rfl)
    (fun pre W => w3.heap.size ≤ W.heap.size ∧ KeepsC D (fun b => b = G ∨ b = sg ∨ b = kb ∨ b = F) w W ∧ Box W w.heap.size [.pointer (some ⟨G, 0, none⟩)] ∧ Box W (w.heap.size + 1) [.int .i64 s.feed, .slice Am n cm, .slice Ak n ck] ∧ Box W C [.func (.func 71) #[.pointer (some ⟨G, 0, none⟩)] #[]] ∧ Box W G (gameL (.slice Ap n kp) (.slice Ac n kc) Vb (.slice (some ⟨sg, so, none⟩) n sc) (.slice (some ⟨kb, ko, none⟩) n kcap) bad) ∧ HourAt W D G x n (x.midS sts s pre.length) (midK stuck s.stuck pre.length) Ap Ac kp kc sg so kb ko ∧ ∃ f l, Hid (x.hourK sts s pre.length = some (f, l)) ∧ Box W F [.int .i64 f])
    (fun ch pre W => ch = refu 350 ∧ KeepsC D (fun b => b = G ∨ b = sg ∨ b = kb ∨ b = F) w W ∧ Hid (x.hourK sts s n = none))
    ?hI ?h0
    (fun pre k a' W => k < n ∧ pre = gateL k ∧ w3.heap.size ≤ W.heap.size ∧ KeepsC D (fun b => b = G ∨ b = sg ∨ b = kb ∨ b = F) w W ∧ Box W w.heap.size [.pointer (some ⟨G, 0, none⟩)] ∧ Box W (w.heap.size + 1) [.int .i64 s.feed, .slice Am n cm, .slice Ak n ck] ∧ Box W C [.func (.func 71) #[.pointer (some ⟨G, 0, none⟩)] #[]] ∧ Box W G (gameL (.slice Ap n kp) (.slice Ac n kc) Vb (.slice (some ⟨sg, so, none⟩) n sc) (.slice (some ⟨kb, ko, none⟩) n kcap) bad) ∧ HourAt W D G x n (x.midS sts s k) (midK stuck s.stuck k) Ap Ac kp kc sg so kb ko ∧ (∃ f l, Hid (x.hourK sts s k = some (f, l)) ∧ Box W F [.int .i64 f]) ∧ a' = { tmps := #[.pointer (some ⟨G, 0, none⟩), .agg #[.int .i64 s.feed, .slice Am n cm, .slice Ak n ck], .pointer (some ⟨w.heap.size, 0, none⟩), .pointer (some ⟨w.heap.size + 1, 0, none⟩), .pointer (some ⟨F, 0, none⟩), .pointer (some ⟨C, 0, none⟩), .int .i64 k, .pointer (some ⟨sg, so + k * 6, none⟩), undef, undef, undef, undef, .pointer (some ⟨w.heap.size + 1, 0, none⟩), .int .i64 s.feed, .pointer (some ⟨G, 0, none⟩), .func (.func 71) #[.pointer (some ⟨G, 0, none⟩)] #[], .pointer (some ⟨G, 0, none⟩), .func (.func 86) #[] #[.pointer (some ⟨Bg, 0, none⟩)], .int .i64 k, .pointer (some ⟨sg, so + k * 6, none⟩), undef, undef, undef, undef, undef, undef, undef, undef, undef, undef, undef, undef, undef, undef, undef, undef, undef, undef, undef, undef, undef, undef, undef, undef, undef, undef, undef, undef, undef, undef, undef, undef, undef, undef, undef, undef, undef, undef, undef, undef, undef, undef, undef, undef, undef, undef, undef, undef, undef, undef, undef, undef, undef, undef, undef, undef, undef, undef, undef, undef, undef, undef, undef, undef, undef], defers := [] })
    ?hAx ?assign ?body ?done ?panic
  case hI =>
    rintro pre A B ⟨h1, h2, h3, h4, h5, h6, h7, f, l, h8, h9⟩ hb
    exact ⟨Nat.le_trans h1 hb.size, h2.under hb hsz (by omega), h3.under hb z2, h4.under hb z3, h5.under hb hCg, h6.under hb (by omega), h7.low hb (by omega) (by omega) (by omega), f, l, h8, h9.under hb hFg⟩
  case h0 =>
    refine ⟨Nat.le_refl _, hI0, X2, X3, XC, hG3, ?_, _, _, Lib.hid rfl, XF⟩
    have e1 : (fun i => x.midS sts s ([] : List Nat).length i) = (sts.getD · St.zero) := funext fun i => midS_zero
    have e2 : (fun i => midK stuck s.stuck ([] : List Nat).length i) = (stuck.getD · false) := funext fun i => midK_zero
    show HourAt w3 D G x n (fun i => x.midS sts s ([] : List Nat).length i) (fun i => midK stuck s.stuck ([] : List Nat).length i) Ap Ac kp kc sg so kb ko
    rw [e1, e2]
    exact hx3.out
  case hAx =>
    rintro pre k a' A l o o' hl ho hc ⟨h1, h2, h3, h4, h5, h6, h7, h8, h9, ⟨f, l2, h10, h11⟩, rfl⟩
    exact ⟨h1, h2, by simpa using h3, h4.trans (KeepsC.put ho hc (by omega) _), h5.record ho hc _, h6.record ho hc _, h7.record ho hc _, h8.record ho hc _, h9.record ho hc (by omega) _, ⟨f, l2, h10, h11.record ho hc _⟩, rfl⟩
  case assign =>
    rintro l pre k W K ⟨h0, h1, h2, h3, h4, h5, h6, f, l2, h7, h8⟩ ⟨rfl, hkn⟩ hK
    rw [gateL, List.length_range] at h6 h7
    gi_wp2
    exact hK _ _ (kfOf (Below.refl _ _)) ⟨KeepsC.refl _ _ _, fun h => h⟩ ⟨hkn, by trivial, h0, h1, h2, h3, h4, h5, h6, ⟨f, l2, h7, h8⟩, rfl⟩
  case body =>
    rintro l pre k a' W hl ⟨r0, hr0⟩ ⟨hkn, rfl, hsW, hKw, X2W, X3W, XCW, hgW, hH, ⟨f, ls, hf, XFW⟩, rfl⟩
    dsimp only
    have hlt0 : l < W.heap.size := (Array.getElem?_eq_some_iff.1 hr0).1
    have hdf : (k : Int) < (n : Int) := by omega
    have hkp : k < x.plants.length := by rw [hH.pn]; exact hkn
    have hdp := hH.DG
    obtain ⟨bp, op, rfl, hbp, p0, p1, p2, p3, p4, p5, p6, p7, p8, p9, p10, p11⟩ := hH.plants.cells12 hkp
    have x2z := X2W.lt
    have x0 : W.cell? ⟨w.heap.size, 0, none⟩ = some (.pointer (some ⟨G, 0, none⟩)) := X2W.cell 0
    have g0 : W.cell? ⟨G, 0, none⟩ = some (.slice (some ⟨bp, op, none⟩) n kp) := hgW.cell 0
    obtain ⟨p, hpe⟩ : ∃ p, x.plants[k] = p := ⟨_, rfl⟩
    have HP : Hid (x.plants.getD k Pl.zero = p) := Lib.hid ((getD_at hkp).trans hpe)
    rw [hpe] at p0 p1 p2 p3 p4 p5 p6 p7 p8 p9 p10 p11
    clear hpe
    gi_upto_region 6 with fail
    have hb1 := (Below.refl W.heap.size W).alloc (Nat.le_refl _) (.cells #[.int .i64 p.top, .int .i64 p.bank, .int .i64 p.siphon, .int .i64 p.start, .int .i64 p.positions, .int .i64 p.rate, .int .i64 p.step, .int .i64 p.pass, .int .i64 p.feed, .int .i64 p.pipe, .int .i64 p.orders, .int .i64 p.age] 55)
    have XP := Box.new W [.int .i64 p.top, .int .i64 p.bank, .int .i64 p.siphon, .int .i64 p.start, .int .i64 p.positions, .int .i64 p.rate, .int .i64 p.step, .int .i64 p.pass, .int .i64 p.feed, .int .i64 p.pipe, .int .i64 p.orders, .int .i64 p.age] 55
    have X2 := X2W.under hb1 x2z
    have X3 := X3W.under hb1 X3W.lt
    have XC := XCW.under hb1 XCW.lt
    have XF := XFW.under hb1 XFW.lt
    have hg1 := hgW.under hb1 hgW.lt
    have hKw1 := hKw.under hb1 (by omega) (by omega)
    have hH1 := hH.low hb1 (by omega) (by omega) (by omega)
    have hkf1 : KeepsFrom w3.heap.size W _ := kfOf hb1
    have hk1 : KeepsC D (fun b => b = G ∨ b = sg ∨ b = kb ∨ b = F) W _ := KeepsC.of hb1 (by omega)
    generalize W.alloc (.cells #[.int .i64 p.top, .int .i64 p.bank, .int .i64 p.siphon, .int .i64 p.start, .int .i64 p.positions, .int .i64 p.rate, .int .i64 p.step, .int .i64 p.pass, .int .i64 p.feed, .int .i64 p.pipe, .int .i64 p.orders, .int .i64 p.age] 55) = W1 at hb1 XP X2 X3 XC XF hg1 hKw1 hH1 hkf1 hk1 ⊢
    have hPz := XP.lt
    have hPn : w3.heap.size ≤ W.heap.size := hsW
    clear X2W X3W XCW XFW hgW hKw hH x2z x0 g0 p0 p1 p2 p3 p4 p5 p6 p7 p8 p9 p10 p11
    have xf : W1.cell? ⟨F, 0, none⟩ = some (.int .i64 f) := XF.cell 0
    have xp8 : W1.cell? ⟨W.heap.size, 8, none⟩ = some (.int .i64 p.feed) := XP.cell 8
    have zf := XF.lt
    generalize W.heap.size = Pb at XP hPz hPn xp8 ⊢
    rcases Int.lt_or_le p.feed f with hlt | hle
    · have hnle : ¬ (f ≤ p.feed) := by omega
      gi_wp2_with fail
      refine ⟨trivial, ?_⟩
      refine (callsIn_wide.2 (demand_no (er := 350) (by decide) W1)).mono ?_
      rintro e W2 ⟨rfl, rfl⟩
      gi_wp2
      have hno := hourK_none (hourK_no hf.out (by rw [HP.out]; omega)) (n - (k + 1))
      rw [show k + 1 + (n - (k + 1)) = n by omega] at hno
      exact ⟨rfl, hkf1, rfl, hKw1, Lib.hid hno⟩
    gi_wp2_with fail
    refine ⟨trivial, ?_⟩
    refine (callsIn_wide.2 (demand_ok 350 W1)).mono ?_
    rintro e W2 ⟨rfl, rfl⟩
    clear xf xp8
    gi_upto_region 7 with fail
    have hle : f ≤ (x.plants.getD k Pl.zero).feed := by rw [HP.out]; omega
    have HLE := Lib.hid hle
    clear hle
    have hst := hH1.state hkn
    simp only [midS_now] at hst
    obtain ⟨t, hte⟩ : ∃ t, Hid (sts.getD k St.zero = t) := ⟨_, Lib.hid rfl⟩
    rw [hte.out] at hst
    obtain ⟨t0, t1, t2, t3, t4, t5⟩ := t
    have hMl : s.msgs.length = n := by
      have := hv.out
      simp only [Cs.stepB, Bool.and_eq_true, decide_eq_true_eq] at this
      rw [this.1, hH1.pn]
    have hKl : s.stuck.length = n := by
      have := hv.out
      simp only [Cs.stepB, Bool.and_eq_true, decide_eq_true_eq] at this
      rw [this.2.1, hH1.pn]
    obtain ⟨bm, om, rfl, hbm, m0⟩ := (hM.out.below hKw1.low).at (k := k) (by omega)
    obtain ⟨bk, ok, rfl, hbk, q0⟩ := (hK.out.below hKw1.low).at (k := k) (by omega)
    obtain ⟨mg, hmg⟩ : ∃ mg, Hid (s.msgs[k] = mg) := ⟨_, Lib.hid rfl⟩
    obtain ⟨u, hu⟩ : ∃ u, Hid (s.stuck[k] = u) := ⟨_, Lib.hid rfl⟩
    rw [hmg.out] at m0
    rw [hu.out] at q0
    have hDW : D ≤ W1.heap.size := by omega
    have f0 : ∀ z : Later W1, z.w.cell? ⟨Pb, 0, none⟩ = some (.int .i64 p.top) := Later.cell (XP.cell 0) hPz
    have f1 : ∀ z : Later W1, z.w.cell? ⟨Pb, 1, none⟩ = some (.int .i64 p.bank) := Later.cell (XP.cell 1) hPz
    have f2 : ∀ z : Later W1, z.w.cell? ⟨Pb, 2, none⟩ = some (.int .i64 p.siphon) := Later.cell (XP.cell 2) hPz
    have f3 : ∀ z : Later W1, z.w.cell? ⟨Pb, 3, none⟩ = some (.int .i64 p.start) := Later.cell (XP.cell 3) hPz
    have f4 : ∀ z : Later W1, z.w.cell? ⟨Pb, 4, none⟩ = some (.int .i64 p.positions) := Later.cell (XP.cell 4) hPz
    have f5 : ∀ z : Later W1, z.w.cell? ⟨Pb, 5, none⟩ = some (.int .i64 p.rate) := Later.cell (XP.cell 5) hPz
    have f6 : ∀ z : Later W1, z.w.cell? ⟨Pb, 6, none⟩ = some (.int .i64 p.step) := Later.cell (XP.cell 6) hPz
    have f7 : ∀ z : Later W1, z.w.cell? ⟨Pb, 7, none⟩ = some (.int .i64 p.pass) := Later.cell (XP.cell 7) hPz
    have f8 : ∀ z : Later W1, z.w.cell? ⟨Pb, 8, none⟩ = some (.int .i64 p.feed) := Later.cell (XP.cell 8) hPz
    have f9 : ∀ z : Later W1, z.w.cell? ⟨Pb, 9, none⟩ = some (.int .i64 p.pipe) := Later.cell (XP.cell 9) hPz
    have f10 : ∀ z : Later W1, z.w.cell? ⟨Pb, 10, none⟩ = some (.int .i64 p.orders) := Later.cell (XP.cell 10) hPz
    have f11 : ∀ z : Later W1, z.w.cell? ⟨Pb, 11, none⟩ = some (.int .i64 p.age) := Later.cell (XP.cell 11) hPz
    have v0 : ∀ z : Later W1, z.w.cell? ⟨sg, so + k * 6, none⟩ = some (.int .i64 t0) := Later.cell (hst 0 (by omega)) hH1.lt.1
    have v1 : ∀ z : Later W1, z.w.cell? ⟨sg, so + k * 6 + 1, none⟩ = some (.int .i64 t1) := Later.cell (hst 1 (by omega)) hH1.lt.1
    have v2 : ∀ z : Later W1, z.w.cell? ⟨sg, so + k * 6 + 2, none⟩ = some (.int .i64 t2) := Later.cell (hst 2 (by omega)) hH1.lt.1
    have v3 : ∀ z : Later W1, z.w.cell? ⟨sg, so + k * 6 + 3, none⟩ = some (.int .i64 t3) := Later.cell (hst 3 (by omega)) hH1.lt.1
    have v4 : ∀ z : Later W1, z.w.cell? ⟨sg, so + k * 6 + 4, none⟩ = some (.int .i64 t4) := Later.cell (hst 4 (by omega)) hH1.lt.1
    have v5 : ∀ z : Later W1, z.w.cell? ⟨sg, so + k * 6 + 5, none⟩ = some (.int .i64 t5) := Later.cell (hst 5 (by omega)) hH1.lt.1
    have g0 : ∀ z : Later W1, z.w.cell? ⟨C, 0, none⟩ = some (.func (.func 71) #[.pointer (some ⟨G, 0, none⟩)] #[]) := Later.cell (XC.cell 0) XC.lt
    have g1 : ∀ z : Later W1, z.w.cell? ⟨w.heap.size + 1, 1, none⟩ = some (.slice (some ⟨bm, om, none⟩) n cm) := Later.cell (X3.cell 1) X3.lt
    have g2 : ∀ z : Later W1, z.w.cell? ⟨w.heap.size + 1, 2, none⟩ = some (.slice (some ⟨bk, ok, none⟩) n ck) := Later.cell (X3.cell 2) X3.lt
    have g3 : ∀ z : Later W1, z.w.cell? ⟨bm, om + k, none⟩ = some (.int .i64 mg) := Later.cell m0 (by dsimp only; omega)
    have g4 : ∀ z : Later W1, z.w.cell? ⟨bk, ok + k, none⟩ = some (.bool u) := Later.cell q0 (by dsimp only; omega)
    have g5 : ∀ z : Later W1, z.w.cell? ⟨F, 0, none⟩ = some (.int .i64 f) := Later.cell (XF.cell 0) XF.lt
    have hd := (Below.refl W1.heap.size W1).drew
    have hn0 := (hourK_ok hR.out hs.out hv.out (Nat.le_of_lt hkn) hf.out).1
    have hgo := go_ok hR.out hs.out hv.out hkn hn0 HLE.out
    have hsu : s.stuck.getD k false = u := by rw [getD_at (show k < s.stuck.length by omega)]; exact hu.out
    have hgT : x.goT sts s k f = nextT p (x.codeT s k) ⟨t0, t1, t2, t3, t4, t5⟩ ⟨f, mg⟩ := by rw [Cs.goT, HP.out, hte.out, getD_at (show k < s.msgs.length by omega), hmg.out]
    obtain ⟨rn, on, en, hnx⟩ : ∃ rn on en, Hid (x.goT sts s k f = (rn, on, en)) := ⟨_, _, _, rfl⟩
    rw [hnx.out] at hgo
    obtain ⟨rfl, hon, -⟩ := hgo
    obtain ⟨r0, r1, r2, r3, r4, r5⟩ := rn
    have HNX : Hid (nextT p (x.codeT s k) ⟨t0, t1, t2, t3, t4, t5⟩ ⟨f, mg⟩ = (⟨r0, r1, r2, r3, r4, r5⟩, on, 0)) := Lib.hid (hgT.symm.trans hnx.out)
    obtain ⟨Vc, hVc, hcode⟩ : ∃ Vc, Hid (CodeAt W1 D Vc (x.codeT s k)) ∧ ∀ z : World, Below W1.heap.size W1 z → Calls Try.prog 71 #[.pointer (some ⟨G, 0, none⟩), .int .i64 k, .bool u] z (fun e w' => e = .returned (.agg #[Vc]) ∧ Below z.heap.size z w') := by
      cases u with
      | true =>
        refine ⟨.slice none 0 0, Lib.hid ?_, fun z hz => gCode_yes G k z⟩
        unfold Cs.codeT
        rw [if_pos hsu]
        exact ⟨fun _ => undef, ⟨none, 0, rfl, by simp [maxLen], fun i hi => absurd hi (Nat.not_lt_zero _)⟩, fun i l hl => by cases hl⟩
      | false =>
        have hkc : k < x.codes.length := by rw [hH1.cn]; exact hkn
        obtain ⟨bc, oc, V, hAc, hbc, q1, hV⟩ := hH1.codes.code hkc
        obtain ⟨Av, cv, rfl, _⟩ := hV.form
        refine ⟨_, Lib.hid ?_, fun z hz => gCode_no (.slice (some ⟨bp, op, none⟩) n kp) Vb (.slice (some ⟨sg, so, none⟩) n sc) (.slice (some ⟨kb, ko, none⟩) n kcap) Av _ cv bc oc n kc G k bad z hn8 hkn ?_ ((hz.cell (by dsimp only; omega)).trans q1)⟩
        · unfold Cs.codeT
          rw [if_neg (by rw [hsu]; decide), getD_at hkc]
          exact hV
        · rw [← hAc]
          exact hg1.later hz
    have hnext : ∀ z : World, Below W1.heap.size W1 z → Calls Try.prog 25 #[.agg #[.int .i64 p.top, .int .i64 p.bank, .int .i64 p.siphon, .int .i64 p.start, .int .i64 p.positions, .int .i64 p.rate, .int .i64 p.step, .int .i64 p.pass, .int .i64 p.feed, .int .i64 p.pipe, .int .i64 p.orders, .int .i64 p.age], .agg #[Vc], .agg #[.int .i64 t0, .int .i64 t1, .int .i64 t2, .int .i64 t3, .int .i64 t4, .int .i64 t5], .agg #[.int .i64 f, .int .i64 mg]] z (fun e w' => e = .returned (.tuple #[.agg #[.int .i64 r0, .int .i64 r1, .int .i64 r2, .int .i64 r3, .int .i64 r4, .int .i64 r5], .int .i64 on, .int .i64 0]) ∧ Below z.heap.size z w') :=
      fun z hz => next_is (s := ⟨t0, t1, t2, t3, t4, t5⟩) (x := ⟨f, mg⟩) HNX ((hVc.out.below (hz.mono hDW)).more (Nat.le_trans hDW hz.size))
    have HSU := Lib.hid hsu
    clear hgT hsu HNX hVc
    refine wpIn_region_heads (C := fun w' => ∃ x : Later W1, w' = x.w) (N := fun a w5 => ∃ Fa u20 u21 u22 u23 u24 u25 u26 u27 u28 u29 u30 u31 u32 u33 u34 u35 u36 u37 u38 u39 u40 u41 u42 u43 u44 u45 u46 u47 u48 u49 u50 u51 u52 u53 u54 u55 u56, Below W1.heap.size W1 w5 ∧ W1.heap.size ≤ Fa ∧ Box w5 Fa [.int .i64 r0, .int .i64 r1, .int .i64 r2, .int .i64 r3, .int .i64 r4, .int .i64 r5] ∧ a = { tmps := List.toArray (.pointer (some ⟨G, 0, none⟩) :: .agg #[.int .i64 s.feed, .slice (some ⟨bm, om, none⟩) n cm, .slice (some ⟨bk, ok, none⟩) n ck] :: .pointer (some ⟨w.heap.size, 0, none⟩) :: .pointer (some ⟨w.heap.size + 1, 0, none⟩) :: .pointer (some ⟨F, 0, none⟩) :: .pointer (some ⟨C, 0, none⟩) :: .int .i64 k :: .pointer (some ⟨sg, so + k * 6, none⟩) :: .pointer (some ⟨Pb, 0, none⟩) :: .pointer (some ⟨Fa, 0, none⟩) :: .int .i64 on :: .int .i64 0 :: .pointer (some ⟨w.heap.size + 1, 0, none⟩) :: .int .i64 s.feed :: .pointer (some ⟨G, 0, none⟩) :: .func (.func 71) #[.pointer (some ⟨G, 0, none⟩)] #[] :: .pointer (some ⟨G, 0, none⟩) :: .func (.func 86) #[] #[.pointer (some ⟨Bg, 0, none⟩)] :: .int .i64 k :: .pointer (some ⟨sg, so + k * 6, none⟩) :: u20 :: u21 :: u22 :: u23 :: u24 :: u25 :: u26 :: u27 :: u28 :: u29 :: u30 :: u31 :: u32 :: u33 :: u34 :: u35 :: u36 :: u37 :: u38 :: u39 :: u40 :: u41 :: u42 :: u43 :: u44 :: u45 :: u46 :: u47 :: u48 :: u49 :: u50 :: u51 :: u52 :: u53 :: u54 :: u55 :: u56 :: undef :: undef :: undef :: undef :: undef :: undef :: undef :: undef :: undef :: undef :: undef :: undef :: undef :: undef :: undef :: undef :: undef :: undef :: undef :: undef :: undef :: undef :: undef :: undef :: undef :: undef :: undef :: undef :: []), defers := [] }) [0, 1, 2, 3, 4, 5, 6, 7, 9, 10, 11, 12, 13, 14, 15, 16, 17, 18] (by kernel_rfl) (by kernel_rfl) (Later.mk' hd) ?rest ?_
    case rest =>
      clear f0 f1 f2 f3 f4 f5 f6 f7 f8 f9 f10 f11 v0 v1 v2 v3 v4 v5 g0 g1 g2 g3 g4 g5 hcode hnext hst
      rintro a w5 ⟨Fa, u20, u21, u22, u23, u24, u25, u26, u27, u28, u29, u30, u31, u32, u33, u34, u35, u36, u37, u38, u39, u40, u41, u42, u43, u44, u45, u46, u47, u48, u49, u50, u51, u52, u53, u54, u55, u56, hw5, hFa, Y, rfl⟩
      gi_wp2_with fail
      refine ⟨trivial, ?_⟩
      refine (callsIn_wide.2 (must_ok w5)).mono ?_
      rintro e w6 ⟨rfl, rfl⟩
      have hlw := hH1.lt
      have hH5 := hH1.low hw5 (by omega) hlw.1 hlw.2
      have XF5 := XF.under hw5 XF.lt
      have X25 := X2.under hw5 X2.lt
      have X35 := X3.under hw5 X3.lt
      have XC5 := XC.under hw5 XC.lt
      have hg5 := hg1.under hw5 hg1.lt
      have hst5 := hH5.state hkn
      simp only [midS_now, hte.out] at hst5
      have s0 : w5.cell? ⟨sg, so + k * 6, none⟩ = some (.int .i64 t0) := hst5 0 (by omega)
      have e0 : w5.frozen? ⟨sg, so + k * 6, none⟩ = false := (hH5.free _).1
      have s1 : w5.cell? ⟨sg, so + k * 6 + 1, none⟩ = some (.int .i64 t1) := hst5 1 (by omega)
      have e1 : w5.frozen? ⟨sg, so + k * 6 + 1, none⟩ = false := (hH5.free _).1
      have s2 : w5.cell? ⟨sg, so + k * 6 + 2, none⟩ = some (.int .i64 t2) := hst5 2 (by omega)
      have e2 : w5.frozen? ⟨sg, so + k * 6 + 2, none⟩ = false := (hH5.free _).1
      have s3 : w5.cell? ⟨sg, so + k * 6 + 3, none⟩ = some (.int .i64 t3) := hst5 3 (by omega)
      have e3 : w5.frozen? ⟨sg, so + k * 6 + 3, none⟩ = false := (hH5.free _).1
      have s4 : w5.cell? ⟨sg, so + k * 6 + 4, none⟩ = some (.int .i64 t4) := hst5 4 (by omega)
      have e4 : w5.frozen? ⟨sg, so + k * 6 + 4, none⟩ = false := (hH5.free _).1
      have s5 : w5.cell? ⟨sg, so + k * 6 + 5, none⟩ = some (.int .i64 t5) := hst5 5 (by omega)
      have e5 : w5.frozen? ⟨sg, so + k * 6 + 5, none⟩ = false := (hH5.free _).1
      have Yc0 : w5.cell? ⟨Fa, 0, none⟩ = some (.int .i64 r0) := Y.cell 0
      have Yf0 : w5.frozen? ⟨Fa, 0, none⟩ = false := Y.free 0
      have Yc1 : w5.cell? ⟨Fa, 1, none⟩ = some (.int .i64 r1) := Y.cell 1
      have Yf1 : w5.frozen? ⟨Fa, 1, none⟩ = false := Y.free 1
      have Yc2 : w5.cell? ⟨Fa, 2, none⟩ = some (.int .i64 r2) := Y.cell 2
      have Yf2 : w5.frozen? ⟨Fa, 2, none⟩ = false := Y.free 2
      have Yc3 : w5.cell? ⟨Fa, 3, none⟩ = some (.int .i64 r3) := Y.cell 3
      have Yf3 : w5.frozen? ⟨Fa, 3, none⟩ = false := Y.free 3
      have Yc4 : w5.cell? ⟨Fa, 4, none⟩ = some (.int .i64 r4) := Y.cell 4
      have Yf4 : w5.frozen? ⟨Fa, 4, none⟩ = false := Y.free 4
      have Yc5 : w5.cell? ⟨Fa, 5, none⟩ = some (.int .i64 r5) := Y.cell 5
      have Yf5 : w5.frozen? ⟨Fa, 5, none⟩ = false := Y.free 5
      have Yz : Fa < w5.heap.size := Y.lt
      have XF5c0 : w5.cell? ⟨F, 0, none⟩ = some (.int .i64 f) := XF5.cell 0
      have XF5f0 : w5.frozen? ⟨F, 0, none⟩ = false := XF5.free 0
      have XF5z : F < w5.heap.size := XF5.lt
      have hsz := hH5.lt
      have hFs : F ≠ sg := by omega
      have hsF : sg ≠ F := by omega
      have hkF : kb ≠ F := by omega
      have hFas : Fa ≠ sg := by omega
      have hDF : D ≤ F := by omega
      have hDs := hH5.Dsg
      have hDk := hH5.Dkb
      have hsG := hH5.sG
      have hkG := hH5.kG
      have hsk := hH5.sk
      gi_upto_region 10 with fail
      have H9 := (hH5.setState hkn ⟨r0, r1, r2, r3, r4, r5⟩).keeps (R := fun b => b = F) (KeepsC.set (R := fun b => b = F) _ (a := ⟨F, 0, none⟩) hDF rfl (.int .i64 on)) hsF hkF
      dsimp only at H9
      have hk9 : KeepsC D (fun b => b = sg ∨ b = F) w5 _ := (((((((KeepsC.set (R := fun b => b = sg ∨ b = F) w5 (a := ⟨sg, so + k * 6, none⟩) hDs (.inl rfl) (.int .i64 r0)).trans (KeepsC.set (R := fun b => b = sg ∨ b = F) (w5.setCell ⟨sg, so + k * 6, none⟩ (.int .i64 r0)) (a := ⟨sg, so + k * 6 + 1, none⟩) hDs (.inl rfl) (.int .i64 r1))).trans (KeepsC.set (R := fun b => b = sg ∨ b = F) ((w5.setCell ⟨sg, so + k * 6, none⟩ (.int .i64 r0)).setCell ⟨sg, so + k * 6 + 1, none⟩ (.int .i64 r1)) (a := ⟨sg, so + k * 6 + 2, none⟩) hDs (.inl rfl) (.int .i64 r2))).trans (KeepsC.set (R := fun b => b = sg ∨ b = F) (((w5.setCell ⟨sg, so + k * 6, none⟩ (.int .i64 r0)).setCell ⟨sg, so + k * 6 + 1, none⟩ (.int .i64 r1)).setCell ⟨sg, so + k * 6 + 2, none⟩ (.int .i64 r2)) (a := ⟨sg, so + k * 6 + 3, none⟩) hDs (.inl rfl) (.int .i64 r3))).trans (KeepsC.set (R := fun b => b = sg ∨ b = F) ((((w5.setCell ⟨sg, so + k * 6, none⟩ (.int .i64 r0)).setCell ⟨sg, so + k * 6 + 1, none⟩ (.int .i64 r1)).setCell ⟨sg, so + k * 6 + 2, none⟩ (.int .i64 r2)).setCell ⟨sg, so + k * 6 + 3, none⟩ (.int .i64 r3)) (a := ⟨sg, so + k * 6 + 4, none⟩) hDs (.inl rfl) (.int .i64 r4))).trans (KeepsC.set (R := fun b => b = sg ∨ b = F) (((((w5.setCell ⟨sg, so + k * 6, none⟩ (.int .i64 r0)).setCell ⟨sg, so + k * 6 + 1, none⟩ (.int .i64 r1)).setCell ⟨sg, so + k * 6 + 2, none⟩ (.int .i64 r2)).setCell ⟨sg, so + k * 6 + 3, none⟩ (.int .i64 r3)).setCell ⟨sg, so + k * 6 + 4, none⟩ (.int .i64 r4)) (a := ⟨sg, so + k * 6 + 5, none⟩) hDs (.inl rfl) (.int .i64 r5))).trans (KeepsC.set (R := fun b => b = sg ∨ b = F) ((((((w5.setCell ⟨sg, so + k * 6, none⟩ (.int .i64 r0)).setCell ⟨sg, so + k * 6 + 1, none⟩ (.int .i64 r1)).setCell ⟨sg, so + k * 6 + 2, none⟩ (.int .i64 r2)).setCell ⟨sg, so + k * 6 + 3, none⟩ (.int .i64 r3)).setCell ⟨sg, so + k * 6 + 4, none⟩ (.int .i64 r4)).setCell ⟨sg, so + k * 6 + 5, none⟩ (.int .i64 r5)) (a := ⟨F, 0, none⟩) hDF (.inr rfl) (.int .i64 on)))
      have hkf9 : KeepsFrom w3.heap.size w5 _ := (((((((kfCell (D := w3.heap.size) (A := w5) (a := ⟨sg, so + k * 6, none⟩) (by dsimp only; omega) (.int .i64 r0)).trans (kfCell (D := w3.heap.size) (A := (w5.setCell ⟨sg, so + k * 6, none⟩ (.int .i64 r0))) (a := ⟨sg, so + k * 6 + 1, none⟩) (by dsimp only; omega) (.int .i64 r1))).trans (kfCell (D := w3.heap.size) (A := ((w5.setCell ⟨sg, so + k * 6, none⟩ (.int .i64 r0)).setCell ⟨sg, so + k * 6 + 1, none⟩ (.int .i64 r1))) (a := ⟨sg, so + k * 6 + 2, none⟩) (by dsimp only; omega) (.int .i64 r2))).trans (kfCell (D := w3.heap.size) (A := (((w5.setCell ⟨sg, so + k * 6, none⟩ (.int .i64 r0)).setCell ⟨sg, so + k * 6 + 1, none⟩ (.int .i64 r1)).setCell ⟨sg, so + k * 6 + 2, none⟩ (.int .i64 r2))) (a := ⟨sg, so + k * 6 + 3, none⟩) (by dsimp only; omega) (.int .i64 r3))).trans (kfCell (D := w3.heap.size) (A := ((((w5.setCell ⟨sg, so + k * 6, none⟩ (.int .i64 r0)).setCell ⟨sg, so + k * 6 + 1, none⟩ (.int .i64 r1)).setCell ⟨sg, so + k * 6 + 2, none⟩ (.int .i64 r2)).setCell ⟨sg, so + k * 6 + 3, none⟩ (.int .i64 r3))) (a := ⟨sg, so + k * 6 + 4, none⟩) (by dsimp only; omega) (.int .i64 r4))).trans (kfCell (D := w3.heap.size) (A := (((((w5.setCell ⟨sg, so + k * 6, none⟩ (.int .i64 r0)).setCell ⟨sg, so + k * 6 + 1, none⟩ (.int .i64 r1)).setCell ⟨sg, so + k * 6 + 2, none⟩ (.int .i64 r2)).setCell ⟨sg, so + k * 6 + 3, none⟩ (.int .i64 r3)).setCell ⟨sg, so + k * 6 + 4, none⟩ (.int .i64 r4))) (a := ⟨sg, so + k * 6 + 5, none⟩) (by dsimp only; omega) (.int .i64 r5))).trans (kfCell (D := w3.heap.size) (A := ((((((w5.setCell ⟨sg, so + k * 6, none⟩ (.int .i64 r0)).setCell ⟨sg, so + k * 6 + 1, none⟩ (.int .i64 r1)).setCell ⟨sg, so + k * 6 + 2, none⟩ (.int .i64 r2)).setCell ⟨sg, so + k * 6 + 3, none⟩ (.int .i64 r3)).setCell ⟨sg, so + k * 6 + 4, none⟩ (.int .i64 r4)).setCell ⟨sg, so + k * 6 + 5, none⟩ (.int .i64 r5))) (a := ⟨F, 0, none⟩) (by dsimp only; omega) (.int .i64 on)))
      have XF9 := ((((((XF5.other (a := ⟨sg, so + k * 6, none⟩) hFs (.int .i64 r0)).other (a := ⟨sg, so + k * 6 + 1, none⟩) hFs (.int .i64 r1)).other (a := ⟨sg, so + k * 6 + 2, none⟩) hFs (.int .i64 r2)).other (a := ⟨sg, so + k * 6 + 3, none⟩) hFs (.int .i64 r3)).other (a := ⟨sg, so + k * 6 + 4, none⟩) hFs (.int .i64 r4)).other (a := ⟨sg, so + k * 6 + 5, none⟩) hFs (.int .i64 r5)).set 0 (.int .i64 on)
      generalize (((((((w5.setCell ⟨sg, so + k * 6, none⟩ (.int .i64 r0)).setCell ⟨sg, so + k * 6 + 1, none⟩ (.int .i64 r1)).setCell ⟨sg, so + k * 6 + 2, none⟩ (.int .i64 r2)).setCell ⟨sg, so + k * 6 + 3, none⟩ (.int .i64 r3)).setCell ⟨sg, so + k * 6 + 4, none⟩ (.int .i64 r4)).setCell ⟨sg, so + k * 6 + 5, none⟩ (.int .i64 r5)).setCell ⟨F, 0, none⟩ (.int .i64 on)) = w9 at H9 hk9 hkf9 XF9 ⊢
      clear s0 s1 s2 s3 s4 s5 e0 e1 e2 e3 e4 e5 hst5 hH5 XF5 Yc0 Yf0 Yc1 Yf1 Yc2 Yf2 Yc3 Yf3 Yc4 Yf4 Yc5 Yf5 Yz XF5c0 XF5f0 XF5z Y
      have X29 := hk9.box X25 (by rintro (h | h) <;> omega)
      have X39 := hk9.box X35 (by rintro (h | h) <;> omega)
      have XC9 := hk9.box XC5 (by rintro (h | h) <;> omega)
      have hg9 := hk9.box hg5 (by rintro (h | h) <;> omega)
      clear X25 X35 XC5 hg5
      obtain ⟨q, hq⟩ : ∃ q, Hid (stuck.getD k false = q) := ⟨_, rfl⟩
      have b0 := H9.was hkn
      rw [midK_now, hq.out] at b0
      have b1 := (H9.free (ko + k)).2
      have c0 : w9.cell? ⟨w.heap.size, 0, none⟩ = some (.pointer (some ⟨G, 0, none⟩)) := X29.cell 0
      have c4 : w9.cell? ⟨G, 4, none⟩ = some (.slice (some ⟨kb, ko, none⟩) n kcap) := hg9.cell 4
      have c2 : w9.cell? ⟨w.heap.size + 1, 2, none⟩ = some (.slice (some ⟨bk, ok, none⟩) n ck) := X39.cell 2
      have c5 : w9.cell? ⟨bk, ok + k, none⟩ = some (.bool u) := (hk9.low.cell hbk).trans ((hw5.cell (by dsimp only; omega)).trans q0)
      have z2 := X29.lt
      have z3 := X39.lt
      have zg := hg9.lt
      have zk := H9.lt.2
      have zbk : bk < w9.heap.size := by omega
      have hkb2 : bk ≠ kb := by omega
      have hh := hourK_yes hf.out HLE.out
      rw [hnx.out] at hh
      have HH := Lib.hid hh
      clear hh
      have hlen : (gateL k ++ [k]).length = k + 1 := by rw [gateL, List.length_append, List.length_range]; rfl
      have HLN := Lib.hid hlen
      clear hlen
      have fin : ∀ b, b = (q || u) → KeepsFrom w3.heap.size W (w9.drew.setCell ⟨kb, ko + k, none⟩ (.bool b)) ∧ KeepsC D (fun b => b = G ∨ b = sg ∨ b = kb ∨ b = F) W (w9.drew.setCell ⟨kb, ko + k, none⟩ (.bool b)) ∧ KeepsC D (fun b => b = G ∨ b = sg ∨ b = kb ∨ b = F) w (w9.drew.setCell ⟨kb, ko + k, none⟩ (.bool b)) ∧ Box (w9.drew.setCell ⟨kb, ko + k, none⟩ (.bool b)) w.heap.size [.pointer (some ⟨G, 0, none⟩)] ∧ Box (w9.drew.setCell ⟨kb, ko + k, none⟩ (.bool b)) (w.heap.size + 1) [.int .i64 s.feed, .slice (some ⟨bm, om, none⟩) n cm, .slice (some ⟨bk, ok, none⟩) n ck] ∧ Box (w9.drew.setCell ⟨kb, ko + k, none⟩ (.bool b)) C [.func (.func 71) #[.pointer (some ⟨G, 0, none⟩)] #[]] ∧ Box (w9.drew.setCell ⟨kb, ko + k, none⟩ (.bool b)) G (gameL (.slice (some ⟨bp, op, none⟩) n kp) (.slice Ac n kc) Vb (.slice (some ⟨sg, so, none⟩) n sc) (.slice (some ⟨kb, ko, none⟩) n kcap) bad) ∧ HourAt (w9.drew.setCell ⟨kb, ko + k, none⟩ (.bool b)) D G x n (x.midS sts s (k + 1)) (midK stuck s.stuck (k + 1)) (some ⟨bp, op, none⟩) Ac kp kc sg so kb ko ∧ Box (w9.drew.setCell ⟨kb, ko + k, none⟩ (.bool b)) F [.int .i64 on] := by
        intro b hb
        have hd := (Below.refl w9.heap.size w9).drew
        have hS : KeepsC D (fun b => b = kb) w9 (w9.drew.setCell ⟨kb, ko + k, none⟩ (.bool b)) := (KeepsC.of hd (by omega)).trans (KeepsC.set (R := fun b => b = kb) w9.drew (a := ⟨kb, ko + k, none⟩) hDk rfl (.bool b))
        have hT : KeepsC D (fun b => b = G ∨ b = sg ∨ b = kb ∨ b = F) W1 (w9.drew.setCell ⟨kb, ko + k, none⟩ (.bool b)) := ((KeepsC.of hw5 hDW).trans (hk9.wider (fun b h => h.elim (fun e => .inr (.inl e)) (fun e => .inr (.inr (.inr e)))))).trans (hS.wider (fun b e => .inr (.inr (.inl e))))
        refine ⟨((hkf1.trans (kfOf hw5)).trans hkf9).trans ((kfOf hd).trans (kfCell (D := w3.heap.size) (A := w9.drew) (a := ⟨kb, ko + k, none⟩) (by dsimp only; omega) (.bool b))), hk1.trans hT, hKw1.trans hT, hS.box X29 (by omega), hS.box X39 (by omega), hS.box XC9 (by omega), hS.box hg9 (by omega), ?_, hS.box XF9 (by omega)⟩
        refine ((H9.under hd (by omega)).setStuck hkn b).congr (fun i hi => ?_) (fun i hi => ?_)
        · by_cases hik : i = k
          · subst hik
            rw [if_pos rfl, midS_new hf.out HLE.out, hnx.out]
          · rw [if_neg hik, midS_old hf.out HLE.out hik]
        · by_cases hik : i = k
          · subst hik
            rw [if_pos rfl, midK_new, hq.out, HSU.out, hb]
          · rw [if_neg hik, midK_old hik]
      clear H9 hk9 hkf9 XF9 X29 X39 XC9 hg9 hk1 hKw1 hkf1
      have hd9 := (Below.refl w9.heap.size w9).drew
      have a0 : ∀ z : Later w9, z.w.cell? ⟨w.heap.size, 0, none⟩ = some (.pointer (some ⟨G, 0, none⟩)) := Later.cell c0 z2
      have a4 : ∀ z : Later w9, z.w.cell? ⟨G, 4, none⟩ = some (.slice (some ⟨kb, ko, none⟩) n kcap) := Later.cell c4 zg
      have a2 : ∀ z : Later w9, z.w.cell? ⟨w.heap.size + 1, 2, none⟩ = some (.slice (some ⟨bk, ok, none⟩) n ck) := Later.cell c2 z3
      have a5 : ∀ z : Later w9, z.w.cell? ⟨bk, ok + k, none⟩ = some (.bool u) := Later.cell c5 zbk
      have a6 : ∀ z : Later w9, z.w.cell? ⟨kb, ko + k, none⟩ = some (.bool q) := Later.cell b0 zk
      cases q <;> cases u
      · refine wpIn_region_last (C := fun w' => ∃ x : Later w9, w' = x.w) [0, 1, 2, 3, 4, 5, 6, 7, 8, 9, 10, 11, 12, 13, 14, 15, 16, 17, 18, 19] (by kernel_rfl) (by kernel_rfl) (Later.mk' hd9) (fun _ _ h => h) ?_
        simp only [headOps, List.filterMap_cons, List.filterMap_nil, List.getElem?_toArray, List.getElem?_cons_succ, List.getElem?_cons_zero]
        repeat (first | go_big_quiet_skip | (show wpQuiet _ _ _ _ (_ :: _) _; go_big_quiet_skip) | (show wpQuiet _ _ _ _ (_ :: _) _; go_big_quiet_want; go_big_quiet_op; go_big_quiet_on))
        refine wpQuiet_nil ?_
        refine anyE_last (w' := w9.drew.setCell ⟨kb, ko + k, none⟩ (.bool false)) (by kernel_rfl) rfl rfl rfl (Later.mk' hd9) ?_ (by kernel_rfl) (by kernel_rfl) ?_
        · go_simp
        obtain ⟨k1, k2, k3, k4, k5, k6, k7, k8, k9⟩ := fin false rfl
        refine ⟨k1, ⟨k2, fun _ => ⟨_, k7⟩⟩, ?_⟩
        have hz9 := k1.size
        refine ⟨by omega, k3, k4, k5, k6, k7, ?_, on, ls ++ [⟨r0, r1, r2, r3, r4, r5⟩], ?_, k9⟩
        · rw [HLN.out]
          exact k8
        · rw [HLN.out]
          exact HH
      · refine wpIn_region_last (C := fun w' => ∃ x : Later w9, w' = x.w) [0, 1, 2, 3, 4, 5, 6, 7, 8, 9, 10, 11, 12, 13, 14, 15, 16, 17, 18, 19] (by kernel_rfl) (by kernel_rfl) (Later.mk' hd9) (fun _ _ h => h) ?_
        simp only [headOps, List.filterMap_cons, List.filterMap_nil, List.getElem?_toArray, List.getElem?_cons_succ, List.getElem?_cons_zero]
        repeat (first | go_big_quiet_skip | (show wpQuiet _ _ _ _ (_ :: _) _; go_big_quiet_skip) | (show wpQuiet _ _ _ _ (_ :: _) _; go_big_quiet_want; go_big_quiet_op; go_big_quiet_on))
        refine wpQuiet_nil ?_
        refine anyE_last (w' := w9.drew.setCell ⟨kb, ko + k, none⟩ (.bool true)) (by kernel_rfl) rfl rfl rfl (Later.mk' hd9) ?_ (by kernel_rfl) (by kernel_rfl) ?_
        · go_simp
        obtain ⟨k1, k2, k3, k4, k5, k6, k7, k8, k9⟩ := fin true rfl
        refine ⟨k1, ⟨k2, fun _ => ⟨_, k7⟩⟩, ?_⟩
        have hz9 := k1.size
        refine ⟨by omega, k3, k4, k5, k6, k7, ?_, on, ls ++ [⟨r0, r1, r2, r3, r4, r5⟩], ?_, k9⟩
        · rw [HLN.out]
          exact k8
        · rw [HLN.out]
          exact HH
      · refine wpIn_region_last (C := fun w' => ∃ x : Later w9, w' = x.w) [0, 1, 2, 3, 4, 5, 6, 7, 8, 9, 10, 11, 12, 13, 14, 15, 16, 17, 18, 19] (by kernel_rfl) (by kernel_rfl) (Later.mk' hd9) (fun _ _ h => h) ?_
        simp only [headOps, List.filterMap_cons, List.filterMap_nil, List.getElem?_toArray, List.getElem?_cons_succ, List.getElem?_cons_zero]
        repeat (first | go_big_quiet_skip | (show wpQuiet _ _ _ _ (_ :: _) _; go_big_quiet_skip) | (show wpQuiet _ _ _ _ (_ :: _) _; go_big_quiet_want; go_big_quiet_op; go_big_quiet_on))
        refine wpQuiet_nil ?_
        refine anyE_last (w' := w9.drew.setCell ⟨kb, ko + k, none⟩ (.bool true)) (by kernel_rfl) rfl rfl rfl (Later.mk' hd9) ?_ (by kernel_rfl) (by kernel_rfl) ?_
        · go_simp
        obtain ⟨k1, k2, k3, k4, k5, k6, k7, k8, k9⟩ := fin true rfl
        refine ⟨k1, ⟨k2, fun _ => ⟨_, k7⟩⟩, ?_⟩
        have hz9 := k1.size
        refine ⟨by omega, k3, k4, k5, k6, k7, ?_, on, ls ++ [⟨r0, r1, r2, r3, r4, r5⟩], ?_, k9⟩
        · rw [HLN.out]
          exact k8
        · rw [HLN.out]
          exact HH
      · refine wpIn_region_last (C := fun w' => ∃ x : Later w9, w' = x.w) [0, 1, 2, 3, 4, 5, 6, 7, 8, 9, 10, 11, 12, 13, 14, 15, 16, 17, 18, 19] (by kernel_rfl) (by kernel_rfl) (Later.mk' hd9) (fun _ _ h => h) ?_
        simp only [headOps, List.filterMap_cons, List.filterMap_nil, List.getElem?_toArray, List.getElem?_cons_succ, List.getElem?_cons_zero]
        repeat (first | go_big_quiet_skip | (show wpQuiet _ _ _ _ (_ :: _) _; go_big_quiet_skip) | (show wpQuiet _ _ _ _ (_ :: _) _; go_big_quiet_want; go_big_quiet_op; go_big_quiet_on))
        refine wpQuiet_nil ?_
        refine anyE_last (w' := w9.drew.setCell ⟨kb, ko + k, none⟩ (.bool true)) (by kernel_rfl) rfl rfl rfl (Later.mk' hd9) ?_ (by kernel_rfl) (by kernel_rfl) ?_
        · go_simp
        obtain ⟨k1, k2, k3, k4, k5, k6, k7, k8, k9⟩ := fin true rfl
        refine ⟨k1, ⟨k2, fun _ => ⟨_, k7⟩⟩, ?_⟩
        have hz9 := k1.size
        refine ⟨by omega, k3, k4, k5, k6, k7, ?_, on, ls ++ [⟨r0, r1, r2, r3, r4, r5⟩], ?_, k9⟩
        · rw [HLN.out]
          exact k8
        · rw [HLN.out]
          exact HH
    simp only [headOps, List.filterMap_cons, List.filterMap_nil, List.getElem?_toArray, List.getElem?_cons_succ, List.getElem?_cons_zero]
    repeat (first | go_big_quiet_skip | (show wpQuiet _ _ _ _ (_ :: _) _; go_big_quiet_skip) | (show wpQuiet _ _ _ _ (_ :: _) _; go_big_quiet_want; go_big_quiet_op; go_big_quiet_on))
    refine wpQuiet_nil ?_
    clear f0 f1 f2 f3 f4 f5 f6 f7 f8 f9 f10 f11 v0 v1 v2 v3 v4 v5 g0 g1 g2 g3 g4 g5
    refine anyC_two (n := 9) (i := 8) (j := 24) (by kernel_rfl) (Later.mk' hd) ?_ ?_
    · refine wpOp_callD (some 42) (by rfl) rfl rfl ?_ ((hcode W1.drew hd).mono ?_)
      · go_simp
      rintro e w2 ⟨rfl, hw2'⟩
      have hw2 := hd.trans (hw2'.mono hd.size)
      clear hw2'
      refine ⟨_, rfl, ?_⟩
      simp only [Act.put, List.setIfInBounds_toArray, List.set_cons_zero, List.set_cons_succ]
      refine anyC_two (n := 8) (i := 19) (j := 24) (by kernel_rfl) (Later.mk' hw2) ?_ ?_
      · refine wpOp_callD (some 53) (by rfl) rfl rfl ?_ ((hnext w2 hw2).mono ?_)
        · go_simp
        rintro e w3 ⟨rfl, hw3'⟩
        have hw3 := hw2.trans (hw3'.mono hw2.size)
        clear hw3'
        refine ⟨_, rfl, ?_⟩
        simp only [Act.put, List.setIfInBounds_toArray, List.set_cons_zero, List.set_cons_succ]
        refine anyC_heads (by kernel_rfl) 4 w3 (Later.mk' hw3) [20, 21, 22, 23] _ _ (by kernel_rfl) ?_
        simp only [headOps, List.filterMap_cons, List.filterMap_nil, List.getElem?_toArray, List.getElem?_cons_succ, List.getElem?_cons_zero]
        repeat (first | go_big_quiet_skip | (show wpQuiet _ _ _ _ (_ :: _) _; go_big_quiet_skip) | (show wpQuiet _ _ _ _ (_ :: _) _; go_big_quiet_want; go_big_quiet_op; go_big_quiet_on))
        refine wpQuiet_nil ?_
        refine anyC_valD (some 9) (n := 3) (i := 24) (v := .pointer (some ⟨w3.heap.size, 0, none⟩)) (w' := w3.alloc (.cells #[.int .i64 0, .int .i64 0, .int .i64 0, .int .i64 0, .int .i64 0, .int .i64 0] 51)) (by kernel_rfl) rfl rfl rfl (Later.mk' hw3) ?_ ?_
        · go_simp
        simp only [Act.put, List.setIfInBounds_toArray, List.set_cons_zero, List.set_cons_succ]
        have Y := Box.new w3 [.int .i64 0, .int .i64 0, .int .i64 0, .int .i64 0, .int .i64 0, .int .i64 0] 51
        have hw4 := hw3.alloc hw3.size (.cells #[.int .i64 0, .int .i64 0, .int .i64 0, .int .i64 0, .int .i64 0, .int .i64 0] 51)
        have hFa := hw3.size
        generalize w3.alloc (.cells #[.int .i64 0, .int .i64 0, .int .i64 0, .int .i64 0, .int .i64 0, .int .i64 0] 51) = w4 at Y hw4 ⊢
        generalize w3.heap.size = Fa at Y hFa ⊢
        have Yc0 : w4.cell? ⟨Fa, 0, none⟩ = some (.int .i64 0) := Y.cell 0
        have Yf0 : w4.frozen? ⟨Fa, 0, none⟩ = false := Y.free 0
        have Yc1 : w4.cell? ⟨Fa, 1, none⟩ = some (.int .i64 0) := Y.cell 1
        have Yf1 : w4.frozen? ⟨Fa, 1, none⟩ = false := Y.free 1
        have Yc2 : w4.cell? ⟨Fa, 2, none⟩ = some (.int .i64 0) := Y.cell 2
        have Yf2 : w4.frozen? ⟨Fa, 2, none⟩ = false := Y.free 2
        have Yc3 : w4.cell? ⟨Fa, 3, none⟩ = some (.int .i64 0) := Y.cell 3
        have Yf3 : w4.frozen? ⟨Fa, 3, none⟩ = false := Y.free 3
        have Yc4 : w4.cell? ⟨Fa, 4, none⟩ = some (.int .i64 0) := Y.cell 4
        have Yf4 : w4.frozen? ⟨Fa, 4, none⟩ = false := Y.free 4
        have Yc5 : w4.cell? ⟨Fa, 5, none⟩ = some (.int .i64 0) := Y.cell 5
        have Yf5 : w4.frozen? ⟨Fa, 5, none⟩ = false := Y.free 5
        have Yz : Fa < w4.heap.size := Y.lt
        have hw9 := ((((((hw4.setCell (p := ⟨Fa, 0, none⟩) (by simp <;> omega) (.int .i64 r0)).setCell (p := ⟨Fa, 1, none⟩) (by simp <;> omega) (.int .i64 r1)).setCell (p := ⟨Fa, 2, none⟩) (by simp <;> omega) (.int .i64 r2)).setCell (p := ⟨Fa, 3, none⟩) (by simp <;> omega) (.int .i64 r3)).setCell (p := ⟨Fa, 4, none⟩) (by simp <;> omega) (.int .i64 r4)).setCell (p := ⟨Fa, 5, none⟩) (by simp <;> omega) (.int .i64 r5))
        refine anyC_storeN (w' := ((((((w4.setCell ⟨Fa, 0, none⟩ (.int .i64 r0)).setCell ⟨Fa, 1, none⟩ (.int .i64 r1)).setCell ⟨Fa, 2, none⟩ (.int .i64 r2)).setCell ⟨Fa, 3, none⟩ (.int .i64 r3)).setCell ⟨Fa, 4, none⟩ (.int .i64 r4)).setCell ⟨Fa, 5, none⟩ (.int .i64 r5))) (n := 2) (i := 25) (by kernel_rfl) rfl rfl rfl (Later.mk' hw4) ?_ ?_
        · go_simp
        have Y9 := ((((((Y.set 0 (.int .i64 r0)).set 1 (.int .i64 r1)).set 2 (.int .i64 r2)).set 3 (.int .i64 r3)).set 4 (.int .i64 r4)).set 5 (.int .i64 r5))
        generalize ((((((w4.setCell ⟨Fa, 0, none⟩ (.int .i64 r0)).setCell ⟨Fa, 1, none⟩ (.int .i64 r1)).setCell ⟨Fa, 2, none⟩ (.int .i64 r2)).setCell ⟨Fa, 3, none⟩ (.int .i64 r3)).setCell ⟨Fa, 4, none⟩ (.int .i64 r4)).setCell ⟨Fa, 5, none⟩ (.int .i64 r5)) = w9 at hw9 Y9 ⊢
        refine anyC_valD (some 10) (n := 1) (i := 26) (v := .int .i64 on) (w' := w9) (by kernel_rfl) rfl rfl rfl (Later.mk' hw9) (by first | rfl | go_simp) ?_
        simp only [Act.put, List.setIfInBounds_toArray, List.set_cons_zero, List.set_cons_succ]
        refine anyC_valD (some 11) (n := 0) (i := 27) (v := .int .i64 0) (w' := w9) (by kernel_rfl) rfl rfl rfl (Later.mk' hw9) (by first | rfl | go_simp) ?_
        simp only [Act.put, List.setIfInBounds_toArray, List.set_cons_zero, List.set_cons_succ]
        refine anyC_done (by kernel_rfl) (Later.mk' hw9) ?_
        exact ⟨Fa, _, _, _, _, _, _, _, _, _, _, _, _, _, _, _, _, _, _, _, _, _, _, _, _, _, _, _, _, _, _, _, _, _, _, _, _, _, hw9, hFa, Y9, rfl⟩
      · refine wpOp_valD (some 9) (v := .pointer (some ⟨w2.heap.size, 0, none⟩)) (w' := w2.alloc (.cells #[.int .i64 0, .int .i64 0, .int .i64 0, .int .i64 0, .int .i64 0, .int .i64 0] 51)) (by rfl) rfl rfl ?_ ?_
        · go_simp
        simp only [Act.put, List.setIfInBounds_toArray, List.set_cons_zero, List.set_cons_succ]
        have Y := Box.new w2 [.int .i64 0, .int .i64 0, .int .i64 0, .int .i64 0, .int .i64 0, .int .i64 0] 51
        have hw3 := hw2.alloc hw2.size (.cells #[.int .i64 0, .int .i64 0, .int .i64 0, .int .i64 0, .int .i64 0, .int .i64 0] 51)
        have hFa := hw2.size
        generalize w2.alloc (.cells #[.int .i64 0, .int .i64 0, .int .i64 0, .int .i64 0, .int .i64 0, .int .i64 0] 51) = w3 at Y hw3 ⊢
        generalize w2.heap.size = Fa at Y hFa ⊢
        refine anyC_callD (some 53) (n := 7) (i := 19) (by kernel_rfl) rfl rfl rfl (Later.mk' hw3) ?_ ((hnext w3 hw3).mono ?_)
        · go_simp
        rintro e w4 ⟨rfl, hw4'⟩
        have hw4 := hw3.trans (hw4'.mono hw3.size)
        have Y := Y.later hw4'
        clear hw4'
        refine ⟨_, rfl, ?_⟩
        simp only [Act.put, List.setIfInBounds_toArray, List.set_cons_zero, List.set_cons_succ]
        refine anyC_heads (by kernel_rfl) 3 w4 (Later.mk' hw4) [20, 21, 22, 23] _ _ (by kernel_rfl) ?_
        simp only [headOps, List.filterMap_cons, List.filterMap_nil, List.getElem?_toArray, List.getElem?_cons_succ, List.getElem?_cons_zero]
        repeat (first | go_big_quiet_skip | (show wpQuiet _ _ _ _ (_ :: _) _; go_big_quiet_skip) | (show wpQuiet _ _ _ _ (_ :: _) _; go_big_quiet_want; go_big_quiet_op; go_big_quiet_on))
        refine wpQuiet_nil ?_
        have Yc0 : w4.cell? ⟨Fa, 0, none⟩ = some (.int .i64 0) := Y.cell 0
        have Yf0 : w4.frozen? ⟨Fa, 0, none⟩ = false := Y.free 0
        have Yc1 : w4.cell? ⟨Fa, 1, none⟩ = some (.int .i64 0) := Y.cell 1
        have Yf1 : w4.frozen? ⟨Fa, 1, none⟩ = false := Y.free 1
        have Yc2 : w4.cell? ⟨Fa, 2, none⟩ = some (.int .i64 0) := Y.cell 2
        have Yf2 : w4.frozen? ⟨Fa, 2, none⟩ = false := Y.free 2
        have Yc3 : w4.cell? ⟨Fa, 3, none⟩ = some (.int .i64 0) := Y.cell 3
        have Yf3 : w4.frozen? ⟨Fa, 3, none⟩ = false := Y.free 3
        have Yc4 : w4.cell? ⟨Fa, 4, none⟩ = some (.int .i64 0) := Y.cell 4
        have Yf4 : w4.frozen? ⟨Fa, 4, none⟩ = false := Y.free 4
        have Yc5 : w4.cell? ⟨Fa, 5, none⟩ = some (.int .i64 0) := Y.cell 5
        have Yf5 : w4.frozen? ⟨Fa, 5, none⟩ = false := Y.free 5
        have Yz : Fa < w4.heap.size := Y.lt
        have hw9 := ((((((hw4.setCell (p := ⟨Fa, 0, none⟩) (by simp <;> omega) (.int .i64 r0)).setCell (p := ⟨Fa, 1, none⟩) (by simp <;> omega) (.int .i64 r1)).setCell (p := ⟨Fa, 2, none⟩) (by simp <;> omega) (.int .i64 r2)).setCell (p := ⟨Fa, 3, none⟩) (by simp <;> omega) (.int .i64 r3)).setCell (p := ⟨Fa, 4, none⟩) (by simp <;> omega) (.int .i64 r4)).setCell (p := ⟨Fa, 5, none⟩) (by simp <;> omega) (.int .i64 r5))
        refine anyC_storeN (w' := ((((((w4.setCell ⟨Fa, 0, none⟩ (.int .i64 r0)).setCell ⟨Fa, 1, none⟩ (.int .i64 r1)).setCell ⟨Fa, 2, none⟩ (.int .i64 r2)).setCell ⟨Fa, 3, none⟩ (.int .i64 r3)).setCell ⟨Fa, 4, none⟩ (.int .i64 r4)).setCell ⟨Fa, 5, none⟩ (.int .i64 r5))) (n := 2) (i := 25) (by kernel_rfl) rfl rfl rfl (Later.mk' hw4) ?_ ?_
        · go_simp
        have Y9 := ((((((Y.set 0 (.int .i64 r0)).set 1 (.int .i64 r1)).set 2 (.int .i64 r2)).set 3 (.int .i64 r3)).set 4 (.int .i64 r4)).set 5 (.int .i64 r5))
        generalize ((((((w4.setCell ⟨Fa, 0, none⟩ (.int .i64 r0)).setCell ⟨Fa, 1, none⟩ (.int .i64 r1)).setCell ⟨Fa, 2, none⟩ (.int .i64 r2)).setCell ⟨Fa, 3, none⟩ (.int .i64 r3)).setCell ⟨Fa, 4, none⟩ (.int .i64 r4)).setCell ⟨Fa, 5, none⟩ (.int .i64 r5)) = w9 at hw9 Y9 ⊢
        refine anyC_valD (some 10) (n := 1) (i := 26) (v := .int .i64 on) (w' := w9) (by kernel_rfl) rfl rfl rfl (Later.mk' hw9) (by first | rfl | go_simp) ?_
        simp only [Act.put, List.setIfInBounds_toArray, List.set_cons_zero, List.set_cons_succ]
        refine anyC_valD (some 11) (n := 0) (i := 27) (v := .int .i64 0) (w' := w9) (by kernel_rfl) rfl rfl rfl (Later.mk' hw9) (by first | rfl | go_simp) ?_
        simp only [Act.put, List.setIfInBounds_toArray, List.set_cons_zero, List.set_cons_succ]
        refine anyC_done (by kernel_rfl) (Later.mk' hw9) ?_
        exact ⟨Fa, _, _, _, _, _, _, _, _, _, _, _, _, _, _, _, _, _, _, _, _, _, _, _, _, _, _, _, _, _, _, _, _, _, _, _, _, _, hw9, hFa, Y9, rfl⟩
    · refine wpOp_valD (some 9) (v := .pointer (some ⟨W1.heap.size, 0, none⟩)) (w' := W1.drew.alloc (.cells #[.int .i64 0, .int .i64 0, .int .i64 0, .int .i64 0, .int .i64 0, .int .i64 0] 51)) (by rfl) rfl rfl ?_ ?_
      · go_simp
      simp only [Act.put, List.setIfInBounds_toArray, List.set_cons_zero, List.set_cons_succ]
      have Y := Box.new W1.drew [.int .i64 0, .int .i64 0, .int .i64 0, .int .i64 0, .int .i64 0, .int .i64 0] 51
      have hw2 := hd.alloc hd.size (.cells #[.int .i64 0, .int .i64 0, .int .i64 0, .int .i64 0, .int .i64 0, .int .i64 0] 51)
      have hFa := hd.size
      have hdz : W1.drew.heap.size = W1.heap.size := rfl
      rw [hdz] at Y
      clear hFa
      generalize W1.drew.alloc (.cells #[.int .i64 0, .int .i64 0, .int .i64 0, .int .i64 0, .int .i64 0, .int .i64 0] 51) = w2 at Y hw2 ⊢
      have hFa : W1.heap.size ≤ W1.heap.size := Nat.le_refl _
      clear hdz
      refine anyC_callD (some 42) (n := 8) (i := 8) (by kernel_rfl) rfl rfl rfl (Later.mk' hw2) ?_ ((hcode w2 hw2).mono ?_)
      · go_simp
      rintro e w3 ⟨rfl, hw3'⟩
      have hw3 := hw2.trans (hw3'.mono hw2.size)
      have Y := Y.later hw3'
      clear hw3'
      refine ⟨_, rfl, ?_⟩
      simp only [Act.put, List.setIfInBounds_toArray, List.set_cons_zero, List.set_cons_succ]
      refine anyC_callD (some 53) (n := 7) (i := 19) (by kernel_rfl) rfl rfl rfl (Later.mk' hw3) ?_ ((hnext w3 hw3).mono ?_)
      · go_simp
      rintro e w4 ⟨rfl, hw4'⟩
      have hw4 := hw3.trans (hw4'.mono hw3.size)
      have Y := Y.later hw4'
      clear hw4'
      refine ⟨_, rfl, ?_⟩
      simp only [Act.put, List.setIfInBounds_toArray, List.set_cons_zero, List.set_cons_succ]
      refine anyC_heads (by kernel_rfl) 3 w4 (Later.mk' hw4) [20, 21, 22, 23] _ _ (by kernel_rfl) ?_
      simp only [headOps, List.filterMap_cons, List.filterMap_nil, List.getElem?_toArray, List.getElem?_cons_succ, List.getElem?_cons_zero]
      repeat (first | go_big_quiet_skip | (show wpQuiet _ _ _ _ (_ :: _) _; go_big_quiet_skip) | (show wpQuiet _ _ _ _ (_ :: _) _; go_big_quiet_want; go_big_quiet_op; go_big_quiet_on))
      refine wpQuiet_nil ?_
      have Yc0 : w4.cell? ⟨W1.heap.size, 0, none⟩ = some (.int .i64 0) := Y.cell 0
      have Yf0 : w4.frozen? ⟨W1.heap.size, 0, none⟩ = false := Y.free 0
      have Yc1 : w4.cell? ⟨W1.heap.size, 1, none⟩ = some (.int .i64 0) := Y.cell 1
      have Yf1 : w4.frozen? ⟨W1.heap.size, 1, none⟩ = false := Y.free 1
      have Yc2 : w4.cell? ⟨W1.heap.size, 2, none⟩ = some (.int .i64 0) := Y.cell 2
      have Yf2 : w4.frozen? ⟨W1.heap.size, 2, none⟩ = false := Y.free 2
      have Yc3 : w4.cell? ⟨W1.heap.size, 3, none⟩ = some (.int .i64 0) := Y.cell 3
      have Yf3 : w4.frozen? ⟨W1.heap.size, 3, none⟩ = false := Y.free 3
      have Yc4 : w4.cell? ⟨W1.heap.size, 4, none⟩ = some (.int .i64 0) := Y.cell 4
      have Yf4 : w4.frozen? ⟨W1.heap.size, 4, none⟩ = false := Y.free 4
      have Yc5 : w4.cell? ⟨W1.heap.size, 5, none⟩ = some (.int .i64 0) := Y.cell 5
      have Yf5 : w4.frozen? ⟨W1.heap.size, 5, none⟩ = false := Y.free 5
      have Yz : W1.heap.size < w4.heap.size := Y.lt
      have hw9 := ((((((hw4.setCell (p := ⟨W1.heap.size, 0, none⟩) (by simp <;> omega) (.int .i64 r0)).setCell (p := ⟨W1.heap.size, 1, none⟩) (by simp <;> omega) (.int .i64 r1)).setCell (p := ⟨W1.heap.size, 2, none⟩) (by simp <;> omega) (.int .i64 r2)).setCell (p := ⟨W1.heap.size, 3, none⟩) (by simp <;> omega) (.int .i64 r3)).setCell (p := ⟨W1.heap.size, 4, none⟩) (by simp <;> omega) (.int .i64 r4)).setCell (p := ⟨W1.heap.size, 5, none⟩) (by simp <;> omega) (.int .i64 r5))
      refine anyC_storeN (w' := ((((((w4.setCell ⟨W1.heap.size, 0, none⟩ (.int .i64 r0)).setCell ⟨W1.heap.size, 1, none⟩ (.int .i64 r1)).setCell ⟨W1.heap.size, 2, none⟩ (.int .i64 r2)).setCell ⟨W1.heap.size, 3, none⟩ (.int .i64 r3)).setCell ⟨W1.heap.size, 4, none⟩ (.int .i64 r4)).setCell ⟨W1.heap.size, 5, none⟩ (.int .i64 r5))) (n := 2) (i := 25) (by kernel_rfl) rfl rfl rfl (Later.mk' hw4) ?_ ?_
      · go_simp
      have Y9 := ((((((Y.set 0 (.int .i64 r0)).set 1 (.int .i64 r1)).set 2 (.int .i64 r2)).set 3 (.int .i64 r3)).set 4 (.int .i64 r4)).set 5 (.int .i64 r5))
      generalize ((((((w4.setCell ⟨W1.heap.size, 0, none⟩ (.int .i64 r0)).setCell ⟨W1.heap.size, 1, none⟩ (.int .i64 r1)).setCell ⟨W1.heap.size, 2, none⟩ (.int .i64 r2)).setCell ⟨W1.heap.size, 3, none⟩ (.int .i64 r3)).setCell ⟨W1.heap.size, 4, none⟩ (.int .i64 r4)).setCell ⟨W1.heap.size, 5, none⟩ (.int .i64 r5)) = w9 at hw9 Y9 ⊢
      refine anyC_valD (some 10) (n := 1) (i := 26) (v := .int .i64 on) (w' := w9) (by kernel_rfl) rfl rfl rfl (Later.mk' hw9) (by first | rfl | go_simp) ?_
      simp only [Act.put, List.setIfInBounds_toArray, List.set_cons_zero, List.set_cons_succ]
      refine anyC_valD (some 11) (n := 0) (i := 27) (v := .int .i64 0) (w' := w9) (by kernel_rfl) rfl rfl rfl (Later.mk' hw9) (by first | rfl | go_simp) ?_
      simp only [Act.put, List.setIfInBounds_toArray, List.set_cons_zero, List.set_cons_succ]
      refine anyC_done (by kernel_rfl) (Later.mk' hw9) ?_
      exact ⟨W1.heap.size, _, _, _, _, _, _, _, _, _, _, _, _, _, _, _, _, _, _, _, _, _, _, _, _, _, _, _, _, _, _, _, _, _, _, _, _, _, hw9, hFa, Y9, rfl⟩
  case done =>
    rintro Ed xs W hEd rfl ⟨h1, h2, h3, h4, h5, h6, h7, f, l, h8, h9⟩ hKd
    rw [gateL, List.length_range] at h7 h8
    refine .inl ⟨rfl, ?_⟩
    refine wpAt_of_wp ?_
    have c20 : W.cell? ⟨w.heap.size, 0, none⟩ = some (.pointer (some ⟨G, 0, none⟩)) := h3.cell 0
    have zc := h3.lt
    have hGA : GameAt W D G x n l (orL stuck s.stuck n) Ap kp sg so kb ko := ⟨hn8, h7.plants, h7.pn, hDG, fun k hk j hj => by rw [← midS_end h8.out hk]; exact h7.state hk j hj, h7.sG, fun k hk => by rw [← midK_end hk]; exact h7.was hk, h7.kG⟩
    have hEz := Array.getElem?_eq_some_iff.1 hKd |>.1
    have hGW := h6.lt
    go_wp2_with fail
    refine (mLook_is x n l (orL stuck s.stuck n) Ap (.slice Ac n kc) Vb kp sg so sc kb ko kcap D G bad W h6 (Lib.hid hGA)).mono ?_
    rintro e W4 ⟨rfl, hg4, hk4⟩
    have hKd4 := (hk4.oth Ed hEz (by omega)).trans hKd
    have h74 := (h7.keeps (R := fun b => b = G) hk4.keeps h7.sG h7.kG).record hKd4 rfl (by omega) (.deferred none)
    have hg5 := hg4.record hKd4 rfl (.deferred none)
    have hK5 := (h2.trans (hk4.keeps.wider (fun b e => .inl e))).trans (KeepsC.put hKd4 rfl (by omega) (.deferred none))
    have hlw : W.heap.size ≤ W4.heap.size := hk4.keeps.size
    go_wp2
    refine ⟨by simp, .inl ⟨_, _, rfl, run_takeDeferred hKd4, ?_⟩⟩
    refine ⟨_, (by simp [results, Try.results41, go_sem] : _ = Result.ok (Value.tuple #[]) _), ?_⟩
    refine .inl ⟨f, l, h8, rfl, h74.congr (fun k hk => midS_end h8.out hk) (fun k hk => midK_end hk), hg5, hK5.narrow ?_⟩
    rintro b hb (e | e | e | e)
    · exact .inl e
    · exact .inr (.inl e)
    · exact .inr (.inr e)
    · omega
  case panic =>
    rintro Ed ch pre W hEd ⟨rfl, h1, h2⟩ hKd
    refine .inr ⟨_, rfl, ?_⟩
    refine ⟨by simp, .inl ⟨_, _, rfl, run_takeDeferred hKd, ?_⟩⟩
    refine .inr ⟨h2, rfl, (h1.trans (KeepsC.put hKd rfl (by omega) (.deferred none))).narrow ?_⟩
    rintro b hb (e | e | e | e)
    · exact .inl e
    · exact .inr (.inl e)
    · exact .inr (.inr e)
    · omega
end Go.Proofs.Ytcjcjkomcolgeaa
