/- Sync of journal: the records are written. (Printed by gen_ld.py.) -/
import Derived.Test.YthlidhfahaalgaaQK
import Derived.Test.YthlidhfahaalgaaQLC
set_option linter.unusedVariables false
set_option linter.unusedSimpArgs false
set_option maxRecDepth 100000
set_option maxHeartbeats 16000000
namespace Go.Proofs.Ythlidhfahaalgaa
open Go.RowKit
attribute [local go_sem ↓ high] app_named cop_named
theorem usedT_take_le (l : List Bs) (k : Nat) : usedT (l.take k) ≤ usedT l := by
  have h := usedT_append (l.take k) (l.drop k)
  rw [List.take_append_drop] at h
  omega
theorem write_next {d : Dk} {g a0 i a j : Nat} {R : List Bs} {B : Bs} (hok : d.okB = true) (hst : d.stopped = false) (hp : d.pending = []) (hi : i < R.length) (hB : R.getD i [] = B) (ha : a = a0 + usedT (R.take i)) (hj : j < secT B.length) (hu : a0 + usedT R ≤ d.sectors.length) :
    writeT (d.adds (recsW g a0 (R.take i) ++ (recW g a B).take j)) ((a + j : Nat) : Int) (encT g (a + j) (kindK (decide (j = 0)) (decide (j + 1 = secT B.length))) (piece B j)) = (d.adds (recsW g a0 (R.take i) ++ (recW g a B).take (j + 1)), 0) ∧ a + j < 65536 := by
  have h1 : R[i] = B := by rw [← hB, List.getD_eq_getElem?_getD, List.getElem?_eq_getElem hi]; rfl
  have h2 := recsW_take_succ (g := g) (a := a0) hi
  rw [h1, ← ha] at h2
  have h3 := usedT_take_succ hi
  rw [h1] at h3
  have h4 := usedT_take_le R (i + 1)
  have h5 := (okB_parts hok).2.1
  have hlen : (recsW g a0 (R.take i) ++ (recW g a B).take j).length = usedT (R.take i) + j := by rw [List.length_append, recsW_length, List.length_take, recW_length]; omega
  have hmem : ∀ x ∈ recsW g a0 (R.take i) ++ (recW g a B).take j, 0 ≤ x.at' ∧ x.at' < (d.sectors.length : Int) ∧ x.data.length = 128 := fun x hx => by
    have : x ∈ recsW g a0 (R.take (i + 1)) := by
      rw [h2]
      rcases List.mem_append.1 hx with h | h
      · exact List.mem_append_left _ h
      · exact List.mem_append_right _ (List.mem_of_mem_take h)
    obtain ⟨m1, m2, m3⟩ := recsW_mem this
    exact ⟨by omega, by omega, m3⟩
  have hk := adds_ok hok hp (ws := recsW g a0 (R.take i) ++ (recW g a B).take j) (by rw [hlen]; omega) hmem
  refine ⟨?_, by omega⟩
  rw [adds_write hk hst hp (by rw [hlen]; omega) (by omega) (encT_length _ _ _ (piece_le _ _)), List.append_assoc, recW_take_succ hj]
  rfl
theorem BsAt.caps {w : World} {S : Nat → Prop} {A : Option Addr} {n c : Nat} {l : Bs} (h : BsAt w S (.slice A n c) l) : n ≤ c ∧ c ≤ 9223372036854775807 ∧ (A = none → n = 0 ∧ c = 0) := by
  rcases h.1 with e | ⟨a, n', c', e, h1, h2⟩
  · injection e with e1 e2 e3
    subst e1 e2 e3
    exact ⟨Nat.le_refl _, by decide, fun _ => ⟨rfl, rfl⟩⟩
  · injection e with e1 e2 e3
    subst e1 e2 e3
    exact ⟨h1, by simpa only [maxLen] using h2, fun h => by cases h⟩
theorem BsAt.taken {w : World} {S : Nat → Prop} {A : Option Addr} {n c k : Nat} {l : Bs} (h : BsAt w S (.slice A n c) l) (hk : k ≤ n) : BsAt w S (.slice A k c) (l.take k) := by
  obtain ⟨hf, A', c', hv, hm, hs⟩ := h
  cases hv
  have hl : (l.take k).length = k := by rw [List.length_take]; omega
  refine ⟨?_, A, c, by rw [hl], by rw [hl]; omega, fun i hi => ?_⟩
  · rcases hf with e | ⟨a, n', c', e, h1, h2⟩
    · injection e with e1 e2 e3
      subst e1 e3
      have : k = 0 := by omega
      subst this
      exact .inl rfl
    · injection e with e1 e2 e3
      subst e1 e3
      exact .inr ⟨a, k, c, rfl, by omega, h2⟩
  · rw [hl] at hi
    obtain ⟨b, o, e, h1, h2, h3⟩ := hs i (by omega)
    refine ⟨b, o, e, h1, h2, fun q hq => ?_⟩
    rw [h3 q hq]
    dsimp only
    rw [List.getD_eq_getElem?_getD, List.getD_eq_getElem?_getD, List.getElem?_take_of_lt hi]
def RetW (D : Dk) (ns : Nat) (dl : Int) (Q : Nat → Prop) (W : World) (e : Ending) (w' : World) : Prop := ∃ (As2 : Option Addr) (cs2 : Nat) (Ap2 : Option Addr) (np2 cp2 : Nat), e = .returned (.tuple #[.agg #[.slice As2 ns cs2, .slice Ap2 np2 cp2, .int .i64 dl, .bool false], .int .i64 0]) ∧ Hid (DkAt w' Q (.slice As2 ns cs2) (.slice Ap2 np2 cp2) D) ∧ Below W.heap.size W w'
theorem dWriteW {D D' : Dk} {ns : Nat} {dl : Int} {Vs Vp Vb : Value} {b : Bs} {Q : Nat → Prop} {W : World} {i : Int} (hl : D.left = dl) (hs : D.stopped = false) (hD : DkAt W Q Vs Vp D) (hb : BsAt W Q Vb b) (ht : writeT D i b = (D', 0)) (hl' : D'.left = dl) (hs' : D'.stopped = false) (hn' : D'.sectors.length = ns) (hQ : ∀ b, W.heap.size ≤ b → Q b) :
    Calls Try.prog 26 #[.agg #[Vs, Vp, .int .i64 dl, .bool false], .int .i64 i, Vb] W (RetW D' ns dl Q W) := by
  have h := dWrite_any D Vs Vp i Vb b Q W hD hb
  rw [Dk.v, hl, hs, ht] at h
  refine h.mono ?_
  rintro e w' ⟨Vs2, Vp2, m, er, rfl, ht, hDk, hb⟩
  obtain ⟨rfl, rfl⟩ := Prod.mk.inj ht.out
  obtain ⟨As2, cs2, rfl, _⟩ := hDk.out.sectors.form
  obtain ⟨Ap2, cp2, rfl, _⟩ := hDk.out.pending.form
  rw [Dk.v, hl', hs', hn']
  refine ⟨As2, cs2, Ap2, _, cp2, rfl, Lib.hid ?_, hb⟩
  have := hDk.out.weak (S' := Q) fun b hb _ => hb.elim id (hQ b)
  rwa [hn'] at this
theorem jSync_7 (l : Jn) (ab ao : Nat) (n c k : Nat) (d : Dk) (As : Option Addr) (ns cs : Nat) (Ap : Option Addr) (cp : Nat) (dl : Int) (S : Nat → Prop) (w : World) (h : Hid (RwAt w S (.slice (some ⟨ab, ao, none⟩) n c) l.records)) (hn : Hid (l.records.length = n)) (hm : Hid (l.many = (ns : Int))) (hy : Hid (l.synced = (k : Int))) (hs : Hid (sumB l.records ≤ 4194304)) (hD : Hid (DkAt w S (.slice As ns cs) (.slice Ap 0 cp) d)) (hdl : Hid (d.left = dl)) (hds : Hid (d.stopped = false)) (hns : Hid (d.sectors.length = ns)) (hnp : Hid (d.pending.length = 0)) (hc : Hid (l.checkT = 0)) (hcd : Hid (d.checkT = 0)) (heq : Hid (recordsT d.sectors = l.records.take k)) (hgl : Hid (genM d.sectors + 1 ≤ 4294967295)) (hkn : k < n) : Calls Try.prog 21 #[.agg #[.slice (some ⟨ab, ao, none⟩) n c, .int .i64 (ns : Int), .int .i64 (k : Int)], .agg #[.slice As ns cs, .slice Ap 0 cp, .int .i64 dl, .bool false]] w (RetJD (syncJ l d) S w) := by
  have HOK : Hid (l.okB = true) := by
    rcases hh : l.okB with _ | _
    · have := hc.out; rw [Jn.bad hh] at this; cases this
    · rfl
  have h128 : Hid (∀ s ∈ d.sectors, s.length = 128) := Lib.hid (by
    have hok : d.okB = true := by
      rcases h : d.okB with _ | _
      · have := hcd.out; rw [Dk.checkT, h] at this; exact absurd this (by decide)
      · rfl
    exact (okB_parts hok).2.2.2.2.2.2)
  have hns2 : ns ≤ 4096 := by
    have hok : d.okB = true := by
      rcases h : d.okB with _ | _
      · have := hcd.out; rw [Dk.checkT, h] at this; exact absurd this (by decide)
      · rfl
    rw [← hns.out]; exact (okB_parts hok).2.1
  have HD0 := Lib.hid (hD.out.sectors)
  have HB0 := ((((Below.refl w.heap.size w).alloc (Nat.le_refl _) (.cells #[.slice (some ⟨ab, ao, none⟩) n c, .int .i64 (ns : Int), .int .i64 (k : Int)] 29)).alloc (by simp) (.cells #[.slice As ns cs, .slice Ap 0 cp, .int .i64 dl, .bool false] 25)).alloc (by simp; omega) (.cells #[.slice none 0 0, .int .i64 0, .int .i64 0] 29)).alloc (by simp; omega) (.cells #[.slice none 0 0, .slice none 0 0, .int .i64 0, .bool false] 25)
  have HC := jCheck_any l (some ⟨ab, ao, none⟩) n c (ns : Int) (k : Int) S ((((w.alloc (.cells #[.slice (some ⟨ab, ao, none⟩) n c, .int .i64 (ns : Int), .int .i64 (k : Int)] 29)).alloc (.cells #[.slice As ns cs, .slice Ap 0 cp, .int .i64 dl, .bool false] 25)).alloc (.cells #[.slice none 0 0, .int .i64 0, .int .i64 0] 29)).alloc (.cells #[.slice none 0 0, .slice none 0 0, .int .i64 0, .bool false] 25)) (Lib.hid (h.out.keep (Keeps.of HB0))) hn hm hy hs
  rw [hc.out] at HC
  go_enter Try.func21, Try.ntmps21
  go_wp2_with fail
  refine HC.mono ?_
  rintro e w1 ⟨rfl, hb1⟩
  have XJ := ((((Box.new w [.slice (some ⟨ab, ao, none⟩) n c, .int .i64 (ns : Int), .int .i64 (k : Int)] 29).alloc (.cells #[.slice As ns cs, .slice Ap 0 cp, .int .i64 dl, .bool false] 25)).alloc (.cells #[.slice none 0 0, .int .i64 0, .int .i64 0] 29)).alloc (.cells #[.slice none 0 0, .slice none 0 0, .int .i64 0, .bool false] 25)).later hb1
  have XD := (((Box.newAt (w := w.alloc (.cells #[.slice (some ⟨ab, ao, none⟩) n c, .int .i64 (ns : Int), .int .i64 (k : Int)] 29)) (n := w.heap.size + 1) [.slice As ns cs, .slice Ap 0 cp, .int .i64 dl, .bool false] 25 (by simp)).alloc (.cells #[.slice none 0 0, .int .i64 0, .int .i64 0] 29)).alloc (.cells #[.slice none 0 0, .slice none 0 0, .int .i64 0, .bool false] 25)).later hb1
  have RJ := ((Box.newAt (w := (w.alloc (.cells #[.slice (some ⟨ab, ao, none⟩) n c, .int .i64 (ns : Int), .int .i64 (k : Int)] 29)).alloc (.cells #[.slice As ns cs, .slice Ap 0 cp, .int .i64 dl, .bool false] 25)) (n := w.heap.size + 2) [.slice none 0 0, .int .i64 0, .int .i64 0] 29 (by simp)).alloc (.cells #[.slice none 0 0, .slice none 0 0, .int .i64 0, .bool false] 25)).later hb1
  have RD := (Box.newAt (w := ((w.alloc (.cells #[.slice (some ⟨ab, ao, none⟩) n c, .int .i64 (ns : Int), .int .i64 (k : Int)] 29)).alloc (.cells #[.slice As ns cs, .slice Ap 0 cp, .int .i64 dl, .bool false] 25)).alloc (.cells #[.slice none 0 0, .int .i64 0, .int .i64 0] 29)) (n := w.heap.size + 3) [.slice none 0 0, .slice none 0 0, .int .i64 0, .bool false] 25 (by simp)).later hb1
  have hB := HB0.trans (hb1.mono HB0.size)
  clear hb1 HB0 HC
  obtain ⟨x0, x1, x2⟩ := XJ.c3
  have xz := XJ.lt
  obtain ⟨d0, d1, d2, d3⟩ := XD.c4
  have dz := XD.lt
  obtain ⟨r0, r1, r2⟩ := RJ.c3
  have f0 := RJ.free 0
  have f1 := RJ.free 1
  have f2 := RJ.free 2
  have rz := RJ.lt
  obtain ⟨s0, s1, s2, s3⟩ := RD.c4
  have g0 := RD.free 0
  have g1 := RD.free 1
  have g2 := RD.free 2
  have g3 := RD.free 3
  have sz := RD.lt
  have HDC := dCheck_at hcd (hD.out.keep (Keeps.of hB)) hdl.out hds.out
  go_wp2_with fail
  refine HDC.mono ?_
  rintro e w2 ⟨rfl, hb2⟩
  have XJ := XJ.later hb2
  have XD := XD.later hb2
  have RJ := RJ.later hb2
  have RD := RD.later hb2
  have hB := hB.trans (hb2.mono hB.size)
  clear hb2 HDC
  clear x0 x1 x2 xz d0 d1 d2 d3 dz r0 r1 r2 f0 f1 f2 rz s0 s1 s2 s3 g0 g1 g2 g3 sz
  obtain ⟨x0, x1, x2⟩ := XJ.c3
  have xz := XJ.lt
  obtain ⟨d0, d1, d2, d3⟩ := XD.c4
  have dz := XD.lt
  obtain ⟨r0, r1, r2⟩ := RJ.c3
  have f0 := RJ.free 0
  have f1 := RJ.free 1
  have f2 := RJ.free 2
  have rz := RJ.lt
  obtain ⟨s0, s1, s2, s3⟩ := RD.c4
  have g0 := RD.free 0
  have g1 := RD.free 1
  have g2 := RD.free 2
  have g3 := RD.free 3
  have sz := RD.lt
  have e1 : ((ns : Int) != (ns : Int)) = false := by simp
  go_wp2_with fail
  refine (jOpen_go d As ns cs Ap 0 cp dl false S w2 (Lib.hid (hD.out.keep (Keeps.of hB))) hdl hds hns hnp hcd rfl rfl h128 hns2).mono ?_
  rintro e w3 ⟨A', n', c', m', er, rfl, ht, hn', hrw, hb3⟩
  obtain ⟨R, hR⟩ : ∃ R, recordsT d.sectors = R := ⟨_, rfl⟩
  have hto := ht.out
  rw [openT, hcd.out, hds.out, List.eq_nil_of_length_eq_zero hnp.out, hns.out, hR] at hto
  simp only [ne_eq, not_true_eq_false, if_false, Bool.false_eq_true] at hto
  obtain ⟨rfl, rfl⟩ := Prod.mk.inj hto
  dsimp only at hn' hrw
  have HRR := Lib.hid hR
  have HN' := hn'
  have hn4 : n' ≤ 4096 := by rw [← hn'.out, ← hR]; have := records_len d.sectors; have := hns.out; omega
  have XJ := XJ.later hb3
  have XD := XD.later hb3
  have RJ := RJ.later hb3
  have RD := RD.later hb3
  have hB := hB.trans (hb3.mono hB.size)
  clear hb3 hto ht hR
  rw [hn'.out]
  clear x0 x1 x2 xz d0 d1 d2 d3 dz r0 r1 r2 f0 f1 f2 rz s0 s1 s2 s3 g0 g1 g2 g3 sz
  obtain ⟨x0, x1, x2⟩ := XJ.c3
  have xz := XJ.lt
  obtain ⟨d0, d1, d2, d3⟩ := XD.c4
  have dz := XD.lt
  obtain ⟨r0, r1, r2⟩ := RJ.c3
  have f0 := RJ.free 0
  have f1 := RJ.free 1
  have f2 := RJ.free 2
  have rz := RJ.lt
  obtain ⟨s0, s1, s2, s3⟩ := RD.c4
  have g0 := RD.free 0
  have g1 := RD.free 1
  have g2 := RD.free 2
  have g3 := RD.free 3
  have sz := RD.lt
  go_wp2_with fail
  clear x0 x1 x2 xz d0 d1 d2 d3 dz r0 r1 r2 f0 f1 f2 rz s0 s1 s2 s3 g0 g1 g2 g3 sz
  have XN := Box.new w3 [.slice A' n' c', .int .i64 (ns : Int), .int .i64 (n' : Int)] 29
  have XJ := XJ.alloc (.cells #[.slice A' n' c', .int .i64 (ns : Int), .int .i64 (n' : Int)] 29)
  have hNB := XD.lt
  have XD := XD.alloc (.cells #[.slice A' n' c', .int .i64 (ns : Int), .int .i64 (n' : Int)] 29)
  have RJ := RJ.alloc (.cells #[.slice A' n' c', .int .i64 (ns : Int), .int .i64 (n' : Int)] 29)
  have hNB := RD.lt
  have RD := RD.alloc (.cells #[.slice A' n' c', .int .i64 (ns : Int), .int .i64 (n' : Int)] 29)
  have hrw := Lib.hid (hrw.out.keep (Keeps.of ((Below.refl w3.heap.size w3).alloc (Nat.le_refl _) (.cells #[.slice A' n' c', .int .i64 (ns : Int), .int .i64 (n' : Int)] 29))))
  have hB := hB.alloc hB.size (.cells #[.slice A' n' c', .int .i64 (ns : Int), .int .i64 (n' : Int)] 29)
  generalize w3.alloc (.cells #[.slice A' n' c', .int .i64 (ns : Int), .int .i64 (n' : Int)] 29) = w4 at XN XJ XD RJ RD hrw hB ⊢
  generalize w3.heap.size = NB at XN hNB hrw ⊢
  obtain ⟨G, hG⟩ : ∃ G, genM d.sectors = G := ⟨_, rfl⟩
  have hG32 : G < 4294967296 := by rw [← hG]; exact genM_lt h128.out
  have HG := Lib.hid hG
  clear hG
  go_loopw [10, 59] (fun s10 s59 wi => ∃ (q g : Nat), q ≤ ns ∧ s59 = .int .i64 (q : Int) ∧ s10 = .int .u64 (g : Int) ∧ Hid (g = genM (d.sectors.take q) + 1) ∧ Below w4.heap.size w4 wi) (fun _ s59 _ => ns - (intOf s59).toNat)
  case atStart => exact ⟨0, 1, by omega, rfl, rfl, rfl, Below.refl _ _⟩
  case round =>
    obtain ⟨q, g, hq, rfl, rfl, hg, hB4⟩ := hrel
    have hBi := hB.trans (hB4.mono hB.size)
    obtain ⟨wi, rfl⟩ : ∃ wi : World, wi = wr := ⟨_, rfl⟩
    rcases Nat.lt_or_ge q ns with hlt | hge
    · have hqL : q < d.sectors.length := by rw [hns.out]; exact hlt
      obtain ⟨lb, lo, bs, os, css, hA, hSl, hzl, hcq, hbq, hcs1, hcs2⟩ := sec_at hD.out.sectors h128.out hqL
      subst hA
      have hsq := h128.out _ (List.getElem_mem hqL)
      have hKi : Keeps S w wi := Keeps.of hBi
      obtain ⟨u, hu⟩ : ∃ g, genT d.sectors[q] = g := ⟨_, rfl⟩
      obtain ⟨t, ht⟩ : ∃ t, tailT d.sectors[q] = t := ⟨_, rfl⟩
      have hu32 : u < 4294967296 := by rw [← hu]; exact genT_lt hsq
      have ht32 : t < 4294967296 := by rw [← ht]; exact tailT_lt hsq
      have hnx : Hid (max g (max (u + 1) (t + 1)) = genM (d.sectors.take (q + 1)) + 1) := by rw [Hid, genM_succ hqL, hg.out, hu, ht]; omega
      have hg32 : g ≤ 4294967296 := by rw [hg.out]; have := genM_lt (l := d.sectors.take q) fun s hs => h128.out s (List.mem_of_mem_take hs); omega
      have C1 := get4_at (hbq.keep hKi) hsq ⟨hcs1, hcs2⟩ hu
      have C2 := getTail_at (hbq.keep hKi) hsq ⟨hcs1, hcs2⟩ ht
      have y1 := hKi.cell hSl hzl hcq
      have j1 : IntKind.u64.wrap ((u : Int) + 1) = (u : Int) + 1 := wrap_u64_nat (a := u + 1) (by omega)
      have j2 : IntKind.u64.wrap ((t : Int) + 1) = (t : Int) + 1 := wrap_u64_nat (a := t + 1) (by omega)
      have i0 : (0 : Int) ≤ (q : Int) := by omega
      have i1 : (q : Int) < (ns : Int) := by omega
      have hcsl : (css : Int) ≤ 9223372036854775807 := by simp only [maxLen] at hcs2; omega
      clear hu ht hsq hbq hcq hg
      go_wp2_with fail
      refine wp_region_later (by kernel_rfl) (by kernel_rfl) ?_
      repeat (go_big_quiet_step ((go_at_call 41; first | with_reducible exact Later.same _ (C1 _) | with_reducible exact Later.same _ (C2 _))))
      refine wpQuiet_nil ?_
      intro _ hw'
      obtain ⟨yq, hw''⟩ := hw'
      subst hw''
      go_wp2
      refine ⟨⟨q + 1, max g (max (u + 1) (t + 1)), by omega, by go_num, ?_, hnx, hB4.trans (yq.below.mono hB4.size)⟩, by simp [intOf] <;> omega⟩
      congr 1
      split <;> split <;> omega
    obtain rfl : ns = q := by omega
    have HGG : Hid (g = genM d.sectors + 1) := by rw [Hid, hg.out, ← hns.out, List.take_length]
    have hg33 : g ≤ 4294967296 := by rw [HGG.out, HG.out]; omega
    have XN := XN.later hB4
    have XJ := XJ.later hB4
    have XD := XD.later hB4
    have RJ := RJ.later hB4
    have RD := RD.later hB4
    have hrw := Lib.hid (hrw.out.keep (Keeps.of hB4))
    replace hB := hBi
    clear hBi hB4 hg hge
    obtain ⟨x0, x1, x2⟩ := XJ.c3
    have xz := XJ.lt
    obtain ⟨d0, d1, d2, d3⟩ := XD.c4
    have dz := XD.lt
    obtain ⟨r0, r1, r2⟩ := RJ.c3
    have f0 := RJ.free 0
    have f1 := RJ.free 1
    have f2 := RJ.free 2
    have rz := RJ.lt
    obtain ⟨s0, s1, s2, s3⟩ := RD.c4
    have g0 := RD.free 0
    have g1 := RD.free 1
    have g2 := RD.free 2
    have g3 := RD.free 3
    have sz := RD.lt
    have n0 : wi.cell? ⟨NB, 0, none⟩ = some (.slice A' n' c') := XN.cell 0
    have nz := XN.lt
    obtain ⟨hnc, hcl, hAn⟩ := h.out.caps
    have hkn2 : k ≤ n := by
      have := (l.okB_iff.1 HOK.out).2.2.2.1
      rw [hy.out, hn.out] at this
      omega
    have hrec : RwAt wi S (.slice (some ⟨ab, ao, none⟩) k c) (l.records.take k) := (h.out.taken hn.out hkn2).keep (Keeps.of hB)
    obtain ⟨r, hr⟩ : ∃ r, decide (R = l.records.take k) = r := ⟨_, rfl⟩
    have EQ : ∀ x : Later wi, Calls Try.prog 42 #[.slice A' n' c', .slice (some ⟨ab, ao, none⟩) k c, .func (.func 43) #[] #[]] x.w fun e w' => e = .returned (.bool r) ∧ x.w = w' := fun x =>
      (jEqualF_any R (l.records.take k) A' (some ⟨ab, ao, none⟩) n' c' k c (Grow S w2) S x.w (Lib.hid (hrw.out.keep (Keeps.of x.below))) (Lib.hid (hrec.keep (Keeps.of x.below))) hn' (Lib.hid (by rw [List.length_take, hn.out]; omega)) (by omega) (by omega) r (Lib.hid hr)).mono fun _ _ h => ⟨h.1, h.2.symm⟩
    have HRQ := Lib.hid hr
    have J0 := Later.cell x0 xz
    have J2 := Later.cell x2 xz
    have J3 := Later.cell n0 nz
    have i0 : (k : Int) ≤ (c : Int) := by omega
    obtain ⟨sv, hsv⟩ : ∃ sv, ((g : Int) / 4294967296 != 0) = sv := ⟨_, rfl⟩
    have hsv2 : ((g : Int) / 4294967296 == 0) = !sv := by rw [← hsv, bne, Bool.not_not]
    have HSV := Lib.hid (show sv = decide (4294967295 < g) by rw [← hsv, Bool.eq_iff_iff]; simp; omega)
    have HAn := Lib.hid hAn
    have HCH := Lib.hid hkn2
    clear hr hrec hAn hkn2 hnc
    obtain rfl : r = true := by rw [← HRQ.out, ← HRR.out]; exact decide_eq_true heq.out
    obtain rfl : sv = false := by rw [HSV.out, HGG.out]; have := hgl.out; simp; omega
    go_wp2_with fail
    refine wp_region_later (by kernel_rfl) (by kernel_rfl) ?_
    repeat (go_big_quiet_step ((go_at_call 42; exact Later.same _ (EQ _))))
    refine wpQuiet_nil ?_
    intro _ hw'
    obtain ⟨yq, hw''⟩ := hw'
    subst hw''
    have XJ := XJ.later yq.below
    have XD := XD.later yq.below
    have RJ := RJ.later yq.below
    have RD := RD.later yq.below
    have hB := hB.trans (yq.below.mono hB.size)
    obtain ⟨w5, hw5⟩ : ∃ w5, yq.w = w5 := ⟨_, rfl⟩
    rw [hw5] at XJ XD RJ RD hB ⊢
    clear hw5 yq
    clear x0 x1 x2 xz d0 d1 d2 d3 dz r0 r1 r2 f0 f1 f2 rz s0 s1 s2 s3 g0 g1 g2 g3 sz
    clear n0 nz J0 J2 J3 EQ
    obtain ⟨x0, x1, x2⟩ := XJ.c3
    have xz := XJ.lt
    obtain ⟨d0, d1, d2, d3⟩ := XD.c4
    have dz := XD.lt
    obtain ⟨r0, r1, r2⟩ := RJ.c3
    have f0 := RJ.free 0
    have f1 := RJ.free 1
    have f2 := RJ.free 2
    have rz := RJ.lt
    obtain ⟨s0, s1, s2, s3⟩ := RD.c4
    have g0 := RD.free 0
    have g1 := RD.free 1
    have g2 := RD.free 2
    have g3 := RD.free 3
    have sz := RD.lt
    have q1 : ((k : Int) == (n : Int)) = false := by simp; omega
    have hnc2 : n ≤ c := h.out.caps.1
    have i2 : (k : Int) ≤ (n : Int) := by omega
    have i3 : (n : Int) ≤ (c : Int) := by omega
    have hkn3 : k ≤ n := by omega
    have U1 := jUsed_any (l.records.take k) (some ⟨ab, ao, none⟩) c S w5 (Lib.hid (by rw [List.length_take, hn.out, Nat.min_eq_left hkn3]; exact (h.out.taken hn.out hkn3).keep (Keeps.of hB))) (by have := sumB_take_le l.records k; have := hs.out; omega)
    rw [List.length_take, hn.out, Nat.min_eq_left hkn3] at U1
    obtain ⟨a0, ha0⟩ : ∃ a0, usedT (l.records.take k) = a0 := ⟨_, rfl⟩
    rw [ha0] at U1
    have HA0 := Lib.hid ha0
    clear ha0
    go_wp2_with fail
    refine U1.mono ?_
    rintro e w6 ⟨rfl, rfl⟩
    go_wp2_with fail
    have hdrop : RwAt w6 (fun b => (S b ∧ b < w.heap.size) ∨ w.heap.size + 4 ≤ b) (.slice (some ⟨ab, ao + k, none⟩) (n - k) (c - k)) (l.records.drop k) := (((h.out.weak (S' := fun b => (S b ∧ b < w.heap.size) ∨ w.heap.size + 4 ≤ b) fun b hb hl => .inl ⟨hb, hl⟩).droped hn.out hkn3).keep (Keeps.of hB))
    have hdk : DkAt w6 (fun b => (S b ∧ b < w.heap.size) ∨ w.heap.size + 4 ≤ b) (.slice As ns cs) (.slice Ap 0 cp) d := (hD.out.weak (S' := fun b => (S b ∧ b < w.heap.size) ∨ w.heap.size + 4 ≤ b) fun b hb hl => .inl ⟨hb, hl⟩).keep (Keeps.of hB)
    have HUS := Lib.hid (show a0 + usedT (l.records.drop k) ≤ ns by
      have h1 := usedT_append (l.records.take k) (l.records.drop k)
      rw [List.take_append_drop, HA0.out] at h1
      have h2 := (l.okB_iff.1 HOK.out).2.2.2.2
      rw [hm.out] at h2
      omega)
    have HLR := Lib.hid (show (l.records.drop k).length = n - k by rw [List.length_drop, hn.out])
    have HSR := Lib.hid (show sumB (l.records.drop k) ≤ 4194304 by
      have h1 := sumB_append (l.records.take k) (l.records.drop k)
      rw [List.take_append_drop] at h1
      have := hs.out
      omega)
    have HOKD : Hid (d.okB = true) := by
      rcases hh : d.okB with _ | _
      · have := hcd.out; rw [Dk.checkT, hh] at this; exact absurd this (by decide)
      · rfl
    have hcr : n - k ≤ c - k ∧ c - k ≤ 9223372036854775807 := by omega
    have hT7 : Hid (syncJ l d = (fun y : Dk × Int => if y.2 = 0 then ((⟨l.records, (ns : Int), (n : Int)⟩ : Jn), y.1, (0 : Int)) else (Jn.zero, y.1, y.2)) (syncT (d.adds (recsW g a0 (l.records.drop k))))) := by
      rw [Hid, syncJ, if_pos HOK.out, if_neg (by rw [hcd.out]; simp), if_neg (by rw [hds.out]; simp), if_neg (by rw [hm.out, hns.out, List.eq_nil_of_length_eq_zero hnp.out]; simp), if_neg (by
        rintro (h | h)
        · rw [heq.out, hy.out] at h; exact h rfl
        · have := hgl.out; omega), if_neg (by rw [hy.out, hn.out]; omega), hy.out, hn.out, hm.out]
      show _ = _
      rw [show ((k : Int)).toNat = k from rfl, HA0.out, HGG.out]
    have hP := List.eq_nil_of_length_eq_zero hnp.out
    have HP := Lib.hid hP
    obtain ⟨Rr, hRr⟩ : ∃ Rr, l.records.drop k = Rr := ⟨_, rfl⟩
    rw [hRr] at hdrop HUS HLR HSR hT7
    have HDROP := Lib.hid hdrop
    have HDK := Lib.hid (show DkAt w6 (fun b => (S b ∧ b < w.heap.size) ∨ w.heap.size + 4 ≤ b) (.slice As ns cs) (.slice Ap 0 cp) (d.adds (recsW g a0 (Rr.take 0))) by rw [List.take_zero, recsW, adds_nil]; exact hdk)
    clear hRr hP hdrop hdk
    obtain ⟨r, hr⟩ : ∃ r, n - k = r := ⟨_, rfl⟩
    obtain ⟨cr, hcr2⟩ : ∃ cr, c - k = cr := ⟨_, rfl⟩
    obtain ⟨ar, har⟩ : ∃ ar, ao + k = ar := ⟨_, rfl⟩
    rw [hr] at HLR hcr
    rw [hcr2] at hcr
    rw [hr, hcr2, har] at HDROP
    rw [hr, hcr2, har]
    clear hr hcr2 har
    clear x0 x1 x2 xz d0 d1 d2 d3 dz r0 r1 r2 f0 f1 f2 rz s0 s1 s2 s3 g0 g1 g2 g3 sz
    go_loopw [6, 13, 110] (fun s6 s13 s110 wr => ∃ (i a : Nat) (As' : Option Addr) (cs' : Nat) (Ap' : Option Addr) (np' cp' : Nat), i ≤ r ∧ s6 = .int .i64 0 ∧ s110 = .int .i64 (i : Int) ∧ s13 = .int .i64 (a : Int) ∧ Hid (a = a0 + usedT (Rr.take i)) ∧ Box wr (w.heap.size + 1) [.slice As' ns cs', .slice Ap' np' cp', .int .i64 dl, .bool false] ∧ Hid (DkAt wr (fun b => (S b ∧ b < w.heap.size) ∨ w.heap.size + 4 ≤ b) (.slice As' ns cs') (.slice Ap' np' cp') (d.adds (recsW g a0 (Rr.take i)))) ∧
        Box wr w.heap.size [.slice (some ⟨ab, ao, none⟩) n c, .int .i64 (ns : Int), .int .i64 (k : Int)] ∧ Box wr (w.heap.size + 2) [.slice none 0 0, .int .i64 0, .int .i64 0] ∧ Box wr (w.heap.size + 3) [.slice none 0 0, .slice none 0 0, .int .i64 0, .bool false] ∧ Hid (RwAt wr (fun b => (S b ∧ b < w.heap.size) ∨ w.heap.size + 4 ≤ b) (.slice (some ⟨ab, ar, none⟩) r cr) Rr) ∧ Below w.heap.size w wr) (fun _ _ s110 _ => r - (intOf s110).toNat)
    case atStart => exact ⟨0, a0, As, cs, Ap, 0, cp, Nat.zero_le _, rfl, rfl, rfl, Lib.hid (by simp [usedT]), XD, HDK, XJ, RJ, RD, HDROP, hB⟩
    case round =>
      clear XD XJ RJ RD HDROP HDK hB
      obtain ⟨i, a, As', cs', Ap', np', cp', hi, rfl, rfl, rfl, ha, XD, HDK, XJ, RJ, RD, HDROP, hB⟩ := hrel
      obtain ⟨wo, rfl⟩ : ∃ wo : World, wo = wr := ⟨_, rfl⟩
      rcases Nat.lt_or_ge i r with hlt | hge
      · have hiL : i < Rr.length := by rw [HLR.out]; exact hlt
        obtain ⟨rb, ro, Ar, nr, cr', hAe, hrz, hrc, hrs⟩ := row_at HDROP.out hiL
        cases hAe
        obtain ⟨B, hBB⟩ : ∃ B, Rr.getD i [] = B := ⟨_, rfl⟩
        rw [hBB] at hrs
        have hBl : B.length = nr := by obtain ⟨_, _, e, _⟩ := hrs.form; cases e; rfl
        have hnr : nr ≤ 4194304 := by
          have h1 := sumB_mem hiL
          have h2 : Rr[i] = B := by rw [← hBB, List.getD_eq_getElem?_getD, List.getElem?_eq_getElem hiL]; rfl
          rw [h2, hBl] at h1
          have := HSR.out
          omega
        have HNX := Lib.hid (fun j hj => write_next (g := g) (j := j) HOKD.out hds.out HP.out hiL hBB ha.out hj (by rw [hns.out]; exact HUS.out))
        have HTS := Lib.hid (recsW_take_succ (g := g) (a := a0) hiL)
        have HUT := Lib.hid (usedT_take_succ hiL)
        have h2 : Rr[i] = B := by rw [← hBB, List.getD_eq_getElem?_getD, List.getElem?_eq_getElem hiL]; rfl
        rw [h2, ← ha.out] at HTS
        rw [h2] at HUT
        have HBB := Lib.hid hBB
        have HBL := Lib.hid hBl
        clear hBB h2 hBl
        obtain ⟨sec, hsec⟩ : ∃ sec, secT nr = sec := ⟨_, rfl⟩
        have hsec1 : 1 ≤ sec ∧ sec ≤ 4194304 := by rw [← hsec]; unfold secT; omega
        have C := jSectors_any Ar nr cr' wo hnr
        rw [hsec] at C
        have HSEC := Lib.hid hsec
        have i4 : (0 : Int) ≤ (i : Int) := by omega
        have i5 : (i : Int) < (r : Int) := by omega
        clear hsec
        go_wp2_with fail
        refine C.mono ?_
        rintro e w7 ⟨rfl, rfl⟩
        go_wp2_with fail
        clear i4 i5 C hrc hrz
        go_loopw [6, 13, 15, 16, 17] (fun s6 s13 s15 s16 s17 wr => ∃ (j z q : Nat) (kv : Int) (Ab : Option Addr) (nb cb : Nat) (As' : Option Addr) (cs' : Nat) (Ap' : Option Addr) (np' cp' : Nat), j + z = sec ∧ s6 = .int .i64 0 ∧ s13 = .int .i64 (q : Int) ∧ Hid (q = a + j) ∧ s17 = .int .i64 (z : Int) ∧ s16 = .int .u8 kv ∧ Hid (kv = if j = 0 then 1 else 0) ∧ Hid (0 < z → s15 = .slice Ab nb cb ∧ BsAt wr (fun b => (S b ∧ b < w.heap.size) ∨ w.heap.size + 4 ≤ b) (.slice Ab nb cb) (B.drop (112 * j)) ∧ nb = nr - 112 * j) ∧ Box wr (w.heap.size + 1) [.slice As' ns cs', .slice Ap' np' cp', .int .i64 dl, .bool false] ∧
          Hid (DkAt wr (fun b => (S b ∧ b < w.heap.size) ∨ w.heap.size + 4 ≤ b) (.slice As' ns cs') (.slice Ap' np' cp') (d.adds (recsW g a0 (Rr.take i) ++ (recW g a B).take j))) ∧ Box wr w.heap.size [.slice (some ⟨ab, ao, none⟩) n c, .int .i64 (ns : Int), .int .i64 (k : Int)] ∧ Box wr (w.heap.size + 2) [.slice none 0 0, .int .i64 0, .int .i64 0] ∧ Box wr (w.heap.size + 3) [.slice none 0 0, .slice none 0 0, .int .i64 0, .bool false] ∧ Hid (RwAt wr (fun b => (S b ∧ b < w.heap.size) ∨ w.heap.size + 4 ≤ b) (.slice (some ⟨ab, ar, none⟩) r cr) Rr) ∧ Below w.heap.size w wr) (fun _ _ _ _ s17 _ => (intOf s17).toNat)
        case atStart => exact ⟨0, sec, a, 1, Ar, nr, cr', As', cs', Ap', np', cp', by omega, rfl, rfl, rfl, rfl, rfl, rfl, Lib.hid (fun _ => ⟨rfl, by rw [Nat.mul_zero, List.drop_zero]; exact hrs, by omega⟩), XD, Lib.hid (by rw [List.take_zero, List.append_nil]; exact HDK.out), XJ, RJ, RD, HDROP, hB⟩
        case round =>
          clear XD XJ RJ RD HDROP HDK hB hrs
          obtain ⟨j, z, q, kv, Ab, nb, cb, As', cs', Ap', np', cp', hjz, rfl, rfl, hq, rfl, rfl, hkv, hb15, XD, HDK, XJ, RJ, RD, HDROP, hB⟩ := hrel
          obtain ⟨wi, rfl⟩ : ∃ wi : World, wi = wr := ⟨_, rfl⟩
          rcases Nat.eq_zero_or_pos z with hz | hz
          · subst hz
            obtain rfl : sec = j := by omega
            have hq2 : Hid (q = a0 + usedT (Rr.take (i + 1))) := by rw [Hid, hq.out, HUT.out, ha.out, HBL.out, HSEC.out]; omega
            have HDK2 : Hid (DkAt wi (fun b => (S b ∧ b < w.heap.size) ∨ w.heap.size + 4 ≤ b) (.slice As' ns cs') (.slice Ap' np' cp') (d.adds (recsW g a0 (Rr.take (i + 1))))) := by
              have := HDK.out
              rw [List.take_of_length_le (l := recW g a B) (by rw [recW_length, HBL.out, HSEC.out]; exact Nat.le_refl _), ← HTS.out] at this
              exact this
            clear HDK hb15 hkv hq
            go_wp2
            exact ⟨⟨i + 1, q, As', cs', Ap', np', cp', by omega, rfl, by go_num, rfl, hq2, XD, HDK2, XJ, RJ, RD, HDROP, hB⟩, by simp [intOf] <;> omega⟩
          obtain ⟨h15, hbs, hnb⟩ := hb15.out hz
          subst h15
          have hjs : j < sec := by omega
          obtain ⟨hwr, hq65⟩ := HNX.out j (by rw [HBL.out, HSEC.out]; exact hjs)
          rw [← hq.out, HBL.out, HSEC.out] at hwr
          rw [← hq.out] at hq65
          have hcb := hbs.caps
          have hbl : (B.drop (112 * j)).length = nb := by rw [List.length_drop, HBL.out, hnb]
          have hseq := HSEC.out
          unfold secT at hseq
          have HWR := Lib.hid hwr
          have HBS := Lib.hid hbs
          have HBLL := Lib.hid hbl
          have HNB := Lib.hid hnb
          clear hb15 hwr hbs hbl
          have HJZ := Lib.hid hjz
          have HJS := Lib.hid hjs
          have hz0 : decide (0 < (z : Int)) = true := by simp; omega
          have hz2 : (1 : Int) ≤ (z : Int) := by omega
          have hzb : (z : Int) ≤ 4194304 := by omega
          obtain ⟨kd, hkd⟩ : ∃ kd, kindK (decide (j = 0)) (decide (j + 1 = sec)) = kd := ⟨_, rfl⟩
          rw [hkd] at HWR
          obtain ⟨kk, hkk⟩ : ∃ kk, min nb 112 = kk := ⟨_, rfl⟩
          have m1 : min (nb : Int) 112 = (kk : Int) := by omega
          have hk1 : kk ≤ nb := by omega
          have hk2 : kk ≤ 112 := by omega
          have HLP := Lib.hid (show (piece B j).length = kk by rw [piece_length, HBL.out, ← HNB.out]; omega)
          have HPC := Lib.hid (show BsAt wi (fun b => (S b ∧ b < w.heap.size) ∨ w.heap.size + 4 ≤ b) (.slice Ab kk cb) (piece B j) from by
            have := HBS.out.taken hk1
            have e : (B.drop (112 * j)).take kk = piece B j := by
              rw [piece, ← hkk]
              rcases Nat.le_total nb 112 with h | h
              · rw [Nat.min_eq_left h, List.take_of_length_le (by rw [HBLL.out]; exact Nat.le_refl _), List.take_of_length_le (by rw [HBLL.out]; exact h)]
              · rw [Nat.min_eq_right h]
            rwa [e] at this)
          have HNX2 : Hid (0 < z - 1 → kk = 112 ∧ 112 < nb) := Lib.hid (by omega)
          have HKK := Lib.hid hkk
          have HKD := Lib.hid hkd
          have hcb1 := hcb.1
          have hcb2 := hcb.2.1
          have hcb3 := Lib.hid hcb.2.2
          have HSC := Lib.hid hseq
          clear hkk hkd hjz hjs hnb hseq hcb hsec1
          go_upto_if 121 with (fail)
          go_cut [16] from 122 to 123 (fun s16 wx => ∃ kv2 : Int, s16 = .int .u8 kv2 ∧ Hid ((kd.toNat : Int) = kv2) ∧ wx = wi)
          case first =>
            have o1 : bits .or .u8 1 2 = 3 := by decide
            have o0 : bits .or .u8 0 2 = 2 := by decide
            have hkd := HKD.out
            have hjz := HJZ.out
            by_cases hj0 : j = 0
            · obtain rfl : kv = 1 := by rw [hkv.out, if_pos hj0]
              by_cases hz1 : z = 1
              · have e : kd = 3 := by rw [← hkd, decide_eq_true hj0, decide_eq_true (by omega)]; decide
                have z1 : ((z : Int) == 1) = true := by simp; omega
                clear hkd hjz hj0 hz1 m1 hkv
                have E := Lib.hid e
                clear e
                go_wp2_with fail
                go_meet
                exact ⟨3, rfl, by rw [Hid, E.out]; rfl, rfl⟩
              · have e : kd = 1 := by rw [← hkd, decide_eq_true hj0, decide_eq_false (by omega)]; decide
                have z1 : ((z : Int) == 1) = false := by simp; omega
                clear hkd hjz hj0 hz1 m1 hkv
                have E := Lib.hid e
                clear e
                go_wp2_with fail
                go_meet
                exact ⟨1, rfl, by rw [Hid, E.out]; rfl, rfl⟩
            · obtain rfl : kv = 0 := by rw [hkv.out, if_neg hj0]
              by_cases hz1 : z = 1
              · have e : kd = 2 := by rw [← hkd, decide_eq_false hj0, decide_eq_true (by omega)]; decide
                have z1 : ((z : Int) == 1) = true := by simp; omega
                clear hkd hjz hj0 hz1 m1 hkv
                have E := Lib.hid e
                clear e
                go_wp2_with fail
                go_meet
                exact ⟨2, rfl, by rw [Hid, E.out]; rfl, rfl⟩
              · have e : kd = 0 := by rw [← hkd, decide_eq_false hj0, decide_eq_false (by omega)]; decide
                have z1 : ((z : Int) == 1) = false := by simp; omega
                clear hkd hjz hj0 hz1 m1 hkv
                have E := Lib.hid e
                clear e
                go_wp2_with fail
                go_meet
                exact ⟨0, rfl, by rw [Hid, E.out]; rfl, rfl⟩
          case rest =>
            obtain ⟨kv2, rfl, hkv2, rfl⟩ := hcut
            obtain ⟨wi, rfl⟩ : ∃ wi : World, wi = wc := ⟨_, rfl⟩
            have HXJ := Lib.hid XJ
            have HRJ := Lib.hid RJ
            have HRD := Lib.hid RD
            have HXD := Lib.hid XD
            have HBB2 := Lib.hid hB
            have HSZ := Lib.hid (show w.heap.size + 3 < wi.heap.size from RD.lt)
            have dz := XD.lt
            obtain ⟨d0, d1, d2, d3⟩ := XD.c4
            have HWQ := Lib.hid (fun (W : World) (gb : Nat) (hW : Below wi.heap.size wi W) (hgb : wi.heap.size ≤ gb) (hX : Box W gb (byV (encT g q kd (piece B j)))) =>
              dWriteW (D := d.adds (recsW g a0 (Rr.take i) ++ (recW g a B).take j)) (D' := d.adds (recsW g a0 (Rr.take i) ++ (recW g a B).take (j + 1))) (ns := ns) (dl := dl) (i := (q : Int)) hdl.out hds.out (HDK.out.keep (Keeps.of hW)) ((box_all (n := 128) hX (encT_length g q kd (piece_le B j)) (by decide)).weak (S' := (fun b => (S b ∧ b < w.heap.size) ∨ w.heap.size + 4 ≤ b)) fun b hb _ => .inr (by have := HSZ.out; omega)) HWR.out hdl.out hds.out hns.out (fun b hb => .inr (by have := HSZ.out; have := hW.size; omega)))
            have HEND := Lib.hid (fun (W : World) (As2 : Option Addr) (cs2 : Nat) (Ap2 : Option Addr) (np2 cp2 : Nat) (hW : Below wi.heap.size wi W) (hDk : DkAt W (fun b => (S b ∧ b < w.heap.size) ∨ w.heap.size + 4 ≤ b) (.slice As2 ns cs2) (.slice Ap2 np2 cp2) (d.adds (recsW g a0 (Rr.take i) ++ (recW g a B).take (j + 1)))) =>
              (show Box ((((W.setCell ⟨w.heap.size + 1, 0, none⟩ (.slice As2 ns cs2)).setCell ⟨w.heap.size + 1, 1, none⟩ (.slice Ap2 np2 cp2)).setCell ⟨w.heap.size + 1, 2, none⟩ (.int .i64 dl)).setCell ⟨w.heap.size + 1, 3, none⟩ (.bool false)) (w.heap.size + 1) [.slice As2 ns cs2, .slice Ap2 np2 cp2, .int .i64 dl, .bool false] ∧ Hid (DkAt ((((W.setCell ⟨w.heap.size + 1, 0, none⟩ (.slice As2 ns cs2)).setCell ⟨w.heap.size + 1, 1, none⟩ (.slice Ap2 np2 cp2)).setCell ⟨w.heap.size + 1, 2, none⟩ (.int .i64 dl)).setCell ⟨w.heap.size + 1, 3, none⟩ (.bool false)) (fun b => (S b ∧ b < w.heap.size) ∨ w.heap.size + 4 ≤ b) (.slice As2 ns cs2) (.slice Ap2 np2 cp2) (d.adds (recsW g a0 (Rr.take i) ++ (recW g a B).take (j + 1)))) ∧ Box ((((W.setCell ⟨w.heap.size + 1, 0, none⟩ (.slice As2 ns cs2)).setCell ⟨w.heap.size + 1, 1, none⟩ (.slice Ap2 np2 cp2)).setCell ⟨w.heap.size + 1, 2, none⟩ (.int .i64 dl)).setCell ⟨w.heap.size + 1, 3, none⟩ (.bool false)) w.heap.size [.slice (some ⟨ab, ao, none⟩) n c, .int .i64 (ns : Int), .int .i64 (k : Int)] ∧ Box ((((W.setCell ⟨w.heap.size + 1, 0, none⟩ (.slice As2 ns cs2)).setCell ⟨w.heap.size + 1, 1, none⟩ (.slice Ap2 np2 cp2)).setCell ⟨w.heap.size + 1, 2, none⟩ (.int .i64 dl)).setCell ⟨w.heap.size + 1, 3, none⟩ (.bool false)) (w.heap.size + 2) [.slice none 0 0, .int .i64 0, .int .i64 0] ∧ Box ((((W.setCell ⟨w.heap.size + 1, 0, none⟩ (.slice As2 ns cs2)).setCell ⟨w.heap.size + 1, 1, none⟩ (.slice Ap2 np2 cp2)).setCell ⟨w.heap.size + 1, 2, none⟩ (.int .i64 dl)).setCell ⟨w.heap.size + 1, 3, none⟩ (.bool false)) (w.heap.size + 3) [.slice none 0 0, .slice none 0 0, .int .i64 0, .bool false] ∧ Hid (RwAt ((((W.setCell ⟨w.heap.size + 1, 0, none⟩ (.slice As2 ns cs2)).setCell ⟨w.heap.size + 1, 1, none⟩ (.slice Ap2 np2 cp2)).setCell ⟨w.heap.size + 1, 2, none⟩ (.int .i64 dl)).setCell ⟨w.heap.size + 1, 3, none⟩ (.bool false)) (fun b => (S b ∧ b < w.heap.size) ∨ w.heap.size + 4 ≤ b) (.slice (some ⟨ab, ar, none⟩) r cr) Rr) ∧ Below w.heap.size w ((((W.setCell ⟨w.heap.size + 1, 0, none⟩ (.slice As2 ns cs2)).setCell ⟨w.heap.size + 1, 1, none⟩ (.slice Ap2 np2 cp2)).setCell ⟨w.heap.size + 1, 2, none⟩ (.int .i64 dl)).setCell ⟨w.heap.size + 1, 3, none⟩ (.bool false)) ∧ Hid (Keeps (fun b => (S b ∧ b < w.heap.size) ∨ w.heap.size + 4 ≤ b) wi (((((W.setCell ⟨w.heap.size + 1, 0, none⟩ (.slice As2 ns cs2)).setCell ⟨w.heap.size + 1, 1, none⟩ (.slice Ap2 np2 cp2)).setCell ⟨w.heap.size + 1, 2, none⟩ (.int .i64 dl)).setCell ⟨w.heap.size + 1, 3, none⟩ (.bool false)))) from
                ⟨(((((HXD.out.later hW)).set 0 (.slice As2 ns cs2)).set 1 (.slice Ap2 np2 cp2)).set 2 (.int .i64 dl)).set 3 (.bool false), Lib.hid (((((hDk).keep (Keeps.set _ (by simp) (.slice As2 ns cs2))).keep (Keeps.set _ (by simp) (.slice Ap2 np2 cp2))).keep (Keeps.set _ (by simp) (.int .i64 dl))).keep (Keeps.set _ (by simp) (.bool false))), (((((HXJ.out.later hW)).other (a := ⟨w.heap.size + 1, 0, none⟩) (by simp) (.slice As2 ns cs2)).other (a := ⟨w.heap.size + 1, 1, none⟩) (by simp) (.slice Ap2 np2 cp2)).other (a := ⟨w.heap.size + 1, 2, none⟩) (by simp) (.int .i64 dl)).other (a := ⟨w.heap.size + 1, 3, none⟩) (by simp) (.bool false), (((((HRJ.out.later hW)).other (a := ⟨w.heap.size + 1, 0, none⟩) (by simp) (.slice As2 ns cs2)).other (a := ⟨w.heap.size + 1, 1, none⟩) (by simp) (.slice Ap2 np2 cp2)).other (a := ⟨w.heap.size + 1, 2, none⟩) (by simp) (.int .i64 dl)).other (a := ⟨w.heap.size + 1, 3, none⟩) (by simp) (.bool false), (((((HRD.out.later hW)).other (a := ⟨w.heap.size + 1, 0, none⟩) (by simp) (.slice As2 ns cs2)).other (a := ⟨w.heap.size + 1, 1, none⟩) (by simp) (.slice Ap2 np2 cp2)).other (a := ⟨w.heap.size + 1, 2, none⟩) (by simp) (.int .i64 dl)).other (a := ⟨w.heap.size + 1, 3, none⟩) (by simp) (.bool false), Lib.hid ((((((HDROP.out.keep (Keeps.of hW))).keep (Keeps.set _ (by simp) (.slice As2 ns cs2))).keep (Keeps.set _ (by simp) (.slice Ap2 np2 cp2))).keep (Keeps.set _ (by simp) (.int .i64 dl))).keep (Keeps.set _ (by simp) (.bool false))), (((((HBB2.out.trans (hW.mono HBB2.out.size))).setCell (p := ⟨w.heap.size + 1, 0, none⟩) (by simp) (.slice As2 ns cs2)).setCell (p := ⟨w.heap.size + 1, 1, none⟩) (by simp) (.slice Ap2 np2 cp2)).setCell (p := ⟨w.heap.size + 1, 2, none⟩) (by simp) (.int .i64 dl)).setCell (p := ⟨w.heap.size + 1, 3, none⟩) (by simp) (.bool false), Lib.hid ((((((Keeps.of hW)).trans (Keeps.set _ (by simp) (.slice As2 ns cs2))).trans (Keeps.set _ (by simp) (.slice Ap2 np2 cp2))).trans (Keeps.set _ (by simp) (.int .i64 dl))).trans (Keeps.set _ (by simp) (.bool false)))⟩))
            rcases Ab with _ | ⟨bb, bo, bsp⟩
            · obtain ⟨rfl, rfl⟩ := hcb3.out rfl
              obtain rfl : kk = 0 := by omega
              have ENC : Calls Try.prog 44 #[.int .u64 (g : Int), .int .i64 (q : Int), .int .u8 kv2, .slice none 0 0] wi.drew fun e w' => ∃ gb, e = .returned (.slice (some ⟨gb, 0, none⟩) 128 128) ∧ wi.drew.heap.size ≤ gb ∧ Box w' gb (byV (encT g q kd (piece B j))) ∧ Below wi.drew.heap.size wi.drew w' := by
                have := jEncode_any g q kd (piece B j) _ 0 0 (fun b => (S b ∧ b < w.heap.size) ∨ w.heap.size + 4 ≤ b) wi.drew (Lib.hid (HPC.out.keep (Keeps.of (Below.refl wi.heap.size wi).drew))) HLP hk2 hq65
                rw [hkv2.out] at this
                exact this
              have HC7 := Lib.hid (And.intro hz hcb1)
              clear HPC
              go_upto_region 33 with fail
              go_cut [6] from 127 to 139 (fun s6 wx => s6 = .int .i64 0 ∧ ∃ (As2 : Option Addr) (cs2 : Nat) (Ap2 : Option Addr) (np2 cp2 : Nat), Box wx (w.heap.size + 1) [.slice As2 ns cs2, .slice Ap2 np2 cp2, .int .i64 dl, .bool false] ∧ Hid (DkAt wx (fun b => (S b ∧ b < w.heap.size) ∨ w.heap.size + 4 ≤ b) (.slice As2 ns cs2) (.slice Ap2 np2 cp2) (d.adds (recsW g a0 (Rr.take i) ++ (recW g a B).take (j + 1)))) ∧ Box wx w.heap.size [.slice (some ⟨ab, ao, none⟩) n c, .int .i64 (ns : Int), .int .i64 (k : Int)] ∧ Box wx (w.heap.size + 2) [.slice none 0 0, .int .i64 0, .int .i64 0] ∧ Box wx (w.heap.size + 3) [.slice none 0 0, .slice none 0 0, .int .i64 0, .bool false] ∧ Hid (RwAt wx (fun b => (S b ∧ b < w.heap.size) ∨ w.heap.size + 4 ≤ b) (.slice (some ⟨ab, ar, none⟩) r cr) Rr) ∧ Below w.heap.size w wx ∧ Hid (Keeps (fun b => (S b ∧ b < w.heap.size) ∨ w.heap.size + 4 ≤ b) wi wx))
              case first =>
                clear XJ RJ RD XD hB hz0 hz2 hz hkv hk1
                go_region_with (first | (go_at_call 44; refine ENC.mono ?_; rintro e w8 ⟨gb, rfl, hgb, XE, hb8⟩; have hb8w := (Below.refl wi.heap.size wi).drew.trans hb8; have XD8 := HXD.out.later hb8w; have e0 : w8.cell? ⟨w.heap.size + 1, 0, none⟩ = some (.slice As' ns cs') := XD8.cell 0; have e1 : w8.cell? ⟨w.heap.size + 1, 1, none⟩ = some (.slice Ap' np' cp') := XD8.cell 1; have e2 : w8.cell? ⟨w.heap.size + 1, 2, none⟩ = some (.int .i64 dl) := XD8.cell 2; have e3 : w8.cell? ⟨w.heap.size + 1, 3, none⟩ = some (.bool false) := XD8.cell 3) | (go_at_call 26; refine (HWQ.out w8 gb hb8w hgb XE).mono ?_; rintro e w9 ⟨As2, cs2, Ap2, np2, cp2, rfl, hDk, hb9⟩; have hb9w := hb8w.trans (hb9.mono hb8w.size); have HEN := Lib.hid (HEND.out w9 As2 cs2 Ap2 np2 cp2 hb9w hDk.out); have XD9 := HXD.out.later hb9w; have v0 : w9.cell? ⟨w.heap.size + 1, 0, none⟩ = some (.slice As' ns cs') := XD9.cell 0; have v1 : w9.cell? ⟨w.heap.size + 1, 1, none⟩ = some (.slice Ap' np' cp') := XD9.cell 1; have v2 : w9.cell? ⟨w.heap.size + 1, 2, none⟩ = some (.int .i64 dl) := XD9.cell 2; have v3 : w9.cell? ⟨w.heap.size + 1, 3, none⟩ = some (.bool false) := XD9.cell 3; have fr0 := XD9.free 0; have fr1 := XD9.free 1; have fr2 := XD9.free 2; have fr3 := XD9.free 3; have vz := XD9.lt))
                all_goals
                  go_wp2_with fail
                  go_meet
                  exact ⟨rfl, As2, cs2, Ap2, np2, cp2, HEN.out⟩
              case rest =>
                clear XJ RJ RD XD hB ENC HWQ HEND HXJ HRJ HRD HXD HDK HDROP
                obtain ⟨rfl, As2, cs2, Ap2, np2, cp2, XD, HDK, XJ, RJ, RD, HDROP, hB, HKW⟩ := hcut
                obtain rfl : 1 = z := by
                  rcases Nat.lt_or_ge 1 z with h | h
                  · have := (HNX2.out (by omega)).1; omega
                  · have := HC7.out.1; omega
                go_wp2
                have hjz := HJZ.out
                exact ⟨⟨j + 1, 1 - 1, q + 1, 0, none, 0, 0, As2, cs2, Ap2, np2, cp2, by omega, rfl, by go_num, Lib.hid (by have := hq.out; omega), by first | rfl | (congr 1; omega), rfl, Lib.hid (by simp), Lib.hid (fun h => absurd h (by omega)), XD, HDK, XJ, RJ, RD, HDROP, hB⟩, by simp [intOf] <;> omega⟩
            · skip
              have ENC : Calls Try.prog 44 #[.int .u64 (g : Int), .int .i64 (q : Int), .int .u8 kv2, .slice (some ⟨bb, bo, bsp⟩) kk cb] wi.drew fun e w' => ∃ gb, e = .returned (.slice (some ⟨gb, 0, none⟩) 128 128) ∧ wi.drew.heap.size ≤ gb ∧ Box w' gb (byV (encT g q kd (piece B j))) ∧ Below wi.drew.heap.size wi.drew w' := by
                have := jEncode_any g q kd (piece B j) _ kk cb (fun b => (S b ∧ b < w.heap.size) ∨ w.heap.size + 4 ≤ b) wi.drew (Lib.hid (HPC.out.keep (Keeps.of (Below.refl wi.heap.size wi).drew))) HLP hk2 hq65
                rw [hkv2.out] at this
                exact this
              have HC7 := Lib.hid (And.intro hz hcb1)
              clear HPC
              go_upto_region 33 with fail
              go_cut [6] from 127 to 139 (fun s6 wx => s6 = .int .i64 0 ∧ ∃ (As2 : Option Addr) (cs2 : Nat) (Ap2 : Option Addr) (np2 cp2 : Nat), Box wx (w.heap.size + 1) [.slice As2 ns cs2, .slice Ap2 np2 cp2, .int .i64 dl, .bool false] ∧ Hid (DkAt wx (fun b => (S b ∧ b < w.heap.size) ∨ w.heap.size + 4 ≤ b) (.slice As2 ns cs2) (.slice Ap2 np2 cp2) (d.adds (recsW g a0 (Rr.take i) ++ (recW g a B).take (j + 1)))) ∧ Box wx w.heap.size [.slice (some ⟨ab, ao, none⟩) n c, .int .i64 (ns : Int), .int .i64 (k : Int)] ∧ Box wx (w.heap.size + 2) [.slice none 0 0, .int .i64 0, .int .i64 0] ∧ Box wx (w.heap.size + 3) [.slice none 0 0, .slice none 0 0, .int .i64 0, .bool false] ∧ Hid (RwAt wx (fun b => (S b ∧ b < w.heap.size) ∨ w.heap.size + 4 ≤ b) (.slice (some ⟨ab, ar, none⟩) r cr) Rr) ∧ Below w.heap.size w wx ∧ Hid (Keeps (fun b => (S b ∧ b < w.heap.size) ∨ w.heap.size + 4 ≤ b) wi wx))
              case first =>
                clear XJ RJ RD XD hB hz0 hz2 hz hkv hk1
                go_region_with (first | (go_at_call 44; refine ENC.mono ?_; rintro e w8 ⟨gb, rfl, hgb, XE, hb8⟩; have hb8w := (Below.refl wi.heap.size wi).drew.trans hb8; have XD8 := HXD.out.later hb8w; have e0 : w8.cell? ⟨w.heap.size + 1, 0, none⟩ = some (.slice As' ns cs') := XD8.cell 0; have e1 : w8.cell? ⟨w.heap.size + 1, 1, none⟩ = some (.slice Ap' np' cp') := XD8.cell 1; have e2 : w8.cell? ⟨w.heap.size + 1, 2, none⟩ = some (.int .i64 dl) := XD8.cell 2; have e3 : w8.cell? ⟨w.heap.size + 1, 3, none⟩ = some (.bool false) := XD8.cell 3) | (go_at_call 26; refine (HWQ.out w8 gb hb8w hgb XE).mono ?_; rintro e w9 ⟨As2, cs2, Ap2, np2, cp2, rfl, hDk, hb9⟩; have hb9w := hb8w.trans (hb9.mono hb8w.size); have HEN := Lib.hid (HEND.out w9 As2 cs2 Ap2 np2 cp2 hb9w hDk.out); have XD9 := HXD.out.later hb9w; have v0 : w9.cell? ⟨w.heap.size + 1, 0, none⟩ = some (.slice As' ns cs') := XD9.cell 0; have v1 : w9.cell? ⟨w.heap.size + 1, 1, none⟩ = some (.slice Ap' np' cp') := XD9.cell 1; have v2 : w9.cell? ⟨w.heap.size + 1, 2, none⟩ = some (.int .i64 dl) := XD9.cell 2; have v3 : w9.cell? ⟨w.heap.size + 1, 3, none⟩ = some (.bool false) := XD9.cell 3; have fr0 := XD9.free 0; have fr1 := XD9.free 1; have fr2 := XD9.free 2; have fr3 := XD9.free 3; have vz := XD9.lt))
                all_goals
                  go_wp2_with fail
                  go_meet
                  exact ⟨rfl, As2, cs2, Ap2, np2, cp2, HEN.out⟩
              case rest =>
                clear XJ RJ RD XD hB ENC HWQ HEND HXJ HRJ HRD HXD HDK HDROP
                obtain ⟨rfl, As2, cs2, Ap2, np2, cp2, XD, HDK, XJ, RJ, RD, HDROP, hB, HKW⟩ := hcut
                have hz := HC7.out.1
                have hcb1 := HC7.out.2
                by_cases hz1 : z = 1
                · rcases Nat.lt_or_ge kk cb with hkc | hkc
                  · have hjz := HJZ
                    go_wp2
                    have hjz := HJZ.out
                    exact ⟨⟨j + 1, z - 1, q + 1, 0, none, 0, 0, As2, cs2, Ap2, np2, cp2, by omega, rfl, by go_num, Lib.hid (by have := hq.out; omega), by congr 1; omega, rfl, Lib.hid (by simp), Lib.hid (fun h => absurd h (by omega)), XD, HDK, XJ, RJ, RD, HDROP, hB⟩, by simp [intOf] <;> omega⟩
                  · obtain rfl : kk = cb := by omega
                    go_wp2
                    have hjz := HJZ.out
                    exact ⟨⟨j + 1, z - 1, q + 1, 0, none, 0, 0, As2, cs2, Ap2, np2, cp2, by omega, rfl, by go_num, Lib.hid (by have := hq.out; omega), by congr 1; omega, rfl, Lib.hid (by simp), Lib.hid (fun h => absurd h (by omega)), XD, HDK, XJ, RJ, RD, HDROP, hB⟩, by simp [intOf] <;> omega⟩
                · obtain ⟨hk112, hnb112⟩ := HNX2.out (by omega)
                  have hbq := HBS.out.keep HKW.out
                  obtain ⟨_, _, e, _⟩ := hbq.cell (k := 0) (by rw [HBLL.out]; omega)
                  cases e
                  have HB15 := Lib.hid (show BsAt wc (fun b => (S b ∧ b < w.heap.size) ∨ w.heap.size + 4 ≤ b) (.slice (some ⟨bb, bo + kk, none⟩) (nb - kk) (cb - kk)) (B.drop (112 * (j + 1))) from by
                    have h := hbq.sub kk (nb - kk) (cb - kk) (by omega) (by omega) (by simp only [maxLen]; omega) HBLL.out
                    rw [List.drop_drop, List.take_of_length_le (by rw [List.length_drop, HBL.out]; have := HNB.out; omega), show 112 * j + kk = 112 * (j + 1) by omega] at h
                    exact h)
                  have HKI := Lib.hid hk112
                  have hkc : kk < cb := by omega
                  have hkn : kk ≤ nb := by omega
                  clear hk112 hbq hz1
                  go_wp2
                  have hzz := HC7.out.1
                  have hjz := HJZ.out
                  exact ⟨⟨j + 1, z - 1, q + 1, 0, some ⟨bb, bo + kk, none⟩, nb - kk, cb - kk, As2, cs2, Ap2, np2, cp2, by omega, rfl, by go_num, Lib.hid (by have := hq.out; omega), by congr 1; omega, rfl, Lib.hid (by simp), Lib.hid (fun _ => ⟨rfl, HB15.out, by have := HNB.out; have := HKI.out; omega⟩), XD, HDK, XJ, RJ, RD, HDROP, hB⟩, by simp [intOf] <;> omega⟩
      · skip
        obtain rfl : r = i := by omega
        have HDK2 := HDK.out
        rw [List.take_of_length_le (by rw [HLR.out]; exact Nat.le_refl _)] at HDK2
        obtain ⟨yy, hyy⟩ : ∃ yy, syncT (d.adds (recsW g a0 Rr)) = yy := ⟨_, rfl⟩
        have SY := dSync_any (d.adds (recsW g a0 Rr)) _ _ (fun b => (S b ∧ b < w.heap.size) ∨ w.heap.size + 4 ≤ b) wo HDK2
        rw [Dk.v, show (d.adds (recsW g a0 Rr)).left = dl from hdl.out, show (d.adds (recsW g a0 Rr)).stopped = false from hds.out, hyy] at SY
        rw [hyy] at hT7
        obtain ⟨d0, d1, d2, d3⟩ := XD.c4
        have HYY := Lib.hid hyy
        have HT7 := hT7
        have HSZ := Lib.hid (show w.heap.size + 3 < wo.heap.size from RD.lt)
        clear hyy HDK HDK2 hT7 ha HDROP
        go_wp2_with fail
        refine SY.mono ?_
        rintro e w8 ⟨Vs, Vp, m, er, rfl, ht, hDk, hb8⟩
        obtain ⟨As2, cs2, rfl, _⟩ := hDk.out.sectors.form
        obtain ⟨Ap2, cp2, rfl, _⟩ := hDk.out.pending.form
        obtain ⟨ns2, hns2'⟩ : ∃ x, m.sectors.length = x := ⟨_, rfl⟩
        obtain ⟨np2, hnp2'⟩ : ∃ x, m.pending.length = x := ⟨_, rfl⟩
        obtain ⟨dl2, hdl2⟩ : ∃ x, m.left = x := ⟨_, rfl⟩
        obtain ⟨ds2, hds2⟩ : ∃ x, m.stopped = x := ⟨_, rfl⟩
        rw [hns2', hnp2'] at hDk
        rw [Dk.v, hns2', hnp2', hdl2, hds2]
        have HDL2 := Lib.hid hdl2
        have HDS2 := Lib.hid hds2
        have hDk := Lib.hid (hDk.out.weak (S' := (fun b => (S b ∧ b < w.heap.size) ∨ w.heap.size + 4 ≤ b)) fun b hb _ => hb.elim id fun hb => .inr (by have := HSZ.out; omega))
        have XD := XD.later hb8
        have XJ := XJ.later hb8
        have RJ := RJ.later hb8
        have RD := RD.later hb8
        have hB := hB.trans (hb8.mono hB.size)
        have HTT := ht
        clear d0 d1 d2 d3 SY hns2' hnp2' hdl2 hds2 hb8 ht
        obtain ⟨d0, d1, d2, d3⟩ := XD.c4
        have fd0 := XD.free 0
        have fd1 := XD.free 1
        have fd2 := XD.free 2
        have fd3 := XD.free 3
        have dz := XD.lt
        have x0 : w8.cell? ⟨w.heap.size, 0, none⟩ = some (.slice (some ⟨ab, ao, none⟩) n c) := XJ.cell 0
        have x2 : w8.cell? ⟨w.heap.size, 2, none⟩ = some (.int .i64 (k : Int)) := XJ.cell 2
        have fx2 := XJ.free 2
        have xz := XJ.lt
        have XD := ((((XD).set 0 (.slice As2 ns2 cs2)).set 1 (.slice Ap2 np2 cp2)).set 2 (.int .i64 dl2)).set 3 (.bool ds2)
        have XJ := ((((XJ).other (a := ⟨w.heap.size + 1, 0, none⟩) (by simp) (.slice As2 ns2 cs2)).other (a := ⟨w.heap.size + 1, 1, none⟩) (by simp) (.slice Ap2 np2 cp2)).other (a := ⟨w.heap.size + 1, 2, none⟩) (by simp) (.int .i64 dl2)).other (a := ⟨w.heap.size + 1, 3, none⟩) (by simp) (.bool ds2)
        have RJ := ((((RJ).other (a := ⟨w.heap.size + 1, 0, none⟩) (by simp) (.slice As2 ns2 cs2)).other (a := ⟨w.heap.size + 1, 1, none⟩) (by simp) (.slice Ap2 np2 cp2)).other (a := ⟨w.heap.size + 1, 2, none⟩) (by simp) (.int .i64 dl2)).other (a := ⟨w.heap.size + 1, 3, none⟩) (by simp) (.bool ds2)
        have RD := ((((RD).other (a := ⟨w.heap.size + 1, 0, none⟩) (by simp) (.slice As2 ns2 cs2)).other (a := ⟨w.heap.size + 1, 1, none⟩) (by simp) (.slice Ap2 np2 cp2)).other (a := ⟨w.heap.size + 1, 2, none⟩) (by simp) (.int .i64 dl2)).other (a := ⟨w.heap.size + 1, 3, none⟩) (by simp) (.bool ds2)
        have hB := ((((hB).setCell (p := ⟨w.heap.size + 1, 0, none⟩) (by simp) (.slice As2 ns2 cs2)).setCell (p := ⟨w.heap.size + 1, 1, none⟩) (by simp) (.slice Ap2 np2 cp2)).setCell (p := ⟨w.heap.size + 1, 2, none⟩) (by simp) (.int .i64 dl2)).setCell (p := ⟨w.heap.size + 1, 3, none⟩) (by simp) (.bool ds2)
        have hDk := Lib.hid (((((hDk.out).keep (Keeps.set (a := ⟨w.heap.size + 1, 0, none⟩) _ (by simp) (.slice As2 ns2 cs2))).keep (Keeps.set (a := ⟨w.heap.size + 1, 1, none⟩) _ (by simp) (.slice Ap2 np2 cp2))).keep (Keeps.set (a := ⟨w.heap.size + 1, 2, none⟩) _ (by simp) (.int .i64 dl2))).keep (Keeps.set (a := ⟨w.heap.size + 1, 3, none⟩) _ (by simp) (.bool ds2)))
        by_cases he : er = 0
        · subst he
          have XD := XD.other (a := ⟨w.heap.size, 2, none⟩) (by simp) (.int .i64 (n : Int))
          have XJ := XJ.set 2 (.int .i64 (n : Int))
          have RJ := RJ.other (a := ⟨w.heap.size, 2, none⟩) (by simp) (.int .i64 (n : Int))
          have RD := RD.other (a := ⟨w.heap.size, 2, none⟩) (by simp) (.int .i64 (n : Int))
          have hB := hB.setCell (p := ⟨w.heap.size, 2, none⟩) (Nat.le_refl _) (.int .i64 (n : Int))
          have hDk := Lib.hid (hDk.out.keep (Keeps.set (a := ⟨w.heap.size, 2, none⟩) _ (by simp) (.int .i64 (n : Int))))
          go_upto_region 43 with fail
          generalize ((((w8.setCell ⟨w.heap.size + 1, 0, none⟩ (.slice As2 ns2 cs2)).setCell ⟨w.heap.size + 1, 1, none⟩ (.slice Ap2 np2 cp2)).setCell ⟨w.heap.size + 1, 2, none⟩ (.int .i64 dl2)).setCell ⟨w.heap.size + 1, 3, none⟩ (.bool ds2)).setCell ⟨w.heap.size, 2, none⟩ (.int .i64 (n : Int)) = w5 at XD XJ RJ RD hB hDk ⊢
          clear d0 d1 d2 d3 fd0 fd1 fd2 fd3 dz x0 x2 fx2 xz
          obtain ⟨x0, x1, x2⟩ := XJ.c3
          have xz := XJ.lt
          obtain ⟨d0, d1, d2, d3⟩ := XD.c4
          have dz := XD.lt
          obtain ⟨r0, r1, r2⟩ := RJ.c3
          have f0 := RJ.free 0
          have f1 := RJ.free 1
          have f2 := RJ.free 2
          have rz := RJ.lt
          obtain ⟨s0, s1, s2, s3⟩ := RD.c4
          have g0 := RD.free 0
          have g1 := RD.free 1
          have g2 := RD.free 2
          have g3 := RD.free 3
          have sz := RD.lt
          go_region
          all_goals
            go_wp2_with fail
            clear x0 x1 x2 xz d0 d1 d2 d3 dz r0 r1 r2 f0 f1 f2 rz s0 s1 s2 s3 g0 g1 g2 g3 sz
            have RJ := ((((((((RJ).set 0 (.slice (some ⟨ab, ao, none⟩) n c)).set 1 (.int .i64 (ns : Int))).set 2 (.int .i64 (n : Int))).other (a := ⟨w.heap.size + 3, 0, none⟩) (by simp) (.slice As2 ns2 cs2)).other (a := ⟨w.heap.size + 3, 1, none⟩) (by simp) (.slice Ap2 np2 cp2)).other (a := ⟨w.heap.size + 3, 2, none⟩) (by simp) (.int .i64 dl2)).other (a := ⟨w.heap.size + 3, 3, none⟩) (by simp) (.bool ds2)).drew
            have RD := ((((((((RD).other (a := ⟨w.heap.size + 2, 0, none⟩) (by simp) (.slice (some ⟨ab, ao, none⟩) n c)).other (a := ⟨w.heap.size + 2, 1, none⟩) (by simp) (.int .i64 (ns : Int))).other (a := ⟨w.heap.size + 2, 2, none⟩) (by simp) (.int .i64 (n : Int))).set 0 (.slice As2 ns2 cs2)).set 1 (.slice Ap2 np2 cp2)).set 2 (.int .i64 dl2)).set 3 (.bool ds2)).drew
            have hB := ((((((((hB).setCell (p := ⟨w.heap.size + 2, 0, none⟩) (by simp) (.slice (some ⟨ab, ao, none⟩) n c)).setCell (p := ⟨w.heap.size + 2, 1, none⟩) (by simp) (.int .i64 (ns : Int))).setCell (p := ⟨w.heap.size + 2, 2, none⟩) (by simp) (.int .i64 (n : Int))).setCell (p := ⟨w.heap.size + 3, 0, none⟩) (by simp) (.slice As2 ns2 cs2)).setCell (p := ⟨w.heap.size + 3, 1, none⟩) (by simp) (.slice Ap2 np2 cp2)).setCell (p := ⟨w.heap.size + 3, 2, none⟩) (by simp) (.int .i64 dl2)).setCell (p := ⟨w.heap.size + 3, 3, none⟩) (by simp) (.bool ds2)).drew
            have hDk := Lib.hid ((((((((hDk.out).keep (Keeps.set (a := ⟨w.heap.size + 2, 0, none⟩) _ (by simp) (.slice (some ⟨ab, ao, none⟩) n c))).keep (Keeps.set (a := ⟨w.heap.size + 2, 1, none⟩) _ (by simp) (.int .i64 (ns : Int)))).keep (Keeps.set (a := ⟨w.heap.size + 2, 2, none⟩) _ (by simp) (.int .i64 (n : Int)))).keep (Keeps.set (a := ⟨w.heap.size + 3, 0, none⟩) _ (by simp) (.slice As2 ns2 cs2))).keep (Keeps.set (a := ⟨w.heap.size + 3, 1, none⟩) _ (by simp) (.slice Ap2 np2 cp2))).keep (Keeps.set (a := ⟨w.heap.size + 3, 2, none⟩) _ (by simp) (.int .i64 dl2))).keep (Keeps.set (a := ⟨w.heap.size + 3, 3, none⟩) _ (by simp) (.bool ds2)))
            replace hDk := Lib.hid (hDk.out.keep (Keeps.of (Below.refl _ _).drew))
            generalize ((((((((w5).setCell ⟨w.heap.size + 2, 0, none⟩ (.slice (some ⟨ab, ao, none⟩) n c)).setCell ⟨w.heap.size + 2, 1, none⟩ (.int .i64 (ns : Int))).setCell ⟨w.heap.size + 2, 2, none⟩ (.int .i64 (n : Int))).setCell ⟨w.heap.size + 3, 0, none⟩ (.slice As2 ns2 cs2)).setCell ⟨w.heap.size + 3, 1, none⟩ (.slice Ap2 np2 cp2)).setCell ⟨w.heap.size + 3, 2, none⟩ (.int .i64 dl2)).setCell ⟨w.heap.size + 3, 3, none⟩ (.bool ds2)).drew = W at RJ RD hB hDk ⊢
            obtain ⟨y0, y1, y2⟩ := RJ.c3
            obtain ⟨z0, z1, z2, z3⟩ := RD.c4
            refine bodyPost_ret (v := .tuple #[.agg #[.slice (some ⟨ab, ao, none⟩) n c, .int .i64 (ns : Int), .int .i64 (n : Int)], .agg #[.slice As2 ns2 cs2, .slice Ap2 np2 cp2, .int .i64 dl2, .bool ds2], .int .i64 0]) (by simp [results, Try.results21, go_sem, y0, y1, y2, z0, z1, z2, z3]) rfl ?_
            have hfin := HT7.out
            rw [HTT.out] at hfin
            rw [← HDL2.out, ← HDS2.out]
            exact ⟨(some ⟨ab, ao, none⟩), n, c, ⟨l.records, (ns : Int), (n : Int)⟩, .slice As2 ns2 cs2, .slice Ap2 np2 cp2, m, 0, rfl, Lib.hid (hfin.trans (if_pos rfl)), hn, Lib.hid ((h.out.keep (Keeps.of hB)).weak fun b hb _ => .inl hb), Lib.hid (hDk.out.weak fun b hb _ => hb.elim (fun h => .inl h.1) (fun h => .inr (by omega))), hB⟩
        · have e1 : (er != 0) = true := by simp [he]
          have e2 : (er == 0) = false := by simp [he]
          have HE := Lib.hid he
          clear he
          go_upto_region 41 with fail
          generalize ((((w8.setCell ⟨w.heap.size + 1, 0, none⟩ (.slice As2 ns2 cs2)).setCell ⟨w.heap.size + 1, 1, none⟩ (.slice Ap2 np2 cp2)).setCell ⟨w.heap.size + 1, 2, none⟩ (.int .i64 dl2)).setCell ⟨w.heap.size + 1, 3, none⟩ (.bool ds2)) = w5 at XD XJ RJ RD hB hDk ⊢
          clear d0 d1 d2 d3 fd0 fd1 fd2 fd3 dz x0 x2 fx2 xz
          obtain ⟨x0, x1, x2⟩ := XJ.c3
          have xz := XJ.lt
          obtain ⟨d0, d1, d2, d3⟩ := XD.c4
          have dz := XD.lt
          obtain ⟨r0, r1, r2⟩ := RJ.c3
          have f0 := RJ.free 0
          have f1 := RJ.free 1
          have f2 := RJ.free 2
          have rz := RJ.lt
          obtain ⟨s0, s1, s2, s3⟩ := RD.c4
          have g0 := RD.free 0
          have g1 := RD.free 1
          have g2 := RD.free 2
          have g3 := RD.free 3
          have sz := RD.lt
          go_region
          all_goals
            go_wp2_with fail
            clear x0 x1 x2 xz d0 d1 d2 d3 dz r0 r1 r2 f0 f1 f2 rz s0 s1 s2 s3 g0 g1 g2 g3 sz
            have RJ := ((((((((RJ).set 0 (.slice none 0 0)).set 1 (.int .i64 0)).set 2 (.int .i64 0)).other (a := ⟨w.heap.size + 3, 0, none⟩) (by simp) (.slice As2 ns2 cs2)).other (a := ⟨w.heap.size + 3, 1, none⟩) (by simp) (.slice Ap2 np2 cp2)).other (a := ⟨w.heap.size + 3, 2, none⟩) (by simp) (.int .i64 dl2)).other (a := ⟨w.heap.size + 3, 3, none⟩) (by simp) (.bool ds2)).drew
            have RD := ((((((((RD).other (a := ⟨w.heap.size + 2, 0, none⟩) (by simp) (.slice none 0 0)).other (a := ⟨w.heap.size + 2, 1, none⟩) (by simp) (.int .i64 0)).other (a := ⟨w.heap.size + 2, 2, none⟩) (by simp) (.int .i64 0)).set 0 (.slice As2 ns2 cs2)).set 1 (.slice Ap2 np2 cp2)).set 2 (.int .i64 dl2)).set 3 (.bool ds2)).drew
            have hB := ((((((((hB).setCell (p := ⟨w.heap.size + 2, 0, none⟩) (by simp) (.slice none 0 0)).setCell (p := ⟨w.heap.size + 2, 1, none⟩) (by simp) (.int .i64 0)).setCell (p := ⟨w.heap.size + 2, 2, none⟩) (by simp) (.int .i64 0)).setCell (p := ⟨w.heap.size + 3, 0, none⟩) (by simp) (.slice As2 ns2 cs2)).setCell (p := ⟨w.heap.size + 3, 1, none⟩) (by simp) (.slice Ap2 np2 cp2)).setCell (p := ⟨w.heap.size + 3, 2, none⟩) (by simp) (.int .i64 dl2)).setCell (p := ⟨w.heap.size + 3, 3, none⟩) (by simp) (.bool ds2)).drew
            have hDk := Lib.hid ((((((((hDk.out).keep (Keeps.set (a := ⟨w.heap.size + 2, 0, none⟩) _ (by simp) (.slice none 0 0))).keep (Keeps.set (a := ⟨w.heap.size + 2, 1, none⟩) _ (by simp) (.int .i64 0))).keep (Keeps.set (a := ⟨w.heap.size + 2, 2, none⟩) _ (by simp) (.int .i64 0))).keep (Keeps.set (a := ⟨w.heap.size + 3, 0, none⟩) _ (by simp) (.slice As2 ns2 cs2))).keep (Keeps.set (a := ⟨w.heap.size + 3, 1, none⟩) _ (by simp) (.slice Ap2 np2 cp2))).keep (Keeps.set (a := ⟨w.heap.size + 3, 2, none⟩) _ (by simp) (.int .i64 dl2))).keep (Keeps.set (a := ⟨w.heap.size + 3, 3, none⟩) _ (by simp) (.bool ds2)))
            replace hDk := Lib.hid (hDk.out.keep (Keeps.of (Below.refl _ _).drew))
            generalize ((((((((w5).setCell ⟨w.heap.size + 2, 0, none⟩ (.slice none 0 0)).setCell ⟨w.heap.size + 2, 1, none⟩ (.int .i64 0)).setCell ⟨w.heap.size + 2, 2, none⟩ (.int .i64 0)).setCell ⟨w.heap.size + 3, 0, none⟩ (.slice As2 ns2 cs2)).setCell ⟨w.heap.size + 3, 1, none⟩ (.slice Ap2 np2 cp2)).setCell ⟨w.heap.size + 3, 2, none⟩ (.int .i64 dl2)).setCell ⟨w.heap.size + 3, 3, none⟩ (.bool ds2)).drew = W at RJ RD hB hDk ⊢
            obtain ⟨y0, y1, y2⟩ := RJ.c3
            obtain ⟨z0, z1, z2, z3⟩ := RD.c4
            refine bodyPost_ret (v := .tuple #[.agg #[.slice none 0 0, .int .i64 0, .int .i64 0], .agg #[.slice As2 ns2 cs2, .slice Ap2 np2 cp2, .int .i64 dl2, .bool ds2], .int .i64 er]) (by simp [results, Try.results21, go_sem, y0, y1, y2, z0, z1, z2, z3]) rfl ?_
            have hfin := HT7.out
            rw [HTT.out] at hfin
            rw [← HDL2.out, ← HDS2.out]
            exact ⟨none, 0, 0, Jn.zero, .slice As2 ns2 cs2, .slice Ap2 np2 cp2, m, er, rfl, Lib.hid (hfin.trans (if_neg HE.out)), rfl, Lib.hid (rwAt_nil _ _), Lib.hid (hDk.out.weak fun b hb _ => hb.elim (fun h => .inl h.1) (fun h => .inr (by omega))), hB⟩
end Go.Proofs.Ythlidhfahaalgaa
