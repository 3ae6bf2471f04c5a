/-
  Sync of the reference of chapter 5: the records are written. (Printed by gen_lg.py.)
-/
import Derived.Test.YthlidhfahaalgaaQLF
import Derived.Test.YthlidhfahaalgaaQLD
namespace Go.Proofs.Ythlidhfahaalgaa
open Go.RowKit
attribute [local go_sem ↓ high] app_named cop_named

theorem dRWriteW {D D' : Dk} {ns : Nat} {dl : Int} {Vs Vp Vb : Value} {b : Bs} {Q : Nat → Prop} {W : World} {i : Int} (hl : D.left = dl) (hs : D.stopped = false) (hD : DkAt W Q Vs Vp D) (hb : BsAt W Q Vb b) (ht : writeT D i b = (D', 0)) (hl' : D'.left = dl) (hs' : D'.stopped = false) (hn' : D'.sectors.length = ns) (hQ : ∀ b, W.heap.size ≤ b → Q b) :
    Calls Try.prog 46 #[.agg #[Vs, Vp, .int .i64 dl, .bool false], .int .i64 i, Vb] W (RetW D' ns dl Q W) := by
  have h := dRWrite_any D Vs Vp i Vb b Q W hD hb
  rw [Dk.v, hl, hs, ht] at h
  refine h.mono ?_
  rintro e w' ⟨Vs2, Vp2, m, er, rfl, ht, hDk, hb⟩
  obtain ⟨rfl, rfl⟩ := Prod.mk.inj ht.out
  obtain ⟨As2, cs2, rfl, _⟩ := hDk.out.sectors.form
  obtain ⟨Ap2, cp2, rfl, _⟩ := hDk.out.pending.form
  rw [Dk.v, hl', hs', hn']
  refine ⟨As2, cs2, Ap2, _, cp2, rfl, Lib.hid ?_, hb⟩
  have := hDk.out.weak (S' := Q) fun b hb _ => hb.elim id (hQ b)
  rwa [hn'] at this
theorem OwnBs.slice {w : World} {base : Nat} {v : Value} {l : Bs} (h : OwnBs w base v l) : ∃ A c, v = .slice A l.length c := h.form'

set_option maxRecDepth 100000 in
set_option maxHeartbeats 16000000 in
theorem jRSync_7 (l : Jn) (ab ao : Nat) (n c k : Nat) (d : Dk) (As : Option Addr) (ns cs : Nat) (Ap : Option Addr) (cp : Nat) (dl : Int) (S : Nat → Prop) (w : World) (h : Hid (RwAt w S (.slice (some ⟨ab, ao, none⟩) n c) l.records)) (hn : Hid (l.records.length = n)) (hm : Hid (l.many = (ns : Int))) (hy : Hid (l.synced = (k : Int))) (hs : Hid (sumB l.records ≤ 4194304)) (hD : Hid (DkAt w S (.slice As ns cs) (.slice Ap 0 cp) d)) (hdl : Hid (d.left = dl)) (hds : Hid (d.stopped = false)) (hns : Hid (d.sectors.length = ns)) (hnp : Hid (d.pending.length = 0)) (hc : Hid (l.checkT = 0)) (hcd : Hid (d.checkT = 0)) (heq : Hid (recordsT d.sectors = l.records.take k)) (hgl : Hid (genM d.sectors + 1 ≤ 4294967295)) (hkn : k < n) : Calls Try.prog 22 #[.agg #[.slice (some ⟨ab, ao, none⟩) n c, .int .i64 (ns : Int), .int .i64 (k : Int)], .agg #[.slice As ns cs, .slice Ap 0 cp, .int .i64 dl, .bool false]] w (RetJD (syncJ l d) S w) := by
  have HOK : Hid (l.okB = true) := by
    rcases hh : l.okB with _ | _
    · have := hc.out; rw [Jn.bad hh] at this; cases this
    · rfl
  have h128 : Hid (∀ s ∈ d.sectors, s.length = 128) := Lib.hid (by
    have hok : d.okB = true := by
      rcases h : d.okB with _ | _
      · have := hcd.out; rw [Dk.checkT, h] at this; exact absurd this (by decide)
      · rfl
    exact (okB_parts hok).2.2.2.2.2.2)
  have hns2 : ns ≤ 4096 := by
    have hok : d.okB = true := by
      rcases h : d.okB with _ | _
      · have := hcd.out; rw [Dk.checkT, h] at this; exact absurd this (by decide)
      · rfl
    rw [← hns.out]; exact (okB_parts hok).2.1
  have HD0 := Lib.hid (hD.out.sectors)
  have HB0 := ((((Below.refl w.heap.size w).alloc (Nat.le_refl _) (.cells #[.slice (some ⟨ab, ao, none⟩) n c, .int .i64 (ns : Int), .int .i64 (k : Int)] 29)).alloc (by simp) (.cells #[.slice As ns cs, .slice Ap 0 cp, .int .i64 dl, .bool false] 25)).alloc (by simp; omega) (.cells #[.slice none 0 0, .int .i64 0, .int .i64 0] 29)).alloc (by simp; omega) (.cells #[.slice none 0 0, .slice none 0 0, .int .i64 0, .bool false] 25)
  have HC := jRCheck_any l (some ⟨ab, ao, none⟩) n c (ns : Int) (k : Int) S ((((w.alloc (.cells #[.slice (some ⟨ab, ao, none⟩) n c, .int .i64 (ns : Int), .int .i64 (k : Int)] 29)).alloc (.cells #[.slice As ns cs, .slice Ap 0 cp, .int .i64 dl, .bool false] 25)).alloc (.cells #[.slice none 0 0, .int .i64 0, .int .i64 0] 29)).alloc (.cells #[.slice none 0 0, .slice none 0 0, .int .i64 0, .bool false] 25)) (Lib.hid (h.out.keep (Keeps.of HB0))) hn hm hy hs
  rw [hc.out] at HC
  go_enter Try.func22, Try.ntmps22
  go_wp2_with fail
  refine HC.mono ?_
  rintro e w1 ⟨rfl, hb1⟩
  have XJ := ((((Box.new w [.slice (some ⟨ab, ao, none⟩) n c, .int .i64 (ns : Int), .int .i64 (k : Int)] 29).alloc (.cells #[.slice As ns cs, .slice Ap 0 cp, .int .i64 dl, .bool false] 25)).alloc (.cells #[.slice none 0 0, .int .i64 0, .int .i64 0] 29)).alloc (.cells #[.slice none 0 0, .slice none 0 0, .int .i64 0, .bool false] 25)).later hb1
  have XD := (((Box.newAt (w := w.alloc (.cells #[.slice (some ⟨ab, ao, none⟩) n c, .int .i64 (ns : Int), .int .i64 (k : Int)] 29)) (n := w.heap.size + 1) [.slice As ns cs, .slice Ap 0 cp, .int .i64 dl, .bool false] 25 (by simp)).alloc (.cells #[.slice none 0 0, .int .i64 0, .int .i64 0] 29)).alloc (.cells #[.slice none 0 0, .slice none 0 0, .int .i64 0, .bool false] 25)).later hb1
  have RJ := ((Box.newAt (w := (w.alloc (.cells #[.slice (some ⟨ab, ao, none⟩) n c, .int .i64 (ns : Int), .int .i64 (k : Int)] 29)).alloc (.cells #[.slice As ns cs, .slice Ap 0 cp, .int .i64 dl, .bool false] 25)) (n := w.heap.size + 2) [.slice none 0 0, .int .i64 0, .int .i64 0] 29 (by simp)).alloc (.cells #[.slice none 0 0, .slice none 0 0, .int .i64 0, .bool false] 25)).later hb1
  have RD := (Box.newAt (w := ((w.alloc (.cells #[.slice (some ⟨ab, ao, none⟩) n c, .int .i64 (ns : Int), .int .i64 (k : Int)] 29)).alloc (.cells #[.slice As ns cs, .slice Ap 0 cp, .int .i64 dl, .bool false] 25)).alloc (.cells #[.slice none 0 0, .int .i64 0, .int .i64 0] 29)) (n := w.heap.size + 3) [.slice none 0 0, .slice none 0 0, .int .i64 0, .bool false] 25 (by simp)).later hb1
  have hB := HB0.trans (hb1.mono HB0.size)
  clear hb1 HB0 HC
  have x0 : w1.cell? ⟨w.heap.size, 0, none⟩ = some (.slice (some ⟨ab, ao, none⟩) n c) := XJ.cell 0
  have x1 : w1.cell? ⟨w.heap.size, 1, none⟩ = some (.int .i64 (ns : Int)) := XJ.cell 1
  have x2 : w1.cell? ⟨w.heap.size, 2, none⟩ = some (.int .i64 (k : Int)) := XJ.cell 2
  have xz := XJ.lt
  have d0 : w1.cell? ⟨w.heap.size + 1, 0, none⟩ = some (.slice As ns cs) := XD.cell 0
  have d1 : w1.cell? ⟨w.heap.size + 1, 1, none⟩ = some (.slice Ap 0 cp) := XD.cell 1
  have d2 : w1.cell? ⟨w.heap.size + 1, 2, none⟩ = some (.int .i64 dl) := XD.cell 2
  have d3 : w1.cell? ⟨w.heap.size + 1, 3, none⟩ = some (.bool false) := XD.cell 3
  have dz := XD.lt
  have r0 : w1.cell? ⟨w.heap.size + 2, 0, none⟩ = some (.slice none 0 0) := RJ.cell 0
  have r1 : w1.cell? ⟨w.heap.size + 2, 1, none⟩ = some (.int .i64 0) := RJ.cell 1
  have r2 : w1.cell? ⟨w.heap.size + 2, 2, none⟩ = some (.int .i64 0) := RJ.cell 2
  have f0 := RJ.free 0
  have f1 := RJ.free 1
  have f2 := RJ.free 2
  have rz := RJ.lt
  have s0 : w1.cell? ⟨w.heap.size + 3, 0, none⟩ = some (.slice none 0 0) := RD.cell 0
  have s1 : w1.cell? ⟨w.heap.size + 3, 1, none⟩ = some (.slice none 0 0) := RD.cell 1
  have s2 : w1.cell? ⟨w.heap.size + 3, 2, none⟩ = some (.int .i64 0) := RD.cell 2
  have s3 : w1.cell? ⟨w.heap.size + 3, 3, none⟩ = some (.bool false) := RD.cell 3
  have g0 := RD.free 0
  have g1 := RD.free 1
  have g2 := RD.free 2
  have g3 := RD.free 3
  have sz := RD.lt
  have HDC := dRCheck_at hcd (hD.out.keep (Keeps.of hB)) hdl hds
  go_wp2_with fail
  refine HDC.mono ?_
  rintro e w2 ⟨rfl, hb2⟩
  have XJ := XJ.later hb2
  have XD := XD.later hb2
  have RJ := RJ.later hb2
  have RD := RD.later hb2
  have hB := hB.trans (hb2.mono hB.size)
  clear hb2 HDC
  clear x0 x1 x2 xz d0 d1 d2 d3 dz r0 r1 r2 f0 f1 f2 rz s0 s1 s2 s3 g0 g1 g2 g3 sz
  have x0 : w2.cell? ⟨w.heap.size, 0, none⟩ = some (.slice (some ⟨ab, ao, none⟩) n c) := XJ.cell 0
  have x1 : w2.cell? ⟨w.heap.size, 1, none⟩ = some (.int .i64 (ns : Int)) := XJ.cell 1
  have x2 : w2.cell? ⟨w.heap.size, 2, none⟩ = some (.int .i64 (k : Int)) := XJ.cell 2
  have xz := XJ.lt
  have d0 : w2.cell? ⟨w.heap.size + 1, 0, none⟩ = some (.slice As ns cs) := XD.cell 0
  have d1 : w2.cell? ⟨w.heap.size + 1, 1, none⟩ = some (.slice Ap 0 cp) := XD.cell 1
  have d2 : w2.cell? ⟨w.heap.size + 1, 2, none⟩ = some (.int .i64 dl) := XD.cell 2
  have d3 : w2.cell? ⟨w.heap.size + 1, 3, none⟩ = some (.bool false) := XD.cell 3
  have dz := XD.lt
  have r0 : w2.cell? ⟨w.heap.size + 2, 0, none⟩ = some (.slice none 0 0) := RJ.cell 0
  have r1 : w2.cell? ⟨w.heap.size + 2, 1, none⟩ = some (.int .i64 0) := RJ.cell 1
  have r2 : w2.cell? ⟨w.heap.size + 2, 2, none⟩ = some (.int .i64 0) := RJ.cell 2
  have f0 := RJ.free 0
  have f1 := RJ.free 1
  have f2 := RJ.free 2
  have rz := RJ.lt
  have s0 : w2.cell? ⟨w.heap.size + 3, 0, none⟩ = some (.slice none 0 0) := RD.cell 0
  have s1 : w2.cell? ⟨w.heap.size + 3, 1, none⟩ = some (.slice none 0 0) := RD.cell 1
  have s2 : w2.cell? ⟨w.heap.size + 3, 2, none⟩ = some (.int .i64 0) := RD.cell 2
  have s3 : w2.cell? ⟨w.heap.size + 3, 3, none⟩ = some (.bool false) := RD.cell 3
  have g0 := RD.free 0
  have g1 := RD.free 1
  have g2 := RD.free 2
  have g3 := RD.free 3
  have sz := RD.lt
  have e1 : ((ns : Int) != (ns : Int)) = false := by simp
  go_wp2_with fail
  refine (jRGeneration_any d.sectors As ns cs S w2 (Lib.hid (hD.out.sectors.keep (Keeps.of hB))) hns hns2 h128).mono ?_
  rintro e w3 ⟨rfl, hb3⟩
  obtain ⟨g, hg⟩ : ∃ g, genM d.sectors + 1 = g := ⟨_, rfl⟩
  have hg33 : g ≤ 4294967296 := by rw [← hg]; have := genM_lt h128.out; omega
  rw [hg]
  have HGG := Lib.hid hg.symm
  have XJ := XJ.later hb3
  have XD := XD.later hb3
  have RJ := RJ.later hb3
  have RD := RD.later hb3
  have hB := hB.trans (hb3.mono hB.size)
  clear hb3 hg
  clear x0 x1 x2 xz d0 d1 d2 d3 dz r0 r1 r2 f0 f1 f2 rz s0 s1 s2 s3 g0 g1 g2 g3 sz
  have x0 : w3.cell? ⟨w.heap.size, 0, none⟩ = some (.slice (some ⟨ab, ao, none⟩) n c) := XJ.cell 0
  have x1 : w3.cell? ⟨w.heap.size, 1, none⟩ = some (.int .i64 (ns : Int)) := XJ.cell 1
  have x2 : w3.cell? ⟨w.heap.size, 2, none⟩ = some (.int .i64 (k : Int)) := XJ.cell 2
  have xz := XJ.lt
  have d0 : w3.cell? ⟨w.heap.size + 1, 0, none⟩ = some (.slice As ns cs) := XD.cell 0
  have d1 : w3.cell? ⟨w.heap.size + 1, 1, none⟩ = some (.slice Ap 0 cp) := XD.cell 1
  have d2 : w3.cell? ⟨w.heap.size + 1, 2, none⟩ = some (.int .i64 dl) := XD.cell 2
  have d3 : w3.cell? ⟨w.heap.size + 1, 3, none⟩ = some (.bool false) := XD.cell 3
  have dz := XD.lt
  have r0 : w3.cell? ⟨w.heap.size + 2, 0, none⟩ = some (.slice none 0 0) := RJ.cell 0
  have r1 : w3.cell? ⟨w.heap.size + 2, 1, none⟩ = some (.int .i64 0) := RJ.cell 1
  have r2 : w3.cell? ⟨w.heap.size + 2, 2, none⟩ = some (.int .i64 0) := RJ.cell 2
  have f0 := RJ.free 0
  have f1 := RJ.free 1
  have f2 := RJ.free 2
  have rz := RJ.lt
  have s0 : w3.cell? ⟨w.heap.size + 3, 0, none⟩ = some (.slice none 0 0) := RD.cell 0
  have s1 : w3.cell? ⟨w.heap.size + 3, 1, none⟩ = some (.slice none 0 0) := RD.cell 1
  have s2 : w3.cell? ⟨w.heap.size + 3, 2, none⟩ = some (.int .i64 0) := RD.cell 2
  have s3 : w3.cell? ⟨w.heap.size + 3, 3, none⟩ = some (.bool false) := RD.cell 3
  have g0 := RD.free 0
  have g1 := RD.free 1
  have g2 := RD.free 2
  have g3 := RD.free 3
  have sz := RD.lt
  obtain ⟨R, hR⟩ : ∃ R, recordsT d.sectors = R := ⟨_, rfl⟩
  have HRR := Lib.hid hR
  obtain ⟨hnc, hcl, hAn⟩ := h.out.caps
  have hkn2 : k ≤ n := by
    have := (l.okB_iff.1 HOK.out).2.2.2.1
    rw [hy.out, hn.out] at this
    omega
  have hrec : RwAt w3 S (.slice (some ⟨ab, ao, none⟩) k c) (l.records.take k) := (h.out.taken hn.out hkn2).keep (Keeps.of hB)
  obtain ⟨r, hr⟩ : ∃ r, decide (R = l.records.take k) = r := ⟨_, rfl⟩
  have HRQ := Lib.hid hr
  have CR := jRRecords_any d.sectors As ns cs S w3.drew (Lib.hid (hD.out.sectors.keep (Keeps.of hB.drew))) hns hns2 h128
  rw [hR] at CR
  have HSR := Lib.hid (fun (W : World) (A' : Option Addr) (n' c' : Nat) (hW : Below w3.heap.size w3 W) (hrw : Hid (RwAt W (fun b => w3.drew.heap.size ≤ b) (.slice A' n' c') R)) (hn' : Hid (R.length = n')) =>
    jRSameRecs_any R (l.records.take k) A' (some ⟨ab, ao, none⟩) n' c' k c (fun b => w3.drew.heap.size ≤ b) S W hrw (Lib.hid (hrec.keep (Keeps.of hW))) hn' (Lib.hid (by rw [List.length_take, hn.out]; omega)) (by have := hrw.out.caps; omega) (by omega) r (Lib.hid hr))
  obtain ⟨sv, hsv⟩ : ∃ sv, decide (4294967295 < g) = sv := ⟨_, rfl⟩
  have hsv2 : decide ((4294967295 : Int) < (g : Int)) = sv := by rw [← hsv, decide_eq_decide]; omega
  have HSV := Lib.hid hsv
  have HAn := Lib.hid hAn
  have HCH := Lib.hid hkn2
  have HXJ := Lib.hid XJ
  have HXD := Lib.hid XD
  have i0 : (k : Int) ≤ (c : Int) := by omega
  clear hr hrec hAn hkn2 hnc hR e1
  obtain rfl : r = true := by rw [← HRQ.out, ← HRR.out]; exact decide_eq_true heq.out
  obtain rfl : sv = false := by rw [← HSV.out, HGG.out]; have := hgl.out; simp; omega
  go_upto_region 12 with fail
  go_cut [66] from 53 to 65 (fun s66 wx => s66 = .bool false ∧ Below w3.heap.size w3 wx)
  case first =>
    clear XJ XD RJ RD hB f0 f1 f2 g0 g1 g2 g3 r0 r1 r2 s0 s1 s2 s3
    have HK := Lib.hid (fun (w' : World) (hb : Below w3.heap.size w3 w') => (⟨(HXD.out.later hb).cell 0, (HXJ.out.later hb).cell 0, (HXJ.out.later hb).cell 2⟩ : w'.cell? ⟨w.heap.size + 1, 0, none⟩ = some (.slice As ns cs) ∧ w'.cell? ⟨w.heap.size, 0, none⟩ = some (.slice (some ⟨ab, ao, none⟩) n c) ∧ w'.cell? ⟨w.heap.size, 2, none⟩ = some (.int .i64 (k : Int))))
    first | go_region_held3 (fun w' => w'.cell? ⟨w.heap.size + 1, 0, none⟩ = some (.slice As ns cs) ∧ w'.cell? ⟨w.heap.size, 0, none⟩ = some (.slice (some ⟨ab, ao, none⟩) n c) ∧ w'.cell? ⟨w.heap.size, 2, none⟩ = some (.int .i64 (k : Int))) (first | with_reducible exact HK.out _ (Below.refl w3.heap.size w3).drew | with_reducible exact HK.out _ hb8w | with_reducible exact HK.out _ hb9w) (first | (go_at_call 34; refine CR.mono ?_; rintro e w8 ⟨A', n', c', rfl, hn', hrw, hb8⟩; have hb8w := (Below.refl w3.heap.size w3).drew.trans hb8) | (go_at_call 24; refine (HSR.out w8 A' n' c' hb8w hrw hn').mono ?_; rintro e w9 ⟨rfl, hb9⟩; have hb9w := hb8w.trans (hb9.mono hb8w.size))) | fail
    all_goals
      go_wp2_with fail
      go_meet
      exact ⟨rfl, hb9w⟩
  case rest =>
    obtain ⟨rfl, hb12⟩ := hcut
    have XJ := XJ.later hb12
    have XD := XD.later hb12
    have RJ := RJ.later hb12
    have RD := RD.later hb12
    have hB := hB.trans (hb12.mono hB.size)
    clear CR HSR HXJ HXD hb12 hsv hsv2
    clear x0 x1 x2 xz d0 d1 d2 d3 dz r0 r1 r2 f0 f1 f2 rz s0 s1 s2 s3 g0 g1 g2 g3 sz
    have x0 : wc.cell? ⟨w.heap.size, 0, none⟩ = some (.slice (some ⟨ab, ao, none⟩) n c) := XJ.cell 0
    have x1 : wc.cell? ⟨w.heap.size, 1, none⟩ = some (.int .i64 (ns : Int)) := XJ.cell 1
    have x2 : wc.cell? ⟨w.heap.size, 2, none⟩ = some (.int .i64 (k : Int)) := XJ.cell 2
    have xz := XJ.lt
    have q1 : ((k : Int) == (n : Int)) = false := by simp; omega
    have hnc2 : n ≤ c := h.out.caps.1
    have i2 : (k : Int) ≤ (n : Int) := by omega
    have i3 : (n : Int) ≤ (c : Int) := by omega
    have hkn3 : k ≤ n := by omega
    have U1 := jRUsed_any (l.records.take k) (some ⟨ab, ao, none⟩) c S wc (Lib.hid (by rw [List.length_take, hn.out, Nat.min_eq_left hkn3]; exact (h.out.taken hn.out hkn3).keep (Keeps.of hB))) (by have := sumB_take_le l.records k; have := hs.out; omega)
    rw [List.length_take, hn.out, Nat.min_eq_left hkn3] at U1
    obtain ⟨a0, ha0⟩ : ∃ a0, usedT (l.records.take k) = a0 := ⟨_, rfl⟩
    rw [ha0] at U1
    have HA0 := Lib.hid ha0
    clear ha0
    go_wp2_with fail
    refine U1.mono ?_
    rintro e w6 ⟨rfl, rfl⟩
    go_wp2_with fail
    have hrow : RwAt w6 (fun b => (S b ∧ b < w.heap.size) ∨ w.heap.size + 4 ≤ b) (.slice (some ⟨ab, ao, none⟩) n c) l.records := (h.out.weak (S' := (fun b => (S b ∧ b < w.heap.size) ∨ w.heap.size + 4 ≤ b)) fun b hb hl => .inl ⟨hb, hl⟩).keep (Keeps.of hB)
    have hdk : DkAt w6 (fun b => (S b ∧ b < w.heap.size) ∨ w.heap.size + 4 ≤ b) (.slice As ns cs) (.slice Ap 0 cp) d := (hD.out.weak (S' := (fun b => (S b ∧ b < w.heap.size) ∨ w.heap.size + 4 ≤ b)) fun b hb hl => .inl ⟨hb, hl⟩).keep (Keeps.of hB)
    have HUS := Lib.hid (show a0 + usedT (l.records.drop k) ≤ ns by
      have h1 := usedT_append (l.records.take k) (l.records.drop k)
      rw [List.take_append_drop, HA0.out] at h1
      have h2 := (l.okB_iff.1 HOK.out).2.2.2.2
      rw [hm.out] at h2
      omega)
    have HLR := Lib.hid (show (l.records.drop k).length = n - k by rw [List.length_drop, hn.out])
    have HSR := Lib.hid (show sumB (l.records.drop k) ≤ 4194304 by
      have h1 := sumB_append (l.records.take k) (l.records.drop k)
      rw [List.take_append_drop] at h1
      have := hs.out
      omega)
    have HOKD : Hid (d.okB = true) := by
      rcases hh : d.okB with _ | _
      · have := hcd.out; rw [Dk.checkT, hh] at this; exact absurd this (by decide)
      · rfl
    have hT7 : Hid (syncJ l d = (fun y : Dk × Int => if y.2 = 0 then ((⟨l.records, (ns : Int), (n : Int)⟩ : Jn), y.1, (0 : Int)) else (Jn.zero, y.1, y.2)) (syncT (d.adds (recsW g a0 (l.records.drop k))))) := by
      rw [Hid, syncJ, if_pos HOK.out, if_neg (by rw [hcd.out]; simp), if_neg (by rw [hds.out]; simp), if_neg (by rw [hm.out, hns.out, List.eq_nil_of_length_eq_zero hnp.out]; simp), if_neg (by
        rintro (h | h)
        · rw [heq.out, hy.out] at h; exact h rfl
        · have := hgl.out; omega), if_neg (by rw [hy.out, hn.out]; omega), hy.out, hn.out, hm.out]
      show _ = _
      rw [show ((k : Int)).toNat = k from rfl, HA0.out, ← HGG.out]
    have hP := List.eq_nil_of_length_eq_zero hnp.out
    have HP := Lib.hid hP
    obtain ⟨Rr, hRr⟩ : ∃ Rr, l.records.drop k = Rr := ⟨_, rfl⟩
    have HRr := Lib.hid hRr
    rw [hRr] at HUS HLR HSR hT7
    have HROW := Lib.hid hrow
    have HDK := Lib.hid (show DkAt w6 (fun b => (S b ∧ b < w.heap.size) ∨ w.heap.size + 4 ≤ b) (.slice As ns cs) (.slice Ap 0 cp) (d.adds (recsW g a0 (Rr.take 0))) by rw [List.take_zero, recsW, adds_nil]; exact hdk)
    clear hRr hP hdk hrow
    obtain ⟨r, hr⟩ : ∃ r, n - k = r := ⟨_, rfl⟩
    rw [hr] at HLR
    have HR := Lib.hid hr
    clear hr x0 x1 x2 xz i2 i3 q1
    go_loopw [10, 11] (fun s10 s11 wr => ∃ (i p a : Nat) (As' : Option Addr) (cs' : Nat) (Ap' : Option Addr) (np' cp' : Nat), i ≤ r ∧ Hid (p = k + i) ∧ s11 = .int .i64 (p : Int) ∧ s10 = .int .i64 (a : Int) ∧ Hid (a = a0 + usedT (Rr.take i)) ∧ Box wr (w.heap.size + 1) [.slice As' ns cs', .slice Ap' np' cp', .int .i64 dl, .bool false] ∧ Hid (DkAt wr (fun b => (S b ∧ b < w.heap.size) ∨ w.heap.size + 4 ≤ b) (.slice As' ns cs') (.slice Ap' np' cp') (d.adds (recsW g a0 (Rr.take i)))) ∧ Box wr w.heap.size [.slice (some ⟨ab, ao, none⟩) n c, .int .i64 (ns : Int), .int .i64 (k : Int)] ∧ Box wr (w.heap.size + 2) [.slice none 0 0, .int .i64 0, .int .i64 0] ∧ Box wr (w.heap.size + 3) [.slice none 0 0, .slice none 0 0, .int .i64 0, .bool false] ∧ Hid (RwAt wr (fun b => (S b ∧ b < w.heap.size) ∨ w.heap.size + 4 ≤ b) (.slice (some ⟨ab, ao, none⟩) n c) l.records) ∧ Below w.heap.size w wr) (fun _ s11 _ => n - (intOf s11).toNat)
    case atStart => exact ⟨0, k, a0, As, cs, Ap, 0, cp, Nat.zero_le _, rfl, rfl, rfl, Lib.hid (by simp [usedT]), XD, HDK, XJ, RJ, RD, HROW, hB⟩
    case round =>
      clear XD XJ RJ RD HROW HDK hB
      obtain ⟨i, p, a, As', cs', Ap', np', cp', hi, hp, rfl, rfl, ha, XD, HDK, XJ, RJ, RD, HROW, hB⟩ := hrel
      obtain ⟨wo, rfl⟩ : ∃ wo : World, wo = wr := ⟨_, rfl⟩
      have x0 : wo.cell? ⟨w.heap.size, 0, none⟩ = some (.slice (some ⟨ab, ao, none⟩) n c) := XJ.cell 0
      have x1 : wo.cell? ⟨w.heap.size, 1, none⟩ = some (.int .i64 (ns : Int)) := XJ.cell 1
      have x2 : wo.cell? ⟨w.heap.size, 2, none⟩ = some (.int .i64 (k : Int)) := XJ.cell 2
      have xz := XJ.lt
      rcases Nat.lt_or_ge i r with hlt | hge
      · have hiL : i < Rr.length := by rw [HLR.out]; exact hlt
        have hpn : p < n := by have := HR.out; have := hp.out; omega
        obtain ⟨rb, ro, Ar, nr, cr', hAe, hrz, hrc, hrs⟩ := row_at HROW.out (k := p) (show p < l.records.length by rw [hn.out]; exact hpn)
        cases hAe
        obtain ⟨B, hBB⟩ : ∃ B, Rr.getD i [] = B := ⟨_, rfl⟩
        rw [show l.records.getD p [] = B by rw [← hBB, ← HRr.out, List.getD_eq_getElem?_getD, List.getD_eq_getElem?_getD, List.getElem?_drop, hp.out]] at hrs
        have hBl : B.length = nr := by obtain ⟨_, _, e, _⟩ := hrs.form; cases e; rfl
        have hnr : nr ≤ 4194304 := by
          have h1 := sumB_mem hiL
          have h2 : Rr[i] = B := by rw [← hBB, List.getD_eq_getElem?_getD, List.getElem?_eq_getElem hiL]; rfl
          rw [h2, hBl] at h1
          have := HSR.out
          omega
        have HNX := Lib.hid (fun j hj => write_next (g := g) (j := j) HOKD.out hds.out HP.out hiL hBB ha.out hj (by rw [hns.out]; exact HUS.out))
        have HTS := Lib.hid (recsW_take_succ (g := g) (a := a0) hiL)
        have HUT := Lib.hid (usedT_take_succ hiL)
        have h2 : Rr[i] = B := by rw [← hBB, List.getD_eq_getElem?_getD, List.getElem?_eq_getElem hiL]; rfl
        rw [h2, ← ha.out] at HTS
        rw [h2] at HUT
        have HBB := Lib.hid hBB
        have HBL := Lib.hid hBl
        clear hBB h2 hBl
        obtain ⟨sec, hsec⟩ : ∃ sec, secT nr = sec := ⟨_, rfl⟩
        have hsec1 : 1 ≤ sec ∧ sec ≤ 4194304 := by rw [← hsec]; unfold secT; omega
        have C := jRSectors_any nr wo hnr
        rw [hsec] at C
        have HSEC := Lib.hid hsec
        have HBR := Lib.hid hrs
        have i4 : (0 : Int) ≤ (p : Int) := by omega
        have i5 : (p : Int) < (n : Int) := by omega
        clear hsec hrs
        go_wp2_with fail
        refine C.mono ?_
        rintro e w7 ⟨rfl, rfl⟩
        go_wp2_with fail
        clear i4 i5 C hrc hrz x0 x1 x2 xz
        go_loopw [10, 14] (fun s10 s14 wr => ∃ (j q : Nat) (As' : Option Addr) (cs' : Nat) (Ap' : Option Addr) (np' cp' : Nat), j ≤ sec ∧ s14 = .int .i64 (j : Int) ∧ s10 = .int .i64 (q : Int) ∧ Hid (q = a + j) ∧ Hid (BsAt wr (fun b => (S b ∧ b < w.heap.size) ∨ w.heap.size + 4 ≤ b) (.slice Ar nr cr') B) ∧ Box wr (w.heap.size + 1) [.slice As' ns cs', .slice Ap' np' cp', .int .i64 dl, .bool false] ∧ Hid (DkAt wr (fun b => (S b ∧ b < w.heap.size) ∨ w.heap.size + 4 ≤ b) (.slice As' ns cs') (.slice Ap' np' cp') (d.adds (recsW g a0 (Rr.take i) ++ (recW g a B).take j))) ∧ Box wr w.heap.size [.slice (some ⟨ab, ao, none⟩) n c, .int .i64 (ns : Int), .int .i64 (k : Int)] ∧ Box wr (w.heap.size + 2) [.slice none 0 0, .int .i64 0, .int .i64 0] ∧ Box wr (w.heap.size + 3) [.slice none 0 0, .slice none 0 0, .int .i64 0, .bool false] ∧ Hid (RwAt wr (fun b => (S b ∧ b < w.heap.size) ∨ w.heap.size + 4 ≤ b) (.slice (some ⟨ab, ao, none⟩) n c) l.records) ∧ Below w.heap.size w wr) (fun _ s14 _ => sec - (intOf s14).toNat)
        case atStart => exact ⟨0, a, As', cs', Ap', np', cp', Nat.zero_le _, rfl, rfl, rfl, HBR, XD, Lib.hid (by rw [List.take_zero, List.append_nil]; exact HDK.out), XJ, RJ, RD, HROW, hB⟩
        case round =>
          clear XD XJ RJ RD HROW HDK hB HBR
          obtain ⟨j, q, As', cs', Ap', np', cp', hj, rfl, rfl, hq, HBS, XD, HDK, XJ, RJ, RD, HROW, hB⟩ := hrel
          obtain ⟨wi, rfl⟩ : ∃ wi : World, wi = wr := ⟨_, rfl⟩
          rcases Nat.lt_or_ge j sec with hjs | hjs
          rotate_left
          · obtain rfl : sec = j := by omega
            have hq2 : Hid (q = a0 + usedT (Rr.take (i + 1))) := by rw [Hid, hq.out, HUT.out, ha.out, HBL.out, HSEC.out]; omega
            have HDK2 : Hid (DkAt wi (fun b => (S b ∧ b < w.heap.size) ∨ w.heap.size + 4 ≤ b) (.slice As' ns cs') (.slice Ap' np' cp') (d.adds (recsW g a0 (Rr.take (i + 1))))) := by
              have := HDK.out
              rw [List.take_of_length_le (l := recW g a B) (by rw [recW_length, HBL.out, HSEC.out]; exact Nat.le_refl _), ← HTS.out] at this
              exact this
            clear HDK HBS hq
            go_wp2
            exact ⟨⟨i + 1, p + 1, q, As', cs', Ap', np', cp', by omega, Lib.hid (by have := hp.out; omega), by go_num, rfl, hq2, XD, HDK2, XJ, RJ, RD, HROW, hB⟩, by simp [intOf] <;> omega⟩
          obtain ⟨hwr, hq65⟩ := HNX.out j (by rw [HBL.out, HSEC.out]; exact hjs)
          rw [← hq.out, HBL.out, HSEC.out] at hwr
          rw [← hq.out] at hq65
          have HWR := Lib.hid hwr
          have hseq := HSEC.out
          unfold secT at hseq
          obtain ⟨lo, hlo⟩ : ∃ lo, 112 * j = lo := ⟨_, rfl⟩
          obtain ⟨up, hup⟩ : ∃ up, min nr (112 * (j + 1)) = up := ⟨_, rfl⟩
          have hlu : lo ≤ up := by omega
          have hun : up ≤ nr := by omega
          obtain ⟨kk, hkk⟩ : ∃ kk, up - lo = kk := ⟨_, rfl⟩
          have hk2 : kk ≤ 112 := by omega
          have HLP := Lib.hid (show (piece B j).length = kk by rw [piece_length, HBL.out]; omega)
          have hz0 : nr = 0 → lo = 0 ∧ up = 0 ∧ kk = 0 := by omega
          have hz1 : 0 < nr → lo < nr := by omega
          have HPX := Lib.hid (show (B.drop lo).take kk = piece B j by
            rw [piece, hlo]
            rcases Nat.le_total nr (112 * (j + 1)) with h | h
            · rw [List.take_of_length_le (by rw [List.length_drop, HBL.out]; omega), List.take_of_length_le (by rw [List.length_drop, HBL.out]; omega)]
            · rw [show kk = 112 by omega])
          have L1 : (j : Int) * 112 = (lo : Int) := by omega
          have L2 : min (nr : Int) (((j : Int) + 1) * 112) = (up : Int) := by omega
          have hcb := HBS.out.caps
          have HLU := Lib.hid (And.intro hlu hun)
          have HZ := Lib.hid (And.intro hz0 hz1)
          have HKK := Lib.hid hkk
          have HJS := Lib.hid hjs
          have HCB := Lib.hid hcb
          clear hz0 hz1 hseq hlo hup hcb hwr hlu hun
          go_upto_region 25 with fail
          go_cut [15] from 105 to 114 (fun s15 wx => ∃ (A15 : Option Addr) (c15 : Nat), s15 = .slice A15 kk c15 ∧ Hid (BsAt wi (fun b => (S b ∧ b < w.heap.size) ∨ w.heap.size + 4 ≤ b) (.slice A15 kk c15) (piece B j)) ∧ wx = wi)
          case first =>
            clear XD XJ RJ RD HROW HDK hB
            rcases Nat.eq_zero_or_pos nr with h0 | h0
            · obtain ⟨rfl, rfl, rfl⟩ := HZ.out.1 h0
              subst h0
              have HBT := Lib.hid (show BsAt wi (fun b => (S b ∧ b < w.heap.size) ∨ w.heap.size + 4 ≤ b) (.slice Ar 0 cr') (piece B j) from by
                have h1 := HBS.out
                have e1 : B = [] := List.eq_nil_of_length_eq_zero HBL.out
                have e2 : piece B j = [] := List.eq_nil_of_length_eq_zero HLP.out
                rw [e2]
                rwa [e1] at h1)
              have h3 := HCB.out.2.1
              clear HBS hkk hk2 hq65
              rcases Ar with _ | ⟨bb, bo, bsp⟩
              · obtain ⟨_, rfl⟩ := HCB.out.2.2 rfl
                go_wp2_with fail
                go_meet
                exact ⟨none, 0, rfl, HBT, rfl⟩
              · go_wp2_with fail
                go_meet
                exact ⟨some ⟨bb, bo, bsp⟩, cr', by first | rfl | (congr 1; omega), HBT, rfl⟩
            · have h1 := HZ.out.2 h0
              obtain ⟨bb, bo, e, _⟩ := HBS.out.cell (k := 0) (by rw [HBL.out]; exact h0)
              cases e
              have HBT := Lib.hid (show BsAt wi (fun b => (S b ∧ b < w.heap.size) ∨ w.heap.size + 4 ≤ b) (.slice (some ⟨bb, bo + lo, none⟩) kk (cr' - lo)) (piece B j) from by
                have h := HBS.out.sub lo kk (cr' - lo) (by have := HLU.out; have := HKK.out; omega) (by have := HLU.out; have := HCB.out; have := HKK.out; omega) (by have := HCB.out; simp only [maxLen]; omega) HBL.out
                rwa [HPX.out] at h)
              obtain ⟨h2, h3, _⟩ := HCB.out
              obtain ⟨h4, h5⟩ := HLU.out
              have h6 : lo < cr' := by omega
              clear HBS hkk hk2 hq65 h1
              go_wp2_with fail
              all_goals
                go_meet
                exact ⟨some ⟨bb, bo + lo, none⟩, cr' - lo, by first | rfl | (rw [← HKK.out]; done) | (congr 1; have := HKK.out; omega) | (congr 1 <;> have := HKK.out <;> omega), HBT, rfl⟩
          case rest =>
            obtain ⟨A15, c15, rfl, HPC, rfl⟩ := hcut
            obtain ⟨wi, rfl⟩ : ∃ wi : World, wi = wc := ⟨_, rfl⟩
            obtain ⟨bg, hbg⟩ : ∃ bg, decide (j = 0) = bg := ⟨_, rfl⟩
            obtain ⟨en, hen⟩ : ∃ en, decide (j + 1 = sec) = en := ⟨_, rfl⟩
            have b1 : ((j : Int) == 0) = bg := by rw [← hbg]; cases j <;> simp <;> omega
            have b3 : IntKind.i64.wrap ((sec : Int) - 1) = (sec : Int) - 1 := by
              rw [show (sec : Int) - 1 = ((sec - 1 : Nat) : Int) by omega]
              exact IntWalk.i64_in _ (by omega)
            have b2 : ((j : Int) == IntKind.i64.wrap ((sec : Int) - 1)) = en := by rw [b3, ← hen, Bool.eq_iff_iff]; simp; omega
            clear b3
            rw [hbg, hen] at HWR
            have HXJ := Lib.hid XJ
            have HRJ := Lib.hid RJ
            have HRD := Lib.hid RD
            have HXD := Lib.hid XD
            have HBB2 := Lib.hid hB
            have HSZ := Lib.hid (show w.heap.size + 3 < wi.heap.size from RD.lt)
            have dz := XD.lt
            have d0 : wi.cell? ⟨w.heap.size + 1, 0, none⟩ = some (.slice As' ns cs') := XD.cell 0
            have d1 : wi.cell? ⟨w.heap.size + 1, 1, none⟩ = some (.slice Ap' np' cp') := XD.cell 1
            have d2 : wi.cell? ⟨w.heap.size + 1, 2, none⟩ = some (.int .i64 dl) := XD.cell 2
            have d3 : wi.cell? ⟨w.heap.size + 1, 3, none⟩ = some (.bool false) := XD.cell 3
            have HWQ := Lib.hid (fun (W : World) (V : Value) (hW : Below wi.heap.size wi W) (hV : OwnBs W wi.heap.size V (encT g q (kindK bg en) (piece B j))) =>
              dRWriteW (D := d.adds (recsW g a0 (Rr.take i) ++ (recW g a B).take j)) (D' := d.adds (recsW g a0 (Rr.take i) ++ (recW g a B).take (j + 1))) (ns := ns) (dl := dl) (i := (q : Int)) hdl.out hds.out (HDK.out.keep (Keeps.of hW)) ((hV.bs (by rw [encT_length _ _ _ (piece_le _ _)]; simp only [maxLen]; omega)).weak (S' := (fun b => (S b ∧ b < w.heap.size) ∨ w.heap.size + 4 ≤ b)) fun b hb _ => .inr (by have := HSZ.out; omega)) HWR.out hdl.out hds.out hns.out (fun b hb => .inr (by have := HSZ.out; have := hW.size; omega)))
            have HEND := Lib.hid (fun (W : World) (As2 : Option Addr) (cs2 : Nat) (Ap2 : Option Addr) (np2 cp2 : Nat) (hW : Below wi.heap.size wi W) (hDk : DkAt W (fun b => (S b ∧ b < w.heap.size) ∨ w.heap.size + 4 ≤ b) (.slice As2 ns cs2) (.slice Ap2 np2 cp2) (d.adds (recsW g a0 (Rr.take i) ++ (recW g a B).take (j + 1)))) =>
              (show Box (((((W).setCell ⟨w.heap.size + 1, 0, none⟩ (.slice As2 ns cs2)).setCell ⟨w.heap.size + 1, 1, none⟩ (.slice Ap2 np2 cp2)).setCell ⟨w.heap.size + 1, 2, none⟩ (.int .i64 dl)).setCell ⟨w.heap.size + 1, 3, none⟩ (.bool false)) (w.heap.size + 1) [.slice As2 ns cs2, .slice Ap2 np2 cp2, .int .i64 dl, .bool false] ∧ Hid (DkAt (((((W).setCell ⟨w.heap.size + 1, 0, none⟩ (.slice As2 ns cs2)).setCell ⟨w.heap.size + 1, 1, none⟩ (.slice Ap2 np2 cp2)).setCell ⟨w.heap.size + 1, 2, none⟩ (.int .i64 dl)).setCell ⟨w.heap.size + 1, 3, none⟩ (.bool false)) (fun b => (S b ∧ b < w.heap.size) ∨ w.heap.size + 4 ≤ b) (.slice As2 ns cs2) (.slice Ap2 np2 cp2) (d.adds (recsW g a0 (Rr.take i) ++ (recW g a B).take (j + 1)))) ∧ Box (((((W).setCell ⟨w.heap.size + 1, 0, none⟩ (.slice As2 ns cs2)).setCell ⟨w.heap.size + 1, 1, none⟩ (.slice Ap2 np2 cp2)).setCell ⟨w.heap.size + 1, 2, none⟩ (.int .i64 dl)).setCell ⟨w.heap.size + 1, 3, none⟩ (.bool false)) w.heap.size [.slice (some ⟨ab, ao, none⟩) n c, .int .i64 (ns : Int), .int .i64 (k : Int)] ∧ Box (((((W).setCell ⟨w.heap.size + 1, 0, none⟩ (.slice As2 ns cs2)).setCell ⟨w.heap.size + 1, 1, none⟩ (.slice Ap2 np2 cp2)).setCell ⟨w.heap.size + 1, 2, none⟩ (.int .i64 dl)).setCell ⟨w.heap.size + 1, 3, none⟩ (.bool false)) (w.heap.size + 2) [.slice none 0 0, .int .i64 0, .int .i64 0] ∧ Box (((((W).setCell ⟨w.heap.size + 1, 0, none⟩ (.slice As2 ns cs2)).setCell ⟨w.heap.size + 1, 1, none⟩ (.slice Ap2 np2 cp2)).setCell ⟨w.heap.size + 1, 2, none⟩ (.int .i64 dl)).setCell ⟨w.heap.size + 1, 3, none⟩ (.bool false)) (w.heap.size + 3) [.slice none 0 0, .slice none 0 0, .int .i64 0, .bool false] ∧ Hid (RwAt (((((W).setCell ⟨w.heap.size + 1, 0, none⟩ (.slice As2 ns cs2)).setCell ⟨w.heap.size + 1, 1, none⟩ (.slice Ap2 np2 cp2)).setCell ⟨w.heap.size + 1, 2, none⟩ (.int .i64 dl)).setCell ⟨w.heap.size + 1, 3, none⟩ (.bool false)) (fun b => (S b ∧ b < w.heap.size) ∨ w.heap.size + 4 ≤ b) (.slice (some ⟨ab, ao, none⟩) n c) l.records) ∧ Below w.heap.size w (((((W).setCell ⟨w.heap.size + 1, 0, none⟩ (.slice As2 ns cs2)).setCell ⟨w.heap.size + 1, 1, none⟩ (.slice Ap2 np2 cp2)).setCell ⟨w.heap.size + 1, 2, none⟩ (.int .i64 dl)).setCell ⟨w.heap.size + 1, 3, none⟩ (.bool false)) ∧ Hid (BsAt (((((W).setCell ⟨w.heap.size + 1, 0, none⟩ (.slice As2 ns cs2)).setCell ⟨w.heap.size + 1, 1, none⟩ (.slice Ap2 np2 cp2)).setCell ⟨w.heap.size + 1, 2, none⟩ (.int .i64 dl)).setCell ⟨w.heap.size + 1, 3, none⟩ (.bool false)) (fun b => (S b ∧ b < w.heap.size) ∨ w.heap.size + 4 ≤ b) (.slice Ar nr cr') B) from
                ⟨((((HXD.out.later hW).set 0 (.slice As2 ns cs2)).set 1 (.slice Ap2 np2 cp2)).set 2 (.int .i64 dl)).set 3 (.bool false), Lib.hid (((((hDk).keep (Keeps.set (a := ⟨w.heap.size + 1, 0, none⟩) _ (by simp) (.slice As2 ns cs2))).keep (Keeps.set (a := ⟨w.heap.size + 1, 1, none⟩) _ (by simp) (.slice Ap2 np2 cp2))).keep (Keeps.set (a := ⟨w.heap.size + 1, 2, none⟩) _ (by simp) (.int .i64 dl))).keep (Keeps.set (a := ⟨w.heap.size + 1, 3, none⟩) _ (by simp) (.bool false))), ((((HXJ.out.later hW).other (a := ⟨w.heap.size + 1, 0, none⟩) (by simp) (.slice As2 ns cs2)).other (a := ⟨w.heap.size + 1, 1, none⟩) (by simp) (.slice Ap2 np2 cp2)).other (a := ⟨w.heap.size + 1, 2, none⟩) (by simp) (.int .i64 dl)).other (a := ⟨w.heap.size + 1, 3, none⟩) (by simp) (.bool false), ((((HRJ.out.later hW).other (a := ⟨w.heap.size + 1, 0, none⟩) (by simp) (.slice As2 ns cs2)).other (a := ⟨w.heap.size + 1, 1, none⟩) (by simp) (.slice Ap2 np2 cp2)).other (a := ⟨w.heap.size + 1, 2, none⟩) (by simp) (.int .i64 dl)).other (a := ⟨w.heap.size + 1, 3, none⟩) (by simp) (.bool false), ((((HRD.out.later hW).other (a := ⟨w.heap.size + 1, 0, none⟩) (by simp) (.slice As2 ns cs2)).other (a := ⟨w.heap.size + 1, 1, none⟩) (by simp) (.slice Ap2 np2 cp2)).other (a := ⟨w.heap.size + 1, 2, none⟩) (by simp) (.int .i64 dl)).other (a := ⟨w.heap.size + 1, 3, none⟩) (by simp) (.bool false), Lib.hid (((((HROW.out.keep (Keeps.of hW)).keep (Keeps.set (a := ⟨w.heap.size + 1, 0, none⟩) _ (by simp) (.slice As2 ns cs2))).keep (Keeps.set (a := ⟨w.heap.size + 1, 1, none⟩) _ (by simp) (.slice Ap2 np2 cp2))).keep (Keeps.set (a := ⟨w.heap.size + 1, 2, none⟩) _ (by simp) (.int .i64 dl))).keep (Keeps.set (a := ⟨w.heap.size + 1, 3, none⟩) _ (by simp) (.bool false))), ((((HBB2.out.trans (hW.mono HBB2.out.size)).setCell (p := ⟨w.heap.size + 1, 0, none⟩) (by simp) (.slice As2 ns cs2)).setCell (p := ⟨w.heap.size + 1, 1, none⟩) (by simp) (.slice Ap2 np2 cp2)).setCell (p := ⟨w.heap.size + 1, 2, none⟩) (by simp) (.int .i64 dl)).setCell (p := ⟨w.heap.size + 1, 3, none⟩) (by simp) (.bool false), Lib.hid (((((HBS.out.keep (Keeps.of hW)).keep (Keeps.set (a := ⟨w.heap.size + 1, 0, none⟩) _ (by simp) (.slice As2 ns cs2))).keep (Keeps.set (a := ⟨w.heap.size + 1, 1, none⟩) _ (by simp) (.slice Ap2 np2 cp2))).keep (Keeps.set (a := ⟨w.heap.size + 1, 2, none⟩) _ (by simp) (.int .i64 dl))).keep (Keeps.set (a := ⟨w.heap.size + 1, 3, none⟩) _ (by simp) (.bool false)))⟩))
            have ENC := jRSector_any g q bg en (piece B j) A15 kk c15 (fun b => (S b ∧ b < w.heap.size) ∨ w.heap.size + 4 ≤ b) wi.drew (Lib.hid (HPC.out.keep (Keeps.of (Below.refl wi.heap.size wi).drew))) HLP hk2 hq65 (by omega)
            have ENC : Calls Try.prog 47 #[.int .u64 (g : Int), .int .i64 (q : Int), .bool bg, .bool en, .slice A15 kk c15] wi.drew (fun e w' => ∃ A8 c8, e = .returned (.slice A8 128 c8) ∧ Hid (OwnBs w' wi.heap.size (.slice A8 128 c8) (encT g q (kindK bg en) (piece B j))) ∧ Below wi.heap.size wi w') := ENC.mono (by
              rintro e w' ⟨V, rfl, hV, hb⟩
              obtain ⟨A8, c8, hv⟩ := hV.slice
              rw [encT_length _ _ _ (piece_le _ _)] at hv
              subst hv
              exact ⟨A8, c8, rfl, hV, (Below.refl wi.heap.size wi).drew.trans hb⟩)
            clear HPC hkk hk2 hen hbg HKK L1 L2 HLP
            go_upto_region 26 with fail
            go_cut [10] from 115 to 130 (fun s10 wx => s10 = .int .i64 (q : Int) ∧ ∃ (As2 : Option Addr) (cs2 : Nat) (Ap2 : Option Addr) (np2 cp2 : Nat), (Box wx (w.heap.size + 1) [.slice As2 ns cs2, .slice Ap2 np2 cp2, .int .i64 dl, .bool false] ∧ Hid (DkAt wx (fun b => (S b ∧ b < w.heap.size) ∨ w.heap.size + 4 ≤ b) (.slice As2 ns cs2) (.slice Ap2 np2 cp2) (d.adds (recsW g a0 (Rr.take i) ++ (recW g a B).take (j + 1)))) ∧ Box wx w.heap.size [.slice (some ⟨ab, ao, none⟩) n c, .int .i64 (ns : Int), .int .i64 (k : Int)] ∧ Box wx (w.heap.size + 2) [.slice none 0 0, .int .i64 0, .int .i64 0] ∧ Box wx (w.heap.size + 3) [.slice none 0 0, .slice none 0 0, .int .i64 0, .bool false] ∧ Hid (RwAt wx (fun b => (S b ∧ b < w.heap.size) ∨ w.heap.size + 4 ≤ b) (.slice (some ⟨ab, ao, none⟩) n c) l.records) ∧ Below w.heap.size w wx) ∧ Hid (BsAt wx (fun b => (S b ∧ b < w.heap.size) ∨ w.heap.size + 4 ≤ b) (.slice Ar nr cr') B))
            case first =>
              clear XJ RJ RD XD hB
              go_region_with (first | (go_at_call 47; refine ENC.mono ?_; rintro e w8 ⟨A8, c8, rfl, hV, hb8w⟩; have XD8 := HXD.out.later hb8w; have e0 : w8.cell? ⟨w.heap.size + 1, 0, none⟩ = some (.slice As' ns cs') := XD8.cell 0; have e1 : w8.cell? ⟨w.heap.size + 1, 1, none⟩ = some (.slice Ap' np' cp') := XD8.cell 1; have e2 : w8.cell? ⟨w.heap.size + 1, 2, none⟩ = some (.int .i64 dl) := XD8.cell 2; have e3 : w8.cell? ⟨w.heap.size + 1, 3, none⟩ = some (.bool false) := XD8.cell 3) | (go_at_call 46; refine (HWQ.out w8 _ hb8w hV.out).mono ?_; rintro e w9 ⟨As2, cs2, Ap2, np2, cp2, rfl, hDk, hb9⟩; have hb9w := hb8w.trans (hb9.mono hb8w.size); have HEN := Lib.hid (HEND.out w9 As2 cs2 Ap2 np2 cp2 hb9w hDk.out); have XD9 := HXD.out.later hb9w; have v0 : w9.cell? ⟨w.heap.size + 1, 0, none⟩ = some (.slice As' ns cs') := XD9.cell 0; have v1 : w9.cell? ⟨w.heap.size + 1, 1, none⟩ = some (.slice Ap' np' cp') := XD9.cell 1; have v2 : w9.cell? ⟨w.heap.size + 1, 2, none⟩ = some (.int .i64 dl) := XD9.cell 2; have v3 : w9.cell? ⟨w.heap.size + 1, 3, none⟩ = some (.bool false) := XD9.cell 3; have fr0 := XD9.free 0; have fr1 := XD9.free 1; have fr2 := XD9.free 2; have fr3 := XD9.free 3; have vz := XD9.lt))
              all_goals
                go_wp2_with fail
                go_meet
                obtain ⟨p1, p2, p3, p4, p5, p6, p7, p8⟩ := HEN.out
                exact ⟨rfl, As2, cs2, Ap2, np2, cp2, ⟨p1, p2, p3, p4, p5, p6, p7⟩, p8⟩
            case rest =>
              clear XJ RJ RD XD hB ENC HWQ HEND HXJ HRJ HRD HXD HDK HROW HBS d0 d1 d2 d3 dz b1 b2
              obtain ⟨rfl, As2, cs2, Ap2, np2, cp2, ⟨XD, HDK, XJ, RJ, RD, HROW, hB⟩, HBS⟩ := hcut
              have hjz := HJS.out
              go_wp2
              exact ⟨⟨j + 1, q + 1, As2, cs2, Ap2, np2, cp2, by omega, by go_num, by first | rfl | go_num, Lib.hid (by have := hq.out; omega), HBS, XD, HDK, XJ, RJ, RD, HROW, hB⟩, by simp [intOf] <;> omega⟩
      · obtain rfl : r = i := by omega
        obtain rfl : n = p := by have := HR.out; have := hp.out; omega
        have HDK2 := HDK.out
        rw [List.take_of_length_le (by rw [HLR.out]; exact Nat.le_refl _)] at HDK2
        obtain ⟨yy, hyy⟩ : ∃ yy, syncT (d.adds (recsW g a0 Rr)) = yy := ⟨_, rfl⟩
        have SY := dRSync_any (d.adds (recsW g a0 Rr)) _ _ (fun b => (S b ∧ b < w.heap.size) ∨ w.heap.size + 4 ≤ b) wo HDK2
        rw [Dk.v, show (d.adds (recsW g a0 Rr)).left = dl from hdl.out, show (d.adds (recsW g a0 Rr)).stopped = false from hds.out, hyy] at SY
        rw [hyy] at hT7
        have d0 : wo.cell? ⟨w.heap.size + 1, 0, none⟩ = some (.slice As' ns cs') := XD.cell 0
        have d1 : wo.cell? ⟨w.heap.size + 1, 1, none⟩ = some (.slice Ap' np' cp') := XD.cell 1
        have d2 : wo.cell? ⟨w.heap.size + 1, 2, none⟩ = some (.int .i64 dl) := XD.cell 2
        have d3 : wo.cell? ⟨w.heap.size + 1, 3, none⟩ = some (.bool false) := XD.cell 3
        have dz := XD.lt
        have HT7 := hT7
        have HSZ := Lib.hid (show w.heap.size + 3 < wo.heap.size from RD.lt)
        clear hyy HDK HDK2 hT7 ha HROW
        go_wp2_with fail
        refine SY.mono ?_
        rintro e w8 ⟨Vs, Vp, m, er, rfl, ht, hDk, hb8⟩
        obtain ⟨As2, cs2, rfl, _⟩ := hDk.out.sectors.form
        obtain ⟨Ap2, cp2, rfl, _⟩ := hDk.out.pending.form
        obtain ⟨ns2, hns2'⟩ : ∃ x, m.sectors.length = x := ⟨_, rfl⟩
        obtain ⟨np2, hnp2'⟩ : ∃ x, m.pending.length = x := ⟨_, rfl⟩
        obtain ⟨dl2, hdl2⟩ : ∃ x, m.left = x := ⟨_, rfl⟩
        obtain ⟨ds2, hds2⟩ : ∃ x, m.stopped = x := ⟨_, rfl⟩
        rw [hns2', hnp2'] at hDk
        rw [Dk.v, hns2', hnp2', hdl2, hds2]
        have HDL2 := Lib.hid hdl2
        have HDS2 := Lib.hid hds2
        have hDk := Lib.hid (hDk.out.weak (S' := (fun b => (S b ∧ b < w.heap.size) ∨ w.heap.size + 4 ≤ b)) fun b hb _ => hb.elim id fun hb => .inr (by have := HSZ.out; omega))
        have XD := XD.later hb8
        have XJ := XJ.later hb8
        have RJ := RJ.later hb8
        have RD := RD.later hb8
        have hB := hB.trans (hb8.mono hB.size)
        have HTT := ht
        have HSZ8 := Lib.hid (show w.heap.size + 3 < w8.heap.size from RD.lt)
        clear d0 d1 d2 d3 dz x0 x1 x2 xz SY hns2' hnp2' hdl2 hds2 hb8 ht
        have XE := Box.new w8 [.slice As2 ns2 cs2, .slice Ap2 np2 cp2, .int .i64 dl2, .bool ds2] 25
        have XJ := XJ.alloc (.cells #[.slice As2 ns2 cs2, .slice Ap2 np2 cp2, .int .i64 dl2, .bool ds2] 25)
        have XD := XD.alloc (.cells #[.slice As2 ns2 cs2, .slice Ap2 np2 cp2, .int .i64 dl2, .bool ds2] 25)
        have RJ := RJ.alloc (.cells #[.slice As2 ns2 cs2, .slice Ap2 np2 cp2, .int .i64 dl2, .bool ds2] 25)
        have RD := RD.alloc (.cells #[.slice As2 ns2 cs2, .slice Ap2 np2 cp2, .int .i64 dl2, .bool ds2] 25)
        have hB := hB.alloc (by have := HSZ8.out; omega) (.cells #[.slice As2 ns2 cs2, .slice Ap2 np2 cp2, .int .i64 dl2, .bool ds2] 25)
        have hDk := Lib.hid (hDk.out.keep (Keeps.of ((Below.refl w8.heap.size w8).alloc (Nat.le_refl _) (.cells #[.slice As2 ns2 cs2, .slice Ap2 np2 cp2, .int .i64 dl2, .bool ds2] 25))))
        go_upto_region 29 with fail
        generalize w8.alloc (.cells #[.slice As2 ns2 cs2, .slice Ap2 np2 cp2, .int .i64 dl2, .bool ds2] 25) = w10 at XE XJ XD RJ RD hB hDk ⊢
        generalize w8.heap.size = be at XE HSZ8 ⊢
        have hne : be ≠ w.heap.size := by have := HSZ8.out; omega
        have ne2 : ¬ be = w.heap.size + 1 + 1 := by have := HSZ8.out; omega
        have ne3 : ¬ be = w.heap.size + 1 + 1 + 1 := by have := HSZ8.out; omega
        have ne4 : ¬ w.heap.size + 1 + 1 = be := by have := HSZ8.out; omega
        have ne5 : ¬ w.heap.size + 1 + 1 + 1 = be := by have := HSZ8.out; omega
        by_cases he : er = 0
        · subst he
          have x0 := XJ.cell 0
          have x2 := XJ.cell 2
          have fx2 := XJ.free 2
          have xz := XJ.lt
          go_upto_region 32 with fail
          have XE := XE.other (a := ⟨w.heap.size, 2, none⟩) (by simp; omega) (.int .i64 (n : Int))
          have XJ := XJ.set 2 (.int .i64 (n : Int))
          have RJ := RJ.other (a := ⟨w.heap.size, 2, none⟩) (by simp) (.int .i64 (n : Int))
          have RD := RD.other (a := ⟨w.heap.size, 2, none⟩) (by simp) (.int .i64 (n : Int))
          have hB := hB.setCell (p := ⟨w.heap.size, 2, none⟩) (Nat.le_refl _) (.int .i64 (n : Int))
          have hDk := Lib.hid (hDk.out.keep (Keeps.set (a := ⟨w.heap.size, 2, none⟩) _ (by simp) (.int .i64 (n : Int))))
          generalize w10.setCell ⟨w.heap.size, 2, none⟩ (.int .i64 (n : Int)) = w5 at XE XJ RJ RD hB hDk ⊢
          clear x0 x2 fx2 xz
          have x0 : w5.cell? ⟨w.heap.size, 0, none⟩ = some (.slice (some ⟨ab, ao, none⟩) n c) := XJ.cell 0
          have x1 : w5.cell? ⟨w.heap.size, 1, none⟩ = some (.int .i64 (ns : Int)) := XJ.cell 1
          have x2 : w5.cell? ⟨w.heap.size, 2, none⟩ = some (.int .i64 (n : Int)) := XJ.cell 2
          have xz := XJ.lt
          have e0 : w5.cell? ⟨be, 0, none⟩ = some (.slice As2 ns2 cs2) := XE.cell 0
          have e1 : w5.cell? ⟨be, 1, none⟩ = some (.slice Ap2 np2 cp2) := XE.cell 1
          have e2 : w5.cell? ⟨be, 2, none⟩ = some (.int .i64 dl2) := XE.cell 2
          have e3 : w5.cell? ⟨be, 3, none⟩ = some (.bool ds2) := XE.cell 3
          have ez := XE.lt
          have r0 : w5.cell? ⟨w.heap.size + 2, 0, none⟩ = some (.slice none 0 0) := RJ.cell 0
          have r1 : w5.cell? ⟨w.heap.size + 2, 1, none⟩ = some (.int .i64 0) := RJ.cell 1
          have r2 : w5.cell? ⟨w.heap.size + 2, 2, none⟩ = some (.int .i64 0) := RJ.cell 2
          have f0 := RJ.free 0
          have f1 := RJ.free 1
          have f2 := RJ.free 2
          have rz := RJ.lt
          have s0 : w5.cell? ⟨w.heap.size + 3, 0, none⟩ = some (.slice none 0 0) := RD.cell 0
          have s1 : w5.cell? ⟨w.heap.size + 3, 1, none⟩ = some (.slice none 0 0) := RD.cell 1
          have s2 : w5.cell? ⟨w.heap.size + 3, 2, none⟩ = some (.int .i64 0) := RD.cell 2
          have s3 : w5.cell? ⟨w.heap.size + 3, 3, none⟩ = some (.bool false) := RD.cell 3
          have g0 := RD.free 0
          have g1 := RD.free 1
          have g2 := RD.free 2
          have g3 := RD.free 3
          have sz := RD.lt
          go_region
          all_goals
            go_wp2_with fail
            clear x0 x1 x2 xz e0 e1 e2 e3 ez r0 r1 r2 f0 f1 f2 rz s0 s1 s2 s3 g0 g1 g2 g3 sz
            have RJ := ((((((((RJ).set 0 (.slice (some ⟨ab, ao, none⟩) n c)).set 1 (.int .i64 (ns : Int))).set 2 (.int .i64 (n : Int))).other (a := ⟨w.heap.size + 3, 0, none⟩) (by simp) (.slice As2 ns2 cs2)).other (a := ⟨w.heap.size + 3, 1, none⟩) (by simp) (.slice Ap2 np2 cp2)).other (a := ⟨w.heap.size + 3, 2, none⟩) (by simp) (.int .i64 dl2)).other (a := ⟨w.heap.size + 3, 3, none⟩) (by simp) (.bool ds2)).drew
            have RD := ((((((((RD).other (a := ⟨w.heap.size + 2, 0, none⟩) (by simp) (.slice (some ⟨ab, ao, none⟩) n c)).other (a := ⟨w.heap.size + 2, 1, none⟩) (by simp) (.int .i64 (ns : Int))).other (a := ⟨w.heap.size + 2, 2, none⟩) (by simp) (.int .i64 (n : Int))).set 0 (.slice As2 ns2 cs2)).set 1 (.slice Ap2 np2 cp2)).set 2 (.int .i64 dl2)).set 3 (.bool ds2)).drew
            have hB := ((((((((hB).setCell (p := ⟨w.heap.size + 2, 0, none⟩) (by simp) (.slice (some ⟨ab, ao, none⟩) n c)).setCell (p := ⟨w.heap.size + 2, 1, none⟩) (by simp) (.int .i64 (ns : Int))).setCell (p := ⟨w.heap.size + 2, 2, none⟩) (by simp) (.int .i64 (n : Int))).setCell (p := ⟨w.heap.size + 3, 0, none⟩) (by simp) (.slice As2 ns2 cs2)).setCell (p := ⟨w.heap.size + 3, 1, none⟩) (by simp) (.slice Ap2 np2 cp2)).setCell (p := ⟨w.heap.size + 3, 2, none⟩) (by simp) (.int .i64 dl2)).setCell (p := ⟨w.heap.size + 3, 3, none⟩) (by simp) (.bool ds2)).drew
            have hDk := Lib.hid ((((((((hDk.out).keep (Keeps.set (a := ⟨w.heap.size + 2, 0, none⟩) _ (by simp) (.slice (some ⟨ab, ao, none⟩) n c))).keep (Keeps.set (a := ⟨w.heap.size + 2, 1, none⟩) _ (by simp) (.int .i64 (ns : Int)))).keep (Keeps.set (a := ⟨w.heap.size + 2, 2, none⟩) _ (by simp) (.int .i64 (n : Int)))).keep (Keeps.set (a := ⟨w.heap.size + 3, 0, none⟩) _ (by simp) (.slice As2 ns2 cs2))).keep (Keeps.set (a := ⟨w.heap.size + 3, 1, none⟩) _ (by simp) (.slice Ap2 np2 cp2))).keep (Keeps.set (a := ⟨w.heap.size + 3, 2, none⟩) _ (by simp) (.int .i64 dl2))).keep (Keeps.set (a := ⟨w.heap.size + 3, 3, none⟩) _ (by simp) (.bool ds2)))
            replace hDk := Lib.hid (hDk.out.keep (Keeps.of (Below.refl _ _).drew))
            generalize ((((((((w5).setCell ⟨w.heap.size + 2, 0, none⟩ (.slice (some ⟨ab, ao, none⟩) n c)).setCell ⟨w.heap.size + 2, 1, none⟩ (.int .i64 (ns : Int))).setCell ⟨w.heap.size + 2, 2, none⟩ (.int .i64 (n : Int))).setCell ⟨w.heap.size + 3, 0, none⟩ (.slice As2 ns2 cs2)).setCell ⟨w.heap.size + 3, 1, none⟩ (.slice Ap2 np2 cp2)).setCell ⟨w.heap.size + 3, 2, none⟩ (.int .i64 dl2)).setCell ⟨w.heap.size + 3, 3, none⟩ (.bool ds2)).drew = W at RJ RD hB hDk ⊢
            have y0 : W.cell? ⟨w.heap.size + 2, 0, none⟩ = some (.slice (some ⟨ab, ao, none⟩) n c) := RJ.cell 0
            have y1 : W.cell? ⟨w.heap.size + 2, 1, none⟩ = some (.int .i64 (ns : Int)) := RJ.cell 1
            have y2 : W.cell? ⟨w.heap.size + 2, 2, none⟩ = some (.int .i64 (n : Int)) := RJ.cell 2
            have z0 : W.cell? ⟨w.heap.size + 3, 0, none⟩ = some (.slice As2 ns2 cs2) := RD.cell 0
            have z1 : W.cell? ⟨w.heap.size + 3, 1, none⟩ = some (.slice Ap2 np2 cp2) := RD.cell 1
            have z2 : W.cell? ⟨w.heap.size + 3, 2, none⟩ = some (.int .i64 dl2) := RD.cell 2
            have z3 : W.cell? ⟨w.heap.size + 3, 3, none⟩ = some (.bool ds2) := RD.cell 3
            refine bodyPost_ret (v := .tuple #[.agg #[.slice (some ⟨ab, ao, none⟩) n c, .int .i64 (ns : Int), .int .i64 (n : Int)], .agg #[.slice As2 ns2 cs2, .slice Ap2 np2 cp2, .int .i64 dl2, .bool ds2], .int .i64 0]) (by simp [results, Try.results22, go_sem, y0, y1, y2, z0, z1, z2, z3]) rfl ?_
            have hfin := HT7.out
            rw [HTT.out] at hfin
            rw [← HDL2.out, ← HDS2.out]
            exact ⟨(some ⟨ab, ao, none⟩), n, c, ⟨l.records, (ns : Int), (n : Int)⟩, .slice As2 ns2 cs2, .slice Ap2 np2 cp2, m, 0, rfl, Lib.hid (hfin.trans (if_pos rfl)), hn, Lib.hid ((h.out.keep (Keeps.of hB)).weak fun b hb _ => .inl hb), Lib.hid (hDk.out.weak fun b hb _ => hb.elim (fun h => .inl h.1) (fun h => .inr (by omega))), hB⟩
        · have e1 : (er != 0) = true := by simp [he]
          have e2 : (er == 0) = false := by simp [he]
          have HE := Lib.hid he
          clear he
          go_upto_region 30 with fail
          generalize w10 = w5 at XE XJ RJ RD hB hDk ⊢
          clear e1 e2
          have x0 : w5.cell? ⟨w.heap.size, 0, none⟩ = some (.slice (some ⟨ab, ao, none⟩) n c) := XJ.cell 0
          have x1 : w5.cell? ⟨w.heap.size, 1, none⟩ = some (.int .i64 (ns : Int)) := XJ.cell 1
          have x2 : w5.cell? ⟨w.heap.size, 2, none⟩ = some (.int .i64 (k : Int)) := XJ.cell 2
          have xz := XJ.lt
          have e0 : w5.cell? ⟨be, 0, none⟩ = some (.slice As2 ns2 cs2) := XE.cell 0
          have e1 : w5.cell? ⟨be, 1, none⟩ = some (.slice Ap2 np2 cp2) := XE.cell 1
          have e2 : w5.cell? ⟨be, 2, none⟩ = some (.int .i64 dl2) := XE.cell 2
          have e3 : w5.cell? ⟨be, 3, none⟩ = some (.bool ds2) := XE.cell 3
          have ez := XE.lt
          have r0 : w5.cell? ⟨w.heap.size + 2, 0, none⟩ = some (.slice none 0 0) := RJ.cell 0
          have r1 : w5.cell? ⟨w.heap.size + 2, 1, none⟩ = some (.int .i64 0) := RJ.cell 1
          have r2 : w5.cell? ⟨w.heap.size + 2, 2, none⟩ = some (.int .i64 0) := RJ.cell 2
          have f0 := RJ.free 0
          have f1 := RJ.free 1
          have f2 := RJ.free 2
          have rz := RJ.lt
          have s0 : w5.cell? ⟨w.heap.size + 3, 0, none⟩ = some (.slice none 0 0) := RD.cell 0
          have s1 : w5.cell? ⟨w.heap.size + 3, 1, none⟩ = some (.slice none 0 0) := RD.cell 1
          have s2 : w5.cell? ⟨w.heap.size + 3, 2, none⟩ = some (.int .i64 0) := RD.cell 2
          have s3 : w5.cell? ⟨w.heap.size + 3, 3, none⟩ = some (.bool false) := RD.cell 3
          have g0 := RD.free 0
          have g1 := RD.free 1
          have g2 := RD.free 2
          have g3 := RD.free 3
          have sz := RD.lt
          go_region
          all_goals
            go_wp2_with fail
            clear x0 x1 x2 xz e0 e1 e2 e3 ez r0 r1 r2 f0 f1 f2 rz s0 s1 s2 s3 g0 g1 g2 g3 sz
            have RJ := ((((((((RJ).set 0 (.slice none 0 0)).set 1 (.int .i64 0)).set 2 (.int .i64 0)).other (a := ⟨w.heap.size + 3, 0, none⟩) (by simp) (.slice As2 ns2 cs2)).other (a := ⟨w.heap.size + 3, 1, none⟩) (by simp) (.slice Ap2 np2 cp2)).other (a := ⟨w.heap.size + 3, 2, none⟩) (by simp) (.int .i64 dl2)).other (a := ⟨w.heap.size + 3, 3, none⟩) (by simp) (.bool ds2)).drew
            have RD := ((((((((RD).other (a := ⟨w.heap.size + 2, 0, none⟩) (by simp) (.slice none 0 0)).other (a := ⟨w.heap.size + 2, 1, none⟩) (by simp) (.int .i64 0)).other (a := ⟨w.heap.size + 2, 2, none⟩) (by simp) (.int .i64 0)).set 0 (.slice As2 ns2 cs2)).set 1 (.slice Ap2 np2 cp2)).set 2 (.int .i64 dl2)).set 3 (.bool ds2)).drew
            have hB := ((((((((hB).setCell (p := ⟨w.heap.size + 2, 0, none⟩) (by simp) (.slice none 0 0)).setCell (p := ⟨w.heap.size + 2, 1, none⟩) (by simp) (.int .i64 0)).setCell (p := ⟨w.heap.size + 2, 2, none⟩) (by simp) (.int .i64 0)).setCell (p := ⟨w.heap.size + 3, 0, none⟩) (by simp) (.slice As2 ns2 cs2)).setCell (p := ⟨w.heap.size + 3, 1, none⟩) (by simp) (.slice Ap2 np2 cp2)).setCell (p := ⟨w.heap.size + 3, 2, none⟩) (by simp) (.int .i64 dl2)).setCell (p := ⟨w.heap.size + 3, 3, none⟩) (by simp) (.bool ds2)).drew
            have hDk := Lib.hid ((((((((hDk.out).keep (Keeps.set (a := ⟨w.heap.size + 2, 0, none⟩) _ (by simp) (.slice none 0 0))).keep (Keeps.set (a := ⟨w.heap.size + 2, 1, none⟩) _ (by simp) (.int .i64 0))).keep (Keeps.set (a := ⟨w.heap.size + 2, 2, none⟩) _ (by simp) (.int .i64 0))).keep (Keeps.set (a := ⟨w.heap.size + 3, 0, none⟩) _ (by simp) (.slice As2 ns2 cs2))).keep (Keeps.set (a := ⟨w.heap.size + 3, 1, none⟩) _ (by simp) (.slice Ap2 np2 cp2))).keep (Keeps.set (a := ⟨w.heap.size + 3, 2, none⟩) _ (by simp) (.int .i64 dl2))).keep (Keeps.set (a := ⟨w.heap.size + 3, 3, none⟩) _ (by simp) (.bool ds2)))
            replace hDk := Lib.hid (hDk.out.keep (Keeps.of (Below.refl _ _).drew))
            generalize ((((((((w5).setCell ⟨w.heap.size + 2, 0, none⟩ (.slice none 0 0)).setCell ⟨w.heap.size + 2, 1, none⟩ (.int .i64 0)).setCell ⟨w.heap.size + 2, 2, none⟩ (.int .i64 0)).setCell ⟨w.heap.size + 3, 0, none⟩ (.slice As2 ns2 cs2)).setCell ⟨w.heap.size + 3, 1, none⟩ (.slice Ap2 np2 cp2)).setCell ⟨w.heap.size + 3, 2, none⟩ (.int .i64 dl2)).setCell ⟨w.heap.size + 3, 3, none⟩ (.bool ds2)).drew = W at RJ RD hB hDk ⊢
            have y0 : W.cell? ⟨w.heap.size + 2, 0, none⟩ = some (.slice none 0 0) := RJ.cell 0
            have y1 : W.cell? ⟨w.heap.size + 2, 1, none⟩ = some (.int .i64 0) := RJ.cell 1
            have y2 : W.cell? ⟨w.heap.size + 2, 2, none⟩ = some (.int .i64 0) := RJ.cell 2
            have z0 : W.cell? ⟨w.heap.size + 3, 0, none⟩ = some (.slice As2 ns2 cs2) := RD.cell 0
            have z1 : W.cell? ⟨w.heap.size + 3, 1, none⟩ = some (.slice Ap2 np2 cp2) := RD.cell 1
            have z2 : W.cell? ⟨w.heap.size + 3, 2, none⟩ = some (.int .i64 dl2) := RD.cell 2
            have z3 : W.cell? ⟨w.heap.size + 3, 3, none⟩ = some (.bool ds2) := RD.cell 3
            refine bodyPost_ret (v := .tuple #[.agg #[.slice none 0 0, .int .i64 0, .int .i64 0], .agg #[.slice As2 ns2 cs2, .slice Ap2 np2 cp2, .int .i64 dl2, .bool ds2], .int .i64 er]) (by simp [results, Try.results22, go_sem, y0, y1, y2, z0, z1, z2, z3]) rfl ?_
            have hfin := HT7.out
            rw [HTT.out] at hfin
            rw [← HDL2.out, ← HDS2.out]
            exact ⟨none, 0, 0, Jn.zero, .slice As2 ns2 cs2, .slice Ap2 np2 cp2, m, er, rfl, Lib.hid (hfin.trans (if_neg HE.out)), rfl, Lib.hid (rwAt_nil _ _), Lib.hid (hDk.out.weak fun b hb _ => hb.elim (fun h => .inl h.1) (fun h => .inr (by omega))), hB⟩

end Go.Proofs.Ythlidhfahaalgaa

/-
  Sync of the reference of chapter 5, whole.
-/
namespace Go.Proofs.Ythlidhfahaalgaa
open Go.RowKit

theorem jRSync_any (l : Jn) (A : Option Addr) (n c : Nat) (many sync : Int) (d : Dk) (As : Option Addr) (ns cs : Nat) (Ap : Option Addr) (np cp : Nat) (dl : Int) (ds : Bool) (S : Nat → Prop) (w : World) (h : Hid (RwAt w S (.slice A n c) l.records)) (hn : Hid (l.records.length = n)) (hm : Hid (l.many = many)) (hy : Hid (l.synced = sync)) (hs : Hid (sumB l.records ≤ 4194304)) (hD : Hid (DkAt w S (.slice As ns cs) (.slice Ap np cp) d)) (hdl : Hid (d.left = dl)) (hds : Hid (d.stopped = ds)) (hns : Hid (d.sectors.length = ns)) (hnp : Hid (d.pending.length = np)) :
    Calls Try.prog 22 #[.agg #[.slice A n c, .int .i64 many, .int .i64 sync], .agg #[.slice As ns cs, .slice Ap np cp, .int .i64 dl, .bool ds]] w (RetJD (syncJ l d) S w) := by
  rcases hok : l.okB with _ | _
  · exact jRSync_1 l A n c many sync d As ns cs Ap np cp dl ds S w h hn hm hy hs hD hdl hds hns hnp (Lib.hid (syncJ_1 hok)) (Lib.hid (Jn.bad hok))
  have hc := Lib.hid (Jn.good hok)
  by_cases hcd : d.checkT = 0
  rotate_left
  · exact jRSync_2 l A n c many sync d As ns cs Ap np cp dl ds S w h hn hm hy hs hD hdl hds hns hnp hc d.checkT (Lib.hid (by rw [syncJ, if_pos hok, if_pos hcd])) rfl hcd
  have HCD := Lib.hid hcd
  rcases hst : ds with _ | _
  rotate_left
  · subst hst
    exact jRSync_3 l A n c many sync d As ns cs Ap np cp dl true S w h hn hm hy hs hD hdl hds hns hnp hc HCD (Lib.hid (by rw [syncJ, if_pos hok, if_neg (by rw [hcd]; simp), if_pos hds.out])) rfl
  subst hst
  by_cases hmn : many = (ns : Int)
  rotate_left
  · exact jRSync_4 l A n c many sync d As ns cs Ap np cp dl false S w h hn hm hy hs hD hdl hds hns hnp hc HCD (Lib.hid (by rw [syncJ, if_pos hok, if_neg (by rw [hcd]; simp), if_neg (by rw [hds.out]; simp), if_pos (.inl (by rw [hm.out, hns.out]; exact hmn))])) rfl (.inl hmn)
  rcases Nat.eq_zero_or_pos np with h0 | h0
  rotate_left
  · have hp : d.pending ≠ [] := fun e => by have := hnp.out; rw [e] at this; simp at this; omega
    exact jRSync_4 l A n c many sync d As ns cs Ap np cp dl false S w h hn hm hy hs hD hdl hds hns hnp hc HCD (Lib.hid (by rw [syncJ, if_pos hok, if_neg (by rw [hcd]; simp), if_neg (by rw [hds.out]; simp), if_pos (.inr hp)])) rfl (.inr h0)
  subst h0 hmn
  obtain ⟨_, _, g3, g4, _⟩ := l.okB_iff.1 hok
  obtain ⟨k, hk⟩ : ∃ k : Nat, sync = (k : Int) := ⟨sync.toNat, by rw [hy.out] at g3; omega⟩
  subst hk
  have hkn : k ≤ n := by rw [hy.out, hn.out] at g4; omega
  by_cases hfit : decide (recordsT d.sectors = l.records.take k) = true → genM d.sectors + 1 ≤ 4294967295 → k = n
  · exact jRSync_5 l A n c k d As ns cs Ap cp dl S w h hn hm hy hs hD hdl hds hns hnp hc HCD (Lib.hid hfit)
  · obtain ⟨h1, h2⟩ := Classical.not_imp.1 hfit
    obtain ⟨h2, h3⟩ := Classical.not_imp.1 h2
    have hlt : k < n := by omega
    obtain ⟨b, o, V, e, _⟩ := h.out.row (k := 0) (by rw [hn.out]; omega)
    subst e
    exact jRSync_7 l b o n c k d As ns cs Ap cp dl S w h hn hm hy hs hD hdl hds hns hnp hc HCD (Lib.hid (of_decide_eq_true h1)) (Lib.hid h2) hlt

end Go.Proofs.Ythlidhfahaalgaa

/-
  sane of the laws of chapter 5: what its calls give, in plain Lean.
-/
namespace Go.Proofs.Ythlidhfahaalgaa
open Go.RowKit

def saneD1 : Dk := (newT 1).1
def saneJ0 : Jn := (openT saneD1).1
def saneJ1 : Jn := (appendT saneJ0 [97, 98]).1
def saneJ2 : Jn := (syncJ saneJ1 saneD1).1
def saneD2 : Dk := (syncJ saneJ1 saneD1).2.1
def saneJ3 : Jn := (openT saneD2).1
theorem sane_1 : (newT 1).2 = 0 := by decide +kernel
theorem sane_2 : (openT saneD1).2 = 0 := by decide +kernel
theorem sane_3 : saneJ0.records = [] := by decide +kernel
theorem sane_4 : saneJ0.roomT = 112 := by decide +kernel
theorem sane_5 : (appendT saneJ0 (List.replicate 113 0)).2 = 2 := by decide +kernel
theorem sane_6 : (appendT saneJ0 [97, 98]).2 = 0 := by decide +kernel
theorem sane_7 : (syncJ saneJ1 saneD1).2.2 = 0 := by decide +kernel
theorem sane_8 : saneJ2.synced = 1 := by decide +kernel
theorem sane_9 : (openT saneD2).2 = 0 := by decide +kernel
theorem sane_10 : saneJ3.records = [[97, 98]] := by decide +kernel
theorem sane_11 : (syncJ saneJ1 saneD2).2.2 = 50 := by decide +kernel

end Go.Proofs.Ythlidhfahaalgaa
