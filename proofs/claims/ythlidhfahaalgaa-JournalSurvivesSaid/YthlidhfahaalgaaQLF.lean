/- Sync of the reference of chapter 5: a log that differs, nothing to write. (Printed by gen_lf.py.) -/
import Derived.Test.YthlidhfahaalgaaQLD
set_option linter.unusedVariables false
set_option linter.unusedSimpArgs false
namespace Go.Proofs.Ythlidhfahaalgaa
open Go.RowKit
attribute [local go_sem ↓ high] app_named cop_named

set_option maxRecDepth 100000 in
set_option maxHeartbeats 16000000 in
theorem jRSync_5 (l : Jn) (A : Option Addr) (n c k : Nat) (d : Dk) (As : Option Addr) (ns cs : Nat) (Ap : Option Addr) (cp : Nat) (dl : Int) (S : Nat → Prop) (w : World) (h : Hid (RwAt w S (.slice A n c) l.records)) (hn : Hid (l.records.length = n)) (hm : Hid (l.many = (ns : Int))) (hy : Hid (l.synced = (k : Int))) (hs : Hid (sumB l.records ≤ 4194304)) (hD : Hid (DkAt w S (.slice As ns cs) (.slice Ap 0 cp) d)) (hdl : Hid (d.left = dl)) (hds : Hid (d.stopped = false)) (hns : Hid (d.sectors.length = ns)) (hnp : Hid (d.pending.length = 0)) (hc : Hid (l.checkT = 0)) (hcd : Hid (d.checkT = 0)) (hfit : Hid (decide (recordsT d.sectors = l.records.take k) = true → genM d.sectors + 1 ≤ 4294967295 → k = n)) : Calls Try.prog 22 #[.agg #[.slice A n c, .int .i64 (ns : Int), .int .i64 (k : Int)], .agg #[.slice As ns cs, .slice Ap 0 cp, .int .i64 dl, .bool false]] w (RetJD (syncJ l d) S w) := by
  have HOK : Hid (l.okB = true) := by
    rcases hh : l.okB with _ | _
    · have := hc.out; rw [Jn.bad hh] at this; cases this
    · rfl
  have h128 : Hid (∀ s ∈ d.sectors, s.length = 128) := Lib.hid (by
    have hok : d.okB = true := by
      rcases h : d.okB with _ | _
      · have := hcd.out; rw [Dk.checkT, h] at this; exact absurd this (by decide)
      · rfl
    exact (okB_parts hok).2.2.2.2.2.2)
  have hns2 : ns ≤ 4096 := by
    have hok : d.okB = true := by
      rcases h : d.okB with _ | _
      · have := hcd.out; rw [Dk.checkT, h] at this; exact absurd this (by decide)
      · rfl
    rw [← hns.out]; exact (okB_parts hok).2.1
  have HD0 := Lib.hid (hD.out.sectors)
  have HB0 := ((((Below.refl w.heap.size w).alloc (Nat.le_refl _) (.cells #[.slice A n c, .int .i64 (ns : Int), .int .i64 (k : Int)] 29)).alloc (by simp) (.cells #[.slice As ns cs, .slice Ap 0 cp, .int .i64 dl, .bool false] 25)).alloc (by simp; omega) (.cells #[.slice none 0 0, .int .i64 0, .int .i64 0] 29)).alloc (by simp; omega) (.cells #[.slice none 0 0, .slice none 0 0, .int .i64 0, .bool false] 25)
  have HC := jRCheck_any l A n c (ns : Int) (k : Int) S ((((w.alloc (.cells #[.slice A n c, .int .i64 (ns : Int), .int .i64 (k : Int)] 29)).alloc (.cells #[.slice As ns cs, .slice Ap 0 cp, .int .i64 dl, .bool false] 25)).alloc (.cells #[.slice none 0 0, .int .i64 0, .int .i64 0] 29)).alloc (.cells #[.slice none 0 0, .slice none 0 0, .int .i64 0, .bool false] 25)) (Lib.hid (h.out.keep (Keeps.of HB0))) hn hm hy hs
  rw [hc.out] at HC
  go_enter Try.func22, Try.ntmps22
  go_wp2_with fail
  refine HC.mono ?_
  rintro e w1 ⟨rfl, hb1⟩
  have XJ := ((((Box.new w [.slice A n c, .int .i64 (ns : Int), .int .i64 (k : Int)] 29).alloc (.cells #[.slice As ns cs, .slice Ap 0 cp, .int .i64 dl, .bool false] 25)).alloc (.cells #[.slice none 0 0, .int .i64 0, .int .i64 0] 29)).alloc (.cells #[.slice none 0 0, .slice none 0 0, .int .i64 0, .bool false] 25)).later hb1
  have XD := (((Box.newAt (w := w.alloc (.cells #[.slice A n c, .int .i64 (ns : Int), .int .i64 (k : Int)] 29)) (n := w.heap.size + 1) [.slice As ns cs, .slice Ap 0 cp, .int .i64 dl, .bool false] 25 (by simp)).alloc (.cells #[.slice none 0 0, .int .i64 0, .int .i64 0] 29)).alloc (.cells #[.slice none 0 0, .slice none 0 0, .int .i64 0, .bool false] 25)).later hb1
  have RJ := ((Box.newAt (w := (w.alloc (.cells #[.slice A n c, .int .i64 (ns : Int), .int .i64 (k : Int)] 29)).alloc (.cells #[.slice As ns cs, .slice Ap 0 cp, .int .i64 dl, .bool false] 25)) (n := w.heap.size + 2) [.slice none 0 0, .int .i64 0, .int .i64 0] 29 (by simp)).alloc (.cells #[.slice none 0 0, .slice none 0 0, .int .i64 0, .bool false] 25)).later hb1
  have RD := (Box.newAt (w := ((w.alloc (.cells #[.slice A n c, .int .i64 (ns : Int), .int .i64 (k : Int)] 29)).alloc (.cells #[.slice As ns cs, .slice Ap 0 cp, .int .i64 dl, .bool false] 25)).alloc (.cells #[.slice none 0 0, .int .i64 0, .int .i64 0] 29)) (n := w.heap.size + 3) [.slice none 0 0, .slice none 0 0, .int .i64 0, .bool false] 25 (by simp)).later hb1
  have hB := HB0.trans (hb1.mono HB0.size)
  clear hb1 HB0 HC
  have x0 : w1.cell? ⟨w.heap.size, 0, none⟩ = some (.slice A n c) := XJ.cell 0
  have x1 : w1.cell? ⟨w.heap.size, 1, none⟩ = some (.int .i64 (ns : Int)) := XJ.cell 1
  have x2 : w1.cell? ⟨w.heap.size, 2, none⟩ = some (.int .i64 (k : Int)) := XJ.cell 2
  have xz := XJ.lt
  have d0 : w1.cell? ⟨w.heap.size + 1, 0, none⟩ = some (.slice As ns cs) := XD.cell 0
  have d1 : w1.cell? ⟨w.heap.size + 1, 1, none⟩ = some (.slice Ap 0 cp) := XD.cell 1
  have d2 : w1.cell? ⟨w.heap.size + 1, 2, none⟩ = some (.int .i64 dl) := XD.cell 2
  have d3 : w1.cell? ⟨w.heap.size + 1, 3, none⟩ = some (.bool false) := XD.cell 3
  have dz := XD.lt
  have r0 : w1.cell? ⟨w.heap.size + 2, 0, none⟩ = some (.slice none 0 0) := RJ.cell 0
  have r1 : w1.cell? ⟨w.heap.size + 2, 1, none⟩ = some (.int .i64 0) := RJ.cell 1
  have r2 : w1.cell? ⟨w.heap.size + 2, 2, none⟩ = some (.int .i64 0) := RJ.cell 2
  have f0 := RJ.free 0
  have f1 := RJ.free 1
  have f2 := RJ.free 2
  have rz := RJ.lt
  have s0 : w1.cell? ⟨w.heap.size + 3, 0, none⟩ = some (.slice none 0 0) := RD.cell 0
  have s1 : w1.cell? ⟨w.heap.size + 3, 1, none⟩ = some (.slice none 0 0) := RD.cell 1
  have s2 : w1.cell? ⟨w.heap.size + 3, 2, none⟩ = some (.int .i64 0) := RD.cell 2
  have s3 : w1.cell? ⟨w.heap.size + 3, 3, none⟩ = some (.bool false) := RD.cell 3
  have g0 := RD.free 0
  have g1 := RD.free 1
  have g2 := RD.free 2
  have g3 := RD.free 3
  have sz := RD.lt
  have HDC := dRCheck_at hcd (hD.out.keep (Keeps.of hB)) hdl hds
  go_wp2_with fail
  refine HDC.mono ?_
  rintro e w2 ⟨rfl, hb2⟩
  have XJ := XJ.later hb2
  have XD := XD.later hb2
  have RJ := RJ.later hb2
  have RD := RD.later hb2
  have hB := hB.trans (hb2.mono hB.size)
  clear hb2 HDC
  clear x0 x1 x2 xz d0 d1 d2 d3 dz r0 r1 r2 f0 f1 f2 rz s0 s1 s2 s3 g0 g1 g2 g3 sz
  have x0 : w2.cell? ⟨w.heap.size, 0, none⟩ = some (.slice A n c) := XJ.cell 0
  have x1 : w2.cell? ⟨w.heap.size, 1, none⟩ = some (.int .i64 (ns : Int)) := XJ.cell 1
  have x2 : w2.cell? ⟨w.heap.size, 2, none⟩ = some (.int .i64 (k : Int)) := XJ.cell 2
  have xz := XJ.lt
  have d0 : w2.cell? ⟨w.heap.size + 1, 0, none⟩ = some (.slice As ns cs) := XD.cell 0
  have d1 : w2.cell? ⟨w.heap.size + 1, 1, none⟩ = some (.slice Ap 0 cp) := XD.cell 1
  have d2 : w2.cell? ⟨w.heap.size + 1, 2, none⟩ = some (.int .i64 dl) := XD.cell 2
  have d3 : w2.cell? ⟨w.heap.size + 1, 3, none⟩ = some (.bool false) := XD.cell 3
  have dz := XD.lt
  have r0 : w2.cell? ⟨w.heap.size + 2, 0, none⟩ = some (.slice none 0 0) := RJ.cell 0
  have r1 : w2.cell? ⟨w.heap.size + 2, 1, none⟩ = some (.int .i64 0) := RJ.cell 1
  have r2 : w2.cell? ⟨w.heap.size + 2, 2, none⟩ = some (.int .i64 0) := RJ.cell 2
  have f0 := RJ.free 0
  have f1 := RJ.free 1
  have f2 := RJ.free 2
  have rz := RJ.lt
  have s0 : w2.cell? ⟨w.heap.size + 3, 0, none⟩ = some (.slice none 0 0) := RD.cell 0
  have s1 : w2.cell? ⟨w.heap.size + 3, 1, none⟩ = some (.slice none 0 0) := RD.cell 1
  have s2 : w2.cell? ⟨w.heap.size + 3, 2, none⟩ = some (.int .i64 0) := RD.cell 2
  have s3 : w2.cell? ⟨w.heap.size + 3, 3, none⟩ = some (.bool false) := RD.cell 3
  have g0 := RD.free 0
  have g1 := RD.free 1
  have g2 := RD.free 2
  have g3 := RD.free 3
  have sz := RD.lt
  have e1 : ((ns : Int) != (ns : Int)) = false := by simp
  go_wp2_with fail
  refine (jRGeneration_any d.sectors As ns cs S w2 (Lib.hid (hD.out.sectors.keep (Keeps.of hB))) hns hns2 h128).mono ?_
  rintro e w3 ⟨rfl, hb3⟩
  obtain ⟨g, hg⟩ : ∃ g, genM d.sectors + 1 = g := ⟨_, rfl⟩
  have hg33 : g ≤ 4294967296 := by rw [← hg]; have := genM_lt h128.out; omega
  rw [hg]
  have HGG := Lib.hid hg.symm
  have XJ := XJ.later hb3
  have XD := XD.later hb3
  have RJ := RJ.later hb3
  have RD := RD.later hb3
  have hB := hB.trans (hb3.mono hB.size)
  clear hb3 hg
  clear x0 x1 x2 xz d0 d1 d2 d3 dz r0 r1 r2 f0 f1 f2 rz s0 s1 s2 s3 g0 g1 g2 g3 sz
  have x0 : w3.cell? ⟨w.heap.size, 0, none⟩ = some (.slice A n c) := XJ.cell 0
  have x1 : w3.cell? ⟨w.heap.size, 1, none⟩ = some (.int .i64 (ns : Int)) := XJ.cell 1
  have x2 : w3.cell? ⟨w.heap.size, 2, none⟩ = some (.int .i64 (k : Int)) := XJ.cell 2
  have xz := XJ.lt
  have d0 : w3.cell? ⟨w.heap.size + 1, 0, none⟩ = some (.slice As ns cs) := XD.cell 0
  have d1 : w3.cell? ⟨w.heap.size + 1, 1, none⟩ = some (.slice Ap 0 cp) := XD.cell 1
  have d2 : w3.cell? ⟨w.heap.size + 1, 2, none⟩ = some (.int .i64 dl) := XD.cell 2
  have d3 : w3.cell? ⟨w.heap.size + 1, 3, none⟩ = some (.bool false) := XD.cell 3
  have dz := XD.lt
  have r0 : w3.cell? ⟨w.heap.size + 2, 0, none⟩ = some (.slice none 0 0) := RJ.cell 0
  have r1 : w3.cell? ⟨w.heap.size + 2, 1, none⟩ = some (.int .i64 0) := RJ.cell 1
  have r2 : w3.cell? ⟨w.heap.size + 2, 2, none⟩ = some (.int .i64 0) := RJ.cell 2
  have f0 := RJ.free 0
  have f1 := RJ.free 1
  have f2 := RJ.free 2
  have rz := RJ.lt
  have s0 : w3.cell? ⟨w.heap.size + 3, 0, none⟩ = some (.slice none 0 0) := RD.cell 0
  have s1 : w3.cell? ⟨w.heap.size + 3, 1, none⟩ = some (.slice none 0 0) := RD.cell 1
  have s2 : w3.cell? ⟨w.heap.size + 3, 2, none⟩ = some (.int .i64 0) := RD.cell 2
  have s3 : w3.cell? ⟨w.heap.size + 3, 3, none⟩ = some (.bool false) := RD.cell 3
  have g0 := RD.free 0
  have g1 := RD.free 1
  have g2 := RD.free 2
  have g3 := RD.free 3
  have sz := RD.lt
  obtain ⟨R, hR⟩ : ∃ R, recordsT d.sectors = R := ⟨_, rfl⟩
  have HRR := Lib.hid hR
  obtain ⟨hnc, hcl, hAn⟩ := h.out.caps
  have hkn : k ≤ n := by
    have := (l.okB_iff.1 HOK.out).2.2.2.1
    rw [hy.out, hn.out] at this
    omega
  have hrec : RwAt w3 S (.slice A k c) (l.records.take k) := (h.out.taken hn.out hkn).keep (Keeps.of hB)
  obtain ⟨r, hr⟩ : ∃ r, decide (R = l.records.take k) = r := ⟨_, rfl⟩
  have HRQ := Lib.hid hr
  have CR := jRRecords_any d.sectors As ns cs S w3.drew (Lib.hid (hD.out.sectors.keep (Keeps.of hB.drew))) hns hns2 h128
  rw [hR] at CR
  have HSR := Lib.hid (fun (W : World) (A' : Option Addr) (n' c' : Nat) (hW : Below w3.heap.size w3 W) (hrw : Hid (RwAt W (fun b => w3.drew.heap.size ≤ b) (.slice A' n' c') R)) (hn' : Hid (R.length = n')) =>
    jRSameRecs_any R (l.records.take k) A' A n' c' k c (fun b => w3.drew.heap.size ≤ b) S W hrw (Lib.hid (hrec.keep (Keeps.of hW))) hn' (Lib.hid (by rw [List.length_take, hn.out]; omega)) (by have := hrw.out.caps; omega) (by omega) r (Lib.hid hr))
  obtain ⟨sv, hsv⟩ : ∃ sv, decide (4294967295 < g) = sv := ⟨_, rfl⟩
  have hsv2 : decide ((4294967295 : Int) < (g : Int)) = sv := by rw [← hsv, decide_eq_decide]; omega
  have HSV := Lib.hid hsv
  have HAn := Lib.hid hAn
  have HCH := Lib.hid hkn
  have HXJ := Lib.hid XJ
  have HXD := Lib.hid XD
  have i0 : (k : Int) ≤ (c : Int) := by omega
  clear hr hrec hAn hkn hnc hR e1
  go_upto_region 12 with fail
  go_cut [66] from 53 to 65 (fun s66 wx => s66 = .bool (!r || sv) ∧ Below w3.heap.size w3 wx)
  case first =>
    clear XJ XD RJ RD hB f0 f1 f2 g0 g1 g2 g3 r0 r1 r2 s0 s1 s2 s3
    rcases A with _ | ⟨ab, ao, asp⟩
    · obtain ⟨rfl, rfl⟩ := HAn.out rfl
      obtain rfl : k = 0 := by have := HCH.out; omega
      have HK := Lib.hid (fun (w' : World) (hb : Below w3.heap.size w3 w') => (⟨(HXD.out.later hb).cell 0, (HXJ.out.later hb).cell 0, (HXJ.out.later hb).cell 2⟩ : w'.cell? ⟨w.heap.size + 1, 0, none⟩ = some (.slice As ns cs) ∧ w'.cell? ⟨w.heap.size, 0, none⟩ = some (.slice none 0 0) ∧ w'.cell? ⟨w.heap.size, 2, none⟩ = some (.int .i64 0)))
      rcases r with _ | _
      · skip
        refine wp_region_held_drew (S := (fun w' => w'.cell? ⟨w.heap.size + 1, 0, none⟩ = some (.slice As ns cs) ∧ w'.cell? ⟨w.heap.size, 0, none⟩ = some (.slice none 0 0) ∧ w'.cell? ⟨w.heap.size, 2, none⟩ = some (.int .i64 0))) (by kernel_rfl) (HK.out _ (Below.refl w3.heap.size w3).drew) (fun hHeld => ?_)
        refine wpAnyH_take (i := 0) (oi := _) (v := ?_) rfl (by kernel_rfl) (by kernel_rfl) (by kernel_rfl) (fun _ _ _ h => h) (Or.inl ⟨by rfl, ?_⟩) (by assumption) ?_
        rotate_left
        · intro w hSw
          try dsimp only at hSw
          go_simp
          try with_reducible rfl
        try simp only [Act.put, List.setIfInBounds_toArray, List.set_cons_zero, List.set_cons_succ]
        refine wpAnyH_take (i := 1) (oi := _) (v := ?_) rfl (by kernel_rfl) (by kernel_rfl) (by kernel_rfl) (fun _ _ _ h => h) (Or.inl ⟨by rfl, ?_⟩) (by assumption) ?_
        rotate_left
        · intro w hSw
          try dsimp only at hSw
          go_simp
          try with_reducible rfl
        try simp only [Act.put, List.setIfInBounds_toArray, List.set_cons_zero, List.set_cons_succ]
        refine wpAnyH_take (i := 3) (oi := _) (v := ?_) rfl (by kernel_rfl) (by kernel_rfl) (by kernel_rfl) (fun _ _ _ h => h) (Or.inl ⟨by rfl, ?_⟩) (by assumption) ?_
        rotate_left
        · intro w hSw
          try dsimp only at hSw
          go_simp
          try with_reducible rfl
        try simp only [Act.put, List.setIfInBounds_toArray, List.set_cons_zero, List.set_cons_succ]
        refine wpAnyH_take (i := 4) (oi := _) (v := ?_) rfl (by kernel_rfl) (by kernel_rfl) (by kernel_rfl) (fun _ _ _ h => h) (Or.inl ⟨by rfl, ?_⟩) (by assumption) ?_
        rotate_left
        · intro w hSw
          try dsimp only at hSw
          go_simp
          try with_reducible rfl
        try simp only [Act.put, List.setIfInBounds_toArray, List.set_cons_zero, List.set_cons_succ]
        refine wpAnyH_take (i := 5) (oi := _) (v := ?_) rfl (by kernel_rfl) (by kernel_rfl) (by kernel_rfl) (fun _ _ _ h => h) (Or.inl ⟨by rfl, ?_⟩) (by assumption) ?_
        rotate_left
        · intro w hSw
          try dsimp only at hSw
          go_simp
          try with_reducible rfl
        try simp only [Act.put, List.setIfInBounds_toArray, List.set_cons_zero, List.set_cons_succ]
        refine wpAnyH_take (i := 6) (oi := _) (v := ?_) rfl (by kernel_rfl) (by kernel_rfl) (by kernel_rfl) (fun _ _ _ h => h) (Or.inl ⟨by rfl, ?_⟩) (by assumption) ?_
        rotate_left
        · intro w hSw
          try dsimp only at hSw
          go_simp
          try with_reducible rfl
        try simp only [Act.put, List.setIfInBounds_toArray, List.set_cons_zero, List.set_cons_succ]
        refine wpAnyH_take (i := 7) (oi := _) (v := ?_) rfl (by kernel_rfl) (by kernel_rfl) (by kernel_rfl) (fun _ _ _ h => h) (Or.inl ⟨by rfl, ?_⟩) (by assumption) ?_
        rotate_left
        · intro w hSw
          try dsimp only at hSw
          go_simp
          try with_reducible rfl
        try simp only [Act.put, List.setIfInBounds_toArray, List.set_cons_zero, List.set_cons_succ]
        refine wpAnyH_ready (rs := [2]) (by kernel_rfl) (by simp) ?_
        refine AllReadyH.cons (o := { dst := some 55, op := Op.call { callee := Callee.value (Operand.func 34), args := #[Operand.tmp 54], argTypes := #[22] }, type := 22, pos := "ref.go:208", after := #[{ on := 1, ground := Ground.data }], guard := none }) rfl (fun K hK => ?_) AllReadyH.nil
        go_simp
        go_at_call 34
        refine CR.mono ?_
        rintro e w8 ⟨A', n', c', rfl, hn', hrw, hb8⟩
        have hb8w := (Below.refl w3.heap.size w3).drew.trans hb8
        go_wp2_with fail
        refine hK.out _ _ (HK.out _ hb8w) (fun hHeld8 => ?_)
        clear hK K
        try simp only [Act.put, List.setIfInBounds_toArray, List.set_cons_zero, List.set_cons_succ]
        refine wpAnyH_ready (rs := [8]) (by kernel_rfl) (by simp) ?_
        refine AllReadyH.cons (o := { dst := some 61, op := Op.call { callee := Callee.value (Operand.func 24), args := #[Operand.tmp 55, Operand.tmp 60], argTypes := #[22, 22] }, type := 4, pos := "ref.go:208", after := #[{ on := 2, ground := Ground.data }, { on := 7, ground := Ground.data }, { on := 2, ground := Ground.chain }], guard := none }) rfl (fun K hK => ?_) AllReadyH.nil
        go_simp
        go_at_call 24
        refine (HSR.out w8 A' n' c' hb8w hrw hn').mono ?_
        rintro e w9 ⟨rfl, hb9⟩
        have hb9w := hb8w.trans (hb9.mono hb8w.size)
        go_wp2_with fail
        refine hK.out _ _ (HK.out _ hb9w) (fun hHeld9 => ?_)
        clear hK K
        try simp only [Act.put, List.setIfInBounds_toArray, List.set_cons_zero, List.set_cons_succ]
        refine wpAnyH_take (i := 9) (oi := { dst := some 62, op := Op.unOp UnOp.not 4 (Operand.tmp 61), type := 4, pos := "ref.go:208", after := #[{ on := 8, ground := Ground.data }], guard := none }) (v := ?_) rfl (by kernel_rfl) (by kernel_rfl) (by kernel_rfl) (fun _ _ _ h => h) (Or.inl ⟨by rfl, ?_⟩) (by assumption) ?_
        rotate_left
        · intro w hSw
          try dsimp only at hSw
          go_simp
          try with_reducible rfl
        try simp only [Act.put, List.setIfInBounds_toArray, List.set_cons_zero, List.set_cons_succ]
        refine wpAnyH_take (i := 10) (oi := { dst := some 63, op := Op.move (Operand.tmp 62), type := 4, pos := "ref.go:208", after := #[{ on := 9, ground := Ground.data }, { on := 8, ground := Ground.chain }], guard := none }) (v := ?_) rfl (by kernel_rfl) (by kernel_rfl) (by kernel_rfl) (fun _ _ _ h => h) (Or.inl ⟨by rfl, ?_⟩) (by assumption) ?_
        rotate_left
        · intro w hSw
          try dsimp only at hSw
          go_simp
          try with_reducible rfl
        try simp only [Act.put, List.setIfInBounds_toArray, List.set_cons_zero, List.set_cons_succ]
        refine wpAnyH_take (i := 11) (oi := { dst := some 64, op := Op.move (Operand.tmp 9), type := 68, pos := "ref.go:208", after := #[{ on := 10, ground := Ground.guard }], guard := some (10, false) }) (v := undef) rfl (by kernel_rfl) (by kernel_rfl) (by kernel_rfl) (fun _ _ _ h => h) (Or.inr ⟨by rfl, rfl⟩) (by assumption) ?_
        try simp only [Act.put, List.setIfInBounds_toArray, List.set_cons_zero, List.set_cons_succ]
        refine wpAnyH_take (i := 12) (oi := { dst := some 65, op := Op.binOp BinOp.gtr 68 (Operand.tmp 64) (Operand.const (Value.int IntKind.u64 4294967295)) 68, type := 4, pos := "ref.go:208", after := #[{ on := 11, ground := Ground.data }, { on := 10, ground := Ground.guard }], guard := some (10, false) }) (v := undef) rfl (by kernel_rfl) (by kernel_rfl) (by kernel_rfl) (fun _ _ _ h => h) (Or.inr ⟨by rfl, rfl⟩) (by assumption) ?_
        try simp only [Act.put, List.setIfInBounds_toArray, List.set_cons_zero, List.set_cons_succ]
        refine wpAnyH_take (i := 13) (oi := { dst := some 66, op := Op.pick (Operand.tmp 63) (Operand.const (Value.bool true)) (Operand.tmp 65), type := 4, pos := "ref.go:208", after := #[{ on := 10, ground := Ground.data }, { on := 12, ground := Ground.data }], guard := none }) (v := ?_) rfl (by kernel_rfl) (by kernel_rfl) (by kernel_rfl) (fun _ _ _ h => h) (Or.inl ⟨by rfl, ?_⟩) (by assumption) ?_
        rotate_left
        · intro w hSw
          try dsimp only at hSw
          go_simp
          try with_reducible rfl
        try simp only [Act.put, List.setIfInBounds_toArray, List.set_cons_zero, List.set_cons_succ]
        refine wpAnyH_done (by kernel_rfl) ?_ _
        all_goals
          go_wp2_with fail
          go_meet
          exact ⟨rfl, hb9w⟩
      · rcases sv with _ | _
        · skip
          first | go_region_held3 (fun w' => w'.cell? ⟨w.heap.size + 1, 0, none⟩ = some (.slice As ns cs) ∧ w'.cell? ⟨w.heap.size, 0, none⟩ = some (.slice none 0 0) ∧ w'.cell? ⟨w.heap.size, 2, none⟩ = some (.int .i64 0)) (first | with_reducible exact HK.out _ (Below.refl w3.heap.size w3).drew | with_reducible exact HK.out _ hb8w | with_reducible exact HK.out _ hb9w) (first | (go_at_call 34; refine CR.mono ?_; rintro e w8 ⟨A', n', c', rfl, hn', hrw, hb8⟩; have hb8w := (Below.refl w3.heap.size w3).drew.trans hb8) | (go_at_call 24; refine (HSR.out w8 A' n' c' hb8w hrw hn').mono ?_; rintro e w9 ⟨rfl, hb9⟩; have hb9w := hb8w.trans (hb9.mono hb8w.size))) | fail
          all_goals
            go_wp2_with fail
            go_meet
            exact ⟨rfl, hb9w⟩
        · skip
          first | go_region_held3 (fun w' => w'.cell? ⟨w.heap.size + 1, 0, none⟩ = some (.slice As ns cs) ∧ w'.cell? ⟨w.heap.size, 0, none⟩ = some (.slice none 0 0) ∧ w'.cell? ⟨w.heap.size, 2, none⟩ = some (.int .i64 0)) (first | with_reducible exact HK.out _ (Below.refl w3.heap.size w3).drew | with_reducible exact HK.out _ hb8w | with_reducible exact HK.out _ hb9w) (first | (go_at_call 34; refine CR.mono ?_; rintro e w8 ⟨A', n', c', rfl, hn', hrw, hb8⟩; have hb8w := (Below.refl w3.heap.size w3).drew.trans hb8) | (go_at_call 24; refine (HSR.out w8 A' n' c' hb8w hrw hn').mono ?_; rintro e w9 ⟨rfl, hb9⟩; have hb9w := hb8w.trans (hb9.mono hb8w.size))) | fail
          all_goals
            go_wp2_with fail
            go_meet
            exact ⟨rfl, hb9w⟩
    · have HK := Lib.hid (fun (w' : World) (hb : Below w3.heap.size w3 w') => (⟨(HXD.out.later hb).cell 0, (HXJ.out.later hb).cell 0, (HXJ.out.later hb).cell 2⟩ : w'.cell? ⟨w.heap.size + 1, 0, none⟩ = some (.slice As ns cs) ∧ w'.cell? ⟨w.heap.size, 0, none⟩ = some (.slice (some ⟨ab, ao, asp⟩) n c) ∧ w'.cell? ⟨w.heap.size, 2, none⟩ = some (.int .i64 (k : Int))))
      rcases r with _ | _
      · skip
        refine wp_region_held_drew (S := (fun w' => w'.cell? ⟨w.heap.size + 1, 0, none⟩ = some (.slice As ns cs) ∧ w'.cell? ⟨w.heap.size, 0, none⟩ = some (.slice (some ⟨ab, ao, asp⟩) n c) ∧ w'.cell? ⟨w.heap.size, 2, none⟩ = some (.int .i64 (k : Int)))) (by kernel_rfl) (HK.out _ (Below.refl w3.heap.size w3).drew) (fun hHeld => ?_)
        refine wpAnyH_take (i := 0) (oi := _) (v := ?_) rfl (by kernel_rfl) (by kernel_rfl) (by kernel_rfl) (fun _ _ _ h => h) (Or.inl ⟨by rfl, ?_⟩) (by assumption) ?_
        rotate_left
        · intro w hSw
          try dsimp only at hSw
          go_simp
          try with_reducible rfl
        try simp only [Act.put, List.setIfInBounds_toArray, List.set_cons_zero, List.set_cons_succ]
        refine wpAnyH_take (i := 1) (oi := _) (v := ?_) rfl (by kernel_rfl) (by kernel_rfl) (by kernel_rfl) (fun _ _ _ h => h) (Or.inl ⟨by rfl, ?_⟩) (by assumption) ?_
        rotate_left
        · intro w hSw
          try dsimp only at hSw
          go_simp
          try with_reducible rfl
        try simp only [Act.put, List.setIfInBounds_toArray, List.set_cons_zero, List.set_cons_succ]
        refine wpAnyH_take (i := 3) (oi := _) (v := ?_) rfl (by kernel_rfl) (by kernel_rfl) (by kernel_rfl) (fun _ _ _ h => h) (Or.inl ⟨by rfl, ?_⟩) (by assumption) ?_
        rotate_left
        · intro w hSw
          try dsimp only at hSw
          go_simp
          try with_reducible rfl
        try simp only [Act.put, List.setIfInBounds_toArray, List.set_cons_zero, List.set_cons_succ]
        refine wpAnyH_take (i := 4) (oi := _) (v := ?_) rfl (by kernel_rfl) (by kernel_rfl) (by kernel_rfl) (fun _ _ _ h => h) (Or.inl ⟨by rfl, ?_⟩) (by assumption) ?_
        rotate_left
        · intro w hSw
          try dsimp only at hSw
          go_simp
          try with_reducible rfl
        try simp only [Act.put, List.setIfInBounds_toArray, List.set_cons_zero, List.set_cons_succ]
        refine wpAnyH_take (i := 5) (oi := _) (v := ?_) rfl (by kernel_rfl) (by kernel_rfl) (by kernel_rfl) (fun _ _ _ h => h) (Or.inl ⟨by rfl, ?_⟩) (by assumption) ?_
        rotate_left
        · intro w hSw
          try dsimp only at hSw
          go_simp
          try with_reducible rfl
        try simp only [Act.put, List.setIfInBounds_toArray, List.set_cons_zero, List.set_cons_succ]
        refine wpAnyH_take (i := 6) (oi := _) (v := ?_) rfl (by kernel_rfl) (by kernel_rfl) (by kernel_rfl) (fun _ _ _ h => h) (Or.inl ⟨by rfl, ?_⟩) (by assumption) ?_
        rotate_left
        · intro w hSw
          try dsimp only at hSw
          go_simp
          try with_reducible rfl
        try simp only [Act.put, List.setIfInBounds_toArray, List.set_cons_zero, List.set_cons_succ]
        refine wpAnyH_take (i := 7) (oi := _) (v := ?_) rfl (by kernel_rfl) (by kernel_rfl) (by kernel_rfl) (fun _ _ _ h => h) (Or.inl ⟨by rfl, ?_⟩) (by assumption) ?_
        rotate_left
        · intro w hSw
          try dsimp only at hSw
          go_simp
          try with_reducible rfl
        try simp only [Act.put, List.setIfInBounds_toArray, List.set_cons_zero, List.set_cons_succ]
        refine wpAnyH_ready (rs := [2]) (by kernel_rfl) (by simp) ?_
        refine AllReadyH.cons (o := { dst := some 55, op := Op.call { callee := Callee.value (Operand.func 34), args := #[Operand.tmp 54], argTypes := #[22] }, type := 22, pos := "ref.go:208", after := #[{ on := 1, ground := Ground.data }], guard := none }) rfl (fun K hK => ?_) AllReadyH.nil
        go_simp
        go_at_call 34
        refine CR.mono ?_
        rintro e w8 ⟨A', n', c', rfl, hn', hrw, hb8⟩
        have hb8w := (Below.refl w3.heap.size w3).drew.trans hb8
        go_wp2_with fail
        refine hK.out _ _ (HK.out _ hb8w) (fun hHeld8 => ?_)
        clear hK K
        try simp only [Act.put, List.setIfInBounds_toArray, List.set_cons_zero, List.set_cons_succ]
        refine wpAnyH_ready (rs := [8]) (by kernel_rfl) (by simp) ?_
        refine AllReadyH.cons (o := { dst := some 61, op := Op.call { callee := Callee.value (Operand.func 24), args := #[Operand.tmp 55, Operand.tmp 60], argTypes := #[22, 22] }, type := 4, pos := "ref.go:208", after := #[{ on := 2, ground := Ground.data }, { on := 7, ground := Ground.data }, { on := 2, ground := Ground.chain }], guard := none }) rfl (fun K hK => ?_) AllReadyH.nil
        go_simp
        go_at_call 24
        refine (HSR.out w8 A' n' c' hb8w hrw hn').mono ?_
        rintro e w9 ⟨rfl, hb9⟩
        have hb9w := hb8w.trans (hb9.mono hb8w.size)
        go_wp2_with fail
        refine hK.out _ _ (HK.out _ hb9w) (fun hHeld9 => ?_)
        clear hK K
        try simp only [Act.put, List.setIfInBounds_toArray, List.set_cons_zero, List.set_cons_succ]
        refine wpAnyH_take (i := 9) (oi := { dst := some 62, op := Op.unOp UnOp.not 4 (Operand.tmp 61), type := 4, pos := "ref.go:208", after := #[{ on := 8, ground := Ground.data }], guard := none }) (v := ?_) rfl (by kernel_rfl) (by kernel_rfl) (by kernel_rfl) (fun _ _ _ h => h) (Or.inl ⟨by rfl, ?_⟩) (by assumption) ?_
        rotate_left
        · intro w hSw
          try dsimp only at hSw
          go_simp
          try with_reducible rfl
        try simp only [Act.put, List.setIfInBounds_toArray, List.set_cons_zero, List.set_cons_succ]
        refine wpAnyH_take (i := 10) (oi := { dst := some 63, op := Op.move (Operand.tmp 62), type := 4, pos := "ref.go:208", after := #[{ on := 9, ground := Ground.data }, { on := 8, ground := Ground.chain }], guard := none }) (v := ?_) rfl (by kernel_rfl) (by kernel_rfl) (by kernel_rfl) (fun _ _ _ h => h) (Or.inl ⟨by rfl, ?_⟩) (by assumption) ?_
        rotate_left
        · intro w hSw
          try dsimp only at hSw
          go_simp
          try with_reducible rfl
        try simp only [Act.put, List.setIfInBounds_toArray, List.set_cons_zero, List.set_cons_succ]
        refine wpAnyH_take (i := 11) (oi := { dst := some 64, op := Op.move (Operand.tmp 9), type := 68, pos := "ref.go:208", after := #[{ on := 10, ground := Ground.guard }], guard := some (10, false) }) (v := undef) rfl (by kernel_rfl) (by kernel_rfl) (by kernel_rfl) (fun _ _ _ h => h) (Or.inr ⟨by rfl, rfl⟩) (by assumption) ?_
        try simp only [Act.put, List.setIfInBounds_toArray, List.set_cons_zero, List.set_cons_succ]
        refine wpAnyH_take (i := 12) (oi := { dst := some 65, op := Op.binOp BinOp.gtr 68 (Operand.tmp 64) (Operand.const (Value.int IntKind.u64 4294967295)) 68, type := 4, pos := "ref.go:208", after := #[{ on := 11, ground := Ground.data }, { on := 10, ground := Ground.guard }], guard := some (10, false) }) (v := undef) rfl (by kernel_rfl) (by kernel_rfl) (by kernel_rfl) (fun _ _ _ h => h) (Or.inr ⟨by rfl, rfl⟩) (by assumption) ?_
        try simp only [Act.put, List.setIfInBounds_toArray, List.set_cons_zero, List.set_cons_succ]
        refine wpAnyH_take (i := 13) (oi := { dst := some 66, op := Op.pick (Operand.tmp 63) (Operand.const (Value.bool true)) (Operand.tmp 65), type := 4, pos := "ref.go:208", after := #[{ on := 10, ground := Ground.data }, { on := 12, ground := Ground.data }], guard := none }) (v := ?_) rfl (by kernel_rfl) (by kernel_rfl) (by kernel_rfl) (fun _ _ _ h => h) (Or.inl ⟨by rfl, ?_⟩) (by assumption) ?_
        rotate_left
        · intro w hSw
          try dsimp only at hSw
          go_simp
          try with_reducible rfl
        try simp only [Act.put, List.setIfInBounds_toArray, List.set_cons_zero, List.set_cons_succ]
        refine wpAnyH_done (by kernel_rfl) ?_ _
        all_goals
          go_wp2_with fail
          go_meet
          exact ⟨rfl, hb9w⟩
      · rcases sv with _ | _
        · skip
          first | go_region_held3 (fun w' => w'.cell? ⟨w.heap.size + 1, 0, none⟩ = some (.slice As ns cs) ∧ w'.cell? ⟨w.heap.size, 0, none⟩ = some (.slice (some ⟨ab, ao, asp⟩) n c) ∧ w'.cell? ⟨w.heap.size, 2, none⟩ = some (.int .i64 (k : Int))) (first | with_reducible exact HK.out _ (Below.refl w3.heap.size w3).drew | with_reducible exact HK.out _ hb8w | with_reducible exact HK.out _ hb9w) (first | (go_at_call 34; refine CR.mono ?_; rintro e w8 ⟨A', n', c', rfl, hn', hrw, hb8⟩; have hb8w := (Below.refl w3.heap.size w3).drew.trans hb8) | (go_at_call 24; refine (HSR.out w8 A' n' c' hb8w hrw hn').mono ?_; rintro e w9 ⟨rfl, hb9⟩; have hb9w := hb8w.trans (hb9.mono hb8w.size))) | fail
          all_goals
            go_wp2_with fail
            go_meet
            exact ⟨rfl, hb9w⟩
        · skip
          first | go_region_held3 (fun w' => w'.cell? ⟨w.heap.size + 1, 0, none⟩ = some (.slice As ns cs) ∧ w'.cell? ⟨w.heap.size, 0, none⟩ = some (.slice (some ⟨ab, ao, asp⟩) n c) ∧ w'.cell? ⟨w.heap.size, 2, none⟩ = some (.int .i64 (k : Int))) (first | with_reducible exact HK.out _ (Below.refl w3.heap.size w3).drew | with_reducible exact HK.out _ hb8w | with_reducible exact HK.out _ hb9w) (first | (go_at_call 34; refine CR.mono ?_; rintro e w8 ⟨A', n', c', rfl, hn', hrw, hb8⟩; have hb8w := (Below.refl w3.heap.size w3).drew.trans hb8) | (go_at_call 24; refine (HSR.out w8 A' n' c' hb8w hrw hn').mono ?_; rintro e w9 ⟨rfl, hb9⟩; have hb9w := hb8w.trans (hb9.mono hb8w.size))) | fail
          all_goals
            go_wp2_with fail
            go_meet
            exact ⟨rfl, hb9w⟩
  case rest =>
    obtain ⟨rfl, hb12⟩ := hcut
    have XJ := XJ.later hb12
    have XD := XD.later hb12
    have RJ := RJ.later hb12
    have RD := RD.later hb12
    have hB := hB.trans (hb12.mono hB.size)
    clear CR HSR HXJ hb12
    have hT50 : r = false ∨ sv = true → Hid (syncJ l d = (Jn.zero, Dk.zero, 50)) := fun hh => by
      rw [Hid, syncJ, if_pos HOK.out, if_neg (by rw [hcd.out]; simp), if_neg (by rw [hds.out]; simp), if_neg (by rw [hm.out, hns.out, List.eq_nil_of_length_eq_zero hnp.out]; simp), if_pos]
      rcases hh with hh | hh
      · left; rw [HRR.out, hy.out]; exact of_decide_eq_false (HRQ.out.trans hh)
      · right; rw [hh] at HSV; have := of_decide_eq_true HSV.out; rw [HGG.out] at this; exact this
    have hT6 : r = true → sv = false → k = n → Hid (syncJ l d = (⟨l.records, (ns : Int), (k : Int)⟩, ⟨d.sectors, d.pending, dl, false⟩, 0)) := fun h1 h2 h3 => by
      have el : l = ⟨l.records, (ns : Int), (k : Int)⟩ := by
        have e1 := hm.out
        have e2 := hy.out
        cases l
        simp only at e1 e2
        rw [e1, e2]
      have ed : d = ⟨d.sectors, d.pending, dl, false⟩ := by
        have e1 := hdl.out
        have e2 := hds.out
        cases d
        simp only at e1 e2
        rw [e1, e2]
      rw [Hid, ← el, ← ed, syncJ, if_pos HOK.out, if_neg (by rw [hcd.out]; simp), if_neg (by rw [hds.out]; simp), if_neg (by rw [hm.out, hns.out, List.eq_nil_of_length_eq_zero hnp.out]; simp), if_neg, if_pos (by rw [hy.out, hn.out, h3])]
      rintro (h | h)
      · rw [HRR.out, hy.out] at h; exact h (of_decide_eq_true (HRQ.out.trans h1))
      · rw [← HGG.out] at h; rw [h2] at HSV; exact of_decide_eq_false HSV.out h
    rw [HRR.out, ← HGG.out] at hfit
    rcases r with _ | _
    · have hT := hT50 (.inl rfl)
      have hbt : (!false || sv) = true := rfl
      rw [hbt]
      clear x0 x1 x2 xz d0 d1 d2 d3 dz r0 r1 r2 f0 f1 f2 rz s0 s1 s2 s3 g0 g1 g2 g3 sz
      have r0 : wc.cell? ⟨w.heap.size + 2, 0, none⟩ = some (.slice none 0 0) := RJ.cell 0
      have r1 : wc.cell? ⟨w.heap.size + 2, 1, none⟩ = some (.int .i64 0) := RJ.cell 1
      have r2 : wc.cell? ⟨w.heap.size + 2, 2, none⟩ = some (.int .i64 0) := RJ.cell 2
      have f0 := RJ.free 0
      have f1 := RJ.free 1
      have f2 := RJ.free 2
      have rz := RJ.lt
      have s0 : wc.cell? ⟨w.heap.size + 3, 0, none⟩ = some (.slice none 0 0) := RD.cell 0
      have s1 : wc.cell? ⟨w.heap.size + 3, 1, none⟩ = some (.slice none 0 0) := RD.cell 1
      have s2 : wc.cell? ⟨w.heap.size + 3, 2, none⟩ = some (.int .i64 0) := RD.cell 2
      have s3 : wc.cell? ⟨w.heap.size + 3, 3, none⟩ = some (.bool false) := RD.cell 3
      have g0 := RD.free 0
      have g1 := RD.free 1
      have g2 := RD.free 2
      have g3 := RD.free 3
      have sz := RD.lt
      go_wp2
      clear r0 r1 r2 f0 f1 f2 rz s0 s1 s2 s3 g0 g1 g2 g3 sz
      have RJ := (((((((RJ).set 0 (.slice none 0 0)).set 1 (.int .i64 0)).set 2 (.int .i64 0)).other (a := ⟨w.heap.size + 3, 0, none⟩) (by simp) (.slice none 0 0)).other (a := ⟨w.heap.size + 3, 1, none⟩) (by simp) (.slice none 0 0)).other (a := ⟨w.heap.size + 3, 2, none⟩) (by simp) (.int .i64 0)).other (a := ⟨w.heap.size + 3, 3, none⟩) (by simp) (.bool false)
      have RD := (((((((RD).other (a := ⟨w.heap.size + 2, 0, none⟩) (by simp) (.slice none 0 0)).other (a := ⟨w.heap.size + 2, 1, none⟩) (by simp) (.int .i64 0)).other (a := ⟨w.heap.size + 2, 2, none⟩) (by simp) (.int .i64 0)).set 0 (.slice none 0 0)).set 1 (.slice none 0 0)).set 2 (.int .i64 0)).set 3 (.bool false)
      have hB := (((((((hB).setCell (p := ⟨w.heap.size + 2, 0, none⟩) (by simp) (.slice none 0 0)).setCell (p := ⟨w.heap.size + 2, 1, none⟩) (by simp) (.int .i64 0)).setCell (p := ⟨w.heap.size + 2, 2, none⟩) (by simp) (.int .i64 0)).setCell (p := ⟨w.heap.size + 3, 0, none⟩) (by simp) (.slice none 0 0)).setCell (p := ⟨w.heap.size + 3, 1, none⟩) (by simp) (.slice none 0 0)).setCell (p := ⟨w.heap.size + 3, 2, none⟩) (by simp) (.int .i64 0)).setCell (p := ⟨w.heap.size + 3, 3, none⟩) (by simp) (.bool false)
      generalize (((((((wc).setCell ⟨w.heap.size + 2, 0, none⟩ (.slice none 0 0)).setCell ⟨w.heap.size + 2, 1, none⟩ (.int .i64 0)).setCell ⟨w.heap.size + 2, 2, none⟩ (.int .i64 0)).setCell ⟨w.heap.size + 3, 0, none⟩ (.slice none 0 0)).setCell ⟨w.heap.size + 3, 1, none⟩ (.slice none 0 0)).setCell ⟨w.heap.size + 3, 2, none⟩ (.int .i64 0)).setCell ⟨w.heap.size + 3, 3, none⟩ (.bool false) = W at RJ RD hB ⊢
      have y0 : W.cell? ⟨w.heap.size + 2, 0, none⟩ = some (.slice none 0 0) := RJ.cell 0
      have y1 : W.cell? ⟨w.heap.size + 2, 1, none⟩ = some (.int .i64 0) := RJ.cell 1
      have y2 : W.cell? ⟨w.heap.size + 2, 2, none⟩ = some (.int .i64 0) := RJ.cell 2
      have z0 : W.cell? ⟨w.heap.size + 3, 0, none⟩ = some (.slice none 0 0) := RD.cell 0
      have z1 : W.cell? ⟨w.heap.size + 3, 1, none⟩ = some (.slice none 0 0) := RD.cell 1
      have z2 : W.cell? ⟨w.heap.size + 3, 2, none⟩ = some (.int .i64 0) := RD.cell 2
      have z3 : W.cell? ⟨w.heap.size + 3, 3, none⟩ = some (.bool false) := RD.cell 3
      refine bodyPost_ret (v := .tuple #[.agg #[.slice none 0 0, .int .i64 0, .int .i64 0], .agg #[.slice none 0 0, .slice none 0 0, .int .i64 0, .bool false], .int .i64 50]) (by simp [results, Try.results22, go_sem, y0, y1, y2, z0, z1, z2, z3]) rfl ?_
      exact ⟨none, 0, 0, Jn.zero, .slice none 0 0, .slice none 0 0, Dk.zero, 50, rfl, hT, rfl, Lib.hid (rwAt_nil _ _), dkAt_zero _ _, hB⟩
    rcases sv with _ | _
    rotate_left
    · have hT := hT50 (.inr rfl)
      clear x0 x1 x2 xz d0 d1 d2 d3 dz r0 r1 r2 f0 f1 f2 rz s0 s1 s2 s3 g0 g1 g2 g3 sz
      have r0 : wc.cell? ⟨w.heap.size + 2, 0, none⟩ = some (.slice none 0 0) := RJ.cell 0
      have r1 : wc.cell? ⟨w.heap.size + 2, 1, none⟩ = some (.int .i64 0) := RJ.cell 1
      have r2 : wc.cell? ⟨w.heap.size + 2, 2, none⟩ = some (.int .i64 0) := RJ.cell 2
      have f0 := RJ.free 0
      have f1 := RJ.free 1
      have f2 := RJ.free 2
      have rz := RJ.lt
      have s0 : wc.cell? ⟨w.heap.size + 3, 0, none⟩ = some (.slice none 0 0) := RD.cell 0
      have s1 : wc.cell? ⟨w.heap.size + 3, 1, none⟩ = some (.slice none 0 0) := RD.cell 1
      have s2 : wc.cell? ⟨w.heap.size + 3, 2, none⟩ = some (.int .i64 0) := RD.cell 2
      have s3 : wc.cell? ⟨w.heap.size + 3, 3, none⟩ = some (.bool false) := RD.cell 3
      have g0 := RD.free 0
      have g1 := RD.free 1
      have g2 := RD.free 2
      have g3 := RD.free 3
      have sz := RD.lt
      go_wp2
      clear r0 r1 r2 f0 f1 f2 rz s0 s1 s2 s3 g0 g1 g2 g3 sz
      have RJ := (((((((RJ).set 0 (.slice none 0 0)).set 1 (.int .i64 0)).set 2 (.int .i64 0)).other (a := ⟨w.heap.size + 3, 0, none⟩) (by simp) (.slice none 0 0)).other (a := ⟨w.heap.size + 3, 1, none⟩) (by simp) (.slice none 0 0)).other (a := ⟨w.heap.size + 3, 2, none⟩) (by simp) (.int .i64 0)).other (a := ⟨w.heap.size + 3, 3, none⟩) (by simp) (.bool false)
      have RD := (((((((RD).other (a := ⟨w.heap.size + 2, 0, none⟩) (by simp) (.slice none 0 0)).other (a := ⟨w.heap.size + 2, 1, none⟩) (by simp) (.int .i64 0)).other (a := ⟨w.heap.size + 2, 2, none⟩) (by simp) (.int .i64 0)).set 0 (.slice none 0 0)).set 1 (.slice none 0 0)).set 2 (.int .i64 0)).set 3 (.bool false)
      have hB := (((((((hB).setCell (p := ⟨w.heap.size + 2, 0, none⟩) (by simp) (.slice none 0 0)).setCell (p := ⟨w.heap.size + 2, 1, none⟩) (by simp) (.int .i64 0)).setCell (p := ⟨w.heap.size + 2, 2, none⟩) (by simp) (.int .i64 0)).setCell (p := ⟨w.heap.size + 3, 0, none⟩) (by simp) (.slice none 0 0)).setCell (p := ⟨w.heap.size + 3, 1, none⟩) (by simp) (.slice none 0 0)).setCell (p := ⟨w.heap.size + 3, 2, none⟩) (by simp) (.int .i64 0)).setCell (p := ⟨w.heap.size + 3, 3, none⟩) (by simp) (.bool false)
      generalize (((((((wc).setCell ⟨w.heap.size + 2, 0, none⟩ (.slice none 0 0)).setCell ⟨w.heap.size + 2, 1, none⟩ (.int .i64 0)).setCell ⟨w.heap.size + 2, 2, none⟩ (.int .i64 0)).setCell ⟨w.heap.size + 3, 0, none⟩ (.slice none 0 0)).setCell ⟨w.heap.size + 3, 1, none⟩ (.slice none 0 0)).setCell ⟨w.heap.size + 3, 2, none⟩ (.int .i64 0)).setCell ⟨w.heap.size + 3, 3, none⟩ (.bool false) = W at RJ RD hB ⊢
      have y0 : W.cell? ⟨w.heap.size + 2, 0, none⟩ = some (.slice none 0 0) := RJ.cell 0
      have y1 : W.cell? ⟨w.heap.size + 2, 1, none⟩ = some (.int .i64 0) := RJ.cell 1
      have y2 : W.cell? ⟨w.heap.size + 2, 2, none⟩ = some (.int .i64 0) := RJ.cell 2
      have z0 : W.cell? ⟨w.heap.size + 3, 0, none⟩ = some (.slice none 0 0) := RD.cell 0
      have z1 : W.cell? ⟨w.heap.size + 3, 1, none⟩ = some (.slice none 0 0) := RD.cell 1
      have z2 : W.cell? ⟨w.heap.size + 3, 2, none⟩ = some (.int .i64 0) := RD.cell 2
      have z3 : W.cell? ⟨w.heap.size + 3, 3, none⟩ = some (.bool false) := RD.cell 3
      refine bodyPost_ret (v := .tuple #[.agg #[.slice none 0 0, .int .i64 0, .int .i64 0], .agg #[.slice none 0 0, .slice none 0 0, .int .i64 0, .bool false], .int .i64 50]) (by simp [results, Try.results22, go_sem, y0, y1, y2, z0, z1, z2, z3]) rfl ?_
      exact ⟨none, 0, 0, Jn.zero, .slice none 0 0, .slice none 0 0, Dk.zero, 50, rfl, hT, rfl, Lib.hid (rwAt_nil _ _), dkAt_zero _ _, hB⟩
    obtain rfl : k = n := hfit.out HRQ.out (by have := HSV.out; simp at this; omega)
    have hT7 := Lib.hid (hT6 rfl rfl rfl)
    clear hT6
    clear x0 x1 x2 xz d0 d1 d2 d3 dz r0 r1 r2 f0 f1 f2 rz s0 s1 s2 s3 g0 g1 g2 g3 sz
    have x0 : wc.cell? ⟨w.heap.size, 0, none⟩ = some (.slice A k c) := XJ.cell 0
    have x1 : wc.cell? ⟨w.heap.size, 1, none⟩ = some (.int .i64 (ns : Int)) := XJ.cell 1
    have x2 : wc.cell? ⟨w.heap.size, 2, none⟩ = some (.int .i64 (k : Int)) := XJ.cell 2
    have xz := XJ.lt
    have d0 : wc.cell? ⟨w.heap.size + 1, 0, none⟩ = some (.slice As ns cs) := XD.cell 0
    have d1 : wc.cell? ⟨w.heap.size + 1, 1, none⟩ = some (.slice Ap 0 cp) := XD.cell 1
    have d2 : wc.cell? ⟨w.heap.size + 1, 2, none⟩ = some (.int .i64 dl) := XD.cell 2
    have d3 : wc.cell? ⟨w.heap.size + 1, 3, none⟩ = some (.bool false) := XD.cell 3
    have dz := XD.lt
    have r0 : wc.cell? ⟨w.heap.size + 2, 0, none⟩ = some (.slice none 0 0) := RJ.cell 0
    have r1 : wc.cell? ⟨w.heap.size + 2, 1, none⟩ = some (.int .i64 0) := RJ.cell 1
    have r2 : wc.cell? ⟨w.heap.size + 2, 2, none⟩ = some (.int .i64 0) := RJ.cell 2
    have f0 := RJ.free 0
    have f1 := RJ.free 1
    have f2 := RJ.free 2
    have rz := RJ.lt
    have s0 : wc.cell? ⟨w.heap.size + 3, 0, none⟩ = some (.slice none 0 0) := RD.cell 0
    have s1 : wc.cell? ⟨w.heap.size + 3, 1, none⟩ = some (.slice none 0 0) := RD.cell 1
    have s2 : wc.cell? ⟨w.heap.size + 3, 2, none⟩ = some (.int .i64 0) := RD.cell 2
    have s3 : wc.cell? ⟨w.heap.size + 3, 3, none⟩ = some (.bool false) := RD.cell 3
    have g0 := RD.free 0
    have g1 := RD.free 1
    have g2 := RD.free 2
    have g3 := RD.free 3
    have sz := RD.lt
    go_wp2_with fail
    go_region
    all_goals
      go_wp2_with fail
      clear x0 x1 x2 xz d0 d1 d2 d3 dz r0 r1 r2 f0 f1 f2 rz s0 s1 s2 s3 g0 g1 g2 g3 sz
      have RJ := ((((((((RJ).set 0 (.slice A k c)).set 1 (.int .i64 (ns : Int))).set 2 (.int .i64 (k : Int))).other (a := ⟨w.heap.size + 3, 0, none⟩) (by simp) (.slice As ns cs)).other (a := ⟨w.heap.size + 3, 1, none⟩) (by simp) (.slice Ap 0 cp)).other (a := ⟨w.heap.size + 3, 2, none⟩) (by simp) (.int .i64 dl)).other (a := ⟨w.heap.size + 3, 3, none⟩) (by simp) (.bool false)).drew
      have RD := ((((((((RD).other (a := ⟨w.heap.size + 2, 0, none⟩) (by simp) (.slice A k c)).other (a := ⟨w.heap.size + 2, 1, none⟩) (by simp) (.int .i64 (ns : Int))).other (a := ⟨w.heap.size + 2, 2, none⟩) (by simp) (.int .i64 (k : Int))).set 0 (.slice As ns cs)).set 1 (.slice Ap 0 cp)).set 2 (.int .i64 dl)).set 3 (.bool false)).drew
      have hB := ((((((((hB).setCell (p := ⟨w.heap.size + 2, 0, none⟩) (by simp) (.slice A k c)).setCell (p := ⟨w.heap.size + 2, 1, none⟩) (by simp) (.int .i64 (ns : Int))).setCell (p := ⟨w.heap.size + 2, 2, none⟩) (by simp) (.int .i64 (k : Int))).setCell (p := ⟨w.heap.size + 3, 0, none⟩) (by simp) (.slice As ns cs)).setCell (p := ⟨w.heap.size + 3, 1, none⟩) (by simp) (.slice Ap 0 cp)).setCell (p := ⟨w.heap.size + 3, 2, none⟩) (by simp) (.int .i64 dl)).setCell (p := ⟨w.heap.size + 3, 3, none⟩) (by simp) (.bool false)).drew
      generalize ((((((((wc).setCell ⟨w.heap.size + 2, 0, none⟩ (.slice A k c)).setCell ⟨w.heap.size + 2, 1, none⟩ (.int .i64 (ns : Int))).setCell ⟨w.heap.size + 2, 2, none⟩ (.int .i64 (k : Int))).setCell ⟨w.heap.size + 3, 0, none⟩ (.slice As ns cs)).setCell ⟨w.heap.size + 3, 1, none⟩ (.slice Ap 0 cp)).setCell ⟨w.heap.size + 3, 2, none⟩ (.int .i64 dl)).setCell ⟨w.heap.size + 3, 3, none⟩ (.bool false)).drew = W at RJ RD hB ⊢
      have y0 : W.cell? ⟨w.heap.size + 2, 0, none⟩ = some (.slice A k c) := RJ.cell 0
      have y1 : W.cell? ⟨w.heap.size + 2, 1, none⟩ = some (.int .i64 (ns : Int)) := RJ.cell 1
      have y2 : W.cell? ⟨w.heap.size + 2, 2, none⟩ = some (.int .i64 (k : Int)) := RJ.cell 2
      have z0 : W.cell? ⟨w.heap.size + 3, 0, none⟩ = some (.slice As ns cs) := RD.cell 0
      have z1 : W.cell? ⟨w.heap.size + 3, 1, none⟩ = some (.slice Ap 0 cp) := RD.cell 1
      have z2 : W.cell? ⟨w.heap.size + 3, 2, none⟩ = some (.int .i64 dl) := RD.cell 2
      have z3 : W.cell? ⟨w.heap.size + 3, 3, none⟩ = some (.bool false) := RD.cell 3
      refine bodyPost_ret (v := .tuple #[.agg #[.slice A k c, .int .i64 (ns : Int), .int .i64 (k : Int)], .agg #[.slice As ns cs, .slice Ap 0 cp, .int .i64 dl, .bool false], .int .i64 0]) (by simp [results, Try.results22, go_sem, y0, y1, y2, z0, z1, z2, z3]) rfl ?_
      exact ⟨A, k, c, ⟨l.records, (ns : Int), (k : Int)⟩, .slice As ns cs, .slice Ap 0 cp, ⟨d.sectors, d.pending, dl, false⟩, 0, rfl, hT7.out, hn, Lib.hid ((h.out.keep (Keeps.of hB)).weak fun b hb _ => .inl hb), Lib.hid ⟨(hD.out.sectors.keep (Keeps.of hB)).weak fun b hb _ => .inl hb, (hD.out.pending.keep (Keeps.of hB)).weak fun b hb _ => .inl hb⟩, hB⟩

end Go.Proofs.Ythlidhfahaalgaa
