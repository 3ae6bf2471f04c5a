/-
  The reference's Decode. No condition.
-/
import Derived.Test.YtcokkloaljaanaaGN
namespace Go.Proofs.Ytcokkloaljaanaa
open Go.RowKit
attribute [local go_sem ↓ high] app_named

theorem VR.all (m : Nat) : VR m := by
  induction m with
  | zero =>
    intro D rb n c p A l w dep T h hD hn8 h0 hdep hT
    rcases hq : l.drop p with _ | ⟨b0, t⟩
    · obtain rfl : none = T := by rw [← hT.out, hq, rdVal_nil]
      exact valueR_0 D rb n c p A l w h hD dep 0 (drop_nil_iff h.2.2.1 h.2.2.2 hq)
    · rw [hq] at hT
      by_cases h1 : b0 = 1
      · subst h1
        rw [rdVal_one] at hT
        rw [← hT.out]
        exact valueR_1 D rb n c p A l w h hD dep 0 t hq
      · by_cases h2 : b0 = 2
        · subst h2
          rw [rdVal_two] at hT
          exact valueR_2 D rb n c p A l w h hD dep 0 t hq T hT
        · by_cases h3 : b0 = 3
          · subst h3
            obtain rfl : none = T := by rw [← hT.out, rdVal_zero]
            exact valueR_3z D rb n c p A l w h hD dep 0 t hq (by simpa using hdep)
          · obtain rfl : none = T := by rw [← hT.out, rdVal_no 0 t h1 h2 h3]
            exact valueR_x D rb n c p A l w h hD dep 0 b0 t hq (fun e => h1 (UInt8.toNat_inj.1 e)) (fun e => h2 (UInt8.toNat_inj.1 e)) (fun e => h3 (UInt8.toNat_inj.1 e))
  | succ m ih =>
    intro D rb n c p A l w dep T h hD hn8 h0 hdep hT
    rcases hq : l.drop p with _ | ⟨b0, t⟩
    · obtain rfl : none = T := by rw [← hT.out, hq, rdVal_nil]
      exact valueR_0 D rb n c p A l w h hD dep (m + 1) (drop_nil_iff h.2.2.1 h.2.2.2 hq)
    · rw [hq] at hT
      by_cases h1 : b0 = 1
      · subst h1
        rw [rdVal_one] at hT
        rw [← hT.out]
        exact valueR_1 D rb n c p A l w h hD dep (m + 1) t hq
      · by_cases h2 : b0 = 2
        · subst h2
          rw [rdVal_two] at hT
          exact valueR_2 D rb n c p A l w h hD dep (m + 1) t hq T hT
        · by_cases h3 : b0 = 3
          · subst h3
            rw [rdVal_list] at hT
            exact valueR_3 D rb n c p A l w h hD dep m t hq h0 hdep ih hn8 T hT
          · obtain rfl : none = T := by rw [← hT.out, rdVal_no (m + 1) t h1 h2 h3]
            exact valueR_x D rb n c p A l w h hD dep (m + 1) b0 t hq (fun e => h1 (UInt8.toNat_inj.1 e)) (fun e => h2 (UInt8.toNat_inj.1 e)) (fun e => h3 (UInt8.toNat_inj.1 e))
/-- What lies in memory when Decode calls Value. -/
theorem rdec_start {w : World} {A : Option Addr} {n c : Nat} {l : Bs} (hb : BsAt w (fun b => b < w.heap.size) (.slice A n c) l) (hn : l.length = n) :
    Rc ((w.alloc (.cells #[.int .i64 0, .int .i64 0, .string ⟨#[]⟩, .slice none 0 0] 24)).alloc (.cells #[.slice A n c, .int .i64 0, .bool false] 62)) w.heap.size (w.heap.size + 1) A n c l 0 false ∧ Box ((w.alloc (.cells #[.int .i64 0, .int .i64 0, .string ⟨#[]⟩, .slice none 0 0] 24)).alloc (.cells #[.slice A n c, .int .i64 0, .bool false] 62)) w.heap.size [.int .i64 0, .int .i64 0, .string ⟨#[]⟩, .slice none 0 0] ∧ Below w.heap.size w ((w.alloc (.cells #[.int .i64 0, .int .i64 0, .string ⟨#[]⟩, .slice none 0 0] 24)).alloc (.cells #[.slice A n c, .int .i64 0, .bool false] 62)) := by
  have hst := ((Below.refl w.heap.size w).alloc (Nat.le_refl _) (.cells #[.int .i64 0, .int .i64 0, .string ⟨#[]⟩, .slice none 0 0] 24)).alloc (by simp) (.cells #[.slice A n c, .int .i64 0, .bool false] 62)
  refine ⟨⟨Box.newAt (w := w.alloc (.cells #[.int .i64 0, .int .i64 0, .string ⟨#[]⟩, .slice none 0 0] 24)) (n := w.heap.size + 1) [.slice A n c, .int .i64 0, .bool false] 62 (by simp), ?_, hn, Nat.zero_le _⟩, (Box.new w [.int .i64 0, .int .i64 0, .string ⟨#[]⟩, .slice none 0 0] 24).alloc _, hst⟩
  exact (hb.keep (Keeps.of hst)).weak fun b hb _ => ⟨hb, by omega⟩

set_option maxRecDepth 100000 in
set_option maxHeartbeats 4000000 in
theorem rDecode_bad (l : Bs) (A : Option Addr) (n c : Nat) (w : World) (hb : BsAt w (fun b => b < w.heap.size) (.slice A n c) l) (hn0 : l.length = n) (hl : n ≤ 100000000) (hne : ∀ x, rdVal 16 l ≠ some (x, [])) :
    Calls Try.prog 19 #[.slice A n c] w (RetDec (Val.zero, 10) w) := by
  obtain ⟨hR, hV, hB⟩ := rdec_start hb hn0
  have HC := Lib.hid (VR.all 16 w.heap.size (w.heap.size + 1) n c 0 A l _ 0 _ hR hB.size hl (by decide) (by decide) (Lib.hid rfl))
  clear hb hR
  go_enter Try.func19, Try.ntmps19
  go_wp2_with fail
  refine HC.out.mono ?_
  intro e w1 hret
  obtain ⟨hg, x, L, p, bd, rfl, hL, hR1, hm⟩ := hret
  have hB1 := below_of_grown hB hg (by omega)
  have hV1 := hV.same (hg.block _ hV.lt (by intro e; injection e with e; omega))
  obtain ⟨AL, cL, rfl, _⟩ := hL.form
  have y1 : w1.cell? ⟨w.heap.size + 1, 1, none⟩ = some (.int .i64 p) := hR1.1.cell 1
  have y2 : w1.cell? ⟨w.heap.size + 1, 2, none⟩ = some (.bool bd) := hR1.1.cell 2
  have hyz := hR1.lt
  have hbp : bd = true ∨ (bd = false ∧ p ≠ n) := by
    rw [List.drop_zero] at hm
    rcases hv : rdVal 16 l with _ | ⟨y, r⟩
    · rw [hv] at hm
      exact .inl hm
    · rw [hv] at hm
      refine .inr ⟨hm.1, fun e => ?_⟩
      have h3 := hm.2.2
      rw [e, ← hn0, List.drop_length] at h3
      rw [← h3] at hv
      exact hne y hv
  have hst := (Below.refl w1.heap.size w1).alloc (Nat.le_refl _) (.cells #[.int .i64 x.kind, .int .i64 x.num, .string (strB x.str), .slice AL x.elems.length cL] 24)
  have HW := Lib.hid (hB1.trans (hst.mono hB1.size))
  have HVW := Lib.hid (hV1.later hst)
  have HRW := Lib.hid (hR1.keep hst)
  clear HC hg hV hB hL hB1 hV1 hm hne hR1 hst y1 y2 hyz
  go_wp2_with fail
  generalize w1.alloc (.cells #[.int .i64 x.kind, .int .i64 x.num, .string (strB x.str), .slice AL x.elems.length cL] 24) = W at HW HVW HRW ⊢
  have y1 : W.cell? ⟨w.heap.size + 1, 1, none⟩ = some (.int .i64 p) := HRW.out.1.cell 1
  have y2 : W.cell? ⟨w.heap.size + 1, 2, none⟩ = some (.bool bd) := HRW.out.1.cell 2
  have hyz := HRW.out.lt
  have x0 : W.cell? ⟨w.heap.size, 0, none⟩ = some (.int .i64 0) := HVW.out.cell 0
  have x1 : W.cell? ⟨w.heap.size, 1, none⟩ = some (.int .i64 0) := HVW.out.cell 1
  have x2 : W.cell? ⟨w.heap.size, 2, none⟩ = some (.string ⟨#[]⟩) := HVW.out.cell 2
  have x3 : W.cell? ⟨w.heap.size, 3, none⟩ = some (.slice none 0 0) := HVW.out.cell 3
  have f0 := HVW.out.free 0
  have f1 := HVW.out.free 1
  have f2 := HVW.out.free 2
  have f3 := HVW.out.free 3
  have vz := HVW.out.lt
  rcases hbp with rfl | ⟨rfl, hpn⟩
  · skip
    go_quiet (fail)
    go_wp2
    clear x0 x1 x2 x3 f0 f1 f2 f3 vz y1 y2 hyz
    have hBZ : Below w.heap.size w (((((W.drewN nq).setCell ⟨w.heap.size, 0, none⟩ (.int .i64 0)).setCell ⟨w.heap.size, 1, none⟩ (.int .i64 0)).setCell ⟨w.heap.size, 2, none⟩ (.string ⟨#[]⟩)).setCell ⟨w.heap.size, 3, none⟩ (.slice none 0 0)) := ((((below_drewN HW.out nq).setCell (p := ⟨w.heap.size, 0, none⟩) (Nat.le_refl _) (.int .i64 0)).setCell (p := ⟨w.heap.size, 1, none⟩) (Nat.le_refl _) (.int .i64 0)).setCell (p := ⟨w.heap.size, 2, none⟩) (Nat.le_refl _) (.string ⟨#[]⟩)).setCell (p := ⟨w.heap.size, 3, none⟩) (Nat.le_refl _) (.slice none 0 0)
    have hVZ := ((((HVW.out.later (below_drewN (Below.refl W.heap.size W) nq)).set 0 (.int .i64 0)).set 1 (.int .i64 0)).set 2 (.string ⟨#[]⟩)).set 3 (.slice none 0 0)
    generalize ((((W.drewN nq).setCell ⟨w.heap.size, 0, none⟩ (.int .i64 0)).setCell ⟨w.heap.size, 1, none⟩ (.int .i64 0)).setCell ⟨w.heap.size, 2, none⟩ (.string ⟨#[]⟩)).setCell ⟨w.heap.size, 3, none⟩ (.slice none 0 0) = Z at hBZ hVZ ⊢
    have z0 : Z.cell? ⟨w.heap.size, 0, none⟩ = some (.int .i64 0) := hVZ.cell 0
    have z1 : Z.cell? ⟨w.heap.size, 1, none⟩ = some (.int .i64 0) := hVZ.cell 1
    have z2 : Z.cell? ⟨w.heap.size, 2, none⟩ = some (.string ⟨#[]⟩) := hVZ.cell 2
    have z3 : Z.cell? ⟨w.heap.size, 3, none⟩ = some (.slice none 0 0) := hVZ.cell 3
    refine bodyPost_ret (v := .tuple #[.agg #[.int .i64 0, .int .i64 0, .string ⟨#[]⟩, .slice none 0 0], .int .i64 10]) (by simp [results, Try.results19, go_sem, z0, z1, z2, z3]) rfl ?_
    exact ⟨.slice none 0 0, rfl, valsP_nil _ _ _, hBZ⟩
  · have hpe : ((p : Int) != (n : Int)) = true := by simp; omega
    clear hpn
    go_quiet (fail)
    go_wp2
    clear x0 x1 x2 x3 f0 f1 f2 f3 vz y1 y2 hyz
    have hBZ : Below w.heap.size w (((((W.drewN nq).setCell ⟨w.heap.size, 0, none⟩ (.int .i64 0)).setCell ⟨w.heap.size, 1, none⟩ (.int .i64 0)).setCell ⟨w.heap.size, 2, none⟩ (.string ⟨#[]⟩)).setCell ⟨w.heap.size, 3, none⟩ (.slice none 0 0)) := ((((below_drewN HW.out nq).setCell (p := ⟨w.heap.size, 0, none⟩) (Nat.le_refl _) (.int .i64 0)).setCell (p := ⟨w.heap.size, 1, none⟩) (Nat.le_refl _) (.int .i64 0)).setCell (p := ⟨w.heap.size, 2, none⟩) (Nat.le_refl _) (.string ⟨#[]⟩)).setCell (p := ⟨w.heap.size, 3, none⟩) (Nat.le_refl _) (.slice none 0 0)
    have hVZ := ((((HVW.out.later (below_drewN (Below.refl W.heap.size W) nq)).set 0 (.int .i64 0)).set 1 (.int .i64 0)).set 2 (.string ⟨#[]⟩)).set 3 (.slice none 0 0)
    generalize ((((W.drewN nq).setCell ⟨w.heap.size, 0, none⟩ (.int .i64 0)).setCell ⟨w.heap.size, 1, none⟩ (.int .i64 0)).setCell ⟨w.heap.size, 2, none⟩ (.string ⟨#[]⟩)).setCell ⟨w.heap.size, 3, none⟩ (.slice none 0 0) = Z at hBZ hVZ ⊢
    have z0 : Z.cell? ⟨w.heap.size, 0, none⟩ = some (.int .i64 0) := hVZ.cell 0
    have z1 : Z.cell? ⟨w.heap.size, 1, none⟩ = some (.int .i64 0) := hVZ.cell 1
    have z2 : Z.cell? ⟨w.heap.size, 2, none⟩ = some (.string ⟨#[]⟩) := hVZ.cell 2
    have z3 : Z.cell? ⟨w.heap.size, 3, none⟩ = some (.slice none 0 0) := hVZ.cell 3
    refine bodyPost_ret (v := .tuple #[.agg #[.int .i64 0, .int .i64 0, .string ⟨#[]⟩, .slice none 0 0], .int .i64 10]) (by simp [results, Try.results19, go_sem, z0, z1, z2, z3]) rfl ?_
    exact ⟨.slice none 0 0, rfl, valsP_nil _ _ _, hBZ⟩

end Go.Proofs.Ytcokkloaljaanaa
