/- Contract of Cut of network, the failing ways, and of cuts. No condition. -/
import Derived.Test.YtmbifmmkccghfaaQ2NO
import Derived.Test.YtmbifmmkccghfaaQ2KG
import Derived.Test.YtmbifmmkccghfaaQ2CX
import Derived.Deep.Cut
import Derived.Sort.CutIn
import Derived.Test.YtmbifmmkccghfaaQ2NI
import Derived.Laws.BytesArg
import Derived.Lib.ConvBytes
import Derived.Test.YtmbifmmkccghfaaQ2CQ
import Derived.BigQuiet
set_option linter.unusedVariables false
set_option linter.unusedSimpArgs false
namespace Go.Proofs.Ytmbifmmkccghfaa
open Go.RowKit Go.Shelf
attribute [local go_sem] Oper.semAt_some
attribute [local go_sem ↓ high] app_named

theorem calls_of_wp_marksN {P : Program} {f : FuncId} {fn : Func} {c : Code} {args : Array Value} {w : World} {R : Ending → World → Prop} (hf : P.funcs[f]? = some fn) (hb : fn.body = some c)
    (h : c.wp P (bodyPostM Fence.wide 6 P fn R) { tmps := args ++ Array.replicate (fn.ntmps - args.size) undef, defers := [] } w) : Calls P f args w R :=
  callsIn_wide.1 (callsIn_of_wp_marks (n := 6) hf hb trivial (wpIn_wide.2 h) rfl)

end Go.Proofs.Ytmbifmmkccghfaa

/-
  Contract of valid of orders. (Printed by pp.py.) No condition.
-/
namespace Go.Proofs.Ytmbifmmkccghfaa
open Go.RowKit Go.Shelf
attribute [local go_sem] Oper.semAt_some

theorem valid_lists {b : Bx} (h : b.listsB = false) : b.validB = false := by rw [Bx.validB, h]; rfl
theorem valid_sent {b : Bx} (h : b.sentB = false) : b.validB = false := by rw [Bx.validB, h, Bool.false_and, Bool.and_false]
theorem valid_gate {b : Bx} {g : Nat} (hg : g < b.heard.length) (h : b.gateB g = false) : b.validB = false := by
  have : (List.range b.heard.length).all b.gateB = false := List.all_eq_false.2 ⟨g, List.mem_range.2 hg, by rw [h]; decide⟩
  rw [Bx.validB, this, Bool.and_false, Bool.and_false]
theorem valid_yes {b : Bx} (h1 : b.listsB = true) (h2 : b.sentB = true) (h3 : ∀ g, g < b.heard.length → b.gateB g = true) : b.validB = true := by
  rw [Bx.validB, h1, h2, List.all_eq_true.2 fun g hg => h3 g (List.mem_range.1 hg)]
  rfl
theorem gate_out {b : Bx} {g : Nat} (h : ¬ (0 ≤ b.h g ∧ b.h g ≤ (b.sent.length : Int))) : b.gateB g = false := by
  unfold Bx.gateB
  rw [if_neg (by omega), decide_eq_false (fun h2 => h ⟨h2.1, h2.2.1⟩)]
theorem o_kfOf {D : Nat} {A B : World} (h : Below A.heap.size A B) : KeepsFrom D A B := ⟨h.size, fun b _ _ ho _ => (h.block b (Array.getElem?_eq_some_iff.1 ho).1).trans ho⟩
theorem o_kfCell {D : Nat} {A : World} {a : Addr} (h : a.block < D) (v : Value) : KeepsFrom D A (A.setCell a v) := ⟨by simp, fun b _ hk ho _ => (Below.heap_setCell A a v b (by omega)).trans ho⟩
theorem gate_zero {b : Bx} {g : Nat} (h : b.h g = 0) : b.gateB g = !b.f g := by rw [Bx.gateB, if_pos h]
theorem gate_pos {b : Bx} {g j : Nat} (h : b.h g = (j : Int) + 1) (hj : j < b.sent.length) : b.gateB g = decide ((b.sent.getD j (0, 0)).1 = (g : Int)) := by
  rw [Bx.gateB, if_neg (by omega), h]
  have e : (j : Int) + 1 - 1 = (j : Int) := by omega
  rw [e, Bx.at, Int.toNat_natCast]
  congr 1
  rw [eq_iff_iff]
  exact ⟨fun h => h.2.2, fun h => ⟨by omega, by omega, h⟩⟩
set_option maxRecDepth 100000 in
set_option maxHeartbeats 4000000 in
theorem oValid_is (b : Bx) (Vq Va : Value) (As Ah Af : Option Addr) (ns cs n ch nf cf : Nat) (w : World) {T : Bool} (hT : Hid (b.validB = T)) (hx : Hid (BxAt w w.heap.size Vq Va (.slice As ns cs) (.slice Ah n ch) (.slice Af nf cf) b)) (hns : Hid (b.sent.length = ns)) (hn : Hid (b.heard.length = n)) (hnf : Hid (b.fresh.length = nf)) (hcs : ns ≤ 9223372036854775807) (hcn : n ≤ 9223372036854775807) (hcf : nf ≤ 9223372036854775807) :
    Calls Try.prog 37 #[.agg #[Vq, Va, .slice As ns cs, .slice Ah n ch, .slice Af nf cf]] w fun e w' => e = .returned (.bool T) ∧ Below w.heap.size w w' := by
  refine calls_of_wp_marksN Try.func37 rfl ?_
  simp only [Try.ntmps37, List.size_toArray, List.length_cons, List.length_nil, Nat.reduceAdd, Nat.reduceSub, Array.replicate_succ, Array.replicate_zero, List.push_toArray, List.append_toArray, List.nil_append, List.cons_append]
  have hB := ((Below.refl w.heap.size w).alloc (Nat.le_refl _) (.cells #[Vq, Va, .slice As ns cs, .slice Ah n ch, .slice Af nf cf] 30)).alloc (by simp) (.cells #[.bool false] 4)
  have X1 := (Box.new w [Vq, Va, .slice As ns cs, .slice Ah n ch, .slice Af nf cf] 30).alloc (.cells #[.bool false] 4)
  have X2 := Box.newAt (w := w.alloc (.cells #[Vq, Va, .slice As ns cs, .slice Ah n ch, .slice Af nf cf] 30)) (n := w.heap.size + 1) [.bool false] 4 (by simp)
  go_upto_region 1 with fail
  generalize (w.alloc (.cells #[Vq, Va, .slice As ns cs, .slice Ah n ch, .slice Af nf cf] 30)).alloc (.cells #[.bool false] 4) = w1 at hB X1 X2 ⊢
  have z1 := X1.lt
  have z2 := X2.lt
  have X1c0 : w1.cell? ⟨w.heap.size, 0, none⟩ = some (Vq) := X1.cell 0
  have X1c1 : w1.cell? ⟨w.heap.size, 1, none⟩ = some (Va) := X1.cell 1
  have X1c2 : w1.cell? ⟨w.heap.size, 2, none⟩ = some (.slice As ns cs) := X1.cell 2
  have X1c3 : w1.cell? ⟨w.heap.size, 3, none⟩ = some (.slice Ah n ch) := X1.cell 3
  have X1c4 : w1.cell? ⟨w.heap.size, 4, none⟩ = some (.slice Af nf cf) := X1.cell 4
  have X2c0 : w1.cell? ⟨w.heap.size + 1, 0, none⟩ = some (.bool false) := X2.cell 0
  have X2f0 : w1.frozen? ⟨w.heap.size + 1, 0, none⟩ = false := X2.free 0
  have Y2 := X2.set 0 (.bool false)
  have hB2 := hB.setCell (p := ⟨w.heap.size + 1, 0, none⟩) (by simp) (.bool false)
  have y2 : (w1.setCell ⟨w.heap.size + 1, 0, none⟩ (.bool false)).cell? ⟨w.heap.size + 1, 0, none⟩ = some (.bool false) := Y2.cell 0
  by_cases h1 : n < 1
  · have d1 : decide ((n : Int) < 1) = true := decide_eq_true (by omega)
    have d2 : (n : Int) < 1 := by omega
    obtain rfl : T = false := by rw [← hT.out, valid_lists]; rw [Bx.listsB, hn.out]; exact decide_eq_false (by omega)
    go_wp2
    refine ⟨_, (by simp [results, Try.results37, go_sem, y2] : _ = Result.ok (.bool false) _), ?_⟩
    exact ⟨rfl, hB2⟩
  have d1 : decide ((n : Int) < 1) = false := decide_eq_false (by omega)
  have d2 : ¬ ((n : Int) < 1) := by omega
  by_cases h2 : 8 < n
  · have d3 : decide ((8 : Int) < (n : Int)) = true := decide_eq_true (by omega)
    have d4 : (8 : Int) < (n : Int) := by omega
    obtain rfl : T = false := by rw [← hT.out, valid_lists]; rw [Bx.listsB, hn.out]; exact decide_eq_false (by omega)
    go_wp2
    refine ⟨_, (by simp [results, Try.results37, go_sem, y2] : _ = Result.ok (.bool false) _), ?_⟩
    exact ⟨rfl, hB2⟩
  have d3 : decide ((8 : Int) < (n : Int)) = false := decide_eq_false (by omega)
  have d4 : ¬ ((8 : Int) < (n : Int)) := by omega
  by_cases h3 : nf = n
  rotate_left
  · have d5 : ((nf : Int) != (n : Int)) = true := by simp; omega
    obtain rfl : T = false := by rw [← hT.out, valid_lists]; rw [Bx.listsB, hn.out, hnf.out]; exact decide_eq_false (by omega)
    go_wp2
    refine ⟨_, (by simp [results, Try.results37, go_sem, y2] : _ = Result.ok (.bool false) _), ?_⟩
    exact ⟨rfl, hB2⟩
  subst h3
  have d5 : ((nf : Int) != (nf : Int)) = false := by simp
  by_cases h4 : 4096 < ns
  · have d6 : decide ((4096 : Int) < (ns : Int)) = true := decide_eq_true (by omega)
    have d7 : (4096 : Int) < (ns : Int) := by omega
    obtain rfl : T = false := by rw [← hT.out, valid_lists]; rw [Bx.listsB, hns.out]; exact decide_eq_false (by omega)
    go_wp2
    refine ⟨_, (by simp [results, Try.results37, go_sem, y2] : _ = Result.ok (.bool false) _), ?_⟩
    exact ⟨rfl, hB2⟩
  have d6 : decide ((4096 : Int) < (ns : Int)) = false := decide_eq_false (by omega)
  have d7 : ¬ ((4096 : Int) < (ns : Int)) := by omega
  have hL : Hid (b.listsB = true) := Lib.hid (by rw [Bx.listsB, hn.out, hns.out, hnf.out]; exact decide_eq_true (by omega))
  go_upto_region 4 with fail
  clear d1 d2 d3 d4 d5 d6 d7 X1c0 X1c1 X1c2 X1c3 X1c4 X2c0 X2f0 z1 z2 Y2 hB2 y2
  go_loopw [37] (fun s wr => ∃ k : Nat, k ≤ ns ∧ s = .int .i64 k ∧ Below w.heap.size w wr ∧ Box wr w.heap.size [Vq, Va, .slice As ns cs, .slice Ah nf ch, .slice Af nf cf] ∧ Box wr (w.heap.size + 1) [.bool false] ∧ Hid (∀ j (hj : j < b.sent.length), j < k → (0 ≤ (b.sent[j]).1 ∧ (b.sent[j]).1 < (nf : Int)) ∧ (0 ≤ (b.sent[j]).2 ∧ (b.sent[j]).2 ≤ 7))) (fun s _ => ns - (intOf s).toNat)
  case atStart => exact ⟨0, by omega, rfl, hB, X1, X2, Lib.hid (fun j _ hj => by omega)⟩
  case round =>
    clear hB X1 X2
    obtain ⟨k, hk, rfl, hB, X1, X2, hall⟩ := hrel
    obtain ⟨wo, rfl⟩ : ∃ wo : World, wo = wr := ⟨_, rfl⟩
    rcases Nat.lt_or_ge k ns with hlt | hge
    rotate_left
    · obtain rfl : k = ns := by omega
      have hk3 : ¬ ((k : Int) < (k : Int)) := by omega
      have hS : Hid (b.sentB = true) := Lib.hid (List.all_eq_true.2 fun m hm => by
        obtain ⟨j, hj, rfl⟩ := List.getElem_of_mem hm
        have := hall.out j hj (by rw [← hns.out]; exact hj)
        rw [hn.out]
        exact decide_eq_true this)
      have z1 := X1.lt
      have X1c0 : wo.cell? ⟨w.heap.size, 0, none⟩ = some (Vq) := X1.cell 0
      have X1c1 : wo.cell? ⟨w.heap.size, 1, none⟩ = some (Va) := X1.cell 1
      have X1c2 : wo.cell? ⟨w.heap.size, 2, none⟩ = some (.slice As k cs) := X1.cell 2
      have X1c3 : wo.cell? ⟨w.heap.size, 3, none⟩ = some (.slice Ah nf ch) := X1.cell 3
      have X1c4 : wo.cell? ⟨w.heap.size, 4, none⟩ = some (.slice Af nf cf) := X1.cell 4
      go_upto_region 10 with fail
      clear z1 X1c0 X1c1 X1c2 X1c3 X1c4 hall hk3
      go_loopw [66] (fun s wr => ∃ g : Nat, g ≤ nf ∧ s = .int .i64 g ∧ Below w.heap.size w wr ∧ Box wr w.heap.size [Vq, Va, .slice As k cs, .slice Ah nf ch, .slice Af nf cf] ∧ Box wr (w.heap.size + 1) [.bool false] ∧ Hid (∀ j, j < g → 0 ≤ b.h j ∧ b.h j ≤ (k : Int))) (fun s _ => nf - (intOf s).toNat)
      case atStart => exact ⟨0, by omega, rfl, hB, X1, X2, Lib.hid (fun j hj => by omega)⟩
      case round =>
        clear hB X1 X2
        obtain ⟨g, hg, rfl, hB, X1, X2, hall⟩ := hrel
        obtain ⟨wi, rfl⟩ : ∃ wi : World, wi = wr := ⟨_, rfl⟩
        rcases Nat.lt_or_ge g nf with hgl | hgg
        rotate_left
        · obtain rfl : nf = g := by omega
          have hk3 : ¬ ((nf : Int) < (nf : Int)) := by omega
          have z1 := X1.lt
          have X1c0 : wi.cell? ⟨w.heap.size, 0, none⟩ = some (Vq) := X1.cell 0
          have X1c1 : wi.cell? ⟨w.heap.size, 1, none⟩ = some (Va) := X1.cell 1
          have X1c2 : wi.cell? ⟨w.heap.size, 2, none⟩ = some (.slice As k cs) := X1.cell 2
          have X1c3 : wi.cell? ⟨w.heap.size, 3, none⟩ = some (.slice Ah nf ch) := X1.cell 3
          have X1c4 : wi.cell? ⟨w.heap.size, 4, none⟩ = some (.slice Af nf cf) := X1.cell 4
          go_wp2_with fail
          clear hk3
          refine (oGates_any Vq Va (.slice As k cs) (.slice Ah nf ch) (.slice Af nf cf) wi).mono ?_
          rintro e w2 ⟨rfl, Xg, hb⟩
          have hwi2 := X2.lt
          have X1 := X1.later hb
          have X2 := X2.later hb
          have hs1 := hB.size
          have hB := hB.trans (hb.mono hB.size)
          have hXg := Xg.lt
          have hwi := z1
          clear hb z1 X1c0 X1c1 X1c2 X1c3 X1c4
          generalize wi.heap.size = Bg at Xg hs1 hXg hwi hwi2 ⊢
          go_wp2_with fail
          -- RANGE
          have hsz := hB.size
          have hX1 := X1.lt
          have hX2 := X2.lt
          have HB := hx.out.heard.below hB
          refine wpIn_wide.1 (wpIn_rangeK_out (n := 6) rfl (by omega) (gf := 65) (lb := #[.pointer (some ⟨Bg, 0, none⟩)]) rfl trivial (enters_of Try.func65 (by kernel_rfl) rfl)
            (Kp := fun A B => KeepsC w.heap.size (fun b => b = w.heap.size + 1) A B)
            (fun A B C h1 h2 => h1.trans h2)
            (fun W l o o' hl ho hc => KeepsC.put ho hc (by omega) _)
            (oGates_seq 5 b nf ch Ah Vq Va (.slice As k cs) (.slice Af nf cf) Bg w2 w.heap.size (fun b => b = w.heap.size + 1) hn.out (by omega) HB Xg (by omega) hsz (fun j hj => by have := hall.out j hj; omega) _ (fun _ _ h => h)).toB (Below.refl _ _) (fun _ => rfl)
            (fun pre W => w2.heap.size ≤ W.heap.size ∧ Below w.heap.size w W ∧ Box W w.heap.size [Vq, Va, .slice As k cs, .slice Ah nf ch, .slice Af nf cf] ∧ Box W (w.heap.size + 1) [.bool false] ∧ Hid (∀ j, j < pre.length → b.gateB j = true))
            (fun cc pre W => cc = .ret ∧ T = false ∧ Below w.heap.size w W ∧ Box W (w.heap.size + 1) [.bool false])
            ?hI ?hIx ?h0
            (fun pre q a' W => w2.heap.size ≤ W.heap.size ∧ q < nf ∧ pre = List.range q ∧ Below w.heap.size w W ∧ Box W w.heap.size [Vq, Va, .slice As k cs, .slice Ah nf ch, .slice Af nf cf] ∧ Box W (w.heap.size + 1) [.bool false] ∧ Hid (∀ j, j < q → b.gateB j = true) ∧ a' = { tmps := #[.agg #[Vq, Va, .slice As k cs, .slice Ah nf ch, .slice Af nf cf], .pointer (some ⟨w.heap.size, 0, none⟩), .pointer (some ⟨w.heap.size + 1, 0, none⟩), undef, u4, undef, u6, .int .i64 (q : Int), .int .i64 (b.h q - 1), .pointer (some ⟨w.heap.size, 3, none⟩), .slice Ah nf ch, .int .i64 (nf : Int), .bool false, .bool false, .pointer (some ⟨w.heap.size, 3, none⟩), .slice Ah nf ch, .int .i64 (nf : Int), .bool false, .bool false, .bool false, .pointer (some ⟨w.heap.size, 4, none⟩), .slice Af nf cf, .int .i64 (nf : Int), .pointer (some ⟨w.heap.size, 3, none⟩), .slice Ah nf ch, .int .i64 (nf : Int), .bool false, .bool false, .bool false, .pointer (some ⟨w.heap.size, 2, none⟩), .slice As k cs, .int .i64 (k : Int), .bool false, .bool false, .pointer (some ⟨w.heap.size, 2, none⟩), .slice As k cs, .int .i64 (k : Int), .int .i64 (k : Int), .bool false, u39, u40, u41, u42, u43, u44, u45, u46, u47, u48, u49, u50, u51, u52, u53, u54, u55, u56, u57, u58, u59, u60, u61, u62, .pointer (some ⟨w.heap.size, 3, none⟩), .slice Ah nf ch, .int .i64 (nf : Int), .int .i64 (nf : Int), .bool false, u68, u69, u70, u71, u72, u73, u74, u75, u76, u77, u78, u79, .agg #[Vq, Va, .slice As k cs, .slice Ah nf ch, .slice Af nf cf], .func (.func 65) #[] #[.pointer (some ⟨Bg, 0, none⟩)], .int .i64 (q : Int), .int .i64 (b.h q - 1), undef, undef, undef, undef, undef, undef, undef, undef, undef, undef, undef, undef, undef, undef, undef, undef, undef, undef, undef, undef, undef, undef, undef], defers := [] })
            ?hAx ?assign ?body ?done ?stop)
          case hI =>
            rintro pre A B ⟨h1, h2, h3, h4, h5⟩ hb
            exact ⟨Nat.le_trans h1 hb.size, h2.trans (hb.mono hsz), h3.under hb hX1, h4.under hb hX2, h5⟩
          case hIx =>
            rintro cc pre A B ⟨rfl, h1, h2, h3⟩ hb
            exact ⟨rfl, h1, h2.trans (hb.mono hsz), h3.under hb hX2⟩
          case h0 => exact ⟨Nat.le_refl _, hB, X1, X2, Lib.hid (fun j hj => absurd hj (Nat.not_lt_zero _))⟩
          case hAx =>
            rintro pre q a' A l o o' hl ho hc ⟨h1, h2, h3, h4, h5, h6, h7, rfl⟩
            exact ⟨by simpa using h1, h2, h3, h4.trans (below_put3 (by omega) _), h5.record ho hc _, h6.record ho hc _, h7, rfl⟩
          case assign =>
            rintro l pre q W K ⟨h1, h2, h3, h4, h5⟩ ⟨rfl, hqn⟩ hK
            rw [List.length_range] at h5
            gi_wp2
            exact hK _ _ (o_kfOf (Below.refl _ _)) (KeepsC.refl _ _ _) ⟨h1, hqn, by trivial, h2, h3, h4, h5, rfl⟩
          case body =>
            rintro l pre q a' W hl ⟨r0, hr0⟩ ⟨hsW, hqn, rfl, hBW, X1W, X2W, hall2, rfl⟩
            have hlen : (List.range q ++ [q]).length = q + 1 := by rw [List.length_append, List.length_range]; rfl
            have HLN := Lib.hid hlen
            have hu := hall.out q hqn
            have hq2 : q < b.heard.length := by rw [hn.out]; exact hqn
            obtain ⟨bf, off, rfl, hbf, cf0⟩ := hx.out.fresh.2.one (k := q) (by rw [hnf.out]; exact hqn)
            replace cf0 : W.cell? ⟨bf, off + q, none⟩ = some (.bool (b.f q)) := (hBW.cell hbf).trans cf0
            have hfz := Nat.lt_of_lt_of_le hbf hBW.size
            have z1 := X1W.lt
            have z2 := X2W.lt
            have w12 : W.cell? ⟨w.heap.size, 2, none⟩ = some (.slice As k cs) := X1W.cell 2
            have w14 : W.cell? ⟨w.heap.size, 4, none⟩ = some (.slice (some ⟨bf, off, none⟩) nf cf) := X1W.cell 4
            have w20 : W.cell? ⟨w.heap.size + 1, 0, none⟩ = some (.bool false) := X2W.cell 0
            have w2f : W.frozen? ⟨w.heap.size + 1, 0, none⟩ = false := X2W.free 0
            have Y2 := X2W.set 0 (.bool false)
            have hB2 := hBW.setCell (p := ⟨w.heap.size + 1, 0, none⟩) (by simp) (.bool false)
            have hkc : KeepsC w.heap.size (fun b => b = w.heap.size + 1) W W := KeepsC.refl _ _ _
            have hkf : KeepsFrom w2.heap.size W (W.setCell ⟨w.heap.size + 1, 0, none⟩ (.bool false)) := o_kfCell (a := ⟨w.heap.size + 1, 0, none⟩) hX2 _
            have hbad : b.gateB q = false → T = false := fun h => by rw [← hT.out, valid_gate hq2 h]
            have hgood : b.gateB q = true → ∀ j, j < q + 1 → b.gateB j = true := fun h j hj => by
              rcases Nat.lt_or_ge j q with h9 | h9
              · exact hall2.out j h9
              · obtain rfl : j = q := by omega
                exact h
            by_cases h0 : b.h q = 0
            · have hG : b.gateB q = !b.f q := gate_zero h0
              rw [hG] at hbad hgood
              have HBAD := Lib.hid hbad
              have HG := Lib.hid hgood
              clear hbad hgood hG hall2
              generalize b.f q = f at cf0 HBAD HG
              rw [h0]
              clear h0 hu
              cases f with
              | true =>
                have hTf := Lib.hid (HBAD.out rfl)
                gi_wp2
                exact ⟨hkf, rfl, hTf.out, hB2, Y2⟩
              | false =>
                have hg1 := HG.out rfl
                gi_wp2
                refine ⟨o_kfOf (Below.refl _ _), hkc, hsW, hBW, X1W, X2W, Lib.hid (fun j hj => hg1 j (by rw [HLN.out] at hj; exact hj))⟩
            · obtain ⟨j0, hj0⟩ : ∃ j0 : Nat, b.h q = (j0 : Int) + 1 := ⟨(b.h q - 1).toNat, by omega⟩
              have hjk : j0 < k := by omega
              have hG : b.gateB q = decide ((b.sent.getD j0 (0, 0)).1 = (q : Int)) := gate_pos hj0 (by rw [hns.out]; exact hjk)
              obtain ⟨bs, os, rfl, hbs, hc⟩ := hx.out.sent.lk (by rw [hns.out]; omega)
              have c0 := (hBW.cell hbs).trans (hc j0 (by rw [hns.out]; exact hjk)).1
              have hsz2 := Nat.lt_of_lt_of_le hbs hBW.size
              rw [hG] at hbad hgood
              have HBAD := Lib.hid hbad
              have HG := Lib.hid hgood
              clear hbad hgood hG hall2 hc
              have e9 : b.h q - 1 = (j0 : Int) := by omega
              rw [e9]
              clear e9 hj0 h0 hu
              generalize (b.sent.getD j0 (0, 0)).1 = m at c0 HBAD HG
              have p0 : decide ((j0 : Int) < 0) = false := decide_eq_false (by omega)
              have p1 : decide ((0 : Int) ≤ (j0 : Int)) = true := decide_eq_true (by omega)
              have p2 : (j0 : Int) < (k : Int) := by omega
              have p3 : (0 : Int) ≤ (j0 : Int) := by omega
              have p4 : ¬ ((j0 : Int) < 0) := by omega
              by_cases hm : m = (q : Int)
              · have hg1 := HG.out (decide_eq_true hm)
                have p5 : (m != (q : Int)) = false := by simp [hm]
                gi_wp2
                refine ⟨o_kfOf (Below.refl _ _), hkc, hsW, hBW, X1W, X2W, Lib.hid (fun j hj => hg1 j (by rw [HLN.out] at hj; exact hj))⟩
              · have hTf := Lib.hid (HBAD.out (decide_eq_false hm))
                have p5 : (m != (q : Int)) = true := by simp [hm]
                gi_wp2
                exact ⟨hkf, rfl, hTf.out, hB2, Y2⟩
          case done =>
            rintro Ed xs W hEd rfl ⟨h1, h2, h3, h4, h5⟩ hK
            rw [List.length_range] at h5
            obtain rfl : T = true := by rw [← hT.out, valid_yes hL.out hS.out (fun g hg => h5.out g (by rw [← hn.out]; exact hg))]
            have hEz := Array.getElem?_eq_some_iff.1 hK |>.1
            have w20 : W.cell? ⟨w.heap.size + 1, 0, none⟩ = some (.bool false) := h4.cell 0
            have w2f : W.frozen? ⟨w.heap.size + 1, 0, none⟩ = false := h4.free 0
            have z2 := h4.lt
            have Y2 := h4.set 0 (.bool true)
            have hB2 := h2.setCell (p := ⟨w.heap.size + 1, 0, none⟩) (by simp) (.bool true)
            have hK2 : (W.setCell ⟨w.heap.size + 1, 0, none⟩ (.bool true)).heap[Ed]? = some (.deferred (some [])) := (Below.heap_setCell W _ _ Ed (by dsimp only; omega)).trans hK
            go_wp2
            generalize W.setCell ⟨w.heap.size + 1, 0, none⟩ (.bool true) = W9 at Y2 hB2 hK2 ⊢
            have Z := Y2.record hK2 rfl (.deferred none)
            have z0 := Z.cell 0
            refine ⟨by simp, .inl ⟨_, _, rfl, run_takeDeferred hK2, ?_⟩⟩
            refine ⟨_, (by simp [results, Try.results37, go_sem, z0] : _ = Result.ok (.bool true) _), ?_⟩
            exact ⟨rfl, hB2.trans (below_put3 (by omega) _)⟩
          case stop =>
            rintro Ed cc pre W hEd hpre ⟨rfl, h1, h2, h3⟩ hK
            subst h1
            refine wpIn_wide.2 ?_
            have Z := h3.record hK rfl (.deferred none)
            have z0 := Z.cell 0
            go_wp2
            refine ⟨by simp, .inl ⟨_, _, rfl, run_takeDeferred hK, ?_⟩⟩
            refine ⟨_, (by simp [results, Try.results37, go_sem, z0] : _ = Result.ok (.bool false) _), ?_⟩
            exact ⟨rfl, h2.trans (below_put3 (by omega) _)⟩
        have hk3 : (g : Int) < (nf : Int) := by omega
        have hgl2 : g < b.heard.length := by rw [hn.out]; exact hgl
        obtain ⟨bh, oh, rfl, hbh, c0⟩ := hx.out.heard.2.one (k := g) hgl2
        replace c0 : w.cell? ⟨bh, oh + g, none⟩ = some (.int .i64 (b.h g)) := c0
        have hbad : ¬ (0 ≤ b.h g ∧ b.h g ≤ (k : Int)) → T = false := fun h => by rw [← hT.out, valid_gate hgl2 (gate_out (by rw [hns.out]; exact h))]
        have hgood : (0 ≤ b.h g ∧ b.h g ≤ (k : Int)) → ∀ j, j < g + 1 → 0 ≤ b.h j ∧ b.h j ≤ (k : Int) := fun h j hj => by
          rcases Nat.lt_or_ge j g with h9 | h9
          · exact hall.out j h9
          · obtain rfl : j = g := by omega
            exact h
        generalize b.h g = u at c0 hbad hgood
        have HG := Lib.hid hgood
        have HBAD := Lib.hid hbad
        clear hbad hgood
        replace c0 := (hB.cell hbh).trans c0
        have hbz := Nat.lt_of_lt_of_le hbh hB.size
        have z1 := X1.lt
        have z2 := X2.lt
        have X1c2 : wi.cell? ⟨w.heap.size, 2, none⟩ = some (.slice As k cs) := X1.cell 2
        have X2c0 : wi.cell? ⟨w.heap.size + 1, 0, none⟩ = some (.bool false) := X2.cell 0
        have X2f0 : wi.frozen? ⟨w.heap.size + 1, 0, none⟩ = false := X2.free 0
        have Y2 := X2.set 0 (.bool false)
        have hB2 := hB.setCell (p := ⟨w.heap.size + 1, 0, none⟩) (by simp) (.bool false)
        have y2 : (wi.setCell ⟨w.heap.size + 1, 0, none⟩ (.bool false)).cell? ⟨w.heap.size + 1, 0, none⟩ = some (.bool false) := Y2.cell 0
        by_cases g1 : u < 0
        · have e1 : decide (u < 0) = true := decide_eq_true g1
          obtain rfl : T = false := HBAD.out (by omega)
          go_wp2
          refine ⟨_, (by simp [results, Try.results37, go_sem, y2] : _ = Result.ok (.bool false) _), ?_⟩
          exact ⟨rfl, hB2⟩
        have e1 : decide (u < 0) = false := decide_eq_false g1
        by_cases g2 : (k : Int) < u
        · have e2 : decide ((k : Int) < u) = true := decide_eq_true g2
          obtain rfl : T = false := HBAD.out (by omega)
          go_wp2
          refine ⟨_, (by simp [results, Try.results37, go_sem, y2] : _ = Result.ok (.bool false) _), ?_⟩
          exact ⟨rfl, hB2⟩
        have e2 : decide ((k : Int) < u) = false := decide_eq_false g2
        clear Y2 hB2 y2
        go_wp2
        exact ⟨⟨g + 1, by omega, by go_num, hB, X1, X2, Lib.hid (HG.out (by omega))⟩, by simp [intOf]; omega⟩
    have hk3 : (k : Int) < (ns : Int) := by omega
    have hkl : k < b.sent.length := by rw [hns.out]; exact hlt
    obtain ⟨bs, os, rfl, hbs, hc⟩ := hx.out.sent.lk (by omega)
    obtain ⟨c0, c1⟩ := hc k hkl
    rw [gd_at hkl] at c0 c1
    have hok : ∀ T' : Bool, b.sentB = T' → T' = false → T = false := fun T' h h' => by rw [← hT.out, valid_sent (by rw [h, h'])]
    have hbad : ¬ ((0 ≤ (b.sent[k]).1 ∧ (b.sent[k]).1 < (nf : Int)) ∧ (0 ≤ (b.sent[k]).2 ∧ (b.sent[k]).2 ≤ 7)) → T = false := fun h => hok _ rfl (by
      unfold Bx.sentB
      rw [List.all_eq_false]
      refine ⟨_, List.getElem_mem hkl, ?_⟩
      rw [hn.out, decide_eq_false h]
      decide)
    have hgood : ((0 ≤ (b.sent[k]).1 ∧ (b.sent[k]).1 < (nf : Int)) ∧ (0 ≤ (b.sent[k]).2 ∧ (b.sent[k]).2 ≤ 7)) → (∀ j (hj : j < b.sent.length), j < k + 1 → (0 ≤ (b.sent[j]).1 ∧ (b.sent[j]).1 < (nf : Int)) ∧ (0 ≤ (b.sent[j]).2 ∧ (b.sent[j]).2 ≤ 7)) := fun h j hj hjk => by
      rcases Nat.lt_or_ge j k with h9 | h9
      · exact hall.out j hj h9
      · obtain rfl : j = k := by omega
        exact h
    generalize b.sent[k] = p at c0 c1 hbad hgood
    have HG := Lib.hid hgood
    obtain ⟨m1, m2⟩ := p
    dsimp only at c0 c1 hbad HG
    have HBAD := Lib.hid hbad
    clear hok hbad hgood
    replace c0 := (hB.cell hbs).trans c0
    replace c1 := (hB.cell hbs).trans c1
    have hbz := Nat.lt_of_lt_of_le hbs hB.size
    go_upto_region 6 with fail
    have Y := Box.new wo [.int .i64 m1, .int .i64 m2] 48
    have hal := (Below.refl wo.heap.size wo).alloc (Nat.le_refl _) (.cells #[.int .i64 m1, .int .i64 m2] 48)
    have X1 := X1.later hal
    have X2 := X2.later hal
    have hB := hB.trans (hal.mono hB.size)
    clear hal c0 c1 hbz
    generalize wo.alloc (.cells #[.int .i64 m1, .int .i64 m2] 48) = W at Y X1 X2 hB ⊢
    generalize wo.heap.size = D at Y ⊢
    have y0 : W.cell? ⟨D, 0, none⟩ = some (.int .i64 m1) := Y.cell 0
    have y1 : W.cell? ⟨D, 1, none⟩ = some (.int .i64 m2) := Y.cell 1
    have yz := Y.lt
    have z1 := X1.lt
    have z2 := X2.lt
    have X1c3 : W.cell? ⟨w.heap.size, 3, none⟩ = some (.slice Ah nf ch) := X1.cell 3
    have X2c0 : W.cell? ⟨w.heap.size + 1, 0, none⟩ = some (.bool false) := X2.cell 0
    have X2f0 : W.frozen? ⟨w.heap.size + 1, 0, none⟩ = false := X2.free 0
    have Y2 := X2.set 0 (.bool false)
    have hB2 := hB.setCell (p := ⟨w.heap.size + 1, 0, none⟩) (by simp) (.bool false)
    have y2 : (W.setCell ⟨w.heap.size + 1, 0, none⟩ (.bool false)).cell? ⟨w.heap.size + 1, 0, none⟩ = some (.bool false) := Y2.cell 0
    by_cases g1 : m1 < 0
    · have e1 : decide (m1 < 0) = true := decide_eq_true g1
      obtain rfl : T = false := HBAD.out (by omega)
      go_wp2
      refine ⟨_, (by simp [results, Try.results37, go_sem, y2] : _ = Result.ok (.bool false) _), ?_⟩
      exact ⟨rfl, hB2⟩
    have e1 : decide (m1 < 0) = false := decide_eq_false g1
    by_cases g2 : (nf : Int) ≤ m1
    · have e2 : decide ((nf : Int) ≤ m1) = true := decide_eq_true g2
      obtain rfl : T = false := HBAD.out (by omega)
      go_wp2
      refine ⟨_, (by simp [results, Try.results37, go_sem, y2] : _ = Result.ok (.bool false) _), ?_⟩
      exact ⟨rfl, hB2⟩
    have e2 : decide ((nf : Int) ≤ m1) = false := decide_eq_false g2
    by_cases g3 : m2 < 0
    · have e3 : decide (m2 < 0) = true := decide_eq_true g3
      obtain rfl : T = false := HBAD.out (by omega)
      go_wp2
      refine ⟨_, (by simp [results, Try.results37, go_sem, y2] : _ = Result.ok (.bool false) _), ?_⟩
      exact ⟨rfl, hB2⟩
    have e3 : decide (m2 < 0) = false := decide_eq_false g3
    by_cases g4 : 7 < m2
    · have e4 : decide (7 < m2) = true := decide_eq_true g4
      obtain rfl : T = false := HBAD.out (by omega)
      go_wp2
      refine ⟨_, (by simp [results, Try.results37, go_sem, y2] : _ = Result.ok (.bool false) _), ?_⟩
      exact ⟨rfl, hB2⟩
    have e4 : decide (7 < m2) = false := decide_eq_false g4
    clear Y2 hB2 y2
    go_wp2
    exact ⟨⟨k + 1, by omega, by go_num, hB, X1, X2, Lib.hid (HG.out (by omega))⟩, by simp [intOf]; omega⟩
end Go.Proofs.Ytmbifmmkccghfaa

/-
  Contract of Cut of the reference. (Printed by gen_nu.py.)
-/
namespace Go.Proofs.Ytmbifmmkccghfaa
open Go.RowKit
attribute [local go_sem ↓ high] app_named

theorem OwnLk.later {w w' : World} {base : Nat} {v : Value} {l : List (Int × Int)} (h : OwnLk w base v l) (hb : Below w.heap.size w w') : OwnLk w' base v l :=
  World.ownsRow.kept h (grown_noneN hb) (Classical.em _)
end Go.Proofs.Ytmbifmmkccghfaa

/-
  Contracts of SamePacket, Few, New of the reference and New of network. No condition.
-/
namespace Go.Proofs.Ytmbifmmkccghfaa
open Go.RowKit

def strBN (l : List UInt8) : ByteArray := ⟨l.toArray⟩
theorem strOfNums_bytesN (l : List UInt8) : strOfNums (l.map fun x => (x.toNat : Int)) = strBN l := by
  unfold strOfNums strBN
  congr 1
  simp [List.map_map, Function.comp_def]
theorem BytesAt.str {w : World} {B : Nat} {v : Value} {l : List UInt8} (h : BytesAt w B v l) : (convert 43 9 v).run Try.prog w = .ok (.string (strBN l)) w := by
  obtain ⟨A, c, rfl, hn, h1⟩ := h.2
  rcases A with _ | a
  · have hl : l = [] := by
      rcases l with _ | ⟨x, l⟩
      · rfl
      · obtain ⟨b, off, e, _⟩ := h1 0 (by simp)
        cases e
    subst hl
    rw [run_convert_bytes_nil w _ _ Try.underlying43 Try.underlying5 _ _ _ Try.underlying9]
    rfl
  · rcases Nat.eq_zero_or_pos l.length with h0 | h0
    · have hl : l = [] := List.eq_nil_of_length_eq_zero h0
      subst hl
      have hl : (loadCells a 0).run Try.prog w = .ok (([] : List Int).map (Value.int .u8)).toArray w := by simpa using run_loadCells_list (P := Try.prog) w a [] (fun j v hj => by simp at hj)
      rw [run_convert_bytes_string w _ _ _ _ _ _ Try.underlying43 Try.underlying5 Try.underlying9, List.length_nil, run_bytesToString w a 0 c [] hl]
      rfl
    · obtain ⟨b, off, e, _⟩ := h1 0 h0
      cases e
      rw [run_convert_bytes_arg w _ _ Try.underlying43 Try.underlying5 b off l.length c (l.map fun x => (x.toNat : Int)) (by simp) (fun i hi => ?_) _ Try.underlying9, strOfNums_bytesN]
      obtain ⟨b', off', e', _, h3⟩ := h1 i hi
      cases e'
      have := h3 0 (by omega)
      rw [Nat.mul_one, Nat.add_zero] at this
      rw [this]
      simp [List.getD_eq_getElem?_getD, List.getElem?_eq_getElem hi]

set_option maxHeartbeats 1000000 in
theorem nFew_any (n : Net) (Vq Va : Value) (w : World) (D : Nat) (hN : NetAt w D Vq Va n) :
    Calls Try.prog 29 #[.agg #[Vq, Va]] w fun e w' => e = .returned (.bool (fewN n)) ∧ Below w.heap.size w w' := by
  obtain ⟨Aq, cq, rfl, hm1⟩ := hN.queue.form
  obtain ⟨Aa, ca, rfl, hm2⟩ := hN.apart.form
  unfold fewN
  generalize n.queue.length = a at *
  generalize n.apart.length = b at *
  unfold maxLen at hm1 hm2
  have hb0 := (Below.refl w.heap.size w).alloc (Nat.le_refl _) (.cells #[.slice Aq a cq, .slice Aa b ca] 25)
  clear hN
  by_cases h : a ≤ 40
  · have e : decide ((a : Int) ≤ 40) = true := by simp; omega
    obtain ⟨t, ht⟩ : ∃ t, decide (b ≤ 40) = t := ⟨_, rfl⟩
    have e2 : decide ((b : Int) ≤ 40) = t := by rw [← ht]; exact decide_eq_decide.2 (by omega)
    have hs : (decide (a ≤ 40) && decide (b ≤ 40)) = t := by simp [h, ht]
    rw [hs]
    clear hs ht
    go_enter Try.func29, Try.ntmps29
    go_wp2
    go_ret
    exact ⟨by first | rfl | simp_all, hb0⟩
  · have e : decide ((a : Int) ≤ 40) = false := by simp; omega
    have hs : (decide (a ≤ 40) && decide (b ≤ 40)) = false := by simp [h]
    rw [hs]
    clear hs
    go_enter Try.func29, Try.ntmps29
    go_wp2
    go_ret
    exact ⟨rfl, hb0⟩

theorem nNew_any (w : World) : Calls Try.prog 30 #[] w fun e w' => e = .returned (.agg #[.slice none 0 0, .slice none 0 0]) ∧ Below w.heap.size w w' := by
  go_enter Try.func30, Try.ntmps30
  go_wp2
  exact bodyPost_ret (v := .agg #[.slice none 0 0, .slice none 0 0]) (by simp [results, Try.results30, go_sem]) rfl ⟨rfl, (Below.refl _ _).alloc (Nat.le_refl _) _⟩
end Go.Proofs.Ytmbifmmkccghfaa

/-
  Contract of Same of the reference. No condition.
-/
namespace Go.Proofs.Ytmbifmmkccghfaa
open Go.RowKit
attribute [local go_sem ↓ high] eq_pair

end Go.Proofs.Ytmbifmmkccghfaa

/-
  The contracts of chapter 6 as the laws use them: results by name. No condition.
-/
namespace Go.Proofs.Ytmbifmmkccghfaa
open Go.RowKit

theorem Lks2.at {w : World} {D base : Nat} {v : Value} {l : List (Int × Int)} (h : Lks2 w D base v l) : LksAt w w.heap.size v l := ⟨h.1, h.2.sl⟩
theorem PksAt.form2 {w : World} {B : Nat} {v : Value} {q : List Pk} {k : Nat} (h : PksAt w B v q) (hk : q.length = k) : ∃ A c, v = .slice A k c ∧ k ≤ 9223372036854775807 := by
  obtain ⟨A, c, rfl, hm⟩ := h.form
  subst hk
  exact ⟨A, c, rfl, by unfold maxLen at hm; omega⟩
theorem LksAt.form2 {w : World} {B : Nat} {v : Value} {q : List (Int × Int)} {k : Nat} (h : LksAt w B v q) (hk : q.length = k) : ∃ A c, v = .slice A k c ∧ k ≤ 9223372036854775807 := by
  obtain ⟨A, c, rfl, hm⟩ := h.form
  subst hk
  exact ⟨A, c, rfl, by unfold maxLen at hm; omega⟩
theorem RetNet.is {t : Net × Int} {m : Net} {er : Int} {a b : Nat} {w w' : World} {e : Ending} (hh : RetNet t w.heap.size w e w') (h : Hid (t = (m, er))) (hq : Hid (m.queue.length = a)) (ha : Hid (m.apart.length = b)) :
    ∃ (Aq : Option Addr) (cq : Nat) (Aa : Option Addr) (ca : Nat), e = .returned (.tuple #[.agg #[.slice Aq a cq, .slice Aa b ca], .int .i64 er]) ∧ Hid (NetAt w' w'.heap.size (.slice Aq a cq) (.slice Aa b ca) m) ∧ Below w.heap.size w w' := by
  obtain ⟨Vq, Va, m', er', he, ht, hN, hb⟩ := hh
  have h2 := ht.out.symm.trans h.out
  injection h2 with h3 h4
  subst h3 h4
  have hN2 := hN.out.at hb.size
  obtain ⟨Aq, cq, rfl, _⟩ := hN2.queue.form2 hq.out
  obtain ⟨Aa, ca, rfl, _⟩ := hN2.apart.form2 ha.out
  exact ⟨Aq, cq, Aa, ca, he, hN2, hb⟩
theorem RetDel.is {t : Pk × Net × Int} {p : Pk} {m : Net} {er : Int} {a b k : Nat} {w w' : World} {e : Ending} (hh : RetDel t w.heap.size w e w') (h : Hid (t = (p, m, er))) (hq : Hid (m.queue.length = a)) (ha : Hid (m.apart.length = b)) (hk : Hid (p.data.length = k)) :
    ∃ (Ad : Option Addr) (cd : Nat) (Aq : Option Addr) (cq : Nat) (Aa : Option Addr) (ca : Nat), e = .returned (.tuple #[.agg #[.int .i64 p.src, .int .i64 p.dst, .slice Ad k cd], .agg #[.slice Aq a cq, .slice Aa b ca], .int .i64 er]) ∧
      Hid (BytesAt w' w'.heap.size (.slice Ad k cd) p.data) ∧ Hid (NetAt w' w'.heap.size (.slice Aq a cq) (.slice Aa b ca) m) ∧ Below w.heap.size w w' := by
  obtain ⟨V, p', Vq, Va, m', er', he, ht, hV, hN, hb⟩ := hh
  have h2 := ht.out.symm.trans h.out
  injection h2 with h3 h4
  injection h4 with h4 h5
  subst h3 h4 h5
  have hN2 := hN.out.at hb.size
  have hV2 := hV.out.more hb.size
  obtain ⟨Aq, cq, rfl, _⟩ := hN2.queue.form2 hq.out
  obtain ⟨Aa, ca, rfl, _⟩ := hN2.apart.form2 ha.out
  obtain ⟨Ad, cd, rfl, _⟩ := hV2.form
  rw [hk.out] at he hV2
  exact ⟨Ad, cd, Aq, cq, Aa, ca, he, hV2, hN2, hb⟩

theorem nFew_at {n : Net} {Vq Va : Value} {w : World} {D : Nat} {t : Bool} (h : Hid (fewN n = t)) (hN : NetAt w D Vq Va n) : Calls Try.prog 29 #[.agg #[Vq, Va]] w fun e w' => e = .returned (.bool t) ∧ Below w.heap.size w w' :=
  (nFew_any n Vq Va w D hN).mono fun _ _ ⟨he, hb⟩ => ⟨by rw [he, h.out], hb⟩
theorem nSend_is (n : Net) (p : Pk) {Vq Va Vd : Value} {w : World} (hN : Hid (NetAt w w.heap.size Vq Va n)) (hD : Hid (BytesAt w w.heap.size Vd p.data)) : Calls Try.prog 32 #[.agg #[Vq, Va], p.v Vd] w (RetNet (sendT n p) w.heap.size w) := nSend_any n Vq Va p Vd w _ (Nat.le_refl _) hN.out hD.out
theorem nDeliver_is (n : Net) (i : Int) {Vq Va : Value} {w : World} (hN : Hid (NetAt w w.heap.size Vq Va n)) : Calls Try.prog 47 #[.agg #[Vq, Va], .int .i64 i] w (RetDel (deliverT n i) w.heap.size w) := nDeliver_any n Vq Va i w _ (Nat.le_refl _) hN.out
theorem nRepeat_is (n : Net) (i : Int) {Vq Va : Value} {w : World} (hN : Hid (NetAt w w.heap.size Vq Va n)) : Calls Try.prog 66 #[.agg #[Vq, Va], .int .i64 i] w (RetNet (repeatT n i) w.heap.size w) := nRepeat_any n Vq Va i w _ (Nat.le_refl _) hN.out
end Go.Proofs.Ytmbifmmkccghfaa

/-
  Contracts of Int, Text and List of the reference; strings as bytes; the values of the example. No condition.
-/
namespace Go.Proofs.Ytmbifmmkccghfaa
open Go.RowKit

theorem conv_bytes (w : World) (s : Bs) (hs : s.length ≤ maxLen) : ∃ c w', (convert 9 43 (.string (strB s))).run Try.prog w = .ok (.slice (some ⟨w.heap.size, 0, none⟩) s.length c) w' ∧ BsAt w' (fun b => b < w'.heap.size) (.slice (some ⟨w.heap.size, 0, none⟩) s.length c) s ∧ Below w.heap.size w w' := by
  have hr := Lib.run_convert_string_bytes (P := Try.prog) w 9 43 5 (strB s) Try.underlying9 Try.underlying43 Try.underlying5
  have hsz : (strB s).size = s.length := rfl
  rw [hsz] at hr
  refine ⟨_, _, hr, ⟨.inr ⟨_, _, _, rfl, grownCap_ge _ _ _ _, grownCap_le_maxLen _ _ _ _ hs⟩, _, _, rfl, hs, fun i hi => ⟨w.heap.size, 0, rfl, ?_, ?_, fun j hj => ?_⟩⟩, ?_⟩
  · rw [Lib.bytesWorld_size]; omega
  · rw [Lib.bytesWorld_size]; omega
  · obtain rfl : j = 0 := by omega
    have := Lib.bytesWorld_cell w 5 (strB s) i hi
    simp only [Nat.zero_add, Nat.mul_one, Nat.add_zero]
    exact this
  · exact ⟨rfl, rfl, rfl, by rw [Lib.bytesWorld_size]; omega, fun k hk => Lib.bytesWorld_at_old w _ _ k hk⟩

end Go.Proofs.Ytmbifmmkccghfaa

/-
  The example of chapter 1. No condition.
-/
namespace Go.Proofs.Ytmbifmmkccghfaa
open Go.RowKit
attribute [local go_sem ↓ high] app_named

theorem RetDec.open {x : Val} {er : Int} {w : World} {e : Ending} {w' : World} (h : RetDec (x, er) w e w') : ∃ A c, e = .returned (.tuple #[.agg #[.int .i64 x.kind, .int .i64 x.num, .string (strB x.str), .slice A x.elems.length c], .int .i64 er]) ∧ ValsP w' (fun b => w.heap.size ≤ b) 16 (.slice A x.elems.length c) x.elems ∧ Below w.heap.size w w' := by
  obtain ⟨L, rfl, h1, h2⟩ := h
  obtain ⟨A, c, hv, _⟩ := h1.form
  dsimp only at hv h1 ⊢
  subst hv
  exact ⟨A, c, rfl, h1, h2⟩
end Go.Proofs.Ytmbifmmkccghfaa

/-
  The laws CodecEncodeSpec and CodecSameSpec. (Printed by gen_ge.py.)
-/
namespace Go.Proofs.Ytmbifmmkccghfaa
open Go.RowKit
attribute [local go_sem ↓ high] app_named

def Any : Nat → Prop := fun _ => True
theorem RetEnc.open {T : Bs} {er : Int} {n : Nat} {w : World} {e : Ending} {w' : World} (h : RetEnc (T, er) w e w') (hn : Hid (T.length = n)) : ∃ A c, e = .returned (.tuple #[.slice A n c, .int .i64 er]) ∧ Hid (BsAt w' Any (.slice A n c) T) ∧ Below w.heap.size w w' := by
  obtain ⟨V, rfl, h1, h2⟩ := h
  obtain ⟨A, c, hv, _⟩ := h1.form
  dsimp only at hv h1 ⊢
  subst hv
  rw [hn.out] at h1 ⊢
  exact ⟨A, c, rfl, Lib.hid (h1.weak fun _ _ _ => trivial), h2⟩
theorem Later.str {W : World} {S : Nat → Prop} {v : Value} {l : Bs} (h : BsAt W S v l) (u : Later W) : (convert 43 9 v).run Try.prog u.w = .ok (.string (strB l)) u.w := (h.keep (Keeps.of u.below)).str
end Go.Proofs.Ytmbifmmkccghfaa

/-
  The reference's reader: next and number. No condition.
-/
namespace Go.Proofs.Ytmbifmmkccghfaa
open Go.RowKit

def Rc (w : World) (D rb : Nat) (A : Option Addr) (n c : Nat) (l : Bs) (p : Nat) (bd : Bool) : Prop := Box w rb [.slice A n c, .int .i64 p, .bool bd] ∧ BsAt w (fun b => b < D ∧ b ≠ rb) (.slice A n c) l ∧ l.length = n ∧ p ≤ n
theorem Rc.keep {w w' : World} {D rb n c p : Nat} {A : Option Addr} {l : Bs} {bd : Bool} (h : Rc w D rb A n c l p bd) (hb : Below w.heap.size w w') : Rc w' D rb A n c l p bd := ⟨h.1.later hb, h.2.1.keep (Keeps.of hb), h.2.2⟩
theorem Rc.keepG {w w' : World} {D rb n c p : Nat} {A : Option Addr} {l : Bs} {bd : Bool} {r : Option Nat} (h : Rc w D rb A n c l p bd) (hg : w.grownBy w' r) (hr : ∀ k, r = some k → D ≤ k ∧ k ≠ rb) : Rc w' D rb A n c l p bd :=
  ⟨h.1.same (hg.block rb h.1.lt fun e => (hr rb e.symm).2 rfl), h.2.1.keep ⟨hg.size, fun b hb hl => hg.block b hl fun e => by have := (hr b e.symm).1; omega⟩, h.2.2⟩
theorem Rc.lt {w : World} {D rb n c p : Nat} {A : Option Addr} {l : Bs} {bd : Bool} (h : Rc w D rb A n c l p bd) : rb < w.heap.size := h.1.lt
theorem Rc.setAt {w : World} {D rb n c p q : Nat} {A : Option Addr} {l : Bs} {bd : Bool} (h : Rc w D rb A n c l p bd) (hq : q ≤ n) : Rc (w.setCell ⟨rb, 1, none⟩ (.int .i64 q)) D rb A n c l q bd :=
  ⟨h.1.set 1 _, h.2.1.keep ⟨by simp, fun b hb hl => Below.heap_setCell w ⟨rb, 1, none⟩ _ b hb.2⟩, h.2.2.1, hq⟩
theorem Rc.setAt1 {w : World} {D rb n c p : Nat} {A : Option Addr} {l : Bs} {bd : Bool} (h : Rc w D rb A n c l p bd) (hq : p < n) : Rc (w.setCell ⟨rb, 1, none⟩ (.int .i64 ((p : Int) + 1))) D rb A n c l (p + 1) bd := h.setAt (q := p + 1) hq
theorem Rc.drewN {w : World} {D rb n c p : Nat} {A : Option Addr} {l : Bs} {bd : Bool} (h : Rc w D rb A n c l p bd) (j : Nat) : Rc (w.drewN j) D rb A n c l p bd := h.keep (below_drewN (Below.refl w.heap.size w) j)
theorem Rc.setBad {w : World} {D rb n c p : Nat} {A : Option Addr} {l : Bs} {bd : Bool} (h : Rc w D rb A n c l p bd) (b2 : Bool) : Rc (w.setCell ⟨rb, 2, none⟩ (.bool b2)) D rb A n c l p b2 :=
  ⟨h.1.set 2 _, h.2.1.keep ⟨by simp, fun b hb hl => Below.heap_setCell w ⟨rb, 2, none⟩ _ b hb.2⟩, h.2.2⟩
theorem grown_drewN {w w' : World} {r : Option Nat} (h : w.grownBy w' r) (j : Nat) : w.grownBy (w'.drewN j) r := ⟨h.os, h.tape, h.output, h.size, h.block⟩

set_option maxRecDepth 100000 in
set_option maxHeartbeats 4000000 in
theorem next_yes (D rb n c p : Nat) (A : Option Addr) (l : Bs) (w : World) (h : Rc w D rb A n c l p false) (hp : p < n) : Calls Try.prog 86 #[.pointer (some ⟨rb, 0, none⟩)] w fun e w' => e = .returned (.int .u8 ((l.getD p 0).toNat : Int)) ∧ Rc w' D rb A n c l (p + 1) false ∧ w.grownBy w' (some rb) := by
  obtain ⟨b, off, rfl, ⟨hbD, hbr⟩, hb, hc⟩ := h.2.1.cell (k := p) (by rw [h.2.2.1]; exact hp)
  have hn2 : c ≤ maxLen ∧ n ≤ c := by
    obtain ⟨_, _, _, h1, h2, _⟩ := h.2.1.row (by omega)
    exact ⟨h2, h1⟩
  have hnm : n ≤ 9223372036854775807 := by unfold maxLen at hn2; omega
  clear hn2
  have x0 : w.cell? ⟨rb, 0, none⟩ = some (.slice (some ⟨b, off, none⟩) n c) := h.1.cell 0
  have x1 : w.cell? ⟨rb, 1, none⟩ = some (.int .i64 p) := h.1.cell 1
  have f1 : w.frozen? ⟨rb, 1, none⟩ = false := h.1.free 1
  have hz := h.lt
  have hd : decide ((n : Int) ≤ (p : Int)) = false := decide_eq_false (by omega)
  have h2 := Lib.hid h
  have hne : ¬ b = rb := hbr
  clear h
  go_enter Try.func86, Try.ntmps86
  go_wp2
  go_quiet (fail)
  go_wp2_with fail
  have h3 := Lib.hid ((h2.out.drewN nq).setAt1 hp)
  have g3 : Hid (w.grownBy ((w.drewN nq).setCell ⟨rb, 1, none⟩ (.int .i64 ((p : Int) + 1))) (some rb)) := Lib.hid (grown_two (grown_drewN (grownBy_refl w _) nq) (grownBy_set (a := ⟨rb, 1, none⟩) _))
  have hc3 : ((w.drewN nq).setCell ⟨rb, 1, none⟩ (.int .i64 ((p : Int) + 1))).cell? ⟨b, off + p, none⟩ = some (.int .u8 ((l.getD p 0).toNat : Int)) := by
    obtain ⟨b2, off2, e, _, _, h⟩ := h3.out.2.1.cell (k := p) (by rw [h3.out.2.2.1]; exact hp)
    cases e
    exact h
  generalize (w.drewN nq).setCell ⟨rb, 1, none⟩ (.int .i64 ((p : Int) + 1)) = W at h3 g3 hc3 ⊢
  clear hc x0 x1 f1 hz hd h2 hb
  have x0 : W.cell? ⟨rb, 0, none⟩ = some (.slice (some ⟨b, off, none⟩) n c) := h3.out.1.cell 0
  have x1 : W.cell? ⟨rb, 1, none⟩ = some (.int .i64 ((p : Int) + 1)) := h3.out.1.cell 1
  have hz := h3.out.lt
  have hlt : (p : Int) < (n : Int) := by omega
  have hwp : IntKind.i64.wrap (p : Int) = (p : Int) := by simp [IntKind.wrap, IntKind.bits, IntKind.signed]; omega
  go_quiet (fail)
  go_wp2_with fail
  go_ret
  exact ⟨rfl, h3.out.drewN _, grown_drewN g3.out _⟩

set_option maxRecDepth 100000 in
set_option maxHeartbeats 4000000 in
theorem next_no (D rb n c p : Nat) (A : Option Addr) (l : Bs) (w : World) (h : Rc w D rb A n c l p false) (hp : p = n) : Calls Try.prog 86 #[.pointer (some ⟨rb, 0, none⟩)] w fun e w' => e = .returned (.int .u8 0) ∧ Rc w' D rb A n c l p true ∧ w.grownBy w' (some rb) := by
  have x0 : w.cell? ⟨rb, 0, none⟩ = some (.slice A n c) := h.1.cell 0
  have x1 : w.cell? ⟨rb, 1, none⟩ = some (.int .i64 p) := h.1.cell 1
  have f2 : w.frozen? ⟨rb, 2, none⟩ = false := h.1.free 2
  have x2 : w.cell? ⟨rb, 2, none⟩ = some (.bool false) := h.1.cell 2
  have hz := h.lt
  have hd : decide ((n : Int) ≤ (p : Int)) = true := decide_eq_true (by omega)
  have h2 := Lib.hid h
  clear h
  go_enter Try.func86, Try.ntmps86
  go_wp2
  go_quiet (fail)
  go_wp2_with fail
  go_ret
  exact ⟨rfl, (h2.out.drewN _).setBad true, grown_two (grown_drewN (grownBy_refl w _) _) (grownBy_set (a := ⟨rb, 2, none⟩) _)⟩

def RetNumR (t : Option (Nat × Bs)) (D rb : Nat) (A : Option Addr) (n c : Nat) (l : Bs) (w : World) (e : Ending) (w' : World) : Prop :=
  w.grownBy w' (some rb) ∧ match t with
  | some (u, r) => e = .returned (.int .u64 u) ∧ ∃ p, l.drop p = r ∧ Rc w' D rb A n c l p false
  | none => e = .returned (.int .u64 0) ∧ ∃ p, Rc w' D rb A n c l p true
theorem drop_nil_iff {l : Bs} {p n : Nat} (hn : l.length = n) (hp : p ≤ n) (h : l.drop p = []) : p = n := by
  have := List.drop_eq_nil_iff.1 h
  omega
theorem drop_cons_lt {l : Bs} {p n : Nat} {c : UInt8} {t : Bs} (hn : l.length = n) (h : l.drop p = c :: t) : p < n ∧ l.getD p 0 = c ∧ l.drop (p + 1) = t := by
  have h1 : p < l.length := by
    rcases Nat.lt_or_ge p l.length with h1 | h1
    · exact h1
    · rw [List.drop_eq_nil_iff.2 h1] at h; cases h
  rw [List.drop_eq_getElem_cons h1] at h
  injection h with h2 h3
  refine ⟨by omega, ?_, h3⟩
  rw [List.getD_eq_getElem?_getD, List.getElem?_eq_getElem h1]
  exact h2
theorem accR {acc k cn : Nat} (h2 : acc + cn % 128 * 128 ^ k < 18446744073709551616) (h3 : cn % 128 * 128 ^ k < 18446744073709551616) : IntKind.u64.wrap ((acc : Int) + IntKind.u64.wrap ((cn : Int) % 128 * 2 ^ (7 * k))) = ((acc + cn % 128 * 128 ^ k : Nat) : Int) := by
  have hpw : (2 : Int) ^ (7 * k) = ((128 ^ k : Nat) : Int) := by
    rw [Int.pow_mul]
    have : (2 : Int) ^ 7 = ((128 : Nat) : Int) := by decide
    rw [this, Int.natCast_pow]
  have e1 : (cn : Int) % 128 = ((cn % 128 : Nat) : Int) := by omega
  rw [hpw, e1, ← Int.natCast_mul, wrap_u64', wrap_u64']
  have e2 : ((cn % 128 * 128 ^ k : Nat) : Int) % 18446744073709551616 = ((cn % 128 * 128 ^ k : Nat) : Int) := by omega
  rw [e2]
  omega

set_option maxRecDepth 100000 in
set_option maxHeartbeats 4000000 in
theorem numberR_any (D rb n c : Nat) (A : Option Addr) (l : Bs) (p0 : Nat) (w : World) (h : Rc w D rb A n c l p0 false) (T : Option (Nat × Bs)) (hT : Hid (rdNum 0 0 (l.drop p0) = T)) : Calls Try.prog 87 #[.pointer (some ⟨rb, 0, none⟩)] w (RetNumR T D rb A n c l w) := by
  have hR := Lib.hid h
  have hG := Lib.hid (grownBy_refl w (some rb))
  clear h
  go_enter Try.func87, Try.ntmps87
  go_wp2
  go_loopw [3, 4] (fun u i wr => ∃ (k acc p : Nat), k ≤ 9 ∧ acc < 9223372036854775808 ∧ i = .int .i64 k ∧ u = .int .u64 acc ∧ Hid (acc < 128 ^ k) ∧ Hid (rdNum k acc (l.drop p) = T) ∧ Hid (Rc wr D rb A n c l p false) ∧ Hid (w.grownBy wr (some rb))) (fun _ i _ => 10 - (intOf i).toNat)
  case atStart => exact ⟨0, 0, p0, by omega, by omega, rfl, rfl, Lib.hid (by decide), hT, hR, hG⟩
  case round =>
    clear hT hR hG
    obtain ⟨k, acc, p, hk, hacc0, rfl, rfl, hacc, hT, hR, hG⟩ := hrel
    have y2 : wr.cell? ⟨rb, 2, none⟩ = some (.bool false) := hR.out.1.cell 2
    have yz := hR.out.lt
    rcases hq : l.drop p with _ | ⟨x, t⟩
    · have hp := drop_nil_iff hR.out.2.2.1 hR.out.2.2.2 hq
      go_wp2_with fail
      clear y2 yz
      refine (next_no D rb n c p A l _ hR.out hp).mono ?_
      rintro e w1 ⟨rfl, hR1, hg⟩
      have HF : Hid (RetNumR T D rb A n c l w (.returned (.int .u64 0)) (w1.setCell ⟨rb, 2, none⟩ (.bool true))) := by
        rw [← hT.out, hq]
        exact ⟨grown_two (grown_two hG.out hg) (grownBy_set (a := ⟨rb, 2, none⟩) _), rfl, p, hR1.setBad true⟩
      have HF2 : Hid (k = 0 → RetNumR T D rb A n c l w (.returned (.int .u64 0)) w1) := by
        intro _
        rw [← hT.out, hq]
        exact ⟨grown_two hG.out hg, rfl, p, hR1⟩
      have z2 : w1.cell? ⟨rb, 2, none⟩ = some (.bool true) := hR1.1.cell 2
      have f2 := hR1.1.free 2
      have zz := hR1.lt
      clear hg hR1 hR hG hT
      by_cases hk0 : k = 0
      · subst hk0
        have HF3 := HF2.out rfl
        obtain rfl : acc = 0 := by have := hacc.out; simp at this; exact this
        clear HF HF2
        go_wp2
        go_ret
        exact HF3
      · have e0 : decide ((0 : Int) < (k : Int)) = true := decide_eq_true (by omega)
        clear HF2
        go_wp2
        all_goals
          go_ret
          exact HF.out
    · obtain ⟨hpn, hpx, hpt⟩ := drop_cons_lt hR.out.2.2.1 hq
      have hxn : x.toNat < 256 := x.toNat_lt
      go_wp2_with fail
      clear y2 yz
      refine (next_yes D rb n c p A l _ hR.out hpn).mono ?_
      rintro e w1 ⟨rfl, hR1, hg⟩
      rw [hpx]
      have hnn := hR1.2.2.2
      have hbad : ¬ ((k = 0 ∨ x.toNat ≠ 0) ∧ (k < 9 ∨ x.toNat ≤ 1)) → Hid (none = T) := fun h => (rdNum_bad h).symm.trans (by rw [← hT.out, hq])
      have hend : (k = 0 ∨ x.toNat ≠ 0) ∧ (k < 9 ∨ x.toNat ≤ 1) → x.toNat < 128 → Hid (some (acc + x.toNat % 128 * 128 ^ k, t) = T) := fun h1 h2 => (rdNum_end h1 h2).symm.trans (by rw [← hT.out, hq])
      have hgo : (k = 0 ∨ x.toNat ≠ 0) ∧ (k < 9 ∨ x.toNat ≤ 1) → ¬ x.toNat < 128 → Hid (rdNum (k + 1) (acc + x.toNat % 128 * 128 ^ k) t = T) := fun h1 h2 => (rdNum_go h1 h2).symm.trans (by rw [← hT.out, hq])
      have HR1 := Lib.hid hR1
      have HG1 := Lib.hid (grown_two hG.out hg)
      have HPT := Lib.hid hpt
      clear hT hq hR hG hg hR1 hpx hpt
      generalize x.toNat = cn at *
      have z2 : w1.cell? ⟨rb, 2, none⟩ = some (.bool false) := HR1.out.1.cell 2
      have f2 := HR1.out.1.free 2
      have zz := HR1.out.lt
      rcases (show (k = 9 ∧ 1 < cn) ∨ (k = 9 ∧ cn = 0) ∨ (0 < k ∧ k < 9 ∧ cn = 0) ∨ k = 0 ∨ (0 < k ∧ k < 9 ∧ cn ≠ 0) ∨ (k = 9 ∧ cn = 1) by omega) with h | h | h | h | h | h
      · have e1 : ((k : Int) == 9) = true := by simp; omega
        have e2 : decide ((1 : Int) < (cn : Int)) = true := by simp; omega
        have HF : Hid (RetNumR T D rb A n c l w (.returned (.int .u64 0)) (w1.setCell ⟨rb, 2, none⟩ (.bool true))) := by
          rw [← (hbad (by omega)).out]
          exact ⟨grown_two HG1.out (grownBy_set (a := ⟨rb, 2, none⟩) _), rfl, p + 1, HR1.out.setBad true⟩
        clear hbad hend hgo HR1 HG1 h
        go_wp2
        go_ret
        exact HF.out
      · have e1 : ((k : Int) == 9) = true := by simp; omega
        have e2 : decide ((1 : Int) < (cn : Int)) = false := by simp; omega
        have e3 : decide ((0 : Int) < (k : Int)) = true := by simp; omega
        have e5 : 0 < k := by omega
        have e4 : ((cn : Int) == 0) = true := by simp; omega
        have HF : Hid (RetNumR T D rb A n c l w (.returned (.int .u64 0)) (w1.setCell ⟨rb, 2, none⟩ (.bool true))) := by
          rw [← (hbad (by omega)).out]
          exact ⟨grown_two HG1.out (grownBy_set (a := ⟨rb, 2, none⟩) _), rfl, p + 1, HR1.out.setBad true⟩
        clear hbad hend hgo HR1 HG1 h
        go_wp2
        go_ret
        exact HF.out
      · have e1 : ((k : Int) == 9) = false := by simp; omega
        have e3 : decide ((0 : Int) < (k : Int)) = true := by simp; omega
        have e5 : 0 < k := by omega
        have e4 : ((cn : Int) == 0) = true := by simp; omega
        have HF : Hid (RetNumR T D rb A n c l w (.returned (.int .u64 0)) (w1.setCell ⟨rb, 2, none⟩ (.bool true))) := by
          rw [← (hbad (by omega)).out]
          exact ⟨grown_two HG1.out (grownBy_set (a := ⟨rb, 2, none⟩) _), rfl, p + 1, HR1.out.setBad true⟩
        clear hbad hend hgo HR1 HG1 h
        go_wp2
        go_ret
        exact HF.out
      · have e1 : ((k : Int) == 9) = false := by simp; omega
        have e3 : decide ((0 : Int) < (k : Int)) = false := by simp; omega
        have e5 : ¬ 0 < k := by omega
        have HE := hend (by omega)
        have HGO := hgo (by omega)
        obtain ⟨hs1, hs2, hs3⟩ := acc_step hk hacc.out (by omega) hxn
        have HS := Lib.hid (accR (acc := acc) (k := k) hs2 hs3)
        have hk9 : k < 9 := by omega
        clear hbad hend hgo z2 f2 zz h hs3
        by_cases h128 : cn < 128
        · have HR : Hid (RetNumR T D rb A n c l w (.returned (.int .u64 ((acc + cn % 128 * 128 ^ k : Nat) : Int))) w1) := by
            rw [← HE h128]
            exact ⟨HG1.out, rfl, p + 1, HPT.out, HR1.out⟩
          clear HE HGO HR1 HG1 hs1 hs2
          go_wp2
          go_ret
          have h := HR.out
          rw [← HS.out] at h
          exact h
        · have hs1' := hs1 (by omega)
          have hp := pow_le9 (show k + 1 ≤ 9 by omega)
          have hs3 : acc + cn % 128 * 128 ^ k < 9223372036854775808 := by omega
          have HS2 := Lib.hid hs1'
          clear hs1 hs1' hp
          have HN := HGO h128
          rw [← HPT.out] at HN
          clear HE HGO HPT hs2
          go_wp2
          exact ⟨⟨k + 1, _, p + 1, by omega, hs3, by go_num, by rw [HS.out], HS2, HN, HR1, HG1⟩, by simp [intOf]; omega⟩
      · have e1 : ((k : Int) == 9) = false := by simp; omega
        have e3 : decide ((0 : Int) < (k : Int)) = true := by simp; omega
        have e5 : 0 < k := by omega
        have e4 : ((cn : Int) == 0) = false := by simp; omega
        have HE := hend (by omega)
        have HGO := hgo (by omega)
        obtain ⟨hs1, hs2, hs3⟩ := acc_step hk hacc.out (by omega) hxn
        have HS := Lib.hid (accR (acc := acc) (k := k) hs2 hs3)
        have hk9 : k < 9 := by omega
        clear hbad hend hgo z2 f2 zz h hs3
        by_cases h128 : cn < 128
        · have HR : Hid (RetNumR T D rb A n c l w (.returned (.int .u64 ((acc + cn % 128 * 128 ^ k : Nat) : Int))) w1) := by
            rw [← HE h128]
            exact ⟨HG1.out, rfl, p + 1, HPT.out, HR1.out⟩
          clear HE HGO HR1 HG1 hs1 hs2
          go_wp2
          go_ret
          have h := HR.out
          rw [← HS.out] at h
          exact h
        · have hs1' := hs1 (by omega)
          have hp := pow_le9 (show k + 1 ≤ 9 by omega)
          have hs3 : acc + cn % 128 * 128 ^ k < 9223372036854775808 := by omega
          have HS2 := Lib.hid hs1'
          clear hs1 hs1' hp
          have HN := HGO h128
          rw [← HPT.out] at HN
          clear HE HGO HPT hs2
          go_wp2
          exact ⟨⟨k + 1, _, p + 1, by omega, hs3, by go_num, by rw [HS.out], HS2, HN, HR1, HG1⟩, by simp [intOf]; omega⟩
      · have e1 : ((k : Int) == 9) = true := by simp; omega
        have e2 : decide ((1 : Int) < (cn : Int)) = false := by simp; omega
        have e3 : decide ((0 : Int) < (k : Int)) = true := by simp; omega
        have e5 : 0 < k := by omega
        have e4 : ((cn : Int) == 0) = false := by simp; omega
        have HE := hend (by omega)
        have HGO := hgo (by omega)
        obtain ⟨hs1, hs2, hs3⟩ := acc_step hk hacc.out (by omega) hxn
        have HS := Lib.hid (accR (acc := acc) (k := k) hs2 hs3)
        have hc1 := Lib.hid (show cn = 1 by omega)
        clear hbad hend hgo z2 f2 zz h hs3
        by_cases h128 : cn < 128
        · have HR : Hid (RetNumR T D rb A n c l w (.returned (.int .u64 ((acc + cn % 128 * 128 ^ k : Nat) : Int))) w1) := by
            rw [← HE h128]
            exact ⟨HG1.out, rfl, p + 1, HPT.out, HR1.out⟩
          clear HE HGO HR1 HG1 hs1 hs2
          go_wp2
          go_ret
          have h := HR.out
          rw [← HS.out] at h
          exact h
        · exact absurd hc1.out (by omega)

end Go.Proofs.Ytmbifmmkccghfaa

/-
  The reference's reader: Value: all but lists. (Printed by gen_gl.py.)
-/
namespace Go.Proofs.Ytmbifmmkccghfaa
open Go.RowKit
attribute [local go_sem ↓ high] app_named

def RetV (t : Option (Val × Bs)) (m D rb : Nat) (A : Option Addr) (n c : Nat) (l : Bs) (w : World) (e : Ending) (w' : World) : Prop :=
  w.grownBy w' (some rb) ∧ ∃ (x : Val) (L : Value) (p : Nat) (bd : Bool), e = .returned (x.v L) ∧ ValsP w' (fun b => w.heap.size ≤ b) m L x.elems ∧ Rc w' D rb A n c l p bd ∧ match t with
  | some (y, r) => bd = false ∧ x = y ∧ l.drop p = r
  | none => bd = true
theorem RetNumR.any {t : Option (Nat × Bs)} {D rb n c : Nat} {A : Option Addr} {l : Bs} {w : World} {e : Ending} {w' : World} (ht : ∀ y r, t = some (y, r) → y < 18446744073709551616) (h : RetNumR t D rb A n c l w e w') : ∃ (u p : Nat) (bd : Bool), e = .returned (.int .u64 u) ∧ Rc w' D rb A n c l p bd ∧ w.grownBy w' (some rb) ∧ u < 18446744073709551616 ∧ (∀ y r, t = some (y, r) → u = y ∧ bd = false ∧ l.drop p = r) ∧ (t = none → bd = true) := by
  obtain ⟨hg, h⟩ := h
  rcases t with _ | ⟨y, r⟩
  · obtain ⟨rfl, p, hR⟩ := h
    exact ⟨0, p, true, rfl, hR, hg, by decide, fun y r h => (by cases h), fun _ => rfl⟩
  · obtain ⟨rfl, p, hp, hR⟩ := h
    exact ⟨y, p, false, rfl, hR, hg, ht y r rfl, fun y1 r1 h => (by cases h; exact ⟨rfl, rfl, hp⟩), fun h => (by cases h)⟩
theorem Rc.setX {w : World} {D rb n c p : Nat} {A : Option Addr} {l : Bs} {bd : Bool} (h : Rc w D rb A n c l p bd) {a : Addr} (h1 : D ≤ a.block) (h2 : a.block ≠ rb) (v : Value) : Rc (w.setCell a v) D rb A n c l p bd :=
  h.keepG (grownBy_set (w := w) (a := a) v) fun k hk => by injection hk with hk; subst hk; exact ⟨h1, h2⟩
theorem fin_value {w wp : World} {D rb n c p m : Nat} {A : Option Addr} {l : Bs} {bd : Bool} {xs : List Value} {L : Value} {es : List Val} (X : Box wp w.heap.size xs) (HG : w.grownBy wp (some rb)) (HR : Rc wp D rb A n c l p bd) (HV : ValsP wp (fun b => w.heap.size + 1 ≤ b) m L es) (hD : D ≤ w.heap.size) (hne : w.heap.size ≠ rb) (a0 a1 a2 a3 : Value) :
    Box ((((wp.setCell ⟨w.heap.size, 0, none⟩ a0).setCell ⟨w.heap.size, 1, none⟩ a1).setCell ⟨w.heap.size, 2, none⟩ a2).setCell ⟨w.heap.size, 3, none⟩ a3) w.heap.size ((((xs.set 0 a0).set 1 a1).set 2 a2).set 3 a3) ∧ w.grownBy ((((wp.setCell ⟨w.heap.size, 0, none⟩ a0).setCell ⟨w.heap.size, 1, none⟩ a1).setCell ⟨w.heap.size, 2, none⟩ a2).setCell ⟨w.heap.size, 3, none⟩ a3) (some rb) ∧ Rc ((((wp.setCell ⟨w.heap.size, 0, none⟩ a0).setCell ⟨w.heap.size, 1, none⟩ a1).setCell ⟨w.heap.size, 2, none⟩ a2).setCell ⟨w.heap.size, 3, none⟩ a3) D rb A n c l p bd ∧ ValsP ((((wp.setCell ⟨w.heap.size, 0, none⟩ a0).setCell ⟨w.heap.size, 1, none⟩ a1).setCell ⟨w.heap.size, 2, none⟩ a2).setCell ⟨w.heap.size, 3, none⟩ a3) (fun b => w.heap.size ≤ b) m L es := by
  refine ⟨(((X.set 0 a0).set 1 a1).set 2 a2).set 3 a3, ?_, (((HR.setX (a := ⟨w.heap.size, 0, none⟩) hD hne a0).setX (a := ⟨w.heap.size, 1, none⟩) hD hne a1).setX (a := ⟨w.heap.size, 2, none⟩) hD hne a2).setX (a := ⟨w.heap.size, 3, none⟩) hD hne a3, ?_⟩
  · exact grown_set (grown_set (grown_set (grown_set HG (a := ⟨w.heap.size, 0, none⟩) (Nat.le_refl _) a0) (a := ⟨w.heap.size, 1, none⟩) (Nat.le_refl _) a1) (a := ⟨w.heap.size, 2, none⟩) (Nat.le_refl _) a2) (a := ⟨w.heap.size, 3, none⟩) (Nat.le_refl _) a3
  · have no : ∀ j : Nat, ¬ (w.heap.size + 1 ≤ (⟨w.heap.size, j, none⟩ : Addr).block) := fun j hj => by
      have : w.heap.size + 1 ≤ w.heap.size := hj
      omega
    exact (((((HV.set (a := ⟨w.heap.size, 0, none⟩) (no 0) a0).set (a := ⟨w.heap.size, 1, none⟩) (no 1) a1).set (a := ⟨w.heap.size, 2, none⟩) (no 2) a2).set (a := ⟨w.heap.size, 3, none⟩) (no 3) a3).weak fun b hb _ => Nat.le_of_succ_le hb)

set_option maxRecDepth 100000 in
set_option maxHeartbeats 4000000 in
theorem valueR_0 (D rb n c p0 : Nat) (A : Option Addr) (l : Bs) (w : World) (h : Rc w D rb A n c l p0 false) (hD : D ≤ w.heap.size) (dep : Int) (m : Nat) (hp : p0 = n) : Calls Try.prog 67 #[.pointer (some ⟨rb, 0, none⟩), .int .i64 dep] w (RetV (none) (m) D rb A n c l w) := by
  have hst := (Below.refl w.heap.size w).alloc (Nat.le_refl _) (.cells #[.int .i64 0, .int .i64 0, .string ⟨#[]⟩, .slice none 0 0] 85)
  have X := Box.new w [.int .i64 0, .int .i64 0, .string ⟨#[]⟩, .slice none 0 0] 85
  have hrb := h.lt
  have HR := Lib.hid (h.keep hst)
  have ST := Lib.hid hst
  have HD := Lib.hid hD
  have hne : rb ≠ w.heap.size := by omega
  have hne' : w.heap.size ≠ rb := by omega
  clear hst h hD
  go_enter Try.func67, Try.ntmps67
  go_wp2_with fail
  refine (next_no D rb n c p0 A l _ HR.out hp).mono ?_
  rintro e w1 ⟨rfl, hR1, hg⟩
  have X1 := X.same (hg.block _ X.lt (by intro e; injection e with e; omega))
  have HG1 := Lib.hid (grown_of ST.out hg)
  have HR1 := Lib.hid hR1
  clear hg hR1 X HR ST
  have y2 : w1.cell? ⟨rb, 2, none⟩ = some (.bool true) := HR1.out.1.cell 2
  have yf := HR1.out.1.free 2
  have yz := HR1.out.lt
  have xf0 := X1.free 0
  have xc0 : w1.cell? ⟨w.heap.size, 0, none⟩ = some (.int .i64 0) := X1.cell 0
  have xf1 := X1.free 1
  have xc1 : w1.cell? ⟨w.heap.size, 1, none⟩ = some (.int .i64 0) := X1.cell 1
  have xf2 := X1.free 2
  have xc2 : w1.cell? ⟨w.heap.size, 2, none⟩ = some (.string ⟨#[]⟩) := X1.cell 2
  have xf3 := X1.free 3
  have xc3 : w1.cell? ⟨w.heap.size, 3, none⟩ = some (.slice none 0 0) := X1.cell 3
  have xz := X1.lt
  go_wp2
  clear y2 yf yz xf0 xf1 xf2 xf3 xz xc0 xc1 xc2 xc3
  have X2 := X1.other (a := ⟨rb, 2, none⟩) hne' (.bool true)
  have HG2 := grown_two HG1.out (grownBy_set (a := ⟨rb, 2, none⟩) (.bool true))
  have HR2 := HR1.out.setBad true
  obtain ⟨XZ, HGZ, HRZ, HVZ⟩ := fin_value X2 HG2 HR2 (valsP_nil _ _ m) HD.out hne' (.int .i64 0) (.int .i64 0) (.string ⟨#[]⟩) (.slice none 0 0)
  generalize (((((w1.setCell ⟨rb, 2, none⟩ (.bool true)).setCell ⟨w.heap.size, 0, none⟩ (.int .i64 0)).setCell ⟨w.heap.size, 1, none⟩ (.int .i64 0)).setCell ⟨w.heap.size, 2, none⟩ (.string ⟨#[]⟩)).setCell ⟨w.heap.size, 3, none⟩ (.slice none 0 0)) = Z at XZ HGZ HRZ HVZ ⊢
  have z0 : Z.cell? ⟨w.heap.size, 0, none⟩ = some (.int .i64 0) := XZ.cell 0
  have z1 : Z.cell? ⟨w.heap.size, 1, none⟩ = some (.int .i64 0) := XZ.cell 1
  have z2 : Z.cell? ⟨w.heap.size, 2, none⟩ = some (.string ⟨#[]⟩) := XZ.cell 2
  have z3 : Z.cell? ⟨w.heap.size, 3, none⟩ = some (.slice none 0 0) := XZ.cell 3
  refine bodyPost_ret (v := .agg #[.int .i64 0, .int .i64 0, .string ⟨#[]⟩, .slice none 0 0]) (by simp [results, Try.results67, go_sem, z0, z1, z2, z3]) rfl ?_
  exact ⟨HGZ, Val.zero, _, _, _, rfl, HVZ, HRZ, rfl⟩

set_option maxRecDepth 100000 in
set_option maxHeartbeats 4000000 in
theorem valueR_x (D rb n c p0 : Nat) (A : Option Addr) (l : Bs) (w : World) (h : Rc w D rb A n c l p0 false) (hD : D ≤ w.heap.size) (dep : Int) (m : Nat) (b0 : UInt8) (t : Bs) (hq : l.drop p0 = b0 :: t) (h1 : b0.toNat ≠ 1) (h2 : b0.toNat ≠ 2) (h3 : b0.toNat ≠ 3) : Calls Try.prog 67 #[.pointer (some ⟨rb, 0, none⟩), .int .i64 dep] w (RetV (none) (m) D rb A n c l w) := by
  have hst := (Below.refl w.heap.size w).alloc (Nat.le_refl _) (.cells #[.int .i64 0, .int .i64 0, .string ⟨#[]⟩, .slice none 0 0] 85)
  have X := Box.new w [.int .i64 0, .int .i64 0, .string ⟨#[]⟩, .slice none 0 0] 85
  have hrb := h.lt
  have HR := Lib.hid (h.keep hst)
  have ST := Lib.hid hst
  have HD := Lib.hid hD
  have hne : rb ≠ w.heap.size := by omega
  have hne' : w.heap.size ≠ rb := by omega
  obtain ⟨hpn, hpx, hpt⟩ := drop_cons_lt h.2.2.1 hq
  clear hst h hD
  go_enter Try.func67, Try.ntmps67
  go_wp2_with fail
  refine (next_yes D rb n c p0 A l _ HR.out hpn).mono ?_
  rintro e w1 ⟨rfl, hR1, hg⟩
  rw [hpx]
  have X1 := X.same (hg.block _ X.lt (by intro e; injection e with e; omega))
  have HG1 := Lib.hid (grown_of ST.out hg)
  have HR1 := Lib.hid hR1
  replace hpt := Lib.hid hpt
  clear hg hR1 X HR ST hpx
  have y2 : w1.cell? ⟨rb, 2, none⟩ = some (.bool false) := HR1.out.1.cell 2
  have yf := HR1.out.1.free 2
  have yz := HR1.out.lt
  generalize b0.toNat = bn at h1 h2 h3 ⊢
  have e1 : ((bn : Int) == 1) = false := by simp; omega
  have e2 : ((bn : Int) == 2) = false := by simp; omega
  have e3 : ((bn : Int) == 3) = false := by simp; omega
  have xf0 := X1.free 0
  have xc0 : w1.cell? ⟨w.heap.size, 0, none⟩ = some (.int .i64 0) := X1.cell 0
  have xf1 := X1.free 1
  have xc1 : w1.cell? ⟨w.heap.size, 1, none⟩ = some (.int .i64 0) := X1.cell 1
  have xf2 := X1.free 2
  have xc2 : w1.cell? ⟨w.heap.size, 2, none⟩ = some (.string ⟨#[]⟩) := X1.cell 2
  have xf3 := X1.free 3
  have xc3 : w1.cell? ⟨w.heap.size, 3, none⟩ = some (.slice none 0 0) := X1.cell 3
  have xz := X1.lt
  go_wp2
  clear y2 yf yz xf0 xf1 xf2 xf3 xz xc0 xc1 xc2 xc3
  have X2 := X1.other (a := ⟨rb, 2, none⟩) hne' (.bool true)
  have HG2 := grown_two HG1.out (grownBy_set (a := ⟨rb, 2, none⟩) (.bool true))
  have HR2 := HR1.out.setBad true
  obtain ⟨XZ, HGZ, HRZ, HVZ⟩ := fin_value X2 HG2 HR2 (valsP_nil _ _ m) HD.out hne' (.int .i64 0) (.int .i64 0) (.string ⟨#[]⟩) (.slice none 0 0)
  generalize (((((w1.setCell ⟨rb, 2, none⟩ (.bool true)).setCell ⟨w.heap.size, 0, none⟩ (.int .i64 0)).setCell ⟨w.heap.size, 1, none⟩ (.int .i64 0)).setCell ⟨w.heap.size, 2, none⟩ (.string ⟨#[]⟩)).setCell ⟨w.heap.size, 3, none⟩ (.slice none 0 0)) = Z at XZ HGZ HRZ HVZ ⊢
  have z0 : Z.cell? ⟨w.heap.size, 0, none⟩ = some (.int .i64 0) := XZ.cell 0
  have z1 : Z.cell? ⟨w.heap.size, 1, none⟩ = some (.int .i64 0) := XZ.cell 1
  have z2 : Z.cell? ⟨w.heap.size, 2, none⟩ = some (.string ⟨#[]⟩) := XZ.cell 2
  have z3 : Z.cell? ⟨w.heap.size, 3, none⟩ = some (.slice none 0 0) := XZ.cell 3
  refine bodyPost_ret (v := .agg #[.int .i64 0, .int .i64 0, .string ⟨#[]⟩, .slice none 0 0]) (by simp [results, Try.results67, go_sem, z0, z1, z2, z3]) rfl ?_
  exact ⟨HGZ, Val.zero, _, _, _, rfl, HVZ, HRZ, rfl⟩

set_option maxRecDepth 100000 in
set_option maxHeartbeats 4000000 in
theorem valueR_1 (D rb n c p0 : Nat) (A : Option Addr) (l : Bs) (w : World) (h : Rc w D rb A n c l p0 false) (hD : D ≤ w.heap.size) (dep : Int) (m : Nat) (t : Bs) (hq : l.drop p0 = 1 :: t) : Calls Try.prog 67 #[.pointer (some ⟨rb, 0, none⟩), .int .i64 dep] w (RetV ((rdNum 0 0 t).map fun p => (Val.mk 1 (zag p.1) [] [], p.2)) (m) D rb A n c l w) := by
  have hst := (Below.refl w.heap.size w).alloc (Nat.le_refl _) (.cells #[.int .i64 0, .int .i64 0, .string ⟨#[]⟩, .slice none 0 0] 85)
  have X := Box.new w [.int .i64 0, .int .i64 0, .string ⟨#[]⟩, .slice none 0 0] 85
  have hrb := h.lt
  have HR := Lib.hid (h.keep hst)
  have ST := Lib.hid hst
  have HD := Lib.hid hD
  have hne : rb ≠ w.heap.size := by omega
  have hne' : w.heap.size ≠ rb := by omega
  obtain ⟨hpn, hpx, hpt⟩ := drop_cons_lt h.2.2.1 hq
  clear hst h hD
  go_enter Try.func67, Try.ntmps67
  go_wp2_with fail
  refine (next_yes D rb n c p0 A l _ HR.out hpn).mono ?_
  rintro e w1 ⟨rfl, hR1, hg⟩
  rw [hpx]
  have X1 := X.same (hg.block _ X.lt (by intro e; injection e with e; omega))
  have HG1 := Lib.hid (grown_of ST.out hg)
  have HR1 := Lib.hid hR1
  replace hpt := Lib.hid hpt
  clear hg hR1 X HR ST hpx
  have ht1 : ∀ y r, rdNum 0 0 (l.drop (p0 + 1)) = some (y, r) → y < 18446744073709551616 := fun y r h => (rdNum_lt (by omega) (by decide) h).1
  have HT1 := Lib.hid ht1
  clear ht1
  go_wp2_with fail
  refine (numberR_any D rb n c A l (p0 + 1) _ HR1.out _ rfl).mono ?_
  intro e w2 hret
  obtain ⟨u, p, bd, rfl, hR2, hg2, hu, hm1, hm2⟩ := hret.any HT1.out
  have X2 := X1.same (hg2.block _ X1.lt (by intro e; injection e with e; omega))
  have HG2 := Lib.hid (grown_two HG1.out hg2)
  have HR2 := Lib.hid hR2
  have HM : Hid (match (rdNum 0 0 t).map fun p => (Val.mk 1 (zag p.1) [] [], p.2) with | some (y, r) => bd = false ∧ Val.mk 1 (zag u) [] [] = y ∧ l.drop p = r | none => bd = true) := by
    rw [hpt.out] at hm1 hm2
    rcases hn : rdNum 0 0 t with _ | ⟨y, r⟩
    · exact hm2 hn
    · obtain ⟨h1, h2, h3⟩ := hm1 y r hn
      subst h1
      exact ⟨h2, rfl, h3⟩
  clear hret hR2 hg2 hm1 hm2 X1 HG1 HR1 HT1
  have xf0 := X2.free 0
  have xc0 : w2.cell? ⟨w.heap.size, 0, none⟩ = some (.int .i64 0) := X2.cell 0
  have xf1 := X2.free 1
  have xc1 : w2.cell? ⟨w.heap.size, 1, none⟩ = some (.int .i64 0) := X2.cell 1
  have xf2 := X2.free 2
  have xc2 : w2.cell? ⟨w.heap.size, 2, none⟩ = some (.string ⟨#[]⟩) := X2.cell 2
  have xf3 := X2.free 3
  have xc3 : w2.cell? ⟨w.heap.size, 3, none⟩ = some (.slice none 0 0) := X2.cell 3
  have xz := X2.lt
  rcases Nat.mod_two_eq_zero_or_one u with ho | ho
  · have hz : zag u = ((u / 2 : Nat) : Int) := by rw [zag, if_neg (by omega)]
    have e1 : ((u : Int) % 2 == 1) = false := by simp; omega
    rw [hz] at HM
    have e2 : (u : Int) / 2 = ((u / 2 : Nat) : Int) := by omega
    have hu2 : u / 2 ≤ 9223372036854775807 := by omega
    generalize u / 2 = v at *
    have e3 : IntKind.i64.wrap (v : Int) = (v : Int) := by simp [IntKind.wrap, IntKind.bits, IntKind.signed]; omega
    go_wp2
    clear xf0 xf1 xf2 xf3 xz xc0 xc1 xc2 xc3
    obtain ⟨XZ, HGZ, HRZ, HVZ⟩ := fin_value X2 HG2.out HR2.out (valsP_nil _ _ m) HD.out hne' (.int .i64 1) (.int .i64 (v : Int)) (.string ⟨#[]⟩) (.slice none 0 0)
    generalize ((((w2.setCell ⟨w.heap.size, 0, none⟩ (.int .i64 1)).setCell ⟨w.heap.size, 1, none⟩ (.int .i64 (v : Int))).setCell ⟨w.heap.size, 2, none⟩ (.string ⟨#[]⟩)).setCell ⟨w.heap.size, 3, none⟩ (.slice none 0 0)) = Z at XZ HGZ HRZ HVZ ⊢
    have z0 : Z.cell? ⟨w.heap.size, 0, none⟩ = some (.int .i64 1) := XZ.cell 0
    have z1 : Z.cell? ⟨w.heap.size, 1, none⟩ = some (.int .i64 (v : Int)) := XZ.cell 1
    have z2 : Z.cell? ⟨w.heap.size, 2, none⟩ = some (.string ⟨#[]⟩) := XZ.cell 2
    have z3 : Z.cell? ⟨w.heap.size, 3, none⟩ = some (.slice none 0 0) := XZ.cell 3
    refine bodyPost_ret (v := .agg #[.int .i64 1, .int .i64 (v : Int), .string ⟨#[]⟩, .slice none 0 0]) (by simp [results, Try.results67, go_sem, z0, z1, z2, z3]) rfl ?_
    exact ⟨HGZ, Val.mk 1 v [] [], _, _, _, rfl, HVZ, HRZ, HM.out⟩
  · have hz : zag u = -((u / 2 : Nat) : Int) - 1 := by rw [zag, if_pos ho]
    have e1 : ((u : Int) % 2 == 1) = true := by simp; omega
    rw [hz] at HM
    have e2 : (u : Int) / 2 = ((u / 2 : Nat) : Int) := by omega
    have hu2 : u / 2 ≤ 9223372036854775807 := by omega
    generalize u / 2 = v at *
    have e3 : IntKind.i64.wrap (v : Int) = (v : Int) := by simp [IntKind.wrap, IntKind.bits, IntKind.signed]; omega
    have e4 : IntKind.i64.wrap (-(v : Int)) = -(v : Int) := by simp [IntKind.wrap, IntKind.bits, IntKind.signed]; omega
    have e5 : IntKind.i64.wrap (-(v : Int) - 1) = -(v : Int) - 1 := by simp [IntKind.wrap, IntKind.bits, IntKind.signed]; omega
    go_wp2
    clear xf0 xf1 xf2 xf3 xz xc0 xc1 xc2 xc3
    obtain ⟨XZ, HGZ, HRZ, HVZ⟩ := fin_value X2 HG2.out HR2.out (valsP_nil _ _ m) HD.out hne' (.int .i64 1) (.int .i64 (-(v : Int) - 1)) (.string ⟨#[]⟩) (.slice none 0 0)
    generalize ((((w2.setCell ⟨w.heap.size, 0, none⟩ (.int .i64 1)).setCell ⟨w.heap.size, 1, none⟩ (.int .i64 (-(v : Int) - 1))).setCell ⟨w.heap.size, 2, none⟩ (.string ⟨#[]⟩)).setCell ⟨w.heap.size, 3, none⟩ (.slice none 0 0)) = Z at XZ HGZ HRZ HVZ ⊢
    have z0 : Z.cell? ⟨w.heap.size, 0, none⟩ = some (.int .i64 1) := XZ.cell 0
    have z1 : Z.cell? ⟨w.heap.size, 1, none⟩ = some (.int .i64 (-(v : Int) - 1)) := XZ.cell 1
    have z2 : Z.cell? ⟨w.heap.size, 2, none⟩ = some (.string ⟨#[]⟩) := XZ.cell 2
    have z3 : Z.cell? ⟨w.heap.size, 3, none⟩ = some (.slice none 0 0) := XZ.cell 3
    refine bodyPost_ret (v := .agg #[.int .i64 1, .int .i64 (-(v : Int) - 1), .string ⟨#[]⟩, .slice none 0 0]) (by simp [results, Try.results67, go_sem, z0, z1, z2, z3]) rfl ?_
    exact ⟨HGZ, Val.mk 1 (-(v : Int) - 1) [] [], _, _, _, rfl, HVZ, HRZ, HM.out⟩

end Go.Proofs.Ytmbifmmkccghfaa

/-
  The reference's reader: Value: texts. (Printed by gen_gl.py.)
-/
namespace Go.Proofs.Ytmbifmmkccghfaa
open Go.RowKit
attribute [local go_sem ↓ high] app_named

theorem grown_drew {w w' : World} {r : Option Nat} (h : w.grownBy w' r) : w.grownBy w'.drew r := ⟨h.os, h.tape, h.output, h.size, h.block⟩
theorem BsAt.cutTo {w : World} {S : Nat → Prop} {A : Option Addr} {n c : Nat} {l : Bs} (h : BsAt w S (.slice A n c) l) {m : Nat} (hm : m ≤ l.length) : BsAt w S (.slice A m c) (l.take m) := by
  obtain ⟨hf, A', c', hv, hn, h1⟩ := h
  have e1 : n = l.length := by injection hv
  have e2 : A' = A := by injection hv with h _ _; exact h.symm
  have e3 : c' = c := by injection hv with _ _ h; exact h.symm
  subst e2 e3
  refine ⟨?_, A', c', by rw [List.length_take, Nat.min_eq_left hm], by rw [List.length_take]; omega, fun i hi => ?_⟩
  · rcases hf with h2 | ⟨a, n', c'', h2, h3, h4⟩
    · injection h2 with h5 h6 h7
      subst h5 h7
      obtain rfl : m = 0 := by omega
      exact .inl rfl
    · injection h2 with h5 h6 h7
      subst h5 h7
      exact .inr ⟨a, m, _, rfl, by omega, h4⟩
  · rw [List.length_take] at hi
    obtain ⟨b, off, e, hS, hb, h3⟩ := h1 i (by omega)
    refine ⟨b, off, e, hS, hb, fun j hj => ?_⟩
    rw [h3 j hj]
    simp [List.getD_eq_getElem?_getD, show i < m by omega]
theorem Rc.text {w : World} {D rb n c p q u : Nat} {A : Option Addr} {l : Bs} {bd : Bool} (h : Rc w D rb A n c l q bd) (hp : p + u ≤ n) (h0 : 0 < n) : ∃ b off, A = some ⟨b, off, none⟩ ∧ n ≤ c ∧ c ≤ 9223372036854775807 ∧ (c = p → u = 0 ∧ (convert 43 9 (.slice (some ⟨b, off, none⟩) 0 0)).run Try.prog w = .ok (.string (strB ((l.drop p).take u))) w) ∧ (c ≠ p → (convert 43 9 (.slice (some ⟨b, off + p, none⟩) u (c - p))).run Try.prog w = .ok (.string (strB ((l.drop p).take u))) w) := by
  obtain ⟨_, hB, hl, hq⟩ := h
  obtain ⟨b, off, rfl, h1, h2, -, -⟩ := hB.row h0
  unfold maxLen at h2
  refine ⟨b, off, rfl, h1, by omega, fun hc => ?_, fun hc => ?_⟩
  · have hu : u = 0 := by omega
    subst hu
    refine ⟨rfl, ?_⟩
    have h3 := (hB.cutTo (m := 0) (Nat.zero_le _)).part 0 (Nat.le_refl _)
    have := h3.str
    rw [List.take_zero] at this ⊢
    exact this
  · have h3 := (hB.rest p (by omega)).cutTo (m := u) (by rw [List.length_drop, hl]; omega)
    exact h3.str

set_option maxRecDepth 100000 in
set_option maxHeartbeats 4000000 in
theorem valueR_2 (D rb n c p0 : Nat) (A : Option Addr) (l : Bs) (w : World) (h : Rc w D rb A n c l p0 false) (hD : D ≤ w.heap.size) (dep : Int) (m : Nat) (t : Bs) (hq : l.drop p0 = 2 :: t) (T : Option (Val × Bs)) (hT : Hid (((rdLen t).map fun p => (Val.mk 2 0 (p.2.take p.1) [], p.2.drop p.1)) = T)) : Calls Try.prog 67 #[.pointer (some ⟨rb, 0, none⟩), .int .i64 dep] w (RetV (T) (m) D rb A n c l w) := by
  have hst := (Below.refl w.heap.size w).alloc (Nat.le_refl _) (.cells #[.int .i64 0, .int .i64 0, .string ⟨#[]⟩, .slice none 0 0] 85)
  have X := Box.new w [.int .i64 0, .int .i64 0, .string ⟨#[]⟩, .slice none 0 0] 85
  have hrb := h.lt
  have HR := Lib.hid (h.keep hst)
  have ST := Lib.hid hst
  have HD := Lib.hid hD
  have hne : rb ≠ w.heap.size := by omega
  have hne' : w.heap.size ≠ rb := by omega
  obtain ⟨hpn, hpx, hpt⟩ := drop_cons_lt h.2.2.1 hq
  clear hst h hD
  go_enter Try.func67, Try.ntmps67
  go_wp2_with fail
  refine (next_yes D rb n c p0 A l _ HR.out hpn).mono ?_
  rintro e w1 ⟨rfl, hR1, hg⟩
  rw [hpx]
  have X1 := X.same (hg.block _ X.lt (by intro e; injection e with e; omega))
  have HG1 := Lib.hid (grown_of ST.out hg)
  have HR1 := Lib.hid hR1
  replace hpt := Lib.hid hpt
  clear hg hR1 X HR ST hpx
  have ht1 : ∀ y r, rdNum 0 0 (l.drop (p0 + 1)) = some (y, r) → y < 18446744073709551616 := fun y r h => (rdNum_lt (by omega) (by decide) h).1
  have HT1 := Lib.hid ht1
  clear ht1
  go_wp2_with fail
  refine (numberR_any D rb n c A l (p0 + 1) _ HR1.out _ rfl).mono ?_
  intro e w2 hret
  obtain ⟨u, p, bd, rfl, hR2, hg2, hu, hm1, hm2⟩ := hret.any HT1.out
  have X2 := X1.same (hg2.block _ X1.lt (by intro e; injection e with e; omega))
  have HG2 := Lib.hid (grown_two HG1.out hg2)
  have HR2 := Lib.hid hR2
  rw [hpt.out] at hm1 hm2
  clear hret hR2 hg2 X1 HG1 HR1 HT1
  have y0 : w2.cell? ⟨rb, 0, none⟩ = some (.slice A n c) := HR2.out.1.cell 0
  have y1 : w2.cell? ⟨rb, 1, none⟩ = some (.int .i64 p) := HR2.out.1.cell 1
  have y2 : w2.cell? ⟨rb, 2, none⟩ = some (.bool bd) := HR2.out.1.cell 2
  have yf := HR2.out.1.free 2
  have yf1 := HR2.out.1.free 1
  have yz := HR2.out.lt
  have hpn2 := HR2.out.2.2.2
  have hnm : n ≤ 9223372036854775807 := by
    obtain ⟨_, _, _, hm⟩ := HR2.out.2.1.form
    rw [HR2.out.2.2.1] at hm
    unfold maxLen at hm
    exact hm
  have xf0 := X2.free 0
  have xc0 : w2.cell? ⟨w.heap.size, 0, none⟩ = some (.int .i64 0) := X2.cell 0
  have xf1 := X2.free 1
  have xc1 : w2.cell? ⟨w.heap.size, 1, none⟩ = some (.int .i64 0) := X2.cell 1
  have xf2 := X2.free 2
  have xc2 : w2.cell? ⟨w.heap.size, 2, none⟩ = some (.string ⟨#[]⟩) := X2.cell 2
  have xf3 := X2.free 3
  have xc3 : w2.cell? ⟨w.heap.size, 3, none⟩ = some (.slice none 0 0) := X2.cell 3
  have xz := X2.lt
  rcases bd with _ | _
  rotate_left
  · have hn : rdNum 0 0 t = none := by
      rcases hn : rdNum 0 0 t with _ | ⟨y, r⟩
      · rfl
      · have := (hm1 y r hn).2.1
        cases this
    obtain rfl : none = T := by rw [← hT.out, rdLen_none hn]; rfl
    clear hT hm1 hm2 hn
    go_wp2
    go_quiet (fail)
    go_wp2
    clear y0 y1 y2 yf yf1 yz xf0 xf1 xf2 xf3 xz xc0 xc1 xc2 xc3
    have X3 := (X2.later (below_drewN (Below.refl w2.heap.size w2) nq)).other (a := ⟨rb, 2, none⟩) hne' (.bool true)
    have HG3 := grown_two (grown_drewN HG2.out nq) (grownBy_set (a := ⟨rb, 2, none⟩) (.bool true))
    have HR3 := (HR2.out.drewN nq).setBad true
    obtain ⟨XZ, HGZ, HRZ, HVZ⟩ := fin_value X3 HG3 HR3 (valsP_nil _ _ m) HD.out hne' (.int .i64 0) (.int .i64 0) (.string ⟨#[]⟩) (.slice none 0 0)
    generalize ((((((w2.drewN nq).setCell ⟨rb, 2, none⟩ (.bool true)).setCell ⟨w.heap.size, 0, none⟩ (.int .i64 0)).setCell ⟨w.heap.size, 1, none⟩ (.int .i64 0)).setCell ⟨w.heap.size, 2, none⟩ (.string ⟨#[]⟩)).setCell ⟨w.heap.size, 3, none⟩ (.slice none 0 0)) = Z at XZ HGZ HRZ HVZ ⊢
    have z0 : Z.cell? ⟨w.heap.size, 0, none⟩ = some (.int .i64 0) := XZ.cell 0
    have z1 : Z.cell? ⟨w.heap.size, 1, none⟩ = some (.int .i64 0) := XZ.cell 1
    have z2 : Z.cell? ⟨w.heap.size, 2, none⟩ = some (.string ⟨#[]⟩) := XZ.cell 2
    have z3 : Z.cell? ⟨w.heap.size, 3, none⟩ = some (.slice none 0 0) := XZ.cell 3
    refine bodyPost_ret (v := .agg #[.int .i64 0, .int .i64 0, .string ⟨#[]⟩, .slice none 0 0]) (by simp [results, Try.results67, go_sem, z0, z1, z2, z3]) rfl ?_
    exact ⟨HGZ, Val.zero, _, _, _, rfl, HVZ, HRZ, rfl⟩
  rcases hn : rdNum 0 0 t with _ | ⟨y, r⟩
  · have := hm2 hn
    cases this
  obtain ⟨huy, -, hpr⟩ := hm1 y r hn
  subst huy
  have hrl : r.length = n - p := by rw [← hpr, List.length_drop, HR2.out.2.2.1]
  have w1' : IntKind.i64.wrap ((n : Int) - (p : Int)) = (n : Int) - (p : Int) := by simp [IntKind.wrap, IntKind.bits, IntKind.signed]; omega
  have w2' : IntKind.u64.wrap ((n : Int) - (p : Int)) = (n : Int) - (p : Int) := by rw [wrap_u64']; omega
  clear hm1 hm2
  rcases Nat.lt_or_ge (n - p) u with hlt | hle
  · obtain rfl : none = T := by rw [← hT.out, rdLen_over hn (by omega)]; rfl
    clear hT
    have d1 : decide ((n : Int) - (p : Int) < (u : Int)) = true := decide_eq_true (by omega)
    clear hn hrl hpr
    go_wp2
    go_quiet (fail)
    go_wp2
    clear y0 y1 y2 yf yf1 yz xf0 xf1 xf2 xf3 xz xc0 xc1 xc2 xc3
    have X3 := (X2.later (below_drewN (Below.refl w2.heap.size w2) nq)).other (a := ⟨rb, 2, none⟩) hne' (.bool true)
    have HG3 := grown_two (grown_drewN HG2.out nq) (grownBy_set (a := ⟨rb, 2, none⟩) (.bool true))
    have HR3 := (HR2.out.drewN nq).setBad true
    obtain ⟨XZ, HGZ, HRZ, HVZ⟩ := fin_value X3 HG3 HR3 (valsP_nil _ _ m) HD.out hne' (.int .i64 0) (.int .i64 0) (.string ⟨#[]⟩) (.slice none 0 0)
    generalize ((((((w2.drewN nq).setCell ⟨rb, 2, none⟩ (.bool true)).setCell ⟨w.heap.size, 0, none⟩ (.int .i64 0)).setCell ⟨w.heap.size, 1, none⟩ (.int .i64 0)).setCell ⟨w.heap.size, 2, none⟩ (.string ⟨#[]⟩)).setCell ⟨w.heap.size, 3, none⟩ (.slice none 0 0)) = Z at XZ HGZ HRZ HVZ ⊢
    have z0 : Z.cell? ⟨w.heap.size, 0, none⟩ = some (.int .i64 0) := XZ.cell 0
    have z1 : Z.cell? ⟨w.heap.size, 1, none⟩ = some (.int .i64 0) := XZ.cell 1
    have z2 : Z.cell? ⟨w.heap.size, 2, none⟩ = some (.string ⟨#[]⟩) := XZ.cell 2
    have z3 : Z.cell? ⟨w.heap.size, 3, none⟩ = some (.slice none 0 0) := XZ.cell 3
    refine bodyPost_ret (v := .agg #[.int .i64 0, .int .i64 0, .string ⟨#[]⟩, .slice none 0 0]) (by simp [results, Try.results67, go_sem, z0, z1, z2, z3]) rfl ?_
    exact ⟨HGZ, Val.zero, _, _, _, rfl, HVZ, HRZ, rfl⟩
  · obtain rfl : some (Val.mk 2 0 (r.take u) [], r.drop u) = T := by rw [← hT.out, rdLen_of hn (by omega)]; rfl
    clear hT
    have d1 : decide ((n : Int) - (p : Int) < (u : Int)) = false := decide_eq_false (by omega)
    have e1 : IntKind.i64.wrap (u : Int) = (u : Int) := by simp [IntKind.wrap, IntKind.bits, IntKind.signed]; omega
    have e2 : IntKind.i64.wrap ((p : Int) + (u : Int)) = (p : Int) + (u : Int) := by simp [IntKind.wrap, IntKind.bits, IntKind.signed]; omega
    clear hn hrl
    go_wp2
    go_quiet (fail)
    go_wp2_with fail
    clear y0 y1 y2 yf yf1 yz xf0 xf1 xf2 xf3 xz xc0 xc1 xc2 xc3
    have X3 := (X2.later (below_drewN (Below.refl w2.heap.size w2) nq)).other (a := ⟨rb, 1, none⟩) hne' (.int .i64 ((p : Int) + (u : Int)))
    have HG3 := Lib.hid (grown_two (grown_drewN HG2.out nq) (grownBy_set (a := ⟨rb, 1, none⟩) (.int .i64 ((p : Int) + (u : Int)))))
    have HR3 := Lib.hid ((HR2.out.drewN nq).setAt (q := p + u) (by omega))
    rw [Int.natCast_add] at HR3
    generalize (w2.drewN nq).setCell ⟨rb, 1, none⟩ (.int .i64 ((p : Int) + (u : Int))) = W at X3 HG3 HR3 ⊢
    obtain ⟨b, off, rfl, hnc, hcm, t1, t2⟩ := (HR3.out.keep (Below.refl W.heap.size W).drew).text (p := p) (u := u) (by omega) (by omega)
    have y0 : W.cell? ⟨rb, 0, none⟩ = some (.slice (some ⟨b, off, none⟩) n c) := HR3.out.1.cell 0
    have y1 : W.cell? ⟨rb, 1, none⟩ = some (.int .i64 ((p : Int) + (u : Int))) := by have := HR3.out.1.cell 1; rw [Int.natCast_add] at this; exact this
    have yz := HR3.out.lt
    have e3 : IntKind.i64.wrap (p : Int) = (p : Int) := by simp [IntKind.wrap, IntKind.bits, IntKind.signed]; omega
    rw [hpr] at t1 t2
    have hd3 : l.drop (p + u) = r.drop u := by rw [← hpr, List.drop_drop]
    generalize hst : strB (r.take u) = st at t1 t2
    replace hst := Lib.hid hst
    replace hd3 := Lib.hid hd3
    have xf0 := X3.free 0
    have xc0 : W.cell? ⟨w.heap.size, 0, none⟩ = some (.int .i64 0) := X3.cell 0
    have xf1 := X3.free 1
    have xc1 : W.cell? ⟨w.heap.size, 1, none⟩ = some (.int .i64 0) := X3.cell 1
    have xf2 := X3.free 2
    have xc2 : W.cell? ⟨w.heap.size, 2, none⟩ = some (.string ⟨#[]⟩) := X3.cell 2
    have xf3 := X3.free 3
    have xc3 : W.cell? ⟨w.heap.size, 3, none⟩ = some (.slice none 0 0) := X3.cell 3
    have xz := X3.lt
    rcases Nat.decEq c p with hc | hc
    rotate_left
    · obtain ⟨hu0, v1⟩ := t1 hc
      subst hc
      subst hu0
      clear t1 t2
      go_region
      go_wp2
      clear y0 y1 yz xf0 xf1 xf2 xf3 xz xc0 xc1 xc2 xc3
      obtain ⟨XZ, HGZ, HRZ, HVZ⟩ := fin_value X3 HG3.out HR3.out (valsP_nil _ _ m) HD.out hne' (.int .i64 2) (.int .i64 0) (.string st) (.slice none 0 0)
      generalize ((((W.setCell ⟨w.heap.size, 0, none⟩ (.int .i64 2)).setCell ⟨w.heap.size, 1, none⟩ (.int .i64 0)).setCell ⟨w.heap.size, 2, none⟩ (.string st)).setCell ⟨w.heap.size, 3, none⟩ (.slice none 0 0)) = Z at XZ HGZ HRZ HVZ ⊢
      have z0 : Z.cell? ⟨w.heap.size, 0, none⟩ = some (.int .i64 2) := XZ.cell 0
      have z1 : Z.cell? ⟨w.heap.size, 1, none⟩ = some (.int .i64 0) := XZ.cell 1
      have z2 : Z.cell? ⟨w.heap.size, 2, none⟩ = some (.string st) := XZ.cell 2
      have z3 : Z.cell? ⟨w.heap.size, 3, none⟩ = some (.slice none 0 0) := XZ.cell 3
      refine bodyPost_ret (v := .agg #[.int .i64 2, .int .i64 0, .string st, .slice none 0 0]) (by simp [results, Try.results67, go_sem, z0, z1, z2, z3]) rfl ?_
      exact ⟨grown_drew HGZ, Val.mk 2 0 (r.take 0) [], _, _, _, by rw [← hst.out]; rfl, HVZ.keep (Keeps.of (Below.refl Z.heap.size Z).drew), HRZ.keep (Below.refl Z.heap.size Z).drew, ⟨rfl, rfl, hd3.out⟩⟩
    · have v1 := t2 hc
      clear t1 t2
      go_region
      go_wp2
      clear y0 y1 yz xf0 xf1 xf2 xf3 xz xc0 xc1 xc2 xc3
      obtain ⟨XZ, HGZ, HRZ, HVZ⟩ := fin_value X3 HG3.out HR3.out (valsP_nil _ _ m) HD.out hne' (.int .i64 2) (.int .i64 0) (.string st) (.slice none 0 0)
      generalize ((((W.setCell ⟨w.heap.size, 0, none⟩ (.int .i64 2)).setCell ⟨w.heap.size, 1, none⟩ (.int .i64 0)).setCell ⟨w.heap.size, 2, none⟩ (.string st)).setCell ⟨w.heap.size, 3, none⟩ (.slice none 0 0)) = Z at XZ HGZ HRZ HVZ ⊢
      have z0 : Z.cell? ⟨w.heap.size, 0, none⟩ = some (.int .i64 2) := XZ.cell 0
      have z1 : Z.cell? ⟨w.heap.size, 1, none⟩ = some (.int .i64 0) := XZ.cell 1
      have z2 : Z.cell? ⟨w.heap.size, 2, none⟩ = some (.string st) := XZ.cell 2
      have z3 : Z.cell? ⟨w.heap.size, 3, none⟩ = some (.slice none 0 0) := XZ.cell 3
      refine bodyPost_ret (v := .agg #[.int .i64 2, .int .i64 0, .string st, .slice none 0 0]) (by simp [results, Try.results67, go_sem, z0, z1, z2, z3]) rfl ?_
      exact ⟨grown_drew HGZ, Val.mk 2 0 (r.take u) [], _, _, _, by rw [← hst.out]; rfl, HVZ.keep (Keeps.of (Below.refl Z.heap.size Z).drew), HRZ.keep (Below.refl Z.heap.size Z).drew, ⟨rfl, rfl, hd3.out⟩⟩

end Go.Proofs.Ytmbifmmkccghfaa
