/-
  The contract of Mul of package interval. No condition.
-/
import Derived.Test.YtmjbcmicjhgciaaO
import Derived.Test.YtmjbcmicjhgciaaA
import Derived.Deep.RegionHeld3
import Derived.StillTailTactics
namespace Go.Proofs.Ytmjbcmicjhgciaa
open Go.RowKit Go.Shelf
attribute [local go_sem] Oper.semAt_some

set_option maxHeartbeats 400000 in
theorem products_any (a b c d : Int) (w : World) : Calls Try.prog 41 #[rng a b, rng c d] w fun e w' =>
    e = .returned (.func (.func 52) #[] #[.pointer (some ⟨w.heap.size, 0, none⟩), .pointer (some ⟨w.heap.size + 1, 0, none⟩)]) ∧
      (w.alloc (.cells #[.int .i64 a, .int .i64 b] 23)).alloc (.cells #[.int .i64 c, .int .i64 d] 23) = w' := by
  have hmf : ∀ (fn : Fn) (first cap : Array Value) (w : World), (Instr.makeFunc fn first cap).run Try.prog w = .ok (.func fn first cap) w := fun _ _ _ _ => rfl
  go_enter Try.func41, Try.ntmps41
  go_wp2
  go_ret
  exact ⟨rfl, rfl⟩

theorem box_own {β : Type} (b : Nat) (xs : List Value) : Own (fun (_ : β) W => Box W b xs) := by
  rintro s X Y row ⟨t, ht⟩ hg hrow
  refine ⟨t, (hg.block b (Array.getElem?_eq_some_iff.1 ht).1 (fun e => ?_)).trans ht⟩
  obtain ⟨o, ho, hc⟩ := hrow b e.symm
  rw [ht] at ho; cases ho; cases hc
theorem Box.grown {w w' : World} {b : Nat} {xs : List Value} {row : Option Nat} (h : Box w b xs) (hg : w.grownBy w' row) (hne : some b ≠ row) : Box w' b xs := by
  obtain ⟨t, ht⟩ := h
  exact ⟨t, (hg.block b (Array.getElem?_eq_some_iff.1 ht).1 hne).trans ht⟩
theorem ownsRow_lower {w : World} {base base' : Nat} {e : TypeId} {size : Nat} {v : Value} {n : Nat} {xs : List Value} (h : w.ownsRow base e size v n xs) (hb : base' ≤ base) : w.ownsRow base' e size v n xs :=
  ⟨h.1, h.2.imp id fun ⟨g, cap, cur, a, b, c⟩ => ⟨g, cap, cur, a, Nat.le_trans hb b, c⟩⟩
theorem own_ne {w : World} {base : Nat} {e : TypeId} {size : Nat} {v : Value} {n : Nat} {xs : List Value} (h : w.ownsRow base e size v n xs) {b : Nat} (hb : b < base) : some b ≠ v.ownBlock := by
  rcases h.2 with ⟨rfl, _⟩ | ⟨g, cap, cur, rfl, hg, _⟩
  · simp [Value.ownBlock]
  · simp [Value.ownBlock]; omega
theorem plist_all {a b c d : Int} (h : (plist [(a, c), (a, d), (b, c), (b, d)]).all (·.2) = true) :
    fit4 a b c d = true ∧ plist [(a, c), (a, d), (b, c), (b, d)] = [(a * c, true), (a * d, true), (b * c, true), (b * d, true)] := by
  rcases h1 : fitB a c with _ | _ <;> rcases h2 : fitB a d with _ | _ <;> rcases h3 : fitB b c with _ | _ <;> rcases h4 : fitB b d with _ | _ <;> simp_all [plist, fit4]
theorem plist_not {a b c d : Int} {pre : List (Int × Bool)} (hp : pre <+: plist [(a, c), (a, d), (b, c), (b, d)]) (h : pre.all (·.2) = false) : fit4 a b c d = false := by
  rcases hf : fit4 a b c d with _ | _
  · rfl
  · have h1 : fitB a c = true ∧ fitB a d = true ∧ fitB b c = true ∧ fitB b d = true := by simpa [fit4, and_assoc] using hf
    obtain ⟨h1, h2, h3, h4⟩ := h1
    have e : (plist [(a, c), (a, d), (b, c), (b, d)]).all (·.2) = true := by simp [plist, h1, h2, h3, h4]
    obtain ⟨t, ht⟩ := hp
    rw [← ht, List.all_append, h] at e
    simp at e

theorem Box.put {w : World} {b l : Nat} {xs : List Value} (h : Box w b xs) (hne : b ≠ l) (o : Obj) : Box (w.putObj l o) b xs := by
  obtain ⟨t, ht⟩ := h
  exact ⟨t, (World.putObj_heap_other hne).trans ht⟩
theorem below_put {B D : Nat} {w w' : World} (h : Below B w w') (hD : B ≤ D) (o : Obj) : Below B w (w'.putObj D o) :=
  ⟨h.os, h.tape, h.output, by simpa using h.size, fun k hk => (World.putObj_heap_other (by omega)).trans (h.block k hk)⟩
theorem hull4 {a b c d : Int} (h : fit4 a b c d = true) : hullT (a * c) [a * d, b * c, b * d] = (min (min (min (a * c) (a * d)) (b * c)) (b * d), max (max (max (a * c) (a * d)) (b * c)) (b * d), 0) := by
  have h1 : fitB a c = true ∧ fitB a d = true ∧ fitB b c = true ∧ fitB b d = true := by simpa [fit4, and_assoc] using h
  obtain ⟨h1, h2, h3, h4⟩ := h1
  have h1 := fitB_bd h1
  have h2 := fitB_bd h2
  have h3 := fitB_bd h3
  have h4 := fitB_bd h4
  generalize a * c = p at *
  generalize a * d = q at *
  generalize b * c = r at *
  generalize b * d = s at *
  have e1 : loL p [q, r, s] = min (min (min p q) r) s := by
    simp only [loL, List.foldl_cons, List.foldl_nil]
    repeat' split
    all_goals omega
  have e2 : hiL p [q, r, s] = max (max (max p q) r) s := by
    simp only [hiL, List.foldl_cons, List.foldl_nil]
    repeat' split
    all_goals omega
  rw [hullT, cutT, e1, e2, if_pos (okR_mk (by omega))]

theorem Try.info3 : (Try.prog.info? 3).map (fun i => (i.zero, i.size, i.bytes)) = some (some (.int .i64 0), 1, 8) := by kernel_rfl

/-- A function's contract, where its body holds a range over a function. -/
theorem calls_of_wp_marks {P : Program} {f : FuncId} {fn : Func} {c : Code} {args : Array Value} {w : World} {R : Ending → World → Prop} (hf : P.funcs[f]? = some fn) (hb : fn.body = some c)
    (h : c.wp P (bodyPostM Fence.wide 6 P fn R) { tmps := args ++ Array.replicate (fn.ntmps - args.size) undef, defers := [] } w) : Calls P f args w R :=
  callsIn_wide.1 (callsIn_of_wp_marks (n := 6) hf hb trivial (wpIn_wide.2 h) rfl)

set_option maxRecDepth 100000 in
set_option maxHeartbeats 2000000 in
theorem Mul_any (a b c d : Int) (w : World) : Calls Try.prog 17 #[rng a b, rng c d] w (Ret (mulT a b c d) w) := by
  refine calls_of_wp_marks Try.func17 rfl ?_
  simp only [Try.ntmps17, List.size_toArray, List.length_cons, List.length_nil, Nat.reduceAdd, Nat.reduceSub, Array.replicate_succ, Array.replicate_zero, List.push_toArray, List.append_toArray, List.nil_append, List.cons_append]
  go_wp2_with fail
  refine (valid2 _ a b c d _ (by simp) (by go_simp) (by go_simp) (by go_simp) (by go_simp)).mono ?_
  rintro e w1 ⟨q, rfl, hq, hB1⟩
  have hB2 : Below w.heap.size w w1 := (((((Below.refl _ w).alloc (Nat.le_refl _) _).alloc (by simp) _).alloc (by simp; omega) _).alloc (by simp; omega) _ |>.alloc (by simp; omega) _).trans (hB1.mono (by simp; omega))
  have X2 := ((((Box.new w [.int .i64 a, .int .i64 b] 23).alloc _).alloc _).alloc _ |>.alloc _).later hB1
  have X3 := ((((Box.newAt (n := w.heap.size + 1) [.int .i64 c, .int .i64 d] 23 (by simp)).alloc _).alloc _).alloc _).later hB1
  have X4 := (((Box.newAt (n := w.heap.size + 1 + 1) [.int .i64 0, .int .i64 0] 23 (by simp)).alloc _).alloc _).later hB1
  have X5 := ((Box.newAt (n := w.heap.size + 1 + 1 + 1) [.int .i64 0] 25 (by simp)).alloc _).later hB1
  clear hB1
  obtain ⟨⟨c4, c4'⟩, f4, f4'⟩ := X4.two
  obtain ⟨c5, f5⟩ := X5.one
  cases q
  · go_wp2
    refine ⟨_, (by simp [results, Try.results17, go_sem, c4, c4', c5] : _ = Result.ok (.tuple #[rng 0 0, .int .i64 130]) _), ?_⟩
    exact ⟨0, 0, 130, rfl, by have h := hq.out; simp [Hid, mulT, h], by repeat (first | assumption | refine Below.setCell ?_ (by simp <;> omega) _)⟩
  · obtain ⟨⟨b1, b2, b3⟩, b4, b5, b6⟩ := okR_and hq.out
    obtain ⟨⟨c2, c2'⟩, _, _⟩ := X2.two
    obtain ⟨⟨c3, c3'⟩, _, _⟩ := X3.two
    have z2 := X2.lt
    have z3 := X3.lt
    have z4 := X4.lt
    have z5 := X5.lt
    go_wp2_with fail
    refine (products_any a b c d _).mono ?_
    rintro e w2 ⟨rfl, rfl⟩
    go_wp2_with fail
    have b0 : Box (((w1.alloc (.cells #[.slice none 0 0] 55)).alloc (.cells #[.int .i64 a, .int .i64 b] 23)).alloc (.cells #[.int .i64 c, .int .i64 d] 23)) (w1.heap.size + 1) [.int .i64 a, .int .i64 b] := (Box.newAt (n := w1.heap.size + 1) [.int .i64 a, .int .i64 b] 23 (by simp)).alloc _
    have b1' : Box (((w1.alloc (.cells #[.slice none 0 0] 55)).alloc (.cells #[.int .i64 a, .int .i64 b] 23)).alloc (.cells #[.int .i64 c, .int .i64 d] 23)) (w1.heap.size + 1 + 1) [.int .i64 c, .int .i64 d] := Box.newAt (n := w1.heap.size + 1 + 1) [.int .i64 c, .int .i64 d] 23 (by simp)
    have bL : Boxed (((w1.alloc (.cells #[.slice none 0 0] 55)).alloc (.cells #[.int .i64 a, .int .i64 b] 23)).alloc (.cells #[.int .i64 c, .int .i64 d] 23)) w1.heap.size 55 (.slice none 0 0) := ((Boxed.new w1 55 (.slice none 0 0)).alloc _).alloc _
    have Y4 := ((X4.alloc (.cells #[.slice none 0 0] 55)).alloc (.cells #[.int .i64 a, .int .i64 b] 23)).alloc (.cells #[.int .i64 c, .int .i64 d] 23)
    have Y5 := ((X5.alloc (.cells #[.slice none 0 0] 55)).alloc (.cells #[.int .i64 a, .int .i64 b] 23)).alloc (.cells #[.int .i64 c, .int .i64 d] 23)
    have hB3 : Below w.heap.size w (((w1.alloc (.cells #[.slice none 0 0] 55)).alloc (.cells #[.int .i64 a, .int .i64 b] 23)).alloc (.cells #[.int .i64 c, .int .i64 d] 23)) := ((hB2.alloc hB2.size _).alloc (by have := hB2.size; simp; omega) _).alloc (by have := hB2.size; simp; omega) _
    have hsz : (((w1.alloc (.cells #[.slice none 0 0] 55)).alloc (.cells #[.int .i64 a, .int .i64 b] 23)).alloc (.cells #[.int .i64 c, .int .i64 d] 23)).heap.size = w1.heap.size + 3 := by simp
    generalize (((w1.alloc (.cells #[.slice none 0 0] 55)).alloc (.cells #[.int .i64 a, .int .i64 b] 23)).alloc (.cells #[.int .i64 c, .int .i64 d] 23)) = W0 at *
    have Hsz := Lib.hid hsz
    clear hsz c2 c2' c3 c3' c4 c4' f4 f4' c5 f5 X2 X3 X4 X5
    refine wpIn_wide.1 (wpIn_rangeFunc_ownG (n := 6) rfl (by omega) (gf := 52) (lb := #[.pointer (some ⟨w1.heap.size + 1, 0, none⟩), .pointer (some ⟨w1.heap.size + 1 + 1, 0, none⟩)]) rfl trivial (enters_of Try.func52 (by kernel_rfl) rfl)
      (prod_stops 5 (w1.heap.size + 1) (w1.heap.size + 1 + 1) a b c d W0 ⟨b1, b2, b3⟩ ⟨b4, b5, b6⟩ b0 b1') KeepsTwo.t (KeepsTwo.b b0.lt b1'.lt) (Below.refl _ _) (fun _ => rfl)
      (fun pre W => (∃ v, Boxed W w1.heap.size 55 v ∧ W.ownsRow W0.heap.size 3 1 v pre.length (pre.map fun x => .int .i64 x.1) ∧ True) ∧ Box W (w.heap.size + 1 + 1) [.int .i64 0, .int .i64 0] ∧ Box W (w.heap.size + 1 + 1 + 1) [.int .i64 0] ∧ Below w.heap.size w W ∧ (pre.all (·.2)) = true ∧ W0.heap.size ≤ W.heap.size)
      (fun cc pre W => cc = .ret ∧ Box W (w.heap.size + 1 + 1) [.int .i64 0, .int .i64 0] ∧ Box W (w.heap.size + 1 + 1 + 1) [.int .i64 2] ∧ Below w.heap.size w W ∧ (pre.all (·.2)) = false)
      ?hI ?hIx ?h0
      (fun x => { tmps := #[rng a b, rng c d, .pointer (some ⟨w.heap.size, 0, none⟩), .pointer (some ⟨w.heap.size + 1, 0, none⟩), .pointer (some ⟨w.heap.size + 1 + 1, 0, none⟩), .pointer (some ⟨w.heap.size + 1 + 1 + 1, 0, none⟩), .pointer (some ⟨w1.heap.size, 0, none⟩), .int .i64 x.1, .bool x.2, rng a b, rng c d, .slice (some ⟨w.heap.size + 1 + 1 + 1 + 1, 0, none⟩) 2 2, .bool true, .bool false, undef, rng a b, rng c d, .func (.func 52) #[] #[.pointer (some ⟨w1.heap.size + 1, 0, none⟩), .pointer (some ⟨w1.heap.size + 1 + 1, 0, none⟩)], .int .i64 x.1, .bool x.2, undef, undef, undef, undef, undef, undef, undef, undef, undef, undef, undef, undef, undef, undef, undef], defers := [] }) ?assign ?body ?done ?stop)
    case hI =>
      have hle := hB3.size
      exact OwnFrom.and (Own.from (holdsRow_own W0.heap.size w1.heap.size 55 3 1 (fun pre : List (Int × Bool) => pre.length) (fun pre => pre.map fun x => .int .i64 x.1) (fun _ _ => True)) _)
        (OwnFrom.and ((box_own _ _).from _) (OwnFrom.and ((box_own _ _).from _) (OwnFrom.and (ownFrom_below (Nat.le_refl _) hle) (OwnFrom.and (fun _ _ _ _ hs _ _ => hs) (fun _ _ _ _ hs hg _ => Nat.le_trans hs hg.size)))))
    case hIx =>
      have hle := hB3.size
      intro cc
      exact OwnFrom.and (fun _ _ _ _ hs _ _ => hs) (OwnFrom.and ((box_own _ _).from _) (OwnFrom.and ((box_own _ _).from _) (OwnFrom.and (ownFrom_below (Nat.le_refl _) hle) (fun _ _ _ _ hs _ _ => hs))))
    case h0 => exact ⟨⟨_, bL, World.ownsRow_nil _ _ _ _, trivial⟩, Y4, Y5, hB3, rfl, Nat.le_refl _⟩
    case assign =>
      intro l x W K hK
      gi_wp2
      exact hK
    case body =>
      rintro l pre ⟨p, ok⟩ W ⟨⟨v, hv, hrow, _⟩, hX4, hX5, hBW, hall, hWs⟩ hlen
      cases ok
      · obtain ⟨⟨c4, c4'⟩, f4, f4'⟩ := hX4.two
        obtain ⟨c5, f5⟩ := hX5.one
        gi_wp2
        exact ⟨(((KeepsOthers.setCell _ _ _).trans (KeepsOthers.setCell _ _ _)).trans (KeepsOthers.setCell _ _ _)).from _, rfl, ((hX4.set 0 _).set 1 _).other (by simp) _, ((hX5.other (by simp) _).other (by simp) _).set 0 _,
          ((hBW.setCell (by simp; omega) _).setCell (by simp; omega) _).setCell (by simp; omega) _, by simp⟩
      · have hvc := hv.cell
        obtain ⟨i0, hi, hz0, hz1, hz2⟩ := info_parts Try.info3
        gi_wp2_with (gi_at_builtin; refine wpListIn_append_own _ rfl _ _ 55 rfl W0.heap.size 3 i0 (.int .i64 0) 1 8 Try.underlying55 hi hz0 hz1 hz2 rfl (by decide) _ _ _ rfl (hrow.alloc _) ⟨W.heap.size, 0, none⟩ 1 1 [.int .i64 p] rfl rfl (cell_one_new _ _ _) (by simp [Value.oneCell']) (by unfold maxLen; omega) (by omega) (by simp; omega) ?_; intro v' w3 hown' hgrow _; obtain ⟨g', cap', rfl⟩ := ownsRow_succ hown'; obtain ⟨hv1, hv2, _, hk2, hb2⟩ := hv.appended (by decide) (ownsRow_lower hrow hB3.size) hBW.size hB2.size (ownsRow_lower hown' hB3.size) hgrow; have hc1 := hv1.cell; have hf1 := hv1.frozen)
        have hL0 := b0.lt
        have hL1 := b1'.lt
        have keep : ∀ k, k < W0.heap.size → k ≠ w1.heap.size → (w3.setCell ⟨w1.heap.size, 0, none⟩ (.slice (some ⟨g', 0, none⟩) (pre.length + 1) cap')).heap[k]? = W.heap[k]? := fun k hk hne =>
          (Below.heap_setCell _ _ _ _ hne).trans ((hgrow.block k (by simp; omega) (own_ne hrow hk)).trans (Below.heap_alloc W _ k (by omega)))
        refine ⟨hk2.from _, ⟨keep _ hL0 (by omega), keep _ hL1 (by omega)⟩, ⟨_, hv2, ?_, trivial⟩, hX4.same (keep _ (by have := Hsz.out; omega) (by omega)), hX5.same (keep _ (by have := Hsz.out; omega) (by omega)), hBW.trans hb2, by simp [hall], ?_⟩
        · have := hown'.kept (grownBy_setCell' w3 w1.heap.size (.slice (some ⟨g', 0, none⟩) (pre.length + 1) cap')) (.inr (hv1.not_row (by decide) hown').symm)
          simpa using this
        · have := hgrow.size
          simp at this
          simp [World.setCell]; omega
    case done =>
      rintro D xs W hD rfl ⟨⟨v, hv, hrow, _⟩, hX4, hX5, hBW, hall, hWs⟩ hK
      obtain ⟨hfit, hpl⟩ := plist_all hall
      rw [hpl] at hrow
      obtain ⟨g, cap, rfl⟩ := ownsRow_succ hrow
      have g0 := hrow.cellAt 0 (by simp)
      have g1 := hrow.cellAt 1 (by simp)
      have g2 := hrow.cellAt 2 (by simp)
      have g3 := hrow.cellAt 3 (by simp)
      simp only [List.map_cons, List.map_nil, List.getElem?_cons_zero, List.getElem?_cons_succ] at g0 g1 g2 g3
      have cL := hv.cell
      have zg : g < W.heap.size := World.block_lt_of_cell? _ _ g0
      obtain ⟨⟨c4, c4'⟩, f4, f4'⟩ := hX4.two
      obtain ⟨c5, f5⟩ := hX5.one
      have hcap : 4 ≤ cap := by
        rcases hrow.2 with ⟨h, _⟩ | ⟨g2, cap2, cur, h, _, _, h4, _⟩
        · cases h
        · cases h; simpa using h4
      have hcm : cap ≤ 9223372036854775807 := by
        rcases hrow.2 with ⟨h, _⟩ | ⟨g2, cap2, cur, h, _, _, _, h4, _⟩
        · cases h
        · cases h; unfold maxLen at h4; omega
      have hc1 : (1 : Int) < (cap : Int) := by omega
      have hne1 : cap ≠ 1 := by omega
      have zgl : w.heap.size + 1 + 1 + 1 < g := by
        rcases hrow.2 with ⟨h, _⟩ | ⟨g2, cap2, cur, h, h3, _⟩
        · cases h
        · cases h; have := Hsz.out; omega
      have CALL := Lib.hid (hull_any (a * c) g 1 (cap - 1) [a * d, b * c, b * d] W.drew (by simp) zg (fun i hi => by
        have hi' : i < 3 := by simpa using hi
        rcases i with _ | _ | _ | i
        · exact g1
        · exact g2
        · exact g3
        · omega))
      simp only [List.length_cons, List.length_nil, Nat.zero_add, Nat.reduceAdd] at cL
      go_wp2_with fail
      go_region_held3 (fun w' => w'.cell? ⟨w1.heap.size, 0, none⟩ = some (.slice (some ⟨g, 0, none⟩) 4 cap) ∧ w'.cell? ⟨g, 0, none⟩ = some (.int .i64 (a * c)) ∧ w'.cell? ⟨g, 1, none⟩ = some (.int .i64 (a * d)) ∧
          w'.cell? ⟨g, 2, none⟩ = some (.int .i64 (b * c)) ∧ w'.cell? ⟨g, 3, none⟩ = some (.int .i64 (b * d)))
        (first
          | (go_keep; done)
          | (simp [go_sem, s0, s1, s2, s3, s4]; done)
          | exact ⟨cell_later hB4 cL, cell_later hB4 g0, cell_later hB4 g1, cell_later hB4 g2, cell_later hB4 g3⟩)
        ((go_simp; go_at_call 38; refine (CALL.out).mono ?_; rintro e w5 ⟨lo, hi, er, rfl, hq2, hB4⟩; have U4 := (hX4.drew).later hB4; have U5 := (hX5.drew).later hB4; obtain ⟨⟨d4, d4'⟩, e4, e4'⟩ := U4.two; obtain ⟨d5, e5⟩ := U5.one; have s0 := cell_later hB4 cL; have s1 := cell_later hB4 g0; have s2 := cell_later hB4 g1; have s3 := cell_later hB4 g2; have s4 := cell_later hB4 g3))
      have hDlt : D < W.heap.size := (Array.getElem?_eq_some_iff.1 hK).1
      have hK5 : w5.heap[D]? = some (.deferred (some [])) := (hB4.block D hDlt).trans hK
      have hD4 : D ≠ w.heap.size + 1 + 1 := by have := Hsz.out; omega
      have hD5 : D ≠ w.heap.size + 1 + 1 + 1 := by have := Hsz.out; omega
      have V4 := ((U4.set 0 (.int .i64 lo)).set 1 (.int .i64 hi)).other (a := ⟨w.heap.size + 1 + 1 + 1, 0, none⟩) (by simp) (.int .i64 er)
      have V5 := (((U5.other (a := ⟨w.heap.size + 1 + 1, 0, none⟩) (by simp) (.int .i64 lo)).other (a := ⟨w.heap.size + 1 + 1, 1, none⟩) (by simp) (.int .i64 hi))).set 0 (.int .i64 er)
      have hB7 : Below w.heap.size w w5 := hBW.drew.trans (hB4.mono hBW.size)
      clear s0 s1 s2 s3 s4 d4 d4' e4 e4' d5 e5 cL g0 g1 g2 g3 c4 c4' f4 f4' c5 f5 hK
      go_wp2
      have hKf := ((Below.heap_setCell _ ⟨w.heap.size + 1 + 1 + 1, 0, none⟩ (.int .i64 er) D hD5).trans ((Below.heap_setCell _ ⟨w.heap.size + 1 + 1, 1, none⟩ (.int .i64 hi) D hD4).trans ((Below.heap_setCell w5 ⟨w.heap.size + 1 + 1, 0, none⟩ (.int .i64 lo) D hD4).trans hK5)))
      refine ⟨by simp, .inl ⟨_, _, rfl, run_takeDeferred hKf, ?_⟩⟩
      have Z4 := V4.put hD4.symm (.deferred none)
      have Z5 := V5.put hD5.symm (.deferred none)
      obtain ⟨⟨y4, y4'⟩, _, _⟩ := Z4.two
      obtain ⟨y5, _⟩ := Z5.one
      refine ⟨_, (by simp [results, Try.results17, go_sem, y4, y4', y5] : _ = Result.ok (.tuple #[rng lo hi, .int .i64 er]) _), ?_⟩
      refine ⟨lo, hi, er, rfl, ?_, ?_⟩
      · have h := hq2.out
        rw [hull4 hfit] at h
        exact (mul_yes hq.out hfit).trans h
      · exact below_put (((hB7.setCell (by simp; omega) _).setCell (by simp; omega) _).setCell (by simp; omega) _) (Nat.le_trans hB3.size hD) _
    case stop =>
      rintro D cc pre W hD hpre ⟨rfl, hX4, hX5, hBW, hall⟩ hK
      refine wpIn_wide.2 ?_
      go_wp2
      refine ⟨by simp, .inl ⟨_, _, rfl, run_takeDeferred hK, ?_⟩⟩
      have Z4 := hX4.put (l := D) (by have := Hsz.out; omega) (.deferred none)
      have Z5 := hX5.put (l := D) (by have := Hsz.out; omega) (.deferred none)
      obtain ⟨⟨y4, y4'⟩, _, _⟩ := Z4.two
      obtain ⟨y5, _⟩ := Z5.one
      refine ⟨_, (by simp [results, Try.results17, go_sem, y4, y4', y5] : _ = Result.ok (.tuple #[rng 0 0, .int .i64 2]) _), ?_⟩
      exact ⟨0, 0, 2, rfl, mul_no hq.out (plist_not hpre hall), below_put hBW (Nat.le_trans hB3.size hD) _⟩

end Go.Proofs.Ytmjbcmicjhgciaa
