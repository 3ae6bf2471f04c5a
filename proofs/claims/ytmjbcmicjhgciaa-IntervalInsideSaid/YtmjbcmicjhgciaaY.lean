/-
  The greatest common divisor: the range over remainders.
-/
import Derived.Test.YtmjbcmicjhgciaaX
namespace Go.Proofs.Ytmjbcmicjhgciaa
open Go.RowKit Go.Shelf
attribute [local go_sem] Oper.semAt_some

theorem rem_range {n : Nat} {g : Operand} {ps : Array Tmp} {assign body : Code} {Q : Exit → Act → World → Prop} {a0 : Act} {w w0 : World} (h1 : 1 ≤ n) (A B r a b : Nat)
    (hg : a0.eval g = .func (.func 62) #[] #[.pointer (some ⟨A, 0, none⟩), .pointer (some ⟨B, 0, none⟩)]) (hps : ps.size = 1)
    (hAB : A ≠ B) (hrA : r ≠ A) (hrB : r ≠ B) (hA0 : w0.heap.size ≤ A) (hB0 : w0.heap.size ≤ B)
    (hb : 1 ≤ b) (ha : a < 18446744073709551616) (hb' : b < 18446744073709551616) (hA : Box w A [.int .u64 (a : Int)]) (hB : Box w B [.int .u64 (b : Int)]) (hr : Box w r [.int .u64 (b : Int)]) (hbl : Below w0.heap.size w0 w)
    (a₁ : Nat → Act)
    (hassign : ∀ (l x : Nat) (W : World) (K : Act → World → Prop), K (a₁ x) W →
      assign.wpIn (Fence.wide.inRound l) (n - 1 - 1) Try.prog (Exit.then K (fun _ _ _ => False)) { tmps := (ps.zip #[.int .u64 (x : Int)]).foldl (fun t (p, v) => t.setIfInBounds p v) a0.tmps, defers := [] } W)
    (hbody : ∀ (l d x : Nat) (W : World), Box W r [.int .u64 (d : Int)] → body.wpIn (Fence.wide.inRound l) (n - 1 - 1) Try.prog (fun e _ W3 => e = .normal ∧ W3 = W.setCell ⟨r, 0, none⟩ (.int .u64 (x : Int))) (a₁ x) W)
    (hdone : ∀ (D : Nat) (W : World), w.heap.size ≤ D → Box W r [.int .u64 (Nat.gcd a b : Int)] → Below w0.heap.size w0 W → W.heap[D]? = some (.deferred (some [])) → Q .normal { a0 with defers := { target := .collected D, args := #[] } :: a0.defers } W)
    (hr0 : w0.heap.size ≤ r) :
    (Code.rangeFunc g ps assign body).wpIn Fence.wide n Try.prog Q a0 w := by
  refine wpIn_rangeFunc ?_
  intro fn hfn
  rw [show Fence.wide.round = none from rfl]
  obtain ⟨rec, hrec⟩ : ∃ rec : LoopState → Option Code → Loop, rec = fun st pe => { state := st, pending := pe, fn, tmps := a0.tmps, params := ps, assign, body, defers := w.heap.size } := ⟨_, rfl⟩
  obtain ⟨W1, hW1⟩ : ∃ W1, (w.alloc (.deferred (some []))).alloc (.loop (rec .ready none)) = W1 := ⟨_, rfl⟩
  have hL1 : W1.heap[w.heap.size + 1]? = some (.loop (rec .ready none)) := by
    rw [← hW1]; have := World.alloc_heap_new (w.alloc (.deferred (some []))) (.loop (rec .ready none)); rwa [World.size_alloc] at this
  have hK1 : W1.heap[w.heap.size]? = some (.deferred (some [])) := by
    rw [← hW1]; exact (Below.heap_alloc _ _ _ (by simp)).trans (World.alloc_heap_new w _)
  have hA1 : Box W1 A [.int .u64 (a : Int)] := by rw [← hW1]; exact (hA.alloc _).alloc _
  have hB1 : Box W1 B [.int .u64 (b : Int)] := by rw [← hW1]; exact (hB.alloc _).alloc _
  have hr1 : Box W1 r [.int .u64 (b : Int)] := by rw [← hW1]; exact (hr.alloc _).alloc _
  have hb1 : Below w0.heap.size w0 W1 := by
    rw [← hW1]; exact (hbl.alloc hbl.size _).alloc (by have := hbl.size; simp; omega) _
  have zA := hA.lt
  have zB := hB.lt
  have zr := hr.lt
  have hws := hbl.size
  refine ⟨w.heap.size + 1, [{ target := .collected w.heap.size, args := #[] }], W1, { target := .fn (.func 62) #[.pointer (some ⟨A, 0, none⟩), .pointer (some ⟨B, 0, none⟩)], args := #[.func (.yield (w.heap.size + 1)) #[] #[]] }, W1, 62,
    #[.func (.yield (w.heap.size + 1)) #[] #[]] ++ #[.pointer (some ⟨A, 0, none⟩), .pointer (some ⟨B, 0, none⟩)], W1, ?_, ?_, ?_, ?_, fun _ => h1, ?_⟩
  · rw [← hW1, hrec]; exact run_enterLoop_outer _ _ _ _ _
  · simp only [resolve, hg]
    simp [go_sem]
  · intro f' hf'; exact trivial
  · have eg := enters_of Try.func62 (by kernel_rfl) rfl
    simp [invoke, go_sem]
  · refine (rem_iter (n - 1) (w.heap.size + 1) A B hAB (fun d W => Box W r [.int .u64 (d : Int)] ∧ Below w0.heap.size w0 W ∧ W.heap[w.heap.size + 1]? = some (.loop (rec .ready none)) ∧ W.heap[w.heap.size]? = some (.deferred (some []))) ?_ ?_ ?_ a b hb ha hb' W1 hA1 hB1 ⟨hr1, hb1, hL1, hK1⟩).mono ?_
    · rintro d W v ⟨h1, h2, h3, h4⟩
      exact ⟨⟨h1.other hrA v, h2.setCell hA0 v, (Below.heap_setCell W ⟨A, 0, none⟩ v _ (by show _ ≠ A; omega)).trans h3, (Below.heap_setCell W ⟨A, 0, none⟩ v _ (by show _ ≠ A; omega)).trans h4⟩,
        ⟨h1.other hrB v, h2.setCell hB0 v, (Below.heap_setCell W ⟨B, 0, none⟩ v _ (by show _ ≠ B; omega)).trans h3, (Below.heap_setCell W ⟨B, 0, none⟩ v _ (by show _ ≠ B; omega)).trans h4⟩⟩
    · rintro d W ⟨h1, h2, h3, h4⟩
      exact ⟨h1.drew, h2.drew, h3, h4⟩
    · rintro d x W ⟨i1, i2, hl, hk⟩
      have hlt : w.heap.size + 1 < W.heap.size := (Array.getElem?_eq_some_iff.1 hl).1
      have hy := run_yield (P := Try.prog) (args := #[.int .u64 (x : Int)]) hl (by rw [hrec]; exact hps.symm)
      rw [hrec] at hy
      refine ⟨fn, _, assign, body, hy, roundIn_of_wpIn hfn (hassign _ x W _ ⟨_, run_beginRound hl (by rw [hrec]), ?_⟩)⟩
      have hl2 : (W.putObj (w.heap.size + 1) (.loop { rec .ready none with state := .busy })).heap[w.heap.size + 1]? = some (.loop { rec .ready none with state := .busy }) := World.putObj_heap_same hlt
      have hk2 : (W.putObj (w.heap.size + 1) (.loop { rec .ready none with state := .busy })).heap[w.heap.size]? = some (.deferred (some [])) := (World.putObj_heap_other (by omega)).trans hk
      have i1' := i1.put (l := w.heap.size + 1) (by omega) (.loop { rec .ready none with state := .busy })
      refine wpIn_mono (hbody _ d x _ i1') ?_
      rintro e a3 W3 ⟨rfl, rfl⟩
      have hl3 : ((W.putObj (w.heap.size + 1) (.loop { rec .ready none with state := .busy })).setCell ⟨r, 0, none⟩ (.int .u64 (x : Int))).heap[w.heap.size + 1]? = some (.loop { rec .ready none with state := .busy }) := (Below.heap_setCell _ ⟨r, 0, none⟩ _ _ (by show _ ≠ r; omega)).trans hl2
      have hk3 : ((W.putObj (w.heap.size + 1) (.loop { rec .ready none with state := .busy })).setCell ⟨r, 0, none⟩ (.int .u64 (x : Int))).heap[w.heap.size]? = some (.deferred (some [])) := (Below.heap_setCell _ ⟨r, 0, none⟩ _ _ (by show _ ≠ r; omega)).trans hk2
      have hb3 : Below w0.heap.size w0 ((W.putObj (w.heap.size + 1) (.loop { rec .ready none with state := .busy })).setCell ⟨r, 0, none⟩ (.int .u64 (x : Int))) := (below_put i2 (by omega) _).setCell hr0 _
      have hr3 := i1'.set 0 (.int .u64 (x : Int))
      have hkA : ((W.putObj (w.heap.size + 1) (.loop { rec .ready none with state := .busy })).setCell ⟨r, 0, none⟩ (.int .u64 (x : Int))).heap[A]? = W.heap[A]? := (Below.heap_setCell _ ⟨r, 0, none⟩ _ _ (Ne.symm hrA)).trans (World.putObj_heap_other (by omega))
      have hkB : ((W.putObj (w.heap.size + 1) (.loop { rec .ready none with state := .busy })).setCell ⟨r, 0, none⟩ (.int .u64 (x : Int))).heap[B]? = W.heap[B]? := (Below.heap_setCell _ ⟨r, 0, none⟩ _ _ (Ne.symm hrB)).trans (World.putObj_heap_other (by omega))
      generalize (W.putObj (w.heap.size + 1) (.loop { rec .ready none with state := .busy })).setCell ⟨r, 0, none⟩ (.int .u64 (x : Int)) = W3 at *
      have hrun := run_endRound (P := Try.prog) none hl3
      refine ⟨_, _, hrun, rfl, ⟨hr3.put (by omega) _, below_put hb3 (by omega) _, ?_, (World.putObj_heap_other (by omega)).trans hk3⟩, (World.putObj_heap_other (by omega)).trans hkA, (World.putObj_heap_other (by omega)).trans hkB⟩
      rw [World.putObj_heap_same (Array.getElem?_eq_some_iff.1 hl3).1, hrec]; rfl
    · rintro e W2 ⟨⟨v, rfl⟩, i1, i2, hl, hk⟩
      exact ⟨none, _, by have := run_endLoop (P := Try.prog) hl (by rw [hrec]; simp); rw [hrec] at this; exact this, hdone _ _ (Nat.le_refl _) (i1.put (by omega) _) (below_put i2 (by omega) _) ((World.putObj_heap_other (by omega)).trans hk)⟩

set_option maxRecDepth 100000 in
set_option maxHeartbeats 2000000 in
theorem divisor_any (a b : Nat) (w : World) (ha : a < 18446744073709551616) (hb : b < 18446744073709551616) : Calls Try.prog 53 #[.int .u64 (a : Int), .int .u64 (b : Int)] w fun e w' =>
    ∃ m : Nat, e = .returned (.int .u64 (m : Int)) ∧ Hid (m = Nat.gcd a b) ∧ Below w.heap.size w w' := by
  refine calls_of_wp_marks Try.func53 rfl ?_
  simp only [Try.ntmps53, List.size_toArray, List.length_cons, List.length_nil, Nat.reduceAdd, Nat.reduceSub, Array.replicate_succ, Array.replicate_zero, List.push_toArray, List.append_toArray, List.nil_append, List.cons_append]
  have hH := Lib.hid (show a < 18446744073709551616 ∧ b < 18446744073709551616 from ⟨ha, hb⟩)
  clear ha hb
  have X : Box (w.alloc (.cells #[.int .u64 0] 72)) w.heap.size [.int .u64 0] := Box.new w _ 72
  obtain ⟨c0, f0⟩ := X.one
  rcases hb0 : ((b : Int) == 0) with _ | _
  · go_wp2_with fail
    refine (remainders_any a b _).mono ?_
    rintro e w1 ⟨rfl, rfl⟩
    go_wp2_with fail
    have h1b : 1 ≤ b := by
      have : b ≠ 0 := by simpa using hb0
      omega
    have Y0 := ((Box.new w [.int .u64 (b : Int)] 72).alloc (.cells #[.int .u64 (a : Int)] 72)).alloc (.cells #[.int .u64 (b : Int)] 72)
    have YA := (Box.newAt (w := w.alloc (.cells #[.int .u64 (b : Int)] 72)) (n := w.heap.size + 1) [.int .u64 (a : Int)] 72 (by simp)).alloc (.cells #[.int .u64 (b : Int)] 72)
    have YB := Box.newAt (w := (w.alloc (.cells #[.int .u64 (b : Int)] 72)).alloc (.cells #[.int .u64 (a : Int)] 72)) (n := w.heap.size + 1 + 1) [.int .u64 (b : Int)] 72 (by simp)
    have hbl : Below w.heap.size w (((w.alloc (.cells #[.int .u64 (b : Int)] 72)).alloc (.cells #[.int .u64 (a : Int)] 72)).alloc (.cells #[.int .u64 (b : Int)] 72)) := by
      repeat (first | exact Below.refl _ _ | refine Below.alloc ?_ (by simp <;> omega) _)
    refine wpIn_wide.1 (rem_range (n := 6) (w0 := w) (by omega : 1 ≤ 6) (w.heap.size + 1) (w.heap.size + 1 + 1) w.heap.size a b rfl rfl (by omega) (by omega) (by omega) (by omega) (by omega) h1b hH.out.1 hH.out.2 YA YB Y0 hbl
      (fun x => { tmps := #[.int .u64 (a : Int), .int .u64 (b : Int), undef, undef, .pointer (some ⟨w.heap.size, 0, none⟩), .int .u64 (x : Int), .int .u64 (b : Int), .bool false, undef, .int .u64 (b : Int), .int .u64 (a : Int), .int .u64 (b : Int),
          .func (.func 62) #[] #[.pointer (some ⟨w.heap.size + 1, 0, none⟩), .pointer (some ⟨w.heap.size + 1 + 1, 0, none⟩)], .int .u64 (x : Int), undef, undef], defers := [] }) ?assign ?body ?done (Nat.le_refl _))
    case assign =>
      intro l x W K hK
      gi_wp2
      exact hK
    case body =>
      intro l d x W hd
      obtain ⟨c1, f1⟩ := hd.one
      gi_wp2
    case done =>

      intro D W hDw hG hBW hD
      have hDr : D ≠ w.heap.size := by simp at hDw; omega
      have hDl : w.heap.size ≤ D := by simp at hDw; omega
      clear hDw
      obtain ⟨c1, f1⟩ := hG.one
      go_wp2
      have hD2 : (W.setCell ⟨w.heap.size, 0, none⟩ (.int .u64 (Nat.gcd a b : Int))).heap[D]? = some (.deferred (some [])) := (Below.heap_setCell _ ⟨w.heap.size, 0, none⟩ _ _ hDr).trans hD
      refine ⟨by simp, .inl ⟨_, _, rfl, run_takeDeferred hD2, ?_⟩⟩
      have Z := ((hG.set 0 (.int .u64 (Nat.gcd a b : Int))).put (l := D) (Ne.symm hDr) (.deferred none))
      obtain ⟨y, _⟩ := Z.one
      refine ⟨_, (by simp [results, Try.results53, go_sem, y] : _ = Result.ok (.int .u64 (Nat.gcd a b : Int)) _), ?_⟩
      exact ⟨_, rfl, rfl, below_put (hBW.setCell (Nat.le_refl _) _) hDl _⟩
  · go_wp2
    have Y := X.set 0 (.int .u64 (a : Int))
    obtain ⟨c1, f1⟩ := Y.one
    refine ⟨_, (by simp [results, Try.results53, go_sem] : _ = Result.ok (.int .u64 (a : Int)) _), ?_⟩
    have e0 : b = 0 := by simpa using hb0
    exact ⟨a, rfl, by simp [Hid, e0], by repeat (first | exact Below.refl _ _ | refine Below.setCell ?_ (by simp <;> omega) _ | refine Below.alloc ?_ (by simp <;> omega) _)⟩

end Go.Proofs.Ytmjbcmicjhgciaa
