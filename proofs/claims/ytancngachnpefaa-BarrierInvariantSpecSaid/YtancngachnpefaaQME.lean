/- What Invariant of package barrier computes, as the program does it: plain. No condition. -/
import Derived.Test.YtancngachnpefaaQBT
import Derived.Test.YtancngachnpefaaQK
import Derived.Test.YtancngachnpefaaQBM
set_option linter.unusedVariables false
set_option linter.unusedSimpArgs false
set_option maxRecDepth 100000
set_option maxHeartbeats 4000000
namespace Go.Proofs.Ytancngachnpefaa
open Go.RowKit
def updB (f : St → Bool) (s : St) : St → Bool := fun x => decide (x = s) || f x
theorem updB_some {f : St → Bool} (s : St) (v : Value) : updS (fun x => if f x = true then some v else none) s v = fun x => if updB f s x = true then some v else none := by
  funext x
  unfold updS updB
  by_cases h : x = s
  · simp [h]
  · simp [h]
def addN (s : St) (a : (St → List St) × (St → Bool)) (y : St) : (St → List St) × (St → Bool) := if a.2 y = true then a else (updF a.1 y (a.1 y ++ [s]), updB a.2 y)
structure Iv where
  fr : St → List St
  lost : St → Bool
  op : List St
def Pl.foll (p : Pl) (c : List Ln) (s : St) : List St := (p.nexts c s (p.nf * p.nm)).map (·.2)
def stepI (p : Pl) (c : List Ln) (a : Iv) (s : St) : Iv :=
  ⟨((p.foll c s).foldl (addN s) (a.fr, fun _ => false)).1, if (p.safeT s).1 = true then a.lost else updB a.lost s, if (p.safeT s).1 = true then a.op else a.op ++ [s]⟩
def ivZero : Iv := ⟨fun _ => [], fun _ => false, []⟩
def sweepI (p : Pl) (c : List Ln) (l : List St) : Iv := l.foldl (stepI p c) ivZero
theorem sweep_snoc (p : Pl) (c : List Ln) (l : List St) (s : St) : sweepI p c (l ++ [s]) = stepI p c (sweepI p c l) s := by rw [sweepI, List.foldl_append]; rfl
def markI (a : (St → Bool) × List St) (s : St) : (St → Bool) × List St := if a.1 s = true then a else (updB a.1 s, a.2 ++ [s])
def bfsI (fr : St → List St) : Nat → (St → Bool) → List St → (St → Bool)
  | 0, lost, _ => lost
  | _ + 1, lost, [] => lost
  | n + 1, lost, y :: r => bfsI fr n ((fr y).foldl markI (lost, r)).1 ((fr y).foldl markI (lost, r)).2
def lostI (p : Pl) (c : List Ln) : St → Bool := bfsI (sweepI p c p.states).fr (p.count + p.count) (sweepI p c p.states).lost (sweepI p c p.states).op
theorem bfs_nil (fr : St → List St) (n : Nat) (lost : St → Bool) : bfsI fr n lost [] = lost := by cases n <;> rfl
def invT (p : Pl) (c : List Ln) : List St × Bool × Int := if askT p c = 0 then (p.states.filter (fun s => !lostI p c s), !lostI p c p.beginT.1, 0) else ([], false, askT p c)
def leftI (l : List St) (lost : St → Bool) : Nat := l.countP fun s => !lost s
theorem countP_lt {α : Type} {f g : α → Bool} (hfg : ∀ x, g x = true → f x = true) {s : α} (hs1 : f s = true) (hs2 : g s = false) : ∀ l : List α, s ∈ l → l.countP g + 1 ≤ l.countP f
  | [], h => by cases h
  | x :: l, h => by
    have hle : l.countP g ≤ l.countP f := List.countP_mono_left (fun x _ h => hfg x h)
    rw [List.countP_cons, List.countP_cons]
    rcases List.mem_cons.1 h with rfl | h
    · rw [hs1, hs2]
      simp
      exact hle
    · have ih := countP_lt hfg hs1 hs2 l h
      cases hg : g x with
      | true => rw [hfg x hg]; simp; omega
      | false => cases f x <;> simp <;> omega
theorem mark_left {l : List St} {a : (St → Bool) × List St} {s : St} (hs : s ∈ l) : (markI a s).2.length + leftI l (markI a s).1 ≤ a.2.length + leftI l a.1 := by
  unfold markI
  split
  · exact Nat.le_refl _
  · rename_i h
    have h0 : a.1 s = false := by simpa using h
    have := countP_lt (f := fun x => !a.1 x) (g := fun x => !(updB a.1 s) x) (fun x hx => by
      unfold updB at hx
      simp at hx
      simpa using hx.2) (s := s) (by simp [h0]) (by simp [updB]) l hs
    show (a.2 ++ [s]).length + leftI l (updB a.1 s) ≤ _
    unfold leftI
    rw [List.length_append, List.length_singleton]
    omega
theorem marks_left {l : List St} : ∀ (ss : List St) (a : (St → Bool) × List St), (∀ s ∈ ss, s ∈ l) → (ss.foldl markI a).2.length + leftI l (ss.foldl markI a).1 ≤ a.2.length + leftI l a.1
  | [], _, _ => Nat.le_refl _
  | s :: ss, a, h => by
    rw [List.foldl_cons]
    exact Nat.le_trans (marks_left ss _ (fun x hx => h x (List.mem_cons_of_mem _ hx))) (mark_left (h s (List.mem_cons_self ..)))
theorem add_mem {l : List St} {s : St} (hs : s ∈ l) : ∀ (ys : List St) (a : (St → List St) × (St → Bool)), (∀ y, ∀ x ∈ a.1 y, x ∈ l) → ∀ y, ∀ x ∈ (ys.foldl (addN s) a).1 y, x ∈ l
  | [], _, h => h
  | z :: ys, a, h => by
    rw [List.foldl_cons]
    refine add_mem hs ys _ ?_
    unfold addN
    split
    · exact h
    · intro y x hx
      dsimp only [updF] at hx
      split at hx
      · rcases List.mem_append.1 hx with hx | hx
        · exact h _ x hx
        · rw [List.mem_singleton.1 hx]
          exact hs
      · exact h y x hx
theorem step_mem {p : Pl} {c : List Ln} {l : List St} : ∀ (m : List St) (a : Iv), (∀ y, ∀ x ∈ a.fr y, x ∈ l) → (∀ s ∈ m, s ∈ l) → ∀ y, ∀ x ∈ (m.foldl (stepI p c) a).fr y, x ∈ l
  | [], _, h, _ => h
  | s :: m, a, h, hm => by
    rw [List.foldl_cons]
    exact step_mem m _ (add_mem (hm s (List.mem_cons_self ..)) _ _ h) (fun x hx => hm x (List.mem_cons_of_mem _ hx))
theorem sweep_mem (p : Pl) (c : List Ln) (l : List St) : ∀ y, ∀ x ∈ (sweepI p c l).fr y, x ∈ l := step_mem l ivZero (fun y x hx => by cases hx) (fun _ h => h)
theorem add_len {s : St} {fr0 : St → List St} : ∀ (ys : List St) (a : (St → List St) × (St → Bool)), (∀ y, (a.1 y).length ≤ (fr0 y).length + 1 ∧ (a.2 y = false → (a.1 y).length ≤ (fr0 y).length)) → ∀ y, ((ys.foldl (addN s) a).1 y).length ≤ (fr0 y).length + 1 ∧ ((ys.foldl (addN s) a).2 y = false → ((ys.foldl (addN s) a).1 y).length ≤ (fr0 y).length)
  | [], _, h => h
  | z :: ys, a, h => by
    rw [List.foldl_cons]
    refine add_len ys _ ?_
    unfold addN
    split
    · exact h
    · rename_i h0
      intro y
      dsimp only [updF, updB]
      by_cases hy : y = z
      · subst hy
        rw [if_pos rfl]
        have := (h y).2 (by simpa using h0)
        simp
        omega
      · rw [if_neg hy]
        simp [hy]
        exact ⟨(h y).1, (h y).2⟩
theorem step_len {p : Pl} {c : List Ln} : ∀ (m : List St) (a : Iv) (n : Nat), (∀ y, (a.fr y).length ≤ n) → ∀ y, ((m.foldl (stepI p c) a).fr y).length ≤ n + m.length
  | [], _, n, h => h
  | s :: m, a, n, h => by
    rw [List.foldl_cons, List.length_cons]
    intro y
    have := step_len (p := p) (c := c) m (stepI p c a s) (n + 1) (fun y => Nat.le_trans (add_len (s := s) (fr0 := a.fr) (p.foll c s) (a.fr, fun _ => false) (fun y => ⟨Nat.le_succ _, fun _ => Nat.le_refl _⟩) y).1 (Nat.succ_le_succ (h y))) y
    omega
theorem sweep_len (p : Pl) (c : List Ln) (l : List St) (y : St) : ((sweepI p c l).fr y).length ≤ l.length := by
  have := step_len (p := p) (c := c) l ivZero 0 (fun y => Nat.le_refl _) y
  rw [Nat.zero_add] at this
  exact this
theorem sweep_op : ∀ (p : Pl) (c : List Ln) (m : List St) (a : Iv), ((m.foldl (stepI p c) a).op).length ≤ a.op.length + m.length
  | _, _, [], _ => Nat.le_refl _
  | p, c, s :: m, a => by
    rw [List.foldl_cons, List.length_cons]
    have := sweep_op p c m (stepI p c a s)
    have h2 : (stepI p c a s).op.length ≤ a.op.length + 1 := by
      unfold stepI
      dsimp only
      split
      · omega
      · simp
    omega
theorem step_opmem {p : Pl} {c : List Ln} {l : List St} : ∀ (m : List St) (a : Iv), (∀ x ∈ a.op, x ∈ l) → (∀ s ∈ m, s ∈ l) → ∀ x ∈ (m.foldl (stepI p c) a).op, x ∈ l
  | [], _, h, _ => h
  | s :: m, a, h, hm => by
    rw [List.foldl_cons]
    refine step_opmem m _ ?_ (fun x hx => hm x (List.mem_cons_of_mem _ hx))
    unfold stepI
    dsimp only
    split
    · exact h
    · intro x hx
      rcases List.mem_append.1 hx with hx | hx
      · exact h x hx
      · rw [List.mem_singleton.1 hx]
        exact hm s (List.mem_cons_self ..)
theorem marks_mem {l : List St} : ∀ (ss : List St) (a : (St → Bool) × List St), (∀ x ∈ a.2, x ∈ l) → (∀ s ∈ ss, s ∈ l) → ∀ x ∈ (ss.foldl markI a).2, x ∈ l
  | [], _, h, _ => h
  | s :: ss, a, h, hm => by
    rw [List.foldl_cons]
    refine marks_mem ss _ ?_ (fun x hx => hm x (List.mem_cons_of_mem _ hx))
    unfold markI
    split
    · exact h
    · intro x hx
      rcases List.mem_append.1 hx with hx | hx
      · exact h x hx
      · rw [List.mem_singleton.1 hx]
        exact hm s (List.mem_cons_self ..)
end Go.Proofs.Ytancngachnpefaa
namespace Go.Proofs.Ytancngachnpefaa
open Go.RowKit Go.Shelf
attribute [local go_sem] Oper.semAt_some
abbrev Fw.v (f : Fw) : Value := .agg #[.int .i64 f.kind, .int .i64 f.st.level, .int .i64 f.st.position, .int .i64 f.st.p0, .int .i64 f.st.p1, .int .i64 f.st.order, .int .i64 f.st.age, .int .i64 f.sh.feed, .int .i64 f.sh.msg]
abbrev Fw.cells (f : Fw) : List Value := [.int .i64 f.kind, .int .i64 f.st.level, .int .i64 f.st.position, .int .i64 f.st.p0, .int .i64 f.st.p1, .int .i64 f.st.order, .int .i64 f.st.age, .int .i64 f.sh.feed, .int .i64 f.sh.msg]
theorem bOpen_bad {p : Pl} {c : List Ln} {V : Value} {w : World} {er : Int} (h : Hid (askT p c = er)) (h0 : Hid (er ≠ 0)) (hC : Hid (CodeAt w w.heap.size V c)) :
    Calls Try.prog 40 #[p.v, .agg #[V]] w fun e w' => e = .returned (.tuple #[gmV Pl.zero0 (.slice none 0 0), .int .i64 er]) ∧ Below w.heap.size w w' := by
  have h1 := h.out
  unfold askT at h1
  by_cases hp : p.checkT = 0
  · rw [if_pos hp] at h1
    exact bOpen_bad2 p c V w er hp h1 h0 hC
  · rw [if_neg hp] at h1
    exact bOpen_bad1 p c V w er h1 h0 hC
theorem bCert_0 (p : Pl) (c : List Ln) (b : List Iq) (A1 A2 : Option Addr) (m k m2 k2 : Nat) (w : World) (er : Int) (h : Hid (askT p c = er)) (h0 : Hid (er ≠ 0)) (hC : Hid (CodeAt w w.heap.size (.slice A2 m2 k2) c)) (_hQ : Hid (BarAt w w.heap.size (.slice A1 m k) b)) :
    Calls Try.prog 14 #[p.v, .agg #[.slice A2 m2 k2], .slice A1 m k] w fun e w' => e = .returned (.tuple #[.bool false, Fw.zero.v, .int .i64 er]) ∧ Below w.heap.size w w' := by
  have hd : (er != 0) = true := by simp [h0.out]
  refine calls_of_wp_marks Try.func14 rfl ?_
  simp only [Try.ntmps14, List.size_toArray, List.length_cons, List.length_nil, Nat.reduceAdd, Nat.reduceSub, Array.replicate_succ, Array.replicate_zero, List.push_toArray, List.append_toArray, List.nil_append, List.cons_append]
  go_wp2_with fail
  have hB := (((((Below.refl w.heap.size w).alloc (by simp <;> omega) (.cells #[.int .i64 p.top, .int .i64 p.bank, .int .i64 p.siphon, .int .i64 p.start, .int .i64 p.positions, .int .i64 p.rate, .int .i64 p.step, .int .i64 p.pass, .int .i64 p.feed, .int .i64 p.pipe, .int .i64 p.orders, .int .i64 p.age] 23)).alloc (by simp <;> omega) (.cells #[.slice A2 m2 k2] 26)).alloc (by simp <;> omega) (.cells #[.slice A1 m k] 27)).alloc (by simp <;> omega) (.cells #[.bool false] 4)).alloc (by simp <;> omega) (.cells #[.int .i64 0, .int .i64 0, .int .i64 0, .int .i64 0, .int .i64 0, .int .i64 0, .int .i64 0, .int .i64 0, .int .i64 0] 39)
  have X3 := ((((Box.newAt (w := w) (n := w.heap.size) [.int .i64 p.top, .int .i64 p.bank, .int .i64 p.siphon, .int .i64 p.start, .int .i64 p.positions, .int .i64 p.rate, .int .i64 p.step, .int .i64 p.pass, .int .i64 p.feed, .int .i64 p.pipe, .int .i64 p.orders, .int .i64 p.age] 23 (by simp)).alloc (.cells #[.slice A2 m2 k2] 26)).alloc (.cells #[.slice A1 m k] 27)).alloc (.cells #[.bool false] 4)).alloc (.cells #[.int .i64 0, .int .i64 0, .int .i64 0, .int .i64 0, .int .i64 0, .int .i64 0, .int .i64 0, .int .i64 0, .int .i64 0] 39)
  have X4 := (((Box.newAt (w := (w.alloc (.cells #[.int .i64 p.top, .int .i64 p.bank, .int .i64 p.siphon, .int .i64 p.start, .int .i64 p.positions, .int .i64 p.rate, .int .i64 p.step, .int .i64 p.pass, .int .i64 p.feed, .int .i64 p.pipe, .int .i64 p.orders, .int .i64 p.age] 23))) (n := w.heap.size + 1) [.slice A2 m2 k2] 26 (by simp)).alloc (.cells #[.slice A1 m k] 27)).alloc (.cells #[.bool false] 4)).alloc (.cells #[.int .i64 0, .int .i64 0, .int .i64 0, .int .i64 0, .int .i64 0, .int .i64 0, .int .i64 0, .int .i64 0, .int .i64 0] 39)
  have X5 := ((Box.newAt (w := ((w.alloc (.cells #[.int .i64 p.top, .int .i64 p.bank, .int .i64 p.siphon, .int .i64 p.start, .int .i64 p.positions, .int .i64 p.rate, .int .i64 p.step, .int .i64 p.pass, .int .i64 p.feed, .int .i64 p.pipe, .int .i64 p.orders, .int .i64 p.age] 23)).alloc (.cells #[.slice A2 m2 k2] 26))) (n := w.heap.size + 1 + 1) [.slice A1 m k] 27 (by simp)).alloc (.cells #[.bool false] 4)).alloc (.cells #[.int .i64 0, .int .i64 0, .int .i64 0, .int .i64 0, .int .i64 0, .int .i64 0, .int .i64 0, .int .i64 0, .int .i64 0] 39)
  have X6 := (Box.newAt (w := (((w.alloc (.cells #[.int .i64 p.top, .int .i64 p.bank, .int .i64 p.siphon, .int .i64 p.start, .int .i64 p.positions, .int .i64 p.rate, .int .i64 p.step, .int .i64 p.pass, .int .i64 p.feed, .int .i64 p.pipe, .int .i64 p.orders, .int .i64 p.age] 23)).alloc (.cells #[.slice A2 m2 k2] 26)).alloc (.cells #[.slice A1 m k] 27))) (n := w.heap.size + 1 + 1 + 1) [.bool false] 4 (by simp)).alloc (.cells #[.int .i64 0, .int .i64 0, .int .i64 0, .int .i64 0, .int .i64 0, .int .i64 0, .int .i64 0, .int .i64 0, .int .i64 0] 39)
  have X7 := Box.newAt (w := ((((w.alloc (.cells #[.int .i64 p.top, .int .i64 p.bank, .int .i64 p.siphon, .int .i64 p.start, .int .i64 p.positions, .int .i64 p.rate, .int .i64 p.step, .int .i64 p.pass, .int .i64 p.feed, .int .i64 p.pipe, .int .i64 p.orders, .int .i64 p.age] 23)).alloc (.cells #[.slice A2 m2 k2] 26)).alloc (.cells #[.slice A1 m k] 27)).alloc (.cells #[.bool false] 4))) (n := w.heap.size + 1 + 1 + 1 + 1) [.int .i64 0, .int .i64 0, .int .i64 0, .int .i64 0, .int .i64 0, .int .i64 0, .int .i64 0, .int .i64 0, .int .i64 0] 39 (by simp)
  generalize (((((w.alloc (.cells #[.int .i64 p.top, .int .i64 p.bank, .int .i64 p.siphon, .int .i64 p.start, .int .i64 p.positions, .int .i64 p.rate, .int .i64 p.step, .int .i64 p.pass, .int .i64 p.feed, .int .i64 p.pipe, .int .i64 p.orders, .int .i64 p.age] 23)).alloc (.cells #[.slice A2 m2 k2] 26)).alloc (.cells #[.slice A1 m k] 27)).alloc (.cells #[.bool false] 4)).alloc (.cells #[.int .i64 0, .int .i64 0, .int .i64 0, .int .i64 0, .int .i64 0, .int .i64 0, .int .i64 0, .int .i64 0, .int .i64 0] 39)) = w0 at X3 X4 X5 X6 X7 hB ⊢
  obtain ⟨X3c0, X3f0, X3c1, X3f1, X3c2, X3f2, X3c3, X3f3, X3c4, X3f4, X3c5, X3f5, X3c6, X3f6, X3c7, X3f7, X3c8, X3f8, X3c9, X3f9, X3c10, X3f10, X3c11, X3f11⟩ := X3.f12
  have X3z : w.heap.size < w0.heap.size := X3.lt
  have X4c0 : w0.cell? ⟨w.heap.size + 1, 0, none⟩ = some (.slice A2 m2 k2) := X4.cell 0
  have X4f0 : w0.frozen? ⟨w.heap.size + 1, 0, none⟩ = false := X4.free 0
  have X4z : w.heap.size + 1 < w0.heap.size := X4.lt
  go_step3
  go_wp2_with fail
  refine (bOpen_bad h h0 (Lib.hid (hC.out.later hB))).mono ?_
  rintro e w1 ⟨rfl, hb⟩
  have X3 := X3.later hb
  have X4 := X4.later hb
  have X5 := X5.later hb
  have X6 := X6.later hb
  have X7 := X7.later hb
  have hB := hB.trans (hb.mono hB.size)
  clear X3c0 X3c1 X3c2 X3c3 X3c4 X3c5 X3c6 X3c7 X3c8 X3c9 X3c10 X3c11 X3f0 X3f1 X3f2 X3f3 X3f4 X3f5 X3f6 X3f7 X3f8 X3f9 X3f10 X3f11 X3z X4c0 X4f0 X4z
  clear hb
  simp only [Pl.zero0]
  go_wp2_with fail
  have X9 := Box.new w1 [.int .i64 0, .int .i64 0, .int .i64 0, .int .i64 0, .int .i64 0, .int .i64 0, .int .i64 0, .int .i64 0, .int .i64 0, .int .i64 0, .int .i64 0, .int .i64 0, .slice none 0 0] 83
  have X3lt := X3.lt
  have X4lt := X4.lt
  have X5lt := X5.lt
  have X6lt := X6.lt
  have X7lt := X7.lt
  have X3 := X3.alloc (.cells #[.int .i64 0, .int .i64 0, .int .i64 0, .int .i64 0, .int .i64 0, .int .i64 0, .int .i64 0, .int .i64 0, .int .i64 0, .int .i64 0, .int .i64 0, .int .i64 0, .slice none 0 0] 83)
  have X4 := X4.alloc (.cells #[.int .i64 0, .int .i64 0, .int .i64 0, .int .i64 0, .int .i64 0, .int .i64 0, .int .i64 0, .int .i64 0, .int .i64 0, .int .i64 0, .int .i64 0, .int .i64 0, .slice none 0 0] 83)
  have X5 := X5.alloc (.cells #[.int .i64 0, .int .i64 0, .int .i64 0, .int .i64 0, .int .i64 0, .int .i64 0, .int .i64 0, .int .i64 0, .int .i64 0, .int .i64 0, .int .i64 0, .int .i64 0, .slice none 0 0] 83)
  have X6 := X6.alloc (.cells #[.int .i64 0, .int .i64 0, .int .i64 0, .int .i64 0, .int .i64 0, .int .i64 0, .int .i64 0, .int .i64 0, .int .i64 0, .int .i64 0, .int .i64 0, .int .i64 0, .slice none 0 0] 83)
  have X7 := X7.alloc (.cells #[.int .i64 0, .int .i64 0, .int .i64 0, .int .i64 0, .int .i64 0, .int .i64 0, .int .i64 0, .int .i64 0, .int .i64 0, .int .i64 0, .int .i64 0, .int .i64 0, .slice none 0 0] 83)
  have hB := hB.alloc hB.size (.cells #[.int .i64 0, .int .i64 0, .int .i64 0, .int .i64 0, .int .i64 0, .int .i64 0, .int .i64 0, .int .i64 0, .int .i64 0, .int .i64 0, .int .i64 0, .int .i64 0, .slice none 0 0] 83)
  generalize hgG : w1.heap.size = G at X9 X3 X3lt X4 X4lt X5 X5lt X6 X6lt X7 X7lt ⊢
  generalize w1.alloc (.cells #[.int .i64 0, .int .i64 0, .int .i64 0, .int .i64 0, .int .i64 0, .int .i64 0, .int .i64 0, .int .i64 0, .int .i64 0, .int .i64 0, .int .i64 0, .int .i64 0, .slice none 0 0] 83) = w2 at X9 X3 X3lt X4 X4lt X5 X5lt X6 X6lt X7 X7lt hB ⊢
  have _hGH : w.heap.size < G := X3lt
  have _hG1 : w.heap.size + 1 < G := X4lt
  have _hG2 : w.heap.size + 1 + 1 < G := X5lt
  have _hG3 : w.heap.size + 1 + 1 + 1 < G := X6lt
  have _hG4 : w.heap.size + 1 + 1 + 1 + 1 < G := X7lt
  clear X3lt X4lt X5lt X6lt X7lt
  have X6c0 : w2.cell? ⟨w.heap.size + 1 + 1 + 1, 0, none⟩ = some (.bool false) := X6.cell 0
  have X6f0 : w2.frozen? ⟨w.heap.size + 1 + 1 + 1, 0, none⟩ = false := X6.free 0
  have X6z : w.heap.size + 1 + 1 + 1 < w2.heap.size := X6.lt
  obtain ⟨X7c0, X7f0, X7c1, X7f1, X7c2, X7f2, X7c3, X7f3, X7c4, X7f4, X7c5, X7f5, X7c6, X7f6, X7c7, X7f7, X7c8, X7f8⟩ := X7.f9
  have X7z : w.heap.size + 1 + 1 + 1 + 1 < w2.heap.size := X7.lt
  go_wp2_with fail
  go_region
  have Z6 := X6.set 0 (.bool false)
  have Z7 := (X7.other (a := ⟨w.heap.size + 1 + 1 + 1, 0, none⟩) (by simp <;> omega) (.bool false))
  have Z7 := (((((((((Z7.set 0 (.int .i64 0)).set 1 (.int .i64 0)).set 2 (.int .i64 0)).set 3 (.int .i64 0)).set 4 (.int .i64 0)).set 5 (.int .i64 0)).set 6 (.int .i64 0)).set 7 (.int .i64 0)).set 8 (.int .i64 0))
  have Z6 := (((((((((Z6.other (a := ⟨w.heap.size + 1 + 1 + 1 + 1, 0, none⟩) (by simp <;> omega) (.int .i64 0)).other (a := ⟨w.heap.size + 1 + 1 + 1 + 1, 1, none⟩) (by simp <;> omega) (.int .i64 0)).other (a := ⟨w.heap.size + 1 + 1 + 1 + 1, 2, none⟩) (by simp <;> omega) (.int .i64 0)).other (a := ⟨w.heap.size + 1 + 1 + 1 + 1, 3, none⟩) (by simp <;> omega) (.int .i64 0)).other (a := ⟨w.heap.size + 1 + 1 + 1 + 1, 4, none⟩) (by simp <;> omega) (.int .i64 0)).other (a := ⟨w.heap.size + 1 + 1 + 1 + 1, 5, none⟩) (by simp <;> omega) (.int .i64 0)).other (a := ⟨w.heap.size + 1 + 1 + 1 + 1, 6, none⟩) (by simp <;> omega) (.int .i64 0)).other (a := ⟨w.heap.size + 1 + 1 + 1 + 1, 7, none⟩) (by simp <;> omega) (.int .i64 0)).other (a := ⟨w.heap.size + 1 + 1 + 1 + 1, 8, none⟩) (by simp <;> omega) (.int .i64 0))
  have hB := (hB.setCell (p := ⟨w.heap.size + 1 + 1 + 1, 0, none⟩) (by simp <;> omega) (.bool false))
  have hB := (((((((((hB.setCell (p := ⟨w.heap.size + 1 + 1 + 1 + 1, 0, none⟩) (by simp <;> omega) (.int .i64 0)).setCell (p := ⟨w.heap.size + 1 + 1 + 1 + 1, 1, none⟩) (by simp <;> omega) (.int .i64 0)).setCell (p := ⟨w.heap.size + 1 + 1 + 1 + 1, 2, none⟩) (by simp <;> omega) (.int .i64 0)).setCell (p := ⟨w.heap.size + 1 + 1 + 1 + 1, 3, none⟩) (by simp <;> omega) (.int .i64 0)).setCell (p := ⟨w.heap.size + 1 + 1 + 1 + 1, 4, none⟩) (by simp <;> omega) (.int .i64 0)).setCell (p := ⟨w.heap.size + 1 + 1 + 1 + 1, 5, none⟩) (by simp <;> omega) (.int .i64 0)).setCell (p := ⟨w.heap.size + 1 + 1 + 1 + 1, 6, none⟩) (by simp <;> omega) (.int .i64 0)).setCell (p := ⟨w.heap.size + 1 + 1 + 1 + 1, 7, none⟩) (by simp <;> omega) (.int .i64 0)).setCell (p := ⟨w.heap.size + 1 + 1 + 1 + 1, 8, none⟩) (by simp <;> omega) (.int .i64 0))
  go_wp2
  rw [Exit.noGoto_ret]
  generalize ((((((((((w2.setCell ⟨w.heap.size + 1 + 1 + 1, 0, none⟩ (.bool false)).setCell ⟨w.heap.size + 1 + 1 + 1 + 1, 0, none⟩ (.int .i64 0)).setCell ⟨w.heap.size + 1 + 1 + 1 + 1, 1, none⟩ (.int .i64 0)).setCell ⟨w.heap.size + 1 + 1 + 1 + 1, 2, none⟩ (.int .i64 0)).setCell ⟨w.heap.size + 1 + 1 + 1 + 1, 3, none⟩ (.int .i64 0)).setCell ⟨w.heap.size + 1 + 1 + 1 + 1, 4, none⟩ (.int .i64 0)).setCell ⟨w.heap.size + 1 + 1 + 1 + 1, 5, none⟩ (.int .i64 0)).setCell ⟨w.heap.size + 1 + 1 + 1 + 1, 6, none⟩ (.int .i64 0)).setCell ⟨w.heap.size + 1 + 1 + 1 + 1, 7, none⟩ (.int .i64 0)).setCell ⟨w.heap.size + 1 + 1 + 1 + 1, 8, none⟩ (.int .i64 0)) = W at Z6 Z7 hB ⊢
  have Z6c0 : W.cell? ⟨w.heap.size + 1 + 1 + 1, 0, none⟩ = some (.bool false) := Z6.cell 0
  obtain ⟨Z7c0, Z7c1, Z7c2, Z7c3, Z7c4, Z7c5, Z7c6, Z7c7, Z7c8⟩ := Z7.c9
  refine ⟨_, (by simp [results, Try.results14, go_sem, Z6c0, Z7c0, Z7c1, Z7c2, Z7c3, Z7c4, Z7c5, Z7c6, Z7c7, Z7c8, Fw.zero, St.zero, Sh.zero] : _ = Result.ok (Value.tuple #[.bool false, Fw.zero.v, .int .i64 er]) _), ?_⟩
  exact ⟨rfl, hB.drew⟩
theorem bCert_1 (p : Pl) (c : List Ln) (b : List Iq) (A1 A2 : Option Addr) (m k m2 k2 : Nat) (w : World) (er : Int) (h : Hid (askT p c = 0)) (hb1 : Hid (barT b = er)) (h0 : Hid (er ≠ 0)) (hC : Hid (CodeAt w w.heap.size (.slice A2 m2 k2) c)) (_hQ : Hid (BarAt w w.heap.size (.slice A1 m k) b)) :
    Calls Try.prog 14 #[p.v, .agg #[.slice A2 m2 k2], .slice A1 m k] w fun e w' => e = .returned (.tuple #[.bool false, Fw.zero.v, .int .i64 er]) ∧ Below w.heap.size w w' := by
  have hd : (er != 0) = true := by simp [h0.out]
  refine calls_of_wp_marks Try.func14 rfl ?_
  simp only [Try.ntmps14, List.size_toArray, List.length_cons, List.length_nil, Nat.reduceAdd, Nat.reduceSub, Array.replicate_succ, Array.replicate_zero, List.push_toArray, List.append_toArray, List.nil_append, List.cons_append]
  go_wp2_with fail
  have hB := (((((Below.refl w.heap.size w).alloc (by simp <;> omega) (.cells #[.int .i64 p.top, .int .i64 p.bank, .int .i64 p.siphon, .int .i64 p.start, .int .i64 p.positions, .int .i64 p.rate, .int .i64 p.step, .int .i64 p.pass, .int .i64 p.feed, .int .i64 p.pipe, .int .i64 p.orders, .int .i64 p.age] 23)).alloc (by simp <;> omega) (.cells #[.slice A2 m2 k2] 26)).alloc (by simp <;> omega) (.cells #[.slice A1 m k] 27)).alloc (by simp <;> omega) (.cells #[.bool false] 4)).alloc (by simp <;> omega) (.cells #[.int .i64 0, .int .i64 0, .int .i64 0, .int .i64 0, .int .i64 0, .int .i64 0, .int .i64 0, .int .i64 0, .int .i64 0] 39)
  have X3 := ((((Box.newAt (w := w) (n := w.heap.size) [.int .i64 p.top, .int .i64 p.bank, .int .i64 p.siphon, .int .i64 p.start, .int .i64 p.positions, .int .i64 p.rate, .int .i64 p.step, .int .i64 p.pass, .int .i64 p.feed, .int .i64 p.pipe, .int .i64 p.orders, .int .i64 p.age] 23 (by simp)).alloc (.cells #[.slice A2 m2 k2] 26)).alloc (.cells #[.slice A1 m k] 27)).alloc (.cells #[.bool false] 4)).alloc (.cells #[.int .i64 0, .int .i64 0, .int .i64 0, .int .i64 0, .int .i64 0, .int .i64 0, .int .i64 0, .int .i64 0, .int .i64 0] 39)
  have X4 := (((Box.newAt (w := (w.alloc (.cells #[.int .i64 p.top, .int .i64 p.bank, .int .i64 p.siphon, .int .i64 p.start, .int .i64 p.positions, .int .i64 p.rate, .int .i64 p.step, .int .i64 p.pass, .int .i64 p.feed, .int .i64 p.pipe, .int .i64 p.orders, .int .i64 p.age] 23))) (n := w.heap.size + 1) [.slice A2 m2 k2] 26 (by simp)).alloc (.cells #[.slice A1 m k] 27)).alloc (.cells #[.bool false] 4)).alloc (.cells #[.int .i64 0, .int .i64 0, .int .i64 0, .int .i64 0, .int .i64 0, .int .i64 0, .int .i64 0, .int .i64 0, .int .i64 0] 39)
  have X5 := ((Box.newAt (w := ((w.alloc (.cells #[.int .i64 p.top, .int .i64 p.bank, .int .i64 p.siphon, .int .i64 p.start, .int .i64 p.positions, .int .i64 p.rate, .int .i64 p.step, .int .i64 p.pass, .int .i64 p.feed, .int .i64 p.pipe, .int .i64 p.orders, .int .i64 p.age] 23)).alloc (.cells #[.slice A2 m2 k2] 26))) (n := w.heap.size + 1 + 1) [.slice A1 m k] 27 (by simp)).alloc (.cells #[.bool false] 4)).alloc (.cells #[.int .i64 0, .int .i64 0, .int .i64 0, .int .i64 0, .int .i64 0, .int .i64 0, .int .i64 0, .int .i64 0, .int .i64 0] 39)
  have X6 := (Box.newAt (w := (((w.alloc (.cells #[.int .i64 p.top, .int .i64 p.bank, .int .i64 p.siphon, .int .i64 p.start, .int .i64 p.positions, .int .i64 p.rate, .int .i64 p.step, .int .i64 p.pass, .int .i64 p.feed, .int .i64 p.pipe, .int .i64 p.orders, .int .i64 p.age] 23)).alloc (.cells #[.slice A2 m2 k2] 26)).alloc (.cells #[.slice A1 m k] 27))) (n := w.heap.size + 1 + 1 + 1) [.bool false] 4 (by simp)).alloc (.cells #[.int .i64 0, .int .i64 0, .int .i64 0, .int .i64 0, .int .i64 0, .int .i64 0, .int .i64 0, .int .i64 0, .int .i64 0] 39)
  have X7 := Box.newAt (w := ((((w.alloc (.cells #[.int .i64 p.top, .int .i64 p.bank, .int .i64 p.siphon, .int .i64 p.start, .int .i64 p.positions, .int .i64 p.rate, .int .i64 p.step, .int .i64 p.pass, .int .i64 p.feed, .int .i64 p.pipe, .int .i64 p.orders, .int .i64 p.age] 23)).alloc (.cells #[.slice A2 m2 k2] 26)).alloc (.cells #[.slice A1 m k] 27)).alloc (.cells #[.bool false] 4))) (n := w.heap.size + 1 + 1 + 1 + 1) [.int .i64 0, .int .i64 0, .int .i64 0, .int .i64 0, .int .i64 0, .int .i64 0, .int .i64 0, .int .i64 0, .int .i64 0] 39 (by simp)
  generalize (((((w.alloc (.cells #[.int .i64 p.top, .int .i64 p.bank, .int .i64 p.siphon, .int .i64 p.start, .int .i64 p.positions, .int .i64 p.rate, .int .i64 p.step, .int .i64 p.pass, .int .i64 p.feed, .int .i64 p.pipe, .int .i64 p.orders, .int .i64 p.age] 23)).alloc (.cells #[.slice A2 m2 k2] 26)).alloc (.cells #[.slice A1 m k] 27)).alloc (.cells #[.bool false] 4)).alloc (.cells #[.int .i64 0, .int .i64 0, .int .i64 0, .int .i64 0, .int .i64 0, .int .i64 0, .int .i64 0, .int .i64 0, .int .i64 0] 39)) = w0 at X3 X4 X5 X6 X7 hB ⊢
  obtain ⟨X3c0, X3f0, X3c1, X3f1, X3c2, X3f2, X3c3, X3f3, X3c4, X3f4, X3c5, X3f5, X3c6, X3f6, X3c7, X3f7, X3c8, X3f8, X3c9, X3f9, X3c10, X3f10, X3c11, X3f11⟩ := X3.f12
  have X3z : w.heap.size < w0.heap.size := X3.lt
  have X4c0 : w0.cell? ⟨w.heap.size + 1, 0, none⟩ = some (.slice A2 m2 k2) := X4.cell 0
  have X4f0 : w0.frozen? ⟨w.heap.size + 1, 0, none⟩ = false := X4.free 0
  have X4z : w.heap.size + 1 < w0.heap.size := X4.lt
  go_step3
  go_wp2_with fail
  refine (bOpen_good p c _ _ (Lib.hid (ask_zero h.out).1) (Lib.hid (ask_zero h.out).2) (Lib.hid (hC.out.later hB))).mono ?_
  rintro e w1 ⟨rfl, hb⟩
  have X3 := X3.later hb
  have X4 := X4.later hb
  have X5 := X5.later hb
  have X6 := X6.later hb
  have X7 := X7.later hb
  have hB := hB.trans (hb.mono hB.size)
  clear X3c0 X3c1 X3c2 X3c3 X3c4 X3c5 X3c6 X3c7 X3c8 X3c9 X3c10 X3c11 X3f0 X3f1 X3f2 X3f3 X3f4 X3f5 X3f6 X3f7 X3f8 X3f9 X3f10 X3f11 X3z X4c0 X4f0 X4z
  clear hb
  go_upto_region 2 with fail
  have X9 := Box.new w1 [.int .i64 p.top, .int .i64 p.bank, .int .i64 p.siphon, .int .i64 p.start, .int .i64 p.positions, .int .i64 p.rate, .int .i64 p.step, .int .i64 p.pass, .int .i64 p.feed, .int .i64 p.pipe, .int .i64 p.orders, .int .i64 p.age, .slice A2 m2 k2] 83
  have X3lt := X3.lt
  have X4lt := X4.lt
  have X5lt := X5.lt
  have X6lt := X6.lt
  have X7lt := X7.lt
  have X3 := X3.alloc (.cells #[.int .i64 p.top, .int .i64 p.bank, .int .i64 p.siphon, .int .i64 p.start, .int .i64 p.positions, .int .i64 p.rate, .int .i64 p.step, .int .i64 p.pass, .int .i64 p.feed, .int .i64 p.pipe, .int .i64 p.orders, .int .i64 p.age, .slice A2 m2 k2] 83)
  have X4 := X4.alloc (.cells #[.int .i64 p.top, .int .i64 p.bank, .int .i64 p.siphon, .int .i64 p.start, .int .i64 p.positions, .int .i64 p.rate, .int .i64 p.step, .int .i64 p.pass, .int .i64 p.feed, .int .i64 p.pipe, .int .i64 p.orders, .int .i64 p.age, .slice A2 m2 k2] 83)
  have X5 := X5.alloc (.cells #[.int .i64 p.top, .int .i64 p.bank, .int .i64 p.siphon, .int .i64 p.start, .int .i64 p.positions, .int .i64 p.rate, .int .i64 p.step, .int .i64 p.pass, .int .i64 p.feed, .int .i64 p.pipe, .int .i64 p.orders, .int .i64 p.age, .slice A2 m2 k2] 83)
  have X6 := X6.alloc (.cells #[.int .i64 p.top, .int .i64 p.bank, .int .i64 p.siphon, .int .i64 p.start, .int .i64 p.positions, .int .i64 p.rate, .int .i64 p.step, .int .i64 p.pass, .int .i64 p.feed, .int .i64 p.pipe, .int .i64 p.orders, .int .i64 p.age, .slice A2 m2 k2] 83)
  have X7 := X7.alloc (.cells #[.int .i64 p.top, .int .i64 p.bank, .int .i64 p.siphon, .int .i64 p.start, .int .i64 p.positions, .int .i64 p.rate, .int .i64 p.step, .int .i64 p.pass, .int .i64 p.feed, .int .i64 p.pipe, .int .i64 p.orders, .int .i64 p.age, .slice A2 m2 k2] 83)
  have hB := hB.alloc hB.size (.cells #[.int .i64 p.top, .int .i64 p.bank, .int .i64 p.siphon, .int .i64 p.start, .int .i64 p.positions, .int .i64 p.rate, .int .i64 p.step, .int .i64 p.pass, .int .i64 p.feed, .int .i64 p.pipe, .int .i64 p.orders, .int .i64 p.age, .slice A2 m2 k2] 83)
  generalize hgG : w1.heap.size = G at X9 X3 X3lt X4 X4lt X5 X5lt X6 X6lt X7 X7lt ⊢
  generalize w1.alloc (.cells #[.int .i64 p.top, .int .i64 p.bank, .int .i64 p.siphon, .int .i64 p.start, .int .i64 p.positions, .int .i64 p.rate, .int .i64 p.step, .int .i64 p.pass, .int .i64 p.feed, .int .i64 p.pipe, .int .i64 p.orders, .int .i64 p.age, .slice A2 m2 k2] 83) = w2 at X9 X3 X3lt X4 X4lt X5 X5lt X6 X6lt X7 X7lt hB ⊢
  have _hGH : w.heap.size < G := X3lt
  have _hG1 : w.heap.size + 1 < G := X4lt
  have _hG2 : w.heap.size + 1 + 1 < G := X5lt
  have _hG3 : w.heap.size + 1 + 1 + 1 < G := X6lt
  have _hG4 : w.heap.size + 1 + 1 + 1 + 1 < G := X7lt
  clear X3lt X4lt X5lt X6lt X7lt
  have X5c0 : w2.cell? ⟨w.heap.size + 1 + 1, 0, none⟩ = some (.slice A1 m k) := X5.cell 0
  have X5f0 : w2.frozen? ⟨w.heap.size + 1 + 1, 0, none⟩ = false := X5.free 0
  have X5z : w.heap.size + 1 + 1 < w2.heap.size := X5.lt
  go_wp2_with fail
  refine (bCheck_any b _ _ er hb1 ((_hQ.out.below hB).more hB.size)).mono ?_
  rintro e w3 ⟨rfl, hb⟩
  have X3 := X3.later hb
  have X4 := X4.later hb
  have X5 := X5.later hb
  have X6 := X6.later hb
  have X7 := X7.later hb
  have X9 := X9.later hb
  have hB := hB.trans (hb.mono hB.size)
  clear X5c0 X5f0 X5z
  clear hb
  have X6c0 : w3.cell? ⟨w.heap.size + 1 + 1 + 1, 0, none⟩ = some (.bool false) := X6.cell 0
  have X6f0 : w3.frozen? ⟨w.heap.size + 1 + 1 + 1, 0, none⟩ = false := X6.free 0
  have X6z : w.heap.size + 1 + 1 + 1 < w3.heap.size := X6.lt
  obtain ⟨X7c0, X7f0, X7c1, X7f1, X7c2, X7f2, X7c3, X7f3, X7c4, X7f4, X7c5, X7f5, X7c6, X7f6, X7c7, X7f7, X7c8, X7f8⟩ := X7.f9
  have X7z : w.heap.size + 1 + 1 + 1 + 1 < w3.heap.size := X7.lt
  go_wp2_with fail
  go_region
  have Z6 := X6.set 0 (.bool false)
  have Z7 := (X7.other (a := ⟨w.heap.size + 1 + 1 + 1, 0, none⟩) (by simp <;> omega) (.bool false))
  have Z7 := (((((((((Z7.set 0 (.int .i64 0)).set 1 (.int .i64 0)).set 2 (.int .i64 0)).set 3 (.int .i64 0)).set 4 (.int .i64 0)).set 5 (.int .i64 0)).set 6 (.int .i64 0)).set 7 (.int .i64 0)).set 8 (.int .i64 0))
  have Z6 := (((((((((Z6.other (a := ⟨w.heap.size + 1 + 1 + 1 + 1, 0, none⟩) (by simp <;> omega) (.int .i64 0)).other (a := ⟨w.heap.size + 1 + 1 + 1 + 1, 1, none⟩) (by simp <;> omega) (.int .i64 0)).other (a := ⟨w.heap.size + 1 + 1 + 1 + 1, 2, none⟩) (by simp <;> omega) (.int .i64 0)).other (a := ⟨w.heap.size + 1 + 1 + 1 + 1, 3, none⟩) (by simp <;> omega) (.int .i64 0)).other (a := ⟨w.heap.size + 1 + 1 + 1 + 1, 4, none⟩) (by simp <;> omega) (.int .i64 0)).other (a := ⟨w.heap.size + 1 + 1 + 1 + 1, 5, none⟩) (by simp <;> omega) (.int .i64 0)).other (a := ⟨w.heap.size + 1 + 1 + 1 + 1, 6, none⟩) (by simp <;> omega) (.int .i64 0)).other (a := ⟨w.heap.size + 1 + 1 + 1 + 1, 7, none⟩) (by simp <;> omega) (.int .i64 0)).other (a := ⟨w.heap.size + 1 + 1 + 1 + 1, 8, none⟩) (by simp <;> omega) (.int .i64 0))
  have hB := (hB.setCell (p := ⟨w.heap.size + 1 + 1 + 1, 0, none⟩) (by simp <;> omega) (.bool false))
  have hB := (((((((((hB.setCell (p := ⟨w.heap.size + 1 + 1 + 1 + 1, 0, none⟩) (by simp <;> omega) (.int .i64 0)).setCell (p := ⟨w.heap.size + 1 + 1 + 1 + 1, 1, none⟩) (by simp <;> omega) (.int .i64 0)).setCell (p := ⟨w.heap.size + 1 + 1 + 1 + 1, 2, none⟩) (by simp <;> omega) (.int .i64 0)).setCell (p := ⟨w.heap.size + 1 + 1 + 1 + 1, 3, none⟩) (by simp <;> omega) (.int .i64 0)).setCell (p := ⟨w.heap.size + 1 + 1 + 1 + 1, 4, none⟩) (by simp <;> omega) (.int .i64 0)).setCell (p := ⟨w.heap.size + 1 + 1 + 1 + 1, 5, none⟩) (by simp <;> omega) (.int .i64 0)).setCell (p := ⟨w.heap.size + 1 + 1 + 1 + 1, 6, none⟩) (by simp <;> omega) (.int .i64 0)).setCell (p := ⟨w.heap.size + 1 + 1 + 1 + 1, 7, none⟩) (by simp <;> omega) (.int .i64 0)).setCell (p := ⟨w.heap.size + 1 + 1 + 1 + 1, 8, none⟩) (by simp <;> omega) (.int .i64 0))
  go_wp2
  rw [Exit.noGoto_ret]
  generalize ((((((((((w3.setCell ⟨w.heap.size + 1 + 1 + 1, 0, none⟩ (.bool false)).setCell ⟨w.heap.size + 1 + 1 + 1 + 1, 0, none⟩ (.int .i64 0)).setCell ⟨w.heap.size + 1 + 1 + 1 + 1, 1, none⟩ (.int .i64 0)).setCell ⟨w.heap.size + 1 + 1 + 1 + 1, 2, none⟩ (.int .i64 0)).setCell ⟨w.heap.size + 1 + 1 + 1 + 1, 3, none⟩ (.int .i64 0)).setCell ⟨w.heap.size + 1 + 1 + 1 + 1, 4, none⟩ (.int .i64 0)).setCell ⟨w.heap.size + 1 + 1 + 1 + 1, 5, none⟩ (.int .i64 0)).setCell ⟨w.heap.size + 1 + 1 + 1 + 1, 6, none⟩ (.int .i64 0)).setCell ⟨w.heap.size + 1 + 1 + 1 + 1, 7, none⟩ (.int .i64 0)).setCell ⟨w.heap.size + 1 + 1 + 1 + 1, 8, none⟩ (.int .i64 0)) = W at Z6 Z7 hB ⊢
  have Z6c0 : W.cell? ⟨w.heap.size + 1 + 1 + 1, 0, none⟩ = some (.bool false) := Z6.cell 0
  obtain ⟨Z7c0, Z7c1, Z7c2, Z7c3, Z7c4, Z7c5, Z7c6, Z7c7, Z7c8⟩ := Z7.c9
  refine ⟨_, (by simp [results, Try.results14, go_sem, Z6c0, Z7c0, Z7c1, Z7c2, Z7c3, Z7c4, Z7c5, Z7c6, Z7c7, Z7c8, Fw.zero, St.zero, Sh.zero] : _ = Result.ok (Value.tuple #[.bool false, Fw.zero.v, .int .i64 er]) _), ?_⟩
  exact ⟨rfl, hB.drew⟩
theorem begin_nums {p : Pl} (h : p.checkT = 0) : Hid (p.beginT.1.numsB = true) := by
  obtain ⟨hv, _⟩ := Pl.check_zero h
  have h1 := hv.start
  have h2 := hv.top
  have h3 := hv.age
  rw [Hid, Pl.beginT, if_pos h]
  simp only [St.numsB]
  rw [inI_in (by omega), inI_in (by omega), inI_in (by omega)]
  rfl
theorem bCert_2 (p : Pl) (c : List Ln) (b : List Iq) (A1 A2 : Option Addr) (m k m2 k2 : Nat) (w : World) (h : Hid (askT p c = 0)) (hb1 : Hid (barT b = 0)) (hin : Hid (inB b p.beginT.1 = false)) (b0 b1 b2 b3 b4 b5 be : Int) (hbe : Hid (p.beginT = (⟨b0, b1, b2, b3, b4, b5⟩, be))) (hC : Hid (CodeAt w w.heap.size (.slice A2 m2 k2) c)) (_hQ : Hid (BarAt w w.heap.size (.slice A1 m k) b)) :
    Calls Try.prog 14 #[p.v, .agg #[.slice A2 m2 k2], .slice A1 m k] w fun e w' => e = .returned (.tuple #[.bool false, (Fw.mk 1 ⟨b0, b1, b2, b3, b4, b5⟩ Sh.zero).v, .int .i64 0]) ∧ Below w.heap.size w w' := by
  refine calls_of_wp_marks Try.func14 rfl ?_
  simp only [Try.ntmps14, List.size_toArray, List.length_cons, List.length_nil, Nat.reduceAdd, Nat.reduceSub, Array.replicate_succ, Array.replicate_zero, List.push_toArray, List.append_toArray, List.nil_append, List.cons_append]
  go_wp2_with fail
  have hB := (((((Below.refl w.heap.size w).alloc (by simp <;> omega) (.cells #[.int .i64 p.top, .int .i64 p.bank, .int .i64 p.siphon, .int .i64 p.start, .int .i64 p.positions, .int .i64 p.rate, .int .i64 p.step, .int .i64 p.pass, .int .i64 p.feed, .int .i64 p.pipe, .int .i64 p.orders, .int .i64 p.age] 23)).alloc (by simp <;> omega) (.cells #[.slice A2 m2 k2] 26)).alloc (by simp <;> omega) (.cells #[.slice A1 m k] 27)).alloc (by simp <;> omega) (.cells #[.bool false] 4)).alloc (by simp <;> omega) (.cells #[.int .i64 0, .int .i64 0, .int .i64 0, .int .i64 0, .int .i64 0, .int .i64 0, .int .i64 0, .int .i64 0, .int .i64 0] 39)
  have X3 := ((((Box.newAt (w := w) (n := w.heap.size) [.int .i64 p.top, .int .i64 p.bank, .int .i64 p.siphon, .int .i64 p.start, .int .i64 p.positions, .int .i64 p.rate, .int .i64 p.step, .int .i64 p.pass, .int .i64 p.feed, .int .i64 p.pipe, .int .i64 p.orders, .int .i64 p.age] 23 (by simp)).alloc (.cells #[.slice A2 m2 k2] 26)).alloc (.cells #[.slice A1 m k] 27)).alloc (.cells #[.bool false] 4)).alloc (.cells #[.int .i64 0, .int .i64 0, .int .i64 0, .int .i64 0, .int .i64 0, .int .i64 0, .int .i64 0, .int .i64 0, .int .i64 0] 39)
  have X4 := (((Box.newAt (w := (w.alloc (.cells #[.int .i64 p.top, .int .i64 p.bank, .int .i64 p.siphon, .int .i64 p.start, .int .i64 p.positions, .int .i64 p.rate, .int .i64 p.step, .int .i64 p.pass, .int .i64 p.feed, .int .i64 p.pipe, .int .i64 p.orders, .int .i64 p.age] 23))) (n := w.heap.size + 1) [.slice A2 m2 k2] 26 (by simp)).alloc (.cells #[.slice A1 m k] 27)).alloc (.cells #[.bool false] 4)).alloc (.cells #[.int .i64 0, .int .i64 0, .int .i64 0, .int .i64 0, .int .i64 0, .int .i64 0, .int .i64 0, .int .i64 0, .int .i64 0] 39)
  have X5 := ((Box.newAt (w := ((w.alloc (.cells #[.int .i64 p.top, .int .i64 p.bank, .int .i64 p.siphon, .int .i64 p.start, .int .i64 p.positions, .int .i64 p.rate, .int .i64 p.step, .int .i64 p.pass, .int .i64 p.feed, .int .i64 p.pipe, .int .i64 p.orders, .int .i64 p.age] 23)).alloc (.cells #[.slice A2 m2 k2] 26))) (n := w.heap.size + 1 + 1) [.slice A1 m k] 27 (by simp)).alloc (.cells #[.bool false] 4)).alloc (.cells #[.int .i64 0, .int .i64 0, .int .i64 0, .int .i64 0, .int .i64 0, .int .i64 0, .int .i64 0, .int .i64 0, .int .i64 0] 39)
  have X6 := (Box.newAt (w := (((w.alloc (.cells #[.int .i64 p.top, .int .i64 p.bank, .int .i64 p.siphon, .int .i64 p.start, .int .i64 p.positions, .int .i64 p.rate, .int .i64 p.step, .int .i64 p.pass, .int .i64 p.feed, .int .i64 p.pipe, .int .i64 p.orders, .int .i64 p.age] 23)).alloc (.cells #[.slice A2 m2 k2] 26)).alloc (.cells #[.slice A1 m k] 27))) (n := w.heap.size + 1 + 1 + 1) [.bool false] 4 (by simp)).alloc (.cells #[.int .i64 0, .int .i64 0, .int .i64 0, .int .i64 0, .int .i64 0, .int .i64 0, .int .i64 0, .int .i64 0, .int .i64 0] 39)
  have X7 := Box.newAt (w := ((((w.alloc (.cells #[.int .i64 p.top, .int .i64 p.bank, .int .i64 p.siphon, .int .i64 p.start, .int .i64 p.positions, .int .i64 p.rate, .int .i64 p.step, .int .i64 p.pass, .int .i64 p.feed, .int .i64 p.pipe, .int .i64 p.orders, .int .i64 p.age] 23)).alloc (.cells #[.slice A2 m2 k2] 26)).alloc (.cells #[.slice A1 m k] 27)).alloc (.cells #[.bool false] 4))) (n := w.heap.size + 1 + 1 + 1 + 1) [.int .i64 0, .int .i64 0, .int .i64 0, .int .i64 0, .int .i64 0, .int .i64 0, .int .i64 0, .int .i64 0, .int .i64 0] 39 (by simp)
  generalize (((((w.alloc (.cells #[.int .i64 p.top, .int .i64 p.bank, .int .i64 p.siphon, .int .i64 p.start, .int .i64 p.positions, .int .i64 p.rate, .int .i64 p.step, .int .i64 p.pass, .int .i64 p.feed, .int .i64 p.pipe, .int .i64 p.orders, .int .i64 p.age] 23)).alloc (.cells #[.slice A2 m2 k2] 26)).alloc (.cells #[.slice A1 m k] 27)).alloc (.cells #[.bool false] 4)).alloc (.cells #[.int .i64 0, .int .i64 0, .int .i64 0, .int .i64 0, .int .i64 0, .int .i64 0, .int .i64 0, .int .i64 0, .int .i64 0] 39)) = w0 at X3 X4 X5 X6 X7 hB ⊢
  obtain ⟨X3c0, X3f0, X3c1, X3f1, X3c2, X3f2, X3c3, X3f3, X3c4, X3f4, X3c5, X3f5, X3c6, X3f6, X3c7, X3f7, X3c8, X3f8, X3c9, X3f9, X3c10, X3f10, X3c11, X3f11⟩ := X3.f12
  have X3z : w.heap.size < w0.heap.size := X3.lt
  have X4c0 : w0.cell? ⟨w.heap.size + 1, 0, none⟩ = some (.slice A2 m2 k2) := X4.cell 0
  have X4f0 : w0.frozen? ⟨w.heap.size + 1, 0, none⟩ = false := X4.free 0
  have X4z : w.heap.size + 1 < w0.heap.size := X4.lt
  go_step3
  go_wp2_with fail
  refine (bOpen_good p c _ _ (Lib.hid (ask_zero h.out).1) (Lib.hid (ask_zero h.out).2) (Lib.hid (hC.out.later hB))).mono ?_
  rintro e w1 ⟨rfl, hb⟩
  have X3 := X3.later hb
  have X4 := X4.later hb
  have X5 := X5.later hb
  have X6 := X6.later hb
  have X7 := X7.later hb
  have hB := hB.trans (hb.mono hB.size)
  clear X3c0 X3c1 X3c2 X3c3 X3c4 X3c5 X3c6 X3c7 X3c8 X3c9 X3c10 X3c11 X3f0 X3f1 X3f2 X3f3 X3f4 X3f5 X3f6 X3f7 X3f8 X3f9 X3f10 X3f11 X3z X4c0 X4f0 X4z
  clear hb
  go_upto_region 2 with fail
  have X9 := Box.new w1 [.int .i64 p.top, .int .i64 p.bank, .int .i64 p.siphon, .int .i64 p.start, .int .i64 p.positions, .int .i64 p.rate, .int .i64 p.step, .int .i64 p.pass, .int .i64 p.feed, .int .i64 p.pipe, .int .i64 p.orders, .int .i64 p.age, .slice A2 m2 k2] 83
  have X3lt := X3.lt
  have X4lt := X4.lt
  have X5lt := X5.lt
  have X6lt := X6.lt
  have X7lt := X7.lt
  have X3 := X3.alloc (.cells #[.int .i64 p.top, .int .i64 p.bank, .int .i64 p.siphon, .int .i64 p.start, .int .i64 p.positions, .int .i64 p.rate, .int .i64 p.step, .int .i64 p.pass, .int .i64 p.feed, .int .i64 p.pipe, .int .i64 p.orders, .int .i64 p.age, .slice A2 m2 k2] 83)
  have X4 := X4.alloc (.cells #[.int .i64 p.top, .int .i64 p.bank, .int .i64 p.siphon, .int .i64 p.start, .int .i64 p.positions, .int .i64 p.rate, .int .i64 p.step, .int .i64 p.pass, .int .i64 p.feed, .int .i64 p.pipe, .int .i64 p.orders, .int .i64 p.age, .slice A2 m2 k2] 83)
  have X5 := X5.alloc (.cells #[.int .i64 p.top, .int .i64 p.bank, .int .i64 p.siphon, .int .i64 p.start, .int .i64 p.positions, .int .i64 p.rate, .int .i64 p.step, .int .i64 p.pass, .int .i64 p.feed, .int .i64 p.pipe, .int .i64 p.orders, .int .i64 p.age, .slice A2 m2 k2] 83)
  have X6 := X6.alloc (.cells #[.int .i64 p.top, .int .i64 p.bank, .int .i64 p.siphon, .int .i64 p.start, .int .i64 p.positions, .int .i64 p.rate, .int .i64 p.step, .int .i64 p.pass, .int .i64 p.feed, .int .i64 p.pipe, .int .i64 p.orders, .int .i64 p.age, .slice A2 m2 k2] 83)
  have X7 := X7.alloc (.cells #[.int .i64 p.top, .int .i64 p.bank, .int .i64 p.siphon, .int .i64 p.start, .int .i64 p.positions, .int .i64 p.rate, .int .i64 p.step, .int .i64 p.pass, .int .i64 p.feed, .int .i64 p.pipe, .int .i64 p.orders, .int .i64 p.age, .slice A2 m2 k2] 83)
  have hB := hB.alloc hB.size (.cells #[.int .i64 p.top, .int .i64 p.bank, .int .i64 p.siphon, .int .i64 p.start, .int .i64 p.positions, .int .i64 p.rate, .int .i64 p.step, .int .i64 p.pass, .int .i64 p.feed, .int .i64 p.pipe, .int .i64 p.orders, .int .i64 p.age, .slice A2 m2 k2] 83)
  generalize hgG : w1.heap.size = G at X9 X3 X3lt X4 X4lt X5 X5lt X6 X6lt X7 X7lt ⊢
  generalize w1.alloc (.cells #[.int .i64 p.top, .int .i64 p.bank, .int .i64 p.siphon, .int .i64 p.start, .int .i64 p.positions, .int .i64 p.rate, .int .i64 p.step, .int .i64 p.pass, .int .i64 p.feed, .int .i64 p.pipe, .int .i64 p.orders, .int .i64 p.age, .slice A2 m2 k2] 83) = w2 at X9 X3 X3lt X4 X4lt X5 X5lt X6 X6lt X7 X7lt hB ⊢
  have _hGH : w.heap.size < G := X3lt
  have _hG1 : w.heap.size + 1 < G := X4lt
  have _hG2 : w.heap.size + 1 + 1 < G := X5lt
  have _hG3 : w.heap.size + 1 + 1 + 1 < G := X6lt
  have _hG4 : w.heap.size + 1 + 1 + 1 + 1 < G := X7lt
  clear X3lt X4lt X5lt X6lt X7lt
  have X5c0 : w2.cell? ⟨w.heap.size + 1 + 1, 0, none⟩ = some (.slice A1 m k) := X5.cell 0
  have X5f0 : w2.frozen? ⟨w.heap.size + 1 + 1, 0, none⟩ = false := X5.free 0
  have X5z : w.heap.size + 1 + 1 < w2.heap.size := X5.lt
  go_wp2_with fail
  refine (bCheck_any b _ _ 0 hb1 ((_hQ.out.below hB).more hB.size)).mono ?_
  rintro e w3 ⟨rfl, hb⟩
  have X3 := X3.later hb
  have X4 := X4.later hb
  have X5 := X5.later hb
  have X6 := X6.later hb
  have X7 := X7.later hb
  have X9 := X9.later hb
  have hB := hB.trans (hb.mono hB.size)
  clear X5c0 X5f0 X5z
  clear hb
  obtain ⟨X3c0, X3f0, X3c1, X3f1, X3c2, X3f2, X3c3, X3f3, X3c4, X3f4, X3c5, X3f5, X3c6, X3f6, X3c7, X3f7, X3c8, X3f8, X3c9, X3f9, X3c10, X3f10, X3c11, X3f11⟩ := X3.f12
  have X3z : w.heap.size < w3.heap.size := X3.lt
  go_wp2_with fail
  have hBE := Lib.hid (congrArg Prod.fst hbe.out)
  dsimp only at hBE
  refine (begin_is hbe).mono ?_
  rintro e w4 ⟨rfl, hb⟩
  have X3 := X3.later hb
  have X4 := X4.later hb
  have X5 := X5.later hb
  have X6 := X6.later hb
  have X7 := X7.later hb
  have X9 := X9.later hb
  have hB := hB.trans (hb.mono hB.size)
  clear X3c0 X3c1 X3c2 X3c3 X3c4 X3c5 X3c6 X3c7 X3c8 X3c9 X3c10 X3c11 X3f0 X3f1 X3f2 X3f3 X3f4 X3f5 X3f6 X3f7 X3f8 X3f9 X3f10 X3f11 X3z
  clear hb
  go_upto_region 8 with fail
  have X10 := Box.new w4 [.int .i64 b0, .int .i64 b1, .int .i64 b2, .int .i64 b3, .int .i64 b4, .int .i64 b5] 30
  have X3lt := X3.lt
  have X4lt := X4.lt
  have X5lt := X5.lt
  have X6lt := X6.lt
  have X7lt := X7.lt
  have X9lt := X9.lt
  have X3 := X3.alloc (.cells #[.int .i64 b0, .int .i64 b1, .int .i64 b2, .int .i64 b3, .int .i64 b4, .int .i64 b5] 30)
  have X4 := X4.alloc (.cells #[.int .i64 b0, .int .i64 b1, .int .i64 b2, .int .i64 b3, .int .i64 b4, .int .i64 b5] 30)
  have X5 := X5.alloc (.cells #[.int .i64 b0, .int .i64 b1, .int .i64 b2, .int .i64 b3, .int .i64 b4, .int .i64 b5] 30)
  have X6 := X6.alloc (.cells #[.int .i64 b0, .int .i64 b1, .int .i64 b2, .int .i64 b3, .int .i64 b4, .int .i64 b5] 30)
  have X7 := X7.alloc (.cells #[.int .i64 b0, .int .i64 b1, .int .i64 b2, .int .i64 b3, .int .i64 b4, .int .i64 b5] 30)
  have X9 := X9.alloc (.cells #[.int .i64 b0, .int .i64 b1, .int .i64 b2, .int .i64 b3, .int .i64 b4, .int .i64 b5] 30)
  have hB := hB.alloc hB.size (.cells #[.int .i64 b0, .int .i64 b1, .int .i64 b2, .int .i64 b3, .int .i64 b4, .int .i64 b5] 30)
  generalize hgE : w4.heap.size = E at X10 X3 X3lt X4 X4lt X5 X5lt X6 X6lt X7 X7lt X9 X9lt ⊢
  generalize w4.alloc (.cells #[.int .i64 b0, .int .i64 b1, .int .i64 b2, .int .i64 b3, .int .i64 b4, .int .i64 b5] 30) = w5 at X10 X3 X3lt X4 X4lt X5 X5lt X6 X6lt X7 X7lt X9 X9lt hB ⊢
  have _hEH : w.heap.size < E := X3lt
  have _hE1 : w.heap.size + 1 < E := X4lt
  have _hE2 : w.heap.size + 1 + 1 < E := X5lt
  have _hE3 : w.heap.size + 1 + 1 + 1 < E := X6lt
  have _hE4 : w.heap.size + 1 + 1 + 1 + 1 < E := X7lt
  clear X3lt X4lt X5lt X6lt X7lt X9lt
  have X5c0 : w5.cell? ⟨w.heap.size + 1 + 1, 0, none⟩ = some (.slice A1 m k) := X5.cell 0
  have X5f0 : w5.frozen? ⟨w.heap.size + 1 + 1, 0, none⟩ = false := X5.free 0
  have X5z : w.heap.size + 1 + 1 < w5.heap.size := X5.lt
  obtain ⟨X10c0, X10f0, X10c1, X10f1, X10c2, X10f2, X10c3, X10f3, X10c4, X10f4, X10c5, X10f5⟩ := X10.f6
  have X10z : E < w5.heap.size := X10.lt
  go_wp2_with fail
  refine (bIn_any b ⟨b0, b1, b2, b3, b4, b5⟩ _ _ false (by rw [← hBE.out]; exact hin) ((_hQ.out.below hB).more hB.size) (Lib.hid (barT_ok hb1.out)) (by rw [← hBE.out]; exact begin_nums (ask_zero h.out).1)).mono ?_
  rintro e w6 ⟨rfl, hb⟩
  have X3 := X3.later hb
  have X4 := X4.later hb
  have X5 := X5.later hb
  have X6 := X6.later hb
  have X7 := X7.later hb
  have X9 := X9.later hb
  have X10 := X10.later hb
  have hB := hB.trans (hb.mono hB.size)
  clear X5c0 X5f0 X5z X10c0 X10c1 X10c2 X10c3 X10c4 X10c5 X10f0 X10f1 X10f2 X10f3 X10f4 X10f5 X10z
  clear hb
  obtain ⟨X10c0, X10f0, X10c1, X10f1, X10c2, X10f2, X10c3, X10f3, X10c4, X10f4, X10c5, X10f5⟩ := X10.f6
  have X10z : E < w6.heap.size := X10.lt
  have X6c0 : w6.cell? ⟨w.heap.size + 1 + 1 + 1, 0, none⟩ = some (.bool false) := X6.cell 0
  have X6f0 : w6.frozen? ⟨w.heap.size + 1 + 1 + 1, 0, none⟩ = false := X6.free 0
  have X6z : w.heap.size + 1 + 1 + 1 < w6.heap.size := X6.lt
  obtain ⟨X7c0, X7f0, X7c1, X7f1, X7c2, X7f2, X7c3, X7f3, X7c4, X7f4, X7c5, X7f5, X7c6, X7f6, X7c7, X7f7, X7c8, X7f8⟩ := X7.f9
  have X7z : w.heap.size + 1 + 1 + 1 + 1 < w6.heap.size := X7.lt
  go_wp2_with fail
  go_region
  have Z6 := X6.set 0 (.bool false)
  have Z7 := (X7.other (a := ⟨w.heap.size + 1 + 1 + 1, 0, none⟩) (by simp <;> omega) (.bool false))
  have Z7 := (((((((((Z7.set 0 (.int .i64 1)).set 1 (.int .i64 b0)).set 2 (.int .i64 b1)).set 3 (.int .i64 b2)).set 4 (.int .i64 b3)).set 5 (.int .i64 b4)).set 6 (.int .i64 b5)).set 7 (.int .i64 0)).set 8 (.int .i64 0))
  have Z6 := (((((((((Z6.other (a := ⟨w.heap.size + 1 + 1 + 1 + 1, 0, none⟩) (by simp <;> omega) (.int .i64 1)).other (a := ⟨w.heap.size + 1 + 1 + 1 + 1, 1, none⟩) (by simp <;> omega) (.int .i64 b0)).other (a := ⟨w.heap.size + 1 + 1 + 1 + 1, 2, none⟩) (by simp <;> omega) (.int .i64 b1)).other (a := ⟨w.heap.size + 1 + 1 + 1 + 1, 3, none⟩) (by simp <;> omega) (.int .i64 b2)).other (a := ⟨w.heap.size + 1 + 1 + 1 + 1, 4, none⟩) (by simp <;> omega) (.int .i64 b3)).other (a := ⟨w.heap.size + 1 + 1 + 1 + 1, 5, none⟩) (by simp <;> omega) (.int .i64 b4)).other (a := ⟨w.heap.size + 1 + 1 + 1 + 1, 6, none⟩) (by simp <;> omega) (.int .i64 b5)).other (a := ⟨w.heap.size + 1 + 1 + 1 + 1, 7, none⟩) (by simp <;> omega) (.int .i64 0)).other (a := ⟨w.heap.size + 1 + 1 + 1 + 1, 8, none⟩) (by simp <;> omega) (.int .i64 0))
  have hB := (hB.setCell (p := ⟨w.heap.size + 1 + 1 + 1, 0, none⟩) (by simp <;> omega) (.bool false))
  have hB := (((((((((hB.setCell (p := ⟨w.heap.size + 1 + 1 + 1 + 1, 0, none⟩) (by simp <;> omega) (.int .i64 1)).setCell (p := ⟨w.heap.size + 1 + 1 + 1 + 1, 1, none⟩) (by simp <;> omega) (.int .i64 b0)).setCell (p := ⟨w.heap.size + 1 + 1 + 1 + 1, 2, none⟩) (by simp <;> omega) (.int .i64 b1)).setCell (p := ⟨w.heap.size + 1 + 1 + 1 + 1, 3, none⟩) (by simp <;> omega) (.int .i64 b2)).setCell (p := ⟨w.heap.size + 1 + 1 + 1 + 1, 4, none⟩) (by simp <;> omega) (.int .i64 b3)).setCell (p := ⟨w.heap.size + 1 + 1 + 1 + 1, 5, none⟩) (by simp <;> omega) (.int .i64 b4)).setCell (p := ⟨w.heap.size + 1 + 1 + 1 + 1, 6, none⟩) (by simp <;> omega) (.int .i64 b5)).setCell (p := ⟨w.heap.size + 1 + 1 + 1 + 1, 7, none⟩) (by simp <;> omega) (.int .i64 0)).setCell (p := ⟨w.heap.size + 1 + 1 + 1 + 1, 8, none⟩) (by simp <;> omega) (.int .i64 0))
  go_wp2
  rw [Exit.noGoto_ret]
  generalize ((((((((((w6.setCell ⟨w.heap.size + 1 + 1 + 1, 0, none⟩ (.bool false)).setCell ⟨w.heap.size + 1 + 1 + 1 + 1, 0, none⟩ (.int .i64 1)).setCell ⟨w.heap.size + 1 + 1 + 1 + 1, 1, none⟩ (.int .i64 b0)).setCell ⟨w.heap.size + 1 + 1 + 1 + 1, 2, none⟩ (.int .i64 b1)).setCell ⟨w.heap.size + 1 + 1 + 1 + 1, 3, none⟩ (.int .i64 b2)).setCell ⟨w.heap.size + 1 + 1 + 1 + 1, 4, none⟩ (.int .i64 b3)).setCell ⟨w.heap.size + 1 + 1 + 1 + 1, 5, none⟩ (.int .i64 b4)).setCell ⟨w.heap.size + 1 + 1 + 1 + 1, 6, none⟩ (.int .i64 b5)).setCell ⟨w.heap.size + 1 + 1 + 1 + 1, 7, none⟩ (.int .i64 0)).setCell ⟨w.heap.size + 1 + 1 + 1 + 1, 8, none⟩ (.int .i64 0)) = W at Z6 Z7 hB ⊢
  have Z6c0 : W.cell? ⟨w.heap.size + 1 + 1 + 1, 0, none⟩ = some (.bool false) := Z6.cell 0
  obtain ⟨Z7c0, Z7c1, Z7c2, Z7c3, Z7c4, Z7c5, Z7c6, Z7c7, Z7c8⟩ := Z7.c9
  refine ⟨_, (by simp [results, Try.results14, go_sem, Z6c0, Z7c0, Z7c1, Z7c2, Z7c3, Z7c4, Z7c5, Z7c6, Z7c7, Z7c8, Sh.zero] : _ = Result.ok (Value.tuple #[.bool false, (Fw.mk 1 ⟨b0, b1, b2, b3, b4, b5⟩ Sh.zero).v, .int .i64 0]) _), ?_⟩
  exact ⟨rfl, hB.drew⟩
end Go.Proofs.Ytancngachnpefaa
