/- Few of chapter 33's reference: it answers. (Printed by pp.py.) No condition. -/
import Derived.Test.YtancngachnpefaaQK
import Derived.Test.YtancngachnpefaaQMB
import Derived.Test.YtancngachnpefaaQS
import Derived.Test.YtancngachnpefaaQMN
set_option linter.unusedVariables false
set_option linter.unusedSimpArgs false
set_option maxRecDepth 100000
set_option maxHeartbeats 4000000
namespace Go.Proofs.Ytancngachnpefaa
open Go.RowKit Go.Shelf
theorem zFew_go (p : Pl) (code : List Ln) (A : Option Addr) (n c : Nat) (A2 : Option Addr) (nb cb : Nat) (w : World) (hC : Hid (CodeAt w w.heap.size (.slice A n c) code)) (HN : Hid (code.length = n)) (hm : n ≤ 9223372036854775807) (hmb : nb ≤ 9223372036854775807) :
    Calls Try.prog 11 #[.agg #[.int .i64 p.top, .int .i64 p.bank, .int .i64 p.siphon, .int .i64 p.start, .int .i64 p.positions, .int .i64 p.rate, .int .i64 p.step, .int .i64 p.pass, .int .i64 p.feed, .int .i64 p.pipe, .int .i64 p.orders, .int .i64 p.age], .agg #[.slice A n c], .slice A2 nb cb] w fun e w' => ∃ t, e = .returned (.bool t) ∧ Below w.heap.size w w' := by
  obtain ⟨ck, hck⟩ : ∃ ck, p.checkT = ck := ⟨_, rfl⟩
  obtain ⟨ni, er, hct⟩ : ∃ ni er, p.countT = (ni, er) := ⟨_, _, rfl⟩
  replace hck := Lib.hid hck
  replace hct := Lib.hid hct
  go_enter Try.func11, Try.ntmps11
  have hB := ((Below.refl w.heap.size w).alloc (Nat.le_refl _) (.cells #[.int .i64 p.top, .int .i64 p.bank, .int .i64 p.siphon, .int .i64 p.start, .int .i64 p.positions, .int .i64 p.rate, .int .i64 p.step, .int .i64 p.pass, .int .i64 p.feed, .int .i64 p.pipe, .int .i64 p.orders, .int .i64 p.age] 23)).alloc (by simp) (.cells #[.slice A n c] 26)
  have XP := (Box.new w [.int .i64 p.top, .int .i64 p.bank, .int .i64 p.siphon, .int .i64 p.start, .int .i64 p.positions, .int .i64 p.rate, .int .i64 p.step, .int .i64 p.pass, .int .i64 p.feed, .int .i64 p.pipe, .int .i64 p.orders, .int .i64 p.age] 23).alloc (.cells #[.slice A n c] 26)
  have XC := Box.newAt (w := w.alloc (.cells #[.int .i64 p.top, .int .i64 p.bank, .int .i64 p.siphon, .int .i64 p.start, .int .i64 p.positions, .int .i64 p.rate, .int .i64 p.step, .int .i64 p.pass, .int .i64 p.feed, .int .i64 p.pipe, .int .i64 p.orders, .int .i64 p.age] 23)) (n := w.heap.size + 1) [.slice A n c] 26 (by simp)
  go_upto_region 1 with fail
  have HC := Lib.hid (hC.out.later hB)
  generalize (w.alloc (.cells #[.int .i64 p.top, .int .i64 p.bank, .int .i64 p.siphon, .int .i64 p.start, .int .i64 p.positions, .int .i64 p.rate, .int .i64 p.step, .int .i64 p.pass, .int .i64 p.feed, .int .i64 p.pipe, .int .i64 p.orders, .int .i64 p.age] 23)).alloc (.cells #[.slice A n c] 26) = W at hB XP XC HC ⊢
  have c0 : W.cell? ⟨w.heap.size + 1, 0, none⟩ = some (.slice A n c) := XC.cell 0
  have zc := XC.lt
  obtain ⟨t0, ht0⟩ : ∃ t0, (decide (40 < nb) || ((decide (20 < n) && decide (n ≤ 64)) || decide (100 < n))) = t0 := ⟨_, rfl⟩
  replace ht0 := Lib.hid ht0
  go_cut [30] (fun s30 wx => s30 = .bool t0 ∧ W = wx)
  case first =>
    by_cases h1 : 40 < nb
    · have e1 : (40 : Int) < (nb : Int) := by omega
      obtain rfl : t0 = true := by rw [← ht0.out, decide_eq_true h1]; rfl
      go_wp2_with fail
      go_meet
      exact ⟨rfl, rfl⟩
    have e1 : ¬ (40 : Int) < (nb : Int) := by omega
    by_cases h2 : 20 < n
    · have e2 : (20 : Int) < (n : Int) := by omega
      by_cases h3 : n ≤ 64
      · have e3 : (n : Int) ≤ 64 := by omega
        obtain rfl : t0 = true := by rw [← ht0.out, decide_eq_false h1, decide_eq_true h2, decide_eq_true h3]; rfl
        go_wp2_with fail
        go_meet
        exact ⟨rfl, rfl⟩
      have e3 : ¬ (n : Int) ≤ 64 := by omega
      by_cases h4 : 100 < n
      · have e4 : (100 : Int) < (n : Int) := by omega
        obtain rfl : t0 = true := by rw [← ht0.out, decide_eq_false h1, decide_eq_true h2, decide_eq_false h3, decide_eq_true h4]; rfl
        go_wp2_with fail
        go_meet
        exact ⟨rfl, rfl⟩
      have e4 : ¬ (100 : Int) < (n : Int) := by omega
      obtain rfl : t0 = false := by rw [← ht0.out, decide_eq_false h1, decide_eq_true h2, decide_eq_false h3, decide_eq_false h4]; rfl
      go_wp2_with fail
      go_meet
      exact ⟨rfl, rfl⟩
    have e2 : ¬ (20 : Int) < (n : Int) := by omega
    have h4 : ¬ 100 < n := by omega
    have e4 : ¬ (100 : Int) < (n : Int) := by omega
    obtain rfl : t0 = false := by rw [← ht0.out, decide_eq_false h1, decide_eq_false h2, decide_eq_false h4]; rfl
    go_wp2_with fail
    go_meet
    exact ⟨rfl, rfl⟩
  case rest =>
  obtain ⟨rfl, hw⟩ := hcut
  subst hw
  cases t0 with
  | true =>
    go_wp2
    go_ret
    first | exact ⟨_, rfl, hB⟩ | exact ⟨.inl rfl, hB⟩
  | false =>
  go_upto_region 4 with fail
  go_loop [7] (fun i => ∃ k : Nat, k ≤ n ∧ i = .int .i64 k) (fun i => n - (intOf i).toNat)
  case atStart => exact ⟨0, by omega, rfl⟩
  case round =>
    obtain ⟨k, hk, rfl⟩ := hrel
    by_cases hlt : k < n
    · have hkl : k < code.length := by rw [HN.out]; exact hlt
      obtain ⟨b, off, V, rfl, hbw, p0, p1, hV⟩ := HC.out.line hkl
      obtain ⟨A', c', rfl, hm'⟩ := hV.form
      generalize code[k].conds.length = m at p0 hm'
      unfold maxLen at hm'
      clear hV p1
      by_cases h20 : m ≤ 20
      · have e1 : ¬ (20 : Int) < (m : Int) := by omega
        go_wp2
        exact ⟨⟨k + 1, by omega, by go_num⟩, by simp [intOf]; omega⟩
      · have e1 : (20 : Int) < (m : Int) := by omega
        go_wp2
        go_ret
        first | exact ⟨_, rfl, hB⟩ | exact ⟨.inl rfl, hB⟩
    obtain rfl : k = n := by omega
    clear hlt
    have zp := XP.lt
    obtain ⟨XPc0, XPc1, XPc2, XPc3, XPc4, XPc5, XPc6, XPc7, XPc8, XPc9, XPc10, XPc11⟩ := XP.c12
    go_wp2_with fail
    refine (rcheck_at hck _).mono ?_
    rintro e w2 ⟨rfl, hb⟩
    have hB := hB.trans (hb.mono hB.size)
    have XP := XP.later hb
    clear hb zp XPc0 XPc1 XPc2 XPc3 XPc4 XPc5 XPc6 XPc7 XPc8 XPc9 XPc10 XPc11
    by_cases hc0 : ck = 0
    rotate_left
    · have e0 : (ck != 0) = true := by simp [hc0]
      go_wp2
      go_ret
      first | exact ⟨_, rfl, hB⟩ | exact ⟨.inl rfl, hB⟩
    subst hc0
    have zp := XP.lt
    obtain ⟨XPc0, XPc1, XPc2, XPc3, XPc4, XPc5, XPc6, XPc7, XPc8, XPc9, XPc10, XPc11⟩ := XP.c12
    go_wp2_with fail
    refine (rcount_is hct).mono ?_
    rintro e w3 ⟨rfl, hb⟩
    have hB := hB.trans (hb.mono hB.size)
    have XP := XP.later hb
    clear hb zp XPc0 XPc1 XPc2 XPc3 XPc4 XPc5 XPc6 XPc7 XPc8 XPc9 XPc10 XPc11
    have c8 : w3.cell? ⟨w.heap.size, 8, none⟩ = some (.int .i64 p.feed) := XP.cell 8
    have c10 : w3.cell? ⟨w.heap.size, 10, none⟩ = some (.int .i64 p.orders) := XP.cell 10
    have zp := XP.lt
    by_cases h9 : ni ≤ 1000
    · have e9 : decide (ni ≤ 1000) = true := decide_eq_true h9
      go_wp2
      go_ret
      first | exact ⟨_, rfl, hB⟩ | exact ⟨.inl rfl, hB⟩
    · have e9 : decide (ni ≤ 1000) = false := decide_eq_false h9
      go_wp2
      go_ret
      first | exact ⟨_, rfl, hB⟩ | exact ⟨.inl rfl, hB⟩
theorem zFew_is {p : Pl} {code : List Ln} {bar : List Iq} {V U : Value} {w : World} (hC : CodeAt w w.heap.size V code) (hQ : BarAt w w.heap.size U bar) :
    Calls Try.prog 11 #[p.v, .agg #[V], U] w fun e w' => ∃ t, e = .returned (.bool t) ∧ Below w.heap.size w w' := by
  obtain ⟨A, c, rfl, hm⟩ := hC.form
  obtain ⟨A2, c2, rfl, hm2⟩ := hQ.form
  unfold maxLen at hm hm2
  exact zFew_go p code A _ c A2 _ c2 w (Lib.hid hC) (Lib.hid rfl) (by omega) (by omega)
end Go.Proofs.Ytancngachnpefaa
namespace Go.Proofs.Ytancngachnpefaa
open Go.RowKit
inductive OutP (p : Pl) (c : List Ln) : St → Prop
  | here {s : St} : (p.safeT s).1 = false → OutP p c s
  | next {s y : St} : y ∈ p.foll c s → OutP p c y → OutP p c s
section
variable {p : Pl} {c : List Ln}
theorem add_iff {s : St} : ∀ (ys : List St) (a : (St → List St) × (St → Bool)), (∀ y, a.2 y = true → s ∈ a.1 y) → ∀ y x, x ∈ (ys.foldl (addN s) a).1 y ↔ x ∈ a.1 y ∨ (x = s ∧ y ∈ ys)
  | [], _, _, y, x => by simp
  | z :: ys, a, h, y, x => by
    rw [List.foldl_cons]
    by_cases hz : a.2 z = true
    · rw [show addN s a z = a from if_pos hz, add_iff ys a h y x, List.mem_cons]
      constructor
      · rintro (h1 | ⟨h1, h2⟩)
        · exact .inl h1
        · exact .inr ⟨h1, .inr h2⟩
      · rintro (h1 | ⟨h1, h2 | h2⟩)
        · exact .inl h1
        · rw [h1, h2]
          exact .inl (h z hz)
        · exact .inr ⟨h1, h2⟩
    · rw [show addN s a z = (updF a.1 z (a.1 z ++ [s]), updB a.2 z) from if_neg hz]
      refine (add_iff ys _ (fun y hy => ?_) y x).trans ?_
      · dsimp only [updF, updB] at hy ⊢
        split
        · simp
        · rename_i hyz
          simp [hyz] at hy
          exact h y hy
      · dsimp only [updF]
        rw [List.mem_cons]
        by_cases hy : y = z
        · rw [if_pos hy, List.mem_append, List.mem_singleton, hy]
          constructor
          · rintro ((h1 | h1) | ⟨h1, h2⟩)
            · exact .inl h1
            · exact .inr ⟨h1, .inl rfl⟩
            · exact .inr ⟨h1, .inr h2⟩
          · rintro (h1 | ⟨h1, h2 | h2⟩)
            · exact .inl (.inl h1)
            · exact .inl (.inr h1)
            · exact .inr ⟨h1, h2⟩
        · rw [if_neg hy]
          constructor
          · rintro (h1 | ⟨h1, h2⟩)
            · exact .inl h1
            · exact .inr ⟨h1, .inr h2⟩
          · rintro (h1 | ⟨h1, h2 | h2⟩)
            · exact .inl h1
            · exact absurd h2 hy
            · exact .inr ⟨h1, h2⟩
theorem sweep_is (l : List St) : (∀ y x, x ∈ (sweepI p c l).fr y ↔ x ∈ l ∧ y ∈ p.foll c x) ∧ (∀ s, (sweepI p c l).lost s = true ↔ s ∈ l ∧ (p.safeT s).1 = false) ∧ ∀ s, s ∈ (sweepI p c l).op ↔ s ∈ l ∧ (p.safeT s).1 = false := by
  suffices H : ∀ (m : List St) (a : Iv), (∀ y x, x ∈ (m.foldl (stepI p c) a).fr y ↔ x ∈ a.fr y ∨ (x ∈ m ∧ y ∈ p.foll c x)) ∧ (∀ s, (m.foldl (stepI p c) a).lost s = true ↔ a.lost s = true ∨ (s ∈ m ∧ (p.safeT s).1 = false)) ∧ ∀ s, s ∈ (m.foldl (stepI p c) a).op ↔ s ∈ a.op ∨ (s ∈ m ∧ (p.safeT s).1 = false) by
    obtain ⟨h1, h2, h3⟩ := H l ivZero
    refine ⟨fun y x => ?_, fun s => ?_, fun s => ?_⟩
    · rw [sweepI, h1]; simp [ivZero]
    · rw [sweepI, h2]; simp [ivZero]
    · rw [sweepI, h3]; simp [ivZero]
  intro m
  induction m with
  | nil => intro a; simp
  | cons z m ih =>
    intro a
    rw [List.foldl_cons]
    obtain ⟨h1, h2, h3⟩ := ih (stepI p c a z)
    refine ⟨fun y x => ?_, fun s => ?_, fun s => ?_⟩
    · rw [h1]
      show x ∈ ((p.foll c z).foldl (addN z) (a.fr, fun _ => false)).1 y ∨ _ ↔ _
      rw [add_iff (p.foll c z) (a.fr, fun _ => false) (fun y hy => by cases hy), List.mem_cons]
      dsimp only
      constructor
      · rintro ((h | ⟨h, h'⟩) | ⟨h, h'⟩)
        · exact .inl h
        · exact .inr ⟨.inl h, by rw [h]; exact h'⟩
        · exact .inr ⟨.inr h, h'⟩
      · rintro (h | ⟨h | h, h'⟩)
        · exact .inl (.inl h)
        · exact .inl (.inr ⟨h, by rw [← h]; exact h'⟩)
        · exact .inr ⟨h, h'⟩
    · rw [h2, List.mem_cons]
      show (if (p.safeT z).1 = true then a.lost else updB a.lost z) s = true ∨ _ ↔ _
      cases hz : (p.safeT z).1 with
      | true =>
        rw [if_pos rfl]
        constructor
        · rintro (h | ⟨h, h'⟩)
          · exact .inl h
          · exact .inr ⟨.inr h, h'⟩
        · rintro (h | ⟨h | h, h'⟩)
          · exact .inl h
          · rw [h, hz] at h'
            cases h'
          · exact .inr ⟨h, h'⟩
      | false =>
        rw [if_neg (by decide)]
        unfold updB
        simp only [Bool.or_eq_true, decide_eq_true_eq]
        constructor
        · rintro ((h | h) | ⟨h, h'⟩)
          · exact .inr ⟨.inl h, by rw [h]; exact hz⟩
          · exact .inl h
          · exact .inr ⟨.inr h, h'⟩
        · rintro (h | ⟨h | h, h'⟩)
          · exact .inl (.inr h)
          · exact .inl (.inl h)
          · exact .inr ⟨h, h'⟩
    · rw [h3, List.mem_cons]
      show s ∈ (if (p.safeT z).1 = true then a.op else a.op ++ [z]) ∨ _ ↔ _
      cases hz : (p.safeT z).1 with
      | true =>
        rw [if_pos rfl]
        constructor
        · rintro (h | ⟨h, h'⟩)
          · exact .inl h
          · exact .inr ⟨.inr h, h'⟩
        · rintro (h | ⟨h | h, h'⟩)
          · exact .inl h
          · rw [h, hz] at h'
            cases h'
          · exact .inr ⟨h, h'⟩
      | false =>
        rw [if_neg (by decide), List.mem_append, List.mem_singleton]
        constructor
        · rintro ((h | h) | ⟨h, h'⟩)
          · exact .inl h
          · exact .inr ⟨.inl h, by rw [h]; exact hz⟩
          · exact .inr ⟨.inr h, h'⟩
        · rintro (h | ⟨h | h, h'⟩)
          · exact .inl (.inl h)
          · exact .inl (.inr h)
          · exact .inr ⟨h, h'⟩
theorem marks_is : ∀ (ss : List St) (a : (St → Bool) × List St), (∀ x, (ss.foldl markI a).1 x = true ↔ a.1 x = true ∨ x ∈ ss) ∧ (∀ x, x ∈ (ss.foldl markI a).2 → x ∈ a.2 ∨ (x ∈ ss)) ∧ ∀ x, x ∈ a.2 ∨ (x ∈ ss ∧ a.1 x = false) → x ∈ (ss.foldl markI a).2
  | [], a => by simp
  | s :: ss, a => by
    rw [List.foldl_cons]
    obtain ⟨h1, h2, h3⟩ := marks_is ss (markI a s)
    cases hs : a.1 s with
    | true =>
      have e : markI a s = a := if_pos hs
      rw [e] at h1 h2 h3
      rw [e]
      refine ⟨fun x => ?_, fun x hx => ?_, fun x hx => ?_⟩
      · rw [h1, List.mem_cons]
        constructor
        · rintro (h | h)
          · exact .inl h
          · exact .inr (.inr h)
        · rintro (h | h | h)
          · exact .inl h
          · rw [h]; exact .inl hs
          · exact .inr h
      · rcases h2 x hx with h | h
        · exact .inl h
        · exact .inr (List.mem_cons_of_mem _ h)
      · refine h3 x ?_
        rcases hx with h | ⟨h, h'⟩
        · exact .inl h
        · rcases List.mem_cons.1 h with rfl | h
          · rw [hs] at h'; cases h'
          · exact .inr ⟨h, h'⟩
    | false =>
      have e : markI a s = (updB a.1 s, a.2 ++ [s]) := if_neg (by rw [hs]; decide)
      rw [e] at h1 h2 h3
      rw [e]
      have hu : ∀ x, updB a.1 s x = true ↔ x = s ∨ a.1 x = true := fun x => by
        unfold updB
        simp
      refine ⟨fun x => ?_, fun x hx => ?_, fun x hx => ?_⟩
      · rw [h1]
        dsimp only
        rw [hu, List.mem_cons]
        constructor
        · rintro ((h | h) | h)
          · exact .inr (.inl h)
          · exact .inl h
          · exact .inr (.inr h)
        · rintro (h | h | h)
          · exact .inl (.inr h)
          · exact .inl (.inl h)
          · exact .inr h
      · rcases h2 x hx with h | h
        · dsimp only at h
          rcases List.mem_append.1 h with h | h
          · exact .inl h
          · exact .inr (by rw [List.mem_singleton.1 h]; exact List.mem_cons_self ..)
        · exact .inr (List.mem_cons_of_mem _ h)
      · refine h3 x ?_
        dsimp only
        rcases hx with h | ⟨h, h'⟩
        · exact .inl (List.mem_append_left _ h)
        · rcases List.mem_cons.1 h with rfl | h
          · exact .inl (by simp)
          · by_cases hxs : x = s
            · exact .inl (by simp [hxs])
            · exact .inr ⟨h, by
                cases hq : updB a.1 s x with
                | false => rfl
                | true =>
                  rcases (hu x).1 hq with h9 | h9
                  · exact absurd h9 hxs
                  · rw [h'] at h9; cases h9⟩
theorem bfs_is {fr : St → List St} {l : List St} (hfr : ∀ y, ∀ s ∈ fr y, s ∈ l) {Q : St → Prop} (hQ : ∀ y, Q y → ∀ s ∈ fr y, Q s) : ∀ (n : Nat) (lost : St → Bool) (op : List St), (∀ s, lost s = true → Q s) → (∀ s ∈ op, lost s = true) → (∀ y, lost y = true → y ∈ op ∨ ∀ s ∈ fr y, lost s = true) → op.length + leftI l lost ≤ n →
    (∀ s, bfsI fr n lost op s = true → Q s) ∧ (∀ s, lost s = true → bfsI fr n lost op s = true) ∧ ∀ y, bfsI fr n lost op y = true → ∀ s ∈ fr y, bfsI fr n lost op s = true
  | 0, lost, op, h1, h2, h3, hn => by
    have h0 : op = [] := List.eq_nil_of_length_eq_zero (by omega)
    subst h0
    refine ⟨h1, fun _ h => h, fun y hy => (h3 y hy).resolve_left (by simp)⟩
  | n + 1, lost, [], h1, h2, h3, hn => ⟨h1, fun _ h => h, fun y hy => (h3 y hy).resolve_left (by simp)⟩
  | n + 1, lost, y :: r, h1, h2, h3, hn => by
    obtain ⟨m1, m2, m3⟩ := marks_is (fr y) (lost, r)
    have hm := marks_left (l := l) (fr y) (lost, r) (hfr y)
    rw [List.length_cons] at hn
    dsimp only at hm
    have hy := h2 y (List.mem_cons_self ..)
    obtain ⟨r1, r2, r3⟩ := bfs_is hfr hQ n ((fr y).foldl markI (lost, r)).1 ((fr y).foldl markI (lost, r)).2 (fun s hs => by
        rcases (m1 s).1 hs with h | h
        · exact h1 s h
        · exact hQ y (h1 y hy) s h)
      (fun s hs => by
        rw [m1]
        rcases m2 s hs with h | h
        · exact .inl (h2 s (List.mem_cons_of_mem _ h))
        · exact .inr h)
      (fun z hz => by
        by_cases hzy : z = y
        · rw [hzy]
          exact .inr (fun s hs => (m1 s).2 (.inr hs))
        cases hlz : lost z with
        | true =>
          rcases h3 z hlz with h | h
          · rcases List.mem_cons.1 h with h | h
            · exact absurd h hzy
            · exact .inl (m3 z (.inl h))
          · exact .inr (fun s hs => (m1 s).2 (.inl (h s hs)))
        | false =>
          rcases (m1 z).1 hz with h | h
          · dsimp only at h
            rw [hlz] at h
            cases h
          · exact .inl (m3 z (.inr ⟨h, hlz⟩)))
      (by omega)
    exact ⟨r1, fun s hs => r2 s ((m1 s).2 (.inl hs)), r3⟩
theorem lost_iff (ha : askT p c = 0) {s : St} (hs : s ∈ p.states) : lostI p c s = true ↔ OutP p c s := by
  obtain ⟨f1, f2, f3⟩ := sweep_is (p := p) (c := c) p.states
  have hlen : (sweepI p c p.states).op.length + leftI p.states (sweepI p c p.states).lost ≤ p.count + p.count := by
    have h1 := sweep_op p c p.states ivZero
    have h2 : leftI p.states (sweepI p c p.states).lost ≤ p.states.length := List.countP_le_length
    rw [states_len] at h1 h2
    refine Nat.add_le_add ?_ h2
    have : (ivZero.op).length = 0 := rfl
    rw [this, Nat.zero_add] at h1
    exact h1
  obtain ⟨r1, r2, r3⟩ := bfs_is (fr := (sweepI p c p.states).fr) (l := p.states) (sweep_mem p c p.states) (Q := OutP p c) (fun y hy x hx => .next ((f1 y x).1 hx).2 hy) (p.count + p.count) (sweepI p c p.states).lost (sweepI p c p.states).op (fun x hx => .here ((f2 x).1 hx).2) (fun x hx => (f2 x).2 ((f3 x).1 hx)) (fun y hy => .inl ((f3 y).2 ((f2 y).1 hy))) hlen
  refine ⟨r1 s, fun h => ?_⟩
  induction h with
  | here h => exact r2 _ ((f2 _).2 ⟨hs, h⟩)
  | @next x y hy _ ih =>
    obtain ⟨hv, _⟩ := Pl.check_zero (ask_zero ha).1
    have hys : y ∈ p.states := by
      obtain ⟨z, hz, rfl⟩ := List.mem_map.1 hy
      obtain ⟨h1, h2⟩ := nexts_mem hz
      rw [h2]
      exact (states_mem hv).2 (nextS_has ha hs h1)
    exact r3 y (ih hys) x ((f1 y x).2 ⟨hs, hy⟩)
end
end Go.Proofs.Ytancngachnpefaa
namespace Go.Proofs.Ytancngachnpefaa
open Go.RowKit
def goT (p : Pl) (c : List Ln) : St → List Sh → List St
  | s, [] => [s]
  | s, x :: l => s :: goT p c (nextT p c s x).1 l
theorem run_snoc (p : Pl) (c : List Ln) : ∀ (l : List Sh) (s z : St) (pre : List St) (x : Sh), goT p c s l = pre ++ [z] → goT p c s (l ++ [x]) = pre ++ [z] ++ [(nextT p c z x).1]
  | [], s, z, pre, x, h => by
    rw [goT] at h
    rcases pre with _ | ⟨a, pre⟩
    · cases h
      rfl
    · rw [List.cons_append] at h
      injection h with h1 h2
      cases pre <;> cases h2
  | y :: l, s, z, pre, x, h => by
    rw [List.cons_append, goT]
    rw [goT] at h
    rcases pre with _ | ⟨a, pre⟩
    · injection h with h1 h2
      cases l <;> cases h2
    · rw [List.cons_append] at h
      injection h with h1 h2
      rw [run_snoc p c l _ z pre x h2, h1]
      rfl
section
variable {p : Pl} {c : List Ln} {b : St}
theorem inner_is {s : St} : ∀ (l : List (Sh × St)) (a a' : Ev), innerE p s l a = (a', none) → (∀ z, (a'.came z).isSome = true → (a.came z).isSome = true ∨ ((p.safeT z).1 = true ∧ z ∈ a'.op)) ∧ (∀ z, (a.came z).isSome = true → (a'.came z).isSome = true) ∧ (∀ y ∈ l, (a'.came y.2).isSome = true) ∧ (∀ z ∈ a.op, z ∈ a'.op) ∧ (∀ z v, a'.came z = some v → a.came z = some v ∨ (v.st = s ∧ (v.sh, z) ∈ l))
  | [], a, a', h => by
    cases h
    exact ⟨fun z hz => .inl hz, fun _ h => h, (fun y hy => by cases hy), fun _ h => h, fun z v h => .inl h⟩
  | (x, y) :: l, a, a', h => by
    rw [innerE] at h
    split at h
    · rename_i h1
      obtain ⟨r1, r2, r3, r4, r5⟩ := inner_is l a a' h
      refine ⟨r1, r2, fun w hw => ?_, r4, fun z v hz => ?_⟩
      · rcases List.mem_cons.1 hw with rfl | hw
        · exact r2 _ h1
        · exact r3 w hw
      · rcases r5 z v hz with h9 | ⟨h9, h10⟩
        · exact .inl h9
        · exact .inr ⟨h9, List.mem_cons_of_mem _ h10⟩
    · rename_i h1
      split at h
      · rename_i h2
        obtain ⟨r1, r2, r3, r4, r5⟩ := inner_is l _ a' h
        dsimp only at r1 r2 r4 r5
        have hy : (updS a.came y ⟨s, x⟩ y).isSome = true := by rw [upd_same]; rfl
        refine ⟨fun z hz => ?_, fun z hz => r2 z (upd_some hz), fun w hw => ?_, fun z hz => r4 z (List.mem_append_left _ hz), fun z v hz => ?_⟩
        · by_cases e : z = y
          · rw [e]
            exact .inr ⟨h2, r4 y (by simp)⟩
          · rcases r1 z hz with h9 | h9
            · unfold updS at h9
              rw [if_neg e] at h9
              exact .inl h9
            · exact .inr h9
        · rcases List.mem_cons.1 hw with rfl | hw
          · exact r2 _ hy
          · exact r3 w hw
        · rcases r5 z v hz with h9 | ⟨h9, h10⟩
          · unfold updS at h9
            split at h9
            · rename_i e
              cases h9
              exact .inr ⟨rfl, by rw [e]; exact List.mem_cons_self ..⟩
            · exact .inl h9
          · exact .inr ⟨h9, List.mem_cons_of_mem _ h10⟩
      · cases h
theorem inner_was {s y : St} : ∀ (l : List (Sh × St)) (a a' : Ev), innerE p s l a = (a', some y) → (p.safeT y).1 = false ∧ (a.came y).isSome = false ∧ (a'.came y).isSome = true ∧ (∀ z v, a'.came z = some v → a.came z = some v ∨ (v.st = s ∧ (v.sh, z) ∈ l))
  | [], a, a', h => by cases h
  | (x, z) :: l, a, a', h => by
    rw [innerE] at h
    split at h
    · obtain ⟨r1, r2, r3, r4⟩ := inner_was l a a' h
      refine ⟨r1, r2, r3, fun w v hw => ?_⟩
      rcases r4 w v hw with h9 | ⟨h9, h10⟩
      · exact .inl h9
      · exact .inr ⟨h9, List.mem_cons_of_mem _ h10⟩
    · rename_i h1
      split at h
      · obtain ⟨r1, r2, r3, r4⟩ := inner_was l _ a' h
        dsimp only at r2 r4
        refine ⟨r1, ?_, r3, fun w v hw => ?_⟩
        · unfold updS at r2
          split at r2
          · cases r2
          · exact r2
        · rcases r4 w v hw with h9 | ⟨h9, h10⟩
          · unfold updS at h9
            split at h9
            · rename_i e
              cases h9
              exact .inr ⟨rfl, by rw [e]; exact List.mem_cons_self ..⟩
            · exact .inl h9
          · exact .inr ⟨h9, List.mem_cons_of_mem _ h10⟩
      · rename_i h2
        cases h
        refine ⟨by simpa using h2, by simpa using h1, by dsimp only; rw [upd_same]; rfl, fun w v hw => ?_⟩
        dsimp only at hw
        unfold updS at hw
        split at hw
        · rename_i e
          cases hw
          exact .inr ⟨rfl, by rw [e]; exact List.mem_cons_self ..⟩
        · exact .inl hw
theorem inner_ok {s : St} {k : Nat} : ∀ (l : List (Sh × St)) (a a' : Ev) (o : Option St), innerE p s l a = (a', o) → (∀ y ∈ l, y.2 ∈ p.states) → (a.came s).isSome = true → EvOk p b a k → EvOk p b a' k
  | [], a, a', o, h, _, _, hk => by
    cases h
    exact hk
  | (x, y) :: l, a, a', o, h, hl, hs, hk => by
    rw [innerE] at h
    split at h
    · exact inner_ok l a a' o h (fun z hz => hl z (List.mem_cons_of_mem _ hz)) hs hk
    · rename_i h1
      have h1 : (a.came y).isSome = false := by simpa using h1
      have hy := hl (x, y) (List.mem_cons_self ..)
      split at h
      · exact inner_ok l _ a' o h (fun z hz => hl z (List.mem_cons_of_mem _ hz)) (upd_some hs) (hk.put hy h1 hs)
      · cases h
        exact hk.bad hy h1 hs
def ChainE (p : Pl) (c : List Ln) (b : St) (came : St → Option Wy) : Prop := ∀ z v, came z = some v → z ≠ b → (p.safeT v.st).1 = true ∧ v.sh ∈ p.shocks ∧ z = (nextT p c v.st v.sh).1
theorem esc_is (ha : askT p c = 0) : ∀ (n : Nat) (a a' : Ev) (o : Option St), escE p c n a = (a', o) → EvOk p b a n → (∀ z, (a.came z).isSome = true → (p.safeT z).1 = true) → (∀ z, (a.came z).isSome = true → z ∈ a.op ∨ ∀ y ∈ p.foll c z, (a.came y).isSome = true) → ChainE p c b a.came →
    (o = none → (a'.came b).isSome = true ∧ ∀ z, (a'.came z).isSome = true → (p.safeT z).1 = true ∧ ∀ y ∈ p.foll c z, (a'.came y).isSome = true) ∧
    (∀ y, o = some y → (p.safeT y).1 = false ∧ (a'.came y).isSome = true ∧ ChainE p c b a'.came ∧ ∃ k, EvOk p b a' k)
  | 0, a, a', o, h, hk, hs, hc, hch => by
    cases h
    have h0 : a.op = [] := List.eq_nil_of_length_eq_zero (by have := hk.bound; omega)
    refine ⟨fun _ => ⟨hk.beg, fun z hz => ⟨hs z hz, (hc z hz).resolve_left (by rw [h0]; simp)⟩⟩, fun y hy => by cases hy⟩
  | n + 1, a, a', o, h, hk, hs, hc, hch => by
    obtain ⟨came, op⟩ := a
    rcases op with _ | ⟨s, r⟩
    · cases h
      exact ⟨fun _ => ⟨hk.beg, fun z hz => ⟨hs z hz, (hc z hz).resolve_left (by simp)⟩⟩, fun y hy => by cases hy⟩
    · have hsc := hk.ops s (List.mem_cons_self ..)
      have hsm := hk.dom s hsc
      have hsafe := hs s hsc
      have hnx : ∀ y ∈ p.nexts c s (p.nf * p.nm), y.2 ∈ p.states := fun y hy => by
        obtain ⟨hv, _⟩ := Pl.check_zero (ask_zero ha).1
        obtain ⟨h1, h2⟩ := nexts_mem hy
        rw [h2]
        exact (states_mem hv).2 (nextS_has ha hsm h1)
      have hch2 : ∀ (cm : St → Option Wy), (∀ z v, cm z = some v → came z = some v ∨ (v.st = s ∧ (v.sh, z) ∈ p.nexts c s (p.nf * p.nm))) → ChainE p c b cm := fun cm hcm z v hz hb => by
        rcases hcm z v hz with h9 | ⟨h9, h10⟩
        · exact hch z v h9 hb
        · obtain ⟨h1, h2⟩ := nexts_mem h10
          rw [h9]
          exact ⟨hsafe, h1, h2⟩
      obtain ⟨⟨a1, o1⟩, hi⟩ : ∃ t, innerE p s (p.nexts c s (p.nf * p.nm)) ⟨came, s :: r⟩ = t := ⟨_, rfl⟩
      have hk1 := inner_ok (b := b) _ _ _ _ hi hnx hsc hk
      cases o1 with
      | some y =>
        have h9 := esc_found h hi
        cases h9
        obtain ⟨r1, r2, r3, r4⟩ := inner_was _ _ _ hi
        exact ⟨(fun h => by cases h), fun z hz => by cases hz; exact ⟨r1, r3, hch2 _ r4, _, hk1⟩⟩
      | none =>
        have h9 := esc_on h hi
        obtain ⟨r1, r2, r3, r4, r5⟩ := inner_is _ _ _ hi
        obtain ⟨e, he⟩ := inner_op _ _ _ _ hi
        obtain ⟨cm1, op1⟩ := a1
        dsimp only at he r1 r2 r3 r4 r5 h9
        rw [List.cons_append] at he
        subst he
        rw [List.tail_cons] at h9
        refine esc_is ha n ⟨cm1, r ++ e⟩ a' o h9 hk1.pop (fun z hz => ?_) (fun z hz => ?_) (hch2 _ r5)
        · rcases r1 z hz with h1 | ⟨h1, _⟩
          · exact hs z h1
          · exact h1
        · dsimp only at hz ⊢
          by_cases hzs : z = s
          · refine .inr (fun y hy => ?_)
            rw [hzs] at hy
            obtain ⟨q, hq, rfl⟩ := List.mem_map.1 hy
            exact r3 q hq
          · have hop : ∀ x, x ∈ s :: (r ++ e) → x ≠ s → x ∈ r ++ e := fun x hx hne => (List.mem_cons.1 hx).resolve_left hne
            rcases r1 z hz with h1 | ⟨_, h1⟩
            · rcases hc z h1 with h2 | h2
              · exact .inl (hop z (r4 z h2) hzs)
              · exact .inr (fun y hy => r2 y (h2 y hy))
            · exact .inl (hop z h1 hzs)
theorem back_run {came : St → Option Wy} (hch : ChainE p c b came) : ∀ (k : Nat) (y : St), BackOk came b k y → ∃ pre, goT p c b (backE came b k y).reverse = pre ++ [y] ∧ (∀ z ∈ pre, (p.safeT z).1 = true) ∧ (∀ x ∈ backE came b k y, x ∈ p.shocks)
  | 0, y, h => absurd (back_pos h) (by omega)
  | k + 1, y, h => by
    by_cases e : y = b
    · subst e
      rw [back_end]
      exact ⟨[], rfl, (fun z hz => by cases hz), fun x hx => by cases hx⟩
    · obtain ⟨v, h1, h2, h3⟩ := back_step h e
      obtain ⟨pre, r1, r2, r3⟩ := back_run hch k v.st h2
      obtain ⟨q1, q2, q3⟩ := hch y v h1 e
      rw [h3, List.reverse_cons]
      refine ⟨pre ++ [v.st], ?_, fun z hz => ?_, fun x hx => ?_⟩
      · rw [run_snoc p c _ _ _ pre v.sh r1, ← q3]
      · rcases List.mem_append.1 hz with h9 | h9
        · exact r2 z h9
        · rw [List.mem_singleton.1 h9]
          exact q1
      · rcases List.mem_cons.1 hx with h9 | h9
        · rw [h9]
          exact q2
        · exact r3 x h9
theorem esc_says (ha : askT p c = 0) : (escT p c).2.1 = lostI p c p.beginT.1 ∧ ((escT p c).2.1 = false → (escT p c).1 = []) ∧ ((escT p c).2.1 = true → ∃ pre y, goT p c p.beginT.1 (escT p c).1 = pre ++ [y] ∧ (∀ z ∈ pre, (p.safeT z).1 = true) ∧ (p.safeT y).1 = false ∧ ∀ x ∈ (escT p c).1, x ∈ p.shocks) := by
  obtain ⟨hv, _⟩ := Pl.check_zero (ask_zero ha).1
  have hb := begin_has hv (ask_zero ha).1
  have hbm := (states_mem hv).2 hb
  cases hsf : (p.safeT p.beginT.1).1 with
  | false =>
    rw [escT_unsafe ha hsf]
    refine ⟨((lost_iff ha hbm).2 (.here hsf)).symm, (fun h => by cases h), fun _ => ⟨[], p.beginT.1, rfl, (fun z hz => by cases hz), hsf, fun x hx => by cases hx⟩⟩
  | true =>
    obtain ⟨⟨a, o⟩, hf⟩ : ∃ t, escE p c (p.count + 1) (startE p) = t := ⟨_, rfl⟩
    have hup : ∀ z, ((startE p).came z).isSome = true → z = p.beginT.1 := fun z hz => by
      unfold startE updS at hz
      dsimp only at hz
      split at hz
      · assumption
      · cases hz
    obtain ⟨r1, r2⟩ := esc_is (b := p.beginT.1) ha _ _ _ _ hf (evOk_start hv hb) (fun z hz => by rw [hup z hz]; exact hsf) (fun z hz => .inl (by rw [hup z hz]; unfold startE; simp)) (fun z v hz hne => absurd (hup z (by rw [hz]; rfl)) hne)
    cases o with
    | none =>
      rw [escT_none ha hsf hf]
      refine ⟨?_, fun _ => rfl, fun h => by cases h⟩
      obtain ⟨q1, q2⟩ := r1 rfl
      cases hl : lostI p c p.beginT.1 with
      | false => rfl
      | true =>
        have ho := (lost_iff ha hbm).1 hl
        have key : ∀ z, OutP p c z → (a.came z).isSome = true → False := fun z hz => by
          induction hz with
          | here h =>
            intro hc
            rw [(q2 _ hc).1] at h
            cases h
          | next hy _ ih => exact fun hc => ih ((q2 _ hc).2 _ hy)
        exact (key _ ho q1).elim
    | some y =>
      obtain ⟨q1, q2, q3, k, q4⟩ := r2 y rfl
      rw [escT_some ha hsf hf]
      obtain ⟨pre, s1, s2, s3⟩ := back_run q3 (p.count + 1) y (q4.back q2)
      refine ⟨?_, (fun h => by cases h), fun _ => ⟨pre, y, s1, s2, q1, fun x hx => s3 x (List.mem_reverse.1 hx)⟩⟩
      have key : ∀ (l : List Sh) (s : St), (∀ x ∈ l, x ∈ p.shocks) → ∀ pre', goT p c s l = pre' ++ [y] → OutP p c s := fun l => by
        induction l with
        | nil =>
          intro s _ pre' h
          rw [goT] at h
          rcases pre' with _ | ⟨q, pre'⟩
          · cases h
            exact .here q1
          · injection h with h1 h2
            cases pre' <;> cases h2
        | cons x l ih =>
          intro s hx pre' h
          rw [goT] at h
          rcases pre' with _ | ⟨q, pre'⟩
          · injection h with h1 h2
            cases l <;> cases h2
          · injection h with h1 h2
            have hxm := hx x (List.mem_cons_self ..)
            refine .next (y := (nextT p c s x).1) ?_ (ih _ (fun z hz => hx z (List.mem_cons_of_mem _ hz)) pre' h2)
            obtain ⟨j, hj, he⟩ := List.mem_map.1 hxm
            exact List.mem_map.2 ⟨(x, (nextT p c s x).1), List.mem_map.2 ⟨j, hj, by rw [← he]⟩, rfl⟩
      exact ((lost_iff ha hbm).2 (key _ _ (fun x hx => s3 x (List.mem_reverse.1 hx)) pre s1)).symm
theorem kept_says (ha : askT p c = 0) {s : St} (hs : s ∈ p.states) (h : lostI p c s = false) : (p.safeT s).1 = true ∧ ∀ x ∈ p.shocks, (nextT p c s x).1 ∈ p.states ∧ lostI p c (nextT p c s x).1 = false := by
  obtain ⟨hv, _⟩ := Pl.check_zero (ask_zero ha).1
  have hno : ¬ OutP p c s := fun ho => by
    rw [(lost_iff ha hs).2 ho] at h
    cases h
  refine ⟨?_, fun x hx => ?_⟩
  · cases hq : (p.safeT s).1 with
    | true => rfl
    | false => exact (hno (.here hq)).elim
  · have hm := (states_mem hv).2 (nextS_has (x := x) ha hs hx)
    refine ⟨hm, ?_⟩
    cases hq : lostI p c (nextT p c s x).1 with
    | false => rfl
    | true =>
      obtain ⟨j, hj, he⟩ := List.mem_map.1 hx
      exact (hno (.next (List.mem_map.2 ⟨(x, (nextT p c s x).1), List.mem_map.2 ⟨j, hj, by rw [← he]⟩, rfl⟩) ((lost_iff ha hm).1 hq))).elim
end
end Go.Proofs.Ytancngachnpefaa
