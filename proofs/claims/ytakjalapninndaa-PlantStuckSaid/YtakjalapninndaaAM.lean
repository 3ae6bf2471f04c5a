/-
  A line put ahead of a program that came in: append. No condition.
-/
import Derived.Test.YtakjalapninndaaAB
import Derived.Test.YtakjalapninndaaAH
import Derived.Deep.AppendLies
import Derived.Laws.AppendOwnNone
import Derived.OwnWalk
namespace Go.Proofs.Ytakjalapninndaa
open Go.RowKit

theorem codeAt_nil (w : World) (B : Nat) : CodeAt w B (.slice none 0 0) [] := ⟨fun _ => undef, ⟨none, 0, rfl, Nat.zero_le _, fun i hi => by simp at hi⟩, fun i l hl => by simp at hl⟩
theorem condsAt_nil (w : World) (B : Nat) : CondsAt w B (.slice none 0 0) [] := ⟨none, 0, rfl, Nat.zero_le _, fun i hi => by simp at hi⟩
theorem condsAt_one {w : World} {B b : Nat} {c : Cn} (h : Box w b [.int .i64 c.var, .int .i64 c.op, .int .i64 c.n]) (l : b < B) : CondsAt w B (.slice (some ⟨b, 0, none⟩) 1 1) [c] := by
  refine ⟨_, _, rfl, by simp [maxLen], fun k hk => ⟨b, 0, rfl, l, fun j hj => ?_⟩⟩
  obtain rfl : k = 0 := by simpa using hk
  rcases (show j = 0 ∨ j = 1 ∨ j = 2 by omega) with rfl | rfl | rfl
  · exact h.cell 0
  · exact h.cell 1
  · exact h.cell 2
theorem codeAt_bare {w : World} {B b : Nat} {n : Int} (h : Box w b [.slice none 0 0, .int .i64 n]) (l : b < B) : CodeAt w B (.slice (some ⟨b, 0, none⟩) 1 1) [⟨[], n⟩] := by
  refine ⟨fun _ => .slice none 0 0, ⟨_, _, rfl, by simp [maxLen], fun i hi => ⟨b, 0, rfl, l, fun j hj => ?_⟩⟩, fun i l hl => ?_⟩
  · obtain rfl : i = 0 := by simpa using hi
    rcases (show j = 0 ∨ j = 1 by omega) with rfl | rfl
    · exact h.cell 0
    · exact h.cell 1
  · rcases i with _ | i
    · obtain rfl : (⟨[], n⟩ : Ln) = l := by simpa using hl
      exact condsAt_nil _ _
    · simp at hl

theorem Box.six {w : World} {b : Nat} {a0 a1 a2 a3 a4 a5 : Value} (h : Box w b [a0, a1, a2, a3, a4, a5]) : (w.cell? ⟨b, 0, none⟩ = some a0 ∧ w.cell? ⟨b, 1, none⟩ = some a1 ∧ w.cell? ⟨b, 2, none⟩ = some a2 ∧ w.cell? ⟨b, 3, none⟩ = some a3 ∧ w.cell? ⟨b, 4, none⟩ = some a4 ∧ w.cell? ⟨b, 5, none⟩ = some a5) ∧
    (w.frozen? ⟨b, 0, none⟩ = false ∧ w.frozen? ⟨b, 1, none⟩ = false ∧ w.frozen? ⟨b, 2, none⟩ = false ∧ w.frozen? ⟨b, 3, none⟩ = false ∧ w.frozen? ⟨b, 4, none⟩ = false ∧ w.frozen? ⟨b, 5, none⟩ = false) ∧ b < w.heap.size :=
  ⟨⟨h.cell 0, h.cell 1, h.cell 2, h.cell 3, h.cell 4, h.cell 5⟩, ⟨h.free 0, h.free 1, h.free 2, h.free 3, h.free 4, h.free 5⟩, h.lt⟩
theorem Below.six {B : Nat} {a w : World} (h : Below B a w) {D : Nat} (hD : B ≤ D) (v0 v1 v2 v3 v4 v5 : Value) :
    Below B a ((((((w.setCell ⟨D, 0, none⟩ v0).setCell ⟨D, 1, none⟩ v1).setCell ⟨D, 2, none⟩ v2).setCell ⟨D, 3, none⟩ v3).setCell ⟨D, 4, none⟩ v4).setCell ⟨D, 5, none⟩ v5) :=
  (((((h.setCell hD _).setCell hD _).setCell hD _).setCell hD _).setCell hD _).setCell hD _
theorem new_a (w : World) (cs : Array Value) (t : TypeId) : (w.alloc (.cells cs t)).drew.heap[w.heap.size]? = some (.cells cs t (0, 0)) := by
  show (w.heap.push _)[w.heap.size]? = _
  simp
theorem new_b (w : World) (o : Obj) (cs : Array Value) (t : TypeId) : ((w.alloc o).alloc (.cells cs t)).drew.heap[w.heap.size + 1]? = some (.cells cs t (0, 0)) := by
  have h := new_a (w.alloc o) cs t
  rw [show (w.alloc o).heap.size = w.heap.size + 1 by simp] at h
  exact h
theorem new_c (w : World) (o : Obj) (cs : Array Value) (t : TypeId) : ((w.alloc (.cells cs t)).alloc o).drew.heap[w.heap.size]? = some (.cells cs t (0, 0)) := by
  exact (Below.heap_alloc (w.alloc (.cells cs t)) o w.heap.size (by simp)).trans (new_a w cs t)
theorem Box.sixSet {w : World} {b : Nat} {a0 a1 a2 a3 a4 a5 : Value} (h : Box w b [a0, a1, a2, a3, a4, a5]) (v0 v1 v2 v3 v4 v5 : Value) :
    Box ((((((w.setCell ⟨b, 0, none⟩ v0).setCell ⟨b, 1, none⟩ v1).setCell ⟨b, 2, none⟩ v2).setCell ⟨b, 3, none⟩ v3).setCell ⟨b, 4, none⟩ v4).setCell ⟨b, 5, none⟩ v5) b [v0, v1, v2, v3, v4, v5] :=
  (((((h.set 0 v0).set 1 v1).set 2 v2).set 3 v3).set 4 v4).set 5 v5
theorem Box.sixOther {w : World} {b D : Nat} {xs : List Value} (h : Box w b xs) (hne : b ≠ D) (v0 v1 v2 v3 v4 v5 : Value) :
    Box ((((((w.setCell ⟨D, 0, none⟩ v0).setCell ⟨D, 1, none⟩ v1).setCell ⟨D, 2, none⟩ v2).setCell ⟨D, 3, none⟩ v3).setCell ⟨D, 4, none⟩ v4).setCell ⟨D, 5, none⟩ v5) b xs :=
  (((((h.other (a := ⟨D, 0, none⟩) hne v0).other (a := ⟨D, 1, none⟩) hne v1).other (a := ⟨D, 2, none⟩) hne v2).other (a := ⟨D, 3, none⟩) hne v3).other (a := ⟨D, 4, none⟩) hne v4).other (a := ⟨D, 5, none⟩) hne v5
theorem add_row (b off n : Nat) : (⟨b, off, none⟩ : Addr).add n = ⟨b, off + n, none⟩ := by
  unfold Addr.add
  split
  · rename_i h; rw [h]; rfl
  · rfl
/-- The form of a slice that a law is handed. -/
def SlForm (V : Value) : Prop := V = .slice none 0 0 ∨ ∃ a n c, V = .slice (some a) n c

theorem info_line : (Try.prog.info? 53).map (fun i => (i.zero, i.size, i.bytes)) = some (some (.agg #[.slice none 0 0, .int .i64 0]), 2, 32) := by kernel_rfl

theorem run_prepend {W w : World} {b : Nat} {V lv : Value} {code : List Ln} {l : Ln} (ty : TypeId) (hW : Below b W w) (hC : CodeAt W b V code) (hV : SlForm V) (hn : code.length ≤ 60) (hL : CondsAt W b lv l.conds)
    (hb : w.heap[b]? = some (.cells #[lv, .int .i64 l.set] 53 (0, 0))) :
    ∃ v' w', (Builtin.append_ #[37, 37] ty #[.slice (some ⟨b, 0, none⟩) 1 1, V]).run Try.prog w = .ok v' w' ∧ CodeAt w' w'.heap.size v' (l :: code) ∧ Below b w w' ∧ (∀ k, k < w.heap.size → k ≠ b → w'.heap[k]? = w.heap[k]?) := by
  obtain ⟨i, hi, hz0, hz1, hz2⟩ := info_parts info_line
  have hbl : b < w.heap.size := (Array.getElem?_eq_some_iff.1 hb).1
  have hlv1 : lv.oneCell' = true := by obtain ⟨A, c, rfl, _⟩ := hL.form; rfl
  have hown : w.ownsRow b 53 2 (.slice (some ⟨b, 0, none⟩) 1 1) 1 [lv, .int .i64 l.set] :=
    ⟨rfl, .inr ⟨b, 1, #[lv, .int .i64 l.set], rfl, Nat.le_refl _, hb, Nat.le_refl _, by simp [maxLen], rfl, rfl⟩⟩
  have hC0 := hC
  obtain ⟨Vf, ⟨A, c, rfl, hm, hcs⟩, hcd⟩ := hC0
  -- what holds behind the append, whichever way
  have fin : ∀ (v' : Value) (w' : World) (news : List Value), news.length = code.length * 2 → (∀ k (hk : k < code.length), news[k * 2]? = some (Vf k) ∧ news[k * 2 + 1]? = some (.int .i64 (code[k]).set)) →
      w'.ownsRow b 53 2 v' (1 + code.length) ([lv, .int .i64 l.set] ++ news) → Below b w w' → CodeAt w' w'.heap.size v' (l :: code) := by
    intro v' w' news hl hnews hown' hB
    obtain ⟨g, cap, rfl, hg, hlt⟩ := hown'.form (by omega)
    have hcell := hown'.cells (g := g) rfl
    refine ⟨fun k => match k with | 0 => lv | k + 1 => Vf k, ⟨_, _, by rw [List.length_cons, Nat.add_comm], by simp only [List.length_cons, maxLen]; omega, fun k hk => ⟨g, 0, rfl, hlt, fun j hj => ?_⟩⟩, fun k u hu => ?_⟩
    · rcases k with _ | k
      · rcases (show j = 0 ∨ j = 1 by omega) with rfl | rfl
        · have := hcell 0 lv rfl
          rw [add_row] at this
          exact this
        · have := hcell 1 (.int .i64 l.set) rfl
          rw [add_row] at this
          exact this
      · have hk' : k < code.length := by simpa using hk
        obtain ⟨n0, n1⟩ := hnews k hk'
        have hg : (l :: code)[k + 1]? = some code[k] := by simp [hk']
        dsimp only
        simp only [hg]
        rcases (show j = 0 ∨ j = 1 by omega) with rfl | rfl
        · have := hcell (2 + k * 2) (Vf k) (by rw [List.getElem?_append_right (by simp)]; simpa using n0)
          rw [add_row] at this
          rw [show 0 + ((k + 1) * 2 + 0) = 0 + (2 + k * 2) by omega]
          exact this
        · have := hcell (2 + k * 2 + 1) (.int .i64 (code[k]).set) (by rw [List.getElem?_append_right (by simp; omega)]; simpa [show 2 + k * 2 + 1 - 2 = k * 2 + 1 by omega] using n1)
          rw [add_row] at this
          rw [show 0 + ((k + 1) * 2 + 1) = 0 + (2 + k * 2 + 1) by omega]
          exact this
    · have hBB := hW.trans hB
      have hbs : b ≤ w'.heap.size := by have := hB.size; omega
      rcases k with _ | k
      · obtain rfl : l = u := by simpa using hu
        exact (hL.below hBB).more hbs
      · exact ((hcd k u (by simpa using hu)).below hBB).more hbs
  rcases hV with h0 | ⟨a, n, c', h0⟩
  · obtain ⟨rfl, hl0, rfl⟩ : A = none ∧ code.length = 0 ∧ c = 0 := by simpa using h0
    obtain rfl : code = [] := List.length_eq_zero_iff.1 hl0
    exact ⟨_, _, run_append_owned_none (P := Try.prog) (w := w) b 37 ty 53 i 2 Try.underlying37 hi _ _ _ hown, fin _ _ [] rfl (fun k hk => by simp at hk) hown (Below.refl _ _), Below.refl _ _, fun _ _ _ => rfl⟩
  · obtain ⟨rfl, rfl, rfl⟩ : A = some a ∧ code.length = n ∧ c = c' := by simpa using h0
    obtain ⟨bs, off, sp⟩ := a
    have hat : ∀ k (hk : k < code.length), sp = none ∧ w.cell? ⟨bs, off + k * 2, sp⟩ = some (Vf k) ∧ w.cell? ⟨bs, off + k * 2 + 1, sp⟩ = some (.int .i64 (code[k]).set) := by
      intro k hk
      obtain ⟨b', off', e1, hb', h3⟩ := hcs k hk
      cases e1
      have e : code[k]? = some code[k] := List.getElem?_eq_getElem hk
      have c0 := h3 0 (by omega)
      have c1 := h3 1 (by omega)
      simp only [e] at c0 c1
      exact ⟨rfl, (hW.cell hb').trans c0, by rw [Nat.add_assoc]; exact (hW.cell hb').trans c1⟩
    let news : List Value := (List.range (code.length * 2)).map fun j => if j % 2 = 0 then Vf (j / 2) else .int .i64 (code.getD (j / 2) ⟨[], 0⟩).set
    have hnl : news.length = code.length * 2 := by simp [news]
    have hn0 : ∀ k (hk : k < code.length), news[k * 2]? = some (Vf k) ∧ news[k * 2 + 1]? = some (.int .i64 (code[k]).set) := by
      intro k hk
      constructor
      · rw [List.getElem?_eq_getElem (by rw [hnl]; omega)]
        simp [news]
      · rw [List.getElem?_eq_getElem (by rw [hnl]; omega)]
        have e1 : (k * 2 + 1) / 2 = k := by omega
        have e2 : (k * 2 + 1) % 2 = 1 := by omega
        simp [news, e1, e2, hk]
    have hsrc : ∀ j u, news[j]? = some u → w.cell? ((⟨bs, off, sp⟩ : Addr).add j) = some u := by
      intro j u hu
      have hj : j < code.length * 2 := by rw [← hnl]; exact (List.getElem?_eq_some_iff.1 hu).1
      have hk : j / 2 < code.length := by omega
      obtain ⟨rfl, c0, c1⟩ := hat (j / 2) hk
      obtain ⟨m0, m1⟩ := hn0 (j / 2) hk
      rw [add_row]
      rcases (show j % 2 = 0 ∨ j % 2 = 1 by omega) with h | h
      · have e : j / 2 * 2 = j := by omega
        rw [e] at m0 c0
        rw [m0] at hu
        cases hu
        exact c0
      · have e : j / 2 * 2 + 1 = j := by omega
        rw [e] at m1
        rw [Nat.add_assoc, e] at c1
        rw [m1] at hu
        cases hu
        exact c1
    have hone : ∀ u ∈ news, u.oneCell' = true := by
      intro u hu
      obtain ⟨j, hj, rfl⟩ := List.mem_map.1 hu
      have hj := List.mem_range.1 hj
      have hk : j / 2 < code.length := by omega
      split
      · obtain ⟨A', c1, e', _⟩ := (hcd (j / 2) _ (List.getElem?_eq_getElem hk)).form
        rw [e']
        rfl
      · rfl
    obtain ⟨v', w', hr, hown', hgrow, _, _⟩ := run_append_own_at (P := Try.prog) (w := w) b 37 ty 53 i _ 2 32 Try.underlying37 hi hz0 hz1 hz2 rfl (by decide) _ 1 _ hown ⟨bs, off, sp⟩ code.length c news hnl hsrc hone
      (by simp only [maxLen]; omega) (by omega) (by omega)
    have hB : Below b w w' := (Below.refl b w).grown hgrow (by omega) (fun k hk => by cases hk; exact Nat.le_refl _)
    exact ⟨v', w', hr, fin v' w' news hnl hn0 hown' hB, hB, fun k hk hne => hgrow.block k hk (fun h => hne (by cases h; rfl))⟩

/-- At a step of a region that draws its order. -/
theorem step_prepend {W w : World} {B b : Nat} {V lv : Value} {code : List Ln} {l : Ln} {ops : Array Oper} {o : Oper} {a : Act} {K : Act → World → Prop} {Q : Exit → Act → World → Prop} {E : Prop} (hgd : o.guard = none) (s x : Operand)
    (ho : o.op = .call { callee := .builtin .append, args := #[s, x], argTypes := #[37, 37] }) (hs : a.eval s = .slice (some ⟨b, 0, none⟩) 1 1) (hx : a.eval x = V)
    (hC : CodeAt W B V code) (hV : SlForm V) (hn : code.length ≤ 60) (hL : CondsAt W B lv l.conds) (hW : Below B W w) (hBb : B ≤ b) (hb : w.heap[b]? = some (.cells #[lv, .int .i64 l.set] 53 (0, 0)))
    (h : ∀ A' n' c' w', CodeAt w' w'.heap.size (.slice A' n' c') (l :: code) → Below B W w' → (∀ k, k < w.heap.size → k ≠ b → w'.heap[k]? = w.heap[k]?) → K (a.put o.dst (.slice A' n' c')) w') :
    if Region.wanted o (yielded ops a.tmps) = true then Oper.wp Try.prog o a w K Q else E := by
  have hw : Region.wanted o (yielded ops a.tmps) = true := by simp [Region.wanted, hgd]
  rw [if_pos hw]
  obtain ⟨v', w', hr, h2, h3, h4⟩ := run_prepend o.type (Below.refl b w) ((hC.below hW).more hBb) hV hn ((hL.below hW).more hBb) hb
  obtain ⟨A', c', rfl, _⟩ := h2.form
  unfold Oper.wp execOp
  simp only [ho, resolve, invoke, builtin, Sem.run_bind, Sem.run_pure, Result.andThen_ok, List.map_toArray, List.map_cons, List.map_nil, hs, hx, hr]
  exact h _ _ _ w' h2 (hW.trans (h3.mono hBb)) h4

end Go.Proofs.Ytakjalapninndaa
