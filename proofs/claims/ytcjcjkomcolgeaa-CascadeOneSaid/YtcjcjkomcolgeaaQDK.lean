/- The reference of chapter 35: valid, firstBad. (Printed by pp.py.) No condition. -/
import Derived.Test.YtcjcjkomcolgeaaQDM
import Derived.Test.YtcjcjkomcolgeaaQDP
import Derived.Test.YtcjcjkomcolgeaaQBT
import Derived.Laws.MakeOwn
set_option linter.unusedVariables false
set_option linter.unusedSimpArgs false
namespace Go.Proofs.Ytcjcjkomcolgeaa
open Go.RowKit

theorem stepB_parts {x : Cs} {s : Sp} {n : Nat} (hn : x.plants.length = n) : x.stepB s = (decide (s.msgs.length = n) && (decide (s.stuck.length = n) && (inI s.feed 0 (x.plants.getD 0 Pl.zero).feed && (List.range n).all (x.msgB s)))) := by
  rw [Cs.stepB, hn]
end Go.Proofs.Ytcjcjkomcolgeaa

/-
  The reference of chapter 35: firstBad. (Printed by pp.py.) No condition.
-/
namespace Go.Proofs.Ytcjcjkomcolgeaa
open Go.RowKit

end Go.Proofs.Ytcjcjkomcolgeaa

/-
  Cascades: what a certificate says of the play; the first gates alone; one gate alone. Plain facts. No condition.
-/
namespace Go.Proofs.Ytcjcjkomcolgeaa
open Go.RowKit

theorem badT_nonneg {x : Cs} {sts : List St} {stuck : List Bool} : 0 ≤ x.badT sts stuck := by
  unfold Cs.badT
  split <;> omega
theorem lookK_bad {x : Cs} {sts : List St} {stuck : List Bool} {bad : Int} {n : Nat} (hl : sts.length = n) (hb : 0 ≤ bad) : x.lookK sts stuck bad n = if bad = 0 then x.badT sts stuck else bad := by
  unfold Cs.lookK Cs.badT
  rw [hl]
  by_cases h : bad > 0
  · rw [if_pos h, if_neg (by omega)]
  · have h0 : bad = 0 := by omega
    subst h0
    rw [if_neg h, if_pos rfl]
    cases List.find? (x.badAt sts stuck) (List.range n) <;> rfl
theorem right_zero {x : Cs} {n : Nat} (h : CsRight x n) : x.checkT = 0 := by
  have h8 := h.most
  have h0 := h.pos
  unfold Cs.checkT
  rw [h.plants, h.codes, h.bars, if_pos h8, if_neg (by omega)]
  refine firstErr_zero fun i hi => ?_
  obtain ⟨g1, g2, g3⟩ := h.gate i (List.mem_range.1 hi)
  unfold Cs.gateT
  rw [if_pos g1, if_pos g2, g3]
structure CsCert (x : Cs) (n : Nat) : Prop where
  right : CsRight x n
  cert : ∀ k, k < n → Cert (x.plants.getD k Pl.zero) (x.codes.getD k []) (x.bars.getD k [])
  most : ∀ k, k + 1 < n → (x.plants.getD k Pl.zero).rate * (x.plants.getD k Pl.zero).positions ≤ (x.plants.getD (k + 1) Pl.zero).feed
structure PlayInv (x : Cs) (n : Nat) (g : Pst) : Prop where
  has : x.hasAll n g.states
  len : g.stuck.length = n
  bar : ∀ i, i < n → g.stuck.getD i false = false → inB (x.bars.getD i []) (g.states.getD i St.zero) = true
  bad : g.bad = 0
theorem getD_rep {n i : Nat} : (List.replicate n false).getD i false = false := by
  rw [List.getD_eq_getElem?_getD, List.getElem?_replicate]
  split <;> rfl
theorem getD_take {α : Type} {l : List α} {d : α} {m i : Nat} (h : i < m) : (l.take m).getD i d = l.getD i d := by
  rw [List.getD_eq_getElem?_getD, List.getElem?_take_of_lt h, ← List.getD_eq_getElem?_getD]
theorem playK_take {x : Cs} {l : List Sp} {m : Nat} : ∀ {k : Nat}, k ≤ m → x.playK (l.take m) k = x.playK l k
  | 0, _ => rfl
  | k + 1, h => by rw [Cs.playK, Cs.playK, playK_take (by omega), getD_take (by omega)]
def Cs.up (x : Cs) (m : Nat) : Cs := ⟨x.plants.take m, x.codes.take m, x.bars.take m⟩
def Sp.up (s : Sp) (m : Nat) : Sp := ⟨s.feed, s.msgs.take m, s.stuck.take m⟩
section
variable {x : Cs} {n m : Nat}
end
def oneC (p : Pl) (c : List Ln) : Cs := ⟨[p], [c], [[]]⟩
theorem one_check {p : Pl} {c : List Ln} : (oneC p c).checkT = if p.checkT = 0 then gateT c else p.checkT := by
  have hb : barT ((oneC p c).bars.getD 0 []) = 0 := by
    show barT [] = 0
    decide
  show firstErr (oneC p c).gateT [0] = _
  have e : (oneC p c).gateT 0 = if p.checkT = 0 then gateT c else p.checkT := by
    show (if p.checkT = 0 then (if gateT c = 0 then barT ((oneC p c).bars.getD 0 []) else gateT c) else p.checkT) = _
    rw [hb]
    by_cases h1 : p.checkT = 0
    · rw [if_pos h1, if_pos h1]
      by_cases h2 : gateT c = 0
      · rw [if_pos h2, h2]
      · rw [if_neg h2]
    · rw [if_neg h1, if_neg h1]
  rw [firstErr, e]
  by_cases h1 : p.checkT = 0
  · rw [if_pos h1]
    by_cases h2 : gateT c = 0
    · rw [if_pos h2, h2]
      rfl
    · rw [if_neg h2]
  · simp only [if_neg h1]
def oneSt (p : Pl) (c : List Ln) (l : List Sp) : Nat → St
  | 0 => p.beginT.1
  | k + 1 => (nextT p (if (l.getD k Sp.zero).stuck.getD 0 false = true then [] else c) (oneSt p c l k) ⟨(l.getD k Sp.zero).feed, (l.getD k Sp.zero).msgs.getD 0 0⟩).1
theorem one_play {p : Pl} {c : List Ln} {l : List Sp} (hv : l.all (oneC p c).stepB = true) : ∀ {k : Nat}, k ≤ l.length → ∃ g, (oneC p c).playK l k = some g ∧ g.states = [oneSt p c l k]
  | 0, _ => ⟨_, rfl, rfl⟩
  | k + 1, hk => by
    obtain ⟨g, h1, h2⟩ := one_play hv (k := k) (by omega)
    have hsv : (oneC p c).stepB (l.getD k Sp.zero) = true := by
      rw [getD_at (show k < l.length by omega)]
      exact List.all_eq_true.1 hv _ (List.getElem_mem _)
    simp only [Cs.stepB, Bool.and_eq_true] at hsv
    have hf : (l.getD k Sp.zero).feed ≤ p.feed := (inI_yes hsv.2.2.1).2
    have e : (oneC p c).hourK g.states (l.getD k Sp.zero) 1 = some (((oneC p c).goT g.states (l.getD k Sp.zero) 0 (l.getD k Sp.zero).feed).2.1, [((oneC p c).goT g.states (l.getD k Sp.zero) 0 (l.getD k Sp.zero).feed).1]) := by
      show (if (l.getD k Sp.zero).feed ≤ p.feed then _ else _) = _
      rw [if_pos hf]
      rfl
    rw [Cs.playK, h1, Option.bind_some, Cs.playStep]
    show ∃ g', Option.map _ ((oneC p c).hourK g.states (l.getD k Sp.zero) 1) = some g' ∧ _
    rw [e, Option.map_some]
    exact ⟨_, rfl, by rw [h2]; rfl⟩
theorem one_pos {p : Pl} {s : St} {x : Sh} (h : (nextT p [] s x).2.2 = 0) : (nextT p [] s x).1.position = s.position := by
  rcases next_error (p := p) (code := []) (s := s) (x := x) with ⟨er, h1, h2⟩ | ⟨_, _, _, _, h2⟩
  · rw [h2] at h
    exact absurd h h1
  · rw [h2]
    show movedT p [] s x = s.position
    unfold movedT
    rw [if_neg (by simp [firstT])]
end Go.Proofs.Ytcjcjkomcolgeaa

/-
  Rows of Booleans that are made, rows that are built as blocks; plain facts on Play. No condition.
-/
namespace Go.Proofs.Ytcjcjkomcolgeaa
open Go.RowKit

theorem made_one (v : Value) (h : v.cells = #[v]) (n : Nat) : madeCells v.cells (n * 1) = (List.replicate n v).toArray := by
  rw [h, madeCells]
  apply Array.ext'
  apply List.ext_getElem?
  intro i
  rcases Nat.lt_or_ge i n with hi | hi
  · simp [hi, Nat.mod_one]
  · simp [hi]
theorem make_bools (w : World) (n : Nat) (hn : n ≤ 1024) : (Instr.makeSlice 41 (.int .i64 (n : Int)) (.int .i64 (n : Int))).run Try.prog w = .ok (.slice (some ⟨w.heap.size, 0, none⟩) n n) (w.alloc (.cells (List.replicate n (Value.bool false)).toArray 4)) := by
  obtain ⟨i, h1, h2, h3, h4⟩ := info_parts (show (Try.prog.info? 4).map (fun i => (i.zero, i.size, i.bytes)) = some (some (.bool false), 1, 1) by kernel_rfl)
  have := run_makeSlice (P := Try.prog) w 41 4 i (.bool false) Try.underlying41 h1 h2 .i64 .i64 n n (by omega) (Int.le_refl _) (by rw [h3]; simp; omega) (by rw [h4]; omega) (by omega)
  rw [h3] at this
  simp only [Int.toNat_natCast] at this
  rw [this, made_one _ rfl]
theorem OwnE.box {α : Type} {enc : α → List Value} {size : Nat} {w : World} {base e : Nat} {V : Value} {l : List α} (h : OwnE enc size w base e V l) (hs : ∀ x, (enc x).length = size) (hl : 0 < l.length) :
    ∃ b cap L, V = .slice (some ⟨b, 0, none⟩) l.length cap ∧ l.length ≤ cap ∧ base ≤ b ∧ Box w b L ∧ ∀ k (hk : k < l.length), ∀ j, j < size → L[k * size + j]? = (enc l[k])[j]? := by
  have hc := h.2
  rcases hc with ⟨rfl, h0⟩ | ⟨b, cap, cur, hv, hb, hg, hcap, hcm, hsz, htk⟩
  · omega
  · refine ⟨b, cap, cur.toList, hv, hcap, hb, ⟨e, by simpa using hg⟩, fun k hk j hj => ?_⟩
    have e1 := flatMap_at hs l k j hk hj
    rw [← e1, ← htk, List.getElem?_take_of_lt]
    have : (k + 1) * size ≤ l.length * size := Nat.mul_le_mul_right _ hk
    rw [Nat.add_mul, Nat.one_mul] at this
    omega
def Cs.endT (x : Cs) (l : List Sp) : List St × Int × Int := match x.playK l l.length with
  | some g => (g.states, g.bad, 0)
  | none => ([], 0, 350)
theorem playT_go {x : Cs} {l : List Sp} (h0 : x.checkT = 0) (h1 : l.length ≤ 4096) (h : l.all x.stepB = true) : x.playT l = x.endT l := by
  rw [Cs.playT, if_pos h0, if_pos h1, if_pos h]
  rfl
theorem endT_some {x : Cs} {l : List Sp} {g : Pst} (h : x.playK l l.length = some g) : x.endT l = (g.states, g.bad, 0) := by rw [Cs.endT, h]
theorem endT_none {x : Cs} {l : List Sp} (h : x.playK l l.length = none) : x.endT l = ([], 0, 350) := by rw [Cs.endT, h]
theorem playK_none {x : Cs} {l : List Sp} {k : Nat} (h : x.playK l k = none) : ∀ m, x.playK l (k + m) = none
  | 0 => h
  | m + 1 => by rw [← Nat.add_assoc, Cs.playK, playK_none h m]; rfl
theorem playK_bad {x : Cs} {l : List Sp} : ∀ {k : Nat} {g : Pst}, x.playK l k = some g → 0 ≤ g.bad
  | 0, g, h => by
    simp only [Cs.playK, Option.some.injEq] at h
    rw [← h]
    exact badT_nonneg
  | k + 1, g, h => by
    rw [Cs.playK] at h
    rcases hh : x.playK l k with _ | g'
    · rw [hh] at h; cases h
    · rw [hh, Option.bind_some, Cs.playStep] at h
      rcases hq : x.hourK g'.states (l.getD k Sp.zero) x.plants.length with _ | r
      · rw [hq] at h; cases h
      · rw [hq, Option.map_some, Option.some.injEq] at h
        rw [← h]
        dsimp only
        split
        · exact badT_nonneg
        · exact playK_bad hh
theorem playK_next {x : Cs} {l : List Sp} {k : Nat} {g : Pst} {n : Nat} {f : Int} {sts : List St} (hn : x.plants.length = n) (h : x.playK l k = some g) (hq : x.hourK g.states (l.getD k Sp.zero) n = some (f, sts)) :
    x.playK l (k + 1) = some ⟨sts, orL g.stuck (l.getD k Sp.zero).stuck n, x.lookK sts (orL g.stuck (l.getD k Sp.zero).stuck n) g.bad n⟩ := by
  rw [Cs.playK, h, Option.bind_some, Cs.playStep, hn, hq, Option.map_some, lookK_bad (hourK_len hq) (playK_bad h)]
theorem playK_stop {x : Cs} {l : List Sp} {k : Nat} {g : Pst} {n : Nat} (hn : x.plants.length = n) (h : x.playK l k = some g) (hq : x.hourK g.states (l.getD k Sp.zero) n = none) : x.playK l (k + 1) = none := by
  rw [Cs.playK, h, Option.bind_some, Cs.playStep, hn, hq]
  rfl
theorem begins_succ {x : Cs} {k : Nat} (hk : k < x.plants.length) : x.begins.take (k + 1) = x.begins.take k ++ [(x.plants[k]).beginT.1] := by
  have hk2 : k < x.begins.length := by rw [Cs.begins, List.length_map]; exact hk
  rw [List.take_succ_eq_append_getElem hk2]
  simp [Cs.begins]
theorem begins_len {x : Cs} : x.begins.length = x.plants.length := by rw [Cs.begins, List.length_map]
theorem begin_ok {p : Pl} (h : p.checkT = 0) : p.beginT.2 = 0 := by rw [Pl.beginT, if_pos h]
theorem start_look {x : Cs} {n : Nat} (hn : x.plants.length = n) : x.playK [] 0 = x.playK [] 0 ∧ x.start = ⟨x.begins, List.replicate n false, x.lookK x.begins (List.replicate n false) 0 n⟩ := by
  refine ⟨rfl, ?_⟩
  rw [lookK_bad (by rw [begins_len, hn]) (Int.le_refl 0), if_pos rfl, Cs.start, hn]
theorem st_cells (s : St) {j : Nat} (hj : j < 6) : s.cells[j]? = some ((s.cells).getD j undef) := by
  rw [List.getD_eq_getElem?_getD, List.getElem?_eq_getElem hj]
  rfl
end Go.Proofs.Ytcjcjkomcolgeaa
