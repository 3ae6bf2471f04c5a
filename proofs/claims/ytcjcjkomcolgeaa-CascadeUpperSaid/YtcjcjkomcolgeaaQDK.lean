/- The reference of chapter 35: valid, firstBad. (Printed by pp.py.) No condition. -/
import Derived.Test.YtcjcjkomcolgeaaQDM
import Derived.Test.YtcjcjkomcolgeaaQDP
import Derived.Test.YtcjcjkomcolgeaaQBT
import Derived.Laws.MakeOwn
set_option linter.unusedVariables false
set_option linter.unusedSimpArgs false
namespace Go.Proofs.Ytcjcjkomcolgeaa
open Go.RowKit

theorem stepB_parts {x : Cs} {s : Sp} {n : Nat} (hn : x.plants.length = n) : x.stepB s = (decide (s.msgs.length = n) && (decide (s.stuck.length = n) && (inI s.feed 0 (x.plants.getD 0 Pl.zero).feed && (List.range n).all (x.msgB s)))) := by
  rw [Cs.stepB, hn]
end Go.Proofs.Ytcjcjkomcolgeaa

/-
  The reference of chapter 35: firstBad. (Printed by pp.py.) No condition.
-/
namespace Go.Proofs.Ytcjcjkomcolgeaa
open Go.RowKit

theorem badT_none {x : Cs} {sts : List St} {stuck : List Bool} (h : ∀ i, i < sts.length → x.badAt sts stuck i = false) : x.badT sts stuck = 0 := by
  rw [Cs.badT, range_none h]
theorem badT_some {x : Cs} {sts : List St} {stuck : List Bool} {k : Nat} (hk : k < sts.length) (h : ∀ i, i < k → x.badAt sts stuck i = false) (hx : x.badAt sts stuck k = true) : x.badT sts stuck = (k : Int) + 1 := by
  rw [Cs.badT, range_find hk h hx]
end Go.Proofs.Ytcjcjkomcolgeaa

/-
  Cascades: what a certificate says of the play; the first gates alone; one gate alone. Plain facts. No condition.
-/
namespace Go.Proofs.Ytcjcjkomcolgeaa
open Go.RowKit

theorem badT_nonneg {x : Cs} {sts : List St} {stuck : List Bool} : 0 ≤ x.badT sts stuck := by
  unfold Cs.badT
  split <;> omega
theorem lookK_bad {x : Cs} {sts : List St} {stuck : List Bool} {bad : Int} {n : Nat} (hl : sts.length = n) (hb : 0 ≤ bad) : x.lookK sts stuck bad n = if bad = 0 then x.badT sts stuck else bad := by
  unfold Cs.lookK Cs.badT
  rw [hl]
  by_cases h : bad > 0
  · rw [if_pos h, if_neg (by omega)]
  · have h0 : bad = 0 := by omega
    subst h0
    rw [if_neg h, if_pos rfl]
    cases List.find? (x.badAt sts stuck) (List.range n) <;> rfl
theorem right_zero {x : Cs} {n : Nat} (h : CsRight x n) : x.checkT = 0 := by
  have h8 := h.most
  have h0 := h.pos
  unfold Cs.checkT
  rw [h.plants, h.codes, h.bars, if_pos h8, if_neg (by omega)]
  refine firstErr_zero fun i hi => ?_
  obtain ⟨g1, g2, g3⟩ := h.gate i (List.mem_range.1 hi)
  unfold Cs.gateT
  rw [if_pos g1, if_pos g2, g3]
structure CsCert (x : Cs) (n : Nat) : Prop where
  right : CsRight x n
  cert : ∀ k, k < n → Cert (x.plants.getD k Pl.zero) (x.codes.getD k []) (x.bars.getD k [])
  most : ∀ k, k + 1 < n → (x.plants.getD k Pl.zero).rate * (x.plants.getD k Pl.zero).positions ≤ (x.plants.getD (k + 1) Pl.zero).feed
theorem certB_all {x : Cs} (h : x.checkT = 0) (hc : x.certT.1 = true) : ∀ k, k < x.plants.length → x.certB k = true := by
  unfold Cs.certT at hc
  rw [if_pos h] at hc
  intro k hk
  cases hf : (List.range x.plants.length).find? (fun i => !x.certB i) with
  | some i => rw [hf] at hc; cases hc
  | none =>
    have := List.find?_eq_none.1 hf k (List.mem_range.2 hk)
    simpa using this
theorem cert_true_of {x : Cs} (h : x.checkT = 0) (hk : ∀ k, k < x.plants.length → x.certB k = true) : x.certT = (true, 0, 0) := by
  unfold Cs.certT
  rw [if_pos h, range_none (fun i hi => by rw [hk i hi]; rfl)]
structure PlayInv (x : Cs) (n : Nat) (g : Pst) : Prop where
  has : x.hasAll n g.states
  len : g.stuck.length = n
  bar : ∀ i, i < n → g.stuck.getD i false = false → inB (x.bars.getD i []) (g.states.getD i St.zero) = true
  bad : g.bad = 0
theorem getD_rep {n i : Nat} : (List.replicate n false).getD i false = false := by
  rw [List.getD_eq_getElem?_getD, List.getElem?_replicate]
  split <;> rfl
theorem getD_take {α : Type} {l : List α} {d : α} {m i : Nat} (h : i < m) : (l.take m).getD i d = l.getD i d := by
  rw [List.getD_eq_getElem?_getD, List.getElem?_take_of_lt h, ← List.getD_eq_getElem?_getD]
def Cs.up (x : Cs) (m : Nat) : Cs := ⟨x.plants.take m, x.codes.take m, x.bars.take m⟩
def Sp.up (s : Sp) (m : Nat) : Sp := ⟨s.feed, s.msgs.take m, s.stuck.take m⟩
section
variable {x : Cs} {n m : Nat}
theorem up_right (h : CsRight x n) (h1 : 0 < m) (h2 : m ≤ n) : CsRight (x.up m) m := by
  have h8 := h.most
  refine ⟨?_, ?_, ?_, h1, by omega, fun k hk => ?_⟩
  · rw [Cs.up, List.length_take, h.plants]; omega
  · rw [Cs.up, List.length_take, h.codes]; omega
  · rw [Cs.up, List.length_take, h.bars]; omega
  · rw [Cs.up, getD_take hk, getD_take hk, getD_take hk]
    exact h.gate k (by omega)
theorem up_plant {k : Nat} (hk : k < m) : (x.up m).plants.getD k Pl.zero = x.plants.getD k Pl.zero := getD_take hk
theorem up_hour {sts : List St} {s : Sp} : ∀ {k : Nat}, k ≤ m → (x.up m).hourK (sts.take m) (s.up m) k = x.hourK sts s k
  | 0, _ => rfl
  | k + 1, hk => by
    have e : ∀ f, (x.up m).goT (sts.take m) (s.up m) k f = x.goT sts s k f := fun f => by
      rw [Cs.goT, Cs.goT, Cs.codeT, Cs.codeT, up_plant (by omega), Cs.up, Sp.up, getD_take (by omega), getD_take (by omega), getD_take (by omega), getD_take (by omega)]
    rw [Cs.hourK, Cs.hourK, up_hour (by omega), up_plant (by omega)]
    simp only [e]
theorem hourK_pre {sts : List St} {s : Sp} {k : Nat} : ∀ {j : Nat} {f : Int} {l : List St}, x.hourK sts s (k + j) = some (f, l) → ∃ f', x.hourK sts s k = some (f', l.take k)
  | 0, f, l, h => ⟨f, by rw [Nat.add_zero] at h; rw [h, List.take_of_length_le (by rw [hourK_len h]; exact Nat.le_refl _)]⟩
  | j + 1, f, l, h => by
    rw [← Nat.add_assoc, Cs.hourK] at h
    rcases hh : x.hourK sts s (k + j) with _ | ⟨f', l'⟩
    · rw [hh] at h; cases h
    · rw [hh] at h
      dsimp only at h
      split at h
      · simp only [Option.some.injEq, Prod.mk.injEq] at h
        obtain ⟨f2, h2⟩ := hourK_pre hh
        refine ⟨f2, ?_⟩
        rw [h2, ← h.2, List.take_append_of_le_length (by rw [hourK_len hh]; omega)]
      · cases h
theorem up_badAt {sts : List St} {stuck : List Bool} {i : Nat} (hi : i < m) : (x.up m).badAt (sts.take m) (stuck.take m) i = x.badAt sts stuck i := by
  rw [Cs.badAt, Cs.badAt, up_plant hi, getD_take hi, getD_take hi]
theorem up_badT {sts : List St} {stuck : List Bool} (hl : sts.length = n) (hm : m ≤ n) (h : x.badT sts stuck ≤ m) : (x.up m).badT (sts.take m) (stuck.take m) = x.badT sts stuck := by
  have hlm : (sts.take m).length = m := by rw [List.length_take]; omega
  cases hf : (List.range sts.length).find? (x.badAt sts stuck) with
  | none =>
    have h1 := List.find?_eq_none.1 hf
    have e : x.badT sts stuck = 0 := by rw [Cs.badT, hf]
    rw [e]
    refine badT_none fun i hi => ?_
    rw [hlm] at hi
    rw [up_badAt hi]
    have := h1 i (List.mem_range.2 (by omega))
    simpa using this
  | some i =>
    have e : x.badT sts stuck = (i : Int) + 1 := by rw [Cs.badT, hf]
    rw [e] at h ⊢
    have h1 := List.find?_some hf
    refine badT_some (k := i) (by rw [hlm]; omega) (fun j hj => ?_) (by rw [up_badAt (by omega)]; exact h1)
    rw [up_badAt (by omega)]
    have h2 := List.mem_range.1 (List.mem_of_find?_eq_some hf)
    cases hb : x.badAt sts stuck j with
    | false => rfl
    | true =>
      exfalso
      obtain ⟨_, pre, post, h3, h4⟩ := List.find?_eq_some_iff_append.1 hf
      have h5 : (List.range sts.length)[pre.length]? = some i := by rw [h3]; simp
      obtain ⟨_, h6⟩ := List.getElem?_eq_some_iff.1 h5
      rw [List.getElem_range] at h6
      have h8 : (List.range sts.length)[j]? = some j := List.getElem?_range (by omega)
      rw [h3, List.getElem?_append_left (by omega)] at h8
      have h7 : j ∈ pre := List.mem_of_getElem? h8
      have := h4 j h7
      rw [hb] at this
      cases this
theorem take_orL {a b : List Bool} (hm : m ≤ n) : orL (a.take m) (b.take m) m = (orL a b n).take m := by
  unfold orL
  rw [← List.map_take, List.take_range, Nat.min_eq_left hm]
  refine List.map_congr_left fun i hi => ?_
  have hi := List.mem_range.1 hi
  rw [getD_take hi, getD_take hi]
theorem up_play {l : List Sp} (hn : x.plants.length = n) (hm : m ≤ n) : ∀ {k : Nat} {g : Pst}, k ≤ l.length → x.playK l k = some g →
    ∃ g', (x.up m).playK (l.map (Sp.up · m)) k = some g' ∧ g'.states = g.states.take m ∧ g'.stuck = g.stuck.take m ∧ g.states.length = n ∧ (g.bad ≤ m → g'.bad = g.bad)
  | 0, g, _, h => by
    have hum : (x.up m).plants.length = m := by rw [Cs.up, List.length_take, hn]; omega
    simp only [Cs.playK, Option.some.injEq] at h
    have hb : (x.up m).begins = x.begins.take m := by rw [Cs.begins, Cs.begins, Cs.up, List.map_take]
    have hr : List.replicate (x.up m).plants.length false = (List.replicate x.plants.length false).take m := by rw [hum, hn, List.take_replicate, Nat.min_eq_left hm]
    have hlb : x.begins.length = n := by rw [Cs.begins, List.length_map, hn]
    refine ⟨_, rfl, ?_, ?_, ?_, ?_⟩
    · rw [← h]; exact hb
    · rw [← h]; exact hr
    · rw [← h]; exact hlb
    · rw [← h]
      intro hq
      show (x.up m).badT _ _ = x.badT _ _
      rw [hb, hr]
      exact up_badT hlb hm hq
  | k + 1, g, hk, h => by
    have hum : (x.up m).plants.length = m := by rw [Cs.up, List.length_take, hn]; omega
    rw [Cs.playK] at h
    rcases hh : x.playK l k with _ | g1
    · rw [hh] at h; cases h
    · rw [hh, Option.bind_some, Cs.playStep, hn] at h
      rcases hq : x.hourK g1.states (l.getD k Sp.zero) n with _ | ⟨f, sts⟩
      · rw [hq] at h; cases h
      · rw [hq, Option.map_some, Option.some.injEq] at h
        obtain ⟨g', h1, h2, h3, h4, h5⟩ := up_play hn hm (by omega) hh
        have hl := hourK_len hq
        obtain ⟨j, hj⟩ : ∃ j, n = m + j := ⟨n - m, by omega⟩
        rw [hj] at hq
        obtain ⟨f', h6⟩ := hourK_pre hq
        rw [← hj] at hq
        have e : (l.map (Sp.up · m)).getD k Sp.zero = (l.getD k Sp.zero).up m := by
          rw [getD_at (show k < (l.map (Sp.up · m)).length by rw [List.length_map]; omega), getD_at (show k < l.length by omega), List.getElem_map]
        have h7 : (x.up m).hourK g'.states ((l.getD k Sp.zero).up m) m = some (f', sts.take m) := by rw [h2, up_hour (Nat.le_refl m), h6]
        have h8 : orL g'.stuck ((l.getD k Sp.zero).up m).stuck m = (orL g1.stuck (l.getD k Sp.zero).stuck n).take m := by rw [h3]; exact take_orL hm
        refine ⟨⟨sts.take m, orL g'.stuck ((l.getD k Sp.zero).up m).stuck m, if g'.bad = 0 then (x.up m).badT (sts.take m) (orL g'.stuck ((l.getD k Sp.zero).up m).stuck m) else g'.bad⟩, ?_, ?_, ?_, ?_, ?_⟩
        · rw [Cs.playK, h1, Option.bind_some, Cs.playStep, e, hum, h7, Option.map_some]
        · rw [← h]
        · rw [← h]; exact h8
        · rw [← h]; exact hl
        · rw [← h]
          dsimp only
          rw [h8]
          intro hb
          by_cases h9 : g1.bad = 0
          · rw [if_pos h9] at hb ⊢
            rw [if_pos (by rw [h5 (by omega)]; exact h9)]
            exact up_badT hl hm hb
          · rw [if_neg h9] at hb ⊢
            rw [if_neg (by rw [h5 hb]; exact h9)]
            exact h5 hb
theorem up_step {s : Sp} (hn : x.plants.length = n) (h1 : 0 < m) (h2 : m ≤ n) (hv : x.stepB s = true) : (x.up m).stepB (s.up m) = true := by
  have hum : (x.up m).plants.length = m := by rw [Cs.up, List.length_take, hn]; omega
  simp only [Cs.stepB, Bool.and_eq_true, decide_eq_true_eq, hn, hum] at hv ⊢
  obtain ⟨a, b, c, d⟩ := hv
  refine ⟨by rw [Sp.up, List.length_take]; omega, by rw [Sp.up, List.length_take]; omega, ?_, ?_⟩
  · rw [up_plant h1]; exact c
  · rw [List.all_eq_true] at d ⊢
    intro i hi
    have hi := List.mem_range.1 hi
    have := d i (List.mem_range.2 (by omega))
    rw [Cs.msgB] at this ⊢
    rw [up_plant hi, Sp.up, getD_take hi]
    exact this
theorem up_cert (h : CsRight x n) (hc : x.certT.1 = true) (h1 : 0 < m) (h2 : m ≤ n) : (x.up m).certT = (true, 0, 0) := by
  have key := certB_all (right_zero h) hc
  have hum : (x.up m).plants.length = m := (up_right h h1 h2).plants
  refine cert_true_of (right_zero (up_right h h1 h2)) fun k hk => ?_
  rw [hum] at hk
  have := key k (by rw [h.plants]; omega)
  rw [Cs.certB] at this ⊢
  rw [up_plant hk, up_plant (show k - 1 < m by omega)]
  have e1 : (x.up m).codes.getD k [] = x.codes.getD k [] := getD_take hk
  have e2 : (x.up m).bars.getD k [] = x.bars.getD k [] := getD_take hk
  rw [e1, e2]
  exact this
end
end Go.Proofs.Ytcjcjkomcolgeaa

/-
  Rows of Booleans that are made, rows that are built as blocks; plain facts on Play. No condition.
-/
namespace Go.Proofs.Ytcjcjkomcolgeaa
open Go.RowKit

theorem made_one (v : Value) (h : v.cells = #[v]) (n : Nat) : madeCells v.cells (n * 1) = (List.replicate n v).toArray := by
  rw [h, madeCells]
  apply Array.ext'
  apply List.ext_getElem?
  intro i
  rcases Nat.lt_or_ge i n with hi | hi
  · simp [hi, Nat.mod_one]
  · simp [hi]
theorem make_bools (w : World) (n : Nat) (hn : n ≤ 1024) : (Instr.makeSlice 41 (.int .i64 (n : Int)) (.int .i64 (n : Int))).run Try.prog w = .ok (.slice (some ⟨w.heap.size, 0, none⟩) n n) (w.alloc (.cells (List.replicate n (Value.bool false)).toArray 4)) := by
  obtain ⟨i, h1, h2, h3, h4⟩ := info_parts (show (Try.prog.info? 4).map (fun i => (i.zero, i.size, i.bytes)) = some (some (.bool false), 1, 1) by kernel_rfl)
  have := run_makeSlice (P := Try.prog) w 41 4 i (.bool false) Try.underlying41 h1 h2 .i64 .i64 n n (by omega) (Int.le_refl _) (by rw [h3]; simp; omega) (by rw [h4]; omega) (by omega)
  rw [h3] at this
  simp only [Int.toNat_natCast] at this
  rw [this, made_one _ rfl]
theorem OwnE.box {α : Type} {enc : α → List Value} {size : Nat} {w : World} {base e : Nat} {V : Value} {l : List α} (h : OwnE enc size w base e V l) (hs : ∀ x, (enc x).length = size) (hl : 0 < l.length) :
    ∃ b cap L, V = .slice (some ⟨b, 0, none⟩) l.length cap ∧ l.length ≤ cap ∧ base ≤ b ∧ Box w b L ∧ ∀ k (hk : k < l.length), ∀ j, j < size → L[k * size + j]? = (enc l[k])[j]? := by
  have hc := h.2
  rcases hc with ⟨rfl, h0⟩ | ⟨b, cap, cur, hv, hb, hg, hcap, hcm, hsz, htk⟩
  · omega
  · refine ⟨b, cap, cur.toList, hv, hcap, hb, ⟨e, by simpa using hg⟩, fun k hk j hj => ?_⟩
    have e1 := flatMap_at hs l k j hk hj
    rw [← e1, ← htk, List.getElem?_take_of_lt]
    have : (k + 1) * size ≤ l.length * size := Nat.mul_le_mul_right _ hk
    rw [Nat.add_mul, Nat.one_mul] at this
    omega
def Cs.endT (x : Cs) (l : List Sp) : List St × Int × Int := match x.playK l l.length with
  | some g => (g.states, g.bad, 0)
  | none => ([], 0, 350)
theorem playT_go {x : Cs} {l : List Sp} (h0 : x.checkT = 0) (h1 : l.length ≤ 4096) (h : l.all x.stepB = true) : x.playT l = x.endT l := by
  rw [Cs.playT, if_pos h0, if_pos h1, if_pos h]
  rfl
theorem endT_some {x : Cs} {l : List Sp} {g : Pst} (h : x.playK l l.length = some g) : x.endT l = (g.states, g.bad, 0) := by rw [Cs.endT, h]
theorem endT_none {x : Cs} {l : List Sp} (h : x.playK l l.length = none) : x.endT l = ([], 0, 350) := by rw [Cs.endT, h]
theorem playK_none {x : Cs} {l : List Sp} {k : Nat} (h : x.playK l k = none) : ∀ m, x.playK l (k + m) = none
  | 0 => h
  | m + 1 => by rw [← Nat.add_assoc, Cs.playK, playK_none h m]; rfl
theorem playK_bad {x : Cs} {l : List Sp} : ∀ {k : Nat} {g : Pst}, x.playK l k = some g → 0 ≤ g.bad
  | 0, g, h => by
    simp only [Cs.playK, Option.some.injEq] at h
    rw [← h]
    exact badT_nonneg
  | k + 1, g, h => by
    rw [Cs.playK] at h
    rcases hh : x.playK l k with _ | g'
    · rw [hh] at h; cases h
    · rw [hh, Option.bind_some, Cs.playStep] at h
      rcases hq : x.hourK g'.states (l.getD k Sp.zero) x.plants.length with _ | r
      · rw [hq] at h; cases h
      · rw [hq, Option.map_some, Option.some.injEq] at h
        rw [← h]
        dsimp only
        split
        · exact badT_nonneg
        · exact playK_bad hh
theorem playK_next {x : Cs} {l : List Sp} {k : Nat} {g : Pst} {n : Nat} {f : Int} {sts : List St} (hn : x.plants.length = n) (h : x.playK l k = some g) (hq : x.hourK g.states (l.getD k Sp.zero) n = some (f, sts)) :
    x.playK l (k + 1) = some ⟨sts, orL g.stuck (l.getD k Sp.zero).stuck n, x.lookK sts (orL g.stuck (l.getD k Sp.zero).stuck n) g.bad n⟩ := by
  rw [Cs.playK, h, Option.bind_some, Cs.playStep, hn, hq, Option.map_some, lookK_bad (hourK_len hq) (playK_bad h)]
theorem playK_stop {x : Cs} {l : List Sp} {k : Nat} {g : Pst} {n : Nat} (hn : x.plants.length = n) (h : x.playK l k = some g) (hq : x.hourK g.states (l.getD k Sp.zero) n = none) : x.playK l (k + 1) = none := by
  rw [Cs.playK, h, Option.bind_some, Cs.playStep, hn, hq]
  rfl
theorem begins_succ {x : Cs} {k : Nat} (hk : k < x.plants.length) : x.begins.take (k + 1) = x.begins.take k ++ [(x.plants[k]).beginT.1] := by
  have hk2 : k < x.begins.length := by rw [Cs.begins, List.length_map]; exact hk
  rw [List.take_succ_eq_append_getElem hk2]
  simp [Cs.begins]
theorem begins_len {x : Cs} : x.begins.length = x.plants.length := by rw [Cs.begins, List.length_map]
theorem begin_ok {p : Pl} (h : p.checkT = 0) : p.beginT.2 = 0 := by rw [Pl.beginT, if_pos h]
theorem start_look {x : Cs} {n : Nat} (hn : x.plants.length = n) : x.playK [] 0 = x.playK [] 0 ∧ x.start = ⟨x.begins, List.replicate n false, x.lookK x.begins (List.replicate n false) 0 n⟩ := by
  refine ⟨rfl, ?_⟩
  rw [lookK_bad (by rw [begins_len, hn]) (Int.le_refl 0), if_pos rfl, Cs.start, hn]
theorem st_cells (s : St) {j : Nat} (hj : j < 6) : s.cells[j]? = some ((s.cells).getD j undef) := by
  rw [List.getD_eq_getElem?_getD, List.getElem?_eq_getElem hj]
  rfl
end Go.Proofs.Ytcjcjkomcolgeaa
