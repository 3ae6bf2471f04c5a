/- The reference of chapter 35: valid, firstBad. (Printed by pp.py.) No condition. -/
import Derived.Test.YtcjcjkomcolgeaaQDM
import Derived.Test.YtcjcjkomcolgeaaQDP
import Derived.Test.YtcjcjkomcolgeaaQBT
import Derived.Laws.MakeOwn
set_option linter.unusedVariables false
set_option linter.unusedSimpArgs false
namespace Go.Proofs.Ytcjcjkomcolgeaa
open Go.RowKit

theorem stepB_parts {x : Cs} {s : Sp} {n : Nat} (hn : x.plants.length = n) : x.stepB s = (decide (s.msgs.length = n) && (decide (s.stuck.length = n) && (inI s.feed 0 (x.plants.getD 0 Pl.zero).feed && (List.range n).all (x.msgB s)))) := by
  rw [Cs.stepB, hn]
end Go.Proofs.Ytcjcjkomcolgeaa

/-
  The reference of chapter 35: firstBad. (Printed by pp.py.) No condition.
-/
namespace Go.Proofs.Ytcjcjkomcolgeaa
open Go.RowKit

theorem badT_none {x : Cs} {sts : List St} {stuck : List Bool} (h : ∀ i, i < sts.length → x.badAt sts stuck i = false) : x.badT sts stuck = 0 := by
  rw [Cs.badT, range_none h]
end Go.Proofs.Ytcjcjkomcolgeaa

/-
  Cascades: what a certificate says of the play; the first gates alone; one gate alone. Plain facts. No condition.
-/
namespace Go.Proofs.Ytcjcjkomcolgeaa
open Go.RowKit

theorem badT_nonneg {x : Cs} {sts : List St} {stuck : List Bool} : 0 ≤ x.badT sts stuck := by
  unfold Cs.badT
  split <;> omega
theorem lookK_bad {x : Cs} {sts : List St} {stuck : List Bool} {bad : Int} {n : Nat} (hl : sts.length = n) (hb : 0 ≤ bad) : x.lookK sts stuck bad n = if bad = 0 then x.badT sts stuck else bad := by
  unfold Cs.lookK Cs.badT
  rw [hl]
  by_cases h : bad > 0
  · rw [if_pos h, if_neg (by omega)]
  · have h0 : bad = 0 := by omega
    subst h0
    rw [if_neg h, if_pos rfl]
    cases List.find? (x.badAt sts stuck) (List.range n) <;> rfl
theorem right_zero {x : Cs} {n : Nat} (h : CsRight x n) : x.checkT = 0 := by
  have h8 := h.most
  have h0 := h.pos
  unfold Cs.checkT
  rw [h.plants, h.codes, h.bars, if_pos h8, if_neg (by omega)]
  refine firstErr_zero fun i hi => ?_
  obtain ⟨g1, g2, g3⟩ := h.gate i (List.mem_range.1 hi)
  unfold Cs.gateT
  rw [if_pos g1, if_pos g2, g3]
structure CsCert (x : Cs) (n : Nat) : Prop where
  right : CsRight x n
  cert : ∀ k, k < n → Cert (x.plants.getD k Pl.zero) (x.codes.getD k []) (x.bars.getD k [])
  most : ∀ k, k + 1 < n → (x.plants.getD k Pl.zero).rate * (x.plants.getD k Pl.zero).positions ≤ (x.plants.getD (k + 1) Pl.zero).feed
theorem certB_all {x : Cs} (h : x.checkT = 0) (hc : x.certT.1 = true) : ∀ k, k < x.plants.length → x.certB k = true := by
  unfold Cs.certT at hc
  rw [if_pos h] at hc
  intro k hk
  cases hf : (List.range x.plants.length).find? (fun i => !x.certB i) with
  | some i => rw [hf] at hc; cases hc
  | none =>
    have := List.find?_eq_none.1 hf k (List.mem_range.2 hk)
    simpa using this
theorem cs_cert {x : Cs} (h : x.checkT = 0) (hc : x.certT.1 = true) : CsCert x x.plants.length := by
  have hR := cs_right h
  have key := certB_all h hc
  refine ⟨hR, fun k hk => ?_, fun k hk => ?_⟩
  · have h1 := key k hk
    simp only [Cs.certB, Bool.and_eq_true] at h1
    obtain ⟨g1, g2, g3⟩ := hR.gate k hk
    exact (cert_iff (ask_of g1 g2) g3).1 h1.1
  · have h1 := key (k + 1) hk
    simp only [Cs.certB, Bool.and_eq_true, decide_eq_true_eq] at h1
    exact h1.2.resolve_left (by omega)
theorem go_in {x : Cs} {sts : List St} {s : Sp} {n i : Nat} {f : Int} (hC : CsCert x n) (hs : x.hasAll n sts) (hv : x.stepB s = true) (hi : i < n) (h0 : 0 ≤ f) (h1 : f ≤ (x.plants.getD i Pl.zero).feed) :
    (x.goT sts s i f).2.1 ≤ (x.plants.getD i Pl.zero).rate * (x.plants.getD i Pl.zero).positions ∧
    (inB (x.bars.getD i []) (sts.getD i St.zero) = true → s.stuck.getD i false = false → inB (x.bars.getD i []) (x.goT sts s i f).1 = true) := by
  obtain ⟨hc, _, _⟩ := hC.right.gate i hi
  have hg := codeT_ok hC.right hi s
  have hh := hs.2 i hi
  have hm := msg_ok hC.right.plants hv hi
  obtain ⟨hpv, _⟩ := Pl.check_zero hc
  have hch : chosenB (x.plants.getD i Pl.zero) ⟨f, s.msgs.getD i 0⟩ = true := by
    rw [chosenB, Bool.and_eq_true]
    exact ⟨inI_in ⟨h0, h1⟩, hm⟩
  have e : x.goT sts s i f = (stepT (x.plants.getD i Pl.zero) (x.codeT s i) (sts.getD i St.zero) ⟨f, s.msgs.getD i 0⟩, outT (x.plants.getD i Pl.zero) (x.codeT s i) (sts.getD i St.zero) ⟨f, s.msgs.getD i 0⟩, 0) := by
    rw [Cs.goT, nextT, if_pos hc, if_pos hg, if_pos hh, if_pos hch]
  constructor
  · rcases gateT_two (x.codeT s i) with ⟨_, hgb⟩ | hgb
    · have Z := stepped (small_of hpv hh hch) hgb
      rw [e]
      refine Int.le_trans Z.out.2 ?_
      exact Int.mul_le_mul_of_nonneg_left Z.position.2 (by have := hpv.rate; omega)
    · omega
  · intro hb hk
    have ec : x.codeT s i = x.codes.getD i [] := by
      unfold Cs.codeT
      rw [hk]
      rfl
    have := (hC.cert i hi).stay _ ((states_mem hpv).2 hh) hb ⟨f, s.msgs.getD i 0⟩ ((shocks_mem hpv).2 hch)
    rw [Cs.goT, ec]
    exact this
theorem hourK_cert {x : Cs} {sts : List St} {s : Sp} {n : Nat} (hC : CsCert x n) (hs : x.hasAll n sts) (hv : x.stepB s = true) :
    ∀ {k : Nat}, k ≤ n → ∃ f l, x.hourK sts s k = some (f, l) ∧ (k < n → f ≤ (x.plants.getD k Pl.zero).feed) ∧ ∀ i, i < k → inB (x.bars.getD i []) (sts.getD i St.zero) = true → s.stuck.getD i false = false → inB (x.bars.getD i []) (l.getD i St.zero) = true
  | 0, _ => by
    refine ⟨_, _, rfl, fun _ => ?_, fun i hi => by omega⟩
    simp only [Cs.stepB, Bool.and_eq_true] at hv
    exact (inI_yes hv.2.2.1).2
  | k + 1, hk => by
    obtain ⟨f, l, h1, h2, h3⟩ := hourK_cert hC hs hv (k := k) (by omega)
    have hf := h2 (by omega)
    have h0 := (hourK_ok hC.right hs hv (by omega) h1).1
    obtain ⟨g1, g2⟩ := go_in hC hs hv (i := k) (by omega) h0 hf
    have hl := hourK_len h1
    refine ⟨_, _, hourK_yes h1 hf, fun hn => Int.le_trans g1 (hC.most k hn), fun i hi hb hu => ?_⟩
    rcases Nat.lt_or_ge i k with hik | hik
    · rw [getD_left (by omega)]
      exact h3 i hik hb hu
    · obtain rfl : i = k := by omega
      rw [getD_snoc hl]
      exact g2 hb hu
structure PlayInv (x : Cs) (n : Nat) (g : Pst) : Prop where
  has : x.hasAll n g.states
  len : g.stuck.length = n
  bar : ∀ i, i < n → g.stuck.getD i false = false → inB (x.bars.getD i []) (g.states.getD i St.zero) = true
  bad : g.bad = 0
theorem bar_safe {x : Cs} {n : Nat} {sts : List St} {i : Nat} (hC : CsCert x n) (hs : x.hasAll n sts) (hi : i < n) (hb : inB (x.bars.getD i []) (sts.getD i St.zero) = true) : (x.plants.getD i Pl.zero).safeB (sts.getD i St.zero) = true :=
  (hC.cert i hi).safe _ ((states_mem (Pl.check_zero (hC.right.gate i hi).1).1).2 (hs.2 i hi)) hb
theorem bar_bad {x : Cs} {n : Nat} {sts : List St} {stuck : List Bool} (hC : CsCert x n) (hs : x.hasAll n sts) (hb : ∀ i, i < n → stuck.getD i false = false → inB (x.bars.getD i []) (sts.getD i St.zero) = true) : x.badT sts stuck = 0 := by
  refine badT_none fun i hi => ?_
  rw [hs.1] at hi
  unfold Cs.badAt
  cases hk : stuck.getD i false with
  | true => simp
  | false => rw [bar_safe hC hs hi (hb i hi hk)]; rfl
theorem getD_rep {n i : Nat} : (List.replicate n false).getD i false = false := by
  rw [List.getD_eq_getElem?_getD, List.getElem?_replicate]
  split <;> rfl
theorem begins_at {x : Cs} {n i : Nat} (hn : x.plants.length = n) (hi : i < n) : x.begins.getD i St.zero = (x.plants.getD i Pl.zero).beginT.1 := by
  have hip : i < x.plants.length := by omega
  rw [getD_at hip, getD_at (by rw [Cs.begins, List.length_map]; exact hip)]
  simp [Cs.begins]
theorem orL_at {a b : List Bool} {n i : Nat} (hi : i < n) : (orL a b n).getD i false = (a.getD i false || b.getD i false) := by
  rw [← midK_end hi]
  unfold midK
  rw [if_pos hi]
theorem start_cert {x : Cs} {n : Nat} (hC : CsCert x n) : PlayInv x n x.start := by
  have hb : ∀ i, i < n → (List.replicate x.plants.length false).getD i false = false → inB (x.bars.getD i []) (x.begins.getD i St.zero) = true := fun i hi _ => by
    rw [begins_at hC.right.plants hi]
    exact (hC.cert i hi).begin
  exact ⟨begins_has hC.right, by simp [Cs.start, hC.right.plants], hb, bar_bad hC (begins_has hC.right) hb⟩
theorem play_cert {x : Cs} {l : List Sp} {n : Nat} (hC : CsCert x n) (hv : l.all x.stepB = true) : ∀ {k : Nat}, k ≤ l.length → ∃ g, x.playK l k = some g ∧ PlayInv x n g
  | 0, _ => ⟨_, rfl, start_cert hC⟩
  | k + 1, hk => by
    obtain ⟨g, h1, h2⟩ := play_cert hC hv (k := k) (by omega)
    have hsv : x.stepB (l.getD k Sp.zero) = true := by
      rw [getD_at (show k < l.length by omega)]
      exact List.all_eq_true.1 hv _ (List.getElem_mem _)
    obtain ⟨f, sts, h3, _, h4⟩ := hourK_cert hC h2.has hsv (Nat.le_refl n)
    obtain ⟨_, h5⟩ := hourK_ok hC.right h2.has hsv (Nat.le_refl _) h3
    have hl := hourK_len h3
    have hh : x.hasAll n sts := ⟨hl, h5⟩
    have hb : ∀ i, i < n → (orL g.stuck (l.getD k Sp.zero).stuck n).getD i false = false → inB (x.bars.getD i []) (sts.getD i St.zero) = true := fun i hi hu => by
      rw [orL_at hi, Bool.or_eq_false_iff] at hu
      exact h4 i hi (h2.bar i hi hu.1) hu.2
    refine ⟨⟨sts, orL g.stuck (l.getD k Sp.zero).stuck n, 0⟩, ?_, hh, by simp [orL], hb, rfl⟩
    rw [Cs.playK, h1, Option.bind_some, Cs.playStep, hC.right.plants, h3, Option.map_some, if_pos h2.bad, bar_bad hC hh hb]
def stuckK (n : Nat) (l : List Sp) : Nat → List Bool
  | 0 => List.replicate n false
  | k + 1 => orL (stuckK n l k) (l.getD k Sp.zero).stuck n
theorem playK_stuck {x : Cs} {l : List Sp} : ∀ {k : Nat} {g : Pst}, x.playK l k = some g → g.stuck = stuckK x.plants.length l k
  | 0, g, h => by
    simp only [Cs.playK, Option.some.injEq] at h
    rw [← h]
    rfl
  | k + 1, g, h => by
    rw [Cs.playK] at h
    rcases hh : x.playK l k with _ | g'
    · rw [hh] at h; cases h
    · rw [hh, Option.bind_some, Cs.playStep] at h
      rcases hq : x.hourK g'.states (l.getD k Sp.zero) x.plants.length with _ | r
      · rw [hq] at h; cases h
      · rw [hq, Option.map_some, Option.some.injEq] at h
        rw [← h]
        show orL g'.stuck _ _ = _
        rw [playK_stuck hh]
        rfl
theorem getD_take {α : Type} {l : List α} {d : α} {m i : Nat} (h : i < m) : (l.take m).getD i d = l.getD i d := by
  rw [List.getD_eq_getElem?_getD, List.getElem?_take_of_lt h, ← List.getD_eq_getElem?_getD]
theorem playK_take {x : Cs} {l : List Sp} {m : Nat} : ∀ {k : Nat}, k ≤ m → x.playK (l.take m) k = x.playK l k
  | 0, _ => rfl
  | k + 1, h => by rw [Cs.playK, Cs.playK, playK_take (by omega), getD_take (by omega)]
def Cs.up (x : Cs) (m : Nat) : Cs := ⟨x.plants.take m, x.codes.take m, x.bars.take m⟩
def Sp.up (s : Sp) (m : Nat) : Sp := ⟨s.feed, s.msgs.take m, s.stuck.take m⟩
section
variable {x : Cs} {n m : Nat}
end
end Go.Proofs.Ytcjcjkomcolgeaa

/-
  Rows of Booleans that are made, rows that are built as blocks; plain facts on Play. No condition.
-/
namespace Go.Proofs.Ytcjcjkomcolgeaa
open Go.RowKit

theorem made_one (v : Value) (h : v.cells = #[v]) (n : Nat) : madeCells v.cells (n * 1) = (List.replicate n v).toArray := by
  rw [h, madeCells]
  apply Array.ext'
  apply List.ext_getElem?
  intro i
  rcases Nat.lt_or_ge i n with hi | hi
  · simp [hi, Nat.mod_one]
  · simp [hi]
theorem make_bools (w : World) (n : Nat) (hn : n ≤ 1024) : (Instr.makeSlice 41 (.int .i64 (n : Int)) (.int .i64 (n : Int))).run Try.prog w = .ok (.slice (some ⟨w.heap.size, 0, none⟩) n n) (w.alloc (.cells (List.replicate n (Value.bool false)).toArray 4)) := by
  obtain ⟨i, h1, h2, h3, h4⟩ := info_parts (show (Try.prog.info? 4).map (fun i => (i.zero, i.size, i.bytes)) = some (some (.bool false), 1, 1) by kernel_rfl)
  have := run_makeSlice (P := Try.prog) w 41 4 i (.bool false) Try.underlying41 h1 h2 .i64 .i64 n n (by omega) (Int.le_refl _) (by rw [h3]; simp; omega) (by rw [h4]; omega) (by omega)
  rw [h3] at this
  simp only [Int.toNat_natCast] at this
  rw [this, made_one _ rfl]
theorem OwnE.box {α : Type} {enc : α → List Value} {size : Nat} {w : World} {base e : Nat} {V : Value} {l : List α} (h : OwnE enc size w base e V l) (hs : ∀ x, (enc x).length = size) (hl : 0 < l.length) :
    ∃ b cap L, V = .slice (some ⟨b, 0, none⟩) l.length cap ∧ l.length ≤ cap ∧ base ≤ b ∧ Box w b L ∧ ∀ k (hk : k < l.length), ∀ j, j < size → L[k * size + j]? = (enc l[k])[j]? := by
  have hc := h.2
  rcases hc with ⟨rfl, h0⟩ | ⟨b, cap, cur, hv, hb, hg, hcap, hcm, hsz, htk⟩
  · omega
  · refine ⟨b, cap, cur.toList, hv, hcap, hb, ⟨e, by simpa using hg⟩, fun k hk j hj => ?_⟩
    have e1 := flatMap_at hs l k j hk hj
    rw [← e1, ← htk, List.getElem?_take_of_lt]
    have : (k + 1) * size ≤ l.length * size := Nat.mul_le_mul_right _ hk
    rw [Nat.add_mul, Nat.one_mul] at this
    omega
def Cs.endT (x : Cs) (l : List Sp) : List St × Int × Int := match x.playK l l.length with
  | some g => (g.states, g.bad, 0)
  | none => ([], 0, 350)
theorem playT_go {x : Cs} {l : List Sp} (h0 : x.checkT = 0) (h1 : l.length ≤ 4096) (h : l.all x.stepB = true) : x.playT l = x.endT l := by
  rw [Cs.playT, if_pos h0, if_pos h1, if_pos h]
  rfl
theorem endT_some {x : Cs} {l : List Sp} {g : Pst} (h : x.playK l l.length = some g) : x.endT l = (g.states, g.bad, 0) := by rw [Cs.endT, h]
theorem endT_none {x : Cs} {l : List Sp} (h : x.playK l l.length = none) : x.endT l = ([], 0, 350) := by rw [Cs.endT, h]
theorem playK_none {x : Cs} {l : List Sp} {k : Nat} (h : x.playK l k = none) : ∀ m, x.playK l (k + m) = none
  | 0 => h
  | m + 1 => by rw [← Nat.add_assoc, Cs.playK, playK_none h m]; rfl
theorem playK_bad {x : Cs} {l : List Sp} : ∀ {k : Nat} {g : Pst}, x.playK l k = some g → 0 ≤ g.bad
  | 0, g, h => by
    simp only [Cs.playK, Option.some.injEq] at h
    rw [← h]
    exact badT_nonneg
  | k + 1, g, h => by
    rw [Cs.playK] at h
    rcases hh : x.playK l k with _ | g'
    · rw [hh] at h; cases h
    · rw [hh, Option.bind_some, Cs.playStep] at h
      rcases hq : x.hourK g'.states (l.getD k Sp.zero) x.plants.length with _ | r
      · rw [hq] at h; cases h
      · rw [hq, Option.map_some, Option.some.injEq] at h
        rw [← h]
        dsimp only
        split
        · exact badT_nonneg
        · exact playK_bad hh
theorem playK_next {x : Cs} {l : List Sp} {k : Nat} {g : Pst} {n : Nat} {f : Int} {sts : List St} (hn : x.plants.length = n) (h : x.playK l k = some g) (hq : x.hourK g.states (l.getD k Sp.zero) n = some (f, sts)) :
    x.playK l (k + 1) = some ⟨sts, orL g.stuck (l.getD k Sp.zero).stuck n, x.lookK sts (orL g.stuck (l.getD k Sp.zero).stuck n) g.bad n⟩ := by
  rw [Cs.playK, h, Option.bind_some, Cs.playStep, hn, hq, Option.map_some, lookK_bad (hourK_len hq) (playK_bad h)]
theorem playK_stop {x : Cs} {l : List Sp} {k : Nat} {g : Pst} {n : Nat} (hn : x.plants.length = n) (h : x.playK l k = some g) (hq : x.hourK g.states (l.getD k Sp.zero) n = none) : x.playK l (k + 1) = none := by
  rw [Cs.playK, h, Option.bind_some, Cs.playStep, hn, hq]
  rfl
theorem begins_succ {x : Cs} {k : Nat} (hk : k < x.plants.length) : x.begins.take (k + 1) = x.begins.take k ++ [(x.plants[k]).beginT.1] := by
  have hk2 : k < x.begins.length := by rw [Cs.begins, List.length_map]; exact hk
  rw [List.take_succ_eq_append_getElem hk2]
  simp [Cs.begins]
theorem begins_len {x : Cs} : x.begins.length = x.plants.length := by rw [Cs.begins, List.length_map]
theorem begin_ok {p : Pl} (h : p.checkT = 0) : p.beginT.2 = 0 := by rw [Pl.beginT, if_pos h]
theorem start_look {x : Cs} {n : Nat} (hn : x.plants.length = n) : x.playK [] 0 = x.playK [] 0 ∧ x.start = ⟨x.begins, List.replicate n false, x.lookK x.begins (List.replicate n false) 0 n⟩ := by
  refine ⟨rfl, ?_⟩
  rw [lookK_bad (by rw [begins_len, hn]) (Int.le_refl 0), if_pos rfl, Cs.start, hn]
theorem st_cells (s : St) {j : Nat} (hj : j < 6) : s.cells[j]? = some ((s.cells).getD j undef) := by
  rw [List.getD_eq_getElem?_getD, List.getElem?_eq_getElem hj]
  rfl
end Go.Proofs.Ytcjcjkomcolgeaa
