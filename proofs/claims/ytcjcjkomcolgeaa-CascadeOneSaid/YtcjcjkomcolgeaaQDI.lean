/- Hours of a cascade as plain data, and what Play of chapter 35 computes. (Printed by pp.py.) No condition. -/
import Derived.Test.YtcjcjkomcolgeaaQDF
import Derived.Test.YtcjcjkomcolgeaaQDZ
set_option linter.unusedVariables false
set_option linter.unusedSimpArgs false
namespace Go.Proofs.Ytcjcjkomcolgeaa
open Go.RowKit

structure Sp where
  feed : Int
  msgs : List Int
  stuck : List Bool
def Sp.zero : Sp := ⟨0, [], []⟩
def IntL (w : World) (B : Nat) (v : Value) (l : List Int) : Prop := Sl w B 1 l.length (fun i _ => .int .i64 (l.getD i 0)) v
def BoolL (w : World) (B : Nat) (v : Value) (l : List Bool) : Prop := Sl w B 1 l.length (fun i _ => .bool (l.getD i false)) v
def StepsAt (w : World) (B : Nat) (v : Value) (l : List Sp) : Prop :=
  ∃ M K : Nat → Value, Sl w B 3 l.length (fun i j => if j = 0 then .int .i64 (l.getD i Sp.zero).feed else if j = 1 then M i else K i) v ∧ ∀ (i : Nat) (s : Sp), l[i]? = some s → IntL w B (M i) s.msgs ∧ BoolL w B (K i) s.stuck
section
variable {w w' : World} {B B' : Nat} {v : Value}
theorem IntL.below {l : List Int} (h : IntL w B v l) (hb : Below B w w') : IntL w' B v l := Sl.below h hb
theorem IntL.more {l : List Int} (h : IntL w B v l) (hb : B ≤ B') : IntL w B' v l := Sl.more h hb
theorem BoolL.below {l : List Bool} (h : BoolL w B v l) (hb : Below B w w') : BoolL w' B v l := Sl.below h hb
theorem BoolL.more {l : List Bool} (h : BoolL w B v l) (hb : B ≤ B') : BoolL w B' v l := Sl.more h hb
theorem IntL.form {l : List Int} (h : IntL w B v l) : ∃ A c, v = .slice A l.length c ∧ l.length ≤ maxLen := by
  obtain ⟨A, c, hv, hn, _⟩ := h
  exact ⟨A, c, hv, hn⟩
theorem BoolL.form {l : List Bool} (h : BoolL w B v l) : ∃ A c, v = .slice A l.length c ∧ l.length ≤ maxLen := by
  obtain ⟨A, c, hv, hn, _⟩ := h
  exact ⟨A, c, hv, hn⟩
theorem IntL.at {A : Option Addr} {n c : Nat} {l : List Int} (h : IntL w B (.slice A n c) l) {k : Nat} (hk : k < l.length) : ∃ b off, A = some ⟨b, off, none⟩ ∧ b < B ∧ w.cell? ⟨b, off + k, none⟩ = some (.int .i64 l[k]) := by
  obtain ⟨A', c', hv, _, h1⟩ := h
  cases hv
  obtain ⟨b, off, rfl, hb, h3⟩ := h1 k hk
  have := h3 0 (by omega)
  rw [Nat.mul_one, Nat.add_zero] at this
  dsimp only at this
  rw [getD_at hk] at this
  exact ⟨b, off, rfl, hb, this⟩
theorem BoolL.at {A : Option Addr} {n c : Nat} {l : List Bool} (h : BoolL w B (.slice A n c) l) {k : Nat} (hk : k < l.length) : ∃ b off, A = some ⟨b, off, none⟩ ∧ b < B ∧ w.cell? ⟨b, off + k, none⟩ = some (.bool l[k]) := by
  obtain ⟨A', c', hv, _, h1⟩ := h
  cases hv
  obtain ⟨b, off, rfl, hb, h3⟩ := h1 k hk
  have := h3 0 (by omega)
  rw [Nat.mul_one, Nat.add_zero] at this
  dsimp only at this
  rw [getD_at hk] at this
  exact ⟨b, off, rfl, hb, this⟩
theorem StepsAt.below {l : List Sp} (h : StepsAt w B v l) (hb : Below B w w') : StepsAt w' B v l := by
  obtain ⟨M, K, h1, h2⟩ := h
  exact ⟨M, K, h1.below hb, fun i s hs => ⟨(h2 i s hs).1.below hb, (h2 i s hs).2.below hb⟩⟩
theorem StepsAt.more {l : List Sp} (h : StepsAt w B v l) (hb : B ≤ B') : StepsAt w B' v l := by
  obtain ⟨M, K, h1, h2⟩ := h
  exact ⟨M, K, h1.more hb, fun i s hs => ⟨(h2 i s hs).1.more hb, (h2 i s hs).2.more hb⟩⟩
theorem StepsAt.form {l : List Sp} (h : StepsAt w B v l) : ∃ A c, v = .slice A l.length c ∧ l.length ≤ maxLen := by
  obtain ⟨M, K, ⟨A, c, hv, hn, _⟩, _⟩ := h
  exact ⟨A, c, hv, hn⟩
theorem StepsAt.step {A : Option Addr} {n c : Nat} {l : List Sp} (h : StepsAt w B (.slice A n c) l) {k : Nat} (hk : k < l.length) :
    ∃ b off M K, A = some ⟨b, off, none⟩ ∧ b < B ∧ w.cell? ⟨b, off + k * 3, none⟩ = some (.int .i64 (l[k]).feed) ∧ w.cell? ⟨b, off + k * 3 + 1, none⟩ = some M ∧ w.cell? ⟨b, off + k * 3 + 2, none⟩ = some K ∧ IntL w B M (l[k]).msgs ∧ BoolL w B K (l[k]).stuck := by
  obtain ⟨M, K, ⟨A', c', hv, _, h1⟩, h2⟩ := h
  cases hv
  obtain ⟨b, off, rfl, hb, h3⟩ := h1 k hk
  have c0 := h3 0 (by omega)
  have c1 := h3 1 (by omega)
  have c2 := h3 2 (by omega)
  simp only [getD_at hk] at c0
  exact ⟨b, off, M k, K k, rfl, hb, c0, by rw [Nat.add_assoc]; exact c1, by rw [Nat.add_assoc]; exact c2, (h2 k _ (List.getElem?_eq_getElem hk)).1, (h2 k _ (List.getElem?_eq_getElem hk)).2⟩
end
def Cs.msgB (x : Cs) (s : Sp) (i : Nat) : Bool := inI (s.msgs.getD i 0) (-1) (x.plants.getD i Pl.zero).orders
def Cs.stepB (x : Cs) (s : Sp) : Bool :=
  decide (s.msgs.length = x.plants.length) && (decide (s.stuck.length = x.plants.length) && (inI s.feed 0 (x.plants.getD 0 Pl.zero).feed && (List.range x.plants.length).all (x.msgB s)))
def Cs.codeT (x : Cs) (s : Sp) (i : Nat) : List Ln := if s.stuck.getD i false = true then [] else x.codes.getD i []
def Cs.goT (x : Cs) (sts : List St) (s : Sp) (i : Nat) (feed : Int) : St × Int × Int := nextT (x.plants.getD i Pl.zero) (x.codeT s i) (sts.getD i St.zero) ⟨feed, s.msgs.getD i 0⟩
def Cs.hourK (x : Cs) (sts : List St) (s : Sp) : Nat → Option (Int × List St)
  | 0 => some (s.feed, [])
  | k + 1 => match x.hourK sts s k with
    | none => none
    | some (f, l) => if f ≤ (x.plants.getD k Pl.zero).feed then some ((x.goT sts s k f).2.1, l ++ [(x.goT sts s k f).1]) else none
def Cs.badAt (x : Cs) (sts : List St) (stuck : List Bool) (i : Nat) : Bool := !(x.plants.getD i Pl.zero).safeB (sts.getD i St.zero) && !stuck.getD i false
def Cs.badT (x : Cs) (sts : List St) (stuck : List Bool) : Int := match (List.range sts.length).find? (x.badAt sts stuck) with
  | some i => (i : Int) + 1
  | none => 0
def orL (a b : List Bool) (n : Nat) : List Bool := (List.range n).map fun i => a.getD i false || b.getD i false
def Cs.begins (x : Cs) : List St := x.plants.map fun p => p.beginT.1
structure Pst where
  states : List St
  stuck : List Bool
  bad : Int
def Cs.start (x : Cs) : Pst := ⟨x.begins, List.replicate x.plants.length false, x.badT x.begins (List.replicate x.plants.length false)⟩
def Cs.playStep (x : Cs) (g : Pst) (s : Sp) : Option Pst := (x.hourK g.states s x.plants.length).map fun r =>
  ⟨r.2, orL g.stuck s.stuck x.plants.length, if g.bad = 0 then x.badT r.2 (orL g.stuck s.stuck x.plants.length) else g.bad⟩
def Cs.playK (x : Cs) (l : List Sp) : Nat → Option Pst
  | 0 => some x.start
  | k + 1 => (x.playK l k).bind fun g => x.playStep g (l.getD k Sp.zero)
def Cs.playT (x : Cs) (l : List Sp) : List St × Int × Int :=
  if x.checkT = 0 then (if l.length ≤ 4096 then (if l.all x.stepB = true then (match x.playK l l.length with
    | some g => (g.states, g.bad, 0)
    | none => ([], 0, 350)) else ([], 0, 1)) else ([], 0, 2)) else ([], 0, x.checkT)
theorem hourK_len {x : Cs} {sts : List St} {s : Sp} : ∀ {k : Nat} {f : Int} {l : List St}, x.hourK sts s k = some (f, l) → l.length = k
  | 0, f, l, h => by
    simp only [Cs.hourK, Option.some.injEq, Prod.mk.injEq] at h
    rw [← h.2]; rfl
  | k + 1, f, l, h => by
    rw [Cs.hourK] at h
    rcases hk : x.hourK sts s k with _ | ⟨f', l'⟩
    · rw [hk] at h; cases h
    · rw [hk] at h
      dsimp only at h
      split at h
      · simp only [Option.some.injEq, Prod.mk.injEq] at h
        rw [← h.2, List.length_append, hourK_len hk]
        rfl
      · cases h
def Cs.hasAll (x : Cs) (n : Nat) (sts : List St) : Prop := sts.length = n ∧ ∀ i, i < n → (x.plants.getD i Pl.zero).hasB (sts.getD i St.zero) = true
theorem getD_left {α : Type} {l m : List α} {d : α} {i : Nat} (h : i < l.length) : (l ++ m).getD i d = l.getD i d := by
  rw [List.getD_eq_getElem?_getD, List.getElem?_append_left h, ← List.getD_eq_getElem?_getD]
theorem getD_snoc {α : Type} {l : List α} {x d : α} {i : Nat} (h : l.length = i) : (l ++ [x]).getD i d = x := by
  rw [List.getD_eq_getElem?_getD, List.getElem?_append_right (by omega), h, Nat.sub_self]
  rfl
theorem gateT_nil : gateT [] = 0 := by decide
theorem codeT_ok {x : Cs} {n i : Nat} (hR : CsRight x n) (hi : i < n) (s : Sp) : gateT (x.codeT s i) = 0 := by
  unfold Cs.codeT
  split
  · exact gateT_nil
  · exact (hR.gate i hi).2.1
theorem msg_ok {x : Cs} {s : Sp} {n i : Nat} (hn : x.plants.length = n) (h : x.stepB s = true) (hi : i < n) : inI (s.msgs.getD i 0) (-1) (x.plants.getD i Pl.zero).orders = true := by
  simp only [Cs.stepB, Bool.and_eq_true] at h
  exact List.all_eq_true.1 h.2.2.2 i (List.mem_range.2 (by omega))
theorem go_ok {x : Cs} {sts : List St} {s : Sp} {n i : Nat} {f : Int} (hR : CsRight x n) (hs : x.hasAll n sts) (hv : x.stepB s = true) (hi : i < n) (h0 : 0 ≤ f) (h1 : f ≤ (x.plants.getD i Pl.zero).feed) :
    (x.goT sts s i f).2.2 = 0 ∧ 0 ≤ (x.goT sts s i f).2.1 ∧ (x.plants.getD i Pl.zero).hasB (x.goT sts s i f).1 = true := by
  obtain ⟨hc, _, _⟩ := hR.gate i hi
  have hg := codeT_ok hR hi s
  have hh := hs.2 i hi
  have hm := msg_ok hR.plants hv hi
  obtain ⟨hpv, _⟩ := Pl.check_zero hc
  have hch : chosenB (x.plants.getD i Pl.zero) ⟨f, s.msgs.getD i 0⟩ = true := by
    rw [chosenB, Bool.and_eq_true]
    exact ⟨inI_in ⟨h0, h1⟩, hm⟩
  rcases gateT_two (x.codeT s i) with ⟨_, hgb⟩ | hgb
  · have e : x.goT sts s i f = (stepT (x.plants.getD i Pl.zero) (x.codeT s i) (sts.getD i St.zero) ⟨f, s.msgs.getD i 0⟩, outT (x.plants.getD i Pl.zero) (x.codeT s i) (sts.getD i St.zero) ⟨f, s.msgs.getD i 0⟩, 0) := by
      rw [Cs.goT, nextT, if_pos hc, if_pos hg, if_pos hh, if_pos hch]
    rw [e]
    exact ⟨rfl, (stepped (small_of hpv hh hch) hgb).out.1, step_has hpv hh hch hgb⟩
  · omega
theorem hourK_ok {x : Cs} {sts : List St} {s : Sp} {n : Nat} (hR : CsRight x n) (hs : x.hasAll n sts) (hv : x.stepB s = true) : ∀ {k : Nat} {f : Int} {l : List St}, k ≤ n → x.hourK sts s k = some (f, l) → 0 ≤ f ∧ ∀ i, i < k → (x.plants.getD i Pl.zero).hasB (l.getD i St.zero) = true
  | 0, f, l, _, h => by
    simp only [Cs.hourK, Option.some.injEq, Prod.mk.injEq] at h
    simp only [Cs.stepB, Bool.and_eq_true] at hv
    exact ⟨by rw [← h.1]; exact (inI_yes hv.2.2.1).1, fun i hi => by omega⟩
  | k + 1, f, l, hk, h => by
    rw [Cs.hourK] at h
    rcases hh : x.hourK sts s k with _ | ⟨f', l'⟩
    · rw [hh] at h; cases h
    · rw [hh] at h
      dsimp only at h
      split at h
      · rename_i hf
        simp only [Option.some.injEq, Prod.mk.injEq] at h
        obtain ⟨h1, h2⟩ := hourK_ok hR hs hv (by omega) hh
        obtain ⟨_, g2, g3⟩ := go_ok hR hs hv (i := k) (by omega) h1 hf
        have hl := hourK_len hh
        refine ⟨by rw [← h.1]; exact g2, fun i hi => ?_⟩
        rw [← h.2]
        rcases Nat.lt_or_ge i k with hik | hik
        · rw [getD_left (by omega)]
          exact h2 i hik
        · obtain rfl : i = k := by omega
          rw [getD_snoc hl]
          exact g3
      · cases h
theorem begin_has {p : Pl} (h : p.checkT = 0) : p.hasB p.beginT.1 = true := by
  obtain ⟨hv, _⟩ := Pl.check_zero h
  have h1 := hv.start
  have h2 := hv.positions
  have h3 := hv.feed
  have h4 := hv.orders
  have h5 := hv.age
  rw [Pl.beginT, if_pos h]
  simp only [Pl.hasB]
  rw [inI_in (by omega), inI_in (by omega), inI_in (by split <;> omega), inI_in (by split <;> omega), inI_in (by omega), inI_in (by omega)]
  rfl
theorem begins_has {x : Cs} {n : Nat} (hR : CsRight x n) : x.hasAll n x.begins := by
  refine ⟨by rw [Cs.begins, List.length_map]; exact hR.plants, fun i hi => ?_⟩
  have hip : i < x.plants.length := by rw [hR.plants]; exact hi
  have e : x.begins.getD i St.zero = (x.plants.getD i Pl.zero).beginT.1 := by
    rw [getD_at hip, getD_at (by rw [Cs.begins, List.length_map]; exact hip)]
    simp [Cs.begins]
  rw [e]
  exact begin_has (hR.gate i hi).1
theorem playK_ok {x : Cs} {l : List Sp} {n : Nat} (hR : CsRight x n) (hv : l.all x.stepB = true) : ∀ {k : Nat} {g : Pst}, k ≤ l.length → x.playK l k = some g → x.hasAll n g.states ∧ g.stuck.length = n
  | 0, g, _, h => by
    simp only [Cs.playK, Option.some.injEq] at h
    rw [← h]
    exact ⟨begins_has hR, by simp [Cs.start, hR.plants]⟩
  | k + 1, g, hk, h => by
    rw [Cs.playK] at h
    rcases hh : x.playK l k with _ | g'
    · rw [hh] at h; cases h
    · rw [hh, Option.bind_some] at h
      obtain ⟨h1, h2⟩ := playK_ok hR hv (by omega) hh
      rw [Cs.playStep] at h
      rcases hq : x.hourK g'.states (l.getD k Sp.zero) x.plants.length with _ | ⟨f, sts⟩
      · rw [hq] at h; cases h
      · rw [hq, Option.map_some, Option.some.injEq] at h
        have hsv : x.stepB (l.getD k Sp.zero) = true := by
          rw [getD_at (show k < l.length by omega)]
          exact List.all_eq_true.1 hv _ (List.getElem_mem _)
        have hl := hourK_len hq
        rw [hR.plants] at hq hl
        obtain ⟨_, h4⟩ := hourK_ok hR h1 hsv (Nat.le_refl _) hq
        rw [← h]
        exact ⟨⟨hl, h4⟩, by simp [orL, hR.plants]⟩
end Go.Proofs.Ytcjcjkomcolgeaa

/-
  What Certified and Play come to at the example of the law's file of chapter 35. Plain facts. No condition.
-/
namespace Go.Proofs.Ytcjcjkomcolgeaa
open Go.RowKit

def openS : Sp := ⟨2, [-1, 1], [false, true]⟩
def tooS : Sp := ⟨3, [-1, -1], [false, false]⟩
theorem sm_cert : (smallC 3 2).certT = (true, 0, 0) := by kernel_rfl
theorem sm_check : (smallC 3 2).checkT = 0 := by kernel_rfl
theorem sm_empty : (Cs.mk [] [] []).checkT = 350 := by kernel_rfl
theorem sm_start : (smallC 3 2).playT [] = ([⟨3, 0, 0, 0, 0, 0⟩, ⟨5, 0, 0, 0, 0, 0⟩], 0, 0) := by kernel_rfl
theorem sm_two : (smallC 3 2).playT [openS, openS] = ([⟨5, 1, 0, 0, 0, 0⟩, ⟨7, 0, 0, 0, 1, 0⟩], 0, 0) := by kernel_rfl
theorem sm_less : (smallC 3 1).certT = (false, 1, 0) := by kernel_rfl
theorem sm_bad : (smallC 8 1).playT [] = ([⟨8, 0, 0, 0, 0, 0⟩, ⟨5, 0, 0, 0, 0, 0⟩], 1, 0) := by kernel_rfl
theorem sm_fed : (smallC 8 1).playT [openS] = ([], 0, 350) := by kernel_rfl
theorem sm_arg : (smallC 3 2).playT [tooS] = ([], 0, 1) := by kernel_rfl
end Go.Proofs.Ytcjcjkomcolgeaa
