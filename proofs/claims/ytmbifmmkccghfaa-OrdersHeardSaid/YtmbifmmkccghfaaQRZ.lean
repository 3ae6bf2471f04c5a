/- Plain facts on nets (of chapter 6's texts NY and OB), for the seats that lack that chapter's laws. No condition. -/
import Derived.Test.YtmbifmmkccghfaaQNE
import Derived.Test.YtmbifmmkccghfaaQRL
import Derived.Test.YtmbifmmkccghfaaQVD
import Derived.Test.YtmbifmmkccghfaaQKO
import Derived.Test.YtmbifmmkccghfaaQK
import Derived.WalkKit
import Derived.ProofKit
import Derived.OpenShut
import Derived.ChangeOld
import Derived.Below
import Derived.Lib.SmallJoins
import Derived.Deep.Slices
import Derived.Deep.Fields
import Derived.ChangeSame
set_option linter.unusedVariables false
set_option linter.unusedSimpArgs false
namespace Go.Proofs.Ytmbifmmkccghfaa
open Go.RowKit

theorem okB_partsN {n : Net} (h : n.okB = true) : n.queue.length ≤ 4096 ∧ n.queue.all Pk.okB = true ∧ apartB n.apart = true := by
  rw [Net.okB_eq, Bool.and_eq_true, Bool.and_eq_true, decide_eq_true_eq] at h
  exact h
theorem okB_mk {q : List Pk} {l : List (Int × Int)} (h1 : q.length ≤ 4096) (h2 : q.all Pk.okB = true) (h3 : apartB l = true) : (Net.mk q l).okB = true := by
  rw [Net.okB_eq, Bool.and_eq_true, Bool.and_eq_true, decide_eq_true_eq]
  exact ⟨h1, h2, h3⟩
theorem without_ok {n : Net} (h : n.okB = true) (k : Nat) : (n.without k).okB = true := by
  obtain ⟨h1, h2, h3⟩ := okB_partsN h
  refine okB_mk ?_ ?_ h3
  · simp only [List.length_append, List.length_take, List.length_drop]; omega
  · rw [List.all_append, Bool.and_eq_true]
    exact ⟨List.all_eq_true.2 fun x hx => List.all_eq_true.1 h2 x (List.mem_of_mem_take hx), List.all_eq_true.2 fun x hx => List.all_eq_true.1 h2 x (List.mem_of_mem_drop hx)⟩
theorem sent_ok {n : Net} {p : Pk} (h : n.okB = true) (hp : p.okB = true) (hl : n.queue.length < 4096) : (Net.mk (n.queue ++ [p]) n.apart).okB = true := by
  obtain ⟨h1, h2, h3⟩ := okB_partsN h
  refine okB_mk ?_ ?_ h3
  · simp; omega
  · rw [List.all_append, h2]; simp [hp]
theorem apartB_of {l : List (Int × Int)} (h1 : ∀ x ∈ l, linkB x.1 x.2 = true) (h2 : l.Pairwise fun a b => cmpP a b < 0) : apartB l = true := by
  refine List.all_eq_true.2 fun i hi => ?_
  have hi := List.mem_range.1 hi
  have e : ∀ j (hj : j < l.length), l.getD j (0, 0) = l[j] := fun j hj => by rw [List.getD_eq_getElem?_getD, List.getElem?_eq_getElem hj]; rfl
  rw [okAt, e i hi, Bool.and_eq_true]
  refine ⟨h1 _ (List.getElem_mem hi), ?_⟩
  rcases Nat.eq_zero_or_pos i with rfl | h0
  · rfl
  · rw [e (i - 1) (by omega), Bool.or_eq_true]
    exact .inr (decide_eq_true (List.pairwise_iff_getElem.1 h2 (i - 1) i (by omega) hi (by omega)))
theorem links_ok : ∀ x ∈ allLinks, linkB x.1 x.2 = true := List.all_eq_true.1 (by decide +kernel : (allLinks.all fun x => linkB x.1 x.2) = true)
theorem links_sorted : allLinks.Pairwise fun a b => cmpP a b < 0 := by decide +kernel
theorem apart_filter (f : Int × Int → Bool) : apartB (allLinks.filter f) = true := apartB_of (fun x hx => links_ok x (List.mem_filter.1 hx).1) (links_sorted.filter _)
end Go.Proofs.Ytmbifmmkccghfaa

/-
  What the moves of chapter 34's runs do to a box: it stays right. No condition.
-/
namespace Go.Proofs.Ytmbifmmkccghfaa
open Go.RowKit

structure Om where
  kd : Int
  gt : Int
  od : Int
  at0 : Int
  fd : Int
def Om.ok (m : Om) : Prop := (0 ≤ m.kd ∧ m.kd ≤ 255) ∧ (0 ≤ m.gt ∧ m.gt ≤ 255) ∧ (0 ≤ m.od ∧ m.od ≤ 255) ∧ (0 ≤ m.at0 ∧ m.at0 ≤ 255) ∧ (0 ≤ m.fd ∧ m.fd ≤ 255)
def Bx.pos (b : Bx) (a : Int) : Int := if b.net.queue.length = 0 then 0 else a % (b.net.queue.length : Int)
def keepT (b : Bx) (r : Bx × Int) : Bx × Int := if r.2 = 0 then (r.1, 0) else (b, 0)
def Bx.cutT (b : Bx) (g : Int) (on : Bool) : Bx × Int := (⟨(Go.Proofs.Ytmbifmmkccghfaa.cutT b.net 0 g on).1, b.sent, b.heard, b.fresh⟩, (Go.Proofs.Ytmbifmmkccghfaa.cutT b.net 0 g on).2)
def heardT (b : Bx) (i : Int) (r : Bx × Bool × Int) : Bx × Int := if r.2.2 = 0 then (r.1, if r.2.1 = true then (b.net.pk i).dst else 0) else (b, 0)
def Bx.linkT (b : Bx) (m : Om) : Bx × Int :=
  if m.kd % 6 = 0 then keepT b (b.sendT (m.gt % (b.heard.length : Int)) (m.od % 8))
  else if m.kd % 6 = 1 then heardT b (b.pos m.at0) (b.deliverT (b.pos m.at0))
  else if m.kd % 6 = 2 then keepT b (b.loseT (b.pos m.at0))
  else if m.kd % 6 = 3 then keepT b (b.repeatT (b.pos m.at0))
  else if m.kd % 6 = 4 then keepT b (b.cutT (1 + m.gt % (b.heard.length : Int)) (decide (m.od % 2 = 0)))
  else (b, 0)
theorem okB_of {b : Bx} (h1 : b.listsB = true) (h2 : b.sentB = true) (h3 : ∀ g, g < b.heard.length → b.gateB g = true) (h4 : b.net.okB = true) (h5 : ∀ p ∈ b.net.queue, b.pkB p = true) : b.okB = true := by
  simp only [Bx.okB, Bx.validB, Bool.and_eq_true]
  exact ⟨⟨h1, h2, List.all_eq_true.2 fun g hg => h3 g (List.mem_range.1 hg)⟩, h4, List.all_eq_true.2 h5⟩
structure Kept (b x : Bx) (hd : Int) (s : List (Int × Int)) : Prop where
  ok : x.okB = true
  len : x.heard.length = b.heard.length
  sent : x.sent = b.sent ++ s
  fresh : ∀ g : Nat, g < b.heard.length → x.f g = (b.f g || decide (hd = (g : Int) + 1))
  up : ∀ g : Nat, g < b.heard.length → b.h g ≤ x.h g
  new : ∀ g : Nat, g < b.heard.length → b.h g < x.h g → hd = (g : Int) + 1
  hd : 0 ≤ hd ∧ hd ≤ (b.heard.length : Int)
theorem Kept.refl {b : Bx} (h : b.okB = true) : Kept b b 0 [] :=
  ⟨h, rfl, by simp, fun g _ => by have : ¬ (0 : Int) = (g : Int) + 1 := by omega
                                  simp [this], fun _ _ => Int.le_refl _, fun _ _ h => absurd h (Int.lt_irrefl _), ⟨Int.le_refl _, by omega⟩⟩
theorem Kept.links {b : Bx} {n : Net} (h : b.okB = true) (hn : n.okB = true) (hq : ∀ p ∈ n.queue, p ∈ b.net.queue) : Kept b ⟨n, b.sent, b.heard, b.fresh⟩ 0 [] := by
  obtain ⟨h1, h2, h3, -, h5⟩ := okB_parts h
  refine ⟨okB_of h1 h2 h3 hn (fun p hp => h5 p (hq p hp)), rfl, by simp, fun g _ => ?_, fun _ _ => Int.le_refl _, fun _ _ h => absurd h (Int.lt_irrefl _), ⟨Int.le_refl _, by omega⟩⟩
  have : ¬ (0 : Int) = (g : Int) + 1 := by omega
  simp only [this, decide_false, Bool.or_false]
  rfl
theorem keepT_kept {b : Bx} {r : Bx × Int} {s : List (Int × Int)} (h : b.okB = true) (hr : r.2 = 0 → Kept b r.1 0 s) : ∃ s', Kept b (keepT b r).1 (keepT b r).2 s' ∧ (s' = [] ∨ s' = s) := by
  unfold keepT
  split
  · next h0 => exact ⟨s, hr h0, .inr rfl⟩
  · exact ⟨[], Kept.refl h, .inl rfl⟩
theorem doT_kept {b : Bx} {r : Net × Int} (h : b.okB = true) (hr : r.2 = 0 → r.1.okB = true ∧ ∀ p ∈ r.1.queue, p ∈ b.net.queue) : (b.doT r).2 = 0 → Kept b (b.doT r).1 0 [] := by
  unfold Bx.doT
  rw [if_pos h]
  split
  · next h0 => exact fun _ => Kept.links h (hr h0).1 (hr h0).2
  · next h0 => exact fun h1 => absurd h1 h0
theorem ask_in {n : Net} {i : Int} (h : askTN n i = 0) : n.okB = true ∧ 0 ≤ i ∧ i < (n.queue.length : Int) := by
  unfold askTN at h
  split at h
  · next h1 =>
    split at h
    · next h2 => exact ⟨h1, h2.1, h2.2⟩
    · cases h
  · cases h
theorem pk_mem {n : Net} {i : Int} (h0 : 0 ≤ i) (h1 : i < (n.queue.length : Int)) : n.pk i ∈ n.queue := by
  have hk : i.toNat < n.queue.length := by omega
  rw [Net.pk, List.getD_eq_getElem?_getD, List.getElem?_eq_getElem hk]
  exact List.getElem_mem hk
theorem without_mem {n : Net} {k : Nat} {p : Pk} (h : p ∈ (n.without k).queue) : p ∈ n.queue := by
  rcases List.mem_append.1 h with h | h
  · exact List.mem_of_mem_take h
  · exact List.mem_of_mem_drop h
theorem lose_kept {b : Bx} (h : b.okB = true) (i : Int) : (b.loseT i).2 = 0 → Kept b (b.loseT i).1 0 [] := by
  refine doT_kept h fun h0 => ?_
  unfold Go.Proofs.Ytmbifmmkccghfaa.loseT at h0 ⊢
  split at h0
  · next h1 =>
    rw [if_pos h1]
    exact ⟨without_ok (ask_in h1).1 _, fun p hp => without_mem hp⟩
  · next h1 => exact absurd h0 h1
theorem repeat_kept {b : Bx} (h : b.okB = true) (i : Int) : (b.repeatT i).2 = 0 → Kept b (b.repeatT i).1 0 [] := by
  refine doT_kept h fun h0 => ?_
  unfold Go.Proofs.Ytmbifmmkccghfaa.repeatT at h0 ⊢
  split at h0
  · next h1 =>
    obtain ⟨k0, k1, k2⟩ := ask_in h1
    rw [if_pos h1]
    unfold Go.Proofs.Ytmbifmmkccghfaa.sendT at h0 ⊢
    split at h0
    · next h2 =>
      rw [if_pos h2]
      split at h0
      · cases h0
      · next h3 =>
        rw [if_neg h3]
        have h4 := (okB_partsN k0).1
        refine ⟨sent_ok k0 h2.2 (by omega), fun p hp => ?_⟩
        rcases List.mem_append.1 hp with hp | hp
        · exact hp
        · rw [List.mem_singleton.1 hp]; exact pk_mem k1 k2
    · cases h0
  · next h1 => exact absurd h0 h1
theorem cut_kept {b : Bx} (h : b.okB = true) (g : Int) (on : Bool) : (b.cutT g on).2 = 0 → Kept b (b.cutT g on).1 0 [] := by
  intro h0
  have hn := (okB_parts h).2.2.2.1
  unfold Bx.cutT at h0 ⊢
  unfold Go.Proofs.Ytmbifmmkccghfaa.cutT at h0 ⊢
  rw [if_pos hn] at h0 ⊢
  by_cases hl : linkB (min 0 g) (max 0 g) = true
  · rw [if_pos hl]
    obtain ⟨k1, k2, -⟩ := okB_partsN hn
    exact Kept.links h (okB_mk k1 k2 (apart_filter _)) (fun p hp => hp)
  · rw [if_neg hl] at h0
    cases h0
theorem at_append {b : Bx} {n : Net} {s : List (Int × Int)} {hd : List Int} {fr : List Bool} {k : Int} (h0 : 0 ≤ k) (h1 : k < (b.sent.length : Int)) : (Bx.mk n (b.sent ++ s) hd fr).at k = b.at k := by
  have hk : k.toNat < b.sent.length := by omega
  show (b.sent ++ s).getD k.toNat (0, 0) = b.sent.getD k.toNat (0, 0)
  rw [List.getD_eq_getElem?_getD, List.getD_eq_getElem?_getD, List.getElem?_append_left hk]
theorem pkB_iff {b : Bx} {p : Pk} : b.pkB p = true ↔ ∃ n o, readT p.data = some (n, o) ∧ 0 ≤ n ∧ n < (b.sent.length : Int) ∧ p.src = 0 ∧ p.dst = (b.at n).1 + 1 ∧ o = (b.at n).2 := by
  unfold Bx.pkB
  rcases readT p.data with _ | ⟨n, o⟩
  · exact ⟨fun h => (by cases h), fun ⟨_, _, h, _⟩ => (by cases h)⟩
  · constructor
    · intro h
      exact ⟨n, o, rfl, of_decide_eq_true h⟩
    · rintro ⟨n', o', h, h1⟩
      cases h
      exact decide_eq_true h1
theorem send_kept {b : Bx} (h : b.okB = true) (g o : Int) : (b.sendT g o).2 = 0 → Kept b (b.sendT g o).1 0 [(g, o)] := by
  intro h0
  obtain ⟨h1, h2, h3, h4, h5⟩ := okB_parts h
  obtain ⟨l1, l2, l3⟩ := of_decide_eq_true h1
  unfold Bx.sendT at h0 ⊢
  rw [if_pos h] at h0 ⊢
  split at h0
  · next hg =>
    rw [if_pos hg]
    split at h0
    · cases h0
    · next hl =>
      rw [if_neg hl]
      split at h0
      · next hs =>
        rw [if_pos hs]
        unfold Go.Proofs.Ytmbifmmkccghfaa.sendT at hs ⊢
        split at hs
        · next hp =>
          rw [if_pos hp]
          split at hs
          · cases hs
          · next hq =>
            rw [if_neg hq]
            dsimp only
            have h6 := (okB_partsN h4).1
            have hread : readT (msgB (b.sent.length : Int) o) = some ((b.sent.length : Int), o) := read_msg ⟨by omega, by omega⟩ ⟨by omega, by omega⟩
            refine ⟨okB_of ?_ ?_ ?_ (sent_ok h4 hp.2 (by omega)) ?_, rfl, rfl, fun k _ => ?_, fun _ _ => Int.le_refl _, fun _ _ h => absurd h (Int.lt_irrefl _), ⟨Int.le_refl _, by omega⟩⟩
            · refine decide_eq_true ⟨l1, l2, ?_⟩
              simp only [List.length_append, List.length_singleton]
              omega
            · show (b.sent ++ [(g, o)]).all _ = true
              rw [List.all_append, Bool.and_eq_true]
              refine ⟨h2, ?_⟩
              simp only [List.all_cons, List.all_nil, Bool.and_true]
              exact decide_eq_true hg
            · intro k hk
              have hk' := h3 k hk
              unfold Bx.gateB at hk' ⊢
              show (if b.h k = 0 then !b.f k else _) = true
              split at hk'
              · next hz => rw [if_pos hz]; exact hk'
              · next hz =>
                obtain ⟨z1, z2, z3⟩ := of_decide_eq_true hk'
                rw [if_neg hz]
                refine decide_eq_true ⟨z1, ?_, ?_⟩
                · show b.h k ≤ ((b.sent ++ [(g, o)]).length : Int)
                  simp only [List.length_append, List.length_singleton]
                  omega
                · show ((Bx.mk _ (b.sent ++ [(g, o)]) _ _).at (b.h k - 1)).1 = _
                  rw [at_append (by omega) (by omega)]
                  exact z3
            · intro p hp'
              rcases List.mem_append.1 hp' with hp' | hp'
              · obtain ⟨n, o', r1, r2, r3, r4, r5, r6⟩ := pkB_iff.1 (h5 p hp')
                refine pkB_iff.2 ⟨n, o', r1, r2, ?_, r4, ?_, ?_⟩
                · show n < ((b.sent ++ [(g, o)]).length : Int)
                  simp only [List.length_append, List.length_singleton]
                  omega
                · rw [at_append r2 r3]; exact r5
                · rw [at_append r2 r3]; exact r6
              · rw [List.mem_singleton.1 hp']
                have e : (Bx.mk ⟨b.net.queue ++ [⟨0, g + 1, msgB (b.sent.length : Int) o⟩], b.net.apart⟩ (b.sent ++ [(g, o)]) b.heard b.fresh).at (b.sent.length : Int) = (g, o) := by
                  show (b.sent ++ [(g, o)]).getD (b.sent.length : Int).toNat (0, 0) = (g, o)
                  rw [Int.toNat_natCast, List.getD_eq_getElem?_getD, List.getElem?_append_right (Nat.le_refl _), Nat.sub_self]
                  rfl
                refine pkB_iff.2 ⟨_, _, hread, by omega, ?_, rfl, ?_, ?_⟩
                · show (b.sent.length : Int) < ((b.sent ++ [(g, o)]).length : Int)
                  simp only [List.length_append, List.length_singleton]
                  omega
                · rw [e]
                · rw [e]
            · have : ¬ (0 : Int) = (k : Int) + 1 := by omega
              simp only [this, decide_false, Bool.or_false]
              rfl
        · next hp => cases hs
      · next hs => exact absurd h0 hs
  · cases h0
theorem set_at {l : List Int} {g k : Nat} {x : Int} (hg : g < l.length) : (l.set g x).getD k 0 = if k = g then x else l.getD k 0 := by
  rw [List.getD_eq_getElem?_getD, List.getElem?_set]
  by_cases h : g = k
  · subst h; simp [hg]
  · rw [if_neg h, if_neg (fun e => h e.symm), List.getD_eq_getElem?_getD]
theorem set_atB {l : List Bool} {g k : Nat} {x : Bool} (hg : g < l.length) : (l.set g x).getD k false = if k = g then x else l.getD k false := by
  rw [List.getD_eq_getElem?_getD, List.getElem?_set]
  by_cases h : g = k
  · subst h; simp [hg]
  · rw [if_neg h, if_neg (fun e => h e.symm), List.getD_eq_getElem?_getD]
def val (ap : List (Int × Int)) (g : Nat) (p : Pk) : Int := if p.dst = (g : Int) + 1 ∧ cutB ap p.src p.dst = false then numberT p.data + 1 else 0
theorem h_range {b : Bx} (h : b.okB = true) {g : Nat} (hg : g < b.heard.length) : 0 ≤ b.h g ∧ b.h g ≤ (b.sent.length : Int) ∧ (b.h g ≠ 0 → (b.at (b.h g - 1)).1 = (g : Int)) := by
  have hk := (okB_parts h).2.2.1 g hg
  unfold Bx.gateB at hk
  split at hk
  · next hz => exact ⟨by omega, by omega, fun h => absurd hz h⟩
  · obtain ⟨z1, z2, z3⟩ := of_decide_eq_true hk
    exact ⟨z1, z2, fun _ => z3⟩
theorem deliver_cases {b : Bx} (h : b.okB = true) {i : Int} (h0 : (b.deliverT i).2.2 = 0) : 0 ≤ i ∧ i < (b.net.queue.length : Int) ∧
    ((b.deliverT i = (⟨b.net.without i.toNat, b.sent, b.heard, b.fresh⟩, false, 0) ∧ ∀ k : Nat, k < b.heard.length → val b.net.apart k (b.net.pk i) ≤ b.h k) ∨
      ∃ (g : Nat) (n o : Int), g < b.heard.length ∧ (b.net.pk i).dst = (g : Int) + 1 ∧ readT (b.net.pk i).data = some (n, o) ∧ 0 ≤ n ∧ n < (b.sent.length : Int) ∧ (b.at n).1 = (g : Int) ∧ b.h g ≤ n ∧ numberT (b.net.pk i).data = n ∧ cutB b.net.apart (b.net.pk i).src (b.net.pk i).dst = false ∧
        b.deliverT i = (⟨b.net.without i.toNat, b.sent, b.heard.set g (n + 1), b.fresh.set g true⟩, true, 0)) := by
  obtain ⟨h1, h2, h3, h4, h5⟩ := okB_parts h
  unfold Bx.deliverT at h0 ⊢
  rw [if_pos h] at h0 ⊢
  split at h0
  · next hd =>
    rw [if_pos hd]
    unfold Go.Proofs.Ytmbifmmkccghfaa.deliverT at hd ⊢
    split at hd
    · next ha =>
      obtain ⟨-, k1, k2⟩ := ask_in ha
      rw [if_pos ha]
      refine ⟨k1, k2, ?_⟩
      dsimp only
      split
      · next hc =>
        left
        rw [hear_none (by intro h; exact absurd h.1 (by decide))]
        refine ⟨rfl, fun k hk => ?_⟩
        rw [val, if_neg (by rw [hc]; exact fun h => by cases h.2)]
        exact (h_range h hk).1
      · next hc =>
        have hc := Bool.eq_false_iff.2 hc
        obtain ⟨n, o, r1, r2, r3, r4, r5, r6⟩ := pkB_iff.1 (h5 _ (pk_mem k1 k2))
        obtain ⟨⟨s1, s2⟩, -, -⟩ := sent_at h2 r2 r3
        have hg : (b.net.pk i).dst = ((b.at n).1.toNat : Int) + 1 := by omega
        have hn := number_read r1 r2
        by_cases hh : b.h (b.at n).1.toNat ≤ n
        · right
          refine ⟨(b.at n).1.toNat, n, o, by omega, hg, r1, r2, r3, by omega, hh, hn, hc, ?_⟩
          rw [hear_some hg (by rw [hn]; exact hh), hn]
        · left
          rw [hear_no hg (by rw [hn]; exact hh)]
          refine ⟨rfl, fun k hk => ?_⟩
          rw [val]
          split
          · next hv =>
            obtain rfl : k = (b.at n).1.toNat := by omega
            rw [hn]
            omega
          · exact (h_range h hk).1
    · next ha => exact absurd hd ha
  · next hd => exact absurd h0 hd
theorem deliver_kept {b : Bx} (h : b.okB = true) (i : Int) : Kept b (heardT b i (b.deliverT i)).1 (heardT b i (b.deliverT i)).2 [] := by
  unfold heardT
  split
  · next h0 =>
    obtain ⟨h1, h2, h3, h4, h5⟩ := okB_parts h
    obtain ⟨l1, l2, l3⟩ := of_decide_eq_true h1
    obtain ⟨k1, k2, ⟨e, -⟩ | ⟨g, n, o, hg, hd, r1, r2, r3, r4, hh, -, -, e⟩⟩ := deliver_cases h h0
    · rw [e]
      exact Kept.links h (without_ok h4 _) (fun p hp => without_mem hp)
    · rw [e]
      dsimp only
      rw [if_pos rfl, hd]
      have hgf : g < b.fresh.length := by omega
      refine ⟨okB_of ?_ (by unfold Bx.sentB at h2 ⊢; dsimp only; rw [List.length_set]; exact h2) ?_ (without_ok h4 _) (fun p hp => h5 p (without_mem hp)), ?_, by simp, fun k hk => ?_, fun k hk => ?_, fun k hk => ?_, ⟨by omega, by omega⟩⟩
      · refine decide_eq_true ⟨?_, ?_, l3⟩
        · rw [List.length_set]; exact l1
        · rw [List.length_set, List.length_set]; exact l2
      · intro k hk
        rw [List.length_set] at hk
        have hk' := h3 k hk
        unfold Bx.gateB
        show (if (b.heard.set g (n + 1)).getD k 0 = 0 then !((b.fresh.set g true).getD k false) else decide (0 ≤ (b.heard.set g (n + 1)).getD k 0 ∧ (b.heard.set g (n + 1)).getD k 0 ≤ (b.sent.length : Int) ∧ (b.at ((b.heard.set g (n + 1)).getD k 0 - 1)).1 = (k : Int))) = true
        rw [set_at hg, set_atB hgf]
        by_cases e1 : k = g
        · subst e1
          rw [if_pos rfl, if_neg (by omega)]
          refine decide_eq_true ⟨by omega, by omega, ?_⟩
          rw [show n + 1 - 1 = n by omega]
          exact r4
        · rw [if_neg e1, if_neg e1]
          exact hk'
      · exact List.length_set
      · show (b.fresh.set g true).getD k false = (b.fresh.getD k false || decide ((g : Int) + 1 = (k : Int) + 1))
        rw [set_atB hgf]
        by_cases e1 : k = g
        · subst e1; simp
        · have : ¬ (g : Int) + 1 = (k : Int) + 1 := by omega
          rw [if_neg e1, decide_eq_false this, Bool.or_false]
      · show b.h k ≤ (b.heard.set g (n + 1)).getD k 0
        rw [set_at hg]
        split
        · next e1 => subst e1; omega
        · exact Int.le_refl _
      · show b.h k < (b.heard.set g (n + 1)).getD k 0 → _
        rw [set_at hg]
        split
        · next e1 => subst e1; exact fun _ => rfl
        · exact fun h => absurd h (Int.lt_irrefl _)
  · exact Kept.refl h
theorem link_kept {b : Bx} (h : b.okB = true) (m : Om) : ∃ s, Kept b (b.linkT m).1 (b.linkT m).2 s ∧ (s = [] ∨ s = [(m.gt % (b.heard.length : Int), m.od % 8)]) := by
  unfold Bx.linkT
  split
  · exact keepT_kept h (send_kept h _ _)
  split
  · exact ⟨[], deliver_kept h _, .inl rfl⟩
  split
  · obtain ⟨s, h1, h2⟩ := keepT_kept h (lose_kept h (b.pos m.at0)); exact ⟨s, h1, .inl (by simpa using h2)⟩
  split
  · obtain ⟨s, h1, h2⟩ := keepT_kept h (repeat_kept h (b.pos m.at0)); exact ⟨s, h1, .inl (by simpa using h2)⟩
  split
  · obtain ⟨s, h1, h2⟩ := keepT_kept h (cut_kept h (1 + m.gt % (b.heard.length : Int)) (decide (m.od % 2 = 0))); exact ⟨s, h1, .inl (by simpa using h2)⟩
  · exact ⟨[], Kept.refl h, .inl rfl⟩
theorem new_ok {n : Nat} (h1 : 1 ≤ n) (h8 : n ≤ 8) : newB (n : Int) = (⟨Net.zero, [], List.replicate n 0, List.replicate n false⟩, 0) ∧ (⟨Net.zero, [], List.replicate n 0, List.replicate n false⟩ : Bx).okB = true := by
  constructor
  · rw [newB, if_pos ⟨by omega, by omega⟩, Int.toNat_natCast]
  · refine okB_of ?_ rfl (fun g hg => ?_) rfl (fun p hp => by cases hp)
    · exact decide_eq_true ⟨by simp; omega, by simp, Nat.zero_le _⟩
    · rw [List.length_replicate] at hg
      have e : (⟨Net.zero, [], List.replicate n 0, List.replicate n false⟩ : Bx).h g = 0 := by
        show (List.replicate n (0 : Int)).getD g 0 = 0
        rw [List.getD_eq_getElem?_getD, List.getElem?_replicate]
        split <;> rfl
      have e2 : (⟨Net.zero, [], List.replicate n 0, List.replicate n false⟩ : Bx).f g = false := by
        show (List.replicate n false).getD g false = false
        rw [List.getD_eq_getElem?_getD, List.getElem?_replicate]
        split <;> rfl
      rw [Bx.gateB, if_pos e, e2]
      rfl
theorem tick_ok {b : Bx} (h : b.okB = true) : b.tickT = (⟨b.net, b.sent, b.heard, List.replicate b.heard.length false⟩, (List.range b.heard.length).map b.orderB, 0) ∧ (⟨b.net, b.sent, b.heard, List.replicate b.heard.length false⟩ : Bx).okB = true := by
  refine ⟨by rw [Bx.tickT, if_pos h], ?_⟩
  obtain ⟨h1, h2, h3, h4, h5⟩ := okB_parts h
  obtain ⟨l1, l2, l3⟩ := of_decide_eq_true h1
  refine okB_of (decide_eq_true ⟨l1, by simp, l3⟩) h2 (fun g hg => ?_) h4 h5
  have hk := h3 g hg
  have e2 : (⟨b.net, b.sent, b.heard, List.replicate b.heard.length false⟩ : Bx).f g = false := by
    show (List.replicate b.heard.length false).getD g false = false
    rw [List.getD_eq_getElem?_getD, List.getElem?_replicate]
    split <;> rfl
  unfold Bx.gateB at hk ⊢
  rw [e2]
  show (if b.h g = 0 then !false else _) = true
  split at hk
  · next hz => rw [if_pos hz]; rfl
  · next hz => rw [if_neg hz]; exact hk
end Go.Proofs.Ytmbifmmkccghfaa

/-
  All packets delivered, in any order: what each gate has heard then. No condition.
-/
namespace Go.Proofs.Ytmbifmmkccghfaa
open Go.RowKit

def topL (ap : List (Int × Int)) (g : Nat) : Int → List Pk → Int
  | h, [] => h
  | h, p :: q => topL ap g (max h (val ap g p)) q
def Bx.top (b : Bx) (g : Nat) : Int := topL b.net.apart g (b.h g) b.net.queue
structure Flow (b x : Bx) : Prop where
  ok : x.okB = true
  len : x.heard.length = b.heard.length
  sent : x.sent = b.sent
  top : ∀ g : Nat, g < b.heard.length → x.top g = b.top g
theorem Flow.refl {b : Bx} (h : b.okB = true) : Flow b b := ⟨h, rfl, rfl, fun _ _ => rfl⟩
theorem Flow.trans {b x y : Bx} (h : Flow b x) (h2 : Flow x y) : Flow b y := ⟨h2.ok, h2.len.trans h.len, h2.sent.trans h.sent, fun g hg => (h2.top g (by rw [h.len]; exact hg)).trans (h.top g hg)⟩
structure Done (b x : Bx) : Prop where
  flow : Flow b x
  empty : x.net.queue.length = 0
theorem Done.h {b x : Bx} (h : Done b x) {g : Nat} (hg : g < b.heard.length) : x.h g = b.top g := by
  have h1 := h.flow.top g hg
  have h2 : x.net.queue = [] := List.length_eq_zero_iff.1 h.empty
  rw [Bx.top, h2] at h1
  exact h1
theorem Done.same {b c x y : Bx} (h : Done b x) (hc : Flow b c) (h2 : Done c y) : y.heard = x.heard := by
  have h2' : Done b y := ⟨hc.trans h2.flow, h2.empty⟩
  refine ints_eq (n := b.heard.length) h2'.flow.len h.flow.len fun j hj => ?_
  exact (h2'.h hj).trans (h.h hj).symm
end Go.Proofs.Ytmbifmmkccghfaa

/-
  link: a move of chapter 34's runs. (Printed by gen_sg.py and pp.py.) No condition.
-/
namespace Go.Proofs.Ytmbifmmkccghfaa
open Go.RowKit Go.Shelf
attribute [local go_sem] Oper.semAt_some

end Go.Proofs.Ytmbifmmkccghfaa

/-
  Arguments that are slices of structs, opened; small words for it. No condition.
  The theorem open_slice_fields stands in the kit's howto/extra-structs.md, to be copied.
-/
namespace Go.Proofs.Ytmbifmmkccghfaa
open Go.ChangeShapes Go.WideShapes Go.ChangeAt Go.RowKit Go.Joins Go.Deep

theorem cell_int {H : Type} {enc : TypeId × Value → H} {P : Program} {w : World} {base : Nat} {spare : Nat → Bool} {held : Bool} {t : TypeId} {k : IntKind} {n : Nat} {v : Value} {y : DataW H × List MemPlace}
    (ht : P.underlying t = some (.int k)) (h : DataW.trod enc P w base spare held n t [v] = some y) : ∃ x : Int, v = .int k x ∧ (Lit.int k x).wf = true := by
  obtain ⟨x, hx, _, hw⟩ := DataW.trod_int ht h
  exact ⟨x, by simpa using hx, hw⟩
section
variable {H : Type} {enc : TypeId × Value → H} {P : Program} {w : World} {base : Nat} {spare : Nat → Bool} {held : Bool}
theorem open_slice_fields {t e : TypeId} {fs : Array Field} {fuel : Nat} {cs : List Value} {x : DataW H × List MemPlace} (ht : P.underlying t = some (.slice e)) (he : P.underlying e = some (.struct fs))
    (hone : oneCellFields P fs = true) (hC : P.cellsOf e = fs.size) (h : DataW.trod enc P w base spare held fuel t cs = some x) :
    (cs = [.slice none 0 0] ∧ x = (.nil, [])) ∨
    ∃ (a : Addr) (len cap m : Nat) (D : Nat → DataW H) (Pl : Nat → List MemPlace), cs = [.slice (some a) len cap] ∧ base ≤ a.block ∧ len ≤ cap ∧ cap ≤ maxLen ∧ m = (if spare a.block then cap else len) ∧
      x = (.slice ((List.range len).map D) ((List.range (m - len)).map fun j => D (len + j)), MemPlace.row a (m * fs.size) ++ (List.range m).flatMap Pl) ∧
      ∀ i, i < m → ∃ (ys : List (DataW H × List MemPlace)) (n : Nat), D i = .agg (ys.map (·.1)) ∧ Pl i = ys.flatMap (·.2) ∧ ys.length = fs.size ∧
        ∀ (j : Nat) (f : Field), fs[j]? = some f → ∃ (v : Value) (y : DataW H × List MemPlace), w.cell? (a.add (i * fs.size + j)) = some v ∧ ys[j]? = some y ∧ DataW.trod enc P w base spare held n f.type [v] = some y := by
  rcases open_slice ht h with h0 | ⟨a, len, cap, m, n, D, Pl, hcs, hb, hl, hm, hmm, hx, hi⟩
  · exact .inl h0
  · refine .inr ⟨a, len, cap, m, D, Pl, hcs, hb, hl, hm, hmm, by rw [hC] at hx; exact hx, fun i him => ?_⟩
    obtain ⟨cs', hc, ht'⟩ := hi i him
    rw [hC] at hc
    obtain ⟨ys, n', hn', hy, hlen, hyl, hf⟩ := DataW.trod_struct he ht'
    obtain ⟨_, hcl, hat⟩ := World.cells?_some hc
    simp only [Prod.mk.injEq] at hy
    refine ⟨ys, n', hy.1, hy.2, hyl, fun j f hj => ?_⟩
    obtain ⟨ho, hk⟩ := hone_of hone j f hj
    have hjl : j < fs.size := (Array.getElem?_eq_some_iff.1 hj).1
    have hcell := hat j hjl
    have hv : cs'[j]? = some (cs'[j]'(by omega)) := List.getElem?_eq_getElem (by omega)
    have h1 := hf j f hj
    rw [ho, hk] at h1
    have hone' : (cs'.drop j).take 1 = [cs'[j]'(by omega)] := by
      rw [List.drop_eq_getElem_cons (by omega)]
      rfl
    rw [hone'] at h1
    have hys : ys[j]? = some (ys[j]'(by omega)) := List.getElem?_eq_getElem (by omega)
    refine ⟨_, _, ?_, hys, h1.trans hys⟩
    rw [← Go.Deep.add_add, hcell, hv]
end

theorem exists_list {α : Type} (P : Nat → α → Prop) : ∀ n, (∀ i, i < n → ∃ a, P i a) → ∃ l : List α, l.length = n ∧ ∀ i a, l[i]? = some a → P i a
  | 0, _ => ⟨[], rfl, fun i a h => by simp at h⟩
  | n + 1, h => by
    obtain ⟨l, hl, hp⟩ := exists_list P n (fun i hi => h i (by omega))
    obtain ⟨a, ha⟩ := h n (by omega)
    refine ⟨l ++ [a], by simp [hl], fun i b hb => ?_⟩
    rcases Nat.lt_trichotomy i n with hi | rfl | hi
    · rw [List.getElem?_append_left (by omega)] at hb
      exact hp i b hb
    · rw [List.getElem?_append_right (by omega), hl] at hb
      simp at hb
      subst hb
      exact ha
    · rw [List.getElem?_eq_none (by simp; omega)] at hb
      cases hb
theorem spot_none {w : World} {a : Addr} {v : Value} (h : w.cell? a = some v) : a.spot = none := by
  unfold World.cell? at h
  split at h
  · split at h
    · cases h
    · rename_i hs
      cases hq : a.spot with
      | none => rfl
      | some q => rw [hq] at hs; exact absurd rfl hs
  · cases h
end Go.Proofs.Ytmbifmmkccghfaa

/-
  Arguments of chapter 6's laws opened: packets, nets. No condition.
-/
namespace Go.Proofs.Ytmbifmmkccghfaa
open Go.ChangeShapes Go.WideShapes Go.ChangeAt Go.RowKit Go.Joins Go.Deep

section
variable {H : Type} {enc : TypeId × Value → H} {w : World} {base : Nat} {spare : Nat → Bool} {held : Bool}
end
end Go.Proofs.Ytmbifmmkccghfaa

/-
  Lists of moves of chapter 34's runs: where they lie, and their opener. No condition.
-/
namespace Go.Proofs.Ytmbifmmkccghfaa
open Go.ChangeShapes Go.WideShapes Go.ChangeAt Go.RowKit Go.Joins Go.Deep

def omCells (l : List Om) (i j : Nat) : Value :=
  if j = 0 then .int .u8 (l.getD i ⟨0, 0, 0, 0, 0⟩).kd else if j = 1 then .int .u8 (l.getD i ⟨0, 0, 0, 0, 0⟩).gt else if j = 2 then .int .u8 (l.getD i ⟨0, 0, 0, 0, 0⟩).od else if j = 3 then .int .u8 (l.getD i ⟨0, 0, 0, 0, 0⟩).at0 else .int .u8 (l.getD i ⟨0, 0, 0, 0, 0⟩).fd
def OmsAt (w : World) (B : Nat) (v : Value) (l : List Om) : Prop := Sl w B 5 l.length (omCells l) v ∧ ∀ x ∈ l, x.ok
theorem OmsAt.elem {w : World} {B n c : Nat} {A : Option Addr} {l : List Om} (h : OmsAt w B (.slice A n c) l) {k : Nat} (hk : k < l.length) :
    ∃ b off, A = some ⟨b, off, none⟩ ∧ b < B ∧ w.cell? ⟨b, off + k * 5, none⟩ = some (.int .u8 (l[k]).kd) ∧ w.cell? ⟨b, off + k * 5 + 1, none⟩ = some (.int .u8 (l[k]).gt) ∧ w.cell? ⟨b, off + k * 5 + 2, none⟩ = some (.int .u8 (l[k]).od) ∧ w.cell? ⟨b, off + k * 5 + 3, none⟩ = some (.int .u8 (l[k]).at0) ∧ w.cell? ⟨b, off + k * 5 + 4, none⟩ = some (.int .u8 (l[k]).fd) := by
  obtain ⟨⟨A', c', hv, _, h1⟩, _⟩ := h
  cases hv
  obtain ⟨b, off, rfl, hb, h3⟩ := h1 k hk
  have eg : l.getD k ⟨0, 0, 0, 0, 0⟩ = l[k] := by rw [List.getD_eq_getElem?_getD, List.getElem?_eq_getElem hk]; rfl
  have c0 := h3 0 (by omega)
  have c1 := h3 1 (by omega)
  have c2 := h3 2 (by omega)
  have c3 := h3 3 (by omega)
  have c4 := h3 4 (by omega)
  simp only [omCells, eg] at c0 c1 c2 c3 c4
  exact ⟨b, off, rfl, hb, c0, by rw [Nat.add_assoc]; exact c1, by rw [Nat.add_assoc]; exact c2, by rw [Nat.add_assoc]; exact c3, by rw [Nat.add_assoc]; exact c4⟩
section
variable {H : Type} {enc : TypeId × Value → H} {w : World} {base : Nat} {spare : Nat → Bool} {held : Bool}
set_option maxRecDepth 100000 in
theorem trod_oms {n : Nat} {v : Value} {y : DataW H × List MemPlace} (h : DataW.trod enc Try.prog w base spare held n 58 [v] = some y) : ∃ q : List Om, OmsAt w w.heap.size v q := by
  rcases open_slice_fields Try.underlying58 Try.underlying61 (by kernel_rfl) (by kernel_rfl) h with ⟨h0, _⟩ | ⟨a, len, cap, m, D, Pl, h0, hb, hl, hc, hm, _, hf⟩
  · obtain rfl : v = .slice none 0 0 := by simpa using h0
    exact ⟨[], ⟨none, 0, rfl, Nat.zero_le _, fun i hi => by simp at hi⟩, fun x hx => by cases hx⟩
  · obtain rfl : v = .slice (some a) len cap := by simpa using h0
    have hlm : len ≤ m := by rw [hm]; split <;> omega
    obtain ⟨ls, hcs, hp⟩ := exists_list (fun i (l : Om) => w.cell? (a.add (i * 5 + 0)) = some (.int .u8 l.kd) ∧ w.cell? (a.add (i * 5 + 1)) = some (.int .u8 l.gt) ∧ w.cell? (a.add (i * 5 + 2)) = some (.int .u8 l.od) ∧ w.cell? (a.add (i * 5 + 3)) = some (.int .u8 l.at0) ∧ w.cell? (a.add (i * 5 + 4)) = some (.int .u8 l.fd) ∧ l.ok) len (fun i hi => by
      obtain ⟨ys, k, _, _, _, hj⟩ := hf i (by omega)
      obtain ⟨v0, y0, e0, _, t0⟩ := hj 0 _ rfl
      obtain ⟨v1, y1, e1, _, t1⟩ := hj 1 _ rfl
      obtain ⟨v2, y2, e2, _, t2⟩ := hj 2 _ rfl
      obtain ⟨v3, y3, e3, _, t3⟩ := hj 3 _ rfl
      obtain ⟨v4, y4, e4, _, t4⟩ := hj 4 _ rfl
      obtain ⟨x0, rfl, b0⟩ := cell_int Try.underlying5 t0
      obtain ⟨x1, rfl, b1⟩ := cell_int Try.underlying5 t1
      obtain ⟨x2, rfl, b2⟩ := cell_int Try.underlying5 t2
      obtain ⟨x3, rfl, b3⟩ := cell_int Try.underlying5 t3
      obtain ⟨x4, rfl, b4⟩ := cell_int Try.underlying5 t4
      exact ⟨⟨x0, x1, x2, x3, x4⟩, e0, e1, e2, e3, e4, bounds_u8 b0, bounds_u8 b1, bounds_u8 b2, bounds_u8 b3, bounds_u8 b4⟩)
    refine ⟨ls, ⟨some a, cap, by rw [hcs], by omega, fun i hi => ?_⟩, fun x hx => ?_⟩
    · have hs : a.spot = none := by
        obtain ⟨q0, _⟩ := hp 0 _ (List.getElem?_eq_getElem (by omega))
        exact spot_none q0
      obtain ⟨b, off, sp⟩ := a
      obtain rfl : sp = none := hs
      obtain ⟨q0, q1, q2, q3, q4, _⟩ := hp i _ (List.getElem?_eq_getElem hi)
      rw [add_at] at q0 q1 q2 q3 q4
      refine ⟨b, off, rfl, World.block_lt_of_cell? _ _ q0, fun j hj => ?_⟩
      dsimp only [omCells]
      rw [List.getD_eq_getElem?_getD, List.getElem?_eq_getElem hi]
      rcases (show j = 0 ∨ j = 1 ∨ j = 2 ∨ j = 3 ∨ j = 4 by omega) with rfl | rfl | rfl | rfl | rfl
      · exact q0
      · exact q1
      · exact q2
      · exact q3
      · exact q4
    · obtain ⟨i, hi, rfl⟩ := List.getElem_of_mem hx
      exact (hp i _ (List.getElem?_eq_getElem hi)).2.2.2.2.2
set_option maxRecDepth 100000 in
theorem open_oms {r : Reach} {b0 : Nat} {v : Value} {d : DataW H} {p : List MemPlace} (hv : Value.okWide Try.prog w r b0 58 v) (h : DataW.Trod enc Try.prog w base spare held 58 v d p) : ∃ q : List Om, OmsAt w w.heap.size v q := by
  obtain ⟨A, len0, cap0, rfl⟩ := okWide_slice Try.underlying58 hv
  obtain ⟨n, h⟩ := h
  exact trod_oms (show DataW.trod enc Try.prog w base spare held n 58 [.slice A len0 cap0] = some (d, p) from h)
end
end Go.Proofs.Ytmbifmmkccghfaa

/-
  The row of messages that the law itself keeps: integers in its whole block; a box of orders outlives what is appended to it, and what is put into the law's map. No condition.
-/
namespace Go.Proofs.Ytmbifmmkccghfaa
open Go.RowKit

abbrev IsI (v : Value) : Prop := ∃ z, v = .int .i64 z
theorem IntBox.later {w w' : World} {x : Nat} (h : IntBox w x) (hb : Below w.heap.size w w') : IntBox w' x := h.imp fun _ h => ⟨h.1.later hb, h.2⟩
theorem IntBox.other {w : World} {x : Nat} (h : IntBox w x) {a : Addr} (ha : x ≠ a.block) (v : Value) : IntBox (w.setCell a v) x := h.imp fun _ h => ⟨h.1.other ha v, h.2⟩
theorem zeroCells_int {n : Nat} : ∀ v ∈ (Builtin.zeroCells #[Value.int .i64 0, Value.int .i64 0] n).toList, IsI v := by
  intro v hv
  simp only [Builtin.zeroCells, Array.toList_map, List.mem_map] at hv
  obtain ⟨i, -, rfl⟩ := hv
  have : i % (#[Value.int .i64 0, Value.int .i64 0] : Array Value).size < 2 := Nat.mod_lt _ (by decide)
  rcases (show i % (#[Value.int .i64 0, Value.int .i64 0] : Array Value).size = 0 ∨ i % (#[Value.int .i64 0, Value.int .i64 0] : Array Value).size = 1 by omega) with h | h <;> rw [h] <;> exact ⟨0, rfl⟩
theorem lkL_int {l : List (Int × Int)} : ∀ v ∈ lkL l, IsI v := by
  intro v hv
  obtain ⟨m, _, hm⟩ := List.mem_flatMap.1 hv
  simp at hm
  rcases hm with rfl | rfl
  · exact ⟨_, rfl⟩
  · exact ⟨_, rfl⟩
theorem IntBox.of {w : World} {g : Nat} {cs : Array Value} {t : TypeId} (h : w.heap[g]? = some (.cells cs t (0, 0))) (hi : ∀ v ∈ cs.toList, IsI v) : IntBox w g := ⟨cs.toList, ⟨t, by simpa using h⟩, hi⟩
structure SentAt (w : World) (base : Nat) (V : Value) (l : List (Int × Int)) : Prop where
  own : OwnE oEncM 2 w base 48 V l
  ints : ∀ g, V.ownBlock = some g → IntBox w g
def SepV (V Va Vs Vh : Value) : Prop := ∀ g, V.ownBlock = some g → Sep g Va Vs Vh
theorem SepV.nil (Va Vs Vh : Value) : SepV (.slice none 0 0) Va Vs Vh := fun _ h => by cases h
theorem sentAt_nil (w : World) (base : Nat) : SentAt w base (.slice none 0 0) [] := ⟨ownE_nil _ _ _ _ _, fun _ h => by cases h⟩
section
variable {w w' : World} {base : Nat} {V : Value} {l : List (Int × Int)}
theorem SentAt.lt (h : SentAt w base V l) {g : Nat} (hg : V.ownBlock = some g) : base ≤ g ∧ g < w.heap.size := World.ownsRow.lt h.own g hg
theorem SentAt.later (h : SentAt w base V l) (hb : Below w.heap.size w w') : SentAt w' base V l := ⟨h.own.later hb, fun g hg => (h.ints g hg).later hb⟩
theorem SentAt.set (h : SentAt w base V l) {a : Addr} (ha : a.block < base) (u : Value) : SentAt (w.setCell a u) base V l := ⟨h.own.set ha u, fun g hg => (h.ints g hg).other (by have := (h.lt hg).1; omega) u⟩
theorem Box.turned {B x n : Nat} {xs : List Value} {f : Nat → Bool} (hx : Box w x xs) (hM : MapB w B n f) (hg : w.grownBy w' (some B)) : Box w' x xs := by
  obtain ⟨t, ht⟩ := hx
  obtain ⟨es, c, hb⟩ := hM.block
  refine ⟨t, (hg.block x (Array.getElem?_eq_some_iff.1 ht).1 (fun e => ?_)).trans ht⟩
  cases e
  rw [hb] at ht
  cases ht
theorem SentAt.off (h : SentAt w base V l) {B n : Nat} {f : Nat → Bool} (hM : MapB w B n f) : V.ownBlock ≠ some B := by
  intro e
  obtain ⟨xs, ⟨t, hx⟩, -⟩ := h.ints B e
  obtain ⟨es, c, hb⟩ := hM.block
  rw [hb] at hx
  cases hx
theorem SentAt.turned (h : SentAt w base V l) {B n : Nat} {f : Nat → Bool} (hM : MapB w B n f) (hg : w.grownBy w' (some B)) : SentAt w' base V l :=
  ⟨World.ownsRow.kept h.own (row := some B) hg (.inr (h.off hM)), fun g hg' => (h.ints g hg').imp fun _ h => ⟨h.1.turned hM hg, h.2⟩⟩
theorem SepV.new {Va Vs Vh Va' Vs' Vh' : Value} (h : SepV V Va Vs Vh) (hs : SentAt w base V l) (hn : Nw3 w.heap.size Va Vs Vh Va' Vs' Vh') : SepV V Va' Vs' Vh' := fun g hg => (h g hg).new hn (hs.lt hg).2
theorem run_appI (m : Int × Int) {g : Nat} (ty : TypeId) (ho : SentAt w base V l) (hx : Box w g (oEncM m)) (hbase : base ≤ w.heap.size) (hl : l.length ≤ 1048576) :
    ∃ g' c' w', (appF #[26, 26] ty #[V, .slice (some ⟨g, 0, none⟩) 1 1]).run Try.prog w = .ok (.slice (some ⟨g', 0, none⟩) (l.length + 1) c') w' ∧ SentAt w' base (.slice (some ⟨g', 0, none⟩) (l.length + 1) c') (l ++ [m]) ∧ w.grownBy w' V.ownBlock ∧ (V.ownBlock = some g' ∨ g' = w.heap.size) := by
  obtain ⟨i, E⟩ := oElemM
  obtain ⟨g', c', w', hr, h2, h3⟩ := run_appE E (fun _ => rfl) oneM (by omega) m ty ho.own hx hbase hl
  have hnews : ∀ j u, (oEncM m)[j]? = some u → w.cell? ((⟨g, 0, none⟩ : Addr).add j) = some u := fun j u hu => by
    rw [add_at, Nat.zero_add, hx.cell j]
    exact hu
  have hz : (Value.agg #[.int .i64 0, .int .i64 0]).cells = #[.int .i64 0, .int .i64 0] := by kernel_rfl
  suffices hi : IntBox w' g' ∧ (V.ownBlock = some g' ∨ g' = w.heap.size) by
    exact ⟨g', c', w', hr, ⟨h2, fun g2 hg2 => by cases hg2; exact hi.1⟩, h3, hi.2⟩
  have hnew : ∀ v ∈ oEncM m, IsI v := fun v hv => by
    simp at hv
    rcases hv with rfl | rfl <;> exact ⟨_, rfl⟩
  have hby : (l.length + 1) * i.bytes ≤ 140737488355328 := by have := E.hby; rw [this]; omega
  rcases ho.own.2 with ⟨hV, hn⟩ | ⟨gv, cap, cur, hV, hbg, hg, hnc, hcm, hcs, htake⟩
  · subst hV
    have hr2 := run_append_nil (P := Try.prog) w 26 ty 48 i _ E.ht E.hi E.hz ⟨g, 0, none⟩ 1 1 (oEncM m) (by rw [E.hsize]; rfl) hnews (by omega) (by omega) (by have := E.hby; rw [this]; omega)
    have hr3 := (show (Builtin.append_ #[26, 26] ty #[.slice none 0 0, .slice (some ⟨g, 0, none⟩) 1 1]).run Try.prog w = _ from hr).symm.trans hr2
    rw [hz] at hr3
    simp only [Result.ok.injEq, Value.slice.injEq, Option.some.injEq, Addr.mk.injEq] at hr3
    obtain ⟨⟨⟨rfl, -⟩, -⟩, rfl⟩ := hr3
    refine ⟨IntBox.of (heap_alloc_new w.drew _) (fun v hv => ?_), .inr rfl⟩
    rw [Array.toList_append, List.mem_append] at hv
    rcases hv with hv | hv
    · exact hnew v hv
    · exact zeroCells_int v hv
  · subst hV
    have hints := ho.ints gv rfl
    have hcur : ∀ v ∈ cur.toList, IsI v := by
      obtain ⟨xs, ⟨t, hx2⟩, hxs⟩ := hints
      rw [hg] at hx2
      cases hx2
      exact hxs
    by_cases hroom : l.length + 1 ≤ cap
    · have hfit : l.length * i.size + (oEncM m).length ≤ cur.size := by rw [hcs, E.hsize]; show l.length * 2 + 2 ≤ cap * 2; omega
      have hr2 := run_append_room (P := Try.prog) w 26 ty 48 i E.ht E.hi gv l.length cap cur hg ⟨g, 0, none⟩ 1 1 (oEncM m) (by rw [E.hsize]; rfl) hnews (oneM m) hroom hfit
      have hr3 := (show (Builtin.append_ #[26, 26] ty #[.slice (some ⟨gv, 0, none⟩) l.length cap, .slice (some ⟨g, 0, none⟩) 1 1]).run Try.prog w = _ from hr).symm.trans hr2
      simp only [Result.ok.injEq, Value.slice.injEq, Option.some.injEq, Addr.mk.injEq] at hr3
      obtain ⟨⟨⟨rfl, -⟩, -⟩, rfl⟩ := hr3
      refine ⟨IntBox.of (setRow_heap w g' cur _ _ _ hg) (fun v hv => ?_), .inl rfl⟩
      simp only [List.mem_append] at hv
      rcases hv with (hv | hv) | hv
      · exact hcur v (List.mem_of_mem_take hv)
      · exact hnew v hv
      · exact hcur v (List.mem_of_mem_drop hv)
    · have holds : ∀ j u, (lkL l)[j]? = some u → w.cell? ((⟨gv, 0, none⟩ : Addr).add j) = some u := World.ownsRow.cells ho.own (g := gv) rfl
      have hr2 := run_append_grow (P := Try.prog) w 26 ty 48 i _ E.ht E.hi E.hz ⟨gv, 0, none⟩ l.length cap (lkL l) (by rw [lkL_length, E.hsize]) holds ⟨g, 0, none⟩ 1 1 (oEncM m) (by rw [E.hsize]; rfl) hnews (by omega) (by omega) (growslice_fits (by omega) hby)
      have hr3 := (show (Builtin.append_ #[26, 26] ty #[.slice (some ⟨gv, 0, none⟩) l.length cap, .slice (some ⟨g, 0, none⟩) 1 1]).run Try.prog w = _ from hr).symm.trans hr2
      rw [hz] at hr3
      simp only [Result.ok.injEq, Value.slice.injEq, Option.some.injEq, Addr.mk.injEq] at hr3
      obtain ⟨⟨⟨rfl, -⟩, -⟩, rfl⟩ := hr3
      refine ⟨IntBox.of (heap_alloc_new w.drew _) (fun v hv => ?_), .inr rfl⟩
      rw [Array.toList_append, Array.toList_append, List.mem_append, List.mem_append] at hv
      rcases hv with (hv | hv) | hv
      · exact lkL_int v hv
      · exact hnew v hv
      · exact zeroCells_int v hv
theorem BxAt.appI {Vq Va Vs Vh Vf : Value} {b : Bx} (h : BxAt w w.heap.size Vq Va Vs Vh Vf b) (hs : SentAt w base V l) (hp : SepV V Va Vs Vh) (hg : w.grownBy w' V.ownBlock) : BxAt w' w'.heap.size Vq Va Vs Vh Vf b := by
  rcases ho : V.ownBlock with _ | g
  · rw [ho] at hg
    exact h.later ⟨hg.os, hg.tape, hg.output, hg.size, fun i hi => hg.block i hi (by simp)⟩
  · rw [ho] at hg
    obtain ⟨xs, hx, hxs⟩ := hs.ints g ho
    refine (h.keepSep (R := g) (fun x c hlt hne => World.cell?_of_block (w := w) (hg.block x hlt (fun e => hne (by cases e; rfl)))) (fun c u hu => ?_) (hp g ho)).more hg.size
    rw [hx.cell] at hu
    exact hxs u (List.mem_of_getElem? hu)
theorem SepV.appI {Vq Va Vs Vh Vf : Value} {b : Bx} {g' n c : Nat} (h : BxAt w w.heap.size Vq Va Vs Vh Vf b) (hp : SepV V Va Vs Vh) (hg : V.ownBlock = some g' ∨ g' = w.heap.size) : SepV (.slice (some ⟨g', 0, none⟩) n c) Va Vs Vh := by
  intro g2 e
  cases e
  rcases hg with hg | rfl
  · exact hp _ hg
  · exact Sep.low h (Nat.le_refl _)
theorem SepB.map {B R size n : Nat} {g : Nat → Nat → Value} {U : Value} (h : Sl w B size n g U) (hz : 0 < size) (hR : ∀ c, w.cell? ⟨R, c, none⟩ = none) : SepB R U := by
  intro b o s n' c' e hn
  obtain ⟨A', c2, hv, -, h1⟩ := h
  rw [hv] at e
  cases e
  obtain ⟨b2, o2, hA, hb, h3⟩ := h1 0 hn
  cases hA
  rintro rfl
  have := h3 0 hz
  rw [hR] at this
  cases this
theorem BxAt.turned {Vq Va Vs Vh Vf : Value} {b : Bx} {B n : Nat} {f : Nat → Bool} (h : BxAt w w.heap.size Vq Va Vs Vh Vf b) (hM : MapB w B n f) (hg : w.grownBy w' (some B)) : BxAt w' w'.heap.size Vq Va Vs Vh Vf b := by
  obtain ⟨es, c, hb⟩ := hM.block
  have hR : ∀ c, w.cell? ⟨B, c, none⟩ = none := fun c => by simp [World.cell?, hb]
  refine (h.keepSep (R := B) (fun x c hlt hne => World.cell?_of_block (w := w) (hg.block x hlt (fun e => hne (by cases e; rfl)))) (fun c u hu => ?_) ⟨SepB.map h.net.apart.2 (by decide) hR, SepB.map h.sent.2 (by decide) hR, SepB.map h.heard.2 (by decide) hR⟩).more hg.size
  rw [hR] at hu
  cases hu
theorem Below.turned {B0 B : Nat} {a : World} (hb : Below B0 a w) (hg : w.grownBy w' (some B)) (hB : B0 ≤ B) (hs : B0 ≤ w.heap.size) : Below B0 a w' := hb.grown hg hs (fun k hk => by cases hk; exact hB)
theorem MapB.appI {B n : Nat} {f : Nat → Bool} (h : MapB w B n f) (hs : SentAt w base V l) (hg : w.grownBy w' V.ownBlock) : MapB w' B n f := h.kept hg (fun e => hs.off h e.symm)
theorem Box.grownV {x : Nat} {xs : List Value} (hx : Box w x xs) (hg : w.grownBy w' V.ownBlock) (hne : ∀ g, V.ownBlock = some g → g < x) : Box w' x xs := by
  obtain ⟨t, ht⟩ := hx
  refine ⟨t, (hg.block x (Array.getElem?_eq_some_iff.1 ht).1 (fun e => ?_)).trans ht⟩
  have := hne x e.symm
  omega
theorem SentAt.lks (h : SentAt w base V l) (hl : l.length ≤ maxLen) : LksAt w w.heap.size V l := h.own.lks hl
theorem SentAt.form (h : SentAt w base V l) : ∃ A c, V = .slice A l.length c := by
  obtain ⟨A, c, hv, -⟩ := OwnE.sl h.own (fun _ => rfl)
  exact ⟨A, c, hv⟩
theorem hid_sent (h : Hid (SentAt w base V l)) (hb : Below w.heap.size w w') : Hid (SentAt w' base V l) := h.out.later hb
theorem sent_set (h : Hid (SentAt w base V l)) {x : Nat} (hx : x < base) {Aq : Option Addr} {nq cq : Nat} {Aa : Option Addr} {na ca : Nat} {As : Option Addr} {ns cs : Nat} {Ah : Option Addr} {nh ch : Nat} {Af : Option Addr} {nf cf : Nat} :
    Hid (SentAt (((((w.setCell ⟨x, 0, none⟩ (.slice Aq nq cq)).setCell ⟨x, 1, none⟩ (.slice Aa na ca)).setCell ⟨x, 2, none⟩ (.slice As ns cs)).setCell ⟨x, 3, none⟩ (.slice Ah nh ch)).setCell ⟨x, 4, none⟩ (.slice Af nf cf)) base V l) :=
  Lib.hid (((((h.out.set (a := ⟨x, 0, none⟩) hx _).set (a := ⟨x, 1, none⟩) hx _).set (a := ⟨x, 2, none⟩) hx _).set (a := ⟨x, 3, none⟩) hx _).set (a := ⟨x, 4, none⟩) hx _)
theorem hid_map {B n : Nat} {f : Nat → Bool} (h : Hid (MapB w B n f)) (hb : Below w.heap.size w w') : Hid (MapB w' B n f) := h.out.later hb
theorem map_set {B n : Nat} {f : Nat → Bool} (h : Hid (MapB w B n f)) {x : Nat} {u0 u1 u2 u3 u4 : Value} (hx : Box w x [u0, u1, u2, u3, u4]) {Aq : Option Addr} {nq cq : Nat} {Aa : Option Addr} {na ca : Nat} {As : Option Addr} {ns cs : Nat} {Ah : Option Addr} {nh ch : Nat} {Af : Option Addr} {nf cf : Nat} :
    Hid (MapB (((((w.setCell ⟨x, 0, none⟩ (.slice Aq nq cq)).setCell ⟨x, 1, none⟩ (.slice Aa na ca)).setCell ⟨x, 2, none⟩ (.slice As ns cs)).setCell ⟨x, 3, none⟩ (.slice Ah nh ch)).setCell ⟨x, 4, none⟩ (.slice Af nf cf)) B n f) := by
  have h1 := hx.set 0 (.slice Aq nq cq)
  have h2 := h1.set 1 (.slice Aa na ca)
  have h3 := h2.set 2 (.slice As ns cs)
  have h4 := h3.set 3 (.slice Ah nh ch)
  exact Lib.hid (((((h.out.set hx _).set h1 _).set h2 _).set h3 _).set h4 _)
end
theorem heard_bits {b : Bx} (h : b.okB = true) {g : Nat} (hg : g < b.heard.length) (hf : b.f g = true) : 1 ≤ b.h g := by
  have hk := (okB_parts h).2.2.1 g hg
  have hr := (h_range h hg).1
  unfold Bx.gateB at hk
  split at hk
  · rw [hf] at hk; cases hk
  · omega
end Go.Proofs.Ytmbifmmkccghfaa
