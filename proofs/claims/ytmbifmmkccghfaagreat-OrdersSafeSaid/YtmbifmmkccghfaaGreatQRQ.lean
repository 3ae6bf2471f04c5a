/- Lose and Repeat of orders. (Printed by gen_rq.py and pp.py.) No condition. -/
import Derived.Test.YtmbifmmkccghfaaGreatQRK
import Derived.Test.YtmbifmmkccghfaaGreatQNP
import Derived.Test.YtmbifmmkccghfaaGreatQNK
import Derived.Test.YtmbifmmkccghfaaGreatQBM
set_option linter.unusedVariables false
set_option linter.unusedSimpArgs false
namespace Go.Proofs.YtmbifmmkccghfaaGreat
open Go.RowKit Go.Shelf
attribute [local go_sem] Oper.semAt_some
theorem Sl.setSB {w : World} {B size n : Nat} {g : Nat → Nat → Value} {v : Value} (h : Sl w B size n g v) (hs : 0 < size) (hi : ∀ i, i < n → ∃ z, g i 0 = .bool z) {x : Nat} (hx : SlBox w x) (j : Nat) (u : Value) : Sl (w.setCell ⟨x, j, none⟩ u) B size n g v := by
  obtain ⟨A, c, hv, hm, h1⟩ := h
  obtain ⟨xs, hx, hxs⟩ := hx
  refine ⟨A, c, hv, hm, fun i hin => ?_⟩
  obtain ⟨b, off, ha, hb, h3⟩ := h1 i hin
  have hne : b ≠ x := by
    rintro rfl
    have h4 := h3 0 hs
    rw [hx.cell] at h4
    obtain ⟨z, e⟩ := hi i hin
    rw [e] at h4
    obtain ⟨A', k', c', e'⟩ := hxs _ (List.mem_of_getElem? h4)
    cases e'
  exact ⟨b, off, ha, hb, fun q hq => by rw [World.cell?_of_block (w := w) (Below.heap_setCell w ⟨x, j, none⟩ u b hne)]; exact h3 q hq⟩
theorem BxAt.setS {w : World} {B : Nat} {Vq Va Vs Vh Vf : Value} {b : Bx} (h : BxAt w B Vq Va Vs Vh Vf b) {x : Nat} (hx : SlBox w x) (j : Nat) (u : Value) : BxAt (w.setCell ⟨x, j, none⟩ u) B Vq Va Vs Vh Vf b :=
  ⟨h.net.setS hx j u, ⟨h.sent.1, Sl.setS h.sent.2 (by decide) (fun i _ => ⟨_, _, rfl⟩) hx j u⟩, ⟨h.heard.1, Sl.setS h.heard.2 (by decide) (fun i _ => ⟨_, _, rfl⟩) hx j u⟩, ⟨h.fresh.1, Sl.setSB h.fresh.2 (by decide) (fun i _ => ⟨_, rfl⟩) hx j u⟩⟩
theorem BxAt.set5 {w : World} {B : Nat} {Vq Va Vs Vh Vf : Value} {b : Bx} (h : BxAt w B Vq Va Vs Vh Vf b) {x : Nat} (hx : SlBox w x) (A0 A1 A2 A3 A4 : Option Addr) (n0 c0 n1 c1 n2 c2 n3 c3 n4 c4 : Nat) :
    BxAt (((((w.setCell ⟨x, 0, none⟩ (.slice A0 n0 c0)).setCell ⟨x, 1, none⟩ (.slice A1 n1 c1)).setCell ⟨x, 2, none⟩ (.slice A2 n2 c2)).setCell ⟨x, 3, none⟩ (.slice A3 n3 c3)).setCell ⟨x, 4, none⟩ (.slice A4 n4 c4)) B Vq Va Vs Vh Vf b := by
  have x1 := hx.set 0 A0 n0 c0
  have x2 := x1.set 1 A1 n1 c1
  have x3 := x2.set 2 A2 n2 c2
  exact ((((h.setS hx 0 _).setS x1 1 _).setS x2 2 _).setS x3 3 _).setS (x3.set 3 _ _ _) 4 _
theorem BxAt.forms5 {w : World} {B : Nat} {Vq Va Vs Vh Vf : Value} {b : Bx} (h : BxAt w B Vq Va Vs Vh Vf b) : ∃ Aq nq cq Aa na ca As ns cs Ah n ch Af nf cf, Vq = .slice Aq nq cq ∧ Va = .slice Aa na ca ∧ Vs = .slice As ns cs ∧ Vh = .slice Ah n ch ∧ Vf = .slice Af nf cf := by
  obtain ⟨Aq, cq, Aa, ca, As, cs, Ah, ch, Af, cf, h1, h2, h3, h4, h5, _⟩ := h.forms
  exact ⟨_, _, _, _, _, _, _, _, _, _, _, _, _, _, _, h1, h2, h3, h4, h5⟩
end Go.Proofs.YtmbifmmkccghfaaGreat
namespace Go.Proofs.YtmbifmmkccghfaaGreat
open Go.RowKit Go.Shelf
attribute [local go_sem] Oper.semAt_some
attribute [local go_sem ↓ high] app_named cop_named
theorem copy_row1 {α : Type} (enc : α → Value) (h1 : ∀ x, (enc x).oneCell' = true) {t e : TypeId} (ht : Tryz.prog.underlying t = some (.slice e)) (hs : (Tryz.prog.info? e).map (·.size) = some 1) (ty : TypeId) {w : World} {g n c : Nat} {A : Option Addr} {l : List α} {d : α} {xs : List Value} (hl : l.length = n)
    (hx : Sl w w.heap.size 1 n (fun i _ => enc (l.getD i d)) (.slice A n c)) (X : Box w g xs) (hxs : xs.length = n) :
    ∃ w', (copF #[t, t] ty #[.slice (some ⟨g, 0, none⟩) n n, .slice A n c]).run Tryz.prog w = .ok (.int .i64 (n : Int)) w' ∧ Box w' g (l.map enc) ∧ (∀ b ys, b ≠ g → Box w b ys → Box w' b ys) ∧ Below g w w' := by
  have hmin : Nat.min n n = n := Nat.min_self n
  unfold copF
  rcases Nat.eq_zero_or_pos n with h0 | h0
  · subst h0
    obtain rfl : l = [] := List.eq_nil_of_length_eq_zero hl
    obtain rfl : xs = [] := List.eq_nil_of_length_eq_zero hxs
    exact ⟨w, run_copy_noneS w _ _ ty e _ _ _ _ _ _ ht (by rw [hs]; rfl) hmin, X, fun _ _ _ h => h, Below.refl _ _⟩
  · obtain ⟨ab, ao, rfl, _, _⟩ := hx.one h0
    obtain ⟨tt, ht2⟩ := X
    have hr := run_copy_rowS w t t ty e g n n ⟨ab, ao, none⟩ n c 1 _ tt (l.map enc) hmin ht hs ht2 (by simp [hl]) (fun j v hv => by
      have hj : j < l.length := by have := (List.getElem?_eq_some_iff.1 hv).1; simpa using this
      obtain ⟨b', o', e', _, hc⟩ := hx.one (k := j) (by omega)
      cases e'
      rw [add_at, hc]
      rw [List.getElem?_map, List.getElem?_eq_getElem hj] at hv
      rw [gd_at hj]
      exact hv) (by simp [hl, hxs]) (fun v hv => by
      obtain ⟨x, _, rfl⟩ := List.mem_map.1 hv
      exact h1 x)
    refine ⟨_, hr, ⟨tt, ?_⟩, fun b ys hb ⟨t2, h2⟩ => ⟨t2, (setRow_other w g b _ hb).trans h2⟩, ⟨rfl, rfl, rfl, by simp [World.setRow], fun b hb => setRow_other w g b _ (by omega)⟩⟩
    rw [World.setRow, Array.getElem?_modify, if_pos rfl, ht2]
    simp [hl, hxs]
end Go.Proofs.YtmbifmmkccghfaaGreat
namespace Go.Proofs.YtmbifmmkccghfaaGreat
open Go.RowKit
theorem net_delivered {n : Net} {i : Int} {p : Pk} {m : Net} (h : Go.Proofs.YtmbifmmkccghfaaGreat.deliverT n i = (p, m, 0)) : p = Pk.zero ∨ p ∈ n.queue := by
  unfold Go.Proofs.YtmbifmmkccghfaaGreat.deliverT at h
  split at h
  · simp only [Prod.mk.injEq] at h
    obtain ⟨h1, -, -⟩ := h
    split at h1
    · exact .inl h1.symm
    · subst h1
      unfold Net.pk
      rw [List.getD_eq_getElem?_getD]
      rcases hq : n.queue[i.toNat]? with _ | x
      · exact .inl rfl
      · exact .inr (List.mem_of_getElem? hq)
  · next h0 =>
    simp only [Prod.mk.injEq] at h
    exact absurd h.2.2 h0
theorem pk_facts {b : Bx} {p : Pk} (hs : b.sentB = true) (h : b.pkB p = true) (hl : p.data.length ≤ maxLen) (h4 : b.sent.length ≤ 4096) :
    p.data.length ≤ 32 ∧ ∃ g : Nat, p.dst = (g : Int) + 1 ∧ g < b.heard.length ∧ p.src = 0 ∧ 0 ≤ numberT p.data ∧ numberT p.data < (b.sent.length : Int) ∧ ∃ o, readT p.data = some (numberT p.data, o) := by
  unfold Bx.pkB at h
  rcases hr : readT p.data with _ | ⟨n, o⟩
  · rw [hr] at h
    cases h
  rw [hr] at h
  obtain ⟨h1, h2, h3, h5, h6⟩ := of_decide_eq_true h
  have hnum := number_read hr h1
  obtain ⟨g1, g2, g3⟩ := read_inv hl hr
  obtain ⟨⟨k1, k2⟩, _, _⟩ := sent_at hs h1 h2
  refine ⟨by rw [g1]; exact msg_len g2 g3, (b.at n).1.toNat, by omega, by omega, h3, by omega, by omega, o, by rw [hnum]⟩
theorem deliver_bad {b : Bx} {i c : Int} (h : b.checkT = c) (h0 : c ≠ 0) : b.deliverT i = (Bx.zero, false, c) := by
  unfold Bx.checkT at h
  unfold Bx.deliverT
  by_cases hk : b.okB = true
  · rw [if_pos hk] at h
    exact absurd h.symm h0
  · rw [if_neg hk] at h ⊢
    rw [h]
theorem deliver_net {b : Bx} {i er : Int} {p : Pk} {m : Net} (h : b.okB = true) (hr : Go.Proofs.YtmbifmmkccghfaaGreat.deliverT b.net i = (p, m, er)) : b.deliverT i = if er = 0 then ((b.hear p m).1, (b.hear p m).2, 0) else (Bx.zero, false, er) := by rw [Bx.deliverT, if_pos h, hr]
theorem deliver_ok {b : Bx} {i : Int} {p : Pk} {m : Net} (h : b.okB = true) (hr : Go.Proofs.YtmbifmmkccghfaaGreat.deliverT b.net i = (p, m, 0)) (hl : p.data.length ≤ maxLen) :
    p.data.length ≤ 32 ∧ ((p.dst = 0 ∧ p.src = 0 ∧ p.data = []) ∨ ∃ g : Nat, p.dst = (g : Int) + 1 ∧ g < b.heard.length ∧ p.src = 0 ∧ 0 ≤ numberT p.data ∧ numberT p.data < (b.sent.length : Int) ∧ ∃ o, readT p.data = some (numberT p.data, o)) := by
  obtain ⟨hl1, hs, -, -, hq⟩ := okB_parts h
  have h4 := (of_decide_eq_true hl1).2.2
  rcases net_delivered hr with rfl | hm
  · exact ⟨Nat.zero_le _, .inl ⟨rfl, rfl, rfl⟩⟩
  · obtain ⟨e1, e2⟩ := pk_facts hs (hq p hm) hl h4
    exact ⟨e1, .inr e2⟩
theorem hear_none {b : Bx} {p : Pk} {m : Net} (h : ¬ (0 < p.dst ∧ b.h (p.dst - 1).toNat ≤ numberT p.data)) : b.hear p m = (⟨m, b.sent, b.heard, b.fresh⟩, false) := if_neg h
theorem hear_some {b : Bx} {p : Pk} {m : Net} {g : Nat} (hd : p.dst = (g : Int) + 1) (h : b.h g ≤ numberT p.data) : b.hear p m = (⟨m, b.sent, b.heard.set g (numberT p.data + 1), b.fresh.set g true⟩, true) := by
  have e : (p.dst - 1).toNat = g := by omega
  rw [Bx.hear, e, if_pos ⟨by omega, h⟩]
theorem hear_noO {b : Bx} {p : Pk} {m : Net} {g : Nat} (hd : p.dst = (g : Int) + 1) (h : ¬ b.h g ≤ numberT p.data) : b.hear p m = (⟨m, b.sent, b.heard, b.fresh⟩, false) := by
  have e : (p.dst - 1).toNat = g := by omega
  exact hear_none (fun k => h (by rw [e] at k; exact k.2))
def RetDlv (T : Bx × Bool × Int) (w : World) (e : Ending) (w' : World) : Prop := ∃ Vq Va Vs Vh Vf, e = .returned (.tuple #[.agg #[Vq, Va, Vs, Vh, Vf], .bool T.2.1, .int .i64 T.2.2]) ∧ BxAt w' w'.heap.size Vq Va Vs Vh Vf T.1 ∧ Below w.heap.size w w'
end Go.Proofs.YtmbifmmkccghfaaGreat
namespace Go.Proofs.YtmbifmmkccghfaaGreat
open Go.RowKit
theorem okB_partsN {n : Net} (h : n.okB = true) : n.queue.length ≤ 4096 ∧ n.queue.all Pk.okB = true ∧ apartB n.apart = true := by
  rw [Net.okB_eq, Bool.and_eq_true, Bool.and_eq_true, decide_eq_true_eq] at h
  exact h
theorem okB_mk {q : List Pk} {l : List (Int × Int)} (h1 : q.length ≤ 4096) (h2 : q.all Pk.okB = true) (h3 : apartB l = true) : (Net.mk q l).okB = true := by
  rw [Net.okB_eq, Bool.and_eq_true, Bool.and_eq_true, decide_eq_true_eq]
  exact ⟨h1, h2, h3⟩
theorem without_ok {n : Net} (h : n.okB = true) (k : Nat) : (n.without k).okB = true := by
  obtain ⟨h1, h2, h3⟩ := okB_partsN h
  refine okB_mk ?_ ?_ h3
  · simp only [List.length_append, List.length_take, List.length_drop]; omega
  · rw [List.all_append, Bool.and_eq_true]
    exact ⟨List.all_eq_true.2 fun x hx => List.all_eq_true.1 h2 x (List.mem_of_mem_take hx), List.all_eq_true.2 fun x hx => List.all_eq_true.1 h2 x (List.mem_of_mem_drop hx)⟩
theorem sent_ok {n : Net} {p : Pk} (h : n.okB = true) (hp : p.okB = true) (hl : n.queue.length < 4096) : (Net.mk (n.queue ++ [p]) n.apart).okB = true := by
  obtain ⟨h1, h2, h3⟩ := okB_partsN h
  refine okB_mk ?_ ?_ h3
  · simp; omega
  · rw [List.all_append, h2]; simp [hp]
theorem apartB_of {l : List (Int × Int)} (h1 : ∀ x ∈ l, linkB x.1 x.2 = true) (h2 : l.Pairwise fun a b => cmpP a b < 0) : apartB l = true := by
  refine List.all_eq_true.2 fun i hi => ?_
  have hi := List.mem_range.1 hi
  have e : ∀ j (hj : j < l.length), l.getD j (0, 0) = l[j] := fun j hj => by rw [List.getD_eq_getElem?_getD, List.getElem?_eq_getElem hj]; rfl
  rw [okAt, e i hi, Bool.and_eq_true]
  refine ⟨h1 _ (List.getElem_mem hi), ?_⟩
  rcases Nat.eq_zero_or_pos i with rfl | h0
  · rfl
  · rw [e (i - 1) (by omega), Bool.or_eq_true]
    exact .inr (decide_eq_true (List.pairwise_iff_getElem.1 h2 (i - 1) i (by omega) hi (by omega)))
theorem links_ok : ∀ x ∈ allLinks, linkB x.1 x.2 = true := List.all_eq_true.1 (by decide +kernel : (allLinks.all fun x => linkB x.1 x.2) = true)
theorem links_sorted : allLinks.Pairwise fun a b => cmpP a b < 0 := by decide +kernel
theorem apart_filter (f : Int × Int → Bool) : apartB (allLinks.filter f) = true := apartB_of (fun x hx => links_ok x (List.mem_filter.1 hx).1) (links_sorted.filter _)
end Go.Proofs.YtmbifmmkccghfaaGreat
namespace Go.Proofs.YtmbifmmkccghfaaGreat
open Go.RowKit
structure Om where
  kd : Int
  gt : Int
  od : Int
  at0 : Int
  fd : Int
def Om.ok (m : Om) : Prop := (0 ≤ m.kd ∧ m.kd ≤ 255) ∧ (0 ≤ m.gt ∧ m.gt ≤ 255) ∧ (0 ≤ m.od ∧ m.od ≤ 255) ∧ (0 ≤ m.at0 ∧ m.at0 ≤ 255) ∧ (0 ≤ m.fd ∧ m.fd ≤ 255)
def Bx.pos (b : Bx) (a : Int) : Int := if b.net.queue.length = 0 then 0 else a % (b.net.queue.length : Int)
def keepT (b : Bx) (r : Bx × Int) : Bx × Int := if r.2 = 0 then (r.1, 0) else (b, 0)
def Bx.cutT (b : Bx) (g : Int) (on : Bool) : Bx × Int := (⟨(Go.Proofs.YtmbifmmkccghfaaGreat.cutT b.net 0 g on).1, b.sent, b.heard, b.fresh⟩, (Go.Proofs.YtmbifmmkccghfaaGreat.cutT b.net 0 g on).2)
def heardTo (b : Bx) (i : Int) (r : Bx × Bool × Int) : Bx × Int := if r.2.2 = 0 then (r.1, if r.2.1 = true then (b.net.pk i).dst else 0) else (b, 0)
def Bx.linkT (b : Bx) (m : Om) : Bx × Int :=
  if m.kd % 6 = 0 then keepT b (b.sendT (m.gt % (b.heard.length : Int)) (m.od % 8))
  else if m.kd % 6 = 1 then heardTo b (b.pos m.at0) (b.deliverT (b.pos m.at0))
  else if m.kd % 6 = 2 then keepT b (b.loseT (b.pos m.at0))
  else if m.kd % 6 = 3 then keepT b (b.repeatT (b.pos m.at0))
  else if m.kd % 6 = 4 then keepT b (b.cutT (1 + m.gt % (b.heard.length : Int)) (decide (m.od % 2 = 0)))
  else (b, 0)
theorem okB_of {b : Bx} (h1 : b.listsB = true) (h2 : b.sentB = true) (h3 : ∀ g, g < b.heard.length → b.gateB g = true) (h4 : b.net.okB = true) (h5 : ∀ p ∈ b.net.queue, b.pkB p = true) : b.okB = true := by
  simp only [Bx.okB, Bx.validB, Bool.and_eq_true]
  exact ⟨⟨h1, h2, List.all_eq_true.2 fun g hg => h3 g (List.mem_range.1 hg)⟩, h4, List.all_eq_true.2 h5⟩
structure Kept (b x : Bx) (hd : Int) (s : List (Int × Int)) : Prop where
  ok : x.okB = true
  len : x.heard.length = b.heard.length
  sent : x.sent = b.sent ++ s
  fresh : ∀ g : Nat, g < b.heard.length → x.f g = (b.f g || decide (hd = (g : Int) + 1))
  up : ∀ g : Nat, g < b.heard.length → b.h g ≤ x.h g
  new : ∀ g : Nat, g < b.heard.length → b.h g < x.h g → hd = (g : Int) + 1
  hd : 0 ≤ hd ∧ hd ≤ (b.heard.length : Int)
theorem Kept.refl {b : Bx} (h : b.okB = true) : Kept b b 0 [] :=
  ⟨h, rfl, by simp, fun g _ => by have : ¬ (0 : Int) = (g : Int) + 1 := by omega
                                  simp [this], fun _ _ => Int.le_refl _, fun _ _ h => absurd h (Int.lt_irrefl _), ⟨Int.le_refl _, by omega⟩⟩
theorem Kept.links {b : Bx} {n : Net} (h : b.okB = true) (hn : n.okB = true) (hq : ∀ p ∈ n.queue, p ∈ b.net.queue) : Kept b ⟨n, b.sent, b.heard, b.fresh⟩ 0 [] := by
  obtain ⟨h1, h2, h3, -, h5⟩ := okB_parts h
  refine ⟨okB_of h1 h2 h3 hn (fun p hp => h5 p (hq p hp)), rfl, by simp, fun g _ => ?_, fun _ _ => Int.le_refl _, fun _ _ h => absurd h (Int.lt_irrefl _), ⟨Int.le_refl _, by omega⟩⟩
  have : ¬ (0 : Int) = (g : Int) + 1 := by omega
  simp only [this, decide_false, Bool.or_false]
  rfl
theorem keepT_kept {b : Bx} {r : Bx × Int} {s : List (Int × Int)} (h : b.okB = true) (hr : r.2 = 0 → Kept b r.1 0 s) : ∃ s', Kept b (keepT b r).1 (keepT b r).2 s' ∧ (s' = [] ∨ s' = s) := by
  unfold keepT
  split
  · next h0 => exact ⟨s, hr h0, .inr rfl⟩
  · exact ⟨[], Kept.refl h, .inl rfl⟩
theorem doT_kept {b : Bx} {r : Net × Int} (h : b.okB = true) (hr : r.2 = 0 → r.1.okB = true ∧ ∀ p ∈ r.1.queue, p ∈ b.net.queue) : (b.doT r).2 = 0 → Kept b (b.doT r).1 0 [] := by
  unfold Bx.doT
  rw [if_pos h]
  split
  · next h0 => exact fun _ => Kept.links h (hr h0).1 (hr h0).2
  · next h0 => exact fun h1 => absurd h1 h0
theorem ask_in {n : Net} {i : Int} (h : askTN n i = 0) : n.okB = true ∧ 0 ≤ i ∧ i < (n.queue.length : Int) := by
  unfold askTN at h
  split at h
  · next h1 =>
    split at h
    · next h2 => exact ⟨h1, h2.1, h2.2⟩
    · cases h
  · cases h
theorem pk_mem {n : Net} {i : Int} (h0 : 0 ≤ i) (h1 : i < (n.queue.length : Int)) : n.pk i ∈ n.queue := by
  have hk : i.toNat < n.queue.length := by omega
  rw [Net.pk, List.getD_eq_getElem?_getD, List.getElem?_eq_getElem hk]
  exact List.getElem_mem hk
theorem without_mem {n : Net} {k : Nat} {p : Pk} (h : p ∈ (n.without k).queue) : p ∈ n.queue := by
  rcases List.mem_append.1 h with h | h
  · exact List.mem_of_mem_take h
  · exact List.mem_of_mem_drop h
theorem lose_kept {b : Bx} (h : b.okB = true) (i : Int) : (b.loseT i).2 = 0 → Kept b (b.loseT i).1 0 [] := by
  refine doT_kept h fun h0 => ?_
  unfold Go.Proofs.YtmbifmmkccghfaaGreat.loseT at h0 ⊢
  split at h0
  · next h1 =>
    rw [if_pos h1]
    exact ⟨without_ok (ask_in h1).1 _, fun p hp => without_mem hp⟩
  · next h1 => exact absurd h0 h1
theorem repeat_kept {b : Bx} (h : b.okB = true) (i : Int) : (b.repeatT i).2 = 0 → Kept b (b.repeatT i).1 0 [] := by
  refine doT_kept h fun h0 => ?_
  unfold Go.Proofs.YtmbifmmkccghfaaGreat.repeatT at h0 ⊢
  split at h0
  · next h1 =>
    obtain ⟨k0, k1, k2⟩ := ask_in h1
    rw [if_pos h1]
    unfold Go.Proofs.YtmbifmmkccghfaaGreat.sendT at h0 ⊢
    split at h0
    · next h2 =>
      rw [if_pos h2]
      split at h0
      · cases h0
      · next h3 =>
        rw [if_neg h3]
        have h4 := (okB_partsN k0).1
        refine ⟨sent_ok k0 h2.2 (by omega), fun p hp => ?_⟩
        rcases List.mem_append.1 hp with hp | hp
        · exact hp
        · rw [List.mem_singleton.1 hp]; exact pk_mem k1 k2
    · cases h0
  · next h1 => exact absurd h0 h1
theorem cut_kept {b : Bx} (h : b.okB = true) (g : Int) (on : Bool) : (b.cutT g on).2 = 0 → Kept b (b.cutT g on).1 0 [] := by
  intro h0
  have hn := (okB_parts h).2.2.2.1
  unfold Bx.cutT at h0 ⊢
  unfold Go.Proofs.YtmbifmmkccghfaaGreat.cutT at h0 ⊢
  rw [if_pos hn] at h0 ⊢
  by_cases hl : linkB (min 0 g) (max 0 g) = true
  · rw [if_pos hl]
    obtain ⟨k1, k2, -⟩ := okB_partsN hn
    exact Kept.links h (okB_mk k1 k2 (apart_filter _)) (fun p hp => hp)
  · rw [if_neg hl] at h0
    cases h0
theorem at_append {b : Bx} {n : Net} {s : List (Int × Int)} {hd : List Int} {fr : List Bool} {k : Int} (h0 : 0 ≤ k) (h1 : k < (b.sent.length : Int)) : (Bx.mk n (b.sent ++ s) hd fr).at k = b.at k := by
  have hk : k.toNat < b.sent.length := by omega
  show (b.sent ++ s).getD k.toNat (0, 0) = b.sent.getD k.toNat (0, 0)
  rw [List.getD_eq_getElem?_getD, List.getD_eq_getElem?_getD, List.getElem?_append_left hk]
theorem pkB_iff {b : Bx} {p : Pk} : b.pkB p = true ↔ ∃ n o, readT p.data = some (n, o) ∧ 0 ≤ n ∧ n < (b.sent.length : Int) ∧ p.src = 0 ∧ p.dst = (b.at n).1 + 1 ∧ o = (b.at n).2 := by
  unfold Bx.pkB
  rcases readT p.data with _ | ⟨n, o⟩
  · exact ⟨fun h => (by cases h), fun ⟨_, _, h, _⟩ => (by cases h)⟩
  · constructor
    · intro h
      exact ⟨n, o, rfl, of_decide_eq_true h⟩
    · rintro ⟨n', o', h, h1⟩
      cases h
      exact decide_eq_true h1
theorem send_kept {b : Bx} (h : b.okB = true) (g o : Int) : (b.sendT g o).2 = 0 → Kept b (b.sendT g o).1 0 [(g, o)] := by
  intro h0
  obtain ⟨h1, h2, h3, h4, h5⟩ := okB_parts h
  obtain ⟨l1, l2, l3⟩ := of_decide_eq_true h1
  unfold Bx.sendT at h0 ⊢
  rw [if_pos h] at h0 ⊢
  split at h0
  · next hg =>
    rw [if_pos hg]
    split at h0
    · cases h0
    · next hl =>
      rw [if_neg hl]
      split at h0
      · next hs =>
        rw [if_pos hs]
        unfold Go.Proofs.YtmbifmmkccghfaaGreat.sendT at hs ⊢
        split at hs
        · next hp =>
          rw [if_pos hp]
          split at hs
          · cases hs
          · next hq =>
            rw [if_neg hq]
            dsimp only
            have h6 := (okB_partsN h4).1
            have hread : readT (msgB (b.sent.length : Int) o) = some ((b.sent.length : Int), o) := read_msg ⟨by omega, by omega⟩ ⟨by omega, by omega⟩
            refine ⟨okB_of ?_ ?_ ?_ (sent_ok h4 hp.2 (by omega)) ?_, rfl, rfl, fun k _ => ?_, fun _ _ => Int.le_refl _, fun _ _ h => absurd h (Int.lt_irrefl _), ⟨Int.le_refl _, by omega⟩⟩
            · refine decide_eq_true ⟨l1, l2, ?_⟩
              simp only [List.length_append, List.length_singleton]
              omega
            · show (b.sent ++ [(g, o)]).all _ = true
              rw [List.all_append, Bool.and_eq_true]
              refine ⟨h2, ?_⟩
              simp only [List.all_cons, List.all_nil, Bool.and_true]
              exact decide_eq_true hg
            · intro k hk
              have hk' := h3 k hk
              unfold Bx.gateB at hk' ⊢
              show (if b.h k = 0 then !b.f k else _) = true
              split at hk'
              · next hz => rw [if_pos hz]; exact hk'
              · next hz =>
                obtain ⟨z1, z2, z3⟩ := of_decide_eq_true hk'
                rw [if_neg hz]
                refine decide_eq_true ⟨z1, ?_, ?_⟩
                · show b.h k ≤ ((b.sent ++ [(g, o)]).length : Int)
                  simp only [List.length_append, List.length_singleton]
                  omega
                · show ((Bx.mk _ (b.sent ++ [(g, o)]) _ _).at (b.h k - 1)).1 = _
                  rw [at_append (by omega) (by omega)]
                  exact z3
            · intro p hp'
              rcases List.mem_append.1 hp' with hp' | hp'
              · obtain ⟨n, o', r1, r2, r3, r4, r5, r6⟩ := pkB_iff.1 (h5 p hp')
                refine pkB_iff.2 ⟨n, o', r1, r2, ?_, r4, ?_, ?_⟩
                · show n < ((b.sent ++ [(g, o)]).length : Int)
                  simp only [List.length_append, List.length_singleton]
                  omega
                · rw [at_append r2 r3]; exact r5
                · rw [at_append r2 r3]; exact r6
              · rw [List.mem_singleton.1 hp']
                have e : (Bx.mk ⟨b.net.queue ++ [⟨0, g + 1, msgB (b.sent.length : Int) o⟩], b.net.apart⟩ (b.sent ++ [(g, o)]) b.heard b.fresh).at (b.sent.length : Int) = (g, o) := by
                  show (b.sent ++ [(g, o)]).getD (b.sent.length : Int).toNat (0, 0) = (g, o)
                  rw [Int.toNat_natCast, List.getD_eq_getElem?_getD, List.getElem?_append_right (Nat.le_refl _), Nat.sub_self]
                  rfl
                refine pkB_iff.2 ⟨_, _, hread, by omega, ?_, rfl, ?_, ?_⟩
                · show (b.sent.length : Int) < ((b.sent ++ [(g, o)]).length : Int)
                  simp only [List.length_append, List.length_singleton]
                  omega
                · rw [e]
                · rw [e]
            · have : ¬ (0 : Int) = (k : Int) + 1 := by omega
              simp only [this, decide_false, Bool.or_false]
              rfl
        · next hp => cases hs
      · next hs => exact absurd h0 hs
  · cases h0
theorem set_atO {l : List Int} {g k : Nat} {x : Int} (hg : g < l.length) : (l.set g x).getD k 0 = if k = g then x else l.getD k 0 := by
  rw [List.getD_eq_getElem?_getD, List.getElem?_set]
  by_cases h : g = k
  · subst h; simp [hg]
  · rw [if_neg h, if_neg (fun e => h e.symm), List.getD_eq_getElem?_getD]
theorem set_atB {l : List Bool} {g k : Nat} {x : Bool} (hg : g < l.length) : (l.set g x).getD k false = if k = g then x else l.getD k false := by
  rw [List.getD_eq_getElem?_getD, List.getElem?_set]
  by_cases h : g = k
  · subst h; simp [hg]
  · rw [if_neg h, if_neg (fun e => h e.symm), List.getD_eq_getElem?_getD]
def val (ap : List (Int × Int)) (g : Nat) (p : Pk) : Int := if p.dst = (g : Int) + 1 ∧ cutB ap p.src p.dst = false then numberT p.data + 1 else 0
theorem h_range {b : Bx} (h : b.okB = true) {g : Nat} (hg : g < b.heard.length) : 0 ≤ b.h g ∧ b.h g ≤ (b.sent.length : Int) ∧ (b.h g ≠ 0 → (b.at (b.h g - 1)).1 = (g : Int)) := by
  have hk := (okB_parts h).2.2.1 g hg
  unfold Bx.gateB at hk
  split at hk
  · next hz => exact ⟨by omega, by omega, fun h => absurd hz h⟩
  · obtain ⟨z1, z2, z3⟩ := of_decide_eq_true hk
    exact ⟨z1, z2, fun _ => z3⟩
theorem deliver_cases {b : Bx} (h : b.okB = true) {i : Int} (h0 : (b.deliverT i).2.2 = 0) : 0 ≤ i ∧ i < (b.net.queue.length : Int) ∧
    ((b.deliverT i = (⟨b.net.without i.toNat, b.sent, b.heard, b.fresh⟩, false, 0) ∧ ∀ k : Nat, k < b.heard.length → val b.net.apart k (b.net.pk i) ≤ b.h k) ∨
      ∃ (g : Nat) (n o : Int), g < b.heard.length ∧ (b.net.pk i).dst = (g : Int) + 1 ∧ readT (b.net.pk i).data = some (n, o) ∧ 0 ≤ n ∧ n < (b.sent.length : Int) ∧ (b.at n).1 = (g : Int) ∧ b.h g ≤ n ∧ numberT (b.net.pk i).data = n ∧ cutB b.net.apart (b.net.pk i).src (b.net.pk i).dst = false ∧
        b.deliverT i = (⟨b.net.without i.toNat, b.sent, b.heard.set g (n + 1), b.fresh.set g true⟩, true, 0)) := by
  obtain ⟨h1, h2, h3, h4, h5⟩ := okB_parts h
  unfold Bx.deliverT at h0 ⊢
  rw [if_pos h] at h0 ⊢
  split at h0
  · next hd =>
    rw [if_pos hd]
    unfold Go.Proofs.YtmbifmmkccghfaaGreat.deliverT at hd ⊢
    split at hd
    · next ha =>
      obtain ⟨-, k1, k2⟩ := ask_in ha
      rw [if_pos ha]
      refine ⟨k1, k2, ?_⟩
      dsimp only
      split
      · next hc =>
        left
        rw [hear_none (by intro h; exact absurd h.1 (by decide))]
        refine ⟨rfl, fun k hk => ?_⟩
        rw [val, if_neg (by rw [hc]; exact fun h => by cases h.2)]
        exact (h_range h hk).1
      · next hc =>
        have hc := Bool.eq_false_iff.2 hc
        obtain ⟨n, o, r1, r2, r3, r4, r5, r6⟩ := pkB_iff.1 (h5 _ (pk_mem k1 k2))
        obtain ⟨⟨s1, s2⟩, -, -⟩ := sent_at h2 r2 r3
        have hg : (b.net.pk i).dst = ((b.at n).1.toNat : Int) + 1 := by omega
        have hn := number_read r1 r2
        by_cases hh : b.h (b.at n).1.toNat ≤ n
        · right
          refine ⟨(b.at n).1.toNat, n, o, by omega, hg, r1, r2, r3, by omega, hh, hn, hc, ?_⟩
          rw [hear_some hg (by rw [hn]; exact hh), hn]
        · left
          rw [hear_noO hg (by rw [hn]; exact hh)]
          refine ⟨rfl, fun k hk => ?_⟩
          rw [val]
          split
          · next hv =>
            obtain rfl : k = (b.at n).1.toNat := by omega
            rw [hn]
            omega
          · exact (h_range h hk).1
    · next ha => exact absurd hd ha
  · next hd => exact absurd h0 hd
theorem deliver_kept {b : Bx} (h : b.okB = true) (i : Int) : Kept b (heardTo b i (b.deliverT i)).1 (heardTo b i (b.deliverT i)).2 [] := by
  unfold heardTo
  split
  · next h0 =>
    obtain ⟨h1, h2, h3, h4, h5⟩ := okB_parts h
    obtain ⟨l1, l2, l3⟩ := of_decide_eq_true h1
    obtain ⟨k1, k2, ⟨e, -⟩ | ⟨g, n, o, hg, hd, r1, r2, r3, r4, hh, -, -, e⟩⟩ := deliver_cases h h0
    · rw [e]
      exact Kept.links h (without_ok h4 _) (fun p hp => without_mem hp)
    · rw [e]
      dsimp only
      rw [if_pos rfl, hd]
      have hgf : g < b.fresh.length := by omega
      refine ⟨okB_of ?_ (by unfold Bx.sentB at h2 ⊢; dsimp only; rw [List.length_set]; exact h2) ?_ (without_ok h4 _) (fun p hp => h5 p (without_mem hp)), ?_, by simp, fun k hk => ?_, fun k hk => ?_, fun k hk => ?_, ⟨by omega, by omega⟩⟩
      · refine decide_eq_true ⟨?_, ?_, l3⟩
        · rw [List.length_set]; exact l1
        · rw [List.length_set, List.length_set]; exact l2
      · intro k hk
        rw [List.length_set] at hk
        have hk' := h3 k hk
        unfold Bx.gateB
        show (if (b.heard.set g (n + 1)).getD k 0 = 0 then !((b.fresh.set g true).getD k false) else decide (0 ≤ (b.heard.set g (n + 1)).getD k 0 ∧ (b.heard.set g (n + 1)).getD k 0 ≤ (b.sent.length : Int) ∧ (b.at ((b.heard.set g (n + 1)).getD k 0 - 1)).1 = (k : Int))) = true
        rw [set_atO hg, set_atB hgf]
        by_cases e1 : k = g
        · subst e1
          rw [if_pos rfl, if_neg (by omega)]
          refine decide_eq_true ⟨by omega, by omega, ?_⟩
          rw [show n + 1 - 1 = n by omega]
          exact r4
        · rw [if_neg e1, if_neg e1]
          exact hk'
      · exact List.length_set
      · show (b.fresh.set g true).getD k false = (b.fresh.getD k false || decide ((g : Int) + 1 = (k : Int) + 1))
        rw [set_atB hgf]
        by_cases e1 : k = g
        · subst e1; simp
        · have : ¬ (g : Int) + 1 = (k : Int) + 1 := by omega
          rw [if_neg e1, decide_eq_false this, Bool.or_false]
      · show b.h k ≤ (b.heard.set g (n + 1)).getD k 0
        rw [set_atO hg]
        split
        · next e1 => subst e1; omega
        · exact Int.le_refl _
      · show b.h k < (b.heard.set g (n + 1)).getD k 0 → _
        rw [set_atO hg]
        split
        · next e1 => subst e1; exact fun _ => rfl
        · exact fun h => absurd h (Int.lt_irrefl _)
  · exact Kept.refl h
theorem link_kept {b : Bx} (h : b.okB = true) (m : Om) : ∃ s, Kept b (b.linkT m).1 (b.linkT m).2 s ∧ (s = [] ∨ s = [(m.gt % (b.heard.length : Int), m.od % 8)]) := by
  unfold Bx.linkT
  split
  · exact keepT_kept h (send_kept h _ _)
  split
  · exact ⟨[], deliver_kept h _, .inl rfl⟩
  split
  · obtain ⟨s, h1, h2⟩ := keepT_kept h (lose_kept h (b.pos m.at0)); exact ⟨s, h1, .inl (by simpa using h2)⟩
  split
  · obtain ⟨s, h1, h2⟩ := keepT_kept h (repeat_kept h (b.pos m.at0)); exact ⟨s, h1, .inl (by simpa using h2)⟩
  split
  · obtain ⟨s, h1, h2⟩ := keepT_kept h (cut_kept h (1 + m.gt % (b.heard.length : Int)) (decide (m.od % 2 = 0))); exact ⟨s, h1, .inl (by simpa using h2)⟩
  · exact ⟨[], Kept.refl h, .inl rfl⟩
theorem new_ok {n : Nat} (h1 : 1 ≤ n) (h8 : n ≤ 8) : newB (n : Int) = (⟨Net.zero, [], List.replicate n 0, List.replicate n false⟩, 0) ∧ (⟨Net.zero, [], List.replicate n 0, List.replicate n false⟩ : Bx).okB = true := by
  constructor
  · rw [newB, if_pos ⟨by omega, by omega⟩, Int.toNat_natCast]
  · refine okB_of ?_ rfl (fun g hg => ?_) rfl (fun p hp => by cases hp)
    · exact decide_eq_true ⟨by simp; omega, by simp, Nat.zero_le _⟩
    · rw [List.length_replicate] at hg
      have e : (⟨Net.zero, [], List.replicate n 0, List.replicate n false⟩ : Bx).h g = 0 := by
        show (List.replicate n (0 : Int)).getD g 0 = 0
        rw [List.getD_eq_getElem?_getD, List.getElem?_replicate]
        split <;> rfl
      have e2 : (⟨Net.zero, [], List.replicate n 0, List.replicate n false⟩ : Bx).f g = false := by
        show (List.replicate n false).getD g false = false
        rw [List.getD_eq_getElem?_getD, List.getElem?_replicate]
        split <;> rfl
      rw [Bx.gateB, if_pos e, e2]
      rfl
theorem tick_ok {b : Bx} (h : b.okB = true) : b.tickT = (⟨b.net, b.sent, b.heard, List.replicate b.heard.length false⟩, (List.range b.heard.length).map b.orderB, 0) ∧ (⟨b.net, b.sent, b.heard, List.replicate b.heard.length false⟩ : Bx).okB = true := by
  refine ⟨by rw [Bx.tickT, if_pos h], ?_⟩
  obtain ⟨h1, h2, h3, h4, h5⟩ := okB_parts h
  obtain ⟨l1, l2, l3⟩ := of_decide_eq_true h1
  refine okB_of (decide_eq_true ⟨l1, by simp, l3⟩) h2 (fun g hg => ?_) h4 h5
  have hk := h3 g hg
  have e2 : (⟨b.net, b.sent, b.heard, List.replicate b.heard.length false⟩ : Bx).f g = false := by
    show (List.replicate b.heard.length false).getD g false = false
    rw [List.getD_eq_getElem?_getD, List.getElem?_replicate]
    split <;> rfl
  unfold Bx.gateB at hk ⊢
  rw [e2]
  show (if b.h g = 0 then !false else _) = true
  split at hk
  · next hz => rw [if_pos hz]; rfl
  · next hz => rw [if_neg hz]; exact hk
end Go.Proofs.YtmbifmmkccghfaaGreat
namespace Go.Proofs.YtmbifmmkccghfaaGreat
open Go.RowKit
structure RunAt (p : Pl) (k : List Iq) (s : St) : Prop where
  has : p.hasB s = true
  inn : inB k s = true
theorem ask_parts {p : Pl} {c : List Ln} (h : askT p c = 0) : p.checkT = 0 ∧ gateT c = 0 := by
  unfold askT at h
  split at h
  · exact ⟨by assumption, h⟩
  · rename_i h2; exact absurd h h2
theorem begin_has' {p : Pl} (h : p.checkT = 0) : p.hasB p.beginT.1 = true ∧ p.beginT.2 = 0 := by
  have hv := (Pl.check_zero h).1
  have h1 := hv.positions
  have h2 := hv.feed
  have h3 := hv.orders
  have h4 := hv.age
  have h5 := hv.start
  rw [Pl.beginT, if_pos h]
  refine ⟨?_, rfl⟩
  unfold Pl.hasB
  dsimp only
  rw [inI_in (by omega), inI_in (by omega), inI_in (by split <;> omega), inI_in (by split <;> omega), inI_in (by omega), inI_in (by omega)]
  rfl
theorem run_begin {p : Pl} {c : List Ln} {k : List Iq} (ha : askT p c = 0) (hC : Cert p c k) : RunAt p k p.beginT.1 := ⟨(begin_has' (ask_parts ha).1).1, hC.begin⟩
theorem run_next {p : Pl} {c : List Ln} {k : List Iq} {s : St} {x : Sh} (ha : askT p c = 0) (hb : barT k = 0) (hC : Cert p c k) (h : RunAt p k s) (hx : chosenB p x = true) :
    ∃ y o, nextT p c s x = (y, o, 0) ∧ RunAt p k y ∧ p.safeT y = (true, 0) ∧ holdsT k y = (true, 0) := by
  obtain ⟨p1, g1⟩ := ask_parts ha
  have hv := (Pl.check_zero p1).1
  have hs := (states_mem hv).2 h.has
  have hxs := (shocks_mem hv).2 hx
  have h1 := nextS_has ha hs hxs
  have h2 := hC.stay s hs h.inn x hxs
  have h3 := hC.safe _ ((states_mem hv).2 h1) h2
  refine ⟨(nextT p c s x).1, (nextT p c s x).2.1, ?_, ⟨h1, h2⟩, ?_, ?_⟩
  · have e : (nextT p c s x).2.2 = 0 := by rw [nextT, if_pos p1, if_pos g1, if_pos h.has, if_pos hx]
    rw [← e]
  · have e : (p.safeT (nextT p c s x).1).2 = 0 := by rw [Pl.safeT, if_pos p1, if_pos h1]
    rw [Pl.safeB] at h3
    rw [← h3, ← e]
  · rw [holdsT, if_pos hb, if_pos (has_nums hv h1), h2]
def Bx.most (b : Bx) (m : Int) : Prop := ∀ x ∈ b.sent, x.2 ≤ m
theorem Bx.most.kept {b x : Bx} {hd m : Int} {s : List (Int × Int)} (h : b.most m) (hK : Kept b x hd s) {g o : Int} (hs : s = [] ∨ s = [(g, o)]) (ho : o ≤ m) : x.most m := by
  intro y hy
  rw [hK.sent] at hy
  rcases List.mem_append.1 hy with hy | hy
  · exact h y hy
  · rcases hs with rfl | rfl
    · cases hy
    · rw [List.mem_singleton.1 hy]; exact ho
theorem tick_order {b : Bx} {m : Int} (h : b.okB = true) (hm : b.most m) (h0 : 0 ≤ m) {g : Nat} (hg : g < b.heard.length) : -1 ≤ b.orderB g ∧ b.orderB g ≤ m := by
  obtain ⟨h1, h2, h3, h4, h5⟩ := okB_parts h
  unfold Bx.orderB
  split
  · next hf =>
    have hk := h3 g hg
    unfold Bx.gateB at hk
    split at hk
    · rw [hf] at hk; cases hk
    · next hz =>
      obtain ⟨z1, z2, z3⟩ := of_decide_eq_true hk
      obtain ⟨-, ⟨z4, z5⟩⟩ := sent_at h2 (n := b.h g - 1) (by omega) (by omega)
      have hl : (b.h g - 1).toNat < b.sent.length := by omega
      refine ⟨by omega, ?_⟩
      have := hm b.sent[(b.h g - 1).toNat] (List.getElem_mem hl)
      rw [Bx.at, gd_at hl]
      exact this
  · omega
theorem chosen_of {p : Pl} {f o : Int} (h1 : 0 ≤ f ∧ f ≤ p.feed) (h2 : -1 ≤ o ∧ o ≤ p.orders) : chosenB p ⟨f, o⟩ = true := by
  rw [chosenB, inI_in h1, inI_in h2]
  rfl
theorem tick_at {b : Bx} {g : Nat} (hg : g < b.heard.length) : ((List.range b.heard.length).map b.orderB).getD g 0 = b.orderB g := by
  rw [List.getD_eq_getElem?_getD, List.getElem?_map, List.getElem?_range hg]
  rfl
theorem Bx.most.same {b x : Bx} {hd m : Int} (h : b.most m) (hK : Kept b x hd []) : x.most m := by
  intro y hy
  rw [hK.sent, List.append_nil] at hy
  exact h y hy
theorem keepT_same {b : Bx} {r : Bx × Int} (h : b.okB = true) (hr : r.2 = 0 → Kept b r.1 0 []) : Kept b (keepT b r).1 (keepT b r).2 [] := by
  obtain ⟨s, h1, h2⟩ := keepT_kept h hr
  rcases h2 with rfl | rfl <;> exact h1
theorem link_most {b : Bx} (h : b.okB = true) (m : Om) {M : Int} (hb : b.most M) (hm : m.kd % 6 = 0 → m.od % 8 ≤ M) : (b.linkT m).1.most M := by
  unfold Bx.linkT
  split
  · next h0 =>
    obtain ⟨s, h1, h2⟩ := keepT_kept h (send_kept h (m.gt % (b.heard.length : Int)) (m.od % 8))
    exact hb.kept h1 h2 (hm h0)
  split
  · exact hb.same (deliver_kept h _)
  split
  · exact hb.same (keepT_same h (lose_kept h _))
  split
  · exact hb.same (keepT_same h (repeat_kept h _))
  split
  · exact hb.same (keepT_same h (cut_kept h _ _))
  · exact hb
end Go.Proofs.YtmbifmmkccghfaaGreat
