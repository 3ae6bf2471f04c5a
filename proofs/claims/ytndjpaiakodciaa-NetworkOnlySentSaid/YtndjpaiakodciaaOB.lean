/-
  What cutting and mending do to the list of links that are cut: plain lemmas. No condition.
-/
import Derived.Test.YtndjpaiakodciaaNY
namespace Go.Proofs.Ytndjpaiakodciaa
open Go.RowKit

theorem apartB_of {l : List (Int × Int)} (h1 : ∀ x ∈ l, linkB x.1 x.2 = true) (h2 : l.Pairwise fun a b => cmpP a b < 0) : apartB l = true := by
  refine List.all_eq_true.2 fun i hi => ?_
  have hi := List.mem_range.1 hi
  have e : ∀ j (hj : j < l.length), l.getD j (0, 0) = l[j] := fun j hj => by rw [List.getD_eq_getElem?_getD, List.getElem?_eq_getElem hj]; rfl
  rw [okAt, e i hi, Bool.and_eq_true]
  refine ⟨h1 _ (List.getElem_mem hi), ?_⟩
  rcases Nat.eq_zero_or_pos i with rfl | h0
  · rfl
  · rw [e (i - 1) (by omega), Bool.or_eq_true]
    exact .inr (decide_eq_true (List.pairwise_iff_getElem.1 h2 (i - 1) i (by omega) hi (by omega)))
theorem links_ok : ∀ x ∈ allLinks, linkB x.1 x.2 = true := List.all_eq_true.1 (by decide +kernel : (allLinks.all fun x => linkB x.1 x.2) = true)
theorem links_sorted : allLinks.Pairwise fun a b => cmpP a b < 0 := by decide +kernel
theorem links_nodup : allLinks.Nodup := by decide +kernel
theorem apart_filter (f : Int × Int → Bool) : apartB (allLinks.filter f) = true := apartB_of (fun x hx => links_ok x (List.mem_filter.1 hx).1) (links_sorted.filter _)
theorem cut_ok {n : Net} (h : n.okB = true) (f : Int × Int → Bool) : (Net.mk n.queue (allLinks.filter f)).okB = true := okB_mk (okB_parts h).1 (okB_parts h).2.1 (apart_filter f)
theorem links_all : (List.range 24).all (fun a => (List.range 24).all fun b => decide (a < b → ((a : Int), (b : Int)) ∈ allLinks)) = true := by decide +kernel
theorem mem_links {a b : Int} (h : linkB a b = true) : (a, b) ∈ allLinks := by
  obtain ⟨h1, h2, h3⟩ := link_ok h
  obtain ⟨x, rfl⟩ := Int.eq_ofNat_of_zero_le h1
  obtain ⟨y, rfl⟩ := Int.eq_ofNat_of_zero_le (show 0 ≤ b by omega)
  have := List.all_eq_true.1 (List.all_eq_true.1 links_all x (List.mem_range.2 (by omega))) y (List.mem_range.2 (by omega))
  exact of_decide_eq_true this (by omega)
theorem cut_at {n : Net} (h : n.okB = true) {a b : Int} (hl : linkB (min a b) (max a b) = true) (on : Bool) : cutT n a b on = (⟨n.queue, allLinks.filter (keptB n.apart a b on)⟩, 0) := by
  rw [cutT, if_pos h, if_pos hl]
theorem keptB_comm (l : List (Int × Int)) (a b : Int) (on : Bool) : keptB l b a on = keptB l a b on := by
  funext x
  rw [keptB, keptB, Int.min_comm, Int.max_comm]
theorem kept_twice (l : List (Int × Int)) (a b : Int) (on on2 : Bool) : allLinks.filter (keptB (allLinks.filter (keptB l a b on)) a b on2) = allLinks.filter (keptB l a b on2) := by
  refine List.filter_congr fun x hx => ?_
  unfold keptB
  by_cases h : x = (min a b, max a b)
  · rw [if_pos h, if_pos h]
  · rw [if_neg h, if_neg h]
    refine decide_eq_decide.2 ?_
    rw [List.mem_filter]
    constructor
    · rintro ⟨_, h2⟩
      simpa only [if_neg h, decide_eq_true_eq] using h2
    · intro h2
      exact ⟨hx, by simpa only [if_neg h, decide_eq_true_eq] using h2⟩
theorem filter_one {α : Type} [DecidableEq α] (c : α) (f g : α → Bool) (hf : f c = true) (hg : g c = false) (h : ∀ x, x ≠ c → f x = g x) : ∀ l : List α, l.Nodup → c ∈ l → (l.filter f).length = (l.filter g).length + 1
  | [], _, hc => by cases hc
  | x :: l, hn, hc => by
    have hn := List.nodup_cons.1 hn
    by_cases hx : x = c
    · subst hx
      rw [List.filter_cons_of_pos hf, List.filter_cons_of_neg (by rw [hg]; decide), List.length_cons]
      rw [List.filter_congr (fun y hy => h y (fun e => hn.1 (e ▸ hy)))]
    · have ih := filter_one c f g hf hg h l hn.2 (by rcases List.mem_cons.1 hc with e | e; exact absurd e.symm hx; exact e)
      by_cases hfx : f x = true
      · rw [List.filter_cons_of_pos hfx, List.filter_cons_of_pos (by rw [← h x hx]; exact hfx), List.length_cons, List.length_cons, ih]
      · rw [List.filter_cons_of_neg hfx, List.filter_cons_of_neg (by rw [← h x hx]; exact hfx), ih]
theorem cut_len (l : List (Int × Int)) {a b : Int} (hl : linkB (min a b) (max a b) = true) : (allLinks.filter (keptB l a b true)).length = (allLinks.filter (keptB l a b false)).length + 1 := by
  refine filter_one (min a b, max a b) _ _ ?_ ?_ ?_ _ links_nodup (mem_links hl)
  · rw [keptB, if_pos rfl]
  · rw [keptB, if_pos rfl]
  · intro x hx; rw [keptB, keptB, if_neg hx, if_neg hx]
theorem link_of_ok {p : Pk} (h : p.okB = true) : linkB (min p.src p.dst) (max p.src p.dst) = true := by
  rw [Pk.okB, Bool.and_eq_true] at h
  exact h.1
theorem cutB_kept (l : List (Int × Int)) (a b : Int) (on : Bool) {s d : Int} (h : linkB (min s d) (max s d) = true) : cutB (allLinks.filter (keptB l a b on)) s d = keptB l a b on (min s d, max s d) := by
  rw [cutB_has, hasB_mem, Bool.eq_iff_iff, decide_eq_true_eq, List.mem_filter]
  exact ⟨fun h => h.2, fun h2 => ⟨mem_links h, h2⟩⟩
/-- What the two deliveries hand out. -/
theorem cut_deliver (l : List (Int × Int)) {a b : Int} (hl : linkB (min a b) (max a b) = true) (y : Pk) (hy : y.okB = true) (p q : Pk)
    (hp : (if cutB (allLinks.filter (keptB l a b true)) y.src y.dst = true then Pk.zero else y) = p) (hq : (if cutB (allLinks.filter (keptB l a b false)) y.src y.dst = true then Pk.zero else y) = q) :
    ((((q.src == a) && (q.dst == b)) || ((q.src == b) && (q.dst == a))) = true ∧ p = Pk.zero) ∨ ((((q.src == a) && (q.dst == b)) || ((q.src == b) && (q.dst == a))) = false ∧ p = q) := by
  have hly := link_of_ok hy
  rw [cutB_kept l a b true hly] at hp
  rw [cutB_kept l a b false hly] at hq
  obtain ⟨e1, e2, e3⟩ := link_ok hly
  obtain ⟨g1, g2, g3⟩ := link_ok hl
  by_cases hc : (min y.src y.dst, max y.src y.dst) = (min a b, max a b)
  · rw [keptB, if_pos hc, if_pos rfl] at hp
    rw [keptB, if_pos hc, if_neg (by decide)] at hq
    left
    refine ⟨?_, hp.symm⟩
    subst hq
    simp only [Prod.mk.injEq] at hc
    simp only [Bool.or_eq_true, Bool.and_eq_true, beq_iff_eq]
    omega
  · rw [keptB, if_neg hc] at hp hq
    right
    have e : p = q := hp.symm.trans hq
    refine ⟨?_, e⟩
    rw [Bool.eq_false_iff]
    simp only [ne_eq, Bool.or_eq_true, Bool.and_eq_true, beq_iff_eq]
    simp only [Prod.mk.injEq] at hc
    intro h
    split at hq
    · subst hq
      simp only [Pk.zero] at h
      omega
    · subst hq
      omega

end Go.Proofs.Ytndjpaiakodciaa
