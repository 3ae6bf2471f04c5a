/-
  What the law CodecLists wants. (Printed by gen_gi.py.)
-/
import Derived.Test.YtcokkloaljaanaaGE
namespace Go.Proofs.Ytcokkloaljaanaa
open Go.RowKit

/-- The number zero, as a value. -/
def nul : Val := .mk 1 0 [] []
/-- Appending one value; where the new slice lies. -/
theorem app_val2 {w : World} {B d bb W0 : Nat} {v : Value} {l : List Val} {x : Val} {L : Value} (ho : OwnVals w B d v l) (hX : Box w bb [.int .i64 x.kind, .int .i64 x.num, .string (strB x.str), L]) (hL : ValsP w (fun b => W0 ≤ b) d L x.elems) (hW : B ≤ W0) (hrow : ∀ k, v.ownBlock = some k → k < W0) (hbase : B ≤ w.heap.size) (hl : l.length ≤ 100000000) :
    ∃ v' w', (appF #[22, 22] 22 #[v, .slice (some ⟨bb, 0, none⟩) 1 1]).run Try.prog w = .ok v' w' ∧ OwnVals w' B d v' (l ++ [x]) ∧ w.grownBy w' v.ownBlock ∧ Lies w v v' := by
  obtain ⟨v1, w1, hr1, ho1, hg1⟩ := app_val ho hX hL hW hrow hbase hl
  obtain ⟨i, E⟩ := elem_val
  obtain ⟨U, h1, h2⟩ := ho
  obtain ⟨v', w', hr, ho2, hg, _, hlies⟩ := run_append_own_at (P := Try.prog) w B 22 22 24 i _ 4 56 E.ht E.hi E.hz E.hsize E.hby E.hzs E.hsz v l.length _ h1 ⟨bb, 0, none⟩ 1 1 [.int .i64 x.kind, .int .i64 x.num, .string (strB x.str), L] rfl
    (fun j u hu => by
      rw [add_at, Nat.zero_add, hX.cell j]
      exact hu)
    (fun u hu => by
      simp only [List.mem_cons, List.not_mem_nil, or_false] at hu
      rcases hu with rfl | rfl | rfl | rfl
      · rfl
      · rfl
      · rfl
      · rcases hL.slf with h | ⟨a, n, c, h, _⟩
        · rw [h]; rfl
        · rw [h]; rfl) (by simp only [maxLen]; omega) (by omega) hbase
  have e := hr1.symm.trans hr
  injection e with e1 e2
  subst e1 e2
  refine ⟨_, _, hr1, ho1, hg1, ?_⟩
  rcases hlies with h | h
  · exact .inl h
  · exact .inr ⟨_, h, Nat.le_refl _⟩
theorem ownBs_nil (w : World) (B : Nat) : OwnBs w B (.slice none 0 0) [] := ⟨rfl, .inl ⟨rfl, rfl⟩⟩
theorem hp_later {w w' : World} {B : Nat} {v : Value} {l : Bs} (h : Hid (OwnBs w B v l)) (hb : Below w.heap.size w w') : Hid (OwnBs w' B v l) := Lib.hid (h.out.below hb)
theorem hz_later {w w' : World} {B d : Nat} {v : Value} {l : List Val} (h : Hid (OwnVals w B d v l)) (hb : Below w.heap.size w w') : Hid (OwnVals w' B d v l) := Lib.hid (h.out.below hb)
theorem row_keep {w w' : World} {B n s : Nat} {t : TypeId} {v : Value} {xs : List Value} {r : Option Nat} (h : w.ownsRow B t s v n xs) (hg : w.grownBy w' r) (hne : ∀ g, v.ownBlock = some g → r ≠ some g) : w'.ownsRow B t s v n xs := by
  obtain ⟨hl, h1⟩ := h
  refine ⟨hl, ?_⟩
  rcases h1 with h1 | ⟨g, cap, cur, hv, hbg, hgg, hrr⟩
  · exact .inl h1
  · exact .inr ⟨g, cap, cur, hv, hbg, (hg.block g (Array.getElem?_eq_some_iff.1 hgg).1 (fun e => hne g (by rw [hv]; rfl) e.symm)).trans hgg, hrr⟩
theorem valsP_zero {w w' : World} {S S' : Nat → Prop} {L : Value} {l : List Val} (h : ValsP w S 0 L l) : ValsP w' S' 0 L l := by
  obtain ⟨h1, h2, A, c, h3, h4, _⟩ := h
  exact ⟨h1, h2, A, c, h3, h4, fun i hi => by omega⟩
theorem OwnVals.keep0 {w w' : World} {B : Nat} {v : Value} {l : List Val} {r : Option Nat} (h : OwnVals w B 0 v l) (hg : w.grownBy w' r) (hne : ∀ g, v.ownBlock = some g → r ≠ some g) : OwnVals w' B 0 v l := by
  obtain ⟨U, h1, h2⟩ := h
  exact ⟨U, row_keep h1 hg hne, fun i x hx => valsP_zero (h2 i x hx)⟩
/-- The two rows are not one. -/
def Apart (P Z : Value) : Prop := ∀ g, P.ownBlock = some g → Z.ownBlock ≠ some g
theorem Apart.first {P Z P' : Value} {w : World} (h : Apart P Z) (hl : Lies w P P') (hz : ∀ g, Z.ownBlock = some g → g < w.heap.size) : Apart P' Z := by
  intro g hg e
  have := hz g e
  rcases hl with hl | ⟨k, hl, hk⟩
  · exact h g (hl.symm.trans hg) e
  · rw [hl] at hg; injection hg with hg; omega
theorem Apart.second {P Z Z' : Value} {w : World} (h : Apart P Z) (hl : Lies w Z Z') (hp : ∀ g, P.ownBlock = some g → g < w.heap.size) : Apart P Z' := by
  intro g hg e
  have := hp g hg
  rcases hl with hl | ⟨k, hl, hk⟩
  · exact h g hg (hl.symm.trans e)
  · rw [hl] at e; injection e with e; omega
theorem Apart.ne {P Z : Value} (h : Apart P Z) : ∀ g, Z.ownBlock = some g → P.ownBlock ≠ some g := fun g hz hp => h g hp hz
theorem okL_mem {l : List Val} (h : okL l = true) {x : Val} (hx : x ∈ l) : x.okB = true := by
  rw [okL_all] at h
  exact List.all_eq_true.1 h x hx
theorem depthL_mem {l : List Val} {m : Nat} (h : ∀ x ∈ l, x.depth ≤ m) : depthL l ≤ m := depthL_le h
theorem list_ok (l : List Val) : (Val.mk 3 0 [] l).okB = okL l := by simp [Val.okB]
theorem list_depth (l : List Val) : (Val.mk 3 0 [] l).depth = depthL l + 1 := by simp [Val.depth]
theorem list_bad {l : List Val} {x : Val} (hx : x ∈ l) (h : chkT x ≠ 0) : chkT (.mk 3 0 [] l) ≠ 0 := fun e => by
  obtain ⟨h1, h2⟩ := chk_zero e
  rw [list_ok] at h1
  rw [list_depth] at h2
  have := depth_mem hx
  exact h (chk_ok (okL_mem h1 hx) (by omega))
theorem list_limit {l : List Val} (h : ∀ x ∈ l, chkT x = 0) : chkT (.mk 3 0 [] l) = 0 ∨ chkT (.mk 3 0 [] l) = 2 := by
  have hok : okL l = true := by
    rw [okL_all]
    exact List.all_eq_true.2 fun x hx => (chk_zero (h x hx)).1
  rw [← list_ok] at hok
  by_cases hd : 16 < (Val.mk 3 0 [] l).depth
  · exact .inr (chk_deep hok hd)
  · exact .inl (chk_ok hok hd)
theorem zeros_ok (n : Nat) : okL (List.replicate n nul) = true := by
  rw [okL_all]
  exact List.all_eq_true.2 fun x hx => by rw [(List.mem_replicate.1 hx).2]; rfl
theorem zeros_chk (n : Nat) : chkT (.mk 3 0 [] (List.replicate n nul)) = 0 := by
  have h : depthL (List.replicate n nul) ≤ 0 := depthL_le fun x hx => by rw [(List.mem_replicate.1 hx).2]; simp [nul, Val.depth]
  refine chk_ok (by rw [list_ok]; exact zeros_ok n) ?_
  rw [list_depth]
  omega
theorem zeros_fits {n : Nat} (hn : n ≤ 20) : (Val.mk 3 0 [] (List.replicate n nul)).fits := by
  refine ⟨by decide, ⟨Nat.zero_le _, by rw [List.length_replicate]; unfold maxLen; omega⟩, fitsL_of fun x hx => ?_⟩
  rw [(List.mem_replicate.1 hx).2]
  exact ⟨by decide, ⟨Nat.zero_le _, Nat.zero_le _⟩, trivial⟩
theorem zeros_encL (n : Nat) : (encL (List.replicate n nul)).length = 2 * n := by
  induction n with
  | zero => rfl
  | succ n ih =>
    rw [List.replicate_succ, encL, List.length_append, ih]
    have : nul.enc.length = 2 := by rw [nul, enc_1, numT_small (by decide)]; rfl
    omega
theorem list_len (l : List Val) : (Val.mk 3 0 [] l).enc.length = 1 + (numT l.length).length + (encL l).length := by
  rw [enc_3]
  simp only [List.length_append, List.length_singleton]
theorem list_fits {l : List Val} (h : fitsL l) (hn : l.length ≤ 20) : (Val.mk 3 0 [] l).fits := ⟨by decide, ⟨Nat.zero_le _, Nat.le_trans hn (by decide)⟩, h⟩
theorem BsAt.drop {w : World} {S : Nat → Prop} {b off n c : Nat} {l : Bs} (h : BsAt w S (.slice (some ⟨b, off, none⟩) n c) l) {a : Nat} (ha : a ≤ l.length) (hc : ¬ c = a) : BsAt w S (.slice (some ⟨b, off + a, none⟩) (l.length - a) (c - a)) (l.drop a) := by
  obtain ⟨hf, A', c', hv, hn, h1⟩ := h
  have e1 : n = l.length := by injection hv
  have e2 : A' = some ⟨b, off, none⟩ := by injection hv with h _ _; exact h.symm
  have e3 : c' = c := by injection hv with _ _ h; exact h.symm
  subst e2 e3
  have hcc : l.length ≤ c' ∧ c' ≤ maxLen := by
    rcases hf with h2 | ⟨a', n', c'', h2, h3, h4⟩
    · cases h2
    · injection h2 with h5 h6 h7
      omega
  refine ⟨.inr ⟨_, _, _, rfl, by omega, by omega⟩, _, _, by rw [List.length_drop], by rw [List.length_drop]; omega, fun i hi => ?_⟩
  rw [List.length_drop] at hi
  obtain ⟨b', off', e, hS, hb, h3⟩ := h1 (a + i) (by omega)
  injection e with e
  injection e with eb eo _
  subst eb eo
  refine ⟨_, _, rfl, hS, hb, fun j hj => ?_⟩
  rw [show off + a + (i * 1 + j) = off + ((a + i) * 1 + j) by omega, h3 j hj]
  simp [List.getD_eq_getElem?_getD, List.getElem?_drop]
theorem BsAt.drop0 {w : World} {S : Nat → Prop} {b off n : Nat} {l : Bs} (h : BsAt w S (.slice (some ⟨b, off, none⟩) n n) l) : BsAt w S (.slice (some ⟨b, off, none⟩) 0 0) [] := by
  obtain ⟨_, A', c', hv, hn, h1⟩ := h
  exact ⟨.inr ⟨_, _, _, rfl, Nat.le_refl _, Nat.zero_le _⟩, _, _, rfl, Nat.zero_le _, fun i hi => by simp at hi⟩
theorem list_drop (l : List Val) : (Val.mk 3 0 [] l).enc.drop (1 + (numT l.length).length) = encL l := by
  rw [enc_3]
  exact List.drop_left' (by simp only [List.length_append, List.length_singleton])

end Go.Proofs.Ytcokkloaljaanaa
