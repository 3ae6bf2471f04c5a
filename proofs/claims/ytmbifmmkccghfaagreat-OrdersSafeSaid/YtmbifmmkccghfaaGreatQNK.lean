/- Contracts of Lose and Repeat of both packages. (Printed by gen_nk.py.) -/
import Derived.Test.YtmbifmmkccghfaaGreatQNB
import Derived.Deep.RegionWith
import Derived.Test.YtmbifmmkccghfaaGreatQK
import Derived.ChangeKeysEq
import Derived.RangeFuncNested
import Derived.RangeFuncBound
import Derived.RangeFuncCalls
import Derived.RangeFuncLeaves
import Derived.RangeFuncBox
import Derived.Shelf.Abstract
import Derived.Shelf.RegionOpen
import Derived.OwnWalkIn
import Derived.TacticsInMore
import Derived.LoopNIn
import Derived.LoopIn
import Derived.Maps.AppendAt
import Derived.Test.YtmbifmmkccghfaaGreatQGA
import Derived.Deep.Cut
import Derived.Sort.CutIn
set_option linter.unusedVariables false
set_option linter.unusedSimpArgs false
set_option maxRecDepth 100000
set_option maxHeartbeats 4000000
namespace Go.Proofs.YtmbifmmkccghfaaGreat
open Go.RowKit
theorem Net2.form {w : World} {D base : Nat} {Vq Va : Value} {n : Net} (h : Net2 w D base Vq Va n) : ∃ Aq nq cq Aa na ca, Vq = .slice Aq nq cq ∧ Va = .slice Aa na ca := by
  obtain ⟨A, c, rfl⟩ := h.queue.form
  obtain ⟨_, A', c', rfl, _⟩ := h.apart
  exact ⟨_, _, _, _, _, _, rfl, rfl⟩
def RetNs (t : Net) (D : Nat) (w : World) (e : Ending) (w' : World) : Prop := ∃ (Aq : Option Addr) (nq cq : Nat) (Aa : Option Addr) (na ca : Nat), e = .returned (.agg #[.slice Aq nq cq, .slice Aa na ca]) ∧ Hid (Net2 w' D w.heap.size (.slice Aq nq cq) (.slice Aa na ca) t) ∧ Below w.heap.size w w'
theorem RetN1.sl {t : Net} {D : Nat} {w w' : World} {e : Ending} (h : RetN1 t D w e w') : RetNs t D w e w' := by
  obtain ⟨Vq, Va, rfl, h2, hb⟩ := h
  obtain ⟨Aq, nq, cq, Aa, na, ca, rfl, rfl⟩ := h2.out.form
  exact ⟨_, _, _, _, _, _, rfl, h2, hb⟩
def RetNe (t : Net × Int) (D : Nat) (w : World) (e : Ending) (w' : World) : Prop := ∃ (Aq : Option Addr) (nq cq : Nat) (Aa : Option Addr) (na ca : Nat) (m : Net) (er : Int), e = .returned (.tuple #[.agg #[.slice Aq nq cq, .slice Aa na ca], .int .i64 er]) ∧ Hid (t = (m, er)) ∧ Hid (Net2 w' D w.heap.size (.slice Aq nq cq) (.slice Aa na ca) m) ∧ Below w.heap.size w w'
theorem RetNet.sl {t : Net × Int} {D : Nat} {w w' : World} {e : Ending} (h : RetNet t D w e w') : RetNe t D w e w' := by
  obtain ⟨Vq, Va, m, er, rfl, ht, h2, hb⟩ := h
  obtain ⟨Aq, nq, cq, Aa, na, ca, rfl, rfl⟩ := h2.out.form
  exact ⟨_, _, _, _, _, _, _, _, rfl, ht, h2, hb⟩
theorem nAt_err {n : Net} {Vq Va : Value} {i c : Int} {w : World} {D : Nat} (h : Hid (askTN n i = c)) (hDw : D ≤ w.heap.size) (hN : NetAt w D Vq Va n) : Calls Tryz.prog 65 #[.agg #[Vq, Va], .int .i64 i] w fun e w' => ∃ (a b : Int) (A : Option Addr) (k m : Nat), e = .returned (.tuple #[.agg #[.int .i64 a, .int .i64 b, .slice A k m], .int .i64 c]) ∧ Below w.heap.size w w' := by
  refine (nAt_any n Vq Va i w D hDw hN).mono fun _ _ ⟨V, p, er, he, ht, hV, hb⟩ => ?_
  obtain ⟨A, m, rfl, _⟩ := hV.out.form
  refine ⟨p.src, p.dst, A, p.data.length, m, ?_, hb⟩
  rw [he]
  have : er = c := by
    have h1 := ht.out
    have h2 := h.out
    rw [atT] at h1
    by_cases h0 : askTN n i = 0
    · rw [if_pos h0] at h1; injection h1; omega
    · rw [if_neg h0] at h1; injection h1; omega
  rw [this]
theorem nAt_ok {n : Net} {Vq Va : Value} {i : Int} {w : World} {D : Nat} (h : Hid (askTN n i = 0)) (hDw : D ≤ w.heap.size) (hN : NetAt w D Vq Va n) : Calls Tryz.prog 65 #[.agg #[Vq, Va], .int .i64 i] w fun e w' => ∃ (A : Option Addr) (k m : Nat), e = .returned (.tuple #[.agg #[.int .i64 (n.pk i).src, .int .i64 (n.pk i).dst, .slice A k m], .int .i64 0]) ∧ Hid (BytesAt w' D (.slice A k m) (n.pk i).data) ∧ Below w.heap.size w w' := by
  refine (nAt_any n Vq Va i w D hDw hN).mono fun _ _ ⟨V, p, er, he, ht, hV, hb⟩ => ?_
  have h1 := ht.out
  rw [atT, if_pos h.out] at h1
  injection h1 with h2 h3
  subst h2 h3
  obtain ⟨A, m, rfl, _⟩ := hV.out.form
  exact ⟨A, (n.pk i).data.length, m, he, hV, hb⟩
theorem ask_ways (n : Net) (i : Int) : (∃ c : Int, askTN n i = c ∧ (c != 0) = true) ∨ ∃ k : Nat, i = (k : Int) ∧ k < n.queue.length ∧ n.queue.length ≤ 4096 ∧ askTN n i = 0 := by
  rcases h : n.okB with _ | _
  · exact .inl ⟨60, by rw [askTN, h]; rfl, rfl⟩
  · by_cases hi : 0 ≤ i ∧ i < (n.queue.length : Int)
    · obtain ⟨k, rfl⟩ := Int.eq_ofNat_of_zero_le hi.1
      refine .inr ⟨k, rfl, by omega, ?_, by rw [askTN, h, if_pos rfl, if_pos hi]⟩
      have := h
      simp only [Net.okB_eq, Bool.and_eq_true, decide_eq_true_eq] at this
      exact this.1
    · exact .inl ⟨1, by rw [askTN, h, if_pos rfl, if_neg hi], rfl⟩
end Go.Proofs.YtmbifmmkccghfaaGreat
namespace Go.Proofs.YtmbifmmkccghfaaGreat
open Go.RowKit
theorem info_intN : (Tryz.prog.info? 3).map (fun i => i.size) = some 1 := by kernel_rfl
theorem eq_pair (d : Nat) (a b c e : Int) (w : World) : (Op.equalIn (d + 2) 31 (.agg #[.int .i64 a, .int .i64 b]) (.agg #[.int .i64 c, .int .i64 e])).run Tryz.prog w = .ok (decide (a = c) && decide (b = e)) w := by
  have hin := info_intN
  cases hi : Tryz.prog.info? 3 with
  | none => rw [hi] at hin; cases hin
  | some i =>
    rw [run_equalIn_array w (d + 1) _ _ Tryz.underlying31 hi]
    have hc : Tryz.prog.cellsOf 3 = 1 := by kernel_rfl
    have hr : List.range 2 = [0, 1] := rfl
    rw [hc, hr]
    simp [Op.eqItems, part, go_sem]
    by_cases h1 : a = c <;> by_cases h2 : b = e <;> simp [h1, h2]
attribute [go_sem] eq_pair
theorem eq_link (d : Nat) (a b c e : Int) (w : World) : (Op.equalIn (d + 2) 131 (.agg #[.int .i64 a, .int .i64 b]) (.agg #[.int .i64 c, .int .i64 e])).run Tryz.prog w = .ok (decide (a = c) && decide (b = e)) w := by
  have hin := info_intN
  cases hi : Tryz.prog.info? 3 with
  | none => rw [hi] at hin; cases hin
  | some i =>
    rw [run_equalIn_array w (d + 1) _ _ Tryz.underlying131 hi]
    have hc : Tryz.prog.cellsOf 3 = 1 := by kernel_rfl
    have hr : List.range 2 = [0, 1] := rfl
    rw [hc, hr]
    simp [Op.eqItems, part, go_sem]
    by_cases h1 : a = c <;> by_cases h2 : b = e <;> simp [h1, h2]
attribute [go_sem] eq_link
def hasB (l : List (Int × Int)) (a b : Int) : Bool := l.any fun x => decide (a = x.1) && decide (b = x.2)
theorem cutB_has (l : List (Int × Int)) (a b : Int) : cutB l a b = hasB l (min a b) (max a b) := by
  simp only [cutB, hasB, eq_comm]
theorem hasTake (l : List (Int × Int)) (a b : Int) {k : Nat} (hk : k < l.length) : hasB (l.take (k + 1)) a b = (hasB (l.take k) a b || (decide (a = (l.getD k (0, 0)).1) && decide (b = (l.getD k (0, 0)).2))) := by
  unfold hasB
  rw [List.take_succ_eq_append_getElem hk, List.any_append]
  simp [List.getD_eq_getElem?_getD, List.getElem?_eq_getElem hk]
theorem hasGood {l : List (Int × Int)} {a b : Int} {k : Nat} (hk : k < l.length) (h : (decide (a = (l.getD k (0, 0)).1) && decide (b = (l.getD k (0, 0)).2)) = true) : hasB l a b = true := by
  unfold hasB
  rw [List.any_eq_true]
  exact ⟨l[k], List.getElem_mem hk, by simpa [List.getD_eq_getElem?_getD, List.getElem?_eq_getElem hk] using h⟩
theorem nIndexLk_any (l : List (Int × Int)) (x y : Int) (v : Value) (w : World) (D : Nat) (hDw : D ≤ w.heap.size) (hL : LksAt w D v l) :
    Calls Tryz.prog 80 #[v, pairV x y] w (IxRes (hasB l x y) w) := by
  obtain ⟨A, c, rfl, hm⟩ := hL.form
  unfold maxLen at hm
  obtain ⟨n, hnn⟩ : ∃ n, l.length = n := ⟨_, rfl⟩
  rw [hnn] at hm hL ⊢
  have HN := Lib.hid hnn
  have HL := Lib.hid hL
  clear hnn hL
  have hX := Box.new w [.int .i64 x, .int .i64 y] 31
  have hB0 := (Below.refl w.heap.size w).alloc (Nat.le_refl _) (.cells #[.int .i64 x, .int .i64 y] 31)
  go_enter Tryz.func80, Tryz.ntmps80
  go_wp2_with fail
  generalize w.alloc (.cells #[.int .i64 x, .int .i64 y] 31) = W at hX hB0 ⊢
  go_loopw [8] (fun i wr => ∃ j : Nat, j ≤ n ∧ i = .int .i64 j ∧ Below w.heap.size w wr ∧ Box wr w.heap.size [.int .i64 x, .int .i64 y] ∧ Hid (hasB (l.take j) x y = false)) (fun i _ => n - (intOf i).toNat)
  case atStart => exact ⟨0, by omega, rfl, hB0, hX, rfl⟩
  case round =>
    obtain ⟨j, hj, rfl, hb, hY, hno⟩ := hrel
    obtain ⟨x0, x1⟩ := hY.c2
    have xz := hY.lt
    by_cases hlt : j < n
    · have hjl : j < l.length := by rw [HN.out]; exact hlt
      obtain ⟨b, off, rfl, hbw, hall⟩ := HL.out.lk (by omega)
      have hbv := Nat.lt_of_lt_of_le hbw hDw
      obtain ⟨q0, q1⟩ := hall j hjl
      have q0 := (hb.cell hbv).trans q0
      have q1 := (hb.cell hbv).trans q1
      have htk := hasTake l x y hjl
      have hgd := hasGood (a := x) (b := y) hjl
      obtain ⟨⟨z1, z2⟩, hz⟩ : ∃ z, l.getD j (0, 0) = z := ⟨_, rfl⟩
      rw [hz] at q0 q1 htk hgd
      dsimp only at q0 q1 htk hgd
      clear hall hz
      rw [hno.out, Bool.false_or] at htk
      have HT := Lib.hid htk
      have HG := Lib.hid hgd
      clear htk hgd
      have hbz : b < wr.heap.size := Nat.lt_of_lt_of_le hbv hb.size
      go_wp2_with fail
      go_region
      obtain ⟨t, ht⟩ : ∃ t, (decide (x = z1) && decide (y = z2)) = t := ⟨_, rfl⟩
      rw [ht] at HT HG
      rw [ht]
      have HF := hb.drew
      have hY := hY.drew
      clear ht
      rcases t with _ | _
      · go_wp2
        exact ⟨⟨j + 1, by omega, by go_num, HF, hY, HT⟩, by simp [intOf]; omega⟩
      · have hG := Lib.hid (HG.out rfl)
        go_wp2
        go_ret
        exact ⟨_, rfl, .inl ⟨hG.out, by omega⟩, HF⟩
    · obtain rfl : j = n := by omega
      have hF : Hid (hasB l x y = false) := by
        have := hno.out
        rw [← HN.out, List.take_length] at this
        exact this
      go_wp2
      go_ret
      exact ⟨_, rfl, .inr ⟨hF.out, by omega⟩, hb⟩
theorem nContainsLk_any (l : List (Int × Int)) (x y : Int) (v : Value) (w : World) (D : Nat) (hDw : D ≤ w.heap.size) (hL : LksAt w D v l) :
    Calls Tryz.prog 66 #[v, pairV x y] w fun e w' => e = .returned (.bool (hasB l x y)) ∧ Below w.heap.size w w' := by
  obtain ⟨A, c, rfl, hm⟩ := hL.form
  obtain ⟨n, hnn⟩ : ∃ n, l.length = n := ⟨_, rfl⟩
  obtain ⟨t, ht⟩ : ∃ t, hasB l x y = t := ⟨_, rfl⟩
  have hB0 := (Below.refl w.heap.size w).alloc (Nat.le_refl _) (.cells #[.int .i64 x, .int .i64 y] 31)
  have hI := nIndexLk_any l x y _ _ D (Nat.le_trans hDw hB0.size) (hL.below (hB0.mono hDw))
  rw [hnn] at hI ⊢
  rw [ht] at hI ⊢
  have HI := Lib.hid hI
  clear hI ht hL
  go_enter Tryz.func66, Tryz.ntmps66
  go_wp2_with fail
  refine HI.out.mono ?_
  rintro e w1 ⟨z, rfl, hz, hb1⟩
  have hb1 := hB0.trans (hb1.mono hB0.size)
  rcases hz.out with ⟨rfl, h0⟩ | ⟨rfl, h0⟩
  · have _hd : decide (0 ≤ z) = true := decide_eq_true h0
    go_wp2
    go_ret
    exact ⟨rfl, hb1⟩
  · have _hd : decide (0 ≤ z) = false := decide_eq_false (by omega)
    go_wp2
    go_ret
    exact ⟨rfl, hb1⟩
end Go.Proofs.YtmbifmmkccghfaaGreat
namespace Go.Proofs.YtmbifmmkccghfaaGreat
open Go.RowKit
end Go.Proofs.YtmbifmmkccghfaaGreat
namespace Go.Proofs.YtmbifmmkccghfaaGreat
open Go.RowKit
def RetDel (t : Pk × Net × Int) (D : Nat) (w : World) (e : Ending) (w' : World) : Prop := ∃ (V : Value) (p : Pk) (Vq Va : Value) (m : Net) (er : Int), e = .returned (.tuple #[p.v V, .agg #[Vq, Va], .int .i64 er]) ∧ Hid (t = (p, m, er)) ∧ Hid (BytesAt w' D V p.data) ∧ Hid (Net2 w' D w.heap.size Vq Va m) ∧ Below w.heap.size w w'
theorem nAt_bad {n : Net} {Vq Va : Value} {i c : Int} {w : World} {D : Nat} (h : Hid (askTN n i = c)) (hc : (c != 0) = true) (hDw : D ≤ w.heap.size) (hN : NetAt w D Vq Va n) : Calls Tryz.prog 65 #[.agg #[Vq, Va], .int .i64 i] w fun e w' => ∃ (A : Option Addr) (k : Nat), e = .returned (.tuple #[.agg #[.int .i64 0, .int .i64 0, .slice A 0 k], .int .i64 c]) ∧ Hid (BytesAt w' D (.slice A 0 k) []) ∧ Below w.heap.size w w' := by
  refine (nAt_any n Vq Va i w D hDw hN).mono fun _ _ ⟨V, p, er, he, ht, hV, hb⟩ => ?_
  have h1 := ht.out
  rw [atT, if_neg (by rw [h.out]; simpa using hc), h.out] at h1
  injection h1 with h2 h3
  subst h2 h3
  obtain ⟨A, m, rfl, _⟩ := hV.out.form
  exact ⟨A, m, he, hV, hb⟩
theorem nAt_y {n : Net} {Vq Va : Value} {i : Int} {y : Pk} {w : World} {D : Nat} (h : Hid (askTN n i = 0)) (hy : Hid (n.pk i = y)) (hDw : D ≤ w.heap.size) (hN : NetAt w D Vq Va n) : Calls Tryz.prog 65 #[.agg #[Vq, Va], .int .i64 i] w fun e w' => ∃ (A : Option Addr) (k m : Nat), e = .returned (.tuple #[.agg #[.int .i64 y.src, .int .i64 y.dst, .slice A k m], .int .i64 0]) ∧ Hid (BytesAt w' D (.slice A k m) y.data) ∧ Below w.heap.size w w' := by
  have := nAt_ok h hDw hN
  rw [hy.out] at this
  exact this
theorem nContainsLk_at {l : List (Int × Int)} {x y : Int} {t : Bool} {v : Value} {w : World} {D : Nat} (h : Hid (hasB l x y = t)) (hDw : D ≤ w.heap.size) (hL : LksAt w D v l) :
    Calls Tryz.prog 66 #[v, pairV x y] w fun e w' => e = .returned (.bool t) ∧ Below w.heap.size w w' :=
  (nContainsLk_any l x y v w D hDw hL).mono fun _ _ ⟨he, hb⟩ => ⟨by rw [he, h.out], hb⟩
end Go.Proofs.YtmbifmmkccghfaaGreat
namespace Go.Proofs.YtmbifmmkccghfaaGreat
open Go.RowKit Go.Shelf
attribute [local go_sem] Oper.semAt_some
attribute [local go_sem ↓ high] eq_link
def keptC (l : List (Int × Int)) (c1 c2 : Int) (on : Bool) (x : Int × Int) : Bool := if x.1 = c1 ∧ x.2 = c2 then on else hasB l x.1 x.2
def rowL (a : Nat) (k : Nat) : List (Int × Int) := (List.range k).map fun j => ((a : Int), ((a + 1 + j : Nat) : Int))
def linksTo (a k : Nat) : List (Int × Int) := ((List.range a).flatMap fun a => rowL a (24 - (a + 1))) ++ rowL a k
theorem allLinks_eq : allLinks = (List.range 24).flatMap fun a => rowL a (24 - (a + 1)) := rfl
theorem linksTo_succ (a k : Nat) : linksTo a (k + 1) = linksTo a k ++ [((a : Int), ((a + 1 + k : Nat) : Int))] := by
  simp [linksTo, rowL, List.range_succ]
theorem linksTo_row (a : Nat) : linksTo a (24 - (a + 1)) = linksTo (a + 1) 0 := by
  simp [linksTo, List.range_succ, rowL]
theorem linksTo_all : linksTo 24 0 = allLinks := by
  simp [linksTo, rowL, allLinks_eq]
theorem linksTo_len {a k : Nat} (ha : a ≤ 24) (hk : k ≤ 24 - (a + 1)) : (linksTo a k).length ≤ 276 := by
  have key : ∀ a, a ≤ 24 → ((List.range a).flatMap fun a => rowL a (24 - (a + 1))).length + (24 - (a + 1)) ≤ 276 := by decide
  have := key a ha
  simp only [linksTo, List.length_append, rowL, List.length_map, List.length_range] at this ⊢
  omega
theorem kept_len {a k : Nat} (f : Int × Int → Bool) (ha : a ≤ 24) (hk : k ≤ 24 - (a + 1)) : ((linksTo a k).filter f).length ≤ 276 := Nat.le_trans (List.length_filter_le _ _) (linksTo_len ha hk)
theorem kept_succ (a k : Nat) (f : Int × Int → Bool) : (linksTo a (k + 1)).filter f = (linksTo a k).filter f ++ (if f ((a : Int), ((a + 1 + k : Nat) : Int)) = true then [((a : Int), ((a + 1 + k : Nat) : Int))] else []) := by
  rw [linksTo_succ, List.filter_append]
  congr 1
  generalize ((a : Int), ((a + 1 + k : Nat) : Int)) = x
  by_cases h : f x = true
  · rw [if_pos h, List.filter_cons_of_pos h]; rfl
  · rw [if_neg h, List.filter_cons_of_neg h]; rfl
theorem grown_noneN {a w : World} (h : Below a.heap.size a w) : a.grownBy w none := ⟨h.os, h.tape, h.output, h.size, fun i hi _ => h.block i hi⟩
theorem abides_belowN {β : Type} {B : Nat} {J : β → World → Prop} (h : AbidesFrom B J) {s : β} {W W' : World} (hs : J s W) (hb : Below W.heap.size W W') : J s W' := h s W W' none hs (grown_noneN hb) (fun r e => by cases e)
structure KeepsX (R n : Nat) (W W' : World) : Prop where
  size : W.heap.size ≤ W'.heap.size
  block : ∀ b, b < n → b ≠ R → W'.heap[b]? = W.heap[b]?
theorem KeepsX.refl (R n : Nat) (W : World) : KeepsX R n W W := ⟨Nat.le_refl _, fun _ _ _ => rfl⟩
theorem KeepsX.trans {R n : Nat} {A B C : World} (h : KeepsX R n A B) (k : KeepsX R n B C) : KeepsX R n A C := ⟨Nat.le_trans h.size k.size, fun b hb hr => (k.block b hb hr).trans (h.block b hb hr)⟩
theorem KeepsX.of {R n : Nat} {A B : World} (h : Below n A B) : KeepsX R n A B := ⟨h.size, fun b hb _ => h.block b hb⟩
theorem KeepsX.then {R n : Nat} {A B C : World} (h : KeepsX R n A B) (hn : n ≤ A.heap.size) (k : Below B.heap.size B C) : KeepsX R n A C := h.trans (KeepsX.of (k.mono (Nat.le_trans hn h.size)))
theorem KeepsX.set {R n : Nat} (W : World) (i : Nat) (v : Value) : KeepsX R n W (W.setCell ⟨R, i, none⟩ v) := ⟨by simp, fun b _ hr => Below.heap_setCell W _ v b hr⟩
theorem KeepsX.putObj {R n : Nat} {w : World} (hn : n ≤ w.heap.size) (W : World) (l : Nat) (o o' : Obj) (hl : w.heap.size ≤ l) (_ : W.heap[l]? = some o) (_ : o.isCells = false) (_ : o.isWalk = false) : KeepsX R n W (W.putObj l o') :=
  ⟨by simp, fun b hb _ => World.putObj_heap_other (by omega)⟩
theorem KeepsX.box {R n : Nat} {A B : World} (h : KeepsX R n A B) {b : Nat} {xs : List Value} (hx : Box A b xs) (hb : b < n) (hr : b ≠ R) : Box B b xs := hx.same (h.block b hb hr)
theorem KeepsX.sl {R n : Nat} {A B : World} (h : KeepsX R n A B) {D size k : Nat} {g : Nat → Nat → Value} {v : Value} (hD : D ≤ R) (hn : D ≤ n) (hs : Sl A D size k g v) : Sl B D size k g v := by
  obtain ⟨A', c, hv, hm, h1⟩ := hs
  refine ⟨A', c, hv, hm, fun i hi => ?_⟩
  obtain ⟨b, off, ha, hb, h3⟩ := h1 i hi
  exact ⟨b, off, ha, hb, fun j hj => by rw [World.cell?_of_block (w := A) (h.block b (by omega) (by omega))]; exact h3 j hj⟩
theorem KeepsX.lks {R n : Nat} {A B : World} (h : KeepsX R n A B) {D : Nat} {v : Value} {l : List (Int × Int)} (hD : D ≤ R) (hn : D ≤ n) (hs : LksAt A D v l) : LksAt B D v l := ⟨hs.1, h.sl hD hn hs.2⟩
theorem cuts_stops (n N : Nat) (l : List (Int × Int)) (A : Option Addr) (kl cl : Nat) (c1 c2 : Int) (on : Bool) (Bc Bo Bl : Nat) (w : World) (D : Nat) (hDw : D ≤ w.heap.size) (hL : Hid (LksAt w D (.slice A kl cl) l))
    (hc : Box w Bc [.int .i64 c1, .int .i64 c2]) (hO : Box w Bo [.bool on]) (hl : Box w Bl [.slice A kl cl]) (R : Nat) (hDR : D ≤ R) (hcR : Bc ≠ R) (hoR : Bo ≠ R) (hlR : Bl ≠ R) (hN : 276 < N) :
    SeqStopsK Fence.wide n Tryz.prog 75 #[.pointer (some ⟨Bc, 0, none⟩), .pointer (some ⟨Bo, 0, none⟩), .pointer (some ⟨Bl, 0, none⟩)] (fun x : Int × Int => #[.agg #[.int .i64 x.1, .int .i64 x.2]]) (KeepsX R w.heap.size)
      (fun xs => xs = allLinks.filter (keptC l c1 c2 on)) (fun _ => True) N w := fun lk J Jx W hW hJ hJx hY h0 => by
  have hmf : ∀ (fn : Fn) (first cap : Array Value) (w : World), (Instr.makeFunc fn first cap).run Tryz.prog w = .ok (.func fn first cap) w := fun _ _ _ _ => rfl
  obtain ⟨f, hf⟩ : ∃ f, keptC l c1 c2 on = f := ⟨_, rfl⟩
  rw [hf]
  have HF := Lib.hid hf
  have HY := Lib.hid hY
  have HJ := Lib.hid hJ
  have HJx := Lib.hid hJx
  clear hf hY hJ hJx
  refine callsIn_of_wp Tryz.func75 rfl trivial ?_ rfl
  simp only [Tryz.ntmps75, List.size_toArray, List.length_cons, List.length_nil, Nat.reduceAdd, Nat.reduceSub, Array.replicate_succ, Array.replicate_zero, List.push_toArray, List.append_toArray, List.nil_append, List.cons_append]
  gi_wp2_with fail
  gi_loopw [8] (fun i wr => ∃ (a : Nat) (pre : List (Int × Int)), a ≤ 24 ∧ i = .int .i64 a ∧ KeepsX R w.heap.size w wr ∧ J pre wr ∧ Hid (pre = (linksTo a 0).filter f)) (fun i _ => 24 - (intOf i).toNat)
  case atStart => exact ⟨0, [], by omega, rfl, KeepsX.of hW, h0, rfl⟩
  case round =>
    obtain ⟨a, pre, ha, rfl, hb, hJ0, hpre⟩ := hrel
    obtain ⟨wo, rfl⟩ : ∃ wo : World, wo = wr := ⟨_, rfl⟩
    by_cases hlt : a < 24
    · have hd1 : decide ((a : Int) < 24) = true := by simp; omega
      gi_wp2_with fail
      clear hd1
      gi_loopw [6] (fun i wr => ∃ (b : Nat) (pre : List (Int × Int)), a + 1 ≤ b ∧ b ≤ 24 ∧ i = .int .i64 b ∧ KeepsX R w.heap.size w wr ∧ J pre wr ∧ Hid (pre = (linksTo a (b - (a + 1))).filter f)) (fun i _ => 24 - (intOf i).toNat)
      case atStart => exact ⟨a + 1, pre, by omega, by omega, by go_num, hb, hJ0, by rw [Nat.sub_self]; exact hpre⟩
      case round =>
        clear hb hJ0 hpre
        obtain ⟨b, pre, hab, hb24, rfl, hb, hJ0, hpre⟩ := hrel
        by_cases hlt2 : b < 24
        · have hks := kept_succ a (b - (a + 1)) f
          rw [show a + 1 + (b - (a + 1)) = b by omega, show b - (a + 1) + 1 = b + 1 - (a + 1) by omega] at hks
          have hKS := Lib.hid hks
          clear hks
          have hfx : f ((a : Int), (b : Int)) = if (a : Int) = c1 ∧ (b : Int) = c2 then on else hasB l a b := by rw [← HF.out]; rfl
          have hFX := Lib.hid hfx
          clear hfx
          have hb1 := hb.then (Nat.le_refl _) ((Below.refl _ wr).alloc (Nat.le_refl _) (.cells #[.int .i64 (a : Int), .int .i64 (b : Int)] 131))
          have XC := hb1.box hc hc.lt hcR
          have XO := hb1.box hO hO.lt hoR
          have XL := hb1.box hl hl.lt hlR
          have hJ1 := abides_belowN HJ.out hJ0 ((Below.refl _ wr).alloc (Nat.le_refl _) (.cells #[.int .i64 (a : Int), .int .i64 (b : Int)] 131))
          have Y := Box.new wr [.int .i64 (a : Int), .int .i64 (b : Int)] 131
          have o0 : (wr.alloc (.cells #[.int .i64 (a : Int), .int .i64 (b : Int)] 131)).cell? ⟨Bo, 0, none⟩ = some (.bool on) := XO.cell 0
          have l0 : (wr.alloc (.cells #[.int .i64 (a : Int), .int .i64 (b : Int)] 131)).cell? ⟨Bl, 0, none⟩ = some (.slice A kl cl) := XL.cell 0
          have k0 : (wr.alloc (.cells #[.int .i64 (a : Int), .int .i64 (b : Int)] 131)).cell? ⟨Bc, 0, none⟩ = some (.int .i64 c1) := XC.cell 0
          have k1 : (wr.alloc (.cells #[.int .i64 (a : Int), .int .i64 (b : Int)] 131)).cell? ⟨Bc, 1, none⟩ = some (.int .i64 c2) := XC.cell 1
          by_cases hx : (a : Int) = c1 ∧ (b : Int) = c2
          · obtain ⟨rfl, rfl⟩ := hx
            rcases on with _ | _
            · gi_wp2_with fail
              all_goals first | (exfalso; rename_i q1 q2; exact absurd q1 (by simp [undef])) | skip
              refine ⟨trivial, ?_⟩
              gi_wp2
              refine ⟨⟨b + 1, pre, by omega, by omega, by go_num, hb1, hJ1, ?_⟩, by simp [intOf]; omega⟩
              rw [Hid, hKS.out, if_neg (by rw [hFX.out]; simp), List.append_nil]
              exact hpre.out
            · gi_wp2_with fail
              all_goals first | (exfalso; rename_i q1 q2; exact absurd q1 (by simp [undef])) | skip
              refine ⟨trivial, ?_⟩
              have hlen := kept_len f (show a ≤ 24 by omega) (show b - (a + 1) ≤ 24 - (a + 1) by omega)
              obtain ⟨f0, t0, a0, c0, hy0, hR0⟩ := HY.out pre ((a : Int), (b : Int)) (wr.alloc (.cells #[.int .i64 (a : Int), .int .i64 (b : Int)] 131)) hJ1 (by rw [hpre.out]; omega)
              dsimp only at hy0
              have hpre' : Hid (pre ++ [((a : Int), (b : Int))] = (linksTo a (b + 1 - (a + 1))).filter f) := by rw [Hid, hKS.out, if_pos (by rw [hFX.out]; simp), hpre.out]
              gi_wp2_with fail
              refine ⟨(fun h => by cases h), hR0.mono ?_⟩
              rintro e W2 (⟨rfl, hJ3, hK⟩ | ⟨rfl, hx⟩)
              · gi_wp2
                exact ⟨⟨b + 1, _, by omega, by omega, by go_num, hb1.trans hK, hJ3, hpre'⟩, by simp [intOf]; omega⟩
              · gi_wp2
                refine bodyPost_ret (results_none rfl _ _ _) rfl ?_
                exact ⟨⟨_, rfl⟩, .inr ⟨_, trivial, hx⟩⟩
          · have hd : (decide ((a : Int) = c1) && decide ((b : Int) = c2)) = false := by
              rw [Bool.eq_false_iff]
              intro h
              rw [Bool.and_eq_true, decide_eq_true_eq, decide_eq_true_eq] at h
              exact hx h
            obtain ⟨t, ht⟩ : ∃ t, hasB l a b = t := ⟨_, rfl⟩
            have HT := Lib.hid ht
            have HX := Lib.hid hx
            have HL1 := Lib.hid (hb1.lks hDR hDw hL.out)
            have HD1 := Lib.hid (Nat.le_trans hDw hb1.size)
            clear ht hx
            gi_wp2_with fail
            refine ⟨trivial, (fun h => by cases h), ?_⟩
            refine (callsIn_wide.2 (nContainsLk_at HT HD1.out HL1.out)).mono ?_
            rintro e W1 ⟨rfl, hb2⟩
            have hb3 := hb1.then (Nat.le_refl _) hb2
            have hJ2 := abides_belowN HJ.out hJ1 hb2
            have Y := Y.later hb2
            clear o0 l0 k0 k1 XC XO XL hb2 hJ1
            generalize wr.heap.size = D1 at Y ⊢
            obtain ⟨y0, y1⟩ := Y.c2
            rcases t with _ | _
            · gi_wp2
              refine ⟨⟨b + 1, pre, by omega, by omega, by go_num, hb3, hJ2, ?_⟩, by simp [intOf]; omega⟩
              rw [Hid, hKS.out, if_neg (by rw [hFX.out, if_neg HX.out, HT.out]; decide), List.append_nil]
              exact hpre.out
            · skip
              have hlen := kept_len f (show a ≤ 24 by omega) (show b - (a + 1) ≤ 24 - (a + 1) by omega)
              obtain ⟨f0, t0, a0, c0, hy0, hR0⟩ := HY.out pre ((a : Int), (b : Int)) W1 hJ2 (by rw [hpre.out]; omega)
              dsimp only at hy0
              have hpre' : Hid (pre ++ [((a : Int), (b : Int))] = (linksTo a (b + 1 - (a + 1))).filter f) := by rw [Hid, hKS.out, if_pos (by rw [hFX.out]; rw [if_neg HX.out, HT.out]), hpre.out]
              gi_wp2_with fail
              refine ⟨(fun h => by cases h), hR0.mono ?_⟩
              rintro e W2 (⟨rfl, hJ3, hK⟩ | ⟨rfl, hx⟩)
              · gi_wp2
                exact ⟨⟨b + 1, _, by omega, by omega, by go_num, hb3.trans hK, hJ3, hpre'⟩, by simp [intOf]; omega⟩
              · gi_wp2
                refine bodyPost_ret (results_none rfl _ _ _) rfl ?_
                exact ⟨⟨_, rfl⟩, .inr ⟨_, trivial, hx⟩⟩
        · obtain rfl : b = 24 := by omega
          gi_wp2
          refine ⟨⟨a + 1, pre, by omega, by go_num, hb, hJ0, ?_⟩, by simp [intOf]; omega⟩
          rw [hpre.out, ← linksTo_row]
          exact Lib.hid rfl
    · obtain rfl : a = 24 := by omega
      gi_wp2
      go_end0
      exact ⟨⟨_, rfl⟩, .inl ⟨pre, by rw [hpre.out, linksTo_all], hJ0⟩⟩
end Go.Proofs.YtmbifmmkccghfaaGreat
namespace Go.Proofs.YtmbifmmkccghfaaGreat
open Go.RowKit Go.Shelf
attribute [local go_sem] Oper.semAt_some
attribute [local go_sem ↓ high] app_named
theorem box_ownN {β : Type} (b : Nat) (xs : List Value) : Own (fun (_ : β) W => Box W b xs) := by
  rintro s X Y row ⟨t, ht⟩ hg hrow
  refine ⟨t, (hg.block b (Array.getElem?_eq_some_iff.1 ht).1 (fun e => ?_)).trans ht⟩
  obtain ⟨o, ho, hc⟩ := hrow b e.symm
  rw [ht] at ho; cases ho; cases hc
theorem Box.putN {w : World} {b l : Nat} {xs : List Value} (h : Box w b xs) (hne : b ≠ l) (o : Obj) : Box (w.putObj l o) b xs := by
  obtain ⟨t, ht⟩ := h
  exact ⟨t, (World.putObj_heap_other hne).trans ht⟩
theorem below_putN {B D : Nat} {w w' : World} (h : Below B w w') (hD : B ≤ D) (o : Obj) : Below B w (w'.putObj D o) :=
  ⟨h.os, h.tape, h.output, by simpa using h.size, fun k hk => (World.putObj_heap_other (by omega)).trans (h.block k hk)⟩
theorem calls_of_wp_marksN {P : Program} {f : FuncId} {fn : Func} {c : Code} {args : Array Value} {w : World} {R : Ending → World → Prop} (hf : P.funcs[f]? = some fn) (hb : fn.body = some c)
    (h : c.wp P (bodyPostM Fence.wide 6 P fn R) { tmps := args ++ Array.replicate (fn.ntmps - args.size) undef, defers := [] } w) : Calls P f args w R :=
  callsIn_wide.1 (callsIn_of_wp_marks (n := 6) hf hb trivial (wpIn_wide.2 h) rfl)
theorem grownBy_setN (W : World) (b i : Nat) (v : Value) : W.grownBy (W.setCell ⟨b, i, none⟩ v) (some b) :=
  ⟨rfl, rfl, rfl, (KeepsWalks.setCell W _ v).size, fun k _ hk => Below.heap_setCell _ _ _ k (fun e => hk (by rw [e]))⟩
theorem owns_cells {W : World} {base e size n : Nat} {v : Value} {xs : List Value} (h : W.ownsRow base e size v n xs) (j : Nat) (o : Obj) (ej : v.ownBlock = some j) (hj : W.heap[j]? = some o) : o.isCells = true := by
  rcases h.2 with ⟨rfl, _⟩ | ⟨g, cap, cur, rfl, _, hgb, _⟩
  · simp [Value.ownBlock] at ej
  · obtain rfl : g = j := by simpa [Value.ownBlock] using ej
    rw [hgb] at hj; cases hj; rfl
theorem owns_form {W : World} {base e size n : Nat} {v : Value} {xs : List Value} (h : W.ownsRow base e size v n xs) : ∃ A k c, v = .slice A k c := by
  rcases h.2 with ⟨rfl, _⟩ | ⟨g, cap, cur, rfl, _⟩
  · exact ⟨_, _, _, rfl⟩
  · exact ⟨_, _, _, rfl⟩
theorem owns_ne {W : World} {base e size n b : Nat} {v : Value} {xs : List Value} (h : W.ownsRow base e size v n xs) (hb : b < base) : v.ownBlock = none ∨ v.ownBlock ≠ some b := by
  rcases h.2 with ⟨rfl, _⟩ | ⟨g, cap, cur, rfl, hg, _⟩
  · exact .inl rfl
  · refine .inr fun e' => ?_
    have : g = b := by simpa [Value.ownBlock] using e'
    omega
def CutI (w : World) (R base : Nat) (Q : Value) (pre : List (Int × Int)) (W : World) : Prop := ∃ V, Box W R [Q, V] ∧ OwnLk W base V pre ∧ Below w.heap.size w W ∧ base ≤ W.heap.size
theorem cutI_own {w : World} {R base : Nat} {Q : Value} (h1 : w.heap.size ≤ base) : OwnFrom base (CutI w R base Q) := by
  rintro s X Y row ⟨V, hb, ho, hB, hs⟩ hg hr
  have hr' : ∀ k, row = some k → ∃ o : Obj, X.heap[k]? = some o ∧ o.isCells = false := fun k e => (hr k e).2
  refine ⟨V, box_ownN (β := Unit) _ _ () X Y row hb hg hr', World.ownsRow.kept ho hg ?_, (ownFrom_below (β := Unit) (Nat.le_refl _) h1) () X Y row hB hg hr, Nat.le_trans hs hg.size⟩
  rcases hv : V.ownBlock with _ | g
  · exact .inl rfl
  · refine .inr fun e => ?_
    obtain ⟨o, h2, h3⟩ := hr' g e.symm
    rw [owns_cells ho g o hv h2] at h3
    cases h3
theorem nCuts_any (A : Option Addr) (k c : Nat) (a b : Int) (on : Bool) (w : World) : Calls Tryz.prog 57 #[.slice A k c, pairV a b, .bool on] w fun e w' =>
    e = .returned (.func (.func 75) #[] #[.pointer (some ⟨w.heap.size + 1, 0, none⟩), .pointer (some ⟨w.heap.size + 1 + 1, 0, none⟩), .pointer (some ⟨w.heap.size, 0, none⟩)]) ∧
      Box w' w.heap.size [.slice A k c] ∧ Box w' (w.heap.size + 1) [.int .i64 a, .int .i64 b] ∧ Box w' (w.heap.size + 1 + 1) [.bool on] ∧ Below w.heap.size w w' := by
  have hmf : ∀ (fn : Fn) (first cap : Array Value) (w : World), (Instr.makeFunc fn first cap).run Tryz.prog w = .ok (.func fn first cap) w := fun _ _ _ _ => rfl
  go_enter Tryz.func57, Tryz.ntmps57
  go_wp2
  have X0 := ((Box.new w [.slice A k c] 42).alloc (.cells #[.int .i64 a, .int .i64 b] 131)).alloc (.cells #[.bool on] 4)
  have X1 := (Box.newAt (w := w.alloc (.cells #[.slice A k c] 42)) (n := w.heap.size + 1) [.int .i64 a, .int .i64 b] 131 (by simp)).alloc (.cells #[.bool on] 4)
  have X2 := Box.newAt (w := (w.alloc (.cells #[.slice A k c] 42)).alloc (.cells #[.int .i64 a, .int .i64 b] 131)) (n := w.heap.size + 1 + 1) [.bool on] 4 (by simp)
  go_ret
  exact ⟨rfl, X0, X1, X2, (((Below.refl _ _).alloc (Nat.le_refl _) _).alloc (by simp) _).alloc (by simp; omega) _⟩
theorem hasB_mem {l : List (Int × Int)} {a b : Int} : hasB l a b = decide ((a, b) ∈ l) := by
  rw [Bool.eq_iff_iff]
  simp only [hasB, List.any_eq_true, Bool.and_eq_true, decide_eq_true_eq]
  constructor
  · rintro ⟨⟨x, y⟩, h, rfl, rfl⟩; exact h
  · intro h; exact ⟨_, h, rfl, rfl⟩
theorem keptC_eq (l : List (Int × Int)) (a b : Int) (on : Bool) : keptC l (min a b) (max a b) on = keptB l a b on := by
  funext x
  obtain ⟨x, y⟩ := x
  unfold keptC keptB
  by_cases h : x = min a b ∧ y = max a b
  · rw [if_pos h, if_pos (by rw [h.1, h.2])]
  · rw [if_neg h, if_neg (by simpa using h), hasB_mem]
end Go.Proofs.YtmbifmmkccghfaaGreat
namespace Go.Proofs.YtmbifmmkccghfaaGreat
open Go.RowKit Go.Shelf
attribute [local go_sem] Oper.semAt_some
theorem valid_lists {b : Bx} (h : b.listsB = false) : b.validB = false := by rw [Bx.validB, h]; rfl
theorem valid_sent {b : Bx} (h : b.sentB = false) : b.validB = false := by rw [Bx.validB, h, Bool.false_and, Bool.and_false]
theorem valid_gate {b : Bx} {g : Nat} (hg : g < b.heard.length) (h : b.gateB g = false) : b.validB = false := by
  have : (List.range b.heard.length).all b.gateB = false := List.all_eq_false.2 ⟨g, List.mem_range.2 hg, by rw [h]; decide⟩
  rw [Bx.validB, this, Bool.and_false, Bool.and_false]
theorem valid_yes {b : Bx} (h1 : b.listsB = true) (h2 : b.sentB = true) (h3 : ∀ g, g < b.heard.length → b.gateB g = true) : b.validB = true := by
  rw [Bx.validB, h1, h2, List.all_eq_true.2 fun g hg => h3 g (List.mem_range.1 hg)]
  rfl
theorem gate_out {b : Bx} {g : Nat} (h : ¬ (0 ≤ b.h g ∧ b.h g ≤ (b.sent.length : Int))) : b.gateB g = false := by
  unfold Bx.gateB
  rw [if_neg (by omega), decide_eq_false (fun h2 => h ⟨h2.1, h2.2.1⟩)]
theorem o_kfOf {D : Nat} {A B : World} (h : Below A.heap.size A B) : KeepsFrom D A B := ⟨h.size, fun b _ _ ho _ => (h.block b (Array.getElem?_eq_some_iff.1 ho).1).trans ho⟩
theorem o_kfCell {D : Nat} {A : World} {a : Addr} (h : a.block < D) (v : Value) : KeepsFrom D A (A.setCell a v) := ⟨by simp, fun b _ hk ho _ => (Below.heap_setCell A a v b (by omega)).trans ho⟩
theorem gate_zero {b : Bx} {g : Nat} (h : b.h g = 0) : b.gateB g = !b.f g := by rw [Bx.gateB, if_pos h]
theorem gate_pos {b : Bx} {g j : Nat} (h : b.h g = (j : Int) + 1) (hj : j < b.sent.length) : b.gateB g = decide ((b.sent.getD j (0, 0)).1 = (g : Int)) := by
  rw [Bx.gateB, if_neg (by omega), h]
  have e : (j : Int) + 1 - 1 = (j : Int) := by omega
  rw [e, Bx.at, Int.toNat_natCast]
  congr 1
  rw [eq_iff_iff]
  exact ⟨fun h => h.2.2, fun h => ⟨by omega, by omega, h⟩⟩
theorem oValid_is (b : Bx) (Vq Va : Value) (As Ah Af : Option Addr) (ns cs n ch nf cf : Nat) (w : World) {T : Bool} (hT : Hid (b.validB = T)) (hx : Hid (BxAt w w.heap.size Vq Va (.slice As ns cs) (.slice Ah n ch) (.slice Af nf cf) b)) (hns : Hid (b.sent.length = ns)) (hn : Hid (b.heard.length = n)) (hnf : Hid (b.fresh.length = nf)) (hcs : ns ≤ 9223372036854775807) (hcn : n ≤ 9223372036854775807) (hcf : nf ≤ 9223372036854775807) :
    Calls Tryz.prog 44 #[.agg #[Vq, Va, .slice As ns cs, .slice Ah n ch, .slice Af nf cf]] w fun e w' => e = .returned (.bool T) ∧ Below w.heap.size w w' := by
  refine calls_of_wp_marksN Tryz.func44 rfl ?_
  simp only [Tryz.ntmps44, List.size_toArray, List.length_cons, List.length_nil, Nat.reduceAdd, Nat.reduceSub, Array.replicate_succ, Array.replicate_zero, List.push_toArray, List.append_toArray, List.nil_append, List.cons_append]
  have hB := ((Below.refl w.heap.size w).alloc (Nat.le_refl _) (.cells #[Vq, Va, .slice As ns cs, .slice Ah n ch, .slice Af nf cf] 49)).alloc (by simp) (.cells #[.bool false] 4)
  have X1 := (Box.new w [Vq, Va, .slice As ns cs, .slice Ah n ch, .slice Af nf cf] 49).alloc (.cells #[.bool false] 4)
  have X2 := Box.newAt (w := w.alloc (.cells #[Vq, Va, .slice As ns cs, .slice Ah n ch, .slice Af nf cf] 49)) (n := w.heap.size + 1) [.bool false] 4 (by simp)
  go_upto_region 1 with fail
  generalize (w.alloc (.cells #[Vq, Va, .slice As ns cs, .slice Ah n ch, .slice Af nf cf] 49)).alloc (.cells #[.bool false] 4) = w1 at hB X1 X2 ⊢
  have z1 := X1.lt
  have z2 := X2.lt
  obtain ⟨X1c0, X1c1, X1c2, X1c3, X1c4⟩ := X1.c5
  have X2c0 : w1.cell? ⟨w.heap.size + 1, 0, none⟩ = some (.bool false) := X2.cell 0
  have X2f0 : w1.frozen? ⟨w.heap.size + 1, 0, none⟩ = false := X2.free 0
  have Y2 := X2.set 0 (.bool false)
  have hB2 := hB.setCell (p := ⟨w.heap.size + 1, 0, none⟩) (by simp) (.bool false)
  have y2 : (w1.setCell ⟨w.heap.size + 1, 0, none⟩ (.bool false)).cell? ⟨w.heap.size + 1, 0, none⟩ = some (.bool false) := Y2.cell 0
  by_cases h1 : n < 1
  · have d1 : decide ((n : Int) < 1) = true := decide_eq_true (by omega)
    have d2 : (n : Int) < 1 := by omega
    obtain rfl : T = false := by rw [← hT.out, valid_lists]; rw [Bx.listsB, hn.out]; exact decide_eq_false (by omega)
    go_wp2
    refine ⟨_, (by simp [results, Tryz.results44, go_sem, y2] : _ = Result.ok (.bool false) _), ?_⟩
    exact ⟨rfl, hB2⟩
  have d1 : decide ((n : Int) < 1) = false := decide_eq_false (by omega)
  have d2 : ¬ ((n : Int) < 1) := by omega
  by_cases h2 : 8 < n
  · have d3 : decide ((8 : Int) < (n : Int)) = true := decide_eq_true (by omega)
    have d4 : (8 : Int) < (n : Int) := by omega
    obtain rfl : T = false := by rw [← hT.out, valid_lists]; rw [Bx.listsB, hn.out]; exact decide_eq_false (by omega)
    go_wp2
    refine ⟨_, (by simp [results, Tryz.results44, go_sem, y2] : _ = Result.ok (.bool false) _), ?_⟩
    exact ⟨rfl, hB2⟩
  have d3 : decide ((8 : Int) < (n : Int)) = false := decide_eq_false (by omega)
  have d4 : ¬ ((8 : Int) < (n : Int)) := by omega
  by_cases h3 : nf = n
  rotate_left
  · have d5 : ((nf : Int) != (n : Int)) = true := by simp; omega
    obtain rfl : T = false := by rw [← hT.out, valid_lists]; rw [Bx.listsB, hn.out, hnf.out]; exact decide_eq_false (by omega)
    go_wp2
    refine ⟨_, (by simp [results, Tryz.results44, go_sem, y2] : _ = Result.ok (.bool false) _), ?_⟩
    exact ⟨rfl, hB2⟩
  subst h3
  have d5 : ((nf : Int) != (nf : Int)) = false := by simp
  by_cases h4 : 4096 < ns
  · have d6 : decide ((4096 : Int) < (ns : Int)) = true := decide_eq_true (by omega)
    have d7 : (4096 : Int) < (ns : Int) := by omega
    obtain rfl : T = false := by rw [← hT.out, valid_lists]; rw [Bx.listsB, hns.out]; exact decide_eq_false (by omega)
    go_wp2
    refine ⟨_, (by simp [results, Tryz.results44, go_sem, y2] : _ = Result.ok (.bool false) _), ?_⟩
    exact ⟨rfl, hB2⟩
  have d6 : decide ((4096 : Int) < (ns : Int)) = false := decide_eq_false (by omega)
  have d7 : ¬ ((4096 : Int) < (ns : Int)) := by omega
  have hL : Hid (b.listsB = true) := Lib.hid (by rw [Bx.listsB, hn.out, hns.out, hnf.out]; exact decide_eq_true (by omega))
  go_upto_region 4 with fail
  clear d1 d2 d3 d4 d5 d6 d7 X1c0 X1c1 X1c2 X1c3 X1c4 X2c0 X2f0 z1 z2 Y2 hB2 y2
  go_loopw [37] (fun s wr => ∃ k : Nat, k ≤ ns ∧ s = .int .i64 k ∧ Below w.heap.size w wr ∧ Box wr w.heap.size [Vq, Va, .slice As ns cs, .slice Ah nf ch, .slice Af nf cf] ∧ Box wr (w.heap.size + 1) [.bool false] ∧ Hid (∀ j (hj : j < b.sent.length), j < k → (0 ≤ (b.sent[j]).1 ∧ (b.sent[j]).1 < (nf : Int)) ∧ (0 ≤ (b.sent[j]).2 ∧ (b.sent[j]).2 ≤ 7))) (fun s _ => ns - (intOf s).toNat)
  case atStart => exact ⟨0, by omega, rfl, hB, X1, X2, Lib.hid (fun j _ hj => by omega)⟩
  case round =>
    clear hB X1 X2
    obtain ⟨k, hk, rfl, hB, X1, X2, hall⟩ := hrel
    obtain ⟨wo, rfl⟩ : ∃ wo : World, wo = wr := ⟨_, rfl⟩
    rcases Nat.lt_or_ge k ns with hlt | hge
    rotate_left
    · obtain rfl : k = ns := by omega
      have hk3 : ¬ ((k : Int) < (k : Int)) := by omega
      have hS : Hid (b.sentB = true) := Lib.hid (List.all_eq_true.2 fun m hm => by
        obtain ⟨j, hj, rfl⟩ := List.getElem_of_mem hm
        have := hall.out j hj (by rw [← hns.out]; exact hj)
        rw [hn.out]
        exact decide_eq_true this)
      have z1 := X1.lt
      obtain ⟨X1c0, X1c1, X1c2, X1c3, X1c4⟩ := X1.c5
      go_upto_region 10 with fail
      clear z1 X1c0 X1c1 X1c2 X1c3 X1c4 hall hk3
      go_loopw [66] (fun s wr => ∃ g : Nat, g ≤ nf ∧ s = .int .i64 g ∧ Below w.heap.size w wr ∧ Box wr w.heap.size [Vq, Va, .slice As k cs, .slice Ah nf ch, .slice Af nf cf] ∧ Box wr (w.heap.size + 1) [.bool false] ∧ Hid (∀ j, j < g → 0 ≤ b.h j ∧ b.h j ≤ (k : Int))) (fun s _ => nf - (intOf s).toNat)
      case atStart => exact ⟨0, by omega, rfl, hB, X1, X2, Lib.hid (fun j hj => by omega)⟩
      case round =>
        clear hB X1 X2
        obtain ⟨g, hg, rfl, hB, X1, X2, hall⟩ := hrel
        obtain ⟨wi, rfl⟩ : ∃ wi : World, wi = wr := ⟨_, rfl⟩
        rcases Nat.lt_or_ge g nf with hgl | hgg
        rotate_left
        · obtain rfl : nf = g := by omega
          have hk3 : ¬ ((nf : Int) < (nf : Int)) := by omega
          have z1 := X1.lt
          obtain ⟨X1c0, X1c1, X1c2, X1c3, X1c4⟩ := X1.c5
          go_wp2_with fail
          clear hk3
          refine (oGates_any Vq Va (.slice As k cs) (.slice Ah nf ch) (.slice Af nf cf) wi).mono ?_
          rintro e w2 ⟨rfl, Xg, hb⟩
          have hwi2 := X2.lt
          have X1 := X1.later hb
          have X2 := X2.later hb
          have hs1 := hB.size
          have hB := hB.trans (hb.mono hB.size)
          have hXg := Xg.lt
          have hwi := z1
          clear hb z1 X1c0 X1c1 X1c2 X1c3 X1c4
          generalize wi.heap.size = Bg at Xg hs1 hXg hwi hwi2 ⊢
          go_wp2_with fail
          -- RANGE
          have hsz := hB.size
          have hX1 := X1.lt
          have hX2 := X2.lt
          have HB := hx.out.heard.below hB
          refine wpIn_wide.1 (wpIn_rangeK_out (n := 6) rfl (by omega) (gf := 58) (lb := #[.pointer (some ⟨Bg, 0, none⟩)]) rfl trivial (enters_of Tryz.func58 (by kernel_rfl) rfl)
            (Kp := fun A B => KeepsC w.heap.size (fun b => b = w.heap.size + 1) A B)
            (fun A B C h1 h2 => h1.trans h2)
            (fun W l o o' hl ho hc => KeepsC.put ho hc (by omega) _)
            (oGates_seq 5 b nf ch Ah Vq Va (.slice As k cs) (.slice Af nf cf) Bg w2 w.heap.size (fun b => b = w.heap.size + 1) hn.out (by omega) HB Xg (by omega) hsz (fun j hj => by have := hall.out j hj; omega) _ (fun _ _ h => h)).toB (Below.refl _ _) (fun _ => rfl)
            (fun pre W => w2.heap.size ≤ W.heap.size ∧ Below w.heap.size w W ∧ Box W w.heap.size [Vq, Va, .slice As k cs, .slice Ah nf ch, .slice Af nf cf] ∧ Box W (w.heap.size + 1) [.bool false] ∧ Hid (∀ j, j < pre.length → b.gateB j = true))
            (fun cc pre W => cc = .ret ∧ T = false ∧ Below w.heap.size w W ∧ Box W (w.heap.size + 1) [.bool false])
            ?hI ?hIx ?h0
            (fun pre q a' W => w2.heap.size ≤ W.heap.size ∧ q < nf ∧ pre = List.range q ∧ Below w.heap.size w W ∧ Box W w.heap.size [Vq, Va, .slice As k cs, .slice Ah nf ch, .slice Af nf cf] ∧ Box W (w.heap.size + 1) [.bool false] ∧ Hid (∀ j, j < q → b.gateB j = true) ∧ a' = { tmps := #[.agg #[Vq, Va, .slice As k cs, .slice Ah nf ch, .slice Af nf cf], .pointer (some ⟨w.heap.size, 0, none⟩), .pointer (some ⟨w.heap.size + 1, 0, none⟩), undef, u4, undef, u6, .int .i64 (q : Int), .int .i64 (b.h q - 1), .pointer (some ⟨w.heap.size, 3, none⟩), .slice Ah nf ch, .int .i64 (nf : Int), .bool false, .bool false, .pointer (some ⟨w.heap.size, 3, none⟩), .slice Ah nf ch, .int .i64 (nf : Int), .bool false, .bool false, .bool false, .pointer (some ⟨w.heap.size, 4, none⟩), .slice Af nf cf, .int .i64 (nf : Int), .pointer (some ⟨w.heap.size, 3, none⟩), .slice Ah nf ch, .int .i64 (nf : Int), .bool false, .bool false, .bool false, .pointer (some ⟨w.heap.size, 2, none⟩), .slice As k cs, .int .i64 (k : Int), .bool false, .bool false, .pointer (some ⟨w.heap.size, 2, none⟩), .slice As k cs, .int .i64 (k : Int), .int .i64 (k : Int), .bool false, u39, u40, u41, u42, u43, u44, u45, u46, u47, u48, u49, u50, u51, u52, u53, u54, u55, u56, u57, u58, u59, u60, u61, u62, .pointer (some ⟨w.heap.size, 3, none⟩), .slice Ah nf ch, .int .i64 (nf : Int), .int .i64 (nf : Int), .bool false, u68, u69, u70, u71, u72, u73, u74, u75, u76, u77, u78, u79, .agg #[Vq, Va, .slice As k cs, .slice Ah nf ch, .slice Af nf cf], .func (.func 58) #[] #[.pointer (some ⟨Bg, 0, none⟩)], .int .i64 (q : Int), .int .i64 (b.h q - 1), undef, undef, undef, undef, undef, undef, undef, undef, undef, undef, undef, undef, undef, undef, undef, undef, undef, undef, undef, undef, undef, undef, undef], defers := [] })
            ?hAx ?assign ?body ?done ?stop)
          case hI =>
            rintro pre A B ⟨h1, h2, h3, h4, h5⟩ hb
            exact ⟨Nat.le_trans h1 hb.size, h2.trans (hb.mono hsz), h3.under hb hX1, h4.under hb hX2, h5⟩
          case hIx =>
            rintro cc pre A B ⟨rfl, h1, h2, h3⟩ hb
            exact ⟨rfl, h1, h2.trans (hb.mono hsz), h3.under hb hX2⟩
          case h0 => exact ⟨Nat.le_refl _, hB, X1, X2, Lib.hid (fun j hj => absurd hj (Nat.not_lt_zero _))⟩
          case hAx =>
            rintro pre q a' A l o o' hl ho hc ⟨h1, h2, h3, h4, h5, h6, h7, rfl⟩
            exact ⟨by simpa using h1, h2, h3, h4.trans (below_put3 (by omega) _), h5.record ho hc _, h6.record ho hc _, h7, rfl⟩
          case assign =>
            rintro l pre q W K ⟨h1, h2, h3, h4, h5⟩ ⟨rfl, hqn⟩ hK
            rw [List.length_range] at h5
            gi_wp2
            exact hK _ _ (o_kfOf (Below.refl _ _)) (KeepsC.refl _ _ _) ⟨h1, hqn, by trivial, h2, h3, h4, h5, rfl⟩
          case body =>
            rintro l pre q a' W hl ⟨r0, hr0⟩ ⟨hsW, hqn, rfl, hBW, X1W, X2W, hall2, rfl⟩
            have hlen : (List.range q ++ [q]).length = q + 1 := by rw [List.length_append, List.length_range]; rfl
            have HLN := Lib.hid hlen
            have hu := hall.out q hqn
            have hq2 : q < b.heard.length := by rw [hn.out]; exact hqn
            obtain ⟨bf, off, rfl, hbf, cf0⟩ := hx.out.fresh.2.one (k := q) (by rw [hnf.out]; exact hqn)
            replace cf0 : W.cell? ⟨bf, off + q, none⟩ = some (.bool (b.f q)) := (hBW.cell hbf).trans cf0
            have hfz := Nat.lt_of_lt_of_le hbf hBW.size
            have z1 := X1W.lt
            have z2 := X2W.lt
            have w12 : W.cell? ⟨w.heap.size, 2, none⟩ = some (.slice As k cs) := X1W.cell 2
            have w14 : W.cell? ⟨w.heap.size, 4, none⟩ = some (.slice (some ⟨bf, off, none⟩) nf cf) := X1W.cell 4
            have w20 : W.cell? ⟨w.heap.size + 1, 0, none⟩ = some (.bool false) := X2W.cell 0
            have w2f : W.frozen? ⟨w.heap.size + 1, 0, none⟩ = false := X2W.free 0
            have Y2 := X2W.set 0 (.bool false)
            have hB2 := hBW.setCell (p := ⟨w.heap.size + 1, 0, none⟩) (by simp) (.bool false)
            have hkc : KeepsC w.heap.size (fun b => b = w.heap.size + 1) W W := KeepsC.refl _ _ _
            have hkf : KeepsFrom w2.heap.size W (W.setCell ⟨w.heap.size + 1, 0, none⟩ (.bool false)) := o_kfCell (a := ⟨w.heap.size + 1, 0, none⟩) hX2 _
            have hbad : b.gateB q = false → T = false := fun h => by rw [← hT.out, valid_gate hq2 h]
            have hgood : b.gateB q = true → ∀ j, j < q + 1 → b.gateB j = true := fun h j hj => by
              rcases Nat.lt_or_ge j q with h9 | h9
              · exact hall2.out j h9
              · obtain rfl : j = q := by omega
                exact h
            by_cases h0 : b.h q = 0
            · have hG : b.gateB q = !b.f q := gate_zero h0
              rw [hG] at hbad hgood
              have HBAD := Lib.hid hbad
              have HG := Lib.hid hgood
              clear hbad hgood hG hall2
              generalize b.f q = f at cf0 HBAD HG
              rw [h0]
              clear h0 hu
              cases f with
              | true =>
                have hTf := Lib.hid (HBAD.out rfl)
                gi_wp2
                exact ⟨hkf, rfl, hTf.out, hB2, Y2⟩
              | false =>
                have hg1 := HG.out rfl
                gi_wp2
                refine ⟨o_kfOf (Below.refl _ _), hkc, hsW, hBW, X1W, X2W, Lib.hid (fun j hj => hg1 j (by rw [HLN.out] at hj; exact hj))⟩
            · obtain ⟨j0, hj0⟩ : ∃ j0 : Nat, b.h q = (j0 : Int) + 1 := ⟨(b.h q - 1).toNat, by omega⟩
              have hjk : j0 < k := by omega
              have hG : b.gateB q = decide ((b.sent.getD j0 (0, 0)).1 = (q : Int)) := gate_pos hj0 (by rw [hns.out]; exact hjk)
              obtain ⟨bs, os, rfl, hbs, hc⟩ := hx.out.sent.lk (by rw [hns.out]; omega)
              have c0 := (hBW.cell hbs).trans (hc j0 (by rw [hns.out]; exact hjk)).1
              have hsz2 := Nat.lt_of_lt_of_le hbs hBW.size
              rw [hG] at hbad hgood
              have HBAD := Lib.hid hbad
              have HG := Lib.hid hgood
              clear hbad hgood hG hall2 hc
              have e9 : b.h q - 1 = (j0 : Int) := by omega
              rw [e9]
              clear e9 hj0 h0 hu
              generalize (b.sent.getD j0 (0, 0)).1 = m at c0 HBAD HG
              have p0 : decide ((j0 : Int) < 0) = false := decide_eq_false (by omega)
              have p1 : decide ((0 : Int) ≤ (j0 : Int)) = true := decide_eq_true (by omega)
              have p2 : (j0 : Int) < (k : Int) := by omega
              have p3 : (0 : Int) ≤ (j0 : Int) := by omega
              have p4 : ¬ ((j0 : Int) < 0) := by omega
              by_cases hm : m = (q : Int)
              · have hg1 := HG.out (decide_eq_true hm)
                have p5 : (m != (q : Int)) = false := by simp [hm]
                gi_wp2
                refine ⟨o_kfOf (Below.refl _ _), hkc, hsW, hBW, X1W, X2W, Lib.hid (fun j hj => hg1 j (by rw [HLN.out] at hj; exact hj))⟩
              · have hTf := Lib.hid (HBAD.out (decide_eq_false hm))
                have p5 : (m != (q : Int)) = true := by simp [hm]
                gi_wp2
                exact ⟨hkf, rfl, hTf.out, hB2, Y2⟩
          case done =>
            rintro Ed xs W hEd rfl ⟨h1, h2, h3, h4, h5⟩ hK
            rw [List.length_range] at h5
            obtain rfl : T = true := by rw [← hT.out, valid_yes hL.out hS.out (fun g hg => h5.out g (by rw [← hn.out]; exact hg))]
            have hEz := Array.getElem?_eq_some_iff.1 hK |>.1
            have w20 : W.cell? ⟨w.heap.size + 1, 0, none⟩ = some (.bool false) := h4.cell 0
            have w2f : W.frozen? ⟨w.heap.size + 1, 0, none⟩ = false := h4.free 0
            have z2 := h4.lt
            have Y2 := h4.set 0 (.bool true)
            have hB2 := h2.setCell (p := ⟨w.heap.size + 1, 0, none⟩) (by simp) (.bool true)
            have hK2 : (W.setCell ⟨w.heap.size + 1, 0, none⟩ (.bool true)).heap[Ed]? = some (.deferred (some [])) := (Below.heap_setCell W _ _ Ed (by dsimp only; omega)).trans hK
            go_wp2
            generalize W.setCell ⟨w.heap.size + 1, 0, none⟩ (.bool true) = W9 at Y2 hB2 hK2 ⊢
            have Z := Y2.record hK2 rfl (.deferred none)
            have z0 := Z.cell 0
            refine ⟨by simp, .inl ⟨_, _, rfl, run_takeDeferred hK2, ?_⟩⟩
            refine ⟨_, (by simp [results, Tryz.results44, go_sem, z0] : _ = Result.ok (.bool true) _), ?_⟩
            exact ⟨rfl, hB2.trans (below_put3 (by omega) _)⟩
          case stop =>
            rintro Ed cc pre W hEd hpre ⟨rfl, h1, h2, h3⟩ hK
            subst h1
            refine wpIn_wide.2 ?_
            have Z := h3.record hK rfl (.deferred none)
            have z0 := Z.cell 0
            go_wp2
            refine ⟨by simp, .inl ⟨_, _, rfl, run_takeDeferred hK, ?_⟩⟩
            refine ⟨_, (by simp [results, Tryz.results44, go_sem, z0] : _ = Result.ok (.bool false) _), ?_⟩
            exact ⟨rfl, h2.trans (below_put3 (by omega) _)⟩
        have hk3 : (g : Int) < (nf : Int) := by omega
        have hgl2 : g < b.heard.length := by rw [hn.out]; exact hgl
        obtain ⟨bh, oh, rfl, hbh, c0⟩ := hx.out.heard.2.one (k := g) hgl2
        replace c0 : w.cell? ⟨bh, oh + g, none⟩ = some (.int .i64 (b.h g)) := c0
        have hbad : ¬ (0 ≤ b.h g ∧ b.h g ≤ (k : Int)) → T = false := fun h => by rw [← hT.out, valid_gate hgl2 (gate_out (by rw [hns.out]; exact h))]
        have hgood : (0 ≤ b.h g ∧ b.h g ≤ (k : Int)) → ∀ j, j < g + 1 → 0 ≤ b.h j ∧ b.h j ≤ (k : Int) := fun h j hj => by
          rcases Nat.lt_or_ge j g with h9 | h9
          · exact hall.out j h9
          · obtain rfl : j = g := by omega
            exact h
        generalize b.h g = u at c0 hbad hgood
        have HG := Lib.hid hgood
        have HBAD := Lib.hid hbad
        clear hbad hgood
        replace c0 := (hB.cell hbh).trans c0
        have hbz := Nat.lt_of_lt_of_le hbh hB.size
        have z1 := X1.lt
        have z2 := X2.lt
        have X1c2 : wi.cell? ⟨w.heap.size, 2, none⟩ = some (.slice As k cs) := X1.cell 2
        have X2c0 : wi.cell? ⟨w.heap.size + 1, 0, none⟩ = some (.bool false) := X2.cell 0
        have X2f0 : wi.frozen? ⟨w.heap.size + 1, 0, none⟩ = false := X2.free 0
        have Y2 := X2.set 0 (.bool false)
        have hB2 := hB.setCell (p := ⟨w.heap.size + 1, 0, none⟩) (by simp) (.bool false)
        have y2 : (wi.setCell ⟨w.heap.size + 1, 0, none⟩ (.bool false)).cell? ⟨w.heap.size + 1, 0, none⟩ = some (.bool false) := Y2.cell 0
        by_cases g1 : u < 0
        · have e1 : decide (u < 0) = true := decide_eq_true g1
          obtain rfl : T = false := HBAD.out (by omega)
          go_wp2
          refine ⟨_, (by simp [results, Tryz.results44, go_sem, y2] : _ = Result.ok (.bool false) _), ?_⟩
          exact ⟨rfl, hB2⟩
        have e1 : decide (u < 0) = false := decide_eq_false g1
        by_cases g2 : (k : Int) < u
        · have e2 : decide ((k : Int) < u) = true := decide_eq_true g2
          obtain rfl : T = false := HBAD.out (by omega)
          go_wp2
          refine ⟨_, (by simp [results, Tryz.results44, go_sem, y2] : _ = Result.ok (.bool false) _), ?_⟩
          exact ⟨rfl, hB2⟩
        have e2 : decide ((k : Int) < u) = false := decide_eq_false g2
        clear Y2 hB2 y2
        go_wp2
        exact ⟨⟨g + 1, by omega, by go_num, hB, X1, X2, Lib.hid (HG.out (by omega))⟩, by simp [intOf]; omega⟩
    have hk3 : (k : Int) < (ns : Int) := by omega
    have hkl : k < b.sent.length := by rw [hns.out]; exact hlt
    obtain ⟨bs, os, rfl, hbs, hc⟩ := hx.out.sent.lk (by omega)
    obtain ⟨c0, c1⟩ := hc k hkl
    rw [gd_at hkl] at c0 c1
    have hok : ∀ T' : Bool, b.sentB = T' → T' = false → T = false := fun T' h h' => by rw [← hT.out, valid_sent (by rw [h, h'])]
    have hbad : ¬ ((0 ≤ (b.sent[k]).1 ∧ (b.sent[k]).1 < (nf : Int)) ∧ (0 ≤ (b.sent[k]).2 ∧ (b.sent[k]).2 ≤ 7)) → T = false := fun h => hok _ rfl (by
      unfold Bx.sentB
      rw [List.all_eq_false]
      refine ⟨_, List.getElem_mem hkl, ?_⟩
      rw [hn.out, decide_eq_false h]
      decide)
    have hgood : ((0 ≤ (b.sent[k]).1 ∧ (b.sent[k]).1 < (nf : Int)) ∧ (0 ≤ (b.sent[k]).2 ∧ (b.sent[k]).2 ≤ 7)) → (∀ j (hj : j < b.sent.length), j < k + 1 → (0 ≤ (b.sent[j]).1 ∧ (b.sent[j]).1 < (nf : Int)) ∧ (0 ≤ (b.sent[j]).2 ∧ (b.sent[j]).2 ≤ 7)) := fun h j hj hjk => by
      rcases Nat.lt_or_ge j k with h9 | h9
      · exact hall.out j hj h9
      · obtain rfl : j = k := by omega
        exact h
    generalize b.sent[k] = p at c0 c1 hbad hgood
    have HG := Lib.hid hgood
    obtain ⟨m1, m2⟩ := p
    dsimp only at c0 c1 hbad HG
    have HBAD := Lib.hid hbad
    clear hok hbad hgood
    replace c0 := (hB.cell hbs).trans c0
    replace c1 := (hB.cell hbs).trans c1
    have hbz := Nat.lt_of_lt_of_le hbs hB.size
    go_upto_region 6 with fail
    have Y := Box.new wo [.int .i64 m1, .int .i64 m2] 101
    have hal := (Below.refl wo.heap.size wo).alloc (Nat.le_refl _) (.cells #[.int .i64 m1, .int .i64 m2] 101)
    have X1 := X1.later hal
    have X2 := X2.later hal
    have hB := hB.trans (hal.mono hB.size)
    clear hal c0 c1 hbz
    generalize wo.alloc (.cells #[.int .i64 m1, .int .i64 m2] 101) = W at Y X1 X2 hB ⊢
    generalize wo.heap.size = D at Y ⊢
    obtain ⟨y0, y1⟩ := Y.c2
    have yz := Y.lt
    have z1 := X1.lt
    have z2 := X2.lt
    have X1c3 : W.cell? ⟨w.heap.size, 3, none⟩ = some (.slice Ah nf ch) := X1.cell 3
    have X2c0 : W.cell? ⟨w.heap.size + 1, 0, none⟩ = some (.bool false) := X2.cell 0
    have X2f0 : W.frozen? ⟨w.heap.size + 1, 0, none⟩ = false := X2.free 0
    have Y2 := X2.set 0 (.bool false)
    have hB2 := hB.setCell (p := ⟨w.heap.size + 1, 0, none⟩) (by simp) (.bool false)
    have y2 : (W.setCell ⟨w.heap.size + 1, 0, none⟩ (.bool false)).cell? ⟨w.heap.size + 1, 0, none⟩ = some (.bool false) := Y2.cell 0
    by_cases g1 : m1 < 0
    · have e1 : decide (m1 < 0) = true := decide_eq_true g1
      obtain rfl : T = false := HBAD.out (by omega)
      go_wp2
      refine ⟨_, (by simp [results, Tryz.results44, go_sem, y2] : _ = Result.ok (.bool false) _), ?_⟩
      exact ⟨rfl, hB2⟩
    have e1 : decide (m1 < 0) = false := decide_eq_false g1
    by_cases g2 : (nf : Int) ≤ m1
    · have e2 : decide ((nf : Int) ≤ m1) = true := decide_eq_true g2
      obtain rfl : T = false := HBAD.out (by omega)
      go_wp2
      refine ⟨_, (by simp [results, Tryz.results44, go_sem, y2] : _ = Result.ok (.bool false) _), ?_⟩
      exact ⟨rfl, hB2⟩
    have e2 : decide ((nf : Int) ≤ m1) = false := decide_eq_false g2
    by_cases g3 : m2 < 0
    · have e3 : decide (m2 < 0) = true := decide_eq_true g3
      obtain rfl : T = false := HBAD.out (by omega)
      go_wp2
      refine ⟨_, (by simp [results, Tryz.results44, go_sem, y2] : _ = Result.ok (.bool false) _), ?_⟩
      exact ⟨rfl, hB2⟩
    have e3 : decide (m2 < 0) = false := decide_eq_false g3
    by_cases g4 : 7 < m2
    · have e4 : decide (7 < m2) = true := decide_eq_true g4
      obtain rfl : T = false := HBAD.out (by omega)
      go_wp2
      refine ⟨_, (by simp [results, Tryz.results44, go_sem, y2] : _ = Result.ok (.bool false) _), ?_⟩
      exact ⟨rfl, hB2⟩
    have e4 : decide (7 < m2) = false := decide_eq_false g4
    clear Y2 hB2 y2
    go_wp2
    exact ⟨⟨k + 1, by omega, by go_num, hB, X1, X2, Lib.hid (HG.out (by omega))⟩, by simp [intOf]; omega⟩
end Go.Proofs.YtmbifmmkccghfaaGreat
namespace Go.Proofs.YtmbifmmkccghfaaGreat
open Go.RowKit
attribute [local go_sem ↓ high] app_named
theorem OwnLk.later {w w' : World} {base : Nat} {v : Value} {l : List (Int × Int)} (h : OwnLk w base v l) (hb : Below w.heap.size w w') : OwnLk w' base v l :=
  World.ownsRow.kept h (grown_noneN hb) (Classical.em _)
end Go.Proofs.YtmbifmmkccghfaaGreat
