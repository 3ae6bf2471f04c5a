/- The iterator cuts of network. No condition. -/
import Derived.RangeFuncNested
import Derived.RangeFuncBound
import Derived.RangeFuncCalls
import Derived.RangeFuncLeaves
import Derived.RangeFuncBox
import Derived.Shelf.Abstract
import Derived.Shelf.RegionOpen
import Derived.OwnWalkIn
import Derived.TacticsInMore
import Derived.LoopNIn
import Derived.LoopIn
import Derived.Maps.AppendAt
import Derived.Test.YtmbifmmkccghfaaQNM
import Derived.Laws.BytesArg
set_option linter.unusedVariables false
set_option linter.unusedSimpArgs false
namespace Go.Proofs.Ytmbifmmkccghfaa
open Go.RowKit Go.Shelf
attribute [local go_sem] Oper.semAt_some
attribute [local go_sem ↓ high] eq_link

def keptC (l : List (Int × Int)) (c1 c2 : Int) (on : Bool) (x : Int × Int) : Bool := if x.1 = c1 ∧ x.2 = c2 then on else hasB l x.1 x.2
def rowL (a : Nat) (k : Nat) : List (Int × Int) := (List.range k).map fun j => ((a : Int), ((a + 1 + j : Nat) : Int))
def linksTo (a k : Nat) : List (Int × Int) := ((List.range a).flatMap fun a => rowL a (24 - (a + 1))) ++ rowL a k
theorem allLinks_eq : allLinks = (List.range 24).flatMap fun a => rowL a (24 - (a + 1)) := rfl
theorem linksTo_succ (a k : Nat) : linksTo a (k + 1) = linksTo a k ++ [((a : Int), ((a + 1 + k : Nat) : Int))] := by
  simp [linksTo, rowL, List.range_succ]
theorem linksTo_row (a : Nat) : linksTo a (24 - (a + 1)) = linksTo (a + 1) 0 := by
  simp [linksTo, List.range_succ, rowL]
theorem linksTo_all : linksTo 24 0 = allLinks := by
  simp [linksTo, rowL, allLinks_eq]
set_option maxRecDepth 100000 in
theorem linksTo_len {a k : Nat} (ha : a ≤ 24) (hk : k ≤ 24 - (a + 1)) : (linksTo a k).length ≤ 276 := by
  have key : ∀ a, a ≤ 24 → ((List.range a).flatMap fun a => rowL a (24 - (a + 1))).length + (24 - (a + 1)) ≤ 276 := by decide
  have := key a ha
  simp only [linksTo, List.length_append, rowL, List.length_map, List.length_range] at this ⊢
  omega
theorem kept_len {a k : Nat} (f : Int × Int → Bool) (ha : a ≤ 24) (hk : k ≤ 24 - (a + 1)) : ((linksTo a k).filter f).length ≤ 276 := Nat.le_trans (List.length_filter_le _ _) (linksTo_len ha hk)
theorem kept_succ (a k : Nat) (f : Int × Int → Bool) : (linksTo a (k + 1)).filter f = (linksTo a k).filter f ++ (if f ((a : Int), ((a + 1 + k : Nat) : Int)) = true then [((a : Int), ((a + 1 + k : Nat) : Int))] else []) := by
  rw [linksTo_succ, List.filter_append]
  congr 1
  generalize ((a : Int), ((a + 1 + k : Nat) : Int)) = x
  by_cases h : f x = true
  · rw [if_pos h, List.filter_cons_of_pos h]; rfl
  · rw [if_neg h, List.filter_cons_of_neg h]; rfl

theorem grown_noneN {a w : World} (h : Below a.heap.size a w) : a.grownBy w none := ⟨h.os, h.tape, h.output, h.size, fun i hi _ => h.block i hi⟩
theorem abides_belowN {β : Type} {B : Nat} {J : β → World → Prop} (h : AbidesFrom B J) {s : β} {W W' : World} (hs : J s W) (hb : Below W.heap.size W W') : J s W' := h s W W' none hs (grown_noneN hb) (fun r e => by cases e)

structure KeepsX (R n : Nat) (W W' : World) : Prop where
  size : W.heap.size ≤ W'.heap.size
  block : ∀ b, b < n → b ≠ R → W'.heap[b]? = W.heap[b]?
theorem KeepsX.refl (R n : Nat) (W : World) : KeepsX R n W W := ⟨Nat.le_refl _, fun _ _ _ => rfl⟩
theorem KeepsX.trans {R n : Nat} {A B C : World} (h : KeepsX R n A B) (k : KeepsX R n B C) : KeepsX R n A C := ⟨Nat.le_trans h.size k.size, fun b hb hr => (k.block b hb hr).trans (h.block b hb hr)⟩
theorem KeepsX.of {R n : Nat} {A B : World} (h : Below n A B) : KeepsX R n A B := ⟨h.size, fun b hb _ => h.block b hb⟩
theorem KeepsX.then {R n : Nat} {A B C : World} (h : KeepsX R n A B) (hn : n ≤ A.heap.size) (k : Below B.heap.size B C) : KeepsX R n A C := h.trans (KeepsX.of (k.mono (Nat.le_trans hn h.size)))
theorem KeepsX.set {R n : Nat} (W : World) (i : Nat) (v : Value) : KeepsX R n W (W.setCell ⟨R, i, none⟩ v) := ⟨by simp, fun b _ hr => Below.heap_setCell W _ v b hr⟩
theorem KeepsX.putObj {R n : Nat} {w : World} (hn : n ≤ w.heap.size) (W : World) (l : Nat) (o o' : Obj) (hl : w.heap.size ≤ l) (_ : W.heap[l]? = some o) (_ : o.isCells = false) (_ : o.isWalk = false) : KeepsX R n W (W.putObj l o') :=
  ⟨by simp, fun b hb _ => World.putObj_heap_other (by omega)⟩
theorem KeepsX.box {R n : Nat} {A B : World} (h : KeepsX R n A B) {b : Nat} {xs : List Value} (hx : Box A b xs) (hb : b < n) (hr : b ≠ R) : Box B b xs := hx.same (h.block b hb hr)
theorem KeepsX.sl {R n : Nat} {A B : World} (h : KeepsX R n A B) {D size k : Nat} {g : Nat → Nat → Value} {v : Value} (hD : D ≤ R) (hn : D ≤ n) (hs : Sl A D size k g v) : Sl B D size k g v := by
  obtain ⟨A', c, hv, hm, h1⟩ := hs
  refine ⟨A', c, hv, hm, fun i hi => ?_⟩
  obtain ⟨b, off, ha, hb, h3⟩ := h1 i hi
  exact ⟨b, off, ha, hb, fun j hj => by rw [World.cell?_of_block (w := A) (h.block b (by omega) (by omega))]; exact h3 j hj⟩
theorem KeepsX.lks {R n : Nat} {A B : World} (h : KeepsX R n A B) {D : Nat} {v : Value} {l : List (Int × Int)} (hD : D ≤ R) (hn : D ≤ n) (hs : LksAt A D v l) : LksAt B D v l := ⟨hs.1, h.sl hD hn hs.2⟩

set_option maxRecDepth 100000 in
set_option maxHeartbeats 4000000 in
theorem cuts_stops (n N : Nat) (l : List (Int × Int)) (A : Option Addr) (kl cl : Nat) (c1 c2 : Int) (on : Bool) (Bc Bo Bl : Nat) (w : World) (D : Nat) (hDw : D ≤ w.heap.size) (hL : Hid (LksAt w D (.slice A kl cl) l))
    (hc : Box w Bc [.int .i64 c1, .int .i64 c2]) (hO : Box w Bo [.bool on]) (hl : Box w Bl [.slice A kl cl]) (R : Nat) (hDR : D ≤ R) (hcR : Bc ≠ R) (hoR : Bo ≠ R) (hlR : Bl ≠ R) (hN : 276 < N) :
    SeqStopsK Fence.wide n Try.prog 93 #[.pointer (some ⟨Bc, 0, none⟩), .pointer (some ⟨Bo, 0, none⟩), .pointer (some ⟨Bl, 0, none⟩)] (fun x : Int × Int => #[.agg #[.int .i64 x.1, .int .i64 x.2]]) (KeepsX R w.heap.size)
      (fun xs => xs = allLinks.filter (keptC l c1 c2 on)) (fun _ => True) N w := fun lk J Jx W hW hJ hJx hY h0 => by
  have hmf : ∀ (fn : Fn) (first cap : Array Value) (w : World), (Instr.makeFunc fn first cap).run Try.prog w = .ok (.func fn first cap) w := fun _ _ _ _ => rfl
  obtain ⟨f, hf⟩ : ∃ f, keptC l c1 c2 on = f := ⟨_, rfl⟩
  rw [hf]
  have HF := Lib.hid hf
  have HY := Lib.hid hY
  have HJ := Lib.hid hJ
  have HJx := Lib.hid hJx
  clear hf hY hJ hJx
  refine callsIn_of_wp Try.func93 rfl trivial ?_ rfl
  simp only [Try.ntmps93, List.size_toArray, List.length_cons, List.length_nil, Nat.reduceAdd, Nat.reduceSub, Array.replicate_succ, Array.replicate_zero, List.push_toArray, List.append_toArray, List.nil_append, List.cons_append]
  gi_wp2_with fail
  gi_loopw [8] (fun i wr => ∃ (a : Nat) (pre : List (Int × Int)), a ≤ 24 ∧ i = .int .i64 a ∧ KeepsX R w.heap.size w wr ∧ J pre wr ∧ Hid (pre = (linksTo a 0).filter f)) (fun i _ => 24 - (intOf i).toNat)
  case atStart => exact ⟨0, [], by omega, rfl, KeepsX.of hW, h0, rfl⟩
  case round =>
    obtain ⟨a, pre, ha, rfl, hb, hJ0, hpre⟩ := hrel
    obtain ⟨wo, rfl⟩ : ∃ wo : World, wo = wr := ⟨_, rfl⟩
    by_cases hlt : a < 24
    · have hd1 : decide ((a : Int) < 24) = true := by simp; omega
      gi_wp2_with fail
      clear hd1
      gi_loopw [6] (fun i wr => ∃ (b : Nat) (pre : List (Int × Int)), a + 1 ≤ b ∧ b ≤ 24 ∧ i = .int .i64 b ∧ KeepsX R w.heap.size w wr ∧ J pre wr ∧ Hid (pre = (linksTo a (b - (a + 1))).filter f)) (fun i _ => 24 - (intOf i).toNat)
      case atStart => exact ⟨a + 1, pre, by omega, by omega, by go_num, hb, hJ0, by rw [Nat.sub_self]; exact hpre⟩
      case round =>
        clear hb hJ0 hpre
        obtain ⟨b, pre, hab, hb24, rfl, hb, hJ0, hpre⟩ := hrel
        by_cases hlt2 : b < 24
        · have hks := kept_succ a (b - (a + 1)) f
          rw [show a + 1 + (b - (a + 1)) = b by omega, show b - (a + 1) + 1 = b + 1 - (a + 1) by omega] at hks
          have hKS := Lib.hid hks
          clear hks
          have hfx : f ((a : Int), (b : Int)) = if (a : Int) = c1 ∧ (b : Int) = c2 then on else hasB l a b := by rw [← HF.out]; rfl
          have hFX := Lib.hid hfx
          clear hfx
          have hb1 := hb.then (Nat.le_refl _) ((Below.refl _ wr).alloc (Nat.le_refl _) (.cells #[.int .i64 (a : Int), .int .i64 (b : Int)] 98))
          have XC := hb1.box hc hc.lt hcR
          have XO := hb1.box hO hO.lt hoR
          have XL := hb1.box hl hl.lt hlR
          have hJ1 := abides_belowN HJ.out hJ0 ((Below.refl _ wr).alloc (Nat.le_refl _) (.cells #[.int .i64 (a : Int), .int .i64 (b : Int)] 98))
          have Y := Box.new wr [.int .i64 (a : Int), .int .i64 (b : Int)] 98
          have o0 : (wr.alloc (.cells #[.int .i64 (a : Int), .int .i64 (b : Int)] 98)).cell? ⟨Bo, 0, none⟩ = some (.bool on) := XO.cell 0
          have l0 : (wr.alloc (.cells #[.int .i64 (a : Int), .int .i64 (b : Int)] 98)).cell? ⟨Bl, 0, none⟩ = some (.slice A kl cl) := XL.cell 0
          have k0 : (wr.alloc (.cells #[.int .i64 (a : Int), .int .i64 (b : Int)] 98)).cell? ⟨Bc, 0, none⟩ = some (.int .i64 c1) := XC.cell 0
          have k1 : (wr.alloc (.cells #[.int .i64 (a : Int), .int .i64 (b : Int)] 98)).cell? ⟨Bc, 1, none⟩ = some (.int .i64 c2) := XC.cell 1
          by_cases hx : (a : Int) = c1 ∧ (b : Int) = c2
          · obtain ⟨rfl, rfl⟩ := hx
            rcases on with _ | _
            · gi_wp2_with fail
              all_goals first | (exfalso; rename_i q1 q2; exact absurd q1 (by simp [undef])) | skip
              refine ⟨trivial, ?_⟩
              gi_wp2
              refine ⟨⟨b + 1, pre, by omega, by omega, by go_num, hb1, hJ1, ?_⟩, by simp [intOf]; omega⟩
              rw [Hid, hKS.out, if_neg (by rw [hFX.out]; simp), List.append_nil]
              exact hpre.out
            · gi_wp2_with fail
              all_goals first | (exfalso; rename_i q1 q2; exact absurd q1 (by simp [undef])) | skip
              refine ⟨trivial, ?_⟩
              have hlen := kept_len f (show a ≤ 24 by omega) (show b - (a + 1) ≤ 24 - (a + 1) by omega)
              obtain ⟨f0, t0, a0, c0, hy0, hR0⟩ := HY.out pre ((a : Int), (b : Int)) (wr.alloc (.cells #[.int .i64 (a : Int), .int .i64 (b : Int)] 98)) hJ1 (by rw [hpre.out]; omega)
              dsimp only at hy0
              have hpre' : Hid (pre ++ [((a : Int), (b : Int))] = (linksTo a (b + 1 - (a + 1))).filter f) := by rw [Hid, hKS.out, if_pos (by rw [hFX.out]; simp), hpre.out]
              gi_wp2_with fail
              refine ⟨(fun h => by cases h), hR0.mono ?_⟩
              rintro e W2 (⟨rfl, hJ3, hK⟩ | ⟨rfl, hx⟩)
              · gi_wp2
                exact ⟨⟨b + 1, _, by omega, by omega, by go_num, hb1.trans hK, hJ3, hpre'⟩, by simp [intOf]; omega⟩
              · gi_wp2
                refine bodyPost_ret (results_none rfl _ _ _) rfl ?_
                exact ⟨⟨_, rfl⟩, .inr ⟨_, trivial, hx⟩⟩
          · have hd : (decide ((a : Int) = c1) && decide ((b : Int) = c2)) = false := by
              rw [Bool.eq_false_iff]
              intro h
              rw [Bool.and_eq_true, decide_eq_true_eq, decide_eq_true_eq] at h
              exact hx h
            obtain ⟨t, ht⟩ : ∃ t, hasB l a b = t := ⟨_, rfl⟩
            have HT := Lib.hid ht
            have HX := Lib.hid hx
            have HL1 := Lib.hid (hb1.lks hDR hDw hL.out)
            have HD1 := Lib.hid (Nat.le_trans hDw hb1.size)
            clear ht hx
            gi_wp2_with fail
            refine ⟨trivial, (fun h => by cases h), ?_⟩
            refine (callsIn_wide.2 (nContainsLk_at HT HD1.out HL1.out)).mono ?_
            rintro e W1 ⟨rfl, hb2⟩
            have hb3 := hb1.then (Nat.le_refl _) hb2
            have hJ2 := abides_belowN HJ.out hJ1 hb2
            have Y := Y.later hb2
            clear o0 l0 k0 k1 XC XO XL hb2 hJ1
            generalize wr.heap.size = D1 at Y ⊢
            have y0 : W1.cell? ⟨D1, 0, none⟩ = some (.int .i64 (a : Int)) := Y.cell 0
            have y1 : W1.cell? ⟨D1, 1, none⟩ = some (.int .i64 (b : Int)) := Y.cell 1
            rcases t with _ | _
            · gi_wp2
              refine ⟨⟨b + 1, pre, by omega, by omega, by go_num, hb3, hJ2, ?_⟩, by simp [intOf]; omega⟩
              rw [Hid, hKS.out, if_neg (by rw [hFX.out, if_neg HX.out, HT.out]; decide), List.append_nil]
              exact hpre.out
            · skip
              have hlen := kept_len f (show a ≤ 24 by omega) (show b - (a + 1) ≤ 24 - (a + 1) by omega)
              obtain ⟨f0, t0, a0, c0, hy0, hR0⟩ := HY.out pre ((a : Int), (b : Int)) W1 hJ2 (by rw [hpre.out]; omega)
              dsimp only at hy0
              have hpre' : Hid (pre ++ [((a : Int), (b : Int))] = (linksTo a (b + 1 - (a + 1))).filter f) := by rw [Hid, hKS.out, if_pos (by rw [hFX.out]; rw [if_neg HX.out, HT.out]), hpre.out]
              gi_wp2_with fail
              refine ⟨(fun h => by cases h), hR0.mono ?_⟩
              rintro e W2 (⟨rfl, hJ3, hK⟩ | ⟨rfl, hx⟩)
              · gi_wp2
                exact ⟨⟨b + 1, _, by omega, by omega, by go_num, hb3.trans hK, hJ3, hpre'⟩, by simp [intOf]; omega⟩
              · gi_wp2
                refine bodyPost_ret (results_none rfl _ _ _) rfl ?_
                exact ⟨⟨_, rfl⟩, .inr ⟨_, trivial, hx⟩⟩
        · obtain rfl : b = 24 := by omega
          gi_wp2
          refine ⟨⟨a + 1, pre, by omega, by go_num, hb, hJ0, ?_⟩, by simp [intOf]; omega⟩
          rw [hpre.out, ← linksTo_row]
          exact Lib.hid rfl
    · obtain rfl : a = 24 := by omega
      gi_wp2
      go_end0
      exact ⟨⟨_, rfl⟩, .inl ⟨pre, by rw [hpre.out, linksTo_all], hJ0⟩⟩

end Go.Proofs.Ytmbifmmkccghfaa

/-
  Contract of Cut of network, the failing ways, and of cuts. No condition.
-/
namespace Go.Proofs.Ytmbifmmkccghfaa
open Go.RowKit Go.Shelf
attribute [local go_sem] Oper.semAt_some
attribute [local go_sem ↓ high] app_named

theorem box_ownN {β : Type} (b : Nat) (xs : List Value) : Own (fun (_ : β) W => Box W b xs) := by
  rintro s X Y row ⟨t, ht⟩ hg hrow
  refine ⟨t, (hg.block b (Array.getElem?_eq_some_iff.1 ht).1 (fun e => ?_)).trans ht⟩
  obtain ⟨o, ho, hc⟩ := hrow b e.symm
  rw [ht] at ho; cases ho; cases hc
theorem Box.putN {w : World} {b l : Nat} {xs : List Value} (h : Box w b xs) (hne : b ≠ l) (o : Obj) : Box (w.putObj l o) b xs := by
  obtain ⟨t, ht⟩ := h
  exact ⟨t, (World.putObj_heap_other hne).trans ht⟩
theorem below_putN {B D : Nat} {w w' : World} (h : Below B w w') (hD : B ≤ D) (o : Obj) : Below B w (w'.putObj D o) :=
  ⟨h.os, h.tape, h.output, by simpa using h.size, fun k hk => (World.putObj_heap_other (by omega)).trans (h.block k hk)⟩
theorem calls_of_wp_marksN {P : Program} {f : FuncId} {fn : Func} {c : Code} {args : Array Value} {w : World} {R : Ending → World → Prop} (hf : P.funcs[f]? = some fn) (hb : fn.body = some c)
    (h : c.wp P (bodyPostM Fence.wide 6 P fn R) { tmps := args ++ Array.replicate (fn.ntmps - args.size) undef, defers := [] } w) : Calls P f args w R :=
  callsIn_wide.1 (callsIn_of_wp_marks (n := 6) hf hb trivial (wpIn_wide.2 h) rfl)

theorem grownBy_setN (W : World) (b i : Nat) (v : Value) : W.grownBy (W.setCell ⟨b, i, none⟩ v) (some b) :=
  ⟨rfl, rfl, rfl, (KeepsWalks.setCell W _ v).size, fun k _ hk => Below.heap_setCell _ _ _ k (fun e => hk (by rw [e]))⟩
theorem owns_cells {W : World} {base e size n : Nat} {v : Value} {xs : List Value} (h : W.ownsRow base e size v n xs) (j : Nat) (o : Obj) (ej : v.ownBlock = some j) (hj : W.heap[j]? = some o) : o.isCells = true := by
  rcases h.2 with ⟨rfl, _⟩ | ⟨g, cap, cur, rfl, _, hgb, _⟩
  · simp [Value.ownBlock] at ej
  · obtain rfl : g = j := by simpa [Value.ownBlock] using ej
    rw [hgb] at hj; cases hj; rfl
theorem owns_form {W : World} {base e size n : Nat} {v : Value} {xs : List Value} (h : W.ownsRow base e size v n xs) : ∃ A k c, v = .slice A k c := by
  rcases h.2 with ⟨rfl, _⟩ | ⟨g, cap, cur, rfl, _⟩
  · exact ⟨_, _, _, rfl⟩
  · exact ⟨_, _, _, rfl⟩
theorem owns_ne {W : World} {base e size n b : Nat} {v : Value} {xs : List Value} (h : W.ownsRow base e size v n xs) (hb : b < base) : v.ownBlock = none ∨ v.ownBlock ≠ some b := by
  rcases h.2 with ⟨rfl, _⟩ | ⟨g, cap, cur, rfl, hg, _⟩
  · exact .inl rfl
  · refine .inr fun e' => ?_
    have : g = b := by simpa [Value.ownBlock] using e'
    omega
def CutI (w : World) (R base : Nat) (Q : Value) (pre : List (Int × Int)) (W : World) : Prop := ∃ V, Box W R [Q, V] ∧ OwnLk W base V pre ∧ Below w.heap.size w W ∧ base ≤ W.heap.size
theorem cutI_own {w : World} {R base : Nat} {Q : Value} (h1 : w.heap.size ≤ base) : OwnFrom base (CutI w R base Q) := by
  rintro s X Y row ⟨V, hb, ho, hB, hs⟩ hg hr
  have hr' : ∀ k, row = some k → ∃ o : Obj, X.heap[k]? = some o ∧ o.isCells = false := fun k e => (hr k e).2
  refine ⟨V, box_ownN (β := Unit) _ _ () X Y row hb hg hr', World.ownsRow.kept ho hg ?_, (ownFrom_below (β := Unit) (Nat.le_refl _) h1) () X Y row hB hg hr, Nat.le_trans hs hg.size⟩
  rcases hv : V.ownBlock with _ | g
  · exact .inl rfl
  · refine .inr fun e => ?_
    obtain ⟨o, h2, h3⟩ := hr' g e.symm
    rw [owns_cells ho g o hv h2] at h3
    cases h3

theorem nCuts_any (A : Option Addr) (k c : Nat) (a b : Int) (on : Bool) (w : World) : Calls Try.prog 78 #[.slice A k c, pairV a b, .bool on] w fun e w' =>
    e = .returned (.func (.func 93) #[] #[.pointer (some ⟨w.heap.size + 1, 0, none⟩), .pointer (some ⟨w.heap.size + 1 + 1, 0, none⟩), .pointer (some ⟨w.heap.size, 0, none⟩)]) ∧
      Box w' w.heap.size [.slice A k c] ∧ Box w' (w.heap.size + 1) [.int .i64 a, .int .i64 b] ∧ Box w' (w.heap.size + 1 + 1) [.bool on] ∧ Below w.heap.size w w' := by
  have hmf : ∀ (fn : Fn) (first cap : Array Value) (w : World), (Instr.makeFunc fn first cap).run Try.prog w = .ok (.func fn first cap) w := fun _ _ _ _ => rfl
  go_enter Try.func78, Try.ntmps78
  go_wp2
  have X0 := ((Box.new w [.slice A k c] 23).alloc (.cells #[.int .i64 a, .int .i64 b] 98)).alloc (.cells #[.bool on] 4)
  have X1 := (Box.newAt (w := w.alloc (.cells #[.slice A k c] 23)) (n := w.heap.size + 1) [.int .i64 a, .int .i64 b] 98 (by simp)).alloc (.cells #[.bool on] 4)
  have X2 := Box.newAt (w := (w.alloc (.cells #[.slice A k c] 23)).alloc (.cells #[.int .i64 a, .int .i64 b] 98)) (n := w.heap.size + 1 + 1) [.bool on] 4 (by simp)
  go_ret
  exact ⟨rfl, X0, X1, X2, (((Below.refl _ _).alloc (Nat.le_refl _) _).alloc (by simp) _).alloc (by simp; omega) _⟩

theorem hasB_mem {l : List (Int × Int)} {a b : Int} : hasB l a b = decide ((a, b) ∈ l) := by
  rw [Bool.eq_iff_iff]
  simp only [hasB, List.any_eq_true, Bool.and_eq_true, decide_eq_true_eq]
  constructor
  · rintro ⟨⟨x, y⟩, h, rfl, rfl⟩; exact h
  · intro h; exact ⟨_, h, rfl, rfl⟩
theorem keptC_eq (l : List (Int × Int)) (a b : Int) (on : Bool) : keptC l (min a b) (max a b) on = keptB l a b on := by
  funext x
  obtain ⟨x, y⟩ := x
  unfold keptC keptB
  by_cases h : x = min a b ∧ y = max a b
  · rw [if_pos h, if_pos (by rw [h.1, h.2])]
  · rw [if_neg h, if_neg (by simpa using h), hasB_mem]

end Go.Proofs.Ytmbifmmkccghfaa

/-
  Contract of Cut of the reference. (Printed by gen_nu.py.)
-/
namespace Go.Proofs.Ytmbifmmkccghfaa
open Go.RowKit
attribute [local go_sem ↓ high] app_named

theorem OwnLk.later {w w' : World} {base : Nat} {v : Value} {l : List (Int × Int)} (h : OwnLk w base v l) (hb : Below w.heap.size w w') : OwnLk w' base v l :=
  World.ownsRow.kept h (grown_noneN hb) (Classical.em _)
end Go.Proofs.Ytmbifmmkccghfaa

/-
  Contracts of SamePacket, Few, New of the reference and New of network. No condition.
-/
namespace Go.Proofs.Ytmbifmmkccghfaa
open Go.RowKit

def strBN (l : List UInt8) : ByteArray := ⟨l.toArray⟩
theorem strOfNums_bytesN (l : List UInt8) : strOfNums (l.map fun x => (x.toNat : Int)) = strBN l := by
  unfold strOfNums strBN
  congr 1
  simp [List.map_map, Function.comp_def]
theorem BytesAt.str {w : World} {B : Nat} {v : Value} {l : List UInt8} (h : BytesAt w B v l) : (convert 43 9 v).run Try.prog w = .ok (.string (strBN l)) w := by
  obtain ⟨A, c, rfl, hn, h1⟩ := h.2
  rcases A with _ | a
  · have hl : l = [] := by
      rcases l with _ | ⟨x, l⟩
      · rfl
      · obtain ⟨b, off, e, _⟩ := h1 0 (by simp)
        cases e
    subst hl
    rw [run_convert_bytes_nil w _ _ Try.underlying43 Try.underlying5 _ _ _ Try.underlying9]
    rfl
  · rcases Nat.eq_zero_or_pos l.length with h0 | h0
    · have hl : l = [] := List.eq_nil_of_length_eq_zero h0
      subst hl
      have hl : (loadCells a 0).run Try.prog w = .ok (([] : List Int).map (Value.int .u8)).toArray w := by simpa using run_loadCells_list (P := Try.prog) w a [] (fun j v hj => by simp at hj)
      rw [run_convert_bytes_string w _ _ _ _ _ _ Try.underlying43 Try.underlying5 Try.underlying9, List.length_nil, run_bytesToString w a 0 c [] hl]
      rfl
    · obtain ⟨b, off, e, _⟩ := h1 0 h0
      cases e
      rw [run_convert_bytes_arg w _ _ Try.underlying43 Try.underlying5 b off l.length c (l.map fun x => (x.toNat : Int)) (by simp) (fun i hi => ?_) _ Try.underlying9, strOfNums_bytesN]
      obtain ⟨b', off', e', _, h3⟩ := h1 i hi
      cases e'
      have := h3 0 (by omega)
      rw [Nat.mul_one, Nat.add_zero] at this
      rw [this]
      simp [List.getD_eq_getElem?_getD, List.getElem?_eq_getElem hi]

theorem nNew_any (w : World) : Calls Try.prog 30 #[] w fun e w' => e = .returned (.agg #[.slice none 0 0, .slice none 0 0]) ∧ Below w.heap.size w w' := by
  go_enter Try.func30, Try.ntmps30
  go_wp2
  exact bodyPost_ret (v := .agg #[.slice none 0 0, .slice none 0 0]) (by simp [results, Try.results30, go_sem]) rfl ⟨rfl, (Below.refl _ _).alloc (Nat.le_refl _) _⟩
end Go.Proofs.Ytmbifmmkccghfaa

/-
  Contract of Same of the reference. No condition.
-/
namespace Go.Proofs.Ytmbifmmkccghfaa
open Go.RowKit
attribute [local go_sem ↓ high] eq_pair

end Go.Proofs.Ytmbifmmkccghfaa

/-
  The contracts of chapter 6 as the laws use them: results by name. No condition.
-/
namespace Go.Proofs.Ytmbifmmkccghfaa
open Go.RowKit

theorem Lks2.at {w : World} {D base : Nat} {v : Value} {l : List (Int × Int)} (h : Lks2 w D base v l) : LksAt w w.heap.size v l := ⟨h.1, h.2.sl⟩
theorem PksAt.form2 {w : World} {B : Nat} {v : Value} {q : List Pk} {k : Nat} (h : PksAt w B v q) (hk : q.length = k) : ∃ A c, v = .slice A k c ∧ k ≤ 9223372036854775807 := by
  obtain ⟨A, c, rfl, hm⟩ := h.form
  subst hk
  exact ⟨A, c, rfl, by unfold maxLen at hm; omega⟩
theorem LksAt.form2 {w : World} {B : Nat} {v : Value} {q : List (Int × Int)} {k : Nat} (h : LksAt w B v q) (hk : q.length = k) : ∃ A c, v = .slice A k c ∧ k ≤ 9223372036854775807 := by
  obtain ⟨A, c, rfl, hm⟩ := h.form
  subst hk
  exact ⟨A, c, rfl, by unfold maxLen at hm; omega⟩
theorem RetNet.is {t : Net × Int} {m : Net} {er : Int} {a b : Nat} {w w' : World} {e : Ending} (hh : RetNet t w.heap.size w e w') (h : Hid (t = (m, er))) (hq : Hid (m.queue.length = a)) (ha : Hid (m.apart.length = b)) :
    ∃ (Aq : Option Addr) (cq : Nat) (Aa : Option Addr) (ca : Nat), e = .returned (.tuple #[.agg #[.slice Aq a cq, .slice Aa b ca], .int .i64 er]) ∧ Hid (NetAt w' w'.heap.size (.slice Aq a cq) (.slice Aa b ca) m) ∧ Below w.heap.size w w' := by
  obtain ⟨Vq, Va, m', er', he, ht, hN, hb⟩ := hh
  have h2 := ht.out.symm.trans h.out
  injection h2 with h3 h4
  subst h3 h4
  have hN2 := hN.out.at hb.size
  obtain ⟨Aq, cq, rfl, _⟩ := hN2.queue.form2 hq.out
  obtain ⟨Aa, ca, rfl, _⟩ := hN2.apart.form2 ha.out
  exact ⟨Aq, cq, Aa, ca, he, hN2, hb⟩
theorem RetDel.is {t : Pk × Net × Int} {p : Pk} {m : Net} {er : Int} {a b k : Nat} {w w' : World} {e : Ending} (hh : RetDel t w.heap.size w e w') (h : Hid (t = (p, m, er))) (hq : Hid (m.queue.length = a)) (ha : Hid (m.apart.length = b)) (hk : Hid (p.data.length = k)) :
    ∃ (Ad : Option Addr) (cd : Nat) (Aq : Option Addr) (cq : Nat) (Aa : Option Addr) (ca : Nat), e = .returned (.tuple #[.agg #[.int .i64 p.src, .int .i64 p.dst, .slice Ad k cd], .agg #[.slice Aq a cq, .slice Aa b ca], .int .i64 er]) ∧
      Hid (BytesAt w' w'.heap.size (.slice Ad k cd) p.data) ∧ Hid (NetAt w' w'.heap.size (.slice Aq a cq) (.slice Aa b ca) m) ∧ Below w.heap.size w w' := by
  obtain ⟨V, p', Vq, Va, m', er', he, ht, hV, hN, hb⟩ := hh
  have h2 := ht.out.symm.trans h.out
  injection h2 with h3 h4
  injection h4 with h4 h5
  subst h3 h4 h5
  have hN2 := hN.out.at hb.size
  have hV2 := hV.out.more hb.size
  obtain ⟨Aq, cq, rfl, _⟩ := hN2.queue.form2 hq.out
  obtain ⟨Aa, ca, rfl, _⟩ := hN2.apart.form2 ha.out
  obtain ⟨Ad, cd, rfl, _⟩ := hV2.form
  rw [hk.out] at he hV2
  exact ⟨Ad, cd, Aq, cq, Aa, ca, he, hV2, hN2, hb⟩

end Go.Proofs.Ytmbifmmkccghfaa
