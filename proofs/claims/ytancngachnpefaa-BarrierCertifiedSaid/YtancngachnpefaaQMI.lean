/- What Escape of package barrier computes, as the program does it: plain. No condition. -/
import Derived.Test.YtancngachnpefaaQMH
import Derived.Test.YtancngachnpefaaQMB
import Derived.Test.YtancngachnpefaaQKL
import Derived.Test.YtancngachnpefaaQS
import Derived.Test.YtancngachnpefaaQK
import Derived.Test.YtancngachnpefaaQBS
import Derived.Test.YtancngachnpefaaQBO
import Derived.ChangeKeysEq
set_option linter.unusedVariables false
set_option linter.unusedSimpArgs false
set_option maxRecDepth 100000
set_option maxHeartbeats 4000000
namespace Go.Proofs.Ytancngachnpefaa
open Go.RowKit
structure Wy where
  st : St
  sh : Sh
abbrev Wy.v (x : Wy) : Value := .agg #[.int .i64 x.st.level, .int .i64 x.st.position, .int .i64 x.st.p0, .int .i64 x.st.p1, .int .i64 x.st.order, .int .i64 x.st.age, .int .i64 x.sh.feed, .int .i64 x.sh.msg]
structure Ev where
  came : St → Option Wy
  op : List St
def innerE (p : Pl) (s : St) : List (Sh × St) → Ev → Ev × Option St
  | [], a => (a, none)
  | (x, y) :: r, a =>
    if (a.came y).isSome = true then innerE p s r a
    else if (p.safeT y).1 = true then innerE p s r ⟨updS a.came y ⟨s, x⟩, a.op ++ [y]⟩
    else (⟨updS a.came y ⟨s, x⟩, a.op⟩, some y)
def escE (p : Pl) (c : List Ln) : Nat → Ev → Ev × Option St
  | 0, a => (a, none)
  | n + 1, a =>
    match a.op with
    | [] => (a, none)
    | s :: _ =>
      match innerE p s (p.nexts c s (p.nf * p.nm)) a with
      | (a', some y) => (a', some y)
      | (a', none) => escE p c n ⟨a'.came, a'.op.tail⟩
def backE (came : St → Option Wy) (begin : St) : Nat → St → List Sh
  | 0, _ => []
  | n + 1, y => if y = begin then [] else match came y with
    | some x => x.sh :: backE came begin n x.st
    | none => []
def startE (p : Pl) : Ev := ⟨updS (fun _ => none) p.beginT.1 ⟨St.zero, Sh.zero⟩, [p.beginT.1]⟩
def escT (p : Pl) (c : List Ln) : List Sh × Bool × Int :=
  if askT p c = 0 then
    if (p.safeT p.beginT.1).1 = true then
      match escE p c (p.count + 1) (startE p) with
      | (a, some y) => ((backE a.came p.beginT.1 (p.count + 1) y).reverse, true, 0)
      | (_, none) => ([], false, 0)
    else ([], true, 0)
  else ([], false, askT p c)
def leftE (l : List St) (came : St → Option Wy) : Nat := l.countP fun s => (came s).isNone
theorem leftE_upd {l : List St} {came : St → Option Wy} {y : St} (hy : y ∈ l) (h : came y = none) (x : Wy) : leftE l (updS came y x) + 1 ≤ leftE l came := by
  refine countP_lt (f := fun s => (came s).isNone) (g := fun s => (updS came y x s).isNone) (fun z hz => ?_) (s := y) (by simp [h]) (by simp [updS]) l hy
  unfold updS at hz
  split at hz
  · cases hz
  · exact hz
def OrdE (begin : St) (came : St → Option Wy) (n : Nat) : Prop := ∃ rk : St → Nat, ∀ y x, came y = some x → rk y ≤ n ∧ (y ≠ begin → rk x.st < rk y ∧ (came x.st).isSome = true)
theorem ordE_start (b : St) (x : Wy) : OrdE b (updS (fun _ => none) b x) 0 := ⟨fun _ => 0, fun y z h => by
  unfold updS at h
  split at h
  · rename_i e
    exact ⟨Nat.le_refl _, fun hne => absurd e hne⟩
  · cases h⟩
theorem OrdE.upd {b : St} {came : St → Option Wy} {n : Nat} (h : OrdE b came n) {y s : St} (hy : came y = none) (hs : (came s).isSome = true) (x : Sh) : OrdE b (updS came y ⟨s, x⟩) (n + 1) := by
  obtain ⟨rk, h⟩ := h
  have hsn : rk s ≤ n := by
    cases hc : came s with
    | none => rw [hc] at hs; cases hs
    | some z => exact (h s z hc).1
  have hsy : s ≠ y := fun e => by rw [e, hy] at hs; cases hs
  refine ⟨fun z => if z = y then n + 1 else rk z, fun z u hz => ?_⟩
  unfold updS at hz
  split at hz
  · rename_i e
    cases hz
    subst e
    dsimp only
    rw [if_pos rfl, if_neg hsy]
    exact ⟨Nat.le_refl _, fun _ => ⟨by omega, by unfold updS; rw [if_neg hsy]; exact hs⟩⟩
  · rename_i e
    obtain ⟨h1, h2⟩ := h z u hz
    dsimp only
    rw [if_neg e]
    refine ⟨by omega, fun hne => ?_⟩
    obtain ⟨h3, h4⟩ := h2 hne
    have huy : u.st ≠ y := fun e2 => by rw [e2, hy] at h4; cases h4
    rw [if_neg huy]
    exact ⟨h3, by unfold updS; rw [if_neg huy]; exact h4⟩
end Go.Proofs.Ytancngachnpefaa
namespace Go.Proofs.Ytancngachnpefaa
open Go.RowKit
def poolP : Pl := ⟨4, 3, 1, 2, 1, 1, 1, 1, 1, 0, 0, 0⟩
def valveC (v o : Int) : List Ln := [⟨[⟨v, o, 3⟩], 1⟩, ⟨[], 0⟩]
def safeQ : List Iq := [⟨-1, 0, 0, 0, 0, -2⟩, ⟨1, 0, 0, 0, 0, 3⟩]
theorem pool_count : poolP.count = 10 := by decide +kernel
theorem pool_ask : askT poolP (valveC 0 4) = 0 := by decide +kernel
theorem pool_inv : ((poolP.states.filter (fun s => !lostI poolP (valveC 0 4) s)).length, !lostI poolP (valveC 0 4) poolP.beginT.1) = (6, true) := by decide +kernel
def St.same (a b : St) : Bool := decide (a = b)
def Sh.same (a b : Sh) : Bool := decide (a.feed = b.feed ∧ a.msg = b.msg)
theorem pool_esc : (match escT poolP [] with | ([a, b], ok, er) => a.same ⟨1, -1⟩ && (b.same ⟨1, -1⟩ && (ok && decide (er = 0))) | _ => false) = true := by decide +kernel
theorem pool_cert : (match certT poolP (valveC 0 4) safeQ with | (ok, f, er) => ok && (decide (f.kind = 0) && (f.st.same St.zero && (f.sh.same Sh.zero && decide (er = 0))))) = true := by decide +kernel
theorem pool_cert2 : (match certT poolP (valveC 0 4) [⟨0, 0, 0, 0, 0, -1⟩] with | (ok, f, er) => !ok && (decide (f.kind = 1) && (f.st.same ⟨2, 0, 0, 0, 0, 0⟩ && (f.sh.same Sh.zero && decide (er = 0))))) = true := by decide +kernel
theorem pool_holds : holdsT safeQ ⟨2, 0, 0, 0, 0, 0⟩ = (true, 0) ∧ holdsT safeQ ⟨4, 0, 0, 0, 0, 0⟩ = (false, 0) ∧ (holdsT [⟨0, 0, 0, 0, 0, 1048577⟩] ⟨2, 0, 0, 0, 0, 0⟩) = (false, 330) := by decide +kernel
end Go.Proofs.Ytancngachnpefaa
namespace Go.Proofs.Ytancngachnpefaa
open Go.RowKit Go.Shelf
def RowF (w : World) (g n : Nat) (f : Nat → Sh) : Prop := ∃ xs, Box w g xs ∧ ∀ k, k < n → xs[k * 2]? = some (.int .i64 (f k).feed) ∧ xs[k * 2 + 1]? = some (.int .i64 (f k).msg)
section
variable {w : World} {g n : Nat} {f f' : Nat → Sh}
theorem RowF.fn (h : RowF w g n f) (hf : ∀ k, k < n → f k = f' k) : RowF w g n f' := h.imp fun _ h => ⟨h.1, fun k hk => by rw [← hf k hk]; exact h.2 k hk⟩
theorem RowF.cell (h : RowF w g n f) {k : Nat} (hk : k < n) : w.cell? ⟨g, k * 2, none⟩ = some (.int .i64 (f k).feed) ∧ w.cell? ⟨g, k * 2 + 1, none⟩ = some (.int .i64 (f k).msg) := by
  obtain ⟨xs, hx, h⟩ := h
  exact ⟨(hx.cell _).trans (h k hk).1, (hx.cell _).trans (h k hk).2⟩
theorem RowF.free (h : RowF w g n f) (i : Nat) : w.frozen? ⟨g, i, none⟩ = false := by
  obtain ⟨xs, hx, _⟩ := h
  exact hx.free i
theorem RowF.lt (h : RowF w g n f) : g < w.heap.size := by
  obtain ⟨xs, hx, _⟩ := h
  exact hx.lt
theorem RowF.put (h : RowF w g n f) {k : Nat} (hk : k < n) (x : Sh) : RowF ((w.setCell ⟨g, k * 2, none⟩ (.int .i64 x.feed)).setCell ⟨g, k * 2 + 1, none⟩ (.int .i64 x.msg)) g n (fun t => if t = k then x else f t) := by
  obtain ⟨xs, hx, h⟩ := h
  refine ⟨_, (hx.set (k * 2) _).set (k * 2 + 1) _, fun t ht => ?_⟩
  obtain ⟨h1, h2⟩ := h t ht
  obtain ⟨h3, h4⟩ := h k hk
  have l3 := (List.getElem?_eq_some_iff.1 h3).1
  have l4 := (List.getElem?_eq_some_iff.1 h4).1
  by_cases e : t = k
  · subst e
    dsimp only
    rw [if_pos rfl]
    constructor
    · rw [List.getElem?_set_ne (by omega), List.getElem?_set_self l3]
    · rw [List.getElem?_set_self (by rw [List.length_set]; exact l4)]
  · dsimp only
    rw [if_neg e]
    constructor
    · rw [List.getElem?_set_ne (by omega), List.getElem?_set_ne (by omega)]
      exact h1
    · rw [List.getElem?_set_ne (by omega), List.getElem?_set_ne (by omega)]
      exact h2
end
def revF (f : Nat → Sh) (n k t : Nat) : Sh := if t < k ∨ n - 1 - k < t then f (n - 1 - t) else f t
theorem rev_any (g n c : Nat) (f : Nat → Sh) (w : World) (hR : Hid (RowF w g n f)) (hn : n ≤ 1048576) :
    Calls Try.prog 52 #[.slice (some ⟨g, 0, none⟩) n c] w fun e w' => (∃ v, e = .returned v) ∧ RowF w' g n (fun t => f (n - 1 - t)) ∧ w.grownBy w' (some g) := by
  have w1 : IntKind.i64.wrap ((n : Int) - 1) = (n : Int) - 1 := by rw [IntKind.wrap_i64]; omega
  have w2 : wrap64 ((n : Int) - 1) = (n : Int) - 1 := by unfold wrap64; omega
  go_enter Try.func52, Try.ntmps52
  go_wp2_with fail
  clear w1 w2
  go_loopw [2, 3] (fun i j wr => ∃ k : Nat, i = .int .i64 k ∧ j = .int .i64 ((n : Int) - 1 - k) ∧ 2 * k ≤ n + 1 ∧ Hid (RowF wr g n (revF f n k)) ∧ w.grownBy wr (some g)) (fun i _ _ => n + 1 - (intOf i).toNat)
  case atStart =>
    refine ⟨0, rfl, by simp, by omega, Lib.hid (hR.out.fn (fun t ht => ?_)), grown_refl _ _⟩
    rw [revF, if_neg (by omega)]
  case round =>
    obtain ⟨k, rfl, rfl, hk, hR, hg⟩ := hrel
    obtain ⟨wo, rfl⟩ : ∃ wo : World, wo = wr := ⟨_, rfl⟩
    rcases Int.lt_or_le (k : Int) ((n : Int) - 1 - k) with hlt | hge
    rotate_left
    · have e0 : ¬ (k : Int) < (n : Int) - 1 - k := by omega
      go_wp2
      go_end0
      refine ⟨⟨_, rfl⟩, hR.out.fn (fun t ht => ?_), hg⟩
      unfold revF
      split
      · rfl
      · congr 1
        omega
    obtain ⟨m, hm⟩ : ∃ m : Nat, (n : Int) - 1 - k = m := ⟨n - 1 - k, by omega⟩
    rw [hm] at hlt ⊢
    have hmn : m + k + 1 = n := by omega
    have HMN := Lib.hid hmn
    have HM := Lib.hid hm
    have hkn : k < n := by omega
    have hmn2 : m < n := by omega
    clear hm hmn
    obtain ⟨a0, a1⟩ := hR.out.cell hkn
    obtain ⟨b0, b1⟩ := hR.out.cell hmn2
    obtain ⟨X, hX⟩ : ∃ X, revF f n k k = X := ⟨_, rfl⟩
    obtain ⟨Y, hY⟩ : ∃ Y, revF f n k m = Y := ⟨_, rfl⟩
    rw [hX] at a0 a1
    rw [hY] at b0 b1
    have HX := Lib.hid hX
    have HY := Lib.hid hY
    clear hX hY
    have fa0 := hR.out.free (k * 2)
    have fa1 := hR.out.free (k * 2 + 1)
    have fb0 := hR.out.free (m * 2)
    have fb1 := hR.out.free (m * 2 + 1)
    have hz := hR.out.lt
    have i0 : (k : Int) < (n : Int) := by omega
    have i1 : (m : Int) < (n : Int) := by omega
    have p1 : wrap64 ((k : Int) + 1) = (k : Int) + 1 := by unfold wrap64; omega
    have p2 : IntKind.i64.wrap ((k : Int) + 1) = (k : Int) + 1 := by rw [IntKind.wrap_i64]; omega
    have p3 : wrap64 ((m : Int) - 1) = (m : Int) - 1 := by unfold wrap64; omega
    have p4 : IntKind.i64.wrap ((m : Int) - 1) = (m : Int) - 1 := by rw [IntKind.wrap_i64]; omega
    have P1 := Lib.hid p1
    have P2 := Lib.hid p2
    have P3 := Lib.hid p3
    have P4 := Lib.hid p4
    clear p1 p2 p3 p4
    go_upto_region 3 with fail
    go_region
    have hR2 : RowF ((((wo.setCell ⟨g, k * 2, none⟩ (.int .i64 Y.feed)).setCell ⟨g, k * 2 + 1, none⟩ (.int .i64 Y.msg)).setCell ⟨g, m * 2, none⟩ (.int .i64 X.feed)).setCell ⟨g, m * 2 + 1, none⟩ (.int .i64 X.msg)).drew g n (fun t => if t = m then X else if t = k then Y else revF f n k t) := (hR.out.put hkn Y).put hmn2 X
    have hg2 : w.grownBy ((((wo.setCell ⟨g, k * 2, none⟩ (.int .i64 Y.feed)).setCell ⟨g, k * 2 + 1, none⟩ (.int .i64 Y.msg)).setCell ⟨g, m * 2, none⟩ (.int .i64 X.feed)).setCell ⟨g, m * 2 + 1, none⟩ (.int .i64 X.msg)).drew (some g) := grown_drewN (grown_cell (grown_cell (grown_cell (grown_cell hg _) _) _) _) 1
    clear a0 a1 b0 b1 fa0 fa1 fb0 fb1 hz hg hR
    generalize ((((wo.setCell ⟨g, k * 2, none⟩ (.int .i64 Y.feed)).setCell ⟨g, k * 2 + 1, none⟩ (.int .i64 Y.msg)).setCell ⟨g, m * 2, none⟩ (.int .i64 X.feed)).setCell ⟨g, m * 2 + 1, none⟩ (.int .i64 X.msg)).drew = wz at hR2 hg2 ⊢
    have HR2 := Lib.hid hR2
    clear hR2
    dsimp only [Exit.inBlock, Exit.then]
    go_wp2
    refine ⟨⟨k + 1, by go_num, ?_, by have := HMN.out; omega, Lib.hid (HR2.out.fn (fun t ht => ?_)), hg2⟩, by simp [intOf]; omega⟩
    · have h1 := HM.out
      congr 1
      omega
    · have h1 := HMN.out
      have h2 := HX.out
      have h3 := HY.out
      rw [← h2, ← h3]
      unfold revF
      by_cases e1 : t = m
      · subst e1
        rw [if_pos rfl, if_neg (by omega), if_pos (by omega)]
        congr 1
        omega
      · rw [if_neg e1]
        by_cases e2 : t = k
        · subst e2
          rw [if_pos rfl, if_neg (by omega), if_pos (by omega)]
          congr 1
          omega
        · rw [if_neg e2]
          by_cases e3 : t < k ∨ n - 1 - k < t
          · rw [if_pos e3, if_pos (by omega)]
          · rw [if_neg e3, if_neg (by omega)]
end Go.Proofs.Ytancngachnpefaa
namespace Go.Proofs.Ytancngachnpefaa
open Go.RowKit Go.Shelf
def markD (r : Nat) : Deferred := { target := .collected r, args := #[] }
structure Gone (rs : List Nat) (w w' : World) : Prop where
  os : w'.os = w.os
  tape : w'.tape = w.tape
  output : w'.output = w.output
  size : w'.heap.size = w.heap.size
  block : ∀ k, k ∉ rs → w'.heap[k]? = w.heap[k]?
theorem Gone.refl (w : World) : Gone [] w w := ⟨rfl, rfl, rfl, rfl, fun _ _ => rfl⟩
theorem Gone.low {rs : List Nat} {w w' : World} (h : Gone rs w w') {n : Nat} (hn : ∀ r ∈ rs, n ≤ r) : Below n w w' :=
  ⟨h.os, h.tape, h.output, Nat.le_of_eq h.size.symm, fun k hk => h.block k (fun hm => by have := hn k hm; omega)⟩
theorem Gone.box {rs : List Nat} {w w' : World} (h : Gone rs w w') (hm : ∀ r ∈ rs, w.heap[r]? = some (.deferred (some []))) {b : Nat} {xs : List Value} (hx : Box w b xs) : Box w' b xs := by
  refine hx.same (h.block b (fun hb => ?_))
  have h1 := hm b hb
  obtain ⟨t, ht⟩ := hx
  rw [h1] at ht
  cases ht
theorem leaves_marks {F : Fence} {n : Nat} {P : Program} {fn : Func} {tmps : Array Value} {R : Ending → World → Prop} {u : FrameMode} (hu : u ≠ .run) : ∀ (rs : List Nat) (w : World), rs.Nodup → (∀ r ∈ rs, w.heap[r]? = some (.deferred (some []))) →
    (∀ w', Gone rs w w' → LeavesIn F n P fn tmps R [] u w') → LeavesInM F n P fn tmps R (rs.map markD) u w
  | [], w, _, _, h => h w (Gone.refl w)
  | r :: rs, w, hd, hm, h => by
    have h1 := hm r (List.mem_cons_self ..)
    obtain ⟨hr, hd2⟩ := List.nodup_cons.1 hd
    refine ⟨hu, .inl ⟨r, _, rfl, run_takeDeferred h1, leaves_marks hu rs _ hd2 (fun q hq => ?_) (fun w' hg => h w' ?_)⟩⟩
    · have hne : q ≠ r := fun e => hr (by rw [← e]; exact hq)
      exact (World.putObj_heap_other hne).trans (hm q (List.mem_cons_of_mem _ hq))
    · refine ⟨hg.os, hg.tape, hg.output, hg.size.trans (by simp), fun k hk => ?_⟩
      have hk1 : k ≠ r := fun e => hk (by rw [e]; exact List.mem_cons_self ..)
      have hk2 : k ∉ rs := fun e => hk (List.mem_cons_of_mem _ e)
      exact (hg.block k hk2).trans (World.putObj_heap_other hk1)
end Go.Proofs.Ytancngachnpefaa
namespace Go.Proofs.Ytancngachnpefaa
open Go.RowKit Go.Shelf
attribute [local go_sem] Oper.semAt_some
theorem bEsc_0 (p : Pl) (c : List Ln) (A2 : Option Addr) (m2 k2 : Nat) (w : World) (er : Int) (h : Hid (askT p c = er)) (h0 : Hid (er ≠ 0)) (hC : Hid (CodeAt w w.heap.size (.slice A2 m2 k2) c)) :
    Calls Try.prog 19 #[p.v, .agg #[.slice A2 m2 k2]] w fun e w' => e = .returned (.tuple #[.slice none 0 0, .bool false, .int .i64 er]) ∧ Below w.heap.size w w' := by
  have hd : (er != 0) = true := by simp [h0.out]
  refine calls_of_wp_marks Try.func19 rfl ?_
  simp only [Try.ntmps19, List.size_toArray, List.length_cons, List.length_nil, Nat.reduceAdd, Nat.reduceSub, Array.replicate_succ, Array.replicate_zero, List.push_toArray, List.append_toArray, List.nil_append, List.cons_append]
  go_wp2_with fail
  have hB := (((((Below.refl w.heap.size w).alloc (by simp <;> omega) (.cells #[.int .i64 p.top, .int .i64 p.bank, .int .i64 p.siphon, .int .i64 p.start, .int .i64 p.positions, .int .i64 p.rate, .int .i64 p.step, .int .i64 p.pass, .int .i64 p.feed, .int .i64 p.pipe, .int .i64 p.orders, .int .i64 p.age] 23)).alloc (by simp <;> omega) (.cells #[.slice A2 m2 k2] 26)).alloc (by simp <;> omega) (.cells #[.slice none 0 0] 47)).alloc (by simp <;> omega) (.cells #[.bool false] 4)).alloc (by simp <;> omega) (.cells #[.int .i64 0] 33)
  have X2 := ((((Box.newAt (w := w) (n := w.heap.size) [.int .i64 p.top, .int .i64 p.bank, .int .i64 p.siphon, .int .i64 p.start, .int .i64 p.positions, .int .i64 p.rate, .int .i64 p.step, .int .i64 p.pass, .int .i64 p.feed, .int .i64 p.pipe, .int .i64 p.orders, .int .i64 p.age] 23 (by simp)).alloc (.cells #[.slice A2 m2 k2] 26)).alloc (.cells #[.slice none 0 0] 47)).alloc (.cells #[.bool false] 4)).alloc (.cells #[.int .i64 0] 33)
  have X3 := (((Box.newAt (w := (w.alloc (.cells #[.int .i64 p.top, .int .i64 p.bank, .int .i64 p.siphon, .int .i64 p.start, .int .i64 p.positions, .int .i64 p.rate, .int .i64 p.step, .int .i64 p.pass, .int .i64 p.feed, .int .i64 p.pipe, .int .i64 p.orders, .int .i64 p.age] 23))) (n := w.heap.size + 1) [.slice A2 m2 k2] 26 (by simp)).alloc (.cells #[.slice none 0 0] 47)).alloc (.cells #[.bool false] 4)).alloc (.cells #[.int .i64 0] 33)
  have X4 := ((Box.newAt (w := ((w.alloc (.cells #[.int .i64 p.top, .int .i64 p.bank, .int .i64 p.siphon, .int .i64 p.start, .int .i64 p.positions, .int .i64 p.rate, .int .i64 p.step, .int .i64 p.pass, .int .i64 p.feed, .int .i64 p.pipe, .int .i64 p.orders, .int .i64 p.age] 23)).alloc (.cells #[.slice A2 m2 k2] 26))) (n := w.heap.size + 1 + 1) [.slice none 0 0] 47 (by simp)).alloc (.cells #[.bool false] 4)).alloc (.cells #[.int .i64 0] 33)
  have X5 := (Box.newAt (w := (((w.alloc (.cells #[.int .i64 p.top, .int .i64 p.bank, .int .i64 p.siphon, .int .i64 p.start, .int .i64 p.positions, .int .i64 p.rate, .int .i64 p.step, .int .i64 p.pass, .int .i64 p.feed, .int .i64 p.pipe, .int .i64 p.orders, .int .i64 p.age] 23)).alloc (.cells #[.slice A2 m2 k2] 26)).alloc (.cells #[.slice none 0 0] 47))) (n := w.heap.size + 1 + 1 + 1) [.bool false] 4 (by simp)).alloc (.cells #[.int .i64 0] 33)
  have X6 := Box.newAt (w := ((((w.alloc (.cells #[.int .i64 p.top, .int .i64 p.bank, .int .i64 p.siphon, .int .i64 p.start, .int .i64 p.positions, .int .i64 p.rate, .int .i64 p.step, .int .i64 p.pass, .int .i64 p.feed, .int .i64 p.pipe, .int .i64 p.orders, .int .i64 p.age] 23)).alloc (.cells #[.slice A2 m2 k2] 26)).alloc (.cells #[.slice none 0 0] 47)).alloc (.cells #[.bool false] 4))) (n := w.heap.size + 1 + 1 + 1 + 1) [.int .i64 0] 33 (by simp)
  generalize (((((w.alloc (.cells #[.int .i64 p.top, .int .i64 p.bank, .int .i64 p.siphon, .int .i64 p.start, .int .i64 p.positions, .int .i64 p.rate, .int .i64 p.step, .int .i64 p.pass, .int .i64 p.feed, .int .i64 p.pipe, .int .i64 p.orders, .int .i64 p.age] 23)).alloc (.cells #[.slice A2 m2 k2] 26)).alloc (.cells #[.slice none 0 0] 47)).alloc (.cells #[.bool false] 4)).alloc (.cells #[.int .i64 0] 33)) = w0 at X2 X3 X4 X5 X6 hB ⊢
  refine (bOpen_bad h h0 (Lib.hid ((hC.out.below hB).more hB.size))).mono ?_
  rintro e w1 ⟨rfl, hb⟩
  replace X2 := X2.later hb
  replace X3 := X3.later hb
  replace X4 := X4.later hb
  replace X5 := X5.later hb
  replace X6 := X6.later hb
  replace hB := hB.trans (hb.mono hB.size)
  clear hb
  clear X2 X3
  simp only [Pl.zero0]
  have X6c0 : w1.cell? ⟨w.heap.size + 1 + 1 + 1 + 1, 0, none⟩ = some (.int .i64 0) := X6.cell 0
  have X6f0 : w1.frozen? ⟨w.heap.size + 1 + 1 + 1 + 1, 0, none⟩ = false := X6.free 0
  have X6z : w.heap.size + 1 + 1 + 1 + 1 < w1.heap.size := X6.lt
  go_upto_region 2 with fail
  clear X6c0 X6f0 X6z
  have hb := ((Below.refl w.heap.size w1).setCell (p := ⟨w.heap.size + 1 + 1 + 1 + 1, 0, none⟩) (by simp <;> omega) (.int .i64 er))
  replace hB := hB.trans hb
  clear hb
  replace X4 := X4.other (a := ⟨w.heap.size + 1 + 1 + 1 + 1, 0, none⟩) (by simp <;> omega) (.int .i64 er)
  replace X5 := X5.other (a := ⟨w.heap.size + 1 + 1 + 1 + 1, 0, none⟩) (by simp <;> omega) (.int .i64 er)
  replace X6 := X6.set 0 (.int .i64 er)
  simp only [List.set_cons_zero] at X6
  generalize w1.setCell ⟨w.heap.size + 1 + 1 + 1 + 1, 0, none⟩ (.int .i64 er) = wx at X4 X5 X6 hB ⊢
  have hb := (Below.refl wx.heap.size wx).alloc (Nat.le_refl _) (.cells #[.int .i64 0, .int .i64 0, .int .i64 0, .int .i64 0, .int .i64 0, .int .i64 0, .int .i64 0, .int .i64 0, .int .i64 0, .int .i64 0, .int .i64 0, .int .i64 0, .slice none 0 0] 83)
  replace X4 := X4.later hb
  replace X5 := X5.later hb
  replace X6 := X6.later hb
  replace hB := hB.trans (hb.mono hB.size)
  clear hb
  generalize wx.alloc (.cells #[.int .i64 0, .int .i64 0, .int .i64 0, .int .i64 0, .int .i64 0, .int .i64 0, .int .i64 0, .int .i64 0, .int .i64 0, .int .i64 0, .int .i64 0, .int .i64 0, .slice none 0 0] 83) = w2 at X4 X5 X6 hB ⊢
  have X4c0 : w2.cell? ⟨w.heap.size + 1 + 1, 0, none⟩ = some (.slice none 0 0) := X4.cell 0
  have X4f0 : w2.frozen? ⟨w.heap.size + 1 + 1, 0, none⟩ = false := X4.free 0
  have X4z : w.heap.size + 1 + 1 < w2.heap.size := X4.lt
  have X5c0 : w2.cell? ⟨w.heap.size + 1 + 1 + 1, 0, none⟩ = some (.bool false) := X5.cell 0
  have X5f0 : w2.frozen? ⟨w.heap.size + 1 + 1 + 1, 0, none⟩ = false := X5.free 0
  have X5z : w.heap.size + 1 + 1 + 1 < w2.heap.size := X5.lt
  have X6c0 : w2.cell? ⟨w.heap.size + 1 + 1 + 1 + 1, 0, none⟩ = some (.int .i64 er) := X6.cell 0
  have X6f0 : w2.frozen? ⟨w.heap.size + 1 + 1 + 1 + 1, 0, none⟩ = false := X6.free 0
  have X6z : w.heap.size + 1 + 1 + 1 + 1 < w2.heap.size := X6.lt
  go_upto_region 3 with fail
  go_region
  have Z4 : Box (((w2.setCell ⟨w.heap.size + 1 + 1, 0, none⟩ (.slice none 0 0)).setCell ⟨w.heap.size + 1 + 1 + 1, 0, none⟩ (.bool false)).setCell ⟨w.heap.size + 1 + 1 + 1 + 1, 0, none⟩ (.int .i64 er)).drew (w.heap.size + 1 + 1) [.slice none 0 0] := (((X4.set 0 (.slice none 0 0)).other (a := ⟨w.heap.size + 1 + 1 + 1, 0, none⟩) (by simp <;> omega) (.bool false)).other (a := ⟨w.heap.size + 1 + 1 + 1 + 1, 0, none⟩) (by simp <;> omega) (.int .i64 er)).drew
  have Z5 : Box (((w2.setCell ⟨w.heap.size + 1 + 1, 0, none⟩ (.slice none 0 0)).setCell ⟨w.heap.size + 1 + 1 + 1, 0, none⟩ (.bool false)).setCell ⟨w.heap.size + 1 + 1 + 1 + 1, 0, none⟩ (.int .i64 er)).drew (w.heap.size + 1 + 1 + 1) [.bool false] := (((X5.other (a := ⟨w.heap.size + 1 + 1, 0, none⟩) (by simp <;> omega) (.slice none 0 0)).set 0 (.bool false)).other (a := ⟨w.heap.size + 1 + 1 + 1 + 1, 0, none⟩) (by simp <;> omega) (.int .i64 er)).drew
  have Z6 : Box (((w2.setCell ⟨w.heap.size + 1 + 1, 0, none⟩ (.slice none 0 0)).setCell ⟨w.heap.size + 1 + 1 + 1, 0, none⟩ (.bool false)).setCell ⟨w.heap.size + 1 + 1 + 1 + 1, 0, none⟩ (.int .i64 er)).drew (w.heap.size + 1 + 1 + 1 + 1) [.int .i64 er] := (((X6.other (a := ⟨w.heap.size + 1 + 1, 0, none⟩) (by simp <;> omega) (.slice none 0 0)).other (a := ⟨w.heap.size + 1 + 1 + 1, 0, none⟩) (by simp <;> omega) (.bool false)).set 0 (.int .i64 er)).drew
  have hBz : Below w.heap.size w (((w2.setCell ⟨w.heap.size + 1 + 1, 0, none⟩ (.slice none 0 0)).setCell ⟨w.heap.size + 1 + 1 + 1, 0, none⟩ (.bool false)).setCell ⟨w.heap.size + 1 + 1 + 1 + 1, 0, none⟩ (.int .i64 er)).drew := (((hB.setCell (p := ⟨w.heap.size + 1 + 1, 0, none⟩) (by simp <;> omega) (.slice none 0 0)).setCell (p := ⟨w.heap.size + 1 + 1 + 1, 0, none⟩) (by simp <;> omega) (.bool false)).setCell (p := ⟨w.heap.size + 1 + 1 + 1 + 1, 0, none⟩) (by simp <;> omega) (.int .i64 er)).drew
  generalize (((w2.setCell ⟨w.heap.size + 1 + 1, 0, none⟩ (.slice none 0 0)).setCell ⟨w.heap.size + 1 + 1 + 1, 0, none⟩ (.bool false)).setCell ⟨w.heap.size + 1 + 1 + 1 + 1, 0, none⟩ (.int .i64 er)).drew = wz at Z4 Z5 Z6 hBz ⊢
  dsimp only [Exit.then]
  go_wp2
  have c4 : wz.cell? ⟨w.heap.size + 1 + 1, 0, none⟩ = some (.slice none 0 0) := Z4.cell 0
  have c5 : wz.cell? ⟨w.heap.size + 1 + 1 + 1, 0, none⟩ = some (.bool false) := Z5.cell 0
  have c6 : wz.cell? ⟨w.heap.size + 1 + 1 + 1 + 1, 0, none⟩ = some (.int .i64 er) := Z6.cell 0
  refine ⟨_, (by simp [results, Try.results19, go_sem, c4, c5, c6] : _ = Result.ok (Value.tuple #[.slice none 0 0, .bool false, .int .i64 er]) _), ?_⟩
  exact ⟨rfl, hBz⟩
theorem bEsc_1 (p : Pl) (c : List Ln) (A2 : Option Addr) (m2 k2 : Nat) (w : World) (h : Hid (askT p c = 0)) (b0 b1 b2 b3 b4 b5 be se : Int) (hbe : Hid (p.beginT = (⟨b0, b1, b2, b3, b4, b5⟩, be))) (hsf : Hid (p.safeT ⟨b0, b1, b2, b3, b4, b5⟩ = (false, se))) (hC : Hid (CodeAt w w.heap.size (.slice A2 m2 k2) c)) :
    Calls Try.prog 19 #[p.v, .agg #[.slice A2 m2 k2]] w fun e w' => e = .returned (.tuple #[.slice none 0 0, .bool true, .int .i64 0]) ∧ Below w.heap.size w w' := by
  refine calls_of_wp_marks Try.func19 rfl ?_
  simp only [Try.ntmps19, List.size_toArray, List.length_cons, List.length_nil, Nat.reduceAdd, Nat.reduceSub, Array.replicate_succ, Array.replicate_zero, List.push_toArray, List.append_toArray, List.nil_append, List.cons_append]
  go_wp2_with fail
  have hB := (((((Below.refl w.heap.size w).alloc (by simp <;> omega) (.cells #[.int .i64 p.top, .int .i64 p.bank, .int .i64 p.siphon, .int .i64 p.start, .int .i64 p.positions, .int .i64 p.rate, .int .i64 p.step, .int .i64 p.pass, .int .i64 p.feed, .int .i64 p.pipe, .int .i64 p.orders, .int .i64 p.age] 23)).alloc (by simp <;> omega) (.cells #[.slice A2 m2 k2] 26)).alloc (by simp <;> omega) (.cells #[.slice none 0 0] 47)).alloc (by simp <;> omega) (.cells #[.bool false] 4)).alloc (by simp <;> omega) (.cells #[.int .i64 0] 33)
  have X2 := ((((Box.newAt (w := w) (n := w.heap.size) [.int .i64 p.top, .int .i64 p.bank, .int .i64 p.siphon, .int .i64 p.start, .int .i64 p.positions, .int .i64 p.rate, .int .i64 p.step, .int .i64 p.pass, .int .i64 p.feed, .int .i64 p.pipe, .int .i64 p.orders, .int .i64 p.age] 23 (by simp)).alloc (.cells #[.slice A2 m2 k2] 26)).alloc (.cells #[.slice none 0 0] 47)).alloc (.cells #[.bool false] 4)).alloc (.cells #[.int .i64 0] 33)
  have X3 := (((Box.newAt (w := (w.alloc (.cells #[.int .i64 p.top, .int .i64 p.bank, .int .i64 p.siphon, .int .i64 p.start, .int .i64 p.positions, .int .i64 p.rate, .int .i64 p.step, .int .i64 p.pass, .int .i64 p.feed, .int .i64 p.pipe, .int .i64 p.orders, .int .i64 p.age] 23))) (n := w.heap.size + 1) [.slice A2 m2 k2] 26 (by simp)).alloc (.cells #[.slice none 0 0] 47)).alloc (.cells #[.bool false] 4)).alloc (.cells #[.int .i64 0] 33)
  have X4 := ((Box.newAt (w := ((w.alloc (.cells #[.int .i64 p.top, .int .i64 p.bank, .int .i64 p.siphon, .int .i64 p.start, .int .i64 p.positions, .int .i64 p.rate, .int .i64 p.step, .int .i64 p.pass, .int .i64 p.feed, .int .i64 p.pipe, .int .i64 p.orders, .int .i64 p.age] 23)).alloc (.cells #[.slice A2 m2 k2] 26))) (n := w.heap.size + 1 + 1) [.slice none 0 0] 47 (by simp)).alloc (.cells #[.bool false] 4)).alloc (.cells #[.int .i64 0] 33)
  have X5 := (Box.newAt (w := (((w.alloc (.cells #[.int .i64 p.top, .int .i64 p.bank, .int .i64 p.siphon, .int .i64 p.start, .int .i64 p.positions, .int .i64 p.rate, .int .i64 p.step, .int .i64 p.pass, .int .i64 p.feed, .int .i64 p.pipe, .int .i64 p.orders, .int .i64 p.age] 23)).alloc (.cells #[.slice A2 m2 k2] 26)).alloc (.cells #[.slice none 0 0] 47))) (n := w.heap.size + 1 + 1 + 1) [.bool false] 4 (by simp)).alloc (.cells #[.int .i64 0] 33)
  have X6 := Box.newAt (w := ((((w.alloc (.cells #[.int .i64 p.top, .int .i64 p.bank, .int .i64 p.siphon, .int .i64 p.start, .int .i64 p.positions, .int .i64 p.rate, .int .i64 p.step, .int .i64 p.pass, .int .i64 p.feed, .int .i64 p.pipe, .int .i64 p.orders, .int .i64 p.age] 23)).alloc (.cells #[.slice A2 m2 k2] 26)).alloc (.cells #[.slice none 0 0] 47)).alloc (.cells #[.bool false] 4))) (n := w.heap.size + 1 + 1 + 1 + 1) [.int .i64 0] 33 (by simp)
  generalize (((((w.alloc (.cells #[.int .i64 p.top, .int .i64 p.bank, .int .i64 p.siphon, .int .i64 p.start, .int .i64 p.positions, .int .i64 p.rate, .int .i64 p.step, .int .i64 p.pass, .int .i64 p.feed, .int .i64 p.pipe, .int .i64 p.orders, .int .i64 p.age] 23)).alloc (.cells #[.slice A2 m2 k2] 26)).alloc (.cells #[.slice none 0 0] 47)).alloc (.cells #[.bool false] 4)).alloc (.cells #[.int .i64 0] 33)) = w0 at X2 X3 X4 X5 X6 hB ⊢
  refine (bOpen_good p c _ _ (Lib.hid (ask_zero h.out).1) (Lib.hid (ask_zero h.out).2) (Lib.hid ((hC.out.below hB).more hB.size))).mono ?_
  rintro e w1 ⟨rfl, hb⟩
  replace X2 := X2.later hb
  replace X3 := X3.later hb
  replace X4 := X4.later hb
  replace X5 := X5.later hb
  replace X6 := X6.later hb
  replace hB := hB.trans (hb.mono hB.size)
  clear hb
  clear X3
  have X6c0 : w1.cell? ⟨w.heap.size + 1 + 1 + 1 + 1, 0, none⟩ = some (.int .i64 0) := X6.cell 0
  have X6f0 : w1.frozen? ⟨w.heap.size + 1 + 1 + 1 + 1, 0, none⟩ = false := X6.free 0
  have X6z : w.heap.size + 1 + 1 + 1 + 1 < w1.heap.size := X6.lt
  go_upto_region 2 with fail
  clear X6c0 X6f0 X6z
  have hb := ((Below.refl w.heap.size w1).setCell (p := ⟨w.heap.size + 1 + 1 + 1 + 1, 0, none⟩) (by simp <;> omega) (.int .i64 0))
  replace hB := hB.trans hb
  clear hb
  replace X2 := X2.other (a := ⟨w.heap.size + 1 + 1 + 1 + 1, 0, none⟩) (by simp <;> omega) (.int .i64 0)
  replace X4 := X4.other (a := ⟨w.heap.size + 1 + 1 + 1 + 1, 0, none⟩) (by simp <;> omega) (.int .i64 0)
  replace X5 := X5.other (a := ⟨w.heap.size + 1 + 1 + 1 + 1, 0, none⟩) (by simp <;> omega) (.int .i64 0)
  replace X6 := X6.set 0 (.int .i64 0)
  simp only [List.set_cons_zero] at X6
  have hG6 : w.heap.size + 1 + 1 + 1 + 1 < w1.heap.size := by simpa using X6.lt
  generalize hsz : w1.setCell ⟨w.heap.size + 1 + 1 + 1 + 1, 0, none⟩ (.int .i64 0) = wx at X2 X4 X5 X6 hB ⊢
  have hsz2 : wx.heap.size = w1.heap.size := by rw [← hsz]; simp
  clear hsz
  have hb := (Below.refl wx.heap.size wx).alloc (Nat.le_refl _) (.cells #[.int .i64 p.top, .int .i64 p.bank, .int .i64 p.siphon, .int .i64 p.start, .int .i64 p.positions, .int .i64 p.rate, .int .i64 p.step, .int .i64 p.pass, .int .i64 p.feed, .int .i64 p.pipe, .int .i64 p.orders, .int .i64 p.age, .slice A2 m2 k2] 83)
  have X7 := Box.newAt (w := wx) (n := w1.heap.size) [.int .i64 p.top, .int .i64 p.bank, .int .i64 p.siphon, .int .i64 p.start, .int .i64 p.positions, .int .i64 p.rate, .int .i64 p.step, .int .i64 p.pass, .int .i64 p.feed, .int .i64 p.pipe, .int .i64 p.orders, .int .i64 p.age, .slice A2 m2 k2] 83 hsz2.symm
  replace X2 := X2.later hb
  replace X4 := X4.later hb
  replace X5 := X5.later hb
  replace X6 := X6.later hb
  replace hB := hB.trans (hb.mono hB.size)
  clear hb
  generalize wx.alloc (.cells #[.int .i64 p.top, .int .i64 p.bank, .int .i64 p.siphon, .int .i64 p.start, .int .i64 p.positions, .int .i64 p.rate, .int .i64 p.step, .int .i64 p.pass, .int .i64 p.feed, .int .i64 p.pipe, .int .i64 p.orders, .int .i64 p.age, .slice A2 m2 k2] 83) = w2 at X2 X4 X5 X6 X7 hB ⊢
  clear hsz2
  generalize w1.heap.size = G at X7 hG6 ⊢
  have X6c0 : w2.cell? ⟨w.heap.size + 1 + 1 + 1 + 1, 0, none⟩ = some (.int .i64 0) := X6.cell 0
  have X6f0 : w2.frozen? ⟨w.heap.size + 1 + 1 + 1 + 1, 0, none⟩ = false := X6.free 0
  have X6z : w.heap.size + 1 + 1 + 1 + 1 < w2.heap.size := X6.lt
  obtain ⟨X2c0, X2f0, X2c1, X2f1, X2c2, X2f2, X2c3, X2f3, X2c4, X2f4, X2c5, X2f5, X2c6, X2f6, X2c7, X2f7, X2c8, X2f8, X2c9, X2f9, X2c10, X2f10, X2c11, X2f11⟩ := X2.f12
  have X2z : w.heap.size < w2.heap.size := X2.lt
  go_wp2_with fail
  clear X6c0 X6f0 X6z
  clear X2c0 X2f0 X2c1 X2f1 X2c2 X2f2 X2c3 X2f3 X2c4 X2f4 X2c5 X2f5 X2c6 X2f6 X2c7 X2f7 X2c8 X2f8 X2c9 X2f9 X2c10 X2f10 X2c11 X2f11 X2z
  refine (begin_is hbe).mono ?_
  rintro e w3 ⟨rfl, hb⟩
  replace X7 := X7.later hb
  replace X4 := X4.later hb
  replace X5 := X5.later hb
  replace X6 := X6.later hb
  replace hB := hB.trans (hb.mono hB.size)
  clear hb
  have hG7 : G < w3.heap.size := X7.lt
  go_upto_region 5 with fail
  have hb := (Below.refl w3.heap.size w3).alloc (Nat.le_refl _) (.cells #[.int .i64 b0, .int .i64 b1, .int .i64 b2, .int .i64 b3, .int .i64 b4, .int .i64 b5] 30)
  have X8 := Box.new w3 [.int .i64 b0, .int .i64 b1, .int .i64 b2, .int .i64 b3, .int .i64 b4, .int .i64 b5] 30
  replace X7 := X7.later hb
  replace X4 := X4.later hb
  replace X5 := X5.later hb
  replace X6 := X6.later hb
  replace hB := hB.trans (hb.mono hB.size)
  clear hb
  generalize w3.alloc (.cells #[.int .i64 b0, .int .i64 b1, .int .i64 b2, .int .i64 b3, .int .i64 b4, .int .i64 b5] 30) = w4 at X4 X5 X6 X7 X8 hB ⊢
  generalize w3.heap.size = B8 at X8 hG7 ⊢
  have X7c0 : w4.cell? ⟨G, 0, none⟩ = some (.int .i64 p.top) := X7.cell 0
  have X7c1 : w4.cell? ⟨G, 1, none⟩ = some (.int .i64 p.bank) := X7.cell 1
  have X7c2 : w4.cell? ⟨G, 2, none⟩ = some (.int .i64 p.siphon) := X7.cell 2
  have X7c3 : w4.cell? ⟨G, 3, none⟩ = some (.int .i64 p.start) := X7.cell 3
  have X7c4 : w4.cell? ⟨G, 4, none⟩ = some (.int .i64 p.positions) := X7.cell 4
  have X7c5 : w4.cell? ⟨G, 5, none⟩ = some (.int .i64 p.rate) := X7.cell 5
  have X7c6 : w4.cell? ⟨G, 6, none⟩ = some (.int .i64 p.step) := X7.cell 6
  have X7c7 : w4.cell? ⟨G, 7, none⟩ = some (.int .i64 p.pass) := X7.cell 7
  have X7c8 : w4.cell? ⟨G, 8, none⟩ = some (.int .i64 p.feed) := X7.cell 8
  have X7c9 : w4.cell? ⟨G, 9, none⟩ = some (.int .i64 p.pipe) := X7.cell 9
  have X7c10 : w4.cell? ⟨G, 10, none⟩ = some (.int .i64 p.orders) := X7.cell 10
  have X7c11 : w4.cell? ⟨G, 11, none⟩ = some (.int .i64 p.age) := X7.cell 11
  have X7c12 : w4.cell? ⟨G, 12, none⟩ = some (.slice A2 m2 k2) := X7.cell 12
  obtain ⟨X8c0, X8c1, X8c2, X8c3, X8c4, X8c5⟩ := X8.c6
  have z7 := X7.lt
  have z8 := X8.lt
  go_wp2_with fail
  clear z7 z8 X7c0 X7c1 X7c2 X7c3 X7c4 X7c5 X7c6 X7c7 X7c8 X7c9 X7c10 X7c11 X7c12 X8c0 X8c1 X8c2 X8c3 X8c4 X8c5
  refine (bSafe_is (p := p) (V := .slice A2 m2 k2) (s := ⟨b0, b1, b2, b3, b4, b5⟩) hsf).mono ?_
  rintro e w5 ⟨rfl, hb⟩
  replace X7 := X7.later hb
  replace X8 := X8.later hb
  replace X4 := X4.later hb
  replace X5 := X5.later hb
  replace X6 := X6.later hb
  replace hB := hB.trans (hb.mono hB.size)
  clear hb
  have X4c0 : w5.cell? ⟨w.heap.size + 1 + 1, 0, none⟩ = some (.slice none 0 0) := X4.cell 0
  have X4f0 : w5.frozen? ⟨w.heap.size + 1 + 1, 0, none⟩ = false := X4.free 0
  have X4z : w.heap.size + 1 + 1 < w5.heap.size := X4.lt
  have X5c0 : w5.cell? ⟨w.heap.size + 1 + 1 + 1, 0, none⟩ = some (.bool false) := X5.cell 0
  have X5f0 : w5.frozen? ⟨w.heap.size + 1 + 1 + 1, 0, none⟩ = false := X5.free 0
  have X5z : w.heap.size + 1 + 1 + 1 < w5.heap.size := X5.lt
  have X6c0 : w5.cell? ⟨w.heap.size + 1 + 1 + 1 + 1, 0, none⟩ = some (.int .i64 0) := X6.cell 0
  have X6f0 : w5.frozen? ⟨w.heap.size + 1 + 1 + 1 + 1, 0, none⟩ = false := X6.free 0
  have X6z : w.heap.size + 1 + 1 + 1 + 1 < w5.heap.size := X6.lt
  go_wp2_with fail
  have Z4 : Box (((w5.setCell ⟨w.heap.size + 1 + 1, 0, none⟩ (.slice none 0 0)).setCell ⟨w.heap.size + 1 + 1 + 1, 0, none⟩ (.bool true)).setCell ⟨w.heap.size + 1 + 1 + 1 + 1, 0, none⟩ (.int .i64 0)) (w.heap.size + 1 + 1) [.slice none 0 0] := (((X4.set 0 (.slice none 0 0)).other (a := ⟨w.heap.size + 1 + 1 + 1, 0, none⟩) (by simp <;> omega) (.bool true)).other (a := ⟨w.heap.size + 1 + 1 + 1 + 1, 0, none⟩) (by simp <;> omega) (.int .i64 0))
  have Z5 : Box (((w5.setCell ⟨w.heap.size + 1 + 1, 0, none⟩ (.slice none 0 0)).setCell ⟨w.heap.size + 1 + 1 + 1, 0, none⟩ (.bool true)).setCell ⟨w.heap.size + 1 + 1 + 1 + 1, 0, none⟩ (.int .i64 0)) (w.heap.size + 1 + 1 + 1) [.bool true] := (((X5.other (a := ⟨w.heap.size + 1 + 1, 0, none⟩) (by simp <;> omega) (.slice none 0 0)).set 0 (.bool true)).other (a := ⟨w.heap.size + 1 + 1 + 1 + 1, 0, none⟩) (by simp <;> omega) (.int .i64 0))
  have Z6 : Box (((w5.setCell ⟨w.heap.size + 1 + 1, 0, none⟩ (.slice none 0 0)).setCell ⟨w.heap.size + 1 + 1 + 1, 0, none⟩ (.bool true)).setCell ⟨w.heap.size + 1 + 1 + 1 + 1, 0, none⟩ (.int .i64 0)) (w.heap.size + 1 + 1 + 1 + 1) [.int .i64 0] := (((X6.other (a := ⟨w.heap.size + 1 + 1, 0, none⟩) (by simp <;> omega) (.slice none 0 0)).other (a := ⟨w.heap.size + 1 + 1 + 1, 0, none⟩) (by simp <;> omega) (.bool true)).set 0 (.int .i64 0))
  have hBz : Below w.heap.size w (((w5.setCell ⟨w.heap.size + 1 + 1, 0, none⟩ (.slice none 0 0)).setCell ⟨w.heap.size + 1 + 1 + 1, 0, none⟩ (.bool true)).setCell ⟨w.heap.size + 1 + 1 + 1 + 1, 0, none⟩ (.int .i64 0)) := (((hB.setCell (p := ⟨w.heap.size + 1 + 1, 0, none⟩) (by simp <;> omega) (.slice none 0 0)).setCell (p := ⟨w.heap.size + 1 + 1 + 1, 0, none⟩) (by simp <;> omega) (.bool true)).setCell (p := ⟨w.heap.size + 1 + 1 + 1 + 1, 0, none⟩) (by simp <;> omega) (.int .i64 0))
  generalize (((w5.setCell ⟨w.heap.size + 1 + 1, 0, none⟩ (.slice none 0 0)).setCell ⟨w.heap.size + 1 + 1 + 1, 0, none⟩ (.bool true)).setCell ⟨w.heap.size + 1 + 1 + 1 + 1, 0, none⟩ (.int .i64 0)) = wz at Z4 Z5 Z6 hBz ⊢
  have c4 : wz.cell? ⟨w.heap.size + 1 + 1, 0, none⟩ = some (.slice none 0 0) := Z4.cell 0
  have c5 : wz.cell? ⟨w.heap.size + 1 + 1 + 1, 0, none⟩ = some (.bool true) := Z5.cell 0
  have c6 : wz.cell? ⟨w.heap.size + 1 + 1 + 1 + 1, 0, none⟩ = some (.int .i64 0) := Z6.cell 0
  refine ⟨_, (by simp [results, Try.results19, go_sem, c4, c5, c6] : _ = Result.ok (Value.tuple #[.slice none 0 0, .bool true, .int .i64 0]) _), ?_⟩
  exact ⟨rfl, hBz⟩
end Go.Proofs.Ytancngachnpefaa
namespace Go.Proofs.Ytancngachnpefaa
open Go.RowKit Go.Shelf
abbrev wayZ : Value := .agg #[.int .i64 0, .int .i64 0, .int .i64 0, .int .i64 0, .int .i64 0, .int .i64 0, .int .i64 0, .int .i64 0]
abbrev CamM (w : World) (B : Nat) (came : St → Option Wy) : Prop := MapS w B (fun y => (came y).map Wy.v)
theorem cam_upd {came : St → Option Wy} (y : St) (x : Wy) : updS (fun z => (came z).map Wy.v) y x.v = fun z => (updS came y x z).map Wy.v := by
  funext z
  unfold updS
  split
  · rfl
  · rfl
theorem zero_way (w : World) : (zeroValue 104).run Try.prog w = .ok wayZ w := by kernel_rfl
theorem cam_none (w : World) : CamM (w.alloc (.map #[] 0)) w.heap.size (fun _ => none) := MapS.made w
theorem cam_look {w : World} {B : Nat} {came : St → Option Wy} {y : St} (h : CamM w B came) (hy : y.Wide) : (Instr.lookup 105 (.map (some B)) y.v false).run Try.prog w = .ok (((came y).map Wy.v).getD wayZ) w :=
  h.look Try.underlying105 (zero_way w) hy
theorem cam_look2 {w : World} {B : Nat} {came : St → Option Wy} {y : St} (h : CamM w B came) (hy : y.Wide) : (Instr.lookup 105 (.map (some B)) y.v true).run Try.prog w = .ok (.tuple #[((came y).map Wy.v).getD wayZ, .bool (came y).isSome]) w := by
  have := h.look2 Try.underlying105 (zero_way w) hy
  rw [Option.isSome_map] at this
  exact this
theorem cam_put {w : World} {B : Nat} {came : St → Option Wy} {y : St} (h : CamM w B came) (hy : y.Wide) (x : Wy) :
    ∃ w', (Instr.mapUpdate 105 (.map (some B)) y.v x.v).run Try.prog w = .ok () w' ∧ CamM w' B (updS came y x) ∧ w.grownBy w' (some B) ∧ w'.heap.size = w.heap.size := by
  obtain ⟨w', h1, h2, h3, h4⟩ := h.put Try.underlying105 hy x.v
  rw [cam_upd] at h2
  exact ⟨w', h1, h2, h3, h4⟩
end Go.Proofs.Ytancngachnpefaa
namespace Go.Proofs.Ytancngachnpefaa
open Go.RowKit
theorem ownSt_cells {w : World} {base n c : Nat} {A : Option Addr} {l : List St} (h : OwnSt w base (.slice A n c) l) {k : Nat} (hk : k < l.length) :
    ∃ g, A = some ⟨g, 0, none⟩ ∧ base ≤ g ∧ g < w.heap.size ∧ w.cell? ⟨g, k * 6, none⟩ = some (.int .i64 (l[k]).level) ∧ w.cell? ⟨g, k * 6 + 1, none⟩ = some (.int .i64 (l[k]).position) ∧ w.cell? ⟨g, k * 6 + 2, none⟩ = some (.int .i64 (l[k]).p0) ∧ w.cell? ⟨g, k * 6 + 3, none⟩ = some (.int .i64 (l[k]).p1) ∧ w.cell? ⟨g, k * 6 + 4, none⟩ = some (.int .i64 (l[k]).order) ∧ w.cell? ⟨g, k * 6 + 5, none⟩ = some (.int .i64 (l[k]).age) := by
  obtain ⟨A', c', e, h1⟩ := h.sl (fun _ => rfl)
  cases e
  obtain ⟨g, rfl, hb, hg, h2⟩ := h1 k hk
  exact ⟨g, rfl, hb, hg, h2 0 (by omega), h2 1 (by omega), h2 2 (by omega), h2 3 (by omega), h2 4 (by omega), h2 5 (by omega)⟩
theorem ownSh_cells {w : World} {base n c : Nat} {A : Option Addr} {l : List Sh} (h : OwnSh w base (.slice A n c) l) {k : Nat} (hk : k < l.length) :
    ∃ g, A = some ⟨g, 0, none⟩ ∧ base ≤ g ∧ g < w.heap.size ∧ w.cell? ⟨g, k * 2, none⟩ = some (.int .i64 (l[k]).feed) ∧ w.cell? ⟨g, k * 2 + 1, none⟩ = some (.int .i64 (l[k]).msg) := by
  obtain ⟨A', c', e, h1⟩ := h.sl (fun _ => rfl)
  cases e
  obtain ⟨g, rfl, hb, hg, h2⟩ := h1 k hk
  exact ⟨g, rfl, hb, hg, h2 0 (by omega), h2 1 (by omega)⟩
theorem ownE_form {α : Type} {enc : α → List Value} {size : Nat} {w : World} {base e : Nat} {v : Value} {l : List α} (h : OwnE enc size w base e v l) (hs : ∀ x, (enc x).length = size) : ∃ A c, v = .slice A l.length c := by
  obtain ⟨A, c, e, _⟩ := h.sl hs
  exact ⟨A, c, e⟩
end Go.Proofs.Ytancngachnpefaa
namespace Go.Proofs.Ytancngachnpefaa
open Go.RowKit
theorem info_int : (Try.prog.info? 3).map (fun i => i.size) = some 1 := by kernel_rfl
theorem eq_pipe (d : Nat) (a b c e : Int) (w : World) : (Op.equalIn (d + 2) 28 (.agg #[.int .i64 a, .int .i64 b]) (.agg #[.int .i64 c, .int .i64 e])).run Try.prog w = .ok (decide (a = c) && decide (b = e)) w := by
  have hin := info_int
  cases hi : Try.prog.info? 3 with
  | none => rw [hi] at hin; cases hin
  | some i =>
    rw [run_equalIn_array w (d + 1) _ _ Try.underlying28 hi]
    have hc : Try.prog.cellsOf 3 = 1 := by kernel_rfl
    have hr : List.range 2 = [0, 1] := rfl
    rw [hc, hr]
    simp [Op.eqItems, part, go_sem]
    by_cases h1 : a = c <;> by_cases h2 : b = e <;> simp [h1, h2]
attribute [go_sem] eq_pipe
end Go.Proofs.Ytancngachnpefaa
