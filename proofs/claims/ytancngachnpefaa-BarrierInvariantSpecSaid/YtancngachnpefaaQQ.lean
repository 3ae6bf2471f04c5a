/- Contracts of the methods of plant.hour: hear, feed, set, pass. (Printed by gen_q.py.) -/
import Derived.Test.YtancngachnpefaaQK
import Derived.Test.YtancngachnpefaaQF
import Derived.Test.YtancngachnpefaaQP
import Derived.Lib.MinMax
import Derived.Deep.RegionLaw
import Derived.Laws.IdiomCopy
import Derived.Laws.Cover3
set_option linter.unusedVariables false
set_option linter.unusedSimpArgs false
set_option maxRecDepth 100000
set_option maxHeartbeats 2000000
namespace Go.Proofs.Ytancngachnpefaa
open Go.RowKit
structure Aside (b : Nat) (w w' : World) : Prop where
  os : w'.os = w.os
  tape : w'.tape = w.tape
  output : w'.output = w.output
  size : w.heap.size ≤ w'.heap.size
  block : ∀ k, k < w.heap.size → k ≠ b → w'.heap[k]? = w.heap[k]?
theorem Aside.refl (b : Nat) (w : World) : Aside b w w := ⟨rfl, rfl, rfl, Nat.le_refl _, fun _ _ _ => rfl⟩
theorem Aside.trans {b : Nat} {u v w : World} (h : Aside b u v) (k : Aside b v w) : Aside b u w :=
  ⟨k.os.trans h.os, k.tape.trans h.tape, k.output.trans h.output, Nat.le_trans h.size k.size, fun i hi hn => (k.block i (Nat.lt_of_lt_of_le hi h.size) hn).trans (h.block i hi hn)⟩
theorem Aside.of {b : Nat} {w w' : World} (h : Below w.heap.size w w') : Aside b w w' := ⟨h.os, h.tape, h.output, h.size, fun k hk _ => h.block k hk⟩
theorem Aside.set {b : Nat} {w w' : World} (h : Aside b w w') (i : Nat) (v : Value) : Aside b w (w'.setCell ⟨b, i, none⟩ v) :=
  ⟨h.os, h.tape, h.output, by show w.heap.size ≤ (w'.heap.modify _ _).size; simp; exact h.size, fun k hk hn => (Below.heap_setCell w' ⟨b, i, none⟩ v k hn).trans (h.block k hk hn)⟩
theorem Aside.setNew {b D : Nat} {w w' : World} (h : Aside b w w') (hD : w.heap.size ≤ D) (i : Nat) (v : Value) : Aside b w (w'.setCell ⟨D, i, none⟩ v) :=
  ⟨h.os, h.tape, h.output, by show w.heap.size ≤ (w'.heap.modify _ _).size; simp; exact h.size, fun k hk hn => (Below.heap_setCell w' ⟨D, i, none⟩ v k (by show k ≠ D; omega)).trans (h.block k hk hn)⟩
theorem Aside.drew {b : Nat} {w w' : World} (h : Aside b w w') : Aside b w w'.drew := ⟨h.os, h.tape, h.output, h.size, h.block⟩
theorem Aside.below {b : Nat} {w w' : World} (h : Aside b w w') {B : Nat} (hB : B ≤ b) (hb : b < w.heap.size) : Below B w w' := ⟨h.os, h.tape, h.output, h.size, fun k hk => h.block k (by omega) (by omega)⟩
theorem Box.aside {b c : Nat} {w w' : World} {xs : List Value} (hX : Box w c xs) (h : Aside b w w') (hn : c ≠ b) : Box w' c xs := hX.same (h.block c hX.lt hn)
abbrev hourL (p : Pl) (V : Value) (s : St) (x : Sh) (f o : Int) : List Value := [.int .i64 s.level, .int .i64 s.position, .int .i64 s.p0, .int .i64 s.p1, .int .i64 s.order, .int .i64 s.age, .int .i64 p.top, .int .i64 p.bank, .int .i64 p.siphon, .int .i64 p.start, .int .i64 p.positions, .int .i64 p.rate, .int .i64 p.step, .int .i64 p.pass, .int .i64 p.feed, .int .i64 p.pipe, .int .i64 p.orders, .int .i64 p.age, V, .int .i64 x.feed, .int .i64 x.msg, .int .i64 f, .int .i64 o]
theorem hear_yes (p : Pl) (V : Value) (s : St) (x : Sh) (f o : Int) (b : Nat) (w : World) (hX : Box w b (hourL p V s x f o)) (hm : 0 ≤ x.msg) :
    Calls Try.prog 57 #[.pointer (some ⟨b, 0, none⟩)] w fun e w' => e = .returned (.tuple #[]) ∧ Box w' b (hourL p V ⟨s.level, s.position, s.p0, s.p1, x.msg, 0⟩ x f o) ∧ Aside b w w' := by
  go_enter Try.func57, Try.ntmps57
  have c20 : w.cell? ⟨b, 20, none⟩ = some (.int .i64 x.msg) := hX.cell 20
  have c4 : w.cell? ⟨b, 4, none⟩ = some (.int .i64 s.order) := hX.cell 4
  have c5 : w.cell? ⟨b, 5, none⟩ = some (.int .i64 s.age) := hX.cell 5
  have f4 : w.frozen? ⟨b, 4, none⟩ = false := hX.free 4
  have f5 : w.frozen? ⟨b, 5, none⟩ = false := hX.free 5
  have z : b < w.heap.size := hX.lt
  go_wp2_with fail
  refine bodyPost_ret (results_none rfl _ _ _) rfl ?_
  exact ⟨rfl, (hX.set 4 _).set 5 _, ((Aside.refl b w).set 4 _).set 5 _⟩
theorem hear_no (p : Pl) (V : Value) (s : St) (x : Sh) (f o : Int) (b : Nat) (w : World) (hX : Box w b (hourL p V s x f o)) (hm : x.msg < 0) (ha : 0 ≤ s.age ∧ s.age ≤ 7) :
    Calls Try.prog 57 #[.pointer (some ⟨b, 0, none⟩)] w fun e w' => e = .returned (.tuple #[]) ∧ Box w' b (hourL p V ⟨s.level, s.position, s.p0, s.p1, s.order, min (s.age + 1) p.age⟩ x f o) ∧ Aside b w w' := by
  go_enter Try.func57, Try.ntmps57
  obtain ⟨_, _⟩ := ha
  have c20 : w.cell? ⟨b, 20, none⟩ = some (.int .i64 x.msg) := hX.cell 20
  have c17 : w.cell? ⟨b, 17, none⟩ = some (.int .i64 p.age) := hX.cell 17
  have c5 : w.cell? ⟨b, 5, none⟩ = some (.int .i64 s.age) := hX.cell 5
  have f5 : w.frozen? ⟨b, 5, none⟩ = false := hX.free 5
  have z : b < w.heap.size := hX.lt
  go_wp2_with fail
  go_region
  all_goals go_wp2
  all_goals go_end0
  all_goals exact ⟨rfl, hX.set 5 _, ((Aside.refl b w).set 5 _).drew⟩
theorem pass_any (p : Pl) (V : Value) (s : St) (x : Sh) (f o : Int) (b : Nat) (w : World) (hX : Box w b (hourL p V s x f o)) (_hl : 0 ≤ s.level ∧ s.level ≤ 63) (_hf : 0 ≤ f ∧ f ≤ 15) (_hp : 0 ≤ p.rate * s.position ∧ p.rate * s.position ≤ 225) :
    Calls Try.prog 60 #[.pointer (some ⟨b, 0, none⟩)] w fun e w' => e = .returned (.tuple #[]) ∧ Box w' b (hourL p V ⟨min p.top (s.level + f - min (s.level + f) (p.rate * s.position)), s.position, s.p0, s.p1, s.order, s.age⟩ x f (min (s.level + f) (p.rate * s.position))) ∧ Aside b w w' := by
  go_enter Try.func60, Try.ntmps60
  obtain ⟨_, _⟩ := _hl
  obtain ⟨_, _⟩ := _hf
  obtain ⟨_, _⟩ := _hp
  have c0 : w.cell? ⟨b, 0, none⟩ = some (.int .i64 s.level) := hX.cell 0
  have c21 : w.cell? ⟨b, 21, none⟩ = some (.int .i64 f) := hX.cell 21
  have c11 : w.cell? ⟨b, 11, none⟩ = some (.int .i64 p.rate) := hX.cell 11
  have c1 : w.cell? ⟨b, 1, none⟩ = some (.int .i64 s.position) := hX.cell 1
  have c22 : w.cell? ⟨b, 22, none⟩ = some (.int .i64 o) := hX.cell 22
  have c6 : w.cell? ⟨b, 6, none⟩ = some (.int .i64 p.top) := hX.cell 6
  have f0 : w.frozen? ⟨b, 0, none⟩ = false := hX.free 0
  have f22 : w.frozen? ⟨b, 22, none⟩ = false := hX.free 22
  have z : b < w.heap.size := hX.lt
  go_wp2_with fail
  go_region
  go_wp2
  go_region
  clear c0 c21 c11 c1 c22 c6 f0 f22 z
  have hX := hX.set 22 (.int .i64 (min (s.level + f) (p.rate * s.position)))
  have hA := ((Aside.refl b w).set 22 (.int .i64 (min (s.level + f) (p.rate * s.position)))).drew.drew
  replace hX := hX.drew.drew
  generalize (w.setCell ⟨b, 22, none⟩ (.int .i64 (min (s.level + f) (p.rate * s.position)))).drew.drew = W at hX hA ⊢
  have c6 : W.cell? ⟨b, 6, none⟩ = some (.int .i64 p.top) := hX.cell 6
  have c22 : W.cell? ⟨b, 22, none⟩ = some (.int .i64 (min (s.level + f) (p.rate * s.position))) := hX.cell 22
  have c0 : W.cell? ⟨b, 0, none⟩ = some (.int .i64 s.level) := hX.cell 0
  have f0 : W.frozen? ⟨b, 0, none⟩ = false := hX.free 0
  have z : b < W.heap.size := hX.lt
  go_wp2_with fail
  go_region
  go_wp2
  go_end0
  exact ⟨rfl, hX.set 0 _, (hA.set 0 _).drew⟩
theorem run_at {code : List Ln} {V : Value} {r : Vr} {w : World} {g : Int} {ok : Bool} (hR : Hid (runT code r = (g, ok, 0))) (hC : CodeAt w w.heap.size V code) :
    Calls Try.prog 72 #[.agg #[V], .agg #[.int .i64 r.v0, .int .i64 r.v1, .int .i64 r.v2, .int .i64 r.v3, .int .i64 r.v4]] w fun e w' => e = .returned (.tuple #[.int .i64 g, .bool ok, .int .i64 0]) ∧ Below w.heap.size w w' :=
  (run_any code V r w hC).mono fun _ _ ⟨he, hb⟩ => ⟨by rw [he, hR.out], hb⟩
theorem set_no (p : Pl) (V : Value) (s : St) (x : Sh) (f o : Int) (b : Nat) (w : World) (hX : Box w b (hourL p V s x f o)) (code : List Ln) (g : Int) (hC : Hid (CodeAt w w.heap.size V code)) (hR : Hid (runT code ⟨s.level, s.position, s.order, s.age, f⟩ = (g, false, 0))) (_hg : 0 ≤ g ∧ g ≤ 1099511627776) (_hp : 0 ≤ s.position ∧ s.position ≤ p.positions) (_hq : 1 ≤ p.positions ∧ p.positions ≤ 15) (_hs : 1 ≤ p.step ∧ p.step ≤ 15) :
    Calls Try.prog 59 #[.pointer (some ⟨b, 0, none⟩)] w fun e w' => e = .returned (.tuple #[]) ∧ Box w' b (hourL p V s x f o) ∧ Aside b w w' := by
  go_enter Try.func59, Try.ntmps59
  obtain ⟨_, _⟩ := _hg
  obtain ⟨_, _⟩ := _hp
  obtain ⟨_, _⟩ := _hq
  obtain ⟨_, _⟩ := _hs
  have l18 : ∀ y : Later w, y.w.cell? ⟨b, 18, none⟩ = some (V) := Later.cell (hX.cell 18) hX.lt
  have l0 : ∀ y : Later w, y.w.cell? ⟨b, 0, none⟩ = some (.int .i64 s.level) := Later.cell (hX.cell 0) hX.lt
  have l1 : ∀ y : Later w, y.w.cell? ⟨b, 1, none⟩ = some (.int .i64 s.position) := Later.cell (hX.cell 1) hX.lt
  have l4 : ∀ y : Later w, y.w.cell? ⟨b, 4, none⟩ = some (.int .i64 s.order) := Later.cell (hX.cell 4) hX.lt
  have l5 : ∀ y : Later w, y.w.cell? ⟨b, 5, none⟩ = some (.int .i64 s.age) := Later.cell (hX.cell 5) hX.lt
  have l21 : ∀ y : Later w, y.w.cell? ⟨b, 21, none⟩ = some (.int .i64 f) := Later.cell (hX.cell 21) hX.lt
  go_wp2_with fail
  refine wp_region_later (by kernel_rfl) (by kernel_rfl) ?_
  repeat (go_big_quiet_step ((go_at_call 72; exact Later.call _ (run_at (r := ⟨s.level, s.position, s.order, s.age, f⟩) hR (hC.out.later (Later.below _))))))
  refine wpQuiet_nil ?_
  intro _ hw'
  obtain ⟨yq, hw''⟩ := hw'
  subst hw''
  have hA := Aside.of (b := b) yq.below
  have hX := hX.later yq.below
  generalize yq.w = W at hX hA ⊢
  clear l18 l0 l1 l4 l5 l21 hC hR
  go_wp2
  refine bodyPost_ret (results_none rfl _ _ _) rfl ?_
  exact ⟨rfl, hX, hA⟩
theorem set_yes (p : Pl) (V : Value) (s : St) (x : Sh) (f o : Int) (b : Nat) (w : World) (hX : Box w b (hourL p V s x f o)) (code : List Ln) (g : Int) (hC : Hid (CodeAt w w.heap.size V code)) (hR : Hid (runT code ⟨s.level, s.position, s.order, s.age, f⟩ = (g, true, 0))) (_hg : 0 ≤ g ∧ g ≤ 1099511627776) (_hp : 0 ≤ s.position ∧ s.position ≤ p.positions) (_hq : 1 ≤ p.positions ∧ p.positions ≤ 15) (_hs : 1 ≤ p.step ∧ p.step ≤ 15) :
    Calls Try.prog 59 #[.pointer (some ⟨b, 0, none⟩)] w fun e w' => e = .returned (.tuple #[]) ∧ Box w' b (hourL p V ⟨s.level, s.position + max (-p.step) (min p.step (min g p.positions - s.position)), s.p0, s.p1, s.order, s.age⟩ x f o) ∧ Aside b w w' := by
  go_enter Try.func59, Try.ntmps59
  obtain ⟨_, _⟩ := _hg
  obtain ⟨_, _⟩ := _hp
  obtain ⟨_, _⟩ := _hq
  obtain ⟨_, _⟩ := _hs
  have l18 : ∀ y : Later w, y.w.cell? ⟨b, 18, none⟩ = some (V) := Later.cell (hX.cell 18) hX.lt
  have l0 : ∀ y : Later w, y.w.cell? ⟨b, 0, none⟩ = some (.int .i64 s.level) := Later.cell (hX.cell 0) hX.lt
  have l1 : ∀ y : Later w, y.w.cell? ⟨b, 1, none⟩ = some (.int .i64 s.position) := Later.cell (hX.cell 1) hX.lt
  have l4 : ∀ y : Later w, y.w.cell? ⟨b, 4, none⟩ = some (.int .i64 s.order) := Later.cell (hX.cell 4) hX.lt
  have l5 : ∀ y : Later w, y.w.cell? ⟨b, 5, none⟩ = some (.int .i64 s.age) := Later.cell (hX.cell 5) hX.lt
  have l21 : ∀ y : Later w, y.w.cell? ⟨b, 21, none⟩ = some (.int .i64 f) := Later.cell (hX.cell 21) hX.lt
  go_wp2_with fail
  refine wp_region_later (by kernel_rfl) (by kernel_rfl) ?_
  repeat (go_big_quiet_step ((go_at_call 72; exact Later.call _ (run_at (r := ⟨s.level, s.position, s.order, s.age, f⟩) hR (hC.out.later (Later.below _))))))
  refine wpQuiet_nil ?_
  intro _ hw'
  obtain ⟨yq, hw''⟩ := hw'
  subst hw''
  have hA := Aside.of (b := b) yq.below
  have hX := hX.later yq.below
  generalize yq.w = W at hX hA ⊢
  clear l18 l0 l1 l4 l5 l21 hC hR
  have c10 : W.cell? ⟨b, 10, none⟩ = some (.int .i64 p.positions) := hX.cell 10
  have c1 : W.cell? ⟨b, 1, none⟩ = some (.int .i64 s.position) := hX.cell 1
  have c12 : W.cell? ⟨b, 12, none⟩ = some (.int .i64 p.step) := hX.cell 12
  have f1 : W.frozen? ⟨b, 1, none⟩ = false := hX.free 1
  have z : b < W.heap.size := hX.lt
  go_wp2_with fail
  go_region
  go_wp2
  go_region
  go_wp2
  go_end0
  exact ⟨rfl, hX.set 1 _, (hA.set 1 _).drew.drew⟩
theorem step_copy_cells {P : Program} {w : World} {ops : Array Oper} {o : Oper} {a : Act} {K : Act → World → Prop} {Q : Exit → Act → World → Prop} {E : Prop}
    (hg : o.guard = none) (d x : Operand) (dT sT : TypeId) (hop : o.op = Op.call { callee := Callee.builtin Builtin.copy, args := #[d, x], argTypes := #[dT, sT] })
    (elem : TypeId) (hu : P.underlying dT = some (.slice elem)) (hs : (P.info? elem).map (·.size) = some 1)
    (b off dLen dCap : Nat) (hd : a.eval d = .slice (some ⟨b, off, none⟩) dLen dCap) (ad : Addr) (sLen sCap : Nat) (hx : a.eval x = .slice (some ad) sLen sCap) (cs : List Value) (hn : cs.length = Nat.min sLen dLen)
    (hsrc : ∀ j v, cs[j]? = some v → w.cell? (ad.add j) = some v) (hc : ∀ j, j < cs.length → (w.cell? ⟨b, off + j, none⟩).isSome = true) (hf : ∀ j, j < cs.length → w.frozen? ⟨b, off + j, none⟩ = false) (h1 : ∀ v ∈ cs, v.oneCell' = true)
    (hK : K (a.put o.dst (goInt cs.length)) (w.setCells b off cs)) :
    if Region.wanted o (yielded ops a.tmps) = true then Oper.wp P o a w K Q else E := by
  have hw : Region.wanted o (yielded ops a.tmps) = true := by simp [Region.wanted, hg]
  rw [if_pos hw]
  have hrun := run_copy_cells (P := P) w dT sT o.type elem b off dLen dCap ad sLen sCap cs hu hs hn hsrc hc hf h1
  unfold Oper.wp
  simp [execOp, hop, resolve, invoke, builtin, hd, hx, hrun, Result.andThen]
  exact hK
theorem Box.src2 {w : World} {b : Nat} {xs : List Value} (h : Box w b xs) (o : Nat) (u v : Value) (h0 : xs[o]? = some u) (h1 : xs[o + 1]? = some v) : ∀ j z, [u, v][j]? = some z → w.cell? ((⟨b, o, none⟩ : Addr).add j) = some z := by
  intro j z hz
  rcases j with _ | _ | j
  · cases hz; exact (h.cell o).trans h0
  · cases hz; exact (h.cell (o + 1)).trans h1
  · simp at hz
theorem Box.room {w : World} {b : Nat} {xs : List Value} (h : Box w b xs) (o n : Nat) (hn : o + n ≤ xs.length) : ∀ j, j < n → (w.cell? ⟨b, o + j, none⟩).isSome = true := fun j hj => by
  rw [h.cell, List.getElem?_eq_getElem (by omega)]; rfl
theorem feed_0 (p : Pl) (V : Value) (s : St) (x : Sh) (f o : Int) (b : Nat) (w : World) (hX : Box w b (hourL p V s x f o)) (hp : p.pipe = 0) :
    Calls Try.prog 58 #[.pointer (some ⟨b, 0, none⟩)] w fun e w' => e = .returned (.tuple #[]) ∧ Box w' b (hourL p V ⟨s.level, s.position, s.p1, 0, s.order, s.age⟩ x x.feed o) ∧ Aside b w w' := by
  go_enter Try.func58, Try.ntmps58
  go_wp2_with fail
  have c2 : w.cell? ⟨b, 2, none⟩ = some (.int .i64 s.p0) := hX.cell 2
  have c3 : w.cell? ⟨b, 3, none⟩ = some (.int .i64 s.p1) := hX.cell 3
  have c15 : w.cell? ⟨b, 15, none⟩ = some (.int .i64 p.pipe) := hX.cell 15
  have c19 : w.cell? ⟨b, 19, none⟩ = some (.int .i64 x.feed) := hX.cell 19
  have c21 : w.cell? ⟨b, 21, none⟩ = some (.int .i64 f) := hX.cell 21
  have f2 : w.frozen? ⟨b, 2, none⟩ = false := hX.free 2
  have f3 : w.frozen? ⟨b, 3, none⟩ = false := hX.free 3
  have f21 : w.frozen? ⟨b, 21, none⟩ = false := hX.free 21
  have z : b < w.heap.size := hX.lt
  have hX1 := (hX.alloc (.cells #[.int .i64 0, .int .i64 0, .int .i64 0] 111)).drew
  have hD := (Box.new w [.int .i64 0, .int .i64 0, .int .i64 0] 111).drew
  have hA := ((Aside.refl b w).trans (Aside.of ((Below.refl w.heap.size w).alloc (Nat.le_refl _) (.cells #[.int .i64 0, .int .i64 0, .int .i64 0] 111)))).drew
  have hne : b ≠ w.heap.size := by have := hX.lt; omega
  go_wp2_with fail
  go_region_law (refine step_copy_cells rfl (.tmp 4) (.tmp 9) 80 80 rfl 3 Try.underlying80 (by kernel_rfl) w.heap.size 0 3 3 (by simp [Act.eval, Act.put]) ⟨b, 2, none⟩ 2 2 (by simp [Act.eval, Act.put]) [.int .i64 s.p0, .int .i64 s.p1] rfl (hX1.src2 2 _ _ rfl rfl) (hD.room 0 2 (by simp)) (fun j _ => hD.free (0 + j)) (fun v hv => by simp at hv; rcases hv with rfl | rfl <;> rfl) ?_)
  have hX2 := (hX1.other (a := ⟨w.heap.size, 0, none⟩) hne (.int .i64 s.p0)).other (a := ⟨w.heap.size, 1, none⟩) hne (.int .i64 s.p1)
  have hD2 := (hD.set 0 (.int .i64 s.p0)).set 1 (.int .i64 s.p1)
  have hA2 := (hA.setNew (Nat.le_refl _) 0 (.int .i64 s.p0)).setNew (Nat.le_refl _) 1 (.int .i64 s.p1)
  have e : ∀ u v, ((w.alloc (.cells #[.int .i64 0, .int .i64 0, .int .i64 0] 111)).drew.setCells w.heap.size 0 [u, v]) = (((w.alloc (.cells #[.int .i64 0, .int .i64 0, .int .i64 0] 111)).drew.setCell ⟨w.heap.size, 0, none⟩ u).setCell ⟨w.heap.size, 1, none⟩ v) := fun _ _ => rfl
  rw [e]
  clear e
  generalize ((w.alloc (.cells #[.int .i64 0, .int .i64 0, .int .i64 0] 111)).drew.setCell ⟨w.heap.size, 0, none⟩ (.int .i64 s.p0)).setCell ⟨w.heap.size, 1, none⟩ (.int .i64 s.p1) = W1 at hX2 hD2 hA2 ⊢
  clear hX hX1 hD hA
  have hD3 := Nat.le_refl w.heap.size
  generalize hDD : w.heap.size = D at hX2 hD2 hne hD3 ⊢
  simp only [List.set_cons_zero, List.set_cons_succ] at hD2
  have c15 : W1.cell? ⟨b, 15, none⟩ = some (.int .i64 0) := by rw [← hp]; exact hX2.cell 15
  have c19 : W1.cell? ⟨b, 19, none⟩ = some (.int .i64 x.feed) := hX2.cell 19
  have c21 : W1.cell? ⟨b, 21, none⟩ = some (.int .i64 f) := hX2.cell 21
  have c2 : W1.cell? ⟨b, 2, none⟩ = some (.int .i64 s.p0) := hX2.cell 2
  have c3 : W1.cell? ⟨b, 3, none⟩ = some (.int .i64 s.p1) := hX2.cell 3
  have f2 : W1.frozen? ⟨b, 2, none⟩ = false := hX2.free 2
  have f3 : W1.frozen? ⟨b, 3, none⟩ = false := hX2.free 3
  have f21 : W1.frozen? ⟨b, 21, none⟩ = false := hX2.free 21
  have z := hX2.lt
  obtain ⟨d0, d1, d2⟩ := hD2.c3
  have df0 := hD2.free 0
  have df1 := hD2.free 1
  have df2 := hD2.free 2
  have dz := hD2.lt
  have hne' := hne.symm
  have hat : ∀ w, (Instr.arrayAt 28 (.slice (some ⟨D, 1, none⟩) 2 2)).run Try.prog w = .ok (.pointer (some ⟨D, 1, none⟩)) w := fun w => run_arrayAt w 28 _ 2 _ 2 2 Try.underlying28 (by decide)
  go_wp2_with fail
  go_region
  go_wp2
  go_end0
  exact ⟨rfl, (((hX2.other (a := ⟨D, 0, none⟩) hne _).set 21 _).set 2 _).set 3 _, ((((hA2.setNew (D := D) (by omega) 0 _).set 21 _).set 2 _).set 3 _).drew⟩
theorem feed_1 (p : Pl) (V : Value) (s : St) (x : Sh) (f o : Int) (b : Nat) (w : World) (hX : Box w b (hourL p V s x f o)) (hp : p.pipe = 1) :
    Calls Try.prog 58 #[.pointer (some ⟨b, 0, none⟩)] w fun e w' => e = .returned (.tuple #[]) ∧ Box w' b (hourL p V ⟨s.level, s.position, x.feed, 0, s.order, s.age⟩ x s.p0 o) ∧ Aside b w w' := by
  go_enter Try.func58, Try.ntmps58
  go_wp2_with fail
  have c2 : w.cell? ⟨b, 2, none⟩ = some (.int .i64 s.p0) := hX.cell 2
  have c3 : w.cell? ⟨b, 3, none⟩ = some (.int .i64 s.p1) := hX.cell 3
  have c15 : w.cell? ⟨b, 15, none⟩ = some (.int .i64 p.pipe) := hX.cell 15
  have c19 : w.cell? ⟨b, 19, none⟩ = some (.int .i64 x.feed) := hX.cell 19
  have c21 : w.cell? ⟨b, 21, none⟩ = some (.int .i64 f) := hX.cell 21
  have f2 : w.frozen? ⟨b, 2, none⟩ = false := hX.free 2
  have f3 : w.frozen? ⟨b, 3, none⟩ = false := hX.free 3
  have f21 : w.frozen? ⟨b, 21, none⟩ = false := hX.free 21
  have z : b < w.heap.size := hX.lt
  have hX1 := (hX.alloc (.cells #[.int .i64 0, .int .i64 0, .int .i64 0] 111)).drew
  have hD := (Box.new w [.int .i64 0, .int .i64 0, .int .i64 0] 111).drew
  have hA := ((Aside.refl b w).trans (Aside.of ((Below.refl w.heap.size w).alloc (Nat.le_refl _) (.cells #[.int .i64 0, .int .i64 0, .int .i64 0] 111)))).drew
  have hne : b ≠ w.heap.size := by have := hX.lt; omega
  go_wp2_with fail
  go_region_law (refine step_copy_cells rfl (.tmp 4) (.tmp 9) 80 80 rfl 3 Try.underlying80 (by kernel_rfl) w.heap.size 0 3 3 (by simp [Act.eval, Act.put]) ⟨b, 2, none⟩ 2 2 (by simp [Act.eval, Act.put]) [.int .i64 s.p0, .int .i64 s.p1] rfl (hX1.src2 2 _ _ rfl rfl) (hD.room 0 2 (by simp)) (fun j _ => hD.free (0 + j)) (fun v hv => by simp at hv; rcases hv with rfl | rfl <;> rfl) ?_)
  have hX2 := (hX1.other (a := ⟨w.heap.size, 0, none⟩) hne (.int .i64 s.p0)).other (a := ⟨w.heap.size, 1, none⟩) hne (.int .i64 s.p1)
  have hD2 := (hD.set 0 (.int .i64 s.p0)).set 1 (.int .i64 s.p1)
  have hA2 := (hA.setNew (Nat.le_refl _) 0 (.int .i64 s.p0)).setNew (Nat.le_refl _) 1 (.int .i64 s.p1)
  have e : ∀ u v, ((w.alloc (.cells #[.int .i64 0, .int .i64 0, .int .i64 0] 111)).drew.setCells w.heap.size 0 [u, v]) = (((w.alloc (.cells #[.int .i64 0, .int .i64 0, .int .i64 0] 111)).drew.setCell ⟨w.heap.size, 0, none⟩ u).setCell ⟨w.heap.size, 1, none⟩ v) := fun _ _ => rfl
  rw [e]
  clear e
  generalize ((w.alloc (.cells #[.int .i64 0, .int .i64 0, .int .i64 0] 111)).drew.setCell ⟨w.heap.size, 0, none⟩ (.int .i64 s.p0)).setCell ⟨w.heap.size, 1, none⟩ (.int .i64 s.p1) = W1 at hX2 hD2 hA2 ⊢
  clear hX hX1 hD hA
  have hD3 := Nat.le_refl w.heap.size
  generalize hDD : w.heap.size = D at hX2 hD2 hne hD3 ⊢
  simp only [List.set_cons_zero, List.set_cons_succ] at hD2
  have c15 : W1.cell? ⟨b, 15, none⟩ = some (.int .i64 1) := by rw [← hp]; exact hX2.cell 15
  have c19 : W1.cell? ⟨b, 19, none⟩ = some (.int .i64 x.feed) := hX2.cell 19
  have c21 : W1.cell? ⟨b, 21, none⟩ = some (.int .i64 f) := hX2.cell 21
  have c2 : W1.cell? ⟨b, 2, none⟩ = some (.int .i64 s.p0) := hX2.cell 2
  have c3 : W1.cell? ⟨b, 3, none⟩ = some (.int .i64 s.p1) := hX2.cell 3
  have f2 : W1.frozen? ⟨b, 2, none⟩ = false := hX2.free 2
  have f3 : W1.frozen? ⟨b, 3, none⟩ = false := hX2.free 3
  have f21 : W1.frozen? ⟨b, 21, none⟩ = false := hX2.free 21
  have z := hX2.lt
  obtain ⟨d0, d1, d2⟩ := hD2.c3
  have df0 := hD2.free 0
  have df1 := hD2.free 1
  have df2 := hD2.free 2
  have dz := hD2.lt
  have hne' := hne.symm
  have hat : ∀ w, (Instr.arrayAt 28 (.slice (some ⟨D, 1, none⟩) 2 2)).run Try.prog w = .ok (.pointer (some ⟨D, 1, none⟩)) w := fun w => run_arrayAt w 28 _ 2 _ 2 2 Try.underlying28 (by decide)
  go_wp2_with fail
  go_region
  go_wp2
  go_end0
  exact ⟨rfl, (((hX2.other (a := ⟨D, 1, none⟩) hne _).set 21 _).set 2 _).set 3 _, ((((hA2.setNew (D := D) (by omega) 1 _).set 21 _).set 2 _).set 3 _).drew⟩
theorem feed_2 (p : Pl) (V : Value) (s : St) (x : Sh) (f o : Int) (b : Nat) (w : World) (hX : Box w b (hourL p V s x f o)) (hp : p.pipe = 2) :
    Calls Try.prog 58 #[.pointer (some ⟨b, 0, none⟩)] w fun e w' => e = .returned (.tuple #[]) ∧ Box w' b (hourL p V ⟨s.level, s.position, s.p1, x.feed, s.order, s.age⟩ x s.p0 o) ∧ Aside b w w' := by
  go_enter Try.func58, Try.ntmps58
  go_wp2_with fail
  have c2 : w.cell? ⟨b, 2, none⟩ = some (.int .i64 s.p0) := hX.cell 2
  have c3 : w.cell? ⟨b, 3, none⟩ = some (.int .i64 s.p1) := hX.cell 3
  have c15 : w.cell? ⟨b, 15, none⟩ = some (.int .i64 p.pipe) := hX.cell 15
  have c19 : w.cell? ⟨b, 19, none⟩ = some (.int .i64 x.feed) := hX.cell 19
  have c21 : w.cell? ⟨b, 21, none⟩ = some (.int .i64 f) := hX.cell 21
  have f2 : w.frozen? ⟨b, 2, none⟩ = false := hX.free 2
  have f3 : w.frozen? ⟨b, 3, none⟩ = false := hX.free 3
  have f21 : w.frozen? ⟨b, 21, none⟩ = false := hX.free 21
  have z : b < w.heap.size := hX.lt
  have hX1 := (hX.alloc (.cells #[.int .i64 0, .int .i64 0, .int .i64 0] 111)).drew
  have hD := (Box.new w [.int .i64 0, .int .i64 0, .int .i64 0] 111).drew
  have hA := ((Aside.refl b w).trans (Aside.of ((Below.refl w.heap.size w).alloc (Nat.le_refl _) (.cells #[.int .i64 0, .int .i64 0, .int .i64 0] 111)))).drew
  have hne : b ≠ w.heap.size := by have := hX.lt; omega
  go_wp2_with fail
  go_region_law (refine step_copy_cells rfl (.tmp 4) (.tmp 9) 80 80 rfl 3 Try.underlying80 (by kernel_rfl) w.heap.size 0 3 3 (by simp [Act.eval, Act.put]) ⟨b, 2, none⟩ 2 2 (by simp [Act.eval, Act.put]) [.int .i64 s.p0, .int .i64 s.p1] rfl (hX1.src2 2 _ _ rfl rfl) (hD.room 0 2 (by simp)) (fun j _ => hD.free (0 + j)) (fun v hv => by simp at hv; rcases hv with rfl | rfl <;> rfl) ?_)
  have hX2 := (hX1.other (a := ⟨w.heap.size, 0, none⟩) hne (.int .i64 s.p0)).other (a := ⟨w.heap.size, 1, none⟩) hne (.int .i64 s.p1)
  have hD2 := (hD.set 0 (.int .i64 s.p0)).set 1 (.int .i64 s.p1)
  have hA2 := (hA.setNew (Nat.le_refl _) 0 (.int .i64 s.p0)).setNew (Nat.le_refl _) 1 (.int .i64 s.p1)
  have e : ∀ u v, ((w.alloc (.cells #[.int .i64 0, .int .i64 0, .int .i64 0] 111)).drew.setCells w.heap.size 0 [u, v]) = (((w.alloc (.cells #[.int .i64 0, .int .i64 0, .int .i64 0] 111)).drew.setCell ⟨w.heap.size, 0, none⟩ u).setCell ⟨w.heap.size, 1, none⟩ v) := fun _ _ => rfl
  rw [e]
  clear e
  generalize ((w.alloc (.cells #[.int .i64 0, .int .i64 0, .int .i64 0] 111)).drew.setCell ⟨w.heap.size, 0, none⟩ (.int .i64 s.p0)).setCell ⟨w.heap.size, 1, none⟩ (.int .i64 s.p1) = W1 at hX2 hD2 hA2 ⊢
  clear hX hX1 hD hA
  have hD3 := Nat.le_refl w.heap.size
  generalize hDD : w.heap.size = D at hX2 hD2 hne hD3 ⊢
  simp only [List.set_cons_zero, List.set_cons_succ] at hD2
  have c15 : W1.cell? ⟨b, 15, none⟩ = some (.int .i64 2) := by rw [← hp]; exact hX2.cell 15
  have c19 : W1.cell? ⟨b, 19, none⟩ = some (.int .i64 x.feed) := hX2.cell 19
  have c21 : W1.cell? ⟨b, 21, none⟩ = some (.int .i64 f) := hX2.cell 21
  have c2 : W1.cell? ⟨b, 2, none⟩ = some (.int .i64 s.p0) := hX2.cell 2
  have c3 : W1.cell? ⟨b, 3, none⟩ = some (.int .i64 s.p1) := hX2.cell 3
  have f2 : W1.frozen? ⟨b, 2, none⟩ = false := hX2.free 2
  have f3 : W1.frozen? ⟨b, 3, none⟩ = false := hX2.free 3
  have f21 : W1.frozen? ⟨b, 21, none⟩ = false := hX2.free 21
  have z := hX2.lt
  obtain ⟨d0, d1, d2⟩ := hD2.c3
  have df0 := hD2.free 0
  have df1 := hD2.free 1
  have df2 := hD2.free 2
  have dz := hD2.lt
  have hne' := hne.symm
  have hat : ∀ w, (Instr.arrayAt 28 (.slice (some ⟨D, 1, none⟩) 2 2)).run Try.prog w = .ok (.pointer (some ⟨D, 1, none⟩)) w := fun w => run_arrayAt w 28 _ 2 _ 2 2 Try.underlying28 (by decide)
  go_wp2_with fail
  go_region
  go_wp2
  go_end0
  exact ⟨rfl, (((hX2.other (a := ⟨D, 2, none⟩) hne _).set 21 _).set 2 _).set 3 _, ((((hA2.setNew (D := D) (by omega) 2 _).set 21 _).set 2 _).set 3 _).drew⟩
theorem hear_any (p : Pl) (V : Value) (s : St) (x : Sh) (f o : Int) (b : Nat) (w : World) (hX : Box w b (hourL p V s x f o)) (ha : 0 ≤ s.age ∧ s.age ≤ 7) :
    Calls Try.prog 57 #[.pointer (some ⟨b, 0, none⟩)] w fun e w' => e = .returned (.tuple #[]) ∧ Box w' b (hourL p V ⟨s.level, s.position, s.p0, s.p1, (heardT p s x).1, (heardT p s x).2⟩ x f o) ∧ Aside b w w' := by
  by_cases hm : 0 ≤ x.msg
  · rw [heardT, if_pos hm]; exact hear_yes p V s x f o b w hX hm
  · rw [heardT, if_neg hm]; exact hear_no p V s x f o b w hX (by omega) ha
theorem feed_any (p : Pl) (V : Value) (s : St) (x : Sh) (f o : Int) (b : Nat) (w : World) (hX : Box w b (hourL p V s x f o)) (hp : 0 ≤ p.pipe ∧ p.pipe ≤ 2) :
    Calls Try.prog 58 #[.pointer (some ⟨b, 0, none⟩)] w fun e w' => e = .returned (.tuple #[]) ∧ Box w' b (hourL p V ⟨s.level, s.position, (fedT p s x).2.1, (fedT p s x).2.2, s.order, s.age⟩ x (fedT p s x).1 o) ∧ Aside b w w' := by
  rcases (show p.pipe = 0 ∨ p.pipe = 1 ∨ p.pipe = 2 by omega) with h | h | h
  · rw [fedT, if_pos h]; exact feed_0 p V s x f o b w hX h
  · rw [fedT, if_neg (by omega), if_pos h]; exact feed_1 p V s x f o b w hX h
  · rw [fedT, if_neg (by omega), if_neg (by omega)]; exact feed_2 p V s x f o b w hX h
end Go.Proofs.Ytancngachnpefaa
